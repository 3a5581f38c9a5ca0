/- Part 6 of the proof of FnTight: what the program's functions and the reference's compute. -/
import Derived.Test.YtickdcegnlldjaaProg
import Derived.Below
import Derived.Deep.Draws
import Derived.Deep.AppendLies
import Derived.Maps.AppendAt
import Derived.OwnWalk
import Derived.Laws.BytesArg
import Derived.Laws.MakeOwn
import Derived.Laws.OwnMore
import Derived.Deep.OwnRows
import Derived.Tactics
import Derived.Lib.ConvBytes
import Derived.Laws.Slices
import Derived.WalkKit
import Derived.KernelRfl
import Derived.RowKit3
import Derived.Deep.LoopGhost
import Derived.Deep.QuietTactic
import Derived.BigQuiet
import Derived.WideLaws
import Derived.Deep.DeepCutAuto
import Derived.Deep.CutBlock
import Derived.Deep.RegionHeld3
import Derived.Laws.Rows
import Derived.Lib.AppendStr
import Derived.ArgAppend
import Derived.Laws.IdiomCopy
import Derived.OrdersHeld
import Derived.Laws.BitsLemmas
import Derived.RowKit
import Derived.Test.YtickdcegnlldjaaCPTIe
set_option linter.unusedSimpArgs false
set_option linter.unusedVariables false
open Bool renaming true → zt, false → zf
open List renaming setIfInBounds_toArray → yce, set_cons_zero → ycf, set_cons_succ → ycg, map_toArray → ych, map_cons → yci, map_nil → ycj, length_take → yck, length_drop → ycl, getD_eq_getElem?_getD → ycm
open Option renaming bind_eq_some_iff → ycn
open Nat renaming le_refl → yco
open Go.PW.PrintWords.Kd renaming R_alloc → ycp, R_drewN → ycq, R_drew → ycr, V_alloc → ycs, V_drewN → yct, V_drew → ycu, C_alloc → ycv, C_drewN → ycw, C_drew → ycx
namespace Go.Proofs.Ytickdcegnlldjaa.Hd
open Go.RowKit Go.PW.PrintWords Go.PW.PrintLast Go.PW.PrintMore Go.Proofs.Ytickdcegnlldjaa.PB
def RowV (W : World) (x : RowP) : Prop := ∃ A c, x.1 = .slice A x.2.length c ∧ x.2.length ≤ c ∧ (Kd.int .i64).C W A x.2.length x.2
theorem RowV.below {W W1 : World} {x : RowP} (h : RowV W x) (hb : Below W.heap.size W W1) : RowV W1 x := by
 obtain ⟨A, c, e, hl, hC⟩ := h
 exact ⟨A, c, e, hl, Kd.C_below hC hb⟩
theorem row_cell {W : World} {g : Nat} {t : TypeId} {ps : List RowP} {tl : List Value} (h : W.heap[g]? = some (.cells (ps.map Prod.fst ++ tl).toArray t (0, 0))) {i : Nat} {x : RowP} (hx : ps[i]? = some x) : W.cell? ⟨g, i, none⟩ = some x.1 := by
 have hl := (List.getElem?_eq_some_iff.1 hx).1
 rw [zat h, List.getElem?_toArray, List.getElem?_append_left (by simpa using hl), List.getElem?_map, hx]
 rfl
theorem equal_ev (a b : List Int) (ha : a.length ≤ 100) : Evs (fun k => PC.slices_Equal_int_int.f k a b) (decide (a = b)) := by
 have key : ∀ m i, i + m = a.length → a.length = b.length → a.take i = b.take i → Evs (fun k => PC.slices_Equal_int_int.l0 k a b (a.length : Int) (i : Int)) (decide (a = b)) := by
  intro m
  induction m with
  | zero =>
   intro i hi hl ht
   refine Evs.stepNeg (fun k => by conv => lhs; unfold PC.slices_Equal_int_int.l0) (by omega) ?_
   have : a = b := by
    rw [List.take_of_length_le (by omega), List.take_of_length_le (by omega)] at ht
    exact ht
   rw [decide_eq_true this]
   exact Evs.const _
  | succ m ih =>
   intro i hi hl ht
   refine Evs.stepPos (fun k => by conv => lhs; unfold PC.slices_Equal_int_int.l0) (by omega) (Evs.pos (by omega) (Evs.pos (by omega) (Evs.pos (by omega) ?_)))
   have ha' : a[i]? = some a[i] := List.getElem?_eq_getElem (by omega)
   have hb' : b[i]? = some b[i] := List.getElem?_eq_getElem (by omega)
   rw [rd_at ha', rd_at hb']
   by_cases e : a[i] = b[i]
   ·refine Evs.pos e ?_
    rw [zbr (by omega)]
    refine ih (i + 1) (by omega) hl ?_
    rw [List.take_add_one, List.take_add_one, ha', hb', ht, e]
   ·refine Evs.neg e ?_
    have : ¬ a = b := fun z => e (by subst z; rfl)
    rw [decide_eq_false this]
    exact Evs.const _
 by_cases hl : a.length = b.length
 ·refine Evs.congr (h := fun k => PC.slices_Equal_int_int.l0 k a b (a.length : Int) 0) (fun k => ?_) (key a.length 0 (by omega) hl rfl)
  unfold PC.slices_Equal_int_int.f
  rw [if_pos (by omega)]
 ·rw [decide_eq_false (fun z => hl (by rw [z]))]
  refine Evs.congr (h := fun _ => some false) (fun k => ?_) (Evs.const _)
  unfold PC.slices_Equal_int_int.f
  rw [if_neg (by omega)]
theorem set_list {w : World} {g : Nat} {t : TypeId} {vs : List Value} (h : w.heap[g]? = some (.cells vs.toArray t (0, 0))) (i : Nat) (v : Value) : (w.setCell ⟨g, i, none⟩ v).heap[g]? = some (.cells (vs.set i v).toArray t (0, 0)) := by
 simp only [World.setCell, Array.getElem?_modify, if_true, h, Option.map_some]
 simp
theorem sets_list {g : Nat} {t : TypeId} : ∀ (us : List Value) (o : Nat) (w : World) (vs : List Value), w.heap[g]? = some (.cells vs.toArray t (0, 0)) → o + us.length ≤ vs.length → (w.setCells g o us).heap[g]? = some (.cells (vs.take o ++ us ++ vs.drop (o + us.length)).toArray t (0, 0))
 | [], o, w, vs, h, _ => by
  rw [List.append_nil, List.length_nil, Nat.add_zero, List.take_append_drop]
  exact h
 | v :: r, o, w, vs, h, hl => by
  rw [List.length_cons] at hl
  have := sets_list r (o + 1) (w.setCell ⟨g, o, none⟩ v) (vs.set o v) (set_list h o v) (by rw [List.length_set]; omega)
  rw [World.setCells, this]
  congr 2
  apply congrArg
  have e1 : (vs.set o v).take (o + 1) = vs.take o ++ [v] := by
   rw [List.take_add_one, List.getElem?_set_self (by omega), List.take_set_of_le (yco o)]
   rfl
  have e2 : (vs.set o v).drop (o + 1 + r.length) = vs.drop (o + (r.length + 1)) := by
   rw [List.drop_set_of_lt (by omega), show o + 1 + r.length = o + (r.length + 1) by omega]
  rw [e1, e2, List.length_cons]
  simp
theorem below_setsG {w : World} {g : Nat} (hg : w.heap.size ≤ g) : ∀ (vs : List Value) (o : Nat) (W : World), Below w.heap.size w W → Below w.heap.size w (W.setCells g o vs)
 | [], _, _, h => h
 | v :: r, o, W, h => below_setsG hg r (o + 1) _ (zan h hg)
def CompRes (w0 : World) (ps : List RowP) (g c : Nat) (e : Ending) (w' : World) : Prop :=
 ∃ vs, e = .returned (.slice (some ⟨g, 0, none⟩) (foldG ps).length c) ∧ w'.heap[g]? = some (.cells ((foldG ps).map Prod.fst ++ vs).toArray 24 (0, 0)) ∧ Below w0.heap.size w0 w'
set_option maxHeartbeats 4000000 in
set_option maxRecDepth 100000 in
theorem compactF_calls (w0 : World) (ps : List RowP) (g : Nat) (tl : List Value) (w : World) (hB : Below w0.heap.size w0 w) (hg : w0.heap.size ≤ g) (hrows : ∀ x ∈ ps, RowV w0 x ∧ x.2.length ≤ 6) (hh : w.heap[g]? = some (.cells (ps.map Prod.fst ++ tl).toArray 24 (0, 0))) (h6 : ps.length ≤ 6) (h1 : 1 ≤ ps.length) (hc : ps.length + tl.length ≤ maxLen) :
  Calls Try.prog 70 #[.slice (some ⟨g, 0, none⟩) ps.length (ps.length + tl.length), .func (.func 72) #[] #[]] w (CompRes w0 ps g (ps.length + tl.length)) := by
 have HB := zaa.mk hB
 have HG := zaa.mk hg
 have HR := zaa.mk hrows
 have HH := zaa.mk hh
 unfold maxLen at hc
 clear hB hg hrows hh
 generalize hcc : ps.length + tl.length = cc at *
 have hle : ps.length ≤ cc := by omega
 have HCc := zaa.mk hcc
 clear hcc
 by_cases hn : ps.length < 2
 ·have hnl : (ps.length : Int) < 2 := by omega
  go_enter Try.func70, Try.ntmps70
  go_wp2
  go_ret
  have e : foldG ps = ps := by
   have : ps.length = 1 := by omega
   have h := foldG_one (List.getElem?_eq_getElem (show 0 < ps.length by omega))
   rwa [List.take_of_length_le (by omega)] at h
  show CompRes w0 ps g cc _ _
  unfold CompRes
  rw [e]
  exact ⟨tl, rfl, HH.out, HB.out⟩
 ·have hnl : ¬ (ps.length : Int) < 2 := by omega
  go_enter Try.func70, Try.ntmps70
  go_wp2
  have HF1 := zaa.mk (foldG_one (List.getElem?_eq_getElem (show 0 < ps.length by omega)))
  go_loopg [5] ps.length (fun kq v5 w' => ∃ k : Nat, v5 = .int .i64 (k : Int) ∧ zaa (k + kq = ps.length + 1) ∧ zaa (1 ≤ k) ∧ zaa (k ≤ ps.length) ∧ zaa (foldG (ps.take k) = ps.take k) ∧ zaa (w'.heap[g]? = some (.cells (ps.map Prod.fst ++ tl).toArray 24 (0, 0))) ∧ zaa (Below w0.heap.size w0 w'))
  case atStart => exact ⟨1, rfl, ⟨by omega⟩, ⟨by omega⟩, ⟨h1⟩, HF1, HH, HB⟩
  case round =>
   obtain ⟨k, rfl, HK, HK1, HKn, HFo, HHk, HBk⟩ := hrel
   have k1 := HK1.out
   have kn := HKn.out
   by_cases hk : k < ps.length
   ·have hlt : (k : Int) < (ps.length : Int) := by omega
    obtain ⟨j, hj⟩ : ∃ j, k = j + 1 := ⟨k - 1, by omega⟩
    obtain ⟨x, hx⟩ : ∃ x, ps[j]? = some x := ⟨_, List.getElem?_eq_getElem (by omega)⟩
    obtain ⟨y, hy⟩ : ∃ y, ps[k]? = some y := ⟨_, List.getElem?_eq_getElem (by omega)⟩
    obtain ⟨⟨Ax, cx, ex, hLx, hCx⟩, hx6⟩ := HR.out x (List.mem_of_getElem? hx)
    obtain ⟨⟨Ay, cy, ey, hLy, hCy⟩, hy6⟩ := HR.out y (List.mem_of_getElem? hy)
    obtain ⟨vx, lx⟩ := x
    obtain ⟨vy, ly⟩ := y
    dsimp only at ex ey hLx hLy hCx hCy hx6 hy6
    subst ex
    subst ey
    obtain ⟨KE, hK⟩ := equal_ev ly lx (by omega)
    have HEv := zaa.mk (hK KE (yco KE))
    have HCx := zaa.mk hCx
    have HCy := zaa.mk hCy
    have HLx := zaa.mk hLx
    have HLy := zaa.mk hLy
    have hcy : wr.cell? ⟨g, k, none⟩ = some (.slice Ay ly.length cy) := row_cell HHk.out hy
    have hcx : wr.cell? ⟨g, j, none⟩ = some (.slice Ax lx.length cx) := row_cell HHk.out hx
    have y0 : (0 : Int) ≤ (k : Int) := by omega
    have y1 : (0 : Int) ≤ (j : Int) := by omega
    have y2 : (j : Int) < (ps.length : Int) := by omega
    have y3 : wrap64 ((k : Int) - 1) = (j : Int) := by rw [zas (by omega) (by omega)]; omega
    have y4 : IntKind.i64.wrap ((k : Int) - 1) = (j : Int) := by rw [zau]; exact y3
    have y5 : j < ps.length := by omega
    have HJ := zaa.mk hj
    have HX := zaa.mk hx
    have HY := zaa.mk hy
    clear hj hx hy hCx hCy hLx hLy hK hx6 hy6
    go_wp2
    refine start_ (n := 11) (S := fun w' => (w'.cell? ⟨g, k, none⟩ = some (.slice Ay ly.length cy)) ∧ (w'.cell? ⟨g, j, none⟩ = some (.slice Ax lx.length cx))) (ds := []) #[zf, zf, zf, zf, zf, zf, zf, zf, zf, zf, zf] (by kernel_rfl) rfl rfl (⟨hcy, hcx⟩) (fun hHeld => ?_)
    refine zbd (i := 0) (N := some 18) (v := ?_) (a' := ?_) #[zt, zf, zf, zf, zf, zf, zf, zf, zf, zf, zf] rfl rfl (by kernel_rfl) (fun _ _ _ h => h) (Or.inl ⟨by rfl, ?_⟩) ?_ ?_
    rotate_left
    ·intro w'; go_simp; with_reducible rfl
    rotate_left
    ·simp only [Act.put, yce, ycf, ycg, zau, zav]; rfl
    refine zbd (i := 1) (N := some 19) (v := ?_) (a' := ?_) #[zt, zt, zf, zf, zf, zf, zf, zf, zf, zf, zf] rfl rfl (by kernel_rfl) (fun _ _ _ h => h) (Or.inl ⟨by rfl, ?_⟩) ?_ ?_
    rotate_left
    ·intro w'; go_simp; with_reducible rfl
    rotate_left
    ·simp only [Act.put, yce, ycf, ycg, zau, zav]; rfl
    refine zbd (i := 2) (N := some 20) (v := ?_) (a' := ?_) #[zt, zt, zt, zf, zf, zf, zf, zf, zf, zf, zf] rfl rfl (by kernel_rfl) (fun _ _ _ h => h) (Or.inl ⟨by rfl, ?_⟩) ?_ ?_
    rotate_left
    ·intro w'; go_simp; with_reducible rfl
    rotate_left
    ·simp only [Act.put, yce, ycf, ycg, zau, zav]; rfl
    refine zbd (i := 3) (N := some 21) (v := ?_) (a' := ?_) #[zt, zt, zt, zt, zf, zf, zf, zf, zf, zf, zf] rfl rfl (by kernel_rfl) (fun _ _ _ h => h) (Or.inl ⟨by rfl, ?_⟩) ?_ ?_
    rotate_left
    ·intro w'; go_simp; with_reducible rfl
    rotate_left
    ·simp only [Act.put, yce, ycf, ycg, zau, zav]; rfl
    refine take_ (i := 4) (N := some 22) (v := ?_) (a' := ?_) #[zt, zt, zt, zt, zt, zf, zf, zf, zf, zf, zf] rfl rfl (by kernel_rfl) (fun _ _ _ h => h) (Or.inl ⟨by rfl, ?_⟩) hHeld ?_ ?_
    rotate_left
    ·rintro w' ⟨s0, s1⟩
     go_simp
     with_reducible rfl
    rotate_left
    ·simp only [Act.put, yce, ycf, ycg, zau, zav]; rfl
    refine zbd (i := 5) (N := some 23) (v := ?_) (a' := ?_) #[zt, zt, zt, zt, zt, zt, zf, zf, zf, zf, zf] rfl rfl (by kernel_rfl) (fun _ _ _ h => h) (Or.inl ⟨by rfl, ?_⟩) ?_ ?_
    rotate_left
    ·intro w'; go_simp; with_reducible rfl
    rotate_left
    ·simp only [Act.put, yce, ycf, ycg, zau, zav]; rfl
    refine zbd (i := 6) (N := some 24) (v := ?_) (a' := ?_) #[zt, zt, zt, zt, zt, zt, zt, zf, zf, zf, zf] rfl rfl (by kernel_rfl) (fun _ _ _ h => h) (Or.inl ⟨by rfl, ?_⟩) ?_ ?_
    rotate_left
    ·intro w'; go_simp; with_reducible rfl
    rotate_left
    ·simp only [Act.put, yce, ycf, ycg, zau, zav]; rfl
    refine zbd (i := 7) (N := some 25) (v := ?_) (a' := ?_) #[zt, zt, zt, zt, zt, zt, zt, zt, zf, zf, zf] rfl rfl (by kernel_rfl) (fun _ _ _ h => h) (Or.inl ⟨by rfl, ?_⟩) ?_ ?_
    rotate_left
    ·intro w'; go_simp; with_reducible rfl
    rotate_left
    ·simp only [Act.put, yce, ycf, ycg, zau, zav]; rfl
    refine zbd (i := 8) (N := some 26) (v := ?_) (a' := ?_) #[zt, zt, zt, zt, zt, zt, zt, zt, zt, zf, zf] rfl rfl (by kernel_rfl) (fun _ _ _ h => h) (Or.inl ⟨by rfl, ?_⟩) ?_ ?_
    rotate_left
    ·intro w'; go_simp; with_reducible rfl
    rotate_left
    ·simp only [Act.put, yce, ycf, ycg, zau, zav]; rfl
    refine take_ (i := 9) (N := some 27) (v := ?_) (a' := ?_) #[zt, zt, zt, zt, zt, zt, zt, zt, zt, zt, zf] rfl rfl (by kernel_rfl) (fun _ _ _ h => h) (Or.inl ⟨by rfl, ?_⟩) hHeld ?_ ?_
    rotate_left
    ·rintro w' ⟨s0, s1⟩
     go_simp
     with_reducible rfl
    rotate_left
    ·simp only [Act.put, yce, ycf, ycg, zau, zav]; rfl
    refine one_ (i := 10) (N := some 28) #[zt, zt, zt, zt, zt, zt, zt, zt, zt, zt, zt] rfl rfl (by kernel_rfl) (by decide) (fun K hK => ?_)
    refine goesv_ Try.func72 (by kernel_rfl) rfl #[.slice Ay ly.length cy, .slice Ax lx.length cx] (by rfl) rfl rfl rfl (by (try simp only [ych, yci, ycj]); first | done | rfl) ?_
    refine calls_of_args (args' := #[.slice Ay ly.length cy, .slice Ax lx.length cx]) (by rfl) ?_
    have hs_ := hHeld
    obtain ⟨s0, s1⟩ := hs_
    refine (PC.slices_Equal_int_int.calls KE Ay cy ly Ax cx lx _ _ (Kd.C_below HCy.out (below_drew HBk.out)) HLy.out (Kd.C_below HCx.out (below_drew HBk.out)) HLx.out HEv.out).mono ?_
    rintro e w8 ⟨rfl, hd⟩
    have hb := hd.below
    refine ⟨_, rfl, ?_⟩
    refine hK.out _ _ ⟨zar hb s0, zar hb s1⟩ (fun hHeld => ?_)
    have hbd := zae (below_drew (Below.refl wr.heap.size wr)) hb
    clear hK hb s0 s1 hd hHeld
    refine norm_ (a' := ?_) ?_ ?_
    rotate_left
    ·show Act.put _ (some 28) _ = _
     simp only [Act.put, yce, ycf, ycg, zau, zav]
     rfl
    refine done_ (by kernel_rfl) ?_
    have HB8 := zaa.mk (zae HBk.out hbd)
    have HH8 := zaa.mk ((hbd.block g (zcm HHk.out)).trans HHk.out)
    clear hcx hcy hbd
    by_cases hxy : ly = lx
    ·rw [decide_eq_true hxy]
     have hkc : ¬ cc = k := by omega
     go_wp2
     clear hkc
     have hst := foldG_take (ps := ps) (k := j) HX.out (by rw [← HJ.out]; exact HY.out)
     rw [if_pos hxy.symm, show j + 2 = k + 1 by have := HJ.out; omega, show j + 1 = k by have := HJ.out; omega, HFo.out] at hst
     have HSt := zaa.mk hst
     have HLv := zaa.mk (show (ps.map Prod.fst ++ tl).length = cc by rw [List.length_append, List.length_map]; exact HCc.out)
     have HTk := zaa.mk (show (ps.map Prod.fst ++ tl).take k = (ps.take k).map Prod.fst by rw [List.take_append_of_le_length (by simp; omega), List.map_take])
     have HAt := zaa.mk (show ∀ i (x : RowP), k + 1 ≤ i + 1 → ps[i]? = some x → (ps.map Prod.fst ++ tl)[i]? = some x.1 from fun i x _ hx => by
      have hl := (List.getElem?_eq_some_iff.1 hx).1
      rw [List.getElem?_append_left (by simpa using hl), List.getElem?_map, hx]
      rfl)
     clear hst hxy y0 y1 y2 y3 y4 y5
     clear HX HY HCx HCy HLx HLy HEv HJ HFo HHk HBk
     obtain ⟨m, hm⟩ : ∃ m, m = ps.length - k := ⟨_, rfl⟩
     rw [← hm]
     have hmk : k + m = ps.length := by omega
     have HM := zaa.mk hm
     clear hm
     generalize ps.map Prod.fst ++ tl = vs0 at *
     go_loopg [5, 7] m (fun kq v5 v7 w' => ∃ (kk k2 : Nat) (vs : List Value), v5 = .int .i64 (kk : Int) ∧ v7 = .int .i64 (k2 : Int) ∧ zaa (k2 + kq = m + 1) ∧ zaa (1 ≤ k2 ∧ k2 ≤ m) ∧ zaa ((foldG (ps.take (k + k2))).length = kk ∧ kk + 1 ≤ k + k2) ∧ zaa (w'.heap[g]? = some (.cells vs.toArray 24 (0, 0))) ∧ zaa (vs.length = cc) ∧ zaa (vs.take kk = (foldG (ps.take (k + k2))).map Prod.fst) ∧ zaa (∀ i (x : RowP), k + k2 ≤ i + 1 → ps[i]? = some x → vs[i]? = some x.1) ∧ zaa (Below w0.heap.size w0 w'))
     case atStart => exact ⟨k, 1, vs0, rfl, rfl, ⟨by omega⟩, ⟨by omega, by omega⟩, ⟨by rw [HSt.out, yck]; omega, by omega⟩, HH8, HLv, ⟨by rw [HSt.out]; exact HTk.out⟩, HAt, HB8⟩
     case round =>
      clear HH8 HB8 HSt HLv HTk HAt
      obtain ⟨kk, k2, vs, rfl, rfl, HK2, HK12, HKk, HHk, HLv, HTk, HAt, HBk⟩ := hrel
      obtain ⟨k21, k2m⟩ := HK12.out
      obtain ⟨kkl, kks⟩ := HKk.out
      have kkc : kk < cc := by omega
      by_cases hk2 : k2 < m
      ·have hlt2 : (k2 : Int) < (m : Int) := by omega
       obtain ⟨j, hj⟩ : ∃ j, k2 = j + 1 := ⟨k2 - 1, by omega⟩
       obtain ⟨x, hx⟩ : ∃ x, ps[k + j]? = some x := ⟨_, List.getElem?_eq_getElem (by omega)⟩
       obtain ⟨y, hy⟩ : ∃ y, ps[k + k2]? = some y := ⟨_, List.getElem?_eq_getElem (by omega)⟩
       obtain ⟨⟨Ax, cx, ex, hLx, hCx⟩, hx6⟩ := HR.out x (List.mem_of_getElem? hx)
       obtain ⟨⟨Ay, cy, ey, hLy, hCy⟩, hy6⟩ := HR.out y (List.mem_of_getElem? hy)
       obtain ⟨vx, lx⟩ := x
       obtain ⟨vy, ly⟩ := y
       dsimp only at ex ey hLx hLy hCx hCy hx6 hy6
       subst ex
       subst ey
       obtain ⟨KE, hK⟩ := equal_ev ly lx (by omega)
       have HEv := zaa.mk (hK KE (yco KE))
       have HCx := zaa.mk hCx
       have HCy := zaa.mk hCy
       have HLx := zaa.mk hLx
       have HLy := zaa.mk hLy
       have hcy : wr.cell? ⟨g, k + k2, none⟩ = some (.slice Ay ly.length cy) := by
        rw [zat HHk.out, List.getElem?_toArray]
        exact HAt.out _ _ (by omega) hy
       have hcx : wr.cell? ⟨g, k + j, none⟩ = some (.slice Ax lx.length cx) := by
        rw [zat HHk.out, List.getElem?_toArray]
        exact HAt.out _ _ (by omega) hx
       have hck : ∃ u, wr.cell? ⟨g, kk, none⟩ = some u := by
        rw [zat HHk.out, List.getElem?_toArray]
        exact ⟨_, List.getElem?_eq_getElem (by have := HLv.out; omega)⟩
       obtain ⟨uk, hck⟩ := hck
       have y0 : (0 : Int) ≤ (k2 : Int) := by omega
       have y1 : (0 : Int) ≤ (j : Int) := by omega
       have y2 : (j : Int) < (m : Int) := by omega
       have y3 : wrap64 ((k2 : Int) - 1) = (j : Int) := by rw [zas (by omega) (by omega)]; omega
       have y4 : IntKind.i64.wrap ((k2 : Int) - 1) = (j : Int) := by rw [zau]; exact y3
       have y5 : j < m := by omega
       have HJ := zaa.mk hj
       have HX := zaa.mk hx
       have HY := zaa.mk hy
       have hfo := foldG_take (ps := ps) (k := k + j) hx (by rw [show k + j + 1 = k + k2 by omega]; exact hy)
       rw [show k + j + 2 = k + (k2 + 1) by omega, show k + j + 1 = k + k2 by omega] at hfo
       have HFo := zaa.mk hfo
       clear hj hx hy hCx hCy hLx hLy hK hx6 hy6 hfo
       go_wp2
       refine start_ (n := 12) (S := fun w' => (w'.cell? ⟨g, k + k2, none⟩ = some (.slice Ay ly.length cy)) ∧ (w'.cell? ⟨g, k + j, none⟩ = some (.slice Ax lx.length cx))) (ds := []) #[zf, zf, zf, zf, zf, zf, zf, zf, zf, zf, zf, zf] (by kernel_rfl) rfl rfl (⟨hcy, hcx⟩) (fun hHeld => ?_)
       refine zbd (i := 0) (N := some 38) (v := ?_) (a' := ?_) #[zt, zf, zf, zf, zf, zf, zf, zf, zf, zf, zf, zf] rfl rfl (by kernel_rfl) (fun _ _ _ h => h) (Or.inl ⟨by rfl, ?_⟩) ?_ ?_
       rotate_left
       ·intro w'; go_simp; with_reducible rfl
       rotate_left
       ·simp only [Act.put, yce, ycf, ycg, zau, zav]; rfl
       refine zbd (i := 1) (N := some 39) (v := ?_) (a' := ?_) #[zt, zt, zf, zf, zf, zf, zf, zf, zf, zf, zf, zf] rfl rfl (by kernel_rfl) (fun _ _ _ h => h) (Or.inl ⟨by rfl, ?_⟩) ?_ ?_
       rotate_left
       ·intro w'; go_simp; with_reducible rfl
       rotate_left
       ·simp only [Act.put, yce, ycf, ycg, zau, zav]; rfl
       refine zbd (i := 2) (N := some 40) (v := ?_) (a' := ?_) #[zt, zt, zt, zf, zf, zf, zf, zf, zf, zf, zf, zf] rfl rfl (by kernel_rfl) (fun _ _ _ h => h) (Or.inl ⟨by rfl, ?_⟩) ?_ ?_
       rotate_left
       ·intro w'; go_simp; with_reducible rfl
       rotate_left
       ·simp only [Act.put, yce, ycf, ycg, zau, zav]; rfl
       refine zbd (i := 3) (N := some 41) (v := ?_) (a' := ?_) #[zt, zt, zt, zt, zf, zf, zf, zf, zf, zf, zf, zf] rfl rfl (by kernel_rfl) (fun _ _ _ h => h) (Or.inl ⟨by rfl, ?_⟩) ?_ ?_
       rotate_left
       ·intro w'; go_simp; with_reducible rfl
       rotate_left
       ·simp only [Act.put, yce, ycf, ycg, zau, zav]; rfl
       refine take_ (i := 4) (N := some 42) (v := ?_) (a' := ?_) #[zt, zt, zt, zt, zt, zf, zf, zf, zf, zf, zf, zf] rfl rfl (by kernel_rfl) (fun _ _ _ h => h) (Or.inl ⟨by rfl, ?_⟩) hHeld ?_ ?_
       rotate_left
       ·rintro w' ⟨s0, s1⟩
        go_simp
        with_reducible rfl
       rotate_left
       ·simp only [Act.put, yce, ycf, ycg, zau, zav]; rfl
       refine zbd (i := 5) (N := some 43) (v := ?_) (a' := ?_) #[zt, zt, zt, zt, zt, zt, zf, zf, zf, zf, zf, zf] rfl rfl (by kernel_rfl) (fun _ _ _ h => h) (Or.inl ⟨by rfl, ?_⟩) ?_ ?_
       rotate_left
       ·intro w'; go_simp; with_reducible rfl
       rotate_left
       ·simp only [Act.put, yce, ycf, ycg, zau, zav]; rfl
       refine zbd (i := 6) (N := some 44) (v := ?_) (a' := ?_) #[zt, zt, zt, zt, zt, zt, zt, zf, zf, zf, zf, zf] rfl rfl (by kernel_rfl) (fun _ _ _ h => h) (Or.inl ⟨by rfl, ?_⟩) ?_ ?_
       rotate_left
       ·intro w'; go_simp; with_reducible rfl
       rotate_left
       ·simp only [Act.put, yce, ycf, ycg, zau, zav]; rfl
       refine zbd (i := 7) (N := some 45) (v := ?_) (a' := ?_) #[zt, zt, zt, zt, zt, zt, zt, zt, zf, zf, zf, zf] rfl rfl (by kernel_rfl) (fun _ _ _ h => h) (Or.inl ⟨by rfl, ?_⟩) ?_ ?_
       rotate_left
       ·intro w'; go_simp; with_reducible rfl
       rotate_left
       ·simp only [Act.put, yce, ycf, ycg, zau, zav]; rfl
       refine zbd (i := 8) (N := some 46) (v := ?_) (a' := ?_) #[zt, zt, zt, zt, zt, zt, zt, zt, zt, zf, zf, zf] rfl rfl (by kernel_rfl) (fun _ _ _ h => h) (Or.inl ⟨by rfl, ?_⟩) ?_ ?_
       rotate_left
       ·intro w'; go_simp; with_reducible rfl
       rotate_left
       ·simp only [Act.put, yce, ycf, ycg, zau, zav]; rfl
       refine take_ (i := 9) (N := some 47) (v := ?_) (a' := ?_) #[zt, zt, zt, zt, zt, zt, zt, zt, zt, zt, zf, zf] rfl rfl (by kernel_rfl) (fun _ _ _ h => h) (Or.inl ⟨by rfl, ?_⟩) hHeld ?_ ?_
       rotate_left
       ·rintro w' ⟨s0, s1⟩
        go_simp
        with_reducible rfl
       rotate_left
       ·simp only [Act.put, yce, ycf, ycg, zau, zav]; rfl
       refine one_ (i := 10) (N := some 48) #[zt, zt, zt, zt, zt, zt, zt, zt, zt, zt, zt, zf] rfl rfl (by kernel_rfl) (by decide) (fun K hK => ?_)
       refine goesv_ Try.func72 (by kernel_rfl) rfl #[.slice Ay ly.length cy, .slice Ax lx.length cx] (by rfl) rfl rfl rfl (by (try simp only [ych, yci, ycj]); first | done | rfl) ?_
       refine calls_of_args (args' := #[.slice Ay ly.length cy, .slice Ax lx.length cx]) (by rfl) ?_
       have hs_ := hHeld
       obtain ⟨s0, s1⟩ := hs_
       refine (PC.slices_Equal_int_int.calls KE Ay cy ly Ax cx lx _ _ (Kd.C_below HCy.out (below_drew HBk.out)) HLy.out (Kd.C_below HCx.out (below_drew HBk.out)) HLx.out HEv.out).mono ?_
       rintro e w8 ⟨rfl, hd⟩
       have hb := hd.below
       refine ⟨_, rfl, ?_⟩
       refine hK.out _ _ ⟨zar hb s0, zar hb s1⟩ (fun hHeld => ?_)
       have hbd := zae (below_drew (Below.refl wr.heap.size wr)) hb
       clear hK hb s0 s1 hd hHeld
       refine norm_ (a' := ?_) ?_ ?_
       rotate_left
       ·show Act.put _ (some 48) _ = _
        simp only [Act.put, yce, ycf, ycg, zau, zav]
        rfl
       refine zbd (i := 11) (N := some 49) (v := ?_) (a' := ?_) #[zt, zt, zt, zt, zt, zt, zt, zt, zt, zt, zt, zt] rfl rfl (by kernel_rfl) (fun _ _ _ h => h) (Or.inl ⟨by rfl, ?_⟩) ?_ ?_
       rotate_left
       ·intro w'; go_simp; with_reducible rfl
       rotate_left
       ·simp only [Act.put, yce, ycf, ycg, zau, zav]; rfl
       refine done_ (by kernel_rfl) ?_
       have HB9 := zaa.mk (zae HBk.out hbd)
       have HH9 := zaa.mk ((hbd.block g (zcm HHk.out)).trans HHk.out)
       have hcy9 := zar hbd hcy
       have hck9 := zar hbd hck
       have hfk9 := zaw HH9.out kk
       clear hcx hcy hck hbd y3 y4
       by_cases hxy : ly = lx
       ·rw [decide_eq_true hxy]
        have HEq := zaa.mk hxy
        clear hxy
        go_wp2
        go_roundg (m + 1 - (k2 + 1))
        case measure => have := HK2.out; omega
        case rel => exact ⟨kk, k2 + 1, vs, by first | rfl | (congr 1; omega), by first | rfl | (congr 1; omega), ⟨by have := HK2.out; omega⟩, ⟨by omega, by omega⟩, ⟨by rw [HFo.out, if_pos HEq.out.symm]; exact kkl, by omega⟩, HH9, HLv, ⟨by rw [HFo.out, if_pos HEq.out.symm]; exact HTk.out⟩, ⟨fun i x hi hx => HAt.out i x (by omega) hx⟩, HB9⟩
       ·rw [decide_eq_false hxy]
        have HNe := zaa.mk hxy
        clear hxy
        have z0 : (0 : Int) ≤ (kk : Int) := by omega
        have z1 : (kk : Int) < (ps.length : Int) := by omega
        have z2 : kk < ps.length := by omega
        go_wp2
        have hset := set_list HH9.out kk (.slice Ay ly.length cy)
        have hbs : Below w0.heap.size w0 (w8.setCell ⟨g, kk, none⟩ (.slice Ay ly.length cy)) := zan HB9.out HG.out
        go_roundg (m + 1 - (k2 + 1))
        case measure => have := HK2.out; omega
        case rel => exact ⟨kk + 1, k2 + 1, vs.set kk (.slice Ay ly.length cy), by first | rfl | (congr 1; omega), by first | rfl | (congr 1; omega), ⟨by have := HK2.out; omega⟩, ⟨by omega, by omega⟩, ⟨by rw [HFo.out, if_neg (fun z => HNe.out z.symm), List.length_append, List.length_singleton, kkl], by omega⟩, ⟨hset⟩, ⟨by rw [List.length_set]; exact HLv.out⟩, ⟨by
          rw [HFo.out, if_neg (fun z => HNe.out z.symm), List.map_append, ← HTk.out, List.take_add_one, List.getElem?_set_self (by have := HLv.out; omega), List.take_set_of_le (yco kk)]
          rfl⟩, ⟨fun i x hi hx => by
          rw [List.getElem?_set_ne (by omega)]
          exact HAt.out i x (by omega) hx⟩, ⟨hbs⟩⟩
      ·obtain rfl : k2 = m := by omega
       have hge2 : ¬ (k2 : Int) < (k2 : Int) := by omega
       have z0 : (0 : Int) ≤ (kk : Int) := by omega
       have z1 : (kk : Int) ≤ (ps.length : Int) := by omega
       have z2 : ¬ cc = kk := by omega
       have hfin : foldG ps = foldG (ps.take (k + k2)) := by rw [List.take_of_length_le (by omega)]
       have HFin := zaa.mk hfin
       clear hfin
       have hcl := Lib.run_clear_slice (P := Try.prog) wr 55 24 0 (.slice none 0 0) Try.underlying55 Try.zeroValue24 rfl rfl g kk (ps.length - kk) (cc - kk) (by omega) (fun j hj => by
        rw [zat HHk.out, List.getElem?_toArray, List.getElem?_eq_getElem (by have := HLv.out; omega)]
        rfl) (fun j _ => zaw HHk.out _)
       go_wp2
       clear hcl
       have hset := sets_list (List.replicate (ps.length - kk) (.slice none 0 0)) kk wr vs HHk.out (by rw [List.length_replicate]; have := HLv.out; omega)
       have hbs : Below w0.heap.size w0 (wr.setCells g kk (List.replicate (ps.length - kk) (.slice none 0 0))) := below_setsG HG.out _ _ _ HBk.out
       go_ret
       show CompRes w0 ps g cc _ _
       unfold CompRes
       rw [HFin.out, kkl, ← HTk.out]
       exact ⟨_, rfl, by rw [hset, List.append_assoc], hbs⟩

    ·rw [decide_eq_false hxy]
     have HNe := zaa.mk hxy
     clear hxy
     go_wp2
     go_roundg (ps.length + 1 - (k + 1))
     case measure => have := HK.out; omega
     case rel => exact ⟨k + 1, by first | rfl | (congr 1; omega), ⟨by have := HK.out; omega⟩, ⟨by omega⟩, ⟨by omega⟩, ⟨by
      have hj := HJ.out
      subst hj
      rw [show j + 1 + 1 = j + 2 from rfl, foldG_take HX.out HY.out, if_neg (fun z => HNe.out z.symm), HFo.out, ← take_snocG HY.out]⟩, HH8, HB8⟩
   ·obtain rfl : k = ps.length := by omega
    have hge : ¬ (ps.length : Int) < (ps.length : Int) := by omega
    go_wp2
    go_ret
    have e : foldG ps = ps := by
     have := HFo.out
     rwa [List.take_length] at this
    show CompRes w0 ps g cc _ _
    unfold CompRes
    rw [e]
    exact ⟨tl, rfl, HHk.out, HBk.out⟩
def Conv (hi wi : Nat) (g : Nat → Nat → Int) : Prop := ∀ r c r' c' i j, r < hi → c < wi → r' < hi → c' < wi → g r c = g r' c' → min r r' ≤ i → i ≤ max r r' → min c c' ≤ j → j ≤ max c c' → g i j = g r c
def ConvG (rows : List (List Int)) : Prop := Conv rows.length (zaj rows) (zbe rows)
theorem Conv.congr {hi wi : Nat} {g g' : Nat → Nat → Int} (h : Conv hi wi g) (e : ∀ r c, r < hi → c < wi → g r c = g' r c) : Conv hi wi g' := by
 intro r c r' c' i j h1 h2 h3 h4 hv k1 k2 k3 k4
 rw [← e i j (by omega) (by omega), ← e r c h1 h2]
 exact h r c r' c' i j h1 h2 h3 h4 (by rw [e r c h1 h2, e r' c' h3 h4]; exact hv) k1 k2 k3 k4
theorem Conv.map {hi wi : Nat} {g : Nat → Nat → Int} (h : Conv hi wi g) (f : Int → Int) (hf : ∀ r c r' c', r < hi → c < wi → r' < hi → c' < wi → f (g r c) = f (g r' c') → g r c = g r' c') : Conv hi wi (fun r c => f (g r c)) := by
 intro r c r' c' i j h1 h2 h3 h4 hv k1 k2 k3 k4
 show f _ = f _
 rw [h r c r' c' i j h1 h2 h3 h4 (hf _ _ _ _ h1 h2 h3 h4 hv) k1 k2 k3 k4]
theorem names_canon {rows : List (List Int)} (hs : zbo rows = true) (h9 : (zay rows).length ≤ 9) : Canon (zbq (canon rows)) := by
 have hn := names_nums hs
 have hinj := names_inj rows
 have hL := rooms_len hs
 refine ⟨?_, ?_⟩
 ·unfold gridOk
  rw [Bool.and_eq_true, hn, mapG_shape]
  refine ⟨hs, ?_⟩
  rw [List.all_eq_true]
  intro s hss
  obtain ⟨r, hr, rfl⟩ := List.mem_map.1 hss
  unfold okText
  rw [bytesOf_rowText r (canon_val hs r hr), List.all_eq_true]
  intro x hx
  obtain ⟨y, hy, rfl⟩ := List.mem_map.1 hx
  unfold canon canonL at hr
  obtain ⟨r0, hr0, rfl⟩ := List.mem_map.1 hr
  obtain ⟨z, hz, rfl⟩ := List.mem_map.1 hy
  have h3 : (zbl rows).idxOf z < (zbl rows).length := List.idxOf_lt_length_of_mem (ordL_mem rows.flatten [] z (List.mem_flatten.2 ⟨r0, hr0, hz⟩))
  simp only [okLetter, Bool.not_eq_true', Bool.or_eq_false_iff, decide_eq_false_iff_not]
  omega
 ·unfold namesOf
  rw [hn, canon_map hinj]
theorem text_length (rows : List (List Int)) : (zbq (canon rows)).length = rows.length := by simp [zbq, canon, canonL]
theorem canon_length (rows : List (List Int)) : (canon rows).length = rows.length := by simp [canon, canonL]
theorem names_floor {rows : List (List Int)} (hs : zbo rows = true) (h9 : (zay rows).length ≤ 9) : zcg (zbq (canon rows)) = if zbt (zay rows) = (rows.length : Int) * (zaj rows : Int) then some (canon rows, zay rows) else none := by
 have hC := names_canon hs h9
 have hn := names_nums hs
 have hinj := names_inj rows
 rw [floorF_grid hC.grid, hn, rooms_map hs hinj, mapG_wide, text_length, canon_map hinj]
 by_cases h : zbt (zay rows) = (rows.length : Int) * (zaj rows : Int)
 ·rw [if_pos h, if_pos ⟨h9, h, hC.names⟩]
 ·rw [if_neg h, if_neg (fun z => h z.2.1)]
theorem canon_wide (rows : List (List Int)) : zaj (canon rows) = zaj rows := by
 unfold zaj canon canonL
 cases rows with
 | nil => rfl
 | cons a r => simp
theorem canon_at {rows : List (List Int)} (hs : zbo rows = true) {r c : Nat} (hr : r < rows.length) (hc : c < zaj rows) : zbe (canon rows) r c = ((zbl rows).idxOf (zbe rows r c) : Int) := by
 have e := congrArg (fun R => zbe R r c) (rect_map (zch hs) (fun x => ((zbl rows).idxOf x : Int)))
 exact Eq.trans e (valAt_gridOf hr hc)
theorem idxOf_inj {L : List Int} {x y : Int} (hx : x ∈ L) (hy : y ∈ L) (e : L.idxOf x = L.idxOf y) : x = y := by
 have h1 := List.idxOf_lt_length_of_mem hx
 have h2 := List.idxOf_lt_length_of_mem hy
 have e1 : L[L.idxOf x] = x := List.getElem_idxOf h1
 have e2 : L[L.idxOf y] = y := List.getElem_idxOf h2
 rw [← e1, ← e2]
 congr 1
theorem val_ord {rows : List (List Int)} (hs : zbo rows = true) {r c : Nat} (hr : r < rows.length) (hc : c < zaj rows) : zbe rows r c ∈ zbl rows := ordL_mem rows.flatten [] _ (val_mem (zch hs) hr hc)
theorem canon_eq_iff {rows : List (List Int)} (hs : zbo rows = true) {r c r' c' : Nat} (hr : r < rows.length) (hc : c < zaj rows) (hr' : r' < rows.length) (hc' : c' < zaj rows) : zbe (canon rows) r c = zbe (canon rows) r' c' ↔ zbe rows r c = zbe rows r' c' := by
 rw [canon_at hs hr hc, canon_at hs hr' hc']
 constructor
 ·exact fun h => idxOf_inj (val_ord hs hr hc) (val_ord hs hr' hc') (by omega)
 ·intro h
  rw [h]
theorem conv_canon {rows : List (List Int)} (hs : zbo rows = true) : ConvG (canon rows) ↔ ConvG rows := by
 unfold ConvG
 rw [canon_length, canon_wide]
 constructor
 ·intro h r c r' c' i j h1 h2 h3 h4 hv k1 k2 k3 k4
  exact (canon_eq_iff hs (by omega) (by omega) h1 h2).1 (h r c r' c' i j h1 h2 h3 h4 ((canon_eq_iff hs h1 h2 h3 h4).2 hv) k1 k2 k3 k4)
 ·intro h r c r' c' i j h1 h2 h3 h4 hv k1 k2 k3 k4
  exact (canon_eq_iff hs (by omega) (by omega) h1 h2).2 (h r c r' c' i j h1 h2 h3 h4 ((canon_eq_iff hs h1 h2 h3 h4).1 hv) k1 k2 k3 k4)
theorem countN_conv (rows : List (List Int)) (wi : Nat) (x : Int) (b : Rc) : ∀ n, (∀ m, m < n → (zcr rows wi m = x ↔ inBox b wi m)) → zci rows wi x n = countB b wi n
 | 0, _ => rfl
 | n + 1, h => by
  have ih := countN_conv rows wi x b n (fun m hm => h m (by omega))
  simp only [zci, countB]
  by_cases hx : zcr rows wi n = x
  ·rw [if_pos hx, if_pos ((h n (by omega)).1 hx), ih]
  ·rw [if_neg hx, if_neg (fun z => hx ((h n (by omega)).2 z)), ih]
theorem conv_sum {rows : List (List Int)} (hs : zbo rows = true) (h9 : (zay rows).length ≤ 9) : zbt (zay rows) = (rows.length : Int) * (zaj rows : Int) ↔ ConvG rows := by
 have hfl := names_floor hs h9
 constructor
 ·intro h
  rw [if_pos h] at hfl
  have F := floor_facts hfl
  rw [← conv_canon hs]
  intro r c r' c' i j h1 h2 h3 h4 hv k1 k2 k3 k4
  have hv1 := valAt_range F.ok r c h1 h2
  obtain ⟨q, hq⟩ := Int.eq_ofNat_of_zero_le hv1.1
  have hq2 : q < (zay rows).length := by omega
  have hc := fun r c hr hc => room_cells hfl q hq2 r c hr hc
  have a1 := (hc r c h1 h2).1 hq
  have a2 := (hc r' c' h3 h4).1 (by rw [← hv]; exact hq)
  rw [hq]
  exact (hc i j (by omega) (by omega)).2 (by omega)
 ·intro h
  have hC := names_canon hs h9
  have hn := names_nums hs
  have hinj := names_inj rows
  have hiff := full_iff hC
  rw [hn, rooms_map hs hinj, mapG_wide, text_length] at hiff
  have hall : (List.range (zay rows).length).all (fullB (zbq (canon rows))) = true := by
   rw [List.all_eq_true]
   intro x hx
   have hx := List.mem_range.1 hx
   unfold fullB
   rw [decide_eq_true_eq, hn, rooms_map hs hinj, mapG_wide, text_length]
   obtain ⟨v, hv, hb, hbd⟩ := rooms_box hs x hx
   rw [← countB_all _ _ _ hbd]
   obtain ⟨s1, s2, s3, s4, s5⟩ := (zbx _).1 hs
   have hR := zch hs
   refine countN_conv _ _ _ _ _ fun m hm => ?_
   have hr : m / zaj rows < rows.length := by rw [Nat.div_lt_iff_lt_mul (by omega)]; exact hm
   have hc := Nat.mod_lt m (show 0 < zaj rows by omega)
   have hcell : zcr (mapG (fun x => 97 + ((zbl rows).idxOf x : Int)) rows) (zaj rows) m = ((zbl rows).idxOf (zbe rows (m / zaj rows) (m % zaj rows)) : Int) := by
    unfold zcr
    rw [valAt_map hR _ hr hc]
    omega
   rw [hcell, idx_iff (ordAll_nodup rows) hv (val_ord hs hr hc)]
   constructor
   ·exact fun h => hb.ins m hm h
   ·intro hin
    obtain ⟨i1, i2, i3, i4⟩ := hin
    obtain ⟨mt, nt, vt, et⟩ := hb.top
    obtain ⟨ml, nl, vl, el⟩ := hb.left
    obtain ⟨mw, nw, vw, ew⟩ := hb.low
    obtain ⟨mr, nr, vr, er⟩ := hb.right
    have rr : ∀ m, m < rows.length * zaj rows → m / zaj rows < rows.length ∧ m % zaj rows < zaj rows := fun m hm => ⟨by rw [Nat.div_lt_iff_lt_mul (by omega)]; exact hm, Nat.mod_lt m (by omega)⟩
    obtain ⟨t1, t2⟩ := rr mt nt
    obtain ⟨l1, l2⟩ := rr ml nl
    obtain ⟨w1, w2⟩ := rr mw nw
    obtain ⟨r1, r2⟩ := rr mr nr
    have gt := hb.ins mt nt vt
    have gl := hb.ins ml nl vl
    have gw := hb.ins mw nw vw
    have gr := hb.ins mr nr vr
    generalize hbx : (zay rows).getD x zcf = bx at *
    -- the upper left and the lower right corner
    have c1 := h (mt / zaj rows) (mt % zaj rows) (ml / zaj rows) (ml % zaj rows) (mt / zaj rows) (ml % zaj rows) t1 t2 l1 l2 (vt.trans vl.symm) (by omega) (by omega) (by omega) (by omega)
    have c2 := h (mw / zaj rows) (mw % zaj rows) (mr / zaj rows) (mr % zaj rows) (mw / zaj rows) (mr % zaj rows) w1 w2 r1 r2 (vw.trans vr.symm) (by omega) (by omega) (by omega) (by omega)
    have c3 := h (mt / zaj rows) (ml % zaj rows) (mw / zaj rows) (mr % zaj rows) (m / zaj rows) (m % zaj rows) t1 l2 w1 r2 (by rw [c1, c2, vt, vw]) (by omega) (by omega) (by omega) (by omega)
    rw [c3, c1, vt]
  rw [hall] at hiff
  exact of_decide_eq_true hiff.symm
structure OkG (rows : List (List Int)) : Prop where
 shape : zbo rows = true
 many : (zbl rows).length ≤ 9
 conv : ConvG rows
theorem OkG.plan {rows : List (List Int)} (h : OkG rows) : planF rows = (zbq (canon rows), true) := by
 have h9 : (zay rows).length ≤ 9 := by rw [← rooms_len h.shape]; exact h.many
 rw [planF_shape h.shape, if_pos ⟨h9, (conv_sum h.shape h9).2 h.conv⟩]
theorem OkG.floor {rows : List (List Int)} (h : OkG rows) : zcg (zbq (canon rows)) = some (canon rows, zay rows) := by
 have h9 : (zay rows).length ≤ 9 := by rw [← rooms_len h.shape]; exact h.many
 rw [names_floor h.shape h9, if_pos ((conv_sum h.shape h9).2 h.conv)]
theorem planF_cases (rows : List (List Int)) : (OkG rows ∧ planF rows = (zbq (canon rows), true)) ∨ (¬ OkG rows ∧ planF rows = ([], false)) := by
 by_cases h : OkG rows
 ·exact .inl ⟨h, h.plan⟩
 ·refine .inr ⟨h, ?_⟩
  cases hs : zbo rows with
  | false => exact planF_noshape hs
  | true =>
   rw [planF_shape hs]
   by_cases hc : (zay rows).length ≤ 9 ∧ zbt (zay rows) = (rows.length : Int) * (zaj rows : Int)
   ·exact absurd ⟨hs, by rw [rooms_len hs]; exact hc.1, (conv_sum hs hc.1).1 hc.2⟩ h
   ·rw [if_neg hc]
theorem floor_shape {cs : List (List Int)} {rs : List Rc} (h : FloorOk cs rs) : zbo cs = true := (zbx _).2 ⟨h.h1, h.h6, h.w1, h.w6, h.rect⟩
theorem add_inj (a : Int) (S : Int → Prop) : InjOn (fun x => a + x) S := fun x y _ _ e => by have : a + x = a + y := e; omega
theorem floor_okG {p : List ByteArray} {cs : List (List Int)} {rs : List Rc} (h : zcg p = some (cs, rs)) : OkG cs ∧ canon cs = cs ∧ rs = zay cs ∧ p = zbq cs := by
 have F := floor_facts h
 have hs := floor_shape F.ok
 have e1 : canon cs = cs := by
  have e2 : canon (mapG (fun x => 97 + x) cs) = canon cs := canon_map (add_inj 97 _)
  rw [← F.nums, ← F.cells] at e2
  exact e2.symm
 have e2 : rs = zay cs := by rw [F.rooms, F.nums, rooms_map hs (add_inj 97 _)]
 have h9 : (zay cs).length ≤ 9 := by rw [← e2]; exact F.ok.many
 have hsum := floor_sum h
 rw [F.wide, F.len, e2] at hsum
 exact ⟨⟨hs, by rw [rooms_len hs]; exact h9, (conv_sum hs h9).1 hsum⟩, e1, e2, F.text⟩
theorem gridOf_wide {h w : Nat} {g : Nat → Nat → Int} (h1 : 1 ≤ h) : zaj (zbc h w g) = w := by
 have := gridOf_get (hi := h) (wi := w) (g := g) (r := 0) (by omega)
 unfold zaj
 rw [ycm, this]
 simp
def reG (X : List (List Int)) (h w : Nat) (a b : Nat → Nat → Nat) : List (List Int) := zbc h w fun r c => zbe X (a r c) (b r c)
def IntoR (hi wi h w : Nat) (a b : Nat → Nat → Nat) : Prop := ∀ r c, r < h → c < w → a r c < hi ∧ b r c < wi
def BoxM (h w : Nat) (a b : Nat → Nat → Nat) : Prop := ∀ r c r' c' i j, r < h → c < w → r' < h → c' < w → min r r' ≤ i → i ≤ max r r' → min c c' ≤ j → j ≤ max c c' →
 min (a r c) (a r' c') ≤ a i j ∧ a i j ≤ max (a r c) (a r' c') ∧ min (b r c) (b r' c') ≤ b i j ∧ b i j ≤ max (b r c) (b r' c')
theorem shape_grid {h w : Nat} {g : Nat → Nat → Int} (h1 : 1 ≤ h) (h6 : h ≤ 6) (w1 : 1 ≤ w) (w6 : w ≤ 6) : zbo (zbc h w g) = true := by
 rw [zbx, zbk, gridOf_wide h1]
 exact ⟨h1, h6, w1, w6, gridOf_rect h w g⟩
theorem vals_grid {h w : Nat} {g : Nat → Nat → Int} {v : Int} : Vals (zbc h w g) v ↔ ∃ r c, r < h ∧ c < w ∧ g r c = v := by
 unfold Vals zbc
 rw [List.mem_flatten]
 constructor
 ·rintro ⟨l, hl, hv⟩
  obtain ⟨r, hr, rfl⟩ := List.mem_map.1 hl
  obtain ⟨c, hc, rfl⟩ := List.mem_map.1 hv
  exact ⟨r, c, List.mem_range.1 hr, List.mem_range.1 hc, rfl⟩
 ·rintro ⟨r, c, hr, hc, rfl⟩
  exact ⟨_, List.mem_map.2 ⟨r, List.mem_range.2 hr, rfl⟩, List.mem_map.2 ⟨c, List.mem_range.2 hc, rfl⟩⟩
theorem vals_rows {X : List (List Int)} (hs : zbo X = true) {v : Int} : Vals X v ↔ ∃ r c, r < X.length ∧ c < zaj X ∧ zbe X r c = v := by
 have := rect_eq (zch hs)
 conv => lhs; rw [this]
 exact vals_grid
theorem ord_vals (X : List (List Int)) (v : Int) : v ∈ zbl X ↔ Vals X v := ⟨ordAll_vals X v, fun h => ordL_mem X.flatten [] v h⟩
theorem ord_sub {X Y : List (List Int)} (h : ∀ v, Vals X v → Vals Y v) : (zbl X).length ≤ (zbl Y).length :=
 (ordAll_nodup X).length_le_of_subset fun v hv => (ord_vals Y v).2 (h v ((ord_vals X v).1 hv))
theorem re_vals {X : List (List Int)} (hs : zbo X = true) {h w : Nat} {a b : Nat → Nat → Nat} (hi : IntoR X.length (zaj X) h w a b) : ∀ v, Vals (reG X h w a b) v → Vals X v := by
 intro v hv
 obtain ⟨r, c, hr, hc, rfl⟩ := vals_grid.1 hv
 exact (vals_rows hs).2 ⟨_, _, (hi r c hr hc).1, (hi r c hr hc).2, rfl⟩
theorem re_conv {X : List (List Int)} (hc : ConvG X) {h w : Nat} {a b : Nat → Nat → Nat} (hi : IntoR X.length (zaj X) h w a b) (hb : BoxM h w a b) : Conv h w (fun r c => zbe X (a r c) (b r c)) := by
 intro r c r' c' i j h1 h2 h3 h4 hv k1 k2 k3 k4
 obtain ⟨m1, m2, m3, m4⟩ := hb r c r' c' i j h1 h2 h3 h4 k1 k2 k3 k4
 obtain ⟨a1, a2⟩ := hi r c h1 h2
 obtain ⟨b1, b2⟩ := hi r' c' h3 h4
 exact hc _ _ _ _ _ _ a1 a2 b1 b2 hv m1 m2 m3 m4
theorem convG_grid {h w : Nat} {g : Nat → Nat → Int} (h1 : 1 ≤ h) (hc : Conv h w g) : ConvG (zbc h w g) := by
 unfold ConvG
 rw [zbk, gridOf_wide h1]
 exact hc.congr fun r c hr hc => (valAt_gridOf hr hc).symm
theorem re_ok {X : List (List Int)} (hX : OkG X) {h w : Nat} {a b : Nat → Nat → Nat} (h1 : 1 ≤ h) (h6 : h ≤ 6) (w1 : 1 ≤ w) (w6 : w ≤ 6) (hi : IntoR X.length (zaj X) h w a b) (hb : BoxM h w a b) : OkG (reG X h w a b) :=
 ⟨shape_grid h1 h6 w1 w6, Nat.le_trans (ord_sub (re_vals hX.shape hi)) hX.many, convG_grid h1 (re_conv hX.conv hi hb)⟩
def planOf (X : List (List Int)) : List ByteArray := zbq (canon X)
theorem OkG.dims {X : List (List Int)} (h : OkG X) : 1 ≤ X.length ∧ X.length ≤ 6 ∧ 1 ≤ zaj X ∧ zaj X ≤ 6 := by
 obtain ⟨a, b, c, d, e⟩ := (zbx _).1 h.shape
 exact ⟨a, b, c, d⟩
theorem OkG.canon {X : List (List Int)} (h : OkG X) : OkG (canon X) := (floor_okG h.floor).1
theorem plan_of {p : List ByteArray} {cs : List (List Int)} {rs : List Rc} (h : zcg p = some (cs, rs)) : OkG cs ∧ p = planOf cs ∧ rs = zay cs := by
 obtain ⟨a, b, c, d⟩ := floor_okG h
 exact ⟨a, by unfold planOf; rw [b]; exact d, c⟩
def PredR (P : Program) (f : FuncId) (caps : Array Value) (w : World) (rows : List (List Int)) (p : List Int → Bool) : Prop :=
 ∀ (W : World) (row : List Int) (A : Option Addr) (c : Nat), row ∈ rows → Below w.heap.size w W → (Kd.int .i64).C W A row.length row → row.length ≤ c → Calls P f (#[.slice A row.length c] ++ caps) W fun e W' => e = .returned (.bool (p row)) ∧ Below W.heap.size W W'
set_option maxHeartbeats 4000000 in
set_option maxRecDepth 100000 in
theorem indexR_calls (f : FuncId) (fn : Func) (hf : Try.prog.funcs[f]? = some fn) (hname : (fn.name == "runtime.NumGoroutine") = false) (hb : fn.body.isSome = true) (caps : Array Value) (p : List Int → Bool) (A0 : Option Addr) (c0 : Nat) (rows : List (List Int)) (w : World)
  (hr0 : (Kd.slice 3 (Kd.int .i64)).C w A0 rows.length rows) (hp : PredR Try.prog f caps w rows p) :
  Calls Try.prog 99 #[.slice A0 rows.length c0, .func (.func f) #[] caps] w (IndexPost w rows p) := by
 have hn := (C_len hr0).2
 have HR0 := zaa.mk hr0
 have HP := zaa.mk hp
 have HF := zaa.mk hf
 have HN := zaa.mk hname
 have HBd := zaa.mk hb
 clear hr0 hp hf hname hb
 have b1 : (rows.length : Int) ≤ 9223372036854775807 := by omega
 go_enter Try.func99, Try.ntmps99
 go_wp2
 go_loopg [8] rows.length (fun kq v8 w' => ∃ i : Nat, v8 = .int .i64 (i : Int) ∧ zaa (i + kq = rows.length) ∧ zaa ((rows.take i).any p = false) ∧ zaa (Below w.heap.size w w'))
 case atStart => exact ⟨0, rfl, ⟨by omega⟩, ⟨by simp⟩, ⟨Below.refl _ _⟩⟩
 case round =>
  obtain ⟨i, rfl, HK, HA, HB⟩ := hrel
  by_cases hi : i < rows.length
  ·have hlt : (i : Int) < rows.length := by omega
   have hi0 : (0 : Int) ≤ i := by omega
   obtain ⟨row, hrow⟩ : ∃ row, rows[i]? = some row := ⟨_, List.getElem?_eq_getElem hi⟩
   obtain ⟨ad, Ai, ci, e1, hx, hl, hr⟩ := C_row HR0.out i row hrow
   cases e1
   replace hx := zar HB.out hx
   have HRi := zaa.mk (Kd.C_below hr HB.out)
   have HLi := zaa.mk hl
   have HRow := zaa.mk (List.mem_of_getElem? hrow)
   have HT := zaa.mk (show (rows.take (i + 1)).any p = p row by
    rw [List.take_add_one, hrow, List.any_append, HA.out]; simp)
   clear hr hl hrow
   generalize hpv : p row = b at HT
   have HPV := zaa.mk hpv
   clear hpv
   cases b
   ·go_wp2_with (first | ((with_reducible refine zbb (N := 16) rfl ?_); refine goesvL_ (some 16) rfl rfl HF.out HN.out HBd.out #[.slice Ai row.length ci] rfl rfl (by (try simp only [ych, yci, ycj]); first | done | rfl) ?_; refine (HP.out _ row Ai ci HRow.out HB.out HRi.out HLi.out).mono ?_; rintro e w8 ⟨rfl, hb8⟩; rw [HPV.out]; refine ⟨_, rfl, ?_⟩; have HB8 := zaa.mk (zae HB.out hb8); clear hb8))
    go_roundg (rows.length - (i + 1))
    case measure => have := HK.out; omega
    case rel => exact ⟨i + 1, by first | rfl | (congr 1; omega), ⟨by have := HK.out; omega⟩, HT, HB8⟩
   ·go_wp2_with (first | ((with_reducible refine zbb (N := 16) rfl ?_); refine goesvL_ (some 16) rfl rfl HF.out HN.out HBd.out #[.slice Ai row.length ci] rfl rfl (by (try simp only [ych, yci, ycj]); first | done | rfl) ?_; refine (HP.out _ row Ai ci HRow.out HB.out HRi.out HLi.out).mono ?_; rintro e w8 ⟨rfl, hb8⟩; rw [HPV.out]; refine ⟨_, rfl, ?_⟩; have HB8 := zaa.mk (zae HB.out hb8); clear hb8))
    go_ret
    refine ⟨i, rfl, ?_, HB8.out⟩
    rw [decide_eq_true (by omega), ← List.take_append_drop (i + 1) rows, List.any_append, HT.out]
    rfl
  ·have hge : ¬ (i : Int) < rows.length := by omega
   obtain rfl : i = rows.length := by have := HK.out; omega
   go_wp2
   go_ret
   refine ⟨-1, rfl, ?_, HB.out⟩
   have := HA.out
   rw [List.take_length] at this
   rw [this]
   rfl
set_option maxHeartbeats 4000000 in
set_option maxRecDepth 100000 in
theorem containsR_calls (f : FuncId) (fn : Func) (hf : Try.prog.funcs[f]? = some fn) (hname : (fn.name == "runtime.NumGoroutine") = false) (hb : fn.body.isSome = true) (caps : Array Value) (p : List Int → Bool) (A0 : Option Addr) (c0 : Nat) (rows : List (List Int)) (w : World)
  (hr0 : (Kd.slice 3 (Kd.int .i64)).C w A0 rows.length rows) (hp : PredR Try.prog f caps w rows p) :
  Calls Try.prog 74 #[.slice A0 rows.length c0, .func (.func f) #[] caps] w fun e w' => e = .returned (.bool (rows.any p)) ∧ Below w.heap.size w w' := by
 have H := zaa.mk (indexR_calls f fn hf hname hb caps p A0 c0 rows w hr0 hp)
 clear hr0 hp hf hname hb
 generalize hv : rows.any p = v
 have HV := zaa.mk hv
 clear hv
 go_enter Try.func74, Try.ntmps74
 go_wp2_with (first | (go_at_call 99; refine H.out.mono ?_; rintro e w8 ⟨i, rfl, hi, hb8⟩; rw [HV.out] at hi; have HB8 := zaa.mk hb8; clear hb8))
 go_ret
 exact ⟨by rw [← hi]; rfl, HB8.out⟩
def newCol (c : Nat) (row : List Int) : Bool := decide (c = 0) || (rd row (c : Int) != rd row ((c - 1 : Nat) : Int))
set_option maxHeartbeats 4000000 in
set_option maxRecDepth 100000 in
theorem differs_pred (w : World) (pc c wi : Nat) (rows : List (List Int)) (hc : w.cell? ⟨pc, 0, none⟩ = some (.int .i64 (c : Int))) (hcw : c < wi) (hw6 : wi ≤ 6) (hrows : ∀ r ∈ rows, r.length = wi) :
  PredR Try.prog 73 #[.pointer (some ⟨pc, 0, none⟩)] w rows (newCol c) := by
 intro W row A cap hm hb hC hl
 have hrl := hrows row hm
 replace hc := zar hb hc
 clear hb hm hrows
 show Calls _ _ #[.slice A row.length cap, .pointer (some ⟨pc, 0, none⟩)] W _
 by_cases h0 : c = 0
 ·subst h0
  have hp : newCol 0 row = true := by simp [newCol]
  rw [hp]
  clear hC
  go_enter Try.func73, Try.ntmps73
  go_upto_region 1 with (fail)
  refine start_ (n := 15) (S := fun w' => (w'.cell? ⟨pc, 0, none⟩ = some (.int .i64 ((0 : Nat) : Int)))) (ds := []) #[zf, zf, zf, zf, zf, zf, zf, zf, zf, zf, zf, zf, zf, zf, zf] (by kernel_rfl) rfl rfl (hc) (fun hHeld => ?_)
  refine take_ (i := 0) (N := some 4) (v := ?_) (a' := ?_) #[zt, zf, zf, zf, zf, zf, zf, zf, zf, zf, zf, zf, zf, zf, zf] rfl rfl (by kernel_rfl) (fun _ _ _ h => h) (Or.inl ⟨by rfl, ?_⟩) hHeld ?_ ?_
  rotate_left
  ·rintro w' s0
   go_simp
   with_reducible rfl
  rotate_left
  ·simp only [Act.put, yce, ycf, ycg, zau, zav]; rfl
  refine zbd (i := 1) (N := some 5) (v := ?_) (a' := ?_) #[zt, zt, zf, zf, zf, zf, zf, zf, zf, zf, zf, zf, zf, zf, zf] rfl rfl (by kernel_rfl) (fun _ _ _ h => h) (Or.inl ⟨by rfl, ?_⟩) ?_ ?_
  rotate_left
  ·intro w'; go_simp; with_reducible rfl
  rotate_left
  ·simp only [Act.put, yce, ycf, ycg, zau, zav]; rfl
  refine zbd (i := 2) (N := some 6) (v := ?_) (a' := ?_) #[zt, zt, zt, zf, zf, zf, zf, zf, zf, zf, zf, zf, zf, zf, zf] rfl rfl (by kernel_rfl) (fun _ _ _ h => h) (Or.inl ⟨by rfl, ?_⟩) ?_ ?_
  rotate_left
  ·intro w'; go_simp; with_reducible rfl
  rotate_left
  ·simp only [Act.put, yce, ycf, ycg, zau, zav]; rfl
  refine zbd (i := 3) (N := some 7) (v := undef) (a' := ?_) #[zt, zt, zt, zt, zf, zf, zf, zf, zf, zf, zf, zf, zf, zf, zf] rfl rfl (by kernel_rfl) (fun _ _ _ h => h) (Or.inr ⟨by rfl, rfl⟩) ?_ ?_
  rotate_left
  ·simp only [Act.put, yce, ycf, ycg, zau, zav]; rfl
  refine zbd (i := 4) (N := some 8) (v := undef) (a' := ?_) #[zt, zt, zt, zt, zt, zf, zf, zf, zf, zf, zf, zf, zf, zf, zf] rfl rfl (by kernel_rfl) (fun _ _ _ h => h) (Or.inr ⟨by rfl, rfl⟩) ?_ ?_
  rotate_left
  ·simp only [Act.put, yce, ycf, ycg, zau, zav]; rfl
  refine zbd (i := 5) (N := some 9) (v := undef) (a' := ?_) #[zt, zt, zt, zt, zt, zt, zf, zf, zf, zf, zf, zf, zf, zf, zf] rfl rfl (by kernel_rfl) (fun _ _ _ h => h) (Or.inr ⟨by rfl, rfl⟩) ?_ ?_
  rotate_left
  ·simp only [Act.put, yce, ycf, ycg, zau, zav]; rfl
  refine zbd (i := 6) (N := some 10) (v := undef) (a' := ?_) #[zt, zt, zt, zt, zt, zt, zt, zf, zf, zf, zf, zf, zf, zf, zf] rfl rfl (by kernel_rfl) (fun _ _ _ h => h) (Or.inr ⟨by rfl, rfl⟩) ?_ ?_
  rotate_left
  ·simp only [Act.put, yce, ycf, ycg, zau, zav]; rfl
  refine zbd (i := 7) (N := some 11) (v := undef) (a' := ?_) #[zt, zt, zt, zt, zt, zt, zt, zt, zf, zf, zf, zf, zf, zf, zf] rfl rfl (by kernel_rfl) (fun _ _ _ h => h) (Or.inr ⟨by rfl, rfl⟩) ?_ ?_
  rotate_left
  ·simp only [Act.put, yce, ycf, ycg, zau, zav]; rfl
  refine zbd (i := 8) (N := some 12) (v := undef) (a' := ?_) #[zt, zt, zt, zt, zt, zt, zt, zt, zt, zf, zf, zf, zf, zf, zf] rfl rfl (by kernel_rfl) (fun _ _ _ h => h) (Or.inr ⟨by rfl, rfl⟩) ?_ ?_
  rotate_left
  ·simp only [Act.put, yce, ycf, ycg, zau, zav]; rfl
  refine zbd (i := 9) (N := some 13) (v := undef) (a' := ?_) #[zt, zt, zt, zt, zt, zt, zt, zt, zt, zt, zf, zf, zf, zf, zf] rfl rfl (by kernel_rfl) (fun _ _ _ h => h) (Or.inr ⟨by rfl, rfl⟩) ?_ ?_
  rotate_left
  ·simp only [Act.put, yce, ycf, ycg, zau, zav]; rfl
  refine zbd (i := 10) (N := some 14) (v := undef) (a' := ?_) #[zt, zt, zt, zt, zt, zt, zt, zt, zt, zt, zt, zf, zf, zf, zf] rfl rfl (by kernel_rfl) (fun _ _ _ h => h) (Or.inr ⟨by rfl, rfl⟩) ?_ ?_
  rotate_left
  ·simp only [Act.put, yce, ycf, ycg, zau, zav]; rfl
  refine zbd (i := 11) (N := some 15) (v := undef) (a' := ?_) #[zt, zt, zt, zt, zt, zt, zt, zt, zt, zt, zt, zt, zf, zf, zf] rfl rfl (by kernel_rfl) (fun _ _ _ h => h) (Or.inr ⟨by rfl, rfl⟩) ?_ ?_
  rotate_left
  ·simp only [Act.put, yce, ycf, ycg, zau, zav]; rfl
  refine zbd (i := 12) (N := some 16) (v := undef) (a' := ?_) #[zt, zt, zt, zt, zt, zt, zt, zt, zt, zt, zt, zt, zt, zf, zf] rfl rfl (by kernel_rfl) (fun _ _ _ h => h) (Or.inr ⟨by rfl, rfl⟩) ?_ ?_
  rotate_left
  ·simp only [Act.put, yce, ycf, ycg, zau, zav]; rfl
  refine zbd (i := 13) (N := some 17) (v := ?_) (a' := ?_) #[zt, zt, zt, zt, zt, zt, zt, zt, zt, zt, zt, zt, zt, zt, zf] rfl rfl (by kernel_rfl) (fun _ _ _ h => h) (Or.inl ⟨by rfl, ?_⟩) ?_ ?_
  rotate_left
  ·intro w'; go_simp; with_reducible rfl
  rotate_left
  ·simp only [Act.put, yce, ycf, ycg, zau, zav]; rfl
  refine zbd (i := 14) (N := some 3) (v := ?_) (a' := ?_) #[zt, zt, zt, zt, zt, zt, zt, zt, zt, zt, zt, zt, zt, zt, zt] rfl rfl (by kernel_rfl) (fun _ _ _ h => h) (Or.inl ⟨by rfl, ?_⟩) ?_ ?_
  rotate_left
  ·intro w'; go_simp; with_reducible rfl
  rotate_left
  ·simp only [Act.put, yce, ycf, ycg, zau, zav]; rfl
  refine done_ (by kernel_rfl) ?_
  go_wp2
  go_ret
  exact ⟨rfl, below_drew (Below.refl _ _)⟩
 ·obtain ⟨j, hj⟩ : ∃ j, c = j + 1 := ⟨c - 1, by omega⟩
  obtain ⟨ad, e1, hz1⟩ := C_int_cell hC c (by omega)
  obtain ⟨ad', e2, hz0⟩ := C_int_cell hC j (by omega)
  subst e1
  cases e2
  have hp : newCol c row = (rd row (c : Int) != rd row (j : Int)) := by
   unfold newCol
   rw [decide_eq_false h0, Bool.false_or, show c - 1 = j by omega]
  have y0 : (0 : Int) ≤ (c : Int) := by omega
  have y1 : (c : Int) < (row.length : Int) := by omega
  have y2 : (0 : Int) ≤ (j : Int) := by omega
  have y3 : (j : Int) < (row.length : Int) := by omega
  have y4 : wrap64 ((c : Int) - 1) = (j : Int) := by rw [zas (by omega) (by omega)]; omega
  have y5 : IntKind.i64.wrap ((c : Int) - 1) = (j : Int) := by rw [zau]; exact y4
  have y6 : ((c : Int) == 0) = false := by rw [beq_eq_false_iff_ne]; omega
  have y7 : c < row.length := by omega
  have y8 : j < row.length := by omega
  generalize hq : (rd row (c : Int) != rd row (j : Int)) = q at *
  have HP := zaa.mk hp
  clear hC hp h0 hj hrl hl
  go_enter Try.func73, Try.ntmps73
  go_upto_region 1 with (fail)
  refine start_ (n := 15) (S := fun w' => (w'.cell? ⟨pc, 0, none⟩ = some (.int .i64 (c : Int))) ∧ (w'.cell? (ad.add c) = some (.int .i64 (rd row (c : Int)))) ∧ (w'.cell? (ad.add j) = some (.int .i64 (rd row (j : Int))))) (ds := []) #[zf, zf, zf, zf, zf, zf, zf, zf, zf, zf, zf, zf, zf, zf, zf] (by kernel_rfl) rfl rfl (⟨hc, hz1, hz0⟩) (fun hHeld => ?_)
  refine take_ (i := 0) (N := some 4) (v := ?_) (a' := ?_) #[zt, zf, zf, zf, zf, zf, zf, zf, zf, zf, zf, zf, zf, zf, zf] rfl rfl (by kernel_rfl) (fun _ _ _ h => h) (Or.inl ⟨by rfl, ?_⟩) hHeld ?_ ?_
  rotate_left
  ·rintro w' ⟨s0, s1, s2⟩
   go_simp
   with_reducible rfl
  rotate_left
  ·simp only [Act.put, yce, ycf, ycg, zau, zav]; rfl
  refine zbd (i := 1) (N := some 5) (v := ?_) (a' := ?_) #[zt, zt, zf, zf, zf, zf, zf, zf, zf, zf, zf, zf, zf, zf, zf] rfl rfl (by kernel_rfl) (fun _ _ _ h => h) (Or.inl ⟨by rfl, ?_⟩) ?_ ?_
  rotate_left
  ·intro w'; go_simp; with_reducible rfl
  rotate_left
  ·simp only [Act.put, yce, ycf, ycg, zau, zav]; rfl
  refine zbd (i := 2) (N := some 6) (v := ?_) (a' := ?_) #[zt, zt, zt, zf, zf, zf, zf, zf, zf, zf, zf, zf, zf, zf, zf] rfl rfl (by kernel_rfl) (fun _ _ _ h => h) (Or.inl ⟨by rfl, ?_⟩) ?_ ?_
  rotate_left
  ·intro w'; go_simp; with_reducible rfl
  rotate_left
  ·simp only [Act.put, yce, ycf, ycg, zau, zav]; rfl
  refine zbd (i := 3) (N := some 7) (v := ?_) (a' := ?_) #[zt, zt, zt, zt, zf, zf, zf, zf, zf, zf, zf, zf, zf, zf, zf] rfl rfl (by kernel_rfl) (fun _ _ _ h => h) (Or.inl ⟨by rfl, ?_⟩) ?_ ?_
  rotate_left
  ·intro w'; go_simp; with_reducible rfl
  rotate_left
  ·simp only [Act.put, yce, ycf, ycg, zau, zav]; rfl
  refine take_ (i := 4) (N := some 8) (v := ?_) (a' := ?_) #[zt, zt, zt, zt, zt, zf, zf, zf, zf, zf, zf, zf, zf, zf, zf] rfl rfl (by kernel_rfl) (fun _ _ _ h => h) (Or.inl ⟨by rfl, ?_⟩) hHeld ?_ ?_
  rotate_left
  ·rintro w' ⟨s0, s1, s2⟩
   go_simp
   with_reducible rfl
  rotate_left
  ·simp only [Act.put, yce, ycf, ycg, zau, zav]; rfl
  refine zbd (i := 5) (N := some 9) (v := ?_) (a' := ?_) #[zt, zt, zt, zt, zt, zt, zf, zf, zf, zf, zf, zf, zf, zf, zf] rfl rfl (by kernel_rfl) (fun _ _ _ h => h) (Or.inl ⟨by rfl, ?_⟩) ?_ ?_
  rotate_left
  ·intro w'; go_simp; with_reducible rfl
  rotate_left
  ·simp only [Act.put, yce, ycf, ycg, zau, zav]; rfl
  refine take_ (i := 6) (N := some 10) (v := ?_) (a' := ?_) #[zt, zt, zt, zt, zt, zt, zt, zf, zf, zf, zf, zf, zf, zf, zf] rfl rfl (by kernel_rfl) (fun _ _ _ h => h) (Or.inl ⟨by rfl, ?_⟩) hHeld ?_ ?_
  rotate_left
  ·rintro w' ⟨s0, s1, s2⟩
   go_simp
   with_reducible rfl
  rotate_left
  ·simp only [Act.put, yce, ycf, ycg, zau, zav]; rfl
  refine zbd (i := 7) (N := some 11) (v := ?_) (a' := ?_) #[zt, zt, zt, zt, zt, zt, zt, zt, zf, zf, zf, zf, zf, zf, zf] rfl rfl (by kernel_rfl) (fun _ _ _ h => h) (Or.inl ⟨by rfl, ?_⟩) ?_ ?_
  rotate_left
  ·intro w'; go_simp; with_reducible rfl
  rotate_left
  ·simp only [Act.put, yce, ycf, ycg, zau, zav]; rfl
  refine take_ (i := 8) (N := some 12) (v := ?_) (a' := ?_) #[zt, zt, zt, zt, zt, zt, zt, zt, zt, zf, zf, zf, zf, zf, zf] rfl rfl (by kernel_rfl) (fun _ _ _ h => h) (Or.inl ⟨by rfl, ?_⟩) hHeld ?_ ?_
  rotate_left
  ·rintro w' ⟨s0, s1, s2⟩
   go_simp
   with_reducible rfl
  rotate_left
  ·simp only [Act.put, yce, ycf, ycg, zau, zav]; rfl
  refine zbd (i := 9) (N := some 13) (v := ?_) (a' := ?_) #[zt, zt, zt, zt, zt, zt, zt, zt, zt, zt, zf, zf, zf, zf, zf] rfl rfl (by kernel_rfl) (fun _ _ _ h => h) (Or.inl ⟨by rfl, ?_⟩) ?_ ?_
  rotate_left
  ·intro w'; go_simp; with_reducible rfl
  rotate_left
  ·simp only [Act.put, yce, ycf, ycg, zau, zav]; rfl
  refine zbd (i := 10) (N := some 14) (v := ?_) (a' := ?_) #[zt, zt, zt, zt, zt, zt, zt, zt, zt, zt, zt, zf, zf, zf, zf] rfl rfl (by kernel_rfl) (fun _ _ _ h => h) (Or.inl ⟨by rfl, ?_⟩) ?_ ?_
  rotate_left
  ·intro w'; go_simp; with_reducible rfl
  rotate_left
  ·simp only [Act.put, yce, ycf, ycg, zau, zav]; rfl
  refine take_ (i := 11) (N := some 15) (v := ?_) (a' := ?_) #[zt, zt, zt, zt, zt, zt, zt, zt, zt, zt, zt, zt, zf, zf, zf] rfl rfl (by kernel_rfl) (fun _ _ _ h => h) (Or.inl ⟨by rfl, ?_⟩) hHeld ?_ ?_
  rotate_left
  ·rintro w' ⟨s0, s1, s2⟩
   go_simp
   with_reducible rfl
  rotate_left
  ·simp only [Act.put, yce, ycf, ycg, zau, zav]; rfl
  refine zbd (i := 12) (N := some 16) (v := ?_) (a' := ?_) #[zt, zt, zt, zt, zt, zt, zt, zt, zt, zt, zt, zt, zt, zf, zf] rfl rfl (by kernel_rfl) (fun _ _ _ h => h) (Or.inl ⟨by rfl, ?_⟩) ?_ ?_
  rotate_left
  ·intro w'; go_simp; with_reducible rfl
  rotate_left
  ·simp only [Act.put, yce, ycf, ycg, zau, zav]; rfl
  refine zbd (i := 13) (N := some 17) (v := ?_) (a' := ?_) #[zt, zt, zt, zt, zt, zt, zt, zt, zt, zt, zt, zt, zt, zt, zf] rfl rfl (by kernel_rfl) (fun _ _ _ h => h) (Or.inl ⟨by rfl, ?_⟩) ?_ ?_
  rotate_left
  ·intro w'; go_simp; with_reducible rfl
  rotate_left
  ·simp only [Act.put, yce, ycf, ycg, zau, zav]; rfl
  refine zbd (i := 14) (N := some 3) (v := ?_) (a' := ?_) #[zt, zt, zt, zt, zt, zt, zt, zt, zt, zt, zt, zt, zt, zt, zt] rfl rfl (by kernel_rfl) (fun _ _ _ h => h) (Or.inl ⟨by rfl, ?_⟩) ?_ ?_
  rotate_left
  ·intro w'; go_simp; with_reducible rfl
  rotate_left
  ·simp only [Act.put, yce, ycf, ycg, zau, zav]; rfl
  refine done_ (by kernel_rfl) ?_
  go_wp2
  go_ret
  exact ⟨by rw [HP.out]; rfl, below_drew (Below.refl _ _)⟩
def putRw (L : List (List Int)) (x : List Int) : List (List Int) := if L.getLast? = some x then L else L ++ [x]
def foldR (rows : List (List Int)) : List (List Int) := rows.foldl putRw []
theorem foldR_snoc (rows : List (List Int)) (x : List Int) : foldR (rows ++ [x]) = putRw (foldR rows) x := by simp [foldR]
theorem foldG_rows (ps : List RowP) : (foldG ps).map (·.2) = foldR (ps.map (·.2)) := by
 suffices h : ∀ k, k ≤ ps.length → (foldG (ps.take k)).map (·.2) = foldR ((ps.take k).map (·.2)) by
  have := h ps.length (yco _)
  rwa [List.take_length] at this
 intro k
 induction k with
 | zero => intro _; rfl
 | succ k ih =>
  intro hk
  have hx : ps[k]? = some ps[k] := List.getElem?_eq_getElem (by omega)
  rw [take_snocG hx, foldG_snoc, List.map_append, yci, ycj, foldR_snoc, ← ih (by omega)]
  unfold putG putRw
  rw [List.getLast?_map]
  split
  ·rfl
  ·simp
theorem foldR_sub (rows : List (List Int)) : ∀ x ∈ foldR rows, x ∈ rows := by
 have e : rows = (rows.map (fun r => ((.slice none 0 0 : Value), r))).map (·.2) := by rw [List.map_map]; exact (List.map_id rows).symm
 intro x hx
 rw [e, ← foldG_rows] at hx
 obtain ⟨y, hy, rfl⟩ := List.mem_map.1 hx
 obtain ⟨r, hr, rfl⟩ := List.mem_map.1 (foldG_sub _ y hy)
 exact hr
theorem foldR_len (rows : List (List Int)) : (foldR rows).length ≤ rows.length ∧ (1 ≤ rows.length → 1 ≤ (foldR rows).length) := by
 have e : rows = (rows.map (fun r => ((.slice none 0 0 : Value), r))).map (·.2) := by rw [List.map_map]; exact (List.map_id rows).symm
 generalize hps : rows.map (fun r => ((.slice none 0 0 : Value), r)) = ps at e
 have h1 := foldG_le ps ps.length (yco _)
 have h2 := foldG_pos (ps := ps) ps.length
 rw [List.take_length] at h1 h2
 have hl : rows.length = ps.length := by rw [e, List.length_map]
 have hf : (foldR rows).length = (foldG ps).length := by rw [e, ← foldG_rows, List.length_map]
 rw [hl, hf]
 exact ⟨h1, fun h => h2 h (yco _)⟩
def colsT (R : List (List Int)) (wi : Nat) : List Int := ((List.range wi).filter fun c => R.any (newCol c)).map fun (c : Nat) => (c : Int)
theorem colsT_succ (R : List (List Int)) (c : Nat) : colsT R (c + 1) = colsT R c ++ (if R.any (newCol c) = true then [(c : Int)] else []) := by
 unfold colsT
 rw [List.range_succ, List.filter_append, List.map_append]
 congr 1
 cases h : R.any (newCol c) <;> simp [h]
theorem colsT_length (R : List (List Int)) (wi : Nat) : (colsT R wi).length ≤ wi := by
 unfold colsT
 have := List.length_filter_le (fun c => R.any (newCol c)) (List.range wi)
 rw [List.length_range] at this
 rw [List.length_map]
 exact this
theorem colsT_range (R : List (List Int)) (wi : Nat) : ∀ x ∈ colsT R wi, ∃ c : Nat, x = (c : Int) ∧ c < wi := by
 intro x hx
 obtain ⟨c, hc, rfl⟩ := List.mem_map.1 hx
 exact ⟨c, rfl, List.mem_range.1 (List.mem_filter.1 hc).1⟩
def tightG (R : List (List Int)) (Cc : List Int) : List (List Int) := zbc R.length Cc.length (fun r c => rd (R.getD r []) (rd Cc (c : Int)))
def tightH (cs : List (List Int)) (_ : List Rc) : List (List Int) := tightG (foldR cs) (colsT (foldR cs) (zaj cs))
theorem rowsOf_C {w : World} {ad : Addr} {rows : List (List Int)} (h : (Kd.slice 3 (Kd.int .i64)).C w (some ad) rows.length rows) :
  ∃ ps : List RowP, ps.map (·.2) = rows ∧ (∀ j u, (ps.map Prod.fst)[j]? = some u → w.cell? (ad.add j) = some u) ∧ ∀ x ∈ ps, RowV w x := by
 refine ⟨(List.range rows.length).map fun i => ((w.cell? (ad.add i)).getD undef, rows.getD i []), ?_, ?_, ?_⟩
 ·rw [List.map_map]
  apply List.ext_getElem?
  intro i
  rw [List.getElem?_map]
  by_cases hi : i < rows.length
  ·rw [List.getElem?_range hi]
   simp [List.getD, hi]
  ·rw [List.getElem?_eq_none (by simpa using hi), List.getElem?_eq_none (by omega)]
   rfl
 ·intro j u hj
  rw [List.map_map, List.getElem?_map] at hj
  by_cases hi : j < rows.length
  ·rw [List.getElem?_range hi] at hj
   obtain ⟨ad', Ai, ci, e1, hx, -, -⟩ := C_row h j _ (List.getElem?_eq_getElem hi)
   cases e1
   simp only [Option.map_some, Function.comp, hx, Option.getD_some] at hj
   rw [hx]
   exact hj
  ·rw [List.getElem?_eq_none (by simpa using hi)] at hj
   cases hj
 ·intro x hx
  obtain ⟨i, hi, rfl⟩ := List.mem_map.1 hx
  have hi' := List.mem_range.1 hi
  obtain ⟨ad', Ai, ci, e1, hc, hl, hr⟩ := C_row h i _ (List.getElem?_eq_getElem hi')
  cases e1
  have e : rows.getD i [] = rows[i] := by simp [List.getD, hi']
  unfold RowV
  dsimp only
  rw [hc, e]
  exact ⟨Ai, ci, rfl, hl, hr⟩
theorem C_rows {W : World} {g : Nat} {t : TypeId} {ps : List RowP} {tl : List Value} (h : W.heap[g]? = some (.cells (ps.map Prod.fst ++ tl).toArray t (0, 0))) (hr : ∀ x ∈ ps, RowV W x) (hl : ps.length ≤ 1000) :
  (Kd.slice 3 (Kd.int .i64)).C W (some ⟨g, 0, none⟩) ps.length (ps.map (·.2)) := by
 refine ⟨by simp, by omega, fun _ => ⟨_, rfl, fun j p hj => ?_⟩⟩
 rw [List.getElem?_map] at hj
 obtain ⟨x, hx, rfl⟩ := Option.map_eq_some_iff.1 hj
 obtain ⟨A, c, e, hl2, hC⟩ := hr x (List.mem_of_getElem? hx)
 refine ⟨[.slice A x.2.length c], rfl, ⟨A, c, rfl, hl2, hC⟩, fun i u hu => ?_⟩
 have hi : i = 0 := by
  rcases Nat.eq_zero_or_pos i with h0 | h0
  ·exact h0
  ·rw [List.getElem?_eq_none (by simp; omega)] at hu; cases hu
 subst hi
 have hu' : Value.slice A x.2.length c = u := by simpa using hu
 subst hu'
 have h2 := row_cell h hx
 rw [e] at h2
 show W.cell? ((⟨g, 0, none⟩ : Addr).add (j * 1 + 0)) = _
 rw [Nat.mul_one, Nat.add_zero, add_plain]
 exact h2
set_option maxHeartbeats 4000000 in
set_option maxRecDepth 100000 in
theorem tight2_read (w : World) (pr pc : Nat) (A Ac : Option Addr) (cm cn wi : Nat) (R : List (List Int)) (Cc : List Int) (hp : w.cell? ⟨pr, 0, none⟩ = some (.slice A R.length cm)) (hq : w.cell? ⟨pc, 0, none⟩ = some (.slice Ac Cc.length cn))
  (hR : (Kd.slice 3 (Kd.int .i64)).C w A R.length R) (hC : (Kd.int .i64).C w Ac Cc.length Cc) (hrw : ∀ r ∈ R, r.length = wi) (hcw : ∀ x ∈ Cc, ∃ c : Nat, x = (c : Int) ∧ c < wi) :
  ReadFn Try.prog 76 #[.pointer (some ⟨pr, 0, none⟩), .pointer (some ⟨pc, 0, none⟩)] w R.length Cc.length (fun r c => rd (R.getD r []) (rd Cc (c : Int))) := by
 intro W r c hr hc hS
 show Calls Try.prog _ _ _ fun e W' => e = .returned (.int .i64 (rd (R.getD r []) (rd Cc (c : Int)))) ∧ Below W.heap.size W W'
 obtain ⟨row, hrow⟩ : ∃ row, R[r]? = some row := ⟨_, List.getElem?_eq_getElem hr⟩
 obtain ⟨ad, Ai, ci, e1, hx, hl, hrr⟩ := C_row hR r row hrow
 obtain ⟨ac, e2, hy⟩ := C_int_cell hC c hc
 have hcm : rd Cc (c : Int) ∈ Cc := by
  rw [rd_at (List.getElem?_eq_getElem hc)]
  exact List.getElem_mem hc
 obtain ⟨j, hj, hjw⟩ := hcw _ hcm
 have hrl := hrw row (List.mem_of_getElem? hrow)
 obtain ⟨ar, e3, hz⟩ := C_int_cell hrr j (by omega)
 subst e1
 subst e2
 subst e3
 have eg : R.getD r [] = row := by rw [ycm, hrow]; rfl
 rw [eg, hj]
 rw [hj] at hy
 replace hp := hS.cell hp
 replace hq := hS.cell hq
 replace hx := hS.cell hx
 replace hy := hS.cell hy
 replace hz := hS.cell hz
 have r0 : (0 : Int) ≤ r := by omega
 have r1 : (r : Int) < R.length := by omega
 have c0 : (0 : Int) ≤ c := by omega
 have c1 : (c : Int) < Cc.length := by omega
 have j0 : (0 : Int) ≤ j := by omega
 have j1 : (j : Int) < row.length := by omega
 have j2 : j < row.length := by omega
 generalize rd row (j : Int) = q at *
 clear hR hC hrw hcw hrr hrow hS hcm hl hrl eg hj hjw
 show Calls Try.prog _ #[.int .i64 (r : Int), .int .i64 (c : Int), .pointer (some ⟨pr, 0, none⟩), .pointer (some ⟨pc, 0, none⟩)] _ _
 go_enter Try.func76, Try.ntmps76
 go_upto_region 1 with (fail)
 refine start_ (n := 11) (S := fun w' => (w'.cell? ⟨pr, 0, none⟩ = some (.slice (some ad) R.length cm)) ∧ (w'.cell? ⟨pc, 0, none⟩ = some (.slice (some ac) Cc.length cn)) ∧ (w'.cell? (ad.add r) = some (.slice (some ar) row.length ci)) ∧ (w'.cell? (ac.add c) = some (.int .i64 (j : Int))) ∧ (w'.cell? (ar.add j) = some (.int .i64 q))) (ds := []) #[zf, zf, zf, zf, zf, zf, zf, zf, zf, zf, zf] (by kernel_rfl) rfl rfl (⟨hp, hq, hx, hy, hz⟩) (fun hHeld => ?_)
 refine take_ (i := 0) (N := some 7) (v := ?_) (a' := ?_) #[zt, zf, zf, zf, zf, zf, zf, zf, zf, zf, zf] rfl rfl (by kernel_rfl) (fun _ _ _ h => h) (Or.inl ⟨by rfl, ?_⟩) hHeld ?_ ?_
 rotate_left
 ·rintro w' ⟨s0, s1, s2, s3, s4⟩
  go_simp
  with_reducible rfl
 rotate_left
 ·simp only [Act.put, yce, ycf, ycg, zau, zav]; rfl
 refine zbd (i := 1) (N := some 8) (v := ?_) (a' := ?_) #[zt, zt, zf, zf, zf, zf, zf, zf, zf, zf, zf] rfl rfl (by kernel_rfl) (fun _ _ _ h => h) (Or.inl ⟨by rfl, ?_⟩) ?_ ?_
 rotate_left
 ·intro w'; go_simp; with_reducible rfl
 rotate_left
 ·simp only [Act.put, yce, ycf, ycg, zau, zav]; rfl
 refine zbd (i := 2) (N := some 9) (v := ?_) (a' := ?_) #[zt, zt, zt, zf, zf, zf, zf, zf, zf, zf, zf] rfl rfl (by kernel_rfl) (fun _ _ _ h => h) (Or.inl ⟨by rfl, ?_⟩) ?_ ?_
 rotate_left
 ·intro w'; go_simp; with_reducible rfl
 rotate_left
 ·simp only [Act.put, yce, ycf, ycg, zau, zav]; rfl
 refine take_ (i := 3) (N := some 10) (v := ?_) (a' := ?_) #[zt, zt, zt, zt, zf, zf, zf, zf, zf, zf, zf] rfl rfl (by kernel_rfl) (fun _ _ _ h => h) (Or.inl ⟨by rfl, ?_⟩) hHeld ?_ ?_
 rotate_left
 ·rintro w' ⟨s0, s1, s2, s3, s4⟩
  go_simp
  with_reducible rfl
 rotate_left
 ·simp only [Act.put, yce, ycf, ycg, zau, zav]; rfl
 refine take_ (i := 4) (N := some 11) (v := ?_) (a' := ?_) #[zt, zt, zt, zt, zt, zf, zf, zf, zf, zf, zf] rfl rfl (by kernel_rfl) (fun _ _ _ h => h) (Or.inl ⟨by rfl, ?_⟩) hHeld ?_ ?_
 rotate_left
 ·rintro w' ⟨s0, s1, s2, s3, s4⟩
  go_simp
  with_reducible rfl
 rotate_left
 ·simp only [Act.put, yce, ycf, ycg, zau, zav]; rfl
 refine zbd (i := 5) (N := some 12) (v := ?_) (a' := ?_) #[zt, zt, zt, zt, zt, zt, zf, zf, zf, zf, zf] rfl rfl (by kernel_rfl) (fun _ _ _ h => h) (Or.inl ⟨by rfl, ?_⟩) ?_ ?_
 rotate_left
 ·intro w'; go_simp; with_reducible rfl
 rotate_left
 ·simp only [Act.put, yce, ycf, ycg, zau, zav]; rfl
 refine zbd (i := 6) (N := some 13) (v := ?_) (a' := ?_) #[zt, zt, zt, zt, zt, zt, zt, zf, zf, zf, zf] rfl rfl (by kernel_rfl) (fun _ _ _ h => h) (Or.inl ⟨by rfl, ?_⟩) ?_ ?_
 rotate_left
 ·intro w'; go_simp; with_reducible rfl
 rotate_left
 ·simp only [Act.put, yce, ycf, ycg, zau, zav]; rfl
 refine take_ (i := 7) (N := some 14) (v := ?_) (a' := ?_) #[zt, zt, zt, zt, zt, zt, zt, zt, zf, zf, zf] rfl rfl (by kernel_rfl) (fun _ _ _ h => h) (Or.inl ⟨by rfl, ?_⟩) hHeld ?_ ?_
 rotate_left
 ·rintro w' ⟨s0, s1, s2, s3, s4⟩
  go_simp
  with_reducible rfl
 rotate_left
 ·simp only [Act.put, yce, ycf, ycg, zau, zav]; rfl
 refine zbd (i := 8) (N := some 15) (v := ?_) (a' := ?_) #[zt, zt, zt, zt, zt, zt, zt, zt, zt, zf, zf] rfl rfl (by kernel_rfl) (fun _ _ _ h => h) (Or.inl ⟨by rfl, ?_⟩) ?_ ?_
 rotate_left
 ·intro w'; go_simp; with_reducible rfl
 rotate_left
 ·simp only [Act.put, yce, ycf, ycg, zau, zav]; rfl
 refine take_ (i := 9) (N := some 16) (v := ?_) (a' := ?_) #[zt, zt, zt, zt, zt, zt, zt, zt, zt, zt, zf] rfl rfl (by kernel_rfl) (fun _ _ _ h => h) (Or.inl ⟨by rfl, ?_⟩) hHeld ?_ ?_
 rotate_left
 ·rintro w' ⟨s0, s1, s2, s3, s4⟩
  go_simp
  with_reducible rfl
 rotate_left
 ·simp only [Act.put, yce, ycf, ycg, zau, zav]; rfl
 refine zbd (i := 10) (N := some 6) (v := ?_) (a' := ?_) #[zt, zt, zt, zt, zt, zt, zt, zt, zt, zt, zt] rfl rfl (by kernel_rfl) (fun _ _ _ h => h) (Or.inl ⟨by rfl, ?_⟩) ?_ ?_
 rotate_left
 ·intro w'; go_simp; with_reducible rfl
 rotate_left
 ·simp only [Act.put, yce, ycf, ycg, zau, zav]; rfl
 refine done_ (by kernel_rfl) ?_
 go_wp2
 go_ret
 exact ⟨rfl, below_drew (Below.refl _ _)⟩
theorem oneCell_rows {W : World} {ps : List RowP} (h : ∀ x ∈ ps, RowV W x) : ∀ u ∈ ps.map Prod.fst, u.oneCell' = true := by
 intro u hu
 obtain ⟨x, hx, rfl⟩ := List.mem_map.1 hu
 obtain ⟨A, c, e, -, -⟩ := h x hx
 rw [e]
 rfl
set_option maxHeartbeats 4000000 in
set_option maxRecDepth 100000 in
theorem tight_fn (w : World) : HowFn Try.prog 69 #[] w tightH := by
 intro W g cs rs hk hf hS
 have HK := zaa.mk hk
 have HF := zaa.mk hf
 have W1 := zaa.mk (wide_f hk)
 have a1 := hk.h6
 have a2 := hk.h1
 have a3 := hk.w6
 have a4 := hk.w1
 obtain ⟨A0, c0, A1, c1, h1, h2, h3, h4⟩ := hf
 obtain ⟨ad, cx, adx, cy, hc1, -, -⟩ := HF.out.cell hk 0 0 (by omega) (by omega)
 have eA : A0 = some ad := by
  have e := (zat h1 0).symm.trans hc1
  injection e with e
  injection e
 subst eA
 obtain ⟨ps, hps, hcells, hrow⟩ := rowsOf_C h3
 have hpl : ps.length = cs.length := by rw [← hps, List.length_map]
 have hrows : ∀ x ∈ ps, RowV W x ∧ x.2.length ≤ 6 := fun x hx => ⟨hrow x hx, by
  have : x.2 ∈ cs := by rw [← hps]; exact List.mem_map.2 ⟨x, hx, rfl⟩
  have := hk.cells.row _ this
  omega⟩
 have HRs := zaa.mk hrows
 have HCs := zaa.mk hcells
 have HOne := zaa.mk (oneCell_rows hrow)
 have HHl := zaa.mk (show (ps.map Prod.fst).length = ps.length by simp)
 have hR : (foldG ps).map (·.2) = foldR cs := by rw [foldG_rows, hps]
 have hRl : (foldG ps).length = (foldR cs).length := by rw [← hR, List.length_map]
 have HRl := zaa.mk hRl
 have HRm := zaa.mk hR
 have HRow := zaa.mk (show ∀ x ∈ foldG ps, RowV W x from fun x hx => hrow x (foldG_sub _ x hx))
 have hb1 : (foldR cs).length ≤ 6 ∧ 1 ≤ (foldR cs).length := by
  have := foldR_len cs
  exact ⟨by omega, this.2 (by omega)⟩
 have HRw := zaa.mk (show ∀ r ∈ foldR cs, r.length = zaj cs from fun r hr => hk.cells.row _ (foldR_sub cs r hr))
 have r1 := hb1.1
 have hcell : W.cell? ⟨g, 0, none⟩ = some (.slice (some ad) ps.length c0) := by
  rw [hpl]
  exact zat h1 0
 have hclone := cloneG_calls ad c0 (ps.map Prod.fst) W HCs.out HOne.out (by rw [HHl.out]; omega) (by rw [HHl.out]; omega)
 rw [HHl.out] at hclone
 have HCl := zaa.mk hclone
 have HP0 := zaa.mk (show 0 < ps.length ∧ ps.length ≤ 6 by omega)
 generalize hRR : foldR cs = R at *
 have HRR := zaa.mk hRR
 clear hclone hk h1 h2 h3 h4 hc1 hS hps hcells hrow hpl hrows hR hRl hb1 hRR
 show Calls Try.prog _ #[.pointer (some ⟨g, 0, none⟩)] _ _
 go_enter Try.func69, Try.ntmps69
 go_upto_region 2 with (first
  | (go_at_call 71; refine HCl.out.mono ?_; rintro e w1 ⟨g1, tl, rfl, hh1, hcap1, hg1, hb1⟩; have HH1 := zaa.mk hh1; have HCap1 := zaa.mk hcap1; have HG1 := zaa.mk hg1; have HB1 := zaa.mk hb1; clear hh1 hcap1 hg1 hb1)
  | (go_at_call 70; refine (compactF_calls W ps g1 tl _ HB1.out HG1.out HRs.out HH1.out HP0.out.2 HP0.out.1 HCap1.out).mono ?_; rintro e w2 ⟨vs, he, hh2, hb2⟩; rw [HRl.out] at he; subst he; have HH2 := zaa.mk hh2; have HB2 := zaa.mk hb2; clear hh2 hb2))
 have hb := zac (Below.refl w2.heap.size w2) (.cells #[.slice (some ⟨g1, 0, none⟩) R.length (ps.length + tl.length)] 55)
 have hk := heap_alloc_new w2 (.cells #[.slice (some ⟨g1, 0, none⟩) R.length (ps.length + tl.length)] 55)
 generalize w2.alloc (.cells #[.slice (some ⟨g1, 0, none⟩) R.length (ps.length + tl.length)] 55) = w3 at *
 obtain ⟨pr, hpr⟩ : ∃ pr, pr = w2.heap.size := ⟨_, rfl⟩
 rw [← hpr] at hk ⊢
 generalize ps.length + tl.length = cp at *
 have hgr := C_rows HH2.out (fun x hx => (HRow.out x hx).below HB2.out) (by rw [HRl.out]; omega)
 rw [HRl.out, HRm.out] at hgr
 have HC3 := zaa.mk (Kd.C_below hgr hb)
 have HB3 := zaa.mk (zae HB2.out hb)
 have hr3 := box_cell hk
 clear hgr hb hk hpr hcell HCs HOne HHl HP0 HRs HRow HRm HRl HB1 HG1 HH1 HCap1 HH2 HB2
 go_upto_region 3 with (fail)
 have hb := zac (Below.refl w3.heap.size w3) (.cells #[.slice none 0 0] 24)
 have hk := heap_alloc_new w3 (.cells #[.slice none 0 0] 24)
 generalize w3.alloc (.cells #[.slice none 0 0] 24) = w4 at *
 obtain ⟨pc, hpc⟩ : ∃ pc, pc = w3.heap.size := ⟨_, rfl⟩
 rw [← hpc] at hk ⊢
 have HPc := zaa.mk hpc
 have HB4 := zaa.mk hb
 have HP4 := zaa.mk hk
 have HR4 := zaa.mk (Kd.R_nil (Kd.int .i64) 3 w4 w3.heap.size (fun k => pc < k))
 have HF4 := zaa.mk (HF.out.below (zae HB3.out hb))
 clear hb hk hpc HF
 have hcl := colsT_length R (zaj cs)
 have HCr := zaa.mk (colsT_range R (zaj cs))
 go_wp2_with (first
  | (go_at_call 51; refine (impl_floor_wide.calls g cs rs _ _ _ HF4.out (Below.refl _ _) W1.out).mono ?_; rintro e w5 ⟨rfl, -, hb, -⟩; have HB5 := zaa.mk (zae HB4.out hb); have HP5 := zaa.mk ((hb.block pc (zcm HP4.out)).trans HP4.out); have HR5 := zaa.mk (Kd.R_below HR4.out hb); clear hb HF4 HB4 HP4 HR4))
 generalize hwi : zaj cs = wi at *
 have HWi := zaa.mk hwi
 clear hwi
 go_loopg [15] wi (fun kq v15 w' => ∃ (c : Nat) (v : Value), v15 = .int .i64 (c : Int) ∧ zaa (c + kq = wi) ∧ zaa (w'.heap[pc]? = some (.cells #[v] 24 (0, 0))) ∧ zaa (Kd.R (Kd.int .i64) 3 w' w3.heap.size (fun k => pc < k) v (colsT R c)) ∧ zaa (Below w3.heap.size w3 w'))
 case atStart => exact ⟨0, _, rfl, ⟨by omega⟩, HP5, HR5, HB5⟩
 case round =>
  clear HP5 HR5 HB5
  obtain ⟨c, v, rfl, HKc, HP, HR, HB⟩ := hrel
  obtain ⟨Av, cv, ev, -, hCv⟩ := Kd.R_reads HR.out
  subst ev
  have hr := zar HB.out hr3
  have hpv := box_cell HP.out
  by_cases hc : c < wi
  ·have hlt : (c : Int) < (wi : Int) := by omega
   clear hCv
   go_upto_region 6 with (fail)
   have hb := zac (Below.refl wr.heap.size wr) (.cells #[.int .i64 (c : Int)] 3)
   have hk := heap_alloc_new wr (.cells #[.int .i64 (c : Int)] 3)
   generalize wr.alloc (.cells #[.int .i64 (c : Int)] 3) = w6 at *
   obtain ⟨pv, hpvq⟩ : ∃ pv, pv = wr.heap.size := ⟨_, rfl⟩
   rw [← hpvq] at hk ⊢
   have HB6 := zaa.mk (zae HB.out hb)
   have HP6 := zaa.mk ((hb.block pc (zcm HP.out)).trans HP.out)
   have HR6 := zaa.mk (Kd.R_below HR.out hb)
   have hr6 := zar hb hr
   have hv6 := box_cell hk
   clear hb hk hpvq hr hpv HB HP HR
   have hst := colsT_succ R c
   have HPredi := zaa.mk (containsR_calls 73 Try.f73 Try.func73 (by kernel_rfl) rfl _ (newCol c) (some ⟨g1, 0, none⟩) cp R _ (Kd.C_below HC3.out HB6.out) (differs_pred _ pv c wi R hv6 hc a3 HRw.out))
   cases hany : R.any (newCol c) with
   | false =>
    rw [hany] at HPredi hst
    rw [if_neg (by simp), List.append_nil] at hst
    have HSt := zaa.mk hst
    clear hst hany
    go_wp2_with (first
     | (go_at_call 74; refine HPredi.out.mono ?_; rintro e w7 ⟨rfl, hb7⟩; have HB7 := zaa.mk (zae HB6.out hb7); have HP7 := zaa.mk ((hb7.block pc (zcm HP6.out)).trans HP6.out); have HR7 := zaa.mk (Kd.R_below HR6.out hb7); clear hb7))
    go_roundg (wi - (c + 1))
    case measure => have := HKc.out; omega
    case rel => exact ⟨c + 1, _, by first | rfl | (congr 1; omega), ⟨by have := HKc.out; omega⟩, HP7, ⟨by rw [HSt.out]; exact HR7.out⟩, HB7⟩
   | true =>
    rw [hany] at HPredi hst
    rw [if_pos rfl] at hst
    have HSt := zaa.mk hst
    clear hst hany
    go_upto_region 8 with (first
     | (go_at_call 74; refine HPredi.out.mono ?_; rintro e w7 ⟨rfl, hb7⟩; have HB7 := zaa.mk (zae HB6.out hb7); have HP7 := zaa.mk ((hb7.block pc (zcm HP6.out)).trans HP6.out); have HR7 := zaa.mk (Kd.R_below (Kd.R_bound HR6.out) hb7); have hp7 := box_cell HP7.out; have hv7 := zar hb7 hv6; have HS7 := zaa.mk hb7.size; clear hb7))
    have HR8 := zaa.mk (Kd.R_mono HR7.out (ok' := fun k => (pc < k ∧ k < w6.heap.size) ∨ w7.heap.size ≤ k) (fun k hk => .inl ⟨hk.1, hk.2.2.1⟩))
    have HCl7 := zaa.mk (colsT_length R c)
    have HNum := zaa.mk (show pc < w6.heap.size ∧ w6.heap.size ≤ w7.heap.size ∧ pc = w3.heap.size from ⟨zcm HP6.out, HS7.out, HPc.out⟩)
    go_upto_region 9 with (first
     | ((with_reducible refine zax (b := .append) (xs := #[.tmp 22, .tmp 24]) rfl ?_); at_builtin; refine Kd.R_append (Kd.int .i64) (w0 := w3) w3.heap.size rfl (.tmp 22) (.tmp 24) 24 3 (.int .i64 0) 8 rfl Try.underlying24 info3 rfl (by decide) (by omega) (.slice Av (colsT R c).length cv) (colsT R c) (c : Int) [.int .i64 (c : Int)] (fun k => (pc < k ∧ k < w6.heap.size) ∨ w7.heap.size ≤ k) (fun _ => False) rfl rfl ?aP (fun _ hk => hk.elim) ?aF ?aO ?aB ?aS ?aL ?_; (case aP => exact rfl); (case aB => exact HB7.out); (case aF => exact (fun k_ hk => .inr hk)); (case aO => exact HR8.out); (case aS => exact HB7.out.size); (case aL => have := HCl7.out; omega); intro v8 w8 ho8 hb8 hg8 hat8; rw [← HSt.out] at ho8; obtain ⟨A9, c9, e9⟩ := Kd.R_slice ho8; subst e9; have HR9 := zaa.mk ho8; have HB9 := zaa.mk hb8; have HK9 := zaa.mk (Kept.of_grown hg8 (Kept.refl w7 (fun k => pc < k ∧ k < w6.heap.size)) (fun k hk => HR8.out.1 k hk)); have hO9 := blk_kept HP7.out HK9.out (fun z => by have hn := HNum.out; omega); have hf9 := zaw hO9 0; have hc9 := box_cell hO9; have HO9 := zaa.mk hO9; clear ho8 hb8 hg8 hat8 hO9))
    have HO10 := zaa.mk (set_one HO9.out (.slice A9 (colsT R (c + 1)).length c9))
    have HR10 := zaa.mk (Kd.R_mono (Kd.R_far (p := ⟨pc, 0, none⟩) HR9.out (fun k hk e => by have hn := HNum.out; have e' : k = pc := e; omega) (.slice A9 (colsT R (c + 1)).length c9)) (ok' := fun k => pc < k) (fun k hk => by have hn := HNum.out; omega))
    have HB10 := zaa.mk (show Below w3.heap.size w3 (w8.setCell ⟨pc, 0, none⟩ (.slice A9 (colsT R (c + 1)).length c9)) from zan HB9.out (by have hn := HNum.out; omega))
    go_wp2
    go_roundg (wi - (c + 1))
    case measure => have := HKc.out; omega
    case rel => exact ⟨c + 1, _, by first | rfl | (congr 1; omega), ⟨by have := HKc.out; omega⟩, HO10, HR10, HB10⟩
  ·have hge : ¬ (c : Int) < (wi : Int) := by omega
   have hcw : c = wi := by have := HKc.out; omega
   subst hcw
   have HB' := zaa.mk (zae HB3.out HB.out)
   have HRd := zaa.mk (tight2_read wr pr pc (some ⟨g1, 0, none⟩) Av cp cv c R (colsT R c) hr hpv (Kd.C_below HC3.out HB.out) hCv HRw.out HCr.out)
   have HRl := zaa.mk (show R.length ≤ 1048576 by omega)
   have HCl2 := zaa.mk (show (colsT R c).length ≤ 1048576 by omega)
   clear hCv
   go_wp2_with (first
    | (go_at_call 75; refine (blank_reads 76 Try.f76 Try.func76 (by kernel_rfl) rfl _ R.length (colsT R c).length _ _ HRd.out HRl.out HCl2.out).mono ?_; rintro e w14 ⟨A14, c14, rfl, hl14, hC14, hb⟩; have HC14 := zaa.mk hC14; have HL14 := zaa.mk hl14; have HB14 := zaa.mk (zae HB'.out hb); clear hC14 hl14 hb))
   go_ret
   have he : tightH cs rs = zbc R.length (colsT R c).length (fun r i => rd (R.getD r []) (rd (colsT R c) (i : Int))) := by unfold tightH; rw [HRR.out, HWi.out]; rfl
   rw [he]
   exact ⟨A14, c14, rfl, HL14.out, HC14.out, HB14.out⟩
theorem ordL_id : ∀ (xs o : List Int), (∀ x ∈ xs, x ∈ o) → ordL xs o = o
 | [], _, _ => rfl
 | x :: r, o, h => by
  show ordL r (pushL o x) = o
  have : pushL o x = o := by unfold pushL; rw [if_pos (h x List.mem_cons_self)]
  rw [this]
  exact ordL_id r o fun y hy => h y (List.mem_cons_of_mem _ hy)
theorem pushL_self (o : List Int) (x : Int) : x ∈ pushL o x := by
 unfold pushL
 split
 ·assumption
 ·simp
theorem ordL_rep (n : Nat) (x : Int) (o : List Int) : ordL (List.replicate (n + 1) x) o = pushL o x := by
 rw [List.replicate_succ]
 show ordL (List.replicate n x) (pushL o x) = _
 exact ordL_id _ _ fun y hy => by rw [(List.mem_replicate.1 hy).2]; exact pushL_self o x
theorem ordL_stretch (k : Nat) : ∀ (row o : List Int), ordL (row.flatMap (List.replicate (k + 1))) o = ordL row o
 | [], _ => rfl
 | x :: r, o => by
  rw [List.flatMap_cons, zck, ordL_rep, ordL_stretch k r]
  rfl
theorem ordL_reps (k : Nat) (row o : List Int) : ordL (List.replicate (k + 1) row).flatten o = ordL row o := by
 rw [List.replicate_succ, List.flatten_cons, zck]
 refine ordL_id _ _ fun x hx => ?_
 obtain ⟨r, hr, hxr⟩ := List.mem_flatten.1 hx
 rw [(List.mem_replicate.1 hr).2] at hxr
 exact ordL_mem row o x hxr
theorem ordL_wide (k : Nat) : ∀ (X : List (List Int)) (o : List Int), ordL (X.flatMap fun row => List.replicate (k + 1) (row.flatMap (List.replicate (k + 1)))).flatten o = ordL X.flatten o
 | [], _ => rfl
 | x :: r, o => by
  rw [List.flatMap_cons, List.flatten_append, zck, ordL_reps, ordL_stretch, ordL_wide k r, List.flatten_cons, zck]
theorem range_stretch (k : Nat) (f : Nat → Int) : ∀ w, ((List.range w).map f).flatMap (List.replicate (k + 1)) = (List.range ((k + 1) * w)).map fun c => f (c / (k + 1))
 | 0 => by simp
 | w + 1 => by
  rw [List.range_succ, List.map_append, List.flatMap_append, range_stretch k f w, Nat.mul_succ, List.range_add, List.map_append]
  congr 1
  rw [List.map_map]
  simp only [yci, ycj, List.flatMap_cons, List.flatMap_nil, List.append_nil]
  apply List.ext_getElem?
  intro i
  rw [List.getElem?_map]
  by_cases hi : i < k + 1
  ·rw [List.getElem?_range hi, List.getElem?_replicate, if_pos hi]
   show some (f w) = some (f (((k + 1) * w + i) / (k + 1)))
   rw [Nat.mul_add_div (by omega), Nat.div_eq_of_lt hi, Nat.add_zero]
  ·rw [List.getElem?_eq_none (by simp; omega), List.getElem?_eq_none (by simp; omega)]
   rfl
theorem wide_rows {X : List (List Int)} (hs : zbo X = true) (k : Nat) : zbc ((k + 1) * X.length) ((k + 1) * zaj X) (wideG (k + 1) X) = X.flatMap fun row => List.replicate (k + 1) (row.flatMap (List.replicate (k + 1))) := by
 have e1 := often_grid X.length ((k + 1) * zaj X) (k + 1) (by omega) (fun r c => zbe X r (c / (k + 1)))
 have e2 : zbc X.length ((k + 1) * zaj X) (fun r c => zbe X r (c / (k + 1))) = X.map fun row => row.flatMap (List.replicate (k + 1)) := by
  have e := rect_eq (zch hs)
  conv => rhs; rw [e]
  unfold zbc
  rw [List.map_map]
  apply List.map_congr_left
  intro r _
  exact (range_stretch k (zbe X r) (zaj X)).symm
 rw [e2] at e1
 unfold wideG
 rw [← e1]
 unfold oftenG
 rw [List.flatMap_map]
theorem wide_ord {X : List (List Int)} (hs : zbo X = true) (k : Nat) : zbl (zbc ((k + 1) * X.length) ((k + 1) * zaj X) (wideG (k + 1) X)) = zbl X := by
 rw [wide_rows hs]
 exact ordL_wide k X []
theorem mid_of {p : List ByteArray} {cs : List (List Int)} {rs : List Rc} (F : PlanFacts p cs rs) : Mid p (zaj cs) := by
 have hsm := gridOk_small F.canon.grid
 rw [F.wide] at hsm
 exact ⟨by have := hsm.high; omega, by have := hsm.wide; omega, hsm.row⟩
theorem remade_none {p : List ByteArray} (h : zcg p = none) (how : List (List Int) → List Rc → List (List Int)) : remadeF p how = ([], false) := by unfold remadeF; rw [h]
section
variable {α β : Type}
theorem snocInd {P : List α → Prop} (h0 : P []) (h1 : ∀ l x, P l → P (l ++ [x])) (l : List α) : P l := by
 rw [← l.reverse_reverse]
 induction l.reverse with
 | nil => exact h0
 | cons a r ih => rw [List.reverse_cons]; exact h1 _ _ ih
variable [DecidableEq α] [DecidableEq β]
def putL (L : List α) (x : α) : List α := if L.getLast? = some x then L else L ++ [x]
def zbj (l : List α) : List α := l.foldl putL []
theorem onceL_snoc (l : List α) (x : α) : zbj (l ++ [x]) = putL (zbj l) x := by simp [zbj]
theorem putL_last (L : List α) (x : α) : (putL L x).getLast? = some x := by
 unfold putL
 split
 ·assumption
 ·simp
theorem onceL_last (l : List α) : (zbj l).getLast? = l.getLast? := by
 induction l using snocInd with
 | h0 => rfl
 | h1 l x _ => rw [onceL_snoc, putL_last]; simp
theorem zcj (l : List α) (x : α) : zbj (l ++ [x]) = if l.getLast? = some x then zbj l else zbj l ++ [x] := by
 rw [onceL_snoc]
 unfold putL
 rw [onceL_last]
theorem onceL_sub (l : List α) : ∀ x ∈ zbj l, x ∈ l := by
 induction l using snocInd with
 | h0 => intro x hx; cases hx
 | h1 l x ih =>
  intro y hy
  rw [zcj] at hy
  split at hy
  ·exact List.mem_append_left _ (ih y hy)
  ·rcases List.mem_append.1 hy with h | h
   ·exact List.mem_append_left _ (ih y h)
   ·exact List.mem_append_right _ h
theorem onceL_mem (l : List α) : ∀ x ∈ l, x ∈ zbj l := by
 induction l using snocInd with
 | h0 => intro x hx; cases hx
 | h1 l x ih =>
  intro y hy
  rw [zcj]
  rcases List.mem_append.1 hy with h | h
  ·split
   ·exact ih y h
   ·exact List.mem_append_left _ (ih y h)
  ·rw [List.mem_singleton] at h
   subst h
   split
   ·rename_i hl
    rw [← onceL_last] at hl
    exact List.mem_of_getLast? hl
   ·simp
theorem onceL_len (l : List α) : (zbj l).length ≤ l.length ∧ (1 ≤ l.length → 1 ≤ (zbj l).length) := by
 constructor
 ·induction l using snocInd with
  | h0 => exact yco _
  | h1 l x ih => rw [zcj]; split <;> simp <;> omega
 ·intro h
  obtain ⟨x, hx⟩ : ∃ x, x ∈ l := ⟨l[0], List.getElem_mem _⟩
  exact List.length_pos_of_mem (onceL_mem l x hx)
theorem onceL_map (f : α → β) : ∀ l : List α, (∀ x ∈ l, ∀ y ∈ l, f x = f y → x = y) → zbj (l.map f) = (zbj l).map f := by
 intro l
 induction l using snocInd with
 | h0 => exact fun _ => rfl
 | h1 l x ih => ?_
 intro hf
 have ih := ih (fun a ha b hb => hf a (List.mem_append_left _ ha) b (List.mem_append_left _ hb))
 rw [List.map_append, yci, ycj, zcj, zcj, ih, List.getLast?_map]
 by_cases h : l.getLast? = some x
 ·rw [if_pos h, h, if_pos (show Option.map f (some x) = some (f x) from rfl)]
 ·rw [if_neg h, if_neg]
  ·simp
  ·intro h2
   obtain ⟨y, hy, e⟩ := Option.map_eq_some_iff.1 h2
   have := hf y (List.mem_append_left _ (List.mem_of_getLast? hy)) x (by simp) e
   subst this
   exact h hy
theorem onceL_again (l : List α) : zbj (zbj l) = zbj l := by
 induction l using snocInd with
 | h0 => rfl
 | h1 l x ih => ?_
 rw [zcj]
 split
 ·exact ih
 ·rename_i h
  rw [zcj, onceL_last, if_neg h, ih]
theorem onceL_rep (n : Nat) (l : List α) (x : α) : zbj (l ++ List.replicate (n + 1) x) = zbj (l ++ [x]) := by
 induction n with
 | zero => rfl
 | succ n ih =>
  rw [List.replicate_succ', ← List.append_assoc, zcj, if_pos (by rw [List.replicate_succ', ← List.append_assoc]; simp), ih]
theorem onceL_often (n : Nat) (l : List α) : zbj (l.flatMap (List.replicate (n + 1))) = zbj l := by
 induction l using snocInd with
 | h0 => rfl
 | h1 l x ih => ?_
 rw [List.flatMap_append, List.flatMap_cons, List.flatMap_nil, List.append_nil, onceL_rep, zcj, zcj, ih]
 have : (l.flatMap (List.replicate (n + 1))).getLast? = l.getLast? := by
  rw [← onceL_last, ih, onceL_last]
 rw [this]
theorem onceL_ix (l : List α) : ∃ ρ : Nat → Nat, (∀ r, r < (zbj l).length → ρ r < l.length ∧ (zbj l)[r]? = l[ρ r]?) ∧ (∀ r r', r ≤ r' → r' < (zbj l).length → ρ r ≤ ρ r') := by
 induction l using snocInd with
 | h0 => exact ⟨fun _ => 0, fun r h => by simp [zbj] at h, fun r r' _ h => by simp [zbj] at h⟩
 | h1 l x ih => ?_
 obtain ⟨ρ, h1, h2⟩ := ih
 rw [zcj]
 split
 ·refine ⟨ρ, fun r hr => ?_, h2⟩
  obtain ⟨a, b⟩ := h1 r hr
  exact ⟨by simp; omega, by rw [b, List.getElem?_append_left a]⟩
 ·refine ⟨fun r => if r = (zbj l).length then l.length else ρ r, fun r hr => ?_, fun r r' hrr hr' => ?_⟩
  ·by_cases e : r = (zbj l).length
   ·simp [e]
   ·have hr : r < (zbj l).length := by simp at hr; omega
    obtain ⟨a, b⟩ := h1 r hr
    simp only [if_neg e]
    exact ⟨by simp; omega, by rw [List.getElem?_append_left hr, List.getElem?_append_left a, b]⟩
  ·simp only [List.length_append, List.length_singleton] at hr'
   dsimp only
   split <;> split
   ·exact yco _
   ·omega
   ·exact Nat.le_of_lt (h1 r (by omega)).1
   ·exact h2 r r' hrr (by omega)
def newN (f : Nat → α) (c : Nat) : Bool := decide (c = 0) || decide (f c ≠ f (c - 1))
theorem onceL_range (f : Nat → α) : ∀ n, zbj ((List.range n).map f) = ((List.range n).filter (newN f)).map f
 | 0 => rfl
 | n + 1 => by
  rw [List.range_succ, List.map_append, yci, ycj, zcj, onceL_range f n, List.filter_append, List.map_append]
  cases n with
  | zero => simp [newN]
  | succ n =>
   have e : ((List.range (n + 1)).map f).getLast? = some (f n) := by rw [List.range_succ]; simp
   rw [e]
   by_cases h : f n = f (n + 1)
   ·rw [if_pos (by rw [h])]
    simp [newN, h]
   ·rw [if_neg (by intro h2; exact h (Option.some.inj h2))]
    have h' : ¬ f (n + 1) = f n := fun e => h e.symm
    simp [newN, h']
end
theorem foldR_once (rows : List (List Int)) : foldR rows = zbj rows := by
 induction rows using snocInd with
 | h0 => rfl
 | h1 l x ih =>
  rw [foldR_snoc, onceL_snoc, ih]
  rfl
def newP (R : List (List Int)) (c : Nat) : Bool := R.any (newCol c)
def zco (R : List (List Int)) (w : Nat) : List Nat := (List.range w).filter (newP R)
def thinR (R : List (List Int)) (w : Nat) (row : List Int) : List Int := (zco R w).map fun (c : Nat) => rd row (c : Int)
theorem colsT_kept (R : List (List Int)) (w : Nat) : colsT R w = (zco R w).map fun (c : Nat) => (c : Int) := rfl
theorem newP_false {R : List (List Int)} {c : Nat} (h1 : 1 ≤ R.length) (h : newP R c = false) : 1 ≤ c ∧ ∀ row ∈ R, rd row (c : Int) = rd row ((c - 1 : Nat) : Int) := by
 unfold newP at h
 rw [List.any_eq_false] at h
 have h2 : ∀ row ∈ R, ¬ c = 0 ∧ rd row (c : Int) = rd row ((c - 1 : Nat) : Int) := fun row hr => by
  have := h row hr
  unfold newCol at this
  simp at this
  exact this
 exact ⟨by have := (h2 R[0] (List.getElem_mem _)).1; omega, fun row hr => (h2 row hr).2⟩
theorem kept_for {R : List (List Int)} (h1 : 1 ≤ R.length) (w : Nat) : ∀ c, c < w → ∃ c' ∈ zco R w, c' ≤ c ∧ ∀ row ∈ R, rd row (c : Int) = rd row (c' : Int) := by
 intro c
 induction c with
 | zero =>
  intro hc
  refine ⟨0, ?_, yco _, fun _ _ => rfl⟩
  unfold zco
  rw [List.mem_filter, List.mem_range]
  refine ⟨hc, ?_⟩
  cases h : newP R 0 with
  | true => rfl
  | false => have := (newP_false h1 h).1; omega
 | succ c ih =>
  intro hc
  cases h : newP R (c + 1) with
  | true => exact ⟨c + 1, by unfold zco; rw [List.mem_filter, List.mem_range]; exact ⟨hc, h⟩, yco _, fun _ _ => rfl⟩
  | false =>
   obtain ⟨c', m, l, e⟩ := ih (by omega)
   refine ⟨c', m, by omega, fun row hr => ?_⟩
   rw [(newP_false h1 h).2 row hr]
   exact e row hr
theorem kept_pos {R : List (List Int)} (h1 : 1 ≤ R.length) {w : Nat} (hw : 1 ≤ w) : 1 ≤ (zco R w).length := by
 obtain ⟨c', m, -⟩ := kept_for h1 w 0 (by omega)
 exact List.length_pos_of_mem m
theorem kept_le (R : List (List Int)) (w : Nat) : (zco R w).length ≤ w := by
 have := List.length_filter_le (newP R) (List.range w)
 rw [List.length_range] at this
 exact this
theorem kept_lt {R : List (List Int)} {w i : Nat} (hi : i < (zco R w).length) : (zco R w)[i] < w := by
 have := List.getElem_mem hi
 unfold zco at this
 exact List.mem_range.1 (List.mem_filter.1 this).1
theorem kept_mono {R : List (List Int)} {w i j : Nat} (hij : i < j) (hj : j < (zco R w).length) : (zco R w)[i] < (zco R w)[j] := by
 have : (zco R w).Pairwise (· < ·) := List.Pairwise.filter _ List.pairwise_lt_range
 exact List.pairwise_iff_getElem.1 this i j (by omega) hj hij
def zbs (X : List (List Int)) : List (List Int) := (zbj X).map (thinR (zbj X) (zaj X))
theorem tightH_X (cs : List (List Int)) (rs : List Rc) : tightH cs rs = zbs cs := by
 unfold tightH zbs tightG
 rw [foldR_once, colsT_kept]
 generalize zbj cs = R
 unfold zbc thinR
 rw [List.length_map]
 generalize zco R (zaj cs) = K
 apply List.ext_getElem?
 intro r
 rw [List.getElem?_map, List.getElem?_map]
 by_cases hr : r < R.length
 ·rw [List.getElem?_range hr, List.getElem?_eq_getElem hr]
  simp only [Option.map_some]
  congr 1
  apply List.ext_getElem?
  intro i
  rw [List.getElem?_map, List.getElem?_map]
  by_cases hi : i < K.length
  ·rw [List.getElem?_range hi, List.getElem?_eq_getElem hi]
   simp only [Option.map_some]
   rw [rd_at (p := K.map fun (c : Nat) => (c : Int)) (i := i) (s := ((K[i] : Nat) : Int)) (by rw [List.getElem?_map, List.getElem?_eq_getElem hi]; rfl)]
   congr 2
   rw [ycm, List.getElem?_eq_getElem hr]
   rfl
  ·rw [List.getElem?_eq_none (by simp; omega), List.getElem?_eq_none (by omega)]
   rfl
 ·rw [List.getElem?_eq_none (by simp; omega), List.getElem?_eq_none (by omega)]
  rfl
end Go.Proofs.Ytickdcegnlldjaa.Hd
namespace Go.Proofs.Ytickdcegnlldjaa.Hd
open Go.RowKit Go.PW.PrintWords Go.PW.PrintLast Go.PW.PrintMore Go.Proofs.Ytickdcegnlldjaa.PB
theorem valAt_rd {R : List (List Int)} {r : Nat} {row : List Int} (h : R[r]? = some row) (c : Nat) : zbe R r c = rd row (c : Int) := by
 unfold zbe rd
 rw [ycm (l := R), h, Int.toNat_natCast]
 rfl
theorem once_dims {X : List (List Int)} (hX : OkG X) : 1 ≤ (zbj X).length ∧ (zbj X).length ≤ X.length ∧ ∀ r ∈ zbj X, r.length = zaj X := by
 have hd := hX.dims
 have hl := onceL_len X
 exact ⟨hl.2 hd.1, hl.1, fun r hr => zch hX.shape r (onceL_sub X r hr)⟩
theorem tight_get (X : List (List Int)) {r i : Nat} {row : List Int} (hr : (zbj X)[r]? = some row) (hi : i < (zco (zbj X) (zaj X)).length) : zbe (zbs X) r i = rd row (((zco (zbj X) (zaj X))[i] : Nat) : Int) := by
 have h1 : (zbs X)[r]? = some (thinR (zbj X) (zaj X) row) := by unfold zbs; rw [List.getElem?_map, hr]; rfl
 rw [valAt_rd h1]
 exact rd_at (by unfold thinR; rw [List.getElem?_map, List.getElem?_eq_getElem hi]; rfl)
theorem tight_len (X : List (List Int)) : (zbs X).length = (zbj X).length := by unfold zbs; rw [List.length_map]
theorem tight_rect (X : List (List Int)) : Rect (zco (zbj X) (zaj X)).length (zbs X) := by
 intro r hr
 obtain ⟨row, -, rfl⟩ := List.mem_map.1 hr
 unfold thinR
 rw [List.length_map]
theorem tight_re {X : List (List Int)} (hX : OkG X) : ∃ ρ κ : Nat → Nat, zbs X = reG X (zbj X).length (zco (zbj X) (zaj X)).length (fun r _ => ρ r) (fun _ c => κ c) ∧
  (∀ r, r < (zbj X).length → ρ r < X.length) ∧ (∀ c, c < (zco (zbj X) (zaj X)).length → κ c < zaj X) ∧ (∀ r r', r ≤ r' → r' < (zbj X).length → ρ r ≤ ρ r') ∧ (∀ c c', c ≤ c' → c' < (zco (zbj X) (zaj X)).length → κ c ≤ κ c') := by
 obtain ⟨ρ, h1, h2⟩ := onceL_ix X
 refine ⟨ρ, fun c => (zco (zbj X) (zaj X)).getD c 0, ?_, fun r hr => (h1 r hr).1, fun c hc => ?_, h2, fun c c' hcc hc' => ?_⟩
 ·have e := rect_eq (tight_rect X)
  rw [tight_len] at e
  refine e.trans (gridOf_congr fun r c hr hc => ?_)
  have hrow : (zbj X)[r]? = some (zbj X)[r] := List.getElem?_eq_getElem hr
  rw [tight_get X hrow hc]
  have hx := hrow.symm.trans (h1 r hr).2
  rw [valAt_rd hx.symm]
  dsimp only
  rw [ycm, List.getElem?_eq_getElem hc]
  rfl
 ·dsimp only
  rw [ycm, List.getElem?_eq_getElem hc]
  exact kept_lt hc
 ·dsimp only
  rw [ycm, ycm, List.getElem?_eq_getElem hc', List.getElem?_eq_getElem (by omega)]
  rcases Nat.lt_or_eq_of_le hcc with h | h
  ·exact Nat.le_of_lt (kept_mono h hc')
  ·subst h; exact yco _
theorem tight_ok {X : List (List Int)} (hX : OkG X) : OkG (zbs X) := by
 obtain ⟨ρ, κ, e, h1, h2, m1, m2⟩ := tight_re hX
 obtain ⟨d1, d2, d3, d4⟩ := hX.dims
 obtain ⟨o1, o2, o3⟩ := once_dims hX
 have k1 := kept_pos o1 d3
 have k2 := kept_le (zbj X) (zaj X)
 rw [e]
 refine re_ok hX o1 (by omega) k1 (by omega) (fun r c hr hc => ⟨h1 r hr, h2 c hc⟩) (fun r c r' c' i j q1 q2 q3 q4 z1 z2 z3 z4 => ?_)
 have a1 := m1 (min r r') i z1 (by omega)
 have a2 := m1 i (max r r') z2 (by omega)
 have b1 := m2 (min c c') j z3 (by omega)
 have b2 := m2 j (max c c') z4 (by omega)
 refine ⟨?_, ?_, ?_, ?_⟩
 ·rcases Nat.le_total r r' with h | h
  ·rw [Nat.min_eq_left h] at a1; exact Nat.le_trans (Nat.min_le_left _ _) a1
  ·rw [Nat.min_eq_right h] at a1; exact Nat.le_trans (Nat.min_le_right _ _) a1
 ·rcases Nat.le_total r r' with h | h
  ·rw [Nat.max_eq_right h] at a2; exact Nat.le_trans a2 (Nat.le_max_right _ _)
  ·rw [Nat.max_eq_left h] at a2; exact Nat.le_trans a2 (Nat.le_max_left _ _)
 ·rcases Nat.le_total c c' with h | h
  ·rw [Nat.min_eq_left h] at b1; exact Nat.le_trans (Nat.min_le_left _ _) b1
  ·rw [Nat.min_eq_right h] at b1; exact Nat.le_trans (Nat.min_le_right _ _) b1
 ·rcases Nat.le_total c c' with h | h
  ·rw [Nat.max_eq_right h] at b2; exact Nat.le_trans b2 (Nat.le_max_right _ _)
  ·rw [Nat.max_eq_left h] at b2; exact Nat.le_trans b2 (Nat.le_max_left _ _)
theorem ord_once (X : List (List Int)) (o : List Int) : ordL (zbj X).flatten o = ordL X.flatten o := by
 induction X using snocInd with
 | h0 => rfl
 | h1 l x ih =>
  rw [zcj, List.flatten_append, zck]
  split
  ·rename_i h
   rw [ih]
   refine (ordL_id _ _ fun y hy => ?_).symm
   have hx : x ∈ l := List.mem_of_getLast? h
   have hy' : y ∈ x := by simpa using hy
   exact ordL_mem _ _ _ (List.mem_flatten.2 ⟨x, hx, hy'⟩)
  ·rw [List.flatten_append, zck, ih]
theorem ord_thin (f : Nat → Int) (p : Nat → Bool) (o : List Int) : ∀ n, (∀ c, c < n → p c = false → 1 ≤ c ∧ f c = f (c - 1)) → ordL (((List.range n).filter p).map f) o = ordL ((List.range n).map f) o
 | 0, _ => rfl
 | n + 1, h => by
  have ih := ord_thin f p o n (fun c hc => h c (by omega))
  rw [List.range_succ, List.filter_append, List.map_append, List.map_append, zck, zck, ih]
  cases hp : p n with
  | true => simp [hp]
  | false =>
   obtain ⟨a, b⟩ := h n (by omega) hp
   have e : ([n].filter p).map f = [] := by simp [hp]
   rw [e]
   show ordL ((List.range n).map f) o = ordL ([n].map f) (ordL ((List.range n).map f) o)
   refine (ordL_id _ _ fun y hy => ?_).symm
   have hy' : y = f n := by simpa using hy
   rw [hy', b]
   exact ordL_mem _ _ _ (List.mem_map.2 ⟨n - 1, (List.mem_range (n := n)).2 (by omega), rfl⟩)
theorem row_range {row : List Int} {w : Nat} (h : row.length = w) : (List.range w).map (fun (c : Nat) => rd row (c : Int)) = row := by
 apply List.ext_getElem?
 intro i
 rw [List.getElem?_map]
 by_cases hi : i < w
 ·rw [List.getElem?_range hi, List.getElem?_eq_getElem (by omega)]
  exact congrArg some (rd_at (List.getElem?_eq_getElem (by omega)))
 ·rw [List.getElem?_eq_none (by simp; omega), List.getElem?_eq_none (by omega)]
  rfl
theorem ord_thinR {R : List (List Int)} (h1 : 1 ≤ R.length) {w : Nat} (row : List Int) (hm : row ∈ R) (hw : row.length = w) (o : List Int) : ordL (thinR R w row) o = ordL row o := by
 have := ord_thin (fun (c : Nat) => rd row (c : Int)) (newP R) o w (fun c hc hp => ⟨(newP_false h1 hp).1, (newP_false h1 hp).2 row hm⟩)
 rw [row_range hw] at this
 exact this
theorem ord_thins {R : List (List Int)} (h1 : 1 ≤ R.length) {w : Nat} : ∀ (S : List (List Int)) (o : List Int), (∀ row ∈ S, row ∈ R ∧ row.length = w) → ordL (S.map (thinR R w)).flatten o = ordL S.flatten o
 | [], o, _ => rfl
 | row :: S, o, h => by
  obtain ⟨a, b⟩ := h row (by simp)
  rw [yci, List.flatten_cons, List.flatten_cons, zck, zck, ord_thinR h1 row a b]
  exact ord_thins h1 S _ (fun r hr => h r (List.mem_cons_of_mem _ hr))
theorem tight_ord {X : List (List Int)} (hX : OkG X) : zbl (zbs X) = zbl X := by
 obtain ⟨o1, o2, o3⟩ := once_dims hX
 unfold zbl zbs
 rw [ord_thins o1 (zbj X) [] (fun r hr => ⟨hr, o3 r hr⟩), ord_once]
theorem tight_vals {X : List (List Int)} (hX : OkG X) {v : Int} (h : Vals (zbs X) v) : Vals X v := by
 rw [← ord_vals, tight_ord hX, ord_vals] at h
 exact h
theorem canon_id_iff {X : List (List Int)} (h : canon X = X) {v : Int} (hv : Vals X v) : ((zbl X).idxOf v : Int) = v := by
 unfold canon canonL at h
 obtain ⟨row, hr, hx⟩ := List.mem_flatten.1 hv
 obtain ⟨i, hi, e⟩ := List.getElem_of_mem hr
 have h2 := congrArg (fun L => L[i]?) h
 simp only [List.getElem?_map, List.getElem?_eq_getElem hi, Option.map_some, e] at h2
 have h3 := Option.some.inj h2
 obtain ⟨j, hj, e2⟩ := List.getElem_of_mem hx
 have h4 := congrArg (fun L => L[j]?) h3
 simp only [List.getElem?_map, List.getElem?_eq_getElem hj, Option.map_some, e2] at h4
 exact Option.some.inj h4
theorem tight_canon {X : List (List Int)} (hX : OkG X) (hc : canon X = X) : canon (zbs X) = zbs X := by
 unfold canon canonL
 rw [tight_ord hX]
 conv => rhs; rw [← List.map_id (zbs X)]
 apply List.map_congr_left
 intro row hr
 conv => rhs; rw [id, ← List.map_id row]
 apply List.map_congr_left
 intro x hx
 exact canon_id_iff hc (tight_vals hX (List.mem_flatten.2 ⟨row, hr, hx⟩))
theorem tight_plan {X : List (List Int)} (hX : OkG X) (hc : canon X = X) : planF (zbs X) = (zbq (zbs X), true) := by
 rw [(tight_ok hX).plan, tight_canon hX hc]
def tightF (p : List ByteArray) : List ByteArray × Bool := remadeF p tightH
theorem tight_good : goodHow tightH := by
 intro cs rs hk r hr x hx
 rw [tightH_X] at hr
 obtain ⟨row, hrow, rfl⟩ := List.mem_map.1 hr
 obtain ⟨c, hc, rfl⟩ := List.mem_map.1 hx
 have hm := onceL_sub cs row hrow
 have hl := hk.cells.row row hm
 have hcw : c < zaj cs := List.mem_range.1 (List.mem_filter.1 hc).1
 have hget : row[c]? = some row[c] := List.getElem?_eq_getElem (by omega)
 rw [rd_at hget]
 have := hk.cells.val row hm _ (List.getElem_mem (show c < row.length by omega))
 have := hk.many
 omega
theorem bytesOf_inj {a b : ByteArray} (h : bytesOf a = bytesOf b) : a = b := by
 unfold bytesOf at h
 have h2 : a.data.toList = b.data.toList := by
  have hinj : ∀ (l m : List UInt8), l.map (fun x => ((x.toNat : Nat) : Int)) = m.map (fun x => ((x.toNat : Nat) : Int)) → l = m := by
   intro l
   induction l with
   | nil => intro m h; cases m with
    | nil => rfl
    | cons a m => cases h
   | cons x l ih => intro m h; cases m with
    | nil => cases h
    | cons y m =>
     simp only [yci, List.cons.injEq] at h
     have : x = y := UInt8.toNat_inj.1 (by omega)
     rw [this, ih m h.2]
  exact hinj _ _ h
 cases a; cases b
 simp only at h2
 rw [Array.toList_inj.1 h2]
theorem numsOf_inj : ∀ {p q : List ByteArray}, zak p = zak q → p = q
 | [], [], _ => rfl
 | [], _ :: _, h => by cases h
 | _ :: _, [], h => by cases h
 | a :: p, b :: q, h => by
  unfold zak at h
  simp only [yci, List.cons.injEq] at h
  rw [bytesOf_inj h.1, numsOf_inj (p := p) (q := q) h.2]
theorem once_l0 (p : List ByteArray) (hp : p.length ≤ 1000) : ∀ m i, i + m = p.length → Evs (fun k => spec_l1Once.l0 k p (zbj (p.take i)) (i : Int)) (zbj p) := by
 intro m
 induction m with
 | zero =>
  intro i hi
  rw [List.take_of_length_le (by omega)]
  refine Evs.step (h := fun _ => some (zbj p)) (fun k => ?_) (Evs.const _)
  conv => lhs; unfold spec_l1Once.l0
  rw [if_neg (by omega)]
 | succ m ih =>
  intro i hi
  obtain ⟨s, hs⟩ : ∃ s, p[i]? = some s := ⟨_, List.getElem?_eq_getElem (by omega)⟩
  have hnx := ih (i + 1) (by omega)
  have et : p.take (i + 1) = p.take i ++ [s] := by rw [List.take_add_one, hs]; rfl
  have hl := (onceL_len (p.take i)).1
  rw [yck] at hl
  have hl2 : (zbj (p.take i)).length ≤ 1000 := by omega
  rw [et, zcj] at hnx
  refine Evs.step (h := fun k => spec_l1Once.l0 k p (if (p.take i).getLast? = some s then zbj (p.take i) else zbj (p.take i) ++ [s]) ((i + 1 : Nat) : Int)) (fun k => ?_) hnx
  conv => lhs; unfold spec_l1Once.l0
  rw [if_pos (by omega), zbr (by omega), zca hs]
  cases i with
  | zero =>
   rw [if_pos (by omega), if_pos (by omega), if_pos (by omega), if_neg (by simp)]
  | succ i =>
   obtain ⟨t, ht⟩ : ∃ t, p[i]? = some t := ⟨_, List.getElem?_eq_getElem (by omega)⟩
   have el : (p.take (i + 1)).getLast? = some t := by rw [List.take_add_one, ht]; simp
   have ew : wrap64 (((i + 1 : Nat) : Int) - 1) = (i : Int) := by rw [zas (by omega) (by omega)]; omega
   rw [if_neg (by omega), if_pos (by omega), ew, if_pos (by omega), if_pos (by omega), zca ht, el]
   by_cases h : s = t
   ·rw [if_pos (toList_inj.2 h), if_pos (by rw [h])]
   ·rw [if_neg (fun e => h (toList_inj.1 e)), if_pos (by omega), if_neg (fun e => h (Option.some.inj e).symm)]
theorem l1Once_ev (p : List ByteArray) (hp : p.length ≤ 1000) : Evs (fun k => spec_l1Once.f k p) (zbj p) := once_l0 p hp p.length 0 (by omega)
theorem nums_once (p : List ByteArray) : zak (zbj p) = zbj (zak p) := (onceL_map bytesOf p (fun _ _ _ _ h => bytesOf_inj h)).symm
theorem once_mapG (a : Int) (X : List (List Int)) : zbj (mapG (fun x => a + x) X) = mapG (fun x => a + x) (zbj X) := by
 refine onceL_map _ X (fun x _ y _ h => ?_)
 have hinj : ∀ (l m : List Int), l.map (fun x => a + x) = m.map (fun x => a + x) → l = m := by
  intro l
  induction l with
  | nil => intro m h; cases m with
   | nil => rfl
   | cons a m => cases h
  | cons x l ih => intro m h; cases m with
   | nil => cases h
   | cons y m =>
    simp only [yci, List.cons.injEq] at h
    rw [show x = y by omega, ih m h.2]
 exact hinj x y h
def tightTexts (p : List ByteArray) (wi : Nat) : List ByteArray := transOf (zbj (transOf (zbj p) wi)) (zbj p).length
theorem grid_cols {R : List (List Int)} {w : Nat} (a : Int) (hw : ∀ r ∈ R, r.length = w) : zbc w R.length (fun c r => zbe (mapG (fun x => a + x) R) r c) = (List.range w).map fun (c : Nat) => R.map fun row => a + rd row (c : Int) := by
 unfold zbc
 apply List.map_congr_left
 intro c hc
 have hc := List.mem_range.1 hc
 apply List.ext_getElem?
 intro r
 rw [List.getElem?_map, List.getElem?_map]
 by_cases hr : r < R.length
 ·rw [List.getElem?_range hr, List.getElem?_eq_getElem hr]
  simp only [Option.map_some]
  congr 1
  have hl := hw _ (List.getElem_mem hr)
  rw [valAt_rd (R := mapG (fun x => a + x) R) (row := R[r].map fun x => a + x) (by unfold mapG; rw [List.getElem?_map, List.getElem?_eq_getElem hr]; rfl)]
  rw [rd_at (i := c) (s := a + R[r][c]) (by rw [List.getElem?_map, List.getElem?_eq_getElem (by omega)]; rfl), rd_at (p := R[r]) (i := c) (List.getElem?_eq_getElem (by omega))]
 ·rw [List.getElem?_eq_none (by simp; omega), List.getElem?_eq_none (by omega)]
  rfl
theorem new_same {R : List (List Int)} (h1 : 1 ≤ R.length) (a : Int) (c : Nat) : newN (fun (c : Nat) => R.map fun row => a + rd row (c : Int)) c = newP R c := by
 unfold newN newP newCol
 rw [Bool.eq_iff_iff]
 simp only [Bool.or_eq_true, decide_eq_true_eq, List.any_eq_true, bne_iff_ne, ne_eq]
 constructor
 ·rintro (h | h)
  ·exact ⟨R[0], List.getElem_mem _, .inl h⟩
  ·by_cases h2 : ∃ x, x ∈ R ∧ ¬ rd x (c : Int) = rd x ((c - 1 : Nat) : Int)
   ·obtain ⟨x, hx, e⟩ := h2
    exact ⟨x, hx, .inr e⟩
   ·exact absurd (List.map_congr_left fun x hx => by
     have : rd x (c : Int) = rd x ((c - 1 : Nat) : Int) := Classical.byContradiction fun e => h2 ⟨x, hx, e⟩
     rw [this]) h
 ·rintro ⟨x, hx, h | h⟩
  ·exact .inl h
  ·refine .inr fun e => h ?_
   obtain ⟨i, hi, ei⟩ := List.getElem_of_mem hx
   have := congrArg (fun L => L[i]?) e
   simp only [List.getElem?_map, List.getElem?_eq_getElem hi, Option.map_some, ei, Option.some.injEq] at this
   omega
theorem tight_nums {p : List ByteArray} {cs : List (List Int)} {rs : List Rc} (F : PlanFacts p cs rs) (hX : OkG cs) : zak (tightTexts p (zaj cs)) = mapG (fun x => 97 + x) (zbs cs) := by
 obtain ⟨o1, o2, o3⟩ := once_dims hX
 unfold tightTexts
 have e1 : zak (zbj p) = mapG (fun x => 97 + x) (zbj cs) := by rw [nums_once, F.nums, once_mapG]
 have el : (zbj p).length = (zbj cs).length := by
  have := congrArg List.length e1
  unfold zak mapG at this
  rw [List.length_map, List.length_map] at this
  exact this
 rw [numsOf_trans, nums_once, numsOf_trans, e1, el, grid_cols 97 o3, onceL_range]
 rw [List.filter_congr (fun c _ => new_same o1 97 c)]
 unfold zbs
 generalize zbj cs = R at *
 have : (zbj (transOf (zbj p) (zaj cs))).length = (zco R (zaj cs)).length := by
  rw [← zbp, nums_once, numsOf_trans, e1, el, grid_cols 97 o3, onceL_range, List.length_map, List.filter_congr (fun c _ => new_same o1 97 c)]
  rfl
 rw [this]
 unfold mapG thinR zbc
 rw [List.map_map]
 show _ = R.map fun row => ((zco R (zaj cs)).map fun (c : Nat) => rd row (c : Int)).map fun x => 97 + x
 show (List.range R.length).map (fun r => (List.range (zco R (zaj cs)).length).map fun c => zbe ((zco R (zaj cs)).map fun (c : Nat) => R.map fun row => 97 + rd row (c : Int)) c r) = _
 generalize zco R (zaj cs) = K
 apply List.ext_getElem?
 intro r
 rw [List.getElem?_map, List.getElem?_map]
 by_cases hr : r < R.length
 ·rw [List.getElem?_range hr, List.getElem?_eq_getElem hr]
  simp only [Option.map_some]
  congr 1
  apply List.ext_getElem?
  intro i
  rw [List.getElem?_map, List.getElem?_map, List.getElem?_map]
  by_cases hi : i < K.length
  ·rw [List.getElem?_range hi, List.getElem?_eq_getElem hi]
   simp only [Option.map_some]
   congr 1
   rw [valAt_rd (row := R.map fun row => 97 + rd row ((K[i] : Nat) : Int)) (by rw [List.getElem?_map, List.getElem?_eq_getElem hi]; rfl)]
   exact rd_at (by rw [List.getElem?_map, List.getElem?_eq_getElem hr]; rfl)
  ·rw [List.getElem?_eq_none (by simp; omega), List.getElem?_eq_none (by omega)]
   rfl
 ·rw [List.getElem?_eq_none (by simp; omega), List.getElem?_eq_none (by omega)]
  rfl
theorem mid_once {p : List ByteArray} {wi : Nat} (h : Mid p wi) : Mid (zbj p) wi := ⟨Nat.le_trans (onceL_len p).1 h.high, h.wide, fun s hs => h.row s (onceL_sub p s hs)⟩
theorem tight_text {p : List ByteArray} {cs : List (List Int)} {rs : List Rc} (F : PlanFacts p cs rs) (hX : OkG cs) : tightTexts p (zaj cs) = zbq (zbs cs) := by
 apply numsOf_inj
 rw [tight_nums F hX, numsOf_textOf]
 ·rfl
 ·intro r hr x hx
  rw [← tightH_X cs rs] at hr
  have hk := F.ok
  rw [tightH_X] at hr
  obtain ⟨row, hrow, rfl⟩ := List.mem_map.1 hr
  obtain ⟨c, hc, rfl⟩ := List.mem_map.1 hx
  have hm := onceL_sub cs row hrow
  have hl := hk.cells.row row hm
  have hcw : c < zaj cs := List.mem_range.1 (List.mem_filter.1 hc).1
  have hget : row[c]? = some row[c] := List.getElem?_eq_getElem (by omega)
  rw [rd_at hget]
  have := hk.cells.val row hm _ (List.getElem_mem (show c < row.length by omega))
  have := hk.many
  omega
theorem PlanTight_ev (p : List ByteArray) (hp : smallP p) : Evs (fun k => spec_PlanTight.f k p) (tightF p) := by
 have h1 := PlanIn_ev p hp
 rcases planB_cases p with ⟨e1, f1⟩ | ⟨e1, cs, rs, f1⟩
 ·rw [e1] at h1
  unfold tightF
  rw [remade_none f1]
  exact Evs.bind h1 (Evs.neg (by simp) (Evs.const _))
 ·rw [e1] at h1
  have F := floor_facts f1
  obtain ⟨hX, hc, -, -⟩ := floor_okG f1
  have hd := hX.dims
  have l1 := F.len
  have M := mid_of F
  have hh := M.high
  have o1 : 1 ≤ (zbj p).length := (onceL_len p).2 (by omega)
  have M1 := mid_once M
  have M2 := mid_trans M1
  have M3 := mid_once M2
  have hh1 := M1.high
  have hh2 := M2.high
  have o3 : 1 ≤ (zbj (transOf (zbj p) (zaj cs))).length := (onceL_len _).2 (by rw [trans_length]; omega)
  have E1 := l1Once_ev p (by omega)
  have E2 := l1Trans_ev _ _ M1 o1
  have E3 := l1Once_ev (transOf (zbj p) (zaj cs)) (by omega)
  have E4 := l1Trans_ev _ _ M3 o3
  rw [show transOf (zbj (transOf (zbj p) (zaj cs))) (zbj p).length = tightTexts p (zaj cs) from rfl, tight_text F hX] at E4
  have er : tightF p = (zbq (zbs cs), true) := by
   unfold tightF remadeF
   rw [f1]
   show planF (tightH cs rs) = _
   rw [tightH_X, tight_plan hX hc]
  rw [er]
  refine Evs.bind h1 (Evs.pos rfl (Evs.bind (F := fun k t382 => some (t382, true)) ?_ (Evs.const _)))
  exact Evs.bind E1 (Evs.bind E2 (Evs.bind E3 (Evs.bind E4 (Evs.const _))))
set_option maxHeartbeats 4000000 in
set_option maxRecDepth 100000 in
theorem PlanTight_calls (A0 : Option Addr) (c0 : Nat) (l0 : List ByteArray) (w : World) (hr0 : Kd.C Kd.string w A0 l0.length l0) (hc0 : l0.length ≤ c0) (hp : smallP l0) :
  Calls Try.prog 33 #[.slice A0 l0.length c0] w (PlanRes w (remadeF l0 tightH)) := by
 have HR := zaa.mk hr0
 have HC := zaa.mk hc0
 have HP := zaa.mk hp
 clear hr0 hc0 hp
 generalize hM : remadeF l0 tightH = res
 have HM := zaa.mk hM
 clear hM
 go_enter Try.func33, Try.ntmps33
 go_wp2_with (first
  | (go_at_call 68; refine (remade_calls 69 Try.f69 Try.func69 (by kernel_rfl) rfl #[] tightH tight_good A0 c0 l0 _ HR.out HC.out HP.out (tight_fn _)).mono ?_; rw [HM.out]; rintro e w9 ⟨v9, rfl, hr9, hb9⟩; have HR9 := zaa.mk hr9; have HB9 := zaa.mk hb9; clear hr9 hb9))
 go_ret2
 exact ⟨v9, rfl, HR9.out, HB9.out⟩
def impl_PlanTight.f (l0 : List ByteArray) : Option (List ByteArray × Bool) := if smallB l0 = true then some (tightF l0) else none
theorem impl_PlanTight.calls (A0 : Option Addr) (c0 : Nat) (l0 : List ByteArray) (r1 : List ByteArray) (r2 : Bool) (w : World) (hr0 : Kd.C Kd.string w A0 l0.length l0) (hc0 : l0.length ≤ c0) (h : impl_PlanTight.f l0 = some (r1, r2)) :
  Calls Try.prog 33 #[.slice A0 l0.length c0] w fun e w' => ∃ v0_ : Value, e = .returned (.tuple #[v0_, .bool r2]) ∧ Kd.R Kd.string 9 w' w.heap.size (fun _ => True) v0_ r1 ∧ Below w.heap.size w w' := by
 unfold impl_PlanTight.f at h
 split at h
 ·rename_i hs
  have e : remadeF l0 tightH = (r1, r2) := Option.some.inj h
  have := PlanTight_calls A0 c0 l0 w hr0 hc0 ((smallB_iff _).1 hs)
  rw [e] at this
  exact this
 ·cases h
def zcn (p : List ByteArray) : Int × Bool := match zcg p with
 | none => (0, false)
 | some (_, rs) => (rs.length, true)
set_option maxHeartbeats 4000000 in
set_option maxRecDepth 100000 in
theorem PlanRooms_calls (A0 : Option Addr) (c0 : Nat) (l0 : List ByteArray) (w : World) (hr0 : Kd.C Kd.string w A0 l0.length l0) (hc0 : l0.length ≤ c0) (hp : smallP l0) :
  Calls Try.prog 37 #[.slice A0 l0.length c0] w fun e w' => e = .returned (.tuple #[.int .i64 (zcn l0).1, .bool (zcn l0).2]) ∧ Below w.heap.size w w' := by
 have HR := zaa.mk hr0
 have HC := zaa.mk hc0
 have HP := zaa.mk hp
 clear hr0 hc0 hp
 generalize hM : zcn l0 = res
 have HM := zaa.mk hM
 clear hM
 generalize hF : zcg l0 = t
 have HF := zaa.mk hF
 clear hF
 rcases t with _ | ⟨cs, rs⟩
 ·have e : res = (0, false) := by rw [← HM.out]; unfold zcn; rw [HF.out]
  subst e
  go_enter Try.func37, Try.ntmps37
  go_wp2_with (first
   | (go_at_call 49; refine (floorOf_calls A0 c0 l0 _ HR.out HC.out HP.out).mono ?_; rw [HF.out]; rintro e w8 ⟨hb8, v8, b8, rfl, rfl⟩; have HB8 := zaa.mk hb8; clear hb8))
  go_ret2
  exact ⟨rfl, HB8.out⟩
 ·have e : res = ((rs.length : Int), true) := by rw [← HM.out]; unfold zcn; rw [HF.out]
  subst e
  go_enter Try.func37, Try.ntmps37
  go_wp2_with (first
   | (go_at_call 49; refine (floorOf_calls A0 c0 l0 _ HR.out HC.out HP.out).mono ?_; rw [HF.out]; rintro e w8 ⟨hb8, v8, b8, rfl, rfl, g, rfl, hfl⟩; have HB8 := zaa.mk hb8; obtain ⟨Ar, cr, y1, -⟩ := hfl.rooms; clear hb8 hfl))
  go_ret2
  exact ⟨rfl, HB8.out⟩
def planAreasF (p : List ByteArray) : List Int × Bool := match zcg p with
 | none => ([], false)
 | some (_, rs) => (rs.map areaR, true)
def impl_PlanRooms.f (l0 : List ByteArray) : Option (Int × Bool) := if smallB l0 = true then some (zcn l0) else none
theorem impl_PlanRooms.calls (A0 : Option Addr) (c0 : Nat) (l0 : List ByteArray) (r1 : Int) (r2 : Bool) (w : World) (hr0 : Kd.C Kd.string w A0 l0.length l0) (hc0 : l0.length ≤ c0) (h : impl_PlanRooms.f l0 = some (r1, r2)) :
  Calls Try.prog 37 #[.slice A0 l0.length c0] w fun e w' => e = .returned (.tuple #[.int .i64 r1, .bool r2]) ∧ Below w.heap.size w w' := by
 unfold impl_PlanRooms.f at h
 split at h
 ·rename_i hs
  have e := Option.some.inj h
  have := PlanRooms_calls A0 c0 l0 w hr0 hc0 ((smallB_iff _).1 hs)
  rw [e] at this
  exact this
 ·cases h
def impl_PlanWide.f (l0 : List ByteArray) (a1 : Int) : Option (List ByteArray × Bool) := if smallB l0 = true then some (wideF l0 a1) else none
theorem impl_PlanWide.calls (A0 : Option Addr) (c0 : Nat) (l0 : List ByteArray) (a1 : Int) (r1 : List ByteArray) (r2 : Bool) (w : World) (hr0 : Kd.C Kd.string w A0 l0.length l0) (hc0 : l0.length ≤ c0) (h : impl_PlanWide.f l0 a1 = some (r1, r2)) :
  Calls Try.prog 38 #[.slice A0 l0.length c0, .int .i64 a1] w fun e w' => ∃ v0_ : Value, e = .returned (.tuple #[v0_, .bool r2]) ∧ Kd.R Kd.string 9 w' w.heap.size (fun _ => True) v0_ r1 ∧ Below w.heap.size w w' := by
 unfold impl_PlanWide.f at h
 split at h
 ·rename_i hs
  have e := Option.some.inj h
  have := PlanWide_calls A0 c0 l0 a1 w hr0 hc0 ((smallB_iff _).1 hs)
  rw [e] at this
  exact this
 ·cases h
end Go.Proofs.Ytickdcegnlldjaa.Hd
namespace Go.Proofs.Ytickdcegnlldjaa.TI
open Go.Proofs.Ytickdcegnlldjaa.PB Go.Proofs.Ytickdcegnlldjaa.Hd Go.Proofs.Ytickdcegnlldjaa.SM
open Go.RowKit Go.PW.PrintWords Go.PW.PrintLast Go.PW.PrintMore
attribute [local go_sem] zce zcc zcq zcp zbv zbu zcd zcb   -- for this text's walks alone
def errW : Option Int → Value
 | none => .nilIface
 | some c => .iface 0 (.int .i64 c)
theorem zap : errW none = .nilIface := rfl
theorem zao (c : Int) : errW (some c) = .iface 0 (.int .i64 c) := rfl
theorem info5 : (Try.prog.info? 5).map (fun i => (i.zero, i.size, i.bytes)) = some (some (.int .u8 0), 1, 1) := by kernel_rfl
theorem info9 : (Try.prog.info? 9).map (fun i => (i.zero, i.size, i.bytes)) = some (some (.string ⟨#[]⟩), 1, 16) := by kernel_rfl
def rd_L3 (xs : List (List Int)) (i : Int) : (List Int) := xs.getD i.toNat ([] : List Int)
theorem at_L3 {w : World} {A : Option Addr} {n : Nat} {xs : List (List Int)} (h : Kd.C (Kd.slice 3 (Kd.int .i64)) w A n xs) (i : Int) (h0 : 0 ≤ i) (h1 : i < n) : ∃ ad A0 c0, A = some ad ∧ w.cell? (ad.add i.toNat) = some (.slice A0 (rd_L3 xs i).length c0) ∧ (rd_L3 xs i).length ≤ c0 ∧ (Kd.int .i64).C w A0 (rd_L3 xs i).length (rd_L3 xs i) := by
 obtain ⟨ad, c, e, _, hK, hc0⟩ := Kd.C_get h ([] : List Int) i h0 h1
 have hc : ∀ j u, c[j]? = some u → w.cell? (ad.add (i.toNat * 1 + j)) = some u := hc0
 obtain ⟨A0, c0, rfl, l0, g0⟩ := hK
 exact ⟨ad, A0, c0, e, by have hq := hc 0 _ rfl; rwa [Nat.mul_one, Nat.add_zero] at hq, l0, g0⟩
structure S120 where
 f0 : Int
 f1 : Int
 f2 : Int
 f3 : Int
def z120 : S120 := ⟨(0 : Int), (0 : Int), (0 : Int), (0 : Int)⟩
def k120 : Kd S120 := Kd.iso (Kd.pair (Kd.int .i64) (Kd.pair (Kd.int .i64) (Kd.pair (Kd.int .i64) (Kd.int .i64)))) (fun x : S120 => (x.f0, x.f1, x.f2, x.f3))
theorem k120_open {w : World} {x : S120} {cs : List Value} (h : k120.K w x cs) : cs = [.int .i64 x.f0, .int .i64 x.f1, .int .i64 x.f2, .int .i64 x.f3] := by
 obtain ⟨_, _, rfl, rfl, ⟨_, _, rfl, rfl, ⟨_, _, rfl, rfl, rfl⟩⟩⟩ := h
 exact rfl
theorem k120_mkM (w : World) (base : Nat) (ok : Nat → Prop) (x : S120)  : k120.M w base ok x [.int .i64 x.f0, .int .i64 x.f1, .int .i64 x.f2, .int .i64 x.f3] := ⟨[.int .i64 x.f0], [.int .i64 x.f1, .int .i64 x.f2, .int .i64 x.f3], rfl, rfl, ⟨[.int .i64 x.f1], [.int .i64 x.f2, .int .i64 x.f3], rfl, rfl, ⟨[.int .i64 x.f2], [.int .i64 x.f3], rfl, rfl, rfl⟩⟩⟩
def rd_T120 (xs : List S120) (i : Int) : S120 := xs.getD i.toNat z120
theorem at_T120 {w : World} {A : Option Addr} {n : Nat} {xs : List S120} (h : Kd.C k120 w A n xs) (i : Int) (h0 : 0 ≤ i) (h1 : i < n) : ∃ ad , A = some ad ∧ w.cell? (ad.add (i.toNat * 4)) = some (.int .i64 (rd_T120 xs i).f0) ∧ w.cell? ⟨(ad.add (i.toNat * 4)).block, (ad.add (i.toNat * 4)).off + 1, none⟩ = some (.int .i64 (rd_T120 xs i).f1) ∧ w.cell? ⟨(ad.add (i.toNat * 4)).block, (ad.add (i.toNat * 4)).off + 2, none⟩ = some (.int .i64 (rd_T120 xs i).f2) ∧ w.cell? ⟨(ad.add (i.toNat * 4)).block, (ad.add (i.toNat * 4)).off + 3, none⟩ = some (.int .i64 (rd_T120 xs i).f3) := by
 obtain ⟨ad, c, e, _, hK, hc0⟩ := Kd.C_get h z120 i h0 h1
 have hc : ∀ j u, c[j]? = some u → w.cell? (ad.add (i.toNat * 4 + j)) = some u := hc0
 obtain rfl := k120_open hK
 exact ⟨ad, e, hc 0 _ rfl, by rw [← add_field _ _ 1 (by omega)]; exact hc 1 _ rfl, by rw [← add_field _ _ 2 (by omega)]; exact hc 2 _ rfl, by rw [← add_field _ _ 3 (by omega)]; exact hc 3 _ rfl⟩
end Go.Proofs.Ytickdcegnlldjaa.TI
namespace Go.Proofs.Ytickdcegnlldjaa.TI
open Go.Proofs.Ytickdcegnlldjaa.PB Go.Proofs.Ytickdcegnlldjaa.Hd Go.Proofs.Ytickdcegnlldjaa.SM
open Go.RowKit Go.PW.PrintWords Go.PW.PrintLast Go.PW.PrintMore
attribute [local go_sem] zce zcc zcq zcp zbv zbu zcd zcb   -- for this text's walks alone
def laws_FnTight.j0 : Nat → List ByteArray → List ByteArray → Bool → List ByteArray → Bool → Bool → Option (Bool)
 | 0, _, _, _, _, _, _ => none
 | k + 1, x3, x4, x5, x6, x7, x45 => if x45 = true then (if (x5 == x7) = true then ((laws_sameTexts.f k x4 x6).bind fun t384 => (some t384)) else (some false)) else ((impl_PlanTight.f x4).bind fun bt385 => ((impl_PlanRooms.f x3).bind fun bt389 => ((impl_PlanRooms.f x4).bind fun bt391 => ((impl_PlanWide.f x3 2).bind fun bt393 => ((impl_PlanTight.f bt393.1).bind fun bt397 => (if bt385.2 = true then (if bt389.2 = true then (if bt391.2 = true then ((laws_sameTexts.f k bt385.1 x4).bind fun t401 => (if t401 = true then (if bt389.1 = bt391.1 then (if bt393.2 = true then (if bt397.2 = true then ((laws_sameTexts.f k bt397.1 x4).bind fun t402 => (some t402)) else (some false)) else (some true)) else (some false)) else (some false))) else (some false)) else (some false)) else (some false)))))))
def laws_FnTight.f (k : Nat) (l0 : List Int) : Option (Bool) := if (l0.length : Int) > 1048576 then (some true) else ((spec_DrawPlanTight.f k l0).bind fun t372 => ((impl_PlanTight.f t372).bind fun bt375 => ((spec_PlanTight.f k t372).bind fun bt379 => (if (bt375.2 != bt379.2) = true then (laws_FnTight.j0 k t372 bt375.1 bt375.2 bt379.1 bt379.2 true) else ((laws_sameTexts.f k bt375.1 bt379.1).bind fun t383 => (if t383 = true then (laws_FnTight.j0 k t372 bt375.1 bt375.2 bt379.1 bt379.2 (!bt375.2)) else (laws_FnTight.j0 k t372 bt375.1 bt375.2 bt379.1 bt379.2 true)))))))
set_option maxHeartbeats 8000000 in
set_option maxRecDepth 100000 in
theorem laws_FnTight.calls (k : Nat) (A0 : Option Addr) (c0 : Nat) (l0 : List Int) (r : Bool) (w : World) (hr0 : Kd.C (Kd.int .u8) w A0 l0.length l0) (hc0 : l0.length ≤ c0) (h : laws_FnTight.f k l0 = some r) :
  Calls Try.prog 8 #[.slice A0 l0.length c0] w fun e w' => e = .returned (.bool r) ∧ Below w.heap.size w w' := by
 have HR0 := zaa.mk hr0
 have HC0 := zaa.mk hc0
 clear hr0 hc0
 have HB := zaa.mk (Below.refl w.heap.size w)
 have H : (if (l0.length : Int) > 1048576 then (some true) else ((spec_DrawPlanTight.f k l0).bind fun t372 => ((impl_PlanTight.f t372).bind fun bt375 => ((spec_PlanTight.f k t372).bind fun bt379 => (if (bt375.2 != bt379.2) = true then (laws_FnTight.j0 k t372 bt375.1 bt375.2 bt379.1 bt379.2 true) else ((laws_sameTexts.f k bt375.1 bt379.1).bind fun t383 => (if t383 = true then (laws_FnTight.j0 k t372 bt375.1 bt375.2 bt379.1 bt379.2 (!bt375.2)) else (laws_FnTight.j0 k t372 bt375.1 bt375.2 bt379.1 bt379.2 true)))))))) = some r := h
 clear h
 by_cases c2 : (l0.length : Int) > 1048576
 ·rw [if_pos c2] at H
  have c2b0 : decide (1048576 < (l0.length : Int)) = true := decide_eq_true c2
  have c2b1 : decide (1048576 < l0.length) = true := decide_eq_true (by omega)
  clear c2
  obtain rfl := Option.some.inj H
  go_enter Try.func8, Try.ntmps8
  go_wp2
  go_ret
  exact ⟨by first | rfl | (simp [zap, zao] <;> rfl) | (simp [*, zap, zao] <;> rfl), by repeat (first | (with_reducible first | exact HB.out | apply zac | apply zab | apply zad) | exact HB.out)⟩
 ·rw [if_neg c2] at H
  have c2b0 : decide (1048576 < (l0.length : Int)) = false := decide_eq_false c2
  have c2b1 : decide (1048576 < l0.length) = false := decide_eq_false (by omega)
  clear c2
  replace H := ycn.mp H
  obtain ⟨t372, A30, H⟩ := H
  replace H : ((impl_PlanTight.f t372).bind fun bt375 => ((spec_PlanTight.f k t372).bind fun bt379 => (if (bt375.2 != bt379.2) = true then (laws_FnTight.j0 k t372 bt375.1 bt375.2 bt379.1 bt379.2 true) else ((laws_sameTexts.f k bt375.1 bt379.1).bind fun t383 => (if t383 = true then (laws_FnTight.j0 k t372 bt375.1 bt375.2 bt379.1 bt379.2 (!bt375.2)) else (laws_FnTight.j0 k t372 bt375.1 bt375.2 bt379.1 bt379.2 true)))))) = some r := H
  have A3 := zaa.mk A30
  clear A30
  replace H := ycn.mp H
  obtain ⟨⟨t375, t376⟩, A40, H⟩ := H
  replace H : ((spec_PlanTight.f k t372).bind fun bt379 => (if (t376 != bt379.2) = true then (laws_FnTight.j0 k t372 t375 t376 bt379.1 bt379.2 true) else ((laws_sameTexts.f k t375 bt379.1).bind fun t383 => (if t383 = true then (laws_FnTight.j0 k t372 t375 t376 bt379.1 bt379.2 (!t376)) else (laws_FnTight.j0 k t372 t375 t376 bt379.1 bt379.2 true))))) = some r := H
  have A4 := zaa.mk A40
  clear A40
  replace H := ycn.mp H
  obtain ⟨⟨t379, t380⟩, A50, H⟩ := H
  replace H : (if (t376 != t380) = true then (laws_FnTight.j0 k t372 t375 t376 t379 t380 true) else ((laws_sameTexts.f k t375 t379).bind fun t383 => (if t383 = true then (laws_FnTight.j0 k t372 t375 t376 t379 t380 (!t376)) else (laws_FnTight.j0 k t372 t375 t376 t379 t380 true)))) = some r := H
  have A5 := zaa.mk A50
  clear A50
  have HC6 := zaa.mk H
  clear H
  go_enter Try.func8, Try.ntmps8
  go_upto_region 6 with (first | ((with_reducible refine zah (f := 35) rfl ?_); refine zaz (some 22) rfl rfl Try.func35 (by kernel_rfl) rfl #[.slice A0 l0.length c0] rfl (by (try simp only [ych, yci, ycj]); first | done | rfl | (simp only [ycl, yck]; rfl)) ?_; (with_reducible refine (spec_DrawPlanTight.calls k _ _ l0 t372 _ ?side1 ?side2 A3.out).mono ?_); (case side1 => repeat (first | exact HR0.out | (with_reducible refine ycv ?_ _) | (with_reducible refine ycw ?_ _) | (with_reducible refine ycx ?_))); (case side2 => exact HC0.out); rintro e w7 ⟨v373, rfl, ho0, hb⟩; refine ⟨_, rfl, ?_⟩; have n0_ := zaa.mk (Kd.V_lower (Kd.V_mono (ok' := fun k_ => True) ho0 (fun k_ hk_ => trivial)) (zag (by repeat (first | (with_reducible first | exact HB.out | apply zac | apply zab | apply zad) | exact HB.out)))); have n1_ := zaa.mk (zae (by repeat (first | (with_reducible first | exact HB.out | apply zac | apply zab | apply zad) | exact HB.out)) hb); clear HB; have HO374 := n0_; have HB := n1_; clear n0_ n1_; (try clear hb); (try clear hb2); (try clear hk); (try clear hi); (try clear ho0); obtain ⟨Ao8, co8, eo8⟩ := Kd.V_slice HO374.out; subst eo8) | ((with_reducible refine zah (f := 33) rfl ?_); refine zaz (some 25) rfl rfl Try.func33 (by kernel_rfl) rfl #[.slice Ao8 t372.length co8] rfl (by (try simp only [ych, yci, ycj]); first | done | rfl | (simp only [ycl, yck]; rfl)) ?_; (with_reducible refine (impl_PlanTight.calls _ _ t372 t375 t376 _ ?side1 ?side2 A4.out).mono ?_); (case side1 => repeat (first | exact (Kd.V_reads' HO374.out).2.2 | (with_reducible refine ycv ?_ _) | (with_reducible refine ycw ?_ _) | (with_reducible refine ycx ?_))); (case side2 => exact (Kd.V_reads' HO374.out).2.1); rintro e w9 ⟨v377, rfl, ho0, hb⟩; refine ⟨_, rfl, ?_⟩; have n0_ := zaa.mk (Kd.V_elder' (by (with_reducible repeat (first | apply ycs | apply yct | apply ycu)); exact HO374.out) (Kd.R_base ho0) hb); have n1_ := zaa.mk (Kd.R_lower ho0 (zag (by repeat (first | (with_reducible first | exact HB.out | apply zac | apply zab | apply zad) | exact HB.out)))); have n2_ := zaa.mk (zae (by repeat (first | (with_reducible first | exact HB.out | apply zac | apply zab | apply zad) | exact HB.out)) hb); clear HO374; clear HB; have HO374 := n0_; have HO378 := n1_; have HB := n2_; clear n0_ n1_ n2_; (try clear hb); (try clear hb2); (try clear hk); (try clear hi); (try clear ho0)) | ((with_reducible refine zah (f := 32) rfl ?_); refine zaz (some 30) rfl rfl Try.func32 (by kernel_rfl) rfl #[.slice Ao8 t372.length co8] rfl (by (try simp only [ych, yci, ycj]); first | done | rfl | (simp only [ycl, yck]; rfl)) ?_; (with_reducible refine (spec_PlanTight.calls k _ _ t372 t379 t380 _ ?side1 ?side2 A5.out).mono ?_); (case side1 => repeat (first | exact (Kd.V_reads' HO374.out).2.2 | (with_reducible refine ycv ?_ _) | (with_reducible refine ycw ?_ _) | (with_reducible refine ycx ?_))); (case side2 => exact (Kd.V_reads' HO374.out).2.1); rintro e w10 ⟨v381, rfl, ho0, hb⟩; refine ⟨_, rfl, ?_⟩; have n0_ := zaa.mk (Kd.V_elder' (by (with_reducible repeat (first | apply ycs | apply yct | apply ycu)); exact HO374.out) (Kd.R_base ho0) hb); have n1_ := zaa.mk (Kd.R_elder' (by (with_reducible repeat (first | apply ycp | apply ycq | apply ycr)); exact HO378.out) (Kd.R_base ho0) hb); have n2_ := zaa.mk (Kd.R_lower (Kd.R_new' ho0 (Kd.R_lt (by (with_reducible repeat (first | apply ycp | apply ycq | apply ycr)); exact HO378.out))) (zag (by repeat (first | (with_reducible first | exact HB.out | apply zac | apply zab | apply zad) | exact HB.out)))); have n3_ := zaa.mk (zae (by repeat (first | (with_reducible first | exact HB.out | apply zac | apply zab | apply zad) | exact HB.out)) hb); clear HO374; clear HO378; clear HB; have HO374 := n0_; have HO378 := n1_; have HO382 := n2_; have HB := n3_; clear n0_ n1_ n2_ n3_; (try clear hb); (try clear hb2); (try clear hk); (try clear hi); (try clear ho0)))
  (try simp only [Act.put, yce, ycf, ycg])
  go_cut [45] (fun v45 wc => ∃ (kq : Nat) (x45_5 : Bool), v45 = .bool x45_5 ∧ zaa (laws_FnTight.j0 kq t372 t375 t376 t379 t380 x45_5 = some r) ∧ zaa (kq ≤ k) ∧ zaa (Kd.V Kd.string 9 wc w.heap.size (fun k_ => some k_ ≠ (v377 : Value).ownBlock ∧ some k_ ≠ (v381 : Value).ownBlock) (.slice Ao8 t372.length co8) t372) ∧ zaa (Kd.R Kd.string 9 wc w.heap.size (fun k_ => some k_ ≠ (v381 : Value).ownBlock) v377 t375) ∧ zaa (Kd.R Kd.string 9 wc w.heap.size (fun k_ => some k_ ≠ (v377 : Value).ownBlock) v381 t379) ∧ zaa (Below w.heap.size w wc))
  case first =>
   have H := HC6.out
   clear HC6
   by_cases c11 : (t376 != t380) = true
   ·rw [if_pos c11] at H
    have c11b0 : (t376 != t380) = true := c11
    (try (have c11b1 : decide (t376 = t380) = false := by simpa using c11))
    (try (have c11b2 : (t376 == t380) = false := by simpa using c11))
    (try (have c11b3 : ¬ (t376 = t380) := by simpa using c11))
    clear c11
    (first | rw [c11b0] | (simp only [zau, zav]; rw [c11b0]) | skip)
    have H' := zaa.mk H
    clear H
    go_wp2
    go_meet
    case rel => exact ⟨_, (true), (by first | rfl | (simp; done) | (simp [*]; done)), H', ⟨by first | omega | exact yco _⟩, ⟨by (with_reducible repeat (first | apply ycs | apply yct | apply ycu)); exact Kd.V_mono HO374.out (fun _ hk => ⟨hk.1.2, hk.2⟩)⟩, ⟨by (with_reducible repeat (first | apply ycp | apply ycq | apply ycr)); exact Kd.R_mono HO378.out (fun _ hk => hk.2)⟩, ⟨by (with_reducible repeat (first | apply ycp | apply ycq | apply ycr)); exact Kd.R_mono HO382.out (fun _ hk => hk.2)⟩, ⟨by repeat (first | (with_reducible first | exact HB.out | apply zac | apply zab | apply zad) | exact HB.out)⟩⟩
   ·rw [if_neg c11] at H
    have c11b0 : (t376 != t380) = false := by simpa using c11
    (try (have c11b1 : decide (t376 = t380) = true := by simpa using c11))
    (try (have c11b2 : (t376 == t380) = true := by simpa using c11))
    clear c11
    (first | rw [c11b0] | (simp only [zau, zav]; rw [c11b0]) | skip)
    replace H := ycn.mp H
    obtain ⟨t383, A120, H⟩ := H
    replace H : (if t383 = true then (laws_FnTight.j0 k t372 t375 t376 t379 t380 (!t376)) else (laws_FnTight.j0 k t372 t375 t376 t379 t380 true)) = some r := H
    have A12 := zaa.mk A120
    clear A120
    by_cases c13 : t383 = true
    ·subst c13
     have H1 : (laws_FnTight.j0 k t372 t375 t376 t379 t380 (!t376)) = some r := by rw [if_pos rfl] at H; exact H
     clear H
     have H := H1
     clear H1
     have H' := zaa.mk H
     clear H
     obtain ⟨Ao14, co14, eo14⟩ := Kd.R_slice HO378.out
     subst eo14
     obtain ⟨Ao15, co15, eo15⟩ := Kd.R_slice HO382.out
     subst eo15
     go_wp2_with (first | (go_at_call 36; (with_reducible refine (laws_sameTexts.calls k _ _ t375 _ _ t379 true _ ?side1 ?side2 ?side3 ?side4 A12.out).mono ?_); (case side1 => repeat (first | exact (Kd.R_reads' HO378.out).2.2 | (with_reducible refine ycv ?_ _) | (with_reducible refine ycw ?_ _) | (with_reducible refine ycx ?_))); (case side2 => exact (Kd.R_reads' HO378.out).2.1); (case side3 => repeat (first | exact (Kd.R_reads' HO382.out).2.2 | (with_reducible refine ycv ?_ _) | (with_reducible refine ycw ?_ _) | (with_reducible refine ycx ?_))); (case side4 => exact (Kd.R_reads' HO382.out).2.1); rintro e w' ⟨rfl, ⟨nd, rfl⟩⟩))
     go_meet
     case rel => exact ⟨_, (!t376), (by first | rfl | (simp; done) | (simp [*]; done)), H', ⟨by first | omega | exact yco _⟩, ⟨by (with_reducible repeat (first | apply ycs | apply yct | apply ycu)); exact Kd.V_mono HO374.out (fun _ hk => ⟨hk.1.2, hk.2⟩)⟩, ⟨by (with_reducible repeat (first | apply ycp | apply ycq | apply ycr)); exact Kd.R_mono HO378.out (fun _ hk => hk.2)⟩, ⟨by (with_reducible repeat (first | apply ycp | apply ycq | apply ycr)); exact Kd.R_mono HO382.out (fun _ hk => hk.2)⟩, ⟨by repeat (first | (with_reducible first | exact HB.out | apply zac | apply zab | apply zad) | exact HB.out)⟩⟩
    ·replace c13 := Bool.eq_false_iff.mpr c13
     subst c13
     have H1 : (laws_FnTight.j0 k t372 t375 t376 t379 t380 true) = some r := by rw [if_neg (show ¬ (false = true) by decide)] at H; exact H
     clear H
     have H := H1
     clear H1
     have H' := zaa.mk H
     clear H
     obtain ⟨Ao16, co16, eo16⟩ := Kd.R_slice HO378.out
     subst eo16
     obtain ⟨Ao17, co17, eo17⟩ := Kd.R_slice HO382.out
     subst eo17
     go_wp2_with (first | (go_at_call 36; (with_reducible refine (laws_sameTexts.calls k _ _ t375 _ _ t379 false _ ?side1 ?side2 ?side3 ?side4 A12.out).mono ?_); (case side1 => repeat (first | exact (Kd.R_reads' HO378.out).2.2 | (with_reducible refine ycv ?_ _) | (with_reducible refine ycw ?_ _) | (with_reducible refine ycx ?_))); (case side2 => exact (Kd.R_reads' HO378.out).2.1); (case side3 => repeat (first | exact (Kd.R_reads' HO382.out).2.2 | (with_reducible refine ycv ?_ _) | (with_reducible refine ycw ?_ _) | (with_reducible refine ycx ?_))); (case side4 => exact (Kd.R_reads' HO382.out).2.1); rintro e w' ⟨rfl, ⟨nd, rfl⟩⟩))
     go_meet
     case rel => exact ⟨_, (true), (by first | rfl | (simp; done) | (simp [*]; done)), H', ⟨by first | omega | exact yco _⟩, ⟨by (with_reducible repeat (first | apply ycs | apply yct | apply ycu)); exact Kd.V_mono HO374.out (fun _ hk => ⟨hk.1.2, hk.2⟩)⟩, ⟨by (with_reducible repeat (first | apply ycp | apply ycq | apply ycr)); exact Kd.R_mono HO378.out (fun _ hk => hk.2)⟩, ⟨by (with_reducible repeat (first | apply ycp | apply ycq | apply ycr)); exact Kd.R_mono HO382.out (fun _ hk => hk.2)⟩, ⟨by repeat (first | (with_reducible first | exact HB.out | apply zac | apply zab | apply zad) | exact HB.out)⟩⟩
  case rest =>
   clear HC6
   try clear c1
   try clear c2
   try clear c2b0
   try clear c2b1
   try clear p2
   try clear c3
   try clear c8
   try clear c11
   try clear c11b0
   try clear c11b1
   try clear c11b2
   try clear c13
   obtain ⟨kq, x45_5, rfl, HA, HJ5, HO_3, HO_4, HO_6, HB⟩ := hcut
   cases kq with
   | zero => exact absurd HA.out (by simp [laws_FnTight.j0])
   | succ kj5 =>
    have H := HA.out
    clear HA
    simp only [laws_FnTight.j0] at H
    by_cases c18 : x45_5 = true
    ·subst c18
     have H1 : (if (t376 == t380) = true then ((laws_sameTexts.f kj5 t375 t379).bind fun t384 => (some t384)) else (some false)) = some r := by rw [if_pos rfl] at H; exact H
     clear H
     have H := H1
     clear H1
     by_cases c19 : (t376 == t380) = true
     ·rw [if_pos c19] at H
      have c19b0 : (t376 == t380) = true := c19
      (try (have c19b1 : decide (t376 = t380) = true := by simpa using c19))
      (try (have c19b2 : (t376 == t380) = true := by simpa using c19))
      clear c19
      replace H := ycn.mp H
      obtain ⟨t384, A200, H⟩ := H
      replace H : (some t384) = some r := H
      have A20 := zaa.mk A200
      clear A200
      obtain rfl := Option.some.inj H
      obtain ⟨Ao21, co21, eo21⟩ := Kd.R_slice HO_4.out
      subst eo21
      obtain ⟨Ao22, co22, eo22⟩ := Kd.R_slice HO_6.out
      subst eo22
      go_wp2_with (first | (go_at_call 36; (with_reducible refine (laws_sameTexts.calls kj5 _ _ t375 _ _ t379 t384 _ ?side1 ?side2 ?side3 ?side4 A20.out).mono ?_); (case side1 => repeat (first | exact (Kd.R_reads' HO_4.out).2.2 | (with_reducible refine ycv ?_ _) | (with_reducible refine ycw ?_ _) | (with_reducible refine ycx ?_))); (case side2 => exact (Kd.R_reads' HO_4.out).2.1); (case side3 => repeat (first | exact (Kd.R_reads' HO_6.out).2.2 | (with_reducible refine ycv ?_ _) | (with_reducible refine ycw ?_ _) | (with_reducible refine ycx ?_))); (case side4 => exact (Kd.R_reads' HO_6.out).2.1); rintro e w' ⟨rfl, ⟨nd, rfl⟩⟩))
      go_ret
      exact ⟨by first | rfl | (simp [zap, zao] <;> rfl) | (simp [*, zap, zao] <;> rfl), by repeat (first | (with_reducible first | exact HB.out | apply zac | apply zab | apply zad) | exact HB.out)⟩
     ·rw [if_neg c19] at H
      have c19b0 : (t376 == t380) = false := by simpa using c19
      (try (have c19b1 : decide (t376 = t380) = false := by simpa using c19))
      (try (have c19b2 : (t376 == t380) = false := by simpa using c19))
      (try (have c19b3 : ¬ (t376 = t380) := by simpa using c19))
      clear c19
      obtain rfl := Option.some.inj H
      go_wp2
      go_ret
      exact ⟨by first | rfl | (simp [zap, zao] <;> rfl) | (simp [*, zap, zao] <;> rfl), by repeat (first | (with_reducible first | exact HB.out | apply zac | apply zab | apply zad) | exact HB.out)⟩
    ·replace c18 := Bool.eq_false_iff.mpr c18
     subst c18
     have H1 : ((impl_PlanTight.f t375).bind fun bt385 => ((impl_PlanRooms.f t372).bind fun bt389 => ((impl_PlanRooms.f t375).bind fun bt391 => ((impl_PlanWide.f t372 2).bind fun bt393 => ((impl_PlanTight.f bt393.1).bind fun bt397 => (if bt385.2 = true then (if bt389.2 = true then (if bt391.2 = true then ((laws_sameTexts.f kj5 bt385.1 t375).bind fun t401 => (if t401 = true then (if bt389.1 = bt391.1 then (if bt393.2 = true then (if bt397.2 = true then ((laws_sameTexts.f kj5 bt397.1 t375).bind fun t402 => (some t402)) else (some false)) else (some true)) else (some false)) else (some false))) else (some false)) else (some false)) else (some false))))))) = some r := by rw [if_neg (show ¬ (false = true) by decide)] at H; exact H
     clear H
     have H := H1
     clear H1
     replace H := ycn.mp H
     obtain ⟨⟨t385, t386⟩, A230, H⟩ := H
     replace H : ((impl_PlanRooms.f t372).bind fun bt389 => ((impl_PlanRooms.f t375).bind fun bt391 => ((impl_PlanWide.f t372 2).bind fun bt393 => ((impl_PlanTight.f bt393.1).bind fun bt397 => (if t386 = true then (if bt389.2 = true then (if bt391.2 = true then ((laws_sameTexts.f kj5 t385 t375).bind fun t401 => (if t401 = true then (if bt389.1 = bt391.1 then (if bt393.2 = true then (if bt397.2 = true then ((laws_sameTexts.f kj5 bt397.1 t375).bind fun t402 => (some t402)) else (some false)) else (some true)) else (some false)) else (some false))) else (some false)) else (some false)) else (some false)))))) = some r := H
     have A23 := zaa.mk A230
     clear A230
     replace H := ycn.mp H
     obtain ⟨⟨t389, t390⟩, A240, H⟩ := H
     replace H : ((impl_PlanRooms.f t375).bind fun bt391 => ((impl_PlanWide.f t372 2).bind fun bt393 => ((impl_PlanTight.f bt393.1).bind fun bt397 => (if t386 = true then (if t390 = true then (if bt391.2 = true then ((laws_sameTexts.f kj5 t385 t375).bind fun t401 => (if t401 = true then (if t389 = bt391.1 then (if bt393.2 = true then (if bt397.2 = true then ((laws_sameTexts.f kj5 bt397.1 t375).bind fun t402 => (some t402)) else (some false)) else (some true)) else (some false)) else (some false))) else (some false)) else (some false)) else (some false))))) = some r := H
     have A24 := zaa.mk A240
     clear A240
     replace H := ycn.mp H
     obtain ⟨⟨t391, t392⟩, A250, H⟩ := H
     replace H : ((impl_PlanWide.f t372 2).bind fun bt393 => ((impl_PlanTight.f bt393.1).bind fun bt397 => (if t386 = true then (if t390 = true then (if t392 = true then ((laws_sameTexts.f kj5 t385 t375).bind fun t401 => (if t401 = true then (if t389 = t391 then (if bt393.2 = true then (if bt397.2 = true then ((laws_sameTexts.f kj5 bt397.1 t375).bind fun t402 => (some t402)) else (some false)) else (some true)) else (some false)) else (some false))) else (some false)) else (some false)) else (some false)))) = some r := H
     have A25 := zaa.mk A250
     clear A250
     replace H := ycn.mp H
     obtain ⟨⟨t393, t394⟩, A260, H⟩ := H
     replace H : ((impl_PlanTight.f t393).bind fun bt397 => (if t386 = true then (if t390 = true then (if t392 = true then ((laws_sameTexts.f kj5 t385 t375).bind fun t401 => (if t401 = true then (if t389 = t391 then (if t394 = true then (if bt397.2 = true then ((laws_sameTexts.f kj5 bt397.1 t375).bind fun t402 => (some t402)) else (some false)) else (some true)) else (some false)) else (some false))) else (some false)) else (some false)) else (some false))) = some r := H
     have A26 := zaa.mk A260
     clear A260
     replace H := ycn.mp H
     obtain ⟨⟨t397, t398⟩, A270, H⟩ := H
     replace H : (if t386 = true then (if t390 = true then (if t392 = true then ((laws_sameTexts.f kj5 t385 t375).bind fun t401 => (if t401 = true then (if t389 = t391 then (if t394 = true then (if t398 = true then ((laws_sameTexts.f kj5 t397 t375).bind fun t402 => (some t402)) else (some false)) else (some true)) else (some false)) else (some false))) else (some false)) else (some false)) else (some false)) = some r := H
     have A27 := zaa.mk A270
     clear A270
     by_cases c28 : t386 = true
     ·subst c28
      have H1 : (if t390 = true then (if t392 = true then ((laws_sameTexts.f kj5 t385 t375).bind fun t401 => (if t401 = true then (if t389 = t391 then (if t394 = true then (if t398 = true then ((laws_sameTexts.f kj5 t397 t375).bind fun t402 => (some t402)) else (some false)) else (some true)) else (some false)) else (some false))) else (some false)) else (some false)) = some r := by rw [if_pos rfl] at H; exact H
      clear H
      have H := H1
      clear H1
      by_cases c29 : t390 = true
      ·subst c29
       have H1 : (if t392 = true then ((laws_sameTexts.f kj5 t385 t375).bind fun t401 => (if t401 = true then (if t389 = t391 then (if t394 = true then (if t398 = true then ((laws_sameTexts.f kj5 t397 t375).bind fun t402 => (some t402)) else (some false)) else (some true)) else (some false)) else (some false))) else (some false)) = some r := by rw [if_pos rfl] at H; exact H
       clear H
       have H := H1
       clear H1
       by_cases c30 : t392 = true
       ·subst c30
        have H1 : ((laws_sameTexts.f kj5 t385 t375).bind fun t401 => (if t401 = true then (if t389 = t391 then (if t394 = true then (if t398 = true then ((laws_sameTexts.f kj5 t397 t375).bind fun t402 => (some t402)) else (some false)) else (some true)) else (some false)) else (some false))) = some r := by rw [if_pos rfl] at H; exact H
        clear H
        have H := H1
        clear H1
        replace H := ycn.mp H
        obtain ⟨t401, A310, H⟩ := H
        replace H : (if t401 = true then (if t389 = t391 then (if t394 = true then (if t398 = true then ((laws_sameTexts.f kj5 t397 t375).bind fun t402 => (some t402)) else (some false)) else (some true)) else (some false)) else (some false)) = some r := H
        have A31 := zaa.mk A310
        clear A310
        by_cases c32 : t401 = true
        ·subst c32
         have H1 : (if t389 = t391 then (if t394 = true then (if t398 = true then ((laws_sameTexts.f kj5 t397 t375).bind fun t402 => (some t402)) else (some false)) else (some true)) else (some false)) = some r := by rw [if_pos rfl] at H; exact H
         clear H
         have H := H1
         clear H1
         by_cases c33 : t389 = t391
         ·rw [if_pos c33] at H
          have c33b0 : (t389 == t391) = true := beq_iff_eq.mpr c33
          have c33b1 : (t389 != t391) = false := bne_eq_false_iff_eq.mpr c33
          clear c33
          by_cases c34 : t394 = true
          ·subst c34
           have H1 : (if t398 = true then ((laws_sameTexts.f kj5 t397 t375).bind fun t402 => (some t402)) else (some false)) = some r := by rw [if_pos rfl] at H; exact H
           clear H
           have H := H1
           clear H1
           by_cases c35 : t398 = true
           ·subst c35
            have H1 : ((laws_sameTexts.f kj5 t397 t375).bind fun t402 => (some t402)) = some r := by rw [if_pos rfl] at H; exact H
            clear H
            have H := H1
            clear H1
            replace H := ycn.mp H
            obtain ⟨t402, A360, H⟩ := H
            replace H : (some t402) = some r := H
            have A36 := zaa.mk A360
            clear A360
            obtain rfl := Option.some.inj H
            obtain ⟨Ao37, co37, eo37⟩ := Kd.R_slice HO_4.out
            subst eo37
            go_wp2_with (first | ((with_reducible refine zah (f := 33) rfl ?_); refine zaz (some 56) rfl rfl Try.func33 (by kernel_rfl) rfl #[.slice Ao37 t375.length co37] rfl (by (try simp only [ych, yci, ycj]); first | done | rfl | (simp only [ycl, yck]; rfl)) ?_; (with_reducible refine (impl_PlanTight.calls _ _ t375 t385 true _ ?side1 ?side2 A23.out).mono ?_); (case side1 => repeat (first | exact (Kd.R_reads' HO_4.out).2.2 | (with_reducible refine ycv ?_ _) | (with_reducible refine ycw ?_ _) | (with_reducible refine ycx ?_))); (case side2 => exact (Kd.R_reads' HO_4.out).2.1); rintro e w38 ⟨v387, rfl, ho0, hb⟩; refine ⟨_, rfl, ?_⟩; have n0_ := zaa.mk (Kd.V_elder' (by (with_reducible repeat (first | apply ycs | apply yct | apply ycu)); exact HO_3.out) (Kd.R_base ho0) hb); have n1_ := zaa.mk (Kd.R_elder' (by (with_reducible repeat (first | apply ycp | apply ycq | apply ycr)); exact HO_4.out) (Kd.R_base ho0) hb); have n2_ := zaa.mk (Kd.R_elder' (by (with_reducible repeat (first | apply ycp | apply ycq | apply ycr)); exact HO_6.out) (Kd.R_base ho0) hb); have n3_ := zaa.mk (Kd.R_lower (Kd.R_new' (Kd.R_new' ho0 (Kd.R_lt (by (with_reducible repeat (first | apply ycp | apply ycq | apply ycr)); exact HO_4.out))) (Kd.R_lt (by (with_reducible repeat (first | apply ycp | apply ycq | apply ycr)); exact HO_6.out))) (zag (by repeat (first | (with_reducible first | exact HB.out | apply zac | apply zab | apply zad) | exact HB.out)))); have n4_ := zaa.mk (zae (by repeat (first | (with_reducible first | exact HB.out | apply zac | apply zab | apply zad) | exact HB.out)) hb); clear HO_3; clear HO_4; clear HO_6; clear HB; have HO_3 := n0_; have HO_4 := n1_; have HO_6 := n2_; have HO388 := n3_; have HB := n4_; clear n0_ n1_ n2_ n3_ n4_; (try clear hb); (try clear hb2); (try clear hk); (try clear hi); (try clear ho0)) | ((with_reducible refine zah (f := 37) rfl ?_); refine zaz (some 61) rfl rfl Try.func37 (by kernel_rfl) rfl #[.slice Ao8 t372.length co8] rfl (by (try simp only [ych, yci, ycj]); first | done | rfl | (simp only [ycl, yck]; rfl)) ?_; (with_reducible refine (impl_PlanRooms.calls _ _ t372 t389 true _ ?side1 ?side2 A24.out).mono ?_); (case side1 => repeat (first | exact (Kd.V_reads' HO_3.out).2.2 | (with_reducible refine ycv ?_ _) | (with_reducible refine ycw ?_ _) | (with_reducible refine ycx ?_))); (case side2 => exact (Kd.V_reads' HO_3.out).2.1); rintro e w39 ⟨rfl, hb⟩; refine ⟨_, rfl, ?_⟩; have n0_ := zaa.mk (Kd.V_below (by (with_reducible repeat (first | apply ycs | apply yct | apply ycu)); exact HO_3.out) hb); have n1_ := zaa.mk (Kd.R_below (by (with_reducible repeat (first | apply ycp | apply ycq | apply ycr)); exact HO_4.out) hb); have n2_ := zaa.mk (Kd.R_below (by (with_reducible repeat (first | apply ycp | apply ycq | apply ycr)); exact HO_6.out) hb); have n3_ := zaa.mk (Kd.R_below (by (with_reducible repeat (first | apply ycp | apply ycq | apply ycr)); exact HO388.out) hb); have n4_ := zaa.mk (zae (by repeat (first | (with_reducible first | exact HB.out | apply zac | apply zab | apply zad) | exact HB.out)) hb); clear HO_3; clear HO_4; clear HO_6; clear HO388; clear HB; have HO_3 := n0_; have HO_4 := n1_; have HO_6 := n2_; have HO388 := n3_; have HB := n4_; clear n0_ n1_ n2_ n3_ n4_; (try clear hb); (try clear hb2); (try clear hk); (try clear hi)) | ((with_reducible refine zah (f := 37) rfl ?_); refine zaz (some 66) rfl rfl Try.func37 (by kernel_rfl) rfl #[.slice Ao37 t375.length co37] rfl (by (try simp only [ych, yci, ycj]); first | done | rfl | (simp only [ycl, yck]; rfl)) ?_; (with_reducible refine (impl_PlanRooms.calls _ _ t375 t391 true _ ?side1 ?side2 A25.out).mono ?_); (case side1 => repeat (first | exact (Kd.R_reads' HO_4.out).2.2 | (with_reducible refine ycv ?_ _) | (with_reducible refine ycw ?_ _) | (with_reducible refine ycx ?_))); (case side2 => exact (Kd.R_reads' HO_4.out).2.1); rintro e w40 ⟨rfl, hb⟩; refine ⟨_, rfl, ?_⟩; have n0_ := zaa.mk (Kd.V_below (by (with_reducible repeat (first | apply ycs | apply yct | apply ycu)); exact HO_3.out) hb); have n1_ := zaa.mk (Kd.R_below (by (with_reducible repeat (first | apply ycp | apply ycq | apply ycr)); exact HO_4.out) hb); have n2_ := zaa.mk (Kd.R_below (by (with_reducible repeat (first | apply ycp | apply ycq | apply ycr)); exact HO_6.out) hb); have n3_ := zaa.mk (Kd.R_below (by (with_reducible repeat (first | apply ycp | apply ycq | apply ycr)); exact HO388.out) hb); have n4_ := zaa.mk (zae (by repeat (first | (with_reducible first | exact HB.out | apply zac | apply zab | apply zad) | exact HB.out)) hb); clear HO_3; clear HO_4; clear HO_6; clear HO388; clear HB; have HO_3 := n0_; have HO_4 := n1_; have HO_6 := n2_; have HO388 := n3_; have HB := n4_; clear n0_ n1_ n2_ n3_ n4_; (try clear hb); (try clear hb2); (try clear hk); (try clear hi)) | ((with_reducible refine zah (f := 38) rfl ?_); refine zaz (some 71) rfl rfl Try.func38 (by kernel_rfl) rfl #[.slice Ao8 t372.length co8, .int .i64 2] rfl (by (try simp only [ych, yci, ycj]); first | done | rfl | (simp only [ycl, yck]; rfl)) ?_; (with_reducible refine (impl_PlanWide.calls _ _ t372 2 t393 true _ ?side1 ?side2 A26.out).mono ?_); (case side1 => repeat (first | exact (Kd.V_reads' HO_3.out).2.2 | (with_reducible refine ycv ?_ _) | (with_reducible refine ycw ?_ _) | (with_reducible refine ycx ?_))); (case side2 => exact (Kd.V_reads' HO_3.out).2.1); rintro e w41 ⟨v395, rfl, ho0, hb⟩; refine ⟨_, rfl, ?_⟩; have n0_ := zaa.mk (Kd.V_elder' (by (with_reducible repeat (first | apply ycs | apply yct | apply ycu)); exact HO_3.out) (Kd.R_base ho0) hb); have n1_ := zaa.mk (Kd.R_elder' (by (with_reducible repeat (first | apply ycp | apply ycq | apply ycr)); exact HO_4.out) (Kd.R_base ho0) hb); have n2_ := zaa.mk (Kd.R_elder' (by (with_reducible repeat (first | apply ycp | apply ycq | apply ycr)); exact HO_6.out) (Kd.R_base ho0) hb); have n3_ := zaa.mk (Kd.R_elder' (by (with_reducible repeat (first | apply ycp | apply ycq | apply ycr)); exact HO388.out) (Kd.R_base ho0) hb); have n4_ := zaa.mk (Kd.R_lower (Kd.R_new' (Kd.R_new' (Kd.R_new' ho0 (Kd.R_lt (by (with_reducible repeat (first | apply ycp | apply ycq | apply ycr)); exact HO_4.out))) (Kd.R_lt (by (with_reducible repeat (first | apply ycp | apply ycq | apply ycr)); exact HO_6.out))) (Kd.R_lt (by (with_reducible repeat (first | apply ycp | apply ycq | apply ycr)); exact HO388.out))) (zag (by repeat (first | (with_reducible first | exact HB.out | apply zac | apply zab | apply zad) | exact HB.out)))); have n5_ := zaa.mk (zae (by repeat (first | (with_reducible first | exact HB.out | apply zac | apply zab | apply zad) | exact HB.out)) hb); clear HO_3; clear HO_4; clear HO_6; clear HO388; clear HB; have HO_3 := n0_; have HO_4 := n1_; have HO_6 := n2_; have HO388 := n3_; have HO396 := n4_; have HB := n5_; clear n0_ n1_ n2_ n3_ n4_ n5_; (try clear hb); (try clear hb2); (try clear hk); (try clear hi); (try clear ho0); obtain ⟨Ao42, co42, eo42⟩ := Kd.R_slice HO396.out; subst eo42) | ((with_reducible refine zah (f := 33) rfl ?_); refine zaz (some 76) rfl rfl Try.func33 (by kernel_rfl) rfl #[.slice Ao42 t393.length co42] rfl (by (try simp only [ych, yci, ycj]); first | done | rfl | (simp only [ycl, yck]; rfl)) ?_; (with_reducible refine (impl_PlanTight.calls _ _ t393 t397 true _ ?side1 ?side2 A27.out).mono ?_); (case side1 => repeat (first | exact (Kd.R_reads' HO396.out).2.2 | (with_reducible refine ycv ?_ _) | (with_reducible refine ycw ?_ _) | (with_reducible refine ycx ?_))); (case side2 => exact (Kd.R_reads' HO396.out).2.1); rintro e w43 ⟨v399, rfl, ho0, hb⟩; refine ⟨_, rfl, ?_⟩; have n0_ := zaa.mk (Kd.V_elder' (by (with_reducible repeat (first | apply ycs | apply yct | apply ycu)); exact HO_3.out) (Kd.R_base ho0) hb); have n1_ := zaa.mk (Kd.R_elder' (by (with_reducible repeat (first | apply ycp | apply ycq | apply ycr)); exact HO_4.out) (Kd.R_base ho0) hb); have n2_ := zaa.mk (Kd.R_elder' (by (with_reducible repeat (first | apply ycp | apply ycq | apply ycr)); exact HO_6.out) (Kd.R_base ho0) hb); have n3_ := zaa.mk (Kd.R_elder' (by (with_reducible repeat (first | apply ycp | apply ycq | apply ycr)); exact HO388.out) (Kd.R_base ho0) hb); have n4_ := zaa.mk (Kd.R_elder' (by (with_reducible repeat (first | apply ycp | apply ycq | apply ycr)); exact HO396.out) (Kd.R_base ho0) hb); have n5_ := zaa.mk (Kd.R_lower (Kd.R_new' (Kd.R_new' (Kd.R_new' (Kd.R_new' ho0 (Kd.R_lt (by (with_reducible repeat (first | apply ycp | apply ycq | apply ycr)); exact HO_4.out))) (Kd.R_lt (by (with_reducible repeat (first | apply ycp | apply ycq | apply ycr)); exact HO_6.out))) (Kd.R_lt (by (with_reducible repeat (first | apply ycp | apply ycq | apply ycr)); exact HO388.out))) (Kd.R_lt (by (with_reducible repeat (first | apply ycp | apply ycq | apply ycr)); exact HO396.out))) (zag (by repeat (first | (with_reducible first | exact HB.out | apply zac | apply zab | apply zad) | exact HB.out)))); have n6_ := zaa.mk (zae (by repeat (first | (with_reducible first | exact HB.out | apply zac | apply zab | apply zad) | exact HB.out)) hb); clear HO_3; clear HO_4; clear HO_6; clear HO388; clear HO396; clear HB; have HO_3 := n0_; have HO_4 := n1_; have HO_6 := n2_; have HO388 := n3_; have HO396 := n4_; have HO400 := n5_; have HB := n6_; clear n0_ n1_ n2_ n3_ n4_ n5_ n6_; (try clear hb); (try clear hb2); (try clear hk); (try clear hi); (try clear ho0); obtain ⟨Ao44, co44, eo44⟩ := Kd.R_slice HO388.out; subst eo44) | (go_at_call 36; (with_reducible refine (laws_sameTexts.calls kj5 _ _ t385 _ _ t375 true _ ?side1 ?side2 ?side3 ?side4 A31.out).mono ?_); (case side1 => repeat (first | exact (Kd.R_reads' HO388.out).2.2 | (with_reducible refine ycv ?_ _) | (with_reducible refine ycw ?_ _) | (with_reducible refine ycx ?_))); (case side2 => exact (Kd.R_reads' HO388.out).2.1); (case side3 => repeat (first | exact (Kd.R_reads' HO_4.out).2.2 | (with_reducible refine ycv ?_ _) | (with_reducible refine ycw ?_ _) | (with_reducible refine ycx ?_))); (case side4 => exact (Kd.R_reads' HO_4.out).2.1); rintro e w' ⟨rfl, ⟨nd, rfl⟩⟩; obtain ⟨Ao45, co45, eo45⟩ := Kd.R_slice HO400.out; subst eo45) | (go_at_call 36; (with_reducible refine (laws_sameTexts.calls kj5 _ _ t397 _ _ t375 t402 _ ?side1 ?side2 ?side3 ?side4 A36.out).mono ?_); (case side1 => repeat (first | exact (Kd.R_reads' HO400.out).2.2 | (with_reducible refine ycv ?_ _) | (with_reducible refine ycw ?_ _) | (with_reducible refine ycx ?_))); (case side2 => exact (Kd.R_reads' HO400.out).2.1); (case side3 => repeat (first | exact (Kd.R_reads' HO_4.out).2.2 | (with_reducible refine ycv ?_ _) | (with_reducible refine ycw ?_ _) | (with_reducible refine ycx ?_))); (case side4 => exact (Kd.R_reads' HO_4.out).2.1); rintro e w' ⟨rfl, ⟨nd, rfl⟩⟩))
            go_ret
            exact ⟨by first | rfl | (simp [zap, zao] <;> rfl) | (simp [*, zap, zao] <;> rfl), by repeat (first | (with_reducible first | exact HB.out | apply zac | apply zab | apply zad) | exact HB.out)⟩
           ·replace c35 := Bool.eq_false_iff.mpr c35
            subst c35
            have H1 : (some false) = some r := by rw [if_neg (show ¬ (false = true) by decide)] at H; exact H
            clear H
            have H := H1
            clear H1
            obtain rfl := Option.some.inj H
            obtain ⟨Ao46, co46, eo46⟩ := Kd.R_slice HO_4.out
            subst eo46
            go_wp2_with (first | ((with_reducible refine zah (f := 33) rfl ?_); refine zaz (some 56) rfl rfl Try.func33 (by kernel_rfl) rfl #[.slice Ao46 t375.length co46] rfl (by (try simp only [ych, yci, ycj]); first | done | rfl | (simp only [ycl, yck]; rfl)) ?_; (with_reducible refine (impl_PlanTight.calls _ _ t375 t385 true _ ?side1 ?side2 A23.out).mono ?_); (case side1 => repeat (first | exact (Kd.R_reads' HO_4.out).2.2 | (with_reducible refine ycv ?_ _) | (with_reducible refine ycw ?_ _) | (with_reducible refine ycx ?_))); (case side2 => exact (Kd.R_reads' HO_4.out).2.1); rintro e w47 ⟨v387, rfl, ho0, hb⟩; refine ⟨_, rfl, ?_⟩; have n0_ := zaa.mk (Kd.V_elder' (by (with_reducible repeat (first | apply ycs | apply yct | apply ycu)); exact HO_3.out) (Kd.R_base ho0) hb); have n1_ := zaa.mk (Kd.R_elder' (by (with_reducible repeat (first | apply ycp | apply ycq | apply ycr)); exact HO_4.out) (Kd.R_base ho0) hb); have n2_ := zaa.mk (Kd.R_elder' (by (with_reducible repeat (first | apply ycp | apply ycq | apply ycr)); exact HO_6.out) (Kd.R_base ho0) hb); have n3_ := zaa.mk (Kd.R_lower (Kd.R_new' (Kd.R_new' ho0 (Kd.R_lt (by (with_reducible repeat (first | apply ycp | apply ycq | apply ycr)); exact HO_4.out))) (Kd.R_lt (by (with_reducible repeat (first | apply ycp | apply ycq | apply ycr)); exact HO_6.out))) (zag (by repeat (first | (with_reducible first | exact HB.out | apply zac | apply zab | apply zad) | exact HB.out)))); have n4_ := zaa.mk (zae (by repeat (first | (with_reducible first | exact HB.out | apply zac | apply zab | apply zad) | exact HB.out)) hb); clear HO_3; clear HO_4; clear HO_6; clear HB; have HO_3 := n0_; have HO_4 := n1_; have HO_6 := n2_; have HO388 := n3_; have HB := n4_; clear n0_ n1_ n2_ n3_ n4_; (try clear hb); (try clear hb2); (try clear hk); (try clear hi); (try clear ho0)) | ((with_reducible refine zah (f := 37) rfl ?_); refine zaz (some 61) rfl rfl Try.func37 (by kernel_rfl) rfl #[.slice Ao8 t372.length co8] rfl (by (try simp only [ych, yci, ycj]); first | done | rfl | (simp only [ycl, yck]; rfl)) ?_; (with_reducible refine (impl_PlanRooms.calls _ _ t372 t389 true _ ?side1 ?side2 A24.out).mono ?_); (case side1 => repeat (first | exact (Kd.V_reads' HO_3.out).2.2 | (with_reducible refine ycv ?_ _) | (with_reducible refine ycw ?_ _) | (with_reducible refine ycx ?_))); (case side2 => exact (Kd.V_reads' HO_3.out).2.1); rintro e w48 ⟨rfl, hb⟩; refine ⟨_, rfl, ?_⟩; have n0_ := zaa.mk (Kd.V_below (by (with_reducible repeat (first | apply ycs | apply yct | apply ycu)); exact HO_3.out) hb); have n1_ := zaa.mk (Kd.R_below (by (with_reducible repeat (first | apply ycp | apply ycq | apply ycr)); exact HO_4.out) hb); have n2_ := zaa.mk (Kd.R_below (by (with_reducible repeat (first | apply ycp | apply ycq | apply ycr)); exact HO_6.out) hb); have n3_ := zaa.mk (Kd.R_below (by (with_reducible repeat (first | apply ycp | apply ycq | apply ycr)); exact HO388.out) hb); have n4_ := zaa.mk (zae (by repeat (first | (with_reducible first | exact HB.out | apply zac | apply zab | apply zad) | exact HB.out)) hb); clear HO_3; clear HO_4; clear HO_6; clear HO388; clear HB; have HO_3 := n0_; have HO_4 := n1_; have HO_6 := n2_; have HO388 := n3_; have HB := n4_; clear n0_ n1_ n2_ n3_ n4_; (try clear hb); (try clear hb2); (try clear hk); (try clear hi)) | ((with_reducible refine zah (f := 37) rfl ?_); refine zaz (some 66) rfl rfl Try.func37 (by kernel_rfl) rfl #[.slice Ao46 t375.length co46] rfl (by (try simp only [ych, yci, ycj]); first | done | rfl | (simp only [ycl, yck]; rfl)) ?_; (with_reducible refine (impl_PlanRooms.calls _ _ t375 t391 true _ ?side1 ?side2 A25.out).mono ?_); (case side1 => repeat (first | exact (Kd.R_reads' HO_4.out).2.2 | (with_reducible refine ycv ?_ _) | (with_reducible refine ycw ?_ _) | (with_reducible refine ycx ?_))); (case side2 => exact (Kd.R_reads' HO_4.out).2.1); rintro e w49 ⟨rfl, hb⟩; refine ⟨_, rfl, ?_⟩; have n0_ := zaa.mk (Kd.V_below (by (with_reducible repeat (first | apply ycs | apply yct | apply ycu)); exact HO_3.out) hb); have n1_ := zaa.mk (Kd.R_below (by (with_reducible repeat (first | apply ycp | apply ycq | apply ycr)); exact HO_4.out) hb); have n2_ := zaa.mk (Kd.R_below (by (with_reducible repeat (first | apply ycp | apply ycq | apply ycr)); exact HO_6.out) hb); have n3_ := zaa.mk (Kd.R_below (by (with_reducible repeat (first | apply ycp | apply ycq | apply ycr)); exact HO388.out) hb); have n4_ := zaa.mk (zae (by repeat (first | (with_reducible first | exact HB.out | apply zac | apply zab | apply zad) | exact HB.out)) hb); clear HO_3; clear HO_4; clear HO_6; clear HO388; clear HB; have HO_3 := n0_; have HO_4 := n1_; have HO_6 := n2_; have HO388 := n3_; have HB := n4_; clear n0_ n1_ n2_ n3_ n4_; (try clear hb); (try clear hb2); (try clear hk); (try clear hi)) | ((with_reducible refine zah (f := 38) rfl ?_); refine zaz (some 71) rfl rfl Try.func38 (by kernel_rfl) rfl #[.slice Ao8 t372.length co8, .int .i64 2] rfl (by (try simp only [ych, yci, ycj]); first | done | rfl | (simp only [ycl, yck]; rfl)) ?_; (with_reducible refine (impl_PlanWide.calls _ _ t372 2 t393 true _ ?side1 ?side2 A26.out).mono ?_); (case side1 => repeat (first | exact (Kd.V_reads' HO_3.out).2.2 | (with_reducible refine ycv ?_ _) | (with_reducible refine ycw ?_ _) | (with_reducible refine ycx ?_))); (case side2 => exact (Kd.V_reads' HO_3.out).2.1); rintro e w50 ⟨v395, rfl, ho0, hb⟩; refine ⟨_, rfl, ?_⟩; have n0_ := zaa.mk (Kd.V_elder' (by (with_reducible repeat (first | apply ycs | apply yct | apply ycu)); exact HO_3.out) (Kd.R_base ho0) hb); have n1_ := zaa.mk (Kd.R_elder' (by (with_reducible repeat (first | apply ycp | apply ycq | apply ycr)); exact HO_4.out) (Kd.R_base ho0) hb); have n2_ := zaa.mk (Kd.R_elder' (by (with_reducible repeat (first | apply ycp | apply ycq | apply ycr)); exact HO_6.out) (Kd.R_base ho0) hb); have n3_ := zaa.mk (Kd.R_elder' (by (with_reducible repeat (first | apply ycp | apply ycq | apply ycr)); exact HO388.out) (Kd.R_base ho0) hb); have n4_ := zaa.mk (Kd.R_lower (Kd.R_new' (Kd.R_new' (Kd.R_new' ho0 (Kd.R_lt (by (with_reducible repeat (first | apply ycp | apply ycq | apply ycr)); exact HO_4.out))) (Kd.R_lt (by (with_reducible repeat (first | apply ycp | apply ycq | apply ycr)); exact HO_6.out))) (Kd.R_lt (by (with_reducible repeat (first | apply ycp | apply ycq | apply ycr)); exact HO388.out))) (zag (by repeat (first | (with_reducible first | exact HB.out | apply zac | apply zab | apply zad) | exact HB.out)))); have n5_ := zaa.mk (zae (by repeat (first | (with_reducible first | exact HB.out | apply zac | apply zab | apply zad) | exact HB.out)) hb); clear HO_3; clear HO_4; clear HO_6; clear HO388; clear HB; have HO_3 := n0_; have HO_4 := n1_; have HO_6 := n2_; have HO388 := n3_; have HO396 := n4_; have HB := n5_; clear n0_ n1_ n2_ n3_ n4_ n5_; (try clear hb); (try clear hb2); (try clear hk); (try clear hi); (try clear ho0); obtain ⟨Ao51, co51, eo51⟩ := Kd.R_slice HO396.out; subst eo51) | ((with_reducible refine zah (f := 33) rfl ?_); refine zaz (some 76) rfl rfl Try.func33 (by kernel_rfl) rfl #[.slice Ao51 t393.length co51] rfl (by (try simp only [ych, yci, ycj]); first | done | rfl | (simp only [ycl, yck]; rfl)) ?_; (with_reducible refine (impl_PlanTight.calls _ _ t393 t397 false _ ?side1 ?side2 A27.out).mono ?_); (case side1 => repeat (first | exact (Kd.R_reads' HO396.out).2.2 | (with_reducible refine ycv ?_ _) | (with_reducible refine ycw ?_ _) | (with_reducible refine ycx ?_))); (case side2 => exact (Kd.R_reads' HO396.out).2.1); rintro e w52 ⟨v399, rfl, ho0, hb⟩; refine ⟨_, rfl, ?_⟩; have n0_ := zaa.mk (Kd.V_elder' (by (with_reducible repeat (first | apply ycs | apply yct | apply ycu)); exact HO_3.out) (Kd.R_base ho0) hb); have n1_ := zaa.mk (Kd.R_elder' (by (with_reducible repeat (first | apply ycp | apply ycq | apply ycr)); exact HO_4.out) (Kd.R_base ho0) hb); have n2_ := zaa.mk (Kd.R_elder' (by (with_reducible repeat (first | apply ycp | apply ycq | apply ycr)); exact HO_6.out) (Kd.R_base ho0) hb); have n3_ := zaa.mk (Kd.R_elder' (by (with_reducible repeat (first | apply ycp | apply ycq | apply ycr)); exact HO388.out) (Kd.R_base ho0) hb); have n4_ := zaa.mk (Kd.R_elder' (by (with_reducible repeat (first | apply ycp | apply ycq | apply ycr)); exact HO396.out) (Kd.R_base ho0) hb); have n5_ := zaa.mk (Kd.R_lower (Kd.R_new' (Kd.R_new' (Kd.R_new' (Kd.R_new' ho0 (Kd.R_lt (by (with_reducible repeat (first | apply ycp | apply ycq | apply ycr)); exact HO_4.out))) (Kd.R_lt (by (with_reducible repeat (first | apply ycp | apply ycq | apply ycr)); exact HO_6.out))) (Kd.R_lt (by (with_reducible repeat (first | apply ycp | apply ycq | apply ycr)); exact HO388.out))) (Kd.R_lt (by (with_reducible repeat (first | apply ycp | apply ycq | apply ycr)); exact HO396.out))) (zag (by repeat (first | (with_reducible first | exact HB.out | apply zac | apply zab | apply zad) | exact HB.out)))); have n6_ := zaa.mk (zae (by repeat (first | (with_reducible first | exact HB.out | apply zac | apply zab | apply zad) | exact HB.out)) hb); clear HO_3; clear HO_4; clear HO_6; clear HO388; clear HO396; clear HB; have HO_3 := n0_; have HO_4 := n1_; have HO_6 := n2_; have HO388 := n3_; have HO396 := n4_; have HO400 := n5_; have HB := n6_; clear n0_ n1_ n2_ n3_ n4_ n5_ n6_; (try clear hb); (try clear hb2); (try clear hk); (try clear hi); (try clear ho0); obtain ⟨Ao53, co53, eo53⟩ := Kd.R_slice HO388.out; subst eo53) | (go_at_call 36; (with_reducible refine (laws_sameTexts.calls kj5 _ _ t385 _ _ t375 true _ ?side1 ?side2 ?side3 ?side4 A31.out).mono ?_); (case side1 => repeat (first | exact (Kd.R_reads' HO388.out).2.2 | (with_reducible refine ycv ?_ _) | (with_reducible refine ycw ?_ _) | (with_reducible refine ycx ?_))); (case side2 => exact (Kd.R_reads' HO388.out).2.1); (case side3 => repeat (first | exact (Kd.R_reads' HO_4.out).2.2 | (with_reducible refine ycv ?_ _) | (with_reducible refine ycw ?_ _) | (with_reducible refine ycx ?_))); (case side4 => exact (Kd.R_reads' HO_4.out).2.1); rintro e w' ⟨rfl, ⟨nd, rfl⟩⟩))
            go_ret
            exact ⟨by first | rfl | (simp [zap, zao] <;> rfl) | (simp [*, zap, zao] <;> rfl), by repeat (first | (with_reducible first | exact HB.out | apply zac | apply zab | apply zad) | exact HB.out)⟩
          ·replace c34 := Bool.eq_false_iff.mpr c34
           subst c34
           have H1 : (some true) = some r := by rw [if_neg (show ¬ (false = true) by decide)] at H; exact H
           clear H
           have H := H1
           clear H1
           obtain rfl := Option.some.inj H
           obtain ⟨Ao54, co54, eo54⟩ := Kd.R_slice HO_4.out
           subst eo54
           go_wp2_with (first | ((with_reducible refine zah (f := 33) rfl ?_); refine zaz (some 56) rfl rfl Try.func33 (by kernel_rfl) rfl #[.slice Ao54 t375.length co54] rfl (by (try simp only [ych, yci, ycj]); first | done | rfl | (simp only [ycl, yck]; rfl)) ?_; (with_reducible refine (impl_PlanTight.calls _ _ t375 t385 true _ ?side1 ?side2 A23.out).mono ?_); (case side1 => repeat (first | exact (Kd.R_reads' HO_4.out).2.2 | (with_reducible refine ycv ?_ _) | (with_reducible refine ycw ?_ _) | (with_reducible refine ycx ?_))); (case side2 => exact (Kd.R_reads' HO_4.out).2.1); rintro e w55 ⟨v387, rfl, ho0, hb⟩; refine ⟨_, rfl, ?_⟩; have n0_ := zaa.mk (Kd.V_elder' (by (with_reducible repeat (first | apply ycs | apply yct | apply ycu)); exact HO_3.out) (Kd.R_base ho0) hb); have n1_ := zaa.mk (Kd.R_elder' (by (with_reducible repeat (first | apply ycp | apply ycq | apply ycr)); exact HO_4.out) (Kd.R_base ho0) hb); have n2_ := zaa.mk (Kd.R_elder' (by (with_reducible repeat (first | apply ycp | apply ycq | apply ycr)); exact HO_6.out) (Kd.R_base ho0) hb); have n3_ := zaa.mk (Kd.R_lower (Kd.R_new' (Kd.R_new' ho0 (Kd.R_lt (by (with_reducible repeat (first | apply ycp | apply ycq | apply ycr)); exact HO_4.out))) (Kd.R_lt (by (with_reducible repeat (first | apply ycp | apply ycq | apply ycr)); exact HO_6.out))) (zag (by repeat (first | (with_reducible first | exact HB.out | apply zac | apply zab | apply zad) | exact HB.out)))); have n4_ := zaa.mk (zae (by repeat (first | (with_reducible first | exact HB.out | apply zac | apply zab | apply zad) | exact HB.out)) hb); clear HO_3; clear HO_4; clear HO_6; clear HB; have HO_3 := n0_; have HO_4 := n1_; have HO_6 := n2_; have HO388 := n3_; have HB := n4_; clear n0_ n1_ n2_ n3_ n4_; (try clear hb); (try clear hb2); (try clear hk); (try clear hi); (try clear ho0)) | ((with_reducible refine zah (f := 37) rfl ?_); refine zaz (some 61) rfl rfl Try.func37 (by kernel_rfl) rfl #[.slice Ao8 t372.length co8] rfl (by (try simp only [ych, yci, ycj]); first | done | rfl | (simp only [ycl, yck]; rfl)) ?_; (with_reducible refine (impl_PlanRooms.calls _ _ t372 t389 true _ ?side1 ?side2 A24.out).mono ?_); (case side1 => repeat (first | exact (Kd.V_reads' HO_3.out).2.2 | (with_reducible refine ycv ?_ _) | (with_reducible refine ycw ?_ _) | (with_reducible refine ycx ?_))); (case side2 => exact (Kd.V_reads' HO_3.out).2.1); rintro e w56 ⟨rfl, hb⟩; refine ⟨_, rfl, ?_⟩; have n0_ := zaa.mk (Kd.V_below (by (with_reducible repeat (first | apply ycs | apply yct | apply ycu)); exact HO_3.out) hb); have n1_ := zaa.mk (Kd.R_below (by (with_reducible repeat (first | apply ycp | apply ycq | apply ycr)); exact HO_4.out) hb); have n2_ := zaa.mk (Kd.R_below (by (with_reducible repeat (first | apply ycp | apply ycq | apply ycr)); exact HO_6.out) hb); have n3_ := zaa.mk (Kd.R_below (by (with_reducible repeat (first | apply ycp | apply ycq | apply ycr)); exact HO388.out) hb); have n4_ := zaa.mk (zae (by repeat (first | (with_reducible first | exact HB.out | apply zac | apply zab | apply zad) | exact HB.out)) hb); clear HO_3; clear HO_4; clear HO_6; clear HO388; clear HB; have HO_3 := n0_; have HO_4 := n1_; have HO_6 := n2_; have HO388 := n3_; have HB := n4_; clear n0_ n1_ n2_ n3_ n4_; (try clear hb); (try clear hb2); (try clear hk); (try clear hi)) | ((with_reducible refine zah (f := 37) rfl ?_); refine zaz (some 66) rfl rfl Try.func37 (by kernel_rfl) rfl #[.slice Ao54 t375.length co54] rfl (by (try simp only [ych, yci, ycj]); first | done | rfl | (simp only [ycl, yck]; rfl)) ?_; (with_reducible refine (impl_PlanRooms.calls _ _ t375 t391 true _ ?side1 ?side2 A25.out).mono ?_); (case side1 => repeat (first | exact (Kd.R_reads' HO_4.out).2.2 | (with_reducible refine ycv ?_ _) | (with_reducible refine ycw ?_ _) | (with_reducible refine ycx ?_))); (case side2 => exact (Kd.R_reads' HO_4.out).2.1); rintro e w57 ⟨rfl, hb⟩; refine ⟨_, rfl, ?_⟩; have n0_ := zaa.mk (Kd.V_below (by (with_reducible repeat (first | apply ycs | apply yct | apply ycu)); exact HO_3.out) hb); have n1_ := zaa.mk (Kd.R_below (by (with_reducible repeat (first | apply ycp | apply ycq | apply ycr)); exact HO_4.out) hb); have n2_ := zaa.mk (Kd.R_below (by (with_reducible repeat (first | apply ycp | apply ycq | apply ycr)); exact HO_6.out) hb); have n3_ := zaa.mk (Kd.R_below (by (with_reducible repeat (first | apply ycp | apply ycq | apply ycr)); exact HO388.out) hb); have n4_ := zaa.mk (zae (by repeat (first | (with_reducible first | exact HB.out | apply zac | apply zab | apply zad) | exact HB.out)) hb); clear HO_3; clear HO_4; clear HO_6; clear HO388; clear HB; have HO_3 := n0_; have HO_4 := n1_; have HO_6 := n2_; have HO388 := n3_; have HB := n4_; clear n0_ n1_ n2_ n3_ n4_; (try clear hb); (try clear hb2); (try clear hk); (try clear hi)) | ((with_reducible refine zah (f := 38) rfl ?_); refine zaz (some 71) rfl rfl Try.func38 (by kernel_rfl) rfl #[.slice Ao8 t372.length co8, .int .i64 2] rfl (by (try simp only [ych, yci, ycj]); first | done | rfl | (simp only [ycl, yck]; rfl)) ?_; (with_reducible refine (impl_PlanWide.calls _ _ t372 2 t393 false _ ?side1 ?side2 A26.out).mono ?_); (case side1 => repeat (first | exact (Kd.V_reads' HO_3.out).2.2 | (with_reducible refine ycv ?_ _) | (with_reducible refine ycw ?_ _) | (with_reducible refine ycx ?_))); (case side2 => exact (Kd.V_reads' HO_3.out).2.1); rintro e w58 ⟨v395, rfl, ho0, hb⟩; refine ⟨_, rfl, ?_⟩; have n0_ := zaa.mk (Kd.V_elder' (by (with_reducible repeat (first | apply ycs | apply yct | apply ycu)); exact HO_3.out) (Kd.R_base ho0) hb); have n1_ := zaa.mk (Kd.R_elder' (by (with_reducible repeat (first | apply ycp | apply ycq | apply ycr)); exact HO_4.out) (Kd.R_base ho0) hb); have n2_ := zaa.mk (Kd.R_elder' (by (with_reducible repeat (first | apply ycp | apply ycq | apply ycr)); exact HO_6.out) (Kd.R_base ho0) hb); have n3_ := zaa.mk (Kd.R_elder' (by (with_reducible repeat (first | apply ycp | apply ycq | apply ycr)); exact HO388.out) (Kd.R_base ho0) hb); have n4_ := zaa.mk (Kd.R_lower (Kd.R_new' (Kd.R_new' (Kd.R_new' ho0 (Kd.R_lt (by (with_reducible repeat (first | apply ycp | apply ycq | apply ycr)); exact HO_4.out))) (Kd.R_lt (by (with_reducible repeat (first | apply ycp | apply ycq | apply ycr)); exact HO_6.out))) (Kd.R_lt (by (with_reducible repeat (first | apply ycp | apply ycq | apply ycr)); exact HO388.out))) (zag (by repeat (first | (with_reducible first | exact HB.out | apply zac | apply zab | apply zad) | exact HB.out)))); have n5_ := zaa.mk (zae (by repeat (first | (with_reducible first | exact HB.out | apply zac | apply zab | apply zad) | exact HB.out)) hb); clear HO_3; clear HO_4; clear HO_6; clear HO388; clear HB; have HO_3 := n0_; have HO_4 := n1_; have HO_6 := n2_; have HO388 := n3_; have HO396 := n4_; have HB := n5_; clear n0_ n1_ n2_ n3_ n4_ n5_; (try clear hb); (try clear hb2); (try clear hk); (try clear hi); (try clear ho0); obtain ⟨Ao59, co59, eo59⟩ := Kd.R_slice HO396.out; subst eo59) | ((with_reducible refine zah (f := 33) rfl ?_); refine zaz (some 76) rfl rfl Try.func33 (by kernel_rfl) rfl #[.slice Ao59 t393.length co59] rfl (by (try simp only [ych, yci, ycj]); first | done | rfl | (simp only [ycl, yck]; rfl)) ?_; (with_reducible refine (impl_PlanTight.calls _ _ t393 t397 t398 _ ?side1 ?side2 A27.out).mono ?_); (case side1 => repeat (first | exact (Kd.R_reads' HO396.out).2.2 | (with_reducible refine ycv ?_ _) | (with_reducible refine ycw ?_ _) | (with_reducible refine ycx ?_))); (case side2 => exact (Kd.R_reads' HO396.out).2.1); rintro e w60 ⟨v399, rfl, ho0, hb⟩; refine ⟨_, rfl, ?_⟩; have n0_ := zaa.mk (Kd.V_elder' (by (with_reducible repeat (first | apply ycs | apply yct | apply ycu)); exact HO_3.out) (Kd.R_base ho0) hb); have n1_ := zaa.mk (Kd.R_elder' (by (with_reducible repeat (first | apply ycp | apply ycq | apply ycr)); exact HO_4.out) (Kd.R_base ho0) hb); have n2_ := zaa.mk (Kd.R_elder' (by (with_reducible repeat (first | apply ycp | apply ycq | apply ycr)); exact HO_6.out) (Kd.R_base ho0) hb); have n3_ := zaa.mk (Kd.R_elder' (by (with_reducible repeat (first | apply ycp | apply ycq | apply ycr)); exact HO388.out) (Kd.R_base ho0) hb); have n4_ := zaa.mk (Kd.R_elder' (by (with_reducible repeat (first | apply ycp | apply ycq | apply ycr)); exact HO396.out) (Kd.R_base ho0) hb); have n5_ := zaa.mk (Kd.R_lower (Kd.R_new' (Kd.R_new' (Kd.R_new' (Kd.R_new' ho0 (Kd.R_lt (by (with_reducible repeat (first | apply ycp | apply ycq | apply ycr)); exact HO_4.out))) (Kd.R_lt (by (with_reducible repeat (first | apply ycp | apply ycq | apply ycr)); exact HO_6.out))) (Kd.R_lt (by (with_reducible repeat (first | apply ycp | apply ycq | apply ycr)); exact HO388.out))) (Kd.R_lt (by (with_reducible repeat (first | apply ycp | apply ycq | apply ycr)); exact HO396.out))) (zag (by repeat (first | (with_reducible first | exact HB.out | apply zac | apply zab | apply zad) | exact HB.out)))); have n6_ := zaa.mk (zae (by repeat (first | (with_reducible first | exact HB.out | apply zac | apply zab | apply zad) | exact HB.out)) hb); clear HO_3; clear HO_4; clear HO_6; clear HO388; clear HO396; clear HB; have HO_3 := n0_; have HO_4 := n1_; have HO_6 := n2_; have HO388 := n3_; have HO396 := n4_; have HO400 := n5_; have HB := n6_; clear n0_ n1_ n2_ n3_ n4_ n5_ n6_; (try clear hb); (try clear hb2); (try clear hk); (try clear hi); (try clear ho0); obtain ⟨Ao61, co61, eo61⟩ := Kd.R_slice HO388.out; subst eo61) | (go_at_call 36; (with_reducible refine (laws_sameTexts.calls kj5 _ _ t385 _ _ t375 true _ ?side1 ?side2 ?side3 ?side4 A31.out).mono ?_); (case side1 => repeat (first | exact (Kd.R_reads' HO388.out).2.2 | (with_reducible refine ycv ?_ _) | (with_reducible refine ycw ?_ _) | (with_reducible refine ycx ?_))); (case side2 => exact (Kd.R_reads' HO388.out).2.1); (case side3 => repeat (first | exact (Kd.R_reads' HO_4.out).2.2 | (with_reducible refine ycv ?_ _) | (with_reducible refine ycw ?_ _) | (with_reducible refine ycx ?_))); (case side4 => exact (Kd.R_reads' HO_4.out).2.1); rintro e w' ⟨rfl, ⟨nd, rfl⟩⟩))
           go_ret
           exact ⟨by first | rfl | (simp [zap, zao] <;> rfl) | (simp [*, zap, zao] <;> rfl), by repeat (first | (with_reducible first | exact HB.out | apply zac | apply zab | apply zad) | exact HB.out)⟩
         ·rw [if_neg c33] at H
          have c33b0 : (t389 == t391) = false := beq_eq_false_iff_ne.mpr c33
          have c33b1 : (t389 != t391) = true := bne_iff_ne.mpr c33
          obtain rfl := Option.some.inj H
          obtain ⟨Ao62, co62, eo62⟩ := Kd.R_slice HO_4.out
          subst eo62
          go_wp2_with (first | ((with_reducible refine zah (f := 33) rfl ?_); refine zaz (some 56) rfl rfl Try.func33 (by kernel_rfl) rfl #[.slice Ao62 t375.length co62] rfl (by (try simp only [ych, yci, ycj]); first | done | rfl | (simp only [ycl, yck]; rfl)) ?_; (with_reducible refine (impl_PlanTight.calls _ _ t375 t385 true _ ?side1 ?side2 A23.out).mono ?_); (case side1 => repeat (first | exact (Kd.R_reads' HO_4.out).2.2 | (with_reducible refine ycv ?_ _) | (with_reducible refine ycw ?_ _) | (with_reducible refine ycx ?_))); (case side2 => exact (Kd.R_reads' HO_4.out).2.1); rintro e w63 ⟨v387, rfl, ho0, hb⟩; refine ⟨_, rfl, ?_⟩; have n0_ := zaa.mk (Kd.V_elder' (by (with_reducible repeat (first | apply ycs | apply yct | apply ycu)); exact HO_3.out) (Kd.R_base ho0) hb); have n1_ := zaa.mk (Kd.R_elder' (by (with_reducible repeat (first | apply ycp | apply ycq | apply ycr)); exact HO_4.out) (Kd.R_base ho0) hb); have n2_ := zaa.mk (Kd.R_elder' (by (with_reducible repeat (first | apply ycp | apply ycq | apply ycr)); exact HO_6.out) (Kd.R_base ho0) hb); have n3_ := zaa.mk (Kd.R_lower (Kd.R_new' (Kd.R_new' ho0 (Kd.R_lt (by (with_reducible repeat (first | apply ycp | apply ycq | apply ycr)); exact HO_4.out))) (Kd.R_lt (by (with_reducible repeat (first | apply ycp | apply ycq | apply ycr)); exact HO_6.out))) (zag (by repeat (first | (with_reducible first | exact HB.out | apply zac | apply zab | apply zad) | exact HB.out)))); have n4_ := zaa.mk (zae (by repeat (first | (with_reducible first | exact HB.out | apply zac | apply zab | apply zad) | exact HB.out)) hb); clear HO_3; clear HO_4; clear HO_6; clear HB; have HO_3 := n0_; have HO_4 := n1_; have HO_6 := n2_; have HO388 := n3_; have HB := n4_; clear n0_ n1_ n2_ n3_ n4_; (try clear hb); (try clear hb2); (try clear hk); (try clear hi); (try clear ho0)) | ((with_reducible refine zah (f := 37) rfl ?_); refine zaz (some 61) rfl rfl Try.func37 (by kernel_rfl) rfl #[.slice Ao8 t372.length co8] rfl (by (try simp only [ych, yci, ycj]); first | done | rfl | (simp only [ycl, yck]; rfl)) ?_; (with_reducible refine (impl_PlanRooms.calls _ _ t372 t389 true _ ?side1 ?side2 A24.out).mono ?_); (case side1 => repeat (first | exact (Kd.V_reads' HO_3.out).2.2 | (with_reducible refine ycv ?_ _) | (with_reducible refine ycw ?_ _) | (with_reducible refine ycx ?_))); (case side2 => exact (Kd.V_reads' HO_3.out).2.1); rintro e w64 ⟨rfl, hb⟩; refine ⟨_, rfl, ?_⟩; have n0_ := zaa.mk (Kd.V_below (by (with_reducible repeat (first | apply ycs | apply yct | apply ycu)); exact HO_3.out) hb); have n1_ := zaa.mk (Kd.R_below (by (with_reducible repeat (first | apply ycp | apply ycq | apply ycr)); exact HO_4.out) hb); have n2_ := zaa.mk (Kd.R_below (by (with_reducible repeat (first | apply ycp | apply ycq | apply ycr)); exact HO_6.out) hb); have n3_ := zaa.mk (Kd.R_below (by (with_reducible repeat (first | apply ycp | apply ycq | apply ycr)); exact HO388.out) hb); have n4_ := zaa.mk (zae (by repeat (first | (with_reducible first | exact HB.out | apply zac | apply zab | apply zad) | exact HB.out)) hb); clear HO_3; clear HO_4; clear HO_6; clear HO388; clear HB; have HO_3 := n0_; have HO_4 := n1_; have HO_6 := n2_; have HO388 := n3_; have HB := n4_; clear n0_ n1_ n2_ n3_ n4_; (try clear hb); (try clear hb2); (try clear hk); (try clear hi)) | ((with_reducible refine zah (f := 37) rfl ?_); refine zaz (some 66) rfl rfl Try.func37 (by kernel_rfl) rfl #[.slice Ao62 t375.length co62] rfl (by (try simp only [ych, yci, ycj]); first | done | rfl | (simp only [ycl, yck]; rfl)) ?_; (with_reducible refine (impl_PlanRooms.calls _ _ t375 t391 true _ ?side1 ?side2 A25.out).mono ?_); (case side1 => repeat (first | exact (Kd.R_reads' HO_4.out).2.2 | (with_reducible refine ycv ?_ _) | (with_reducible refine ycw ?_ _) | (with_reducible refine ycx ?_))); (case side2 => exact (Kd.R_reads' HO_4.out).2.1); rintro e w65 ⟨rfl, hb⟩; refine ⟨_, rfl, ?_⟩; have n0_ := zaa.mk (Kd.V_below (by (with_reducible repeat (first | apply ycs | apply yct | apply ycu)); exact HO_3.out) hb); have n1_ := zaa.mk (Kd.R_below (by (with_reducible repeat (first | apply ycp | apply ycq | apply ycr)); exact HO_4.out) hb); have n2_ := zaa.mk (Kd.R_below (by (with_reducible repeat (first | apply ycp | apply ycq | apply ycr)); exact HO_6.out) hb); have n3_ := zaa.mk (Kd.R_below (by (with_reducible repeat (first | apply ycp | apply ycq | apply ycr)); exact HO388.out) hb); have n4_ := zaa.mk (zae (by repeat (first | (with_reducible first | exact HB.out | apply zac | apply zab | apply zad) | exact HB.out)) hb); clear HO_3; clear HO_4; clear HO_6; clear HO388; clear HB; have HO_3 := n0_; have HO_4 := n1_; have HO_6 := n2_; have HO388 := n3_; have HB := n4_; clear n0_ n1_ n2_ n3_ n4_; (try clear hb); (try clear hb2); (try clear hk); (try clear hi)) | ((with_reducible refine zah (f := 38) rfl ?_); refine zaz (some 71) rfl rfl Try.func38 (by kernel_rfl) rfl #[.slice Ao8 t372.length co8, .int .i64 2] rfl (by (try simp only [ych, yci, ycj]); first | done | rfl | (simp only [ycl, yck]; rfl)) ?_; (with_reducible refine (impl_PlanWide.calls _ _ t372 2 t393 t394 _ ?side1 ?side2 A26.out).mono ?_); (case side1 => repeat (first | exact (Kd.V_reads' HO_3.out).2.2 | (with_reducible refine ycv ?_ _) | (with_reducible refine ycw ?_ _) | (with_reducible refine ycx ?_))); (case side2 => exact (Kd.V_reads' HO_3.out).2.1); rintro e w66 ⟨v395, rfl, ho0, hb⟩; refine ⟨_, rfl, ?_⟩; have n0_ := zaa.mk (Kd.V_elder' (by (with_reducible repeat (first | apply ycs | apply yct | apply ycu)); exact HO_3.out) (Kd.R_base ho0) hb); have n1_ := zaa.mk (Kd.R_elder' (by (with_reducible repeat (first | apply ycp | apply ycq | apply ycr)); exact HO_4.out) (Kd.R_base ho0) hb); have n2_ := zaa.mk (Kd.R_elder' (by (with_reducible repeat (first | apply ycp | apply ycq | apply ycr)); exact HO_6.out) (Kd.R_base ho0) hb); have n3_ := zaa.mk (Kd.R_elder' (by (with_reducible repeat (first | apply ycp | apply ycq | apply ycr)); exact HO388.out) (Kd.R_base ho0) hb); have n4_ := zaa.mk (Kd.R_lower (Kd.R_new' (Kd.R_new' (Kd.R_new' ho0 (Kd.R_lt (by (with_reducible repeat (first | apply ycp | apply ycq | apply ycr)); exact HO_4.out))) (Kd.R_lt (by (with_reducible repeat (first | apply ycp | apply ycq | apply ycr)); exact HO_6.out))) (Kd.R_lt (by (with_reducible repeat (first | apply ycp | apply ycq | apply ycr)); exact HO388.out))) (zag (by repeat (first | (with_reducible first | exact HB.out | apply zac | apply zab | apply zad) | exact HB.out)))); have n5_ := zaa.mk (zae (by repeat (first | (with_reducible first | exact HB.out | apply zac | apply zab | apply zad) | exact HB.out)) hb); clear HO_3; clear HO_4; clear HO_6; clear HO388; clear HB; have HO_3 := n0_; have HO_4 := n1_; have HO_6 := n2_; have HO388 := n3_; have HO396 := n4_; have HB := n5_; clear n0_ n1_ n2_ n3_ n4_ n5_; (try clear hb); (try clear hb2); (try clear hk); (try clear hi); (try clear ho0); obtain ⟨Ao67, co67, eo67⟩ := Kd.R_slice HO396.out; subst eo67) | ((with_reducible refine zah (f := 33) rfl ?_); refine zaz (some 76) rfl rfl Try.func33 (by kernel_rfl) rfl #[.slice Ao67 t393.length co67] rfl (by (try simp only [ych, yci, ycj]); first | done | rfl | (simp only [ycl, yck]; rfl)) ?_; (with_reducible refine (impl_PlanTight.calls _ _ t393 t397 t398 _ ?side1 ?side2 A27.out).mono ?_); (case side1 => repeat (first | exact (Kd.R_reads' HO396.out).2.2 | (with_reducible refine ycv ?_ _) | (with_reducible refine ycw ?_ _) | (with_reducible refine ycx ?_))); (case side2 => exact (Kd.R_reads' HO396.out).2.1); rintro e w68 ⟨v399, rfl, ho0, hb⟩; refine ⟨_, rfl, ?_⟩; have n0_ := zaa.mk (Kd.V_elder' (by (with_reducible repeat (first | apply ycs | apply yct | apply ycu)); exact HO_3.out) (Kd.R_base ho0) hb); have n1_ := zaa.mk (Kd.R_elder' (by (with_reducible repeat (first | apply ycp | apply ycq | apply ycr)); exact HO_4.out) (Kd.R_base ho0) hb); have n2_ := zaa.mk (Kd.R_elder' (by (with_reducible repeat (first | apply ycp | apply ycq | apply ycr)); exact HO_6.out) (Kd.R_base ho0) hb); have n3_ := zaa.mk (Kd.R_elder' (by (with_reducible repeat (first | apply ycp | apply ycq | apply ycr)); exact HO388.out) (Kd.R_base ho0) hb); have n4_ := zaa.mk (Kd.R_elder' (by (with_reducible repeat (first | apply ycp | apply ycq | apply ycr)); exact HO396.out) (Kd.R_base ho0) hb); have n5_ := zaa.mk (Kd.R_lower (Kd.R_new' (Kd.R_new' (Kd.R_new' (Kd.R_new' ho0 (Kd.R_lt (by (with_reducible repeat (first | apply ycp | apply ycq | apply ycr)); exact HO_4.out))) (Kd.R_lt (by (with_reducible repeat (first | apply ycp | apply ycq | apply ycr)); exact HO_6.out))) (Kd.R_lt (by (with_reducible repeat (first | apply ycp | apply ycq | apply ycr)); exact HO388.out))) (Kd.R_lt (by (with_reducible repeat (first | apply ycp | apply ycq | apply ycr)); exact HO396.out))) (zag (by repeat (first | (with_reducible first | exact HB.out | apply zac | apply zab | apply zad) | exact HB.out)))); have n6_ := zaa.mk (zae (by repeat (first | (with_reducible first | exact HB.out | apply zac | apply zab | apply zad) | exact HB.out)) hb); clear HO_3; clear HO_4; clear HO_6; clear HO388; clear HO396; clear HB; have HO_3 := n0_; have HO_4 := n1_; have HO_6 := n2_; have HO388 := n3_; have HO396 := n4_; have HO400 := n5_; have HB := n6_; clear n0_ n1_ n2_ n3_ n4_ n5_ n6_; (try clear hb); (try clear hb2); (try clear hk); (try clear hi); (try clear ho0); obtain ⟨Ao69, co69, eo69⟩ := Kd.R_slice HO388.out; subst eo69) | (go_at_call 36; (with_reducible refine (laws_sameTexts.calls kj5 _ _ t385 _ _ t375 true _ ?side1 ?side2 ?side3 ?side4 A31.out).mono ?_); (case side1 => repeat (first | exact (Kd.R_reads' HO388.out).2.2 | (with_reducible refine ycv ?_ _) | (with_reducible refine ycw ?_ _) | (with_reducible refine ycx ?_))); (case side2 => exact (Kd.R_reads' HO388.out).2.1); (case side3 => repeat (first | exact (Kd.R_reads' HO_4.out).2.2 | (with_reducible refine ycv ?_ _) | (with_reducible refine ycw ?_ _) | (with_reducible refine ycx ?_))); (case side4 => exact (Kd.R_reads' HO_4.out).2.1); rintro e w' ⟨rfl, ⟨nd, rfl⟩⟩))
          go_ret
          exact ⟨by first | rfl | (simp [zap, zao] <;> rfl) | (simp [*, zap, zao] <;> rfl), by repeat (first | (with_reducible first | exact HB.out | apply zac | apply zab | apply zad) | exact HB.out)⟩
        ·replace c32 := Bool.eq_false_iff.mpr c32
         subst c32
         have H1 : (some false) = some r := by rw [if_neg (show ¬ (false = true) by decide)] at H; exact H
         clear H
         have H := H1
         clear H1
         obtain rfl := Option.some.inj H
         obtain ⟨Ao70, co70, eo70⟩ := Kd.R_slice HO_4.out
         subst eo70
         go_wp2_with (first | ((with_reducible refine zah (f := 33) rfl ?_); refine zaz (some 56) rfl rfl Try.func33 (by kernel_rfl) rfl #[.slice Ao70 t375.length co70] rfl (by (try simp only [ych, yci, ycj]); first | done | rfl | (simp only [ycl, yck]; rfl)) ?_; (with_reducible refine (impl_PlanTight.calls _ _ t375 t385 true _ ?side1 ?side2 A23.out).mono ?_); (case side1 => repeat (first | exact (Kd.R_reads' HO_4.out).2.2 | (with_reducible refine ycv ?_ _) | (with_reducible refine ycw ?_ _) | (with_reducible refine ycx ?_))); (case side2 => exact (Kd.R_reads' HO_4.out).2.1); rintro e w71 ⟨v387, rfl, ho0, hb⟩; refine ⟨_, rfl, ?_⟩; have n0_ := zaa.mk (Kd.V_elder' (by (with_reducible repeat (first | apply ycs | apply yct | apply ycu)); exact HO_3.out) (Kd.R_base ho0) hb); have n1_ := zaa.mk (Kd.R_elder' (by (with_reducible repeat (first | apply ycp | apply ycq | apply ycr)); exact HO_4.out) (Kd.R_base ho0) hb); have n2_ := zaa.mk (Kd.R_elder' (by (with_reducible repeat (first | apply ycp | apply ycq | apply ycr)); exact HO_6.out) (Kd.R_base ho0) hb); have n3_ := zaa.mk (Kd.R_lower (Kd.R_new' (Kd.R_new' ho0 (Kd.R_lt (by (with_reducible repeat (first | apply ycp | apply ycq | apply ycr)); exact HO_4.out))) (Kd.R_lt (by (with_reducible repeat (first | apply ycp | apply ycq | apply ycr)); exact HO_6.out))) (zag (by repeat (first | (with_reducible first | exact HB.out | apply zac | apply zab | apply zad) | exact HB.out)))); have n4_ := zaa.mk (zae (by repeat (first | (with_reducible first | exact HB.out | apply zac | apply zab | apply zad) | exact HB.out)) hb); clear HO_3; clear HO_4; clear HO_6; clear HB; have HO_3 := n0_; have HO_4 := n1_; have HO_6 := n2_; have HO388 := n3_; have HB := n4_; clear n0_ n1_ n2_ n3_ n4_; (try clear hb); (try clear hb2); (try clear hk); (try clear hi); (try clear ho0)) | ((with_reducible refine zah (f := 37) rfl ?_); refine zaz (some 61) rfl rfl Try.func37 (by kernel_rfl) rfl #[.slice Ao8 t372.length co8] rfl (by (try simp only [ych, yci, ycj]); first | done | rfl | (simp only [ycl, yck]; rfl)) ?_; (with_reducible refine (impl_PlanRooms.calls _ _ t372 t389 true _ ?side1 ?side2 A24.out).mono ?_); (case side1 => repeat (first | exact (Kd.V_reads' HO_3.out).2.2 | (with_reducible refine ycv ?_ _) | (with_reducible refine ycw ?_ _) | (with_reducible refine ycx ?_))); (case side2 => exact (Kd.V_reads' HO_3.out).2.1); rintro e w72 ⟨rfl, hb⟩; refine ⟨_, rfl, ?_⟩; have n0_ := zaa.mk (Kd.V_below (by (with_reducible repeat (first | apply ycs | apply yct | apply ycu)); exact HO_3.out) hb); have n1_ := zaa.mk (Kd.R_below (by (with_reducible repeat (first | apply ycp | apply ycq | apply ycr)); exact HO_4.out) hb); have n2_ := zaa.mk (Kd.R_below (by (with_reducible repeat (first | apply ycp | apply ycq | apply ycr)); exact HO_6.out) hb); have n3_ := zaa.mk (Kd.R_below (by (with_reducible repeat (first | apply ycp | apply ycq | apply ycr)); exact HO388.out) hb); have n4_ := zaa.mk (zae (by repeat (first | (with_reducible first | exact HB.out | apply zac | apply zab | apply zad) | exact HB.out)) hb); clear HO_3; clear HO_4; clear HO_6; clear HO388; clear HB; have HO_3 := n0_; have HO_4 := n1_; have HO_6 := n2_; have HO388 := n3_; have HB := n4_; clear n0_ n1_ n2_ n3_ n4_; (try clear hb); (try clear hb2); (try clear hk); (try clear hi)) | ((with_reducible refine zah (f := 37) rfl ?_); refine zaz (some 66) rfl rfl Try.func37 (by kernel_rfl) rfl #[.slice Ao70 t375.length co70] rfl (by (try simp only [ych, yci, ycj]); first | done | rfl | (simp only [ycl, yck]; rfl)) ?_; (with_reducible refine (impl_PlanRooms.calls _ _ t375 t391 true _ ?side1 ?side2 A25.out).mono ?_); (case side1 => repeat (first | exact (Kd.R_reads' HO_4.out).2.2 | (with_reducible refine ycv ?_ _) | (with_reducible refine ycw ?_ _) | (with_reducible refine ycx ?_))); (case side2 => exact (Kd.R_reads' HO_4.out).2.1); rintro e w73 ⟨rfl, hb⟩; refine ⟨_, rfl, ?_⟩; have n0_ := zaa.mk (Kd.V_below (by (with_reducible repeat (first | apply ycs | apply yct | apply ycu)); exact HO_3.out) hb); have n1_ := zaa.mk (Kd.R_below (by (with_reducible repeat (first | apply ycp | apply ycq | apply ycr)); exact HO_4.out) hb); have n2_ := zaa.mk (Kd.R_below (by (with_reducible repeat (first | apply ycp | apply ycq | apply ycr)); exact HO_6.out) hb); have n3_ := zaa.mk (Kd.R_below (by (with_reducible repeat (first | apply ycp | apply ycq | apply ycr)); exact HO388.out) hb); have n4_ := zaa.mk (zae (by repeat (first | (with_reducible first | exact HB.out | apply zac | apply zab | apply zad) | exact HB.out)) hb); clear HO_3; clear HO_4; clear HO_6; clear HO388; clear HB; have HO_3 := n0_; have HO_4 := n1_; have HO_6 := n2_; have HO388 := n3_; have HB := n4_; clear n0_ n1_ n2_ n3_ n4_; (try clear hb); (try clear hb2); (try clear hk); (try clear hi)) | ((with_reducible refine zah (f := 38) rfl ?_); refine zaz (some 71) rfl rfl Try.func38 (by kernel_rfl) rfl #[.slice Ao8 t372.length co8, .int .i64 2] rfl (by (try simp only [ych, yci, ycj]); first | done | rfl | (simp only [ycl, yck]; rfl)) ?_; (with_reducible refine (impl_PlanWide.calls _ _ t372 2 t393 t394 _ ?side1 ?side2 A26.out).mono ?_); (case side1 => repeat (first | exact (Kd.V_reads' HO_3.out).2.2 | (with_reducible refine ycv ?_ _) | (with_reducible refine ycw ?_ _) | (with_reducible refine ycx ?_))); (case side2 => exact (Kd.V_reads' HO_3.out).2.1); rintro e w74 ⟨v395, rfl, ho0, hb⟩; refine ⟨_, rfl, ?_⟩; have n0_ := zaa.mk (Kd.V_elder' (by (with_reducible repeat (first | apply ycs | apply yct | apply ycu)); exact HO_3.out) (Kd.R_base ho0) hb); have n1_ := zaa.mk (Kd.R_elder' (by (with_reducible repeat (first | apply ycp | apply ycq | apply ycr)); exact HO_4.out) (Kd.R_base ho0) hb); have n2_ := zaa.mk (Kd.R_elder' (by (with_reducible repeat (first | apply ycp | apply ycq | apply ycr)); exact HO_6.out) (Kd.R_base ho0) hb); have n3_ := zaa.mk (Kd.R_elder' (by (with_reducible repeat (first | apply ycp | apply ycq | apply ycr)); exact HO388.out) (Kd.R_base ho0) hb); have n4_ := zaa.mk (Kd.R_lower (Kd.R_new' (Kd.R_new' (Kd.R_new' ho0 (Kd.R_lt (by (with_reducible repeat (first | apply ycp | apply ycq | apply ycr)); exact HO_4.out))) (Kd.R_lt (by (with_reducible repeat (first | apply ycp | apply ycq | apply ycr)); exact HO_6.out))) (Kd.R_lt (by (with_reducible repeat (first | apply ycp | apply ycq | apply ycr)); exact HO388.out))) (zag (by repeat (first | (with_reducible first | exact HB.out | apply zac | apply zab | apply zad) | exact HB.out)))); have n5_ := zaa.mk (zae (by repeat (first | (with_reducible first | exact HB.out | apply zac | apply zab | apply zad) | exact HB.out)) hb); clear HO_3; clear HO_4; clear HO_6; clear HO388; clear HB; have HO_3 := n0_; have HO_4 := n1_; have HO_6 := n2_; have HO388 := n3_; have HO396 := n4_; have HB := n5_; clear n0_ n1_ n2_ n3_ n4_ n5_; (try clear hb); (try clear hb2); (try clear hk); (try clear hi); (try clear ho0); obtain ⟨Ao75, co75, eo75⟩ := Kd.R_slice HO396.out; subst eo75) | ((with_reducible refine zah (f := 33) rfl ?_); refine zaz (some 76) rfl rfl Try.func33 (by kernel_rfl) rfl #[.slice Ao75 t393.length co75] rfl (by (try simp only [ych, yci, ycj]); first | done | rfl | (simp only [ycl, yck]; rfl)) ?_; (with_reducible refine (impl_PlanTight.calls _ _ t393 t397 t398 _ ?side1 ?side2 A27.out).mono ?_); (case side1 => repeat (first | exact (Kd.R_reads' HO396.out).2.2 | (with_reducible refine ycv ?_ _) | (with_reducible refine ycw ?_ _) | (with_reducible refine ycx ?_))); (case side2 => exact (Kd.R_reads' HO396.out).2.1); rintro e w76 ⟨v399, rfl, ho0, hb⟩; refine ⟨_, rfl, ?_⟩; have n0_ := zaa.mk (Kd.V_elder' (by (with_reducible repeat (first | apply ycs | apply yct | apply ycu)); exact HO_3.out) (Kd.R_base ho0) hb); have n1_ := zaa.mk (Kd.R_elder' (by (with_reducible repeat (first | apply ycp | apply ycq | apply ycr)); exact HO_4.out) (Kd.R_base ho0) hb); have n2_ := zaa.mk (Kd.R_elder' (by (with_reducible repeat (first | apply ycp | apply ycq | apply ycr)); exact HO_6.out) (Kd.R_base ho0) hb); have n3_ := zaa.mk (Kd.R_elder' (by (with_reducible repeat (first | apply ycp | apply ycq | apply ycr)); exact HO388.out) (Kd.R_base ho0) hb); have n4_ := zaa.mk (Kd.R_elder' (by (with_reducible repeat (first | apply ycp | apply ycq | apply ycr)); exact HO396.out) (Kd.R_base ho0) hb); have n5_ := zaa.mk (Kd.R_lower (Kd.R_new' (Kd.R_new' (Kd.R_new' (Kd.R_new' ho0 (Kd.R_lt (by (with_reducible repeat (first | apply ycp | apply ycq | apply ycr)); exact HO_4.out))) (Kd.R_lt (by (with_reducible repeat (first | apply ycp | apply ycq | apply ycr)); exact HO_6.out))) (Kd.R_lt (by (with_reducible repeat (first | apply ycp | apply ycq | apply ycr)); exact HO388.out))) (Kd.R_lt (by (with_reducible repeat (first | apply ycp | apply ycq | apply ycr)); exact HO396.out))) (zag (by repeat (first | (with_reducible first | exact HB.out | apply zac | apply zab | apply zad) | exact HB.out)))); have n6_ := zaa.mk (zae (by repeat (first | (with_reducible first | exact HB.out | apply zac | apply zab | apply zad) | exact HB.out)) hb); clear HO_3; clear HO_4; clear HO_6; clear HO388; clear HO396; clear HB; have HO_3 := n0_; have HO_4 := n1_; have HO_6 := n2_; have HO388 := n3_; have HO396 := n4_; have HO400 := n5_; have HB := n6_; clear n0_ n1_ n2_ n3_ n4_ n5_ n6_; (try clear hb); (try clear hb2); (try clear hk); (try clear hi); (try clear ho0); obtain ⟨Ao77, co77, eo77⟩ := Kd.R_slice HO388.out; subst eo77) | (go_at_call 36; (with_reducible refine (laws_sameTexts.calls kj5 _ _ t385 _ _ t375 false _ ?side1 ?side2 ?side3 ?side4 A31.out).mono ?_); (case side1 => repeat (first | exact (Kd.R_reads' HO388.out).2.2 | (with_reducible refine ycv ?_ _) | (with_reducible refine ycw ?_ _) | (with_reducible refine ycx ?_))); (case side2 => exact (Kd.R_reads' HO388.out).2.1); (case side3 => repeat (first | exact (Kd.R_reads' HO_4.out).2.2 | (with_reducible refine ycv ?_ _) | (with_reducible refine ycw ?_ _) | (with_reducible refine ycx ?_))); (case side4 => exact (Kd.R_reads' HO_4.out).2.1); rintro e w' ⟨rfl, ⟨nd, rfl⟩⟩))
         go_ret
         exact ⟨by first | rfl | (simp [zap, zao] <;> rfl) | (simp [*, zap, zao] <;> rfl), by repeat (first | (with_reducible first | exact HB.out | apply zac | apply zab | apply zad) | exact HB.out)⟩
       ·replace c30 := Bool.eq_false_iff.mpr c30
        subst c30
        have H1 : (some false) = some r := by rw [if_neg (show ¬ (false = true) by decide)] at H; exact H
        clear H
        have H := H1
        clear H1
        obtain rfl := Option.some.inj H
        obtain ⟨Ao78, co78, eo78⟩ := Kd.R_slice HO_4.out
        subst eo78
        go_wp2_with (first | ((with_reducible refine zah (f := 33) rfl ?_); refine zaz (some 56) rfl rfl Try.func33 (by kernel_rfl) rfl #[.slice Ao78 t375.length co78] rfl (by (try simp only [ych, yci, ycj]); first | done | rfl | (simp only [ycl, yck]; rfl)) ?_; (with_reducible refine (impl_PlanTight.calls _ _ t375 t385 true _ ?side1 ?side2 A23.out).mono ?_); (case side1 => repeat (first | exact (Kd.R_reads' HO_4.out).2.2 | (with_reducible refine ycv ?_ _) | (with_reducible refine ycw ?_ _) | (with_reducible refine ycx ?_))); (case side2 => exact (Kd.R_reads' HO_4.out).2.1); rintro e w79 ⟨v387, rfl, ho0, hb⟩; refine ⟨_, rfl, ?_⟩; have n0_ := zaa.mk (Kd.V_elder' (by (with_reducible repeat (first | apply ycs | apply yct | apply ycu)); exact HO_3.out) (Kd.R_base ho0) hb); have n1_ := zaa.mk (Kd.R_elder' (by (with_reducible repeat (first | apply ycp | apply ycq | apply ycr)); exact HO_4.out) (Kd.R_base ho0) hb); have n2_ := zaa.mk (Kd.R_elder' (by (with_reducible repeat (first | apply ycp | apply ycq | apply ycr)); exact HO_6.out) (Kd.R_base ho0) hb); have n3_ := zaa.mk (Kd.R_lower (Kd.R_new' (Kd.R_new' ho0 (Kd.R_lt (by (with_reducible repeat (first | apply ycp | apply ycq | apply ycr)); exact HO_4.out))) (Kd.R_lt (by (with_reducible repeat (first | apply ycp | apply ycq | apply ycr)); exact HO_6.out))) (zag (by repeat (first | (with_reducible first | exact HB.out | apply zac | apply zab | apply zad) | exact HB.out)))); have n4_ := zaa.mk (zae (by repeat (first | (with_reducible first | exact HB.out | apply zac | apply zab | apply zad) | exact HB.out)) hb); clear HO_3; clear HO_4; clear HO_6; clear HB; have HO_3 := n0_; have HO_4 := n1_; have HO_6 := n2_; have HO388 := n3_; have HB := n4_; clear n0_ n1_ n2_ n3_ n4_; (try clear hb); (try clear hb2); (try clear hk); (try clear hi); (try clear ho0)) | ((with_reducible refine zah (f := 37) rfl ?_); refine zaz (some 61) rfl rfl Try.func37 (by kernel_rfl) rfl #[.slice Ao8 t372.length co8] rfl (by (try simp only [ych, yci, ycj]); first | done | rfl | (simp only [ycl, yck]; rfl)) ?_; (with_reducible refine (impl_PlanRooms.calls _ _ t372 t389 true _ ?side1 ?side2 A24.out).mono ?_); (case side1 => repeat (first | exact (Kd.V_reads' HO_3.out).2.2 | (with_reducible refine ycv ?_ _) | (with_reducible refine ycw ?_ _) | (with_reducible refine ycx ?_))); (case side2 => exact (Kd.V_reads' HO_3.out).2.1); rintro e w80 ⟨rfl, hb⟩; refine ⟨_, rfl, ?_⟩; have n0_ := zaa.mk (Kd.V_below (by (with_reducible repeat (first | apply ycs | apply yct | apply ycu)); exact HO_3.out) hb); have n1_ := zaa.mk (Kd.R_below (by (with_reducible repeat (first | apply ycp | apply ycq | apply ycr)); exact HO_4.out) hb); have n2_ := zaa.mk (Kd.R_below (by (with_reducible repeat (first | apply ycp | apply ycq | apply ycr)); exact HO_6.out) hb); have n3_ := zaa.mk (Kd.R_below (by (with_reducible repeat (first | apply ycp | apply ycq | apply ycr)); exact HO388.out) hb); have n4_ := zaa.mk (zae (by repeat (first | (with_reducible first | exact HB.out | apply zac | apply zab | apply zad) | exact HB.out)) hb); clear HO_3; clear HO_4; clear HO_6; clear HO388; clear HB; have HO_3 := n0_; have HO_4 := n1_; have HO_6 := n2_; have HO388 := n3_; have HB := n4_; clear n0_ n1_ n2_ n3_ n4_; (try clear hb); (try clear hb2); (try clear hk); (try clear hi)) | ((with_reducible refine zah (f := 37) rfl ?_); refine zaz (some 66) rfl rfl Try.func37 (by kernel_rfl) rfl #[.slice Ao78 t375.length co78] rfl (by (try simp only [ych, yci, ycj]); first | done | rfl | (simp only [ycl, yck]; rfl)) ?_; (with_reducible refine (impl_PlanRooms.calls _ _ t375 t391 false _ ?side1 ?side2 A25.out).mono ?_); (case side1 => repeat (first | exact (Kd.R_reads' HO_4.out).2.2 | (with_reducible refine ycv ?_ _) | (with_reducible refine ycw ?_ _) | (with_reducible refine ycx ?_))); (case side2 => exact (Kd.R_reads' HO_4.out).2.1); rintro e w81 ⟨rfl, hb⟩; refine ⟨_, rfl, ?_⟩; have n0_ := zaa.mk (Kd.V_below (by (with_reducible repeat (first | apply ycs | apply yct | apply ycu)); exact HO_3.out) hb); have n1_ := zaa.mk (Kd.R_below (by (with_reducible repeat (first | apply ycp | apply ycq | apply ycr)); exact HO_4.out) hb); have n2_ := zaa.mk (Kd.R_below (by (with_reducible repeat (first | apply ycp | apply ycq | apply ycr)); exact HO_6.out) hb); have n3_ := zaa.mk (Kd.R_below (by (with_reducible repeat (first | apply ycp | apply ycq | apply ycr)); exact HO388.out) hb); have n4_ := zaa.mk (zae (by repeat (first | (with_reducible first | exact HB.out | apply zac | apply zab | apply zad) | exact HB.out)) hb); clear HO_3; clear HO_4; clear HO_6; clear HO388; clear HB; have HO_3 := n0_; have HO_4 := n1_; have HO_6 := n2_; have HO388 := n3_; have HB := n4_; clear n0_ n1_ n2_ n3_ n4_; (try clear hb); (try clear hb2); (try clear hk); (try clear hi)) | ((with_reducible refine zah (f := 38) rfl ?_); refine zaz (some 71) rfl rfl Try.func38 (by kernel_rfl) rfl #[.slice Ao8 t372.length co8, .int .i64 2] rfl (by (try simp only [ych, yci, ycj]); first | done | rfl | (simp only [ycl, yck]; rfl)) ?_; (with_reducible refine (impl_PlanWide.calls _ _ t372 2 t393 t394 _ ?side1 ?side2 A26.out).mono ?_); (case side1 => repeat (first | exact (Kd.V_reads' HO_3.out).2.2 | (with_reducible refine ycv ?_ _) | (with_reducible refine ycw ?_ _) | (with_reducible refine ycx ?_))); (case side2 => exact (Kd.V_reads' HO_3.out).2.1); rintro e w82 ⟨v395, rfl, ho0, hb⟩; refine ⟨_, rfl, ?_⟩; have n0_ := zaa.mk (Kd.V_elder' (by (with_reducible repeat (first | apply ycs | apply yct | apply ycu)); exact HO_3.out) (Kd.R_base ho0) hb); have n1_ := zaa.mk (Kd.R_elder' (by (with_reducible repeat (first | apply ycp | apply ycq | apply ycr)); exact HO_4.out) (Kd.R_base ho0) hb); have n2_ := zaa.mk (Kd.R_elder' (by (with_reducible repeat (first | apply ycp | apply ycq | apply ycr)); exact HO_6.out) (Kd.R_base ho0) hb); have n3_ := zaa.mk (Kd.R_elder' (by (with_reducible repeat (first | apply ycp | apply ycq | apply ycr)); exact HO388.out) (Kd.R_base ho0) hb); have n4_ := zaa.mk (Kd.R_lower (Kd.R_new' (Kd.R_new' (Kd.R_new' ho0 (Kd.R_lt (by (with_reducible repeat (first | apply ycp | apply ycq | apply ycr)); exact HO_4.out))) (Kd.R_lt (by (with_reducible repeat (first | apply ycp | apply ycq | apply ycr)); exact HO_6.out))) (Kd.R_lt (by (with_reducible repeat (first | apply ycp | apply ycq | apply ycr)); exact HO388.out))) (zag (by repeat (first | (with_reducible first | exact HB.out | apply zac | apply zab | apply zad) | exact HB.out)))); have n5_ := zaa.mk (zae (by repeat (first | (with_reducible first | exact HB.out | apply zac | apply zab | apply zad) | exact HB.out)) hb); clear HO_3; clear HO_4; clear HO_6; clear HO388; clear HB; have HO_3 := n0_; have HO_4 := n1_; have HO_6 := n2_; have HO388 := n3_; have HO396 := n4_; have HB := n5_; clear n0_ n1_ n2_ n3_ n4_ n5_; (try clear hb); (try clear hb2); (try clear hk); (try clear hi); (try clear ho0); obtain ⟨Ao83, co83, eo83⟩ := Kd.R_slice HO396.out; subst eo83) | ((with_reducible refine zah (f := 33) rfl ?_); refine zaz (some 76) rfl rfl Try.func33 (by kernel_rfl) rfl #[.slice Ao83 t393.length co83] rfl (by (try simp only [ych, yci, ycj]); first | done | rfl | (simp only [ycl, yck]; rfl)) ?_; (with_reducible refine (impl_PlanTight.calls _ _ t393 t397 t398 _ ?side1 ?side2 A27.out).mono ?_); (case side1 => repeat (first | exact (Kd.R_reads' HO396.out).2.2 | (with_reducible refine ycv ?_ _) | (with_reducible refine ycw ?_ _) | (with_reducible refine ycx ?_))); (case side2 => exact (Kd.R_reads' HO396.out).2.1); rintro e w84 ⟨v399, rfl, ho0, hb⟩; refine ⟨_, rfl, ?_⟩; have n0_ := zaa.mk (Kd.V_elder' (by (with_reducible repeat (first | apply ycs | apply yct | apply ycu)); exact HO_3.out) (Kd.R_base ho0) hb); have n1_ := zaa.mk (Kd.R_elder' (by (with_reducible repeat (first | apply ycp | apply ycq | apply ycr)); exact HO_4.out) (Kd.R_base ho0) hb); have n2_ := zaa.mk (Kd.R_elder' (by (with_reducible repeat (first | apply ycp | apply ycq | apply ycr)); exact HO_6.out) (Kd.R_base ho0) hb); have n3_ := zaa.mk (Kd.R_elder' (by (with_reducible repeat (first | apply ycp | apply ycq | apply ycr)); exact HO388.out) (Kd.R_base ho0) hb); have n4_ := zaa.mk (Kd.R_elder' (by (with_reducible repeat (first | apply ycp | apply ycq | apply ycr)); exact HO396.out) (Kd.R_base ho0) hb); have n5_ := zaa.mk (Kd.R_lower (Kd.R_new' (Kd.R_new' (Kd.R_new' (Kd.R_new' ho0 (Kd.R_lt (by (with_reducible repeat (first | apply ycp | apply ycq | apply ycr)); exact HO_4.out))) (Kd.R_lt (by (with_reducible repeat (first | apply ycp | apply ycq | apply ycr)); exact HO_6.out))) (Kd.R_lt (by (with_reducible repeat (first | apply ycp | apply ycq | apply ycr)); exact HO388.out))) (Kd.R_lt (by (with_reducible repeat (first | apply ycp | apply ycq | apply ycr)); exact HO396.out))) (zag (by repeat (first | (with_reducible first | exact HB.out | apply zac | apply zab | apply zad) | exact HB.out)))); have n6_ := zaa.mk (zae (by repeat (first | (with_reducible first | exact HB.out | apply zac | apply zab | apply zad) | exact HB.out)) hb); clear HO_3; clear HO_4; clear HO_6; clear HO388; clear HO396; clear HB; have HO_3 := n0_; have HO_4 := n1_; have HO_6 := n2_; have HO388 := n3_; have HO396 := n4_; have HO400 := n5_; have HB := n6_; clear n0_ n1_ n2_ n3_ n4_ n5_ n6_; (try clear hb); (try clear hb2); (try clear hk); (try clear hi); (try clear ho0)))
        go_ret
        exact ⟨by first | rfl | (simp [zap, zao] <;> rfl) | (simp [*, zap, zao] <;> rfl), by repeat (first | (with_reducible first | exact HB.out | apply zac | apply zab | apply zad) | exact HB.out)⟩
      ·replace c29 := Bool.eq_false_iff.mpr c29
       subst c29
       have H1 : (some false) = some r := by rw [if_neg (show ¬ (false = true) by decide)] at H; exact H
       clear H
       have H := H1
       clear H1
       obtain rfl := Option.some.inj H
       obtain ⟨Ao85, co85, eo85⟩ := Kd.R_slice HO_4.out
       subst eo85
       go_wp2_with (first | ((with_reducible refine zah (f := 33) rfl ?_); refine zaz (some 56) rfl rfl Try.func33 (by kernel_rfl) rfl #[.slice Ao85 t375.length co85] rfl (by (try simp only [ych, yci, ycj]); first | done | rfl | (simp only [ycl, yck]; rfl)) ?_; (with_reducible refine (impl_PlanTight.calls _ _ t375 t385 true _ ?side1 ?side2 A23.out).mono ?_); (case side1 => repeat (first | exact (Kd.R_reads' HO_4.out).2.2 | (with_reducible refine ycv ?_ _) | (with_reducible refine ycw ?_ _) | (with_reducible refine ycx ?_))); (case side2 => exact (Kd.R_reads' HO_4.out).2.1); rintro e w86 ⟨v387, rfl, ho0, hb⟩; refine ⟨_, rfl, ?_⟩; have n0_ := zaa.mk (Kd.V_elder' (by (with_reducible repeat (first | apply ycs | apply yct | apply ycu)); exact HO_3.out) (Kd.R_base ho0) hb); have n1_ := zaa.mk (Kd.R_elder' (by (with_reducible repeat (first | apply ycp | apply ycq | apply ycr)); exact HO_4.out) (Kd.R_base ho0) hb); have n2_ := zaa.mk (Kd.R_elder' (by (with_reducible repeat (first | apply ycp | apply ycq | apply ycr)); exact HO_6.out) (Kd.R_base ho0) hb); have n3_ := zaa.mk (Kd.R_lower (Kd.R_new' (Kd.R_new' ho0 (Kd.R_lt (by (with_reducible repeat (first | apply ycp | apply ycq | apply ycr)); exact HO_4.out))) (Kd.R_lt (by (with_reducible repeat (first | apply ycp | apply ycq | apply ycr)); exact HO_6.out))) (zag (by repeat (first | (with_reducible first | exact HB.out | apply zac | apply zab | apply zad) | exact HB.out)))); have n4_ := zaa.mk (zae (by repeat (first | (with_reducible first | exact HB.out | apply zac | apply zab | apply zad) | exact HB.out)) hb); clear HO_3; clear HO_4; clear HO_6; clear HB; have HO_3 := n0_; have HO_4 := n1_; have HO_6 := n2_; have HO388 := n3_; have HB := n4_; clear n0_ n1_ n2_ n3_ n4_; (try clear hb); (try clear hb2); (try clear hk); (try clear hi); (try clear ho0)) | ((with_reducible refine zah (f := 37) rfl ?_); refine zaz (some 61) rfl rfl Try.func37 (by kernel_rfl) rfl #[.slice Ao8 t372.length co8] rfl (by (try simp only [ych, yci, ycj]); first | done | rfl | (simp only [ycl, yck]; rfl)) ?_; (with_reducible refine (impl_PlanRooms.calls _ _ t372 t389 false _ ?side1 ?side2 A24.out).mono ?_); (case side1 => repeat (first | exact (Kd.V_reads' HO_3.out).2.2 | (with_reducible refine ycv ?_ _) | (with_reducible refine ycw ?_ _) | (with_reducible refine ycx ?_))); (case side2 => exact (Kd.V_reads' HO_3.out).2.1); rintro e w87 ⟨rfl, hb⟩; refine ⟨_, rfl, ?_⟩; have n0_ := zaa.mk (Kd.V_below (by (with_reducible repeat (first | apply ycs | apply yct | apply ycu)); exact HO_3.out) hb); have n1_ := zaa.mk (Kd.R_below (by (with_reducible repeat (first | apply ycp | apply ycq | apply ycr)); exact HO_4.out) hb); have n2_ := zaa.mk (Kd.R_below (by (with_reducible repeat (first | apply ycp | apply ycq | apply ycr)); exact HO_6.out) hb); have n3_ := zaa.mk (Kd.R_below (by (with_reducible repeat (first | apply ycp | apply ycq | apply ycr)); exact HO388.out) hb); have n4_ := zaa.mk (zae (by repeat (first | (with_reducible first | exact HB.out | apply zac | apply zab | apply zad) | exact HB.out)) hb); clear HO_3; clear HO_4; clear HO_6; clear HO388; clear HB; have HO_3 := n0_; have HO_4 := n1_; have HO_6 := n2_; have HO388 := n3_; have HB := n4_; clear n0_ n1_ n2_ n3_ n4_; (try clear hb); (try clear hb2); (try clear hk); (try clear hi)) | ((with_reducible refine zah (f := 37) rfl ?_); refine zaz (some 66) rfl rfl Try.func37 (by kernel_rfl) rfl #[.slice Ao85 t375.length co85] rfl (by (try simp only [ych, yci, ycj]); first | done | rfl | (simp only [ycl, yck]; rfl)) ?_; (with_reducible refine (impl_PlanRooms.calls _ _ t375 t391 t392 _ ?side1 ?side2 A25.out).mono ?_); (case side1 => repeat (first | exact (Kd.R_reads' HO_4.out).2.2 | (with_reducible refine ycv ?_ _) | (with_reducible refine ycw ?_ _) | (with_reducible refine ycx ?_))); (case side2 => exact (Kd.R_reads' HO_4.out).2.1); rintro e w88 ⟨rfl, hb⟩; refine ⟨_, rfl, ?_⟩; have n0_ := zaa.mk (Kd.V_below (by (with_reducible repeat (first | apply ycs | apply yct | apply ycu)); exact HO_3.out) hb); have n1_ := zaa.mk (Kd.R_below (by (with_reducible repeat (first | apply ycp | apply ycq | apply ycr)); exact HO_4.out) hb); have n2_ := zaa.mk (Kd.R_below (by (with_reducible repeat (first | apply ycp | apply ycq | apply ycr)); exact HO_6.out) hb); have n3_ := zaa.mk (Kd.R_below (by (with_reducible repeat (first | apply ycp | apply ycq | apply ycr)); exact HO388.out) hb); have n4_ := zaa.mk (zae (by repeat (first | (with_reducible first | exact HB.out | apply zac | apply zab | apply zad) | exact HB.out)) hb); clear HO_3; clear HO_4; clear HO_6; clear HO388; clear HB; have HO_3 := n0_; have HO_4 := n1_; have HO_6 := n2_; have HO388 := n3_; have HB := n4_; clear n0_ n1_ n2_ n3_ n4_; (try clear hb); (try clear hb2); (try clear hk); (try clear hi)) | ((with_reducible refine zah (f := 38) rfl ?_); refine zaz (some 71) rfl rfl Try.func38 (by kernel_rfl) rfl #[.slice Ao8 t372.length co8, .int .i64 2] rfl (by (try simp only [ych, yci, ycj]); first | done | rfl | (simp only [ycl, yck]; rfl)) ?_; (with_reducible refine (impl_PlanWide.calls _ _ t372 2 t393 t394 _ ?side1 ?side2 A26.out).mono ?_); (case side1 => repeat (first | exact (Kd.V_reads' HO_3.out).2.2 | (with_reducible refine ycv ?_ _) | (with_reducible refine ycw ?_ _) | (with_reducible refine ycx ?_))); (case side2 => exact (Kd.V_reads' HO_3.out).2.1); rintro e w89 ⟨v395, rfl, ho0, hb⟩; refine ⟨_, rfl, ?_⟩; have n0_ := zaa.mk (Kd.V_elder' (by (with_reducible repeat (first | apply ycs | apply yct | apply ycu)); exact HO_3.out) (Kd.R_base ho0) hb); have n1_ := zaa.mk (Kd.R_elder' (by (with_reducible repeat (first | apply ycp | apply ycq | apply ycr)); exact HO_4.out) (Kd.R_base ho0) hb); have n2_ := zaa.mk (Kd.R_elder' (by (with_reducible repeat (first | apply ycp | apply ycq | apply ycr)); exact HO_6.out) (Kd.R_base ho0) hb); have n3_ := zaa.mk (Kd.R_elder' (by (with_reducible repeat (first | apply ycp | apply ycq | apply ycr)); exact HO388.out) (Kd.R_base ho0) hb); have n4_ := zaa.mk (Kd.R_lower (Kd.R_new' (Kd.R_new' (Kd.R_new' ho0 (Kd.R_lt (by (with_reducible repeat (first | apply ycp | apply ycq | apply ycr)); exact HO_4.out))) (Kd.R_lt (by (with_reducible repeat (first | apply ycp | apply ycq | apply ycr)); exact HO_6.out))) (Kd.R_lt (by (with_reducible repeat (first | apply ycp | apply ycq | apply ycr)); exact HO388.out))) (zag (by repeat (first | (with_reducible first | exact HB.out | apply zac | apply zab | apply zad) | exact HB.out)))); have n5_ := zaa.mk (zae (by repeat (first | (with_reducible first | exact HB.out | apply zac | apply zab | apply zad) | exact HB.out)) hb); clear HO_3; clear HO_4; clear HO_6; clear HO388; clear HB; have HO_3 := n0_; have HO_4 := n1_; have HO_6 := n2_; have HO388 := n3_; have HO396 := n4_; have HB := n5_; clear n0_ n1_ n2_ n3_ n4_ n5_; (try clear hb); (try clear hb2); (try clear hk); (try clear hi); (try clear ho0); obtain ⟨Ao90, co90, eo90⟩ := Kd.R_slice HO396.out; subst eo90) | ((with_reducible refine zah (f := 33) rfl ?_); refine zaz (some 76) rfl rfl Try.func33 (by kernel_rfl) rfl #[.slice Ao90 t393.length co90] rfl (by (try simp only [ych, yci, ycj]); first | done | rfl | (simp only [ycl, yck]; rfl)) ?_; (with_reducible refine (impl_PlanTight.calls _ _ t393 t397 t398 _ ?side1 ?side2 A27.out).mono ?_); (case side1 => repeat (first | exact (Kd.R_reads' HO396.out).2.2 | (with_reducible refine ycv ?_ _) | (with_reducible refine ycw ?_ _) | (with_reducible refine ycx ?_))); (case side2 => exact (Kd.R_reads' HO396.out).2.1); rintro e w91 ⟨v399, rfl, ho0, hb⟩; refine ⟨_, rfl, ?_⟩; have n0_ := zaa.mk (Kd.V_elder' (by (with_reducible repeat (first | apply ycs | apply yct | apply ycu)); exact HO_3.out) (Kd.R_base ho0) hb); have n1_ := zaa.mk (Kd.R_elder' (by (with_reducible repeat (first | apply ycp | apply ycq | apply ycr)); exact HO_4.out) (Kd.R_base ho0) hb); have n2_ := zaa.mk (Kd.R_elder' (by (with_reducible repeat (first | apply ycp | apply ycq | apply ycr)); exact HO_6.out) (Kd.R_base ho0) hb); have n3_ := zaa.mk (Kd.R_elder' (by (with_reducible repeat (first | apply ycp | apply ycq | apply ycr)); exact HO388.out) (Kd.R_base ho0) hb); have n4_ := zaa.mk (Kd.R_elder' (by (with_reducible repeat (first | apply ycp | apply ycq | apply ycr)); exact HO396.out) (Kd.R_base ho0) hb); have n5_ := zaa.mk (Kd.R_lower (Kd.R_new' (Kd.R_new' (Kd.R_new' (Kd.R_new' ho0 (Kd.R_lt (by (with_reducible repeat (first | apply ycp | apply ycq | apply ycr)); exact HO_4.out))) (Kd.R_lt (by (with_reducible repeat (first | apply ycp | apply ycq | apply ycr)); exact HO_6.out))) (Kd.R_lt (by (with_reducible repeat (first | apply ycp | apply ycq | apply ycr)); exact HO388.out))) (Kd.R_lt (by (with_reducible repeat (first | apply ycp | apply ycq | apply ycr)); exact HO396.out))) (zag (by repeat (first | (with_reducible first | exact HB.out | apply zac | apply zab | apply zad) | exact HB.out)))); have n6_ := zaa.mk (zae (by repeat (first | (with_reducible first | exact HB.out | apply zac | apply zab | apply zad) | exact HB.out)) hb); clear HO_3; clear HO_4; clear HO_6; clear HO388; clear HO396; clear HB; have HO_3 := n0_; have HO_4 := n1_; have HO_6 := n2_; have HO388 := n3_; have HO396 := n4_; have HO400 := n5_; have HB := n6_; clear n0_ n1_ n2_ n3_ n4_ n5_ n6_; (try clear hb); (try clear hb2); (try clear hk); (try clear hi); (try clear ho0)))
       go_ret
       exact ⟨by first | rfl | (simp [zap, zao] <;> rfl) | (simp [*, zap, zao] <;> rfl), by repeat (first | (with_reducible first | exact HB.out | apply zac | apply zab | apply zad) | exact HB.out)⟩
     ·replace c28 := Bool.eq_false_iff.mpr c28
      subst c28
      have H1 : (some false) = some r := by rw [if_neg (show ¬ (false = true) by decide)] at H; exact H
      clear H
      have H := H1
      clear H1
      obtain rfl := Option.some.inj H
      obtain ⟨Ao92, co92, eo92⟩ := Kd.R_slice HO_4.out
      subst eo92
      go_wp2_with (first | ((with_reducible refine zah (f := 33) rfl ?_); refine zaz (some 56) rfl rfl Try.func33 (by kernel_rfl) rfl #[.slice Ao92 t375.length co92] rfl (by (try simp only [ych, yci, ycj]); first | done | rfl | (simp only [ycl, yck]; rfl)) ?_; (with_reducible refine (impl_PlanTight.calls _ _ t375 t385 false _ ?side1 ?side2 A23.out).mono ?_); (case side1 => repeat (first | exact (Kd.R_reads' HO_4.out).2.2 | (with_reducible refine ycv ?_ _) | (with_reducible refine ycw ?_ _) | (with_reducible refine ycx ?_))); (case side2 => exact (Kd.R_reads' HO_4.out).2.1); rintro e w93 ⟨v387, rfl, ho0, hb⟩; refine ⟨_, rfl, ?_⟩; have n0_ := zaa.mk (Kd.V_elder' (by (with_reducible repeat (first | apply ycs | apply yct | apply ycu)); exact HO_3.out) (Kd.R_base ho0) hb); have n1_ := zaa.mk (Kd.R_elder' (by (with_reducible repeat (first | apply ycp | apply ycq | apply ycr)); exact HO_4.out) (Kd.R_base ho0) hb); have n2_ := zaa.mk (Kd.R_elder' (by (with_reducible repeat (first | apply ycp | apply ycq | apply ycr)); exact HO_6.out) (Kd.R_base ho0) hb); have n3_ := zaa.mk (Kd.R_lower (Kd.R_new' (Kd.R_new' ho0 (Kd.R_lt (by (with_reducible repeat (first | apply ycp | apply ycq | apply ycr)); exact HO_4.out))) (Kd.R_lt (by (with_reducible repeat (first | apply ycp | apply ycq | apply ycr)); exact HO_6.out))) (zag (by repeat (first | (with_reducible first | exact HB.out | apply zac | apply zab | apply zad) | exact HB.out)))); have n4_ := zaa.mk (zae (by repeat (first | (with_reducible first | exact HB.out | apply zac | apply zab | apply zad) | exact HB.out)) hb); clear HO_3; clear HO_4; clear HO_6; clear HB; have HO_3 := n0_; have HO_4 := n1_; have HO_6 := n2_; have HO388 := n3_; have HB := n4_; clear n0_ n1_ n2_ n3_ n4_; (try clear hb); (try clear hb2); (try clear hk); (try clear hi); (try clear ho0)) | ((with_reducible refine zah (f := 37) rfl ?_); refine zaz (some 61) rfl rfl Try.func37 (by kernel_rfl) rfl #[.slice Ao8 t372.length co8] rfl (by (try simp only [ych, yci, ycj]); first | done | rfl | (simp only [ycl, yck]; rfl)) ?_; (with_reducible refine (impl_PlanRooms.calls _ _ t372 t389 t390 _ ?side1 ?side2 A24.out).mono ?_); (case side1 => repeat (first | exact (Kd.V_reads' HO_3.out).2.2 | (with_reducible refine ycv ?_ _) | (with_reducible refine ycw ?_ _) | (with_reducible refine ycx ?_))); (case side2 => exact (Kd.V_reads' HO_3.out).2.1); rintro e w94 ⟨rfl, hb⟩; refine ⟨_, rfl, ?_⟩; have n0_ := zaa.mk (Kd.V_below (by (with_reducible repeat (first | apply ycs | apply yct | apply ycu)); exact HO_3.out) hb); have n1_ := zaa.mk (Kd.R_below (by (with_reducible repeat (first | apply ycp | apply ycq | apply ycr)); exact HO_4.out) hb); have n2_ := zaa.mk (Kd.R_below (by (with_reducible repeat (first | apply ycp | apply ycq | apply ycr)); exact HO_6.out) hb); have n3_ := zaa.mk (Kd.R_below (by (with_reducible repeat (first | apply ycp | apply ycq | apply ycr)); exact HO388.out) hb); have n4_ := zaa.mk (zae (by repeat (first | (with_reducible first | exact HB.out | apply zac | apply zab | apply zad) | exact HB.out)) hb); clear HO_3; clear HO_4; clear HO_6; clear HO388; clear HB; have HO_3 := n0_; have HO_4 := n1_; have HO_6 := n2_; have HO388 := n3_; have HB := n4_; clear n0_ n1_ n2_ n3_ n4_; (try clear hb); (try clear hb2); (try clear hk); (try clear hi)) | ((with_reducible refine zah (f := 37) rfl ?_); refine zaz (some 66) rfl rfl Try.func37 (by kernel_rfl) rfl #[.slice Ao92 t375.length co92] rfl (by (try simp only [ych, yci, ycj]); first | done | rfl | (simp only [ycl, yck]; rfl)) ?_; (with_reducible refine (impl_PlanRooms.calls _ _ t375 t391 t392 _ ?side1 ?side2 A25.out).mono ?_); (case side1 => repeat (first | exact (Kd.R_reads' HO_4.out).2.2 | (with_reducible refine ycv ?_ _) | (with_reducible refine ycw ?_ _) | (with_reducible refine ycx ?_))); (case side2 => exact (Kd.R_reads' HO_4.out).2.1); rintro e w95 ⟨rfl, hb⟩; refine ⟨_, rfl, ?_⟩; have n0_ := zaa.mk (Kd.V_below (by (with_reducible repeat (first | apply ycs | apply yct | apply ycu)); exact HO_3.out) hb); have n1_ := zaa.mk (Kd.R_below (by (with_reducible repeat (first | apply ycp | apply ycq | apply ycr)); exact HO_4.out) hb); have n2_ := zaa.mk (Kd.R_below (by (with_reducible repeat (first | apply ycp | apply ycq | apply ycr)); exact HO_6.out) hb); have n3_ := zaa.mk (Kd.R_below (by (with_reducible repeat (first | apply ycp | apply ycq | apply ycr)); exact HO388.out) hb); have n4_ := zaa.mk (zae (by repeat (first | (with_reducible first | exact HB.out | apply zac | apply zab | apply zad) | exact HB.out)) hb); clear HO_3; clear HO_4; clear HO_6; clear HO388; clear HB; have HO_3 := n0_; have HO_4 := n1_; have HO_6 := n2_; have HO388 := n3_; have HB := n4_; clear n0_ n1_ n2_ n3_ n4_; (try clear hb); (try clear hb2); (try clear hk); (try clear hi)) | ((with_reducible refine zah (f := 38) rfl ?_); refine zaz (some 71) rfl rfl Try.func38 (by kernel_rfl) rfl #[.slice Ao8 t372.length co8, .int .i64 2] rfl (by (try simp only [ych, yci, ycj]); first | done | rfl | (simp only [ycl, yck]; rfl)) ?_; (with_reducible refine (impl_PlanWide.calls _ _ t372 2 t393 t394 _ ?side1 ?side2 A26.out).mono ?_); (case side1 => repeat (first | exact (Kd.V_reads' HO_3.out).2.2 | (with_reducible refine ycv ?_ _) | (with_reducible refine ycw ?_ _) | (with_reducible refine ycx ?_))); (case side2 => exact (Kd.V_reads' HO_3.out).2.1); rintro e w96 ⟨v395, rfl, ho0, hb⟩; refine ⟨_, rfl, ?_⟩; have n0_ := zaa.mk (Kd.V_elder' (by (with_reducible repeat (first | apply ycs | apply yct | apply ycu)); exact HO_3.out) (Kd.R_base ho0) hb); have n1_ := zaa.mk (Kd.R_elder' (by (with_reducible repeat (first | apply ycp | apply ycq | apply ycr)); exact HO_4.out) (Kd.R_base ho0) hb); have n2_ := zaa.mk (Kd.R_elder' (by (with_reducible repeat (first | apply ycp | apply ycq | apply ycr)); exact HO_6.out) (Kd.R_base ho0) hb); have n3_ := zaa.mk (Kd.R_elder' (by (with_reducible repeat (first | apply ycp | apply ycq | apply ycr)); exact HO388.out) (Kd.R_base ho0) hb); have n4_ := zaa.mk (Kd.R_lower (Kd.R_new' (Kd.R_new' (Kd.R_new' ho0 (Kd.R_lt (by (with_reducible repeat (first | apply ycp | apply ycq | apply ycr)); exact HO_4.out))) (Kd.R_lt (by (with_reducible repeat (first | apply ycp | apply ycq | apply ycr)); exact HO_6.out))) (Kd.R_lt (by (with_reducible repeat (first | apply ycp | apply ycq | apply ycr)); exact HO388.out))) (zag (by repeat (first | (with_reducible first | exact HB.out | apply zac | apply zab | apply zad) | exact HB.out)))); have n5_ := zaa.mk (zae (by repeat (first | (with_reducible first | exact HB.out | apply zac | apply zab | apply zad) | exact HB.out)) hb); clear HO_3; clear HO_4; clear HO_6; clear HO388; clear HB; have HO_3 := n0_; have HO_4 := n1_; have HO_6 := n2_; have HO388 := n3_; have HO396 := n4_; have HB := n5_; clear n0_ n1_ n2_ n3_ n4_ n5_; (try clear hb); (try clear hb2); (try clear hk); (try clear hi); (try clear ho0); obtain ⟨Ao97, co97, eo97⟩ := Kd.R_slice HO396.out; subst eo97) | ((with_reducible refine zah (f := 33) rfl ?_); refine zaz (some 76) rfl rfl Try.func33 (by kernel_rfl) rfl #[.slice Ao97 t393.length co97] rfl (by (try simp only [ych, yci, ycj]); first | done | rfl | (simp only [ycl, yck]; rfl)) ?_; (with_reducible refine (impl_PlanTight.calls _ _ t393 t397 t398 _ ?side1 ?side2 A27.out).mono ?_); (case side1 => repeat (first | exact (Kd.R_reads' HO396.out).2.2 | (with_reducible refine ycv ?_ _) | (with_reducible refine ycw ?_ _) | (with_reducible refine ycx ?_))); (case side2 => exact (Kd.R_reads' HO396.out).2.1); rintro e w98 ⟨v399, rfl, ho0, hb⟩; refine ⟨_, rfl, ?_⟩; have n0_ := zaa.mk (Kd.V_elder' (by (with_reducible repeat (first | apply ycs | apply yct | apply ycu)); exact HO_3.out) (Kd.R_base ho0) hb); have n1_ := zaa.mk (Kd.R_elder' (by (with_reducible repeat (first | apply ycp | apply ycq | apply ycr)); exact HO_4.out) (Kd.R_base ho0) hb); have n2_ := zaa.mk (Kd.R_elder' (by (with_reducible repeat (first | apply ycp | apply ycq | apply ycr)); exact HO_6.out) (Kd.R_base ho0) hb); have n3_ := zaa.mk (Kd.R_elder' (by (with_reducible repeat (first | apply ycp | apply ycq | apply ycr)); exact HO388.out) (Kd.R_base ho0) hb); have n4_ := zaa.mk (Kd.R_elder' (by (with_reducible repeat (first | apply ycp | apply ycq | apply ycr)); exact HO396.out) (Kd.R_base ho0) hb); have n5_ := zaa.mk (Kd.R_lower (Kd.R_new' (Kd.R_new' (Kd.R_new' (Kd.R_new' ho0 (Kd.R_lt (by (with_reducible repeat (first | apply ycp | apply ycq | apply ycr)); exact HO_4.out))) (Kd.R_lt (by (with_reducible repeat (first | apply ycp | apply ycq | apply ycr)); exact HO_6.out))) (Kd.R_lt (by (with_reducible repeat (first | apply ycp | apply ycq | apply ycr)); exact HO388.out))) (Kd.R_lt (by (with_reducible repeat (first | apply ycp | apply ycq | apply ycr)); exact HO396.out))) (zag (by repeat (first | (with_reducible first | exact HB.out | apply zac | apply zab | apply zad) | exact HB.out)))); have n6_ := zaa.mk (zae (by repeat (first | (with_reducible first | exact HB.out | apply zac | apply zab | apply zad) | exact HB.out)) hb); clear HO_3; clear HO_4; clear HO_6; clear HO388; clear HO396; clear HB; have HO_3 := n0_; have HO_4 := n1_; have HO_6 := n2_; have HO388 := n3_; have HO396 := n4_; have HO400 := n5_; have HB := n6_; clear n0_ n1_ n2_ n3_ n4_ n5_ n6_; (try clear hb); (try clear hb2); (try clear hk); (try clear hi); (try clear ho0)))
      go_ret
      exact ⟨by first | rfl | (simp [zap, zao] <;> rfl) | (simp [*, zap, zao] <;> rfl), by repeat (first | (with_reducible first | exact HB.out | apply zac | apply zab | apply zad) | exact HB.out)⟩
def laws_FnTight.Pure : Prop := ∀ (l0 : List Int), l0.length ≤ maxLen → l0.length * 1 ≤ 140737488351232 → (∀ x ∈ l0, (Lit.int .u8 x).wf = true) → ∃ k, laws_FnTight.f k l0 = some true
theorem laws_FnTight.walk (P : laws_FnTight.Pure) (a0 : Option Addr) (len0 cap0 : Nat) (z0 : List Int) (w : World) (w0 : (a0 = none ∧ len0 = 0 ∧ cap0 = 0 ∧ z0 = []) ∨ ∃ x, a0 = some x ∧ len0 ≤ cap0 ∧ cap0 ≤ maxLen ∧ z0.length = cap0 ∧ (∀ i, i < z0.length → w.cell? (x.add i) = some (.int .u8 (z0.getD i 0))) ∧ ∀ n ∈ z0, (Lit.int .u8 n).wf = true) (y0 : len0 * 1 ≤ 140737488351232) :
  Calls Try.prog 8 #[.slice a0 len0 cap0] w fun e w' => e = .returned (.bool true) ∧ Below w.heap.size w w' := by
 obtain ⟨l0, rfl, hr0, hm0, hw0, hc0⟩ := zbz.ofRowC w0
 obtain ⟨k, h⟩ := P l0 hm0 y0 hw0
 refine (laws_FnTight.calls k _ _ l0 true w (Kd.C_of_reads (d := (0 : Int)) (h1 := fun _ => rfl) hr0) hc0 h).mono ?_
 rintro e w' ⟨rfl, hd⟩
 exact ⟨rfl, hd⟩
end Go.Proofs.Ytickdcegnlldjaa.TI
namespace Go.Proofs.Ytickdcegnlldjaa.Hd
open Go.RowKit Go.PW.PrintWords Go.PW.PrintLast Go.PW.PrintMore Go.Proofs.Ytickdcegnlldjaa.PB
theorem byte_of {x : Int} (h : (Lit.int .u8 x).wf = true) : 0 ≤ x ∧ x ≤ 255 := by
 simp only [Lit.wf, IntKind.min, IntKind.max, IntKind.signed, IntKind.bits, Bool.and_eq_true, decide_eq_true_eq] at h
 have h1 := h.1
 have h2 := h.2
 simp at h1 h2
 omega
theorem OkG.floorP {X : List (List Int)} (h : OkG X) : zcg (planOf X) = some (Hd.canon X, zay X) := h.floor
theorem OkG.facts {X : List (List Int)} (h : OkG X) : PlanFacts (planOf X) (Hd.canon X) (zay X) := floor_facts h.floor
theorem OkG.plength {X : List (List Int)} (h : OkG X) : (planOf X).length = X.length := by rw [h.facts.len, canon_length]
theorem OkG.psmall {X : List (List Int)} (h : OkG X) : smallB (planOf X) = true := by
 have q := gridOk_small h.facts.canon.grid
 rw [smallB_iff]
 exact ⟨by have := q.high; omega, fun s hs => by have := q.row s hs; have := q.wide; omega⟩
theorem in_cases (p : List ByteArray) : (∃ X, OkG X ∧ p = planOf X) ∨ zcg p = none := by
 cases h : zcg p with
 | none => exact .inr rfl
 | some t =>
  obtain ⟨cs, rs⟩ := t
  obtain ⟨h1, h2, h3⟩ := plan_of h
  exact .inl ⟨cs, h1, h2⟩
theorem Evs.ex {α : Type} {g : Nat → Option α} {r : α} (h : Evs g r) : ∃ k, g k = some r := by
 obtain ⟨K, hK⟩ := h
 exact ⟨K, hK K (by omega)⟩
theorem bytesOf_putS (s : ByteArray) (l n : Nat) (c : Int) (h0 : 0 ≤ c) (h1 : c ≤ 255) : bytesOf (putS s l n c) = putN (bytesOf s) l n c := by
 unfold putS
 refine bytesOf_strOfNums _ fun x hx => ?_
 unfold putN at hx
 obtain ⟨i, hi, e⟩ := List.mem_iff_getElem.1 hx
 rw [List.getElem_mapIdx] at e
 subst e
 split
 ·exact ⟨h0, h1⟩
 ·exact bytesOf_range s _ (List.getElem_mem _)
def putB (t l h m : Nat) (r c : Nat) : Prop := (t ≤ r ∧ r < t + h) ∧ (l ≤ c ∧ c < l + m)
instance (t l h m r c : Nat) : Decidable (putB t l h m r c) := by unfold putB; exact inferInstance
theorem numsOf_put {p : List ByteArray} {wi : Nat} (hs : Small p wi) (t l h m : Nat) (x : Int) (h0 : 0 ≤ x) (h1 : x ≤ 255) : zak (putR p t h l m x) = zbc p.length wi (fun r c => if putB t l h m r c then x else zbe (zak p) r c) := by
 apply List.ext_getElem?
 intro r
 by_cases hr : r < p.length
 ·rw [gridOf_get hr]
  unfold zak putR
  rw [List.getElem?_map, List.getElem?_mapIdx, List.getElem?_eq_getElem hr]
  simp only [Option.map_some]
  congr 1
  have hsz := hs.row _ (List.getElem_mem hr)
  have hrow : ∀ c, c < wi → (bytesOf p[r])[c]? = some (zbe (zak p) r c) := fun c hc => by
   obtain ⟨row, e1, e2⟩ := valAt_get hs.rect (by rw [zbp]; exact hr) hc
   unfold zak at e1
   rw [List.getElem?_map, List.getElem?_eq_getElem hr] at e1
   have e1 := Option.some.inj e1
   rw [e1]
   exact e2
  apply List.ext_getElem?
  intro c
  by_cases hc : c < wi
  ·rw [List.getElem?_map, List.getElem?_range hc]
   simp only [Option.map_some]
   by_cases ht : t ≤ r ∧ r < t + h
   ·rw [if_pos ht, bytesOf_putS _ _ _ _ h0 h1]
    unfold putN
    rw [List.getElem?_mapIdx, hrow c hc]
    simp only [Option.map_some]
    congr 1
    by_cases hl : l ≤ c ∧ c < l + m
    ·rw [if_pos hl, if_pos ⟨ht, hl⟩]
    ·rw [if_neg hl, if_neg (fun z => hl z.2)]; rfl
   ·rw [if_neg ht, if_neg (fun z => ht z.1)]
    exact hrow c hc
  ·rw [List.getElem?_eq_none (by
    split
    ·rw [bytesOf_putS _ _ _ _ h0 h1, putN_length, zbf]; omega
    ·rw [zbf]; omega), List.getElem?_eq_none (by simp; omega)]
 ·rw [List.getElem?_eq_none (by simp [zak, putR]; omega), List.getElem?_eq_none (by rw [zbk]; omega)]
theorem put_f {p : List ByteArray} {wi : Nat} (hs : Small p wi) (t l h m x : Int) (t0 : 0 ≤ t) (l0 : 0 ≤ l) (h0 : 0 ≤ h) (m0 : 0 ≤ m) (th : t + h ≤ p.length) (lm : l + m ≤ wi) (x0 : 0 ≤ x) (x1 : x ≤ 255) : spec_l1Put.f p t l h m x = some (putR p t.toNat h.toNat l.toNat m.toNat x) := by
 have hh := hs.high
 have hw := hs.wide
 have hall : (p.all fun s => decide (l + m ≤ s.size) && decide (s.size ≤ 1048576)) = true := by
  rw [List.all_eq_true]
  intro s hss
  rw [hs.row s hss, decide_eq_true lm, decide_eq_true (show wi ≤ 1048576 by omega)]
  rfl
 unfold spec_l1Put.f
 rw [if_pos]
 unfold putOk
 rw [hall, decide_eq_true t0, decide_eq_true l0, decide_eq_true h0, decide_eq_true m0, decide_eq_true x0, decide_eq_true x1, decide_eq_true (show p.length ≤ 1048576 by omega), decide_eq_true th, decide_eq_true (show l ≤ 1048576 by omega), decide_eq_true (show m ≤ 1048576 by omega)]
 rfl
theorem small_put {p : List ByteArray} {wi : Nat} (hs : Small p wi) (t h l m : Nat) (x : Int) : smallP (putR p t h l m x) := by
 have hh := hs.high
 have hw := hs.wide
 refine ⟨by rw [putR_length]; omega, fun s hss => ?_⟩
 unfold putR at hss
 obtain ⟨i, hi, e⟩ := List.mem_iff_getElem.1 hss
 rw [List.length_mapIdx] at hi
 rw [List.getElem_mapIdx] at e
 have hr := hs.row _ (List.getElem_mem hi)
 subst e
 split
 ·have hl := zbf p[i]
  show (List.map _ (putN (bytesOf p[i]) l m x)).toArray.size ≤ _
  simp [putN_length]
  omega
 ·rw [hr]; omega
theorem put_done {p : List ByteArray} {cs : List (List Int)} {rs : List Rc} (F : PlanFacts p cs rs) (t h l m : Nat) (x : Int) (x0 : 97 ≤ x) (x1 : x ≤ 122) (f : Int → Int) (hf : ∀ S, InjOn f S) (g : Nat → Nat → Int) (hg : ∀ r c, r < cs.length → c < zaj cs → f (g r c) = if putB t l h m r c then x else 97 + zbe cs r c) : doneF (putR p t h l m x) = planF (zbc cs.length (zaj cs) g) := by
 have hsm := gridOk_small F.canon.grid
 rw [F.wide] at hsm
 have hn := numsOf_put hsm t l h m x (by omega) (by omega)
 have hv : zak (putR p t h l m x) = mapG f (zbc cs.length (zaj cs) g) := by
  rw [hn, mapG_gridOf, F.len]
  refine gridOf_congr fun r c hr hc => ?_
  rw [hg r c hr hc, F.nums, valAt_map F.ok.rect _ hr hc]
 have hok : (putR p t h l m x).all okText = true := by
  rw [List.all_eq_true]
  intro s hs
  refine okText_of fun y hy => ?_
  have hm : bytesOf s ∈ zak (putR p t h l m x) := List.mem_map.2 ⟨s, hs, rfl⟩
  rw [hn, F.len] at hm
  unfold zbc at hm
  obtain ⟨i, hi, e⟩ := List.mem_map.1 hm
  rw [← e] at hy
  obtain ⟨j, hj, rfl⟩ := List.mem_map.1 hy
  have hi := List.mem_range.1 hi
  have hj := List.mem_range.1 hj
  have h1 := valAt_range F.ok i j hi hj
  have h2 := F.ok.many
  dsimp only
  rw [F.nums, valAt_map F.ok.rect _ hi hj]
  split <;> omega
 unfold doneF
 rw [if_pos hok, hv]
 exact plan_map (hf _)
def isH (letter : ByteArray) : Bool := letter.toList == [104]
def isV (letter : ByteArray) : Bool := letter.toList == [118]
theorem isHV {letter : ByteArray} (h : isH letter = true) : isV letter = false := by
 unfold isH at h
 unfold isV
 rw [beq_iff_eq] at h
 rw [h]
 rfl
def behindB (b : Rc) (letter : ByteArray) (k : Int) (r c : Nat) : Bool := (isH letter && decide (b.f0 + k ≤ r)) || (isV letter && decide (b.f1 + k ≤ c))
def splitG (cs : List (List Int)) (rs : List Rc) (room : Int) (letter : ByteArray) (k : Int) (r c : Nat) : Int :=
 if zbe cs r c = room ∧ behindB (rs.getD room.toNat zcf) letter k r c = true then rs.length else zbe cs r c
def splitF (p : List ByteArray) (room : Int) (letter : ByteArray) (k : Int) : List ByteArray × Bool := match zcg p with
 | none => ([], false)
 | some (cs, rs) =>
  if hasB rs room && (isH letter || isV letter) then
   if 1 ≤ k ∧ k < (if isH letter then (rs.getD room.toNat zcf).f2 else (rs.getD room.toNat zcf).f3) then planF (zbc cs.length (zaj cs) (splitG cs rs room letter k)) else ([], false)
  else ([], false)
end Go.Proofs.Ytickdcegnlldjaa.Hd
namespace Go.Proofs.Ytickdcegnlldjaa.Hd
open Go.RowKit Go.PW.PrintWords Go.PW.PrintLast Go.PW.PrintMore Go.Proofs.Ytickdcegnlldjaa.PB Go.Proofs.Ytickdcegnlldjaa.SM
theorem isH_iff (t : ByteArray) : isH t = true ↔ t.toList = ([104] : List UInt8) := by unfold isH; rw [beq_iff_eq]
theorem isV_iff (t : ByteArray) : isV t = true ↔ t.toList = ([118] : List UInt8) := by unfold isV; rw [beq_iff_eq]
def newName (n : Nat) (x : Int) : Int := if x = n then 122 else if x = 25 then 97 + n else 97 + x
theorem newName_inj (n : Nat) (S : Int → Prop) : InjOn (newName n) S := by
 intro a b _ _ e
 unfold newName at e
 by_cases h1 : a = n <;> by_cases h2 : a = 25 <;> by_cases h3 : b = n <;> by_cases h4 : b = 25 <;> simp only [h1, h2, h3, h4, if_true, if_false] at e <;> omega
theorem split_j1_false (p : List ByteArray) (k a b c d : Int) : Evs (fun q => spec_PlanSplit.j1 q p k a b c d false) ([], false) := by
 refine Evs.step (h := fun _ => some ([], false)) (fun q => ?_) (Evs.const _)
 show spec_PlanSplit.j1 (q + 1) p k a b c d false = _
 simp only [spec_PlanSplit.j1, Bool.false_eq_true, if_false, l1None_f, Option.bind_some]
theorem split_j0_none (p : List ByteArray) (t : ByteArray) (hV : isV t = false) (k a b c d : Int) : Evs (fun q => spec_PlanSplit.j0 q p t k a b c d false) ([], false) := by
 have hv : ¬ t.toList = ([118] : List UInt8) := fun h => by rw [(isV_iff t).2 h] at hV; cases hV
 refine Evs.step (h := fun q => spec_PlanSplit.j1 q p k a b c d false) (fun q => ?_) (split_j1_false p k a b c d)
 show spec_PlanSplit.j0 (q + 1) p t k a b c d false = _
 simp only [spec_PlanSplit.j0, Bool.false_eq_true, if_false, if_neg hv]
theorem split_none {p : List ByteArray} (a : Int) (t : ByteArray) (k : Int) : Evs (fun q => if (false = true) then ((spec_l1Room.f q p a).bind fun bt205 => (if t.toList = ([104] : List UInt8) then ((spec_l6In.f k 1 (wrap64 (bt205.2.2.1 - 1))).bind fun t209 => (spec_PlanSplit.j0 q p t k bt205.1 bt205.2.1 bt205.2.2.1 bt205.2.2.2 t209)) else (spec_PlanSplit.j0 q p t k bt205.1 bt205.2.1 bt205.2.2.1 bt205.2.2.2 false))) else ((spec_l1None.f).bind fun bt201 => (some (bt201.1, bt201.2)))) ([], false) := by
 refine Evs.congr (h := fun _ => some ([], false)) (fun q => ?_) (Evs.const _)
 rw [if_neg (by simp), l1None_f]
 rfl
theorem split_val {p : List ByteArray} {cs : List (List Int)} {rs : List Rc} (F : PlanFacts p cs rs) (room : Int) (t : ByteArray) (k : Int) (T H L M : Nat) (hcell : ∀ r c, r < cs.length → c < zaj cs → ((zbe cs r c = room ∧ behindB (rs.getD room.toNat zcf) t k r c = true) ↔ putB T L H M r c)) :
  doneF (putR p T H L M 122) = planF (zbc cs.length (zaj cs) (splitG cs rs room t k)) := by
 have h9 := F.ok.many
 refine put_done F T H L M 122 (by omega) (by omega) (newName rs.length) (newName_inj rs.length) (splitG cs rs room t k) (fun r c hr hc => ?_)
 have hc2 := hcell r c hr hc
 have hv := valAt_range F.ok r c hr hc
 unfold splitG
 by_cases h : zbe cs r c = room ∧ behindB (rs.getD room.toNat zcf) t k r c = true
 ·rw [if_pos h, if_pos (hc2.1 h)]
  unfold newName
  rw [if_pos rfl]
 ·rw [if_neg h, if_neg (fun z => h (hc2.2 z))]
  unfold newName
  rw [if_neg (by omega), if_neg (by omega)]
theorem PlanSplit_ev (p : List ByteArray) (a : Int) (t : ByteArray) (k : Int) (hp : smallP p) : Evs (fun q => spec_PlanSplit.f q p a t k) (splitF p a t k) := by
 have ha := l1Given_ev p a hp
 cases hF : zcg p with
 | none =>
  have e1 : givenB p a = false := by unfold givenB; rw [hF]
  have e2 : splitF p a t k = ([], false) := by unfold splitF; rw [hF]
  rw [e1] at ha
  rw [e2]
  exact Evs.bind ha (split_none a t k)
 | some z =>
  obtain ⟨cs, rs⟩ := z
  have e1 : givenB p a = hasB rs a := by unfold givenB; rw [hF]
  have e2 : splitF p a t k = if hasB rs a && (isH t || isV t) then
   if 1 ≤ k ∧ k < (if isH t then (rs.getD a.toNat zcf).f2 else (rs.getD a.toNat zcf).f3) then planF (zbc cs.length (zaj cs) (splitG cs rs a t k)) else ([], false)
   else ([], false) := by unfold splitF; rw [hF]
  rw [e1] at ha
  rw [e2]
  cases hA : hasB rs a with
  | false =>
   rw [hA] at ha
   exact Evs.bind ha (split_none a t k)
  | true =>
   rw [hA] at ha
   have F := floor_facts hF
   have hsm := gridOk_small F.canon.grid
   have hL := F.ok.many
   have o1 := F.ok.h1
   have o6 := F.ok.h6
   have q1 := F.len
   unfold hasB at hA
   rw [Bool.and_eq_true, decide_eq_true_eq, decide_eq_true_eq] at hA
   obtain ⟨i, rfl⟩ := Int.eq_ofNat_of_zero_le hA.1
   have hi : i < rs.length := by omega
   have hR := l1Room_ev p _ hsm (by omega) (i : Int)
   obtain ⟨c1, c2, c3⟩ := F.canon.room i (by rw [← F.rooms]; exact hi)
   rw [← F.rooms] at c1 c3
   rw [c1] at hR
   have hcell := room_cells hF i hi
   obtain ⟨b1, b2, b3, b4, b5, b6⟩ := c3
   have w6 := hsm.wide
   rw [F.wide] at b6 w6
   rw [F.wide] at hsm
   rw [Int.toNat_natCast]
   have hvalue := fun T H L M h => split_val F (i : Int) t k T H L M h
   rw [Int.toNat_natCast] at hvalue
   unfold behindB at hvalue
   generalize rs.getD i zcf = bx at *
   refine Evs.bind ha ?_
   refine Evs.congr (h := fun q => (spec_l1Room.f q p (i : Int)).bind fun bt205 => (if t.toList = ([104] : List UInt8) then ((spec_l6In.f k 1 (wrap64 (bt205.2.2.1 - 1))).bind fun t209 => (spec_PlanSplit.j0 q p t k bt205.1 bt205.2.1 bt205.2.2.1 bt205.2.2.2 t209)) else (spec_PlanSplit.j0 q p t k bt205.1 bt205.2.1 bt205.2.2.1 bt205.2.2.2 false))) (fun q => by rw [if_pos rfl]) (Evs.bind hR ?_)
   dsimp only
   cases hH : isH t with
   | true =>
    have hV := isHV hH
    rw [hV] at hvalue
    refine Evs.pos ((isH_iff t).1 hH) ?_
    rw [zas (x := bx.f2 - 1) (by omega) (by omega)]
    refine Evs.bindS (l6In_f k 1 (bx.f2 - 1)) ?_
    simp only [Bool.true_or, Bool.and_self, if_true]
    by_cases hk : 1 ≤ k ∧ k < bx.f2
    ·rw [if_pos hk, show (decide (1 ≤ k) && decide (k ≤ bx.f2 - 1)) = true by rw [Bool.and_eq_true, decide_eq_true_eq, decide_eq_true_eq]; omega]
     have hput := put_f hsm (bx.f0 + k) bx.f1 (bx.f2 - k) bx.f3 122 (by omega) b2 (by omega) (by omega) (by omega) b6 (by omega) (by omega)
     have hd := hvalue (bx.f0 + k).toNat (bx.f2 - k).toNat bx.f1.toNat bx.f3.toNat (fun r c hr hc => by
      have hc2 := hcell r c hr hc
      rw [hc2, hH]
      simp only [Bool.true_and, Bool.false_and, Bool.or_false, decide_eq_true_eq]
      unfold putB
      omega)
     have hdn := l1Done_ev _ (small_put hsm (bx.f0 + k).toNat (bx.f2 - k).toNat bx.f1.toNat bx.f3.toNat 122)
     rw [hd] at hdn
     refine Evs.step (h := fun q => (spec_l1Put.f p (wrap64 (bx.f0 + k)) bx.f1 (wrap64 (bx.f2 - k)) bx.f3 122).bind fun t210 => ((spec_l1Done.f q t210).bind fun bt213 => (some (bt213.1, bt213.2)))) (fun q => ?_) ?_
     ·show spec_PlanSplit.j0 (q + 1) p t k bx.f0 bx.f1 bx.f2 bx.f3 true = _
      simp only [spec_PlanSplit.j0, if_true]
     ·rw [zas (x := bx.f0 + k) (by omega) (by omega), zas (x := bx.f2 - k) (by omega) (by omega), hput]
      simp only [Option.bind_some]
      exact Evs.bind hdn (Evs.const _)
    ·rw [if_neg hk, show (decide (1 ≤ k) && decide (k ≤ bx.f2 - 1)) = false by rw [← Bool.not_eq_true, Bool.and_eq_true, decide_eq_true_eq, decide_eq_true_eq]; omega]
     exact split_j0_none p t hV k _ _ _ _
   | false =>
    have hnh : ¬ t.toList = ([104] : List UInt8) := fun h => by rw [(isH_iff t).2 h] at hH; cases hH
    refine Evs.neg hnh ?_
    cases hV : isV t with
    | false =>
     simp only [Bool.false_or, Bool.and_false, Bool.false_eq_true, if_false]
     exact split_j0_none p t hV k _ _ _ _
    | true =>
     rw [hV] at hvalue
     simp only [Bool.false_or, Bool.and_self, if_true, Bool.false_eq_true, if_false]
     refine Evs.step (h := fun q => (spec_l6In.f k 1 (wrap64 (bx.f3 - 1))).bind fun t217 => (spec_PlanSplit.j1 q p k bx.f0 bx.f1 bx.f2 bx.f3 t217)) (fun q => ?_) ?_
     ·show spec_PlanSplit.j0 (q + 1) p t k bx.f0 bx.f1 bx.f2 bx.f3 false = _
      simp only [spec_PlanSplit.j0, Bool.false_eq_true, if_false, if_pos ((isV_iff t).1 hV)]
     rw [zas (x := bx.f3 - 1) (by omega) (by omega)]
     refine Evs.bindS (l6In_f k 1 (bx.f3 - 1)) ?_
     by_cases hk : 1 ≤ k ∧ k < bx.f3
     ·rw [if_pos hk, show (decide (1 ≤ k) && decide (k ≤ bx.f3 - 1)) = true by rw [Bool.and_eq_true, decide_eq_true_eq, decide_eq_true_eq]; omega]
      have hput := put_f hsm bx.f0 (bx.f1 + k) bx.f2 (bx.f3 - k) 122 b1 (by omega) (by omega) (by omega) b5 (by omega) (by omega) (by omega)
      have hd := hvalue bx.f0.toNat bx.f2.toNat (bx.f1 + k).toNat (bx.f3 - k).toNat (fun r c hr hc => by
       have hc2 := hcell r c hr hc
       rw [hc2, hH]
       simp only [Bool.true_and, Bool.false_and, Bool.false_or, decide_eq_true_eq]
       unfold putB
       omega)
      have hdn := l1Done_ev _ (small_put hsm bx.f0.toNat bx.f2.toNat (bx.f1 + k).toNat (bx.f3 - k).toNat 122)
      rw [hd] at hdn
      refine Evs.step (h := fun q => (spec_l1Put.f p bx.f0 (wrap64 (bx.f1 + k)) bx.f2 (wrap64 (bx.f3 - k)) 122).bind fun t218 => ((spec_l1Done.f q t218).bind fun bt221 => (some (bt221.1, bt221.2)))) (fun q => ?_) ?_
      ·show spec_PlanSplit.j1 (q + 1) p k bx.f0 bx.f1 bx.f2 bx.f3 true = _
       simp only [spec_PlanSplit.j1, if_true]
      ·rw [zas (x := bx.f1 + k) (by omega) (by omega), zas (x := bx.f3 - k) (by omega) (by omega), hput]
       simp only [Option.bind_some]
       exact Evs.bind hdn (Evs.const _)
     ·rw [if_neg hk, show (decide (1 ≤ k) && decide (k ≤ bx.f3 - 1)) = false by rw [← Bool.not_eq_true, Bool.and_eq_true, decide_eq_true_eq, decide_eq_true_eq]; omega]
      exact split_j1_false p k _ _ _ _
end Go.Proofs.Ytickdcegnlldjaa.Hd
