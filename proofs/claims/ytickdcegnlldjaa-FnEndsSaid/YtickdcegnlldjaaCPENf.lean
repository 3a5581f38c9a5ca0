/- Part 6 of the proof of FnEnds: what the program's functions and the reference's compute. -/
import Derived.Test.YtickdcegnlldjaaProg
import Derived.Below
import Derived.Deep.Draws
import Derived.Deep.AppendLies
import Derived.Maps.AppendAt
import Derived.OwnWalk
import Derived.Laws.BytesArg
import Derived.Laws.MakeOwn
import Derived.Laws.OwnMore
import Derived.Deep.OwnRows
import Derived.Tactics
import Derived.Lib.ConvBytes
import Derived.Laws.Slices
import Derived.WalkKit
import Derived.KernelRfl
import Derived.RowKit3
import Derived.Deep.LoopGhost
import Derived.Deep.QuietTactic
import Derived.BigQuiet
import Derived.WideLaws
import Derived.Deep.DeepCutAuto
import Derived.Deep.CutBlock
import Derived.Deep.RegionHeld3
import Derived.Laws.Rows
import Derived.Lib.AppendStr
import Derived.ArgAppend
import Derived.Laws.IdiomCopy
import Derived.OrdersHeld
import Derived.Laws.BitsLemmas
import Derived.RowKit
import Derived.Test.YtickdcegnlldjaaCPENe
set_option linter.unusedSimpArgs false
set_option linter.unusedVariables false
namespace Go.Proofs.Ytickdcegnlldjaa.Hd
open Go.RowKit Go.PW.PrintWords Go.PW.PrintLast Go.PW.PrintMore Go.Proofs.Ytickdcegnlldjaa.PB
theorem walls_ok {cs : List (List Int)} {rs : List Rc} (h : zcm cs rs) : ∀ a ∈ wallsOf cs, ∃ lv l f n, a = mkW lv (l, f, n) ∧ 1 ≤ l ∧ l < linesOf cs lv ∧ f + n ≤ zcc cs lv ∧ 1 ≤ n := by
 have q3 := h.h1
 have q4 := h.w1
 intro a ha
 rw [wallsOf_eq] at ha
 rcases List.mem_append.1 ha with hm | hm
 ·obtain ⟨⟨l, f, n⟩, hx, rfl⟩ := List.mem_map.1 hm
  have := trip_in _ _ _ _ hx
  exact ⟨false, l, f, n, rfl, by simp only [linesOf, zcc, Bool.false_eq_true, if_false]; dsimp only at this; omega⟩
 ·obtain ⟨⟨l, f, n⟩, hx, rfl⟩ := List.mem_map.1 hm
  have := trip_in _ _ _ _ hx
  exact ⟨true, l, f, n, rfl, by simp only [linesOf, zcc, if_true]; dsimp only at this; omega⟩
theorem walls_at {cs : List (List Int)} {rs : List Rc} (h : zcm cs rs) (i : Nat) (hi : i < (wallsOf cs).length) : ∃ lv l f n, (wallsOf cs).getD i zeroW = mkW lv (l, f, n) ∧ 1 ≤ l ∧ l < linesOf cs lv ∧ f + n ≤ zcc cs lv ∧ 1 ≤ n ∧ linesOf cs lv ≤ 6 ∧ zcc cs lv ≤ 6 := by
 have hm : (wallsOf cs).getD i zeroW ∈ wallsOf cs := by rw [List.getD_eq_getElem?_getD, List.getElem?_eq_getElem hi]; exact List.getElem_mem _
 obtain ⟨lv, l, f, n, h1, h2, h3, h4, h5⟩ := walls_ok h _ hm
 have q1 := h.h6
 have q2 := h.w6
 exact ⟨lv, l, f, n, h1, h2, h3, h4, h5, by unfold linesOf; split <;> omega, by unfold zcc; split <;> omega⟩
def endOf (cs : List (List Int)) (lv : Bool) : Int := if lv = true then (zan cs : Int) else (cs.length : Int)
theorem end_f {cs : List (List Int)} {rs : List Rc} (h : zcm cs rs) (lv : Bool) (a b c : Int) : impl_floor_end.f cs rs lv a b c = some (endOf cs lv) := by
 unfold impl_floor_end.f endOf
 cases lv with
 | true => rw [if_pos rfl, if_pos rfl, wide_f h]; rfl
 | false => rw [if_neg (by simp), if_neg (by simp), high_f]; rfl
def endW (cs : List (List Int)) (a : Wl) : Int := (if a.f2 = 0 then 1 else 0) + (if a.f2 + a.f3 = endOf cs a.f0 then 1 else 0)
theorem endW_range (cs : List (List Int)) (a : Wl) : 0 ≤ endW cs a ∧ endW cs a ≤ 2 := by
 unfold endW
 split <;> split <;> omega
def endsW (cs : List (List Int)) (L : List Wl) : Int := sumZ (L.map (endW cs))
theorem endsW_range (cs : List (List Int)) (L : List Wl) : 0 ≤ endsW cs L ∧ endsW cs L ≤ 2 * L.length := by
 have := sumZ_range (L := L.map (endW cs)) (fun x hx => by obtain ⟨y, _, rfl⟩ := List.mem_map.1 hx; exact endW_range cs y)
 unfold endsW
 simpa using this
theorem endsW_snoc (cs : List (List Int)) (L : List Wl) (a : Wl) : endsW cs (L ++ [a]) = endsW cs L + endW cs a := by
 unfold endsW
 rw [List.map_append, sumZ_append]
 simp [sumZ]
theorem endsW_all (cs : List (List Int)) : endsW cs (wallsOf cs) = endsOf cs.length (upT cs) + endsOf (zan cs) (levT cs) := by
 unfold endsW endsOf
 rw [wallsOf_eq, List.map_append, sumZ_append, List.map_map, List.map_map]
 have h : ∀ lv (x : Nat × Nat × Nat), endW cs (mkW lv x) = endC (endOf cs lv) x := fun lv x => by
  unfold endW endC mkW
  dsimp only
  congr 1
  ·by_cases h : x.2.1 = 0
   ·rw [if_pos (by omega), if_pos h]
   ·rw [if_neg (by omega), if_neg h]
 congr 2
 ·exact List.map_congr_left fun x _ => h false x
 ·exact List.map_congr_left fun x _ => h true x
set_option maxHeartbeats 4000000 in
set_option maxRecDepth 100000 in
theorem WallEnds_calls (A0 : Option Addr) (c0 : Nat) (l0 : List ByteArray) (w : World) (hr0 : Kd.C Kd.string w A0 l0.length l0) (hc0 : l0.length ≤ c0) (hp : smallP l0) :
  Calls Try.prog 25 #[.slice A0 l0.length c0] w fun e w' => e = .returned (.tuple #[.int .i64 (zcp l0).1, .bool (zcp l0).2]) ∧ Below w.heap.size w w' := by
 have HR := zaa.mk hr0
 have HC := zaa.mk hc0
 have HP := zaa.mk hp
 clear hr0 hc0 hp
 generalize hM : zcp l0 = res
 have HM := zaa.mk hM
 clear hM
 generalize hF : zcr l0 = t
 have HF := zaa.mk hF
 clear hF
 rcases t with _ | ⟨cs, rs⟩
 ·have e : res = (0, false) := by rw [← HM.out]; unfold zcp; rw [HF.out]
  subst e
  go_enter Try.func25, Try.ntmps25
  go_wp2_with (first
   | (go_at_call 49; refine (floorOf_calls A0 c0 l0 _ HR.out HC.out HP.out).mono ?_; rw [HF.out]; rintro e w8 ⟨hb8, v8, b8, rfl, rfl⟩; have HB8 := zaa.mk hb8; clear hb8))
  go_ret2
  exact ⟨rfl, HB8.out⟩
 ·have e : res = (endsW cs (wallsOf cs), true) := by rw [← HM.out, endsW_all]; unfold zcp; rw [HF.out]
  obtain ⟨K, hK⟩ := walls_ev (floorF_ok HF.out)
  have HW := zaa.mk (hK K (Nat.le_refl K))
  have HL := zaa.mk (wallsOf_bound (floorF_ok HF.out))
  have HAt := zaa.mk (walls_at (floorF_ok HF.out))
  have HEn := zaa.mk (fun lv a b c => end_f (floorF_ok HF.out) lv a b c)
  have HE := zaa.mk e
  have HEO := zaa.mk (show ∀ lv, 0 ≤ endOf cs lv ∧ endOf cs lv ≤ 6 from fun lv => by
   have q := floorF_ok HF.out
   have := q.h6
   have := q.w6
   unfold endOf
   split <;> omega)
  clear hK e
  generalize wallsOf cs = ws at *
  have b1 : (ws.length : Int) ≤ 72 := by have := HL.out; omega
  go_enter Try.func25, Try.ntmps25
  go_wp2_with (first
   | (go_at_call 49; refine (floorOf_calls A0 c0 l0 _ HR.out HC.out HP.out).mono ?_; rw [HF.out]; rintro e w8 ⟨hb8, v8, b8, rfl, rfl, g, rfl, hfl⟩; have HB8 := zaa.mk hb8; have HFl8 := zaa.mk hfl; clear hb8 hfl)
   | (go_at_call 61; refine (impl_floor_walls.calls K g cs rs ws _ _ HFl8.out (Below.refl _ _) HW.out).mono ?_; rintro e w9 ⟨v9, rfl, hr9, -, hb9, -⟩; obtain ⟨A9, c9, e9⟩ := Kd.R_slice hr9; subst e9; have HB9 := zaa.mk (zah HB8.out hb9); have HF9 := zaa.mk (HFl8.out.below hb9); have HR9 := zaa.mk (Kd.R_lower hr9 HB8.out.size); clear hb9 hr9))
  go_loopg [6, 19] ws.length (fun kq v6 v19 w' => ∃ i : Nat, v6 = .int .i64 (endsW cs (ws.take i)) ∧ v19 = .int .i64 (i : Int) ∧ zaa (i + kq = ws.length) ∧ zaa (Kd.R kWl 72 w' w.heap.size (fun _ => True) (.slice A9 ws.length c9) ws) ∧ zaa (zce w' g cs rs) ∧ zaa (Below w.heap.size w w'))
  case atStart => exact ⟨0, by simp [endsW, sumZ], rfl, ⟨by omega⟩, HR9, HF9, HB9⟩
  case round =>
   clear HR9 HB9 HF9
   obtain ⟨i, rfl, rfl, HK, HO, HFl, HB⟩ := hrel
   have hsr := endsW_range cs (ws.take i)
   have hsl : (ws.take i).length ≤ 72 := by simp; omega
   by_cases hi : i < ws.length
   ·have hlt : (i : Int) < (ws.length : Int) := by omega
    have hi0 : (0 : Int) ≤ i := by omega
    obtain ⟨gr, cp, ev, hgr, hltg, cells, hcells⟩ := Kd.R_form HO.out (by omega)
    injection ev with ea en ec
    subst ea
    clear en ec hcells hltg hgr
    obtain ⟨z0, z1, z2, z3⟩ := wl_cells HO.out i hi
    have HT := zaa.mk (take_snoc_w ws i hi)
    obtain ⟨lv, l, f, n, ha, k1, k2, k3, k4, k5, k6⟩ := HAt.out i hi
    rw [ha] at z0 z1 z2 z3 HT
    simp only [mkW] at z0 z1 z2 z3
    have heo := HEO.out lv
    have HEv := zaa.mk (HEn.out lv (l : Int) (f : Int) (n : Int))
    have HS := zaa.mk (show endsW cs (ws.take (i + 1)) = endsW cs (ws.take i) + ((if (f : Int) = 0 then 1 else 0) + (if (f : Int) + (n : Int) = endOf cs lv then 1 else 0)) from by rw [HT.out, endsW_snoc]; rfl)
    generalize endsW cs (ws.take i) = sm at *
    generalize endOf cs lv = en at *
    obtain ⟨fn, hw, hfn⟩ : ∃ fn : Int, wrap64 ((f : Int) + (n : Int)) = fn ∧ fn = (f : Int) + (n : Int) := ⟨_, rfl, zar (by omega) (by omega)⟩
    rw [← hfn] at HS
    clear hfn
    have hs1 : wrap64 (sm + 1) = sm + 1 := zar (by omega) (by omega)
    have hs2 : wrap64 (sm + 1 + 1) = sm + 1 + 1 := zar (by omega) (by omega)
    have HFa := zaa.mk (HFl.out.below (zac (Below.refl _ _) (.cells #[.bool lv, .int .i64 (l : Int), .int .i64 (f : Int), .int .i64 (n : Int)] 72)))
    have HBa := zaa.mk (zac HB.out (.cells #[.bool lv, .int .i64 (l : Int), .int .i64 (f : Int), .int .i64 (n : Int)] 72))
    have HOa := zaa.mk (Kd.R_below HO.out (zac (Below.refl _ _) (.cells #[.bool lv, .int .i64 (l : Int), .int .i64 (f : Int), .int .i64 (n : Int)] 72)))
    have hnew := heap_alloc_new wr (.cells #[.bool lv, .int .i64 (l : Int), .int .i64 (f : Int), .int .i64 (n : Int)] 72)
    have y0 := (zau hnew 0).trans rfl
    have y1 := (zau hnew 1).trans rfl
    have y2 := (zau hnew 2).trans rfl
    have y3 := (zau hnew 3).trans rfl
    clear hnew
    by_cases hf : (f : Int) = 0
    ·have d1 : ((f : Int) == 0) = true := by rw [beq_iff_eq]; exact hf
     rw [if_pos hf] at HS
     clear hf
     go_wp2
     generalize wr.alloc (.cells #[.bool lv, .int .i64 (l : Int), .int .i64 (f : Int), .int .i64 (n : Int)] 72) = wz at *
     generalize wr.heap.size = gw at *
     refine start_ (n := 9) (S := fun w' => (w'.cell? ⟨gw, 0, none⟩ = some (.bool lv)) ∧ (w'.cell? ⟨gw, 1, none⟩ = some (.int .i64 (l : Int))) ∧ (w'.cell? ⟨gw, 2, none⟩ = some (.int .i64 (f : Int))) ∧ (w'.cell? ⟨gw, 3, none⟩ = some (.int .i64 (n : Int))) ∧ (zce w' g cs rs) ∧ (Below w.heap.size w w') ∧ (Kd.R kWl 72 w' w.heap.size (fun _ => True) (.slice (some ⟨gr, 0, none⟩) ws.length c9) ws)) (ds := []) #[false, false, false, false, false, false, false, false, false] (by kernel_rfl) rfl rfl (⟨y0, y1, y2, y3, HFa.out, ⟨HBa.out.os, HBa.out.tape, HBa.out.output, HBa.out.size, HBa.out.block⟩, HOa.out⟩) (fun hHeld => ?_)
     clear y0 y1 y2 y3
     refine zbd (i := 0) (N := some 28) (v := ?_) (a' := ?_) #[true, false, false, false, false, false, false, false, false] rfl rfl (by kernel_rfl) (fun _ _ _ h => h) (Or.inl ⟨by rfl, ?_⟩) ?_ ?_
     rotate_left
     ·intro w'
      go_simp
      with_reducible rfl
     rotate_left
     ·simp only [Act.put, List.setIfInBounds_toArray, List.set_cons_zero, List.set_cons_succ, zat, zav]
      rfl
     refine take_ (i := 1) (N := some 29) (v := ?_) (a' := ?_) #[true, true, false, false, false, false, false, false, false] rfl rfl (by kernel_rfl) (fun _ _ _ h => h) (Or.inl ⟨by rfl, ?_⟩) hHeld ?_ ?_
     rotate_left
     ·rintro w' ⟨s0, s1, s2, s3, s4, s5, s6⟩
      go_simp
      with_reducible rfl
     rotate_left
     ·simp only [Act.put, List.setIfInBounds_toArray, List.set_cons_zero, List.set_cons_succ, zat, zav]
      rfl
     refine zbd (i := 2) (N := some 30) (v := ?_) (a' := ?_) #[true, true, true, false, false, false, false, false, false] rfl rfl (by kernel_rfl) (fun _ _ _ h => h) (Or.inl ⟨by rfl, ?_⟩) ?_ ?_
     rotate_left
     ·intro w'
      go_simp
      with_reducible rfl
     rotate_left
     ·simp only [Act.put, List.setIfInBounds_toArray, List.set_cons_zero, List.set_cons_succ, zat, zav]
      rfl
     refine take_ (i := 3) (N := some 31) (v := ?_) (a' := ?_) #[true, true, true, true, false, false, false, false, false] rfl rfl (by kernel_rfl) (fun _ _ _ h => h) (Or.inl ⟨by rfl, ?_⟩) hHeld ?_ ?_
     rotate_left
     ·rintro w' ⟨s0, s1, s2, s3, s4, s5, s6⟩
      go_simp
      with_reducible rfl
     rotate_left
     ·simp only [Act.put, List.setIfInBounds_toArray, List.set_cons_zero, List.set_cons_succ, zat, zav]
      rfl
     refine zbd (i := 4) (N := some 32) (v := ?_) (a' := ?_) #[true, true, true, true, true, false, false, false, false] rfl rfl (by kernel_rfl) (fun _ _ _ h => h) (Or.inl ⟨by rfl, ?_⟩) ?_ ?_
     rotate_left
     ·intro w'
      go_simp
      with_reducible rfl
     rotate_left
     ·simp only [Act.put, List.setIfInBounds_toArray, List.set_cons_zero, List.set_cons_succ, zat, zav]
      rfl
     refine zbd (i := 5) (N := some 33) (v := ?_) (a' := ?_) #[true, true, true, true, true, true, false, false, false] rfl rfl (by kernel_rfl) (fun _ _ _ h => h) (Or.inl ⟨by rfl, ?_⟩) ?_ ?_
     rotate_left
     ·intro w'
      go_simp
      with_reducible rfl
     rotate_left
     ·simp only [Act.put, List.setIfInBounds_toArray, List.set_cons_zero, List.set_cons_succ, zat, zav]
      rfl
     refine take_ (i := 6) (N := some 34) (v := ?_) (a' := ?_) #[true, true, true, true, true, true, true, false, false] rfl rfl (by kernel_rfl) (fun _ _ _ h => h) (Or.inl ⟨by rfl, ?_⟩) hHeld ?_ ?_
     rotate_left
     ·rintro w' ⟨s0, s1, s2, s3, s4, s5, s6⟩
      go_simp
      with_reducible rfl
     rotate_left
     ·simp only [Act.put, List.setIfInBounds_toArray, List.set_cons_zero, List.set_cons_succ, zat, zav]
      rfl
     refine one_ (i := 7) (N := some 35) #[true, true, true, true, true, true, true, true, false] rfl rfl (by kernel_rfl) (by decide) (fun K hK => ?_)
     refine goes_ Try.func62 (by kernel_rfl) rfl #[.pointer (some ⟨g, 0, none⟩), .agg #[.bool lv, .int .i64 (l : Int), .int .i64 (f : Int), .int .i64 (n : Int)]] (by rfl) rfl rfl (by (try simp only [List.map_toArray, List.map_cons, List.map_nil]); first | done | rfl) ?_
     have hs_ := hHeld
     obtain ⟨s0, s1, s2, s3, s4, s5, s6⟩ := hs_
     refine (impl_floor_end.calls g cs rs lv (l : Int) (f : Int) (n : Int) en _ _ s4 (Below.refl _ _) HEv.out).mono ?_
     rintro e w12 ⟨rfl, -, hb, -⟩
     have HF12 := zaa.mk (zce.below s4 hb)
     have HB12 := zaa.mk (zah s5 hb)
     have HO12 := zaa.mk (Kd.R_below s6 hb)
     refine ⟨_, rfl, ?_⟩
     refine hK.out _ _ ⟨zae hb s0, zae hb s1, zae hb s2, zae hb s3, zce.below s4 hb, zah s5 hb, Kd.R_below s6 hb⟩ (fun hHeld => ?_)
     clear hK K hb s0 s1 s2 s3 s4 s5 s6
     refine norm_ (a' := ?_) ?_ ?_
     rotate_left
     ·show Act.put _ (some 35) _ = _
      simp only [Act.put, List.setIfInBounds_toArray, List.set_cons_zero, List.set_cons_succ, zat, zav]
      rfl
     refine zbd (i := 8) (N := some 36) (v := ?_) (a' := ?_) #[true, true, true, true, true, true, true, true, true] rfl rfl (by kernel_rfl) (fun _ _ _ h => h) (Or.inl ⟨by rfl, ?_⟩) ?_ ?_
     rotate_left
     ·intro w'
      go_simp
      with_reducible rfl
     rotate_left
     ·simp only [Act.put, List.setIfInBounds_toArray, List.set_cons_zero, List.set_cons_succ, zat, zav]
      rfl
     refine done_ (by kernel_rfl) ?_
     by_cases hq : fn = en
     ·have d2 : (fn == en) = true := by rw [beq_iff_eq]; exact hq
      rw [if_pos hq] at HS
      clear hq hHeld
      go_wp2
      go_roundg (ws.length - (i + 1))
      case measure => have := HK.out; omega
      case rel => exact ⟨i + 1, by rw [HS.out]; exact congrArg _ (by omega), by first | rfl | (congr 1; omega), ⟨by have := HK.out; omega⟩, HO12, HF12, HB12⟩
     ·have d2 : (fn == en) = false := by rw [beq_eq_false_iff_ne]; exact hq
      rw [if_neg hq] at HS
      clear hq hHeld
      go_wp2
      go_roundg (ws.length - (i + 1))
      case measure => have := HK.out; omega
      case rel => exact ⟨i + 1, by rw [HS.out]; exact congrArg _ (by omega), by first | rfl | (congr 1; omega), ⟨by have := HK.out; omega⟩, HO12, HF12, HB12⟩
    ·have d1 : ((f : Int) == 0) = false := by rw [beq_eq_false_iff_ne]; exact hf
     rw [if_neg hf] at HS
     clear hf
     go_wp2
     generalize wr.alloc (.cells #[.bool lv, .int .i64 (l : Int), .int .i64 (f : Int), .int .i64 (n : Int)] 72) = wz at *
     generalize wr.heap.size = gw at *
     refine start_ (n := 9) (S := fun w' => (w'.cell? ⟨gw, 0, none⟩ = some (.bool lv)) ∧ (w'.cell? ⟨gw, 1, none⟩ = some (.int .i64 (l : Int))) ∧ (w'.cell? ⟨gw, 2, none⟩ = some (.int .i64 (f : Int))) ∧ (w'.cell? ⟨gw, 3, none⟩ = some (.int .i64 (n : Int))) ∧ (zce w' g cs rs) ∧ (Below w.heap.size w w') ∧ (Kd.R kWl 72 w' w.heap.size (fun _ => True) (.slice (some ⟨gr, 0, none⟩) ws.length c9) ws)) (ds := []) #[false, false, false, false, false, false, false, false, false] (by kernel_rfl) rfl rfl (⟨y0, y1, y2, y3, HFa.out, ⟨HBa.out.os, HBa.out.tape, HBa.out.output, HBa.out.size, HBa.out.block⟩, HOa.out⟩) (fun hHeld => ?_)
     clear y0 y1 y2 y3
     refine zbd (i := 0) (N := some 28) (v := ?_) (a' := ?_) #[true, false, false, false, false, false, false, false, false] rfl rfl (by kernel_rfl) (fun _ _ _ h => h) (Or.inl ⟨by rfl, ?_⟩) ?_ ?_
     rotate_left
     ·intro w'
      go_simp
      with_reducible rfl
     rotate_left
     ·simp only [Act.put, List.setIfInBounds_toArray, List.set_cons_zero, List.set_cons_succ, zat, zav]
      rfl
     refine take_ (i := 1) (N := some 29) (v := ?_) (a' := ?_) #[true, true, false, false, false, false, false, false, false] rfl rfl (by kernel_rfl) (fun _ _ _ h => h) (Or.inl ⟨by rfl, ?_⟩) hHeld ?_ ?_
     rotate_left
     ·rintro w' ⟨s0, s1, s2, s3, s4, s5, s6⟩
      go_simp
      with_reducible rfl
     rotate_left
     ·simp only [Act.put, List.setIfInBounds_toArray, List.set_cons_zero, List.set_cons_succ, zat, zav]
      rfl
     refine zbd (i := 2) (N := some 30) (v := ?_) (a' := ?_) #[true, true, true, false, false, false, false, false, false] rfl rfl (by kernel_rfl) (fun _ _ _ h => h) (Or.inl ⟨by rfl, ?_⟩) ?_ ?_
     rotate_left
     ·intro w'
      go_simp
      with_reducible rfl
     rotate_left
     ·simp only [Act.put, List.setIfInBounds_toArray, List.set_cons_zero, List.set_cons_succ, zat, zav]
      rfl
     refine take_ (i := 3) (N := some 31) (v := ?_) (a' := ?_) #[true, true, true, true, false, false, false, false, false] rfl rfl (by kernel_rfl) (fun _ _ _ h => h) (Or.inl ⟨by rfl, ?_⟩) hHeld ?_ ?_
     rotate_left
     ·rintro w' ⟨s0, s1, s2, s3, s4, s5, s6⟩
      go_simp
      with_reducible rfl
     rotate_left
     ·simp only [Act.put, List.setIfInBounds_toArray, List.set_cons_zero, List.set_cons_succ, zat, zav]
      rfl
     refine zbd (i := 4) (N := some 32) (v := ?_) (a' := ?_) #[true, true, true, true, true, false, false, false, false] rfl rfl (by kernel_rfl) (fun _ _ _ h => h) (Or.inl ⟨by rfl, ?_⟩) ?_ ?_
     rotate_left
     ·intro w'
      go_simp
      with_reducible rfl
     rotate_left
     ·simp only [Act.put, List.setIfInBounds_toArray, List.set_cons_zero, List.set_cons_succ, zat, zav]
      rfl
     refine zbd (i := 5) (N := some 33) (v := ?_) (a' := ?_) #[true, true, true, true, true, true, false, false, false] rfl rfl (by kernel_rfl) (fun _ _ _ h => h) (Or.inl ⟨by rfl, ?_⟩) ?_ ?_
     rotate_left
     ·intro w'
      go_simp
      with_reducible rfl
     rotate_left
     ·simp only [Act.put, List.setIfInBounds_toArray, List.set_cons_zero, List.set_cons_succ, zat, zav]
      rfl
     refine take_ (i := 6) (N := some 34) (v := ?_) (a' := ?_) #[true, true, true, true, true, true, true, false, false] rfl rfl (by kernel_rfl) (fun _ _ _ h => h) (Or.inl ⟨by rfl, ?_⟩) hHeld ?_ ?_
     rotate_left
     ·rintro w' ⟨s0, s1, s2, s3, s4, s5, s6⟩
      go_simp
      with_reducible rfl
     rotate_left
     ·simp only [Act.put, List.setIfInBounds_toArray, List.set_cons_zero, List.set_cons_succ, zat, zav]
      rfl
     refine one_ (i := 7) (N := some 35) #[true, true, true, true, true, true, true, true, false] rfl rfl (by kernel_rfl) (by decide) (fun K hK => ?_)
     refine goes_ Try.func62 (by kernel_rfl) rfl #[.pointer (some ⟨g, 0, none⟩), .agg #[.bool lv, .int .i64 (l : Int), .int .i64 (f : Int), .int .i64 (n : Int)]] (by rfl) rfl rfl (by (try simp only [List.map_toArray, List.map_cons, List.map_nil]); first | done | rfl) ?_
     have hs_ := hHeld
     obtain ⟨s0, s1, s2, s3, s4, s5, s6⟩ := hs_
     refine (impl_floor_end.calls g cs rs lv (l : Int) (f : Int) (n : Int) en _ _ s4 (Below.refl _ _) HEv.out).mono ?_
     rintro e w12 ⟨rfl, -, hb, -⟩
     have HF12 := zaa.mk (zce.below s4 hb)
     have HB12 := zaa.mk (zah s5 hb)
     have HO12 := zaa.mk (Kd.R_below s6 hb)
     refine ⟨_, rfl, ?_⟩
     refine hK.out _ _ ⟨zae hb s0, zae hb s1, zae hb s2, zae hb s3, zce.below s4 hb, zah s5 hb, Kd.R_below s6 hb⟩ (fun hHeld => ?_)
     clear hK K hb s0 s1 s2 s3 s4 s5 s6
     refine norm_ (a' := ?_) ?_ ?_
     rotate_left
     ·show Act.put _ (some 35) _ = _
      simp only [Act.put, List.setIfInBounds_toArray, List.set_cons_zero, List.set_cons_succ, zat, zav]
      rfl
     refine zbd (i := 8) (N := some 36) (v := ?_) (a' := ?_) #[true, true, true, true, true, true, true, true, true] rfl rfl (by kernel_rfl) (fun _ _ _ h => h) (Or.inl ⟨by rfl, ?_⟩) ?_ ?_
     rotate_left
     ·intro w'
      go_simp
      with_reducible rfl
     rotate_left
     ·simp only [Act.put, List.setIfInBounds_toArray, List.set_cons_zero, List.set_cons_succ, zat, zav]
      rfl
     refine done_ (by kernel_rfl) ?_
     by_cases hq : fn = en
     ·have d2 : (fn == en) = true := by rw [beq_iff_eq]; exact hq
      rw [if_pos hq] at HS
      clear hq hHeld
      go_wp2
      go_roundg (ws.length - (i + 1))
      case measure => have := HK.out; omega
      case rel => exact ⟨i + 1, by rw [HS.out]; exact congrArg _ (by omega), by first | rfl | (congr 1; omega), ⟨by have := HK.out; omega⟩, HO12, HF12, HB12⟩
     ·have d2 : (fn == en) = false := by rw [beq_eq_false_iff_ne]; exact hq
      rw [if_neg hq] at HS
      clear hq hHeld
      go_wp2
      go_roundg (ws.length - (i + 1))
      case measure => have := HK.out; omega
      case rel => exact ⟨i + 1, by rw [HS.out]; exact congrArg _ (by omega), by first | rfl | (congr 1; omega), ⟨by have := HK.out; omega⟩, HO12, HF12, HB12⟩
   ·have hge : ¬ (i : Int) < (ws.length : Int) := by omega
    obtain rfl : i = ws.length := by have := HK.out; omega
    rw [List.take_length]
    go_wp2
    go_ret2
    rw [HE.out]
    exact ⟨rfl, HB.out⟩
theorem MatAt.typed {W : World} {g n : Nat} {bs : List Nat} {rows : List (List Int)} (h : MatAt W g n bs rows) {b : Nat} (hb : b ∈ bs) : ∃ x, W.heap[b]? = some (.cells x 3 (0, 0)) := by
 obtain ⟨i, hi, e⟩ := List.mem_iff_getElem.1 hb
 have hr : i < rows.length := by rw [← h.len]; exact hi
 exact ⟨_, h.row i b _ (by rw [List.getElem?_eq_getElem hi, e]) (List.getElem?_eq_getElem hr)⟩
def Conv (hi wi : Nat) (g : Nat → Nat → Int) : Prop := ∀ r c r' c' i j, r < hi → c < wi → r' < hi → c' < wi → g r c = g r' c' → min r r' ≤ i → i ≤ max r r' → min c c' ≤ j → j ≤ max c c' → g i j = g r c
def ConvG (rows : List (List Int)) : Prop := Conv rows.length (zan rows) (zbb rows)
theorem Conv.congr {hi wi : Nat} {g g' : Nat → Nat → Int} (h : Conv hi wi g) (e : ∀ r c, r < hi → c < wi → g r c = g' r c) : Conv hi wi g' := by
 intro r c r' c' i j h1 h2 h3 h4 hv k1 k2 k3 k4
 rw [← e i j (by omega) (by omega), ← e r c h1 h2]
 exact h r c r' c' i j h1 h2 h3 h4 (by rw [e r c h1 h2, e r' c' h3 h4]; exact hv) k1 k2 k3 k4
theorem Conv.map {hi wi : Nat} {g : Nat → Nat → Int} (h : Conv hi wi g) (f : Int → Int) (hf : ∀ r c r' c', r < hi → c < wi → r' < hi → c' < wi → f (g r c) = f (g r' c') → g r c = g r' c') : Conv hi wi (fun r c => f (g r c)) := by
 intro r c r' c' i j h1 h2 h3 h4 hv k1 k2 k3 k4
 show f _ = f _
 rw [h r c r' c' i j h1 h2 h3 h4 (hf _ _ _ _ h1 h2 h3 h4 hv) k1 k2 k3 k4]
theorem names_canon {rows : List (List Int)} (hs : zbs rows = true) (h9 : (zaz rows).length ≤ 9) : Canon (zbt (canon rows)) := by
 have hn := names_nums hs
 have hinj := names_inj rows
 have hL := rooms_len hs
 refine ⟨?_, ?_⟩
 ·unfold gridOk
  rw [Bool.and_eq_true, hn, mapG_shape]
  refine ⟨hs, ?_⟩
  rw [List.all_eq_true]
  intro s hss
  obtain ⟨r, hr, rfl⟩ := List.mem_map.1 hss
  unfold okText
  rw [bytesOf_rowText r (canon_val hs r hr), List.all_eq_true]
  intro x hx
  obtain ⟨y, hy, rfl⟩ := List.mem_map.1 hx
  unfold canon canonL at hr
  obtain ⟨r0, hr0, rfl⟩ := List.mem_map.1 hr
  obtain ⟨z, hz, rfl⟩ := List.mem_map.1 hy
  have h3 : (zby rows).idxOf z < (zby rows).length := List.idxOf_lt_length_of_mem (ordL_mem rows.flatten [] z (List.mem_flatten.2 ⟨r0, hr0, hz⟩))
  simp only [okLetter, Bool.not_eq_true', Bool.or_eq_false_iff, decide_eq_false_iff_not]
  omega
 ·unfold namesOf
  rw [hn, canon_map hinj]
theorem text_length (rows : List (List Int)) : (zbt (canon rows)).length = rows.length := by simp [zbt, canon, canonL]
theorem canon_length (rows : List (List Int)) : (canon rows).length = rows.length := by simp [canon, canonL]
theorem names_floor {rows : List (List Int)} (hs : zbs rows = true) (h9 : (zaz rows).length ≤ 9) : zcr (zbt (canon rows)) = if zca (zaz rows) = (rows.length : Int) * (zan rows : Int) then some (canon rows, zaz rows) else none := by
 have hC := names_canon hs h9
 have hn := names_nums hs
 have hinj := names_inj rows
 rw [floorF_grid hC.grid, hn, rooms_map hs hinj, mapG_wide, text_length, canon_map hinj]
 by_cases h : zca (zaz rows) = (rows.length : Int) * (zan rows : Int)
 ·rw [if_pos h, if_pos ⟨h9, h, hC.names⟩]
 ·rw [if_neg h, if_neg (fun z => h z.2.1)]
theorem canon_wide (rows : List (List Int)) : zan (canon rows) = zan rows := by
 unfold zan canon canonL
 cases rows with
 | nil => rfl
 | cons a r => simp
theorem canon_at {rows : List (List Int)} (hs : zbs rows = true) {r c : Nat} (hr : r < rows.length) (hc : c < zan rows) : zbb (canon rows) r c = ((zby rows).idxOf (zbb rows r c) : Int) := by
 have e := congrArg (fun R => zbb R r c) (rect_map (shape_rect hs) (fun x => ((zby rows).idxOf x : Int)))
 exact Eq.trans e (valAt_gridOf hr hc)
theorem idxOf_inj {L : List Int} {x y : Int} (hx : x ∈ L) (hy : y ∈ L) (e : L.idxOf x = L.idxOf y) : x = y := by
 have h1 := List.idxOf_lt_length_of_mem hx
 have h2 := List.idxOf_lt_length_of_mem hy
 have e1 : L[L.idxOf x] = x := List.getElem_idxOf h1
 have e2 : L[L.idxOf y] = y := List.getElem_idxOf h2
 rw [← e1, ← e2]
 congr 1
theorem val_ord {rows : List (List Int)} (hs : zbs rows = true) {r c : Nat} (hr : r < rows.length) (hc : c < zan rows) : zbb rows r c ∈ zby rows := ordL_mem rows.flatten [] _ (val_mem (shape_rect hs) hr hc)
theorem canon_eq_iff {rows : List (List Int)} (hs : zbs rows = true) {r c r' c' : Nat} (hr : r < rows.length) (hc : c < zan rows) (hr' : r' < rows.length) (hc' : c' < zan rows) : zbb (canon rows) r c = zbb (canon rows) r' c' ↔ zbb rows r c = zbb rows r' c' := by
 rw [canon_at hs hr hc, canon_at hs hr' hc']
 constructor
 ·exact fun h => idxOf_inj (val_ord hs hr hc) (val_ord hs hr' hc') (by omega)
 ·intro h
  rw [h]
theorem conv_canon {rows : List (List Int)} (hs : zbs rows = true) : ConvG (canon rows) ↔ ConvG rows := by
 unfold ConvG
 rw [canon_length, canon_wide]
 constructor
 ·intro h r c r' c' i j h1 h2 h3 h4 hv k1 k2 k3 k4
  exact (canon_eq_iff hs (by omega) (by omega) h1 h2).1 (h r c r' c' i j h1 h2 h3 h4 ((canon_eq_iff hs h1 h2 h3 h4).2 hv) k1 k2 k3 k4)
 ·intro h r c r' c' i j h1 h2 h3 h4 hv k1 k2 k3 k4
  exact (canon_eq_iff hs (by omega) (by omega) h1 h2).2 (h r c r' c' i j h1 h2 h3 h4 ((canon_eq_iff hs h1 h2 h3 h4).1 hv) k1 k2 k3 k4)
theorem countN_conv (rows : List (List Int)) (wi : Nat) (x : Int) (b : Rc) : ∀ n, (∀ m, m < n → (cellN rows wi m = x ↔ inBox b wi m)) → zco rows wi x n = countB b wi n
 | 0, _ => rfl
 | n + 1, h => by
  have ih := countN_conv rows wi x b n (fun m hm => h m (by omega))
  simp only [zco, countB]
  by_cases hx : cellN rows wi n = x
  ·rw [if_pos hx, if_pos ((h n (by omega)).1 hx), ih]
  ·rw [if_neg hx, if_neg (fun z => hx ((h n (by omega)).2 z)), ih]
theorem conv_sum {rows : List (List Int)} (hs : zbs rows = true) (h9 : (zaz rows).length ≤ 9) : zca (zaz rows) = (rows.length : Int) * (zan rows : Int) ↔ ConvG rows := by
 have hfl := names_floor hs h9
 constructor
 ·intro h
  rw [if_pos h] at hfl
  have F := floor_facts hfl
  rw [← conv_canon hs]
  intro r c r' c' i j h1 h2 h3 h4 hv k1 k2 k3 k4
  have hv1 := valAt_range F.ok r c h1 h2
  obtain ⟨q, hq⟩ := Int.eq_ofNat_of_zero_le hv1.1
  have hq2 : q < (zaz rows).length := by omega
  have hc := fun r c hr hc => room_cells hfl q hq2 r c hr hc
  have a1 := (hc r c h1 h2).1 hq
  have a2 := (hc r' c' h3 h4).1 (by rw [← hv]; exact hq)
  rw [hq]
  exact (hc i j (by omega) (by omega)).2 (by omega)
 ·intro h
  have hC := names_canon hs h9
  have hn := names_nums hs
  have hinj := names_inj rows
  have hiff := full_iff hC
  rw [hn, rooms_map hs hinj, mapG_wide, text_length] at hiff
  have hall : (List.range (zaz rows).length).all (fullB (zbt (canon rows))) = true := by
   rw [List.all_eq_true]
   intro x hx
   have hx := List.mem_range.1 hx
   unfold fullB
   rw [decide_eq_true_eq, hn, rooms_map hs hinj, mapG_wide, text_length]
   obtain ⟨v, hv, hb, hbd⟩ := rooms_box hs x hx
   rw [← countB_all _ _ _ hbd]
   obtain ⟨s1, s2, s3, s4, s5⟩ := (zch _).1 hs
   have hR := shape_rect hs
   refine countN_conv _ _ _ _ _ fun m hm => ?_
   have hr : m / zan rows < rows.length := by rw [Nat.div_lt_iff_lt_mul (by omega)]; exact hm
   have hc := Nat.mod_lt m (show 0 < zan rows by omega)
   have hcell : cellN (mapG (fun x => 97 + ((zby rows).idxOf x : Int)) rows) (zan rows) m = ((zby rows).idxOf (zbb rows (m / zan rows) (m % zan rows)) : Int) := by
    unfold cellN
    rw [valAt_map hR _ hr hc]
    omega
   rw [hcell, idx_iff (ordAll_nodup rows) hv (val_ord hs hr hc)]
   constructor
   ·exact fun h => hb.ins m hm h
   ·intro hin
    obtain ⟨i1, i2, i3, i4⟩ := hin
    obtain ⟨mt, nt, vt, et⟩ := hb.top
    obtain ⟨ml, nl, vl, el⟩ := hb.left
    obtain ⟨mw, nw, vw, ew⟩ := hb.low
    obtain ⟨mr, nr, vr, er⟩ := hb.right
    have rr : ∀ m, m < rows.length * zan rows → m / zan rows < rows.length ∧ m % zan rows < zan rows := fun m hm => ⟨by rw [Nat.div_lt_iff_lt_mul (by omega)]; exact hm, Nat.mod_lt m (by omega)⟩
    obtain ⟨t1, t2⟩ := rr mt nt
    obtain ⟨l1, l2⟩ := rr ml nl
    obtain ⟨w1, w2⟩ := rr mw nw
    obtain ⟨r1, r2⟩ := rr mr nr
    have gt := hb.ins mt nt vt
    have gl := hb.ins ml nl vl
    have gw := hb.ins mw nw vw
    have gr := hb.ins mr nr vr
    generalize hbx : (zaz rows).getD x zcg = bx at *
    -- the upper left and the lower right corner
    have c1 := h (mt / zan rows) (mt % zan rows) (ml / zan rows) (ml % zan rows) (mt / zan rows) (ml % zan rows) t1 t2 l1 l2 (vt.trans vl.symm) (by omega) (by omega) (by omega) (by omega)
    have c2 := h (mw / zan rows) (mw % zan rows) (mr / zan rows) (mr % zan rows) (mw / zan rows) (mr % zan rows) w1 w2 r1 r2 (vw.trans vr.symm) (by omega) (by omega) (by omega) (by omega)
    have c3 := h (mt / zan rows) (ml % zan rows) (mw / zan rows) (mr % zan rows) (m / zan rows) (m % zan rows) t1 l2 w1 r2 (by rw [c1, c2, vt, vw]) (by omega) (by omega) (by omega) (by omega)
    rw [c3, c1, vt]
  rw [hall] at hiff
  exact of_decide_eq_true hiff.symm
structure OkG (rows : List (List Int)) : Prop where
 shape : zbs rows = true
 many : (zby rows).length ≤ 9
 conv : ConvG rows
theorem OkG.plan {rows : List (List Int)} (h : OkG rows) : planF rows = (zbt (canon rows), true) := by
 have h9 : (zaz rows).length ≤ 9 := by rw [← rooms_len h.shape]; exact h.many
 rw [planF_shape h.shape, if_pos ⟨h9, (conv_sum h.shape h9).2 h.conv⟩]
theorem OkG.floor {rows : List (List Int)} (h : OkG rows) : zcr (zbt (canon rows)) = some (canon rows, zaz rows) := by
 have h9 : (zaz rows).length ≤ 9 := by rw [← rooms_len h.shape]; exact h.many
 rw [names_floor h.shape h9, if_pos ((conv_sum h.shape h9).2 h.conv)]
theorem planF_cases (rows : List (List Int)) : (OkG rows ∧ planF rows = (zbt (canon rows), true)) ∨ (¬ OkG rows ∧ planF rows = ([], false)) := by
 by_cases h : OkG rows
 ·exact .inl ⟨h, h.plan⟩
 ·refine .inr ⟨h, ?_⟩
  cases hs : zbs rows with
  | false => exact planF_noshape hs
  | true =>
   rw [planF_shape hs]
   by_cases hc : (zaz rows).length ≤ 9 ∧ zca (zaz rows) = (rows.length : Int) * (zan rows : Int)
   ·exact absurd ⟨hs, by rw [rooms_len hs]; exact hc.1, (conv_sum hs hc.1).1 hc.2⟩ h
   ·rw [if_neg hc]
theorem floor_shape {cs : List (List Int)} {rs : List Rc} (h : zcm cs rs) : zbs cs = true := (zch _).2 ⟨h.h1, h.h6, h.w1, h.w6, h.rect⟩
theorem add_inj (a : Int) (S : Int → Prop) : InjOn (fun x => a + x) S := fun x y _ _ e => by have : a + x = a + y := e; omega
theorem floor_okG {p : List ByteArray} {cs : List (List Int)} {rs : List Rc} (h : zcr p = some (cs, rs)) : OkG cs ∧ canon cs = cs ∧ rs = zaz cs ∧ p = zbt cs := by
 have F := floor_facts h
 have hs := floor_shape F.ok
 have e1 : canon cs = cs := by
  have e2 : canon (mapG (fun x => 97 + x) cs) = canon cs := canon_map (add_inj 97 _)
  rw [← F.nums, ← F.cells] at e2
  exact e2.symm
 have e2 : rs = zaz cs := by rw [F.rooms, F.nums, rooms_map hs (add_inj 97 _)]
 have h9 : (zaz cs).length ≤ 9 := by rw [← e2]; exact F.ok.many
 have hsum := floor_sum h
 rw [F.wide, F.len, e2] at hsum
 exact ⟨⟨hs, by rw [rooms_len hs]; exact h9, (conv_sum hs h9).1 hsum⟩, e1, e2, F.text⟩
def reG (X : List (List Int)) (h w : Nat) (a b : Nat → Nat → Nat) : List (List Int) := zbr h w fun r c => zbb X (a r c) (b r c)
def crossX (X : List (List Int)) : List (List Int) := reG X (zan X) X.length (fun r c => c) (fun r c => r)
theorem OkG.canon {X : List (List Int)} (h : OkG X) : OkG (canon X) := (floor_okG h.floor).1
def crossH (cs : List (List Int)) (_ : List Rc) : List (List Int) := crossX cs
theorem bt_val (p : List ByteArray) {i : Nat} {s : ByteArray} (hs : p[i]? = some s) (j : Nat) : bt s (j : Int) = zbb (zao p) i j := by
 unfold zbb zao
 rw [List.getD_eq_getElem?_getD (l := List.map _ _), List.getElem?_map, hs, ← bytesOf_get]
 rfl
theorem Evs.stepNeg {α : Type} {c : Prop} {inst : Decidable c} {a h g : Nat → Option α} {r : α} (e : ∀ k, g (k + 1) = @ite _ c inst (a k) (h k)) (hc : ¬ c) (hh : Evs h r) : Evs g r := Evs.step (fun k => (e k).trans (if_neg hc)) hh
theorem Evs.stepPos {α : Type} {c : Prop} {inst : Decidable c} {a h g : Nat → Option α} {r : α} (e : ∀ k, g (k + 1) = @ite _ c inst (a k) (h k)) (hc : c) (hh : Evs a r) : Evs g r := Evs.step (fun k => (e k).trans (if_pos hc)) hh
theorem foldP_length (xs : List Int) : (foldP xs).length ≤ xs.length := by
 rw [← compact_fold]
 exact compact_le xs
theorem PlanFacts.byte {p : List ByteArray} {cs : List (List Int)} {rs : List Rc} (F : PlanFacts p cs rs) (r c : Nat) (hr : r < cs.length) (hc : c < zan cs) :
  bt (rdOf ByteArray.empty p (r : Int)) (c : Int) = 97 + zbb cs r c ∧ (rdOf ByteArray.empty p (r : Int)).size = zan cs := by
 have hrl : r < p.length := by rw [F.len]; exact hr
 have hs : p[r]? = some p[r] := List.getElem?_eq_getElem hrl
 refine ⟨?_, ?_⟩
 ·rw [zci hs, bt_val p hs c, F.nums]
  exact valAt_map F.ok.rect _ hr hc
 ·rw [zci hs]
  exact F.mid.row _ (List.getElem_mem _)
def sideL (cs : List (List Int)) (side : Int) : List Int :=
 if side = 0 then (List.range (zan cs)).map (fun c => zbb cs 0 c)
 else if side = 1 then (List.range cs.length).map (fun r => zbb cs r (zan cs - 1))
 else if side = 2 then (List.range (zan cs)).map (fun c => zbb cs (cs.length - 1) c)
 else (List.range cs.length).map (fun r => zbb cs r 0)
def nearOutF (p : List ByteArray) (side : Int) : List Int × Bool := match zcr p with
 | none => ([], false)
 | some (cs, rs) => if 0 ≤ side ∧ side ≤ 3 then (foldP (sideL cs side), true) else ([], false)
set_option maxHeartbeats 2000000 in
set_option maxRecDepth 100000 in
theorem clone_calls (A : Option Addr) (c : Nat) (xs : List Int) (w : World) (hC : (Kd.int .i64).C w A xs.length xs) (h0 : 0 < xs.length) (h6 : xs.length ≤ 1048576) :
  Calls Try.prog 54 #[.slice A xs.length c] w fun e w' => ∃ v', e = .returned v' ∧ Kd.R (Kd.int .i64) 3 w' w.heap.size (fun _ => True) v' xs ∧ Below w.heap.size w w' := by
 obtain ⟨ad, rfl, -⟩ := hC.2.2 h0
 have i3 : (Try.prog.info? 3).map (fun i => (i.zero, i.size, i.bytes)) = some (some (.int .i64 0), 1, 8) := by kernel_rfl
 obtain ⟨i0, hi, hzz⟩ := Option.map_eq_some_iff.1 i3
 simp only [Prod.mk.injEq] at hzz
 obtain ⟨hz0, hz1, hz2⟩ := hzz
 have HC := zaa.mk hC
 have H6 := zaa.mk h6
 have H0 := zaa.mk h0
 have HI := zaa.mk hi
 have HZ0 := zaa.mk hz0
 have HZ1 := zaa.mk hz1
 have HZ2 := zaa.mk hz2
 clear hC h6 h0 i3 hi hz0 hz1 hz2
 have q22 : ∀ (w : World) (a : Option Addr) (n c n' c' : Nat), (binOp .eql 24 (.slice a n c) (.slice none n' c')).run Try.prog w = .ok (.bool a.isNone) w := fun w a n c n' c' => Lib.run_eql_slice_nil w _ _ a n c n' c' Try.underlying24
 go_enter Try.func54, Try.ntmps54
 go_wp2_with (at_builtin; refine wpList_append_own _ rfl _ _ 24 rfl w.heap.size 3 i0 (.int .i64 0) 1 8 Try.underlying24 HI.out HZ0.out HZ1.out HZ2.out rfl (by decide) _ _ _ rfl (World.ownsRow_made w #[] 0 (Nat.le_refl _) (Nat.zero_le _) rfl) ad xs.length c (encs (Value.int .i64) xs) rfl ?qc1 ?qc2 ?qc3 ?qc4 ?qc5 ?qc6 ?_)
 case qc1 => rw [encs_length, Nat.mul_one]
 case qc2 =>
  intro j u hj
  have hjn : j < xs.length := by
   have := (List.getElem?_eq_some_iff.1 hj).1
   rwa [encs_length] at this
  obtain ⟨ad', e1, hx⟩ := C_int_cell HC.out j hjn
  cases e1
  refine Lib.cell?_alloc_some _ ?_
  rw [hx]
  have e2 : (encs (Value.int .i64) xs)[j]? = some (Value.int .i64 (rd xs (j : Int))) := by
   unfold rd
   simp [encs, List.getD, hjn, List.getElem?_eq_getElem hjn]
  rw [e2] at hj
  exact hj
 case qc3 => intro u hu; obtain ⟨x, _, rfl⟩ := List.mem_map.1 hu; rfl
 case qc4 => have := H6.out; unfold maxLen; omega
 case qc5 => have := H6.out; omega
 case qc6 => simp
 intro v' w1 hown hgrow hnil
 have HO := zaa.mk hown
 have HG := zaa.mk hgrow
 clear hown hgrow hnil
 go_wp2
 go_ret
 refine ⟨v', rfl, Kd.R_of_own (by simpa using HO.out) (fun _ _ => trivial), ?_⟩
 exact ((Below.refl _ w).alloc (Nat.le_refl _) _).grown HG.out (by simp) (by intro k hk; simp [Value.ownBlock] at hk; omega)
set_option maxHeartbeats 4000000 in
set_option maxRecDepth 100000 in
theorem cross1_read (w : World) (p1 g : Nat) (cs : List (List Int)) (rs : List Rc) (hk : zcm cs rs) (hf : zce w g cs rs) (hp1 : w.cell? ⟨p1, 0, none⟩ = some (.pointer (some ⟨g, 0, none⟩))) :
  ReadFn Try.prog 93 #[.pointer (some ⟨p1, 0, none⟩)] w (zan cs) cs.length (fun r c => zbb cs c r) := by
 intro W r c hr hc hS
 show Calls Try.prog _ _ _ fun e W' => e = .returned (.int .i64 (zbb cs c r)) ∧ Below W.heap.size W W'
 replace hf := hf.sees hS
 replace hp1 := hS.cell hp1
 have hh1 := hk.h6
 have hw6 := hk.w6
 have HF := zaa.mk hf
 have H1 := zaa.mk (high_f cs rs)
 have W1 := zaa.mk (wide_f hk)
 have r0 : (0 : Int) ≤ r := by omega
 have c0 : (0 : Int) ≤ c := by omega
 obtain ⟨ad, q0, ad2, q2, x1, x2, x3⟩ := hf.cell hk c r hc hr
 have c1 : (c : Int) < cs.length := by omega
 have r1 : (r : Int) < zan cs := by omega
 have HG := zaa.mk (show zbb cs c r = zbb cs c r from rfl)
 generalize zbb cs c r = x at *
 clear hk hf hS hr hc
 show Calls Try.prog _ #[.int .i64 (r : Int), .int .i64 (c : Int), .pointer (some ⟨p1, 0, none⟩)] _ _
 go_enter Try.func93, Try.ntmps93
 go_wp2
 go_ret
 exact ⟨rfl, Below.refl _ _⟩
set_option maxHeartbeats 4000000 in
set_option maxRecDepth 100000 in
theorem cross_fn (w : World) : HowFn Try.prog 50 #[] w crossH := by
 intro W g cs rs hk hf hS
 have HK := zaa.mk hk
 have HF := zaa.mk hf
 have H1 := zaa.mk (high_f cs rs)
 have W1 := zaa.mk (wide_f hk)
 have a1 := hk.h6
 have a3 := hk.w6
 clear hk hf hS
 show Calls Try.prog _ #[.pointer (some ⟨g, 0, none⟩)] _ _
 go_enter Try.func50, Try.ntmps50
 go_upto_region 1 with (first
  | ((with_reducible refine zba (N := 1) rfl ?_); refine zbz ?hg (N := 1) ?hd (cs := #[.pointer (some ⟨g, 0, none⟩)]) (t := 52) ?hr ?_; (case hd => rfl); (case hg => rfl); (case hr => first | (go_simp; done) | (go_simp; rfl)); intro p1 hq1 w1 hbox hb; have HB1 := zaa.mk hb; have hp1 : w1.cell? ⟨p1, 0, none⟩ = some (.pointer (some ⟨g, 0, none⟩)) := box_cell hbox; have HF1 := zaa.mk (HF.out.below hb); clear hb hbox hq1))
 refine start_ (n := 7) (S := fun w' => (w'.cell? ⟨p1, 0, none⟩ = some (.pointer (some ⟨g, 0, none⟩))) ∧ (zce w' g cs rs) ∧ (Below W.heap.size W w')) (ds := []) #[false, false, false, false, false, false, false] (by kernel_rfl) rfl rfl (⟨hp1, HF1.out, ⟨HB1.out.os, HB1.out.tape, HB1.out.output, HB1.out.size, HB1.out.block⟩⟩) (fun hHeld => ?_)
 clear hp1
 refine take_ (i := 0) (N := some 3) (v := ?_) (a' := ?_) #[true, false, false, false, false, false, false] rfl rfl (by kernel_rfl) (fun _ _ _ h => h) (Or.inl ⟨by rfl, ?_⟩) hHeld ?_ ?_
 rotate_left
 ·rintro w' ⟨s0, s1, s2⟩
  go_simp
  with_reducible rfl
 rotate_left
 ·simp only [Act.put, List.setIfInBounds_toArray, List.set_cons_zero, List.set_cons_succ, zat, zav]
  rfl
 refine take_ (i := 2) (N := some 5) (v := ?_) (a' := ?_) #[true, false, true, false, false, false, false] rfl rfl (by kernel_rfl) (fun _ _ _ h => h) (Or.inl ⟨by rfl, ?_⟩) hHeld ?_ ?_
 rotate_left
 ·rintro w' ⟨s0, s1, s2⟩
  go_simp
  with_reducible rfl
 rotate_left
 ·simp only [Act.put, List.setIfInBounds_toArray, List.set_cons_zero, List.set_cons_succ, zat, zav]
  rfl
 refine zbd (i := 4) (N := some 7) (v := ?_) (a' := ?_) #[true, false, true, false, true, false, false] rfl rfl (by kernel_rfl) (fun _ _ _ h => h) (Or.inl ⟨by rfl, ?_⟩) ?_ ?_
 rotate_left
 ·intro w'
  go_simp
  with_reducible rfl
 rotate_left
 ·simp only [Act.put, List.setIfInBounds_toArray, List.set_cons_zero, List.set_cons_succ, zat, zav]
  rfl
 refine one_ (i := 1) (N := some 4) #[true, true, true, false, true, false, false] rfl rfl (by kernel_rfl) (by decide) (fun K hK => ?_)
 refine goes_ Try.func51 (by kernel_rfl) rfl #[.pointer (some ⟨g, 0, none⟩)] (by rfl) rfl rfl (by (try simp only [List.map_toArray, List.map_cons, List.map_nil]); first | done | rfl) ?_
 have hs_ := hHeld
 obtain ⟨s0, s1, s2⟩ := hs_
 refine (impl_floor_wide.calls g cs rs _ _ _ s1 (Below.refl _ _) W1.out).mono ?_
 rintro e w16 ⟨rfl, -, hb, -⟩
 refine ⟨_, rfl, ?_⟩
 refine hK.out _ _ ⟨zae hb s0, zce.below s1 hb, zah s2 hb⟩ (fun hHeld => ?_)
 clear hK K hb s0 s1 s2
 refine norm_ (a' := ?_) ?_ ?_
 rotate_left
 ·show Act.put _ (some 4) _ = _
  simp only [Act.put, List.setIfInBounds_toArray, List.set_cons_zero, List.set_cons_succ, zat, zav]
  rfl
 refine one_ (i := 3) (N := some 6) #[true, true, true, true, true, false, false] rfl rfl (by kernel_rfl) (by decide) (fun K hK => ?_)
 refine goes_ Try.func52 (by kernel_rfl) rfl #[.pointer (some ⟨g, 0, none⟩)] (by rfl) rfl rfl (by (try simp only [List.map_toArray, List.map_cons, List.map_nil]); first | done | rfl) ?_
 have hs_ := hHeld
 obtain ⟨s0, s1, s2⟩ := hs_
 refine (impl_floor_high.calls g cs rs _ _ _ s1 (Below.refl _ _) H1.out).mono ?_
 rintro e w17 ⟨rfl, -, hb, -⟩
 refine ⟨_, rfl, ?_⟩
 refine hK.out _ _ ⟨zae hb s0, zce.below s1 hb, zah s2 hb⟩ (fun hHeld => ?_)
 clear hK K hb s0 s1 s2
 refine norm_ (a' := ?_) ?_ ?_
 rotate_left
 ·show Act.put _ (some 6) _ = _
  simp only [Act.put, List.setIfInBounds_toArray, List.set_cons_zero, List.set_cons_succ, zat, zav]
  rfl
 refine one_ (i := 5) (N := some 8) #[true, true, true, true, true, true, false] rfl rfl (by kernel_rfl) (by decide) (fun K hK => ?_)
 refine goes_ Try.func75 (by kernel_rfl) rfl #[.int .i64 (zan cs : Int), .int .i64 (cs.length : Int), .func (.func 93) #[] #[.pointer (some ⟨p1, 0, none⟩)]] (by rfl) rfl rfl (by (try simp only [List.map_toArray, List.map_cons, List.map_nil]); first | done | rfl) ?_
 have hs_ := hHeld
 obtain ⟨s0, s1, s2⟩ := hs_
 refine (blank_reads 93 Try.f93 Try.func93 (by kernel_rfl) rfl _ (zan cs) cs.length _ _ (cross1_read _ p1 g cs rs HK.out s1 s0) (by omega) (by omega)).mono ?_
 rintro e w14 ⟨A14, c14, rfl, hl14, hC14, hb⟩
 have HC14 := zaa.mk hC14
 have HL14 := zaa.mk hl14
 have HB14 := zaa.mk (zah s2 hb)
 clear hC14 hl14
 refine ⟨_, rfl, ?_⟩
 refine hK.out _ _ ⟨zae hb s0, zce.below s1 hb, zah s2 hb⟩ (fun hHeld => ?_)
 clear hK K hb s0 s1 s2
 refine norm_ (a' := ?_) ?_ ?_
 rotate_left
 ·show Act.put _ (some 8) _ = _
  simp only [Act.put, List.setIfInBounds_toArray, List.set_cons_zero, List.set_cons_succ, zat, zav]
  rfl
 refine zbd (i := 6) (N := some 2) (v := ?_) (a' := ?_) #[true, true, true, true, true, true, true] rfl rfl (by kernel_rfl) (fun _ _ _ h => h) (Or.inl ⟨by rfl, ?_⟩) ?_ ?_
 rotate_left
 ·intro w'
  go_simp
  with_reducible rfl
 rotate_left
 ·simp only [Act.put, List.setIfInBounds_toArray, List.set_cons_zero, List.set_cons_succ, zat, zav]
  rfl
 refine done_ (by kernel_rfl) ?_
 go_wp2
 go_ret
 exact ⟨A14, c14, rfl, HL14.out, HC14.out, HB14.out⟩
theorem crossed_calls (g : Nat) (cs : List (List Int)) (rs : List Rc) (W : World) (hk : zcm cs rs) (hf : zce W g cs rs) :
  Calls Try.prog 50 #[.pointer (some ⟨g, 0, none⟩)] W (GridRes W (crossH cs rs)) := cross_fn W W g cs rs hk hf (Sees.refl _)
section
variable {P : Program} {ops : Array Oper} {Q : Exit → Act → World → Prop} {md : Region.Mode} {S S' : World → Prop} {ds : List Nat}
def onlyLast (md : Region.Mode) (ops : Array Oper) (ds : List Nat) : Bool :=
 ds.all fun d => match ops[d]? with
  | some o => (List.range ops.size).all fun j => j == d || o.after.any fun e => Region.binds md e && e.on == j
  | none => true
theorem onlyLast_ready {listed : Array Bool} {d : Nat} (h : onlyLast md ops ds = true) (hd : d ∈ ds) (hr : d ∈ Region.ready md ops listed) : Region.ready md ops (listed.setIfInBounds d true) = [] := by
 apply List.eq_nil_iff_forall_not_mem.2
 intro k hk
 obtain ⟨hun, ok, hok, -⟩ := mem_ready.1 hk
 obtain ⟨-, o, ho, hall⟩ := mem_ready.1 hr
 have h1 := List.all_eq_true.1 h d hd
 rw [ho] at h1
 have hks : k < ops.size := (Array.getElem?_eq_some_iff.1 hok).1
 have h2 := List.all_eq_true.1 h1 k (List.mem_range.2 hks)
 by_cases e : d = k
 ·subst e
  rcases Nat.lt_or_ge d listed.size with h' | h'
  ·simp [h'] at hun
  ·rw [Array.getD_eq_getD_getElem?, Array.getElem?_eq_none (by simpa using h')] at hun
   cases hun
 ·rw [Bool.or_eq_true] at h2
  rcases h2 with h2 | h2
  ·exact e (by simpa using Eq.symm (by simpa using h2))
  ·obtain ⟨ed, he, h3⟩ := Array.any_eq_true'.1 h2
   rw [Bool.and_eq_true, beq_iff_eq] at h3
   have h4 := hall ed he h3.1
   rw [h3.2] at h4
   rw [getD_set_ne true e] at hun
   rcases Nat.lt_or_ge k listed.size with h' | h'
   ·simp [h'] at hun h4
    rw [hun] at h4
    cases h4
   ·simp [Array.getElem?_eq_none h'] at hun
theorem turn_ (hl : onlyLast md ops ds = true) (h : ∀ v, S' v → S v) : ∀ (fuel : Nat) (listed : Array Bool) (a : Act) (w : World), S' w → zbe P md ops Q S' ds fuel listed a w → zbe P md ops Q S ds fuel listed a w
 | 0, _, _, _, _, H => H
 | fuel + 1, listed, a, w, hw, H => ⟨H.1, fun i hi => wpOp_mono (fun a' w' hh => by
  by_cases hd : i ∈ ds
  ·refine ⟨fun z => absurd hd z, ?_⟩
   have hr := onlyLast_ready hl hd hi
   have h2 := hh.2
   cases fuel with
   | zero => exact h2
   | succ n => exact wpAnyLast_done hr (h2.1 hr) (n + 1)
  ·have hs := hh.1 hd hw
   exact ⟨fun _ _ => h _ hs, turn_ hl h fuel _ a' w' hs hh.2⟩) (H.2 i hi)⟩
theorem turnB_ {W w : World} {fuel : Nat} {l : Array Bool} {a : Act} (hl : onlyLast md ops ds = true) (h : Below W.heap.size W w) (hk : zbe P md ops Q (fun v => Below w.heap.size w v) ds fuel l a w) : zbe P md ops Q (fun v => Below W.heap.size W v) ds fuel l a w :=
 turn_ hl (fun v hv => zah h hv) fuel l a w (Below.refl _ _) hk
theorem joinB_ {σ : Type} {fuel : Nat} {l : Array Bool} {a : Act} {w : World} (fuel' : Nat) (l' : Array Bool) (ns : σ → List (Tmp × Value)) (F : σ → World → Prop)
  (hcont : ∀ s w', F s w' → zbe P md ops Q (fun v => Below w'.heap.size w' v) ds fuel' l' (putAll a (ns s)) w')
  (h : zaa (∀ s w', F s w' → zbe P md ops Q (fun v => Below w'.heap.size w' v) ds fuel' l' (putAll a (ns s)) w') → zbe P md ops Q S ds fuel l a w) : zbe P md ops Q S ds fuel l a w := h ⟨hcont⟩
end
theorem valO_step {P : Program} {ops : Array Oper} {o : Oper} {a : Act} {Q : Exit → Act → World → Prop} {Kc : Act → World → Prop} {N : Option Tmp} {W w1 : World} {v : Value} (hw : Region.wanted o (yielded ops a.tmps) = true) (hrun : (execOp a.eval o).run P W = .ok (.value v) w1) (h : Kc (a.put o.dst v) w1) : if Region.wanted o (yielded ops a.tmps) = true then Oper.wp P o a W Kc Q else Kc (a.put N undef) W := by
 rw [if_pos hw]
 unfold Oper.wp
 rw [hrun, Oper.upon_value]
 exact h
def OutF (w8 : World) (s0 s1 s2 s3 : List Int) (s : List Value) (w' : World) : Prop :=
 ∃ (b : Nat) (A0 A1 A2 A3 : Option Addr) (c0 c1 c2 c3 : Nat), s.getD 13 undef = .pointer (some ⟨b, 0, none⟩) ∧ s.getD 12 undef = .agg #[.slice A0 s0.length c0, .slice A1 s1.length c1, .slice A2 s2.length c2, .slice A3 s3.length c3] ∧
  w'.heap[b]? = some (.cells #[.slice none 0 0, .slice none 0 0, .slice none 0 0, .slice none 0 0] 61 (0, 0)) ∧ w8.heap.size ≤ b ∧
  (Kd.int .i64).C w' A0 s0.length s0 ∧ (Kd.int .i64).C w' A1 s1.length s1 ∧ (Kd.int .i64).C w' A2 s2.length s2 ∧ (Kd.int .i64).C w' A3 s3.length s3 ∧ Below w8.heap.size w8 w'
theorem ne_of_int {w : World} {b : Nat} {t : TypeId} (h : w.heap[b]? = some (.cells #[.slice none 0 0, .slice none 0 0, .slice none 0 0, .slice none 0 0] t (0, 0))) {A : Option Addr} {n : Nat} {xs : List Int} (hC : (Kd.int .i64).C w A n xs) : ∀ ad, A = some ad → 0 < n → ad.block ≠ b := by
 intro ad hA hn e
 obtain ⟨ad', e1, hx⟩ := C_int_cell hC 0 hn
 rw [hA] at e1
 cases e1
 rw [Addr.add_zero'] at hx
 subst e
 unfold World.cell? at hx
 rw [h] at hx
 dsimp only at hx
 split at hx
 ·cases hx
 ·rcases hq : ad.off with _ | _ | _ | _ | n <;> rw [hq] at hx <;> simp at hx
theorem C_keep_ne {w W : World} {b : Nat} {t : TypeId} (h : w.heap[b]? = some (.cells #[.slice none 0 0, .slice none 0 0, .slice none 0 0, .slice none 0 0] t (0, 0))) {A : Option Addr} {n : Nat} {xs : List Int} (hC : (Kd.int .i64).C w A n xs) (hk : zaf w W b none) : (Kd.int .i64).C W A n xs :=
 Kd.C_keep (0 : Int) hC hk (ne_of_int h hC)
theorem set_four {w : World} {b : Nat} {t : TypeId} {x0 x1 x2 x3 : Value} (h : w.heap[b]? = some (.cells #[x0, x1, x2, x3] t (0, 0))) (v0 v1 v2 v3 : Value) :
  ((((w.setCell ⟨b, 0, none⟩ v0).setCell ⟨b, 1, none⟩ v1).setCell ⟨b, 2, none⟩ v2).setCell ⟨b, 3, none⟩ v3).heap[b]? = some (.cells #[v0, v1, v2, v3] t (0, 0)) := by
 simp only [World.setCell, Array.getElem?_modify, if_true, h, Option.map_some]
 simp
theorem side_rows {cs : List (List Int)} {rs : List Rc} (h : zcm cs rs) : cs[0]? = some (sideL cs 0) ∧ cs[cs.length - 1]? = some (sideL cs 2) ∧ (crossH cs rs)[zan cs - 1]? = some (sideL cs 1) ∧ (crossH cs rs)[0]? = some (sideL cs 3) := by
 have h1 := h.h1
 have w1 := h.w1
 have row : ∀ r, r < cs.length → cs[r]? = some ((List.range (zan cs)).map fun c => zbb cs r c) := fun r hr => by
  have e := rect_eq h.rect
  have := gridOf_get (g := zbb cs) (wi := zan cs) hr
  rw [← e] at this
  exact this
 refine ⟨row 0 (by omega), row _ (by omega), ?_, ?_⟩
 ·exact gridOf_get (by omega)
 ·exact gridOf_get (by omega)
set_option maxHeartbeats 4000000 in
set_option maxRecDepth 100000 in
theorem implOut_in (A0 : Option Addr) (c0 : Nat) (l0 : List ByteArray) (sd : Int) (w : World) (hr0 : Kd.C Kd.string w A0 l0.length l0) (hc0 : l0.length ≤ c0) (hp : smallP l0) (cs : List (List Int)) (rs : List Rc) (hF : zcr l0 = some (cs, rs)) (y0 : 0 ≤ sd) (y3 : sd ≤ 3) :
  Calls Try.prog 15 #[.slice A0 l0.length c0, .int .i64 sd] w fun e w' => ∃ v0_ : Value, e = .returned (.tuple #[v0_, .bool true]) ∧ Kd.R (Kd.int .i64) 3 w' w.heap.size (fun _ => True) v0_ (foldP (sideL cs sd)) ∧ Below w.heap.size w w' := by
 have HR := zaa.mk hr0
 have HC := zaa.mk hc0
 have HP := zaa.mk hp
 have HFf := zaa.mk hF
 have hk := floorF_ok hF
 have HK := zaa.mk hk
 have H1 := zaa.mk (high_f cs rs)
 have W1 := zaa.mk (wide_f hk)
 have k1 := hk.h1
 have k2 := hk.w1
 have k3 := hk.h6
 have k4 := hk.w6
 obtain ⟨r0, r2, r1, r3⟩ := side_rows hk
 have hX : (crossH cs rs).length = zan cs := zbo _ _ _
 obtain ⟨zw, hzw⟩ : ∃ zw, zw + 1 = zan cs := ⟨zan cs - 1, by omega⟩
 obtain ⟨zh, hzh⟩ : ∃ zh, zh + 1 = cs.length := ⟨cs.length - 1, by omega⟩
 rw [show zan cs - 1 = zw by omega] at r1
 rw [show cs.length - 1 = zh by omega] at r2
 have z0 : (0 : Int) ≤ (zw : Int) := by omega
 have z1 : (zw : Int) < ((crossH cs rs).length : Int) := by omega
 have z2 : (0 : Int) ≤ (zh : Int) := by omega
 have z3 : (zh : Int) < (cs.length : Int) := by omega
 have z4 : (0 : Int) < ((crossH cs rs).length : Int) := by omega
 have z5 : (0 : Int) < (cs.length : Int) := by omega
 have z6 : 0 < cs.length := by omega
 have z7 : 0 < (crossH cs rs).length := by omega
 have wz1 : wrap64 ((zan cs : Int) - 1) = (zw : Int) := by rw [zar (by omega) (by omega)]; omega
 have wz2 : IntKind.i64.wrap ((zan cs : Int) - 1) = (zw : Int) := by rw [zat]; exact wz1
 have wz3 : wrap64 ((cs.length : Int) - 1) = (zh : Int) := by rw [zar (by omega) (by omega)]; omega
 have wz4 : IntKind.i64.wrap ((cs.length : Int) - 1) = (zh : Int) := by rw [zat]; exact wz3
 have HZ := zaa.mk (show 0 < (sideL cs 0).length ∧ 0 < (sideL cs 1).length ∧ 0 < (sideL cs 2).length ∧ 0 < (sideL cs 3).length by simp [sideL]; omega)
 obtain ⟨s0, e0⟩ : ∃ s0, s0 = sideL cs 0 := ⟨_, rfl⟩
 obtain ⟨s1, e1⟩ : ∃ s1, s1 = sideL cs 1 := ⟨_, rfl⟩
 obtain ⟨s2, e2⟩ : ∃ s2, s2 = sideL cs 2 := ⟨_, rfl⟩
 obtain ⟨s3, e3⟩ : ∃ s3, s3 = sideL cs 3 := ⟨_, rfl⟩
 rw [← e0] at r0
 rw [← e1] at r1
 rw [← e2] at r2
 rw [← e3] at r3
 have E0 := zaa.mk e0
 have E1 := zaa.mk e1
 have E2 := zaa.mk e2
 have E3 := zaa.mk e3
 have HX1 := zaa.mk r1
 have HX3 := zaa.mk r3
 have HX0 := zaa.mk r0
 have HX2 := zaa.mk r2
 clear hr0 hc0 hp hF hk e0 e1 e2 e3 r0 r1 r2 r3 hX hzw hzh
 go_enter Try.func15, Try.ntmps15
 go_upto_region 4 with (first
  | (go_at_call 49; refine (floorOf_calls A0 c0 l0 _ HR.out HC.out HP.out).mono ?_; rw [HFf.out]; rintro e w8 ⟨hb8, v8, b8, rfl, rfl, g, rfl, hfl⟩; have HB8 := zaa.mk hb8; have HFl8 := zaa.mk hfl; clear hb8 hfl))
 obtain ⟨Ag, cg, Ag1, cg1, hg1, hg2, hg3, hg4⟩ := HFl8.out
 obtain ⟨ad, P0, u0, eg, y0', hu0, hr0⟩ := C_row hg3 0 s0 HX0.out
 obtain ⟨ad', PH, uH, eg', yH, huH, hrH⟩ := C_row hg3 zh s2 HX2.out
 subst eg
 cases eg'
 have YG := zaa.mk ((cell_of_row w8 g 0 _ _ _ hg1).trans rfl)
 rw [Addr.add_zero'] at y0'
 have Y0 := zaa.mk y0'
 have YH := zaa.mk yH
 have HR0 := zaa.mk hr0
 have HR2 := zaa.mk hrH
 have HF := zaa.mk HFl8.out
 have HB := zaa.mk (Below.refl w8.heap.size w8)
 clear hg1 hg2 hg3 hg4 y0' yH hr0 hrH hu0 huH
 refine start_ (n := 29) (S := fun w' => Below w8.drew.heap.size w8.drew w') (ds := [28]) #[false, false, false, false, false, false, false, false, false, false, false, false, false, false, false, false, false, false, false, false, false, false, false, false, false, false, false, false, false] (by kernel_rfl) rfl rfl (Below.refl _ _) (fun hHeld => ?_)
 have hb : Below w8.heap.size w8 w8.drew := below_drew (Below.refl _ _)
 have n_ := zaa.mk (HF.out.below hb); clear HF; have HF := n_; clear n_
 have n_ := zaa.mk (zah HB.out hb); clear HB; have HB := n_; clear n_
 have n_ := zaa.mk (Kd.C_below HR0.out hb); clear HR0; have HR0 := n_; clear n_
 have n_ := zaa.mk (Kd.C_below HR2.out hb); clear HR2; have HR2 := n_; clear n_
 have n_ := zaa.mk (zae hb Y0.out); clear Y0; have Y0 := n_; clear n_
 have n_ := zaa.mk (zae hb YH.out); clear YH; have YH := n_; clear n_
 have n_ := zaa.mk (zae hb YG.out); clear YG; have YG := n_; clear n_
 clear hb
 generalize w8.drew = wd at *
 refine zbd (i := 0) (N := some 24) (v := ?_) (a' := ?_) #[true, false, false, false, false, false, false, false, false, false, false, false, false, false, false, false, false, false, false, false, false, false, false, false, false, false, false, false, false] rfl rfl (by kernel_rfl) (fun _ _ _ h => h) (Or.inl ⟨by rfl, ?_⟩) ?_ ?_
 rotate_left
 ·intro w'
  go_simp
  with_reducible rfl
 rotate_left
 ·simp only [Act.put, List.setIfInBounds_toArray, List.set_cons_zero, List.set_cons_succ, zat, zav]
  rfl
 refine zbd (i := 6) (N := some 30) (v := ?_) (a' := ?_) #[true, false, false, false, false, false, true, false, false, false, false, false, false, false, false, false, false, false, false, false, false, false, false, false, false, false, false, false, false] rfl rfl (by kernel_rfl) (fun _ _ _ h => h) (Or.inl ⟨by rfl, ?_⟩) ?_ ?_
 rotate_left
 ·intro w'
  go_simp
  with_reducible rfl
 rotate_left
 ·simp only [Act.put, List.setIfInBounds_toArray, List.set_cons_zero, List.set_cons_succ, zat, zav]
  rfl
 refine zbd (i := 8) (N := some 32) (v := ?_) (a' := ?_) #[true, false, false, false, false, false, true, false, true, false, false, false, false, false, false, false, false, false, false, false, false, false, false, false, false, false, false, false, false] rfl rfl (by kernel_rfl) (fun _ _ _ h => h) (Or.inl ⟨by rfl, ?_⟩) ?_ ?_
 rotate_left
 ·intro w'
  go_simp
  with_reducible rfl
 rotate_left
 ·simp only [Act.put, List.setIfInBounds_toArray, List.set_cons_zero, List.set_cons_succ, zat, zav]
  rfl
 refine zbd (i := 13) (N := some 37) (v := ?_) (a' := ?_) #[true, false, false, false, false, false, true, false, true, false, false, false, false, true, false, false, false, false, false, false, false, false, false, false, false, false, false, false, false] rfl rfl (by kernel_rfl) (fun _ _ _ h => h) (Or.inl ⟨by rfl, ?_⟩) ?_ ?_
 rotate_left
 ·intro w'
  go_simp
  with_reducible rfl
 rotate_left
 ·simp only [Act.put, List.setIfInBounds_toArray, List.set_cons_zero, List.set_cons_succ, zat, zav]
  rfl
 refine zbd (i := 17) (N := some 41) (v := ?_) (a' := ?_) #[true, false, false, false, false, false, true, false, true, false, false, false, false, true, false, false, false, true, false, false, false, false, false, false, false, false, false, false, false] rfl rfl (by kernel_rfl) (fun _ _ _ h => h) (Or.inl ⟨by rfl, ?_⟩) ?_ ?_
 rotate_left
 ·intro w'
  go_simp
  with_reducible rfl
 rotate_left
 ·simp only [Act.put, List.setIfInBounds_toArray, List.set_cons_zero, List.set_cons_succ, zat, zav]
  rfl
 refine zbd (i := 22) (N := some 46) (v := ?_) (a' := ?_) #[true, false, false, false, false, false, true, false, true, false, false, false, false, true, false, false, false, true, false, false, false, false, true, false, false, false, false, false, false] rfl rfl (by kernel_rfl) (fun _ _ _ h => h) (Or.inl ⟨by rfl, ?_⟩) ?_ ?_
 rotate_left
 ·intro w'
  go_simp
  with_reducible rfl
 rotate_left
 ·simp only [Act.put, List.setIfInBounds_toArray, List.set_cons_zero, List.set_cons_succ, zat, zav]
  rfl
 refine zbd (i := 1) (N := some 25) (v := ?_) (a' := ?_) #[true, true, false, false, false, false, true, false, true, false, false, false, false, true, false, false, false, true, false, false, false, false, true, false, false, false, false, false, false] rfl rfl (by kernel_rfl) (fun _ _ _ h => h) (Or.inl ⟨by rfl, ?_⟩) ?_ ?_
 rotate_left
 ·intro w'
  go_simp
  with_reducible rfl
 rotate_left
 ·simp only [Act.put, List.setIfInBounds_toArray, List.set_cons_zero, List.set_cons_succ, zat, zav]
  rfl
 refine zbd (i := 2) (N := some 26) (v := ?_) (a' := ?_) #[true, true, true, false, false, false, true, false, true, false, false, false, false, true, false, false, false, true, false, false, false, false, true, false, false, false, false, false, false] rfl rfl (by kernel_rfl) (fun _ _ _ h => h) (Or.inl ⟨by rfl, ?_⟩) ?_ ?_
 rotate_left
 ·intro w'
  go_simp
  with_reducible rfl
 rotate_left
 ·simp only [Act.put, List.setIfInBounds_toArray, List.set_cons_zero, List.set_cons_succ, zat, zav]
  rfl
 refine zbd (i := 14) (N := some 38) (v := ?_) (a' := ?_) #[true, true, true, false, false, false, true, false, true, false, false, false, false, true, true, false, false, true, false, false, false, false, true, false, false, false, false, false, false] rfl rfl (by kernel_rfl) (fun _ _ _ h => h) (Or.inl ⟨by rfl, ?_⟩) ?_ ?_
 rotate_left
 ·intro w'
  go_simp
  with_reducible rfl
 rotate_left
 ·simp only [Act.put, List.setIfInBounds_toArray, List.set_cons_zero, List.set_cons_succ, zat, zav]
  rfl
 refine zbd (i := 15) (N := some 39) (v := ?_) (a' := ?_) #[true, true, true, false, false, false, true, false, true, false, false, false, false, true, true, true, false, true, false, false, false, false, true, false, false, false, false, false, false] rfl rfl (by kernel_rfl) (fun _ _ _ h => h) (Or.inl ⟨by rfl, ?_⟩) ?_ ?_
 rotate_left
 ·intro w'
  go_simp
  with_reducible rfl
 rotate_left
 ·simp only [Act.put, List.setIfInBounds_toArray, List.set_cons_zero, List.set_cons_succ, zat, zav]
  rfl
 refine take_ (i := 3) (N := some 27) (v := ?_) (a' := ?_) #[true, true, true, true, false, false, true, false, true, false, false, false, false, true, true, true, false, true, false, false, false, false, true, false, false, false, false, false, false] rfl rfl (by kernel_rfl) (fun _ _ _ h => h) (Or.inl ⟨by rfl, ?_⟩) hHeld ?_ ?_
 rotate_left
 ·intro w' s0
  have s1 := zae s0 YG.out
  clear s0
  go_simp
  with_reducible rfl
 rotate_left
 ·simp only [Act.put, List.setIfInBounds_toArray, List.set_cons_zero, List.set_cons_succ, zat, zav]
  rfl
 refine zbd (i := 4) (N := some 28) (v := ?_) (a' := ?_) #[true, true, true, true, true, false, true, false, true, false, false, false, false, true, true, true, false, true, false, false, false, false, true, false, false, false, false, false, false] rfl rfl (by kernel_rfl) (fun _ _ _ h => h) (Or.inl ⟨by rfl, ?_⟩) ?_ ?_
 rotate_left
 ·intro w'
  go_simp
  with_reducible rfl
 rotate_left
 ·simp only [Act.put, List.setIfInBounds_toArray, List.set_cons_zero, List.set_cons_succ, zat, zav]
  rfl
 refine take_ (i := 5) (N := some 29) (v := ?_) (a' := ?_) #[true, true, true, true, true, true, true, false, true, false, false, false, false, true, true, true, false, true, false, false, false, false, true, false, false, false, false, false, false] rfl rfl (by kernel_rfl) (fun _ _ _ h => h) (Or.inl ⟨by rfl, ?_⟩) hHeld ?_ ?_
 rotate_left
 ·intro w' s0
  have s1 := zae s0 Y0.out
  clear s0
  go_simp
  with_reducible rfl
 rotate_left
 ·simp only [Act.put, List.setIfInBounds_toArray, List.set_cons_zero, List.set_cons_succ, zat, zav]
  rfl
 refine take_ (i := 16) (N := some 40) (v := ?_) (a' := ?_) #[true, true, true, true, true, true, true, false, true, false, false, false, false, true, true, true, true, true, false, false, false, false, true, false, false, false, false, false, false] rfl rfl (by kernel_rfl) (fun _ _ _ h => h) (Or.inl ⟨by rfl, ?_⟩) hHeld ?_ ?_
 rotate_left
 ·intro w' s0
  have s1 := zae s0 YG.out
  clear s0
  go_simp
  with_reducible rfl
 rotate_left
 ·simp only [Act.put, List.setIfInBounds_toArray, List.set_cons_zero, List.set_cons_succ, zat, zav]
  rfl
 refine joinB_ 1 #[true, true, true, true, true, true, true, true, true, true, true, true, true, true, true, true, true, true, true, true, true, true, true, true, true, true, true, true, false] (fun s : List Value => [(31, s.getD 0 undef), (33, s.getD 1 undef), (34, s.getD 2 undef), (35, s.getD 3 undef), (36, s.getD 4 undef), (42, s.getD 5 undef), (43, s.getD 6 undef), (44, s.getD 7 undef), (45, s.getD 8 undef), (47, s.getD 9 undef), (48, s.getD 10 undef), (49, s.getD 11 undef), (50, s.getD 12 undef), (8, s.getD 13 undef)]) (OutF w8 s0 s1 s2 s3) ?cont (fun HFin => ?main)
 case main =>
  refine two_ (i := 7) (j := 27) (Ni := some 31) (Nj := some 8) #[true, true, true, true, true, true, true, true, true, false, false, false, false, true, true, true, true, true, false, false, false, false, true, false, false, false, false, false, false] #[true, true, true, true, true, true, true, false, true, false, false, false, false, true, true, true, true, true, false, false, false, false, true, false, false, false, false, true, false] rfl rfl rfl rfl (by kernel_rfl) (by decide) (by decide) (fun K hK => ?_) (fun K hK => ?_)
  ·refine goes_ Try.func50 (by kernel_rfl) rfl #[.pointer (some ⟨g, 0, none⟩)] (by rfl) rfl rfl (by (try simp only [List.map_toArray, List.map_cons, List.map_nil]); first | done | rfl) ?_
   refine (crossed_calls g cs rs _ HK.out HF.out).mono ?_
   rintro e x1 ⟨A7, q7, rfl, hl, hC, hb⟩
   obtain ⟨ad7, P7, u7, ea, y7, hu, hr⟩ := C_row hC zw s1 HX1.out
   subst ea
   have Y7 := zaa.mk y7
   clear hl hC hu y7
   refine ⟨_, rfl, ?_⟩
   refine hK.out _ _ hb (fun hHeld => ?_)
   have n_ := zaa.mk (HF.out.below hb); clear HF; have HF := n_; clear n_
   have n_ := zaa.mk (zah HB.out hb); clear HB; have HB := n_; clear n_
   have n_ := zaa.mk (Kd.C_below HR0.out hb); clear HR0; have HR0 := n_; clear n_
   have n_ := zaa.mk (Kd.C_below HR2.out hb); clear HR2; have HR2 := n_; clear n_
   have n_ := zaa.mk (zae hb Y0.out); clear Y0; have Y0 := n_; clear n_
   have n_ := zaa.mk (zae hb YH.out); clear YH; have YH := n_; clear n_
   have n_ := zaa.mk (zae hb YG.out); clear YG; have YG := n_; clear n_
   clear hK K hb
   refine turnB_ (by kernel_rfl) hHeld ?_
   clear hHeld
   have HR1 := zaa.mk hr
   clear hr
   have hHeld := Below.refl x1.heap.size x1
   refine norm_ (a' := ?_) ?_ ?_
   rotate_left
   ·show Act.put _ (some 31) _ = _
    simp only [Act.put, List.setIfInBounds_toArray, List.set_cons_zero, List.set_cons_succ, zat, zav]
    rfl
   refine two_ (i := 9) (j := 27) (Ni := some 33) (Nj := some 8) #[true, true, true, true, true, true, true, true, true, true, false, false, false, true, true, true, true, true, false, false, false, false, true, false, false, false, false, false, false] #[true, true, true, true, true, true, true, true, true, false, false, false, false, true, true, true, true, true, false, false, false, false, true, false, false, false, false, true, false] rfl rfl rfl rfl (by kernel_rfl) (by decide) (by decide) (fun K hK => ?_) (fun K hK => ?_)
   ·refine goes_ Try.func51 (by kernel_rfl) rfl #[.pointer (some ⟨g, 0, none⟩)] (by rfl) rfl rfl (by (try simp only [List.map_toArray, List.map_cons, List.map_nil]); first | done | rfl) ?_
    refine (impl_floor_wide.calls g cs rs _ _ _ HF.out (Below.refl _ _) W1.out).mono ?_
    rintro e x2 ⟨rfl, -, hb, -⟩
    refine ⟨_, rfl, ?_⟩
    refine hK.out _ _ hb (fun hHeld => ?_)
    have n_ := zaa.mk (HF.out.below hb); clear HF; have HF := n_; clear n_
    have n_ := zaa.mk (zah HB.out hb); clear HB; have HB := n_; clear n_
    have n_ := zaa.mk (Kd.C_below HR0.out hb); clear HR0; have HR0 := n_; clear n_
    have n_ := zaa.mk (Kd.C_below HR2.out hb); clear HR2; have HR2 := n_; clear n_
    have n_ := zaa.mk (zae hb Y0.out); clear Y0; have Y0 := n_; clear n_
    have n_ := zaa.mk (zae hb YH.out); clear YH; have YH := n_; clear n_
    have n_ := zaa.mk (zae hb YG.out); clear YG; have YG := n_; clear n_
    have n_ := zaa.mk (Kd.C_below HR1.out hb); clear HR1; have HR1 := n_; clear n_
    have n_ := zaa.mk (zae hb Y7.out); clear Y7; have Y7 := n_; clear n_
    clear hK K hb
    refine turnB_ (by kernel_rfl) hHeld ?_
    clear hHeld
    have hHeld := Below.refl x2.heap.size x2
    refine norm_ (a' := ?_) ?_ ?_
    rotate_left
    ·show Act.put _ (some 33) _ = _
     simp only [Act.put, List.setIfInBounds_toArray, List.set_cons_zero, List.set_cons_succ, zat, zav]
     rfl
    refine zbd (i := 10) (N := some 34) (v := ?_) (a' := ?_) #[true, true, true, true, true, true, true, true, true, true, true, false, false, true, true, true, true, true, false, false, false, false, true, false, false, false, false, false, false] rfl rfl (by kernel_rfl) (fun _ _ _ h => h) (Or.inl ⟨by rfl, ?_⟩) ?_ ?_
    rotate_left
    ·intro w'
     go_simp
     with_reducible rfl
    rotate_left
    ·simp only [Act.put, List.setIfInBounds_toArray, List.set_cons_zero, List.set_cons_succ, zat, zav]
     rfl
    refine zbd (i := 11) (N := some 35) (v := ?_) (a' := ?_) #[true, true, true, true, true, true, true, true, true, true, true, true, false, true, true, true, true, true, false, false, false, false, true, false, false, false, false, false, false] rfl rfl (by kernel_rfl) (fun _ _ _ h => h) (Or.inl ⟨by rfl, ?_⟩) ?_ ?_
    rotate_left
    ·intro w'
     go_simp
     with_reducible rfl
    rotate_left
    ·simp only [Act.put, List.setIfInBounds_toArray, List.set_cons_zero, List.set_cons_succ, zat, zav]
     rfl
    refine take_ (i := 12) (N := some 36) (v := ?_) (a' := ?_) #[true, true, true, true, true, true, true, true, true, true, true, true, true, true, true, true, true, true, false, false, false, false, true, false, false, false, false, false, false] rfl rfl (by kernel_rfl) (fun _ _ _ h => h) (Or.inl ⟨by rfl, ?_⟩) hHeld ?_ ?_
    rotate_left
    ·intro w' s0
     have s1 := zae s0 Y7.out
     clear s0
     go_simp
     with_reducible rfl
    rotate_left
    ·simp only [Act.put, List.setIfInBounds_toArray, List.set_cons_zero, List.set_cons_succ, zat, zav]
     rfl
    refine two_ (i := 18) (j := 27) (Ni := some 42) (Nj := some 8) #[true, true, true, true, true, true, true, true, true, true, true, true, true, true, true, true, true, true, true, false, false, false, true, false, false, false, false, false, false] #[true, true, true, true, true, true, true, true, true, true, true, true, true, true, true, true, true, true, false, false, false, false, true, false, false, false, false, true, false] rfl rfl rfl rfl (by kernel_rfl) (by decide) (by decide) (fun K hK => ?_) (fun K hK => ?_)
    ·refine goes_ Try.func52 (by kernel_rfl) rfl #[.pointer (some ⟨g, 0, none⟩)] (by rfl) rfl rfl (by (try simp only [List.map_toArray, List.map_cons, List.map_nil]); first | done | rfl) ?_
     refine (impl_floor_high.calls g cs rs _ _ _ HF.out (Below.refl _ _) H1.out).mono ?_
     rintro e x3 ⟨rfl, -, hb, -⟩
     refine ⟨_, rfl, ?_⟩
     refine hK.out _ _ hb (fun hHeld => ?_)
     have n_ := zaa.mk (HF.out.below hb); clear HF; have HF := n_; clear n_
     have n_ := zaa.mk (zah HB.out hb); clear HB; have HB := n_; clear n_
     have n_ := zaa.mk (Kd.C_below HR0.out hb); clear HR0; have HR0 := n_; clear n_
     have n_ := zaa.mk (Kd.C_below HR2.out hb); clear HR2; have HR2 := n_; clear n_
     have n_ := zaa.mk (zae hb Y0.out); clear Y0; have Y0 := n_; clear n_
     have n_ := zaa.mk (zae hb YH.out); clear YH; have YH := n_; clear n_
     have n_ := zaa.mk (zae hb YG.out); clear YG; have YG := n_; clear n_
     have n_ := zaa.mk (Kd.C_below HR1.out hb); clear HR1; have HR1 := n_; clear n_
     have n_ := zaa.mk (zae hb Y7.out); clear Y7; have Y7 := n_; clear n_
     clear hK K hb
     refine turnB_ (by kernel_rfl) hHeld ?_
     clear hHeld
     have hHeld := Below.refl x3.heap.size x3
     refine norm_ (a' := ?_) ?_ ?_
     rotate_left
     ·show Act.put _ (some 42) _ = _
      simp only [Act.put, List.setIfInBounds_toArray, List.set_cons_zero, List.set_cons_succ, zat, zav]
      rfl
     refine zbd (i := 19) (N := some 43) (v := ?_) (a' := ?_) #[true, true, true, true, true, true, true, true, true, true, true, true, true, true, true, true, true, true, true, true, false, false, true, false, false, false, false, false, false] rfl rfl (by kernel_rfl) (fun _ _ _ h => h) (Or.inl ⟨by rfl, ?_⟩) ?_ ?_
     rotate_left
     ·intro w'
      go_simp
      with_reducible rfl
     rotate_left
     ·simp only [Act.put, List.setIfInBounds_toArray, List.set_cons_zero, List.set_cons_succ, zat, zav]
      rfl
     refine zbd (i := 20) (N := some 44) (v := ?_) (a' := ?_) #[true, true, true, true, true, true, true, true, true, true, true, true, true, true, true, true, true, true, true, true, true, false, true, false, false, false, false, false, false] rfl rfl (by kernel_rfl) (fun _ _ _ h => h) (Or.inl ⟨by rfl, ?_⟩) ?_ ?_
     rotate_left
     ·intro w'
      go_simp
      with_reducible rfl
     rotate_left
     ·simp only [Act.put, List.setIfInBounds_toArray, List.set_cons_zero, List.set_cons_succ, zat, zav]
      rfl
     refine take_ (i := 21) (N := some 45) (v := ?_) (a' := ?_) #[true, true, true, true, true, true, true, true, true, true, true, true, true, true, true, true, true, true, true, true, true, true, true, false, false, false, false, false, false] rfl rfl (by kernel_rfl) (fun _ _ _ h => h) (Or.inl ⟨by rfl, ?_⟩) hHeld ?_ ?_
     rotate_left
     ·intro w' s0
      have s1 := zae s0 YH.out
      clear s0
      go_simp
      with_reducible rfl
     rotate_left
     ·simp only [Act.put, List.setIfInBounds_toArray, List.set_cons_zero, List.set_cons_succ, zat, zav]
      rfl
     refine two_ (i := 23) (j := 27) (Ni := some 47) (Nj := some 8) #[true, true, true, true, true, true, true, true, true, true, true, true, true, true, true, true, true, true, true, true, true, true, true, true, false, false, false, false, false] #[true, true, true, true, true, true, true, true, true, true, true, true, true, true, true, true, true, true, true, true, true, true, true, false, false, false, false, true, false] rfl rfl rfl rfl (by kernel_rfl) (by decide) (by decide) (fun K hK => ?_) (fun K hK => ?_)
     ·refine goes_ Try.func50 (by kernel_rfl) rfl #[.pointer (some ⟨g, 0, none⟩)] (by rfl) rfl rfl (by (try simp only [List.map_toArray, List.map_cons, List.map_nil]); first | done | rfl) ?_
      refine (crossed_calls g cs rs _ HK.out HF.out).mono ?_
      rintro e x4 ⟨A23, q23, rfl, hl, hC, hb⟩
      obtain ⟨ad23, P23, u23, ea, y23, hu, hr⟩ := C_row hC 0 s3 HX3.out
      subst ea
      rw [Addr.add_zero'] at y23
      have Y23 := zaa.mk y23
      clear hl hC hu y23
      refine ⟨_, rfl, ?_⟩
      refine hK.out _ _ hb (fun hHeld => ?_)
      have n_ := zaa.mk (HF.out.below hb); clear HF; have HF := n_; clear n_
      have n_ := zaa.mk (zah HB.out hb); clear HB; have HB := n_; clear n_
      have n_ := zaa.mk (Kd.C_below HR0.out hb); clear HR0; have HR0 := n_; clear n_
      have n_ := zaa.mk (Kd.C_below HR2.out hb); clear HR2; have HR2 := n_; clear n_
      have n_ := zaa.mk (zae hb Y0.out); clear Y0; have Y0 := n_; clear n_
      have n_ := zaa.mk (zae hb YH.out); clear YH; have YH := n_; clear n_
      have n_ := zaa.mk (zae hb YG.out); clear YG; have YG := n_; clear n_
      have n_ := zaa.mk (Kd.C_below HR1.out hb); clear HR1; have HR1 := n_; clear n_
      have n_ := zaa.mk (zae hb Y7.out); clear Y7; have Y7 := n_; clear n_
      clear hK K hb
      refine turnB_ (by kernel_rfl) hHeld ?_
      clear hHeld
      have HR3 := zaa.mk hr
      clear hr
      have hHeld := Below.refl x4.heap.size x4
      refine norm_ (a' := ?_) ?_ ?_
      rotate_left
      ·show Act.put _ (some 47) _ = _
       simp only [Act.put, List.setIfInBounds_toArray, List.set_cons_zero, List.set_cons_succ, zat, zav]
       rfl
      refine zbd (i := 24) (N := some 48) (v := ?_) (a' := ?_) #[true, true, true, true, true, true, true, true, true, true, true, true, true, true, true, true, true, true, true, true, true, true, true, true, true, false, false, false, false] rfl rfl (by kernel_rfl) (fun _ _ _ h => h) (Or.inl ⟨by rfl, ?_⟩) ?_ ?_
      rotate_left
      ·intro w'
       go_simp
       with_reducible rfl
      rotate_left
      ·simp only [Act.put, List.setIfInBounds_toArray, List.set_cons_zero, List.set_cons_succ, zat, zav]
       rfl
      refine take_ (i := 25) (N := some 49) (v := ?_) (a' := ?_) #[true, true, true, true, true, true, true, true, true, true, true, true, true, true, true, true, true, true, true, true, true, true, true, true, true, true, false, false, false] rfl rfl (by kernel_rfl) (fun _ _ _ h => h) (Or.inl ⟨by rfl, ?_⟩) hHeld ?_ ?_
      rotate_left
      ·intro w' s0
       have s1 := zae s0 Y23.out
       clear s0
       go_simp
       with_reducible rfl
      rotate_left
      ·simp only [Act.put, List.setIfInBounds_toArray, List.set_cons_zero, List.set_cons_succ, zat, zav]
       rfl
      refine zbd (i := 26) (N := some 50) (v := ?_) (a' := ?_) #[true, true, true, true, true, true, true, true, true, true, true, true, true, true, true, true, true, true, true, true, true, true, true, true, true, true, true, false, false] rfl rfl (by kernel_rfl) (fun _ _ _ h => h) (Or.inl ⟨by rfl, ?_⟩) ?_ ?_
      rotate_left
      ·intro w'
       go_simp
       with_reducible rfl
      rotate_left
      ·simp only [Act.put, List.setIfInBounds_toArray, List.set_cons_zero, List.set_cons_succ, zat, zav]
       rfl
      refine one_ (i := 27) (N := some 8) #[true, true, true, true, true, true, true, true, true, true, true, true, true, true, true, true, true, true, true, true, true, true, true, true, true, true, true, true, false] rfl rfl (by kernel_rfl) (by decide) (fun K hK => ?_)
      refine valO_step (by rfl) (v := .pointer (some ⟨x4.heap.size, 0, none⟩)) (w1 := x4.alloc (.cells #[.slice none 0 0, .slice none 0 0, .slice none 0 0, .slice none 0 0] 61)) (by go_simp) ?_
      have hb := zac (Below.refl x4.heap.size x4) (.cells #[.slice none 0 0, .slice none 0 0, .slice none 0 0, .slice none 0 0] 61)
      have hk := heap_alloc_new x4 (.cells #[.slice none 0 0, .slice none 0 0, .slice none 0 0, .slice none 0 0] 61)
      have HBs := zaa.mk (show w8.heap.size ≤ x4.heap.size from HB.out.size)
      generalize x4.alloc (.cells #[.slice none 0 0, .slice none 0 0, .slice none 0 0, .slice none 0 0] 61) = x5 at *
      refine hK.out _ _ hb (fun hHeld => ?_)
      have n_ := zaa.mk (HF.out.below hb); clear HF; have HF := n_; clear n_
      have n_ := zaa.mk (zah HB.out hb); clear HB; have HB := n_; clear n_
      have n_ := zaa.mk (Kd.C_below HR0.out hb); clear HR0; have HR0 := n_; clear n_
      have n_ := zaa.mk (Kd.C_below HR2.out hb); clear HR2; have HR2 := n_; clear n_
      have n_ := zaa.mk (zae hb Y0.out); clear Y0; have Y0 := n_; clear n_
      have n_ := zaa.mk (zae hb YH.out); clear YH; have YH := n_; clear n_
      have n_ := zaa.mk (zae hb YG.out); clear YG; have YG := n_; clear n_
      have n_ := zaa.mk (Kd.C_below HR1.out hb); clear HR1; have HR1 := n_; clear n_
      have n_ := zaa.mk (zae hb Y7.out); clear Y7; have Y7 := n_; clear n_
      have n_ := zaa.mk (Kd.C_below HR3.out hb); clear HR3; have HR3 := n_; clear n_
      have n_ := zaa.mk (zae hb Y23.out); clear Y23; have Y23 := n_; clear n_
      have HBk := zaa.mk hk
      clear hk hK K hb
      refine turnB_ (by kernel_rfl) hHeld ?_
      clear hHeld
      generalize x4.heap.size = bk at *
      have hHeld := Below.refl x5.heap.size x5
      refine norm_ (a' := ?_) ?_ ?_
      rotate_left
      ·show Act.put _ (some 8) _ = _
       simp only [Act.put, List.setIfInBounds_toArray, List.set_cons_zero, List.set_cons_succ, zat, zav]
       rfl
      refine norm_ ?_ (HFin.out [?v5_0, ?v5_1, ?v5_2, ?v5_3, ?v5_4, ?v5_5, ?v5_6, ?v5_7, ?v5_8, ?v5_9, ?v5_10, ?v5_11, ?v5_12, ?v5_13] _ ?_)
      ·show _ = putAll _ _
       simp only [putAll, Act.put, List.setIfInBounds_toArray, List.set_cons_zero, List.set_cons_succ, List.getD_cons_zero, List.getD_cons_succ]
       rfl
      ·exact ⟨bk, P0, P7, PH, P23, u0, u7, uH, u23, rfl, rfl, HBk.out, HBs.out, HR0.out, HR1.out, HR2.out, HR3.out, HB.out⟩
     ·refine valO_step (by rfl) (v := .pointer (some ⟨x3.heap.size, 0, none⟩)) (w1 := x3.alloc (.cells #[.slice none 0 0, .slice none 0 0, .slice none 0 0, .slice none 0 0] 61)) (by go_simp) ?_
      have hb := zac (Below.refl x3.heap.size x3) (.cells #[.slice none 0 0, .slice none 0 0, .slice none 0 0, .slice none 0 0] 61)
      have hk := heap_alloc_new x3 (.cells #[.slice none 0 0, .slice none 0 0, .slice none 0 0, .slice none 0 0] 61)
      have HBs := zaa.mk (show w8.heap.size ≤ x3.heap.size from HB.out.size)
      generalize x3.alloc (.cells #[.slice none 0 0, .slice none 0 0, .slice none 0 0, .slice none 0 0] 61) = x6 at *
      refine hK.out _ _ hb (fun hHeld => ?_)
      have n_ := zaa.mk (HF.out.below hb); clear HF; have HF := n_; clear n_
      have n_ := zaa.mk (zah HB.out hb); clear HB; have HB := n_; clear n_
      have n_ := zaa.mk (Kd.C_below HR0.out hb); clear HR0; have HR0 := n_; clear n_
      have n_ := zaa.mk (Kd.C_below HR2.out hb); clear HR2; have HR2 := n_; clear n_
      have n_ := zaa.mk (zae hb Y0.out); clear Y0; have Y0 := n_; clear n_
      have n_ := zaa.mk (zae hb YH.out); clear YH; have YH := n_; clear n_
      have n_ := zaa.mk (zae hb YG.out); clear YG; have YG := n_; clear n_
      have n_ := zaa.mk (Kd.C_below HR1.out hb); clear HR1; have HR1 := n_; clear n_
      have n_ := zaa.mk (zae hb Y7.out); clear Y7; have Y7 := n_; clear n_
      have HBk := zaa.mk hk
      clear hk hK K hb
      refine turnB_ (by kernel_rfl) hHeld ?_
      clear hHeld
      generalize x3.heap.size = bk at *
      have hHeld := Below.refl x6.heap.size x6
      refine norm_ (a' := ?_) ?_ ?_
      rotate_left
      ·show Act.put _ (some 8) _ = _
       simp only [Act.put, List.setIfInBounds_toArray, List.set_cons_zero, List.set_cons_succ, zat, zav]
       rfl
      refine one_ (i := 23) (N := some 47) #[true, true, true, true, true, true, true, true, true, true, true, true, true, true, true, true, true, true, true, true, true, true, true, true, false, false, false, true, false] rfl rfl (by kernel_rfl) (by decide) (fun K hK => ?_)
      refine goes_ Try.func50 (by kernel_rfl) rfl #[.pointer (some ⟨g, 0, none⟩)] (by rfl) rfl rfl (by (try simp only [List.map_toArray, List.map_cons, List.map_nil]); first | done | rfl) ?_
      refine (crossed_calls g cs rs _ HK.out HF.out).mono ?_
      rintro e x7 ⟨A23, q23, rfl, hl, hC, hb⟩
      obtain ⟨ad23, P23, u23, ea, y23, hu, hr⟩ := C_row hC 0 s3 HX3.out
      subst ea
      rw [Addr.add_zero'] at y23
      have Y23 := zaa.mk y23
      clear hl hC hu y23
      refine ⟨_, rfl, ?_⟩
      refine hK.out _ _ hb (fun hHeld => ?_)
      have n_ := zaa.mk (HF.out.below hb); clear HF; have HF := n_; clear n_
      have n_ := zaa.mk (zah HB.out hb); clear HB; have HB := n_; clear n_
      have n_ := zaa.mk (Kd.C_below HR0.out hb); clear HR0; have HR0 := n_; clear n_
      have n_ := zaa.mk (Kd.C_below HR2.out hb); clear HR2; have HR2 := n_; clear n_
      have n_ := zaa.mk (zae hb Y0.out); clear Y0; have Y0 := n_; clear n_
      have n_ := zaa.mk (zae hb YH.out); clear YH; have YH := n_; clear n_
      have n_ := zaa.mk (zae hb YG.out); clear YG; have YG := n_; clear n_
      have n_ := zaa.mk (Kd.C_below HR1.out hb); clear HR1; have HR1 := n_; clear n_
      have n_ := zaa.mk (zae hb Y7.out); clear Y7; have Y7 := n_; clear n_
      have n_ := zaa.mk ((hb.block _ (zcn HBk.out)).trans HBk.out); clear HBk; have HBk := n_; clear n_
      clear hK K hb
      refine turnB_ (by kernel_rfl) hHeld ?_
      clear hHeld
      have HR3 := zaa.mk hr
      clear hr
      have hHeld := Below.refl x7.heap.size x7
      refine norm_ (a' := ?_) ?_ ?_
      rotate_left
      ·show Act.put _ (some 47) _ = _
       simp only [Act.put, List.setIfInBounds_toArray, List.set_cons_zero, List.set_cons_succ, zat, zav]
       rfl
      refine zbd (i := 24) (N := some 48) (v := ?_) (a' := ?_) #[true, true, true, true, true, true, true, true, true, true, true, true, true, true, true, true, true, true, true, true, true, true, true, true, true, false, false, true, false] rfl rfl (by kernel_rfl) (fun _ _ _ h => h) (Or.inl ⟨by rfl, ?_⟩) ?_ ?_
      rotate_left
      ·intro w'
       go_simp
       with_reducible rfl
      rotate_left
      ·simp only [Act.put, List.setIfInBounds_toArray, List.set_cons_zero, List.set_cons_succ, zat, zav]
       rfl
      refine take_ (i := 25) (N := some 49) (v := ?_) (a' := ?_) #[true, true, true, true, true, true, true, true, true, true, true, true, true, true, true, true, true, true, true, true, true, true, true, true, true, true, false, true, false] rfl rfl (by kernel_rfl) (fun _ _ _ h => h) (Or.inl ⟨by rfl, ?_⟩) hHeld ?_ ?_
      rotate_left
      ·intro w' s0
       have s1 := zae s0 Y23.out
       clear s0
       go_simp
       with_reducible rfl
      rotate_left
      ·simp only [Act.put, List.setIfInBounds_toArray, List.set_cons_zero, List.set_cons_succ, zat, zav]
       rfl
      refine zbd (i := 26) (N := some 50) (v := ?_) (a' := ?_) #[true, true, true, true, true, true, true, true, true, true, true, true, true, true, true, true, true, true, true, true, true, true, true, true, true, true, true, true, false] rfl rfl (by kernel_rfl) (fun _ _ _ h => h) (Or.inl ⟨by rfl, ?_⟩) ?_ ?_
      rotate_left
      ·intro w'
       go_simp
       with_reducible rfl
      rotate_left
      ·simp only [Act.put, List.setIfInBounds_toArray, List.set_cons_zero, List.set_cons_succ, zat, zav]
       rfl
      refine norm_ ?_ (HFin.out [?v7_0, ?v7_1, ?v7_2, ?v7_3, ?v7_4, ?v7_5, ?v7_6, ?v7_7, ?v7_8, ?v7_9, ?v7_10, ?v7_11, ?v7_12, ?v7_13] _ ?_)
      ·show _ = putAll _ _
       simp only [putAll, Act.put, List.setIfInBounds_toArray, List.set_cons_zero, List.set_cons_succ, List.getD_cons_zero, List.getD_cons_succ]
       rfl
      ·exact ⟨bk, P0, P7, PH, P23, u0, u7, uH, u23, rfl, rfl, HBk.out, HBs.out, HR0.out, HR1.out, HR2.out, HR3.out, HB.out⟩
    ·refine valO_step (by rfl) (v := .pointer (some ⟨x2.heap.size, 0, none⟩)) (w1 := x2.alloc (.cells #[.slice none 0 0, .slice none 0 0, .slice none 0 0, .slice none 0 0] 61)) (by go_simp) ?_
     have hb := zac (Below.refl x2.heap.size x2) (.cells #[.slice none 0 0, .slice none 0 0, .slice none 0 0, .slice none 0 0] 61)
     have hk := heap_alloc_new x2 (.cells #[.slice none 0 0, .slice none 0 0, .slice none 0 0, .slice none 0 0] 61)
     have HBs := zaa.mk (show w8.heap.size ≤ x2.heap.size from HB.out.size)
     generalize x2.alloc (.cells #[.slice none 0 0, .slice none 0 0, .slice none 0 0, .slice none 0 0] 61) = x8 at *
     refine hK.out _ _ hb (fun hHeld => ?_)
     have n_ := zaa.mk (HF.out.below hb); clear HF; have HF := n_; clear n_
     have n_ := zaa.mk (zah HB.out hb); clear HB; have HB := n_; clear n_
     have n_ := zaa.mk (Kd.C_below HR0.out hb); clear HR0; have HR0 := n_; clear n_
     have n_ := zaa.mk (Kd.C_below HR2.out hb); clear HR2; have HR2 := n_; clear n_
     have n_ := zaa.mk (zae hb Y0.out); clear Y0; have Y0 := n_; clear n_
     have n_ := zaa.mk (zae hb YH.out); clear YH; have YH := n_; clear n_
     have n_ := zaa.mk (zae hb YG.out); clear YG; have YG := n_; clear n_
     have n_ := zaa.mk (Kd.C_below HR1.out hb); clear HR1; have HR1 := n_; clear n_
     have n_ := zaa.mk (zae hb Y7.out); clear Y7; have Y7 := n_; clear n_
     have HBk := zaa.mk hk
     clear hk hK K hb
     refine turnB_ (by kernel_rfl) hHeld ?_
     clear hHeld
     generalize x2.heap.size = bk at *
     have hHeld := Below.refl x8.heap.size x8
     refine norm_ (a' := ?_) ?_ ?_
     rotate_left
     ·show Act.put _ (some 8) _ = _
      simp only [Act.put, List.setIfInBounds_toArray, List.set_cons_zero, List.set_cons_succ, zat, zav]
      rfl
     refine one_ (i := 18) (N := some 42) #[true, true, true, true, true, true, true, true, true, true, true, true, true, true, true, true, true, true, true, false, false, false, true, false, false, false, false, true, false] rfl rfl (by kernel_rfl) (by decide) (fun K hK => ?_)
     refine goes_ Try.func52 (by kernel_rfl) rfl #[.pointer (some ⟨g, 0, none⟩)] (by rfl) rfl rfl (by (try simp only [List.map_toArray, List.map_cons, List.map_nil]); first | done | rfl) ?_
     refine (impl_floor_high.calls g cs rs _ _ _ HF.out (Below.refl _ _) H1.out).mono ?_
     rintro e x9 ⟨rfl, -, hb, -⟩
     refine ⟨_, rfl, ?_⟩
     refine hK.out _ _ hb (fun hHeld => ?_)
     have n_ := zaa.mk (HF.out.below hb); clear HF; have HF := n_; clear n_
     have n_ := zaa.mk (zah HB.out hb); clear HB; have HB := n_; clear n_
     have n_ := zaa.mk (Kd.C_below HR0.out hb); clear HR0; have HR0 := n_; clear n_
     have n_ := zaa.mk (Kd.C_below HR2.out hb); clear HR2; have HR2 := n_; clear n_
     have n_ := zaa.mk (zae hb Y0.out); clear Y0; have Y0 := n_; clear n_
     have n_ := zaa.mk (zae hb YH.out); clear YH; have YH := n_; clear n_
     have n_ := zaa.mk (zae hb YG.out); clear YG; have YG := n_; clear n_
     have n_ := zaa.mk (Kd.C_below HR1.out hb); clear HR1; have HR1 := n_; clear n_
     have n_ := zaa.mk (zae hb Y7.out); clear Y7; have Y7 := n_; clear n_
     have n_ := zaa.mk ((hb.block _ (zcn HBk.out)).trans HBk.out); clear HBk; have HBk := n_; clear n_
     clear hK K hb
     refine turnB_ (by kernel_rfl) hHeld ?_
     clear hHeld
     have hHeld := Below.refl x9.heap.size x9
     refine norm_ (a' := ?_) ?_ ?_
     rotate_left
     ·show Act.put _ (some 42) _ = _
      simp only [Act.put, List.setIfInBounds_toArray, List.set_cons_zero, List.set_cons_succ, zat, zav]
      rfl
     refine zbd (i := 19) (N := some 43) (v := ?_) (a' := ?_) #[true, true, true, true, true, true, true, true, true, true, true, true, true, true, true, true, true, true, true, true, false, false, true, false, false, false, false, true, false] rfl rfl (by kernel_rfl) (fun _ _ _ h => h) (Or.inl ⟨by rfl, ?_⟩) ?_ ?_
     rotate_left
     ·intro w'
      go_simp
      with_reducible rfl
     rotate_left
     ·simp only [Act.put, List.setIfInBounds_toArray, List.set_cons_zero, List.set_cons_succ, zat, zav]
      rfl
     refine zbd (i := 20) (N := some 44) (v := ?_) (a' := ?_) #[true, true, true, true, true, true, true, true, true, true, true, true, true, true, true, true, true, true, true, true, true, false, true, false, false, false, false, true, false] rfl rfl (by kernel_rfl) (fun _ _ _ h => h) (Or.inl ⟨by rfl, ?_⟩) ?_ ?_
     rotate_left
     ·intro w'
      go_simp
      with_reducible rfl
     rotate_left
     ·simp only [Act.put, List.setIfInBounds_toArray, List.set_cons_zero, List.set_cons_succ, zat, zav]
      rfl
     refine take_ (i := 21) (N := some 45) (v := ?_) (a' := ?_) #[true, true, true, true, true, true, true, true, true, true, true, true, true, true, true, true, true, true, true, true, true, true, true, false, false, false, false, true, false] rfl rfl (by kernel_rfl) (fun _ _ _ h => h) (Or.inl ⟨by rfl, ?_⟩) hHeld ?_ ?_
     rotate_left
     ·intro w' s0
      have s1 := zae s0 YH.out
      clear s0
      go_simp
      with_reducible rfl
     rotate_left
     ·simp only [Act.put, List.setIfInBounds_toArray, List.set_cons_zero, List.set_cons_succ, zat, zav]
      rfl
     refine one_ (i := 23) (N := some 47) #[true, true, true, true, true, true, true, true, true, true, true, true, true, true, true, true, true, true, true, true, true, true, true, true, false, false, false, true, false] rfl rfl (by kernel_rfl) (by decide) (fun K hK => ?_)
     refine goes_ Try.func50 (by kernel_rfl) rfl #[.pointer (some ⟨g, 0, none⟩)] (by rfl) rfl rfl (by (try simp only [List.map_toArray, List.map_cons, List.map_nil]); first | done | rfl) ?_
     refine (crossed_calls g cs rs _ HK.out HF.out).mono ?_
     rintro e x10 ⟨A23, q23, rfl, hl, hC, hb⟩
     obtain ⟨ad23, P23, u23, ea, y23, hu, hr⟩ := C_row hC 0 s3 HX3.out
     subst ea
     rw [Addr.add_zero'] at y23
     have Y23 := zaa.mk y23
     clear hl hC hu y23
     refine ⟨_, rfl, ?_⟩
     refine hK.out _ _ hb (fun hHeld => ?_)
     have n_ := zaa.mk (HF.out.below hb); clear HF; have HF := n_; clear n_
     have n_ := zaa.mk (zah HB.out hb); clear HB; have HB := n_; clear n_
     have n_ := zaa.mk (Kd.C_below HR0.out hb); clear HR0; have HR0 := n_; clear n_
     have n_ := zaa.mk (Kd.C_below HR2.out hb); clear HR2; have HR2 := n_; clear n_
     have n_ := zaa.mk (zae hb Y0.out); clear Y0; have Y0 := n_; clear n_
     have n_ := zaa.mk (zae hb YH.out); clear YH; have YH := n_; clear n_
     have n_ := zaa.mk (zae hb YG.out); clear YG; have YG := n_; clear n_
     have n_ := zaa.mk (Kd.C_below HR1.out hb); clear HR1; have HR1 := n_; clear n_
     have n_ := zaa.mk (zae hb Y7.out); clear Y7; have Y7 := n_; clear n_
     have n_ := zaa.mk ((hb.block _ (zcn HBk.out)).trans HBk.out); clear HBk; have HBk := n_; clear n_
     clear hK K hb
     refine turnB_ (by kernel_rfl) hHeld ?_
     clear hHeld
     have HR3 := zaa.mk hr
     clear hr
     have hHeld := Below.refl x10.heap.size x10
     refine norm_ (a' := ?_) ?_ ?_
     rotate_left
     ·show Act.put _ (some 47) _ = _
      simp only [Act.put, List.setIfInBounds_toArray, List.set_cons_zero, List.set_cons_succ, zat, zav]
      rfl
     refine zbd (i := 24) (N := some 48) (v := ?_) (a' := ?_) #[true, true, true, true, true, true, true, true, true, true, true, true, true, true, true, true, true, true, true, true, true, true, true, true, true, false, false, true, false] rfl rfl (by kernel_rfl) (fun _ _ _ h => h) (Or.inl ⟨by rfl, ?_⟩) ?_ ?_
     rotate_left
     ·intro w'
      go_simp
      with_reducible rfl
     rotate_left
     ·simp only [Act.put, List.setIfInBounds_toArray, List.set_cons_zero, List.set_cons_succ, zat, zav]
      rfl
     refine take_ (i := 25) (N := some 49) (v := ?_) (a' := ?_) #[true, true, true, true, true, true, true, true, true, true, true, true, true, true, true, true, true, true, true, true, true, true, true, true, true, true, false, true, false] rfl rfl (by kernel_rfl) (fun _ _ _ h => h) (Or.inl ⟨by rfl, ?_⟩) hHeld ?_ ?_
     rotate_left
     ·intro w' s0
      have s1 := zae s0 Y23.out
      clear s0
      go_simp
      with_reducible rfl
     rotate_left
     ·simp only [Act.put, List.setIfInBounds_toArray, List.set_cons_zero, List.set_cons_succ, zat, zav]
      rfl
     refine zbd (i := 26) (N := some 50) (v := ?_) (a' := ?_) #[true, true, true, true, true, true, true, true, true, true, true, true, true, true, true, true, true, true, true, true, true, true, true, true, true, true, true, true, false] rfl rfl (by kernel_rfl) (fun _ _ _ h => h) (Or.inl ⟨by rfl, ?_⟩) ?_ ?_
     rotate_left
     ·intro w'
      go_simp
      with_reducible rfl
     rotate_left
     ·simp only [Act.put, List.setIfInBounds_toArray, List.set_cons_zero, List.set_cons_succ, zat, zav]
      rfl
     refine norm_ ?_ (HFin.out [?v10_0, ?v10_1, ?v10_2, ?v10_3, ?v10_4, ?v10_5, ?v10_6, ?v10_7, ?v10_8, ?v10_9, ?v10_10, ?v10_11, ?v10_12, ?v10_13] _ ?_)
     ·show _ = putAll _ _
      simp only [putAll, Act.put, List.setIfInBounds_toArray, List.set_cons_zero, List.set_cons_succ, List.getD_cons_zero, List.getD_cons_succ]
      rfl
     ·exact ⟨bk, P0, P7, PH, P23, u0, u7, uH, u23, rfl, rfl, HBk.out, HBs.out, HR0.out, HR1.out, HR2.out, HR3.out, HB.out⟩
   ·refine valO_step (by rfl) (v := .pointer (some ⟨x1.heap.size, 0, none⟩)) (w1 := x1.alloc (.cells #[.slice none 0 0, .slice none 0 0, .slice none 0 0, .slice none 0 0] 61)) (by go_simp) ?_
    have hb := zac (Below.refl x1.heap.size x1) (.cells #[.slice none 0 0, .slice none 0 0, .slice none 0 0, .slice none 0 0] 61)
    have hk := heap_alloc_new x1 (.cells #[.slice none 0 0, .slice none 0 0, .slice none 0 0, .slice none 0 0] 61)
    have HBs := zaa.mk (show w8.heap.size ≤ x1.heap.size from HB.out.size)
    generalize x1.alloc (.cells #[.slice none 0 0, .slice none 0 0, .slice none 0 0, .slice none 0 0] 61) = x11 at *
    refine hK.out _ _ hb (fun hHeld => ?_)
    have n_ := zaa.mk (HF.out.below hb); clear HF; have HF := n_; clear n_
    have n_ := zaa.mk (zah HB.out hb); clear HB; have HB := n_; clear n_
    have n_ := zaa.mk (Kd.C_below HR0.out hb); clear HR0; have HR0 := n_; clear n_
    have n_ := zaa.mk (Kd.C_below HR2.out hb); clear HR2; have HR2 := n_; clear n_
    have n_ := zaa.mk (zae hb Y0.out); clear Y0; have Y0 := n_; clear n_
    have n_ := zaa.mk (zae hb YH.out); clear YH; have YH := n_; clear n_
    have n_ := zaa.mk (zae hb YG.out); clear YG; have YG := n_; clear n_
    have n_ := zaa.mk (Kd.C_below HR1.out hb); clear HR1; have HR1 := n_; clear n_
    have n_ := zaa.mk (zae hb Y7.out); clear Y7; have Y7 := n_; clear n_
    have HBk := zaa.mk hk
    clear hk hK K hb
    refine turnB_ (by kernel_rfl) hHeld ?_
    clear hHeld
    generalize x1.heap.size = bk at *
    have hHeld := Below.refl x11.heap.size x11
    refine norm_ (a' := ?_) ?_ ?_
    rotate_left
    ·show Act.put _ (some 8) _ = _
     simp only [Act.put, List.setIfInBounds_toArray, List.set_cons_zero, List.set_cons_succ, zat, zav]
     rfl
    refine one_ (i := 9) (N := some 33) #[true, true, true, true, true, true, true, true, true, true, false, false, false, true, true, true, true, true, false, false, false, false, true, false, false, false, false, true, false] rfl rfl (by kernel_rfl) (by decide) (fun K hK => ?_)
    refine goes_ Try.func51 (by kernel_rfl) rfl #[.pointer (some ⟨g, 0, none⟩)] (by rfl) rfl rfl (by (try simp only [List.map_toArray, List.map_cons, List.map_nil]); first | done | rfl) ?_
    refine (impl_floor_wide.calls g cs rs _ _ _ HF.out (Below.refl _ _) W1.out).mono ?_
    rintro e x12 ⟨rfl, -, hb, -⟩
    refine ⟨_, rfl, ?_⟩
    refine hK.out _ _ hb (fun hHeld => ?_)
    have n_ := zaa.mk (HF.out.below hb); clear HF; have HF := n_; clear n_
    have n_ := zaa.mk (zah HB.out hb); clear HB; have HB := n_; clear n_
    have n_ := zaa.mk (Kd.C_below HR0.out hb); clear HR0; have HR0 := n_; clear n_
    have n_ := zaa.mk (Kd.C_below HR2.out hb); clear HR2; have HR2 := n_; clear n_
    have n_ := zaa.mk (zae hb Y0.out); clear Y0; have Y0 := n_; clear n_
    have n_ := zaa.mk (zae hb YH.out); clear YH; have YH := n_; clear n_
    have n_ := zaa.mk (zae hb YG.out); clear YG; have YG := n_; clear n_
    have n_ := zaa.mk (Kd.C_below HR1.out hb); clear HR1; have HR1 := n_; clear n_
    have n_ := zaa.mk (zae hb Y7.out); clear Y7; have Y7 := n_; clear n_
    have n_ := zaa.mk ((hb.block _ (zcn HBk.out)).trans HBk.out); clear HBk; have HBk := n_; clear n_
    clear hK K hb
    refine turnB_ (by kernel_rfl) hHeld ?_
    clear hHeld
    have hHeld := Below.refl x12.heap.size x12
    refine norm_ (a' := ?_) ?_ ?_
    rotate_left
    ·show Act.put _ (some 33) _ = _
     simp only [Act.put, List.setIfInBounds_toArray, List.set_cons_zero, List.set_cons_succ, zat, zav]
     rfl
    refine zbd (i := 10) (N := some 34) (v := ?_) (a' := ?_) #[true, true, true, true, true, true, true, true, true, true, true, false, false, true, true, true, true, true, false, false, false, false, true, false, false, false, false, true, false] rfl rfl (by kernel_rfl) (fun _ _ _ h => h) (Or.inl ⟨by rfl, ?_⟩) ?_ ?_
    rotate_left
    ·intro w'
     go_simp
     with_reducible rfl
    rotate_left
    ·simp only [Act.put, List.setIfInBounds_toArray, List.set_cons_zero, List.set_cons_succ, zat, zav]
     rfl
    refine zbd (i := 11) (N := some 35) (v := ?_) (a' := ?_) #[true, true, true, true, true, true, true, true, true, true, true, true, false, true, true, true, true, true, false, false, false, false, true, false, false, false, false, true, false] rfl rfl (by kernel_rfl) (fun _ _ _ h => h) (Or.inl ⟨by rfl, ?_⟩) ?_ ?_
    rotate_left
    ·intro w'
     go_simp
     with_reducible rfl
    rotate_left
    ·simp only [Act.put, List.setIfInBounds_toArray, List.set_cons_zero, List.set_cons_succ, zat, zav]
     rfl
    refine take_ (i := 12) (N := some 36) (v := ?_) (a' := ?_) #[true, true, true, true, true, true, true, true, true, true, true, true, true, true, true, true, true, true, false, false, false, false, true, false, false, false, false, true, false] rfl rfl (by kernel_rfl) (fun _ _ _ h => h) (Or.inl ⟨by rfl, ?_⟩) hHeld ?_ ?_
    rotate_left
    ·intro w' s0
     have s1 := zae s0 Y7.out
     clear s0
     go_simp
     with_reducible rfl
    rotate_left
    ·simp only [Act.put, List.setIfInBounds_toArray, List.set_cons_zero, List.set_cons_succ, zat, zav]
     rfl
    refine one_ (i := 18) (N := some 42) #[true, true, true, true, true, true, true, true, true, true, true, true, true, true, true, true, true, true, true, false, false, false, true, false, false, false, false, true, false] rfl rfl (by kernel_rfl) (by decide) (fun K hK => ?_)
    refine goes_ Try.func52 (by kernel_rfl) rfl #[.pointer (some ⟨g, 0, none⟩)] (by rfl) rfl rfl (by (try simp only [List.map_toArray, List.map_cons, List.map_nil]); first | done | rfl) ?_
    refine (impl_floor_high.calls g cs rs _ _ _ HF.out (Below.refl _ _) H1.out).mono ?_
    rintro e x13 ⟨rfl, -, hb, -⟩
    refine ⟨_, rfl, ?_⟩
    refine hK.out _ _ hb (fun hHeld => ?_)
    have n_ := zaa.mk (HF.out.below hb); clear HF; have HF := n_; clear n_
    have n_ := zaa.mk (zah HB.out hb); clear HB; have HB := n_; clear n_
    have n_ := zaa.mk (Kd.C_below HR0.out hb); clear HR0; have HR0 := n_; clear n_
    have n_ := zaa.mk (Kd.C_below HR2.out hb); clear HR2; have HR2 := n_; clear n_
    have n_ := zaa.mk (zae hb Y0.out); clear Y0; have Y0 := n_; clear n_
    have n_ := zaa.mk (zae hb YH.out); clear YH; have YH := n_; clear n_
    have n_ := zaa.mk (zae hb YG.out); clear YG; have YG := n_; clear n_
    have n_ := zaa.mk (Kd.C_below HR1.out hb); clear HR1; have HR1 := n_; clear n_
    have n_ := zaa.mk (zae hb Y7.out); clear Y7; have Y7 := n_; clear n_
    have n_ := zaa.mk ((hb.block _ (zcn HBk.out)).trans HBk.out); clear HBk; have HBk := n_; clear n_
    clear hK K hb
    refine turnB_ (by kernel_rfl) hHeld ?_
    clear hHeld
    have hHeld := Below.refl x13.heap.size x13
    refine norm_ (a' := ?_) ?_ ?_
    rotate_left
    ·show Act.put _ (some 42) _ = _
     simp only [Act.put, List.setIfInBounds_toArray, List.set_cons_zero, List.set_cons_succ, zat, zav]
     rfl
    refine zbd (i := 19) (N := some 43) (v := ?_) (a' := ?_) #[true, true, true, true, true, true, true, true, true, true, true, true, true, true, true, true, true, true, true, true, false, false, true, false, false, false, false, true, false] rfl rfl (by kernel_rfl) (fun _ _ _ h => h) (Or.inl ⟨by rfl, ?_⟩) ?_ ?_
    rotate_left
    ·intro w'
     go_simp
     with_reducible rfl
    rotate_left
    ·simp only [Act.put, List.setIfInBounds_toArray, List.set_cons_zero, List.set_cons_succ, zat, zav]
     rfl
    refine zbd (i := 20) (N := some 44) (v := ?_) (a' := ?_) #[true, true, true, true, true, true, true, true, true, true, true, true, true, true, true, true, true, true, true, true, true, false, true, false, false, false, false, true, false] rfl rfl (by kernel_rfl) (fun _ _ _ h => h) (Or.inl ⟨by rfl, ?_⟩) ?_ ?_
    rotate_left
    ·intro w'
     go_simp
     with_reducible rfl
    rotate_left
    ·simp only [Act.put, List.setIfInBounds_toArray, List.set_cons_zero, List.set_cons_succ, zat, zav]
     rfl
    refine take_ (i := 21) (N := some 45) (v := ?_) (a' := ?_) #[true, true, true, true, true, true, true, true, true, true, true, true, true, true, true, true, true, true, true, true, true, true, true, false, false, false, false, true, false] rfl rfl (by kernel_rfl) (fun _ _ _ h => h) (Or.inl ⟨by rfl, ?_⟩) hHeld ?_ ?_
    rotate_left
    ·intro w' s0
     have s1 := zae s0 YH.out
     clear s0
     go_simp
     with_reducible rfl
    rotate_left
    ·simp only [Act.put, List.setIfInBounds_toArray, List.set_cons_zero, List.set_cons_succ, zat, zav]
     rfl
    refine one_ (i := 23) (N := some 47) #[true, true, true, true, true, true, true, true, true, true, true, true, true, true, true, true, true, true, true, true, true, true, true, true, false, false, false, true, false] rfl rfl (by kernel_rfl) (by decide) (fun K hK => ?_)
    refine goes_ Try.func50 (by kernel_rfl) rfl #[.pointer (some ⟨g, 0, none⟩)] (by rfl) rfl rfl (by (try simp only [List.map_toArray, List.map_cons, List.map_nil]); first | done | rfl) ?_
    refine (crossed_calls g cs rs _ HK.out HF.out).mono ?_
    rintro e x14 ⟨A23, q23, rfl, hl, hC, hb⟩
    obtain ⟨ad23, P23, u23, ea, y23, hu, hr⟩ := C_row hC 0 s3 HX3.out
    subst ea
    rw [Addr.add_zero'] at y23
    have Y23 := zaa.mk y23
    clear hl hC hu y23
    refine ⟨_, rfl, ?_⟩
    refine hK.out _ _ hb (fun hHeld => ?_)
    have n_ := zaa.mk (HF.out.below hb); clear HF; have HF := n_; clear n_
    have n_ := zaa.mk (zah HB.out hb); clear HB; have HB := n_; clear n_
    have n_ := zaa.mk (Kd.C_below HR0.out hb); clear HR0; have HR0 := n_; clear n_
    have n_ := zaa.mk (Kd.C_below HR2.out hb); clear HR2; have HR2 := n_; clear n_
    have n_ := zaa.mk (zae hb Y0.out); clear Y0; have Y0 := n_; clear n_
    have n_ := zaa.mk (zae hb YH.out); clear YH; have YH := n_; clear n_
    have n_ := zaa.mk (zae hb YG.out); clear YG; have YG := n_; clear n_
    have n_ := zaa.mk (Kd.C_below HR1.out hb); clear HR1; have HR1 := n_; clear n_
    have n_ := zaa.mk (zae hb Y7.out); clear Y7; have Y7 := n_; clear n_
    have n_ := zaa.mk ((hb.block _ (zcn HBk.out)).trans HBk.out); clear HBk; have HBk := n_; clear n_
    clear hK K hb
    refine turnB_ (by kernel_rfl) hHeld ?_
    clear hHeld
    have HR3 := zaa.mk hr
    clear hr
    have hHeld := Below.refl x14.heap.size x14
    refine norm_ (a' := ?_) ?_ ?_
    rotate_left
    ·show Act.put _ (some 47) _ = _
     simp only [Act.put, List.setIfInBounds_toArray, List.set_cons_zero, List.set_cons_succ, zat, zav]
     rfl
    refine zbd (i := 24) (N := some 48) (v := ?_) (a' := ?_) #[true, true, true, true, true, true, true, true, true, true, true, true, true, true, true, true, true, true, true, true, true, true, true, true, true, false, false, true, false] rfl rfl (by kernel_rfl) (fun _ _ _ h => h) (Or.inl ⟨by rfl, ?_⟩) ?_ ?_
    rotate_left
    ·intro w'
     go_simp
     with_reducible rfl
    rotate_left
    ·simp only [Act.put, List.setIfInBounds_toArray, List.set_cons_zero, List.set_cons_succ, zat, zav]
     rfl
    refine take_ (i := 25) (N := some 49) (v := ?_) (a' := ?_) #[true, true, true, true, true, true, true, true, true, true, true, true, true, true, true, true, true, true, true, true, true, true, true, true, true, true, false, true, false] rfl rfl (by kernel_rfl) (fun _ _ _ h => h) (Or.inl ⟨by rfl, ?_⟩) hHeld ?_ ?_
    rotate_left
    ·intro w' s0
     have s1 := zae s0 Y23.out
     clear s0
     go_simp
     with_reducible rfl
    rotate_left
    ·simp only [Act.put, List.setIfInBounds_toArray, List.set_cons_zero, List.set_cons_succ, zat, zav]
     rfl
    refine zbd (i := 26) (N := some 50) (v := ?_) (a' := ?_) #[true, true, true, true, true, true, true, true, true, true, true, true, true, true, true, true, true, true, true, true, true, true, true, true, true, true, true, true, false] rfl rfl (by kernel_rfl) (fun _ _ _ h => h) (Or.inl ⟨by rfl, ?_⟩) ?_ ?_
    rotate_left
    ·intro w'
     go_simp
     with_reducible rfl
    rotate_left
    ·simp only [Act.put, List.setIfInBounds_toArray, List.set_cons_zero, List.set_cons_succ, zat, zav]
     rfl
    refine norm_ ?_ (HFin.out [?v14_0, ?v14_1, ?v14_2, ?v14_3, ?v14_4, ?v14_5, ?v14_6, ?v14_7, ?v14_8, ?v14_9, ?v14_10, ?v14_11, ?v14_12, ?v14_13] _ ?_)
    ·show _ = putAll _ _
     simp only [putAll, Act.put, List.setIfInBounds_toArray, List.set_cons_zero, List.set_cons_succ, List.getD_cons_zero, List.getD_cons_succ]
     rfl
    ·exact ⟨bk, P0, P7, PH, P23, u0, u7, uH, u23, rfl, rfl, HBk.out, HBs.out, HR0.out, HR1.out, HR2.out, HR3.out, HB.out⟩
  ·refine valO_step (by rfl) (v := .pointer (some ⟨wd.heap.size, 0, none⟩)) (w1 := wd.alloc (.cells #[.slice none 0 0, .slice none 0 0, .slice none 0 0, .slice none 0 0] 61)) (by go_simp) ?_
   have hb := zac (Below.refl wd.heap.size wd) (.cells #[.slice none 0 0, .slice none 0 0, .slice none 0 0, .slice none 0 0] 61)
   have hk := heap_alloc_new wd (.cells #[.slice none 0 0, .slice none 0 0, .slice none 0 0, .slice none 0 0] 61)
   have HBs := zaa.mk (show w8.heap.size ≤ wd.heap.size from HB.out.size)
   generalize wd.alloc (.cells #[.slice none 0 0, .slice none 0 0, .slice none 0 0, .slice none 0 0] 61) = x15 at *
   refine hK.out _ _ hb (fun hHeld => ?_)
   have n_ := zaa.mk (HF.out.below hb); clear HF; have HF := n_; clear n_
   have n_ := zaa.mk (zah HB.out hb); clear HB; have HB := n_; clear n_
   have n_ := zaa.mk (Kd.C_below HR0.out hb); clear HR0; have HR0 := n_; clear n_
   have n_ := zaa.mk (Kd.C_below HR2.out hb); clear HR2; have HR2 := n_; clear n_
   have n_ := zaa.mk (zae hb Y0.out); clear Y0; have Y0 := n_; clear n_
   have n_ := zaa.mk (zae hb YH.out); clear YH; have YH := n_; clear n_
   have n_ := zaa.mk (zae hb YG.out); clear YG; have YG := n_; clear n_
   have HBk := zaa.mk hk
   clear hk hK K hb
   refine turnB_ (by kernel_rfl) hHeld ?_
   clear hHeld
   generalize wd.heap.size = bk at *
   have hHeld := Below.refl x15.heap.size x15
   refine norm_ (a' := ?_) ?_ ?_
   rotate_left
   ·show Act.put _ (some 8) _ = _
    simp only [Act.put, List.setIfInBounds_toArray, List.set_cons_zero, List.set_cons_succ, zat, zav]
    rfl
   refine one_ (i := 7) (N := some 31) #[true, true, true, true, true, true, true, true, true, false, false, false, false, true, true, true, true, true, false, false, false, false, true, false, false, false, false, true, false] rfl rfl (by kernel_rfl) (by decide) (fun K hK => ?_)
   refine goes_ Try.func50 (by kernel_rfl) rfl #[.pointer (some ⟨g, 0, none⟩)] (by rfl) rfl rfl (by (try simp only [List.map_toArray, List.map_cons, List.map_nil]); first | done | rfl) ?_
   refine (crossed_calls g cs rs _ HK.out HF.out).mono ?_
   rintro e x16 ⟨A7, q7, rfl, hl, hC, hb⟩
   obtain ⟨ad7, P7, u7, ea, y7, hu, hr⟩ := C_row hC zw s1 HX1.out
   subst ea
   have Y7 := zaa.mk y7
   clear hl hC hu y7
   refine ⟨_, rfl, ?_⟩
   refine hK.out _ _ hb (fun hHeld => ?_)
   have n_ := zaa.mk (HF.out.below hb); clear HF; have HF := n_; clear n_
   have n_ := zaa.mk (zah HB.out hb); clear HB; have HB := n_; clear n_
   have n_ := zaa.mk (Kd.C_below HR0.out hb); clear HR0; have HR0 := n_; clear n_
   have n_ := zaa.mk (Kd.C_below HR2.out hb); clear HR2; have HR2 := n_; clear n_
   have n_ := zaa.mk (zae hb Y0.out); clear Y0; have Y0 := n_; clear n_
   have n_ := zaa.mk (zae hb YH.out); clear YH; have YH := n_; clear n_
   have n_ := zaa.mk (zae hb YG.out); clear YG; have YG := n_; clear n_
   have n_ := zaa.mk ((hb.block _ (zcn HBk.out)).trans HBk.out); clear HBk; have HBk := n_; clear n_
   clear hK K hb
   refine turnB_ (by kernel_rfl) hHeld ?_
   clear hHeld
   have HR1 := zaa.mk hr
   clear hr
   have hHeld := Below.refl x16.heap.size x16
   refine norm_ (a' := ?_) ?_ ?_
   rotate_left
   ·show Act.put _ (some 31) _ = _
    simp only [Act.put, List.setIfInBounds_toArray, List.set_cons_zero, List.set_cons_succ, zat, zav]
    rfl
   refine one_ (i := 9) (N := some 33) #[true, true, true, true, true, true, true, true, true, true, false, false, false, true, true, true, true, true, false, false, false, false, true, false, false, false, false, true, false] rfl rfl (by kernel_rfl) (by decide) (fun K hK => ?_)
   refine goes_ Try.func51 (by kernel_rfl) rfl #[.pointer (some ⟨g, 0, none⟩)] (by rfl) rfl rfl (by (try simp only [List.map_toArray, List.map_cons, List.map_nil]); first | done | rfl) ?_
   refine (impl_floor_wide.calls g cs rs _ _ _ HF.out (Below.refl _ _) W1.out).mono ?_
   rintro e x17 ⟨rfl, -, hb, -⟩
   refine ⟨_, rfl, ?_⟩
   refine hK.out _ _ hb (fun hHeld => ?_)
   have n_ := zaa.mk (HF.out.below hb); clear HF; have HF := n_; clear n_
   have n_ := zaa.mk (zah HB.out hb); clear HB; have HB := n_; clear n_
   have n_ := zaa.mk (Kd.C_below HR0.out hb); clear HR0; have HR0 := n_; clear n_
   have n_ := zaa.mk (Kd.C_below HR2.out hb); clear HR2; have HR2 := n_; clear n_
   have n_ := zaa.mk (zae hb Y0.out); clear Y0; have Y0 := n_; clear n_
   have n_ := zaa.mk (zae hb YH.out); clear YH; have YH := n_; clear n_
   have n_ := zaa.mk (zae hb YG.out); clear YG; have YG := n_; clear n_
   have n_ := zaa.mk ((hb.block _ (zcn HBk.out)).trans HBk.out); clear HBk; have HBk := n_; clear n_
   have n_ := zaa.mk (Kd.C_below HR1.out hb); clear HR1; have HR1 := n_; clear n_
   have n_ := zaa.mk (zae hb Y7.out); clear Y7; have Y7 := n_; clear n_
   clear hK K hb
   refine turnB_ (by kernel_rfl) hHeld ?_
   clear hHeld
   have hHeld := Below.refl x17.heap.size x17
   refine norm_ (a' := ?_) ?_ ?_
   rotate_left
   ·show Act.put _ (some 33) _ = _
    simp only [Act.put, List.setIfInBounds_toArray, List.set_cons_zero, List.set_cons_succ, zat, zav]
    rfl
   refine zbd (i := 10) (N := some 34) (v := ?_) (a' := ?_) #[true, true, true, true, true, true, true, true, true, true, true, false, false, true, true, true, true, true, false, false, false, false, true, false, false, false, false, true, false] rfl rfl (by kernel_rfl) (fun _ _ _ h => h) (Or.inl ⟨by rfl, ?_⟩) ?_ ?_
   rotate_left
   ·intro w'
    go_simp
    with_reducible rfl
   rotate_left
   ·simp only [Act.put, List.setIfInBounds_toArray, List.set_cons_zero, List.set_cons_succ, zat, zav]
    rfl
   refine zbd (i := 11) (N := some 35) (v := ?_) (a' := ?_) #[true, true, true, true, true, true, true, true, true, true, true, true, false, true, true, true, true, true, false, false, false, false, true, false, false, false, false, true, false] rfl rfl (by kernel_rfl) (fun _ _ _ h => h) (Or.inl ⟨by rfl, ?_⟩) ?_ ?_
   rotate_left
   ·intro w'
    go_simp
    with_reducible rfl
   rotate_left
   ·simp only [Act.put, List.setIfInBounds_toArray, List.set_cons_zero, List.set_cons_succ, zat, zav]
    rfl
   refine take_ (i := 12) (N := some 36) (v := ?_) (a' := ?_) #[true, true, true, true, true, true, true, true, true, true, true, true, true, true, true, true, true, true, false, false, false, false, true, false, false, false, false, true, false] rfl rfl (by kernel_rfl) (fun _ _ _ h => h) (Or.inl ⟨by rfl, ?_⟩) hHeld ?_ ?_
   rotate_left
   ·intro w' s0
    have s1 := zae s0 Y7.out
    clear s0
    go_simp
    with_reducible rfl
   rotate_left
   ·simp only [Act.put, List.setIfInBounds_toArray, List.set_cons_zero, List.set_cons_succ, zat, zav]
    rfl
   refine one_ (i := 18) (N := some 42) #[true, true, true, true, true, true, true, true, true, true, true, true, true, true, true, true, true, true, true, false, false, false, true, false, false, false, false, true, false] rfl rfl (by kernel_rfl) (by decide) (fun K hK => ?_)
   refine goes_ Try.func52 (by kernel_rfl) rfl #[.pointer (some ⟨g, 0, none⟩)] (by rfl) rfl rfl (by (try simp only [List.map_toArray, List.map_cons, List.map_nil]); first | done | rfl) ?_
   refine (impl_floor_high.calls g cs rs _ _ _ HF.out (Below.refl _ _) H1.out).mono ?_
   rintro e x18 ⟨rfl, -, hb, -⟩
   refine ⟨_, rfl, ?_⟩
   refine hK.out _ _ hb (fun hHeld => ?_)
   have n_ := zaa.mk (HF.out.below hb); clear HF; have HF := n_; clear n_
   have n_ := zaa.mk (zah HB.out hb); clear HB; have HB := n_; clear n_
   have n_ := zaa.mk (Kd.C_below HR0.out hb); clear HR0; have HR0 := n_; clear n_
   have n_ := zaa.mk (Kd.C_below HR2.out hb); clear HR2; have HR2 := n_; clear n_
   have n_ := zaa.mk (zae hb Y0.out); clear Y0; have Y0 := n_; clear n_
   have n_ := zaa.mk (zae hb YH.out); clear YH; have YH := n_; clear n_
   have n_ := zaa.mk (zae hb YG.out); clear YG; have YG := n_; clear n_
   have n_ := zaa.mk ((hb.block _ (zcn HBk.out)).trans HBk.out); clear HBk; have HBk := n_; clear n_
   have n_ := zaa.mk (Kd.C_below HR1.out hb); clear HR1; have HR1 := n_; clear n_
   have n_ := zaa.mk (zae hb Y7.out); clear Y7; have Y7 := n_; clear n_
   clear hK K hb
   refine turnB_ (by kernel_rfl) hHeld ?_
   clear hHeld
   have hHeld := Below.refl x18.heap.size x18
   refine norm_ (a' := ?_) ?_ ?_
   rotate_left
   ·show Act.put _ (some 42) _ = _
    simp only [Act.put, List.setIfInBounds_toArray, List.set_cons_zero, List.set_cons_succ, zat, zav]
    rfl
   refine zbd (i := 19) (N := some 43) (v := ?_) (a' := ?_) #[true, true, true, true, true, true, true, true, true, true, true, true, true, true, true, true, true, true, true, true, false, false, true, false, false, false, false, true, false] rfl rfl (by kernel_rfl) (fun _ _ _ h => h) (Or.inl ⟨by rfl, ?_⟩) ?_ ?_
   rotate_left
   ·intro w'
    go_simp
    with_reducible rfl
   rotate_left
   ·simp only [Act.put, List.setIfInBounds_toArray, List.set_cons_zero, List.set_cons_succ, zat, zav]
    rfl
   refine zbd (i := 20) (N := some 44) (v := ?_) (a' := ?_) #[true, true, true, true, true, true, true, true, true, true, true, true, true, true, true, true, true, true, true, true, true, false, true, false, false, false, false, true, false] rfl rfl (by kernel_rfl) (fun _ _ _ h => h) (Or.inl ⟨by rfl, ?_⟩) ?_ ?_
   rotate_left
   ·intro w'
    go_simp
    with_reducible rfl
   rotate_left
   ·simp only [Act.put, List.setIfInBounds_toArray, List.set_cons_zero, List.set_cons_succ, zat, zav]
    rfl
   refine take_ (i := 21) (N := some 45) (v := ?_) (a' := ?_) #[true, true, true, true, true, true, true, true, true, true, true, true, true, true, true, true, true, true, true, true, true, true, true, false, false, false, false, true, false] rfl rfl (by kernel_rfl) (fun _ _ _ h => h) (Or.inl ⟨by rfl, ?_⟩) hHeld ?_ ?_
   rotate_left
   ·intro w' s0
    have s1 := zae s0 YH.out
    clear s0
    go_simp
    with_reducible rfl
   rotate_left
   ·simp only [Act.put, List.setIfInBounds_toArray, List.set_cons_zero, List.set_cons_succ, zat, zav]
    rfl
   refine one_ (i := 23) (N := some 47) #[true, true, true, true, true, true, true, true, true, true, true, true, true, true, true, true, true, true, true, true, true, true, true, true, false, false, false, true, false] rfl rfl (by kernel_rfl) (by decide) (fun K hK => ?_)
   refine goes_ Try.func50 (by kernel_rfl) rfl #[.pointer (some ⟨g, 0, none⟩)] (by rfl) rfl rfl (by (try simp only [List.map_toArray, List.map_cons, List.map_nil]); first | done | rfl) ?_
   refine (crossed_calls g cs rs _ HK.out HF.out).mono ?_
   rintro e x19 ⟨A23, q23, rfl, hl, hC, hb⟩
   obtain ⟨ad23, P23, u23, ea, y23, hu, hr⟩ := C_row hC 0 s3 HX3.out
   subst ea
   rw [Addr.add_zero'] at y23
   have Y23 := zaa.mk y23
   clear hl hC hu y23
   refine ⟨_, rfl, ?_⟩
   refine hK.out _ _ hb (fun hHeld => ?_)
   have n_ := zaa.mk (HF.out.below hb); clear HF; have HF := n_; clear n_
   have n_ := zaa.mk (zah HB.out hb); clear HB; have HB := n_; clear n_
   have n_ := zaa.mk (Kd.C_below HR0.out hb); clear HR0; have HR0 := n_; clear n_
   have n_ := zaa.mk (Kd.C_below HR2.out hb); clear HR2; have HR2 := n_; clear n_
   have n_ := zaa.mk (zae hb Y0.out); clear Y0; have Y0 := n_; clear n_
   have n_ := zaa.mk (zae hb YH.out); clear YH; have YH := n_; clear n_
   have n_ := zaa.mk (zae hb YG.out); clear YG; have YG := n_; clear n_
   have n_ := zaa.mk ((hb.block _ (zcn HBk.out)).trans HBk.out); clear HBk; have HBk := n_; clear n_
   have n_ := zaa.mk (Kd.C_below HR1.out hb); clear HR1; have HR1 := n_; clear n_
   have n_ := zaa.mk (zae hb Y7.out); clear Y7; have Y7 := n_; clear n_
   clear hK K hb
   refine turnB_ (by kernel_rfl) hHeld ?_
   clear hHeld
   have HR3 := zaa.mk hr
   clear hr
   have hHeld := Below.refl x19.heap.size x19
   refine norm_ (a' := ?_) ?_ ?_
   rotate_left
   ·show Act.put _ (some 47) _ = _
    simp only [Act.put, List.setIfInBounds_toArray, List.set_cons_zero, List.set_cons_succ, zat, zav]
    rfl
   refine zbd (i := 24) (N := some 48) (v := ?_) (a' := ?_) #[true, true, true, true, true, true, true, true, true, true, true, true, true, true, true, true, true, true, true, true, true, true, true, true, true, false, false, true, false] rfl rfl (by kernel_rfl) (fun _ _ _ h => h) (Or.inl ⟨by rfl, ?_⟩) ?_ ?_
   rotate_left
   ·intro w'
    go_simp
    with_reducible rfl
   rotate_left
   ·simp only [Act.put, List.setIfInBounds_toArray, List.set_cons_zero, List.set_cons_succ, zat, zav]
    rfl
   refine take_ (i := 25) (N := some 49) (v := ?_) (a' := ?_) #[true, true, true, true, true, true, true, true, true, true, true, true, true, true, true, true, true, true, true, true, true, true, true, true, true, true, false, true, false] rfl rfl (by kernel_rfl) (fun _ _ _ h => h) (Or.inl ⟨by rfl, ?_⟩) hHeld ?_ ?_
   rotate_left
   ·intro w' s0
    have s1 := zae s0 Y23.out
    clear s0
    go_simp
    with_reducible rfl
   rotate_left
   ·simp only [Act.put, List.setIfInBounds_toArray, List.set_cons_zero, List.set_cons_succ, zat, zav]
    rfl
   refine zbd (i := 26) (N := some 50) (v := ?_) (a' := ?_) #[true, true, true, true, true, true, true, true, true, true, true, true, true, true, true, true, true, true, true, true, true, true, true, true, true, true, true, true, false] rfl rfl (by kernel_rfl) (fun _ _ _ h => h) (Or.inl ⟨by rfl, ?_⟩) ?_ ?_
   rotate_left
   ·intro w'
    go_simp
    with_reducible rfl
   rotate_left
   ·simp only [Act.put, List.setIfInBounds_toArray, List.set_cons_zero, List.set_cons_succ, zat, zav]
    rfl
   refine norm_ ?_ (HFin.out [?v19_0, ?v19_1, ?v19_2, ?v19_3, ?v19_4, ?v19_5, ?v19_6, ?v19_7, ?v19_8, ?v19_9, ?v19_10, ?v19_11, ?v19_12, ?v19_13] _ ?_)
   ·show _ = putAll _ _
    simp only [putAll, Act.put, List.setIfInBounds_toArray, List.set_cons_zero, List.set_cons_succ, List.getD_cons_zero, List.getD_cons_succ]
    rfl
   ·exact ⟨bk, P0, P7, PH, P23, u0, u7, uH, u23, rfl, rfl, HBk.out, HBs.out, HR0.out, HR1.out, HR2.out, HR3.out, HB.out⟩
 case cont =>
  clear HF HB HR0 HR2 Y0 YH YG hHeld
  intro s w' hF
  obtain ⟨b, B0, B1, B2, B3, d0, d1, d2, d3, e8, e50, hblk, hle, r0, r1, r2, r3, hB⟩ := hF
  refine norm_ (a' := ?_) ?_ ?_
  rotate_left
  ·simp only [putAll, Act.put, List.setIfInBounds_toArray, List.set_cons_zero, List.set_cons_succ]
   rfl
  rw [e8, e50]
  generalize s.getD 0 undef = j0
  generalize s.getD 1 undef = j1
  generalize s.getD 2 undef = j2
  generalize s.getD 3 undef = j3
  generalize s.getD 4 undef = j4
  generalize s.getD 5 undef = j5
  generalize s.getD 6 undef = j6
  generalize s.getD 7 undef = j7
  generalize s.getD 8 undef = j8
  generalize s.getD 9 undef = j9
  generalize s.getD 10 undef = j10
  generalize s.getD 11 undef = j11
  clear e8 e50 s
  have HR0 := zaa.mk r0
  have HR1 := zaa.mk r1
  have HR2 := zaa.mk r2
  have HR3 := zaa.mk r3
  have HB := zaa.mk hB
  have HBk := zaa.mk hblk
  have HLe := zaa.mk hle
  clear hle
  clear r0 r1 r2 r3 hB
  have q0 := (zau hblk 0).trans rfl
  have q1 := (zau hblk 1).trans rfl
  have q2 := (zau hblk 2).trans rfl
  have q3 := (zau hblk 3).trans rfl
  have g0 := zax hblk 0
  have g1 := zax hblk 1
  have g2 := zax hblk 2
  have g3 := zax hblk 3
  clear hblk
  refine last_ (i := 28) (N := none) #[true, true, true, true, true, true, true, true, true, true, true, true, true, true, true, true, true, true, true, true, true, true, true, true, true, true, true, true, true] rfl rfl (by kernel_rfl) (by decide) (fun K hK => ?_)
  rw [if_pos (by rfl)]
  go_simp
  have hle' : w.heap.size ≤ b := Nat.le_trans HB8.out.size HLe.out
  have hBw : Below w.heap.size w ((((w'.setCell ⟨b, 0, none⟩ (.slice B0 s0.length d0)).setCell ⟨b, 1, none⟩ (.slice B1 s1.length d1)).setCell ⟨b, 2, none⟩ (.slice B2 s2.length d2)).setCell ⟨b, 3, none⟩ (.slice B3 s3.length d3)) := zak (zak (zak (zak (zah HB8.out HB.out) hle') hle') hle') hle'
  have hkp : zaf w' ((((w'.setCell ⟨b, 0, none⟩ (.slice B0 s0.length d0)).setCell ⟨b, 1, none⟩ (.slice B1 s1.length d1)).setCell ⟨b, 2, none⟩ (.slice B2 s2.length d2)).setCell ⟨b, 3, none⟩ (.slice B3 s3.length d3)) b none := ((((zaf.refl w' b none).set_ 0 _).set_ 1 _).set_ 2 _).set_ 3 _
  have hbl := set_four HBk.out (.slice B0 s0.length d0) (.slice B1 s1.length d1) (.slice B2 s2.length d2) (.slice B3 s3.length d3)
  generalize (((w'.setCell ⟨b, 0, none⟩ (.slice B0 s0.length d0)).setCell ⟨b, 1, none⟩ (.slice B1 s1.length d1)).setCell ⟨b, 2, none⟩ (.slice B2 s2.length d2)).setCell ⟨b, 3, none⟩ (.slice B3 s3.length d3) = wz at *
  have HW := zaa.mk hBw
  have R0 := zaa.mk (C_keep_ne HBk.out HR0.out hkp)
  have R1 := zaa.mk (C_keep_ne HBk.out HR1.out hkp)
  have R2 := zaa.mk (C_keep_ne HBk.out HR2.out hkp)
  have R3 := zaa.mk (C_keep_ne HBk.out HR3.out hkp)
  have c0' := (zau hbl 0).trans rfl
  have c1' := (zau hbl 1).trans rfl
  have c2' := (zau hbl 2).trans rfl
  have c3' := (zau hbl 3).trans rfl
  clear q0 q1 q2 q3 g0 g1 g2 g3 hbl hkp hBw hle' HR0 HR1 HR2 HR3 HBk HB
  refine hK.out _ _ ?_
  clear hK K
  refine done_ (by kernel_rfl) ?_
  have HL := zaa.mk (show s0.length ≤ 6 ∧ s1.length ≤ 6 ∧ s2.length ≤ 6 ∧ s3.length ≤ 6 by rw [E0.out, E1.out, E2.out, E3.out]; simp [sideL]; omega)
  have hsd : sd = 0 ∨ sd = 1 ∨ sd = 2 ∨ sd = 3 := by omega
  have HZ' := zaa.mk (show 0 < s0.length ∧ 0 < s1.length ∧ 0 < s2.length ∧ 0 < s3.length by rw [E0.out, E1.out, E2.out, E3.out]; exact HZ.out)
  rcases hsd with rfl | rfl | rfl | rfl
  ·go_wp2_with (first
    | (go_at_call 54; (with_reducible refine (clone_calls B0 d0 s0 _ R0.out HZ'.out.1 (by have := HL.out; omega)).mono ?_); rintro e w20 ⟨v20, rfl, hr20, hb20⟩; have HB20 := zaa.mk (zah HW.out hb20); have HR20 := zaa.mk (Kd.R_lower hr20 HW.out.size); clear hr20 hb20)
    | (go_at_call 53; (with_reducible refine (compact_calls s0 v20 _ w.heap.size _ HR20.out).mono ?_); rintro e w21 ⟨v21, rfl, hr21, hg21, he21⟩; have HB21 := zaa.mk (HB20.out.grown hg21 HB20.out.size (own_base (Kd.own_of_R HR20.out))); have HR21 := zaa.mk hr21; clear hr21 hg21 he21))
   go_ret2
   refine ⟨_, rfl, ?_, HB21.out⟩
   rw [← E0.out, ← compact_fold]
   exact HR21.out
  ·go_wp2_with (first
    | (go_at_call 54; (with_reducible refine (clone_calls B1 d1 s1 _ R1.out HZ'.out.2.1 (by have := HL.out; omega)).mono ?_); rintro e w20 ⟨v20, rfl, hr20, hb20⟩; have HB20 := zaa.mk (zah HW.out hb20); have HR20 := zaa.mk (Kd.R_lower hr20 HW.out.size); clear hr20 hb20)
    | (go_at_call 53; (with_reducible refine (compact_calls s1 v20 _ w.heap.size _ HR20.out).mono ?_); rintro e w21 ⟨v21, rfl, hr21, hg21, he21⟩; have HB21 := zaa.mk (HB20.out.grown hg21 HB20.out.size (own_base (Kd.own_of_R HR20.out))); have HR21 := zaa.mk hr21; clear hr21 hg21 he21))
   go_ret2
   refine ⟨_, rfl, ?_, HB21.out⟩
   rw [← E1.out, ← compact_fold]
   exact HR21.out
  ·go_wp2_with (first
    | (go_at_call 54; (with_reducible refine (clone_calls B2 d2 s2 _ R2.out HZ'.out.2.2.1 (by have := HL.out; omega)).mono ?_); rintro e w20 ⟨v20, rfl, hr20, hb20⟩; have HB20 := zaa.mk (zah HW.out hb20); have HR20 := zaa.mk (Kd.R_lower hr20 HW.out.size); clear hr20 hb20)
    | (go_at_call 53; (with_reducible refine (compact_calls s2 v20 _ w.heap.size _ HR20.out).mono ?_); rintro e w21 ⟨v21, rfl, hr21, hg21, he21⟩; have HB21 := zaa.mk (HB20.out.grown hg21 HB20.out.size (own_base (Kd.own_of_R HR20.out))); have HR21 := zaa.mk hr21; clear hr21 hg21 he21))
   go_ret2
   refine ⟨_, rfl, ?_, HB21.out⟩
   rw [← E2.out, ← compact_fold]
   exact HR21.out
  ·go_wp2_with (first
    | (go_at_call 54; (with_reducible refine (clone_calls B3 d3 s3 _ R3.out HZ'.out.2.2.2 (by have := HL.out; omega)).mono ?_); rintro e w20 ⟨v20, rfl, hr20, hb20⟩; have HB20 := zaa.mk (zah HW.out hb20); have HR20 := zaa.mk (Kd.R_lower hr20 HW.out.size); clear hr20 hb20)
    | (go_at_call 53; (with_reducible refine (compact_calls s3 v20 _ w.heap.size _ HR20.out).mono ?_); rintro e w21 ⟨v21, rfl, hr21, hg21, he21⟩; have HB21 := zaa.mk (HB20.out.grown hg21 HB20.out.size (own_base (Kd.own_of_R HR20.out))); have HR21 := zaa.mk hr21; clear hr21 hg21 he21))
   go_ret2
   refine ⟨_, rfl, ?_, HB21.out⟩
   rw [← E3.out, ← compact_fold]
   exact HR21.out
end Go.Proofs.Ytickdcegnlldjaa.Hd
namespace Go.Proofs.Ytickdcegnlldjaa.Hd
open Go.RowKit Go.PW.PrintWords Go.PW.PrintLast Go.PW.PrintMore Go.Proofs.Ytickdcegnlldjaa.PB
set_option maxHeartbeats 4000000 in
set_option maxRecDepth 100000 in
theorem NearOut_calls (A0 : Option Addr) (c0 : Nat) (l0 : List ByteArray) (sd : Int) (w : World) (hr0 : Kd.C Kd.string w A0 l0.length l0) (hc0 : l0.length ≤ c0) (hp : smallP l0) :
  Calls Try.prog 15 #[.slice A0 l0.length c0, .int .i64 sd] w fun e w' => ∃ v0_ : Value, e = .returned (.tuple #[v0_, .bool (nearOutF l0 sd).2]) ∧ Kd.R (Kd.int .i64) 3 w' w.heap.size (fun _ => True) v0_ (nearOutF l0 sd).1 ∧ Below w.heap.size w w' := by
 rcases hF : zcr l0 with _ | ⟨cs, rs⟩
 ·have e : nearOutF l0 sd = ([], false) := by unfold nearOutF; rw [hF]
  rw [e]
  have HR := zaa.mk hr0
  have HC := zaa.mk hc0
  have HP := zaa.mk hp
  have HF := zaa.mk hF
  clear hr0 hc0 hp hF e
  go_enter Try.func15, Try.ntmps15
  go_wp2_with (first
   | (go_at_call 49; refine (floorOf_calls A0 c0 l0 _ HR.out HC.out HP.out).mono ?_; rw [HF.out]; rintro e w8 ⟨hb8, v8, b8, rfl, rfl⟩; have HB8 := zaa.mk hb8; clear hb8))
  go_ret2
  exact ⟨_, rfl, Kd.R_nil _ _ _ _ _, HB8.out⟩
 ·by_cases h03 : 0 ≤ sd ∧ sd ≤ 3
  ·have e : nearOutF l0 sd = (foldP (sideL cs sd), true) := by unfold nearOutF; rw [hF]; exact if_pos h03
   rw [e]
   exact implOut_in A0 c0 l0 sd w hr0 hc0 hp cs rs hF h03.1 h03.2
  ·have e : nearOutF l0 sd = ([], false) := by unfold nearOutF; rw [hF]; exact if_neg h03
   rw [e]
   have HR := zaa.mk hr0
   have HC := zaa.mk hc0
   have HP := zaa.mk hp
   have HF := zaa.mk hF
   clear hr0 hc0 hp hF e
   by_cases hn : sd < 0
   ·clear h03
    go_enter Try.func15, Try.ntmps15
    go_wp2_with (first
     | (go_at_call 49; refine (floorOf_calls A0 c0 l0 _ HR.out HC.out HP.out).mono ?_; rw [HF.out]; rintro e w8 ⟨hb8, v8, b8, rfl, rfl, g, rfl, hfl⟩; have HB8 := zaa.mk hb8; clear hb8 hfl))
    go_ret2
    exact ⟨_, rfl, Kd.R_nil _ _ _ _ _, HB8.out⟩
   ·have hg : 3 < sd := by omega
    clear h03
    have hd : decide (sd < 0) = false := decide_eq_false hn
    go_enter Try.func15, Try.ntmps15
    go_wp2_with (first
     | (go_at_call 49; refine (floorOf_calls A0 c0 l0 _ HR.out HC.out HP.out).mono ?_; rw [HF.out]; rintro e w8 ⟨hb8, v8, b8, rfl, rfl, g, rfl, hfl⟩; have HB8 := zaa.mk hb8; clear hb8 hfl))
    go_ret2
    exact ⟨_, rfl, Kd.R_nil _ _ _ _ _, HB8.out⟩
def impl_NearOut.f (l0 : List ByteArray) (a1 : Int) : Option (List Int × Bool) := if smallB l0 = true then some (nearOutF l0 a1) else none
theorem impl_NearOut.calls (A0 : Option Addr) (c0 : Nat) (l0 : List ByteArray) (a1 : Int) (r1 : List Int) (r2 : Bool) (w : World) (hr0 : Kd.C Kd.string w A0 l0.length l0) (hc0 : l0.length ≤ c0) (h : impl_NearOut.f l0 a1 = some (r1, r2)) :
  Calls Try.prog 15 #[.slice A0 l0.length c0, .int .i64 a1] w fun e w' => ∃ v0_ : Value, e = .returned (.tuple #[v0_, .bool r2]) ∧ Kd.R (Kd.int .i64) 3 w' w.heap.size (fun _ => True) v0_ r1 ∧ Below w.heap.size w w' := by
 unfold impl_NearOut.f at h
 split at h
 ·rename_i hs
  have e := Option.some.inj h
  have := NearOut_calls A0 c0 l0 a1 w hr0 hc0 ((smallB_iff _).1 hs)
  rw [e] at this
  exact this
 ·cases h
theorem sideL_length {cs : List (List Int)} {rs : List Rc} (h : zcm cs rs) (sd : Int) : 1 ≤ (sideL cs sd).length ∧ (sideL cs sd).length ≤ 6 := by
 have h1 := h.h1
 have h6 := h.h6
 have w1 := h.w1
 have w6 := h.w6
 unfold sideL
 split
 ·simp; omega
 ·split
  ·simp; omega
  ·split <;> simp <;> omega
def impl_WallEnds.f (l0 : List ByteArray) : Option (Int × Bool) := if smallB l0 = true then some (zcp l0) else none
theorem impl_WallEnds.calls (A0 : Option Addr) (c0 : Nat) (l0 : List ByteArray) (r1 : Int) (r2 : Bool) (w : World) (hr0 : Kd.C Kd.string w A0 l0.length l0) (hc0 : l0.length ≤ c0) (h : impl_WallEnds.f l0 = some (r1, r2)) :
  Calls Try.prog 25 #[.slice A0 l0.length c0] w fun e w' => e = .returned (.tuple #[.int .i64 r1, .bool r2]) ∧ Below w.heap.size w w' := by
 unfold impl_WallEnds.f at h
 split at h
 ·rename_i hs
  have e := Option.some.inj h
  have := WallEnds_calls A0 c0 l0 w hr0 hc0 ((smallB_iff _).1 hs)
  rw [e] at this
  exact this
 ·cases h
end Go.Proofs.Ytickdcegnlldjaa.Hd
namespace Go.Proofs.Ytickdcegnlldjaa.EN
open Go.Proofs.Ytickdcegnlldjaa.PB Go.Proofs.Ytickdcegnlldjaa.Hd Go.Proofs.Ytickdcegnlldjaa.SM
open Go.RowKit Go.PW.PrintWords Go.PW.PrintLast Go.PW.PrintMore
attribute [local go_sem] zbx zbv zck zcj zbq zbp zbw zbu   -- for this text's walks alone
def errW : Option Int → Value
 | none => .nilIface
 | some c => .iface 0 (.int .i64 c)
theorem zaq : errW none = .nilIface := rfl
theorem zap (c : Int) : errW (some c) = .iface 0 (.int .i64 c) := rfl
theorem info5 : (Try.prog.info? 5).map (fun i => (i.zero, i.size, i.bytes)) = some (some (.int .u8 0), 1, 1) := by kernel_rfl
theorem info9 : (Try.prog.info? 9).map (fun i => (i.zero, i.size, i.bytes)) = some (some (.string ⟨#[]⟩), 1, 16) := by kernel_rfl
theorem info24 : (Try.prog.info? 24).map (fun i => (i.zero, i.size, i.bytes)) = some (some (.slice none 0 0), 1, 24) := by kernel_rfl
theorem info72 : (Try.prog.info? 72).map (fun i => (i.zero, i.size, i.bytes)) = some (some (.agg #[(.bool false), (.int .i64 0), (.int .i64 0), (.int .i64 0)]), 4, 32) := by kernel_rfl
structure S120 where
 f0 : Int
 f1 : Int
 f2 : Int
 f3 : Int
def z120 : S120 := ⟨(0 : Int), (0 : Int), (0 : Int), (0 : Int)⟩
def k120 : Kd S120 := Kd.iso (Kd.pair (Kd.int .i64) (Kd.pair (Kd.int .i64) (Kd.pair (Kd.int .i64) (Kd.int .i64)))) (fun x : S120 => (x.f0, x.f1, x.f2, x.f3))
theorem k120_open {w : World} {x : S120} {cs : List Value} (h : k120.K w x cs) : cs = [.int .i64 x.f0, .int .i64 x.f1, .int .i64 x.f2, .int .i64 x.f3] := by
 obtain ⟨_, _, rfl, rfl, ⟨_, _, rfl, rfl, ⟨_, _, rfl, rfl, rfl⟩⟩⟩ := h
 exact rfl
theorem k120_mkM (w : World) (base : Nat) (ok : Nat → Prop) (x : S120)  : k120.M w base ok x [.int .i64 x.f0, .int .i64 x.f1, .int .i64 x.f2, .int .i64 x.f3] := ⟨[.int .i64 x.f0], [.int .i64 x.f1, .int .i64 x.f2, .int .i64 x.f3], rfl, rfl, ⟨[.int .i64 x.f1], [.int .i64 x.f2, .int .i64 x.f3], rfl, rfl, ⟨[.int .i64 x.f2], [.int .i64 x.f3], rfl, rfl, rfl⟩⟩⟩
def rd_T120 (xs : List S120) (i : Int) : S120 := xs.getD i.toNat z120
theorem at_T120 {w : World} {A : Option Addr} {n : Nat} {xs : List S120} (h : Kd.C k120 w A n xs) (i : Int) (h0 : 0 ≤ i) (h1 : i < n) : ∃ ad , A = some ad ∧ w.cell? (ad.add (i.toNat * 4)) = some (.int .i64 (rd_T120 xs i).f0) ∧ w.cell? ⟨(ad.add (i.toNat * 4)).block, (ad.add (i.toNat * 4)).off + 1, none⟩ = some (.int .i64 (rd_T120 xs i).f1) ∧ w.cell? ⟨(ad.add (i.toNat * 4)).block, (ad.add (i.toNat * 4)).off + 2, none⟩ = some (.int .i64 (rd_T120 xs i).f2) ∧ w.cell? ⟨(ad.add (i.toNat * 4)).block, (ad.add (i.toNat * 4)).off + 3, none⟩ = some (.int .i64 (rd_T120 xs i).f3) := by
 obtain ⟨ad, c, e, _, hK, hc0⟩ := Kd.C_get h z120 i h0 h1
 have hc : ∀ j u, c[j]? = some u → w.cell? (ad.add (i.toNat * 4 + j)) = some u := hc0
 obtain rfl := k120_open hK
 exact ⟨ad, e, hc 0 _ rfl, by rw [← add_field _ _ 1 (by omega)]; exact hc 1 _ rfl, by rw [← add_field _ _ 2 (by omega)]; exact hc 2 _ rfl, by rw [← add_field _ _ 3 (by omega)]; exact hc 3 _ rfl⟩
structure S72 where
 f0 : Bool
 f1 : Int
 f2 : Int
 f3 : Int
def z72 : S72 := ⟨false, (0 : Int), (0 : Int), (0 : Int)⟩
def k72 : Kd S72 := Kd.iso (Kd.pair Kd.bool (Kd.pair (Kd.int .i64) (Kd.pair (Kd.int .i64) (Kd.int .i64)))) (fun x : S72 => (x.f0, x.f1, x.f2, x.f3))
theorem k72_open {w : World} {x : S72} {cs : List Value} (h : k72.K w x cs) : cs = [.bool x.f0, .int .i64 x.f1, .int .i64 x.f2, .int .i64 x.f3] := by
 obtain ⟨_, _, rfl, rfl, ⟨_, _, rfl, rfl, ⟨_, _, rfl, rfl, rfl⟩⟩⟩ := h
 exact rfl
theorem k72_openM {w : World} {base : Nat} {ok : Nat → Prop} {x : S72} {cs : List Value} (h : k72.M w base ok x cs) : cs = [.bool x.f0, .int .i64 x.f1, .int .i64 x.f2, .int .i64 x.f3] := by
 obtain ⟨_, _, rfl, rfl, ⟨_, _, rfl, rfl, ⟨_, _, rfl, rfl, rfl⟩⟩⟩ := h
 exact rfl
theorem k72_mkM (w : World) (base : Nat) (ok : Nat → Prop) (x : S72)  : k72.M w base ok x [.bool x.f0, .int .i64 x.f1, .int .i64 x.f2, .int .i64 x.f3] := ⟨[.bool x.f0], [.int .i64 x.f1, .int .i64 x.f2, .int .i64 x.f3], rfl, rfl, ⟨[.int .i64 x.f1], [.int .i64 x.f2, .int .i64 x.f3], rfl, rfl, ⟨[.int .i64 x.f2], [.int .i64 x.f3], rfl, rfl, rfl⟩⟩⟩
def zcb (xs : List S72) (i : Int) : S72 := xs.getD i.toNat z72
theorem at_T72 {w : World} {A : Option Addr} {n : Nat} {xs : List S72} (h : Kd.C k72 w A n xs) (i : Int) (h0 : 0 ≤ i) (h1 : i < n) : ∃ ad , A = some ad ∧ w.cell? (ad.add (i.toNat * 4)) = some (.bool (zcb xs i).f0) ∧ w.cell? ⟨(ad.add (i.toNat * 4)).block, (ad.add (i.toNat * 4)).off + 1, none⟩ = some (.int .i64 (zcb xs i).f1) ∧ w.cell? ⟨(ad.add (i.toNat * 4)).block, (ad.add (i.toNat * 4)).off + 2, none⟩ = some (.int .i64 (zcb xs i).f2) ∧ w.cell? ⟨(ad.add (i.toNat * 4)).block, (ad.add (i.toNat * 4)).off + 3, none⟩ = some (.int .i64 (zcb xs i).f3) := by
 obtain ⟨ad, c, e, _, hK, hc0⟩ := Kd.C_get h z72 i h0 h1
 have hc : ∀ j u, c[j]? = some u → w.cell? (ad.add (i.toNat * 4 + j)) = some u := hc0
 obtain rfl := k72_open hK
 exact ⟨ad, e, hc 0 _ rfl, by rw [← add_field _ _ 1 (by omega)]; exact hc 1 _ rfl, by rw [← add_field _ _ 2 (by omega)]; exact hc 2 _ rfl, by rw [← add_field _ _ 3 (by omega)]; exact hc 3 _ rfl⟩
end Go.Proofs.Ytickdcegnlldjaa.EN
namespace Go.Proofs.Ytickdcegnlldjaa.EN
open Go.Proofs.Ytickdcegnlldjaa.PB Go.Proofs.Ytickdcegnlldjaa.Hd Go.Proofs.Ytickdcegnlldjaa.SM
open Go.RowKit Go.PW.PrintWords Go.PW.PrintLast Go.PW.PrintMore
attribute [local go_sem] zbx zbv zck zcj zbq zbp zbw zbu   -- for this text's walks alone
mutual
def laws_FnEnds.j0 : Nat → List ByteArray → Int → Bool → Int → Bool → Bool → Option (Bool)
 | 0, _, _, _, _, _, _ => none
 | k + 1, x3, x4, x5, x6, x7, x38 => if x38 = true then (if (x5 == x7) = true then (some (x4 == x6)) else (some false)) else (laws_FnEnds.l0 k x3 x4 0 0)
def laws_FnEnds.l0 : Nat → List ByteArray → Int → Int → Int → Option (Bool)
 | 0, _, _, _, _ => none
 | k + 1, x3, x4, x8, x9 => if x9 < 4 then ((impl_NearOut.f x3 x9).bind fun bt424 => (if bt424.2 = true then (laws_FnEnds.l0 k x3 x4 (wrap64 (x8 + (bt424.1.length : Int))) (wrap64 (x9 + 1))) else (some false))) else (some (x8 == (wrap64 (x4 + 4))))
end
def laws_FnEnds.f (k : Nat) (l0 : List Int) : Option (Bool) := if (l0.length : Int) > 1048576 then (some true) else ((spec_DrawWallEnds.f k l0).bind fun t417 => ((impl_WallEnds.f t417).bind fun bt420 => ((spec_WallEnds.f k t417).bind fun bt422 => (if (bt420.2 != bt422.2) = true then (laws_FnEnds.j0 k t417 bt420.1 bt420.2 bt422.1 bt422.2 true) else (if bt420.1 = bt422.1 then (laws_FnEnds.j0 k t417 bt420.1 bt420.2 bt422.1 bt422.2 (!bt420.2)) else (laws_FnEnds.j0 k t417 bt420.1 bt420.2 bt422.1 bt422.2 true))))))
set_option maxHeartbeats 8000000 in
set_option maxRecDepth 100000 in
theorem laws_FnEnds.calls (k : Nat) (A0 : Option Addr) (c0 : Nat) (l0 : List Int) (r : Bool) (w : World) (hr0 : Kd.C (Kd.int .u8) w A0 l0.length l0) (hc0 : l0.length ≤ c0) (h : laws_FnEnds.f k l0 = some r) :
  Calls Try.prog 5 #[.slice A0 l0.length c0] w fun e w' => e = .returned (.bool r) ∧ Below w.heap.size w w' := by
 have HR0 := zaa.mk hr0
 have HC0 := zaa.mk hc0
 clear hr0 hc0
 have HB := zaa.mk (Below.refl w.heap.size w)
 have H : (if (l0.length : Int) > 1048576 then (some true) else ((spec_DrawWallEnds.f k l0).bind fun t417 => ((impl_WallEnds.f t417).bind fun bt420 => ((spec_WallEnds.f k t417).bind fun bt422 => (if (bt420.2 != bt422.2) = true then (laws_FnEnds.j0 k t417 bt420.1 bt420.2 bt422.1 bt422.2 true) else (if bt420.1 = bt422.1 then (laws_FnEnds.j0 k t417 bt420.1 bt420.2 bt422.1 bt422.2 (!bt420.2)) else (laws_FnEnds.j0 k t417 bt420.1 bt420.2 bt422.1 bt422.2 true))))))) = some r := h
 clear h
 by_cases c2 : (l0.length : Int) > 1048576
 ·rw [if_pos c2] at H
  have c2b0 : decide (1048576 < (l0.length : Int)) = true := decide_eq_true c2
  have c2b1 : decide (1048576 < l0.length) = true := decide_eq_true (by omega)
  clear c2
  obtain rfl := Option.some.inj H
  go_enter Try.func5, Try.ntmps5
  go_wp2
  go_ret
  exact ⟨by first | rfl | (simp [zaq, zap] <;> rfl) | (simp [*, zaq, zap] <;> rfl), by repeat (first | (with_reducible first | exact HB.out | apply zac | apply zab | apply zad) | exact HB.out)⟩
 ·rw [if_neg c2] at H
  have c2b0 : decide (1048576 < (l0.length : Int)) = false := decide_eq_false c2
  have c2b1 : decide (1048576 < l0.length) = false := decide_eq_false (by omega)
  clear c2
  replace H := Option.bind_eq_some_iff.mp H
  obtain ⟨t417, A30, H⟩ := H
  replace H : ((impl_WallEnds.f t417).bind fun bt420 => ((spec_WallEnds.f k t417).bind fun bt422 => (if (bt420.2 != bt422.2) = true then (laws_FnEnds.j0 k t417 bt420.1 bt420.2 bt422.1 bt422.2 true) else (if bt420.1 = bt422.1 then (laws_FnEnds.j0 k t417 bt420.1 bt420.2 bt422.1 bt422.2 (!bt420.2)) else (laws_FnEnds.j0 k t417 bt420.1 bt420.2 bt422.1 bt422.2 true))))) = some r := H
  have A3 := zaa.mk A30
  clear A30
  replace H := Option.bind_eq_some_iff.mp H
  obtain ⟨⟨t420, t421⟩, A40, H⟩ := H
  replace H : ((spec_WallEnds.f k t417).bind fun bt422 => (if (t421 != bt422.2) = true then (laws_FnEnds.j0 k t417 t420 t421 bt422.1 bt422.2 true) else (if t420 = bt422.1 then (laws_FnEnds.j0 k t417 t420 t421 bt422.1 bt422.2 (!t421)) else (laws_FnEnds.j0 k t417 t420 t421 bt422.1 bt422.2 true)))) = some r := H
  have A4 := zaa.mk A40
  clear A40
  replace H := Option.bind_eq_some_iff.mp H
  obtain ⟨⟨t422, t423⟩, A50, H⟩ := H
  replace H : (if (t421 != t423) = true then (laws_FnEnds.j0 k t417 t420 t421 t422 t423 true) else (if t420 = t422 then (laws_FnEnds.j0 k t417 t420 t421 t422 t423 (!t421)) else (laws_FnEnds.j0 k t417 t420 t421 t422 t423 true))) = some r := H
  have A5 := zaa.mk A50
  clear A50
  have HC6 := zaa.mk H
  clear H
  go_enter Try.func5, Try.ntmps5
  go_upto_region 6 with (first | ((with_reducible refine zas (f := 24) rfl ?_); refine zbk (some 16) rfl rfl Try.func24 (by kernel_rfl) rfl #[.slice A0 l0.length c0] rfl (by (try simp only [List.map_toArray, List.map_cons, List.map_nil]); first | done | rfl | (simp only [List.length_drop, List.length_take]; rfl)) ?_; (with_reducible refine (spec_DrawWallEnds.calls k _ _ l0 t417 _ ?side1 ?side2 A3.out).mono ?_); (case side1 => repeat (first | exact HR0.out | (with_reducible refine Kd.C_alloc ?_ _) | (with_reducible refine Kd.C_drewN ?_ _) | (with_reducible refine Kd.C_drew ?_))); (case side2 => exact HC0.out); rintro e w7 ⟨v418, rfl, ho0, hb⟩; refine ⟨_, rfl, ?_⟩; have n0_ := zaa.mk (Kd.V_lower (Kd.V_mono (ok' := fun k_ => True) ho0 (fun k_ hk_ => trivial)) (zam (by repeat (first | (with_reducible first | exact HB.out | apply zac | apply zab | apply zad) | exact HB.out)))); have n1_ := zaa.mk (zah (by repeat (first | (with_reducible first | exact HB.out | apply zac | apply zab | apply zad) | exact HB.out)) hb); clear HB; have HO419 := n0_; have HB := n1_; clear n0_ n1_; (try clear hb); (try clear hb2); (try clear hk); (try clear hi); (try clear ho0); obtain ⟨Ao8, co8, eo8⟩ := Kd.V_slice HO419.out; subst eo8) | ((with_reducible refine zas (f := 25) rfl ?_); refine zbk (some 19) rfl rfl Try.func25 (by kernel_rfl) rfl #[.slice Ao8 t417.length co8] rfl (by (try simp only [List.map_toArray, List.map_cons, List.map_nil]); first | done | rfl | (simp only [List.length_drop, List.length_take]; rfl)) ?_; (with_reducible refine (impl_WallEnds.calls _ _ t417 t420 t421 _ ?side1 ?side2 A4.out).mono ?_); (case side1 => repeat (first | exact (Kd.V_reads' HO419.out).2.2 | (with_reducible refine Kd.C_alloc ?_ _) | (with_reducible refine Kd.C_drewN ?_ _) | (with_reducible refine Kd.C_drew ?_))); (case side2 => exact (Kd.V_reads' HO419.out).2.1); rintro e w9 ⟨rfl, hb⟩; refine ⟨_, rfl, ?_⟩; have n0_ := zaa.mk (Kd.V_below (by (with_reducible repeat (first | apply Kd.V_alloc | apply Kd.V_drewN | apply Kd.V_drew)); exact HO419.out) hb); have n1_ := zaa.mk (zah (by repeat (first | (with_reducible first | exact HB.out | apply zac | apply zab | apply zad) | exact HB.out)) hb); clear HO419; clear HB; have HO419 := n0_; have HB := n1_; clear n0_ n1_; (try clear hb); (try clear hb2); (try clear hk); (try clear hi)) | ((with_reducible refine zas (f := 26) rfl ?_); refine zbk (some 24) rfl rfl Try.func26 (by kernel_rfl) rfl #[.slice Ao8 t417.length co8] rfl (by (try simp only [List.map_toArray, List.map_cons, List.map_nil]); first | done | rfl | (simp only [List.length_drop, List.length_take]; rfl)) ?_; (with_reducible refine (spec_WallEnds.calls k _ _ t417 t422 t423 _ ?side1 ?side2 A5.out).mono ?_); (case side1 => repeat (first | exact (Kd.V_reads' HO419.out).2.2 | (with_reducible refine Kd.C_alloc ?_ _) | (with_reducible refine Kd.C_drewN ?_ _) | (with_reducible refine Kd.C_drew ?_))); (case side2 => exact (Kd.V_reads' HO419.out).2.1); rintro e w10 ⟨rfl, hb⟩; refine ⟨_, rfl, ?_⟩; have n0_ := zaa.mk (Kd.V_below (by (with_reducible repeat (first | apply Kd.V_alloc | apply Kd.V_drewN | apply Kd.V_drew)); exact HO419.out) hb); have n1_ := zaa.mk (zah (by repeat (first | (with_reducible first | exact HB.out | apply zac | apply zab | apply zad) | exact HB.out)) hb); clear HO419; clear HB; have HO419 := n0_; have HB := n1_; clear n0_ n1_; (try clear hb); (try clear hb2); (try clear hk); (try clear hi)))
  (try simp only [Act.put, List.setIfInBounds_toArray, List.set_cons_zero, List.set_cons_succ])
  go_cut [38] (fun v38 wc => ∃ (kq : Nat) (x38_5 : Bool), v38 = .bool x38_5 ∧ zaa (laws_FnEnds.j0 kq t417 t420 t421 t422 t423 x38_5 = some r) ∧ zaa (kq ≤ k) ∧ zaa (Kd.V Kd.string 9 wc w.heap.size (fun _ => True) (.slice Ao8 t417.length co8) t417) ∧ zaa (Below w.heap.size w wc))
  case first =>
   have H := HC6.out
   clear HC6
   by_cases c11 : (t421 != t423) = true
   ·rw [if_pos c11] at H
    have c11b0 : (t421 != t423) = true := c11
    (try (have c11b1 : decide (t421 = t423) = false := by simpa using c11))
    (try (have c11b2 : (t421 == t423) = false := by simpa using c11))
    (try (have c11b3 : ¬ (t421 = t423) := by simpa using c11))
    clear c11
    (first | rw [c11b0] | (simp only [zat, zav]; rw [c11b0]) | skip)
    have H' := zaa.mk H
    clear H
    go_wp2
    go_meet
    case rel => exact ⟨_, (true), (by first | rfl | (simp; done) | (simp [*]; done)), H', ⟨by first | omega | exact Nat.le_refl _⟩, ⟨by (with_reducible repeat (first | apply Kd.V_alloc | apply Kd.V_drewN | apply Kd.V_drew)); exact HO419.out⟩, ⟨by repeat (first | (with_reducible first | exact HB.out | apply zac | apply zab | apply zad) | exact HB.out)⟩⟩
   ·rw [if_neg c11] at H
    have c11b0 : (t421 != t423) = false := by simpa using c11
    (try (have c11b1 : decide (t421 = t423) = true := by simpa using c11))
    (try (have c11b2 : (t421 == t423) = true := by simpa using c11))
    clear c11
    (first | rw [c11b0] | (simp only [zat, zav]; rw [c11b0]) | skip)
    by_cases c12 : t420 = t422
    ·rw [if_pos c12] at H
     have c12b0 : (t420 == t422) = true := beq_iff_eq.mpr c12
     have c12b1 : (t420 != t422) = false := bne_eq_false_iff_eq.mpr c12
     clear c12
     have H' := zaa.mk H
     clear H
     go_wp2
     go_meet
     case rel => exact ⟨_, (!t421), (by first | rfl | (simp; done) | (simp [*]; done)), H', ⟨by first | omega | exact Nat.le_refl _⟩, ⟨by (with_reducible repeat (first | apply Kd.V_alloc | apply Kd.V_drewN | apply Kd.V_drew)); exact HO419.out⟩, ⟨by repeat (first | (with_reducible first | exact HB.out | apply zac | apply zab | apply zad) | exact HB.out)⟩⟩
    ·rw [if_neg c12] at H
     have c12b0 : (t420 == t422) = false := beq_eq_false_iff_ne.mpr c12
     have c12b1 : (t420 != t422) = true := bne_iff_ne.mpr c12
     have H' := zaa.mk H
     clear H
     go_wp2
     go_meet
     case rel => exact ⟨_, (true), (by first | rfl | (simp; done) | (simp [*]; done)), H', ⟨by first | omega | exact Nat.le_refl _⟩, ⟨by (with_reducible repeat (first | apply Kd.V_alloc | apply Kd.V_drewN | apply Kd.V_drew)); exact HO419.out⟩, ⟨by repeat (first | (with_reducible first | exact HB.out | apply zac | apply zab | apply zad) | exact HB.out)⟩⟩
  case rest =>
   clear HC6
   try clear c1
   try clear c2
   try clear c2b0
   try clear c2b1
   try clear p2
   try clear c5
   try clear c11
   try clear c11b0
   try clear c11b1
   try clear c11b2
   try clear c12
   try clear c12b0
   try clear c12b1
   obtain ⟨kq, x38_5, rfl, HA, HJ5, HO_3, HB⟩ := hcut
   cases kq with
   | zero => exact absurd HA.out (by simp [laws_FnEnds.j0])
   | succ kj5 =>
    have H := HA.out
    clear HA
    simp only [laws_FnEnds.j0] at H
    by_cases c13 : x38_5 = true
    ·subst c13
     have H1 : (if (t421 == t423) = true then (some (t420 == t422)) else (some false)) = some r := by rw [if_pos rfl] at H; exact H
     clear H
     have H := H1
     clear H1
     by_cases c14 : (t421 == t423) = true
     ·rw [if_pos c14] at H
      have c14b0 : (t421 == t423) = true := c14
      (try (have c14b1 : decide (t421 = t423) = true := by simpa using c14))
      (try (have c14b2 : (t421 == t423) = true := by simpa using c14))
      clear c14
      obtain rfl := Option.some.inj H
      go_wp2
      go_ret
      exact ⟨by first | rfl | (simp [zaq, zap] <;> rfl) | (simp [*, zaq, zap] <;> rfl), by repeat (first | (with_reducible first | exact HB.out | apply zac | apply zab | apply zad) | exact HB.out)⟩
     ·rw [if_neg c14] at H
      have c14b0 : (t421 == t423) = false := by simpa using c14
      (try (have c14b1 : decide (t421 = t423) = false := by simpa using c14))
      (try (have c14b2 : (t421 == t423) = false := by simpa using c14))
      (try (have c14b3 : ¬ (t421 = t423) := by simpa using c14))
      clear c14
      obtain rfl := Option.some.inj H
      go_wp2
      go_ret
      exact ⟨by first | rfl | (simp [zaq, zap] <;> rfl) | (simp [*, zaq, zap] <;> rfl), by repeat (first | (with_reducible first | exact HB.out | apply zac | apply zab | apply zad) | exact HB.out)⟩
    ·replace c13 := Bool.eq_false_iff.mpr c13
     subst c13
     have H1 : (laws_FnEnds.l0 kj5 t417 t420 0 0) = some r := by rw [if_neg (show ¬ (false = true) by decide)] at H; exact H
     clear H
     have H := H1
     clear H1
     have H' := zaa.mk H
     clear H
     go_wp2
     go_loopg [8, 9] kj5 (fun kq v8 v9 w' => ∃ (x8_2 : Int) (x9_2 : Int), v8 = .int .i64 x8_2 ∧ v9 = .int .i64 x9_2 ∧ zaa (laws_FnEnds.l0 kq t417 t420 x8_2 x9_2 = some r) ∧ zaa (kq ≤ kj5) ∧ zaa (Kd.V Kd.string 9 w' w.heap.size (fun _ => True) (.slice Ao8 t417.length co8) t417) ∧ zaa (Below w.heap.size w w'))
     case atStart => exact ⟨(0), (0), (by first | rfl | (simp; done) | (simp [*]; done)), (by first | rfl | (simp; done) | (simp [*]; done)), H', ⟨Nat.le_refl _⟩, ⟨by (with_reducible repeat (first | apply Kd.V_alloc | apply Kd.V_drewN | apply Kd.V_drew)); exact HO_3.out⟩, ⟨by repeat (first | (with_reducible first | exact HB.out | apply zac | apply zab | apply zad) | exact HB.out)⟩⟩
     case round =>
      clear H'
      try clear c1
      try clear c2
      try clear c2b0
      try clear c2b1
      try clear p2
      try clear c5
      try clear c11
      try clear c11b0
      try clear c11b1
      try clear c11b2
      try clear c12
      try clear c12b0
      try clear c12b1
      try clear c13
      try clear c14
      try clear c14b0
      try clear c14b1
      try clear c14b2
      try clear p2
      obtain ⟨x8_2, x9_2, rfl, rfl, HA, HK2, HO_3, HB⟩ := hrel
      cases gk with
      | zero => exact absurd HA.out (by simp [laws_FnEnds.l0])
      | succ k2 =>
       have H := HA.out
       clear HA
       simp only [laws_FnEnds.l0] at H
       by_cases c15 : x9_2 < 4
       ·rw [if_pos c15] at H
        have c15b0 : decide (x9_2 < 4) = true := decide_eq_true c15
        clear c15
        replace H := Option.bind_eq_some_iff.mp H
        obtain ⟨⟨t424, t425⟩, A160, H⟩ := H
        replace H : (if t425 = true then (laws_FnEnds.l0 k2 t417 t420 (wrap64 (x8_2 + (t424.length : Int))) (wrap64 (x9_2 + 1))) else (some false)) = some r := H
        have A16 := zaa.mk A160
        clear A160
        by_cases c17 : t425 = true
        ·subst c17
         have H1 : (laws_FnEnds.l0 k2 t417 t420 (wrap64 (x8_2 + (t424.length : Int))) (wrap64 (x9_2 + 1))) = some r := by rw [if_pos rfl] at H; exact H
         clear H
         have H := H1
         clear H1
         have H' := zaa.mk H
         clear H
         go_wp2_with (first | ((with_reducible refine zas (f := 15) rfl ?_); refine zbk (some 54) rfl rfl Try.func15 (by kernel_rfl) rfl #[.slice Ao8 t417.length co8, .int .i64 x9_2] rfl (by (try simp only [List.map_toArray, List.map_cons, List.map_nil]); first | done | rfl | (simp only [List.length_drop, List.length_take]; rfl)) ?_; (with_reducible refine (impl_NearOut.calls _ _ t417 x9_2 t424 true _ ?side1 ?side2 A16.out).mono ?_); (case side1 => repeat (first | exact (Kd.V_reads' HO_3.out).2.2 | (with_reducible refine Kd.C_alloc ?_ _) | (with_reducible refine Kd.C_drewN ?_ _) | (with_reducible refine Kd.C_drew ?_))); (case side2 => exact (Kd.V_reads' HO_3.out).2.1); rintro e w18 ⟨v426, rfl, ho0, hb⟩; refine ⟨_, rfl, ?_⟩; have n0_ := zaa.mk (Kd.V_elder' (by (with_reducible repeat (first | apply Kd.V_alloc | apply Kd.V_drewN | apply Kd.V_drew)); exact HO_3.out) (Kd.R_base ho0) hb); have n1_ := zaa.mk (Kd.R_lower ho0 (zam (by repeat (first | (with_reducible first | exact HB.out | apply zac | apply zab | apply zad) | exact HB.out)))); have n2_ := zaa.mk (zah (by repeat (first | (with_reducible first | exact HB.out | apply zac | apply zab | apply zad) | exact HB.out)) hb); clear HO_3; clear HB; have HO_3 := n0_; have HO427 := n1_; have HB := n2_; clear n0_ n1_ n2_; (try clear hb); (try clear hb2); (try clear hk); (try clear hi); (try clear ho0); obtain ⟨Ao19, co19, eo19⟩ := Kd.R_slice HO427.out; subst eo19))
         go_roundg k2
         case measure => have := HJ5.out; have := HK2.out; omega
         case rel => exact ⟨(wrap64 (x8_2 + (t424.length : Int))), (wrap64 (x9_2 + 1)), (by first | rfl | (simp; done) | (simp [*]; done)), (by first | rfl | (simp; done) | (simp [*]; done)), H', ⟨by have := HJ5.out; have := HK2.out; omega⟩, ⟨by (with_reducible repeat (first | apply Kd.V_alloc | apply Kd.V_drewN | apply Kd.V_drew)); exact Kd.V_mono HO_3.out (fun _ hk => trivial)⟩, ⟨by repeat (first | (with_reducible first | exact HB.out | apply zac | apply zab | apply zad) | exact HB.out)⟩⟩
        ·replace c17 := Bool.eq_false_iff.mpr c17
         subst c17
         have H1 : (some false) = some r := by rw [if_neg (show ¬ (false = true) by decide)] at H; exact H
         clear H
         have H := H1
         clear H1
         obtain rfl := Option.some.inj H
         go_wp2_with (first | ((with_reducible refine zas (f := 15) rfl ?_); refine zbk (some 54) rfl rfl Try.func15 (by kernel_rfl) rfl #[.slice Ao8 t417.length co8, .int .i64 x9_2] rfl (by (try simp only [List.map_toArray, List.map_cons, List.map_nil]); first | done | rfl | (simp only [List.length_drop, List.length_take]; rfl)) ?_; (with_reducible refine (impl_NearOut.calls _ _ t417 x9_2 t424 false _ ?side1 ?side2 A16.out).mono ?_); (case side1 => repeat (first | exact (Kd.V_reads' HO_3.out).2.2 | (with_reducible refine Kd.C_alloc ?_ _) | (with_reducible refine Kd.C_drewN ?_ _) | (with_reducible refine Kd.C_drew ?_))); (case side2 => exact (Kd.V_reads' HO_3.out).2.1); rintro e w20 ⟨v426, rfl, ho0, hb⟩; refine ⟨_, rfl, ?_⟩; have n0_ := zaa.mk (Kd.V_elder' (by (with_reducible repeat (first | apply Kd.V_alloc | apply Kd.V_drewN | apply Kd.V_drew)); exact HO_3.out) (Kd.R_base ho0) hb); have n1_ := zaa.mk (Kd.R_lower ho0 (zam (by repeat (first | (with_reducible first | exact HB.out | apply zac | apply zab | apply zad) | exact HB.out)))); have n2_ := zaa.mk (zah (by repeat (first | (with_reducible first | exact HB.out | apply zac | apply zab | apply zad) | exact HB.out)) hb); clear HO_3; clear HB; have HO_3 := n0_; have HO427 := n1_; have HB := n2_; clear n0_ n1_ n2_; (try clear hb); (try clear hb2); (try clear hk); (try clear hi); (try clear ho0)))
         go_ret
         exact ⟨by first | rfl | (simp [zaq, zap] <;> rfl) | (simp [*, zaq, zap] <;> rfl), by repeat (first | (with_reducible first | exact HB.out | apply zac | apply zab | apply zad) | exact HB.out)⟩
       ·rw [if_neg c15] at H
        have c15b0 : decide (x9_2 < 4) = false := decide_eq_false c15
        clear c15
        obtain rfl := Option.some.inj H
        go_wp2
        go_ret
        exact ⟨by first | rfl | (simp [zaq, zap] <;> rfl) | (simp [*, zaq, zap] <;> rfl), by repeat (first | (with_reducible first | exact HB.out | apply zac | apply zab | apply zad) | exact HB.out)⟩
def laws_FnEnds.Pure : Prop := ∀ (l0 : List Int), l0.length ≤ maxLen → l0.length * 1 ≤ 140737488351232 → (∀ x ∈ l0, (Lit.int .u8 x).wf = true) → ∃ k, laws_FnEnds.f k l0 = some true
theorem laws_FnEnds.walk (P : laws_FnEnds.Pure) (a0 : Option Addr) (len0 cap0 : Nat) (z0 : List Int) (w : World) (w0 : (a0 = none ∧ len0 = 0 ∧ cap0 = 0 ∧ z0 = []) ∨ ∃ x, a0 = some x ∧ len0 ≤ cap0 ∧ cap0 ≤ maxLen ∧ z0.length = cap0 ∧ (∀ i, i < z0.length → w.cell? (x.add i) = some (.int .u8 (z0.getD i 0))) ∧ ∀ n ∈ z0, (Lit.int .u8 n).wf = true) (y0 : len0 * 1 ≤ 140737488351232) :
  Calls Try.prog 5 #[.slice a0 len0 cap0] w fun e w' => e = .returned (.bool true) ∧ Below w.heap.size w w' := by
 obtain ⟨l0, rfl, hr0, hm0, hw0, hc0⟩ := zcd.ofRowC w0
 obtain ⟨k, h⟩ := P l0 hm0 y0 hw0
 refine (laws_FnEnds.calls k _ _ l0 true w (Kd.C_of_reads (d := (0 : Int)) (h1 := fun _ => rfl) hr0) hc0 h).mono ?_
 rintro e w' ⟨rfl, hd⟩
 exact ⟨rfl, hd⟩
end Go.Proofs.Ytickdcegnlldjaa.EN
namespace Go.Proofs.Ytickdcegnlldjaa.Hd
open Go.RowKit Go.PW.PrintWords Go.PW.PrintLast Go.PW.PrintMore Go.Proofs.Ytickdcegnlldjaa.PB
structure Lil (p : List ByteArray) : Prop where
 high : p.length ≤ 100
 row : ∀ s ∈ p, s.size ≤ 100
theorem Lil.small {p : List ByteArray} (h : Lil p) : smallP p := ⟨by have := h.high; omega, fun s hs => by have := h.row s hs; omega⟩
theorem Mid.lil {p : List ByteArray} {wi : Nat} (h : Mid p wi) : Lil p := ⟨h.high, fun s hs => by rw [h.row s hs]; exact h.wide⟩
theorem bt_range (s : ByteArray) (j : Nat) (hj : j < s.size) : 0 ≤ bt s (j : Int) ∧ bt s (j : Int) ≤ 255 := by
 obtain ⟨x, hx⟩ : ∃ x, (bytesOf s)[j]? = some x := ⟨_, List.getElem?_eq_getElem (by rw [zbj]; omega)⟩
 have hr := bytesOf_range s x (List.mem_of_getElem? hx)
 rw [← bt_get hx] at hr
 exact hr
theorem roomsA_l1 (p : List ByteArray) (h : Lil p) (i : Nat) (s : ByteArray) (hs : p[i]? = some s) (hnext : ∀ v, 0 ≤ v → v ≤ 255 → ∃ r, 0 ≤ r ∧ r ≤ 255 ∧ Evs (fun k => spec_l1Rooms.l0 k p v ((i + 1 : Nat) : Int)) r) :
  ∀ m j v, j + m = s.size → 0 ≤ v → v ≤ 255 → ∃ r, 0 ≤ r ∧ r ≤ 255 ∧ Evs (fun k => spec_l1Rooms.l1 k p v (i : Int) (j : Int)) r := by
 have h6 := h.high
 have w6 := h.row s (List.mem_of_getElem? hs)
 have hi := (List.getElem?_eq_some_iff.1 hs).1
 intro m
 induction m with
 | zero =>
  intro j v hj v0 v1
  obtain ⟨r, r0, r1, hr⟩ := hnext v v0 v1
  refine ⟨r, r0, r1, Evs.step (fun k => ?_) hr⟩
  conv => lhs; unfold spec_l1Rooms.l1
  rw [if_pos (by omega), if_pos (by omega), zci hs, if_neg (by omega), zbl (by omega)]
 | succ m ih =>
  intro j v hj v0 v1
  have hb := bt_range s j (by omega)
  obtain ⟨r, r0, r1, hr⟩ := ih (j + 1) (max v (bt s (j : Int) - 97 + 1)) (by omega) (by omega) (by omega)
  refine ⟨r, r0, r1, Evs.step (fun k => ?_) hr⟩
  conv => lhs; unfold spec_l1Rooms.l1
  rw [if_pos (by omega), if_pos (by omega), zci hs, if_pos (by omega), if_pos (by omega), zar (x := bt s (j : Int)) (by omega) (by omega), zar (x := bt s (j : Int) - 97) (by omega) (by omega), zar (x := bt s (j : Int) - 97 + 1) (by omega) (by omega), zbl (by omega), mx_max]
theorem roomsA_l0 (p : List ByteArray) (h : Lil p) : ∀ m i v, i + m = p.length → 0 ≤ v → v ≤ 255 → ∃ r, 0 ≤ r ∧ r ≤ 255 ∧ Evs (fun k => spec_l1Rooms.l0 k p v (i : Int)) r := by
 have h6 := h.high
 intro m
 induction m with
 | zero =>
  intro i v hi v0 v1
  refine ⟨v, v0, v1, Evs.step (h := fun _ => some v) (fun k => ?_) (Evs.const _)⟩
  conv => lhs; unfold spec_l1Rooms.l0
  rw [if_neg (by omega)]
 | succ m ih =>
  intro i v hi v0 v1
  obtain ⟨s, hs⟩ : ∃ s, p[i]? = some s := ⟨_, List.getElem?_eq_getElem (by omega)⟩
  obtain ⟨r, r0, r1, hr⟩ := roomsA_l1 p h i s hs (fun v v0 v1 => ih (i + 1) v (by omega) v0 v1) s.size 0 v (by omega) v0 v1
  refine ⟨r, r0, r1, Evs.step (fun k => ?_) hr⟩
  conv => lhs; unfold spec_l1Rooms.l0
  rw [if_pos (by omega)]
  rfl
theorem l1Rooms_any (p : List ByteArray) (h : Lil p) : ∃ r, 0 ≤ r ∧ r ≤ 255 ∧ Evs (fun k => spec_l1Rooms.f k p) r := roomsA_l0 p h p.length 0 0 (by omega) (by omega) (by omega)
theorem bytesOf_putS (s : ByteArray) (l n : Nat) (c : Int) (h0 : 0 ≤ c) (h1 : c ≤ 255) : bytesOf (putS s l n c) = putN (bytesOf s) l n c := by
 unfold putS
 refine bytesOf_strOfNums _ fun x hx => ?_
 unfold putN at hx
 obtain ⟨i, hi, e⟩ := List.mem_iff_getElem.1 hx
 rw [List.getElem_mapIdx] at e
 subst e
 split
 ·exact ⟨h0, h1⟩
 ·exact bytesOf_range s _ (List.getElem_mem _)
def putB (t l h m : Nat) (r c : Nat) : Prop := (t ≤ r ∧ r < t + h) ∧ (l ≤ c ∧ c < l + m)
instance (t l h m r c : Nat) : Decidable (putB t l h m r c) := by unfold putB; exact inferInstance
theorem numsOf_put {p : List ByteArray} {wi : Nat} (hs : Small p wi) (t l h m : Nat) (x : Int) (h0 : 0 ≤ x) (h1 : x ≤ 255) : zao (putR p t h l m x) = zbr p.length wi (fun r c => if putB t l h m r c then x else zbb (zao p) r c) := by
 apply List.ext_getElem?
 intro r
 by_cases hr : r < p.length
 ·rw [gridOf_get hr]
  unfold zao putR
  rw [List.getElem?_map, List.getElem?_mapIdx, List.getElem?_eq_getElem hr]
  simp only [Option.map_some]
  congr 1
  have hsz := hs.row _ (List.getElem_mem hr)
  have hrow : ∀ c, c < wi → (bytesOf p[r])[c]? = some (zbb (zao p) r c) := fun c hc => by
   obtain ⟨row, e1, e2⟩ := valAt_get hs.rect (by rw [zbn]; exact hr) hc
   unfold zao at e1
   rw [List.getElem?_map, List.getElem?_eq_getElem hr] at e1
   have e1 := Option.some.inj e1
   rw [e1]
   exact e2
  apply List.ext_getElem?
  intro c
  by_cases hc : c < wi
  ·rw [List.getElem?_map, List.getElem?_range hc]
   simp only [Option.map_some]
   by_cases ht : t ≤ r ∧ r < t + h
   ·rw [if_pos ht, bytesOf_putS _ _ _ _ h0 h1]
    unfold putN
    rw [List.getElem?_mapIdx, hrow c hc]
    simp only [Option.map_some]
    congr 1
    by_cases hl : l ≤ c ∧ c < l + m
    ·rw [if_pos hl, if_pos ⟨ht, hl⟩]
    ·rw [if_neg hl, if_neg (fun z => hl z.2)]; rfl
   ·rw [if_neg ht, if_neg (fun z => ht z.1)]
    exact hrow c hc
  ·rw [List.getElem?_eq_none (by
    split
    ·rw [bytesOf_putS _ _ _ _ h0 h1, putN_length, zbj]; omega
    ·rw [zbj]; omega), List.getElem?_eq_none (by simp; omega)]
 ·rw [List.getElem?_eq_none (by simp [zao, putR]; omega), List.getElem?_eq_none (by rw [zbo]; omega)]
theorem put_f {p : List ByteArray} {wi : Nat} (hs : Small p wi) (t l h m x : Int) (t0 : 0 ≤ t) (l0 : 0 ≤ l) (h0 : 0 ≤ h) (m0 : 0 ≤ m) (th : t + h ≤ p.length) (lm : l + m ≤ wi) (x0 : 0 ≤ x) (x1 : x ≤ 255) : spec_l1Put.f p t l h m x = some (putR p t.toNat h.toNat l.toNat m.toNat x) := by
 have hh := hs.high
 have hw := hs.wide
 have hall : (p.all fun s => decide (l + m ≤ s.size) && decide (s.size ≤ 1048576)) = true := by
  rw [List.all_eq_true]
  intro s hss
  rw [hs.row s hss, decide_eq_true lm, decide_eq_true (show wi ≤ 1048576 by omega)]
  rfl
 unfold spec_l1Put.f
 rw [if_pos]
 unfold putOk
 rw [hall, decide_eq_true t0, decide_eq_true l0, decide_eq_true h0, decide_eq_true m0, decide_eq_true x0, decide_eq_true x1, decide_eq_true (show p.length ≤ 1048576 by omega), decide_eq_true th, decide_eq_true (show l ≤ 1048576 by omega), decide_eq_true (show m ≤ 1048576 by omega)]
 rfl
theorem small_put {p : List ByteArray} {wi : Nat} (hs : Small p wi) (t h l m : Nat) (x : Int) : smallP (putR p t h l m x) := by
 have hh := hs.high
 have hw := hs.wide
 refine ⟨by rw [putR_length]; omega, fun s hss => ?_⟩
 unfold putR at hss
 obtain ⟨i, hi, e⟩ := List.mem_iff_getElem.1 hss
 rw [List.length_mapIdx] at hi
 rw [List.getElem_mapIdx] at e
 have hr := hs.row _ (List.getElem_mem hi)
 subst e
 split
 ·have hl := zbj p[i]
  show (List.map _ (putN (bytesOf p[i]) l m x)).toArray.size ≤ _
  simp [putN_length]
  omega
 ·rw [hr]; omega
theorem put_done {p : List ByteArray} {cs : List (List Int)} {rs : List Rc} (F : PlanFacts p cs rs) (t h l m : Nat) (x : Int) (x0 : 97 ≤ x) (x1 : x ≤ 122) (f : Int → Int) (hf : ∀ S, InjOn f S) (g : Nat → Nat → Int) (hg : ∀ r c, r < cs.length → c < zan cs → f (g r c) = if putB t l h m r c then x else 97 + zbb cs r c) : doneF (putR p t h l m x) = planF (zbr cs.length (zan cs) g) := by
 have hsm := gridOk_small F.canon.grid
 rw [F.wide] at hsm
 have hn := numsOf_put hsm t l h m x (by omega) (by omega)
 have hv : zao (putR p t h l m x) = mapG f (zbr cs.length (zan cs) g) := by
  rw [hn, mapG_gridOf, F.len]
  refine gridOf_congr fun r c hr hc => ?_
  rw [hg r c hr hc, F.nums, valAt_map F.ok.rect _ hr hc]
 have hok : (putR p t h l m x).all okText = true := by
  rw [List.all_eq_true]
  intro s hs
  refine okText_of fun y hy => ?_
  have hm : bytesOf s ∈ zao (putR p t h l m x) := List.mem_map.2 ⟨s, hs, rfl⟩
  rw [hn, F.len] at hm
  unfold zbr at hm
  obtain ⟨i, hi, e⟩ := List.mem_map.1 hm
  rw [← e] at hy
  obtain ⟨j, hj, rfl⟩ := List.mem_map.1 hy
  have hi := List.mem_range.1 hi
  have hj := List.mem_range.1 hj
  have h1 := valAt_range F.ok i j hi hj
  have h2 := F.ok.many
  dsimp only
  rw [F.nums, valAt_map F.ok.rect _ hi hj]
  split <;> omega
 unfold doneF
 rw [if_pos hok, hv]
 exact plan_map (hf _)
def isH (letter : ByteArray) : Bool := letter.toList == [104]
def isV (letter : ByteArray) : Bool := letter.toList == [118]
theorem isHV {letter : ByteArray} (h : isH letter = true) : isV letter = false := by
 unfold isH at h
 unfold isV
 rw [beq_iff_eq] at h
 rw [h]
 rfl
def behindB (b : Rc) (letter : ByteArray) (k : Int) (r c : Nat) : Bool := (isH letter && decide (b.f0 + k ≤ r)) || (isV letter && decide (b.f1 + k ≤ c))
def splitG (cs : List (List Int)) (rs : List Rc) (room : Int) (letter : ByteArray) (k : Int) (r c : Nat) : Int :=
 if zbb cs r c = room ∧ behindB (rs.getD room.toNat zcg) letter k r c = true then rs.length else zbb cs r c
def splitF (p : List ByteArray) (room : Int) (letter : ByteArray) (k : Int) : List ByteArray × Bool := match zcr p with
 | none => ([], false)
 | some (cs, rs) =>
  if hasB rs room && (isH letter || isV letter) then
   if 1 ≤ k ∧ k < (if isH letter then (rs.getD room.toNat zcg).f2 else (rs.getD room.toNat zcg).f3) then planF (zbr cs.length (zan cs) (splitG cs rs room letter k)) else ([], false)
  else ([], false)
end Go.Proofs.Ytickdcegnlldjaa.Hd
namespace Go.Proofs.Ytickdcegnlldjaa.Hd
open Go.RowKit Go.PW.PrintWords Go.PW.PrintLast Go.PW.PrintMore Go.Proofs.Ytickdcegnlldjaa.PB Go.Proofs.Ytickdcegnlldjaa.SM
theorem isH_iff (t : ByteArray) : isH t = true ↔ t.toList = ([104] : List UInt8) := by unfold isH; rw [beq_iff_eq]
theorem isV_iff (t : ByteArray) : isV t = true ↔ t.toList = ([118] : List UInt8) := by unfold isV; rw [beq_iff_eq]
def newName (n : Nat) (x : Int) : Int := if x = n then 122 else if x = 25 then 97 + n else 97 + x
theorem newName_inj (n : Nat) (S : Int → Prop) : InjOn (newName n) S := by
 intro a b _ _ e
 unfold newName at e
 by_cases h1 : a = n <;> by_cases h2 : a = 25 <;> by_cases h3 : b = n <;> by_cases h4 : b = 25 <;> simp only [h1, h2, h3, h4, if_true, if_false] at e <;> omega
theorem split_j1_false (p : List ByteArray) (k a b c d : Int) : Evs (fun q => spec_PlanSplit.j1 q p k a b c d false) ([], false) := by
 refine Evs.step (h := fun _ => some ([], false)) (fun q => ?_) (Evs.const _)
 show spec_PlanSplit.j1 (q + 1) p k a b c d false = _
 simp only [spec_PlanSplit.j1, Bool.false_eq_true, if_false, l1None_f, Option.bind_some]
theorem split_j0_none (p : List ByteArray) (t : ByteArray) (hV : isV t = false) (k a b c d : Int) : Evs (fun q => spec_PlanSplit.j0 q p t k a b c d false) ([], false) := by
 have hv : ¬ t.toList = ([118] : List UInt8) := fun h => by rw [(isV_iff t).2 h] at hV; cases hV
 refine Evs.step (h := fun q => spec_PlanSplit.j1 q p k a b c d false) (fun q => ?_) (split_j1_false p k a b c d)
 show spec_PlanSplit.j0 (q + 1) p t k a b c d false = _
 simp only [spec_PlanSplit.j0, Bool.false_eq_true, if_false, if_neg hv]
theorem split_none {p : List ByteArray} (a : Int) (t : ByteArray) (k : Int) : Evs (fun q => if (false = true) then ((spec_l1Room.f q p a).bind fun bt205 => (if t.toList = ([104] : List UInt8) then ((spec_l6In.f k 1 (wrap64 (bt205.2.2.1 - 1))).bind fun t209 => (spec_PlanSplit.j0 q p t k bt205.1 bt205.2.1 bt205.2.2.1 bt205.2.2.2 t209)) else (spec_PlanSplit.j0 q p t k bt205.1 bt205.2.1 bt205.2.2.1 bt205.2.2.2 false))) else ((spec_l1None.f).bind fun bt201 => (some (bt201.1, bt201.2)))) ([], false) := by
 refine Evs.congr (h := fun _ => some ([], false)) (fun q => ?_) (Evs.const _)
 rw [if_neg (by simp), l1None_f]
 rfl
theorem split_val {p : List ByteArray} {cs : List (List Int)} {rs : List Rc} (F : PlanFacts p cs rs) (room : Int) (t : ByteArray) (k : Int) (T H L M : Nat) (hcell : ∀ r c, r < cs.length → c < zan cs → ((zbb cs r c = room ∧ behindB (rs.getD room.toNat zcg) t k r c = true) ↔ putB T L H M r c)) :
  doneF (putR p T H L M 122) = planF (zbr cs.length (zan cs) (splitG cs rs room t k)) := by
 have h9 := F.ok.many
 refine put_done F T H L M 122 (by omega) (by omega) (newName rs.length) (newName_inj rs.length) (splitG cs rs room t k) (fun r c hr hc => ?_)
 have hc2 := hcell r c hr hc
 have hv := valAt_range F.ok r c hr hc
 unfold splitG
 by_cases h : zbb cs r c = room ∧ behindB (rs.getD room.toNat zcg) t k r c = true
 ·rw [if_pos h, if_pos (hc2.1 h)]
  unfold newName
  rw [if_pos rfl]
 ·rw [if_neg h, if_neg (fun z => h (hc2.2 z))]
  unfold newName
  rw [if_neg (by omega), if_neg (by omega)]
theorem PlanSplit_ev (p : List ByteArray) (a : Int) (t : ByteArray) (k : Int) (hp : smallP p) : Evs (fun q => spec_PlanSplit.f q p a t k) (splitF p a t k) := by
 have ha := l1Given_ev p a hp
 cases hF : zcr p with
 | none =>
  have e1 : givenB p a = false := by unfold givenB; rw [hF]
  have e2 : splitF p a t k = ([], false) := by unfold splitF; rw [hF]
  rw [e1] at ha
  rw [e2]
  exact Evs.bind ha (split_none a t k)
 | some z =>
  obtain ⟨cs, rs⟩ := z
  have e1 : givenB p a = hasB rs a := by unfold givenB; rw [hF]
  have e2 : splitF p a t k = if hasB rs a && (isH t || isV t) then
   if 1 ≤ k ∧ k < (if isH t then (rs.getD a.toNat zcg).f2 else (rs.getD a.toNat zcg).f3) then planF (zbr cs.length (zan cs) (splitG cs rs a t k)) else ([], false)
   else ([], false) := by unfold splitF; rw [hF]
  rw [e1] at ha
  rw [e2]
  cases hA : hasB rs a with
  | false =>
   rw [hA] at ha
   exact Evs.bind ha (split_none a t k)
  | true =>
   rw [hA] at ha
   have F := floor_facts hF
   have hsm := gridOk_small F.canon.grid
   have hL := F.ok.many
   have o1 := F.ok.h1
   have o6 := F.ok.h6
   have q1 := F.len
   unfold hasB at hA
   rw [Bool.and_eq_true, decide_eq_true_eq, decide_eq_true_eq] at hA
   obtain ⟨i, rfl⟩ := Int.eq_ofNat_of_zero_le hA.1
   have hi : i < rs.length := by omega
   have hR := l1Room_ev p _ hsm (by omega) (i : Int)
   obtain ⟨c1, c2, c3⟩ := F.canon.room i (by rw [← F.rooms]; exact hi)
   rw [← F.rooms] at c1 c3
   rw [c1] at hR
   have hcell := room_cells hF i hi
   obtain ⟨b1, b2, b3, b4, b5, b6⟩ := c3
   have w6 := hsm.wide
   rw [F.wide] at b6 w6
   rw [F.wide] at hsm
   rw [Int.toNat_natCast]
   have hvalue := fun T H L M h => split_val F (i : Int) t k T H L M h
   rw [Int.toNat_natCast] at hvalue
   unfold behindB at hvalue
   generalize rs.getD i zcg = bx at *
   refine Evs.bind ha ?_
   refine Evs.congr (h := fun q => (spec_l1Room.f q p (i : Int)).bind fun bt205 => (if t.toList = ([104] : List UInt8) then ((spec_l6In.f k 1 (wrap64 (bt205.2.2.1 - 1))).bind fun t209 => (spec_PlanSplit.j0 q p t k bt205.1 bt205.2.1 bt205.2.2.1 bt205.2.2.2 t209)) else (spec_PlanSplit.j0 q p t k bt205.1 bt205.2.1 bt205.2.2.1 bt205.2.2.2 false))) (fun q => by rw [if_pos rfl]) (Evs.bind hR ?_)
   dsimp only
   cases hH : isH t with
   | true =>
    have hV := isHV hH
    rw [hV] at hvalue
    refine Evs.pos ((isH_iff t).1 hH) ?_
    rw [zar (x := bx.f2 - 1) (by omega) (by omega)]
    refine Evs.bindS (l6In_f k 1 (bx.f2 - 1)) ?_
    simp only [Bool.true_or, Bool.and_self, if_true]
    by_cases hk : 1 ≤ k ∧ k < bx.f2
    ·rw [if_pos hk, show (decide (1 ≤ k) && decide (k ≤ bx.f2 - 1)) = true by rw [Bool.and_eq_true, decide_eq_true_eq, decide_eq_true_eq]; omega]
     have hput := put_f hsm (bx.f0 + k) bx.f1 (bx.f2 - k) bx.f3 122 (by omega) b2 (by omega) (by omega) (by omega) b6 (by omega) (by omega)
     have hd := hvalue (bx.f0 + k).toNat (bx.f2 - k).toNat bx.f1.toNat bx.f3.toNat (fun r c hr hc => by
      have hc2 := hcell r c hr hc
      rw [hc2, hH]
      simp only [Bool.true_and, Bool.false_and, Bool.or_false, decide_eq_true_eq]
      unfold putB
      omega)
     have hdn := l1Done_ev _ (small_put hsm (bx.f0 + k).toNat (bx.f2 - k).toNat bx.f1.toNat bx.f3.toNat 122)
     rw [hd] at hdn
     refine Evs.step (h := fun q => (spec_l1Put.f p (wrap64 (bx.f0 + k)) bx.f1 (wrap64 (bx.f2 - k)) bx.f3 122).bind fun t210 => ((spec_l1Done.f q t210).bind fun bt213 => (some (bt213.1, bt213.2)))) (fun q => ?_) ?_
     ·show spec_PlanSplit.j0 (q + 1) p t k bx.f0 bx.f1 bx.f2 bx.f3 true = _
      simp only [spec_PlanSplit.j0, if_true]
     ·rw [zar (x := bx.f0 + k) (by omega) (by omega), zar (x := bx.f2 - k) (by omega) (by omega), hput]
      simp only [Option.bind_some]
      exact Evs.bind hdn (Evs.const _)
    ·rw [if_neg hk, show (decide (1 ≤ k) && decide (k ≤ bx.f2 - 1)) = false by rw [← Bool.not_eq_true, Bool.and_eq_true, decide_eq_true_eq, decide_eq_true_eq]; omega]
     exact split_j0_none p t hV k _ _ _ _
   | false =>
    have hnh : ¬ t.toList = ([104] : List UInt8) := fun h => by rw [(isH_iff t).2 h] at hH; cases hH
    refine Evs.neg hnh ?_
    cases hV : isV t with
    | false =>
     simp only [Bool.false_or, Bool.and_false, Bool.false_eq_true, if_false]
     exact split_j0_none p t hV k _ _ _ _
    | true =>
     rw [hV] at hvalue
     simp only [Bool.false_or, Bool.and_self, if_true, Bool.false_eq_true, if_false]
     refine Evs.step (h := fun q => (spec_l6In.f k 1 (wrap64 (bx.f3 - 1))).bind fun t217 => (spec_PlanSplit.j1 q p k bx.f0 bx.f1 bx.f2 bx.f3 t217)) (fun q => ?_) ?_
     ·show spec_PlanSplit.j0 (q + 1) p t k bx.f0 bx.f1 bx.f2 bx.f3 false = _
      simp only [spec_PlanSplit.j0, Bool.false_eq_true, if_false, if_pos ((isV_iff t).1 hV)]
     rw [zar (x := bx.f3 - 1) (by omega) (by omega)]
     refine Evs.bindS (l6In_f k 1 (bx.f3 - 1)) ?_
     by_cases hk : 1 ≤ k ∧ k < bx.f3
     ·rw [if_pos hk, show (decide (1 ≤ k) && decide (k ≤ bx.f3 - 1)) = true by rw [Bool.and_eq_true, decide_eq_true_eq, decide_eq_true_eq]; omega]
      have hput := put_f hsm bx.f0 (bx.f1 + k) bx.f2 (bx.f3 - k) 122 b1 (by omega) (by omega) (by omega) b5 (by omega) (by omega) (by omega)
      have hd := hvalue bx.f0.toNat bx.f2.toNat (bx.f1 + k).toNat (bx.f3 - k).toNat (fun r c hr hc => by
       have hc2 := hcell r c hr hc
       rw [hc2, hH]
       simp only [Bool.true_and, Bool.false_and, Bool.false_or, decide_eq_true_eq]
       unfold putB
       omega)
      have hdn := l1Done_ev _ (small_put hsm bx.f0.toNat bx.f2.toNat (bx.f1 + k).toNat (bx.f3 - k).toNat 122)
      rw [hd] at hdn
      refine Evs.step (h := fun q => (spec_l1Put.f p bx.f0 (wrap64 (bx.f1 + k)) bx.f2 (wrap64 (bx.f3 - k)) 122).bind fun t218 => ((spec_l1Done.f q t218).bind fun bt221 => (some (bt221.1, bt221.2)))) (fun q => ?_) ?_
      ·show spec_PlanSplit.j1 (q + 1) p k bx.f0 bx.f1 bx.f2 bx.f3 true = _
       simp only [spec_PlanSplit.j1, if_true]
      ·rw [zar (x := bx.f1 + k) (by omega) (by omega), zar (x := bx.f3 - k) (by omega) (by omega), hput]
       simp only [Option.bind_some]
       exact Evs.bind hdn (Evs.const _)
     ·rw [if_neg hk, show (decide (1 ≤ k) && decide (k ≤ bx.f3 - 1)) = false by rw [← Bool.not_eq_true, Bool.and_eq_true, decide_eq_true_eq, decide_eq_true_eq]; omega]
      exact split_j1_false p k _ _ _ _
theorem xor_nonneg {a b : Int} (ha : 0 ≤ a) (hb : 0 ≤ b) (ha' : a < 1099511627776) (hb' : b < 1099511627776) : 0 ≤ Go.bits .xor .i64 a b := by
 obtain ⟨x, rfl⟩ := Int.eq_ofNat_of_zero_le ha
 obtain ⟨y, rfl⟩ := Int.eq_ofNat_of_zero_le hb
 have hx : x < 2 ^ 40 := by omega
 have hy : y < 2 ^ 40 := by omega
 have h := Nat.xor_lt_two_pow hx hy
 simp only [Go.bits, BitVec.ofInt_natCast, BitVec.toNat_xor, BitVec.toNat_ofNat]
 rw [Nat.mod_eq_of_lt (show x < 2 ^ IntKind.i64.bits by show x < 2 ^ 64; omega), Nat.mod_eq_of_lt (show y < 2 ^ IntKind.i64.bits by show y < 2 ^ 64; omega), IntKind.wrap_i64]
 omega
theorem tmod_in {x n : Int} (hx : 0 ≤ x) (hn : 1 ≤ n) : 0 ≤ Int.tmod x n ∧ Int.tmod x n < n := ⟨Int.tmod_nonneg _ hx, Int.tmod_lt_of_pos _ (by omega)⟩
structure RdB (b : List Int) : Prop where
 len : b.length ≤ 2000
 val : ∀ x ∈ b, 0 ≤ x ∧ x ≤ 255
theorem RdB.byte {b : List Int} (h : RdB b) (i : Int) : 0 ≤ rd b i ∧ rd b i ≤ 255 := by
 unfold rd
 rw [List.getD_eq_getElem?_getD]
 cases e : b[i.toNat]? with
 | none => simp
 | some x => exact h.val x (List.mem_of_getElem? e)
theorem pick_j0_true (b : List Int) (q n : Int) : Evs (fun k => spec_l6Rd_pick.j0 k n true b q) (0, q) := by
 refine Evs.step (h := fun _ => some (0, q)) (fun k => ?_) (Evs.const _)
 show spec_l6Rd_pick.j0 (k + 1) n true b q = _
 simp only [spec_l6Rd_pick.j0, if_true]
theorem pick_ev (b : List Int) (h : RdB b) (q : Nat) (hq : q ≤ 1000000) (n : Int) : ∃ v, Evs (fun k => spec_l6Rd_pick.f k b (q : Int) n) (v, ((q + 1 : Nat) : Int)) ∧ 0 ≤ v ∧ (1 ≤ n → v < n) ∧ (n < 1 → v = 0) := by
 have hw : wrap64 ((q : Int) + 1) = ((q + 1 : Nat) : Int) := by rw [zar (by omega) (by omega)]; omega
 by_cases hn : n < 1
 ·refine ⟨0, ?_, Int.le_refl _, fun h => by omega, fun _ => rfl⟩
  refine Evs.congr (fun k => ?_) (pick_j0_true b ((q + 1 : Nat) : Int) n)
  unfold spec_l6Rd_pick.f
  rw [if_pos hn, hw]
 ·by_cases hl : b.length = 0
  ·refine ⟨0, ?_, Int.le_refl _, fun h => by omega, fun h => absurd h hn⟩
   refine Evs.congr (fun k => ?_) (pick_j0_true b ((q + 1 : Nat) : Int) n)
   unfold spec_l6Rd_pick.f
   rw [if_neg hn, hw, show ((b.length : Int) == 0) = true by rw [beq_iff_eq]; omega]
  ·have hlen := h.len
   have e1 : wrap64 (((q + 1 : Nat) : Int) - 1) = (q : Int) := by rw [zar (by omega) (by omega)]; omega
   have main : ∃ v, (∀ k, spec_l6Rd_pick.j0 (k + 1) n false b ((q + 1 : Nat) : Int) = some (v, ((q + 1 : Nat) : Int))) ∧ 0 ≤ v ∧ v < n := by
    by_cases hql : (q : Int) < (b.length : Int)
    ·have hr := h.byte (q : Int)
     obtain ⟨t0, t1⟩ := tmod_in (x := rd b (q : Int)) (n := n) hr.1 (by omega)
     refine ⟨Int.tmod (rd b (q : Int)) n, fun k => ?_, t0, t1⟩
     simp only [spec_l6Rd_pick.j0, Bool.false_eq_true, if_false]
     rw [e1, if_pos hql, if_pos (by omega), if_neg (by omega), zar (x := rd b (q : Int)) (by omega) (by omega)]
    ·have i1 := tmod_in (x := (q : Int)) (n := (b.length : Int)) (by omega) (by omega)
     have e2 : wrap64 (wrap64 ((q : Int) * 7) + 3) = (q : Int) * 7 + 3 := by rw [zar (x := (q : Int) * 7) (by omega) (by omega), zar (by omega) (by omega)]
     have i2 := tmod_in (x := (q : Int) * 7 + 3) (n := (b.length : Int)) (by omega) (by omega)
     have r1 := h.byte (Int.tmod (q : Int) (b.length : Int))
     have r2 := h.byte (Int.tmod ((q : Int) * 7 + 3) (b.length : Int))
     have d1 : 0 ≤ Int.tdiv (q : Int) (b.length : Int) ∧ Int.tdiv (q : Int) (b.length : Int) ≤ 1000000 := by
      rw [Int.tdiv_eq_ediv_of_nonneg (by omega)]
      refine ⟨Int.ediv_nonneg (by omega) (by omega), Int.le_trans (Int.ediv_le_self _ (by omega)) (by omega)⟩
     have key : ∃ v, (∀ k, spec_l6Rd_pick.j0 (k + 1) n false b ((q + 1 : Nat) : Int) = some (v, ((q + 1 : Nat) : Int))) ∧ 0 ≤ v ∧ v < n := by
      have hform : ∀ k, spec_l6Rd_pick.j0 (k + 1) n false b ((q + 1 : Nat) : Int) = some (Int.tmod (Go.bits .xor .i64 (rd b (Int.tmod (q : Int) (b.length : Int)) * 131 + rd b (Int.tmod ((q : Int) * 7 + 3) (b.length : Int)) * 1117 + (q : Int) * 29 + Int.tdiv (q : Int) (b.length : Int) * 53) (wrap64 (Int.tdiv (rd b (Int.tmod (q : Int) (b.length : Int)) * 131 + rd b (Int.tmod ((q : Int) * 7 + 3) (b.length : Int)) * 1117 + (q : Int) * 29 + Int.tdiv (q : Int) (b.length : Int) * 53) 64))) n, ((q + 1 : Nat) : Int)) := fun k => by
       simp only [spec_l6Rd_pick.j0, Bool.false_eq_true, if_false]
       rw [e1, if_neg hql, if_neg (by omega), if_pos i1.1, if_pos i1.2, e2, if_pos i2.1, if_pos i2.2, if_neg (by omega)]
       generalize rd b (Int.tmod (q : Int) (b.length : Int)) = a at *
       generalize rd b (Int.tmod ((q : Int) * 7 + 3) (b.length : Int)) = c at *
       generalize Int.tdiv (q : Int) (b.length : Int) = d at *
       rw [zar (x := a) (by omega) (by omega), zar (x := a * 131) (by omega) (by omega), zar (x := c) (by omega) (by omega), zar (x := c * 1117) (by omega) (by omega), zar (x := a * 131 + c * 1117) (by omega) (by omega), zar (x := (q : Int) * 29) (by omega) (by omega), zar (x := a * 131 + c * 1117 + (q : Int) * 29) (by omega) (by omega), zar (x := d) (by omega) (by omega), zar (x := d * 53) (by omega) (by omega), zar (x := a * 131 + c * 1117 + (q : Int) * 29 + d * 53) (by omega) (by omega)]
      have hX : 0 ≤ rd b (Int.tmod (q : Int) (b.length : Int)) * 131 + rd b (Int.tmod ((q : Int) * 7 + 3) (b.length : Int)) * 1117 + (q : Int) * 29 + Int.tdiv (q : Int) (b.length : Int) * 53 ∧ rd b (Int.tmod (q : Int) (b.length : Int)) * 131 + rd b (Int.tmod ((q : Int) * 7 + 3) (b.length : Int)) * 1117 + (q : Int) * 29 + Int.tdiv (q : Int) (b.length : Int) * 53 < 1099511627776 := by omega
      generalize rd b (Int.tmod (q : Int) (b.length : Int)) * 131 + rd b (Int.tmod ((q : Int) * 7 + 3) (b.length : Int)) * 1117 + (q : Int) * 29 + Int.tdiv (q : Int) (b.length : Int) * 53 = X at *
      have hd : 0 ≤ Int.tdiv X 64 ∧ Int.tdiv X 64 ≤ X := by
       rw [Int.tdiv_eq_ediv_of_nonneg hX.1]
       exact ⟨Int.ediv_nonneg hX.1 (by omega), Int.ediv_le_self _ hX.1⟩
      rw [zar (x := Int.tdiv X 64) (by omega) (by omega)] at hform
      obtain ⟨t0, t1⟩ := tmod_in (n := n) (xor_nonneg hX.1 hd.1 hX.2 (by omega)) (by omega)
      exact ⟨_, hform, t0, t1⟩
     exact key
   obtain ⟨v, hv, v0, v1⟩ := main
   refine ⟨v, ?_, v0, fun _ => v1, fun h => absurd h hn⟩
   refine Evs.congr (h := fun k => spec_l6Rd_pick.j0 k n false b ((q + 1 : Nat) : Int)) (fun k => ?_) (Evs.step (h := fun _ => some (v, ((q + 1 : Nat) : Int))) hv (Evs.const _))
   unfold spec_l6Rd_pick.f
   rw [if_neg hn, hw, show ((b.length : Int) == 0) = false by rw [beq_eq_false_iff_ne]; omega]
theorem of_ev (b : List Int) (h : RdB b) (q : Nat) (hq : q ≤ 1000000) (L : List ByteArray) (hL : 1 ≤ L.length) : ∃ s, Evs (fun k => spec_l6Rd_of.f k b (q : Int) L) (s, ((q + 1 : Nat) : Int)) ∧ s ∈ L := by
 obtain ⟨v, hv, v0, v1, -⟩ := pick_ev b h q hq (L.length : Int)
 have hv1 := v1 (by omega)
 obtain ⟨i, rfl⟩ := Int.eq_ofNat_of_zero_le v0
 refine ⟨rdOf ByteArray.empty L (i : Int), Evs.bind hv (Evs.pos (by omega) (Evs.pos hv1 (Evs.const _))), ?_⟩
 rw [rdOf_get L i (by omega)]
 exact List.getElem_mem _
theorem open_ev (l : List Int) (hv : ∀ x ∈ l, 0 ≤ x ∧ x ≤ 255) : ∃ b, spec_l6Open.f l = some (b, 0) ∧ RdB b := by
 unfold spec_l6Open.f
 by_cases h : (l.length : Int) > 2000
 ·rw [if_pos h, if_pos (by omega)]
  exact ⟨_, rfl, by simp; omega, fun x hx => hv x (List.mem_of_mem_take hx)⟩
 ·rw [if_neg h]
  exact ⟨_, rfl, by omega, hv⟩
theorem empty_l1 (n m : Nat) (hm : m ≤ 100) (i : Nat) (hi : i ≤ 100) (x5 : List ByteArray) (h5 : x5.length ≤ 100) (r : List ByteArray) (hnext : Evs (fun k => spec_l91Empty.l0 k (n : Int) (m : Int) (x5 ++ [strOfNums (List.replicate m 97)]) ((i + 1 : Nat) : Int)) r) :
  ∀ d j, j + d = m → Evs (fun k => spec_l91Empty.l1 k (n : Int) (m : Int) x5 (i : Int) (List.replicate j 97) (j : Int)) r := by
 intro d
 induction d with
 | zero =>
  intro j hj
  obtain rfl : j = m := by omega
  refine Evs.step (fun k => ?_) hnext
  conv => lhs; unfold spec_l91Empty.l1
  rw [if_neg (by omega), if_pos (by omega), zbl (by omega)]
 | succ d ih =>
  intro j hj
  have hnx := ih (j + 1) (by omega)
  rw [List.replicate_succ'] at hnx
  refine Evs.step (fun k => ?_) hnx
  conv => lhs; unfold spec_l91Empty.l1
  rw [if_pos (by omega), if_pos (by simp; omega), zbl (by omega)]
theorem empty_l0 (n m : Nat) (hn : n ≤ 100) (hm : m ≤ 100) : ∀ d i, i + d = n → Evs (fun k => spec_l91Empty.l0 k (n : Int) (m : Int) (List.replicate i (strOfNums (List.replicate m 97))) (i : Int)) (List.replicate n (strOfNums (List.replicate m 97))) := by
 intro d
 induction d with
 | zero =>
  intro i hi
  obtain rfl : i = n := by omega
  refine Evs.step (h := fun _ => some (List.replicate i (strOfNums (List.replicate m 97)))) (fun k => ?_) (Evs.const _)
  conv => lhs; unfold spec_l91Empty.l0
  rw [if_neg (by omega)]
 | succ d ih =>
  intro i hi
  have hnx := ih (i + 1) (by omega)
  rw [List.replicate_succ'] at hnx
  have := empty_l1 n m hm i (by omega) (List.replicate i (strOfNums (List.replicate m 97))) (by simp; omega) _ hnx m 0 (by omega)
  refine Evs.step (fun k => ?_) this
  conv => lhs; unfold spec_l91Empty.l0
  rw [if_pos (by omega)]
  rfl
theorem Empty_ev (n m : Nat) (hn : n ≤ 100) (hm : m ≤ 100) : ∃ p, Evs (fun k => spec_l91Empty.f k (n : Int) (m : Int)) p ∧ Mid p m ∧ p.length = n := by
 refine ⟨_, empty_l0 n m hn hm n 0 (by omega), ⟨by simp; omega, hm, fun s hs => ?_⟩, by simp⟩
 rw [List.eq_of_mem_replicate hs]
 show (List.map _ (List.replicate m (97 : Int))).toArray.size = m
 simp
theorem rowText_size (row : List Int) : (rowText row).size = row.length := by
 show (List.map letterOf row).toArray.size = _
 simp
theorem planF_mid {h w : Nat} {g : Nat → Nat → Int} {p : List ByteArray} (h1 : 1 ≤ h) (e : planF (zbr h w g) = (p, true)) : Mid p w ∧ p.length = h := by
 rcases planF_cases (zbr h w g) with ⟨hO, hp⟩ | ⟨_, hp⟩
 ·rw [hp] at e
  injection e with e1 _
  subst e1
  obtain ⟨s1, s2, s3, s4, s5⟩ := (zch _).1 hO.shape
  rw [zbo] at s1 s2
  have hw : zan (zbr h w g) = w := by
   have := gridOf_get (hi := h) (wi := w) (g := g) (r := 0) (by omega)
   unfold zan
   rw [List.getD_eq_getElem?_getD, this]
   simp
  rw [hw] at s3 s4
  have hl : (zbt (canon (zbr h w g))).length = h := by rw [text_length, zbo]
  refine ⟨⟨by omega, by omega, fun s hs => ?_⟩, hl⟩
  obtain ⟨r, hr, rfl⟩ := List.mem_map.1 hs
  rw [rowText_size]
  unfold canon canonL at hr
  obtain ⟨r0, hr0, rfl⟩ := List.mem_map.1 hr
  rw [List.length_map]
  exact gridOf_row r0 hr0
 ·rw [hp] at e
  injection e with _ e2
  cases e2
theorem split_mid {p : List ByteArray} {m : Nat} (h : Mid p m) (h1 : 1 ≤ p.length) {a k : Int} {t : ByteArray} {r : List ByteArray} (e : splitF p a t k = (r, true)) : Mid r m ∧ r.length = p.length := by
 unfold splitF at e
 cases hF : zcr p with
 | none => rw [hF] at e; injection e with _ e; cases e
 | some z =>
  obtain ⟨cs, rs⟩ := z
  rw [hF] at e
  have F := floor_facts hF
  dsimp only at e
  split at e
  ·by_cases hc : 1 ≤ k ∧ k < (if isH t = true then (rs.getD a.toNat zcg).f2 else (rs.getD a.toNat zcg).f3)
   ·rw [if_pos hc] at e
    have hw : zan cs = m := by
     rw [← F.wide, wideOf_numsOf]
     refine h.row _ ?_
     rw [List.getD_eq_getElem?_getD, List.getElem?_eq_getElem (by omega)]
     exact List.getElem_mem _
    obtain ⟨q1, q2⟩ := planF_mid F.ok.h1 e
    rw [hw] at q1
    exact ⟨q1, by rw [q2, F.len]⟩
   ·rw [if_neg hc] at e
    injection e with _ e
    cases e
  ·injection e with _ e
   cases e
theorem cut_l0 (b : List Int) (hb : RdB b) (many m n : Nat) (hmany : many ≤ 1000) (hn : 1 ≤ n) : ∀ d t (p : List ByteArray) (q : Nat), t + d = many → Mid p m → p.length = n → q + 3 * d ≤ 100000 → ∃ p' q', Evs (fun k => spec_l91Cut.l0 k p (many : Int) (t : Int) b (q : Int)) (p', ((q' : Nat) : Int)) ∧ Mid p' m ∧ p'.length = n ∧ q' ≤ q + 3 * d := by
 intro d
 induction d with
 | zero =>
  intro t p q ht hp hl hq
  refine ⟨p, q, Evs.step (h := fun _ => some (p, (q : Int))) (fun k => ?_) (Evs.const _), hp, hl, by omega⟩
  conv => lhs; unfold spec_l91Cut.l0
  rw [if_neg (by omega)]
 | succ d ih =>
  intro t p q ht hp hl hq
  obtain ⟨rm, _, _, hrm⟩ := l1Rooms_any p hp.lil
  obtain ⟨v1, hv1, -, -, -⟩ := pick_ev b hb q (by omega) rm
  obtain ⟨s, hs, -⟩ := of_ev b hb (q + 1) (by omega) [(⟨#[104]⟩ : ByteArray), (⟨#[118]⟩ : ByteArray)] (by simp)
  obtain ⟨v2, hv2, -, -, -⟩ := pick_ev b hb (q + 1 + 1) (by omega) 3
  have hsp := PlanSplit_ev p v1 s (wrap64 (1 + v2)) hp.lil.small
  rcases hr : splitF p v1 s (wrap64 (1 + v2)) with ⟨r, ok⟩
  rw [hr] at hsp
  cases ok with
  | true =>
   obtain ⟨m1, m2⟩ := split_mid hp (by omega) hr
   obtain ⟨p', q', hE, h1, h2, h3⟩ := ih (t + 1) r (q + 1 + 1 + 1) (by omega) m1 (by omega) (by omega)
   refine ⟨p', q', Evs.step (h := fun k => ((spec_l1Rooms.f k p).bind fun t221 => ((spec_l6Rd_pick.f k b (q : Int) t221).bind fun bt222 => ((spec_l6Rd_of.f k b bt222.2 (([(⟨#[104]⟩ : ByteArray), (⟨#[118]⟩ : ByteArray)] : List ByteArray))).bind fun bt227 => ((spec_l6Rd_pick.f k b bt227.2 3).bind fun bt229 => ((spec_PlanSplit.f k p bt222.1 bt227.1 (wrap64 (1 + bt229.1))).bind fun bt231 => (if bt231.2 = true then (spec_l91Cut.l0 k bt231.1 (many : Int) (wrap64 ((t : Int) + 1)) b bt229.2) else (spec_l91Cut.l0 k p (many : Int) (wrap64 ((t : Int) + 1)) b bt229.2)))))))) (fun k => ?_) (Evs.bind hrm (Evs.bind hv1 (Evs.bind hs (Evs.bind hv2 (Evs.bind hsp (Evs.pos rfl ?_)))))), h1, h2, by omega⟩
   ·conv => lhs; unfold spec_l91Cut.l0
    rw [if_pos (by omega)]
   ·rw [zbl (by omega)]
    exact hE
  | false =>
   obtain ⟨p', q', hE, h1, h2, h3⟩ := ih (t + 1) p (q + 1 + 1 + 1) (by omega) hp hl (by omega)
   refine ⟨p', q', Evs.step (h := fun k => ((spec_l1Rooms.f k p).bind fun t221 => ((spec_l6Rd_pick.f k b (q : Int) t221).bind fun bt222 => ((spec_l6Rd_of.f k b bt222.2 (([(⟨#[104]⟩ : ByteArray), (⟨#[118]⟩ : ByteArray)] : List ByteArray))).bind fun bt227 => ((spec_l6Rd_pick.f k b bt227.2 3).bind fun bt229 => ((spec_PlanSplit.f k p bt222.1 bt227.1 (wrap64 (1 + bt229.1))).bind fun bt231 => (if bt231.2 = true then (spec_l91Cut.l0 k bt231.1 (many : Int) (wrap64 ((t : Int) + 1)) b bt229.2) else (spec_l91Cut.l0 k p (many : Int) (wrap64 ((t : Int) + 1)) b bt229.2)))))))) (fun k => ?_) (Evs.bind hrm (Evs.bind hv1 (Evs.bind hs (Evs.bind hv2 (Evs.bind hsp (Evs.neg (by simp) ?_)))))), h1, h2, by omega⟩
   ·conv => lhs; unfold spec_l91Cut.l0
    rw [if_pos (by omega)]
   ·rw [zbl (by omega)]
    exact hE
theorem Cut_ev (b : List Int) (hb : RdB b) (q : Nat) (hq : q ≤ 10000) (p : List ByteArray) (m : Nat) (hp : Mid p m) (h1 : 1 ≤ p.length) (many : Int) (h0 : 0 ≤ many) (hm : many ≤ 100) : ∃ p' q', Evs (fun k => spec_l91Cut.f k b (q : Int) p many) (p', ((q' : Nat) : Int)) ∧ Mid p' m ∧ p'.length = p.length ∧ q' ≤ q + 300 := by
 obtain ⟨n, rfl⟩ := Int.eq_ofNat_of_zero_le h0
 obtain ⟨p', q', hE, h1, h2, h3⟩ := cut_l0 b hb n m p.length (by omega) h1 n 0 p q (by omega) hp rfl (by omega)
 exact ⟨p', q', hE, h1, h2, by omega⟩
theorem plan_j1 (b : List Int) (hb : RdB b) (q : Nat) (hq : q ≤ 1000) (n m : Nat) (n1 : 1 ≤ n) (n7 : n ≤ 10) (m7 : m ≤ 10) (c : Bool) (hc : c = true → n = 4 ∧ m = 4) : ∃ p q', Evs (fun k => spec_l91Plan.j1 k (n : Int) (m : Int) c b (q : Int)) (p, ((q' : Nat) : Int)) ∧ Mid p m ∧ p.length = n ∧ q' ≤ q + 400 := by
 cases c with
 | true =>
  obtain ⟨rfl, rfl⟩ := hc rfl
  obtain ⟨v, hv, v0, v1, -⟩ := pick_ev b hb q (by omega) 4
  obtain ⟨p, q', hE, h1, h2, h3⟩ := Cut_ev b hb (q + 1) (by omega) [(⟨#[97, 97, 97, 98]⟩ : ByteArray), (⟨#[99, 100, 100, 98]⟩ : ByteArray), (⟨#[99, 100, 100, 98]⟩ : ByteArray), (⟨#[99, 101, 101, 101]⟩ : ByteArray)] 4 ⟨by simp, by omega, fun s hs => by simp at hs; rcases hs with rfl | rfl | rfl <;> rfl⟩ (by simp) v v0 (by have := v1 (by omega); omega)
  refine ⟨p, q', Evs.step (h := fun k => (spec_l6Rd_pick.f k b (q : Int) 4).bind fun bt263 => ((spec_l91Cut.f k b bt263.2 (([(⟨#[97, 97, 97, 98]⟩ : ByteArray), (⟨#[99, 100, 100, 98]⟩ : ByteArray), (⟨#[99, 100, 100, 98]⟩ : ByteArray), (⟨#[99, 101, 101, 101]⟩ : ByteArray)] : List ByteArray)) bt263.1).bind fun bt265 => (some (bt265.1, bt265.2)))) (fun k => ?_) (Evs.bind hv (Evs.bind hE (Evs.const _))), h1, h2, by omega⟩
  show spec_l91Plan.j1 (k + 1) _ _ true b (q : Int) = _
  simp only [spec_l91Plan.j1, if_true]
 | false =>
  obtain ⟨e, hE0, e1, e2⟩ := Empty_ev n m (by omega) (by omega)
  obtain ⟨v, hv, v0, v1, -⟩ := pick_ev b hb q (by omega) 9
  obtain ⟨p, q', hE, h1, h2, h3⟩ := Cut_ev b hb (q + 1) (by omega) e m e1 (by omega) v v0 (by have := v1 (by omega); omega)
  refine ⟨p, q', Evs.step (h := fun k => (spec_l91Empty.f k (n : Int) (m : Int)).bind fun t269 => ((spec_l6Rd_pick.f k b (q : Int) 9).bind fun bt272 => ((spec_l91Cut.f k b bt272.2 t269 bt272.1).bind fun bt274 => (some (bt274.1, bt274.2))))) (fun k => ?_) (Evs.bind hE0 (Evs.bind hv (Evs.bind hE (Evs.const _)))), h1, by omega, by omega⟩
  show spec_l91Plan.j1 (k + 1) _ _ false b (q : Int) = _
  simp only [spec_l91Plan.j1, Bool.false_eq_true, if_false]
theorem plan_j0 (b : List Int) (hb : RdB b) (q : Nat) (hq : q ≤ 900) (n m : Nat) (n1 : 1 ≤ n) (n7 : n ≤ 10) (m7 : m ≤ 10) (c : Bool) (hc : c = true → n = 3 ∧ m = 3) : ∃ p q', Evs (fun k => spec_l91Plan.j0 k (n : Int) (m : Int) c b (q : Int)) (p, ((q' : Nat) : Int)) ∧ Mid p m ∧ p.length = n ∧ q' ≤ q + 500 := by
 cases c with
 | true =>
  obtain ⟨rfl, rfl⟩ := hc rfl
  obtain ⟨v, hv, v0, v1, -⟩ := pick_ev b hb q (by omega) 2
  obtain ⟨p, q', hE, h1, h2, h3⟩ := Cut_ev b hb (q + 1) (by omega) [(⟨#[97, 97, 98]⟩ : ByteArray), (⟨#[99, 100, 98]⟩ : ByteArray), (⟨#[99, 101, 101]⟩ : ByteArray)] 3 ⟨by simp, by omega, fun s hs => by simp at hs; rcases hs with rfl | rfl | rfl <;> rfl⟩ (by simp) v v0 (by have := v1 (by omega); omega)
  refine ⟨p, q', Evs.step (h := fun k => (spec_l6Rd_pick.f k b (q : Int) 2).bind fun bt252 => ((spec_l91Cut.f k b bt252.2 (([(⟨#[97, 97, 98]⟩ : ByteArray), (⟨#[99, 100, 98]⟩ : ByteArray), (⟨#[99, 101, 101]⟩ : ByteArray)] : List ByteArray)) bt252.1).bind fun bt254 => (some (bt254.1, bt254.2)))) (fun k => ?_) (Evs.bind hv (Evs.bind hE (Evs.const _))), h1, h2, by omega⟩
  show spec_l91Plan.j0 (k + 1) _ _ true b (q : Int) = _
  simp only [spec_l91Plan.j0, if_true]
 | false =>
  by_cases h4 : (n : Int) = 4 ∧ (m : Int) = 4
  ·obtain ⟨v, hv, v0, v1, -⟩ := pick_ev b hb q (by omega) 2
   obtain ⟨p, q', hE, h1, h2, h3⟩ := plan_j1 b hb (q + 1) (by omega) n m n1 n7 m7 (v == 0) (fun _ => by omega)
   refine ⟨p, q', Evs.step (h := fun k => (spec_l6Rd_pick.f k b (q : Int) 2).bind fun bt258 => (spec_l91Plan.j1 k (n : Int) (m : Int) (bt258.1 == 0) b bt258.2)) (fun k => ?_) (Evs.bind hv hE), h1, h2, by omega⟩
   show spec_l91Plan.j0 (k + 1) _ _ false b (q : Int) = _
   simp only [spec_l91Plan.j0, Bool.false_eq_true, if_false]
   rw [if_pos h4.1, if_pos h4.2]
  ·obtain ⟨p, q', hE, h1, h2, h3⟩ := plan_j1 b hb q (by omega) n m n1 n7 m7 false (fun h => by cases h)
   refine ⟨p, q', Evs.step (fun k => ?_) hE, h1, h2, by omega⟩
   show spec_l91Plan.j0 (k + 1) _ _ false b (q : Int) = _
   simp only [spec_l91Plan.j0, Bool.false_eq_true, if_false]
   by_cases hn : (n : Int) = 4
   ·rw [if_pos hn, if_neg (fun h => h4 ⟨hn, h⟩)]
   ·rw [if_neg hn]
theorem Plan_ev (b : List Int) (hb : RdB b) (q : Nat) (hq : q ≤ 800) (n m : Nat) (n1 : 1 ≤ n) (n7 : n ≤ 10) (m7 : m ≤ 10) : ∃ p q', Evs (fun k => spec_l91Plan.f k b (q : Int) (n : Int) (m : Int)) (p, ((q' : Nat) : Int)) ∧ Mid p m ∧ p.length = n ∧ q' ≤ q + 600 := by
 by_cases h3 : (n : Int) = 3 ∧ (m : Int) = 3
 ·obtain ⟨v, hv, v0, v1, -⟩ := pick_ev b hb q (by omega) 2
  obtain ⟨p, q', hE, h1, h2, h3'⟩ := plan_j0 b hb (q + 1) (by omega) n m n1 n7 m7 (v == 0) (fun _ => by omega)
  refine ⟨p, q', Evs.congr (h := fun k => (spec_l6Rd_pick.f k b (q : Int) 2).bind fun bt247 => (spec_l91Plan.j0 k (n : Int) (m : Int) (bt247.1 == 0) b bt247.2)) (fun k => ?_) (Evs.bind hv hE), h1, h2, by omega⟩
  unfold spec_l91Plan.f
  rw [if_pos h3.1, if_pos h3.2]
 ·obtain ⟨p, q', hE, h1, h2, h3'⟩ := plan_j0 b hb q (by omega) n m n1 n7 m7 false (fun h => by cases h)
  refine ⟨p, q', Evs.congr (fun k => ?_) hE, h1, h2, by omega⟩
  unfold spec_l91Plan.f
  by_cases hn : (n : Int) = 3
  ·rw [if_pos hn, if_neg (fun h => h3 ⟨hn, h⟩)]
  ·rw [if_neg hn]
theorem Some_ev (b : List Int) (hb : RdB b) (q : Nat) (hq : q ≤ 700) (rows cols : Int) (r1 : 1 ≤ rows) (r7 : rows ≤ 9) (c1 : 1 ≤ cols) (c7 : cols ≤ 9) : ∃ p q', Evs (fun k => spec_l91Some.f k b (q : Int) rows cols) (p, ((q' : Nat) : Int)) ∧ Lil p ∧ q' ≤ 2000 := by
 obtain ⟨v1, hv1, a0, a1, -⟩ := pick_ev b hb q (by omega) rows
 obtain ⟨v2, hv2, b0, b1, -⟩ := pick_ev b hb (q + 1) (by omega) cols
 have a1 := a1 r1
 have b1 := b1 c1
 obtain ⟨i, rfl⟩ := Int.eq_ofNat_of_zero_le a0
 obtain ⟨j, rfl⟩ := Int.eq_ofNat_of_zero_le b0
 have e1 : wrap64 (1 + (i : Int)) = ((i + 1 : Nat) : Int) := by rw [zar (by omega) (by omega)]; omega
 have e2 : wrap64 (1 + (j : Int)) = ((j + 1 : Nat) : Int) := by rw [zar (by omega) (by omega)]; omega
 obtain ⟨p, q', hE, h1, h2, h3⟩ := Plan_ev b hb (q + 1 + 1) (by omega) (i + 1) (j + 1) (by omega) (by omega) (by omega)
 obtain ⟨v3, hv3, c0, -, -⟩ := pick_ev b hb q' (by omega) 50
 have hlast : wrap64 (((i + 1 : Nat) : Int) - 1) = (i : Int) := by rw [zar (by omega) (by omega)]; omega
 have hsz : ∀ k (hk : k < p.length), (p[k]'hk).size = j + 1 := fun k hk => h1.row _ (List.getElem_mem hk)
 by_cases z0 : v3 = 0
 ·refine ⟨p.set i (rdOf ByteArray.empty p (i : Int) ++ (⟨#[97]⟩ : ByteArray)), q' + 1, Evs.bind hv1 (Evs.bind hv2 ?_), ⟨by rw [List.length_set]; omega, fun s hs => ?_⟩, by omega⟩
  ·dsimp only
   rw [e1, e2]
   refine Evs.bind hE (Evs.bind hv3 (Evs.pos z0 ?_))
   simp only [Option.bind_some, List.nil_append, List.length_nil]
   refine Evs.pos (by omega) ?_
   rw [hlast]
   refine Evs.pos (by omega) (Evs.pos (by omega) (Evs.pos ?_ ?_))
   ·rw [rdOf_get p i (by omega), hsz i (by omega)]; omega
   ·rw [Int.toNat_natCast]; exact Evs.const _
  ·rcases List.mem_or_eq_of_mem_set hs with h | h
   ·rw [h1.row s h]; omega
   ·subst h
    rw [rdOf_get p i (by omega), ByteArray.size_append, hsz i (by omega)]
    show j + 1 + 1 ≤ 100
    omega
 ·by_cases z1 : v3 = 1
  ·refine ⟨p.set 0 ((⟨#[122]⟩ : ByteArray) ++ ((rdOf ByteArray.empty p 0).extract 1 (rdOf ByteArray.empty p 0).size)), q' + 1, Evs.bind hv1 (Evs.bind hv2 ?_), ⟨by rw [List.length_set]; omega, fun s hs => ?_⟩, by omega⟩
   ·dsimp only
    rw [e1, e2]
    refine Evs.bind hE (Evs.bind hv3 (Evs.neg z0 (Evs.pos z1 ?_)))
    simp only [Option.bind_some, List.nil_append, List.length_nil]
    have hr0 : rdOf ByteArray.empty p 0 = p[0]'(by omega) := rdOf_get p 0 (by omega)
    refine Evs.pos (by omega) (Evs.pos (by omega) (Evs.pos ?_ (Evs.pos ?_ ?_)))
    ·rw [hr0, hsz 0 (by omega)]; omega
    ·rw [hr0, ByteArray.size_extract, hsz 0 (by omega)]; omega
    ·exact Evs.const _
   ·rcases List.mem_or_eq_of_mem_set hs with h | h
    ·rw [h1.row s h]; omega
    ·subst h
     have hr0 : rdOf ByteArray.empty p 0 = p[0]'(by omega) := rdOf_get p 0 (by omega)
     rw [ByteArray.size_append, ByteArray.size_extract, hr0, hsz 0 (by omega)]
     show 1 + _ ≤ 100
     omega
  ·refine ⟨p, q' + 1, Evs.bind hv1 (Evs.bind hv2 ?_), h1.lil, by omega⟩
   dsimp only
   rw [e1, e2]
   exact Evs.bind hE (Evs.bind hv3 (Evs.neg z0 (Evs.neg z1 (Evs.const _))))
theorem One_ev (l : List Int) (hv : ∀ x ∈ l, 0 ≤ x ∧ x ≤ 255) : ∃ p, Evs (fun k => spec_l91One.f k l) p ∧ Lil p := by
 obtain ⟨b, ho, hb⟩ := open_ev l hv
 obtain ⟨p, q, hE, h1, -⟩ := Some_ev b hb 0 (by omega) 5 5 (by omega) (by omega) (by omega) (by omega)
 exact ⟨p, Evs.bindS ho (Evs.bind hE (Evs.const _)), h1⟩
end Go.Proofs.Ytickdcegnlldjaa.Hd
namespace Go.Proofs.Ytickdcegnlldjaa.Hd
open Go.RowKit Go.PW.PrintWords Go.PW.PrintLast Go.PW.PrintMore Go.Proofs.Ytickdcegnlldjaa.PB
theorem byte_of {x : Int} (h : (Lit.int .u8 x).wf = true) : 0 ≤ x ∧ x ≤ 255 := by
 simp only [Lit.wf, IntKind.min, IntKind.max, IntKind.signed, IntKind.bits, Bool.and_eq_true, decide_eq_true_eq] at h
 have h1 := h.1
 have h2 := h.2
 simp at h1 h2
 omega
theorem Evs.ex {α : Type} {g : Nat → Option α} {r : α} (h : Evs g r) : ∃ k, g k = some r := by
 obtain ⟨K, hK⟩ := h
 exact ⟨K, hK K (by omega)⟩
end Go.Proofs.Ytickdcegnlldjaa.Hd
namespace Go.Proofs.Ytickdcegnlldjaa.Hd
open Go.RowKit Go.PW.PrintWords Go.PW.PrintLast Go.PW.PrintMore Go.Proofs.Ytickdcegnlldjaa.PB Go.Proofs.Ytickdcegnlldjaa.SM
theorem DrawWallEnds_ev (l : List Int) (hv : ∀ x ∈ l, 0 ≤ x ∧ x ≤ 255) : ∃ p, Evs (fun k => spec_DrawWallEnds.f k l) p ∧ Lil p := by
 obtain ⟨p, h, hl⟩ := One_ev l hv
 exact ⟨p, Evs.bind h (Evs.const _), hl⟩
end Go.Proofs.Ytickdcegnlldjaa.Hd
namespace Go.Proofs.Ytickdcegnlldjaa.Hd
open Go.RowKit Go.PW.PrintWords Go.PW.PrintLast Go.PW.PrintMore Go.Proofs.Ytickdcegnlldjaa.PB
def b2i (b : Bool) : Int := if b = true then 1 else 0
def at0 (x : Nat × Nat) : Int := if x.1 = 0 then 1 else 0
def op0 : Option Nat → Int
 | some 0 => 1
 | _ => 0
theorem runC_ends (d : Nat → Bool) : ∀ m, sumZ ((runC d m).1.map at0) + op0 (runC d m).2 = (if 0 < m then b2i (d 0) else 0) ∧ (∀ x ∈ (runC d m).1, x.1 + x.2 < m) ∧ ((runC d m).2.isSome = true ↔ 0 < m ∧ d (m - 1) = true)
 | 0 => by simp [runC, sumZ, op0]
 | m + 1 => by
  obtain ⟨h1, h2, h3⟩ := runC_ends d m
  have hf := (runC_inv d m).2.1
  rcases hR : runC d m with ⟨c, o⟩
  rw [hR] at h1 h2 h3 hf
  dsimp only at h1 h2 h3 hf
  rw [if_pos (Nat.succ_pos m), Nat.add_sub_cancel]
  cases o with
  | none =>
   by_cases hd : d m = true
   ·have e : runC d (m + 1) = (c, some m) := by simp only [runC, hR, hd, if_true]
    rw [e]
    dsimp only
    refine ⟨?_, fun x hx => by have := h2 x hx; omega, by simp [hd]⟩
    cases m with
    | zero =>
     rw [if_neg (by omega)] at h1
     simp only [op0] at h1 ⊢
     rw [hd]
     simp only [b2i, if_true]
     omega
    | succ m =>
     rw [if_pos (by omega)] at h1
     simp only [op0] at h1 ⊢
     exact h1
   ·have e : runC d (m + 1) = (c, none) := by simp only [runC, hR, if_neg hd]
    rw [e]
    dsimp only
    refine ⟨?_, fun x hx => by have := h2 x hx; omega, by simp [hd]⟩
    cases m with
    | zero =>
     rw [if_neg (by omega)] at h1
     simp only [op0] at h1 ⊢
     rw [show d 0 = false by simpa using hd]
     simpa [b2i] using h1
    | succ m =>
     rw [if_pos (by omega)] at h1
     exact h1
  | some f =>
   have hfm := hf f rfl
   rw [if_pos (by omega)] at h1
   by_cases hd : d m = true
   ·have e : runC d (m + 1) = (c, some f) := by simp only [runC, hR, hd, if_true]
    rw [e]
    dsimp only
    exact ⟨h1, fun x hx => by have := h2 x hx; omega, by simp [hd]⟩
   ·have e : runC d (m + 1) = (c ++ [(f, m - f)], none) := by simp only [runC, hR, if_neg hd]
    rw [e]
    dsimp only
    refine ⟨?_, fun x hx => ?_, by simp [hd]⟩
    ·rw [List.map_append, sumZ_append, ← h1]
     cases f with
     | zero => simp [sumZ, at0, op0]
     | succ f => simp [sumZ, at0, op0]
    ·rcases List.mem_append.1 hx with h | h
     ·have := h2 x h; omega
     ·simp at h
      subst h
      dsimp only
      omega
theorem sumZ_congr {α : Type} {f g : α → Int} : ∀ {L : List α}, (∀ x ∈ L, f x = g x) → sumZ (L.map f) = sumZ (L.map g)
 | [], _ => rfl
 | a :: L, h => by
  rw [List.map_cons, List.map_cons, sumZ, sumZ, h a List.mem_cons_self, sumZ_congr (fun x hx => h x (List.mem_cons_of_mem _ hx))]
theorem runs_ends (d : Nat → Bool) (line n : Nat) (hn : 1 ≤ n) : sumZ ((runs d n).map fun x => endC (n : Int) (line, x.1, x.2)) = b2i (d 0) + b2i (d (n - 1)) := by
 obtain ⟨h1, h2, h3⟩ := runC_ends d n
 have hf := (runC_inv d n).2.1
 rw [if_pos (by omega)] at h1
 unfold runs
 rw [List.map_append, sumZ_append]
 have e1 : sumZ ((runC d n).1.map fun x => endC (n : Int) (line, x.1, x.2)) = sumZ ((runC d n).1.map at0) := sumZ_congr fun x hx => by
  have := h2 x hx
  unfold endC at0
  dsimp only
  rw [if_neg (show ¬ ((x.1 + x.2 : Nat) : Int) = (n : Int) by omega)]
  omega
 rw [e1]
 cases ho : (runC d n).2 with
 | none =>
  rw [ho] at h1 h3
  have : d (n - 1) = false := by
   cases hd : d (n - 1) with
   | false => rfl
   | true => exact absurd (h3.2 ⟨by omega, hd⟩) (by simp)
  rw [this]
  simp only [openR, List.map_nil, sumZ, op0, b2i] at h1 ⊢
  simp at h1 ⊢
  exact h1
 | some f =>
  have hfn := hf f ho
  rw [ho] at h1 h3
  have : d (n - 1) = true := (h3.1 rfl).2
  rw [this]
  simp only [openR, List.map_cons, List.map_nil, sumZ]
  unfold endC
  dsimp only
  rw [if_pos (show ((f + (n - f) : Nat) : Int) = (n : Int) by omega)]
  cases f with
  | zero => simp only [op0, b2i, if_true] at h1 ⊢; omega
  | succ f => simp only [op0, b2i, if_true] at h1 ⊢; rw [if_neg (by omega)]; omega
def cntB (f : Nat → Bool) : Nat → Int
 | 0 => 0
 | j + 1 => cntB f j + b2i (f (j + 1))
theorem trip_ends (d : Nat → Nat → Bool) (n : Nat) (hn : 1 ≤ n) : ∀ j, endsOf (n : Int) (trip d n j) = cntB (fun l => d l 0) j + cntB (fun l => d l (n - 1)) j
 | 0 => by simp [endsOf, trip, sumZ, cntB]
 | j + 1 => by
  have ih := trip_ends d n hn j
  unfold endsOf at ih ⊢
  rw [trip, List.map_append, sumZ_append, ih, List.map_map]
  have := runs_ends (d (j + 1)) (j + 1) n hn
  simp only [cntB]
  have e : (endC (n : Int) ∘ fun x : Nat × Nat => (j + 1, x.1, x.2)) = fun x => endC (n : Int) (j + 1, x.1, x.2) := rfl
  rw [e, this]
  omega
theorem fold_count (f : Nat → Int) : ∀ j, ((foldP ((List.range (j + 1)).map f)).length : Int) = cntB (fun l => f (l - 1) != f l) j + 1
 | 0 => by simp [foldP, putL, cntB]
 | j + 1 => by
  have ih := fold_count f j
  rw [List.range_succ, List.map_append]
  show ((foldP (((List.range (j + 1)).map f) ++ [f (j + 1)])).length : Int) = _
  have hl : (foldP ((List.range (j + 1)).map f)).getLast? = some (f j) := by
   rw [List.range_succ, List.map_append]
   exact foldP_last _ _
  rw [foldP_snoc]
  unfold putL
  rw [hl]
  simp only [cntB, Nat.add_sub_cancel]
  by_cases e : f j = f (j + 1)
  ·rw [if_pos (by rw [e]), ih, e]
   simp [b2i]
  ·rw [if_neg (fun z => e (Option.some.inj z)), List.length_append, List.length_singleton]
   have : (f j != f (j + 1)) = true := by rw [bne_iff_ne]; exact e
   rw [this]
   simp only [b2i, if_true]
   omega
theorem cntB_congr {f g : Nat → Bool} : ∀ {j}, (∀ l, 1 ≤ l → l ≤ j → f l = g l) → cntB f j = cntB g j
 | 0, _ => rfl
 | j + 1, h => by
  simp only [cntB]
  rw [cntB_congr (fun l h1 h2 => h l h1 (by omega)), h (j + 1) (by omega) (Nat.le_refl _)]
theorem ends_sides {cs : List (List Int)} {rs : List Rc} (h : zcm cs rs) :
  ((foldP (sideL cs 0)).length : Int) + (foldP (sideL cs 1)).length + (foldP (sideL cs 2)).length + (foldP (sideL cs 3)).length = endsOf cs.length (upT cs) + endsOf (zan cs) (levT cs) + 4 := by
 have h1 := h.h1
 have w1 := h.w1
 unfold upT levT
 rw [trip_ends _ _ h1, trip_ends _ _ w1]
 have s0 : sideL cs 0 = (List.range (zan cs - 1 + 1)).map (fun c => zbb cs 0 c) := by rw [show zan cs - 1 + 1 = zan cs by omega]; rfl
 have s1 : sideL cs 1 = (List.range (cs.length - 1 + 1)).map (fun r => zbb cs r (zan cs - 1)) := by rw [show cs.length - 1 + 1 = cs.length by omega]; rfl
 have s2 : sideL cs 2 = (List.range (zan cs - 1 + 1)).map (fun c => zbb cs (cs.length - 1) c) := by rw [show zan cs - 1 + 1 = zan cs by omega]; rfl
 have s3 : sideL cs 3 = (List.range (cs.length - 1 + 1)).map (fun r => zbb cs r 0) := by rw [show cs.length - 1 + 1 = cs.length by omega]; rfl
 rw [s0, s1, s2, s3, fold_count, fold_count, fold_count, fold_count]
 have e0 : cntB (fun l => difB cs false l 0) (zan cs - 1) = cntB (fun l => zbb cs 0 (l - 1) != zbb cs 0 l) (zan cs - 1) := cntB_congr fun l _ _ => rfl
 have e2 : cntB (fun l => difB cs false l (cs.length - 1)) (zan cs - 1) = cntB (fun l => zbb cs (cs.length - 1) (l - 1) != zbb cs (cs.length - 1) l) (zan cs - 1) := cntB_congr fun l _ _ => rfl
 have e3 : cntB (fun l => difB cs true l 0) (cs.length - 1) = cntB (fun l => zbb cs (l - 1) 0 != zbb cs l 0) (cs.length - 1) := cntB_congr fun l _ _ => rfl
 have e1 : cntB (fun l => difB cs true l (zan cs - 1)) (cs.length - 1) = cntB (fun l => zbb cs (l - 1) (zan cs - 1) != zbb cs l (zan cs - 1)) (cs.length - 1) := cntB_congr fun l _ _ => rfl
 rw [e0, e1, e2, e3]
 omega
end Go.Proofs.Ytickdcegnlldjaa.Hd
namespace Go.Proofs.Ytickdcegnlldjaa.Pure
open Go.RowKit Go.Proofs.Ytickdcegnlldjaa.EN Go.Proofs.Ytickdcegnlldjaa.PB Go.Proofs.Ytickdcegnlldjaa.SM Go.Proofs.Ytickdcegnlldjaa.Hd Go.PW.PrintWords Go.PW.PrintLast
theorem FnEnds : laws_FnEnds.Pure := by
 intro l0 h1 h2 h3
 by_cases big : (l0.length : Int) > 1048576
 ·exact ⟨0, by unfold laws_FnEnds.f; rw [if_pos big]⟩
 ·obtain ⟨p, hp, hl⟩ := DrawWallEnds_ev l0 (fun x hx => byte_of (h3 x hx))
  have hsm : smallB p = true := (smallB_iff _).2 hl.small
  have hI : impl_WallEnds.f p = some (zcp p) := by unfold impl_WallEnds.f; rw [if_pos hsm]
  apply Evs.ex
  refine Evs.neg big (Evs.bind hp (Evs.bindS hI (Evs.bind (WallEnds_ev p hl.small) (Evs.neg (by simp) (Evs.pos rfl ?_)))))
  rcases planB_cases p with ⟨-, f1⟩ | ⟨-, cs, rs, f1⟩
  ·have e0 : zcp p = (0, false) := by unfold zcp; rw [f1]
   rw [e0]
   show Evs (fun k => laws_FnEnds.j0 k p 0 false 0 false true) true
   refine Evs.stepPos (fun k => by conv => lhs; unfold laws_FnEnds.j0) rfl ?_
   exact Evs.pos rfl (Evs.const _)
  ·have hok := floorF_ok f1
   have e0 : zcp p = (endsOf cs.length (upT cs) + endsOf (zan cs) (levT cs), true) := by unfold zcp; rw [f1]
   have hs := ends_sides hok
   have near : ∀ s : Int, 0 ≤ s → s ≤ 3 → impl_NearOut.f p s = some (foldP (sideL cs s), true) := fun s a b => by
    unfold impl_NearOut.f nearOutF
    rw [if_pos hsm, f1]
    exact congrArg some (if_pos ⟨a, b⟩)
   have lim : ∀ s : Int, (foldP (sideL cs s)).length ≤ 6 := fun s => by
    have := foldP_length (sideL cs s)
    have := (sideL_length hok s).2
    omega
   have l0' := lim 0
   have l1' := lim (0 + 1)
   have l2' := lim (0 + 1 + 1)
   have l3' := lim (0 + 1 + 1 + 1)
   rw [e0]
   generalize endsOf cs.length (upT cs) + endsOf (zan cs) (levT cs) = E at *
   have st : ∀ (s : Int) (x : Nat) (y : Nat) (z : Nat), 0 ≤ s → s ≤ 3 → x ≤ 30 → (foldP (sideL cs s)).length = y → y ≤ 6 → z = x + y → Evs (fun k => laws_FnEnds.l0 k p E (z : Int) (s + 1)) true → Evs (fun k => laws_FnEnds.l0 k p E (x : Int) s) true := by
    intro s x y z a b hx hy h6 hz hnx
    refine Evs.stepPos (fun k => by conv => lhs; unfold laws_FnEnds.l0) (by omega) (Evs.bindS (near s a b) (Evs.pos rfl ?_))
    rw [hy, zar (x := (x : Int) + (y : Int)) (by omega) (by omega), zar (x := s + 1) (by omega) (by omega)]
    subst hz
    exact hnx
   refine Evs.stepNeg (fun k => by conv => lhs; unfold laws_FnEnds.j0) (by simp) ?_
   refine st 0 0 _ _ (by omega) (by omega) (by omega) rfl l0' rfl ?_
   refine st (0 + 1) _ _ _ (by omega) (by omega) (by omega) rfl l1' rfl ?_
   refine st (0 + 1 + 1) _ _ _ (by omega) (by omega) (by omega) rfl l2' rfl ?_
   refine st (0 + 1 + 1 + 1) _ _ _ (by omega) (by omega) (by omega) rfl l3' rfl ?_
   refine Evs.stepNeg (fun k => by conv => lhs; unfold laws_FnEnds.l0) (by omega) ?_
   have e : ((((0 + (foldP (sideL cs 0)).length + (foldP (sideL cs (0 + 1))).length + (foldP (sideL cs (0 + 1 + 1))).length + (foldP (sideL cs (0 + 1 + 1 + 1))).length : Nat) : Int)) == wrap64 (E + 4)) = true := by
    have : (foldP (sideL cs (0 + 1))).length = (foldP (sideL cs 1)).length := rfl
    have : (foldP (sideL cs (0 + 1 + 1))).length = (foldP (sideL cs 2)).length := rfl
    have : (foldP (sideL cs (0 + 1 + 1 + 1))).length = (foldP (sideL cs 3)).length := rfl
    rw [beq_iff_eq, zar (by omega) (by omega)]
    omega
   rw [e]
   exact Evs.const _
end Go.Proofs.Ytickdcegnlldjaa.Pure
