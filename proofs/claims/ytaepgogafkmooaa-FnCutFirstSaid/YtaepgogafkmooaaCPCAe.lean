/- Part 5 of the proof of FnCutFirst: what the program's functions and the reference's compute. -/
import Derived.Shelf.Strings.Builder1
import Derived.Test.YtaepgogafkmooaaProg
import Derived.Below
import Derived.Deep.Draws
import Derived.Deep.AppendLies
import Derived.Maps.AppendAt
import Derived.OwnWalk
import Derived.Laws.BytesArg
import Derived.Laws.MakeOwn
import Derived.Laws.OwnMore
import Derived.Deep.OwnRows
import Derived.Tactics
import Derived.Lib.ConvBytes
import Derived.Laws.Slices
import Derived.WalkKit
import Derived.KernelRfl
import Derived.RowKit3
import Derived.Deep.LoopGhost
import Derived.Deep.QuietTactic
import Derived.BigQuiet
import Derived.WideLaws
import Derived.Deep.DeepCutAuto
import Derived.Deep.CutBlock
import Derived.Deep.RegionHeld3
import Derived.Laws.Rows
import Derived.Lib.AppendStr
import Derived.ArgAppend
import Derived.Laws.IdiomCopy
import Derived.OrdersHeld
import Derived.Laws.BitsLemmas
import Derived.RowKit
import Derived.Test.YtaepgogafkmooaaCPCAd
namespace Go.Proofs.Ytaepgogafkmooaa.Hd
open Go.RowKit Go.Proofs.YtaepgogafkmooaaW.PrintWords Go.Proofs.YtaepgogafkmooaaW.PrintLast Go.Proofs.YtaepgogafkmooaaW.PrintMore Go.Proofs.Ytaepgogafkmooaa.PB
set_option linter.unusedVariables false
set_option linter.unusedSimpArgs false
section
variable {P : Program} {ops : Array Oper} {o : Oper} {a : Act} {Q : Exit → Act → World → Prop} {Kc : Act → World → Prop} {W : World}
theorem cells_step {N : Option Tmp} (hw : Region.wanted o (yielded ops a.tmps) = true) (hN : o.dst = none) {t e : TypeId} {p x : Operand} (ho : o.op = .store t p x) {g off : Nat} {cur : Array Value} (haddr : a.eval p = .pointer (some ⟨g, off, none⟩)) (u : Value) (hx : a.eval x = u) (seg : List Value) (hu : u.cells.toList = seg) (ht : (P.info? t).map (·.size) = some seg.length)
  (hh : W.heap[g]? = some (.cells cur e (0, 0))) (hfit : off + seg.length ≤ cur.size) (h1 : ∀ q ∈ seg, q.oneCell' = true) (h : Kc a (W.setCells g off seg)) : if Region.wanted o (yielded ops a.tmps) = true then Oper.wp P o a W Kc Q else Kc (a.put N undef) W := by
 refine skip_step hw hN (w1 := W.setCells g off seg) ?_ h
 have hr := run_store_run (P := P) t u seg hh hu ht hfit h1
 simp [execOp, ho, haddr, hx, hr]
theorem map_step {N : Option Tmp} {w1 : World} (hw : Region.wanted o (yielded ops a.tmps) = true) (hN : o.dst = none) {t : TypeId} {m k v : Operand} (ho : o.op = .mapUpdate t m k v) (hrun : (Instr.mapUpdate t (a.eval m) (a.eval k) (a.eval v)).run P W = .ok () w1) (h : Kc a w1) : if Region.wanted o (yielded ops a.tmps) = true then Oper.wp P o a W Kc Q else Kc (a.put N undef) W := by
 refine skip_step hw hN (w1 := w1) ?_ h
 simp [execOp, ho, hrun]
end
structure SInv (w0 : World) (gn gc gv gf bm : Nat) (A : Option Addr) (cap : Nat) (rows : List (List Int)) (wi : Nat) (v : Value) (n : Nat) (F : Nat → Prop) (W : World) : Prop where
 old : ∀ k, k < w0.heap.size → W.heap[k]? = w0.heap[k]?
 size : w0.heap.size ≤ W.heap.size
 num : W.heap[gn]? = some (.cells #[.map (some bm)] 129 (0, 0))
 cel : W.heap[gc]? = some (.cells #[.slice A rows.length cap] 63 (0, 0))
 flo : W.heap[gv]? = some (.cells #[.pointer (some ⟨gf, 0, none⟩)] 59 (0, 0))
 str : W.heap[gf]? = some (.cells #[.slice none 0 0, v] 68 (0, 0))
 map : IMap W bm (stAt rows wi n).1
 row : Kd.R kRc 131 W w0.heap.size (fun k => some k = v.ownBlock) v (stAt rows wi n).2
 base : w0.heap.size ≤ gn ∧ w0.heap.size ≤ gc ∧ w0.heap.size ≤ gv ∧ w0.heap.size ≤ gf ∧ w0.heap.size ≤ bm
 foot : ∀ k, F k ↔ (k < w0.heap.size ∨ k = gn ∨ k = gc ∨ k = gv ∨ k = gf ∨ k = bm ∨ some k = v.ownBlock)
section
variable {w0 W W' : World} {gn gc gv gf bm cap wi n : Nat} {A : Option Addr} {rows : List (List Int)} {v : Value} {F : Nat → Prop}
theorem SInv.move (h : SInv w0 gn gc gv gf bm A cap rows wi v n F W) (hs : W.heap.size ≤ W'.heap.size) (hm : ∀ k, F k → W'.heap[k]? = W.heap[k]?) : SInv w0 gn gc gv gf bm A cap rows wi v n F W' := by
 have hm' : ∀ k, (k < w0.heap.size ∨ k = gn ∨ k = gc ∨ k = gv ∨ k = gf ∨ k = bm ∨ some k = v.ownBlock) → W'.heap[k]? = W.heap[k]? := fun k hk => hm k ((h.foot k).2 hk)
 exact ⟨fun k hk => (hm' k (.inl hk)).trans (h.old k hk), Nat.le_trans h.size hs, (hm' gn (by simp)).trans h.num, (hm' gc (by simp)).trans h.cel, (hm' gv (by simp)).trans h.flo, (hm' gf (by simp)).trans h.str, h.map.move (hm' bm (by simp)), Kd.R_move h.row (fun k hk => hm' k (by simp [hk])), h.base, h.foot⟩
theorem SInv.lt (h : SInv w0 gn gc gv gf bm A cap rows wi v n F W) : ∀ k, F k → k < W.heap.size := by
 intro k hk
 have hlt : ∀ {g : Nat} {o : Obj}, W.heap[g]? = some o → g < W.heap.size := fun h => (Array.getElem?_eq_some_iff.1 h).1
 rcases (h.foot k).1 hk with h1 | rfl | rfl | rfl | rfl | rfl | h1
 ·exact Nat.lt_of_lt_of_le h1 h.size
 ·exact hlt h.num
 ·exact hlt h.cel
 ·exact hlt h.flo
 ·exact hlt h.str
 ·exact h.map.lt
 ·exact Kd.R_lt h.row k h1.symm
end
structure GridIn (w0 : World) (A : Option Addr) (rows : List (List Int)) (hi wi : Nat) : Prop where
 reads : (Kd.slice 3 (Kd.int .i64)).C w0 A rows.length rows
 high : rows.length = hi
 wide : ∀ r ∈ rows, r.length = wi
 hi_le : hi ≤ 1048576
 wi_le : wi ≤ 1048576
 many : hi * wi ≤ 1048576
 vals : ∀ r ∈ rows, ∀ x ∈ r, 0 ≤ x ∧ x ≤ 1048576
theorem GridIn.cell {w0 : World} {A : Option Addr} {rows : List (List Int)} {hi wi : Nat} (h : GridIn w0 A rows hi wi) (r c : Nat) (hr : r < hi) (hc : c < wi) :
  ∃ (ad ad2 : Addr) (ci : Nat) (row : List Int), A = some ad ∧ w0.cell? (ad.add r) = some (.slice (some ad2) row.length ci) ∧ row.length = wi ∧ w0.cell? (ad2.add c) = some (.int .i64 (valAt rows r c)) ∧ 0 ≤ valAt rows r c ∧ valAt rows r c ≤ 1048576 := by
 have hrl : r < rows.length := by rw [h.high]; exact hr
 have hrow := List.getElem?_eq_getElem hrl
 have hmem := List.getElem_mem hrl
 obtain ⟨ad, Ai, ci, e1, hx, hl, hrr⟩ := C_row h.reads r _ hrow
 have hw := h.wide _ hmem
 obtain ⟨ad2, e2, hx2⟩ := Kd.at_int hrr (c : Int) (by omega) (by omega)
 subst e2
 have hv : rd rows[r] (c : Int) = valAt rows r c := by
  unfold rd valAt
  rw [List.getD_eq_getElem?_getD (l := rows), hrow]
  simp
 have hcl : c < rows[r].length := by omega
 have hb := h.vals _ hmem (rows[r][c]) (List.getElem_mem hcl)
 have hv2 : valAt rows r c = rows[r][c] := by
  unfold valAt
  rw [List.getD_eq_getElem?_getD (l := rows), hrow, Option.getD_some, List.getD_eq_getElem?_getD, List.getElem?_eq_getElem hcl]
  rfl
 rw [hv, show ((c : Int).toNat) = c by omega] at hx2
 exact ⟨ad, ad2, ci, _, e1, hx, hw, hx2, by rw [hv2]; exact hb.1, by rw [hv2]; exact hb.2⟩
theorem rc_cells {W : World} {B g n cap : Nat} {ok : Nat → Prop} {rs : List Rc} (h : Kd.R kRc 131 W B ok (.slice (some ⟨g, 0, none⟩) n cap) rs) (k : Nat) (hk : k < rs.length) :
  W.cell? ⟨g, k * 4, none⟩ = some (.int .i64 (rs.getD k zeroR).f0) ∧ W.cell? ⟨g, k * 4 + 1, none⟩ = some (.int .i64 (rs.getD k zeroR).f1) ∧ W.cell? ⟨g, k * 4 + 2, none⟩ = some (.int .i64 (rs.getD k zeroR).f2) ∧ W.cell? ⟨g, k * 4 + 3, none⟩ = some (.int .i64 (rs.getD k zeroR).f3) := by
 obtain ⟨A, c, e, hl, hC⟩ := Kd.R_reads h
 injection e with e1 e2 e3
 subst e1; subst e2
 obtain ⟨ad, e4, h0, h1, h2, h3⟩ := at_T131 hC (k : Int) (by omega) (by omega)
 injection e4 with e4
 subst e4
 have e5 : rd_T131 rs (k : Int) = rs.getD k zeroR := by
  unfold rd_T131
  rw [show ((k : Int).toNat) = k by omega]
  rfl
 rw [show ((k : Int).toNat) = k by omega, add_plain, e5] at h0 h1 h2 h3
 exact ⟨h0, h1, h2, h3⟩
theorem rc_block {W : World} {B g n cap : Nat} {ok : Nat → Prop} {rs : List Rc} (h : Kd.R kRc 131 W B ok (.slice (some ⟨g, 0, none⟩) n cap) rs) : ∃ cur, W.heap[g]? = some (.cells cur 131 (0, 0)) ∧ rs.length * 4 ≤ cur.size := by
 obtain ⟨h0, inner, ho, hr⟩ := h
 rcases ho.2 with ⟨e, _⟩ | ⟨g', cap', cur, e, hb, hg, hn, hm, hs, ht⟩
 ·cases e
 ·injection e with e1 e2 e3
  injection e1 with e1
  injection e1 with e1
  subst e1
  refine ⟨cur, hg, ?_⟩
  rw [hs]
  exact Nat.mul_le_mul_right _ hn
theorem rc_put {W : World} {B g n cap : Nat} {ok : Nat → Prop} {rs : List Rc} (h : Kd.R kRc 131 W B ok (.slice (some ⟨g, 0, none⟩) n cap) rs) (k : Nat) (hk : k < rs.length) (x : Rc) :
  Kd.R kRc 131 (W.setCells g (k * 4) [.int .i64 x.f0, .int .i64 x.f1, .int .i64 x.f2, .int .i64 x.f3]) B ok (.slice (some ⟨g, 0, none⟩) n cap) (rs.set k x) ∧ W.grownBy (W.setCells g (k * 4) [.int .i64 x.f0, .int .i64 x.f1, .int .i64 x.f2, .int .i64 x.f3]) (some g) := by
 obtain ⟨y0, y1, y2, y3⟩ := rc_cells h k hk
 have hn := (Kd.R_reads' h).1
 have z := Kd.R_seg h (k : Int) (by omega) (by omega) (c := [.int .i64 (rs.getD k zeroR).f0, .int .i64 (rs.getD k zeroR).f1, .int .i64 (rs.getD k zeroR).f2, .int .i64 (rs.getD k zeroR).f3]) (seg := [.int .i64 x.f0, .int .i64 x.f1, .int .i64 x.f2, .int .i64 x.f3]) (j := 0) rfl (fun j u hu => by
   rw [show ((k : Int).toNat) = k by omega]
   show W.cell? ⟨g, k * 4 + j, none⟩ = some u
   match j, hu with
   | 0, hu => rw [Nat.add_zero, y0]; exact hu
   | 1, hu => rw [y1]; exact hu
   | 2, hu => rw [y2]; exact hu
   | 3, hu => rw [y3]; exact hu
   | j + 4, hu => rw [List.getElem?_eq_none (by simp)] at hu; cases hu) (Nat.le_refl 4) (x' := x) (okp := fun _ => False) (k131_mkM W B _ x) (fun k hk => hk.elim)
 rw [show ((k : Int).toNat) = k by omega] at z
 exact z
def FoundPost (W : World) (B : Nat) (v : Value) (rs : List Rc) (k r c : Nat) (e : Ending) (W' : World) : Prop :=
 e = .returned (.int .i64 (k : Int)) ∧ Kd.R kRc 131 W' B (fun k => some k = v.ownBlock) v (rs.set k (bothR (rs.getD k zeroR) (oneR r c))) ∧ W.grownBy W' v.ownBlock
set_option maxHeartbeats 4000000 in
set_option maxRecDepth 100000 in
theorem found_walk (W : World) (B gn gc gv gf bm : Nat) (ad ad2 : Addr) (nr cap nc ci : Nat) (x : Int) (k : Nat) (rs : List Rc) (v : Value) (r c hi wi : Nat) (hr : r < hi) (hc : c < wi) (hhi : hi ≤ 1048576) (hwi : wi ≤ 1048576) (hrn : r < nr) (hcn : c < nc) (hnr : nr ≤ 1048576) (hnc : nc ≤ 1048576)
  (hx1 : W.cell? ⟨gn, 0, none⟩ = some (.map (some bm))) (hx2 : W.cell? ⟨gc, 0, none⟩ = some (.slice (some ad) nr cap)) (hx3 : W.cell? (ad.add r) = some (.slice (some ad2) nc ci)) (hx4 : W.cell? (ad2.add c) = some (.int .i64 x))
  (hlook : ∀ W' : World, W'.heap[bm]? = W.heap[bm]? → (Instr.lookup 129 (.map (some bm)) (.int .i64 x) true).run Try.prog W' = .ok (.tuple #[.int .i64 (k : Int), .bool true]) W')
  (hx5 : W.cell? ⟨gv, 0, none⟩ = some (.pointer (some ⟨gf, 0, none⟩))) (hx6 : W.heap[gf]? = some (.cells #[.slice none 0 0, v] 68 (0, 0)))
  (hrow : Kd.R kRc 131 W B (fun k => some k = v.ownBlock) v rs) (hk : k < rs.length) (hrl : rs.length ≤ 1048576) (hbd : ∀ a ∈ rs, boundR a hi wi) :
  Calls Try.prog 140 #[.int .i64 r, .int .i64 c, .pointer (some ⟨gn, 0, none⟩), .pointer (some ⟨gc, 0, none⟩), .pointer (some ⟨gv, 0, none⟩)] W (FoundPost W B v rs k r c) := by
 have hL := hlook W.drew rfl
 have HRow := Aside0.mk hrow
 have HBd := Aside0.mk hbd
 have H5 := Aside0.mk hx5
 have H6 := Aside0.mk hx6
 clear hlook hrow hbd hx5 hx6
 have r0 : (0 : Int) ≤ r := by omega
 have r1 : (r : Int) < nr := by omega
 have r2 : (r : Int) ≤ 1048576 := by omega
 have c0 : (0 : Int) ≤ c := by omega
 have c1 : (c : Int) < nc := by omega
 have c2 : (c : Int) ≤ 1048576 := by omega
 go_enter Try.func140, Try.ntmps140
 go_wp2
 refine start_ (n := 14) (S := fun w' => w'.cell? ⟨gn, 0, none⟩ = some (.map (some bm)) ∧ w'.cell? ⟨gc, 0, none⟩ = some (.slice (some ad) nr cap) ∧ w'.cell? (ad.add r) = some (.slice (some ad2) nc ci) ∧ w'.cell? (ad2.add c) = some (.int .i64 x) ∧ (Instr.lookup 129 (.map (some bm)) (.int .i64 x) true).run Try.prog w' = .ok (.tuple #[.int .i64 (k : Int), .bool true]) w') (ds := []) #[false, false, false, false, false, false, false, false, false, false, false, false, false, false] (by kernel_rfl) rfl rfl (⟨hx1, hx2, hx3, hx4, hL⟩) (fun hHeld => ?_)
 refine take_ (i := 0) (N := some 11) (v := ?_) (a' := ?_) #[true, false, false, false, false, false, false, false, false, false, false, false, false, false] rfl rfl (by kernel_rfl) (fun _ _ _ h => h) (Or.inl ⟨by rfl, ?_⟩) hHeld ?_ ?_
 rotate_left
 ·rintro w' ⟨s0, s1, s2, s3, s4⟩
  go_simp
  with_reducible rfl
 rotate_left
 ·simp only [Act.put, List.setIfInBounds_toArray, List.set_cons_zero, List.set_cons_succ, i64_w, i32_w]
  rfl
 refine take_ (i := 1) (N := some 12) (v := ?_) (a' := ?_) #[true, true, false, false, false, false, false, false, false, false, false, false, false, false] rfl rfl (by kernel_rfl) (fun _ _ _ h => h) (Or.inl ⟨by rfl, ?_⟩) hHeld ?_ ?_
 rotate_left
 ·rintro w' ⟨s0, s1, s2, s3, s4⟩
  go_simp
  with_reducible rfl
 rotate_left
 ·simp only [Act.put, List.setIfInBounds_toArray, List.set_cons_zero, List.set_cons_succ, i64_w, i32_w]
  rfl
 refine pure_ (i := 2) (N := some 13) (v := ?_) (a' := ?_) #[true, true, true, false, false, false, false, false, false, false, false, false, false, false] rfl rfl (by kernel_rfl) (fun _ _ _ h => h) (Or.inl ⟨by rfl, ?_⟩) ?_ ?_
 rotate_left
 ·intro w'
  go_simp
  with_reducible rfl
 rotate_left
 ·simp only [Act.put, List.setIfInBounds_toArray, List.set_cons_zero, List.set_cons_succ, i64_w, i32_w]
  rfl
 refine pure_ (i := 3) (N := some 14) (v := ?_) (a' := ?_) #[true, true, true, true, false, false, false, false, false, false, false, false, false, false] rfl rfl (by kernel_rfl) (fun _ _ _ h => h) (Or.inl ⟨by rfl, ?_⟩) ?_ ?_
 rotate_left
 ·intro w'
  go_simp
  with_reducible rfl
 rotate_left
 ·simp only [Act.put, List.setIfInBounds_toArray, List.set_cons_zero, List.set_cons_succ, i64_w, i32_w]
  rfl
 refine take_ (i := 4) (N := some 15) (v := ?_) (a' := ?_) #[true, true, true, true, true, false, false, false, false, false, false, false, false, false] rfl rfl (by kernel_rfl) (fun _ _ _ h => h) (Or.inl ⟨by rfl, ?_⟩) hHeld ?_ ?_
 rotate_left
 ·rintro w' ⟨s0, s1, s2, s3, s4⟩
  go_simp
  with_reducible rfl
 rotate_left
 ·simp only [Act.put, List.setIfInBounds_toArray, List.set_cons_zero, List.set_cons_succ, i64_w, i32_w]
  rfl
 refine pure_ (i := 5) (N := some 16) (v := ?_) (a' := ?_) #[true, true, true, true, true, true, false, false, false, false, false, false, false, false] rfl rfl (by kernel_rfl) (fun _ _ _ h => h) (Or.inl ⟨by rfl, ?_⟩) ?_ ?_
 rotate_left
 ·intro w'
  go_simp
  with_reducible rfl
 rotate_left
 ·simp only [Act.put, List.setIfInBounds_toArray, List.set_cons_zero, List.set_cons_succ, i64_w, i32_w]
  rfl
 refine pure_ (i := 6) (N := some 17) (v := ?_) (a' := ?_) #[true, true, true, true, true, true, true, false, false, false, false, false, false, false] rfl rfl (by kernel_rfl) (fun _ _ _ h => h) (Or.inl ⟨by rfl, ?_⟩) ?_ ?_
 rotate_left
 ·intro w'
  go_simp
  with_reducible rfl
 rotate_left
 ·simp only [Act.put, List.setIfInBounds_toArray, List.set_cons_zero, List.set_cons_succ, i64_w, i32_w]
  rfl
 refine take_ (i := 7) (N := some 18) (v := ?_) (a' := ?_) #[true, true, true, true, true, true, true, true, false, false, false, false, false, false] rfl rfl (by kernel_rfl) (fun _ _ _ h => h) (Or.inl ⟨by rfl, ?_⟩) hHeld ?_ ?_
 rotate_left
 ·rintro w' ⟨s0, s1, s2, s3, s4⟩
  go_simp
  with_reducible rfl
 rotate_left
 ·simp only [Act.put, List.setIfInBounds_toArray, List.set_cons_zero, List.set_cons_succ, i64_w, i32_w]
  rfl
 refine take_ (i := 8) (N := some 19) (v := ?_) (a' := ?_) #[true, true, true, true, true, true, true, true, true, false, false, false, false, false] rfl rfl (by kernel_rfl) (fun _ _ _ h => h) (Or.inl ⟨by rfl, ?_⟩) hHeld ?_ ?_
 rotate_left
 ·rintro w' ⟨s0, s1, s2, s3, s4⟩
  go_simp
  with_reducible rfl
 rotate_left
 ·simp only [Act.put, List.setIfInBounds_toArray, List.set_cons_zero, List.set_cons_succ, i64_w, i32_w]
  rfl
 refine pure_ (i := 9) (N := some 10) (v := ?_) (a' := ?_) #[true, true, true, true, true, true, true, true, true, true, false, false, false, false] rfl rfl (by kernel_rfl) (fun _ _ _ h => h) (Or.inl ⟨by rfl, ?_⟩) ?_ ?_
 rotate_left
 ·intro w'
  go_simp
  with_reducible rfl
 rotate_left
 ·simp only [Act.put, List.setIfInBounds_toArray, List.set_cons_zero, List.set_cons_succ, i64_w, i32_w]
  rfl
 refine pure_ (i := 10) (N := some 20) (v := ?_) (a' := ?_) #[true, true, true, true, true, true, true, true, true, true, true, false, false, false] rfl rfl (by kernel_rfl) (fun _ _ _ h => h) (Or.inl ⟨by rfl, ?_⟩) ?_ ?_
 rotate_left
 ·intro w'
  go_simp
  with_reducible rfl
 rotate_left
 ·simp only [Act.put, List.setIfInBounds_toArray, List.set_cons_zero, List.set_cons_succ, i64_w, i32_w]
  rfl
 refine pure_ (i := 11) (N := some 21) (v := ?_) (a' := ?_) #[true, true, true, true, true, true, true, true, true, true, true, true, false, false] rfl rfl (by kernel_rfl) (fun _ _ _ h => h) (Or.inl ⟨by rfl, ?_⟩) ?_ ?_
 rotate_left
 ·intro w'
  go_simp
  with_reducible rfl
 rotate_left
 ·simp only [Act.put, List.setIfInBounds_toArray, List.set_cons_zero, List.set_cons_succ, i64_w, i32_w]
  rfl
 refine pure_ (i := 12) (N := some 8) (v := ?_) (a' := ?_) #[true, true, true, true, true, true, true, true, true, true, true, true, true, false] rfl rfl (by kernel_rfl) (fun _ _ _ h => h) (Or.inl ⟨by rfl, ?_⟩) ?_ ?_
 rotate_left
 ·intro w'
  go_simp
  with_reducible rfl
 rotate_left
 ·simp only [Act.put, List.setIfInBounds_toArray, List.set_cons_zero, List.set_cons_succ, i64_w, i32_w]
  rfl
 refine pure_ (i := 13) (N := some 9) (v := ?_) (a' := ?_) #[true, true, true, true, true, true, true, true, true, true, true, true, true, true] rfl rfl (by kernel_rfl) (fun _ _ _ h => h) (Or.inl ⟨by rfl, ?_⟩) ?_ ?_
 rotate_left
 ·intro w'
  go_simp
  with_reducible rfl
 rotate_left
 ·simp only [Act.put, List.setIfInBounds_toArray, List.set_cons_zero, List.set_cons_succ, i64_w, i32_w]
  rfl
 refine done_ (by kernel_rfl) ?_
 clear hHeld hx1 hx2 hx3 hx4 hL
 have HRow := Aside0.mk (show Kd.R kRc 131 W.drew B (fun k => some k = v.ownBlock) v rs from Kd.R_drew HRow.out)
 have hpos : 0 < rs.length := by omega
 obtain ⟨gr, cp, rfl, hgr, hlt, cells, hcells⟩ := Kd.R_form HRow.out hpos
 obtain ⟨y0, y1, y2, y3⟩ := rc_cells HRow.out k hk
 have hgrf : gr ≠ gf := by
  rintro rfl
  have z := H6.out
  rw [show W.drew.heap = W.heap from rfl] at hcells
  rw [hcells] at z
  injection z with z
  injection z with _ z
  cases z
 have x5 : W.drew.cell? ⟨gv, 0, none⟩ = some (.pointer (some ⟨gf, 0, none⟩)) := H5.out
 have x6 : W.drew.cell? ⟨gf, 1, none⟩ = some (.slice (some ⟨gr, 0, none⟩) rs.length cp) := (blk_cell (w := W.drew) H6.out 1).trans rfl
 have k0 : (0 : Int) ≤ k := by omega
 have k1 : (k : Int) < rs.length := by omega
 have k2 : (rs.length : Int) ≤ 1048576 := by omega
 have hmem : rs.getD k zeroR ∈ rs := by rw [List.getD_eq_getElem?_getD, List.getElem?_eq_getElem hk]; exact List.getElem_mem hk
 have hb1 := HBd.out _ hmem
 generalize hold : rs.getD k zeroR = old at y0 y1 y2 y3 hb1
 have HOLD := Aside0.mk hold
 have HB1 := Aside0.mk hb1
 have HNE := Aside0.mk hgrf
 have HC := Aside0.mk hcells
 clear hold hb1 hmem hcells hlt hgrf
 go_wp2
 refine start_ (n := 18) (S := fun w' => w'.cell? ⟨gv, 0, none⟩ = some (.pointer (some ⟨gf, 0, none⟩)) ∧ w'.cell? ⟨gf, 1, none⟩ = some (.slice (some ⟨gr, 0, none⟩) rs.length cp) ∧ w'.cell? ⟨gr, k * 4, none⟩ = some (.int .i64 old.f0) ∧ w'.cell? ⟨gr, k * 4 + 1, none⟩ = some (.int .i64 old.f1) ∧ w'.cell? ⟨gr, k * 4 + 2, none⟩ = some (.int .i64 old.f2) ∧ w'.cell? ⟨gr, k * 4 + 3, none⟩ = some (.int .i64 old.f3)) (ds := [17]) #[false, false, false, false, false, false, false, false, false, false, false, false, false, false, false, false, false, false] (by kernel_rfl) rfl rfl (⟨x5, x6, y0, y1, y2, y3⟩) (fun hHeld => ?_)
 refine take_ (i := 0) (N := some 47) (v := ?_) (a' := ?_) #[true, false, false, false, false, false, false, false, false, false, false, false, false, false, false, false, false, false] rfl rfl (by kernel_rfl) (fun _ _ _ h => h) (Or.inl ⟨by rfl, ?_⟩) hHeld ?_ ?_
 rotate_left
 ·rintro w' ⟨s0, s1, s2, s3, s4, s5⟩
  go_simp
  with_reducible rfl
 rotate_left
 ·simp only [Act.put, List.setIfInBounds_toArray, List.set_cons_zero, List.set_cons_succ, i64_w, i32_w]
  rfl
 refine pure_ (i := 1) (N := some 48) (v := ?_) (a' := ?_) #[true, true, false, false, false, false, false, false, false, false, false, false, false, false, false, false, false, false] rfl rfl (by kernel_rfl) (fun _ _ _ h => h) (Or.inl ⟨by rfl, ?_⟩) ?_ ?_
 rotate_left
 ·intro w'
  go_simp
  with_reducible rfl
 rotate_left
 ·simp only [Act.put, List.setIfInBounds_toArray, List.set_cons_zero, List.set_cons_succ, i64_w, i32_w]
  rfl
 refine pure_ (i := 2) (N := some 49) (v := ?_) (a' := ?_) #[true, true, true, false, false, false, false, false, false, false, false, false, false, false, false, false, false, false] rfl rfl (by kernel_rfl) (fun _ _ _ h => h) (Or.inl ⟨by rfl, ?_⟩) ?_ ?_
 rotate_left
 ·intro w'
  go_simp
  with_reducible rfl
 rotate_left
 ·simp only [Act.put, List.setIfInBounds_toArray, List.set_cons_zero, List.set_cons_succ, i64_w, i32_w]
  rfl
 refine take_ (i := 3) (N := some 50) (v := ?_) (a' := ?_) #[true, true, true, true, false, false, false, false, false, false, false, false, false, false, false, false, false, false] rfl rfl (by kernel_rfl) (fun _ _ _ h => h) (Or.inl ⟨by rfl, ?_⟩) hHeld ?_ ?_
 rotate_left
 ·rintro w' ⟨s0, s1, s2, s3, s4, s5⟩
  go_simp
  with_reducible rfl
 rotate_left
 ·simp only [Act.put, List.setIfInBounds_toArray, List.set_cons_zero, List.set_cons_succ, i64_w, i32_w]
  rfl
 refine pure_ (i := 4) (N := some 51) (v := ?_) (a' := ?_) #[true, true, true, true, true, false, false, false, false, false, false, false, false, false, false, false, false, false] rfl rfl (by kernel_rfl) (fun _ _ _ h => h) (Or.inl ⟨by rfl, ?_⟩) ?_ ?_
 rotate_left
 ·intro w'
  go_simp
  with_reducible rfl
 rotate_left
 ·simp only [Act.put, List.setIfInBounds_toArray, List.set_cons_zero, List.set_cons_succ, i64_w, i32_w]
  rfl
 refine take_ (i := 5) (N := some 52) (v := ?_) (a' := ?_) #[true, true, true, true, true, true, false, false, false, false, false, false, false, false, false, false, false, false] rfl rfl (by kernel_rfl) (fun _ _ _ h => h) (Or.inl ⟨by rfl, ?_⟩) hHeld ?_ ?_
 rotate_left
 ·rintro w' ⟨s0, s1, s2, s3, s4, s5⟩
  go_simp
  with_reducible rfl
 rotate_left
 ·simp only [Act.put, List.setIfInBounds_toArray, List.set_cons_zero, List.set_cons_succ, i64_w, i32_w]
  rfl
 refine pure_ (i := 6) (N := some 53) (v := ?_) (a' := ?_) #[true, true, true, true, true, true, true, false, false, false, false, false, false, false, false, false, false, false] rfl rfl (by kernel_rfl) (fun _ _ _ h => h) (Or.inl ⟨by rfl, ?_⟩) ?_ ?_
 rotate_left
 ·intro w'
  go_simp
  with_reducible rfl
 rotate_left
 ·simp only [Act.put, List.setIfInBounds_toArray, List.set_cons_zero, List.set_cons_succ, i64_w, i32_w]
  rfl
 refine pure_ (i := 7) (N := some 54) (v := ?_) (a' := ?_) #[true, true, true, true, true, true, true, true, false, false, false, false, false, false, false, false, false, false] rfl rfl (by kernel_rfl) (fun _ _ _ h => h) (Or.inl ⟨by rfl, ?_⟩) ?_ ?_
 rotate_left
 ·intro w'
  go_simp
  with_reducible rfl
 rotate_left
 ·simp only [Act.put, List.setIfInBounds_toArray, List.set_cons_zero, List.set_cons_succ, i64_w, i32_w]
  rfl
 refine take_ (i := 8) (N := some 55) (v := ?_) (a' := ?_) #[true, true, true, true, true, true, true, true, true, false, false, false, false, false, false, false, false, false] rfl rfl (by kernel_rfl) (fun _ _ _ h => h) (Or.inl ⟨by rfl, ?_⟩) hHeld ?_ ?_
 rotate_left
 ·rintro w' ⟨s0, s1, s2, s3, s4, s5⟩
  go_simp
  with_reducible rfl
 rotate_left
 ·simp only [Act.put, List.setIfInBounds_toArray, List.set_cons_zero, List.set_cons_succ, i64_w, i32_w]
  rfl
 refine pure_ (i := 9) (N := some 56) (v := ?_) (a' := ?_) #[true, true, true, true, true, true, true, true, true, true, false, false, false, false, false, false, false, false] rfl rfl (by kernel_rfl) (fun _ _ _ h => h) (Or.inl ⟨by rfl, ?_⟩) ?_ ?_
 rotate_left
 ·intro w'
  go_simp
  with_reducible rfl
 rotate_left
 ·simp only [Act.put, List.setIfInBounds_toArray, List.set_cons_zero, List.set_cons_succ, i64_w, i32_w]
  rfl
 refine pure_ (i := 10) (N := some 57) (v := ?_) (a' := ?_) #[true, true, true, true, true, true, true, true, true, true, true, false, false, false, false, false, false, false] rfl rfl (by kernel_rfl) (fun _ _ _ h => h) (Or.inl ⟨by rfl, ?_⟩) ?_ ?_
 rotate_left
 ·intro w'
  go_simp
  with_reducible rfl
 rotate_left
 ·simp only [Act.put, List.setIfInBounds_toArray, List.set_cons_zero, List.set_cons_succ, i64_w, i32_w]
  rfl
 refine take_ (i := 11) (N := some 58) (v := ?_) (a' := ?_) #[true, true, true, true, true, true, true, true, true, true, true, true, false, false, false, false, false, false] rfl rfl (by kernel_rfl) (fun _ _ _ h => h) (Or.inl ⟨by rfl, ?_⟩) hHeld ?_ ?_
 rotate_left
 ·rintro w' ⟨s0, s1, s2, s3, s4, s5⟩
  go_simp
  with_reducible rfl
 rotate_left
 ·simp only [Act.put, List.setIfInBounds_toArray, List.set_cons_zero, List.set_cons_succ, i64_w, i32_w]
  rfl
 refine pure_ (i := 12) (N := some 59) (v := ?_) (a' := ?_) #[true, true, true, true, true, true, true, true, true, true, true, true, true, false, false, false, false, false] rfl rfl (by kernel_rfl) (fun _ _ _ h => h) (Or.inl ⟨by rfl, ?_⟩) ?_ ?_
 rotate_left
 ·intro w'
  go_simp
  with_reducible rfl
 rotate_left
 ·simp only [Act.put, List.setIfInBounds_toArray, List.set_cons_zero, List.set_cons_succ, i64_w, i32_w]
  rfl
 refine pure_ (i := 13) (N := some 60) (v := ?_) (a' := ?_) #[true, true, true, true, true, true, true, true, true, true, true, true, true, true, false, false, false, false] rfl rfl (by kernel_rfl) (fun _ _ _ h => h) (Or.inl ⟨by rfl, ?_⟩) ?_ ?_
 rotate_left
 ·intro w'
  go_simp
  with_reducible rfl
 rotate_left
 ·simp only [Act.put, List.setIfInBounds_toArray, List.set_cons_zero, List.set_cons_succ, i64_w, i32_w]
  rfl
 refine pure_ (i := 14) (N := some 61) (v := ?_) (a' := ?_) #[true, true, true, true, true, true, true, true, true, true, true, true, true, true, true, false, false, false] rfl rfl (by kernel_rfl) (fun _ _ _ h => h) (Or.inl ⟨by rfl, ?_⟩) ?_ ?_
 rotate_left
 ·intro w'
  go_simp
  with_reducible rfl
 rotate_left
 ·simp only [Act.put, List.setIfInBounds_toArray, List.set_cons_zero, List.set_cons_succ, i64_w, i32_w]
  rfl
 refine one_ (i := 15) (N := some 62) #[true, true, true, true, true, true, true, true, true, true, true, true, true, true, true, true, false, false] rfl rfl (by kernel_rfl) (by decide) (fun K hK => ?_)
 refine goes_ Try.func141 (by kernel_rfl) rfl #[.agg #[.int .i64 old.f0, .int .i64 old.f1, .int .i64 old.f2, .int .i64 old.f3], .agg #[.int .i64 (r : Int), .int .i64 (c : Int), .int .i64 1, .int .i64 1]] (by rfl) rfl rfl (by (try simp only [List.map_toArray, List.map_cons, List.map_nil]); first | done | rfl) ?_
 refine (PC.impl_rect_both.calls old.f0 old.f1 old.f2 old.f3 r c 1 1 _ _ _ _ _ (both_f old (oneR r c) hi wi HB1.out (oneR_bound hr hc) hhi hwi)).mono ?_
 rintro e w8 ⟨rfl, hb8⟩
 refine ⟨_, rfl, ?_⟩
 have HB8 := Aside0.mk (show Below W.heap.size W w8 from ⟨hb8.os, hb8.tape, hb8.output, hb8.size, hb8.block⟩)
 refine hK.out _ _ ⟨pw_cell_below hb8 hHeld.1, pw_cell_below hb8 hHeld.2.1, pw_cell_below hb8 hHeld.2.2.1, pw_cell_below hb8 hHeld.2.2.2.1, pw_cell_below hb8 hHeld.2.2.2.2.1, pw_cell_below hb8 hHeld.2.2.2.2.2⟩ (fun hHeld => ?_)
 clear hK K hb8
 refine norm_ (a' := ?_) ?_ ?_
 rotate_left
 ·show Act.put _ (some 62) _ = _
  simp only [Act.put, List.setIfInBounds_toArray, List.set_cons_zero, List.set_cons_succ, i64_w, i32_w]
  rfl
 generalize hnew : bothR old (oneR r c) = nw
 have HNEW := Aside0.mk hnew
 clear hnew
 refine pure_ (i := 16) (N := some 63) (v := ?_) (a' := ?_) #[true, true, true, true, true, true, true, true, true, true, true, true, true, true, true, true, true, false] rfl rfl (by kernel_rfl) (fun _ _ _ h => h) (Or.inl ⟨by rfl, ?_⟩) ?_ ?_
 rotate_left
 ·intro w'
  go_simp
  with_reducible rfl
 rotate_left
 ·simp only [Act.put, List.setIfInBounds_toArray, List.set_cons_zero, List.set_cons_succ, i64_w, i32_w]
  rfl
 have hrow8 := Kd.R_below HRow.out (show Below W.drew.heap.size W.drew w8 from ⟨HB8.out.os, HB8.out.tape, HB8.out.output, HB8.out.size, HB8.out.block⟩)
 obtain ⟨cur8, hc8, hs8⟩ := rc_block hrow8
 refine last_ (i := 17) (N := none) #[true, true, true, true, true, true, true, true, true, true, true, true, true, true, true, true, true, true] rfl rfl (by kernel_rfl) (by decide) (fun K hK => ?_)
 refine cells_step (W := w8) (by rfl) rfl (t := 131) (e := 131) rfl (g := gr) (off := k * 4) (cur := cur8) rfl (.agg #[.int .i64 nw.f0, .int .i64 nw.f1, .int .i64 nw.f2, .int .i64 nw.f3]) rfl [.int .i64 nw.f0, .int .i64 nw.f1, .int .i64 nw.f2, .int .i64 nw.f3] rfl (by kernel_rfl) hc8 (by simp; omega) (by simp; exact ⟨rfl, rfl, rfl, rfl⟩) ?_
 refine hK.out _ _ ?_
 clear hK K hHeld
 have hput := rc_put hrow8 k hk nw
 have HPUT := Aside0.mk hput
 clear hput hrow8 hc8
 generalize w8.setCells gr (k * 4) [.int .i64 nw.f0, .int .i64 nw.f1, .int .i64 nw.f2, .int .i64 nw.f3] = w9 at HPUT ⊢
 refine done_ (by kernel_rfl) ?_
 go_wp2
 go_ret
 refine ⟨rfl, ?_, ?_⟩
 ·rw [HOLD.out, HNEW.out]
  exact HPUT.out.1
 ·have hg := HPUT.out.2
  exact ⟨hg.os.trans HB8.out.os, hg.tape.trans HB8.out.tape, hg.output.trans HB8.out.output, Nat.le_trans HB8.out.size hg.size, fun i hi hne => (hg.block i (Nat.lt_of_lt_of_le hi HB8.out.size) hne).trans (HB8.out.block i hi)⟩
end Go.Proofs.Ytaepgogafkmooaa.Hd
namespace Go.Proofs.Ytaepgogafkmooaa.Hd
open Go.RowKit Go.Proofs.YtaepgogafkmooaaW.PrintWords Go.Proofs.YtaepgogafkmooaaW.PrintLast Go.Proofs.YtaepgogafkmooaaW.PrintMore Go.Proofs.Ytaepgogafkmooaa.PB
set_option linter.unusedVariables false
set_option linter.unusedSimpArgs false
def NewPost (W : World) (B gf bm : Nat) (v : Value) (ks : List Int) (rs : List Rc) (x : Int) (r c : Nat) (e : Ending) (W' : World) : Prop :=
 e = .returned (.int .i64 (ks.length : Int)) ∧ ∃ v', Kd.R kRc 131 W' B (fun k => some k = v'.ownBlock) v' (rs ++ [bothR (oneR r c) (oneR r c)]) ∧ IMap W' bm (ks ++ [x]) ∧ W'.heap[gf]? = some (.cells #[.slice none 0 0, v'] 68 (0, 0)) ∧
  (∀ k, v'.ownBlock = some k → v.ownBlock = some k ∨ W.heap.size ≤ k) ∧ Other (fun k => k = bm ∨ k = gf ∨ some k = v.ownBlock) W W'
set_option maxHeartbeats 8000000 in
set_option maxRecDepth 100000 in
theorem new_walk (W : World) (B gn gc gv gf bm : Nat) (ad ad2 : Addr) (nr cap nc ci : Nat) (x : Int) (ks : List Int) (rs : List Rc) (v : Value) (r c hi wi : Nat) (hr : r < hi) (hc : c < wi) (hhi : hi ≤ 1048576) (hwi : wi ≤ 1048576) (hrn : r < nr) (hcn : c < nc) (hnr : nr ≤ 1048576) (hnc : nc ≤ 1048576)
  (hx1 : W.heap[gn]? = some (.cells #[.map (some bm)] 129 (0, 0))) (hx2 : W.heap[gc]? = some (.cells #[.slice (some ad) nr cap] 63 (0, 0))) (hx3 : W.cell? (ad.add r) = some (.slice (some ad2) nc ci)) (hx4 : W.cell? (ad2.add c) = some (.int .i64 x)) (hold : ad.block < B ∧ ad2.block < B)
  (hmap : IMap W bm ks) (hxn : x ∉ ks) (hxb : 0 ≤ x ∧ x ≤ 1048576) (hkl : ks.length = rs.length)
  (hx5 : W.heap[gv]? = some (.cells #[.pointer (some ⟨gf, 0, none⟩)] 59 (0, 0))) (hx6 : W.heap[gf]? = some (.cells #[.slice none 0 0, v] 68 (0, 0)))
  (hrow : Kd.R kRc 131 W B (fun k => some k = v.ownBlock) v rs) (hrl : rs.length ≤ 1048576) (hBW : B ≤ W.heap.size) (hbd : ∀ a ∈ rs, boundR a hi wi) :
  Calls Try.prog 140 #[.int .i64 r, .int .i64 c, .pointer (some ⟨gn, 0, none⟩), .pointer (some ⟨gc, 0, none⟩), .pointer (some ⟨gv, 0, none⟩)] W (NewPost W B gf bm v ks rs x r c) := by
 have hlook := hmap.look x (by omega) (by omega)
 rw [if_neg hxn, decide_eq_false hxn] at hlook
 have y1 : W.cell? ⟨gn, 0, none⟩ = some (.map (some bm)) := (blk_cell hx1 0).trans rfl
 have y2 : W.cell? ⟨gc, 0, none⟩ = some (.slice (some ad) nr cap) := (blk_cell hx2 0).trans rfl
 have HRow := Aside0.mk hrow
 have HBd := Aside0.mk hbd
 have HMap := Aside0.mk hmap
 have X1 := Aside0.mk hx1
 have X2 := Aside0.mk hx2
 have X5 := Aside0.mk hx5
 have X6 := Aside0.mk hx6
 have HXN := Aside0.mk hxn
 have HKL := Aside0.mk hkl
 clear hrow hbd hmap hx1 hx2 hx5 hx6 hxn hkl
 have hL : (Instr.lookup 129 (.map (some bm)) (.int .i64 x) true).run Try.prog W.drew = .ok (.tuple #[.int .i64 0, .bool false]) W.drew := by
  have := (HMap.out.move (W' := W.drew) rfl).look x (by omega) (by omega)
  rw [if_neg HXN.out, decide_eq_false HXN.out] at this
  exact this
 clear hlook
 have r0 : (0 : Int) ≤ r := by omega
 have r1 : (r : Int) < nr := by omega
 have r2 : (r : Int) ≤ 1048576 := by omega
 have c0 : (0 : Int) ≤ c := by omega
 have c1 : (c : Int) < nc := by omega
 have c2 : (c : Int) ≤ 1048576 := by omega
 go_enter Try.func140, Try.ntmps140
 go_wp2
 refine start_ (n := 14) (S := fun w' => w'.cell? ⟨gn, 0, none⟩ = some (.map (some bm)) ∧ w'.cell? ⟨gc, 0, none⟩ = some (.slice (some ad) nr cap) ∧ w'.cell? (ad.add r) = some (.slice (some ad2) nc ci) ∧ w'.cell? (ad2.add c) = some (.int .i64 x) ∧ (Instr.lookup 129 (.map (some bm)) (.int .i64 x) true).run Try.prog w' = .ok (.tuple #[.int .i64 0, .bool false]) w') (ds := []) #[false, false, false, false, false, false, false, false, false, false, false, false, false, false] (by kernel_rfl) rfl rfl (⟨y1, y2, hx3, hx4, hL⟩) (fun hHeld => ?_)
 refine take_ (i := 0) (N := some 11) (v := ?_) (a' := ?_) #[true, false, false, false, false, false, false, false, false, false, false, false, false, false] rfl rfl (by kernel_rfl) (fun _ _ _ h => h) (Or.inl ⟨by rfl, ?_⟩) hHeld ?_ ?_
 rotate_left
 ·rintro w' ⟨s0, s1, s2, s3, s4⟩
  go_simp
  with_reducible rfl
 rotate_left
 ·simp only [Act.put, List.setIfInBounds_toArray, List.set_cons_zero, List.set_cons_succ, i64_w, i32_w]
  rfl
 refine take_ (i := 1) (N := some 12) (v := ?_) (a' := ?_) #[true, true, false, false, false, false, false, false, false, false, false, false, false, false] rfl rfl (by kernel_rfl) (fun _ _ _ h => h) (Or.inl ⟨by rfl, ?_⟩) hHeld ?_ ?_
 rotate_left
 ·rintro w' ⟨s0, s1, s2, s3, s4⟩
  go_simp
  with_reducible rfl
 rotate_left
 ·simp only [Act.put, List.setIfInBounds_toArray, List.set_cons_zero, List.set_cons_succ, i64_w, i32_w]
  rfl
 refine pure_ (i := 2) (N := some 13) (v := ?_) (a' := ?_) #[true, true, true, false, false, false, false, false, false, false, false, false, false, false] rfl rfl (by kernel_rfl) (fun _ _ _ h => h) (Or.inl ⟨by rfl, ?_⟩) ?_ ?_
 rotate_left
 ·intro w'
  go_simp
  with_reducible rfl
 rotate_left
 ·simp only [Act.put, List.setIfInBounds_toArray, List.set_cons_zero, List.set_cons_succ, i64_w, i32_w]
  rfl
 refine pure_ (i := 3) (N := some 14) (v := ?_) (a' := ?_) #[true, true, true, true, false, false, false, false, false, false, false, false, false, false] rfl rfl (by kernel_rfl) (fun _ _ _ h => h) (Or.inl ⟨by rfl, ?_⟩) ?_ ?_
 rotate_left
 ·intro w'
  go_simp
  with_reducible rfl
 rotate_left
 ·simp only [Act.put, List.setIfInBounds_toArray, List.set_cons_zero, List.set_cons_succ, i64_w, i32_w]
  rfl
 refine take_ (i := 4) (N := some 15) (v := ?_) (a' := ?_) #[true, true, true, true, true, false, false, false, false, false, false, false, false, false] rfl rfl (by kernel_rfl) (fun _ _ _ h => h) (Or.inl ⟨by rfl, ?_⟩) hHeld ?_ ?_
 rotate_left
 ·rintro w' ⟨s0, s1, s2, s3, s4⟩
  go_simp
  with_reducible rfl
 rotate_left
 ·simp only [Act.put, List.setIfInBounds_toArray, List.set_cons_zero, List.set_cons_succ, i64_w, i32_w]
  rfl
 refine pure_ (i := 5) (N := some 16) (v := ?_) (a' := ?_) #[true, true, true, true, true, true, false, false, false, false, false, false, false, false] rfl rfl (by kernel_rfl) (fun _ _ _ h => h) (Or.inl ⟨by rfl, ?_⟩) ?_ ?_
 rotate_left
 ·intro w'
  go_simp
  with_reducible rfl
 rotate_left
 ·simp only [Act.put, List.setIfInBounds_toArray, List.set_cons_zero, List.set_cons_succ, i64_w, i32_w]
  rfl
 refine pure_ (i := 6) (N := some 17) (v := ?_) (a' := ?_) #[true, true, true, true, true, true, true, false, false, false, false, false, false, false] rfl rfl (by kernel_rfl) (fun _ _ _ h => h) (Or.inl ⟨by rfl, ?_⟩) ?_ ?_
 rotate_left
 ·intro w'
  go_simp
  with_reducible rfl
 rotate_left
 ·simp only [Act.put, List.setIfInBounds_toArray, List.set_cons_zero, List.set_cons_succ, i64_w, i32_w]
  rfl
 refine take_ (i := 7) (N := some 18) (v := ?_) (a' := ?_) #[true, true, true, true, true, true, true, true, false, false, false, false, false, false] rfl rfl (by kernel_rfl) (fun _ _ _ h => h) (Or.inl ⟨by rfl, ?_⟩) hHeld ?_ ?_
 rotate_left
 ·rintro w' ⟨s0, s1, s2, s3, s4⟩
  go_simp
  with_reducible rfl
 rotate_left
 ·simp only [Act.put, List.setIfInBounds_toArray, List.set_cons_zero, List.set_cons_succ, i64_w, i32_w]
  rfl
 refine take_ (i := 8) (N := some 19) (v := ?_) (a' := ?_) #[true, true, true, true, true, true, true, true, true, false, false, false, false, false] rfl rfl (by kernel_rfl) (fun _ _ _ h => h) (Or.inl ⟨by rfl, ?_⟩) hHeld ?_ ?_
 rotate_left
 ·rintro w' ⟨s0, s1, s2, s3, s4⟩
  go_simp
  with_reducible rfl
 rotate_left
 ·simp only [Act.put, List.setIfInBounds_toArray, List.set_cons_zero, List.set_cons_succ, i64_w, i32_w]
  rfl
 refine pure_ (i := 9) (N := some 10) (v := ?_) (a' := ?_) #[true, true, true, true, true, true, true, true, true, true, false, false, false, false] rfl rfl (by kernel_rfl) (fun _ _ _ h => h) (Or.inl ⟨by rfl, ?_⟩) ?_ ?_
 rotate_left
 ·intro w'
  go_simp
  with_reducible rfl
 rotate_left
 ·simp only [Act.put, List.setIfInBounds_toArray, List.set_cons_zero, List.set_cons_succ, i64_w, i32_w]
  rfl
 refine pure_ (i := 10) (N := some 20) (v := ?_) (a' := ?_) #[true, true, true, true, true, true, true, true, true, true, true, false, false, false] rfl rfl (by kernel_rfl) (fun _ _ _ h => h) (Or.inl ⟨by rfl, ?_⟩) ?_ ?_
 rotate_left
 ·intro w'
  go_simp
  with_reducible rfl
 rotate_left
 ·simp only [Act.put, List.setIfInBounds_toArray, List.set_cons_zero, List.set_cons_succ, i64_w, i32_w]
  rfl
 refine pure_ (i := 11) (N := some 21) (v := ?_) (a' := ?_) #[true, true, true, true, true, true, true, true, true, true, true, true, false, false] rfl rfl (by kernel_rfl) (fun _ _ _ h => h) (Or.inl ⟨by rfl, ?_⟩) ?_ ?_
 rotate_left
 ·intro w'
  go_simp
  with_reducible rfl
 rotate_left
 ·simp only [Act.put, List.setIfInBounds_toArray, List.set_cons_zero, List.set_cons_succ, i64_w, i32_w]
  rfl
 refine pure_ (i := 12) (N := some 8) (v := ?_) (a' := ?_) #[true, true, true, true, true, true, true, true, true, true, true, true, true, false] rfl rfl (by kernel_rfl) (fun _ _ _ h => h) (Or.inl ⟨by rfl, ?_⟩) ?_ ?_
 rotate_left
 ·intro w'
  go_simp
  with_reducible rfl
 rotate_left
 ·simp only [Act.put, List.setIfInBounds_toArray, List.set_cons_zero, List.set_cons_succ, i64_w, i32_w]
  rfl
 refine pure_ (i := 13) (N := some 9) (v := ?_) (a' := ?_) #[true, true, true, true, true, true, true, true, true, true, true, true, true, true] rfl rfl (by kernel_rfl) (fun _ _ _ h => h) (Or.inl ⟨by rfl, ?_⟩) ?_ ?_
 rotate_left
 ·intro w'
  go_simp
  with_reducible rfl
 rotate_left
 ·simp only [Act.put, List.setIfInBounds_toArray, List.set_cons_zero, List.set_cons_succ, i64_w, i32_w]
  rfl
 refine done_ (by kernel_rfl) ?_
 clear hHeld hL
 have hlen := (HMap.out.move (W' := W.drew) rfl).len 3
 have y1d : W.drew.cell? ⟨gn, 0, none⟩ = some (.map (some bm)) := y1
 have y2d : W.drew.drew.cell? ⟨gc, 0, none⟩ = some (.slice (some ad) nr cap) := y2
 have y1e : W.drew.drew.cell? ⟨gn, 0, none⟩ = some (.map (some bm)) := y1
 have y3e : W.drew.drew.cell? (ad.add r) = some (.slice (some ad2) nc ci) := hx3
 have y4e : W.drew.drew.cell? (ad2.add c) = some (.int .i64 x) := hx4
 clear hx3 hx4 y1 y2
 go_wp2
 clear hlen y1d
 refine start_ (n := 10) (S := fun w' => w'.cell? ⟨gn, 0, none⟩ = some (.map (some bm)) ∧ w'.cell? ⟨gc, 0, none⟩ = some (.slice (some ad) nr cap) ∧ w'.cell? (ad.add r) = some (.slice (some ad2) nc ci) ∧ w'.cell? (ad2.add c) = some (.int .i64 x)) (ds := []) #[false, false, false, false, false, false, false, false, false, false] (by kernel_rfl) rfl rfl (⟨y1e, y2d, y3e, y4e⟩) (fun hHeld => ?_)
 refine take_ (i := 0) (N := some 26) (v := ?_) (a' := ?_) #[true, false, false, false, false, false, false, false, false, false] rfl rfl (by kernel_rfl) (fun _ _ _ h => h) (Or.inl ⟨by rfl, ?_⟩) hHeld ?_ ?_
 rotate_left
 ·rintro w' ⟨s0, s1, s2, s3⟩
  go_simp
  with_reducible rfl
 rotate_left
 ·simp only [Act.put, List.setIfInBounds_toArray, List.set_cons_zero, List.set_cons_succ, i64_w, i32_w]
  rfl
 refine take_ (i := 1) (N := some 27) (v := ?_) (a' := ?_) #[true, true, false, false, false, false, false, false, false, false] rfl rfl (by kernel_rfl) (fun _ _ _ h => h) (Or.inl ⟨by rfl, ?_⟩) hHeld ?_ ?_
 rotate_left
 ·rintro w' ⟨s0, s1, s2, s3⟩
  go_simp
  with_reducible rfl
 rotate_left
 ·simp only [Act.put, List.setIfInBounds_toArray, List.set_cons_zero, List.set_cons_succ, i64_w, i32_w]
  rfl
 refine pure_ (i := 2) (N := some 28) (v := ?_) (a' := ?_) #[true, true, true, false, false, false, false, false, false, false] rfl rfl (by kernel_rfl) (fun _ _ _ h => h) (Or.inl ⟨by rfl, ?_⟩) ?_ ?_
 rotate_left
 ·intro w'
  go_simp
  with_reducible rfl
 rotate_left
 ·simp only [Act.put, List.setIfInBounds_toArray, List.set_cons_zero, List.set_cons_succ, i64_w, i32_w]
  rfl
 refine pure_ (i := 3) (N := some 29) (v := ?_) (a' := ?_) #[true, true, true, true, false, false, false, false, false, false] rfl rfl (by kernel_rfl) (fun _ _ _ h => h) (Or.inl ⟨by rfl, ?_⟩) ?_ ?_
 rotate_left
 ·intro w'
  go_simp
  with_reducible rfl
 rotate_left
 ·simp only [Act.put, List.setIfInBounds_toArray, List.set_cons_zero, List.set_cons_succ, i64_w, i32_w]
  rfl
 refine take_ (i := 4) (N := some 30) (v := ?_) (a' := ?_) #[true, true, true, true, true, false, false, false, false, false] rfl rfl (by kernel_rfl) (fun _ _ _ h => h) (Or.inl ⟨by rfl, ?_⟩) hHeld ?_ ?_
 rotate_left
 ·rintro w' ⟨s0, s1, s2, s3⟩
  go_simp
  with_reducible rfl
 rotate_left
 ·simp only [Act.put, List.setIfInBounds_toArray, List.set_cons_zero, List.set_cons_succ, i64_w, i32_w]
  rfl
 refine pure_ (i := 5) (N := some 31) (v := ?_) (a' := ?_) #[true, true, true, true, true, true, false, false, false, false] rfl rfl (by kernel_rfl) (fun _ _ _ h => h) (Or.inl ⟨by rfl, ?_⟩) ?_ ?_
 rotate_left
 ·intro w'
  go_simp
  with_reducible rfl
 rotate_left
 ·simp only [Act.put, List.setIfInBounds_toArray, List.set_cons_zero, List.set_cons_succ, i64_w, i32_w]
  rfl
 refine pure_ (i := 6) (N := some 32) (v := ?_) (a' := ?_) #[true, true, true, true, true, true, true, false, false, false] rfl rfl (by kernel_rfl) (fun _ _ _ h => h) (Or.inl ⟨by rfl, ?_⟩) ?_ ?_
 rotate_left
 ·intro w'
  go_simp
  with_reducible rfl
 rotate_left
 ·simp only [Act.put, List.setIfInBounds_toArray, List.set_cons_zero, List.set_cons_succ, i64_w, i32_w]
  rfl
 refine take_ (i := 7) (N := some 33) (v := ?_) (a' := ?_) #[true, true, true, true, true, true, true, true, false, false] rfl rfl (by kernel_rfl) (fun _ _ _ h => h) (Or.inl ⟨by rfl, ?_⟩) hHeld ?_ ?_
 rotate_left
 ·rintro w' ⟨s0, s1, s2, s3⟩
  go_simp
  with_reducible rfl
 rotate_left
 ·simp only [Act.put, List.setIfInBounds_toArray, List.set_cons_zero, List.set_cons_succ, i64_w, i32_w]
  rfl
 refine pure_ (i := 8) (N := some 34) (v := ?_) (a' := ?_) #[true, true, true, true, true, true, true, true, true, false] rfl rfl (by kernel_rfl) (fun _ _ _ h => h) (Or.inl ⟨by rfl, ?_⟩) ?_ ?_
 rotate_left
 ·intro w'
  go_simp
  with_reducible rfl
 rotate_left
 ·simp only [Act.put, List.setIfInBounds_toArray, List.set_cons_zero, List.set_cons_succ, i64_w, i32_w]
  rfl
 refine one_ (i := 9) (N := none) #[true, true, true, true, true, true, true, true, true, true] rfl rfl (by kernel_rfl) (by decide) (fun K hK => ?_)
 obtain ⟨w3, hrun, hmap3, hg3⟩ := (HMap.out.move (W' := W.drew.drew) rfl).put x (by omega) (by omega) HXN.out (by have := HKL.out; omega)
 refine map_step (by rfl) rfl (w1 := w3) rfl hrun ?_
 have hne : ∀ {a : Addr} {u : Value}, W.drew.drew.cell? a = some u → some a.block ≠ some bm := fun {a u} ha e => by
  injection e with e
  have := HMap.out.own
  obtain ⟨es, clock, hb, _⟩ := this
  unfold World.cell? at ha
  rw [show W.drew.drew.heap = W.heap from rfl, e, hb] at ha
  cases ha
 have hcell : ∀ {a : Addr} {u : Value}, W.drew.drew.cell? a = some u → w3.cell? a = some u := fun {a u} ha => hg3.cell ha (hne ha)
 refine hK.out _ _ ⟨hcell hHeld.1, hcell hHeld.2.1, hcell hHeld.2.2.1, hcell hHeld.2.2.2⟩ (fun hHeld => ?_)
 have hblk : ∀ {g : Nat} {o : Obj}, W.heap[g]? = some o → bm ≠ g → w3.heap[g]? = some o := fun {g o} h hn => (hg3.block g (Array.getElem?_eq_some_iff.1 h).1 (fun e => hn (by injection e with e; exact e.symm))).trans h
 have Z5 := Aside0.mk (hblk X5.out (HMap.out.notCells X5.out))
 have Z6 := Aside0.mk (hblk X6.out (HMap.out.notCells X6.out))
 have Map3 := Aside0.mk hmap3
 have G3 := Aside0.mk hg3
 have hrow3 : Kd.R kRc 131 w3 B (fun k => some k = v.ownBlock) v rs := by
  refine Kd.R_grown (w := W.drew.drew) (Kd.R_drew (Kd.R_drew HRow.out)) hg3 (fun k hk e => ?_)
  obtain ⟨inner, ho⟩ := Kd.R_own HRow.out
  obtain ⟨cells, hc2⟩ := own_typed ho k hk.symm
  have := HMap.out.notCells hc2
  injection e with e
  exact this e.symm
 have Row3 := Aside0.mk hrow3
 clear hK K hrun hmap3 hg3 hne hcell hblk hrow3
 refine done_ (by kernel_rfl) ?_
 clear hHeld y2d y1e y3e y4e
 go_wp2
 have z5 : w3.drew.cell? ⟨gv, 0, none⟩ = some (.pointer (some ⟨gf, 0, none⟩)) := (blk_cell (w := w3.drew) Z5.out 0).trans rfl
 have z6 : w3.drew.cell? ⟨gf, 1, none⟩ = some v := (blk_cell (w := w3.drew) Z6.out 1).trans rfl
 refine start_ (n := 13) (S := fun w' => w'.cell? ⟨gv, 0, none⟩ = some (.pointer (some ⟨gf, 0, none⟩)) ∧ w'.cell? ⟨gf, 1, none⟩ = some v) (ds := [12]) #[false, false, false, false, false, false, false, false, false, false, false, false, false] (by kernel_rfl) rfl rfl (⟨z5, z6⟩) (fun hHeld => ?_)
 refine take_ (i := 0) (N := some 35) (v := ?_) (a' := ?_) #[true, false, false, false, false, false, false, false, false, false, false, false, false] rfl rfl (by kernel_rfl) (fun _ _ _ h => h) (Or.inl ⟨by rfl, ?_⟩) hHeld ?_ ?_
 rotate_left
 ·rintro w' ⟨s0, s1⟩
  go_simp
  with_reducible rfl
 rotate_left
 ·simp only [Act.put, List.setIfInBounds_toArray, List.set_cons_zero, List.set_cons_succ, i64_w, i32_w]
  rfl
 refine take_ (i := 1) (N := some 36) (v := ?_) (a' := ?_) #[true, true, false, false, false, false, false, false, false, false, false, false, false] rfl rfl (by kernel_rfl) (fun _ _ _ h => h) (Or.inl ⟨by rfl, ?_⟩) hHeld ?_ ?_
 rotate_left
 ·rintro w' ⟨s0, s1⟩
  go_simp
  with_reducible rfl
 rotate_left
 ·simp only [Act.put, List.setIfInBounds_toArray, List.set_cons_zero, List.set_cons_succ, i64_w, i32_w]
  rfl
 refine pure_ (i := 2) (N := some 37) (v := ?_) (a' := ?_) #[true, true, true, false, false, false, false, false, false, false, false, false, false] rfl rfl (by kernel_rfl) (fun _ _ _ h => h) (Or.inl ⟨by rfl, ?_⟩) ?_ ?_
 rotate_left
 ·intro w'
  go_simp
  with_reducible rfl
 rotate_left
 ·simp only [Act.put, List.setIfInBounds_toArray, List.set_cons_zero, List.set_cons_succ, i64_w, i32_w]
  rfl
 refine pure_ (i := 3) (N := some 38) (v := ?_) (a' := ?_) #[true, true, true, true, false, false, false, false, false, false, false, false, false] rfl rfl (by kernel_rfl) (fun _ _ _ h => h) (Or.inl ⟨by rfl, ?_⟩) ?_ ?_
 rotate_left
 ·intro w'
  go_simp
  with_reducible rfl
 rotate_left
 ·simp only [Act.put, List.setIfInBounds_toArray, List.set_cons_zero, List.set_cons_succ, i64_w, i32_w]
  rfl
 refine take_ (i := 4) (N := some 39) (v := ?_) (a' := ?_) #[true, true, true, true, true, false, false, false, false, false, false, false, false] rfl rfl (by kernel_rfl) (fun _ _ _ h => h) (Or.inl ⟨by rfl, ?_⟩) hHeld ?_ ?_
 rotate_left
 ·rintro w' ⟨s0, s1⟩
  go_simp
  with_reducible rfl
 rotate_left
 ·simp only [Act.put, List.setIfInBounds_toArray, List.set_cons_zero, List.set_cons_succ, i64_w, i32_w]
  rfl
 refine pure_ (i := 5) (N := some 40) (v := ?_) (a' := ?_) #[true, true, true, true, true, true, false, false, false, false, false, false, false] rfl rfl (by kernel_rfl) (fun _ _ _ h => h) (Or.inl ⟨by rfl, ?_⟩) ?_ ?_
 rotate_left
 ·intro w'
  go_simp
  with_reducible rfl
 rotate_left
 ·simp only [Act.put, List.setIfInBounds_toArray, List.set_cons_zero, List.set_cons_succ, i64_w, i32_w]
  rfl
 refine pure_ (i := 6) (N := some 41) (v := ?_) (a' := ?_) #[true, true, true, true, true, true, true, false, false, false, false, false, false] rfl rfl (by kernel_rfl) (fun _ _ _ h => h) (Or.inl ⟨by rfl, ?_⟩) ?_ ?_
 rotate_left
 ·intro w'
  go_simp
  with_reducible rfl
 rotate_left
 ·simp only [Act.put, List.setIfInBounds_toArray, List.set_cons_zero, List.set_cons_succ, i64_w, i32_w]
  rfl
 refine pure_ (i := 7) (N := some 42) (v := ?_) (a' := ?_) #[true, true, true, true, true, true, true, true, false, false, false, false, false] rfl rfl (by kernel_rfl) (fun _ _ _ h => h) (Or.inl ⟨by rfl, ?_⟩) ?_ ?_
 rotate_left
 ·intro w'
  go_simp
  with_reducible rfl
 rotate_left
 ·simp only [Act.put, List.setIfInBounds_toArray, List.set_cons_zero, List.set_cons_succ, i64_w, i32_w]
  rfl
 refine one_ (i := 8) (N := some 43) #[true, true, true, true, true, true, true, true, true, false, false, false, false] rfl rfl (by kernel_rfl) (by decide) (fun K hK => ?_)
 refine event_step (by rfl) (v := .slice (some ⟨w3.drew.heap.size, 0, none⟩) 1 1) (w1 := w3.drew.alloc (.cells #[.int .i64 (r : Int), .int .i64 (c : Int), .int .i64 1, .int .i64 1] 131)) (by first | (go_simp; done) | (go_simp; rfl)) ?_
 refine hK.out _ _ ⟨pw_cell_below (below_alloc (Below.refl _ _) _) hHeld.1, pw_cell_below (below_alloc (Below.refl _ _) _) hHeld.2⟩ (fun hHeld => ?_)
 clear hK K
 refine norm_ (a' := ?_) ?_ ?_
 rotate_left
 ·show Act.put _ (some 43) _ = _
  simp only [Act.put, List.setIfInBounds_toArray, List.set_cons_zero, List.set_cons_succ, i64_w, i32_w]
  rfl
 have i73 : (Try.prog.info? 131).map (fun i => (i.zero, i.size, i.bytes)) = some (some (.agg #[.int .i64 0, .int .i64 0, .int .i64 0, .int .i64 0]), 4, 32) := by kernel_rfl
 have hr4 : Kd.R kRc 131 w3.drew B (fun _ => True) v rs := Kd.R_mono (Kd.R_drew Row3.out) (fun _ _ => trivial)
 refine one_ (i := 9) (N := some 44) #[true, true, true, true, true, true, true, true, true, true, false, false, false] rfl rfl (by kernel_rfl) (by decide) (fun K hK => ?_)
 refine Kd.R_append_step kRc (w0 := w3.drew) B (by rfl) (.tmp 39) (.tmp 43) 66 131 (.agg #[.int .i64 0, .int .i64 0, .int .i64 0, .int .i64 0]) 32 rfl Try.underlying66 i73 rfl (by decide) (by omega) v rs (oneR r c) [.int .i64 (r : Int), .int .i64 (c : Int), .int .i64 1, .int .i64 1] (fun _ => True) (fun _ => False) rfl rfl (k131_mkM _ _ _ (oneR r c)) (fun _ h => h.elim) (fun _ _ => trivial) hr4 (Below.refl _ _) (Nat.le_trans hBW G3.out.size) (by omega) ?_
 intro v5 w5 ho5 hb5 hg5 hat5
 obtain ⟨A5, c5, ev5⟩ := Kd.R_slice ho5
 have hne5 : ∀ {g t : Nat} {cells : Array Value}, w3.heap[g]? = some (.cells cells t (0, 0)) → t ≠ 131 → some g ≠ v.ownBlock := fun {g t cells} h ht => Kd.R_ne Row3.out h (Ne.symm ht)
 have hkeep5 : ∀ {g t : Nat} {cells : Array Value}, w3.heap[g]? = some (.cells cells t (0, 0)) → t ≠ 131 → w5.heap[g]? = some (.cells cells t (0, 0)) := fun {g t cells} h ht => (hg5.block g (Array.getElem?_eq_some_iff.1 h).1 (hne5 h ht)).trans h
 have Y5 := Aside0.mk (hkeep5 Z5.out (by decide))
 have Y6 := Aside0.mk (hkeep5 Z6.out (by decide))
 have hbmv : some bm ≠ v.ownBlock := fun e => by
  obtain ⟨inner, ho⟩ := Kd.R_own Row3.out
  obtain ⟨cells, hc2⟩ := own_typed ho bm e.symm
  exact Map3.out.notCells hc2 rfl
 have Map5 := Aside0.mk (Map3.out.move (W' := w5) (hg5.block bm Map3.out.lt hbmv))
 have Row5 := Aside0.mk (Kd.R_tight rfl ho5)
 have G5 := Aside0.mk hg5
 have AT5 := Aside0.mk hat5
 subst ev5
 refine hK.out _ _ ⟨(blk_cell Y5.out 0).trans rfl, (blk_cell Y6.out 1).trans rfl⟩ (fun hHeld => ?_)
 clear hK K ho5 hb5 hg5 hat5 hne5 hkeep5 hbmv hr4 i73
 refine norm_ (a' := ?_) ?_ ?_
 rotate_left
 ·show Act.put _ (some 44) _ = _
  simp only [Act.put, List.setIfInBounds_toArray, List.set_cons_zero, List.set_cons_succ, i64_w, i32_w]
  rfl
 refine pure_ (i := 10) (N := some 45) (v := ?_) (a' := ?_) #[true, true, true, true, true, true, true, true, true, true, true, false, false] rfl rfl (by kernel_rfl) (fun _ _ _ h => h) (Or.inl ⟨by rfl, ?_⟩) ?_ ?_
 rotate_left
 ·intro w'
  go_simp
  with_reducible rfl
 rotate_left
 ·simp only [Act.put, List.setIfInBounds_toArray, List.set_cons_zero, List.set_cons_succ, i64_w, i32_w]
  rfl
 refine pure_ (i := 11) (N := some 46) (v := ?_) (a' := ?_) #[true, true, true, true, true, true, true, true, true, true, true, true, false] rfl rfl (by kernel_rfl) (fun _ _ _ h => h) (Or.inl ⟨by rfl, ?_⟩) ?_ ?_
 rotate_left
 ·intro w'
  go_simp
  with_reducible rfl
 rotate_left
 ·simp only [Act.put, List.setIfInBounds_toArray, List.set_cons_zero, List.set_cons_succ, i64_w, i32_w]
  rfl
 have hq1 := hHeld.2
 have hq2 : w5.frozen? ⟨gf, 1, none⟩ = false := blk_frozen Y6.out 1
 refine last_ (i := 12) (N := none) #[true, true, true, true, true, true, true, true, true, true, true, true, true] rfl rfl (by kernel_rfl) (by decide) (fun K hK => ?_)
 refine skip_step (by rfl) rfl (w1 := w5.setCell ⟨gf, 1, none⟩ (.slice A5 (rs ++ [oneR r c]).length c5)) (by first | (go_simp; done) | (go_simp; rfl)) ?_
 refine hK.out _ _ ?_
 clear hK K hHeld hq1 hq2
 have hgf5 : gf < w5.heap.size := (Array.getElem?_eq_some_iff.1 Y6.out).1
 have hgv : gv ≠ gf := by
  rintro rfl
  have z := Y5.out
  rw [Y6.out] at z
  injection z with z
  injection z with _ z
  cases z
 have Q5 := Aside0.mk (show (w5.setCell ⟨gf, 1, none⟩ (.slice A5 (rs ++ [oneR r c]).length c5)).heap[gv]? = some (.cells #[.pointer (some ⟨gf, 0, none⟩)] 59 (0, 0)) from (Below.heap_setCell _ _ _ _ hgv).trans Y5.out)
 have Q6 := Aside0.mk (show (w5.setCell ⟨gf, 1, none⟩ (.slice A5 (rs ++ [oneR r c]).length c5)).heap[gf]? = some (.cells #[.slice none 0 0, .slice A5 (rs ++ [oneR r c]).length c5] 68 (0, 0)) from by
  simp only [World.setCell, Array.getElem?_modify, if_true]
  rw [Y6.out]
  simp)
 have QM := Aside0.mk (Map5.out.move (W' := w5.setCell ⟨gf, 1, none⟩ (.slice A5 (rs ++ [oneR r c]).length c5)) (Below.heap_setCell _ _ _ _ (Map5.out.notCells Y6.out)))
 have QR := Aside0.mk (R_setF Row5.out Y6.out (by decide) 1 (.slice A5 (rs ++ [oneR r c]).length c5))
 have QO := Aside0.mk (show Other (fun k => k = bm ∨ k = gf ∨ some k = v.ownBlock) W (w5.setCell ⟨gf, 1, none⟩ (.slice A5 (rs ++ [oneR r c]).length c5)) from by
  have g3 := G3.out
  have g5 := G5.out
  refine ⟨g5.os.trans g3.os, g5.tape.trans g3.tape, g5.output.trans g3.output, ?_, fun k hk hn => ?_⟩
  ·have h1 : W.heap.size ≤ w3.heap.size := g3.size
   have h2 : w3.heap.size ≤ w5.heap.size := g5.size
   simpa [World.setCell] using Nat.le_trans h1 h2
  ·rw [Below.heap_setCell _ _ _ _ (fun e => hn (.inr (.inl e))), g5.block k (Nat.lt_of_lt_of_le hk g3.size) (fun e => hn (.inr (.inr e)))]
   exact g3.block k hk (fun e => hn (.inl (by injection e))))
 have ATW : ∀ k, (Value.slice A5 (rs ++ [oneR r c]).length c5).ownBlock = some k → v.ownBlock = some k ∨ W.heap.size ≤ k := fun k hk => by
  rcases AT5.out with h1 | ⟨b, h1, h2⟩
  ·exact .inl (by rw [← h1]; exact hk)
  ·rw [h1] at hk
   injection hk with hk
   subst hk
   exact .inr (Nat.le_trans G3.out.size h2)
 have AW := Aside0.mk ATW
 have SZ := Aside0.mk (show W.heap.size ≤ (w5.setCell ⟨gf, 1, none⟩ (.slice A5 (rs ++ [oneR r c]).length c5)).heap.size from QO.out.size)
 clear Y5 Y6 Map5 Row5 G5 AT5 ATW Z5 Z6 Map3 G3 Row3 hgf5 hgv
 obtain ⟨rs1, hrs1⟩ : ∃ rs1, rs1 = rs ++ [oneR r c] := ⟨_, rfl⟩
 rw [← hrs1] at Q5 Q6 QM QR QO AW SZ ⊢
 have RS1 := Aside0.mk hrs1
 clear hrs1
 obtain ⟨k, hkk⟩ : ∃ k, k = ks.length := ⟨_, rfl⟩
 rw [← hkk]
 have KK := Aside0.mk hkk
 clear hkk
 generalize w5.setCell ⟨gf, 1, none⟩ (.slice A5 rs1.length c5) = wx at Q5 Q6 QM QR QO SZ ⊢
 refine done_ (by kernel_rfl) ?_
 have hkr : k < rs1.length := by rw [RS1.out, KK.out, HKL.out]; simp
 have hrl1 : rs1.length ≤ 1048577 := by rw [RS1.out]; simp; omega
 have HBd1 := Aside0.mk (show ∀ a ∈ rs1, boundR a hi wi from fun a ha => by
  rw [RS1.out] at ha
  rcases List.mem_append.1 ha with ha | ha
  ·exact HBd.out a ha
  ·simp at ha
   subst ha
   exact oneR_bound hr hc)
 have hpos : 0 < rs1.length := by omega
 obtain ⟨gr, cp, ev, hgr, hlt, cells, hcells⟩ := Kd.R_form QR.out hpos
 injection ev with ea en ec
 subst ea
 subst ec
 clear en
 obtain ⟨y0, y1, y2, y3⟩ := rc_cells QR.out k hkr
 have hgrf : gr ≠ gf := by
  rintro rfl
  have z := Q6.out
  rw [hcells] at z
  injection z with z
  injection z with _ z
  cases z
 have x5 : wx.cell? ⟨gv, 0, none⟩ = some (.pointer (some ⟨gf, 0, none⟩)) := (blk_cell (w := wx) Q5.out 0).trans rfl
 have x6 : wx.cell? ⟨gf, 1, none⟩ = some (.slice (some ⟨gr, 0, none⟩) rs1.length c5) := (blk_cell (w := wx) Q6.out 1).trans rfl
 have k0 : (0 : Int) ≤ k := by omega
 have k1 : (k : Int) < rs1.length := by omega
 have k2 : (rs1.length : Int) ≤ 1048577 := by omega
 have hmem : rs1.getD k zeroR ∈ rs1 := by rw [List.getD_eq_getElem?_getD, List.getElem?_eq_getElem hkr]; exact List.getElem_mem hkr
 have hb1 := HBd1.out _ hmem
 generalize hold : rs1.getD k zeroR = old at y0 y1 y2 y3 hb1
 have HOLD := Aside0.mk hold
 have HB1 := Aside0.mk hb1
 have HNE := Aside0.mk hgrf
 have HC := Aside0.mk hcells
 clear hold hb1 hmem hcells hlt hgrf
 go_wp2
 refine start_ (n := 18) (S := fun w' => w'.cell? ⟨gv, 0, none⟩ = some (.pointer (some ⟨gf, 0, none⟩)) ∧ w'.cell? ⟨gf, 1, none⟩ = some (.slice (some ⟨gr, 0, none⟩) rs1.length c5) ∧ w'.cell? ⟨gr, k * 4, none⟩ = some (.int .i64 old.f0) ∧ w'.cell? ⟨gr, k * 4 + 1, none⟩ = some (.int .i64 old.f1) ∧ w'.cell? ⟨gr, k * 4 + 2, none⟩ = some (.int .i64 old.f2) ∧ w'.cell? ⟨gr, k * 4 + 3, none⟩ = some (.int .i64 old.f3)) (ds := [17]) #[false, false, false, false, false, false, false, false, false, false, false, false, false, false, false, false, false, false] (by kernel_rfl) rfl rfl (⟨x5, x6, y0, y1, y2, y3⟩) (fun hHeld => ?_)
 refine take_ (i := 0) (N := some 47) (v := ?_) (a' := ?_) #[true, false, false, false, false, false, false, false, false, false, false, false, false, false, false, false, false, false] rfl rfl (by kernel_rfl) (fun _ _ _ h => h) (Or.inl ⟨by rfl, ?_⟩) hHeld ?_ ?_
 rotate_left
 ·rintro w' ⟨s0, s1, s2, s3, s4, s5⟩
  go_simp
  with_reducible rfl
 rotate_left
 ·simp only [Act.put, List.setIfInBounds_toArray, List.set_cons_zero, List.set_cons_succ, i64_w, i32_w]
  rfl
 refine pure_ (i := 1) (N := some 48) (v := ?_) (a' := ?_) #[true, true, false, false, false, false, false, false, false, false, false, false, false, false, false, false, false, false] rfl rfl (by kernel_rfl) (fun _ _ _ h => h) (Or.inl ⟨by rfl, ?_⟩) ?_ ?_
 rotate_left
 ·intro w'
  go_simp
  with_reducible rfl
 rotate_left
 ·simp only [Act.put, List.setIfInBounds_toArray, List.set_cons_zero, List.set_cons_succ, i64_w, i32_w]
  rfl
 refine pure_ (i := 2) (N := some 49) (v := ?_) (a' := ?_) #[true, true, true, false, false, false, false, false, false, false, false, false, false, false, false, false, false, false] rfl rfl (by kernel_rfl) (fun _ _ _ h => h) (Or.inl ⟨by rfl, ?_⟩) ?_ ?_
 rotate_left
 ·intro w'
  go_simp
  with_reducible rfl
 rotate_left
 ·simp only [Act.put, List.setIfInBounds_toArray, List.set_cons_zero, List.set_cons_succ, i64_w, i32_w]
  rfl
 refine take_ (i := 3) (N := some 50) (v := ?_) (a' := ?_) #[true, true, true, true, false, false, false, false, false, false, false, false, false, false, false, false, false, false] rfl rfl (by kernel_rfl) (fun _ _ _ h => h) (Or.inl ⟨by rfl, ?_⟩) hHeld ?_ ?_
 rotate_left
 ·rintro w' ⟨s0, s1, s2, s3, s4, s5⟩
  go_simp
  with_reducible rfl
 rotate_left
 ·simp only [Act.put, List.setIfInBounds_toArray, List.set_cons_zero, List.set_cons_succ, i64_w, i32_w]
  rfl
 refine pure_ (i := 4) (N := some 51) (v := ?_) (a' := ?_) #[true, true, true, true, true, false, false, false, false, false, false, false, false, false, false, false, false, false] rfl rfl (by kernel_rfl) (fun _ _ _ h => h) (Or.inl ⟨by rfl, ?_⟩) ?_ ?_
 rotate_left
 ·intro w'
  go_simp
  with_reducible rfl
 rotate_left
 ·simp only [Act.put, List.setIfInBounds_toArray, List.set_cons_zero, List.set_cons_succ, i64_w, i32_w]
  rfl
 refine take_ (i := 5) (N := some 52) (v := ?_) (a' := ?_) #[true, true, true, true, true, true, false, false, false, false, false, false, false, false, false, false, false, false] rfl rfl (by kernel_rfl) (fun _ _ _ h => h) (Or.inl ⟨by rfl, ?_⟩) hHeld ?_ ?_
 rotate_left
 ·rintro w' ⟨s0, s1, s2, s3, s4, s5⟩
  go_simp
  with_reducible rfl
 rotate_left
 ·simp only [Act.put, List.setIfInBounds_toArray, List.set_cons_zero, List.set_cons_succ, i64_w, i32_w]
  rfl
 refine pure_ (i := 6) (N := some 53) (v := ?_) (a' := ?_) #[true, true, true, true, true, true, true, false, false, false, false, false, false, false, false, false, false, false] rfl rfl (by kernel_rfl) (fun _ _ _ h => h) (Or.inl ⟨by rfl, ?_⟩) ?_ ?_
 rotate_left
 ·intro w'
  go_simp
  with_reducible rfl
 rotate_left
 ·simp only [Act.put, List.setIfInBounds_toArray, List.set_cons_zero, List.set_cons_succ, i64_w, i32_w]
  rfl
 refine pure_ (i := 7) (N := some 54) (v := ?_) (a' := ?_) #[true, true, true, true, true, true, true, true, false, false, false, false, false, false, false, false, false, false] rfl rfl (by kernel_rfl) (fun _ _ _ h => h) (Or.inl ⟨by rfl, ?_⟩) ?_ ?_
 rotate_left
 ·intro w'
  go_simp
  with_reducible rfl
 rotate_left
 ·simp only [Act.put, List.setIfInBounds_toArray, List.set_cons_zero, List.set_cons_succ, i64_w, i32_w]
  rfl
 refine take_ (i := 8) (N := some 55) (v := ?_) (a' := ?_) #[true, true, true, true, true, true, true, true, true, false, false, false, false, false, false, false, false, false] rfl rfl (by kernel_rfl) (fun _ _ _ h => h) (Or.inl ⟨by rfl, ?_⟩) hHeld ?_ ?_
 rotate_left
 ·rintro w' ⟨s0, s1, s2, s3, s4, s5⟩
  go_simp
  with_reducible rfl
 rotate_left
 ·simp only [Act.put, List.setIfInBounds_toArray, List.set_cons_zero, List.set_cons_succ, i64_w, i32_w]
  rfl
 refine pure_ (i := 9) (N := some 56) (v := ?_) (a' := ?_) #[true, true, true, true, true, true, true, true, true, true, false, false, false, false, false, false, false, false] rfl rfl (by kernel_rfl) (fun _ _ _ h => h) (Or.inl ⟨by rfl, ?_⟩) ?_ ?_
 rotate_left
 ·intro w'
  go_simp
  with_reducible rfl
 rotate_left
 ·simp only [Act.put, List.setIfInBounds_toArray, List.set_cons_zero, List.set_cons_succ, i64_w, i32_w]
  rfl
 refine pure_ (i := 10) (N := some 57) (v := ?_) (a' := ?_) #[true, true, true, true, true, true, true, true, true, true, true, false, false, false, false, false, false, false] rfl rfl (by kernel_rfl) (fun _ _ _ h => h) (Or.inl ⟨by rfl, ?_⟩) ?_ ?_
 rotate_left
 ·intro w'
  go_simp
  with_reducible rfl
 rotate_left
 ·simp only [Act.put, List.setIfInBounds_toArray, List.set_cons_zero, List.set_cons_succ, i64_w, i32_w]
  rfl
 refine take_ (i := 11) (N := some 58) (v := ?_) (a' := ?_) #[true, true, true, true, true, true, true, true, true, true, true, true, false, false, false, false, false, false] rfl rfl (by kernel_rfl) (fun _ _ _ h => h) (Or.inl ⟨by rfl, ?_⟩) hHeld ?_ ?_
 rotate_left
 ·rintro w' ⟨s0, s1, s2, s3, s4, s5⟩
  go_simp
  with_reducible rfl
 rotate_left
 ·simp only [Act.put, List.setIfInBounds_toArray, List.set_cons_zero, List.set_cons_succ, i64_w, i32_w]
  rfl
 refine pure_ (i := 12) (N := some 59) (v := ?_) (a' := ?_) #[true, true, true, true, true, true, true, true, true, true, true, true, true, false, false, false, false, false] rfl rfl (by kernel_rfl) (fun _ _ _ h => h) (Or.inl ⟨by rfl, ?_⟩) ?_ ?_
 rotate_left
 ·intro w'
  go_simp
  with_reducible rfl
 rotate_left
 ·simp only [Act.put, List.setIfInBounds_toArray, List.set_cons_zero, List.set_cons_succ, i64_w, i32_w]
  rfl
 refine pure_ (i := 13) (N := some 60) (v := ?_) (a' := ?_) #[true, true, true, true, true, true, true, true, true, true, true, true, true, true, false, false, false, false] rfl rfl (by kernel_rfl) (fun _ _ _ h => h) (Or.inl ⟨by rfl, ?_⟩) ?_ ?_
 rotate_left
 ·intro w'
  go_simp
  with_reducible rfl
 rotate_left
 ·simp only [Act.put, List.setIfInBounds_toArray, List.set_cons_zero, List.set_cons_succ, i64_w, i32_w]
  rfl
 refine pure_ (i := 14) (N := some 61) (v := ?_) (a' := ?_) #[true, true, true, true, true, true, true, true, true, true, true, true, true, true, true, false, false, false] rfl rfl (by kernel_rfl) (fun _ _ _ h => h) (Or.inl ⟨by rfl, ?_⟩) ?_ ?_
 rotate_left
 ·intro w'
  go_simp
  with_reducible rfl
 rotate_left
 ·simp only [Act.put, List.setIfInBounds_toArray, List.set_cons_zero, List.set_cons_succ, i64_w, i32_w]
  rfl
 refine one_ (i := 15) (N := some 62) #[true, true, true, true, true, true, true, true, true, true, true, true, true, true, true, true, false, false] rfl rfl (by kernel_rfl) (by decide) (fun K hK => ?_)
 refine goes_ Try.func141 (by kernel_rfl) rfl #[.agg #[.int .i64 old.f0, .int .i64 old.f1, .int .i64 old.f2, .int .i64 old.f3], .agg #[.int .i64 (r : Int), .int .i64 (c : Int), .int .i64 1, .int .i64 1]] (by rfl) rfl rfl (by (try simp only [List.map_toArray, List.map_cons, List.map_nil]); first | done | rfl) ?_
 refine (PC.impl_rect_both.calls old.f0 old.f1 old.f2 old.f3 r c 1 1 _ _ _ _ _ (both_f old (oneR r c) hi wi HB1.out (oneR_bound hr hc) hhi hwi)).mono ?_
 rintro e w8 ⟨rfl, hb8⟩
 refine ⟨_, rfl, ?_⟩
 have HB8 := Aside0.mk (show Below wx.heap.size wx w8 from ⟨hb8.os, hb8.tape, hb8.output, hb8.size, hb8.block⟩)
 refine hK.out _ _ ⟨pw_cell_below hb8 hHeld.1, pw_cell_below hb8 hHeld.2.1, pw_cell_below hb8 hHeld.2.2.1, pw_cell_below hb8 hHeld.2.2.2.1, pw_cell_below hb8 hHeld.2.2.2.2.1, pw_cell_below hb8 hHeld.2.2.2.2.2⟩ (fun hHeld => ?_)
 clear hK K hb8
 refine norm_ (a' := ?_) ?_ ?_
 rotate_left
 ·show Act.put _ (some 62) _ = _
  simp only [Act.put, List.setIfInBounds_toArray, List.set_cons_zero, List.set_cons_succ, i64_w, i32_w]
  rfl
 generalize hnew : bothR old (oneR r c) = nw
 have HNEW := Aside0.mk hnew
 clear hnew
 refine pure_ (i := 16) (N := some 63) (v := ?_) (a' := ?_) #[true, true, true, true, true, true, true, true, true, true, true, true, true, true, true, true, true, false] rfl rfl (by kernel_rfl) (fun _ _ _ h => h) (Or.inl ⟨by rfl, ?_⟩) ?_ ?_
 rotate_left
 ·intro w'
  go_simp
  with_reducible rfl
 rotate_left
 ·simp only [Act.put, List.setIfInBounds_toArray, List.set_cons_zero, List.set_cons_succ, i64_w, i32_w]
  rfl
 have hrow8 := Kd.R_below QR.out HB8.out
 obtain ⟨cur8, hc8, hs8⟩ := rc_block hrow8
 refine last_ (i := 17) (N := none) #[true, true, true, true, true, true, true, true, true, true, true, true, true, true, true, true, true, true] rfl rfl (by kernel_rfl) (by decide) (fun K hK => ?_)
 refine cells_step (W := w8) (by rfl) rfl (t := 131) (e := 131) rfl (g := gr) (off := k * 4) (cur := cur8) rfl (.agg #[.int .i64 nw.f0, .int .i64 nw.f1, .int .i64 nw.f2, .int .i64 nw.f3]) rfl [.int .i64 nw.f0, .int .i64 nw.f1, .int .i64 nw.f2, .int .i64 nw.f3] rfl (by kernel_rfl) hc8 (by simp; omega) (by simp; exact ⟨rfl, rfl, rfl, rfl⟩) ?_
 refine hK.out _ _ ?_
 clear hK K hHeld
 have hput := rc_put hrow8 k hkr nw
 have HPUT := Aside0.mk hput
 clear hput hrow8 hc8
 generalize w8.setCells gr (k * 4) [.int .i64 nw.f0, .int .i64 nw.f1, .int .i64 nw.f2, .int .i64 nw.f3] = w9 at HPUT ⊢
 refine done_ (by kernel_rfl) ?_
 go_wp2
 go_ret
 have hset : rs1.set k nw = rs ++ [bothR (oneR r c) (oneR r c)] := by
  have hkk : k = rs.length := by rw [KK.out, HKL.out]
  rw [← HNEW.out, ← HOLD.out, RS1.out, hkk]
  simp [List.getD_eq_getElem?_getD]
 have hg := HPUT.out.2
 have hmne : bm ≠ gr := QM.out.notCells HC.out
 have hin : ∀ {g : Nat} {o : Obj}, wx.heap[g]? = some o → g ≠ gr → w9.heap[g]? = some o := fun {g o} h hn => by
  have hl := (Array.getElem?_eq_some_iff.1 h).1
  rw [hg.block g (Nat.lt_of_lt_of_le hl HB8.out.size) (fun e => hn (by injection e)), HB8.out.block g hl]
  exact h
 refine ⟨by rw [KK.out]; rfl, .slice (some ⟨gr, 0, none⟩) rs1.length c5, ?_, ?_, ?_, AW.out, ?_⟩
 ·rw [← hset]
  exact HPUT.out.1
 ·refine QM.out.move ?_
  rw [hg.block bm (Nat.lt_of_lt_of_le QM.out.lt HB8.out.size) (fun e => hmne (by injection e)), HB8.out.block bm QM.out.lt]
 ·exact hin Q6.out (Ne.symm HNE.out)
 ·have o := QO.out
  refine ⟨hg.os.trans (HB8.out.os.trans o.os), hg.tape.trans (HB8.out.tape.trans o.tape), hg.output.trans (HB8.out.output.trans o.output), Nat.le_trans o.size (Nat.le_trans HB8.out.size hg.size), fun i hi hn => ?_⟩
  have hi2 := Nat.lt_of_lt_of_le hi o.size
  rw [hg.block i (Nat.lt_of_lt_of_le hi2 HB8.out.size) (fun e => ?_), HB8.out.block i hi2, o.block i hi hn]
  injection e with e
  rcases AW.out gr rfl with h1 | h1
  ·exact hn (.inr (.inr (by rw [e, h1])))
  ·omega
end Go.Proofs.Ytaepgogafkmooaa.Hd
namespace Go.Proofs.Ytaepgogafkmooaa.Hd
open Go.RowKit Go.Proofs.YtaepgogafkmooaaW.PrintWords Go.Proofs.YtaepgogafkmooaaW.PrintLast Go.Proofs.YtaepgogafkmooaaW.PrintMore Go.Proofs.Ytaepgogafkmooaa.PB
set_option linter.unusedVariables false
set_option linter.unusedSimpArgs false
theorem divmod_of {r c wi : Nat} (hc : c < wi) : (r * wi + c) / wi = r ∧ (r * wi + c) % wi = c :=
 ⟨by rw [Nat.add_comm, Nat.add_mul_div_right _ _ (by omega), Nat.div_eq_of_lt hc, Nat.zero_add], by rw [Nat.add_comm, Nat.add_mul_mod_self_right, Nat.mod_eq_of_lt hc]⟩
theorem stAt_step (rows : List (List Int)) {r c wi : Nat} (hc : c < wi) : stAt rows wi (r * wi + c + 1) = stepS (stAt rows wi (r * wi + c)) r c (valAt rows r c) := by
 obtain ⟨h1, h2⟩ := divmod_of (r := r) hc
 show stepS (stAt rows wi (r * wi + c)) ((r * wi + c) / wi) ((r * wi + c) % wi) (valAt rows ((r * wi + c) / wi) ((r * wi + c) % wi)) = _
 rw [h1, h2]
theorem settled2_cell (w0 : World) (gn gc gv gf bm : Nat) (A : Option Addr) (cap : Nat) (rows : List (List Int)) (hi wi : Nat) (hG : GridIn w0 A rows hi wi) :
  CellFn Try.prog 140 #[.pointer (some ⟨gn, 0, none⟩), .pointer (some ⟨gc, 0, none⟩), .pointer (some ⟨gv, 0, none⟩)] hi wi (numAt rows wi) (fun n F W => ∃ v, SInv w0 gn gc gv gf bm A cap rows wi v n F W) := by
 refine ⟨fun n F W W' ⟨v, h⟩ hs hm => ⟨v, h.move hs hm⟩, fun n F W k ⟨v, h⟩ hk => h.lt k hk, fun n F W r c hr hc hn ⟨v, hI⟩ => ?_⟩
 subst hn
 obtain ⟨ad, ad2, ci, row, rfl, hx3, hwl, hx4, hv0, hv1⟩ := hG.cell r c hr hc
 have hi1 := hG.hi_le
 have wi1 := hG.wi_le
 have hmany := hG.many
 have hrl : r < rows.length := by rw [hG.high]; exact hr
 have hcl : c < row.length := by omega
 have o3 := World.block_lt_of_cell? w0 _ hx3
 have o4 := World.block_lt_of_cell? w0 _ hx4
 replace hx3 := (World.cell?_of_block (w := w0) (hI.old _ o3)).trans hx3
 replace hx4 := (World.cell?_of_block (w := w0) (hI.old _ o4)).trans hx4
 rw [add_block] at o3 o4
 have hle : r * wi + c ≤ hi * wi := by
  have : (r + 1) * wi ≤ hi * wi := Nat.mul_le_mul_right _ hr
  rw [Nat.succ_mul] at this
  omega
 obtain ⟨hlen, hnd, hln, hbd⟩ := stAt_inv rows hi wi (r * wi + c) hle
 have hst := stAt_step rows (r := r) hc
 obtain ⟨b1, b2, b3, b4, b5⟩ := hI.base
 by_cases hx : valAt rows r c ∈ (stAt rows wi (r * wi + c)).1
 ·have hkl : (stAt rows wi (r * wi + c)).1.idxOf (valAt rows r c) < (stAt rows wi (r * wi + c)).2.length := by rw [← hlen]; exact List.idxOf_lt_length_of_mem hx
  refine (found_walk W w0.heap.size gn gc gv gf bm ad ad2 rows.length cap row.length ci (valAt rows r c) _ (stAt rows wi (r * wi + c)).2 v r c hi wi hr hc hi1 wi1 hrl hcl (by have := hG.high; omega) (by omega)
   ((blk_cell hI.num 0).trans rfl) ((blk_cell hI.cel 0).trans rfl) hx3 hx4 (fun W' hW' => ?_) ((blk_cell hI.flo 0).trans rfl) hI.str hI.row hkl (by omega) hbd).mono ?_
  ·have := (hI.map.move hW').look (valAt rows r c) (by omega) (by omega)
   rw [if_pos hx, decide_eq_true hx] at this
   exact this
  ·rintro e W' ⟨rfl, hrow, hg⟩
   have hst2 : stAt rows wi (r * wi + c + 1) = ((stAt rows wi (r * wi + c)).1, (stAt rows wi (r * wi + c)).2.set ((stAt rows wi (r * wi + c)).1.idxOf (valAt rows r c)) (bothR ((stAt rows wi (r * wi + c)).2.getD ((stAt rows wi (r * wi + c)).1.idxOf (valAt rows r c)) zeroR) (oneR r c))) := by rw [hst, stepS, if_pos hx]
   have hne : ∀ {g t : Nat} {cells : Array Value}, W.heap[g]? = some (.cells cells t (0, 0)) → t ≠ 131 → W'.heap[g]? = some (.cells cells t (0, 0)) := fun {g t cells} h ht => (hg.block g (Array.getElem?_eq_some_iff.1 h).1 (Kd.R_ne hI.row h (Ne.symm ht))).trans h
   have hbase : ∀ k, some k = v.ownBlock → w0.heap.size ≤ k := fun k hk => Kd.R_base hI.row k hk.symm
   refine ⟨?_, F, ⟨v, ⟨fun k hk => (hg.block k (Nat.lt_of_lt_of_le hk hI.size) (fun e => by have := hbase k e; omega)).trans (hI.old k hk), Nat.le_trans hI.size hg.size, hne hI.num (by decide), hne hI.cel (by decide), hne hI.flo (by decide), hne hI.str (by decide), ?_, ?_, hI.base, hI.foot⟩⟩, fun k hk => .inl hk, ⟨hg.os, hg.tape, hg.output, hg.size, fun k hk hn => hg.block k hk (fun e => hn ((hI.foot k).2 (by simp [e])))⟩⟩
   ·unfold numAt
    rw [hst2]
   ·rw [hst2]
    refine hI.map.move (hg.block bm hI.map.lt (fun e => ?_))
    obtain ⟨inner, ho⟩ := Kd.R_own hI.row
    obtain ⟨cells, hc2⟩ := own_typed ho bm e.symm
    exact hI.map.notCells hc2 rfl
   ·rw [hst2]
    exact hrow
 ·refine (new_walk W w0.heap.size gn gc gv gf bm ad ad2 rows.length cap row.length ci (valAt rows r c) (stAt rows wi (r * wi + c)).1 (stAt rows wi (r * wi + c)).2 v r c hi wi hr hc hi1 wi1 hrl hcl (by have := hG.high; omega) (by omega)
   hI.num hI.cel hx3 hx4 ⟨o3, o4⟩ hI.map hx ⟨hv0, hv1⟩ hlen hI.flo hI.str hI.row (by omega) hI.size hbd).mono ?_
  rintro e W' ⟨rfl, v', hrow, hmap, hstr, hat, hO⟩
  have hst2 : stAt rows wi (r * wi + c + 1) = ((stAt rows wi (r * wi + c)).1 ++ [valAt rows r c], (stAt rows wi (r * wi + c)).2 ++ [bothR (oneR r c) (oneR r c)]) := by rw [hst, stepS, if_neg hx]
  have hbase : ∀ k, some k = v.ownBlock → w0.heap.size ≤ k := fun k hk => Kd.R_base hI.row k hk.symm
  have hnotF : ∀ {g t : Nat} {cells : Array Value}, W.heap[g]? = some (.cells cells t (0, 0)) → t ≠ 131 → t ≠ 68 → W'.heap[g]? = some (.cells cells t (0, 0)) := fun {g t cells} h ht ht2 => (hO.block g (Array.getElem?_eq_some_iff.1 h).1 (fun e => by
   rcases e with rfl | rfl | e
   ·exact hI.map.notCells h rfl
   ·have z := hI.str
    rw [h] at z
    injection z with z
    injection z with _ z
    exact ht2 z
   ·exact Kd.R_ne hI.row h (Ne.symm ht) e)).trans h
  refine ⟨?_, (fun k => k < w0.heap.size ∨ k = gn ∨ k = gc ∨ k = gv ∨ k = gf ∨ k = bm ∨ some k = v'.ownBlock), ⟨v', ⟨fun k hk => (hO.block k (Nat.lt_of_lt_of_le hk hI.size) (fun e => ?_)).trans (hI.old k hk), Nat.le_trans hI.size hO.size, hnotF hI.num (by decide) (by decide), hnotF hI.cel (by decide) (by decide), hnotF hI.flo (by decide) (by decide), hstr, ?_, ?_, hI.base, fun k => Iff.rfl⟩⟩, fun k hk => ?_, ⟨hO.os, hO.tape, hO.output, hO.size, fun k hk hn => hO.block k hk (fun e => hn ((hI.foot k).2 ?_))⟩⟩
  ·unfold numAt
   rw [hst2]
   simp only
   rw [List.idxOf_append, if_neg hx]
   simp
  ·rcases e with rfl | rfl | e
   ·omega
   ·omega
   ·have := hbase k e; omega
  ·rw [hst2]
   exact hmap
  ·rw [hst2]
   exact hrow
  ·rcases hk with h1 | h1 | h1 | h1 | h1 | h1 | h1
   ·exact .inl ((hI.foot k).2 (by simp [h1]))
   ·exact .inl ((hI.foot k).2 (by simp [h1]))
   ·exact .inl ((hI.foot k).2 (by simp [h1]))
   ·exact .inl ((hI.foot k).2 (by simp [h1]))
   ·exact .inl ((hI.foot k).2 (by simp [h1]))
   ·exact .inl ((hI.foot k).2 (by simp [h1]))
   ·rcases hat k h1.symm with h2 | h2
    ·exact .inl ((hI.foot k).2 (by simp [h2]))
    ·exact .inr h2
  ·rcases e with h1 | h1 | h1
   ·simp [h1]
   ·simp [h1]
   ·simp [h1]
end Go.Proofs.Ytaepgogafkmooaa.Hd
namespace Go.Proofs.Ytaepgogafkmooaa.Hd
open Go.RowKit Go.Proofs.YtaepgogafkmooaaW.PrintWords Go.Proofs.YtaepgogafkmooaaW.PrintLast Go.Proofs.YtaepgogafkmooaaW.PrintMore Go.Proofs.Ytaepgogafkmooaa.PB
set_option linter.unusedVariables false
set_option linter.unusedSimpArgs false
def FloorAt (w : World) (g : Nat) (cs : List (List Int)) (rs : List Rc) : Prop := IsS68 w w g cs rs
theorem FloorAt.below {w w' : World} {g : Nat} {cs : List (List Int)} {rs : List Rc} (h : FloorAt w g cs rs) (hb : Below w.heap.size w w') : FloorAt w' g cs rs := by
  obtain ⟨A0, c0, A1, c1, h1, h2, h3, h4⟩ := h
  have hlt := (Array.getElem?_eq_some_iff.1 h1).1
  have e := (hb.block g hlt).trans h1
  exact ⟨A0, c0, A1, c1, e, e, Kd.C_below h3 hb, Kd.C_below h4 hb⟩
def wideOf (rows : List (List Int)) : Nat := (rows.getD 0 []).length
def shapeOk (rows : List (List Int)) : Bool := decide (1 ≤ rows.length) && decide (rows.length ≤ 6) && decide (1 ≤ wideOf rows) && decide (wideOf rows ≤ 6) && !(rows.any fun r => r.length != wideOf rows)
def areaR (a : Rc) : Int := a.f2 * a.f3
def sumArea (rs : List Rc) : Int := (rs.map areaR).foldl (· + ·) 0
def roomsOf (rows : List (List Int)) : List Rc := (stAt rows (wideOf rows) (rows.length * wideOf rows)).2
def cellsOf (rows : List (List Int)) : List (List Int) := gridOf rows.length (wideOf rows) (numAt rows (wideOf rows))
def settledF (rows : List (List Int)) : Option (List (List Int) × List Rc × Bool) :=
  if shapeOk rows = true then if (roomsOf rows).length ≤ 9 then some (cellsOf rows, roomsOf rows, decide (sumArea (roomsOf rows) = (rows.length : Int) * (wideOf rows : Int))) else none else none
theorem area_bound {a : Rc} {hi wi : Nat} (h : boundR a hi wi) (h1 : hi ≤ 6) (h2 : wi ≤ 6) : 0 ≤ areaR a ∧ areaR a ≤ 36 := by
  obtain ⟨a1, a2, a3, a4, a5, a6⟩ := h
  unfold areaR
  refine ⟨Int.mul_nonneg (by omega) (by omega), ?_⟩
  have := Int.mul_le_mul (show a.f2 ≤ 6 by omega) (show a.f3 ≤ 6 by omega) (by omega) (by omega)
  omega
theorem sum_snoc (xs : List Rc) (a : Rc) : sumArea (xs ++ [a]) = sumArea xs + areaR a := by
  simp [sumArea, List.foldl_append]
theorem sum_take (rs : List Rc) (i : Nat) (hi : i < rs.length) : sumArea (rs.take (i + 1)) = sumArea (rs.take i) + areaR (rs.getD i zeroR) := by
  rw [List.take_add_one, List.getElem?_eq_getElem hi, Option.toList_some, sum_snoc, List.getD_eq_getElem?_getD, List.getElem?_eq_getElem hi]
  rfl
theorem sum_bound (rs : List Rc) {hi wi : Nat} (h : ∀ a ∈ rs, boundR a hi wi) (h1 : hi ≤ 6) (h2 : wi ≤ 6) : ∀ i, i ≤ rs.length → 0 ≤ sumArea (rs.take i) ∧ sumArea (rs.take i) ≤ 36 * i
  | 0, _ => by simp [sumArea]
  | i + 1, hi => by
    have ih := sum_bound rs h h1 h2 i (by omega)
    have hmem : rs.getD i zeroR ∈ rs := by rw [List.getD_eq_getElem?_getD, List.getElem?_eq_getElem (by omega)]; exact List.getElem_mem _
    have hb := area_bound (h _ hmem) h1 h2
    rw [sum_take rs i (by omega)]
    omega
theorem cellsOf_length (rows : List (List Int)) : (cellsOf rows).length = rows.length := gridOf_length _ _ _
theorem cellsOf_wide (rows : List (List Int)) (h : 1 ≤ rows.length) : (rd_L3 (cellsOf rows) 0).length = wideOf rows := by
  unfold rd_L3 cellsOf gridOf
  obtain ⟨n, hn⟩ : ∃ n, rows.length = n + 1 := ⟨rows.length - 1, by omega⟩
  rw [hn, List.range_succ_eq_map]
  simp
def FloorRes (w : World) (r : Option (List (List Int) × List Rc × Bool)) (e : Ending) (w' : World) : Prop :=
  Below w.heap.size w w' ∧ match r with
    | none => e = .returned (.tuple #[.pointer none, .bool false])
    | some (cs, rs, b) => ∃ g, e = .returned (.tuple #[.pointer (some ⟨g, 0, none⟩), .bool b]) ∧ FloorAt w' g cs rs
set_option maxHeartbeats 4000000 in
set_option maxRecDepth 100000 in
theorem settled_bad (A : Option Addr) (cap : Nat) (rows : List (List Int)) (w : World) (hr : (Kd.slice 3 (Kd.int .i64)).C w A rows.length rows) (hbad : rows.length < 1 ∨ 6 < rows.length ∨ (1 ≤ rows.length ∧ wideOf rows < 1) ∨ (1 ≤ rows.length ∧ 6 < wideOf rows)) :
    Calls Try.prog 120 #[.slice A rows.length cap] w (FloorRes w none) := by
  have hn := (C_len hr).2
  have HR := Aside0.mk hr
  clear hr
  have b1 : (rows.length : Int) ≤ 9223372036854775807 := by omega
  rcases hbad with h | h | ⟨h0, h⟩ | ⟨h0, h⟩
  · have d1 : decide ((rows.length : Int) < 1) = true := decide_eq_true (by omega)
    go_enter Try.func120, Try.ntmps120
    go_wp2_with (first | ((with_reducible refine gate_dst (N := 1) rfl ?_); refine box_event ?hg (N := 1) ?hd (cs := #[.slice A rows.length cap]) (t := 63) ?hr ?_; (case hd => rfl); (case hg => rfl); (case hr => first | (go_simp; done) | (go_simp; rfl)); intro gc hgc w1 hbox hb; have HGC := Aside0.mk hgc; have HBX := Aside0.mk hbox; have HB := Aside0.mk hb; have hc1 : w1.cell? ⟨gc, 0, none⟩ = some (.slice A rows.length cap) := (blk_cell hbox 0).trans rfl; clear hgc hbox; clear hb))
    go_ret2
    exact ⟨HB.out, rfl⟩
  · have d1 : decide ((rows.length : Int) < 1) = false := decide_eq_false (by omega)
    have d2 : decide ((6 : Int) < (rows.length : Int)) = true := decide_eq_true (by omega)
    go_enter Try.func120, Try.ntmps120
    go_wp2_with (first | ((with_reducible refine gate_dst (N := 1) rfl ?_); refine box_event ?hg (N := 1) ?hd (cs := #[.slice A rows.length cap]) (t := 63) ?hr ?_; (case hd => rfl); (case hg => rfl); (case hr => first | (go_simp; done) | (go_simp; rfl)); intro gc hgc w1 hbox hb; have HGC := Aside0.mk hgc; have HBX := Aside0.mk hbox; have HB := Aside0.mk hb; have hc1 : w1.cell? ⟨gc, 0, none⟩ = some (.slice A rows.length cap) := (blk_cell hbox 0).trans rfl; clear hgc hbox; clear hb))
    go_ret2
    exact ⟨HB.out, rfl⟩
  all_goals
    obtain ⟨row, hrow⟩ : ∃ row, rows[0]? = some row := ⟨_, List.getElem?_eq_getElem (by omega)⟩
    obtain ⟨ad, Ai, ci, e1, hx, hl, hrr⟩ := C_row HR.out 0 row hrow
    have hwide : wideOf rows = row.length := by unfold wideOf; rw [List.getD_eq_getElem?_getD, hrow]; rfl
    rw [hwide] at h
    subst e1
    rw [Addr.add_zero'] at hx
    have hrl := (C_len hrr).2
    have b2 : (row.length : Int) ≤ 9223372036854775807 := by omega
    clear hrow hwide hrr hl
    have d1 : decide ((rows.length : Int) < 1) = false := decide_eq_false (by omega)
    have hpos : (0 : Int) < (rows.length : Int) := by omega
    by_cases h6 : 6 < rows.length
    · have d2 : decide ((6 : Int) < (rows.length : Int)) = true := decide_eq_true (by omega)
      clear h6 h
      go_enter Try.func120, Try.ntmps120
      go_wp2_with (first | ((with_reducible refine gate_dst (N := 1) rfl ?_); refine box_event ?hg (N := 1) ?hd (cs := #[.slice (some ad) rows.length cap]) (t := 63) ?hr ?_; (case hd => rfl); (case hg => rfl); (case hr => first | (go_simp; done) | (go_simp; rfl)); intro gc hgc w1 hbox hb; have HGC := Aside0.mk hgc; have HBX := Aside0.mk hbox; have HB := Aside0.mk hb; have hc1 : w1.cell? ⟨gc, 0, none⟩ = some (.slice (some ad) rows.length cap) := (blk_cell hbox 0).trans rfl; clear hgc hbox; clear hb))
      go_ret2
      exact ⟨HB.out, rfl⟩
    · have d2 : decide ((6 : Int) < (rows.length : Int)) = false := decide_eq_false (by omega)
      first
        | (have d3 : decide ((row.length : Int) < 1) = true := decide_eq_true (by omega)
           clear h6 h
           go_enter Try.func120, Try.ntmps120
           go_wp2_with (first | ((with_reducible refine gate_dst (N := 1) rfl ?_); refine box_event ?hg (N := 1) ?hd (cs := #[.slice (some ad) rows.length cap]) (t := 63) ?hr ?_; (case hd => rfl); (case hg => rfl); (case hr => first | (go_simp; done) | (go_simp; rfl)); intro gc hgc w1 hbox hb; have HGC := Aside0.mk hgc; have HBX := Aside0.mk hbox; have HB := Aside0.mk hb; have hc1 : w1.cell? ⟨gc, 0, none⟩ = some (.slice (some ad) rows.length cap) := (blk_cell hbox 0).trans rfl; clear hgc hbox; replace hx := pw_cell_below hb hx; clear hb))
           go_ret2
           exact ⟨HB.out, rfl⟩)
        | (have d3 : decide ((row.length : Int) < 1) = false := decide_eq_false (by omega)
           have d4 : decide ((6 : Int) < (row.length : Int)) = true := decide_eq_true (by omega)
           clear h6 h
           go_enter Try.func120, Try.ntmps120
           go_wp2_with (first | ((with_reducible refine gate_dst (N := 1) rfl ?_); refine box_event ?hg (N := 1) ?hd (cs := #[.slice (some ad) rows.length cap]) (t := 63) ?hr ?_; (case hd => rfl); (case hg => rfl); (case hr => first | (go_simp; done) | (go_simp; rfl)); intro gc hgc w1 hbox hb; have HGC := Aside0.mk hgc; have HBX := Aside0.mk hbox; have HB := Aside0.mk hb; have hc1 : w1.cell? ⟨gc, 0, none⟩ = some (.slice (some ad) rows.length cap) := (blk_cell hbox 0).trans rfl; clear hgc hbox; replace hx := pw_cell_below hb hx; clear hb))
           go_ret2
           exact ⟨HB.out, rfl⟩)
set_option maxHeartbeats 4000000 in
set_option maxRecDepth 100000 in
theorem settled_good (A : Option Addr) (cap : Nat) (rows : List (List Int)) (w : World) (hr : (Kd.slice 3 (Kd.int .i64)).C w A rows.length rows) (hv : ∀ r ∈ rows, ∀ x ∈ r, 0 ≤ x ∧ x ≤ 1048576) (h1 : 1 ≤ rows.length) (h6 : rows.length ≤ 6) (wd1 : 1 ≤ wideOf rows) (wd6 : wideOf rows ≤ 6) :
    Calls Try.prog 120 #[.slice A rows.length cap] w (FloorRes w (settledF rows)) := by
  have HR := Aside0.mk hr
  have HV := Aside0.mk hv
  clear hr hv
  obtain ⟨row, hrow⟩ : ∃ row, rows[0]? = some row := ⟨_, List.getElem?_eq_getElem (by omega)⟩
  obtain ⟨ad, Ai, ci, e1, hx, hl, hrr⟩ := C_row HR.out 0 row hrow
  have hwide : wideOf rows = row.length := by unfold wideOf; rw [List.getD_eq_getElem?_getD, hrow]; rfl
  rw [hwide] at wd1 wd6
  subst e1
  rw [Addr.add_zero'] at hx
  have HW := Aside0.mk hwide
  clear hrow hwide hrr hl
  generalize hres : settledF rows = res
  have HRes := Aside0.mk hres
  clear hres
  have d1 : decide ((rows.length : Int) < 1) = false := decide_eq_false (by omega)
  have d2 : decide ((6 : Int) < (rows.length : Int)) = false := decide_eq_false (by omega)
  have d3 : decide ((row.length : Int) < 1) = false := decide_eq_false (by omega)
  have d4 : decide ((6 : Int) < (row.length : Int)) = false := decide_eq_false (by omega)
  have hpos : (0 : Int) < (rows.length : Int) := by omega
  go_enter Try.func120, Try.ntmps120
  go_upto_region 4 with (first | ((with_reducible refine gate_dst (N := 1) rfl ?_); refine box_event ?hg (N := 1) ?hd (cs := #[.slice (some ad) rows.length cap]) (t := 63) ?hr ?_; (case hd => rfl); (case hg => rfl); (case hr => first | (go_simp; done) | (go_simp; rfl)); intro gc hgc w1 hbox hb; have HGC := Aside0.mk hgc; have HBX := Aside0.mk hbox; have HB := Aside0.mk hb; have hc1 : w1.cell? ⟨gc, 0, none⟩ = some (.slice (some ad) rows.length cap) := (blk_cell hbox 0).trans rfl; clear hgc hbox; replace hx := pw_cell_below hb hx; clear hb))
  have hg2 := heap_alloc_new w1 (.cells #[.int .i64 (row.length : Int)] 3)
  have hgc2 : (w1.alloc (.cells #[.int .i64 (row.length : Int)] 3)).heap[gc]? = some (.cells #[.slice (some ad) rows.length cap] 63 (0, 0)) := (Below.heap_alloc w1 _ gc (Array.getElem?_eq_some_iff.1 HBX.out).1).trans HBX.out
  have HB2 := Aside0.mk (below_alloc HB.out (.cells #[.int .i64 (row.length : Int)] 3))
  have HGE := Aside0.mk (show w.heap.size ≤ w1.heap.size from HB.out.size)
  have HGCE := Aside0.mk (show w.heap.size ≤ gc by rw [HGC.out]; exact Nat.le_refl _)
  clear hc1 HBX HB hx
  generalize w1.heap.size = gw at *
  generalize w1.alloc (.cells #[.int .i64 (row.length : Int)] 3) = w2 at *
  have hc2 : w2.cell? ⟨gc, 0, none⟩ = some (.slice (some ad) rows.length cap) := (blk_cell hgc2 0).trans rfl
  have HR2 := Aside0.mk (Kd.C_below HR.out HB2.out)
  have HP := Aside0.mk (settled1_pred w2 gw row.length ((blk_cell hg2 0).trans rfl) (by omega))
  have HGW2 := Aside0.mk hg2
  have HGC2 := Aside0.mk hgc2
  clear hg2 hgc2
  generalize hany : (rows.any fun r => r.length != row.length) = anyb
  have HA := Aside0.mk hany
  clear hany
  cases anyb
  · have hmm := @run_makeMap Try.prog
    go_upto_region 8 with (first | (go_at_call 109; refine (contains_calls 139 Try.f139 Try.func139 (by kernel_rfl) rfl #[.pointer (some ⟨gw, 0, none⟩)] (fun r => r.length != row.length) (some ad) cap rows w2 HR2.out HP.out).mono ?_; rintro e w3 ⟨rfl, hb3⟩; rw [HA.out]; have HB3 := Aside0.mk hb3; clear hb3))
    clear hmm
    -- the world behind what was made
    have hgf := heap_alloc_new w3 (.cells #[.slice none 0 0, .slice none 0 0] 68)
    have e1 : (w3.alloc (.cells #[.slice none 0 0, .slice none 0 0] 68)).heap.size = w3.heap.size + 1 := by simp
    have hgv := heap_alloc_new (w3.alloc (.cells #[.slice none 0 0, .slice none 0 0] 68)) (.cells #[.pointer (some ⟨w3.heap.size, 0, none⟩)] 59)
    rw [e1] at hgv
    have hbf := below_alloc (Below.refl w3.heap.size w3) (.cells #[.slice none 0 0, .slice none 0 0] 68)
    generalize w3.alloc (.cells #[.slice none 0 0, .slice none 0 0] 68) = wa at *
    have e2 : (wa.alloc (.cells #[.pointer (some ⟨w3.heap.size, 0, none⟩)] 59)).heap.size = w3.heap.size + 1 + 1 := by simp [e1]
    replace hgf := (Below.heap_alloc wa (.cells #[.pointer (some ⟨w3.heap.size, 0, none⟩)] 59) w3.heap.size (by omega)).trans hgf
    replace hbf := below_alloc hbf (.cells #[.pointer (some ⟨w3.heap.size, 0, none⟩)] 59)
    generalize wa.alloc (.cells #[.pointer (some ⟨w3.heap.size, 0, none⟩)] 59) = wb at *
    have hbm := IMap.made wb
    have e3 : (wb.alloc (.map #[] 0)).heap.size = w3.heap.size + 1 + 1 + 1 := by simp [e2]
    replace hgf := (Below.heap_alloc wb (.map #[] 0) w3.heap.size (by omega)).trans hgf
    replace hgv := (Below.heap_alloc wb (.map #[] 0) (w3.heap.size + 1) (by omega)).trans hgv
    replace hbf := below_alloc hbf (.map #[] 0)
    rw [e2] at hbm
    generalize wb.alloc (.map #[] 0) = wc at *
    have hgn := heap_alloc_new wc (.cells #[.map (some (w3.heap.size + 1 + 1))] 129)
    rw [e3] at hgn
    replace hgf := (Below.heap_alloc wc (.cells #[.map (some (w3.heap.size + 1 + 1))] 129) w3.heap.size (by omega)).trans hgf
    replace hgv := (Below.heap_alloc wc (.cells #[.map (some (w3.heap.size + 1 + 1))] 129) (w3.heap.size + 1) (by omega)).trans hgv
    replace hbm := hbm.move (W' := wc.alloc (.cells #[.map (some (w3.heap.size + 1 + 1))] 129)) (Below.heap_alloc wc _ _ (by omega))
    replace hbf := below_alloc hbf (.cells #[.map (some (w3.heap.size + 1 + 1))] 129)
    generalize wc.alloc (.cells #[.map (some (w3.heap.size + 1 + 1))] 129) = wz at *
    clear e1 e2 e3 wa wb wc
    have hs3 : w.heap.size ≤ w3.heap.size := Nat.le_trans HB2.out.size HB3.out.size
    have hgc3 := (hbf.block gc (Nat.lt_of_lt_of_le (Array.getElem?_eq_some_iff.1 HGC2.out).1 HB3.out.size)).trans ((HB3.out.block gc (Array.getElem?_eq_some_iff.1 HGC2.out).1).trans HGC2.out)
    have hgw3 := (hbf.block gw (Nat.lt_of_lt_of_le (Array.getElem?_eq_some_iff.1 HGW2.out).1 HB3.out.size)).trans ((HB3.out.block gw (Array.getElem?_eq_some_iff.1 HGW2.out).1).trans HGW2.out)
    have hgcl : gc < w3.heap.size := Nat.lt_of_lt_of_le (Array.getElem?_eq_some_iff.1 HGC2.out).1 HB3.out.size
    have hgwl : gw < w3.heap.size := Nat.lt_of_lt_of_le (Array.getElem?_eq_some_iff.1 HGW2.out).1 HB3.out.size
    have hgcw : gc ≠ gw := by
      rintro rfl
      have z := HGC2.out
      rw [HGW2.out] at z
      injection z with z
      injection z with _ z
      cases z
    have HBz := Aside0.mk (below_step (below_step HB2.out HB3.out) hbf)
    generalize w3.heap.size = gf at *
    have hgwE := HGE.out
    clear HB2 HB3 hbf HGC2 HGW2 HR2 HP hc2 w2 HGC w1
    have hG : GridIn w (some ad) rows rows.length row.length := ⟨HR.out, rfl, fun r hr => by
      have := HA.out
      rw [List.any_eq_false] at this
      have := this r hr
      simpa using this, by omega, by omega, by have : rows.length * row.length ≤ 6 * 6 := Nat.mul_le_mul h6 wd6; omega, HV.out⟩
    have hI0 : SInv w (gf + 1 + 1 + 1) gc (gf + 1) gf (gf + 1 + 1) (some ad) cap rows row.length (.slice none 0 0) 0 (fun k => k < w.heap.size ∨ k = gf + 1 + 1 + 1 ∨ k = gc ∨ k = gf + 1 ∨ k = gf ∨ k = gf + 1 + 1 ∨ some k = (Value.slice none 0 0).ownBlock) wz :=
      ⟨fun k hk => HBz.out.block k hk, HBz.out.size, hgn, hgc3, hgv, hgf, hbm, Kd.R_nil _ _ _ _ _, ⟨by omega, HGCE.out, by omega, hs3, by omega⟩, fun k => Iff.rfl⟩
    have HG := Aside0.mk hG
    have HI0 := Aside0.mk hI0
    have HGW := Aside0.mk hgw3
    have x1 : wz.drew.cell? ⟨gf + 1, 0, none⟩ = some (.pointer (some ⟨gf, 0, none⟩)) := (blk_cell (w := wz.drew) hgv 0).trans rfl
    have x2 : wz.drew.cell? ⟨gc, 0, none⟩ = some (.slice (some ad) rows.length cap) := (blk_cell (w := wz.drew) hgc3 0).trans rfl
    have x3 : wz.drew.cell? ⟨gw, 0, none⟩ = some (.int .i64 (row.length : Int)) := (blk_cell (w := wz.drew) hgw3 0).trans rfl
    clear hG hI0 hgf hgv hbm hgn hgc3 hgw3
    refine start_ (n := 9) (S := fun w' => w'.cell? ⟨gf + 1, 0, none⟩ = some (.pointer (some ⟨gf, 0, none⟩)) ∧ w'.cell? ⟨gc, 0, none⟩ = some (.slice (some ad) rows.length cap) ∧ w'.cell? ⟨gw, 0, none⟩ = some (.int .i64 (row.length : Int))) (ds := [8]) #[false, false, false, false, false, false, false, false, false] (by kernel_rfl) rfl rfl (⟨x1, x2, x3⟩) (fun hHeld => ?_)
    refine take_ (i := 0) (N := some 42) (v := ?_) (a' := ?_) #[true, false, false, false, false, false, false, false, false] rfl rfl (by kernel_rfl) (fun _ _ _ h => h) (Or.inl ⟨by rfl, ?_⟩) hHeld ?_ ?_
    rotate_left
    · rintro w' ⟨s0, s1, s2⟩
      go_simp
      with_reducible rfl
    rotate_left
    · simp only [Act.put, List.setIfInBounds_toArray, List.set_cons_zero, List.set_cons_succ, i64_w, i32_w]
      rfl
    refine take_ (i := 1) (N := some 43) (v := ?_) (a' := ?_) #[true, true, false, false, false, false, false, false, false] rfl rfl (by kernel_rfl) (fun _ _ _ h => h) (Or.inl ⟨by rfl, ?_⟩) hHeld ?_ ?_
    rotate_left
    · rintro w' ⟨s0, s1, s2⟩
      go_simp
      with_reducible rfl
    rotate_left
    · simp only [Act.put, List.setIfInBounds_toArray, List.set_cons_zero, List.set_cons_succ, i64_w, i32_w]
      rfl
    refine pure_ (i := 2) (N := some 44) (v := ?_) (a' := ?_) #[true, true, true, false, false, false, false, false, false] rfl rfl (by kernel_rfl) (fun _ _ _ h => h) (Or.inl ⟨by rfl, ?_⟩) ?_ ?_
    rotate_left
    · intro w'
      go_simp
      with_reducible rfl
    rotate_left
    · simp only [Act.put, List.setIfInBounds_toArray, List.set_cons_zero, List.set_cons_succ, i64_w, i32_w]
      rfl
    refine take_ (i := 3) (N := some 45) (v := ?_) (a' := ?_) #[true, true, true, true, false, false, false, false, false] rfl rfl (by kernel_rfl) (fun _ _ _ h => h) (Or.inl ⟨by rfl, ?_⟩) hHeld ?_ ?_
    rotate_left
    · rintro w' ⟨s0, s1, s2⟩
      go_simp
      with_reducible rfl
    rotate_left
    · simp only [Act.put, List.setIfInBounds_toArray, List.set_cons_zero, List.set_cons_succ, i64_w, i32_w]
      rfl
    refine pure_ (i := 4) (N := some 46) (v := ?_) (a' := ?_) #[true, true, true, true, true, false, false, false, false] rfl rfl (by kernel_rfl) (fun _ _ _ h => h) (Or.inl ⟨by rfl, ?_⟩) ?_ ?_
    rotate_left
    · intro w'
      go_simp
      with_reducible rfl
    rotate_left
    · simp only [Act.put, List.setIfInBounds_toArray, List.set_cons_zero, List.set_cons_succ, i64_w, i32_w]
      rfl
    refine one_ (i := 5) (N := some 47) #[true, true, true, true, true, true, false, false, false] rfl rfl (by kernel_rfl) (by decide) (fun K hK => ?_)
    refine goes_ Try.func68 (by kernel_rfl) rfl #[.int .i64 (rows.length : Int), .int .i64 (row.length : Int), .func (.func 140) #[] #[.pointer (some ⟨gf + 1 + 1 + 1, 0, none⟩), .pointer (some ⟨gc, 0, none⟩), .pointer (some ⟨gf + 1, 0, none⟩)]] (by rfl) rfl rfl (by (try simp only [List.map_toArray, List.map_cons, List.map_nil]); first | done | rfl) ?_
    refine (blank_calls 140 Try.f140 Try.func140 (by kernel_rfl) rfl _ rows.length row.length _ _ (settled2_cell w (gf + 1 + 1 + 1) gc (gf + 1) gf (gf + 1 + 1) (some ad) cap rows rows.length row.length HG.out) (fun k => k < w.heap.size ∨ k = gf + 1 + 1 + 1 ∨ k = gc ∨ k = gf + 1 ∨ k = gf ∨ k = gf + 1 + 1 ∨ some k = (Value.slice none 0 0).ownBlock) wz.drew ⟨_, HI0.out.move (Nat.le_refl _) (fun _ _ => rfl)⟩ (by omega) (by omega)).mono ?_
    rintro e w5 ⟨g0, bs, F5, rfl, hM, hfar, ⟨v5, hI5⟩, hF5, hO5⟩
    refine ⟨_, rfl, ?_⟩
    have hgwF : ¬ (gw < w.heap.size ∨ gw = gf + 1 + 1 + 1 ∨ gw = gc ∨ gw = gf + 1 ∨ gw = gf ∨ gw = gf + 1 + 1 ∨ some gw = (Value.slice none 0 0).ownBlock) := by
      have : (Value.slice none 0 0).ownBlock = none := rfl
      rw [this]
      simp only [reduceCtorEq, or_false]
      omega
    have hgw5 : w5.heap[gw]? = some (.cells #[.int .i64 (row.length : Int)] 3 (0, 0)) := (hO5.block gw (Array.getElem?_eq_some_iff.1 HGW.out).1 hgwF).trans HGW.out
    refine hK.out _ _ ⟨(blk_cell hI5.flo 0).trans rfl, (blk_cell hI5.cel 0).trans rfl, (blk_cell hgw5 0).trans rfl⟩ (fun hHeld => ?_)
    clear hK K hgwF hgw5
    refine norm_ (a' := ?_) ?_ ?_
    rotate_left
    · show Act.put _ (some 47) _ = _
      simp only [Act.put, List.setIfInBounds_toArray, List.set_cons_zero, List.set_cons_succ, i64_w, i32_w]
      rfl
    refine pure_ (i := 6) (N := some 48) (v := ?_) (a' := ?_) #[true, true, true, true, true, true, true, false, false] rfl rfl (by kernel_rfl) (fun _ _ _ h => h) (Or.inl ⟨by rfl, ?_⟩) ?_ ?_
    rotate_left
    · intro w'
      go_simp
      with_reducible rfl
    rotate_left
    · simp only [Act.put, List.setIfInBounds_toArray, List.set_cons_zero, List.set_cons_succ, i64_w, i32_w]
      rfl
    refine pure_ (i := 7) (N := some 49) (v := ?_) (a' := ?_) #[true, true, true, true, true, true, true, true, false] rfl rfl (by kernel_rfl) (fun _ _ _ h => h) (Or.inl ⟨by rfl, ?_⟩) ?_ ?_
    rotate_left
    · intro w'
      go_simp
      with_reducible rfl
    rotate_left
    · simp only [Act.put, List.setIfInBounds_toArray, List.set_cons_zero, List.set_cons_succ, i64_w, i32_w]
      rfl
    obtain ⟨A5, c5, ev5⟩ := Kd.R_slice hI5.row
    subst ev5
    have hq1 : w5.cell? ⟨gf, 0, none⟩ = some (.slice none 0 0) := (blk_cell hI5.str 0).trans rfl
    have hq2 : w5.frozen? ⟨gf, 0, none⟩ = false := blk_frozen hI5.str 0
    refine last_ (i := 8) (N := none) #[true, true, true, true, true, true, true, true, true] rfl rfl (by kernel_rfl) (by decide) (fun K hK => ?_)
    refine skip_step (by rfl) rfl (w1 := w5.setCell ⟨gf, 0, none⟩ (.slice (some ⟨g0, 0, none⟩) rows.length rows.length)) (by first | (go_simp; done) | (go_simp; rfl)) ?_
    refine hK.out _ _ ?_
    clear hK K hHeld hq1 hq2
    obtain ⟨B1, B2, B3, B4, B5⟩ := hI5.base
    have hFgf : F5 gf := (hI5.foot gf).2 (by simp)
    have hmat : ∀ k, k ∈ g0 :: bs → k ≠ gf := fun k hk e => (hfar k hk).2 (e ▸ hFgf)
    have hM6 := hM.move (W1 := w5.setCell ⟨gf, 0, none⟩ (.slice (some ⟨g0, 0, none⟩) rows.length rows.length)) (fun k hk => Below.heap_setCell _ _ _ _ (hmat k hk))
    have hR6 := R_setF hI5.row hI5.str (by decide) 0 (.slice (some ⟨g0, 0, none⟩) rows.length rows.length)
    have hstr6 : (w5.setCell ⟨gf, 0, none⟩ (.slice (some ⟨g0, 0, none⟩) rows.length rows.length)).heap[gf]? = some (.cells #[.slice (some ⟨g0, 0, none⟩) rows.length rows.length, .slice A5 (stAt rows row.length (rows.length * row.length)).2.length c5] 68 (0, 0)) := by
      simp only [World.setCell, Array.getElem?_modify, if_true]
      rw [hI5.str]
      simp
    have hflo6 : (w5.setCell ⟨gf, 0, none⟩ (.slice (some ⟨g0, 0, none⟩) rows.length rows.length)).heap[gf + 1]? = some (.cells #[.pointer (some ⟨gf, 0, none⟩)] 59 (0, 0)) := (Below.heap_setCell _ _ _ _ (show gf + 1 ≠ gf by omega)).trans hI5.flo
    have hB6 : Below w.heap.size w (w5.setCell ⟨gf, 0, none⟩ (.slice (some ⟨g0, 0, none⟩) rows.length rows.length)) := by
      refine below_set ⟨hO5.os.trans HBz.out.os, hO5.tape.trans HBz.out.tape, hO5.output.trans HBz.out.output, hI5.size, hI5.old⟩ ?_
      omega
    have hlenG := gridOf_length rows.length row.length (numAt rows row.length)
    have hcells : gridOf rows.length row.length (numAt rows row.length) = cellsOf rows := by unfold cellsOf; rw [HW.out]
    have hrooms : (stAt rows row.length (rows.length * row.length)).2 = roomsOf rows := by unfold roomsOf; rw [HW.out]
    rw [hcells] at hM6 hlenG
    rw [hrooms] at hR6 hstr6
    have hinv := stAt_inv rows rows.length row.length (rows.length * row.length) (Nat.le_refl _)
    rw [hrooms] at hinv
    have hbd := hinv.2.2.2
    have hcl : (Kd.slice 3 (Kd.int .i64)).C _ _ _ _ := hM6.reads (by rw [hlenG]; omega) (fun r hr => by
      unfold cellsOf gridOf at hr
      simp at hr
      obtain ⟨a, _, rfl⟩ := hr
      simp
      rw [HW.out]
      omega)
    generalize w5.setCell ⟨gf, 0, none⟩ (.slice (some ⟨g0, 0, none⟩) rows.length rows.length) = w6 at *
    have hfl : FloorAt w6 gf (cellsOf rows) (roomsOf rows) := ⟨some ⟨g0, 0, none⟩, rows.length, A5, c5, by rw [hlenG]; exact hstr6, by rw [hlenG]; exact hstr6, hcl, by
      obtain ⟨A', c', e', hl', hC'⟩ := Kd.R_reads hR6
      injection e' with e1 e2 e3
      subst e1
      exact hC'⟩
    have hrl : (roomsOf rows).length ≤ c5 := by
      obtain ⟨A', c', e', hl', hC'⟩ := Kd.R_reads hR6
      injection e' with e1 e2 e3
      subst e3
      exact hl'
    have HFl := Aside0.mk hfl
    have HR6 := Aside0.mk hR6
    have HB6 := Aside0.mk hB6
    have HBd := Aside0.mk hbd
    have HStr := Aside0.mk hstr6
    have HFlo := Aside0.mk hflo6
    have HGF := Aside0.mk (show w.heap.size ≤ gf from B4)
    clear hgwE HGE hI5 hO5 hM hM6 hR6 hF5 hfar hmat hFgf B1 B2 B3 B4 B5 hB6 hlenG hcells hrooms hinv hbd hcl hfl hstr6 hflo6 HI0 HGW HBz x1 x2 x3 hs3 hgcl hgwl hgcw HG HGCE
    generalize hRM : roomsOf rows = rms at *
    generalize hCM : cellsOf rows = cms at *
    have HRM := Aside0.mk hRM
    have HCM := Aside0.mk hCM
    clear hRM hCM
    have y1 : w6.cell? ⟨gf + 1, 0, none⟩ = some (.pointer (some ⟨gf, 0, none⟩)) := (blk_cell HFlo.out 0).trans rfl
    have y2 : w6.cell? ⟨gf, 1, none⟩ = some (.slice A5 rms.length c5) := (blk_cell HStr.out 1).trans rfl
    refine done_ (by kernel_rfl) ?_
    by_cases h9 : 9 < rms.length
    · have hnone : res = none := by
        rw [← HRes.out]
        unfold settledF
        split
        · rw [HRM.out, if_neg (by omega)]
        · rfl
      subst hnone
      have d9 : decide ((9 : Int) < (rms.length : Int)) = true := decide_eq_true (by omega)
      go_wp2
      go_ret2
      exact ⟨HB6.out, rfl⟩
    · have d9 : decide ((9 : Int) < (rms.length : Int)) = false := decide_eq_false (by omega)
      go_wp2
      have r1 : (rms.length : Int) ≤ 9 := by omega
      go_loopg [7, 61] rms.length (fun kq v7 v61 w' => ∃ i : Nat, v7 = .int .i64 (sumArea (rms.take i)) ∧ v61 = .int .i64 (i : Int) ∧ Aside0 (i + kq = rms.length) ∧ Aside0 (Below w6.heap.size w6 w'))
      case atStart => exact ⟨0, by simp [sumArea], rfl, ⟨by omega⟩, ⟨Below.refl _ _⟩⟩
      case round =>
        obtain ⟨i, rfl, rfl, HK, HB⟩ := hrel
        have hsb := sum_bound rms HBd.out h6 wd6 i (by have := HK.out; omega)
        by_cases hi : i < rms.length
        · obtain ⟨gr, cp, ev, hgr, hlt, cells, hcells⟩ := Kd.R_form HR6.out (by omega)
          injection ev with ea en ec
          subst ea
          clear en ec hcells hlt hgr
          obtain ⟨z0, z1, z2, z3⟩ := rc_cells HR6.out i hi
          replace z0 := pw_cell_below HB.out z0
          replace z1 := pw_cell_below HB.out z1
          replace z2 := pw_cell_below HB.out z2
          replace z3 := pw_cell_below HB.out z3
          have hmem : rms.getD i zeroR ∈ rms := by rw [List.getD_eq_getElem?_getD, List.getElem?_eq_getElem hi]; exact List.getElem_mem _
          have hab := area_bound (HBd.out _ hmem) h6 wd6
          have HS := Aside0.mk (sum_take rms i hi)
          have hlt : (i : Int) < (rms.length : Int) := by omega
          have hi0 : (0 : Int) ≤ i := by omega
          clear hmem
          generalize rms.getD i zeroR = a at *
          have harea : impl_rect_area.f a.f0 a.f1 a.f2 a.f3 = some (areaR a) := by
            unfold impl_rect_area.f areaR
            have : wrap64 (a.f2 * a.f3) = a.f2 * a.f3 := by
              have h3 := hab
              unfold areaR at h3
              unfold wrap64
              omega
            rw [this]
          have HAr := Aside0.mk harea
          clear harea
          generalize har : areaR a = ar at *
          have HARR := Aside0.mk har
          clear har
          generalize hsm : sumArea (rms.take i) = sm at *
          clear hsm
          go_wp2_with (first | (go_at_call 142; refine (impl_rect_area.calls a.f0 a.f1 a.f2 a.f3 ar _ HAr.out).mono ?_; rintro e w8 ⟨rfl, hb8⟩; have HB8 := Aside0.mk (below_step (below_alloc HB.out _) hb8); clear hb8))
          go_roundg (rms.length - (i + 1))
          case measure => have := HK.out; omega
          case rel => exact ⟨i + 1, by rw [HS.out], by first | rfl | (congr 1; omega), ⟨by have := HK.out; omega⟩, HB8⟩
        · have hge : ¬ (i : Int) < (rms.length : Int) := by omega
          obtain rfl : i = rms.length := by have := HK.out; omega
          have HB8 := Aside0.mk (below_step HB6.out HB.out)
          have hh : impl_floor_high.f cms rms = some (rows.length : Int) := by
            unfold impl_floor_high.f
            rw [← HCM.out, cellsOf_length]
          have hw : impl_floor_wide.f cms rms = some (row.length : Int) := by
            unfold impl_floor_wide.f
            rw [← HCM.out, cellsOf_length, cellsOf_wide rows h1, HW.out, if_pos (by omega)]
          have HH := Aside0.mk hh
          have HWd := Aside0.mk hw
          have HX := Aside0.mk (pw_cell_below HB.out y1)
          have HFl8 := Aside0.mk (HFl.out.below HB.out)
          rw [List.take_length]
          have hsum0 := sum_bound rms HBd.out h6 wd6 rms.length (Nat.le_refl _)
          rw [List.take_length] at hsum0
          have hmul : 0 ≤ (rows.length : Int) * (row.length : Int) ∧ (rows.length : Int) * (row.length : Int) ≤ 36 := by
            refine ⟨Int.mul_nonneg (by omega) (by omega), ?_⟩
            have := Int.mul_le_mul (show (rows.length : Int) ≤ 6 by omega) (show (row.length : Int) ≤ 6 by omega) (by omega) (by omega)
            omega
          have hwr : wrap64 ((rows.length : Int) * (row.length : Int)) = (rows.length : Int) * (row.length : Int) := by
            obtain ⟨q1, q2⟩ := hmul
            generalize (rows.length : Int) * (row.length : Int) = z at *
            unfold wrap64
            omega
          have hres : res = some (cms, rms, decide (sumArea rms = (rows.length : Int) * (row.length : Int))) := by
            rw [← HRes.out]
            unfold settledF
            rw [HRM.out, HCM.out, HW.out, if_pos, if_pos (by omega)]
            unfold shapeOk
            rw [HW.out, HA.out]
            simp [h1, h6, wd1, wd6]
          subst hres
          go_wp2
          refine start_ (n := 10) (S := fun w' => w'.cell? ⟨gf + 1, 0, none⟩ = some (.pointer (some ⟨gf, 0, none⟩)) ∧ FloorAt w' gf cms rms ∧ Below w.heap.size w w') (ds := []) #[false, false, false, false, false, false, false, false, false, false] (by kernel_rfl) rfl rfl (⟨HX.out, HFl8.out, ⟨HB8.out.os, HB8.out.tape, HB8.out.output, HB8.out.size, HB8.out.block⟩⟩) (fun hHeld => ?_)
          refine take_ (i := 0) (N := some 70) (v := ?_) (a' := ?_) #[true, false, false, false, false, false, false, false, false, false] rfl rfl (by kernel_rfl) (fun _ _ _ h => h) (Or.inl ⟨by rfl, ?_⟩) hHeld ?_ ?_
          rotate_left
          · rintro w' ⟨s0, s1, s2⟩
            go_simp
            with_reducible rfl
          rotate_left
          · simp only [Act.put, List.setIfInBounds_toArray, List.set_cons_zero, List.set_cons_succ, i64_w, i32_w]
            rfl
          refine pure_ (i := 1) (N := some 71) (v := ?_) (a' := ?_) #[true, true, false, false, false, false, false, false, false, false] rfl rfl (by kernel_rfl) (fun _ _ _ h => h) (Or.inl ⟨by rfl, ?_⟩) ?_ ?_
          rotate_left
          · intro w'
            go_simp
            with_reducible rfl
          rotate_left
          · simp only [Act.put, List.setIfInBounds_toArray, List.set_cons_zero, List.set_cons_succ, i64_w, i32_w]
            rfl
          refine take_ (i := 2) (N := some 72) (v := ?_) (a' := ?_) #[true, true, true, false, false, false, false, false, false, false] rfl rfl (by kernel_rfl) (fun _ _ _ h => h) (Or.inl ⟨by rfl, ?_⟩) hHeld ?_ ?_
          rotate_left
          · rintro w' ⟨s0, s1, s2⟩
            go_simp
            with_reducible rfl
          rotate_left
          · simp only [Act.put, List.setIfInBounds_toArray, List.set_cons_zero, List.set_cons_succ, i64_w, i32_w]
            rfl
          refine take_ (i := 4) (N := some 74) (v := ?_) (a' := ?_) #[true, true, true, false, true, false, false, false, false, false] rfl rfl (by kernel_rfl) (fun _ _ _ h => h) (Or.inl ⟨by rfl, ?_⟩) hHeld ?_ ?_
          rotate_left
          · rintro w' ⟨s0, s1, s2⟩
            go_simp
            with_reducible rfl
          rotate_left
          · simp only [Act.put, List.setIfInBounds_toArray, List.set_cons_zero, List.set_cons_succ, i64_w, i32_w]
            rfl
          refine one_ (i := 3) (N := some 73) #[true, true, true, true, true, false, false, false, false, false] rfl rfl (by kernel_rfl) (by decide) (fun K hK => ?_)
          refine goes_ Try.func69 (by kernel_rfl) rfl #[.pointer (some ⟨gf, 0, none⟩)] (by rfl) rfl rfl (by (try simp only [List.map_toArray, List.map_cons, List.map_nil]); first | done | rfl) ?_
          refine (impl_floor_high.calls gf cms rms _ wr.drew wr.drew HFl8.out (Below.refl _ _) HH.out).mono ?_
          rintro e w8 ⟨rfl, -, hb8, -⟩
          refine ⟨_, rfl, ?_⟩
          have HB9 := Aside0.mk (below_step (show Below w.heap.size w wr.drew from ⟨HB8.out.os, HB8.out.tape, HB8.out.output, HB8.out.size, HB8.out.block⟩) hb8)
          have HX9 := Aside0.mk (pw_cell_below hb8 (show wr.drew.cell? ⟨gf + 1, 0, none⟩ = _ from HX.out))
          have HFl9 := Aside0.mk (FloorAt.below (w := wr.drew) HFl8.out hb8)
          refine hK.out _ _ ⟨HX9.out, HFl9.out, HB9.out⟩ (fun hHeld => ?_)
          clear hK K
          refine norm_ (a' := ?_) ?_ ?_
          rotate_left
          · show Act.put _ (some 73) _ = _
            simp only [Act.put, List.setIfInBounds_toArray, List.set_cons_zero, List.set_cons_succ, i64_w, i32_w]
            rfl
          refine one_ (i := 5) (N := some 75) #[true, true, true, true, true, true, false, false, false, false] rfl rfl (by kernel_rfl) (by decide) (fun K hK => ?_)
          refine goes_ Try.func70 (by kernel_rfl) rfl #[.pointer (some ⟨gf, 0, none⟩)] (by rfl) rfl rfl (by (try simp only [List.map_toArray, List.map_cons, List.map_nil]); first | done | rfl) ?_
          refine (impl_floor_wide.calls gf cms rms _ w8 w8 HFl9.out (Below.refl _ _) HWd.out).mono ?_
          rintro e w10 ⟨rfl, -, hb10, -⟩
          refine ⟨_, rfl, ?_⟩
          have HB11 := Aside0.mk (below_step HB9.out hb10)
          have HX11 := Aside0.mk (pw_cell_below hb10 HX9.out)
          have HFl11 := Aside0.mk (HFl9.out.below hb10)
          refine hK.out _ _ ⟨HX11.out, HFl11.out, HB11.out⟩ (fun hHeld => ?_)
          clear hK K
          refine norm_ (a' := ?_) ?_ ?_
          rotate_left
          · show Act.put _ (some 75) _ = _
            simp only [Act.put, List.setIfInBounds_toArray, List.set_cons_zero, List.set_cons_succ, i64_w, i32_w]
            rfl
          refine pure_ (i := 6) (N := some 76) (v := ?_) (a' := ?_) #[true, true, true, true, true, true, true, false, false, false] rfl rfl (by kernel_rfl) (fun _ _ _ h => h) (Or.inl ⟨by rfl, ?_⟩) ?_ ?_
          rotate_left
          · intro w'
            go_simp
            with_reducible rfl
          rotate_left
          · simp only [Act.put, List.setIfInBounds_toArray, List.set_cons_zero, List.set_cons_succ, i64_w, i32_w]
            rfl
          refine pure_ (i := 7) (N := some 77) (v := ?_) (a' := ?_) #[true, true, true, true, true, true, true, true, false, false] rfl rfl (by kernel_rfl) (fun _ _ _ h => h) (Or.inl ⟨by rfl, ?_⟩) ?_ ?_
          rotate_left
          · intro w'
            go_simp
            with_reducible rfl
          rotate_left
          · simp only [Act.put, List.setIfInBounds_toArray, List.set_cons_zero, List.set_cons_succ, i64_w, i32_w]
            rfl
          refine pure_ (i := 8) (N := some 2) (v := ?_) (a' := ?_) #[true, true, true, true, true, true, true, true, true, false] rfl rfl (by kernel_rfl) (fun _ _ _ h => h) (Or.inl ⟨by rfl, ?_⟩) ?_ ?_
          rotate_left
          · intro w'
            go_simp
            with_reducible rfl
          rotate_left
          · simp only [Act.put, List.setIfInBounds_toArray, List.set_cons_zero, List.set_cons_succ, i64_w, i32_w]
            rfl
          refine pure_ (i := 9) (N := some 3) (v := ?_) (a' := ?_) #[true, true, true, true, true, true, true, true, true, true] rfl rfl (by kernel_rfl) (fun _ _ _ h => h) (Or.inl ⟨by rfl, ?_⟩) ?_ ?_
          rotate_left
          · intro w'
            go_simp
            with_reducible rfl
          rotate_left
          · simp only [Act.put, List.setIfInBounds_toArray, List.set_cons_zero, List.set_cons_succ, i64_w, i32_w]
            rfl
          refine done_ (by kernel_rfl) ?_
          go_wp2
          go_ret2
          refine ⟨HB11.out, gf, ?_, HFl11.out⟩
          refine congrArg (fun z => Ending.returned (Value.tuple #[Value.pointer (some ⟨gf, 0, none⟩), z])) ?_
          show Value.bool _ = Value.bool _
          refine congrArg Value.bool ?_
          rw [← hwr]
          first | rfl | (unfold wrap64; rfl)
  · have hnone : res = none := by
      rw [← HRes.out]
      unfold settledF
      rw [if_neg]
      unfold shapeOk
      rw [HW.out, HA.out]
      simp
    subst hnone
    go_wp2_with (first | (go_at_call 109; refine (contains_calls 139 Try.f139 Try.func139 (by kernel_rfl) rfl #[.pointer (some ⟨gw, 0, none⟩)] (fun r => r.length != row.length) (some ad) cap rows w2 HR2.out HP.out).mono ?_; rintro e w3 ⟨rfl, hb3⟩; rw [HA.out]; have HB3 := Aside0.mk hb3; clear hb3))
    go_ret2
    exact ⟨below_step HB2.out HB3.out, rfl⟩
theorem settled_calls (A : Option Addr) (cap : Nat) (rows : List (List Int)) (w : World) (hr : (Kd.slice 3 (Kd.int .i64)).C w A rows.length rows) (hv : ∀ r ∈ rows, ∀ x ∈ r, 0 ≤ x ∧ x ≤ 1048576) :
    Calls Try.prog 120 #[.slice A rows.length cap] w (FloorRes w (settledF rows)) := by
  by_cases hbad : rows.length < 1 ∨ 6 < rows.length ∨ (1 ≤ rows.length ∧ wideOf rows < 1) ∨ (1 ≤ rows.length ∧ 6 < wideOf rows)
  · have hn : settledF rows = none := by
      unfold settledF
      rw [if_neg]
      unfold shapeOk
      simp only [Bool.and_eq_true, decide_eq_true_eq]
      omega
    rw [hn]
    exact settled_bad A cap rows w hr hbad
  · exact settled_good A cap rows w hr hv (by omega) (by omega) (by omega) (by omega)
end Go.Proofs.Ytaepgogafkmooaa.Hd
namespace Go.Proofs.Ytaepgogafkmooaa.Hd
open Go.RowKit Go.Shelf Go.Proofs.YtaepgogafkmooaaW.PrintWords Go.Proofs.Ytaepgogafkmooaa.PB
def renB : Go.Shelf.Ren := ⟨fun | 167 => 137 | 240 => 149 | 276 => 151 | 169 => 138 | n => n, fun | 0 => 0 | 3 => 3 | 4 => 4 | 5 => 5 | 9 => 9 | 20 => 20 | 37 => 22 | 70 => 122 | 72 => 124 | 75 => 126 | 80 => 128 | 127 => 137 | 164 => 139 | n => n, fun n => n⟩
theorem lays167 : Lays.n167 Try.prog renB := { mixed := by kernel_rfl, f167 := Try.func137.trans (congrArg some (by kernel_rfl)), f240 := Try.func149.trans (congrArg some (by kernel_rfl)), f276 := Try.func151.trans (congrArg some (by kernel_rfl)), t0 := Try.underlying0, a0 := Try.isAgg0, z0 := Try.sizeOf0, v0 := Try.zeroValue0, t4 := Try.underlying4, a4 := Try.isAgg4, z4 := Try.sizeOf4, v4 := Try.zeroValue4, t5 := Try.underlying5, a5 := Try.isAgg5, z5 := Try.sizeOf5, v5 := Try.zeroValue5, t9 := Try.underlying9, a9 := Try.isAgg9, z9 := Try.sizeOf9, v9 := Try.zeroValue9, t20 := Try.underlying20, a20 := Try.isAgg20, z20 := Try.sizeOf20, v20 := Try.zeroValue20, t37 := Try.underlying22, a37 := Try.isAgg22, z37 := Try.sizeOf22, v37 := Try.zeroValue22, t70 := Try.underlying122, a70 := Try.isAgg122, z70 := Try.sizeOf122, v70 := Try.zeroValue122, t72 := Try.underlying124, a72 := Try.isAgg124, z72 := Try.sizeOf124, v72 := Try.zeroValue124, t75 := Try.underlying126, a75 := Try.isAgg126, z75 := Try.sizeOf126, v75 := Try.zeroValue126, t164 := Try.underlying139, a164 := Try.isAgg139, z164 := Try.sizeOf139, v164 := Try.zeroValue139 }
theorem lays169 : Lays.n169 Try.prog renB := { mixed := by kernel_rfl, f169 := Try.func138.trans (congrArg some (by kernel_rfl)), t0 := Try.underlying0, a0 := Try.isAgg0, z0 := Try.sizeOf0, v0 := Try.zeroValue0, t3 := Try.underlying3, a3 := Try.isAgg3, z3 := Try.sizeOf3, v3 := Try.zeroValue3, t9 := Try.underlying9, a9 := Try.isAgg9, z9 := Try.sizeOf9, v9 := Try.zeroValue9, t37 := Try.underlying22, a37 := Try.isAgg22, z37 := Try.sizeOf22, v37 := Try.zeroValue22, t70 := Try.underlying122, a70 := Try.isAgg122, z70 := Try.sizeOf122, v70 := Try.zeroValue122, t72 := Try.underlying124, a72 := Try.isAgg124, z72 := Try.sizeOf124, v72 := Try.zeroValue124, t127 := Try.underlying137, a127 := Try.isAgg137, z127 := Try.sizeOf137, v127 := Try.zeroValue137 }
theorem extraB : Builder.Extra Try.prog renB := { sizeBuilder := by kernel_rfl, liesBuilder := by kernel_rfl, t5 := Try.underlying5, a5 := Try.isAgg5, z5 := Try.sizeOf5, v5 := Try.zeroValue5, infoByte := by kernel_rfl, cellsByte := by kernel_rfl, sizeByte := by kernel_rfl, neB5 := by decide }
def Bd (b : Nat) (l : List UInt8) (w : World) : Prop := Lib.IsBuilder 124 5 b b (Lib.byteCells l) w
theorem writeByte_calls (b : Nat) (l : List UInt8) (c : UInt8) (w : World) (h : Bd b l w) (hlen : l.length + 1 ≤ 140737488355328) (hBw : b ≤ w.heap.size) :
  Calls Try.prog 137 #[.pointer (some ⟨b, 0, none⟩), .int .u8 c.toNat] w fun e w' => e = .returned .nilIface ∧ Bd b (l ++ [c]) w' ∧ Below b w w' := by
 refine (Any.Builder_WriteByte lays167 extraB b b (Lib.byteCells l) c.toNat w h (by simpa [Lib.byteCells] using hlen) hBw).mono ?_
 rintro e w' ⟨rfl, h1, h2⟩
 refine ⟨rfl, Or.inr ?_, h2⟩
 show Lib.BuilderAt (renB.t 72) (renB.t 5) b b (.pointer (some ⟨b, 0, none⟩)) (Lib.byteCells (l ++ [c])) w'
 simpa [Lib.byteCells] using h1
theorem bString_calls (b : Nat) (l : List UInt8) (w : World) (h : Bd b l w) (hBw : b ≤ w.heap.size) :
  Calls Try.prog 138 #[.pointer (some ⟨b, 0, none⟩)] w fun e w' => e = .returned (.string ⟨l.toArray⟩) ∧ Below b w w' :=
 Any.Builder_String_any lays169 extraB b b l w h hBw
end Go.Proofs.Ytaepgogafkmooaa.Hd
namespace Go.Proofs.Ytaepgogafkmooaa.Hd
open Go.RowKit Go.Proofs.YtaepgogafkmooaaW.PrintWords Go.Proofs.YtaepgogafkmooaaW.PrintLast Go.Proofs.YtaepgogafkmooaaW.PrintMore Go.Proofs.Ytaepgogafkmooaa.PB
set_option linter.unusedVariables false
set_option linter.unusedSimpArgs false
def letterOf (k : Int) : UInt8 := UInt8.ofNat (97 + k).toNat
def rowBytes (row : List Int) : List UInt8 := row.map letterOf
def rowText (row : List Int) : ByteArray := ⟨(rowBytes row).toArray⟩
def textOf (cs : List (List Int)) : List ByteArray := cs.map rowText
def textPart (cs : List (List Int)) (i : Nat) : List ByteArray := (textOf cs).take i ++ List.replicate (cs.length - i) (⟨#[]⟩ : ByteArray)
theorem textPart_length (cs : List (List Int)) (i : Nat) (h : i ≤ cs.length) : (textPart cs i).length = cs.length := by
 simp [textPart, textOf]; omega
theorem textPart_all (cs : List (List Int)) : textPart cs cs.length = textOf cs := by
 simp [textPart, textOf, List.take_of_length_le]
theorem textPart_set (cs : List (List Int)) (i : Nat) (row : List Int) (h : cs[i]? = some row) : (textPart cs i).set i (rowText row) = textPart cs (i + 1) := by
 have hlt := (List.getElem?_eq_some_iff.1 h).1
 unfold textPart
 rw [List.set_append_right _ _ (by simp [textOf]; omega)]
 rw [show i - ((textOf cs).take i).length = 0 by simp [textOf]; omega]
 obtain ⟨m, hm⟩ : ∃ m, cs.length - i = m + 1 := ⟨cs.length - i - 1, by omega⟩
 rw [hm, List.replicate_succ, List.set_cons_zero, List.take_add_one, show cs.length - (i + 1) = m by omega]
 simp [textOf, h]
theorem letterOf_val (k : Int) (h0 : 0 ≤ k) (h1 : k ≤ 25) : ((letterOf k).toNat : Int) = 97 + k := by
 unfold letterOf
 rw [UInt8.toNat_ofNat']
 omega
theorem rowBytes_snoc (row : List Int) (i : Nat) (h : i < row.length) : rowBytes (row.take (i + 1)) = rowBytes (row.take i) ++ [letterOf (rd row i)] := by
 unfold rowBytes
 rw [List.take_add_one, List.map_append, List.getElem?_eq_getElem h]
 simp [rd, List.getD_eq_getElem?_getD, List.getElem?_eq_getElem h]
theorem C_int_cell {k : IntKind} {w : World} {A : Option Addr} {n : Nat} {l : List Int} (h : (Kd.int k).C w A n l) (i : Nat) (hi : i < n) : ∃ ad, A = some ad ∧ w.cell? (ad.add i) = some (.int k (rd l (i : Int))) := by
 obtain ⟨ad, c, e1, hc, hK, hx⟩ := Kd.C_get h (0 : Int) (i : Int) (by omega) (by omega)
 subst e1
 exact ⟨ad, rfl, by have := Kd.foot_int h (i : Int) (by omega) (by omega); simpa using this⟩
theorem Bd.new {w : World} {b : Nat} (h : w.heap[b]? = some (.cells #[.pointer none, .slice none 0 0] 124 (0, 0))) : Bd b [] w :=
 .inl ⟨Nat.le_refl _, .slice none 0 0, h, ⟨rfl, .inl ⟨rfl, rfl⟩⟩, by simp [Value.ownBlock]⟩
theorem Bd.lt {w : World} {b : Nat} {l : List UInt8} (h : Bd b l w) : b < w.heap.size := by
 rcases h with h | h
 ·exact Lib.BuilderAt.lt h
 ·exact Lib.BuilderAt.lt h
set_option maxHeartbeats 4000000 in
set_option maxRecDepth 100000 in
theorem text_calls (g : Nat) (cs : List (List Int)) (rs : List Rc) (w : World) (hI : FloorAt w g cs rs) (hl : cs.length ≤ 1048576) (hv : ∀ r ∈ cs, r.length ≤ 1048576 ∧ ∀ x ∈ r, 0 ≤ x ∧ x ≤ 25) :
  Calls Try.prog 119 #[.pointer (some ⟨g, 0, none⟩)] w fun e w' => ∃ v0_ : Value, e = .returned (v0_) ∧ Kd.R Kd.string 9 w' w.heap.size (fun _ => True) v0_ (textOf cs) ∧ Below w.heap.size w w' := by
 have HI := Aside0.mk hI
 have HV := Aside0.mk hv
 clear hv
 obtain ⟨A0, c0, A1, c1, HG, _, HS, _⟩ := hI
 have hcl := C_len HS
 have hcz := Try.underlying23
 have hc0 : w.cell? ⟨g, 0, none⟩ = some (.slice A0 cs.length c0) := (blk_cell HG 0).trans rfl
 have HSS := Aside0.mk HS
 have HGG := Aside0.mk HG
 have HH := Aside0.mk (show impl_floor_high.f cs rs = some (cs.length : Int) from rfl)
 clear HG HS hcl hcz
 have b1 : (cs.length : Int) ≤ 1048576 := by omega
 have b0 : (0 : Int) ≤ cs.length := by omega
 have i9 : (Try.prog.info? 9).map (fun i => (i.zero, i.size, i.bytes)) = some (some (.string ⟨#[]⟩), 1, 16) := by kernel_rfl
 have I9 := Aside0.mk i9
 clear i9
 go_enter Try.func119, Try.ntmps119
 go_wp2_with (first
  | (go_at_call 69; refine (impl_floor_high.calls g cs rs _ _ _ HI.out (Below.refl _ _) HH.out).mono ?_; rintro e w1 ⟨rfl, -, hb1, -⟩; have HB1 := Aside0.mk hb1; replace hc0 := pw_cell_below hb1 hc0; clear hb1)
  | ((with_reducible refine gate_dst (N := 11) rfl ?_); refine Kd.R_make Kd.string _ 9 rfl (N := 11) rfl 23 _ _ rfl (cs.length : Int) rfl rfl Try.underlying23 (.string ⟨#[]⟩) 16 I9.out rfl (by decide) (by omega) (⟨#[]⟩ : ByteArray) (ok := fun _ => True) (okp := fun _ => True) rfl (fun _ hk => hk) trivial b0 (by omega) (Below.refl _ _) (Nat.le_refl _) ?_; intro v2 w2 ho hb hg_ hnew_; clear hg_ hnew_; have HO2 := Aside0.mk (Kd.R_lower ho HB1.out.size); have HB2 := Aside0.mk (below_step HB1.out hb); replace hc0 := pw_cell_below hb hc0; clear hb ho))
 have hrep : List.replicate ((cs.length : Int)).toNat (⟨#[]⟩ : ByteArray) = textPart cs 0 := by simp [textPart]
 rw [hrep] at HO2
 clear hrep hc0
 go_loopg [17] cs.length (fun kq v17 w' => ∃ i : Nat, v17 = .int .i64 (i : Int) ∧ Aside0 (i + kq = cs.length) ∧ Aside0 (Kd.R Kd.string 9 w' w.heap.size (fun _ => True) v2 (textPart cs i)) ∧ Aside0 (Below w.heap.size w w'))
 case atStart => exact ⟨0, rfl, ⟨by omega⟩, HO2, HB2⟩
 case round =>
  clear HO2 HB2
  obtain ⟨i, rfl, HK, HO, HB⟩ := hrel
  by_cases hi : i < cs.length
  ·have hlt : (i : Int) < cs.length := by omega
   have hi0 : (0 : Int) ≤ i := by omega
   obtain ⟨row, hrow⟩ : ∃ row, cs[i]? = some row := ⟨_, List.getElem?_eq_getElem hi⟩
   have HRow := Aside0.mk hrow
   obtain ⟨ad, Ai, ci, e1, hx, hl, hrr⟩ := C_row HSS.out i row hrow
   have hvr := HV.out row (List.mem_of_getElem? hrow)
   obtain ⟨hrl, hvv⟩ := hvr
   have HVV := Aside0.mk hvv
   subst e1
   replace hx := pw_cell_below HB.out hx
   have HRR := Aside0.mk (Kd.C_below hrr HB.out)
   have hrl2 : (row.length : Int) ≤ 1048576 := by omega
   clear hrow hl hrr hvv
   obtain ⟨g3, c3, e3, b3, l3, cl3, hg3⟩ := Kd.R_form HO.out (by rw [textPart_length cs i (by omega)]; omega)
   rw [textPart_length cs i (by omega)] at e3
   subst e3
   have L3 := Aside0.mk l3
   have B3 := Aside0.mk b3
   clear hg3 l3 b3
   go_wp2_with (first
    | ((with_reducible refine gate_dst (N := 6) rfl ?_); refine box_event ?hg (N := 6) ?hd (cs := #[.pointer none, .slice none 0 0]) (t := 124) ?hr ?_; (case hd => rfl); (case hg => rfl); (case hr => first | (go_simp; done) | (go_simp; rfl)); intro b hgb w3 hbox hb; have HGB := Aside0.mk hgb; have HBd := Aside0.mk (Bd.new hbox); have HB3 := Aside0.mk hb; clear hgb hbox hb))
   have HO3 := Aside0.mk (Kd.R_below HO.out HB3.out)
   have HB3b := Aside0.mk (show Below b wr w3 from by rw [HGB.out]; exact HB3.out)
   clear hx
   go_loopg [24] row.length (fun kq v24 w' => ∃ j : Nat, v24 = .int .i64 (j : Int) ∧ Aside0 (j + kq = row.length) ∧ Aside0 (Bd b (rowBytes (row.take j)) w') ∧ Aside0 (Below b w3 w'))
   case atStart => exact ⟨0, rfl, ⟨by omega⟩, ⟨by simpa [rowBytes] using HBd.out⟩, ⟨Below.refl _ _⟩⟩
   case round =>
    clear HBd
    obtain ⟨j, rfl, HK2, HBd, HBb⟩ := hrel
    have HB9 := Aside0.mk (HB3b.out.trans HBb.out)
    by_cases hj : j < row.length
    ·have hlt2 : (j : Int) < row.length := by omega
     have hj0 : (0 : Int) ≤ j := by omega
     obtain ⟨ad2, e2, hx2⟩ := C_int_cell HRR.out j hj
     subst e2
     have hmem : rd row (j : Int) ∈ row := by
      unfold rd
      rw [Int.toNat_natCast, List.getD_eq_getElem?_getD, List.getElem?_eq_getElem hj]
      exact List.getElem_mem _
     obtain ⟨hv0, hv1⟩ := HVV.out _ hmem
     replace hx2 := pw_cell_below (show Below _ _ wr from by have := HB9.out; rw [HGB.out] at this; exact this) hx2
     have HRS := Aside0.mk (rowBytes_snoc row j hj)
     have hlet := letterOf_val (rd row (j : Int)) hv0 hv1
     generalize rd row (j : Int) = kk at *
     have HLet := Aside0.mk hlet
     clear hlet hmem
     go_wp2_with (first
      | (go_at_call 137; refine calls_of_args (args' := #[.pointer (some ⟨b, 0, none⟩), .int .u8 (letterOf kk).toNat]) (by rw [HLet.out]) ?_; refine (writeByte_calls b (rowBytes (row.take j)) (letterOf kk) _ HBd.out (by simp [rowBytes]; omega) (Nat.le_of_lt HBd.out.lt)).mono ?_; rintro e w8 ⟨rfl, hbd8, hb8⟩; have HBd8 := Aside0.mk hbd8; have HB8 := Aside0.mk (HBb.out.trans hb8); clear hb8 hbd8))
     go_roundg (row.length - (j + 1))
     case measure => have := HK2.out; omega
     case rel => exact ⟨j + 1, by first | rfl | (congr 1; omega), ⟨by have := HK2.out; omega⟩, ⟨by rw [HRS.out]; exact HBd8.out⟩, HB8⟩
    ·have hge2 : ¬ ((j : Int) < row.length) := by omega
     obtain rfl : j = row.length := by have := HK2.out; omega
     rw [List.take_length] at HBd
     go_wp2_with (first
      | (go_at_call 138; refine (bString_calls b (rowBytes row) _ HBd.out (Nat.le_of_lt HBd.out.lt)).mono ?_; rintro e w8 ⟨rfl, hb8⟩; have HB8 := Aside0.mk (HB9.out.trans hb8); rw [HGB.out] at HB8; have HO8 := Aside0.mk (Kd.R_below HO.out HB8.out); obtain ⟨hx8, hf8⟩ := Kd.R_celln (⟨#[]⟩ : ByteArray) HO8.out (i : Int) (by omega) (by omega); rw [Int.toNat_natCast] at hx8 hf8; have HP := Aside0.mk (Kd.R_putg HO8.out (i : Int) (rowText row)).1; clear hb8))
     go_roundg (cs.length - (i + 1))
     case measure => have := HK.out; omega
     case rel => exact ⟨i + 1, by first | rfl | (congr 1; omega), ⟨by have := HK.out; omega⟩, ⟨by have z := HP.out; rw [Int.toNat_natCast, textPart_set cs i row HRow.out] at z; exact z⟩, ⟨below_set (below_step HB.out HB8.out) B3.out⟩⟩
  ·have hge : ¬ ((i : Int) < cs.length) := by omega
   obtain rfl : i = cs.length := by have := HK.out; omega
   go_wp2
   go_ret
   exact ⟨_, rfl, by have := HO.out; rw [textPart_all] at this; exact this, HB.out⟩
end Go.Proofs.Ytaepgogafkmooaa.Hd
namespace Go.Proofs.Ytaepgogafkmooaa.Hd
open Go.RowKit Go.Proofs.YtaepgogafkmooaaW.PrintWords Go.Proofs.YtaepgogafkmooaaW.PrintLast Go.Proofs.YtaepgogafkmooaaW.PrintMore Go.Proofs.Ytaepgogafkmooaa.PB
set_option linter.unusedVariables false
set_option linter.unusedSimpArgs false
def okLetter (x : Int) : Bool := !(decide (x < 97) || decide (122 < x))
def okText (s : ByteArray) : Bool := (bytesOf s).all okLetter
def numsOf (p : List ByteArray) : List (List Int) := p.map bytesOf
def readF (p : List ByteArray) : Option (List (List Int) × List Rc × Bool) := if p.all okText = true then settledF (numsOf p) else none
def smallP (p : List ByteArray) : Prop := p.length ≤ 1048576 ∧ ∀ s ∈ p, s.size ≤ 1048576
theorem bytesOf_range (s : ByteArray) : ∀ x ∈ bytesOf s, 0 ≤ x ∧ x ≤ 255 := by
 intro x hx
 unfold bytesOf at hx
 simp at hx
 obtain ⟨a, _, rfl⟩ := hx
 have := UInt8.toNat_lt a
 omega
theorem take_snoc_int (l : List Int) (j : Nat) (hj : j < l.length) : l.take (j + 1) = l.take j ++ [l.getD j 0] := by
 rw [List.take_add_one, List.getElem?_eq_getElem hj]
 simp [List.getD_eq_getElem?_getD, List.getElem?_eq_getElem hj]
set_option maxHeartbeats 4000000 in
set_option maxRecDepth 100000 in
theorem read_calls (A0 : Option Addr) (c0 : Nat) (l0 : List ByteArray) (w : World) (hr0 : Kd.C Kd.string w A0 l0.length l0) (hc0 : l0.length ≤ c0) (hp : smallP l0) :
  Calls Try.prog 117 #[.slice A0 l0.length c0] w (FloorRes w (readF l0)) := by
 have HR := Aside0.mk hr0
 have HP := Aside0.mk hp
 have hlen := hp.1
 have b1 : (l0.length : Int) ≤ 1048576 := by omega
 have b0 : (0 : Int) ≤ l0.length := by omega
 clear hr0 hc0 hp
 have i53 : (Try.prog.info? 39).map (fun i => (i.zero, i.size, i.bytes)) = some (some (.slice none 0 0), 1, 24) := by kernel_rfl
 have i3 : (Try.prog.info? 3).map (fun i => (i.zero, i.size, i.bytes)) = some (some (.int .i64 0), 1, 8) := by kernel_rfl
 have I53 := Aside0.mk i53
 have I3 := Aside0.mk i3
 clear i53 i3
 go_enter Try.func117, Try.ntmps117
 go_wp2_with (first
  | ((with_reducible refine gate_dst (N := 10) rfl ?_); refine Kd.R_lit (Kd.slice 3 (Kd.int .i64)) _ 39 ?hg (N := 10) ?hd (xs := ([] : List (List Int))) (inner := []) (ok := fun _ => True) (okp := fun _ => True) ?hr ?hp (fun _ hk => hk) trivial (Below.refl _ _) (Nat.le_refl _) (by simp) ?_; (case hd => rfl); (case hg => rfl); (case hr => first | (go_simp; done) | (go_simp; rfl)); (case hp => exact (Reps.none _ _)); intro v4 w1 ho hb hg_ hnew_; clear hg_ hnew_; have HO1 := Aside0.mk ho; have HB1 := Aside0.mk hb; clear hb ho))
 go_loopg [4, 13] l0.length (fun kq v4 v13 w' => ∃ i : Nat, v13 = .int .i64 (i : Int) ∧ Aside0 (i + kq = l0.length) ∧ Aside0 ((l0.take i).all okText = true) ∧ Aside0 (Kd.R (Kd.slice 3 (Kd.int .i64)) 39 w' w.heap.size (fun _ => True) v4 (numsOf (l0.take i))) ∧ Aside0 (Below w.heap.size w w'))
 case atStart => exact ⟨0, rfl, ⟨by omega⟩, ⟨by simp⟩, ⟨by simpa [numsOf] using HO1.out⟩, HB1⟩
 case round =>
  clear HO1 HB1
  obtain ⟨i, rfl, HK, HAll, HO, HB⟩ := hrel
  by_cases hi : i < l0.length
  ·have hlt : (i : Int) < l0.length := by omega
   have hi0 : (0 : Int) ≤ i := by omega
   obtain ⟨ad, e1, hx⟩ := Kd.at_string HR.out (i : Int) hi0 hlt
   cases e1
   rw [Int.toNat_natCast] at hx
   replace hx := pw_cell_below HB.out hx
   have hsz := HP.out.2 _ (List.getElem_mem hi)
   have hel : rdOf ByteArray.empty l0 (i : Int) = l0[i] := by unfold rdOf; rw [Int.toNat_natCast, List.getD_eq_getElem?_getD, List.getElem?_eq_getElem hi]; rfl
   rw [hel] at hx
   have hgt : l0[i]? = some l0[i] := List.getElem?_eq_getElem hi
   generalize l0[i] = s at *
   have HGT := Aside0.mk hgt
   clear hel hgt
   have b2 : (s.size : Int) ≤ 1048576 := by omega
   have hbl := bytesOf_length s
   go_wp2_with (first
    | ((with_reducible refine gate_dst (N := 17) rfl ?_); refine Kd.R_lit (Kd.int .i64) _ 3 ?hg (N := 17) ?hd (xs := ([] : List Int)) (inner := []) (ok := fun _ => True) (okp := fun _ => True) ?hr ?hp (fun _ hk => hk) trivial (Below.refl _ _) (Nat.le_refl _) (by simp) ?_; (case hd => rfl); (case hg => rfl); (case hr => first | (go_simp; done) | (go_simp; rfl)); (case hp => exact (Reps.none _ _)); intro v7 w2 ho hb hg_ hnew_; clear hg_ hnew_; have n0_ := Aside0.mk (Kd.R_elder' HO.out (Kd.R_base ho) hb); have n2_ := Aside0.mk (Kd.R_lower (Kd.R_new' ho (Kd.R_lt HO.out)) (below_size HB.out)); have n3_ := Aside0.mk (below_step HB.out hb); clear HO HB; have HO := n0_; have HO7 := n2_; have HB := n3_; clear n0_ n2_ n3_; clear hb ho)
    | ((with_reducible refine gate_dst (N := 19) rfl ?_); refine conv_event (P := Try.prog) rfl (N := 19) rfl (src := 9) (dst := 22) (e := 5) (s := s) rfl rfl Try.underlying9 Try.underlying22 Try.underlying5 ?_; intro g4 c4 w4 hg4 hrow hb; have HRow := Aside0.mk hrow; have HN7 := Aside0.mk (show some g4 ≠ v7.ownBlock from Kd.fresh' (Kd.R_lt HO7.out) g4 (by rw [hg4]; exact Nat.le_refl _)); have n1_ := Aside0.mk (below_step HB.out hb); have n2_ := Aside0.mk (Kd.R_below HO.out hb); have n3_ := Aside0.mk (Kd.R_below HO7.out hb); clear HB HO HO7; have HB := n1_; have HO := n2_; have HO7 := n3_; clear n1_ n2_ n3_; clear hb hrow hg4))
   go_loopg [7, 21] s.size (fun kq v7 v21 w' => ∃ j : Nat, v21 = .int .i64 (j : Int) ∧ Aside0 (j + kq = s.size) ∧ Aside0 (((bytesOf s).take j).all okLetter = true) ∧ Aside0 (Kd.R (Kd.slice 3 (Kd.int .i64)) 39 w' w.heap.size (fun k_ => some k_ ≠ (v7 : Value).ownBlock) u4 (numsOf (l0.take i))) ∧ Aside0 (Kd.R (Kd.int .i64) 3 w' w.heap.size (fun k_ => some k_ ≠ (u4 : Value).ownBlock) v7 ((bytesOf s).take j)) ∧ Aside0 (some g4 ≠ (v7 : Value).ownBlock) ∧ Aside0 (w'.heap[g4]? = w4.heap[g4]?) ∧ Aside0 (g4 < w'.heap.size) ∧ Aside0 (Below w.heap.size w w'))
   case atStart => exact ⟨0, rfl, ⟨by omega⟩, ⟨by simp⟩, ⟨Kd.R_mono HO.out (fun _ hk => hk.2)⟩, ⟨by simpa using Kd.R_mono HO7.out (fun _ hk => hk.2)⟩, HN7, ⟨rfl⟩, ⟨HRow.out.lt⟩, HB⟩
   case round =>
    clear HO HO7 HN7 HB
    obtain ⟨j, rfl, HK2, HAll2, HO, HO7, HN7, HM, HLt, HB⟩ := hrel
    by_cases hj : j < s.size
    ·have hlt2 : (j : Int) < s.size := by omega
     have hj0 : (0 : Int) ≤ j := by omega
     have hjb : (j : Int) ≤ 1048576 := by omega
     have hx4 := ((HRow.out.move HM.out).cell j (by rw [hbl]; omega)).1
     have hrg := bytesOf_range s ((bytesOf s).getD j 0) (by rw [List.getD_eq_getElem?_getD, List.getElem?_eq_getElem (by omega)]; exact List.getElem_mem _)
     have HT := Aside0.mk (take_snoc_int (bytesOf s) j (by omega))
     have hgm : (bytesOf s).getD j 0 ∈ bytesOf s := by rw [List.getD_eq_getElem?_getD, List.getElem?_eq_getElem (by omega)]; exact List.getElem_mem _
     have HGM := Aside0.mk hgm
     generalize (bytesOf s).getD j 0 = x at *
     obtain ⟨hx0, hx255⟩ := hrg
     clear hgm
     by_cases hlo : x < 97
     ·have d1 : decide (x < 97) = true := decide_eq_true hlo
      clear hlo
      go_wp2
      go_ret2
      have hbad : readF l0 = none := by
       unfold readF
       rw [if_neg]
       intro hall
       have h1 := List.all_eq_true.1 hall s (List.mem_of_getElem? HGT.out)
       have h2 := List.all_eq_true.1 h1 x HGM.out
       simp [okLetter, d1] at h2
      rw [hbad]
      exact ⟨HB.out, rfl⟩
     ·have d1 : decide (x < 97) = false := decide_eq_false hlo
      by_cases hhi : 122 < x
      ·have d2 : decide (122 < x) = true := decide_eq_true hhi
       clear hlo hhi
       go_wp2
       go_ret2
       have hbad : readF l0 = none := by
        unfold readF
        rw [if_neg]
        intro hall
        have h1 := List.all_eq_true.1 hall s (List.mem_of_getElem? HGT.out)
        have h2 := List.all_eq_true.1 h1 x HGM.out
        simp [okLetter, d2] at h2
       rw [hbad]
       exact ⟨HB.out, rfl⟩
      ·have d2 : decide (122 < x) = false := decide_eq_false hhi
       clear hlo hhi
       have LL : ((bytesOf s).take j).length ≤ 1048576 := by simp; omega
       go_wp2_with (first
        | ((with_reducible refine gate_builtin (b := .append) (xs := #[.tmp 31, .tmp 34]) rfl ?_); at_builtin; refine Kd.R_append (Kd.int .i64) (w0 := w) w.heap.size rfl (.tmp 31) (.tmp 34) 39 3 (.int .i64 0) 8 rfl Try.underlying39 I3.out rfl (by decide) (by omega) _ ((bytesOf s).take j) x [.int .i64 x] (fun k_ => some k_ ≠ (u4 : Value).ownBlock) (fun _ => False) rfl rfl ?aP (fun _ hk => hk.elim) ?aF ?aO ?aB ?aS ?aL ?_; (case aP => exact rfl); (case aB => exact HB.out); (case aF => exact (fun k_ hk => Kd.fresh' (Kd.R_lt HO.out) k_ hk)); (case aO => exact HO7.out); (case aS => exact (below_size HB.out)); (case aL => omega); intro v7b w6 ho hb hg hat; have n0_ := Aside0.mk (Kd.R_after (ok := (fun _ => True)) (Kd.R_mono HO.out (fun _ hk => ⟨trivial, hk⟩)) hg hat); have n1_ := Aside0.mk ho; have n2_ := Aside0.mk hb; have n3_ := Aside0.mk ((hg.block g4 HLt.out HN7.out).trans HM.out); have n4_ := Aside0.mk (show g4 < w6.heap.size from (Array.getElem?_eq_some_iff.1 (n3_.out.trans HRow.out.choose_spec.2.1)).1); have n5_ := Aside0.mk (show some g4 ≠ v7b.ownBlock from by (rcases hat with he | ⟨b_, he, hle⟩ <;> rw [he]; exact HN7.out; (intro hz; injection hz with hz; have := HLt.out; omega))); clear HO HO7 HB HM HLt HN7; have HO := n0_; have HO7 := n1_; have HB := n2_; have HM := n3_; have HLt := n4_; have HN7 := n5_; clear n0_ n1_ n2_ n3_ n4_ n5_; clear ho hb hg hat))
       have hok : okLetter x = true := by simp [okLetter, d1, d2]
       go_roundg (s.size - (j + 1))
       case measure => have := HK2.out; omega
       case rel => exact ⟨j + 1, by first | rfl | (congr 1; omega), ⟨by have := HK2.out; omega⟩, ⟨by rw [HT.out, List.all_append, HAll2.out]; simp [hok]⟩, ⟨Kd.R_mono HO.out (fun _ hk => hk.2)⟩, ⟨by rw [HT.out]; exact HO7.out⟩, HN7, HM, HLt, HB⟩
    ·have hge2 : ¬ ((j : Int) < s.size) := by omega
     obtain rfl : j = s.size := by have := HK2.out; omega
     rw [List.take_of_length_le (by omega)] at HAll2 HO7
     have LL : (numsOf (l0.take i)).length ≤ 1048576 := by simp [numsOf]; omega
     obtain ⟨A7, c7, e7⟩ := Kd.R_slice HO7.out
     rw [hbl] at e7
     subst e7
     go_wp2_with (first
      | ((with_reducible refine gate_builtin (b := .append) (xs := #[.tmp 37, .tmp 39]) rfl ?_); at_builtin; refine Kd.R_append (Kd.slice 3 (Kd.int .i64)) (w0 := w) w.heap.size rfl (.tmp 37) (.tmp 39) 63 39 (.slice none 0 0) 24 rfl Try.underlying63 I53.out rfl (by decide) (by omega) u4 (numsOf (l0.take i)) (bytesOf s) [.slice A7 s.size c7] (fun _ => True) (fun k_ => some k_ = (Value.slice A7 s.size c7).ownBlock) rfl rfl ?aP ?aK (fun _ _ => trivial) ?aO ?aB ?aS ?aL ?_; (case aP => exact ⟨_, rfl, Kd.R_tight rfl HO7.out⟩); (case aK => exact fun k_ hk => ⟨trivial, HO7.out.1 k_ hk.symm⟩); (case aB => exact HB.out); (case aO => exact Kd.R_mono HO.out (fun _ _ => trivial)); (case aS => exact (below_size HB.out)); (case aL => omega); intro v4b w6 ho hb hg hat; have n1_ := Aside0.mk ho; have n2_ := Aside0.mk hb; clear HO HO7 HB HM HLt HN7; have HO := n1_; have HB := n2_; clear n1_ n2_; clear ho hb hg hat))
     have HT := Aside0.mk (show l0.take (i + 1) = l0.take i ++ [s] by rw [List.take_add_one, HGT.out]; rfl)
     go_roundg (l0.length - (i + 1))
     case measure => have := HK.out; omega
     case rel => exact ⟨i + 1, by first | rfl | (congr 1; omega), ⟨by have := HK.out; omega⟩, ⟨by rw [HT.out, List.all_append, HAll.out]; simp [okText, HAll2.out]⟩, ⟨by rw [HT.out]; simpa [numsOf] using HO.out⟩, HB⟩
  ·have hge : ¬ ((i : Int) < l0.length) := by omega
   obtain rfl : i = l0.length := by have := HK.out; omega
   rw [List.take_length] at HAll HO
   have hre : readF l0 = settledF (numsOf l0) := by unfold readF; rw [if_pos HAll.out]
   have HRE := Aside0.mk hre
   obtain ⟨A4, c4, e4, hl4, hC4⟩ := Kd.R_reads HO.out
   subst e4
   have HC4 := Aside0.mk hC4
   have HV4 := Aside0.mk (show ∀ r ∈ numsOf l0, ∀ x ∈ r, 0 ≤ x ∧ x ≤ 1048576 from fun r hr x hx => by
    unfold numsOf at hr
    simp at hr
    obtain ⟨s, _, rfl⟩ := hr
    have := bytesOf_range s x hx
    omega)
   clear hC4 hl4 hre
   generalize hS : settledF (numsOf l0) = res
   have HS := Aside0.mk hS
   clear hS
   rcases res with _ | ⟨cs, rs, b⟩
   ·go_wp2_with (first
     | (go_at_call 120; refine (settled_calls A4 c4 (numsOf l0) _ HC4.out HV4.out).mono ?_; rw [HS.out]; rintro e w8 ⟨hb8, rfl⟩; have HB8 := Aside0.mk (below_step HB.out hb8); clear hb8))
    go_ret2
    rw [HRE.out, HS.out]
    exact ⟨HB8.out, rfl⟩
   ·go_wp2_with (first
     | (go_at_call 120; refine (settled_calls A4 c4 (numsOf l0) _ HC4.out HV4.out).mono ?_; rw [HS.out]; rintro e w8 ⟨hb8, g, rfl, hfl⟩; have HB8 := Aside0.mk (below_step HB.out hb8); have HFl := Aside0.mk hfl; clear hb8 hfl))
    go_ret2
    rw [HRE.out, HS.out]
    exact ⟨HB8.out, g, rfl, HFl.out⟩
end Go.Proofs.Ytaepgogafkmooaa.Hd
namespace Go.Proofs.Ytaepgogafkmooaa.Hd
open Go.RowKit Go.Proofs.YtaepgogafkmooaaW.PrintWords Go.Proofs.YtaepgogafkmooaaW.PrintLast Go.Proofs.YtaepgogafkmooaaW.PrintMore Go.Proofs.Ytaepgogafkmooaa.PB
set_option linter.unusedVariables false
set_option linter.unusedSimpArgs false
theorem rdOf_get (l : List ByteArray) (i : Nat) (h : i < l.length) : rdOf ByteArray.empty l (i : Int) = l[i] := by
 unfold rdOf; rw [Int.toNat_natCast, List.getD_eq_getElem?_getD, List.getElem?_eq_getElem h]; rfl
theorem toList_inj {a b : ByteArray} : a.toList = b.toList ↔ a = b := by
 rw [ByteArray.toList_eq, ByteArray.toList_eq]
 constructor
 ·intro h
  have h2 := Array.toList_inj.1 h
  cases a; cases b
  simp at h2
  rw [h2]
 ·rintro rfl; rfl
theorem wrap64_small {x : Int} (h0 : -9223372036854775808 ≤ x) (h1 : x ≤ 9223372036854775807) : wrap64 x = x := by unfold wrap64; omega
theorem equalS_loop (l0 l1 : List ByteArray) (hl : l0.length = l1.length) (hb : l0.length ≤ 1048576) : ∀ m i, i + m = l0.length → l0.take i = l1.take i → slices_Equal_string_string.l0 (m + 1) l0 l1 (l0.length : Int) (i : Int) = some (decide (l0 = l1))
 | 0, i, h, ht => by
  unfold slices_Equal_string_string.l0
  rw [if_neg (by omega)]
  have e : l0 = l1 := by
   rw [show i = l0.length by omega, List.take_length, hl, List.take_length] at ht
   exact ht
  simp [e]
 | m + 1, i, h, ht => by
  unfold slices_Equal_string_string.l0
  rw [if_pos (by omega), if_pos (by omega), if_pos (by omega), if_pos (by omega), rdOf_get l0 i (by omega), rdOf_get l1 i (by omega), wrap64_small (by omega) (by omega)]
  by_cases he : l0[i] = l1[i]
  ·rw [if_pos (toList_inj.2 he)]
   have := equalS_loop l0 l1 hl hb m (i + 1) (by omega) (by
    rw [List.take_add_one, List.take_add_one, ht, List.getElem?_eq_getElem (by omega), List.getElem?_eq_getElem (by omega), he])
   simpa using this
  ·rw [if_neg (fun h => he (toList_inj.1 h))]
   have : l0 ≠ l1 := by rintro rfl; exact he rfl
   simp [this]
theorem equalS_f (l0 l1 : List ByteArray) (hb : l0.length ≤ 1048576) : ∃ k, slices_Equal_string_string.f k l0 l1 = some (decide (l0 = l1)) := by
 unfold slices_Equal_string_string.f
 by_cases h : l0.length = l1.length
 ·refine ⟨l0.length + 1, ?_⟩
  rw [if_pos (by omega)]
  have := equalS_loop l0 l1 h hb l0.length 0 (by omega) (by simp)
  simpa using this
 ·refine ⟨0, ?_⟩
  rw [if_neg (by omega)]
  have : l0 ≠ l1 := by rintro rfl; exact h rfl
  simp [this]
theorem stepS_mem (st : List Int × List Rc) (r c : Nat) (x : Int) : x ∈ (stepS st r c x).1 := by
 unfold stepS
 split
 ·assumption
 ·simp
theorem stepS_prefix (st : List Int × List Rc) (r c : Nat) (x : Int) : st.1 <+: (stepS st r c x).1 := by
 unfold stepS
 split
 ·exact List.prefix_refl _
 ·exact List.prefix_append _ _
theorem stAt_prefix (rows : List (List Int)) (wi : Nat) (n : Nat) : ∀ m, (stAt rows wi n).1 <+: (stAt rows wi (n + m)).1
 | 0 => List.prefix_refl _
 | m + 1 => (stAt_prefix rows wi n m).trans (stepS_prefix _ _ _ _)
theorem stAt_mem (rows : List (List Int)) (wi : Nat) (r c : Nat) (hc : c < wi) : valAt rows r c ∈ (stAt rows wi (r * wi + c + 1)).1 := by
 show valAt rows r c ∈ (stepS (stAt rows wi (r * wi + c)) ((r * wi + c) / wi) ((r * wi + c) % wi) (valAt rows ((r * wi + c) / wi) ((r * wi + c) % wi))).1
 have h1 : (r * wi + c) / wi = r := by
  rw [Nat.mul_comm, Nat.mul_add_div (by omega), Nat.div_eq_of_lt hc, Nat.add_zero]
 have h2 : (r * wi + c) % wi = c := by
  rw [Nat.mul_comm, Nat.mul_add_mod, Nat.mod_eq_of_lt hc]
 rw [h1, h2]
 exact stepS_mem _ _ _ _
theorem numAt_lt (rows : List (List Int)) (hi wi : Nat) (r c : Nat) (hr : r < hi) (hc : c < wi) : 0 ≤ numAt rows wi r c ∧ numAt rows wi r c < ((stAt rows wi (hi * wi)).2.length : Int) := by
 unfold numAt
 have h1 := stAt_mem rows wi r c hc
 have h2 := List.idxOf_lt_length_of_mem h1
 have hle : r * wi + c + 1 ≤ hi * wi := by
  have : (r + 1) * wi ≤ hi * wi := Nat.mul_le_mul_right _ hr
  rw [Nat.succ_mul] at this
  omega
 have h3 := (stAt_prefix rows wi (r * wi + c + 1) (hi * wi - (r * wi + c + 1))).length_le
 rw [show r * wi + c + 1 + (hi * wi - (r * wi + c + 1)) = hi * wi by omega] at h3
 have h4 := (stAt_inv rows hi wi (hi * wi) (Nat.le_refl _)).1
 omega
structure Cells (hi wi n : Nat) (cs : List (List Int)) : Prop where
 len : cs.length = hi
 row : ∀ r ∈ cs, r.length = wi
 val : ∀ r ∈ cs, ∀ x ∈ r, 0 ≤ x ∧ x < n
theorem shapeOk_iff (rows : List (List Int)) : shapeOk rows = true ↔ (1 ≤ rows.length ∧ rows.length ≤ 6 ∧ 1 ≤ wideOf rows ∧ wideOf rows ≤ 6 ∧ ∀ r ∈ rows, r.length = wideOf rows) := by
 unfold shapeOk
 simp only [Bool.and_eq_true, decide_eq_true_eq, Bool.not_eq_true', List.any_eq_false, bne_iff_ne, ne_eq, Decidable.not_not, and_assoc]
theorem settledF_some {rows cs : List (List Int)} {rs : List Rc} {b : Bool} (h : settledF rows = some (cs, rs, b)) : shapeOk rows = true ∧ cs = cellsOf rows ∧ rs = roomsOf rows ∧ rs.length ≤ 9 ∧ b = decide (sumArea rs = (rows.length : Int) * (wideOf rows : Int)) ∧ Cells rows.length (wideOf rows) rs.length cs ∧ ∀ a ∈ rs, boundR a rows.length (wideOf rows) := by
 unfold settledF at h
 split at h
 ·rename_i h1
  split at h
  ·rename_i h2
   injection h with h
   injection h with e1 h
   injection h with e2 e3
   subst e1 e2 e3
   refine ⟨h1, rfl, rfl, h2, rfl, ⟨cellsOf_length rows, fun r hr => ?_, fun r hr x hx => ?_⟩, (stAt_inv rows rows.length (wideOf rows) _ (Nat.le_refl _)).2.2.2⟩
   ·unfold cellsOf gridOf at hr
    simp at hr
    obtain ⟨a, _, rfl⟩ := hr
    simp
   ·unfold cellsOf gridOf at hr
    simp at hr
    obtain ⟨a, ha, rfl⟩ := hr
    simp at hx
    obtain ⟨c, hc, rfl⟩ := hx
    exact numAt_lt rows rows.length (wideOf rows) a c ha hc
  ·cases h
 ·cases h
theorem textOf_length (cs : List (List Int)) : (textOf cs).length = cs.length := by simp [textOf]
def smallB (p : List ByteArray) : Bool := decide (p.length ≤ 1048576) && p.all fun s => decide (s.size ≤ 1048576)
theorem smallB_iff (p : List ByteArray) : smallB p = true ↔ smallP p := by
 unfold smallB smallP
 rw [Bool.and_eq_true, decide_eq_true_eq, List.all_eq_true]
 simp only [decide_eq_true_eq]
def floorF (p : List ByteArray) : Option (List (List Int) × List Rc) := (readF p).bind fun t => if t.2.2 = true ∧ textOf t.1 = p then some (t.1, t.2.1) else none
theorem readF_some {p : List ByteArray} {t} (h : readF p = some t) : settledF (numsOf p) = some t := by
 unfold readF at h
 split at h
 ·exact h
 ·cases h
def FloorOfRes (w : World) (r : Option (List (List Int) × List Rc)) (e : Ending) (w' : World) : Prop :=
 Below w.heap.size w w' ∧ ∃ (v : Option Addr) (b : Bool), e = .returned (.tuple #[.pointer v, .bool b]) ∧ match r with
  | none => b = false
  | some (cs, rs) => b = true ∧ ∃ g, v = some ⟨g, 0, none⟩ ∧ FloorAt w' g cs rs
set_option maxHeartbeats 4000000 in
set_option maxRecDepth 100000 in
theorem floorOf_calls (A0 : Option Addr) (c0 : Nat) (l0 : List ByteArray) (w : World) (hr0 : Kd.C Kd.string w A0 l0.length l0) (hc0 : l0.length ≤ c0) (hp : smallP l0) :
  Calls Try.prog 66 #[.slice A0 l0.length c0] w (FloorOfRes w (floorF l0)) := by
 have HR := Aside0.mk hr0
 have HC := Aside0.mk hc0
 have HP := Aside0.mk hp
 clear hr0 hc0 hp
 generalize hF : floorF l0 = res
 have HF := Aside0.mk hF
 clear hF
 generalize hS : readF l0 = t
 have HS := Aside0.mk hS
 clear hS
 rcases t with _ | ⟨cs, rs, b⟩
 ·have e : res = none := by rw [← HF.out]; unfold floorF; rw [HS.out]; rfl
  subst e
  go_enter Try.func66, Try.ntmps66
  go_wp2_with (first
   | (go_at_call 117; refine (read_calls A0 c0 l0 _ HR.out HC.out HP.out).mono ?_; rw [HS.out]; rintro e w8 ⟨hb8, rfl⟩; have HB8 := Aside0.mk hb8; clear hb8))
  go_ret2
  exact ⟨HB8.out, none, false, rfl, rfl⟩
 ·obtain ⟨q1, q2, q3, q4, q5, q6, q7⟩ := settledF_some (readF_some HS.out)
  have HCl := Aside0.mk q6
  clear q2 q3 q5 q6 q7
  have hsh := (shapeOk_iff _).1 q1
  have HSh := Aside0.mk hsh
  clear q1 hsh
  cases b
  ·have e : res = none := by rw [← HF.out]; unfold floorF; rw [HS.out]; simp
   subst e
   go_enter Try.func66, Try.ntmps66
   go_wp2_with (first
    | (go_at_call 117; refine (read_calls A0 c0 l0 _ HR.out HC.out HP.out).mono ?_; rw [HS.out]; rintro e w8 ⟨hb8, g, rfl, hfl⟩; have HB8 := Aside0.mk hb8; clear hb8 hfl))
   go_ret2
   exact ⟨HB8.out, some ⟨g, 0, none⟩, false, rfl, rfl⟩
  ·have HT := Aside0.mk (equalS_f (textOf cs) l0 (by rw [textOf_length, HCl.out.len]; have := HSh.out; omega))
   obtain ⟨k, hk⟩ := HT.out
   have HK := Aside0.mk hk
   clear hk
   have HVal := Aside0.mk (show ∀ r ∈ cs, r.length ≤ 1048576 ∧ ∀ x ∈ r, 0 ≤ x ∧ x ≤ 25 from fun r hr => ⟨by rw [HCl.out.row r hr]; have := HSh.out; omega, fun x hx => by have := HCl.out.val r hr x hx; omega⟩)
   have HLn := Aside0.mk (show cs.length ≤ 1048576 from by rw [HCl.out.len]; have := HSh.out; omega)
   go_enter Try.func66, Try.ntmps66
   go_wp2_with (first
    | (go_at_call 117; refine (read_calls A0 c0 l0 _ HR.out HC.out HP.out).mono ?_; rw [HS.out]; rintro e w8 ⟨hb8, g, rfl, hfl⟩; have HB8 := Aside0.mk hb8; have HFl := Aside0.mk hfl; clear hb8 hfl)
    | (go_at_call 119; refine (text_calls g cs rs _ HFl.out HLn.out HVal.out).mono ?_; rintro e w9 ⟨v9, rfl, hr9, hb9⟩; have HB9 := Aside0.mk (below_step HB8.out hb9); have HFl9 := Aside0.mk (HFl.out.below hb9); obtain ⟨A9, c9, e9, hl9, hC9⟩ := Kd.R_reads hr9; subst e9; have HC9 := Aside0.mk hC9; have HL9 := Aside0.mk hl9; clear hb9 hr9 hC9 hl9)
    | (go_at_call 118; refine (slices_Equal_string_string.calls k A9 c9 (textOf cs) A0 c0 l0 _ _ HC9.out HL9.out (Kd.C_below HR.out HB9.out) HC.out HK.out).mono ?_; rintro e w10 ⟨rfl, hd10⟩; have HB10 := Aside0.mk (below_step HB9.out hd10.below); have HFl10 := Aside0.mk (HFl9.out.below hd10.below); clear hd10))
   go_ret2
   have hre : floorF l0 = if textOf cs = l0 then some (cs, rs) else none := by unfold floorF; rw [HS.out]; simp
   rw [← HF.out, hre]
   by_cases ht : textOf cs = l0
   ·rw [if_pos ht]
    exact ⟨HB10.out, some ⟨g, 0, none⟩, true, by rw [decide_eq_true ht]; rfl, rfl, g, rfl, HFl10.out⟩
   ·rw [if_neg ht]
    exact ⟨HB10.out, some ⟨g, 0, none⟩, false, by rw [decide_eq_false ht]; rfl, rfl⟩
end Go.Proofs.Ytaepgogafkmooaa.Hd
namespace Go.Proofs.Ytaepgogafkmooaa.Hd
open Go.RowKit Go.Proofs.YtaepgogafkmooaaW.PrintWords Go.Proofs.YtaepgogafkmooaaW.PrintLast Go.Proofs.YtaepgogafkmooaaW.PrintMore Go.Proofs.Ytaepgogafkmooaa.PB
set_option linter.unusedVariables false
set_option linter.unusedSimpArgs false
def Evs {α : Type} (g : Nat → Option α) (r : α) : Prop := ∃ K, ∀ k, K ≤ k → g k = some r
section
variable {α β : Type} {g h : Nat → Option α} {r : α}
theorem Evs.const (r : α) : Evs (fun _ => some r) r := ⟨0, fun _ _ => rfl⟩
theorem Evs.step (e : ∀ k, g (k + 1) = h k) (hh : Evs h r) : Evs g r := by
 obtain ⟨K, hK⟩ := hh
 refine ⟨K + 1, fun k hk => ?_⟩
 obtain ⟨j, rfl⟩ : ∃ j, k = j + 1 := ⟨k - 1, by omega⟩
 rw [e]
 exact hK j (by omega)
theorem Evs.congr (e : ∀ k, g k = h k) (hh : Evs h r) : Evs g r := by
 obtain ⟨K, hK⟩ := hh
 exact ⟨K, fun k hk => by rw [e]; exact hK k hk⟩
theorem Evs.bind {g : Nat → Option β} {F : Nat → β → Option α} {b : β} (hg : Evs g b) (hF : Evs (fun k => F k b) r) : Evs (fun k => (g k).bind (F k)) r := by
 obtain ⟨K, hK⟩ := hg
 obtain ⟨L, hL⟩ := hF
 refine ⟨K + L, fun k hk => ?_⟩
 show (g k).bind (F k) = some r
 rw [hK k (by omega)]
 exact hL k (by omega)
end
theorem wrap_succ {i : Nat} (h : i ≤ 1048576) : wrap64 ((i : Int) + 1) = ((i + 1 : Nat) : Int) := by rw [wrap64_small (by omega) (by omega)]; omega
def gridOk (p : List ByteArray) : Bool := shapeOk (numsOf p) && p.all okText
end Go.Proofs.Ytaepgogafkmooaa.Hd
namespace Go.Proofs.Ytaepgogafkmooaa.Hd
open Go.RowKit Go.Proofs.YtaepgogafkmooaaW.PrintWords Go.Proofs.YtaepgogafkmooaaW.PrintLast Go.Proofs.YtaepgogafkmooaaW.PrintMore Go.Proofs.Ytaepgogafkmooaa.PB
set_option linter.unusedVariables false
set_option linter.unusedSimpArgs false
def pushL (o : List Int) (v : Int) : List Int := if v ∈ o then o else o ++ [v]
def ordL (xs : List Int) (o : List Int) : List Int := xs.foldl pushL o
theorem pushL_prefix (o : List Int) (v : Int) : o <+: pushL o v := by
 unfold pushL
 split
 ·exact List.prefix_refl _
 ·exact List.prefix_append _ _
theorem pushL_mem (o : List Int) (v : Int) : v ∈ pushL o v := by
 unfold pushL
 split
 ·assumption
 ·simp
theorem ordL_prefix (xs : List Int) : ∀ o, o <+: ordL xs o := by
 induction xs with
 | nil => exact fun o => List.prefix_refl _
 | cons x r ih => exact fun o => (pushL_prefix o x).trans (ih _)
theorem ordL_append (xs ys : List Int) (o : List Int) : ordL (xs ++ ys) o = ordL ys (ordL xs o) := by simp [ordL, List.foldl_append]
theorem ordL_mem (xs : List Int) : ∀ o, ∀ x ∈ xs, x ∈ ordL xs o := by
 induction xs with
 | nil => intro o x hx; cases hx
 | cons y r ih =>
  intro o x hx
  rcases List.mem_cons.1 hx with rfl | hx
  ·exact (ordL_prefix r (pushL o x)).subset (pushL_mem o x)
  ·exact ih _ x hx
theorem ordL_sub (xs : List Int) : ∀ o, ∀ x ∈ ordL xs o, x ∈ o ∨ x ∈ xs := by
 induction xs with
 | nil => exact fun o x hx => .inl hx
 | cons y r ih =>
  intro o x hx
  rcases ih _ x hx with h | h
  ·unfold pushL at h
   split at h
   ·exact .inl h
   ·rcases List.mem_append.1 h with h | h
    ·exact .inl h
    ·simp at h; subst h; exact .inr List.mem_cons_self
  ·exact .inr (List.mem_cons_of_mem _ h)
theorem ordL_nodup (xs : List Int) : ∀ o, o.Nodup → (ordL xs o).Nodup := by
 induction xs with
 | nil => exact fun o h => h
 | cons y r ih =>
  intro o h
  refine ih _ ?_
  unfold pushL
  split
  ·exact h
  ·rename_i hn
   rw [List.nodup_append]
   exact ⟨h, by simp, fun a ha b hb => by simp at hb; subst hb; exact fun e => hn (e ▸ ha)⟩
theorem ordL_length (xs : List Int) : ∀ o, (ordL xs o).length ≤ o.length + xs.length := by
 induction xs with
 | nil => exact fun o => by simp [ordL]
 | cons y r ih =>
  intro o
  have h1 := ih (pushL o y)
  have h2 : (pushL o y).length ≤ o.length + 1 := by
   unfold pushL
   split
   ·omega
   ·simp
  show (ordL r (pushL o y)).length ≤ _
  simp only [List.length_cons]
  omega
def canonL (L : List Int) (rows : List (List Int)) : List (List Int) := rows.map fun r => r.map fun x => (L.idxOf x : Int)
def ordAll (rows : List (List Int)) : List Int := ordL rows.flatten []
def canon (rows : List (List Int)) : List (List Int) := canonL (ordAll rows) rows
def namesOf (p : List ByteArray) : List ByteArray := textOf (canon (numsOf p))
theorem flatten_length_le (rows : List (List Int)) (w : Nat) (h : ∀ r ∈ rows, r.length = w) : rows.flatten.length = rows.length * w := by
 induction rows with
 | nil => simp
 | cons a r ih =>
  rw [List.flatten_cons, List.length_append, ih (fun x hx => h x (List.mem_cons_of_mem _ hx)), h a List.mem_cons_self, List.length_cons, Nat.succ_mul]
  omega
theorem shape_order {rows : List (List Int)} (h : shapeOk rows = true) : (ordAll rows).length ≤ 36 := by
 obtain ⟨h1, h2, h3, h4, h5⟩ := (shapeOk_iff _).1 h
 have := ordL_length rows.flatten []
 rw [flatten_length_le rows _ h5] at this
 have h6 := Nat.mul_le_mul h2 h4
 unfold ordAll
 simp at this
 omega
end Go.Proofs.Ytaepgogafkmooaa.Hd
namespace Go.Proofs.Ytaepgogafkmooaa.Hd
open Go.RowKit Go.Proofs.YtaepgogafkmooaaW.PrintWords Go.Proofs.YtaepgogafkmooaaW.PrintLast Go.Proofs.YtaepgogafkmooaaW.PrintMore Go.Proofs.Ytaepgogafkmooaa.PB
set_option linter.unusedVariables false
set_option linter.unusedSimpArgs false
def Sees (w W : World) : Prop := w.heap.size ≤ W.heap.size ∧ ∀ k, k < w.heap.size → W.heap[k]? = w.heap[k]?
def likeW (w W : World) : World := { W with os := w.os, tape := w.tape, output := w.output }
theorem Sees.below {w W : World} (h : Sees w W) : Below w.heap.size w (likeW w W) := ⟨rfl, rfl, rfl, h.1, h.2⟩
theorem Sees.of_below {w W : World} (h : Below w.heap.size w W) : Sees w W := ⟨h.size, h.block⟩
theorem Sees.refl (w : World) : Sees w w := ⟨Nat.le_refl _, fun _ _ => rfl⟩
theorem Sees.trans {a b c : World} (h : Sees a b) (k : Sees b c) : Sees a c := ⟨Nat.le_trans h.1 k.1, fun i hi => (k.2 i (Nat.lt_of_lt_of_le hi h.1)).trans (h.2 i hi)⟩
theorem Sees.cell {w W : World} (h : Sees w W) {a : Addr} {v : Value} (hc : w.cell? a = some v) : W.cell? a = some v := pw_cell_below (w1 := likeW w W) h.below hc
theorem C_likeW {w W : World} {A : Option Addr} {n : Nat} {xs : List (List Int)} (h : (Kd.slice 3 (Kd.int .i64)).C (likeW w W) A n xs) : (Kd.slice 3 (Kd.int .i64)).C W A n xs := h
theorem Sees.C {w W : World} (h : Sees w W) {A : Option Addr} {n : Nat} {xs : List (List Int)} (hc : (Kd.slice 3 (Kd.int .i64)).C w A n xs) : (Kd.slice 3 (Kd.int .i64)).C W A n xs := C_likeW (Kd.C_below hc h.below)
theorem gridOf_row {hi wi : Nat} {g : Nat → Nat → Int} : ∀ r ∈ gridOf hi wi g, r.length = wi := by
 intro r hr
 unfold gridOf at hr
 simp at hr
 obtain ⟨a, _, rfl⟩ := hr
 simp
structure FloorOk (cs : List (List Int)) (rs : List Rc) : Prop where
 cells : Cells cs.length (wideOf cs) rs.length cs
 h1 : 1 ≤ cs.length
 h6 : cs.length ≤ 6
 w1 : 1 ≤ wideOf cs
 w6 : wideOf cs ≤ 6
 many : rs.length ≤ 9
 bound : ∀ a ∈ rs, boundR a cs.length (wideOf cs)
theorem wideOf_of {cs : List (List Int)} {hi wi n : Nat} (h : Cells hi wi n cs) (h1 : 1 ≤ hi) : wideOf cs = wi := by
 unfold wideOf
 have hl := h.len
 rw [List.getD_eq_getElem?_getD, List.getElem?_eq_getElem (by omega)]
 exact h.row _ (List.getElem_mem _)
theorem settledF_ok {rows cs : List (List Int)} {rs : List Rc} {b : Bool} (h : settledF rows = some (cs, rs, b)) : FloorOk cs rs := by
 obtain ⟨q1, q2, q3, q4, q5, q6, q7⟩ := settledF_some h
 obtain ⟨s1, s2, s3, s4, s5⟩ := (shapeOk_iff _).1 q1
 have hw := wideOf_of q6 s1
 have hl := q6.len
 exact ⟨by rw [hw, hl]; exact q6, by omega, by omega, by omega, by omega, q4, by rw [hw, hl]; exact q7⟩
theorem floorF_ok {p : List ByteArray} {cs : List (List Int)} {rs : List Rc} (h : floorF p = some (cs, rs)) : FloorOk cs rs := by
 unfold floorF at h
 cases hr : readF p with
 | none => rw [hr] at h; cases h
 | some t =>
  rw [hr] at h
  simp only [Option.bind_some] at h
  split at h
  ·injection h with h
   injection h with e1 e2
   subst e1 e2
   exact settledF_ok (readF_some hr)
  ·cases h
theorem high_f (cs : List (List Int)) (rs : List Rc) : impl_floor_high.f cs rs = some (cs.length : Int) := rfl
theorem wide_f {cs : List (List Int)} {rs : List Rc} (h : FloorOk cs rs) : impl_floor_wide.f cs rs = some (wideOf cs : Int) := by
 have := h.h1
 unfold impl_floor_wide.f
 rw [if_pos (by omega)]
 rfl
theorem FloorAt.cell {w : World} {g : Nat} {cs : List (List Int)} {rs : List Rc} (hf : FloorAt w g cs rs) (hk : FloorOk cs rs) (r c : Nat) (hr : r < cs.length) (hc : c < wideOf cs) :
  ∃ ad c0 ad2 c2, w.cell? ⟨g, 0, none⟩ = some (.slice (some ad) cs.length c0) ∧ w.cell? (ad.add r) = some (.slice (some ad2) (wideOf cs) c2) ∧ w.cell? (ad2.add c) = some (.int .i64 (valAt cs r c)) := by
 obtain ⟨A0, c0, A1, c1, h1, h2, h3, h4⟩ := hf
 obtain ⟨row, hrow⟩ : ∃ row, cs[r]? = some row := ⟨_, List.getElem?_eq_getElem hr⟩
 obtain ⟨ad, Ai, ci, e1, hx, hl, hrr⟩ := C_row h3 r row hrow
 have hw := hk.cells.row row (List.mem_of_getElem? hrow)
 obtain ⟨ad2, e2, hx2⟩ := C_int_cell hrr c (by omega)
 subst e1 e2
 refine ⟨ad, c0, ad2, ci, (blk_cell h1 0).trans rfl, by rw [hx, hw], ?_⟩
 rw [hx2]
 unfold valAt rd
 rw [List.getD_eq_getElem?_getD, List.getD_eq_getElem?_getD, List.getD_eq_getElem?_getD, hrow, Int.toNat_natCast]
 rfl
end Go.Proofs.Ytaepgogafkmooaa.Hd
namespace Go.Proofs.Ytaepgogafkmooaa.Hd
open Go.RowKit Go.Proofs.YtaepgogafkmooaaW.PrintWords Go.Proofs.YtaepgogafkmooaaW.PrintLast Go.Proofs.YtaepgogafkmooaaW.PrintMore Go.Proofs.Ytaepgogafkmooaa.PB
set_option linter.unusedVariables false
set_option linter.unusedSimpArgs false
theorem nodup_inj {l : List Int} (h : l.Nodup) {i j : Nat} (hi : i < l.length) (hj : j < l.length) (e : l[i] = l[j]) : i = j := by
 have hp := List.pairwise_iff_getElem.1 h
 rcases Nat.lt_trichotomy i j with h1 | h1 | h1
 ·exact absurd e (hp i j hi hj h1)
 ·exact h1
 ·exact absurd e.symm (hp j i hj hi h1)
def Rect (wi : Nat) (rows : List (List Int)) : Prop := ∀ r ∈ rows, r.length = wi
theorem valAt_get {rows : List (List Int)} {wi r c : Nat} (h : Rect wi rows) (hr : r < rows.length) (hc : c < wi) : ∃ row, rows[r]? = some row ∧ row[c]? = some (valAt rows r c) := by
 refine ⟨rows[r], List.getElem?_eq_getElem hr, ?_⟩
 have hw := h _ (List.getElem_mem hr)
 unfold valAt
 rw [List.getD_eq_getElem?_getD, List.getD_eq_getElem?_getD, List.getElem?_eq_getElem hr]
 simp only [Option.getD_some]
 rw [List.getElem?_eq_getElem (by omega)]
 rfl
theorem gridOf_get {hi wi : Nat} {g : Nat → Nat → Int} {r : Nat} (hr : r < hi) : (gridOf hi wi g)[r]? = some ((List.range wi).map (g r)) := by
 unfold gridOf
 rw [List.getElem?_map, List.getElem?_range hr]
 rfl
theorem valAt_gridOf {hi wi : Nat} {g : Nat → Nat → Int} {r c : Nat} (hr : r < hi) (hc : c < wi) : valAt (gridOf hi wi g) r c = g r c := by
 unfold valAt
 rw [List.getD_eq_getElem?_getD, List.getD_eq_getElem?_getD, gridOf_get hr]
 simp only [Option.getD_some]
 rw [List.getElem?_map, List.getElem?_range hc]
 rfl
theorem gridOf_rect (hi wi : Nat) (g : Nat → Nat → Int) : Rect wi (gridOf hi wi g) := fun r hr => gridOf_row r hr
theorem rect_map {rows : List (List Int)} {wi : Nat} (h : Rect wi rows) (f : Int → Int) : rows.map (fun r => r.map f) = gridOf rows.length wi (fun r c => f (valAt rows r c)) := by
 apply List.ext_getElem?
 intro r
 by_cases hr : r < rows.length
 ·rw [gridOf_get hr, List.getElem?_map, List.getElem?_eq_getElem hr]
  simp only [Option.map_some]
  congr 1
  have hw := h _ (List.getElem_mem hr)
  apply List.ext_getElem?
  intro c
  rw [List.getElem?_map, List.getElem?_map]
  by_cases hc : c < wi
  ·obtain ⟨row, h1, h2⟩ := valAt_get h hr hc
   rw [List.getElem?_eq_getElem hr] at h1
   injection h1 with h1
   rw [h1, h2, List.getElem?_range hc]
   rfl
  ·rw [List.getElem?_eq_none (by omega), List.getElem?_eq_none (by simp; omega)]
   rfl
 ·rw [List.getElem?_eq_none (by simp; omega), List.getElem?_eq_none (by rw [gridOf_length]; omega)]
theorem flatten_get {wi : Nat} : ∀ (rows : List (List Int)), Rect wi rows → ∀ n, n < rows.length * wi → rows.flatten[n]? = some (valAt rows (n / wi) (n % wi))
 | [], _, n, h => by simp at h
 | a :: r, hR, n, h => by
  have hwi : 0 < wi := by
   rcases Nat.eq_zero_or_pos wi with h0 | h0
   ·subst h0; simp at h
   ·exact h0
  have ha := hR a List.mem_cons_self
  rw [List.flatten_cons]
  by_cases hn : n < wi
  ·rw [List.getElem?_append_left (by omega), Nat.div_eq_of_lt hn, Nat.mod_eq_of_lt hn]
   unfold valAt
   simp only [List.getD_cons_zero]
   rw [List.getD_eq_getElem?_getD, List.getElem?_eq_getElem (by omega)]
   rfl
  ·rw [List.getElem?_append_right (by omega), ha, flatten_get r (fun x hx => hR x (List.mem_cons_of_mem _ hx)) (n - wi) (by
    rw [List.length_cons, Nat.succ_mul] at h
    omega)]
   congr 1
   obtain ⟨m, rfl⟩ : ∃ m, n = m + wi := ⟨n - wi, by omega⟩
   rw [Nat.add_sub_cancel, Nat.add_div_right _ hwi, Nat.add_mod_right]
   unfold valAt
   simp only [List.getD_cons_succ]
theorem stAt_ord {rows : List (List Int)} {wi : Nat} (h : Rect wi rows) : ∀ n, n ≤ rows.length * wi → (stAt rows wi n).1 = ordL (rows.flatten.take n) []
 | 0, _ => by simp [stAt, ordL]
 | n + 1, hn => by
  rw [List.take_add_one, flatten_get rows h n (by omega)]
  simp only [Option.toList_some]
  rw [ordL_append, ← stAt_ord h n (by omega)]
  show (stepS (stAt rows wi n) (n / wi) (n % wi) (valAt rows (n / wi) (n % wi))).1 = pushL (stAt rows wi n).1 (valAt rows (n / wi) (n % wi))
  unfold stepS pushL
  split <;> rfl
theorem stAt_all {rows : List (List Int)} {wi : Nat} (h : Rect wi rows) : (stAt rows wi (rows.length * wi)).1 = ordAll rows := by
 rw [stAt_ord h _ (Nat.le_refl _), List.take_of_length_le (by rw [flatten_length_le rows wi h]; exact Nat.le_refl _)]
 rfl
theorem shape_rect {rows : List (List Int)} (h : shapeOk rows = true) : Rect (wideOf rows) rows := ((shapeOk_iff _).1 h).2.2.2.2
theorem canon_grid {rows : List (List Int)} {wi : Nat} (h : Rect wi rows) : canon rows = gridOf rows.length wi (fun r c => ((ordAll rows).idxOf (valAt rows r c) : Int)) := rect_map h _
structure BoxN (rows : List (List Int)) (wi n : Nat) (x : Int) (b : Rc) : Prop where
 ins : ∀ m, m < n → valAt rows (m / wi) (m % wi) = x → b.f0 ≤ (m / wi : Nat) ∧ ((m / wi : Nat) : Int) < b.f0 + b.f2 ∧ b.f1 ≤ (m % wi : Nat) ∧ ((m % wi : Nat) : Int) < b.f1 + b.f3
 top : ∃ m, m < n ∧ valAt rows (m / wi) (m % wi) = x ∧ ((m / wi : Nat) : Int) = b.f0
 low : ∃ m, m < n ∧ valAt rows (m / wi) (m % wi) = x ∧ ((m / wi : Nat) : Int) + 1 = b.f0 + b.f2
 left : ∃ m, m < n ∧ valAt rows (m / wi) (m % wi) = x ∧ ((m % wi : Nat) : Int) = b.f1
 right : ∃ m, m < n ∧ valAt rows (m / wi) (m % wi) = x ∧ ((m % wi : Nat) : Int) + 1 = b.f1 + b.f3
theorem BoxN.fresh {rows : List (List Int)} {wi n : Nat} {x : Int} (h : ∀ m, m < n → valAt rows (m / wi) (m % wi) ≠ x) (hx : valAt rows (n / wi) (n % wi) = x) : BoxN rows wi (n + 1) x (bothR (oneR (n / wi) (n % wi)) (oneR (n / wi) (n % wi))) := by
 refine ⟨fun m hm hv => ?_, ⟨n, by omega, hx, ?_⟩, ⟨n, by omega, hx, ?_⟩, ⟨n, by omega, hx, ?_⟩, ⟨n, by omega, hx, ?_⟩⟩
 ·simp only [bothR, oneR]
  rcases Nat.lt_or_eq_of_le (Nat.lt_succ_iff.1 hm) with h1 | h1
  ·exact absurd hv (h m h1)
  ·subst h1; omega
 all_goals
  simp only [bothR, oneR]
  omega
theorem stAt_len (rows : List (List Int)) (wi : Nat) : ∀ n, (stAt rows wi n).1.length = (stAt rows wi n).2.length ∧ (stAt rows wi n).1.Nodup
 | 0 => by simp [stAt]
 | n + 1 => by
  obtain ⟨h1, h2⟩ := stAt_len rows wi n
  simp only [stAt, stepS]
  split
  ·exact ⟨by simpa using h1, h2⟩
  ·rename_i hx
   refine ⟨by simp [h1], ?_⟩
   rw [List.nodup_append]
   exact ⟨h2, by simp, fun a ha b hb => by simp at hb; subst hb; exact fun e => hx (e ▸ ha)⟩
end Go.Proofs.Ytaepgogafkmooaa.Hd
namespace Go.Proofs.Ytaepgogafkmooaa.Hd
open Go.RowKit Go.Proofs.YtaepgogafkmooaaW.PrintWords Go.Proofs.YtaepgogafkmooaaW.PrintLast Go.Proofs.YtaepgogafkmooaaW.PrintMore Go.Proofs.Ytaepgogafkmooaa.PB
set_option linter.unusedVariables false
set_option linter.unusedSimpArgs false
def cellN (rows : List (List Int)) (wi m : Nat) : Int := valAt rows (m / wi) (m % wi) - 97
def maxN (rows : List (List Int)) (wi : Nat) : Nat → Int
 | 0 => 0
 | n + 1 => max (maxN rows wi n) (cellN rows wi n + 1)
end Go.Proofs.Ytaepgogafkmooaa.Hd
namespace Go.Proofs.Ytaepgogafkmooaa.Hd
open Go.RowKit Go.Proofs.YtaepgogafkmooaaW.PrintWords Go.Proofs.YtaepgogafkmooaaW.PrintLast Go.Proofs.YtaepgogafkmooaaW.PrintMore Go.Proofs.Ytaepgogafkmooaa.PB
set_option linter.unusedVariables false
set_option linter.unusedSimpArgs false
theorem maxN_ge (rows : List (List Int)) (wi : Nat) : ∀ n m, m < n → cellN rows wi m + 1 ≤ maxN rows wi n
 | 0, m, h => by omega
 | n + 1, m, h => by
  simp only [maxN]
  rcases Nat.lt_or_eq_of_le (Nat.lt_succ_iff.1 h) with h1 | h1
  ·have := maxN_ge rows wi n m h1; omega
  ·subst h1; omega
theorem maxN_ub (rows : List (List Int)) (wi : Nat) (M : Int) (hM : 0 ≤ M) : ∀ n, (∀ m, m < n → cellN rows wi m + 1 ≤ M) → maxN rows wi n ≤ M
 | 0, _ => hM
 | n + 1, h => by
  have := maxN_ub rows wi M hM n (fun m hm => h m (by omega))
  have := h n (by omega)
  simp only [maxN]
  omega
end Go.Proofs.Ytaepgogafkmooaa.Hd
namespace Go.Proofs.Ytaepgogafkmooaa.Hd
open Go.RowKit Go.Proofs.YtaepgogafkmooaaW.PrintWords Go.Proofs.YtaepgogafkmooaaW.PrintLast Go.Proofs.YtaepgogafkmooaaW.PrintMore Go.Proofs.Ytaepgogafkmooaa.PB
set_option linter.unusedVariables false
set_option linter.unusedSimpArgs false
theorem letterOf_toNat {x : Int} (h0 : 0 ≤ x) (h1 : x ≤ 100) : ((letterOf x).toNat : Int) = 97 + x := by
 unfold letterOf
 rw [UInt8.toNat_ofNat']
 omega
theorem bytesOf_rowText (row : List Int) (h : ∀ x ∈ row, 0 ≤ x ∧ x ≤ 100) : bytesOf (rowText row) = row.map (fun x => 97 + x) := by
 unfold bytesOf rowText rowBytes
 show ((row.map letterOf).toArray.toList).map _ = _
 rw [List.map_map]
 apply List.map_congr_left
 intro x hx
 exact letterOf_toNat (h x hx).1 (h x hx).2
theorem numsOf_textOf (cs : List (List Int)) (h : ∀ r ∈ cs, ∀ x ∈ r, 0 ≤ x ∧ x ≤ 100) : numsOf (textOf cs) = cs.map (fun r => r.map (fun x => 97 + x)) := by
 unfold numsOf textOf
 rw [List.map_map]
 apply List.map_congr_left
 intro r hr
 exact bytesOf_rowText r (h r hr)
theorem canon_val {rows : List (List Int)} (h : shapeOk rows = true) : ∀ r ∈ canon rows, ∀ x ∈ r, 0 ≤ x ∧ x ≤ 100 := by
 have hL := shape_order h
 intro r hr x hx
 unfold canon canonL at hr
 simp at hr
 obtain ⟨a, _, rfl⟩ := hr
 simp at hx
 obtain ⟨y, _, rfl⟩ := hx
 have := List.idxOf_le_length (a := y) (l := ordAll rows)
 omega
structure Canon (p : List ByteArray) : Prop where
 grid : gridOk p = true
 names : namesOf p = p
theorem Canon.shape {p : List ByteArray} (h : Canon p) : shapeOk (numsOf p) = true := by
 have := h.grid
 unfold gridOk at this
 rw [Bool.and_eq_true] at this
 exact this.1
theorem numsOf_length (p : List ByteArray) : (numsOf p).length = p.length := by simp [numsOf]
theorem Canon.cell {p : List ByteArray} (h : Canon p) : ∀ m, m < p.length * wideOf (numsOf p) → cellN (numsOf p) (wideOf (numsOf p)) m = ((ordAll (numsOf p)).idxOf (valAt (numsOf p) (m / wideOf (numsOf p)) (m % wideOf (numsOf p))) : Int) := by
 intro m hm
 have hR := shape_rect h.shape
 have h1 : numsOf p = (canon (numsOf p)).map (fun r => r.map (fun x => 97 + x)) := by
  have := numsOf_textOf (canon (numsOf p)) (canon_val h.shape)
  rw [show textOf (canon (numsOf p)) = p from h.names] at this
  exact this
 have hwi : 0 < wideOf (numsOf p) := by
  rcases Nat.eq_zero_or_pos (wideOf (numsOf p)) with h0 | h0
  ·rw [h0] at hm; simp at hm
  ·exact h0
 have hr : m / wideOf (numsOf p) < (numsOf p).length := by rw [numsOf_length, Nat.div_lt_iff_lt_mul hwi]; exact hm
 have hc := Nat.mod_lt m hwi
 have hcr : Rect (wideOf (numsOf p)) (canon (numsOf p)) := by rw [canon_grid hR]; exact gridOf_rect _ _ _
 have h2 := rect_map hcr (fun x => 97 + x)
 rw [← h1] at h2
 have hcl : (canon (numsOf p)).length = (numsOf p).length := by simp [canon, canonL]
 unfold cellN
 have h3 := congrArg (fun R => valAt R (m / wideOf (numsOf p)) (m % wideOf (numsOf p))) h2
 have h4 := congrArg (fun R => valAt R (m / wideOf (numsOf p)) (m % wideOf (numsOf p))) (canon_grid hR)
 try dsimp only at h3 h4
 rw [valAt_gridOf (by rw [hcl]; exact hr) hc] at h3
 rw [valAt_gridOf hr hc] at h4
 omega
theorem rooms_len {rows : List (List Int)} (h : shapeOk rows = true) : (ordAll rows).length = (roomsOf rows).length := by
 rw [← stAt_all (shape_rect h)]
 exact (stAt_len rows (wideOf rows) _).1
theorem idx_iff {L : List Int} (hn : L.Nodup) {i : Nat} {x v : Int} (hx : L[i]? = some x) (hv : v ∈ L) : ((L.idxOf v : Int) = (i : Int) ↔ v = x) := by
 have hi := (List.getElem?_eq_some_iff.1 hx).1
 have hk := List.idxOf_lt_length_of_mem hv
 have e : L[L.idxOf v] = v := List.getElem_idxOf hk
 rw [List.getElem?_eq_getElem hi] at hx
 have hx := Option.some.inj hx
 constructor
 ·intro h
  have h : L.idxOf v = i := by omega
  subst h
  rw [← e, hx]
 ·rintro rfl
  have := nodup_inj hn hk hi (e.trans hx.symm)
  omega
theorem ordAll_nodup (rows : List (List Int)) : (ordAll rows).Nodup := ordL_nodup _ _ List.nodup_nil
theorem cell_mem {rows : List (List Int)} (h : shapeOk rows = true) (m : Nat) (hm : m < rows.length * wideOf rows) : valAt rows (m / wideOf rows) (m % wideOf rows) ∈ ordAll rows := by
 have := flatten_get rows (shape_rect h) m hm
 exact ordL_mem _ _ _ (List.mem_of_getElem? this)
theorem mem_cell {rows : List (List Int)} (h : shapeOk rows = true) (x : Int) (hx : x ∈ ordAll rows) : ∃ m, m < rows.length * wideOf rows ∧ valAt rows (m / wideOf rows) (m % wideOf rows) = x := by
 rcases ordL_sub _ _ x hx with h1 | h1
 ·cases h1
 ·obtain ⟨m, hm, e⟩ := List.mem_iff_getElem.1 h1
  have hl := flatten_length_le rows _ (shape_rect h)
  refine ⟨m, by omega, ?_⟩
  have := flatten_get rows (shape_rect h) m (by omega)
  rw [List.getElem?_eq_getElem hm, e] at this
  exact (Option.some.inj this).symm
theorem Canon.max {p : List ByteArray} (h : Canon p) : maxN (numsOf p) (wideOf (numsOf p)) (p.length * wideOf (numsOf p)) = (roomsOf (numsOf p)).length := by
 have hs := h.shape
 have hl := rooms_len hs
 have hc := h.cell
 obtain ⟨s1, s2, s3, s4, s5⟩ := (shapeOk_iff _).1 hs
 rw [numsOf_length] at s1 s2
 have hpos : 0 < p.length * wideOf (numsOf p) := Nat.mul_pos (by omega) (by omega)
 have hub := maxN_ub (numsOf p) (wideOf (numsOf p)) ((roomsOf (numsOf p)).length : Int) (by omega) (p.length * wideOf (numsOf p)) (fun m hm => by
  rw [hc m hm]
  have := List.idxOf_lt_length_of_mem (cell_mem hs m (by rw [numsOf_length]; exact hm))
  omega)
 have h0 := List.idxOf_lt_length_of_mem (cell_mem hs 0 (by rw [numsOf_length]; exact hpos))
 obtain ⟨y, hy⟩ : ∃ y, (ordAll (numsOf p))[(ordAll (numsOf p)).length - 1]? = some y := ⟨_, List.getElem?_eq_getElem (by omega)⟩
 obtain ⟨m, hm, hv⟩ := mem_cell hs y (List.mem_of_getElem? hy)
 rw [numsOf_length] at hm
 have hge := maxN_ge (numsOf p) (wideOf (numsOf p)) _ m hm
 have hi := (idx_iff (ordAll_nodup (numsOf p)) hy (List.mem_of_getElem? hy)).2 rfl
 rw [hc m hm, hv] at hge
 omega
end Go.Proofs.Ytaepgogafkmooaa.Hd
namespace Go.Proofs.Ytaepgogafkmooaa.Hd
open Go.RowKit Go.Proofs.YtaepgogafkmooaaW.PrintWords Go.Proofs.YtaepgogafkmooaaW.PrintLast Go.Proofs.YtaepgogafkmooaaW.PrintMore Go.Proofs.Ytaepgogafkmooaa.PB
set_option linter.unusedVariables false
set_option linter.unusedSimpArgs false
def Vals (rows : List (List Int)) (x : Int) : Prop := x ∈ rows.flatten
end Go.Proofs.Ytaepgogafkmooaa.Hd
namespace Go.Proofs.Ytaepgogafkmooaa.Hd
open Go.RowKit Go.Proofs.YtaepgogafkmooaaW.PrintWords Go.Proofs.YtaepgogafkmooaaW.PrintLast Go.Proofs.YtaepgogafkmooaaW.PrintMore Go.Proofs.Ytaepgogafkmooaa.PB
set_option linter.unusedVariables false
set_option linter.unusedSimpArgs false
abbrev Wl := S79
def runC (d : Nat → Bool) : Nat → List (Nat × Nat) × Option Nat
 | 0 => ([], none)
 | n + 1 => match runC d n with
  | (c, none) => (c, if d n then some n else none)
  | (c, some f) => if d n then (c, some f) else (c ++ [(f, n - f)], none)
def openR (n : Nat) : Option Nat → List (Nat × Nat)
 | none => []
 | some f => [(f, n - f)]
def runs (d : Nat → Bool) (n : Nat) : List (Nat × Nat) := (runC d n).1 ++ openR n (runC d n).2
theorem runC_inv (d : Nat → Bool) : ∀ n, (∀ x ∈ (runC d n).1, x.1 + x.2 ≤ n ∧ 1 ≤ x.2) ∧ (∀ f, (runC d n).2 = some f → f < n) ∧ (runC d n).1.length + (if (runC d n).2.isSome = true then 1 else 0) ≤ n
 | 0 => by simp [runC]
 | n + 1 => by
  obtain ⟨h1, h2, h3⟩ := runC_inv d n
  rcases hR : runC d n with ⟨c, o⟩
  rw [hR] at h1 h2 h3
  cases o with
  | none =>
   have e : runC d (n + 1) = (c, if d n then some n else none) := by simp only [runC, hR]
   rw [e]
   refine ⟨fun x hx => ?_, fun f hf => ?_, ?_⟩
   ·have := h1 x hx; omega
   ·dsimp only at hf
    split at hf
    ·injection hf with hf; omega
    ·cases hf
   ·dsimp only at h3 ⊢
    simp only [Option.isSome_none, Bool.false_eq_true, if_false] at h3
    split <;> simp <;> omega
  | some f =>
   have hf := h2 f rfl
   by_cases hd : d n = true
   ·have e : runC d (n + 1) = (c, some f) := by simp only [runC, hR, hd, if_true]
    rw [e]
    refine ⟨fun x hx => ?_, fun g hg => ?_, ?_⟩
    ·have := h1 x hx; omega
    ·injection hg with hg; omega
    ·dsimp only at h3 ⊢; omega
   ·have e : runC d (n + 1) = (c ++ [(f, n - f)], none) := by simp only [runC, hR, if_neg hd]
    rw [e]
    refine ⟨fun x hx => ?_, fun g hg => (by cases hg), ?_⟩
    ·rcases List.mem_append.1 hx with h | h
     ·have := h1 x h; omega
     ·simp at h; subst h; dsimp only; omega
    ·dsimp only at h3 ⊢
     simp only [Option.isSome_some, if_true] at h3
     simp
     omega
theorem runs_length (d : Nat → Bool) (n : Nat) : (runs d n).length ≤ n := by
 obtain ⟨h1, h2, h3⟩ := runC_inv d n
 unfold runs
 rw [List.length_append]
 cases h : (runC d n).2 with
 | none => rw [h] at h3; simp [openR] at h3 ⊢; exact h3
 | some f => rw [h] at h3; simp [openR] at h3 ⊢; exact h3
def trip (d : Nat → Nat → Bool) (n : Nat) : Nat → List (Nat × Nat × Nat)
 | 0 => []
 | j + 1 => trip d n j ++ (runs (d (j + 1)) n).map fun x => (j + 1, x.1, x.2)
theorem trip_length (d : Nat → Nat → Bool) (n : Nat) : ∀ j, (trip d n j).length ≤ j * n
 | 0 => by simp [trip]
 | j + 1 => by
  have := trip_length d n j
  have := runs_length (d (j + 1)) n
  simp only [trip, List.length_append, List.length_map]
  rw [Nat.succ_mul]
  omega
def mkW (lv : Bool) (t : Nat × Nat × Nat) : Wl := ⟨lv, (t.1 : Int), (t.2.1 : Int), (t.2.2 : Int)⟩
def difB (cs : List (List Int)) (lv : Bool) (line i : Nat) : Bool := if lv = true then valAt cs (line - 1) i != valAt cs line i else valAt cs i (line - 1) != valAt cs i line
def wallsOf (cs : List (List Int)) : List Wl := (trip (difB cs false) cs.length (wideOf cs - 1)).map (mkW false) ++ (trip (difB cs true) (wideOf cs) (cs.length - 1)).map (mkW true)
theorem rd_val (cs : List (List Int)) (r c : Nat) : rd (rd_L3 cs (r : Int)) (c : Int) = valAt cs r c := by
 unfold rd rd_L3 valAt
 rw [Int.toNat_natCast, Int.toNat_natCast]
theorem row_len {cs : List (List Int)} {rs : List Rc} (h : FloorOk cs rs) {r : Nat} (hr : r < cs.length) : (rd_L3 cs (r : Int)).length = wideOf cs := by
 unfold rd_L3
 rw [Int.toNat_natCast, List.getD_eq_getElem?_getD, List.getElem?_eq_getElem hr]
 exact h.cells.row _ (List.getElem_mem _)
def sidesOf (cs : List (List Int)) (lv : Bool) (line i : Nat) : Int × Int := if lv = true then (valAt cs (line - 1) i, valAt cs line i) else (valAt cs i (line - 1), valAt cs i line)
def linesOf (cs : List (List Int)) (lv : Bool) : Nat := if lv = true then cs.length else wideOf cs
def placesOf (cs : List (List Int)) (lv : Bool) : Nat := if lv = true then wideOf cs else cs.length
theorem sides_f {cs : List (List Int)} {rs : List Rc} (h : FloorOk cs rs) (lv : Bool) (line i : Nat) (h1 : 1 ≤ line) (h2 : line < linesOf cs lv) (h3 : i < placesOf cs lv) : impl_floor_sides.f cs rs lv line i = some (sidesOf cs lv line i) := by
 have q1 := h.h6
 have q2 := h.w6
 unfold impl_floor_sides.f
 cases lv with
 | true =>
  simp only [linesOf, placesOf, if_true] at h2 h3
  have e : wrap64 ((line : Int) - 1) = ((line - 1 : Nat) : Int) := by rw [wrap64_small (by omega) (by omega)]; omega
  rw [e, if_pos rfl, if_pos (by omega), if_pos (by omega), if_pos (by omega), row_len h (by omega), if_pos (by omega), if_pos (by omega), if_pos (by omega), row_len h (by omega), if_pos (by omega), rd_val, rd_val]
  rfl
 | false =>
  simp only [linesOf, placesOf, Bool.false_eq_true, if_false] at h2 h3
  have e : wrap64 ((line : Int) - 1) = ((line - 1 : Nat) : Int) := by rw [wrap64_small (by omega) (by omega)]; omega
  rw [e, if_neg (by simp), if_pos (by omega), if_pos (by omega), if_pos (by omega), row_len h (by omega), if_pos (by omega), if_pos (by omega), if_pos (by omega), rd_val, rd_val]
  rfl
theorem differ_f {cs : List (List Int)} {rs : List Rc} (h : FloorOk cs rs) (lv : Bool) (line i : Nat) (h1 : 1 ≤ line) (h2 : line < linesOf cs lv) (h3 : i < placesOf cs lv) : impl_floor_differ.f cs rs lv line i = some (difB cs lv line i) := by
 unfold impl_floor_differ.f
 rw [sides_f h lv line i h1 h2 h3]
 unfold sidesOf difB
 cases lv <;> rfl
theorem set_last {α : Type} (x : List α) (a b : α) : (x ++ [a]).set x.length b = x ++ [b] := by
 rw [List.set_append_right _ _ (Nat.le_refl _), Nat.sub_self, List.set_cons_zero]
theorem walls_l2 (cs : List (List Int)) (rs : List Rc) (lv : Bool) (line : Nat) (hl : line ≤ 100) (d : Nat → Bool) (N : Nat) (hN : N ≤ 100) (hd : ∀ i, i < N → impl_floor_differ.f cs rs lv line i = some (d i)) (x6 x7 x13 x14 : Int) (x12 : List Bool) (pre : List Wl) (hpre : pre.length ≤ 1000) (r : List Wl)
  (hnext : Evs (fun k => impl_floor_walls.l1 k (pre ++ (runs d N).map (fun x => mkW lv (line, x.1, x.2))) lv x6 x7 ((line + 1 : Nat) : Int) x12 x13 x14 cs rs) r) :
  ∀ m i, i + m = N → Evs (fun k => impl_floor_walls.l2 k (pre ++ (runs d i).map (fun x => mkW lv (line, x.1, x.2))) lv x6 x7 (line : Int) (runC d i).2.isSome x12 x13 x14 (N : Int) (i : Int) cs rs) r := by
 intro m
 induction m with
 | zero =>
  intro i hi
  obtain rfl : i = N := by omega
  refine Evs.step (fun k => ?_) hnext
  conv => lhs; unfold impl_floor_walls.l2
  rw [if_neg (by omega), wrap_succ (by omega)]
 | succ m ih =>
  intro i hi
  have hnx := ih (i + 1) (by omega)
  have hdi := hd i (by omega)
  have hrl := runs_length d i
  obtain ⟨g1, g2, g3⟩ := runC_inv d i
  rcases hR : runC d i with ⟨c, o⟩
  rw [hR] at g1 g2 g3
  have e1 : runs d i = c ++ openR i o := by unfold runs; rw [hR]
  rw [e1] at hrl ⊢
  rw [List.length_append] at hrl
  cases hb : d i with
  | true =>
   rw [hb] at hdi
   cases o with
   | none =>
    have e2 : runC d (i + 1) = (c, some i) := by simp only [runC, hR, hb, if_true]
    have e3 : runs d (i + 1) = c ++ [(i, 1)] := by unfold runs; rw [e2]; simp [openR]
    rw [e2, e3] at hnx
    refine Evs.step (h := fun k => impl_floor_walls.j4 k (pre ++ (c ++ openR i none).map (fun x => mkW lv (line, x.1, x.2))) lv x6 x7 (line : Int) (i : Int) true x12 x13 x14 (N : Int) (i : Int) false cs rs) (fun k => ?_) (Evs.step (fun k => ?_) hnx)
    ·conv => lhs; unfold impl_floor_walls.l2
     rw [if_pos (by omega), hdi]
     rfl
    ·conv => lhs; unfold impl_floor_walls.j4
     rw [if_neg (by simp), if_pos rfl, if_pos (by simp [openR]; omega), wrap_succ (by omega)]
     simp [openR, mkW]
   | some f =>
    have hf := g2 f rfl
    have e2 : runC d (i + 1) = (c, some f) := by simp only [runC, hR, hb, if_true]
    have e3 : runs d (i + 1) = c ++ [(f, i + 1 - f)] := by unfold runs; rw [e2]; simp [openR]
    rw [e2, e3] at hnx
    have hap : pre ++ (c ++ openR i (some f)).map (fun x => mkW lv (line, x.1, x.2)) = (pre ++ c.map (fun x => mkW lv (line, x.1, x.2))) ++ [mkW lv (line, f, i - f)] := by simp [openR]
    rw [hap]
    have hap2 : pre ++ (c ++ [(f, i + 1 - f)]).map (fun x => mkW lv (line, x.1, x.2)) = (pre ++ c.map (fun x => mkW lv (line, x.1, x.2))) ++ [mkW lv (line, f, i + 1 - f)] := by simp
    rw [hap2] at hnx
    have hlen : (pre ++ c.map (fun x => mkW lv (line, x.1, x.2))).length ≤ 1100 := by simp [openR] at hrl ⊢; omega
    generalize pre ++ c.map (fun x => mkW lv (line, x.1, x.2)) = q at *
    refine Evs.step (h := fun k => impl_floor_walls.j4 k (q ++ [mkW lv (line, f, i - f)]) lv x6 x7 (line : Int) (i : Int) true x12 x13 x14 (N : Int) (i : Int) true cs rs) (fun k => ?_) (Evs.step (fun k => ?_) hnx)
    ·conv => lhs; unfold impl_floor_walls.l2
     rw [if_pos (by omega), hdi]
     rfl
    ·conv => lhs; unfold impl_floor_walls.j4
     have e4 : wrap64 (((q ++ [mkW lv (line, f, i - f)]).length : Int) - 1) = (q.length : Int) := by
      have hq : ((q ++ [mkW lv (line, f, i - f)]).length : Int) = (q.length : Int) + 1 := by simp
      rw [hq, wrap64_small (by omega) (by omega)]; omega
     have e5 : rd_T79 (q ++ [mkW lv (line, f, i - f)]) (q.length : Int) = mkW lv (line, f, i - f) := by
      unfold rd_T79
      rw [Int.toNat_natCast, List.getD_eq_getElem?_getD, List.getElem?_append_right (Nat.le_refl _), Nat.sub_self]
      rfl
     have e6 : wrap64 ((mkW lv (line, f, i - f)).f3 + 1) = ((i + 1 - f : Nat) : Int) := by
      show wrap64 (((i - f : Nat) : Int) + 1) = _
      rw [wrap64_small (by omega) (by omega)]; omega
     rw [if_pos rfl, e4, if_pos (by omega), if_pos (by simp; omega), e5, e6, Int.toNat_natCast, set_last, wrap_succ (by omega)]
     rfl
  | false =>
   rw [hb] at hdi
   have e3 : runs d (i + 1) = c ++ openR i o ∧ (runC d (i + 1)).2.isSome = false := by
    cases o with
    | none =>
     have e2 : runC d (i + 1) = (c, none) := by simp [runC, hR, hb]
     unfold runs
     rw [e2]
     exact ⟨rfl, rfl⟩
    | some f =>
     have e2 : runC d (i + 1) = (c ++ [(f, i - f)], none) := by simp [runC, hR, hb]
     unfold runs
     rw [e2]
     exact ⟨by simp [openR], rfl⟩
   rw [e3.1, e3.2] at hnx
   refine Evs.step (h := fun k => impl_floor_walls.j4 k (pre ++ (c ++ openR i o).map (fun x => mkW lv (line, x.1, x.2))) lv x6 x7 (line : Int) (i : Int) false x12 x13 x14 (N : Int) (i : Int) false cs rs) (fun k => ?_) (Evs.step (fun k => ?_) hnx)
   ·conv => lhs; unfold impl_floor_walls.l2
    rw [if_pos (by omega), hdi]
    rfl
   ·conv => lhs; unfold impl_floor_walls.j4
    rw [if_neg (by simp), if_neg (by simp), wrap_succ (by omega)]
theorem walls_l1 {cs : List (List Int)} {rs : List Rc} (h : FloorOk cs rs) (lv : Bool) (x13 x14 : Int) (hx14 : 0 ≤ x14) (hx14' : x14 ≤ 1000) (x12 : List Bool) (pre : List Wl) (hpre : pre.length ≤ 500) (r : List Wl)
  (hnext : Evs (fun k => impl_floor_walls.l0 k (pre ++ (trip (difB cs lv) (placesOf cs lv) (linesOf cs lv - 1)).map (mkW lv)) x12 x13 (x14 + 1) cs rs) r) :
  ∀ m j, j + 1 + m = linesOf cs lv → Evs (fun k => impl_floor_walls.l1 k (pre ++ (trip (difB cs lv) (placesOf cs lv) j).map (mkW lv)) lv (linesOf cs lv : Int) (placesOf cs lv : Int) ((j + 1 : Nat) : Int) x12 x13 x14 cs rs) r := by
 have q1 := h.h6
 have q2 := h.w6
 have hN : placesOf cs lv ≤ 6 := by unfold placesOf; split <;> omega
 have hL : linesOf cs lv ≤ 6 := by unfold linesOf; split <;> omega
 intro m
 induction m with
 | zero =>
  intro j hj
  have e : linesOf cs lv - 1 = j := by omega
  rw [e] at hnext
  refine Evs.step (fun k => ?_) hnext
  conv => lhs; unfold impl_floor_walls.l1
  rw [if_neg (by omega), wrap64_small (by omega) (by omega)]
 | succ m ih =>
  intro j hj
  have hnx := ih (j + 1) (by omega)
  have ht := trip_length (difB cs lv) (placesOf cs lv) j
  have hm : j * placesOf cs lv ≤ 6 * 6 := Nat.mul_le_mul (by omega) hN
  have e : pre ++ (trip (difB cs lv) (placesOf cs lv) (j + 1)).map (mkW lv) = (pre ++ (trip (difB cs lv) (placesOf cs lv) j).map (mkW lv)) ++ (runs (difB cs lv (j + 1)) (placesOf cs lv)).map (fun x => mkW lv (j + 1, x.1, x.2)) := by
   simp [trip, Function.comp_def]
  rw [e] at hnx
  have := walls_l2 cs rs lv (j + 1) (by omega) (difB cs lv (j + 1)) (placesOf cs lv) (by omega) (fun i hi => differ_f h lv (j + 1) i (by omega) (by omega) hi) (linesOf cs lv) (placesOf cs lv) x13 x14 x12 (pre ++ (trip (difB cs lv) (placesOf cs lv) j).map (mkW lv)) (by simp; omega) r hnx (placesOf cs lv) 0 (by omega)
  refine Evs.step (fun k => ?_) this
  conv => lhs; unfold impl_floor_walls.l1
  rw [if_pos (by omega)]
  simp [runs, runC, openR]
theorem walls_ev {cs : List (List Int)} {rs : List Rc} (h : FloorOk cs rs) : Evs (fun k => impl_floor_walls.f k cs rs) (wallsOf cs) := by
 have q1 := h.h6
 have q2 := h.w6
 have q3 := h.h1
 have q4 := h.w1
 have ht := trip_length (difB cs false) cs.length (wideOf cs - 1)
 have hm : (wideOf cs - 1) * cs.length ≤ 6 * 6 := Nat.mul_le_mul (by omega) q1
 have end_ : Evs (fun k => impl_floor_walls.l0 k (wallsOf cs) [false, true] 2 2 cs rs) (wallsOf cs) := by
  refine Evs.step (h := fun _ => some (wallsOf cs)) (fun k => ?_) (Evs.const _)
  conv => lhs; unfold impl_floor_walls.l0
  rw [if_neg (by omega)]
 have two := walls_l1 h true 2 1 (by omega) (by omega) [false, true] ((trip (difB cs false) cs.length (wideOf cs - 1)).map (mkW false)) (by simp; omega) _ end_ (cs.length - 1) 0 (by show 0 + 1 + _ = cs.length; omega)
 simp only [trip, List.map_nil, List.append_nil] at two
 have two' : Evs (fun k => impl_floor_walls.l0 k ((trip (difB cs false) cs.length (wideOf cs - 1)).map (mkW false)) [false, true] 2 1 cs rs) (wallsOf cs) := by
  refine Evs.step (h := fun k => impl_floor_walls.j1 k ((trip (difB cs false) cs.length (wideOf cs - 1)).map (mkW false)) true (cs.length : Int) (wideOf cs : Int) [false, true] 2 1 cs rs) (fun k => ?_) (Evs.step (fun k => ?_) two)
  ·conv => lhs; unfold impl_floor_walls.l0
   rw [if_pos (by omega), if_pos (by omega), if_pos (by simp), wide_f h, high_f]
   rfl
  ·conv => lhs; unfold impl_floor_walls.j1
   rfl
 have one := walls_l1 h false 2 0 (by omega) (by omega) [false, true] [] (by simp) _ (by rw [List.nil_append]; exact two') (wideOf cs - 1) 0 (by show 0 + 1 + _ = wideOf cs; omega)
 simp only [trip, List.map_nil, List.append_nil] at one
 refine Evs.congr (h := fun k => impl_floor_walls.l0 k [] [false, true] 2 0 cs rs) (fun k => rfl) ?_
 refine Evs.step (h := fun k => impl_floor_walls.j1 k [] false (wideOf cs : Int) (cs.length : Int) [false, true] 2 0 cs rs) (fun k => ?_) (Evs.step (fun k => ?_) one)
 ·conv => lhs; unfold impl_floor_walls.l0
  rw [if_pos (by omega), if_pos (by omega), if_pos (by simp), wide_f h, high_f]
  rfl
 ·conv => lhs; unfold impl_floor_walls.j1
  rfl
def upT (cs : List (List Int)) : List (Nat × Nat × Nat) := trip (difB cs false) cs.length (wideOf cs - 1)
def levT (cs : List (List Int)) : List (Nat × Nat × Nat) := trip (difB cs true) (wideOf cs) (cs.length - 1)
theorem wallsOf_eq (cs : List (List Int)) : wallsOf cs = (upT cs).map (mkW false) ++ (levT cs).map (mkW true) := rfl
end Go.Proofs.Ytaepgogafkmooaa.Hd
namespace Go.Proofs.Ytaepgogafkmooaa.Hd
open Go.RowKit Go.Proofs.YtaepgogafkmooaaW.PrintWords Go.Proofs.YtaepgogafkmooaaW.PrintLast Go.Proofs.YtaepgogafkmooaaW.PrintMore Go.Proofs.Ytaepgogafkmooaa.PB
set_option linter.unusedVariables false
set_option linter.unusedSimpArgs false
theorem wall_bound {cs : List (List Int)} {rs : List Rc} (h : FloorOk cs rs) : (upT cs).length ≤ 36 ∧ (levT cs).length ≤ 36 := by
 have q1 := h.h6
 have q2 := h.w6
 have h1 := trip_length (difB cs false) cs.length (wideOf cs - 1)
 have h2 := trip_length (difB cs true) (wideOf cs) (cs.length - 1)
 have m1 : (wideOf cs - 1) * cs.length ≤ 6 * 6 := Nat.mul_le_mul (by omega) q1
 have m2 : (cs.length - 1) * wideOf cs ≤ 6 * 6 := Nat.mul_le_mul (by omega) q2
 unfold upT levT
 omega
def four (kind : Int) (t : Nat × Nat × Nat) : List Int := [kind, (t.1 : Int), (t.2.1 : Int), (t.2.2 : Int)]
def walls4 (cs : List (List Int)) : List (List Int) := (upT cs).map (four 0) ++ (levT cs).map (four 1)
def allT (cs : List (List Int)) : List (Nat × Nat × Nat) := upT cs ++ levT cs
end Go.Proofs.Ytaepgogafkmooaa.Hd
namespace Go.Proofs.Ytaepgogafkmooaa.Hd
open Go.RowKit Go.Proofs.YtaepgogafkmooaaW.PrintWords Go.Proofs.YtaepgogafkmooaaW.PrintLast Go.Proofs.YtaepgogafkmooaaW.PrintMore Go.Proofs.Ytaepgogafkmooaa.PB
set_option linter.unusedVariables false
set_option linter.unusedSimpArgs false
abbrev kWl := k79
def zeroW : Wl := ⟨false, 0, 0, 0⟩
theorem wl_cells {W : World} {B g n cap : Nat} {ok : Nat → Prop} {ws : List Wl} (h : Kd.R kWl 79 W B ok (.slice (some ⟨g, 0, none⟩) n cap) ws) (k : Nat) (hk : k < ws.length) :
  W.cell? ⟨g, k * 4, none⟩ = some (.bool (ws.getD k zeroW).f0) ∧ W.cell? ⟨g, k * 4 + 1, none⟩ = some (.int .i64 (ws.getD k zeroW).f1) ∧ W.cell? ⟨g, k * 4 + 2, none⟩ = some (.int .i64 (ws.getD k zeroW).f2) ∧ W.cell? ⟨g, k * 4 + 3, none⟩ = some (.int .i64 (ws.getD k zeroW).f3) := by
 obtain ⟨A, c, e, hl, hC⟩ := Kd.R_reads h
 injection e with e1 e2 e3
 subst e1; subst e2
 obtain ⟨ad, e4, h0, h1, h2, h3⟩ := at_T79 hC (k : Int) (by omega) (by omega)
 injection e4 with e4
 subst e4
 have e5 : rd_T79 ws (k : Int) = ws.getD k zeroW := by
  unfold rd_T79
  rw [show ((k : Int).toNat) = k by omega]
  rfl
 rw [show ((k : Int).toNat) = k by omega, add_plain, e5] at h0 h1 h2 h3
 exact ⟨h0, h1, h2, h3⟩
theorem wallsOf_length (cs : List (List Int)) : (wallsOf cs).length = (allT cs).length := by simp [wallsOf_eq, allT]
theorem wallsOf_bound {cs : List (List Int)} {rs : List Rc} (h : FloorOk cs rs) : (wallsOf cs).length ≤ 72 := by
 have := wall_bound h
 rw [wallsOf_length]
 unfold allT
 rw [List.length_append]
 omega
theorem take_snoc_w (L : List Wl) (i : Nat) (hi : i < L.length) : L.take (i + 1) = L.take i ++ [L.getD i zeroW] := by
 rw [List.take_add_one, List.getElem?_eq_getElem hi]
 simp [List.getD_eq_getElem?_getD, List.getElem?_eq_getElem hi]
end Go.Proofs.Ytaepgogafkmooaa.Hd
namespace Go.Proofs.Ytaepgogafkmooaa.Hd
open Go.RowKit Go.Proofs.YtaepgogafkmooaaW.PrintWords Go.Proofs.YtaepgogafkmooaaW.PrintLast Go.Proofs.YtaepgogafkmooaaW.PrintMore Go.Proofs.Ytaepgogafkmooaa.PB
set_option linter.unusedVariables false
set_option linter.unusedSimpArgs false
def endOf (cs : List (List Int)) (lv : Bool) : Int := if lv = true then (wideOf cs : Int) else (cs.length : Int)
theorem end_f {cs : List (List Int)} {rs : List Rc} (h : FloorOk cs rs) (lv : Bool) (a b c : Int) : impl_floor_end.f cs rs lv a b c = some (endOf cs lv) := by
 unfold impl_floor_end.f endOf
 cases lv with
 | true => rw [if_pos rfl, if_pos rfl, wide_f h]; rfl
 | false => rw [if_neg (by simp), if_neg (by simp), high_f]; rfl
end Go.Proofs.Ytaepgogafkmooaa.Hd
namespace Go.Proofs.Ytaepgogafkmooaa.Hd
open Go.RowKit Go.Proofs.YtaepgogafkmooaaW.PrintWords Go.Proofs.YtaepgogafkmooaaW.PrintLast Go.Proofs.YtaepgogafkmooaaW.PrintMore Go.Proofs.Ytaepgogafkmooaa.PB
set_option linter.unusedVariables false
set_option linter.unusedSimpArgs false
theorem rdT_wall (ws : List Wl) (i : Nat) : rd_T79 ws (i : Int) = ws.getD i zeroW := by
 unfold rd_T79
 rw [Int.toNat_natCast]
 rfl
def cutW (cs : List (List Int)) (a : Wl) : Bool := decide (a.f3 = endOf cs a.f0)
def cutP (cs : List (List Int)) (i : Nat) : List Nat := (List.range i).filter fun j => cutW cs ((wallsOf cs).getD j zeroW)
def cutN (cs : List (List Int)) : List Nat := cutP cs (wallsOf cs).length
def toI (L : List Nat) : List Int := L.map fun (n : Nat) => (n : Int)
theorem cutP_succ (cs : List (List Int)) (i : Nat) : cutP cs (i + 1) = cutP cs i ++ (if cutW cs ((wallsOf cs).getD i zeroW) = true then [i] else []) := by
 unfold cutP
 rw [List.range_succ, List.filter_append, List.filter_cons, List.filter_nil]
theorem cutP_length (cs : List (List Int)) (i : Nat) : (cutP cs i).length ≤ i := by
 unfold cutP
 have := List.length_filter_le (fun j => cutW cs ((wallsOf cs).getD j zeroW)) (List.range i)
 rw [List.length_range] at this
 exact this
theorem toI_length (L : List Nat) : (toI L).length = L.length := by simp [toI]
theorem toI_append (L M : List Nat) : toI (L ++ M) = toI L ++ toI M := by simp [toI]
theorem cutting_l0 {cs : List (List Int)} {rs : List Rc} (h : FloorOk cs rs) : ∀ m i, i + m = (wallsOf cs).length → Evs (fun k => impl_floor_cutting.l0 k (toI (cutP cs i)) (wallsOf cs) ((wallsOf cs).length : Int) (i : Int) cs rs) (toI (cutN cs)) := by
 have hb := wallsOf_bound h
 intro m
 induction m with
 | zero =>
  intro i hi
  obtain rfl : i = (wallsOf cs).length := by omega
  refine Evs.step (h := fun _ => some (toI (cutN cs))) (fun k => ?_) (Evs.const _)
  conv => lhs; unfold impl_floor_cutting.l0
  rw [if_neg (by omega)]
  rfl
 | succ m ih =>
  intro i hi
  have hnx := ih (i + 1) (by omega)
  have hl := cutP_length cs i
  rw [cutP_succ, toI_append] at hnx
  refine Evs.step (fun k => ?_) hnx
  conv => lhs; unfold impl_floor_cutting.l0
  rw [if_pos (by omega), if_pos (by omega), if_pos (by omega), rdT_wall, end_f h, Option.bind_some, wrap_succ (by omega)]
  by_cases hc : ((wallsOf cs).getD i zeroW).f3 = endOf cs ((wallsOf cs).getD i zeroW).f0
  ·rw [if_pos hc, if_pos (by rw [toI_length]; omega), if_pos (show cutW cs ((wallsOf cs).getD i zeroW) = true from decide_eq_true hc)]
   rfl
  ·rw [if_neg hc, if_neg (show ¬ cutW cs ((wallsOf cs).getD i zeroW) = true by unfold cutW; rw [decide_eq_false hc]; simp)]
   rw [show toI [] = [] from rfl, List.append_nil]
theorem cutting_ev {cs : List (List Int)} {rs : List Rc} (h : FloorOk cs rs) : Evs (fun k => impl_floor_cutting.f k cs rs) (toI (cutN cs)) :=
 Evs.bind (walls_ev h) (cutting_l0 h (wallsOf cs).length 0 (by omega))
def fourW (a : Wl) : List Int := [if a.f0 = true then 1 else 0, a.f1, a.f2, a.f3]
theorem walls4_eq (cs : List (List Int)) : walls4 cs = (wallsOf cs).map fourW := by
 unfold walls4
 rw [wallsOf_eq, List.map_append, List.map_map, List.map_map]
 rfl
def cutManyF (p : List ByteArray) : Int × Bool := match floorF p with
 | none => (0, false)
 | some (cs, _) => ((cutN cs).length, true)
def headF : List Nat → Int × Bool
 | [] => (0, false)
 | i :: _ => ((i : Int), true)
def cutFirstF (p : List ByteArray) : Int × Bool := match floorF p with
 | none => (0, false)
 | some (cs, _) => headF (cutN cs)
def wallListF (p : List ByteArray) : List (List Int) × Bool := match floorF p with
 | none => ([], false)
 | some (cs, _) => (walls4 cs, true)
end Go.Proofs.Ytaepgogafkmooaa.Hd
namespace Go.Proofs.Ytaepgogafkmooaa.Hd
open Go.RowKit Go.Proofs.YtaepgogafkmooaaW.PrintWords Go.Proofs.YtaepgogafkmooaaW.PrintLast Go.Proofs.YtaepgogafkmooaaW.PrintMore Go.Proofs.Ytaepgogafkmooaa.PB
set_option linter.unusedVariables false
set_option linter.unusedSimpArgs false
set_option maxHeartbeats 4000000 in
set_option maxRecDepth 100000 in
theorem CutMany_calls (A0 : Option Addr) (c0 : Nat) (l0 : List ByteArray) (w : World) (hr0 : Kd.C Kd.string w A0 l0.length l0) (hc0 : l0.length ≤ c0) (hp : smallP l0) :
  Calls Try.prog 45 #[.slice A0 l0.length c0] w fun e w' => e = .returned (.tuple #[.int .i64 (cutManyF l0).1, .bool (cutManyF l0).2]) ∧ Below w.heap.size w w' := by
 have HR := Aside0.mk hr0
 have HC := Aside0.mk hc0
 have HP := Aside0.mk hp
 clear hr0 hc0 hp
 generalize hM : cutManyF l0 = res
 have HM := Aside0.mk hM
 clear hM
 generalize hF : floorF l0 = t
 have HF := Aside0.mk hF
 clear hF
 rcases t with _ | ⟨cs, rs⟩
 ·have e : res = (0, false) := by rw [← HM.out]; unfold cutManyF; rw [HF.out]
  subst e
  go_enter Try.func45, Try.ntmps45
  go_wp2_with (first
   | (go_at_call 66; refine (floorOf_calls A0 c0 l0 _ HR.out HC.out HP.out).mono ?_; rw [HF.out]; rintro e w8 ⟨hb8, v8, b8, rfl, rfl⟩; have HB8 := Aside0.mk hb8; clear hb8))
  go_ret2
  exact ⟨rfl, HB8.out⟩
 ·have e : res = (((cutN cs).length : Int), true) := by rw [← HM.out]; unfold cutManyF; rw [HF.out]
  have HE := Aside0.mk e
  have hok := floorF_ok HF.out
  obtain ⟨K, hK⟩ := cutting_ev hok
  have HW := Aside0.mk (hK K (Nat.le_refl K))
  have hl : (toI (cutN cs)).length = (cutN cs).length := toI_length _
  have HL := Aside0.mk hl
  clear hK e hl hok
  generalize toI (cutN cs) = cl at *
  go_enter Try.func45, Try.ntmps45
  go_wp2_with (first
   | (go_at_call 66; refine (floorOf_calls A0 c0 l0 _ HR.out HC.out HP.out).mono ?_; rw [HF.out]; rintro e w8 ⟨hb8, v8, b8, rfl, rfl, g, rfl, hfl⟩; have HB8 := Aside0.mk hb8; have HFl8 := Aside0.mk hfl; clear hb8 hfl)
   | (go_at_call 97; refine (impl_floor_cutting.calls K g cs rs cl _ _ HFl8.out (Below.refl _ _) HW.out).mono ?_; rintro e w9 ⟨v9, rfl, hr9, -, hb9, -⟩; obtain ⟨A9, c9, e9⟩ := Kd.R_slice hr9; subst e9; have HB9 := Aside0.mk (below_step HB8.out hb9); clear hb9 hr9))
  go_ret2
  rw [HE.out, ← HL.out]
  exact ⟨rfl, HB9.out⟩
set_option maxHeartbeats 4000000 in
set_option maxRecDepth 100000 in
theorem CutFirst_calls (A0 : Option Addr) (c0 : Nat) (l0 : List ByteArray) (w : World) (hr0 : Kd.C Kd.string w A0 l0.length l0) (hc0 : l0.length ≤ c0) (hp : smallP l0) :
  Calls Try.prog 43 #[.slice A0 l0.length c0] w fun e w' => e = .returned (.tuple #[.int .i64 (cutFirstF l0).1, .bool (cutFirstF l0).2]) ∧ Below w.heap.size w w' := by
 have HR := Aside0.mk hr0
 have HC := Aside0.mk hc0
 have HP := Aside0.mk hp
 clear hr0 hc0 hp
 generalize hM : cutFirstF l0 = res
 have HM := Aside0.mk hM
 clear hM
 generalize hF : floorF l0 = t
 have HF := Aside0.mk hF
 clear hF
 rcases t with _ | ⟨cs, rs⟩
 ·have e : res = (0, false) := by rw [← HM.out]; unfold cutFirstF; rw [HF.out]
  subst e
  go_enter Try.func43, Try.ntmps43
  go_wp2_with (first
   | (go_at_call 66; refine (floorOf_calls A0 c0 l0 _ HR.out HC.out HP.out).mono ?_; rw [HF.out]; rintro e w8 ⟨hb8, v8, b8, rfl, rfl⟩; have HB8 := Aside0.mk hb8; clear hb8))
  go_ret2
  exact ⟨rfl, HB8.out⟩
 ·have e : res = headF (cutN cs) := by rw [← HM.out]; unfold cutFirstF; rw [HF.out]
  have hok := floorF_ok HF.out
  obtain ⟨K, hK⟩ := cutting_ev hok
  have HW := Aside0.mk (hK K (Nat.le_refl K))
  have hle : (cutN cs).length ≤ 72 := by
   have := cutP_length cs (wallsOf cs).length
   have := wallsOf_bound hok
   unfold cutN
   omega
  clear hK hok
  generalize cutN cs = cn at *
  rcases cn with _ | ⟨i, cn⟩
  ·have HE := Aside0.mk (show res = (0, false) from e)
   clear e hle
   go_enter Try.func43, Try.ntmps43
   go_wp2_with (first
    | (go_at_call 66; refine (floorOf_calls A0 c0 l0 _ HR.out HC.out HP.out).mono ?_; rw [HF.out]; rintro e w8 ⟨hb8, v8, b8, rfl, rfl, g, rfl, hfl⟩; have HB8 := Aside0.mk hb8; have HFl8 := Aside0.mk hfl; clear hb8 hfl)
    | (go_at_call 97; refine (impl_floor_cutting.calls K g cs rs (toI []) _ _ HFl8.out (Below.refl _ _) HW.out).mono ?_; rintro e w9 ⟨v9, rfl, hr9, -, hb9, -⟩; obtain ⟨A9, c9, e9⟩ := Kd.R_slice hr9; subst e9; rw [show (toI []).length = 0 from rfl]; have HB9 := Aside0.mk (below_step HB8.out hb9); clear hb9 hr9))
   go_ret2
   rw [HE.out]
   exact ⟨rfl, HB9.out⟩
  ·have HE := Aside0.mk (show res = ((i : Int), true) from e)
   have hl : (toI (i :: cn)).length = cn.length + 1 := by rw [toI_length]; rfl
   have h0 : rd (toI (i :: cn)) 0 = (i : Int) := rfl
   have HL := Aside0.mk hl
   have H0 := Aside0.mk h0
   rw [List.length_cons] at hle
   clear e hl h0
   generalize toI (i :: cn) = cl at *
   have d0 : (((cn.length + 1 : Nat) : Int) == 0) = false := by rw [beq_eq_false_iff_ne]; omega
   have d1 : (0 : Int) < ((cn.length + 1 : Nat) : Int) := by omega
   go_enter Try.func43, Try.ntmps43
   go_wp2_with (first
    | (go_at_call 66; refine (floorOf_calls A0 c0 l0 _ HR.out HC.out HP.out).mono ?_; rw [HF.out]; rintro e w8 ⟨hb8, v8, b8, rfl, rfl, g, rfl, hfl⟩; have HB8 := Aside0.mk hb8; have HFl8 := Aside0.mk hfl; clear hb8 hfl)
    | (go_at_call 97; refine (impl_floor_cutting.calls K g cs rs cl _ _ HFl8.out (Below.refl _ _) HW.out).mono ?_; rintro e w9 ⟨v9, rfl, hr9, -, hb9, -⟩; obtain ⟨A8, c8, e8⟩ := Kd.R_slice hr9; subst e8; rw [HL.out]; have HB9 := Aside0.mk (below_step HB8.out hb9); have HF9 := Aside0.mk (HFl8.out.below hb9); clear hb9 hr9)
    | (go_at_call 97; refine (impl_floor_cutting.calls K g cs rs cl _ _ HF9.out (Below.refl _ _) HW.out).mono ?_; rintro e w10 ⟨v10, rfl, hr10, -, hb10, -⟩; obtain ⟨g9, c9, e9, -, -, -, -⟩ := Kd.R_form hr10 (by rw [HL.out]; omega); subst e9; have hx10 := (Kd.R_celln (0 : Int) hr10 0 (by omega) (by rw [HL.out]; omega)).1; rw [show rdOf (0 : Int) cl 0 = (i : Int) from H0.out] at hx10; replace hx10 : w10.cell? ⟨g9, 0, none⟩ = some (.int .i64 (i : Int)) := hx10; rw [HL.out]; have HB10 := Aside0.mk (below_step HB9.out hb10); clear hb10 hr10))
   go_ret2
   rw [HE.out]
   exact ⟨rfl, HB10.out⟩
end Go.Proofs.Ytaepgogafkmooaa.Hd
namespace Go.Proofs.Ytaepgogafkmooaa.Hd
open Go.RowKit Go.Proofs.YtaepgogafkmooaaW.PrintWords Go.Proofs.YtaepgogafkmooaaW.PrintLast Go.Proofs.YtaepgogafkmooaaW.PrintMore Go.Proofs.Ytaepgogafkmooaa.PB
set_option linter.unusedVariables false
set_option linter.unusedSimpArgs false
def impl_CutFirst.f (l0 : List ByteArray) : Option (Int × Bool) := if smallB l0 = true then some (cutFirstF l0) else none
theorem impl_CutFirst.calls (A0 : Option Addr) (c0 : Nat) (l0 : List ByteArray) (r1 : Int) (r2 : Bool) (w : World) (hr0 : Kd.C Kd.string w A0 l0.length l0) (hc0 : l0.length ≤ c0) (h : impl_CutFirst.f l0 = some (r1, r2)) :
  Calls Try.prog 43 #[.slice A0 l0.length c0] w fun e w' => e = .returned (.tuple #[.int .i64 r1, .bool r2]) ∧ Below w.heap.size w w' := by
 unfold impl_CutFirst.f at h
 split at h
 ·rename_i hs
  have e := Option.some.inj h
  have := CutFirst_calls A0 c0 l0 w hr0 hc0 ((smallB_iff _).1 hs)
  rw [e] at this
  exact this
 ·cases h
end Go.Proofs.Ytaepgogafkmooaa.Hd
namespace Go.Proofs.Ytaepgogafkmooaa.Hd
open Go.RowKit Go.Proofs.YtaepgogafkmooaaW.PrintWords Go.Proofs.YtaepgogafkmooaaW.PrintLast Go.Proofs.YtaepgogafkmooaaW.PrintMore Go.Proofs.Ytaepgogafkmooaa.PB
set_option linter.unusedVariables false
set_option linter.unusedSimpArgs false
set_option maxHeartbeats 4000000 in
set_option maxRecDepth 100000 in
theorem WallList_calls (A0 : Option Addr) (c0 : Nat) (l0 : List ByteArray) (w : World) (hr0 : Kd.C Kd.string w A0 l0.length l0) (hc0 : l0.length ≤ c0) (hp : smallP l0) :
  Calls Try.prog 24 #[.slice A0 l0.length c0] w fun e w' => ∃ v0_ : Value, e = .returned (.tuple #[v0_, .bool (wallListF l0).2]) ∧ Kd.S (Kd.slice 3 (Kd.int .i64)) 39 w' w.heap.size (fun _ => True) v0_ (wallListF l0).1 ∧ Below w.heap.size w w' := by
 have HR := Aside0.mk hr0
 have HC := Aside0.mk hc0
 have HP := Aside0.mk hp
 clear hr0 hc0 hp
 generalize hM : wallListF l0 = res
 have HM := Aside0.mk hM
 clear hM
 generalize hF : floorF l0 = t
 have HF := Aside0.mk hF
 clear hF
 rcases t with _ | ⟨cs, rs⟩
 ·have e : res = ([], false) := by rw [← HM.out]; unfold wallListF; rw [HF.out]
  subst e
  go_enter Try.func24, Try.ntmps24
  go_wp2_with (first
   | (go_at_call 66; refine (floorOf_calls A0 c0 l0 _ HR.out HC.out HP.out).mono ?_; rw [HF.out]; rintro e w8 ⟨hb8, v8, b8, rfl, rfl⟩; have HB8 := Aside0.mk hb8; clear hb8))
  go_ret2
  exact ⟨_, rfl, Kd.S_nil _ _ _ _ _, HB8.out⟩
 ·have e : res = ((wallsOf cs).map fourW, true) := by rw [← HM.out, ← walls4_eq]; unfold wallListF; rw [HF.out]
  have HE := Aside0.mk e
  have hok := floorF_ok HF.out
  obtain ⟨K, hK⟩ := walls_ev hok
  have HW := Aside0.mk (hK K (Nat.le_refl K))
  have HL := Aside0.mk (wallsOf_bound hok)
  clear hK e hok
  generalize wallsOf cs = ws at *
  have b1 : (ws.length : Int) ≤ 72 := by have := HL.out; omega
  go_enter Try.func24, Try.ntmps24
  go_wp2_with (first
   | (go_at_call 66; refine (floorOf_calls A0 c0 l0 _ HR.out HC.out HP.out).mono ?_; rw [HF.out]; rintro e w8 ⟨hb8, v8, b8, rfl, rfl, g, rfl, hfl⟩; have HB8 := Aside0.mk hb8; have HFl8 := Aside0.mk hfl; clear hb8 hfl)
   | (go_at_call 80; refine (impl_floor_walls.calls K g cs rs ws _ _ HFl8.out (Below.refl _ _) HW.out).mono ?_; rintro e w9 ⟨v9, rfl, hr9, -, hb9, -⟩; obtain ⟨A9, c9, e9⟩ := Kd.R_slice hr9; subst e9; have HB9 := Aside0.mk (below_step HB8.out hb9); have HR9 := Aside0.mk (Kd.R_lower hr9 HB8.out.size); clear hb9 hr9))
  go_loopg [6, 20] ws.length (fun kq v6 v20 w' => ∃ i : Nat, v20 = .int .i64 (i : Int) ∧ Aside0 (i + kq = ws.length) ∧ Aside0 (Kd.S (Kd.slice 3 (Kd.int .i64)) 39 w' w9.heap.size (fun _ => True) v6 ((ws.take i).map fourW)) ∧ Aside0 (Below w9.heap.size w9 w'))
  case atStart => exact ⟨0, rfl, ⟨by omega⟩, ⟨Kd.S_nil _ _ _ _ _⟩, ⟨Below.refl _ _⟩⟩
  case round =>
   obtain ⟨i, rfl, HK, HO, HB⟩ := hrel
   by_cases hi : i < ws.length
   ·have hlt : (i : Int) < (ws.length : Int) := by omega
    have hi0 : (0 : Int) ≤ i := by omega
    obtain ⟨gr, cp, ev, -, -, -, -⟩ := Kd.R_form HR9.out (by omega)
    injection ev with ea en ec
    subst ea
    clear en ec
    obtain ⟨z0, z1, z2, z3⟩ := wl_cells (Kd.R_below HR9.out HB.out) i hi
    have HN := Aside0.mk (show (ws.take (i + 1)).map fourW = (ws.take i).map fourW ++ [fourW (ws.getD i zeroW)] by rw [take_snoc_w ws i hi, List.map_append]; rfl)
    have hln : ((ws.take i).map fourW).length ≤ 72 := by rw [List.length_map, List.length_take]; omega
    have LM := Aside0.mk hln
    clear hln
    generalize (ws.take i).map fourW = pre at *
    generalize ws.getD i zeroW = a at *
    obtain ⟨lv, f1, f2, f3⟩ := a
    dsimp only at z0 z1 z2 z3
    cases lv
    ·go_wp2_with (first | ((with_reducible refine gate_dst (N := 34) rfl ?_); refine Kd.R_lit (Kd.int .i64) _ 3 ?hg (N := 34) ?hd (xs := ([0, f1, f2, f3] : List Int)) (inner := [.int .i64 0, .int .i64 f1, .int .i64 f2, .int .i64 f3]) (ok := fun _ => True) (okp := fun _ => True) ?hr ?hp (fun _ hk => hk) trivial (Below.refl _ _) (Nat.le_refl _) (by simp) ?_; (case hd => rfl); (case hg => rfl); (case hr => first | (go_simp; done) | (go_simp; rfl)); (case hp => exact (Reps.one (show Kd.M (Kd.int .i64) _ _ _ (0) [.int .i64 (0)] from rfl) (Reps.one (show Kd.M (Kd.int .i64) _ _ _ (f1) [.int .i64 (f1)] from rfl) (Reps.one (show Kd.M (Kd.int .i64) _ _ _ (f2) [.int .i64 (f2)] from rfl) (Reps.one (show Kd.M (Kd.int .i64) _ _ _ (f3) [.int .i64 (f3)] from rfl) (Reps.none _ _)))))); intro v187 w23 ho24 hb hg_ hnew_; clear hg_ hnew_; have n0_ := Aside0.mk (Kd.S_elder' (by (with_reducible repeat (first | apply Kd.S_alloc | apply Kd.S_drewN | apply Kd.S_drew)); exact HO.out) (Kd.R_base ho24) hb); have n1_ := Aside0.mk (Kd.R_lower ho24 (below_size (by repeat (first | (with_reducible first | exact HB.out | apply below_alloc | apply pw_below_drewN | apply below_drew1) | exact HB.out)))); have n2_ := Aside0.mk (below_step (by repeat (first | (with_reducible first | exact HB.out | apply below_alloc | apply pw_below_drewN | apply below_drew1) | exact HB.out)) hb); clear HO; clear HB; have HO := n0_; have HO188 := n1_; have HB := n2_; clear n0_ n1_ n2_; clear hb ho24; obtain ⟨Ao26, co26, eo26⟩ := Kd.R_slice HO188.out; subst eo26) | ((with_reducible refine gate_builtin (b := .append) (xs := #[.tmp 26, .tmp 35]) rfl ?_); at_builtin; refine Kd.S_append (Kd.slice 3 (Kd.int .i64)) (w0 := w9) w9.heap.size rfl (.tmp 26) (.tmp 35) 36 39 (.slice none 0 0) 24 rfl Try.underlying36 info39 rfl (by decide) (by omega) u6 pre ([0, f1, f2, f3] : List Int) [.slice Ao26 ([0, f1, f2, f3] : List Int).length co26] (fun _ => True) (fun k_ => some k_ = (.slice Ao26 ([0, f1, f2, f3] : List Int).length co26 : Value).ownBlock) rfl rfl ?aP (fun k_ hk_ => ((Kd.R_mono (ok' := fun k_ => ((fun _ => True)) k_ ∧ some k_ ≠ (u6 : Value).ownBlock) (Kd.R_apart' (HO188.out) (Kd.S_typed HO.out) (by decide)) (fun k_ hk => ⟨trivial, hk.2⟩))).1 k_ hk_.symm) ?aF ?aO ?aB ?aS ?aL ?_; (case aP => exact Kd.M_row (Kd.R_mono (Kd.R_tight rfl (Kd.R_mono (ok' := fun k_ => ((fun _ => True)) k_ ∧ some k_ ≠ (u6 : Value).ownBlock) (Kd.R_apart' (HO188.out) (Kd.S_typed HO.out) (by decide)) (fun k_ hk => ⟨trivial, hk.2⟩))) (fun _ h_ => h_))); (case aB => exact (by repeat (first | (with_reducible first | exact HB.out | apply below_alloc | apply pw_below_drewN | apply below_drew1) | exact HB.out))); (case aF => exact (fun _ _ => trivial)); (case aO => exact (by (with_reducible repeat (first | apply Kd.S_alloc | apply Kd.S_drewN | apply Kd.S_drew)); exact Kd.S_mono HO.out (fun k_ hk => ⟨trivial, fun e_ => hk.2 e_⟩))); (case aS => exact (below_size (by repeat (first | (with_reducible first | exact HB.out | apply below_alloc | apply pw_below_drewN | apply below_drew1) | exact HB.out)))); (case aL => have := LM.out; omega); intro v190 w25 ho hb hg hat; have n0_ := Aside0.mk (hb); have n1_ := Aside0.mk (ho); clear HB; clear HO; clear HO188; have HB := n0_; have HO191 := n1_; clear n0_ n1_; clear ho hb hg hat))
     go_roundg (ws.length - (i + 1))
     case measure => have := HK.out; omega
     case rel => exact ⟨i + 1, by first | rfl | (congr 1; omega), ⟨by have := HK.out; omega⟩, ⟨by rw [HN.out]; (with_reducible repeat (first | apply Kd.S_alloc | apply Kd.S_drewN | apply Kd.S_drew)); exact HO191.out⟩, ⟨by repeat (first | (with_reducible first | exact HB.out | apply below_alloc | apply pw_below_drewN | apply below_drew1) | exact HB.out)⟩⟩
    ·go_wp2_with (first | ((with_reducible refine gate_dst (N := 34) rfl ?_); refine Kd.R_lit (Kd.int .i64) _ 3 ?hg (N := 34) ?hd (xs := ([1, f1, f2, f3] : List Int)) (inner := [.int .i64 1, .int .i64 f1, .int .i64 f2, .int .i64 f3]) (ok := fun _ => True) (okp := fun _ => True) ?hr ?hp (fun _ hk => hk) trivial (Below.refl _ _) (Nat.le_refl _) (by simp) ?_; (case hd => rfl); (case hg => rfl); (case hr => first | (go_simp; done) | (go_simp; rfl)); (case hp => exact (Reps.one (show Kd.M (Kd.int .i64) _ _ _ (1) [.int .i64 (1)] from rfl) (Reps.one (show Kd.M (Kd.int .i64) _ _ _ (f1) [.int .i64 (f1)] from rfl) (Reps.one (show Kd.M (Kd.int .i64) _ _ _ (f2) [.int .i64 (f2)] from rfl) (Reps.one (show Kd.M (Kd.int .i64) _ _ _ (f3) [.int .i64 (f3)] from rfl) (Reps.none _ _)))))); intro v187 w23 ho24 hb hg_ hnew_; clear hg_ hnew_; have n0_ := Aside0.mk (Kd.S_elder' (by (with_reducible repeat (first | apply Kd.S_alloc | apply Kd.S_drewN | apply Kd.S_drew)); exact HO.out) (Kd.R_base ho24) hb); have n1_ := Aside0.mk (Kd.R_lower ho24 (below_size (by repeat (first | (with_reducible first | exact HB.out | apply below_alloc | apply pw_below_drewN | apply below_drew1) | exact HB.out)))); have n2_ := Aside0.mk (below_step (by repeat (first | (with_reducible first | exact HB.out | apply below_alloc | apply pw_below_drewN | apply below_drew1) | exact HB.out)) hb); clear HO; clear HB; have HO := n0_; have HO188 := n1_; have HB := n2_; clear n0_ n1_ n2_; clear hb ho24; obtain ⟨Ao26, co26, eo26⟩ := Kd.R_slice HO188.out; subst eo26) | ((with_reducible refine gate_builtin (b := .append) (xs := #[.tmp 26, .tmp 35]) rfl ?_); at_builtin; refine Kd.S_append (Kd.slice 3 (Kd.int .i64)) (w0 := w9) w9.heap.size rfl (.tmp 26) (.tmp 35) 36 39 (.slice none 0 0) 24 rfl Try.underlying36 info39 rfl (by decide) (by omega) u6 pre ([1, f1, f2, f3] : List Int) [.slice Ao26 ([1, f1, f2, f3] : List Int).length co26] (fun _ => True) (fun k_ => some k_ = (.slice Ao26 ([1, f1, f2, f3] : List Int).length co26 : Value).ownBlock) rfl rfl ?aP (fun k_ hk_ => ((Kd.R_mono (ok' := fun k_ => ((fun _ => True)) k_ ∧ some k_ ≠ (u6 : Value).ownBlock) (Kd.R_apart' (HO188.out) (Kd.S_typed HO.out) (by decide)) (fun k_ hk => ⟨trivial, hk.2⟩))).1 k_ hk_.symm) ?aF ?aO ?aB ?aS ?aL ?_; (case aP => exact Kd.M_row (Kd.R_mono (Kd.R_tight rfl (Kd.R_mono (ok' := fun k_ => ((fun _ => True)) k_ ∧ some k_ ≠ (u6 : Value).ownBlock) (Kd.R_apart' (HO188.out) (Kd.S_typed HO.out) (by decide)) (fun k_ hk => ⟨trivial, hk.2⟩))) (fun _ h_ => h_))); (case aB => exact (by repeat (first | (with_reducible first | exact HB.out | apply below_alloc | apply pw_below_drewN | apply below_drew1) | exact HB.out))); (case aF => exact (fun _ _ => trivial)); (case aO => exact (by (with_reducible repeat (first | apply Kd.S_alloc | apply Kd.S_drewN | apply Kd.S_drew)); exact Kd.S_mono HO.out (fun k_ hk => ⟨trivial, fun e_ => hk.2 e_⟩))); (case aS => exact (below_size (by repeat (first | (with_reducible first | exact HB.out | apply below_alloc | apply pw_below_drewN | apply below_drew1) | exact HB.out)))); (case aL => have := LM.out; omega); intro v190 w25 ho hb hg hat; have n0_ := Aside0.mk (hb); have n1_ := Aside0.mk (ho); clear HB; clear HO; clear HO188; have HB := n0_; have HO191 := n1_; clear n0_ n1_; clear ho hb hg hat))
     go_roundg (ws.length - (i + 1))
     case measure => have := HK.out; omega
     case rel => exact ⟨i + 1, by first | rfl | (congr 1; omega), ⟨by have := HK.out; omega⟩, ⟨by rw [HN.out]; (with_reducible repeat (first | apply Kd.S_alloc | apply Kd.S_drewN | apply Kd.S_drew)); exact HO191.out⟩, ⟨by repeat (first | (with_reducible first | exact HB.out | apply below_alloc | apply pw_below_drewN | apply below_drew1) | exact HB.out)⟩⟩
   ·have hge : ¬ (i : Int) < (ws.length : Int) := by omega
    obtain rfl : i = ws.length := by have := HK.out; omega
    have HT := Aside0.mk (show (ws.take ws.length).map fourW = ws.map fourW by rw [List.take_length])
    go_wp2
    go_ret2
    rw [HE.out]
    exact ⟨_, rfl, by have := Kd.S_lower HO.out HB9.out.size; rw [HT.out] at this; (with_reducible repeat (first | apply Kd.S_alloc | apply Kd.S_drewN | apply Kd.S_drew)); exact this, below_step HB9.out HB.out⟩
def impl_WallList.f (l0 : List ByteArray) : Option (List (List Int) × Bool) := if smallB l0 = true then some (wallListF l0) else none
theorem impl_WallList.calls (A0 : Option Addr) (c0 : Nat) (l0 : List ByteArray) (r1 : List (List Int)) (r2 : Bool) (w : World) (hr0 : Kd.C Kd.string w A0 l0.length l0) (hc0 : l0.length ≤ c0) (h : impl_WallList.f l0 = some (r1, r2)) :
  Calls Try.prog 24 #[.slice A0 l0.length c0] w fun e w' => ∃ v0_ : Value, e = .returned (.tuple #[v0_, .bool r2]) ∧ Kd.S (Kd.slice 3 (Kd.int .i64)) 39 w' w.heap.size (fun _ => True) v0_ r1 ∧ Below w.heap.size w w' := by
 unfold impl_WallList.f at h
 split at h
 ·rename_i hs
  have e := Option.some.inj h
  have := WallList_calls A0 c0 l0 w hr0 hc0 ((smallB_iff _).1 hs)
  rw [e] at this
  exact this
 ·cases h
end Go.Proofs.Ytaepgogafkmooaa.Hd
namespace Go.Proofs.Ytaepgogafkmooaa.Hd
open Go.RowKit Go.Proofs.YtaepgogafkmooaaW.PrintWords Go.Proofs.YtaepgogafkmooaaW.PrintLast Go.Proofs.YtaepgogafkmooaaW.PrintMore Go.Proofs.Ytaepgogafkmooaa.PB
set_option linter.unusedVariables false
set_option linter.unusedSimpArgs false
def impl_CutMany.f (l0 : List ByteArray) : Option (Int × Bool) := if smallB l0 = true then some (cutManyF l0) else none
theorem impl_CutMany.calls (A0 : Option Addr) (c0 : Nat) (l0 : List ByteArray) (r1 : Int) (r2 : Bool) (w : World) (hr0 : Kd.C Kd.string w A0 l0.length l0) (hc0 : l0.length ≤ c0) (h : impl_CutMany.f l0 = some (r1, r2)) :
  Calls Try.prog 45 #[.slice A0 l0.length c0] w fun e w' => e = .returned (.tuple #[.int .i64 r1, .bool r2]) ∧ Below w.heap.size w w' := by
 unfold impl_CutMany.f at h
 split at h
 ·rename_i hs
  have e := Option.some.inj h
  have := CutMany_calls A0 c0 l0 w hr0 hc0 ((smallB_iff _).1 hs)
  rw [e] at this
  exact this
 ·cases h
end Go.Proofs.Ytaepgogafkmooaa.Hd
namespace Go.Proofs.Ytaepgogafkmooaa.CA
open Go.Proofs.Ytaepgogafkmooaa.PB Go.Proofs.Ytaepgogafkmooaa.Hd Go.Proofs.Ytaepgogafkmooaa.SM
open Go.RowKit Go.Proofs.YtaepgogafkmooaaW.PrintWords Go.Proofs.YtaepgogafkmooaaW.PrintLast Go.Proofs.YtaepgogafkmooaaW.PrintMore
attribute [local go_sem] max2_int min2_int max_two min_two max_three min_three max_four min_four   -- for this text's walks alone
set_option linter.unusedVariables false
set_option linter.unusedSimpArgs false
def errW : Option Int → Value
 | none => .nilIface
 | some c => .iface 0 (.int .i64 c)
theorem errW_none : errW none = .nilIface := rfl
theorem errW_some (c : Int) : errW (some c) = .iface 0 (.int .i64 c) := rfl
theorem info3 : (Try.prog.info? 3).map (fun i => (i.zero, i.size, i.bytes)) = some (some (.int .i64 0), 1, 8) := by kernel_rfl
theorem info5 : (Try.prog.info? 5).map (fun i => (i.zero, i.size, i.bytes)) = some (some (.int .u8 0), 1, 1) := by kernel_rfl
theorem info9 : (Try.prog.info? 9).map (fun i => (i.zero, i.size, i.bytes)) = some (some (.string ⟨#[]⟩), 1, 16) := by kernel_rfl
theorem info39 : (Try.prog.info? 39).map (fun i => (i.zero, i.size, i.bytes)) = some (some (.slice none 0 0), 1, 24) := by kernel_rfl
theorem info79 : (Try.prog.info? 79).map (fun i => (i.zero, i.size, i.bytes)) = some (some (.agg #[(.bool false), (.int .i64 0), (.int .i64 0), (.int .i64 0)]), 4, 32) := by kernel_rfl
def rd_L1 (xs : List (List Int)) (i : Int) : (List Int) := xs.getD i.toNat ([] : List Int)
theorem at_L1 {w : World} {A : Option Addr} {n : Nat} {xs : List (List Int)} (h : Kd.C (Kd.slice 3 (Kd.int .i64)) w A n xs) (i : Int) (h0 : 0 ≤ i) (h1 : i < n) : ∃ ad A0 c0, A = some ad ∧ w.cell? (ad.add i.toNat) = some (.slice A0 (rd_L1 xs i).length c0) ∧ (rd_L1 xs i).length ≤ c0 ∧ (Kd.int .i64).C w A0 (rd_L1 xs i).length (rd_L1 xs i) := by
 obtain ⟨ad, c, e, _, hK, hc0⟩ := Kd.C_get h ([] : List Int) i h0 h1
 have hc : ∀ j u, c[j]? = some u → w.cell? (ad.add (i.toNat * 1 + j)) = some u := hc0
 obtain ⟨A0, c0, rfl, l0, g0⟩ := hK
 exact ⟨ad, A0, c0, e, by have hq := hc 0 _ rfl; rwa [Nat.mul_one, Nat.add_zero] at hq, l0, g0⟩
structure S131 where
 f0 : Int
 f1 : Int
 f2 : Int
 f3 : Int
def z131 : S131 := ⟨(0 : Int), (0 : Int), (0 : Int), (0 : Int)⟩
def k131 : Kd S131 := Kd.iso (Kd.pair (Kd.int .i64) (Kd.pair (Kd.int .i64) (Kd.pair (Kd.int .i64) (Kd.int .i64)))) (fun x : S131 => (x.f0, x.f1, x.f2, x.f3))
theorem k131_open {w : World} {x : S131} {cs : List Value} (h : k131.K w x cs) : cs = [.int .i64 x.f0, .int .i64 x.f1, .int .i64 x.f2, .int .i64 x.f3] := by
 obtain ⟨_, _, rfl, rfl, ⟨_, _, rfl, rfl, ⟨_, _, rfl, rfl, rfl⟩⟩⟩ := h
 exact rfl
theorem k131_mkM (w : World) (base : Nat) (ok : Nat → Prop) (x : S131)  : k131.M w base ok x [.int .i64 x.f0, .int .i64 x.f1, .int .i64 x.f2, .int .i64 x.f3] := ⟨[.int .i64 x.f0], [.int .i64 x.f1, .int .i64 x.f2, .int .i64 x.f3], rfl, rfl, ⟨[.int .i64 x.f1], [.int .i64 x.f2, .int .i64 x.f3], rfl, rfl, ⟨[.int .i64 x.f2], [.int .i64 x.f3], rfl, rfl, rfl⟩⟩⟩
def rd_T131 (xs : List S131) (i : Int) : S131 := xs.getD i.toNat z131
theorem at_T131 {w : World} {A : Option Addr} {n : Nat} {xs : List S131} (h : Kd.C k131 w A n xs) (i : Int) (h0 : 0 ≤ i) (h1 : i < n) : ∃ ad , A = some ad ∧ w.cell? (ad.add (i.toNat * 4)) = some (.int .i64 (rd_T131 xs i).f0) ∧ w.cell? ⟨(ad.add (i.toNat * 4)).block, (ad.add (i.toNat * 4)).off + 1, none⟩ = some (.int .i64 (rd_T131 xs i).f1) ∧ w.cell? ⟨(ad.add (i.toNat * 4)).block, (ad.add (i.toNat * 4)).off + 2, none⟩ = some (.int .i64 (rd_T131 xs i).f2) ∧ w.cell? ⟨(ad.add (i.toNat * 4)).block, (ad.add (i.toNat * 4)).off + 3, none⟩ = some (.int .i64 (rd_T131 xs i).f3) := by
 obtain ⟨ad, c, e, _, hK, hc0⟩ := Kd.C_get h z131 i h0 h1
 have hc : ∀ j u, c[j]? = some u → w.cell? (ad.add (i.toNat * 4 + j)) = some u := hc0
 obtain rfl := k131_open hK
 exact ⟨ad, e, hc 0 _ rfl, by rw [← add_field _ _ 1 (by omega)]; exact hc 1 _ rfl, by rw [← add_field _ _ 2 (by omega)]; exact hc 2 _ rfl, by rw [← add_field _ _ 3 (by omega)]; exact hc 3 _ rfl⟩
structure S79 where
 f0 : Bool
 f1 : Int
 f2 : Int
 f3 : Int
def z79 : S79 := ⟨false, (0 : Int), (0 : Int), (0 : Int)⟩
def k79 : Kd S79 := Kd.iso (Kd.pair Kd.bool (Kd.pair (Kd.int .i64) (Kd.pair (Kd.int .i64) (Kd.int .i64)))) (fun x : S79 => (x.f0, x.f1, x.f2, x.f3))
theorem k79_open {w : World} {x : S79} {cs : List Value} (h : k79.K w x cs) : cs = [.bool x.f0, .int .i64 x.f1, .int .i64 x.f2, .int .i64 x.f3] := by
 obtain ⟨_, _, rfl, rfl, ⟨_, _, rfl, rfl, ⟨_, _, rfl, rfl, rfl⟩⟩⟩ := h
 exact rfl
theorem k79_openM {w : World} {base : Nat} {ok : Nat → Prop} {x : S79} {cs : List Value} (h : k79.M w base ok x cs) : cs = [.bool x.f0, .int .i64 x.f1, .int .i64 x.f2, .int .i64 x.f3] := by
 obtain ⟨_, _, rfl, rfl, ⟨_, _, rfl, rfl, ⟨_, _, rfl, rfl, rfl⟩⟩⟩ := h
 exact rfl
theorem k79_mkM (w : World) (base : Nat) (ok : Nat → Prop) (x : S79)  : k79.M w base ok x [.bool x.f0, .int .i64 x.f1, .int .i64 x.f2, .int .i64 x.f3] := ⟨[.bool x.f0], [.int .i64 x.f1, .int .i64 x.f2, .int .i64 x.f3], rfl, rfl, ⟨[.int .i64 x.f1], [.int .i64 x.f2, .int .i64 x.f3], rfl, rfl, ⟨[.int .i64 x.f2], [.int .i64 x.f3], rfl, rfl, rfl⟩⟩⟩
def rd_T79 (xs : List S79) (i : Int) : S79 := xs.getD i.toNat z79
theorem at_T79 {w : World} {A : Option Addr} {n : Nat} {xs : List S79} (h : Kd.C k79 w A n xs) (i : Int) (h0 : 0 ≤ i) (h1 : i < n) : ∃ ad , A = some ad ∧ w.cell? (ad.add (i.toNat * 4)) = some (.bool (rd_T79 xs i).f0) ∧ w.cell? ⟨(ad.add (i.toNat * 4)).block, (ad.add (i.toNat * 4)).off + 1, none⟩ = some (.int .i64 (rd_T79 xs i).f1) ∧ w.cell? ⟨(ad.add (i.toNat * 4)).block, (ad.add (i.toNat * 4)).off + 2, none⟩ = some (.int .i64 (rd_T79 xs i).f2) ∧ w.cell? ⟨(ad.add (i.toNat * 4)).block, (ad.add (i.toNat * 4)).off + 3, none⟩ = some (.int .i64 (rd_T79 xs i).f3) := by
 obtain ⟨ad, c, e, _, hK, hc0⟩ := Kd.C_get h z79 i h0 h1
 have hc : ∀ j u, c[j]? = some u → w.cell? (ad.add (i.toNat * 4 + j)) = some u := hc0
 obtain rfl := k79_open hK
 exact ⟨ad, e, hc 0 _ rfl, by rw [← add_field _ _ 1 (by omega)]; exact hc 1 _ rfl, by rw [← add_field _ _ 2 (by omega)]; exact hc 2 _ rfl, by rw [← add_field _ _ 3 (by omega)]; exact hc 3 _ rfl⟩
end Go.Proofs.Ytaepgogafkmooaa.CA
