/- Part 5 of the proof of FnTight: what the program's functions and the reference's compute. -/
import Derived.Shelf.Strings.Builder1
import Derived.Lib.SliceRun
import Derived.Test.YtickdcegnlldjaaCPTId
set_option linter.unusedSimpArgs false
set_option linter.unusedVariables false
open Bool renaming true → zt, false → zf
open List renaming setIfInBounds_toArray → ybw, set_cons_zero → ybx, set_cons_succ → yby, map_toArray → ybz, map_cons → yca, getD_eq_getElem?_getD → ycb
open ByteArray renaming empty → ycc
open Nat renaming le_refl → ycd
namespace Go.Proofs.Ytickdcegnlldjaa.Hd
open Go.RowKit Go.PW.PrintWords Go.PW.PrintLast Go.PW.PrintMore Go.Proofs.Ytickdcegnlldjaa.PB
def NewPost (W : World) (B gf bm : Nat) (v : Value) (ks : List Int) (rs : List Rc) (x : Int) (r c : Nat) (e : Ending) (W' : World) : Prop :=
 e = .returned (.int .i64 (ks.length : Int)) ∧ ∃ v', Kd.R kRc 120 W' B (fun k => some k = v'.ownBlock) v' (rs ++ [bothR (oneR r c) (oneR r c)]) ∧ IMap W' bm (ks ++ [x]) ∧ W'.heap[gf]? = some (.cells #[.slice none 0 0, v'] 58 (0, 0)) ∧
  (∀ k, v'.ownBlock = some k → v.ownBlock = some k ∨ W.heap.size ≤ k) ∧ Other (fun k => k = bm ∨ k = gf ∨ some k = v.ownBlock) W W'
set_option maxHeartbeats 8000000 in
set_option maxRecDepth 100000 in
theorem new_walk (W : World) (B gn gc gv gf bm : Nat) (ad ad2 : Addr) (nr cap nc ci : Nat) (x : Int) (ks : List Int) (rs : List Rc) (v : Value) (r c hi wi : Nat) (hr : r < hi) (hc : c < wi) (hhi : hi ≤ 1048576) (hwi : wi ≤ 1048576) (hrn : r < nr) (hcn : c < nc) (hnr : nr ≤ 1048576) (hnc : nc ≤ 1048576)
  (hx1 : W.heap[gn]? = some (.cells #[.map (some bm)] 118 (0, 0))) (hx2 : W.heap[gc]? = some (.cells #[.slice (some ad) nr cap] 55 (0, 0))) (hx3 : W.cell? (ad.add r) = some (.slice (some ad2) nc ci)) (hx4 : W.cell? (ad2.add c) = some (.int .i64 x)) (hold : ad.block < B ∧ ad2.block < B)
  (hmap : IMap W bm ks) (hxn : x ∉ ks) (hxb : 0 ≤ x ∧ x ≤ 1048576) (hkl : ks.length = rs.length)
  (hx5 : W.heap[gv]? = some (.cells #[.pointer (some ⟨gf, 0, none⟩)] 52 (0, 0))) (hx6 : W.heap[gf]? = some (.cells #[.slice none 0 0, v] 58 (0, 0)))
  (hrow : Kd.R kRc 120 W B (fun k => some k = v.ownBlock) v rs) (hrl : rs.length ≤ 1048576) (hBW : B ≤ W.heap.size) (hbd : ∀ a ∈ rs, boundR a hi wi) :
  Calls Try.prog 117 #[.int .i64 r, .int .i64 c, .pointer (some ⟨gn, 0, none⟩), .pointer (some ⟨gc, 0, none⟩), .pointer (some ⟨gv, 0, none⟩)] W (NewPost W B gf bm v ks rs x r c) := by
 have hlook := hmap.look x (by omega) (by omega)
 rw [if_neg hxn, decide_eq_false hxn] at hlook
 have y1 : W.cell? ⟨gn, 0, none⟩ = some (.map (some bm)) := (zat hx1 0).trans rfl
 have y2 : W.cell? ⟨gc, 0, none⟩ = some (.slice (some ad) nr cap) := (zat hx2 0).trans rfl
 have HRow := zaa.mk hrow
 have HBd := zaa.mk hbd
 have HMap := zaa.mk hmap
 have X1 := zaa.mk hx1
 have X2 := zaa.mk hx2
 have X5 := zaa.mk hx5
 have X6 := zaa.mk hx6
 have HXN := zaa.mk hxn
 have HKL := zaa.mk hkl
 clear hrow hbd hmap hx1 hx2 hx5 hx6 hxn hkl
 have hL : (Instr.lookup 118 (.map (some bm)) (.int .i64 x) true).run Try.prog W.drew = .ok (.tuple #[.int .i64 0, .bool false]) W.drew := by
  have := (HMap.out.move (W' := W.drew) rfl).look x (by omega) (by omega)
  rw [if_neg HXN.out, decide_eq_false HXN.out] at this
  exact this
 clear hlook
 have r0 : (0 : Int) ≤ r := by omega
 have r1 : (r : Int) < nr := by omega
 have r2 : (r : Int) ≤ 1048576 := by omega
 have c0 : (0 : Int) ≤ c := by omega
 have c1 : (c : Int) < nc := by omega
 have c2 : (c : Int) ≤ 1048576 := by omega
 go_enter Try.func117, Try.ntmps117
 go_wp2
 refine start_ (n := 14) (S := fun w' => w'.cell? ⟨gn, 0, none⟩ = some (.map (some bm)) ∧ w'.cell? ⟨gc, 0, none⟩ = some (.slice (some ad) nr cap) ∧ w'.cell? (ad.add r) = some (.slice (some ad2) nc ci) ∧ w'.cell? (ad2.add c) = some (.int .i64 x) ∧ (Instr.lookup 118 (.map (some bm)) (.int .i64 x) true).run Try.prog w' = .ok (.tuple #[.int .i64 0, .bool false]) w') (ds := []) #[zf, zf, zf, zf, zf, zf, zf, zf, zf, zf, zf, zf, zf, zf] (by kernel_rfl) rfl rfl (⟨y1, y2, hx3, hx4, hL⟩) (fun hHeld => ?_)
 refine take_ (i := 0) (N := some 11) (v := ?_) (a' := ?_) #[zt, zf, zf, zf, zf, zf, zf, zf, zf, zf, zf, zf, zf, zf] rfl rfl (by kernel_rfl) (fun _ _ _ h => h) (Or.inl ⟨by rfl, ?_⟩) hHeld ?_ ?_
 rotate_left
 ·rintro w' ⟨s0, s1, s2, s3, s4⟩
  go_simp
  with_reducible rfl
 rotate_left
 ·simp only [Act.put, ybw, ybx, yby, zau, zav]; rfl
 refine take_ (i := 1) (N := some 12) (v := ?_) (a' := ?_) #[zt, zt, zf, zf, zf, zf, zf, zf, zf, zf, zf, zf, zf, zf] rfl rfl (by kernel_rfl) (fun _ _ _ h => h) (Or.inl ⟨by rfl, ?_⟩) hHeld ?_ ?_
 rotate_left
 ·rintro w' ⟨s0, s1, s2, s3, s4⟩
  go_simp
  with_reducible rfl
 rotate_left
 ·simp only [Act.put, ybw, ybx, yby, zau, zav]; rfl
 refine zbd (i := 2) (N := some 13) (v := ?_) (a' := ?_) #[zt, zt, zt, zf, zf, zf, zf, zf, zf, zf, zf, zf, zf, zf] rfl rfl (by kernel_rfl) (fun _ _ _ h => h) (Or.inl ⟨by rfl, ?_⟩) ?_ ?_
 rotate_left
 ·intro w'; go_simp; with_reducible rfl
 rotate_left
 ·simp only [Act.put, ybw, ybx, yby, zau, zav]; rfl
 refine zbd (i := 3) (N := some 14) (v := ?_) (a' := ?_) #[zt, zt, zt, zt, zf, zf, zf, zf, zf, zf, zf, zf, zf, zf] rfl rfl (by kernel_rfl) (fun _ _ _ h => h) (Or.inl ⟨by rfl, ?_⟩) ?_ ?_
 rotate_left
 ·intro w'; go_simp; with_reducible rfl
 rotate_left
 ·simp only [Act.put, ybw, ybx, yby, zau, zav]; rfl
 refine take_ (i := 4) (N := some 15) (v := ?_) (a' := ?_) #[zt, zt, zt, zt, zt, zf, zf, zf, zf, zf, zf, zf, zf, zf] rfl rfl (by kernel_rfl) (fun _ _ _ h => h) (Or.inl ⟨by rfl, ?_⟩) hHeld ?_ ?_
 rotate_left
 ·rintro w' ⟨s0, s1, s2, s3, s4⟩
  go_simp
  with_reducible rfl
 rotate_left
 ·simp only [Act.put, ybw, ybx, yby, zau, zav]; rfl
 refine zbd (i := 5) (N := some 16) (v := ?_) (a' := ?_) #[zt, zt, zt, zt, zt, zt, zf, zf, zf, zf, zf, zf, zf, zf] rfl rfl (by kernel_rfl) (fun _ _ _ h => h) (Or.inl ⟨by rfl, ?_⟩) ?_ ?_
 rotate_left
 ·intro w'; go_simp; with_reducible rfl
 rotate_left
 ·simp only [Act.put, ybw, ybx, yby, zau, zav]; rfl
 refine zbd (i := 6) (N := some 17) (v := ?_) (a' := ?_) #[zt, zt, zt, zt, zt, zt, zt, zf, zf, zf, zf, zf, zf, zf] rfl rfl (by kernel_rfl) (fun _ _ _ h => h) (Or.inl ⟨by rfl, ?_⟩) ?_ ?_
 rotate_left
 ·intro w'; go_simp; with_reducible rfl
 rotate_left
 ·simp only [Act.put, ybw, ybx, yby, zau, zav]; rfl
 refine take_ (i := 7) (N := some 18) (v := ?_) (a' := ?_) #[zt, zt, zt, zt, zt, zt, zt, zt, zf, zf, zf, zf, zf, zf] rfl rfl (by kernel_rfl) (fun _ _ _ h => h) (Or.inl ⟨by rfl, ?_⟩) hHeld ?_ ?_
 rotate_left
 ·rintro w' ⟨s0, s1, s2, s3, s4⟩
  go_simp
  with_reducible rfl
 rotate_left
 ·simp only [Act.put, ybw, ybx, yby, zau, zav]; rfl
 refine take_ (i := 8) (N := some 19) (v := ?_) (a' := ?_) #[zt, zt, zt, zt, zt, zt, zt, zt, zt, zf, zf, zf, zf, zf] rfl rfl (by kernel_rfl) (fun _ _ _ h => h) (Or.inl ⟨by rfl, ?_⟩) hHeld ?_ ?_
 rotate_left
 ·rintro w' ⟨s0, s1, s2, s3, s4⟩
  go_simp
  with_reducible rfl
 rotate_left
 ·simp only [Act.put, ybw, ybx, yby, zau, zav]; rfl
 refine zbd (i := 9) (N := some 10) (v := ?_) (a' := ?_) #[zt, zt, zt, zt, zt, zt, zt, zt, zt, zt, zf, zf, zf, zf] rfl rfl (by kernel_rfl) (fun _ _ _ h => h) (Or.inl ⟨by rfl, ?_⟩) ?_ ?_
 rotate_left
 ·intro w'; go_simp; with_reducible rfl
 rotate_left
 ·simp only [Act.put, ybw, ybx, yby, zau, zav]; rfl
 refine zbd (i := 10) (N := some 20) (v := ?_) (a' := ?_) #[zt, zt, zt, zt, zt, zt, zt, zt, zt, zt, zt, zf, zf, zf] rfl rfl (by kernel_rfl) (fun _ _ _ h => h) (Or.inl ⟨by rfl, ?_⟩) ?_ ?_
 rotate_left
 ·intro w'; go_simp; with_reducible rfl
 rotate_left
 ·simp only [Act.put, ybw, ybx, yby, zau, zav]; rfl
 refine zbd (i := 11) (N := some 21) (v := ?_) (a' := ?_) #[zt, zt, zt, zt, zt, zt, zt, zt, zt, zt, zt, zt, zf, zf] rfl rfl (by kernel_rfl) (fun _ _ _ h => h) (Or.inl ⟨by rfl, ?_⟩) ?_ ?_
 rotate_left
 ·intro w'; go_simp; with_reducible rfl
 rotate_left
 ·simp only [Act.put, ybw, ybx, yby, zau, zav]; rfl
 refine zbd (i := 12) (N := some 8) (v := ?_) (a' := ?_) #[zt, zt, zt, zt, zt, zt, zt, zt, zt, zt, zt, zt, zt, zf] rfl rfl (by kernel_rfl) (fun _ _ _ h => h) (Or.inl ⟨by rfl, ?_⟩) ?_ ?_
 rotate_left
 ·intro w'; go_simp; with_reducible rfl
 rotate_left
 ·simp only [Act.put, ybw, ybx, yby, zau, zav]; rfl
 refine zbd (i := 13) (N := some 9) (v := ?_) (a' := ?_) #[zt, zt, zt, zt, zt, zt, zt, zt, zt, zt, zt, zt, zt, zt] rfl rfl (by kernel_rfl) (fun _ _ _ h => h) (Or.inl ⟨by rfl, ?_⟩) ?_ ?_
 rotate_left
 ·intro w'; go_simp; with_reducible rfl
 rotate_left
 ·simp only [Act.put, ybw, ybx, yby, zau, zav]; rfl
 refine done_ (by kernel_rfl) ?_
 clear hHeld hL
 have hlen := (HMap.out.move (W' := W.drew) rfl).len 3
 have y1d : W.drew.cell? ⟨gn, 0, none⟩ = some (.map (some bm)) := y1
 have y2d : W.drew.drew.cell? ⟨gc, 0, none⟩ = some (.slice (some ad) nr cap) := y2
 have y1e : W.drew.drew.cell? ⟨gn, 0, none⟩ = some (.map (some bm)) := y1
 have y3e : W.drew.drew.cell? (ad.add r) = some (.slice (some ad2) nc ci) := hx3
 have y4e : W.drew.drew.cell? (ad2.add c) = some (.int .i64 x) := hx4
 clear hx3 hx4 y1 y2
 go_wp2
 clear hlen y1d
 refine start_ (n := 10) (S := fun w' => w'.cell? ⟨gn, 0, none⟩ = some (.map (some bm)) ∧ w'.cell? ⟨gc, 0, none⟩ = some (.slice (some ad) nr cap) ∧ w'.cell? (ad.add r) = some (.slice (some ad2) nc ci) ∧ w'.cell? (ad2.add c) = some (.int .i64 x)) (ds := []) #[zf, zf, zf, zf, zf, zf, zf, zf, zf, zf] (by kernel_rfl) rfl rfl (⟨y1e, y2d, y3e, y4e⟩) (fun hHeld => ?_)
 refine take_ (i := 0) (N := some 26) (v := ?_) (a' := ?_) #[zt, zf, zf, zf, zf, zf, zf, zf, zf, zf] rfl rfl (by kernel_rfl) (fun _ _ _ h => h) (Or.inl ⟨by rfl, ?_⟩) hHeld ?_ ?_
 rotate_left
 ·rintro w' ⟨s0, s1, s2, s3⟩
  go_simp
  with_reducible rfl
 rotate_left
 ·simp only [Act.put, ybw, ybx, yby, zau, zav]; rfl
 refine take_ (i := 1) (N := some 27) (v := ?_) (a' := ?_) #[zt, zt, zf, zf, zf, zf, zf, zf, zf, zf] rfl rfl (by kernel_rfl) (fun _ _ _ h => h) (Or.inl ⟨by rfl, ?_⟩) hHeld ?_ ?_
 rotate_left
 ·rintro w' ⟨s0, s1, s2, s3⟩
  go_simp
  with_reducible rfl
 rotate_left
 ·simp only [Act.put, ybw, ybx, yby, zau, zav]; rfl
 refine zbd (i := 2) (N := some 28) (v := ?_) (a' := ?_) #[zt, zt, zt, zf, zf, zf, zf, zf, zf, zf] rfl rfl (by kernel_rfl) (fun _ _ _ h => h) (Or.inl ⟨by rfl, ?_⟩) ?_ ?_
 rotate_left
 ·intro w'; go_simp; with_reducible rfl
 rotate_left
 ·simp only [Act.put, ybw, ybx, yby, zau, zav]; rfl
 refine zbd (i := 3) (N := some 29) (v := ?_) (a' := ?_) #[zt, zt, zt, zt, zf, zf, zf, zf, zf, zf] rfl rfl (by kernel_rfl) (fun _ _ _ h => h) (Or.inl ⟨by rfl, ?_⟩) ?_ ?_
 rotate_left
 ·intro w'; go_simp; with_reducible rfl
 rotate_left
 ·simp only [Act.put, ybw, ybx, yby, zau, zav]; rfl
 refine take_ (i := 4) (N := some 30) (v := ?_) (a' := ?_) #[zt, zt, zt, zt, zt, zf, zf, zf, zf, zf] rfl rfl (by kernel_rfl) (fun _ _ _ h => h) (Or.inl ⟨by rfl, ?_⟩) hHeld ?_ ?_
 rotate_left
 ·rintro w' ⟨s0, s1, s2, s3⟩
  go_simp
  with_reducible rfl
 rotate_left
 ·simp only [Act.put, ybw, ybx, yby, zau, zav]; rfl
 refine zbd (i := 5) (N := some 31) (v := ?_) (a' := ?_) #[zt, zt, zt, zt, zt, zt, zf, zf, zf, zf] rfl rfl (by kernel_rfl) (fun _ _ _ h => h) (Or.inl ⟨by rfl, ?_⟩) ?_ ?_
 rotate_left
 ·intro w'; go_simp; with_reducible rfl
 rotate_left
 ·simp only [Act.put, ybw, ybx, yby, zau, zav]; rfl
 refine zbd (i := 6) (N := some 32) (v := ?_) (a' := ?_) #[zt, zt, zt, zt, zt, zt, zt, zf, zf, zf] rfl rfl (by kernel_rfl) (fun _ _ _ h => h) (Or.inl ⟨by rfl, ?_⟩) ?_ ?_
 rotate_left
 ·intro w'; go_simp; with_reducible rfl
 rotate_left
 ·simp only [Act.put, ybw, ybx, yby, zau, zav]; rfl
 refine take_ (i := 7) (N := some 33) (v := ?_) (a' := ?_) #[zt, zt, zt, zt, zt, zt, zt, zt, zf, zf] rfl rfl (by kernel_rfl) (fun _ _ _ h => h) (Or.inl ⟨by rfl, ?_⟩) hHeld ?_ ?_
 rotate_left
 ·rintro w' ⟨s0, s1, s2, s3⟩
  go_simp
  with_reducible rfl
 rotate_left
 ·simp only [Act.put, ybw, ybx, yby, zau, zav]; rfl
 refine zbd (i := 8) (N := some 34) (v := ?_) (a' := ?_) #[zt, zt, zt, zt, zt, zt, zt, zt, zt, zf] rfl rfl (by kernel_rfl) (fun _ _ _ h => h) (Or.inl ⟨by rfl, ?_⟩) ?_ ?_
 rotate_left
 ·intro w'; go_simp; with_reducible rfl
 rotate_left
 ·simp only [Act.put, ybw, ybx, yby, zau, zav]; rfl
 refine one_ (i := 9) (N := none) #[zt, zt, zt, zt, zt, zt, zt, zt, zt, zt] rfl rfl (by kernel_rfl) (by decide) (fun K hK => ?_)
 obtain ⟨w3, hrun, hmap3, hg3⟩ := (HMap.out.move (W' := W.drew.drew) rfl).put x (by omega) (by omega) HXN.out (by have := HKL.out; omega)
 refine map_step (by rfl) rfl (w1 := w3) rfl hrun ?_
 have hne : ∀ {a : Addr} {u : Value}, W.drew.drew.cell? a = some u → some a.block ≠ some bm := fun {a u} ha e => by
  injection e with e
  have := HMap.out.own
  obtain ⟨es, clock, hb, _⟩ := this
  unfold World.cell? at ha
  rw [show W.drew.drew.heap = W.heap from rfl, e, hb] at ha
  cases ha
 have hcell : ∀ {a : Addr} {u : Value}, W.drew.drew.cell? a = some u → w3.cell? a = some u := fun {a u} ha => hg3.cell ha (hne ha)
 refine hK.out _ _ ⟨hcell hHeld.1, hcell hHeld.2.1, hcell hHeld.2.2.1, hcell hHeld.2.2.2⟩ (fun hHeld => ?_)
 have hblk : ∀ {g : Nat} {o : Obj}, W.heap[g]? = some o → bm ≠ g → w3.heap[g]? = some o := fun {g o} h hn => (hg3.block g (Array.getElem?_eq_some_iff.1 h).1 (fun e => hn (by injection e with e; exact e.symm))).trans h
 have Z5 := zaa.mk (hblk X5.out (HMap.out.notCells X5.out))
 have Z6 := zaa.mk (hblk X6.out (HMap.out.notCells X6.out))
 have Map3 := zaa.mk hmap3
 have G3 := zaa.mk hg3
 have hrow3 : Kd.R kRc 120 w3 B (fun k => some k = v.ownBlock) v rs := by
  refine Kd.R_grown (w := W.drew.drew) (Kd.R_drew (Kd.R_drew HRow.out)) hg3 (fun k hk e => ?_)
  obtain ⟨inner, ho⟩ := Kd.R_own HRow.out
  obtain ⟨cells, hc2⟩ := own_typed ho k hk.symm
  have := HMap.out.notCells hc2
  injection e with e
  exact this e.symm
 have Row3 := zaa.mk hrow3
 clear hK K hrun hmap3 hg3 hne hcell hblk hrow3
 refine done_ (by kernel_rfl) ?_
 clear hHeld y2d y1e y3e y4e
 go_wp2
 have z5 : w3.drew.cell? ⟨gv, 0, none⟩ = some (.pointer (some ⟨gf, 0, none⟩)) := (zat (w := w3.drew) Z5.out 0).trans rfl
 have z6 : w3.drew.cell? ⟨gf, 1, none⟩ = some v := (zat (w := w3.drew) Z6.out 1).trans rfl
 refine start_ (n := 13) (S := fun w' => w'.cell? ⟨gv, 0, none⟩ = some (.pointer (some ⟨gf, 0, none⟩)) ∧ w'.cell? ⟨gf, 1, none⟩ = some v) (ds := [12]) #[zf, zf, zf, zf, zf, zf, zf, zf, zf, zf, zf, zf, zf] (by kernel_rfl) rfl rfl (⟨z5, z6⟩) (fun hHeld => ?_)
 refine take_ (i := 0) (N := some 35) (v := ?_) (a' := ?_) #[zt, zf, zf, zf, zf, zf, zf, zf, zf, zf, zf, zf, zf] rfl rfl (by kernel_rfl) (fun _ _ _ h => h) (Or.inl ⟨by rfl, ?_⟩) hHeld ?_ ?_
 rotate_left
 ·rintro w' ⟨s0, s1⟩
  go_simp
  with_reducible rfl
 rotate_left
 ·simp only [Act.put, ybw, ybx, yby, zau, zav]; rfl
 refine take_ (i := 1) (N := some 36) (v := ?_) (a' := ?_) #[zt, zt, zf, zf, zf, zf, zf, zf, zf, zf, zf, zf, zf] rfl rfl (by kernel_rfl) (fun _ _ _ h => h) (Or.inl ⟨by rfl, ?_⟩) hHeld ?_ ?_
 rotate_left
 ·rintro w' ⟨s0, s1⟩
  go_simp
  with_reducible rfl
 rotate_left
 ·simp only [Act.put, ybw, ybx, yby, zau, zav]; rfl
 refine zbd (i := 2) (N := some 37) (v := ?_) (a' := ?_) #[zt, zt, zt, zf, zf, zf, zf, zf, zf, zf, zf, zf, zf] rfl rfl (by kernel_rfl) (fun _ _ _ h => h) (Or.inl ⟨by rfl, ?_⟩) ?_ ?_
 rotate_left
 ·intro w'; go_simp; with_reducible rfl
 rotate_left
 ·simp only [Act.put, ybw, ybx, yby, zau, zav]; rfl
 refine zbd (i := 3) (N := some 38) (v := ?_) (a' := ?_) #[zt, zt, zt, zt, zf, zf, zf, zf, zf, zf, zf, zf, zf] rfl rfl (by kernel_rfl) (fun _ _ _ h => h) (Or.inl ⟨by rfl, ?_⟩) ?_ ?_
 rotate_left
 ·intro w'; go_simp; with_reducible rfl
 rotate_left
 ·simp only [Act.put, ybw, ybx, yby, zau, zav]; rfl
 refine take_ (i := 4) (N := some 39) (v := ?_) (a' := ?_) #[zt, zt, zt, zt, zt, zf, zf, zf, zf, zf, zf, zf, zf] rfl rfl (by kernel_rfl) (fun _ _ _ h => h) (Or.inl ⟨by rfl, ?_⟩) hHeld ?_ ?_
 rotate_left
 ·rintro w' ⟨s0, s1⟩
  go_simp
  with_reducible rfl
 rotate_left
 ·simp only [Act.put, ybw, ybx, yby, zau, zav]; rfl
 refine zbd (i := 5) (N := some 40) (v := ?_) (a' := ?_) #[zt, zt, zt, zt, zt, zt, zf, zf, zf, zf, zf, zf, zf] rfl rfl (by kernel_rfl) (fun _ _ _ h => h) (Or.inl ⟨by rfl, ?_⟩) ?_ ?_
 rotate_left
 ·intro w'; go_simp; with_reducible rfl
 rotate_left
 ·simp only [Act.put, ybw, ybx, yby, zau, zav]; rfl
 refine zbd (i := 6) (N := some 41) (v := ?_) (a' := ?_) #[zt, zt, zt, zt, zt, zt, zt, zf, zf, zf, zf, zf, zf] rfl rfl (by kernel_rfl) (fun _ _ _ h => h) (Or.inl ⟨by rfl, ?_⟩) ?_ ?_
 rotate_left
 ·intro w'; go_simp; with_reducible rfl
 rotate_left
 ·simp only [Act.put, ybw, ybx, yby, zau, zav]; rfl
 refine zbd (i := 7) (N := some 42) (v := ?_) (a' := ?_) #[zt, zt, zt, zt, zt, zt, zt, zt, zf, zf, zf, zf, zf] rfl rfl (by kernel_rfl) (fun _ _ _ h => h) (Or.inl ⟨by rfl, ?_⟩) ?_ ?_
 rotate_left
 ·intro w'; go_simp; with_reducible rfl
 rotate_left
 ·simp only [Act.put, ybw, ybx, yby, zau, zav]; rfl
 refine one_ (i := 8) (N := some 43) #[zt, zt, zt, zt, zt, zt, zt, zt, zt, zf, zf, zf, zf] rfl rfl (by kernel_rfl) (by decide) (fun K hK => ?_)
 refine event_step (by rfl) (v := .slice (some ⟨w3.drew.heap.size, 0, none⟩) 1 1) (w1 := w3.drew.alloc (.cells #[.int .i64 (r : Int), .int .i64 (c : Int), .int .i64 1, .int .i64 1] 120)) (by first | (go_simp; done) | (go_simp; rfl)) ?_
 refine hK.out _ _ ⟨zar (zac (Below.refl _ _) _) hHeld.1, zar (zac (Below.refl _ _) _) hHeld.2⟩ (fun hHeld => ?_)
 clear hK K
 refine norm_ (a' := ?_) ?_ ?_
 rotate_left
 ·show Act.put _ (some 43) _ = _
  simp only [Act.put, ybw, ybx, yby, zau, zav]
  rfl
 have i73 : (Try.prog.info? 120).map (fun i => (i.zero, i.size, i.bytes)) = some (some (.agg #[.int .i64 0, .int .i64 0, .int .i64 0, .int .i64 0]), 4, 32) := by kernel_rfl
 have hr4 : Kd.R kRc 120 w3.drew B (fun _ => True) v rs := Kd.R_mono (Kd.R_drew Row3.out) (fun _ _ => trivial)
 refine one_ (i := 9) (N := some 44) #[zt, zt, zt, zt, zt, zt, zt, zt, zt, zt, zf, zf, zf] rfl rfl (by kernel_rfl) (by decide) (fun K hK => ?_)
 refine Kd.R_append_step kRc (w0 := w3.drew) B (by rfl) (.tmp 39) (.tmp 43) 56 120 (.agg #[.int .i64 0, .int .i64 0, .int .i64 0, .int .i64 0]) 32 rfl Try.underlying56 i73 rfl (by decide) (by omega) v rs (oneR r c) [.int .i64 (r : Int), .int .i64 (c : Int), .int .i64 1, .int .i64 1] (fun _ => True) (fun _ => False) rfl rfl (k120_mkM _ _ _ (oneR r c)) (fun _ h => h.elim) (fun _ _ => trivial) hr4 (Below.refl _ _) (Nat.le_trans hBW G3.out.size) (by omega) ?_
 intro v5 w5 ho5 hb5 hg5 hat5
 obtain ⟨A5, c5, ev5⟩ := Kd.R_slice ho5
 have hne5 : ∀ {g t : Nat} {cells : Array Value}, w3.heap[g]? = some (.cells cells t (0, 0)) → t ≠ 120 → some g ≠ v.ownBlock := fun {g t cells} h ht => Kd.R_ne Row3.out h (Ne.symm ht)
 have hkeep5 : ∀ {g t : Nat} {cells : Array Value}, w3.heap[g]? = some (.cells cells t (0, 0)) → t ≠ 120 → w5.heap[g]? = some (.cells cells t (0, 0)) := fun {g t cells} h ht => (hg5.block g (Array.getElem?_eq_some_iff.1 h).1 (hne5 h ht)).trans h
 have Y5 := zaa.mk (hkeep5 Z5.out (by decide))
 have Y6 := zaa.mk (hkeep5 Z6.out (by decide))
 have hbmv : some bm ≠ v.ownBlock := fun e => by
  obtain ⟨inner, ho⟩ := Kd.R_own Row3.out
  obtain ⟨cells, hc2⟩ := own_typed ho bm e.symm
  exact Map3.out.notCells hc2 rfl
 have Map5 := zaa.mk (Map3.out.move (W' := w5) (hg5.block bm Map3.out.lt hbmv))
 have Row5 := zaa.mk (Kd.R_tight rfl ho5)
 have G5 := zaa.mk hg5
 have AT5 := zaa.mk hat5
 subst ev5
 refine hK.out _ _ ⟨(zat Y5.out 0).trans rfl, (zat Y6.out 1).trans rfl⟩ (fun hHeld => ?_)
 clear hK K ho5 hb5 hg5 hat5 hne5 hkeep5 hbmv hr4 i73
 refine norm_ (a' := ?_) ?_ ?_
 rotate_left
 ·show Act.put _ (some 44) _ = _
  simp only [Act.put, ybw, ybx, yby, zau, zav]
  rfl
 refine zbd (i := 10) (N := some 45) (v := ?_) (a' := ?_) #[zt, zt, zt, zt, zt, zt, zt, zt, zt, zt, zt, zf, zf] rfl rfl (by kernel_rfl) (fun _ _ _ h => h) (Or.inl ⟨by rfl, ?_⟩) ?_ ?_
 rotate_left
 ·intro w'; go_simp; with_reducible rfl
 rotate_left
 ·simp only [Act.put, ybw, ybx, yby, zau, zav]; rfl
 refine zbd (i := 11) (N := some 46) (v := ?_) (a' := ?_) #[zt, zt, zt, zt, zt, zt, zt, zt, zt, zt, zt, zt, zf] rfl rfl (by kernel_rfl) (fun _ _ _ h => h) (Or.inl ⟨by rfl, ?_⟩) ?_ ?_
 rotate_left
 ·intro w'; go_simp; with_reducible rfl
 rotate_left
 ·simp only [Act.put, ybw, ybx, yby, zau, zav]; rfl
 have hq1 := hHeld.2
 have hq2 : w5.frozen? ⟨gf, 1, none⟩ = false := zaw Y6.out 1
 refine last_ (i := 12) (N := none) #[zt, zt, zt, zt, zt, zt, zt, zt, zt, zt, zt, zt, zt] rfl rfl (by kernel_rfl) (by decide) (fun K hK => ?_)
 refine skip_step (by rfl) rfl (w1 := w5.setCell ⟨gf, 1, none⟩ (.slice A5 (rs ++ [oneR r c]).length c5)) (by first | (go_simp; done) | (go_simp; rfl)) ?_
 refine hK.out _ _ ?_
 clear hK K hHeld hq1 hq2
 have hgf5 : gf < w5.heap.size := (Array.getElem?_eq_some_iff.1 Y6.out).1
 have hgv : gv ≠ gf := by
  rintro rfl
  have z := Y5.out
  rw [Y6.out] at z
  injection z with z
  injection z with _ z
  cases z
 have Q5 := zaa.mk (show (w5.setCell ⟨gf, 1, none⟩ (.slice A5 (rs ++ [oneR r c]).length c5)).heap[gv]? = some (.cells #[.pointer (some ⟨gf, 0, none⟩)] 52 (0, 0)) from (Below.heap_setCell _ _ _ _ hgv).trans Y5.out)
 have Q6 := zaa.mk (show (w5.setCell ⟨gf, 1, none⟩ (.slice A5 (rs ++ [oneR r c]).length c5)).heap[gf]? = some (.cells #[.slice none 0 0, .slice A5 (rs ++ [oneR r c]).length c5] 58 (0, 0)) from by
  simp only [World.setCell, Array.getElem?_modify, if_true]
  rw [Y6.out]
  simp)
 have QM := zaa.mk (Map5.out.move (W' := w5.setCell ⟨gf, 1, none⟩ (.slice A5 (rs ++ [oneR r c]).length c5)) (Below.heap_setCell _ _ _ _ (Map5.out.notCells Y6.out)))
 have QR := zaa.mk (R_setF Row5.out Y6.out (by decide) 1 (.slice A5 (rs ++ [oneR r c]).length c5))
 have QO := zaa.mk (show Other (fun k => k = bm ∨ k = gf ∨ some k = v.ownBlock) W (w5.setCell ⟨gf, 1, none⟩ (.slice A5 (rs ++ [oneR r c]).length c5)) from by
  have g3 := G3.out
  have g5 := G5.out
  refine ⟨g5.os.trans g3.os, g5.tape.trans g3.tape, g5.output.trans g3.output, ?_, fun k hk hn => ?_⟩
  ·have h1 : W.heap.size ≤ w3.heap.size := g3.size
   have h2 : w3.heap.size ≤ w5.heap.size := g5.size
   simpa [World.setCell] using Nat.le_trans h1 h2
  ·rw [Below.heap_setCell _ _ _ _ (fun e => hn (.inr (.inl e))), g5.block k (Nat.lt_of_lt_of_le hk g3.size) (fun e => hn (.inr (.inr e)))]
   exact g3.block k hk (fun e => hn (.inl (by injection e))))
 have ATW : ∀ k, (Value.slice A5 (rs ++ [oneR r c]).length c5).ownBlock = some k → v.ownBlock = some k ∨ W.heap.size ≤ k := fun k hk => by
  rcases AT5.out with h1 | ⟨b, h1, h2⟩
  ·exact .inl (by rw [← h1]; exact hk)
  ·rw [h1] at hk
   injection hk with hk
   subst hk
   exact .inr (Nat.le_trans G3.out.size h2)
 have AW := zaa.mk ATW
 have SZ := zaa.mk (show W.heap.size ≤ (w5.setCell ⟨gf, 1, none⟩ (.slice A5 (rs ++ [oneR r c]).length c5)).heap.size from QO.out.size)
 clear Y5 Y6 Map5 Row5 G5 AT5 ATW Z5 Z6 Map3 G3 Row3 hgf5 hgv
 obtain ⟨rs1, hrs1⟩ : ∃ rs1, rs1 = rs ++ [oneR r c] := ⟨_, rfl⟩
 rw [← hrs1] at Q5 Q6 QM QR QO AW SZ ⊢
 have RS1 := zaa.mk hrs1
 clear hrs1
 obtain ⟨k, hkk⟩ : ∃ k, k = ks.length := ⟨_, rfl⟩
 rw [← hkk]
 have KK := zaa.mk hkk
 clear hkk
 generalize w5.setCell ⟨gf, 1, none⟩ (.slice A5 rs1.length c5) = wx at Q5 Q6 QM QR QO SZ ⊢
 refine done_ (by kernel_rfl) ?_
 have hkr : k < rs1.length := by rw [RS1.out, KK.out, HKL.out]; simp
 have hrl1 : rs1.length ≤ 1048577 := by rw [RS1.out]; simp; omega
 have HBd1 := zaa.mk (show ∀ a ∈ rs1, boundR a hi wi from fun a ha => by
  rw [RS1.out] at ha
  rcases List.mem_append.1 ha with ha | ha
  ·exact HBd.out a ha
  ·simp at ha
   subst ha
   exact oneR_bound hr hc)
 have hpos : 0 < rs1.length := by omega
 obtain ⟨gr, cp, ev, hgr, hlt, cells, hcells⟩ := Kd.R_form QR.out hpos
 injection ev with ea en ec
 subst ea
 subst ec
 clear en
 obtain ⟨y0, y1, y2, y3⟩ := rc_cells QR.out k hkr
 have hgrf : gr ≠ gf := by
  rintro rfl
  have z := Q6.out
  rw [hcells] at z
  injection z with z
  injection z with _ z
  cases z
 have x5 : wx.cell? ⟨gv, 0, none⟩ = some (.pointer (some ⟨gf, 0, none⟩)) := (zat (w := wx) Q5.out 0).trans rfl
 have x6 : wx.cell? ⟨gf, 1, none⟩ = some (.slice (some ⟨gr, 0, none⟩) rs1.length c5) := (zat (w := wx) Q6.out 1).trans rfl
 have k0 : (0 : Int) ≤ k := by omega
 have k1 : (k : Int) < rs1.length := by omega
 have k2 : (rs1.length : Int) ≤ 1048577 := by omega
 have hmem : rs1.getD k zcf ∈ rs1 := by rw [ycb, List.getElem?_eq_getElem hkr]; exact List.getElem_mem hkr
 have hb1 := HBd1.out _ hmem
 generalize hold : rs1.getD k zcf = old at y0 y1 y2 y3 hb1
 have HOLD := zaa.mk hold
 have HB1 := zaa.mk hb1
 have HNE := zaa.mk hgrf
 have HC := zaa.mk hcells
 clear hold hb1 hmem hcells hlt hgrf
 go_wp2
 refine start_ (n := 18) (S := fun w' => w'.cell? ⟨gv, 0, none⟩ = some (.pointer (some ⟨gf, 0, none⟩)) ∧ w'.cell? ⟨gf, 1, none⟩ = some (.slice (some ⟨gr, 0, none⟩) rs1.length c5) ∧ w'.cell? ⟨gr, k * 4, none⟩ = some (.int .i64 old.f0) ∧ w'.cell? ⟨gr, k * 4 + 1, none⟩ = some (.int .i64 old.f1) ∧ w'.cell? ⟨gr, k * 4 + 2, none⟩ = some (.int .i64 old.f2) ∧ w'.cell? ⟨gr, k * 4 + 3, none⟩ = some (.int .i64 old.f3)) (ds := [17]) #[zf, zf, zf, zf, zf, zf, zf, zf, zf, zf, zf, zf, zf, zf, zf, zf, zf, zf] (by kernel_rfl) rfl rfl (⟨x5, x6, y0, y1, y2, y3⟩) (fun hHeld => ?_)
 refine take_ (i := 0) (N := some 47) (v := ?_) (a' := ?_) #[zt, zf, zf, zf, zf, zf, zf, zf, zf, zf, zf, zf, zf, zf, zf, zf, zf, zf] rfl rfl (by kernel_rfl) (fun _ _ _ h => h) (Or.inl ⟨by rfl, ?_⟩) hHeld ?_ ?_
 rotate_left
 ·rintro w' ⟨s0, s1, s2, s3, s4, s5⟩
  go_simp
  with_reducible rfl
 rotate_left
 ·simp only [Act.put, ybw, ybx, yby, zau, zav]; rfl
 refine zbd (i := 1) (N := some 48) (v := ?_) (a' := ?_) #[zt, zt, zf, zf, zf, zf, zf, zf, zf, zf, zf, zf, zf, zf, zf, zf, zf, zf] rfl rfl (by kernel_rfl) (fun _ _ _ h => h) (Or.inl ⟨by rfl, ?_⟩) ?_ ?_
 rotate_left
 ·intro w'; go_simp; with_reducible rfl
 rotate_left
 ·simp only [Act.put, ybw, ybx, yby, zau, zav]; rfl
 refine zbd (i := 2) (N := some 49) (v := ?_) (a' := ?_) #[zt, zt, zt, zf, zf, zf, zf, zf, zf, zf, zf, zf, zf, zf, zf, zf, zf, zf] rfl rfl (by kernel_rfl) (fun _ _ _ h => h) (Or.inl ⟨by rfl, ?_⟩) ?_ ?_
 rotate_left
 ·intro w'; go_simp; with_reducible rfl
 rotate_left
 ·simp only [Act.put, ybw, ybx, yby, zau, zav]; rfl
 refine take_ (i := 3) (N := some 50) (v := ?_) (a' := ?_) #[zt, zt, zt, zt, zf, zf, zf, zf, zf, zf, zf, zf, zf, zf, zf, zf, zf, zf] rfl rfl (by kernel_rfl) (fun _ _ _ h => h) (Or.inl ⟨by rfl, ?_⟩) hHeld ?_ ?_
 rotate_left
 ·rintro w' ⟨s0, s1, s2, s3, s4, s5⟩
  go_simp
  with_reducible rfl
 rotate_left
 ·simp only [Act.put, ybw, ybx, yby, zau, zav]; rfl
 refine zbd (i := 4) (N := some 51) (v := ?_) (a' := ?_) #[zt, zt, zt, zt, zt, zf, zf, zf, zf, zf, zf, zf, zf, zf, zf, zf, zf, zf] rfl rfl (by kernel_rfl) (fun _ _ _ h => h) (Or.inl ⟨by rfl, ?_⟩) ?_ ?_
 rotate_left
 ·intro w'; go_simp; with_reducible rfl
 rotate_left
 ·simp only [Act.put, ybw, ybx, yby, zau, zav]; rfl
 refine take_ (i := 5) (N := some 52) (v := ?_) (a' := ?_) #[zt, zt, zt, zt, zt, zt, zf, zf, zf, zf, zf, zf, zf, zf, zf, zf, zf, zf] rfl rfl (by kernel_rfl) (fun _ _ _ h => h) (Or.inl ⟨by rfl, ?_⟩) hHeld ?_ ?_
 rotate_left
 ·rintro w' ⟨s0, s1, s2, s3, s4, s5⟩
  go_simp
  with_reducible rfl
 rotate_left
 ·simp only [Act.put, ybw, ybx, yby, zau, zav]; rfl
 refine zbd (i := 6) (N := some 53) (v := ?_) (a' := ?_) #[zt, zt, zt, zt, zt, zt, zt, zf, zf, zf, zf, zf, zf, zf, zf, zf, zf, zf] rfl rfl (by kernel_rfl) (fun _ _ _ h => h) (Or.inl ⟨by rfl, ?_⟩) ?_ ?_
 rotate_left
 ·intro w'; go_simp; with_reducible rfl
 rotate_left
 ·simp only [Act.put, ybw, ybx, yby, zau, zav]; rfl
 refine zbd (i := 7) (N := some 54) (v := ?_) (a' := ?_) #[zt, zt, zt, zt, zt, zt, zt, zt, zf, zf, zf, zf, zf, zf, zf, zf, zf, zf] rfl rfl (by kernel_rfl) (fun _ _ _ h => h) (Or.inl ⟨by rfl, ?_⟩) ?_ ?_
 rotate_left
 ·intro w'; go_simp; with_reducible rfl
 rotate_left
 ·simp only [Act.put, ybw, ybx, yby, zau, zav]; rfl
 refine take_ (i := 8) (N := some 55) (v := ?_) (a' := ?_) #[zt, zt, zt, zt, zt, zt, zt, zt, zt, zf, zf, zf, zf, zf, zf, zf, zf, zf] rfl rfl (by kernel_rfl) (fun _ _ _ h => h) (Or.inl ⟨by rfl, ?_⟩) hHeld ?_ ?_
 rotate_left
 ·rintro w' ⟨s0, s1, s2, s3, s4, s5⟩
  go_simp
  with_reducible rfl
 rotate_left
 ·simp only [Act.put, ybw, ybx, yby, zau, zav]; rfl
 refine zbd (i := 9) (N := some 56) (v := ?_) (a' := ?_) #[zt, zt, zt, zt, zt, zt, zt, zt, zt, zt, zf, zf, zf, zf, zf, zf, zf, zf] rfl rfl (by kernel_rfl) (fun _ _ _ h => h) (Or.inl ⟨by rfl, ?_⟩) ?_ ?_
 rotate_left
 ·intro w'; go_simp; with_reducible rfl
 rotate_left
 ·simp only [Act.put, ybw, ybx, yby, zau, zav]; rfl
 refine zbd (i := 10) (N := some 57) (v := ?_) (a' := ?_) #[zt, zt, zt, zt, zt, zt, zt, zt, zt, zt, zt, zf, zf, zf, zf, zf, zf, zf] rfl rfl (by kernel_rfl) (fun _ _ _ h => h) (Or.inl ⟨by rfl, ?_⟩) ?_ ?_
 rotate_left
 ·intro w'; go_simp; with_reducible rfl
 rotate_left
 ·simp only [Act.put, ybw, ybx, yby, zau, zav]; rfl
 refine take_ (i := 11) (N := some 58) (v := ?_) (a' := ?_) #[zt, zt, zt, zt, zt, zt, zt, zt, zt, zt, zt, zt, zf, zf, zf, zf, zf, zf] rfl rfl (by kernel_rfl) (fun _ _ _ h => h) (Or.inl ⟨by rfl, ?_⟩) hHeld ?_ ?_
 rotate_left
 ·rintro w' ⟨s0, s1, s2, s3, s4, s5⟩
  go_simp
  with_reducible rfl
 rotate_left
 ·simp only [Act.put, ybw, ybx, yby, zau, zav]; rfl
 refine zbd (i := 12) (N := some 59) (v := ?_) (a' := ?_) #[zt, zt, zt, zt, zt, zt, zt, zt, zt, zt, zt, zt, zt, zf, zf, zf, zf, zf] rfl rfl (by kernel_rfl) (fun _ _ _ h => h) (Or.inl ⟨by rfl, ?_⟩) ?_ ?_
 rotate_left
 ·intro w'; go_simp; with_reducible rfl
 rotate_left
 ·simp only [Act.put, ybw, ybx, yby, zau, zav]; rfl
 refine zbd (i := 13) (N := some 60) (v := ?_) (a' := ?_) #[zt, zt, zt, zt, zt, zt, zt, zt, zt, zt, zt, zt, zt, zt, zf, zf, zf, zf] rfl rfl (by kernel_rfl) (fun _ _ _ h => h) (Or.inl ⟨by rfl, ?_⟩) ?_ ?_
 rotate_left
 ·intro w'; go_simp; with_reducible rfl
 rotate_left
 ·simp only [Act.put, ybw, ybx, yby, zau, zav]; rfl
 refine zbd (i := 14) (N := some 61) (v := ?_) (a' := ?_) #[zt, zt, zt, zt, zt, zt, zt, zt, zt, zt, zt, zt, zt, zt, zt, zf, zf, zf] rfl rfl (by kernel_rfl) (fun _ _ _ h => h) (Or.inl ⟨by rfl, ?_⟩) ?_ ?_
 rotate_left
 ·intro w'; go_simp; with_reducible rfl
 rotate_left
 ·simp only [Act.put, ybw, ybx, yby, zau, zav]; rfl
 refine one_ (i := 15) (N := some 62) #[zt, zt, zt, zt, zt, zt, zt, zt, zt, zt, zt, zt, zt, zt, zt, zt, zf, zf] rfl rfl (by kernel_rfl) (by decide) (fun K hK => ?_)
 refine goes_ Try.func118 (by kernel_rfl) rfl #[.agg #[.int .i64 old.f0, .int .i64 old.f1, .int .i64 old.f2, .int .i64 old.f3], .agg #[.int .i64 (r : Int), .int .i64 (c : Int), .int .i64 1, .int .i64 1]] (by rfl) rfl rfl (by (try simp only [ybz, yca, List.map_nil]); first | done | rfl) ?_
 refine (PC.impl_rect_both.calls old.f0 old.f1 old.f2 old.f3 r c 1 1 _ _ _ _ _ (both_f old (oneR r c) hi wi HB1.out (oneR_bound hr hc) hhi hwi)).mono ?_
 rintro e w8 ⟨rfl, hb8⟩
 refine ⟨_, rfl, ?_⟩
 have HB8 := zaa.mk (show Below wx.heap.size wx w8 from ⟨hb8.os, hb8.tape, hb8.output, hb8.size, hb8.block⟩)
 refine hK.out _ _ ⟨zar hb8 hHeld.1, zar hb8 hHeld.2.1, zar hb8 hHeld.2.2.1, zar hb8 hHeld.2.2.2.1, zar hb8 hHeld.2.2.2.2.1, zar hb8 hHeld.2.2.2.2.2⟩ (fun hHeld => ?_)
 clear hK K hb8
 refine norm_ (a' := ?_) ?_ ?_
 rotate_left
 ·show Act.put _ (some 62) _ = _
  simp only [Act.put, ybw, ybx, yby, zau, zav]
  rfl
 generalize hnew : bothR old (oneR r c) = nw
 have HNEW := zaa.mk hnew
 clear hnew
 refine zbd (i := 16) (N := some 63) (v := ?_) (a' := ?_) #[zt, zt, zt, zt, zt, zt, zt, zt, zt, zt, zt, zt, zt, zt, zt, zt, zt, zf] rfl rfl (by kernel_rfl) (fun _ _ _ h => h) (Or.inl ⟨by rfl, ?_⟩) ?_ ?_
 rotate_left
 ·intro w'; go_simp; with_reducible rfl
 rotate_left
 ·simp only [Act.put, ybw, ybx, yby, zau, zav]; rfl
 have hrow8 := Kd.R_below QR.out HB8.out
 obtain ⟨cur8, hc8, hs8⟩ := rc_block hrow8
 refine last_ (i := 17) (N := none) #[zt, zt, zt, zt, zt, zt, zt, zt, zt, zt, zt, zt, zt, zt, zt, zt, zt, zt] rfl rfl (by kernel_rfl) (by decide) (fun K hK => ?_)
 refine cells_step (W := w8) (by rfl) rfl (t := 120) (e := 120) rfl (g := gr) (off := k * 4) (cur := cur8) rfl (.agg #[.int .i64 nw.f0, .int .i64 nw.f1, .int .i64 nw.f2, .int .i64 nw.f3]) rfl [.int .i64 nw.f0, .int .i64 nw.f1, .int .i64 nw.f2, .int .i64 nw.f3] rfl (by kernel_rfl) hc8 (by simp; omega) (by simp; exact ⟨rfl, rfl, rfl, rfl⟩) ?_
 refine hK.out _ _ ?_
 clear hK K hHeld
 have hput := rc_put hrow8 k hkr nw
 have HPUT := zaa.mk hput
 clear hput hrow8 hc8
 generalize w8.setCells gr (k * 4) [.int .i64 nw.f0, .int .i64 nw.f1, .int .i64 nw.f2, .int .i64 nw.f3] = w9 at HPUT ⊢
 refine done_ (by kernel_rfl) ?_
 go_wp2
 go_ret
 have hset : rs1.set k nw = rs ++ [bothR (oneR r c) (oneR r c)] := by
  have hkk : k = rs.length := by rw [KK.out, HKL.out]
  rw [← HNEW.out, ← HOLD.out, RS1.out, hkk]
  simp [ycb]
 have hg := HPUT.out.2
 have hmne : bm ≠ gr := QM.out.notCells HC.out
 have hin : ∀ {g : Nat} {o : Obj}, wx.heap[g]? = some o → g ≠ gr → w9.heap[g]? = some o := fun {g o} h hn => by
  have hl := (Array.getElem?_eq_some_iff.1 h).1
  rw [hg.block g (Nat.lt_of_lt_of_le hl HB8.out.size) (fun e => hn (by injection e)), HB8.out.block g hl]
  exact h
 refine ⟨by rw [KK.out]; rfl, .slice (some ⟨gr, 0, none⟩) rs1.length c5, ?_, ?_, ?_, AW.out, ?_⟩
 ·rw [← hset]
  exact HPUT.out.1
 ·refine QM.out.move ?_
  rw [hg.block bm (Nat.lt_of_lt_of_le QM.out.lt HB8.out.size) (fun e => hmne (by injection e)), HB8.out.block bm QM.out.lt]
 ·exact hin Q6.out (Ne.symm HNE.out)
 ·have o := QO.out
  refine ⟨hg.os.trans (HB8.out.os.trans o.os), hg.tape.trans (HB8.out.tape.trans o.tape), hg.output.trans (HB8.out.output.trans o.output), Nat.le_trans o.size (Nat.le_trans HB8.out.size hg.size), fun i hi hn => ?_⟩
  have hi2 := Nat.lt_of_lt_of_le hi o.size
  rw [hg.block i (Nat.lt_of_lt_of_le hi2 HB8.out.size) (fun e => ?_), HB8.out.block i hi2, o.block i hi hn]
  injection e with e
  rcases AW.out gr rfl with h1 | h1
  ·exact hn (.inr (.inr (by rw [e, h1])))
  ·omega
theorem divmod_of {r c wi : Nat} (hc : c < wi) : (r * wi + c) / wi = r ∧ (r * wi + c) % wi = c :=
 ⟨by rw [Nat.add_comm, Nat.add_mul_div_right _ _ (by omega), Nat.div_eq_of_lt hc, Nat.zero_add], by rw [Nat.add_comm, Nat.add_mul_mod_self_right, Nat.mod_eq_of_lt hc]⟩
theorem stAt_step (rows : List (List Int)) {r c wi : Nat} (hc : c < wi) : stAt rows wi (r * wi + c + 1) = stepS (stAt rows wi (r * wi + c)) r c (zbe rows r c) := by
 obtain ⟨h1, h2⟩ := divmod_of (r := r) hc
 show stepS (stAt rows wi (r * wi + c)) ((r * wi + c) / wi) ((r * wi + c) % wi) (zbe rows ((r * wi + c) / wi) ((r * wi + c) % wi)) = _
 rw [h1, h2]
theorem settled2_cell (w0 : World) (gn gc gv gf bm : Nat) (A : Option Addr) (cap : Nat) (rows : List (List Int)) (hi wi : Nat) (hG : GridIn w0 A rows hi wi) :
  CellFn Try.prog 117 #[.pointer (some ⟨gn, 0, none⟩), .pointer (some ⟨gc, 0, none⟩), .pointer (some ⟨gv, 0, none⟩)] hi wi (numAt rows wi) (fun n F W => ∃ v, SInv w0 gn gc gv gf bm A cap rows wi v n F W) := by
 refine ⟨fun n F W W' ⟨v, h⟩ hs hm => ⟨v, h.move hs hm⟩, fun n F W k ⟨v, h⟩ hk => h.lt k hk, fun n F W r c hr hc hn ⟨v, hI⟩ => ?_⟩
 subst hn
 obtain ⟨ad, ad2, ci, row, rfl, hx3, hwl, hx4, hv0, hv1⟩ := hG.cell r c hr hc
 have hi1 := hG.hi_le
 have wi1 := hG.wi_le
 have hmany := hG.many
 have hrl : r < rows.length := by rw [hG.high]; exact hr
 have hcl : c < row.length := by omega
 have o3 := World.block_lt_of_cell? w0 _ hx3
 have o4 := World.block_lt_of_cell? w0 _ hx4
 replace hx3 := (World.cell?_of_block (w := w0) (hI.old _ o3)).trans hx3
 replace hx4 := (World.cell?_of_block (w := w0) (hI.old _ o4)).trans hx4
 rw [add_block] at o3 o4
 have hle : r * wi + c ≤ hi * wi := by
  have : (r + 1) * wi ≤ hi * wi := Nat.mul_le_mul_right _ hr
  rw [Nat.succ_mul] at this
  omega
 obtain ⟨hlen, hnd, hln, hbd⟩ := stAt_inv rows hi wi (r * wi + c) hle
 have hst := stAt_step rows (r := r) hc
 obtain ⟨b1, b2, b3, b4, b5⟩ := hI.base
 by_cases hx : zbe rows r c ∈ (stAt rows wi (r * wi + c)).1
 ·have hkl : (stAt rows wi (r * wi + c)).1.idxOf (zbe rows r c) < (stAt rows wi (r * wi + c)).2.length := by rw [← hlen]; exact List.idxOf_lt_length_of_mem hx
  refine (found_walk W w0.heap.size gn gc gv gf bm ad ad2 rows.length cap row.length ci (zbe rows r c) _ (stAt rows wi (r * wi + c)).2 v r c hi wi hr hc hi1 wi1 hrl hcl (by have := hG.high; omega) (by omega)
   ((zat hI.num 0).trans rfl) ((zat hI.cel 0).trans rfl) hx3 hx4 (fun W' hW' => ?_) ((zat hI.flo 0).trans rfl) hI.str hI.row hkl (by omega) hbd).mono ?_
  ·have := (hI.map.move hW').look (zbe rows r c) (by omega) (by omega)
   rw [if_pos hx, decide_eq_true hx] at this
   exact this
  ·rintro e W' ⟨rfl, hrow, hg⟩
   have hst2 : stAt rows wi (r * wi + c + 1) = ((stAt rows wi (r * wi + c)).1, (stAt rows wi (r * wi + c)).2.set ((stAt rows wi (r * wi + c)).1.idxOf (zbe rows r c)) (bothR ((stAt rows wi (r * wi + c)).2.getD ((stAt rows wi (r * wi + c)).1.idxOf (zbe rows r c)) zcf) (oneR r c))) := by rw [hst, stepS, if_pos hx]
   have hne : ∀ {g t : Nat} {cells : Array Value}, W.heap[g]? = some (.cells cells t (0, 0)) → t ≠ 120 → W'.heap[g]? = some (.cells cells t (0, 0)) := fun {g t cells} h ht => (hg.block g (Array.getElem?_eq_some_iff.1 h).1 (Kd.R_ne hI.row h (Ne.symm ht))).trans h
   have hbase : ∀ k, some k = v.ownBlock → w0.heap.size ≤ k := fun k hk => Kd.R_base hI.row k hk.symm
   refine ⟨?_, F, ⟨v, ⟨fun k hk => (hg.block k (Nat.lt_of_lt_of_le hk hI.size) (fun e => by have := hbase k e; omega)).trans (hI.old k hk), Nat.le_trans hI.size hg.size, hne hI.num (by decide), hne hI.cel (by decide), hne hI.flo (by decide), hne hI.str (by decide), ?_, ?_, hI.base, hI.foot⟩⟩, fun k hk => .inl hk, ⟨hg.os, hg.tape, hg.output, hg.size, fun k hk hn => hg.block k hk (fun e => hn ((hI.foot k).2 (by simp [e])))⟩⟩
   ·unfold numAt
    rw [hst2]
   ·rw [hst2]
    refine hI.map.move (hg.block bm hI.map.lt (fun e => ?_))
    obtain ⟨inner, ho⟩ := Kd.R_own hI.row
    obtain ⟨cells, hc2⟩ := own_typed ho bm e.symm
    exact hI.map.notCells hc2 rfl
   ·rw [hst2]
    exact hrow
 ·refine (new_walk W w0.heap.size gn gc gv gf bm ad ad2 rows.length cap row.length ci (zbe rows r c) (stAt rows wi (r * wi + c)).1 (stAt rows wi (r * wi + c)).2 v r c hi wi hr hc hi1 wi1 hrl hcl (by have := hG.high; omega) (by omega)
   hI.num hI.cel hx3 hx4 ⟨o3, o4⟩ hI.map hx ⟨hv0, hv1⟩ hlen hI.flo hI.str hI.row (by omega) hI.size hbd).mono ?_
  rintro e W' ⟨rfl, v', hrow, hmap, hstr, hat, hO⟩
  have hst2 : stAt rows wi (r * wi + c + 1) = ((stAt rows wi (r * wi + c)).1 ++ [zbe rows r c], (stAt rows wi (r * wi + c)).2 ++ [bothR (oneR r c) (oneR r c)]) := by rw [hst, stepS, if_neg hx]
  have hbase : ∀ k, some k = v.ownBlock → w0.heap.size ≤ k := fun k hk => Kd.R_base hI.row k hk.symm
  have hnotF : ∀ {g t : Nat} {cells : Array Value}, W.heap[g]? = some (.cells cells t (0, 0)) → t ≠ 120 → t ≠ 58 → W'.heap[g]? = some (.cells cells t (0, 0)) := fun {g t cells} h ht ht2 => (hO.block g (Array.getElem?_eq_some_iff.1 h).1 (fun e => by
   rcases e with rfl | rfl | e
   ·exact hI.map.notCells h rfl
   ·have z := hI.str
    rw [h] at z
    injection z with z
    injection z with _ z
    exact ht2 z
   ·exact Kd.R_ne hI.row h (Ne.symm ht) e)).trans h
  refine ⟨?_, (fun k => k < w0.heap.size ∨ k = gn ∨ k = gc ∨ k = gv ∨ k = gf ∨ k = bm ∨ some k = v'.ownBlock), ⟨v', ⟨fun k hk => (hO.block k (Nat.lt_of_lt_of_le hk hI.size) (fun e => ?_)).trans (hI.old k hk), Nat.le_trans hI.size hO.size, hnotF hI.num (by decide) (by decide), hnotF hI.cel (by decide) (by decide), hnotF hI.flo (by decide) (by decide), hstr, ?_, ?_, hI.base, fun k => Iff.rfl⟩⟩, fun k hk => ?_, ⟨hO.os, hO.tape, hO.output, hO.size, fun k hk hn => hO.block k hk (fun e => hn ((hI.foot k).2 ?_))⟩⟩
  ·unfold numAt
   rw [hst2]
   simp only
   rw [List.idxOf_append, if_neg hx]
   simp
  ·rcases e with rfl | rfl | e
   ·omega
   ·omega
   ·have := hbase k e; omega
  ·rw [hst2]
   exact hmap
  ·rw [hst2]
   exact hrow
  ·rcases hk with h1 | h1 | h1 | h1 | h1 | h1 | h1
   ·exact .inl ((hI.foot k).2 (by simp [h1]))
   ·exact .inl ((hI.foot k).2 (by simp [h1]))
   ·exact .inl ((hI.foot k).2 (by simp [h1]))
   ·exact .inl ((hI.foot k).2 (by simp [h1]))
   ·exact .inl ((hI.foot k).2 (by simp [h1]))
   ·exact .inl ((hI.foot k).2 (by simp [h1]))
   ·rcases hat k h1.symm with h2 | h2
    ·exact .inl ((hI.foot k).2 (by simp [h2]))
    ·exact .inr h2
  ·rcases e with h1 | h1 | h1
   ·simp [h1]
   ·simp [h1]
   ·simp [h1]
def FloorAt (w : World) (g : Nat) (cs : List (List Int)) (rs : List Rc) : Prop := IsS58 w w g cs rs
theorem FloorAt.below {w w' : World} {g : Nat} {cs : List (List Int)} {rs : List Rc} (h : FloorAt w g cs rs) (hb : Below w.heap.size w w') : FloorAt w' g cs rs := by
  obtain ⟨A0, c0, A1, c1, h1, h2, h3, h4⟩ := h
  have hlt := (Array.getElem?_eq_some_iff.1 h1).1
  have e := (hb.block g hlt).trans h1
  exact ⟨A0, c0, A1, c1, e, e, Kd.C_below h3 hb, Kd.C_below h4 hb⟩
def zaj (rows : List (List Int)) : Nat := (rows.getD 0 []).length
def zbo (rows : List (List Int)) : Bool := decide (1 ≤ rows.length) && decide (rows.length ≤ 6) && decide (1 ≤ zaj rows) && decide (zaj rows ≤ 6) && !(rows.any fun r => r.length != zaj rows)
def areaR (a : Rc) : Int := a.f2 * a.f3
def zbt (rs : List Rc) : Int := (rs.map areaR).foldl (· + ·) 0
def zay (rows : List (List Int)) : List Rc := (stAt rows (zaj rows) (rows.length * zaj rows)).2
def cellsOf (rows : List (List Int)) : List (List Int) := zbc rows.length (zaj rows) (numAt rows (zaj rows))
def zby (rows : List (List Int)) : Option (List (List Int) × List Rc × Bool) :=
  if zbo rows = true then if (zay rows).length ≤ 9 then some (cellsOf rows, zay rows, decide (zbt (zay rows) = (rows.length : Int) * (zaj rows : Int))) else none else none
theorem area_bound {a : Rc} {hi wi : Nat} (h : boundR a hi wi) (h1 : hi ≤ 6) (h2 : wi ≤ 6) : 0 ≤ areaR a ∧ areaR a ≤ 36 := by
  obtain ⟨a1, a2, a3, a4, a5, a6⟩ := h
  unfold areaR
  refine ⟨Int.mul_nonneg (by omega) (by omega), ?_⟩
  have := Int.mul_le_mul (show a.f2 ≤ 6 by omega) (show a.f3 ≤ 6 by omega) (by omega) (by omega)
  omega
theorem sum_snoc (xs : List Rc) (a : Rc) : zbt (xs ++ [a]) = zbt xs + areaR a := by
  simp [zbt, List.foldl_append]
theorem sum_take (rs : List Rc) (i : Nat) (hi : i < rs.length) : zbt (rs.take (i + 1)) = zbt (rs.take i) + areaR (rs.getD i zcf) := by
  rw [List.take_add_one, List.getElem?_eq_getElem hi, Option.toList_some, sum_snoc, ycb, List.getElem?_eq_getElem hi]
  rfl
theorem sum_bound (rs : List Rc) {hi wi : Nat} (h : ∀ a ∈ rs, boundR a hi wi) (h1 : hi ≤ 6) (h2 : wi ≤ 6) : ∀ i, i ≤ rs.length → 0 ≤ zbt (rs.take i) ∧ zbt (rs.take i) ≤ 36 * i
  | 0, _ => by simp [zbt]
  | i + 1, hi => by
    have ih := sum_bound rs h h1 h2 i (by omega)
    have hmem : rs.getD i zcf ∈ rs := by rw [ycb, List.getElem?_eq_getElem (by omega)]; exact List.getElem_mem _
    have hb := area_bound (h _ hmem) h1 h2
    rw [sum_take rs i (by omega)]
    omega
theorem cellsOf_length (rows : List (List Int)) : (cellsOf rows).length = rows.length := zbk _ _ _
theorem cellsOf_wide (rows : List (List Int)) (h : 1 ≤ rows.length) : (rd_L3 (cellsOf rows) 0).length = zaj rows := by
  unfold rd_L3 cellsOf zbc
  obtain ⟨n, hn⟩ : ∃ n, rows.length = n + 1 := ⟨rows.length - 1, by omega⟩
  rw [hn, List.range_succ_eq_map]
  simp
def FloorRes (w : World) (r : Option (List (List Int) × List Rc × Bool)) (e : Ending) (w' : World) : Prop :=
  Below w.heap.size w w' ∧ match r with
    | none => e = .returned (.tuple #[.pointer none, .bool false])
    | some (cs, rs, b) => ∃ g, e = .returned (.tuple #[.pointer (some ⟨g, 0, none⟩), .bool b]) ∧ FloorAt w' g cs rs
set_option maxHeartbeats 4000000 in
set_option maxRecDepth 100000 in
theorem settled_bad (A : Option Addr) (cap : Nat) (rows : List (List Int)) (w : World) (hr : (Kd.slice 3 (Kd.int .i64)).C w A rows.length rows) (hbad : rows.length < 1 ∨ 6 < rows.length ∨ (1 ≤ rows.length ∧ zaj rows < 1) ∨ (1 ≤ rows.length ∧ 6 < zaj rows)) :
    Calls Try.prog 108 #[.slice A rows.length cap] w (FloorRes w none) := by
  have hn := (C_len hr).2
  have HR := zaa.mk hr
  clear hr
  have b1 : (rows.length : Int) ≤ 9223372036854775807 := by omega
  rcases hbad with h | h | ⟨h0, h⟩ | ⟨h0, h⟩
  · have d1 : decide ((rows.length : Int) < 1) = true := decide_eq_true (by omega)
    go_enter Try.func108, Try.ntmps108
    go_wp2_with (first | ((with_reducible refine zbb (N := 1) rfl ?_); refine zbw ?hg (N := 1) ?hd (cs := #[.slice A rows.length cap]) (t := 55) ?hr ?_; (case hd => rfl); (case hg => rfl); (case hr => first | (go_simp; done) | (go_simp; rfl)); intro gc hgc w1 hbox hb; have HGC := zaa.mk hgc; have HBX := zaa.mk hbox; have HB := zaa.mk hb; have hc1 : w1.cell? ⟨gc, 0, none⟩ = some (.slice A rows.length cap) := (zat hbox 0).trans rfl; clear hgc hbox; clear hb))
    go_ret2
    exact ⟨HB.out, rfl⟩
  · have d1 : decide ((rows.length : Int) < 1) = false := decide_eq_false (by omega)
    have d2 : decide ((6 : Int) < (rows.length : Int)) = true := decide_eq_true (by omega)
    go_enter Try.func108, Try.ntmps108
    go_wp2_with (first | ((with_reducible refine zbb (N := 1) rfl ?_); refine zbw ?hg (N := 1) ?hd (cs := #[.slice A rows.length cap]) (t := 55) ?hr ?_; (case hd => rfl); (case hg => rfl); (case hr => first | (go_simp; done) | (go_simp; rfl)); intro gc hgc w1 hbox hb; have HGC := zaa.mk hgc; have HBX := zaa.mk hbox; have HB := zaa.mk hb; have hc1 : w1.cell? ⟨gc, 0, none⟩ = some (.slice A rows.length cap) := (zat hbox 0).trans rfl; clear hgc hbox; clear hb))
    go_ret2
    exact ⟨HB.out, rfl⟩
  all_goals
    obtain ⟨row, hrow⟩ : ∃ row, rows[0]? = some row := ⟨_, List.getElem?_eq_getElem (by omega)⟩
    obtain ⟨ad, Ai, ci, e1, hx, hl, hrr⟩ := C_row HR.out 0 row hrow
    have hwide : zaj rows = row.length := by unfold zaj; rw [ycb, hrow]; rfl
    rw [hwide] at h
    subst e1
    rw [Addr.add_zero'] at hx
    have hrl := (C_len hrr).2
    have b2 : (row.length : Int) ≤ 9223372036854775807 := by omega
    clear hrow hwide hrr hl
    have d1 : decide ((rows.length : Int) < 1) = false := decide_eq_false (by omega)
    have hpos : (0 : Int) < (rows.length : Int) := by omega
    by_cases h6 : 6 < rows.length
    · have d2 : decide ((6 : Int) < (rows.length : Int)) = true := decide_eq_true (by omega)
      clear h6 h
      go_enter Try.func108, Try.ntmps108
      go_wp2_with (first | ((with_reducible refine zbb (N := 1) rfl ?_); refine zbw ?hg (N := 1) ?hd (cs := #[.slice (some ad) rows.length cap]) (t := 55) ?hr ?_; (case hd => rfl); (case hg => rfl); (case hr => first | (go_simp; done) | (go_simp; rfl)); intro gc hgc w1 hbox hb; have HGC := zaa.mk hgc; have HBX := zaa.mk hbox; have HB := zaa.mk hb; have hc1 : w1.cell? ⟨gc, 0, none⟩ = some (.slice (some ad) rows.length cap) := (zat hbox 0).trans rfl; clear hgc hbox; clear hb))
      go_ret2
      exact ⟨HB.out, rfl⟩
    · have d2 : decide ((6 : Int) < (rows.length : Int)) = false := decide_eq_false (by omega)
      first
        | (have d3 : decide ((row.length : Int) < 1) = true := decide_eq_true (by omega)
           clear h6 h
           go_enter Try.func108, Try.ntmps108
           go_wp2_with (first | ((with_reducible refine zbb (N := 1) rfl ?_); refine zbw ?hg (N := 1) ?hd (cs := #[.slice (some ad) rows.length cap]) (t := 55) ?hr ?_; (case hd => rfl); (case hg => rfl); (case hr => first | (go_simp; done) | (go_simp; rfl)); intro gc hgc w1 hbox hb; have HGC := zaa.mk hgc; have HBX := zaa.mk hbox; have HB := zaa.mk hb; have hc1 : w1.cell? ⟨gc, 0, none⟩ = some (.slice (some ad) rows.length cap) := (zat hbox 0).trans rfl; clear hgc hbox; replace hx := zar hb hx; clear hb))
           go_ret2
           exact ⟨HB.out, rfl⟩)
        | (have d3 : decide ((row.length : Int) < 1) = false := decide_eq_false (by omega)
           have d4 : decide ((6 : Int) < (row.length : Int)) = true := decide_eq_true (by omega)
           clear h6 h
           go_enter Try.func108, Try.ntmps108
           go_wp2_with (first | ((with_reducible refine zbb (N := 1) rfl ?_); refine zbw ?hg (N := 1) ?hd (cs := #[.slice (some ad) rows.length cap]) (t := 55) ?hr ?_; (case hd => rfl); (case hg => rfl); (case hr => first | (go_simp; done) | (go_simp; rfl)); intro gc hgc w1 hbox hb; have HGC := zaa.mk hgc; have HBX := zaa.mk hbox; have HB := zaa.mk hb; have hc1 : w1.cell? ⟨gc, 0, none⟩ = some (.slice (some ad) rows.length cap) := (zat hbox 0).trans rfl; clear hgc hbox; replace hx := zar hb hx; clear hb))
           go_ret2
           exact ⟨HB.out, rfl⟩)
set_option maxHeartbeats 4000000 in
set_option maxRecDepth 100000 in
theorem settled_good (A : Option Addr) (cap : Nat) (rows : List (List Int)) (w : World) (hr : (Kd.slice 3 (Kd.int .i64)).C w A rows.length rows) (hv : ∀ r ∈ rows, ∀ x ∈ r, 0 ≤ x ∧ x ≤ 1048576) (h1 : 1 ≤ rows.length) (h6 : rows.length ≤ 6) (wd1 : 1 ≤ zaj rows) (wd6 : zaj rows ≤ 6) :
    Calls Try.prog 108 #[.slice A rows.length cap] w (FloorRes w (zby rows)) := by
  have HR := zaa.mk hr
  have HV := zaa.mk hv
  clear hr hv
  obtain ⟨row, hrow⟩ : ∃ row, rows[0]? = some row := ⟨_, List.getElem?_eq_getElem (by omega)⟩
  obtain ⟨ad, Ai, ci, e1, hx, hl, hrr⟩ := C_row HR.out 0 row hrow
  have hwide : zaj rows = row.length := by unfold zaj; rw [ycb, hrow]; rfl
  rw [hwide] at wd1 wd6
  subst e1
  rw [Addr.add_zero'] at hx
  have HW := zaa.mk hwide
  clear hrow hwide hrr hl
  generalize hres : zby rows = res
  have HRes := zaa.mk hres
  clear hres
  have d1 : decide ((rows.length : Int) < 1) = false := decide_eq_false (by omega)
  have d2 : decide ((6 : Int) < (rows.length : Int)) = false := decide_eq_false (by omega)
  have d3 : decide ((row.length : Int) < 1) = false := decide_eq_false (by omega)
  have d4 : decide ((6 : Int) < (row.length : Int)) = false := decide_eq_false (by omega)
  have hpos : (0 : Int) < (rows.length : Int) := by omega
  go_enter Try.func108, Try.ntmps108
  go_upto_region 4 with (first | ((with_reducible refine zbb (N := 1) rfl ?_); refine zbw ?hg (N := 1) ?hd (cs := #[.slice (some ad) rows.length cap]) (t := 55) ?hr ?_; (case hd => rfl); (case hg => rfl); (case hr => first | (go_simp; done) | (go_simp; rfl)); intro gc hgc w1 hbox hb; have HGC := zaa.mk hgc; have HBX := zaa.mk hbox; have HB := zaa.mk hb; have hc1 : w1.cell? ⟨gc, 0, none⟩ = some (.slice (some ad) rows.length cap) := (zat hbox 0).trans rfl; clear hgc hbox; replace hx := zar hb hx; clear hb))
  have hg2 := heap_alloc_new w1 (.cells #[.int .i64 (row.length : Int)] 3)
  have hgc2 : (w1.alloc (.cells #[.int .i64 (row.length : Int)] 3)).heap[gc]? = some (.cells #[.slice (some ad) rows.length cap] 55 (0, 0)) := (Below.heap_alloc w1 _ gc (Array.getElem?_eq_some_iff.1 HBX.out).1).trans HBX.out
  have HB2 := zaa.mk (zac HB.out (.cells #[.int .i64 (row.length : Int)] 3))
  have HGE := zaa.mk (show w.heap.size ≤ w1.heap.size from HB.out.size)
  have HGCE := zaa.mk (show w.heap.size ≤ gc by rw [HGC.out]; exact ycd _)
  clear hc1 HBX HB hx
  generalize w1.heap.size = gw at *
  generalize w1.alloc (.cells #[.int .i64 (row.length : Int)] 3) = w2 at *
  have hc2 : w2.cell? ⟨gc, 0, none⟩ = some (.slice (some ad) rows.length cap) := (zat hgc2 0).trans rfl
  have HR2 := zaa.mk (Kd.C_below HR.out HB2.out)
  have HP := zaa.mk (settled1_pred w2 gw row.length ((zat hg2 0).trans rfl) (by omega))
  have HGW2 := zaa.mk hg2
  have HGC2 := zaa.mk hgc2
  clear hg2 hgc2
  generalize hany : (rows.any fun r => r.length != row.length) = anyb
  have HA := zaa.mk hany
  clear hany
  cases anyb
  · have hmm := @run_makeMap Try.prog
    go_upto_region 8 with (first | (go_at_call 74; refine (contains_calls 116 Try.f116 Try.func116 (by kernel_rfl) rfl #[.pointer (some ⟨gw, 0, none⟩)] (fun r => r.length != row.length) (some ad) cap rows w2 HR2.out HP.out).mono ?_; rintro e w3 ⟨rfl, hb3⟩; rw [HA.out]; have HB3 := zaa.mk hb3; clear hb3))
    clear hmm
    -- the world behind what was made
    have hgf := heap_alloc_new w3 (.cells #[.slice none 0 0, .slice none 0 0] 58)
    have e1 : (w3.alloc (.cells #[.slice none 0 0, .slice none 0 0] 58)).heap.size = w3.heap.size + 1 := by simp
    have hgv := heap_alloc_new (w3.alloc (.cells #[.slice none 0 0, .slice none 0 0] 58)) (.cells #[.pointer (some ⟨w3.heap.size, 0, none⟩)] 52)
    rw [e1] at hgv
    have hbf := zac (Below.refl w3.heap.size w3) (.cells #[.slice none 0 0, .slice none 0 0] 58)
    generalize w3.alloc (.cells #[.slice none 0 0, .slice none 0 0] 58) = wa at *
    have e2 : (wa.alloc (.cells #[.pointer (some ⟨w3.heap.size, 0, none⟩)] 52)).heap.size = w3.heap.size + 1 + 1 := by simp [e1]
    replace hgf := (Below.heap_alloc wa (.cells #[.pointer (some ⟨w3.heap.size, 0, none⟩)] 52) w3.heap.size (by omega)).trans hgf
    replace hbf := zac hbf (.cells #[.pointer (some ⟨w3.heap.size, 0, none⟩)] 52)
    generalize wa.alloc (.cells #[.pointer (some ⟨w3.heap.size, 0, none⟩)] 52) = wb at *
    have hbm := IMap.made wb
    have e3 : (wb.alloc (.map #[] 0)).heap.size = w3.heap.size + 1 + 1 + 1 := by simp [e2]
    replace hgf := (Below.heap_alloc wb (.map #[] 0) w3.heap.size (by omega)).trans hgf
    replace hgv := (Below.heap_alloc wb (.map #[] 0) (w3.heap.size + 1) (by omega)).trans hgv
    replace hbf := zac hbf (.map #[] 0)
    rw [e2] at hbm
    generalize wb.alloc (.map #[] 0) = wc at *
    have hgn := heap_alloc_new wc (.cells #[.map (some (w3.heap.size + 1 + 1))] 118)
    rw [e3] at hgn
    replace hgf := (Below.heap_alloc wc (.cells #[.map (some (w3.heap.size + 1 + 1))] 118) w3.heap.size (by omega)).trans hgf
    replace hgv := (Below.heap_alloc wc (.cells #[.map (some (w3.heap.size + 1 + 1))] 118) (w3.heap.size + 1) (by omega)).trans hgv
    replace hbm := hbm.move (W' := wc.alloc (.cells #[.map (some (w3.heap.size + 1 + 1))] 118)) (Below.heap_alloc wc _ _ (by omega))
    replace hbf := zac hbf (.cells #[.map (some (w3.heap.size + 1 + 1))] 118)
    generalize wc.alloc (.cells #[.map (some (w3.heap.size + 1 + 1))] 118) = wz at *
    clear e1 e2 e3 wa wb wc
    have hs3 : w.heap.size ≤ w3.heap.size := Nat.le_trans HB2.out.size HB3.out.size
    have hgc3 := (hbf.block gc (Nat.lt_of_lt_of_le (Array.getElem?_eq_some_iff.1 HGC2.out).1 HB3.out.size)).trans ((HB3.out.block gc (Array.getElem?_eq_some_iff.1 HGC2.out).1).trans HGC2.out)
    have hgw3 := (hbf.block gw (Nat.lt_of_lt_of_le (Array.getElem?_eq_some_iff.1 HGW2.out).1 HB3.out.size)).trans ((HB3.out.block gw (Array.getElem?_eq_some_iff.1 HGW2.out).1).trans HGW2.out)
    have hgcl : gc < w3.heap.size := Nat.lt_of_lt_of_le (Array.getElem?_eq_some_iff.1 HGC2.out).1 HB3.out.size
    have hgwl : gw < w3.heap.size := Nat.lt_of_lt_of_le (Array.getElem?_eq_some_iff.1 HGW2.out).1 HB3.out.size
    have hgcw : gc ≠ gw := by
      rintro rfl
      have z := HGC2.out
      rw [HGW2.out] at z
      injection z with z
      injection z with _ z
      cases z
    have HBz := zaa.mk (zae (zae HB2.out HB3.out) hbf)
    generalize w3.heap.size = gf at *
    have hgwE := HGE.out
    clear HB2 HB3 hbf HGC2 HGW2 HR2 HP hc2 w2 HGC w1
    have hG : GridIn w (some ad) rows rows.length row.length := ⟨HR.out, rfl, fun r hr => by
      have := HA.out
      rw [List.any_eq_false] at this
      have := this r hr
      simpa using this, by omega, by omega, by have : rows.length * row.length ≤ 6 * 6 := Nat.mul_le_mul h6 wd6; omega, HV.out⟩
    have hI0 : SInv w (gf + 1 + 1 + 1) gc (gf + 1) gf (gf + 1 + 1) (some ad) cap rows row.length (.slice none 0 0) 0 (fun k => k < w.heap.size ∨ k = gf + 1 + 1 + 1 ∨ k = gc ∨ k = gf + 1 ∨ k = gf ∨ k = gf + 1 + 1 ∨ some k = (Value.slice none 0 0).ownBlock) wz :=
      ⟨fun k hk => HBz.out.block k hk, HBz.out.size, hgn, hgc3, hgv, hgf, hbm, Kd.R_nil _ _ _ _ _, ⟨by omega, HGCE.out, by omega, hs3, by omega⟩, fun k => Iff.rfl⟩
    have HG := zaa.mk hG
    have HI0 := zaa.mk hI0
    have HGW := zaa.mk hgw3
    have x1 : wz.drew.cell? ⟨gf + 1, 0, none⟩ = some (.pointer (some ⟨gf, 0, none⟩)) := (zat (w := wz.drew) hgv 0).trans rfl
    have x2 : wz.drew.cell? ⟨gc, 0, none⟩ = some (.slice (some ad) rows.length cap) := (zat (w := wz.drew) hgc3 0).trans rfl
    have x3 : wz.drew.cell? ⟨gw, 0, none⟩ = some (.int .i64 (row.length : Int)) := (zat (w := wz.drew) hgw3 0).trans rfl
    clear hG hI0 hgf hgv hbm hgn hgc3 hgw3
    refine start_ (n := 9) (S := fun w' => w'.cell? ⟨gf + 1, 0, none⟩ = some (.pointer (some ⟨gf, 0, none⟩)) ∧ w'.cell? ⟨gc, 0, none⟩ = some (.slice (some ad) rows.length cap) ∧ w'.cell? ⟨gw, 0, none⟩ = some (.int .i64 (row.length : Int))) (ds := [8]) #[zf, zf, zf, zf, zf, zf, zf, zf, zf] (by kernel_rfl) rfl rfl (⟨x1, x2, x3⟩) (fun hHeld => ?_)
    refine take_ (i := 0) (N := some 42) (v := ?_) (a' := ?_) #[zt, zf, zf, zf, zf, zf, zf, zf, zf] rfl rfl (by kernel_rfl) (fun _ _ _ h => h) (Or.inl ⟨by rfl, ?_⟩) hHeld ?_ ?_
    rotate_left
    · rintro w' ⟨s0, s1, s2⟩
      go_simp
      with_reducible rfl
    rotate_left
    · simp only [Act.put, ybw, ybx, yby, zau, zav]
      rfl
    refine take_ (i := 1) (N := some 43) (v := ?_) (a' := ?_) #[zt, zt, zf, zf, zf, zf, zf, zf, zf] rfl rfl (by kernel_rfl) (fun _ _ _ h => h) (Or.inl ⟨by rfl, ?_⟩) hHeld ?_ ?_
    rotate_left
    · rintro w' ⟨s0, s1, s2⟩
      go_simp
      with_reducible rfl
    rotate_left
    · simp only [Act.put, ybw, ybx, yby, zau, zav]
      rfl
    refine zbd (i := 2) (N := some 44) (v := ?_) (a' := ?_) #[zt, zt, zt, zf, zf, zf, zf, zf, zf] rfl rfl (by kernel_rfl) (fun _ _ _ h => h) (Or.inl ⟨by rfl, ?_⟩) ?_ ?_
    rotate_left
    · intro w'
      go_simp
      with_reducible rfl
    rotate_left
    · simp only [Act.put, ybw, ybx, yby, zau, zav]
      rfl
    refine take_ (i := 3) (N := some 45) (v := ?_) (a' := ?_) #[zt, zt, zt, zt, zf, zf, zf, zf, zf] rfl rfl (by kernel_rfl) (fun _ _ _ h => h) (Or.inl ⟨by rfl, ?_⟩) hHeld ?_ ?_
    rotate_left
    · rintro w' ⟨s0, s1, s2⟩
      go_simp
      with_reducible rfl
    rotate_left
    · simp only [Act.put, ybw, ybx, yby, zau, zav]
      rfl
    refine zbd (i := 4) (N := some 46) (v := ?_) (a' := ?_) #[zt, zt, zt, zt, zt, zf, zf, zf, zf] rfl rfl (by kernel_rfl) (fun _ _ _ h => h) (Or.inl ⟨by rfl, ?_⟩) ?_ ?_
    rotate_left
    · intro w'
      go_simp
      with_reducible rfl
    rotate_left
    · simp only [Act.put, ybw, ybx, yby, zau, zav]
      rfl
    refine one_ (i := 5) (N := some 47) #[zt, zt, zt, zt, zt, zt, zf, zf, zf] rfl rfl (by kernel_rfl) (by decide) (fun K hK => ?_)
    refine goes_ Try.func75 (by kernel_rfl) rfl #[.int .i64 (rows.length : Int), .int .i64 (row.length : Int), .func (.func 117) #[] #[.pointer (some ⟨gf + 1 + 1 + 1, 0, none⟩), .pointer (some ⟨gc, 0, none⟩), .pointer (some ⟨gf + 1, 0, none⟩)]] (by rfl) rfl rfl (by (try simp only [ybz, yca, List.map_nil]); first | done | rfl) ?_
    refine (blank_calls 117 Try.f117 Try.func117 (by kernel_rfl) rfl _ rows.length row.length _ _ (settled2_cell w (gf + 1 + 1 + 1) gc (gf + 1) gf (gf + 1 + 1) (some ad) cap rows rows.length row.length HG.out) (fun k => k < w.heap.size ∨ k = gf + 1 + 1 + 1 ∨ k = gc ∨ k = gf + 1 ∨ k = gf ∨ k = gf + 1 + 1 ∨ some k = (Value.slice none 0 0).ownBlock) wz.drew ⟨_, HI0.out.move (ycd _) (fun _ _ => rfl)⟩ (by omega) (by omega)).mono ?_
    rintro e w5 ⟨g0, bs, F5, rfl, hM, hfar, ⟨v5, hI5⟩, hF5, hO5⟩
    refine ⟨_, rfl, ?_⟩
    have hgwF : ¬ (gw < w.heap.size ∨ gw = gf + 1 + 1 + 1 ∨ gw = gc ∨ gw = gf + 1 ∨ gw = gf ∨ gw = gf + 1 + 1 ∨ some gw = (Value.slice none 0 0).ownBlock) := by
      have : (Value.slice none 0 0).ownBlock = none := rfl
      rw [this]
      simp only [reduceCtorEq, or_false]
      omega
    have hgw5 : w5.heap[gw]? = some (.cells #[.int .i64 (row.length : Int)] 3 (0, 0)) := (hO5.block gw (Array.getElem?_eq_some_iff.1 HGW.out).1 hgwF).trans HGW.out
    refine hK.out _ _ ⟨(zat hI5.flo 0).trans rfl, (zat hI5.cel 0).trans rfl, (zat hgw5 0).trans rfl⟩ (fun hHeld => ?_)
    clear hK K hgwF hgw5
    refine norm_ (a' := ?_) ?_ ?_
    rotate_left
    · show Act.put _ (some 47) _ = _
      simp only [Act.put, ybw, ybx, yby, zau, zav]
      rfl
    refine zbd (i := 6) (N := some 48) (v := ?_) (a' := ?_) #[zt, zt, zt, zt, zt, zt, zt, zf, zf] rfl rfl (by kernel_rfl) (fun _ _ _ h => h) (Or.inl ⟨by rfl, ?_⟩) ?_ ?_
    rotate_left
    · intro w'
      go_simp
      with_reducible rfl
    rotate_left
    · simp only [Act.put, ybw, ybx, yby, zau, zav]
      rfl
    refine zbd (i := 7) (N := some 49) (v := ?_) (a' := ?_) #[zt, zt, zt, zt, zt, zt, zt, zt, zf] rfl rfl (by kernel_rfl) (fun _ _ _ h => h) (Or.inl ⟨by rfl, ?_⟩) ?_ ?_
    rotate_left
    · intro w'
      go_simp
      with_reducible rfl
    rotate_left
    · simp only [Act.put, ybw, ybx, yby, zau, zav]
      rfl
    obtain ⟨A5, c5, ev5⟩ := Kd.R_slice hI5.row
    subst ev5
    have hq1 : w5.cell? ⟨gf, 0, none⟩ = some (.slice none 0 0) := (zat hI5.str 0).trans rfl
    have hq2 : w5.frozen? ⟨gf, 0, none⟩ = false := zaw hI5.str 0
    refine last_ (i := 8) (N := none) #[zt, zt, zt, zt, zt, zt, zt, zt, zt] rfl rfl (by kernel_rfl) (by decide) (fun K hK => ?_)
    refine skip_step (by rfl) rfl (w1 := w5.setCell ⟨gf, 0, none⟩ (.slice (some ⟨g0, 0, none⟩) rows.length rows.length)) (by first | (go_simp; done) | (go_simp; rfl)) ?_
    refine hK.out _ _ ?_
    clear hK K hHeld hq1 hq2
    obtain ⟨B1, B2, B3, B4, B5⟩ := hI5.base
    have hFgf : F5 gf := (hI5.foot gf).2 (by simp)
    have hmat : ∀ k, k ∈ g0 :: bs → k ≠ gf := fun k hk e => (hfar k hk).2 (e ▸ hFgf)
    have hM6 := hM.move (W1 := w5.setCell ⟨gf, 0, none⟩ (.slice (some ⟨g0, 0, none⟩) rows.length rows.length)) (fun k hk => Below.heap_setCell _ _ _ _ (hmat k hk))
    have hR6 := R_setF hI5.row hI5.str (by decide) 0 (.slice (some ⟨g0, 0, none⟩) rows.length rows.length)
    have hstr6 : (w5.setCell ⟨gf, 0, none⟩ (.slice (some ⟨g0, 0, none⟩) rows.length rows.length)).heap[gf]? = some (.cells #[.slice (some ⟨g0, 0, none⟩) rows.length rows.length, .slice A5 (stAt rows row.length (rows.length * row.length)).2.length c5] 58 (0, 0)) := by
      simp only [World.setCell, Array.getElem?_modify, if_true]
      rw [hI5.str]
      simp
    have hflo6 : (w5.setCell ⟨gf, 0, none⟩ (.slice (some ⟨g0, 0, none⟩) rows.length rows.length)).heap[gf + 1]? = some (.cells #[.pointer (some ⟨gf, 0, none⟩)] 52 (0, 0)) := (Below.heap_setCell _ _ _ _ (show gf + 1 ≠ gf by omega)).trans hI5.flo
    have hB6 : Below w.heap.size w (w5.setCell ⟨gf, 0, none⟩ (.slice (some ⟨g0, 0, none⟩) rows.length rows.length)) := by
      refine zan ⟨hO5.os.trans HBz.out.os, hO5.tape.trans HBz.out.tape, hO5.output.trans HBz.out.output, hI5.size, hI5.old⟩ ?_
      omega
    have hlenG := zbk rows.length row.length (numAt rows row.length)
    have hcells : zbc rows.length row.length (numAt rows row.length) = cellsOf rows := by unfold cellsOf; rw [HW.out]
    have hrooms : (stAt rows row.length (rows.length * row.length)).2 = zay rows := by unfold zay; rw [HW.out]
    rw [hcells] at hM6 hlenG
    rw [hrooms] at hR6 hstr6
    have hinv := stAt_inv rows rows.length row.length (rows.length * row.length) (ycd _)
    rw [hrooms] at hinv
    have hbd := hinv.2.2.2
    have hcl : (Kd.slice 3 (Kd.int .i64)).C _ _ _ _ := hM6.reads (by rw [hlenG]; omega) (fun r hr => by
      unfold cellsOf zbc at hr
      simp at hr
      obtain ⟨a, _, rfl⟩ := hr
      simp
      rw [HW.out]
      omega)
    generalize w5.setCell ⟨gf, 0, none⟩ (.slice (some ⟨g0, 0, none⟩) rows.length rows.length) = w6 at *
    have hfl : FloorAt w6 gf (cellsOf rows) (zay rows) := ⟨some ⟨g0, 0, none⟩, rows.length, A5, c5, by rw [hlenG]; exact hstr6, by rw [hlenG]; exact hstr6, hcl, by
      obtain ⟨A', c', e', hl', hC'⟩ := Kd.R_reads hR6
      injection e' with e1 e2 e3
      subst e1
      exact hC'⟩
    have hrl : (zay rows).length ≤ c5 := by
      obtain ⟨A', c', e', hl', hC'⟩ := Kd.R_reads hR6
      injection e' with e1 e2 e3
      subst e3
      exact hl'
    have HFl := zaa.mk hfl
    have HR6 := zaa.mk hR6
    have HB6 := zaa.mk hB6
    have HBd := zaa.mk hbd
    have HStr := zaa.mk hstr6
    have HFlo := zaa.mk hflo6
    have HGF := zaa.mk (show w.heap.size ≤ gf from B4)
    clear hgwE HGE hI5 hO5 hM hM6 hR6 hF5 hfar hmat hFgf B1 B2 B3 B4 B5 hB6 hlenG hcells hrooms hinv hbd hcl hfl hstr6 hflo6 HI0 HGW HBz x1 x2 x3 hs3 hgcl hgwl hgcw HG HGCE
    generalize hRM : zay rows = rms at *
    generalize hCM : cellsOf rows = cms at *
    have HRM := zaa.mk hRM
    have HCM := zaa.mk hCM
    clear hRM hCM
    have y1 : w6.cell? ⟨gf + 1, 0, none⟩ = some (.pointer (some ⟨gf, 0, none⟩)) := (zat HFlo.out 0).trans rfl
    have y2 : w6.cell? ⟨gf, 1, none⟩ = some (.slice A5 rms.length c5) := (zat HStr.out 1).trans rfl
    refine done_ (by kernel_rfl) ?_
    by_cases h9 : 9 < rms.length
    · have hnone : res = none := by
        rw [← HRes.out]
        unfold zby
        split
        · rw [HRM.out, if_neg (by omega)]
        · rfl
      subst hnone
      have d9 : decide ((9 : Int) < (rms.length : Int)) = true := decide_eq_true (by omega)
      go_wp2
      go_ret2
      exact ⟨HB6.out, rfl⟩
    · have d9 : decide ((9 : Int) < (rms.length : Int)) = false := decide_eq_false (by omega)
      go_wp2
      have r1 : (rms.length : Int) ≤ 9 := by omega
      go_loopg [7, 61] rms.length (fun kq v7 v61 w' => ∃ i : Nat, v7 = .int .i64 (zbt (rms.take i)) ∧ v61 = .int .i64 (i : Int) ∧ zaa (i + kq = rms.length) ∧ zaa (Below w6.heap.size w6 w'))
      case atStart => exact ⟨0, by simp [zbt], rfl, ⟨by omega⟩, ⟨Below.refl _ _⟩⟩
      case round =>
        obtain ⟨i, rfl, rfl, HK, HB⟩ := hrel
        have hsb := sum_bound rms HBd.out h6 wd6 i (by have := HK.out; omega)
        by_cases hi : i < rms.length
        · obtain ⟨gr, cp, ev, hgr, hlt, cells, hcells⟩ := Kd.R_form HR6.out (by omega)
          injection ev with ea en ec
          subst ea
          clear en ec hcells hlt hgr
          obtain ⟨z0, z1, z2, z3⟩ := rc_cells HR6.out i hi
          replace z0 := zar HB.out z0
          replace z1 := zar HB.out z1
          replace z2 := zar HB.out z2
          replace z3 := zar HB.out z3
          have hmem : rms.getD i zcf ∈ rms := by rw [ycb, List.getElem?_eq_getElem hi]; exact List.getElem_mem _
          have hab := area_bound (HBd.out _ hmem) h6 wd6
          have HS := zaa.mk (sum_take rms i hi)
          have hlt : (i : Int) < (rms.length : Int) := by omega
          have hi0 : (0 : Int) ≤ i := by omega
          clear hmem
          generalize rms.getD i zcf = a at *
          have harea : impl_rect_area.f a.f0 a.f1 a.f2 a.f3 = some (areaR a) := by
            unfold impl_rect_area.f areaR
            have : wrap64 (a.f2 * a.f3) = a.f2 * a.f3 := by
              have h3 := hab
              unfold areaR at h3
              unfold wrap64
              omega
            rw [this]
          have HAr := zaa.mk harea
          clear harea
          generalize har : areaR a = ar at *
          have HARR := zaa.mk har
          clear har
          generalize hsm : zbt (rms.take i) = sm at *
          clear hsm
          go_wp2_with (first | (go_at_call 119; refine (impl_rect_area.calls a.f0 a.f1 a.f2 a.f3 ar _ HAr.out).mono ?_; rintro e w8 ⟨rfl, hb8⟩; have HB8 := zaa.mk (zae (zac HB.out _) hb8); clear hb8))
          go_roundg (rms.length - (i + 1))
          case measure => have := HK.out; omega
          case rel => exact ⟨i + 1, by rw [HS.out], by first | rfl | (congr 1; omega), ⟨by have := HK.out; omega⟩, HB8⟩
        · have hge : ¬ (i : Int) < (rms.length : Int) := by omega
          obtain rfl : i = rms.length := by have := HK.out; omega
          have HB8 := zaa.mk (zae HB6.out HB.out)
          have hh : impl_floor_high.f cms rms = some (rows.length : Int) := by
            unfold impl_floor_high.f
            rw [← HCM.out, cellsOf_length]
          have hw : impl_floor_wide.f cms rms = some (row.length : Int) := by
            unfold impl_floor_wide.f
            rw [← HCM.out, cellsOf_length, cellsOf_wide rows h1, HW.out, if_pos (by omega)]
          have HH := zaa.mk hh
          have HWd := zaa.mk hw
          have HX := zaa.mk (zar HB.out y1)
          have HFl8 := zaa.mk (HFl.out.below HB.out)
          rw [List.take_length]
          have hsum0 := sum_bound rms HBd.out h6 wd6 rms.length (ycd _)
          rw [List.take_length] at hsum0
          have hmul : 0 ≤ (rows.length : Int) * (row.length : Int) ∧ (rows.length : Int) * (row.length : Int) ≤ 36 := by
            refine ⟨Int.mul_nonneg (by omega) (by omega), ?_⟩
            have := Int.mul_le_mul (show (rows.length : Int) ≤ 6 by omega) (show (row.length : Int) ≤ 6 by omega) (by omega) (by omega)
            omega
          have hwr : wrap64 ((rows.length : Int) * (row.length : Int)) = (rows.length : Int) * (row.length : Int) := by
            obtain ⟨q1, q2⟩ := hmul
            generalize (rows.length : Int) * (row.length : Int) = z at *
            unfold wrap64
            omega
          have hres : res = some (cms, rms, decide (zbt rms = (rows.length : Int) * (row.length : Int))) := by
            rw [← HRes.out]
            unfold zby
            rw [HRM.out, HCM.out, HW.out, if_pos, if_pos (by omega)]
            unfold zbo
            rw [HW.out, HA.out]
            simp [h1, h6, wd1, wd6]
          subst hres
          go_wp2
          refine start_ (n := 10) (S := fun w' => w'.cell? ⟨gf + 1, 0, none⟩ = some (.pointer (some ⟨gf, 0, none⟩)) ∧ FloorAt w' gf cms rms ∧ Below w.heap.size w w') (ds := []) #[zf, zf, zf, zf, zf, zf, zf, zf, zf, zf] (by kernel_rfl) rfl rfl (⟨HX.out, HFl8.out, ⟨HB8.out.os, HB8.out.tape, HB8.out.output, HB8.out.size, HB8.out.block⟩⟩) (fun hHeld => ?_)
          refine take_ (i := 0) (N := some 70) (v := ?_) (a' := ?_) #[zt, zf, zf, zf, zf, zf, zf, zf, zf, zf] rfl rfl (by kernel_rfl) (fun _ _ _ h => h) (Or.inl ⟨by rfl, ?_⟩) hHeld ?_ ?_
          rotate_left
          · rintro w' ⟨s0, s1, s2⟩
            go_simp
            with_reducible rfl
          rotate_left
          · simp only [Act.put, ybw, ybx, yby, zau, zav]
            rfl
          refine zbd (i := 1) (N := some 71) (v := ?_) (a' := ?_) #[zt, zt, zf, zf, zf, zf, zf, zf, zf, zf] rfl rfl (by kernel_rfl) (fun _ _ _ h => h) (Or.inl ⟨by rfl, ?_⟩) ?_ ?_
          rotate_left
          · intro w'
            go_simp
            with_reducible rfl
          rotate_left
          · simp only [Act.put, ybw, ybx, yby, zau, zav]
            rfl
          refine take_ (i := 2) (N := some 72) (v := ?_) (a' := ?_) #[zt, zt, zt, zf, zf, zf, zf, zf, zf, zf] rfl rfl (by kernel_rfl) (fun _ _ _ h => h) (Or.inl ⟨by rfl, ?_⟩) hHeld ?_ ?_
          rotate_left
          · rintro w' ⟨s0, s1, s2⟩
            go_simp
            with_reducible rfl
          rotate_left
          · simp only [Act.put, ybw, ybx, yby, zau, zav]
            rfl
          refine take_ (i := 4) (N := some 74) (v := ?_) (a' := ?_) #[zt, zt, zt, zf, zt, zf, zf, zf, zf, zf] rfl rfl (by kernel_rfl) (fun _ _ _ h => h) (Or.inl ⟨by rfl, ?_⟩) hHeld ?_ ?_
          rotate_left
          · rintro w' ⟨s0, s1, s2⟩
            go_simp
            with_reducible rfl
          rotate_left
          · simp only [Act.put, ybw, ybx, yby, zau, zav]
            rfl
          refine one_ (i := 3) (N := some 73) #[zt, zt, zt, zt, zt, zf, zf, zf, zf, zf] rfl rfl (by kernel_rfl) (by decide) (fun K hK => ?_)
          refine goes_ Try.func52 (by kernel_rfl) rfl #[.pointer (some ⟨gf, 0, none⟩)] (by rfl) rfl rfl (by (try simp only [ybz, yca, List.map_nil]); first | done | rfl) ?_
          refine (impl_floor_high.calls gf cms rms _ wr.drew wr.drew HFl8.out (Below.refl _ _) HH.out).mono ?_
          rintro e w8 ⟨rfl, -, hb8, -⟩
          refine ⟨_, rfl, ?_⟩
          have HB9 := zaa.mk (zae (show Below w.heap.size w wr.drew from ⟨HB8.out.os, HB8.out.tape, HB8.out.output, HB8.out.size, HB8.out.block⟩) hb8)
          have HX9 := zaa.mk (zar hb8 (show wr.drew.cell? ⟨gf + 1, 0, none⟩ = _ from HX.out))
          have HFl9 := zaa.mk (FloorAt.below (w := wr.drew) HFl8.out hb8)
          refine hK.out _ _ ⟨HX9.out, HFl9.out, HB9.out⟩ (fun hHeld => ?_)
          clear hK K
          refine norm_ (a' := ?_) ?_ ?_
          rotate_left
          · show Act.put _ (some 73) _ = _
            simp only [Act.put, ybw, ybx, yby, zau, zav]
            rfl
          refine one_ (i := 5) (N := some 75) #[zt, zt, zt, zt, zt, zt, zf, zf, zf, zf] rfl rfl (by kernel_rfl) (by decide) (fun K hK => ?_)
          refine goes_ Try.func51 (by kernel_rfl) rfl #[.pointer (some ⟨gf, 0, none⟩)] (by rfl) rfl rfl (by (try simp only [ybz, yca, List.map_nil]); first | done | rfl) ?_
          refine (impl_floor_wide.calls gf cms rms _ w8 w8 HFl9.out (Below.refl _ _) HWd.out).mono ?_
          rintro e w10 ⟨rfl, -, hb10, -⟩
          refine ⟨_, rfl, ?_⟩
          have HB11 := zaa.mk (zae HB9.out hb10)
          have HX11 := zaa.mk (zar hb10 HX9.out)
          have HFl11 := zaa.mk (HFl9.out.below hb10)
          refine hK.out _ _ ⟨HX11.out, HFl11.out, HB11.out⟩ (fun hHeld => ?_)
          clear hK K
          refine norm_ (a' := ?_) ?_ ?_
          rotate_left
          · show Act.put _ (some 75) _ = _
            simp only [Act.put, ybw, ybx, yby, zau, zav]
            rfl
          refine zbd (i := 6) (N := some 76) (v := ?_) (a' := ?_) #[zt, zt, zt, zt, zt, zt, zt, zf, zf, zf] rfl rfl (by kernel_rfl) (fun _ _ _ h => h) (Or.inl ⟨by rfl, ?_⟩) ?_ ?_
          rotate_left
          · intro w'
            go_simp
            with_reducible rfl
          rotate_left
          · simp only [Act.put, ybw, ybx, yby, zau, zav]
            rfl
          refine zbd (i := 7) (N := some 77) (v := ?_) (a' := ?_) #[zt, zt, zt, zt, zt, zt, zt, zt, zf, zf] rfl rfl (by kernel_rfl) (fun _ _ _ h => h) (Or.inl ⟨by rfl, ?_⟩) ?_ ?_
          rotate_left
          · intro w'
            go_simp
            with_reducible rfl
          rotate_left
          · simp only [Act.put, ybw, ybx, yby, zau, zav]
            rfl
          refine zbd (i := 8) (N := some 2) (v := ?_) (a' := ?_) #[zt, zt, zt, zt, zt, zt, zt, zt, zt, zf] rfl rfl (by kernel_rfl) (fun _ _ _ h => h) (Or.inl ⟨by rfl, ?_⟩) ?_ ?_
          rotate_left
          · intro w'
            go_simp
            with_reducible rfl
          rotate_left
          · simp only [Act.put, ybw, ybx, yby, zau, zav]
            rfl
          refine zbd (i := 9) (N := some 3) (v := ?_) (a' := ?_) #[zt, zt, zt, zt, zt, zt, zt, zt, zt, zt] rfl rfl (by kernel_rfl) (fun _ _ _ h => h) (Or.inl ⟨by rfl, ?_⟩) ?_ ?_
          rotate_left
          · intro w'
            go_simp
            with_reducible rfl
          rotate_left
          · simp only [Act.put, ybw, ybx, yby, zau, zav]
            rfl
          refine done_ (by kernel_rfl) ?_
          go_wp2
          go_ret2
          refine ⟨HB11.out, gf, ?_, HFl11.out⟩
          refine congrArg (fun z => Ending.returned (Value.tuple #[Value.pointer (some ⟨gf, 0, none⟩), z])) ?_
          show Value.bool _ = Value.bool _
          refine congrArg Value.bool ?_
          rw [← hwr]
          first | rfl | (unfold wrap64; rfl)
  · have hnone : res = none := by
      rw [← HRes.out]
      unfold zby
      rw [if_neg]
      unfold zbo
      rw [HW.out, HA.out]
      simp
    subst hnone
    go_wp2_with (first | (go_at_call 74; refine (contains_calls 116 Try.f116 Try.func116 (by kernel_rfl) rfl #[.pointer (some ⟨gw, 0, none⟩)] (fun r => r.length != row.length) (some ad) cap rows w2 HR2.out HP.out).mono ?_; rintro e w3 ⟨rfl, hb3⟩; rw [HA.out]; have HB3 := zaa.mk hb3; clear hb3))
    go_ret2
    exact ⟨zae HB2.out HB3.out, rfl⟩
theorem settled_calls (A : Option Addr) (cap : Nat) (rows : List (List Int)) (w : World) (hr : (Kd.slice 3 (Kd.int .i64)).C w A rows.length rows) (hv : ∀ r ∈ rows, ∀ x ∈ r, 0 ≤ x ∧ x ≤ 1048576) :
    Calls Try.prog 108 #[.slice A rows.length cap] w (FloorRes w (zby rows)) := by
  by_cases hbad : rows.length < 1 ∨ 6 < rows.length ∨ (1 ≤ rows.length ∧ zaj rows < 1) ∨ (1 ≤ rows.length ∧ 6 < zaj rows)
  · have hn : zby rows = none := by
      unfold zby
      rw [if_neg]
      unfold zbo
      simp only [Bool.and_eq_true, decide_eq_true_eq]
      omega
    rw [hn]
    exact settled_bad A cap rows w hr hbad
  · exact settled_good A cap rows w hr hv (by omega) (by omega) (by omega) (by omega)
end Go.Proofs.Ytickdcegnlldjaa.Hd
namespace Go.Proofs.Ytickdcegnlldjaa.Hd
open Go.RowKit Go.Shelf Go.PW.PrintWords Go.Proofs.Ytickdcegnlldjaa.PB
def renB : Go.Shelf.Ren := ⟨fun | 167 => 109 | 240 => 120 | 276 => 124 | 169 => 110 | n => n, fun | 0 => 0 | 3 => 3 | 4 => 4 | 5 => 5 | 9 => 9 | 20 => 20 | 37 => 32 | 70 => 107 | 72 => 109 | 75 => 111 | 80 => 113 | 127 => 122 | 164 => 125 | n => n, fun n => n⟩
theorem lays167 : Lays.n167 Try.prog renB := { mixed := by kernel_rfl, f167 := Try.func109.trans (congrArg some (by kernel_rfl)), f240 := Try.func120.trans (congrArg some (by kernel_rfl)), f276 := Try.func124.trans (congrArg some (by kernel_rfl)), t0 := Try.underlying0, a0 := Try.isAgg0, z0 := Try.sizeOf0, v0 := Try.zeroValue0, t4 := Try.underlying4, a4 := Try.isAgg4, z4 := Try.sizeOf4, v4 := Try.zeroValue4, t5 := Try.underlying5, a5 := Try.isAgg5, z5 := Try.sizeOf5, v5 := Try.zeroValue5, t9 := Try.underlying9, a9 := Try.isAgg9, z9 := Try.sizeOf9, v9 := Try.zeroValue9, t20 := Try.underlying20, a20 := Try.isAgg20, z20 := Try.sizeOf20, v20 := Try.zeroValue20, t37 := Try.underlying32, a37 := Try.isAgg32, z37 := Try.sizeOf32, v37 := Try.zeroValue32, t70 := Try.underlying107, a70 := Try.isAgg107, z70 := Try.sizeOf107, v70 := Try.zeroValue107, t72 := Try.underlying109, a72 := Try.isAgg109, z72 := Try.sizeOf109, v72 := Try.zeroValue109, t75 := Try.underlying111, a75 := Try.isAgg111, z75 := Try.sizeOf111, v75 := Try.zeroValue111, t164 := Try.underlying125, a164 := Try.isAgg125, z164 := Try.sizeOf125, v164 := Try.zeroValue125 }
theorem lays169 : Lays.n169 Try.prog renB := { mixed := by kernel_rfl, f169 := Try.func110.trans (congrArg some (by kernel_rfl)), t0 := Try.underlying0, a0 := Try.isAgg0, z0 := Try.sizeOf0, v0 := Try.zeroValue0, t3 := Try.underlying3, a3 := Try.isAgg3, z3 := Try.sizeOf3, v3 := Try.zeroValue3, t9 := Try.underlying9, a9 := Try.isAgg9, z9 := Try.sizeOf9, v9 := Try.zeroValue9, t37 := Try.underlying32, a37 := Try.isAgg32, z37 := Try.sizeOf32, v37 := Try.zeroValue32, t70 := Try.underlying107, a70 := Try.isAgg107, z70 := Try.sizeOf107, v70 := Try.zeroValue107, t72 := Try.underlying109, a72 := Try.isAgg109, z72 := Try.sizeOf109, v72 := Try.zeroValue109, t127 := Try.underlying122, a127 := Try.isAgg122, z127 := Try.sizeOf122, v127 := Try.zeroValue122 }
theorem extraB : Builder.Extra Try.prog renB := { sizeBuilder := by kernel_rfl, liesBuilder := by kernel_rfl, t5 := Try.underlying5, a5 := Try.isAgg5, z5 := Try.sizeOf5, v5 := Try.zeroValue5, infoByte := by kernel_rfl, cellsByte := by kernel_rfl, sizeByte := by kernel_rfl, neB5 := by decide }
def Bd (b : Nat) (l : List UInt8) (w : World) : Prop := Lib.IsBuilder 109 5 b b (Lib.byteCells l) w
theorem writeByte_calls (b : Nat) (l : List UInt8) (c : UInt8) (w : World) (h : Bd b l w) (hlen : l.length + 1 ≤ 140737488355328) (hBw : b ≤ w.heap.size) :
  Calls Try.prog 109 #[.pointer (some ⟨b, 0, none⟩), .int .u8 c.toNat] w fun e w' => e = .returned .nilIface ∧ Bd b (l ++ [c]) w' ∧ Below b w w' := by
 refine (Any.Builder_WriteByte lays167 extraB b b (Lib.byteCells l) c.toNat w h (by simpa [Lib.byteCells] using hlen) hBw).mono ?_
 rintro e w' ⟨rfl, h1, h2⟩
 refine ⟨rfl, Or.inr ?_, h2⟩
 show Lib.BuilderAt (renB.t 72) (renB.t 5) b b (.pointer (some ⟨b, 0, none⟩)) (Lib.byteCells (l ++ [c])) w'
 simpa [Lib.byteCells] using h1
theorem bString_calls (b : Nat) (l : List UInt8) (w : World) (h : Bd b l w) (hBw : b ≤ w.heap.size) :
  Calls Try.prog 110 #[.pointer (some ⟨b, 0, none⟩)] w fun e w' => e = .returned (.string ⟨l.toArray⟩) ∧ Below b w w' :=
 Any.Builder_String_any lays169 extraB b b l w h hBw
end Go.Proofs.Ytickdcegnlldjaa.Hd
namespace Go.Proofs.Ytickdcegnlldjaa.Hd
open Go.RowKit Go.PW.PrintWords Go.PW.PrintLast Go.PW.PrintMore Go.Proofs.Ytickdcegnlldjaa.PB
def letterOf (k : Int) : UInt8 := UInt8.ofNat (97 + k).toNat
def rowBytes (row : List Int) : List UInt8 := row.map letterOf
def rowText (row : List Int) : ByteArray := ⟨(rowBytes row).toArray⟩
def zbq (cs : List (List Int)) : List ByteArray := cs.map rowText
def textPart (cs : List (List Int)) (i : Nat) : List ByteArray := (zbq cs).take i ++ List.replicate (cs.length - i) (⟨#[]⟩ : ByteArray)
theorem textPart_length (cs : List (List Int)) (i : Nat) (h : i ≤ cs.length) : (textPart cs i).length = cs.length := by
 simp [textPart, zbq]; omega
theorem textPart_all (cs : List (List Int)) : textPart cs cs.length = zbq cs := by
 simp [textPart, zbq, List.take_of_length_le]
theorem textPart_set (cs : List (List Int)) (i : Nat) (row : List Int) (h : cs[i]? = some row) : (textPart cs i).set i (rowText row) = textPart cs (i + 1) := by
 have hlt := (List.getElem?_eq_some_iff.1 h).1
 unfold textPart
 rw [List.set_append_right _ _ (by simp [zbq]; omega)]
 rw [show i - ((zbq cs).take i).length = 0 by simp [zbq]; omega]
 obtain ⟨m, hm⟩ : ∃ m, cs.length - i = m + 1 := ⟨cs.length - i - 1, by omega⟩
 rw [hm, List.replicate_succ, ybx, List.take_add_one, show cs.length - (i + 1) = m by omega]
 simp [zbq, h]
theorem letterOf_val (k : Int) (h0 : 0 ≤ k) (h1 : k ≤ 25) : ((letterOf k).toNat : Int) = 97 + k := by
 unfold letterOf
 rw [UInt8.toNat_ofNat']
 omega
theorem rowBytes_snoc (row : List Int) (i : Nat) (h : i < row.length) : rowBytes (row.take (i + 1)) = rowBytes (row.take i) ++ [letterOf (rd row i)] := by
 unfold rowBytes
 rw [List.take_add_one, List.map_append, List.getElem?_eq_getElem h]
 simp [rd, ycb, List.getElem?_eq_getElem h]
theorem C_int_cell {k : IntKind} {w : World} {A : Option Addr} {n : Nat} {l : List Int} (h : (Kd.int k).C w A n l) (i : Nat) (hi : i < n) : ∃ ad, A = some ad ∧ w.cell? (ad.add i) = some (.int k (rd l (i : Int))) := by
 obtain ⟨ad, c, e1, hc, hK, hx⟩ := Kd.C_get h (0 : Int) (i : Int) (by omega) (by omega)
 subst e1
 exact ⟨ad, rfl, by have := Kd.foot_int h (i : Int) (by omega) (by omega); simpa using this⟩
theorem Bd.new {w : World} {b : Nat} (h : w.heap[b]? = some (.cells #[.pointer none, .slice none 0 0] 109 (0, 0))) : Bd b [] w :=
 .inl ⟨ycd _, .slice none 0 0, h, ⟨rfl, .inl ⟨rfl, rfl⟩⟩, by simp [Value.ownBlock]⟩
theorem Bd.lt {w : World} {b : Nat} {l : List UInt8} (h : Bd b l w) : b < w.heap.size := by
 rcases h with h | h
 ·exact Lib.BuilderAt.lt h
 ·exact Lib.BuilderAt.lt h
set_option maxHeartbeats 4000000 in
set_option maxRecDepth 100000 in
theorem text_calls (g : Nat) (cs : List (List Int)) (rs : List Rc) (w : World) (hI : FloorAt w g cs rs) (hl : cs.length ≤ 1048576) (hv : ∀ r ∈ cs, r.length ≤ 1048576 ∧ ∀ x ∈ r, 0 ≤ x ∧ x ≤ 25) :
  Calls Try.prog 92 #[.pointer (some ⟨g, 0, none⟩)] w fun e w' => ∃ v0_ : Value, e = .returned (v0_) ∧ Kd.R Kd.string 9 w' w.heap.size (fun _ => True) v0_ (zbq cs) ∧ Below w.heap.size w w' := by
 have HI := zaa.mk hI
 have HV := zaa.mk hv
 clear hv
 obtain ⟨A0, c0, A1, c1, HG, _, HS, _⟩ := hI
 have hcl := C_len HS
 have hcz := Try.underlying22
 have hc0 : w.cell? ⟨g, 0, none⟩ = some (.slice A0 cs.length c0) := (zat HG 0).trans rfl
 have HSS := zaa.mk HS
 have HGG := zaa.mk HG
 have HH := zaa.mk (show impl_floor_high.f cs rs = some (cs.length : Int) from rfl)
 clear HG HS hcl hcz
 have b1 : (cs.length : Int) ≤ 1048576 := by omega
 have b0 : (0 : Int) ≤ cs.length := by omega
 have i9 : (Try.prog.info? 9).map (fun i => (i.zero, i.size, i.bytes)) = some (some (.string ⟨#[]⟩), 1, 16) := by kernel_rfl
 have I9 := zaa.mk i9
 clear i9
 go_enter Try.func92, Try.ntmps92
 go_wp2_with (first
  | (go_at_call 52; refine (impl_floor_high.calls g cs rs _ _ _ HI.out (Below.refl _ _) HH.out).mono ?_; rintro e w1 ⟨rfl, -, hb1, -⟩; have HB1 := zaa.mk hb1; replace hc0 := zar hb1 hc0; clear hb1)
  | ((with_reducible refine zbb (N := 11) rfl ?_); refine Kd.R_make Kd.string _ 9 rfl (N := 11) rfl 22 _ _ rfl (cs.length : Int) rfl rfl Try.underlying22 (.string ⟨#[]⟩) 16 I9.out rfl (by decide) (by omega) (⟨#[]⟩ : ByteArray) (ok := fun _ => True) (okp := fun _ => True) rfl (fun _ hk => hk) trivial b0 (by omega) (Below.refl _ _) (ycd _) ?_; intro v2 w2 ho hb hg_ hnew_; clear hg_ hnew_; have HO2 := zaa.mk (Kd.R_lower ho HB1.out.size); have HB2 := zaa.mk (zae HB1.out hb); replace hc0 := zar hb hc0; clear hb ho))
 have hrep : List.replicate ((cs.length : Int)).toNat (⟨#[]⟩ : ByteArray) = textPart cs 0 := by simp [textPart]
 rw [hrep] at HO2
 clear hrep hc0
 go_loopg [17] cs.length (fun kq v17 w' => ∃ i : Nat, v17 = .int .i64 (i : Int) ∧ zaa (i + kq = cs.length) ∧ zaa (Kd.R Kd.string 9 w' w.heap.size (fun _ => True) v2 (textPart cs i)) ∧ zaa (Below w.heap.size w w'))
 case atStart => exact ⟨0, rfl, ⟨by omega⟩, HO2, HB2⟩
 case round =>
  clear HO2 HB2
  obtain ⟨i, rfl, HK, HO, HB⟩ := hrel
  by_cases hi : i < cs.length
  ·have hlt : (i : Int) < cs.length := by omega
   have hi0 : (0 : Int) ≤ i := by omega
   obtain ⟨row, hrow⟩ : ∃ row, cs[i]? = some row := ⟨_, List.getElem?_eq_getElem hi⟩
   have HRow := zaa.mk hrow
   obtain ⟨ad, Ai, ci, e1, hx, hl, hrr⟩ := C_row HSS.out i row hrow
   have hvr := HV.out row (List.mem_of_getElem? hrow)
   obtain ⟨hrl, hvv⟩ := hvr
   have HVV := zaa.mk hvv
   subst e1
   replace hx := zar HB.out hx
   have HRR := zaa.mk (Kd.C_below hrr HB.out)
   have hrl2 : (row.length : Int) ≤ 1048576 := by omega
   clear hrow hl hrr hvv
   obtain ⟨g3, c3, e3, b3, l3, cl3, hg3⟩ := Kd.R_form HO.out (by rw [textPart_length cs i (by omega)]; omega)
   rw [textPart_length cs i (by omega)] at e3
   subst e3
   have L3 := zaa.mk l3
   have B3 := zaa.mk b3
   clear hg3 l3 b3
   go_wp2_with (first
    | ((with_reducible refine zbb (N := 6) rfl ?_); refine zbw ?hg (N := 6) ?hd (cs := #[.pointer none, .slice none 0 0]) (t := 109) ?hr ?_; (case hd => rfl); (case hg => rfl); (case hr => first | (go_simp; done) | (go_simp; rfl)); intro b hgb w3 hbox hb; have HGB := zaa.mk hgb; have HBd := zaa.mk (Bd.new hbox); have HB3 := zaa.mk hb; clear hgb hbox hb))
   have HO3 := zaa.mk (Kd.R_below HO.out HB3.out)
   have HB3b := zaa.mk (show Below b wr w3 from by rw [HGB.out]; exact HB3.out)
   clear hx
   go_loopg [24] row.length (fun kq v24 w' => ∃ j : Nat, v24 = .int .i64 (j : Int) ∧ zaa (j + kq = row.length) ∧ zaa (Bd b (rowBytes (row.take j)) w') ∧ zaa (Below b w3 w'))
   case atStart => exact ⟨0, rfl, ⟨by omega⟩, ⟨by simpa [rowBytes] using HBd.out⟩, ⟨Below.refl _ _⟩⟩
   case round =>
    clear HBd
    obtain ⟨j, rfl, HK2, HBd, HBb⟩ := hrel
    have HB9 := zaa.mk (HB3b.out.trans HBb.out)
    by_cases hj : j < row.length
    ·have hlt2 : (j : Int) < row.length := by omega
     have hj0 : (0 : Int) ≤ j := by omega
     obtain ⟨ad2, e2, hx2⟩ := C_int_cell HRR.out j hj
     subst e2
     have hmem : rd row (j : Int) ∈ row := by
      unfold rd
      rw [Int.toNat_natCast, ycb, List.getElem?_eq_getElem hj]
      exact List.getElem_mem _
     obtain ⟨hv0, hv1⟩ := HVV.out _ hmem
     replace hx2 := zar (show Below _ _ wr from by have := HB9.out; rw [HGB.out] at this; exact this) hx2
     have HRS := zaa.mk (rowBytes_snoc row j hj)
     have hlet := letterOf_val (rd row (j : Int)) hv0 hv1
     generalize rd row (j : Int) = kk at *
     have HLet := zaa.mk hlet
     clear hlet hmem
     go_wp2_with (first
      | (go_at_call 109; refine calls_of_args (args' := #[.pointer (some ⟨b, 0, none⟩), .int .u8 (letterOf kk).toNat]) (by rw [HLet.out]) ?_; refine (writeByte_calls b (rowBytes (row.take j)) (letterOf kk) _ HBd.out (by simp [rowBytes]; omega) (Nat.le_of_lt HBd.out.lt)).mono ?_; rintro e w8 ⟨rfl, hbd8, hb8⟩; have HBd8 := zaa.mk hbd8; have HB8 := zaa.mk (HBb.out.trans hb8); clear hb8 hbd8))
     go_roundg (row.length - (j + 1))
     case measure => have := HK2.out; omega
     case rel => exact ⟨j + 1, by first | rfl | (congr 1; omega), ⟨by have := HK2.out; omega⟩, ⟨by rw [HRS.out]; exact HBd8.out⟩, HB8⟩
    ·have hge2 : ¬ ((j : Int) < row.length) := by omega
     obtain rfl : j = row.length := by have := HK2.out; omega
     rw [List.take_length] at HBd
     go_wp2_with (first
      | (go_at_call 110; refine (bString_calls b (rowBytes row) _ HBd.out (Nat.le_of_lt HBd.out.lt)).mono ?_; rintro e w8 ⟨rfl, hb8⟩; have HB8 := zaa.mk (HB9.out.trans hb8); rw [HGB.out] at HB8; have HO8 := zaa.mk (Kd.R_below HO.out HB8.out); obtain ⟨hx8, hf8⟩ := Kd.R_celln (⟨#[]⟩ : ByteArray) HO8.out (i : Int) (by omega) (by omega); rw [Int.toNat_natCast] at hx8 hf8; have HP := zaa.mk (Kd.R_putg HO8.out (i : Int) (rowText row)).1; clear hb8))
     go_roundg (cs.length - (i + 1))
     case measure => have := HK.out; omega
     case rel => exact ⟨i + 1, by first | rfl | (congr 1; omega), ⟨by have := HK.out; omega⟩, ⟨by have z := HP.out; rw [Int.toNat_natCast, textPart_set cs i row HRow.out] at z; exact z⟩, ⟨zan (zae HB.out HB8.out) B3.out⟩⟩
  ·have hge : ¬ ((i : Int) < cs.length) := by omega
   obtain rfl : i = cs.length := by have := HK.out; omega
   go_wp2
   go_ret
   exact ⟨_, rfl, by have := HO.out; rw [textPart_all] at this; exact this, HB.out⟩
def okLetter (x : Int) : Bool := !(decide (x < 97) || decide (122 < x))
def okText (s : ByteArray) : Bool := (bytesOf s).all okLetter
def zak (p : List ByteArray) : List (List Int) := p.map bytesOf
def readF (p : List ByteArray) : Option (List (List Int) × List Rc × Bool) := if p.all okText = true then zby (zak p) else none
def smallP (p : List ByteArray) : Prop := p.length ≤ 1048576 ∧ ∀ s ∈ p, s.size ≤ 1048576
theorem bytesOf_get (s : ByteArray) (j : Nat) : (bytesOf s).getD j 0 = bt s (j : Int) := by
 have := rd_bytesOf s (j : Int)
 unfold rd at this
 simpa using this
theorem bytesOf_range (s : ByteArray) : ∀ x ∈ bytesOf s, 0 ≤ x ∧ x ≤ 255 := by
 intro x hx
 unfold bytesOf at hx
 simp at hx
 obtain ⟨a, _, rfl⟩ := hx
 have := UInt8.toNat_lt a
 omega
theorem take_snoc_int (l : List Int) (j : Nat) (hj : j < l.length) : l.take (j + 1) = l.take j ++ [l.getD j 0] := by
 rw [List.take_add_one, List.getElem?_eq_getElem hj]
 simp [ycb, List.getElem?_eq_getElem hj]
set_option maxHeartbeats 4000000 in
set_option maxRecDepth 100000 in
theorem read_calls (A0 : Option Addr) (c0 : Nat) (l0 : List ByteArray) (w : World) (hr0 : Kd.C Kd.string w A0 l0.length l0) (hc0 : l0.length ≤ c0) (hp : smallP l0) :
  Calls Try.prog 90 #[.slice A0 l0.length c0] w (FloorRes w (readF l0)) := by
 have HR := zaa.mk hr0
 have HP := zaa.mk hp
 have hlen := hp.1
 have b1 : (l0.length : Int) ≤ 1048576 := by omega
 have b0 : (0 : Int) ≤ l0.length := by omega
 clear hr0 hc0 hp
 have i53 : (Try.prog.info? 24).map (fun i => (i.zero, i.size, i.bytes)) = some (some (.slice none 0 0), 1, 24) := by kernel_rfl
 have i3 : (Try.prog.info? 3).map (fun i => (i.zero, i.size, i.bytes)) = some (some (.int .i64 0), 1, 8) := by kernel_rfl
 have I53 := zaa.mk i53
 have I3 := zaa.mk i3
 clear i53 i3
 go_enter Try.func90, Try.ntmps90
 go_wp2_with (first
  | ((with_reducible refine zbb (N := 10) rfl ?_); refine Kd.R_lit (Kd.slice 3 (Kd.int .i64)) _ 24 ?hg (N := 10) ?hd (xs := ([] : List (List Int))) (inner := []) (ok := fun _ => True) (okp := fun _ => True) ?hr ?hp (fun _ hk => hk) trivial (Below.refl _ _) (ycd _) (by simp) ?_; (case hd => rfl); (case hg => rfl); (case hr => first | (go_simp; done) | (go_simp; rfl)); (case hp => exact (Reps.none _ _)); intro v4 w1 ho hb hg_ hnew_; clear hg_ hnew_; have HO1 := zaa.mk ho; have HB1 := zaa.mk hb; clear hb ho))
 go_loopg [4, 13] l0.length (fun kq v4 v13 w' => ∃ i : Nat, v13 = .int .i64 (i : Int) ∧ zaa (i + kq = l0.length) ∧ zaa ((l0.take i).all okText = true) ∧ zaa (Kd.R (Kd.slice 3 (Kd.int .i64)) 24 w' w.heap.size (fun _ => True) v4 (zak (l0.take i))) ∧ zaa (Below w.heap.size w w'))
 case atStart => exact ⟨0, rfl, ⟨by omega⟩, ⟨by simp⟩, ⟨by simpa [zak] using HO1.out⟩, HB1⟩
 case round =>
  clear HO1 HB1
  obtain ⟨i, rfl, HK, HAll, HO, HB⟩ := hrel
  by_cases hi : i < l0.length
  ·have hlt : (i : Int) < l0.length := by omega
   have hi0 : (0 : Int) ≤ i := by omega
   obtain ⟨ad, e1, hx⟩ := Kd.at_string HR.out (i : Int) hi0 hlt
   cases e1
   rw [Int.toNat_natCast] at hx
   replace hx := zar HB.out hx
   have hsz := HP.out.2 _ (List.getElem_mem hi)
   have hel : rdOf ycc l0 (i : Int) = l0[i] := by unfold rdOf; rw [Int.toNat_natCast, ycb, List.getElem?_eq_getElem hi]; rfl
   rw [hel] at hx
   have hgt : l0[i]? = some l0[i] := List.getElem?_eq_getElem hi
   generalize l0[i] = s at *
   have HGT := zaa.mk hgt
   clear hel hgt
   have b2 : (s.size : Int) ≤ 1048576 := by omega
   have hbl := zbf s
   go_wp2_with (first
    | ((with_reducible refine zbb (N := 17) rfl ?_); refine Kd.R_lit (Kd.int .i64) _ 3 ?hg (N := 17) ?hd (xs := ([] : List Int)) (inner := []) (ok := fun _ => True) (okp := fun _ => True) ?hr ?hp (fun _ hk => hk) trivial (Below.refl _ _) (ycd _) (by simp) ?_; (case hd => rfl); (case hg => rfl); (case hr => first | (go_simp; done) | (go_simp; rfl)); (case hp => exact (Reps.none _ _)); intro v7 w2 ho hb hg_ hnew_; clear hg_ hnew_; have n0_ := zaa.mk (Kd.R_elder' HO.out (Kd.R_base ho) hb); have n2_ := zaa.mk (Kd.R_lower (Kd.R_new' ho (Kd.R_lt HO.out)) (zag HB.out)); have n3_ := zaa.mk (zae HB.out hb); clear HO HB; have HO := n0_; have HO7 := n2_; have HB := n3_; clear n0_ n2_ n3_; clear hb ho)
    | ((with_reducible refine zbb (N := 19) rfl ?_); refine conv_event (P := Try.prog) rfl (N := 19) rfl (src := 9) (dst := 32) (e := 5) (s := s) rfl rfl Try.underlying9 Try.underlying32 Try.underlying5 ?_; intro g4 c4 w4 hg4 hrow hb; have HRow := zaa.mk hrow; have HN7 := zaa.mk (show some g4 ≠ v7.ownBlock from Kd.fresh' (Kd.R_lt HO7.out) g4 (by rw [hg4]; exact ycd _)); have n1_ := zaa.mk (zae HB.out hb); have n2_ := zaa.mk (Kd.R_below HO.out hb); have n3_ := zaa.mk (Kd.R_below HO7.out hb); clear HB HO HO7; have HB := n1_; have HO := n2_; have HO7 := n3_; clear n1_ n2_ n3_; clear hb hrow hg4))
   go_loopg [7, 21] s.size (fun kq v7 v21 w' => ∃ j : Nat, v21 = .int .i64 (j : Int) ∧ zaa (j + kq = s.size) ∧ zaa (((bytesOf s).take j).all okLetter = true) ∧ zaa (Kd.R (Kd.slice 3 (Kd.int .i64)) 24 w' w.heap.size (fun k_ => some k_ ≠ (v7 : Value).ownBlock) u4 (zak (l0.take i))) ∧ zaa (Kd.R (Kd.int .i64) 3 w' w.heap.size (fun k_ => some k_ ≠ (u4 : Value).ownBlock) v7 ((bytesOf s).take j)) ∧ zaa (some g4 ≠ (v7 : Value).ownBlock) ∧ zaa (w'.heap[g4]? = w4.heap[g4]?) ∧ zaa (g4 < w'.heap.size) ∧ zaa (Below w.heap.size w w'))
   case atStart => exact ⟨0, rfl, ⟨by omega⟩, ⟨by simp⟩, ⟨Kd.R_mono HO.out (fun _ hk => hk.2)⟩, ⟨by simpa using Kd.R_mono HO7.out (fun _ hk => hk.2)⟩, HN7, ⟨rfl⟩, ⟨HRow.out.lt⟩, HB⟩
   case round =>
    clear HO HO7 HN7 HB
    obtain ⟨j, rfl, HK2, HAll2, HO, HO7, HN7, HM, HLt, HB⟩ := hrel
    by_cases hj : j < s.size
    ·have hlt2 : (j : Int) < s.size := by omega
     have hj0 : (0 : Int) ≤ j := by omega
     have hjb : (j : Int) ≤ 1048576 := by omega
     have hx4 := ((HRow.out.move HM.out).cell j (by rw [hbl]; omega)).1
     have hrg := bytesOf_range s ((bytesOf s).getD j 0) (by rw [ycb, List.getElem?_eq_getElem (by omega)]; exact List.getElem_mem _)
     have HT := zaa.mk (take_snoc_int (bytesOf s) j (by omega))
     have hgm : (bytesOf s).getD j 0 ∈ bytesOf s := by rw [ycb, List.getElem?_eq_getElem (by omega)]; exact List.getElem_mem _
     have HGM := zaa.mk hgm
     generalize (bytesOf s).getD j 0 = x at *
     obtain ⟨hx0, hx255⟩ := hrg
     clear hgm
     by_cases hlo : x < 97
     ·have d1 : decide (x < 97) = true := decide_eq_true hlo
      clear hlo
      go_wp2
      go_ret2
      have hbad : readF l0 = none := by
       unfold readF
       rw [if_neg]
       intro hall
       have h1 := List.all_eq_true.1 hall s (List.mem_of_getElem? HGT.out)
       have h2 := List.all_eq_true.1 h1 x HGM.out
       simp [okLetter, d1] at h2
      rw [hbad]
      exact ⟨HB.out, rfl⟩
     ·have d1 : decide (x < 97) = false := decide_eq_false hlo
      by_cases hhi : 122 < x
      ·have d2 : decide (122 < x) = true := decide_eq_true hhi
       clear hlo hhi
       go_wp2
       go_ret2
       have hbad : readF l0 = none := by
        unfold readF
        rw [if_neg]
        intro hall
        have h1 := List.all_eq_true.1 hall s (List.mem_of_getElem? HGT.out)
        have h2 := List.all_eq_true.1 h1 x HGM.out
        simp [okLetter, d2] at h2
       rw [hbad]
       exact ⟨HB.out, rfl⟩
      ·have d2 : decide (122 < x) = false := decide_eq_false hhi
       clear hlo hhi
       have LL : ((bytesOf s).take j).length ≤ 1048576 := by simp; omega
       go_wp2_with (first
        | ((with_reducible refine zax (b := .append) (xs := #[.tmp 31, .tmp 34]) rfl ?_); at_builtin; refine Kd.R_append (Kd.int .i64) (w0 := w) w.heap.size rfl (.tmp 31) (.tmp 34) 24 3 (.int .i64 0) 8 rfl Try.underlying24 I3.out rfl (by decide) (by omega) _ ((bytesOf s).take j) x [.int .i64 x] (fun k_ => some k_ ≠ (u4 : Value).ownBlock) (fun _ => False) rfl rfl ?aP (fun _ hk => hk.elim) ?aF ?aO ?aB ?aS ?aL ?_; (case aP => exact rfl); (case aB => exact HB.out); (case aF => exact (fun k_ hk => Kd.fresh' (Kd.R_lt HO.out) k_ hk)); (case aO => exact HO7.out); (case aS => exact (zag HB.out)); (case aL => omega); intro v7b w6 ho hb hg hat; have n0_ := zaa.mk (Kd.R_after (ok := (fun _ => True)) (Kd.R_mono HO.out (fun _ hk => ⟨trivial, hk⟩)) hg hat); have n1_ := zaa.mk ho; have n2_ := zaa.mk hb; have n3_ := zaa.mk ((hg.block g4 HLt.out HN7.out).trans HM.out); have n4_ := zaa.mk (show g4 < w6.heap.size from (Array.getElem?_eq_some_iff.1 (n3_.out.trans HRow.out.choose_spec.2.1)).1); have n5_ := zaa.mk (show some g4 ≠ v7b.ownBlock from by (rcases hat with he | ⟨b_, he, hle⟩ <;> rw [he]; exact HN7.out; (intro hz; injection hz with hz; have := HLt.out; omega))); clear HO HO7 HB HM HLt HN7; have HO := n0_; have HO7 := n1_; have HB := n2_; have HM := n3_; have HLt := n4_; have HN7 := n5_; clear n0_ n1_ n2_ n3_ n4_ n5_; clear ho hb hg hat))
       have hok : okLetter x = true := by simp [okLetter, d1, d2]
       go_roundg (s.size - (j + 1))
       case measure => have := HK2.out; omega
       case rel => exact ⟨j + 1, by first | rfl | (congr 1; omega), ⟨by have := HK2.out; omega⟩, ⟨by rw [HT.out, List.all_append, HAll2.out]; simp [hok]⟩, ⟨Kd.R_mono HO.out (fun _ hk => hk.2)⟩, ⟨by rw [HT.out]; exact HO7.out⟩, HN7, HM, HLt, HB⟩
    ·have hge2 : ¬ ((j : Int) < s.size) := by omega
     obtain rfl : j = s.size := by have := HK2.out; omega
     rw [List.take_of_length_le (by omega)] at HAll2 HO7
     have LL : (zak (l0.take i)).length ≤ 1048576 := by simp [zak]; omega
     obtain ⟨A7, c7, e7⟩ := Kd.R_slice HO7.out
     rw [hbl] at e7
     subst e7
     go_wp2_with (first
      | ((with_reducible refine zax (b := .append) (xs := #[.tmp 37, .tmp 39]) rfl ?_); at_builtin; refine Kd.R_append (Kd.slice 3 (Kd.int .i64)) (w0 := w) w.heap.size rfl (.tmp 37) (.tmp 39) 55 24 (.slice none 0 0) 24 rfl Try.underlying55 I53.out rfl (by decide) (by omega) u4 (zak (l0.take i)) (bytesOf s) [.slice A7 s.size c7] (fun _ => True) (fun k_ => some k_ = (Value.slice A7 s.size c7).ownBlock) rfl rfl ?aP ?aK (fun _ _ => trivial) ?aO ?aB ?aS ?aL ?_; (case aP => exact ⟨_, rfl, Kd.R_tight rfl HO7.out⟩); (case aK => exact fun k_ hk => ⟨trivial, HO7.out.1 k_ hk.symm⟩); (case aB => exact HB.out); (case aO => exact Kd.R_mono HO.out (fun _ _ => trivial)); (case aS => exact (zag HB.out)); (case aL => omega); intro v4b w6 ho hb hg hat; have n1_ := zaa.mk ho; have n2_ := zaa.mk hb; clear HO HO7 HB HM HLt HN7; have HO := n1_; have HB := n2_; clear n1_ n2_; clear ho hb hg hat))
     have HT := zaa.mk (show l0.take (i + 1) = l0.take i ++ [s] by rw [List.take_add_one, HGT.out]; rfl)
     go_roundg (l0.length - (i + 1))
     case measure => have := HK.out; omega
     case rel => exact ⟨i + 1, by first | rfl | (congr 1; omega), ⟨by have := HK.out; omega⟩, ⟨by rw [HT.out, List.all_append, HAll.out]; simp [okText, HAll2.out]⟩, ⟨by rw [HT.out]; simpa [zak] using HO.out⟩, HB⟩
  ·have hge : ¬ ((i : Int) < l0.length) := by omega
   obtain rfl : i = l0.length := by have := HK.out; omega
   rw [List.take_length] at HAll HO
   have hre : readF l0 = zby (zak l0) := by unfold readF; rw [if_pos HAll.out]
   have HRE := zaa.mk hre
   obtain ⟨A4, c4, e4, hl4, hC4⟩ := Kd.R_reads HO.out
   subst e4
   have HC4 := zaa.mk hC4
   have HV4 := zaa.mk (show ∀ r ∈ zak l0, ∀ x ∈ r, 0 ≤ x ∧ x ≤ 1048576 from fun r hr x hx => by
    unfold zak at hr
    simp at hr
    obtain ⟨s, _, rfl⟩ := hr
    have := bytesOf_range s x hx
    omega)
   clear hC4 hl4 hre
   generalize hS : zby (zak l0) = res
   have HS := zaa.mk hS
   clear hS
   rcases res with _ | ⟨cs, rs, b⟩
   ·go_wp2_with (first
     | (go_at_call 108; refine (settled_calls A4 c4 (zak l0) _ HC4.out HV4.out).mono ?_; rw [HS.out]; rintro e w8 ⟨hb8, rfl⟩; have HB8 := zaa.mk (zae HB.out hb8); clear hb8))
    go_ret2
    rw [HRE.out, HS.out]
    exact ⟨HB8.out, rfl⟩
   ·go_wp2_with (first
     | (go_at_call 108; refine (settled_calls A4 c4 (zak l0) _ HC4.out HV4.out).mono ?_; rw [HS.out]; rintro e w8 ⟨hb8, g, rfl, hfl⟩; have HB8 := zaa.mk (zae HB.out hb8); have HFl := zaa.mk hfl; clear hb8 hfl))
    go_ret2
    rw [HRE.out, HS.out]
    exact ⟨HB8.out, g, rfl, HFl.out⟩
theorem rdOf_get (l : List ByteArray) (i : Nat) (h : i < l.length) : rdOf ycc l (i : Int) = l[i] := by
 unfold rdOf; rw [Int.toNat_natCast, ycb, List.getElem?_eq_getElem h]; rfl
theorem toList_inj {a b : ByteArray} : a.toList = b.toList ↔ a = b := by
 rw [ByteArray.toList_eq, ByteArray.toList_eq]
 constructor
 ·intro h
  have h2 := Array.toList_inj.1 h
  cases a; cases b
  simp at h2
  rw [h2]
 ·rintro rfl; rfl
theorem zas {x : Int} (h0 : -9223372036854775808 ≤ x) (h1 : x ≤ 9223372036854775807) : wrap64 x = x := by unfold wrap64; omega
theorem equalS_loop (l0 l1 : List ByteArray) (hl : l0.length = l1.length) (hb : l0.length ≤ 1048576) : ∀ m i, i + m = l0.length → l0.take i = l1.take i → slices_Equal_string_string.l0 (m + 1) l0 l1 (l0.length : Int) (i : Int) = some (decide (l0 = l1))
 | 0, i, h, ht => by
  unfold slices_Equal_string_string.l0
  rw [if_neg (by omega)]
  have e : l0 = l1 := by
   rw [show i = l0.length by omega, List.take_length, hl, List.take_length] at ht
   exact ht
  simp [e]
 | m + 1, i, h, ht => by
  unfold slices_Equal_string_string.l0
  rw [if_pos (by omega), if_pos (by omega), if_pos (by omega), if_pos (by omega), rdOf_get l0 i (by omega), rdOf_get l1 i (by omega), zas (by omega) (by omega)]
  by_cases he : l0[i] = l1[i]
  ·rw [if_pos (toList_inj.2 he)]
   have := equalS_loop l0 l1 hl hb m (i + 1) (by omega) (by
    rw [List.take_add_one, List.take_add_one, ht, List.getElem?_eq_getElem (by omega), List.getElem?_eq_getElem (by omega), he])
   simpa using this
  ·rw [if_neg (fun h => he (toList_inj.1 h))]
   have : l0 ≠ l1 := by rintro rfl; exact he rfl
   simp [this]
theorem equalS_f (l0 l1 : List ByteArray) (hb : l0.length ≤ 1048576) : ∃ k, slices_Equal_string_string.f k l0 l1 = some (decide (l0 = l1)) := by
 unfold slices_Equal_string_string.f
 by_cases h : l0.length = l1.length
 ·refine ⟨l0.length + 1, ?_⟩
  rw [if_pos (by omega)]
  have := equalS_loop l0 l1 h hb l0.length 0 (by omega) (by simp)
  simpa using this
 ·refine ⟨0, ?_⟩
  rw [if_neg (by omega)]
  have : l0 ≠ l1 := by rintro rfl; exact h rfl
  simp [this]
theorem stepS_mem (st : List Int × List Rc) (r c : Nat) (x : Int) : x ∈ (stepS st r c x).1 := by
 unfold stepS
 split
 ·assumption
 ·simp
theorem stepS_prefix (st : List Int × List Rc) (r c : Nat) (x : Int) : st.1 <+: (stepS st r c x).1 := by
 unfold stepS
 split
 ·exact List.prefix_refl _
 ·exact List.prefix_append _ _
theorem stAt_prefix (rows : List (List Int)) (wi : Nat) (n : Nat) : ∀ m, (stAt rows wi n).1 <+: (stAt rows wi (n + m)).1
 | 0 => List.prefix_refl _
 | m + 1 => (stAt_prefix rows wi n m).trans (stepS_prefix _ _ _ _)
theorem stAt_mem (rows : List (List Int)) (wi : Nat) (r c : Nat) (hc : c < wi) : zbe rows r c ∈ (stAt rows wi (r * wi + c + 1)).1 := by
 show zbe rows r c ∈ (stepS (stAt rows wi (r * wi + c)) ((r * wi + c) / wi) ((r * wi + c) % wi) (zbe rows ((r * wi + c) / wi) ((r * wi + c) % wi))).1
 have h1 : (r * wi + c) / wi = r := by
  rw [Nat.mul_comm, Nat.mul_add_div (by omega), Nat.div_eq_of_lt hc, Nat.add_zero]
 have h2 : (r * wi + c) % wi = c := by
  rw [Nat.mul_comm, Nat.mul_add_mod, Nat.mod_eq_of_lt hc]
 rw [h1, h2]
 exact stepS_mem _ _ _ _
theorem numAt_lt (rows : List (List Int)) (hi wi : Nat) (r c : Nat) (hr : r < hi) (hc : c < wi) : 0 ≤ numAt rows wi r c ∧ numAt rows wi r c < ((stAt rows wi (hi * wi)).2.length : Int) := by
 unfold numAt
 have h1 := stAt_mem rows wi r c hc
 have h2 := List.idxOf_lt_length_of_mem h1
 have hle : r * wi + c + 1 ≤ hi * wi := by
  have : (r + 1) * wi ≤ hi * wi := Nat.mul_le_mul_right _ hr
  rw [Nat.succ_mul] at this
  omega
 have h3 := (stAt_prefix rows wi (r * wi + c + 1) (hi * wi - (r * wi + c + 1))).length_le
 rw [show r * wi + c + 1 + (hi * wi - (r * wi + c + 1)) = hi * wi by omega] at h3
 have h4 := (stAt_inv rows hi wi (hi * wi) (ycd _)).1
 omega
structure Cells (hi wi n : Nat) (cs : List (List Int)) : Prop where
 len : cs.length = hi
 row : ∀ r ∈ cs, r.length = wi
 val : ∀ r ∈ cs, ∀ x ∈ r, 0 ≤ x ∧ x < n
theorem zbx (rows : List (List Int)) : zbo rows = true ↔ (1 ≤ rows.length ∧ rows.length ≤ 6 ∧ 1 ≤ zaj rows ∧ zaj rows ≤ 6 ∧ ∀ r ∈ rows, r.length = zaj rows) := by
 unfold zbo
 simp only [Bool.and_eq_true, decide_eq_true_eq, Bool.not_eq_true', List.any_eq_false, bne_iff_ne, ne_eq, Decidable.not_not, and_assoc]
theorem settledF_some {rows cs : List (List Int)} {rs : List Rc} {b : Bool} (h : zby rows = some (cs, rs, b)) : zbo rows = true ∧ cs = cellsOf rows ∧ rs = zay rows ∧ rs.length ≤ 9 ∧ b = decide (zbt rs = (rows.length : Int) * (zaj rows : Int)) ∧ Cells rows.length (zaj rows) rs.length cs ∧ ∀ a ∈ rs, boundR a rows.length (zaj rows) := by
 unfold zby at h
 split at h
 ·rename_i h1
  split at h
  ·rename_i h2
   injection h with h
   injection h with e1 h
   injection h with e2 e3
   subst e1 e2 e3
   refine ⟨h1, rfl, rfl, h2, rfl, ⟨cellsOf_length rows, fun r hr => ?_, fun r hr x hx => ?_⟩, (stAt_inv rows rows.length (zaj rows) _ (ycd _)).2.2.2⟩
   ·unfold cellsOf zbc at hr
    simp at hr
    obtain ⟨a, _, rfl⟩ := hr
    simp
   ·unfold cellsOf zbc at hr
    simp at hr
    obtain ⟨a, ha, rfl⟩ := hr
    simp at hx
    obtain ⟨c, hc, rfl⟩ := hx
    exact numAt_lt rows rows.length (zaj rows) a c ha hc
  ·cases h
 ·cases h
theorem textOf_length (cs : List (List Int)) : (zbq cs).length = cs.length := by simp [zbq]
def smallB (p : List ByteArray) : Bool := decide (p.length ≤ 1048576) && p.all fun s => decide (s.size ≤ 1048576)
theorem smallB_iff (p : List ByteArray) : smallB p = true ↔ smallP p := by
 unfold smallB smallP
 rw [Bool.and_eq_true, decide_eq_true_eq, List.all_eq_true]
 simp only [decide_eq_true_eq]
def zcg (p : List ByteArray) : Option (List (List Int) × List Rc) := (readF p).bind fun t => if t.2.2 = true ∧ zbq t.1 = p then some (t.1, t.2.1) else none
theorem readF_some {p : List ByteArray} {t} (h : readF p = some t) : zby (zak p) = some t := by
 unfold readF at h
 split at h
 ·exact h
 ·cases h
def FloorOfRes (w : World) (r : Option (List (List Int) × List Rc)) (e : Ending) (w' : World) : Prop :=
 Below w.heap.size w w' ∧ ∃ (v : Option Addr) (b : Bool), e = .returned (.tuple #[.pointer v, .bool b]) ∧ match r with
  | none => b = false
  | some (cs, rs) => b = true ∧ ∃ g, v = some ⟨g, 0, none⟩ ∧ FloorAt w' g cs rs
set_option maxHeartbeats 4000000 in
set_option maxRecDepth 100000 in
theorem floorOf_calls (A0 : Option Addr) (c0 : Nat) (l0 : List ByteArray) (w : World) (hr0 : Kd.C Kd.string w A0 l0.length l0) (hc0 : l0.length ≤ c0) (hp : smallP l0) :
  Calls Try.prog 49 #[.slice A0 l0.length c0] w (FloorOfRes w (zcg l0)) := by
 have HR := zaa.mk hr0
 have HC := zaa.mk hc0
 have HP := zaa.mk hp
 clear hr0 hc0 hp
 generalize hF : zcg l0 = res
 have HF := zaa.mk hF
 clear hF
 generalize hS : readF l0 = t
 have HS := zaa.mk hS
 clear hS
 rcases t with _ | ⟨cs, rs, b⟩
 ·have e : res = none := by rw [← HF.out]; unfold zcg; rw [HS.out]; rfl
  subst e
  go_enter Try.func49, Try.ntmps49
  go_wp2_with (first
   | (go_at_call 90; refine (read_calls A0 c0 l0 _ HR.out HC.out HP.out).mono ?_; rw [HS.out]; rintro e w8 ⟨hb8, rfl⟩; have HB8 := zaa.mk hb8; clear hb8))
  go_ret2
  exact ⟨HB8.out, none, false, rfl, rfl⟩
 ·obtain ⟨q1, q2, q3, q4, q5, q6, q7⟩ := settledF_some (readF_some HS.out)
  have HCl := zaa.mk q6
  clear q2 q3 q5 q6 q7
  have hsh := (zbx _).1 q1
  have HSh := zaa.mk hsh
  clear q1 hsh
  cases b
  ·have e : res = none := by rw [← HF.out]; unfold zcg; rw [HS.out]; simp
   subst e
   go_enter Try.func49, Try.ntmps49
   go_wp2_with (first
    | (go_at_call 90; refine (read_calls A0 c0 l0 _ HR.out HC.out HP.out).mono ?_; rw [HS.out]; rintro e w8 ⟨hb8, g, rfl, hfl⟩; have HB8 := zaa.mk hb8; clear hb8 hfl))
   go_ret2
   exact ⟨HB8.out, some ⟨g, 0, none⟩, false, rfl, rfl⟩
  ·have HT := zaa.mk (equalS_f (zbq cs) l0 (by rw [textOf_length, HCl.out.len]; have := HSh.out; omega))
   obtain ⟨k, hk⟩ := HT.out
   have HK := zaa.mk hk
   clear hk
   have HVal := zaa.mk (show ∀ r ∈ cs, r.length ≤ 1048576 ∧ ∀ x ∈ r, 0 ≤ x ∧ x ≤ 25 from fun r hr => ⟨by rw [HCl.out.row r hr]; have := HSh.out; omega, fun x hx => by have := HCl.out.val r hr x hx; omega⟩)
   have HLn := zaa.mk (show cs.length ≤ 1048576 from by rw [HCl.out.len]; have := HSh.out; omega)
   go_enter Try.func49, Try.ntmps49
   go_wp2_with (first
    | (go_at_call 90; refine (read_calls A0 c0 l0 _ HR.out HC.out HP.out).mono ?_; rw [HS.out]; rintro e w8 ⟨hb8, g, rfl, hfl⟩; have HB8 := zaa.mk hb8; have HFl := zaa.mk hfl; clear hb8 hfl)
    | (go_at_call 92; refine (text_calls g cs rs _ HFl.out HLn.out HVal.out).mono ?_; rintro e w9 ⟨v9, rfl, hr9, hb9⟩; have HB9 := zaa.mk (zae HB8.out hb9); have HFl9 := zaa.mk (HFl.out.below hb9); obtain ⟨A9, c9, e9, hl9, hC9⟩ := Kd.R_reads hr9; subst e9; have HC9 := zaa.mk hC9; have HL9 := zaa.mk hl9; clear hb9 hr9 hC9 hl9)
    | (go_at_call 91; refine (slices_Equal_string_string.calls k A9 c9 (zbq cs) A0 c0 l0 _ _ HC9.out HL9.out (Kd.C_below HR.out HB9.out) HC.out HK.out).mono ?_; rintro e w10 ⟨rfl, hd10⟩; have HB10 := zaa.mk (zae HB9.out hd10.below); have HFl10 := zaa.mk (HFl9.out.below hd10.below); clear hd10))
   go_ret2
   have hre : zcg l0 = if zbq cs = l0 then some (cs, rs) else none := by unfold zcg; rw [HS.out]; simp
   rw [← HF.out, hre]
   by_cases ht : zbq cs = l0
   ·rw [if_pos ht]
    exact ⟨HB10.out, some ⟨g, 0, none⟩, true, by rw [decide_eq_true ht]; rfl, rfl, g, rfl, HFl10.out⟩
   ·rw [if_neg ht]
    exact ⟨HB10.out, some ⟨g, 0, none⟩, false, by rw [decide_eq_false ht]; rfl, rfl⟩
def planF (rows : List (List Int)) : List ByteArray × Bool := match zby rows with
 | some (cs, _, true) => (zbq cs, true)
 | _ => ([], false)
def PlanRes (w : World) (r : List ByteArray × Bool) (e : Ending) (w' : World) : Prop :=
 ∃ v0_ : Value, e = .returned (.tuple #[v0_, .bool r.2]) ∧ Kd.R Kd.string 9 w' w.heap.size (fun _ => True) v0_ r.1 ∧ Below w.heap.size w w'
set_option maxHeartbeats 4000000 in
set_option maxRecDepth 100000 in
theorem plan_calls (A : Option Addr) (cap : Nat) (rows : List (List Int)) (w : World) (hr : (Kd.slice 3 (Kd.int .i64)).C w A rows.length rows) (hv : ∀ r ∈ rows, ∀ x ∈ r, 0 ≤ x ∧ x ≤ 1048576) :
  Calls Try.prog 98 #[.slice A rows.length cap] w (PlanRes w (planF rows)) := by
 have HR := zaa.mk hr
 have HV := zaa.mk hv
 clear hr hv
 generalize hF : planF rows = res
 have HF := zaa.mk hF
 clear hF
 generalize hS : zby rows = t
 have HS := zaa.mk hS
 clear hS
 rcases t with _ | ⟨cs, rs, b⟩
 ·have e : res = ([], false) := by rw [← HF.out]; unfold planF; rw [HS.out]
  subst e
  go_enter Try.func98, Try.ntmps98
  go_wp2_with (first
   | (go_at_call 108; refine (settled_calls A cap rows _ HR.out HV.out).mono ?_; rw [HS.out]; rintro e w8 ⟨hb8, rfl⟩; have HB8 := zaa.mk hb8; clear hb8))
  go_ret2
  exact ⟨.slice none 0 0, rfl, Kd.R_nil _ _ _ _ _, HB8.out⟩
 ·obtain ⟨q1, q2, q3, q4, q5, q6, q7⟩ := settledF_some HS.out
  have HCl := zaa.mk q6
  clear q2 q3 q5 q6 q7
  have HSh := zaa.mk ((zbx _).1 q1)
  clear q1
  cases b
  ·have e : res = ([], false) := by rw [← HF.out]; unfold planF; rw [HS.out]
   subst e
   go_enter Try.func98, Try.ntmps98
   go_wp2_with (first
    | (go_at_call 108; refine (settled_calls A cap rows _ HR.out HV.out).mono ?_; rw [HS.out]; rintro e w8 ⟨hb8, g, rfl, hfl⟩; have HB8 := zaa.mk hb8; clear hb8 hfl))
   go_ret2
   exact ⟨.slice none 0 0, rfl, Kd.R_nil _ _ _ _ _, HB8.out⟩
  ·have e : res = (zbq cs, true) := by rw [← HF.out]; unfold planF; rw [HS.out]
   subst e
   have HVal := zaa.mk (show ∀ r ∈ cs, r.length ≤ 1048576 ∧ ∀ x ∈ r, 0 ≤ x ∧ x ≤ 25 from fun r hr => ⟨by rw [HCl.out.row r hr]; have := HSh.out; omega, fun x hx => by have := HCl.out.val r hr x hx; omega⟩)
   have HLn := zaa.mk (show cs.length ≤ 1048576 from by rw [HCl.out.len]; have := HSh.out; omega)
   go_enter Try.func98, Try.ntmps98
   go_wp2_with (first
    | (go_at_call 108; refine (settled_calls A cap rows _ HR.out HV.out).mono ?_; rw [HS.out]; rintro e w8 ⟨hb8, g, rfl, hfl⟩; have HB8 := zaa.mk hb8; have HFl := zaa.mk hfl; clear hb8 hfl)
    | (go_at_call 92; refine (text_calls g cs rs _ HFl.out HLn.out HVal.out).mono ?_; rintro e w9 ⟨v9, rfl, hr9, hb9⟩; have HB9 := zaa.mk (zae HB8.out hb9); have HO9 := zaa.mk (Kd.R_lower hr9 HB8.out.size); clear hb9 hr9))
   go_ret2
   exact ⟨v9, rfl, HO9.out, HB9.out⟩
def Sees (w W : World) : Prop := w.heap.size ≤ W.heap.size ∧ ∀ k, k < w.heap.size → W.heap[k]? = w.heap[k]?
def likeW (w W : World) : World := { W with os := w.os, tape := w.tape, output := w.output }
theorem Sees.below {w W : World} (h : Sees w W) : Below w.heap.size w (likeW w W) := ⟨rfl, rfl, rfl, h.1, h.2⟩
theorem Sees.of_below {w W : World} (h : Below w.heap.size w W) : Sees w W := ⟨h.size, h.block⟩
theorem Sees.refl (w : World) : Sees w w := ⟨ycd _, fun _ _ => rfl⟩
theorem Sees.trans {a b c : World} (h : Sees a b) (k : Sees b c) : Sees a c := ⟨Nat.le_trans h.1 k.1, fun i hi => (k.2 i (Nat.lt_of_lt_of_le hi h.1)).trans (h.2 i hi)⟩
theorem Sees.cell {w W : World} (h : Sees w W) {a : Addr} {v : Value} (hc : w.cell? a = some v) : W.cell? a = some v := zar (w1 := likeW w W) h.below hc
theorem Sees.at {w W : World} (h : Sees w W) {k : Nat} {o : Obj} (hc : w.heap[k]? = some o) : W.heap[k]? = some o := (h.2 k (Array.getElem?_eq_some_iff.1 hc).1).trans hc
theorem C_likeW {w W : World} {A : Option Addr} {n : Nat} {xs : List (List Int)} (h : (Kd.slice 3 (Kd.int .i64)).C (likeW w W) A n xs) : (Kd.slice 3 (Kd.int .i64)).C W A n xs := h
theorem C_likeW_rc {w W : World} {A : Option Addr} {n : Nat} {xs : List Rc} (h : kRc.C (likeW w W) A n xs) : kRc.C W A n xs := h
theorem Sees.C {w W : World} (h : Sees w W) {A : Option Addr} {n : Nat} {xs : List (List Int)} (hc : (Kd.slice 3 (Kd.int .i64)).C w A n xs) : (Kd.slice 3 (Kd.int .i64)).C W A n xs := C_likeW (Kd.C_below hc h.below)
theorem FloorAt.sees {w W : World} {g : Nat} {cs : List (List Int)} {rs : List Rc} (hf : FloorAt w g cs rs) (h : Sees w W) : FloorAt W g cs rs := by
 obtain ⟨A0, c0, A1, c1, h1, h2, h3, h4⟩ := hf
 exact ⟨A0, c0, A1, c1, h.at h1, h.at h1, C_likeW (Kd.C_below h3 h.below), C_likeW_rc (Kd.C_below h4 h.below)⟩
def ReadFn (P : Program) (f : FuncId) (caps : Array Value) (w : World) (hi wi : Nat) (g : Nat → Nat → Int) : Prop :=
 ∀ (W : World) (r c : Nat), r < hi → c < wi → Sees w W → Calls P f (#[.int .i64 r, .int .i64 c] ++ caps) W fun e W' => e = .returned (.int .i64 (g r c)) ∧ Below W.heap.size W W'
def GridRes (w : World) (r : List (List Int)) (e : Ending) (w' : World) : Prop :=
 ∃ A c, e = .returned (.slice A r.length c) ∧ r.length ≤ c ∧ (Kd.slice 3 (Kd.int .i64)).C w' A r.length r ∧ Below w.heap.size w w'
theorem gridOf_row {hi wi : Nat} {g : Nat → Nat → Int} : ∀ r ∈ zbc hi wi g, r.length = wi := by
 intro r hr
 unfold zbc at hr
 simp at hr
 obtain ⟨a, _, rfl⟩ := hr
 simp
theorem readFn_cell {P : Program} {f : FuncId} {caps : Array Value} {w : World} {hi wi : Nat} {g : Nat → Nat → Int} (h : ReadFn P f caps w hi wi g) :
  CellFn P f caps hi wi g (fun _ F W => (∀ k, F k ↔ k < w.heap.size) ∧ Sees w W) := by
 refine ⟨fun n F W W' hI hs hm => ⟨hI.1, Nat.le_trans hI.2.1 hs, fun k hk => (hm k ((hI.1 k).2 hk)).trans (hI.2.2 k hk)⟩, fun n F W k hI hk => Nat.lt_of_lt_of_le ((hI.1 k).1 hk) hI.2.1, ?_⟩
 intro n F W r c hr hc _ hI
 refine (h W r c hr hc hI.2).mono ?_
 rintro e W' ⟨rfl, hb⟩
 exact ⟨rfl, F, ⟨hI.1, hI.2.trans (Sees.of_below hb)⟩, fun k hk => .inl hk, Other.of_below hb⟩
theorem blank_reads (f : FuncId) (fn : Func) (hf : Try.prog.funcs[f]? = some fn) (hname : (fn.name == "runtime.NumGoroutine") = false) (hb : fn.body.isSome = true) (caps : Array Value) (hi wi : Nat) (g : Nat → Nat → Int) (w : World)
  (hC : ReadFn Try.prog f caps w hi wi g) (hhi : hi ≤ 1048576) (hwi : wi ≤ 1048576) :
  Calls Try.prog 75 #[.int .i64 hi, .int .i64 wi, .func (.func f) #[] caps] w (GridRes w (zbc hi wi g)) := by
 refine (blank_calls f fn hf hname hb caps hi wi g _ (readFn_cell hC) (fun k => k < w.heap.size) w ⟨fun _ => Iff.rfl, Sees.refl w⟩ hhi hwi).mono ?_
 rintro e w' ⟨g0, bs, F', rfl, hM, hfar, ⟨hF, hS⟩, hF', hO⟩
 have hl := zbk hi wi g
 refine ⟨some ⟨g0, 0, none⟩, hi, by rw [hl], by rw [hl]; exact ycd _, ?_, ⟨hO.os, hO.tape, hO.output, hS.1, hS.2⟩⟩
 exact hM.reads (by rw [hl]; omega) (fun r hr => by rw [gridOf_row r hr]; omega)
structure FloorOk (cs : List (List Int)) (rs : List Rc) : Prop where
 cells : Cells cs.length (zaj cs) rs.length cs
 h1 : 1 ≤ cs.length
 h6 : cs.length ≤ 6
 w1 : 1 ≤ zaj cs
 w6 : zaj cs ≤ 6
 many : rs.length ≤ 9
 bound : ∀ a ∈ rs, boundR a cs.length (zaj cs)
theorem wideOf_of {cs : List (List Int)} {hi wi n : Nat} (h : Cells hi wi n cs) (h1 : 1 ≤ hi) : zaj cs = wi := by
 unfold zaj
 have hl := h.len
 rw [ycb, List.getElem?_eq_getElem (by omega)]
 exact h.row _ (List.getElem_mem _)
theorem settledF_ok {rows cs : List (List Int)} {rs : List Rc} {b : Bool} (h : zby rows = some (cs, rs, b)) : FloorOk cs rs := by
 obtain ⟨q1, q2, q3, q4, q5, q6, q7⟩ := settledF_some h
 obtain ⟨s1, s2, s3, s4, s5⟩ := (zbx _).1 q1
 have hw := wideOf_of q6 s1
 have hl := q6.len
 exact ⟨by rw [hw, hl]; exact q6, by omega, by omega, by omega, by omega, q4, by rw [hw, hl]; exact q7⟩
theorem floorF_ok {p : List ByteArray} {cs : List (List Int)} {rs : List Rc} (h : zcg p = some (cs, rs)) : FloorOk cs rs := by
 unfold zcg at h
 cases hr : readF p with
 | none => rw [hr] at h; cases h
 | some t =>
  rw [hr] at h
  simp only [Option.bind_some] at h
  split at h
  ·injection h with h
   injection h with e1 e2
   subst e1 e2
   exact settledF_ok (readF_some hr)
  ·cases h
theorem high_f (cs : List (List Int)) (rs : List Rc) : impl_floor_high.f cs rs = some (cs.length : Int) := rfl
theorem wide_f {cs : List (List Int)} {rs : List Rc} (h : FloorOk cs rs) : impl_floor_wide.f cs rs = some (zaj cs : Int) := by
 have := h.h1
 unfold impl_floor_wide.f
 rw [if_pos (by omega)]
 rfl
theorem FloorAt.cell {w : World} {g : Nat} {cs : List (List Int)} {rs : List Rc} (hf : FloorAt w g cs rs) (hk : FloorOk cs rs) (r c : Nat) (hr : r < cs.length) (hc : c < zaj cs) :
  ∃ ad c0 ad2 c2, w.cell? ⟨g, 0, none⟩ = some (.slice (some ad) cs.length c0) ∧ w.cell? (ad.add r) = some (.slice (some ad2) (zaj cs) c2) ∧ w.cell? (ad2.add c) = some (.int .i64 (zbe cs r c)) := by
 obtain ⟨A0, c0, A1, c1, h1, h2, h3, h4⟩ := hf
 obtain ⟨row, hrow⟩ : ∃ row, cs[r]? = some row := ⟨_, List.getElem?_eq_getElem hr⟩
 obtain ⟨ad, Ai, ci, e1, hx, hl, hrr⟩ := C_row h3 r row hrow
 have hw := hk.cells.row row (List.mem_of_getElem? hrow)
 obtain ⟨ad2, e2, hx2⟩ := C_int_cell hrr c (by omega)
 subst e1 e2
 refine ⟨ad, c0, ad2, ci, (zat h1 0).trans rfl, by rw [hx, hw], ?_⟩
 rw [hx2]
 unfold zbe rd
 rw [ycb, ycb, ycb, hrow, Int.toNat_natCast]
 rfl
theorem valAt_range {cs : List (List Int)} {rs : List Rc} (hk : FloorOk cs rs) (r c : Nat) (hr : r < cs.length) (hc : c < zaj cs) : 0 ≤ zbe cs r c ∧ zbe cs r c < rs.length := by
 have hm : cs.getD r [] ∈ cs := by rw [ycb, List.getElem?_eq_getElem hr]; exact List.getElem_mem _
 have hw := hk.cells.row _ hm
 refine hk.cells.val _ hm _ ?_
 unfold zbe
 rw [ycb (l := cs.getD r []), List.getElem?_eq_getElem (by omega)]
 exact List.getElem_mem _
def hasB (rs : List Rc) (a : Int) : Bool := decide (0 ≤ a) && decide (a < rs.length)
theorem grid_vals {g : Nat → Nat → Int} {hi wi : Nat} (h : ∀ r c, r < hi → c < wi → 0 ≤ g r c ∧ g r c ≤ 1048576) : ∀ r ∈ zbc hi wi g, ∀ x ∈ r, 0 ≤ x ∧ x ≤ 1048576 := by
 intro r hr x hx
 unfold zbc at hr
 simp at hr
 obtain ⟨a, ha, rfl⟩ := hr
 simp at hx
 obtain ⟨c, hc, rfl⟩ := hx
 exact h a c ha hc
theorem FloorAt.rooms {w : World} {g : Nat} {cs : List (List Int)} {rs : List Rc} (hf : FloorAt w g cs rs) : ∃ A c, w.cell? ⟨g, 1, none⟩ = some (.slice A rs.length c) ∧ kRc.C w A rs.length rs := by
 obtain ⟨A0, c0, A1, c1, h1, h2, h3, h4⟩ := hf
 exact ⟨A1, c1, (zat h1 1).trans rfl, h4⟩
theorem box_cell {w : World} {v : Value} {t : TypeId} {g : Nat} (h : w.heap[g]? = some (.cells #[v] t (0, 0))) : w.cell? ⟨g, 0, none⟩ = some v := (zat h 0).trans rfl
section
variable {P : Program} {ops : Array Oper} {Q : Exit → Act → World → Prop}
end
def HowFn (P : Program) (f : FuncId) (caps : Array Value) (w : World) (how : List (List Int) → List Rc → List (List Int)) : Prop :=
 ∀ (W : World) (g : Nat) (cs : List (List Int)) (rs : List Rc), FloorOk cs rs → FloorAt W g cs rs → Sees w W → Calls P f (#[.pointer (some ⟨g, 0, none⟩)] ++ caps) W (GridRes W (how cs rs))
def goodHow (how : List (List Int) → List Rc → List (List Int)) : Prop := ∀ cs rs, FloorOk cs rs → ∀ r ∈ how cs rs, ∀ x ∈ r, 0 ≤ x ∧ x ≤ 1048576
def remadeF (p : List ByteArray) (how : List (List Int) → List Rc → List (List Int)) : List ByteArray × Bool := match zcg p with
 | none => ([], false)
 | some (cs, rs) => planF (how cs rs)
set_option maxHeartbeats 4000000 in
set_option maxRecDepth 100000 in
theorem remade_calls (f : FuncId) (fn : Func) (hf : Try.prog.funcs[f]? = some fn) (hname : (fn.name == "runtime.NumGoroutine") = false) (hb : fn.body.isSome = true) (caps : Array Value) (how : List (List Int) → List Rc → List (List Int)) (hgood : goodHow how)
  (A0 : Option Addr) (c0 : Nat) (l0 : List ByteArray) (w : World) (hr0 : Kd.C Kd.string w A0 l0.length l0) (hc0 : l0.length ≤ c0) (hp : smallP l0) (hh : HowFn Try.prog f caps w how) :
  Calls Try.prog 68 #[.slice A0 l0.length c0, .func (.func f) #[] caps] w (PlanRes w (remadeF l0 how)) := by
 have HR := zaa.mk hr0
 have HC := zaa.mk hc0
 have HP := zaa.mk hp
 have HHow := zaa.mk hh
 have HFn := zaa.mk hf
 have HN := zaa.mk hname
 have HBd := zaa.mk hb
 have HG := zaa.mk hgood
 clear hr0 hc0 hp hh hf hname hb hgood
 generalize hM : remadeF l0 how = res
 have HM := zaa.mk hM
 clear hM
 generalize hF : zcg l0 = t
 have HF := zaa.mk hF
 clear hF
 rcases t with _ | ⟨cs, rs⟩
 ·have e : res = ([], false) := by rw [← HM.out]; unfold remadeF; rw [HF.out]
  subst e
  go_enter Try.func68, Try.ntmps68
  go_wp2_with (first
   | (go_at_call 49; refine (floorOf_calls A0 c0 l0 _ HR.out HC.out HP.out).mono ?_; rw [HF.out]; rintro e w8 ⟨hb8, v8, b8, rfl, rfl⟩; have HB8 := zaa.mk hb8; clear hb8))
  go_ret2
  exact ⟨.slice none 0 0, rfl, Kd.R_nil _ _ _ _ _, HB8.out⟩
 ·have e : res = planF (how cs rs) := by rw [← HM.out]; unfold remadeF; rw [HF.out]
  have HE := zaa.mk e
  have HK := zaa.mk (floorF_ok HF.out)
  clear e
  go_enter Try.func68, Try.ntmps68
  go_wp2_with (first
   | (go_at_call 49; refine (floorOf_calls A0 c0 l0 _ HR.out HC.out HP.out).mono ?_; rw [HF.out]; rintro e w8 ⟨hb8, v8, b8, rfl, rfl, g, rfl, hfl⟩; have HB8 := zaa.mk hb8; have HFl8 := zaa.mk hfl; clear hb8 hfl)
   | ((with_reducible refine zbb (N := 17) rfl ?_); refine goesvL_ (some 17) rfl rfl HFn.out HN.out HBd.out #[.pointer (some ⟨g, 0, none⟩)] rfl rfl (by (try simp only [ybz, yca, List.map_nil]); first | done | rfl) ?_; refine (HHow.out _ g cs rs HK.out HFl8.out (Sees.of_below HB8.out)).mono ?_; rintro e w9 ⟨A9, c9, rfl, hl9, hC9, hb9⟩; refine ⟨_, rfl, ?_⟩; have HC9 := zaa.mk hC9; have HB9 := zaa.mk (zae HB8.out hb9); clear hb9 hC9)
   | (go_at_call 98; refine (plan_calls A9 c9 _ _ HC9.out (HG.out cs rs HK.out)).mono ?_; rintro e w14 ⟨v14, rfl, hr14, hb14⟩; have HO14 := zaa.mk (Kd.R_lower hr14 HB9.out.size); have HB14 := zaa.mk (zae HB9.out hb14); clear hr14 hb14))
  go_ret2
  rw [HE.out]
  exact ⟨v14, rfl, HO14.out, HB14.out⟩
end Go.Proofs.Ytickdcegnlldjaa.Hd
namespace Go.Proofs.Ytickdcegnlldjaa.Hd
open Go.RowKit Go.PW.PrintWords Go.PW.PrintLast Go.PW.PrintMore Go.Proofs.Ytickdcegnlldjaa.PB
def Evs {α : Type} (g : Nat → Option α) (r : α) : Prop := ∃ K, ∀ k, K ≤ k → g k = some r
section
variable {α β : Type} {g h : Nat → Option α} {r : α}
theorem Evs.const (r : α) : Evs (fun _ => some r) r := ⟨0, fun _ _ => rfl⟩
theorem Evs.step (e : ∀ k, g (k + 1) = h k) (hh : Evs h r) : Evs g r := by
 obtain ⟨K, hK⟩ := hh
 refine ⟨K + 1, fun k hk => ?_⟩
 obtain ⟨j, rfl⟩ : ∃ j, k = j + 1 := ⟨k - 1, by omega⟩
 rw [e]
 exact hK j (by omega)
theorem Evs.congr (e : ∀ k, g k = h k) (hh : Evs h r) : Evs g r := by
 obtain ⟨K, hK⟩ := hh
 exact ⟨K, fun k hk => by rw [e]; exact hK k hk⟩
theorem Evs.bind {g : Nat → Option β} {F : Nat → β → Option α} {b : β} (hg : Evs g b) (hF : Evs (fun k => F k b) r) : Evs (fun k => (g k).bind (F k)) r := by
 obtain ⟨K, hK⟩ := hg
 obtain ⟨L, hL⟩ := hF
 refine ⟨K + L, fun k hk => ?_⟩
 show (g k).bind (F k) = some r
 rw [hK k (by omega)]
 exact hL k (by omega)
theorem Evs.bindS {x : Option β} {F : Nat → β → Option α} {b : β} (hg : x = some b) (hF : Evs (fun k => F k b) r) : Evs (fun k => x.bind (F k)) r := by
 subst hg
 exact hF
end
theorem zca {p : List ByteArray} {i : Nat} {s : ByteArray} (h : p[i]? = some s) : rdOf ycc p (i : Int) = s := by
 unfold rdOf; rw [Int.toNat_natCast, ycb, h]; rfl
theorem bt_get {s : ByteArray} {j : Nat} {x : Int} (h : (bytesOf s)[j]? = some x) : bt s (j : Int) = x := by
 rw [← bytesOf_get, ycb, h]; rfl
theorem l6In_f (a b c : Int) : spec_l6In.f a b c = some (decide (b ≤ a) && decide (a ≤ c)) := by
 unfold spec_l6In.f
 by_cases h : b ≤ a
 ·rw [if_pos h]; simp [h]
 ·rw [if_neg h]; simp [h]
theorem zbr {i : Nat} (h : i ≤ 1048576) : wrap64 ((i : Int) + 1) = ((i + 1 : Nat) : Int) := by rw [zas (by omega) (by omega)]; omega
def gridOk (p : List ByteArray) : Bool := zbo (zak p) && p.all okText
def rowOk (n : Nat) (s : ByteArray) : Bool := decide (s.size = n) && (decide (1 ≤ s.size) && decide (s.size ≤ 6)) && okText s
theorem grid_l1 (p : List ByteArray) (i : Nat) (s : ByteArray) (hi : p[i]? = some s) (hs : s.size ≤ 1048576) (r : Bool) (hb : i ≤ 1048576) (hnext : okText s = true → Evs (fun k => spec_l1Grid.l0 k p ((i + 1 : Nat) : Int)) r) (hbad : okText s = false → r = false) :
  ∀ m j, j + m = s.size → ((bytesOf s).take j).all okLetter = true → Evs (fun k => spec_l1Grid.l1 k p (i : Int) (j : Int)) r := by
 have hil := (List.getElem?_eq_some_iff.1 hi).1
 have hlen := zbf s
 intro m
 induction m with
 | zero =>
  intro j hj hall
  have hok : okText s = true := by
   unfold okText
   rw [show j = (bytesOf s).length by omega, List.take_length] at hall
   exact hall
  refine Evs.step (h := fun k => spec_l1Grid.l0 k p ((i + 1 : Nat) : Int)) (fun k => ?_) (hnext hok)
  unfold spec_l1Grid.l1
  rw [if_pos (by omega), if_pos (by omega), zca hi, if_neg (by omega), zbr hb]
 | succ m ih =>
  intro j hj hall
  obtain ⟨x, hx⟩ : ∃ x, (bytesOf s)[j]? = some x := ⟨_, List.getElem?_eq_getElem (by omega)⟩
  have htake : (bytesOf s).take (j + 1) = (bytesOf s).take j ++ [x] := by rw [List.take_add_one, hx]; rfl
  by_cases hlo : x < 97
  ·have hno : okText s = false := by
    unfold okText
    rw [List.all_eq_false]
    exact ⟨x, List.mem_of_getElem? hx, by simp [okLetter, hlo]⟩
   rw [hbad hno]
   refine Evs.step (h := fun _ => some false) (fun k => ?_) (Evs.const _)
   unfold spec_l1Grid.l1
   rw [if_pos (by omega), if_pos (by omega), zca hi, if_pos (by omega), if_pos (by omega), bt_get hx, if_pos hlo]
  ·by_cases hhi : 122 < x
   ·have hno : okText s = false := by
     unfold okText
     rw [List.all_eq_false]
     exact ⟨x, List.mem_of_getElem? hx, by simp [okLetter, hhi]⟩
    rw [hbad hno]
    refine Evs.step (h := fun _ => some false) (fun k => ?_) (Evs.const _)
    unfold spec_l1Grid.l1
    rw [if_pos (by omega), if_pos (by omega), zca hi, if_pos (by omega), if_pos (by omega), bt_get hx, if_neg hlo, if_pos hhi]
   ·refine Evs.step (h := fun k => spec_l1Grid.l1 k p (i : Int) ((j + 1 : Nat) : Int)) (fun k => ?_) (ih (j + 1) (by omega) (by rw [htake, List.all_append, hall]; simp [okLetter, hlo, hhi]))
    conv => lhs; unfold spec_l1Grid.l1
    rw [if_pos (by omega), if_pos (by omega), zca hi, if_pos (by omega), if_pos (by omega), bt_get hx, if_neg hlo, if_neg (by omega), zbr (by omega)]
theorem grid_l0 (p : List ByteArray) (hp : smallP p) : ∀ m i, i + m = p.length → Evs (fun k => spec_l1Grid.l0 k p (i : Int)) ((p.drop i).all (rowOk (p.getD 0 ycc).size) && (decide (1 ≤ p.length) && decide (p.length ≤ 6))) := by
 have hpl := hp.1
 intro m
 induction m with
 | zero =>
  intro i hi
  refine Evs.step (h := fun _ => some ((p.drop i).all (rowOk (p.getD 0 ycc).size) && (decide (1 ≤ p.length) && decide (p.length ≤ 6)))) (fun k => ?_) (Evs.const _)
  unfold spec_l1Grid.l0
  rw [if_neg (by omega), l6In_f, List.drop_eq_nil_of_le (by omega)]
  simp only [Option.bind_some, List.all_nil, Bool.true_and]
  congr 2
  ·congr 1; exact propext ⟨fun h => by omega, fun h => by omega⟩
  ·congr 1; exact propext ⟨fun h => by omega, fun h => by omega⟩
 | succ m ih =>
  intro i hi
  obtain ⟨s, hs⟩ : ∃ s, p[i]? = some s := ⟨_, List.getElem?_eq_getElem (by omega)⟩
  have hsz := hp.2 s (List.mem_of_getElem? hs)
  have hdrop : p.drop i = s :: p.drop (i + 1) := by
   rw [List.drop_eq_getElem_cons (by omega)]
   congr 1
   rw [List.getElem?_eq_getElem (by omega)] at hs
   exact Option.some.inj hs
  have h0 : rdOf ycc p 0 = p.getD 0 ycc := rfl
  rw [hdrop, List.all_cons]
  generalize hn : (p.getD 0 ycc).size = n at *
  by_cases heq : s.size = n
  ·by_cases h16 : 1 ≤ s.size ∧ s.size ≤ 6
   ·have hr : rowOk n s = okText s := by simp [rowOk, heq, h16.1, h16.2]; omega
    rw [hr]
    refine Evs.step (h := fun k => spec_l1Grid.j1 k p (i : Int) false) (fun k => ?_) ?_
    ·unfold spec_l1Grid.l0
     rw [if_pos (by omega), if_pos (by omega), if_pos (by omega), zca hs, h0, hn, if_pos (by omega), l6In_f]
     simp only [Option.bind_some]
     rw [decide_eq_true (by omega : (1 : Int) ≤ s.size), decide_eq_true (by omega : (s.size : Int) ≤ 6)]
     rfl
    ·refine Evs.step (h := fun k => spec_l1Grid.l1 k p (i : Int) ((0 : Nat) : Int)) (fun k => ?_) (grid_l1 p i s hs hsz _ (by omega) (fun hok => ?_) (fun hno => ?_) s.size 0 (by omega) (by simp))
     ·unfold spec_l1Grid.j1
      rw [if_neg (by simp)]
      rfl
     ·rw [hok, Bool.true_and]
      exact ih (i + 1) (by omega)
     ·rw [hno, Bool.false_and, Bool.false_and]
   ·have hr : rowOk n s = false := by
     unfold rowOk
     by_cases h1 : 1 ≤ s.size
     ·have : ¬ s.size ≤ 6 := fun h => h16 ⟨h1, h⟩
      simp [this]
     ·simp [h1]
    rw [hr, Bool.false_and, Bool.false_and]
    refine Evs.step (h := fun k => spec_l1Grid.j1 k p (i : Int) true) (fun k => ?_) (Evs.step (h := fun _ => some false) (fun k => ?_) (Evs.const _))
    ·unfold spec_l1Grid.l0
     rw [if_pos (by omega), if_pos (by omega), if_pos (by omega), zca hs, h0, hn, if_pos (by omega), l6In_f]
     simp only [Option.bind_some]
     congr 1
     by_cases h1 : 1 ≤ s.size
     ·have : ¬ (s.size : Int) ≤ 6 := by omega
      simp [this]
     ·have : ¬ (1 : Int) ≤ s.size := by omega
      simp [this]
    ·unfold spec_l1Grid.j1
     rw [if_pos rfl]
  ·have hr : rowOk n s = false := by simp [rowOk, heq]
   rw [hr, Bool.false_and, Bool.false_and]
   refine Evs.step (h := fun k => spec_l1Grid.j1 k p (i : Int) true) (fun k => ?_) (Evs.step (h := fun _ => some false) (fun k => ?_) (Evs.const _))
   ·unfold spec_l1Grid.l0
    rw [if_pos (by omega), if_pos (by omega), if_pos (by omega), zca hs, h0, hn, if_neg (by omega)]
   ·unfold spec_l1Grid.j1
    rw [if_pos rfl]
theorem wideOf_numsOf (p : List ByteArray) : zaj (zak p) = (p.getD 0 ycc).size := by
 unfold zaj zak
 cases p with
 | nil => rfl
 | cons a r => simp [zbf]
theorem gridOk_eq (p : List ByteArray) : ((p.drop 0).all (rowOk (p.getD 0 ycc).size) && (decide (1 ≤ p.length) && decide (p.length ≤ 6))) = gridOk p := by
 rw [Bool.eq_iff_iff]
 unfold gridOk
 rw [List.drop_zero, Bool.and_eq_true, Bool.and_eq_true, Bool.and_eq_true, zbx, wideOf_numsOf, List.all_eq_true, List.all_eq_true]
 have hl : (zak p).length = p.length := by simp [zak]
 rw [hl]
 simp only [decide_eq_true_eq]
 constructor
 ·rintro ⟨h1, h2, h3⟩
  have h0 := h1 (p.getD 0 ycc) (by rw [ycb, List.getElem?_eq_getElem (by omega)]; exact List.getElem_mem _)
  simp only [rowOk, Bool.and_eq_true, decide_eq_true_eq] at h0
  refine ⟨⟨h2, h3, h0.1.2.1, h0.1.2.2, fun r hr => ?_⟩, fun s hs => ?_⟩
  ·unfold zak at hr
   simp at hr
   obtain ⟨s, hs, rfl⟩ := hr
   have := h1 s hs
   simp only [rowOk, Bool.and_eq_true, decide_eq_true_eq] at this
   rw [zbf]
   exact this.1.1
  ·have := h1 s hs
   simp only [rowOk, Bool.and_eq_true, decide_eq_true_eq] at this
   exact this.2
 ·rintro ⟨⟨h2, h3, h4, h5, h6⟩, h7⟩
  refine ⟨fun s hs => ?_, h2, h3⟩
  have := h6 (bytesOf s) (by unfold zak; simp; exact ⟨s, hs, rfl⟩)
  rw [zbf] at this
  simp only [rowOk, Bool.and_eq_true, decide_eq_true_eq]
  exact ⟨⟨this, by omega, by omega⟩, h7 s hs⟩
theorem l1Grid_ev (p : List ByteArray) (hp : smallP p) : Evs (fun k => spec_l1Grid.f k p) (gridOk p) := by
 rw [← gridOk_eq]
 exact grid_l0 p hp p.length 0 (by omega)
end Go.Proofs.Ytickdcegnlldjaa.Hd
namespace Go.Proofs.Ytickdcegnlldjaa.Hd
open Go.RowKit Go.PW.PrintWords Go.PW.PrintLast Go.PW.PrintMore Go.Proofs.Ytickdcegnlldjaa.PB
def pushL (o : List Int) (v : Int) : List Int := if v ∈ o then o else o ++ [v]
def ordL (xs : List Int) (o : List Int) : List Int := xs.foldl pushL o
theorem pushL_prefix (o : List Int) (v : Int) : o <+: pushL o v := by
 unfold pushL
 split
 ·exact List.prefix_refl _
 ·exact List.prefix_append _ _
theorem pushL_mem (o : List Int) (v : Int) : v ∈ pushL o v := by
 unfold pushL
 split
 ·assumption
 ·simp
theorem ordL_prefix (xs : List Int) : ∀ o, o <+: ordL xs o := by
 induction xs with
 | nil => exact fun o => List.prefix_refl _
 | cons x r ih => exact fun o => (pushL_prefix o x).trans (ih _)
theorem zck (xs ys : List Int) (o : List Int) : ordL (xs ++ ys) o = ordL ys (ordL xs o) := by simp [ordL, List.foldl_append]
theorem ordL_mem (xs : List Int) : ∀ o, ∀ x ∈ xs, x ∈ ordL xs o := by
 induction xs with
 | nil => intro o x hx; cases hx
 | cons y r ih =>
  intro o x hx
  rcases List.mem_cons.1 hx with rfl | hx
  ·exact (ordL_prefix r (pushL o x)).subset (pushL_mem o x)
  ·exact ih _ x hx
theorem ordL_sub (xs : List Int) : ∀ o, ∀ x ∈ ordL xs o, x ∈ o ∨ x ∈ xs := by
 induction xs with
 | nil => exact fun o x hx => .inl hx
 | cons y r ih =>
  intro o x hx
  rcases ih _ x hx with h | h
  ·unfold pushL at h
   split at h
   ·exact .inl h
   ·rcases List.mem_append.1 h with h | h
    ·exact .inl h
    ·simp at h; subst h; exact .inr List.mem_cons_self
  ·exact .inr (List.mem_cons_of_mem _ h)
theorem ordL_nodup (xs : List Int) : ∀ o, o.Nodup → (ordL xs o).Nodup := by
 induction xs with
 | nil => exact fun o h => h
 | cons y r ih =>
  intro o h
  refine ih _ ?_
  unfold pushL
  split
  ·exact h
  ·rename_i hn
   rw [List.nodup_append]
   exact ⟨h, by simp, fun a ha b hb => by simp at hb; subst hb; exact fun e => hn (e ▸ ha)⟩
theorem ordL_length (xs : List Int) : ∀ o, (ordL xs o).length ≤ o.length + xs.length := by
 induction xs with
 | nil => exact fun o => by simp [ordL]
 | cons y r ih =>
  intro o
  have h1 := ih (pushL o y)
  have h2 : (pushL o y).length ≤ o.length + 1 := by
   unfold pushL
   split
   ·omega
   ·simp
  show (ordL r (pushL o y)).length ≤ _
  simp only [List.length_cons]
  omega
theorem idxOf_prefix {o L : List Int} (h : o <+: L) {x : Int} (hx : x ∈ o) : L.idxOf x = o.idxOf x := by
 obtain ⟨t, rfl⟩ := h
 rw [List.idxOf_append, if_pos hx]
theorem idxOf_push {o L : List Int} {x : Int} (h : pushL o x <+: L) : L.idxOf x = o.idxOf x := by
 rw [idxOf_prefix h (pushL_mem o x)]
 unfold pushL
 split
 ·rfl
 ·rename_i hn
  rw [List.idxOf_append, if_neg hn, List.idxOf_eq_length hn]
  simp
def canonL (L : List Int) (rows : List (List Int)) : List (List Int) := rows.map fun r => r.map fun x => (L.idxOf x : Int)
def zbl (rows : List (List Int)) : List Int := ordL rows.flatten []
def canon (rows : List (List Int)) : List (List Int) := canonL (zbl rows) rows
def namesOf (p : List ByteArray) : List ByteArray := zbq (canon (zak p))
def numOf (L : List Int) (x : Int) : Int := 97 + (L.idxOf x : Int)
theorem letter_wrap {a : Nat} (h : a ≤ 100) : (wrap64 (97 + (a : Int))) % 256 = 97 + (a : Int) := by
 rw [zas (by omega) (by omega)]
 omega
theorem names_l2 (p : List ByteArray) (i j : Nat) (s : ByteArray) (v : Int) (hi : p[i]? = some s) (hv : (bytesOf s)[j]? = some v) (o : List Int) (x4 : List ByteArray) (x6 : List Int) (ho : o.length ≤ 100) (h6 : x6.length ≤ 1048576) (hj : j ≤ 1048576) (r : List ByteArray)
  (hnext : Evs (fun k => spec_l1Names.l1 k p (pushL o v) x4 (i : Int) (x6 ++ [97 + (o.idxOf v : Int)]) ((j + 1 : Nat) : Int)) r) :
  ∀ m a, a + m = o.length → v ∉ o.take a → Evs (fun k => spec_l1Names.l2 k p o x4 (i : Int) x6 (j : Int) (a : Int)) r := by
 have hil := (List.getElem?_eq_some_iff.1 hi).1
 have hjl := (List.getElem?_eq_some_iff.1 hv).1
 rw [zbf] at hjl
 intro m
 induction m with
 | zero =>
  intro a ha hno
  rw [List.take_of_length_le (by omega)] at hno
  have hidx := List.idxOf_eq_length hno
  have hpush : pushL o v = o ++ [v] := by unfold pushL; rw [if_neg hno]
  rw [hpush, hidx] at hnext
  refine Evs.step (h := fun k => spec_l1Names.l1 k p (o ++ [v]) x4 (i : Int) (x6 ++ [97 + (o.length : Int)]) ((j + 1 : Nat) : Int)) (fun k => ?_) hnext
  conv => lhs; unfold spec_l1Names.l2
  rw [if_neg (by omega), if_pos (by omega), if_pos (by omega), if_pos (by omega), if_pos (by omega), zca hi, if_pos (by omega), if_pos (by omega), if_pos (by omega), bt_get hv, letter_wrap (by omega), zbr (by omega), show a = o.length by omega]
 | succ m ih =>
  intro a ha hno
  obtain ⟨x, hx⟩ : ∃ x, o[a]? = some x := ⟨_, List.getElem?_eq_getElem (by omega)⟩
  have hrd : rd o (a : Int) = x := by unfold rd; rw [Int.toNat_natCast, ycb, hx]; rfl
  by_cases he : x = v
  ·subst he
   have hmem : x ∈ o := List.mem_of_getElem? hx
   have hpush : pushL o x = o := by unfold pushL; rw [if_pos hmem]
   have hidx : o.idxOf x = a := by
    have h1 : o = o.take a ++ x :: o.drop (a + 1) := by
     rw [List.getElem?_eq_getElem (by omega)] at hx
     have := Option.some.inj hx
     rw [← this, ← List.drop_eq_getElem_cons, List.take_append_drop]
    rw [h1, List.idxOf_append, if_neg hno, List.idxOf_cons_self]
    simp
    omega
   rw [hpush, hidx] at hnext
   refine Evs.step (h := fun k => spec_l1Names.l1 k p o x4 (i : Int) (x6 ++ [97 + (a : Int)]) ((j + 1 : Nat) : Int)) (fun k => ?_) hnext
   conv => lhs; unfold spec_l1Names.l2
   rw [if_pos (by omega), if_pos (by omega), if_pos (by omega), if_pos (by omega), if_pos (by omega), zca hi, if_pos (by omega), hrd, bt_get hv, if_pos rfl, if_neg (by omega), if_pos (by omega), letter_wrap (by omega), zbr (by omega)]
  ·refine Evs.step (h := fun k => spec_l1Names.l2 k p o x4 (i : Int) x6 (j : Int) ((a + 1 : Nat) : Int)) (fun k => ?_) (ih (a + 1) (by omega) (by
    rw [List.take_add_one, hx]
    simp only [Option.toList_some, List.mem_append, List.mem_singleton, not_or]
    exact ⟨hno, fun e => he e.symm⟩))
   conv => lhs; unfold spec_l1Names.l2
   rw [if_pos (by omega), if_pos (by omega), if_pos (by omega), if_pos (by omega), if_pos (by omega), zca hi, if_pos (by omega), hrd, bt_get hv, if_neg he, zbr (by omega)]
theorem names_l1 (p : List ByteArray) (i : Nat) (s : ByteArray) (hi : p[i]? = some s) (hib : i ≤ 1048576) (hs : s.size ≤ 1048576) (L : List Int) (hL : L.length ≤ 100) (x4 : List ByteArray) (h4 : x4.length ≤ 1048576) (r : List ByteArray) :
  ∀ m j o x6, j + m = s.size → x6.length = j → ordL ((bytesOf s).drop j) o <+: L → Evs (fun k => spec_l1Names.l0 k p (ordL ((bytesOf s).drop j) o) (x4 ++ [strOfNums (x6 ++ ((bytesOf s).drop j).map (numOf L))]) ((i + 1 : Nat) : Int)) r →
   Evs (fun k => spec_l1Names.l1 k p o x4 (i : Int) x6 (j : Int)) r := by
 have hil := (List.getElem?_eq_some_iff.1 hi).1
 have hlen := zbf s
 intro m
 induction m with
 | zero =>
  intro j o x6 hj h6 hpre hnext
  rw [List.drop_eq_nil_of_le (by omega)] at hnext
  simp only [List.map_nil, List.append_nil] at hnext
  refine Evs.step (h := fun k => spec_l1Names.l0 k p o (x4 ++ [strOfNums x6]) ((i + 1 : Nat) : Int)) (fun k => ?_) hnext
  conv => lhs; unfold spec_l1Names.l1
  rw [if_pos (by omega), if_pos (by omega), zca hi, if_neg (by omega), if_pos (by omega), zbr hib]
 | succ m ih =>
  intro j o x6 hj h6 hpre hnext
  obtain ⟨v, hv⟩ : ∃ v, (bytesOf s)[j]? = some v := ⟨_, List.getElem?_eq_getElem (by omega)⟩
  have hdrop : (bytesOf s).drop j = v :: (bytesOf s).drop (j + 1) := by
   rw [List.drop_eq_getElem_cons (by omega)]
   congr 1
   rw [List.getElem?_eq_getElem (by omega)] at hv
   exact Option.some.inj hv
  rw [hdrop] at hpre hnext
  have hpre2 : ordL ((bytesOf s).drop (j + 1)) (pushL o v) <+: L := hpre
  have hpl := (ordL_prefix ((bytesOf s).drop (j + 1)) (pushL o v)).trans hpre2
  have hol := ((pushL_prefix o v).trans hpl).length_le
  have hidx := idxOf_push hpl
  refine Evs.step (h := fun k => spec_l1Names.l2 k p o x4 (i : Int) x6 (j : Int) ((0 : Nat) : Int)) (fun k => ?_) (names_l2 p i j s v hi hv o x4 x6 (by omega) (by omega) (by omega) r (ih (j + 1) (pushL o v) _ (by omega) (by simp [h6]) hpre2 ?_) o.length 0 (by omega) (by simp))
  ·conv => lhs; unfold spec_l1Names.l1
   rw [if_pos (by omega), if_pos (by omega), zca hi, if_pos (by omega)]
   rfl
  ·rw [List.append_assoc]
   simp only [yca] at hnext
   unfold numOf at hnext ⊢
   rw [hidx] at hnext
   exact hnext
theorem names_l0 (p : List ByteArray) (hp : smallP p) (L : List Int) (hL : L.length ≤ 100) : ∀ m i o x4, i + m = p.length → x4.length = i → ordL ((zak p).drop i).flatten o = L →
  Evs (fun k => spec_l1Names.l0 k p o x4 (i : Int)) (x4 ++ (p.drop i).map fun s => strOfNums ((bytesOf s).map (numOf L))) := by
 have hpl := hp.1
 intro m
 induction m with
 | zero =>
  intro i o x4 hi h4 ho
  rw [List.drop_eq_nil_of_le (by omega), List.map_nil, List.append_nil]
  refine Evs.step (h := fun _ => some x4) (fun k => ?_) (Evs.const _)
  conv => lhs; unfold spec_l1Names.l0
  rw [if_neg (by omega)]
 | succ m ih =>
  intro i o x4 hi h4 ho
  obtain ⟨s, hs⟩ : ∃ s, p[i]? = some s := ⟨_, List.getElem?_eq_getElem (by omega)⟩
  have hsz := hp.2 s (List.mem_of_getElem? hs)
  have hdrop : p.drop i = s :: p.drop (i + 1) := by
   rw [List.drop_eq_getElem_cons (by omega)]
   congr 1
   rw [List.getElem?_eq_getElem (by omega)] at hs
   exact Option.some.inj hs
  have hdrop2 : (zak p).drop i = bytesOf s :: (zak p).drop (i + 1) := by
   unfold zak
   rw [← List.map_drop, hdrop, yca, List.map_drop]
  rw [hdrop2, List.flatten_cons, zck] at ho
  have hpre : ordL (bytesOf s) o <+: L := by rw [← ho]; exact ordL_prefix _ _
  rw [hdrop, yca]
  have hnext := ih (i + 1) (ordL (bytesOf s) o) (x4 ++ [strOfNums ((bytesOf s).map (numOf L))]) (by omega) (by simp [h4]) ho
  rw [List.append_assoc] at hnext
  refine Evs.step (h := fun k => spec_l1Names.l1 k p o x4 (i : Int) [] ((0 : Nat) : Int)) (fun k => ?_) (names_l1 p i s hs (by omega) hsz L hL x4 (by omega) _ s.size 0 o [] (by omega) rfl hpre hnext)
  conv => lhs; unfold spec_l1Names.l0
  rw [if_pos (by omega)]
  rfl
theorem strOfNums_row (L : List Int) (row : List Int) : strOfNums (row.map (numOf L)) = rowText (row.map fun x => (L.idxOf x : Int)) := by
 unfold strOfNums rowText rowBytes
 congr 2
 rw [List.map_map, List.map_map]
 rfl
theorem l1Names_ev (p : List ByteArray) (hp : smallP p) (hL : (zbl (zak p)).length ≤ 100) : Evs (fun k => spec_l1Names.f k p) (namesOf p) := by
 have := names_l0 p hp (zbl (zak p)) hL p.length 0 [] [] (by omega) rfl rfl
 rw [List.nil_append, List.drop_zero] at this
 have e : namesOf p = p.map fun s => strOfNums ((bytesOf s).map (numOf (zbl (zak p)))) := by
  unfold namesOf zbq canon canonL
  generalize zbl (zak p) = L
  unfold zak
  rw [List.map_map, List.map_map]
  congr 1
  funext s
  exact (strOfNums_row L (bytesOf s)).symm
 rw [e]
 exact this
theorem flatten_length_le (rows : List (List Int)) (w : Nat) (h : ∀ r ∈ rows, r.length = w) : rows.flatten.length = rows.length * w := by
 induction rows with
 | nil => simp
 | cons a r ih =>
  rw [List.flatten_cons, List.length_append, ih (fun x hx => h x (List.mem_cons_of_mem _ hx)), h a List.mem_cons_self, List.length_cons, Nat.succ_mul]
  omega
theorem shape_order {rows : List (List Int)} (h : zbo rows = true) : (zbl rows).length ≤ 36 := by
 obtain ⟨h1, h2, h3, h4, h5⟩ := (zbx _).1 h
 have := ordL_length rows.flatten []
 rw [flatten_length_le rows _ h5] at this
 have h6 := Nat.mul_le_mul h2 h4
 unfold zbl
 simp at this
 omega
theorem nodup_inj {l : List Int} (h : l.Nodup) {i j : Nat} (hi : i < l.length) (hj : j < l.length) (e : l[i] = l[j]) : i = j := by
 have hp := List.pairwise_iff_getElem.1 h
 rcases Nat.lt_trichotomy i j with h1 | h1 | h1
 ·exact absurd e (hp i j hi hj h1)
 ·exact h1
 ·exact absurd e.symm (hp j i hj hi h1)
def Rect (wi : Nat) (rows : List (List Int)) : Prop := ∀ r ∈ rows, r.length = wi
theorem valAt_get {rows : List (List Int)} {wi r c : Nat} (h : Rect wi rows) (hr : r < rows.length) (hc : c < wi) : ∃ row, rows[r]? = some row ∧ row[c]? = some (zbe rows r c) := by
 refine ⟨rows[r], List.getElem?_eq_getElem hr, ?_⟩
 have hw := h _ (List.getElem_mem hr)
 unfold zbe
 rw [ycb, ycb, List.getElem?_eq_getElem hr]
 simp only [Option.getD_some]
 rw [List.getElem?_eq_getElem (by omega)]
 rfl
theorem gridOf_get {hi wi : Nat} {g : Nat → Nat → Int} {r : Nat} (hr : r < hi) : (zbc hi wi g)[r]? = some ((List.range wi).map (g r)) := by
 unfold zbc
 rw [List.getElem?_map, List.getElem?_range hr]
 rfl
theorem valAt_gridOf {hi wi : Nat} {g : Nat → Nat → Int} {r c : Nat} (hr : r < hi) (hc : c < wi) : zbe (zbc hi wi g) r c = g r c := by
 unfold zbe
 rw [ycb, ycb, gridOf_get hr]
 simp only [Option.getD_some]
 rw [List.getElem?_map, List.getElem?_range hc]
 rfl
theorem gridOf_rect (hi wi : Nat) (g : Nat → Nat → Int) : Rect wi (zbc hi wi g) := fun r hr => gridOf_row r hr
theorem gridOf_congr {hi wi : Nat} {g g' : Nat → Nat → Int} (h : ∀ r c, r < hi → c < wi → g r c = g' r c) : zbc hi wi g = zbc hi wi g' := by
 unfold zbc
 apply List.map_congr_left
 intro r hr
 apply List.map_congr_left
 intro c hc
 exact h r c (List.mem_range.1 hr) (List.mem_range.1 hc)
theorem rect_map {rows : List (List Int)} {wi : Nat} (h : Rect wi rows) (f : Int → Int) : rows.map (fun r => r.map f) = zbc rows.length wi (fun r c => f (zbe rows r c)) := by
 apply List.ext_getElem?
 intro r
 by_cases hr : r < rows.length
 ·rw [gridOf_get hr, List.getElem?_map, List.getElem?_eq_getElem hr]
  simp only [Option.map_some]
  congr 1
  have hw := h _ (List.getElem_mem hr)
  apply List.ext_getElem?
  intro c
  rw [List.getElem?_map, List.getElem?_map]
  by_cases hc : c < wi
  ·obtain ⟨row, h1, h2⟩ := valAt_get h hr hc
   rw [List.getElem?_eq_getElem hr] at h1
   injection h1 with h1
   rw [h1, h2, List.getElem?_range hc]
   rfl
  ·rw [List.getElem?_eq_none (by omega), List.getElem?_eq_none (by simp; omega)]
   rfl
 ·rw [List.getElem?_eq_none (by simp; omega), List.getElem?_eq_none (by rw [zbk]; omega)]
theorem rect_eq {rows : List (List Int)} {wi : Nat} (h : Rect wi rows) : rows = zbc rows.length wi (zbe rows) := by
 have := rect_map h id
 simpa using this
theorem flatten_get {wi : Nat} : ∀ (rows : List (List Int)), Rect wi rows → ∀ n, n < rows.length * wi → rows.flatten[n]? = some (zbe rows (n / wi) (n % wi))
 | [], _, n, h => by simp at h
 | a :: r, hR, n, h => by
  have hwi : 0 < wi := by
   rcases Nat.eq_zero_or_pos wi with h0 | h0
   ·subst h0; simp at h
   ·exact h0
  have ha := hR a List.mem_cons_self
  rw [List.flatten_cons]
  by_cases hn : n < wi
  ·rw [List.getElem?_append_left (by omega), Nat.div_eq_of_lt hn, Nat.mod_eq_of_lt hn]
   unfold zbe
   simp only [List.getD_cons_zero]
   rw [ycb, List.getElem?_eq_getElem (by omega)]
   rfl
  ·rw [List.getElem?_append_right (by omega), ha, flatten_get r (fun x hx => hR x (List.mem_cons_of_mem _ hx)) (n - wi) (by
    rw [List.length_cons, Nat.succ_mul] at h
    omega)]
   congr 1
   obtain ⟨m, rfl⟩ : ∃ m, n = m + wi := ⟨n - wi, by omega⟩
   rw [Nat.add_sub_cancel, Nat.add_div_right _ hwi, Nat.add_mod_right]
   unfold zbe
   simp only [List.getD_cons_succ]
theorem stAt_ord {rows : List (List Int)} {wi : Nat} (h : Rect wi rows) : ∀ n, n ≤ rows.length * wi → (stAt rows wi n).1 = ordL (rows.flatten.take n) []
 | 0, _ => by simp [stAt, ordL]
 | n + 1, hn => by
  rw [List.take_add_one, flatten_get rows h n (by omega)]
  simp only [Option.toList_some]
  rw [zck, ← stAt_ord h n (by omega)]
  show (stepS (stAt rows wi n) (n / wi) (n % wi) (zbe rows (n / wi) (n % wi))).1 = pushL (stAt rows wi n).1 (zbe rows (n / wi) (n % wi))
  unfold stepS pushL
  split <;> rfl
theorem stAt_all {rows : List (List Int)} {wi : Nat} (h : Rect wi rows) : (stAt rows wi (rows.length * wi)).1 = zbl rows := by
 rw [stAt_ord h _ (ycd _), List.take_of_length_le (by rw [flatten_length_le rows wi h]; exact ycd _)]
 rfl
theorem numAt_idx {rows : List (List Int)} {wi r c : Nat} (h : Rect wi rows) (hr : r < rows.length) (hc : c < wi) : numAt rows wi r c = ((zbl rows).idxOf (zbe rows r c) : Int) := by
 unfold numAt
 have hle : r * wi + c + 1 ≤ rows.length * wi := by
  have : (r + 1) * wi ≤ rows.length * wi := Nat.mul_le_mul_right _ hr
  rw [Nat.succ_mul] at this
  omega
 have hp := stAt_prefix rows wi (r * wi + c + 1) (rows.length * wi - (r * wi + c + 1))
 rw [show r * wi + c + 1 + (rows.length * wi - (r * wi + c + 1)) = rows.length * wi by omega, stAt_all h] at hp
 rw [idxOf_prefix hp (stAt_mem rows wi r c hc)]
theorem zch {rows : List (List Int)} (h : zbo rows = true) : Rect (zaj rows) rows := ((zbx _).1 h).2.2.2.2
theorem canon_grid {rows : List (List Int)} {wi : Nat} (h : Rect wi rows) : canon rows = zbc rows.length wi (fun r c => ((zbl rows).idxOf (zbe rows r c) : Int)) := rect_map h _
theorem cellsOf_canon {rows : List (List Int)} (h : zbo rows = true) : cellsOf rows = canon rows := by
 rw [canon_grid (zch h)]
 exact gridOf_congr fun r c hr hc => numAt_idx (zch h) hr hc
structure BoxN (rows : List (List Int)) (wi n : Nat) (x : Int) (b : Rc) : Prop where
 ins : ∀ m, m < n → zbe rows (m / wi) (m % wi) = x → b.f0 ≤ (m / wi : Nat) ∧ ((m / wi : Nat) : Int) < b.f0 + b.f2 ∧ b.f1 ≤ (m % wi : Nat) ∧ ((m % wi : Nat) : Int) < b.f1 + b.f3
 top : ∃ m, m < n ∧ zbe rows (m / wi) (m % wi) = x ∧ ((m / wi : Nat) : Int) = b.f0
 low : ∃ m, m < n ∧ zbe rows (m / wi) (m % wi) = x ∧ ((m / wi : Nat) : Int) + 1 = b.f0 + b.f2
 left : ∃ m, m < n ∧ zbe rows (m / wi) (m % wi) = x ∧ ((m % wi : Nat) : Int) = b.f1
 right : ∃ m, m < n ∧ zbe rows (m / wi) (m % wi) = x ∧ ((m % wi : Nat) : Int) + 1 = b.f1 + b.f3
theorem BoxN.keep {rows : List (List Int)} {wi n : Nat} {x : Int} {b : Rc} (h : BoxN rows wi n x b) (hx : zbe rows (n / wi) (n % wi) ≠ x) : BoxN rows wi (n + 1) x b := by
 refine ⟨fun m hm hv => ?_, ?_, ?_, ?_, ?_⟩
 ·rcases Nat.lt_or_eq_of_le (Nat.lt_succ_iff.1 hm) with h1 | h1
  ·exact h.ins m h1 hv
  ·subst h1; exact absurd hv hx
 ·obtain ⟨m, h1, h2⟩ := h.top; exact ⟨m, by omega, h2⟩
 ·obtain ⟨m, h1, h2⟩ := h.low; exact ⟨m, by omega, h2⟩
 ·obtain ⟨m, h1, h2⟩ := h.left; exact ⟨m, by omega, h2⟩
 ·obtain ⟨m, h1, h2⟩ := h.right; exact ⟨m, by omega, h2⟩
theorem BoxN.both {rows : List (List Int)} {wi n : Nat} {x : Int} {b : Rc} (h : BoxN rows wi n x b) (hx : zbe rows (n / wi) (n % wi) = x) : BoxN rows wi (n + 1) x (bothR b (oneR (n / wi) (n % wi))) := by
 refine ⟨fun m hm hv => ?_, ?_, ?_, ?_, ?_⟩
 ·simp only [bothR, oneR]
  rcases Nat.lt_or_eq_of_le (Nat.lt_succ_iff.1 hm) with h1 | h1
  ·have := h.ins m h1 hv
   omega
  ·subst h1; omega
 ·obtain ⟨m, h1, h2, h3⟩ := h.top
  simp only [bothR, oneR]
  by_cases hc : b.f0 ≤ ((n / wi : Nat) : Int)
  ·exact ⟨m, by omega, h2, by omega⟩
  ·exact ⟨n, by omega, hx, by omega⟩
 ·obtain ⟨m, h1, h2, h3⟩ := h.low
  simp only [bothR, oneR]
  by_cases hc : ((n / wi : Nat) : Int) + 1 ≤ b.f0 + b.f2
  ·exact ⟨m, by omega, h2, by omega⟩
  ·exact ⟨n, by omega, hx, by omega⟩
 ·obtain ⟨m, h1, h2, h3⟩ := h.left
  simp only [bothR, oneR]
  by_cases hc : b.f1 ≤ ((n % wi : Nat) : Int)
  ·exact ⟨m, by omega, h2, by omega⟩
  ·exact ⟨n, by omega, hx, by omega⟩
 ·obtain ⟨m, h1, h2, h3⟩ := h.right
  simp only [bothR, oneR]
  by_cases hc : ((n % wi : Nat) : Int) + 1 ≤ b.f1 + b.f3
  ·exact ⟨m, by omega, h2, by omega⟩
  ·exact ⟨n, by omega, hx, by omega⟩
theorem BoxN.fresh {rows : List (List Int)} {wi n : Nat} {x : Int} (h : ∀ m, m < n → zbe rows (m / wi) (m % wi) ≠ x) (hx : zbe rows (n / wi) (n % wi) = x) : BoxN rows wi (n + 1) x (bothR (oneR (n / wi) (n % wi)) (oneR (n / wi) (n % wi))) := by
 refine ⟨fun m hm hv => ?_, ⟨n, by omega, hx, ?_⟩, ⟨n, by omega, hx, ?_⟩, ⟨n, by omega, hx, ?_⟩, ⟨n, by omega, hx, ?_⟩⟩
 ·simp only [bothR, oneR]
  rcases Nat.lt_or_eq_of_le (Nat.lt_succ_iff.1 hm) with h1 | h1
  ·exact absurd hv (h m h1)
  ·subst h1; omega
 all_goals
  simp only [bothR, oneR]
  omega
theorem stAt_seen (rows : List (List Int)) (wi : Nat) : ∀ n m, m < n → zbe rows (m / wi) (m % wi) ∈ (stAt rows wi n).1
 | 0, m, h => by omega
 | n + 1, m, h => by
  rcases Nat.lt_or_eq_of_le (Nat.lt_succ_iff.1 h) with h1 | h1
  ·exact (stepS_prefix (stAt rows wi n) (n / wi) (n % wi) _).subset (stAt_seen rows wi n m h1)
  ·subst h1
   exact stepS_mem (stAt rows wi m) _ _ _
theorem stAt_len (rows : List (List Int)) (wi : Nat) : ∀ n, (stAt rows wi n).1.length = (stAt rows wi n).2.length ∧ (stAt rows wi n).1.Nodup
 | 0 => by simp [stAt]
 | n + 1 => by
  obtain ⟨h1, h2⟩ := stAt_len rows wi n
  simp only [stAt, stepS]
  split
  ·exact ⟨by simpa using h1, h2⟩
  ·rename_i hx
   refine ⟨by simp [h1], ?_⟩
   rw [List.nodup_append]
   exact ⟨h2, by simp, fun a ha b hb => by simp at hb; subst hb; exact fun e => hx (e ▸ ha)⟩
theorem stAt_box (rows : List (List Int)) (wi : Nat) : ∀ (n i : Nat) (x : Int) (b : Rc), (stAt rows wi n).1[i]? = some x → (stAt rows wi n).2[i]? = some b → BoxN rows wi n x b
 | 0, i, x, b, h, _ => by simp [stAt] at h
 | n + 1, i, x, b, h1, h2 => by
  obtain ⟨hlen, hnd⟩ := stAt_len rows wi n
  simp only [stAt] at h1 h2
  generalize hv : zbe rows (n / wi) (n % wi) = v at h1 h2
  by_cases hmem : v ∈ (stAt rows wi n).1
  ·rw [stepS, if_pos hmem] at h1 h2
   simp only at h1 h2
   have hk := List.idxOf_lt_length_of_mem hmem
   by_cases hik : (stAt rows wi n).1.idxOf v = i
   ·have hxv : x = v := by
     rw [← hik, List.getElem?_eq_getElem hk, List.getElem_idxOf] at h1
     exact (Option.some.inj h1).symm
    subst hxv
    rw [hik, List.getElem?_set_self (by omega)] at h2
    have h2' := Option.some.inj h2
    rw [← h2']
    refine BoxN.both ?_ hv
    refine stAt_box rows wi n i x _ h1 ?_
    rw [ycb, List.getElem?_eq_getElem (by omega)]
    rfl
   ·rw [List.getElem?_set_ne (fun e => hik e)] at h2
    refine (stAt_box rows wi n i x b h1 h2).keep ?_
    rw [hv]
    rintro rfl
    refine hik ?_
    have hil := (List.getElem?_eq_some_iff.1 h1).1
    have e1 : (stAt rows wi n).1[i] = v := by
     rw [List.getElem?_eq_getElem hil] at h1
     exact Option.some.inj h1
    have e2 : (stAt rows wi n).1[(stAt rows wi n).1.idxOf v] = v := List.getElem_idxOf hk
    exact nodup_inj hnd hk hil (e2.trans e1.symm)
  ·rw [stepS, if_neg hmem] at h1 h2
   simp only at h1 h2
   by_cases hi : i < (stAt rows wi n).1.length
   ·rw [List.getElem?_append_left hi] at h1
    rw [List.getElem?_append_left (by omega)] at h2
    refine (stAt_box rows wi n i x b h1 h2).keep ?_
    rw [hv]
    rintro rfl
    exact hmem (List.mem_of_getElem? h1)
   ·have hil := (List.getElem?_eq_some_iff.1 h1).1
    simp at hil
    obtain rfl : i = (stAt rows wi n).1.length := by omega
    rw [List.getElem?_concat_length] at h1
    rw [hlen, List.getElem?_concat_length] at h2
    have e1 := Option.some.inj h1
    have e2 := Option.some.inj h2
    subst e1 e2
    exact BoxN.fresh (fun m hm e => hmem (by rw [← e]; exact stAt_seen rows wi n m hm)) hv
def zcr (rows : List (List Int)) (wi m : Nat) : Int := zbe rows (m / wi) (m % wi) - 97
def zci (rows : List (List Int)) (wi : Nat) (x : Int) : Nat → Int
 | 0 => 0
 | n + 1 => if zcr rows wi n = x then zci rows wi x n + 1 else zci rows wi x n
def maxN (rows : List (List Int)) (wi : Nat) : Nat → Int
 | 0 => 0
 | n + 1 => max (maxN rows wi n) (zcr rows wi n + 1)
def roomN (rows : List (List Int)) (wi : Nat) (x : Int) (t l : Int) : Nat → Int × Int × Int × Int
 | 0 => (t, l, -1, -1)
 | n + 1 => if zcr rows wi n = x then (min (roomN rows wi x t l n).1 (n / wi : Nat), min (roomN rows wi x t l n).2.1 (n % wi : Nat), max (roomN rows wi x t l n).2.2.1 (n / wi : Nat), max (roomN rows wi x t l n).2.2.2 (n % wi : Nat)) else roomN rows wi x t l n
structure Small (p : List ByteArray) (wi : Nat) : Prop where
 high : p.length ≤ 6
 wide : wi ≤ 6
 row : ∀ s ∈ p, s.size = wi
theorem gridOk_small {p : List ByteArray} (h : gridOk p = true) : Small p (zaj (zak p)) := by
 unfold gridOk at h
 rw [Bool.and_eq_true] at h
 obtain ⟨h1, h2, h3, h4, h5⟩ := (zbx _).1 h.1
 have hl : (zak p).length = p.length := by simp [zak]
 exact ⟨by omega, h4, fun s hs => by
  have := h5 (bytesOf s) (by unfold zak; simp; exact ⟨s, hs, rfl⟩)
  rw [zbf] at this
  exact this⟩
theorem Small.rect {p : List ByteArray} {wi : Nat} (h : Small p wi) : Rect wi (zak p) := by
 intro r hr
 unfold zak at hr
 simp at hr
 obtain ⟨s, hs, rfl⟩ := hr
 rw [zbf]
 exact h.row s hs
theorem Small.at {p : List ByteArray} {wi : Nat} (h : Small p wi) {i j : Nat} (hi : i < p.length) (hj : j < wi) : ∃ s, p[i]? = some s ∧ s.size = wi ∧ bt s (j : Int) = zcr (zak p) wi (i * wi + j) + 97 ∧ 0 ≤ bt s (j : Int) ∧ bt s (j : Int) ≤ 255 := by
 obtain ⟨s, hs⟩ : ∃ s, p[i]? = some s := ⟨_, List.getElem?_eq_getElem hi⟩
 have hsz := h.row s (List.mem_of_getElem? hs)
 obtain ⟨x, hx⟩ : ∃ x, (bytesOf s)[j]? = some x := ⟨_, List.getElem?_eq_getElem (by rw [zbf]; omega)⟩
 have hv : zbe (zak p) i j = x := by
  unfold zbe zak
  rw [ycb, ycb, List.getElem?_map, hs]
  simp only [Option.map_some, Option.getD_some]
  rw [hx]
  rfl
 have hr := bytesOf_range s x (List.mem_of_getElem? hx)
 obtain ⟨d1, d2⟩ := divmod_of (r := i) hj
 refine ⟨s, hs, hsz, ?_, ?_, ?_⟩
 ·rw [bt_get hx]; unfold zcr; rw [d1, d2, hv]; omega
 ·rw [bt_get hx]; exact hr.1
 ·rw [bt_get hx]; exact hr.2
theorem Small.row_at {p : List ByteArray} {wi : Nat} (h : Small p wi) {i : Nat} (hi : i < p.length) : ∃ s, p[i]? = some s ∧ s.size = wi := by
 obtain ⟨s, hs⟩ : ∃ s, p[i]? = some s := ⟨_, List.getElem?_eq_getElem hi⟩
 exact ⟨s, hs, h.row s (List.mem_of_getElem? hs)⟩
theorem countN_le (rows : List (List Int)) (wi : Nat) (x : Int) : ∀ n, 0 ≤ zci rows wi x n ∧ zci rows wi x n ≤ n
 | 0 => by simp [zci]
 | n + 1 => by
  have := countN_le rows wi x n
  simp only [zci]
  split <;> omega
theorem cells_l1 (p : List ByteArray) (wi : Nat) (h : Small p wi) (x : Int) (i : Nat) (hi : i < p.length) (r : Int) (hnext : Evs (fun k => spec_l1Cells.l0 k p x (zci (zak p) wi x ((i + 1) * wi)) ((i + 1 : Nat) : Int)) r) :
  ∀ m j, j + m = wi → Evs (fun k => spec_l1Cells.l1 k p x (zci (zak p) wi x (i * wi + j)) (i : Int) (j : Int)) r := by
 have h6 := h.high
 have w6 := h.wide
 intro m
 induction m with
 | zero =>
  intro j hj
  obtain ⟨s, hs, hsz⟩ := h.row_at hi
  rw [show i * wi + j = (i + 1) * wi by rw [Nat.succ_mul]; omega]
  refine Evs.step (h := fun k => spec_l1Cells.l0 k p x (zci (zak p) wi x ((i + 1) * wi)) ((i + 1 : Nat) : Int)) (fun k => ?_) hnext
  conv => lhs; unfold spec_l1Cells.l1
  rw [if_pos (by omega), if_pos (by omega), zca hs, if_neg (by omega), zbr (by omega)]
 | succ m ih =>
  intro j hj
  obtain ⟨s, hs, hsz, hb, hb0, hb1⟩ := h.at hi (show j < wi by omega)
  have hc := countN_le (zak p) wi x (i * wi + j)
  have hle : i * wi + j ≤ 36 + 6 := by
   have := Nat.mul_le_mul (show i ≤ 6 by omega) w6
   omega
  have hnx := ih (j + 1) (by omega)
  have hsucc : zci (zak p) wi x (i * wi + (j + 1)) = if zcr (zak p) wi (i * wi + j) = x then zci (zak p) wi x (i * wi + j) + 1 else zci (zak p) wi x (i * wi + j) := rfl
  rw [hsucc] at hnx
  refine Evs.step (h := fun k => spec_l1Cells.l1 k p x (if zcr (zak p) wi (i * wi + j) = x then zci (zak p) wi x (i * wi + j) + 1 else zci (zak p) wi x (i * wi + j)) (i : Int) ((j + 1 : Nat) : Int)) (fun k => ?_) hnx
  conv => lhs; unfold spec_l1Cells.l1
  rw [if_pos (by omega), if_pos (by omega), zca hs, if_pos (by omega), if_pos (by omega), zas (x := bt s (j : Int)) (by omega) (by omega), zas (x := bt s (j : Int) - 97) (by omega) (by omega), show bt s (j : Int) - 97 = zcr (zak p) wi (i * wi + j) by omega, zbr (by omega)]
  by_cases hx : zcr (zak p) wi (i * wi + j) = x
  ·rw [if_pos hx, if_pos hx, zas (by omega) (by omega)]
  ·rw [if_neg hx, if_neg hx]
theorem cells_l0 (p : List ByteArray) (wi : Nat) (h : Small p wi) (x : Int) : ∀ m i, i + m = p.length → Evs (fun k => spec_l1Cells.l0 k p x (zci (zak p) wi x (i * wi)) (i : Int)) (zci (zak p) wi x (p.length * wi)) := by
 have h6 := h.high
 intro m
 induction m with
 | zero =>
  intro i hi
  obtain rfl : i = p.length := by omega
  refine Evs.step (h := fun _ => some (zci (zak p) wi x (p.length * wi))) (fun k => ?_) (Evs.const _)
  conv => lhs; unfold spec_l1Cells.l0
  rw [if_neg (by omega)]
 | succ m ih =>
  intro i hi
  refine Evs.step (h := fun k => spec_l1Cells.l1 k p x (zci (zak p) wi x (i * wi)) (i : Int) ((0 : Nat) : Int)) (fun k => ?_) (cells_l1 p wi h x i (by omega) _ (ih (i + 1) (by omega)) wi 0 (by omega))
  conv => lhs; unfold spec_l1Cells.l0
  rw [if_pos (by omega)]
  rfl
theorem l1Cells_ev (p : List ByteArray) (wi : Nat) (h : Small p wi) (x : Int) : Evs (fun k => spec_l1Cells.f k p x) (zci (zak p) wi x (p.length * wi)) := by
 have := cells_l0 p wi h x p.length 0 (by omega)
 show Evs (fun k => spec_l1Cells.l0 k p x 0 0) _
 simpa [zci] using this
theorem mx_max (a b : Int) : mx a b = max a b := by unfold mx; omega
theorem mn_min (a b : Int) : mn a b = min a b := by unfold mn; omega
theorem rooms_l1 (p : List ByteArray) (wi : Nat) (h : Small p wi) (i : Nat) (hi : i < p.length) (r : Int) (hnext : Evs (fun k => spec_l1Rooms.l0 k p (maxN (zak p) wi ((i + 1) * wi)) ((i + 1 : Nat) : Int)) r) :
  ∀ m j, j + m = wi → Evs (fun k => spec_l1Rooms.l1 k p (maxN (zak p) wi (i * wi + j)) (i : Int) (j : Int)) r := by
 have h6 := h.high
 have w6 := h.wide
 intro m
 induction m with
 | zero =>
  intro j hj
  obtain ⟨s, hs, hsz⟩ := h.row_at hi
  rw [show i * wi + j = (i + 1) * wi by rw [Nat.succ_mul]; omega]
  refine Evs.step (h := fun k => spec_l1Rooms.l0 k p (maxN (zak p) wi ((i + 1) * wi)) ((i + 1 : Nat) : Int)) (fun k => ?_) hnext
  conv => lhs; unfold spec_l1Rooms.l1
  rw [if_pos (by omega), if_pos (by omega), zca hs, if_neg (by omega), zbr (by omega)]
 | succ m ih =>
  intro j hj
  obtain ⟨s, hs, hsz, hb, hb0, hb1⟩ := h.at hi (show j < wi by omega)
  refine Evs.step (h := fun k => spec_l1Rooms.l1 k p (maxN (zak p) wi (i * wi + (j + 1))) (i : Int) ((j + 1 : Nat) : Int)) (fun k => ?_) (ih (j + 1) (by omega))
  conv => lhs; unfold spec_l1Rooms.l1
  rw [if_pos (by omega), if_pos (by omega), zca hs, if_pos (by omega), if_pos (by omega), zas (x := bt s (j : Int)) (by omega) (by omega), zas (x := bt s (j : Int) - 97) (by omega) (by omega), zas (x := bt s (j : Int) - 97 + 1) (by omega) (by omega), show bt s (j : Int) - 97 = zcr (zak p) wi (i * wi + j) by omega, zbr (by omega), mx_max]
  rfl
theorem rooms_l0 (p : List ByteArray) (wi : Nat) (h : Small p wi) : ∀ m i, i + m = p.length → Evs (fun k => spec_l1Rooms.l0 k p (maxN (zak p) wi (i * wi)) (i : Int)) (maxN (zak p) wi (p.length * wi)) := by
 have h6 := h.high
 intro m
 induction m with
 | zero =>
  intro i hi
  obtain rfl : i = p.length := by omega
  refine Evs.step (h := fun _ => some (maxN (zak p) wi (p.length * wi))) (fun k => ?_) (Evs.const _)
  conv => lhs; unfold spec_l1Rooms.l0
  rw [if_neg (by omega)]
 | succ m ih =>
  intro i hi
  refine Evs.step (h := fun k => spec_l1Rooms.l1 k p (maxN (zak p) wi (i * wi)) (i : Int) ((0 : Nat) : Int)) (fun k => ?_) (rooms_l1 p wi h i (by omega) _ (ih (i + 1) (by omega)) wi 0 (by omega))
  conv => lhs; unfold spec_l1Rooms.l0
  rw [if_pos (by omega)]
  rfl
theorem l1Rooms_ev (p : List ByteArray) (wi : Nat) (h : Small p wi) : Evs (fun k => spec_l1Rooms.f k p) (maxN (zak p) wi (p.length * wi)) := by
 have := rooms_l0 p wi h p.length 0 (by omega)
 show Evs (fun k => spec_l1Rooms.l0 k p 0 0) _
 simpa [maxN] using this
def roomOut (q : Int × Int × Int × Int) : Int × Int × Int × Int := (q.1, q.2.1, q.2.2.1 - q.1 + 1, q.2.2.2 - q.2.1 + 1)
theorem roomN_le {p : List ByteArray} {wi : Nat} (h : Small p wi) (x t l : Int) (ht : 0 ≤ t) (ht2 : t ≤ 6) (hl : 0 ≤ l) (hl2 : l ≤ 6) : ∀ n, n ≤ p.length * wi → let q := roomN (zak p) wi x t l n; 0 ≤ q.1 ∧ q.1 ≤ 6 ∧ 0 ≤ q.2.1 ∧ q.2.1 ≤ 6 ∧ -1 ≤ q.2.2.1 ∧ q.2.2.1 ≤ 6 ∧ -1 ≤ q.2.2.2 ∧ q.2.2.2 ≤ 6
 | 0, _ => by simp only [roomN]; omega
 | n + 1, hn => by
  have ih := roomN_le h x t l ht ht2 hl hl2 n (by omega)
  have hwi : 0 < wi := by
   rcases Nat.eq_zero_or_pos wi with h0 | h0
   ·subst h0; simp at hn
   ·exact h0
  have h1 : n / wi < p.length := by rw [Nat.div_lt_iff_lt_mul hwi]; omega
  have h2 : n % wi < wi := Nat.mod_lt _ hwi
  have h3 := h.high
  have h4 := h.wide
  simp only [roomN] at ih ⊢
  generalize n / wi = a at *
  generalize n % wi = b at *
  split
  ·dsimp only
   omega
  ·exact ih
theorem room_l1 (p : List ByteArray) (wi : Nat) (h : Small p wi) (x t l : Int) (ht : 0 ≤ t) (ht2 : t ≤ 6) (hl : 0 ≤ l) (hl2 : l ≤ 6) (i : Nat) (hi : i < p.length) (r : Int × Int × Int × Int) (hnext : let q := roomN (zak p) wi x t l ((i + 1) * wi); Evs (fun k => spec_l1Room.l0 k p x q.1 q.2.1 q.2.2.1 q.2.2.2 ((i + 1 : Nat) : Int)) r) :
  ∀ m j, j + m = wi → let q := roomN (zak p) wi x t l (i * wi + j); Evs (fun k => spec_l1Room.l1 k p x q.1 q.2.1 q.2.2.1 q.2.2.2 (i : Int) (j : Int)) r := by
 have h6 := h.high
 have w6 := h.wide
 intro m
 induction m with
 | zero =>
  intro j hj
  obtain ⟨s, hs, hsz⟩ := h.row_at hi
  rw [show i * wi + j = (i + 1) * wi by rw [Nat.succ_mul]; omega]
  intro q
  refine Evs.step (h := fun k => spec_l1Room.l0 k p x q.1 q.2.1 q.2.2.1 q.2.2.2 ((i + 1 : Nat) : Int)) (fun k => ?_) hnext
  conv => lhs; unfold spec_l1Room.l1
  rw [if_pos (by omega), if_pos (by omega), zca hs, if_neg (by omega), zbr (by omega)]
 | succ m ih =>
  intro j hj q
  obtain ⟨s, hs, hsz, hb, hb0, hb1⟩ := h.at hi (show j < wi by omega)
  have hnx := ih (j + 1) (by omega)
  obtain ⟨d1, d2⟩ := divmod_of (r := i) (show j < wi by omega)
  have hsucc : roomN (zak p) wi x t l (i * wi + (j + 1)) = if zcr (zak p) wi (i * wi + j) = x then (min q.1 (i : Int), min q.2.1 (j : Int), max q.2.2.1 (i : Int), max q.2.2.2 (j : Int)) else q := by
   show roomN (zak p) wi x t l (i * wi + j + 1) = _
   simp only [roomN]
   rw [d1, d2]
  rw [hsucc] at hnx
  generalize q = q at *
  refine Evs.step (h := fun k => spec_l1Room.l1 k p x (if zcr (zak p) wi (i * wi + j) = x then (min q.1 (i : Int), min q.2.1 (j : Int), max q.2.2.1 (i : Int), max q.2.2.2 (j : Int)) else q).1 (if zcr (zak p) wi (i * wi + j) = x then (min q.1 (i : Int), min q.2.1 (j : Int), max q.2.2.1 (i : Int), max q.2.2.2 (j : Int)) else q).2.1 (if zcr (zak p) wi (i * wi + j) = x then (min q.1 (i : Int), min q.2.1 (j : Int), max q.2.2.1 (i : Int), max q.2.2.2 (j : Int)) else q).2.2.1 (if zcr (zak p) wi (i * wi + j) = x then (min q.1 (i : Int), min q.2.1 (j : Int), max q.2.2.1 (i : Int), max q.2.2.2 (j : Int)) else q).2.2.2 (i : Int) ((j + 1 : Nat) : Int)) (fun k => ?_) hnx
  conv => lhs; unfold spec_l1Room.l1
  rw [if_pos (by omega), if_pos (by omega), zca hs, if_pos (by omega), if_pos (by omega), zas (x := bt s (j : Int)) (by omega) (by omega), zas (x := bt s (j : Int) - 97) (by omega) (by omega), show bt s (j : Int) - 97 = zcr (zak p) wi (i * wi + j) by omega, zbr (by omega)]
  by_cases hx : zcr (zak p) wi (i * wi + j) = x
  ·rw [if_pos hx, if_pos hx, mn_min, mn_min, mx_max, mx_max]
  ·rw [if_neg hx, if_neg hx]
theorem room_l0 (p : List ByteArray) (wi : Nat) (h : Small p wi) (x t l : Int) (ht : 0 ≤ t) (ht2 : t ≤ 6) (hl : 0 ≤ l) (hl2 : l ≤ 6) : ∀ m i, i + m = p.length → let q := roomN (zak p) wi x t l (i * wi); Evs (fun k => spec_l1Room.l0 k p x q.1 q.2.1 q.2.2.1 q.2.2.2 (i : Int)) (roomOut (roomN (zak p) wi x t l (p.length * wi))) := by
 have h6 := h.high
 intro m
 induction m with
 | zero =>
  intro i hi q
  obtain rfl : i = p.length := by omega
  have hq := roomN_le h x t l ht ht2 hl hl2 (p.length * wi) (ycd _)
  refine Evs.step (h := fun _ => some (roomOut q)) (fun k => ?_) (Evs.const _)
  conv => lhs; unfold spec_l1Room.l0
  have hq' : 0 ≤ q.1 ∧ q.1 ≤ 6 ∧ 0 ≤ q.2.1 ∧ q.2.1 ≤ 6 ∧ -1 ≤ q.2.2.1 ∧ q.2.2.1 ≤ 6 ∧ -1 ≤ q.2.2.2 ∧ q.2.2.2 ≤ 6 := hq
  clear hq
  generalize q = q at *
  rw [if_neg (by omega), zas (x := q.2.2.1 - q.1) (by omega) (by omega), zas (x := q.2.2.1 - q.1 + 1) (by omega) (by omega), zas (x := q.2.2.2 - q.2.1) (by omega) (by omega), zas (x := q.2.2.2 - q.2.1 + 1) (by omega) (by omega)]
  rfl
 | succ m ih =>
  intro i hi q
  refine Evs.step (h := fun k => spec_l1Room.l1 k p x q.1 q.2.1 q.2.2.1 q.2.2.2 (i : Int) ((0 : Nat) : Int)) (fun k => ?_) (room_l1 p wi h x t l ht ht2 hl hl2 i (by omega) _ (ih (i + 1) (by omega)) wi 0 (by omega))
  conv => lhs; unfold spec_l1Room.l0
  rw [if_pos (by omega)]
  rfl
theorem l1Room_ev (p : List ByteArray) (wi : Nat) (h : Small p wi) (h1 : 1 ≤ p.length) (x : Int) : Evs (fun k => spec_l1Room.f k p x) (roomOut (roomN (zak p) wi x (p.length : Int) (wi : Int) (p.length * wi))) := by
 have h6 := h.high
 have w6 := h.wide
 have := room_l0 p wi h x (p.length : Int) (wi : Int) (by omega) (by omega) (by omega) (by omega) p.length 0 (by omega)
 obtain ⟨s, hs, hsz⟩ := h.row_at (i := 0) (by omega)
 refine Evs.congr (fun k => ?_) this
 unfold spec_l1Room.f
 have e := zca hs
 simp only [Int.ofNat_zero, Int.natCast_zero] at e
 rw [if_pos (by omega), e, hsz]
 simp [roomN]
theorem same_l0 (p q : List ByteArray) (hl : p.length = q.length) (hb : p.length ≤ 1048576) : ∀ m i, i + m = p.length → p.take i = q.take i → Evs (fun k => spec_l1Same.l0 k p q (i : Int)) (decide (p = q)) := by
 intro m
 induction m with
 | zero =>
  intro i hi ht
  have e : p = q := by
   rw [show i = p.length by omega, List.take_length, hl, List.take_length] at ht
   exact ht
  refine Evs.step (h := fun _ => some (decide (p = q))) (fun k => ?_) (Evs.const _)
  conv => lhs; unfold spec_l1Same.l0
  rw [if_neg (by omega), decide_eq_true e]
 | succ m ih =>
  intro i hi ht
  by_cases he : p[i] = q[i]
  ·refine Evs.step (h := fun k => spec_l1Same.l0 k p q ((i + 1 : Nat) : Int)) (fun k => ?_) (ih (i + 1) (by omega) (by
    rw [List.take_add_one, List.take_add_one, ht, List.getElem?_eq_getElem (by omega), List.getElem?_eq_getElem (by omega), he]))
   conv => lhs; unfold spec_l1Same.l0
   rw [if_pos (by omega), if_pos (by omega), if_pos (by omega), rdOf_get p i (by omega), rdOf_get q i (by omega), if_pos (toList_inj.2 he), zbr (by omega)]
  ·have hne : p ≠ q := by rintro rfl; exact he rfl
   refine Evs.step (h := fun _ => some (decide (p = q))) (fun k => ?_) (Evs.const _)
   conv => lhs; unfold spec_l1Same.l0
   rw [if_pos (by omega), if_pos (by omega), if_pos (by omega), rdOf_get p i (by omega), rdOf_get q i (by omega), if_neg (fun h => he (toList_inj.1 h)), decide_eq_false hne]
theorem l1Same_ev (p q : List ByteArray) (hb : p.length ≤ 1048576) : Evs (fun k => spec_l1Same.f k p q) (decide (p = q)) := by
 by_cases h : p.length = q.length
 ·refine Evs.congr (fun k => ?_) (same_l0 p q h hb p.length 0 (by omega) (by simp))
  unfold spec_l1Same.f
  rw [if_pos (by omega)]
  rfl
 ·have hne : p ≠ q := by rintro rfl; exact h rfl
  refine Evs.congr (h := fun _ => some (decide (p = q))) (fun k => ?_) (Evs.const _)
  unfold spec_l1Same.f
  rw [if_neg (by omega), decide_eq_false hne]
def sumI (f : Nat → Int) : Nat → Int
 | 0 => 0
 | n + 1 => sumI f n + f n
theorem sumI_add (f g : Nat → Int) : ∀ n, sumI (fun x => f x + g x) n = sumI f n + sumI g n
 | 0 => rfl
 | n + 1 => by simp only [sumI, sumI_add f g n]; omega
theorem sumI_congr {f g : Nat → Int} : ∀ n, (∀ x, x < n → f x = g x) → sumI f n = sumI g n
 | 0, _ => rfl
 | n + 1, h => by simp only [sumI]; rw [sumI_congr n (fun x hx => h x (by omega)), h n (by omega)]
theorem sumI_le {f g : Nat → Int} : ∀ n, (∀ x, x < n → f x ≤ g x) → sumI f n ≤ sumI g n
 | 0, _ => Int.le_refl _
 | n + 1, h => by
  have := sumI_le n (fun x hx => h x (by omega))
  have := h n (by omega)
  simp only [sumI]
  omega
theorem sumI_eq {f g : Nat → Int} : ∀ n, (∀ x, x < n → f x ≤ g x) → sumI f n = sumI g n → ∀ x, x < n → f x = g x
 | 0, _, _, x, hx => by omega
 | n + 1, h, he, x, hx => by
  have h1 := sumI_le n (fun x hx => h x (by omega))
  have h2 := h n (by omega)
  simp only [sumI] at he
  rcases Nat.lt_or_eq_of_le (Nat.lt_succ_iff.1 hx) with h3 | h3
  ·exact sumI_eq n (fun x hx => h x (by omega)) (by omega) x h3
  ·subst h3; omega
theorem sumI_one (v : Int) : ∀ n, sumI (fun x => if v = (x : Int) then 1 else 0) n = if 0 ≤ v ∧ v < n then 1 else 0
 | 0 => by
  simp only [sumI]
  rw [if_neg (by omega)]
 | n + 1 => by
  simp only [sumI, sumI_one v n]
  by_cases h : v = (n : Int)
  ·rw [if_neg (by omega), if_pos h, if_pos (by omega)]; omega
  ·rw [if_neg h]
   by_cases h2 : 0 ≤ v ∧ v < n
   ·rw [if_pos h2, if_pos (by omega)]; omega
   ·rw [if_neg h2, if_neg (by omega)]; omega
theorem count_sum (rows : List (List Int)) (wi n : Nat) : ∀ N, (∀ m, m < N → 0 ≤ zcr rows wi m ∧ zcr rows wi m < n) → sumI (fun x => zci rows wi (x : Int) N) n = N
 | 0, _ => by
  have : sumI (fun x => zci rows wi (x : Int) 0) n = sumI (fun _ => 0) n := rfl
  rw [this]
  have h0 : ∀ n, sumI (fun _ => 0) n = 0 := fun n => by induction n with
   | zero => rfl
   | succ n ih => simp only [sumI, ih]; rfl
  rw [h0]
  rfl
 | N + 1, h => by
  have ih := count_sum rows wi n N (fun m hm => h m (by omega))
  have h1 := h N (by omega)
  have h2 := sumI_one (zcr rows wi N) n
  rw [if_pos h1] at h2
  have h3 : sumI (fun x => zci rows wi (x : Int) (N + 1)) n = sumI (fun x => zci rows wi (x : Int) N + (if zcr rows wi N = (x : Int) then 1 else 0)) n := by
   apply sumI_congr
   intro x hx
   simp only [zci]
   split <;> omega
  rw [h3, sumI_add, ih, h2]
  omega
def inBox (b : Rc) (wi m : Nat) : Prop := b.f0 ≤ (m / wi : Nat) ∧ ((m / wi : Nat) : Int) < b.f0 + b.f2 ∧ b.f1 ≤ (m % wi : Nat) ∧ ((m % wi : Nat) : Int) < b.f1 + b.f3
instance (b : Rc) (wi m : Nat) : Decidable (inBox b wi m) := by unfold inBox; exact inferInstance
def countB (b : Rc) (wi : Nat) : Nat → Int
 | 0 => 0
 | n + 1 => if inBox b wi n then countB b wi n + 1 else countB b wi n
theorem countN_le_B (rows : List (List Int)) (wi : Nat) (x : Int) (b : Rc) : ∀ n, (∀ m, m < n → zcr rows wi m = x → inBox b wi m) → zci rows wi x n ≤ countB b wi n
 | 0, _ => Int.le_refl _
 | n + 1, h => by
  have ih := countN_le_B rows wi x b n (fun m hm => h m (by omega))
  simp only [zci, countB]
  by_cases hx : zcr rows wi n = x
  ·rw [if_pos hx, if_pos (h n (by omega) hx)]; omega
  ·rw [if_neg hx]
   split <;> omega
def clamp (a n : Int) : Int := max 0 (min a n)
theorem countB_at (b : Rc) (hi wi : Nat) (hb : boundR b hi wi) : ∀ i j, i ≤ hi → j ≤ wi → (i < hi ∨ j = 0) → countB b wi (i * wi + j) = clamp ((i : Int) - b.f0) b.f2 * b.f3 + (if b.f0 ≤ i ∧ (i : Int) < b.f0 + b.f2 then clamp ((j : Int) - b.f1) b.f3 else 0) := by
 obtain ⟨b0, b1, b2, b3, b4, b5⟩ := hb
 intro i
 induction i with
 | zero =>
  intro j
  induction j with
  | zero =>
   intro _ _ _
   have h1 : clamp (((0 : Nat) : Int) - b.f0) b.f2 = 0 := by unfold clamp; omega
   have h2 : clamp (((0 : Nat) : Int) - b.f1) b.f3 = 0 := by unfold clamp; omega
   rw [h1, h2]
   simp [countB]
  | succ j ih =>
   intro h1 h2 h3
   have h := ih h1 (by omega) (by omega)
   obtain ⟨d1, d2⟩ := divmod_of (r := 0) (show j < wi by omega)
   show (if inBox b wi (0 * wi + j) then countB b wi (0 * wi + j) + 1 else countB b wi (0 * wi + j)) = _
   rw [h]
   have hib : inBox b wi (0 * wi + j) ↔ (b.f0 ≤ ((0 : Nat) : Int) ∧ ((0 : Nat) : Int) < b.f0 + b.f2 ∧ b.f1 ≤ (j : Int) ∧ (j : Int) < b.f1 + b.f3) := by unfold inBox; rw [d1, d2]
   by_cases hr : b.f0 ≤ ((0 : Nat) : Int) ∧ ((0 : Nat) : Int) < b.f0 + b.f2
   ·rw [if_pos hr, if_pos hr]
    have : clamp (((j + 1 : Nat) : Int) - b.f1) b.f3 = clamp ((j : Int) - b.f1) b.f3 + (if b.f1 ≤ (j : Int) ∧ (j : Int) < b.f1 + b.f3 then 1 else 0) := by
     unfold clamp; split <;> omega
    rw [this]
    by_cases hc : b.f1 ≤ (j : Int) ∧ (j : Int) < b.f1 + b.f3
    ·rw [if_pos (hib.2 ⟨hr.1, hr.2, hc.1, hc.2⟩), if_pos hc]; omega
    ·rw [if_neg (fun h => hc ⟨(hib.1 h).2.2.1, (hib.1 h).2.2.2⟩), if_neg hc]; omega
   ·rw [if_neg hr, if_neg hr, if_neg (fun h => hr ⟨(hib.1 h).1, (hib.1 h).2.1⟩)]
 | succ i ihi =>
  intro j
  induction j with
  | zero =>
   intro h1 _ _
   have h := ihi wi (by omega) (ycd _) (by omega)
   rw [show (i + 1) * wi + 0 = i * wi + wi by rw [Nat.succ_mul]; omega, h]
   have e2 : clamp (((0 : Nat) : Int) - b.f1) b.f3 = 0 := by unfold clamp; omega
   have e3 : clamp ((wi : Int) - b.f1) b.f3 = b.f3 := by unfold clamp; omega
   rw [e2, e3]
   have e4 : (if b.f0 ≤ ((i + 1 : Nat) : Int) ∧ ((i + 1 : Nat) : Int) < b.f0 + b.f2 then (0 : Int) else 0) = 0 := by split <;> rfl
   rw [e4]
   by_cases hr : b.f0 ≤ (i : Int) ∧ (i : Int) < b.f0 + b.f2
   ·have e5 : clamp (((i + 1 : Nat) : Int) - b.f0) b.f2 = clamp ((i : Int) - b.f0) b.f2 + 1 := by unfold clamp; omega
    rw [if_pos hr, e5, Int.add_mul]
    omega
   ·have e5 : clamp (((i + 1 : Nat) : Int) - b.f0) b.f2 = clamp ((i : Int) - b.f0) b.f2 := by unfold clamp; omega
    rw [if_neg hr, e5]
  | succ j ih =>
   intro h1 h2 h3
   have h := ih h1 (by omega) (by omega)
   obtain ⟨d1, d2⟩ := divmod_of (r := i + 1) (show j < wi by omega)
   show (if inBox b wi ((i + 1) * wi + j) then countB b wi ((i + 1) * wi + j) + 1 else countB b wi ((i + 1) * wi + j)) = _
   rw [h]
   have hib : inBox b wi ((i + 1) * wi + j) ↔ (b.f0 ≤ ((i + 1 : Nat) : Int) ∧ ((i + 1 : Nat) : Int) < b.f0 + b.f2 ∧ b.f1 ≤ (j : Int) ∧ (j : Int) < b.f1 + b.f3) := by unfold inBox; rw [d1, d2]
   by_cases hr : b.f0 ≤ ((i + 1 : Nat) : Int) ∧ ((i + 1 : Nat) : Int) < b.f0 + b.f2
   ·rw [if_pos hr, if_pos hr]
    have : clamp (((j + 1 : Nat) : Int) - b.f1) b.f3 = clamp ((j : Int) - b.f1) b.f3 + (if b.f1 ≤ (j : Int) ∧ (j : Int) < b.f1 + b.f3 then 1 else 0) := by
     unfold clamp; split <;> omega
    rw [this]
    by_cases hc : b.f1 ≤ (j : Int) ∧ (j : Int) < b.f1 + b.f3
    ·rw [if_pos (hib.2 ⟨hr.1, hr.2, hc.1, hc.2⟩), if_pos hc]; omega
    ·rw [if_neg (fun h => hc ⟨(hib.1 h).2.2.1, (hib.1 h).2.2.2⟩), if_neg hc]; omega
   ·rw [if_neg hr, if_neg hr, if_neg (fun h => hr ⟨(hib.1 h).1, (hib.1 h).2.1⟩)]
theorem countB_all (b : Rc) (hi wi : Nat) (hb : boundR b hi wi) : countB b wi (hi * wi) = areaR b := by
 have := countB_at b hi wi hb hi 0 (ycd _) (by omega) (Or.inr rfl)
 obtain ⟨b0, b1, b2, b3, b4, b5⟩ := hb
 rw [Nat.add_zero] at this
 have h2 : clamp (((0 : Nat) : Int) - b.f1) b.f3 = 0 := by unfold clamp; omega
 have h3 : clamp ((hi : Int) - b.f0) b.f2 = b.f2 := by unfold clamp; omega
 rw [this, h2, h3]
 unfold areaR
 split <;> omega
theorem maxN_ge (rows : List (List Int)) (wi : Nat) : ∀ n m, m < n → zcr rows wi m + 1 ≤ maxN rows wi n
 | 0, m, h => by omega
 | n + 1, m, h => by
  simp only [maxN]
  rcases Nat.lt_or_eq_of_le (Nat.lt_succ_iff.1 h) with h1 | h1
  ·have := maxN_ge rows wi n m h1; omega
  ·subst h1; omega
theorem maxN_ub (rows : List (List Int)) (wi : Nat) (M : Int) (hM : 0 ≤ M) : ∀ n, (∀ m, m < n → zcr rows wi m + 1 ≤ M) → maxN rows wi n ≤ M
 | 0, _ => hM
 | n + 1, h => by
  have := maxN_ub rows wi M hM n (fun m hm => h m (by omega))
  have := h n (by omega)
  simp only [maxN]
  omega
theorem roomN_ge (rows : List (List Int)) (wi : Nat) (x t l : Int) : ∀ n m, m < n → zcr rows wi m = x → (roomN rows wi x t l n).1 ≤ (m / wi : Nat) ∧ (roomN rows wi x t l n).2.1 ≤ (m % wi : Nat) ∧ ((m / wi : Nat) : Int) ≤ (roomN rows wi x t l n).2.2.1 ∧ ((m % wi : Nat) : Int) ≤ (roomN rows wi x t l n).2.2.2
 | 0, m, h, _ => by omega
 | n + 1, m, h, hx => by
  simp only [roomN]
  rcases Nat.lt_or_eq_of_le (Nat.lt_succ_iff.1 h) with h1 | h1
  ·have ih := roomN_ge rows wi x t l n m h1 hx
   generalize roomN rows wi x t l n = q at *
   split
   ·dsimp only; omega
   ·exact ih
  ·subst h1
   rw [if_pos hx]
   dsimp only
   omega
theorem roomN_at (rows : List (List Int)) (wi : Nat) (x t l : Int) : ∀ n,
  ((roomN rows wi x t l n).1 = t ∨ ∃ m, m < n ∧ zcr rows wi m = x ∧ (roomN rows wi x t l n).1 = (m / wi : Nat)) ∧
  ((roomN rows wi x t l n).2.1 = l ∨ ∃ m, m < n ∧ zcr rows wi m = x ∧ (roomN rows wi x t l n).2.1 = (m % wi : Nat)) ∧
  ((roomN rows wi x t l n).2.2.1 = -1 ∨ ∃ m, m < n ∧ zcr rows wi m = x ∧ (roomN rows wi x t l n).2.2.1 = (m / wi : Nat)) ∧
  ((roomN rows wi x t l n).2.2.2 = -1 ∨ ∃ m, m < n ∧ zcr rows wi m = x ∧ (roomN rows wi x t l n).2.2.2 = (m % wi : Nat))
 | 0 => ⟨.inl rfl, .inl rfl, .inl rfl, .inl rfl⟩
 | n + 1 => by
  obtain ⟨h1, h2, h3, h4⟩ := roomN_at rows wi x t l n
  simp only [roomN]
  generalize roomN rows wi x t l n = q at *
  by_cases hx : zcr rows wi n = x
  ·rw [if_pos hx]
   dsimp only
   refine ⟨?_, ?_, ?_, ?_⟩
   ·by_cases hc : q.1 ≤ ((n / wi : Nat) : Int)
    ·rw [Int.min_eq_left hc]
     rcases h1 with h | ⟨m, a, b, c⟩
     ·exact .inl h
     ·exact .inr ⟨m, by omega, b, c⟩
    ·exact .inr ⟨n, by omega, hx, Int.min_eq_right (by omega)⟩
   ·by_cases hc : q.2.1 ≤ ((n % wi : Nat) : Int)
    ·rw [Int.min_eq_left hc]
     rcases h2 with h | ⟨m, a, b, c⟩
     ·exact .inl h
     ·exact .inr ⟨m, by omega, b, c⟩
    ·exact .inr ⟨n, by omega, hx, Int.min_eq_right (by omega)⟩
   ·by_cases hc : ((n / wi : Nat) : Int) ≤ q.2.2.1
    ·rw [Int.max_eq_left hc]
     rcases h3 with h | ⟨m, a, b, c⟩
     ·exact .inl h
     ·exact .inr ⟨m, by omega, b, c⟩
    ·exact .inr ⟨n, by omega, hx, Int.max_eq_right (by omega)⟩
   ·by_cases hc : ((n % wi : Nat) : Int) ≤ q.2.2.2
    ·rw [Int.max_eq_left hc]
     rcases h4 with h | ⟨m, a, b, c⟩
     ·exact .inl h
     ·exact .inr ⟨m, by omega, b, c⟩
    ·exact .inr ⟨n, by omega, hx, Int.max_eq_right (by omega)⟩
  ·rw [if_neg hx]
   refine ⟨?_, ?_, ?_, ?_⟩
   ·rcases h1 with h | ⟨m, a, b, c⟩
    ·exact .inl h
    ·exact .inr ⟨m, by omega, b, c⟩
   ·rcases h2 with h | ⟨m, a, b, c⟩
    ·exact .inl h
    ·exact .inr ⟨m, by omega, b, c⟩
   ·rcases h3 with h | ⟨m, a, b, c⟩
    ·exact .inl h
    ·exact .inr ⟨m, by omega, b, c⟩
   ·rcases h4 with h | ⟨m, a, b, c⟩
    ·exact .inl h
    ·exact .inr ⟨m, by omega, b, c⟩
theorem room_box {rows rows' : List (List Int)} {hi wi : Nat} {x y : Int} {b : Rc} (he : ∀ m, m < hi * wi → (zcr rows wi m = x ↔ zbe rows' (m / wi) (m % wi) = y)) (hb : BoxN rows' wi (hi * wi) y b) (hbd : boundR b hi wi) (t l : Int) (ht : (hi : Int) ≤ t) (hl : (wi : Int) ≤ l) :
  roomOut (roomN rows wi x t l (hi * wi)) = (b.f0, b.f1, b.f2, b.f3) := by
 obtain ⟨b0, b1, b2, b3, b4, b5⟩ := hbd
 obtain ⟨m1, n1, v1, e1⟩ := hb.top
 obtain ⟨m2, n2, v2, e2⟩ := hb.low
 obtain ⟨m3, n3, v3, e3⟩ := hb.left
 obtain ⟨m4, n4, v4, e4⟩ := hb.right
 have g1 := roomN_ge rows wi x t l (hi * wi) m1 n1 ((he m1 n1).2 v1)
 have g2 := roomN_ge rows wi x t l (hi * wi) m2 n2 ((he m2 n2).2 v2)
 have g3 := roomN_ge rows wi x t l (hi * wi) m3 n3 ((he m3 n3).2 v3)
 have g4 := roomN_ge rows wi x t l (hi * wi) m4 n4 ((he m4 n4).2 v4)
 obtain ⟨a1, a2, a3, a4⟩ := roomN_at rows wi x t l (hi * wi)
 have key : ∀ m, m < hi * wi → zcr rows wi m = x → b.f0 ≤ (m / wi : Nat) ∧ ((m / wi : Nat) : Int) < b.f0 + b.f2 ∧ b.f1 ≤ (m % wi : Nat) ∧ ((m % wi : Nat) : Int) < b.f1 + b.f3 := fun m hm hx => hb.ins m hm ((he m hm).1 hx)
 generalize roomN rows wi x t l (hi * wi) = q at *
 have r1 : q.1 = b.f0 := by
  rcases a1 with h | ⟨m, n, v, e⟩
  ·omega
  ·have := key m n v; omega
 have r2 : q.2.1 = b.f1 := by
  rcases a2 with h | ⟨m, n, v, e⟩
  ·omega
  ·have := key m n v; omega
 have r3 : q.2.2.1 = b.f0 + b.f2 - 1 := by
  rcases a3 with h | ⟨m, n, v, e⟩
  ·omega
  ·have := key m n v; omega
 have r4 : q.2.2.2 = b.f1 + b.f3 - 1 := by
  rcases a4 with h | ⟨m, n, v, e⟩
  ·omega
  ·have := key m n v; omega
 unfold roomOut
 rw [r1, r2, r3, r4]
 congr 3
 ·omega
 ·omega
theorem letterOf_toNat {x : Int} (h0 : 0 ≤ x) (h1 : x ≤ 100) : ((letterOf x).toNat : Int) = 97 + x := by
 unfold letterOf
 rw [UInt8.toNat_ofNat']
 omega
theorem bytesOf_rowText (row : List Int) (h : ∀ x ∈ row, 0 ≤ x ∧ x ≤ 100) : bytesOf (rowText row) = row.map (fun x => 97 + x) := by
 unfold bytesOf rowText rowBytes
 show ((row.map letterOf).toArray.toList).map _ = _
 rw [List.map_map]
 apply List.map_congr_left
 intro x hx
 exact letterOf_toNat (h x hx).1 (h x hx).2
theorem numsOf_textOf (cs : List (List Int)) (h : ∀ r ∈ cs, ∀ x ∈ r, 0 ≤ x ∧ x ≤ 100) : zak (zbq cs) = cs.map (fun r => r.map (fun x => 97 + x)) := by
 unfold zak zbq
 rw [List.map_map]
 apply List.map_congr_left
 intro r hr
 exact bytesOf_rowText r (h r hr)
theorem canon_val {rows : List (List Int)} (h : zbo rows = true) : ∀ r ∈ canon rows, ∀ x ∈ r, 0 ≤ x ∧ x ≤ 100 := by
 have hL := shape_order h
 intro r hr x hx
 unfold canon canonL at hr
 simp at hr
 obtain ⟨a, _, rfl⟩ := hr
 simp at hx
 obtain ⟨y, _, rfl⟩ := hx
 have := List.idxOf_le_length (a := y) (l := zbl rows)
 omega
structure Canon (p : List ByteArray) : Prop where
 grid : gridOk p = true
 names : namesOf p = p
theorem Canon.shape {p : List ByteArray} (h : Canon p) : zbo (zak p) = true := by
 have := h.grid
 unfold gridOk at this
 rw [Bool.and_eq_true] at this
 exact this.1
theorem zbp (p : List ByteArray) : (zak p).length = p.length := by simp [zak]
theorem Canon.cell {p : List ByteArray} (h : Canon p) : ∀ m, m < p.length * zaj (zak p) → zcr (zak p) (zaj (zak p)) m = ((zbl (zak p)).idxOf (zbe (zak p) (m / zaj (zak p)) (m % zaj (zak p))) : Int) := by
 intro m hm
 have hR := zch h.shape
 have h1 : zak p = (canon (zak p)).map (fun r => r.map (fun x => 97 + x)) := by
  have := numsOf_textOf (canon (zak p)) (canon_val h.shape)
  rw [show zbq (canon (zak p)) = p from h.names] at this
  exact this
 have hwi : 0 < zaj (zak p) := by
  rcases Nat.eq_zero_or_pos (zaj (zak p)) with h0 | h0
  ·rw [h0] at hm; simp at hm
  ·exact h0
 have hr : m / zaj (zak p) < (zak p).length := by rw [zbp, Nat.div_lt_iff_lt_mul hwi]; exact hm
 have hc := Nat.mod_lt m hwi
 have hcr : Rect (zaj (zak p)) (canon (zak p)) := by rw [canon_grid hR]; exact gridOf_rect _ _ _
 have h2 := rect_map hcr (fun x => 97 + x)
 rw [← h1] at h2
 have hcl : (canon (zak p)).length = (zak p).length := by simp [canon, canonL]
 unfold zcr
 have h3 := congrArg (fun R => zbe R (m / zaj (zak p)) (m % zaj (zak p))) h2
 have h4 := congrArg (fun R => zbe R (m / zaj (zak p)) (m % zaj (zak p))) (canon_grid hR)
 try dsimp only at h3 h4
 rw [valAt_gridOf (by rw [hcl]; exact hr) hc] at h3
 rw [valAt_gridOf hr hc] at h4
 omega
theorem rooms_len {rows : List (List Int)} (h : zbo rows = true) : (zbl rows).length = (zay rows).length := by
 rw [← stAt_all (zch h)]
 exact (stAt_len rows (zaj rows) _).1
theorem rooms_box {rows : List (List Int)} (h : zbo rows = true) (i : Nat) (hi : i < (zay rows).length) : ∃ x, (zbl rows)[i]? = some x ∧ BoxN rows (zaj rows) (rows.length * zaj rows) x ((zay rows).getD i zcf) ∧ boundR ((zay rows).getD i zcf) rows.length (zaj rows) := by
 have hl := rooms_len h
 obtain ⟨x, hx⟩ : ∃ x, (zbl rows)[i]? = some x := ⟨_, List.getElem?_eq_getElem (by omega)⟩
 have hb : (zay rows)[i]? = some ((zay rows).getD i zcf) := by
  rw [ycb, List.getElem?_eq_getElem hi]
  rfl
 have hx2 := hx
 rw [← stAt_all (zch h)] at hx2
 exact ⟨x, hx, stAt_box rows (zaj rows) _ i x _ hx2 hb, (stAt_inv rows rows.length (zaj rows) _ (ycd _)).2.2.2 _ (List.mem_of_getElem? hb)⟩
theorem idx_iff {L : List Int} (hn : L.Nodup) {i : Nat} {x v : Int} (hx : L[i]? = some x) (hv : v ∈ L) : ((L.idxOf v : Int) = (i : Int) ↔ v = x) := by
 have hi := (List.getElem?_eq_some_iff.1 hx).1
 have hk := List.idxOf_lt_length_of_mem hv
 have e : L[L.idxOf v] = v := List.getElem_idxOf hk
 rw [List.getElem?_eq_getElem hi] at hx
 have hx := Option.some.inj hx
 constructor
 ·intro h
  have h : L.idxOf v = i := by omega
  subst h
  rw [← e, hx]
 ·rintro rfl
  have := nodup_inj hn hk hi (e.trans hx.symm)
  omega
theorem ordAll_nodup (rows : List (List Int)) : (zbl rows).Nodup := ordL_nodup _ _ List.nodup_nil
theorem cell_mem {rows : List (List Int)} (h : zbo rows = true) (m : Nat) (hm : m < rows.length * zaj rows) : zbe rows (m / zaj rows) (m % zaj rows) ∈ zbl rows := by
 have := flatten_get rows (zch h) m hm
 exact ordL_mem _ _ _ (List.mem_of_getElem? this)
theorem mem_cell {rows : List (List Int)} (h : zbo rows = true) (x : Int) (hx : x ∈ zbl rows) : ∃ m, m < rows.length * zaj rows ∧ zbe rows (m / zaj rows) (m % zaj rows) = x := by
 rcases ordL_sub _ _ x hx with h1 | h1
 ·cases h1
 ·obtain ⟨m, hm, e⟩ := List.mem_iff_getElem.1 h1
  have hl := flatten_length_le rows _ (zch h)
  refine ⟨m, by omega, ?_⟩
  have := flatten_get rows (zch h) m (by omega)
  rw [List.getElem?_eq_getElem hm, e] at this
  exact (Option.some.inj this).symm
theorem Canon.max {p : List ByteArray} (h : Canon p) : maxN (zak p) (zaj (zak p)) (p.length * zaj (zak p)) = (zay (zak p)).length := by
 have hs := h.shape
 have hl := rooms_len hs
 have hc := h.cell
 obtain ⟨s1, s2, s3, s4, s5⟩ := (zbx _).1 hs
 rw [zbp] at s1 s2
 have hpos : 0 < p.length * zaj (zak p) := Nat.mul_pos (by omega) (by omega)
 have hub := maxN_ub (zak p) (zaj (zak p)) ((zay (zak p)).length : Int) (by omega) (p.length * zaj (zak p)) (fun m hm => by
  rw [hc m hm]
  have := List.idxOf_lt_length_of_mem (cell_mem hs m (by rw [zbp]; exact hm))
  omega)
 have h0 := List.idxOf_lt_length_of_mem (cell_mem hs 0 (by rw [zbp]; exact hpos))
 obtain ⟨y, hy⟩ : ∃ y, (zbl (zak p))[(zbl (zak p)).length - 1]? = some y := ⟨_, List.getElem?_eq_getElem (by omega)⟩
 obtain ⟨m, hm, hv⟩ := mem_cell hs y (List.mem_of_getElem? hy)
 rw [zbp] at hm
 have hge := maxN_ge (zak p) (zaj (zak p)) _ m hm
 have hi := (idx_iff (ordAll_nodup (zak p)) hy (List.mem_of_getElem? hy)).2 rfl
 rw [hc m hm, hv] at hge
 omega
theorem Canon.room {p : List ByteArray} (h : Canon p) (i : Nat) (hi : i < (zay (zak p)).length) : let b := (zay (zak p)).getD i zcf
  roomOut (roomN (zak p) (zaj (zak p)) (i : Int) (p.length : Int) (zaj (zak p) : Int) (p.length * zaj (zak p))) = (b.f0, b.f1, b.f2, b.f3) ∧ zci (zak p) (zaj (zak p)) (i : Int) (p.length * zaj (zak p)) ≤ areaR b ∧ boundR b p.length (zaj (zak p)) := by
 intro b
 have hs := h.shape
 obtain ⟨x, hx, hb, hbd⟩ := rooms_box hs i hi
 rw [zbp] at hb hbd
 have hiff : ∀ m, m < p.length * zaj (zak p) → (zcr (zak p) (zaj (zak p)) m = (i : Int) ↔ zbe (zak p) (m / zaj (zak p)) (m % zaj (zak p)) = x) := fun m hm => by
  rw [h.cell m hm]
  exact idx_iff (ordAll_nodup _) hx (cell_mem hs m (by rw [zbp]; exact hm))
 refine ⟨room_box hiff hb hbd _ _ (Int.le_refl _) (Int.le_refl _), ?_, hbd⟩
 rw [← countB_all b p.length (zaj (zak p)) hbd]
 exact countN_le_B _ _ _ _ _ (fun m hm hv => hb.ins m hm ((hiff m hm).1 hv))
theorem Canon.sum {p : List ByteArray} (h : Canon p) : sumI (fun x => zci (zak p) (zaj (zak p)) (x : Int) (p.length * zaj (zak p))) (zay (zak p)).length = ((p.length * zaj (zak p) : Nat) : Int) := by
 refine count_sum _ _ _ _ (fun m hm => ?_)
 rw [h.cell m hm]
 have := List.idxOf_lt_length_of_mem (cell_mem h.shape m (by rw [zbp]; exact hm))
 have := rooms_len h.shape
 omega
theorem sumArea_sumI (rs : List Rc) : zbt rs = sumI (fun x => areaR (rs.getD x zcf)) rs.length := by
 have : ∀ n, n ≤ rs.length → zbt (rs.take n) = sumI (fun x => areaR (rs.getD x zcf)) n := by
  intro n
  induction n with
  | zero => intro _; simp [zbt, sumI]
  | succ n ih => intro hn; rw [sum_take rs n (by omega), ih (by omega)]; rfl
 have h := this rs.length (ycd _)
 rwa [List.take_length] at h
def fullB (p : List ByteArray) (x : Nat) : Bool := decide (zci (zak p) (zaj (zak p)) (x : Int) (p.length * zaj (zak p)) = areaR ((zay (zak p)).getD x zcf))
theorem full_iff {p : List ByteArray} (h : Canon p) : (List.range (zay (zak p)).length).all (fullB p) = decide (zbt (zay (zak p)) = (p.length : Int) * (zaj (zak p) : Int)) := by
 rw [Bool.eq_iff_iff, List.all_eq_true, decide_eq_true_eq, sumArea_sumI, ← Int.natCast_mul, ← h.sum]
 constructor
 ·intro hall
  refine (sumI_congr _ (fun x hx => ?_)).symm
  have := hall x (List.mem_range.2 hx)
  unfold fullB at this
  exact of_decide_eq_true this
 ·intro he x hx
  have := sumI_eq _ (fun x hx => (h.room x hx).2.1) he.symm x (List.mem_range.1 hx)
  unfold fullB
  exact decide_eq_true this
theorem planIn_l0 {p : List ByteArray} (h : Canon p) : ∀ m r, r + m = (zay (zak p)).length → Evs (fun k => spec_PlanIn.l0 k p (r : Int)) (((List.range (zay (zak p)).length).drop r).all (fullB p)) := by
 have hsm := gridOk_small h.grid
 obtain ⟨s1, s2, s3, s4, s5⟩ := (zbx _).1 h.shape
 rw [zbp] at s1 s2
 have hR := l1Rooms_ev p _ hsm
 rw [h.max] at hR
 have hrl : (zay (zak p)).length ≤ 36 := by have := rooms_len h.shape; have := shape_order h.shape; omega
 intro m
 induction m with
 | zero =>
  intro r hr
  rw [List.drop_eq_nil_of_le (by simp; omega)]
  refine Evs.step (h := fun k => (spec_l1Rooms.f k p).bind fun t => if (r : Int) < t then ((spec_l1Room.f k p (r : Int)).bind fun bt161 => ((spec_l1Cells.f k p (r : Int)).bind fun t165 => (if t165 = (wrap64 (bt161.2.2.1 * bt161.2.2.2)) then (spec_PlanIn.l0 k p (wrap64 ((r : Int) + 1))) else (some false)))) else some true) (fun k => ?_) (Evs.bind hR ?_)
  ·conv => lhs; unfold spec_PlanIn.l0
  ·refine Evs.congr (h := fun _ => some true) (fun k => ?_) (Evs.const _)
   try dsimp only
   rw [if_neg (by omega)]
 | succ m ih =>
  intro r hr
  obtain ⟨q1, q2, q3⟩ := h.room r (by omega)
  have hroom := l1Room_ev p _ hsm s1 (r : Int)
  have hcnt := l1Cells_ev p _ hsm (r : Int)
  rw [q1] at hroom
  have hab := area_bound q3 s2 s4
  have hdrop : (List.range (zay (zak p)).length).drop r = r :: (List.range (zay (zak p)).length).drop (r + 1) := by
   rw [List.drop_eq_getElem_cons (by simp; omega)]
   simp
  rw [hdrop, List.all_cons]
  refine Evs.step (h := fun k => (spec_l1Rooms.f k p).bind fun t => if (r : Int) < t then ((spec_l1Room.f k p (r : Int)).bind fun bt161 => ((spec_l1Cells.f k p (r : Int)).bind fun t165 => (if t165 = (wrap64 (bt161.2.2.1 * bt161.2.2.2)) then (spec_PlanIn.l0 k p (wrap64 ((r : Int) + 1))) else (some false)))) else some true) (fun k => ?_) (Evs.bind hR ?_)
  ·conv => lhs; unfold spec_PlanIn.l0
  ·refine Evs.congr (h := fun k => ((spec_l1Room.f k p (r : Int)).bind fun bt161 => ((spec_l1Cells.f k p (r : Int)).bind fun t165 => (if t165 = (wrap64 (bt161.2.2.1 * bt161.2.2.2)) then (spec_PlanIn.l0 k p (wrap64 ((r : Int) + 1))) else (some false))))) (fun k => ?_) ?_
   ·try dsimp only
    rw [if_pos (by omega)]
   ·refine Evs.bind hroom (Evs.bind hcnt ?_)
    try dsimp only
    have hw : wrap64 (((zay (zak p)).getD r zcf).f2 * ((zay (zak p)).getD r zcf).f3) = areaR ((zay (zak p)).getD r zcf) := by
     have h3 := hab
     unfold areaR at h3 ⊢
     exact zas (by omega) (by omega)
    rw [hw]
    have hnx := ih (r + 1) (by omega)
    by_cases hf : zci (zak p) (zaj (zak p)) (r : Int) (p.length * zaj (zak p)) = areaR ((zay (zak p)).getD r zcf)
    ·have : fullB p r = true := decide_eq_true hf
     rw [this, Bool.true_and]
     refine Evs.congr (fun k => ?_) hnx
     rw [if_pos hf, zbr (by omega)]
    ·have : fullB p r = false := decide_eq_false hf
     rw [this, Bool.false_and]
     refine Evs.congr (h := fun _ => some false) (fun k => ?_) (Evs.const _)
     rw [if_neg hf]
theorem planIn_j0 (k : Nat) (p : List ByteArray) (b : Bool) : spec_PlanIn.j0 (k + 1) p b = if b = true then some false else spec_PlanIn.l0 k p 0 := by simp only [spec_PlanIn.j0]
def planB (p : List ByteArray) : Bool := (zcg p).isSome
theorem settled_shape {rows : List (List Int)} (h : zbo rows = true) : zby rows = if (zay rows).length ≤ 9 then some (canon rows, zay rows, decide (zbt (zay rows) = (rows.length : Int) * (zaj rows : Int))) else none := by
 unfold zby
 rw [if_pos h, cellsOf_canon h]
theorem floorF_grid {p : List ByteArray} (h : gridOk p = true) : zcg p = if (zay (zak p)).length ≤ 9 ∧ zbt (zay (zak p)) = (p.length : Int) * (zaj (zak p) : Int) ∧ namesOf p = p then some (canon (zak p), zay (zak p)) else none := by
 unfold gridOk at h
 rw [Bool.and_eq_true] at h
 unfold zcg readF
 rw [if_pos h.2, settled_shape h.1, zbp]
 by_cases h9 : (zay (zak p)).length ≤ 9
 ·rw [if_pos h9]
  simp only [Option.bind_some, decide_eq_true_eq]
  rw [show zbq (canon (zak p)) = namesOf p from rfl]
  by_cases hs : zbt (zay (zak p)) = (p.length : Int) * (zaj (zak p) : Int) ∧ namesOf p = p
  ·rw [if_pos hs, if_pos ⟨h9, hs⟩]
  ·rw [if_neg hs, if_neg (fun hh => hs hh.2)]
 ·rw [if_neg h9, if_neg (fun hh => h9 hh.1)]
  rfl
theorem floorF_nogrid {p : List ByteArray} (h : gridOk p = false) : zcg p = none := by
 unfold zcg readF
 unfold gridOk at h
 by_cases ha : p.all okText = true
 ·rw [ha, Bool.and_true] at h
  rw [if_pos ha]
  unfold zby
  rw [if_neg (by rw [h]; simp)]
  rfl
 ·rw [if_neg ha]
  rfl
theorem PlanIn_ev (p : List ByteArray) (hp : smallP p) : Evs (fun k => spec_PlanIn.f k p) (planB p) := by
 have hg := l1Grid_ev p hp
 cases hG : gridOk p
 ·rw [hG] at hg
  have : planB p = false := by unfold planB; rw [floorF_nogrid hG]; rfl
  rw [this]
  refine Evs.bind hg ?_
  refine Evs.congr (h := fun k => spec_PlanIn.j0 k p true) (fun k => ?_) (Evs.step (h := fun _ => some false) (fun k => ?_) (Evs.const _))
  ·try dsimp only
   rw [if_neg (by simp)]
  ·rw [planIn_j0]
   rw [if_pos rfl]
 ·rw [hG] at hg
  have hs : zbo (zak p) = true := by
   unfold gridOk at hG
   rw [Bool.and_eq_true] at hG
   exact hG.1
  have hn := l1Names_ev p hp (by have := shape_order hs; omega)
  have hsame := l1Same_ev (namesOf p) p (by simp [namesOf, zbq, canon, canonL, zak]; have := hp.1; omega)
  refine Evs.bind hg ?_
  refine Evs.congr (h := fun k => (spec_l1Names.f k p).bind fun t155 => ((spec_l1Same.f k t155 p).bind fun t158 => (if t158 = true then ((spec_l1Rooms.f k p).bind fun t159 => (spec_PlanIn.j0 k p (decide (t159 > 9)))) else (spec_PlanIn.j0 k p true)))) (fun k => ?_) (Evs.bind hn (Evs.bind hsame ?_))
  ·try dsimp only
   rw [if_pos rfl]
  ·unfold planB
   rw [floorF_grid hG]
   by_cases hN : namesOf p = p
   ·have hC : Canon p := ⟨hG, hN⟩
    have hR := l1Rooms_ev p _ (gridOk_small hG)
    rw [hC.max] at hR
    refine Evs.congr (h := fun k => (spec_l1Rooms.f k p).bind fun t159 => (spec_PlanIn.j0 k p (decide (t159 > 9)))) (fun k => ?_) (Evs.bind hR ?_)
    ·try dsimp only
     rw [decide_eq_true hN, if_pos rfl]
    ·by_cases h9 : (zay (zak p)).length ≤ 9
     ·refine Evs.step (h := fun k => spec_PlanIn.l0 k p ((0 : Nat) : Int)) (fun k => ?_) ?_
      ·try dsimp only
       rw [planIn_j0]
       rw [decide_eq_false (by omega), if_neg (by simp)]
       rfl
      ·have := planIn_l0 hC (zay (zak p)).length 0 (by omega)
       rw [List.drop_zero, full_iff hC] at this
       by_cases hsum : zbt (zay (zak p)) = (p.length : Int) * (zaj (zak p) : Int)
       ·rw [decide_eq_true hsum] at this
        rw [if_pos ⟨h9, hsum, hN⟩]
        exact this
       ·rw [decide_eq_false hsum] at this
        rw [if_neg (fun hh => hsum hh.2.1)]
        exact this
     ·rw [if_neg (fun hh => h9 hh.1)]
      refine Evs.step (h := fun _ => some false) (fun k => ?_) (Evs.const _)
      try dsimp only
      rw [planIn_j0]
      rw [decide_eq_true (by omega), if_pos rfl]
   ·rw [if_neg (fun hh => hN hh.2.2)]
    refine Evs.congr (h := fun k => spec_PlanIn.j0 k p true) (fun k => ?_) (Evs.step (h := fun _ => some false) (fun k => ?_) (Evs.const _))
    ·try dsimp only
     rw [decide_eq_false hN, if_neg (by simp)]
    ·rw [planIn_j0]
     rw [if_pos rfl]
def mapG (f : Int → Int) (rows : List (List Int)) : List (List Int) := rows.map fun r => r.map f
def InjOn (f : Int → Int) (S : Int → Prop) : Prop := ∀ a b, S a → S b → f a = f b → a = b
theorem idxOf_map (f : Int → Int) (S : Int → Prop) (hf : InjOn f S) (x : Int) (hx : S x) : ∀ L : List Int, (∀ y ∈ L, S y) → (L.map f).idxOf (f x) = L.idxOf x
 | [], _ => rfl
 | y :: r, h => by
  rw [yca, List.idxOf_cons, List.idxOf_cons]
  by_cases he : y = x
  ·subst he; simp
  ·have : f y ≠ f x := fun e => he (hf y x (h y List.mem_cons_self) hx e)
   have h1 : (f y == f x) = false := by simp [this]
   have h2 : (y == x) = false := by simp [he]
   rw [h1, h2, idxOf_map f S hf x hx r (fun z hz => h z (List.mem_cons_of_mem _ hz))]
theorem pushL_map (f : Int → Int) (S : Int → Prop) (hf : InjOn f S) (x : Int) (hx : S x) (o : List Int) (ho : ∀ y ∈ o, S y) : pushL (o.map f) (f x) = (pushL o x).map f := by
 have hiff : f x ∈ o.map f ↔ x ∈ o := by
  rw [List.mem_map]
  constructor
  ·rintro ⟨y, hy, e⟩
   rw [← hf y x (ho y hy) hx e]
   exact hy
  ·exact fun h => ⟨x, h, rfl⟩
 unfold pushL
 by_cases h : x ∈ o
 ·rw [if_pos h, if_pos (hiff.2 h)]
 ·rw [if_neg h, if_neg (fun hh => h (hiff.1 hh))]
  simp
theorem pushL_all {S : Int → Prop} {x : Int} (hx : S x) {o : List Int} (ho : ∀ y ∈ o, S y) : ∀ y ∈ pushL o x, S y := by
 intro y hy
 unfold pushL at hy
 split at hy
 ·exact ho y hy
 ·rcases List.mem_append.1 hy with h | h
  ·exact ho y h
  ·simp at h; subst h; exact hx
theorem ordL_map (f : Int → Int) (S : Int → Prop) (hf : InjOn f S) : ∀ (xs o : List Int), (∀ y ∈ xs, S y) → (∀ y ∈ o, S y) → ordL (xs.map f) (o.map f) = (ordL xs o).map f
 | [], o, _, _ => rfl
 | x :: r, o, h, ho => by
  show ordL (r.map f) (pushL (o.map f) (f x)) = (ordL r (pushL o x)).map f
  have hx := h x List.mem_cons_self
  rw [pushL_map f S hf x hx o ho]
  exact ordL_map f S hf r (pushL o x) (fun z hz => h z (List.mem_cons_of_mem _ hz)) (pushL_all hx ho)
theorem mapG_length (f : Int → Int) (rows : List (List Int)) : (mapG f rows).length = rows.length := by simp [mapG]
theorem mapG_flatten (f : Int → Int) (rows : List (List Int)) : (mapG f rows).flatten = rows.flatten.map f := by
 unfold mapG
 rw [List.map_flatten]
theorem mapG_wide (f : Int → Int) (rows : List (List Int)) : zaj (mapG f rows) = zaj rows := by
 unfold zaj mapG
 cases rows with
 | nil => rfl
 | cons a r => simp
theorem mapG_shape (f : Int → Int) (rows : List (List Int)) : zbo (mapG f rows) = zbo rows := by
 rw [Bool.eq_iff_iff, zbx, zbx, mapG_length, mapG_wide]
 have : (∀ r ∈ mapG f rows, r.length = zaj rows) ↔ (∀ r ∈ rows, r.length = zaj rows) := by
  constructor
  ·intro h r hr
   have := h (r.map f) (List.mem_map.2 ⟨r, hr, rfl⟩)
   simpa using this
  ·intro h r hr
   obtain ⟨a, ha, rfl⟩ := List.mem_map.1 hr
   rw [List.length_map]
   exact h a ha
 rw [this]
def Vals (rows : List (List Int)) (x : Int) : Prop := x ∈ rows.flatten
theorem ordAll_map {f : Int → Int} {rows : List (List Int)} (hf : InjOn f (Vals rows)) : zbl (mapG f rows) = (zbl rows).map f := by
 unfold zbl
 rw [mapG_flatten]
 exact ordL_map f (Vals rows) hf rows.flatten [] (fun y hy => hy) (by simp)
theorem ordAll_vals (rows : List (List Int)) : ∀ y ∈ zbl rows, Vals rows y := by
 intro y hy
 rcases ordL_sub _ _ y hy with h | h
 ·cases h
 ·exact h
theorem canon_map {f : Int → Int} {rows : List (List Int)} (hf : InjOn f (Vals rows)) : canon (mapG f rows) = canon rows := by
 unfold canon canonL
 rw [ordAll_map hf]
 unfold mapG
 rw [List.map_map]
 apply List.map_congr_left
 intro r hr
 show (r.map f).map _ = _
 rw [List.map_map]
 apply List.map_congr_left
 intro x hx
 show (((zbl rows).map f).idxOf (f x) : Int) = _
 rw [idxOf_map f (Vals rows) hf x (List.mem_flatten.2 ⟨r, hr, hx⟩) _ (ordAll_vals rows)]
theorem valAt_map {rows : List (List Int)} {wi r c : Nat} (h : Rect wi rows) (f : Int → Int) (hr : r < rows.length) (hc : c < wi) : zbe (mapG f rows) r c = f (zbe rows r c) := by
 have := congrArg (fun R => zbe R r c) (rect_map h f)
 unfold mapG
 rw [show zbe (rows.map fun r => r.map f) r c = zbe (zbc rows.length wi fun r c => f (zbe rows r c)) r c from this, valAt_gridOf hr hc]
theorem val_mem {rows : List (List Int)} {wi r c : Nat} (h : Rect wi rows) (hr : r < rows.length) (hc : c < wi) : Vals rows (zbe rows r c) := by
 obtain ⟨row, h1, h2⟩ := valAt_get h hr hc
 exact List.mem_flatten.2 ⟨row, List.mem_of_getElem? h1, List.mem_of_getElem? h2⟩
theorem stAt_map {f : Int → Int} {rows : List (List Int)} {wi : Nat} (h : Rect wi rows) (hf : InjOn f (Vals rows)) : ∀ n, n ≤ rows.length * wi → stAt (mapG f rows) wi n = ((stAt rows wi n).1.map f, (stAt rows wi n).2)
 | 0, _ => rfl
 | n + 1, hn => by
  have hwi : 0 < wi := by
   rcases Nat.eq_zero_or_pos wi with h0 | h0
   ·subst h0; simp at hn
   ·exact h0
  have hr : n / wi < rows.length := by rw [Nat.div_lt_iff_lt_mul hwi]; omega
  have hc := Nat.mod_lt n hwi
  have hvals : ∀ y ∈ (stAt rows wi n).1, Vals rows y := by
   rw [stAt_ord h n (by omega)]
   intro y hy
   rcases ordL_sub _ _ y hy with h1 | h1
   ·cases h1
   ·exact List.mem_of_mem_take h1
  have hv := val_mem h hr hc
  simp only [stAt]
  rw [stAt_map h hf n (by omega), valAt_map h f hr hc]
  have hiff : f (zbe rows (n / wi) (n % wi)) ∈ (stAt rows wi n).1.map f ↔ zbe rows (n / wi) (n % wi) ∈ (stAt rows wi n).1 := by
   rw [List.mem_map]
   constructor
   ·rintro ⟨y, hy, e⟩
    rw [← hf y _ (hvals y hy) hv e]
    exact hy
   ·exact fun h => ⟨_, h, rfl⟩
  unfold stepS
  by_cases hm : zbe rows (n / wi) (n % wi) ∈ (stAt rows wi n).1
  ·rw [if_pos hm, if_pos (hiff.2 hm)]
   simp only
   rw [idxOf_map f (Vals rows) hf _ hv _ hvals]
  ·rw [if_neg hm, if_neg (fun hh => hm (hiff.1 hh))]
   simp
theorem rooms_map {f : Int → Int} {rows : List (List Int)} (hs : zbo rows = true) (hf : InjOn f (Vals rows)) : zay (mapG f rows) = zay rows := by
 unfold zay
 rw [mapG_length, mapG_wide, stAt_map (zch hs) hf _ (ycd _)]
theorem settled_map {f : Int → Int} {rows : List (List Int)} (hf : InjOn f (Vals rows)) : zby (mapG f rows) = zby rows := by
 by_cases hs : zbo rows = true
 ·rw [settled_shape hs, settled_shape (by rw [mapG_shape]; exact hs), rooms_map hs hf, canon_map hf, mapG_length, mapG_wide]
 ·unfold zby
  rw [if_neg hs, if_neg (by rw [mapG_shape]; exact hs)]
theorem plan_map {f : Int → Int} {rows : List (List Int)} (hf : InjOn f (Vals rows)) : planF (mapG f rows) = planF rows := by
 unfold planF
 rw [settled_map hf]
def doneF (t : List ByteArray) : List ByteArray × Bool := if t.all okText = true then planF (zak t) else ([], false)
theorem planF_shape {rows : List (List Int)} (h : zbo rows = true) : planF rows = if (zay rows).length ≤ 9 ∧ zbt (zay rows) = (rows.length : Int) * (zaj rows : Int) then (zbq (canon rows), true) else ([], false) := by
 unfold planF
 rw [settled_shape h]
 by_cases h9 : (zay rows).length ≤ 9
 ·rw [if_pos h9]
  by_cases hs : zbt (zay rows) = (rows.length : Int) * (zaj rows : Int)
  ·rw [decide_eq_true hs, if_pos ⟨h9, hs⟩]
  ·rw [decide_eq_false hs, if_neg (fun hh => hs hh.2)]
 ·rw [if_neg h9, if_neg (fun hh => h9 hh.1)]
theorem planF_noshape {rows : List (List Int)} (h : zbo rows = false) : planF rows = ([], false) := by
 unfold planF zby
 rw [if_neg (by rw [h]; simp)]
theorem names_nums {rows : List (List Int)} (h : zbo rows = true) : zak (zbq (canon rows)) = mapG (fun x => 97 + ((zbl rows).idxOf x : Int)) rows := by
 rw [numsOf_textOf _ (canon_val h)]
 unfold canon canonL mapG
 rw [List.map_map]
 apply List.map_congr_left
 intro r hr
 show (r.map _).map _ = _
 rw [List.map_map]
 rfl
theorem names_inj (rows : List (List Int)) : InjOn (fun x => 97 + ((zbl rows).idxOf x : Int)) (Vals rows) := by
 intro a b ha hb e
 have e2 : (zbl rows).idxOf a = (zbl rows).idxOf b := by
  have : (97 : Int) + ((zbl rows).idxOf a : Int) = 97 + ((zbl rows).idxOf b : Int) := e
  omega
 have h1 := List.idxOf_lt_length_of_mem (ordL_mem rows.flatten [] a ha)
 have h2 := List.idxOf_lt_length_of_mem (ordL_mem rows.flatten [] b hb)
 have e3 : (zbl rows)[(zbl rows).idxOf a]'h1 = a := List.getElem_idxOf h1
 have e4 : (zbl rows)[(zbl rows).idxOf b]'h2 = b := List.getElem_idxOf h2
 rw [← e3, ← e4]
 congr 1
theorem names_plan {rows : List (List Int)} (h : zbo rows = true) : planB (zbq (canon rows)) = decide ((zay rows).length ≤ 9 ∧ zbt (zay rows) = (rows.length : Int) * (zaj rows : Int)) := by
 have hn := names_nums h
 have hinj := names_inj rows
 have hl : (zbq (canon rows)).length = rows.length := by simp [zbq, canon, canonL]
 have hnm : namesOf (zbq (canon rows)) = zbq (canon rows) := by
  unfold namesOf
  rw [hn, canon_map hinj]
 unfold planB
 cases hG : gridOk (zbq (canon rows))
 ·rw [floorF_nogrid hG]
  have : ¬ (zay rows).length ≤ 9 := by
   intro h9
   have hL := rooms_len h
   have ht : gridOk (zbq (canon rows)) = true := by
    unfold gridOk
    rw [Bool.and_eq_true, hn, mapG_shape]
    refine ⟨h, ?_⟩
    rw [List.all_eq_true]
    intro s hs
    obtain ⟨r, hr, rfl⟩ := List.mem_map.1 hs
    unfold okText
    rw [bytesOf_rowText r (canon_val h r hr), List.all_eq_true]
    intro x hx
    obtain ⟨y, hy, rfl⟩ := List.mem_map.1 hx
    unfold canon canonL at hr
    obtain ⟨r0, hr0, rfl⟩ := List.mem_map.1 hr
    obtain ⟨z, hz, rfl⟩ := List.mem_map.1 hy
    have := List.idxOf_lt_length_of_mem (ordL_mem rows.flatten [] z (List.mem_flatten.2 ⟨r0, hr0, hz⟩))
    have h3 : (zbl rows).idxOf z < (zbl rows).length := this
    simp only [okLetter, Bool.not_eq_true', Bool.or_eq_false_iff, decide_eq_false_iff_not]
    omega
   rw [hG] at ht
   cases ht
  rw [decide_eq_false (fun hh => this hh.1)]
  rfl
 ·rw [floorF_grid hG, hn, rooms_map h hinj, mapG_wide, hl]
  by_cases hc : (zay rows).length ≤ 9 ∧ zbt (zay rows) = (rows.length : Int) * (zaj rows : Int)
  ·rw [if_pos ⟨hc.1, hc.2, hnm⟩, decide_eq_true hc]
   rfl
  ·rw [if_neg (fun hh => hc ⟨hh.1, hh.2.1⟩), decide_eq_false hc]
   rfl
theorem l1Done_j0 (k : Nat) (p : List ByteArray) (b : Bool) : spec_l1Done.j0 (k + 1) p b = if b = true then ((spec_l1None.f).bind fun bt177 => (some (bt177.1, bt177.2))) else ((spec_l1Names.f k p).bind fun t181 => (some (t181, true))) := by simp only [spec_l1Done.j0]
theorem l1None_f : spec_l1None.f = some ([], false) := rfl
theorem small_names {p : List ByteArray} (hp : smallP p) : smallP (namesOf p) := by
 have hl : (namesOf p).length = p.length := by simp [namesOf, zbq, canon, canonL, zak]
 refine ⟨by rw [hl]; exact hp.1, fun s hs => ?_⟩
 unfold namesOf zbq canon canonL zak at hs
 rw [List.map_map, List.map_map] at hs
 obtain ⟨s0, h0, rfl⟩ := List.mem_map.1 hs
 have := hp.2 s0 h0
 have hb := zbf s0
 show (rowText _).size ≤ _
 unfold rowText rowBytes
 show ((List.map letterOf (List.map _ (bytesOf s0))).toArray).size ≤ _
 simp
 omega
theorem l1Done_ev (t : List ByteArray) (hp : smallP t) : Evs (fun k => spec_l1Done.f k t) (doneF t) := by
 have hg := l1Grid_ev t hp
 cases hG : gridOk t
 ·rw [hG] at hg
  have hd : doneF t = ([], false) := by
   unfold doneF
   unfold gridOk at hG
   by_cases ha : t.all okText = true
   ·rw [ha, Bool.and_true] at hG
    rw [if_pos ha, planF_noshape hG]
   ·rw [if_neg ha]
  rw [hd]
  refine Evs.bind hg ?_
  refine Evs.congr (h := fun k => spec_l1Done.j0 k t true) (fun k => ?_) (Evs.step (h := fun _ => some ([], false)) (fun k => ?_) (Evs.const _))
  ·rw [if_neg (by simp)]
  ·rw [l1Done_j0, if_pos rfl, l1None_f]
   rfl
 ·rw [hG] at hg
  have hG2 := hG
  unfold gridOk at hG2
  rw [Bool.and_eq_true] at hG2
  have hs := hG2.1
  have hd : doneF t = if (zay (zak t)).length ≤ 9 ∧ zbt (zay (zak t)) = ((zak t).length : Int) * (zaj (zak t) : Int) then (namesOf t, true) else ([], false) := by
   unfold doneF
   rw [if_pos hG2.2, planF_shape hs]
   rfl
  have hn := l1Names_ev t hp (by have := shape_order hs; omega)
  have hpl := PlanIn_ev (namesOf t) (small_names hp)
  rw [show planB (namesOf t) = _ from names_plan hs] at hpl
  rw [hd]
  refine Evs.bind hg ?_
  refine Evs.congr (h := fun k => (spec_l1Names.f k t).bind fun t173 => ((spec_PlanIn.f k t173).bind fun t176 => (spec_l1Done.j0 k t (!t176)))) (fun k => ?_) (Evs.bind hn (Evs.bind hpl ?_))
  ·rw [if_pos rfl]
  ·by_cases hc : (zay (zak t)).length ≤ 9 ∧ zbt (zay (zak t)) = ((zak t).length : Int) * (zaj (zak t) : Int)
   ·rw [if_pos hc, decide_eq_true hc]
    refine Evs.step (h := fun k => (spec_l1Names.f k t).bind fun t181 => (some (t181, true))) (fun k => ?_) (Evs.bind hn (Evs.const _))
    rw [l1Done_j0, if_neg (by simp)]
   ·rw [if_neg hc, decide_eq_false hc]
    refine Evs.step (h := fun _ => some ([], false)) (fun k => ?_) (Evs.const _)
    rw [l1Done_j0, if_pos (by simp), l1None_f]
    rfl
structure PlanFacts (p : List ByteArray) (cs : List (List Int)) (rs : List Rc) : Prop where
 canon : Canon p
 cells : cs = Hd.canon (zak p)
 rooms : rs = zay (zak p)
 nums : zak p = mapG (fun x => 97 + x) cs
 ok : FloorOk cs rs
 len : p.length = cs.length
 wide : zaj (zak p) = zaj cs
 text : p = zbq cs
theorem floor_facts {p : List ByteArray} {cs : List (List Int)} {rs : List Rc} (h : zcg p = some (cs, rs)) : PlanFacts p cs rs := by
 have hok := floorF_ok h
 cases hG : gridOk p with
 | false => rw [floorF_nogrid hG] at h; cases h
 | true =>
  rw [floorF_grid hG] at h
  split at h
  ·rename_i hc
   injection h with h
   injection h with e1 e2
   have hC : Canon p := ⟨hG, hc.2.2⟩
   have hn : zak p = mapG (fun x => 97 + x) cs := by
    have := numsOf_textOf (canon (zak p)) (canon_val hC.shape)
    rw [show zbq (canon (zak p)) = p from hC.names, e1] at this
    exact this
   refine ⟨hC, e1.symm, e2.symm, hn, hok, ?_, ?_, ?_⟩
   ·rw [← zbp, hn, mapG_length]
   ·rw [hn, mapG_wide]
   ·rw [← e1]; exact hC.names.symm
  ·cases h
theorem bytesOf_strOfNums (xs : List Int) (h : ∀ x ∈ xs, 0 ≤ x ∧ x ≤ 255) : bytesOf (strOfNums xs) = xs := by
 unfold bytesOf strOfNums
 show ((xs.map fun n => UInt8.ofNat n.toNat).toArray.toList).map _ = _
 rw [List.map_map]
 conv => rhs; rw [← List.map_id xs]
 apply List.map_congr_left
 intro x hx
 have := h x hx
 show ((UInt8.ofNat x.toNat).toNat : Int) = x
 rw [UInt8.toNat_ofNat']
 omega
theorem FloorOk.rect {cs : List (List Int)} {rs : List Rc} (h : FloorOk cs rs) : Rect (zaj cs) cs := h.cells.row
theorem okText_of {s : ByteArray} (h : ∀ x ∈ bytesOf s, 97 ≤ x ∧ x ≤ 122) : okText s = true := by
 unfold okText
 rw [List.all_eq_true]
 intro x hx
 have := h x hx
 simp only [okLetter, Bool.not_eq_true', Bool.or_eq_false_iff, decide_eq_false_iff_not]
 omega
theorem planB_cases (p : List ByteArray) : (planB p = false ∧ zcg p = none) ∨ (planB p = true ∧ ∃ cs rs, zcg p = some (cs, rs)) := by
 unfold planB
 cases h : zcg p with
 | none => exact .inl ⟨rfl, rfl⟩
 | some t => exact .inr ⟨rfl, t.1, t.2, rfl⟩
def wideG (k : Nat) (cs : List (List Int)) (r c : Nat) : Int := zbe cs (r / k) (c / k)
set_option maxHeartbeats 4000000 in
set_option maxRecDepth 100000 in
theorem wide1_read (w : World) (p1 pk g k : Nat) (cs : List (List Int)) (rs : List Rc) (hk : FloorOk cs rs) (hf : FloorAt w g cs rs) (k1 : 1 ≤ k) (k3 : k ≤ 3) (hp1 : w.cell? ⟨p1, 0, none⟩ = some (.pointer (some ⟨g, 0, none⟩))) (hpk : w.cell? ⟨pk, 0, none⟩ = some (.int .i64 (k : Int))) :
  ReadFn Try.prog 78 #[.pointer (some ⟨p1, 0, none⟩), .pointer (some ⟨pk, 0, none⟩)] w (k * cs.length) (k * zaj cs) (wideG k cs) := by
 intro W r c hr hc hS
 replace hf := hf.sees hS
 replace hp1 := hS.cell hp1
 replace hpk := hS.cell hpk
 have hh1 := hk.h6
 have hw6 := hk.w6
 have hr2 : r / k < cs.length := by
  rw [Nat.div_lt_iff_lt_mul (by omega), Nat.mul_comm]; exact hr
 have hc2 : c / k < zaj cs := by
  rw [Nat.div_lt_iff_lt_mul (by omega), Nat.mul_comm]; exact hc
 have hrb : r < 18 := by
  have := Nat.mul_le_mul k3 hh1
  omega
 have hcb : c < 18 := by
  have := Nat.mul_le_mul k3 hw6
  omega
 have r0 : (0 : Int) ≤ r := by omega
 have c0 : (0 : Int) ≤ c := by omega
 obtain ⟨ad, q0, ad2, q2, x1, x2, x3⟩ := hf.cell hk (r / k) (c / k) hr2 hc2
 have hG : wideG k cs r c = zbe cs (r / k) (c / k) := rfl
 generalize wideG k cs r c = res at *
 generalize zbe cs (r / k) (c / k) = x at *
 have e1 : ((r : Int).tdiv (k : Int)) = ((r / k : Nat) : Int) := by
  rw [Int.tdiv_eq_ediv_of_nonneg (by omega)]
  exact (Int.natCast_ediv r k).symm
 have e2 : ((c : Int).tdiv (k : Int)) = ((c / k : Nat) : Int) := by
  rw [Int.tdiv_eq_ediv_of_nonneg (by omega)]
  exact (Int.natCast_ediv c k).symm
 have kz : ¬ ((k : Int) = 0) := by omega
 have r2 : (0 : Int) ≤ ((r / k : Nat) : Int) := Int.natCast_nonneg _
 have c2 : (0 : Int) ≤ ((c / k : Nat) : Int) := Int.natCast_nonneg _
 have r3 : ((r / k : Nat) : Int) < cs.length := by omega
 have c3 : ((c / k : Nat) : Int) < zaj cs := by omega
 have r4 : ((r / k : Nat) : Int) ≤ 1048576 := by omega
 have c4 : ((c / k : Nat) : Int) ≤ 1048576 := by omega
 generalize r / k = d at *
 generalize c / k = e at *
 have HG := zaa.mk hG
 clear hG hf hk hS hr hc hr2 hc2
 show Calls Try.prog _ #[.int .i64 (r : Int), .int .i64 (c : Int), .pointer (some ⟨p1, 0, none⟩), .pointer (some ⟨pk, 0, none⟩)] _ _
 go_enter Try.func78, Try.ntmps78
 go_wp2
 repeat (go_quiet (fail); try go_wp2)
 go_ret
 exact ⟨by rw [HG.out]; rfl, zab (Below.refl _ _) _⟩
def wideH (k : Nat) (cs : List (List Int)) (_ : List Rc) : List (List Int) := zbc (k * cs.length) (k * zaj cs) (wideG k cs)
set_option maxHeartbeats 4000000 in
set_option maxRecDepth 100000 in
theorem wide_fn (w : World) (pk k : Nat) (k1 : 1 ≤ k) (k3 : k ≤ 3) (hpk : w.cell? ⟨pk, 0, none⟩ = some (.int .i64 (k : Int))) : HowFn Try.prog 77 #[.pointer (some ⟨pk, 0, none⟩)] w (wideH k) := by
 intro W g cs rs hk hf hS
 have HK := zaa.mk hk
 have HF := zaa.mk hf
 have H1 := zaa.mk (high_f cs rs)
 have W1 := zaa.mk (wide_f hk)
 replace hpk := hS.cell hpk
 have a1 := hk.h6
 have a3 := hk.w6
 have m1 : k * cs.length ≤ 3 * 6 := Nat.mul_le_mul k3 a1
 have m2 : k * zaj cs ≤ 3 * 6 := Nat.mul_le_mul k3 a3
 have e1 : wrap64 ((k : Int) * (cs.length : Int)) = ((k * cs.length : Nat) : Int) := by rw [← Int.natCast_mul, zas (by omega) (by omega)]
 have e2 : wrap64 ((k : Int) * (zaj cs : Int)) = ((k * zaj cs : Nat) : Int) := by rw [← Int.natCast_mul, zas (by omega) (by omega)]
 have E1 := zaa.mk e1
 have E2 := zaa.mk e2
 have M1 := zaa.mk m1
 have M2 := zaa.mk m2
 clear hk hf hS e1 e2 m1 m2
 show Calls Try.prog _ #[.pointer (some ⟨g, 0, none⟩), .pointer (some ⟨pk, 0, none⟩)] _ _
 go_enter Try.func77, Try.ntmps77
 go_upto_region 1 with (first
  | ((with_reducible refine zbb (N := 2) rfl ?_); refine zbw ?hg (N := 2) ?hd (cs := #[.pointer (some ⟨g, 0, none⟩)]) (t := 52) ?hr ?_; (case hd => rfl); (case hg => rfl); (case hr => first | (go_simp; done) | (go_simp; rfl)); intro p1 hq1 w1 hbox hb; have HB1 := zaa.mk hb; have hp1 : w1.cell? ⟨p1, 0, none⟩ = some (.pointer (some ⟨g, 0, none⟩)) := box_cell hbox; replace hpk := zar hb hpk; have HF1 := zaa.mk (HF.out.below hb); clear hb hbox hq1))
 refine start_ (n := 11) (S := fun w' => (w'.cell? ⟨p1, 0, none⟩ = some (.pointer (some ⟨g, 0, none⟩))) ∧ (w'.cell? ⟨pk, 0, none⟩ = some (.int .i64 (k : Int))) ∧ (FloorAt w' g cs rs) ∧ (Below W.heap.size W w')) (ds := []) #[zf, zf, zf, zf, zf, zf, zf, zf, zf, zf, zf] (by kernel_rfl) rfl rfl (⟨hp1, hpk, HF1.out, ⟨HB1.out.os, HB1.out.tape, HB1.out.output, HB1.out.size, HB1.out.block⟩⟩) (fun hHeld => ?_)
 clear hp1 hpk
 refine take_ (i := 0) (N := some 4) (v := ?_) (a' := ?_) #[zt, zf, zf, zf, zf, zf, zf, zf, zf, zf, zf] rfl rfl (by kernel_rfl) (fun _ _ _ h => h) (Or.inl ⟨by rfl, ?_⟩) hHeld ?_ ?_
 rotate_left
 ·rintro w' ⟨s0, s1, s2, s3⟩
  go_simp
  with_reducible rfl
 rotate_left
 ·simp only [Act.put, ybw, ybx, yby, zau, zav]; rfl
 refine take_ (i := 1) (N := some 5) (v := ?_) (a' := ?_) #[zt, zt, zf, zf, zf, zf, zf, zf, zf, zf, zf] rfl rfl (by kernel_rfl) (fun _ _ _ h => h) (Or.inl ⟨by rfl, ?_⟩) hHeld ?_ ?_
 rotate_left
 ·rintro w' ⟨s0, s1, s2, s3⟩
  go_simp
  with_reducible rfl
 rotate_left
 ·simp only [Act.put, ybw, ybx, yby, zau, zav]; rfl
 refine take_ (i := 4) (N := some 8) (v := ?_) (a' := ?_) #[zt, zt, zf, zf, zt, zf, zf, zf, zf, zf, zf] rfl rfl (by kernel_rfl) (fun _ _ _ h => h) (Or.inl ⟨by rfl, ?_⟩) hHeld ?_ ?_
 rotate_left
 ·rintro w' ⟨s0, s1, s2, s3⟩
  go_simp
  with_reducible rfl
 rotate_left
 ·simp only [Act.put, ybw, ybx, yby, zau, zav]; rfl
 refine take_ (i := 5) (N := some 9) (v := ?_) (a' := ?_) #[zt, zt, zf, zf, zt, zt, zf, zf, zf, zf, zf] rfl rfl (by kernel_rfl) (fun _ _ _ h => h) (Or.inl ⟨by rfl, ?_⟩) hHeld ?_ ?_
 rotate_left
 ·rintro w' ⟨s0, s1, s2, s3⟩
  go_simp
  with_reducible rfl
 rotate_left
 ·simp only [Act.put, ybw, ybx, yby, zau, zav]; rfl
 refine zbd (i := 8) (N := some 12) (v := ?_) (a' := ?_) #[zt, zt, zf, zf, zt, zt, zf, zf, zt, zf, zf] rfl rfl (by kernel_rfl) (fun _ _ _ h => h) (Or.inl ⟨by rfl, ?_⟩) ?_ ?_
 rotate_left
 ·intro w'; go_simp; with_reducible rfl
 rotate_left
 ·simp only [Act.put, ybw, ybx, yby, zau, zav]; rfl
 refine one_ (i := 2) (N := some 6) #[zt, zt, zt, zf, zt, zt, zf, zf, zt, zf, zf] rfl rfl (by kernel_rfl) (by decide) (fun K hK => ?_)
 refine goes_ Try.func52 (by kernel_rfl) rfl #[.pointer (some ⟨g, 0, none⟩)] (by rfl) rfl rfl (by (try simp only [ybz, yca, List.map_nil]); first | done | rfl) ?_
 have hs_ := hHeld
 obtain ⟨s0, s1, s2, s3⟩ := hs_
 refine (impl_floor_high.calls g cs rs _ _ _ s2 (Below.refl _ _) H1.out).mono ?_
 rintro e w16 ⟨rfl, -, hb, -⟩
 refine ⟨_, rfl, ?_⟩
 refine hK.out _ _ ⟨zar hb s0, zar hb s1, FloorAt.below s2 hb, zae s3 hb⟩ (fun hHeld => ?_)
 clear hK K hb s0 s1 s2 s3
 refine norm_ (a' := ?_) ?_ ?_
 rotate_left
 ·show Act.put _ (some 6) _ = _
  simp only [Act.put, ybw, ybx, yby, zau, zav]
  rfl
 refine zbd (i := 3) (N := some 7) (v := ?_) (a' := ?_) #[zt, zt, zt, zt, zt, zt, zf, zf, zt, zf, zf] rfl rfl (by kernel_rfl) (fun _ _ _ h => h) (Or.inl ⟨by rfl, ?_⟩) ?_ ?_
 rotate_left
 ·intro w'; go_simp; with_reducible rfl
 rotate_left
 ·simp only [Act.put, ybw, ybx, yby, zau, zav]; rfl
 refine one_ (i := 6) (N := some 10) #[zt, zt, zt, zt, zt, zt, zt, zf, zt, zf, zf] rfl rfl (by kernel_rfl) (by decide) (fun K hK => ?_)
 refine goes_ Try.func51 (by kernel_rfl) rfl #[.pointer (some ⟨g, 0, none⟩)] (by rfl) rfl rfl (by (try simp only [ybz, yca, List.map_nil]); first | done | rfl) ?_
 have hs_ := hHeld
 obtain ⟨s0, s1, s2, s3⟩ := hs_
 refine (impl_floor_wide.calls g cs rs _ _ _ s2 (Below.refl _ _) W1.out).mono ?_
 rintro e w17 ⟨rfl, -, hb, -⟩
 refine ⟨_, rfl, ?_⟩
 refine hK.out _ _ ⟨zar hb s0, zar hb s1, FloorAt.below s2 hb, zae s3 hb⟩ (fun hHeld => ?_)
 clear hK K hb s0 s1 s2 s3
 refine norm_ (a' := ?_) ?_ ?_
 rotate_left
 ·show Act.put _ (some 10) _ = _
  simp only [Act.put, ybw, ybx, yby, zau, zav]
  rfl
 refine zbd (i := 7) (N := some 11) (v := ?_) (a' := ?_) #[zt, zt, zt, zt, zt, zt, zt, zt, zt, zf, zf] rfl rfl (by kernel_rfl) (fun _ _ _ h => h) (Or.inl ⟨by rfl, ?_⟩) ?_ ?_
 rotate_left
 ·intro w'; go_simp; with_reducible rfl
 rotate_left
 ·simp only [Act.put, ybw, ybx, yby, zau, zav]; rfl
 refine one_ (i := 9) (N := some 13) #[zt, zt, zt, zt, zt, zt, zt, zt, zt, zt, zf] rfl rfl (by kernel_rfl) (by decide) (fun K hK => ?_)
 refine goes_ Try.func75 (by kernel_rfl) rfl #[.int .i64 (wrap64 ((k : Int) * (cs.length : Int))), .int .i64 (wrap64 ((k : Int) * (zaj cs : Int))), .func (.func 78) #[] #[.pointer (some ⟨p1, 0, none⟩), .pointer (some ⟨pk, 0, none⟩)]] (by rfl) rfl rfl (by (try simp only [ybz, yca, List.map_nil]); first | done | rfl) ?_
 have hs_ := hHeld
 obtain ⟨s0, s1, s2, s3⟩ := hs_
 refine calls_of_args (args' := #[.int .i64 ((k * cs.length : Nat) : Int), .int .i64 ((k * zaj cs : Nat) : Int), .func (.func 78) #[] #[.pointer (some ⟨p1, 0, none⟩), .pointer (some ⟨pk, 0, none⟩)]]) (by rw [E1.out, E2.out]) ?_
 refine (blank_reads 78 Try.f78 Try.func78 (by kernel_rfl) rfl _ (k * cs.length) (k * zaj cs) _ _ (wide1_read _ p1 pk g k cs rs HK.out s2 k1 k3 s0 s1) (by have := M1.out; omega) (by have := M2.out; omega)).mono ?_
 rintro e w14 ⟨A14, c14, rfl, hl14, hC14, hb⟩
 have HC14 := zaa.mk hC14
 have HL14 := zaa.mk hl14
 have HB14 := zaa.mk (zae s3 hb)
 clear hC14 hl14
 refine ⟨_, rfl, ?_⟩
 refine hK.out _ _ ⟨zar hb s0, zar hb s1, FloorAt.below s2 hb, zae s3 hb⟩ (fun hHeld => ?_)
 clear hK K hb s0 s1 s2 s3
 refine norm_ (a' := ?_) ?_ ?_
 rotate_left
 ·show Act.put _ (some 13) _ = _
  simp only [Act.put, ybw, ybx, yby, zau, zav]
  rfl
 refine zbd (i := 10) (N := some 3) (v := ?_) (a' := ?_) #[zt, zt, zt, zt, zt, zt, zt, zt, zt, zt, zt] rfl rfl (by kernel_rfl) (fun _ _ _ h => h) (Or.inl ⟨by rfl, ?_⟩) ?_ ?_
 rotate_left
 ·intro w'; go_simp; with_reducible rfl
 rotate_left
 ·simp only [Act.put, ybw, ybx, yby, zau, zav]; rfl
 refine done_ (by kernel_rfl) ?_
 go_wp2
 go_ret
 exact ⟨A14, c14, rfl, HL14.out, HC14.out, HB14.out⟩
def wideF (p : List ByteArray) (k : Int) : List ByteArray × Bool := if 1 ≤ k ∧ k ≤ 3 then remadeF p (wideH k.toNat) else ([], false)
set_option maxHeartbeats 4000000 in
set_option maxRecDepth 100000 in
theorem PlanWide_calls (A0 : Option Addr) (c0 : Nat) (l0 : List ByteArray) (k : Int) (w : World) (hr0 : Kd.C Kd.string w A0 l0.length l0) (hc0 : l0.length ≤ c0) (hp : smallP l0) :
  Calls Try.prog 38 #[.slice A0 l0.length c0, .int .i64 k] w (PlanRes w (wideF l0 k)) := by
 have HR := zaa.mk hr0
 have HC := zaa.mk hc0
 have HP := zaa.mk hp
 clear hr0 hc0 hp
 generalize hM : wideF l0 k = res
 have HM := zaa.mk hM
 clear hM
 by_cases hk1 : k < 1
 ·have e : res = ([], false) := by rw [← HM.out]; unfold wideF; rw [if_neg (by omega)]
  subst e
  have d1 : decide (k < 1) = true := decide_eq_true hk1
  clear hk1
  go_enter Try.func38, Try.ntmps38
  go_wp2_with (first
   | ((with_reducible refine zbb (N := 3) rfl ?_); refine zbw ?hg (N := 3) ?hd (cs := #[.int .i64 k]) (t := 3) ?hr ?_; (case hd => rfl); (case hg => rfl); (case hr => first | (go_simp; done) | (go_simp; rfl)); intro pk hq1 w1 hbox hb; have HB1 := zaa.mk hb; have hpk : w1.cell? ⟨pk, 0, none⟩ = some (.int .i64 k) := box_cell hbox; clear hb hbox hq1))
  go_ret2
  exact ⟨.slice none 0 0, rfl, Kd.R_nil _ _ _ _ _, HB1.out⟩
 ·have d1 : decide (k < 1) = false := decide_eq_false hk1
  by_cases hk3 : 3 < k
  ·have e : res = ([], false) := by rw [← HM.out]; unfold wideF; rw [if_neg (by omega)]
   subst e
   have d2 : decide (3 < k) = true := decide_eq_true hk3
   clear hk1 hk3
   go_enter Try.func38, Try.ntmps38
   go_wp2_with (first
    | ((with_reducible refine zbb (N := 3) rfl ?_); refine zbw ?hg (N := 3) ?hd (cs := #[.int .i64 k]) (t := 3) ?hr ?_; (case hd => rfl); (case hg => rfl); (case hr => first | (go_simp; done) | (go_simp; rfl)); intro pk hq1 w1 hbox hb; have HB1 := zaa.mk hb; have hpk : w1.cell? ⟨pk, 0, none⟩ = some (.int .i64 k) := box_cell hbox; clear hb hbox hq1))
   go_ret2
   exact ⟨.slice none 0 0, rfl, Kd.R_nil _ _ _ _ _, HB1.out⟩
  ·have d2 : decide (3 < k) = false := decide_eq_false hk3
   obtain ⟨n, rfl⟩ := Int.eq_ofNat_of_zero_le (show 0 ≤ k by omega)
   have e : res = remadeF l0 (wideH n) := by rw [← HM.out]; unfold wideF; rw [if_pos (by omega), Int.toNat_natCast]
   have HE := zaa.mk e
   have HN := zaa.mk (show 1 ≤ n ∧ n ≤ 3 by omega)
   have HG := zaa.mk (show goodHow (wideH n) from fun cs rs hk => grid_vals fun r c hr hc => by
    have h1 := HN.out
    have := valAt_range hk (r / n) (c / n) (by rw [Nat.div_lt_iff_lt_mul (by omega), Nat.mul_comm]; exact hr) (by rw [Nat.div_lt_iff_lt_mul (by omega), Nat.mul_comm]; exact hc)
    have := hk.many
    unfold wideG
    omega)
   clear hk1 hk3 e
   go_enter Try.func38, Try.ntmps38
   go_wp2_with (first
    | ((with_reducible refine zbb (N := 3) rfl ?_); refine zbw ?hg (N := 3) ?hd (cs := #[.int .i64 (n : Int)]) (t := 3) ?hr ?_; (case hd => rfl); (case hg => rfl); (case hr => first | (go_simp; done) | (go_simp; rfl)); intro pk hq1 w1 hbox hb; have HB1 := zaa.mk hb; have hpk : w1.cell? ⟨pk, 0, none⟩ = some (.int .i64 (n : Int)) := box_cell hbox; clear hb hbox hq1)
    | (go_at_call 68; refine (remade_calls 77 Try.f77 Try.func77 (by kernel_rfl) rfl #[.pointer (some ⟨pk, 0, none⟩)] (wideH n) HG.out A0 c0 l0 _ (Kd.C_below HR.out HB1.out) HC.out HP.out (wide_fn _ pk n HN.out.1 HN.out.2 hpk)).mono ?_; rintro e w9 ⟨v9, rfl, hr9, hb9⟩; have HR9 := zaa.mk (Kd.R_lower hr9 HB1.out.size); have HB9 := zaa.mk (zae HB1.out hb9); clear hr9 hb9))
   go_ret2
   rw [HE.out]
   exact ⟨v9, rfl, HR9.out, HB9.out⟩
structure Mid (p : List ByteArray) (wi : Nat) : Prop where
 high : p.length ≤ 100
 wide : wi ≤ 100
 row : ∀ s ∈ p, s.size = wi
theorem Mid.rect {p : List ByteArray} {wi : Nat} (h : Mid p wi) : Rect wi (zak p) := by
 intro r hr
 obtain ⟨s, hs, rfl⟩ := List.mem_map.1 hr
 rw [zbf]
 exact h.row s hs
theorem Mid.small {p : List ByteArray} {wi : Nat} (h : Mid p wi) : smallP p := ⟨by have := h.high; omega, fun s hs => by rw [h.row s hs]; have := h.wide; omega⟩
def oftenG (rows : List (List Int)) (n : Nat) : List (List Int) := rows.flatMap fun r => List.replicate n r
theorem often_grid (h w n : Nat) (hn : 1 ≤ n) (g : Nat → Nat → Int) : oftenG (zbc h w g) n = zbc (n * h) w (fun r c => g (r / n) c) := by
 unfold oftenG zbc
 rw [List.flatMap_map]
 induction h with
 | zero => simp
 | succ h ih =>
  rw [List.range_succ, List.flatMap_append, ih, Nat.mul_succ, List.range_add, List.map_append]
  congr 1
  rw [List.flatMap_cons, List.flatMap_nil, List.append_nil, List.map_map]
  apply List.ext_getElem?
  intro j
  by_cases hj : j < n
  ·rw [List.getElem?_replicate, if_pos hj, List.getElem?_map, List.getElem?_range hj]
   simp only [Option.map_some, Function.comp_apply]
   rw [Nat.mul_add_div (by omega), Nat.div_eq_of_lt hj, Nat.add_zero]
  ·rw [List.getElem?_eq_none (by simp; omega), List.getElem?_eq_none (by simp; omega)]
def colOf (p : List ByteArray) (c : Nat) : List Int := p.map fun s => (bytesOf s).getD c 0
def transOf (p : List ByteArray) (wi : Nat) : List ByteArray := (List.range wi).map fun c => strOfNums (colOf p c)
theorem trans_l1 (p : List ByteArray) (wi : Nat) (h : Mid p wi) (c : Nat) (hc : c < wi) (x3 : List ByteArray) (h3 : x3.length ≤ 1000) (r : List ByteArray) (hnext : Evs (fun k => spec_l1Trans.l0 k p (x3 ++ [strOfNums (colOf p c)]) ((c + 1 : Nat) : Int)) r) :
  ∀ m i, i + m = p.length → Evs (fun k => spec_l1Trans.l1 k p x3 (c : Int) (colOf (p.take i) c) (i : Int)) r := by
 have hh := h.high
 have hw := h.wide
 intro m
 induction m with
 | zero =>
  intro i hi
  rw [List.take_of_length_le (by omega)]
  refine Evs.step (h := fun k => spec_l1Trans.l0 k p (x3 ++ [strOfNums (colOf p c)]) ((c + 1 : Nat) : Int)) (fun k => ?_) hnext
  conv => lhs; unfold spec_l1Trans.l1
  rw [if_neg (by omega), if_pos (by omega), zbr (by omega)]
 | succ m ih =>
  intro i hi
  obtain ⟨s, hs⟩ : ∃ s, p[i]? = some s := ⟨_, List.getElem?_eq_getElem (by omega)⟩
  have hsz := h.row s (List.mem_of_getElem? hs)
  have hnx := ih (i + 1) (by omega)
  have e : colOf (p.take (i + 1)) c = colOf (p.take i) c ++ [(bytesOf s).getD c 0] := by
   unfold colOf
   rw [List.take_add_one, hs, List.map_append]
   rfl
  rw [e] at hnx
  refine Evs.step (h := fun k => spec_l1Trans.l1 k p x3 (c : Int) (colOf (p.take i) c ++ [(bytesOf s).getD c 0]) ((i + 1 : Nat) : Int)) (fun k => ?_) hnx
  conv => lhs; unfold spec_l1Trans.l1
  rw [if_pos (by omega), if_pos (by omega), if_pos (by omega), zca hs, if_pos (by omega), if_pos (by simp [colOf]; omega), ← bytesOf_get, zbr (by omega)]
theorem trans_l0 (p : List ByteArray) (wi : Nat) (h : Mid p wi) (h1 : 1 ≤ p.length) : ∀ m c, c + m = wi → Evs (fun k => spec_l1Trans.l0 k p ((List.range c).map fun c => strOfNums (colOf p c)) (c : Int)) (transOf p wi) := by
 have hh := h.high
 have hw := h.wide
 obtain ⟨s, hs⟩ : ∃ s, p[0]? = some s := ⟨_, List.getElem?_eq_getElem (by omega)⟩
 have hsz := h.row s (List.mem_of_getElem? hs)
 have e0 : rdOf ycc p 0 = s := zca (i := 0) hs
 intro m
 induction m with
 | zero =>
  intro c hc
  obtain rfl : c = wi := by omega
  refine Evs.step (h := fun _ => some (transOf p c)) (fun k => ?_) (Evs.const _)
  conv => lhs; unfold spec_l1Trans.l0
  rw [if_pos (by omega), e0, if_neg (by omega)]
  rfl
 | succ m ih =>
  intro c hc
  have hnx := ih (c + 1) (by omega)
  rw [List.range_succ, List.map_append] at hnx
  have := trans_l1 p wi h c (by omega) ((List.range c).map fun c => strOfNums (colOf p c)) (by simp; omega) _ hnx p.length 0 (by omega)
  refine Evs.step (h := fun k => spec_l1Trans.l1 k p ((List.range c).map fun c => strOfNums (colOf p c)) (c : Int) (colOf (p.take 0) c) ((0 : Nat) : Int)) (fun k => ?_) this
  conv => lhs; unfold spec_l1Trans.l0
  rw [if_pos (by omega), e0, if_pos (by omega)]
  rfl
theorem l1Trans_ev (p : List ByteArray) (wi : Nat) (h : Mid p wi) (h1 : 1 ≤ p.length) : Evs (fun k => spec_l1Trans.f k p) (transOf p wi) := trans_l0 p wi h h1 wi 0 (by omega)
theorem colOf_range (p : List ByteArray) (c : Nat) : ∀ x ∈ colOf p c, 0 ≤ x ∧ x ≤ 255 := by
 intro x hx
 obtain ⟨s, hs, rfl⟩ := List.mem_map.1 hx
 rw [ycb]
 cases h : (bytesOf s)[c]? with
 | none => simp
 | some y => exact bytesOf_range s y (List.mem_of_getElem? h)
theorem numsOf_trans (p : List ByteArray) (wi : Nat) : zak (transOf p wi) = zbc wi p.length (fun r c => zbe (zak p) c r) := by
 unfold zak transOf zbc
 rw [List.map_map]
 apply List.map_congr_left
 intro c hc
 show bytesOf (strOfNums (colOf p c)) = _
 rw [bytesOf_strOfNums _ (colOf_range p c)]
 unfold colOf
 apply List.ext_getElem?
 intro i
 rw [List.getElem?_map, List.getElem?_map]
 by_cases hi : i < p.length
 ·rw [List.getElem?_range hi, List.getElem?_eq_getElem hi]
  simp only [Option.map_some]
  congr 1
  unfold zbe
  rw [ycb (l := List.map bytesOf p), List.getElem?_map, List.getElem?_eq_getElem hi]
  rfl
 ·rw [List.getElem?_eq_none (by omega), List.getElem?_eq_none (by simp; omega)]
  rfl
theorem mapG_gridOf (f : Int → Int) (h w : Nat) (g : Nat → Nat → Int) : mapG f (zbc h w g) = zbc h w (fun r c => f (g r c)) := by
 unfold mapG zbc
 rw [List.map_map]
 apply List.map_congr_left
 intro r hr
 show (List.map _ _).map f = _
 rw [List.map_map]
 rfl
theorem mid_trans {p : List ByteArray} {wi : Nat} (h : Mid p wi) : Mid (transOf p wi) p.length := by
 refine ⟨by simp [transOf]; exact h.wide, h.high, fun s hs => ?_⟩
 obtain ⟨c, hc, rfl⟩ := List.mem_map.1 hs
 show (List.map _ (colOf p c)).toArray.size = _
 simp [colOf]
theorem trans_length (p : List ByteArray) (wi : Nat) : (transOf p wi).length = wi := by simp [transOf]
section
variable {α : Type} {g h : Nat → Option α} {r : α} {c : Prop} [Decidable c]
theorem Evs.pos (hc : c) (hg : Evs g r) : Evs (fun k => if c then g k else h k) r := Evs.congr (fun k => if_pos hc) hg
theorem Evs.neg (hc : ¬ c) (hh : Evs h r) : Evs (fun k => if c then g k else h k) r := Evs.congr (fun k => if_neg hc) hh
end
end Go.Proofs.Ytickdcegnlldjaa.Hd
namespace Go.Proofs.Ytickdcegnlldjaa.Hd
open Go.RowKit Go.PW.PrintWords Go.PW.PrintLast Go.PW.PrintMore Go.Proofs.Ytickdcegnlldjaa.PB
def runC (d : Nat → Bool) : Nat → List (Nat × Nat) × Option Nat
 | 0 => ([], none)
 | n + 1 => match runC d n with
  | (c, none) => (c, if d n then some n else none)
  | (c, some f) => if d n then (c, some f) else (c ++ [(f, n - f)], none)
def openR (n : Nat) : Option Nat → List (Nat × Nat)
 | none => []
 | some f => [(f, n - f)]
def runs (d : Nat → Bool) (n : Nat) : List (Nat × Nat) := (runC d n).1 ++ openR n (runC d n).2
def trip (d : Nat → Nat → Bool) (n : Nat) : Nat → List (Nat × Nat × Nat)
 | 0 => []
 | j + 1 => trip d n j ++ (runs (d (j + 1)) n).map fun x => (j + 1, x.1, x.2)
def difB (cs : List (List Int)) (lv : Bool) (line i : Nat) : Bool := if lv = true then zbe cs (line - 1) i != zbe cs line i else zbe cs i (line - 1) != zbe cs i line
def sidesOf (cs : List (List Int)) (lv : Bool) (line i : Nat) : Int × Int := if lv = true then (zbe cs (line - 1) i, zbe cs line i) else (zbe cs i (line - 1), zbe cs i line)
def upT (cs : List (List Int)) : List (Nat × Nat × Nat) := trip (difB cs false) cs.length (zaj cs - 1)
def levT (cs : List (List Int)) : List (Nat × Nat × Nat) := trip (difB cs true) (zaj cs) (cs.length - 1)
def sumZ : List Int → Int
 | [] => 0
 | x :: r => x + sumZ r
def hit (x : Int × Int) (a b : Int) : Int := (if x = (a, b) then 1 else 0) + (if x = (b, a) then 1 else 0)
def hits (T : List (Int × Int)) (a b : Int) : Int := sumZ (T.map fun x => hit x a b)
def touchW (cs : List (List Int)) (lv : Bool) (x : Nat × Nat × Nat) : List (Int × Int) := (List.range x.2.2).map fun j => sidesOf cs lv x.1 (x.2.1 + j)
def touchL (cs : List (List Int)) : List (Int × Int) := (upT cs).flatMap (touchW cs false) ++ (levT cs).flatMap (touchW cs true)
def givenB (p : List ByteArray) (a : Int) : Bool := match zcg p with
 | none => false
 | some (_, rs) => hasB rs a
theorem l1Given_ev (p : List ByteArray) (a : Int) (hp : smallP p) : Evs (fun k => spec_l1Given.f k p a) (givenB p a) := by
 have h1 := PlanIn_ev p hp
 rcases planB_cases p with ⟨e1, f1⟩ | ⟨e1, cs, rs, f1⟩
 ·rw [e1] at h1
  have : givenB p a = false := by unfold givenB; rw [f1]
  rw [this]
  refine Evs.bind h1 ?_
  refine Evs.congr (h := fun _ => some false) (fun k => ?_) (Evs.const _)
  rw [if_neg (by simp)]
 ·rw [e1] at h1
  have F := floor_facts f1
  have hg : givenB p a = hasB rs a := by unfold givenB; rw [f1]
  have hR := l1Rooms_ev p _ (gridOk_small F.canon.grid)
  rw [F.canon.max, ← F.rooms] at hR
  have h9 := F.ok.many
  rw [hg]
  refine Evs.bind h1 ?_
  refine Evs.congr (h := fun k => (spec_l1Rooms.f k p).bind fun t167 => ((spec_l6In.f a 0 (wrap64 (t167 - 1))).bind fun t168 => (some t168))) (fun k => ?_) (Evs.bind hR ?_)
  ·rw [if_pos rfl]
  ·refine Evs.congr (h := fun _ => some (hasB rs a)) (fun k => ?_) (Evs.const _)
   rw [zas (by omega) (by omega), l6In_f]
   simp only [Option.bind_some]
   unfold hasB
   congr 2
   congr 1
   exact propext ⟨fun h => by omega, fun h => by omega⟩
theorem floor_sum {p : List ByteArray} {cs : List (List Int)} {rs : List Rc} (h : zcg p = some (cs, rs)) : zbt rs = (p.length : Int) * (zaj (zak p) : Int) := by
 have F := floor_facts h
 rw [floorF_grid F.canon.grid] at h
 split at h
 ·rename_i hc
  rw [F.rooms]
  exact hc.2.1
 ·cases h
theorem count_conv (rows : List (List Int)) (wi : Nat) (x : Int) (b : Rc) : ∀ n, (∀ m, m < n → zcr rows wi m = x → inBox b wi m) → zci rows wi x n = countB b wi n → ∀ m, m < n → inBox b wi m → zcr rows wi m = x
 | 0, _, _, m, hm, _ => by omega
 | n + 1, h, he, m, hm, hb => by
  have hle := countN_le_B rows wi x b n (fun m hm => h m (by omega))
  simp only [zci, countB] at he
  by_cases hx : zcr rows wi n = x
  ·rw [if_pos hx, if_pos (h n (by omega) hx)] at he
   rcases Nat.lt_or_eq_of_le (Nat.lt_succ_iff.1 hm) with h1 | h1
   ·exact count_conv rows wi x b n (fun m hm => h m (by omega)) (by omega) m h1 hb
   ·subst h1; exact hx
  ·rw [if_neg hx] at he
   by_cases hbn : inBox b wi n
   ·rw [if_pos hbn] at he; omega
   ·rw [if_neg hbn] at he
    rcases Nat.lt_or_eq_of_le (Nat.lt_succ_iff.1 hm) with h1 | h1
    ·exact count_conv rows wi x b n (fun m hm => h m (by omega)) he m h1 hb
    ·subst h1; exact absurd hb hbn
theorem room_cells {p : List ByteArray} {cs : List (List Int)} {rs : List Rc} (h : zcg p = some (cs, rs)) (i : Nat) (hi : i < rs.length) (r c : Nat) (hr : r < cs.length) (hc : c < zaj cs) :
  zbe cs r c = (i : Int) ↔ ((rs.getD i zcf).f0 ≤ r ∧ (r : Int) < (rs.getD i zcf).f0 + (rs.getD i zcf).f2 ∧ (rs.getD i zcf).f1 ≤ c ∧ (c : Int) < (rs.getD i zcf).f1 + (rs.getD i zcf).f3) := by
 have F := floor_facts h
 have hsum := floor_sum h
 have hrs := F.rooms
 have hfull := full_iff F.canon
 rw [← hrs, decide_eq_true hsum, List.all_eq_true] at hfull
 have hf := of_decide_eq_true (hfull i (List.mem_range.2 hi))
 rw [← hrs] at hf
 have hs := F.canon.shape
 obtain ⟨x, hx, hb, hbd⟩ := rooms_box hs i (by rw [← hrs]; exact hi)
 rw [zbp, ← hrs] at hb hbd
 have hiff : ∀ m, m < p.length * zaj (zak p) → (zcr (zak p) (zaj (zak p)) m = (i : Int) ↔ zbe (zak p) (m / zaj (zak p)) (m % zaj (zak p)) = x) := fun m hm => by
  rw [F.canon.cell m hm]
  exact idx_iff (ordAll_nodup _) hx (cell_mem hs m (by rw [zbp]; exact hm))
 have hin : ∀ m, m < p.length * zaj (zak p) → zcr (zak p) (zaj (zak p)) m = (i : Int) → inBox (rs.getD i zcf) (zaj (zak p)) m := fun m hm hv => hb.ins m hm ((hiff m hm).1 hv)
 have hcb := countB_all (rs.getD i zcf) p.length (zaj (zak p)) hbd
 have hconv := count_conv _ _ _ _ _ hin (hf.trans hcb.symm)
 rw [F.wide] at hin hconv
 have hm : r * zaj cs + c < p.length * zaj cs := by
  rw [F.len]
  have : (r + 1) * zaj cs ≤ cs.length * zaj cs := Nat.mul_le_mul_right _ hr
  rw [Nat.succ_mul] at this
  omega
 obtain ⟨d1, d2⟩ := divmod_of (r := r) hc
 have hcell : zcr (zak p) (zaj cs) (r * zaj cs + c) = zbe cs r c := by
  unfold zcr
  rw [d1, d2, F.nums, valAt_map F.ok.rect _ hr hc]
  omega
 have hib : inBox (rs.getD i zcf) (zaj cs) (r * zaj cs + c) ↔ ((rs.getD i zcf).f0 ≤ r ∧ (r : Int) < (rs.getD i zcf).f0 + (rs.getD i zcf).f2 ∧ (rs.getD i zcf).f1 ≤ c ∧ (c : Int) < (rs.getD i zcf).f1 + (rs.getD i zcf).f3) := by unfold inBox; rw [d1, d2]
 rw [← hcell, ← hib]
 exact ⟨hin _ hm, hconv _ hm⟩
def touchM (cs : List (List Int)) (n : Nat) : List (List Int) := zbc n n fun a b => hits (touchL cs) a b
theorem Evs.stepNeg {α : Type} {c : Prop} {inst : Decidable c} {a h g : Nat → Option α} {r : α} (e : ∀ k, g (k + 1) = @ite _ c inst (a k) (h k)) (hc : ¬ c) (hh : Evs h r) : Evs g r := Evs.step (fun k => (e k).trans (if_neg hc)) hh
theorem Evs.stepPos {α : Type} {c : Prop} {inst : Decidable c} {a h g : Nat → Option α} {r : α} (e : ∀ k, g (k + 1) = @ite _ c inst (a k) (h k)) (hc : c) (hh : Evs a r) : Evs g r := Evs.step (fun k => (e k).trans (if_pos hc)) hh
structure Lil (p : List ByteArray) : Prop where
 high : p.length ≤ 100
 row : ∀ s ∈ p, s.size ≤ 100
theorem Lil.small {p : List ByteArray} (h : Lil p) : smallP p := ⟨by have := h.high; omega, fun s hs => by have := h.row s hs; omega⟩
theorem Mid.lil {p : List ByteArray} {wi : Nat} (h : Mid p wi) : Lil p := ⟨h.high, fun s hs => by rw [h.row s hs]; exact h.wide⟩
theorem bt_range (s : ByteArray) (j : Nat) (hj : j < s.size) : 0 ≤ bt s (j : Int) ∧ bt s (j : Int) ≤ 255 := by
 obtain ⟨x, hx⟩ : ∃ x, (bytesOf s)[j]? = some x := ⟨_, List.getElem?_eq_getElem (by rw [zbf]; omega)⟩
 have hr := bytesOf_range s x (List.mem_of_getElem? hx)
 rw [← bt_get hx] at hr
 exact hr
theorem roomsA_l1 (p : List ByteArray) (h : Lil p) (i : Nat) (s : ByteArray) (hs : p[i]? = some s) (hnext : ∀ v, 0 ≤ v → v ≤ 255 → ∃ r, 0 ≤ r ∧ r ≤ 255 ∧ Evs (fun k => spec_l1Rooms.l0 k p v ((i + 1 : Nat) : Int)) r) :
  ∀ m j v, j + m = s.size → 0 ≤ v → v ≤ 255 → ∃ r, 0 ≤ r ∧ r ≤ 255 ∧ Evs (fun k => spec_l1Rooms.l1 k p v (i : Int) (j : Int)) r := by
 have h6 := h.high
 have w6 := h.row s (List.mem_of_getElem? hs)
 have hi := (List.getElem?_eq_some_iff.1 hs).1
 intro m
 induction m with
 | zero =>
  intro j v hj v0 v1
  obtain ⟨r, r0, r1, hr⟩ := hnext v v0 v1
  refine ⟨r, r0, r1, Evs.step (fun k => ?_) hr⟩
  conv => lhs; unfold spec_l1Rooms.l1
  rw [if_pos (by omega), if_pos (by omega), zca hs, if_neg (by omega), zbr (by omega)]
 | succ m ih =>
  intro j v hj v0 v1
  have hb := bt_range s j (by omega)
  obtain ⟨r, r0, r1, hr⟩ := ih (j + 1) (max v (bt s (j : Int) - 97 + 1)) (by omega) (by omega) (by omega)
  refine ⟨r, r0, r1, Evs.step (fun k => ?_) hr⟩
  conv => lhs; unfold spec_l1Rooms.l1
  rw [if_pos (by omega), if_pos (by omega), zca hs, if_pos (by omega), if_pos (by omega), zas (x := bt s (j : Int)) (by omega) (by omega), zas (x := bt s (j : Int) - 97) (by omega) (by omega), zas (x := bt s (j : Int) - 97 + 1) (by omega) (by omega), zbr (by omega), mx_max]
theorem roomsA_l0 (p : List ByteArray) (h : Lil p) : ∀ m i v, i + m = p.length → 0 ≤ v → v ≤ 255 → ∃ r, 0 ≤ r ∧ r ≤ 255 ∧ Evs (fun k => spec_l1Rooms.l0 k p v (i : Int)) r := by
 have h6 := h.high
 intro m
 induction m with
 | zero =>
  intro i v hi v0 v1
  refine ⟨v, v0, v1, Evs.step (h := fun _ => some v) (fun k => ?_) (Evs.const _)⟩
  conv => lhs; unfold spec_l1Rooms.l0
  rw [if_neg (by omega)]
 | succ m ih =>
  intro i v hi v0 v1
  obtain ⟨s, hs⟩ : ∃ s, p[i]? = some s := ⟨_, List.getElem?_eq_getElem (by omega)⟩
  obtain ⟨r, r0, r1, hr⟩ := roomsA_l1 p h i s hs (fun v v0 v1 => ih (i + 1) v (by omega) v0 v1) s.size 0 v (by omega) v0 v1
  refine ⟨r, r0, r1, Evs.step (fun k => ?_) hr⟩
  conv => lhs; unfold spec_l1Rooms.l0
  rw [if_pos (by omega)]
  rfl
theorem l1Rooms_any (p : List ByteArray) (h : Lil p) : ∃ r, 0 ≤ r ∧ r ≤ 255 ∧ Evs (fun k => spec_l1Rooms.f k p) r := roomsA_l0 p h p.length 0 0 (by omega) (by omega) (by omega)
theorem rd_at {p : List Int} {i : Nat} {s : Int} (h : p[i]? = some s) : rd p (i : Int) = s := by
 unfold rd; rw [Int.toNat_natCast, ycb, h]; rfl
theorem sameTexts_l0 (a b : List ByteArray) (hl : a.length = b.length) (ha : a.length ≤ 1000000) : ∀ m i, i + m = a.length → Evs (fun k => laws_sameTexts.l0 k a b (i : Int)) (decide (a.drop i = b.drop i)) := by
 intro m
 induction m with
 | zero =>
  intro i hi
  refine Evs.step (h := fun _ => some (decide (a.drop i = b.drop i))) (fun k => ?_) (Evs.const _)
  conv => lhs; unfold laws_sameTexts.l0
  rw [if_neg (by omega), List.drop_eq_nil_of_le (by omega), List.drop_eq_nil_of_le (by omega)]
  rfl
 | succ m ih =>
  intro i hi
  obtain ⟨s, hs⟩ : ∃ s, a[i]? = some s := ⟨_, List.getElem?_eq_getElem (by omega)⟩
  obtain ⟨t, ht⟩ : ∃ t, b[i]? = some t := ⟨_, List.getElem?_eq_getElem (by omega)⟩
  have hsd : a.drop i = s :: a.drop (i + 1) := by rw [List.drop_eq_getElem_cons (by omega)]; rw [List.getElem?_eq_getElem (by omega)] at hs; rw [Option.some.inj hs]
  have htd : b.drop i = t :: b.drop (i + 1) := by rw [List.drop_eq_getElem_cons (by omega)]; rw [List.getElem?_eq_getElem (by omega)] at ht; rw [Option.some.inj ht]
  by_cases e : s = t
  ·have hd : decide (a.drop i = b.drop i) = decide (a.drop (i + 1) = b.drop (i + 1)) := by rw [hsd, htd, e]; simp
   rw [hd]
   refine Evs.step (h := fun k => laws_sameTexts.l0 k a b ((i + 1 : Nat) : Int)) (fun k => ?_) (ih (i + 1) (by omega))
   conv => lhs; unfold laws_sameTexts.l0
   rw [if_pos (by omega), if_pos (by omega), if_pos (by omega), zca hs, zca ht, if_pos (by rw [e]), zbr (by omega)]
  ·have hd : decide (a.drop i = b.drop i) = false := by rw [hsd, htd]; simp [e]
   rw [hd]
   refine Evs.step (h := fun _ => some false) (fun k => ?_) (Evs.const _)
   conv => lhs; unfold laws_sameTexts.l0
   rw [if_pos (by omega), if_pos (by omega), if_pos (by omega), zca hs, zca ht, if_neg (fun h => e (toList_inj.1 h))]
theorem sameTexts_ev (a b : List ByteArray) (ha : a.length ≤ 1000000) : Evs (fun k => laws_sameTexts.f k a b) (decide (a = b)) := by
 by_cases hl : a.length = b.length
 ·refine Evs.congr (h := fun k => laws_sameTexts.l0 k a b ((0 : Nat) : Int)) (fun k => ?_) (sameTexts_l0 a b hl ha a.length 0 (by omega))
  unfold laws_sameTexts.f
  rw [if_pos (by omega)]; rfl
 ·have : decide (a = b) = false := by simp; intro h; rw [h] at hl; exact hl rfl
  rw [this]
  refine Evs.congr (h := fun _ => some false) (fun k => ?_) (Evs.const _)
  unfold laws_sameTexts.f
  rw [if_neg (by omega)]
theorem sameTexts_refl (a : List ByteArray) (ha : a.length ≤ 1000000) : Evs (fun k => laws_sameTexts.f k a a) true := by
 have := sameTexts_ev a a ha
 simpa using this
theorem MatAt.typed {W : World} {g n : Nat} {bs : List Nat} {rows : List (List Int)} (h : MatAt W g n bs rows) {b : Nat} (hb : b ∈ bs) : ∃ x, W.heap[b]? = some (.cells x 3 (0, 0)) := by
 obtain ⟨i, hi, e⟩ := List.mem_iff_getElem.1 hb
 have hr : i < rows.length := by rw [← h.len]; exact hi
 exact ⟨_, h.row i b _ (by rw [List.getElem?_eq_getElem hi, e]) (List.getElem?_eq_getElem hr)⟩
structure NextIn (w0 w : World) (pl pm po pn : Nat) (Al : Option Addr) (cl : Nat) (cs : List (List Int)) (n many : Nat) (P : Nat → Prop) (L : List Int) (v : Value) : Prop where
 below : Below w0.heap.size w0 w
 lens : w.cell? ⟨pl, 0, none⟩ = some (.slice Al (touchM cs n).length cl)
 many : w.cell? ⟨pm, 0, none⟩ = some (.int .i64 (many : Int))
 next : w.cell? ⟨pn, 0, none⟩ = some (.func (.func 103) #[] #[.pointer (some ⟨po, 0, none⟩), .pointer (some ⟨pl, 0, none⟩), .pointer (some ⟨pm, 0, none⟩), .pointer (some ⟨pn, 0, none⟩)])
 out : w.heap[po]? = some (.cells #[v] 24 (0, 0))
 row : Kd.R (Kd.int .i64) 3 w w0.heap.size P v L
 base : w0.heap.size ≤ po
 ne : pl ≠ po ∧ pm ≠ po ∧ pn ≠ po
 no : ¬ P po ∧ ¬ P pl ∧ ¬ P pm ∧ ¬ P pn
theorem NextIn.kept {w0 w W : World} {pl pm po pn : Nat} {Al : Option Addr} {cl : Nat} {cs : List (List Int)} {n many : Nat} {P : Nat → Prop} {L : List Int} {v : Value} (h : NextIn w0 w pl pm po pn Al cl cs n many P L v) (hk : Kept w W (fun k => k = po ∨ P k)) :
  W.cell? ⟨pl, 0, none⟩ = some (.slice Al (touchM cs n).length cl) ∧ W.cell? ⟨pm, 0, none⟩ = some (.int .i64 (many : Int)) ∧ W.cell? ⟨pn, 0, none⟩ = some (.func (.func 103) #[] #[.pointer (some ⟨po, 0, none⟩), .pointer (some ⟨pl, 0, none⟩), .pointer (some ⟨pm, 0, none⟩), .pointer (some ⟨pn, 0, none⟩)]) :=
 ⟨cell_kept h.lens hk (fun z => z.elim h.ne.1 h.no.2.1), cell_kept h.many hk (fun z => z.elim h.ne.2.1 h.no.2.2.1), cell_kept h.next hk (fun z => z.elim h.ne.2.2 h.no.2.2.2)⟩
theorem set_one {w : World} {b : Nat} {t : TypeId} {x : Value} (h : w.heap[b]? = some (.cells #[x] t (0, 0))) (v : Value) : (w.setCell ⟨b, 0, none⟩ v).heap[b]? = some (.cells #[v] t (0, 0)) := by
 simp only [World.setCell, Array.getElem?_modify, if_true, h, Option.map_some]
 simp
set_option maxHeartbeats 2000000 in
set_option maxRecDepth 100000 in
theorem cloneG_calls (ad : Addr) (c : Nat) (hs : List Value) (w : World) (hc : ∀ j u, hs[j]? = some u → w.cell? (ad.add j) = some u) (h1 : ∀ u ∈ hs, u.oneCell' = true) (h0 : 0 < hs.length) (h6 : hs.length ≤ 1048576) :
  Calls Try.prog 71 #[.slice (some ad) hs.length c] w fun e w' => ∃ g tl, e = .returned (.slice (some ⟨g, 0, none⟩) hs.length (hs.length + tl.length)) ∧ w'.heap[g]? = some (.cells (hs ++ tl).toArray 24 (0, 0)) ∧ hs.length + tl.length ≤ maxLen ∧ w.heap.size ≤ g ∧ Below w.heap.size w w' := by
 have i3 : (Try.prog.info? 24).map (fun i => (i.zero, i.size, i.bytes)) = some (some (.slice none 0 0), 1, 24) := by kernel_rfl
 obtain ⟨i0, hi, hzz⟩ := Option.map_eq_some_iff.1 i3
 simp only [Prod.mk.injEq] at hzz
 obtain ⟨hz0, hz1, hz2⟩ := hzz
 have HC := zaa.mk hc
 have H6 := zaa.mk h6
 have H0 := zaa.mk h0
 have H1 := zaa.mk h1
 have HI := zaa.mk hi
 have HZ0 := zaa.mk hz0
 have HZ1 := zaa.mk hz1
 have HZ2 := zaa.mk hz2
 clear hc h6 h0 h1 i3 hi hz0 hz1 hz2
 have q22 : ∀ (w : World) (a : Option Addr) (n c n' c' : Nat), (binOp .eql 55 (.slice a n c) (.slice none n' c')).run Try.prog w = .ok (.bool a.isNone) w := fun w a n c n' c' => Lib.run_eql_slice_nil w _ _ a n c n' c' Try.underlying55
 go_enter Try.func71, Try.ntmps71
 go_wp2_with (at_builtin; refine wpList_append_own _ rfl _ _ 55 rfl w.heap.size 24 i0 (.slice none 0 0) 1 24 Try.underlying55 HI.out HZ0.out HZ1.out HZ2.out rfl (by decide) _ _ _ rfl (World.ownsRow_made w #[] 0 (ycd _) (Nat.zero_le _) rfl) ad hs.length c hs rfl ?qc1 ?qc2 H1.out ?qc4 ?qc5 ?qc6 ?_)
 case qc1 => rw [Nat.mul_one]
 case qc2 =>
  intro j u hj
  exact Lib.cell?_alloc_some _ (HC.out j u hj)
 case qc4 => have := H6.out; unfold maxLen; omega
 case qc5 => have := H6.out; omega
 case qc6 => simp
 intro v' w1 hown hgrow hnil
 have HO := zaa.mk hown
 have HG := zaa.mk hgrow
 clear hown hgrow hnil
 go_wp2
 go_ret
 have hB : Below w.heap.size w w1 := ((Below.refl _ w).alloc (ycd _) _).grown HG.out (by simp) (by intro k hk; simp [Value.ownBlock] at hk; omega)
 have ho : w1.ownsRow w.heap.size 24 1 v' hs.length hs := by simpa using HO.out
 rcases ho.2 with ⟨hv, hx0⟩ | ⟨g, cap, cur, hv, hb, hh, hnc, hcm, hcs, htake⟩
 ·have := H0.out
  omega
 ·rw [Nat.mul_one] at htake hcs
  have e : hs ++ cur.toList.drop hs.length = cur.toList := by
   conv => rhs; rw [← List.take_append_drop hs.length cur.toList, htake]
  have hl : (cur.toList.drop hs.length).length = cap - hs.length := by rw [List.length_drop, Array.length_toList, hcs]
  refine ⟨g, cur.toList.drop hs.length, ?_, ?_, by omega, hb, hB⟩
  ·rw [hv, hl, show hs.length + (cap - hs.length) = cap by omega]
   rfl
  ·rw [e, Array.toArray_toList]
   exact hh
abbrev RowP := Value × List Int
def putG (L : List RowP) (x : RowP) : List RowP := if L.getLast?.map (·.2) = some x.2 then L else L ++ [x]
def foldG (ps : List RowP) : List RowP := ps.foldl putG []
theorem foldG_snoc (ps : List RowP) (x : RowP) : foldG (ps ++ [x]) = putG (foldG ps) x := by simp [foldG]
theorem foldG_last (ps : List RowP) (x : RowP) : (foldG (ps ++ [x])).getLast?.map (·.2) = some x.2 := by
 rw [foldG_snoc]
 unfold putG
 split
 ·assumption
 ·simp
theorem take_snocG {ps : List RowP} {k : Nat} {x : RowP} (h : ps[k]? = some x) : ps.take (k + 1) = ps.take k ++ [x] := by
 rw [List.take_add_one, h]
 rfl
theorem foldG_take {ps : List RowP} {k : Nat} {x y : RowP} (hx : ps[k]? = some x) (hy : ps[k + 1]? = some y) : foldG (ps.take (k + 2)) = if x.2 = y.2 then foldG (ps.take (k + 1)) else foldG (ps.take (k + 1)) ++ [y] := by
 rw [take_snocG hy, foldG_snoc]
 unfold putG
 rw [take_snocG hx, foldG_last]
 by_cases e : x.2 = y.2
 ·rw [if_pos (by rw [e]), if_pos e]
 ·rw [if_neg (fun z => e (Option.some.inj z)), if_neg e]
theorem foldG_one {ps : List RowP} {x : RowP} (hx : ps[0]? = some x) : foldG (ps.take 1) = ps.take 1 := by
 rw [show (1 : Nat) = 0 + 1 from rfl, take_snocG hx]
 simp [foldG, putG]
theorem foldG_le (ps : List RowP) : ∀ k, k ≤ ps.length → (foldG (ps.take k)).length ≤ k
 | 0, _ => by simp [foldG]
 | 1, h => by
  rw [foldG_one (List.getElem?_eq_getElem (show 0 < ps.length by omega))]
  simp
  omega
 | k + 2, h => by
  have ih := foldG_le ps (k + 1) (by omega)
  rw [foldG_take (List.getElem?_eq_getElem (show k < ps.length by omega)) (List.getElem?_eq_getElem (show k + 1 < ps.length by omega))]
  split
  ·omega
  ·simp
   omega
theorem foldG_pos {ps : List RowP} : ∀ k, 1 ≤ k → k ≤ ps.length → 1 ≤ (foldG (ps.take k)).length
 | 0, h, _ => by omega
 | 1, _, h => by
  rw [foldG_one (List.getElem?_eq_getElem (show 0 < ps.length by omega))]
  simp
  omega
 | k + 2, _, h => by
  have ih := foldG_pos (k + 1) (by omega) (show k + 1 ≤ ps.length by omega)
  rw [foldG_take (List.getElem?_eq_getElem (show k < ps.length by omega)) (List.getElem?_eq_getElem (show k + 1 < ps.length by omega))]
  split
  ·omega
  ·simp
theorem foldG_sub (ps : List RowP) : ∀ x ∈ foldG ps, x ∈ ps := by
 suffices h : ∀ k, k ≤ ps.length → ∀ x ∈ foldG (ps.take k), x ∈ ps by
  have := h ps.length (ycd _)
  rwa [List.take_length] at this
 intro k
 induction k with
 | zero => intro _ x hx; simp [foldG] at hx
 | succ k ih =>
  intro hk x hx
  rw [take_snocG (List.getElem?_eq_getElem (show k < ps.length by omega)), foldG_snoc] at hx
  unfold putG at hx
  split at hx
  ·exact ih (by omega) x hx
  ·rcases List.mem_append.1 hx with h | h
   ·exact ih (by omega) x h
   ·rw [List.mem_singleton.1 h]
    exact List.getElem_mem _
end Go.Proofs.Ytickdcegnlldjaa.Hd
