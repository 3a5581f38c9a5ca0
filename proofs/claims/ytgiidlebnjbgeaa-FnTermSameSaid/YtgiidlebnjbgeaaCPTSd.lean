/- Part 4 of the proof of FnTermSame: what the program's functions and the reference's compute. -/
import Derived.Test.YtgiidlebnjbgeaaProg
import Derived.Below
import Derived.Deep.Draws
import Derived.Deep.AppendLies
import Derived.Maps.AppendAt
import Derived.OwnWalk
import Derived.Laws.BytesArg
import Derived.Laws.MakeOwn
import Derived.Laws.OwnMore
import Derived.Deep.OwnRows
import Derived.Tactics
import Derived.Lib.ConvBytes
import Derived.Laws.Slices
import Derived.WalkKit
import Derived.KernelRfl
import Derived.RowKit3
import Derived.Deep.LoopGhost
import Derived.Deep.QuietTactic
import Derived.BigQuiet
import Derived.WideLaws
import Derived.Deep.DeepCutAuto
import Derived.Deep.CutBlock
import Derived.Deep.RegionHeld3
import Derived.Laws.Rows
import Derived.Lib.AppendStr
import Derived.ArgAppend
import Derived.Laws.IdiomCopy
import Derived.OrdersHeld
import Derived.Laws.BitsLemmas
import Derived.RowKit
import Derived.Test.YtgiidlebnjbgeaaCPTSc
set_option linter.unusedSimpArgs false
set_option linter.unusedVariables false
namespace Go.Proofs.Ytgiidlebnjbgeaa.Hd
open Go.RowKit Go.PW.PrintWords Go.PW.PrintLast Go.PW.PrintMore Go.Proofs.Ytgiidlebnjbgeaa.PB
set_option maxHeartbeats 400000 in
set_option maxRecDepth 100000 in
theorem along_same (b : Bool) (x y : Tr) (hn : x.nodes + y.nodes ≤ 1000) (hx : AlongC x b) (hy : AlongC y b) : AlongC (.bin b x y) b := by
 intro P w p u hu hlt hP
 have HLt := zaa.mk hlt
 obtain ⟨-, q, k, l, hk, -, hk2, hPk, hPl⟩ := hP
 have HX := zaa.mk hx
 have HY := zaa.mk hy
 have HU := zaa.mk hu
 rw [← hu] at hk
 have HN := zaa.mk (show (zbl b x).length + (zbl b y).length ≤ 1000 by have := zck b x; have := zck b y; omega)
 have d1 : (u == u) = true := by simp
 have x0 : w.cell? ⟨p, 0, none⟩ = some (.int .u8 u) := (zag hk 0).trans rfl
 have x1 : w.cell? ⟨p, 1, none⟩ = some (.slice (some ⟨q, 0, none⟩) 2 2) := (zag hk 1).trans rfl
 have x2 : w.cell? ⟨q, 0, none⟩ = some (.pointer (some ⟨k, 0, none⟩)) := (zag hk2 0).trans rfl
 have x3 : w.cell? ⟨q, 1, none⟩ = some (.pointer (some ⟨l, 0, none⟩)) := (zag hk2 1).trans rfl
 have HPk := zaa.mk hPk
 have HPl := zaa.mk hPl
 have HR := zaa.mk (zcf b x y)
 clear hk hk2 hPk hPl hx hy hu hn hlt
 go_enter Try.func42, Try.ntmps42
 go_upto_region 3 with (fail)
 have HB0 := zaa.mk (show Below w.drew.heap.size w.drew w.drew from Below.refl _ _)
 refine start_ (n := 18) (S := fun w' => w'.cell? ⟨p, 1, none⟩ = some (.slice (some ⟨q, 0, none⟩) 2 2) ∧ w'.cell? ⟨q, 0, none⟩ = some (.pointer (some ⟨k, 0, none⟩)) ∧ w'.cell? ⟨q, 1, none⟩ = some (.pointer (some ⟨l, 0, none⟩)) ∧ PtAt w' P x k ∧ PtAt w' P y l ∧ Below w.heap.size w w') (ds := [16]) #[false, false, false, false, false, false, false, false, false, false, false, false, false, false, false, false, false, false] (by kernel_rfl) rfl rfl (⟨x1, x2, x3, HPk.out.drew, HPl.out.drew, zbn (Below.refl _ _)⟩) (fun hHeld => ?_)
 clear x0 x1 x2 x3
 refine zba (i := 0) (N := some 14) (v := ?_) (a' := ?_) #[true, false, false, false, false, false, false, false, false, false, false, false, false, false, false, false, false, false] rfl rfl (by kernel_rfl) (fun _ _ _ h => h) (Or.inl ⟨by rfl, ?_⟩) ?_ ?_
 rotate_left
 ·intro w'
  go_simp
  with_reducible rfl
 rotate_left
 ·simp only [Act.put, List.setIfInBounds_toArray, List.set_cons_zero, List.set_cons_succ, zaq, zar]
  rfl
 refine zba (i := 1) (N := some 15) (v := ?_) (a' := ?_) #[true, true, false, false, false, false, false, false, false, false, false, false, false, false, false, false, false, false] rfl rfl (by kernel_rfl) (fun _ _ _ h => h) (Or.inl ⟨by rfl, ?_⟩) ?_ ?_
 rotate_left
 ·intro w'
  go_simp
  with_reducible rfl
 rotate_left
 ·simp only [Act.put, List.setIfInBounds_toArray, List.set_cons_zero, List.set_cons_succ, zaq, zar]
  rfl
 refine zba (i := 2) (N := some 16) (v := ?_) (a' := ?_) #[true, true, true, false, false, false, false, false, false, false, false, false, false, false, false, false, false, false] rfl rfl (by kernel_rfl) (fun _ _ _ h => h) (Or.inl ⟨by rfl, ?_⟩) ?_ ?_
 rotate_left
 ·intro w'
  go_simp
  with_reducible rfl
 rotate_left
 ·simp only [Act.put, List.setIfInBounds_toArray, List.set_cons_zero, List.set_cons_succ, zaq, zar]
  rfl
 refine take_ (i := 3) (N := some 17) (v := ?_) (a' := ?_) #[true, true, true, true, false, false, false, false, false, false, false, false, false, false, false, false, false, false] rfl rfl (by kernel_rfl) (fun _ _ _ h => h) (Or.inl ⟨by rfl, ?_⟩) hHeld ?_ ?_
 rotate_left
 ·rintro w' ⟨s0, s1, s2, s3, s4, s5⟩
  go_simp
  with_reducible rfl
 rotate_left
 ·simp only [Act.put, List.setIfInBounds_toArray, List.set_cons_zero, List.set_cons_succ, zaq, zar]
  rfl
 refine zba (i := 4) (N := some 18) (v := ?_) (a' := ?_) #[true, true, true, true, true, false, false, false, false, false, false, false, false, false, false, false, false, false] rfl rfl (by kernel_rfl) (fun _ _ _ h => h) (Or.inl ⟨by rfl, ?_⟩) ?_ ?_
 rotate_left
 ·intro w'
  go_simp
  with_reducible rfl
 rotate_left
 ·simp only [Act.put, List.setIfInBounds_toArray, List.set_cons_zero, List.set_cons_succ, zaq, zar]
  rfl
 refine take_ (i := 5) (N := some 19) (v := ?_) (a' := ?_) #[true, true, true, true, true, true, false, false, false, false, false, false, false, false, false, false, false, false] rfl rfl (by kernel_rfl) (fun _ _ _ h => h) (Or.inl ⟨by rfl, ?_⟩) hHeld ?_ ?_
 rotate_left
 ·rintro w' ⟨s0, s1, s2, s3, s4, s5⟩
  go_simp
  with_reducible rfl
 rotate_left
 ·simp only [Act.put, List.setIfInBounds_toArray, List.set_cons_zero, List.set_cons_succ, zaq, zar]
  rfl
 refine zba (i := 6) (N := some 20) (v := ?_) (a' := ?_) #[true, true, true, true, true, true, true, false, false, false, false, false, false, false, false, false, false, false] rfl rfl (by kernel_rfl) (fun _ _ _ h => h) (Or.inl ⟨by rfl, ?_⟩) ?_ ?_
 rotate_left
 ·intro w'
  go_simp
  with_reducible rfl
 rotate_left
 ·simp only [Act.put, List.setIfInBounds_toArray, List.set_cons_zero, List.set_cons_succ, zaq, zar]
  rfl
 refine zba (i := 8) (N := some 22) (v := ?_) (a' := ?_) #[true, true, true, true, true, true, true, false, true, false, false, false, false, false, false, false, false, false] rfl rfl (by kernel_rfl) (fun _ _ _ h => h) (Or.inl ⟨by rfl, ?_⟩) ?_ ?_
 rotate_left
 ·intro w'
  go_simp
  with_reducible rfl
 rotate_left
 ·simp only [Act.put, List.setIfInBounds_toArray, List.set_cons_zero, List.set_cons_succ, zaq, zar]
  rfl
 refine zba (i := 9) (N := some 23) (v := ?_) (a' := ?_) #[true, true, true, true, true, true, true, false, true, true, false, false, false, false, false, false, false, false] rfl rfl (by kernel_rfl) (fun _ _ _ h => h) (Or.inl ⟨by rfl, ?_⟩) ?_ ?_
 rotate_left
 ·intro w'
  go_simp
  with_reducible rfl
 rotate_left
 ·simp only [Act.put, List.setIfInBounds_toArray, List.set_cons_zero, List.set_cons_succ, zaq, zar]
  rfl
 refine zba (i := 10) (N := some 24) (v := ?_) (a' := ?_) #[true, true, true, true, true, true, true, false, true, true, true, false, false, false, false, false, false, false] rfl rfl (by kernel_rfl) (fun _ _ _ h => h) (Or.inl ⟨by rfl, ?_⟩) ?_ ?_
 rotate_left
 ·intro w'
  go_simp
  with_reducible rfl
 rotate_left
 ·simp only [Act.put, List.setIfInBounds_toArray, List.set_cons_zero, List.set_cons_succ, zaq, zar]
  rfl
 refine take_ (i := 11) (N := some 25) (v := ?_) (a' := ?_) #[true, true, true, true, true, true, true, false, true, true, true, true, false, false, false, false, false, false] rfl rfl (by kernel_rfl) (fun _ _ _ h => h) (Or.inl ⟨by rfl, ?_⟩) hHeld ?_ ?_
 rotate_left
 ·rintro w' ⟨s0, s1, s2, s3, s4, s5⟩
  go_simp
  with_reducible rfl
 rotate_left
 ·simp only [Act.put, List.setIfInBounds_toArray, List.set_cons_zero, List.set_cons_succ, zaq, zar]
  rfl
 refine zba (i := 12) (N := some 26) (v := ?_) (a' := ?_) #[true, true, true, true, true, true, true, false, true, true, true, true, true, false, false, false, false, false] rfl rfl (by kernel_rfl) (fun _ _ _ h => h) (Or.inl ⟨by rfl, ?_⟩) ?_ ?_
 rotate_left
 ·intro w'
  go_simp
  with_reducible rfl
 rotate_left
 ·simp only [Act.put, List.setIfInBounds_toArray, List.set_cons_zero, List.set_cons_succ, zaq, zar]
  rfl
 refine take_ (i := 13) (N := some 27) (v := ?_) (a' := ?_) #[true, true, true, true, true, true, true, false, true, true, true, true, true, true, false, false, false, false] rfl rfl (by kernel_rfl) (fun _ _ _ h => h) (Or.inl ⟨by rfl, ?_⟩) hHeld ?_ ?_
 rotate_left
 ·rintro w' ⟨s0, s1, s2, s3, s4, s5⟩
  go_simp
  with_reducible rfl
 rotate_left
 ·simp only [Act.put, List.setIfInBounds_toArray, List.set_cons_zero, List.set_cons_succ, zaq, zar]
  rfl
 refine zba (i := 14) (N := some 28) (v := ?_) (a' := ?_) #[true, true, true, true, true, true, true, false, true, true, true, true, true, true, true, false, false, false] rfl rfl (by kernel_rfl) (fun _ _ _ h => h) (Or.inl ⟨by rfl, ?_⟩) ?_ ?_
 rotate_left
 ·intro w'
  go_simp
  with_reducible rfl
 rotate_left
 ·simp only [Act.put, List.setIfInBounds_toArray, List.set_cons_zero, List.set_cons_succ, zaq, zar]
  rfl
 refine one_ (i := 7) (N := some 21) #[true, true, true, true, true, true, true, true, true, true, true, true, true, true, true, false, false, false] rfl rfl (by kernel_rfl) (by decide) (fun K hK => ?_)
 refine goes_ Try.func42 (by kernel_rfl) rfl #[.pointer (some ⟨k, 0, none⟩), .int .u8 u] (by rfl) rfl rfl (by (try simp only [List.map_toArray, List.map_cons, List.map_nil]); first | done | rfl) ?_
 obtain ⟨s0, s1, s2, s3, s4, s5⟩ := hHeld
 refine (HX.out P w.drew k u HU.out HLt.out s3).mono ?_
 rintro e w2 ⟨v1, ps1, rfl, hr, hb, hA⟩
 have HR1 := zaa.mk hr
 have HA1 := zaa.mk hA
 have HV1 := zaa.mk (show ∀ k, v1.ownBlock = some k → w.heap.size ≤ k ∧ k < w2.heap.size from fun k hk => ⟨Kd.R_base hr k hk, Kd.R_lt hr k hk⟩)
 have HB2 := zaa.mk (zae s5 hb)
 have HB12 := zaa.mk (zap s5)
 refine ⟨_, rfl, ?_⟩
 refine hK.out _ _ ⟨zah hb s0, zah hb s1, zah hb s2, PtAt.below s3 hb, PtAt.below s4 hb, zae s5 hb⟩ (fun hHeld => ?_)
 clear hK K hb s0 s1 s2 s3 s4 s5 hr hA
 refine norm_ (a' := ?_) ?_ ?_
 rotate_left
 ·show Act.put _ (some 21) _ = _
  simp only [Act.put, List.setIfInBounds_toArray, List.set_cons_zero, List.set_cons_succ, zaq, zar]
  rfl
 refine one_ (i := 15) (N := some 29) #[true, true, true, true, true, true, true, true, true, true, true, true, true, true, true, true, false, false] rfl rfl (by kernel_rfl) (by decide) (fun K hK => ?_)
 refine goes_ Try.func42 (by kernel_rfl) rfl #[.pointer (some ⟨l, 0, none⟩), .int .u8 u] (by rfl) rfl rfl (by (try simp only [List.map_toArray, List.map_cons, List.map_nil]); first | done | rfl) ?_
 obtain ⟨s0, s1, s2, s3, s4, s5⟩ := hHeld
 refine (HY.out P _ l u HU.out (fun k hk => Nat.lt_of_lt_of_le (HLt.out k hk) HB2.out.size) s4).mono ?_
 rintro e w3 ⟨v2, ps2, rfl, hr, hb, hA⟩
 obtain ⟨A2, c2, e2, hl2, hC2⟩ := Kd.R_reads hr
 subst e2
 have HC2 := zaa.mk hC2
 have HA2 := zaa.mk hA
 have HA13 := zaa.mk (AllP.below hb HA1.out)
 have HS23 := zaa.mk hb.size
 have HB23 := zaa.mk hb
 have HR13 := zaa.mk (Kd.R_lower (Kd.R_below HR1.out hb) HB12.out)
 have HB3 := zaa.mk (zae s5 hb)
 refine ⟨_, rfl, ?_⟩
 refine hK.out _ _ ⟨zah hb s0, zah hb s1, zah hb s2, PtAt.below s3 hb, PtAt.below s4 hb, zae s5 hb⟩ (fun hHeld => ?_)
 clear hK K hb s0 s1 s2 s3 s4 s5 hr hA hl2 hC2
 refine norm_ (a' := ?_) ?_ ?_
 rotate_left
 ·show Act.put _ (some 29) _ = _
  simp only [Act.put, List.setIfInBounds_toArray, List.set_cons_zero, List.set_cons_succ, zaq, zar]
  rfl
 have hlen1 := AllP.len HA1.out
 have hlen2 := AllP.len HA2.out
 refine last_ (i := 16) (N := some 30) #[true, true, true, true, true, true, true, true, true, true, true, true, true, true, true, true, true, false] rfl rfl (by kernel_rfl) (by decide) (fun K hK => ?_)
 refine Kd.R_append_rows_step kP (Rr := kP.K w3) (w0 := w) w.heap.size (by rfl) (.tmp 21) (.tmp 29) 62 43 (.pointer none) 8 rfl Try.underlying62 (by kernel_rfl) rfl (by decide) (by decide) v1 ps1 ps2 A2 ps2.length c2 (fun _ => True) (fun _ => False) rfl rfl HR13.out HC2.out (fun _ _ h => h) (fun _ h => h.elim) (fun _ _ => trivial) HB3.out HB3.out.size (by have := HN.out; omega) ?_
 intro v5 w5 ho hb hg hat
 have HR5 := zaa.mk ho
 have HB5 := zaa.mk hb
 have HG5 := zaa.mk hg
 have HAt5 := zaa.mk hat
 clear ho hb hg hat hlen1 hlen2
 refine hK.out _ _ ?_
 clear hK K hHeld
 refine norm_ (a' := ?_) ?_ ?_
 rotate_left
 ·show Act.put _ (some 30) _ = _
  simp only [Act.put, List.setIfInBounds_toArray, List.set_cons_zero, List.set_cons_succ, zaq, zar]
  rfl
 refine zba (i := 17) (N := some 4) (v := ?_) (a' := ?_) #[true, true, true, true, true, true, true, true, true, true, true, true, true, true, true, true, true, true] rfl rfl (by kernel_rfl) (fun _ _ _ h => h) (Or.inl ⟨by rfl, ?_⟩) ?_ ?_
 rotate_left
 ·intro w'
  go_simp
  with_reducible rfl
 rotate_left
 ·simp only [Act.put, List.setIfInBounds_toArray, List.set_cons_zero, List.set_cons_succ, zaq, zar]
  rfl
 refine done_ (by kernel_rfl) ?_
 have hne : ∀ k, some k ≠ v1.ownBlock → k < w3.heap.size → some k ≠ v5.ownBlock := by
  intro k h1 h2 he
  rcases HAt5.out with h | ⟨b', h, hle⟩
  ·exact h1 (he.trans h)
  ·rw [h] at he
   injection he with he
   omega
 have hs2 := HB2.out.size
 have h1 : AllP w5 (fun k => (P k ∨ w.heap.size ≤ k) ∧ some k ≠ v5.ownBlock) (zbl b x) ps1 :=
  AllP.move (fun k h1 h2 => HG5.out.block k h2 h1.2) (fun k h1 h2 => ⟨h1.1, hne k h1.2 h2⟩) HA13.out
 have h2 : AllP w5 (fun k => (P k ∨ w.heap.size ≤ k) ∧ some k ≠ v5.ownBlock) (zbl b y) ps2 := by
  have hv : ∀ k, (P k ∨ w2.heap.size ≤ k) → some k ≠ v1.ownBlock := by
   intro k hk he
   have := HV1.out k he.symm
   rcases hk with h | h
   ·have := HLt.out k h; omega
   ·omega
  exact AllP.move (fun k h1 h2 => HG5.out.block k h2 (hv k h1.1)) (fun k h1 h2 => ⟨h1.1.elim (fun h => .inl h) (fun h => .inr (by omega)), hne k (hv k h1.1) h2⟩) HA2.out
 have HA5 := zaa.mk (AllP.app h1 h2)
 clear h1 h2 hne hs2
 go_wp2
 go_ret
 rw [HR.out]
 exact ⟨_, ps1 ++ ps2, rfl, HR5.out, HB5.out, HA5.out⟩
theorem kP_cell {w : World} {A : Option Addr} {n : Nat} {l : List Nat} (h : kP.C w A n l) (i : Nat) (p : Nat) (hp : l[i]? = some p) : ∃ ad, A = some ad ∧ w.cell? (ad.add i) = some (.pointer (some ⟨p, 0, none⟩)) := by
 have hi : i < n := by have := (List.getElem?_eq_some_iff.1 hp).1; have := h.1; omega
 obtain ⟨ad, c, e1, hc, hK, hx⟩ := Kd.C_get h (0 : Nat) (i : Int) (by omega) (by omega)
 subst e1
 refine ⟨ad, rfl, ?_⟩
 have e : l.getD (i : Int).toNat 0 = p := by rw [Int.toNat_natCast, List.getD_eq_getElem?_getD, hp]; rfl
 rw [e] at hK
 have hK : c = [.pointer (some ⟨p, 0, none⟩)] := hK
 subst hK
 have := hx 0 _ rfl
 simpa [kP, Kd.scalar] using this
set_option maxHeartbeats 400000 in
set_option maxRecDepth 100000 in
theorem left_leaf : LeftC .o := by
 intro P w p hlt hP
 have HP := zaa.mk hP
 obtain ⟨-, hk⟩ := hP
 have x1 : w.cell? ⟨p, 1, none⟩ = some (.slice none 0 0) := (zag hk 1).trans rfl
 clear hk hlt
 go_enter Try.func28, Try.ntmps28
 go_wp2
 go_ret
 exact ⟨p, rfl, Below.refl _ _, HP.out.mono (fun k hk _ => .inl hk)⟩
set_option maxHeartbeats 400000 in
set_option maxRecDepth 100000 in
theorem left_bin (b : Bool) (x y : Tr) (hn : (Tr.bin b x y).nodes ≤ 1000) (ha : AlongC (.bin b x y) b) : LeftC (.bin b x y) := by
 intro P w p hlt hP
 obtain ⟨u, hu⟩ : ∃ u, u = binC b := ⟨_, rfl⟩
 have HU := zaa.mk hu
 have HLt := zaa.mk hlt
 have HAl := zaa.mk (ha P w p u hu hlt hP)
 have hnd := zck b (.bin b x y)
 have hps := zco b x
 have hps2 := zco b y
 have hsm := zcf b x y
 have hl2 : 2 ≤ (zbl b (.bin b x y)).length := by rw [hsm, List.length_append]; omega
 have HLr := zaa.mk (leftR_bin b x y)
 have HLe := zaa.mk (show 2 ≤ (zbl b (.bin b x y)).length ∧ (zbl b (.bin b x y)).length ≤ 1000 by omega)
 obtain ⟨-, q, k, l, hk, -, hk2, hPk, hPl⟩ := hP
 rw [← hu] at hk
 have x0 : w.cell? ⟨p, 0, none⟩ = some (.int .u8 u) := (zag hk 0).trans rfl
 have x1 : w.cell? ⟨p, 1, none⟩ = some (.slice (some ⟨q, 0, none⟩) 2 2) := (zag hk 1).trans rfl
 clear hk hk2 hPk hPl hlt ha hn hu hnd hps hps2 hsm hl2
 generalize hts : zbl b (.bin b x y) = tss at *
 clear hts
 go_enter Try.func28, Try.ntmps28
 go_upto_region 4 with (first
  | (go_at_call 42; refine HAl.out.mono ?_; rintro e w2 ⟨v, ps, rfl, hr, hb, hA⟩; have HR2 := zaa.mk hr; have HB2 := zaa.mk hb; have HA2 := zaa.mk hA; clear hr hb hA))
 have hlen := AllP.len HA2.out
 have hA := HA2.out
 rcases ps with _ | ⟨p0, ps⟩
 ·exfalso
  have := HLe.out
  simp at hlen
  rw [hlen] at this
  simp at this
 rcases tss with _ | ⟨t0, ts⟩
 ·exact hA.elim
 obtain ⟨g0, co, eo, gb, gl, cl, HG⟩ := Kd.R_form HR2.out (by simp)
 subst eo
 have hC := (Kd.R_reads' HR2.out).2.2
 have hcap := (Kd.R_reads' HR2.out).2.1
 obtain ⟨m, hm⟩ : ∃ m, m = ps.length := ⟨_, rfl⟩
 have HM := zaa.mk (show m = ps.length ∧ ts.length = m ∧ 1 ≤ m by have := HLe.out; simp at this hlen; omega)
 have hml : m ≤ 1000 := by have := HLe.out; simp at this hlen; omega
 have HC2 := zaa.mk hC
 have hpl : (p0 :: ps).length = m + 1 := by rw [List.length_cons, hm]
 rw [hpl] at hcap ⊢
 have hm1 : 1 ≤ m := HM.out.2.2
 have HCell := zaa.mk (show ∀ (i : Nat) (z : Nat), (p0 :: ps)[i]? = some z → w2.cell? ⟨g0, i, none⟩ = some (.pointer (some ⟨z, 0, none⟩)) from fun i z hz => by
  obtain ⟨ad, e1, h⟩ := kP_cell HC2.out i z hz
  injection e1 with e1
  subst e1
  rw [add_plain] at h
  exact h)
 have hc0 := HCell.out 0 p0 rfl
 have hA0 := zaa.mk hA.1
 have hAs := zaa.mk hA.2
 have x0_ := x0
 replace x0 := zah HB2.out x0
 clear gb gl HG hC hm hA hlen hpl x1 HA2 HAl
 have k1 : (1 : Int) ≤ (m + 1 : Nat) := by omega
 have k2 : ((m + 1 : Nat) : Int) ≤ (co : Int) := by omega
 have HCell2 := zaa.mk (fun (i : Nat) (z : Nat) (hz : ps[i]? = some z) => HCell.out (i + 1) z (by simpa using hz))
 have HX0 := zaa.mk x0
 clear HCell x0_
 go_upto_region 6 with (fail)
 clear k1 k2 hcap hc0 x0
 go_loopg [4, 26] m (fun kq v4 v26 w' => ∃ (i r : Nat), v4 = .pointer (some ⟨r, 0, none⟩) ∧ v26 = .int .i64 (i : Int) ∧ zaa (i + kq = m) ∧ zaa (PtAt w' (fun k => P k ∨ w.heap.size ≤ k) ((ts.take i).foldl (fun acc k => .bin b acc k) t0) r) ∧ zaa (Below w2.heap.size w2 w'))
 case atStart => exact ⟨0, p0, rfl, rfl, ⟨by omega⟩, ⟨hA0.out.mono (fun k hk _ => hk.1)⟩, ⟨Below.refl _ _⟩⟩
 case round =>
  obtain ⟨i, r, rfl, rfl, HI, HT, HBl⟩ := hrel
  by_cases hi : i < m
  ·have hlt : (i : Int) < (m : Int) := by omega
   have i0 : (0 : Int) ≤ (i : Int) := by omega
   obtain ⟨pk, hpk⟩ : ∃ pk, ps[i]? = some pk := ⟨_, List.getElem?_eq_getElem (by have := HM.out.1; omega)⟩
   obtain ⟨tk, htk, hPk⟩ := AllP.get i pk hAs.out hpk
   have hcell := zah HBl.out (HCell2.out i pk hpk)
   rw [Nat.add_comm i 1] at hcell
   have y0 := zah HBl.out HX0.out
   have HPk := zaa.mk (PtAt.below (PtAt.mono hPk (ok' := fun k => P k ∨ w.heap.size ≤ k) (fun k hk _ => hk.1)) HBl.out)
   have HTk := zaa.mk (show (ts.take (i + 1)).foldl (fun acc k => Tr.bin b acc k) t0 = .bin b ((ts.take i).foldl (fun acc k => .bin b acc k) t0) tk by rw [List.take_add_one, htk, List.foldl_append]; rfl)
   clear hpk htk hPk
   go_wp2
   have hb := zac (zac (Below.refl wr.heap.size wr) (.cells #[.pointer (some ⟨r, 0, none⟩), .pointer (some ⟨pk, 0, none⟩)] 43)) (.cells #[.int .u8 u, .slice (some ⟨wr.heap.size, 0, none⟩) 2 2] 64)
   have hk1 := heap_alloc2_old wr (.cells #[.pointer (some ⟨r, 0, none⟩), .pointer (some ⟨pk, 0, none⟩)] 43) (.cells #[.int .u8 u, .slice (some ⟨wr.heap.size, 0, none⟩) 2 2] 64)
   have hk2 := heap_alloc2_new wr (.cells #[.pointer (some ⟨r, 0, none⟩), .pointer (some ⟨pk, 0, none⟩)] 43) (.cells #[.int .u8 u, .slice (some ⟨wr.heap.size, 0, none⟩) 2 2] 64)
   generalize (wr.alloc (.cells #[.pointer (some ⟨r, 0, none⟩), .pointer (some ⟨pk, 0, none⟩)] 43)).alloc (.cells #[.int .u8 u, .slice (some ⟨wr.heap.size, 0, none⟩) 2 2] 64) = wz at *
   have h1 := HT.out.below hb
   have h2 := HPk.out.below hb
   have hsz : w.heap.size ≤ wr.heap.size := Nat.le_trans HB2.out.size HBl.out.size
   have hu := HU.out
   rw [hu] at hk2
   go_roundg (m - (i + 1))
   case measure => have := HI.out; omega
   case rel => exact ⟨i + 1, _, rfl, by first | rfl | (congr 1; omega), ⟨by have := HI.out; omega⟩, ⟨by rw [HTk.out]; exact ⟨.inr (by show w.heap.size ≤ wr.heap.size + 1; omega), wr.heap.size, r, pk, hk2, .inr hsz, hk1, h1, h2⟩⟩, ⟨zae HBl.out hb⟩⟩
  ·have hge : ¬ (i : Int) < (m : Int) := by omega
   go_wp2
   go_ret
   have hT := HT.out
   rw [List.take_of_length_le (by have := HM.out.2.1; omega)] at hT
   rw [HLr.out]
   exact ⟨r, rfl, zae HB2.out HBl.out, hT⟩
theorem left_all : ∀ t : Tr, t.tidy = true → t.nodes ≤ 1000 → LeftC t ∧ ∀ s, AlongC t s
 | .o, _, _ => ⟨left_leaf, fun s => along_other .o s (by cases s <;> decide) (alongR_leaf s) left_leaf⟩
 | .un _ _, h, _ => by cases h
 | .bin b x y, h, hn => by
  simp only [Tr.tidy, Bool.and_eq_true] at h
  have hn' := hn
  simp only [Tr.nodes] at hn'
  have ax := (left_all x h.1 (by omega)).2 b
  have ay := (left_all y h.2 (by omega)).2 b
  have same := along_same b x y (by omega) ax ay
  have hl := left_bin b x y hn same
  refine ⟨hl, fun s => ?_⟩
  by_cases e : s = b
  ·subst e; exact same
  ·have : s = !b := by cases s <;> cases b <;> simp_all
   subst this
   exact along_other (.bin b x y) (!b) (by show binC b ≠ binC (!b); cases b <;> decide) (alongR_other b x y) hl
def joinP (s : Bool) (a b : List Int) : List Int := if s then a ++ zbg b a.length else zbg b a.length ++ a
theorem permR_bin (s : Bool) (x y : Tr) : zbc (.bin s x y) = joinP s (zbc x) (zbc y) := by cases s <;> rfl
theorem moreL_more (l : List Int) (m n : Nat) : zbg (zbg l m) n = zbg l (n + m) := by
 unfold zbg
 rw [List.map_map]
 apply List.map_congr_left
 intro x _
 show x + (m : Int) + (n : Int) = x + ((n + m : Nat) : Int)
 omega
theorem moreL_app (a b : List Int) (n : Nat) : zbg (a ++ b) n = zbg a n ++ zbg b n := List.map_append
theorem joinP_assoc (s : Bool) (a b c : List Int) : joinP s (joinP s a b) c = joinP s a (joinP s b c) := by
 cases s
 ·show zbg c (zbg b a.length ++ a).length ++ (zbg b a.length ++ a) = zbg (zbg c b.length ++ b) a.length ++ a
  rw [moreL_app, moreL_more, List.length_append, zbd, List.append_assoc, Nat.add_comm b.length a.length]
 ·show a ++ zbg b a.length ++ zbg c (a ++ zbg b a.length).length = a ++ zbg (b ++ zbg c b.length) a.length
  rw [moreL_app, moreL_more, List.length_append, zbd, List.append_assoc]
def permL (s : Bool) : List Tr → List Int
 | [] => []
 | p :: ps => ps.foldl (fun acc k => joinP s acc (zbc k)) (zbc p)
theorem permL_foldB (s : Bool) : ∀ ts : List Tr, 1 ≤ ts.length → zbc (foldB s ts) = permL s ts
 | [], h => absurd h (by simp)
 | p :: ps, _ => by
  show zbc (ps.foldl (fun out k => .bin s out k) p) = ps.foldl (fun acc k => joinP s acc (zbc k)) (zbc p)
  induction ps generalizing p with
  | nil => rfl
  | cons k ps ih =>
   rw [List.foldl_cons, List.foldl_cons, ih _ (by simp), permR_bin]
theorem foldl_join (s : Bool) (a b : List Int) : ∀ ts : List Tr, ts.foldl (fun acc k => joinP s acc (zbc k)) (joinP s a b) = joinP s a (ts.foldl (fun acc k => joinP s acc (zbc k)) b)
 | [] => rfl
 | k :: ts => by
  rw [List.foldl_cons, List.foldl_cons, joinP_assoc, foldl_join s a _ ts]
theorem permL_app (s : Bool) : ∀ (ts us : List Tr), 1 ≤ ts.length → 1 ≤ us.length → permL s (ts ++ us) = joinP s (permL s ts) (permL s us)
 | [], _, h, _ => absurd h (by simp)
 | _ :: _, [], _, h => absurd h (by simp)
 | p :: ps, q :: qs, _, _ => by
  show (ps ++ q :: qs).foldl (fun acc k => joinP s acc (zbc k)) (zbc p) = joinP s (ps.foldl (fun acc k => joinP s acc (zbc k)) (zbc p)) (qs.foldl (fun acc k => joinP s acc (zbc k)) (zbc q))
  rw [List.foldl_append, List.foldl_cons, foldl_join]
def sumN (ts : List Tr) : Nat := (ts.map Tr.nodes).foldr (· + ·) 0
theorem sumN_app (a b : List Tr) : sumN (a ++ b) = sumN a + sumN b := by
 induction a with
 | nil => simp [sumN]
 | cons x a ih => simp only [sumN, List.cons_append, List.map_cons, List.foldr_cons] at ih ⊢; omega
theorem sumN_one (t : Tr) : sumN [t] = t.nodes := by simp [sumN]
theorem foldB_nodes (s : Bool) : ∀ ts : List Tr, 1 ≤ ts.length → (foldB s ts).nodes + 1 = sumN ts + ts.length
 | [], h => absurd h (by simp)
 | p :: ps, _ => by
  show (ps.foldl (fun out k => Tr.bin s out k) p).nodes + 1 = _
  induction ps generalizing p with
  | nil => simp [sumN]
  | cons k ps ih =>
   rw [List.foldl_cons, ih _ (by simp)]
   simp only [sumN, List.map_cons, List.foldr_cons, Tr.nodes, List.length_cons]
   omega
theorem foldB_tidy (s : Bool) : ∀ ts : List Tr, (∀ t ∈ ts, t.tidy = true) → (foldB s ts).tidy = true
 | [], _ => rfl
 | p :: ps, h => by
  show (ps.foldl (fun out k => Tr.bin s out k) p).tidy = true
  induction ps generalizing p with
  | nil => exact h p (by simp)
  | cons k ps ih =>
   rw [List.foldl_cons]
   refine ih _ (fun t ht => ?_)
   rcases List.mem_cons.1 ht with rfl | ht
   ·simp only [Tr.tidy, Bool.and_eq_true]
    exact ⟨h p (by simp), h k (by simp)⟩
   ·exact h t (by simp [ht])
def notS (s : Bool) (t : Tr) : Prop := topC t ≠ binC s
theorem foldB_top (s : Bool) : ∀ ts : List Tr, 2 ≤ ts.length → ∃ a b, foldB s ts = .bin s a b
 | [], h => absurd h (by simp)
 | [_], h => absurd h (by simp)
 | p :: k :: ps, _ => by
  show ∃ a b, ps.foldl (fun out k => Tr.bin s out k) (.bin s p k) = .bin s a b
  suffices h : ∀ (ps : List Tr) (a b : Tr), ∃ a' b', ps.foldl (fun out k => Tr.bin s out k) (.bin s a b) = .bin s a' b' from h ps p k
  intro ps
  induction ps with
  | nil => exact fun a b => ⟨a, b, rfl⟩
  | cons q ps ih => exact fun a b => ih _ _
structure LeftOk (t : Tr) : Prop where
 tidy : (zbm t).tidy = true
 nodes : (zbm t).nodes = t.nodes
 perm : zbc (zbm t) = zbc t
 top : topC (zbm t) = topC t
 again : zbm (zbm t) = zbm t
structure AlongOk (s : Bool) (t : Tr) : Prop where
 tidy : ∀ k ∈ zbl s t, k.tidy = true
 nodes : sumN (zbl s t) + (zbl s t).length = t.nodes + 1
 perm : permL s (zbl s t) = zbc t
 parts : ∀ k ∈ zbl s t, notS s k ∧ zbm k = k
theorem along_one {s : Bool} {k : Tr} (h : notS s k) (hk : zbm k = k) : zbl s k = [k] := by
 cases k with
 | o => cases s <;> rfl
 | un c t => cases s <;> rfl
 | bin b x y =>
  have : s = !b := by
   cases s <;> cases b <;> first | rfl | exact absurd rfl h
  rw [this, alongR_other, hk]
theorem along_foldB (s : Bool) : ∀ ts : List Tr, 1 ≤ ts.length → (∀ k ∈ ts, notS s k ∧ zbm k = k) → zbl s (foldB s ts) = ts
 | [], h, _ => absurd h (by simp)
 | p :: ps, _, h => by
  have key : ∀ (ps : List Tr) (a : Tr) (us : List Tr), zbl s a = us → (∀ k ∈ ps, notS s k ∧ zbm k = k) → zbl s (ps.foldl (fun out k => Tr.bin s out k) a) = us ++ ps := by
   intro ps
   induction ps with
   | nil => intro a us h _; rw [List.append_nil]; exact h
   | cons k ps ih =>
    intro a us ha hk
    rw [List.foldl_cons, ih (.bin s a k) (us ++ [k]) (by rw [zcf, ha, along_one (hk k (by simp)).1 (hk k (by simp)).2]) (fun z hz => hk z (List.mem_cons_of_mem _ hz)), List.append_assoc]
    rfl
  have h0 := h p (by simp)
  exact key ps p [p] (along_one h0.1 h0.2) (fun z hz => h z (List.mem_cons_of_mem _ hz))
theorem along_of_left {s : Bool} {t : Tr} (hs : notS s t) (h : zbl s t = [zbm t]) (hl : LeftOk t) : AlongOk s t := by
 refine ⟨?_, ?_, ?_, ?_⟩
 ·rw [h]; intro k hk; rw [List.mem_singleton] at hk; subst hk; exact hl.tidy
 ·rw [h, sumN_one, hl.nodes]; rfl
 ·rw [h]; exact hl.perm
 ·rw [h]; intro k hk; rw [List.mem_singleton] at hk; subst hk
  exact ⟨by unfold notS; rw [hl.top]; exact hs, hl.again⟩
theorem left_of_along {b : Bool} {x y : Tr} (h : AlongOk b (.bin b x y)) (h2 : 2 ≤ (zbl b (.bin b x y)).length) : LeftOk (.bin b x y) := by
 have e := leftR_bin b x y
 have h1 : 1 ≤ (zbl b (.bin b x y)).length := by omega
 obtain ⟨a', b', ht⟩ := foldB_top b _ h2
 refine ⟨by rw [e]; exact foldB_tidy b _ h.tidy, ?_, by rw [e, permL_foldB b _ h1, h.perm], by rw [e, ht]; rfl, ?_⟩
 ·have := foldB_nodes b _ h1
  have := h.nodes
  rw [e]
  omega
 ·rw [e]
  have hf := along_foldB b _ h1 h.parts
  rw [ht] at hf ⊢
  rw [leftR_bin, hf]
  exact ht
theorem left_ok : ∀ t : Tr, t.tidy = true → LeftOk t ∧ ∀ s, AlongOk s t
 | .o, _ => by
  have h : LeftOk .o := ⟨rfl, rfl, rfl, rfl, rfl⟩
  exact ⟨h, fun s => along_of_left (by unfold notS; cases s <;> decide) (alongR_leaf s) h⟩
 | .un _ _, h => by cases h
 | .bin b x y, h => by
  simp only [Tr.tidy, Bool.and_eq_true] at h
  have ax := (left_ok x h.1).2 b
  have ay := (left_ok y h.2).2 b
  have e := zcf b x y
  have px := zco b x
  have py := zco b y
  have same : AlongOk b (.bin b x y) := by
   refine ⟨?_, ?_, ?_, ?_⟩
   ·rw [e]; intro k hk; exact (List.mem_append.1 hk).elim (ax.tidy k) (ay.tidy k)
   ·have := ax.nodes
    have := ay.nodes
    rw [e, sumN_app, List.length_append]
    simp only [Tr.nodes]
    omega
   ·rw [e, permL_app b _ _ px py, ax.perm, ay.perm, permR_bin]
   ·rw [e]; intro k hk; exact (List.mem_append.1 hk).elim (ax.parts k) (ay.parts k)
  have hl := left_of_along same (by rw [e, List.length_append]; omega)
  refine ⟨hl, fun s => ?_⟩
  by_cases es : s = b
  ·subst es; exact same
  ·have : s = !b := by cases s <;> cases b <;> simp_all
   subst this
   exact along_of_left (by show binC b ≠ binC (!b); cases b <;> decide) (alongR_other b x y) hl
def zbq (s : ByteArray) : ByteArray × Bool := match ofR s with
 | none => (⟨#[]⟩, false)
 | some t => (zcn (zbm (tid t)), true)
def StrRes (w : World) (r : ByteArray × Bool) (e : Ending) (w' : World) : Prop := e = .returned (.tuple #[.string r.1, .bool r.2]) ∧ Below w.heap.size w w'
set_option maxHeartbeats 400000 in
set_option maxRecDepth 100000 in
theorem leftI_calls (s : ByteArray) (hs : s.size ≤ 1048576) (w : World) : Calls Try.prog 15 #[.string s] w (StrRes w (zbq s)) := by
 have HOf := zaa.mk (termOf_calls s hs w)
 cases hof : ofR s with
 | none =>
  have HR := zaa.mk (show zbq s = (⟨#[]⟩, false) by unfold zbq; rw [hof])
  rw [hof] at HOf
  clear hof
  go_enter Try.func15, Try.ntmps15
  go_wp2_with (first
   | (go_at_call 22; refine HOf.out.mono ?_; rintro e w2 ⟨q, rfl, hb, hres⟩; replace hres : q = none := hres; subst hres; have HB2 := zaa.mk hb; clear hb))
  go_ret2
  rw [HR.out]
  exact ⟨rfl, HB2.out⟩
 | some t =>
  have HR := zaa.mk (show zbq s = (zcn (zbm (tid t)), true) by unfold zbq; rw [hof])
  have HN := zaa.mk (show (tid t).nodes ≤ 1000 by have := ofR_nodes hof; have := tid_nodes t; omega)
  have HLo := zaa.mk (left_ok (tid t) (zby t)).1
  rw [hof] at HOf
  clear hof
  go_enter Try.func15, Try.ntmps15
  go_wp2_with (first
   | (go_at_call 22; refine HOf.out.mono ?_; rintro e w2 ⟨q, rfl, hb, hres⟩; replace hres : ∃ p, q = some ⟨p, 0, none⟩ ∧ PtAt w2 (fun _ => True) t p := hres; obtain ⟨p, rfl, hP⟩ := hres; have HB2 := zaa.mk hb; have HP2 := zaa.mk hP; clear hb hP)
   | (go_at_call 23; refine (tidy_calls t _ p HP2.out).mono ?_; rintro e w3 ⟨m, rfl, hb, hP⟩; have HB3 := zaa.mk (zae HB2.out hb); have HP3 := zaa.mk hP; clear hb hP)
   | (go_at_call 28; refine ((left_all (tid t) (zby t) HN.out).1 (fun k => True ∧ k < w3.heap.size) w3 m (fun k hk => hk.2) HP3.out.bound).mono ?_; rintro e w4 ⟨m4, rfl, hb, hP⟩; have HB4 := zaa.mk (zae HB3.out hb); have HP4 := zaa.mk (show PtA w4 (zbm (tid t)) m4 from PtAt.mono hP (fun _ _ _ => trivial)); clear hb hP)
   | (go_at_call 29; refine (textP_calls (zbm (tid t)) HLo.out.tidy (by rw [HLo.out.nodes]; exact HN.out) _ m4 HP4.out).mono ?_; rintro e w5 ⟨rfl, hb⟩; have HB5 := zaa.mk (zae HB4.out hb); clear hb))
  go_ret2
  rw [HR.out]
  exact ⟨rfl, HB5.out⟩
def impl_TermLeft.f (s : ByteArray) : Option (ByteArray × Bool) := if s.size ≤ 1048576 then some (zbq s) else none
theorem impl_TermLeft.calls (a0 : ByteArray) (r1 : ByteArray) (r2 : Bool) (w : World) (h : impl_TermLeft.f a0 = some (r1, r2)) :
  Calls Try.prog 15 #[.string a0] w fun e w' => e = .returned (.tuple #[.string r1, .bool r2]) ∧ Below w.heap.size w w' := by
 unfold impl_TermLeft.f at h
 split at h
 ·rename_i hs
  have e := Option.some.inj h
  have := leftI_calls a0 hs w
  rw [e] at this
  exact this
 ·cases h
def partsT (s : Bool) : Tr → List Tr
 | .bin b x y => if b = s then partsT s x ++ partsT s y else [.bin b x y]
 | .o => [.o]
 | .un c t => [.un c t]
theorem partsT_same (b : Bool) (x y : Tr) : partsT b (.bin b x y) = partsT b x ++ partsT b y := if_pos rfl
theorem partsT_other {s b : Bool} (h : ¬ b = s) (x y : Tr) : partsT s (.bin b x y) = [.bin b x y] := if_neg h
theorem partsT_along (s : Bool) : ∀ t : Tr, t.tidy = true → (partsT s t).map zbm = zbl s t
 | .o, _ => by cases s <;> rfl
 | .un _ _, h => by cases h
 | .bin b x y, h => by
  simp only [Tr.tidy, Bool.and_eq_true] at h
  by_cases e : b = s
  ·subst e
   rw [partsT_same, List.map_append, partsT_along b x h.1, partsT_along b y h.2, zcf]
  ·have : s = !b := by cases s <;> cases b <;> simp_all
   rw [partsT_other e]
   subst this
   rw [alongR_other]
   rfl
theorem partsT_len (s : Bool) (t : Tr) (h : t.tidy = true) : (partsT s t).length = (zbl s t).length := by rw [← partsT_along s t h, List.length_map]
theorem l11Parts_ev (s : Bool) : ∀ t : Tr, t.tidy = true → t.nodes ≤ 1000 → Evs (fun k => spec_l11Parts.f k (toS t).f0 (toS t).f1 (binC s)) ((partsT s t).map toS)
 | .o, _, _ => by
  refine Evs.stepNeg (fun k => by conv => lhs; unfold spec_l11Parts.f) (by show ¬ (111 : Int) = binC s; cases s <;> decide) ?_
  exact Evs.const _
 | .un _ _, h, _ => by cases h
 | .bin b x y, h, hn => by
  have ht := h
  simp only [Tr.tidy, Bool.and_eq_true] at h
  simp only [Tr.nodes] at hn
  by_cases e : b = s
  ·subst e
   have ex := l11Parts_ev b x h.1 (by omega)
   have ey := l11Parts_ev b y h.2 (by omega)
   have lx := partsT_len b x h.1
   have ly := partsT_len b y h.2
   have nx := zck b x
   have ny := zck b y
   rw [partsT_same, List.map_append]
   refine Evs.stepPos (fun k => by conv => lhs; unfold spec_l11Parts.f) (show (toS (.bin b x y)).f0 = binC b from rfl) ?_
   refine Evs.pos (by show (0 : Int) < ((2 : Nat) : Int); omega) (Evs.bind ex (Evs.pos (by show (1 : Int) < ((2 : Nat) : Int); omega) (Evs.bind ey ?_)))
   first
    | exact Evs.const _
    | exact Evs.pos (by simp only [List.length_map]; omega) (Evs.const _)
  ·rw [partsT_other e]
   refine Evs.stepNeg (fun k => by conv => lhs; unfold spec_l11Parts.f) (by show ¬ binC b = binC s; cases s <;> cases b <;> simp_all [binC]) ?_
   exact Evs.const _
theorem F_elem {w : World} {ok : Nat → Prop} {A : Option Addr} {n : Nat} {xs : List Tm} (h : Kd.F kT w ok A n xs) (i : Nat) (x : Tm) (hx : xs[i]? = some x) :
  ∃ ad A1 c1, A = some ad ∧ w.cell? (ad.add (i * 2)) = some (.int .u8 x.f0) ∧ w.cell? ⟨(ad.add (i * 2)).block, (ad.add (i * 2)).off + 1, none⟩ = some (.slice A1 x.f1.length c1) ∧ TmF w ok x x.f0 (.slice A1 x.f1.length c1) := by
 have hi : i < n := by have := (List.getElem?_eq_some_iff.1 hx).1; have := (Kd.F_now h).1; omega
 obtain ⟨ad, c, e, hcl, hK, hcc, -⟩ := Kd.F_get h x (i : Int) (by omega) (by omega)
 have ex : xs.getD (i : Int).toNat x = x := by rw [Int.toNat_natCast, List.getD_eq_getElem?_getD, hx]; rfl
 rw [ex] at hK
 rw [Int.toNat_natCast] at hcc
 obtain ⟨A1, c1, rfl, l1, hF⟩ := k38_openF hK
 refine ⟨ad, A1, c1, e, ?_, ?_, rfl, A1, c1, rfl, l1, hF⟩
 ·have := hcc 0 _ rfl
  exact this
 ·have h1 := hcc 1 _ rfl
  have e1 : (⟨(ad.add (i * 2)).block, (ad.add (i * 2)).off + 1, none⟩ : Addr) = ad.add (i * 2 + 1) := by
   by_cases hz : i * 2 = 0
   ·simp [Addr.add, hz]
   ·simp [Addr.add, hz, Nat.add_assoc]
  rw [e1]
  exact h1
def textL (s : Bool) (acc : ByteArray) : List Tr → ByteArray
 | [] => acc
 | k :: ks => textL s (byteS 40 ++ acc ++ byteS (if s then 124 else 45) ++ zcn k ++ byteS 41) ks
theorem textL_fold (s : Bool) : ∀ (ks : List Tr) (p : Tr), zcn (ks.foldl (fun out k => .bin s out k) p) = textL s (zcn p) ks
 | [], p => rfl
 | k :: ks, p => by
  rw [List.foldl_cons, textL_fold s ks]
  rfl
theorem textL_app (s : Bool) : ∀ (ks ls : List Tr) (acc : ByteArray), textL s acc (ks ++ ls) = textL s (textL s acc ks) ls
 | [], ls, acc => rfl
 | k :: ks, ls, acc => textL_app s ks ls _
theorem textL_size (s : Bool) : ∀ (ks : List Tr) (acc : ByteArray), (textL s acc ks).size ≤ acc.size + 4 * sumN ks + 3 * ks.length
 | [], acc => by simp [textL]
 | k :: ks, acc => by
  have h := textL_size s ks (byteS 40 ++ acc ++ byteS (if s then 124 else 45) ++ zcn k ++ byteS 41)
  have h2 := zcm k
  simp only [ByteArray.size_append] at h
  have hb : ∀ c : UInt8, (byteS c).size = 1 := fun _ => rfl
  rw [hb, hb, hb] at h
  simp only [textL, sumN, List.map_cons, List.foldr_cons, List.length_cons] at h ⊢
  omega
theorem partsT_nodes (s : Bool) : ∀ t : Tr, t.tidy = true → ∀ k ∈ partsT s t, k.tidy = true ∧ k.nodes ≤ t.nodes
 | .o, h, k, hk => by
  have : k = .o := by simpa [partsT] using hk
  subst this; exact ⟨rfl, Nat.le_refl _⟩
 | .un _ _, h, _, _ => by cases h
 | .bin b x y, h, k, hk => by
  have ht := h
  simp only [Tr.tidy, Bool.and_eq_true] at h
  by_cases e : b = s
  ·subst e
   rw [partsT_same] at hk
   simp only [Tr.nodes]
   rcases List.mem_append.1 hk with hk | hk
   ·have := partsT_nodes b x h.1 k hk; exact ⟨this.1, by omega⟩
   ·have := partsT_nodes b y h.2 k hk; exact ⟨this.1, by omega⟩
  ·rw [partsT_other e, List.mem_singleton] at hk
   subst hk
   exact ⟨ht, Nat.le_refl _⟩
theorem partsT_less (b : Bool) (x y : Tr) (h : (Tr.bin b x y).tidy = true) : ∀ k ∈ partsT b (.bin b x y), k.tidy = true ∧ k.nodes < (Tr.bin b x y).nodes := by
 intro k hk
 simp only [Tr.tidy, Bool.and_eq_true] at h
 rw [partsT_same] at hk
 simp only [Tr.nodes]
 rcases List.mem_append.1 hk with hk | hk
 ·have := partsT_nodes b x h.1 k hk; exact ⟨this.1, by omega⟩
 ·have := partsT_nodes b y h.2 k hk; exact ⟨this.1, by omega⟩
section
variable {P : Program} {ops : Array Oper} {Q : Exit → Act → World → Prop} {md : Region.Mode} {S S' : World → Prop} {ds : List Nat}
def onlyLastT (md : Region.Mode) (ops : Array Oper) (ds : List Nat) : Bool :=
 ds.all fun d => match ops[d]? with
  | some o => (List.range ops.size).all fun j => j == d || o.after.any fun e => Region.binds md e && e.on == j
  | none => true
theorem onlyLastT_ready {listed : Array Bool} {d : Nat} (h : onlyLastT md ops ds = true) (hd : d ∈ ds) (hr : d ∈ Region.ready md ops listed) : Region.ready md ops (listed.setIfInBounds d true) = [] := by
 apply List.eq_nil_iff_forall_not_mem.2
 intro k hk
 obtain ⟨hun, ok, hok, -⟩ := mem_ready.1 hk
 obtain ⟨-, o, ho, hall⟩ := mem_ready.1 hr
 have h1 := List.all_eq_true.1 h d hd
 rw [ho] at h1
 have hks : k < ops.size := (Array.getElem?_eq_some_iff.1 hok).1
 have h2 := List.all_eq_true.1 h1 k (List.mem_range.2 hks)
 by_cases e : d = k
 ·subst e
  rcases Nat.lt_or_ge d listed.size with h' | h'
  ·simp [h'] at hun
  ·rw [Array.getD_eq_getD_getElem?, Array.getElem?_eq_none (by simpa using h')] at hun
   cases hun
 ·rw [Bool.or_eq_true] at h2
  rcases h2 with h2 | h2
  ·exact e (by simpa using Eq.symm (by simpa using h2))
  ·obtain ⟨ed, he, h3⟩ := Array.any_eq_true'.1 h2
   rw [Bool.and_eq_true, beq_iff_eq] at h3
   have h4 := hall ed he h3.1
   rw [h3.2] at h4
   rw [getD_set_ne true e] at hun
   rcases Nat.lt_or_ge k listed.size with h' | h'
   ·simp [h'] at hun h4
    rw [hun] at h4
    cases h4
   ·simp [Array.getElem?_eq_none h'] at hun
theorem turnT_ (hl : onlyLastT md ops ds = true) (h : ∀ v, S' v → S v) : ∀ (fuel : Nat) (listed : Array Bool) (a : Act) (w : World), S' w → zaw P md ops Q S' ds fuel listed a w → zaw P md ops Q S ds fuel listed a w
 | 0, _, _, _, _, H => H
 | fuel + 1, listed, a, w, hw, H => ⟨H.1, fun i hi => wpOp_mono (fun a' w' hh => by
  by_cases hd : i ∈ ds
  ·refine ⟨fun z => absurd hd z, ?_⟩
   have hr := onlyLastT_ready hl hd hi
   have h2 := hh.2
   cases fuel with
   | zero => exact h2
   | succ n => exact wpAnyLast_done hr (h2.1 hr) (n + 1)
  ·have hs := hh.1 hd hw
   exact ⟨fun _ _ => h _ hs, turnT_ hl h fuel _ a' w' hs hh.2⟩) (H.2 i hi)⟩
theorem turnTB_ {W w : World} {fuel : Nat} {l : Array Bool} {a : Act} (hl : onlyLastT md ops ds = true) (h : Below W.heap.size W w) (hk : zaw P md ops Q (fun v => Below w.heap.size w v) ds fuel l a w) : zaw P md ops Q (fun v => Below W.heap.size W v) ds fuel l a w :=
 turnT_ hl (fun v hv => zae h hv) fuel l a w (Below.refl _ _) hk
end
theorem byte_row {w : World} {g : Nat} {u : Int} (h : w.heap[g]? = some (.cells #[.int .u8 u] 5 (0, 0))) : (Kd.int .u8).C w (some ⟨g, 0, none⟩) 1 [u] := by
 refine ⟨rfl, by omega, fun _ => ⟨_, rfl, fun j p hj => ?_⟩⟩
 have hj0 : j = 0 := by
  rcases Nat.eq_zero_or_pos j with h0 | h0
  ·exact h0
  ·rw [List.getElem?_eq_none (by simp; omega)] at hj; cases hj
 subst hj0
 have hp : u = p := by simpa using hj
 subst hp
 refine ⟨[.int .u8 u], rfl, rfl, fun i z hz => ?_⟩
 have hi : i < 1 := (List.getElem?_eq_some_iff.1 hz).1
 obtain rfl : i = 0 := by omega
 show w.cell? ((⟨g, 0, none⟩ : Addr).add (0 * 1 + 0)) = _
 rw [add_plain, zag h, ← hz]
 rfl
theorem sumN_take (l : List Tr) (i : Nat) (x : Tr) (h : l[i]? = some x) : sumN (l.take i) + x.nodes ≤ sumN l := by
 have e : l = l.take i ++ (x :: l.drop (i + 1)) := by
  have hi := (List.getElem?_eq_some_iff.1 h)
  obtain ⟨hi1, hi2⟩ := hi
  rw [← hi2, ← List.drop_eq_getElem_cons hi1, List.take_append_drop]
 conv => rhs; rw [e]
 rw [sumN_app]
 simp only [sumN, List.map_cons, List.foldr_cons]
 omega
theorem strByte (b : Bool) : strOfNums [binC b] = byteS (if b then 124 else 45) := by cases b <;> rfl
def LeftS (t : Tr) : Prop := ∀ (P : Nat → Prop) (w : World) (sg : Int) (v : Value), TmF w P (toS t) sg v → Calls Try.prog 30 #[.agg #[.int .u8 sg, v]] w fun e w' => e = .returned (.string (zcn (zbm t))) ∧ Below w.heap.size w w'
set_option maxHeartbeats 400000 in
set_option maxRecDepth 100000 in
theorem leftS_leaf : LeftS .o := by
 intro P w sg v hT
 obtain ⟨hsg, A, c, e, -, -⟩ := hT
 have h1 : sg = 111 := hsg
 clear hsg
 subst h1 e
 show Calls Try.prog 30 #[.agg #[.int .u8 111, .slice A 0 c]] w _
 go_enter Try.func30, Try.ntmps30
 go_upto_region 1 with (fail)
 have hb := zac (Below.refl w.heap.size w) (.cells #[.int .u8 111, .slice A 0 c] 38)
 have hk := heap_alloc_new w (.cells #[.int .u8 111, .slice A 0 c] 38)
 generalize w.alloc (.cells #[.int .u8 111, .slice A 0 c] 38) = w2 at *
 obtain ⟨p1, hp1⟩ : ∃ p1, p1 = w.heap.size := ⟨_, rfl⟩
 rw [← hp1] at hk ⊢
 have x0 : w2.cell? ⟨p1, 0, none⟩ = some (.int .u8 111) := (zag hk 0).trans rfl
 have HB := zaa.mk hb
 clear hb hk hp1
 go_wp2
 go_ret
 exact ⟨rfl, HB.out⟩
set_option maxHeartbeats 400000 in
set_option maxRecDepth 100000 in
theorem leftS_bin (b : Bool) (x0t y0t : Tr) (ht : (Tr.bin b x0t y0t).tidy = true) (hn : (Tr.bin b x0t y0t).nodes ≤ 1000) (ih : ∀ k, k.tidy = true → k.nodes < (Tr.bin b x0t y0t).nodes → LeftS k) : LeftS (.bin b x0t y0t) := by
 intro P w sg v hT
 obtain ⟨K, hK⟩ := l11Parts_ev b _ ht hn
 have HPe := zaa.mk (hK K (Nat.le_refl K))
 have HLess := zaa.mk (partsT_less b x0t y0t ht)
 have HIh := zaa.mk ih
 have hal := partsT_along b _ ht
 have ok := (left_ok _ ht).2 b
 have hlr := leftR_bin b x0t y0t
 have hpl := partsT_len b _ ht
 have hps := zco b x0t
 have hps2 := zco b y0t
 have h2 : 2 ≤ (partsT b (.bin b x0t y0t)).length := by rw [hpl, zcf, List.length_append]; omega
 have hsn := ok.nodes
 rw [← hal] at hlr hsn
 have HSn := zaa.mk hsn
 obtain ⟨hsg, A, c, e, hl, hF⟩ := hT
 have hsg' : sg = binC b := hsg
 clear hsg hK ih hal ok hpl hps hps2 ht hsn
 subst e
 obtain ⟨u, hu⟩ : ∃ u, u = binC b := ⟨_, rfl⟩
 have HU := zaa.mk hu
 rw [← hu] at hsg'
 subst hsg'
 have hPe := HPe.out
 rw [show (toS (.bin b x0t y0t)).f0 = binC b from rfl, ← hu] at hPe
 have HPe2 := zaa.mk hPe
 have HF := zaa.mk hF
 have HL := zaa.mk hl
 have HNn := zaa.mk hn
 rw [hlr]
 clear hPe HPe hF hl hu hlr hn
 generalize (Tr.bin b x0t y0t).nodes = nn at *
 generalize partsT b (.bin b x0t y0t) = ps at *
 generalize (toS (.bin b x0t y0t)).f1 = kids at *
 have HPe3 := zaa.mk (show spec_l11Parts.f K sg kids sg = some (ps.map toS) from HPe2.out)
 clear HPe2
 rcases ps with _ | ⟨q0, qs⟩
 ·exact absurd h2 (by simp)
 obtain ⟨m, hm⟩ : ∃ m, m = qs.length := ⟨_, rfl⟩
 have HM := zaa.mk hm
 have hml : m ≤ 2000 := by have h := HSn.out; have h1 := HNn.out; simp at h; omega
 have d1 : (sg == 111) = false := by rw [HU.out]; cases b <;> rfl
 clear h2 hm
 go_enter Try.func30, Try.ntmps30
 go_upto_region 1 with (fail)
 have hb := zac (Below.refl w.heap.size w) (.cells #[.int .u8 sg, .slice A kids.length c] 38)
 have hk := heap_alloc_new w (.cells #[.int .u8 sg, .slice A kids.length c] 38)
 generalize w.alloc (.cells #[.int .u8 sg, .slice A kids.length c] 38) = w2 at *
 obtain ⟨p1, hp1⟩ : ∃ p1, p1 = w.heap.size := ⟨_, rfl⟩
 rw [← hp1] at hk ⊢
 have x10 : w2.cell? ⟨p1, 0, none⟩ = some (.int .u8 sg) := (zag hk 0).trans rfl
 have x11 : w2.cell? ⟨p1, 1, none⟩ = some (.slice A kids.length c) := (zag hk 1).trans rfl
 have HB2 := zaa.mk hb
 clear hb hk hp1
 go_upto_region 4 with (first
  | (go_at_call 43; refine (spec_l11Parts.calls K sg P A c kids sg ((q0 :: qs).map toS) _ (Kd.V_mk HL.out (Kd.F_below HF.out HB2.out)) HPe3.out).mono ?_; rintro e w3 ⟨v3, rfl, hN, hb⟩; have HB23 := zaa.mk hb; have HN3 := zaa.mk hN; clear hb hN))
 obtain ⟨A3, c3, e3, hl3, hF3⟩ := Kd.N_V (base' := 0) HN3.out
 subst e3
 obtain ⟨ad, A1, c1, ea, e0, e1, hT0⟩ := F_elem hF3 0 (toS q0) rfl
 subst ea
 have HF3 := zaa.mk hF3
 have hz : ad.add (0 * 2) = ad := Addr.add_zero' ad
 rw [hz] at e0 e1
 have hl0 := HLess.out q0 (by simp)
 have HQ0 := zaa.mk (HIh.out q0 hl0.1 hl0.2 _ _ _ _ hT0)
 have hlen : ((q0 :: qs).map toS).length = m + 1 := by rw [List.length_map, List.length_cons, HM.out]
 rw [hlen] at hl3 ⊢
 have x30 := zah HB23.out x10
 clear hF3 hz hT0 hl0 hlen hl3 x10 x11 HN3
 generalize (toS q0).f0 = s0 at *
 generalize (toS q0).f1.length = n0 at *
 go_upto_region 5 with (first
  | (go_at_call 30; refine HQ0.out.mono ?_; rintro e w4 ⟨rfl, hb⟩; have HB34 := zaa.mk hb; clear hb))
 obtain ⟨acc0, hacc0⟩ : ∃ acc0, acc0 = zcn (zbm q0) := ⟨_, rfl⟩
 rw [← hacc0]
 have HAcc0 := zaa.mk hacc0
 have hac := zcm (zbm q0)
 rw [← hacc0] at hac
 have HSum := zaa.mk (show (zbm q0).nodes + sumN (qs.map zbm) + qs.length ≤ nn by have h := HSn.out; simp only [List.map_cons, List.length_cons, List.length_map, sumN, List.foldr_cons] at h ⊢; omega)
 have HAcz := zaa.mk hac
 have x4 := zah HB34.out x30
 clear hacc0 hac e0 e1 x30 HQ0
 go_upto_region 6 with (fail)
 go_loopg [4, 5] m (fun kq v4 v5 w' => ∃ (j : Nat), v4 = .string (textL b acc0 ((qs.map zbm).take (j - 1))) ∧ v5 = .int .i64 (j : Int) ∧ zaa (j + kq = m + 1 ∧ 1 ≤ j) ∧ zaa (Below w4.heap.size w4 w'))
 case atStart => exact ⟨1, rfl, rfl, ⟨by omega⟩, ⟨Below.refl _ _⟩⟩
 case round =>
  obtain ⟨j, rfl, rfl, HI, HBl⟩ := hrel
  have hj1 : 1 ≤ j := HI.out.2
  by_cases hj : j < m + 1
  ·have hlt : (j : Int) < ((m + 1 : Nat) : Int) := by omega
   have j0 : (0 : Int) ≤ (j : Int) := by omega
   obtain ⟨kq', hkq⟩ : ∃ z, qs[j - 1]? = some z := ⟨_, List.getElem?_eq_getElem (by have := HM.out; omega)⟩
   have hks : (q0 :: qs)[j]? = some kq' := by
    obtain ⟨j', rfl⟩ : ∃ j', j = j' + 1 := ⟨j - 1, by omega⟩
    simpa using hkq
   obtain ⟨ad', Ax, cx, ea, e0, e1, hTj⟩ := F_elem HF3.out j (toS kq') (by rw [List.getElem?_map, hks]; rfl)
   injection ea with ea
   subst ea
   have hlj := HLess.out kq' (List.mem_of_getElem? hks)
   have hb34l := zae HB34.out HBl.out
   have HE0 := zaa.mk (zah hb34l e0)
   have HE1 := zaa.mk (zah hb34l e1)
   have HX0 := zaa.mk (zah HBl.out x4)
   have HTj := zaa.mk (hTj.below hb34l)
   have HElem := zaa.mk (show ∀ (W : World), Below wr.heap.size wr W → Calls Try.prog 30 #[.agg #[.int .u8 (toS kq').f0, .slice Ax (toS kq').f1.length cx]] W (fun e w' => e = .returned (.string (zcn (zbm kq'))) ∧ Below W.heap.size W w') from fun W hW => HIh.out kq' hlj.1 hlj.2 _ _ _ _ (HTj.out.below hW))
   have hts := zcm (zbm kq')
   have hpre := textL_size b ((qs.map zbm).take (j - 1)) acc0
   have hpost : (qs.map zbm).take j = (qs.map zbm).take (j - 1) ++ [zbm kq'] := by
    conv => lhs; rw [show j = (j - 1) + 1 by omega]
    rw [List.take_add_one, List.getElem?_map, hkq]
    rfl
   have hle1 := sumN_take (qs.map zbm) (j - 1) (zbm kq') (by rw [List.getElem?_map, hkq]; rfl)
   have hlt1 : ((qs.map zbm).take (j - 1)).length ≤ qs.length := by rw [List.length_take, List.length_map]; omega
   have HAcc := zaa.mk (show textL b acc0 ((qs.map zbm).take (j + 1 - 1)) = byteS 40 ++ textL b acc0 ((qs.map zbm).take (j - 1)) ++ byteS (if b then 124 else 45) ++ zcn (zbm kq') ++ byteS 41 by rw [Nat.add_sub_cancel, hpost, textL_app]; rfl)
   have hbig := HSum.out
   have hac := HAcz.out
   have hnn := HNn.out
   have hq0n : qs.length ≤ nn := by omega
   obtain ⟨pre, hprq⟩ : ∃ pre, pre = textL b acc0 ((qs.map zbm).take (j - 1)) := ⟨_, rfl⟩
   obtain ⟨txt, htxt⟩ : ∃ txt, txt = zcn (zbm kq') := ⟨_, rfl⟩
   obtain ⟨st, hst⟩ : ∃ st, st = byteS (if b then 124 else 45) := ⟨_, rfl⟩
   rw [← hprq] at hpre HAcc ⊢
   rw [← htxt] at hts HAcc HElem
   rw [← hst] at HAcc
   have hss : st.size = 1 := by rw [hst]; rfl
   have HSt := zaa.mk (show ∀ {W : World} {g : Nat}, (Kd.int .u8).C W (some ⟨g, 0, none⟩) 1 [sg] → (convert 29 9 (.slice (some ⟨g, 0, none⟩) 1 1)).run Try.prog W = .ok (.string st) W from fun h => by
    have := Kd.C_string (P := Try.prog) (src := 29) (dst := 9) (c := 1) Try.underlying29 Try.underlying5 Try.underlying9 h
    rw [this, HU.out, strByte, hst])
   have z1 : ¬ 9223372036854775807 < 1 + pre.size := by omega
   have z2 : ¬ 9223372036854775807 < 1 + pre.size + st.size := by omega
   have z3 : ¬ 9223372036854775807 < 1 + pre.size + st.size + txt.size := by omega
   have z4 : ¬ 9223372036854775807 < 1 + pre.size + st.size + txt.size + 1 := by omega
   generalize (toS kq').f0 = sx at *
   generalize (toS kq').f1.length = nx at *
   clear hkq hks e0 e1 hTj hlj hb34l hts hpre hpost hle1 hlt1 hbig hac hnn hq0n hprq htxt hst hss HTj
   go_upto_region 8 with (fail)
   refine start_ (n := 15) (S := fun w' => Below wr.heap.size wr w') (ds := []) #[false, false, false, false, false, false, false, false, false, false, false, false, false, false, false] (by kernel_rfl) rfl rfl (zbn (Below.refl _ _)) (fun hHeld => ?_)
   refine zba (i := 0) (N := some 23) (v := ?_) (a' := ?_) #[true, false, false, false, false, false, false, false, false, false, false, false, false, false, false] rfl rfl (by kernel_rfl) (fun _ _ _ h => h) (Or.inl ⟨by rfl, ?_⟩) ?_ ?_
   rotate_left
   ·intro w'
    go_simp
    with_reducible rfl
   rotate_left
   ·simp only [Act.put, List.setIfInBounds_toArray, List.set_cons_zero, List.set_cons_succ, zaq, zar]
    rfl
   refine zba (i := 1) (N := some 24) (v := ?_) (a' := ?_) #[true, true, false, false, false, false, false, false, false, false, false, false, false, false, false] rfl rfl (by kernel_rfl) (fun _ _ _ h => h) (Or.inl ⟨by rfl, ?_⟩) ?_ ?_
   rotate_left
   ·intro w'
    go_simp
    with_reducible rfl
   rotate_left
   ·simp only [Act.put, List.setIfInBounds_toArray, List.set_cons_zero, List.set_cons_succ, zaq, zar]
    rfl
   refine zba (i := 2) (N := some 25) (v := ?_) (a' := ?_) #[true, true, true, false, false, false, false, false, false, false, false, false, false, false, false] rfl rfl (by kernel_rfl) (fun _ _ _ h => h) (Or.inl ⟨by rfl, ?_⟩) ?_ ?_
   rotate_left
   ·intro w'
    go_simp
    with_reducible rfl
   rotate_left
   ·simp only [Act.put, List.setIfInBounds_toArray, List.set_cons_zero, List.set_cons_succ, zaq, zar]
    rfl
   refine take_ (i := 3) (N := some 26) (v := ?_) (a' := ?_) #[true, true, true, true, false, false, false, false, false, false, false, false, false, false, false] rfl rfl (by kernel_rfl) (fun _ _ _ h => h) (Or.inl ⟨by rfl, ?_⟩) hHeld ?_ ?_
   rotate_left
   ·intro w' hb_
    have y0 := zah hb_ HX0.out
    go_simp
    with_reducible rfl
   rotate_left
   ·simp only [Act.put, List.setIfInBounds_toArray, List.set_cons_zero, List.set_cons_succ, zaq, zar]
    rfl
   refine zba (i := 7) (N := some 30) (v := ?_) (a' := ?_) #[true, true, true, true, false, false, false, true, false, false, false, false, false, false, false] rfl rfl (by kernel_rfl) (fun _ _ _ h => h) (Or.inl ⟨by rfl, ?_⟩) ?_ ?_
   rotate_left
   ·intro w'
    go_simp
    with_reducible rfl
   rotate_left
   ·simp only [Act.put, List.setIfInBounds_toArray, List.set_cons_zero, List.set_cons_succ, zaq, zar]
    rfl
   refine zba (i := 8) (N := some 31) (v := ?_) (a' := ?_) #[true, true, true, true, false, false, false, true, true, false, false, false, false, false, false] rfl rfl (by kernel_rfl) (fun _ _ _ h => h) (Or.inl ⟨by rfl, ?_⟩) ?_ ?_
   rotate_left
   ·intro w'
    go_simp
    with_reducible rfl
   rotate_left
   ·simp only [Act.put, List.setIfInBounds_toArray, List.set_cons_zero, List.set_cons_succ, zaq, zar]
    rfl
   refine zba (i := 9) (N := some 32) (v := ?_) (a' := ?_) #[true, true, true, true, false, false, false, true, true, true, false, false, false, false, false] rfl rfl (by kernel_rfl) (fun _ _ _ h => h) (Or.inl ⟨by rfl, ?_⟩) ?_ ?_
   rotate_left
   ·intro w'
    go_simp
    with_reducible rfl
   rotate_left
   ·simp only [Act.put, List.setIfInBounds_toArray, List.set_cons_zero, List.set_cons_succ, zaq, zar]
    rfl
   refine take_ (i := 10) (N := some 33) (v := ?_) (a' := ?_) #[true, true, true, true, false, false, false, true, true, true, true, false, false, false, false] rfl rfl (by kernel_rfl) (fun _ _ _ h => h) (Or.inl ⟨by rfl, ?_⟩) hHeld ?_ ?_
   rotate_left
   ·intro w' hb_
    have y0 := zah hb_ HE0.out
    have y1 := zah hb_ HE1.out
    go_simp
    with_reducible rfl
   rotate_left
   ·simp only [Act.put, List.setIfInBounds_toArray, List.set_cons_zero, List.set_cons_succ, zaq, zar]
    rfl
   refine two_ (i := 4) (j := 11) (Ni := some 27) (Nj := some 34) #[true, true, true, true, true, false, false, true, true, true, true, false, false, false, false] #[true, true, true, true, false, false, false, true, true, true, true, true, false, false, false] rfl rfl rfl rfl (by kernel_rfl) (by decide) (by decide) (fun K hK => ?_) (fun K hK => ?_)
   ·refine event_step (by rfl) (v := .slice (some ⟨wr.drew.heap.size, 0, none⟩) 1 1) (w1 := wr.drew.alloc (.cells #[.int .u8 sg] 5)) (by first | (go_simp; done) | (go_simp; rfl)) ?_
    have hba := zac (Below.refl wr.drew.heap.size wr.drew) (.cells #[.int .u8 sg] 5)
    have hka := heap_alloc_new wr.drew (.cells #[.int .u8 sg] 5)
    generalize wr.drew.alloc (.cells #[.int .u8 sg] 5) = w4 at *
    obtain ⟨gb, hgb⟩ : ∃ gb, gb = wr.drew.heap.size := ⟨_, rfl⟩
    rw [← hgb] at hka ⊢
    have HBy := zaa.mk (byte_row hka)
    have HBa := zaa.mk hba
    refine hK.out _ _ (zae hHeld HBa.out) (fun hHeld => ?_)
    clear hK K hba hka hgb
    refine norm_ (a' := ?_) ?_ ?_
    rotate_left
    ·show Act.put _ (some 27) _ = _
     simp only [Act.put, List.setIfInBounds_toArray, List.set_cons_zero, List.set_cons_succ, zaq, zar]
     rfl
    refine turnTB_ (by kernel_rfl) hHeld ?_
    have hHeld0 := hHeld
    replace hHeld := Below.refl w4.heap.size w4
    refine take_ (i := 5) (N := some 28) (v := ?_) (a' := ?_) #[true, true, true, true, true, true, false, true, true, true, true, false, false, false, false] rfl rfl (by kernel_rfl) (fun _ _ _ h => h) (Or.inl ⟨by rfl, ?_⟩) hHeld ?_ ?_
    rotate_left
    ·intro w' hb_
     have hcv := HSt.out (Kd.C_below HBy.out hb_)
     go_simp
     with_reducible rfl
    rotate_left
    ·simp only [Act.put, List.setIfInBounds_toArray, List.set_cons_zero, List.set_cons_succ, zaq, zar]
     rfl
    refine zba (i := 6) (N := some 29) (v := ?_) (a' := ?_) #[true, true, true, true, true, true, true, true, true, true, true, false, false, false, false] rfl rfl (by kernel_rfl) (fun _ _ _ h => h) (Or.inl ⟨by rfl, ?_⟩) ?_ ?_
    rotate_left
    ·intro w'
     go_simp
     with_reducible rfl
    rotate_left
    ·simp only [Act.put, List.setIfInBounds_toArray, List.set_cons_zero, List.set_cons_succ, zaq, zar]
     rfl
    refine one_ (i := 11) (N := some 34) #[true, true, true, true, true, true, true, true, true, true, true, true, false, false, false] rfl rfl (by kernel_rfl) (by decide) (fun K hK => ?_)
    refine goes_ Try.func30 (by kernel_rfl) rfl #[.agg #[.int .u8 sx, .slice Ax nx cx]] (by rfl) rfl rfl (by (try simp only [List.map_toArray, List.map_cons, List.map_nil]); first | done | rfl) ?_
    refine (HElem.out _ (zae (zbn (Below.refl _ _)) HBa.out)).mono ?_
    rintro e w5 ⟨rfl, hb5⟩
    refine ⟨_, rfl, ?_⟩
    refine hK.out _ _ hb5 (fun hHeld => ?_)
    have HB5 := zaa.mk (zae (zae (zbn (Below.refl _ _)) HBa.out) hb5)
    clear hK K hb5
    refine norm_ (a' := ?_) ?_ ?_
    rotate_left
    ·show Act.put _ (some 34) _ = _
     simp only [Act.put, List.setIfInBounds_toArray, List.set_cons_zero, List.set_cons_succ, zaq, zar]
     rfl
    refine zba (i := 12) (N := some 35) (v := ?_) (a' := ?_) #[true, true, true, true, true, true, true, true, true, true, true, true, true, false, false] rfl rfl (by kernel_rfl) (fun _ _ _ h => h) (Or.inl ⟨by rfl, ?_⟩) ?_ ?_
    rotate_left
    ·intro w'
     go_simp
     with_reducible rfl
    rotate_left
    ·simp only [Act.put, List.setIfInBounds_toArray, List.set_cons_zero, List.set_cons_succ, zaq, zar]
     rfl
    refine zba (i := 13) (N := some 36) (v := ?_) (a' := ?_) #[true, true, true, true, true, true, true, true, true, true, true, true, true, true, false] rfl rfl (by kernel_rfl) (fun _ _ _ h => h) (Or.inl ⟨by rfl, ?_⟩) ?_ ?_
    rotate_left
    ·intro w'
     go_simp
     with_reducible rfl
    rotate_left
    ·simp only [Act.put, List.setIfInBounds_toArray, List.set_cons_zero, List.set_cons_succ, zaq, zar]
     rfl
    refine zba (i := 14) (N := some 4) (v := ?_) (a' := ?_) #[true, true, true, true, true, true, true, true, true, true, true, true, true, true, true] rfl rfl (by kernel_rfl) (fun _ _ _ h => h) (Or.inl ⟨by rfl, ?_⟩) ?_ ?_
    rotate_left
    ·intro w'
     go_simp
     with_reducible rfl
    rotate_left
    ·simp only [Act.put, List.setIfInBounds_toArray, List.set_cons_zero, List.set_cons_succ, zaq, zar]
     rfl
    refine done_ (by kernel_rfl) ?_
    go_wp2
    go_roundg (m - j)
    case measure => have := HI.out; omega
    case rel => exact ⟨j + 1, by rw [HAcc.out]; rfl, by first | rfl | (congr 1; omega), ⟨by have := HI.out; omega⟩, ⟨zae HBl.out HB5.out⟩⟩
   ·refine goes_ Try.func30 (by kernel_rfl) rfl #[.agg #[.int .u8 sx, .slice Ax nx cx]] (by rfl) rfl rfl (by (try simp only [List.map_toArray, List.map_cons, List.map_nil]); first | done | rfl) ?_
    refine (HElem.out _ (zbn (Below.refl _ _))).mono ?_
    rintro e w5 ⟨rfl, hb5⟩
    refine ⟨_, rfl, ?_⟩
    have hs5 := zae hHeld hb5
    refine hK.out _ _ hs5 (fun hHeld => ?_)
    clear hK K
    refine norm_ (a' := ?_) ?_ ?_
    rotate_left
    ·show Act.put _ (some 34) _ = _
     simp only [Act.put, List.setIfInBounds_toArray, List.set_cons_zero, List.set_cons_succ, zaq, zar]
     rfl
    refine one_ (i := 4) (N := some 27) #[true, true, true, true, true, false, false, true, true, true, true, true, false, false, false] rfl rfl (by kernel_rfl) (by decide) (fun K hK => ?_)
    refine event_step (by rfl) (v := .slice (some ⟨w5.heap.size, 0, none⟩) 1 1) (w1 := w5.alloc (.cells #[.int .u8 sg] 5)) (by first | (go_simp; done) | (go_simp; rfl)) ?_
    have hba := zac (Below.refl w5.heap.size w5) (.cells #[.int .u8 sg] 5)
    have hka := heap_alloc_new w5 (.cells #[.int .u8 sg] 5)
    generalize w5.alloc (.cells #[.int .u8 sg] 5) = w4 at *
    obtain ⟨gb, hgb⟩ : ∃ gb, gb = w5.heap.size := ⟨_, rfl⟩
    rw [← hgb] at hka ⊢
    have HBy := zaa.mk (byte_row hka)
    have HBa := zaa.mk hba
    refine hK.out _ _ (zae hHeld HBa.out) (fun hHeld => ?_)
    have HB5 := zaa.mk (zae hs5 HBa.out)
    clear hK K hba hka hgb hb5 hs5
    refine norm_ (a' := ?_) ?_ ?_
    rotate_left
    ·show Act.put _ (some 27) _ = _
     simp only [Act.put, List.setIfInBounds_toArray, List.set_cons_zero, List.set_cons_succ, zaq, zar]
     rfl
    refine turnTB_ (by kernel_rfl) hHeld ?_
    replace hHeld := Below.refl w4.heap.size w4
    refine take_ (i := 5) (N := some 28) (v := ?_) (a' := ?_) #[true, true, true, true, true, true, false, true, true, true, true, true, false, false, false] rfl rfl (by kernel_rfl) (fun _ _ _ h => h) (Or.inl ⟨by rfl, ?_⟩) hHeld ?_ ?_
    rotate_left
    ·intro w' hb_
     have hcv := HSt.out (Kd.C_below HBy.out hb_)
     go_simp
     with_reducible rfl
    rotate_left
    ·simp only [Act.put, List.setIfInBounds_toArray, List.set_cons_zero, List.set_cons_succ, zaq, zar]
     rfl
    refine zba (i := 6) (N := some 29) (v := ?_) (a' := ?_) #[true, true, true, true, true, true, true, true, true, true, true, true, false, false, false] rfl rfl (by kernel_rfl) (fun _ _ _ h => h) (Or.inl ⟨by rfl, ?_⟩) ?_ ?_
    rotate_left
    ·intro w'
     go_simp
     with_reducible rfl
    rotate_left
    ·simp only [Act.put, List.setIfInBounds_toArray, List.set_cons_zero, List.set_cons_succ, zaq, zar]
     rfl
    refine zba (i := 12) (N := some 35) (v := ?_) (a' := ?_) #[true, true, true, true, true, true, true, true, true, true, true, true, true, false, false] rfl rfl (by kernel_rfl) (fun _ _ _ h => h) (Or.inl ⟨by rfl, ?_⟩) ?_ ?_
    rotate_left
    ·intro w'
     go_simp
     with_reducible rfl
    rotate_left
    ·simp only [Act.put, List.setIfInBounds_toArray, List.set_cons_zero, List.set_cons_succ, zaq, zar]
     rfl
    refine zba (i := 13) (N := some 36) (v := ?_) (a' := ?_) #[true, true, true, true, true, true, true, true, true, true, true, true, true, true, false] rfl rfl (by kernel_rfl) (fun _ _ _ h => h) (Or.inl ⟨by rfl, ?_⟩) ?_ ?_
    rotate_left
    ·intro w'
     go_simp
     with_reducible rfl
    rotate_left
    ·simp only [Act.put, List.setIfInBounds_toArray, List.set_cons_zero, List.set_cons_succ, zaq, zar]
     rfl
    refine zba (i := 14) (N := some 4) (v := ?_) (a' := ?_) #[true, true, true, true, true, true, true, true, true, true, true, true, true, true, true] rfl rfl (by kernel_rfl) (fun _ _ _ h => h) (Or.inl ⟨by rfl, ?_⟩) ?_ ?_
    rotate_left
    ·intro w'
     go_simp
     with_reducible rfl
    rotate_left
    ·simp only [Act.put, List.setIfInBounds_toArray, List.set_cons_zero, List.set_cons_succ, zaq, zar]
     rfl
    refine done_ (by kernel_rfl) ?_
    go_wp2
    go_roundg (m - j)
    case measure => have := HI.out; omega
    case rel => exact ⟨j + 1, by rw [HAcc.out]; rfl, by first | rfl | (congr 1; omega), ⟨by have := HI.out; omega⟩, ⟨zae HBl.out HB5.out⟩⟩
  ·have hge : ¬ (j : Int) < ((m + 1 : Nat) : Int) := by omega
   go_wp2
   go_ret
   have hjm : j = m + 1 := by have := HI.out; omega
   have e : zcn (foldB b ((q0 :: qs).map zbm)) = textL b acc0 ((qs.map zbm).take (j - 1)) := by
    rw [hjm, Nat.add_sub_cancel, List.take_of_length_le (by rw [List.length_map, HM.out]; exact Nat.le_refl _), HAcc0.out]
    exact textL_fold b (qs.map zbm) (zbm q0)
   exact ⟨congrArg (fun z => Ending.returned (Value.string z)) e.symm, zae (zae (zae HB2.out HB23.out) HB34.out) HBl.out⟩
end Go.Proofs.Ytgiidlebnjbgeaa.Hd
namespace Go.Proofs.Ytgiidlebnjbgeaa.Hd
open Go.RowKit Go.PW.PrintWords Go.PW.PrintLast Go.PW.PrintMore Go.Proofs.Ytgiidlebnjbgeaa.PB
theorem leftS_all : ∀ (n : Nat) (t : Tr), t.nodes ≤ n → t.tidy = true → t.nodes ≤ 1000 → LeftS t := by
 intro n
 induction n with
 | zero => intro t h; exact absurd h (by cases t <;> simp [Tr.nodes])
 | succ n ih =>
  intro t h ht h1
  cases t with
  | o => exact leftS_leaf
  | un c t => cases ht
  | bin b x y => exact leftS_bin b x y ht h1 (fun k hk hlt => ih k (by omega) hk (by omega))
set_option maxHeartbeats 400000 in
set_option maxRecDepth 100000 in
theorem specLeft_calls (s : ByteArray) (hs : s.size ≤ 1048576) (w : World) : Calls Try.prog 16 #[.string s] w (StrRes w (zbq s)) := by
 have HOf := zaa.mk (fun w => l11Of_calls s hs w)
 cases hof : ofR s with
 | none =>
  have HR := zaa.mk (show zbq s = (⟨#[]⟩, false) by unfold zbq; rw [hof])
  rw [hof] at HOf
  clear hof
  go_enter Try.func16, Try.ntmps16
  go_upto_region 3 with (first
   | (go_at_call 19; refine (HOf.out _).mono ?_; rintro e w2 ⟨sg, A, n, c, b, rfl, hb, hres⟩; replace hres : b = false := hres; subst hres; have HB2 := zaa.mk hb; clear hb))
  have hb := zac (Below.refl w2.heap.size w2) (.cells #[.int .u8 sg, .slice A n c] 38)
  generalize w2.alloc (.cells #[.int .u8 sg, .slice A n c] 38) = w3 at *
  have HB3 := zaa.mk (zae HB2.out hb)
  clear hb
  go_wp2
  go_ret2
  rw [HR.out]
  exact ⟨rfl, HB3.out⟩
 | some t =>
  have HR := zaa.mk (show zbq s = (zcn (zbm (tid t)), true) by unfold zbq; rw [hof])
  have HLs := zaa.mk (leftS_all (tid t).nodes (tid t) (Nat.le_refl _) (zby t) (by have := ofR_nodes hof; have := tid_nodes t; omega))
  rw [hof] at HOf
  have hz := tidyR_zero t
  clear hof
  go_enter Try.func16, Try.ntmps16
  go_upto_region 4 with (first
   | (go_at_call 19; refine (HOf.out _).mono ?_; rintro e w2 ⟨sg, A, n, c, b, rfl, hb, hres⟩; replace hres : b = true ∧ TmF w2 (fun k => w.heap.size ≤ k) (toS t) sg (.slice A n c) := hres; obtain ⟨rfl, hT⟩ := hres; have HB2 := zaa.mk hb; have HT := zaa.mk hT; clear hb hT))
  have hb := zac (Below.refl w2.heap.size w2) (.cells #[.int .u8 sg, .slice A n c] 38)
  have hk := heap_alloc_new w2 (.cells #[.int .u8 sg, .slice A n c] 38)
  generalize w2.alloc (.cells #[.int .u8 sg, .slice A n c] 38) = w3 at *
  obtain ⟨p4, hp4⟩ : ∃ p4, p4 = w2.heap.size := ⟨_, rfl⟩
  rw [← hp4] at hk ⊢
  have x0 : w3.cell? ⟨p4, 0, none⟩ = some (.int .u8 sg) := (zag hk 0).trans rfl
  have x1 : w3.cell? ⟨p4, 1, none⟩ = some (.slice A n c) := (zag hk 1).trans rfl
  have HB3 := zaa.mk (zae HB2.out hb)
  have HT3 := zaa.mk (HT.out.below hb)
  have HTi := zaa.mk (l11Tidy_calls t 0 false w3 sg (.slice A n c) 0 rfl (by omega) HT3.out.now)
  rw [hz] at HTi
  clear hb hk hp4 hz
  go_wp2_with (first
   | (go_at_call 21; refine HTi.out.mono ?_; rintro e w5 ⟨sr, Ar, nr, cr, rfl, hb, hT⟩; have HB5 := zaa.mk (zae HB3.out hb); have HT5 := zaa.mk hT; clear hb hT)
   | (go_at_call 30; refine (HLs.out _ _ _ _ HT5.out).mono ?_; rintro e w6 ⟨rfl, hb⟩; have HB6 := zaa.mk (zae HB5.out hb); clear hb))
  go_ret2
  rw [HR.out]
  exact ⟨rfl, HB6.out⟩
def spec_TermLeft.f (s : ByteArray) : Option (ByteArray × Bool) := if s.size ≤ 1048576 then some (zbq s) else none
theorem spec_TermLeft.calls (a0 : ByteArray) (r1 : ByteArray) (r2 : Bool) (w : World) (h : spec_TermLeft.f a0 = some (r1, r2)) :
  Calls Try.prog 16 #[.string a0] w fun e w' => e = .returned (.tuple #[.string r1, .bool r2]) ∧ Below w.heap.size w w' := by
 unfold spec_TermLeft.f at h
 split at h
 ·rename_i hs
  have e := Option.some.inj h
  have := specLeft_calls a0 hs w
  rw [e] at this
  exact this
 ·cases h
end Go.Proofs.Ytgiidlebnjbgeaa.Hd
namespace Go.Proofs.Ytgiidlebnjbgeaa.TS
open Go.Proofs.Ytgiidlebnjbgeaa.PB Go.Proofs.Ytgiidlebnjbgeaa.Hd Go.Proofs.Ytgiidlebnjbgeaa.SM
open Go.RowKit Go.PW.PrintWords Go.PW.PrintLast Go.PW.PrintMore
attribute [local go_sem] zcc zca zcr zcq zbu zbt zcb zbz   -- for this text's walks alone
def errW : Option Int → Value
 | none => .nilIface
 | some c => .iface 0 (.int .i64 c)
theorem zan : errW none = .nilIface := rfl
theorem zam (c : Int) : errW (some c) = .iface 0 (.int .i64 c) := rfl
theorem info3 : (Try.prog.info? 3).map (fun i => (i.zero, i.size, i.bytes)) = some (some (.int .i64 0), 1, 8) := by kernel_rfl
theorem info5 : (Try.prog.info? 5).map (fun i => (i.zero, i.size, i.bytes)) = some (some (.int .u8 0), 1, 1) := by kernel_rfl
theorem info38 : (Try.prog.info? 38).map (fun i => (i.zero, i.size, i.bytes)) = some (some (.agg #[(.int .u8 0), (.slice none 0 0)]), 2, 32) := by kernel_rfl
structure S38 where
 f0 : Int
 f1 : (List S38)
def z38 : S38 := ⟨(0 : Int), ([] : List S38)⟩
def F38 (d : Kd S38) : Kd S38 := Kd.iso (Kd.pair (Kd.int .u8) (Kd.slice 38 d)) (fun x : S38 => (x.f0, x.f1))
theorem mono38 : Kd.Mono F38 := Kd.mono_iso _ (Kd.mono_pair (Kd.mono_const _) (Kd.mono_slice 38 Kd.mono_id))
theorem sub38 : Kd.Sub F38 [38] := Kd.sub_iso _ (Kd.sub_pair (Kd.sub_const _ (by decide)) (Kd.sub_slice 38 (by decide) Kd.sub_id))
theorem sz38 : ∀ n, (Kd.upto F38 2 [38] n).sz = 2 := Kd.upto_sz (fun _ => rfl)
def k38 : Kd S38 := Kd.fix F38 2 [38] sz38 (Kd.upto_E sub38)
theorem k38_open {w : World} {x : S38} {cs : List Value} (h : k38.K w x cs) : ∃ A1 c1, cs = [.int .u8 x.f0, .slice A1 x.f1.length c1] ∧ x.f1.length ≤ c1 ∧ k38.C w A1 x.f1.length x.f1 := by
 obtain ⟨n, h⟩ := h
 cases n with
 | zero => exact h.elim
 | succ n =>
  obtain ⟨_, _, rfl, rfl, ⟨A1, c1, rfl, l1, g1⟩⟩ := h
  exact ⟨A1, c1, rfl, l1, Kd.fix_C g1⟩
theorem k38_mk (w : World) (x : S38) {A1 : Option Addr} {c1 : Nat} (l1 : x.f1.length ≤ c1) (g1 : k38.C w A1 x.f1.length x.f1) : k38.K w x [.int .u8 x.f0, .slice A1 x.f1.length c1] := by
 obtain ⟨n1, q1⟩ := Kd.fix_C_back mono38 g1
 have r1 := Kd.upto_C_le mono38 sz38 (show n1 ≤ n1 by omega) q1
 exact ⟨n1 + 1, ⟨[.int .u8 x.f0], [.slice A1 x.f1.length c1], rfl, rfl, ⟨A1, c1, rfl, l1, r1⟩⟩⟩
theorem k38_openF {W : World} {ok : Nat → Prop} {x : S38} {cs : List Value} (h : Kd.FK k38 W ok x cs) : ∃ A1 c1, cs = [.int .u8 x.f0, .slice A1 x.f1.length c1] ∧ x.f1.length ≤ c1 ∧ Kd.F k38 W ok A1 x.f1.length x.f1 := by
 obtain ⟨A1, c1, rfl, l1, _⟩ := k38_open (Kd.FK_now h)
 exact ⟨A1, c1, rfl, l1, (fun W' hW => by obtain ⟨A1_, c1_, he, l1_, g1_⟩ := k38_open (h W' hW); injection (Option.some.inj (show some (Value.slice A1 x.f1.length c1) = some (Value.slice A1_ x.f1.length c1_) from congrArg (fun l => l[1]?) he)) with ha_ _ _; rw [ha_]; exact g1_)⟩
theorem k38_mkF (W : World) (ok : Nat → Prop) (x : S38) {A1 : Option Addr} {c1 : Nat} (l1 : x.f1.length ≤ c1) (g1 : Kd.F k38 W ok A1 x.f1.length x.f1) : Kd.FK k38 W ok x [.int .u8 x.f0, .slice A1 x.f1.length c1] := fun W2 hW => k38_mk W2 x l1 (g1 W2 hW)
def zay (xs : List S38) (i : Int) : S38 := xs.getD i.toNat z38
theorem at_T38 {w : World} {A : Option Addr} {n : Nat} {xs : List S38} (h : Kd.C k38 w A n xs) (i : Int) (h0 : 0 ≤ i) (h1 : i < n) : ∃ ad A1 c1, A = some ad ∧ w.cell? (ad.add (i.toNat * 2)) = some (.int .u8 (zay xs i).f0) ∧ w.cell? ⟨(ad.add (i.toNat * 2)).block, (ad.add (i.toNat * 2)).off + 1, none⟩ = some (.slice A1 (zay xs i).f1.length c1) ∧ (zay xs i).f1.length ≤ c1 ∧ k38.C w A1 (zay xs i).f1.length (zay xs i).f1 := by
 obtain ⟨ad, c, e, _, hK, hc0⟩ := Kd.C_get h z38 i h0 h1
 have hc : ∀ j u, c[j]? = some u → w.cell? (ad.add (i.toNat * 2 + j)) = some u := hc0
 obtain ⟨A1, c1, rfl, l1, g1⟩ := k38_open hK
 exact ⟨ad, A1, c1, e, hc 0 _ rfl, by rw [← add_field _ _ 1 (by omega)]; exact hc 1 _ rfl, l1, g1⟩
end Go.Proofs.Ytgiidlebnjbgeaa.TS
namespace Go.Proofs.Ytgiidlebnjbgeaa.TS
open Go.Proofs.Ytgiidlebnjbgeaa.PB Go.Proofs.Ytgiidlebnjbgeaa.Hd Go.Proofs.Ytgiidlebnjbgeaa.SM
open Go.RowKit Go.PW.PrintWords Go.PW.PrintLast Go.PW.PrintMore
attribute [local go_sem] zcc zca zcr zcq zbu zbt zcb zbz   -- for this text's walks alone
def spec_TermSame.f (k : Nat) (a0 : ByteArray) (a1 : ByteArray) : Option (Bool) := (spec_TermPerm.f a0).bind fun bt212 => ((spec_TermPerm.f a1).bind fun bt216 => (if bt212.2 = true then (if bt216.2 = true then ((spec_l5Equal.f k bt212.1 bt216.1).bind fun t220 => (some t220)) else (some false)) else (some false)))
set_option maxHeartbeats 8000000 in
set_option maxRecDepth 100000 in
theorem spec_TermSame.calls (k : Nat) (a0 : ByteArray) (a1 : ByteArray) (r : Bool) (w : World) (h : spec_TermSame.f k a0 a1 = some r) :
  Calls Try.prog 12 #[.string a0, .string a1] w fun e w' => e = .returned (.bool r) ∧ Below w.heap.size w w' := by
 have HB := zaa.mk (Below.refl w.heap.size w)
 have H : ((spec_TermPerm.f a0).bind fun bt212 => ((spec_TermPerm.f a1).bind fun bt216 => (if bt212.2 = true then (if bt216.2 = true then ((spec_l5Equal.f k bt212.1 bt216.1).bind fun t220 => (some t220)) else (some false)) else (some false)))) = some r := h
 clear h
 replace H := Option.bind_eq_some_iff.mp H
 obtain ⟨⟨t212, t213⟩, A30, H⟩ := H
 replace H : ((spec_TermPerm.f a1).bind fun bt216 => (if t213 = true then (if bt216.2 = true then ((spec_l5Equal.f k t212 bt216.1).bind fun t220 => (some t220)) else (some false)) else (some false))) = some r := H
 have A3 := zaa.mk A30
 clear A30
 replace H := Option.bind_eq_some_iff.mp H
 obtain ⟨⟨t216, t217⟩, A40, H⟩ := H
 replace H : (if t213 = true then (if t217 = true then ((spec_l5Equal.f k t212 t216).bind fun t220 => (some t220)) else (some false)) else (some false)) = some r := H
 have A4 := zaa.mk A40
 clear A40
 by_cases c5 : t213 = true
 ·subst c5
  have H1 : (if t217 = true then ((spec_l5Equal.f k t212 t216).bind fun t220 => (some t220)) else (some false)) = some r := by rw [if_pos rfl] at H; exact H
  clear H
  have H := H1
  clear H1
  by_cases c6 : t217 = true
  ·subst c6
   have H1 : ((spec_l5Equal.f k t212 t216).bind fun t220 => (some t220)) = some r := by rw [if_pos rfl] at H; exact H
   clear H
   have H := H1
   clear H1
   replace H := Option.bind_eq_some_iff.mp H
   obtain ⟨t220, A70, H⟩ := H
   replace H : (some t220) = some r := H
   have A7 := zaa.mk A70
   clear A70
   obtain rfl := Option.some.inj H
   go_enter Try.func12, Try.ntmps12
   go_wp2_with (first | ((with_reducible refine zak (f := 7) rfl ?_); refine zbb (some 11) rfl rfl Try.func7 (by kernel_rfl) rfl #[.string a0] rfl (by (try simp only [List.map_toArray, List.map_cons, List.map_nil]); first | done | rfl | (simp only [List.length_drop, List.length_take]; rfl)) ?_; (with_reducible refine (spec_TermPerm.calls a0 t212 true _ A3.out).mono ?_); rintro e w8 ⟨v214, rfl, ho0, hb⟩; refine ⟨_, rfl, ?_⟩; have n0_ := zaa.mk (Kd.R_lower ho0 (zap (by repeat (first | (with_reducible first | exact HB.out | apply zac | apply zab | apply zad) | exact HB.out)))); have n1_ := zaa.mk (zae (by repeat (first | (with_reducible first | exact HB.out | apply zac | apply zab | apply zad) | exact HB.out)) hb); clear HB; have HO215 := n0_; have HB := n1_; clear n0_ n1_; (try clear hb); (try clear hb2); (try clear hk); (try clear hi); (try clear ho0)) | ((with_reducible refine zak (f := 7) rfl ?_); refine zbb (some 16) rfl rfl Try.func7 (by kernel_rfl) rfl #[.string a1] rfl (by (try simp only [List.map_toArray, List.map_cons, List.map_nil]); first | done | rfl | (simp only [List.length_drop, List.length_take]; rfl)) ?_; (with_reducible refine (spec_TermPerm.calls a1 t216 true _ A4.out).mono ?_); rintro e w9 ⟨v218, rfl, ho0, hb⟩; refine ⟨_, rfl, ?_⟩; have n0_ := zaa.mk (Kd.R_elder' (by (with_reducible repeat (first | apply Kd.R_alloc | apply Kd.R_drewN | apply Kd.R_drew)); exact HO215.out) (Kd.R_base ho0) hb); have n1_ := zaa.mk (Kd.R_lower (Kd.R_new' ho0 (Kd.R_lt (by (with_reducible repeat (first | apply Kd.R_alloc | apply Kd.R_drewN | apply Kd.R_drew)); exact HO215.out))) (zap (by repeat (first | (with_reducible first | exact HB.out | apply zac | apply zab | apply zad) | exact HB.out)))); have n2_ := zaa.mk (zae (by repeat (first | (with_reducible first | exact HB.out | apply zac | apply zab | apply zad) | exact HB.out)) hb); clear HO215; clear HB; have HO215 := n0_; have HO219 := n1_; have HB := n2_; clear n0_ n1_ n2_; (try clear hb); (try clear hb2); (try clear hk); (try clear hi); (try clear ho0); obtain ⟨Ao10, co10, eo10⟩ := Kd.R_slice HO215.out; subst eo10; obtain ⟨Ao11, co11, eo11⟩ := Kd.R_slice HO219.out; subst eo11) | (go_at_call 25; (with_reducible refine (spec_l5Equal.calls k _ _ t212 _ _ t216 t220 _ ?side1 ?side2 ?side3 ?side4 A7.out).mono ?_); (case side1 => repeat (first | exact (Kd.R_reads' HO215.out).2.2 | (with_reducible refine Kd.C_alloc ?_ _) | (with_reducible refine Kd.C_drewN ?_ _) | (with_reducible refine Kd.C_drew ?_))); (case side2 => exact (Kd.R_reads' HO215.out).2.1); (case side3 => repeat (first | exact (Kd.R_reads' HO219.out).2.2 | (with_reducible refine Kd.C_alloc ?_ _) | (with_reducible refine Kd.C_drewN ?_ _) | (with_reducible refine Kd.C_drew ?_))); (case side4 => exact (Kd.R_reads' HO219.out).2.1); rintro e w' ⟨rfl, ⟨nd, rfl⟩⟩))
   go_ret
   exact ⟨by first | rfl | (simp [zan, zam] <;> rfl) | (simp [*, zan, zam] <;> rfl), by repeat (first | (with_reducible first | exact HB.out | apply zac | apply zab | apply zad) | exact HB.out)⟩
  ·replace c6 := Bool.eq_false_iff.mpr c6
   subst c6
   have H1 : (some false) = some r := by rw [if_neg (show ¬ (false = true) by decide)] at H; exact H
   clear H
   have H := H1
   clear H1
   obtain rfl := Option.some.inj H
   go_enter Try.func12, Try.ntmps12
   go_wp2_with (first | ((with_reducible refine zak (f := 7) rfl ?_); refine zbb (some 11) rfl rfl Try.func7 (by kernel_rfl) rfl #[.string a0] rfl (by (try simp only [List.map_toArray, List.map_cons, List.map_nil]); first | done | rfl | (simp only [List.length_drop, List.length_take]; rfl)) ?_; (with_reducible refine (spec_TermPerm.calls a0 t212 true _ A3.out).mono ?_); rintro e w12 ⟨v214, rfl, ho0, hb⟩; refine ⟨_, rfl, ?_⟩; have n0_ := zaa.mk (Kd.R_lower ho0 (zap (by repeat (first | (with_reducible first | exact HB.out | apply zac | apply zab | apply zad) | exact HB.out)))); have n1_ := zaa.mk (zae (by repeat (first | (with_reducible first | exact HB.out | apply zac | apply zab | apply zad) | exact HB.out)) hb); clear HB; have HO215 := n0_; have HB := n1_; clear n0_ n1_; (try clear hb); (try clear hb2); (try clear hk); (try clear hi); (try clear ho0)) | ((with_reducible refine zak (f := 7) rfl ?_); refine zbb (some 16) rfl rfl Try.func7 (by kernel_rfl) rfl #[.string a1] rfl (by (try simp only [List.map_toArray, List.map_cons, List.map_nil]); first | done | rfl | (simp only [List.length_drop, List.length_take]; rfl)) ?_; (with_reducible refine (spec_TermPerm.calls a1 t216 false _ A4.out).mono ?_); rintro e w13 ⟨v218, rfl, ho0, hb⟩; refine ⟨_, rfl, ?_⟩; have n0_ := zaa.mk (Kd.R_elder' (by (with_reducible repeat (first | apply Kd.R_alloc | apply Kd.R_drewN | apply Kd.R_drew)); exact HO215.out) (Kd.R_base ho0) hb); have n1_ := zaa.mk (Kd.R_lower (Kd.R_new' ho0 (Kd.R_lt (by (with_reducible repeat (first | apply Kd.R_alloc | apply Kd.R_drewN | apply Kd.R_drew)); exact HO215.out))) (zap (by repeat (first | (with_reducible first | exact HB.out | apply zac | apply zab | apply zad) | exact HB.out)))); have n2_ := zaa.mk (zae (by repeat (first | (with_reducible first | exact HB.out | apply zac | apply zab | apply zad) | exact HB.out)) hb); clear HO215; clear HB; have HO215 := n0_; have HO219 := n1_; have HB := n2_; clear n0_ n1_ n2_; (try clear hb); (try clear hb2); (try clear hk); (try clear hi); (try clear ho0)))
   go_ret
   exact ⟨by first | rfl | (simp [zan, zam] <;> rfl) | (simp [*, zan, zam] <;> rfl), by repeat (first | (with_reducible first | exact HB.out | apply zac | apply zab | apply zad) | exact HB.out)⟩
 ·replace c5 := Bool.eq_false_iff.mpr c5
  subst c5
  have H1 : (some false) = some r := by rw [if_neg (show ¬ (false = true) by decide)] at H; exact H
  clear H
  have H := H1
  clear H1
  obtain rfl := Option.some.inj H
  go_enter Try.func12, Try.ntmps12
  go_wp2_with (first | ((with_reducible refine zak (f := 7) rfl ?_); refine zbb (some 11) rfl rfl Try.func7 (by kernel_rfl) rfl #[.string a0] rfl (by (try simp only [List.map_toArray, List.map_cons, List.map_nil]); first | done | rfl | (simp only [List.length_drop, List.length_take]; rfl)) ?_; (with_reducible refine (spec_TermPerm.calls a0 t212 false _ A3.out).mono ?_); rintro e w14 ⟨v214, rfl, ho0, hb⟩; refine ⟨_, rfl, ?_⟩; have n0_ := zaa.mk (Kd.R_lower ho0 (zap (by repeat (first | (with_reducible first | exact HB.out | apply zac | apply zab | apply zad) | exact HB.out)))); have n1_ := zaa.mk (zae (by repeat (first | (with_reducible first | exact HB.out | apply zac | apply zab | apply zad) | exact HB.out)) hb); clear HB; have HO215 := n0_; have HB := n1_; clear n0_ n1_; (try clear hb); (try clear hb2); (try clear hk); (try clear hi); (try clear ho0)) | ((with_reducible refine zak (f := 7) rfl ?_); refine zbb (some 16) rfl rfl Try.func7 (by kernel_rfl) rfl #[.string a1] rfl (by (try simp only [List.map_toArray, List.map_cons, List.map_nil]); first | done | rfl | (simp only [List.length_drop, List.length_take]; rfl)) ?_; (with_reducible refine (spec_TermPerm.calls a1 t216 t217 _ A4.out).mono ?_); rintro e w15 ⟨v218, rfl, ho0, hb⟩; refine ⟨_, rfl, ?_⟩; have n0_ := zaa.mk (Kd.R_elder' (by (with_reducible repeat (first | apply Kd.R_alloc | apply Kd.R_drewN | apply Kd.R_drew)); exact HO215.out) (Kd.R_base ho0) hb); have n1_ := zaa.mk (Kd.R_lower (Kd.R_new' ho0 (Kd.R_lt (by (with_reducible repeat (first | apply Kd.R_alloc | apply Kd.R_drewN | apply Kd.R_drew)); exact HO215.out))) (zap (by repeat (first | (with_reducible first | exact HB.out | apply zac | apply zab | apply zad) | exact HB.out)))); have n2_ := zaa.mk (zae (by repeat (first | (with_reducible first | exact HB.out | apply zac | apply zab | apply zad) | exact HB.out)) hb); clear HO215; clear HB; have HO215 := n0_; have HO219 := n1_; have HB := n2_; clear n0_ n1_ n2_; (try clear hb); (try clear hb2); (try clear hk); (try clear hi); (try clear ho0)))
  go_ret
  exact ⟨by first | rfl | (simp [zan, zam] <;> rfl) | (simp [*, zan, zam] <;> rfl), by repeat (first | (with_reducible first | exact HB.out | apply zac | apply zab | apply zad) | exact HB.out)⟩
def impl_TermSame.f (k : Nat) (a0 : ByteArray) (a1 : ByteArray) : Option (Bool) := (impl_TermPerm.f a0).bind fun bt226 => ((impl_TermPerm.f a1).bind fun bt230 => (if bt226.2 = true then (if bt230.2 = true then ((slices_Equal_int_int.f k bt226.1 bt230.1).bind fun t234 => (some t234)) else (some false)) else (some false)))
set_option maxHeartbeats 8000000 in
set_option maxRecDepth 100000 in
theorem impl_TermSame.calls (k : Nat) (a0 : ByteArray) (a1 : ByteArray) (r : Bool) (w : World) (h : impl_TermSame.f k a0 a1 = some r) :
  Calls Try.prog 13 #[.string a0, .string a1] w fun e w' => e = .returned (.bool r) ∧ Below w.heap.size w w' := by
 have HB := zaa.mk (Below.refl w.heap.size w)
 have H : ((impl_TermPerm.f a0).bind fun bt226 => ((impl_TermPerm.f a1).bind fun bt230 => (if bt226.2 = true then (if bt230.2 = true then ((slices_Equal_int_int.f k bt226.1 bt230.1).bind fun t234 => (some t234)) else (some false)) else (some false)))) = some r := h
 clear h
 replace H := Option.bind_eq_some_iff.mp H
 obtain ⟨⟨t226, t227⟩, A30, H⟩ := H
 replace H : ((impl_TermPerm.f a1).bind fun bt230 => (if t227 = true then (if bt230.2 = true then ((slices_Equal_int_int.f k t226 bt230.1).bind fun t234 => (some t234)) else (some false)) else (some false))) = some r := H
 have A3 := zaa.mk A30
 clear A30
 replace H := Option.bind_eq_some_iff.mp H
 obtain ⟨⟨t230, t231⟩, A40, H⟩ := H
 replace H : (if t227 = true then (if t231 = true then ((slices_Equal_int_int.f k t226 t230).bind fun t234 => (some t234)) else (some false)) else (some false)) = some r := H
 have A4 := zaa.mk A40
 clear A40
 by_cases c5 : t227 = true
 ·subst c5
  have H1 : (if t231 = true then ((slices_Equal_int_int.f k t226 t230).bind fun t234 => (some t234)) else (some false)) = some r := by rw [if_pos rfl] at H; exact H
  clear H
  have H := H1
  clear H1
  by_cases c6 : t231 = true
  ·subst c6
   have H1 : ((slices_Equal_int_int.f k t226 t230).bind fun t234 => (some t234)) = some r := by rw [if_pos rfl] at H; exact H
   clear H
   have H := H1
   clear H1
   replace H := Option.bind_eq_some_iff.mp H
   obtain ⟨t234, A70, H⟩ := H
   replace H : (some t234) = some r := H
   have A7 := zaa.mk A70
   clear A70
   obtain rfl := Option.some.inj H
   go_enter Try.func13, Try.ntmps13
   go_wp2_with (first | ((with_reducible refine zak (f := 8) rfl ?_); refine zbb (some 11) rfl rfl Try.func8 (by kernel_rfl) rfl #[.string a0] rfl (by (try simp only [List.map_toArray, List.map_cons, List.map_nil]); first | done | rfl | (simp only [List.length_drop, List.length_take]; rfl)) ?_; (with_reducible refine (impl_TermPerm.calls a0 t226 true _ A3.out).mono ?_); rintro e w8 ⟨v228, rfl, ho0, hb⟩; refine ⟨_, rfl, ?_⟩; have n0_ := zaa.mk (Kd.R_lower ho0 (zap (by repeat (first | (with_reducible first | exact HB.out | apply zac | apply zab | apply zad) | exact HB.out)))); have n1_ := zaa.mk (zae (by repeat (first | (with_reducible first | exact HB.out | apply zac | apply zab | apply zad) | exact HB.out)) hb); clear HB; have HO229 := n0_; have HB := n1_; clear n0_ n1_; (try clear hb); (try clear hb2); (try clear hk); (try clear hi); (try clear ho0)) | ((with_reducible refine zak (f := 8) rfl ?_); refine zbb (some 16) rfl rfl Try.func8 (by kernel_rfl) rfl #[.string a1] rfl (by (try simp only [List.map_toArray, List.map_cons, List.map_nil]); first | done | rfl | (simp only [List.length_drop, List.length_take]; rfl)) ?_; (with_reducible refine (impl_TermPerm.calls a1 t230 true _ A4.out).mono ?_); rintro e w9 ⟨v232, rfl, ho0, hb⟩; refine ⟨_, rfl, ?_⟩; have n0_ := zaa.mk (Kd.R_elder' (by (with_reducible repeat (first | apply Kd.R_alloc | apply Kd.R_drewN | apply Kd.R_drew)); exact HO229.out) (Kd.R_base ho0) hb); have n1_ := zaa.mk (Kd.R_lower (Kd.R_new' ho0 (Kd.R_lt (by (with_reducible repeat (first | apply Kd.R_alloc | apply Kd.R_drewN | apply Kd.R_drew)); exact HO229.out))) (zap (by repeat (first | (with_reducible first | exact HB.out | apply zac | apply zab | apply zad) | exact HB.out)))); have n2_ := zaa.mk (zae (by repeat (first | (with_reducible first | exact HB.out | apply zac | apply zab | apply zad) | exact HB.out)) hb); clear HO229; clear HB; have HO229 := n0_; have HO233 := n1_; have HB := n2_; clear n0_ n1_ n2_; (try clear hb); (try clear hb2); (try clear hk); (try clear hi); (try clear ho0); obtain ⟨Ao10, co10, eo10⟩ := Kd.R_slice HO229.out; subst eo10; obtain ⟨Ao11, co11, eo11⟩ := Kd.R_slice HO233.out; subst eo11) | (go_at_call 26; (with_reducible refine (slices_Equal_int_int.calls k _ _ t226 _ _ t230 t234 _ ?side1 ?side2 ?side3 ?side4 A7.out).mono ?_); (case side1 => repeat (first | exact (Kd.R_reads' HO229.out).2.2 | (with_reducible refine Kd.C_alloc ?_ _) | (with_reducible refine Kd.C_drewN ?_ _) | (with_reducible refine Kd.C_drew ?_))); (case side2 => exact (Kd.R_reads' HO229.out).2.1); (case side3 => repeat (first | exact (Kd.R_reads' HO233.out).2.2 | (with_reducible refine Kd.C_alloc ?_ _) | (with_reducible refine Kd.C_drewN ?_ _) | (with_reducible refine Kd.C_drew ?_))); (case side4 => exact (Kd.R_reads' HO233.out).2.1); rintro e w' ⟨rfl, ⟨nd, rfl⟩⟩))
   go_ret
   exact ⟨by first | rfl | (simp [zan, zam] <;> rfl) | (simp [*, zan, zam] <;> rfl), by repeat (first | (with_reducible first | exact HB.out | apply zac | apply zab | apply zad) | exact HB.out)⟩
  ·replace c6 := Bool.eq_false_iff.mpr c6
   subst c6
   have H1 : (some false) = some r := by rw [if_neg (show ¬ (false = true) by decide)] at H; exact H
   clear H
   have H := H1
   clear H1
   obtain rfl := Option.some.inj H
   go_enter Try.func13, Try.ntmps13
   go_wp2_with (first | ((with_reducible refine zak (f := 8) rfl ?_); refine zbb (some 11) rfl rfl Try.func8 (by kernel_rfl) rfl #[.string a0] rfl (by (try simp only [List.map_toArray, List.map_cons, List.map_nil]); first | done | rfl | (simp only [List.length_drop, List.length_take]; rfl)) ?_; (with_reducible refine (impl_TermPerm.calls a0 t226 true _ A3.out).mono ?_); rintro e w12 ⟨v228, rfl, ho0, hb⟩; refine ⟨_, rfl, ?_⟩; have n0_ := zaa.mk (Kd.R_lower ho0 (zap (by repeat (first | (with_reducible first | exact HB.out | apply zac | apply zab | apply zad) | exact HB.out)))); have n1_ := zaa.mk (zae (by repeat (first | (with_reducible first | exact HB.out | apply zac | apply zab | apply zad) | exact HB.out)) hb); clear HB; have HO229 := n0_; have HB := n1_; clear n0_ n1_; (try clear hb); (try clear hb2); (try clear hk); (try clear hi); (try clear ho0)) | ((with_reducible refine zak (f := 8) rfl ?_); refine zbb (some 16) rfl rfl Try.func8 (by kernel_rfl) rfl #[.string a1] rfl (by (try simp only [List.map_toArray, List.map_cons, List.map_nil]); first | done | rfl | (simp only [List.length_drop, List.length_take]; rfl)) ?_; (with_reducible refine (impl_TermPerm.calls a1 t230 false _ A4.out).mono ?_); rintro e w13 ⟨v232, rfl, ho0, hb⟩; refine ⟨_, rfl, ?_⟩; have n0_ := zaa.mk (Kd.R_elder' (by (with_reducible repeat (first | apply Kd.R_alloc | apply Kd.R_drewN | apply Kd.R_drew)); exact HO229.out) (Kd.R_base ho0) hb); have n1_ := zaa.mk (Kd.R_lower (Kd.R_new' ho0 (Kd.R_lt (by (with_reducible repeat (first | apply Kd.R_alloc | apply Kd.R_drewN | apply Kd.R_drew)); exact HO229.out))) (zap (by repeat (first | (with_reducible first | exact HB.out | apply zac | apply zab | apply zad) | exact HB.out)))); have n2_ := zaa.mk (zae (by repeat (first | (with_reducible first | exact HB.out | apply zac | apply zab | apply zad) | exact HB.out)) hb); clear HO229; clear HB; have HO229 := n0_; have HO233 := n1_; have HB := n2_; clear n0_ n1_ n2_; (try clear hb); (try clear hb2); (try clear hk); (try clear hi); (try clear ho0)))
   go_ret
   exact ⟨by first | rfl | (simp [zan, zam] <;> rfl) | (simp [*, zan, zam] <;> rfl), by repeat (first | (with_reducible first | exact HB.out | apply zac | apply zab | apply zad) | exact HB.out)⟩
 ·replace c5 := Bool.eq_false_iff.mpr c5
  subst c5
  have H1 : (some false) = some r := by rw [if_neg (show ¬ (false = true) by decide)] at H; exact H
  clear H
  have H := H1
  clear H1
  obtain rfl := Option.some.inj H
  go_enter Try.func13, Try.ntmps13
  go_wp2_with (first | ((with_reducible refine zak (f := 8) rfl ?_); refine zbb (some 11) rfl rfl Try.func8 (by kernel_rfl) rfl #[.string a0] rfl (by (try simp only [List.map_toArray, List.map_cons, List.map_nil]); first | done | rfl | (simp only [List.length_drop, List.length_take]; rfl)) ?_; (with_reducible refine (impl_TermPerm.calls a0 t226 false _ A3.out).mono ?_); rintro e w14 ⟨v228, rfl, ho0, hb⟩; refine ⟨_, rfl, ?_⟩; have n0_ := zaa.mk (Kd.R_lower ho0 (zap (by repeat (first | (with_reducible first | exact HB.out | apply zac | apply zab | apply zad) | exact HB.out)))); have n1_ := zaa.mk (zae (by repeat (first | (with_reducible first | exact HB.out | apply zac | apply zab | apply zad) | exact HB.out)) hb); clear HB; have HO229 := n0_; have HB := n1_; clear n0_ n1_; (try clear hb); (try clear hb2); (try clear hk); (try clear hi); (try clear ho0)) | ((with_reducible refine zak (f := 8) rfl ?_); refine zbb (some 16) rfl rfl Try.func8 (by kernel_rfl) rfl #[.string a1] rfl (by (try simp only [List.map_toArray, List.map_cons, List.map_nil]); first | done | rfl | (simp only [List.length_drop, List.length_take]; rfl)) ?_; (with_reducible refine (impl_TermPerm.calls a1 t230 t231 _ A4.out).mono ?_); rintro e w15 ⟨v232, rfl, ho0, hb⟩; refine ⟨_, rfl, ?_⟩; have n0_ := zaa.mk (Kd.R_elder' (by (with_reducible repeat (first | apply Kd.R_alloc | apply Kd.R_drewN | apply Kd.R_drew)); exact HO229.out) (Kd.R_base ho0) hb); have n1_ := zaa.mk (Kd.R_lower (Kd.R_new' ho0 (Kd.R_lt (by (with_reducible repeat (first | apply Kd.R_alloc | apply Kd.R_drewN | apply Kd.R_drew)); exact HO229.out))) (zap (by repeat (first | (with_reducible first | exact HB.out | apply zac | apply zab | apply zad) | exact HB.out)))); have n2_ := zaa.mk (zae (by repeat (first | (with_reducible first | exact HB.out | apply zac | apply zab | apply zad) | exact HB.out)) hb); clear HO229; clear HB; have HO229 := n0_; have HO233 := n1_; have HB := n2_; clear n0_ n1_ n2_; (try clear hb); (try clear hb2); (try clear hk); (try clear hi); (try clear ho0)))
  go_ret
  exact ⟨by first | rfl | (simp [zan, zam] <;> rfl) | (simp [*, zan, zam] <;> rfl), by repeat (first | (with_reducible first | exact HB.out | apply zac | apply zab | apply zad) | exact HB.out)⟩
def spec_DrawTermSame.f (k : Nat) (l0 : List Int) : Option (ByteArray × ByteArray) := (spec_l6Open.f l0).bind fun bt304 => ((spec_l92Text.f k bt304.1 bt304.2).bind fun bt307 => ((spec_TermLeft.f bt307.1).bind fun bt309 => (if bt309.2 = true then ((spec_l6Rd_pick.f k bt304.1 bt307.2 3).bind fun bt311 => (if bt311.1 > 0 then (some (bt307.1, bt309.1)) else ((spec_l92Text.f k bt304.1 bt311.2).bind fun bt313 => (some (bt307.1, bt313.1))))) else ((spec_l92Text.f k bt304.1 bt307.2).bind fun bt315 => (some (bt307.1, bt315.1))))))
set_option maxHeartbeats 8000000 in
set_option maxRecDepth 100000 in
theorem spec_DrawTermSame.calls (k : Nat) (A0 : Option Addr) (c0 : Nat) (l0 : List Int) (r1 : ByteArray) (r2 : ByteArray) (w : World) (hr0 : Kd.C (Kd.int .u8) w A0 l0.length l0) (hc0 : l0.length ≤ c0) (h : spec_DrawTermSame.f k l0 = some (r1, r2)) :
  Calls Try.prog 18 #[.slice A0 l0.length c0] w fun e w' => e = .returned (.tuple #[.string r1, .string r2]) ∧ Below w.heap.size w w' := by
 have HR0 := zaa.mk hr0
 have HC0 := zaa.mk hc0
 clear hr0 hc0
 have HB := zaa.mk (Below.refl w.heap.size w)
 have H : ((spec_l6Open.f l0).bind fun bt304 => ((spec_l92Text.f k bt304.1 bt304.2).bind fun bt307 => ((spec_TermLeft.f bt307.1).bind fun bt309 => (if bt309.2 = true then ((spec_l6Rd_pick.f k bt304.1 bt307.2 3).bind fun bt311 => (if bt311.1 > 0 then (some (bt307.1, bt309.1)) else ((spec_l92Text.f k bt304.1 bt311.2).bind fun bt313 => (some (bt307.1, bt313.1))))) else ((spec_l92Text.f k bt304.1 bt307.2).bind fun bt315 => (some (bt307.1, bt315.1))))))) = some (r1, r2) := h
 clear h
 replace H := Option.bind_eq_some_iff.mp H
 obtain ⟨⟨t304, t305⟩, A20, H⟩ := H
 replace H : ((spec_l92Text.f k t304 t305).bind fun bt307 => ((spec_TermLeft.f bt307.1).bind fun bt309 => (if bt309.2 = true then ((spec_l6Rd_pick.f k t304 bt307.2 3).bind fun bt311 => (if bt311.1 > 0 then (some (bt307.1, bt309.1)) else ((spec_l92Text.f k t304 bt311.2).bind fun bt313 => (some (bt307.1, bt313.1))))) else ((spec_l92Text.f k t304 bt307.2).bind fun bt315 => (some (bt307.1, bt315.1)))))) = some (r1, r2) := H
 have A2 := zaa.mk A20
 clear A20
 replace H := Option.bind_eq_some_iff.mp H
 obtain ⟨⟨t307, t308⟩, A30, H⟩ := H
 replace H : ((spec_TermLeft.f t307).bind fun bt309 => (if bt309.2 = true then ((spec_l6Rd_pick.f k t304 t308 3).bind fun bt311 => (if bt311.1 > 0 then (some (t307, bt309.1)) else ((spec_l92Text.f k t304 bt311.2).bind fun bt313 => (some (t307, bt313.1))))) else ((spec_l92Text.f k t304 t308).bind fun bt315 => (some (t307, bt315.1))))) = some (r1, r2) := H
 have A3 := zaa.mk A30
 clear A30
 replace H := Option.bind_eq_some_iff.mp H
 obtain ⟨⟨t309, t310⟩, A40, H⟩ := H
 replace H : (if t310 = true then ((spec_l6Rd_pick.f k t304 t308 3).bind fun bt311 => (if bt311.1 > 0 then (some (t307, t309)) else ((spec_l92Text.f k t304 bt311.2).bind fun bt313 => (some (t307, bt313.1))))) else ((spec_l92Text.f k t304 t308).bind fun bt315 => (some (t307, bt315.1)))) = some (r1, r2) := H
 have A4 := zaa.mk A40
 clear A40
 by_cases c5 : t310 = true
 ·subst c5
  have H1 : ((spec_l6Rd_pick.f k t304 t308 3).bind fun bt311 => (if bt311.1 > 0 then (some (t307, t309)) else ((spec_l92Text.f k t304 bt311.2).bind fun bt313 => (some (t307, bt313.1))))) = some (r1, r2) := by rw [if_pos rfl] at H; exact H
  clear H
  have H := H1
  clear H1
  replace H := Option.bind_eq_some_iff.mp H
  obtain ⟨⟨t311, t312⟩, A60, H⟩ := H
  replace H : (if t311 > 0 then (some (t307, t309)) else ((spec_l92Text.f k t304 t312).bind fun bt313 => (some (t307, bt313.1)))) = some (r1, r2) := H
  have A6 := zaa.mk A60
  clear A60
  by_cases c7 : t311 > 0
  ·rw [if_pos c7] at H
   have c7b0 : decide (0 < t311) = true := decide_eq_true c7
   clear c7
   simp only [Option.some.injEq, Prod.mk.injEq] at H
   obtain ⟨rfl, rfl⟩ := H
   go_enter Try.func18, Try.ntmps18
   go_wp2_with (first | ((with_reducible refine zak (f := 31) rfl ?_); refine zbb (some 9) rfl rfl Try.func31 (by kernel_rfl) rfl #[.slice A0 l0.length c0] rfl (by (try simp only [List.map_toArray, List.map_cons, List.map_nil]); first | done | rfl | (simp only [List.length_drop, List.length_take]; rfl)) ?_; (with_reducible refine (spec_l6Open.calls _ _ l0 t304 t305 w _ ?side1 ?side2 ?side3 A2.out).mono ?_); (case side1 => repeat (first | (with_reducible first | exact HB.out | apply zac | apply zab | apply zad) | exact HB.out)); (case side2 => exact HR0.out); (case side3 => exact HC0.out); rintro e w8 ⟨g306, rfl, hi, hb, hb2⟩; refine ⟨_, rfl, ?_⟩; have n0_ := zaa.mk (hb); have n1_ := zaa.mk (hi); clear HB; have HB := n0_; have HI306 := n1_; clear n0_ n1_; (try clear hb); (try clear hb2); (try clear hk); (try clear hi)) | ((with_reducible refine zak (f := 32) rfl ?_); refine zbb (some 11) rfl rfl Try.func32 (by kernel_rfl) rfl #[.pointer (some ⟨g306, 0, none⟩)] rfl (by (try simp only [List.map_toArray, List.map_cons, List.map_nil]); first | done | rfl | (simp only [List.length_drop, List.length_take]; rfl)) ?_; (with_reducible refine (spec_l92Text.calls k g306 t304 t305 t307 t308 w _ ?side1 ?side2 A3.out).mono ?_); (case side1 => repeat (first | (with_reducible first | exact HI306.out | apply zai.alloc | apply zai.drewN | apply zai.drew | apply zai.set_1) | exact HI306.out)); (case side2 => repeat (first | (with_reducible first | exact HB.out | apply zac | apply zab | apply zad | refine zaf ?_ (zai.ge HI306.out)) | exact HB.out)); rintro e w9 ⟨rfl, hi, hb, hk⟩; refine ⟨_, rfl, ?_⟩; have n0_ := zaa.mk (hb); have n1_ := zaa.mk (hi); clear HB; clear HI306; have HB := n0_; have HI306 := n1_; clear n0_ n1_; (try clear hb); (try clear hb2); (try clear hk); (try clear hi)) | ((with_reducible refine zak (f := 16) rfl ?_); refine zbb (some 14) rfl rfl Try.func16 (by kernel_rfl) rfl #[.string t307] rfl (by (try simp only [List.map_toArray, List.map_cons, List.map_nil]); first | done | rfl | (simp only [List.length_drop, List.length_take]; rfl)) ?_; (with_reducible refine (spec_TermLeft.calls t307 t309 true _ A4.out).mono ?_); rintro e w10 ⟨rfl, hb⟩; refine ⟨_, rfl, ?_⟩; have n0_ := zaa.mk (zai.below (by repeat (first | (with_reducible first | exact HI306.out | apply zai.alloc | apply zai.drewN | apply zai.drew | apply zai.set_1) | exact HI306.out)) hb); have n1_ := zaa.mk (zae (by repeat (first | (with_reducible first | exact HB.out | apply zac | apply zab | apply zad | refine zaf ?_ (zai.ge HI306.out)) | exact HB.out)) hb); clear HI306; clear HB; have HI306 := n0_; have HB := n1_; clear n0_ n1_; (try clear hb); (try clear hb2); (try clear hk); (try clear hi)) | (go_at_call 33; (with_reducible refine (spec_l6Rd_pick.calls k g306 t304 t308 3 t311 t312 w _ ?side1 ?side2 A6.out).mono ?_); (case side1 => repeat (first | (with_reducible first | exact HI306.out | apply zai.alloc | apply zai.drewN | apply zai.drew | apply zai.set_1) | exact HI306.out)); (case side2 => repeat (first | (with_reducible first | exact HB.out | apply zac | apply zab | apply zad | refine zaf ?_ (zai.ge HI306.out)) | exact HB.out)); rintro e w11 ⟨rfl, hi, hb, hk⟩; have n0_ := zaa.mk (hb); have n1_ := zaa.mk (hi); clear HB; clear HI306; have HB := n0_; have HI306 := n1_; clear n0_ n1_; (try clear hb); (try clear hb2); (try clear hk); (try clear hi)))
   go_ret2
   exact ⟨by first | rfl | (simp [zan, zam] <;> rfl) | (simp [*, zan, zam] <;> rfl), by repeat (first | (with_reducible first | exact HB.out | apply zac | apply zab | apply zad | refine zaf ?_ (zai.ge HI306.out)) | exact HB.out)⟩
  ·rw [if_neg c7] at H
   have c7b0 : decide (0 < t311) = false := decide_eq_false c7
   clear c7
   replace H := Option.bind_eq_some_iff.mp H
   obtain ⟨⟨t313, t314⟩, A120, H⟩ := H
   replace H : (some (t307, t313)) = some (r1, r2) := H
   have A12 := zaa.mk A120
   clear A120
   simp only [Option.some.injEq, Prod.mk.injEq] at H
   obtain ⟨rfl, rfl⟩ := H
   go_enter Try.func18, Try.ntmps18
   go_wp2_with (first | ((with_reducible refine zak (f := 31) rfl ?_); refine zbb (some 9) rfl rfl Try.func31 (by kernel_rfl) rfl #[.slice A0 l0.length c0] rfl (by (try simp only [List.map_toArray, List.map_cons, List.map_nil]); first | done | rfl | (simp only [List.length_drop, List.length_take]; rfl)) ?_; (with_reducible refine (spec_l6Open.calls _ _ l0 t304 t305 w _ ?side1 ?side2 ?side3 A2.out).mono ?_); (case side1 => repeat (first | (with_reducible first | exact HB.out | apply zac | apply zab | apply zad) | exact HB.out)); (case side2 => exact HR0.out); (case side3 => exact HC0.out); rintro e w13 ⟨g306, rfl, hi, hb, hb2⟩; refine ⟨_, rfl, ?_⟩; have n0_ := zaa.mk (hb); have n1_ := zaa.mk (hi); clear HB; have HB := n0_; have HI306 := n1_; clear n0_ n1_; (try clear hb); (try clear hb2); (try clear hk); (try clear hi)) | ((with_reducible refine zak (f := 32) rfl ?_); refine zbb (some 11) rfl rfl Try.func32 (by kernel_rfl) rfl #[.pointer (some ⟨g306, 0, none⟩)] rfl (by (try simp only [List.map_toArray, List.map_cons, List.map_nil]); first | done | rfl | (simp only [List.length_drop, List.length_take]; rfl)) ?_; (with_reducible refine (spec_l92Text.calls k g306 t304 t305 t307 t308 w _ ?side1 ?side2 A3.out).mono ?_); (case side1 => repeat (first | (with_reducible first | exact HI306.out | apply zai.alloc | apply zai.drewN | apply zai.drew | apply zai.set_1) | exact HI306.out)); (case side2 => repeat (first | (with_reducible first | exact HB.out | apply zac | apply zab | apply zad | refine zaf ?_ (zai.ge HI306.out)) | exact HB.out)); rintro e w14 ⟨rfl, hi, hb, hk⟩; refine ⟨_, rfl, ?_⟩; have n0_ := zaa.mk (hb); have n1_ := zaa.mk (hi); clear HB; clear HI306; have HB := n0_; have HI306 := n1_; clear n0_ n1_; (try clear hb); (try clear hb2); (try clear hk); (try clear hi)) | ((with_reducible refine zak (f := 16) rfl ?_); refine zbb (some 14) rfl rfl Try.func16 (by kernel_rfl) rfl #[.string t307] rfl (by (try simp only [List.map_toArray, List.map_cons, List.map_nil]); first | done | rfl | (simp only [List.length_drop, List.length_take]; rfl)) ?_; (with_reducible refine (spec_TermLeft.calls t307 t309 true _ A4.out).mono ?_); rintro e w15 ⟨rfl, hb⟩; refine ⟨_, rfl, ?_⟩; have n0_ := zaa.mk (zai.below (by repeat (first | (with_reducible first | exact HI306.out | apply zai.alloc | apply zai.drewN | apply zai.drew | apply zai.set_1) | exact HI306.out)) hb); have n1_ := zaa.mk (zae (by repeat (first | (with_reducible first | exact HB.out | apply zac | apply zab | apply zad | refine zaf ?_ (zai.ge HI306.out)) | exact HB.out)) hb); clear HI306; clear HB; have HI306 := n0_; have HB := n1_; clear n0_ n1_; (try clear hb); (try clear hb2); (try clear hk); (try clear hi)) | (go_at_call 33; (with_reducible refine (spec_l6Rd_pick.calls k g306 t304 t308 3 t311 t312 w _ ?side1 ?side2 A6.out).mono ?_); (case side1 => repeat (first | (with_reducible first | exact HI306.out | apply zai.alloc | apply zai.drewN | apply zai.drew | apply zai.set_1) | exact HI306.out)); (case side2 => repeat (first | (with_reducible first | exact HB.out | apply zac | apply zab | apply zad | refine zaf ?_ (zai.ge HI306.out)) | exact HB.out)); rintro e w16 ⟨rfl, hi, hb, hk⟩; have n0_ := zaa.mk (hb); have n1_ := zaa.mk (hi); clear HB; clear HI306; have HB := n0_; have HI306 := n1_; clear n0_ n1_; (try clear hb); (try clear hb2); (try clear hk); (try clear hi)) | ((with_reducible refine zak (f := 32) rfl ?_); refine zbb (some 27) rfl rfl Try.func32 (by kernel_rfl) rfl #[.pointer (some ⟨g306, 0, none⟩)] rfl (by (try simp only [List.map_toArray, List.map_cons, List.map_nil]); first | done | rfl | (simp only [List.length_drop, List.length_take]; rfl)) ?_; (with_reducible refine (spec_l92Text.calls k g306 t304 t312 t313 t314 w _ ?side1 ?side2 A12.out).mono ?_); (case side1 => repeat (first | (with_reducible first | exact HI306.out | apply zai.alloc | apply zai.drewN | apply zai.drew | apply zai.set_1) | exact HI306.out)); (case side2 => repeat (first | (with_reducible first | exact HB.out | apply zac | apply zab | apply zad | refine zaf ?_ (zai.ge HI306.out)) | exact HB.out)); rintro e w17 ⟨rfl, hi, hb, hk⟩; refine ⟨_, rfl, ?_⟩; have n0_ := zaa.mk (hb); have n1_ := zaa.mk (hi); clear HB; clear HI306; have HB := n0_; have HI306 := n1_; clear n0_ n1_; (try clear hb); (try clear hb2); (try clear hk); (try clear hi)))
   go_ret2
   exact ⟨by first | rfl | (simp [zan, zam] <;> rfl) | (simp [*, zan, zam] <;> rfl), by repeat (first | (with_reducible first | exact HB.out | apply zac | apply zab | apply zad | refine zaf ?_ (zai.ge HI306.out)) | exact HB.out)⟩
 ·replace c5 := Bool.eq_false_iff.mpr c5
  subst c5
  have H1 : ((spec_l92Text.f k t304 t308).bind fun bt315 => (some (t307, bt315.1))) = some (r1, r2) := by rw [if_neg (show ¬ (false = true) by decide)] at H; exact H
  clear H
  have H := H1
  clear H1
  replace H := Option.bind_eq_some_iff.mp H
  obtain ⟨⟨t315, t316⟩, A180, H⟩ := H
  replace H : (some (t307, t315)) = some (r1, r2) := H
  have A18 := zaa.mk A180
  clear A180
  simp only [Option.some.injEq, Prod.mk.injEq] at H
  obtain ⟨rfl, rfl⟩ := H
  go_enter Try.func18, Try.ntmps18
  go_wp2_with (first | ((with_reducible refine zak (f := 31) rfl ?_); refine zbb (some 9) rfl rfl Try.func31 (by kernel_rfl) rfl #[.slice A0 l0.length c0] rfl (by (try simp only [List.map_toArray, List.map_cons, List.map_nil]); first | done | rfl | (simp only [List.length_drop, List.length_take]; rfl)) ?_; (with_reducible refine (spec_l6Open.calls _ _ l0 t304 t305 w _ ?side1 ?side2 ?side3 A2.out).mono ?_); (case side1 => repeat (first | (with_reducible first | exact HB.out | apply zac | apply zab | apply zad) | exact HB.out)); (case side2 => exact HR0.out); (case side3 => exact HC0.out); rintro e w19 ⟨g306, rfl, hi, hb, hb2⟩; refine ⟨_, rfl, ?_⟩; have n0_ := zaa.mk (hb); have n1_ := zaa.mk (hi); clear HB; have HB := n0_; have HI306 := n1_; clear n0_ n1_; (try clear hb); (try clear hb2); (try clear hk); (try clear hi)) | ((with_reducible refine zak (f := 32) rfl ?_); refine zbb (some 11) rfl rfl Try.func32 (by kernel_rfl) rfl #[.pointer (some ⟨g306, 0, none⟩)] rfl (by (try simp only [List.map_toArray, List.map_cons, List.map_nil]); first | done | rfl | (simp only [List.length_drop, List.length_take]; rfl)) ?_; (with_reducible refine (spec_l92Text.calls k g306 t304 t305 t307 t308 w _ ?side1 ?side2 A3.out).mono ?_); (case side1 => repeat (first | (with_reducible first | exact HI306.out | apply zai.alloc | apply zai.drewN | apply zai.drew | apply zai.set_1) | exact HI306.out)); (case side2 => repeat (first | (with_reducible first | exact HB.out | apply zac | apply zab | apply zad | refine zaf ?_ (zai.ge HI306.out)) | exact HB.out)); rintro e w20 ⟨rfl, hi, hb, hk⟩; refine ⟨_, rfl, ?_⟩; have n0_ := zaa.mk (hb); have n1_ := zaa.mk (hi); clear HB; clear HI306; have HB := n0_; have HI306 := n1_; clear n0_ n1_; (try clear hb); (try clear hb2); (try clear hk); (try clear hi)) | ((with_reducible refine zak (f := 16) rfl ?_); refine zbb (some 14) rfl rfl Try.func16 (by kernel_rfl) rfl #[.string t307] rfl (by (try simp only [List.map_toArray, List.map_cons, List.map_nil]); first | done | rfl | (simp only [List.length_drop, List.length_take]; rfl)) ?_; (with_reducible refine (spec_TermLeft.calls t307 t309 false _ A4.out).mono ?_); rintro e w21 ⟨rfl, hb⟩; refine ⟨_, rfl, ?_⟩; have n0_ := zaa.mk (zai.below (by repeat (first | (with_reducible first | exact HI306.out | apply zai.alloc | apply zai.drewN | apply zai.drew | apply zai.set_1) | exact HI306.out)) hb); have n1_ := zaa.mk (zae (by repeat (first | (with_reducible first | exact HB.out | apply zac | apply zab | apply zad | refine zaf ?_ (zai.ge HI306.out)) | exact HB.out)) hb); clear HI306; clear HB; have HI306 := n0_; have HB := n1_; clear n0_ n1_; (try clear hb); (try clear hb2); (try clear hk); (try clear hi)) | ((with_reducible refine zak (f := 32) rfl ?_); refine zbb (some 27) rfl rfl Try.func32 (by kernel_rfl) rfl #[.pointer (some ⟨g306, 0, none⟩)] rfl (by (try simp only [List.map_toArray, List.map_cons, List.map_nil]); first | done | rfl | (simp only [List.length_drop, List.length_take]; rfl)) ?_; (with_reducible refine (spec_l92Text.calls k g306 t304 t308 t315 t316 w _ ?side1 ?side2 A18.out).mono ?_); (case side1 => repeat (first | (with_reducible first | exact HI306.out | apply zai.alloc | apply zai.drewN | apply zai.drew | apply zai.set_1) | exact HI306.out)); (case side2 => repeat (first | (with_reducible first | exact HB.out | apply zac | apply zab | apply zad | refine zaf ?_ (zai.ge HI306.out)) | exact HB.out)); rintro e w22 ⟨rfl, hi, hb, hk⟩; refine ⟨_, rfl, ?_⟩; have n0_ := zaa.mk (hb); have n1_ := zaa.mk (hi); clear HB; clear HI306; have HB := n0_; have HI306 := n1_; clear n0_ n1_; (try clear hb); (try clear hb2); (try clear hk); (try clear hi)))
  go_ret2
  exact ⟨by first | rfl | (simp [zan, zam] <;> rfl) | (simp [*, zan, zam] <;> rfl), by repeat (first | (with_reducible first | exact HB.out | apply zac | apply zab | apply zad | refine zaf ?_ (zai.ge HI306.out)) | exact HB.out)⟩
def laws_FnTermSame.j0 : Nat → ByteArray → ByteArray → Bool → Bool → Bool → Option (Bool)
 | 0, _, _, _, _, _ => none
 | k + 1, x3, x4, x5, x6, x31 => if x31 = true then (some (x5 == x6)) else ((impl_TermLeft.f x3).bind fun bt321 => ((impl_TermLeft.f x4).bind fun bt323 => (if bt321.2 = true then (if bt323.2 = true then (if bt321.1.toList = bt323.1.toList then ((impl_TermSame.f k x4 x3).bind fun t325 => (some t325)) else (some false)) else (some false)) else (some false))))
def laws_FnTermSame.f (k : Nat) (l0 : List Int) : Option (Bool) := if (l0.length : Int) > 1048576 then (some true) else ((spec_DrawTermSame.f k l0).bind fun bt317 => ((impl_TermSame.f k bt317.1 bt317.2).bind fun t319 => ((spec_TermSame.f k bt317.1 bt317.2).bind fun t320 => (if (t319 != t320) = true then (laws_FnTermSame.j0 k bt317.1 bt317.2 t319 t320 true) else (laws_FnTermSame.j0 k bt317.1 bt317.2 t319 t320 (!t319))))))
set_option maxHeartbeats 8000000 in
set_option maxRecDepth 100000 in
theorem laws_FnTermSame.calls (k : Nat) (A0 : Option Addr) (c0 : Nat) (l0 : List Int) (r : Bool) (w : World) (hr0 : Kd.C (Kd.int .u8) w A0 l0.length l0) (hc0 : l0.length ≤ c0) (h : laws_FnTermSame.f k l0 = some r) :
  Calls Try.prog 6 #[.slice A0 l0.length c0] w fun e w' => e = .returned (.bool r) ∧ Below w.heap.size w w' := by
 have HR0 := zaa.mk hr0
 have HC0 := zaa.mk hc0
 clear hr0 hc0
 have HB := zaa.mk (Below.refl w.heap.size w)
 have H : (if (l0.length : Int) > 1048576 then (some true) else ((spec_DrawTermSame.f k l0).bind fun bt317 => ((impl_TermSame.f k bt317.1 bt317.2).bind fun t319 => ((spec_TermSame.f k bt317.1 bt317.2).bind fun t320 => (if (t319 != t320) = true then (laws_FnTermSame.j0 k bt317.1 bt317.2 t319 t320 true) else (laws_FnTermSame.j0 k bt317.1 bt317.2 t319 t320 (!t319))))))) = some r := h
 clear h
 by_cases c2 : (l0.length : Int) > 1048576
 ·rw [if_pos c2] at H
  have c2b0 : decide (1048576 < (l0.length : Int)) = true := decide_eq_true c2
  have c2b1 : decide (1048576 < l0.length) = true := decide_eq_true (by omega)
  clear c2
  obtain rfl := Option.some.inj H
  go_enter Try.func6, Try.ntmps6
  go_wp2
  go_ret
  exact ⟨by first | rfl | (simp [zan, zam] <;> rfl) | (simp [*, zan, zam] <;> rfl), by repeat (first | (with_reducible first | exact HB.out | apply zac | apply zab | apply zad) | exact HB.out)⟩
 ·rw [if_neg c2] at H
  have c2b0 : decide (1048576 < (l0.length : Int)) = false := decide_eq_false c2
  have c2b1 : decide (1048576 < l0.length) = false := decide_eq_false (by omega)
  clear c2
  replace H := Option.bind_eq_some_iff.mp H
  obtain ⟨⟨t317, t318⟩, A30, H⟩ := H
  replace H : ((impl_TermSame.f k t317 t318).bind fun t319 => ((spec_TermSame.f k t317 t318).bind fun t320 => (if (t319 != t320) = true then (laws_FnTermSame.j0 k t317 t318 t319 t320 true) else (laws_FnTermSame.j0 k t317 t318 t319 t320 (!t319))))) = some r := H
  have A3 := zaa.mk A30
  clear A30
  replace H := Option.bind_eq_some_iff.mp H
  obtain ⟨t319, A40, H⟩ := H
  replace H : ((spec_TermSame.f k t317 t318).bind fun t320 => (if (t319 != t320) = true then (laws_FnTermSame.j0 k t317 t318 t319 t320 true) else (laws_FnTermSame.j0 k t317 t318 t319 t320 (!t319)))) = some r := H
  have A4 := zaa.mk A40
  clear A40
  replace H := Option.bind_eq_some_iff.mp H
  obtain ⟨t320, A50, H⟩ := H
  replace H : (if (t319 != t320) = true then (laws_FnTermSame.j0 k t317 t318 t319 t320 true) else (laws_FnTermSame.j0 k t317 t318 t319 t320 (!t319))) = some r := H
  have A5 := zaa.mk A50
  clear A50
  have HC6 := zaa.mk H
  clear H
  go_enter Try.func6, Try.ntmps6
  go_upto_region 6 with (first | ((with_reducible refine zak (f := 18) rfl ?_); refine zbb (some 16) rfl rfl Try.func18 (by kernel_rfl) rfl #[.slice A0 l0.length c0] rfl (by (try simp only [List.map_toArray, List.map_cons, List.map_nil]); first | done | rfl | (simp only [List.length_drop, List.length_take]; rfl)) ?_; (with_reducible refine (spec_DrawTermSame.calls k _ _ l0 t317 t318 _ ?side1 ?side2 A3.out).mono ?_); (case side1 => repeat (first | exact HR0.out | (with_reducible refine Kd.C_alloc ?_ _) | (with_reducible refine Kd.C_drewN ?_ _) | (with_reducible refine Kd.C_drew ?_))); (case side2 => exact HC0.out); rintro e w7 ⟨rfl, hb⟩; refine ⟨_, rfl, ?_⟩; have n0_ := zaa.mk (zae (by repeat (first | (with_reducible first | exact HB.out | apply zac | apply zab | apply zad) | exact HB.out)) hb); clear HB; have HB := n0_; clear n0_; (try clear hb); (try clear hb2); (try clear hk); (try clear hi)) | ((with_reducible refine zak (f := 13) rfl ?_); refine zbb (some 21) rfl rfl Try.func13 (by kernel_rfl) rfl #[.string t317, .string t318] rfl (by (try simp only [List.map_toArray, List.map_cons, List.map_nil]); first | done | rfl | (simp only [List.length_drop, List.length_take]; rfl)) ?_; (with_reducible refine (impl_TermSame.calls k t317 t318 t319 _ A4.out).mono ?_); rintro e w8 ⟨rfl, hb⟩; refine ⟨_, rfl, ?_⟩; have n0_ := zaa.mk (zae (by repeat (first | (with_reducible first | exact HB.out | apply zac | apply zab | apply zad) | exact HB.out)) hb); clear HB; have HB := n0_; clear n0_; (try clear hb); (try clear hb2); (try clear hk); (try clear hi)) | ((with_reducible refine zak (f := 12) rfl ?_); refine zbb (some 24) rfl rfl Try.func12 (by kernel_rfl) rfl #[.string t317, .string t318] rfl (by (try simp only [List.map_toArray, List.map_cons, List.map_nil]); first | done | rfl | (simp only [List.length_drop, List.length_take]; rfl)) ?_; (with_reducible refine (spec_TermSame.calls k t317 t318 t320 _ A5.out).mono ?_); rintro e w9 ⟨rfl, hb⟩; refine ⟨_, rfl, ?_⟩; have n0_ := zaa.mk (zae (by repeat (first | (with_reducible first | exact HB.out | apply zac | apply zab | apply zad) | exact HB.out)) hb); clear HB; have HB := n0_; clear n0_; (try clear hb); (try clear hb2); (try clear hk); (try clear hi)))
  (try simp only [Act.put, List.setIfInBounds_toArray, List.set_cons_zero, List.set_cons_succ])
  go_cut [31] (fun v31 wc => ∃ (kq : Nat) (x31_5 : Bool), v31 = .bool x31_5 ∧ zaa (laws_FnTermSame.j0 kq t317 t318 t319 t320 x31_5 = some r) ∧ zaa (kq ≤ k) ∧ zaa (Below w.heap.size w wc))
  case first =>
   have H := HC6.out
   clear HC6
   by_cases c10 : (t319 != t320) = true
   ·rw [if_pos c10] at H
    have c10b0 : (t319 != t320) = true := c10
    (try (have c10b1 : decide (t319 = t320) = false := by simpa using c10))
    (try (have c10b2 : (t319 == t320) = false := by simpa using c10))
    (try (have c10b3 : ¬ (t319 = t320) := by simpa using c10))
    clear c10
    (first | rw [c10b0] | (simp only [zaq, zar]; rw [c10b0]) | skip)
    have H' := zaa.mk H
    clear H
    go_wp2
    go_meet
    case rel => exact ⟨_, (true), (by first | rfl | (simp; done) | (simp [*]; done)), H', ⟨by first | omega | exact Nat.le_refl _⟩, ⟨by repeat (first | (with_reducible first | exact HB.out | apply zac | apply zab | apply zad) | exact HB.out)⟩⟩
   ·rw [if_neg c10] at H
    have c10b0 : (t319 != t320) = false := by simpa using c10
    (try (have c10b1 : decide (t319 = t320) = true := by simpa using c10))
    (try (have c10b2 : (t319 == t320) = true := by simpa using c10))
    clear c10
    (first | rw [c10b0] | (simp only [zaq, zar]; rw [c10b0]) | skip)
    have H' := zaa.mk H
    clear H
    go_wp2
    go_meet
    case rel => exact ⟨_, (!t319), (by first | rfl | (simp; done) | (simp [*]; done)), H', ⟨by first | omega | exact Nat.le_refl _⟩, ⟨by repeat (first | (with_reducible first | exact HB.out | apply zac | apply zab | apply zad) | exact HB.out)⟩⟩
  case rest =>
   clear HC6
   try clear c1
   try clear c2
   try clear c2b0
   try clear c2b1
   try clear p2
   try clear c6
   try clear c10
   try clear c10b0
   try clear c10b1
   try clear c10b2
   obtain ⟨kq, x31_5, rfl, HA, HJ5, HB⟩ := hcut
   cases kq with
   | zero => exact absurd HA.out (by simp [laws_FnTermSame.j0])
   | succ kj5 =>
    have H := HA.out
    clear HA
    simp only [laws_FnTermSame.j0] at H
    by_cases c11 : x31_5 = true
    ·subst c11
     have H1 : (some (t319 == t320)) = some r := by rw [if_pos rfl] at H; exact H
     clear H
     have H := H1
     clear H1
     obtain rfl := Option.some.inj H
     go_wp2
     go_ret
     exact ⟨by first | rfl | (simp [zan, zam] <;> rfl) | (simp [*, zan, zam] <;> rfl), by repeat (first | (with_reducible first | exact HB.out | apply zac | apply zab | apply zad) | exact HB.out)⟩
    ·replace c11 := Bool.eq_false_iff.mpr c11
     subst c11
     have H1 : ((impl_TermLeft.f t317).bind fun bt321 => ((impl_TermLeft.f t318).bind fun bt323 => (if bt321.2 = true then (if bt323.2 = true then (if bt321.1.toList = bt323.1.toList then ((impl_TermSame.f kj5 t318 t317).bind fun t325 => (some t325)) else (some false)) else (some false)) else (some false)))) = some r := by rw [if_neg (show ¬ (false = true) by decide)] at H; exact H
     clear H
     have H := H1
     clear H1
     replace H := Option.bind_eq_some_iff.mp H
     obtain ⟨⟨t321, t322⟩, A120, H⟩ := H
     replace H : ((impl_TermLeft.f t318).bind fun bt323 => (if t322 = true then (if bt323.2 = true then (if t321.toList = bt323.1.toList then ((impl_TermSame.f kj5 t318 t317).bind fun t325 => (some t325)) else (some false)) else (some false)) else (some false))) = some r := H
     have A12 := zaa.mk A120
     clear A120
     replace H := Option.bind_eq_some_iff.mp H
     obtain ⟨⟨t323, t324⟩, A130, H⟩ := H
     replace H : (if t322 = true then (if t324 = true then (if t321.toList = t323.toList then ((impl_TermSame.f kj5 t318 t317).bind fun t325 => (some t325)) else (some false)) else (some false)) else (some false)) = some r := H
     have A13 := zaa.mk A130
     clear A130
     by_cases c14 : t322 = true
     ·subst c14
      have H1 : (if t324 = true then (if t321.toList = t323.toList then ((impl_TermSame.f kj5 t318 t317).bind fun t325 => (some t325)) else (some false)) else (some false)) = some r := by rw [if_pos rfl] at H; exact H
      clear H
      have H := H1
      clear H1
      by_cases c15 : t324 = true
      ·subst c15
       have H1 : (if t321.toList = t323.toList then ((impl_TermSame.f kj5 t318 t317).bind fun t325 => (some t325)) else (some false)) = some r := by rw [if_pos rfl] at H; exact H
       clear H
       have H := H1
       clear H1
       by_cases c16 : t321.toList = t323.toList
       ·rw [if_pos c16] at H
        have c16b0 : (t321.toList == t323.toList) = true := beq_iff_eq.mpr c16
        have c16b1 : (t321.toList != t323.toList) = false := bne_eq_false_iff_eq.mpr c16
        clear c16
        replace H := Option.bind_eq_some_iff.mp H
        obtain ⟨t325, A170, H⟩ := H
        replace H : (some t325) = some r := H
        have A17 := zaa.mk A170
        clear A170
        obtain rfl := Option.some.inj H
        go_wp2_with (first | ((with_reducible refine zak (f := 15) rfl ?_); refine zbb (some 37) rfl rfl Try.func15 (by kernel_rfl) rfl #[.string t317] rfl (by (try simp only [List.map_toArray, List.map_cons, List.map_nil]); first | done | rfl | (simp only [List.length_drop, List.length_take]; rfl)) ?_; (with_reducible refine (impl_TermLeft.calls t317 t321 true _ A12.out).mono ?_); rintro e w18 ⟨rfl, hb⟩; refine ⟨_, rfl, ?_⟩; have n0_ := zaa.mk (zae (by repeat (first | (with_reducible first | exact HB.out | apply zac | apply zab | apply zad) | exact HB.out)) hb); clear HB; have HB := n0_; clear n0_; (try clear hb); (try clear hb2); (try clear hk); (try clear hi)) | ((with_reducible refine zak (f := 15) rfl ?_); refine zbb (some 42) rfl rfl Try.func15 (by kernel_rfl) rfl #[.string t318] rfl (by (try simp only [List.map_toArray, List.map_cons, List.map_nil]); first | done | rfl | (simp only [List.length_drop, List.length_take]; rfl)) ?_; (with_reducible refine (impl_TermLeft.calls t318 t323 true _ A13.out).mono ?_); rintro e w19 ⟨rfl, hb⟩; refine ⟨_, rfl, ?_⟩; have n0_ := zaa.mk (zae (by repeat (first | (with_reducible first | exact HB.out | apply zac | apply zab | apply zad) | exact HB.out)) hb); clear HB; have HB := n0_; clear n0_; (try clear hb); (try clear hb2); (try clear hk); (try clear hi)) | (go_at_call 13; (with_reducible refine (impl_TermSame.calls kj5 t318 t317 t325 _ A17.out).mono ?_); rintro e w20 ⟨rfl, hb⟩; have n0_ := zaa.mk (zae (by repeat (first | (with_reducible first | exact HB.out | apply zac | apply zab | apply zad) | exact HB.out)) hb); clear HB; have HB := n0_; clear n0_; (try clear hb); (try clear hb2); (try clear hk); (try clear hi)))
        go_ret
        exact ⟨by first | rfl | (simp [zan, zam] <;> rfl) | (simp [*, zan, zam] <;> rfl), by repeat (first | (with_reducible first | exact HB.out | apply zac | apply zab | apply zad) | exact HB.out)⟩
       ·rw [if_neg c16] at H
        have c16b0 : (t321.toList == t323.toList) = false := beq_eq_false_iff_ne.mpr c16
        have c16b1 : (t321.toList != t323.toList) = true := bne_iff_ne.mpr c16
        obtain rfl := Option.some.inj H
        go_wp2_with (first | ((with_reducible refine zak (f := 15) rfl ?_); refine zbb (some 37) rfl rfl Try.func15 (by kernel_rfl) rfl #[.string t317] rfl (by (try simp only [List.map_toArray, List.map_cons, List.map_nil]); first | done | rfl | (simp only [List.length_drop, List.length_take]; rfl)) ?_; (with_reducible refine (impl_TermLeft.calls t317 t321 true _ A12.out).mono ?_); rintro e w21 ⟨rfl, hb⟩; refine ⟨_, rfl, ?_⟩; have n0_ := zaa.mk (zae (by repeat (first | (with_reducible first | exact HB.out | apply zac | apply zab | apply zad) | exact HB.out)) hb); clear HB; have HB := n0_; clear n0_; (try clear hb); (try clear hb2); (try clear hk); (try clear hi)) | ((with_reducible refine zak (f := 15) rfl ?_); refine zbb (some 42) rfl rfl Try.func15 (by kernel_rfl) rfl #[.string t318] rfl (by (try simp only [List.map_toArray, List.map_cons, List.map_nil]); first | done | rfl | (simp only [List.length_drop, List.length_take]; rfl)) ?_; (with_reducible refine (impl_TermLeft.calls t318 t323 true _ A13.out).mono ?_); rintro e w22 ⟨rfl, hb⟩; refine ⟨_, rfl, ?_⟩; have n0_ := zaa.mk (zae (by repeat (first | (with_reducible first | exact HB.out | apply zac | apply zab | apply zad) | exact HB.out)) hb); clear HB; have HB := n0_; clear n0_; (try clear hb); (try clear hb2); (try clear hk); (try clear hi)))
        go_ret
        exact ⟨by first | rfl | (simp [zan, zam] <;> rfl) | (simp [*, zan, zam] <;> rfl), by repeat (first | (with_reducible first | exact HB.out | apply zac | apply zab | apply zad) | exact HB.out)⟩
      ·replace c15 := Bool.eq_false_iff.mpr c15
       subst c15
       have H1 : (some false) = some r := by rw [if_neg (show ¬ (false = true) by decide)] at H; exact H
       clear H
       have H := H1
       clear H1
       obtain rfl := Option.some.inj H
       go_wp2_with (first | ((with_reducible refine zak (f := 15) rfl ?_); refine zbb (some 37) rfl rfl Try.func15 (by kernel_rfl) rfl #[.string t317] rfl (by (try simp only [List.map_toArray, List.map_cons, List.map_nil]); first | done | rfl | (simp only [List.length_drop, List.length_take]; rfl)) ?_; (with_reducible refine (impl_TermLeft.calls t317 t321 true _ A12.out).mono ?_); rintro e w23 ⟨rfl, hb⟩; refine ⟨_, rfl, ?_⟩; have n0_ := zaa.mk (zae (by repeat (first | (with_reducible first | exact HB.out | apply zac | apply zab | apply zad) | exact HB.out)) hb); clear HB; have HB := n0_; clear n0_; (try clear hb); (try clear hb2); (try clear hk); (try clear hi)) | ((with_reducible refine zak (f := 15) rfl ?_); refine zbb (some 42) rfl rfl Try.func15 (by kernel_rfl) rfl #[.string t318] rfl (by (try simp only [List.map_toArray, List.map_cons, List.map_nil]); first | done | rfl | (simp only [List.length_drop, List.length_take]; rfl)) ?_; (with_reducible refine (impl_TermLeft.calls t318 t323 false _ A13.out).mono ?_); rintro e w24 ⟨rfl, hb⟩; refine ⟨_, rfl, ?_⟩; have n0_ := zaa.mk (zae (by repeat (first | (with_reducible first | exact HB.out | apply zac | apply zab | apply zad) | exact HB.out)) hb); clear HB; have HB := n0_; clear n0_; (try clear hb); (try clear hb2); (try clear hk); (try clear hi)))
       go_ret
       exact ⟨by first | rfl | (simp [zan, zam] <;> rfl) | (simp [*, zan, zam] <;> rfl), by repeat (first | (with_reducible first | exact HB.out | apply zac | apply zab | apply zad) | exact HB.out)⟩
     ·replace c14 := Bool.eq_false_iff.mpr c14
      subst c14
      have H1 : (some false) = some r := by rw [if_neg (show ¬ (false = true) by decide)] at H; exact H
      clear H
      have H := H1
      clear H1
      obtain rfl := Option.some.inj H
      go_wp2_with (first | ((with_reducible refine zak (f := 15) rfl ?_); refine zbb (some 37) rfl rfl Try.func15 (by kernel_rfl) rfl #[.string t317] rfl (by (try simp only [List.map_toArray, List.map_cons, List.map_nil]); first | done | rfl | (simp only [List.length_drop, List.length_take]; rfl)) ?_; (with_reducible refine (impl_TermLeft.calls t317 t321 false _ A12.out).mono ?_); rintro e w25 ⟨rfl, hb⟩; refine ⟨_, rfl, ?_⟩; have n0_ := zaa.mk (zae (by repeat (first | (with_reducible first | exact HB.out | apply zac | apply zab | apply zad) | exact HB.out)) hb); clear HB; have HB := n0_; clear n0_; (try clear hb); (try clear hb2); (try clear hk); (try clear hi)) | ((with_reducible refine zak (f := 15) rfl ?_); refine zbb (some 42) rfl rfl Try.func15 (by kernel_rfl) rfl #[.string t318] rfl (by (try simp only [List.map_toArray, List.map_cons, List.map_nil]); first | done | rfl | (simp only [List.length_drop, List.length_take]; rfl)) ?_; (with_reducible refine (impl_TermLeft.calls t318 t323 t324 _ A13.out).mono ?_); rintro e w26 ⟨rfl, hb⟩; refine ⟨_, rfl, ?_⟩; have n0_ := zaa.mk (zae (by repeat (first | (with_reducible first | exact HB.out | apply zac | apply zab | apply zad) | exact HB.out)) hb); clear HB; have HB := n0_; clear n0_; (try clear hb); (try clear hb2); (try clear hk); (try clear hi)))
      go_ret
      exact ⟨by first | rfl | (simp [zan, zam] <;> rfl) | (simp [*, zan, zam] <;> rfl), by repeat (first | (with_reducible first | exact HB.out | apply zac | apply zab | apply zad) | exact HB.out)⟩
def laws_FnTermSame.Pure : Prop := ∀ (l0 : List Int), l0.length ≤ maxLen → l0.length * 1 ≤ 140737488351232 → (∀ x ∈ l0, (Lit.int .u8 x).wf = true) → ∃ k, laws_FnTermSame.f k l0 = some true
theorem laws_FnTermSame.walk (P : laws_FnTermSame.Pure) (a0 : Option Addr) (len0 cap0 : Nat) (z0 : List Int) (w : World) (w0 : (a0 = none ∧ len0 = 0 ∧ cap0 = 0 ∧ z0 = []) ∨ ∃ x, a0 = some x ∧ len0 ≤ cap0 ∧ cap0 ≤ maxLen ∧ z0.length = cap0 ∧ (∀ i, i < z0.length → w.cell? (x.add i) = some (.int .u8 (z0.getD i 0))) ∧ ∀ n ∈ z0, (Lit.int .u8 n).wf = true) (y0 : len0 * 1 ≤ 140737488351232) :
  Calls Try.prog 6 #[.slice a0 len0 cap0] w fun e w' => e = .returned (.bool true) ∧ Below w.heap.size w w' := by
 obtain ⟨l0, rfl, hr0, hm0, hw0, hc0⟩ := zbo.ofRowC w0
 obtain ⟨k, h⟩ := P l0 hm0 y0 hw0
 refine (laws_FnTermSame.calls k _ _ l0 true w (Kd.C_of_reads (d := (0 : Int)) (h1 := fun _ => rfl) hr0) hc0 h).mono ?_
 rintro e w' ⟨rfl, hd⟩
 exact ⟨rfl, hd⟩
end Go.Proofs.Ytgiidlebnjbgeaa.TS
namespace Go.Proofs.Ytgiidlebnjbgeaa.Hd
open Go.RowKit Go.PW.PrintWords Go.PW.PrintLast Go.PW.PrintMore Go.Proofs.Ytgiidlebnjbgeaa.PB
theorem wrapT_succ {i : Nat} (h : i ≤ 1048576) : wrap64 ((i : Int) + 1) = ((i + 1 : Nat) : Int) := by rw [wrapT (by omega) (by omega)]; omega
theorem rdT_at {p : List Int} {i : Nat} {s : Int} (h : p[i]? = some s) : rd p (i : Int) = s := by
 unfold rd; rw [Int.toNat_natCast, List.getD_eq_getElem?_getD, h]; rfl
theorem equalT_ev (a b : List Int) (ha : a.length ≤ 100) : Evs (fun k => slices_Equal_int_int.f k a b) (decide (a = b)) := by
 have key : ∀ m i, i + m = a.length → a.length = b.length → a.take i = b.take i → Evs (fun k => slices_Equal_int_int.l0 k a b (a.length : Int) (i : Int)) (decide (a = b)) := by
  intro m
  induction m with
  | zero =>
   intro i hi hl ht
   refine Evs.stepNeg (fun k => by conv => lhs; unfold slices_Equal_int_int.l0) (by omega) ?_
   have : a = b := by
    rw [List.take_of_length_le (by omega), List.take_of_length_le (by omega)] at ht
    exact ht
   rw [decide_eq_true this]
   exact Evs.const _
  | succ m ih =>
   intro i hi hl ht
   refine Evs.stepPos (fun k => by conv => lhs; unfold slices_Equal_int_int.l0) (by omega) (Evs.pos (by omega) (Evs.pos (by omega) (Evs.pos (by omega) ?_)))
   have ha' : a[i]? = some a[i] := List.getElem?_eq_getElem (by omega)
   have hb' : b[i]? = some b[i] := List.getElem?_eq_getElem (by omega)
   rw [rdT_at ha', rdT_at hb']
   by_cases e : a[i] = b[i]
   ·refine Evs.pos e ?_
    rw [wrapT_succ (by omega)]
    refine ih (i + 1) (by omega) hl ?_
    rw [List.take_add_one, List.take_add_one, ha', hb', ht, e]
   ·refine Evs.neg e ?_
    have : ¬ a = b := fun z => e (by subst z; rfl)
    rw [decide_eq_false this]
    exact Evs.const _
 by_cases hl : a.length = b.length
 ·refine Evs.congr (h := fun k => slices_Equal_int_int.l0 k a b (a.length : Int) 0) (fun k => ?_) (key a.length 0 (by omega) hl rfl)
  unfold slices_Equal_int_int.f
  rw [if_pos (by omega)]
 ·rw [decide_eq_false (fun z => hl (by rw [z]))]
  refine Evs.congr (h := fun _ => some false) (fun k => ?_) (Evs.const _)
  unfold slices_Equal_int_int.f
  rw [if_neg (by omega)]
theorem l5Equal_ev (a b : List Int) (ha : a.length ≤ 100) : Evs (fun k => spec_l5Equal.f k a b) (decide (a = b)) := by
 have key : ∀ m i, i + m = a.length → a.length = b.length → a.take i = b.take i → Evs (fun k => spec_l5Equal.l0 k a b (i : Int)) (decide (a = b)) := by
  intro m
  induction m with
  | zero =>
   intro i hi hl ht
   refine Evs.stepNeg (fun k => by conv => lhs; unfold spec_l5Equal.l0) (by omega) ?_
   have : a = b := by
    rw [List.take_of_length_le (by omega), List.take_of_length_le (by omega)] at ht
    exact ht
   rw [decide_eq_true this]
   exact Evs.const _
  | succ m ih =>
   intro i hi hl ht
   refine Evs.stepPos (fun k => by conv => lhs; unfold spec_l5Equal.l0) (by omega) (Evs.pos (by omega) (Evs.pos (by omega) ?_))
   have ha' : a[i]? = some a[i] := List.getElem?_eq_getElem (by omega)
   have hb' : b[i]? = some b[i] := List.getElem?_eq_getElem (by omega)
   rw [rdT_at ha', rdT_at hb']
   by_cases e : a[i] = b[i]
   ·refine Evs.pos e ?_
    rw [wrapT_succ (by omega)]
    refine ih (i + 1) (by omega) hl ?_
    rw [List.take_add_one, List.take_add_one, ha', hb', ht, e]
   ·refine Evs.neg e ?_
    have : ¬ a = b := fun z => e (by subst z; rfl)
    rw [decide_eq_false this]
    exact Evs.const _
 by_cases hl : a.length = b.length
 ·refine Evs.congr (h := fun k => spec_l5Equal.l0 k a b 0) (fun k => ?_) (key a.length 0 (by omega) hl rfl)
  unfold spec_l5Equal.f
  rw [if_pos (by omega)]
 ·rw [decide_eq_false (fun z => hl (by rw [z]))]
  refine Evs.congr (h := fun _ => some false) (fun k => ?_) (Evs.const _)
  unfold spec_l5Equal.f
  rw [if_neg (by omega)]
def termSameF (s t : ByteArray) : Bool := (zaz s).2 && ((zaz t).2 && decide ((zaz s).1 = (zaz t).1))
theorem termPermF_lenT (s : ByteArray) : (zaz s).1.length ≤ 60 := by
 unfold zaz
 cases h : ofR s with
 | none => simp
 | some t =>
  have := ofR_nodes h
  have := tid_nodes t
  have := zbf (tid t)
  show (zbc (tid t)).length ≤ 60
  omega
theorem rdOfT_get (p : List ByteArray) (i : Nat) (h : i < p.length) : rdOf ByteArray.empty p (i : Int) = p[i] := by
 unfold rdOf
 rw [Int.toNat_natCast, List.getD_eq_getElem?_getD, List.getElem?_eq_getElem h]
 rfl
theorem xor_nonneg {a b : Int} (ha : 0 ≤ a) (hb : 0 ≤ b) (ha' : a < 1099511627776) (hb' : b < 1099511627776) : 0 ≤ Go.bits .xor .i64 a b := by
 obtain ⟨x, rfl⟩ := Int.eq_ofNat_of_zero_le ha
 obtain ⟨y, rfl⟩ := Int.eq_ofNat_of_zero_le hb
 have hx : x < 2 ^ 40 := by omega
 have hy : y < 2 ^ 40 := by omega
 have h := Nat.xor_lt_two_pow hx hy
 simp only [Go.bits, BitVec.ofInt_natCast, BitVec.toNat_xor, BitVec.toNat_ofNat]
 rw [Nat.mod_eq_of_lt (show x < 2 ^ IntKind.i64.bits by show x < 2 ^ 64; omega), Nat.mod_eq_of_lt (show y < 2 ^ IntKind.i64.bits by show y < 2 ^ 64; omega), IntKind.wrap_i64]
 omega
theorem tmod_inT {x n : Int} (hx : 0 ≤ x) (hn : 1 ≤ n) : 0 ≤ Int.tmod x n ∧ Int.tmod x n < n := ⟨Int.tmod_nonneg _ hx, Int.tmod_lt_of_pos _ (by omega)⟩
structure RdBT (b : List Int) : Prop where
 len : b.length ≤ 2000
 val : ∀ x ∈ b, 0 ≤ x ∧ x ≤ 255
theorem RdBT.byte {b : List Int} (h : RdBT b) (i : Int) : 0 ≤ rd b i ∧ rd b i ≤ 255 := by
 unfold rd
 rw [List.getD_eq_getElem?_getD]
 cases e : b[i.toNat]? with
 | none => simp
 | some x => exact h.val x (List.mem_of_getElem? e)
theorem pick_j0_trueT (b : List Int) (q n : Int) : Evs (fun k => spec_l6Rd_pick.j0 k n true b q) (0, q) := by
 refine Evs.step (h := fun _ => some (0, q)) (fun k => ?_) (Evs.const _)
 show spec_l6Rd_pick.j0 (k + 1) n true b q = _
 simp only [spec_l6Rd_pick.j0, if_true]
theorem pick_evT (b : List Int) (h : RdBT b) (q : Nat) (hq : q ≤ 1000000) (n : Int) : ∃ v, Evs (fun k => spec_l6Rd_pick.f k b (q : Int) n) (v, ((q + 1 : Nat) : Int)) ∧ 0 ≤ v ∧ (1 ≤ n → v < n) ∧ (n < 1 → v = 0) := by
 have hw : wrap64 ((q : Int) + 1) = ((q + 1 : Nat) : Int) := by rw [wrapT (by omega) (by omega)]; omega
 by_cases hn : n < 1
 ·refine ⟨0, ?_, Int.le_refl _, fun h => by omega, fun _ => rfl⟩
  refine Evs.congr (fun k => ?_) (pick_j0_trueT b ((q + 1 : Nat) : Int) n)
  unfold spec_l6Rd_pick.f
  rw [if_pos hn, hw]
 ·by_cases hl : b.length = 0
  ·refine ⟨0, ?_, Int.le_refl _, fun h => by omega, fun h => absurd h hn⟩
   refine Evs.congr (fun k => ?_) (pick_j0_trueT b ((q + 1 : Nat) : Int) n)
   unfold spec_l6Rd_pick.f
   rw [if_neg hn, hw, show ((b.length : Int) == 0) = true by rw [beq_iff_eq]; omega]
  ·have hlen := h.len
   have e1 : wrap64 (((q + 1 : Nat) : Int) - 1) = (q : Int) := by rw [wrapT (by omega) (by omega)]; omega
   have main : ∃ v, (∀ k, spec_l6Rd_pick.j0 (k + 1) n false b ((q + 1 : Nat) : Int) = some (v, ((q + 1 : Nat) : Int))) ∧ 0 ≤ v ∧ v < n := by
    by_cases hql : (q : Int) < (b.length : Int)
    ·have hr := h.byte (q : Int)
     obtain ⟨t0, t1⟩ := tmod_inT (x := rd b (q : Int)) (n := n) hr.1 (by omega)
     refine ⟨Int.tmod (rd b (q : Int)) n, fun k => ?_, t0, t1⟩
     simp only [spec_l6Rd_pick.j0, Bool.false_eq_true, if_false]
     rw [e1, if_pos hql, if_pos (by omega), if_neg (by omega), wrapT (x := rd b (q : Int)) (by omega) (by omega)]
    ·have i1 := tmod_inT (x := (q : Int)) (n := (b.length : Int)) (by omega) (by omega)
     have e2 : wrap64 (wrap64 ((q : Int) * 7) + 3) = (q : Int) * 7 + 3 := by rw [wrapT (x := (q : Int) * 7) (by omega) (by omega), wrapT (by omega) (by omega)]
     have i2 := tmod_inT (x := (q : Int) * 7 + 3) (n := (b.length : Int)) (by omega) (by omega)
     have r1 := h.byte (Int.tmod (q : Int) (b.length : Int))
     have r2 := h.byte (Int.tmod ((q : Int) * 7 + 3) (b.length : Int))
     have d1 : 0 ≤ Int.tdiv (q : Int) (b.length : Int) ∧ Int.tdiv (q : Int) (b.length : Int) ≤ 1000000 := by
      rw [Int.tdiv_eq_ediv_of_nonneg (by omega)]
      refine ⟨Int.ediv_nonneg (by omega) (by omega), Int.le_trans (Int.ediv_le_self _ (by omega)) (by omega)⟩
     have key : ∃ v, (∀ k, spec_l6Rd_pick.j0 (k + 1) n false b ((q + 1 : Nat) : Int) = some (v, ((q + 1 : Nat) : Int))) ∧ 0 ≤ v ∧ v < n := by
      have hform : ∀ k, spec_l6Rd_pick.j0 (k + 1) n false b ((q + 1 : Nat) : Int) = some (Int.tmod (Go.bits .xor .i64 (rd b (Int.tmod (q : Int) (b.length : Int)) * 131 + rd b (Int.tmod ((q : Int) * 7 + 3) (b.length : Int)) * 1117 + (q : Int) * 29 + Int.tdiv (q : Int) (b.length : Int) * 53) (wrap64 (Int.tdiv (rd b (Int.tmod (q : Int) (b.length : Int)) * 131 + rd b (Int.tmod ((q : Int) * 7 + 3) (b.length : Int)) * 1117 + (q : Int) * 29 + Int.tdiv (q : Int) (b.length : Int) * 53) 64))) n, ((q + 1 : Nat) : Int)) := fun k => by
       simp only [spec_l6Rd_pick.j0, Bool.false_eq_true, if_false]
       rw [e1, if_neg hql, if_neg (by omega), if_pos i1.1, if_pos i1.2, e2, if_pos i2.1, if_pos i2.2, if_neg (by omega)]
       generalize rd b (Int.tmod (q : Int) (b.length : Int)) = a at *
       generalize rd b (Int.tmod ((q : Int) * 7 + 3) (b.length : Int)) = c at *
       generalize Int.tdiv (q : Int) (b.length : Int) = d at *
       rw [wrapT (x := a) (by omega) (by omega), wrapT (x := a * 131) (by omega) (by omega), wrapT (x := c) (by omega) (by omega), wrapT (x := c * 1117) (by omega) (by omega), wrapT (x := a * 131 + c * 1117) (by omega) (by omega), wrapT (x := (q : Int) * 29) (by omega) (by omega), wrapT (x := a * 131 + c * 1117 + (q : Int) * 29) (by omega) (by omega), wrapT (x := d) (by omega) (by omega), wrapT (x := d * 53) (by omega) (by omega), wrapT (x := a * 131 + c * 1117 + (q : Int) * 29 + d * 53) (by omega) (by omega)]
      have hX : 0 ≤ rd b (Int.tmod (q : Int) (b.length : Int)) * 131 + rd b (Int.tmod ((q : Int) * 7 + 3) (b.length : Int)) * 1117 + (q : Int) * 29 + Int.tdiv (q : Int) (b.length : Int) * 53 ∧ rd b (Int.tmod (q : Int) (b.length : Int)) * 131 + rd b (Int.tmod ((q : Int) * 7 + 3) (b.length : Int)) * 1117 + (q : Int) * 29 + Int.tdiv (q : Int) (b.length : Int) * 53 < 1099511627776 := by omega
      generalize rd b (Int.tmod (q : Int) (b.length : Int)) * 131 + rd b (Int.tmod ((q : Int) * 7 + 3) (b.length : Int)) * 1117 + (q : Int) * 29 + Int.tdiv (q : Int) (b.length : Int) * 53 = X at *
      have hd : 0 ≤ Int.tdiv X 64 ∧ Int.tdiv X 64 ≤ X := by
       rw [Int.tdiv_eq_ediv_of_nonneg hX.1]
       exact ⟨Int.ediv_nonneg hX.1 (by omega), Int.ediv_le_self _ hX.1⟩
      rw [wrapT (x := Int.tdiv X 64) (by omega) (by omega)] at hform
      obtain ⟨t0, t1⟩ := tmod_inT (n := n) (xor_nonneg hX.1 hd.1 hX.2 (by omega)) (by omega)
      exact ⟨_, hform, t0, t1⟩
     exact key
   obtain ⟨v, hv, v0, v1⟩ := main
   refine ⟨v, ?_, v0, fun _ => v1, fun h => absurd h hn⟩
   refine Evs.congr (h := fun k => spec_l6Rd_pick.j0 k n false b ((q + 1 : Nat) : Int)) (fun k => ?_) (Evs.step (h := fun _ => some (v, ((q + 1 : Nat) : Int))) hv (Evs.const _))
   unfold spec_l6Rd_pick.f
   rw [if_neg hn, hw, show ((b.length : Int) == 0) = false by rw [beq_eq_false_iff_ne]; omega]
theorem of_evT (b : List Int) (h : RdBT b) (q : Nat) (hq : q ≤ 1000000) (L : List ByteArray) (hL : 1 ≤ L.length) : ∃ s, Evs (fun k => spec_l6Rd_of.f k b (q : Int) L) (s, ((q + 1 : Nat) : Int)) ∧ s ∈ L := by
 obtain ⟨v, hv, v0, v1, -⟩ := pick_evT b h q hq (L.length : Int)
 have hv1 := v1 (by omega)
 obtain ⟨i, rfl⟩ := Int.eq_ofNat_of_zero_le v0
 refine ⟨rdOf ByteArray.empty L (i : Int), Evs.bind hv (Evs.pos (by omega) (Evs.pos hv1 (Evs.const _))), ?_⟩
 rw [rdOfT_get L i (by omega)]
 exact List.getElem_mem _
theorem open_evT (l : List Int) (hv : ∀ x ∈ l, 0 ≤ x ∧ x ≤ 255) : ∃ b, spec_l6Open.f l = some (b, 0) ∧ RdBT b := by
 unfold spec_l6Open.f
 by_cases h : (l.length : Int) > 2000
 ·rw [if_pos h, if_pos (by omega)]
  exact ⟨_, rfl, by simp; omega, fun x hx => hv x (List.mem_of_mem_take hx)⟩
 ·rw [if_neg h]
  exact ⟨_, rfl, by omega, hv⟩
theorem termJ_evT (b : List Int) (h : RdBT b) (q : Nat) (hq : q ≤ 900000) (x : ByteArray) (hx : x.size ≤ 1000) : ∃ s q', Evs (fun k => spec_l92Term.j0 k x b (q : Int)) (s, ((q' : Nat) : Int)) ∧ q' ≤ q + 2 ∧ s.size ≤ x.size + 2 := by
 obtain ⟨v, hv, v0, v1, -⟩ := pick_evT b h q (by omega) 6
 by_cases e : v = 0
 ·obtain ⟨u, hu, hm⟩ := of_evT b h (q + 1) (by omega) [(⟨#[62]⟩ : ByteArray), (⟨#[94]⟩ : ByteArray), (⟨#[62, 62]⟩ : ByteArray), (⟨#[94, 62]⟩ : ByteArray)] (by simp)
  have hs : u.size ≤ 2 := by
   simp only [List.mem_cons, List.not_mem_nil, or_false] at hm
   rcases hm with rfl | rfl | rfl | rfl <;> decide
  refine ⟨u ++ x, q + 1 + 1, Evs.step (fun k => by conv => lhs; unfold spec_l92Term.j0) (Evs.bind hv (Evs.pos e (Evs.bind hu (Evs.pos ?_ (Evs.const _))))), by omega, ?_⟩
  ·show u.size + x.size ≤ _
   omega
  ·rw [ByteArray.size_append]
   omega
 ·exact ⟨x, q + 1, Evs.step (fun k => by conv => lhs; unfold spec_l92Term.j0) (Evs.bind hv (Evs.neg e (Evs.const _))), by omega, by omega⟩
theorem term_evT (b : List Int) (h : RdBT b) : ∀ n m : Nat, m ≤ n → 1 ≤ m → m ≤ 100 → ∀ q : Nat, q + 6 * m ≤ 100000 → ∃ s q', Evs (fun k => spec_l92Term.f k b (q : Int) (m : Int)) (s, ((q' : Nat) : Int)) ∧ q' + 4 ≤ q + 6 * m ∧ s.size + 5 ≤ 8 * m
 | 0, m, hn, h1, _, _, _ => by omega
 | n + 1, m, hn, h1, hm, q, hq => by
  by_cases hm1 : m = 1
  ·subst hm1
   obtain ⟨s, q', hs, h2, h3⟩ := termJ_evT b h q (by omega) ⟨#[111]⟩ (by decide)
   have e : (ByteArray.mk #[111]).size = 1 := rfl
   exact ⟨s, q', Evs.stepNeg (fun k => by conv => lhs; unfold spec_l92Term.f) (by omega) hs, by omega, by omega⟩
  ·have e1 : wrap64 ((m : Int) - 1) = ((m - 1 : Nat) : Int) := by rw [wrapT (by omega) (by omega)]; omega
   obtain ⟨v, hv, v0, v1, -⟩ := pick_evT b h q (by omega) ((m - 1 : Nat) : Int)
   rw [← e1] at hv
   have v1 := v1 (by omega)
   obtain ⟨c, hc⟩ : ∃ c : Nat, v = (c : Int) := Int.eq_ofNat_of_zero_le v0
   subst hc
   have e2 : wrap64 (1 + (c : Int)) = ((c + 1 : Nat) : Int) := by rw [wrapT (by omega) (by omega)]; omega
   have e3 : wrap64 ((m : Int) - ((c + 1 : Nat) : Int)) = ((m - (c + 1) : Nat) : Int) := by rw [wrapT (by omega) (by omega)]; omega
   obtain ⟨s1, q1, hs1, l1, z1⟩ := term_evT b h n (c + 1) (by omega) (by omega) (by omega) (q + 1) (by omega)
   rw [← e2] at hs1
   obtain ⟨u, hu, hmem⟩ := of_evT b h q1 (by omega) [(⟨#[124]⟩ : ByteArray), (⟨#[45]⟩ : ByteArray)] (by simp)
   have zu : u.size = 1 := by
    simp only [List.mem_cons, List.not_mem_nil, or_false] at hmem
    rcases hmem with rfl | rfl <;> decide
   obtain ⟨s2, q2, hs2, l2, z2⟩ := term_evT b h n (m - (c + 1)) (by omega) (by omega) (by omega) (q1 + 1) (by omega)
   rw [← e3, ← e2] at hs2
   have eA : (ByteArray.mk #[40]).size = 1 := rfl
   have eB : (ByteArray.mk #[41]).size = 1 := rfl
   have zz : (((((ByteArray.mk #[40]) ++ s1) ++ u) ++ s2) ++ (ByteArray.mk #[41])).size = s1.size + s2.size + 3 := by
    simp only [ByteArray.size_append, eA, eB, zu]
    omega
   obtain ⟨s, q', hs, h2, h3⟩ := termJ_evT b h q2 (by omega) (((((ByteArray.mk #[40]) ++ s1) ++ u) ++ s2) ++ (ByteArray.mk #[41])) (by omega)
   refine ⟨s, q', Evs.stepPos (fun k => by conv => lhs; unfold spec_l92Term.f) (by omega) (Evs.bind hv (Evs.bind hs1 (Evs.pos ?_ (Evs.bind hu (Evs.pos ?_ (Evs.bind hs2 (Evs.pos ?_ (Evs.pos ?_ hs)))))))), by omega, by omega⟩
   ·show 1 + s1.size ≤ _
    omega
   ·show ((ByteArray.mk #[40]) ++ s1).size + u.size ≤ _
    rw [ByteArray.size_append]
    omega
   ·show (((ByteArray.mk #[40]) ++ s1) ++ u).size + s2.size ≤ _
    simp only [ByteArray.size_append]
    omega
   ·show ((((ByteArray.mk #[40]) ++ s1) ++ u) ++ s2).size + 1 ≤ _
    simp only [ByteArray.size_append]
    omega
theorem text_evT (b : List Int) (h : RdBT b) (q : Nat) (hq : q ≤ 50000) : ∃ s q', Evs (fun k => spec_l92Text.f k b (q : Int)) (s, ((q' : Nat) : Int)) ∧ q' ≤ q + 100 ∧ s.size ≤ 1000 := by
 obtain ⟨v, hv, v0, v1, -⟩ := pick_evT b h q (by omega) 6
 have v1 := v1 (by omega)
 obtain ⟨c, hc⟩ : ∃ c : Nat, v = (c : Int) := Int.eq_ofNat_of_zero_le v0
 subst hc
 have e2 : wrap64 (1 + (c : Int)) = ((c + 1 : Nat) : Int) := by rw [wrapT (by omega) (by omega)]; omega
 obtain ⟨s1, q1, hs1, l1, z1⟩ := term_evT b h 7 (c + 1) (by omega) (by omega) (by omega) (q + 1) (by omega)
 rw [← e2] at hs1
 obtain ⟨v, hv2, -, -, -⟩ := pick_evT b h q1 (by omega) 24
 by_cases e0 : v = 0
 ·obtain ⟨u, hu, hm⟩ := of_evT b h (q1 + 1) (by omega) [(⟨#[41]⟩ : ByteArray), (⟨#[111]⟩ : ByteArray), (⟨#[124]⟩ : ByteArray)] (by simp)
  have zu : u.size = 1 := by
   simp only [List.mem_cons, List.not_mem_nil, or_false] at hm
   rcases hm with rfl | rfl | rfl <;> decide
  refine ⟨s1 ++ u, q1 + 1 + 1, Evs.bind hv (Evs.bind hs1 (Evs.bind hv2 (Evs.pos e0 (Evs.bind hu (Evs.pos ?_ (Evs.const _)))))), by omega, ?_⟩
  ·show s1.size + u.size ≤ _
   omega
  ·rw [ByteArray.size_append]
   omega
 ·by_cases e1 : v = 1
  ·obtain ⟨u, hu, hm⟩ := of_evT b h (q1 + 1) (by omega) [(⟨#[]⟩ : ByteArray), (⟨#[120]⟩ : ByteArray), (⟨#[40, 111, 41]⟩ : ByteArray), (⟨#[40, 111, 124, 111]⟩ : ByteArray), (⟨#[62]⟩ : ByteArray), (⟨#[40, 111, 124, 40, 111, 124, 40, 111, 124, 40, 111, 124, 40, 111, 124, 40, 111, 124, 40, 111, 124, 111, 41, 41, 41, 41, 41, 41, 41]⟩ : ByteArray), (⟨#[40, 40, 111, 124, 111, 41, 124, 40, 111, 124, 111, 41, 41]⟩ : ByteArray)] (by simp)
   have zu : u.size ≤ 100 := by
    simp only [List.mem_cons, List.not_mem_nil, or_false] at hm
    rcases hm with rfl | rfl | rfl | rfl | rfl | rfl | rfl <;> decide
   exact ⟨u, q1 + 1 + 1, Evs.bind hv (Evs.bind hs1 (Evs.bind hv2 (Evs.neg e0 (Evs.pos e1 (Evs.bind hu (Evs.const _)))))), by omega, by omega⟩
  ·exact ⟨s1, q1 + 1, Evs.bind hv (Evs.bind hs1 (Evs.bind hv2 (Evs.neg e0 (Evs.neg e1 (Evs.const _))))), by omega, by omega⟩
def sepL (s : Bool) (a b : List Int) : Prop := ∀ x ∈ a, ∀ y ∈ b, if s = true then x < y else y < x
def indec (s : Bool) (p : List Int) : Prop := ∀ a b, p = a ++ b → a ≠ [] → b ≠ [] → ¬ sepL s a b
theorem sep_clash {s : Bool} {a b c d : List Int} (h : a ++ b = c ++ d) (ha : a ≠ []) (hb : b ≠ []) (hc : c ≠ []) (hd : d ≠ []) (h1 : sepL s a b) (h2 : sepL (!s) c d) : False := by
 have key : ∃ x y, x ∈ a ∧ x ∈ c ∧ y ∈ b ∧ y ∈ d := by
  rcases List.append_eq_append_iff.1 h with ⟨a', rfl, rfl⟩ | ⟨c', rfl, rfl⟩
  ·obtain ⟨x, hx⟩ := List.exists_mem_of_ne_nil a ha
   obtain ⟨y, hy⟩ := List.exists_mem_of_ne_nil d hd
   exact ⟨x, y, hx, List.mem_append_left _ hx, List.mem_append_right _ hy, hy⟩
  ·obtain ⟨x, hx⟩ := List.exists_mem_of_ne_nil c hc
   obtain ⟨y, hy⟩ := List.exists_mem_of_ne_nil b hb
   exact ⟨x, y, List.mem_append_left _ hx, hx, hy, List.mem_append_right _ hy⟩
 obtain ⟨x, y, xa, xc, yb, yd⟩ := key
 have e1 := h1 x xa y yb
 have e2 := h2 x xc y yd
 cases s
 ·rw [if_neg (by decide)] at e1
  rw [if_pos (by decide)] at e2
  omega
 ·rw [if_pos rfl] at e1
  rw [if_neg (by decide)] at e2
  omega
theorem ne_nil_len {α : Type} {l : List α} (h : 1 ≤ l.length) : l ≠ [] := fun e => by subst e; exact absurd h (by simp)
theorem bin_sep (s : Bool) (x y : Tr) : ∃ a b, zbc (.bin s x y) = a ++ b ∧ a ≠ [] ∧ b ≠ [] ∧ sepL s a b := by
 have lx := (zbf x).2
 have ly := (zbf y).2
 have rx := zbs x
 have ry := moreL_range (n := (zbc x).length) (zbs y)
 rw [permR_bin]
 cases s
 ·refine ⟨zbg (zbc y) (zbc x).length, zbc x, rfl, ne_nil_len (by rw [zbd]; exact ly), ne_nil_len lx, fun u hu v hv => ?_⟩
  have := rx v hv
  have := ry u hu
  rw [if_neg (by decide)]
  omega
 ·refine ⟨zbc x, zbg (zbc y) (zbc x).length, rfl, ne_nil_len lx, ne_nil_len (by rw [zbd]; exact ly), fun u hu v hv => ?_⟩
  have := rx u hu
  have := ry v hv
  rw [if_pos rfl]
  omega
theorem notS_indec {s : Bool} {k : Tr} (ht : k.tidy = true) (h : notS s k) : indec s (zbc k) := by
 intro a b e ha hb hs
 cases k with
 | o =>
  have e2 := congrArg List.length e
  rw [List.length_append] at e2
  have := List.length_pos_iff.2 ha
  have := List.length_pos_iff.2 hb
  have : (zbc .o).length = 1 := rfl
  omega
 | un c t => cases ht
 | bin c x y =>
  have hc : c = !s := by
   cases s <;> cases c <;> first | rfl | exact absurd rfl h
  subst hc
  obtain ⟨a', b', e', ha', hb', hs'⟩ := bin_sep (!s) x y
  exact sep_clash (e.symm.trans e') ha hb ha' hb' hs hs'
theorem joinP_nil (s : Bool) (a : List Int) : joinP s a [] = a := by
 cases s
 ·rfl
 ·show a ++ [] = a
  rw [List.append_nil]
theorem permL_cons (s : Bool) (p : Tr) (ps : List Tr) : permL s (p :: ps) = joinP s (zbc p) (permL s ps) := by
 cases ps with
 | nil => exact (joinP_nil s _).symm
 | cons q qs => exact permL_app s [p] (q :: qs) (by simp) (by simp)
theorem permL_nonneg (s : Bool) (ts : List Tr) : ∀ x ∈ permL s ts, 0 ≤ x := by
 intro x hx
 cases ts with
 | nil => cases hx
 | cons p ps =>
  rw [← permL_foldB s (p :: ps) (by simp)] at hx
  exact (zbs _ x hx).1
theorem join_first (s : Bool) {A B C D : List Int} (hA : ∀ x ∈ A, 0 ≤ x ∧ x < (A.length : Int)) (hB : ∀ x ∈ B, 0 ≤ x) (hA0 : A ≠ []) (hC : indec s C) (h : joinP s A B = joinP s C D) : ¬ A.length < C.length := by
 intro hlt
 have hm : ∀ y ∈ zbg B A.length, (A.length : Int) ≤ y := by
  intro y hy
  obtain ⟨z, hz, rfl⟩ := List.mem_map.1 hy
  have := hB z hz
  omega
 cases s
 ·have h' : zbg B A.length ++ A = zbg D C.length ++ C := h
  rcases List.append_eq_append_iff.1 h' with ⟨a', _, e⟩ | ⟨c', e1, e2⟩
  ·have := congrArg List.length e
   rw [List.length_append] at this
   omega
  ·have hl := congrArg List.length e2
   rw [List.length_append] at hl
   refine hC c' A e2 (ne_nil_len (by omega)) hA0 (fun u hu v hv => ?_)
   have := hA v hv
   have := hm u (by rw [e1]; exact List.mem_append_right _ hu)
   rw [if_neg (by decide)]
   omega
 ·have h' : A ++ zbg B A.length = C ++ zbg D C.length := h
  rcases List.append_eq_append_iff.1 h' with ⟨a', e1, e2⟩ | ⟨c', e, _⟩
  ·have hl := congrArg List.length e1
   rw [List.length_append] at hl
   refine hC A a' e1 hA0 (ne_nil_len (by omega)) (fun u hu v hv => ?_)
   have := hA u hu
   have := hm v (by rw [e2]; exact List.mem_append_left _ hv)
   rw [if_pos rfl]
   omega
  ·have := congrArg List.length e
   rw [List.length_append] at this
   omega
theorem moreL_inj {a b : List Int} {n : Nat} (h : zbg a n = zbg b n) : a = b := by
 have key : ∀ l : List Int, (zbg l n).map (fun x => x - (n : Int)) = l := by
  intro l
  unfold zbg
  rw [List.map_map]
  have : ((fun x : Int => x - (n : Int)) ∘ fun x => x + (n : Int)) = id := by
   funext x
   show x + (n : Int) - (n : Int) = x
   omega
  rw [this, List.map_id]
 rw [← key a, h, key b]
theorem join_inj (s : Bool) {A B C D : List Int} (hl : A.length = C.length) (h : joinP s A B = joinP s C D) : A = C ∧ B = D := by
 cases s
 ·have h' : zbg B A.length ++ A = zbg D C.length ++ C := h
  obtain ⟨e1, e2⟩ := List.append_inj' h' hl
  subst e2
  exact ⟨rfl, moreL_inj e1⟩
 ·have h' : A ++ zbg B A.length = C ++ zbg D C.length := h
  obtain ⟨e1, e2⟩ := List.append_inj h' hl
  subst e1
  exact ⟨rfl, moreL_inj e2⟩
theorem perm_ne (t : Tr) : zbc t ≠ [] := ne_nil_len (zbf t).2
theorem permL_ne (s : Bool) (p : Tr) (ps : List Tr) : permL s (p :: ps) ≠ [] := by
 rw [← permL_foldB s (p :: ps) (by simp)]
 exact perm_ne _
theorem parts_same (s : Bool) : ∀ (ps qs : List Tr), (∀ k ∈ ps, k.tidy = true ∧ notS s k) → (∀ k ∈ qs, k.tidy = true ∧ notS s k) → permL s ps = permL s qs → ps.map zbc = qs.map zbc
 | [], [], _, _, _ => rfl
 | [], q :: qs, _, _, h => absurd h.symm (permL_ne s q qs)
 | p :: ps, [], _, _, h => absurd h (permL_ne s p ps)
 | p :: ps, q :: qs, hp, hq, h => by
  rw [permL_cons, permL_cons] at h
  have h1 := join_first s (zbs p) (permL_nonneg s ps) (perm_ne p) (notS_indec (hq q (by simp)).1 (hq q (by simp)).2) h
  have h2 := join_first s (zbs q) (permL_nonneg s qs) (perm_ne q) (notS_indec (hp p (by simp)).1 (hp p (by simp)).2) h.symm
  obtain ⟨e1, e2⟩ := join_inj s (by omega) h
  rw [List.map_cons, List.map_cons, e1, parts_same s ps qs (fun k hk => hp k (List.mem_cons_of_mem _ hk)) (fun k hk => hq k (List.mem_cons_of_mem _ hk)) e2]
theorem map_same {α β : Type} (f : α → β) : ∀ (ps qs : List α), (∀ p ∈ ps, ∀ q ∈ qs, f p = f q → p = q) → ps.map f = qs.map f → ps = qs
 | [], [], _, _ => rfl
 | [], q :: qs, _, h => by cases h
 | p :: ps, [], _, h => by cases h
 | p :: ps, q :: qs, hi, h => by
  rw [List.map_cons, List.map_cons] at h
  injection h with h1 h2
  rw [hi p (by simp) q (by simp) h1, map_same f ps qs (fun a ha b hb => hi a (List.mem_cons_of_mem _ ha) b (List.mem_cons_of_mem _ hb)) h2]
theorem mem_sumN {k : Tr} : ∀ {ts : List Tr}, k ∈ ts → k.nodes ≤ sumN ts
 | t :: ts, h => by
  simp only [sumN, List.map_cons, List.foldr_cons]
  rcases List.mem_cons.1 h with rfl | h
  ·omega
  ·have := mem_sumN h
   simp only [sumN] at this
   omega
theorem left_same : ∀ (n : Nat) (u v : Tr), u.nodes ≤ n → u.tidy = true → v.tidy = true → zbc u = zbc v → zbm u = zbm v := by
 intro n
 induction n with
 | zero => intro u v h; exact absurd h (by cases u <;> simp [Tr.nodes])
 | succ n ih =>
  intro u v hn hu hv h
  have lone : ∀ (b : Bool) (x y : Tr), 2 ≤ (zbc (.bin b x y)).length := by
   intro b x y
   have lx := (zbf x).2
   have ly := (zbf y).2
   rw [permR_bin]
   unfold joinP
   split <;> (rw [List.length_append, zbd]; omega)
  cases u with
  | un c t => cases hu
  | o =>
   cases v with
   | o => rfl
   | un c t => cases hv
   | bin b x y =>
    have := lone b x y
    rw [← h] at this
    exact absurd this (by decide)
  | bin b x y =>
   cases v with
   | o =>
    have := lone b x y
    rw [h] at this
    exact absurd this (by decide)
   | un c t => cases hv
   | bin c z w =>
    have hbc : c = b := by
     by_cases e : c = b
     ·exact e
     ·have e' : c = !b := by cases b <;> cases c <;> simp_all
      subst e'
      obtain ⟨a1, b1, e1, n1, m1, s1⟩ := bin_sep b x y
      obtain ⟨a2, b2, e2, n2, m2, s2⟩ := bin_sep (!b) z w
      exact (sep_clash (e1.symm.trans (h.trans e2)) n1 m1 n2 m2 s1 s2).elim
    subst hbc
    have au := (left_ok _ hu).2 c
    have av := (left_ok _ hv).2 c
    have h1 : permL c (zbl c (.bin c x y)) = permL c (zbl c (.bin c z w)) := by rw [au.perm, av.perm, h]
    have h2 := parts_same c _ _ (fun k hk => ⟨au.tidy k hk, (au.parts k hk).1⟩) (fun k hk => ⟨av.tidy k hk, (av.parts k hk).1⟩) h1
    have hlen : 2 ≤ (zbl c (.bin c x y)).length := by
     have := zco c x
     have := zco c y
     rw [zcf, List.length_append]
     omega
    have h3 : zbl c (.bin c x y) = zbl c (.bin c z w) := by
     refine map_same zbc _ _ (fun p hp q hq e => ?_) h2
     have := mem_sumN hp
     have := au.nodes
     have := ih p q (by omega) (au.tidy p hp) (av.tidy q hq) e
     rw [(au.parts p hp).2, (av.parts q hq).2] at this
     exact this
    rw [leftR_bin, leftR_bin, h3]
def AtB (s : ByteArray) (i : Nat) (b : ByteArray) : Prop := ∀ j, j < b.size → i + j < s.size ∧ bt s ((i + j : Nat) : Int) = bt b (j : Int)
theorem AtB.byte {s : ByteArray} {i : Nat} {c : UInt8} (h : AtB s i (byteS c)) : i < s.size ∧ bt s (i : Int) = (c.toNat : Int) := by
 have := h 0 (show 0 < 1 by decide)
 rw [← bt_nat (byteS c) 0 (show 0 < 1 by decide)] at this
 exact this
def Tr.leaves : Tr → Nat
 | .o => 1
 | .un _ t => t.leaves
 | .bin _ a b => a.leaves + b.leaves
theorem byteS_size (c : UInt8) : (byteS c).size = 1 := rfl
theorem text_leaves : ∀ t : Tr, t.tidy = true → (zcn t).size + 3 = 4 * t.leaves
 | .o, _ => rfl
 | .un _ _, h => by cases h
 | .bin b x y, h => by
  simp only [Tr.tidy, Bool.and_eq_true] at h
  have := text_leaves x h.1
  have := text_leaves y h.2
  simp only [zcn, Tr.leaves, ByteArray.size_append, byteS_size]
  omega
theorem nodes_leaves : ∀ t : Tr, t.tidy = true → t.nodes + 1 = 2 * t.leaves
 | .o, _ => rfl
 | .un _ _, h => by cases h
 | .bin b x y, h => by
  simp only [Tr.tidy, Bool.and_eq_true] at h
  have := nodes_leaves x h.1
  have := nodes_leaves y h.2
  simp only [Tr.nodes, Tr.leaves]
  omega
theorem left_leaves {t : Tr} (h : t.tidy = true) : (zbm t).leaves = t.leaves := by
 have hl := (left_ok t h).1
 have := nodes_leaves t h
 have := nodes_leaves _ hl.tidy
 have := hl.nodes
 omega
theorem left_size {t : Tr} (h : t.tidy = true) : (zcn (zbm t)).size = (zcn t).size := by
 have h1 := text_leaves t h
 have h2 := text_leaves _ (left_ok t h).1.tidy
 have h3 := left_leaves h
 omega
theorem termLeftF_ok {s : ByteArray} {t : Tr} (h : ofR s = some t) : zbq s = (zcn (zbm (tid t)), true) := by unfold zbq; rw [h]
theorem termPermF_ok {s : ByteArray} {t : Tr} (h : ofR s = some t) : zaz s = (zbc (tid t), true) := by unfold zaz; rw [h]
end Go.Proofs.Ytgiidlebnjbgeaa.Hd
namespace Go.Proofs.Ytgiidlebnjbgeaa.Pure
open Go.RowKit Go.Proofs.Ytgiidlebnjbgeaa.TS Go.Proofs.Ytgiidlebnjbgeaa.PB Go.Proofs.Ytgiidlebnjbgeaa.SM Go.Proofs.Ytgiidlebnjbgeaa.Hd Go.PW.PrintWords Go.PW.PrintLast
theorem byteS_of {x : Int} (h : (Lit.int .u8 x).wf = true) : 0 ≤ x ∧ x ≤ 255 := by
 simp only [Lit.wf, IntKind.min, IntKind.max, IntKind.signed, IntKind.bits, Bool.and_eq_true, decide_eq_true_eq] at h
 have h1 := h.1
 have h2 := h.2
 simp at h1 h2
 omega
theorem sameI_ev (s t : ByteArray) (hs : s.size ≤ 1048576) (ht : t.size ≤ 1048576) : Evs (fun k => impl_TermSame.f k s t) (termSameF s t) := by
 have h1 : impl_TermPerm.f s = some (zaz s) := by unfold impl_TermPerm.f; rw [if_pos hs]
 have h2 : impl_TermPerm.f t = some (zaz t) := by unfold impl_TermPerm.f; rw [if_pos ht]
 have hl := termPermF_lenT s
 unfold termSameF
 generalize zaz s = a at *
 generalize zaz t = b at *
 obtain ⟨a, x⟩ := a
 obtain ⟨b, y⟩ := b
 dsimp only at hl
 refine Evs.bindS h1 (Evs.bindS h2 ?_)
 cases x with
 | false => exact Evs.neg (by simp) (Evs.const _)
 | true =>
  cases y with
  | false => exact Evs.pos rfl (Evs.neg (by simp) (Evs.const _))
  | true => exact Evs.pos rfl (Evs.pos rfl (Evs.bind (equalT_ev a b (by omega)) (Evs.const _)))
theorem sameS_ev (s t : ByteArray) (hs : s.size ≤ 1048576) (ht : t.size ≤ 1048576) : Evs (fun k => spec_TermSame.f k s t) (termSameF s t) := by
 have h1 : spec_TermPerm.f s = some (zaz s) := by unfold spec_TermPerm.f; rw [if_pos hs]
 have h2 : spec_TermPerm.f t = some (zaz t) := by unfold spec_TermPerm.f; rw [if_pos ht]
 have hl := termPermF_lenT s
 unfold termSameF
 generalize zaz s = a at *
 generalize zaz t = b at *
 obtain ⟨a, x⟩ := a
 obtain ⟨b, y⟩ := b
 dsimp only at hl
 refine Evs.bindS h1 (Evs.bindS h2 ?_)
 cases x with
 | false => exact Evs.neg (by simp) (Evs.const _)
 | true =>
  cases y with
  | false => exact Evs.pos rfl (Evs.neg (by simp) (Evs.const _))
  | true => exact Evs.pos rfl (Evs.pos rfl (Evs.bind (l5Equal_ev a b (by omega)) (Evs.const _)))
theorem drawSame_ev (l : List Int) (hv : ∀ x ∈ l, 0 ≤ x ∧ x ≤ 255) : ∃ s t, Evs (fun k => spec_DrawTermSame.f k l) (s, t) ∧ s.size ≤ 1000 ∧ t.size ≤ 1000 := by
 obtain ⟨b, hb, hB⟩ := open_evT l hv
 obtain ⟨s, q, hs, hq, hz⟩ := text_evT b hB 0 (by omega)
 have fS : spec_TermLeft.f s = some (zbq s) := by unfold spec_TermLeft.f; rw [if_pos (by omega)]
 cases ho : ofR s with
 | none =>
  have e : zbq s = (⟨#[]⟩, false) := by unfold zbq; rw [ho]
  rw [e] at fS
  obtain ⟨t, q2, ht, -, hz2⟩ := text_evT b hB q (by omega)
  exact ⟨s, t, Evs.bindS hb (Evs.bind hs (Evs.bindS fS (Evs.neg (by simp) (Evs.bind ht (Evs.const _))))), hz, hz2⟩
 | some t =>
  rw [termLeftF_ok ho] at fS
  obtain ⟨v, hpk, -, -, -⟩ := pick_evT b hB q (by omega) 3
  by_cases hv0 : v > 0
  ·have z := left_size (zby t)
   have zt := zcm (tid t)
   have zn := tid_nodes t
   have zo := ofR_nodes ho
   exact ⟨s, zcn (zbm (tid t)), Evs.bindS hb (Evs.bind hs (Evs.bindS fS (Evs.pos rfl (Evs.bind hpk (Evs.pos hv0 (Evs.const _)))))), hz, by omega⟩
  ·obtain ⟨u, q2, hu, -, hz2⟩ := text_evT b hB (q + 1) (by omega)
   exact ⟨s, u, Evs.bindS hb (Evs.bind hs (Evs.bindS fS (Evs.pos rfl (Evs.bind hpk (Evs.neg hv0 (Evs.bind hu (Evs.const _))))))), hz, hz2⟩
theorem same_inv {s t : ByteArray} (h : termSameF s t = true) : ∃ u v, ofR s = some u ∧ ofR t = some v ∧ zbc (tid u) = zbc (tid v) := by
 unfold termSameF at h
 cases hs : ofR s with
 | none =>
  have e : zaz s = ([], false) := by unfold zaz; rw [hs]
  rw [e] at h
  cases h
 | some u =>
  cases ht : ofR t with
  | none =>
   have e : zaz t = ([], false) := by unfold zaz; rw [ht]
   rw [e, termPermF_ok hs] at h
   cases h
  | some v =>
   rw [termPermF_ok hs, termPermF_ok ht] at h
   exact ⟨u, v, rfl, rfl, by simpa using h⟩
theorem FnTermSame : laws_FnTermSame.Pure := by
 intro l0 h1 h2 h3
 by_cases big : (l0.length : Int) > 1048576
 ·exact ⟨0, by unfold laws_FnTermSame.f; rw [if_pos big]⟩
 ·obtain ⟨s, t, hd, hz, hz2⟩ := drawSame_ev l0 (fun x hx => byteS_of (h3 x hx))
  have fI := sameI_ev s t (by omega) (by omega)
  have fS := sameS_ev s t (by omega) (by omega)
  apply Evs.ex
  refine Evs.neg big (Evs.bind hd (Evs.bind fI (Evs.bind fS (Evs.neg (by simp) ?_))))
  cases he : termSameF s t with
  | false =>
   refine Evs.stepPos (fun k => by conv => lhs; unfold laws_FnTermSame.j0) (by rfl) ?_
   simpa using Evs.const true
  | true =>
   obtain ⟨u, v, hu, hw, hp⟩ := same_inv he
   have hl := left_same _ (tid u) (tid v) (Nat.le_refl _) (zby u) (zby v) hp
   have f1 : impl_TermLeft.f s = some (zcn (zbm (tid u)), true) := by unfold impl_TermLeft.f; rw [if_pos (by omega), termLeftF_ok hu]
   have f2 : impl_TermLeft.f t = some (zcn (zbm (tid v)), true) := by unfold impl_TermLeft.f; rw [if_pos (by omega), termLeftF_ok hw]
   have f3 := sameI_ev t s (by omega) (by omega)
   have es : termSameF t s = true := by
    unfold termSameF
    rw [termPermF_ok hu, termPermF_ok hw, hp]
    simp
   rw [es] at f3
   rw [← hl] at f2
   exact Evs.stepNeg (fun k => by conv => lhs; unfold laws_FnTermSame.j0) (by simp) (Evs.bindS f1 (Evs.bindS f2 (Evs.pos rfl (Evs.pos rfl (Evs.pos rfl (Evs.bind f3 (Evs.const _)))))))
end Go.Proofs.Ytgiidlebnjbgeaa.Pure
