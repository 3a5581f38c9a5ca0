/- Part 3 of the proof of FnExactTermPerm: what the program's functions and the reference's compute. -/
import Derived.Lib.Strings
import Derived.Lib.Bytealg
import Derived.Laws.Strings3
import Derived.Laws.AppendOwn
import Derived.Lib.SliceRun
import Derived.Lib.LazyBuf
import Derived.Test.YtgiidlebnjbgeaaProg
import Derived.Below
import Derived.Deep.Draws
import Derived.Deep.AppendLies
import Derived.Maps.AppendAt
import Derived.OwnWalk
import Derived.Laws.BytesArg
import Derived.Laws.MakeOwn
import Derived.Laws.OwnMore
import Derived.Deep.OwnRows
import Derived.Tactics
import Derived.Lib.ConvBytes
import Derived.Laws.Slices
import Derived.WalkKit
import Derived.KernelRfl
import Derived.RowKit3
import Derived.Deep.LoopGhost
import Derived.Deep.QuietTactic
import Derived.BigQuiet
import Derived.WideLaws
import Derived.Deep.DeepCutAuto
import Derived.Deep.CutBlock
import Derived.Deep.RegionHeld3
import Derived.Laws.Rows
import Derived.Lib.AppendStr
import Derived.ArgAppend
import Derived.Laws.IdiomCopy
import Derived.OrdersHeld
import Derived.Laws.BitsLemmas
import Derived.RowKit
import Derived.Test.YtgiidlebnjbgeaaCPTPb
set_option linter.unusedSimpArgs false
set_option linter.unusedVariables false
namespace Go.Proofs.Ytgiidlebnjbgeaa.Hd
open Go.RowKit Go.PW.PrintWords Go.PW.PrintLast Go.PW.PrintMore Go.Proofs.Ytgiidlebnjbgeaa.PB
set_option maxHeartbeats 1000000 in
set_option maxRecDepth 100000 in
theorem countO_calls (s : ByteArray) (w : World) : Calls Try.prog 37 #[.string s, .string ⟨#[111]⟩] w fun e w' => e = .returned (.int .i64 (Lib.countByte s.data.toList 111)) ∧ w' = w := by
 go_enter Try.func37, Try.ntmps37
 go_wp2
 rw [run_callFunc_extern Try.func47 (by kernel_rfl) (by kernel_rfl) (by kernel_rfl) (e := Extern.BytealgCount.count) (by kernel_rfl), Lib.run_countString]
 simp only [Result.andThen]
 rw [Oper.upon_value]
 go_wp2
 go_ret
 exact ⟨rfl, rfl⟩
theorem count_rooms (s : ByteArray) : ∀ n, n ≤ s.size → zbl s n = (s.data.toList.take n).count 111
 | 0, _ => rfl
 | n + 1, h => by
  have hl : n < s.data.toList.length := by rw [Array.length_toList]; exact h
  have hb : bt s (n : Int) = ((s.data.toList[n].toNat : Nat) : Int) := by
   rw [← bt_nat s n (by omega)]
   rfl
  rw [roomsS_succ, count_rooms s n (by omega), List.take_add_one, List.getElem?_eq_getElem hl, List.count_append, hb]
  congr 1
  by_cases e : s.data.toList[n] = 111
  ·rw [e]; rfl
  ·have : ¬ ((s.data.toList[n].toNat : Nat) : Int) = 111 := fun h2 => e (UInt8.toNat_inj.1 (by show _ = 111; omega))
   rw [if_neg this]
   symm
   show List.count 111 [s.data.toList[n]] = 0
   rw [List.count_eq_zero]
   intro hm
   rw [List.mem_singleton] at hm
   exact e hm.symm
theorem count_all (s : ByteArray) : Lib.countByte s.data.toList 111 = zbl s s.size := by
 rw [count_rooms s s.size (Nat.le_refl _)]
 unfold Lib.countByte
 rw [List.take_of_length_le (by rw [Array.length_toList]; exact Nat.le_refl _)]
def POfRes (w : World) (r : Option Tr) (e : Ending) (w' : World) : Prop :=
 ∃ q : Option Addr, e = .returned (.pointer q) ∧ Below w.heap.size w w' ∧ match r with
  | none => q = none
  | some t => ∃ p, q = some ⟨p, 0, none⟩ ∧ PtAt w' (fun _ => True) t p
set_option maxHeartbeats 400000 in
set_option maxRecDepth 100000 in
theorem termOf_calls (s : ByteArray) (hs : s.size ≤ 1048576) (w : World) : Calls Try.prog 22 #[.string s] w (POfRes w (ofR s)) := by
 have hrl := roomsS_le s s.size
 have HOf := zaa.mk (show ofR s = if 60 < s.size ∨ 7 < zbl s s.size then none else match rdR (s.size + 1) s 0 with
  | none => none
  | some (t, e) => if e = s.size then some t else none from rfl)
 have HCo := zaa.mk (fun w => countO_calls s w)
 rw [count_all] at HCo
 generalize zbl s s.size = rn at *
 by_cases hbig : 60 < s.size
 ·have d1 : (60 : Int) < (s.size : Int) := by omega
  have HR := zaa.mk (show ofR s = none by rw [HOf.out, if_pos (.inl hbig)])
  clear hbig
  go_enter Try.func22, Try.ntmps22
  go_wp2
  go_ret
  rw [HR.out]
  exact ⟨none, rfl, Below.refl _ _, rfl⟩
 ·have d1 : ¬ (60 : Int) < (s.size : Int) := by omega
  by_cases h7 : 7 < rn
  ·have d2 : (7 : Int) < (rn : Int) := by omega
   have HR := zaa.mk (show ofR s = none by rw [HOf.out, if_pos (.inr h7)])
   clear h7 hbig
   go_enter Try.func22, Try.ntmps22
   go_wp2_with (first
    | (go_at_call 37; refine (HCo.out _).mono ?_; rintro e w2 ⟨rfl, rfl⟩))
   go_ret
   rw [HR.out]
   exact ⟨none, rfl, Below.refl _ _, rfl⟩
  ·have d2 : ¬ (7 : Int) < (rn : Int) := by omega
   have hof := HOf.out
   rw [if_neg (fun h => h.elim hbig h7)] at hof
   clear HOf h7 hbig
   have HOf := zaa.mk hof
   clear hof
   go_enter Try.func22, Try.ntmps22
   go_upto_region 4 with (first
    | (go_at_call 37; refine (HCo.out _).mono ?_; rintro e w2 ⟨rfl, rfl⟩))
   have hI := zay.new w2 w2 s (Below.refl _ _)
   have hB := zab (Below.refl w2.heap.size w2) (.cells #[.string s] 60)
   generalize w2.alloc (.cells #[.string s] 60) = w3 at *
   obtain ⟨g, hg⟩ : ∃ g, g = w2.heap.size := ⟨_, rfl⟩
   rw [← hg] at hI ⊢
   have hI' : zay w2 w3 g (zch s 0) := by rw [restB_zero]; exact hI
   have HRd := zaa.mk (reader_calls s w2 g (s.size + 1) 0 w3 (by omega) (Nat.zero_le _) hI' hB)
   clear hI hB hg hI'
   go_upto_region 5 with (first
    | (go_at_call 38; refine HRd.out.mono ?_; rintro e w4 ⟨q, j, rfl, hle_, hls_, hI_, hB_, hK_, hres_⟩; have HLs := zaa.mk hls_; have HI4 := zaa.mk hI_; have HB4 := zaa.mk hB_; have HR4 := zaa.mk hres_; clear hle_ hls_ hI_ hB_ hK_ hres_))
   have x0 := cellS60_0 HI4.out.1
   have hz := restB_size s HLs.out
   have hres := HR4.out
   have hof := HOf.out
   clear HR4 HOf
   by_cases hj : j = s.size
   ·have t1 : ((zch s j).toList == ([] : List UInt8)) = true := by rw [beq_iff_eq, toList_nil]; omega
    have t2 : ((zch s j).toList != ([] : List UInt8)) = false := by rw [bne, t1]; rfl
    have HZ := zaa.mk hz
    clear hz
    generalize zch s j = rb at *
    go_wp2
    go_ret
    cases hrd : rdR (s.size + 1) s 0 with
    | none =>
     rw [hrd] at hres hof
     dsimp only at hres hof
     rw [hof]
     exact ⟨q, rfl, HB4.out, hres⟩
    | some te =>
     obtain ⟨t, e⟩ := te
     rw [hrd] at hres hof
     dsimp only at hres hof
     obtain ⟨hje, p, rfl, hP⟩ := hres
     rw [if_pos (by omega)] at hof
     rw [hof]
     exact ⟨_, rfl, HB4.out, p, rfl, PtAt.move (fun _ _ _ => rfl) (fun _ _ => trivial) t p hP⟩
   ·have t1 : ((zch s j).toList == ([] : List UInt8)) = false := by rw [beq_eq_false_iff_ne]; intro h; have := toList_nil.1 h; have := HLs.out; omega
    have t2 : ((zch s j).toList != ([] : List UInt8)) = true := by rw [bne, t1]; rfl
    have HZ := zaa.mk hz
    clear hz
    generalize zch s j = rb at *
    go_wp2
    go_ret
    have hn : ofR s = none := by
     rw [hof]
     cases hrd : rdR (s.size + 1) s 0 with
     | none => rfl
     | some te =>
      obtain ⟨t, e⟩ := te
      rw [hrd] at hres
      dsimp only at hres ⊢
      rw [if_neg (by omega)]
    rw [hn]
    exact ⟨none, rfl, HB4.out, rfl⟩
abbrev PtA (w : World) (t : Tr) (p : Nat) : Prop := PtAt w (fun _ => True) t p
theorem PtAt.drew {w : World} {ok : Nat → Prop} {t : Tr} {p : Nat} (h : PtAt w ok t p) : PtAt w.drew ok t p := PtAt.move (w := w) (w' := w.drew) (fun _ _ _ => rfl) (fun _ h => h) t p h
def PRes (w : World) (t : Tr) (e : Ending) (w' : World) : Prop := ∃ p, e = .returned (.pointer (some ⟨p, 0, none⟩)) ∧ Below w.heap.size w w' ∧ PtA w' t p
def sgC : Option Bool → Int
 | none => 0
 | some b => unC b
set_option maxHeartbeats 400000 in
set_option maxRecDepth 100000 in
theorem inward_calls : ∀ (n : Nat) (t : Tr), t.nodes ≤ n → ∀ (c : Option Bool) (sg : Int) (w : World) (p : Nat), sg = sgC c → PtA w t p →
  Calls Try.prog 39 #[.pointer (some ⟨p, 0, none⟩), .int .u8 sg] w (PRes w (inF c (tid t))) := by
 intro n
 induction n with
 | zero => intro t h; exact absurd h (by cases t <;> simp [Tr.nodes])
 | succ n ih =>
  intro t hn c sg w p hsg hP
  have HIh := zaa.mk ih
  clear ih
  cases t with
  | o =>
   obtain ⟨-, hk⟩ := hP
   have x0 : w.cell? ⟨p, 0, none⟩ = some (.int .u8 111) := (zad hk 0).trans rfl
   have HK := zaa.mk hk
   have HR := zaa.mk (show inF c (tid .o) = .o by cases c with
    | none => exact zcq _
    | some d => cases d <;> rfl)
   clear hk hsg
   go_enter Try.func39, Try.ntmps39
   go_wp2
   go_ret
   rw [HR.out]
   exact ⟨p, rfl, Below.refl _ _, trivial, HK.out⟩
  | un b t =>
   obtain ⟨-, q, k, hk, -, hk2, hPk⟩ := hP
   simp only [Tr.nodes] at hn
   have HN := zaa.mk (show t.nodes ≤ n by omega)
   have HU := zaa.mk (show unC b = sgC (some b) from rfl)
   have u1 : (unC b == 111) = false := by cases b <;> rfl
   generalize unC b = u at *
   have x0 : w.cell? ⟨p, 0, none⟩ = some (.int .u8 u) := (zad hk 0).trans rfl
   have x1 : w.cell? ⟨p, 1, none⟩ = some (.slice (some ⟨q, 0, none⟩) 1 1) := (zad hk 1).trans rfl
   have x2 : w.cell? ⟨q, 0, none⟩ = some (.pointer (some ⟨k, 0, none⟩)) := (zad hk2 0).trans rfl
   have HPk := zaa.mk hPk
   clear hk hk2 hPk hn
   go_enter Try.func39, Try.ntmps39
   go_upto_region 4 with (fail)
   refine start_ (n := 12) (S := fun w' => (w'.cell? ⟨p, 0, none⟩ = some (.int .u8 u)) ∧ (w'.cell? ⟨p, 1, none⟩ = some (.slice (some ⟨q, 0, none⟩) 1 1)) ∧ (w'.cell? ⟨q, 0, none⟩ = some (.pointer (some ⟨k, 0, none⟩))) ∧ (PtA w' t k) ∧ (Below w.heap.size w w')) (ds := []) #[false, false, false, false, false, false, false, false, false, false, false, false] (by kernel_rfl) rfl rfl (⟨x0, x1, x2, HPk.out.drew, zcd (Below.refl _ _)⟩) (fun hHeld => ?_)
   clear x0 x1 x2
   refine zbb (i := 0) (N := some 22) (v := ?_) (a' := ?_) #[true, false, false, false, false, false, false, false, false, false, false, false] rfl rfl (by kernel_rfl) (fun _ _ _ h => h) (Or.inl ⟨by rfl, ?_⟩) ?_ ?_
   rotate_left
   ·intro w'
    go_simp
    with_reducible rfl
   rotate_left
   ·simp only [Act.put, List.setIfInBounds_toArray, List.set_cons_zero, List.set_cons_succ, zas, zat]
    rfl
   refine zbb (i := 1) (N := some 23) (v := ?_) (a' := ?_) #[true, true, false, false, false, false, false, false, false, false, false, false] rfl rfl (by kernel_rfl) (fun _ _ _ h => h) (Or.inl ⟨by rfl, ?_⟩) ?_ ?_
   rotate_left
   ·intro w'
    go_simp
    with_reducible rfl
   rotate_left
   ·simp only [Act.put, List.setIfInBounds_toArray, List.set_cons_zero, List.set_cons_succ, zas, zat]
    rfl
   refine zbb (i := 2) (N := some 24) (v := ?_) (a' := ?_) #[true, true, true, false, false, false, false, false, false, false, false, false] rfl rfl (by kernel_rfl) (fun _ _ _ h => h) (Or.inl ⟨by rfl, ?_⟩) ?_ ?_
   rotate_left
   ·intro w'
    go_simp
    with_reducible rfl
   rotate_left
   ·simp only [Act.put, List.setIfInBounds_toArray, List.set_cons_zero, List.set_cons_succ, zas, zat]
    rfl
   refine take_ (i := 3) (N := some 25) (v := ?_) (a' := ?_) #[true, true, true, true, false, false, false, false, false, false, false, false] rfl rfl (by kernel_rfl) (fun _ _ _ h => h) (Or.inl ⟨by rfl, ?_⟩) hHeld ?_ ?_
   rotate_left
   ·rintro w' ⟨s0, s1, s2, s3, s4⟩
    go_simp
    with_reducible rfl
   rotate_left
   ·simp only [Act.put, List.setIfInBounds_toArray, List.set_cons_zero, List.set_cons_succ, zas, zat]
    rfl
   refine zbb (i := 4) (N := some 26) (v := ?_) (a' := ?_) #[true, true, true, true, true, false, false, false, false, false, false, false] rfl rfl (by kernel_rfl) (fun _ _ _ h => h) (Or.inl ⟨by rfl, ?_⟩) ?_ ?_
   rotate_left
   ·intro w'
    go_simp
    with_reducible rfl
   rotate_left
   ·simp only [Act.put, List.setIfInBounds_toArray, List.set_cons_zero, List.set_cons_succ, zas, zat]
    rfl
   refine take_ (i := 5) (N := some 27) (v := ?_) (a' := ?_) #[true, true, true, true, true, true, false, false, false, false, false, false] rfl rfl (by kernel_rfl) (fun _ _ _ h => h) (Or.inl ⟨by rfl, ?_⟩) hHeld ?_ ?_
   rotate_left
   ·rintro w' ⟨s0, s1, s2, s3, s4⟩
    go_simp
    with_reducible rfl
   rotate_left
   ·simp only [Act.put, List.setIfInBounds_toArray, List.set_cons_zero, List.set_cons_succ, zas, zat]
    rfl
   refine zbb (i := 6) (N := some 28) (v := ?_) (a' := ?_) #[true, true, true, true, true, true, true, false, false, false, false, false] rfl rfl (by kernel_rfl) (fun _ _ _ h => h) (Or.inl ⟨by rfl, ?_⟩) ?_ ?_
   rotate_left
   ·intro w'
    go_simp
    with_reducible rfl
   rotate_left
   ·simp only [Act.put, List.setIfInBounds_toArray, List.set_cons_zero, List.set_cons_succ, zas, zat]
    rfl
   refine zbb (i := 7) (N := some 29) (v := ?_) (a' := ?_) #[true, true, true, true, true, true, true, true, false, false, false, false] rfl rfl (by kernel_rfl) (fun _ _ _ h => h) (Or.inl ⟨by rfl, ?_⟩) ?_ ?_
   rotate_left
   ·intro w'
    go_simp
    with_reducible rfl
   rotate_left
   ·simp only [Act.put, List.setIfInBounds_toArray, List.set_cons_zero, List.set_cons_succ, zas, zat]
    rfl
   refine zbb (i := 8) (N := some 30) (v := ?_) (a' := ?_) #[true, true, true, true, true, true, true, true, true, false, false, false] rfl rfl (by kernel_rfl) (fun _ _ _ h => h) (Or.inl ⟨by rfl, ?_⟩) ?_ ?_
   rotate_left
   ·intro w'
    go_simp
    with_reducible rfl
   rotate_left
   ·simp only [Act.put, List.setIfInBounds_toArray, List.set_cons_zero, List.set_cons_succ, zas, zat]
    rfl
   refine take_ (i := 9) (N := some 31) (v := ?_) (a' := ?_) #[true, true, true, true, true, true, true, true, true, true, false, false] rfl rfl (by kernel_rfl) (fun _ _ _ h => h) (Or.inl ⟨by rfl, ?_⟩) hHeld ?_ ?_
   rotate_left
   ·rintro w' ⟨s0, s1, s2, s3, s4⟩
    go_simp
    with_reducible rfl
   rotate_left
   ·simp only [Act.put, List.setIfInBounds_toArray, List.set_cons_zero, List.set_cons_succ, zas, zat]
    rfl
   refine one_ (i := 10) (N := some 32) #[true, true, true, true, true, true, true, true, true, true, true, false] rfl rfl (by kernel_rfl) (by decide) (fun K hK => ?_)
   refine goes_ Try.func39 (by kernel_rfl) rfl #[.pointer (some ⟨k, 0, none⟩), .int .u8 u] (by rfl) rfl rfl (by (try simp only [List.map_toArray, List.map_cons, List.map_nil]); first | done | rfl) ?_
   have hs_ := hHeld
   obtain ⟨s0, s1, s2, s3, s4⟩ := hs_
   refine (HIh.out t HN.out (some b) u _ k HU.out s3).mono ?_
   rintro e w3 ⟨m, rfl, hb, hP⟩
   have HB3 := zaa.mk (zae s4 hb)
   have HP3 := zaa.mk hP
   clear hP
   refine ⟨_, rfl, ?_⟩
   refine hK.out _ _ ⟨zai hb s0, zai hb s1, zai hb s2, PtAt.below s3 hb, zae s4 hb⟩ (fun hHeld => ?_)
   clear hK K hb s0 s1 s2 s3 s4
   refine norm_ (a' := ?_) ?_ ?_
   rotate_left
   ·show Act.put _ (some 32) _ = _
    simp only [Act.put, List.setIfInBounds_toArray, List.set_cons_zero, List.set_cons_succ, zas, zat]
    rfl
   refine zbb (i := 11) (N := some 5) (v := ?_) (a' := ?_) #[true, true, true, true, true, true, true, true, true, true, true, true] rfl rfl (by kernel_rfl) (fun _ _ _ h => h) (Or.inl ⟨by rfl, ?_⟩) ?_ ?_
   rotate_left
   ·intro w'
    go_simp
    with_reducible rfl
   rotate_left
   ·simp only [Act.put, List.setIfInBounds_toArray, List.set_cons_zero, List.set_cons_succ, zas, zat]
    rfl
   refine done_ (by kernel_rfl) ?_
   have HId := zaa.mk (show inF (some b) (tid t) = tid (.un b t) from rfl)
   cases c with
   | none =>
    have hsg0 : sg = 0 := hsg
    subst hsg0
    clear hsg
    go_wp2
    go_ret
    rw [zcq]
    exact ⟨m, rfl, HB3.out, HP3.out⟩
   | some d =>
    have HS := zaa.mk hsg
    have v1 : (sg == 0) = false := by rw [hsg]; cases d <;> rfl
    clear hsg
    have HN2 := zaa.mk (show (inF (some b) (tid t)).nodes ≤ n by have h := HN.out; have := zcm t; rw [zbm]; omega)
    go_wp2_with (first
     | (go_at_call 39; refine (HIh.out _ HN2.out (some d) sg _ m HS.out HP3.out).mono ?_; rintro e w5 ⟨m2, rfl, hb, hP⟩; have HB5 := zaa.mk (zae HB3.out hb); have HP5 := zaa.mk hP; clear hb hP))
    go_ret
    have h := HP5.out
    rw [tid_self _ (zcb _ _ (zcf t))] at h
    exact ⟨m2, rfl, HB5.out, h⟩
  | bin b x y =>
   obtain ⟨-, q, k, l, hk, -, hk2, hPk, hPl⟩ := hP
   simp only [Tr.nodes] at hn
   have HN := zaa.mk (show x.nodes ≤ n ∧ y.nodes ≤ n by omega)
   have HS := zaa.mk hsg
   have HB := zaa.mk (show binC b = binC b from rfl)
   have u1 : (binC b == 111) = false := by cases b <;> rfl
   have HU := zaa.mk (show ∃ u, u = binC b from ⟨_, rfl⟩)
   obtain ⟨u, hu⟩ := HU.out
   rw [← hu] at hk u1
   have HUu := zaa.mk hu
   clear HU HB hu
   have x0 : w.cell? ⟨p, 0, none⟩ = some (.int .u8 u) := (zad hk 0).trans rfl
   have x1 : w.cell? ⟨p, 1, none⟩ = some (.slice (some ⟨q, 0, none⟩) 2 2) := (zad hk 1).trans rfl
   have x2 : w.cell? ⟨q, 0, none⟩ = some (.pointer (some ⟨k, 0, none⟩)) := (zad hk2 0).trans rfl
   have x3 : w.cell? ⟨q, 1, none⟩ = some (.pointer (some ⟨l, 0, none⟩)) := (zad hk2 1).trans rfl
   have HPk := zaa.mk hPk
   have HPl := zaa.mk hPl
   have HX0 := zaa.mk x0
   clear hk hk2 hPk hPl hn hsg
   go_enter Try.func39, Try.ntmps39
   go_upto_region 8 with (fail)
   refine start_ (n := 18) (S := fun w' => (w'.cell? ⟨p, 1, none⟩ = some (.slice (some ⟨q, 0, none⟩) 2 2)) ∧ (w'.cell? ⟨q, 0, none⟩ = some (.pointer (some ⟨k, 0, none⟩))) ∧ (w'.cell? ⟨q, 1, none⟩ = some (.pointer (some ⟨l, 0, none⟩))) ∧ (PtA w' x k) ∧ (PtA w' y l) ∧ (Below w.heap.size w w')) (ds := []) #[false, false, false, false, false, false, false, false, false, false, false, false, false, false, false, false, false, false] (by kernel_rfl) rfl rfl (⟨x1, x2, x3, HPk.out.drew, HPl.out.drew, zcd (Below.refl _ _)⟩) (fun hHeld => ?_)
   clear x0 x1 x2 x3
   refine zbb (i := 0) (N := some 39) (v := ?_) (a' := ?_) #[true, false, false, false, false, false, false, false, false, false, false, false, false, false, false, false, false, false] rfl rfl (by kernel_rfl) (fun _ _ _ h => h) (Or.inl ⟨by rfl, ?_⟩) ?_ ?_
   rotate_left
   ·intro w'
    go_simp
    with_reducible rfl
   rotate_left
   ·simp only [Act.put, List.setIfInBounds_toArray, List.set_cons_zero, List.set_cons_succ, zas, zat]
    rfl
   refine zbb (i := 1) (N := some 40) (v := ?_) (a' := ?_) #[true, true, false, false, false, false, false, false, false, false, false, false, false, false, false, false, false, false] rfl rfl (by kernel_rfl) (fun _ _ _ h => h) (Or.inl ⟨by rfl, ?_⟩) ?_ ?_
   rotate_left
   ·intro w'
    go_simp
    with_reducible rfl
   rotate_left
   ·simp only [Act.put, List.setIfInBounds_toArray, List.set_cons_zero, List.set_cons_succ, zas, zat]
    rfl
   refine zbb (i := 2) (N := some 41) (v := ?_) (a' := ?_) #[true, true, true, false, false, false, false, false, false, false, false, false, false, false, false, false, false, false] rfl rfl (by kernel_rfl) (fun _ _ _ h => h) (Or.inl ⟨by rfl, ?_⟩) ?_ ?_
   rotate_left
   ·intro w'
    go_simp
    with_reducible rfl
   rotate_left
   ·simp only [Act.put, List.setIfInBounds_toArray, List.set_cons_zero, List.set_cons_succ, zas, zat]
    rfl
   refine take_ (i := 3) (N := some 42) (v := ?_) (a' := ?_) #[true, true, true, true, false, false, false, false, false, false, false, false, false, false, false, false, false, false] rfl rfl (by kernel_rfl) (fun _ _ _ h => h) (Or.inl ⟨by rfl, ?_⟩) hHeld ?_ ?_
   rotate_left
   ·rintro w' ⟨s0, s1, s2, s3, s4, s5⟩
    go_simp
    with_reducible rfl
   rotate_left
   ·simp only [Act.put, List.setIfInBounds_toArray, List.set_cons_zero, List.set_cons_succ, zas, zat]
    rfl
   refine zbb (i := 4) (N := some 43) (v := ?_) (a' := ?_) #[true, true, true, true, true, false, false, false, false, false, false, false, false, false, false, false, false, false] rfl rfl (by kernel_rfl) (fun _ _ _ h => h) (Or.inl ⟨by rfl, ?_⟩) ?_ ?_
   rotate_left
   ·intro w'
    go_simp
    with_reducible rfl
   rotate_left
   ·simp only [Act.put, List.setIfInBounds_toArray, List.set_cons_zero, List.set_cons_succ, zas, zat]
    rfl
   refine take_ (i := 5) (N := some 44) (v := ?_) (a' := ?_) #[true, true, true, true, true, true, false, false, false, false, false, false, false, false, false, false, false, false] rfl rfl (by kernel_rfl) (fun _ _ _ h => h) (Or.inl ⟨by rfl, ?_⟩) hHeld ?_ ?_
   rotate_left
   ·rintro w' ⟨s0, s1, s2, s3, s4, s5⟩
    go_simp
    with_reducible rfl
   rotate_left
   ·simp only [Act.put, List.setIfInBounds_toArray, List.set_cons_zero, List.set_cons_succ, zas, zat]
    rfl
   refine zbb (i := 6) (N := some 45) (v := ?_) (a' := ?_) #[true, true, true, true, true, true, true, false, false, false, false, false, false, false, false, false, false, false] rfl rfl (by kernel_rfl) (fun _ _ _ h => h) (Or.inl ⟨by rfl, ?_⟩) ?_ ?_
   rotate_left
   ·intro w'
    go_simp
    with_reducible rfl
   rotate_left
   ·simp only [Act.put, List.setIfInBounds_toArray, List.set_cons_zero, List.set_cons_succ, zas, zat]
    rfl
   refine zbb (i := 8) (N := some 47) (v := ?_) (a' := ?_) #[true, true, true, true, true, true, true, false, true, false, false, false, false, false, false, false, false, false] rfl rfl (by kernel_rfl) (fun _ _ _ h => h) (Or.inl ⟨by rfl, ?_⟩) ?_ ?_
   rotate_left
   ·intro w'
    go_simp
    with_reducible rfl
   rotate_left
   ·simp only [Act.put, List.setIfInBounds_toArray, List.set_cons_zero, List.set_cons_succ, zas, zat]
    rfl
   refine zbb (i := 9) (N := some 48) (v := ?_) (a' := ?_) #[true, true, true, true, true, true, true, false, true, true, false, false, false, false, false, false, false, false] rfl rfl (by kernel_rfl) (fun _ _ _ h => h) (Or.inl ⟨by rfl, ?_⟩) ?_ ?_
   rotate_left
   ·intro w'
    go_simp
    with_reducible rfl
   rotate_left
   ·simp only [Act.put, List.setIfInBounds_toArray, List.set_cons_zero, List.set_cons_succ, zas, zat]
    rfl
   refine zbb (i := 10) (N := some 49) (v := ?_) (a' := ?_) #[true, true, true, true, true, true, true, false, true, true, true, false, false, false, false, false, false, false] rfl rfl (by kernel_rfl) (fun _ _ _ h => h) (Or.inl ⟨by rfl, ?_⟩) ?_ ?_
   rotate_left
   ·intro w'
    go_simp
    with_reducible rfl
   rotate_left
   ·simp only [Act.put, List.setIfInBounds_toArray, List.set_cons_zero, List.set_cons_succ, zas, zat]
    rfl
   refine take_ (i := 11) (N := some 50) (v := ?_) (a' := ?_) #[true, true, true, true, true, true, true, false, true, true, true, true, false, false, false, false, false, false] rfl rfl (by kernel_rfl) (fun _ _ _ h => h) (Or.inl ⟨by rfl, ?_⟩) hHeld ?_ ?_
   rotate_left
   ·rintro w' ⟨s0, s1, s2, s3, s4, s5⟩
    go_simp
    with_reducible rfl
   rotate_left
   ·simp only [Act.put, List.setIfInBounds_toArray, List.set_cons_zero, List.set_cons_succ, zas, zat]
    rfl
   refine zbb (i := 12) (N := some 51) (v := ?_) (a' := ?_) #[true, true, true, true, true, true, true, false, true, true, true, true, true, false, false, false, false, false] rfl rfl (by kernel_rfl) (fun _ _ _ h => h) (Or.inl ⟨by rfl, ?_⟩) ?_ ?_
   rotate_left
   ·intro w'
    go_simp
    with_reducible rfl
   rotate_left
   ·simp only [Act.put, List.setIfInBounds_toArray, List.set_cons_zero, List.set_cons_succ, zas, zat]
    rfl
   refine take_ (i := 13) (N := some 52) (v := ?_) (a' := ?_) #[true, true, true, true, true, true, true, false, true, true, true, true, true, true, false, false, false, false] rfl rfl (by kernel_rfl) (fun _ _ _ h => h) (Or.inl ⟨by rfl, ?_⟩) hHeld ?_ ?_
   rotate_left
   ·rintro w' ⟨s0, s1, s2, s3, s4, s5⟩
    go_simp
    with_reducible rfl
   rotate_left
   ·simp only [Act.put, List.setIfInBounds_toArray, List.set_cons_zero, List.set_cons_succ, zas, zat]
    rfl
   refine zbb (i := 14) (N := some 53) (v := ?_) (a' := ?_) #[true, true, true, true, true, true, true, false, true, true, true, true, true, true, true, false, false, false] rfl rfl (by kernel_rfl) (fun _ _ _ h => h) (Or.inl ⟨by rfl, ?_⟩) ?_ ?_
   rotate_left
   ·intro w'
    go_simp
    with_reducible rfl
   rotate_left
   ·simp only [Act.put, List.setIfInBounds_toArray, List.set_cons_zero, List.set_cons_succ, zas, zat]
    rfl
   refine one_ (i := 7) (N := some 46) #[true, true, true, true, true, true, true, true, true, true, true, true, true, true, true, false, false, false] rfl rfl (by kernel_rfl) (by decide) (fun K hK => ?_)
   refine goes_ Try.func39 (by kernel_rfl) rfl #[.pointer (some ⟨k, 0, none⟩), .int .u8 sg] (by rfl) rfl rfl (by (try simp only [List.map_toArray, List.map_cons, List.map_nil]); first | done | rfl) ?_
   have hs_ := hHeld
   obtain ⟨s0, s1, s2, s3, s4, s5⟩ := hs_
   refine (HIh.out x HN.out.1 c sg _ k HS.out s3).mono ?_
   rintro e w2 ⟨m1, rfl, hb, hP⟩
   have HQ1 := zaa.mk hP
   clear hP
   refine ⟨_, rfl, ?_⟩
   refine hK.out _ _ ⟨zai hb s0, zai hb s1, zai hb s2, PtAt.below s3 hb, PtAt.below s4 hb, zae s5 hb⟩ (fun hHeld => ?_)
   clear hK K hb s0 s1 s2 s3 s4 s5
   refine norm_ (a' := ?_) ?_ ?_
   rotate_left
   ·show Act.put _ (some 46) _ = _
    simp only [Act.put, List.setIfInBounds_toArray, List.set_cons_zero, List.set_cons_succ, zas, zat]
    rfl
   refine one_ (i := 15) (N := some 54) #[true, true, true, true, true, true, true, true, true, true, true, true, true, true, true, true, false, false] rfl rfl (by kernel_rfl) (by decide) (fun K hK => ?_)
   refine goes_ Try.func39 (by kernel_rfl) rfl #[.pointer (some ⟨l, 0, none⟩), .int .u8 sg] (by rfl) rfl rfl (by (try simp only [List.map_toArray, List.map_cons, List.map_nil]); first | done | rfl) ?_
   have hs_ := hHeld
   obtain ⟨s0, s1, s2, s3, s4, s5⟩ := hs_
   refine (HIh.out y HN.out.2 c sg _ l HS.out s4).mono ?_
   rintro e w3 ⟨m2, rfl, hb, hP⟩
   have HP1 := zaa.mk (HQ1.out.below hb)
   have HP2 := zaa.mk hP
   have HB3 := zaa.mk (zae s5 hb)
   clear hP
   refine ⟨_, rfl, ?_⟩
   refine hK.out _ _ ⟨zai hb s0, zai hb s1, zai hb s2, PtAt.below s3 hb, PtAt.below s4 hb, zae s5 hb⟩ (fun hHeld => ?_)
   clear hK K hb s0 s1 s2 s3 s4 s5
   refine norm_ (a' := ?_) ?_ ?_
   rotate_left
   ·show Act.put _ (some 54) _ = _
    simp only [Act.put, List.setIfInBounds_toArray, List.set_cons_zero, List.set_cons_succ, zas, zat]
    rfl
   refine zbb (i := 16) (N := some 6) (v := ?_) (a' := ?_) #[true, true, true, true, true, true, true, true, true, true, true, true, true, true, true, true, true, false] rfl rfl (by kernel_rfl) (fun _ _ _ h => h) (Or.inl ⟨by rfl, ?_⟩) ?_ ?_
   rotate_left
   ·intro w'
    go_simp
    with_reducible rfl
   rotate_left
   ·simp only [Act.put, List.setIfInBounds_toArray, List.set_cons_zero, List.set_cons_succ, zas, zat]
    rfl
   refine zbb (i := 17) (N := some 7) (v := ?_) (a' := ?_) #[true, true, true, true, true, true, true, true, true, true, true, true, true, true, true, true, true, true] rfl rfl (by kernel_rfl) (fun _ _ _ h => h) (Or.inl ⟨by rfl, ?_⟩) ?_ ?_
   rotate_left
   ·intro w'
    go_simp
    with_reducible rfl
   rotate_left
   ·simp only [Act.put, List.setIfInBounds_toArray, List.set_cons_zero, List.set_cons_succ, zas, zat]
    rfl
   refine done_ (by kernel_rfl) ?_
   have x0 := zai HB3.out HX0.out
   have hu := HUu.out
   have hsg := HS.out
   clear HUu HS
   cases b with
   | true =>
    replace hu : u = 124 := hu
    subst hu
    cases c with
    | none =>
     replace hsg : sg = 0 := hsg
     subst hsg
     go_wp2
     have hb := zab (zab (Below.refl w3.heap.size w3) (.cells #[.pointer (some ⟨m1, 0, none⟩), .pointer (some ⟨m2, 0, none⟩)] 43)) (.cells #[.int .u8 124, .slice (some ⟨w3.heap.size, 0, none⟩) 2 2] 64)
     have hk1 := heap_alloc2_old w3 (.cells #[.pointer (some ⟨m1, 0, none⟩), .pointer (some ⟨m2, 0, none⟩)] 43) (.cells #[.int .u8 124, .slice (some ⟨w3.heap.size, 0, none⟩) 2 2] 64)
     have hk2 := heap_alloc2_new w3 (.cells #[.pointer (some ⟨m1, 0, none⟩), .pointer (some ⟨m2, 0, none⟩)] 43) (.cells #[.int .u8 124, .slice (some ⟨w3.heap.size, 0, none⟩) 2 2] 64)
     generalize (w3.alloc (.cells #[.pointer (some ⟨m1, 0, none⟩), .pointer (some ⟨m2, 0, none⟩)] 43)).alloc (.cells #[.int .u8 124, .slice (some ⟨w3.heap.size, 0, none⟩) 2 2] 64) = wz at *
     have h1 := HP1.out.below hb
     have h2 := HP2.out.below hb
     rw [zcq] at h1 h2
     go_ret
     exact ⟨_, rfl, zae HB3.out hb, trivial, w3.heap.size, m1, m2, hk2, trivial, hk1, h1, h2⟩
    | some d =>
     cases d with
     | true =>
      replace hsg : sg = 62 := hsg
      subst hsg
      go_wp2
      have hb := zab (zab (Below.refl w3.heap.size w3) (.cells #[.pointer (some ⟨m1, 0, none⟩), .pointer (some ⟨m2, 0, none⟩)] 43)) (.cells #[.int .u8 45, .slice (some ⟨w3.heap.size, 0, none⟩) 2 2] 64)
      have hk1 := heap_alloc2_old w3 (.cells #[.pointer (some ⟨m1, 0, none⟩), .pointer (some ⟨m2, 0, none⟩)] 43) (.cells #[.int .u8 45, .slice (some ⟨w3.heap.size, 0, none⟩) 2 2] 64)
      have hk2 := heap_alloc2_new w3 (.cells #[.pointer (some ⟨m1, 0, none⟩), .pointer (some ⟨m2, 0, none⟩)] 43) (.cells #[.int .u8 45, .slice (some ⟨w3.heap.size, 0, none⟩) 2 2] 64)
      generalize (w3.alloc (.cells #[.pointer (some ⟨m1, 0, none⟩), .pointer (some ⟨m2, 0, none⟩)] 43)).alloc (.cells #[.int .u8 45, .slice (some ⟨w3.heap.size, 0, none⟩) 2 2] 64) = wz at *
      have h1 := HP1.out.below hb
      have h2 := HP2.out.below hb
      go_ret
      exact ⟨_, rfl, zae HB3.out hb, trivial, w3.heap.size, m1, m2, hk2, trivial, hk1, h1, h2⟩
     | false =>
      replace hsg : sg = 94 := hsg
      subst hsg
      go_wp2
      have hb := zab (zab (Below.refl w3.heap.size w3) (.cells #[.pointer (some ⟨m2, 0, none⟩), .pointer (some ⟨m1, 0, none⟩)] 43)) (.cells #[.int .u8 124, .slice (some ⟨w3.heap.size, 0, none⟩) 2 2] 64)
      have hk1 := heap_alloc2_old w3 (.cells #[.pointer (some ⟨m2, 0, none⟩), .pointer (some ⟨m1, 0, none⟩)] 43) (.cells #[.int .u8 124, .slice (some ⟨w3.heap.size, 0, none⟩) 2 2] 64)
      have hk2 := heap_alloc2_new w3 (.cells #[.pointer (some ⟨m2, 0, none⟩), .pointer (some ⟨m1, 0, none⟩)] 43) (.cells #[.int .u8 124, .slice (some ⟨w3.heap.size, 0, none⟩) 2 2] 64)
      generalize (w3.alloc (.cells #[.pointer (some ⟨m2, 0, none⟩), .pointer (some ⟨m1, 0, none⟩)] 43)).alloc (.cells #[.int .u8 124, .slice (some ⟨w3.heap.size, 0, none⟩) 2 2] 64) = wz at *
      have h1 := HP2.out.below hb
      have h2 := HP1.out.below hb
      go_ret
      exact ⟨_, rfl, zae HB3.out hb, trivial, w3.heap.size, m2, m1, hk2, trivial, hk1, h1, h2⟩
   | false =>
    replace hu : u = 45 := hu
    subst hu
    cases c with
    | none =>
     replace hsg : sg = 0 := hsg
     subst hsg
     go_wp2
     have hb := zab (zab (Below.refl w3.heap.size w3) (.cells #[.pointer (some ⟨m1, 0, none⟩), .pointer (some ⟨m2, 0, none⟩)] 43)) (.cells #[.int .u8 45, .slice (some ⟨w3.heap.size, 0, none⟩) 2 2] 64)
     have hk1 := heap_alloc2_old w3 (.cells #[.pointer (some ⟨m1, 0, none⟩), .pointer (some ⟨m2, 0, none⟩)] 43) (.cells #[.int .u8 45, .slice (some ⟨w3.heap.size, 0, none⟩) 2 2] 64)
     have hk2 := heap_alloc2_new w3 (.cells #[.pointer (some ⟨m1, 0, none⟩), .pointer (some ⟨m2, 0, none⟩)] 43) (.cells #[.int .u8 45, .slice (some ⟨w3.heap.size, 0, none⟩) 2 2] 64)
     generalize (w3.alloc (.cells #[.pointer (some ⟨m1, 0, none⟩), .pointer (some ⟨m2, 0, none⟩)] 43)).alloc (.cells #[.int .u8 45, .slice (some ⟨w3.heap.size, 0, none⟩) 2 2] 64) = wz at *
     have h1 := HP1.out.below hb
     have h2 := HP2.out.below hb
     rw [zcq] at h1 h2
     go_ret
     exact ⟨_, rfl, zae HB3.out hb, trivial, w3.heap.size, m1, m2, hk2, trivial, hk1, h1, h2⟩
    | some d =>
     cases d with
     | true =>
      replace hsg : sg = 62 := hsg
      subst hsg
      go_wp2
      have hb := zab (zab (Below.refl w3.heap.size w3) (.cells #[.pointer (some ⟨m2, 0, none⟩), .pointer (some ⟨m1, 0, none⟩)] 43)) (.cells #[.int .u8 124, .slice (some ⟨w3.heap.size, 0, none⟩) 2 2] 64)
      have hk1 := heap_alloc2_old w3 (.cells #[.pointer (some ⟨m2, 0, none⟩), .pointer (some ⟨m1, 0, none⟩)] 43) (.cells #[.int .u8 124, .slice (some ⟨w3.heap.size, 0, none⟩) 2 2] 64)
      have hk2 := heap_alloc2_new w3 (.cells #[.pointer (some ⟨m2, 0, none⟩), .pointer (some ⟨m1, 0, none⟩)] 43) (.cells #[.int .u8 124, .slice (some ⟨w3.heap.size, 0, none⟩) 2 2] 64)
      generalize (w3.alloc (.cells #[.pointer (some ⟨m2, 0, none⟩), .pointer (some ⟨m1, 0, none⟩)] 43)).alloc (.cells #[.int .u8 124, .slice (some ⟨w3.heap.size, 0, none⟩) 2 2] 64) = wz at *
      have h1 := HP2.out.below hb
      have h2 := HP1.out.below hb
      go_ret
      exact ⟨_, rfl, zae HB3.out hb, trivial, w3.heap.size, m2, m1, hk2, trivial, hk1, h1, h2⟩
     | false =>
      replace hsg : sg = 94 := hsg
      subst hsg
      go_wp2
      have hb := zab (zab (Below.refl w3.heap.size w3) (.cells #[.pointer (some ⟨m1, 0, none⟩), .pointer (some ⟨m2, 0, none⟩)] 43)) (.cells #[.int .u8 45, .slice (some ⟨w3.heap.size, 0, none⟩) 2 2] 64)
      have hk1 := heap_alloc2_old w3 (.cells #[.pointer (some ⟨m1, 0, none⟩), .pointer (some ⟨m2, 0, none⟩)] 43) (.cells #[.int .u8 45, .slice (some ⟨w3.heap.size, 0, none⟩) 2 2] 64)
      have hk2 := heap_alloc2_new w3 (.cells #[.pointer (some ⟨m1, 0, none⟩), .pointer (some ⟨m2, 0, none⟩)] 43) (.cells #[.int .u8 45, .slice (some ⟨w3.heap.size, 0, none⟩) 2 2] 64)
      generalize (w3.alloc (.cells #[.pointer (some ⟨m1, 0, none⟩), .pointer (some ⟨m2, 0, none⟩)] 43)).alloc (.cells #[.int .u8 45, .slice (some ⟨w3.heap.size, 0, none⟩) 2 2] 64) = wz at *
      have h1 := HP1.out.below hb
      have h2 := HP2.out.below hb
      go_ret
      exact ⟨_, rfl, zae HB3.out hb, trivial, w3.heap.size, m1, m2, hk2, trivial, hk1, h1, h2⟩
set_option maxHeartbeats 400000 in
set_option maxRecDepth 100000 in
theorem tidy_calls (t : Tr) (w : World) (p : Nat) (hP : PtA w t p) : Calls Try.prog 23 #[.pointer (some ⟨p, 0, none⟩)] w (PRes w (tid t)) := by
 have HI := zaa.mk (inward_calls t.nodes t (Nat.le_refl _) none 0 w p rfl hP)
 rw [zcq] at HI
 clear hP
 go_enter Try.func23, Try.ntmps23
 go_wp2_with (first
  | (go_at_call 39; refine HI.out.mono ?_; rintro e w2 ⟨m, rfl, hb, hP⟩; have HB2 := zaa.mk hb; have HP2 := zaa.mk hP; clear hb hP))
 go_ret
 exact ⟨m, rfl, HB2.out, HP2.out⟩
theorem C_intT_cell {k : IntKind} {w : World} {A : Option Addr} {n : Nat} {l : List Int} (h : (Kd.int k).C w A n l) (i : Nat) (hi : i < n) : ∃ ad, A = some ad ∧ w.cell? (ad.add i) = some (.int k (rd l (i : Int))) := by
 obtain ⟨ad, c, e1, hc, hK, hx⟩ := Kd.C_get h (0 : Int) (i : Int) (by omega) (by omega)
 subst e1
 exact ⟨ad, rfl, by have := Kd.foot_int h (i : Int) (by omega) (by omega); simpa using this⟩
set_option maxHeartbeats 2000000 in
set_option maxRecDepth 100000 in
theorem cloneT_calls (A : Option Addr) (c : Nat) (xs : List Int) (w : World) (hC : (Kd.int .i64).C w A xs.length xs) (h0 : 0 < xs.length) (h6 : xs.length ≤ 1048576) :
  Calls Try.prog 51 #[.slice A xs.length c] w fun e w' => ∃ v', e = .returned v' ∧ Kd.R (Kd.int .i64) 3 w' w.heap.size (fun _ => True) v' xs ∧ Below w.heap.size w w' := by
 obtain ⟨ad, rfl, -⟩ := hC.2.2 h0
 have i3 : (Try.prog.info? 3).map (fun i => (i.zero, i.size, i.bytes)) = some (some (.int .i64 0), 1, 8) := by kernel_rfl
 obtain ⟨i0, hi, hzz⟩ := Option.map_eq_some_iff.1 i3
 simp only [Prod.mk.injEq] at hzz
 obtain ⟨hz0, hz1, hz2⟩ := hzz
 have HC := zaa.mk hC
 have H6 := zaa.mk h6
 have H0 := zaa.mk h0
 have HI := zaa.mk hi
 have HZ0 := zaa.mk hz0
 have HZ1 := zaa.mk hz1
 have HZ2 := zaa.mk hz2
 clear hC h6 h0 i3 hi hz0 hz1 hz2
 have q22 : ∀ (w : World) (a : Option Addr) (n c n' c' : Nat), (binOp .eql 22 (.slice a n c) (.slice none n' c')).run Try.prog w = .ok (.bool a.isNone) w := fun w a n c n' c' => Lib.run_eql_slice_nil w _ _ a n c n' c' Try.underlying22
 go_enter Try.func51, Try.ntmps51
 go_wp2_with (at_builtin; refine wpList_append_own _ rfl _ _ 22 rfl w.heap.size 3 i0 (.int .i64 0) 1 8 Try.underlying22 HI.out HZ0.out HZ1.out HZ2.out rfl (by decide) _ _ _ rfl (World.ownsRow_made w #[] 0 (Nat.le_refl _) (Nat.zero_le _) rfl) ad xs.length c (encs (Value.int .i64) xs) rfl ?qc1 ?qc2 ?qc3 ?qc4 ?qc5 ?qc6 ?_)
 case qc1 => rw [zcr, Nat.mul_one]
 case qc2 =>
  intro j u hj
  have hjn : j < xs.length := by
   have := (List.getElem?_eq_some_iff.1 hj).1
   rwa [zcr] at this
  obtain ⟨ad', e1, hx⟩ := C_intT_cell HC.out j hjn
  cases e1
  refine Lib.cell?_alloc_some _ ?_
  rw [hx]
  have e2 : (encs (Value.int .i64) xs)[j]? = some (Value.int .i64 (rd xs (j : Int))) := by
   unfold rd
   simp [encs, List.getD, hjn, List.getElem?_eq_getElem hjn]
  rw [e2] at hj
  exact hj
 case qc3 => intro u hu; obtain ⟨x, _, rfl⟩ := List.mem_map.1 hu; rfl
 case qc4 => have := H6.out; unfold maxLen; omega
 case qc5 => have := H6.out; omega
 case qc6 => simp
 intro v' w1 hown hgrow hnil
 have HO := zaa.mk hown
 have HG := zaa.mk hgrow
 clear hown hgrow hnil
 go_wp2
 go_ret
 refine ⟨v', rfl, Kd.R_of_own (by simpa using HO.out) (fun _ _ => trivial), ?_⟩
 exact ((Below.refl _ w).alloc (Nat.le_refl _) _).grown HG.out (by simp) (by intro k hk; simp [Value.ownBlock] at hk; omega)
def slices_Clone_int_int.f (l0 : List Int) : Option (List Int) := if 0 < l0.length ∧ l0.length ≤ 1048576 then some l0 else none
theorem slices_Clone_int_int.calls (A0 : Option Addr) (c0 : Nat) (l0 : List Int) (r : List Int) (w : World) (hr0 : Kd.C (Kd.int .i64) w A0 l0.length l0) (hc0 : l0.length ≤ c0) (h : slices_Clone_int_int.f l0 = some r) :
  Calls Try.prog 51 #[.slice A0 l0.length c0] w fun e w' => ∃ v0_ : Value, e = .returned (v0_) ∧ Kd.R (Kd.int .i64) 3 w' w.heap.size (fun _ => True) v0_ r ∧ Below w.heap.size w w' := by
 unfold slices_Clone_int_int.f at h
 split at h
 ·rename_i hs
  have e := Option.some.inj h
  rw [← e]
  exact cloneT_calls A0 c0 l0 w hr0 hs.1 hs.2
 ·cases h
set_option maxHeartbeats 2000000 in
set_option maxRecDepth 100000 in
theorem growT_calls (n : Nat) (h1 : 1 ≤ n) (hn : n ≤ 1000) (w : World) : Calls Try.prog 50 #[.slice none 0 0, .int .i64 (n : Int)] w fun e w' => ∃ v', e = .returned v' ∧ Kd.R (Kd.int .i64) 3 w' w.heap.size (fun _ => True) v' [] ∧ Below w.heap.size w w' := by
 have n0 : (0 : Int) < (n : Int) := by omega
 have n1 : ¬ (n : Int) < 0 := by omega
 have HN := zaa.mk hn
 go_enter Try.func50, Try.ntmps50
 go_wp2_with (first
  | ((with_reducible refine zbo (b := .append) (xs := #[.tmp 20, .tmp 21]) rfl ?_); at_builtin; refine Kd.R_append_zeros (Kd.int .i64) (w0 := w) w.heap.size rfl (.tmp 20) (.tmp 21) 22 3 3 (.int .i64 0) 8 rfl Try.underlying22 Try.underlying3 (by kernel_rfl) rfl (by decide) (by decide) (.slice none 0 0) [] 0 (n : Int) (fun _ => True) rfl rfl (by rfl) (fun _ _ => trivial) (Kd.R_nil _ _ _ _ _) (by omega) (Below.refl _ _) (Nat.le_refl _) (by have := HN.out; simp; omega) ?_; intro v1 w1 hr hb hg hat; obtain ⟨A1, c1, e1⟩ := Kd.R_slice hr; subst e1; have HR1 := zaa.mk hr; have HB1 := zaa.mk hb; clear hr hb hg hat))
 go_ret
 exact ⟨_, rfl, by have h := Kd.R_take HR1.out (m := 0) (Nat.zero_le _); simpa using h, HB1.out⟩
end Go.Proofs.Ytgiidlebnjbgeaa.Hd
namespace Go.Proofs.Ytgiidlebnjbgeaa.TR
open Go.Proofs.Ytgiidlebnjbgeaa.PB Go.Proofs.Ytgiidlebnjbgeaa.Hd
open Go.RowKit Go.PW.PrintWords Go.PW.PrintLast Go.PW.PrintMore
attribute [local go_sem] zbw zbu zcl zck zbh zbg zbv zbt   -- for this text's walks alone
def errW : Option Int → Value
 | none => .nilIface
 | some c => .iface 0 (.int .i64 c)
theorem zam : errW none = .nilIface := rfl
theorem zal (c : Int) : errW (some c) = .iface 0 (.int .i64 c) := rfl
end Go.Proofs.Ytgiidlebnjbgeaa.TR
namespace Go.Proofs.Ytgiidlebnjbgeaa.TR
open Go.Proofs.Ytgiidlebnjbgeaa.PB Go.Proofs.Ytgiidlebnjbgeaa.Hd
open Go.RowKit Go.PW.PrintWords Go.PW.PrintLast Go.PW.PrintMore
attribute [local go_sem] zbw zbu zcl zck zbh zbg zbv zbt   -- for this text's walks alone
def impl_raised.l0 : Nat → Int → List Int → Int → Int → Option (List Int)
 | 0, _, _, _, _ => none
 | k + 1, x1, x5, x10, x11 => if x11 < x10 then (if 0 ≤ x11 then (if x11 < (x5.length : Int) then (impl_raised.l0 k x1 (x5.set (x11 : Int).toNat (wrap64 ((rd x5 x11) + x1))) x10 (wrap64 (x11 + 1))) else (none)) else (none)) else (some x5)
def impl_raised.f (k : Nat) (l0 : List Int) (a1 : Int) : Option (List Int) := (slices_Clone_int_int.f l0).bind fun t101 => (impl_raised.l0 k a1 t101 (t101.length : Int) 0)
set_option maxHeartbeats 8000000 in
set_option maxRecDepth 100000 in
theorem impl_raised.calls (k : Nat) (A0 : Option Addr) (c0 : Nat) (l0 : List Int) (a1 : Int) (r : List Int) (w : World) (hr0 : Kd.C (Kd.int .i64) w A0 l0.length l0) (hc0 : l0.length ≤ c0) (h : impl_raised.f k l0 a1 = some r) :
  Calls Try.prog 41 #[.slice A0 l0.length c0, .int .i64 a1] w fun e w' => ∃ v0_ : Value, e = .returned (v0_) ∧ Kd.R (Kd.int .i64) 3 w' w.heap.size (fun _ => True) v0_ r ∧ Below w.heap.size w w' := by
 have HR0 := zaa.mk hr0
 have HC0 := zaa.mk hc0
 clear hr0 hc0
 have HB := zaa.mk (Below.refl w.heap.size w)
 have H : ((slices_Clone_int_int.f l0).bind fun t101 => (impl_raised.l0 k a1 t101 (t101.length : Int) 0)) = some r := h
 clear h
 replace H := Option.bind_eq_some_iff.mp H
 obtain ⟨t101, A30, H⟩ := H
 replace H : (impl_raised.l0 k a1 t101 (t101.length : Int) 0) = some r := H
 have A3 := zaa.mk A30
 clear A30
 have H' := zaa.mk H
 clear H
 go_enter Try.func41, Try.ntmps41
 go_wp2_with (first | ((with_reducible refine zan (f := 51) rfl ?_); refine zbn (some 8) rfl rfl Try.func51 (by kernel_rfl) rfl #[.slice A0 l0.length c0] rfl (by (try simp only [List.map_toArray, List.map_cons, List.map_nil]); first | done | rfl | (simp only [List.length_drop, List.length_take]; rfl)) ?_; (with_reducible refine (slices_Clone_int_int.calls _ _ l0 t101 _ ?side1 ?side2 A3.out).mono ?_); (case side1 => repeat (first | exact HR0.out | (with_reducible refine Kd.C_alloc ?_ _) | (with_reducible refine Kd.C_drewN ?_ _) | (with_reducible refine Kd.C_drew ?_))); (case side2 => exact HC0.out); rintro e w4 ⟨v102, rfl, ho0, hb⟩; refine ⟨_, rfl, ?_⟩; have n0_ := zaa.mk (Kd.R_lower ho0 (zaq (by repeat (first | (with_reducible first | exact HB.out | apply zab | apply zac | apply zag) | exact HB.out)))); have n1_ := zaa.mk (zae (by repeat (first | (with_reducible first | exact HB.out | apply zab | apply zac | apply zag) | exact HB.out)) hb); clear HB; have HO103 := n0_; have HB := n1_; clear n0_ n1_; (try clear hb); (try clear hb2); (try clear hk); (try clear hi); (try clear ho0); obtain ⟨Ao5, co5, eo5⟩ := Kd.R_slice HO103.out; subst eo5))
 go_loopg [11] k (fun kq v11 w' => ∃ (x5_1 : List Int) (x11_1 : Int), v11 = .int .i64 x11_1 ∧ zaa (impl_raised.l0 kq a1 x5_1 (t101.length : Int) x11_1 = some r) ∧ zaa (kq ≤ k) ∧ zaa (Kd.R (Kd.int .i64) 3 w' w.heap.size (fun _ => True) (.slice Ao5 t101.length co5) x5_1) ∧ zaa (Below w.heap.size w w'))
 case atStart => exact ⟨(t101), (0), (by first | rfl | (simp; done) | (simp [*]; done)), H', ⟨Nat.le_refl _⟩, ⟨by (with_reducible repeat (first | apply Kd.R_alloc | apply Kd.R_drewN | apply Kd.R_drew)); exact HO103.out⟩, ⟨by repeat (first | (with_reducible first | exact HB.out | apply zab | apply zac | apply zag) | exact HB.out)⟩⟩
 case round =>
  clear H'
  try clear p2
  try clear c4
  try clear c5
  obtain ⟨x5_1, x11_1, rfl, HA, HK1, HO_5, HB⟩ := hrel
  have hl5_1 := (Kd.R_reads' HO_5.out).1
  rw [hl5_1] at HO_5
  (try simp only [hl5_1])
  cases gk with
  | zero => exact absurd HA.out (by simp [impl_raised.l0])
  | succ k1 =>
   have H := HA.out
   clear HA
   simp only [impl_raised.l0] at H
   by_cases c6 : x11_1 < (t101.length : Int)
   ·rw [if_pos c6] at H
    have c6b0 : decide (x11_1 < (t101.length : Int)) = true := decide_eq_true c6
    clear c6
    by_cases c7 : 0 ≤ x11_1
    ·rw [if_pos c7] at H
     have c7b0 : decide (0 ≤ x11_1) = true := decide_eq_true c7
     clear c7
     by_cases c8 : x11_1 < (x5_1.length : Int)
     ·rw [if_pos c8] at H
      have c8b0 : decide (x11_1 < (x5_1.length : Int)) = true := decide_eq_true c8
      clear c8
      obtain ⟨y105, hy105⟩ : ∃ y_ : List Int, y_ = (x5_1.set (x11_1 : Int).toNat (wrap64 ((rd x5_1 x11_1) + a1))) := ⟨_, rfl⟩
      replace H : (impl_raised.l0 k1 a1 y105 (t101.length : Int) (wrap64 (x11_1 + 1))) = some r := by first | (rw [hy105]; with_reducible exact H) | (have H2_ := (Option.bind_some _ _).symm.trans H; rw [hy105]; with_reducible exact H2_) | (have H2_ := (Option.bind_some _ _).symm.trans H; with_reducible exact H2_) | with_reducible exact H | (rw [hy105]; exact H) | exact H
      have Ny105 := zaa.mk hy105
      clear hy105
      have H' := zaa.mk H
      clear H
      have p104 : 0 ≤ (x11_1 : Int) := of_decide_eq_true (by first | (with_reducible assumption) | assumption)
      have q104 : x11_1 < (x5_1.length : Int) := of_decide_eq_true (by first | (with_reducible assumption) | assumption)
      obtain ⟨ad104, e104, hx104_0⟩ := Kd.at_int (Kd.R_reads' HO_5.out).2.2 x11_1 p104 q104
      cases e104
      replace p104 := eq_true p104
      replace q104 := eq_true q104
      have p9 : 0 ≤ (x11_1 : Int) := of_decide_eq_true (by first | (with_reducible assumption) | assumption)
      have q9 : (x11_1 : Int) < ((x5_1.length : Int) : Int) := of_decide_eq_true (by first | (with_reducible assumption) | assumption)
      obtain ⟨go9, co9, eo9, gb9, gl9, cl9, HG9⟩ := Kd.R_form HO_5.out (by omega)
      (first | cases eo9 | (injection eo9 with ea_ en_ ec_; (first | subst ea_ | (injection ea_ with ea_; subst ea_)); subst ec_; clear en_))
      have GB9 := zaa.mk gb9
      have GG9 := zaa.mk HG9
      clear gb9 gl9 HG9
      (first | simp only [zcj] at hx104_0 | skip)
      obtain ⟨hx9_0, hf9_0⟩ := Kd.R_celln 0 HO_5.out (x11_1 : Int) p9 q9
      replace p9 := eq_true p9
      replace q9 := eq_true q9
      have HP10 := Kd.R_putg HO_5.out (x11_1 : Int) (wrap64 ((rd x5_1 x11_1) + a1))
      go_wp2_with (first | ((with_reducible refine gate_store (t := 3) (p := 20) rfl ?_); refine store_event (t := 3) (p := 20) (v := ?vo_w11) (w1 := (wr.setCell ⟨go9, (x11_1 : Int).toNat, none⟩ (.int .i64 (wrap64 ((rd x5_1 x11_1) + a1))))) ?hg ?ho ?hn ?hr ?_; (case ho => rfl); (case hg => rfl); (case hn => rfl); (case hr => first | (go_simp; done) | (go_simp; rfl)); intro w11 hw; have hg : wr.grownBy w11 (some go9) := (by rw [hw]; exact HP10.2); have hp_ : Kd.R (Kd.int .i64) 3 w11 w.heap.size (fun _ => True) (.slice (some ⟨go9, 0, none⟩) x5_1.length co5) y105 := (by rw [hw, Ny105.out]; exact HP10.1); clear HP10; have n0_ := zaa.mk (hp_); have n1_ := zaa.mk ((by rw [hw]; exact zah (HB.out) GB9.out : Below w.heap.size w w11)); clear HO_5; clear HB; have HO_5 := n0_; have HB := n1_; clear n0_ n1_; clear hg hw hp_))
      (try simp only [← hl5_1])
      go_roundg k1
      case measure => have := HK1.out; omega
      case rel => exact ⟨(y105), (wrap64 (x11_1 + 1)), (by first | rfl | (simp; done) | (simp [*]; done)), H', ⟨by have := HK1.out; omega⟩, ⟨by (try simp only [hl5_1]); (with_reducible repeat (first | apply Kd.R_alloc | apply Kd.R_drewN | apply Kd.R_drew)); exact HO_5.out⟩, ⟨by repeat (first | (with_reducible first | exact HB.out | apply zab | apply zac | apply zag) | exact HB.out)⟩⟩
     ·rw [if_neg c8] at H
      exact absurd H (by simp)
    ·rw [if_neg c7] at H
     exact absurd H (by simp)
   ·rw [if_neg c6] at H
    have c6b0 : decide (x11_1 < (t101.length : Int)) = false := decide_eq_false c6
    clear c6
    (try rw [hl5_1] at c6b0)
    obtain rfl := Option.some.inj H
    go_wp2
    go_ret
    exact ⟨_, by first | rfl | (simp [zam, zal] <;> rfl) | (simp [*, zam, zal] <;> rfl), by (with_reducible repeat (first | apply Kd.R_alloc | apply Kd.R_drewN | apply Kd.R_drew)); exact HO_5.out, by repeat (first | (with_reducible first | exact HB.out | apply zab | apply zac | apply zag) | exact HB.out)⟩
end Go.Proofs.Ytgiidlebnjbgeaa.TR
namespace Go.Proofs.Ytgiidlebnjbgeaa.Hd
open Go.RowKit Go.PW.PrintWords Go.PW.PrintLast Go.PW.PrintMore Go.Proofs.Ytgiidlebnjbgeaa.PB Go.Proofs.Ytgiidlebnjbgeaa.TR
theorem raised_l0 (l : List Int) (n : Nat) (hl : l.length ≤ 100000) (hn : n ≤ 100000) (hx : ∀ x ∈ l, 0 ≤ x ∧ x ≤ 100000) : ∀ m i, i + m = l.length → Evs (fun k => impl_raised.l0 k (n : Int) (zbk (l.take i) n ++ l.drop i) (l.length : Int) (i : Int)) (zbk l n) := by
 intro m
 induction m with
 | zero =>
  intro i hi
  rw [List.take_of_length_le (by omega), List.drop_eq_nil_of_le (by omega), List.append_nil]
  refine Evs.step (h := fun _ => some (zbk l n)) (fun k => ?_) (Evs.const _)
  conv => lhs; unfold impl_raised.l0
  rw [if_neg (by omega)]
 | succ m ih =>
  intro i hi
  have hget : l[i]? = some l[i] := List.getElem?_eq_getElem (by omega)
  have hr := hx l[i] (List.getElem_mem (by omega))
  have hnx := ih (i + 1) (by omega)
  have hli : (zbk (l.take i) n).length = i := by rw [zax, List.length_take]; omega
  have hd : l.drop i = l[i] :: l.drop (i + 1) := List.drop_eq_getElem_cons (by omega)
  have e0 : (zbk (l.take i) n ++ l.drop i)[i]? = some l[i] := by rw [hd, List.getElem?_append_right (by omega), hli, Nat.sub_self]; rfl
  have e1 : rd (zbk (l.take i) n ++ l.drop i) (i : Int) = l[i] := by unfold rd; rw [Int.toNat_natCast, List.getD_eq_getElem?_getD, e0]; rfl
  have e2 : wrap64 ((i : Int) + 1) = ((i + 1 : Nat) : Int) := by rw [wrapT (by omega) (by omega)]; omega
  have e3 : wrap64 (l[i] + (n : Int)) = l[i] + (n : Int) := wrapT (by omega) (by omega)
  have es : (zbk (l.take i) n ++ l.drop i).set i (l[i] + (n : Int)) = zbk (l.take (i + 1)) n ++ l.drop (i + 1) := by
   rw [hd, List.set_append_right _ _ (by omega), hli, Nat.sub_self, List.set_cons_zero]
   unfold zbk
   rw [List.take_add_one, hget, List.map_append, List.append_assoc]
   rfl
  have hlen : (zbk (l.take i) n ++ l.drop i).length = l.length := by rw [List.length_append, hli, List.length_drop]; omega
  rw [← es] at hnx
  refine Evs.step (h := fun k => impl_raised.l0 k (n : Int) ((zbk (l.take i) n ++ l.drop i).set i (l[i] + (n : Int))) (l.length : Int) ((i + 1 : Nat) : Int)) (fun k => ?_) hnx
  conv => lhs; unfold impl_raised.l0
  rw [if_pos (by omega), if_pos (by omega), if_pos (by omega), e1, e2, e3, Int.toNat_natCast]
theorem raised_ev (l : List Int) (n : Nat) (h1 : 1 ≤ l.length) (hl : l.length ≤ 100000) (hn : n ≤ 100000) (hx : ∀ x ∈ l, 0 ≤ x ∧ x ≤ 100000) : Evs (fun k => impl_raised.f k l (n : Int)) (zbk l n) := by
 refine Evs.bindS (b := l) (by unfold slices_Clone_int_int.f; rw [if_pos (by omega)]) ?_
 exact raised_l0 l n hl hn hx l.length 0 (by omega)
def sz2 (a b : Nat) (i : Nat) : Nat := if i = 0 then 0 else if i = 1 then a else a + b
def cat2 (a b : List Int) (i : Nat) : List Int := if i = 0 then [] else if i = 1 then a else a ++ b
set_option maxHeartbeats 400000 in
set_option maxRecDepth 100000 in
theorem concat_calls (w : World) (g : Nat) (A1 A2 : Option Addr) (c1 c2 : Nat) (a b : List Int) (hk : w.heap[g]? = some (.cells #[.slice A1 a.length c1, .slice A2 b.length c2] 22 (0, 0))) (ha : (Kd.int .i64).C w A1 a.length a) (hb : (Kd.int .i64).C w A2 b.length b) (hl1 : a.length ≤ c1) (hl2 : b.length ≤ c2) (hs : a.length + b.length ≤ 1000) (h1 : 1 ≤ a.length) :
  Calls Try.prog 40 #[.slice (some ⟨g, 0, none⟩) 2 2] w fun e w' => ∃ v', e = .returned v' ∧ Kd.R (Kd.int .i64) 3 w' w.heap.size (fun _ => True) v' (a ++ b) ∧ Below w.heap.size w w' := by
 have x0 : w.cell? ⟨g, 0, none⟩ = some (.slice A1 a.length c1) := (zad hk 0).trans rfl
 have x1 : w.cell? ⟨g, 1, none⟩ = some (.slice A2 b.length c2) := (zad hk 1).trans rfl
 have HA := zaa.mk ha
 have HBb := zaa.mk hb
 have HS := zaa.mk hs
 have H1 := zaa.mk h1
 clear hk ha hb
 go_enter Try.func40, Try.ntmps40
 go_upto_region 3 with (fail)
 go_loopg [3, 11] 2 (fun kq v3 v11 w' => ∃ i : Nat, v3 = .int .i64 (sz2 a.length b.length i : Int) ∧ v11 = .int .i64 (i : Int) ∧ zaa (i + kq = 2) ∧ zaa (Below w.heap.size w w'))
 case atStart => exact ⟨0, rfl, rfl, ⟨rfl⟩, ⟨Below.refl _ _⟩⟩
 case round =>
  obtain ⟨i, rfl, rfl, HI, HBl⟩ := hrel
  have z0 := zai HBl.out x0
  have z1 := zai HBl.out x1
  rcases (show i = 0 ∨ i = 1 ∨ i = 2 by have := HI.out; omega) with rfl | rfl | rfl
  ·have e0 : sz2 a.length b.length 0 = 0 := rfl
   rw [e0]
   have y0 : ¬ (a.length : Int) < 0 := by omega
   go_wp2
   go_roundg (2 - 1)
   case measure => have := HI.out; omega
   case rel => exact ⟨1, by first | rfl | (simp [sz2]; done), by rfl, ⟨by have := HI.out; omega⟩, HBl⟩
  ·have e0 : sz2 a.length b.length 1 = a.length := rfl
   rw [e0]
   have y0 : ¬ (a.length : Int) + (b.length : Int) < 0 := by omega
   go_wp2
   go_roundg (2 - 2)
   case measure => have := HI.out; omega
   case rel => exact ⟨2, by first | rfl | (simp [sz2]; done), by rfl, ⟨by have := HI.out; omega⟩, HBl⟩
  ·have e0 : sz2 a.length b.length 2 = a.length + b.length := rfl
   rw [e0]
   obtain ⟨n, hn⟩ : ∃ n, n = a.length + b.length := ⟨_, rfl⟩
   rw [← hn]
   have HGr := zaa.mk (growT_calls n (by omega) (by omega) wr)
   clear hn
   go_upto_region 11 with (first
    | (go_at_call 50; refine HGr.out.mono ?_; rintro e w3 ⟨v3, rfl, hr, hb⟩; obtain ⟨A3, c3, e3⟩ := Kd.R_slice hr; subst e3; have HR3 := zaa.mk (Kd.R_lower hr HBl.out.size); have HB3 := zaa.mk (zae HBl.out hb); clear hr hb))
   go_loopg [6, 27] 2 (fun kq v6 v27 w' => ∃ (i : Nat) (A : Option Addr) (c : Nat), v6 = .slice A (cat2 a b i).length c ∧ v27 = .int .i64 (i : Int) ∧ zaa (i + kq = 2) ∧ zaa (Kd.R (Kd.int .i64) 3 w' w.heap.size (fun _ => True) (.slice A (cat2 a b i).length c) (cat2 a b i)) ∧ zaa (Below w.heap.size w w'))
   case atStart => exact ⟨0, A3, c3, rfl, rfl, ⟨rfl⟩, HR3, HB3⟩
   case round =>
    clear HR3 HB3 HI HBl z0 z1
    obtain ⟨i, Av, cv, rfl, rfl, HI, HR, HBl⟩ := hrel
    have z0 := zai HBl.out x0
    have z1 := zai HBl.out x1
    rcases (show i = 0 ∨ i = 1 ∨ i = 2 by have := HI.out; omega) with rfl | rfl | rfl
    ·have HRi := zaa.mk (show Kd.R (Kd.int .i64) 3 wr w.heap.size (fun _ => True) (.slice Av 0 cv) ([] : List Int) from HR.out)
     clear HR
     have ec : (cat2 a b 0).length = 0 := rfl
     rw [ec]
     go_wp2_with (first
      | ((with_reducible refine zbo (b := .append) (xs := #[.tmp 31, .tmp 32]) rfl ?_); at_builtin; refine Kd.R_append_row (Value.int .i64) (0 : Int) (h1 := fun _ => rfl) (w0 := w) w.heap.size rfl (.tmp 31) (.tmp 32) 22 3 (.int .i64 0) 8 rfl Try.underlying22 info3 rfl (by decide) (.slice Av 0 cv) ([] : List Int) a A1 a.length c1 (fun _ => True) rfl rfl (fun _ _ => trivial) HRi.out (Kd.C_below HA.out HBl.out) HBl.out HBl.out.size (by have := HS.out; first | omega | (simp; omega)) ?_; intro v1 w1 ho hb hg hat; obtain ⟨Aw, cw, ew⟩ := Kd.R_slice ho; subst ew; have HR1 := zaa.mk ho; have HB1 := zaa.mk hb; clear ho hb hg hat))
     go_roundg (2 - 1)
     case measure => have := HI.out; omega
     case rel => exact ⟨1, Aw, cw, by first | rfl | (simp [cat2]; done), by rfl, ⟨by have := HI.out; omega⟩, ⟨by have h := HR1.out; first | exact h | (simpa [cat2] using h)⟩, HB1⟩
    ·have HRi := zaa.mk (show Kd.R (Kd.int .i64) 3 wr w.heap.size (fun _ => True) (.slice Av a.length cv) (a) from HR.out)
     clear HR
     have ec : (cat2 a b 1).length = a.length := rfl
     rw [ec]
     go_wp2_with (first
      | ((with_reducible refine zbo (b := .append) (xs := #[.tmp 31, .tmp 32]) rfl ?_); at_builtin; refine Kd.R_append_row (Value.int .i64) (0 : Int) (h1 := fun _ => rfl) (w0 := w) w.heap.size rfl (.tmp 31) (.tmp 32) 22 3 (.int .i64 0) 8 rfl Try.underlying22 info3 rfl (by decide) (.slice Av a.length cv) (a) b A2 b.length c2 (fun _ => True) rfl rfl (fun _ _ => trivial) HRi.out (Kd.C_below HBb.out HBl.out) HBl.out HBl.out.size (by have := HS.out; first | omega | (simp; omega)) ?_; intro v1 w1 ho hb hg hat; obtain ⟨Aw, cw, ew⟩ := Kd.R_slice ho; subst ew; have HR1 := zaa.mk ho; have HB1 := zaa.mk hb; clear ho hb hg hat))
     go_roundg (2 - 2)
     case measure => have := HI.out; omega
     case rel => exact ⟨2, Aw, cw, by first | rfl | (simp [cat2]; done), by rfl, ⟨by have := HI.out; omega⟩, ⟨by have h := HR1.out; first | exact h | (simpa [cat2] using h)⟩, HB1⟩
    ·have HRi := zaa.mk (show Kd.R (Kd.int .i64) 3 wr w.heap.size (fun _ => True) (.slice Av (a ++ b).length cv) (a ++ b) from HR.out)
     clear HR
     have ec : (cat2 a b 2).length = (a ++ b).length := rfl
     rw [ec]
     go_wp2
     go_ret
     exact ⟨_, rfl, by have h := HRi.out; simpa using h, HBl.out⟩
def PermI (w : World) (t : Tr) (e : Ending) (w' : World) : Prop := ∃ v', e = .returned v' ∧ Kd.R (Kd.int .i64) 3 w' w.heap.size (fun _ => True) v' (zbc t) ∧ Below w.heap.size w w'
set_option maxHeartbeats 400000 in
set_option maxRecDepth 100000 in
theorem permI_calls : ∀ (t : Tr), t.tidy = true → t.nodes ≤ 100 → ∀ (w : World) (p : Nat), PtA w t p → Calls Try.prog 24 #[.pointer (some ⟨p, 0, none⟩)] w (PermI w t) := by
 intro t
 induction t with
 | un c t ih => intro h; cases h
 | o =>
  intro _ _ w p hP
  obtain ⟨-, hk⟩ := hP
  have x1 : w.cell? ⟨p, 1, none⟩ = some (.slice none 0 0) := (zad hk 1).trans rfl
  clear hk
  go_enter Try.func24, Try.ntmps24
  go_wp2_with (first
   | ((with_reducible refine zba (N := 11) rfl ?_); refine Kd.R_lit (Kd.int .i64) _ 3 ?hg (N := 11) ?hd (xs := ([0] : List Int)) (inner := [.int .i64 0]) (ok := fun _ => True) (okp := fun _ => True) ?hr ?hp (fun _ hk => hk) trivial (Below.refl _ _) (Nat.le_refl _) (by simp) ?_; (case hd => rfl); (case hg => rfl); (case hr => first | (go_simp; done) | (go_simp; rfl)); (case hp => exact (Reps.one (show Kd.M (Kd.int .i64) _ _ _ 0 [.int .i64 0] from rfl) (Reps.none _ _))); intro v5 w5 ho hb hg_ hnew_; clear hg_ hnew_; have HR5 := zaa.mk ho; have HB5 := zaa.mk hb; clear ho hb))
  go_ret
  exact ⟨_, rfl, HR5.out, HB5.out⟩
 | bin s x y ihx ihy =>
  intro htd hn w p hP
  simp only [Tr.tidy, Bool.and_eq_true] at htd
  simp only [Tr.nodes] at hn
  obtain ⟨-, q, k, l, hk, -, hk2, hPk, hPl⟩ := hP
  have HX := zaa.mk (fun w p h => ihx htd.1 (by omega) w p h)
  have HY := zaa.mk (fun w p h => ihy htd.2 (by omega) w p h)
  have hla := zaz x
  have hlb := zaz y
  have HLen := zaa.mk (show (zbc x).length + (zbc y).length ≤ 200 ∧ 1 ≤ (zbc x).length ∧ 1 ≤ (zbc y).length by omega)
  obtain ⟨K, hK⟩ := raised_ev (zbc y) (zbc x).length (by omega) (by omega) (by omega) (fun z hz => by have := zbx y z hz; omega)
  have HRa := zaa.mk (hK K (Nat.le_refl K))
  have HDef := zaa.mk (show zbc (.bin s x y) = if s then zbc x ++ zbk (zbc y) (zbc x).length else zbk (zbc y) (zbc x).length ++ zbc x by cases s <;> rfl)
  have x0 : w.cell? ⟨p, 0, none⟩ = some (.int .u8 (binC s)) := (zad hk 0).trans rfl
  have x1 : w.cell? ⟨p, 1, none⟩ = some (.slice (some ⟨q, 0, none⟩) 2 2) := (zad hk 1).trans rfl
  have x2 : w.cell? ⟨q, 0, none⟩ = some (.pointer (some ⟨k, 0, none⟩)) := (zad hk2 0).trans rfl
  have x3 : w.cell? ⟨q, 1, none⟩ = some (.pointer (some ⟨l, 0, none⟩)) := (zad hk2 1).trans rfl
  have HPk := zaa.mk hPk
  have HPl := zaa.mk hPl
  have HX0 := zaa.mk x0
  clear hk hk2 hPk hPl hn ihx ihy htd hla hlb hK x0
  unfold PermI at HX HY
  unfold PermI
  obtain ⟨res, hres⟩ : ∃ res, res = zbc (.bin s x y) := ⟨_, rfl⟩
  rw [← hres]
  have HRes := zaa.mk (hres.trans HDef.out)
  clear HDef hres
  generalize zbc x = a at *
  generalize zbc y = b at *
  go_enter Try.func24, Try.ntmps24
  go_upto_region 3 with (fail)
  refine start_ (n := 16) (S := fun w' => (w'.cell? ⟨p, 1, none⟩ = some (.slice (some ⟨q, 0, none⟩) 2 2)) ∧ (w'.cell? ⟨q, 0, none⟩ = some (.pointer (some ⟨k, 0, none⟩))) ∧ (w'.cell? ⟨q, 1, none⟩ = some (.pointer (some ⟨l, 0, none⟩))) ∧ (PtA w' x k) ∧ (PtA w' y l) ∧ (Below w.heap.size w w')) (ds := []) #[false, false, false, false, false, false, false, false, false, false, false, false, false, false, false, false] (by kernel_rfl) rfl rfl (⟨x1, x2, x3, HPk.out.drew, HPl.out.drew, zcd (Below.refl _ _)⟩) (fun hHeld => ?_)
  clear x1 x2 x3
  refine zbb (i := 0) (N := some 12) (v := ?_) (a' := ?_) #[true, false, false, false, false, false, false, false, false, false, false, false, false, false, false, false] rfl rfl (by kernel_rfl) (fun _ _ _ h => h) (Or.inl ⟨by rfl, ?_⟩) ?_ ?_
  rotate_left
  ·intro w'
   go_simp
   with_reducible rfl
  rotate_left
  ·simp only [Act.put, List.setIfInBounds_toArray, List.set_cons_zero, List.set_cons_succ, zas, zat]
   rfl
  refine zbb (i := 1) (N := some 13) (v := ?_) (a' := ?_) #[true, true, false, false, false, false, false, false, false, false, false, false, false, false, false, false] rfl rfl (by kernel_rfl) (fun _ _ _ h => h) (Or.inl ⟨by rfl, ?_⟩) ?_ ?_
  rotate_left
  ·intro w'
   go_simp
   with_reducible rfl
  rotate_left
  ·simp only [Act.put, List.setIfInBounds_toArray, List.set_cons_zero, List.set_cons_succ, zas, zat]
   rfl
  refine zbb (i := 2) (N := some 14) (v := ?_) (a' := ?_) #[true, true, true, false, false, false, false, false, false, false, false, false, false, false, false, false] rfl rfl (by kernel_rfl) (fun _ _ _ h => h) (Or.inl ⟨by rfl, ?_⟩) ?_ ?_
  rotate_left
  ·intro w'
   go_simp
   with_reducible rfl
  rotate_left
  ·simp only [Act.put, List.setIfInBounds_toArray, List.set_cons_zero, List.set_cons_succ, zas, zat]
   rfl
  refine take_ (i := 3) (N := some 15) (v := ?_) (a' := ?_) #[true, true, true, true, false, false, false, false, false, false, false, false, false, false, false, false] rfl rfl (by kernel_rfl) (fun _ _ _ h => h) (Or.inl ⟨by rfl, ?_⟩) hHeld ?_ ?_
  rotate_left
  ·rintro w' ⟨s0, s1, s2, s3, s4, s5⟩
   go_simp
   with_reducible rfl
  rotate_left
  ·simp only [Act.put, List.setIfInBounds_toArray, List.set_cons_zero, List.set_cons_succ, zas, zat]
   rfl
  refine zbb (i := 4) (N := some 16) (v := ?_) (a' := ?_) #[true, true, true, true, true, false, false, false, false, false, false, false, false, false, false, false] rfl rfl (by kernel_rfl) (fun _ _ _ h => h) (Or.inl ⟨by rfl, ?_⟩) ?_ ?_
  rotate_left
  ·intro w'
   go_simp
   with_reducible rfl
  rotate_left
  ·simp only [Act.put, List.setIfInBounds_toArray, List.set_cons_zero, List.set_cons_succ, zas, zat]
   rfl
  refine take_ (i := 5) (N := some 17) (v := ?_) (a' := ?_) #[true, true, true, true, true, true, false, false, false, false, false, false, false, false, false, false] rfl rfl (by kernel_rfl) (fun _ _ _ h => h) (Or.inl ⟨by rfl, ?_⟩) hHeld ?_ ?_
  rotate_left
  ·rintro w' ⟨s0, s1, s2, s3, s4, s5⟩
   go_simp
   with_reducible rfl
  rotate_left
  ·simp only [Act.put, List.setIfInBounds_toArray, List.set_cons_zero, List.set_cons_succ, zas, zat]
   rfl
  refine zbb (i := 7) (N := some 19) (v := ?_) (a' := ?_) #[true, true, true, true, true, true, false, true, false, false, false, false, false, false, false, false] rfl rfl (by kernel_rfl) (fun _ _ _ h => h) (Or.inl ⟨by rfl, ?_⟩) ?_ ?_
  rotate_left
  ·intro w'
   go_simp
   with_reducible rfl
  rotate_left
  ·simp only [Act.put, List.setIfInBounds_toArray, List.set_cons_zero, List.set_cons_succ, zas, zat]
   rfl
  refine zbb (i := 8) (N := some 20) (v := ?_) (a' := ?_) #[true, true, true, true, true, true, false, true, true, false, false, false, false, false, false, false] rfl rfl (by kernel_rfl) (fun _ _ _ h => h) (Or.inl ⟨by rfl, ?_⟩) ?_ ?_
  rotate_left
  ·intro w'
   go_simp
   with_reducible rfl
  rotate_left
  ·simp only [Act.put, List.setIfInBounds_toArray, List.set_cons_zero, List.set_cons_succ, zas, zat]
   rfl
  refine zbb (i := 9) (N := some 21) (v := ?_) (a' := ?_) #[true, true, true, true, true, true, false, true, true, true, false, false, false, false, false, false] rfl rfl (by kernel_rfl) (fun _ _ _ h => h) (Or.inl ⟨by rfl, ?_⟩) ?_ ?_
  rotate_left
  ·intro w'
   go_simp
   with_reducible rfl
  rotate_left
  ·simp only [Act.put, List.setIfInBounds_toArray, List.set_cons_zero, List.set_cons_succ, zas, zat]
   rfl
  refine take_ (i := 10) (N := some 22) (v := ?_) (a' := ?_) #[true, true, true, true, true, true, false, true, true, true, true, false, false, false, false, false] rfl rfl (by kernel_rfl) (fun _ _ _ h => h) (Or.inl ⟨by rfl, ?_⟩) hHeld ?_ ?_
  rotate_left
  ·rintro w' ⟨s0, s1, s2, s3, s4, s5⟩
   go_simp
   with_reducible rfl
  rotate_left
  ·simp only [Act.put, List.setIfInBounds_toArray, List.set_cons_zero, List.set_cons_succ, zas, zat]
   rfl
  refine zbb (i := 11) (N := some 23) (v := ?_) (a' := ?_) #[true, true, true, true, true, true, false, true, true, true, true, true, false, false, false, false] rfl rfl (by kernel_rfl) (fun _ _ _ h => h) (Or.inl ⟨by rfl, ?_⟩) ?_ ?_
  rotate_left
  ·intro w'
   go_simp
   with_reducible rfl
  rotate_left
  ·simp only [Act.put, List.setIfInBounds_toArray, List.set_cons_zero, List.set_cons_succ, zas, zat]
   rfl
  refine take_ (i := 12) (N := some 24) (v := ?_) (a' := ?_) #[true, true, true, true, true, true, false, true, true, true, true, true, true, false, false, false] rfl rfl (by kernel_rfl) (fun _ _ _ h => h) (Or.inl ⟨by rfl, ?_⟩) hHeld ?_ ?_
  rotate_left
  ·rintro w' ⟨s0, s1, s2, s3, s4, s5⟩
   go_simp
   with_reducible rfl
  rotate_left
  ·simp only [Act.put, List.setIfInBounds_toArray, List.set_cons_zero, List.set_cons_succ, zas, zat]
   rfl
  refine one_ (i := 6) (N := some 18) #[true, true, true, true, true, true, true, true, true, true, true, true, true, false, false, false] rfl rfl (by kernel_rfl) (by decide) (fun K hK => ?_)
  refine goes_ Try.func24 (by kernel_rfl) rfl #[.pointer (some ⟨k, 0, none⟩)] (by rfl) rfl rfl (by (try simp only [List.map_toArray, List.map_cons, List.map_nil]); first | done | rfl) ?_
  have hs_ := hHeld
  obtain ⟨s0, s1, s2, s3, s4, s5⟩ := hs_
  refine (HX.out _ k s3).mono ?_
  rintro e w2 ⟨v1, rfl, hr1, hb⟩
  obtain ⟨A1, c1, e1, hl1, hC1⟩ := Kd.R_reads hr1
  subst e1
  have HC12 := zaa.mk hC1
  have HL1 := zaa.mk hl1
  clear hr1 hl1 hC1
  refine ⟨_, rfl, ?_⟩
  refine hK.out _ _ ⟨zai hb s0, zai hb s1, zai hb s2, PtAt.below s3 hb, PtAt.below s4 hb, zae s5 hb⟩ (fun hHeld => ?_)
  clear hK K hb s0 s1 s2 s3 s4 s5
  refine norm_ (a' := ?_) ?_ ?_
  rotate_left
  ·show Act.put _ (some 18) _ = _
   simp only [Act.put, List.setIfInBounds_toArray, List.set_cons_zero, List.set_cons_succ, zas, zat]
   rfl
  refine one_ (i := 13) (N := some 25) #[true, true, true, true, true, true, true, true, true, true, true, true, true, true, false, false] rfl rfl (by kernel_rfl) (by decide) (fun K hK => ?_)
  refine goes_ Try.func24 (by kernel_rfl) rfl #[.pointer (some ⟨l, 0, none⟩)] (by rfl) rfl rfl (by (try simp only [List.map_toArray, List.map_cons, List.map_nil]); first | done | rfl) ?_
  have hs_ := hHeld
  obtain ⟨s0, s1, s2, s3, s4, s5⟩ := hs_
  refine (HY.out _ l s4).mono ?_
  rintro e w3 ⟨v2, rfl, hr2, hb⟩
  obtain ⟨A2, c2, e2, hl2, hC2⟩ := Kd.R_reads hr2
  subst e2
  have HC1 := zaa.mk (Kd.C_below HC12.out hb)
  have HC2 := zaa.mk hC2
  have HL2 := zaa.mk hl2
  have HB3 := zaa.mk (zae s5 hb)
  clear hr2 hl2 hC2
  refine ⟨_, rfl, ?_⟩
  refine hK.out _ _ ⟨zai hb s0, zai hb s1, zai hb s2, PtAt.below s3 hb, PtAt.below s4 hb, zae s5 hb⟩ (fun hHeld => ?_)
  clear hK K hb s0 s1 s2 s3 s4 s5
  refine norm_ (a' := ?_) ?_ ?_
  rotate_left
  ·show Act.put _ (some 25) _ = _
   simp only [Act.put, List.setIfInBounds_toArray, List.set_cons_zero, List.set_cons_succ, zas, zat]
   rfl
  refine zbb (i := 14) (N := some 3) (v := ?_) (a' := ?_) #[true, true, true, true, true, true, true, true, true, true, true, true, true, true, true, false] rfl rfl (by kernel_rfl) (fun _ _ _ h => h) (Or.inl ⟨by rfl, ?_⟩) ?_ ?_
  rotate_left
  ·intro w'
   go_simp
   with_reducible rfl
  rotate_left
  ·simp only [Act.put, List.setIfInBounds_toArray, List.set_cons_zero, List.set_cons_succ, zas, zat]
   rfl
  refine zbb (i := 15) (N := some 4) (v := ?_) (a' := ?_) #[true, true, true, true, true, true, true, true, true, true, true, true, true, true, true, true] rfl rfl (by kernel_rfl) (fun _ _ _ h => h) (Or.inl ⟨by rfl, ?_⟩) ?_ ?_
  rotate_left
  ·intro w'
   go_simp
   with_reducible rfl
  rotate_left
  ·simp only [Act.put, List.setIfInBounds_toArray, List.set_cons_zero, List.set_cons_succ, zas, zat]
   rfl
  refine done_ (by kernel_rfl) ?_
  have hsgn := zai HB3.out HX0.out
  clear HX0
  obtain ⟨u, hu⟩ : ∃ u, u = binC s := ⟨_, rfl⟩
  rw [← hu] at hsgn
  have x0 := hsgn
  cases s with
  | true =>
   replace hu : u = 124 := hu
   subst hu
   clear hsgn
   go_wp2_with (first
    | (go_at_call 41; refine (impl_raised.calls K A2 c2 b (a.length : Int) (zbk b a.length) _ HC2.out HL2.out HRa.out).mono ?_; rintro e w4 ⟨v4, rfl, hr, hb⟩; obtain ⟨A4, c4, e4, hl4, hC4⟩ := Kd.R_reads hr; subst e4; have HB4 := zaa.mk (zae HB3.out hb); have HC4 := zaa.mk hC4; have HL4 := zaa.mk hl4; have HC14 := zaa.mk (Kd.C_below HC1.out hb); clear hr hb hl4 hC4)
    | ((with_reducible refine zba (N := 36) rfl ?_); refine zbd ?hg (N := 36) ?hd (n := 2) (cs := #[.slice A1 a.length c1, .slice A4 (zbk b a.length).length c4]) (t := 22) ?hr ?_; (case hd => rfl); (case hg => rfl); (case hr => first | (go_simp; done) | (go_simp; rfl)); intro pb hpb w5 hk hb; have HKb := zaa.mk hk; have HB5 := zaa.mk (zae HB4.out hb); have HC15 := zaa.mk (Kd.C_below HC14.out hb); have HC45 := zaa.mk (Kd.C_below HC4.out hb); clear hk hb hpb)
    | (go_at_call 40; refine (concat_calls _ pb A1 A4 c1 c4 a (zbk b a.length) HKb.out HC15.out HC45.out HL1.out HL4.out (by have := HLen.out; rw [zax]; omega) (by have := HLen.out; first | omega | (rw [zax]; omega))).mono ?_; rintro e w6 ⟨v6, rfl, hr, hb⟩; have HR6 := zaa.mk (Kd.R_lower hr HB5.out.size); have HB6 := zaa.mk (zae HB5.out hb); clear hr hb))
   go_ret
   have hr : res = a ++ zbk b a.length := HRes.out
   rw [hr]
   exact ⟨_, rfl, HR6.out, HB6.out⟩
  | false =>
   replace hu : u = 45 := hu
   subst hu
   clear hsgn
   go_wp2_with (first
    | (go_at_call 41; refine (impl_raised.calls K A2 c2 b (a.length : Int) (zbk b a.length) _ HC2.out HL2.out HRa.out).mono ?_; rintro e w4 ⟨v4, rfl, hr, hb⟩; obtain ⟨A4, c4, e4, hl4, hC4⟩ := Kd.R_reads hr; subst e4; have HB4 := zaa.mk (zae HB3.out hb); have HC4 := zaa.mk hC4; have HL4 := zaa.mk hl4; have HC14 := zaa.mk (Kd.C_below HC1.out hb); clear hr hb hl4 hC4)
    | ((with_reducible refine zba (N := 43) rfl ?_); refine zbd ?hg (N := 43) ?hd (n := 2) (cs := #[.slice A4 (zbk b a.length).length c4, .slice A1 a.length c1]) (t := 22) ?hr ?_; (case hd => rfl); (case hg => rfl); (case hr => first | (go_simp; done) | (go_simp; rfl)); intro pb hpb w5 hk hb; have HKb := zaa.mk hk; have HB5 := zaa.mk (zae HB4.out hb); have HC15 := zaa.mk (Kd.C_below HC14.out hb); have HC45 := zaa.mk (Kd.C_below HC4.out hb); clear hk hb hpb)
    | (go_at_call 40; refine (concat_calls _ pb A4 A1 c4 c1 (zbk b a.length) a HKb.out HC45.out HC15.out HL4.out HL1.out (by have := HLen.out; rw [zax]; omega) (by have := HLen.out; first | omega | (rw [zax]; omega))).mono ?_; rintro e w6 ⟨v6, rfl, hr, hb⟩; have HR6 := zaa.mk (Kd.R_lower hr HB5.out.size); have HB6 := zaa.mk (zae HB5.out hb); clear hr hb))
   go_ret
   have hr : res = zbk b a.length ++ a := HRes.out
   rw [hr]
   exact ⟨_, rfl, HR6.out, HB6.out⟩
def impl_TermPerm.f (s : ByteArray) : Option (List Int × Bool) := if s.size ≤ 1048576 then some (zaw s) else none
set_option maxHeartbeats 400000 in
set_option maxRecDepth 100000 in
theorem implPerm_calls (s : ByteArray) (hs : s.size ≤ 1048576) (w : World) : Calls Try.prog 8 #[.string s] w (PermRes w (zaw s)) := by
 have HOf := zaa.mk (termOf_calls s hs w)
 cases hof : ofR s with
 | none =>
  have HR := zaa.mk (show zaw s = ([], false) by unfold zaw; rw [hof])
  rw [hof] at HOf
  clear hof
  go_enter Try.func8, Try.ntmps8
  go_wp2_with (first
   | (go_at_call 22; refine HOf.out.mono ?_; rintro e w2 ⟨q, rfl, hb, hres⟩; replace hres : q = none := hres; subst hres; have HB2 := zaa.mk hb; clear hb))
  go_ret2
  rw [HR.out]
  exact ⟨_, rfl, Kd.R_nil _ _ _ _ _, HB2.out⟩
 | some t =>
  have HR := zaa.mk (show zaw s = (zbc (tid t), true) by unfold zaw; rw [hof])
  have HN := zaa.mk (show (tid t).nodes ≤ 100 by have := ofR_nodes hof; have := zcm t; omega)
  rw [hof] at HOf
  clear hof
  go_enter Try.func8, Try.ntmps8
  go_wp2_with (first
   | (go_at_call 22; refine HOf.out.mono ?_; rintro e w2 ⟨q, rfl, hb, hres⟩; replace hres : ∃ p, q = some ⟨p, 0, none⟩ ∧ PtAt w2 (fun _ => True) t p := hres; obtain ⟨p, rfl, hP⟩ := hres; have HB2 := zaa.mk hb; have HP2 := zaa.mk hP; clear hb hP)
   | (go_at_call 23; refine (tidy_calls t _ p HP2.out).mono ?_; rintro e w3 ⟨m, rfl, hb, hP⟩; have HB3 := zaa.mk (zae HB2.out hb); have HP3 := zaa.mk hP; clear hb hP)
   | (go_at_call 24; refine (permI_calls (tid t) (zcf t) HN.out _ m HP3.out).mono ?_; rintro e w4 ⟨v4, rfl, hr, hb⟩; have HR4 := zaa.mk (Kd.R_lower hr HB3.out.size); have HB4 := zaa.mk (zae HB3.out hb); clear hr hb))
  go_ret2
  rw [HR.out]
  exact ⟨_, rfl, HR4.out, HB4.out⟩
theorem impl_TermPerm.calls (a0 : ByteArray) (r1 : List Int) (r2 : Bool) (w : World) (h : impl_TermPerm.f a0 = some (r1, r2)) :
  Calls Try.prog 8 #[.string a0] w fun e w' => ∃ v0_ : Value, e = .returned (.tuple #[v0_, .bool r2]) ∧ Kd.R (Kd.int .i64) 3 w' w.heap.size (fun _ => True) v0_ r1 ∧ Below w.heap.size w w' := by
 unfold impl_TermPerm.f at h
 split at h
 ·rename_i hs
  have e := Option.some.inj h
  have := implPerm_calls a0 hs w
  rw [e] at this
  exact this
 ·cases h
end Go.Proofs.Ytgiidlebnjbgeaa.Hd
namespace Go.Proofs.Ytgiidlebnjbgeaa.TP
open Go.Proofs.Ytgiidlebnjbgeaa.PB Go.Proofs.Ytgiidlebnjbgeaa.Hd Go.Proofs.Ytgiidlebnjbgeaa.SM
open Go.RowKit Go.PW.PrintWords Go.PW.PrintLast Go.PW.PrintMore
attribute [local go_sem] zbw zbu zcl zck zbh zbg zbv zbt   -- for this text's walks alone
def errW : Option Int → Value
 | none => .nilIface
 | some c => .iface 0 (.int .i64 c)
theorem zam : errW none = .nilIface := rfl
theorem zal (c : Int) : errW (some c) = .iface 0 (.int .i64 c) := rfl
theorem info3 : (Try.prog.info? 3).map (fun i => (i.zero, i.size, i.bytes)) = some (some (.int .i64 0), 1, 8) := by kernel_rfl
structure S38 where
 f0 : Int
 f1 : (List S38)
def z38 : S38 := ⟨(0 : Int), ([] : List S38)⟩
def F38 (d : Kd S38) : Kd S38 := Kd.iso (Kd.pair (Kd.int .u8) (Kd.slice 38 d)) (fun x : S38 => (x.f0, x.f1))
theorem mono38 : Kd.Mono F38 := Kd.mono_iso _ (Kd.mono_pair (Kd.mono_const _) (Kd.mono_slice 38 Kd.mono_id))
theorem sub38 : Kd.Sub F38 [38] := Kd.sub_iso _ (Kd.sub_pair (Kd.sub_const _ (by decide)) (Kd.sub_slice 38 (by decide) Kd.sub_id))
theorem sz38 : ∀ n, (Kd.upto F38 2 [38] n).sz = 2 := Kd.upto_sz (fun _ => rfl)
def k38 : Kd S38 := Kd.fix F38 2 [38] sz38 (Kd.upto_E sub38)
theorem k38_open {w : World} {x : S38} {cs : List Value} (h : k38.K w x cs) : ∃ A1 c1, cs = [.int .u8 x.f0, .slice A1 x.f1.length c1] ∧ x.f1.length ≤ c1 ∧ k38.C w A1 x.f1.length x.f1 := by
 obtain ⟨n, h⟩ := h
 cases n with
 | zero => exact h.elim
 | succ n =>
  obtain ⟨_, _, rfl, rfl, ⟨A1, c1, rfl, l1, g1⟩⟩ := h
  exact ⟨A1, c1, rfl, l1, Kd.fix_C g1⟩
theorem k38_mk (w : World) (x : S38) {A1 : Option Addr} {c1 : Nat} (l1 : x.f1.length ≤ c1) (g1 : k38.C w A1 x.f1.length x.f1) : k38.K w x [.int .u8 x.f0, .slice A1 x.f1.length c1] := by
 obtain ⟨n1, q1⟩ := Kd.fix_C_back mono38 g1
 have r1 := Kd.upto_C_le mono38 sz38 (show n1 ≤ n1 by omega) q1
 exact ⟨n1 + 1, ⟨[.int .u8 x.f0], [.slice A1 x.f1.length c1], rfl, rfl, ⟨A1, c1, rfl, l1, r1⟩⟩⟩
def zar (xs : List S38) (i : Int) : S38 := xs.getD i.toNat z38
theorem at_T38 {w : World} {A : Option Addr} {n : Nat} {xs : List S38} (h : Kd.C k38 w A n xs) (i : Int) (h0 : 0 ≤ i) (h1 : i < n) : ∃ ad A1 c1, A = some ad ∧ w.cell? (ad.add (i.toNat * 2)) = some (.int .u8 (zar xs i).f0) ∧ w.cell? ⟨(ad.add (i.toNat * 2)).block, (ad.add (i.toNat * 2)).off + 1, none⟩ = some (.slice A1 (zar xs i).f1.length c1) ∧ (zar xs i).f1.length ≤ c1 ∧ k38.C w A1 (zar xs i).f1.length (zar xs i).f1 := by
 obtain ⟨ad, c, e, _, hK, hc0⟩ := Kd.C_get h z38 i h0 h1
 have hc : ∀ j u, c[j]? = some u → w.cell? (ad.add (i.toNat * 2 + j)) = some u := hc0
 obtain ⟨A1, c1, rfl, l1, g1⟩ := k38_open hK
 exact ⟨ad, A1, c1, e, hc 0 _ rfl, by rw [← add_field _ _ 1 (by omega)]; exact hc 1 _ rfl, l1, g1⟩
end Go.Proofs.Ytgiidlebnjbgeaa.TP
namespace Go.Proofs.Ytgiidlebnjbgeaa.TP
open Go.Proofs.Ytgiidlebnjbgeaa.PB Go.Proofs.Ytgiidlebnjbgeaa.Hd Go.Proofs.Ytgiidlebnjbgeaa.SM
open Go.RowKit Go.PW.PrintWords Go.PW.PrintLast Go.PW.PrintMore
attribute [local go_sem] zbw zbu zcl zck zbh zbg zbv zbt   -- for this text's walks alone
mutual
def laws_FnExactTermPerm.j0 : Nat → ByteArray → List Int → Bool → List Int → Bool → Option (Bool)
 | 0, _, _, _, _, _ => none
 | k + 1, x0, x3, x4, x5, x32 => if x32 = true then (some false) else ((laws_markIntS.f k x5 1).bind fun bt226 => ((laws_heldIntS.f k bt226.2 1).bind fun t228 => (if t228 < 0 then (some false) else (if t228 = bt226.1 then ((impl_TermPerm.f x0).bind fun bt229 => ((laws_eqIntS.f k bt229.1 x3).bind fun t233 => (if t233 = true then (laws_FnExactTermPerm.j1 k bt226.2 bt226.1 (bt229.2 != x4)) else (laws_FnExactTermPerm.j1 k bt226.2 bt226.1 true)))) else (some false)))))
def laws_FnExactTermPerm.j1 : Nat → List Int → Int → Bool → Option (Bool)
 | 0, _, _, _ => none
 | k + 1, x5, x7, x57 => if x57 = true then (some false) else ((laws_heldIntS.f k x5 1).bind fun t234 => (if t234 < 0 then (some false) else (if t234 = x7 then (some true) else (some false))))
end
def laws_FnExactTermPerm.f (k : Nat) (a0 : ByteArray) : Option (Bool) := if (a0.size : Int) > 1048576 then (some true) else ((spec_TermPerm.f a0).bind fun bt217 => ((impl_TermPerm.f a0).bind fun bt221 => ((laws_eqIntS.f k bt221.1 bt217.1).bind fun t225 => (if t225 = true then (laws_FnExactTermPerm.j0 k a0 bt217.1 bt217.2 bt221.1 (bt221.2 != bt217.2)) else (laws_FnExactTermPerm.j0 k a0 bt217.1 bt217.2 bt221.1 true)))))
set_option maxHeartbeats 8000000 in
set_option maxRecDepth 100000 in
theorem laws_FnExactTermPerm.calls (k : Nat) (a0 : ByteArray) (r : Bool) (w : World) (h : laws_FnExactTermPerm.f k a0 = some r) :
  Calls Try.prog 3 #[.string a0] w fun e w' => e = .returned (.bool r) ∧ Below w.heap.size w w' := by
 have HB := zaa.mk (Below.refl w.heap.size w)
 have H : (if (a0.size : Int) > 1048576 then (some true) else ((spec_TermPerm.f a0).bind fun bt217 => ((impl_TermPerm.f a0).bind fun bt221 => ((laws_eqIntS.f k bt221.1 bt217.1).bind fun t225 => (if t225 = true then (laws_FnExactTermPerm.j0 k a0 bt217.1 bt217.2 bt221.1 (bt221.2 != bt217.2)) else (laws_FnExactTermPerm.j0 k a0 bt217.1 bt217.2 bt221.1 true)))))) = some r := h
 clear h
 by_cases c2 : (a0.size : Int) > 1048576
 ·rw [if_pos c2] at H
  have c2b0 : decide (1048576 < (a0.size : Int)) = true := decide_eq_true c2
  have c2b1 : decide (1048576 < a0.size) = true := decide_eq_true (by omega)
  clear c2
  obtain rfl := Option.some.inj H
  go_enter Try.func3, Try.ntmps3
  go_wp2
  go_ret
  exact ⟨by first | rfl | (simp [zam, zal] <;> rfl) | (simp [*, zam, zal] <;> rfl), by repeat (first | (with_reducible first | exact HB.out | apply zab | apply zac | apply zag) | exact HB.out)⟩
 ·rw [if_neg c2] at H
  have c2b0 : decide (1048576 < (a0.size : Int)) = false := decide_eq_false c2
  have c2b1 : decide (1048576 < a0.size) = false := decide_eq_false (by omega)
  clear c2
  replace H := Option.bind_eq_some_iff.mp H
  obtain ⟨⟨t217, t218⟩, A30, H⟩ := H
  replace H : ((impl_TermPerm.f a0).bind fun bt221 => ((laws_eqIntS.f k bt221.1 t217).bind fun t225 => (if t225 = true then (laws_FnExactTermPerm.j0 k a0 t217 t218 bt221.1 (bt221.2 != t218)) else (laws_FnExactTermPerm.j0 k a0 t217 t218 bt221.1 true)))) = some r := H
  have A3 := zaa.mk A30
  clear A30
  replace H := Option.bind_eq_some_iff.mp H
  obtain ⟨⟨t221, t222⟩, A40, H⟩ := H
  replace H : ((laws_eqIntS.f k t221 t217).bind fun t225 => (if t225 = true then (laws_FnExactTermPerm.j0 k a0 t217 t218 t221 (t222 != t218)) else (laws_FnExactTermPerm.j0 k a0 t217 t218 t221 true))) = some r := H
  have A4 := zaa.mk A40
  clear A40
  have HC5 := zaa.mk H
  clear H
  go_enter Try.func3, Try.ntmps3
  go_upto_region 5 with (first | ((with_reducible refine zan (f := 7) rfl ?_); refine zbn (some 16) rfl rfl Try.func7 (by kernel_rfl) rfl #[.string a0] rfl (by (try simp only [List.map_toArray, List.map_cons, List.map_nil]); first | done | rfl | (simp only [List.length_drop, List.length_take]; rfl)) ?_; (with_reducible refine (spec_TermPerm.calls a0 t217 t218 _ A3.out).mono ?_); rintro e w6 ⟨v219, rfl, ho0, hb⟩; refine ⟨_, rfl, ?_⟩; have n0_ := zaa.mk (Kd.R_lower ho0 (zaq (by repeat (first | (with_reducible first | exact HB.out | apply zab | apply zac | apply zag) | exact HB.out)))); have n1_ := zaa.mk (zae (by repeat (first | (with_reducible first | exact HB.out | apply zab | apply zac | apply zag) | exact HB.out)) hb); clear HB; have HO220 := n0_; have HB := n1_; clear n0_ n1_; (try clear hb); (try clear hb2); (try clear hk); (try clear hi); (try clear ho0)) | ((with_reducible refine zan (f := 8) rfl ?_); refine zbn (some 21) rfl rfl Try.func8 (by kernel_rfl) rfl #[.string a0] rfl (by (try simp only [List.map_toArray, List.map_cons, List.map_nil]); first | done | rfl | (simp only [List.length_drop, List.length_take]; rfl)) ?_; (with_reducible refine (impl_TermPerm.calls a0 t221 t222 _ A4.out).mono ?_); rintro e w7 ⟨v223, rfl, ho0, hb⟩; refine ⟨_, rfl, ?_⟩; have n0_ := zaa.mk (Kd.R_elder' (by (with_reducible repeat (first | apply Kd.R_alloc | apply Kd.R_drewN | apply Kd.R_drew)); exact HO220.out) (Kd.R_base ho0) hb); have n1_ := zaa.mk (Kd.R_lower (Kd.R_new' ho0 (Kd.R_lt (by (with_reducible repeat (first | apply Kd.R_alloc | apply Kd.R_drewN | apply Kd.R_drew)); exact HO220.out))) (zaq (by repeat (first | (with_reducible first | exact HB.out | apply zab | apply zac | apply zag) | exact HB.out)))); have n2_ := zaa.mk (zae (by repeat (first | (with_reducible first | exact HB.out | apply zab | apply zac | apply zag) | exact HB.out)) hb); clear HO220; clear HB; have HO220 := n0_; have HO224 := n1_; have HB := n2_; clear n0_ n1_ n2_; (try clear hb); (try clear hb2); (try clear hk); (try clear hi); (try clear ho0)))
  (try simp only [Act.put, List.setIfInBounds_toArray, List.set_cons_zero, List.set_cons_succ])
  go_cut [32] (fun v32 wc => ∃ (kq : Nat) (x32_4 : Bool), v32 = .bool x32_4 ∧ zaa (laws_FnExactTermPerm.j0 kq a0 t217 t218 t221 x32_4 = some r) ∧ zaa (kq ≤ k) ∧ zaa (Kd.R (Kd.int .i64) 3 wc w.heap.size (fun k_ => some k_ ≠ (v223 : Value).ownBlock) v219 t217) ∧ zaa (Kd.R (Kd.int .i64) 3 wc w.heap.size (fun k_ => some k_ ≠ (v219 : Value).ownBlock) v223 t221) ∧ zaa (Below w.heap.size w wc))
  case first =>
   have H := HC5.out
   clear HC5
   replace H := Option.bind_eq_some_iff.mp H
   obtain ⟨t225, A80, H⟩ := H
   replace H : (if t225 = true then (laws_FnExactTermPerm.j0 k a0 t217 t218 t221 (t222 != t218)) else (laws_FnExactTermPerm.j0 k a0 t217 t218 t221 true)) = some r := H
   have A8 := zaa.mk A80
   clear A80
   by_cases c9 : t225 = true
   ·subst c9
    have H1 : (laws_FnExactTermPerm.j0 k a0 t217 t218 t221 (t222 != t218)) = some r := by rw [if_pos rfl] at H; exact H
    clear H
    have H := H1
    clear H1
    have H' := zaa.mk H
    clear H
    obtain ⟨Ao10, co10, eo10⟩ := Kd.R_slice HO224.out
    subst eo10
    obtain ⟨Ao11, co11, eo11⟩ := Kd.R_slice HO220.out
    subst eo11
    go_wp2_with (first | ((with_reducible refine zan (f := 9) rfl ?_); refine zbn (some 26) rfl rfl Try.func9 (by kernel_rfl) rfl #[.slice Ao10 t221.length co10, .slice Ao11 t217.length co11] rfl (by (try simp only [List.map_toArray, List.map_cons, List.map_nil]); first | done | rfl | (simp only [List.length_drop, List.length_take]; rfl)) ?_; (with_reducible refine (laws_eqIntS.calls k _ _ t221 _ _ t217 true _ ?side1 ?side2 ?side3 ?side4 A8.out).mono ?_); (case side1 => repeat (first | exact (Kd.R_reads' HO224.out).2.2 | (with_reducible refine Kd.C_alloc ?_ _) | (with_reducible refine Kd.C_drewN ?_ _) | (with_reducible refine Kd.C_drew ?_))); (case side2 => exact (Kd.R_reads' HO224.out).2.1); (case side3 => repeat (first | exact (Kd.R_reads' HO220.out).2.2 | (with_reducible refine Kd.C_alloc ?_ _) | (with_reducible refine Kd.C_drewN ?_ _) | (with_reducible refine Kd.C_drew ?_))); (case side4 => exact (Kd.R_reads' HO220.out).2.1); rintro e w' ⟨rfl, ⟨nd, rfl⟩⟩; refine ⟨_, rfl, ?_⟩))
    go_meet
    case rel => exact ⟨_, ((t222 != t218)), (by first | rfl | (simp; done) | (simp [*]; done)), H', ⟨by first | omega | exact Nat.le_refl _⟩, ⟨by (with_reducible repeat (first | apply Kd.R_alloc | apply Kd.R_drewN | apply Kd.R_drew)); exact Kd.R_mono HO220.out (fun _ hk => hk.2)⟩, ⟨by (with_reducible repeat (first | apply Kd.R_alloc | apply Kd.R_drewN | apply Kd.R_drew)); exact Kd.R_mono HO224.out (fun _ hk => hk.2)⟩, ⟨by repeat (first | (with_reducible first | exact HB.out | apply zab | apply zac | apply zag) | exact HB.out)⟩⟩
   ·replace c9 := Bool.eq_false_iff.mpr c9
    subst c9
    have H1 : (laws_FnExactTermPerm.j0 k a0 t217 t218 t221 true) = some r := by rw [if_neg (show ¬ (false = true) by decide)] at H; exact H
    clear H
    have H := H1
    clear H1
    have H' := zaa.mk H
    clear H
    obtain ⟨Ao12, co12, eo12⟩ := Kd.R_slice HO224.out
    subst eo12
    obtain ⟨Ao13, co13, eo13⟩ := Kd.R_slice HO220.out
    subst eo13
    go_wp2_with (first | ((with_reducible refine zan (f := 9) rfl ?_); refine zbn (some 26) rfl rfl Try.func9 (by kernel_rfl) rfl #[.slice Ao12 t221.length co12, .slice Ao13 t217.length co13] rfl (by (try simp only [List.map_toArray, List.map_cons, List.map_nil]); first | done | rfl | (simp only [List.length_drop, List.length_take]; rfl)) ?_; (with_reducible refine (laws_eqIntS.calls k _ _ t221 _ _ t217 false _ ?side1 ?side2 ?side3 ?side4 A8.out).mono ?_); (case side1 => repeat (first | exact (Kd.R_reads' HO224.out).2.2 | (with_reducible refine Kd.C_alloc ?_ _) | (with_reducible refine Kd.C_drewN ?_ _) | (with_reducible refine Kd.C_drew ?_))); (case side2 => exact (Kd.R_reads' HO224.out).2.1); (case side3 => repeat (first | exact (Kd.R_reads' HO220.out).2.2 | (with_reducible refine Kd.C_alloc ?_ _) | (with_reducible refine Kd.C_drewN ?_ _) | (with_reducible refine Kd.C_drew ?_))); (case side4 => exact (Kd.R_reads' HO220.out).2.1); rintro e w' ⟨rfl, ⟨nd, rfl⟩⟩; refine ⟨_, rfl, ?_⟩))
    go_meet
    case rel => exact ⟨_, (true), (by first | rfl | (simp; done) | (simp [*]; done)), H', ⟨by first | omega | exact Nat.le_refl _⟩, ⟨by (with_reducible repeat (first | apply Kd.R_alloc | apply Kd.R_drewN | apply Kd.R_drew)); exact Kd.R_mono HO220.out (fun _ hk => hk.2)⟩, ⟨by (with_reducible repeat (first | apply Kd.R_alloc | apply Kd.R_drewN | apply Kd.R_drew)); exact Kd.R_mono HO224.out (fun _ hk => hk.2)⟩, ⟨by repeat (first | (with_reducible first | exact HB.out | apply zab | apply zac | apply zag) | exact HB.out)⟩⟩
  case rest =>
   clear HC5
   try clear c2
   try clear c2b0
   try clear c2b1
   try clear p2
   try clear c3
   try clear c7
   try clear c8
   try clear c9
   obtain ⟨kq, x32_4, rfl, HA, HJ4, HO_3, HO_5, HB⟩ := hcut
   cases kq with
   | zero => exact absurd HA.out (by simp [laws_FnExactTermPerm.j0])
   | succ kj4 =>
    have H := HA.out
    clear HA
    simp only [laws_FnExactTermPerm.j0] at H
    by_cases c14 : x32_4 = true
    ·subst c14
     have H1 : (some false) = some r := by rw [if_pos rfl] at H; exact H
     clear H
     have H := H1
     clear H1
     obtain rfl := Option.some.inj H
     go_wp2
     go_ret
     exact ⟨by first | rfl | (simp [zam, zal] <;> rfl) | (simp [*, zam, zal] <;> rfl), by repeat (first | (with_reducible first | exact HB.out | apply zab | apply zac | apply zag) | exact HB.out)⟩
    ·replace c14 := Bool.eq_false_iff.mpr c14
     subst c14
     have H1 : ((laws_markIntS.f kj4 t221 1).bind fun bt226 => ((laws_heldIntS.f kj4 bt226.2 1).bind fun t228 => (if t228 < 0 then (some false) else (if t228 = bt226.1 then ((impl_TermPerm.f a0).bind fun bt229 => ((laws_eqIntS.f kj4 bt229.1 t217).bind fun t233 => (if t233 = true then (laws_FnExactTermPerm.j1 kj4 bt226.2 bt226.1 (bt229.2 != t218)) else (laws_FnExactTermPerm.j1 kj4 bt226.2 bt226.1 true)))) else (some false))))) = some r := by rw [if_neg (show ¬ (false = true) by decide)] at H; exact H
     clear H
     have H := H1
     clear H1
     replace H := Option.bind_eq_some_iff.mp H
     obtain ⟨⟨t226, t227⟩, A150, H⟩ := H
     replace H : ((laws_heldIntS.f kj4 t227 1).bind fun t228 => (if t228 < 0 then (some false) else (if t228 = t226 then ((impl_TermPerm.f a0).bind fun bt229 => ((laws_eqIntS.f kj4 bt229.1 t217).bind fun t233 => (if t233 = true then (laws_FnExactTermPerm.j1 kj4 t227 t226 (bt229.2 != t218)) else (laws_FnExactTermPerm.j1 kj4 t227 t226 true)))) else (some false)))) = some r := H
     have A15 := zaa.mk A150
     clear A150
     replace H := Option.bind_eq_some_iff.mp H
     obtain ⟨t228, A160, H⟩ := H
     replace H : (if t228 < 0 then (some false) else (if t228 = t226 then ((impl_TermPerm.f a0).bind fun bt229 => ((laws_eqIntS.f kj4 bt229.1 t217).bind fun t233 => (if t233 = true then (laws_FnExactTermPerm.j1 kj4 t227 t226 (bt229.2 != t218)) else (laws_FnExactTermPerm.j1 kj4 t227 t226 true)))) else (some false))) = some r := H
     have A16 := zaa.mk A160
     clear A160
     by_cases c17 : t228 < 0
     ·rw [if_pos c17] at H
      have c17b0 : decide (t228 < 0) = true := decide_eq_true c17
      clear c17
      obtain rfl := Option.some.inj H
      obtain ⟨Ao18, co18, eo18⟩ := Kd.R_slice HO_5.out
      subst eo18
      go_wp2_with (first | ((with_reducible refine zan (f := 10) rfl ?_); refine zbn (some 35) rfl rfl Try.func10 (by kernel_rfl) rfl #[.slice Ao18 t221.length co18, .int .i64 1] rfl (by (try simp only [List.map_toArray, List.map_cons, List.map_nil]); first | done | rfl | (simp only [List.length_drop, List.length_take]; rfl)) ?_; (with_reducible refine (laws_markIntS.calls kj4 (fun k_ => some k_ = (.slice Ao18 t221.length co18 : Value).ownBlock) (.slice Ao18 t221.length co18) t221 1 t226 t227 w _ ?side1 ?side2 A15.out).mono ?_); (case side1 => repeat (first | (with_reducible first | exact HB.out | apply zab | apply zac | apply zag) | exact HB.out)); (case side2 => exact Kd.R_tight rfl HO_5.out); rintro e w19 ⟨rfl, hy0, hb, hkp⟩; refine ⟨_, rfl, ?_⟩; have n0_ := zaa.mk (Kd.R_mono (ok' := fun k_ => some k_ ≠ (.slice Ao18 t221.length co18 : Value).ownBlock) (Kd.R_keptB (HO_3.out) hkp (fun k_ hk_ hs_ => (hk_) hs_)) (fun k_ hk_ => hk_.1)); have n1_ := zaa.mk (Kd.R_reok rfl hy0 (fun k_ e_ => HO_5.out.1 k_ e_)); have n2_ := zaa.mk (hb); clear HO_3; clear HO_5; clear HB; have HO_3 := n0_; have HO_5 := n1_; have HB := n2_; clear n0_ n1_ n2_; (try clear hb); (try clear hkp); (try clear hy0)) | ((with_reducible refine zan (f := 11) rfl ?_); refine zbn (some 38) rfl rfl Try.func11 (by kernel_rfl) rfl #[.slice Ao18 t227.length co18, .int .i64 1] rfl (by (try simp only [List.map_toArray, List.map_cons, List.map_nil]); first | done | (rw [show t227.length = t221.length from (Kd.R_reads' HO_5.out).1.symm] <;> rfl) | rfl | (simp only [List.length_drop, List.length_take]; rfl)) ?_; (with_reducible refine (laws_heldIntS.calls kj4 _ _ t227 1 t228 _ ?side1 ?side2 A16.out).mono ?_); (case side1 => repeat (first | exact (Kd.R_reads' HO_5.out).2.2 | (with_reducible refine Kd.C_alloc ?_ _) | (with_reducible refine Kd.C_drewN ?_ _) | (with_reducible refine Kd.C_drew ?_))); (case side2 => rw [show t227.length = t221.length from (Kd.R_reads' HO_5.out).1.symm]; exact (Kd.R_reads' HO_5.out).2.1); rintro e w' ⟨rfl, ⟨nd, rfl⟩⟩; refine ⟨_, rfl, ?_⟩))
      go_ret
      exact ⟨by first | rfl | (simp [zam, zal] <;> rfl) | (simp [*, zam, zal] <;> rfl), by repeat (first | (with_reducible first | exact HB.out | apply zab | apply zac | apply zag) | exact HB.out)⟩
     ·rw [if_neg c17] at H
      have c17b0 : decide (t228 < 0) = false := decide_eq_false c17
      clear c17
      by_cases c20 : t228 = t226
      ·rw [if_pos c20] at H
       have c20b0 : (t228 == t226) = true := beq_iff_eq.mpr c20
       have c20b1 : (t228 != t226) = false := bne_eq_false_iff_eq.mpr c20
       clear c20
       replace H := Option.bind_eq_some_iff.mp H
       obtain ⟨⟨t229, t230⟩, A210, H⟩ := H
       replace H : ((laws_eqIntS.f kj4 t229 t217).bind fun t233 => (if t233 = true then (laws_FnExactTermPerm.j1 kj4 t227 t226 (t230 != t218)) else (laws_FnExactTermPerm.j1 kj4 t227 t226 true))) = some r := H
       have A21 := zaa.mk A210
       clear A210
       have HC22 := zaa.mk H
       clear H
       obtain ⟨Ao23, co23, eo23⟩ := Kd.R_slice HO_5.out
       subst eo23
       go_upto_region 16 with (first | ((with_reducible refine zan (f := 10) rfl ?_); refine zbn (some 35) rfl rfl Try.func10 (by kernel_rfl) rfl #[.slice Ao23 t221.length co23, .int .i64 1] rfl (by (try simp only [List.map_toArray, List.map_cons, List.map_nil]); first | done | rfl | (simp only [List.length_drop, List.length_take]; rfl)) ?_; (with_reducible refine (laws_markIntS.calls kj4 (fun k_ => some k_ = (.slice Ao23 t221.length co23 : Value).ownBlock) (.slice Ao23 t221.length co23) t221 1 t226 t227 w _ ?side1 ?side2 A15.out).mono ?_); (case side1 => repeat (first | (with_reducible first | exact HB.out | apply zab | apply zac | apply zag) | exact HB.out)); (case side2 => exact Kd.R_tight rfl HO_5.out); rintro e w24 ⟨rfl, hy0, hb, hkp⟩; refine ⟨_, rfl, ?_⟩; have n0_ := zaa.mk (Kd.R_mono (ok' := fun k_ => some k_ ≠ (.slice Ao23 t221.length co23 : Value).ownBlock) (Kd.R_keptB (HO_3.out) hkp (fun k_ hk_ hs_ => (hk_) hs_)) (fun k_ hk_ => hk_.1)); have n1_ := zaa.mk (Kd.R_reok rfl hy0 (fun k_ e_ => HO_5.out.1 k_ e_)); have n2_ := zaa.mk (hb); clear HO_3; clear HO_5; clear HB; have HO_3 := n0_; have HO_5 := n1_; have HB := n2_; clear n0_ n1_ n2_; (try clear hb); (try clear hkp); (try clear hy0)) | ((with_reducible refine zan (f := 11) rfl ?_); refine zbn (some 38) rfl rfl Try.func11 (by kernel_rfl) rfl #[.slice Ao23 t227.length co23, .int .i64 1] rfl (by (try simp only [List.map_toArray, List.map_cons, List.map_nil]); first | done | (rw [show t227.length = t221.length from (Kd.R_reads' HO_5.out).1.symm] <;> rfl) | rfl | (simp only [List.length_drop, List.length_take]; rfl)) ?_; (with_reducible refine (laws_heldIntS.calls kj4 _ _ t227 1 t228 _ ?side1 ?side2 A16.out).mono ?_); (case side1 => repeat (first | exact (Kd.R_reads' HO_5.out).2.2 | (with_reducible refine Kd.C_alloc ?_ _) | (with_reducible refine Kd.C_drewN ?_ _) | (with_reducible refine Kd.C_drew ?_))); (case side2 => rw [show t227.length = t221.length from (Kd.R_reads' HO_5.out).1.symm]; exact (Kd.R_reads' HO_5.out).2.1); rintro e w' ⟨rfl, ⟨nd, rfl⟩⟩; refine ⟨_, rfl, ?_⟩) | ((with_reducible refine zan (f := 8) rfl ?_); refine zbn (some 46) rfl rfl Try.func8 (by kernel_rfl) rfl #[.string a0] rfl (by (try simp only [List.map_toArray, List.map_cons, List.map_nil]); first | done | rfl | (simp only [List.length_drop, List.length_take]; rfl)) ?_; (with_reducible refine (impl_TermPerm.calls a0 t229 t230 _ A21.out).mono ?_); rintro e w25 ⟨v231, rfl, ho0, hb⟩; refine ⟨_, rfl, ?_⟩; have n0_ := zaa.mk (Kd.R_elder' (by (with_reducible repeat (first | apply Kd.R_alloc | apply Kd.R_drewN | apply Kd.R_drew)); exact HO_3.out) (Kd.R_base ho0) hb); have n1_ := zaa.mk (Kd.R_elder' (by (with_reducible repeat (first | apply Kd.R_alloc | apply Kd.R_drewN | apply Kd.R_drew)); exact HO_5.out) (Kd.R_base ho0) hb); have n2_ := zaa.mk (Kd.R_lower (Kd.R_new' (Kd.R_new' ho0 (Kd.R_lt (by (with_reducible repeat (first | apply Kd.R_alloc | apply Kd.R_drewN | apply Kd.R_drew)); exact HO_3.out))) (Kd.R_lt (by (with_reducible repeat (first | apply Kd.R_alloc | apply Kd.R_drewN | apply Kd.R_drew)); exact HO_5.out))) (zaq (by repeat (first | (with_reducible first | exact HB.out | apply zab | apply zac | apply zag) | exact HB.out)))); have n3_ := zaa.mk (zae (by repeat (first | (with_reducible first | exact HB.out | apply zab | apply zac | apply zag) | exact HB.out)) hb); clear HO_3; clear HO_5; clear HB; have HO_3 := n0_; have HO_5 := n1_; have HO232 := n2_; have HB := n3_; clear n0_ n1_ n2_ n3_; (try clear hb); (try clear hb2); (try clear hk); (try clear hi); (try clear ho0)))
       (try simp only [Act.put, List.setIfInBounds_toArray, List.set_cons_zero, List.set_cons_succ])
       go_cut [57] (fun v57 wc => ∃ (kq : Nat) (x57_21 : Bool), v57 = .bool x57_21 ∧ zaa (laws_FnExactTermPerm.j1 kq t227 t226 x57_21 = some r) ∧ zaa (kq ≤ kj4) ∧ zaa (Kd.R (Kd.int .i64) 3 wc w.heap.size (fun _ => True) (.slice Ao23 t221.length co23) t227) ∧ zaa (Below w.heap.size w wc))
       case first =>
        have H := HC22.out
        clear HC22
        replace H := Option.bind_eq_some_iff.mp H
        obtain ⟨t233, A260, H⟩ := H
        replace H : (if t233 = true then (laws_FnExactTermPerm.j1 kj4 t227 t226 (t230 != t218)) else (laws_FnExactTermPerm.j1 kj4 t227 t226 true)) = some r := H
        have A26 := zaa.mk A260
        clear A260
        by_cases c27 : t233 = true
        ·subst c27
         have H1 : (laws_FnExactTermPerm.j1 kj4 t227 t226 (t230 != t218)) = some r := by rw [if_pos rfl] at H; exact H
         clear H
         have H := H1
         clear H1
         have H' := zaa.mk H
         clear H
         obtain ⟨Ao28, co28, eo28⟩ := Kd.R_slice HO232.out
         subst eo28
         obtain ⟨Ao29, co29, eo29⟩ := Kd.R_slice HO_3.out
         subst eo29
         go_wp2_with (first | ((with_reducible refine zan (f := 9) rfl ?_); refine zbn (some 51) rfl rfl Try.func9 (by kernel_rfl) rfl #[.slice Ao28 t229.length co28, .slice Ao29 t217.length co29] rfl (by (try simp only [List.map_toArray, List.map_cons, List.map_nil]); first | done | rfl | (simp only [List.length_drop, List.length_take]; rfl)) ?_; (with_reducible refine (laws_eqIntS.calls kj4 _ _ t229 _ _ t217 true _ ?side1 ?side2 ?side3 ?side4 A26.out).mono ?_); (case side1 => repeat (first | exact (Kd.R_reads' HO232.out).2.2 | (with_reducible refine Kd.C_alloc ?_ _) | (with_reducible refine Kd.C_drewN ?_ _) | (with_reducible refine Kd.C_drew ?_))); (case side2 => exact (Kd.R_reads' HO232.out).2.1); (case side3 => repeat (first | exact (Kd.R_reads' HO_3.out).2.2 | (with_reducible refine Kd.C_alloc ?_ _) | (with_reducible refine Kd.C_drewN ?_ _) | (with_reducible refine Kd.C_drew ?_))); (case side4 => exact (Kd.R_reads' HO_3.out).2.1); rintro e w' ⟨rfl, ⟨nd, rfl⟩⟩; refine ⟨_, rfl, ?_⟩))
         go_meet
         case rel => exact ⟨_, ((t230 != t218)), (by first | rfl | (simp; done) | (simp [*]; done)), H', ⟨by have := HJ4.out; first | omega | exact Nat.le_refl _⟩, ⟨by (with_reducible repeat (first | apply Kd.R_alloc | apply Kd.R_drewN | apply Kd.R_drew)); exact Kd.R_mono HO_5.out (fun _ hk => trivial)⟩, ⟨by repeat (first | (with_reducible first | exact HB.out | apply zab | apply zac | apply zag) | exact HB.out)⟩⟩
        ·replace c27 := Bool.eq_false_iff.mpr c27
         subst c27
         have H1 : (laws_FnExactTermPerm.j1 kj4 t227 t226 true) = some r := by rw [if_neg (show ¬ (false = true) by decide)] at H; exact H
         clear H
         have H := H1
         clear H1
         have H' := zaa.mk H
         clear H
         obtain ⟨Ao30, co30, eo30⟩ := Kd.R_slice HO232.out
         subst eo30
         obtain ⟨Ao31, co31, eo31⟩ := Kd.R_slice HO_3.out
         subst eo31
         go_wp2_with (first | ((with_reducible refine zan (f := 9) rfl ?_); refine zbn (some 51) rfl rfl Try.func9 (by kernel_rfl) rfl #[.slice Ao30 t229.length co30, .slice Ao31 t217.length co31] rfl (by (try simp only [List.map_toArray, List.map_cons, List.map_nil]); first | done | rfl | (simp only [List.length_drop, List.length_take]; rfl)) ?_; (with_reducible refine (laws_eqIntS.calls kj4 _ _ t229 _ _ t217 false _ ?side1 ?side2 ?side3 ?side4 A26.out).mono ?_); (case side1 => repeat (first | exact (Kd.R_reads' HO232.out).2.2 | (with_reducible refine Kd.C_alloc ?_ _) | (with_reducible refine Kd.C_drewN ?_ _) | (with_reducible refine Kd.C_drew ?_))); (case side2 => exact (Kd.R_reads' HO232.out).2.1); (case side3 => repeat (first | exact (Kd.R_reads' HO_3.out).2.2 | (with_reducible refine Kd.C_alloc ?_ _) | (with_reducible refine Kd.C_drewN ?_ _) | (with_reducible refine Kd.C_drew ?_))); (case side4 => exact (Kd.R_reads' HO_3.out).2.1); rintro e w' ⟨rfl, ⟨nd, rfl⟩⟩; refine ⟨_, rfl, ?_⟩))
         go_meet
         case rel => exact ⟨_, (true), (by first | rfl | (simp; done) | (simp [*]; done)), H', ⟨by have := HJ4.out; first | omega | exact Nat.le_refl _⟩, ⟨by (with_reducible repeat (first | apply Kd.R_alloc | apply Kd.R_drewN | apply Kd.R_drew)); exact Kd.R_mono HO_5.out (fun _ hk => trivial)⟩, ⟨by repeat (first | (with_reducible first | exact HB.out | apply zab | apply zac | apply zag) | exact HB.out)⟩⟩
       case rest =>
        clear HC22
        try clear c1
        try clear c2
        try clear c2b0
        try clear c2b1
        try clear p2
        try clear c3
        try clear c7
        try clear c8
        try clear c9
        try clear c10
        try clear c11
        try clear c14
        try clear c17
        try clear c17b0
        try clear c20
        try clear c20b0
        try clear c20b1
        try clear c27
        try clear p2
        obtain ⟨kq, x57_21, rfl, HA, HJ21, HO_5, HB⟩ := hcut
        have hl5_21 := (Kd.R_reads' HO_5.out).1
        rw [hl5_21] at HO_5
        (try simp only [hl5_21])
        cases kq with
        | zero => exact absurd HA.out (by simp [laws_FnExactTermPerm.j1])
        | succ kj21 =>
         have H := HA.out
         clear HA
         simp only [laws_FnExactTermPerm.j1] at H
         by_cases c32 : x57_21 = true
         ·subst c32
          have H1 : (some false) = some r := by rw [if_pos rfl] at H; exact H
          clear H
          have H := H1
          clear H1
          obtain rfl := Option.some.inj H
          go_wp2
          go_ret
          exact ⟨by first | rfl | (simp [zam, zal] <;> rfl) | (simp [*, zam, zal] <;> rfl), by repeat (first | (with_reducible first | exact HB.out | apply zab | apply zac | apply zag) | exact HB.out)⟩
         ·replace c32 := Bool.eq_false_iff.mpr c32
          subst c32
          have H1 : ((laws_heldIntS.f kj21 t227 1).bind fun t234 => (if t234 < 0 then (some false) else (if t234 = t226 then (some true) else (some false)))) = some r := by rw [if_neg (show ¬ (false = true) by decide)] at H; exact H
          clear H
          have H := H1
          clear H1
          replace H := Option.bind_eq_some_iff.mp H
          obtain ⟨t234, A330, H⟩ := H
          replace H : (if t234 < 0 then (some false) else (if t234 = t226 then (some true) else (some false))) = some r := H
          have A33 := zaa.mk A330
          clear A330
          by_cases c34 : t234 < 0
          ·rw [if_pos c34] at H
           have c34b0 : decide (t234 < 0) = true := decide_eq_true c34
           clear c34
           obtain rfl := Option.some.inj H
           go_wp2_with (first | ((with_reducible refine zan (f := 11) rfl ?_); refine zbn (some 60) rfl rfl Try.func11 (by kernel_rfl) rfl #[.slice Ao23 t227.length co23, .int .i64 1] rfl (by (try simp only [List.map_toArray, List.map_cons, List.map_nil]); first | done | rfl | (simp only [List.length_drop, List.length_take]; rfl)) ?_; (with_reducible refine (laws_heldIntS.calls kj21 _ _ t227 1 t234 _ ?side1 ?side2 A33.out).mono ?_); (case side1 => repeat (first | exact (Kd.R_reads' HO_5.out).2.2 | (with_reducible refine Kd.C_alloc ?_ _) | (with_reducible refine Kd.C_drewN ?_ _) | (with_reducible refine Kd.C_drew ?_))); (case side2 => exact (Kd.R_reads' HO_5.out).2.1); rintro e w' ⟨rfl, ⟨nd, rfl⟩⟩; refine ⟨_, rfl, ?_⟩))
           go_ret
           exact ⟨by first | rfl | (simp [zam, zal] <;> rfl) | (simp [*, zam, zal] <;> rfl), by repeat (first | (with_reducible first | exact HB.out | apply zab | apply zac | apply zag) | exact HB.out)⟩
          ·rw [if_neg c34] at H
           have c34b0 : decide (t234 < 0) = false := decide_eq_false c34
           clear c34
           by_cases c35 : t234 = t226
           ·rw [if_pos c35] at H
            have c35b0 : (t234 == t226) = true := beq_iff_eq.mpr c35
            have c35b1 : (t234 != t226) = false := bne_eq_false_iff_eq.mpr c35
            clear c35
            obtain rfl := Option.some.inj H
            go_wp2_with (first | ((with_reducible refine zan (f := 11) rfl ?_); refine zbn (some 60) rfl rfl Try.func11 (by kernel_rfl) rfl #[.slice Ao23 t227.length co23, .int .i64 1] rfl (by (try simp only [List.map_toArray, List.map_cons, List.map_nil]); first | done | rfl | (simp only [List.length_drop, List.length_take]; rfl)) ?_; (with_reducible refine (laws_heldIntS.calls kj21 _ _ t227 1 t234 _ ?side1 ?side2 A33.out).mono ?_); (case side1 => repeat (first | exact (Kd.R_reads' HO_5.out).2.2 | (with_reducible refine Kd.C_alloc ?_ _) | (with_reducible refine Kd.C_drewN ?_ _) | (with_reducible refine Kd.C_drew ?_))); (case side2 => exact (Kd.R_reads' HO_5.out).2.1); rintro e w' ⟨rfl, ⟨nd, rfl⟩⟩; refine ⟨_, rfl, ?_⟩))
            go_ret
            exact ⟨by first | rfl | (simp [zam, zal] <;> rfl) | (simp [*, zam, zal] <;> rfl), by repeat (first | (with_reducible first | exact HB.out | apply zab | apply zac | apply zag) | exact HB.out)⟩
           ·rw [if_neg c35] at H
            have c35b0 : (t234 == t226) = false := beq_eq_false_iff_ne.mpr c35
            have c35b1 : (t234 != t226) = true := bne_iff_ne.mpr c35
            obtain rfl := Option.some.inj H
            go_wp2_with (first | ((with_reducible refine zan (f := 11) rfl ?_); refine zbn (some 60) rfl rfl Try.func11 (by kernel_rfl) rfl #[.slice Ao23 t227.length co23, .int .i64 1] rfl (by (try simp only [List.map_toArray, List.map_cons, List.map_nil]); first | done | rfl | (simp only [List.length_drop, List.length_take]; rfl)) ?_; (with_reducible refine (laws_heldIntS.calls kj21 _ _ t227 1 t234 _ ?side1 ?side2 A33.out).mono ?_); (case side1 => repeat (first | exact (Kd.R_reads' HO_5.out).2.2 | (with_reducible refine Kd.C_alloc ?_ _) | (with_reducible refine Kd.C_drewN ?_ _) | (with_reducible refine Kd.C_drew ?_))); (case side2 => exact (Kd.R_reads' HO_5.out).2.1); rintro e w' ⟨rfl, ⟨nd, rfl⟩⟩; refine ⟨_, rfl, ?_⟩))
            go_ret
            exact ⟨by first | rfl | (simp [zam, zal] <;> rfl) | (simp [*, zam, zal] <;> rfl), by repeat (first | (with_reducible first | exact HB.out | apply zab | apply zac | apply zag) | exact HB.out)⟩
      ·rw [if_neg c20] at H
       have c20b0 : (t228 == t226) = false := beq_eq_false_iff_ne.mpr c20
       have c20b1 : (t228 != t226) = true := bne_iff_ne.mpr c20
       obtain rfl := Option.some.inj H
       obtain ⟨Ao36, co36, eo36⟩ := Kd.R_slice HO_5.out
       subst eo36
       go_wp2_with (first | ((with_reducible refine zan (f := 10) rfl ?_); refine zbn (some 35) rfl rfl Try.func10 (by kernel_rfl) rfl #[.slice Ao36 t221.length co36, .int .i64 1] rfl (by (try simp only [List.map_toArray, List.map_cons, List.map_nil]); first | done | rfl | (simp only [List.length_drop, List.length_take]; rfl)) ?_; (with_reducible refine (laws_markIntS.calls kj4 (fun k_ => some k_ = (.slice Ao36 t221.length co36 : Value).ownBlock) (.slice Ao36 t221.length co36) t221 1 t226 t227 w _ ?side1 ?side2 A15.out).mono ?_); (case side1 => repeat (first | (with_reducible first | exact HB.out | apply zab | apply zac | apply zag) | exact HB.out)); (case side2 => exact Kd.R_tight rfl HO_5.out); rintro e w37 ⟨rfl, hy0, hb, hkp⟩; refine ⟨_, rfl, ?_⟩; have n0_ := zaa.mk (Kd.R_mono (ok' := fun k_ => some k_ ≠ (.slice Ao36 t221.length co36 : Value).ownBlock) (Kd.R_keptB (HO_3.out) hkp (fun k_ hk_ hs_ => (hk_) hs_)) (fun k_ hk_ => hk_.1)); have n1_ := zaa.mk (Kd.R_reok rfl hy0 (fun k_ e_ => HO_5.out.1 k_ e_)); have n2_ := zaa.mk (hb); clear HO_3; clear HO_5; clear HB; have HO_3 := n0_; have HO_5 := n1_; have HB := n2_; clear n0_ n1_ n2_; (try clear hb); (try clear hkp); (try clear hy0)) | ((with_reducible refine zan (f := 11) rfl ?_); refine zbn (some 38) rfl rfl Try.func11 (by kernel_rfl) rfl #[.slice Ao36 t227.length co36, .int .i64 1] rfl (by (try simp only [List.map_toArray, List.map_cons, List.map_nil]); first | done | (rw [show t227.length = t221.length from (Kd.R_reads' HO_5.out).1.symm] <;> rfl) | rfl | (simp only [List.length_drop, List.length_take]; rfl)) ?_; (with_reducible refine (laws_heldIntS.calls kj4 _ _ t227 1 t228 _ ?side1 ?side2 A16.out).mono ?_); (case side1 => repeat (first | exact (Kd.R_reads' HO_5.out).2.2 | (with_reducible refine Kd.C_alloc ?_ _) | (with_reducible refine Kd.C_drewN ?_ _) | (with_reducible refine Kd.C_drew ?_))); (case side2 => rw [show t227.length = t221.length from (Kd.R_reads' HO_5.out).1.symm]; exact (Kd.R_reads' HO_5.out).2.1); rintro e w' ⟨rfl, ⟨nd, rfl⟩⟩; refine ⟨_, rfl, ?_⟩))
       go_ret
       exact ⟨by first | rfl | (simp [zam, zal] <;> rfl) | (simp [*, zam, zal] <;> rfl), by repeat (first | (with_reducible first | exact HB.out | apply zab | apply zac | apply zag) | exact HB.out)⟩
def laws_FnExactTermPerm.Pure : Prop := ∀ (a0 : ByteArray), a0.size ≤ 140737488351232 → ∃ k, laws_FnExactTermPerm.f k a0 = some true
theorem laws_FnExactTermPerm.walk (P : laws_FnExactTermPerm.Pure) (a0 : ByteArray) (w : World) (w0 : a0.size ≤ 140737488351232) :
  Calls Try.prog 3 #[.string a0] w fun e w' => e = .returned (.bool true) ∧ Below w.heap.size w w' := by
 obtain ⟨k, h⟩ := P a0 w0
 refine (laws_FnExactTermPerm.calls k a0 true w h).mono ?_
 rintro e w' ⟨rfl, hd⟩
 exact ⟨rfl, hd⟩
end Go.Proofs.Ytgiidlebnjbgeaa.TP
namespace Go.Proofs.Ytgiidlebnjbgeaa.Hd
open Go.RowKit Go.PW.PrintWords Go.PW.PrintLast Go.PW.PrintMore Go.Proofs.Ytgiidlebnjbgeaa.PB
theorem wrapT_succ {i : Nat} (h : i ≤ 1048576) : wrap64 ((i : Int) + 1) = ((i + 1 : Nat) : Int) := by rw [wrapT (by omega) (by omega)]; omega
theorem eqIT_loop (p : List Int) (hb : p.length ≤ 1048576) : ∀ m i, i + m = p.length → Evs (fun k => laws_eqIntS.l0 k p p (i : Int)) true := by
 intro m
 induction m with
 | zero =>
  intro i hi
  refine Evs.step (h := fun _ => some true) (fun k => ?_) (Evs.const _)
  conv => lhs; unfold laws_eqIntS.l0
  rw [if_neg (by omega)]
 | succ m ih =>
  intro i hi
  refine Evs.step (fun k => ?_) (ih (i + 1) (by omega))
  conv => lhs; unfold laws_eqIntS.l0
  rw [if_pos (by omega), if_pos (by omega), if_pos (by omega), if_pos rfl, wrapT_succ (by omega)]
theorem eqIT_same (p : List Int) (hb : p.length ≤ 1048576) : Evs (fun k => laws_eqIntS.f k p p) true := by
 refine Evs.congr (fun k => ?_) (eqIT_loop p hb p.length 0 (by omega))
 unfold laws_eqIntS.f
 rw [if_pos rfl]
 rfl
def zca (a n : Nat) : List Int := (List.range n).map fun i => ((a + i : Nat) : Int)
theorem zbi (a n : Nat) : (zca a n).length = n := by simp [zca]
theorem markIT_loop (l : List Int) (hl : l.length ≤ 1048576) (a : Nat) (ha : a ≤ 2097153) : ∀ m i, i + m = l.length → Evs (fun k => laws_markIntS.l0 k (zca a i ++ l.drop i) ((a + i : Nat) : Int) (i : Int)) (((a + l.length : Nat) : Int), zca a l.length) := by
 intro m
 induction m with
 | zero =>
  intro i hi
  obtain rfl : i = l.length := by omega
  refine Evs.step (h := fun _ => some (((a + l.length : Nat) : Int), zca a l.length)) (fun k => ?_) (Evs.const _)
  conv => lhs; unfold laws_markIntS.l0
  rw [if_neg (by simp [zbi])]
  simp
 | succ m ih =>
  intro i hi
  have hset : (zca a i ++ l.drop i).set i ((a + i : Nat) : Int) = zca a (i + 1) ++ l.drop (i + 1) := by
   rw [List.set_append_right _ _ (by rw [zbi]; exact Nat.le_refl _), zbi, Nat.sub_self, List.drop_eq_getElem_cons (by omega), List.set_cons_zero]
   unfold zca
   rw [List.range_succ, List.map_append]
   simp
  have hnx := ih (i + 1) (by omega)
  rw [← hset] at hnx
  refine Evs.step (fun k => ?_) hnx
  conv => lhs; unfold laws_markIntS.l0
  have e : wrap64 (((a + i : Nat) : Int) + 1) = ((a + (i + 1) : Nat) : Int) := by rw [wrapT (by omega) (by omega)]; omega
  rw [if_pos (by simp [zbi]; omega), if_pos (by omega), Int.toNat_natCast, wrapT_succ (i := i) (by omega), e]
theorem markIT_ev (l : List Int) (hl : l.length ≤ 1048576) (a : Nat) (ha : a ≤ 2097153) : Evs (fun k => laws_markIntS.f k l (a : Int)) (((a + l.length : Nat) : Int), zca a l.length) := by
 have := markIT_loop l hl a ha l.length 0 (by omega)
 refine Evs.congr (fun k => ?_) this
 unfold laws_markIntS.f
 simp [zca]
theorem heldIT_loop (n : Nat) (hl : n ≤ 1048576) (a : Nat) (ha : a ≤ 2097153) : ∀ m i, i + m = n → Evs (fun k => laws_heldIntS.l0 k (zca a n) ((a + i : Nat) : Int) (i : Int)) ((a + n : Nat) : Int) := by
 intro m
 induction m with
 | zero =>
  intro i hi
  obtain rfl : i = n := by omega
  refine Evs.step (h := fun _ => some ((a + i : Nat) : Int)) (fun k => ?_) (Evs.const _)
  conv => lhs; unfold laws_heldIntS.l0
  rw [if_neg (by simp [zbi])]
 | succ m ih =>
  intro i hi
  have hget : rd (zca a n) (i : Int) = ((a + i : Nat) : Int) := by
   unfold rd zca
   rw [Int.toNat_natCast, List.getD_eq_getElem?_getD, List.getElem?_map, List.getElem?_range (by omega)]
   rfl
  refine Evs.step (fun k => ?_) (ih (i + 1) (by omega))
  conv => lhs; unfold laws_heldIntS.l0
  have e : wrap64 (((a + i : Nat) : Int) + 1) = ((a + (i + 1) : Nat) : Int) := by rw [wrapT (by omega) (by omega)]; omega
  rw [if_pos (by rw [zbi]; omega), if_pos (by omega), hget, if_pos rfl, wrapT_succ (i := i) (by omega), e]
theorem heldIT_ev (n : Nat) (hl : n ≤ 1048576) (a : Nat) (ha : a ≤ 2097153) : Evs (fun k => laws_heldIntS.f k (zca a n) (a : Int)) ((a + n : Nat) : Int) := heldIT_loop n hl a ha n 0 (by omega)
end Go.Proofs.Ytgiidlebnjbgeaa.Hd
namespace Go.Proofs.Ytgiidlebnjbgeaa.Pure
open Go.RowKit Go.Proofs.Ytgiidlebnjbgeaa.TP Go.Proofs.Ytgiidlebnjbgeaa.PB Go.Proofs.Ytgiidlebnjbgeaa.SM Go.Proofs.Ytgiidlebnjbgeaa.Hd Go.PW.PrintWords Go.PW.PrintLast
theorem termPermF_len (s : ByteArray) : (zaw s).1.length ≤ 60 := by
 unfold zaw
 cases h : ofR s with
 | none => simp
 | some t =>
  have := ofR_nodes h
  have := zcm t
  have := zaz (tid t)
  show (zbc (tid t)).length ≤ 60
  omega
theorem FnExactTermPerm : laws_FnExactTermPerm.Pure := by
 intro a0 h1
 by_cases big : (a0.size : Int) > 1048576
 ·exact ⟨0, by unfold laws_FnExactTermPerm.f; rw [if_pos big]⟩
 ·have hsm : a0.size ≤ 1048576 := by omega
  have hS : spec_TermPerm.f a0 = some (zaw a0) := by unfold spec_TermPerm.f; rw [if_pos hsm]
  have hI : impl_TermPerm.f a0 = some (zaw a0) := by unfold impl_TermPerm.f; rw [if_pos hsm]
  have hl := termPermF_len a0
  generalize zaw a0 = R at *
  obtain ⟨r, b⟩ := R
  dsimp only at hl
  apply Evs.ex
  refine Evs.neg big (Evs.bindS hS (Evs.bindS hI (Evs.bind (eqIT_same r (by omega)) (Evs.pos rfl ?_))))
  have hm := markIT_ev r (by omega) 1 (by omega)
  have hh := heldIT_ev r.length (by omega) 1 (by omega)
  refine Evs.stepNeg (fun k => by conv => lhs; unfold laws_FnExactTermPerm.j0) (by simp) ?_
  refine Evs.bind hm (Evs.bind hh (Evs.neg (by omega) (Evs.pos rfl (Evs.bindS hI (Evs.bind (eqIT_same r (by omega)) (Evs.pos rfl ?_))))))
  refine Evs.stepNeg (fun k => by conv => lhs; unfold laws_FnExactTermPerm.j1) (by simp) ?_
  exact Evs.bind hh (Evs.neg (by omega) (Evs.pos rfl (Evs.const _)))
end Go.Proofs.Ytgiidlebnjbgeaa.Pure
