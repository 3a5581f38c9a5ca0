/- Part 4 of the proof of FnExactNearColours: what the program's functions and the reference's compute. -/
import Derived.Test.YtickdcegnlldjaaCLCc
set_option linter.unusedSimpArgs false
set_option linter.unusedVariables false
namespace Go.Proofs.Ytickdcegnlldjaa.Hd
open Go.RowKit Go.PW.PrintWords Go.PW.PrintLast Go.PW.PrintMore Go.Proofs.Ytickdcegnlldjaa.PB
def letterOf (k : Int) : UInt8 := UInt8.ofNat (97 + k).toNat
def rowBytes (row : List Int) : List UInt8 := row.map letterOf
def rowText (row : List Int) : ByteArray := ⟨(rowBytes row).toArray⟩
def zcn (cs : List (List Int)) : List ByteArray := cs.map rowText
def textPart (cs : List (List Int)) (i : Nat) : List ByteArray := (zcn cs).take i ++ List.replicate (cs.length - i) (⟨#[]⟩ : ByteArray)
theorem textPart_length (cs : List (List Int)) (i : Nat) (h : i ≤ cs.length) : (textPart cs i).length = cs.length := by
 simp [textPart, zcn]; omega
theorem textPart_all (cs : List (List Int)) : textPart cs cs.length = zcn cs := by
 simp [textPart, zcn, List.take_of_length_le]
theorem textPart_set (cs : List (List Int)) (i : Nat) (row : List Int) (h : cs[i]? = some row) : (textPart cs i).set i (rowText row) = textPart cs (i + 1) := by
 have hlt := (List.getElem?_eq_some_iff.1 h).1
 unfold textPart
 rw [List.set_append_right _ _ (by simp [zcn]; omega)]
 rw [show i - ((zcn cs).take i).length = 0 by simp [zcn]; omega]
 obtain ⟨m, hm⟩ : ∃ m, cs.length - i = m + 1 := ⟨cs.length - i - 1, by omega⟩
 rw [hm, List.replicate_succ, List.set_cons_zero, List.take_add_one, show cs.length - (i + 1) = m by omega]
 simp [zcn, h]
theorem letterOf_val (k : Int) (h0 : 0 ≤ k) (h1 : k ≤ 25) : ((letterOf k).toNat : Int) = 97 + k := by
 unfold letterOf
 rw [UInt8.toNat_ofNat']
 omega
theorem rowBytes_snoc (row : List Int) (i : Nat) (h : i < row.length) : rowBytes (row.take (i + 1)) = rowBytes (row.take i) ++ [letterOf (rd row i)] := by
 unfold rowBytes
 rw [List.take_add_one, List.map_append, List.getElem?_eq_getElem h]
 simp [rd, List.getD_eq_getElem?_getD, List.getElem?_eq_getElem h]
theorem C_int_cell {k : IntKind} {w : World} {A : Option Addr} {n : Nat} {l : List Int} (h : (Kd.int k).C w A n l) (i : Nat) (hi : i < n) : ∃ ad, A = some ad ∧ w.cell? (ad.add i) = some (.int k (rd l (i : Int))) := by
 obtain ⟨ad, c, e1, hc, hK, hx⟩ := Kd.C_get h (0 : Int) (i : Int) (by omega) (by omega)
 subst e1
 exact ⟨ad, rfl, by have := Kd.foot_int h (i : Int) (by omega) (by omega); simpa using this⟩
theorem Bd.new {w : World} {b : Nat} (h : w.heap[b]? = some (.cells #[.pointer none, .slice none 0 0] 109 (0, 0))) : Bd b [] w :=
 .inl ⟨Nat.le_refl _, .slice none 0 0, h, ⟨rfl, .inl ⟨rfl, rfl⟩⟩, by simp [Value.ownBlock]⟩
theorem Bd.lt {w : World} {b : Nat} {l : List UInt8} (h : Bd b l w) : b < w.heap.size := by
 rcases h with h | h
 ·exact Lib.BuilderAt.lt h
 ·exact Lib.BuilderAt.lt h
set_option maxHeartbeats 4000000 in
set_option maxRecDepth 100000 in
theorem text_calls (g : Nat) (cs : List (List Int)) (rs : List Rc) (w : World) (hI : FloorAt w g cs rs) (hl : cs.length ≤ 1048576) (hv : ∀ r ∈ cs, r.length ≤ 1048576 ∧ ∀ x ∈ r, 0 ≤ x ∧ x ≤ 25) :
  Calls Try.prog 92 #[.pointer (some ⟨g, 0, none⟩)] w fun e w' => ∃ v0_ : Value, e = .returned (v0_) ∧ Kd.R Kd.string 9 w' w.heap.size (fun _ => True) v0_ (zcn cs) ∧ Below w.heap.size w w' := by
 have HI := zaa.mk hI
 have HV := zaa.mk hv
 clear hv
 obtain ⟨A0, c0, A1, c1, HG, _, HS, _⟩ := hI
 have hcl := C_len HS
 have hcz := Try.underlying22
 have hc0 : w.cell? ⟨g, 0, none⟩ = some (.slice A0 cs.length c0) := (zal HG 0).trans rfl
 have HSS := zaa.mk HS
 have HGG := zaa.mk HG
 have HH := zaa.mk (show impl_floor_high.f cs rs = some (cs.length : Int) from rfl)
 clear HG HS hcl hcz
 have b1 : (cs.length : Int) ≤ 1048576 := by omega
 have b0 : (0 : Int) ≤ cs.length := by omega
 have i9 : (Try.prog.info? 9).map (fun i => (i.zero, i.size, i.bytes)) = some (some (.string ⟨#[]⟩), 1, 16) := by kernel_rfl
 have I9 := zaa.mk i9
 clear i9
 go_enter Try.func92, Try.ntmps92
 go_wp2_with (first
  | (go_at_call 52; refine (impl_floor_high.calls g cs rs _ _ _ HI.out (Below.refl _ _) HH.out).mono ?_; rintro e w1 ⟨rfl, -, hb1, -⟩; have HB1 := zaa.mk hb1; replace hc0 := zae hb1 hc0; clear hb1)
  | ((with_reducible refine zaw (N := 11) rfl ?_); refine Kd.R_make Kd.string _ 9 rfl (N := 11) rfl 22 _ _ rfl (cs.length : Int) rfl rfl Try.underlying22 (.string ⟨#[]⟩) 16 I9.out rfl (by decide) (by omega) (⟨#[]⟩ : ByteArray) (ok := fun _ => True) (okp := fun _ => True) rfl (fun _ hk => hk) trivial b0 (by omega) (Below.refl _ _) (Nat.le_refl _) ?_; intro v2 w2 ho hb hg_ hnew_; clear hg_ hnew_; have HO2 := zaa.mk (Kd.R_lower ho HB1.out.size); have HB2 := zaa.mk (zaf HB1.out hb); replace hc0 := zae hb hc0; clear hb ho))
 have hrep : List.replicate ((cs.length : Int)).toNat (⟨#[]⟩ : ByteArray) = textPart cs 0 := by simp [textPart]
 rw [hrep] at HO2
 clear hrep hc0
 go_loopg [17] cs.length (fun kq v17 w' => ∃ i : Nat, v17 = .int .i64 (i : Int) ∧ zaa (i + kq = cs.length) ∧ zaa (Kd.R Kd.string 9 w' w.heap.size (fun _ => True) v2 (textPart cs i)) ∧ zaa (Below w.heap.size w w'))
 case atStart => exact ⟨0, rfl, ⟨by omega⟩, HO2, HB2⟩
 case round =>
  clear HO2 HB2
  obtain ⟨i, rfl, HK, HO, HB⟩ := hrel
  by_cases hi : i < cs.length
  ·have hlt : (i : Int) < cs.length := by omega
   have hi0 : (0 : Int) ≤ i := by omega
   obtain ⟨row, hrow⟩ : ∃ row, cs[i]? = some row := ⟨_, List.getElem?_eq_getElem hi⟩
   have HRow := zaa.mk hrow
   obtain ⟨ad, Ai, ci, e1, hx, hl, hrr⟩ := C_row HSS.out i row hrow
   have hvr := HV.out row (List.mem_of_getElem? hrow)
   obtain ⟨hrl, hvv⟩ := hvr
   have HVV := zaa.mk hvv
   subst e1
   replace hx := zae HB.out hx
   have HRR := zaa.mk (Kd.C_below hrr HB.out)
   have hrl2 : (row.length : Int) ≤ 1048576 := by omega
   clear hrow hl hrr hvv
   obtain ⟨g3, c3, e3, b3, l3, cl3, hg3⟩ := Kd.R_form HO.out (by rw [textPart_length cs i (by omega)]; omega)
   rw [textPart_length cs i (by omega)] at e3
   subst e3
   have L3 := zaa.mk l3
   have B3 := zaa.mk b3
   clear hg3 l3 b3
   go_wp2_with (first
    | ((with_reducible refine zaw (N := 6) rfl ?_); refine zbx ?hg (N := 6) ?hd (cs := #[.pointer none, .slice none 0 0]) (t := 109) ?hr ?_; (case hd => rfl); (case hg => rfl); (case hr => first | (go_simp; done) | (go_simp; rfl)); intro b hgb w3 hbox hb; have HGB := zaa.mk hgb; have HBd := zaa.mk (Bd.new hbox); have HB3 := zaa.mk hb; clear hgb hbox hb))
   have HO3 := zaa.mk (Kd.R_below HO.out HB3.out)
   have HB3b := zaa.mk (show Below b wr w3 from by rw [HGB.out]; exact HB3.out)
   clear hx
   go_loopg [24] row.length (fun kq v24 w' => ∃ j : Nat, v24 = .int .i64 (j : Int) ∧ zaa (j + kq = row.length) ∧ zaa (Bd b (rowBytes (row.take j)) w') ∧ zaa (Below b w3 w'))
   case atStart => exact ⟨0, rfl, ⟨by omega⟩, ⟨by simpa [rowBytes] using HBd.out⟩, ⟨Below.refl _ _⟩⟩
   case round =>
    clear HBd
    obtain ⟨j, rfl, HK2, HBd, HBb⟩ := hrel
    have HB9 := zaa.mk (HB3b.out.trans HBb.out)
    by_cases hj : j < row.length
    ·have hlt2 : (j : Int) < row.length := by omega
     have hj0 : (0 : Int) ≤ j := by omega
     obtain ⟨ad2, e2, hx2⟩ := C_int_cell HRR.out j hj
     subst e2
     have hmem : rd row (j : Int) ∈ row := by
      unfold rd
      rw [Int.toNat_natCast, List.getD_eq_getElem?_getD, List.getElem?_eq_getElem hj]
      exact List.getElem_mem _
     obtain ⟨hv0, hv1⟩ := HVV.out _ hmem
     replace hx2 := zae (show Below _ _ wr from by have := HB9.out; rw [HGB.out] at this; exact this) hx2
     have HRS := zaa.mk (rowBytes_snoc row j hj)
     have hlet := letterOf_val (rd row (j : Int)) hv0 hv1
     generalize rd row (j : Int) = kk at *
     have HLet := zaa.mk hlet
     clear hlet hmem
     go_wp2_with (first
      | (go_at_call 109; refine calls_of_args (args' := #[.pointer (some ⟨b, 0, none⟩), .int .u8 (letterOf kk).toNat]) (by rw [HLet.out]) ?_; refine (writeByte_calls b (rowBytes (row.take j)) (letterOf kk) _ HBd.out (by simp [rowBytes]; omega) (Nat.le_of_lt HBd.out.lt)).mono ?_; rintro e w8 ⟨rfl, hbd8, hb8⟩; have HBd8 := zaa.mk hbd8; have HB8 := zaa.mk (HBb.out.trans hb8); clear hb8 hbd8))
     go_roundg (row.length - (j + 1))
     case measure => have := HK2.out; omega
     case rel => exact ⟨j + 1, by first | rfl | (congr 1; omega), ⟨by have := HK2.out; omega⟩, ⟨by rw [HRS.out]; exact HBd8.out⟩, HB8⟩
    ·have hge2 : ¬ ((j : Int) < row.length) := by omega
     obtain rfl : j = row.length := by have := HK2.out; omega
     rw [List.take_length] at HBd
     go_wp2_with (first
      | (go_at_call 110; refine (bString_calls b (rowBytes row) _ HBd.out (Nat.le_of_lt HBd.out.lt)).mono ?_; rintro e w8 ⟨rfl, hb8⟩; have HB8 := zaa.mk (HB9.out.trans hb8); rw [HGB.out] at HB8; have HO8 := zaa.mk (Kd.R_below HO.out HB8.out); obtain ⟨hx8, hf8⟩ := Kd.R_celln (⟨#[]⟩ : ByteArray) HO8.out (i : Int) (by omega) (by omega); rw [Int.toNat_natCast] at hx8 hf8; have HP := zaa.mk (Kd.R_putg HO8.out (i : Int) (rowText row)).1; clear hb8))
     go_roundg (cs.length - (i + 1))
     case measure => have := HK.out; omega
     case rel => exact ⟨i + 1, by first | rfl | (congr 1; omega), ⟨by have := HK.out; omega⟩, ⟨by have z := HP.out; rw [Int.toNat_natCast, textPart_set cs i row HRow.out] at z; exact z⟩, ⟨zam (zaf HB.out HB8.out) B3.out⟩⟩
  ·have hge : ¬ ((i : Int) < cs.length) := by omega
   obtain rfl : i = cs.length := by have := HK.out; omega
   go_wp2
   go_ret
   exact ⟨_, rfl, by have := HO.out; rw [textPart_all] at this; exact this, HB.out⟩
def okLetter (x : Int) : Bool := !(decide (x < 97) || decide (122 < x))
def okText (s : ByteArray) : Bool := (zax s).all okLetter
def zag (p : List ByteArray) : List (List Int) := p.map zax
def readF (p : List ByteArray) : Option (List (List Int) × List Rc × Bool) := if p.all okText = true then zce (zag p) else none
def smallP (p : List ByteArray) : Prop := p.length ≤ 1048576 ∧ ∀ s ∈ p, s.size ≤ 1048576
theorem bytesOf_get (s : ByteArray) (j : Nat) : (zax s).getD j 0 = bt s (j : Int) := by
 have := rd_bytesOf s (j : Int)
 unfold rd at this
 simpa using this
theorem bytesOf_range (s : ByteArray) : ∀ x ∈ zax s, 0 ≤ x ∧ x ≤ 255 := by
 intro x hx
 unfold zax at hx
 simp at hx
 obtain ⟨a, _, rfl⟩ := hx
 have := UInt8.toNat_lt a
 omega
theorem take_snoc_int (l : List Int) (j : Nat) (hj : j < l.length) : l.take (j + 1) = l.take j ++ [l.getD j 0] := by
 rw [List.take_add_one, List.getElem?_eq_getElem hj]
 simp [List.getD_eq_getElem?_getD, List.getElem?_eq_getElem hj]
set_option maxHeartbeats 4000000 in
set_option maxRecDepth 100000 in
theorem read_calls (A0 : Option Addr) (c0 : Nat) (l0 : List ByteArray) (w : World) (hr0 : Kd.C Kd.string w A0 l0.length l0) (hc0 : l0.length ≤ c0) (hp : smallP l0) :
  Calls Try.prog 90 #[.slice A0 l0.length c0] w (FloorRes w (readF l0)) := by
 have HR := zaa.mk hr0
 have HP := zaa.mk hp
 have hlen := hp.1
 have b1 : (l0.length : Int) ≤ 1048576 := by omega
 have b0 : (0 : Int) ≤ l0.length := by omega
 clear hr0 hc0 hp
 have i53 : (Try.prog.info? 24).map (fun i => (i.zero, i.size, i.bytes)) = some (some (.slice none 0 0), 1, 24) := by kernel_rfl
 have i3 : (Try.prog.info? 3).map (fun i => (i.zero, i.size, i.bytes)) = some (some (.int .i64 0), 1, 8) := by kernel_rfl
 have I53 := zaa.mk i53
 have I3 := zaa.mk i3
 clear i53 i3
 go_enter Try.func90, Try.ntmps90
 go_wp2_with (first
  | ((with_reducible refine zaw (N := 10) rfl ?_); refine Kd.R_lit (Kd.slice 3 (Kd.int .i64)) _ 24 ?hg (N := 10) ?hd (xs := ([] : List (List Int))) (inner := []) (ok := fun _ => True) (okp := fun _ => True) ?hr ?hp (fun _ hk => hk) trivial (Below.refl _ _) (Nat.le_refl _) (by simp) ?_; (case hd => rfl); (case hg => rfl); (case hr => first | (go_simp; done) | (go_simp; rfl)); (case hp => exact (Reps.none _ _)); intro v4 w1 ho hb hg_ hnew_; clear hg_ hnew_; have HO1 := zaa.mk ho; have HB1 := zaa.mk hb; clear hb ho))
 go_loopg [4, 13] l0.length (fun kq v4 v13 w' => ∃ i : Nat, v13 = .int .i64 (i : Int) ∧ zaa (i + kq = l0.length) ∧ zaa ((l0.take i).all okText = true) ∧ zaa (Kd.R (Kd.slice 3 (Kd.int .i64)) 24 w' w.heap.size (fun _ => True) v4 (zag (l0.take i))) ∧ zaa (Below w.heap.size w w'))
 case atStart => exact ⟨0, rfl, ⟨by omega⟩, ⟨by simp⟩, ⟨by simpa [zag] using HO1.out⟩, HB1⟩
 case round =>
  clear HO1 HB1
  obtain ⟨i, rfl, HK, HAll, HO, HB⟩ := hrel
  by_cases hi : i < l0.length
  ·have hlt : (i : Int) < l0.length := by omega
   have hi0 : (0 : Int) ≤ i := by omega
   obtain ⟨ad, e1, hx⟩ := Kd.at_string HR.out (i : Int) hi0 hlt
   cases e1
   rw [Int.toNat_natCast] at hx
   replace hx := zae HB.out hx
   have hsz := HP.out.2 _ (List.getElem_mem hi)
   have hel : rdOf ByteArray.empty l0 (i : Int) = l0[i] := by unfold rdOf; rw [Int.toNat_natCast, List.getD_eq_getElem?_getD, List.getElem?_eq_getElem hi]; rfl
   rw [hel] at hx
   have hgt : l0[i]? = some l0[i] := List.getElem?_eq_getElem hi
   generalize l0[i] = s at *
   have HGT := zaa.mk hgt
   clear hel hgt
   have b2 : (s.size : Int) ≤ 1048576 := by omega
   have hbl := zbq s
   go_wp2_with (first
    | ((with_reducible refine zaw (N := 17) rfl ?_); refine Kd.R_lit (Kd.int .i64) _ 3 ?hg (N := 17) ?hd (xs := ([] : List Int)) (inner := []) (ok := fun _ => True) (okp := fun _ => True) ?hr ?hp (fun _ hk => hk) trivial (Below.refl _ _) (Nat.le_refl _) (by simp) ?_; (case hd => rfl); (case hg => rfl); (case hr => first | (go_simp; done) | (go_simp; rfl)); (case hp => exact (Reps.none _ _)); intro v7 w2 ho hb hg_ hnew_; clear hg_ hnew_; have n0_ := zaa.mk (Kd.R_elder' HO.out (Kd.R_base ho) hb); have n2_ := zaa.mk (Kd.R_lower (Kd.R_new' ho (Kd.R_lt HO.out)) (zah HB.out)); have n3_ := zaa.mk (zaf HB.out hb); clear HO HB; have HO := n0_; have HO7 := n2_; have HB := n3_; clear n0_ n2_ n3_; clear hb ho)
    | ((with_reducible refine zaw (N := 19) rfl ?_); refine conv_event (P := Try.prog) rfl (N := 19) rfl (src := 9) (dst := 32) (e := 5) (s := s) rfl rfl Try.underlying9 Try.underlying32 Try.underlying5 ?_; intro g4 c4 w4 hg4 hrow hb; have HRow := zaa.mk hrow; have HN7 := zaa.mk (show some g4 ≠ v7.ownBlock from Kd.fresh' (Kd.R_lt HO7.out) g4 (by rw [hg4]; exact Nat.le_refl _)); have n1_ := zaa.mk (zaf HB.out hb); have n2_ := zaa.mk (Kd.R_below HO.out hb); have n3_ := zaa.mk (Kd.R_below HO7.out hb); clear HB HO HO7; have HB := n1_; have HO := n2_; have HO7 := n3_; clear n1_ n2_ n3_; clear hb hrow hg4))
   go_loopg [7, 21] s.size (fun kq v7 v21 w' => ∃ j : Nat, v21 = .int .i64 (j : Int) ∧ zaa (j + kq = s.size) ∧ zaa (((zax s).take j).all okLetter = true) ∧ zaa (Kd.R (Kd.slice 3 (Kd.int .i64)) 24 w' w.heap.size (fun k_ => some k_ ≠ (v7 : Value).ownBlock) u4 (zag (l0.take i))) ∧ zaa (Kd.R (Kd.int .i64) 3 w' w.heap.size (fun k_ => some k_ ≠ (u4 : Value).ownBlock) v7 ((zax s).take j)) ∧ zaa (some g4 ≠ (v7 : Value).ownBlock) ∧ zaa (w'.heap[g4]? = w4.heap[g4]?) ∧ zaa (g4 < w'.heap.size) ∧ zaa (Below w.heap.size w w'))
   case atStart => exact ⟨0, rfl, ⟨by omega⟩, ⟨by simp⟩, ⟨Kd.R_mono HO.out (fun _ hk => hk.2)⟩, ⟨by simpa using Kd.R_mono HO7.out (fun _ hk => hk.2)⟩, HN7, ⟨rfl⟩, ⟨HRow.out.lt⟩, HB⟩
   case round =>
    clear HO HO7 HN7 HB
    obtain ⟨j, rfl, HK2, HAll2, HO, HO7, HN7, HM, HLt, HB⟩ := hrel
    by_cases hj : j < s.size
    ·have hlt2 : (j : Int) < s.size := by omega
     have hj0 : (0 : Int) ≤ j := by omega
     have hjb : (j : Int) ≤ 1048576 := by omega
     have hx4 := ((HRow.out.move HM.out).cell j (by rw [hbl]; omega)).1
     have hrg := bytesOf_range s ((zax s).getD j 0) (by rw [List.getD_eq_getElem?_getD, List.getElem?_eq_getElem (by omega)]; exact List.getElem_mem _)
     have HT := zaa.mk (take_snoc_int (zax s) j (by omega))
     have hgm : (zax s).getD j 0 ∈ zax s := by rw [List.getD_eq_getElem?_getD, List.getElem?_eq_getElem (by omega)]; exact List.getElem_mem _
     have HGM := zaa.mk hgm
     generalize (zax s).getD j 0 = x at *
     obtain ⟨hx0, hx255⟩ := hrg
     clear hgm
     by_cases hlo : x < 97
     ·have d1 : decide (x < 97) = true := decide_eq_true hlo
      clear hlo
      go_wp2
      go_ret2
      have hbad : readF l0 = none := by
       unfold readF
       rw [if_neg]
       intro hall
       have h1 := List.all_eq_true.1 hall s (List.mem_of_getElem? HGT.out)
       have h2 := List.all_eq_true.1 h1 x HGM.out
       simp [okLetter, d1] at h2
      rw [hbad]
      exact ⟨HB.out, rfl⟩
     ·have d1 : decide (x < 97) = false := decide_eq_false hlo
      by_cases hhi : 122 < x
      ·have d2 : decide (122 < x) = true := decide_eq_true hhi
       clear hlo hhi
       go_wp2
       go_ret2
       have hbad : readF l0 = none := by
        unfold readF
        rw [if_neg]
        intro hall
        have h1 := List.all_eq_true.1 hall s (List.mem_of_getElem? HGT.out)
        have h2 := List.all_eq_true.1 h1 x HGM.out
        simp [okLetter, d2] at h2
       rw [hbad]
       exact ⟨HB.out, rfl⟩
      ·have d2 : decide (122 < x) = false := decide_eq_false hhi
       clear hlo hhi
       have LL : ((zax s).take j).length ≤ 1048576 := by simp; omega
       go_wp2_with (first
        | ((with_reducible refine zau (b := .append) (xs := #[.tmp 31, .tmp 34]) rfl ?_); at_builtin; refine Kd.R_append (Kd.int .i64) (w0 := w) w.heap.size rfl (.tmp 31) (.tmp 34) 24 3 (.int .i64 0) 8 rfl Try.underlying24 I3.out rfl (by decide) (by omega) _ ((zax s).take j) x [.int .i64 x] (fun k_ => some k_ ≠ (u4 : Value).ownBlock) (fun _ => False) rfl rfl ?aP (fun _ hk => hk.elim) ?aF ?aO ?aB ?aS ?aL ?_; (case aP => exact rfl); (case aB => exact HB.out); (case aF => exact (fun k_ hk => Kd.fresh' (Kd.R_lt HO.out) k_ hk)); (case aO => exact HO7.out); (case aS => exact (zah HB.out)); (case aL => omega); intro v7b w6 ho hb hg hat; have n0_ := zaa.mk (Kd.R_after (ok := (fun _ => True)) (Kd.R_mono HO.out (fun _ hk => ⟨trivial, hk⟩)) hg hat); have n1_ := zaa.mk ho; have n2_ := zaa.mk hb; have n3_ := zaa.mk ((hg.block g4 HLt.out HN7.out).trans HM.out); have n4_ := zaa.mk (show g4 < w6.heap.size from (Array.getElem?_eq_some_iff.1 (n3_.out.trans HRow.out.choose_spec.2.1)).1); have n5_ := zaa.mk (show some g4 ≠ v7b.ownBlock from by (rcases hat with he | ⟨b_, he, hle⟩ <;> rw [he]; exact HN7.out; (intro hz; injection hz with hz; have := HLt.out; omega))); clear HO HO7 HB HM HLt HN7; have HO := n0_; have HO7 := n1_; have HB := n2_; have HM := n3_; have HLt := n4_; have HN7 := n5_; clear n0_ n1_ n2_ n3_ n4_ n5_; clear ho hb hg hat))
       have hok : okLetter x = true := by simp [okLetter, d1, d2]
       go_roundg (s.size - (j + 1))
       case measure => have := HK2.out; omega
       case rel => exact ⟨j + 1, by first | rfl | (congr 1; omega), ⟨by have := HK2.out; omega⟩, ⟨by rw [HT.out, List.all_append, HAll2.out]; simp [hok]⟩, ⟨Kd.R_mono HO.out (fun _ hk => hk.2)⟩, ⟨by rw [HT.out]; exact HO7.out⟩, HN7, HM, HLt, HB⟩
    ·have hge2 : ¬ ((j : Int) < s.size) := by omega
     obtain rfl : j = s.size := by have := HK2.out; omega
     rw [List.take_of_length_le (by omega)] at HAll2 HO7
     have LL : (zag (l0.take i)).length ≤ 1048576 := by simp [zag]; omega
     obtain ⟨A7, c7, e7⟩ := Kd.R_slice HO7.out
     rw [hbl] at e7
     subst e7
     go_wp2_with (first
      | ((with_reducible refine zau (b := .append) (xs := #[.tmp 37, .tmp 39]) rfl ?_); at_builtin; refine Kd.R_append (Kd.slice 3 (Kd.int .i64)) (w0 := w) w.heap.size rfl (.tmp 37) (.tmp 39) 55 24 (.slice none 0 0) 24 rfl Try.underlying55 I53.out rfl (by decide) (by omega) u4 (zag (l0.take i)) (zax s) [.slice A7 s.size c7] (fun _ => True) (fun k_ => some k_ = (Value.slice A7 s.size c7).ownBlock) rfl rfl ?aP ?aK (fun _ _ => trivial) ?aO ?aB ?aS ?aL ?_; (case aP => exact ⟨_, rfl, Kd.R_tight rfl HO7.out⟩); (case aK => exact fun k_ hk => ⟨trivial, HO7.out.1 k_ hk.symm⟩); (case aB => exact HB.out); (case aO => exact Kd.R_mono HO.out (fun _ _ => trivial)); (case aS => exact (zah HB.out)); (case aL => omega); intro v4b w6 ho hb hg hat; have n1_ := zaa.mk ho; have n2_ := zaa.mk hb; clear HO HO7 HB HM HLt HN7; have HO := n1_; have HB := n2_; clear n1_ n2_; clear ho hb hg hat))
     have HT := zaa.mk (show l0.take (i + 1) = l0.take i ++ [s] by rw [List.take_add_one, HGT.out]; rfl)
     go_roundg (l0.length - (i + 1))
     case measure => have := HK.out; omega
     case rel => exact ⟨i + 1, by first | rfl | (congr 1; omega), ⟨by have := HK.out; omega⟩, ⟨by rw [HT.out, List.all_append, HAll.out]; simp [okText, HAll2.out]⟩, ⟨by rw [HT.out]; simpa [zag] using HO.out⟩, HB⟩
  ·have hge : ¬ ((i : Int) < l0.length) := by omega
   obtain rfl : i = l0.length := by have := HK.out; omega
   rw [List.take_length] at HAll HO
   have hre : readF l0 = zce (zag l0) := by unfold readF; rw [if_pos HAll.out]
   have HRE := zaa.mk hre
   obtain ⟨A4, c4, e4, hl4, hC4⟩ := Kd.R_reads HO.out
   subst e4
   have HC4 := zaa.mk hC4
   have HV4 := zaa.mk (show ∀ r ∈ zag l0, ∀ x ∈ r, 0 ≤ x ∧ x ≤ 1048576 from fun r hr x hx => by
    unfold zag at hr
    simp at hr
    obtain ⟨s, _, rfl⟩ := hr
    have := bytesOf_range s x hx
    omega)
   clear hC4 hl4 hre
   generalize hS : zce (zag l0) = res
   have HS := zaa.mk hS
   clear hS
   rcases res with _ | ⟨cs, rs, b⟩
   ·go_wp2_with (first
     | (go_at_call 108; refine (settled_calls A4 c4 (zag l0) _ HC4.out HV4.out).mono ?_; rw [HS.out]; rintro e w8 ⟨hb8, rfl⟩; have HB8 := zaa.mk (zaf HB.out hb8); clear hb8))
    go_ret2
    rw [HRE.out, HS.out]
    exact ⟨HB8.out, rfl⟩
   ·go_wp2_with (first
     | (go_at_call 108; refine (settled_calls A4 c4 (zag l0) _ HC4.out HV4.out).mono ?_; rw [HS.out]; rintro e w8 ⟨hb8, g, rfl, hfl⟩; have HB8 := zaa.mk (zaf HB.out hb8); have HFl := zaa.mk hfl; clear hb8 hfl))
    go_ret2
    rw [HRE.out, HS.out]
    exact ⟨HB8.out, g, rfl, HFl.out⟩
theorem rdOf_get (l : List ByteArray) (i : Nat) (h : i < l.length) : rdOf ByteArray.empty l (i : Int) = l[i] := by
 unfold rdOf; rw [Int.toNat_natCast, List.getD_eq_getElem?_getD, List.getElem?_eq_getElem h]; rfl
theorem toList_inj {a b : ByteArray} : a.toList = b.toList ↔ a = b := by
 rw [ByteArray.toList_eq, ByteArray.toList_eq]
 constructor
 ·intro h
  have h2 := Array.toList_inj.1 h
  cases a; cases b
  simp at h2
  rw [h2]
 ·rintro rfl; rfl
theorem zar {x : Int} (h0 : -9223372036854775808 ≤ x) (h1 : x ≤ 9223372036854775807) : wrap64 x = x := by unfold wrap64; omega
theorem equalS_loop (l0 l1 : List ByteArray) (hl : l0.length = l1.length) (hb : l0.length ≤ 1048576) : ∀ m i, i + m = l0.length → l0.take i = l1.take i → slices_Equal_string_string.l0 (m + 1) l0 l1 (l0.length : Int) (i : Int) = some (decide (l0 = l1))
 | 0, i, h, ht => by
  unfold slices_Equal_string_string.l0
  rw [if_neg (by omega)]
  have e : l0 = l1 := by
   rw [show i = l0.length by omega, List.take_length, hl, List.take_length] at ht
   exact ht
  simp [e]
 | m + 1, i, h, ht => by
  unfold slices_Equal_string_string.l0
  rw [if_pos (by omega), if_pos (by omega), if_pos (by omega), if_pos (by omega), rdOf_get l0 i (by omega), rdOf_get l1 i (by omega), zar (by omega) (by omega)]
  by_cases he : l0[i] = l1[i]
  ·rw [if_pos (toList_inj.2 he)]
   have := equalS_loop l0 l1 hl hb m (i + 1) (by omega) (by
    rw [List.take_add_one, List.take_add_one, ht, List.getElem?_eq_getElem (by omega), List.getElem?_eq_getElem (by omega), he])
   simpa using this
  ·rw [if_neg (fun h => he (toList_inj.1 h))]
   have : l0 ≠ l1 := by rintro rfl; exact he rfl
   simp [this]
theorem equalS_f (l0 l1 : List ByteArray) (hb : l0.length ≤ 1048576) : ∃ k, slices_Equal_string_string.f k l0 l1 = some (decide (l0 = l1)) := by
 unfold slices_Equal_string_string.f
 by_cases h : l0.length = l1.length
 ·refine ⟨l0.length + 1, ?_⟩
  rw [if_pos (by omega)]
  have := equalS_loop l0 l1 h hb l0.length 0 (by omega) (by simp)
  simpa using this
 ·refine ⟨0, ?_⟩
  rw [if_neg (by omega)]
  have : l0 ≠ l1 := by rintro rfl; exact h rfl
  simp [this]
theorem stepS_mem (st : List Int × List Rc) (r c : Nat) (x : Int) : x ∈ (stepS st r c x).1 := by
 unfold stepS
 split
 ·assumption
 ·simp
theorem stepS_prefix (st : List Int × List Rc) (r c : Nat) (x : Int) : st.1 <+: (stepS st r c x).1 := by
 unfold stepS
 split
 ·exact List.prefix_refl _
 ·exact List.prefix_append _ _
theorem stAt_prefix (rows : List (List Int)) (wi : Nat) (n : Nat) : ∀ m, (stAt rows wi n).1 <+: (stAt rows wi (n + m)).1
 | 0 => List.prefix_refl _
 | m + 1 => (stAt_prefix rows wi n m).trans (stepS_prefix _ _ _ _)
theorem stAt_mem (rows : List (List Int)) (wi : Nat) (r c : Nat) (hc : c < wi) : zbe rows r c ∈ (stAt rows wi (r * wi + c + 1)).1 := by
 show zbe rows r c ∈ (stepS (stAt rows wi (r * wi + c)) ((r * wi + c) / wi) ((r * wi + c) % wi) (zbe rows ((r * wi + c) / wi) ((r * wi + c) % wi))).1
 have h1 : (r * wi + c) / wi = r := by
  rw [Nat.mul_comm, Nat.mul_add_div (by omega), Nat.div_eq_of_lt hc, Nat.add_zero]
 have h2 : (r * wi + c) % wi = c := by
  rw [Nat.mul_comm, Nat.mul_add_mod, Nat.mod_eq_of_lt hc]
 rw [h1, h2]
 exact stepS_mem _ _ _ _
theorem numAt_lt (rows : List (List Int)) (hi wi : Nat) (r c : Nat) (hr : r < hi) (hc : c < wi) : 0 ≤ numAt rows wi r c ∧ numAt rows wi r c < ((stAt rows wi (hi * wi)).2.length : Int) := by
 unfold numAt
 have h1 := stAt_mem rows wi r c hc
 have h2 := List.idxOf_lt_length_of_mem h1
 have hle : r * wi + c + 1 ≤ hi * wi := by
  have : (r + 1) * wi ≤ hi * wi := Nat.mul_le_mul_right _ hr
  rw [Nat.succ_mul] at this
  omega
 have h3 := (stAt_prefix rows wi (r * wi + c + 1) (hi * wi - (r * wi + c + 1))).length_le
 rw [show r * wi + c + 1 + (hi * wi - (r * wi + c + 1)) = hi * wi by omega] at h3
 have h4 := (stAt_inv rows hi wi (hi * wi) (Nat.le_refl _)).1
 omega
structure Cells (hi wi n : Nat) (cs : List (List Int)) : Prop where
 len : cs.length = hi
 row : ∀ r ∈ cs, r.length = wi
 val : ∀ r ∈ cs, ∀ x ∈ r, 0 ≤ x ∧ x < n
theorem shapeOk_iff (rows : List (List Int)) : zcm rows = true ↔ (1 ≤ rows.length ∧ rows.length ≤ 6 ∧ 1 ≤ zai rows ∧ zai rows ≤ 6 ∧ ∀ r ∈ rows, r.length = zai rows) := by
 unfold zcm
 simp only [Bool.and_eq_true, decide_eq_true_eq, Bool.not_eq_true', List.any_eq_false, bne_iff_ne, ne_eq, Decidable.not_not, and_assoc]
theorem settledF_some {rows cs : List (List Int)} {rs : List Rc} {b : Bool} (h : zce rows = some (cs, rs, b)) : zcm rows = true ∧ cs = cellsOf rows ∧ rs = zbg rows ∧ rs.length ≤ 9 ∧ b = decide (zcf rs = (rows.length : Int) * (zai rows : Int)) ∧ Cells rows.length (zai rows) rs.length cs ∧ ∀ a ∈ rs, boundR a rows.length (zai rows) := by
 unfold zce at h
 split at h
 ·rename_i h1
  split at h
  ·rename_i h2
   injection h with h
   injection h with e1 h
   injection h with e2 e3
   subst e1 e2 e3
   refine ⟨h1, rfl, rfl, h2, rfl, ⟨cellsOf_length rows, fun r hr => ?_, fun r hr x hx => ?_⟩, (stAt_inv rows rows.length (zai rows) _ (Nat.le_refl _)).2.2.2⟩
   ·unfold cellsOf zbn at hr
    simp at hr
    obtain ⟨a, _, rfl⟩ := hr
    simp
   ·unfold cellsOf zbn at hr
    simp at hr
    obtain ⟨a, ha, rfl⟩ := hr
    simp at hx
    obtain ⟨c, hc, rfl⟩ := hx
    exact numAt_lt rows rows.length (zai rows) a c ha hc
  ·cases h
 ·cases h
theorem textOf_length (cs : List (List Int)) : (zcn cs).length = cs.length := by simp [zcn]
def smallB (p : List ByteArray) : Bool := decide (p.length ≤ 1048576) && p.all fun s => decide (s.size ≤ 1048576)
theorem smallB_iff (p : List ByteArray) : smallB p = true ↔ smallP p := by
 unfold smallB smallP
 rw [Bool.and_eq_true, decide_eq_true_eq, List.all_eq_true]
 simp only [decide_eq_true_eq]
def floorF (p : List ByteArray) : Option (List (List Int) × List Rc) := (readF p).bind fun t => if t.2.2 = true ∧ zcn t.1 = p then some (t.1, t.2.1) else none
theorem readF_some {p : List ByteArray} {t} (h : readF p = some t) : zce (zag p) = some t := by
 unfold readF at h
 split at h
 ·exact h
 ·cases h
def FloorOfRes (w : World) (r : Option (List (List Int) × List Rc)) (e : Ending) (w' : World) : Prop :=
 Below w.heap.size w w' ∧ ∃ (v : Option Addr) (b : Bool), e = .returned (.tuple #[.pointer v, .bool b]) ∧ match r with
  | none => b = false
  | some (cs, rs) => b = true ∧ ∃ g, v = some ⟨g, 0, none⟩ ∧ FloorAt w' g cs rs
set_option maxHeartbeats 4000000 in
set_option maxRecDepth 100000 in
theorem floorOf_calls (A0 : Option Addr) (c0 : Nat) (l0 : List ByteArray) (w : World) (hr0 : Kd.C Kd.string w A0 l0.length l0) (hc0 : l0.length ≤ c0) (hp : smallP l0) :
  Calls Try.prog 49 #[.slice A0 l0.length c0] w (FloorOfRes w (floorF l0)) := by
 have HR := zaa.mk hr0
 have HC := zaa.mk hc0
 have HP := zaa.mk hp
 clear hr0 hc0 hp
 generalize hF : floorF l0 = res
 have HF := zaa.mk hF
 clear hF
 generalize hS : readF l0 = t
 have HS := zaa.mk hS
 clear hS
 rcases t with _ | ⟨cs, rs, b⟩
 ·have e : res = none := by rw [← HF.out]; unfold floorF; rw [HS.out]; rfl
  subst e
  go_enter Try.func49, Try.ntmps49
  go_wp2_with (first
   | (go_at_call 90; refine (read_calls A0 c0 l0 _ HR.out HC.out HP.out).mono ?_; rw [HS.out]; rintro e w8 ⟨hb8, rfl⟩; have HB8 := zaa.mk hb8; clear hb8))
  go_ret2
  exact ⟨HB8.out, none, false, rfl, rfl⟩
 ·obtain ⟨q1, q2, q3, q4, q5, q6, q7⟩ := settledF_some (readF_some HS.out)
  have HCl := zaa.mk q6
  clear q2 q3 q5 q6 q7
  have hsh := (shapeOk_iff _).1 q1
  have HSh := zaa.mk hsh
  clear q1 hsh
  cases b
  ·have e : res = none := by rw [← HF.out]; unfold floorF; rw [HS.out]; simp
   subst e
   go_enter Try.func49, Try.ntmps49
   go_wp2_with (first
    | (go_at_call 90; refine (read_calls A0 c0 l0 _ HR.out HC.out HP.out).mono ?_; rw [HS.out]; rintro e w8 ⟨hb8, g, rfl, hfl⟩; have HB8 := zaa.mk hb8; clear hb8 hfl))
   go_ret2
   exact ⟨HB8.out, some ⟨g, 0, none⟩, false, rfl, rfl⟩
  ·have HT := zaa.mk (equalS_f (zcn cs) l0 (by rw [textOf_length, HCl.out.len]; have := HSh.out; omega))
   obtain ⟨k, hk⟩ := HT.out
   have HK := zaa.mk hk
   clear hk
   have HVal := zaa.mk (show ∀ r ∈ cs, r.length ≤ 1048576 ∧ ∀ x ∈ r, 0 ≤ x ∧ x ≤ 25 from fun r hr => ⟨by rw [HCl.out.row r hr]; have := HSh.out; omega, fun x hx => by have := HCl.out.val r hr x hx; omega⟩)
   have HLn := zaa.mk (show cs.length ≤ 1048576 from by rw [HCl.out.len]; have := HSh.out; omega)
   go_enter Try.func49, Try.ntmps49
   go_wp2_with (first
    | (go_at_call 90; refine (read_calls A0 c0 l0 _ HR.out HC.out HP.out).mono ?_; rw [HS.out]; rintro e w8 ⟨hb8, g, rfl, hfl⟩; have HB8 := zaa.mk hb8; have HFl := zaa.mk hfl; clear hb8 hfl)
    | (go_at_call 92; refine (text_calls g cs rs _ HFl.out HLn.out HVal.out).mono ?_; rintro e w9 ⟨v9, rfl, hr9, hb9⟩; have HB9 := zaa.mk (zaf HB8.out hb9); have HFl9 := zaa.mk (HFl.out.below hb9); obtain ⟨A9, c9, e9, hl9, hC9⟩ := Kd.R_reads hr9; subst e9; have HC9 := zaa.mk hC9; have HL9 := zaa.mk hl9; clear hb9 hr9 hC9 hl9)
    | (go_at_call 91; refine (slices_Equal_string_string.calls k A9 c9 (zcn cs) A0 c0 l0 _ _ HC9.out HL9.out (Kd.C_below HR.out HB9.out) HC.out HK.out).mono ?_; rintro e w10 ⟨rfl, hd10⟩; have HB10 := zaa.mk (zaf HB9.out hd10.below); have HFl10 := zaa.mk (HFl9.out.below hd10.below); clear hd10))
   go_ret2
   have hre : floorF l0 = if zcn cs = l0 then some (cs, rs) else none := by unfold floorF; rw [HS.out]; simp
   rw [← HF.out, hre]
   by_cases ht : zcn cs = l0
   ·rw [if_pos ht]
    exact ⟨HB10.out, some ⟨g, 0, none⟩, true, by rw [decide_eq_true ht]; rfl, rfl, g, rfl, HFl10.out⟩
   ·rw [if_neg ht]
    exact ⟨HB10.out, some ⟨g, 0, none⟩, false, by rw [decide_eq_false ht]; rfl, rfl⟩
def Evs {α : Type} (g : Nat → Option α) (r : α) : Prop := ∃ K, ∀ k, K ≤ k → g k = some r
section
variable {α β : Type} {g h : Nat → Option α} {r : α}
theorem Evs.const (r : α) : Evs (fun _ => some r) r := ⟨0, fun _ _ => rfl⟩
theorem Evs.step (e : ∀ k, g (k + 1) = h k) (hh : Evs h r) : Evs g r := by
 obtain ⟨K, hK⟩ := hh
 refine ⟨K + 1, fun k hk => ?_⟩
 obtain ⟨j, rfl⟩ : ∃ j, k = j + 1 := ⟨k - 1, by omega⟩
 rw [e]
 exact hK j (by omega)
theorem Evs.congr (e : ∀ k, g k = h k) (hh : Evs h r) : Evs g r := by
 obtain ⟨K, hK⟩ := hh
 exact ⟨K, fun k hk => by rw [e]; exact hK k hk⟩
theorem Evs.bind {g : Nat → Option β} {F : Nat → β → Option α} {b : β} (hg : Evs g b) (hF : Evs (fun k => F k b) r) : Evs (fun k => (g k).bind (F k)) r := by
 obtain ⟨K, hK⟩ := hg
 obtain ⟨L, hL⟩ := hF
 refine ⟨K + L, fun k hk => ?_⟩
 show (g k).bind (F k) = some r
 rw [hK k (by omega)]
 exact hL k (by omega)
theorem Evs.bindS {x : Option β} {F : Nat → β → Option α} {b : β} (hg : x = some b) (hF : Evs (fun k => F k b) r) : Evs (fun k => x.bind (F k)) r := by
 subst hg
 exact hF
end
theorem zbz {p : List ByteArray} {i : Nat} {s : ByteArray} (h : p[i]? = some s) : rdOf ByteArray.empty p (i : Int) = s := by
 unfold rdOf; rw [Int.toNat_natCast, List.getD_eq_getElem?_getD, h]; rfl
theorem bt_get {s : ByteArray} {j : Nat} {x : Int} (h : (zax s)[j]? = some x) : bt s (j : Int) = x := by
 rw [← bytesOf_get, List.getD_eq_getElem?_getD, h]; rfl
theorem l6In_f (a b c : Int) : spec_l6In.f a b c = some (decide (b ≤ a) && decide (a ≤ c)) := by
 unfold spec_l6In.f
 by_cases h : b ≤ a
 ·rw [if_pos h]; simp [h]
 ·rw [if_neg h]; simp [h]
theorem zay {i : Nat} (h : i ≤ 1048576) : wrap64 ((i : Int) + 1) = ((i + 1 : Nat) : Int) := by rw [zar (by omega) (by omega)]; omega
def gridOk (p : List ByteArray) : Bool := zcm (zag p) && p.all okText
def rowOk (n : Nat) (s : ByteArray) : Bool := decide (s.size = n) && (decide (1 ≤ s.size) && decide (s.size ≤ 6)) && okText s
theorem grid_l1 (p : List ByteArray) (i : Nat) (s : ByteArray) (hi : p[i]? = some s) (hs : s.size ≤ 1048576) (r : Bool) (hb : i ≤ 1048576) (hnext : okText s = true → Evs (fun k => spec_l1Grid.l0 k p ((i + 1 : Nat) : Int)) r) (hbad : okText s = false → r = false) :
  ∀ m j, j + m = s.size → ((zax s).take j).all okLetter = true → Evs (fun k => spec_l1Grid.l1 k p (i : Int) (j : Int)) r := by
 have hil := (List.getElem?_eq_some_iff.1 hi).1
 have hlen := zbq s
 intro m
 induction m with
 | zero =>
  intro j hj hall
  have hok : okText s = true := by
   unfold okText
   rw [show j = (zax s).length by omega, List.take_length] at hall
   exact hall
  refine Evs.step (h := fun k => spec_l1Grid.l0 k p ((i + 1 : Nat) : Int)) (fun k => ?_) (hnext hok)
  unfold spec_l1Grid.l1
  rw [if_pos (by omega), if_pos (by omega), zbz hi, if_neg (by omega), zay hb]
 | succ m ih =>
  intro j hj hall
  obtain ⟨x, hx⟩ : ∃ x, (zax s)[j]? = some x := ⟨_, List.getElem?_eq_getElem (by omega)⟩
  have htake : (zax s).take (j + 1) = (zax s).take j ++ [x] := by rw [List.take_add_one, hx]; rfl
  by_cases hlo : x < 97
  ·have hno : okText s = false := by
    unfold okText
    rw [List.all_eq_false]
    exact ⟨x, List.mem_of_getElem? hx, by simp [okLetter, hlo]⟩
   rw [hbad hno]
   refine Evs.step (h := fun _ => some false) (fun k => ?_) (Evs.const _)
   unfold spec_l1Grid.l1
   rw [if_pos (by omega), if_pos (by omega), zbz hi, if_pos (by omega), if_pos (by omega), bt_get hx, if_pos hlo]
  ·by_cases hhi : 122 < x
   ·have hno : okText s = false := by
     unfold okText
     rw [List.all_eq_false]
     exact ⟨x, List.mem_of_getElem? hx, by simp [okLetter, hhi]⟩
    rw [hbad hno]
    refine Evs.step (h := fun _ => some false) (fun k => ?_) (Evs.const _)
    unfold spec_l1Grid.l1
    rw [if_pos (by omega), if_pos (by omega), zbz hi, if_pos (by omega), if_pos (by omega), bt_get hx, if_neg hlo, if_pos hhi]
   ·refine Evs.step (h := fun k => spec_l1Grid.l1 k p (i : Int) ((j + 1 : Nat) : Int)) (fun k => ?_) (ih (j + 1) (by omega) (by rw [htake, List.all_append, hall]; simp [okLetter, hlo, hhi]))
    conv => lhs; unfold spec_l1Grid.l1
    rw [if_pos (by omega), if_pos (by omega), zbz hi, if_pos (by omega), if_pos (by omega), bt_get hx, if_neg hlo, if_neg (by omega), zay (by omega)]
theorem grid_l0 (p : List ByteArray) (hp : smallP p) : ∀ m i, i + m = p.length → Evs (fun k => spec_l1Grid.l0 k p (i : Int)) ((p.drop i).all (rowOk (p.getD 0 ByteArray.empty).size) && (decide (1 ≤ p.length) && decide (p.length ≤ 6))) := by
 have hpl := hp.1
 intro m
 induction m with
 | zero =>
  intro i hi
  refine Evs.step (h := fun _ => some ((p.drop i).all (rowOk (p.getD 0 ByteArray.empty).size) && (decide (1 ≤ p.length) && decide (p.length ≤ 6)))) (fun k => ?_) (Evs.const _)
  unfold spec_l1Grid.l0
  rw [if_neg (by omega), l6In_f, List.drop_eq_nil_of_le (by omega)]
  simp only [Option.bind_some, List.all_nil, Bool.true_and]
  congr 2
  ·congr 1; exact propext ⟨fun h => by omega, fun h => by omega⟩
  ·congr 1; exact propext ⟨fun h => by omega, fun h => by omega⟩
 | succ m ih =>
  intro i hi
  obtain ⟨s, hs⟩ : ∃ s, p[i]? = some s := ⟨_, List.getElem?_eq_getElem (by omega)⟩
  have hsz := hp.2 s (List.mem_of_getElem? hs)
  have hdrop : p.drop i = s :: p.drop (i + 1) := by
   rw [List.drop_eq_getElem_cons (by omega)]
   congr 1
   rw [List.getElem?_eq_getElem (by omega)] at hs
   exact Option.some.inj hs
  have h0 : rdOf ByteArray.empty p 0 = p.getD 0 ByteArray.empty := rfl
  rw [hdrop, List.all_cons]
  generalize hn : (p.getD 0 ByteArray.empty).size = n at *
  by_cases heq : s.size = n
  ·by_cases h16 : 1 ≤ s.size ∧ s.size ≤ 6
   ·have hr : rowOk n s = okText s := by simp [rowOk, heq, h16.1, h16.2]; omega
    rw [hr]
    refine Evs.step (h := fun k => spec_l1Grid.j1 k p (i : Int) false) (fun k => ?_) ?_
    ·unfold spec_l1Grid.l0
     rw [if_pos (by omega), if_pos (by omega), if_pos (by omega), zbz hs, h0, hn, if_pos (by omega), l6In_f]
     simp only [Option.bind_some]
     rw [decide_eq_true (by omega : (1 : Int) ≤ s.size), decide_eq_true (by omega : (s.size : Int) ≤ 6)]
     rfl
    ·refine Evs.step (h := fun k => spec_l1Grid.l1 k p (i : Int) ((0 : Nat) : Int)) (fun k => ?_) (grid_l1 p i s hs hsz _ (by omega) (fun hok => ?_) (fun hno => ?_) s.size 0 (by omega) (by simp))
     ·unfold spec_l1Grid.j1
      rw [if_neg (by simp)]
      rfl
     ·rw [hok, Bool.true_and]
      exact ih (i + 1) (by omega)
     ·rw [hno, Bool.false_and, Bool.false_and]
   ·have hr : rowOk n s = false := by
     unfold rowOk
     by_cases h1 : 1 ≤ s.size
     ·have : ¬ s.size ≤ 6 := fun h => h16 ⟨h1, h⟩
      simp [this]
     ·simp [h1]
    rw [hr, Bool.false_and, Bool.false_and]
    refine Evs.step (h := fun k => spec_l1Grid.j1 k p (i : Int) true) (fun k => ?_) (Evs.step (h := fun _ => some false) (fun k => ?_) (Evs.const _))
    ·unfold spec_l1Grid.l0
     rw [if_pos (by omega), if_pos (by omega), if_pos (by omega), zbz hs, h0, hn, if_pos (by omega), l6In_f]
     simp only [Option.bind_some]
     congr 1
     by_cases h1 : 1 ≤ s.size
     ·have : ¬ (s.size : Int) ≤ 6 := by omega
      simp [this]
     ·have : ¬ (1 : Int) ≤ s.size := by omega
      simp [this]
    ·unfold spec_l1Grid.j1
     rw [if_pos rfl]
  ·have hr : rowOk n s = false := by simp [rowOk, heq]
   rw [hr, Bool.false_and, Bool.false_and]
   refine Evs.step (h := fun k => spec_l1Grid.j1 k p (i : Int) true) (fun k => ?_) (Evs.step (h := fun _ => some false) (fun k => ?_) (Evs.const _))
   ·unfold spec_l1Grid.l0
    rw [if_pos (by omega), if_pos (by omega), if_pos (by omega), zbz hs, h0, hn, if_neg (by omega)]
   ·unfold spec_l1Grid.j1
    rw [if_pos rfl]
theorem wideOf_numsOf (p : List ByteArray) : zai (zag p) = (p.getD 0 ByteArray.empty).size := by
 unfold zai zag
 cases p with
 | nil => rfl
 | cons a r => simp [zbq]
theorem gridOk_eq (p : List ByteArray) : ((p.drop 0).all (rowOk (p.getD 0 ByteArray.empty).size) && (decide (1 ≤ p.length) && decide (p.length ≤ 6))) = gridOk p := by
 rw [Bool.eq_iff_iff]
 unfold gridOk
 rw [List.drop_zero, Bool.and_eq_true, Bool.and_eq_true, Bool.and_eq_true, shapeOk_iff, wideOf_numsOf, List.all_eq_true, List.all_eq_true]
 have hl : (zag p).length = p.length := by simp [zag]
 rw [hl]
 simp only [decide_eq_true_eq]
 constructor
 ·rintro ⟨h1, h2, h3⟩
  have h0 := h1 (p.getD 0 ByteArray.empty) (by rw [List.getD_eq_getElem?_getD, List.getElem?_eq_getElem (by omega)]; exact List.getElem_mem _)
  simp only [rowOk, Bool.and_eq_true, decide_eq_true_eq] at h0
  refine ⟨⟨h2, h3, h0.1.2.1, h0.1.2.2, fun r hr => ?_⟩, fun s hs => ?_⟩
  ·unfold zag at hr
   simp at hr
   obtain ⟨s, hs, rfl⟩ := hr
   have := h1 s hs
   simp only [rowOk, Bool.and_eq_true, decide_eq_true_eq] at this
   rw [zbq]
   exact this.1.1
  ·have := h1 s hs
   simp only [rowOk, Bool.and_eq_true, decide_eq_true_eq] at this
   exact this.2
 ·rintro ⟨⟨h2, h3, h4, h5, h6⟩, h7⟩
  refine ⟨fun s hs => ?_, h2, h3⟩
  have := h6 (zax s) (by unfold zag; simp; exact ⟨s, hs, rfl⟩)
  rw [zbq] at this
  simp only [rowOk, Bool.and_eq_true, decide_eq_true_eq]
  exact ⟨⟨this, by omega, by omega⟩, h7 s hs⟩
theorem l1Grid_ev (p : List ByteArray) (hp : smallP p) : Evs (fun k => spec_l1Grid.f k p) (gridOk p) := by
 rw [← gridOk_eq]
 exact grid_l0 p hp p.length 0 (by omega)
end Go.Proofs.Ytickdcegnlldjaa.Hd
namespace Go.Proofs.Ytickdcegnlldjaa.Hd
open Go.RowKit Go.PW.PrintWords Go.PW.PrintLast Go.PW.PrintMore Go.Proofs.Ytickdcegnlldjaa.PB
def pushL (o : List Int) (v : Int) : List Int := if v ∈ o then o else o ++ [v]
def ordL (xs : List Int) (o : List Int) : List Int := xs.foldl pushL o
theorem pushL_prefix (o : List Int) (v : Int) : o <+: pushL o v := by
 unfold pushL
 split
 ·exact List.prefix_refl _
 ·exact List.prefix_append _ _
theorem pushL_mem (o : List Int) (v : Int) : v ∈ pushL o v := by
 unfold pushL
 split
 ·assumption
 ·simp
theorem ordL_prefix (xs : List Int) : ∀ o, o <+: ordL xs o := by
 induction xs with
 | nil => exact fun o => List.prefix_refl _
 | cons x r ih => exact fun o => (pushL_prefix o x).trans (ih _)
theorem ordL_append (xs ys : List Int) (o : List Int) : ordL (xs ++ ys) o = ordL ys (ordL xs o) := by simp [ordL, List.foldl_append]
theorem ordL_mem (xs : List Int) : ∀ o, ∀ x ∈ xs, x ∈ ordL xs o := by
 induction xs with
 | nil => intro o x hx; cases hx
 | cons y r ih =>
  intro o x hx
  rcases List.mem_cons.1 hx with rfl | hx
  ·exact (ordL_prefix r (pushL o x)).subset (pushL_mem o x)
  ·exact ih _ x hx
theorem ordL_sub (xs : List Int) : ∀ o, ∀ x ∈ ordL xs o, x ∈ o ∨ x ∈ xs := by
 induction xs with
 | nil => exact fun o x hx => .inl hx
 | cons y r ih =>
  intro o x hx
  rcases ih _ x hx with h | h
  ·unfold pushL at h
   split at h
   ·exact .inl h
   ·rcases List.mem_append.1 h with h | h
    ·exact .inl h
    ·simp at h; subst h; exact .inr List.mem_cons_self
  ·exact .inr (List.mem_cons_of_mem _ h)
theorem ordL_nodup (xs : List Int) : ∀ o, o.Nodup → (ordL xs o).Nodup := by
 induction xs with
 | nil => exact fun o h => h
 | cons y r ih =>
  intro o h
  refine ih _ ?_
  unfold pushL
  split
  ·exact h
  ·rename_i hn
   rw [List.nodup_append]
   exact ⟨h, by simp, fun a ha b hb => by simp at hb; subst hb; exact fun e => hn (e ▸ ha)⟩
theorem ordL_length (xs : List Int) : ∀ o, (ordL xs o).length ≤ o.length + xs.length := by
 induction xs with
 | nil => exact fun o => by simp [ordL]
 | cons y r ih =>
  intro o
  have h1 := ih (pushL o y)
  have h2 : (pushL o y).length ≤ o.length + 1 := by
   unfold pushL
   split
   ·omega
   ·simp
  show (ordL r (pushL o y)).length ≤ _
  simp only [List.length_cons]
  omega
theorem idxOf_prefix {o L : List Int} (h : o <+: L) {x : Int} (hx : x ∈ o) : L.idxOf x = o.idxOf x := by
 obtain ⟨t, rfl⟩ := h
 rw [List.idxOf_append, if_pos hx]
theorem idxOf_push {o L : List Int} {x : Int} (h : pushL o x <+: L) : L.idxOf x = o.idxOf x := by
 rw [idxOf_prefix h (pushL_mem o x)]
 unfold pushL
 split
 ·rfl
 ·rename_i hn
  rw [List.idxOf_append, if_neg hn, List.idxOf_eq_length hn]
  simp
def canonL (L : List Int) (rows : List (List Int)) : List (List Int) := rows.map fun r => r.map fun x => (L.idxOf x : Int)
def ordAll (rows : List (List Int)) : List Int := ordL rows.flatten []
def canon (rows : List (List Int)) : List (List Int) := canonL (ordAll rows) rows
def namesOf (p : List ByteArray) : List ByteArray := zcn (canon (zag p))
def numOf (L : List Int) (x : Int) : Int := 97 + (L.idxOf x : Int)
theorem letter_wrap {a : Nat} (h : a ≤ 100) : (wrap64 (97 + (a : Int))) % 256 = 97 + (a : Int) := by
 rw [zar (by omega) (by omega)]
 omega
theorem names_l2 (p : List ByteArray) (i j : Nat) (s : ByteArray) (v : Int) (hi : p[i]? = some s) (hv : (zax s)[j]? = some v) (o : List Int) (x4 : List ByteArray) (x6 : List Int) (ho : o.length ≤ 100) (h6 : x6.length ≤ 1048576) (hj : j ≤ 1048576) (r : List ByteArray)
  (hnext : Evs (fun k => spec_l1Names.l1 k p (pushL o v) x4 (i : Int) (x6 ++ [97 + (o.idxOf v : Int)]) ((j + 1 : Nat) : Int)) r) :
  ∀ m a, a + m = o.length → v ∉ o.take a → Evs (fun k => spec_l1Names.l2 k p o x4 (i : Int) x6 (j : Int) (a : Int)) r := by
 have hil := (List.getElem?_eq_some_iff.1 hi).1
 have hjl := (List.getElem?_eq_some_iff.1 hv).1
 rw [zbq] at hjl
 intro m
 induction m with
 | zero =>
  intro a ha hno
  rw [List.take_of_length_le (by omega)] at hno
  have hidx := List.idxOf_eq_length hno
  have hpush : pushL o v = o ++ [v] := by unfold pushL; rw [if_neg hno]
  rw [hpush, hidx] at hnext
  refine Evs.step (h := fun k => spec_l1Names.l1 k p (o ++ [v]) x4 (i : Int) (x6 ++ [97 + (o.length : Int)]) ((j + 1 : Nat) : Int)) (fun k => ?_) hnext
  conv => lhs; unfold spec_l1Names.l2
  rw [if_neg (by omega), if_pos (by omega), if_pos (by omega), if_pos (by omega), if_pos (by omega), zbz hi, if_pos (by omega), if_pos (by omega), if_pos (by omega), bt_get hv, letter_wrap (by omega), zay (by omega), show a = o.length by omega]
 | succ m ih =>
  intro a ha hno
  obtain ⟨x, hx⟩ : ∃ x, o[a]? = some x := ⟨_, List.getElem?_eq_getElem (by omega)⟩
  have hrd : rd o (a : Int) = x := by unfold rd; rw [Int.toNat_natCast, List.getD_eq_getElem?_getD, hx]; rfl
  by_cases he : x = v
  ·subst he
   have hmem : x ∈ o := List.mem_of_getElem? hx
   have hpush : pushL o x = o := by unfold pushL; rw [if_pos hmem]
   have hidx : o.idxOf x = a := by
    have h1 : o = o.take a ++ x :: o.drop (a + 1) := by
     rw [List.getElem?_eq_getElem (by omega)] at hx
     have := Option.some.inj hx
     rw [← this, ← List.drop_eq_getElem_cons, List.take_append_drop]
    rw [h1, List.idxOf_append, if_neg hno, List.idxOf_cons_self]
    simp
    omega
   rw [hpush, hidx] at hnext
   refine Evs.step (h := fun k => spec_l1Names.l1 k p o x4 (i : Int) (x6 ++ [97 + (a : Int)]) ((j + 1 : Nat) : Int)) (fun k => ?_) hnext
   conv => lhs; unfold spec_l1Names.l2
   rw [if_pos (by omega), if_pos (by omega), if_pos (by omega), if_pos (by omega), if_pos (by omega), zbz hi, if_pos (by omega), hrd, bt_get hv, if_pos rfl, if_neg (by omega), if_pos (by omega), letter_wrap (by omega), zay (by omega)]
  ·refine Evs.step (h := fun k => spec_l1Names.l2 k p o x4 (i : Int) x6 (j : Int) ((a + 1 : Nat) : Int)) (fun k => ?_) (ih (a + 1) (by omega) (by
    rw [List.take_add_one, hx]
    simp only [Option.toList_some, List.mem_append, List.mem_singleton, not_or]
    exact ⟨hno, fun e => he e.symm⟩))
   conv => lhs; unfold spec_l1Names.l2
   rw [if_pos (by omega), if_pos (by omega), if_pos (by omega), if_pos (by omega), if_pos (by omega), zbz hi, if_pos (by omega), hrd, bt_get hv, if_neg he, zay (by omega)]
theorem names_l1 (p : List ByteArray) (i : Nat) (s : ByteArray) (hi : p[i]? = some s) (hib : i ≤ 1048576) (hs : s.size ≤ 1048576) (L : List Int) (hL : L.length ≤ 100) (x4 : List ByteArray) (h4 : x4.length ≤ 1048576) (r : List ByteArray) :
  ∀ m j o x6, j + m = s.size → x6.length = j → ordL ((zax s).drop j) o <+: L → Evs (fun k => spec_l1Names.l0 k p (ordL ((zax s).drop j) o) (x4 ++ [strOfNums (x6 ++ ((zax s).drop j).map (numOf L))]) ((i + 1 : Nat) : Int)) r →
   Evs (fun k => spec_l1Names.l1 k p o x4 (i : Int) x6 (j : Int)) r := by
 have hil := (List.getElem?_eq_some_iff.1 hi).1
 have hlen := zbq s
 intro m
 induction m with
 | zero =>
  intro j o x6 hj h6 hpre hnext
  rw [List.drop_eq_nil_of_le (by omega)] at hnext
  simp only [List.map_nil, List.append_nil] at hnext
  refine Evs.step (h := fun k => spec_l1Names.l0 k p o (x4 ++ [strOfNums x6]) ((i + 1 : Nat) : Int)) (fun k => ?_) hnext
  conv => lhs; unfold spec_l1Names.l1
  rw [if_pos (by omega), if_pos (by omega), zbz hi, if_neg (by omega), if_pos (by omega), zay hib]
 | succ m ih =>
  intro j o x6 hj h6 hpre hnext
  obtain ⟨v, hv⟩ : ∃ v, (zax s)[j]? = some v := ⟨_, List.getElem?_eq_getElem (by omega)⟩
  have hdrop : (zax s).drop j = v :: (zax s).drop (j + 1) := by
   rw [List.drop_eq_getElem_cons (by omega)]
   congr 1
   rw [List.getElem?_eq_getElem (by omega)] at hv
   exact Option.some.inj hv
  rw [hdrop] at hpre hnext
  have hpre2 : ordL ((zax s).drop (j + 1)) (pushL o v) <+: L := hpre
  have hpl := (ordL_prefix ((zax s).drop (j + 1)) (pushL o v)).trans hpre2
  have hol := ((pushL_prefix o v).trans hpl).length_le
  have hidx := idxOf_push hpl
  refine Evs.step (h := fun k => spec_l1Names.l2 k p o x4 (i : Int) x6 (j : Int) ((0 : Nat) : Int)) (fun k => ?_) (names_l2 p i j s v hi hv o x4 x6 (by omega) (by omega) (by omega) r (ih (j + 1) (pushL o v) _ (by omega) (by simp [h6]) hpre2 ?_) o.length 0 (by omega) (by simp))
  ·conv => lhs; unfold spec_l1Names.l1
   rw [if_pos (by omega), if_pos (by omega), zbz hi, if_pos (by omega)]
   rfl
  ·rw [List.append_assoc]
   simp only [List.map_cons] at hnext
   unfold numOf at hnext ⊢
   rw [hidx] at hnext
   exact hnext
theorem names_l0 (p : List ByteArray) (hp : smallP p) (L : List Int) (hL : L.length ≤ 100) : ∀ m i o x4, i + m = p.length → x4.length = i → ordL ((zag p).drop i).flatten o = L →
  Evs (fun k => spec_l1Names.l0 k p o x4 (i : Int)) (x4 ++ (p.drop i).map fun s => strOfNums ((zax s).map (numOf L))) := by
 have hpl := hp.1
 intro m
 induction m with
 | zero =>
  intro i o x4 hi h4 ho
  rw [List.drop_eq_nil_of_le (by omega), List.map_nil, List.append_nil]
  refine Evs.step (h := fun _ => some x4) (fun k => ?_) (Evs.const _)
  conv => lhs; unfold spec_l1Names.l0
  rw [if_neg (by omega)]
 | succ m ih =>
  intro i o x4 hi h4 ho
  obtain ⟨s, hs⟩ : ∃ s, p[i]? = some s := ⟨_, List.getElem?_eq_getElem (by omega)⟩
  have hsz := hp.2 s (List.mem_of_getElem? hs)
  have hdrop : p.drop i = s :: p.drop (i + 1) := by
   rw [List.drop_eq_getElem_cons (by omega)]
   congr 1
   rw [List.getElem?_eq_getElem (by omega)] at hs
   exact Option.some.inj hs
  have hdrop2 : (zag p).drop i = zax s :: (zag p).drop (i + 1) := by
   unfold zag
   rw [← List.map_drop, hdrop, List.map_cons, List.map_drop]
  rw [hdrop2, List.flatten_cons, ordL_append] at ho
  have hpre : ordL (zax s) o <+: L := by rw [← ho]; exact ordL_prefix _ _
  rw [hdrop, List.map_cons]
  have hnext := ih (i + 1) (ordL (zax s) o) (x4 ++ [strOfNums ((zax s).map (numOf L))]) (by omega) (by simp [h4]) ho
  rw [List.append_assoc] at hnext
  refine Evs.step (h := fun k => spec_l1Names.l1 k p o x4 (i : Int) [] ((0 : Nat) : Int)) (fun k => ?_) (names_l1 p i s hs (by omega) hsz L hL x4 (by omega) _ s.size 0 o [] (by omega) rfl hpre hnext)
  conv => lhs; unfold spec_l1Names.l0
  rw [if_pos (by omega)]
  rfl
theorem strOfNums_row (L : List Int) (row : List Int) : strOfNums (row.map (numOf L)) = rowText (row.map fun x => (L.idxOf x : Int)) := by
 unfold strOfNums rowText rowBytes
 congr 2
 rw [List.map_map, List.map_map]
 rfl
theorem l1Names_ev (p : List ByteArray) (hp : smallP p) (hL : (ordAll (zag p)).length ≤ 100) : Evs (fun k => spec_l1Names.f k p) (namesOf p) := by
 have := names_l0 p hp (ordAll (zag p)) hL p.length 0 [] [] (by omega) rfl rfl
 rw [List.nil_append, List.drop_zero] at this
 have e : namesOf p = p.map fun s => strOfNums ((zax s).map (numOf (ordAll (zag p)))) := by
  unfold namesOf zcn canon canonL
  generalize ordAll (zag p) = L
  unfold zag
  rw [List.map_map, List.map_map]
  congr 1
  funext s
  exact (strOfNums_row L (zax s)).symm
 rw [e]
 exact this
theorem flatten_length_le (rows : List (List Int)) (w : Nat) (h : ∀ r ∈ rows, r.length = w) : rows.flatten.length = rows.length * w := by
 induction rows with
 | nil => simp
 | cons a r ih =>
  rw [List.flatten_cons, List.length_append, ih (fun x hx => h x (List.mem_cons_of_mem _ hx)), h a List.mem_cons_self, List.length_cons, Nat.succ_mul]
  omega
theorem shape_order {rows : List (List Int)} (h : zcm rows = true) : (ordAll rows).length ≤ 36 := by
 obtain ⟨h1, h2, h3, h4, h5⟩ := (shapeOk_iff _).1 h
 have := ordL_length rows.flatten []
 rw [flatten_length_le rows _ h5] at this
 have h6 := Nat.mul_le_mul h2 h4
 unfold ordAll
 simp at this
 omega
def Sees (w W : World) : Prop := w.heap.size ≤ W.heap.size ∧ ∀ k, k < w.heap.size → W.heap[k]? = w.heap[k]?
def likeW (w W : World) : World := { W with os := w.os, tape := w.tape, output := w.output }
theorem Sees.below {w W : World} (h : Sees w W) : Below w.heap.size w (likeW w W) := ⟨rfl, rfl, rfl, h.1, h.2⟩
theorem Sees.of_below {w W : World} (h : Below w.heap.size w W) : Sees w W := ⟨h.size, h.block⟩
theorem Sees.refl (w : World) : Sees w w := ⟨Nat.le_refl _, fun _ _ => rfl⟩
theorem Sees.trans {a b c : World} (h : Sees a b) (k : Sees b c) : Sees a c := ⟨Nat.le_trans h.1 k.1, fun i hi => (k.2 i (Nat.lt_of_lt_of_le hi h.1)).trans (h.2 i hi)⟩
theorem Sees.cell {w W : World} (h : Sees w W) {a : Addr} {v : Value} (hc : w.cell? a = some v) : W.cell? a = some v := zae (w1 := likeW w W) h.below hc
theorem Sees.at {w W : World} (h : Sees w W) {k : Nat} {o : Obj} (hc : w.heap[k]? = some o) : W.heap[k]? = some o := (h.2 k (Array.getElem?_eq_some_iff.1 hc).1).trans hc
theorem C_likeW {w W : World} {A : Option Addr} {n : Nat} {xs : List (List Int)} (h : (Kd.slice 3 (Kd.int .i64)).C (likeW w W) A n xs) : (Kd.slice 3 (Kd.int .i64)).C W A n xs := h
theorem Sees.C {w W : World} (h : Sees w W) {A : Option Addr} {n : Nat} {xs : List (List Int)} (hc : (Kd.slice 3 (Kd.int .i64)).C w A n xs) : (Kd.slice 3 (Kd.int .i64)).C W A n xs := C_likeW (Kd.C_below hc h.below)
def ReadFn (P : Program) (f : FuncId) (caps : Array Value) (w : World) (hi wi : Nat) (g : Nat → Nat → Int) : Prop :=
 ∀ (W : World) (r c : Nat), r < hi → c < wi → Sees w W → Calls P f (#[.int .i64 r, .int .i64 c] ++ caps) W fun e W' => e = .returned (.int .i64 (g r c)) ∧ Below W.heap.size W W'
def GridRes (w : World) (r : List (List Int)) (e : Ending) (w' : World) : Prop :=
 ∃ A c, e = .returned (.slice A r.length c) ∧ r.length ≤ c ∧ (Kd.slice 3 (Kd.int .i64)).C w' A r.length r ∧ Below w.heap.size w w'
theorem gridOf_row {hi wi : Nat} {g : Nat → Nat → Int} : ∀ r ∈ zbn hi wi g, r.length = wi := by
 intro r hr
 unfold zbn at hr
 simp at hr
 obtain ⟨a, _, rfl⟩ := hr
 simp
theorem readFn_cell {P : Program} {f : FuncId} {caps : Array Value} {w : World} {hi wi : Nat} {g : Nat → Nat → Int} (h : ReadFn P f caps w hi wi g) :
  CellFn P f caps hi wi g (fun _ F W => (∀ k, F k ↔ k < w.heap.size) ∧ Sees w W) := by
 refine ⟨fun n F W W' hI hs hm => ⟨hI.1, Nat.le_trans hI.2.1 hs, fun k hk => (hm k ((hI.1 k).2 hk)).trans (hI.2.2 k hk)⟩, fun n F W k hI hk => Nat.lt_of_lt_of_le ((hI.1 k).1 hk) hI.2.1, ?_⟩
 intro n F W r c hr hc _ hI
 refine (h W r c hr hc hI.2).mono ?_
 rintro e W' ⟨rfl, hb⟩
 exact ⟨rfl, F, ⟨hI.1, hI.2.trans (Sees.of_below hb)⟩, fun k hk => .inl hk, Other.of_below hb⟩
structure zcg (cs : List (List Int)) (rs : List Rc) : Prop where
 cells : Cells cs.length (zai cs) rs.length cs
 h1 : 1 ≤ cs.length
 h6 : cs.length ≤ 6
 w1 : 1 ≤ zai cs
 w6 : zai cs ≤ 6
 many : rs.length ≤ 9
 bound : ∀ a ∈ rs, boundR a cs.length (zai cs)
theorem wideOf_of {cs : List (List Int)} {hi wi n : Nat} (h : Cells hi wi n cs) (h1 : 1 ≤ hi) : zai cs = wi := by
 unfold zai
 have hl := h.len
 rw [List.getD_eq_getElem?_getD, List.getElem?_eq_getElem (by omega)]
 exact h.row _ (List.getElem_mem _)
theorem settledF_ok {rows cs : List (List Int)} {rs : List Rc} {b : Bool} (h : zce rows = some (cs, rs, b)) : zcg cs rs := by
 obtain ⟨q1, q2, q3, q4, q5, q6, q7⟩ := settledF_some h
 obtain ⟨s1, s2, s3, s4, s5⟩ := (shapeOk_iff _).1 q1
 have hw := wideOf_of q6 s1
 have hl := q6.len
 exact ⟨by rw [hw, hl]; exact q6, by omega, by omega, by omega, by omega, q4, by rw [hw, hl]; exact q7⟩
theorem floorF_ok {p : List ByteArray} {cs : List (List Int)} {rs : List Rc} (h : floorF p = some (cs, rs)) : zcg cs rs := by
 unfold floorF at h
 cases hr : readF p with
 | none => rw [hr] at h; cases h
 | some t =>
  rw [hr] at h
  simp only [Option.bind_some] at h
  split at h
  ·injection h with h
   injection h with e1 e2
   subst e1 e2
   exact settledF_ok (readF_some hr)
  ·cases h
theorem high_f (cs : List (List Int)) (rs : List Rc) : impl_floor_high.f cs rs = some (cs.length : Int) := rfl
theorem wide_f {cs : List (List Int)} {rs : List Rc} (h : zcg cs rs) : impl_floor_wide.f cs rs = some (zai cs : Int) := by
 have := h.h1
 unfold impl_floor_wide.f
 rw [if_pos (by omega)]
 rfl
theorem FloorAt.cell {w : World} {g : Nat} {cs : List (List Int)} {rs : List Rc} (hf : FloorAt w g cs rs) (hk : zcg cs rs) (r c : Nat) (hr : r < cs.length) (hc : c < zai cs) :
  ∃ ad c0 ad2 c2, w.cell? ⟨g, 0, none⟩ = some (.slice (some ad) cs.length c0) ∧ w.cell? (ad.add r) = some (.slice (some ad2) (zai cs) c2) ∧ w.cell? (ad2.add c) = some (.int .i64 (zbe cs r c)) := by
 obtain ⟨A0, c0, A1, c1, h1, h2, h3, h4⟩ := hf
 obtain ⟨row, hrow⟩ : ∃ row, cs[r]? = some row := ⟨_, List.getElem?_eq_getElem hr⟩
 obtain ⟨ad, Ai, ci, e1, hx, hl, hrr⟩ := C_row h3 r row hrow
 have hw := hk.cells.row row (List.mem_of_getElem? hrow)
 obtain ⟨ad2, e2, hx2⟩ := C_int_cell hrr c (by omega)
 subst e1 e2
 refine ⟨ad, c0, ad2, ci, (zal h1 0).trans rfl, by rw [hx, hw], ?_⟩
 rw [hx2]
 unfold zbe rd
 rw [List.getD_eq_getElem?_getD, List.getD_eq_getElem?_getD, List.getD_eq_getElem?_getD, hrow, Int.toNat_natCast]
 rfl
theorem valAt_range {cs : List (List Int)} {rs : List Rc} (hk : zcg cs rs) (r c : Nat) (hr : r < cs.length) (hc : c < zai cs) : 0 ≤ zbe cs r c ∧ zbe cs r c < rs.length := by
 have hm : cs.getD r [] ∈ cs := by rw [List.getD_eq_getElem?_getD, List.getElem?_eq_getElem hr]; exact List.getElem_mem _
 have hw := hk.cells.row _ hm
 refine hk.cells.val _ hm _ ?_
 unfold zbe
 rw [List.getD_eq_getElem?_getD (l := cs.getD r []), List.getElem?_eq_getElem (by omega)]
 exact List.getElem_mem _
theorem nodup_inj {l : List Int} (h : l.Nodup) {i j : Nat} (hi : i < l.length) (hj : j < l.length) (e : l[i] = l[j]) : i = j := by
 have hp := List.pairwise_iff_getElem.1 h
 rcases Nat.lt_trichotomy i j with h1 | h1 | h1
 ·exact absurd e (hp i j hi hj h1)
 ·exact h1
 ·exact absurd e.symm (hp j i hj hi h1)
def Rect (wi : Nat) (rows : List (List Int)) : Prop := ∀ r ∈ rows, r.length = wi
theorem valAt_get {rows : List (List Int)} {wi r c : Nat} (h : Rect wi rows) (hr : r < rows.length) (hc : c < wi) : ∃ row, rows[r]? = some row ∧ row[c]? = some (zbe rows r c) := by
 refine ⟨rows[r], List.getElem?_eq_getElem hr, ?_⟩
 have hw := h _ (List.getElem_mem hr)
 unfold zbe
 rw [List.getD_eq_getElem?_getD, List.getD_eq_getElem?_getD, List.getElem?_eq_getElem hr]
 simp only [Option.getD_some]
 rw [List.getElem?_eq_getElem (by omega)]
 rfl
theorem gridOf_get {hi wi : Nat} {g : Nat → Nat → Int} {r : Nat} (hr : r < hi) : (zbn hi wi g)[r]? = some ((List.range wi).map (g r)) := by
 unfold zbn
 rw [List.getElem?_map, List.getElem?_range hr]
 rfl
theorem valAt_gridOf {hi wi : Nat} {g : Nat → Nat → Int} {r c : Nat} (hr : r < hi) (hc : c < wi) : zbe (zbn hi wi g) r c = g r c := by
 unfold zbe
 rw [List.getD_eq_getElem?_getD, List.getD_eq_getElem?_getD, gridOf_get hr]
 simp only [Option.getD_some]
 rw [List.getElem?_map, List.getElem?_range hc]
 rfl
theorem gridOf_rect (hi wi : Nat) (g : Nat → Nat → Int) : Rect wi (zbn hi wi g) := fun r hr => gridOf_row r hr
theorem gridOf_congr {hi wi : Nat} {g g' : Nat → Nat → Int} (h : ∀ r c, r < hi → c < wi → g r c = g' r c) : zbn hi wi g = zbn hi wi g' := by
 unfold zbn
 apply List.map_congr_left
 intro r hr
 apply List.map_congr_left
 intro c hc
 exact h r c (List.mem_range.1 hr) (List.mem_range.1 hc)
theorem rect_map {rows : List (List Int)} {wi : Nat} (h : Rect wi rows) (f : Int → Int) : rows.map (fun r => r.map f) = zbn rows.length wi (fun r c => f (zbe rows r c)) := by
 apply List.ext_getElem?
 intro r
 by_cases hr : r < rows.length
 ·rw [gridOf_get hr, List.getElem?_map, List.getElem?_eq_getElem hr]
  simp only [Option.map_some]
  congr 1
  have hw := h _ (List.getElem_mem hr)
  apply List.ext_getElem?
  intro c
  rw [List.getElem?_map, List.getElem?_map]
  by_cases hc : c < wi
  ·obtain ⟨row, h1, h2⟩ := valAt_get h hr hc
   rw [List.getElem?_eq_getElem hr] at h1
   injection h1 with h1
   rw [h1, h2, List.getElem?_range hc]
   rfl
  ·rw [List.getElem?_eq_none (by omega), List.getElem?_eq_none (by simp; omega)]
   rfl
 ·rw [List.getElem?_eq_none (by simp; omega), List.getElem?_eq_none (by rw [zbf]; omega)]
theorem flatten_get {wi : Nat} : ∀ (rows : List (List Int)), Rect wi rows → ∀ n, n < rows.length * wi → rows.flatten[n]? = some (zbe rows (n / wi) (n % wi))
 | [], _, n, h => by simp at h
 | a :: r, hR, n, h => by
  have hwi : 0 < wi := by
   rcases Nat.eq_zero_or_pos wi with h0 | h0
   ·subst h0; simp at h
   ·exact h0
  have ha := hR a List.mem_cons_self
  rw [List.flatten_cons]
  by_cases hn : n < wi
  ·rw [List.getElem?_append_left (by omega), Nat.div_eq_of_lt hn, Nat.mod_eq_of_lt hn]
   unfold zbe
   simp only [List.getD_cons_zero]
   rw [List.getD_eq_getElem?_getD, List.getElem?_eq_getElem (by omega)]
   rfl
  ·rw [List.getElem?_append_right (by omega), ha, flatten_get r (fun x hx => hR x (List.mem_cons_of_mem _ hx)) (n - wi) (by
    rw [List.length_cons, Nat.succ_mul] at h
    omega)]
   congr 1
   obtain ⟨m, rfl⟩ : ∃ m, n = m + wi := ⟨n - wi, by omega⟩
   rw [Nat.add_sub_cancel, Nat.add_div_right _ hwi, Nat.add_mod_right]
   unfold zbe
   simp only [List.getD_cons_succ]
theorem stAt_ord {rows : List (List Int)} {wi : Nat} (h : Rect wi rows) : ∀ n, n ≤ rows.length * wi → (stAt rows wi n).1 = ordL (rows.flatten.take n) []
 | 0, _ => by simp [stAt, ordL]
 | n + 1, hn => by
  rw [List.take_add_one, flatten_get rows h n (by omega)]
  simp only [Option.toList_some]
  rw [ordL_append, ← stAt_ord h n (by omega)]
  show (stepS (stAt rows wi n) (n / wi) (n % wi) (zbe rows (n / wi) (n % wi))).1 = pushL (stAt rows wi n).1 (zbe rows (n / wi) (n % wi))
  unfold stepS pushL
  split <;> rfl
theorem stAt_all {rows : List (List Int)} {wi : Nat} (h : Rect wi rows) : (stAt rows wi (rows.length * wi)).1 = ordAll rows := by
 rw [stAt_ord h _ (Nat.le_refl _), List.take_of_length_le (by rw [flatten_length_le rows wi h]; exact Nat.le_refl _)]
 rfl
theorem numAt_idx {rows : List (List Int)} {wi r c : Nat} (h : Rect wi rows) (hr : r < rows.length) (hc : c < wi) : numAt rows wi r c = ((ordAll rows).idxOf (zbe rows r c) : Int) := by
 unfold numAt
 have hle : r * wi + c + 1 ≤ rows.length * wi := by
  have : (r + 1) * wi ≤ rows.length * wi := Nat.mul_le_mul_right _ hr
  rw [Nat.succ_mul] at this
  omega
 have hp := stAt_prefix rows wi (r * wi + c + 1) (rows.length * wi - (r * wi + c + 1))
 rw [show r * wi + c + 1 + (rows.length * wi - (r * wi + c + 1)) = rows.length * wi by omega, stAt_all h] at hp
 rw [idxOf_prefix hp (stAt_mem rows wi r c hc)]
theorem shape_rect {rows : List (List Int)} (h : zcm rows = true) : Rect (zai rows) rows := ((shapeOk_iff _).1 h).2.2.2.2
theorem canon_grid {rows : List (List Int)} {wi : Nat} (h : Rect wi rows) : canon rows = zbn rows.length wi (fun r c => ((ordAll rows).idxOf (zbe rows r c) : Int)) := rect_map h _
theorem cellsOf_canon {rows : List (List Int)} (h : zcm rows = true) : cellsOf rows = canon rows := by
 rw [canon_grid (shape_rect h)]
 exact gridOf_congr fun r c hr hc => numAt_idx (shape_rect h) hr hc
structure BoxN (rows : List (List Int)) (wi n : Nat) (x : Int) (b : Rc) : Prop where
 ins : ∀ m, m < n → zbe rows (m / wi) (m % wi) = x → b.f0 ≤ (m / wi : Nat) ∧ ((m / wi : Nat) : Int) < b.f0 + b.f2 ∧ b.f1 ≤ (m % wi : Nat) ∧ ((m % wi : Nat) : Int) < b.f1 + b.f3
 top : ∃ m, m < n ∧ zbe rows (m / wi) (m % wi) = x ∧ ((m / wi : Nat) : Int) = b.f0
 low : ∃ m, m < n ∧ zbe rows (m / wi) (m % wi) = x ∧ ((m / wi : Nat) : Int) + 1 = b.f0 + b.f2
 left : ∃ m, m < n ∧ zbe rows (m / wi) (m % wi) = x ∧ ((m % wi : Nat) : Int) = b.f1
 right : ∃ m, m < n ∧ zbe rows (m / wi) (m % wi) = x ∧ ((m % wi : Nat) : Int) + 1 = b.f1 + b.f3
theorem BoxN.keep {rows : List (List Int)} {wi n : Nat} {x : Int} {b : Rc} (h : BoxN rows wi n x b) (hx : zbe rows (n / wi) (n % wi) ≠ x) : BoxN rows wi (n + 1) x b := by
 refine ⟨fun m hm hv => ?_, ?_, ?_, ?_, ?_⟩
 ·rcases Nat.lt_or_eq_of_le (Nat.lt_succ_iff.1 hm) with h1 | h1
  ·exact h.ins m h1 hv
  ·subst h1; exact absurd hv hx
 ·obtain ⟨m, h1, h2⟩ := h.top; exact ⟨m, by omega, h2⟩
 ·obtain ⟨m, h1, h2⟩ := h.low; exact ⟨m, by omega, h2⟩
 ·obtain ⟨m, h1, h2⟩ := h.left; exact ⟨m, by omega, h2⟩
 ·obtain ⟨m, h1, h2⟩ := h.right; exact ⟨m, by omega, h2⟩
theorem BoxN.both {rows : List (List Int)} {wi n : Nat} {x : Int} {b : Rc} (h : BoxN rows wi n x b) (hx : zbe rows (n / wi) (n % wi) = x) : BoxN rows wi (n + 1) x (bothR b (oneR (n / wi) (n % wi))) := by
 refine ⟨fun m hm hv => ?_, ?_, ?_, ?_, ?_⟩
 ·simp only [bothR, oneR]
  rcases Nat.lt_or_eq_of_le (Nat.lt_succ_iff.1 hm) with h1 | h1
  ·have := h.ins m h1 hv
   omega
  ·subst h1; omega
 ·obtain ⟨m, h1, h2, h3⟩ := h.top
  simp only [bothR, oneR]
  by_cases hc : b.f0 ≤ ((n / wi : Nat) : Int)
  ·exact ⟨m, by omega, h2, by omega⟩
  ·exact ⟨n, by omega, hx, by omega⟩
 ·obtain ⟨m, h1, h2, h3⟩ := h.low
  simp only [bothR, oneR]
  by_cases hc : ((n / wi : Nat) : Int) + 1 ≤ b.f0 + b.f2
  ·exact ⟨m, by omega, h2, by omega⟩
  ·exact ⟨n, by omega, hx, by omega⟩
 ·obtain ⟨m, h1, h2, h3⟩ := h.left
  simp only [bothR, oneR]
  by_cases hc : b.f1 ≤ ((n % wi : Nat) : Int)
  ·exact ⟨m, by omega, h2, by omega⟩
  ·exact ⟨n, by omega, hx, by omega⟩
 ·obtain ⟨m, h1, h2, h3⟩ := h.right
  simp only [bothR, oneR]
  by_cases hc : ((n % wi : Nat) : Int) + 1 ≤ b.f1 + b.f3
  ·exact ⟨m, by omega, h2, by omega⟩
  ·exact ⟨n, by omega, hx, by omega⟩
theorem BoxN.fresh {rows : List (List Int)} {wi n : Nat} {x : Int} (h : ∀ m, m < n → zbe rows (m / wi) (m % wi) ≠ x) (hx : zbe rows (n / wi) (n % wi) = x) : BoxN rows wi (n + 1) x (bothR (oneR (n / wi) (n % wi)) (oneR (n / wi) (n % wi))) := by
 refine ⟨fun m hm hv => ?_, ⟨n, by omega, hx, ?_⟩, ⟨n, by omega, hx, ?_⟩, ⟨n, by omega, hx, ?_⟩, ⟨n, by omega, hx, ?_⟩⟩
 ·simp only [bothR, oneR]
  rcases Nat.lt_or_eq_of_le (Nat.lt_succ_iff.1 hm) with h1 | h1
  ·exact absurd hv (h m h1)
  ·subst h1; omega
 all_goals
  simp only [bothR, oneR]
  omega
theorem stAt_seen (rows : List (List Int)) (wi : Nat) : ∀ n m, m < n → zbe rows (m / wi) (m % wi) ∈ (stAt rows wi n).1
 | 0, m, h => by omega
 | n + 1, m, h => by
  rcases Nat.lt_or_eq_of_le (Nat.lt_succ_iff.1 h) with h1 | h1
  ·exact (stepS_prefix (stAt rows wi n) (n / wi) (n % wi) _).subset (stAt_seen rows wi n m h1)
  ·subst h1
   exact stepS_mem (stAt rows wi m) _ _ _
theorem stAt_len (rows : List (List Int)) (wi : Nat) : ∀ n, (stAt rows wi n).1.length = (stAt rows wi n).2.length ∧ (stAt rows wi n).1.Nodup
 | 0 => by simp [stAt]
 | n + 1 => by
  obtain ⟨h1, h2⟩ := stAt_len rows wi n
  simp only [stAt, stepS]
  split
  ·exact ⟨by simpa using h1, h2⟩
  ·rename_i hx
   refine ⟨by simp [h1], ?_⟩
   rw [List.nodup_append]
   exact ⟨h2, by simp, fun a ha b hb => by simp at hb; subst hb; exact fun e => hx (e ▸ ha)⟩
theorem stAt_box (rows : List (List Int)) (wi : Nat) : ∀ (n i : Nat) (x : Int) (b : Rc), (stAt rows wi n).1[i]? = some x → (stAt rows wi n).2[i]? = some b → BoxN rows wi n x b
 | 0, i, x, b, h, _ => by simp [stAt] at h
 | n + 1, i, x, b, h1, h2 => by
  obtain ⟨hlen, hnd⟩ := stAt_len rows wi n
  simp only [stAt] at h1 h2
  generalize hv : zbe rows (n / wi) (n % wi) = v at h1 h2
  by_cases hmem : v ∈ (stAt rows wi n).1
  ·rw [stepS, if_pos hmem] at h1 h2
   simp only at h1 h2
   have hk := List.idxOf_lt_length_of_mem hmem
   by_cases hik : (stAt rows wi n).1.idxOf v = i
   ·have hxv : x = v := by
     rw [← hik, List.getElem?_eq_getElem hk, List.getElem_idxOf] at h1
     exact (Option.some.inj h1).symm
    subst hxv
    rw [hik, List.getElem?_set_self (by omega)] at h2
    have h2' := Option.some.inj h2
    rw [← h2']
    refine BoxN.both ?_ hv
    refine stAt_box rows wi n i x _ h1 ?_
    rw [List.getD_eq_getElem?_getD, List.getElem?_eq_getElem (by omega)]
    rfl
   ·rw [List.getElem?_set_ne (fun e => hik e)] at h2
    refine (stAt_box rows wi n i x b h1 h2).keep ?_
    rw [hv]
    rintro rfl
    refine hik ?_
    have hil := (List.getElem?_eq_some_iff.1 h1).1
    have e1 : (stAt rows wi n).1[i] = v := by
     rw [List.getElem?_eq_getElem hil] at h1
     exact Option.some.inj h1
    have e2 : (stAt rows wi n).1[(stAt rows wi n).1.idxOf v] = v := List.getElem_idxOf hk
    exact nodup_inj hnd hk hil (e2.trans e1.symm)
  ·rw [stepS, if_neg hmem] at h1 h2
   simp only at h1 h2
   by_cases hi : i < (stAt rows wi n).1.length
   ·rw [List.getElem?_append_left hi] at h1
    rw [List.getElem?_append_left (by omega)] at h2
    refine (stAt_box rows wi n i x b h1 h2).keep ?_
    rw [hv]
    rintro rfl
    exact hmem (List.mem_of_getElem? h1)
   ·have hil := (List.getElem?_eq_some_iff.1 h1).1
    simp at hil
    obtain rfl : i = (stAt rows wi n).1.length := by omega
    rw [List.getElem?_concat_length] at h1
    rw [hlen, List.getElem?_concat_length] at h2
    have e1 := Option.some.inj h1
    have e2 := Option.some.inj h2
    subst e1 e2
    exact BoxN.fresh (fun m hm e => hmem (by rw [← e]; exact stAt_seen rows wi n m hm)) hv
def cellN (rows : List (List Int)) (wi m : Nat) : Int := zbe rows (m / wi) (m % wi) - 97
def zcd (rows : List (List Int)) (wi : Nat) (x : Int) : Nat → Int
 | 0 => 0
 | n + 1 => if cellN rows wi n = x then zcd rows wi x n + 1 else zcd rows wi x n
def maxN (rows : List (List Int)) (wi : Nat) : Nat → Int
 | 0 => 0
 | n + 1 => max (maxN rows wi n) (cellN rows wi n + 1)
def roomN (rows : List (List Int)) (wi : Nat) (x : Int) (t l : Int) : Nat → Int × Int × Int × Int
 | 0 => (t, l, -1, -1)
 | n + 1 => if cellN rows wi n = x then (min (roomN rows wi x t l n).1 (n / wi : Nat), min (roomN rows wi x t l n).2.1 (n % wi : Nat), max (roomN rows wi x t l n).2.2.1 (n / wi : Nat), max (roomN rows wi x t l n).2.2.2 (n % wi : Nat)) else roomN rows wi x t l n
structure Small (p : List ByteArray) (wi : Nat) : Prop where
 high : p.length ≤ 6
 wide : wi ≤ 6
 row : ∀ s ∈ p, s.size = wi
theorem gridOk_small {p : List ByteArray} (h : gridOk p = true) : Small p (zai (zag p)) := by
 unfold gridOk at h
 rw [Bool.and_eq_true] at h
 obtain ⟨h1, h2, h3, h4, h5⟩ := (shapeOk_iff _).1 h.1
 have hl : (zag p).length = p.length := by simp [zag]
 exact ⟨by omega, h4, fun s hs => by
  have := h5 (zax s) (by unfold zag; simp; exact ⟨s, hs, rfl⟩)
  rw [zbq] at this
  exact this⟩
theorem Small.rect {p : List ByteArray} {wi : Nat} (h : Small p wi) : Rect wi (zag p) := by
 intro r hr
 unfold zag at hr
 simp at hr
 obtain ⟨s, hs, rfl⟩ := hr
 rw [zbq]
 exact h.row s hs
theorem Small.at {p : List ByteArray} {wi : Nat} (h : Small p wi) {i j : Nat} (hi : i < p.length) (hj : j < wi) : ∃ s, p[i]? = some s ∧ s.size = wi ∧ bt s (j : Int) = cellN (zag p) wi (i * wi + j) + 97 ∧ 0 ≤ bt s (j : Int) ∧ bt s (j : Int) ≤ 255 := by
 obtain ⟨s, hs⟩ : ∃ s, p[i]? = some s := ⟨_, List.getElem?_eq_getElem hi⟩
 have hsz := h.row s (List.mem_of_getElem? hs)
 obtain ⟨x, hx⟩ : ∃ x, (zax s)[j]? = some x := ⟨_, List.getElem?_eq_getElem (by rw [zbq]; omega)⟩
 have hv : zbe (zag p) i j = x := by
  unfold zbe zag
  rw [List.getD_eq_getElem?_getD, List.getD_eq_getElem?_getD, List.getElem?_map, hs]
  simp only [Option.map_some, Option.getD_some]
  rw [hx]
  rfl
 have hr := bytesOf_range s x (List.mem_of_getElem? hx)
 obtain ⟨d1, d2⟩ := divmod_of (r := i) hj
 refine ⟨s, hs, hsz, ?_, ?_, ?_⟩
 ·rw [bt_get hx]; unfold cellN; rw [d1, d2, hv]; omega
 ·rw [bt_get hx]; exact hr.1
 ·rw [bt_get hx]; exact hr.2
theorem Small.row_at {p : List ByteArray} {wi : Nat} (h : Small p wi) {i : Nat} (hi : i < p.length) : ∃ s, p[i]? = some s ∧ s.size = wi := by
 obtain ⟨s, hs⟩ : ∃ s, p[i]? = some s := ⟨_, List.getElem?_eq_getElem hi⟩
 exact ⟨s, hs, h.row s (List.mem_of_getElem? hs)⟩
theorem countN_le (rows : List (List Int)) (wi : Nat) (x : Int) : ∀ n, 0 ≤ zcd rows wi x n ∧ zcd rows wi x n ≤ n
 | 0 => by simp [zcd]
 | n + 1 => by
  have := countN_le rows wi x n
  simp only [zcd]
  split <;> omega
theorem cells_l1 (p : List ByteArray) (wi : Nat) (h : Small p wi) (x : Int) (i : Nat) (hi : i < p.length) (r : Int) (hnext : Evs (fun k => spec_l1Cells.l0 k p x (zcd (zag p) wi x ((i + 1) * wi)) ((i + 1 : Nat) : Int)) r) :
  ∀ m j, j + m = wi → Evs (fun k => spec_l1Cells.l1 k p x (zcd (zag p) wi x (i * wi + j)) (i : Int) (j : Int)) r := by
 have h6 := h.high
 have w6 := h.wide
 intro m
 induction m with
 | zero =>
  intro j hj
  obtain ⟨s, hs, hsz⟩ := h.row_at hi
  rw [show i * wi + j = (i + 1) * wi by rw [Nat.succ_mul]; omega]
  refine Evs.step (h := fun k => spec_l1Cells.l0 k p x (zcd (zag p) wi x ((i + 1) * wi)) ((i + 1 : Nat) : Int)) (fun k => ?_) hnext
  conv => lhs; unfold spec_l1Cells.l1
  rw [if_pos (by omega), if_pos (by omega), zbz hs, if_neg (by omega), zay (by omega)]
 | succ m ih =>
  intro j hj
  obtain ⟨s, hs, hsz, hb, hb0, hb1⟩ := h.at hi (show j < wi by omega)
  have hc := countN_le (zag p) wi x (i * wi + j)
  have hle : i * wi + j ≤ 36 + 6 := by
   have := Nat.mul_le_mul (show i ≤ 6 by omega) w6
   omega
  have hnx := ih (j + 1) (by omega)
  have hsucc : zcd (zag p) wi x (i * wi + (j + 1)) = if cellN (zag p) wi (i * wi + j) = x then zcd (zag p) wi x (i * wi + j) + 1 else zcd (zag p) wi x (i * wi + j) := rfl
  rw [hsucc] at hnx
  refine Evs.step (h := fun k => spec_l1Cells.l1 k p x (if cellN (zag p) wi (i * wi + j) = x then zcd (zag p) wi x (i * wi + j) + 1 else zcd (zag p) wi x (i * wi + j)) (i : Int) ((j + 1 : Nat) : Int)) (fun k => ?_) hnx
  conv => lhs; unfold spec_l1Cells.l1
  rw [if_pos (by omega), if_pos (by omega), zbz hs, if_pos (by omega), if_pos (by omega), zar (x := bt s (j : Int)) (by omega) (by omega), zar (x := bt s (j : Int) - 97) (by omega) (by omega), show bt s (j : Int) - 97 = cellN (zag p) wi (i * wi + j) by omega, zay (by omega)]
  by_cases hx : cellN (zag p) wi (i * wi + j) = x
  ·rw [if_pos hx, if_pos hx, zar (by omega) (by omega)]
  ·rw [if_neg hx, if_neg hx]
theorem cells_l0 (p : List ByteArray) (wi : Nat) (h : Small p wi) (x : Int) : ∀ m i, i + m = p.length → Evs (fun k => spec_l1Cells.l0 k p x (zcd (zag p) wi x (i * wi)) (i : Int)) (zcd (zag p) wi x (p.length * wi)) := by
 have h6 := h.high
 intro m
 induction m with
 | zero =>
  intro i hi
  obtain rfl : i = p.length := by omega
  refine Evs.step (h := fun _ => some (zcd (zag p) wi x (p.length * wi))) (fun k => ?_) (Evs.const _)
  conv => lhs; unfold spec_l1Cells.l0
  rw [if_neg (by omega)]
 | succ m ih =>
  intro i hi
  refine Evs.step (h := fun k => spec_l1Cells.l1 k p x (zcd (zag p) wi x (i * wi)) (i : Int) ((0 : Nat) : Int)) (fun k => ?_) (cells_l1 p wi h x i (by omega) _ (ih (i + 1) (by omega)) wi 0 (by omega))
  conv => lhs; unfold spec_l1Cells.l0
  rw [if_pos (by omega)]
  rfl
theorem l1Cells_ev (p : List ByteArray) (wi : Nat) (h : Small p wi) (x : Int) : Evs (fun k => spec_l1Cells.f k p x) (zcd (zag p) wi x (p.length * wi)) := by
 have := cells_l0 p wi h x p.length 0 (by omega)
 show Evs (fun k => spec_l1Cells.l0 k p x 0 0) _
 simpa [zcd] using this
theorem mx_max (a b : Int) : mx a b = max a b := by unfold mx; omega
theorem mn_min (a b : Int) : mn a b = min a b := by unfold mn; omega
theorem rooms_l1 (p : List ByteArray) (wi : Nat) (h : Small p wi) (i : Nat) (hi : i < p.length) (r : Int) (hnext : Evs (fun k => spec_l1Rooms.l0 k p (maxN (zag p) wi ((i + 1) * wi)) ((i + 1 : Nat) : Int)) r) :
  ∀ m j, j + m = wi → Evs (fun k => spec_l1Rooms.l1 k p (maxN (zag p) wi (i * wi + j)) (i : Int) (j : Int)) r := by
 have h6 := h.high
 have w6 := h.wide
 intro m
 induction m with
 | zero =>
  intro j hj
  obtain ⟨s, hs, hsz⟩ := h.row_at hi
  rw [show i * wi + j = (i + 1) * wi by rw [Nat.succ_mul]; omega]
  refine Evs.step (h := fun k => spec_l1Rooms.l0 k p (maxN (zag p) wi ((i + 1) * wi)) ((i + 1 : Nat) : Int)) (fun k => ?_) hnext
  conv => lhs; unfold spec_l1Rooms.l1
  rw [if_pos (by omega), if_pos (by omega), zbz hs, if_neg (by omega), zay (by omega)]
 | succ m ih =>
  intro j hj
  obtain ⟨s, hs, hsz, hb, hb0, hb1⟩ := h.at hi (show j < wi by omega)
  refine Evs.step (h := fun k => spec_l1Rooms.l1 k p (maxN (zag p) wi (i * wi + (j + 1))) (i : Int) ((j + 1 : Nat) : Int)) (fun k => ?_) (ih (j + 1) (by omega))
  conv => lhs; unfold spec_l1Rooms.l1
  rw [if_pos (by omega), if_pos (by omega), zbz hs, if_pos (by omega), if_pos (by omega), zar (x := bt s (j : Int)) (by omega) (by omega), zar (x := bt s (j : Int) - 97) (by omega) (by omega), zar (x := bt s (j : Int) - 97 + 1) (by omega) (by omega), show bt s (j : Int) - 97 = cellN (zag p) wi (i * wi + j) by omega, zay (by omega), mx_max]
  rfl
theorem rooms_l0 (p : List ByteArray) (wi : Nat) (h : Small p wi) : ∀ m i, i + m = p.length → Evs (fun k => spec_l1Rooms.l0 k p (maxN (zag p) wi (i * wi)) (i : Int)) (maxN (zag p) wi (p.length * wi)) := by
 have h6 := h.high
 intro m
 induction m with
 | zero =>
  intro i hi
  obtain rfl : i = p.length := by omega
  refine Evs.step (h := fun _ => some (maxN (zag p) wi (p.length * wi))) (fun k => ?_) (Evs.const _)
  conv => lhs; unfold spec_l1Rooms.l0
  rw [if_neg (by omega)]
 | succ m ih =>
  intro i hi
  refine Evs.step (h := fun k => spec_l1Rooms.l1 k p (maxN (zag p) wi (i * wi)) (i : Int) ((0 : Nat) : Int)) (fun k => ?_) (rooms_l1 p wi h i (by omega) _ (ih (i + 1) (by omega)) wi 0 (by omega))
  conv => lhs; unfold spec_l1Rooms.l0
  rw [if_pos (by omega)]
  rfl
theorem l1Rooms_ev (p : List ByteArray) (wi : Nat) (h : Small p wi) : Evs (fun k => spec_l1Rooms.f k p) (maxN (zag p) wi (p.length * wi)) := by
 have := rooms_l0 p wi h p.length 0 (by omega)
 show Evs (fun k => spec_l1Rooms.l0 k p 0 0) _
 simpa [maxN] using this
def roomOut (q : Int × Int × Int × Int) : Int × Int × Int × Int := (q.1, q.2.1, q.2.2.1 - q.1 + 1, q.2.2.2 - q.2.1 + 1)
theorem roomN_le {p : List ByteArray} {wi : Nat} (h : Small p wi) (x t l : Int) (ht : 0 ≤ t) (ht2 : t ≤ 6) (hl : 0 ≤ l) (hl2 : l ≤ 6) : ∀ n, n ≤ p.length * wi → let q := roomN (zag p) wi x t l n; 0 ≤ q.1 ∧ q.1 ≤ 6 ∧ 0 ≤ q.2.1 ∧ q.2.1 ≤ 6 ∧ -1 ≤ q.2.2.1 ∧ q.2.2.1 ≤ 6 ∧ -1 ≤ q.2.2.2 ∧ q.2.2.2 ≤ 6
 | 0, _ => by simp only [roomN]; omega
 | n + 1, hn => by
  have ih := roomN_le h x t l ht ht2 hl hl2 n (by omega)
  have hwi : 0 < wi := by
   rcases Nat.eq_zero_or_pos wi with h0 | h0
   ·subst h0; simp at hn
   ·exact h0
  have h1 : n / wi < p.length := by rw [Nat.div_lt_iff_lt_mul hwi]; omega
  have h2 : n % wi < wi := Nat.mod_lt _ hwi
  have h3 := h.high
  have h4 := h.wide
  simp only [roomN] at ih ⊢
  generalize n / wi = a at *
  generalize n % wi = b at *
  split
  ·dsimp only
   omega
  ·exact ih
theorem room_l1 (p : List ByteArray) (wi : Nat) (h : Small p wi) (x t l : Int) (ht : 0 ≤ t) (ht2 : t ≤ 6) (hl : 0 ≤ l) (hl2 : l ≤ 6) (i : Nat) (hi : i < p.length) (r : Int × Int × Int × Int) (hnext : let q := roomN (zag p) wi x t l ((i + 1) * wi); Evs (fun k => spec_l1Room.l0 k p x q.1 q.2.1 q.2.2.1 q.2.2.2 ((i + 1 : Nat) : Int)) r) :
  ∀ m j, j + m = wi → let q := roomN (zag p) wi x t l (i * wi + j); Evs (fun k => spec_l1Room.l1 k p x q.1 q.2.1 q.2.2.1 q.2.2.2 (i : Int) (j : Int)) r := by
 have h6 := h.high
 have w6 := h.wide
 intro m
 induction m with
 | zero =>
  intro j hj
  obtain ⟨s, hs, hsz⟩ := h.row_at hi
  rw [show i * wi + j = (i + 1) * wi by rw [Nat.succ_mul]; omega]
  intro q
  refine Evs.step (h := fun k => spec_l1Room.l0 k p x q.1 q.2.1 q.2.2.1 q.2.2.2 ((i + 1 : Nat) : Int)) (fun k => ?_) hnext
  conv => lhs; unfold spec_l1Room.l1
  rw [if_pos (by omega), if_pos (by omega), zbz hs, if_neg (by omega), zay (by omega)]
 | succ m ih =>
  intro j hj q
  obtain ⟨s, hs, hsz, hb, hb0, hb1⟩ := h.at hi (show j < wi by omega)
  have hnx := ih (j + 1) (by omega)
  obtain ⟨d1, d2⟩ := divmod_of (r := i) (show j < wi by omega)
  have hsucc : roomN (zag p) wi x t l (i * wi + (j + 1)) = if cellN (zag p) wi (i * wi + j) = x then (min q.1 (i : Int), min q.2.1 (j : Int), max q.2.2.1 (i : Int), max q.2.2.2 (j : Int)) else q := by
   show roomN (zag p) wi x t l (i * wi + j + 1) = _
   simp only [roomN]
   rw [d1, d2]
  rw [hsucc] at hnx
  generalize q = q at *
  refine Evs.step (h := fun k => spec_l1Room.l1 k p x (if cellN (zag p) wi (i * wi + j) = x then (min q.1 (i : Int), min q.2.1 (j : Int), max q.2.2.1 (i : Int), max q.2.2.2 (j : Int)) else q).1 (if cellN (zag p) wi (i * wi + j) = x then (min q.1 (i : Int), min q.2.1 (j : Int), max q.2.2.1 (i : Int), max q.2.2.2 (j : Int)) else q).2.1 (if cellN (zag p) wi (i * wi + j) = x then (min q.1 (i : Int), min q.2.1 (j : Int), max q.2.2.1 (i : Int), max q.2.2.2 (j : Int)) else q).2.2.1 (if cellN (zag p) wi (i * wi + j) = x then (min q.1 (i : Int), min q.2.1 (j : Int), max q.2.2.1 (i : Int), max q.2.2.2 (j : Int)) else q).2.2.2 (i : Int) ((j + 1 : Nat) : Int)) (fun k => ?_) hnx
  conv => lhs; unfold spec_l1Room.l1
  rw [if_pos (by omega), if_pos (by omega), zbz hs, if_pos (by omega), if_pos (by omega), zar (x := bt s (j : Int)) (by omega) (by omega), zar (x := bt s (j : Int) - 97) (by omega) (by omega), show bt s (j : Int) - 97 = cellN (zag p) wi (i * wi + j) by omega, zay (by omega)]
  by_cases hx : cellN (zag p) wi (i * wi + j) = x
  ·rw [if_pos hx, if_pos hx, mn_min, mn_min, mx_max, mx_max]
  ·rw [if_neg hx, if_neg hx]
theorem room_l0 (p : List ByteArray) (wi : Nat) (h : Small p wi) (x t l : Int) (ht : 0 ≤ t) (ht2 : t ≤ 6) (hl : 0 ≤ l) (hl2 : l ≤ 6) : ∀ m i, i + m = p.length → let q := roomN (zag p) wi x t l (i * wi); Evs (fun k => spec_l1Room.l0 k p x q.1 q.2.1 q.2.2.1 q.2.2.2 (i : Int)) (roomOut (roomN (zag p) wi x t l (p.length * wi))) := by
 have h6 := h.high
 intro m
 induction m with
 | zero =>
  intro i hi q
  obtain rfl : i = p.length := by omega
  have hq := roomN_le h x t l ht ht2 hl hl2 (p.length * wi) (Nat.le_refl _)
  refine Evs.step (h := fun _ => some (roomOut q)) (fun k => ?_) (Evs.const _)
  conv => lhs; unfold spec_l1Room.l0
  have hq' : 0 ≤ q.1 ∧ q.1 ≤ 6 ∧ 0 ≤ q.2.1 ∧ q.2.1 ≤ 6 ∧ -1 ≤ q.2.2.1 ∧ q.2.2.1 ≤ 6 ∧ -1 ≤ q.2.2.2 ∧ q.2.2.2 ≤ 6 := hq
  clear hq
  generalize q = q at *
  rw [if_neg (by omega), zar (x := q.2.2.1 - q.1) (by omega) (by omega), zar (x := q.2.2.1 - q.1 + 1) (by omega) (by omega), zar (x := q.2.2.2 - q.2.1) (by omega) (by omega), zar (x := q.2.2.2 - q.2.1 + 1) (by omega) (by omega)]
  rfl
 | succ m ih =>
  intro i hi q
  refine Evs.step (h := fun k => spec_l1Room.l1 k p x q.1 q.2.1 q.2.2.1 q.2.2.2 (i : Int) ((0 : Nat) : Int)) (fun k => ?_) (room_l1 p wi h x t l ht ht2 hl hl2 i (by omega) _ (ih (i + 1) (by omega)) wi 0 (by omega))
  conv => lhs; unfold spec_l1Room.l0
  rw [if_pos (by omega)]
  rfl
theorem l1Room_ev (p : List ByteArray) (wi : Nat) (h : Small p wi) (h1 : 1 ≤ p.length) (x : Int) : Evs (fun k => spec_l1Room.f k p x) (roomOut (roomN (zag p) wi x (p.length : Int) (wi : Int) (p.length * wi))) := by
 have h6 := h.high
 have w6 := h.wide
 have := room_l0 p wi h x (p.length : Int) (wi : Int) (by omega) (by omega) (by omega) (by omega) p.length 0 (by omega)
 obtain ⟨s, hs, hsz⟩ := h.row_at (i := 0) (by omega)
 refine Evs.congr (fun k => ?_) this
 unfold spec_l1Room.f
 have e := zbz hs
 simp only [Int.ofNat_zero, Int.natCast_zero] at e
 rw [if_pos (by omega), e, hsz]
 simp [roomN]
theorem same_l0 (p q : List ByteArray) (hl : p.length = q.length) (hb : p.length ≤ 1048576) : ∀ m i, i + m = p.length → p.take i = q.take i → Evs (fun k => spec_l1Same.l0 k p q (i : Int)) (decide (p = q)) := by
 intro m
 induction m with
 | zero =>
  intro i hi ht
  have e : p = q := by
   rw [show i = p.length by omega, List.take_length, hl, List.take_length] at ht
   exact ht
  refine Evs.step (h := fun _ => some (decide (p = q))) (fun k => ?_) (Evs.const _)
  conv => lhs; unfold spec_l1Same.l0
  rw [if_neg (by omega), decide_eq_true e]
 | succ m ih =>
  intro i hi ht
  by_cases he : p[i] = q[i]
  ·refine Evs.step (h := fun k => spec_l1Same.l0 k p q ((i + 1 : Nat) : Int)) (fun k => ?_) (ih (i + 1) (by omega) (by
    rw [List.take_add_one, List.take_add_one, ht, List.getElem?_eq_getElem (by omega), List.getElem?_eq_getElem (by omega), he]))
   conv => lhs; unfold spec_l1Same.l0
   rw [if_pos (by omega), if_pos (by omega), if_pos (by omega), rdOf_get p i (by omega), rdOf_get q i (by omega), if_pos (toList_inj.2 he), zay (by omega)]
  ·have hne : p ≠ q := by rintro rfl; exact he rfl
   refine Evs.step (h := fun _ => some (decide (p = q))) (fun k => ?_) (Evs.const _)
   conv => lhs; unfold spec_l1Same.l0
   rw [if_pos (by omega), if_pos (by omega), if_pos (by omega), rdOf_get p i (by omega), rdOf_get q i (by omega), if_neg (fun h => he (toList_inj.1 h)), decide_eq_false hne]
theorem l1Same_ev (p q : List ByteArray) (hb : p.length ≤ 1048576) : Evs (fun k => spec_l1Same.f k p q) (decide (p = q)) := by
 by_cases h : p.length = q.length
 ·refine Evs.congr (fun k => ?_) (same_l0 p q h hb p.length 0 (by omega) (by simp))
  unfold spec_l1Same.f
  rw [if_pos (by omega)]
  rfl
 ·have hne : p ≠ q := by rintro rfl; exact h rfl
  refine Evs.congr (h := fun _ => some (decide (p = q))) (fun k => ?_) (Evs.const _)
  unfold spec_l1Same.f
  rw [if_neg (by omega), decide_eq_false hne]
def sumI (f : Nat → Int) : Nat → Int
 | 0 => 0
 | n + 1 => sumI f n + f n
theorem sumI_add (f g : Nat → Int) : ∀ n, sumI (fun x => f x + g x) n = sumI f n + sumI g n
 | 0 => rfl
 | n + 1 => by simp only [sumI, sumI_add f g n]; omega
theorem sumI_congr {f g : Nat → Int} : ∀ n, (∀ x, x < n → f x = g x) → sumI f n = sumI g n
 | 0, _ => rfl
 | n + 1, h => by simp only [sumI]; rw [sumI_congr n (fun x hx => h x (by omega)), h n (by omega)]
theorem sumI_le {f g : Nat → Int} : ∀ n, (∀ x, x < n → f x ≤ g x) → sumI f n ≤ sumI g n
 | 0, _ => Int.le_refl _
 | n + 1, h => by
  have := sumI_le n (fun x hx => h x (by omega))
  have := h n (by omega)
  simp only [sumI]
  omega
theorem sumI_eq {f g : Nat → Int} : ∀ n, (∀ x, x < n → f x ≤ g x) → sumI f n = sumI g n → ∀ x, x < n → f x = g x
 | 0, _, _, x, hx => by omega
 | n + 1, h, he, x, hx => by
  have h1 := sumI_le n (fun x hx => h x (by omega))
  have h2 := h n (by omega)
  simp only [sumI] at he
  rcases Nat.lt_or_eq_of_le (Nat.lt_succ_iff.1 hx) with h3 | h3
  ·exact sumI_eq n (fun x hx => h x (by omega)) (by omega) x h3
  ·subst h3; omega
theorem sumI_one (v : Int) : ∀ n, sumI (fun x => if v = (x : Int) then 1 else 0) n = if 0 ≤ v ∧ v < n then 1 else 0
 | 0 => by
  simp only [sumI]
  rw [if_neg (by omega)]
 | n + 1 => by
  simp only [sumI, sumI_one v n]
  by_cases h : v = (n : Int)
  ·rw [if_neg (by omega), if_pos h, if_pos (by omega)]; omega
  ·rw [if_neg h]
   by_cases h2 : 0 ≤ v ∧ v < n
   ·rw [if_pos h2, if_pos (by omega)]; omega
   ·rw [if_neg h2, if_neg (by omega)]; omega
theorem count_sum (rows : List (List Int)) (wi n : Nat) : ∀ N, (∀ m, m < N → 0 ≤ cellN rows wi m ∧ cellN rows wi m < n) → sumI (fun x => zcd rows wi (x : Int) N) n = N
 | 0, _ => by
  have : sumI (fun x => zcd rows wi (x : Int) 0) n = sumI (fun _ => 0) n := rfl
  rw [this]
  have h0 : ∀ n, sumI (fun _ => 0) n = 0 := fun n => by induction n with
   | zero => rfl
   | succ n ih => simp only [sumI, ih]; rfl
  rw [h0]
  rfl
 | N + 1, h => by
  have ih := count_sum rows wi n N (fun m hm => h m (by omega))
  have h1 := h N (by omega)
  have h2 := sumI_one (cellN rows wi N) n
  rw [if_pos h1] at h2
  have h3 : sumI (fun x => zcd rows wi (x : Int) (N + 1)) n = sumI (fun x => zcd rows wi (x : Int) N + (if cellN rows wi N = (x : Int) then 1 else 0)) n := by
   apply sumI_congr
   intro x hx
   simp only [zcd]
   split <;> omega
  rw [h3, sumI_add, ih, h2]
  omega
def inBox (b : Rc) (wi m : Nat) : Prop := b.f0 ≤ (m / wi : Nat) ∧ ((m / wi : Nat) : Int) < b.f0 + b.f2 ∧ b.f1 ≤ (m % wi : Nat) ∧ ((m % wi : Nat) : Int) < b.f1 + b.f3
instance (b : Rc) (wi m : Nat) : Decidable (inBox b wi m) := by unfold inBox; exact inferInstance
def countB (b : Rc) (wi : Nat) : Nat → Int
 | 0 => 0
 | n + 1 => if inBox b wi n then countB b wi n + 1 else countB b wi n
theorem countN_le_B (rows : List (List Int)) (wi : Nat) (x : Int) (b : Rc) : ∀ n, (∀ m, m < n → cellN rows wi m = x → inBox b wi m) → zcd rows wi x n ≤ countB b wi n
 | 0, _ => Int.le_refl _
 | n + 1, h => by
  have ih := countN_le_B rows wi x b n (fun m hm => h m (by omega))
  simp only [zcd, countB]
  by_cases hx : cellN rows wi n = x
  ·rw [if_pos hx, if_pos (h n (by omega) hx)]; omega
  ·rw [if_neg hx]
   split <;> omega
def clamp (a n : Int) : Int := max 0 (min a n)
theorem countB_at (b : Rc) (hi wi : Nat) (hb : boundR b hi wi) : ∀ i j, i ≤ hi → j ≤ wi → (i < hi ∨ j = 0) → countB b wi (i * wi + j) = clamp ((i : Int) - b.f0) b.f2 * b.f3 + (if b.f0 ≤ i ∧ (i : Int) < b.f0 + b.f2 then clamp ((j : Int) - b.f1) b.f3 else 0) := by
 obtain ⟨b0, b1, b2, b3, b4, b5⟩ := hb
 intro i
 induction i with
 | zero =>
  intro j
  induction j with
  | zero =>
   intro _ _ _
   have h1 : clamp (((0 : Nat) : Int) - b.f0) b.f2 = 0 := by unfold clamp; omega
   have h2 : clamp (((0 : Nat) : Int) - b.f1) b.f3 = 0 := by unfold clamp; omega
   rw [h1, h2]
   simp [countB]
  | succ j ih =>
   intro h1 h2 h3
   have h := ih h1 (by omega) (by omega)
   obtain ⟨d1, d2⟩ := divmod_of (r := 0) (show j < wi by omega)
   show (if inBox b wi (0 * wi + j) then countB b wi (0 * wi + j) + 1 else countB b wi (0 * wi + j)) = _
   rw [h]
   have hib : inBox b wi (0 * wi + j) ↔ (b.f0 ≤ ((0 : Nat) : Int) ∧ ((0 : Nat) : Int) < b.f0 + b.f2 ∧ b.f1 ≤ (j : Int) ∧ (j : Int) < b.f1 + b.f3) := by unfold inBox; rw [d1, d2]
   by_cases hr : b.f0 ≤ ((0 : Nat) : Int) ∧ ((0 : Nat) : Int) < b.f0 + b.f2
   ·rw [if_pos hr, if_pos hr]
    have : clamp (((j + 1 : Nat) : Int) - b.f1) b.f3 = clamp ((j : Int) - b.f1) b.f3 + (if b.f1 ≤ (j : Int) ∧ (j : Int) < b.f1 + b.f3 then 1 else 0) := by
     unfold clamp; split <;> omega
    rw [this]
    by_cases hc : b.f1 ≤ (j : Int) ∧ (j : Int) < b.f1 + b.f3
    ·rw [if_pos (hib.2 ⟨hr.1, hr.2, hc.1, hc.2⟩), if_pos hc]; omega
    ·rw [if_neg (fun h => hc ⟨(hib.1 h).2.2.1, (hib.1 h).2.2.2⟩), if_neg hc]; omega
   ·rw [if_neg hr, if_neg hr, if_neg (fun h => hr ⟨(hib.1 h).1, (hib.1 h).2.1⟩)]
 | succ i ihi =>
  intro j
  induction j with
  | zero =>
   intro h1 _ _
   have h := ihi wi (by omega) (Nat.le_refl _) (by omega)
   rw [show (i + 1) * wi + 0 = i * wi + wi by rw [Nat.succ_mul]; omega, h]
   have e2 : clamp (((0 : Nat) : Int) - b.f1) b.f3 = 0 := by unfold clamp; omega
   have e3 : clamp ((wi : Int) - b.f1) b.f3 = b.f3 := by unfold clamp; omega
   rw [e2, e3]
   have e4 : (if b.f0 ≤ ((i + 1 : Nat) : Int) ∧ ((i + 1 : Nat) : Int) < b.f0 + b.f2 then (0 : Int) else 0) = 0 := by split <;> rfl
   rw [e4]
   by_cases hr : b.f0 ≤ (i : Int) ∧ (i : Int) < b.f0 + b.f2
   ·have e5 : clamp (((i + 1 : Nat) : Int) - b.f0) b.f2 = clamp ((i : Int) - b.f0) b.f2 + 1 := by unfold clamp; omega
    rw [if_pos hr, e5, Int.add_mul]
    omega
   ·have e5 : clamp (((i + 1 : Nat) : Int) - b.f0) b.f2 = clamp ((i : Int) - b.f0) b.f2 := by unfold clamp; omega
    rw [if_neg hr, e5]
  | succ j ih =>
   intro h1 h2 h3
   have h := ih h1 (by omega) (by omega)
   obtain ⟨d1, d2⟩ := divmod_of (r := i + 1) (show j < wi by omega)
   show (if inBox b wi ((i + 1) * wi + j) then countB b wi ((i + 1) * wi + j) + 1 else countB b wi ((i + 1) * wi + j)) = _
   rw [h]
   have hib : inBox b wi ((i + 1) * wi + j) ↔ (b.f0 ≤ ((i + 1 : Nat) : Int) ∧ ((i + 1 : Nat) : Int) < b.f0 + b.f2 ∧ b.f1 ≤ (j : Int) ∧ (j : Int) < b.f1 + b.f3) := by unfold inBox; rw [d1, d2]
   by_cases hr : b.f0 ≤ ((i + 1 : Nat) : Int) ∧ ((i + 1 : Nat) : Int) < b.f0 + b.f2
   ·rw [if_pos hr, if_pos hr]
    have : clamp (((j + 1 : Nat) : Int) - b.f1) b.f3 = clamp ((j : Int) - b.f1) b.f3 + (if b.f1 ≤ (j : Int) ∧ (j : Int) < b.f1 + b.f3 then 1 else 0) := by
     unfold clamp; split <;> omega
    rw [this]
    by_cases hc : b.f1 ≤ (j : Int) ∧ (j : Int) < b.f1 + b.f3
    ·rw [if_pos (hib.2 ⟨hr.1, hr.2, hc.1, hc.2⟩), if_pos hc]; omega
    ·rw [if_neg (fun h => hc ⟨(hib.1 h).2.2.1, (hib.1 h).2.2.2⟩), if_neg hc]; omega
   ·rw [if_neg hr, if_neg hr, if_neg (fun h => hr ⟨(hib.1 h).1, (hib.1 h).2.1⟩)]
theorem countB_all (b : Rc) (hi wi : Nat) (hb : boundR b hi wi) : countB b wi (hi * wi) = areaR b := by
 have := countB_at b hi wi hb hi 0 (Nat.le_refl _) (by omega) (Or.inr rfl)
 obtain ⟨b0, b1, b2, b3, b4, b5⟩ := hb
 rw [Nat.add_zero] at this
 have h2 : clamp (((0 : Nat) : Int) - b.f1) b.f3 = 0 := by unfold clamp; omega
 have h3 : clamp ((hi : Int) - b.f0) b.f2 = b.f2 := by unfold clamp; omega
 rw [this, h2, h3]
 unfold areaR
 split <;> omega
theorem maxN_ge (rows : List (List Int)) (wi : Nat) : ∀ n m, m < n → cellN rows wi m + 1 ≤ maxN rows wi n
 | 0, m, h => by omega
 | n + 1, m, h => by
  simp only [maxN]
  rcases Nat.lt_or_eq_of_le (Nat.lt_succ_iff.1 h) with h1 | h1
  ·have := maxN_ge rows wi n m h1; omega
  ·subst h1; omega
theorem maxN_ub (rows : List (List Int)) (wi : Nat) (M : Int) (hM : 0 ≤ M) : ∀ n, (∀ m, m < n → cellN rows wi m + 1 ≤ M) → maxN rows wi n ≤ M
 | 0, _ => hM
 | n + 1, h => by
  have := maxN_ub rows wi M hM n (fun m hm => h m (by omega))
  have := h n (by omega)
  simp only [maxN]
  omega
theorem roomN_ge (rows : List (List Int)) (wi : Nat) (x t l : Int) : ∀ n m, m < n → cellN rows wi m = x → (roomN rows wi x t l n).1 ≤ (m / wi : Nat) ∧ (roomN rows wi x t l n).2.1 ≤ (m % wi : Nat) ∧ ((m / wi : Nat) : Int) ≤ (roomN rows wi x t l n).2.2.1 ∧ ((m % wi : Nat) : Int) ≤ (roomN rows wi x t l n).2.2.2
 | 0, m, h, _ => by omega
 | n + 1, m, h, hx => by
  simp only [roomN]
  rcases Nat.lt_or_eq_of_le (Nat.lt_succ_iff.1 h) with h1 | h1
  ·have ih := roomN_ge rows wi x t l n m h1 hx
   generalize roomN rows wi x t l n = q at *
   split
   ·dsimp only; omega
   ·exact ih
  ·subst h1
   rw [if_pos hx]
   dsimp only
   omega
theorem roomN_at (rows : List (List Int)) (wi : Nat) (x t l : Int) : ∀ n,
  ((roomN rows wi x t l n).1 = t ∨ ∃ m, m < n ∧ cellN rows wi m = x ∧ (roomN rows wi x t l n).1 = (m / wi : Nat)) ∧
  ((roomN rows wi x t l n).2.1 = l ∨ ∃ m, m < n ∧ cellN rows wi m = x ∧ (roomN rows wi x t l n).2.1 = (m % wi : Nat)) ∧
  ((roomN rows wi x t l n).2.2.1 = -1 ∨ ∃ m, m < n ∧ cellN rows wi m = x ∧ (roomN rows wi x t l n).2.2.1 = (m / wi : Nat)) ∧
  ((roomN rows wi x t l n).2.2.2 = -1 ∨ ∃ m, m < n ∧ cellN rows wi m = x ∧ (roomN rows wi x t l n).2.2.2 = (m % wi : Nat))
 | 0 => ⟨.inl rfl, .inl rfl, .inl rfl, .inl rfl⟩
 | n + 1 => by
  obtain ⟨h1, h2, h3, h4⟩ := roomN_at rows wi x t l n
  simp only [roomN]
  generalize roomN rows wi x t l n = q at *
  by_cases hx : cellN rows wi n = x
  ·rw [if_pos hx]
   dsimp only
   refine ⟨?_, ?_, ?_, ?_⟩
   ·by_cases hc : q.1 ≤ ((n / wi : Nat) : Int)
    ·rw [Int.min_eq_left hc]
     rcases h1 with h | ⟨m, a, b, c⟩
     ·exact .inl h
     ·exact .inr ⟨m, by omega, b, c⟩
    ·exact .inr ⟨n, by omega, hx, Int.min_eq_right (by omega)⟩
   ·by_cases hc : q.2.1 ≤ ((n % wi : Nat) : Int)
    ·rw [Int.min_eq_left hc]
     rcases h2 with h | ⟨m, a, b, c⟩
     ·exact .inl h
     ·exact .inr ⟨m, by omega, b, c⟩
    ·exact .inr ⟨n, by omega, hx, Int.min_eq_right (by omega)⟩
   ·by_cases hc : ((n / wi : Nat) : Int) ≤ q.2.2.1
    ·rw [Int.max_eq_left hc]
     rcases h3 with h | ⟨m, a, b, c⟩
     ·exact .inl h
     ·exact .inr ⟨m, by omega, b, c⟩
    ·exact .inr ⟨n, by omega, hx, Int.max_eq_right (by omega)⟩
   ·by_cases hc : ((n % wi : Nat) : Int) ≤ q.2.2.2
    ·rw [Int.max_eq_left hc]
     rcases h4 with h | ⟨m, a, b, c⟩
     ·exact .inl h
     ·exact .inr ⟨m, by omega, b, c⟩
    ·exact .inr ⟨n, by omega, hx, Int.max_eq_right (by omega)⟩
  ·rw [if_neg hx]
   refine ⟨?_, ?_, ?_, ?_⟩
   ·rcases h1 with h | ⟨m, a, b, c⟩
    ·exact .inl h
    ·exact .inr ⟨m, by omega, b, c⟩
   ·rcases h2 with h | ⟨m, a, b, c⟩
    ·exact .inl h
    ·exact .inr ⟨m, by omega, b, c⟩
   ·rcases h3 with h | ⟨m, a, b, c⟩
    ·exact .inl h
    ·exact .inr ⟨m, by omega, b, c⟩
   ·rcases h4 with h | ⟨m, a, b, c⟩
    ·exact .inl h
    ·exact .inr ⟨m, by omega, b, c⟩
theorem room_box {rows rows' : List (List Int)} {hi wi : Nat} {x y : Int} {b : Rc} (he : ∀ m, m < hi * wi → (cellN rows wi m = x ↔ zbe rows' (m / wi) (m % wi) = y)) (hb : BoxN rows' wi (hi * wi) y b) (hbd : boundR b hi wi) (t l : Int) (ht : (hi : Int) ≤ t) (hl : (wi : Int) ≤ l) :
  roomOut (roomN rows wi x t l (hi * wi)) = (b.f0, b.f1, b.f2, b.f3) := by
 obtain ⟨b0, b1, b2, b3, b4, b5⟩ := hbd
 obtain ⟨m1, n1, v1, e1⟩ := hb.top
 obtain ⟨m2, n2, v2, e2⟩ := hb.low
 obtain ⟨m3, n3, v3, e3⟩ := hb.left
 obtain ⟨m4, n4, v4, e4⟩ := hb.right
 have g1 := roomN_ge rows wi x t l (hi * wi) m1 n1 ((he m1 n1).2 v1)
 have g2 := roomN_ge rows wi x t l (hi * wi) m2 n2 ((he m2 n2).2 v2)
 have g3 := roomN_ge rows wi x t l (hi * wi) m3 n3 ((he m3 n3).2 v3)
 have g4 := roomN_ge rows wi x t l (hi * wi) m4 n4 ((he m4 n4).2 v4)
 obtain ⟨a1, a2, a3, a4⟩ := roomN_at rows wi x t l (hi * wi)
 have key : ∀ m, m < hi * wi → cellN rows wi m = x → b.f0 ≤ (m / wi : Nat) ∧ ((m / wi : Nat) : Int) < b.f0 + b.f2 ∧ b.f1 ≤ (m % wi : Nat) ∧ ((m % wi : Nat) : Int) < b.f1 + b.f3 := fun m hm hx => hb.ins m hm ((he m hm).1 hx)
 generalize roomN rows wi x t l (hi * wi) = q at *
 have r1 : q.1 = b.f0 := by
  rcases a1 with h | ⟨m, n, v, e⟩
  ·omega
  ·have := key m n v; omega
 have r2 : q.2.1 = b.f1 := by
  rcases a2 with h | ⟨m, n, v, e⟩
  ·omega
  ·have := key m n v; omega
 have r3 : q.2.2.1 = b.f0 + b.f2 - 1 := by
  rcases a3 with h | ⟨m, n, v, e⟩
  ·omega
  ·have := key m n v; omega
 have r4 : q.2.2.2 = b.f1 + b.f3 - 1 := by
  rcases a4 with h | ⟨m, n, v, e⟩
  ·omega
  ·have := key m n v; omega
 unfold roomOut
 rw [r1, r2, r3, r4]
 congr 3
 ·omega
 ·omega
theorem letterOf_toNat {x : Int} (h0 : 0 ≤ x) (h1 : x ≤ 100) : ((letterOf x).toNat : Int) = 97 + x := by
 unfold letterOf
 rw [UInt8.toNat_ofNat']
 omega
theorem bytesOf_rowText (row : List Int) (h : ∀ x ∈ row, 0 ≤ x ∧ x ≤ 100) : zax (rowText row) = row.map (fun x => 97 + x) := by
 unfold zax rowText rowBytes
 show ((row.map letterOf).toArray.toList).map _ = _
 rw [List.map_map]
 apply List.map_congr_left
 intro x hx
 exact letterOf_toNat (h x hx).1 (h x hx).2
theorem numsOf_textOf (cs : List (List Int)) (h : ∀ r ∈ cs, ∀ x ∈ r, 0 ≤ x ∧ x ≤ 100) : zag (zcn cs) = cs.map (fun r => r.map (fun x => 97 + x)) := by
 unfold zag zcn
 rw [List.map_map]
 apply List.map_congr_left
 intro r hr
 exact bytesOf_rowText r (h r hr)
theorem canon_val {rows : List (List Int)} (h : zcm rows = true) : ∀ r ∈ canon rows, ∀ x ∈ r, 0 ≤ x ∧ x ≤ 100 := by
 have hL := shape_order h
 intro r hr x hx
 unfold canon canonL at hr
 simp at hr
 obtain ⟨a, _, rfl⟩ := hr
 simp at hx
 obtain ⟨y, _, rfl⟩ := hx
 have := List.idxOf_le_length (a := y) (l := ordAll rows)
 omega
structure Canon (p : List ByteArray) : Prop where
 grid : gridOk p = true
 names : namesOf p = p
theorem Canon.shape {p : List ByteArray} (h : Canon p) : zcm (zag p) = true := by
 have := h.grid
 unfold gridOk at this
 rw [Bool.and_eq_true] at this
 exact this.1
theorem zbs (p : List ByteArray) : (zag p).length = p.length := by simp [zag]
theorem Canon.cell {p : List ByteArray} (h : Canon p) : ∀ m, m < p.length * zai (zag p) → cellN (zag p) (zai (zag p)) m = ((ordAll (zag p)).idxOf (zbe (zag p) (m / zai (zag p)) (m % zai (zag p))) : Int) := by
 intro m hm
 have hR := shape_rect h.shape
 have h1 : zag p = (canon (zag p)).map (fun r => r.map (fun x => 97 + x)) := by
  have := numsOf_textOf (canon (zag p)) (canon_val h.shape)
  rw [show zcn (canon (zag p)) = p from h.names] at this
  exact this
 have hwi : 0 < zai (zag p) := by
  rcases Nat.eq_zero_or_pos (zai (zag p)) with h0 | h0
  ·rw [h0] at hm; simp at hm
  ·exact h0
 have hr : m / zai (zag p) < (zag p).length := by rw [zbs, Nat.div_lt_iff_lt_mul hwi]; exact hm
 have hc := Nat.mod_lt m hwi
 have hcr : Rect (zai (zag p)) (canon (zag p)) := by rw [canon_grid hR]; exact gridOf_rect _ _ _
 have h2 := rect_map hcr (fun x => 97 + x)
 rw [← h1] at h2
 have hcl : (canon (zag p)).length = (zag p).length := by simp [canon, canonL]
 unfold cellN
 have h3 := congrArg (fun R => zbe R (m / zai (zag p)) (m % zai (zag p))) h2
 have h4 := congrArg (fun R => zbe R (m / zai (zag p)) (m % zai (zag p))) (canon_grid hR)
 try dsimp only at h3 h4
 rw [valAt_gridOf (by rw [hcl]; exact hr) hc] at h3
 rw [valAt_gridOf hr hc] at h4
 omega
theorem rooms_len {rows : List (List Int)} (h : zcm rows = true) : (ordAll rows).length = (zbg rows).length := by
 rw [← stAt_all (shape_rect h)]
 exact (stAt_len rows (zai rows) _).1
theorem rooms_box {rows : List (List Int)} (h : zcm rows = true) (i : Nat) (hi : i < (zbg rows).length) : ∃ x, (ordAll rows)[i]? = some x ∧ BoxN rows (zai rows) (rows.length * zai rows) x ((zbg rows).getD i zeroR) ∧ boundR ((zbg rows).getD i zeroR) rows.length (zai rows) := by
 have hl := rooms_len h
 obtain ⟨x, hx⟩ : ∃ x, (ordAll rows)[i]? = some x := ⟨_, List.getElem?_eq_getElem (by omega)⟩
 have hb : (zbg rows)[i]? = some ((zbg rows).getD i zeroR) := by
  rw [List.getD_eq_getElem?_getD, List.getElem?_eq_getElem hi]
  rfl
 have hx2 := hx
 rw [← stAt_all (shape_rect h)] at hx2
 exact ⟨x, hx, stAt_box rows (zai rows) _ i x _ hx2 hb, (stAt_inv rows rows.length (zai rows) _ (Nat.le_refl _)).2.2.2 _ (List.mem_of_getElem? hb)⟩
theorem idx_iff {L : List Int} (hn : L.Nodup) {i : Nat} {x v : Int} (hx : L[i]? = some x) (hv : v ∈ L) : ((L.idxOf v : Int) = (i : Int) ↔ v = x) := by
 have hi := (List.getElem?_eq_some_iff.1 hx).1
 have hk := List.idxOf_lt_length_of_mem hv
 have e : L[L.idxOf v] = v := List.getElem_idxOf hk
 rw [List.getElem?_eq_getElem hi] at hx
 have hx := Option.some.inj hx
 constructor
 ·intro h
  have h : L.idxOf v = i := by omega
  subst h
  rw [← e, hx]
 ·rintro rfl
  have := nodup_inj hn hk hi (e.trans hx.symm)
  omega
theorem ordAll_nodup (rows : List (List Int)) : (ordAll rows).Nodup := ordL_nodup _ _ List.nodup_nil
theorem cell_mem {rows : List (List Int)} (h : zcm rows = true) (m : Nat) (hm : m < rows.length * zai rows) : zbe rows (m / zai rows) (m % zai rows) ∈ ordAll rows := by
 have := flatten_get rows (shape_rect h) m hm
 exact ordL_mem _ _ _ (List.mem_of_getElem? this)
theorem mem_cell {rows : List (List Int)} (h : zcm rows = true) (x : Int) (hx : x ∈ ordAll rows) : ∃ m, m < rows.length * zai rows ∧ zbe rows (m / zai rows) (m % zai rows) = x := by
 rcases ordL_sub _ _ x hx with h1 | h1
 ·cases h1
 ·obtain ⟨m, hm, e⟩ := List.mem_iff_getElem.1 h1
  have hl := flatten_length_le rows _ (shape_rect h)
  refine ⟨m, by omega, ?_⟩
  have := flatten_get rows (shape_rect h) m (by omega)
  rw [List.getElem?_eq_getElem hm, e] at this
  exact (Option.some.inj this).symm
theorem Canon.max {p : List ByteArray} (h : Canon p) : maxN (zag p) (zai (zag p)) (p.length * zai (zag p)) = (zbg (zag p)).length := by
 have hs := h.shape
 have hl := rooms_len hs
 have hc := h.cell
 obtain ⟨s1, s2, s3, s4, s5⟩ := (shapeOk_iff _).1 hs
 rw [zbs] at s1 s2
 have hpos : 0 < p.length * zai (zag p) := Nat.mul_pos (by omega) (by omega)
 have hub := maxN_ub (zag p) (zai (zag p)) ((zbg (zag p)).length : Int) (by omega) (p.length * zai (zag p)) (fun m hm => by
  rw [hc m hm]
  have := List.idxOf_lt_length_of_mem (cell_mem hs m (by rw [zbs]; exact hm))
  omega)
 have h0 := List.idxOf_lt_length_of_mem (cell_mem hs 0 (by rw [zbs]; exact hpos))
 obtain ⟨y, hy⟩ : ∃ y, (ordAll (zag p))[(ordAll (zag p)).length - 1]? = some y := ⟨_, List.getElem?_eq_getElem (by omega)⟩
 obtain ⟨m, hm, hv⟩ := mem_cell hs y (List.mem_of_getElem? hy)
 rw [zbs] at hm
 have hge := maxN_ge (zag p) (zai (zag p)) _ m hm
 have hi := (idx_iff (ordAll_nodup (zag p)) hy (List.mem_of_getElem? hy)).2 rfl
 rw [hc m hm, hv] at hge
 omega
theorem Canon.room {p : List ByteArray} (h : Canon p) (i : Nat) (hi : i < (zbg (zag p)).length) : let b := (zbg (zag p)).getD i zeroR
  roomOut (roomN (zag p) (zai (zag p)) (i : Int) (p.length : Int) (zai (zag p) : Int) (p.length * zai (zag p))) = (b.f0, b.f1, b.f2, b.f3) ∧ zcd (zag p) (zai (zag p)) (i : Int) (p.length * zai (zag p)) ≤ areaR b ∧ boundR b p.length (zai (zag p)) := by
 intro b
 have hs := h.shape
 obtain ⟨x, hx, hb, hbd⟩ := rooms_box hs i hi
 rw [zbs] at hb hbd
 have hiff : ∀ m, m < p.length * zai (zag p) → (cellN (zag p) (zai (zag p)) m = (i : Int) ↔ zbe (zag p) (m / zai (zag p)) (m % zai (zag p)) = x) := fun m hm => by
  rw [h.cell m hm]
  exact idx_iff (ordAll_nodup _) hx (cell_mem hs m (by rw [zbs]; exact hm))
 refine ⟨room_box hiff hb hbd _ _ (Int.le_refl _) (Int.le_refl _), ?_, hbd⟩
 rw [← countB_all b p.length (zai (zag p)) hbd]
 exact countN_le_B _ _ _ _ _ (fun m hm hv => hb.ins m hm ((hiff m hm).1 hv))
theorem Canon.sum {p : List ByteArray} (h : Canon p) : sumI (fun x => zcd (zag p) (zai (zag p)) (x : Int) (p.length * zai (zag p))) (zbg (zag p)).length = ((p.length * zai (zag p) : Nat) : Int) := by
 refine count_sum _ _ _ _ (fun m hm => ?_)
 rw [h.cell m hm]
 have := List.idxOf_lt_length_of_mem (cell_mem h.shape m (by rw [zbs]; exact hm))
 have := rooms_len h.shape
 omega
theorem sumArea_sumI (rs : List Rc) : zcf rs = sumI (fun x => areaR (rs.getD x zeroR)) rs.length := by
 have : ∀ n, n ≤ rs.length → zcf (rs.take n) = sumI (fun x => areaR (rs.getD x zeroR)) n := by
  intro n
  induction n with
  | zero => intro _; simp [zcf, sumI]
  | succ n ih => intro hn; rw [sum_take rs n (by omega), ih (by omega)]; rfl
 have h := this rs.length (Nat.le_refl _)
 rwa [List.take_length] at h
def fullB (p : List ByteArray) (x : Nat) : Bool := decide (zcd (zag p) (zai (zag p)) (x : Int) (p.length * zai (zag p)) = areaR ((zbg (zag p)).getD x zeroR))
theorem full_iff {p : List ByteArray} (h : Canon p) : (List.range (zbg (zag p)).length).all (fullB p) = decide (zcf (zbg (zag p)) = (p.length : Int) * (zai (zag p) : Int)) := by
 rw [Bool.eq_iff_iff, List.all_eq_true, decide_eq_true_eq, sumArea_sumI, ← Int.natCast_mul, ← h.sum]
 constructor
 ·intro hall
  refine (sumI_congr _ (fun x hx => ?_)).symm
  have := hall x (List.mem_range.2 hx)
  unfold fullB at this
  exact of_decide_eq_true this
 ·intro he x hx
  have := sumI_eq _ (fun x hx => (h.room x hx).2.1) he.symm x (List.mem_range.1 hx)
  unfold fullB
  exact decide_eq_true this
theorem planIn_l0 {p : List ByteArray} (h : Canon p) : ∀ m r, r + m = (zbg (zag p)).length → Evs (fun k => spec_PlanIn.l0 k p (r : Int)) (((List.range (zbg (zag p)).length).drop r).all (fullB p)) := by
 have hsm := gridOk_small h.grid
 obtain ⟨s1, s2, s3, s4, s5⟩ := (shapeOk_iff _).1 h.shape
 rw [zbs] at s1 s2
 have hR := l1Rooms_ev p _ hsm
 rw [h.max] at hR
 have hrl : (zbg (zag p)).length ≤ 36 := by have := rooms_len h.shape; have := shape_order h.shape; omega
 intro m
 induction m with
 | zero =>
  intro r hr
  rw [List.drop_eq_nil_of_le (by simp; omega)]
  refine Evs.step (h := fun k => (spec_l1Rooms.f k p).bind fun t => if (r : Int) < t then ((spec_l1Room.f k p (r : Int)).bind fun bt161 => ((spec_l1Cells.f k p (r : Int)).bind fun t165 => (if t165 = (wrap64 (bt161.2.2.1 * bt161.2.2.2)) then (spec_PlanIn.l0 k p (wrap64 ((r : Int) + 1))) else (some false)))) else some true) (fun k => ?_) (Evs.bind hR ?_)
  ·conv => lhs; unfold spec_PlanIn.l0
  ·refine Evs.congr (h := fun _ => some true) (fun k => ?_) (Evs.const _)
   try dsimp only
   rw [if_neg (by omega)]
 | succ m ih =>
  intro r hr
  obtain ⟨q1, q2, q3⟩ := h.room r (by omega)
  have hroom := l1Room_ev p _ hsm s1 (r : Int)
  have hcnt := l1Cells_ev p _ hsm (r : Int)
  rw [q1] at hroom
  have hab := area_bound q3 s2 s4
  have hdrop : (List.range (zbg (zag p)).length).drop r = r :: (List.range (zbg (zag p)).length).drop (r + 1) := by
   rw [List.drop_eq_getElem_cons (by simp; omega)]
   simp
  rw [hdrop, List.all_cons]
  refine Evs.step (h := fun k => (spec_l1Rooms.f k p).bind fun t => if (r : Int) < t then ((spec_l1Room.f k p (r : Int)).bind fun bt161 => ((spec_l1Cells.f k p (r : Int)).bind fun t165 => (if t165 = (wrap64 (bt161.2.2.1 * bt161.2.2.2)) then (spec_PlanIn.l0 k p (wrap64 ((r : Int) + 1))) else (some false)))) else some true) (fun k => ?_) (Evs.bind hR ?_)
  ·conv => lhs; unfold spec_PlanIn.l0
  ·refine Evs.congr (h := fun k => ((spec_l1Room.f k p (r : Int)).bind fun bt161 => ((spec_l1Cells.f k p (r : Int)).bind fun t165 => (if t165 = (wrap64 (bt161.2.2.1 * bt161.2.2.2)) then (spec_PlanIn.l0 k p (wrap64 ((r : Int) + 1))) else (some false))))) (fun k => ?_) ?_
   ·try dsimp only
    rw [if_pos (by omega)]
   ·refine Evs.bind hroom (Evs.bind hcnt ?_)
    try dsimp only
    have hw : wrap64 (((zbg (zag p)).getD r zeroR).f2 * ((zbg (zag p)).getD r zeroR).f3) = areaR ((zbg (zag p)).getD r zeroR) := by
     have h3 := hab
     unfold areaR at h3 ⊢
     exact zar (by omega) (by omega)
    rw [hw]
    have hnx := ih (r + 1) (by omega)
    by_cases hf : zcd (zag p) (zai (zag p)) (r : Int) (p.length * zai (zag p)) = areaR ((zbg (zag p)).getD r zeroR)
    ·have : fullB p r = true := decide_eq_true hf
     rw [this, Bool.true_and]
     refine Evs.congr (fun k => ?_) hnx
     rw [if_pos hf, zay (by omega)]
    ·have : fullB p r = false := decide_eq_false hf
     rw [this, Bool.false_and]
     refine Evs.congr (h := fun _ => some false) (fun k => ?_) (Evs.const _)
     rw [if_neg hf]
theorem planIn_j0 (k : Nat) (p : List ByteArray) (b : Bool) : spec_PlanIn.j0 (k + 1) p b = if b = true then some false else spec_PlanIn.l0 k p 0 := by simp only [spec_PlanIn.j0]
def planB (p : List ByteArray) : Bool := (floorF p).isSome
theorem settled_shape {rows : List (List Int)} (h : zcm rows = true) : zce rows = if (zbg rows).length ≤ 9 then some (canon rows, zbg rows, decide (zcf (zbg rows) = (rows.length : Int) * (zai rows : Int))) else none := by
 unfold zce
 rw [if_pos h, cellsOf_canon h]
theorem floorF_grid {p : List ByteArray} (h : gridOk p = true) : floorF p = if (zbg (zag p)).length ≤ 9 ∧ zcf (zbg (zag p)) = (p.length : Int) * (zai (zag p) : Int) ∧ namesOf p = p then some (canon (zag p), zbg (zag p)) else none := by
 unfold gridOk at h
 rw [Bool.and_eq_true] at h
 unfold floorF readF
 rw [if_pos h.2, settled_shape h.1, zbs]
 by_cases h9 : (zbg (zag p)).length ≤ 9
 ·rw [if_pos h9]
  simp only [Option.bind_some, decide_eq_true_eq]
  rw [show zcn (canon (zag p)) = namesOf p from rfl]
  by_cases hs : zcf (zbg (zag p)) = (p.length : Int) * (zai (zag p) : Int) ∧ namesOf p = p
  ·rw [if_pos hs, if_pos ⟨h9, hs⟩]
  ·rw [if_neg hs, if_neg (fun hh => hs hh.2)]
 ·rw [if_neg h9, if_neg (fun hh => h9 hh.1)]
  rfl
theorem floorF_nogrid {p : List ByteArray} (h : gridOk p = false) : floorF p = none := by
 unfold floorF readF
 unfold gridOk at h
 by_cases ha : p.all okText = true
 ·rw [ha, Bool.and_true] at h
  rw [if_pos ha]
  unfold zce
  rw [if_neg (by rw [h]; simp)]
  rfl
 ·rw [if_neg ha]
  rfl
theorem PlanIn_ev (p : List ByteArray) (hp : smallP p) : Evs (fun k => spec_PlanIn.f k p) (planB p) := by
 have hg := l1Grid_ev p hp
 cases hG : gridOk p
 ·rw [hG] at hg
  have : planB p = false := by unfold planB; rw [floorF_nogrid hG]; rfl
  rw [this]
  refine Evs.bind hg ?_
  refine Evs.congr (h := fun k => spec_PlanIn.j0 k p true) (fun k => ?_) (Evs.step (h := fun _ => some false) (fun k => ?_) (Evs.const _))
  ·try dsimp only
   rw [if_neg (by simp)]
  ·rw [planIn_j0]
   rw [if_pos rfl]
 ·rw [hG] at hg
  have hs : zcm (zag p) = true := by
   unfold gridOk at hG
   rw [Bool.and_eq_true] at hG
   exact hG.1
  have hn := l1Names_ev p hp (by have := shape_order hs; omega)
  have hsame := l1Same_ev (namesOf p) p (by simp [namesOf, zcn, canon, canonL, zag]; have := hp.1; omega)
  refine Evs.bind hg ?_
  refine Evs.congr (h := fun k => (spec_l1Names.f k p).bind fun t155 => ((spec_l1Same.f k t155 p).bind fun t158 => (if t158 = true then ((spec_l1Rooms.f k p).bind fun t159 => (spec_PlanIn.j0 k p (decide (t159 > 9)))) else (spec_PlanIn.j0 k p true)))) (fun k => ?_) (Evs.bind hn (Evs.bind hsame ?_))
  ·try dsimp only
   rw [if_pos rfl]
  ·unfold planB
   rw [floorF_grid hG]
   by_cases hN : namesOf p = p
   ·have hC : Canon p := ⟨hG, hN⟩
    have hR := l1Rooms_ev p _ (gridOk_small hG)
    rw [hC.max] at hR
    refine Evs.congr (h := fun k => (spec_l1Rooms.f k p).bind fun t159 => (spec_PlanIn.j0 k p (decide (t159 > 9)))) (fun k => ?_) (Evs.bind hR ?_)
    ·try dsimp only
     rw [decide_eq_true hN, if_pos rfl]
    ·by_cases h9 : (zbg (zag p)).length ≤ 9
     ·refine Evs.step (h := fun k => spec_PlanIn.l0 k p ((0 : Nat) : Int)) (fun k => ?_) ?_
      ·try dsimp only
       rw [planIn_j0]
       rw [decide_eq_false (by omega), if_neg (by simp)]
       rfl
      ·have := planIn_l0 hC (zbg (zag p)).length 0 (by omega)
       rw [List.drop_zero, full_iff hC] at this
       by_cases hsum : zcf (zbg (zag p)) = (p.length : Int) * (zai (zag p) : Int)
       ·rw [decide_eq_true hsum] at this
        rw [if_pos ⟨h9, hsum, hN⟩]
        exact this
       ·rw [decide_eq_false hsum] at this
        rw [if_neg (fun hh => hsum hh.2.1)]
        exact this
     ·rw [if_neg (fun hh => h9 hh.1)]
      refine Evs.step (h := fun _ => some false) (fun k => ?_) (Evs.const _)
      try dsimp only
      rw [planIn_j0]
      rw [decide_eq_true (by omega), if_pos rfl]
   ·rw [if_neg (fun hh => hN hh.2.2)]
    refine Evs.congr (h := fun k => spec_PlanIn.j0 k p true) (fun k => ?_) (Evs.step (h := fun _ => some false) (fun k => ?_) (Evs.const _))
    ·try dsimp only
     rw [decide_eq_false hN, if_neg (by simp)]
    ·rw [planIn_j0]
     rw [if_pos rfl]
def mapG (f : Int → Int) (rows : List (List Int)) : List (List Int) := rows.map fun r => r.map f
theorem mapG_length (f : Int → Int) (rows : List (List Int)) : (mapG f rows).length = rows.length := by simp [mapG]
theorem mapG_wide (f : Int → Int) (rows : List (List Int)) : zai (mapG f rows) = zai rows := by
 unfold zai mapG
 cases rows with
 | nil => rfl
 | cons a r => simp
def Vals (rows : List (List Int)) (x : Int) : Prop := x ∈ rows.flatten
theorem valAt_map {rows : List (List Int)} {wi r c : Nat} (h : Rect wi rows) (f : Int → Int) (hr : r < rows.length) (hc : c < wi) : zbe (mapG f rows) r c = f (zbe rows r c) := by
 have := congrArg (fun R => zbe R r c) (rect_map h f)
 unfold mapG
 rw [show zbe (rows.map fun r => r.map f) r c = zbe (zbn rows.length wi fun r c => f (zbe rows r c)) r c from this, valAt_gridOf hr hc]
theorem FloorAt.rooms {w : World} {g : Nat} {cs : List (List Int)} {rs : List Rc} (hf : FloorAt w g cs rs) : ∃ A c, w.cell? ⟨g, 1, none⟩ = some (.slice A rs.length c) ∧ kRc.C w A rs.length rs := by
 obtain ⟨A0, c0, A1, c1, h1, h2, h3, h4⟩ := hf
 exact ⟨A1, c1, (zal h1 1).trans rfl, h4⟩
theorem zch {w : World} {v : Value} {t : TypeId} {g : Nat} (h : w.heap[g]? = some (.cells #[v] t (0, 0))) : w.cell? ⟨g, 0, none⟩ = some v := (zal h 0).trans rfl
structure PlanFacts (p : List ByteArray) (cs : List (List Int)) (rs : List Rc) : Prop where
 canon : Canon p
 cells : cs = Hd.canon (zag p)
 rooms : rs = zbg (zag p)
 nums : zag p = mapG (fun x => 97 + x) cs
 ok : zcg cs rs
 len : p.length = cs.length
 wide : zai (zag p) = zai cs
 text : p = zcn cs
theorem floor_facts {p : List ByteArray} {cs : List (List Int)} {rs : List Rc} (h : floorF p = some (cs, rs)) : PlanFacts p cs rs := by
 have hok := floorF_ok h
 cases hG : gridOk p with
 | false => rw [floorF_nogrid hG] at h; cases h
 | true =>
  rw [floorF_grid hG] at h
  split at h
  ·rename_i hc
   injection h with h
   injection h with e1 e2
   have hC : Canon p := ⟨hG, hc.2.2⟩
   have hn : zag p = mapG (fun x => 97 + x) cs := by
    have := numsOf_textOf (canon (zag p)) (canon_val hC.shape)
    rw [show zcn (canon (zag p)) = p from hC.names, e1] at this
    exact this
   refine ⟨hC, e1.symm, e2.symm, hn, hok, ?_, ?_, ?_⟩
   ·rw [← zbs, hn, mapG_length]
   ·rw [hn, mapG_wide]
   ·rw [← e1]; exact hC.names.symm
  ·cases h
theorem bytesOf_strOfNums (xs : List Int) (h : ∀ x ∈ xs, 0 ≤ x ∧ x ≤ 255) : zax (strOfNums xs) = xs := by
 unfold zax strOfNums
 show ((xs.map fun n => UInt8.ofNat n.toNat).toArray.toList).map _ = _
 rw [List.map_map]
 conv => rhs; rw [← List.map_id xs]
 apply List.map_congr_left
 intro x hx
 have := h x hx
 show ((UInt8.ofNat x.toNat).toNat : Int) = x
 rw [UInt8.toNat_ofNat']
 omega
theorem zcg.rect {cs : List (List Int)} {rs : List Rc} (h : zcg cs rs) : Rect (zai cs) cs := h.cells.row
theorem planB_cases (p : List ByteArray) : (planB p = false ∧ floorF p = none) ∨ (planB p = true ∧ ∃ cs rs, floorF p = some (cs, rs)) := by
 unfold planB
 cases h : floorF p with
 | none => exact .inl ⟨rfl, rfl⟩
 | some t => exact .inr ⟨rfl, t.1, t.2, rfl⟩
structure Mid (p : List ByteArray) (wi : Nat) : Prop where
 high : p.length ≤ 100
 wide : wi ≤ 100
 row : ∀ s ∈ p, s.size = wi
theorem Mid.rect {p : List ByteArray} {wi : Nat} (h : Mid p wi) : Rect wi (zag p) := by
 intro r hr
 obtain ⟨s, hs, rfl⟩ := List.mem_map.1 hr
 rw [zbq]
 exact h.row s hs
def colOf (p : List ByteArray) (c : Nat) : List Int := p.map fun s => (zax s).getD c 0
def transOf (p : List ByteArray) (wi : Nat) : List ByteArray := (List.range wi).map fun c => strOfNums (colOf p c)
theorem trans_l1 (p : List ByteArray) (wi : Nat) (h : Mid p wi) (c : Nat) (hc : c < wi) (x3 : List ByteArray) (h3 : x3.length ≤ 1000) (r : List ByteArray) (hnext : Evs (fun k => spec_l1Trans.l0 k p (x3 ++ [strOfNums (colOf p c)]) ((c + 1 : Nat) : Int)) r) :
  ∀ m i, i + m = p.length → Evs (fun k => spec_l1Trans.l1 k p x3 (c : Int) (colOf (p.take i) c) (i : Int)) r := by
 have hh := h.high
 have hw := h.wide
 intro m
 induction m with
 | zero =>
  intro i hi
  rw [List.take_of_length_le (by omega)]
  refine Evs.step (h := fun k => spec_l1Trans.l0 k p (x3 ++ [strOfNums (colOf p c)]) ((c + 1 : Nat) : Int)) (fun k => ?_) hnext
  conv => lhs; unfold spec_l1Trans.l1
  rw [if_neg (by omega), if_pos (by omega), zay (by omega)]
 | succ m ih =>
  intro i hi
  obtain ⟨s, hs⟩ : ∃ s, p[i]? = some s := ⟨_, List.getElem?_eq_getElem (by omega)⟩
  have hsz := h.row s (List.mem_of_getElem? hs)
  have hnx := ih (i + 1) (by omega)
  have e : colOf (p.take (i + 1)) c = colOf (p.take i) c ++ [(zax s).getD c 0] := by
   unfold colOf
   rw [List.take_add_one, hs, List.map_append]
   rfl
  rw [e] at hnx
  refine Evs.step (h := fun k => spec_l1Trans.l1 k p x3 (c : Int) (colOf (p.take i) c ++ [(zax s).getD c 0]) ((i + 1 : Nat) : Int)) (fun k => ?_) hnx
  conv => lhs; unfold spec_l1Trans.l1
  rw [if_pos (by omega), if_pos (by omega), if_pos (by omega), zbz hs, if_pos (by omega), if_pos (by simp [colOf]; omega), ← bytesOf_get, zay (by omega)]
theorem trans_l0 (p : List ByteArray) (wi : Nat) (h : Mid p wi) (h1 : 1 ≤ p.length) : ∀ m c, c + m = wi → Evs (fun k => spec_l1Trans.l0 k p ((List.range c).map fun c => strOfNums (colOf p c)) (c : Int)) (transOf p wi) := by
 have hh := h.high
 have hw := h.wide
 obtain ⟨s, hs⟩ : ∃ s, p[0]? = some s := ⟨_, List.getElem?_eq_getElem (by omega)⟩
 have hsz := h.row s (List.mem_of_getElem? hs)
 have e0 : rdOf ByteArray.empty p 0 = s := zbz (i := 0) hs
 intro m
 induction m with
 | zero =>
  intro c hc
  obtain rfl : c = wi := by omega
  refine Evs.step (h := fun _ => some (transOf p c)) (fun k => ?_) (Evs.const _)
  conv => lhs; unfold spec_l1Trans.l0
  rw [if_pos (by omega), e0, if_neg (by omega)]
  rfl
 | succ m ih =>
  intro c hc
  have hnx := ih (c + 1) (by omega)
  rw [List.range_succ, List.map_append] at hnx
  have := trans_l1 p wi h c (by omega) ((List.range c).map fun c => strOfNums (colOf p c)) (by simp; omega) _ hnx p.length 0 (by omega)
  refine Evs.step (h := fun k => spec_l1Trans.l1 k p ((List.range c).map fun c => strOfNums (colOf p c)) (c : Int) (colOf (p.take 0) c) ((0 : Nat) : Int)) (fun k => ?_) this
  conv => lhs; unfold spec_l1Trans.l0
  rw [if_pos (by omega), e0, if_pos (by omega)]
  rfl
theorem l1Trans_ev (p : List ByteArray) (wi : Nat) (h : Mid p wi) (h1 : 1 ≤ p.length) : Evs (fun k => spec_l1Trans.f k p) (transOf p wi) := trans_l0 p wi h h1 wi 0 (by omega)
theorem colOf_range (p : List ByteArray) (c : Nat) : ∀ x ∈ colOf p c, 0 ≤ x ∧ x ≤ 255 := by
 intro x hx
 obtain ⟨s, hs, rfl⟩ := List.mem_map.1 hx
 rw [List.getD_eq_getElem?_getD]
 cases h : (zax s)[c]? with
 | none => simp
 | some y => exact bytesOf_range s y (List.mem_of_getElem? h)
theorem numsOf_trans (p : List ByteArray) (wi : Nat) : zag (transOf p wi) = zbn wi p.length (fun r c => zbe (zag p) c r) := by
 unfold zag transOf zbn
 rw [List.map_map]
 apply List.map_congr_left
 intro c hc
 show zax (strOfNums (colOf p c)) = _
 rw [bytesOf_strOfNums _ (colOf_range p c)]
 unfold colOf
 apply List.ext_getElem?
 intro i
 rw [List.getElem?_map, List.getElem?_map]
 by_cases hi : i < p.length
 ·rw [List.getElem?_range hi, List.getElem?_eq_getElem hi]
  simp only [Option.map_some]
  congr 1
  unfold zbe
  rw [List.getD_eq_getElem?_getD (l := List.map zax p), List.getElem?_map, List.getElem?_eq_getElem hi]
  rfl
 ·rw [List.getElem?_eq_none (by omega), List.getElem?_eq_none (by simp; omega)]
  rfl
theorem mid_trans {p : List ByteArray} {wi : Nat} (h : Mid p wi) : Mid (transOf p wi) p.length := by
 refine ⟨by simp [transOf]; exact h.wide, h.high, fun s hs => ?_⟩
 obtain ⟨c, hc, rfl⟩ := List.mem_map.1 hs
 show (List.map _ (colOf p c)).toArray.size = _
 simp [colOf]
theorem trans_length (p : List ByteArray) (wi : Nat) : (transOf p wi).length = wi := by simp [transOf]
section
variable {α : Type} {g h : Nat → Option α} {r : α} {c : Prop} [Decidable c]
theorem Evs.pos (hc : c) (hg : Evs g r) : Evs (fun k => if c then g k else h k) r := Evs.congr (fun k => if_pos hc) hg
theorem Evs.neg (hc : ¬ c) (hh : Evs h r) : Evs (fun k => if c then g k else h k) r := Evs.congr (fun k => if_neg hc) hh
end
def fits (p : List ByteArray) : Prop := p.length ≤ 9223372036854775807 ∧ ∀ s ∈ p, s.size ≤ 9223372036854775807
end Go.Proofs.Ytickdcegnlldjaa.Hd
namespace Go.Proofs.Ytickdcegnlldjaa.PB
open Go.RowKit Go.PW.PrintWords Go.PW.PrintLast Go.PW.PrintMore
attribute [local go_sem] zbw zbu zcb zca zbm zbl zbv zbt   -- for this text's walks alone
def impl_floor_sides.f (s0_0 : List (List Int)) (s0_1 : List (S120)) (a1 : Bool) (a2 : Int) (a3 : Int) : Option (Int × Int) := if a1 = true then (if 0 ≤ (wrap64 (a2 - 1)) then (if (wrap64 (a2 - 1)) < (s0_0.length : Int) then (if 0 ≤ a3 then (if a3 < ((zbk s0_0 (wrap64 (a2 - 1))).length : Int) then (if 0 ≤ a2 then (if a2 < (s0_0.length : Int) then (if a3 < ((zbk s0_0 a2).length : Int) then (some (rd (zbk s0_0 (wrap64 (a2 - 1))) a3, rd (zbk s0_0 a2) a3)) else (none)) else (none)) else (none)) else (none)) else (none)) else (none)) else (none)) else (if 0 ≤ a3 then (if a3 < (s0_0.length : Int) then (if 0 ≤ (wrap64 (a2 - 1)) then (if (wrap64 (a2 - 1)) < ((zbk s0_0 a3).length : Int) then (if 0 ≤ a2 then (if a2 < ((zbk s0_0 a3).length : Int) then (some (rd (zbk s0_0 a3) (wrap64 (a2 - 1)), rd (zbk s0_0 a3) a2)) else (none)) else (none)) else (none)) else (none)) else (none)) else (none))
set_option maxHeartbeats 8000000 in
set_option maxRecDepth 100000 in
theorem impl_floor_sides.calls (g : Nat) (s0_0 : List (List Int)) (s0_1 : List (S120)) (a1 : Bool) (a2 : Int) (a3 : Int) (r1 : Int) (r2 : Int) (w0 w : World) (hI : zao w0 w g s0_0 s0_1) (hB : Below w0.heap.size w0 w) (h : impl_floor_sides.f s0_0 s0_1 a1 a2 a3 = some (r1, r2)) :
  Calls Try.prog 102 #[.pointer (some ⟨g, 0, none⟩), .bool a1, .int .i64 a2, .int .i64 a3] w fun e w' => e = .returned (.tuple #[.int .i64 r1, .int .i64 r2]) ∧ zao w0 w' g s0_0 s0_1 ∧ Below w0.heap.size w0 w' ∧ zap w w' g none := by
 have HI0 := zaa.mk hI
 have HK := zaa.mk (zap.refl w g none)
 have HL := zaa.mk hB.size
 clear hI
 have HW0 := zaa.mk hB.size
 have HB := zaa.mk hB
 clear hB
 have H : (if a1 = true then (if 0 ≤ (wrap64 (a2 - 1)) then (if (wrap64 (a2 - 1)) < (s0_0.length : Int) then (if 0 ≤ a3 then (if a3 < ((zbk s0_0 (wrap64 (a2 - 1))).length : Int) then (if 0 ≤ a2 then (if a2 < (s0_0.length : Int) then (if a3 < ((zbk s0_0 a2).length : Int) then (some (rd (zbk s0_0 (wrap64 (a2 - 1))) a3, rd (zbk s0_0 a2) a3)) else (none)) else (none)) else (none)) else (none)) else (none)) else (none)) else (none)) else (if 0 ≤ a3 then (if a3 < (s0_0.length : Int) then (if 0 ≤ (wrap64 (a2 - 1)) then (if (wrap64 (a2 - 1)) < ((zbk s0_0 a3).length : Int) then (if 0 ≤ a2 then (if a2 < ((zbk s0_0 a3).length : Int) then (some (rd (zbk s0_0 a3) (wrap64 (a2 - 1)), rd (zbk s0_0 a3) a2)) else (none)) else (none)) else (none)) else (none)) else (none)) else (none))) = some (r1, r2) := h
 clear h
 by_cases c5 : a1 = true
 ·subst c5
  have H1 : (if 0 ≤ (wrap64 (a2 - 1)) then (if (wrap64 (a2 - 1)) < (s0_0.length : Int) then (if 0 ≤ a3 then (if a3 < ((zbk s0_0 (wrap64 (a2 - 1))).length : Int) then (if 0 ≤ a2 then (if a2 < (s0_0.length : Int) then (if a3 < ((zbk s0_0 a2).length : Int) then (some (rd (zbk s0_0 (wrap64 (a2 - 1))) a3, rd (zbk s0_0 a2) a3)) else (none)) else (none)) else (none)) else (none)) else (none)) else (none)) else (none)) = some (r1, r2) := by rw [if_pos rfl] at H; exact H
  clear H
  have H := H1
  clear H1
  obtain ⟨ji6, hji6⟩ : ∃ j_ : Int, (wrap64 (a2 - 1)) = j_ := ⟨_, rfl⟩
  replace H : (if 0 ≤ (ji6) then (if (ji6) < (s0_0.length : Int) then (if 0 ≤ a3 then (if a3 < ((zbk s0_0 (ji6)).length : Int) then (if 0 ≤ a2 then (if a2 < (s0_0.length : Int) then (if a3 < ((zbk s0_0 a2).length : Int) then (some (rd (zbk s0_0 (ji6)) a3, rd (zbk s0_0 a2) a3)) else (none)) else (none)) else (none)) else (none)) else (none)) else (none)) else (none)) = some (r1, r2) := by first | (rw [hji6] at H; exact H) | (simp only [hji6] at H ⊢; exact H)
  have hji6w : (IntKind.i64.wrap (a2 - 1)) = ji6 := (zas _).trans hji6
  by_cases c7 : 0 ≤ (ji6)
  ·rw [if_pos c7] at H
   have c7b0 : decide (0 ≤ (ji6)) = true := decide_eq_true c7
   clear c7
   by_cases c8 : (ji6) < (s0_0.length : Int)
   ·rw [if_pos c8] at H
    have c8b0 : decide ((ji6) < (s0_0.length : Int)) = true := decide_eq_true c8
    clear c8
    by_cases c9 : 0 ≤ a3
    ·rw [if_pos c9] at H
     have c9b0 : decide (0 ≤ a3) = true := decide_eq_true c9
     clear c9
     by_cases c10 : a3 < ((zbk s0_0 (ji6)).length : Int)
     ·rw [if_pos c10] at H
      have c10b0 : decide (a3 < ((zbk s0_0 (ji6)).length : Int)) = true := decide_eq_true c10
      clear c10
      by_cases c11 : 0 ≤ a2
      ·rw [if_pos c11] at H
       have c11b0 : decide (0 ≤ a2) = true := decide_eq_true c11
       clear c11
       by_cases c12 : a2 < (s0_0.length : Int)
       ·rw [if_pos c12] at H
        have c12b0 : decide (a2 < (s0_0.length : Int)) = true := decide_eq_true c12
        clear c12
        by_cases c13 : a3 < ((zbk s0_0 a2).length : Int)
        ·rw [if_pos c13] at H
         have c13b0 : decide (a3 < ((zbk s0_0 a2).length : Int)) = true := decide_eq_true c13
         clear c13
         simp only [Option.some.injEq, Prod.mk.injEq] at H
         obtain ⟨rfl, rfl⟩ := H
         obtain ⟨ASz14_0, cSz14_0, ASz14_1, cSz14_1, HGz14, hgz14, HSz14_0, HSz14_1⟩ := HI0.out
         have hcz14_0 := cellS58_0 HGz14
         have hcz14_1 := cellS58_1 HGz14
         clear HGz14 hgz14
         have p325 : 0 ≤ ((ji6) : Int) := of_decide_eq_true (by first | (with_reducible assumption) | assumption)
         have q325 : (ji6) < (s0_0.length : Int) := of_decide_eq_true (by first | (with_reducible assumption) | assumption)
         obtain ⟨ad325, A325_0, c325_0, e325, hx325_0, hl325_0, hi325_0⟩ := at_L3 HSz14_0 (ji6) p325 q325
         cases e325
         replace hx325_0 := zae HB.out hx325_0
         have HR325_0 := zaa.mk hi325_0
         have HC325_0 := zaa.mk hl325_0
         clear hi325_0 hl325_0
         replace p325 := eq_true p325
         replace q325 := eq_true q325
         have p326 : 0 ≤ (a3 : Int) := of_decide_eq_true (by first | (with_reducible assumption) | assumption)
         have q326 : a3 < ((zbk s0_0 (ji6)).length : Int) := of_decide_eq_true (by first | (with_reducible assumption) | assumption)
         obtain ⟨ad326, e326, hx326_0⟩ := Kd.at_int HR325_0.out a3 p326 q326
         cases e326
         first | (replace hx326_0 := zae HB.out hx326_0) | (replace hx326_0 := keep_cell HK.out hx326_0 (by first | (rw [add_block]; exact hf325_0 _ rfl (by omega)) | exact hf325_0 _ rfl (by omega) | exact hf325_0 ad326 rfl (by omega)))
         replace p326 := eq_true p326
         replace q326 := eq_true q326
         have p327 : 0 ≤ (a2 : Int) := of_decide_eq_true (by first | (with_reducible assumption) | assumption)
         have q327 : a2 < (s0_0.length : Int) := of_decide_eq_true (by first | (with_reducible assumption) | assumption)
         obtain ⟨ad327, A327_0, c327_0, e327, hx327_0, hl327_0, hi327_0⟩ := at_L3 HSz14_0 a2 p327 q327
         obtain rfl : ad325 = ad327 := (by injection e327)
         replace hx327_0 := zae HB.out hx327_0
         have HR327_0 := zaa.mk hi327_0
         have HC327_0 := zaa.mk hl327_0
         clear hi327_0 hl327_0
         replace p327 := eq_true p327
         replace q327 := eq_true q327
         have p328 : 0 ≤ (a3 : Int) := of_decide_eq_true (by first | (with_reducible assumption) | assumption)
         have q328 : a3 < ((zbk s0_0 a2).length : Int) := of_decide_eq_true (by first | (with_reducible assumption) | assumption)
         obtain ⟨ad328, e328, hx328_0⟩ := Kd.at_int HR327_0.out a3 p328 q328
         cases e328
         first | (replace hx328_0 := zae HB.out hx328_0) | (replace hx328_0 := keep_cell HK.out hx328_0 (by first | (rw [add_block]; exact hf327_0 _ rfl (by omega)) | exact hf327_0 _ rfl (by omega) | exact hf327_0 ad328 rfl (by omega)))
         replace p328 := eq_true p328
         replace q328 := eq_true q328
         go_enter Try.func102, Try.ntmps102
         go_wp2
         repeat (go_quiet (fail); try go_wp2)
         go_ret2
         exact ⟨by first | rfl | (simp [zak, zaj] <;> rfl) | (simp only [← hji6]; first | rfl | (simp [zak, zaj] <;> rfl)) | (simp [*, zak, zaj] <;> rfl), by repeat (first | (with_reducible first | exact HI0.out | apply zao.alloc | apply zao.drewN | apply zao.drew) | exact HI0.out), by repeat (first | (with_reducible first | exact HB.out | apply zac | apply zab | apply zad | refine zam ?_ (zao.ge HI0.out)) | exact HB.out), by repeat (first | (with_reducible first | exact HK.out | apply zap.set_ | apply zbc | apply zbi | apply zbd) | exact HK.out)⟩
        ·rw [if_neg c13] at H
         exact absurd H (by simp)
       ·rw [if_neg c12] at H
        exact absurd H (by simp)
      ·rw [if_neg c11] at H
       exact absurd H (by simp)
     ·rw [if_neg c10] at H
      exact absurd H (by simp)
    ·rw [if_neg c9] at H
     exact absurd H (by simp)
   ·rw [if_neg c8] at H
    exact absurd H (by simp)
  ·rw [if_neg c7] at H
   exact absurd H (by simp)
 ·replace c5 := Bool.eq_false_iff.mpr c5
  subst c5
  have H1 : (if 0 ≤ a3 then (if a3 < (s0_0.length : Int) then (if 0 ≤ (wrap64 (a2 - 1)) then (if (wrap64 (a2 - 1)) < ((zbk s0_0 a3).length : Int) then (if 0 ≤ a2 then (if a2 < ((zbk s0_0 a3).length : Int) then (some (rd (zbk s0_0 a3) (wrap64 (a2 - 1)), rd (zbk s0_0 a3) a2)) else (none)) else (none)) else (none)) else (none)) else (none)) else (none)) = some (r1, r2) := by rw [if_neg (show ¬ (false = true) by decide)] at H; exact H
  clear H
  have H := H1
  clear H1
  by_cases c15 : 0 ≤ a3
  ·rw [if_pos c15] at H
   have c15b0 : decide (0 ≤ a3) = true := decide_eq_true c15
   clear c15
   by_cases c16 : a3 < (s0_0.length : Int)
   ·rw [if_pos c16] at H
    have c16b0 : decide (a3 < (s0_0.length : Int)) = true := decide_eq_true c16
    clear c16
    obtain ⟨ji17, hji17⟩ : ∃ j_ : Int, (wrap64 (a2 - 1)) = j_ := ⟨_, rfl⟩
    replace H : (if 0 ≤ (ji17) then (if (ji17) < ((zbk s0_0 a3).length : Int) then (if 0 ≤ a2 then (if a2 < ((zbk s0_0 a3).length : Int) then (some (rd (zbk s0_0 a3) (ji17), rd (zbk s0_0 a3) a2)) else (none)) else (none)) else (none)) else (none)) = some (r1, r2) := by first | (rw [hji17] at H; exact H) | (simp only [hji17] at H ⊢; exact H)
    have hji17w : (IntKind.i64.wrap (a2 - 1)) = ji17 := (zas _).trans hji17
    by_cases c18 : 0 ≤ (ji17)
    ·rw [if_pos c18] at H
     have c18b0 : decide (0 ≤ (ji17)) = true := decide_eq_true c18
     clear c18
     by_cases c19 : (ji17) < ((zbk s0_0 a3).length : Int)
     ·rw [if_pos c19] at H
      have c19b0 : decide ((ji17) < ((zbk s0_0 a3).length : Int)) = true := decide_eq_true c19
      clear c19
      by_cases c20 : 0 ≤ a2
      ·rw [if_pos c20] at H
       have c20b0 : decide (0 ≤ a2) = true := decide_eq_true c20
       clear c20
       by_cases c21 : a2 < ((zbk s0_0 a3).length : Int)
       ·rw [if_pos c21] at H
        have c21b0 : decide (a2 < ((zbk s0_0 a3).length : Int)) = true := decide_eq_true c21
        clear c21
        simp only [Option.some.injEq, Prod.mk.injEq] at H
        obtain ⟨rfl, rfl⟩ := H
        obtain ⟨ASz22_0, cSz22_0, ASz22_1, cSz22_1, HGz22, hgz22, HSz22_0, HSz22_1⟩ := HI0.out
        have hcz22_0 := cellS58_0 HGz22
        have hcz22_1 := cellS58_1 HGz22
        clear HGz22 hgz22
        have p329 : 0 ≤ (a3 : Int) := of_decide_eq_true (by first | (with_reducible assumption) | assumption)
        have q329 : a3 < (s0_0.length : Int) := of_decide_eq_true (by first | (with_reducible assumption) | assumption)
        obtain ⟨ad329, A329_0, c329_0, e329, hx329_0, hl329_0, hi329_0⟩ := at_L3 HSz22_0 a3 p329 q329
        cases e329
        replace hx329_0 := zae HB.out hx329_0
        have HR329_0 := zaa.mk hi329_0
        have HC329_0 := zaa.mk hl329_0
        clear hi329_0 hl329_0
        replace p329 := eq_true p329
        replace q329 := eq_true q329
        have p330 : 0 ≤ ((ji17) : Int) := of_decide_eq_true (by first | (with_reducible assumption) | assumption)
        have q330 : (ji17) < ((zbk s0_0 a3).length : Int) := of_decide_eq_true (by first | (with_reducible assumption) | assumption)
        obtain ⟨ad330, e330, hx330_0⟩ := Kd.at_int HR329_0.out (ji17) p330 q330
        cases e330
        first | (replace hx330_0 := zae HB.out hx330_0) | (replace hx330_0 := keep_cell HK.out hx330_0 (by first | (rw [add_block]; exact hf329_0 _ rfl (by omega)) | exact hf329_0 _ rfl (by omega) | exact hf329_0 ad330 rfl (by omega)))
        replace p330 := eq_true p330
        replace q330 := eq_true q330
        have p331 : 0 ≤ (a3 : Int) := of_decide_eq_true (by first | (with_reducible assumption) | assumption)
        have q331 : a3 < (s0_0.length : Int) := of_decide_eq_true (by first | (with_reducible assumption) | assumption)
        obtain ⟨ad331, A331_0, c331_0, e331, hx331_0, hl331_0, hi331_0⟩ := at_L3 HSz22_0 a3 p331 q331
        obtain rfl : ad329 = ad331 := (by injection e331)
        replace hx331_0 := zae HB.out hx331_0
        try (have e_ := Option.some.inj (hx329_0.symm.trans hx331_0); injection e_ with e1_ e2_ e3_; subst e1_; subst e3_)
        have HR331_0 := zaa.mk hi331_0
        have HC331_0 := zaa.mk hl331_0
        clear hi331_0 hl331_0
        replace p331 := eq_true p331
        replace q331 := eq_true q331
        have p332 : 0 ≤ (a2 : Int) := of_decide_eq_true (by first | (with_reducible assumption) | assumption)
        have q332 : a2 < ((zbk s0_0 a3).length : Int) := of_decide_eq_true (by first | (with_reducible assumption) | assumption)
        obtain ⟨ad332, e332, hx332_0⟩ := Kd.at_int HR331_0.out a2 p332 q332
        cases e332
        first | (replace hx332_0 := zae HB.out hx332_0) | (replace hx332_0 := keep_cell HK.out hx332_0 (by first | (rw [add_block]; exact hf331_0 _ rfl (by omega)) | exact hf331_0 _ rfl (by omega) | exact hf331_0 ad332 rfl (by omega)))
        replace p332 := eq_true p332
        replace q332 := eq_true q332
        go_enter Try.func102, Try.ntmps102
        go_wp2
        repeat (go_quiet (fail); try go_wp2)
        go_ret2
        exact ⟨by first | rfl | (simp [zak, zaj] <;> rfl) | (simp only [← hji17]; first | rfl | (simp [zak, zaj] <;> rfl)) | (simp [*, zak, zaj] <;> rfl), by repeat (first | (with_reducible first | exact HI0.out | apply zao.alloc | apply zao.drewN | apply zao.drew) | exact HI0.out), by repeat (first | (with_reducible first | exact HB.out | apply zac | apply zab | apply zad | refine zam ?_ (zao.ge HI0.out)) | exact HB.out), by repeat (first | (with_reducible first | exact HK.out | apply zap.set_ | apply zbc | apply zbi | apply zbd) | exact HK.out)⟩
       ·rw [if_neg c21] at H
        exact absurd H (by simp)
      ·rw [if_neg c20] at H
       exact absurd H (by simp)
     ·rw [if_neg c19] at H
      exact absurd H (by simp)
    ·rw [if_neg c18] at H
     exact absurd H (by simp)
   ·rw [if_neg c16] at H
    exact absurd H (by simp)
  ·rw [if_neg c15] at H
   exact absurd H (by simp)
def impl_floor_differ.f (s0_0 : List (List Int)) (s0_1 : List (S120)) (a1 : Bool) (a2 : Int) (a3 : Int) : Option (Bool) := (impl_floor_sides.f s0_0 s0_1 a1 a2 a3).bind fun bt333 => (some (bt333.1 != bt333.2))
set_option maxHeartbeats 8000000 in
set_option maxRecDepth 100000 in
theorem impl_floor_differ.calls (g : Nat) (s0_0 : List (List Int)) (s0_1 : List (S120)) (a1 : Bool) (a2 : Int) (a3 : Int) (r : Bool) (w0 w : World) (hI : zao w0 w g s0_0 s0_1) (hB : Below w0.heap.size w0 w) (h : impl_floor_differ.f s0_0 s0_1 a1 a2 a3 = some r) :
  Calls Try.prog 96 #[.pointer (some ⟨g, 0, none⟩), .bool a1, .int .i64 a2, .int .i64 a3] w fun e w' => e = .returned (.bool r) ∧ zao w0 w' g s0_0 s0_1 ∧ Below w0.heap.size w0 w' ∧ zap w w' g none := by
 have HI0 := zaa.mk hI
 have HK := zaa.mk (zap.refl w g none)
 have HL := zaa.mk hB.size
 clear hI
 have HW0 := zaa.mk hB.size
 have HB := zaa.mk hB
 clear hB
 have H : ((impl_floor_sides.f s0_0 s0_1 a1 a2 a3).bind fun bt333 => (some (bt333.1 != bt333.2))) = some r := h
 clear h
 replace H := Option.bind_eq_some_iff.mp H
 obtain ⟨⟨t333, t334⟩, A50, H⟩ := H
 replace H : (some (t333 != t334)) = some r := H
 have A5 := zaa.mk A50
 clear A50
 obtain rfl := Option.some.inj H
 go_enter Try.func96, Try.ntmps96
 go_wp2_with (first | ((with_reducible refine zav (f := 102) rfl ?_); refine zby (some 16) rfl rfl Try.func102 (by kernel_rfl) rfl #[.pointer (some ⟨g, 0, none⟩), .bool a1, .int .i64 a2, .int .i64 a3] rfl (by (try simp only [List.map_toArray, List.map_cons, List.map_nil]); first | done | rfl | (simp only [List.length_drop, List.length_take]; rfl)) ?_; (with_reducible refine (impl_floor_sides.calls g s0_0 s0_1 a1 a2 a3 t333 t334 w0 _ ?side1 ?side2 A5.out).mono ?_); (case side1 => repeat (first | (with_reducible first | exact HI0.out | apply zao.alloc | apply zao.drewN | apply zao.drew) | exact HI0.out)); (case side2 => repeat (first | (with_reducible first | exact HB.out | apply zac | apply zab | apply zad | refine zam ?_ (zao.ge HI0.out)) | exact HB.out)); rintro e w6 ⟨rfl, hi, hb, hk⟩; refine ⟨_, rfl, ?_⟩; have n0_ := zaa.mk (zap.trans (by repeat (first | (with_reducible first | exact HK.out | apply zap.set_ | apply zbc | apply zbi | apply zbd) | exact HK.out)) hk (.inl rfl)); have n1_ := zaa.mk (hb); have n2_ := zaa.mk (hi); clear HK; clear HB; clear HI0; have HK := n0_; have HB := n1_; have HI0 := n2_; clear n0_ n1_ n2_; (try clear hb); (try clear hb2); (try clear hk); (try clear hi)))
 go_ret
 exact ⟨by first | rfl | (simp [zak, zaj] <;> rfl) | (simp [*, zak, zaj] <;> rfl), by repeat (first | (with_reducible first | exact HI0.out | apply zao.alloc | apply zao.drewN | apply zao.drew) | exact HI0.out), by repeat (first | (with_reducible first | exact HB.out | apply zac | apply zab | apply zad | refine zam ?_ (zao.ge HI0.out)) | exact HB.out), by repeat (first | (with_reducible first | exact HK.out | apply zap.set_ | apply zbc | apply zbi | apply zbd) | exact HK.out)⟩
end Go.Proofs.Ytickdcegnlldjaa.PB
namespace Go.Proofs.Ytickdcegnlldjaa.PB
open Go.RowKit Go.PW.PrintWords Go.PW.PrintLast Go.PW.PrintMore
attribute [local go_sem] zbw zbu zcb zca zbm zbl zbv zbt   -- for this text's walks alone
mutual
def impl_floor_walls.l0 : Nat → List (S72) → List Bool → Int → Int → List (List Int) → List (S120) → Option ((List (S72)))
 | 0, _, _, _, _, _, _ => none
 | k + 1, x3, x12, x13, x14, x1000, x1001 => if x14 < x13 then (if 0 ≤ x14 then (if x14 < (x12.length : Int) then ((impl_floor_wide.f x1000 x1001).bind fun t339 => ((impl_floor_high.f x1000 x1001).bind fun t340 => (if rdOf false x12 x14 = true then (impl_floor_walls.j1 k x3 (rdOf false x12 x14) t340 t339 x12 x13 x14 x1000 x1001) else (impl_floor_walls.j1 k x3 (rdOf false x12 x14) t339 t340 x12 x13 x14 x1000 x1001)))) else (none)) else (none)) else (some x3)
def impl_floor_walls.j1 : Nat → List (S72) → Bool → Int → Int → List Bool → Int → Int → List (List Int) → List (S120) → Option ((List (S72)))
 | 0, _, _, _, _, _, _, _, _, _ => none
 | k + 1, x3, x5, x6, x7, x12, x13, x14, x1000, x1001 => impl_floor_walls.l1 k x3 x5 x6 x7 1 x12 x13 x14 x1000 x1001
def impl_floor_walls.l1 : Nat → List (S72) → Bool → Int → Int → Int → List Bool → Int → Int → List (List Int) → List (S120) → Option ((List (S72)))
 | 0, _, _, _, _, _, _, _, _, _, _ => none
 | k + 1, x3, x5, x6, x7, x8, x12, x13, x14, x1000, x1001 => if x8 < x6 then (impl_floor_walls.l2 k x3 x5 x6 x7 x8 false x12 x13 x14 x7 0 x1000 x1001) else (impl_floor_walls.l0 k x3 x12 x13 (wrap64 (x14 + 1)) x1000 x1001)
def impl_floor_walls.l2 : Nat → List (S72) → Bool → Int → Int → Int → Bool → List Bool → Int → Int → Int → Int → List (List Int) → List (S120) → Option ((List (S72)))
 | 0, _, _, _, _, _, _, _, _, _, _, _, _, _ => none
 | k + 1, x3, x5, x6, x7, x8, x9, x12, x13, x14, x30, x31, x1000, x1001 => if x31 < x30 then ((impl_floor_differ.f x1000 x1001 x5 x8 x31).bind fun t341 => (if t341 = true then (impl_floor_walls.j4 k x3 x5 x6 x7 x8 x31 t341 x12 x13 x14 x30 x31 x9 x1000 x1001) else (impl_floor_walls.j4 k x3 x5 x6 x7 x8 x31 t341 x12 x13 x14 x30 x31 false x1000 x1001))) else (impl_floor_walls.l1 k x3 x5 x6 x7 (wrap64 (x8 + 1)) x12 x13 x14 x1000 x1001)
def impl_floor_walls.j4 : Nat → List (S72) → Bool → Int → Int → Int → Int → Bool → List Bool → Int → Int → Int → Int → Bool → List (List Int) → List (S120) → Option ((List (S72)))
 | 0, _, _, _, _, _, _, _, _, _, _, _, _, _, _, _ => none
 | k + 1, x3, x5, x6, x7, x8, x10, x11, x12, x13, x14, x30, x31, x39, x1000, x1001 => if x39 = true then (if 0 ≤ (wrap64 ((x3.length : Int) - 1)) then (if (wrap64 ((x3.length : Int) - 1)) < (x3.length : Int) then (impl_floor_walls.l2 k (x3.set ((wrap64 ((x3.length : Int) - 1)) : Int).toNat (⟨(zbp x3 (wrap64 ((x3.length : Int) - 1))).f0, (zbp x3 (wrap64 ((x3.length : Int) - 1))).f1, (zbp x3 (wrap64 ((x3.length : Int) - 1))).f2, wrap64 (((zbp x3 (wrap64 ((x3.length : Int) - 1))).f3) + 1)⟩ : S72)) x5 x6 x7 x8 x11 x12 x13 x14 x30 (wrap64 (x31 + 1)) x1000 x1001) else (none)) else (none)) else (if x11 = true then (if x3.length < 4398046511104 then (impl_floor_walls.l2 k (x3 ++ [(⟨x5, x8, x10, 1⟩ : S72)]) x5 x6 x7 x8 x11 x12 x13 x14 x30 (wrap64 (x31 + 1)) x1000 x1001) else (none)) else (impl_floor_walls.l2 k x3 x5 x6 x7 x8 x11 x12 x13 x14 x30 (wrap64 (x31 + 1)) x1000 x1001))
end
def impl_floor_walls.f (k : Nat) (s0_0 : List (List Int)) (s0_1 : List (S120)) : Option ((List (S72))) := (some (([false, true] : List Bool) : List Bool)).bind fun y335 => (impl_floor_walls.l0 k ([] : List (S72)) y335 (y335.length : Int) 0 s0_0 s0_1)
set_option maxHeartbeats 8000000 in
set_option maxRecDepth 100000 in
theorem impl_floor_walls.calls (k : Nat) (g : Nat) (s0_0 : List (List Int)) (s0_1 : List (S120)) (r : List (S72)) (w0 w : World) (hI : zao w0 w g s0_0 s0_1) (hB : Below w0.heap.size w0 w) (h : impl_floor_walls.f k s0_0 s0_1 = some r) :
  Calls Try.prog 61 #[.pointer (some ⟨g, 0, none⟩)] w fun e w' => ∃ v0_ : Value, e = .returned (v0_) ∧ Kd.R k72 72 w' w.heap.size (fun _ => True) v0_ r ∧ zao w0 w' g s0_0 s0_1 ∧ Below w0.heap.size w0 w' ∧ zap w w' g none := by
 have hu72 := Try.underlying72
 have HI0 := zaa.mk hI
 have HK := zaa.mk (zap.refl w g none)
 have HL := zaa.mk hB.size
 clear hI
 have HW0 := zaa.mk hB.size
 have HB := zaa.mk hB
 clear hB
 have H : ((some (([false, true] : List Bool) : List Bool)).bind fun y335 => (impl_floor_walls.l0 k ([] : List (S72)) y335 (y335.length : Int) 0 s0_0 s0_1)) = some r := h
 clear h
 obtain ⟨y335, hy335⟩ : ∃ y_ : List Bool, y_ = (([false, true] : List Bool)) := ⟨_, rfl⟩
 replace H : (impl_floor_walls.l0 k ([] : List (S72)) y335 (y335.length : Int) 0 s0_0 s0_1) = some r := by first | (rw [hy335]; with_reducible exact H) | (have H2_ := (Option.bind_some _ _).symm.trans H; rw [hy335]; with_reducible exact H2_) | (have H2_ := (Option.bind_some _ _).symm.trans H; with_reducible exact H2_) | with_reducible exact H | (rw [hy335]; exact H) | exact H
 have Ny335 := zaa.mk hy335
 clear hy335
 have H' := zaa.mk H
 clear H
 go_enter Try.func61, Try.ntmps61
 go_wp2_with (first | ((with_reducible refine zaw (N := 12) rfl ?_); refine Kd.R_lit Kd.bool _ 4 ?hg (N := 12) ?hd (xs := ([false, true] : List Bool)) (inner := [.bool false, .bool true]) (ok := fun _ => True) (okp := fun _ => True) ?hr ?hp (fun _ hk => hk) trivial (Below.refl _ _) (Nat.le_refl _) (by simp) ?_; (case hd => rfl); (case hg => rfl); (case hr => first | (go_simp; done) | (go_simp; rfl)); (case hp => exact (Reps.one (show Kd.M Kd.bool _ _ _ false [.bool false] from rfl) (Reps.one (show Kd.M Kd.bool _ _ _ true [.bool true] from rfl) (Reps.none _ _)))); intro v336 w2 ho3 hb hg_ hnew_; clear hg_ hnew_; (first | rw [← Ny335.out] at ho3 | (simp only [Int.reduceToNat] at ho3; rw [← Ny335.out] at ho3)); have n0_ := zaa.mk (Kd.R_lower ho3 (keep_size (w := w) (g := g) (row := none) (by repeat (first | (with_reducible first | exact HK.out | apply zap.set_ | apply zbc | apply zbi | apply zbd) | exact HK.out)))); have n1_ := zaa.mk (zao.below (by repeat (first | (with_reducible first | exact HI0.out | apply zao.alloc | apply zao.drewN | apply zao.drew) | exact HI0.out)) hb); have n2_ := zaa.mk (zap.trans (by repeat (first | (with_reducible first | exact HK.out | apply zap.set_ | apply zbc | apply zbi | apply zbd) | exact HK.out)) (zap.of_below hb g none) (.inl rfl)); have n3_ := zaa.mk (zaf (by repeat (first | (with_reducible first | exact HB.out | apply zac | apply zab | apply zad | refine zam ?_ (zao.ge HI0.out)) | exact HB.out)) hb); clear HI0; clear HK; clear HB; have HO337 := n0_; have HI0 := n1_; have HK := n2_; have HB := n3_; clear n0_ n1_ n2_ n3_; clear hb ho3; obtain ⟨Ao4, co4, eo4⟩ := Kd.R_slice HO337.out; subst eo4))
 go_loopg [3, 14] k (fun kq v3 v14 w' => ∃ (x3_1 : List (S72)) (x14_1 : Int), v14 = .int .i64 x14_1 ∧ zaa (impl_floor_walls.l0 kq x3_1 y335 (y335.length : Int) x14_1 s0_0 s0_1 = some r) ∧ zaa (kq ≤ k) ∧ zaa (Kd.R k72 72 w' w.heap.size (fun _ => True) v3 x3_1) ∧ zaa (Kd.R Kd.bool 4 w' w.heap.size (fun _ => True) (.slice Ao4 y335.length co4) y335) ∧ zaa (zao w0 w' g s0_0 s0_1) ∧ zaa (zap w w' g none) ∧ zaa (Below w0.heap.size w0 w'))
 case atStart => exact ⟨(([] : List (S72))), (0), (by first | rfl | (simp; done) | (simp [*]; done)), H', ⟨Nat.le_refl _⟩, ⟨by first | exact Kd.R_nil _ _ _ _ _ | exact Kd.N_nil _ _ _ _ _ | exact Kd.V_nil _ _ _ _ _ | exact Kd.Q_nil _ _ _ _ _ | exact Kd.S_nil _ _ _ _ _⟩, ⟨by (with_reducible repeat (first | apply Kd.R_alloc | apply Kd.R_drewN | apply Kd.R_drew)); exact HO337.out⟩, ⟨by repeat (first | (with_reducible first | exact HI0.out | apply zao.alloc | apply zao.drewN | apply zao.drew) | exact HI0.out)⟩, ⟨by repeat (first | (with_reducible first | exact HK.out | apply zap.set_ | apply zbc | apply zbi | apply zbd) | exact HK.out)⟩, ⟨by repeat (first | (with_reducible first | exact HB.out | apply zac | apply zab | apply zad | refine zam ?_ (zao.ge HI0.out)) | exact HB.out)⟩⟩
 case round =>
  clear H'
  try clear p2
  obtain ⟨x3_1, x14_1, rfl, HA, HK1, HO_3, HO_12, HI0, HK, HB⟩ := hrel
  cases gk with
  | zero => exact absurd HA.out (by simp [impl_floor_walls.l0])
  | succ k1 =>
   have H := HA.out
   clear HA
   simp only [impl_floor_walls.l0] at H
   by_cases c5 : x14_1 < (y335.length : Int)
   ·rw [if_pos c5] at H
    have c5b0 : decide (x14_1 < (y335.length : Int)) = true := decide_eq_true c5
    clear c5
    by_cases c6 : 0 ≤ x14_1
    ·rw [if_pos c6] at H
     have c6b0 : decide (0 ≤ x14_1) = true := decide_eq_true c6
     clear c6
     by_cases c7 : x14_1 < (y335.length : Int)
     ·rw [if_pos c7] at H
      have c7b0 : decide (x14_1 < (y335.length : Int)) = true := decide_eq_true c7
      clear c7
      replace H := Option.bind_eq_some_iff.mp H
      obtain ⟨t339, A80, H⟩ := H
      replace H : ((impl_floor_high.f s0_0 s0_1).bind fun t340 => (if rdOf false y335 x14_1 = true then (impl_floor_walls.j1 k1 x3_1 (rdOf false y335 x14_1) t340 t339 y335 (y335.length : Int) x14_1 s0_0 s0_1) else (impl_floor_walls.j1 k1 x3_1 (rdOf false y335 x14_1) t339 t340 y335 (y335.length : Int) x14_1 s0_0 s0_1))) = some r := H
      have A8 := zaa.mk A80
      clear A80
      replace H := Option.bind_eq_some_iff.mp H
      obtain ⟨t340, A90, H⟩ := H
      replace H : (if rdOf false y335 x14_1 = true then (impl_floor_walls.j1 k1 x3_1 (rdOf false y335 x14_1) t340 t339 y335 (y335.length : Int) x14_1 s0_0 s0_1) else (impl_floor_walls.j1 k1 x3_1 (rdOf false y335 x14_1) t339 t340 y335 (y335.length : Int) x14_1 s0_0 s0_1)) = some r := H
      have A9 := zaa.mk A90
      clear A90
      have HC10 := zaa.mk H
      clear H
      have p338 : 0 ≤ (x14_1 : Int) := of_decide_eq_true (by first | (with_reducible assumption) | assumption)
      have q338 : x14_1 < (y335.length : Int) := of_decide_eq_true (by first | (with_reducible assumption) | assumption)
      obtain ⟨ad338, e338, hx338_0⟩ := Kd.at_bool (Kd.R_reads' HO_12.out).2.2 x14_1 p338 q338
      cases e338
      replace p338 := eq_true p338
      replace q338 := eq_true q338
      go_upto_if 22 with (first | ((with_reducible refine zav (f := 51) rfl ?_); refine zby (some 19) rfl rfl Try.func51 (by kernel_rfl) rfl #[.pointer (some ⟨g, 0, none⟩)] rfl (by (try simp only [List.map_toArray, List.map_cons, List.map_nil]); first | done | rfl | (simp only [List.length_drop, List.length_take]; rfl)) ?_; (with_reducible refine (impl_floor_wide.calls g s0_0 s0_1 t339 w0 _ ?side1 ?side2 A8.out).mono ?_); (case side1 => repeat (first | (with_reducible first | exact HI0.out | apply zao.alloc | apply zao.drewN | apply zao.drew) | exact HI0.out)); (case side2 => repeat (first | (with_reducible first | exact HB.out | apply zac | apply zab | apply zad | refine zam ?_ (zao.ge HI0.out)) | exact HB.out)); rintro e w11 ⟨rfl, hi, hb, hk⟩; refine ⟨_, rfl, ?_⟩; have n0_ := zaa.mk (Kd.R_mono (Kd.R_keep (zao.apart (show zao w0 _ g s0_0 s0_1 from by repeat (first | (with_reducible first | exact HI0.out | apply zao.alloc | apply zao.drewN | apply zao.drew) | exact HI0.out)) (by (with_reducible repeat (first | apply Kd.R_alloc | apply Kd.R_drewN | apply Kd.R_drew)); exact HO_3.out) (by decide)) hk (fun _ h => h.2)) (fun _ h => h.1)); have n1_ := zaa.mk (Kd.R_mono (Kd.R_keep (zao.apart (show zao w0 _ g s0_0 s0_1 from by repeat (first | (with_reducible first | exact HI0.out | apply zao.alloc | apply zao.drewN | apply zao.drew) | exact HI0.out)) (by (with_reducible repeat (first | apply Kd.R_alloc | apply Kd.R_drewN | apply Kd.R_drew)); exact HO_12.out) (by decide)) hk (fun _ h => h.2)) (fun _ h => h.1)); have n2_ := zaa.mk (zap.trans (by repeat (first | (with_reducible first | exact HK.out | apply zap.set_ | apply zbc | apply zbi | apply zbd) | exact HK.out)) hk (.inl rfl)); have n3_ := zaa.mk (hb); have n4_ := zaa.mk (hi); clear HO_3; clear HO_12; clear HK; clear HB; clear HI0; have HO_3 := n0_; have HO_12 := n1_; have HK := n2_; have HB := n3_; have HI0 := n4_; clear n0_ n1_ n2_ n3_ n4_; (try clear hb); (try clear hb2); (try clear hk); (try clear hi)) | ((with_reducible refine zav (f := 52) rfl ?_); refine zby (some 21) rfl rfl Try.func52 (by kernel_rfl) rfl #[.pointer (some ⟨g, 0, none⟩)] rfl (by (try simp only [List.map_toArray, List.map_cons, List.map_nil]); first | done | rfl | (simp only [List.length_drop, List.length_take]; rfl)) ?_; (with_reducible refine (impl_floor_high.calls g s0_0 s0_1 t340 w0 _ ?side1 ?side2 A9.out).mono ?_); (case side1 => repeat (first | (with_reducible first | exact HI0.out | apply zao.alloc | apply zao.drewN | apply zao.drew) | exact HI0.out)); (case side2 => repeat (first | (with_reducible first | exact HB.out | apply zac | apply zab | apply zad | refine zam ?_ (zao.ge HI0.out)) | exact HB.out)); rintro e w12 ⟨rfl, hi, hb, hk⟩; refine ⟨_, rfl, ?_⟩; have n0_ := zaa.mk (Kd.R_mono (Kd.R_keep (zao.apart (show zao w0 _ g s0_0 s0_1 from by repeat (first | (with_reducible first | exact HI0.out | apply zao.alloc | apply zao.drewN | apply zao.drew) | exact HI0.out)) (by (with_reducible repeat (first | apply Kd.R_alloc | apply Kd.R_drewN | apply Kd.R_drew)); exact HO_3.out) (by decide)) hk (fun _ h => h.2)) (fun _ h => h.1)); have n1_ := zaa.mk (Kd.R_mono (Kd.R_keep (zao.apart (show zao w0 _ g s0_0 s0_1 from by repeat (first | (with_reducible first | exact HI0.out | apply zao.alloc | apply zao.drewN | apply zao.drew) | exact HI0.out)) (by (with_reducible repeat (first | apply Kd.R_alloc | apply Kd.R_drewN | apply Kd.R_drew)); exact HO_12.out) (by decide)) hk (fun _ h => h.2)) (fun _ h => h.1)); have n2_ := zaa.mk (zap.trans (by repeat (first | (with_reducible first | exact HK.out | apply zap.set_ | apply zbc | apply zbi | apply zbd) | exact HK.out)) hk (.inl rfl)); have n3_ := zaa.mk (hb); have n4_ := zaa.mk (hi); clear HO_3; clear HO_12; clear HK; clear HB; clear HI0; have HO_3 := n0_; have HO_12 := n1_; have HK := n2_; have HB := n3_; have HI0 := n4_; clear n0_ n1_ n2_ n3_ n4_; (try clear hb); (try clear hb2); (try clear hk); (try clear hi)))
      (try simp only [Act.put, List.setIfInBounds_toArray, List.set_cons_zero, List.set_cons_succ])
      obtain ⟨lv_, hlv_⟩ : ∃ b_ : Bool, b_ = (rdOf false y335 x14_1) := ⟨_, rfl⟩
      rw [← hlv_]
      have Hlv_ := zaa.mk hlv_
      clear hlv_
      go_cut [6, 7] (fun v6 v7 wc => ∃ (kq : Nat) (x6_9 : Int) (x7_9 : Int), v6 = .int .i64 x6_9 ∧ v7 = .int .i64 x7_9 ∧ zaa (impl_floor_walls.j1 kq x3_1 lv_ x6_9 x7_9 y335 (y335.length : Int) x14_1 s0_0 s0_1 = some r) ∧ zaa (kq ≤ k1) ∧ zaa (Kd.R k72 72 wc w.heap.size (fun _ => True) u3 x3_1) ∧ zaa (Kd.R Kd.bool 4 wc w.heap.size (fun _ => True) (.slice (some ad338) y335.length co4) y335) ∧ zaa (zao w0 wc g s0_0 s0_1) ∧ zaa (zap w wc g none) ∧ zaa (Below w0.heap.size w0 wc))
      case first =>
       have H := HC10.out
       clear HC10
       obtain ⟨bq13, hbq13⟩ : ∃ b_ : Bool, b_ = (rdOf false y335 x14_1) := ⟨_, rfl⟩
       replace H : (if bq13 = true then (impl_floor_walls.j1 k1 x3_1 bq13 t340 t339 y335 (y335.length : Int) x14_1 s0_0 s0_1) else (impl_floor_walls.j1 k1 x3_1 bq13 t339 t340 y335 (y335.length : Int) x14_1 s0_0 s0_1)) = some r := by rw [← hbq13] at H; exact H
       have Nbq13 := zaa.mk hbq13
       clear hbq13
       obtain rfl : bq13 = lv_ := Nbq13.out.trans Hlv_.out.symm
       by_cases c14 : bq13 = true
       ·subst c14
        have H1 : (impl_floor_walls.j1 k1 x3_1 true t340 t339 y335 (y335.length : Int) x14_1 s0_0 s0_1) = some r := by rw [if_pos rfl] at H; exact H
        clear H
        have H := H1
        clear H1
        have H' := zaa.mk H
        clear H
        go_wp2
        go_meet
        case rel => exact ⟨_, (t340), (t339), (by first | rfl | (simp; done) | (simp [*]; done)), (by first | rfl | (simp; done) | (simp [*]; done)), H', ⟨by have := HK1.out; first | omega | exact Nat.le_refl _⟩, ⟨by (with_reducible repeat (first | apply Kd.R_alloc | apply Kd.R_drewN | apply Kd.R_drew)); exact HO_3.out⟩, ⟨by (with_reducible repeat (first | apply Kd.R_alloc | apply Kd.R_drewN | apply Kd.R_drew)); exact HO_12.out⟩, ⟨by repeat (first | (with_reducible first | exact HI0.out | apply zao.alloc | apply zao.drewN | apply zao.drew) | exact HI0.out)⟩, ⟨by repeat (first | (with_reducible first | exact HK.out | apply zap.set_ | apply zbc | apply zbi | apply zbd) | exact HK.out)⟩, ⟨by repeat (first | (with_reducible first | exact HB.out | apply zac | apply zab | apply zad | refine zam ?_ (zao.ge HI0.out)) | exact HB.out)⟩⟩
       ·replace c14 := Bool.eq_false_iff.mpr c14
        subst c14
        have H1 : (impl_floor_walls.j1 k1 x3_1 false t339 t340 y335 (y335.length : Int) x14_1 s0_0 s0_1) = some r := by rw [if_neg (show ¬ (false = true) by decide)] at H; exact H
        clear H
        have H := H1
        clear H1
        have H' := zaa.mk H
        clear H
        go_wp2
        go_meet
        case rel => exact ⟨_, (t339), (t340), (by first | rfl | (simp; done) | (simp [*]; done)), (by first | rfl | (simp; done) | (simp [*]; done)), H', ⟨by have := HK1.out; first | omega | exact Nat.le_refl _⟩, ⟨by (with_reducible repeat (first | apply Kd.R_alloc | apply Kd.R_drewN | apply Kd.R_drew)); exact HO_3.out⟩, ⟨by (with_reducible repeat (first | apply Kd.R_alloc | apply Kd.R_drewN | apply Kd.R_drew)); exact HO_12.out⟩, ⟨by repeat (first | (with_reducible first | exact HI0.out | apply zao.alloc | apply zao.drewN | apply zao.drew) | exact HI0.out)⟩, ⟨by repeat (first | (with_reducible first | exact HK.out | apply zap.set_ | apply zbc | apply zbi | apply zbd) | exact HK.out)⟩, ⟨by repeat (first | (with_reducible first | exact HB.out | apply zac | apply zab | apply zad | refine zam ?_ (zao.ge HI0.out)) | exact HB.out)⟩⟩
      case rest =>
       have hlv_ := Hlv_.out
       clear Hlv_
       subst hlv_
       clear HC10
       try clear c1
       try clear q1
       try clear p2
       try clear p3
       try clear q3
       try clear hx3
       try clear c5
       try clear c5b0
       try clear c6
       try clear c6b0
       try clear c7
       try clear c7b0
       try clear q13
       try clear c14
       try clear hx338_0
       try clear p2
       try clear p338
       try clear q338
       obtain ⟨kq, x6_9, x7_9, rfl, rfl, HA, HJ9, HO_3, HO_12, HI0, HK, HB⟩ := hcut
       cases kq with
       | zero => exact absurd HA.out (by simp [impl_floor_walls.j1])
       | succ kj9 =>
        have H := HA.out
        clear HA
        simp only [impl_floor_walls.j1] at H
        have H' := zaa.mk H
        clear H
        go_wp2
        go_loopg [3, 8] kj9 (fun kq v3 v8 w' => ∃ (x3_3 : List (S72)) (x8_3 : Int), v8 = .int .i64 x8_3 ∧ zaa (impl_floor_walls.l1 kq x3_3 (rdOf false y335 x14_1) x6_9 x7_9 x8_3 y335 (y335.length : Int) x14_1 s0_0 s0_1 = some r) ∧ zaa (kq ≤ kj9) ∧ zaa (Kd.R k72 72 w' w.heap.size (fun _ => True) v3 x3_3) ∧ zaa (Kd.R Kd.bool 4 w' w.heap.size (fun _ => True) (.slice (some ad338) y335.length co4) y335) ∧ zaa (zao w0 w' g s0_0 s0_1) ∧ zaa (zap w w' g none) ∧ zaa (Below w0.heap.size w0 w'))
        case atStart => exact ⟨(x3_1), (1), (by first | rfl | (simp; done) | (simp [*]; done)), H', ⟨Nat.le_refl _⟩, ⟨by (with_reducible repeat (first | apply Kd.R_alloc | apply Kd.R_drewN | apply Kd.R_drew)); exact HO_3.out⟩, ⟨by (with_reducible repeat (first | apply Kd.R_alloc | apply Kd.R_drewN | apply Kd.R_drew)); exact HO_12.out⟩, ⟨by repeat (first | (with_reducible first | exact HI0.out | apply zao.alloc | apply zao.drewN | apply zao.drew) | exact HI0.out)⟩, ⟨by repeat (first | (with_reducible first | exact HK.out | apply zap.set_ | apply zbc | apply zbi | apply zbd) | exact HK.out)⟩, ⟨by repeat (first | (with_reducible first | exact HB.out | apply zac | apply zab | apply zad | refine zam ?_ (zao.ge HI0.out)) | exact HB.out)⟩⟩
        case round =>
         clear H'
         try clear c1
         try clear q1
         try clear p2
         try clear p3
         try clear q3
         try clear hx3
         try clear c5
         try clear c5b0
         try clear c6
         try clear c6b0
         try clear c7
         try clear c7b0
         try clear q13
         try clear c14
         try clear hx338_0
         try clear p2
         try clear p3
         try clear p338
         try clear q1
         try clear q13
         try clear q3
         try clear q338
         obtain ⟨x3_3, x8_3, rfl, HA, HK3, HO_3, HO_12, HI0, HK, HB⟩ := hrel
         cases gk with
         | zero => exact absurd HA.out (by simp [impl_floor_walls.l1])
         | succ k3 =>
          have H := HA.out
          clear HA
          simp only [impl_floor_walls.l1] at H
          by_cases c15 : x8_3 < x6_9
          ·rw [if_pos c15] at H
           have c15b0 : decide (x8_3 < x6_9) = true := decide_eq_true c15
           clear c15
           have H' := zaa.mk H
           clear H
           go_wp2
           go_loopg [3, 9, 31] k3 (fun kq v3 v9 v31 w' => ∃ (x3_4 : List (S72)) (x9_4 : Bool) (x31_4 : Int), v9 = .bool x9_4 ∧ v31 = .int .i64 x31_4 ∧ zaa (impl_floor_walls.l2 kq x3_4 (rdOf false y335 x14_1) x6_9 x7_9 x8_3 x9_4 y335 (y335.length : Int) x14_1 x7_9 x31_4 s0_0 s0_1 = some r) ∧ zaa (kq ≤ k3) ∧ zaa (Kd.R k72 72 w' w.heap.size (fun _ => True) v3 x3_4) ∧ zaa (Kd.R Kd.bool 4 w' w.heap.size (fun _ => True) (.slice (some ad338) y335.length co4) y335) ∧ zaa (zao w0 w' g s0_0 s0_1) ∧ zaa (zap w w' g none) ∧ zaa (Below w0.heap.size w0 w'))
           case atStart => exact ⟨(x3_3), (false), (0), (by first | rfl | (simp; done) | (simp [*]; done)), (by first | rfl | (simp; done) | (simp [*]; done)), H', ⟨Nat.le_refl _⟩, ⟨by (with_reducible repeat (first | apply Kd.R_alloc | apply Kd.R_drewN | apply Kd.R_drew)); exact HO_3.out⟩, ⟨by (with_reducible repeat (first | apply Kd.R_alloc | apply Kd.R_drewN | apply Kd.R_drew)); exact HO_12.out⟩, ⟨by repeat (first | (with_reducible first | exact HI0.out | apply zao.alloc | apply zao.drewN | apply zao.drew) | exact HI0.out)⟩, ⟨by repeat (first | (with_reducible first | exact HK.out | apply zap.set_ | apply zbc | apply zbi | apply zbd) | exact HK.out)⟩, ⟨by repeat (first | (with_reducible first | exact HB.out | apply zac | apply zab | apply zad | refine zam ?_ (zao.ge HI0.out)) | exact HB.out)⟩⟩
           case round =>
            clear H'
            try clear c1
            try clear q1
            try clear p2
            try clear p3
            try clear q3
            try clear hx3
            try clear c5
            try clear c5b0
            try clear c6
            try clear c6b0
            try clear c7
            try clear c7b0
            try clear q13
            try clear c14
            try clear c15
            try clear c15b0
            try clear hx338_0
            try clear p2
            try clear p3
            try clear p338
            try clear q1
            try clear q13
            try clear q3
            try clear q338
            obtain ⟨x3_4, x9_4, x31_4, rfl, rfl, HA, HK4, HO_3, HO_12, HI0, HK, HB⟩ := hrel
            cases gk with
            | zero => exact absurd HA.out (by simp [impl_floor_walls.l2])
            | succ k4 =>
             have H := HA.out
             clear HA
             simp only [impl_floor_walls.l2] at H
             by_cases c16 : x31_4 < x7_9
             ·rw [if_pos c16] at H
              have c16b0 : decide (x31_4 < x7_9) = true := decide_eq_true c16
              clear c16
              replace H := Option.bind_eq_some_iff.mp H
              obtain ⟨t341, A170, H⟩ := H
              replace H : (if t341 = true then (impl_floor_walls.j4 k4 x3_4 (rdOf false y335 x14_1) x6_9 x7_9 x8_3 x31_4 t341 y335 (y335.length : Int) x14_1 x7_9 x31_4 x9_4 s0_0 s0_1) else (impl_floor_walls.j4 k4 x3_4 (rdOf false y335 x14_1) x6_9 x7_9 x8_3 x31_4 t341 y335 (y335.length : Int) x14_1 x7_9 x31_4 false s0_0 s0_1)) = some r := H
              have A17 := zaa.mk A170
              clear A170
              have HC18 := zaa.mk H
              clear H
              go_upto_region 16 with (first | ((with_reducible refine zav (f := 96) rfl ?_); refine zby (some 38) rfl rfl Try.func96 (by kernel_rfl) rfl #[.pointer (some ⟨g, 0, none⟩), .bool (rdOf false y335 x14_1), .int .i64 x8_3, .int .i64 x31_4] rfl (by (try simp only [List.map_toArray, List.map_cons, List.map_nil]); first | done | rfl | (simp only [List.length_drop, List.length_take]; rfl)) ?_; (with_reducible refine (impl_floor_differ.calls g s0_0 s0_1 (rdOf false y335 x14_1) x8_3 x31_4 t341 w0 _ ?side1 ?side2 A17.out).mono ?_); (case side1 => repeat (first | (with_reducible first | exact HI0.out | apply zao.alloc | apply zao.drewN | apply zao.drew) | exact HI0.out)); (case side2 => repeat (first | (with_reducible first | exact HB.out | apply zac | apply zab | apply zad | refine zam ?_ (zao.ge HI0.out)) | exact HB.out)); rintro e w19 ⟨rfl, hi, hb, hk⟩; refine ⟨_, rfl, ?_⟩; have n0_ := zaa.mk (Kd.R_mono (Kd.R_keep (zao.apart (show zao w0 _ g s0_0 s0_1 from by repeat (first | (with_reducible first | exact HI0.out | apply zao.alloc | apply zao.drewN | apply zao.drew) | exact HI0.out)) (by (with_reducible repeat (first | apply Kd.R_alloc | apply Kd.R_drewN | apply Kd.R_drew)); exact HO_3.out) (by decide)) hk (fun _ h => h.2)) (fun _ h => h.1)); have n1_ := zaa.mk (Kd.R_mono (Kd.R_keep (zao.apart (show zao w0 _ g s0_0 s0_1 from by repeat (first | (with_reducible first | exact HI0.out | apply zao.alloc | apply zao.drewN | apply zao.drew) | exact HI0.out)) (by (with_reducible repeat (first | apply Kd.R_alloc | apply Kd.R_drewN | apply Kd.R_drew)); exact HO_12.out) (by decide)) hk (fun _ h => h.2)) (fun _ h => h.1)); have n2_ := zaa.mk (zap.trans (by repeat (first | (with_reducible first | exact HK.out | apply zap.set_ | apply zbc | apply zbi | apply zbd) | exact HK.out)) hk (.inl rfl)); have n3_ := zaa.mk (hb); have n4_ := zaa.mk (hi); clear HO_3; clear HO_12; clear HK; clear HB; clear HI0; have HO_3 := n0_; have HO_12 := n1_; have HK := n2_; have HB := n3_; have HI0 := n4_; clear n0_ n1_ n2_ n3_ n4_; (try clear hb); (try clear hb2); (try clear hk); (try clear hi)))
              (try simp only [Act.put, List.setIfInBounds_toArray, List.set_cons_zero, List.set_cons_succ])
              go_cut [39] (fun v39 wc => ∃ (kq : Nat) (x39_17 : Bool), v39 = .bool x39_17 ∧ zaa (impl_floor_walls.j4 kq x3_4 (rdOf false y335 x14_1) x6_9 x7_9 x8_3 x31_4 t341 y335 (y335.length : Int) x14_1 x7_9 x31_4 x39_17 s0_0 s0_1 = some r) ∧ zaa (kq ≤ k4) ∧ zaa (Kd.R k72 72 wc w.heap.size (fun _ => True) u3 x3_4) ∧ zaa (Kd.R Kd.bool 4 wc w.heap.size (fun _ => True) (.slice (some ad338) y335.length co4) y335) ∧ zaa (zao w0 wc g s0_0 s0_1) ∧ zaa (zap w wc g none) ∧ zaa (Below w0.heap.size w0 wc))
              case first =>
               have H := HC18.out
               clear HC18
               by_cases c20 : t341 = true
               ·subst c20
                have H1 : (impl_floor_walls.j4 k4 x3_4 (rdOf false y335 x14_1) x6_9 x7_9 x8_3 x31_4 true y335 (y335.length : Int) x14_1 x7_9 x31_4 x9_4 s0_0 s0_1) = some r := by rw [if_pos rfl] at H; exact H
                clear H
                have H := H1
                clear H1
                have H' := zaa.mk H
                clear H
                go_wp2
                go_meet
                case rel => exact ⟨_, (x9_4), (by first | rfl | (simp; done) | (simp [*]; done)), H', ⟨by have := HK1.out; have := HJ9.out; have := HK3.out; have := HK4.out; first | omega | exact Nat.le_refl _⟩, ⟨by (with_reducible repeat (first | apply Kd.R_alloc | apply Kd.R_drewN | apply Kd.R_drew)); exact HO_3.out⟩, ⟨by (with_reducible repeat (first | apply Kd.R_alloc | apply Kd.R_drewN | apply Kd.R_drew)); exact HO_12.out⟩, ⟨by repeat (first | (with_reducible first | exact HI0.out | apply zao.alloc | apply zao.drewN | apply zao.drew) | exact HI0.out)⟩, ⟨by repeat (first | (with_reducible first | exact HK.out | apply zap.set_ | apply zbc | apply zbi | apply zbd) | exact HK.out)⟩, ⟨by repeat (first | (with_reducible first | exact HB.out | apply zac | apply zab | apply zad | refine zam ?_ (zao.ge HI0.out)) | exact HB.out)⟩⟩
               ·replace c20 := Bool.eq_false_iff.mpr c20
                subst c20
                have H1 : (impl_floor_walls.j4 k4 x3_4 (rdOf false y335 x14_1) x6_9 x7_9 x8_3 x31_4 false y335 (y335.length : Int) x14_1 x7_9 x31_4 false s0_0 s0_1) = some r := by rw [if_neg (show ¬ (false = true) by decide)] at H; exact H
                clear H
                have H := H1
                clear H1
                have H' := zaa.mk H
                clear H
                go_wp2
                go_meet
                case rel => exact ⟨_, (false), (by first | rfl | (simp; done) | (simp [*]; done)), H', ⟨by have := HK1.out; have := HJ9.out; have := HK3.out; have := HK4.out; first | omega | exact Nat.le_refl _⟩, ⟨by (with_reducible repeat (first | apply Kd.R_alloc | apply Kd.R_drewN | apply Kd.R_drew)); exact HO_3.out⟩, ⟨by (with_reducible repeat (first | apply Kd.R_alloc | apply Kd.R_drewN | apply Kd.R_drew)); exact HO_12.out⟩, ⟨by repeat (first | (with_reducible first | exact HI0.out | apply zao.alloc | apply zao.drewN | apply zao.drew) | exact HI0.out)⟩, ⟨by repeat (first | (with_reducible first | exact HK.out | apply zap.set_ | apply zbc | apply zbi | apply zbd) | exact HK.out)⟩, ⟨by repeat (first | (with_reducible first | exact HB.out | apply zac | apply zab | apply zad | refine zam ?_ (zao.ge HI0.out)) | exact HB.out)⟩⟩
              case rest =>
               clear HC18
               try clear c1
               try clear q1
               try clear c2
               try clear p2
               try clear p3
               try clear q3
               try clear hx3
               try clear c5
               try clear c5b0
               try clear c6
               try clear c6b0
               try clear c7
               try clear c7b0
               try clear c9
               try clear q13
               try clear c14
               try clear c15
               try clear c15b0
               try clear c16
               try clear c16b0
               try clear c20
               try clear hx338_0
               try clear p2
               try clear p3
               try clear p338
               try clear q1
               try clear q13
               try clear q3
               try clear q338
               obtain ⟨kq, x39_17, rfl, HA, HJ17, HO_3, HO_12, HI0, HK, HB⟩ := hcut
               cases kq with
               | zero => exact absurd HA.out (by simp [impl_floor_walls.j4])
               | succ kj17 =>
                have H := HA.out
                clear HA
                simp only [impl_floor_walls.j4] at H
                by_cases c21 : x39_17 = true
                ·subst c21
                 have H1 : (if 0 ≤ (wrap64 ((x3_4.length : Int) - 1)) then (if (wrap64 ((x3_4.length : Int) - 1)) < (x3_4.length : Int) then (impl_floor_walls.l2 kj17 (x3_4.set ((wrap64 ((x3_4.length : Int) - 1)) : Int).toNat (⟨(zbp x3_4 (wrap64 ((x3_4.length : Int) - 1))).f0, (zbp x3_4 (wrap64 ((x3_4.length : Int) - 1))).f1, (zbp x3_4 (wrap64 ((x3_4.length : Int) - 1))).f2, wrap64 (((zbp x3_4 (wrap64 ((x3_4.length : Int) - 1))).f3) + 1)⟩ : S72)) (rdOf false y335 x14_1) x6_9 x7_9 x8_3 t341 y335 (y335.length : Int) x14_1 x7_9 (wrap64 (x31_4 + 1)) s0_0 s0_1) else (none)) else (none)) = some r := by rw [if_pos rfl] at H; exact H
                 clear H
                 have H := H1
                 clear H1
                 obtain ⟨ji22, hji22⟩ : ∃ j_ : Int, (wrap64 ((x3_4.length : Int) - 1)) = j_ := ⟨_, rfl⟩
                 replace H : (if 0 ≤ (ji22) then (if (ji22) < (x3_4.length : Int) then (impl_floor_walls.l2 kj17 (x3_4.set ((ji22) : Int).toNat (⟨(zbp x3_4 (ji22)).f0, (zbp x3_4 (ji22)).f1, (zbp x3_4 (ji22)).f2, wrap64 (((zbp x3_4 (ji22)).f3) + 1)⟩ : S72)) (rdOf false y335 x14_1) x6_9 x7_9 x8_3 t341 y335 (y335.length : Int) x14_1 x7_9 (wrap64 (x31_4 + 1)) s0_0 s0_1) else (none)) else (none)) = some r := by first | (rw [hji22] at H; exact H) | (simp only [hji22] at H ⊢; exact H)
                 have hji22w : (IntKind.i64.wrap ((x3_4.length : Int) - 1)) = ji22 := (zas _).trans hji22
                 by_cases c23 : 0 ≤ (ji22)
                 ·rw [if_pos c23] at H
                  have c23b0 : decide (0 ≤ (ji22)) = true := decide_eq_true c23
                  clear c23
                  by_cases c24 : (ji22) < (x3_4.length : Int)
                  ·rw [if_pos c24] at H
                   have c24b0 : decide ((ji22) < (x3_4.length : Int)) = true := decide_eq_true c24
                   clear c24
                   obtain ⟨y343, hy343⟩ : ∃ y_ : List (S72), y_ = (x3_4.set ((ji22) : Int).toNat (⟨(zbp x3_4 (ji22)).f0, (zbp x3_4 (ji22)).f1, (zbp x3_4 (ji22)).f2, wrap64 (((zbp x3_4 (ji22)).f3) + 1)⟩ : S72)) := ⟨_, rfl⟩
                   replace H : (impl_floor_walls.l2 kj17 y343 (rdOf false y335 x14_1) x6_9 x7_9 x8_3 t341 y335 (y335.length : Int) x14_1 x7_9 (wrap64 (x31_4 + 1)) s0_0 s0_1) = some r := by first | (rw [hy343]; with_reducible exact H) | (have H2_ := (Option.bind_some _ _).symm.trans H; rw [hy343]; with_reducible exact H2_) | (have H2_ := (Option.bind_some _ _).symm.trans H; with_reducible exact H2_) | with_reducible exact H | (rw [hy343]; exact H) | exact H
                   have Ny343 := zaa.mk hy343
                   clear hy343
                   have H' := zaa.mk H
                   clear H
                   obtain ⟨Ao26, co26, eo26⟩ := Kd.R_slice HO_3.out
                   subst eo26
                   have p342 : 0 ≤ ((ji22) : Int) := of_decide_eq_true (by first | (with_reducible assumption) | assumption)
                   have q342 : (ji22) < (x3_4.length : Int) := of_decide_eq_true (by first | (with_reducible assumption) | assumption)
                   obtain ⟨ad342, e342, hx342_0, hx342_1, hx342_2, hx342_3⟩ := at_T72 (Kd.R_reads' HO_3.out).2.2 (ji22) p342 q342
                   cases e342
                   replace p342 := eq_true p342
                   replace q342 := eq_true q342
                   have p25 : 0 ≤ ((ji22) : Int) := of_decide_eq_true (by first | (with_reducible assumption) | assumption)
                   have q25 : ((ji22) : Int) < ((x3_4.length : Int) : Int) := of_decide_eq_true (by first | (with_reducible assumption) | assumption)
                   obtain ⟨go25, co25, eo25, gb25, gl25, cl25, HG25⟩ := Kd.R_form HO_3.out (by omega)
                   (first | cases eo25 | (injection eo25 with ea_ en_ ec_; (first | subst ea_ | (injection ea_ with ea_; subst ea_)); subst ec_; clear en_))
                   have GB25 := zaa.mk gb25
                   have GG25 := zaa.mk HG25
                   clear gb25 gl25 HG25
                   (first | simp only [add_plain] at hx342_0 | skip)
                   (first | simp only [add_plain] at hx342_1 | skip)
                   (first | simp only [add_plain] at hx342_2 | skip)
                   (first | simp only [add_plain] at hx342_3 | skip)
                   obtain ⟨ce25, hcl25, hM25, hcc25, hfr25⟩ := Kd.R_elem HO_3.out z72 ((ji22) : Int) p25 q25
                   obtain rfl := k72_openM hM25
                   have hx25_0 : wc.cell? ⟨go25, ((ji22) : Int).toNat * 4, none⟩ = some (.bool ((zbp x3_4 (ji22)).f0)) := hcc25 0 _ rfl
                   have hx25_1 : wc.cell? ⟨go25, ((ji22) : Int).toNat * 4 + 1, none⟩ = some (.int .i64 ((zbp x3_4 (ji22)).f1)) := hcc25 1 _ rfl
                   have hx25_2 : wc.cell? ⟨go25, ((ji22) : Int).toNat * 4 + 2, none⟩ = some (.int .i64 ((zbp x3_4 (ji22)).f2)) := hcc25 2 _ rfl
                   have hx25_3 : wc.cell? ⟨go25, ((ji22) : Int).toNat * 4 + 3, none⟩ = some (.int .i64 ((zbp x3_4 (ji22)).f3)) := hcc25 3 _ rfl
                   have hf25_0 : wc.frozen? ⟨go25, ((ji22) : Int).toNat * 4, none⟩ = false := hfr25 0
                   have hf25_1 : wc.frozen? ⟨go25, ((ji22) : Int).toNat * 4 + 1, none⟩ = false := hfr25 1
                   have hf25_2 : wc.frozen? ⟨go25, ((ji22) : Int).toNat * 4 + 2, none⟩ = false := hfr25 2
                   have hf25_3 : wc.frozen? ⟨go25, ((ji22) : Int).toNat * 4 + 3, none⟩ = false := hfr25 3
                   clear hcl25 hcc25 hfr25 hM25
                   replace p25 := eq_true p25
                   replace q25 := eq_true q25
                   have HX27 := zaa.mk (show Kd.R k72 72 wc w.heap.size (fun _ => True) (.slice (some ⟨go25, 0, none⟩) x3_4.length co26) x3_4 from (by (with_reducible repeat (first | apply Kd.R_alloc | apply Kd.R_drewN | apply Kd.R_drew)); exact HO_3.out))
                   obtain ⟨ce27, hcl27, hM27, hcc27, hfr27⟩ := Kd.R_elem HX27.out z72 ((ji22) : Int) (of_decide_eq_true (by first | (with_reducible assumption) | assumption)) (by have h_ : ((ji22) : Int) < ((x3_4.length : Int) : Int) := of_decide_eq_true (by first | (with_reducible assumption) | assumption); first | exact h_ | (have e_ := (Kd.R_reads' HO_3.out).1; omega) | simpa using h_)
                   obtain rfl := k72_openM hM27
                   have HP27 := Kd.R_seg HX27.out ((ji22) : Int) (of_decide_eq_true (by first | (with_reducible assumption) | assumption)) (by have h_ : ((ji22) : Int) < ((x3_4.length : Int) : Int) := of_decide_eq_true (by first | (with_reducible assumption) | assumption); first | exact h_ | (have e_ := (Kd.R_reads' HO_3.out).1; omega) | simpa using h_) (seg := [.int .i64 (wrap64 (((zbp x3_4 (ji22)).f3) + 1))]) (j := 3) hcl27 hcc27 (show 4 ≤ 4 from by decide) (x' := (⟨(zbp x3_4 (ji22)).f0, (zbp x3_4 (ji22)).f1, (zbp x3_4 (ji22)).f2, wrap64 (((zbp x3_4 (ji22)).f3) + 1)⟩ : S72)) (k72_mkM _ _ _ (⟨(zbp x3_4 (ji22)).f0, (zbp x3_4 (ji22)).f1, (zbp x3_4 (ji22)).f2, wrap64 (((zbp x3_4 (ji22)).f3) + 1)⟩ : S72) ) (fun _ hk => hk)
                   have hx27_3 := hcc27 3 _ rfl
                   (try simp only [show (k72).sz = 4 from rfl, Nat.mul_one, Nat.add_zero] at hx27_3)
                   have hf27_3 := hfr27 3
                   (try simp only [show (k72).sz = 4 from rfl, Nat.mul_one, Nat.add_zero] at hf27_3)
                   clear hcl27 hcc27 hfr27 hM27
                   go_wp2_with (first | ((with_reducible refine gate_store (t := 3) (p := 53) rfl ?_); refine store_event (t := 3) (p := 53) (v := ?vo_w28) (w1 := (wc.setCell ⟨go25, ((ji22) : Int).toNat * 4 + 3, none⟩ (.int .i64 (wrap64 (((zbp x3_4 (ji22)).f3) + 1))))) ?hg ?ho ?hn ?hr ?_; (case ho => rfl); (case hg => rfl); (case hn => rfl); (case hr => first | (go_simp; done) | (go_simp; rfl)); intro w28 hw; have hg : wc.grownBy w28 (some go25) := (by rw [hw]; exact HP27.2); have hp_ : Kd.R k72 72 w28 w.heap.size (fun _ => True) (.slice (some ⟨go25, 0, none⟩) x3_4.length co26) y343 := (by rw [hw, Ny343.out]; exact HP27.1); clear HP27; have n0_ := zaa.mk (hp_); have n1_ := zaa.mk (Kd.R_over' (v := (.slice (some ⟨go25, 0, none⟩) x3_4.length co26)) (by (with_reducible repeat (first | apply Kd.R_alloc | apply Kd.R_drewN | apply Kd.R_drew)); exact HO_12.out) (Kd.R_typed HO_3.out) (by decide) hg); have n2_ := zaa.mk (zao.grown (by repeat (first | (with_reducible first | exact HI0.out | apply zao.alloc | apply zao.drewN | apply zao.drew) | exact HI0.out)) hg (zao.own_ne HI0.out HO_3.out (by decide))); have n3_ := zaa.mk ((by rw [hw]; exact zam (HB.out) (Nat.le_trans HL.out GB25.out) : Below w0.heap.size w0 w28)); have n4_ := zaa.mk (zap.trans (by repeat (first | (with_reducible first | exact HK.out | apply zap.set_ | apply zbc | apply zbi | apply zbd) | exact HK.out)) (zap.of_grown hg g) (Kd.R_base2 HO_3.out)); clear HO_3; clear HO_12; clear HI0; clear HB; clear HK; have HO_3 := n0_; have HO_12 := n1_; have HI0 := n2_; have HB := n3_; have HK := n4_; clear n0_ n1_ n2_ n3_ n4_; clear hg hw hp_))
                   go_roundg kj17
                   case measure => have := HK1.out; have := HJ9.out; have := HK3.out; have := HK4.out; have := HJ17.out; omega
                   case rel => exact ⟨(y343), (t341), (wrap64 (x31_4 + 1)), (by first | rfl | (simp; done) | (simp [*]; done)), (by first | rfl | (simp; done) | (simp [*]; done)), H', ⟨by have := HK1.out; have := HJ9.out; have := HK3.out; have := HK4.out; have := HJ17.out; omega⟩, ⟨by (with_reducible repeat (first | apply Kd.R_alloc | apply Kd.R_drewN | apply Kd.R_drew)); exact HO_3.out⟩, ⟨by (with_reducible repeat (first | apply Kd.R_alloc | apply Kd.R_drewN | apply Kd.R_drew)); exact HO_12.out⟩, ⟨by repeat (first | (with_reducible first | exact HI0.out | apply zao.alloc | apply zao.drewN | apply zao.drew) | exact HI0.out)⟩, ⟨by repeat (first | (with_reducible first | exact HK.out | apply zap.set_ | apply zbc | apply zbi | apply zbd) | exact HK.out)⟩, ⟨by repeat (first | (with_reducible first | exact HB.out | apply zac | apply zab | apply zad | refine zam ?_ (zao.ge HI0.out)) | exact HB.out)⟩⟩
                  ·rw [if_neg c24] at H
                   exact absurd H (by simp)
                 ·rw [if_neg c23] at H
                  exact absurd H (by simp)
                ·replace c21 := Bool.eq_false_iff.mpr c21
                 subst c21
                 have H1 : (if t341 = true then (if x3_4.length < 4398046511104 then (impl_floor_walls.l2 kj17 (x3_4 ++ [(⟨(rdOf false y335 x14_1), x8_3, x31_4, 1⟩ : S72)]) (rdOf false y335 x14_1) x6_9 x7_9 x8_3 t341 y335 (y335.length : Int) x14_1 x7_9 (wrap64 (x31_4 + 1)) s0_0 s0_1) else (none)) else (impl_floor_walls.l2 kj17 x3_4 (rdOf false y335 x14_1) x6_9 x7_9 x8_3 t341 y335 (y335.length : Int) x14_1 x7_9 (wrap64 (x31_4 + 1)) s0_0 s0_1)) = some r := by rw [if_neg (show ¬ (false = true) by decide)] at H; exact H
                 clear H
                 have H := H1
                 clear H1
                 by_cases c29 : t341 = true
                 ·subst c29
                  have H1 : (if x3_4.length < 4398046511104 then (impl_floor_walls.l2 kj17 (x3_4 ++ [(⟨(rdOf false y335 x14_1), x8_3, x31_4, 1⟩ : S72)]) (rdOf false y335 x14_1) x6_9 x7_9 x8_3 true y335 (y335.length : Int) x14_1 x7_9 (wrap64 (x31_4 + 1)) s0_0 s0_1) else (none)) = some r := by rw [if_pos rfl] at H; exact H
                  clear H
                  have H := H1
                  clear H1
                  by_cases c30 : x3_4.length < 4398046511104
                  ·rw [if_pos c30] at H
                   have LMc30 := zaa.mk c30
                   clear c30
                   obtain ⟨y344, hy344⟩ : ∃ y_ : List (S72), y_ = (x3_4 ++ [(⟨(rdOf false y335 x14_1), x8_3, x31_4, 1⟩ : S72)]) := ⟨_, rfl⟩
                   replace H : (impl_floor_walls.l2 kj17 y344 (rdOf false y335 x14_1) x6_9 x7_9 x8_3 true y335 (y335.length : Int) x14_1 x7_9 (wrap64 (x31_4 + 1)) s0_0 s0_1) = some r := by first | (rw [hy344]; with_reducible exact H) | (have H2_ := (Option.bind_some _ _).symm.trans H; rw [hy344]; with_reducible exact H2_) | (have H2_ := (Option.bind_some _ _).symm.trans H; with_reducible exact H2_) | with_reducible exact H | (rw [hy344]; exact H) | exact H
                   have Ny344 := zaa.mk hy344
                   clear hy344
                   have H' := zaa.mk H
                   clear H
                   go_wp2_with (first | ((with_reducible refine zau (b := .append) (xs := #[.tmp 56, .tmp 61]) rfl ?_); at_builtin; refine Kd.R_append k72 w.heap.size rfl (.tmp 56) (.tmp 61) 69 72 (.agg #[(.bool false), (.int .i64 0), (.int .i64 0), (.int .i64 0)]) 32 rfl Try.underlying69 info72 rfl (by decide) (by omega) u3 x3_4 (⟨(rdOf false y335 x14_1), x8_3, x31_4, 1⟩ : S72) [.bool (rdOf false y335 x14_1), .int .i64 x8_3, .int .i64 x31_4, .int .i64 1] (fun _ => True) (fun _ => False) rfl rfl ?aP (fun _ hk => hk.elim) ?aF ?aO (Below.refl _ _) ?aS ?aL ?_; (case aP => exact k72_mkM _ _ _ (⟨(rdOf false y335 x14_1), x8_3, x31_4, 1⟩ : S72)); (case aF => exact (fun _ _ => trivial)); (case aO => exact (by (with_reducible repeat (first | apply Kd.R_alloc | apply Kd.R_drewN | apply Kd.R_drew)); exact HO_3.out)); (case aS => exact (keep_size (w := w) (g := g) (row := none) (by repeat (first | (with_reducible first | exact HK.out | apply zap.set_ | apply zbc | apply zbi | apply zbd) | exact HK.out)))); (case aL => have := LMc30.out; omega); intro v345 w31 ho hb hg hat; rw [← Ny344.out] at ho; have n0_ := zaa.mk (Kd.R_over' (by (with_reducible repeat (first | apply Kd.R_alloc | apply Kd.R_drewN | apply Kd.R_drew)); exact HO_12.out) (Kd.R_typed (by (with_reducible repeat (first | apply Kd.R_alloc | apply Kd.R_drewN | apply Kd.R_drew)); exact HO_3.out)) (by decide) hg); have n1_ := zaa.mk (zao.grown (by repeat (first | (with_reducible first | exact HI0.out | apply zao.alloc | apply zao.drewN | apply zao.drew) | exact HI0.out)) hg (zao.own_ne HI0.out HO_3.out (by decide))); have n2_ := zaa.mk (below_weaken (by repeat (first | (with_reducible first | exact HB.out | apply zac | apply zab | apply zad | refine zam ?_ (zao.ge HI0.out)) | exact HB.out)) HL.out hb); have n3_ := zaa.mk (zap.trans (by repeat (first | (with_reducible first | exact HK.out | apply zap.set_ | apply zbc | apply zbi | apply zbd) | exact HK.out)) (zap.of_grown hg g) (Kd.R_base2 HO_3.out)); have n4_ := zaa.mk (ho); clear HO_12; clear HI0; clear HB; clear HK; clear HO_3; have HO_12 := n0_; have HI0 := n1_; have HB := n2_; have HK := n3_; have HO346 := n4_; clear n0_ n1_ n2_ n3_ n4_; clear ho hb hg hat))
                   go_roundg kj17
                   case measure => have := HK1.out; have := HJ9.out; have := HK3.out; have := HK4.out; have := HJ17.out; omega
                   case rel => exact ⟨(y344), (true), (wrap64 (x31_4 + 1)), (by first | rfl | (simp; done) | (simp [*]; done)), (by first | rfl | (simp; done) | (simp [*]; done)), H', ⟨by have := HK1.out; have := HJ9.out; have := HK3.out; have := HK4.out; have := HJ17.out; omega⟩, ⟨by (with_reducible repeat (first | apply Kd.R_alloc | apply Kd.R_drewN | apply Kd.R_drew)); exact HO346.out⟩, ⟨by (with_reducible repeat (first | apply Kd.R_alloc | apply Kd.R_drewN | apply Kd.R_drew)); exact HO_12.out⟩, ⟨by repeat (first | (with_reducible first | exact HI0.out | apply zao.alloc | apply zao.drewN | apply zao.drew) | exact HI0.out)⟩, ⟨by repeat (first | (with_reducible first | exact HK.out | apply zap.set_ | apply zbc | apply zbi | apply zbd) | exact HK.out)⟩, ⟨by repeat (first | (with_reducible first | exact HB.out | apply zac | apply zab | apply zad | refine zam ?_ (zao.ge HI0.out)) | exact HB.out)⟩⟩
                  ·rw [if_neg c30] at H
                   exact absurd H (by simp)
                 ·replace c29 := Bool.eq_false_iff.mpr c29
                  subst c29
                  have H1 : (impl_floor_walls.l2 kj17 x3_4 (rdOf false y335 x14_1) x6_9 x7_9 x8_3 false y335 (y335.length : Int) x14_1 x7_9 (wrap64 (x31_4 + 1)) s0_0 s0_1) = some r := by rw [if_neg (show ¬ (false = true) by decide)] at H; exact H
                  clear H
                  have H := H1
                  clear H1
                  have H' := zaa.mk H
                  clear H
                  go_wp2
                  go_roundg kj17
                  case measure => have := HK1.out; have := HJ9.out; have := HK3.out; have := HK4.out; have := HJ17.out; omega
                  case rel => exact ⟨(x3_4), (false), (wrap64 (x31_4 + 1)), (by first | rfl | (simp; done) | (simp [*]; done)), (by first | rfl | (simp; done) | (simp [*]; done)), H', ⟨by have := HK1.out; have := HJ9.out; have := HK3.out; have := HK4.out; have := HJ17.out; omega⟩, ⟨by (with_reducible repeat (first | apply Kd.R_alloc | apply Kd.R_drewN | apply Kd.R_drew)); exact HO_3.out⟩, ⟨by (with_reducible repeat (first | apply Kd.R_alloc | apply Kd.R_drewN | apply Kd.R_drew)); exact HO_12.out⟩, ⟨by repeat (first | (with_reducible first | exact HI0.out | apply zao.alloc | apply zao.drewN | apply zao.drew) | exact HI0.out)⟩, ⟨by repeat (first | (with_reducible first | exact HK.out | apply zap.set_ | apply zbc | apply zbi | apply zbd) | exact HK.out)⟩, ⟨by repeat (first | (with_reducible first | exact HB.out | apply zac | apply zab | apply zad | refine zam ?_ (zao.ge HI0.out)) | exact HB.out)⟩⟩
             ·rw [if_neg c16] at H
              have c16b0 : decide (x31_4 < x7_9) = false := decide_eq_false c16
              clear c16
              have H' := zaa.mk H
              clear H
              go_wp2
              go_roundg k4
              case measure => have := HK1.out; have := HJ9.out; have := HK3.out; have := HK4.out; omega
              case rel => exact ⟨(x3_4), (wrap64 (x8_3 + 1)), (by first | rfl | (simp; done) | (simp [*]; done)), H', ⟨by have := HK1.out; have := HJ9.out; have := HK3.out; have := HK4.out; omega⟩, ⟨by (with_reducible repeat (first | apply Kd.R_alloc | apply Kd.R_drewN | apply Kd.R_drew)); exact HO_3.out⟩, ⟨by (with_reducible repeat (first | apply Kd.R_alloc | apply Kd.R_drewN | apply Kd.R_drew)); exact HO_12.out⟩, ⟨by repeat (first | (with_reducible first | exact HI0.out | apply zao.alloc | apply zao.drewN | apply zao.drew) | exact HI0.out)⟩, ⟨by repeat (first | (with_reducible first | exact HK.out | apply zap.set_ | apply zbc | apply zbi | apply zbd) | exact HK.out)⟩, ⟨by repeat (first | (with_reducible first | exact HB.out | apply zac | apply zab | apply zad | refine zam ?_ (zao.ge HI0.out)) | exact HB.out)⟩⟩
          ·rw [if_neg c15] at H
           have c15b0 : decide (x8_3 < x6_9) = false := decide_eq_false c15
           clear c15
           have H' := zaa.mk H
           clear H
           go_wp2
           go_roundg k3
           case measure => have := HK1.out; have := HJ9.out; have := HK3.out; omega
           case rel => exact ⟨(x3_3), (wrap64 (x14_1 + 1)), (by first | rfl | (simp; done) | (simp [*]; done)), H', ⟨by have := HK1.out; have := HJ9.out; have := HK3.out; omega⟩, ⟨by (with_reducible repeat (first | apply Kd.R_alloc | apply Kd.R_drewN | apply Kd.R_drew)); exact HO_3.out⟩, ⟨by (with_reducible repeat (first | apply Kd.R_alloc | apply Kd.R_drewN | apply Kd.R_drew)); exact HO_12.out⟩, ⟨by repeat (first | (with_reducible first | exact HI0.out | apply zao.alloc | apply zao.drewN | apply zao.drew) | exact HI0.out)⟩, ⟨by repeat (first | (with_reducible first | exact HK.out | apply zap.set_ | apply zbc | apply zbi | apply zbd) | exact HK.out)⟩, ⟨by repeat (first | (with_reducible first | exact HB.out | apply zac | apply zab | apply zad | refine zam ?_ (zao.ge HI0.out)) | exact HB.out)⟩⟩
     ·rw [if_neg c7] at H
      exact absurd H (by simp)
    ·rw [if_neg c6] at H
     exact absurd H (by simp)
   ·rw [if_neg c5] at H
    have c5b0 : decide (x14_1 < (y335.length : Int)) = false := decide_eq_false c5
    clear c5
    obtain rfl := Option.some.inj H
    go_wp2
    go_ret
    exact ⟨_, by first | rfl | (simp [zak, zaj] <;> rfl) | (simp [*, zak, zaj] <;> rfl), by (with_reducible repeat (first | apply Kd.R_alloc | apply Kd.R_drewN | apply Kd.R_drew)); exact HO_3.out, by repeat (first | (with_reducible first | exact HI0.out | apply zao.alloc | apply zao.drewN | apply zao.drew) | exact HI0.out), by repeat (first | (with_reducible first | exact HB.out | apply zac | apply zab | apply zad | refine zam ?_ (zao.ge HI0.out)) | exact HB.out), by repeat (first | (with_reducible first | exact HK.out | apply zap.set_ | apply zbc | apply zbi | apply zbd) | exact HK.out)⟩
end Go.Proofs.Ytickdcegnlldjaa.PB
namespace Go.Proofs.Ytickdcegnlldjaa.Hd
open Go.RowKit Go.PW.PrintWords Go.PW.PrintLast Go.PW.PrintMore Go.Proofs.Ytickdcegnlldjaa.PB
abbrev Wl := S72
def runC (d : Nat → Bool) : Nat → List (Nat × Nat) × Option Nat
 | 0 => ([], none)
 | n + 1 => match runC d n with
  | (c, none) => (c, if d n then some n else none)
  | (c, some f) => if d n then (c, some f) else (c ++ [(f, n - f)], none)
def openR (n : Nat) : Option Nat → List (Nat × Nat)
 | none => []
 | some f => [(f, n - f)]
def runs (d : Nat → Bool) (n : Nat) : List (Nat × Nat) := (runC d n).1 ++ openR n (runC d n).2
theorem runC_inv (d : Nat → Bool) : ∀ n, (∀ x ∈ (runC d n).1, x.1 + x.2 ≤ n ∧ 1 ≤ x.2) ∧ (∀ f, (runC d n).2 = some f → f < n) ∧ (runC d n).1.length + (if (runC d n).2.isSome = true then 1 else 0) ≤ n
 | 0 => by simp [runC]
 | n + 1 => by
  obtain ⟨h1, h2, h3⟩ := runC_inv d n
  rcases hR : runC d n with ⟨c, o⟩
  rw [hR] at h1 h2 h3
  cases o with
  | none =>
   have e : runC d (n + 1) = (c, if d n then some n else none) := by simp only [runC, hR]
   rw [e]
   refine ⟨fun x hx => ?_, fun f hf => ?_, ?_⟩
   ·have := h1 x hx; omega
   ·dsimp only at hf
    split at hf
    ·injection hf with hf; omega
    ·cases hf
   ·dsimp only at h3 ⊢
    simp only [Option.isSome_none, Bool.false_eq_true, if_false] at h3
    split <;> simp <;> omega
  | some f =>
   have hf := h2 f rfl
   by_cases hd : d n = true
   ·have e : runC d (n + 1) = (c, some f) := by simp only [runC, hR, hd, if_true]
    rw [e]
    refine ⟨fun x hx => ?_, fun g hg => ?_, ?_⟩
    ·have := h1 x hx; omega
    ·injection hg with hg; omega
    ·dsimp only at h3 ⊢; omega
   ·have e : runC d (n + 1) = (c ++ [(f, n - f)], none) := by simp only [runC, hR, if_neg hd]
    rw [e]
    refine ⟨fun x hx => ?_, fun g hg => (by cases hg), ?_⟩
    ·rcases List.mem_append.1 hx with h | h
     ·have := h1 x h; omega
     ·simp at h; subst h; dsimp only; omega
    ·dsimp only at h3 ⊢
     simp only [Option.isSome_some, if_true] at h3
     simp
     omega
theorem runs_length (d : Nat → Bool) (n : Nat) : (runs d n).length ≤ n := by
 obtain ⟨h1, h2, h3⟩ := runC_inv d n
 unfold runs
 rw [List.length_append]
 cases h : (runC d n).2 with
 | none => rw [h] at h3; simp [openR] at h3 ⊢; exact h3
 | some f => rw [h] at h3; simp [openR] at h3 ⊢; exact h3
theorem runs_in (d : Nat → Bool) (n : Nat) : ∀ x ∈ runs d n, x.1 + x.2 ≤ n ∧ 1 ≤ x.2 := by
 obtain ⟨h1, h2, h3⟩ := runC_inv d n
 intro x hx
 unfold runs at hx
 rcases List.mem_append.1 hx with h | h
 ·exact h1 x h
 ·cases h4 : (runC d n).2 with
  | none => rw [h4] at h; cases h
  | some f =>
   rw [h4] at h
   have := h2 f h4
   simp [openR] at h
   subst h
   dsimp only
   omega
def trip (d : Nat → Nat → Bool) (n : Nat) : Nat → List (Nat × Nat × Nat)
 | 0 => []
 | j + 1 => trip d n j ++ (runs (d (j + 1)) n).map fun x => (j + 1, x.1, x.2)
theorem trip_length (d : Nat → Nat → Bool) (n : Nat) : ∀ j, (trip d n j).length ≤ j * n
 | 0 => by simp [trip]
 | j + 1 => by
  have := trip_length d n j
  have := runs_length (d (j + 1)) n
  simp only [trip, List.length_append, List.length_map]
  rw [Nat.succ_mul]
  omega
theorem trip_in (d : Nat → Nat → Bool) (n : Nat) : ∀ j, ∀ x ∈ trip d n j, 1 ≤ x.1 ∧ x.1 ≤ j ∧ x.2.1 + x.2.2 ≤ n ∧ 1 ≤ x.2.2
 | 0, x, hx => by cases hx
 | j + 1, x, hx => by
  simp only [trip] at hx
  rcases List.mem_append.1 hx with h | h
  ·have := trip_in d n j x h; omega
  ·obtain ⟨y, hy, rfl⟩ := List.mem_map.1 h
   have := runs_in _ n y hy
   dsimp only
   omega
def mkW (lv : Bool) (t : Nat × Nat × Nat) : Wl := ⟨lv, (t.1 : Int), (t.2.1 : Int), (t.2.2 : Int)⟩
def difB (cs : List (List Int)) (lv : Bool) (line i : Nat) : Bool := if lv = true then zbe cs (line - 1) i != zbe cs line i else zbe cs i (line - 1) != zbe cs i line
def wallsOf (cs : List (List Int)) : List Wl := (trip (difB cs false) cs.length (zai cs - 1)).map (mkW false) ++ (trip (difB cs true) (zai cs) (cs.length - 1)).map (mkW true)
theorem rd_val (cs : List (List Int)) (r c : Nat) : rd (zbk cs (r : Int)) (c : Int) = zbe cs r c := by
 unfold rd zbk zbe
 rw [Int.toNat_natCast, Int.toNat_natCast]
theorem row_len {cs : List (List Int)} {rs : List Rc} (h : zcg cs rs) {r : Nat} (hr : r < cs.length) : (zbk cs (r : Int)).length = zai cs := by
 unfold zbk
 rw [Int.toNat_natCast, List.getD_eq_getElem?_getD, List.getElem?_eq_getElem hr]
 exact h.cells.row _ (List.getElem_mem _)
def sidesOf (cs : List (List Int)) (lv : Bool) (line i : Nat) : Int × Int := if lv = true then (zbe cs (line - 1) i, zbe cs line i) else (zbe cs i (line - 1), zbe cs i line)
def zcp (cs : List (List Int)) (lv : Bool) : Nat := if lv = true then cs.length else zai cs
def zbr (cs : List (List Int)) (lv : Bool) : Nat := if lv = true then zai cs else cs.length
theorem sides_f {cs : List (List Int)} {rs : List Rc} (h : zcg cs rs) (lv : Bool) (line i : Nat) (h1 : 1 ≤ line) (h2 : line < zcp cs lv) (h3 : i < zbr cs lv) : impl_floor_sides.f cs rs lv line i = some (sidesOf cs lv line i) := by
 have q1 := h.h6
 have q2 := h.w6
 unfold impl_floor_sides.f
 cases lv with
 | true =>
  simp only [zcp, zbr, if_true] at h2 h3
  have e : wrap64 ((line : Int) - 1) = ((line - 1 : Nat) : Int) := by rw [zar (by omega) (by omega)]; omega
  rw [e, if_pos rfl, if_pos (by omega), if_pos (by omega), if_pos (by omega), row_len h (by omega), if_pos (by omega), if_pos (by omega), if_pos (by omega), row_len h (by omega), if_pos (by omega), rd_val, rd_val]
  rfl
 | false =>
  simp only [zcp, zbr, Bool.false_eq_true, if_false] at h2 h3
  have e : wrap64 ((line : Int) - 1) = ((line - 1 : Nat) : Int) := by rw [zar (by omega) (by omega)]; omega
  rw [e, if_neg (by simp), if_pos (by omega), if_pos (by omega), if_pos (by omega), row_len h (by omega), if_pos (by omega), if_pos (by omega), if_pos (by omega), rd_val, rd_val]
  rfl
theorem differ_f {cs : List (List Int)} {rs : List Rc} (h : zcg cs rs) (lv : Bool) (line i : Nat) (h1 : 1 ≤ line) (h2 : line < zcp cs lv) (h3 : i < zbr cs lv) : impl_floor_differ.f cs rs lv line i = some (difB cs lv line i) := by
 unfold impl_floor_differ.f
 rw [sides_f h lv line i h1 h2 h3]
 unfold sidesOf difB
 cases lv <;> rfl
theorem set_last {α : Type} (x : List α) (a b : α) : (x ++ [a]).set x.length b = x ++ [b] := by
 rw [List.set_append_right _ _ (Nat.le_refl _), Nat.sub_self, List.set_cons_zero]
theorem walls_l2 (cs : List (List Int)) (rs : List Rc) (lv : Bool) (line : Nat) (hl : line ≤ 100) (d : Nat → Bool) (N : Nat) (hN : N ≤ 100) (hd : ∀ i, i < N → impl_floor_differ.f cs rs lv line i = some (d i)) (x6 x7 x13 x14 : Int) (x12 : List Bool) (pre : List Wl) (hpre : pre.length ≤ 1000) (r : List Wl)
  (hnext : Evs (fun k => impl_floor_walls.l1 k (pre ++ (runs d N).map (fun x => mkW lv (line, x.1, x.2))) lv x6 x7 ((line + 1 : Nat) : Int) x12 x13 x14 cs rs) r) :
  ∀ m i, i + m = N → Evs (fun k => impl_floor_walls.l2 k (pre ++ (runs d i).map (fun x => mkW lv (line, x.1, x.2))) lv x6 x7 (line : Int) (runC d i).2.isSome x12 x13 x14 (N : Int) (i : Int) cs rs) r := by
 intro m
 induction m with
 | zero =>
  intro i hi
  obtain rfl : i = N := by omega
  refine Evs.step (fun k => ?_) hnext
  conv => lhs; unfold impl_floor_walls.l2
  rw [if_neg (by omega), zay (by omega)]
 | succ m ih =>
  intro i hi
  have hnx := ih (i + 1) (by omega)
  have hdi := hd i (by omega)
  have hrl := runs_length d i
  obtain ⟨g1, g2, g3⟩ := runC_inv d i
  rcases hR : runC d i with ⟨c, o⟩
  rw [hR] at g1 g2 g3
  have e1 : runs d i = c ++ openR i o := by unfold runs; rw [hR]
  rw [e1] at hrl ⊢
  rw [List.length_append] at hrl
  cases hb : d i with
  | true =>
   rw [hb] at hdi
   cases o with
   | none =>
    have e2 : runC d (i + 1) = (c, some i) := by simp only [runC, hR, hb, if_true]
    have e3 : runs d (i + 1) = c ++ [(i, 1)] := by unfold runs; rw [e2]; simp [openR]
    rw [e2, e3] at hnx
    refine Evs.step (h := fun k => impl_floor_walls.j4 k (pre ++ (c ++ openR i none).map (fun x => mkW lv (line, x.1, x.2))) lv x6 x7 (line : Int) (i : Int) true x12 x13 x14 (N : Int) (i : Int) false cs rs) (fun k => ?_) (Evs.step (fun k => ?_) hnx)
    ·conv => lhs; unfold impl_floor_walls.l2
     rw [if_pos (by omega), hdi]
     rfl
    ·conv => lhs; unfold impl_floor_walls.j4
     rw [if_neg (by simp), if_pos rfl, if_pos (by simp [openR]; omega), zay (by omega)]
     simp [openR, mkW]
   | some f =>
    have hf := g2 f rfl
    have e2 : runC d (i + 1) = (c, some f) := by simp only [runC, hR, hb, if_true]
    have e3 : runs d (i + 1) = c ++ [(f, i + 1 - f)] := by unfold runs; rw [e2]; simp [openR]
    rw [e2, e3] at hnx
    have hap : pre ++ (c ++ openR i (some f)).map (fun x => mkW lv (line, x.1, x.2)) = (pre ++ c.map (fun x => mkW lv (line, x.1, x.2))) ++ [mkW lv (line, f, i - f)] := by simp [openR]
    rw [hap]
    have hap2 : pre ++ (c ++ [(f, i + 1 - f)]).map (fun x => mkW lv (line, x.1, x.2)) = (pre ++ c.map (fun x => mkW lv (line, x.1, x.2))) ++ [mkW lv (line, f, i + 1 - f)] := by simp
    rw [hap2] at hnx
    have hlen : (pre ++ c.map (fun x => mkW lv (line, x.1, x.2))).length ≤ 1100 := by simp [openR] at hrl ⊢; omega
    generalize pre ++ c.map (fun x => mkW lv (line, x.1, x.2)) = q at *
    refine Evs.step (h := fun k => impl_floor_walls.j4 k (q ++ [mkW lv (line, f, i - f)]) lv x6 x7 (line : Int) (i : Int) true x12 x13 x14 (N : Int) (i : Int) true cs rs) (fun k => ?_) (Evs.step (fun k => ?_) hnx)
    ·conv => lhs; unfold impl_floor_walls.l2
     rw [if_pos (by omega), hdi]
     rfl
    ·conv => lhs; unfold impl_floor_walls.j4
     have e4 : wrap64 (((q ++ [mkW lv (line, f, i - f)]).length : Int) - 1) = (q.length : Int) := by
      have hq : ((q ++ [mkW lv (line, f, i - f)]).length : Int) = (q.length : Int) + 1 := by simp
      rw [hq, zar (by omega) (by omega)]; omega
     have e5 : zbp (q ++ [mkW lv (line, f, i - f)]) (q.length : Int) = mkW lv (line, f, i - f) := by
      unfold zbp
      rw [Int.toNat_natCast, List.getD_eq_getElem?_getD, List.getElem?_append_right (Nat.le_refl _), Nat.sub_self]
      rfl
     have e6 : wrap64 ((mkW lv (line, f, i - f)).f3 + 1) = ((i + 1 - f : Nat) : Int) := by
      show wrap64 (((i - f : Nat) : Int) + 1) = _
      rw [zar (by omega) (by omega)]; omega
     rw [if_pos rfl, e4, if_pos (by omega), if_pos (by simp; omega), e5, e6, Int.toNat_natCast, set_last, zay (by omega)]
     rfl
  | false =>
   rw [hb] at hdi
   have e3 : runs d (i + 1) = c ++ openR i o ∧ (runC d (i + 1)).2.isSome = false := by
    cases o with
    | none =>
     have e2 : runC d (i + 1) = (c, none) := by simp [runC, hR, hb]
     unfold runs
     rw [e2]
     exact ⟨rfl, rfl⟩
    | some f =>
     have e2 : runC d (i + 1) = (c ++ [(f, i - f)], none) := by simp [runC, hR, hb]
     unfold runs
     rw [e2]
     exact ⟨by simp [openR], rfl⟩
   rw [e3.1, e3.2] at hnx
   refine Evs.step (h := fun k => impl_floor_walls.j4 k (pre ++ (c ++ openR i o).map (fun x => mkW lv (line, x.1, x.2))) lv x6 x7 (line : Int) (i : Int) false x12 x13 x14 (N : Int) (i : Int) false cs rs) (fun k => ?_) (Evs.step (fun k => ?_) hnx)
   ·conv => lhs; unfold impl_floor_walls.l2
    rw [if_pos (by omega), hdi]
    rfl
   ·conv => lhs; unfold impl_floor_walls.j4
    rw [if_neg (by simp), if_neg (by simp), zay (by omega)]
theorem walls_l1 {cs : List (List Int)} {rs : List Rc} (h : zcg cs rs) (lv : Bool) (x13 x14 : Int) (hx14 : 0 ≤ x14) (hx14' : x14 ≤ 1000) (x12 : List Bool) (pre : List Wl) (hpre : pre.length ≤ 500) (r : List Wl)
  (hnext : Evs (fun k => impl_floor_walls.l0 k (pre ++ (trip (difB cs lv) (zbr cs lv) (zcp cs lv - 1)).map (mkW lv)) x12 x13 (x14 + 1) cs rs) r) :
  ∀ m j, j + 1 + m = zcp cs lv → Evs (fun k => impl_floor_walls.l1 k (pre ++ (trip (difB cs lv) (zbr cs lv) j).map (mkW lv)) lv (zcp cs lv : Int) (zbr cs lv : Int) ((j + 1 : Nat) : Int) x12 x13 x14 cs rs) r := by
 have q1 := h.h6
 have q2 := h.w6
 have hN : zbr cs lv ≤ 6 := by unfold zbr; split <;> omega
 have hL : zcp cs lv ≤ 6 := by unfold zcp; split <;> omega
 intro m
 induction m with
 | zero =>
  intro j hj
  have e : zcp cs lv - 1 = j := by omega
  rw [e] at hnext
  refine Evs.step (fun k => ?_) hnext
  conv => lhs; unfold impl_floor_walls.l1
  rw [if_neg (by omega), zar (by omega) (by omega)]
 | succ m ih =>
  intro j hj
  have hnx := ih (j + 1) (by omega)
  have ht := trip_length (difB cs lv) (zbr cs lv) j
  have hm : j * zbr cs lv ≤ 6 * 6 := Nat.mul_le_mul (by omega) hN
  have e : pre ++ (trip (difB cs lv) (zbr cs lv) (j + 1)).map (mkW lv) = (pre ++ (trip (difB cs lv) (zbr cs lv) j).map (mkW lv)) ++ (runs (difB cs lv (j + 1)) (zbr cs lv)).map (fun x => mkW lv (j + 1, x.1, x.2)) := by
   simp [trip, Function.comp_def]
  rw [e] at hnx
  have := walls_l2 cs rs lv (j + 1) (by omega) (difB cs lv (j + 1)) (zbr cs lv) (by omega) (fun i hi => differ_f h lv (j + 1) i (by omega) (by omega) hi) (zcp cs lv) (zbr cs lv) x13 x14 x12 (pre ++ (trip (difB cs lv) (zbr cs lv) j).map (mkW lv)) (by simp; omega) r hnx (zbr cs lv) 0 (by omega)
  refine Evs.step (fun k => ?_) this
  conv => lhs; unfold impl_floor_walls.l1
  rw [if_pos (by omega)]
  simp [runs, runC, openR]
theorem walls_ev {cs : List (List Int)} {rs : List Rc} (h : zcg cs rs) : Evs (fun k => impl_floor_walls.f k cs rs) (wallsOf cs) := by
 have q1 := h.h6
 have q2 := h.w6
 have q3 := h.h1
 have q4 := h.w1
 have ht := trip_length (difB cs false) cs.length (zai cs - 1)
 have hm : (zai cs - 1) * cs.length ≤ 6 * 6 := Nat.mul_le_mul (by omega) q1
 have end_ : Evs (fun k => impl_floor_walls.l0 k (wallsOf cs) [false, true] 2 2 cs rs) (wallsOf cs) := by
  refine Evs.step (h := fun _ => some (wallsOf cs)) (fun k => ?_) (Evs.const _)
  conv => lhs; unfold impl_floor_walls.l0
  rw [if_neg (by omega)]
 have two := walls_l1 h true 2 1 (by omega) (by omega) [false, true] ((trip (difB cs false) cs.length (zai cs - 1)).map (mkW false)) (by simp; omega) _ end_ (cs.length - 1) 0 (by show 0 + 1 + _ = cs.length; omega)
 simp only [trip, List.map_nil, List.append_nil] at two
 have two' : Evs (fun k => impl_floor_walls.l0 k ((trip (difB cs false) cs.length (zai cs - 1)).map (mkW false)) [false, true] 2 1 cs rs) (wallsOf cs) := by
  refine Evs.step (h := fun k => impl_floor_walls.j1 k ((trip (difB cs false) cs.length (zai cs - 1)).map (mkW false)) true (cs.length : Int) (zai cs : Int) [false, true] 2 1 cs rs) (fun k => ?_) (Evs.step (fun k => ?_) two)
  ·conv => lhs; unfold impl_floor_walls.l0
   rw [if_pos (by omega), if_pos (by omega), if_pos (by simp), wide_f h, high_f]
   rfl
  ·conv => lhs; unfold impl_floor_walls.j1
   rfl
 have one := walls_l1 h false 2 0 (by omega) (by omega) [false, true] [] (by simp) _ (by rw [List.nil_append]; exact two') (zai cs - 1) 0 (by show 0 + 1 + _ = zai cs; omega)
 simp only [trip, List.map_nil, List.append_nil] at one
 refine Evs.congr (h := fun k => impl_floor_walls.l0 k [] [false, true] 2 0 cs rs) (fun k => rfl) ?_
 refine Evs.step (h := fun k => impl_floor_walls.j1 k [] false (zai cs : Int) (cs.length : Int) [false, true] 2 0 cs rs) (fun k => ?_) (Evs.step (fun k => ?_) one)
 ·conv => lhs; unfold impl_floor_walls.l0
  rw [if_pos (by omega), if_pos (by omega), if_pos (by simp), wide_f h, high_f]
  rfl
 ·conv => lhs; unfold impl_floor_walls.j1
  rfl
def upT (cs : List (List Int)) : List (Nat × Nat × Nat) := trip (difB cs false) cs.length (zai cs - 1)
def levT (cs : List (List Int)) : List (Nat × Nat × Nat) := trip (difB cs true) (zai cs) (cs.length - 1)
theorem PlanFacts.mid {p : List ByteArray} {cs : List (List Int)} {rs : List Rc} (F : PlanFacts p cs rs) : Mid p (zai cs) := by
 have hsm := gridOk_small F.canon.grid
 rw [F.wide] at hsm
 exact ⟨by have := hsm.high; omega, by have := hsm.wide; omega, hsm.row⟩
theorem trans_plan {p : List ByteArray} {cs : List (List Int)} {rs : List Rc} (F : PlanFacts p cs rs) : Evs (fun k => spec_l1Trans.f k p) (transOf p (zai cs)) := by
 have o1 := F.ok.h1
 have l1 := F.len
 exact l1Trans_ev p (zai cs) F.mid (by omega)
theorem wallsOf_eq (cs : List (List Int)) : wallsOf cs = (upT cs).map (mkW false) ++ (levT cs).map (mkW true) := rfl
theorem wall_bound {cs : List (List Int)} {rs : List Rc} (h : zcg cs rs) : (upT cs).length ≤ 36 ∧ (levT cs).length ≤ 36 := by
 have q1 := h.h6
 have q2 := h.w6
 have h1 := trip_length (difB cs false) cs.length (zai cs - 1)
 have h2 := trip_length (difB cs true) (zai cs) (cs.length - 1)
 have m1 : (zai cs - 1) * cs.length ≤ 6 * 6 := Nat.mul_le_mul (by omega) q1
 have m2 : (cs.length - 1) * zai cs ≤ 6 * 6 := Nat.mul_le_mul (by omega) q2
 unfold upT levT
 omega
def sumZ : List Int → Int
 | [] => 0
 | x :: r => x + sumZ r
theorem sumZ_append (a b : List Int) : sumZ (a ++ b) = sumZ a + sumZ b := by
 induction a with
 | nil => simp [sumZ]
 | cons x r ih => simp only [List.cons_append, sumZ, ih]; omega
theorem sumZ_range {L : List Int} (h : ∀ x ∈ L, 0 ≤ x ∧ x ≤ 2) : 0 ≤ sumZ L ∧ sumZ L ≤ 2 * L.length := by
 induction L with
 | nil => simp [sumZ]
 | cons x r ih =>
  have h1 := h x List.mem_cons_self
  have h2 := ih (fun y hy => h y (List.mem_cons_of_mem _ hy))
  simp only [sumZ, List.length_cons]
  omega
def allT (cs : List (List Int)) : List (Nat × Nat × Nat) := upT cs ++ levT cs
def sumR (f : Nat → Int) (a l : Nat) : Int := sumI (fun j => f (a + j)) l
def sumX (f : Nat → Int) : List (Nat × Nat) → Int
 | [] => 0
 | x :: r => sumR f x.1 x.2 + sumX f r
theorem sumX_append (f : Nat → Int) (a b : List (Nat × Nat)) : sumX f (a ++ b) = sumX f a + sumX f b := by
 induction a with
 | nil => simp [sumX]
 | cons x r ih => simp only [List.cons_append, sumX, ih]; omega
theorem sum_runs (f : Nat → Int) (d : Nat → Bool) : ∀ n, sumX f (runs d n) = sumI (fun i => if d i = true then f i else 0) n
 | 0 => by simp [runs, runC, openR, sumX, sumI]
 | n + 1 => by
  have ih := sum_runs f d n
  obtain ⟨g1, g2, g3⟩ := runC_inv d n
  rcases hR : runC d n with ⟨c, o⟩
  rw [hR] at g2
  have e1 : runs d n = c ++ openR n o := by unfold runs; rw [hR]
  rw [e1] at ih
  simp only [sumI]
  rw [← ih]
  cases hb : d n with
  | true =>
   rw [if_pos rfl]
   cases o with
   | none =>
    have e2 : runC d (n + 1) = (c, some n) := by simp only [runC, hR, hb, if_true]
    have e3 : runs d (n + 1) = c ++ [(n, 1)] := by unfold runs; rw [e2]; simp [openR]
    rw [e3, sumX_append, sumX_append]
    simp [openR, sumX, sumR, sumI]
   | some a =>
    have hf := g2 a rfl
    have e2 : runC d (n + 1) = (c, some a) := by simp only [runC, hR, hb, if_true]
    have e3 : runs d (n + 1) = c ++ [(a, n + 1 - a)] := by unfold runs; rw [e2]; simp [openR]
    rw [e3, sumX_append, sumX_append]
    have e4 : n + 1 - a = (n - a) + 1 := by omega
    simp only [openR, sumX, sumR]
    rw [e4]
    simp only [sumI]
    rw [show a + (n - a) = n by omega]
    omega
  | false =>
   rw [if_neg (by simp)]
   have e3 : runs d (n + 1) = c ++ openR n o := by
    cases o with
    | none =>
     have e2 : runC d (n + 1) = (c, none) := by simp [runC, hR, hb]
     unfold runs
     rw [e2]
     rfl
    | some a =>
     have e2 : runC d (n + 1) = (c ++ [(a, n - a)], none) := by simp [runC, hR, hb]
     unfold runs
     rw [e2]
     simp [openR]
   rw [e3]
   omega
theorem sumI_zero : ∀ n, sumI (fun _ => 0) n = 0
 | 0 => rfl
 | n + 1 => by simp only [sumI, sumI_zero n]; rfl
theorem sum_swap (F : Nat → Nat → Int) (m : Nat) : ∀ n, sumI (fun i => sumI (fun j => F i j) m) n = sumI (fun j => sumI (fun i => F i j) n) m
 | 0 => by simp only [sumI]; exact (sumI_zero m).symm
 | n + 1 => by
  simp only [sumI]
  rw [sum_swap F m n, ← sumI_add]
def hit (x : Int × Int) (a b : Int) : Int := (if x = (a, b) then 1 else 0) + (if x = (b, a) then 1 else 0)
def hits (T : List (Int × Int)) (a b : Int) : Int := sumZ (T.map fun x => hit x a b)
theorem hits_append (T U : List (Int × Int)) (a b : Int) : hits (T ++ U) a b = hits T a b + hits U a b := by unfold hits; rw [List.map_append, sumZ_append]
def touchW (cs : List (List Int)) (lv : Bool) (x : Nat × Nat × Nat) : List (Int × Int) := (List.range x.2.2).map fun j => sidesOf cs lv x.1 (x.2.1 + j)
def touchL (cs : List (List Int)) : List (Int × Int) := (upT cs).flatMap (touchW cs false) ++ (levT cs).flatMap (touchW cs true)
theorem hits_range (f : Nat → Int × Int) (a b : Int) : ∀ n, hits ((List.range n).map f) a b = sumI (fun j => hit (f j) a b) n
 | 0 => rfl
 | n + 1 => by
  rw [List.range_succ, List.map_append, hits_append, hits_range f a b n]
  simp [hits, sumZ, sumI]
theorem hits_runs (cs : List (List Int)) (lv : Bool) (line : Nat) (a b : Int) : ∀ L : List (Nat × Nat), hits ((L.map fun x => (line, x.1, x.2)).flatMap (touchW cs lv)) a b = sumX (fun i => hit (sidesOf cs lv line i) a b) L
 | [] => rfl
 | x :: r => by
  rw [List.map_cons, List.flatMap_cons, hits_append, hits_runs cs lv line a b r]
  simp only [sumX]
  congr 1
  unfold touchW
  exact hits_range _ a b _
theorem hit_same (x a b : Int) (h : a ≠ b) : hit (x, x) a b = 0 := by
 unfold hit
 rw [if_neg (fun e => by injection e with e1 e2; omega), if_neg (fun e => by injection e with e1 e2; omega)]
 rfl
theorem dif_sides (cs : List (List Int)) (lv : Bool) (line i : Nat) : difB cs lv line i = ((sidesOf cs lv line i).1 != (sidesOf cs lv line i).2) := by unfold difB sidesOf; cases lv <;> rfl
theorem hits_trip (cs : List (List Int)) (lv : Bool) (n : Nat) (a b : Int) (hab : a ≠ b) : ∀ j, hits ((trip (difB cs lv) n j).flatMap (touchW cs lv)) a b = sumI (fun l => sumI (fun i => hit (sidesOf cs lv (l + 1) i) a b) n) j
 | 0 => rfl
 | j + 1 => by
  simp only [trip, sumI]
  rw [List.flatMap_append, hits_append, hits_trip cs lv n a b hab j, hits_runs, sum_runs]
  congr 1
  refine sumI_congr n fun i hi => ?_
  split
  ·rfl
  ·rename_i h
   rw [dif_sides, bne_iff_ne, ne_eq, Classical.not_not] at h
   rcases hs : sidesOf cs lv (j + 1) i with ⟨x, y⟩
   rw [hs] at h
   dsimp only at h
   subst h
   exact (hit_same x a b hab).symm
def lenU (g : Nat → Nat → Int) (hi wi : Nat) (a b : Int) : Int := sumI (fun i => sumI (fun k => hit (g i k, g i (k + 1)) a b) (wi - 1)) hi
theorem touch_hits (cs : List (List Int)) (a b : Int) (hab : a ≠ b) : hits (touchL cs) a b = lenU (zbe cs) cs.length (zai cs) a b + lenU (fun i k => zbe cs k i) (zai cs) cs.length a b := by
 unfold touchL
 rw [hits_append]
 unfold upT levT lenU
 rw [hits_trip cs false _ a b hab, hits_trip cs true _ a b hab]
 congr 1
 ·exact sum_swap (fun l i => hit (sidesOf cs false (l + 1) i) a b) cs.length (zai cs - 1)
 ·exact sum_swap (fun l i => hit (sidesOf cs true (l + 1) i) a b) (zai cs) (cs.length - 1)
theorem hit_range (x : Int × Int) (a b : Int) : 0 ≤ hit x a b ∧ hit x a b ≤ 2 := by
 unfold hit
 split <;> split <;> omega
theorem sumI_range {f : Nat → Int} (M : Nat) (h : ∀ i, 0 ≤ f i ∧ f i ≤ M) : ∀ n, 0 ≤ sumI f n ∧ sumI f n ≤ (n * M : Nat)
 | 0 => by simp [sumI]
 | n + 1 => by
  have h1 := sumI_range M h n
  have h2 := h n
  simp only [sumI]
  rw [Nat.succ_mul]
  omega
theorem lenU_range (g : Nat → Nat → Int) (hi wi : Nat) (a b : Int) (h1 : hi ≤ 100) (h2 : wi ≤ 100) : 0 ≤ lenU g hi wi a b ∧ lenU g hi wi a b ≤ 20000 := by
 unfold lenU
 have h3 := sumI_range (f := fun i => sumI (fun k => hit (g i k, g i (k + 1)) a b) (wi - 1)) 200 (fun i => by
  have := sumI_range (f := fun k => hit (g i k, g i (k + 1)) a b) 2 (fun k => hit_range _ a b) (wi - 1)
  omega) hi
 omega
theorem hits_range' (T : List (Int × Int)) (a b : Int) : 0 ≤ hits T a b ∧ hits T a b ≤ 2 * T.length := by
 have := sumZ_range (L := T.map fun x => hit x a b) (fun x hx => by obtain ⟨y, _, rfl⟩ := List.mem_map.1 hx; exact hit_range y a b)
 unfold hits
 simpa using this
theorem hit_cond (x y a b : Int) (hab : a ≠ b) : hit (x, y) a b = if (x = a ∧ y = b) ∨ (x = b ∧ y = a) then 1 else 0 := by
 unfold hit
 by_cases h1 : x = a ∧ y = b
 ·obtain ⟨rfl, rfl⟩ := h1
  rw [if_pos rfl, if_neg (fun e => by injection e with e1 e2; omega), if_pos (Or.inl ⟨rfl, rfl⟩)]
  rfl
 ·by_cases h2 : x = b ∧ y = a
  ·obtain ⟨rfl, rfl⟩ := h2
   rw [if_neg (fun e => by injection e with e1 e2; omega), if_pos rfl, if_pos (Or.inr ⟨rfl, rfl⟩)]
   rfl
  ·rw [if_neg (fun e => by injection e with e1 e2; exact h1 ⟨e1, e2⟩), if_neg (fun e => by injection e with e1 e2; exact h2 ⟨e1, e2⟩), if_neg (fun h => h.elim h1 h2)]
   rfl
theorem len_l1 (p : List ByteArray) (wi : Nat) (h : Mid p wi) (a b : Int) (hab : a ≠ b) (g : Nat → Nat → Int) (hg : ∀ i k, i < p.length → k < wi → zbe (zag p) i k = 97 + g i k) (i : Nat) (hi : i < p.length) (n : Int) (hn0 : 0 ≤ n) (hn : n ≤ 1000000) (r : Int)
  (hnext : Evs (fun q => spec_l4Length.l0 q p a b (n + sumI (fun k => hit (g i k, g i (k + 1)) a b) (wi - 1)) ((i + 1 : Nat) : Int)) r) (hw1 : 1 ≤ wi) :
  ∀ m k, k + 1 + m = wi → Evs (fun q => spec_l4Length.l1 q p a b (n + sumI (fun k => hit (g i k, g i (k + 1)) a b) k) (i : Int) ((k + 1 : Nat) : Int)) r := by
 have hh := h.high
 have hw := h.wide
 obtain ⟨s, hs⟩ : ∃ s, p[i]? = some s := ⟨_, List.getElem?_eq_getElem hi⟩
 have hsz := h.row s (List.mem_of_getElem? hs)
 have hrow : (zag p)[i]? = some (zax s) := by unfold zag; rw [List.getElem?_map, hs]; rfl
 have hcell : ∀ k, k < wi → wrap64 (wrap64 (bt s (k : Int)) - 97) = g i k := fun k hk => by
  obtain ⟨row, q1, q2⟩ := valAt_get h.rect (r := i) (c := k) (by rw [zbs]; exact hi) hk
  obtain rfl : row = zax s := by rw [hrow] at q1; exact (Option.some.inj q1).symm
  have hr := bytesOf_range s _ (List.mem_of_getElem? q2)
  have := hg i k hi hk
  rw [bt_get q2, zar (x := zbe (zag p) i k) (by omega) (by omega), zar (by omega) (by omega)]
  omega
 intro m
 induction m with
 | zero =>
  intro k hk
  have e : wi - 1 = k := by omega
  rw [e] at hnext
  refine Evs.step (fun q => ?_) hnext
  conv => lhs; unfold spec_l4Length.l1
  rw [if_pos (by omega), if_pos (by omega), zbz hs, if_neg (by omega), zay (by omega)]
 | succ m ih =>
  intro k hk
  have hnx := ih (k + 1) (by omega)
  simp only [sumI] at hnx
  have hsm := sumI_range (f := fun k => hit (g i k, g i (k + 1)) a b) 2 (fun k => hit_range _ a b) k
  have hmul : k * 2 ≤ 200 := by omega
  have el : wrap64 (((k + 1 : Nat) : Int) - 1) = (k : Int) := by rw [zar (by omega) (by omega)]; omega
  have hc1 := hcell k (by omega)
  have hc2 := hcell (k + 1) (by omega)
  have hcond := hit_cond (g i k) (g i (k + 1)) a b hab
  generalize hit (g i k, g i (k + 1)) a b = hv at *
  generalize sumI (fun k => hit (g i k, g i (k + 1)) a b) k = sv at *
  have hw2 : wrap64 (n + sv + 1) = n + sv + 1 := zar (by omega) (by omega)
  refine Evs.step (fun q => ?_) hnx
  conv => lhs; unfold spec_l4Length.l1
  rw [if_pos (by omega), if_pos (by omega), zbz hs, if_pos (by omega), el, if_pos (by omega), if_pos (by omega), if_pos (by omega), hc1, hc2, hw2, zay (by omega)]
  by_cases h1 : g i k = a
  ·rw [if_pos h1]
   by_cases h2 : g i (k + 1) = b
   ·rw [if_pos h2]
    rw [if_pos (Or.inl ⟨h1, h2⟩)] at hcond
    rw [hcond, Int.add_assoc]
   ·rw [if_neg h2, if_neg (fun e => hab (h1.symm.trans e))]
    rw [if_neg (fun z => z.elim (fun z => h2 z.2) (fun z => hab (h1.symm.trans z.1)))] at hcond
    rw [hcond, Int.add_zero]
  ·rw [if_neg h1]
   by_cases h2 : g i k = b
   ·rw [if_pos h2]
    by_cases h3 : g i (k + 1) = a
    ·rw [if_pos h3]
     rw [if_pos (Or.inr ⟨h2, h3⟩)] at hcond
     rw [hcond, Int.add_assoc]
    ·rw [if_neg h3]
     rw [if_neg (fun z => z.elim (fun z => h1 z.1) (fun z => h3 z.2))] at hcond
     rw [hcond, Int.add_zero]
   ·rw [if_neg h2]
    rw [if_neg (fun z => z.elim (fun z => h1 z.1) (fun z => h2 z.1))] at hcond
    rw [hcond, Int.add_zero]
theorem len_l0 (p : List ByteArray) (wi : Nat) (h : Mid p wi) (a b : Int) (hab : a ≠ b) (g : Nat → Nat → Int) (hg : ∀ i k, i < p.length → k < wi → zbe (zag p) i k = 97 + g i k) (hw1 : 1 ≤ wi) : ∀ m i, i + m = p.length → Evs (fun q => spec_l4Length.l0 q p a b (lenU g i wi a b) (i : Int)) (lenU g p.length wi a b) := by
 have hh := h.high
 have hw := h.wide
 intro m
 induction m with
 | zero =>
  intro i hi
  obtain rfl : i = p.length := by omega
  refine Evs.step (h := fun _ => some (lenU g p.length wi a b)) (fun q => ?_) (Evs.const _)
  conv => lhs; unfold spec_l4Length.l0
  rw [if_neg (by omega)]
 | succ m ih =>
  intro i hi
  have hnx := ih (i + 1) (by omega)
  have hr := lenU_range g i wi a b (by omega) hw
  have e : lenU g (i + 1) wi a b = lenU g i wi a b + sumI (fun k => hit (g i k, g i (k + 1)) a b) (wi - 1) := rfl
  rw [e] at hnx
  have := len_l1 p wi h a b hab g hg i (by omega) (lenU g i wi a b) hr.1 (by omega) _ hnx hw1 (wi - 1) 0 (by omega)
  refine Evs.step (fun q => ?_) this
  conv => lhs; unfold spec_l4Length.l0
  rw [if_pos (by omega)]
  simp [sumI]
theorem l4Length_ev (p : List ByteArray) (wi : Nat) (h : Mid p wi) (a b : Int) (hab : a ≠ b) (g : Nat → Nat → Int) (hg : ∀ i k, i < p.length → k < wi → zbe (zag p) i k = 97 + g i k) (hw1 : 1 ≤ wi) : Evs (fun q => spec_l4Length.f q p a b) (lenU g p.length wi a b) := len_l0 p wi h a b hab g hg hw1 p.length 0 (by omega)
def besN (cs : List (List Int)) (a b : Int) : Int := if a = b then 0 else hits (touchL cs) a b
theorem besN_range {cs : List (List Int)} {rs : List Rc} (h : zcg cs rs) (a b : Int) : 0 ≤ besN cs a b ∧ besN cs a b ≤ 40000 := by
 have q1 := h.h6
 have q2 := h.w6
 unfold besN
 split
 ·omega
 ·rename_i hab
  rw [touch_hits cs a b hab]
  have r1 := lenU_range (zbe cs) cs.length (zai cs) a b (by omega) (by omega)
  have r2 := lenU_range (fun i k => zbe cs k i) (zai cs) cs.length a b (by omega) (by omega)
  omega
theorem l4Beside_ev {p : List ByteArray} {cs : List (List Int)} {rs : List Rc} (F : PlanFacts p cs rs) (a b : Int) : Evs (fun q => spec_l4Beside.f q p a b) (besN cs a b) := by
 have q1 := F.ok.h6
 have q2 := F.ok.w6
 have q3 := F.ok.h1
 have q4 := F.ok.w1
 have l1 := F.len
 unfold besN
 by_cases hab : a = b
 ·rw [if_pos hab]
  refine Evs.congr (h := fun _ => some 0) (fun q => ?_) (Evs.const _)
  unfold spec_l4Beside.f
  rw [if_pos hab]
 ·rw [if_neg hab, touch_hits cs a b hab]
  have r1 := lenU_range (zbe cs) cs.length (zai cs) a b (by omega) (by omega)
  have r2 := lenU_range (fun i k => zbe cs k i) (zai cs) cs.length a b (by omega) (by omega)
  have e1 := l4Length_ev p (zai cs) F.mid a b hab (zbe cs) (fun i k hi hk => by rw [F.nums, valAt_map F.ok.rect _ (by omega) hk]) q4
  have e2 := l4Length_ev (transOf p (zai cs)) p.length (mid_trans F.mid) a b hab (fun i k => zbe cs k i) (fun i k hi hk => by
   rw [trans_length] at hi
   rw [numsOf_trans, valAt_gridOf hi hk, F.nums, valAt_map F.ok.rect _ (by omega) hi]) (by omega)
  rw [l1] at e1
  rw [trans_length, l1] at e2
  refine Evs.congr (h := fun q => (spec_l4Length.f q p a b).bind fun t454 => ((spec_l1Trans.f q p).bind fun t455 => ((spec_l4Length.f q t455 a b).bind fun t458 => (some (wrap64 (t454 + t458)))))) (fun q => ?_) (Evs.bind e1 (Evs.bind (trans_plan F) (Evs.bind e2 ?_)))
  ·unfold spec_l4Beside.f
   rw [if_neg hab]
  ·rw [zar (by omega) (by omega)]
   exact Evs.const _
end Go.Proofs.Ytickdcegnlldjaa.Hd
namespace Go.Proofs.Ytickdcegnlldjaa.PB
open Go.RowKit Go.PW.PrintWords Go.PW.PrintLast Go.PW.PrintMore
attribute [local go_sem] zbw zbu zcb zca zbm zbl zbv zbt   -- for this text's walks alone
def impl_near.l0 : Nat → List Int → List Int → Int → Int → Option (List Int)
 | 0, _, _, _, _ => none
 | k + 1, x5, x11, x12, x13 => if x13 < x12 then (if 0 ≤ x13 then (if x13 < (x11.length : Int) then (if (rd x11 x13) > 0 then (if x5.length < 17592186044416 then (impl_near.l0 k (x5 ++ [x13]) x11 x12 (wrap64 (x13 + 1))) else (none)) else (impl_near.l0 k x5 x11 x12 (wrap64 (x13 + 1)))) else (none)) else (none)) else (some x5)
def impl_near.f (k : Nat) (l0 : List (List Int)) (a1 : Int) : Option (List Int) := if 0 ≤ a1 then (if a1 < (l0.length : Int) then (impl_near.l0 k ([] : List Int) (zbk l0 a1) ((zbk l0 a1).length : Int) 0) else (none)) else (none)
set_option maxHeartbeats 8000000 in
set_option maxRecDepth 100000 in
theorem impl_near.calls (k : Nat) (A0 : Option Addr) (c0 : Nat) (l0 : List (List Int)) (a1 : Int) (r : List Int) (w : World) (hr0 : Kd.C (Kd.slice 3 (Kd.int .i64)) w A0 l0.length l0) (hc0 : l0.length ≤ c0) (h : impl_near.f k l0 a1 = some r) :
  Calls Try.prog 106 #[.slice A0 l0.length c0, .int .i64 a1] w fun e w' => ∃ v0_ : Value, e = .returned (v0_) ∧ Kd.R (Kd.int .i64) 3 w' w.heap.size (fun _ => True) v0_ r ∧ Below w.heap.size w w' := by
 have HR0 := zaa.mk hr0
 have HC0 := zaa.mk hc0
 clear hr0 hc0
 have HB := zaa.mk (Below.refl w.heap.size w)
 have H : (if 0 ≤ a1 then (if a1 < (l0.length : Int) then (impl_near.l0 k ([] : List Int) (zbk l0 a1) ((zbk l0 a1).length : Int) 0) else (none)) else (none)) = some r := h
 clear h
 by_cases c3 : 0 ≤ a1
 ·rw [if_pos c3] at H
  have c3b0 : decide (0 ≤ a1) = true := decide_eq_true c3
  clear c3
  by_cases c4 : a1 < (l0.length : Int)
  ·rw [if_pos c4] at H
   have c4b0 : decide (a1 < (l0.length : Int)) = true := decide_eq_true c4
   clear c4
   have H' := zaa.mk H
   clear H
   have p574 : 0 ≤ (a1 : Int) := of_decide_eq_true (by first | (with_reducible assumption) | assumption)
   have q574 : a1 < (l0.length : Int) := of_decide_eq_true (by first | (with_reducible assumption) | assumption)
   obtain ⟨ad574, A574_0, c574_0, e574, hx574_0, hl574_0, hi574_0⟩ := at_L3 HR0.out a1 p574 q574
   cases e574
   have HR574_0 := zaa.mk hi574_0
   have HC574_0 := zaa.mk hl574_0
   clear hi574_0 hl574_0
   replace p574 := eq_true p574
   replace q574 := eq_true q574
   go_enter Try.func106, Try.ntmps106
   go_wp2
   go_loopg [5, 13] k (fun kq v5 v13 w' => ∃ (x5_1 : List Int) (x13_1 : Int), v13 = .int .i64 x13_1 ∧ zaa (impl_near.l0 kq x5_1 (zbk l0 a1) ((zbk l0 a1).length : Int) x13_1 = some r) ∧ zaa (kq ≤ k) ∧ zaa (Kd.R (Kd.int .i64) 3 w' w.heap.size (fun _ => True) v5 x5_1) ∧ zaa (Below w.heap.size w w'))
   case atStart => exact ⟨(([] : List Int)), (0), (by first | rfl | (simp; done) | (simp [*]; done)), H', ⟨Nat.le_refl _⟩, ⟨by first | exact Kd.R_nil _ _ _ _ _ | exact Kd.N_nil _ _ _ _ _ | exact Kd.V_nil _ _ _ _ _ | exact Kd.Q_nil _ _ _ _ _ | exact Kd.S_nil _ _ _ _ _⟩, ⟨by repeat (first | (with_reducible first | exact HB.out | apply zac | apply zab | apply zad) | exact HB.out)⟩⟩
   case round =>
    clear H'
    try clear c1
    try clear p2
    try clear c3
    try clear c3b0
    try clear c4
    try clear c4b0
    try clear hx574_0
    try clear p574
    try clear q574
    obtain ⟨x5_1, x13_1, rfl, HA, HK1, HO_5, HB⟩ := hrel
    cases gk with
    | zero => exact absurd HA.out (by simp [impl_near.l0])
    | succ k1 =>
     have H := HA.out
     clear HA
     simp only [impl_near.l0] at H
     by_cases c5 : x13_1 < ((zbk l0 a1).length : Int)
     ·rw [if_pos c5] at H
      have c5b0 : decide (x13_1 < ((zbk l0 a1).length : Int)) = true := decide_eq_true c5
      clear c5
      by_cases c6 : 0 ≤ x13_1
      ·rw [if_pos c6] at H
       have c6b0 : decide (0 ≤ x13_1) = true := decide_eq_true c6
       clear c6
       by_cases c7 : x13_1 < ((zbk l0 a1).length : Int)
       ·rw [if_pos c7] at H
        have c7b0 : decide (x13_1 < ((zbk l0 a1).length : Int)) = true := decide_eq_true c7
        clear c7
        by_cases c8 : (rd (zbk l0 a1) x13_1) > 0
        ·rw [if_pos c8] at H
         have c8b0 : decide (0 < (rd (zbk l0 a1) x13_1)) = true := decide_eq_true c8
         clear c8
         by_cases c9 : x5_1.length < 17592186044416
         ·rw [if_pos c9] at H
          have LMc9 := zaa.mk c9
          clear c9
          obtain ⟨y576, hy576⟩ : ∃ y_ : List Int, y_ = (x5_1 ++ [x13_1]) := ⟨_, rfl⟩
          replace H : (impl_near.l0 k1 y576 (zbk l0 a1) ((zbk l0 a1).length : Int) (wrap64 (x13_1 + 1))) = some r := by first | (rw [hy576]; with_reducible exact H) | (have H2_ := (Option.bind_some _ _).symm.trans H; rw [hy576]; with_reducible exact H2_) | (have H2_ := (Option.bind_some _ _).symm.trans H; with_reducible exact H2_) | with_reducible exact H | (rw [hy576]; exact H) | exact H
          have Ny576 := zaa.mk hy576
          clear hy576
          have H' := zaa.mk H
          clear H
          have p575 : 0 ≤ (x13_1 : Int) := of_decide_eq_true (by first | (with_reducible assumption) | assumption)
          have q575 : x13_1 < ((zbk l0 a1).length : Int) := of_decide_eq_true (by first | (with_reducible assumption) | assumption)
          obtain ⟨ad575, e575, hx575_0⟩ := Kd.at_int HR574_0.out x13_1 p575 q575
          cases e575
          replace hx575_0 := (HB.out.cell (World.block_lt_of_cell? w _ hx575_0)).trans hx575_0
          replace p575 := eq_true p575
          replace q575 := eq_true q575
          go_wp2_with (first | ((with_reducible refine zau (b := .append) (xs := #[.tmp 20, .tmp 22]) rfl ?_); at_builtin; refine Kd.R_append (Kd.int .i64) (w0 := w) w.heap.size rfl (.tmp 20) (.tmp 22) 24 3 (.int .i64 0) 8 rfl Try.underlying24 info3 rfl (by decide) (by omega) u5 x5_1 x13_1 [.int .i64 x13_1] (fun _ => True) (fun _ => False) rfl rfl ?aP (fun _ hk => hk.elim) ?aF ?aO ?aB ?aS ?aL ?_; (case aP => exact rfl); (case aB => exact (by repeat (first | (with_reducible first | exact HB.out | apply zac | apply zab | apply zad) | exact HB.out))); (case aF => exact (fun _ _ => trivial)); (case aO => exact (by (with_reducible repeat (first | apply Kd.R_alloc | apply Kd.R_drewN | apply Kd.R_drew)); exact HO_5.out)); (case aS => exact (zah (by repeat (first | (with_reducible first | exact HB.out | apply zac | apply zab | apply zad) | exact HB.out)))); (case aL => have := LMc9.out; omega); intro v577 w10 ho hb hg hat; rw [← Ny576.out] at ho; have n0_ := zaa.mk (hb); have n1_ := zaa.mk (ho); clear HB; clear HO_5; have HB := n0_; have HO578 := n1_; clear n0_ n1_; clear ho hb hg hat))
          go_roundg k1
          case measure => have := HK1.out; omega
          case rel => exact ⟨(y576), (wrap64 (x13_1 + 1)), (by first | rfl | (simp; done) | (simp [*]; done)), H', ⟨by have := HK1.out; omega⟩, ⟨by (with_reducible repeat (first | apply Kd.R_alloc | apply Kd.R_drewN | apply Kd.R_drew)); exact HO578.out⟩, ⟨by repeat (first | (with_reducible first | exact HB.out | apply zac | apply zab | apply zad) | exact HB.out)⟩⟩
         ·rw [if_neg c9] at H
          exact absurd H (by simp)
        ·rw [if_neg c8] at H
         have c8b0 : decide (0 < (rd (zbk l0 a1) x13_1)) = false := decide_eq_false c8
         clear c8
         have H' := zaa.mk H
         clear H
         have p575 : 0 ≤ (x13_1 : Int) := of_decide_eq_true (by first | (with_reducible assumption) | assumption)
         have q575 : x13_1 < ((zbk l0 a1).length : Int) := of_decide_eq_true (by first | (with_reducible assumption) | assumption)
         obtain ⟨ad575, e575, hx575_0⟩ := Kd.at_int HR574_0.out x13_1 p575 q575
         cases e575
         replace hx575_0 := (HB.out.cell (World.block_lt_of_cell? w _ hx575_0)).trans hx575_0
         replace p575 := eq_true p575
         replace q575 := eq_true q575
         go_wp2
         go_roundg k1
         case measure => have := HK1.out; omega
         case rel => exact ⟨(x5_1), (wrap64 (x13_1 + 1)), (by first | rfl | (simp; done) | (simp [*]; done)), H', ⟨by have := HK1.out; omega⟩, ⟨by (with_reducible repeat (first | apply Kd.R_alloc | apply Kd.R_drewN | apply Kd.R_drew)); exact HO_5.out⟩, ⟨by repeat (first | (with_reducible first | exact HB.out | apply zac | apply zab | apply zad) | exact HB.out)⟩⟩
       ·rw [if_neg c7] at H
        exact absurd H (by simp)
      ·rw [if_neg c6] at H
       exact absurd H (by simp)
     ·rw [if_neg c5] at H
      have c5b0 : decide (x13_1 < ((zbk l0 a1).length : Int)) = false := decide_eq_false c5
      clear c5
      obtain rfl := Option.some.inj H
      go_wp2
      go_ret
      exact ⟨_, by first | rfl | (simp [zak, zaj] <;> rfl) | (simp [*, zak, zaj] <;> rfl), by (with_reducible repeat (first | apply Kd.R_alloc | apply Kd.R_drewN | apply Kd.R_drew)); exact HO_5.out, by repeat (first | (with_reducible first | exact HB.out | apply zac | apply zab | apply zad) | exact HB.out)⟩
  ·rw [if_neg c4] at H
   exact absurd H (by simp)
 ·rw [if_neg c3] at H
  exact absurd H (by simp)
end Go.Proofs.Ytickdcegnlldjaa.PB
namespace Go.Proofs.Ytickdcegnlldjaa.Hd
open Go.RowKit Go.PW.PrintWords Go.PW.PrintLast Go.PW.PrintMore Go.Proofs.Ytickdcegnlldjaa.PB
theorem hit_diag (x : Int × Int) (a : Int) (h : x.1 ≠ x.2) : hit x a a = 0 := by
 unfold hit
 rw [if_neg (fun e => by subst e; exact h rfl)]
 rfl
theorem hits_trip_diag (cs : List (List Int)) (lv : Bool) (n : Nat) (a : Int) : ∀ j, hits ((trip (difB cs lv) n j).flatMap (touchW cs lv)) a a = 0
 | 0 => rfl
 | j + 1 => by
  simp only [trip]
  rw [List.flatMap_append, hits_append, hits_trip_diag cs lv n a j, hits_runs, sum_runs]
  rw [sumI_congr (g := fun _ => 0) n (fun i hi => by
   split
   ·rename_i h
    rw [dif_sides, bne_iff_ne] at h
    exact hit_diag _ a h
   ·rfl), sumI_zero]
  rfl
theorem hits_diag (cs : List (List Int)) (a : Int) : hits (touchL cs) a a = 0 := by
 unfold touchL upT levT
 rw [hits_append, hits_trip_diag, hits_trip_diag]
 rfl
theorem besN_hits (cs : List (List Int)) (a b : Int) : besN cs a b = hits (touchL cs) a b := by
 unfold besN
 split
 ·rename_i h
  subst h
  exact (hits_diag cs a).symm
 ·rfl
theorem l1Rooms_plan {p : List ByteArray} {cs : List (List Int)} {rs : List Rc} (F : PlanFacts p cs rs) : Evs (fun k => spec_l1Rooms.f k p) (rs.length : Int) := by
 have hR := l1Rooms_ev p _ (gridOk_small F.canon.grid)
 rw [F.canon.max, ← F.rooms] at hR
 exact hR
def zcq (cs : List (List Int)) (n : Nat) : List (List Int) := zbn n n fun a b => hits (touchL cs) a b
def nearL (cs : List (List Int)) (n : Nat) (a : Int) : List Int := ((List.range n).filter fun (b : Nat) => decide (besN cs a (b : Int) > 0)).map fun (b : Nat) => (b : Int)
theorem near_l0 (row : List Int) (hr : row.length ≤ 1000) : ∀ m i, i + m = row.length → Evs (fun k => impl_near.l0 k (((List.range i).filter fun b => decide (row.getD b 0 > 0)).map fun (b : Nat) => (b : Int)) row (row.length : Int) (i : Int)) (((List.range row.length).filter fun b => decide (row.getD b 0 > 0)).map fun (b : Nat) => (b : Int)) := by
 intro m
 induction m with
 | zero =>
  intro i hi
  obtain rfl : i = row.length := by omega
  refine Evs.step (h := fun _ => some (((List.range row.length).filter fun b => decide (row.getD b 0 > 0)).map fun (b : Nat) => (b : Int))) (fun k => ?_) (Evs.const _)
  conv => lhs; unfold impl_near.l0
  rw [if_neg (by omega)]
 | succ m ih =>
  intro i hi
  have hnx := ih (i + 1) (by omega)
  have hl : (((List.range i).filter fun b => decide (row.getD b 0 > 0)).map fun (b : Nat) => (b : Int)).length ≤ 1000 := by
   rw [List.length_map]
   have := List.length_filter_le (fun b => decide (row.getD b 0 > 0)) (List.range i)
   rw [List.length_range] at this
   omega
  rw [List.range_succ, List.filter_append, List.map_append] at hnx
  have hrd : rd row (i : Int) = row.getD i 0 := by unfold rd; rw [Int.toNat_natCast]
  refine Evs.step (fun k => ?_) hnx
  conv => lhs; unfold impl_near.l0
  rw [if_pos (by omega), if_pos (by omega), if_pos (by omega), hrd, zay (by omega)]
  by_cases h : row.getD i 0 > 0
  ·rw [if_pos h, if_pos (by omega)]
   simp only [List.filter_cons, h, decide_true, if_true, List.filter_nil, List.map_cons, List.map_nil]
  ·rw [if_neg h]
   simp only [List.filter_cons, h, decide_false, Bool.false_eq_true, if_false, List.filter_nil, List.map_nil, List.append_nil]
theorem touchM_row (cs : List (List Int)) (n a : Nat) (ha : a < n) : zbk (zcq cs n) (a : Int) = (List.range n).map fun (b : Nat) => hits (touchL cs) a b := by
 unfold zbk zcq
 rw [Int.toNat_natCast, List.getD_eq_getElem?_getD, gridOf_get ha]
 rfl
theorem near_ev (cs : List (List Int)) (n a : Nat) (hn : n ≤ 9) (ha : a < n) : Evs (fun k => impl_near.f k (zcq cs n) (a : Int)) (nearL cs n a) := by
 have hlen : (zcq cs n).length = n := zbf _ _ _
 have hrow := touchM_row cs n a ha
 have := near_l0 ((List.range n).map fun (b : Nat) => hits (touchL cs) a b) (by simp; omega) n 0 (by simp)
 have e : (((List.range ((List.range n).map fun (b : Nat) => hits (touchL cs) a b).length).filter fun b => decide (((List.range n).map fun (b : Nat) => hits (touchL cs) a b).getD b 0 > 0)).map fun (b : Nat) => (b : Int)) = nearL cs n a := by
  unfold nearL
  rw [List.length_map, List.length_range]
  congr 1
  refine List.filter_congr fun b hb => ?_
  have hb := List.mem_range.1 hb
  rw [List.getD_eq_getElem?_getD, List.getElem?_map, List.getElem?_range hb, besN_hits]
  rfl
 rw [e] at this
 refine Evs.congr (fun k => ?_) this
 unfold impl_near.f
 rw [if_pos (by omega), if_pos (by omega), hrow]
 simp
theorem nearL_mem (cs : List (List Int)) (n : Nat) (a x : Int) : x ∈ nearL cs n a ↔ ∃ b : Nat, x = (b : Int) ∧ b < n ∧ besN cs a (b : Int) > 0 := by
 unfold nearL
 rw [List.mem_map]
 constructor
 ·rintro ⟨b, hb, rfl⟩
  obtain ⟨h1, h2⟩ := List.mem_filter.1 hb
  exact ⟨b, rfl, List.mem_range.1 h1, of_decide_eq_true h2⟩
 ·rintro ⟨b, rfl, h1, h2⟩
  exact ⟨b, List.mem_filter.2 ⟨List.mem_range.2 h1, decide_eq_true h2⟩, rfl⟩
theorem Evs.stepNeg {α : Type} {c : Prop} {inst : Decidable c} {a h g : Nat → Option α} {r : α} (e : ∀ k, g (k + 1) = @ite _ c inst (a k) (h k)) (hc : ¬ c) (hh : Evs h r) : Evs g r := Evs.step (fun k => (e k).trans (if_neg hc)) hh
theorem Evs.stepPos {α : Type} {c : Prop} {inst : Decidable c} {a h g : Nat → Option α} {r : α} (e : ∀ k, g (k + 1) = @ite _ c inst (a k) (h k)) (hc : c) (hh : Evs a r) : Evs g r := Evs.step (fun k => (e k).trans (if_pos hc)) hh
def okTo (cs : List (List Int)) (L : List Int) (c : Int) (m : Nat) : Bool := (List.range m).all fun b => !(rd L (b : Int) == c && decide (besN cs (L.length : Int) (b : Int) > 0))
def okC (cs : List (List Int)) (L : List Int) (c : Int) : Bool := okTo cs L c L.length
def colG (cs : List (List Int)) (many : Nat) : Nat → List Int → Option (List Int)
 | 0, L => some L
 | f + 1, L => (List.range' 0 many).findSome? fun (c : Nat) => if okC cs L (c : Int) = true then colG cs many f (L ++ [(c : Int)]) else none
def colR : Option (List Int) → List Int × Bool
 | some r => (r, true)
 | none => ([], false)
theorem okTo_succ (cs : List (List Int)) (L : List Int) (c : Int) (m : Nat) : okTo cs L c (m + 1) = (okTo cs L c m && !(rd L (m : Int) == c && decide (besN cs (L.length : Int) (m : Int) > 0))) := by
 unfold okTo
 rw [List.range_succ, List.all_append]
 simp
theorem colour_l1 {p : List ByteArray} {cs : List (List Int)} {rs : List Rc} (F : PlanFacts p cs rs) (many c : Int) (L : List Int) (hL : L.length ≤ 9) (r : List Int × Bool)
  (hyes : okC cs L c = true → Evs (fun k => (spec_l4Colour.f k p (L ++ [c]) many).bind fun bt521 => (if bt521.2 = true then (some (bt521.1, true)) else (spec_l4Colour.l0 k p L many (L.length : Int) (wrap64 (c + 1))))) r)
  (hno : okC cs L c = false → Evs (fun k => spec_l4Colour.l0 k p L many (L.length : Int) (wrap64 (c + 1))) r) :
  ∀ m b, b + m = L.length → Evs (fun k => spec_l4Colour.l1 k p L many (L.length : Int) c (okTo cs L c b) (b : Int)) r := by
 intro m
 induction m with
 | zero =>
  intro b hb
  obtain rfl : b = L.length := by omega
  refine Evs.stepNeg (fun k => by conv => lhs; unfold spec_l4Colour.l1) (by omega) ?_
  cases h : okC cs L c with
  | true =>
   have h' : okTo cs L c L.length = true := h
   rw [h']
   refine Evs.pos rfl (Evs.bindS rfl (Evs.pos (by simp; omega) (Evs.bindS rfl (Evs.pos (by simp; omega) ?_))))
   rw [List.nil_append]
   exact hyes h
  | false =>
   have h' : okTo cs L c L.length = false := h
   rw [h']
   exact Evs.neg (by simp) (hno h)
 | succ m ih =>
  intro b hb
  have hnx := ih (b + 1) (by omega)
  rw [okTo_succ] at hnx
  refine Evs.stepPos (fun k => by conv => lhs; unfold spec_l4Colour.l1) (by omega) ?_
  cases h : okTo cs L c b with
  | false =>
   rw [h, Bool.false_and] at hnx
   refine Evs.neg (by simp) ?_
   rw [zay (by omega)]
   exact hnx
  | true =>
   rw [h, Bool.true_and] at hnx
   refine Evs.pos rfl (Evs.pos (by omega) (Evs.pos (by omega) ?_))
   rw [zay (by omega)]
   by_cases hc : rd L (b : Int) = c
   ·refine Evs.pos hc (Evs.bind (l4Beside_ev F _ _) ?_)
    have e : (besN cs (L.length : Int) (b : Int) == 0) = (!(rd L (b : Int) == c && decide (besN cs (L.length : Int) (b : Int) > 0))) := by
     have := besN_range F.ok (L.length : Int) (b : Int)
     rw [hc]
     by_cases hz : besN cs (L.length : Int) (b : Int) = 0
     ·simp [hz]
     ·have : besN cs (L.length : Int) (b : Int) > 0 := by omega
      simp [hz, this]
    rw [e]
    exact hnx
   ·refine Evs.neg hc ?_
    have e : (!(rd L (b : Int) == c && decide (besN cs (L.length : Int) (b : Int) > 0))) = true := by simp [hc]
    rw [e] at hnx
    exact hnx
theorem colour_ev {p : List ByteArray} {cs : List (List Int)} {rs : List Rc} (F : PlanFacts p cs rs) (many : Nat) (hm : many ≤ 9) : ∀ f L, L.length + f = rs.length → Evs (fun k => spec_l4Colour.f k p L (many : Int)) (colR (colG cs many f L)) := by
 have h9 := F.ok.many
 have hr := l1Rooms_plan F
 intro f
 induction f with
 | zero =>
  intro L hL
  refine Evs.step (h := fun k => (spec_l1Rooms.f k p).bind fun t506 => (if (L.length : Int) = t506 then (some (L, true)) else (spec_l4Colour.l0 k p L (many : Int) (L.length : Int) 0))) (fun k => by conv => lhs; unfold spec_l4Colour.f) ?_
  exact Evs.bind hr (Evs.pos (by omega) (Evs.const _))
 | succ f ih =>
  intro L hL
  refine Evs.step (h := fun k => (spec_l1Rooms.f k p).bind fun t506 => (if (L.length : Int) = t506 then (some (L, true)) else (spec_l4Colour.l0 k p L (many : Int) (L.length : Int) 0))) (fun k => by conv => lhs; unfold spec_l4Colour.f) ?_
  refine Evs.bind hr (Evs.neg (by omega) ?_)
  have key : ∀ m c, c + m = many → Evs (fun k => spec_l4Colour.l0 k p L (many : Int) (L.length : Int) (c : Int)) (colR ((List.range' c m).findSome? fun (c : Nat) => if okC cs L (c : Int) = true then colG cs many f (L ++ [(c : Int)]) else none)) := by
   intro m
   induction m with
   | zero =>
    intro c hc
    refine Evs.stepNeg (fun k => by conv => lhs; unfold spec_l4Colour.l0) (by omega) ?_
    exact Evs.const _
   | succ m ihm =>
    intro c hc
    have hnx := ihm (c + 1) (by omega)
    refine Evs.stepPos (fun k => by conv => lhs; unfold spec_l4Colour.l0) (by omega) ?_
    have e0 : okTo cs L (c : Int) 0 = true := rfl
    have := colour_l1 F (many : Int) (c : Int) L (by omega) (colR ((List.range' c (m + 1)).findSome? fun (c : Nat) => if okC cs L (c : Int) = true then colG cs many f (L ++ [(c : Int)]) else none)) ?_ ?_ L.length 0 (by omega)
    ·rw [e0] at this
     exact this
    ·intro hok
     rw [List.range'_succ, List.findSome?_cons, if_pos hok]
     have hc1 := ih (L ++ [(c : Int)]) (by simp; omega)
     refine Evs.bind hc1 ?_
     cases hg : colG cs many f (L ++ [(c : Int)]) with
     | some r => exact Evs.pos rfl (Evs.const _)
     | none =>
      refine Evs.neg (by simp [colR]) ?_
      rw [zay (by omega)]
      exact hnx
    ·intro hok
     rw [List.range'_succ, List.findSome?_cons, if_neg (by rw [hok]; simp)]
     rw [zay (by omega)]
     exact hnx
  exact key many 0 (by omega)
def zcc (cs : List (List Int)) (n : Nat) : Nat → Nat → Nat × List Int
 | 0, m => (m, [])
 | f + 1, m => match colG cs m n [] with
  | some r => (m, r)
  | none => zcc cs n f (m + 1)
def leastI (cs : List (List Int)) (n f m : Nat) : Int × List Int := (((zcc cs n f m).1 : Int), (zcc cs n f m).2)
theorem leastG_some {cs : List (List Int)} {n f m : Nat} {r : List Int} (h : colG cs m n [] = some r) : zcc cs n (f + 1) m = (m, r) := by rw [zcc, h]
theorem leastG_none {cs : List (List Int)} {n f m : Nat} (h : colG cs m n [] = none) : zcc cs n (f + 1) m = zcc cs n f (m + 1) := by rw [zcc, h]
theorem colG_iota (cs : List (List Int)) (many : Nat) : ∀ (f : Nat) (L : List Int), (∀ b : Nat, b < L.length → rd L (b : Int) < (many : Int) - (f : Nat)) → f ≤ many → ∃ r, colG cs many f L = some r
 | 0, L, _, _ => ⟨L, rfl⟩
 | f + 1, L, h, hf => by
  cases hg : colG cs many (f + 1) L with
  | some r => exact ⟨r, rfl⟩
  | none =>
   exfalso
   unfold colG at hg
   rw [List.findSome?_eq_none_iff] at hg
   have h1 := hg (many - (f + 1)) (List.mem_range'_1.2 ⟨by omega, by omega⟩)
   have hok : okC cs L ((many - (f + 1) : Nat) : Int) = true := by
    unfold okC okTo
    rw [List.all_eq_true]
    intro b hb
    have := h b (List.mem_range.1 hb)
    have hne : ¬ rd L (b : Int) = ((many - (f + 1) : Nat) : Int) := by omega
    simp [hne]
   rw [if_pos hok] at h1
   obtain ⟨r, hr⟩ := colG_iota cs many f (L ++ [((many - (f + 1) : Nat) : Int)]) (fun b hb => by
    rw [List.length_append, List.length_singleton] at hb
    unfold rd
    rw [Int.toNat_natCast, List.getD_eq_getElem?_getD]
    by_cases e : b = L.length
    ·subst e
     rw [List.getElem?_concat_length]
     simp
     omega
    ·rw [List.getElem?_append_left (by omega)]
     have := h b (by omega)
     unfold rd at this
     rw [Int.toNat_natCast, List.getD_eq_getElem?_getD] at this
     omega) (by omega)
   rw [hr] at h1
   cases h1
theorem colG_all (cs : List (List Int)) (n : Nat) : ∃ r, colG cs n n [] = some r := colG_iota cs n n [] (fun b hb => by simp at hb) (Nat.le_refl n)
theorem least_ev {p : List ByteArray} {cs : List (List Int)} {rs : List Rc} (F : PlanFacts p cs rs) (h1 : 1 ≤ rs.length) : Evs (fun k => spec_l4Least.f k p) (leastI cs rs.length 9 1) := by
 have h9 := F.ok.many
 have key : ∀ f m, m + f = 10 → 1 ≤ m → m ≤ rs.length → Evs (fun k => spec_l4Least.l0 k p (m : Int) (colR (colG cs m rs.length [])).1 (colR (colG cs m rs.length [])).2) (leastI cs rs.length f m) := by
  intro f
  induction f with
  | zero => intro m hm h1 h2; omega
  | succ f ih =>
   intro m hm h1 h2
   unfold leastI
   cases hg : colG cs m rs.length [] with
   | some r =>
    rw [leastG_some hg]
    refine Evs.stepPos (fun k => by conv => lhs; unfold spec_l4Least.l0) (show (colR (some r)).2 = true from rfl) ?_
    exact Evs.const _
   | none =>
    rw [leastG_none hg]
    refine Evs.stepNeg (fun k => by conv => lhs; unfold spec_l4Least.l0) (by simp [colR]) ?_
    have hlt : m < rs.length := by
     rcases Nat.lt_or_ge m rs.length with h | h
     ·exact h
     ·obtain rfl : m = rs.length := by omega
      obtain ⟨r, hr⟩ := colG_all cs rs.length
      rw [hr] at hg
      cases hg
    rw [zay (by omega)]
    exact Evs.bind (colour_ev F (m + 1) (by omega) rs.length [] (by simp)) (ih (m + 1) (by omega) (by omega) (by omega))
 refine Evs.bind (colour_ev F 1 (by omega) rs.length [] (by simp)) ?_
 exact key 9 1 (by omega) (by omega) h1
def firstF (p : List ByteArray) : List Int × Bool := match floorF p with
 | none => ([], false)
 | some (cs, rs) => ((zcc cs rs.length 9 1).2, true)
theorem rooms_some {cs : List (List Int)} {rs : List Rc} (h : zcg cs rs) : 1 ≤ rs.length := by
 have h1 := h.h1
 have w1 := h.w1
 have := valAt_range h 0 0 (by omega) (by omega)
 omega
def coloursF (p : List ByteArray) : Int × Bool := match floorF p with
 | none => (0, false)
 | some (cs, rs) => (((zcc cs rs.length 9 1).1 : Int), true)
theorem NearColours_ev (p : List ByteArray) (hp : smallP p) : Evs (fun k => spec_NearColours.f k p) (coloursF p) := by
 have h1 := PlanIn_ev p hp
 rcases planB_cases p with ⟨e1, f1⟩ | ⟨e1, cs, rs, f1⟩
 ·rw [e1] at h1
  have e : coloursF p = (0, false) := by unfold coloursF; rw [f1]
  rw [e]
  exact Evs.bind h1 (Evs.neg (by simp) (Evs.const _))
 ·rw [e1] at h1
  have F := floor_facts f1
  have e : coloursF p = (((zcc cs rs.length 9 1).1 : Int), true) := by unfold coloursF; rw [f1]
  rw [e]
  exact Evs.bind h1 (Evs.pos rfl (Evs.bind (least_ev F (rooms_some F.ok)) (Evs.const _)))
theorem rd_at {p : List Int} {i : Nat} {s : Int} (h : p[i]? = some s) : rd p (i : Int) = s := by
 unfold rd; rw [Int.toNat_natCast, List.getD_eq_getElem?_getD, h]; rfl
def PredI (P : Program) (f : FuncId) (caps : Array Value) (w : World) (xs : List Int) (p : Int → Bool) : Prop :=
 ∀ (W : World) (x : Int), x ∈ xs → Below w.heap.size w W → Calls P f (#[.int .i64 x] ++ caps) W fun e W' => e = .returned (.bool (p x)) ∧ Below W.heap.size W W'
def IndexIPost (w : World) (xs : List Int) (p : Int → Bool) (e : Ending) (w' : World) : Prop := ∃ i : Int, e = .returned (.int .i64 i) ∧ decide (0 ≤ i) = xs.any p ∧ Below w.heap.size w w'
set_option maxHeartbeats 4000000 in
set_option maxRecDepth 100000 in
theorem indexI_calls (f : FuncId) (fn : Func) (hf : Try.prog.funcs[f]? = some fn) (hname : (fn.name == "runtime.NumGoroutine") = false) (hb : fn.body.isSome = true) (caps : Array Value) (p : Int → Bool) (A0 : Option Addr) (c0 : Nat) (xs : List Int) (w : World)
  (hr0 : (Kd.int .i64).C w A0 xs.length xs) (hp : PredI Try.prog f caps w xs p) :
  Calls Try.prog 115 #[.slice A0 xs.length c0, .func (.func f) #[] caps] w (IndexIPost w xs p) := by
 have hn := (C_len hr0).2
 have HR0 := zaa.mk hr0
 have HP := zaa.mk hp
 have HF := zaa.mk hf
 have HN := zaa.mk hname
 have HBd := zaa.mk hb
 clear hr0 hp hf hname hb
 have b1 : (xs.length : Int) ≤ 9223372036854775807 := by omega
 go_enter Try.func115, Try.ntmps115
 go_wp2
 go_loopg [8] xs.length (fun kq v8 w' => ∃ i : Nat, v8 = .int .i64 (i : Int) ∧ zaa (i + kq = xs.length) ∧ zaa ((xs.take i).any p = false) ∧ zaa (Below w.heap.size w w'))
 case atStart => exact ⟨0, rfl, ⟨by omega⟩, ⟨by simp⟩, ⟨Below.refl _ _⟩⟩
 case round =>
  obtain ⟨i, rfl, HK, HA, HB⟩ := hrel
  by_cases hi : i < xs.length
  ·have hlt : (i : Int) < xs.length := by omega
   have hi0 : (0 : Int) ≤ i := by omega
   obtain ⟨x, hrow⟩ : ∃ x, xs[i]? = some x := ⟨_, List.getElem?_eq_getElem hi⟩
   obtain ⟨ad, e1, hx⟩ := C_int_cell HR0.out i hi
   rw [rd_at hrow] at hx
   cases e1
   replace hx := zae HB.out hx
   have HM := zaa.mk (List.mem_of_getElem? hrow)
   have HT := zaa.mk (show (xs.take (i + 1)).any p = p x by
    rw [List.take_add_one, hrow, List.any_append, HA.out]; simp)
   clear hrow
   generalize hpv : p x = b at HT
   have HPV := zaa.mk hpv
   clear hpv
   cases b
   ·go_wp2_with (first | ((with_reducible refine zaw (N := 16) rfl ?_); refine goesvL_ (some 16) rfl rfl HF.out HN.out HBd.out #[.int .i64 x] rfl rfl (by (try simp only [List.map_toArray, List.map_cons, List.map_nil]); first | done | rfl) ?_; refine (HP.out _ x HM.out HB.out).mono ?_; rintro e w8 ⟨rfl, hb8⟩; rw [HPV.out]; refine ⟨_, rfl, ?_⟩; have HB8 := zaa.mk (zaf HB.out hb8); clear hb8))
    go_roundg (xs.length - (i + 1))
    case measure => have := HK.out; omega
    case rel => exact ⟨i + 1, by first | rfl | (congr 1; omega), ⟨by have := HK.out; omega⟩, HT, HB8⟩
   ·go_wp2_with (first | ((with_reducible refine zaw (N := 16) rfl ?_); refine goesvL_ (some 16) rfl rfl HF.out HN.out HBd.out #[.int .i64 x] rfl rfl (by (try simp only [List.map_toArray, List.map_cons, List.map_nil]); first | done | rfl) ?_; refine (HP.out _ x HM.out HB.out).mono ?_; rintro e w8 ⟨rfl, hb8⟩; rw [HPV.out]; refine ⟨_, rfl, ?_⟩; have HB8 := zaa.mk (zaf HB.out hb8); clear hb8))
    go_ret
    refine ⟨i, rfl, ?_, HB8.out⟩
    rw [decide_eq_true (by omega), ← List.take_append_drop (i + 1) xs, List.any_append, HT.out]
    rfl
  ·have hge : ¬ (i : Int) < xs.length := by omega
   obtain rfl : i = xs.length := by have := HK.out; omega
   go_wp2
   go_ret
   refine ⟨-1, rfl, ?_, HB.out⟩
   have := HA.out
   rw [List.take_length] at this
   rw [this]
   rfl
set_option maxHeartbeats 4000000 in
set_option maxRecDepth 100000 in
theorem containsI_calls (f : FuncId) (fn : Func) (hf : Try.prog.funcs[f]? = some fn) (hname : (fn.name == "runtime.NumGoroutine") = false) (hb : fn.body.isSome = true) (caps : Array Value) (p : Int → Bool) (A0 : Option Addr) (c0 : Nat) (xs : List Int) (w : World)
  (hr0 : (Kd.int .i64).C w A0 xs.length xs) (hp : PredI Try.prog f caps w xs p) :
  Calls Try.prog 105 #[.slice A0 xs.length c0, .func (.func f) #[] caps] w fun e w' => e = .returned (.bool (xs.any p)) ∧ Below w.heap.size w w' := by
 have H := zaa.mk (indexI_calls f fn hf hname hb caps p A0 c0 xs w hr0 hp)
 clear hr0 hp hf hname hb
 generalize hv : xs.any p = v
 have HV := zaa.mk hv
 clear hv
 go_enter Try.func105, Try.ntmps105
 go_wp2_with (first | (go_at_call 115; refine H.out.mono ?_; rintro e w8 ⟨i, rfl, hi, hb8⟩; rw [HV.out] at hi; have HB8 := zaa.mk hb8; clear hb8))
 go_ret
 exact ⟨by rw [← hi]; rfl, HB8.out⟩
set_option maxHeartbeats 4000000 in
set_option maxRecDepth 100000 in
theorem clash_pred (w : World) (pa po pc : Nat) (A : Option Addr) (cap : Nat) (L : List Int) (c : Int) (xs : List Int) (ha : w.cell? ⟨pa, 0, none⟩ = some (.int .i64 (L.length : Int))) (ho : w.cell? ⟨po, 0, none⟩ = some (.slice A L.length cap)) (hC : (Kd.int .i64).C w A L.length L) (hc : w.cell? ⟨pc, 0, none⟩ = some (.int .i64 c)) (hx : ∀ x ∈ xs, 0 ≤ x) :
  PredI Try.prog 104 #[.pointer (some ⟨pa, 0, none⟩), .pointer (some ⟨po, 0, none⟩), .pointer (some ⟨pc, 0, none⟩)] w xs (fun b => decide (b < (L.length : Int)) && (rd L b == c)) := by
 intro W x hxm hb
 have x0 := hx x hxm
 replace ha := zae hb ha
 replace ho := zae hb ho
 replace hc := zae hb hc
 replace hC := Kd.C_below hC hb
 have HB := zaa.mk hb
 clear hb hx hxm
 show Calls _ _ #[.int .i64 x, .pointer (some ⟨pa, 0, none⟩), .pointer (some ⟨po, 0, none⟩), .pointer (some ⟨pc, 0, none⟩)] W _
 by_cases h : x < (L.length : Int)
 ·obtain ⟨b, rfl⟩ := Int.eq_ofNat_of_zero_le x0
  obtain ⟨ad, e1, hz⟩ := C_int_cell hC b (by omega)
  subst e1
  have hd : decide ((b : Int) < (L.length : Int)) = true := decide_eq_true h
  have hd2 : decide (b < L.length) = true := decide_eq_true (by omega)
  clear hC
  have HD := zaa.mk hd
  generalize hq : (rd L (b : Int) == c) = q
  have HQ := zaa.mk hq
  have hq' : (rd L (b : Int) == c) = q := hq
  clear hq
  go_enter Try.func104, Try.ntmps104
  go_upto_region 1 with (fail)
  refine start_ (n := 12) (S := fun w' => (w'.cell? ⟨pa, 0, none⟩ = some (.int .i64 (L.length : Int))) ∧ (w'.cell? ⟨po, 0, none⟩ = some (.slice (some ad) L.length cap)) ∧ (w'.cell? ⟨pc, 0, none⟩ = some (.int .i64 c)) ∧ (w'.cell? (ad.add b) = some (.int .i64 (rd L (b : Int))))) (ds := []) #[false, false, false, false, false, false, false, false, false, false, false, false] (by kernel_rfl) rfl rfl (⟨ha, ho, hc, hz⟩) (fun hHeld => ?_)
  refine zbb (i := 0) (N := some 6) (v := ?_) (a' := ?_) #[true, false, false, false, false, false, false, false, false, false, false, false] rfl rfl (by kernel_rfl) (fun _ _ _ h => h) (Or.inl ⟨by rfl, ?_⟩) ?_ ?_
  rotate_left
  ·intro w'
   go_simp
   with_reducible rfl
  rotate_left
  ·simp only [Act.put, List.setIfInBounds_toArray, List.set_cons_zero, List.set_cons_succ, zas, zat]
   rfl
  refine zci (i := 1) (N := some 7) (v := ?_) (a' := ?_) #[true, true, false, false, false, false, false, false, false, false, false, false] rfl rfl (by kernel_rfl) (fun _ _ _ h => h) (Or.inl ⟨by rfl, ?_⟩) hHeld ?_ ?_
  rotate_left
  ·rintro w' ⟨s0, s1, s2, s3⟩
   go_simp
   with_reducible rfl
  rotate_left
  ·simp only [Act.put, List.setIfInBounds_toArray, List.set_cons_zero, List.set_cons_succ, zas, zat]
   rfl
  refine zbb (i := 2) (N := some 8) (v := ?_) (a' := ?_) #[true, true, true, false, false, false, false, false, false, false, false, false] rfl rfl (by kernel_rfl) (fun _ _ _ h => h) (Or.inl ⟨by rfl, ?_⟩) ?_ ?_
  rotate_left
  ·intro w'
   go_simp
   with_reducible rfl
  rotate_left
  ·simp only [Act.put, List.setIfInBounds_toArray, List.set_cons_zero, List.set_cons_succ, zas, zat]
   rfl
  refine zbb (i := 3) (N := some 9) (v := ?_) (a' := ?_) #[true, true, true, true, false, false, false, false, false, false, false, false] rfl rfl (by kernel_rfl) (fun _ _ _ h => h) (Or.inl ⟨by rfl, ?_⟩) ?_ ?_
  rotate_left
  ·intro w'
   go_simp
   with_reducible rfl
  rotate_left
  ·simp only [Act.put, List.setIfInBounds_toArray, List.set_cons_zero, List.set_cons_succ, zas, zat]
   rfl
  refine zci (i := 4) (N := some 10) (v := ?_) (a' := ?_) #[true, true, true, true, true, false, false, false, false, false, false, false] rfl rfl (by kernel_rfl) (fun _ _ _ h => h) (Or.inl ⟨by rfl, ?_⟩) hHeld ?_ ?_
  rotate_left
  ·rintro w' ⟨s0, s1, s2, s3⟩
   go_simp
   with_reducible rfl
  rotate_left
  ·simp only [Act.put, List.setIfInBounds_toArray, List.set_cons_zero, List.set_cons_succ, zas, zat]
   rfl
  refine zbb (i := 5) (N := some 11) (v := ?_) (a' := ?_) #[true, true, true, true, true, true, false, false, false, false, false, false] rfl rfl (by kernel_rfl) (fun _ _ _ h => h) (Or.inl ⟨by rfl, ?_⟩) ?_ ?_
  rotate_left
  ·intro w'
   go_simp
   with_reducible rfl
  rotate_left
  ·simp only [Act.put, List.setIfInBounds_toArray, List.set_cons_zero, List.set_cons_succ, zas, zat]
   rfl
  refine zbb (i := 6) (N := some 12) (v := ?_) (a' := ?_) #[true, true, true, true, true, true, true, false, false, false, false, false] rfl rfl (by kernel_rfl) (fun _ _ _ h => h) (Or.inl ⟨by rfl, ?_⟩) ?_ ?_
  rotate_left
  ·intro w'
   go_simp
   with_reducible rfl
  rotate_left
  ·simp only [Act.put, List.setIfInBounds_toArray, List.set_cons_zero, List.set_cons_succ, zas, zat]
   rfl
  refine zci (i := 7) (N := some 13) (v := ?_) (a' := ?_) #[true, true, true, true, true, true, true, true, false, false, false, false] rfl rfl (by kernel_rfl) (fun _ _ _ h => h) (Or.inl ⟨by rfl, ?_⟩) hHeld ?_ ?_
  rotate_left
  ·rintro w' ⟨s0, s1, s2, s3⟩
   go_simp
   with_reducible rfl
  rotate_left
  ·simp only [Act.put, List.setIfInBounds_toArray, List.set_cons_zero, List.set_cons_succ, zas, zat]
   rfl
  refine zci (i := 8) (N := some 14) (v := ?_) (a' := ?_) #[true, true, true, true, true, true, true, true, true, false, false, false] rfl rfl (by kernel_rfl) (fun _ _ _ h => h) (Or.inl ⟨by rfl, ?_⟩) hHeld ?_ ?_
  rotate_left
  ·rintro w' ⟨s0, s1, s2, s3⟩
   go_simp
   with_reducible rfl
  rotate_left
  ·simp only [Act.put, List.setIfInBounds_toArray, List.set_cons_zero, List.set_cons_succ, zas, zat]
   rfl
  refine zbb (i := 9) (N := some 15) (v := ?_) (a' := ?_) #[true, true, true, true, true, true, true, true, true, true, false, false] rfl rfl (by kernel_rfl) (fun _ _ _ h => h) (Or.inl ⟨by rfl, ?_⟩) ?_ ?_
  rotate_left
  ·intro w'
   go_simp
   with_reducible rfl
  rotate_left
  ·simp only [Act.put, List.setIfInBounds_toArray, List.set_cons_zero, List.set_cons_succ, zas, zat]
   rfl
  refine zbb (i := 10) (N := some 16) (v := ?_) (a' := ?_) #[true, true, true, true, true, true, true, true, true, true, true, false] rfl rfl (by kernel_rfl) (fun _ _ _ h => h) (Or.inl ⟨by rfl, ?_⟩) ?_ ?_
  rotate_left
  ·intro w'
   go_simp
   with_reducible rfl
  rotate_left
  ·simp only [Act.put, List.setIfInBounds_toArray, List.set_cons_zero, List.set_cons_succ, zas, zat]
   rfl
  refine zbb (i := 11) (N := some 5) (v := ?_) (a' := ?_) #[true, true, true, true, true, true, true, true, true, true, true, true] rfl rfl (by kernel_rfl) (fun _ _ _ h => h) (Or.inl ⟨by rfl, ?_⟩) ?_ ?_
  rotate_left
  ·intro w'
   go_simp
   with_reducible rfl
  rotate_left
  ·simp only [Act.put, List.setIfInBounds_toArray, List.set_cons_zero, List.set_cons_succ, zas, zat]
   rfl
  refine done_ (by kernel_rfl) ?_
  go_wp2
  go_ret
  exact ⟨by rw [HD.out, hq']; rfl, below_drew (Below.refl _ _)⟩
 ·have hd : decide (x < (L.length : Int)) = false := decide_eq_false h
  clear hC
  go_enter Try.func104, Try.ntmps104
  go_upto_region 1 with (fail)
  refine start_ (n := 12) (S := fun w' => (w'.cell? ⟨pa, 0, none⟩ = some (.int .i64 (L.length : Int))) ∧ (w'.cell? ⟨po, 0, none⟩ = some (.slice A L.length cap)) ∧ (w'.cell? ⟨pc, 0, none⟩ = some (.int .i64 c))) (ds := []) #[false, false, false, false, false, false, false, false, false, false, false, false] (by kernel_rfl) rfl rfl (⟨ha, ho, hc⟩) (fun hHeld => ?_)
  refine zbb (i := 0) (N := some 6) (v := ?_) (a' := ?_) #[true, false, false, false, false, false, false, false, false, false, false, false] rfl rfl (by kernel_rfl) (fun _ _ _ h => h) (Or.inl ⟨by rfl, ?_⟩) ?_ ?_
  rotate_left
  ·intro w'
   go_simp
   with_reducible rfl
  rotate_left
  ·simp only [Act.put, List.setIfInBounds_toArray, List.set_cons_zero, List.set_cons_succ, zas, zat]
   rfl
  refine zci (i := 1) (N := some 7) (v := ?_) (a' := ?_) #[true, true, false, false, false, false, false, false, false, false, false, false] rfl rfl (by kernel_rfl) (fun _ _ _ h => h) (Or.inl ⟨by rfl, ?_⟩) hHeld ?_ ?_
  rotate_left
  ·rintro w' ⟨s0, s1, s2⟩
   go_simp
   with_reducible rfl
  rotate_left
  ·simp only [Act.put, List.setIfInBounds_toArray, List.set_cons_zero, List.set_cons_succ, zas, zat]
   rfl
  refine zbb (i := 2) (N := some 8) (v := ?_) (a' := ?_) #[true, true, true, false, false, false, false, false, false, false, false, false] rfl rfl (by kernel_rfl) (fun _ _ _ h => h) (Or.inl ⟨by rfl, ?_⟩) ?_ ?_
  rotate_left
  ·intro w'
   go_simp
   with_reducible rfl
  rotate_left
  ·simp only [Act.put, List.setIfInBounds_toArray, List.set_cons_zero, List.set_cons_succ, zas, zat]
   rfl
  refine zbb (i := 3) (N := some 9) (v := ?_) (a' := ?_) #[true, true, true, true, false, false, false, false, false, false, false, false] rfl rfl (by kernel_rfl) (fun _ _ _ h => h) (Or.inl ⟨by rfl, ?_⟩) ?_ ?_
  rotate_left
  ·intro w'
   go_simp
   with_reducible rfl
  rotate_left
  ·simp only [Act.put, List.setIfInBounds_toArray, List.set_cons_zero, List.set_cons_succ, zas, zat]
   rfl
  refine zbb (i := 4) (N := some 10) (v := undef) (a' := ?_) #[true, true, true, true, true, false, false, false, false, false, false, false] rfl rfl (by kernel_rfl) (fun _ _ _ h => h) (Or.inr ⟨by rfl, rfl⟩) ?_ ?_
  rotate_left
  ·simp only [Act.put, List.setIfInBounds_toArray, List.set_cons_zero, List.set_cons_succ, zas, zat]
   rfl
  refine zbb (i := 5) (N := some 11) (v := undef) (a' := ?_) #[true, true, true, true, true, true, false, false, false, false, false, false] rfl rfl (by kernel_rfl) (fun _ _ _ h => h) (Or.inr ⟨by rfl, rfl⟩) ?_ ?_
  rotate_left
  ·simp only [Act.put, List.setIfInBounds_toArray, List.set_cons_zero, List.set_cons_succ, zas, zat]
   rfl
  refine zbb (i := 6) (N := some 12) (v := undef) (a' := ?_) #[true, true, true, true, true, true, true, false, false, false, false, false] rfl rfl (by kernel_rfl) (fun _ _ _ h => h) (Or.inr ⟨by rfl, rfl⟩) ?_ ?_
  rotate_left
  ·simp only [Act.put, List.setIfInBounds_toArray, List.set_cons_zero, List.set_cons_succ, zas, zat]
   rfl
  refine zbb (i := 7) (N := some 13) (v := undef) (a' := ?_) #[true, true, true, true, true, true, true, true, false, false, false, false] rfl rfl (by kernel_rfl) (fun _ _ _ h => h) (Or.inr ⟨by rfl, rfl⟩) ?_ ?_
  rotate_left
  ·simp only [Act.put, List.setIfInBounds_toArray, List.set_cons_zero, List.set_cons_succ, zas, zat]
   rfl
  refine zbb (i := 8) (N := some 14) (v := undef) (a' := ?_) #[true, true, true, true, true, true, true, true, true, false, false, false] rfl rfl (by kernel_rfl) (fun _ _ _ h => h) (Or.inr ⟨by rfl, rfl⟩) ?_ ?_
  rotate_left
  ·simp only [Act.put, List.setIfInBounds_toArray, List.set_cons_zero, List.set_cons_succ, zas, zat]
   rfl
  refine zbb (i := 9) (N := some 15) (v := undef) (a' := ?_) #[true, true, true, true, true, true, true, true, true, true, false, false] rfl rfl (by kernel_rfl) (fun _ _ _ h => h) (Or.inr ⟨by rfl, rfl⟩) ?_ ?_
  rotate_left
  ·simp only [Act.put, List.setIfInBounds_toArray, List.set_cons_zero, List.set_cons_succ, zas, zat]
   rfl
  refine zbb (i := 10) (N := some 16) (v := ?_) (a' := ?_) #[true, true, true, true, true, true, true, true, true, true, true, false] rfl rfl (by kernel_rfl) (fun _ _ _ h => h) (Or.inl ⟨by rfl, ?_⟩) ?_ ?_
  rotate_left
  ·intro w'
   go_simp
   with_reducible rfl
  rotate_left
  ·simp only [Act.put, List.setIfInBounds_toArray, List.set_cons_zero, List.set_cons_succ, zas, zat]
   rfl
  refine zbb (i := 11) (N := some 5) (v := ?_) (a' := ?_) #[true, true, true, true, true, true, true, true, true, true, true, true] rfl rfl (by kernel_rfl) (fun _ _ _ h => h) (Or.inl ⟨by rfl, ?_⟩) ?_ ?_
  rotate_left
  ·intro w'
   go_simp
   with_reducible rfl
  rotate_left
  ·simp only [Act.put, List.setIfInBounds_toArray, List.set_cons_zero, List.set_cons_succ, zas, zat]
   rfl
  refine done_ (by kernel_rfl) ?_
  go_wp2
  go_ret
  exact ⟨rfl, below_drew (Below.refl _ _)⟩
abbrev kWl := k72
def zeroW : Wl := ⟨false, 0, 0, 0⟩
theorem wl_cells {W : World} {B g n cap : Nat} {ok : Nat → Prop} {ws : List Wl} (h : Kd.R kWl 72 W B ok (.slice (some ⟨g, 0, none⟩) n cap) ws) (k : Nat) (hk : k < ws.length) :
  W.cell? ⟨g, k * 4, none⟩ = some (.bool (ws.getD k zeroW).f0) ∧ W.cell? ⟨g, k * 4 + 1, none⟩ = some (.int .i64 (ws.getD k zeroW).f1) ∧ W.cell? ⟨g, k * 4 + 2, none⟩ = some (.int .i64 (ws.getD k zeroW).f2) ∧ W.cell? ⟨g, k * 4 + 3, none⟩ = some (.int .i64 (ws.getD k zeroW).f3) := by
 obtain ⟨A, c, e, hl, hC⟩ := Kd.R_reads h
 injection e with e1 e2 e3
 subst e1; subst e2
 obtain ⟨ad, e4, h0, h1, h2, h3⟩ := at_T72 hC (k : Int) (by omega) (by omega)
 injection e4 with e4
 subst e4
 have e5 : zbp ws (k : Int) = ws.getD k zeroW := by
  unfold zbp
  rw [show ((k : Int).toNat) = k by omega]
  rfl
 rw [show ((k : Int).toNat) = k by omega, add_plain, e5] at h0 h1 h2 h3
 exact ⟨h0, h1, h2, h3⟩
theorem wallsOf_length (cs : List (List Int)) : (wallsOf cs).length = (allT cs).length := by simp [wallsOf_eq, allT]
theorem wallsOf_bound {cs : List (List Int)} {rs : List Rc} (h : zcg cs rs) : (wallsOf cs).length ≤ 72 := by
 have := wall_bound h
 rw [wallsOf_length]
 unfold allT
 rw [List.length_append]
 omega
end Go.Proofs.Ytickdcegnlldjaa.Hd
