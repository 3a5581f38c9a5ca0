/- The statement FnExactPlanTightSaid: FnExactPlanTight answers true, whatever its arguments are; they read afterwards as they read before. -/
import Derived.Test.YtickdcegnlldjaaRows
import Derived.WalkKit
import Derived.ProofKit
import Derived.OpenShut
import Derived.ShutString
import Derived.ChangeOld
import Derived.Below
import Derived.SizedLaws
import Derived.SliceStrings
import Derived.Test.YtickdcegnlldjaaCLTd
set_option linter.unusedSimpArgs false
set_option linter.unusedVariables false
namespace Go.Proofs.Ytickdcegnlldjaa.fnExactPlanTight
open Go.ChangeShapes Go.WideShapes Go.ChangeAt Go.RowKit
open Go.ChangeMaps (open_string shut_string)
open Go.Proofs.YtickdcegnlldjaaW.PrintWords Go.Proofs.Ytickdcegnlldjaa.Hd Go.Proofs.Ytickdcegnlldjaa.LT
theorem own : ownKnob Try.prog.godebug = none := by kernel_rfl
theorem laidOut : laidOutB Try.prog = true := by kernel_rfl
theorem cells9 : Try.prog.cellsOf 9 = 1 := by kernel_rfl
theorem texts_row {w : World} {x : Addr} {len cap : Nat} {ss : List ByteArray} (hl : len ≤ cap) (hm : cap ≤ maxLen) (hz : ss.length = cap) (hcell : ∀ i, i < ss.length → w.cell? (x.add i) = some (.string (ss.getD i ByteArray.empty))) (hws : ∀ s ∈ ss, s.size ≤ maxLen) :
  Kd.C Kd.string w (some x) (ss.take len).length (ss.take len) ∧ (ss.take len).length = len ∧ fits (ss.take len) := by
 have hlen : (ss.take len).length = len := by rw [List.length_take]; omega
 refine ⟨⟨rfl, by rw [hlen]; unfold maxLen at hm; omega, fun _ => ⟨x, rfl, fun j p hj => ⟨[.string p], rfl, rfl, fun i u hu => ?_⟩⟩⟩, hlen, by rw [hlen]; unfold maxLen at hm; omega, fun s hs => by have := hws s (List.mem_of_mem_take hs); unfold maxLen at this; exact this⟩
 have hjl := (List.getElem?_eq_some_iff.1 hj).1
 have hi : i = 0 := by
  rcases Nat.eq_zero_or_pos i with h0 | h0
  ·exact h0
  ·rw [List.getElem?_eq_none (by simp; omega)] at hu; cases hu
 subst hi
 have hu' : Value.string p = u := by simpa using hu
 subst hu'
 have h1 := hcell j (by omega)
 rw [List.getElem?_take_of_lt (by omega)] at hj
 rw [List.getD_eq_getElem?_getD, hj] at h1
 show w.cell? (x.add (j * 1 + 0)) = _
 rw [Nat.mul_one, Nat.add_zero]
 exact h1
theorem texts_none (w : World) : Kd.C Kd.string w none ([] : List ByteArray).length [] ∧ fits [] := ⟨⟨rfl, by simp, fun h => by simp at h⟩, by simp, by simp⟩
set_option maxRecDepth 100000 in
theorem lifted (os : Os) (started : os.Started) (H : Type) (enc : TypeId × Value → H) :
  ReturnsInHanded {} Try.checked os 7 .any (Rows.fnExactPlanTightSpec.pre6 enc Try.prog Try.f7 Rows.fnExactPlanTightRow.domain false) (Rows.fnExactPlanTightSpec.post enc Try.prog Try.f7 false true false false) := by
 refine returnsInHanded_of_change_sized (C := Try.checked) own started (by kernel_rfl) Try.func7
  (ChangeSpec.witness6 (enc := enc) (C := Try.checked) false ⟨#[], #[.slice none 0 0], []⟩ 8 (by kernel_rfl) (by kernel_rfl) (by kernel_rfl) (by kernel_rfl)) ?_
 intro W base args ds gs before hval0 hW hcnd hsz0 _
 have hsz : (DataW.weightsEach Try.prog (Try.f7.params.toList ++ Rows.fnExactPlanTightSpec.plain.varTypes Try.prog) (ds ++ gs)).all (· ≤ reachBytes) = true := hsz0
 have hval : ∀ (j : Nat) t v, Try.f7.params[j]? = some t → args[j]? = some v → Value.okWide Try.prog W .any base t v := hval0
 have hW' := hW
 obtain ⟨p, q, hA0, hV, rfl, hfz, hnd⟩ := hW
 have hA : DataW.TrodAll enc Try.prog W 0 (fun _ => true) true Try.f7.params.toList args.toList ds p := hA0
 rw [Try.params7] at hA hval hsz
 obtain ⟨v0, vs0, d0, ds0, p0, q0, hargs, rfl, rfl, h0, r0⟩ := trodAll_cons hA
 obtain ⟨rfl, rfl, rfl⟩ := trodAll_nil r0
 obtain rfl : args = #[v0] := by cases args; simp_all
 obtain ⟨rfl, rfl⟩ := trodVars_none hV
 obtain ⟨a0, len0, cap0, rfl⟩ := okWide_slice Try.underlying22 (hval 0 22 v0 rfl rfl)
 have k0 := h0
 have lt0 : ∀ x ∈ p0, x.block < W.heap.size := by obtain ⟨m, hm⟩ := k0; exact DataW.trod_lt m _ _ _ hm
 obtain ⟨l0, hc0, hl0, hf0, hq0⟩ : ∃ l, Kd.C Kd.string W a0 l.length l ∧ len0 = l.length ∧ fits l ∧ l.length ≤ cap0 := by
  obtain ⟨fuel, hf⟩ := h0
  rcases open_strings Try.underlying22 Try.underlying9 cells9 hf with ⟨hcs, _⟩ | ⟨x, l, c, ss, hcs, _, hl, hm, hz, _, hcell, hws⟩
  ·simp [Value.cells] at hcs
   obtain ⟨rfl, rfl, rfl⟩ := hcs
   exact ⟨[], (texts_none W).1, rfl, (texts_none W).2, by simp⟩
  ·simp [Value.cells] at hcs
   obtain ⟨rfl, rfl, rfl⟩ := hcs
   obtain ⟨c1, c2, c3⟩ := texts_row hl hm (by simpa using hz) hcell hws
   exact ⟨_, c1, c2.symm, c3, by omega⟩
 subst hl0
 clear hA0 hval0 hsz0 hsz
 obtain ⟨K, hK⟩ := law_ev l0 hf0
 refine (laws_FnExactPlanTight.calls K _ _ l0 true W hc0 hq0 (hK K (Nat.le_refl K))).mono fun e W' ⟨he, bel0⟩ => ?_
 have bel : Below W.heap.size W W' := bel0
 subst he
 exact ⟨_, rfl, _, _, _, [], _, [], hW', trodAll_mk1 (shut_bool Try.underlying4 _), (trodAll_cons_mk (Below.trod laidOut (by kernel_rfl) (of_decide_eq_true (by kernel_rfl)) k0 bel lt0) trodAll_mk0), rfl, bel.frame _, fun h => by cases h⟩
theorem over : Rows.fnExactPlanTightRow.holds Try.pinned (OpenSpec.ofChange Rows.fnExactPlanTightSpec) :=
 OpenClaim.holds_of_wide 7 Try.f7 rfl rfl rfl rfl rfl rfl rfl ⟨rfl, rfl, rfl, rfl, rfl⟩ rfl rfl rfl rfl rfl (by kernel_rfl) Try.func7 (by kernel_rfl)
  (of_decide_eq_true (by kernel_rfl)) (by unfold Func.isWrapper; first | (rw [if_pos (by decide +kernel)]; kernel_rfl) | (rw [if_neg (by decide +kernel)]; exact ⟨rfl, rfl⟩))
  (fun os started H enc _ => lifted os started H enc)
theorem proved : Rows.FnExactPlanTightSaid := over
end Go.Proofs.Ytickdcegnlldjaa.fnExactPlanTight
namespace Go.Proofs.Ytickdcegnlldjaa
/-- The row, under a short name, for the claim. -/
theorem fnExactPlanTight_holds : Rows.FnExactPlanTightSaid := fnExactPlanTight.proved
end Go.Proofs.Ytickdcegnlldjaa
