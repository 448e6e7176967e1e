import Derived.Test.YtlhcaangdenoaaaRows
import Derived.Test.YtlhcaangdenoaaaFacts
import Derived.Test.YtlhcaangdenoaaaOpen
import Derived.Test.YtlhcaangdenoaaaValues06
import Derived.WalkKit
import Derived.ProofKit
import Derived.OpenShut
import Derived.ShutString
import Derived.ChangeOld
import Derived.Below
import Derived.SizedLaws
set_option linter.unusedVariables false
namespace Go.Proofs.Ytlhcaangdenoaaa.pairValues
open Go.ChangeShapes Go.WideShapes Go.ChangeAt Go.RowKit Go.Sx Go.Proofs.Ytlhcaangdenoaaa.Sp
theorem own : ownKnob Try.prog.godebug = none := by kernel_rfl
theorem laidOut : laidOutB Try.prog = true := by kernel_rfl
set_option maxRecDepth 100000 in
theorem lifted (os : Os) (started : os.Started) (I : Type) (enc : TypeId × Value → I) :
    ReturnsInHanded {} Try.checked os 5 .any (Rows.pairValuesSpec.pre6 enc Try.prog Try.f5 Rows.pairValuesRow.domain false) (Rows.pairValuesSpec.post enc Try.prog Try.f5 false true false false) := by
  refine returnsInHanded_of_change_sized (C := Try.checked) own started (by kernel_rfl) Try.func5
    (ChangeSpec.witness6 (enc := enc) (C := Try.checked) false ⟨#[], #[.int .u64 0, .agg #[.int .i64 0, .slice none 0 0], .agg #[.int .u64 0, .int .u64 0]], []⟩ 8 (by kernel_rfl) (by kernel_rfl) (by kernel_rfl) (by kernel_rfl)) ?_
  intro W base args ds gs before hval0 hW hcnd hsz0 _
  have hsz : (DataW.weightsEach Try.prog (Try.f5.params.toList ++ Rows.pairValuesSpec.plain.varTypes Try.prog) (ds ++ gs)).all (· ≤ reachBytes) = true := hsz0
  have hval : ∀ (j : Nat) t v, Try.f5.params[j]? = some t → args[j]? = some v → Value.okWide Try.prog W .any base t v := hval0
  have hW' := hW
  obtain ⟨p, q, hA0, hV, rfl, hfz, hnd⟩ := hW
  have hA : DataW.TrodAll enc Try.prog W 0 (fun _ => true) true Try.f5.params.toList args.toList ds p := hA0
  rw [Try.params5] at hA hval hsz
  obtain ⟨v0, vs0, d0, ds0, p0, q0, hargs, rfl, rfl, h0, r0⟩ := trodAll_cons hA
  obtain ⟨v1, vs1, d1, ds1, p1, q1, rfl, rfl, rfl, h1, r1⟩ := trodAll_cons r0
  obtain ⟨v2, vs2, d2, ds2, p2, q2, rfl, rfl, rfl, h2, r2⟩ := trodAll_cons r1
  obtain ⟨rfl, rfl, rfl⟩ := trodAll_nil r2
  obtain rfl : args = #[v0, v1, v2] := by cases args; simp_all
  obtain ⟨rfl, rfl⟩ := trodVars_none hV
  have lt0 : ∀ x ∈ p0, x.block < W.heap.size := by obtain ⟨m, hm⟩ := h0; exact DataW.trod_lt m _ _ _ hm
  have y0 := weightsEach_get hsz (t := 22) (j := 0) (d := d0) rfl rfl
  have k0 := h0
  have lt1 : ∀ x ∈ p1, x.block < W.heap.size := by obtain ⟨m, hm⟩ := h1; exact DataW.trod_lt m _ _ _ hm
  have y1 := weightsEach_get hsz (t := 42) (j := 1) (d := d1) rfl rfl
  have k1 := h1
  have lt2 : ∀ x ∈ p2, x.block < W.heap.size := by obtain ⟨m, hm⟩ := h2; exact DataW.trod_lt m _ _ _ hm
  have y2 := weightsEach_get hsz (t := 43) (j := 2) (d := d2) rfl rfl
  have k2 := h2
  obtain ⟨a0, rfl, b0⟩ := arg_u64 Try.underlying22 (hval 0 22 v0 rfl rfl) h0
  obtain ⟨cs1, rfl, hn1, hf1⟩ := arg_struct Try.underlying42 (hval 1 42 v1 rfl rfl) h1 y1
  obtain ⟨fu1_0, x1_0, e1_0, z1_0⟩ := hf1 0 _ rfl
  obtain ⟨a1_0, u1_0, s1_0, g1_0⟩ := (opens_int Try.underlying3) _ _ _ _ _ _ _ e1_0 z1_0
  obtain ⟨fu1_1, x1_1, e1_1, z1_1⟩ := hf1 1 _ rfl
  obtain ⟨a1_1, u1_1, s1_1, g1_1⟩ := (opens_slice Try.underlying23 (by kernel_rfl) (of_decide_eq_true (by kernel_rfl)) (opens_slice Try.underlying30 (by kernel_rfl) (of_decide_eq_true (by kernel_rfl)) (opens_u64 Try.underlying22))) _ _ _ _ _ _ _ e1_1 z1_1
  obtain ⟨w1_0, w1_1, rfl⟩ : ∃ w1_0 w1_1, cs1 = #[w1_0, w1_1] := agg_2 (hn1.trans (by kernel_rfl))
  obtain rfl : w1_0 = u1_0 := by have hc : Try.prog.cellsOf 3 = 1 := (by kernel_rfl); simpa [hc] using s1_0
  obtain ⟨rfl, b1_0⟩ := g1_0
  obtain rfl : w1_1 = u1_1 := by have hc : Try.prog.cellsOf 23 = 1 := (by kernel_rfl); simpa [hc] using s1_1
  obtain ⟨A1_1, n1_1, c1_1, rfl, b1_1⟩ := g1_1
  obtain ⟨cs2, rfl, hn2, hf2⟩ := arg_array Try.underlying43 (hval 2 43 v2 rfl rfl) h2 y2
  obtain ⟨fu2_0, x2_0, e2_0, z2_0⟩ := hf2 0 (by omega)
  obtain ⟨a2_0, u2_0, s2_0, g2_0⟩ := (opens_u64 Try.underlying22) _ _ _ _ _ _ _ e2_0 z2_0
  obtain ⟨fu2_1, x2_1, e2_1, z2_1⟩ := hf2 1 (by omega)
  obtain ⟨a2_1, u2_1, s2_1, g2_1⟩ := (opens_u64 Try.underlying22) _ _ _ _ _ _ _ e2_1 z2_1
  obtain ⟨w2_0, w2_1, rfl⟩ : ∃ w2_0 w2_1, cs2 = #[w2_0, w2_1] := agg_2 (hn2.trans (by kernel_rfl))
  obtain rfl : w2_0 = u2_0 := by have hc : Try.prog.cellsOf 22 = 1 := (by kernel_rfl); simpa [hc] using s2_0
  obtain ⟨rfl, b2_0⟩ := g2_0
  obtain rfl : w2_1 = u2_1 := by have hc : Try.prog.cellsOf 22 = 1 := (by kernel_rfl); simpa [hc] using s2_1
  obtain ⟨rfl, b2_1⟩ := g2_1
  clear hA0 hval0 hsz0 hsz
  refine (PairValues_spR b0 b1_0 b1_1 b2_0 b2_1 (K := fun v H' => v = .bool true ∧ Ext W.heap H') (fun H' hE => ⟨rfl, hE⟩) W rfl).mono fun e W' ⟨v, he, hs, hv, hE⟩ => ?_
  subst he
  subst hv
  have bel : Below W.heap.size W W' := ⟨hs.os, hs.tape, hs.output, hE.size, fun i hi => hE.get i hi⟩
  exact ⟨_, rfl, _, _, _, [], _, [], hW', trodAll_mk1 (shut_bool Try.underlying4 _), (trodAll_cons_mk (Below.trod laidOut (by kernel_rfl) (of_decide_eq_true (by kernel_rfl)) k0 bel lt0) (trodAll_cons_mk (Below.trod laidOut (by kernel_rfl) (of_decide_eq_true (by kernel_rfl)) k1 bel lt1) (trodAll_cons_mk (Below.trod laidOut (by kernel_rfl) (of_decide_eq_true (by kernel_rfl)) k2 bel lt2) trodAll_mk0))), rfl, bel.frame _, fun h => by cases h⟩
theorem over : Rows.pairValuesRow.holds Try.pinned (OpenSpec.ofChange Rows.pairValuesSpec) :=
  OpenClaim.holds_of_wide 5 Try.f5 rfl rfl rfl rfl rfl rfl rfl ⟨rfl, rfl, rfl, rfl, rfl⟩ rfl rfl rfl rfl rfl (by kernel_rfl) Try.func5 (Facts.joined_of Facts.enters Facts.final Facts.made (by kernel_rfl))
    (of_decide_eq_true (by kernel_rfl)) (by unfold Func.isWrapper; first | (rw [if_pos (by decide +kernel)]; kernel_rfl) | (rw [if_neg (by decide +kernel)]; exact ⟨rfl, rfl⟩))
    (fun os started I enc _ => lifted os started I enc)
theorem proved : Rows.PairValuesSaid := over
end Go.Proofs.Ytlhcaangdenoaaa.pairValues
namespace Go.Proofs.Ytlhcaangdenoaaa
theorem pairValues_holds : Rows.PairValuesSaid := pairValues.proved
end Go.Proofs.Ytlhcaangdenoaaa
#print axioms Go.Proofs.Ytlhcaangdenoaaa.pairValues_holds
