/- PairHeld: the statement holds of every input of the row; no condition. -/
import Derived.Test.YtlhcaangdenoaaaRows
import Derived.Test.YtlhcaangdenoaaaUFacts
import Derived.Test.YtlhcaangdenoaaaUOpens
import Derived.Test.YtlhcaangdenoaaaUQY
import Derived.WalkKit
import Derived.ProofKit
import Derived.OpenShut
import Derived.ShutString
import Derived.ChangeOld
import Derived.Below
import Derived.SizedLaws
namespace Go.ChangeAt
end Go.ChangeAt
namespace Go.ChangeShapes
end Go.ChangeShapes
namespace Go.Lf
end Go.Lf
namespace Go.Proofs.Ytlhcaangdenoaaa.Pl
end Go.Proofs.Ytlhcaangdenoaaa.Pl
namespace Go.Proofs.Ytlhcaangdenoaaa.Sh
end Go.Proofs.Ytlhcaangdenoaaa.Sh
namespace Go.RowKit
end Go.RowKit
namespace Go.Sx
end Go.Sx
namespace Go.WideShapes
end Go.WideShapes
set_option linter.unusedVariables false
namespace Go.Proofs.Ytlhcaangdenoaaa.pairHeld
open Go.ChangeShapes Go.WideShapes Go.ChangeAt Go.RowKit Go.Sx Go.Lf Go.Proofs.Ytlhcaangdenoaaa.Sh Go.Proofs.Ytlhcaangdenoaaa.Pl
theorem own : ownKnob Try.prog.godebug = none := by kernel_rfl
theorem laidOut : laidOutB Try.prog = true := by kernel_rfl
set_option maxRecDepth 100000 in
theorem lifted (os : Os) (started : os.Started) (I : Type) (enc : TypeId × Value → I) :
    ReturnsInHanded {} Try.checked os 23 .any (Rows.pairHeldSpec.pre6 enc Try.prog Try.f23 Rows.pairHeldRow.domain false) (Rows.pairHeldSpec.post enc Try.prog Try.f23 false true false false) := by
  refine returnsInHanded_of_change_sized (C := Try.checked) own started (by kernel_rfl) Try.func23
    (ChangeSpec.witness6 (enc := enc) (C := Try.checked) false ⟨#[], #[.int .u64 0, .agg #[.int .i64 0, .slice none 0 0, .slice none 0 0]], []⟩ 8 (by kernel_rfl) (by kernel_rfl) (by kernel_rfl) (by kernel_rfl)) ?_
  intro W base args ds gs before hval0 hW hcnd hsz0 _
  have hsz : (DataW.weightsEach Try.prog (Try.f23.params.toList ++ Rows.pairHeldSpec.plain.varTypes Try.prog) (ds ++ gs)).all (· ≤ reachBytes) = true := hsz0
  have hval : ∀ (j : Nat) t v, Try.f23.params[j]? = some t → args[j]? = some v → Value.okWide Try.prog W .any base t v := hval0
  have hW' := hW
  obtain ⟨p, q, hA0, hV, rfl, hfz, hnd⟩ := hW
  have hA : DataW.TrodAll enc Try.prog W 0 (fun _ => true) true Try.f23.params.toList args.toList ds p := hA0
  rw [Try.params23] at hA hval hsz
  obtain ⟨v0, vs0, d0, ds0, p0, q0, hargs, rfl, rfl, h0, r0⟩ := trodAll_cons hA
  obtain ⟨v1, vs1, d1, ds1, p1, q1, rfl, rfl, rfl, h1, r1⟩ := trodAll_cons r0
  obtain ⟨rfl, rfl, rfl⟩ := trodAll_nil r1
  obtain rfl : args = #[v0, v1] := by cases args; simp_all
  obtain ⟨rfl, rfl⟩ := trodVars_none hV
  have lt0 : ∀ x ∈ p0, x.block < W.heap.size := by obtain ⟨m, hm⟩ := h0; exact DataW.trod_lt m _ _ _ hm
  have y0 := Go.Lf.weightsEach_get hsz (t := 22) (j := 0) (d := d0) rfl rfl
  have k0 := h0
  have lt1 : ∀ x ∈ p1, x.block < W.heap.size := by obtain ⟨m, hm⟩ := h1; exact DataW.trod_lt m _ _ _ hm
  have y1 := Go.Lf.weightsEach_get hsz (t := 57) (j := 1) (d := d1) rfl rfl
  have k1 := h1
  obtain ⟨a0, rfl, b0⟩ := arg_u64L Try.underlying22 (hval 0 22 v0 rfl rfl) h0
  obtain ⟨a1, cs1, rfl, e1⟩ := arg_structL Try.underlying57 TRows.opens (hval 1 57 v1 rfl rfl) h1 y1
  obtain ⟨A1_1, c1_1, A1_2, c1_2, e1, f1_1, f1_2⟩ := e1
  cases e1
  clear hA0 hval0 hsz0 hsz
  refine ((PairHeld_c f1_1.lt (sz_of f1_2) : juntolaw06_PairHeld.C a0 a1 fun b => b = true) All W.heap _ rfl _ _ _ rfl f1_1 _ _ _ rfl f1_2 (fun v H' => v = .bool true ∧ Ext W.heap H') (fun Z' H' hE hO r e => ⟨by rw [e], hE⟩) W rfl).mono fun e W' ⟨v, he, hs, hv, hE⟩ => ?_
  subst he
  subst hv
  have bel : Below W.heap.size W W' := ⟨hs.os, hs.tape, hs.output, hE.size, fun i hi => hE.get i hi⟩
  exact ⟨_, rfl, _, _, _, [], _, [], hW', trodAll_mk1 (shut_bool Try.underlying4 _), (trodAll_cons_mk (Below.trod laidOut (by kernel_rfl) (of_decide_eq_true (by kernel_rfl)) k0 bel lt0) (trodAll_cons_mk (Below.trod laidOut (by kernel_rfl) (of_decide_eq_true (by kernel_rfl)) k1 bel lt1) trodAll_mk0)), rfl, bel.frame _, fun h => by cases h⟩
theorem over : Rows.pairHeldRow.holds Try.pinned (OpenSpec.ofChange Rows.pairHeldSpec) :=
  OpenClaim.holds_of_wide 23 Try.f23 rfl rfl rfl rfl rfl rfl rfl ⟨rfl, rfl, rfl, rfl, rfl⟩ rfl rfl rfl rfl rfl (by kernel_rfl) Try.func23 (Facts.joined_of Facts.enters Facts.final Facts.made (by kernel_rfl))
    (of_decide_eq_true (by kernel_rfl)) (by unfold Func.isWrapper; first | (rw [if_pos (by decide +kernel)]; kernel_rfl) | (rw [if_neg (by decide +kernel)]; exact ⟨rfl, rfl⟩))
    (fun os started I enc _ => lifted os started I enc)
theorem proved : Rows.PairHeldSaid := over
end Go.Proofs.Ytlhcaangdenoaaa.pairHeld
namespace Go.Proofs.Ytlhcaangdenoaaa
theorem pairHeld_holds : Rows.PairHeldSaid := pairHeld.proved
end Go.Proofs.Ytlhcaangdenoaaa
#print axioms Go.Proofs.Ytlhcaangdenoaaa.pairHeld_holds
