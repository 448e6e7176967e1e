/- KingSaysUptoSaid: the statement holds of every input of the row; no condition. -/
import Derived.WalkKit
import Derived.ProofKit
import Derived.OpenShut
import Derived.ShutString
import Derived.ChangeOld
import Derived.Below
import Derived.SizedLaws
import Derived.Deep.CondSized
import Derived.JoinedCond
import Derived.Test.YtpfpnkaeoedeiaaRows
import Derived.Test.YtpfpnkaeoedeiaaSE
set_option linter.unusedVariables false
namespace Go.Proofs.Ytpfpnkaeoedeiaa.kingSays
open Go.ChangeShapes Go.WideShapes Go.ChangeAt Go.RowKit Go.Sx Go.Lf Go.Proofs.Ytpfpnkaeoedeiaa.Sh Go.Proofs.Ytpfpnkaeoedeiaa.Pl
theorem own : ownKnob Try.prog.godebug = none := by kernel_rfl
theorem laidOut : laidOutB Try.prog = true := by kernel_rfl
set_option maxRecDepth 100000 in
theorem lifted (os : Os) (started : os.Started) (I : Type) (enc : TypeId × Value → I) (F : Stop.Interp) :
   ReturnsInHanded {} Try.checked os 5 .any ((Rows.OpenSpec.upto Rows.kingSaysSpec).pre6 enc Try.prog Try.f5 Rows.kingSaysUptoRow.domain false) (((Rows.OpenSpec.upto Rows.kingSaysSpec).at F).post enc Try.prog Try.f5 false true false false) := by
 refine returnsInHanded_of_cond_sized (C := Try.checked) (s := Rows.OpenSpec.upto Rows.kingSaysSpec) (k := Rows.uptoSmall) rfl own started (by kernel_rfl) Try.func5
   (OpenSpec.witness (enc := enc) (C := Try.checked) (s := Rows.OpenSpec.upto Rows.kingSaysSpec) (k := Rows.uptoSmall) rfl false ⟨#[], #[.agg #[.int .u64 0, .int .i64 0, .int .i64 0, .slice none 0 0, .slice none 0 0, .slice none 0 0, .int .i64 0, .slice none 0 0], .int .i64 0, .slice none 0 0], []⟩ 8 (by kernel_rfl) (by kernel_rfl) (by kernel_rfl)
     (x := ([.agg [.agg [.lit (.int .u64 0), .lit (.int .i64 0), .lit (.int .i64 0)], .nil, .nil, .nil, .lit (.int .i64 0), .nil], .lit (.int .i64 0), .nil], [], [])) (by kernel_rfl) rfl (by kernel_rfl)) ?_
 intro W base args ds gs before hval0 hW hcnd hkk hsz0 _
 have hsz : (DataW.weightsEach Try.prog (Try.f5.params.toList ++ Rows.kingSaysSpec.plain.varTypes Try.prog) (ds ++ gs)).all (· ≤ reachBytes) = true := hsz0
 have hval : ∀ (j : Nat) t v, Try.f5.params[j]? = some t → args[j]? = some v → Value.okWide Try.prog W .any base t v := hval0
 have hW' := hW
 obtain ⟨p, q, hA0, hV, rfl, hfz, hnd⟩ := hW
 have hA : DataW.TrodAll enc Try.prog W 0 (fun _ => true) true Try.f5.params.toList args.toList ds p := hA0
 rw [Try.params5] at hA hval hsz
 obtain ⟨v0, vs0, d0, ds0, p0, q0, hargs, rfl, rfl, h0, r0⟩ := trodAll_cons hA
 obtain ⟨v1, vs1, d1, ds1, p1, q1, rfl, rfl, rfl, h1, r1⟩ := trodAll_cons r0
 obtain ⟨v2, vs2, d2, ds2, p2, q2, rfl, rfl, rfl, h2, r2⟩ := trodAll_cons r1
 obtain ⟨rfl, rfl, rfl⟩ := trodAll_nil r2
 obtain rfl : args = #[v0, v1, v2] := by cases args; simp_all
 obtain ⟨rfl, rfl⟩ := trodVars_none hV
 have lt0 : ∀ x ∈ p0, x.block < W.heap.size := by obtain ⟨m, hm⟩ := h0; exact DataW.trod_lt m _ _ _ hm
 have y0 := Go.Lf.weightsEach_get hsz (t := 30) (j := 0) (d := d0) rfl rfl
 have k0 := h0
 have lt1 : ∀ x ∈ p1, x.block < W.heap.size := by obtain ⟨m, hm⟩ := h1; exact DataW.trod_lt m _ _ _ hm
 have y1 := Go.Lf.weightsEach_get hsz (t := 3) (j := 1) (d := d1) rfl rfl
 have k1 := h1
 have lt2 : ∀ x ∈ p2, x.block < W.heap.size := by obtain ⟨m, hm⟩ := h2; exact DataW.trod_lt m _ _ _ hm
 have y2 := Go.Lf.weightsEach_get hsz (t := 47) (j := 2) (d := d2) rfl rfl
 have k2 := h2
 obtain ⟨a0, cs0, rfl, e0, s0⟩ := arg_structL Try.underlying30 TWorld.opens (hval 0 30 v0 rfl rfl) h0 y0
 replace s0 := s0 Rows.uptoBulk 1048576 Facts.meas (Facts.bulk_get hkk (by simp))
 obtain ⟨A0_3, c0_3, A0_4, c0_4, A0_5, c0_5, A0_7, c0_7, e0, f0_3, f0_4, f0_5, f0_7⟩ := e0
 cases e0
 obtain ⟨a1, rfl, b1⟩ := arg_i64L Try.underlying3 (hval 1 3 v1 rfl rfl) h1
 obtain ⟨A2, c2, a2, rfl, f2, s2⟩ := arg_sliceL Try.underlying47 (opens_slice Try.underlying47 (by kernel_rfl) (of_decide_eq_true (by kernel_rfl)) (opens_u64 Try.underlying22)) (hval 2 47 v2 rfl rfl) h2 y2
 replace s2 := s2 Rows.uptoBulk 1048576 Facts.meas (Facts.bulk_get hkk (by simp))
 clear hA0 hval0 hsz0 hsz
 refine ((KingSays_c (smW_of s0) (sent_of s0) (sm_short s2) : juntolaw18_KingSays.C a0 a1 a2 fun b => b = true) All W.heap _ rfl _ _ _ rfl f0_3 _ _ _ rfl f0_4 _ _ _ rfl f0_5 _ _ _ rfl f0_7 _ _ _ rfl f2 (fun v H' => v = .bool true ∧ Ext W.heap H') (fun Z' H' hE hO r e => ⟨by rw [e], hE⟩) W rfl).mono fun e W' ⟨v, he, hs, hv, hE⟩ => ?_
 subst he
 subst hv
 have bel : Below W.heap.size W W' := ⟨hs.os, hs.tape, hs.output, hE.size, fun i hi => hE.get i hi⟩
 exact ⟨_, rfl, _, _, _, [], _, [], hW', trodAll_mk1 (shut_bool Try.underlying4 _), (trodAll_cons_mk (Below.trod laidOut (by kernel_rfl) (of_decide_eq_true (by kernel_rfl)) k0 bel lt0) (trodAll_cons_mk (Below.trod laidOut (by kernel_rfl) (of_decide_eq_true (by kernel_rfl)) k1 bel lt1) (trodAll_cons_mk (Below.trod laidOut (by kernel_rfl) (of_decide_eq_true (by kernel_rfl)) k2 bel lt2) trodAll_mk0))), rfl, bel.frame _, fun h => by cases h⟩
theorem over : Rows.kingSaysUptoRow.holds Try.pinned (Rows.OpenSpec.upto Rows.kingSaysSpec) :=
 OpenClaim.holds_of_cond 5 Try.f5 rfl rfl rfl rfl rfl rfl rfl ⟨rfl, rfl, rfl, rfl, rfl⟩ rfl rfl rfl rfl rfl (by kernel_rfl) Try.func5 (Facts.joined_of Facts.enters Facts.final Facts.made (by kernel_rfl))
   (of_decide_eq_true (by kernel_rfl)) (by unfold Func.isWrapper; first | (rw [if_pos (by decide +kernel)]; kernel_rfl) | (rw [if_neg (by decide +kernel)]; exact ⟨rfl, rfl⟩))
   (fun os started I enc _ F => lifted os started I enc F)
theorem proved : Rows.KingSaysUptoSaid := over
end Go.Proofs.Ytpfpnkaeoedeiaa.kingSays
namespace Go.Proofs.Ytpfpnkaeoedeiaa
theorem kingSaysUpto_holds : Rows.KingSaysUptoSaid := kingSays.proved
end Go.Proofs.Ytpfpnkaeoedeiaa
#print axioms Go.Proofs.Ytpfpnkaeoedeiaa.kingSaysUpto_holds
