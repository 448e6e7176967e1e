import Derived.Test.YtlhcaangdenoaaaSTypes
import Derived.Test.YtlhcaangdenoaaaSFnDecode
import Derived.Test.YtlhcaangdenoaaaSFnJuntolaw05
import Derived.Test.YtlhcaangdenoaaaSFnJuntoref05
namespace Go.Lf
end Go.Lf
namespace Go.Sx
end Go.Sx
set_option linter.unusedVariables false
set_option linter.unusedSimpArgs false
set_option maxRecDepth 100000
namespace Go.Proofs.Ytlhcaangdenoaaa.Sh
open Go.Sx
def juntolaw05_DecodeMost.A : Ann where
  loops := fun i => match i with
    | _ => []
  plans := fun i => match i with
    | _ => .stop
def juntolaw05_DecodeMost.W (points : Int) (d : Int) (H : Heap) (R : Value → Heap → Prop) : Prop :=
  CallH P N.decode_Most [.int .i64 points, .int .i64 d] H fun v H_ =>
  ∃ r : Int, v = .int .i64 r ∧ CallH P N.juntoref05_Most [.int .i64 points, .int .i64 d] H_ fun v2 H_2 =>
  ∃ r2 : Int, v2 = .int .i64 r2 ∧ cond (r == r2) (CallH P N.juntolaw05_alive [] H_2 fun v3 H_3 =>
  ∃ r3 : Bool, v3 = .bool r3 ∧ R (.bool r3) H_3) (R (.bool false) H_2)
theorem juntolaw05_DecodeMost.ok (points : Int) (d : Int) (H : Heap) (R : Value → Heap → Prop) (h : juntolaw05_DecodeMost.W points d H R) : CallH P N.juntolaw05_DecodeMost ([.int .i64 points, .int .i64 d] : List Value) H R := by
  have e : juntolaw05_DecodeMost.W points d H R = sxFn P T Sh.R nf juntolaw05_DecodeMost.A Try.f13.results.toList (bodyOf Try.f13) (([(.int .i64 points : Value), (.int .i64 d : Value)] : List Value) ++ List.replicate (15 - ([(.int .i64 points : Value), (.int .i64 d : Value)] : List Value).length) undef) H R := by kernel_rfl
  exact call_of_sx fits bodies mixed Try.func13 (c := bodyOf Try.f13) (by kernel_rfl) Try.ntmps13 juntolaw05_DecodeMost.A (by kernel_rfl) (e.mp h)
end Go.Proofs.Ytlhcaangdenoaaa.Sh
namespace Go.Proofs.Ytlhcaangdenoaaa.Sh
open Go.Sx Go.Lf
def juntolaw05_DecodeMost.C (points : Int) (d : Int) (K : Bool → Prop) : Prop :=
  ∀ (Z : Nat → Prop) (H : Heap), ∀ KK : Value → Heap → Prop,
    (∀ (Z' : Nat → Prop) (H' : Heap), Ext H H' → Old Z H Z' → ∀ (r0 : Bool), K r0 → KK (.bool r0) H') →
    CallH P N.juntolaw05_DecodeMost [.int .i64 points, .int .i64 d] H KK
def juntolaw05_DecodeMost.Q (points : Int) (d : Int) (K : Bool → Prop) : Prop :=
  decode_Most.C points d (fun (x : Int) =>
  juntoref05_Most.C points d (fun (x2 : Int) =>
  cond (x == x2) (juntolaw05_alive.C (fun (x3 : Bool) =>
  K x3))
   (K false)))
theorem juntolaw05_DecodeMost.q {points : Int} {d : Int} {K : Bool → Prop} (q : juntolaw05_DecodeMost.Q points d K) : juntolaw05_DecodeMost.C points d K := by
  intro Z H  KK hk
  apply juntolaw05_DecodeMost.ok
  unfold juntolaw05_DecodeMost.W
  unfold juntolaw05_DecodeMost.Q at q
  obtain ⟨σ, hz, hσ⟩ := tags Z
  have hs : Stp ([] : List Nat) σ H σ H := Stp.refl _ _ _
  clear hz
  refine q (Zt σ) H  _ (fun Z2 H_ hE hO x q => ?_)
  obtain ⟨xσ, st⟩ := call0 hE σ
  replace hs := hs.trans st
  refine ⟨_, rfl, ?_⟩
  refine q (Zt xσ) H_  _ (fun Z3 H_2 hE2 hO2 x2 q => ?_)
  obtain ⟨xσ2, st2⟩ := call0 hE2 xσ
  replace hs := hs.trans st2
  refine ⟨_, rfl, ?_⟩
  refine condI (fun q => ?_) (fun q => ?_) q
  · refine q (Zt xσ2) H_2  _ (fun Z4 H_3 hE3 hO3 x3 q => ?_)
    obtain ⟨xσ3, st3⟩ := call0 hE3 xσ2
    replace hs := hs.trans st3
    refine ⟨_, rfl, ?_⟩
    exact hk (Zt xσ3) _ (hs.ext hσ) (hs.old hσ) _ q
  · exact hk (Zt xσ2) _ (hs.ext hσ) (hs.old hσ) _ q
end Go.Proofs.Ytlhcaangdenoaaa.Sh
