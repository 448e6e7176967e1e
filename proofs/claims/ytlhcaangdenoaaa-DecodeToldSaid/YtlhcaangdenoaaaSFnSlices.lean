import Derived.Test.YtlhcaangdenoaaaSTypes
namespace Go.Lf
end Go.Lf
namespace Go.Sx
end Go.Sx
set_option linter.unusedVariables false
set_option linter.unusedSimpArgs false
set_option maxRecDepth 100000
namespace Go.Proofs.Ytlhcaangdenoaaa.Sh
open Go.Sx
def slices_Clone_uint64uint64.A : Ann where
  loops := fun i => match i with
    | _ => []
  plans := fun i => match i with
    | _ => .stop
def slices_Clone_uint64uint64.W (sA : Option Addr) (sn sc : Nat) (H : Heap) (R : Value → Heap → Prop) : Prop :=
  cond (Option.isNone sA) (R (.slice none 0 0) H)
   (NewH (H.push (.cells #[] 22 (0, 0))) fun H_ =>
  AppendV 22 1 8 [.int .u64 0] H_ (some (Addr.mk H.size 0 none)) 0 0 sA sn fun vA vn vc H_2 =>
  R (.slice vA vn vc) H_2)
theorem slices_Clone_uint64uint64.ok (sA : Option Addr) (sn sc : Nat) (H : Heap) (R : Value → Heap → Prop) (h : slices_Clone_uint64uint64.W sA sn sc H R) : CallH P N.slices_Clone_uint64uint64 ([.slice sA sn sc] : List Value) H R := by
  have e : slices_Clone_uint64uint64.W sA sn sc H R = sxFn P T Sh.R nf slices_Clone_uint64uint64.A Try.f117.results.toList (bodyOf Try.f117) (([(.slice sA sn sc : Value)] : List Value) ++ List.replicate (8 - ([(.slice sA sn sc : Value)] : List Value).length) undef) H R := by kernel_rfl
  exact call_of_sx fits bodies mixed Try.func117 (c := bodyOf Try.f117) (by kernel_rfl) Try.ntmps117 slices_Clone_uint64uint64.A (by kernel_rfl) (e.mp h)
end Go.Proofs.Ytlhcaangdenoaaa.Sh
namespace Go.Proofs.Ytlhcaangdenoaaa.Sh
open Go.Sx Go.Lf
end Go.Proofs.Ytlhcaangdenoaaa.Sh
