import Derived.Test.YtlhcaangdenoaaaShBase
set_option linter.unusedVariables false
set_option maxRecDepth 100000
namespace Go.Proofs.Ytlhcaangdenoaaa.Sh
open Go.Sx

/-! juntolaw06_PairChecks -/
def juntolaw06_PairChecks.A : Ann where
  loops := fun i => match i with
    | _ => []
  plans := fun i => match i with
    | _ => .stop
def juntolaw06_PairChecks.W (p : Int) (t : Int) (fA : Option Addr) (fn fc : Nat) (H : Heap) (R : Value → Heap → Prop) : Prop :=
  CallH P N.pair_Check [.int .u64 p, .int .i64 t, .slice fA fn fc] H fun v H_ =>
  ∃ r : Int, v = .int .i64 r ∧ NewH (H_.push (.cells #[.slice fA fn fc] 23 (0, 0))) fun H_2 =>
  CallH P N.juntoref06_Check [.int .u64 p, .int .i64 t, .slice (some (Addr.mk H_.size 0 none)) 1 1] H_2 fun v2 H_3 =>
  ∃ r2 : Int, v2 = .int .i64 r2 ∧ cond (r == r2) (CallH P N.pair_Size [.int .i64 t] H_3 fun v3 H_4 =>
  ∃ r3 : Int, v3 = .int .i64 r3 ∧ CallH P N.juntoref06_Size [.int .i64 t] H_4 fun v4 H_5 =>
  ∃ r4 : Int, v4 = .int .i64 r4 ∧ cond (r3 == r4) (CallH P N.juntolaw06_alive [] H_5 fun v5 H_6 =>
  ∃ r5 : Bool, v5 = .bool r5 ∧ R (.bool r5) H_6) (R (.bool false) H_5)) (R (.bool false) H_3)
theorem juntolaw06_PairChecks.ok (p : Int) (t : Int) (fA : Option Addr) (fn fc : Nat) (H : Heap) (R : Value → Heap → Prop) (h : juntolaw06_PairChecks.W p t fA fn fc H R) : CallH P N.juntolaw06_PairChecks ([.int .u64 p, .int .i64 t, .slice fA fn fc] : List Value) H R := by
  have e : juntolaw06_PairChecks.W p t fA fn fc H R = sxFn P T Sh.R nf juntolaw06_PairChecks.A Try.f3.results.toList (bodyOf Try.f3) (([(.int .u64 p : Value), (.int .i64 t : Value), (.slice fA fn fc : Value)] : List Value) ++ List.replicate (27 - ([(.int .u64 p : Value), (.int .i64 t : Value), (.slice fA fn fc : Value)] : List Value).length) undef) H R := by kernel_rfl
  exact call_of_sx fits bodies mixed Try.func3 (c := bodyOf Try.f3) (by kernel_rfl) Try.ntmps3 juntolaw06_PairChecks.A (by kernel_rfl) (e.mp h)

end Go.Proofs.Ytlhcaangdenoaaa.Sh
