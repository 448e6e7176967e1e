import Derived.Test.YtlhcaangdenoaaaShBase
set_option linter.unusedVariables false
set_option maxRecDepth 100000
namespace Go.Proofs.Ytlhcaangdenoaaa.Sh
open Go.Sx

/-! juntolaw06_PairBothWays -/
def juntolaw06_PairBothWays.A : Ann where
  loops := fun i => match i with
    | _ => []
  plans := fun i => match i with
    | 1 => .first 0 (.first 2 (.read 1 (.first 4 (.read 3 (.first 5 (.done))))))
    | _ => .stop
def juntolaw06_PairBothWays.W (p : Int) (q_0 : Int) (q_1 : Int) (q_2A : Option Addr) (q_2n q_2c : Nat) (at_0 : Int) (at_1 : Int) (H : Heap) (R : Value → Heap → Prop) : Prop :=
  NewH (H.push (.cells #[.int .u64 q_0, .int .i64 q_1, .slice q_2A q_2n q_2c] 32 (0, 0))) fun H_ =>
  NewH (H_.push (.cells #[.int .u64 at_0, .int .u64 at_1] 43 (0, 0))) fun H_2 =>
  0 ≤ (0 : Int) ∧ (0 : Int) < (2 : Int) ∧ 0 ≤ (1 : Int) ∧ (1 : Int) < (2 : Int) ∧ ∃ x : Int, cellH H_2 ((Addr.mk H_.size 0 none).add 0) = some (.int .u64 x) ∧ ∃ x2 : Int, cellH H_2 ((Addr.mk H_.size 0 none).add 1) = some (.int .u64 x2) ∧ ∃ x3 : Int, cellH H_2 (Addr.mk H.size 0 none) = some (.int .u64 x3) ∧ ∃ x4 : Int, cellH H_2 (((Addr.mk H.size 0 none)).add 1) = some (.int .i64 x4) ∧ ∃ (xA : Option Addr) (xn xc : Nat), cellH H_2 (((Addr.mk H.size 0 none)).add 2) = some (.slice xA xn xc) ∧ CallH P N.pair_Make [.int .u64 p, .int .u64 x3, .int .i64 x4, .slice xA xn xc] H_2 fun v H_3 =>
  ∃ (r0A : Option Addr) (r0n r0c : Nat), ∃ (r1A : Option Addr) (r1n r1c : Nat), ∃ r2 : Int, v = .tuple #[.slice r0A r0n r0c, .slice r1A r1n r1c, .int .i64 r2] ∧ cond (r2 != 0) (CallH P N.juntolaw06_alive [] H_3 fun v2 H_4 =>
  ∃ r : Bool, v2 = .bool r ∧ R (.bool r) H_4) (cond (decide (x ≥ p)) (CallH P N.juntolaw06_alive [] H_3 fun v3 H_5 =>
  ∃ r3 : Bool, v3 = .bool r3 ∧ R (.bool r3) H_5) (cond (decide (x2 ≥ p)) (CallH P N.juntolaw06_alive [] H_3 fun v4 H_6 =>
  ∃ r4 : Bool, v4 = .bool r4 ∧ R (.bool r4) H_6)
   (∃ x5 : Int, cellH H_3 (((Addr.mk H.size 0 none)).add 1) = some (.int .i64 x5) ∧ CallH P N.pair_At [.int .u64 p, .int .i64 x5, .slice r0A r0n r0c, .int .u64 x, .int .u64 x2] H_3 fun v5 H_7 =>
  ∃ r0 : Int, ∃ r1 : Int, v5 = .tuple #[.int .u64 r0, .int .i64 r1] ∧ ∃ x6 : Int, cellH H_7 (((Addr.mk H.size 0 none)).add 1) = some (.int .i64 x6) ∧ CallH P N.pair_At [.int .u64 p, .int .i64 x6, .slice r0A r0n r0c, .int .u64 x2, .int .u64 x] H_7 fun v6 H_8 =>
  ∃ r02 : Int, ∃ r12 : Int, v6 = .tuple #[.int .u64 r02, .int .i64 r12] ∧ ∃ x7 : Int, cellH H_8 (((Addr.mk H.size 0 none)).add 1) = some (.int .i64 x7) ∧ CallH P N.pair_Row [.int .u64 p, .int .i64 x7, .slice r0A r0n r0c, .int .u64 x] H_8 fun v7 H_9 =>
  ∃ (r0A2 : Option Addr) (r0n2 r0c2 : Nat), ∃ r13 : Int, v7 = .tuple #[.slice r0A2 r0n2 r0c2, .int .i64 r13] ∧ ∃ x8 : Int, cellH H_9 (((Addr.mk H.size 0 none)).add 1) = some (.int .i64 x8) ∧ CallH P N.pair_Row [.int .u64 p, .int .i64 x8, .slice r0A r0n r0c, .int .u64 x2] H_9 fun v8 H_10 =>
  ∃ (r0A3 : Option Addr) (r0n3 r0c3 : Nat), ∃ r14 : Int, v8 = .tuple #[.slice r0A3 r0n3 r0c3, .int .i64 r14] ∧ cond (r0 == r02) (CallH P N.juntoref02_Eval [.int .u64 p, .slice r0A2 r0n2 r0c2, .int .u64 x2] H_10 fun v9 H_11 =>
  ∃ r5 : Int, v9 = .int .u64 r5 ∧ cond (r0 == r5) (CallH P N.juntoref02_Eval [.int .u64 p, .slice r0A3 r0n3 r0c3, .int .u64 x] H_11 fun v10 H_12 =>
  ∃ r6 : Int, v10 = .int .u64 r6 ∧ cond (r0 == r6) (CallH P N.juntolaw06_alive [] H_12 fun v11 H_13 =>
  ∃ r7 : Bool, v11 = .bool r7 ∧ R (.bool r7) H_13) (R (.bool false) H_12)) (R (.bool false) H_11)) (R (.bool false) H_10))))
theorem juntolaw06_PairBothWays.ok (p : Int) (q_0 : Int) (q_1 : Int) (q_2A : Option Addr) (q_2n q_2c : Nat) (at_0 : Int) (at_1 : Int) (H : Heap) (R : Value → Heap → Prop) (h : juntolaw06_PairBothWays.W p q_0 q_1 q_2A q_2n q_2c at_0 at_1 H R) : CallH P N.juntolaw06_PairBothWays ([.int .u64 p, .agg #[.int .u64 q_0, .int .i64 q_1, .slice q_2A q_2n q_2c], .agg #[.int .u64 at_0, .int .u64 at_1]] : List Value) H R := by
  have e : juntolaw06_PairBothWays.W p q_0 q_1 q_2A q_2n q_2c at_0 at_1 H R = sxFn P T Sh.R nf juntolaw06_PairBothWays.A Try.f6.results.toList (bodyOf Try.f6) (([(.int .u64 p : Value), (.agg #[.int .u64 q_0, .int .i64 q_1, .slice q_2A q_2n q_2c] : Value), (.agg #[.int .u64 at_0, .int .u64 at_1] : Value)] : List Value) ++ List.replicate (109 - ([(.int .u64 p : Value), (.agg #[.int .u64 q_0, .int .i64 q_1, .slice q_2A q_2n q_2c] : Value), (.agg #[.int .u64 at_0, .int .u64 at_1] : Value)] : List Value).length) undef) H R := by kernel_rfl
  exact call_of_sx fits bodies mixed Try.func6 (c := bodyOf Try.f6) (by kernel_rfl) Try.ntmps6 juntolaw06_PairBothWays.A (by kernel_rfl) (e.mp h)

end Go.Proofs.Ytlhcaangdenoaaa.Sh
