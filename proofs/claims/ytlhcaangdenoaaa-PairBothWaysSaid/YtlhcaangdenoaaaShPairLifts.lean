import Derived.Test.YtlhcaangdenoaaaShBase
set_option linter.unusedVariables false
set_option maxRecDepth 100000
namespace Go.Proofs.Ytlhcaangdenoaaa.Sh
open Go.Sx

/-! juntolaw06_PairLifts -/
def juntolaw06_PairLifts.A : Ann where
  loops := fun i => match i with
    | _ => []
  plans := fun i => match i with
    | _ => .stop
def juntolaw06_PairLifts.W (p : Int) (q_0 : Int) (q_1A : Option Addr) (q_1n q_1c : Nat) (z_0 : Int) (z_1A : Option Addr) (z_1n z_1c : Nat) (H : Heap) (R : Value → Heap → Prop) : Prop :=
  NewH (H.push (.cells #[.int .i64 q_0, .slice q_1A q_1n q_1c] 42 (0, 0))) fun H_ =>
  NewH (H_.push (.cells #[.int .u64 z_0, .slice z_1A z_1n z_1c] 69 (0, 0))) fun H_2 =>
  ∃ x : Int, cellH H_2 (Addr.mk H.size 0 none) = some (.int .i64 x) ∧ ∃ (xA : Option Addr) (xn xc : Nat), cellH H_2 (((Addr.mk H.size 0 none)).add 1) = some (.slice xA xn xc) ∧ ∃ x2 : Int, cellH H_2 (Addr.mk H_.size 0 none) = some (.int .u64 x2) ∧ ∃ (xA2 : Option Addr) (xn2 xc2 : Nat), cellH H_2 (((Addr.mk H_.size 0 none)).add 1) = some (.slice xA2 xn2 xc2) ∧ CallH P N.pair_Lift [.int .u64 p, .int .i64 x, .slice xA xn xc, .int .u64 x2, .slice xA2 xn2 xc2] H_2 fun v H_3 =>
  ∃ (r0A : Option Addr) (r0n r0c : Nat), ∃ r1 : Int, v = .tuple #[.slice r0A r0n r0c, .int .i64 r1] ∧ ∃ x3 : Int, cellH H_3 (Addr.mk H.size 0 none) = some (.int .i64 x3) ∧ ∃ (xA3 : Option Addr) (xn3 xc3 : Nat), cellH H_3 (((Addr.mk H.size 0 none)).add 1) = some (.slice xA3 xn3 xc3) ∧ NewH (H_3.push (.cells #[.slice xA3 xn3 xc3] 23 (0, 0))) fun H_4 =>
  CallH P N.juntoref06_Check [.int .u64 p, .int .i64 x3, .slice (some (Addr.mk H_3.size 0 none)) 1 1] H_4 fun v2 H_5 =>
  ∃ r : Int, v2 = .int .i64 r ∧ cond (r == 0) (∃ x4 : Int, cellH H_5 (Addr.mk H.size 0 none) = some (.int .i64 x4) ∧ ∃ x0 : Int, ∃ (x1A : Option Addr) (x1n x1c : Nat), cellH H_5 (Addr.mk H_.size 0 none) = some (.int .u64 x0) ∧ cellH H_5 (((Addr.mk H_.size 0 none)).add 1) = some (.slice x1A x1n x1c) ∧ CallH P N.juntolaw06_lift [.int .u64 p, .int .i64 x4, .agg #[.int .u64 x0, .slice x1A x1n x1c]] H_5 fun v3 H_6 =>
  ∃ r2 : Int, v3 = .int .i64 r2 ∧ cond (r2 != 0) (CallH P N.juntolaw06_is [.slice r0A r0n r0c, .int .i64 r1, .slice none 0 0, .int .i64 r2] H_6 fun v4 H_7 =>
  ∃ r3 : Bool, v4 = .bool r3 ∧ cond r3 (CallH P N.juntolaw06_alive [] H_7 fun v5 H_8 =>
  ∃ r4 : Bool, v5 = .bool r4 ∧ R (.bool r4) H_8) (R (.bool false) H_7))
   (∃ (xA4 : Option Addr) (xn4 xc4 : Nat), cellH H_6 (((Addr.mk H.size 0 none)).add 1) = some (.slice xA4 xn4 xc4) ∧ ∃ x5 : Int, cellH H_6 (Addr.mk H_.size 0 none) = some (.int .u64 x5) ∧ ∃ (xA5 : Option Addr) (xn5 xc5 : Nat), cellH H_6 (((Addr.mk H_.size 0 none)).add 1) = some (.slice xA5 xn5 xc5) ∧ CallH P N.juntoref06_Lift [.int .u64 p, .slice xA4 xn4 xc4, .int .u64 x5, .slice xA5 xn5 xc5] H_6 fun v6 H_9 =>
  ∃ (rA : Option Addr) (rn rc : Nat), v6 = .slice rA rn rc ∧ CallH P N.juntolaw06_is [.slice r0A r0n r0c, .int .i64 r1, .slice rA rn rc, .int .i64 0] H_9 fun v7 H_10 =>
  ∃ r5 : Bool, v7 = .bool r5 ∧ cond r5 (CallH P N.juntolaw06_alive [] H_10 fun v8 H_11 =>
  ∃ r6 : Bool, v8 = .bool r6 ∧ R (.bool r6) H_11) (R (.bool false) H_10)))
   (cond (r != 0) (CallH P N.juntolaw06_is [.slice r0A r0n r0c, .int .i64 r1, .slice none 0 0, .int .i64 r] H_5 fun v9 H_12 =>
  ∃ r7 : Bool, v9 = .bool r7 ∧ cond r7 (CallH P N.juntolaw06_alive [] H_12 fun v10 H_13 =>
  ∃ r8 : Bool, v10 = .bool r8 ∧ R (.bool r8) H_13) (R (.bool false) H_12))
   (∃ (xA6 : Option Addr) (xn6 xc6 : Nat), cellH H_5 (((Addr.mk H.size 0 none)).add 1) = some (.slice xA6 xn6 xc6) ∧ ∃ x6 : Int, cellH H_5 (Addr.mk H_.size 0 none) = some (.int .u64 x6) ∧ ∃ (xA7 : Option Addr) (xn7 xc7 : Nat), cellH H_5 (((Addr.mk H_.size 0 none)).add 1) = some (.slice xA7 xn7 xc7) ∧ CallH P N.juntoref06_Lift [.int .u64 p, .slice xA6 xn6 xc6, .int .u64 x6, .slice xA7 xn7 xc7] H_5 fun v11 H_14 =>
  ∃ (rA2 : Option Addr) (rn2 rc2 : Nat), v11 = .slice rA2 rn2 rc2 ∧ CallH P N.juntolaw06_is [.slice r0A r0n r0c, .int .i64 r1, .slice rA2 rn2 rc2, .int .i64 0] H_14 fun v12 H_15 =>
  ∃ r9 : Bool, v12 = .bool r9 ∧ cond r9 (CallH P N.juntolaw06_alive [] H_15 fun v13 H_16 =>
  ∃ r10 : Bool, v13 = .bool r10 ∧ R (.bool r10) H_16) (R (.bool false) H_15)))
theorem juntolaw06_PairLifts.ok (p : Int) (q_0 : Int) (q_1A : Option Addr) (q_1n q_1c : Nat) (z_0 : Int) (z_1A : Option Addr) (z_1n z_1c : Nat) (H : Heap) (R : Value → Heap → Prop) (h : juntolaw06_PairLifts.W p q_0 q_1A q_1n q_1c z_0 z_1A z_1n z_1c H R) : CallH P N.juntolaw06_PairLifts ([.int .u64 p, .agg #[.int .i64 q_0, .slice q_1A q_1n q_1c], .agg #[.int .u64 z_0, .slice z_1A z_1n z_1c]] : List Value) H R := by
  have e : juntolaw06_PairLifts.W p q_0 q_1A q_1n q_1c z_0 z_1A z_1n z_1c H R = sxFn P T Sh.R nf juntolaw06_PairLifts.A Try.f10.results.toList (bodyOf Try.f10) (([(.int .u64 p : Value), (.agg #[.int .i64 q_0, .slice q_1A q_1n q_1c] : Value), (.agg #[.int .u64 z_0, .slice z_1A z_1n z_1c] : Value)] : List Value) ++ List.replicate (60 - ([(.int .u64 p : Value), (.agg #[.int .i64 q_0, .slice q_1A q_1n q_1c] : Value), (.agg #[.int .u64 z_0, .slice z_1A z_1n z_1c] : Value)] : List Value).length) undef) H R := by kernel_rfl
  exact call_of_sx fits bodies mixed Try.func10 (c := bodyOf Try.f10) (by kernel_rfl) Try.ntmps10 juntolaw06_PairLifts.A (by kernel_rfl) (e.mp h)

end Go.Proofs.Ytlhcaangdenoaaa.Sh
