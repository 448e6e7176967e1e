import Derived.Test.YtlhcaangdenoaaaShBase
set_option linter.unusedVariables false
set_option maxRecDepth 100000
namespace Go.Proofs.Ytlhcaangdenoaaa.Sh
open Go.Sx

/-! juntolaw06_PairMakes -/
def juntolaw06_PairMakes.A : Ann where
  loops := fun i => match i with
    | _ => []
  plans := fun i => match i with
    | _ => .stop
def juntolaw06_PairMakes.W (p : Int) (q_0 : Int) (q_1 : Int) (q_2A : Option Addr) (q_2n q_2c : Nat) (H : Heap) (R : Value → Heap → Prop) : Prop :=
  NewH (H.push (.cells #[.int .u64 q_0, .int .i64 q_1, .slice q_2A q_2n q_2c] 32 (0, 0))) fun H_ =>
  ∃ x : Int, cellH H_ (Addr.mk H.size 0 none) = some (.int .u64 x) ∧ ∃ x2 : Int, cellH H_ (((Addr.mk H.size 0 none)).add 1) = some (.int .i64 x2) ∧ ∃ (xA : Option Addr) (xn xc : Nat), cellH H_ (((Addr.mk H.size 0 none)).add 2) = some (.slice xA xn xc) ∧ CallH P N.pair_Make [.int .u64 p, .int .u64 x, .int .i64 x2, .slice xA xn xc] H_ fun v H_2 =>
  ∃ (r0A : Option Addr) (r0n r0c : Nat), ∃ (r1A : Option Addr) (r1n r1c : Nat), ∃ r2 : Int, v = .tuple #[.slice r0A r0n r0c, .slice r1A r1n r1c, .int .i64 r2] ∧ ∃ x3 : Int, cellH H_2 (((Addr.mk H.size 0 none)).add 1) = some (.int .i64 x3) ∧ CallH P N.juntoref06_Bounds [.int .u64 p, .int .i64 x3] H_2 fun v2 H_3 =>
  ∃ r : Int, v2 = .int .i64 r ∧ cond (r == 0) (∃ x4 : Int, cellH H_3 (Addr.mk H.size 0 none) = some (.int .u64 x4) ∧ cond (decide (x4 ≥ p)) (cond (2 != 0) (CallH P N.juntolaw06_is [.slice r0A r0n r0c, .int .i64 r2, .slice none 0 0, .int .i64 2] H_3 fun v3 H_4 =>
  ∃ r3 : Bool, v3 = .bool r3 ∧ cond r3 (cond (((r1n : Nat) : Int) == 0) (CallH P N.juntolaw06_alive [] H_4 fun v4 H_5 =>
  ∃ r4 : Bool, v4 = .bool r4 ∧ R (.bool r4) H_5) (R (.bool false) H_4)) (R (.bool false) H_4))
   (∃ x5 : Int, cellH H_3 (Addr.mk H.size 0 none) = some (.int .u64 x5) ∧ ∃ x6 : Int, cellH H_3 (((Addr.mk H.size 0 none)).add 1) = some (.int .i64 x6) ∧ ∃ (xA2 : Option Addr) (xn2 xc2 : Nat), cellH H_3 (((Addr.mk H.size 0 none)).add 2) = some (.slice xA2 xn2 xc2) ∧ CallH P N.juntoref06_Make [.int .u64 p, .int .u64 x5, .int .i64 x6, .slice xA2 xn2 xc2] H_3 fun v5 H_6 =>
  ∃ (r0A2 : Option Addr) (r0n2 r0c2 : Nat), ∃ (r1A2 : Option Addr) (r1n2 r1c2 : Nat), v5 = .tuple #[.slice r0A2 r0n2 r0c2, .slice r1A2 r1n2 r1c2] ∧ CallH P N.juntolaw06_is [.slice r0A r0n r0c, .int .i64 r2, .slice r0A2 r0n2 r0c2, .int .i64 0] H_6 fun v6 H_7 =>
  ∃ r5 : Bool, v6 = .bool r5 ∧ cond r5 (CallH P N.juntoref01_Same [.slice r1A r1n r1c, .slice r1A2 r1n2 r1c2] H_7 fun v7 H_8 =>
  ∃ r6 : Bool, v7 = .bool r6 ∧ R (.bool r6) H_8) (R (.bool false) H_7)))
   (cond (r != 0) (CallH P N.juntolaw06_is [.slice r0A r0n r0c, .int .i64 r2, .slice none 0 0, .int .i64 r] H_3 fun v8 H_9 =>
  ∃ r7 : Bool, v8 = .bool r7 ∧ cond r7 (cond (((r1n : Nat) : Int) == 0) (CallH P N.juntolaw06_alive [] H_9 fun v9 H_10 =>
  ∃ r8 : Bool, v9 = .bool r8 ∧ R (.bool r8) H_10) (R (.bool false) H_9)) (R (.bool false) H_9))
   (∃ x7 : Int, cellH H_3 (Addr.mk H.size 0 none) = some (.int .u64 x7) ∧ ∃ x8 : Int, cellH H_3 (((Addr.mk H.size 0 none)).add 1) = some (.int .i64 x8) ∧ ∃ (xA3 : Option Addr) (xn3 xc3 : Nat), cellH H_3 (((Addr.mk H.size 0 none)).add 2) = some (.slice xA3 xn3 xc3) ∧ CallH P N.juntoref06_Make [.int .u64 p, .int .u64 x7, .int .i64 x8, .slice xA3 xn3 xc3] H_3 fun v10 H_11 =>
  ∃ (r0A3 : Option Addr) (r0n3 r0c3 : Nat), ∃ (r1A3 : Option Addr) (r1n3 r1c3 : Nat), v10 = .tuple #[.slice r0A3 r0n3 r0c3, .slice r1A3 r1n3 r1c3] ∧ CallH P N.juntolaw06_is [.slice r0A r0n r0c, .int .i64 r2, .slice r0A3 r0n3 r0c3, .int .i64 0] H_11 fun v11 H_12 =>
  ∃ r9 : Bool, v11 = .bool r9 ∧ cond r9 (CallH P N.juntoref01_Same [.slice r1A r1n r1c, .slice r1A3 r1n3 r1c3] H_12 fun v12 H_13 =>
  ∃ r10 : Bool, v12 = .bool r10 ∧ R (.bool r10) H_13) (R (.bool false) H_12)))) (cond (r != 0) (CallH P N.juntolaw06_is [.slice r0A r0n r0c, .int .i64 r2, .slice none 0 0, .int .i64 r] H_3 fun v13 H_14 =>
  ∃ r11 : Bool, v13 = .bool r11 ∧ cond r11 (cond (((r1n : Nat) : Int) == 0) (CallH P N.juntolaw06_alive [] H_14 fun v14 H_15 =>
  ∃ r12 : Bool, v14 = .bool r12 ∧ R (.bool r12) H_15) (R (.bool false) H_14)) (R (.bool false) H_14))
   (∃ x9 : Int, cellH H_3 (Addr.mk H.size 0 none) = some (.int .u64 x9) ∧ ∃ x10 : Int, cellH H_3 (((Addr.mk H.size 0 none)).add 1) = some (.int .i64 x10) ∧ ∃ (xA4 : Option Addr) (xn4 xc4 : Nat), cellH H_3 (((Addr.mk H.size 0 none)).add 2) = some (.slice xA4 xn4 xc4) ∧ CallH P N.juntoref06_Make [.int .u64 p, .int .u64 x9, .int .i64 x10, .slice xA4 xn4 xc4] H_3 fun v15 H_16 =>
  ∃ (r0A4 : Option Addr) (r0n4 r0c4 : Nat), ∃ (r1A4 : Option Addr) (r1n4 r1c4 : Nat), v15 = .tuple #[.slice r0A4 r0n4 r0c4, .slice r1A4 r1n4 r1c4] ∧ CallH P N.juntolaw06_is [.slice r0A r0n r0c, .int .i64 r2, .slice r0A4 r0n4 r0c4, .int .i64 0] H_16 fun v16 H_17 =>
  ∃ r13 : Bool, v16 = .bool r13 ∧ cond r13 (CallH P N.juntoref01_Same [.slice r1A r1n r1c, .slice r1A4 r1n4 r1c4] H_17 fun v17 H_18 =>
  ∃ r14 : Bool, v17 = .bool r14 ∧ R (.bool r14) H_18) (R (.bool false) H_17)))
theorem juntolaw06_PairMakes.ok (p : Int) (q_0 : Int) (q_1 : Int) (q_2A : Option Addr) (q_2n q_2c : Nat) (H : Heap) (R : Value → Heap → Prop) (h : juntolaw06_PairMakes.W p q_0 q_1 q_2A q_2n q_2c H R) : CallH P N.juntolaw06_PairMakes ([.int .u64 p, .agg #[.int .u64 q_0, .int .i64 q_1, .slice q_2A q_2n q_2c]] : List Value) H R := by
  have e : juntolaw06_PairMakes.W p q_0 q_1 q_2A q_2n q_2c H R = sxFn P T Sh.R nf juntolaw06_PairMakes.A Try.f4.results.toList (bodyOf Try.f4) (([(.int .u64 p : Value), (.agg #[.int .u64 q_0, .int .i64 q_1, .slice q_2A q_2n q_2c] : Value)] : List Value) ++ List.replicate (69 - ([(.int .u64 p : Value), (.agg #[.int .u64 q_0, .int .i64 q_1, .slice q_2A q_2n q_2c] : Value)] : List Value).length) undef) H R := by kernel_rfl
  exact call_of_sx fits bodies mixed Try.func4 (c := bodyOf Try.f4) (by kernel_rfl) Try.ntmps4 juntolaw06_PairMakes.A (by kernel_rfl) (e.mp h)

end Go.Proofs.Ytlhcaangdenoaaa.Sh
