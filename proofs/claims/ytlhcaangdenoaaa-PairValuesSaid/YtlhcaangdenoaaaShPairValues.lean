import Derived.Test.YtlhcaangdenoaaaShBase
set_option linter.unusedVariables false
set_option maxRecDepth 100000
namespace Go.Proofs.Ytlhcaangdenoaaa.Sh
open Go.Sx

/-! juntolaw06_PairValues -/
def juntolaw06_PairValues.A : Ann where
  loops := fun i => match i with
    | _ => []
  plans := fun i => match i with
    | 1 => .first 0 (.first 2 (.read 1 (.first 4 (.read 3 (.first 5 (.done))))))
    | 9 => .first 0 (.first 1 (.first 2 (.first 3 (.first 5 (.first 6 (.first 7 (.first 8 (.first 10 (.first 11 (.read 4 (.alt 9 [4] (.alt 12 [] (.alt 13 [] (.alt 14 [] (.first 15 (.first 16 (.first 17 (.first 18 (.first 19 (.first 21 (.read 20 (.alt 22 [20] (.alt 23 [] (.first 24 (.first 25 (.done))) (.stop)) (.stop))))))))) (.stop)) (.stop)) (.stop)) (.alt 12 [] (.alt 9 [4] (.alt 13 [] (.alt 14 [] (.first 15 (.first 16 (.first 17 (.first 18 (.first 19 (.first 21 (.read 20 (.alt 22 [20] (.alt 23 [] (.first 24 (.first 25 (.done))) (.stop)) (.stop))))))))) (.stop)) (.stop)) (.stop)) (.stop)))))))))))))
    | _ => .stop
def juntolaw06_PairValues.W (p : Int) (q_0 : Int) (q_1A : Option Addr) (q_1n q_1c : Nat) (at_0 : Int) (at_1 : Int) (H : Heap) (R : Value → Heap → Prop) : Prop :=
  NewH (H.push (.cells #[.int .i64 q_0, .slice q_1A q_1n q_1c] 42 (0, 0))) fun H_ =>
  NewH (H_.push (.cells #[.int .u64 at_0, .int .u64 at_1] 43 (0, 0))) fun H_2 =>
  0 ≤ (0 : Int) ∧ (0 : Int) < (2 : Int) ∧ 0 ≤ (1 : Int) ∧ (1 : Int) < (2 : Int) ∧ ∃ x : Int, cellH H_2 ((Addr.mk H_.size 0 none).add 0) = some (.int .u64 x) ∧ ∃ x2 : Int, cellH H_2 ((Addr.mk H_.size 0 none).add 1) = some (.int .u64 x2) ∧ ∃ x3 : Int, cellH H_2 (Addr.mk H.size 0 none) = some (.int .i64 x3) ∧ ∃ (xA : Option Addr) (xn xc : Nat), cellH H_2 (((Addr.mk H.size 0 none)).add 1) = some (.slice xA xn xc) ∧ CallH P N.pair_At [.int .u64 p, .int .i64 x3, .slice xA xn xc, .int .u64 x, .int .u64 x2] H_2 fun v H_3 =>
  ∃ r0 : Int, ∃ r1 : Int, v = .tuple #[.int .u64 r0, .int .i64 r1] ∧ ∃ x4 : Int, cellH H_3 (Addr.mk H.size 0 none) = some (.int .i64 x4) ∧ ∃ (xA2 : Option Addr) (xn2 xc2 : Nat), cellH H_3 (((Addr.mk H.size 0 none)).add 1) = some (.slice xA2 xn2 xc2) ∧ CallH P N.pair_Row [.int .u64 p, .int .i64 x4, .slice xA2 xn2 xc2, .int .u64 x] H_3 fun v2 H_4 =>
  ∃ (r0A : Option Addr) (r0n r0c : Nat), ∃ r12 : Int, v2 = .tuple #[.slice r0A r0n r0c, .int .i64 r12] ∧ ∃ x5 : Int, cellH H_4 (Addr.mk H.size 0 none) = some (.int .i64 x5) ∧ ∃ (xA3 : Option Addr) (xn3 xc3 : Nat), cellH H_4 (((Addr.mk H.size 0 none)).add 1) = some (.slice xA3 xn3 xc3) ∧ NewH (H_4.push (.cells #[.slice xA3 xn3 xc3] 23 (0, 0))) fun H_5 =>
  CallH P N.juntoref06_Check [.int .u64 p, .int .i64 x5, .slice (some (Addr.mk H_4.size 0 none)) 1 1] H_5 fun v3 H_6 =>
  ∃ r : Int, v3 = .int .i64 r ∧ cond (r != 0) (CallH P N.juntolaw06_number [.int .u64 r0, .int .i64 r1, .int .u64 0, .int .i64 r] H_6 fun v4 H_7 =>
  ∃ r2 : Bool, v4 = .bool r2 ∧ cond r2 (CallH P N.juntolaw06_list [.slice r0A r0n r0c, .int .i64 r12, .slice none 0 0, .int .i64 r] H_7 fun v5 H_8 =>
  ∃ r3 : Bool, v5 = .bool r3 ∧ cond r3 (CallH P N.juntolaw06_alive [] H_8 fun v6 H_9 =>
  ∃ r4 : Bool, v6 = .bool r4 ∧ R (.bool r4) H_9) (R (.bool false) H_8)) (R (.bool false) H_7))
   (cond (decide (x ≥ p)) (CallH P N.juntolaw06_number [.int .u64 r0, .int .i64 r1, .int .u64 0, .int .i64 2] H_6 fun v7 H_10 =>
  ∃ r5 : Bool, v7 = .bool r5 ∧ cond r5 (CallH P N.juntolaw06_list [.slice r0A r0n r0c, .int .i64 r12, .slice none 0 0, .int .i64 2] H_10 fun v8 H_11 =>
  ∃ r6 : Bool, v8 = .bool r6 ∧ R (.bool r6) H_11) (R (.bool false) H_10))
   (p ≠ 0 ∧ ∃ (xA4 : Option Addr) (xn4 xc4 : Nat), cellH H_6 (((Addr.mk H.size 0 none)).add 1) = some (.slice xA4 xn4 xc4) ∧ (CallH P N.juntoref06_At [.int .u64 p, .slice xA4 xn4 xc4, .int .u64 x, .int .u64 (Int.tmod x2 p)] H_6 fun v9 H_12 =>
  ∃ r7 : Int, v9 = .int .u64 r7 ∧ NewH (H_12.push (.cells #[.int .u64 x2] 22 (0, 0))) fun H_13 =>
  CallH P N.juntoref01_Within [.int .u64 p, .slice (some (Addr.mk H_12.size 0 none)) 1 1] H_13 fun v10 H_14 =>
  ∃ r8 : Int, v10 = .int .i64 r8 ∧ CallH P N.juntolaw06_number [.int .u64 r0, .int .i64 r1, .int .u64 r7, .int .i64 r8] H_14 fun v11 H_15 =>
  ∃ r9 : Bool, v11 = .bool r9 ∧ cond r9 (∃ (xA5 : Option Addr) (xn5 xc5 : Nat), cellH H_15 (((Addr.mk H.size 0 none)).add 1) = some (.slice xA5 xn5 xc5) ∧ CallH P N.juntoref06_Row [.int .u64 p, .slice xA5 xn5 xc5, .int .u64 x] H_15 fun v12 H_16 =>
  ∃ (rA : Option Addr) (rn rc : Nat), v12 = .slice rA rn rc ∧ CallH P N.juntolaw06_list [.slice r0A r0n r0c, .int .i64 r12, .slice rA rn rc, .int .i64 0] H_16 fun v13 H_17 =>
  ∃ r10 : Bool, v13 = .bool r10 ∧ R (.bool r10) H_17) (R (.bool false) H_15)) ∧ NewH (H_6.push (.cells #[.int .u64 x2] 22 (0, 0))) fun H_18 =>
  cellH H_18 (((Addr.mk H.size 0 none)).add 1) = some (.slice xA4 xn4 xc4) ∧ CallH P N.juntoref06_At [.int .u64 p, .slice xA4 xn4 xc4, .int .u64 x, .int .u64 (Int.tmod x2 p)] H_18 fun v14 H_19 =>
  ∃ r11 : Int, v14 = .int .u64 r11 ∧ CallH P N.juntoref01_Within [.int .u64 p, .slice (some (Addr.mk H_6.size 0 none)) 1 1] H_19 fun v15 H_20 =>
  ∃ r13 : Int, v15 = .int .i64 r13 ∧ CallH P N.juntolaw06_number [.int .u64 r0, .int .i64 r1, .int .u64 r11, .int .i64 r13] H_20 fun v16 H_21 =>
  ∃ r14 : Bool, v16 = .bool r14 ∧ cond r14 (∃ (xA6 : Option Addr) (xn6 xc6 : Nat), cellH H_21 (((Addr.mk H.size 0 none)).add 1) = some (.slice xA6 xn6 xc6) ∧ CallH P N.juntoref06_Row [.int .u64 p, .slice xA6 xn6 xc6, .int .u64 x] H_21 fun v17 H_22 =>
  ∃ (rA2 : Option Addr) (rn2 rc2 : Nat), v17 = .slice rA2 rn2 rc2 ∧ CallH P N.juntolaw06_list [.slice r0A r0n r0c, .int .i64 r12, .slice rA2 rn2 rc2, .int .i64 0] H_22 fun v18 H_23 =>
  ∃ r15 : Bool, v18 = .bool r15 ∧ R (.bool r15) H_23) (R (.bool false) H_21)))
theorem juntolaw06_PairValues.ok (p : Int) (q_0 : Int) (q_1A : Option Addr) (q_1n q_1c : Nat) (at_0 : Int) (at_1 : Int) (H : Heap) (R : Value → Heap → Prop) (h : juntolaw06_PairValues.W p q_0 q_1A q_1n q_1c at_0 at_1 H R) : CallH P N.juntolaw06_PairValues ([.int .u64 p, .agg #[.int .i64 q_0, .slice q_1A q_1n q_1c], .agg #[.int .u64 at_0, .int .u64 at_1]] : List Value) H R := by
  have e : juntolaw06_PairValues.W p q_0 q_1A q_1n q_1c at_0 at_1 H R = sxFn P T Sh.R nf juntolaw06_PairValues.A Try.f5.results.toList (bodyOf Try.f5) (([(.int .u64 p : Value), (.agg #[.int .i64 q_0, .slice q_1A q_1n q_1c] : Value), (.agg #[.int .u64 at_0, .int .u64 at_1] : Value)] : List Value) ++ List.replicate (97 - ([(.int .u64 p : Value), (.agg #[.int .i64 q_0, .slice q_1A q_1n q_1c] : Value), (.agg #[.int .u64 at_0, .int .u64 at_1] : Value)] : List Value).length) undef) H R := by kernel_rfl
  exact call_of_sx fits bodies mixed Try.func5 (c := bodyOf Try.f5) (by kernel_rfl) Try.ntmps5 juntolaw06_PairValues.A (by kernel_rfl) (e.mp h)

end Go.Proofs.Ytlhcaangdenoaaa.Sh
