import Derived.Test.YtlhcaangdenoaaaTypes
import Derived.Test.YtlhcaangdenoaaaFnJuntolaw06
import Derived.Test.YtlhcaangdenoaaaFnJuntoref01
import Derived.Test.YtlhcaangdenoaaaFnJuntoref02
import Derived.Test.YtlhcaangdenoaaaFnJuntoref06
import Derived.Test.YtlhcaangdenoaaaFnPair
set_option linter.unusedVariables false
set_option linter.unusedSimpArgs false
set_option maxRecDepth 100000
namespace Go.Proofs.Ytlhcaangdenoaaa.Sh
open Go.Sx

/-! juntolaw06_PairOnly -/
def juntolaw06_PairOnly.A : Ann where
  loops := fun i => match i with
    | 28684 => [(13, .bool), (125, .int .i64)]
    | _ => []
  plans := fun i => match i with
    | 1 => .first 0 (.first 1 (.read 2 (.alt 3 [2] (.first 4 (.first 5 (.first 6 (.first 8 (.read 7 (.first 9 (.first 10 (.first 11 (.first 12 (.first 15 (.read 13 (.first 14 (.read 16 (.alt 17 [16] (.first 18 (.first 19 (.first 20 (.first 21 (.first 22 (.read 23 (.alt 24 [23] (.first 25 (.first 26 (.first 27 (.first 28 (.read 29 (.first 30 (.first 31 (.first 32 (.first 33 (.first 34 (.first 39 (.read 35 (.first 36 (.read 37 (.first 38 (.read 40 (.alt 41 [40] (.first 42 (.first 43 (.first 44 (.first 45 (.first 46 (.read 47 (.first 48 (.read 49 (.alt 50 [49] (.first 51 (.first 52 (.first 53 (.first 54 (.first 57 (.read 55 (.first 56 (.read 58 (.first 59 (.first 60 (.first 61 (.first 62 (.first 63 (.read 64 (.alt 65 [64] (.first 66 (.first 67 (.first 68 (.first 70 (.read 71 (.alt 69 [] (.alt 72 [71] (.alt 73 [] (.first 74 (.done)) (.stop)) (.stop)) (.stop))))))) (.stop)))))))))))))))) (.stop)))))))))) (.stop)))))))))))))))))) (.stop)))))))) (.stop))))))))))))))) (.stop))))
    | 4 => .first 0 (.first 1 (.first 3 (.first 5 (.read 2 (.read 4 (.read 6 (.first 7 (.read 8 (.alt 9 [2, 4, 8] (.first 10 (.first 11 (.first 12 (.first 13 (.first 14 (.first 15 (.first 16 (.done)))))))) (.stop))))))))))
    | 13 => .first 0 (.first 1 (.first 2 (.first 3 (.first 4 (.first 5 (.first 6 (.first 7 (.first 8 (.first 10 (.read 9 (.read 11 (.first 12 (.read 13 (.alt 14 [9, 13] (.first 15 (.first 16 (.first 17 (.alt 18 [] (.first 19 (.first 20 (.done))) (.stop))))) (.stop)))))))))))))))
    | _ => .stop
def juntolaw06_PairOnly.W (p : Int) (q_0 : Int) (q_1 : Int) (q_2A : Option Addr) (q_2n q_2c : Nat) (r_0 : Int) (r_1A : Option Addr) (r_1n r_1c : Nat) (r_2A : Option Addr) (r_2n r_2c : Nat) (H : Heap) (R : Value → Heap → Prop) : Prop :=
  NewH (H.push (.cells #[.int .u64 q_0, .int .i64 q_1, .slice q_2A q_2n q_2c] 32 (0, 0))) fun H_ =>
  NewH (H_.push (.cells #[.int .i64 r_0, .slice r_1A r_1n r_1c, .slice r_2A r_2n r_2c] 57 (0, 0))) fun H_2 =>
  ∃ x : Int, cellH H_2 (((Addr.mk H.size 0 none)).add 1) = some (.int .i64 x) ∧ CallH P N.juntoref06_Bounds [.int .u64 p, .int .i64 x] H_2 fun v H_3 =>
  ∃ r : Int, v = .int .i64 r ∧ cond (r != 0) (CallH P N.juntolaw06_alive [] H_3 fun v2 H_4 =>
  ∃ r2 : Bool, v2 = .bool r2 ∧ R (.bool r2) H_4) (∃ x2 : Int, cellH H_3 (Addr.mk H.size 0 none) = some (.int .u64 x2) ∧ cond (decide (x2 ≥ p)) (CallH P N.juntolaw06_alive [] H_3 fun v3 H_5 =>
  ∃ r3 : Bool, v3 = .bool r3 ∧ R (.bool r3) H_5) (∃ (xA : Option Addr) (xn xc : Nat), cellH H_3 (((Addr.mk H.size 0 none)).add 2) = some (.slice xA xn xc) ∧ ∃ x3 : Int, cellH H_3 (((Addr.mk H.size 0 none)).add 1) = some (.int .i64 x3) ∧ CallH P N.juntoref06_Size [.int .i64 x3] H_3 fun v4 H_6 =>
  ∃ r4 : Int, v4 = .int .i64 r4 ∧ cellH H_6 (((Addr.mk H.size 0 none)).add 2) = some (.slice xA xn xc) ∧ cellH H_6 (Addr.mk H.size 0 none) = some (.int .u64 x2) ∧ cond (((xn : Nat) : Int) != r4) (CallH P N.juntolaw06_alive [] H_6 fun v5 H_7 =>
  ∃ r5 : Bool, v5 = .bool r5 ∧ R (.bool r5) H_7) (∃ (xA2 : Option Addr) (xn2 xc2 : Nat), cellH H_6 (((Addr.mk H.size 0 none)).add 2) = some (.slice xA2 xn2 xc2) ∧ CallH P N.juntoref01_Within [.int .u64 p, .slice xA2 xn2 xc2] H_6 fun v6 H_8 =>
  ∃ r6 : Int, v6 = .int .i64 r6 ∧ cellH H_8 (((Addr.mk H.size 0 none)).add 2) = some (.slice xA xn xc) ∧ cellH H_8 (Addr.mk H.size 0 none) = some (.int .u64 x2) ∧ cond (r6 != 0) (CallH P N.juntolaw06_alive [] H_8 fun v7 H_9 =>
  ∃ r7 : Bool, v7 = .bool r7 ∧ R (.bool r7) H_9) (∃ (xA3 : Option Addr) (xn3 xc3 : Nat), cellH H_8 (((Addr.mk H_.size 0 none)).add 2) = some (.slice xA3 xn3 xc3) ∧ cond (((xn3 : Nat) : Int) != 1) (CallH P N.juntolaw06_alive [] H_8 fun v8 H_10 =>
  ∃ r8 : Bool, v8 = .bool r8 ∧ R (.bool r8) H_10) (∃ (xA4 : Option Addr) (xn4 xc4 : Nat), cellH H_8 (((Addr.mk H_.size 0 none)).add 2) = some (.slice xA4 xn4 xc4) ∧ ∃ a : Addr, xA4 = some a ∧ 0 ≤ (0 : Int) ∧ (0 : Int) < ((xn4 : Nat) : Int) ∧ ∃ (xA5 : Option Addr) (xn5 xc5 : Nat), cellH H_8 (a.add 0) = some (.slice xA5 xn5 xc5) ∧ ∃ x4 : Int, cellH H_8 (((Addr.mk H.size 0 none)).add 1) = some (.int .i64 x4) ∧ CallH P N.juntoref06_Size [.int .i64 x4] H_8 fun v9 H_11 =>
  ∃ r9 : Int, v9 = .int .i64 r9 ∧ cellH H_11 (a.add 0) = some (.slice xA5 xn5 xc5) ∧ cellH H_11 (((Addr.mk H_.size 0 none)).add 2) = some (.slice xA4 xn4 xc4) ∧ cellH H_11 (((Addr.mk H_.size 0 none)).add 2) = some (.slice xA3 xn3 xc3) ∧ cellH H_11 (((Addr.mk H.size 0 none)).add 2) = some (.slice xA xn xc) ∧ cellH H_11 (Addr.mk H.size 0 none) = some (.int .u64 x2) ∧ cond (((xn5 : Nat) : Int) != r9) (CallH P N.juntolaw06_alive [] H_11 fun v10 H_12 =>
  ∃ r10 : Bool, v10 = .bool r10 ∧ R (.bool r10) H_12) (∃ (xA6 : Option Addr) (xn6 xc6 : Nat), cellH H_11 (((Addr.mk H_.size 0 none)).add 2) = some (.slice xA6 xn6 xc6) ∧ ∃ a2 : Addr, xA6 = some a2 ∧ 0 ≤ (0 : Int) ∧ (0 : Int) < ((xn6 : Nat) : Int) ∧ ∃ (xA7 : Option Addr) (xn7 xc7 : Nat), cellH H_11 (a2.add 0) = some (.slice xA7 xn7 xc7) ∧ CallH P N.juntoref01_Within [.int .u64 p, .slice xA7 xn7 xc7] H_11 fun v11 H_13 =>
  ∃ r11 : Int, v11 = .int .i64 r11 ∧ cellH H_13 (((Addr.mk H_.size 0 none)).add 2) = some (.slice xA6 xn6 xc6) ∧ cellH H_13 (a.add 0) = some (.slice xA5 xn5 xc5) ∧ cellH H_13 (((Addr.mk H_.size 0 none)).add 2) = some (.slice xA4 xn4 xc4) ∧ cellH H_13 (((Addr.mk H_.size 0 none)).add 2) = some (.slice xA3 xn3 xc3) ∧ cellH H_13 (((Addr.mk H.size 0 none)).add 2) = some (.slice xA xn xc) ∧ cellH H_13 (Addr.mk H.size 0 none) = some (.int .u64 x2) ∧ cond (r11 != 0) (CallH P N.juntolaw06_alive [] H_13 fun v12 H_14 =>
  ∃ r12 : Bool, v12 = .bool r12 ∧ R (.bool r12) H_14) (∃ (xA8 : Option Addr) (xn8 xc8 : Nat), cellH H_13 (((Addr.mk H_.size 0 none)).add 1) = some (.slice xA8 xn8 xc8) ∧ ∃ x5 : Int, cellH H_13 (((Addr.mk H.size 0 none)).add 1) = some (.int .i64 x5) ∧ cond (((xn8 : Nat) : Int) != x5) (CallH P N.juntolaw06_alive [] H_13 fun v13 H_15 =>
  ∃ r13 : Bool, v13 = .bool r13 ∧ R (.bool r13) H_15) (∃ (xA9 : Option Addr) (xn9 xc9 : Nat), cellH H_13 (((Addr.mk H_.size 0 none)).add 1) = some (.slice xA9 xn9 xc9) ∧ CallH P N.juntoref01_Within [.int .u64 p, .slice xA9 xn9 xc9] H_13 fun v14 H_16 =>
  ∃ r14 : Int, v14 = .int .i64 r14 ∧ cellH H_16 (((Addr.mk H.size 0 none)).add 1) = some (.int .i64 x5) ∧ cellH H_16 (((Addr.mk H_.size 0 none)).add 1) = some (.slice xA8 xn8 xc8) ∧ cellH H_16 (((Addr.mk H_.size 0 none)).add 2) = some (.slice xA6 xn6 xc6) ∧ cellH H_16 (a.add 0) = some (.slice xA5 xn5 xc5) ∧ cellH H_16 (((Addr.mk H_.size 0 none)).add 2) = some (.slice xA4 xn4 xc4) ∧ cellH H_16 (((Addr.mk H_.size 0 none)).add 2) = some (.slice xA3 xn3 xc3) ∧ cellH H_16 (((Addr.mk H.size 0 none)).add 2) = some (.slice xA xn xc) ∧ cellH H_16 (Addr.mk H.size 0 none) = some (.int .u64 x2) ∧ cond (r14 != 0) (CallH P N.juntolaw06_alive [] H_16 fun v15 H_17 =>
  ∃ r15 : Bool, v15 = .bool r15 ∧ R (.bool r15) H_17) (∃ (xA10 : Option Addr) (xn10 xc10 : Nat), cellH H_16 (((Addr.mk H_.size 0 none)).add 1) = some (.slice xA10 xn10 xc10) ∧ NewH (H_16.push (.cells #[.int .u64 0] 22 (0, 0))) fun H_18 =>
  cellH H_18 (((Addr.mk H_.size 0 none)).add 1) = some (.slice xA10 xn10 xc10) ∧ cellH H_18 (((Addr.mk H.size 0 none)).add 1) = some (.int .i64 x5) ∧ cellH H_18 (((Addr.mk H_.size 0 none)).add 1) = some (.slice xA8 xn8 xc8) ∧ cellH H_18 (((Addr.mk H_.size 0 none)).add 2) = some (.slice xA6 xn6 xc6) ∧ cellH H_18 (a.add 0) = some (.slice xA5 xn5 xc5) ∧ cellH H_18 (((Addr.mk H_.size 0 none)).add 2) = some (.slice xA4 xn4 xc4) ∧ cellH H_18 (((Addr.mk H_.size 0 none)).add 2) = some (.slice xA3 xn3 xc3) ∧ cellH H_18 (((Addr.mk H.size 0 none)).add 2) = some (.slice xA xn xc) ∧ cellH H_18 (Addr.mk H.size 0 none) = some (.int .u64 x2) ∧ AppendV 22 1 8 [.int .u64 0] H_18 (some (Addr.mk H_16.size 0 none)) 1 1 xA10 xn10 fun vA vn vc H_19 =>
  cellH H_19 (((Addr.mk H.size 0 none)).add 1) = some (.int .i64 x5) ∧ cellH H_19 (((Addr.mk H_.size 0 none)).add 1) = some (.slice xA8 xn8 xc8) ∧ cellH H_19 (((Addr.mk H_.size 0 none)).add 2) = some (.slice xA6 xn6 xc6) ∧ cellH H_19 (a.add 0) = some (.slice xA5 xn5 xc5) ∧ cellH H_19 (((Addr.mk H_.size 0 none)).add 2) = some (.slice xA4 xn4 xc4) ∧ cellH H_19 (((Addr.mk H_.size 0 none)).add 2) = some (.slice xA3 xn3 xc3) ∧ cellH H_19 (((Addr.mk H.size 0 none)).add 2) = some (.slice xA xn xc) ∧ cellH H_19 (Addr.mk H.size 0 none) = some (.int .u64 x2) ∧ CallH P N.juntoref02_Twice [.slice vA vn vc] H_19 fun v17 H_20 =>
  ∃ r16 : Bool, v17 = .bool r16 ∧ cellH H_20 (((Addr.mk H.size 0 none)).add 1) = some (.int .i64 x5) ∧ cellH H_20 (((Addr.mk H_.size 0 none)).add 1) = some (.slice xA8 xn8 xc8) ∧ cellH H_20 (((Addr.mk H_.size 0 none)).add 2) = some (.slice xA6 xn6 xc6) ∧ cellH H_20 (a.add 0) = some (.slice xA5 xn5 xc5) ∧ cellH H_20 (((Addr.mk H_.size 0 none)).add 2) = some (.slice xA4 xn4 xc4) ∧ cellH H_20 (((Addr.mk H_.size 0 none)).add 2) = some (.slice xA3 xn3 xc3) ∧ cellH H_20 (((Addr.mk H.size 0 none)).add 2) = some (.slice xA xn xc) ∧ cellH H_20 (Addr.mk H.size 0 none) = some (.int .u64 x2) ∧ cond r16 (CallH P N.juntolaw06_alive [] H_20 fun v18 H_21 =>
  ∃ r17 : Bool, v18 = .bool r17 ∧ R (.bool r17) H_21)
   (∃ x6 : Int, cellH H_20 (Addr.mk H.size 0 none) = some (.int .u64 x6) ∧ ∃ x7 : Int, cellH H_20 (((Addr.mk H.size 0 none)).add 1) = some (.int .i64 x7) ∧ ∃ (xA11 : Option Addr) (xn11 xc11 : Nat), cellH H_20 (((Addr.mk H.size 0 none)).add 2) = some (.slice xA11 xn11 xc11) ∧ CallH P N.pair_Make [.int .u64 p, .int .u64 x6, .int .i64 x7, .slice xA11 xn11 xc11] H_20 fun v19 H_22 =>
  ∃ (r0A : Option Addr) (r0n r0c : Nat), ∃ (r1A : Option Addr) (r1n r1c : Nat), ∃ r22 : Int, v19 = .tuple #[.slice r0A r0n r0c, .slice r1A r1n r1c, .int .i64 r22] ∧ ∃ x8 : Int, cellH H_22 (Addr.mk H.size 0 none) = some (.int .u64 x8) ∧ ∃ x9 : Int, cellH H_22 (((Addr.mk H.size 0 none)).add 1) = some (.int .i64 x9) ∧ ∃ (xA12 : Option Addr) (xn12 xc12 : Nat), cellH H_22 (((Addr.mk H_.size 0 none)).add 2) = some (.slice xA12 xn12 xc12) ∧ ∃ a3 : Addr, xA12 = some a3 ∧ 0 ≤ (0 : Int) ∧ (0 : Int) < ((xn12 : Nat) : Int) ∧ ∃ (xA13 : Option Addr) (xn13 xc13 : Nat), cellH H_22 (a3.add 0) = some (.slice xA13 xn13 xc13) ∧ CallH P N.pair_Make [.int .u64 p, .int .u64 x8, .int .i64 x9, .slice xA13 xn13 xc13] H_22 fun v20 H_23 =>
  ∃ (r0A2 : Option Addr) (r0n2 r0c2 : Nat), ∃ (r1A2 : Option Addr) (r1n2 r1c2 : Nat), ∃ r23 : Int, v20 = .tuple #[.slice r0A2 r0n2 r0c2, .slice r1A2 r1n2 r1c2, .int .i64 r23] ∧ cellH H_23 (((Addr.mk H_.size 0 none)).add 2) = some (.slice xA12 xn12 xc12) ∧ ∃ (xA14 : Option Addr) (xn14 xc14 : Nat), cellH H_23 (((Addr.mk H_.size 0 none)).add 1) = some (.slice xA14 xn14 xc14) ∧ LoopI (σ := Bool × Int) (fun κ => κ (true, 0) H_23) fun s z H_24 next =>
  cond (decide (s.2 < ((xn14 : Nat) : Int))) (∃ a4 : Addr, xA14 = some a4 ∧ 0 ≤ s.2 ∧ s.2 < ((xn14 : Nat) : Int) ∧ ∃ x10 : Int, cellH H_24 (a4.add (Int.toNat s.2)) = some (.int .u64 x10) ∧ ∃ x11 : Int, cellH H_24 (((Addr.mk H.size 0 none)).add 1) = some (.int .i64 x11) ∧ CallH P N.pair_Row [.int .u64 p, .int .i64 x11, .slice r0A r0n r0c, .int .u64 x10] H_24 fun v21 H_25 =>
  ∃ (r0A3 : Option Addr) (r0n3 r0c3 : Nat), ∃ r1 : Int, v21 = .tuple #[.slice r0A3 r0n3 r0c3, .int .i64 r1] ∧ ∃ x12 : Int, cellH H_25 (((Addr.mk H.size 0 none)).add 1) = some (.int .i64 x12) ∧ CallH P N.pair_Row [.int .u64 p, .int .i64 x12, .slice r0A2 r0n2 r0c2, .int .u64 x10] H_25 fun v22 H_26 =>
  ∃ (r0A4 : Option Addr) (r0n4 r0c4 : Nat), ∃ r18 : Int, v22 = .tuple #[.slice r0A4 r0n4 r0c4, .int .i64 r18] ∧ cond s.1 (cond (r1 == 0) (cond (r18 == 0) (CallH P N.juntoref01_Same [.slice r0A3 r0n3 r0c3, .slice r0A4 r0n4 r0c4] H_26 fun v23 H_27 =>
  ∃ r19 : Bool, v23 = .bool r19 ∧ next (r19, IntKind.i64.wrap (s.2 + 1)) H_27) (next (false, IntKind.i64.wrap (s.2 + 1)) H_26)) (next (false, IntKind.i64.wrap (s.2 + 1)) H_26)) (next (false, IntKind.i64.wrap (s.2 + 1)) H_26))
   (cond (r22 == 0) (cond (r23 == 0) (∃ (xA15 : Option Addr) (xn15 xc15 : Nat), cellH H_24 (((Addr.mk H.size 0 none)).add 2) = some (.slice xA15 xn15 xc15) ∧ ∃ (xA16 : Option Addr) (xn16 xc16 : Nat), cellH H_24 (((Addr.mk H_.size 0 none)).add 2) = some (.slice xA16 xn16 xc16) ∧ ∃ a5 : Addr, xA16 = some a5 ∧ 0 ≤ (0 : Int) ∧ (0 : Int) < ((xn16 : Nat) : Int) ∧ ∃ (xA17 : Option Addr) (xn17 xc17 : Nat), cellH H_24 (a5.add 0) = some (.slice xA17 xn17 xc17) ∧ CallH P N.juntoref01_Same [.slice xA15 xn15 xc15, .slice xA17 xn17 xc17] H_24 fun v24 H_28 =>
  ∃ r20 : Bool, v24 = .bool r20 ∧ cellH H_28 (((Addr.mk H_.size 0 none)).add 2) = some (.slice xA16 xn16 xc16) ∧ cond (s.1 == r20) (CallH P N.juntolaw06_alive [] H_28 fun v25 H_29 =>
  ∃ r21 : Bool, v25 = .bool r21 ∧ cellH H_29 (((Addr.mk H_.size 0 none)).add 2) = some (.slice xA16 xn16 xc16) ∧ R (.bool r21) H_29) (R (.bool false) H_28)) (R (.bool false) H_24)) (R (.bool false) H_24))))))))))))
theorem juntolaw06_PairOnly.ok (p : Int) (q_0 : Int) (q_1 : Int) (q_2A : Option Addr) (q_2n q_2c : Nat) (r_0 : Int) (r_1A : Option Addr) (r_1n r_1c : Nat) (r_2A : Option Addr) (r_2n r_2c : Nat) (H : Heap) (R : Value → Heap → Prop) (h : juntolaw06_PairOnly.W p q_0 q_1 q_2A q_2n q_2c r_0 r_1A r_1n r_1c r_2A r_2n r_2c H R) : CallH P N.juntolaw06_PairOnly ([.int .u64 p, .agg #[.int .u64 q_0, .int .i64 q_1, .slice q_2A q_2n q_2c], .agg #[.int .i64 r_0, .slice r_1A r_1n r_1c, .slice r_2A r_2n r_2c]] : List Value) H R := by
  have e : juntolaw06_PairOnly.W p q_0 q_1 q_2A q_2n q_2c r_0 r_1A r_1n r_1c r_2A r_2n r_2c H R = sxFn P T Sh.R nf juntolaw06_PairOnly.A Try.f7.results.toList (bodyOf Try.f7) (([(.int .u64 p : Value), (.agg #[.int .u64 q_0, .int .i64 q_1, .slice q_2A q_2n q_2c] : Value), (.agg #[.int .i64 r_0, .slice r_1A r_1n r_1c, .slice r_2A r_2n r_2c] : Value)] : List Value) ++ List.replicate (182 - ([(.int .u64 p : Value), (.agg #[.int .u64 q_0, .int .i64 q_1, .slice q_2A q_2n q_2c] : Value), (.agg #[.int .i64 r_0, .slice r_1A r_1n r_1c, .slice r_2A r_2n r_2c] : Value)] : List Value).length) undef) H R := by kernel_rfl
  exact call_of_sx fits bodies mixed Try.func7 (c := bodyOf Try.f7) (by kernel_rfl) Try.ntmps7 juntolaw06_PairOnly.A (by kernel_rfl) (e.mp h)

end Go.Proofs.Ytlhcaangdenoaaa.Sh

namespace Go.Proofs.Ytlhcaangdenoaaa.Sh
open Go.Sx Go.Lf

/-! juntolaw06_PairOnly -/
def juntolaw06_PairOnly.C (p : Nat) (q2 : TSecret) (r : TRows) (K : Bool → Prop) : Prop :=
  ∀ (Z : Nat → Prop) (H : Heap), ∀ (pv : Int), pv = (p : Int) → ∀ (qv : Int), qv = (q2.Value : Int) → ∀ (qA : Option Addr) (qn qc : Nat), qn = q2.Tape.length → SlF u64L Z H qA qc q2.Tape → ∀ (rA : Option Addr) (rn rc : Nat), rn = r.Xs.length → SlF u64L Z H rA rc r.Xs → ∀ (rA2 : Option Addr) (rn2 rc2 : Nat), rn2 = r.Rows.length → SlF (slL u64L) Z H rA2 rc2 r.Rows → ∀ KK : Value → Heap → Prop,
    (∀ (Z' : Nat → Prop) (H' : Heap), Ext H H' → Old Z H Z' → ∀ (r0 : Bool), K r0 → KK (.bool r0) H') →
    CallH P N.juntolaw06_PairOnly [.int .u64 pv, .agg #[.int .u64 qv, .int .i64 q2.T_, .slice qA qn qc], .agg #[.int .i64 r.T_, .slice rA rn rc, .slice rA2 rn2 rc2]] H KK
def juntolaw06_PairOnly.Q (p : Nat) (q2 : TSecret) (r : TRows) (K : Bool → Prop) : Prop :=
  juntoref06_Bounds.C p q2.T_ (fun (x : Int) =>
  cond (x != 0) (juntolaw06_alive.C (fun (x2 : Bool) =>
  K x2))
   (cond (decide ((q2.Value : Int) ≥ (p : Int))) (juntolaw06_alive.C (fun (x3 : Bool) =>
  K x3))
   (juntoref06_Size.C q2.T_ (fun (x4 : Int) =>
  cond (((q2.Tape.length : Nat) : Int) != x4) (juntolaw06_alive.C (fun (x5 : Bool) =>
  K x5))
   (juntoref01_Within.C p q2.Tape (fun (x6 : Int) =>
  cond (x6 != 0) (juntolaw06_alive.C (fun (x7 : Bool) =>
  K x7))
   (cond (((r.Rows.length : Nat) : Int) != 1) (juntolaw06_alive.C (fun (x8 : Bool) =>
  K x8))
   (0 ≤ (0 : Int) ∧ ∃ x9 : (List Nat), r.Rows[0]? = some x9 ∧ juntoref06_Size.C q2.T_ (fun (x10 : Int) =>
  cond (((x9.length : Nat) : Int) != x10) (juntolaw06_alive.C (fun (x11 : Bool) =>
  K x11))
   (0 ≤ (0 : Int) ∧ ∃ x12 : (List Nat), r.Rows[0]? = some x12 ∧ juntoref01_Within.C p x12 (fun (x13 : Int) =>
  cond (x13 != 0) (juntolaw06_alive.C (fun (x14 : Bool) =>
  K x14))
   (cond (((r.Xs.length : Nat) : Int) != q2.T_) (juntolaw06_alive.C (fun (x15 : Bool) =>
  K x15))
   (juntoref01_Within.C p r.Xs (fun (x16 : Int) =>
  cond (x16 != 0) (juntolaw06_alive.C (fun (x17 : Bool) =>
  K x17))
   (AppOk 8 ([0] ++ r.Xs).length ∧ juntoref02_Twice.C ([0] ++ r.Xs) (fun (x18 : Bool) =>
  cond x18 (juntolaw06_alive.C (fun (x19 : Bool) =>
  K x19))
   (pair_Make.C p q2.Value q2.T_ q2.Tape (fun (r2 : (List (List Nat))) (r3 : (List Nat)) (r4 : Int) =>
  0 ≤ (0 : Int) ∧ ∃ x20 : (List Nat), r.Rows[0]? = some x20 ∧ pair_Make.C p q2.Value q2.T_ x20 (fun (r5 : (List (List Nat))) (r6 : (List Nat)) (r7 : Int) =>
  LoopQ (τ := Bool × Int) (true, 0) fun t nextQ =>
  cond (decide (t.2 < ((r.Xs.length : Nat) : Int))) (0 ≤ t.2 ∧ ∃ x21 : Nat, r.Xs[Int.toNat t.2]? = some x21 ∧ pair_Row.C p q2.T_ r2 x21 (fun (r8 : (List Nat)) (r9 : Int) =>
  pair_Row.C p q2.T_ r5 x21 (fun (r10 : (List Nat)) (r11 : Int) =>
  cond t.1 (cond (r9 == 0) (cond (r11 == 0) (juntoref01_Same.C r8 r10 (fun (x22 : Bool) =>
  nextQ (x22, IntKind.i64.wrap (t.2 + 1))))
   (nextQ (false, IntKind.i64.wrap (t.2 + 1))))
   (nextQ (false, IntKind.i64.wrap (t.2 + 1))))
   (nextQ (false, IntKind.i64.wrap (t.2 + 1))))))
   (cond (r4 == 0) (cond (r7 == 0) (0 ≤ (0 : Int) ∧ ∃ x23 : (List Nat), r.Rows[0]? = some x23 ∧ juntoref01_Same.C q2.Tape x23 (fun (x24 : Bool) =>
  cond (t.1 == x24) (juntolaw06_alive.C (fun (x25 : Bool) =>
  K x25))
   (K false)))
   (K false))
   (K false)))))))))))))))))))))
theorem juntolaw06_PairOnly.q {p : Nat} {q2 : TSecret} {r : TRows} {K : Bool → Prop} (q : juntolaw06_PairOnly.Q p q2 r K) : juntolaw06_PairOnly.C p q2 r K := by
  intro Z H pv he qv he2 qA qn qc hn f rA rn rc hn2 f2 rA2 rn2 rc2 hn3 f3 KK hk
  cases he
  cases he2
  cases hn
  cases hn2
  cases hn3
  apply juntolaw06_PairOnly.ok
  unfold juntolaw06_PairOnly.W
  unfold juntolaw06_PairOnly.Q at q
  obtain ⟨σ, hz, hσ⟩ := tags Z
  have hs : Stp ([1, 2, 3, 4, 5, 6, 7] : List Nat) σ H σ H := Stp.refl _ _ _
  replace f := f.wide hz
  replace f2 := f2.wide hz
  replace f3 := f3.wide hz
  clear hz
  refine NewH.mk fun H_ e => ?_
  obtain ⟨xσ, st, b⟩ := BoxF.new σ 0 e
  replace f := f.step st
  replace f2 := f2.step st
  replace f3 := f3.step st
  replace hs := hs.trans st
  refine NewH.mk fun H_2 e2 => ?_
  obtain ⟨xσ2, st2, b2⟩ := BoxF.new xσ 0 e2
  replace f := f.step st2
  replace f2 := f2.step st2
  replace f3 := f3.step st2
  replace b := b.step st2
  replace hs := hs.trans st2
  refine ⟨_, b.cell 1 rfl, ?_⟩
  refine q (Zt xσ2) H_2 _ rfl _ (fun Z2 H_3 hE hO x q => ?_)
  obtain ⟨xσ3, st3⟩ := call0 hE xσ2
  replace f := f.step st3
  replace f2 := f2.step st3
  replace f3 := f3.step st3
  replace b := b.step st3
  replace b2 := b2.step st3
  replace hs := hs.trans st3
  refine ⟨_, rfl, ?_⟩
  refine condI (fun q => ?_) (fun q => ?_) q
  · refine q (Zt xσ3) H_3  _ (fun Z3 H_4 hE2 hO2 x2 q => ?_)
    obtain ⟨xσ4, st4⟩ := call0 hE2 xσ3
    replace f := f.step st4
    replace f2 := f2.step st4
    replace f3 := f3.step st4
    replace b := b.step st4
    replace b2 := b2.step st4
    replace hs := hs.trans st4
    refine ⟨_, rfl, ?_⟩
    exact hk (Zt xσ4) _ (hs.ext hσ) (hs.old hσ) _ q
  · refine ⟨_, b.cell0, ?_⟩
    refine condI (fun q => ?_) (fun q => ?_) q
    · refine q (Zt xσ3) H_3  _ (fun Z4 H_5 hE3 hO3 x3 q => ?_)
      obtain ⟨xσ5, st5⟩ := call0 hE3 xσ3
      replace f := f.step st5
      replace f2 := f2.step st5
      replace f3 := f3.step st5
      replace b := b.step st5
      replace b2 := b2.step st5
      replace hs := hs.trans st5
      refine ⟨_, rfl, ?_⟩
      exact hk (Zt xσ5) _ (hs.ext hσ) (hs.old hσ) _ q
    · refine ⟨_, _, _, b.cell 2 rfl, ?_⟩
      refine ⟨_, b.cell 1 rfl, ?_⟩
      refine q (Zt xσ3) H_3  _ (fun Z5 H_6 hE4 hO4 x4 q => ?_)
      obtain ⟨xσ6, st6⟩ := call0 hE4 xσ3
      replace f := f.step st6
      replace f2 := f2.step st6
      replace f3 := f3.step st6
      replace b := b.step st6
      replace b2 := b2.step st6
      replace hs := hs.trans st6
      refine ⟨_, rfl, ?_⟩
      refine ⟨(b.cell 2 rfl), b.cell0, ?_⟩
      refine condI (fun q => ?_) (fun q => ?_) q
      · refine q (Zt xσ6) H_6  _ (fun Z6 H_7 hE5 hO5 x5 q => ?_)
        obtain ⟨xσ7, st7⟩ := call0 hE5 xσ6
        replace f := f.step st7
        replace f2 := f2.step st7
        replace f3 := f3.step st7
        replace b := b.step st7
        replace b2 := b2.step st7
        replace hs := hs.trans st7
        refine ⟨_, rfl, ?_⟩
        exact hk (Zt xσ7) _ (hs.ext hσ) (hs.old hσ) _ q
      · refine ⟨_, _, _, b.cell 2 rfl, ?_⟩
        refine q (Zt xσ6) H_6 _ rfl _ _ _ rfl f _ (fun Z7 H_8 hE6 hO6 x6 q => ?_)
        obtain ⟨xσ8, st8⟩ := call0 hE6 xσ6
        replace f := f.step st8
        replace f2 := f2.step st8
        replace f3 := f3.step st8
        replace b := b.step st8
        replace b2 := b2.step st8
        replace hs := hs.trans st8
        refine ⟨_, rfl, ?_⟩
        refine ⟨(b.cell 2 rfl), b.cell0, ?_⟩
        refine condI (fun q => ?_) (fun q => ?_) q
        · refine q (Zt xσ8) H_8  _ (fun Z8 H_9 hE7 hO7 x7 q => ?_)
          obtain ⟨xσ9, st9⟩ := call0 hE7 xσ8
          replace f := f.step st9
          replace f2 := f2.step st9
          replace f3 := f3.step st9
          replace b := b.step st9
          replace b2 := b2.step st9
          replace hs := hs.trans st9
          refine ⟨_, rfl, ?_⟩
          exact hk (Zt xσ9) _ (hs.ext hσ) (hs.old hσ) _ q
        · refine ⟨_, _, _, b2.cell 2 rfl, ?_⟩
          refine condI (fun q => ?_) (fun q => ?_) q
          · refine q (Zt xσ8) H_8  _ (fun Z9 H_10 hE8 hO8 x8 q => ?_)
            obtain ⟨xσ10, st10⟩ := call0 hE8 xσ8
            replace f := f.step st10
            replace f2 := f2.step st10
            replace f3 := f3.step st10
            replace b := b.step st10
            replace b2 := b2.step st10
            replace hs := hs.trans st10
            refine ⟨_, rfl, ?_⟩
            exact hk (Zt xσ10) _ (hs.ext hσ) (hs.old hσ) _ q
          · refine ⟨_, _, _, b2.cell 2 rfl, ?_⟩
            obtain ⟨h0, x9, hx, q⟩ := q
            obtain ⟨a, ha, hi⟩ := f3.addr h0 hx rfl
            refine ⟨a, ha, hi.1, hi.2, ?_⟩
            obtain ⟨A, c, hc, f4⟩ := f3.lds ha h0 hx
            refine ⟨_, _, _, hc.val, ?_⟩
            refine ⟨_, b.cell 1 rfl, ?_⟩
            refine q (Zt xσ8) H_8  _ (fun Z10 H_11 hE9 hO9 x10 q => ?_)
            obtain ⟨xσ11, st11⟩ := call0 hE9 xσ8
            replace f := f.step st11
            replace f2 := f2.step st11
            replace f3 := f3.step st11
            replace b := b.step st11
            replace b2 := b2.step st11
            replace hc := hc.step st11
            replace f4 := f4.step st11
            replace hs := hs.trans st11
            refine ⟨_, rfl, ?_⟩
            refine ⟨hc.val, (b2.cell 2 rfl), (b2.cell 2 rfl), (b.cell 2 rfl), b.cell0, ?_⟩
            refine condI (fun q => ?_) (fun q => ?_) q
            · refine q (Zt xσ11) H_11  _ (fun Z11 H_12 hE10 hO10 x11 q => ?_)
              obtain ⟨xσ12, st12⟩ := call0 hE10 xσ11
              replace f := f.step st12
              replace f2 := f2.step st12
              replace f3 := f3.step st12
              replace b := b.step st12
              replace b2 := b2.step st12
              replace hc := hc.step st12
              replace f4 := f4.step st12
              replace hs := hs.trans st12
              refine ⟨_, rfl, ?_⟩
              exact hk (Zt xσ12) _ (hs.ext hσ) (hs.old hσ) _ q
            · refine ⟨_, _, _, b2.cell 2 rfl, ?_⟩
              obtain ⟨h02, x12, hx2, q⟩ := q
              obtain ⟨a2, ha2, hi2⟩ := f3.addr h02 hx2 rfl
              refine ⟨a2, ha2, hi2.1, hi2.2, ?_⟩
              obtain ⟨A2, c2, hc2, f5⟩ := f3.lds ha2 h02 hx2
              refine ⟨_, _, _, hc2.val, ?_⟩
              refine q (Zt xσ11) H_11 _ rfl _ _ _ rfl f5 _ (fun Z12 H_13 hE11 hO11 x13 q => ?_)
              obtain ⟨xσ13, st13⟩ := call0 hE11 xσ11
              replace f := f.step st13
              replace f2 := f2.step st13
              replace f3 := f3.step st13
              replace b := b.step st13
              replace b2 := b2.step st13
              replace hc := hc.step st13
              replace f4 := f4.step st13
              replace hc2 := hc2.step st13
              replace f5 := f5.step st13
              replace hs := hs.trans st13
              refine ⟨_, rfl, ?_⟩
              refine ⟨(b2.cell 2 rfl), hc.val, (b2.cell 2 rfl), (b2.cell 2 rfl), (b.cell 2 rfl), b.cell0, ?_⟩
              refine condI (fun q => ?_) (fun q => ?_) q
              · refine q (Zt xσ13) H_13  _ (fun Z13 H_14 hE12 hO12 x14 q => ?_)
                obtain ⟨xσ14, st14⟩ := call0 hE12 xσ13
                replace f := f.step st14
                replace f2 := f2.step st14
                replace f3 := f3.step st14
                replace b := b.step st14
                replace b2 := b2.step st14
                replace hc := hc.step st14
                replace f4 := f4.step st14
                replace hc2 := hc2.step st14
                replace f5 := f5.step st14
                replace hs := hs.trans st14
                refine ⟨_, rfl, ?_⟩
                exact hk (Zt xσ14) _ (hs.ext hσ) (hs.old hσ) _ q
              · refine ⟨_, _, _, b2.cell 1 rfl, ?_⟩
                refine ⟨_, b.cell 1 rfl, ?_⟩
                refine condI (fun q => ?_) (fun q => ?_) q
                · refine q (Zt xσ13) H_13  _ (fun Z14 H_15 hE13 hO13 x15 q => ?_)
                  obtain ⟨xσ15, st15⟩ := call0 hE13 xσ13
                  replace f := f.step st15
                  replace f2 := f2.step st15
                  replace f3 := f3.step st15
                  replace b := b.step st15
                  replace b2 := b2.step st15
                  replace hc := hc.step st15
                  replace f4 := f4.step st15
                  replace hc2 := hc2.step st15
                  replace f5 := f5.step st15
                  replace hs := hs.trans st15
                  refine ⟨_, rfl, ?_⟩
                  exact hk (Zt xσ15) _ (hs.ext hσ) (hs.old hσ) _ q
                · refine ⟨_, _, _, b2.cell 1 rfl, ?_⟩
                  refine q (Zt xσ13) H_13 _ rfl _ _ _ rfl f2 _ (fun Z15 H_16 hE14 hO14 x16 q => ?_)
                  obtain ⟨xσ16, st16⟩ := call0 hE14 xσ13
                  replace f := f.step st16
                  replace f2 := f2.step st16
                  replace f3 := f3.step st16
                  replace b := b.step st16
                  replace b2 := b2.step st16
                  replace hc := hc.step st16
                  replace f4 := f4.step st16
                  replace hc2 := hc2.step st16
                  replace f5 := f5.step st16
                  replace hs := hs.trans st16
                  refine ⟨_, rfl, ?_⟩
                  refine ⟨(b.cell 1 rfl), (b2.cell 1 rfl), (b2.cell 2 rfl), hc.val, (b2.cell 2 rfl), (b2.cell 2 rfl), (b.cell 2 rfl), b.cell0, ?_⟩
                  refine condI (fun q => ?_) (fun q => ?_) q
                  · refine q (Zt xσ16) H_16  _ (fun Z16 H_17 hE15 hO15 x17 q => ?_)
                    obtain ⟨xσ17, st17⟩ := call0 hE15 xσ16
                    replace f := f.step st17
                    replace f2 := f2.step st17
                    replace f3 := f3.step st17
                    replace b := b.step st17
                    replace b2 := b2.step st17
                    replace hc := hc.step st17
                    replace f4 := f4.step st17
                    replace hc2 := hc2.step st17
                    replace f5 := f5.step st17
                    replace hs := hs.trans st17
                    refine ⟨_, rfl, ?_⟩
                    exact hk (Zt xσ17) _ (hs.ext hσ) (hs.old hσ) _ q
                  · refine ⟨_, _, _, b2.cell 1 rfl, ?_⟩
                    refine NewH.mk fun H_18 e3 => ?_
                    obtain ⟨xσ18, st18, f6⟩ := SlO.lit (E := u64L) xσ16 1 (xs := [0]) (l := [[_]]) e3 rfl (.cons rfl .nil) (show (1 : Nat) ≤ 17592186044416 by decide)
                    replace f := f.step st18
                    replace f2 := f2.step st18
                    replace f3 := f3.step st18
                    replace b := b.step st18
                    replace b2 := b2.step st18
                    replace hc := hc.step st18
                    replace f4 := f4.step st18
                    replace hc2 := hc2.step st18
                    replace f5 := f5.step st18
                    replace hs := hs.trans st18
                    refine ⟨(b2.cell 1 rfl), (b.cell 1 rfl), (b2.cell 1 rfl), (b2.cell 2 rfl), hc.val, (b2.cell 2 rfl), (b2.cell 2 rfl), (b.cell 2 rfl), b.cell0, ?_⟩
                    obtain ⟨q3, q⟩ := q
                    refine SlO.appF f6 f2 rfl rfl q3.l q3.r rfl rfl (fun A3 c3 H_19 xσ19 st19 f6_ => ?_)
                    replace f6 := f6_
                    replace f := f.step st19
                    replace f2 := f2.step st19
                    replace f3 := f3.step st19
                    replace b := b.step st19
                    replace b2 := b2.step st19
                    replace hc := hc.step st19
                    replace f4 := f4.step st19
                    replace hc2 := hc2.step st19
                    replace f5 := f5.step st19
                    replace hs := hs.trans st19
                    have f7 := f6; clear f6
                    refine ⟨(b.cell 1 rfl), (b2.cell 1 rfl), (b2.cell 2 rfl), hc.val, (b2.cell 2 rfl), (b2.cell 2 rfl), (b.cell 2 rfl), b.cell0, ?_⟩
                    refine q (fun i => xσ19 i = 0 ∨ xσ19 i = 1) H_19 _ _ _ rfl (f7.read (fun i h => .inl h) (fun i h => .inr (h))) _ (fun Z17 H_20 hE16 hO16 x18 q => ?_)
                    obtain ⟨xσ20, st20⟩ := call0 hE16 xσ19
                    replace f := f.step st20
                    replace f2 := f2.step st20
                    replace f3 := f3.step st20
                    replace b := b.step st20
                    replace b2 := b2.step st20
                    replace hc := hc.step st20
                    replace f4 := f4.step st20
                    replace hc2 := hc2.step st20
                    replace f5 := f5.step st20
                    replace f7 := f7.step st20
                    replace hs := hs.trans st20
                    refine ⟨_, rfl, ?_⟩
                    refine ⟨(b.cell 1 rfl), (b2.cell 1 rfl), (b2.cell 2 rfl), hc.val, (b2.cell 2 rfl), (b2.cell 2 rfl), (b.cell 2 rfl), b.cell0, ?_⟩
                    refine condI (fun q => ?_) (fun q => ?_) q
                    · refine q (Zt xσ20) H_20  _ (fun Z18 H_21 hE17 hO17 x19 q => ?_)
                      obtain ⟨xσ21, st21⟩ := call0 hE17 xσ20
                      replace f := f.step st21
                      replace f2 := f2.step st21
                      replace f3 := f3.step st21
                      replace b := b.step st21
                      replace b2 := b2.step st21
                      replace hc := hc.step st21
                      replace f4 := f4.step st21
                      replace hc2 := hc2.step st21
                      replace f5 := f5.step st21
                      replace f7 := f7.step st21
                      replace hs := hs.trans st21
                      refine ⟨_, rfl, ?_⟩
                      exact hk (Zt xσ21) _ (hs.ext hσ) (hs.old hσ) _ q
                    · refine ⟨_, b.cell0, ?_⟩
                      refine ⟨_, b.cell 1 rfl, ?_⟩
                      refine ⟨_, _, _, b.cell 2 rfl, ?_⟩
                      refine q (Zt xσ20) H_20 _ rfl _ rfl _ _ _ rfl f _ (fun Z19 H_22 hE18 hO18 r2 Y hY A4 n c4 hn4 f8 r3 Y2 hY2 A5 n2 c5 hn5 f9 r4 hY3 q => ?_)
                      obtain ⟨xσ22, st22, fz18, fy, fy2⟩ := call2 hE18 hO18 xσ20 2 3 (fun _ h => h) hY hY2 hY3
                      replace f8 := f8.keep fz18 fy
                      replace f9 := f9.keep fz18 fy2
                      cases hn4
                      cases hn5
                      replace f := f.step st22
                      replace f2 := f2.step st22
                      replace f3 := f3.step st22
                      replace b := b.step st22
                      replace b2 := b2.step st22
                      replace hc := hc.step st22
                      replace f4 := f4.step st22
                      replace hc2 := hc2.step st22
                      replace f5 := f5.step st22
                      replace f7 := f7.step st22
                      replace hs := hs.trans st22
                      refine ⟨_, _, _, _, _, _, _, rfl, ?_⟩
                      refine ⟨_, b.cell0, ?_⟩
                      refine ⟨_, b.cell 1 rfl, ?_⟩
                      refine ⟨_, _, _, b2.cell 2 rfl, ?_⟩
                      obtain ⟨h03, x20, hx3, q⟩ := q
                      obtain ⟨a3, ha3, hi3⟩ := f3.addr h03 hx3 rfl
                      refine ⟨a3, ha3, hi3.1, hi3.2, ?_⟩
                      obtain ⟨A6, c6, hc3, f10⟩ := f3.lds ha3 h03 hx3
                      refine ⟨_, _, _, hc3.val, ?_⟩
                      refine q (Zt xσ22) H_22 _ rfl _ rfl _ _ _ rfl f10 _ (fun Z20 H_23 hE19 hO19 r5 Y3 hY4 A7 n3 c7 hn6 f11 r6 Y4 hY5 A8 n4 c8 hn7 f12 r7 hY6 q => ?_)
                      obtain ⟨xσ23, st23, fz19, fy3, fy4⟩ := call2 hE19 hO19 xσ22 4 5 (fun _ h => h) hY4 hY5 hY6
                      replace f11 := f11.keep fz19 fy3
                      replace f12 := f12.keep fz19 fy4
                      cases hn6
                      cases hn7
                      replace f := f.step st23
                      replace f2 := f2.step st23
                      replace f3 := f3.step st23
                      replace b := b.step st23
                      replace b2 := b2.step st23
                      replace hc := hc.step st23
                      replace f4 := f4.step st23
                      replace hc2 := hc2.step st23
                      replace f5 := f5.step st23
                      replace f7 := f7.step st23
                      replace f8 := f8.step st23
                      replace f9 := f9.step st23
                      replace hc3 := hc3.step st23
                      replace f10 := f10.step st23
                      replace hs := hs.trans st23
                      refine ⟨_, _, _, _, _, _, _, rfl, ?_⟩
                      refine ⟨(b2.cell 2 rfl), ?_⟩
                      refine ⟨_, _, _, b2.cell 1 rfl, ?_⟩
                      refine LoopI.ofQ q (fun t_ s_ hp_ => ∃ (σ_ : Nat → Nat), Stp [6, 7] xσ23 H_23 σ_ hp_ ∧ (t_.1, t_.2) = s_) (fun h k => h _ _ k) ⟨_, Stp.refl _ _ _, rfl⟩ ?_
                      rintro t _ _ H_24 next nextQ ⟨xσ24, st24, rfl⟩ q hnext
                      try dsimp only at q ⊢
                      replace f := f.step st24
                      replace f2 := f2.step st24
                      replace f3 := f3.step st24
                      replace b := b.step st24
                      replace b2 := b2.step st24
                      replace hc := hc.step st24
                      replace f4 := f4.step st24
                      replace hc2 := hc2.step st24
                      replace f5 := f5.step st24
                      replace f7 := f7.step st24
                      replace f8 := f8.step st24
                      replace f9 := f9.step st24
                      replace hc3 := hc3.step st24
                      replace f10 := f10.step st24
                      replace f11 := f11.step st24
                      replace f12 := f12.step st24
                      replace hs := hs.trans st24
                      have sl0 := st24
                      refine condI (fun q => ?_) (fun q => ?_) q
                      · obtain ⟨h04, x21, hx4, q⟩ := q
                        obtain ⟨a4, ha4, hi4⟩ := f2.addr h04 hx4 rfl
                        refine ⟨a4, ha4, hi4.1, hi4.2, ?_⟩
                        have hc4 := f2.ldu ha4 h04 hx4
                        refine ⟨_, hc4.val, ?_⟩
                        refine ⟨_, b.cell 1 rfl, ?_⟩
                        refine q (fun i => xσ24 i = 0 ∨ xσ24 i = 2) H_24 _ rfl _ _ _ rfl (f8.read (fun i h => .inl h) (fun i h => .inr (h))) _ rfl _ (fun Z21 H_25 hE20 hO20 r8 Y5 hY7 A9 n5 c9 hn8 f13 r9 q => ?_)
                        obtain ⟨xσ25, st25, fy5⟩ := callB1 hE20 hO20 xσ24 6 hY7
                        replace f13 := (SlO.anyZ (Z' := Zt xσ25) u64_flatL f13).keep (Fr.refl _ _) fy5
                        cases hn8
                        replace f := f.step st25
                        replace f2 := f2.step st25
                        replace f3 := f3.step st25
                        replace b := b.step st25
                        replace b2 := b2.step st25
                        replace hc := hc.step st25
                        replace f4 := f4.step st25
                        replace hc2 := hc2.step st25
                        replace f5 := f5.step st25
                        replace f7 := f7.step st25
                        replace f8 := f8.step st25
                        replace f9 := f9.step st25
                        replace hc3 := hc3.step st25
                        replace f10 := f10.step st25
                        replace f11 := f11.step st25
                        replace f12 := f12.step st25
                        replace hc4 := hc4.step st25
                        replace hs := hs.trans st25
                        replace sl0 := sl0.trans st25
                        refine ⟨_, _, _, _, rfl, ?_⟩
                        refine ⟨_, b.cell 1 rfl, ?_⟩
                        refine q (fun i => xσ25 i = 0 ∨ xσ25 i = 4) H_25 _ rfl _ _ _ rfl (f11.read (fun i h => .inl h) (fun i h => .inr (h))) _ rfl _ (fun Z22 H_26 hE21 hO21 r10 Y6 hY8 A10 n6 c10 hn9 f14 r11 q => ?_)
                        obtain ⟨xσ26, st26, fy6⟩ := callB1 hE21 hO21 xσ25 7 hY8
                        replace f14 := (SlO.anyZ (Z' := Zt xσ26) u64_flatL f14).keep (Fr.refl _ _) fy6
                        cases hn9
                        replace f := f.step st26
                        replace f2 := f2.step st26
                        replace f3 := f3.step st26
                        replace b := b.step st26
                        replace b2 := b2.step st26
                        replace hc := hc.step st26
                        replace f4 := f4.step st26
                        replace hc2 := hc2.step st26
                        replace f5 := f5.step st26
                        replace f7 := f7.step st26
                        replace f8 := f8.step st26
                        replace f9 := f9.step st26
                        replace hc3 := hc3.step st26
                        replace f10 := f10.step st26
                        replace f11 := f11.step st26
                        replace f12 := f12.step st26
                        replace hc4 := hc4.step st26
                        replace f13 := f13.step st26
                        replace hs := hs.trans st26
                        replace sl0 := sl0.trans st26
                        refine ⟨_, _, _, _, rfl, ?_⟩
                        refine condI (fun q => ?_) (fun q => ?_) q
                        · refine condI (fun q => ?_) (fun q => ?_) q
                          · refine condI (fun q => ?_) (fun q => ?_) q
                            · refine q (fun i => xσ26 i = 0 ∨ xσ26 i = 6 ∨ xσ26 i = 7) H_26 _ _ _ rfl (f13.read (fun i h => .inl h) (fun i h => .inr (.inl h))) _ _ _ rfl (f14.read (fun i h => .inl h) (fun i h => .inr (.inr (h)))) _ (fun Z23 H_27 hE22 hO22 x22 q => ?_)
                              obtain ⟨xσ27, st27⟩ := call0 hE22 xσ26
                              replace f := f.step st27
                              replace f2 := f2.step st27
                              replace f3 := f3.step st27
                              replace b := b.step st27
                              replace b2 := b2.step st27
                              replace hc := hc.step st27
                              replace f4 := f4.step st27
                              replace hc2 := hc2.step st27
                              replace f5 := f5.step st27
                              replace f7 := f7.step st27
                              replace f8 := f8.step st27
                              replace f9 := f9.step st27
                              replace hc3 := hc3.step st27
                              replace f10 := f10.step st27
                              replace f11 := f11.step st27
                              replace f12 := f12.step st27
                              replace hc4 := hc4.step st27
                              replace f13 := f13.step st27
                              replace f14 := f14.step st27
                              replace hs := hs.trans st27
                              replace sl0 := sl0.trans st27
                              refine ⟨_, rfl, ?_⟩
                              exact hnext (x22, IntKind.i64.wrap (t.2 + 1)) _ _ ⟨_, sl0, rfl⟩ q
                            · exact hnext (false, IntKind.i64.wrap (t.2 + 1)) _ _ ⟨_, sl0, rfl⟩ q
                          · exact hnext (false, IntKind.i64.wrap (t.2 + 1)) _ _ ⟨_, sl0, rfl⟩ q
                        · exact hnext (false, IntKind.i64.wrap (t.2 + 1)) _ _ ⟨_, sl0, rfl⟩ q
                      · refine condI (fun q => ?_) (fun q => ?_) q
                        · refine condI (fun q => ?_) (fun q => ?_) q
                          · refine ⟨_, _, _, b.cell 2 rfl, ?_⟩
                            refine ⟨_, _, _, b2.cell 2 rfl, ?_⟩
                            obtain ⟨h05, x23, hx5, q⟩ := q
                            obtain ⟨a5, ha5, hi5⟩ := f3.addr h05 hx5 rfl
                            refine ⟨a5, ha5, hi5.1, hi5.2, ?_⟩
                            obtain ⟨A11, c11, hc5, f15⟩ := f3.lds ha5 h05 hx5
                            refine ⟨_, _, _, hc5.val, ?_⟩
                            refine q (Zt xσ24) H_24 _ _ _ rfl f _ _ _ rfl f15 _ (fun Z24 H_28 hE23 hO23 x24 q => ?_)
                            obtain ⟨xσ28, st28⟩ := call0 hE23 xσ24
                            replace f := f.step st28
                            replace f2 := f2.step st28
                            replace f3 := f3.step st28
                            replace b := b.step st28
                            replace b2 := b2.step st28
                            replace hc := hc.step st28
                            replace f4 := f4.step st28
                            replace hc2 := hc2.step st28
                            replace f5 := f5.step st28
                            replace f7 := f7.step st28
                            replace f8 := f8.step st28
                            replace f9 := f9.step st28
                            replace hc3 := hc3.step st28
                            replace f10 := f10.step st28
                            replace f11 := f11.step st28
                            replace f12 := f12.step st28
                            replace hc5 := hc5.step st28
                            replace f15 := f15.step st28
                            replace hs := hs.trans st28
                            refine ⟨_, rfl, ?_⟩
                            refine ⟨(b2.cell 2 rfl), ?_⟩
                            refine condI (fun q => ?_) (fun q => ?_) q
                            · refine q (Zt xσ28) H_28  _ (fun Z25 H_29 hE24 hO24 x25 q => ?_)
                              obtain ⟨xσ29, st29⟩ := call0 hE24 xσ28
                              replace f := f.step st29
                              replace f2 := f2.step st29
                              replace f3 := f3.step st29
                              replace b := b.step st29
                              replace b2 := b2.step st29
                              replace hc := hc.step st29
                              replace f4 := f4.step st29
                              replace hc2 := hc2.step st29
                              replace f5 := f5.step st29
                              replace f7 := f7.step st29
                              replace f8 := f8.step st29
                              replace f9 := f9.step st29
                              replace hc3 := hc3.step st29
                              replace f10 := f10.step st29
                              replace f11 := f11.step st29
                              replace f12 := f12.step st29
                              replace hc5 := hc5.step st29
                              replace f15 := f15.step st29
                              replace hs := hs.trans st29
                              refine ⟨_, rfl, ?_⟩
                              refine ⟨(b2.cell 2 rfl), ?_⟩
                              exact hk (Zt xσ29) _ (hs.ext hσ) (hs.old hσ) _ q
                            · exact hk (Zt xσ28) _ (hs.ext hσ) (hs.old hσ) _ q
                          · exact hk (Zt xσ24) _ (hs.ext hσ) (hs.old hσ) _ q
                        · exact hk (Zt xσ24) _ (hs.ext hσ) (hs.old hσ) _ q

end Go.Proofs.Ytlhcaangdenoaaa.Sh
