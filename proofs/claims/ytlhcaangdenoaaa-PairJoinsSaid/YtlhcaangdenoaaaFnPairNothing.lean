import Derived.Test.YtlhcaangdenoaaaTypes
import Derived.Test.YtlhcaangdenoaaaFnJuntolaw06
import Derived.Test.YtlhcaangdenoaaaFnJuntoref01
import Derived.Test.YtlhcaangdenoaaaFnJuntoref02
import Derived.Test.YtlhcaangdenoaaaFnJuntoref06
import Derived.Test.YtlhcaangdenoaaaFnPair
set_option linter.unusedVariables false
set_option linter.unusedSimpArgs false
set_option maxRecDepth 100000
namespace Go.Proofs.Ytlhcaangdenoaaa.Sh
open Go.Sx

/-! juntolaw06_PairNothing -/
def juntolaw06_PairNothing.A : Ann where
  loops := fun i => match i with
    | 20489 => [(89, .int .i64)]
    | 69655 => [(158, .int .i64)]
    | _ => []
  plans := fun i => match i with
    | 12 => .first 0 (.first 1 (.first 3 (.first 4 (.first 5 (.first 6 (.first 9 (.read 2 (.read 7 (.alt 8 [7] (.alt 10 [2] (.first 11 (.first 12 (.first 13 (.first 14 (.first 15 (.done)))))) (.stop)) (.stop))))))))))
    | 24 => .first 0 (.first 1 (.first 3 (.first 4 (.first 5 (.first 7 (.first 9 (.read 2 (.read 6 (.alt 8 [6] (.alt 10 [2] (.first 11 (.first 12 (.first 13 (.first 14 (.first 15 (.done)))))) (.stop)) (.stop))))))))))
    | _ => .stop
def juntolaw06_PairNothing.W (p : Int) (q_0 : Int) (q_1 : Int) (q_2A : Option Addr) (q_2n q_2c : Nat) (r_0 : Int) (r_1A : Option Addr) (r_1n r_1c : Nat) (r_2A : Option Addr) (r_2n r_2c : Nat) (H : Heap) (R : Value → Heap → Prop) : Prop :=
  NewH (H.push (.cells #[.int .u64 q_0, .int .i64 q_1, .slice q_2A q_2n q_2c] 32 (0, 0))) fun H_ =>
  NewH (H_.push (.cells #[.int .i64 r_0, .slice r_1A r_1n r_1c, .slice r_2A r_2n r_2c] 57 (0, 0))) fun H_2 =>
  ∃ x : Int, cellH H_2 (Addr.mk H.size 0 none) = some (.int .u64 x) ∧ ∃ x2 : Int, cellH H_2 (((Addr.mk H.size 0 none)).add 1) = some (.int .i64 x2) ∧ ∃ (xA : Option Addr) (xn xc : Nat), cellH H_2 (((Addr.mk H.size 0 none)).add 2) = some (.slice xA xn xc) ∧ CallH P N.pair_Make [.int .u64 p, .int .u64 x, .int .i64 x2, .slice xA xn xc] H_2 fun v H_3 =>
  ∃ (r0A : Option Addr) (r0n r0c : Nat), ∃ (r1A : Option Addr) (r1n r1c : Nat), ∃ r2 : Int, v = .tuple #[.slice r0A r0n r0c, .slice r1A r1n r1c, .int .i64 r2] ∧ cond (r2 != 0) (CallH P N.juntolaw06_alive [] H_3 fun v2 H_4 =>
  ∃ r : Bool, v2 = .bool r ∧ R (.bool r) H_4) (∃ (xA2 : Option Addr) (xn2 xc2 : Nat), cellH H_3 (((Addr.mk H_.size 0 none)).add 1) = some (.slice xA2 xn2 xc2) ∧ ∃ x3 : Int, cellH H_3 (((Addr.mk H.size 0 none)).add 1) = some (.int .i64 x3) ∧ cond (decide (((xn2 : Nat) : Int) > x3)) (CallH P N.juntolaw06_alive [] H_3 fun v3 H_5 =>
  ∃ r3 : Bool, v3 = .bool r3 ∧ R (.bool r3) H_5) (∃ (xA3 : Option Addr) (xn3 xc3 : Nat), cellH H_3 (((Addr.mk H_.size 0 none)).add 1) = some (.slice xA3 xn3 xc3) ∧ CallH P N.juntoref01_Within [.int .u64 p, .slice xA3 xn3 xc3] H_3 fun v4 H_6 =>
  ∃ r4 : Int, v4 = .int .i64 r4 ∧ cond (r4 != 0) (CallH P N.juntolaw06_alive [] H_6 fun v5 H_7 =>
  ∃ r5 : Bool, v5 = .bool r5 ∧ R (.bool r5) H_7) (∃ (xA4 : Option Addr) (xn4 xc4 : Nat), cellH H_6 (((Addr.mk H_.size 0 none)).add 1) = some (.slice xA4 xn4 xc4) ∧ CallH P N.juntoref02_Twice [.slice xA4 xn4 xc4] H_6 fun v6 H_8 =>
  ∃ r6 : Bool, v6 = .bool r6 ∧ cond r6 (CallH P N.juntolaw06_alive [] H_8 fun v7 H_9 =>
  ∃ r7 : Bool, v7 = .bool r7 ∧ R (.bool r7) H_9) (∃ (xA5 : Option Addr) (xn5 xc5 : Nat), cellH H_8 (((Addr.mk H_.size 0 none)).add 2) = some (.slice xA5 xn5 xc5) ∧ cond (((xn5 : Nat) : Int) != 1) (CallH P N.juntolaw06_alive [] H_8 fun v8 H_10 =>
  ∃ r8 : Bool, v8 = .bool r8 ∧ R (.bool r8) H_10) (∃ (xA6 : Option Addr) (xn6 xc6 : Nat), cellH H_8 (((Addr.mk H_.size 0 none)).add 2) = some (.slice xA6 xn6 xc6) ∧ ∃ a : Addr, xA6 = some a ∧ 0 ≤ (0 : Int) ∧ (0 : Int) < ((xn6 : Nat) : Int) ∧ ∃ (xA7 : Option Addr) (xn7 xc7 : Nat), cellH H_8 (a.add 0) = some (.slice xA7 xn7 xc7) ∧ cond (((xn7 : Nat) : Int) != 1) (CallH P N.juntolaw06_alive [] H_8 fun v9 H_11 =>
  ∃ r9 : Bool, v9 = .bool r9 ∧ R (.bool r9) H_11) (∃ (xA8 : Option Addr) (xn8 xc8 : Nat), cellH H_8 (((Addr.mk H_.size 0 none)).add 2) = some (.slice xA8 xn8 xc8) ∧ ∃ a2 : Addr, xA8 = some a2 ∧ 0 ≤ (0 : Int) ∧ (0 : Int) < ((xn8 : Nat) : Int) ∧ ∃ (xA9 : Option Addr) (xn9 xc9 : Nat), cellH H_8 (a2.add 0) = some (.slice xA9 xn9 xc9) ∧ ∃ a3 : Addr, xA9 = some a3 ∧ 0 ≤ (0 : Int) ∧ (0 : Int) < ((xn9 : Nat) : Int) ∧ ∃ x4 : Int, cellH H_8 (a3.add 0) = some (.int .u64 x4) ∧ cond (decide (x4 ≥ p)) (CallH P N.juntolaw06_alive [] H_8 fun v10 H_12 =>
  ∃ r10 : Bool, v10 = .bool r10 ∧ R (.bool r10) H_12)
   (∃ (xA10 : Option Addr) (xn10 xc10 : Nat), cellH H_8 (((Addr.mk H_.size 0 none)).add 1) = some (.slice xA10 xn10 xc10) ∧ LoopI (σ := Int) (fun κ => κ 0 H_8) fun s z H_13 next =>
  cond (decide (s < ((xn10 : Nat) : Int))) (∃ a4 : Addr, xA10 = some a4 ∧ 0 ≤ s ∧ s < ((xn10 : Nat) : Int) ∧ ∃ x5 : Int, cellH H_13 (a4.add (Int.toNat s)) = some (.int .u64 x5) ∧ cond (x5 == 0) (CallH P N.juntolaw06_alive [] H_13 fun v11 H_14 =>
  ∃ r11 : Bool, v11 = .bool r11 ∧ R (.bool r11) H_14)
   (next (IntKind.i64.wrap (s + 1)) H_13))
   (∃ (xA11 : Option Addr) (xn11 xc11 : Nat), cellH H_13 (((Addr.mk H_.size 0 none)).add 2) = some (.slice xA11 xn11 xc11) ∧ ∃ a5 : Addr, xA11 = some a5 ∧ 0 ≤ (0 : Int) ∧ (0 : Int) < ((xn11 : Nat) : Int) ∧ ∃ (xA12 : Option Addr) (xn12 xc12 : Nat), cellH H_13 (a5.add 0) = some (.slice xA12 xn12 xc12) ∧ ∃ a6 : Addr, xA12 = some a6 ∧ 0 ≤ (0 : Int) ∧ (0 : Int) < ((xn12 : Nat) : Int) ∧ ∃ x6 : Int, cellH H_13 (a6.add 0) = some (.int .u64 x6) ∧ ∃ (xA13 : Option Addr) (xn13 xc13 : Nat), cellH H_13 (((Addr.mk H_.size 0 none)).add 1) = some (.slice xA13 xn13 xc13) ∧ CallH P N.juntoref02_Away [.int .u64 p, .slice xA13 xn13 xc13] H_13 fun v12 H_15 =>
  ∃ (rA : Option Addr) (rn rc : Nat), v12 = .slice rA rn rc ∧ ∃ x7 : Int, cellH H_15 (((Addr.mk H.size 0 none)).add 1) = some (.int .i64 x7) ∧ ∃ x8 : Int, cellH H_15 (Addr.mk H.size 0 none) = some (.int .u64 x8) ∧ CallH P N.juntoref01_Sub [.int .u64 p, .int .u64 x6, .int .u64 x8] H_15 fun v13 H_16 =>
  ∃ r12 : Int, v13 = .int .u64 r12 ∧ cellH H_16 (((Addr.mk H.size 0 none)).add 1) = some (.int .i64 x7) ∧ CallH P N.pair_Lift [.int .u64 p, .int .i64 x7, .slice r0A r0n r0c, .int .u64 r12, .slice rA rn rc] H_16 fun v14 H_17 =>
  ∃ (r0A2 : Option Addr) (r0n2 r0c2 : Nat), ∃ r1 : Int, v14 = .tuple #[.slice r0A2 r0n2 r0c2, .int .i64 r1] ∧ ∃ x9 : Int, cellH H_17 (((Addr.mk H.size 0 none)).add 1) = some (.int .i64 x9) ∧ CallH P N.pair_Tape [.int .u64 p, .int .i64 x9, .slice r0A2 r0n2 r0c2] H_17 fun v15 H_18 =>
  ∃ r0 : Int, ∃ (r1A2 : Option Addr) (r1n2 r1c2 : Nat), ∃ r22 : Int, v15 = .tuple #[.int .u64 r0, .slice r1A2 r1n2 r1c2, .int .i64 r22] ∧ cond (r1 != 0) (R (.bool false) H_18) (cond (r22 != 0) (R (.bool false) H_18) (cond (r0 != x6) (R (.bool false) H_18) (∃ x10 : Int, cellH H_18 (((Addr.mk H.size 0 none)).add 1) = some (.int .i64 x10) ∧ CallH P N.juntoref06_Size [.int .i64 x10] H_18 fun v16 H_19 =>
  ∃ r13 : Int, v16 = .int .i64 r13 ∧ cond (((r1n2 : Nat) : Int) != r13) (R (.bool false) H_19) (CallH P N.juntoref01_Within [.int .u64 p, .slice r1A2 r1n2 r1c2] H_19 fun v17 H_20 =>
  ∃ r14 : Int, v17 = .int .i64 r14 ∧ cond (r14 != 0) (R (.bool false) H_20)
   (∃ (xA14 : Option Addr) (xn14 xc14 : Nat), cellH H_20 (((Addr.mk H_.size 0 none)).add 1) = some (.slice xA14 xn14 xc14) ∧ LoopI (σ := Int) (fun κ => κ 0 H_20) fun s2 z2 H_21 next2 =>
  cond (decide (s2 < ((xn14 : Nat) : Int))) (∃ a7 : Addr, xA14 = some a7 ∧ 0 ≤ s2 ∧ s2 < ((xn14 : Nat) : Int) ∧ ∃ x11 : Int, cellH H_21 (a7.add (Int.toNat s2)) = some (.int .u64 x11) ∧ ∃ x12 : Int, cellH H_21 (((Addr.mk H.size 0 none)).add 1) = some (.int .i64 x12) ∧ CallH P N.pair_Row [.int .u64 p, .int .i64 x12, .slice r0A r0n r0c, .int .u64 x11] H_21 fun v18 H_22 =>
  ∃ (r0A3 : Option Addr) (r0n3 r0c3 : Nat), ∃ r15 : Int, v18 = .tuple #[.slice r0A3 r0n3 r0c3, .int .i64 r15] ∧ ∃ x13 : Int, cellH H_22 (((Addr.mk H.size 0 none)).add 1) = some (.int .i64 x13) ∧ CallH P N.pair_Row [.int .u64 p, .int .i64 x13, .slice r0A2 r0n2 r0c2, .int .u64 x11] H_22 fun v19 H_23 =>
  ∃ (r0A4 : Option Addr) (r0n4 r0c4 : Nat), ∃ r16 : Int, v19 = .tuple #[.slice r0A4 r0n4 r0c4, .int .i64 r16] ∧ CallH P N.juntoref01_Same [.slice r0A3 r0n3 r0c3, .slice r0A4 r0n4 r0c4] H_23 fun v20 H_24 =>
  ∃ r17 : Bool, v20 = .bool r17 ∧ cond (!r17) (R (.bool false) H_24)
   (next2 (IntKind.i64.wrap (s2 + 1)) H_24))
   (∃ x14 : Int, cellH H_21 (((Addr.mk H.size 0 none)).add 1) = some (.int .i64 x14) ∧ ∃ x15 : Int, cellH H_21 (Addr.mk H.size 0 none) = some (.int .u64 x15) ∧ CallH P N.juntoref01_Sub [.int .u64 p, .int .u64 x15, .int .u64 x6] H_21 fun v21 H_25 =>
  ∃ r18 : Int, v21 = .int .u64 r18 ∧ cellH H_25 (((Addr.mk H.size 0 none)).add 1) = some (.int .i64 x14) ∧ CallH P N.pair_Lift [.int .u64 p, .int .i64 x14, .slice r0A2 r0n2 r0c2, .int .u64 r18, .slice rA rn rc] H_25 fun v22 H_26 =>
  ∃ (r0A5 : Option Addr) (r0n5 r0c5 : Nat), ∃ r19 : Int, v22 = .tuple #[.slice r0A5 r0n5 r0c5, .int .i64 r19] ∧ CallH P N.juntolaw06_is [.slice r0A5 r0n5 r0c5, .int .i64 r19, .slice r0A r0n r0c, .int .i64 0] H_26 fun v23 H_27 =>
  ∃ r20 : Bool, v23 = .bool r20 ∧ cond r20 (CallH P N.juntolaw06_alive [] H_27 fun v24 H_28 =>
  ∃ r21 : Bool, v24 = .bool r21 ∧ R (.bool r21) H_28) (R (.bool false) H_27)))))))))))))))
theorem juntolaw06_PairNothing.ok (p : Int) (q_0 : Int) (q_1 : Int) (q_2A : Option Addr) (q_2n q_2c : Nat) (r_0 : Int) (r_1A : Option Addr) (r_1n r_1c : Nat) (r_2A : Option Addr) (r_2n r_2c : Nat) (H : Heap) (R : Value → Heap → Prop) (h : juntolaw06_PairNothing.W p q_0 q_1 q_2A q_2n q_2c r_0 r_1A r_1n r_1c r_2A r_2n r_2c H R) : CallH P N.juntolaw06_PairNothing ([.int .u64 p, .agg #[.int .u64 q_0, .int .i64 q_1, .slice q_2A q_2n q_2c], .agg #[.int .i64 r_0, .slice r_1A r_1n r_1c, .slice r_2A r_2n r_2c]] : List Value) H R := by
  have e : juntolaw06_PairNothing.W p q_0 q_1 q_2A q_2n q_2c r_0 r_1A r_1n r_1c r_2A r_2n r_2c H R = sxFn P T Sh.R nf juntolaw06_PairNothing.A Try.f11.results.toList (bodyOf Try.f11) (([(.int .u64 p : Value), (.agg #[.int .u64 q_0, .int .i64 q_1, .slice q_2A q_2n q_2c] : Value), (.agg #[.int .i64 r_0, .slice r_1A r_1n r_1c, .slice r_2A r_2n r_2c] : Value)] : List Value) ++ List.replicate (206 - ([(.int .u64 p : Value), (.agg #[.int .u64 q_0, .int .i64 q_1, .slice q_2A q_2n q_2c] : Value), (.agg #[.int .i64 r_0, .slice r_1A r_1n r_1c, .slice r_2A r_2n r_2c] : Value)] : List Value).length) undef) H R := by kernel_rfl
  exact call_of_sx fits bodies mixed Try.func11 (c := bodyOf Try.f11) (by kernel_rfl) Try.ntmps11 juntolaw06_PairNothing.A (by kernel_rfl) (e.mp h)

end Go.Proofs.Ytlhcaangdenoaaa.Sh

namespace Go.Proofs.Ytlhcaangdenoaaa.Sh
open Go.Sx Go.Lf

/-! juntolaw06_PairNothing -/
def juntolaw06_PairNothing.C (p : Nat) (q2 : TSecret) (r : TRows) (K : Bool → Prop) : Prop :=
  ∀ (Z : Nat → Prop) (H : Heap), ∀ (pv : Int), pv = (p : Int) → ∀ (qv : Int), qv = (q2.Value : Int) → ∀ (qA : Option Addr) (qn qc : Nat), qn = q2.Tape.length → SlF u64L Z H qA qc q2.Tape → ∀ (rA : Option Addr) (rn rc : Nat), rn = r.Xs.length → SlF u64L Z H rA rc r.Xs → ∀ (rA2 : Option Addr) (rn2 rc2 : Nat), rn2 = r.Rows.length → SlF (slL u64L) Z H rA2 rc2 r.Rows → ∀ KK : Value → Heap → Prop,
    (∀ (Z' : Nat → Prop) (H' : Heap), Ext H H' → Old Z H Z' → ∀ (r0 : Bool), K r0 → KK (.bool r0) H') →
    CallH P N.juntolaw06_PairNothing [.int .u64 pv, .agg #[.int .u64 qv, .int .i64 q2.T_, .slice qA qn qc], .agg #[.int .i64 r.T_, .slice rA rn rc, .slice rA2 rn2 rc2]] H KK
def juntolaw06_PairNothing.Q (p : Nat) (q2 : TSecret) (r : TRows) (K : Bool → Prop) : Prop :=
  pair_Make.C p q2.Value q2.T_ q2.Tape (fun (r2 : (List (List Nat))) (r3 : (List Nat)) (r4 : Int) =>
  cond (r4 != 0) (juntolaw06_alive.C (fun (x : Bool) =>
  K x))
   (cond (decide (((r.Xs.length : Nat) : Int) > q2.T_)) (juntolaw06_alive.C (fun (x2 : Bool) =>
  K x2))
   (juntoref01_Within.C p r.Xs (fun (x3 : Int) =>
  cond (x3 != 0) (juntolaw06_alive.C (fun (x4 : Bool) =>
  K x4))
   (juntoref02_Twice.C r.Xs (fun (x5 : Bool) =>
  cond x5 (juntolaw06_alive.C (fun (x6 : Bool) =>
  K x6))
   (cond (((r.Rows.length : Nat) : Int) != 1) (juntolaw06_alive.C (fun (x7 : Bool) =>
  K x7))
   (0 ≤ (0 : Int) ∧ ∃ x8 : (List Nat), r.Rows[0]? = some x8 ∧ cond (((x8.length : Nat) : Int) != 1) (juntolaw06_alive.C (fun (x9 : Bool) =>
  K x9))
   (0 ≤ (0 : Int) ∧ ∃ x10 : (List Nat), r.Rows[0]? = some x10 ∧ 0 ≤ (0 : Int) ∧ ∃ x11 : Nat, x10[0]? = some x11 ∧ cond (decide ((x11 : Int) ≥ (p : Int))) (juntolaw06_alive.C (fun (x12 : Bool) =>
  K x12))
   (LoopQ (τ := Int) 0 fun t nextQ =>
  cond (decide (t < ((r.Xs.length : Nat) : Int))) (0 ≤ t ∧ ∃ x13 : Nat, r.Xs[Int.toNat t]? = some x13 ∧ cond ((x13 : Int) == 0) (juntolaw06_alive.C (fun (x14 : Bool) =>
  K x14))
   (nextQ (IntKind.i64.wrap (t + 1))))
   (0 ≤ (0 : Int) ∧ ∃ x15 : (List Nat), r.Rows[0]? = some x15 ∧ 0 ≤ (0 : Int) ∧ ∃ x16 : Nat, x15[0]? = some x16 ∧ juntoref02_Away.C p r.Xs (fun (x17 : (List Nat)) =>
  juntoref01_Sub.C p x16 q2.Value (fun (x18 : Nat) =>
  pair_Lift.C p q2.T_ r2 x18 x17 (fun (r5 : (List (List Nat))) (r6 : Int) =>
  pair_Tape.C p q2.T_ r5 (fun (r7 : Nat) (r8 : (List Nat)) (r9 : Int) =>
  cond (r6 != 0) (K false)
   (cond (r9 != 0) (K false)
   (cond ((r7 : Int) != (x16 : Int)) (K false)
   (juntoref06_Size.C q2.T_ (fun (x19 : Int) =>
  cond (((r8.length : Nat) : Int) != x19) (K false)
   (juntoref01_Within.C p r8 (fun (x20 : Int) =>
  cond (x20 != 0) (K false)
   (LoopQ (τ := Int) 0 fun t2 nextQ2 =>
  cond (decide (t2 < ((r.Xs.length : Nat) : Int))) (0 ≤ t2 ∧ ∃ x21 : Nat, r.Xs[Int.toNat t2]? = some x21 ∧ pair_Row.C p q2.T_ r2 x21 (fun (r10 : (List Nat)) (r11 : Int) =>
  pair_Row.C p q2.T_ r5 x21 (fun (r12 : (List Nat)) (r13 : Int) =>
  juntoref01_Same.C r10 r12 (fun (x22 : Bool) =>
  cond (!x22) (K false)
   (nextQ2 (IntKind.i64.wrap (t2 + 1)))))))
   (juntoref01_Sub.C p q2.Value x16 (fun (x23 : Nat) =>
  pair_Lift.C p q2.T_ r5 x23 x17 (fun (r14 : (List (List Nat))) (r15 : Int) =>
  juntolaw06_is.C r14 r15 r2 0 (fun (x24 : Bool) =>
  cond x24 (juntolaw06_alive.C (fun (x25 : Bool) =>
  K x25))
   (K false)))))))))))))))))))))))))))
theorem juntolaw06_PairNothing.q {p : Nat} {q2 : TSecret} {r : TRows} {K : Bool → Prop} (q : juntolaw06_PairNothing.Q p q2 r K) : juntolaw06_PairNothing.C p q2 r K := by
  intro Z H pv he qv he2 qA qn qc hn f rA rn rc hn2 f2 rA2 rn2 rc2 hn3 f3 KK hk
  cases he
  cases he2
  cases hn
  cases hn2
  cases hn3
  apply juntolaw06_PairNothing.ok
  unfold juntolaw06_PairNothing.W
  unfold juntolaw06_PairNothing.Q at q
  obtain ⟨σ, hz, hσ⟩ := tags Z
  have hs : Stp ([1, 2, 3, 4, 5] : List Nat) σ H σ H := Stp.refl _ _ _
  replace f := f.wide hz
  replace f2 := f2.wide hz
  replace f3 := f3.wide hz
  clear hz
  refine NewH.mk fun H_ e => ?_
  obtain ⟨xσ, st, b⟩ := BoxF.new σ 0 e
  replace f := f.step st
  replace f2 := f2.step st
  replace f3 := f3.step st
  replace hs := hs.trans st
  refine NewH.mk fun H_2 e2 => ?_
  obtain ⟨xσ2, st2, b2⟩ := BoxF.new xσ 0 e2
  replace f := f.step st2
  replace f2 := f2.step st2
  replace f3 := f3.step st2
  replace b := b.step st2
  replace hs := hs.trans st2
  refine ⟨_, b.cell0, ?_⟩
  refine ⟨_, b.cell 1 rfl, ?_⟩
  refine ⟨_, _, _, b.cell 2 rfl, ?_⟩
  refine q (Zt xσ2) H_2 _ rfl _ rfl _ _ _ rfl f _ (fun Z2 H_3 hE hO r2 Y hY A n c hn4 f4 r3 Y2 hY2 A2 n2 c2 hn5 f5 r4 hY3 q => ?_)
  obtain ⟨xσ3, st3, fz, fy, fy2⟩ := call2 hE hO xσ2 1 2 (fun _ h => h) hY hY2 hY3
  replace f4 := f4.keep fz fy
  replace f5 := f5.keep fz fy2
  cases hn4
  cases hn5
  replace f := f.step st3
  replace f2 := f2.step st3
  replace f3 := f3.step st3
  replace b := b.step st3
  replace b2 := b2.step st3
  replace hs := hs.trans st3
  refine ⟨_, _, _, _, _, _, _, rfl, ?_⟩
  refine condI (fun q => ?_) (fun q => ?_) q
  · refine q (Zt xσ3) H_3  _ (fun Z3 H_4 hE2 hO2 x q => ?_)
    obtain ⟨xσ4, st4⟩ := call0 hE2 xσ3
    replace f := f.step st4
    replace f2 := f2.step st4
    replace f3 := f3.step st4
    replace b := b.step st4
    replace b2 := b2.step st4
    replace f4 := f4.step st4
    replace f5 := f5.step st4
    replace hs := hs.trans st4
    refine ⟨_, rfl, ?_⟩
    exact hk (Zt xσ4) _ (hs.ext hσ) (hs.old hσ) _ q
  · refine ⟨_, _, _, b2.cell 1 rfl, ?_⟩
    refine ⟨_, b.cell 1 rfl, ?_⟩
    refine condI (fun q => ?_) (fun q => ?_) q
    · refine q (Zt xσ3) H_3  _ (fun Z4 H_5 hE3 hO3 x2 q => ?_)
      obtain ⟨xσ5, st5⟩ := call0 hE3 xσ3
      replace f := f.step st5
      replace f2 := f2.step st5
      replace f3 := f3.step st5
      replace b := b.step st5
      replace b2 := b2.step st5
      replace f4 := f4.step st5
      replace f5 := f5.step st5
      replace hs := hs.trans st5
      refine ⟨_, rfl, ?_⟩
      exact hk (Zt xσ5) _ (hs.ext hσ) (hs.old hσ) _ q
    · refine ⟨_, _, _, b2.cell 1 rfl, ?_⟩
      refine q (Zt xσ3) H_3 _ rfl _ _ _ rfl f2 _ (fun Z5 H_6 hE4 hO4 x3 q => ?_)
      obtain ⟨xσ6, st6⟩ := call0 hE4 xσ3
      replace f := f.step st6
      replace f2 := f2.step st6
      replace f3 := f3.step st6
      replace b := b.step st6
      replace b2 := b2.step st6
      replace f4 := f4.step st6
      replace f5 := f5.step st6
      replace hs := hs.trans st6
      refine ⟨_, rfl, ?_⟩
      refine condI (fun q => ?_) (fun q => ?_) q
      · refine q (Zt xσ6) H_6  _ (fun Z6 H_7 hE5 hO5 x4 q => ?_)
        obtain ⟨xσ7, st7⟩ := call0 hE5 xσ6
        replace f := f.step st7
        replace f2 := f2.step st7
        replace f3 := f3.step st7
        replace b := b.step st7
        replace b2 := b2.step st7
        replace f4 := f4.step st7
        replace f5 := f5.step st7
        replace hs := hs.trans st7
        refine ⟨_, rfl, ?_⟩
        exact hk (Zt xσ7) _ (hs.ext hσ) (hs.old hσ) _ q
      · refine ⟨_, _, _, b2.cell 1 rfl, ?_⟩
        refine q (Zt xσ6) H_6 _ _ _ rfl f2 _ (fun Z7 H_8 hE6 hO6 x5 q => ?_)
        obtain ⟨xσ8, st8⟩ := call0 hE6 xσ6
        replace f := f.step st8
        replace f2 := f2.step st8
        replace f3 := f3.step st8
        replace b := b.step st8
        replace b2 := b2.step st8
        replace f4 := f4.step st8
        replace f5 := f5.step st8
        replace hs := hs.trans st8
        refine ⟨_, rfl, ?_⟩
        refine condI (fun q => ?_) (fun q => ?_) q
        · refine q (Zt xσ8) H_8  _ (fun Z8 H_9 hE7 hO7 x6 q => ?_)
          obtain ⟨xσ9, st9⟩ := call0 hE7 xσ8
          replace f := f.step st9
          replace f2 := f2.step st9
          replace f3 := f3.step st9
          replace b := b.step st9
          replace b2 := b2.step st9
          replace f4 := f4.step st9
          replace f5 := f5.step st9
          replace hs := hs.trans st9
          refine ⟨_, rfl, ?_⟩
          exact hk (Zt xσ9) _ (hs.ext hσ) (hs.old hσ) _ q
        · refine ⟨_, _, _, b2.cell 2 rfl, ?_⟩
          refine condI (fun q => ?_) (fun q => ?_) q
          · refine q (Zt xσ8) H_8  _ (fun Z9 H_10 hE8 hO8 x7 q => ?_)
            obtain ⟨xσ10, st10⟩ := call0 hE8 xσ8
            replace f := f.step st10
            replace f2 := f2.step st10
            replace f3 := f3.step st10
            replace b := b.step st10
            replace b2 := b2.step st10
            replace f4 := f4.step st10
            replace f5 := f5.step st10
            replace hs := hs.trans st10
            refine ⟨_, rfl, ?_⟩
            exact hk (Zt xσ10) _ (hs.ext hσ) (hs.old hσ) _ q
          · refine ⟨_, _, _, b2.cell 2 rfl, ?_⟩
            obtain ⟨h0, x8, hx, q⟩ := q
            obtain ⟨a, ha, hi⟩ := f3.addr h0 hx rfl
            refine ⟨a, ha, hi.1, hi.2, ?_⟩
            obtain ⟨A3, c3, hc, f6⟩ := f3.lds ha h0 hx
            refine ⟨_, _, _, hc.val, ?_⟩
            refine condI (fun q => ?_) (fun q => ?_) q
            · refine q (Zt xσ8) H_8  _ (fun Z10 H_11 hE9 hO9 x9 q => ?_)
              obtain ⟨xσ11, st11⟩ := call0 hE9 xσ8
              replace f := f.step st11
              replace f2 := f2.step st11
              replace f3 := f3.step st11
              replace b := b.step st11
              replace b2 := b2.step st11
              replace f4 := f4.step st11
              replace f5 := f5.step st11
              replace hc := hc.step st11
              replace f6 := f6.step st11
              replace hs := hs.trans st11
              refine ⟨_, rfl, ?_⟩
              exact hk (Zt xσ11) _ (hs.ext hσ) (hs.old hσ) _ q
            · refine ⟨_, _, _, b2.cell 2 rfl, ?_⟩
              obtain ⟨h02, x10, hx2, q⟩ := q
              obtain ⟨a2, ha2, hi2⟩ := f3.addr h02 hx2 rfl
              refine ⟨a2, ha2, hi2.1, hi2.2, ?_⟩
              obtain ⟨A4, c4, hc2, f7⟩ := f3.lds ha2 h02 hx2
              refine ⟨_, _, _, hc2.val, ?_⟩
              obtain ⟨h03, x11, hx3, q⟩ := q
              obtain ⟨a3, ha3, hi3⟩ := f7.addr h03 hx3 rfl
              refine ⟨a3, ha3, hi3.1, hi3.2, ?_⟩
              have hc3 := f7.ldu ha3 h03 hx3
              refine ⟨_, hc3.val, ?_⟩
              refine condI (fun q => ?_) (fun q => ?_) q
              · refine q (Zt xσ8) H_8  _ (fun Z11 H_12 hE10 hO10 x12 q => ?_)
                obtain ⟨xσ12, st12⟩ := call0 hE10 xσ8
                replace f := f.step st12
                replace f2 := f2.step st12
                replace f3 := f3.step st12
                replace b := b.step st12
                replace b2 := b2.step st12
                replace f4 := f4.step st12
                replace f5 := f5.step st12
                replace hc := hc.step st12
                replace f6 := f6.step st12
                replace hc2 := hc2.step st12
                replace f7 := f7.step st12
                replace hc3 := hc3.step st12
                replace hs := hs.trans st12
                refine ⟨_, rfl, ?_⟩
                exact hk (Zt xσ12) _ (hs.ext hσ) (hs.old hσ) _ q
              · refine ⟨_, _, _, b2.cell 1 rfl, ?_⟩
                refine LoopI.ofQ q (fun t_ s_ hp_ => ∃ (σ_ : Nat → Nat), Stp [] xσ8 H_8 σ_ hp_ ∧ t_ = s_) (fun h k => h _ _ k) ⟨_, Stp.refl _ _ _, rfl⟩ ?_
                rintro t _ _ H_13 next nextQ ⟨xσ13, st13, rfl⟩ q hnext
                try dsimp only at q ⊢
                replace f := f.step st13
                replace f2 := f2.step st13
                replace f3 := f3.step st13
                replace b := b.step st13
                replace b2 := b2.step st13
                replace f4 := f4.step st13
                replace f5 := f5.step st13
                replace hc := hc.step st13
                replace f6 := f6.step st13
                replace hc2 := hc2.step st13
                replace f7 := f7.step st13
                replace hc3 := hc3.step st13
                replace hs := hs.trans st13
                have sl0 := st13
                refine condI (fun q => ?_) (fun q => ?_) q
                · obtain ⟨h04, x13, hx4, q⟩ := q
                  obtain ⟨a4, ha4, hi4⟩ := f2.addr h04 hx4 rfl
                  refine ⟨a4, ha4, hi4.1, hi4.2, ?_⟩
                  have hc4 := f2.ldu ha4 h04 hx4
                  refine ⟨_, hc4.val, ?_⟩
                  refine condI (fun q => ?_) (fun q => ?_) q
                  · refine q (Zt xσ13) H_13  _ (fun Z12 H_14 hE11 hO11 x14 q => ?_)
                    obtain ⟨xσ14, st14⟩ := call0 hE11 xσ13
                    replace f := f.step st14
                    replace f2 := f2.step st14
                    replace f3 := f3.step st14
                    replace b := b.step st14
                    replace b2 := b2.step st14
                    replace f4 := f4.step st14
                    replace f5 := f5.step st14
                    replace hc := hc.step st14
                    replace f6 := f6.step st14
                    replace hc2 := hc2.step st14
                    replace f7 := f7.step st14
                    replace hc3 := hc3.step st14
                    replace hc4 := hc4.step st14
                    replace hs := hs.trans st14
                    replace sl0 := sl0.trans st14
                    refine ⟨_, rfl, ?_⟩
                    exact hk (Zt xσ14) _ (hs.ext hσ) (hs.old hσ) _ q
                  · exact hnext (IntKind.i64.wrap (t + 1)) _ _ ⟨_, sl0, rfl⟩ q
                · refine ⟨_, _, _, b2.cell 2 rfl, ?_⟩
                  obtain ⟨h05, x15, hx5, q⟩ := q
                  obtain ⟨a5, ha5, hi5⟩ := f3.addr h05 hx5 rfl
                  refine ⟨a5, ha5, hi5.1, hi5.2, ?_⟩
                  obtain ⟨A5, c5, hc5, f8⟩ := f3.lds ha5 h05 hx5
                  refine ⟨_, _, _, hc5.val, ?_⟩
                  obtain ⟨h06, x16, hx6, q⟩ := q
                  obtain ⟨a6, ha6, hi6⟩ := f8.addr h06 hx6 rfl
                  refine ⟨a6, ha6, hi6.1, hi6.2, ?_⟩
                  have hc6 := f8.ldu ha6 h06 hx6
                  refine ⟨_, hc6.val, ?_⟩
                  refine ⟨_, _, _, b2.cell 1 rfl, ?_⟩
                  refine q (Zt xσ13) H_13 _ rfl _ _ _ rfl f2 _ (fun Z13 H_15 hE12 hO12 x17 Y3 hY4 A6 n3 c6 hn6 f9 q => ?_)
                  obtain ⟨xσ15, st15, fz12, fy3⟩ := call1 hE12 hO12 xσ13 3 (fun _ h => h) hY4
                  replace f9 := f9.keep fz12 fy3
                  cases hn6
                  replace f := f.step st15
                  replace f2 := f2.step st15
                  replace f3 := f3.step st15
                  replace b := b.step st15
                  replace b2 := b2.step st15
                  replace f4 := f4.step st15
                  replace f5 := f5.step st15
                  replace hc := hc.step st15
                  replace f6 := f6.step st15
                  replace hc2 := hc2.step st15
                  replace f7 := f7.step st15
                  replace hc3 := hc3.step st15
                  replace hc5 := hc5.step st15
                  replace f8 := f8.step st15
                  replace hc6 := hc6.step st15
                  replace hs := hs.trans st15
                  refine ⟨_, _, _, rfl, ?_⟩
                  refine ⟨_, b.cell 1 rfl, ?_⟩
                  refine ⟨_, b.cell0, ?_⟩
                  refine q (Zt xσ15) H_15 _ rfl _ rfl _ rfl _ (fun Z14 H_16 hE13 hO13 x18 v he3 q => ?_)
                  obtain ⟨xσ16, st16⟩ := call0 hE13 xσ15
                  cases he3
                  replace f := f.step st16
                  replace f2 := f2.step st16
                  replace f3 := f3.step st16
                  replace b := b.step st16
                  replace b2 := b2.step st16
                  replace f4 := f4.step st16
                  replace f5 := f5.step st16
                  replace hc := hc.step st16
                  replace f6 := f6.step st16
                  replace hc2 := hc2.step st16
                  replace f7 := f7.step st16
                  replace hc3 := hc3.step st16
                  replace hc5 := hc5.step st16
                  replace f8 := f8.step st16
                  replace hc6 := hc6.step st16
                  replace f9 := f9.step st16
                  replace hs := hs.trans st16
                  refine ⟨_, rfl, ?_⟩
                  refine ⟨(b.cell 1 rfl), ?_⟩
                  obtain ⟨xσ17, st17, f4⟩ := SlO.freeze f4
                  replace f := f.step st17
                  replace f2 := f2.step st17
                  replace f3 := f3.step st17
                  replace b := b.step st17
                  replace b2 := b2.step st17
                  replace f5 := f5.step st17
                  replace hc := hc.step st17
                  replace f6 := f6.step st17
                  replace hc2 := hc2.step st17
                  replace f7 := f7.step st17
                  replace hc3 := hc3.step st17
                  replace hc5 := hc5.step st17
                  replace f8 := f8.step st17
                  replace hc6 := hc6.step st17
                  replace f9 := f9.step st17
                  replace hs := hs.trans st17
                  obtain ⟨xσ18, st18, f9⟩ := SlO.freeze f9
                  replace f := f.step st18
                  replace f2 := f2.step st18
                  replace f3 := f3.step st18
                  replace b := b.step st18
                  replace b2 := b2.step st18
                  replace f4 := f4.step st18
                  replace f5 := f5.step st18
                  replace hc := hc.step st18
                  replace f6 := f6.step st18
                  replace hc2 := hc2.step st18
                  replace f7 := f7.step st18
                  replace hc3 := hc3.step st18
                  replace hc5 := hc5.step st18
                  replace f8 := f8.step st18
                  replace hc6 := hc6.step st18
                  replace hs := hs.trans st18
                  refine q (Zt xσ18) H_16 _ rfl _ _ _ rfl f4 _ rfl _ _ _ rfl f9 _ (fun Z15 H_17 hE14 hO14 r5 A7 n4 c7 hn7 f10 r6 q => ?_)
                  obtain ⟨xσ19, st19, fz14⟩ := callZ hE14 hO14 xσ18 (fun _ h => h)
                  replace f10 := f10.keep fz14
                  cases hn7
                  replace f := f.step st19
                  replace f2 := f2.step st19
                  replace f3 := f3.step st19
                  replace b := b.step st19
                  replace b2 := b2.step st19
                  replace f4 := f4.step st19
                  replace f5 := f5.step st19
                  replace hc := hc.step st19
                  replace f6 := f6.step st19
                  replace hc2 := hc2.step st19
                  replace f7 := f7.step st19
                  replace hc3 := hc3.step st19
                  replace hc5 := hc5.step st19
                  replace f8 := f8.step st19
                  replace hc6 := hc6.step st19
                  replace f9 := f9.step st19
                  replace hs := hs.trans st19
                  refine ⟨_, _, _, _, rfl, ?_⟩
                  refine ⟨_, b.cell 1 rfl, ?_⟩
                  refine q (Zt xσ19) H_17 _ rfl _ _ _ rfl f10 _ (fun Z16 H_18 hE15 hO15 r7 v2 he4 r8 A8 n5 c8 hn8 f11 r9 q => ?_)
                  obtain ⟨xσ20, st20, fz15⟩ := callZ hE15 hO15 xσ19 (fun _ h => h)
                  replace f11 := f11.keep fz15
                  cases he4
                  cases hn8
                  replace f := f.step st20
                  replace f2 := f2.step st20
                  replace f3 := f3.step st20
                  replace b := b.step st20
                  replace b2 := b2.step st20
                  replace f4 := f4.step st20
                  replace f5 := f5.step st20
                  replace hc := hc.step st20
                  replace f6 := f6.step st20
                  replace hc2 := hc2.step st20
                  replace f7 := f7.step st20
                  replace hc3 := hc3.step st20
                  replace hc5 := hc5.step st20
                  replace f8 := f8.step st20
                  replace hc6 := hc6.step st20
                  replace f9 := f9.step st20
                  replace f10 := f10.step st20
                  replace hs := hs.trans st20
                  refine ⟨_, _, _, _, _, rfl, ?_⟩
                  refine condI (fun q => ?_) (fun q => ?_) q
                  · exact hk (Zt xσ20) _ (hs.ext hσ) (hs.old hσ) _ q
                  · refine condI (fun q => ?_) (fun q => ?_) q
                    · exact hk (Zt xσ20) _ (hs.ext hσ) (hs.old hσ) _ q
                    · refine condI (fun q => ?_) (fun q => ?_) q
                      · exact hk (Zt xσ20) _ (hs.ext hσ) (hs.old hσ) _ q
                      · refine ⟨_, b.cell 1 rfl, ?_⟩
                        refine q (Zt xσ20) H_18  _ (fun Z17 H_19 hE16 hO16 x19 q => ?_)
                        obtain ⟨xσ21, st21⟩ := call0 hE16 xσ20
                        replace f := f.step st21
                        replace f2 := f2.step st21
                        replace f3 := f3.step st21
                        replace b := b.step st21
                        replace b2 := b2.step st21
                        replace f4 := f4.step st21
                        replace f5 := f5.step st21
                        replace hc := hc.step st21
                        replace f6 := f6.step st21
                        replace hc2 := hc2.step st21
                        replace f7 := f7.step st21
                        replace hc3 := hc3.step st21
                        replace hc5 := hc5.step st21
                        replace f8 := f8.step st21
                        replace hc6 := hc6.step st21
                        replace f9 := f9.step st21
                        replace f10 := f10.step st21
                        replace f11 := f11.step st21
                        replace hs := hs.trans st21
                        refine ⟨_, rfl, ?_⟩
                        refine condI (fun q => ?_) (fun q => ?_) q
                        · exact hk (Zt xσ21) _ (hs.ext hσ) (hs.old hσ) _ q
                        · refine q (Zt xσ21) H_19 _ rfl _ _ _ rfl f11 _ (fun Z18 H_20 hE17 hO17 x20 q => ?_)
                          obtain ⟨xσ22, st22⟩ := call0 hE17 xσ21
                          replace f := f.step st22
                          replace f2 := f2.step st22
                          replace f3 := f3.step st22
                          replace b := b.step st22
                          replace b2 := b2.step st22
                          replace f4 := f4.step st22
                          replace f5 := f5.step st22
                          replace hc := hc.step st22
                          replace f6 := f6.step st22
                          replace hc2 := hc2.step st22
                          replace f7 := f7.step st22
                          replace hc3 := hc3.step st22
                          replace hc5 := hc5.step st22
                          replace f8 := f8.step st22
                          replace hc6 := hc6.step st22
                          replace f9 := f9.step st22
                          replace f10 := f10.step st22
                          replace f11 := f11.step st22
                          replace hs := hs.trans st22
                          refine ⟨_, rfl, ?_⟩
                          refine condI (fun q => ?_) (fun q => ?_) q
                          · exact hk (Zt xσ22) _ (hs.ext hσ) (hs.old hσ) _ q
                          · refine ⟨_, _, _, b2.cell 1 rfl, ?_⟩
                            refine LoopI.ofQ q (fun t_ s_ hp_ => ∃ (σ_ : Nat → Nat), Stp [4, 5] xσ22 H_20 σ_ hp_ ∧ t_ = s_) (fun h k => h _ _ k) ⟨_, Stp.refl _ _ _, rfl⟩ ?_
                            rintro t2 _ _ H_21 next2 nextQ2 ⟨xσ23, st23, rfl⟩ q hnext2
                            try dsimp only at q ⊢
                            replace f := f.step st23
                            replace f2 := f2.step st23
                            replace f3 := f3.step st23
                            replace b := b.step st23
                            replace b2 := b2.step st23
                            replace f4 := f4.step st23
                            replace f5 := f5.step st23
                            replace hc := hc.step st23
                            replace f6 := f6.step st23
                            replace hc2 := hc2.step st23
                            replace f7 := f7.step st23
                            replace hc3 := hc3.step st23
                            replace hc5 := hc5.step st23
                            replace f8 := f8.step st23
                            replace hc6 := hc6.step st23
                            replace f9 := f9.step st23
                            replace f10 := f10.step st23
                            replace f11 := f11.step st23
                            replace hs := hs.trans st23
                            have sl1 := st23
                            refine condI (fun q => ?_) (fun q => ?_) q
                            · obtain ⟨h07, x21, hx7, q⟩ := q
                              obtain ⟨a7, ha7, hi7⟩ := f2.addr h07 hx7 rfl
                              refine ⟨a7, ha7, hi7.1, hi7.2, ?_⟩
                              have hc7 := f2.ldu ha7 h07 hx7
                              refine ⟨_, hc7.val, ?_⟩
                              refine ⟨_, b.cell 1 rfl, ?_⟩
                              refine q (Zt xσ23) H_21 _ rfl _ _ _ rfl f4 _ rfl _ (fun Z19 H_22 hE18 hO18 r10 Y4 hY5 A9 n6 c9 hn9 f12 r11 q => ?_)
                              obtain ⟨xσ24, st24, fz18, fy4⟩ := call1 hE18 hO18 xσ23 4 (fun _ h => h) hY5
                              replace f12 := f12.keep fz18 fy4
                              cases hn9
                              replace f := f.step st24
                              replace f2 := f2.step st24
                              replace f3 := f3.step st24
                              replace b := b.step st24
                              replace b2 := b2.step st24
                              replace f4 := f4.step st24
                              replace f5 := f5.step st24
                              replace hc := hc.step st24
                              replace f6 := f6.step st24
                              replace hc2 := hc2.step st24
                              replace f7 := f7.step st24
                              replace hc3 := hc3.step st24
                              replace hc5 := hc5.step st24
                              replace f8 := f8.step st24
                              replace hc6 := hc6.step st24
                              replace f9 := f9.step st24
                              replace f10 := f10.step st24
                              replace f11 := f11.step st24
                              replace hc7 := hc7.step st24
                              replace hs := hs.trans st24
                              replace sl1 := sl1.trans st24
                              refine ⟨_, _, _, _, rfl, ?_⟩
                              refine ⟨_, b.cell 1 rfl, ?_⟩
                              refine q (Zt xσ24) H_22 _ rfl _ _ _ rfl f10 _ rfl _ (fun Z20 H_23 hE19 hO19 r12 Y5 hY6 A10 n7 c10 hn10 f13 r13 q => ?_)
                              obtain ⟨xσ25, st25, fz19, fy5⟩ := call1 hE19 hO19 xσ24 5 (fun _ h => h) hY6
                              replace f13 := f13.keep fz19 fy5
                              cases hn10
                              replace f := f.step st25
                              replace f2 := f2.step st25
                              replace f3 := f3.step st25
                              replace b := b.step st25
                              replace b2 := b2.step st25
                              replace f4 := f4.step st25
                              replace f5 := f5.step st25
                              replace hc := hc.step st25
                              replace f6 := f6.step st25
                              replace hc2 := hc2.step st25
                              replace f7 := f7.step st25
                              replace hc3 := hc3.step st25
                              replace hc5 := hc5.step st25
                              replace f8 := f8.step st25
                              replace hc6 := hc6.step st25
                              replace f9 := f9.step st25
                              replace f10 := f10.step st25
                              replace f11 := f11.step st25
                              replace hc7 := hc7.step st25
                              replace f12 := f12.step st25
                              replace hs := hs.trans st25
                              replace sl1 := sl1.trans st25
                              refine ⟨_, _, _, _, rfl, ?_⟩
                              refine q (fun i => xσ25 i = 0 ∨ xσ25 i = 4 ∨ xσ25 i = 5) H_23 _ _ _ rfl (f12.read (fun i h => .inl h) (fun i h => .inr (.inl h))) _ _ _ rfl (f13.read (fun i h => .inl h) (fun i h => .inr (.inr (h)))) _ (fun Z21 H_24 hE20 hO20 x22 q => ?_)
                              obtain ⟨xσ26, st26⟩ := call0 hE20 xσ25
                              replace f := f.step st26
                              replace f2 := f2.step st26
                              replace f3 := f3.step st26
                              replace b := b.step st26
                              replace b2 := b2.step st26
                              replace f4 := f4.step st26
                              replace f5 := f5.step st26
                              replace hc := hc.step st26
                              replace f6 := f6.step st26
                              replace hc2 := hc2.step st26
                              replace f7 := f7.step st26
                              replace hc3 := hc3.step st26
                              replace hc5 := hc5.step st26
                              replace f8 := f8.step st26
                              replace hc6 := hc6.step st26
                              replace f9 := f9.step st26
                              replace f10 := f10.step st26
                              replace f11 := f11.step st26
                              replace hc7 := hc7.step st26
                              replace f12 := f12.step st26
                              replace f13 := f13.step st26
                              replace hs := hs.trans st26
                              replace sl1 := sl1.trans st26
                              refine ⟨_, rfl, ?_⟩
                              refine condI (fun q => ?_) (fun q => ?_) q
                              · exact hk (Zt xσ26) _ (hs.ext hσ) (hs.old hσ) _ q
                              · exact hnext2 (IntKind.i64.wrap (t2 + 1)) _ _ ⟨_, sl1, rfl⟩ q
                            · refine ⟨_, b.cell 1 rfl, ?_⟩
                              refine ⟨_, b.cell0, ?_⟩
                              refine q (Zt xσ23) H_21 _ rfl _ rfl _ rfl _ (fun Z22 H_25 hE21 hO21 x23 v3 he5 q => ?_)
                              obtain ⟨xσ27, st27⟩ := call0 hE21 xσ23
                              cases he5
                              replace f := f.step st27
                              replace f2 := f2.step st27
                              replace f3 := f3.step st27
                              replace b := b.step st27
                              replace b2 := b2.step st27
                              replace f4 := f4.step st27
                              replace f5 := f5.step st27
                              replace hc := hc.step st27
                              replace f6 := f6.step st27
                              replace hc2 := hc2.step st27
                              replace f7 := f7.step st27
                              replace hc3 := hc3.step st27
                              replace hc5 := hc5.step st27
                              replace f8 := f8.step st27
                              replace hc6 := hc6.step st27
                              replace f9 := f9.step st27
                              replace f10 := f10.step st27
                              replace f11 := f11.step st27
                              replace hs := hs.trans st27
                              refine ⟨_, rfl, ?_⟩
                              refine ⟨(b.cell 1 rfl), ?_⟩
                              refine q (Zt xσ27) H_25 _ rfl _ _ _ rfl f10 _ rfl _ _ _ rfl f9 _ (fun Z23 H_26 hE22 hO22 r14 A11 n8 c11 hn11 f14 r15 q => ?_)
                              obtain ⟨xσ28, st28, fz22⟩ := callZ hE22 hO22 xσ27 (fun _ h => h)
                              replace f14 := f14.keep fz22
                              cases hn11
                              replace f := f.step st28
                              replace f2 := f2.step st28
                              replace f3 := f3.step st28
                              replace b := b.step st28
                              replace b2 := b2.step st28
                              replace f4 := f4.step st28
                              replace f5 := f5.step st28
                              replace hc := hc.step st28
                              replace f6 := f6.step st28
                              replace hc2 := hc2.step st28
                              replace f7 := f7.step st28
                              replace hc3 := hc3.step st28
                              replace hc5 := hc5.step st28
                              replace f8 := f8.step st28
                              replace hc6 := hc6.step st28
                              replace f9 := f9.step st28
                              replace f10 := f10.step st28
                              replace f11 := f11.step st28
                              replace hs := hs.trans st28
                              refine ⟨_, _, _, _, rfl, ?_⟩
                              refine q (Zt xσ28) H_26 _ _ _ rfl f14 _ _ _ rfl f4 _ (fun Z24 H_27 hE23 hO23 x24 q => ?_)
                              obtain ⟨xσ29, st29⟩ := call0 hE23 xσ28
                              replace f := f.step st29
                              replace f2 := f2.step st29
                              replace f3 := f3.step st29
                              replace b := b.step st29
                              replace b2 := b2.step st29
                              replace f4 := f4.step st29
                              replace f5 := f5.step st29
                              replace hc := hc.step st29
                              replace f6 := f6.step st29
                              replace hc2 := hc2.step st29
                              replace f7 := f7.step st29
                              replace hc3 := hc3.step st29
                              replace hc5 := hc5.step st29
                              replace f8 := f8.step st29
                              replace hc6 := hc6.step st29
                              replace f9 := f9.step st29
                              replace f10 := f10.step st29
                              replace f11 := f11.step st29
                              replace f14 := f14.step st29
                              replace hs := hs.trans st29
                              refine ⟨_, rfl, ?_⟩
                              refine condI (fun q => ?_) (fun q => ?_) q
                              · refine q (Zt xσ29) H_27  _ (fun Z25 H_28 hE24 hO24 x25 q => ?_)
                                obtain ⟨xσ30, st30⟩ := call0 hE24 xσ29
                                replace f := f.step st30
                                replace f2 := f2.step st30
                                replace f3 := f3.step st30
                                replace b := b.step st30
                                replace b2 := b2.step st30
                                replace f4 := f4.step st30
                                replace f5 := f5.step st30
                                replace hc := hc.step st30
                                replace f6 := f6.step st30
                                replace hc2 := hc2.step st30
                                replace f7 := f7.step st30
                                replace hc3 := hc3.step st30
                                replace hc5 := hc5.step st30
                                replace f8 := f8.step st30
                                replace hc6 := hc6.step st30
                                replace f9 := f9.step st30
                                replace f10 := f10.step st30
                                replace f11 := f11.step st30
                                replace f14 := f14.step st30
                                replace hs := hs.trans st30
                                refine ⟨_, rfl, ?_⟩
                                exact hk (Zt xσ30) _ (hs.ext hσ) (hs.old hσ) _ q
                              · exact hk (Zt xσ29) _ (hs.ext hσ) (hs.old hσ) _ q

end Go.Proofs.Ytlhcaangdenoaaa.Sh
