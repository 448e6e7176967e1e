import Derived.Test.YtlhcaangdenoaaaTypes
import Derived.Test.YtlhcaangdenoaaaFnJuntolaw06
import Derived.Test.YtlhcaangdenoaaaFnJuntoref06
import Derived.Test.YtlhcaangdenoaaaFnPair
set_option linter.unusedVariables false
set_option linter.unusedSimpArgs false
set_option maxRecDepth 100000
namespace Go.Proofs.Ytlhcaangdenoaaa.Sh
open Go.Sx

/-! juntolaw06_PairJoins -/
def juntolaw06_PairJoins.A : Ann where
  loops := fun i => match i with
    | _ => []
  plans := fun i => match i with
    | _ => .stop
def juntolaw06_PairJoins.W (p : Int) (q_0 : Int) (q_1A : Option Addr) (q_1n q_1c : Nat) (q_2A : Option Addr) (q_2n q_2c : Nat) (H : Heap) (R : Value → Heap → Prop) : Prop :=
  NewH (H.push (.cells #[.int .i64 q_0, .slice q_1A q_1n q_1c, .slice q_2A q_2n q_2c] 57 (0, 0))) fun H_ =>
  ∃ x : Int, cellH H_ (Addr.mk H.size 0 none) = some (.int .i64 x) ∧ ∃ (xA : Option Addr) (xn xc : Nat), cellH H_ (((Addr.mk H.size 0 none)).add 1) = some (.slice xA xn xc) ∧ ∃ (xA2 : Option Addr) (xn2 xc2 : Nat), cellH H_ (((Addr.mk H.size 0 none)).add 2) = some (.slice xA2 xn2 xc2) ∧ CallH P N.pair_Join [.int .u64 p, .int .i64 x, .slice xA xn xc, .slice xA2 xn2 xc2] H_ fun v H_2 =>
  ∃ (r0A : Option Addr) (r0n r0c : Nat), ∃ r1 : Int, v = .tuple #[.slice r0A r0n r0c, .int .i64 r1] ∧ ∃ x2 : Int, cellH H_2 (Addr.mk H.size 0 none) = some (.int .i64 x2) ∧ CallH P N.juntoref06_Bounds [.int .u64 p, .int .i64 x2] H_2 fun v2 H_3 =>
  ∃ r : Int, v2 = .int .i64 r ∧ cond (r == 0) (∃ (xA3 : Option Addr) (xn3 xc3 : Nat), cellH H_3 (((Addr.mk H.size 0 none)).add 1) = some (.slice xA3 xn3 xc3) ∧ ∃ (xA4 : Option Addr) (xn4 xc4 : Nat), cellH H_3 (((Addr.mk H.size 0 none)).add 2) = some (.slice xA4 xn4 xc4) ∧ CallH P N.juntoref06_Rows [.int .u64 p, .slice xA3 xn3 xc3, .slice xA4 xn4 xc4] H_3 fun v3 H_4 =>
  ∃ r2 : Int, v3 = .int .i64 r2 ∧ cond (r2 == 0) (∃ (xA5 : Option Addr) (xn5 xc5 : Nat), cellH H_4 (((Addr.mk H.size 0 none)).add 1) = some (.slice xA5 xn5 xc5) ∧ ∃ x3 : Int, cellH H_4 (Addr.mk H.size 0 none) = some (.int .i64 x3) ∧ cond (decide (((xn5 : Nat) : Int) < (IntKind.i64.wrap (x3 + 1)))) (cond (11 != 0) (CallH P N.juntolaw06_is [.slice r0A r0n r0c, .int .i64 r1, .slice none 0 0, .int .i64 11] H_4 fun v4 H_5 =>
  ∃ r3 : Bool, v4 = .bool r3 ∧ cond r3 (CallH P N.juntolaw06_alive [] H_5 fun v5 H_6 =>
  ∃ r4 : Bool, v5 = .bool r4 ∧ R (.bool r4) H_6) (R (.bool false) H_5))
   (∃ x4 : Int, cellH H_4 (Addr.mk H.size 0 none) = some (.int .i64 x4) ∧ ∃ (xA6 : Option Addr) (xn6 xc6 : Nat), cellH H_4 (((Addr.mk H.size 0 none)).add 1) = some (.slice xA6 xn6 xc6) ∧ ∃ (xA7 : Option Addr) (xn7 xc7 : Nat), cellH H_4 (((Addr.mk H.size 0 none)).add 2) = some (.slice xA7 xn7 xc7) ∧ CallH P N.juntoref06_Join [.int .u64 p, .int .i64 x4, .slice xA6 xn6 xc6, .slice xA7 xn7 xc7] H_4 fun v6 H_7 =>
  ∃ (r0A2 : Option Addr) (r0n2 r0c2 : Nat), ∃ r12 : Bool, v6 = .tuple #[.slice r0A2 r0n2 r0c2, .bool r12] ∧ cond (!r12) (CallH P N.juntolaw06_is [.slice r0A r0n r0c, .int .i64 r1, .slice none 0 0, .int .i64 12] H_7 fun v7 H_8 =>
  ∃ r5 : Bool, v7 = .bool r5 ∧ cond r5 (CallH P N.juntolaw06_alive [] H_8 fun v8 H_9 =>
  ∃ r6 : Bool, v8 = .bool r6 ∧ R (.bool r6) H_9) (R (.bool false) H_8))
   (CallH P N.juntolaw06_is [.slice r0A r0n r0c, .int .i64 r1, .slice r0A2 r0n2 r0c2, .int .i64 0] H_7 fun v9 H_10 =>
  ∃ r7 : Bool, v9 = .bool r7 ∧ R (.bool r7) H_10)))
   (cond (r2 != 0) (CallH P N.juntolaw06_is [.slice r0A r0n r0c, .int .i64 r1, .slice none 0 0, .int .i64 r2] H_4 fun v10 H_11 =>
  ∃ r8 : Bool, v10 = .bool r8 ∧ cond r8 (CallH P N.juntolaw06_alive [] H_11 fun v11 H_12 =>
  ∃ r9 : Bool, v11 = .bool r9 ∧ R (.bool r9) H_12) (R (.bool false) H_11))
   (∃ x5 : Int, cellH H_4 (Addr.mk H.size 0 none) = some (.int .i64 x5) ∧ ∃ (xA8 : Option Addr) (xn8 xc8 : Nat), cellH H_4 (((Addr.mk H.size 0 none)).add 1) = some (.slice xA8 xn8 xc8) ∧ ∃ (xA9 : Option Addr) (xn9 xc9 : Nat), cellH H_4 (((Addr.mk H.size 0 none)).add 2) = some (.slice xA9 xn9 xc9) ∧ CallH P N.juntoref06_Join [.int .u64 p, .int .i64 x5, .slice xA8 xn8 xc8, .slice xA9 xn9 xc9] H_4 fun v12 H_13 =>
  ∃ (r0A3 : Option Addr) (r0n3 r0c3 : Nat), ∃ r13 : Bool, v12 = .tuple #[.slice r0A3 r0n3 r0c3, .bool r13] ∧ cond (!r13) (CallH P N.juntolaw06_is [.slice r0A r0n r0c, .int .i64 r1, .slice none 0 0, .int .i64 12] H_13 fun v13 H_14 =>
  ∃ r10 : Bool, v13 = .bool r10 ∧ cond r10 (CallH P N.juntolaw06_alive [] H_14 fun v14 H_15 =>
  ∃ r11 : Bool, v14 = .bool r11 ∧ R (.bool r11) H_15) (R (.bool false) H_14))
   (CallH P N.juntolaw06_is [.slice r0A r0n r0c, .int .i64 r1, .slice r0A3 r0n3 r0c3, .int .i64 0] H_13 fun v15 H_16 =>
  ∃ r14 : Bool, v15 = .bool r14 ∧ R (.bool r14) H_16)))) (cond (r2 != 0) (CallH P N.juntolaw06_is [.slice r0A r0n r0c, .int .i64 r1, .slice none 0 0, .int .i64 r2] H_4 fun v16 H_17 =>
  ∃ r15 : Bool, v16 = .bool r15 ∧ cond r15 (CallH P N.juntolaw06_alive [] H_17 fun v17 H_18 =>
  ∃ r16 : Bool, v17 = .bool r16 ∧ R (.bool r16) H_18) (R (.bool false) H_17))
   (∃ x6 : Int, cellH H_4 (Addr.mk H.size 0 none) = some (.int .i64 x6) ∧ ∃ (xA10 : Option Addr) (xn10 xc10 : Nat), cellH H_4 (((Addr.mk H.size 0 none)).add 1) = some (.slice xA10 xn10 xc10) ∧ ∃ (xA11 : Option Addr) (xn11 xc11 : Nat), cellH H_4 (((Addr.mk H.size 0 none)).add 2) = some (.slice xA11 xn11 xc11) ∧ CallH P N.juntoref06_Join [.int .u64 p, .int .i64 x6, .slice xA10 xn10 xc10, .slice xA11 xn11 xc11] H_4 fun v18 H_19 =>
  ∃ (r0A4 : Option Addr) (r0n4 r0c4 : Nat), ∃ r17 : Bool, v18 = .tuple #[.slice r0A4 r0n4 r0c4, .bool r17] ∧ cond (!r17) (CallH P N.juntolaw06_is [.slice r0A r0n r0c, .int .i64 r1, .slice none 0 0, .int .i64 12] H_19 fun v19 H_20 =>
  ∃ r18 : Bool, v19 = .bool r18 ∧ cond r18 (CallH P N.juntolaw06_alive [] H_20 fun v20 H_21 =>
  ∃ r19 : Bool, v20 = .bool r19 ∧ R (.bool r19) H_21) (R (.bool false) H_20))
   (CallH P N.juntolaw06_is [.slice r0A r0n r0c, .int .i64 r1, .slice r0A4 r0n4 r0c4, .int .i64 0] H_19 fun v21 H_22 =>
  ∃ r20 : Bool, v21 = .bool r20 ∧ R (.bool r20) H_22))))
   (cond (r == 0) (∃ (xA12 : Option Addr) (xn12 xc12 : Nat), cellH H_3 (((Addr.mk H.size 0 none)).add 1) = some (.slice xA12 xn12 xc12) ∧ ∃ x7 : Int, cellH H_3 (Addr.mk H.size 0 none) = some (.int .i64 x7) ∧ cond (decide (((xn12 : Nat) : Int) < (IntKind.i64.wrap (x7 + 1)))) (cond (11 != 0) (CallH P N.juntolaw06_is [.slice r0A r0n r0c, .int .i64 r1, .slice none 0 0, .int .i64 11] H_3 fun v22 H_23 =>
  ∃ r21 : Bool, v22 = .bool r21 ∧ cond r21 (CallH P N.juntolaw06_alive [] H_23 fun v23 H_24 =>
  ∃ r22 : Bool, v23 = .bool r22 ∧ R (.bool r22) H_24) (R (.bool false) H_23))
   (∃ x8 : Int, cellH H_3 (Addr.mk H.size 0 none) = some (.int .i64 x8) ∧ ∃ (xA13 : Option Addr) (xn13 xc13 : Nat), cellH H_3 (((Addr.mk H.size 0 none)).add 1) = some (.slice xA13 xn13 xc13) ∧ ∃ (xA14 : Option Addr) (xn14 xc14 : Nat), cellH H_3 (((Addr.mk H.size 0 none)).add 2) = some (.slice xA14 xn14 xc14) ∧ CallH P N.juntoref06_Join [.int .u64 p, .int .i64 x8, .slice xA13 xn13 xc13, .slice xA14 xn14 xc14] H_3 fun v24 H_25 =>
  ∃ (r0A5 : Option Addr) (r0n5 r0c5 : Nat), ∃ r110 : Bool, v24 = .tuple #[.slice r0A5 r0n5 r0c5, .bool r110] ∧ cond (!r110) (CallH P N.juntolaw06_is [.slice r0A r0n r0c, .int .i64 r1, .slice none 0 0, .int .i64 12] H_25 fun v25 H_26 =>
  ∃ r23 : Bool, v25 = .bool r23 ∧ cond r23 (CallH P N.juntolaw06_alive [] H_26 fun v26 H_27 =>
  ∃ r24 : Bool, v26 = .bool r24 ∧ R (.bool r24) H_27) (R (.bool false) H_26))
   (CallH P N.juntolaw06_is [.slice r0A r0n r0c, .int .i64 r1, .slice r0A5 r0n5 r0c5, .int .i64 0] H_25 fun v27 H_28 =>
  ∃ r25 : Bool, v27 = .bool r25 ∧ R (.bool r25) H_28)))
   (cond (r != 0) (CallH P N.juntolaw06_is [.slice r0A r0n r0c, .int .i64 r1, .slice none 0 0, .int .i64 r] H_3 fun v28 H_29 =>
  ∃ r26 : Bool, v28 = .bool r26 ∧ cond r26 (CallH P N.juntolaw06_alive [] H_29 fun v29 H_30 =>
  ∃ r27 : Bool, v29 = .bool r27 ∧ R (.bool r27) H_30) (R (.bool false) H_29))
   (∃ x9 : Int, cellH H_3 (Addr.mk H.size 0 none) = some (.int .i64 x9) ∧ ∃ (xA15 : Option Addr) (xn15 xc15 : Nat), cellH H_3 (((Addr.mk H.size 0 none)).add 1) = some (.slice xA15 xn15 xc15) ∧ ∃ (xA16 : Option Addr) (xn16 xc16 : Nat), cellH H_3 (((Addr.mk H.size 0 none)).add 2) = some (.slice xA16 xn16 xc16) ∧ CallH P N.juntoref06_Join [.int .u64 p, .int .i64 x9, .slice xA15 xn15 xc15, .slice xA16 xn16 xc16] H_3 fun v30 H_31 =>
  ∃ (r0A6 : Option Addr) (r0n6 r0c6 : Nat), ∃ r111 : Bool, v30 = .tuple #[.slice r0A6 r0n6 r0c6, .bool r111] ∧ cond (!r111) (CallH P N.juntolaw06_is [.slice r0A r0n r0c, .int .i64 r1, .slice none 0 0, .int .i64 12] H_31 fun v31 H_32 =>
  ∃ r28 : Bool, v31 = .bool r28 ∧ cond r28 (CallH P N.juntolaw06_alive [] H_32 fun v32 H_33 =>
  ∃ r29 : Bool, v32 = .bool r29 ∧ R (.bool r29) H_33) (R (.bool false) H_32))
   (CallH P N.juntolaw06_is [.slice r0A r0n r0c, .int .i64 r1, .slice r0A6 r0n6 r0c6, .int .i64 0] H_31 fun v33 H_34 =>
  ∃ r30 : Bool, v33 = .bool r30 ∧ R (.bool r30) H_34)))) (cond (r != 0) (CallH P N.juntolaw06_is [.slice r0A r0n r0c, .int .i64 r1, .slice none 0 0, .int .i64 r] H_3 fun v34 H_35 =>
  ∃ r31 : Bool, v34 = .bool r31 ∧ cond r31 (CallH P N.juntolaw06_alive [] H_35 fun v35 H_36 =>
  ∃ r32 : Bool, v35 = .bool r32 ∧ R (.bool r32) H_36) (R (.bool false) H_35))
   (∃ x10 : Int, cellH H_3 (Addr.mk H.size 0 none) = some (.int .i64 x10) ∧ ∃ (xA17 : Option Addr) (xn17 xc17 : Nat), cellH H_3 (((Addr.mk H.size 0 none)).add 1) = some (.slice xA17 xn17 xc17) ∧ ∃ (xA18 : Option Addr) (xn18 xc18 : Nat), cellH H_3 (((Addr.mk H.size 0 none)).add 2) = some (.slice xA18 xn18 xc18) ∧ CallH P N.juntoref06_Join [.int .u64 p, .int .i64 x10, .slice xA17 xn17 xc17, .slice xA18 xn18 xc18] H_3 fun v36 H_37 =>
  ∃ (r0A7 : Option Addr) (r0n7 r0c7 : Nat), ∃ r112 : Bool, v36 = .tuple #[.slice r0A7 r0n7 r0c7, .bool r112] ∧ cond (!r112) (CallH P N.juntolaw06_is [.slice r0A r0n r0c, .int .i64 r1, .slice none 0 0, .int .i64 12] H_37 fun v37 H_38 =>
  ∃ r33 : Bool, v37 = .bool r33 ∧ cond r33 (CallH P N.juntolaw06_alive [] H_38 fun v38 H_39 =>
  ∃ r34 : Bool, v38 = .bool r34 ∧ R (.bool r34) H_39) (R (.bool false) H_38))
   (CallH P N.juntolaw06_is [.slice r0A r0n r0c, .int .i64 r1, .slice r0A7 r0n7 r0c7, .int .i64 0] H_37 fun v39 H_40 =>
  ∃ r35 : Bool, v39 = .bool r35 ∧ R (.bool r35) H_40))))
theorem juntolaw06_PairJoins.ok (p : Int) (q_0 : Int) (q_1A : Option Addr) (q_1n q_1c : Nat) (q_2A : Option Addr) (q_2n q_2c : Nat) (H : Heap) (R : Value → Heap → Prop) (h : juntolaw06_PairJoins.W p q_0 q_1A q_1n q_1c q_2A q_2n q_2c H R) : CallH P N.juntolaw06_PairJoins ([.int .u64 p, .agg #[.int .i64 q_0, .slice q_1A q_1n q_1c, .slice q_2A q_2n q_2c]] : List Value) H R := by
  have e : juntolaw06_PairJoins.W p q_0 q_1A q_1n q_1c q_2A q_2n q_2c H R = sxFn P T Sh.R nf juntolaw06_PairJoins.A Try.f21.results.toList (bodyOf Try.f21) (([(.int .u64 p : Value), (.agg #[.int .i64 q_0, .slice q_1A q_1n q_1c, .slice q_2A q_2n q_2c] : Value)] : List Value) ++ List.replicate (76 - ([(.int .u64 p : Value), (.agg #[.int .i64 q_0, .slice q_1A q_1n q_1c, .slice q_2A q_2n q_2c] : Value)] : List Value).length) undef) H R := by kernel_rfl
  exact call_of_sx fits bodies mixed Try.func21 (c := bodyOf Try.f21) (by kernel_rfl) Try.ntmps21 juntolaw06_PairJoins.A (by kernel_rfl) (e.mp h)

end Go.Proofs.Ytlhcaangdenoaaa.Sh

namespace Go.Proofs.Ytlhcaangdenoaaa.Sh
open Go.Sx Go.Lf

/-! juntolaw06_PairJoins -/
def juntolaw06_PairJoins.C (p : Nat) (q2 : TRows) (K : Bool → Prop) : Prop :=
  ∀ (Z : Nat → Prop) (H : Heap), ∀ (pv : Int), pv = (p : Int) → ∀ (qA : Option Addr) (qn qc : Nat), qn = q2.Xs.length → SlF u64L Z H qA qc q2.Xs → ∀ (qA2 : Option Addr) (qn2 qc2 : Nat), qn2 = q2.Rows.length → SlF (slL u64L) Z H qA2 qc2 q2.Rows → ∀ KK : Value → Heap → Prop,
    (∀ (Z' : Nat → Prop) (H' : Heap), Ext H H' → Old Z H Z' → ∀ (r0 : Bool), K r0 → KK (.bool r0) H') →
    CallH P N.juntolaw06_PairJoins [.int .u64 pv, .agg #[.int .i64 q2.T_, .slice qA qn qc, .slice qA2 qn2 qc2]] H KK
def juntolaw06_PairJoins.Q (p : Nat) (q2 : TRows) (K : Bool → Prop) : Prop :=
  pair_Join.C p q2.T_ q2.Xs q2.Rows (fun (r : (List (List Nat))) (r2 : Int) =>
  juntoref06_Bounds.C p q2.T_ (fun (x : Int) =>
  cond (x == 0) (juntoref06_Rows.C p q2.Xs q2.Rows (fun (x2 : Int) =>
  cond (x2 == 0) (cond (decide (((q2.Xs.length : Nat) : Int) < (IntKind.i64.wrap (q2.T_ + 1)))) (cond (11 != 0) (juntolaw06_is.C r r2 ([]) 11 (fun (x3 : Bool) =>
  cond x3 (juntolaw06_alive.C (fun (x4 : Bool) =>
  K x4))
   (K false)))
   (juntoref06_Join.C p q2.T_ q2.Xs q2.Rows (fun (r3 : (List (List Nat))) (r4 : Bool) =>
  cond (!r4) (juntolaw06_is.C r r2 ([]) 12 (fun (x5 : Bool) =>
  cond x5 (juntolaw06_alive.C (fun (x6 : Bool) =>
  K x6))
   (K false)))
   (juntolaw06_is.C r r2 r3 0 (fun (x7 : Bool) =>
  K x7)))))
   (cond (x2 != 0) (juntolaw06_is.C r r2 ([]) x2 (fun (x8 : Bool) =>
  cond x8 (juntolaw06_alive.C (fun (x9 : Bool) =>
  K x9))
   (K false)))
   (juntoref06_Join.C p q2.T_ q2.Xs q2.Rows (fun (r5 : (List (List Nat))) (r6 : Bool) =>
  cond (!r6) (juntolaw06_is.C r r2 ([]) 12 (fun (x10 : Bool) =>
  cond x10 (juntolaw06_alive.C (fun (x11 : Bool) =>
  K x11))
   (K false)))
   (juntolaw06_is.C r r2 r5 0 (fun (x12 : Bool) =>
  K x12))))))
   (cond (x2 != 0) (juntolaw06_is.C r r2 ([]) x2 (fun (x13 : Bool) =>
  cond x13 (juntolaw06_alive.C (fun (x14 : Bool) =>
  K x14))
   (K false)))
   (juntoref06_Join.C p q2.T_ q2.Xs q2.Rows (fun (r7 : (List (List Nat))) (r8 : Bool) =>
  cond (!r8) (juntolaw06_is.C r r2 ([]) 12 (fun (x15 : Bool) =>
  cond x15 (juntolaw06_alive.C (fun (x16 : Bool) =>
  K x16))
   (K false)))
   (juntolaw06_is.C r r2 r7 0 (fun (x17 : Bool) =>
  K x17)))))))
   (cond (x == 0) (cond (decide (((q2.Xs.length : Nat) : Int) < (IntKind.i64.wrap (q2.T_ + 1)))) (cond (11 != 0) (juntolaw06_is.C r r2 ([]) 11 (fun (x18 : Bool) =>
  cond x18 (juntolaw06_alive.C (fun (x19 : Bool) =>
  K x19))
   (K false)))
   (juntoref06_Join.C p q2.T_ q2.Xs q2.Rows (fun (r9 : (List (List Nat))) (r10 : Bool) =>
  cond (!r10) (juntolaw06_is.C r r2 ([]) 12 (fun (x20 : Bool) =>
  cond x20 (juntolaw06_alive.C (fun (x21 : Bool) =>
  K x21))
   (K false)))
   (juntolaw06_is.C r r2 r9 0 (fun (x22 : Bool) =>
  K x22)))))
   (cond (x != 0) (juntolaw06_is.C r r2 ([]) x (fun (x23 : Bool) =>
  cond x23 (juntolaw06_alive.C (fun (x24 : Bool) =>
  K x24))
   (K false)))
   (juntoref06_Join.C p q2.T_ q2.Xs q2.Rows (fun (r11 : (List (List Nat))) (r12 : Bool) =>
  cond (!r12) (juntolaw06_is.C r r2 ([]) 12 (fun (x25 : Bool) =>
  cond x25 (juntolaw06_alive.C (fun (x26 : Bool) =>
  K x26))
   (K false)))
   (juntolaw06_is.C r r2 r11 0 (fun (x27 : Bool) =>
  K x27))))))
   (cond (x != 0) (juntolaw06_is.C r r2 ([]) x (fun (x28 : Bool) =>
  cond x28 (juntolaw06_alive.C (fun (x29 : Bool) =>
  K x29))
   (K false)))
   (juntoref06_Join.C p q2.T_ q2.Xs q2.Rows (fun (r13 : (List (List Nat))) (r14 : Bool) =>
  cond (!r14) (juntolaw06_is.C r r2 ([]) 12 (fun (x30 : Bool) =>
  cond x30 (juntolaw06_alive.C (fun (x31 : Bool) =>
  K x31))
   (K false)))
   (juntolaw06_is.C r r2 r13 0 (fun (x32 : Bool) =>
  K x32))))))))
theorem juntolaw06_PairJoins.q {p : Nat} {q2 : TRows} {K : Bool → Prop} (q : juntolaw06_PairJoins.Q p q2 K) : juntolaw06_PairJoins.C p q2 K := by
  intro Z H pv he qA qn qc hn f qA2 qn2 qc2 hn2 f2 KK hk
  cases he
  cases hn
  cases hn2
  apply juntolaw06_PairJoins.ok
  unfold juntolaw06_PairJoins.W
  unfold juntolaw06_PairJoins.Q at q
  obtain ⟨σ, hz, hσ⟩ := tags Z
  have hs : Stp ([1, 2, 3, 4, 5, 6] : List Nat) σ H σ H := Stp.refl _ _ _
  replace f := f.wide hz
  replace f2 := f2.wide hz
  clear hz
  refine NewH.mk fun H_ e => ?_
  obtain ⟨xσ, st, b⟩ := BoxF.new σ 0 e
  replace f := f.step st
  replace f2 := f2.step st
  replace hs := hs.trans st
  refine ⟨_, b.cell0, ?_⟩
  refine ⟨_, _, _, b.cell 1 rfl, ?_⟩
  refine ⟨_, _, _, b.cell 2 rfl, ?_⟩
  refine q (Zt xσ) H_ _ rfl _ _ _ rfl f _ _ _ rfl f2 _ (fun Z2 H_2 hE hO r A n c hn3 f3 r2 q => ?_)
  obtain ⟨xσ2, st2, fz⟩ := callZ hE hO xσ (fun _ h => h)
  replace f3 := f3.keep fz
  cases hn3
  replace f := f.step st2
  replace f2 := f2.step st2
  replace b := b.step st2
  replace hs := hs.trans st2
  refine ⟨_, _, _, _, rfl, ?_⟩
  refine ⟨_, b.cell0, ?_⟩
  refine q (Zt xσ2) H_2 _ rfl _ (fun Z3 H_3 hE2 hO2 x q => ?_)
  obtain ⟨xσ3, st3⟩ := call0 hE2 xσ2
  replace f := f.step st3
  replace f2 := f2.step st3
  replace b := b.step st3
  replace f3 := f3.step st3
  replace hs := hs.trans st3
  refine ⟨_, rfl, ?_⟩
  refine condI (fun q => ?_) (fun q => ?_) q
  · refine ⟨_, _, _, b.cell 1 rfl, ?_⟩
    refine ⟨_, _, _, b.cell 2 rfl, ?_⟩
    refine q (Zt xσ3) H_3 _ rfl _ _ _ rfl f _ _ _ rfl f2 _ (fun Z4 H_4 hE3 hO3 x2 q => ?_)
    obtain ⟨xσ4, st4⟩ := call0 hE3 xσ3
    replace f := f.step st4
    replace f2 := f2.step st4
    replace b := b.step st4
    replace f3 := f3.step st4
    replace hs := hs.trans st4
    refine ⟨_, rfl, ?_⟩
    refine condI (fun q => ?_) (fun q => ?_) q
    · refine ⟨_, _, _, b.cell 1 rfl, ?_⟩
      refine ⟨_, b.cell0, ?_⟩
      refine condI (fun q => ?_) (fun q => ?_) q
      · refine condI (fun q => ?_) (fun q => ?_) q
        · refine q (Zt xσ4) H_4 _ _ _ rfl f3 _ _ _ rfl (SlF.nil _ _ _ _ _) _ (fun Z5 H_5 hE4 hO4 x3 q => ?_)
          obtain ⟨xσ5, st5⟩ := call0 hE4 xσ4
          replace f := f.step st5
          replace f2 := f2.step st5
          replace b := b.step st5
          replace f3 := f3.step st5
          replace hs := hs.trans st5
          refine ⟨_, rfl, ?_⟩
          refine condI (fun q => ?_) (fun q => ?_) q
          · refine q (Zt xσ5) H_5  _ (fun Z6 H_6 hE5 hO5 x4 q => ?_)
            obtain ⟨xσ6, st6⟩ := call0 hE5 xσ5
            replace f := f.step st6
            replace f2 := f2.step st6
            replace b := b.step st6
            replace f3 := f3.step st6
            replace hs := hs.trans st6
            refine ⟨_, rfl, ?_⟩
            exact hk (Zt xσ6) _ (hs.ext hσ) (hs.old hσ) _ q
          · exact hk (Zt xσ5) _ (hs.ext hσ) (hs.old hσ) _ q
        · refine ⟨_, b.cell0, ?_⟩
          refine ⟨_, _, _, b.cell 1 rfl, ?_⟩
          refine ⟨_, _, _, b.cell 2 rfl, ?_⟩
          refine q (Zt xσ4) H_4 _ rfl _ _ _ rfl f _ _ _ rfl f2 _ (fun Z7 H_7 hE6 hO6 r3 Y hY A2 n2 c2 hn4 f4 r4 q => ?_)
          obtain ⟨xσ7, st7, fz6, fy⟩ := call1 hE6 hO6 xσ4 1 (fun _ h => h) hY
          replace f4 := f4.keep fz6 fy
          cases hn4
          replace f := f.step st7
          replace f2 := f2.step st7
          replace b := b.step st7
          replace f3 := f3.step st7
          replace hs := hs.trans st7
          refine ⟨_, _, _, _, rfl, ?_⟩
          refine condI (fun q => ?_) (fun q => ?_) q
          · refine q (Zt xσ7) H_7 _ _ _ rfl f3 _ _ _ rfl (SlF.nil _ _ _ _ _) _ (fun Z8 H_8 hE7 hO7 x5 q => ?_)
            obtain ⟨xσ8, st8⟩ := call0 hE7 xσ7
            replace f := f.step st8
            replace f2 := f2.step st8
            replace b := b.step st8
            replace f3 := f3.step st8
            replace f4 := f4.step st8
            replace hs := hs.trans st8
            refine ⟨_, rfl, ?_⟩
            refine condI (fun q => ?_) (fun q => ?_) q
            · refine q (Zt xσ8) H_8  _ (fun Z9 H_9 hE8 hO8 x6 q => ?_)
              obtain ⟨xσ9, st9⟩ := call0 hE8 xσ8
              replace f := f.step st9
              replace f2 := f2.step st9
              replace b := b.step st9
              replace f3 := f3.step st9
              replace f4 := f4.step st9
              replace hs := hs.trans st9
              refine ⟨_, rfl, ?_⟩
              exact hk (Zt xσ9) _ (hs.ext hσ) (hs.old hσ) _ q
            · exact hk (Zt xσ8) _ (hs.ext hσ) (hs.old hσ) _ q
          · refine q (fun i => xσ7 i = 0 ∨ xσ7 i = 1) H_7 _ _ _ rfl (f3.wide (fun i h => .inl h)) _ _ _ rfl (f4.read (fun i h => .inl h) (fun i h => .inr (h))) _ (fun Z10 H_10 hE9 hO9 x7 q => ?_)
            obtain ⟨xσ10, st10⟩ := call0 hE9 xσ7
            replace f := f.step st10
            replace f2 := f2.step st10
            replace b := b.step st10
            replace f3 := f3.step st10
            replace f4 := f4.step st10
            replace hs := hs.trans st10
            refine ⟨_, rfl, ?_⟩
            exact hk (Zt xσ10) _ (hs.ext hσ) (hs.old hσ) _ q
      · refine condI (fun q => ?_) (fun q => ?_) q
        · refine q (Zt xσ4) H_4 _ _ _ rfl f3 _ _ _ rfl (SlF.nil _ _ _ _ _) _ (fun Z11 H_11 hE10 hO10 x8 q => ?_)
          obtain ⟨xσ11, st11⟩ := call0 hE10 xσ4
          replace f := f.step st11
          replace f2 := f2.step st11
          replace b := b.step st11
          replace f3 := f3.step st11
          replace hs := hs.trans st11
          refine ⟨_, rfl, ?_⟩
          refine condI (fun q => ?_) (fun q => ?_) q
          · refine q (Zt xσ11) H_11  _ (fun Z12 H_12 hE11 hO11 x9 q => ?_)
            obtain ⟨xσ12, st12⟩ := call0 hE11 xσ11
            replace f := f.step st12
            replace f2 := f2.step st12
            replace b := b.step st12
            replace f3 := f3.step st12
            replace hs := hs.trans st12
            refine ⟨_, rfl, ?_⟩
            exact hk (Zt xσ12) _ (hs.ext hσ) (hs.old hσ) _ q
          · exact hk (Zt xσ11) _ (hs.ext hσ) (hs.old hσ) _ q
        · refine ⟨_, b.cell0, ?_⟩
          refine ⟨_, _, _, b.cell 1 rfl, ?_⟩
          refine ⟨_, _, _, b.cell 2 rfl, ?_⟩
          refine q (Zt xσ4) H_4 _ rfl _ _ _ rfl f _ _ _ rfl f2 _ (fun Z13 H_13 hE12 hO12 r5 Y2 hY2 A3 n3 c3 hn5 f5 r6 q => ?_)
          obtain ⟨xσ13, st13, fz12, fy2⟩ := call1 hE12 hO12 xσ4 2 (fun _ h => h) hY2
          replace f5 := f5.keep fz12 fy2
          cases hn5
          replace f := f.step st13
          replace f2 := f2.step st13
          replace b := b.step st13
          replace f3 := f3.step st13
          replace hs := hs.trans st13
          refine ⟨_, _, _, _, rfl, ?_⟩
          refine condI (fun q => ?_) (fun q => ?_) q
          · refine q (Zt xσ13) H_13 _ _ _ rfl f3 _ _ _ rfl (SlF.nil _ _ _ _ _) _ (fun Z14 H_14 hE13 hO13 x10 q => ?_)
            obtain ⟨xσ14, st14⟩ := call0 hE13 xσ13
            replace f := f.step st14
            replace f2 := f2.step st14
            replace b := b.step st14
            replace f3 := f3.step st14
            replace f5 := f5.step st14
            replace hs := hs.trans st14
            refine ⟨_, rfl, ?_⟩
            refine condI (fun q => ?_) (fun q => ?_) q
            · refine q (Zt xσ14) H_14  _ (fun Z15 H_15 hE14 hO14 x11 q => ?_)
              obtain ⟨xσ15, st15⟩ := call0 hE14 xσ14
              replace f := f.step st15
              replace f2 := f2.step st15
              replace b := b.step st15
              replace f3 := f3.step st15
              replace f5 := f5.step st15
              replace hs := hs.trans st15
              refine ⟨_, rfl, ?_⟩
              exact hk (Zt xσ15) _ (hs.ext hσ) (hs.old hσ) _ q
            · exact hk (Zt xσ14) _ (hs.ext hσ) (hs.old hσ) _ q
          · refine q (fun i => xσ13 i = 0 ∨ xσ13 i = 2) H_13 _ _ _ rfl (f3.wide (fun i h => .inl h)) _ _ _ rfl (f5.read (fun i h => .inl h) (fun i h => .inr (h))) _ (fun Z16 H_16 hE15 hO15 x12 q => ?_)
            obtain ⟨xσ16, st16⟩ := call0 hE15 xσ13
            replace f := f.step st16
            replace f2 := f2.step st16
            replace b := b.step st16
            replace f3 := f3.step st16
            replace f5 := f5.step st16
            replace hs := hs.trans st16
            refine ⟨_, rfl, ?_⟩
            exact hk (Zt xσ16) _ (hs.ext hσ) (hs.old hσ) _ q
    · refine condI (fun q => ?_) (fun q => ?_) q
      · refine q (Zt xσ4) H_4 _ _ _ rfl f3 _ _ _ rfl (SlF.nil _ _ _ _ _) _ (fun Z17 H_17 hE16 hO16 x13 q => ?_)
        obtain ⟨xσ17, st17⟩ := call0 hE16 xσ4
        replace f := f.step st17
        replace f2 := f2.step st17
        replace b := b.step st17
        replace f3 := f3.step st17
        replace hs := hs.trans st17
        refine ⟨_, rfl, ?_⟩
        refine condI (fun q => ?_) (fun q => ?_) q
        · refine q (Zt xσ17) H_17  _ (fun Z18 H_18 hE17 hO17 x14 q => ?_)
          obtain ⟨xσ18, st18⟩ := call0 hE17 xσ17
          replace f := f.step st18
          replace f2 := f2.step st18
          replace b := b.step st18
          replace f3 := f3.step st18
          replace hs := hs.trans st18
          refine ⟨_, rfl, ?_⟩
          exact hk (Zt xσ18) _ (hs.ext hσ) (hs.old hσ) _ q
        · exact hk (Zt xσ17) _ (hs.ext hσ) (hs.old hσ) _ q
      · refine ⟨_, b.cell0, ?_⟩
        refine ⟨_, _, _, b.cell 1 rfl, ?_⟩
        refine ⟨_, _, _, b.cell 2 rfl, ?_⟩
        refine q (Zt xσ4) H_4 _ rfl _ _ _ rfl f _ _ _ rfl f2 _ (fun Z19 H_19 hE18 hO18 r7 Y3 hY3 A4 n4 c4 hn6 f6 r8 q => ?_)
        obtain ⟨xσ19, st19, fz18, fy3⟩ := call1 hE18 hO18 xσ4 3 (fun _ h => h) hY3
        replace f6 := f6.keep fz18 fy3
        cases hn6
        replace f := f.step st19
        replace f2 := f2.step st19
        replace b := b.step st19
        replace f3 := f3.step st19
        replace hs := hs.trans st19
        refine ⟨_, _, _, _, rfl, ?_⟩
        refine condI (fun q => ?_) (fun q => ?_) q
        · refine q (Zt xσ19) H_19 _ _ _ rfl f3 _ _ _ rfl (SlF.nil _ _ _ _ _) _ (fun Z20 H_20 hE19 hO19 x15 q => ?_)
          obtain ⟨xσ20, st20⟩ := call0 hE19 xσ19
          replace f := f.step st20
          replace f2 := f2.step st20
          replace b := b.step st20
          replace f3 := f3.step st20
          replace f6 := f6.step st20
          replace hs := hs.trans st20
          refine ⟨_, rfl, ?_⟩
          refine condI (fun q => ?_) (fun q => ?_) q
          · refine q (Zt xσ20) H_20  _ (fun Z21 H_21 hE20 hO20 x16 q => ?_)
            obtain ⟨xσ21, st21⟩ := call0 hE20 xσ20
            replace f := f.step st21
            replace f2 := f2.step st21
            replace b := b.step st21
            replace f3 := f3.step st21
            replace f6 := f6.step st21
            replace hs := hs.trans st21
            refine ⟨_, rfl, ?_⟩
            exact hk (Zt xσ21) _ (hs.ext hσ) (hs.old hσ) _ q
          · exact hk (Zt xσ20) _ (hs.ext hσ) (hs.old hσ) _ q
        · refine q (fun i => xσ19 i = 0 ∨ xσ19 i = 3) H_19 _ _ _ rfl (f3.wide (fun i h => .inl h)) _ _ _ rfl (f6.read (fun i h => .inl h) (fun i h => .inr (h))) _ (fun Z22 H_22 hE21 hO21 x17 q => ?_)
          obtain ⟨xσ22, st22⟩ := call0 hE21 xσ19
          replace f := f.step st22
          replace f2 := f2.step st22
          replace b := b.step st22
          replace f3 := f3.step st22
          replace f6 := f6.step st22
          replace hs := hs.trans st22
          refine ⟨_, rfl, ?_⟩
          exact hk (Zt xσ22) _ (hs.ext hσ) (hs.old hσ) _ q
  · refine condI (fun q => ?_) (fun q => ?_) q
    · refine ⟨_, _, _, b.cell 1 rfl, ?_⟩
      refine ⟨_, b.cell0, ?_⟩
      refine condI (fun q => ?_) (fun q => ?_) q
      · refine condI (fun q => ?_) (fun q => ?_) q
        · refine q (Zt xσ3) H_3 _ _ _ rfl f3 _ _ _ rfl (SlF.nil _ _ _ _ _) _ (fun Z23 H_23 hE22 hO22 x18 q => ?_)
          obtain ⟨xσ23, st23⟩ := call0 hE22 xσ3
          replace f := f.step st23
          replace f2 := f2.step st23
          replace b := b.step st23
          replace f3 := f3.step st23
          replace hs := hs.trans st23
          refine ⟨_, rfl, ?_⟩
          refine condI (fun q => ?_) (fun q => ?_) q
          · refine q (Zt xσ23) H_23  _ (fun Z24 H_24 hE23 hO23 x19 q => ?_)
            obtain ⟨xσ24, st24⟩ := call0 hE23 xσ23
            replace f := f.step st24
            replace f2 := f2.step st24
            replace b := b.step st24
            replace f3 := f3.step st24
            replace hs := hs.trans st24
            refine ⟨_, rfl, ?_⟩
            exact hk (Zt xσ24) _ (hs.ext hσ) (hs.old hσ) _ q
          · exact hk (Zt xσ23) _ (hs.ext hσ) (hs.old hσ) _ q
        · refine ⟨_, b.cell0, ?_⟩
          refine ⟨_, _, _, b.cell 1 rfl, ?_⟩
          refine ⟨_, _, _, b.cell 2 rfl, ?_⟩
          refine q (Zt xσ3) H_3 _ rfl _ _ _ rfl f _ _ _ rfl f2 _ (fun Z25 H_25 hE24 hO24 r9 Y4 hY4 A5 n5 c5 hn7 f7 r10 q => ?_)
          obtain ⟨xσ25, st25, fz24, fy4⟩ := call1 hE24 hO24 xσ3 4 (fun _ h => h) hY4
          replace f7 := f7.keep fz24 fy4
          cases hn7
          replace f := f.step st25
          replace f2 := f2.step st25
          replace b := b.step st25
          replace f3 := f3.step st25
          replace hs := hs.trans st25
          refine ⟨_, _, _, _, rfl, ?_⟩
          refine condI (fun q => ?_) (fun q => ?_) q
          · refine q (Zt xσ25) H_25 _ _ _ rfl f3 _ _ _ rfl (SlF.nil _ _ _ _ _) _ (fun Z26 H_26 hE25 hO25 x20 q => ?_)
            obtain ⟨xσ26, st26⟩ := call0 hE25 xσ25
            replace f := f.step st26
            replace f2 := f2.step st26
            replace b := b.step st26
            replace f3 := f3.step st26
            replace f7 := f7.step st26
            replace hs := hs.trans st26
            refine ⟨_, rfl, ?_⟩
            refine condI (fun q => ?_) (fun q => ?_) q
            · refine q (Zt xσ26) H_26  _ (fun Z27 H_27 hE26 hO26 x21 q => ?_)
              obtain ⟨xσ27, st27⟩ := call0 hE26 xσ26
              replace f := f.step st27
              replace f2 := f2.step st27
              replace b := b.step st27
              replace f3 := f3.step st27
              replace f7 := f7.step st27
              replace hs := hs.trans st27
              refine ⟨_, rfl, ?_⟩
              exact hk (Zt xσ27) _ (hs.ext hσ) (hs.old hσ) _ q
            · exact hk (Zt xσ26) _ (hs.ext hσ) (hs.old hσ) _ q
          · refine q (fun i => xσ25 i = 0 ∨ xσ25 i = 4) H_25 _ _ _ rfl (f3.wide (fun i h => .inl h)) _ _ _ rfl (f7.read (fun i h => .inl h) (fun i h => .inr (h))) _ (fun Z28 H_28 hE27 hO27 x22 q => ?_)
            obtain ⟨xσ28, st28⟩ := call0 hE27 xσ25
            replace f := f.step st28
            replace f2 := f2.step st28
            replace b := b.step st28
            replace f3 := f3.step st28
            replace f7 := f7.step st28
            replace hs := hs.trans st28
            refine ⟨_, rfl, ?_⟩
            exact hk (Zt xσ28) _ (hs.ext hσ) (hs.old hσ) _ q
      · refine condI (fun q => ?_) (fun q => ?_) q
        · refine q (Zt xσ3) H_3 _ _ _ rfl f3 _ _ _ rfl (SlF.nil _ _ _ _ _) _ (fun Z29 H_29 hE28 hO28 x23 q => ?_)
          obtain ⟨xσ29, st29⟩ := call0 hE28 xσ3
          replace f := f.step st29
          replace f2 := f2.step st29
          replace b := b.step st29
          replace f3 := f3.step st29
          replace hs := hs.trans st29
          refine ⟨_, rfl, ?_⟩
          refine condI (fun q => ?_) (fun q => ?_) q
          · refine q (Zt xσ29) H_29  _ (fun Z30 H_30 hE29 hO29 x24 q => ?_)
            obtain ⟨xσ30, st30⟩ := call0 hE29 xσ29
            replace f := f.step st30
            replace f2 := f2.step st30
            replace b := b.step st30
            replace f3 := f3.step st30
            replace hs := hs.trans st30
            refine ⟨_, rfl, ?_⟩
            exact hk (Zt xσ30) _ (hs.ext hσ) (hs.old hσ) _ q
          · exact hk (Zt xσ29) _ (hs.ext hσ) (hs.old hσ) _ q
        · refine ⟨_, b.cell0, ?_⟩
          refine ⟨_, _, _, b.cell 1 rfl, ?_⟩
          refine ⟨_, _, _, b.cell 2 rfl, ?_⟩
          refine q (Zt xσ3) H_3 _ rfl _ _ _ rfl f _ _ _ rfl f2 _ (fun Z31 H_31 hE30 hO30 r11 Y5 hY5 A6 n6 c6 hn8 f8 r12 q => ?_)
          obtain ⟨xσ31, st31, fz30, fy5⟩ := call1 hE30 hO30 xσ3 5 (fun _ h => h) hY5
          replace f8 := f8.keep fz30 fy5
          cases hn8
          replace f := f.step st31
          replace f2 := f2.step st31
          replace b := b.step st31
          replace f3 := f3.step st31
          replace hs := hs.trans st31
          refine ⟨_, _, _, _, rfl, ?_⟩
          refine condI (fun q => ?_) (fun q => ?_) q
          · refine q (Zt xσ31) H_31 _ _ _ rfl f3 _ _ _ rfl (SlF.nil _ _ _ _ _) _ (fun Z32 H_32 hE31 hO31 x25 q => ?_)
            obtain ⟨xσ32, st32⟩ := call0 hE31 xσ31
            replace f := f.step st32
            replace f2 := f2.step st32
            replace b := b.step st32
            replace f3 := f3.step st32
            replace f8 := f8.step st32
            replace hs := hs.trans st32
            refine ⟨_, rfl, ?_⟩
            refine condI (fun q => ?_) (fun q => ?_) q
            · refine q (Zt xσ32) H_32  _ (fun Z33 H_33 hE32 hO32 x26 q => ?_)
              obtain ⟨xσ33, st33⟩ := call0 hE32 xσ32
              replace f := f.step st33
              replace f2 := f2.step st33
              replace b := b.step st33
              replace f3 := f3.step st33
              replace f8 := f8.step st33
              replace hs := hs.trans st33
              refine ⟨_, rfl, ?_⟩
              exact hk (Zt xσ33) _ (hs.ext hσ) (hs.old hσ) _ q
            · exact hk (Zt xσ32) _ (hs.ext hσ) (hs.old hσ) _ q
          · refine q (fun i => xσ31 i = 0 ∨ xσ31 i = 5) H_31 _ _ _ rfl (f3.wide (fun i h => .inl h)) _ _ _ rfl (f8.read (fun i h => .inl h) (fun i h => .inr (h))) _ (fun Z34 H_34 hE33 hO33 x27 q => ?_)
            obtain ⟨xσ34, st34⟩ := call0 hE33 xσ31
            replace f := f.step st34
            replace f2 := f2.step st34
            replace b := b.step st34
            replace f3 := f3.step st34
            replace f8 := f8.step st34
            replace hs := hs.trans st34
            refine ⟨_, rfl, ?_⟩
            exact hk (Zt xσ34) _ (hs.ext hσ) (hs.old hσ) _ q
    · refine condI (fun q => ?_) (fun q => ?_) q
      · refine q (Zt xσ3) H_3 _ _ _ rfl f3 _ _ _ rfl (SlF.nil _ _ _ _ _) _ (fun Z35 H_35 hE34 hO34 x28 q => ?_)
        obtain ⟨xσ35, st35⟩ := call0 hE34 xσ3
        replace f := f.step st35
        replace f2 := f2.step st35
        replace b := b.step st35
        replace f3 := f3.step st35
        replace hs := hs.trans st35
        refine ⟨_, rfl, ?_⟩
        refine condI (fun q => ?_) (fun q => ?_) q
        · refine q (Zt xσ35) H_35  _ (fun Z36 H_36 hE35 hO35 x29 q => ?_)
          obtain ⟨xσ36, st36⟩ := call0 hE35 xσ35
          replace f := f.step st36
          replace f2 := f2.step st36
          replace b := b.step st36
          replace f3 := f3.step st36
          replace hs := hs.trans st36
          refine ⟨_, rfl, ?_⟩
          exact hk (Zt xσ36) _ (hs.ext hσ) (hs.old hσ) _ q
        · exact hk (Zt xσ35) _ (hs.ext hσ) (hs.old hσ) _ q
      · refine ⟨_, b.cell0, ?_⟩
        refine ⟨_, _, _, b.cell 1 rfl, ?_⟩
        refine ⟨_, _, _, b.cell 2 rfl, ?_⟩
        refine q (Zt xσ3) H_3 _ rfl _ _ _ rfl f _ _ _ rfl f2 _ (fun Z37 H_37 hE36 hO36 r13 Y6 hY6 A7 n7 c7 hn9 f9 r14 q => ?_)
        obtain ⟨xσ37, st37, fz36, fy6⟩ := call1 hE36 hO36 xσ3 6 (fun _ h => h) hY6
        replace f9 := f9.keep fz36 fy6
        cases hn9
        replace f := f.step st37
        replace f2 := f2.step st37
        replace b := b.step st37
        replace f3 := f3.step st37
        replace hs := hs.trans st37
        refine ⟨_, _, _, _, rfl, ?_⟩
        refine condI (fun q => ?_) (fun q => ?_) q
        · refine q (Zt xσ37) H_37 _ _ _ rfl f3 _ _ _ rfl (SlF.nil _ _ _ _ _) _ (fun Z38 H_38 hE37 hO37 x30 q => ?_)
          obtain ⟨xσ38, st38⟩ := call0 hE37 xσ37
          replace f := f.step st38
          replace f2 := f2.step st38
          replace b := b.step st38
          replace f3 := f3.step st38
          replace f9 := f9.step st38
          replace hs := hs.trans st38
          refine ⟨_, rfl, ?_⟩
          refine condI (fun q => ?_) (fun q => ?_) q
          · refine q (Zt xσ38) H_38  _ (fun Z39 H_39 hE38 hO38 x31 q => ?_)
            obtain ⟨xσ39, st39⟩ := call0 hE38 xσ38
            replace f := f.step st39
            replace f2 := f2.step st39
            replace b := b.step st39
            replace f3 := f3.step st39
            replace f9 := f9.step st39
            replace hs := hs.trans st39
            refine ⟨_, rfl, ?_⟩
            exact hk (Zt xσ39) _ (hs.ext hσ) (hs.old hσ) _ q
          · exact hk (Zt xσ38) _ (hs.ext hσ) (hs.old hσ) _ q
        · refine q (fun i => xσ37 i = 0 ∨ xσ37 i = 6) H_37 _ _ _ rfl (f3.wide (fun i h => .inl h)) _ _ _ rfl (f9.read (fun i h => .inl h) (fun i h => .inr (h))) _ (fun Z40 H_40 hE39 hO39 x32 q => ?_)
          obtain ⟨xσ40, st40⟩ := call0 hE39 xσ37
          replace f := f.step st40
          replace f2 := f2.step st40
          replace b := b.step st40
          replace f3 := f3.step st40
          replace f9 := f9.step st40
          replace hs := hs.trans st40
          refine ⟨_, rfl, ?_⟩
          exact hk (Zt xσ40) _ (hs.ext hσ) (hs.old hσ) _ q

end Go.Proofs.Ytlhcaangdenoaaa.Sh
