import Derived.Test.YtlhcaangdenoaaaSTypes
import Derived.Test.YtlhcaangdenoaaaSFnDecode
import Derived.Test.YtlhcaangdenoaaaSFnJuntolaw05
import Derived.Test.YtlhcaangdenoaaaSFnJuntoref01
import Derived.Test.YtlhcaangdenoaaaSFnJuntoref05
namespace Go.Lf
end Go.Lf
namespace Go.Sx
end Go.Sx
set_option linter.unusedVariables false
set_option linter.unusedSimpArgs false
set_option maxRecDepth 100000
namespace Go.Proofs.Ytlhcaangdenoaaa.Sh
open Go.Sx
def juntolaw05_DecodeGaps.A : Ann where
  loops := fun i => match i with
    | 69652 => [(17, .slice), (98, .int .i64)]
    | _ => []
  plans := fun i => match i with
    | _ => .stop
def juntolaw05_DecodeGaps.W (p : Int) (d : Int) (q_0A : Option Addr) (q_0n q_0c : Nat) (q_1A : Option Addr) (q_1n q_1c : Nat) (H : Heap) (R : Value → Heap → Prop) : Prop :=
  NewH (H.push (.cells #[.slice q_0A q_0n q_0c, .slice q_1A q_1n q_1c] 107 (0, 0))) fun H_ =>
  ∃ (xA : Option Addr) (xn xc : Nat), cellH H_ (Addr.mk H.size 0 none) = some (.slice xA xn xc) ∧ ∃ (xA2 : Option Addr) (xn2 xc2 : Nat), cellH H_ (((Addr.mk H.size 0 none)).add 1) = some (.slice xA2 xn2 xc2) ∧ CallH P N.decode_Gaps [.int .u64 p, .int .i64 d, .slice xA xn xc, .slice xA2 xn2 xc2] H_ fun v H_2 =>
  ∃ (r0A : Option Addr) (r0n r0c : Nat), ∃ (r1A : Option Addr) (r1n r1c : Nat), ∃ r2 : Int, v = .tuple #[.slice r0A r0n r0c, .slice r1A r1n r1c, .int .i64 r2] ∧ NewH (H_2.push (.cells #[.slice none 0 0, .slice none 0 0, .int .i64 0] 86 (0, 0))) fun H_3 =>
  MayWrite H_3 (Addr.mk H_2.size 0 none) 3 ∧ NewH (setH (setH (setH H_3 (Addr.mk H_2.size 0 none) (.slice r0A r0n r0c)) (((Addr.mk H_2.size 0 none)).add 1) (.slice r1A r1n r1c)) (((Addr.mk H_2.size 0 none)).add 2) (.int .i64 r2)) fun H_4 =>
  ∃ (xA3 : Option Addr) (xn3 xc3 : Nat), cellH H_4 (Addr.mk H.size 0 none) = some (.slice xA3 xn3 xc3) ∧ CallH P N.juntoref05_Check [.int .u64 p, .int .i64 d, .slice xA3 xn3 xc3] H_4 fun v2 H_5 =>
  ∃ r : Int, v2 = .int .i64 r ∧ cond (r == 0) (∃ (xA4 : Option Addr) (xn4 xc4 : Nat), cellH H_5 (((Addr.mk H.size 0 none)).add 1) = some (.slice xA4 xn4 xc4) ∧ ∃ (xA5 : Option Addr) (xn5 xc5 : Nat), cellH H_5 (Addr.mk H.size 0 none) = some (.slice xA5 xn5 xc5) ∧ cond (((xn4 : Nat) : Int) != ((xn5 : Nat) : Int)) (cond (2 != 0) (∃ (x0A : Option Addr) (x0n x0c : Nat), ∃ (x1A : Option Addr) (x1n x1c : Nat), ∃ x2 : Int, cellH H_5 (Addr.mk H_2.size 0 none) = some (.slice x0A x0n x0c) ∧ cellH H_5 (((Addr.mk H_2.size 0 none)).add 1) = some (.slice x1A x1n x1c) ∧ cellH H_5 (((Addr.mk H_2.size 0 none)).add 2) = some (.int .i64 x2) ∧ CallH P N.juntolaw05_told_bad [.agg #[.slice x0A x0n x0c, .slice x1A x1n x1c, .int .i64 x2], .int .i64 2] H_5 fun v3 H_6 =>
  ∃ r3 : Bool, v3 = .bool r3 ∧ cond r3 (CallH P N.juntolaw05_alive [] H_6 fun v4 H_7 =>
  ∃ r4 : Bool, v4 = .bool r4 ∧ R (.bool r4) H_7) (R (.bool false) H_6))
   (∃ (xA6 : Option Addr) (xn6 xc6 : Nat), cellH H_5 (Addr.mk H.size 0 none) = some (.slice xA6 xn6 xc6) ∧ ∃ (xA7 : Option Addr) (xn7 xc7 : Nat), cellH H_5 (((Addr.mk H.size 0 none)).add 1) = some (.slice xA7 xn7 xc7) ∧ CallH P N.juntoref05_There [.slice xA6 xn6 xc6, .slice xA7 xn7 xc7] H_5 fun v5 H_8 =>
  ∃ (r0A2 : Option Addr) (r0n2 r0c2 : Nat), ∃ (r1A2 : Option Addr) (r1n2 r1c2 : Nat), v5 = .tuple #[.slice r0A2 r0n2 r0c2, .slice r1A2 r1n2 r1c2] ∧ CallH P N.juntoref05_Most [.int .i64 ((r0n2 : Nat) : Int), .int .i64 d] H_8 fun v6 H_9 =>
  ∃ r5 : Int, v6 = .int .i64 r5 ∧ cond (decide (r5 < 0)) (∃ (x0A2 : Option Addr) (x0n2 x0c2 : Nat), ∃ (x1A2 : Option Addr) (x1n2 x1c2 : Nat), ∃ x22 : Int, cellH H_9 (Addr.mk H_2.size 0 none) = some (.slice x0A2 x0n2 x0c2) ∧ cellH H_9 (((Addr.mk H_2.size 0 none)).add 1) = some (.slice x1A2 x1n2 x1c2) ∧ cellH H_9 (((Addr.mk H_2.size 0 none)).add 2) = some (.int .i64 x22) ∧ CallH P N.juntolaw05_told_bad [.agg #[.slice x0A2 x0n2 x0c2, .slice x1A2 x1n2 x1c2, .int .i64 x22], .int .i64 11] H_9 fun v7 H_10 =>
  ∃ r6 : Bool, v7 = .bool r6 ∧ cond r6 (CallH P N.juntolaw05_alive [] H_10 fun v8 H_11 =>
  ∃ r7 : Bool, v8 = .bool r7 ∧ R (.bool r7) H_11) (R (.bool false) H_10))
   (CallH P N.juntoref05_Decode [.int .u64 p, .int .i64 d, .int .i64 r5, .slice r0A2 r0n2 r0c2] H_9 fun v9 H_12 =>
  ∃ (r0A3 : Option Addr) (r0n3 r0c3 : Nat), ∃ r1 : Bool, v9 = .tuple #[.slice r0A3 r0n3 r0c3, .bool r1] ∧ cond (!r1) (∃ (x0A3 : Option Addr) (x0n3 x0c3 : Nat), ∃ (x1A3 : Option Addr) (x1n3 x1c3 : Nat), ∃ x23 : Int, cellH H_12 (Addr.mk H_2.size 0 none) = some (.slice x0A3 x0n3 x0c3) ∧ cellH H_12 (((Addr.mk H_2.size 0 none)).add 1) = some (.slice x1A3 x1n3 x1c3) ∧ cellH H_12 (((Addr.mk H_2.size 0 none)).add 2) = some (.int .i64 x23) ∧ CallH P N.juntolaw05_told_bad [.agg #[.slice x0A3 x0n3 x0c3, .slice x1A3 x1n3 x1c3, .int .i64 x23], .int .i64 12] H_12 fun v10 H_13 =>
  ∃ r8 : Bool, v10 = .bool r8 ∧ cond r8 (CallH P N.juntolaw05_alive [] H_13 fun v11 H_14 =>
  ∃ r9 : Bool, v11 = .bool r9 ∧ R (.bool r9) H_14) (R (.bool false) H_13))
   (CallH P N.juntoref05_Off [.int .u64 p, .slice r0A3 r0n3 r0c3, .slice r0A2 r0n2 r0c2] H_12 fun v12 H_15 =>
  ∃ (rA : Option Addr) (rn rc : Nat), v12 = .slice rA rn rc ∧ LoopI (σ := (Option Addr × Nat × Nat) × Int) (fun κ => κ ((none, 0, 0), 0) H_15) fun s z H_16 next =>
  cond (decide (s.2 < ((rn : Nat) : Int))) (∃ a : Addr, rA = some a ∧ 0 ≤ s.2 ∧ s.2 < ((rn : Nat) : Int) ∧ ∃ x : Int, cellH H_16 (a.add (Int.toNat s.2)) = some (.int .i64 x) ∧ ∃ a2 : Addr, r1A2 = some a2 ∧ 0 ≤ x ∧ x < ((r1n2 : Nat) : Int) ∧ ∃ x3 : Int, cellH H_16 (a2.add (Int.toNat x)) = some (.int .i64 x3) ∧ NewH (H_16.push (.cells #[.int .i64 x3] 3 (0, 0))) fun H_17 =>
  AppendV 3 1 8 [.int .i64 0] H_17 s.1.1 s.1.2.1 s.1.2.2 (some (Addr.mk H_16.size 0 none)) 1 fun vA vn vc H_18 =>
  next ((vA, vn, vc), IntKind.i64.wrap (s.2 + 1)) H_18)
   (cond (r2 == 0) (CallH P N.juntoref01_Same [.slice r0A r0n r0c, .slice r0A3 r0n3 r0c3] H_16 fun v14 H_19 =>
  ∃ r10 : Bool, v14 = .bool r10 ∧ cond r10 (CallH P N.juntolaw05_ints [.slice r1A r1n r1c, .slice s.1.1 s.1.2.1 s.1.2.2] H_19 fun v15 H_20 =>
  ∃ r11 : Bool, v15 = .bool r11 ∧ R (.bool r11) H_20) (R (.bool false) H_19)) (R (.bool false) H_16))))))
   (cond (r != 0) (∃ (x0A4 : Option Addr) (x0n4 x0c4 : Nat), ∃ (x1A4 : Option Addr) (x1n4 x1c4 : Nat), ∃ x24 : Int, cellH H_5 (Addr.mk H_2.size 0 none) = some (.slice x0A4 x0n4 x0c4) ∧ cellH H_5 (((Addr.mk H_2.size 0 none)).add 1) = some (.slice x1A4 x1n4 x1c4) ∧ cellH H_5 (((Addr.mk H_2.size 0 none)).add 2) = some (.int .i64 x24) ∧ CallH P N.juntolaw05_told_bad [.agg #[.slice x0A4 x0n4 x0c4, .slice x1A4 x1n4 x1c4, .int .i64 x24], .int .i64 r] H_5 fun v16 H_21 =>
  ∃ r12 : Bool, v16 = .bool r12 ∧ cond r12 (CallH P N.juntolaw05_alive [] H_21 fun v17 H_22 =>
  ∃ r13 : Bool, v17 = .bool r13 ∧ R (.bool r13) H_22) (R (.bool false) H_21))
   (∃ (xA8 : Option Addr) (xn8 xc8 : Nat), cellH H_5 (Addr.mk H.size 0 none) = some (.slice xA8 xn8 xc8) ∧ ∃ (xA9 : Option Addr) (xn9 xc9 : Nat), cellH H_5 (((Addr.mk H.size 0 none)).add 1) = some (.slice xA9 xn9 xc9) ∧ CallH P N.juntoref05_There [.slice xA8 xn8 xc8, .slice xA9 xn9 xc9] H_5 fun v18 H_23 =>
  ∃ (r0A4 : Option Addr) (r0n4 r0c4 : Nat), ∃ (r1A3 : Option Addr) (r1n3 r1c3 : Nat), v18 = .tuple #[.slice r0A4 r0n4 r0c4, .slice r1A3 r1n3 r1c3] ∧ CallH P N.juntoref05_Most [.int .i64 ((r0n4 : Nat) : Int), .int .i64 d] H_23 fun v19 H_24 =>
  ∃ r14 : Int, v19 = .int .i64 r14 ∧ cond (decide (r14 < 0)) (∃ (x0A5 : Option Addr) (x0n5 x0c5 : Nat), ∃ (x1A5 : Option Addr) (x1n5 x1c5 : Nat), ∃ x25 : Int, cellH H_24 (Addr.mk H_2.size 0 none) = some (.slice x0A5 x0n5 x0c5) ∧ cellH H_24 (((Addr.mk H_2.size 0 none)).add 1) = some (.slice x1A5 x1n5 x1c5) ∧ cellH H_24 (((Addr.mk H_2.size 0 none)).add 2) = some (.int .i64 x25) ∧ CallH P N.juntolaw05_told_bad [.agg #[.slice x0A5 x0n5 x0c5, .slice x1A5 x1n5 x1c5, .int .i64 x25], .int .i64 11] H_24 fun v20 H_25 =>
  ∃ r15 : Bool, v20 = .bool r15 ∧ cond r15 (CallH P N.juntolaw05_alive [] H_25 fun v21 H_26 =>
  ∃ r16 : Bool, v21 = .bool r16 ∧ R (.bool r16) H_26) (R (.bool false) H_25))
   (CallH P N.juntoref05_Decode [.int .u64 p, .int .i64 d, .int .i64 r14, .slice r0A4 r0n4 r0c4] H_24 fun v22 H_27 =>
  ∃ (r0A5 : Option Addr) (r0n5 r0c5 : Nat), ∃ r17 : Bool, v22 = .tuple #[.slice r0A5 r0n5 r0c5, .bool r17] ∧ cond (!r17) (∃ (x0A6 : Option Addr) (x0n6 x0c6 : Nat), ∃ (x1A6 : Option Addr) (x1n6 x1c6 : Nat), ∃ x26 : Int, cellH H_27 (Addr.mk H_2.size 0 none) = some (.slice x0A6 x0n6 x0c6) ∧ cellH H_27 (((Addr.mk H_2.size 0 none)).add 1) = some (.slice x1A6 x1n6 x1c6) ∧ cellH H_27 (((Addr.mk H_2.size 0 none)).add 2) = some (.int .i64 x26) ∧ CallH P N.juntolaw05_told_bad [.agg #[.slice x0A6 x0n6 x0c6, .slice x1A6 x1n6 x1c6, .int .i64 x26], .int .i64 12] H_27 fun v23 H_28 =>
  ∃ r18 : Bool, v23 = .bool r18 ∧ cond r18 (CallH P N.juntolaw05_alive [] H_28 fun v24 H_29 =>
  ∃ r19 : Bool, v24 = .bool r19 ∧ R (.bool r19) H_29) (R (.bool false) H_28))
   (CallH P N.juntoref05_Off [.int .u64 p, .slice r0A5 r0n5 r0c5, .slice r0A4 r0n4 r0c4] H_27 fun v25 H_30 =>
  ∃ (rA2 : Option Addr) (rn2 rc2 : Nat), v25 = .slice rA2 rn2 rc2 ∧ LoopI (σ := (Option Addr × Nat × Nat) × Int) (fun κ => κ ((none, 0, 0), 0) H_30) fun s2 z2 H_31 next2 =>
  cond (decide (s2.2 < ((rn2 : Nat) : Int))) (∃ a3 : Addr, rA2 = some a3 ∧ 0 ≤ s2.2 ∧ s2.2 < ((rn2 : Nat) : Int) ∧ ∃ x4 : Int, cellH H_31 (a3.add (Int.toNat s2.2)) = some (.int .i64 x4) ∧ ∃ a4 : Addr, r1A3 = some a4 ∧ 0 ≤ x4 ∧ x4 < ((r1n3 : Nat) : Int) ∧ ∃ x5 : Int, cellH H_31 (a4.add (Int.toNat x4)) = some (.int .i64 x5) ∧ NewH (H_31.push (.cells #[.int .i64 x5] 3 (0, 0))) fun H_32 =>
  AppendV 3 1 8 [.int .i64 0] H_32 s2.1.1 s2.1.2.1 s2.1.2.2 (some (Addr.mk H_31.size 0 none)) 1 fun vA2 vn2 vc2 H_33 =>
  next2 ((vA2, vn2, vc2), IntKind.i64.wrap (s2.2 + 1)) H_33)
   (cond (r2 == 0) (CallH P N.juntoref01_Same [.slice r0A r0n r0c, .slice r0A5 r0n5 r0c5] H_31 fun v27 H_34 =>
  ∃ r20 : Bool, v27 = .bool r20 ∧ cond r20 (CallH P N.juntolaw05_ints [.slice r1A r1n r1c, .slice s2.1.1 s2.1.2.1 s2.1.2.2] H_34 fun v28 H_35 =>
  ∃ r21 : Bool, v28 = .bool r21 ∧ R (.bool r21) H_35) (R (.bool false) H_34)) (R (.bool false) H_31))))))) (cond (r != 0) (∃ (x0A7 : Option Addr) (x0n7 x0c7 : Nat), ∃ (x1A7 : Option Addr) (x1n7 x1c7 : Nat), ∃ x27 : Int, cellH H_5 (Addr.mk H_2.size 0 none) = some (.slice x0A7 x0n7 x0c7) ∧ cellH H_5 (((Addr.mk H_2.size 0 none)).add 1) = some (.slice x1A7 x1n7 x1c7) ∧ cellH H_5 (((Addr.mk H_2.size 0 none)).add 2) = some (.int .i64 x27) ∧ CallH P N.juntolaw05_told_bad [.agg #[.slice x0A7 x0n7 x0c7, .slice x1A7 x1n7 x1c7, .int .i64 x27], .int .i64 r] H_5 fun v29 H_36 =>
  ∃ r22 : Bool, v29 = .bool r22 ∧ cond r22 (CallH P N.juntolaw05_alive [] H_36 fun v30 H_37 =>
  ∃ r23 : Bool, v30 = .bool r23 ∧ R (.bool r23) H_37) (R (.bool false) H_36))
   (∃ (xA10 : Option Addr) (xn10 xc10 : Nat), cellH H_5 (Addr.mk H.size 0 none) = some (.slice xA10 xn10 xc10) ∧ ∃ (xA11 : Option Addr) (xn11 xc11 : Nat), cellH H_5 (((Addr.mk H.size 0 none)).add 1) = some (.slice xA11 xn11 xc11) ∧ CallH P N.juntoref05_There [.slice xA10 xn10 xc10, .slice xA11 xn11 xc11] H_5 fun v31 H_38 =>
  ∃ (r0A6 : Option Addr) (r0n6 r0c6 : Nat), ∃ (r1A4 : Option Addr) (r1n4 r1c4 : Nat), v31 = .tuple #[.slice r0A6 r0n6 r0c6, .slice r1A4 r1n4 r1c4] ∧ CallH P N.juntoref05_Most [.int .i64 ((r0n6 : Nat) : Int), .int .i64 d] H_38 fun v32 H_39 =>
  ∃ r24 : Int, v32 = .int .i64 r24 ∧ cond (decide (r24 < 0)) (∃ (x0A8 : Option Addr) (x0n8 x0c8 : Nat), ∃ (x1A8 : Option Addr) (x1n8 x1c8 : Nat), ∃ x28 : Int, cellH H_39 (Addr.mk H_2.size 0 none) = some (.slice x0A8 x0n8 x0c8) ∧ cellH H_39 (((Addr.mk H_2.size 0 none)).add 1) = some (.slice x1A8 x1n8 x1c8) ∧ cellH H_39 (((Addr.mk H_2.size 0 none)).add 2) = some (.int .i64 x28) ∧ CallH P N.juntolaw05_told_bad [.agg #[.slice x0A8 x0n8 x0c8, .slice x1A8 x1n8 x1c8, .int .i64 x28], .int .i64 11] H_39 fun v33 H_40 =>
  ∃ r25 : Bool, v33 = .bool r25 ∧ cond r25 (CallH P N.juntolaw05_alive [] H_40 fun v34 H_41 =>
  ∃ r26 : Bool, v34 = .bool r26 ∧ R (.bool r26) H_41) (R (.bool false) H_40))
   (CallH P N.juntoref05_Decode [.int .u64 p, .int .i64 d, .int .i64 r24, .slice r0A6 r0n6 r0c6] H_39 fun v35 H_42 =>
  ∃ (r0A7 : Option Addr) (r0n7 r0c7 : Nat), ∃ r110 : Bool, v35 = .tuple #[.slice r0A7 r0n7 r0c7, .bool r110] ∧ cond (!r110) (∃ (x0A9 : Option Addr) (x0n9 x0c9 : Nat), ∃ (x1A9 : Option Addr) (x1n9 x1c9 : Nat), ∃ x29 : Int, cellH H_42 (Addr.mk H_2.size 0 none) = some (.slice x0A9 x0n9 x0c9) ∧ cellH H_42 (((Addr.mk H_2.size 0 none)).add 1) = some (.slice x1A9 x1n9 x1c9) ∧ cellH H_42 (((Addr.mk H_2.size 0 none)).add 2) = some (.int .i64 x29) ∧ CallH P N.juntolaw05_told_bad [.agg #[.slice x0A9 x0n9 x0c9, .slice x1A9 x1n9 x1c9, .int .i64 x29], .int .i64 12] H_42 fun v36 H_43 =>
  ∃ r27 : Bool, v36 = .bool r27 ∧ cond r27 (CallH P N.juntolaw05_alive [] H_43 fun v37 H_44 =>
  ∃ r28 : Bool, v37 = .bool r28 ∧ R (.bool r28) H_44) (R (.bool false) H_43))
   (CallH P N.juntoref05_Off [.int .u64 p, .slice r0A7 r0n7 r0c7, .slice r0A6 r0n6 r0c6] H_42 fun v38 H_45 =>
  ∃ (rA3 : Option Addr) (rn3 rc3 : Nat), v38 = .slice rA3 rn3 rc3 ∧ LoopI (σ := (Option Addr × Nat × Nat) × Int) (fun κ => κ ((none, 0, 0), 0) H_45) fun s3 z3 H_46 next3 =>
  cond (decide (s3.2 < ((rn3 : Nat) : Int))) (∃ a5 : Addr, rA3 = some a5 ∧ 0 ≤ s3.2 ∧ s3.2 < ((rn3 : Nat) : Int) ∧ ∃ x6 : Int, cellH H_46 (a5.add (Int.toNat s3.2)) = some (.int .i64 x6) ∧ ∃ a6 : Addr, r1A4 = some a6 ∧ 0 ≤ x6 ∧ x6 < ((r1n4 : Nat) : Int) ∧ ∃ x7 : Int, cellH H_46 (a6.add (Int.toNat x6)) = some (.int .i64 x7) ∧ NewH (H_46.push (.cells #[.int .i64 x7] 3 (0, 0))) fun H_47 =>
  AppendV 3 1 8 [.int .i64 0] H_47 s3.1.1 s3.1.2.1 s3.1.2.2 (some (Addr.mk H_46.size 0 none)) 1 fun vA3 vn3 vc3 H_48 =>
  next3 ((vA3, vn3, vc3), IntKind.i64.wrap (s3.2 + 1)) H_48)
   (cond (r2 == 0) (CallH P N.juntoref01_Same [.slice r0A r0n r0c, .slice r0A7 r0n7 r0c7] H_46 fun v40 H_49 =>
  ∃ r29 : Bool, v40 = .bool r29 ∧ cond r29 (CallH P N.juntolaw05_ints [.slice r1A r1n r1c, .slice s3.1.1 s3.1.2.1 s3.1.2.2] H_49 fun v41 H_50 =>
  ∃ r30 : Bool, v41 = .bool r30 ∧ R (.bool r30) H_50) (R (.bool false) H_49)) (R (.bool false) H_46))))))
theorem juntolaw05_DecodeGaps.ok (p : Int) (d : Int) (q_0A : Option Addr) (q_0n q_0c : Nat) (q_1A : Option Addr) (q_1n q_1c : Nat) (H : Heap) (R : Value → Heap → Prop) (h : juntolaw05_DecodeGaps.W p d q_0A q_0n q_0c q_1A q_1n q_1c H R) : CallH P N.juntolaw05_DecodeGaps ([.int .u64 p, .int .i64 d, .agg #[.slice q_0A q_0n q_0c, .slice q_1A q_1n q_1c]] : List Value) H R := by
  have e : juntolaw05_DecodeGaps.W p d q_0A q_0n q_0c q_1A q_1n q_1c H R = sxFn P T Sh.R nf juntolaw05_DecodeGaps.A Try.f20.results.toList (bodyOf Try.f20) (([(.int .u64 p : Value), (.int .i64 d : Value), (.agg #[.slice q_0A q_0n q_0c, .slice q_1A q_1n q_1c] : Value)] : List Value) ++ List.replicate (122 - ([(.int .u64 p : Value), (.int .i64 d : Value), (.agg #[.slice q_0A q_0n q_0c, .slice q_1A q_1n q_1c] : Value)] : List Value).length) undef) H R := by kernel_rfl
  exact call_of_sx fits bodies mixed Try.func20 (c := bodyOf Try.f20) (by kernel_rfl) Try.ntmps20 juntolaw05_DecodeGaps.A (by kernel_rfl) (e.mp h)
end Go.Proofs.Ytlhcaangdenoaaa.Sh
namespace Go.Proofs.Ytlhcaangdenoaaa.Sh
open Go.Sx Go.Lf
def juntolaw05_DecodeGaps.C (p : Nat) (d : Int) (q2 : TSome) (K : Bool → Prop) : Prop :=
  ∀ (Z : Nat → Prop) (H : Heap), ∀ (pv : Int), pv = (p : Int) → ∀ (qA : Option Addr) (qn qc : Nat), qn = q2.Points.length → SlF TPoint.L Z H qA qc q2.Points → ∀ (qA2 : Option Addr) (qn2 qc2 : Nat), qn2 = q2.There.length → SlF boolL Z H qA2 qc2 q2.There → ∀ KK : Value → Heap → Prop,
    (∀ (Z' : Nat → Prop) (H' : Heap), Ext H H' → Old Z H Z' → ∀ (r0 : Bool), K r0 → KK (.bool r0) H') →
    CallH P N.juntolaw05_DecodeGaps [.int .u64 pv, .int .i64 d, .agg #[.slice qA qn qc, .slice qA2 qn2 qc2]] H KK
def juntolaw05_DecodeGaps.Q (p : Nat) (d : Int) (q2 : TSome) (K : Bool → Prop) : Prop :=
  decode_Gaps.C p d q2.Points q2.There (fun (r : (List Nat)) (r2 : (List Int)) (r3 : Int) =>
  juntoref05_Check.C p d q2.Points (fun (x : Int) =>
  cond (x == 0) (cond (((q2.There.length : Nat) : Int) != ((q2.Points.length : Nat) : Int)) (cond (2 != 0) (juntolaw05_told_bad.C (⟨r, r2, r3⟩ : TTold) 2 (fun (x2 : Bool) =>
  cond x2 (juntolaw05_alive.C (fun (x3 : Bool) =>
  K x3))
   (K false)))
   (juntoref05_There.C q2.Points q2.There (fun (r4 : (List TPoint)) (r5 : (List Int)) =>
  juntoref05_Most.C ((r4.length : Nat) : Int) d (fun (x4 : Int) =>
  cond (decide (x4 < 0)) (juntolaw05_told_bad.C (⟨r, r2, r3⟩ : TTold) 11 (fun (x5 : Bool) =>
  cond x5 (juntolaw05_alive.C (fun (x6 : Bool) =>
  K x6))
   (K false)))
   (juntoref05_Decode.C p d x4 r4 (fun (r6 : (List Nat)) (r7 : Bool) =>
  cond (!r7) (juntolaw05_told_bad.C (⟨r, r2, r3⟩ : TTold) 12 (fun (x7 : Bool) =>
  cond x7 (juntolaw05_alive.C (fun (x8 : Bool) =>
  K x8))
   (K false)))
   (juntoref05_Off.C p r6 r4 (fun (x9 : (List Int)) =>
  LoopQ (τ := List Int × Int) (([] : List Int), 0) fun t nextQ =>
  cond (decide (t.2 < ((x9.length : Nat) : Int))) (0 ≤ t.2 ∧ t.2 < ((x9.length : Nat) : Int) ∧ ∃ x10 : Int, x9[Int.toNat t.2]? = some x10 ∧ 0 ≤ x10 ∧ x10 < ((r5.length : Nat) : Int) ∧ ∃ x11 : Int, r5[Int.toNat x10]? = some x11 ∧ AppOk 8 (t.1 ++ ([x11] : List Int)).length ∧ nextQ ((t.1 ++ ([x11] : List Int)), IntKind.i64.wrap (t.2 + 1)))
   (cond (r3 == 0) (juntoref01_Same.C r r6 (fun (x12 : Bool) =>
  cond x12 (juntolaw05_ints.C r2 t.1 (fun (x13 : Bool) =>
  K x13))
   (K false)))
   (K false))))))))))
   (cond (x != 0) (juntolaw05_told_bad.C (⟨r, r2, r3⟩ : TTold) x (fun (x14 : Bool) =>
  cond x14 (juntolaw05_alive.C (fun (x15 : Bool) =>
  K x15))
   (K false)))
   (juntoref05_There.C q2.Points q2.There (fun (r8 : (List TPoint)) (r9 : (List Int)) =>
  juntoref05_Most.C ((r8.length : Nat) : Int) d (fun (x16 : Int) =>
  cond (decide (x16 < 0)) (juntolaw05_told_bad.C (⟨r, r2, r3⟩ : TTold) 11 (fun (x17 : Bool) =>
  cond x17 (juntolaw05_alive.C (fun (x18 : Bool) =>
  K x18))
   (K false)))
   (juntoref05_Decode.C p d x16 r8 (fun (r10 : (List Nat)) (r11 : Bool) =>
  cond (!r11) (juntolaw05_told_bad.C (⟨r, r2, r3⟩ : TTold) 12 (fun (x19 : Bool) =>
  cond x19 (juntolaw05_alive.C (fun (x20 : Bool) =>
  K x20))
   (K false)))
   (juntoref05_Off.C p r10 r8 (fun (x21 : (List Int)) =>
  LoopQ (τ := List Int × Int) (([] : List Int), 0) fun t2 nextQ2 =>
  cond (decide (t2.2 < ((x21.length : Nat) : Int))) (0 ≤ t2.2 ∧ t2.2 < ((x21.length : Nat) : Int) ∧ ∃ x22 : Int, x21[Int.toNat t2.2]? = some x22 ∧ 0 ≤ x22 ∧ x22 < ((r9.length : Nat) : Int) ∧ ∃ x23 : Int, r9[Int.toNat x22]? = some x23 ∧ AppOk 8 (t2.1 ++ ([x23] : List Int)).length ∧ nextQ2 ((t2.1 ++ ([x23] : List Int)), IntKind.i64.wrap (t2.2 + 1)))
   (cond (r3 == 0) (juntoref01_Same.C r r10 (fun (x24 : Bool) =>
  cond x24 (juntolaw05_ints.C r2 t2.1 (fun (x25 : Bool) =>
  K x25))
   (K false)))
   (K false)))))))))))
   (cond (x != 0) (juntolaw05_told_bad.C (⟨r, r2, r3⟩ : TTold) x (fun (x26 : Bool) =>
  cond x26 (juntolaw05_alive.C (fun (x27 : Bool) =>
  K x27))
   (K false)))
   (juntoref05_There.C q2.Points q2.There (fun (r12 : (List TPoint)) (r13 : (List Int)) =>
  juntoref05_Most.C ((r12.length : Nat) : Int) d (fun (x28 : Int) =>
  cond (decide (x28 < 0)) (juntolaw05_told_bad.C (⟨r, r2, r3⟩ : TTold) 11 (fun (x29 : Bool) =>
  cond x29 (juntolaw05_alive.C (fun (x30 : Bool) =>
  K x30))
   (K false)))
   (juntoref05_Decode.C p d x28 r12 (fun (r14 : (List Nat)) (r15 : Bool) =>
  cond (!r15) (juntolaw05_told_bad.C (⟨r, r2, r3⟩ : TTold) 12 (fun (x31 : Bool) =>
  cond x31 (juntolaw05_alive.C (fun (x32 : Bool) =>
  K x32))
   (K false)))
   (juntoref05_Off.C p r14 r12 (fun (x33 : (List Int)) =>
  LoopQ (τ := List Int × Int) (([] : List Int), 0) fun t3 nextQ3 =>
  cond (decide (t3.2 < ((x33.length : Nat) : Int))) (0 ≤ t3.2 ∧ t3.2 < ((x33.length : Nat) : Int) ∧ ∃ x34 : Int, x33[Int.toNat t3.2]? = some x34 ∧ 0 ≤ x34 ∧ x34 < ((r13.length : Nat) : Int) ∧ ∃ x35 : Int, r13[Int.toNat x34]? = some x35 ∧ AppOk 8 (t3.1 ++ ([x35] : List Int)).length ∧ nextQ3 ((t3.1 ++ ([x35] : List Int)), IntKind.i64.wrap (t3.2 + 1)))
   (cond (r3 == 0) (juntoref01_Same.C r r14 (fun (x36 : Bool) =>
  cond x36 (juntolaw05_ints.C r2 t3.1 (fun (x37 : Bool) =>
  K x37))
   (K false)))
   (K false))))))))))))
theorem juntolaw05_DecodeGaps.q {p : Nat} {d : Int} {q2 : TSome} {K : Bool → Prop} (q : juntolaw05_DecodeGaps.Q p d q2 K) : juntolaw05_DecodeGaps.C p d q2 K := by
  intro Z H pv he qA qn qc hn f qA2 qn2 qc2 hn2 f2 KK hk
  cases he
  cases hn
  cases hn2
  apply juntolaw05_DecodeGaps.ok
  unfold juntolaw05_DecodeGaps.W
  unfold juntolaw05_DecodeGaps.Q at q
  obtain ⟨σ, hz, hσ⟩ := tags Z
  have hs : Stp ([1, 2, 3, 4, 5, 6, 7, 8, 9, 10, 11, 12, 13, 14, 15, 16, 17, 18, 19, 20, 21] : List Nat) σ H σ H := Stp.refl _ _ _
  replace f := f.wide hz
  replace f2 := f2.wide hz
  clear hz
  refine NewH.mk fun H_ e => ?_
  obtain ⟨xσ, st, b⟩ := BoxF.new σ 0 e
  replace f := f.step st
  replace f2 := f2.step st
  replace hs := hs.trans st
  refine ⟨_, _, _, b.cell0, ?_⟩
  refine ⟨_, _, _, b.cell 1 rfl, ?_⟩
  refine q (Zt xσ) H_ _ rfl _ _ _ rfl f _ _ _ rfl f2 _ (fun Z2 H_2 hE hO r Y hY A n c hn3 f3 r2 Y2 hY2 A2 n2 c2 hn4 f4 r3 hY3 q => ?_)
  obtain ⟨xσ2, st2, fz, fy, fy2⟩ := call2 hE hO xσ 1 2 (fun _ h => h) hY hY2 hY3
  replace f3 := f3.keep fz fy
  replace f4 := f4.keep fz fy2
  cases hn3
  cases hn4
  replace f := f.step st2
  replace f2 := f2.step st2
  replace b := b.step st2
  replace hs := hs.trans st2
  refine ⟨_, _, _, _, _, _, _, rfl, ?_⟩
  refine NewH.mk fun H_3 e2 => ?_
  obtain ⟨xσ3, st3, b2⟩ := BoxF.new xσ2 3 e2
  replace f := f.step st3
  replace f2 := f2.step st3
  replace b := b.step st3
  replace f3 := f3.step st3
  replace f4 := f4.step st3
  replace hs := hs.trans st3
  obtain ⟨xσ4, st4, f3⟩ := SlO.freeze f3
  replace f := f.step st4
  replace f2 := f2.step st4
  replace b := b.step st4
  replace f4 := f4.step st4
  replace b2 := b2.step st4
  replace hs := hs.trans st4
  obtain ⟨xσ5, st5, f4⟩ := SlO.freeze f4
  replace f := f.step st5
  replace f2 := f2.step st5
  replace b := b.step st5
  replace f3 := f3.step st5
  replace b2 := b2.step st5
  replace hs := hs.trans st5
  refine ⟨b2.mayN 0 3 (show (3 : Nat) ≤ 3 by decide), NewH.mk fun H_4 e3 => ?_⟩
  obtain ⟨st6, b2⟩ := b2.wroteN 0 (vs := [_, _, _]) (show (3 : Nat) ≤ 3 by decide) e3
  simp only [List.take_zero, List.take_succ_cons, List.drop_zero, List.drop_succ_cons, List.drop_nil, List.length_cons, List.length_nil, List.cons_append, List.nil_append, List.append_nil, Nat.zero_add, Nat.reduceAdd] at b2
  replace f := f.step st6
  replace f2 := f2.step st6
  replace b := b.step st6
  replace f3 := f3.step st6
  replace f4 := f4.step st6
  replace hs := hs.trans st6
  refine ⟨_, _, _, b.cell0, ?_⟩
  refine q (Zt xσ5) H_4 _ rfl _ _ _ rfl f _ (fun Z3 H_5 hE2 hO2 x q => ?_)
  obtain ⟨xσ6, st7⟩ := call0 hE2 xσ5
  replace f := f.step st7
  replace f2 := f2.step st7
  replace b := b.step st7
  replace f3 := f3.step st7
  replace f4 := f4.step st7
  replace b2 := b2.step st7
  replace hs := hs.trans st7
  refine ⟨_, rfl, ?_⟩
  refine condI (fun q => ?_) (fun q => ?_) q
  · refine ⟨_, _, _, b.cell 1 rfl, ?_⟩
    refine ⟨_, _, _, b.cell0, ?_⟩
    refine condI (fun q => ?_) (fun q => ?_) q
    · refine condI (fun q => ?_) (fun q => ?_) q
      · refine ⟨_, _, _, _, _, _, _, b2.cell0, b2.cell 1 rfl, b2.cell 2 rfl, ?_⟩
        refine q (Zt xσ6) H_5 _ _ _ rfl f3 _ _ _ rfl f4 _ (fun Z4 H_6 hE3 hO3 x2 q => ?_)
        obtain ⟨xσ7, st8⟩ := call0 hE3 xσ6
        replace f := f.step st8
        replace f2 := f2.step st8
        replace b := b.step st8
        replace f3 := f3.step st8
        replace f4 := f4.step st8
        replace b2 := b2.step st8
        replace hs := hs.trans st8
        refine ⟨_, rfl, ?_⟩
        refine condI (fun q => ?_) (fun q => ?_) q
        · refine q (Zt xσ7) H_6  _ (fun Z5 H_7 hE4 hO4 x3 q => ?_)
          obtain ⟨xσ8, st9⟩ := call0 hE4 xσ7
          replace f := f.step st9
          replace f2 := f2.step st9
          replace b := b.step st9
          replace f3 := f3.step st9
          replace f4 := f4.step st9
          replace b2 := b2.step st9
          replace hs := hs.trans st9
          refine ⟨_, rfl, ?_⟩
          exact hk (Zt xσ8) _ (hs.ext hσ) (hs.old hσ) _ q
        · exact hk (Zt xσ7) _ (hs.ext hσ) (hs.old hσ) _ q
      · refine ⟨_, _, _, b.cell0, ?_⟩
        refine ⟨_, _, _, b.cell 1 rfl, ?_⟩
        refine q (Zt xσ6) H_5 _ _ _ rfl f _ _ _ rfl f2 _ (fun Z6 H_8 hE5 hO5 r4 Y3 hY4 A3 n3 c3 hn5 f5 r5 Y4 hY5 A4 n4 c4 hn6 f6 hY6 q => ?_)
        obtain ⟨xσ9, st10, fz5, fy3, fy4⟩ := call2 hE5 hO5 xσ6 4 5 (fun _ h => h) hY4 hY5 hY6
        replace f5 := f5.keep fz5 fy3
        replace f6 := f6.keep fz5 fy4
        cases hn5
        cases hn6
        replace f := f.step st10
        replace f2 := f2.step st10
        replace b := b.step st10
        replace f3 := f3.step st10
        replace f4 := f4.step st10
        replace b2 := b2.step st10
        replace hs := hs.trans st10
        refine ⟨_, _, _, _, _, _, rfl, ?_⟩
        refine q (Zt xσ9) H_8  _ (fun Z7 H_9 hE6 hO6 x4 q => ?_)
        obtain ⟨xσ10, st11⟩ := call0 hE6 xσ9
        replace f := f.step st11
        replace f2 := f2.step st11
        replace b := b.step st11
        replace f3 := f3.step st11
        replace f4 := f4.step st11
        replace b2 := b2.step st11
        replace f5 := f5.step st11
        replace f6 := f6.step st11
        replace hs := hs.trans st11
        refine ⟨_, rfl, ?_⟩
        refine condI (fun q => ?_) (fun q => ?_) q
        · refine ⟨_, _, _, _, _, _, _, b2.cell0, b2.cell 1 rfl, b2.cell 2 rfl, ?_⟩
          refine q (Zt xσ10) H_9 _ _ _ rfl f3 _ _ _ rfl f4 _ (fun Z8 H_10 hE7 hO7 x5 q => ?_)
          obtain ⟨xσ11, st12⟩ := call0 hE7 xσ10
          replace f := f.step st12
          replace f2 := f2.step st12
          replace b := b.step st12
          replace f3 := f3.step st12
          replace f4 := f4.step st12
          replace b2 := b2.step st12
          replace f5 := f5.step st12
          replace f6 := f6.step st12
          replace hs := hs.trans st12
          refine ⟨_, rfl, ?_⟩
          refine condI (fun q => ?_) (fun q => ?_) q
          · refine q (Zt xσ11) H_10  _ (fun Z9 H_11 hE8 hO8 x6 q => ?_)
            obtain ⟨xσ12, st13⟩ := call0 hE8 xσ11
            replace f := f.step st13
            replace f2 := f2.step st13
            replace b := b.step st13
            replace f3 := f3.step st13
            replace f4 := f4.step st13
            replace b2 := b2.step st13
            replace f5 := f5.step st13
            replace f6 := f6.step st13
            replace hs := hs.trans st13
            refine ⟨_, rfl, ?_⟩
            exact hk (Zt xσ12) _ (hs.ext hσ) (hs.old hσ) _ q
          · exact hk (Zt xσ11) _ (hs.ext hσ) (hs.old hσ) _ q
        · refine q (fun i => xσ10 i = 0 ∨ xσ10 i = 4) H_9 _ rfl _ _ _ rfl (f5.read (fun i h => .inl h) (fun i h => .inr (h))) _ (fun Z10 H_12 hE9 hO9 r6 Y5 hY7 A5 n5 c5 hn7 f7 r7 q => ?_)
          obtain ⟨xσ13, st14, fy5⟩ := callB1 hE9 hO9 xσ10 6 hY7
          replace f7 := (SlO.anyZ (Z' := Zt xσ13) u64_flatL f7).keep (Fr.refl _ _) fy5
          cases hn7
          replace f := f.step st14
          replace f2 := f2.step st14
          replace b := b.step st14
          replace f3 := f3.step st14
          replace f4 := f4.step st14
          replace b2 := b2.step st14
          replace f5 := f5.step st14
          replace f6 := f6.step st14
          replace hs := hs.trans st14
          refine ⟨_, _, _, _, rfl, ?_⟩
          refine condI (fun q => ?_) (fun q => ?_) q
          · refine ⟨_, _, _, _, _, _, _, b2.cell0, b2.cell 1 rfl, b2.cell 2 rfl, ?_⟩
            refine q (Zt xσ13) H_12 _ _ _ rfl f3 _ _ _ rfl f4 _ (fun Z11 H_13 hE10 hO10 x7 q => ?_)
            obtain ⟨xσ14, st15⟩ := call0 hE10 xσ13
            replace f := f.step st15
            replace f2 := f2.step st15
            replace b := b.step st15
            replace f3 := f3.step st15
            replace f4 := f4.step st15
            replace b2 := b2.step st15
            replace f5 := f5.step st15
            replace f6 := f6.step st15
            replace f7 := f7.step st15
            replace hs := hs.trans st15
            refine ⟨_, rfl, ?_⟩
            refine condI (fun q => ?_) (fun q => ?_) q
            · refine q (Zt xσ14) H_13  _ (fun Z12 H_14 hE11 hO11 x8 q => ?_)
              obtain ⟨xσ15, st16⟩ := call0 hE11 xσ14
              replace f := f.step st16
              replace f2 := f2.step st16
              replace b := b.step st16
              replace f3 := f3.step st16
              replace f4 := f4.step st16
              replace b2 := b2.step st16
              replace f5 := f5.step st16
              replace f6 := f6.step st16
              replace f7 := f7.step st16
              replace hs := hs.trans st16
              refine ⟨_, rfl, ?_⟩
              exact hk (Zt xσ15) _ (hs.ext hσ) (hs.old hσ) _ q
            · exact hk (Zt xσ14) _ (hs.ext hσ) (hs.old hσ) _ q
          · refine q (fun i => xσ13 i = 0 ∨ xσ13 i = 4 ∨ xσ13 i = 6) H_12 _ rfl _ _ _ rfl (f7.read (fun i h => .inl h) (fun i h => .inr (.inr (h)))) _ _ _ rfl (f5.read (fun i h => .inl h) (fun i h => .inr (.inl h))) _ (fun Z13 H_15 hE12 hO12 x9 Y6 hY8 A6 n6 c6 hn8 f8 q => ?_)
            obtain ⟨xσ16, st17, fy6⟩ := callB1 hE12 hO12 xσ13 7 hY8
            replace f8 := (SlO.anyZ (Z' := Zt xσ16) i64_flatL f8).keep (Fr.refl _ _) fy6
            cases hn8
            replace f := f.step st17
            replace f2 := f2.step st17
            replace b := b.step st17
            replace f3 := f3.step st17
            replace f4 := f4.step st17
            replace b2 := b2.step st17
            replace f5 := f5.step st17
            replace f6 := f6.step st17
            replace f7 := f7.step st17
            replace hs := hs.trans st17
            refine ⟨_, _, _, rfl, ?_⟩
            have f9 := SlO.nil (rdM i64L) 3 (Zt xσ16) (Yt xσ16 8) H_15
            refine LoopI.ofQ q (fun t_ s_ hp_ => ∃ (σ_ : Nat → Nat) (A0_ : Option Addr) (n0_ c0_ : Nat), Stp [8, 9] xσ16 H_15 σ_ hp_ ∧ ((A0_, n0_, c0_), t_.2) = s_ ∧ n0_ = t_.1.length ∧ SlO (rdM i64L) 3 (Zt σ_) (Yt σ_ 8) hp_ A0_ c0_ t_.1) (fun h k => h _ _ k) ⟨_, _, _, _, Stp.refl _ _ _, rfl, rfl, f9⟩ ?_
            rintro t _ _ H_16 next nextQ ⟨xσ17, A7, n7, c7, st18, rfl, rfl, f10⟩ q hnext
            try dsimp only at q ⊢
            replace f := f.step st18
            replace f2 := f2.step st18
            replace b := b.step st18
            replace f3 := f3.step st18
            replace f4 := f4.step st18
            replace b2 := b2.step st18
            replace f5 := f5.step st18
            replace f6 := f6.step st18
            replace f7 := f7.step st18
            replace f8 := f8.step st18
            replace hs := hs.trans st18
            have sl0 := st18
            refine condI (fun q => ?_) (fun q => ?_) q
            · obtain ⟨h0, hi2, q⟩ := q
              obtain ⟨a, ha, hi⟩ := f8.addr h0 rfl hi2
              refine ⟨a, ha, hi.1, hi.2, ?_⟩
              obtain ⟨x10, hx, q⟩ := q
              have hc := f8.ldi ha h0 hx
              refine ⟨_, hc.val, ?_⟩
              obtain ⟨h02, hi4, q⟩ := q
              obtain ⟨a2, ha2, hi3⟩ := f6.addr h02 rfl hi4
              refine ⟨a2, ha2, hi3.1, hi3.2, ?_⟩
              obtain ⟨x11, hx2, q⟩ := q
              have hc2 := f6.ldi ha2 h02 hx2
              refine ⟨_, hc2.val, ?_⟩
              refine NewH.mk fun H_17 e4 => ?_
              obtain ⟨xσ18, st19, f11⟩ := SlO.lit (E := i64L) xσ17 9 (xs := [x11]) (l := [[_]]) e4 rfl (.cons rfl .nil) (show (1 : Nat) ≤ 17592186044416 by decide)
              replace f := f.step st19
              replace f2 := f2.step st19
              replace b := b.step st19
              replace f3 := f3.step st19
              replace f4 := f4.step st19
              replace b2 := b2.step st19
              replace f5 := f5.step st19
              replace f6 := f6.step st19
              replace f7 := f7.step st19
              replace f8 := f8.step st19
              replace f10 := f10.step st19
              replace hc := hc.step st19
              replace hc2 := hc2.step st19
              replace hs := hs.trans st19
              replace sl0 := sl0.trans st19
              obtain ⟨xσ20, st21, f11⟩ := SlO.freeze f11
              replace f := f.step st21
              replace f2 := f2.step st21
              replace b := b.step st21
              replace f3 := f3.step st21
              replace f4 := f4.step st21
              replace b2 := b2.step st21
              replace f5 := f5.step st21
              replace f6 := f6.step st21
              replace f7 := f7.step st21
              replace f8 := f8.step st21
              replace f10 := f10.step st21
              replace hc := hc.step st21
              replace hc2 := hc2.step st21
              replace hs := hs.trans st21
              replace sl0 := sl0.trans st21
              obtain ⟨q3, q⟩ := q
              refine SlO.appF f10 f11 rfl rfl q3.l q3.r rfl rfl (fun A8 c8 H_18 xσ19 st20 f10_ => ?_)
              replace f10 := f10_
              replace f := f.step st20
              replace f2 := f2.step st20
              replace b := b.step st20
              replace f3 := f3.step st20
              replace f4 := f4.step st20
              replace b2 := b2.step st20
              replace f5 := f5.step st20
              replace f6 := f6.step st20
              replace f7 := f7.step st20
              replace f8 := f8.step st20
              replace hc := hc.step st20
              replace hc2 := hc2.step st20
              replace f11 := f11.step st20
              replace hs := hs.trans st20
              replace sl0 := sl0.trans st20
              have f12 := f10; clear f10
              exact hnext ((t.1 ++ ([x11] : List Int)), IntKind.i64.wrap (t.2 + 1)) _ _ ⟨_, _, _, _, sl0, rfl, rfl, f12⟩ q
            · refine condI (fun q => ?_) (fun q => ?_) q
              · refine q (fun i => xσ17 i = 0 ∨ xσ17 i = 6) H_16 _ _ _ rfl (f3.wide (fun i h => .inl h)) _ _ _ rfl (f7.read (fun i h => .inl h) (fun i h => .inr (h))) _ (fun Z14 H_19 hE13 hO13 x12 q => ?_)
                obtain ⟨xσ21, st22⟩ := call0 hE13 xσ17
                replace f := f.step st22
                replace f2 := f2.step st22
                replace b := b.step st22
                replace f3 := f3.step st22
                replace f4 := f4.step st22
                replace b2 := b2.step st22
                replace f5 := f5.step st22
                replace f6 := f6.step st22
                replace f7 := f7.step st22
                replace f8 := f8.step st22
                replace f10 := f10.step st22
                replace hs := hs.trans st22
                refine ⟨_, rfl, ?_⟩
                refine condI (fun q => ?_) (fun q => ?_) q
                · refine q (fun i => xσ21 i = 0 ∨ xσ21 i = 8) H_19 _ _ _ rfl (f4.wide (fun i h => .inl h)) _ _ _ rfl (f10.read (fun i h => .inl h) (fun i h => .inr (h))) _ (fun Z15 H_20 hE14 hO14 x13 q => ?_)
                  obtain ⟨xσ22, st23⟩ := call0 hE14 xσ21
                  replace f := f.step st23
                  replace f2 := f2.step st23
                  replace b := b.step st23
                  replace f3 := f3.step st23
                  replace f4 := f4.step st23
                  replace b2 := b2.step st23
                  replace f5 := f5.step st23
                  replace f6 := f6.step st23
                  replace f7 := f7.step st23
                  replace f8 := f8.step st23
                  replace f10 := f10.step st23
                  replace hs := hs.trans st23
                  refine ⟨_, rfl, ?_⟩
                  exact hk (Zt xσ22) _ (hs.ext hσ) (hs.old hσ) _ q
                · exact hk (Zt xσ21) _ (hs.ext hσ) (hs.old hσ) _ q
              · exact hk (Zt xσ17) _ (hs.ext hσ) (hs.old hσ) _ q
    · refine condI (fun q => ?_) (fun q => ?_) q
      · refine ⟨_, _, _, _, _, _, _, b2.cell0, b2.cell 1 rfl, b2.cell 2 rfl, ?_⟩
        refine q (Zt xσ6) H_5 _ _ _ rfl f3 _ _ _ rfl f4 _ (fun Z16 H_21 hE15 hO15 x14 q => ?_)
        obtain ⟨xσ23, st24⟩ := call0 hE15 xσ6
        replace f := f.step st24
        replace f2 := f2.step st24
        replace b := b.step st24
        replace f3 := f3.step st24
        replace f4 := f4.step st24
        replace b2 := b2.step st24
        replace hs := hs.trans st24
        refine ⟨_, rfl, ?_⟩
        refine condI (fun q => ?_) (fun q => ?_) q
        · refine q (Zt xσ23) H_21  _ (fun Z17 H_22 hE16 hO16 x15 q => ?_)
          obtain ⟨xσ24, st25⟩ := call0 hE16 xσ23
          replace f := f.step st25
          replace f2 := f2.step st25
          replace b := b.step st25
          replace f3 := f3.step st25
          replace f4 := f4.step st25
          replace b2 := b2.step st25
          replace hs := hs.trans st25
          refine ⟨_, rfl, ?_⟩
          exact hk (Zt xσ24) _ (hs.ext hσ) (hs.old hσ) _ q
        · exact hk (Zt xσ23) _ (hs.ext hσ) (hs.old hσ) _ q
      · refine ⟨_, _, _, b.cell0, ?_⟩
        refine ⟨_, _, _, b.cell 1 rfl, ?_⟩
        refine q (Zt xσ6) H_5 _ _ _ rfl f _ _ _ rfl f2 _ (fun Z18 H_23 hE17 hO17 r8 Y7 hY9 A9 n8 c9 hn9 f13 r9 Y8 hY10 A10 n9 c10 hn10 f14 hY11 q => ?_)
        obtain ⟨xσ25, st26, fz17, fy7, fy8⟩ := call2 hE17 hO17 xσ6 10 11 (fun _ h => h) hY9 hY10 hY11
        replace f13 := f13.keep fz17 fy7
        replace f14 := f14.keep fz17 fy8
        cases hn9
        cases hn10
        replace f := f.step st26
        replace f2 := f2.step st26
        replace b := b.step st26
        replace f3 := f3.step st26
        replace f4 := f4.step st26
        replace b2 := b2.step st26
        replace hs := hs.trans st26
        refine ⟨_, _, _, _, _, _, rfl, ?_⟩
        refine q (Zt xσ25) H_23  _ (fun Z19 H_24 hE18 hO18 x16 q => ?_)
        obtain ⟨xσ26, st27⟩ := call0 hE18 xσ25
        replace f := f.step st27
        replace f2 := f2.step st27
        replace b := b.step st27
        replace f3 := f3.step st27
        replace f4 := f4.step st27
        replace b2 := b2.step st27
        replace f13 := f13.step st27
        replace f14 := f14.step st27
        replace hs := hs.trans st27
        refine ⟨_, rfl, ?_⟩
        refine condI (fun q => ?_) (fun q => ?_) q
        · refine ⟨_, _, _, _, _, _, _, b2.cell0, b2.cell 1 rfl, b2.cell 2 rfl, ?_⟩
          refine q (Zt xσ26) H_24 _ _ _ rfl f3 _ _ _ rfl f4 _ (fun Z20 H_25 hE19 hO19 x17 q => ?_)
          obtain ⟨xσ27, st28⟩ := call0 hE19 xσ26
          replace f := f.step st28
          replace f2 := f2.step st28
          replace b := b.step st28
          replace f3 := f3.step st28
          replace f4 := f4.step st28
          replace b2 := b2.step st28
          replace f13 := f13.step st28
          replace f14 := f14.step st28
          replace hs := hs.trans st28
          refine ⟨_, rfl, ?_⟩
          refine condI (fun q => ?_) (fun q => ?_) q
          · refine q (Zt xσ27) H_25  _ (fun Z21 H_26 hE20 hO20 x18 q => ?_)
            obtain ⟨xσ28, st29⟩ := call0 hE20 xσ27
            replace f := f.step st29
            replace f2 := f2.step st29
            replace b := b.step st29
            replace f3 := f3.step st29
            replace f4 := f4.step st29
            replace b2 := b2.step st29
            replace f13 := f13.step st29
            replace f14 := f14.step st29
            replace hs := hs.trans st29
            refine ⟨_, rfl, ?_⟩
            exact hk (Zt xσ28) _ (hs.ext hσ) (hs.old hσ) _ q
          · exact hk (Zt xσ27) _ (hs.ext hσ) (hs.old hσ) _ q
        · refine q (fun i => xσ26 i = 0 ∨ xσ26 i = 10) H_24 _ rfl _ _ _ rfl (f13.read (fun i h => .inl h) (fun i h => .inr (h))) _ (fun Z22 H_27 hE21 hO21 r10 Y9 hY12 A11 n10 c11 hn11 f15 r11 q => ?_)
          obtain ⟨xσ29, st30, fy9⟩ := callB1 hE21 hO21 xσ26 12 hY12
          replace f15 := (SlO.anyZ (Z' := Zt xσ29) u64_flatL f15).keep (Fr.refl _ _) fy9
          cases hn11
          replace f := f.step st30
          replace f2 := f2.step st30
          replace b := b.step st30
          replace f3 := f3.step st30
          replace f4 := f4.step st30
          replace b2 := b2.step st30
          replace f13 := f13.step st30
          replace f14 := f14.step st30
          replace hs := hs.trans st30
          refine ⟨_, _, _, _, rfl, ?_⟩
          refine condI (fun q => ?_) (fun q => ?_) q
          · refine ⟨_, _, _, _, _, _, _, b2.cell0, b2.cell 1 rfl, b2.cell 2 rfl, ?_⟩
            refine q (Zt xσ29) H_27 _ _ _ rfl f3 _ _ _ rfl f4 _ (fun Z23 H_28 hE22 hO22 x19 q => ?_)
            obtain ⟨xσ30, st31⟩ := call0 hE22 xσ29
            replace f := f.step st31
            replace f2 := f2.step st31
            replace b := b.step st31
            replace f3 := f3.step st31
            replace f4 := f4.step st31
            replace b2 := b2.step st31
            replace f13 := f13.step st31
            replace f14 := f14.step st31
            replace f15 := f15.step st31
            replace hs := hs.trans st31
            refine ⟨_, rfl, ?_⟩
            refine condI (fun q => ?_) (fun q => ?_) q
            · refine q (Zt xσ30) H_28  _ (fun Z24 H_29 hE23 hO23 x20 q => ?_)
              obtain ⟨xσ31, st32⟩ := call0 hE23 xσ30
              replace f := f.step st32
              replace f2 := f2.step st32
              replace b := b.step st32
              replace f3 := f3.step st32
              replace f4 := f4.step st32
              replace b2 := b2.step st32
              replace f13 := f13.step st32
              replace f14 := f14.step st32
              replace f15 := f15.step st32
              replace hs := hs.trans st32
              refine ⟨_, rfl, ?_⟩
              exact hk (Zt xσ31) _ (hs.ext hσ) (hs.old hσ) _ q
            · exact hk (Zt xσ30) _ (hs.ext hσ) (hs.old hσ) _ q
          · refine q (fun i => xσ29 i = 0 ∨ xσ29 i = 10 ∨ xσ29 i = 12) H_27 _ rfl _ _ _ rfl (f15.read (fun i h => .inl h) (fun i h => .inr (.inr (h)))) _ _ _ rfl (f13.read (fun i h => .inl h) (fun i h => .inr (.inl h))) _ (fun Z25 H_30 hE24 hO24 x21 Y10 hY13 A12 n11 c12 hn12 f16 q => ?_)
            obtain ⟨xσ32, st33, fy10⟩ := callB1 hE24 hO24 xσ29 13 hY13
            replace f16 := (SlO.anyZ (Z' := Zt xσ32) i64_flatL f16).keep (Fr.refl _ _) fy10
            cases hn12
            replace f := f.step st33
            replace f2 := f2.step st33
            replace b := b.step st33
            replace f3 := f3.step st33
            replace f4 := f4.step st33
            replace b2 := b2.step st33
            replace f13 := f13.step st33
            replace f14 := f14.step st33
            replace f15 := f15.step st33
            replace hs := hs.trans st33
            refine ⟨_, _, _, rfl, ?_⟩
            have f17 := SlO.nil (rdM i64L) 3 (Zt xσ32) (Yt xσ32 14) H_30
            refine LoopI.ofQ q (fun t_ s_ hp_ => ∃ (σ_ : Nat → Nat) (A0_ : Option Addr) (n0_ c0_ : Nat), Stp [14, 15] xσ32 H_30 σ_ hp_ ∧ ((A0_, n0_, c0_), t_.2) = s_ ∧ n0_ = t_.1.length ∧ SlO (rdM i64L) 3 (Zt σ_) (Yt σ_ 14) hp_ A0_ c0_ t_.1) (fun h k => h _ _ k) ⟨_, _, _, _, Stp.refl _ _ _, rfl, rfl, f17⟩ ?_
            rintro t2 _ _ H_31 next2 nextQ2 ⟨xσ33, A13, n12, c13, st34, rfl, rfl, f18⟩ q hnext2
            try dsimp only at q ⊢
            replace f := f.step st34
            replace f2 := f2.step st34
            replace b := b.step st34
            replace f3 := f3.step st34
            replace f4 := f4.step st34
            replace b2 := b2.step st34
            replace f13 := f13.step st34
            replace f14 := f14.step st34
            replace f15 := f15.step st34
            replace f16 := f16.step st34
            replace hs := hs.trans st34
            have sl1 := st34
            refine condI (fun q => ?_) (fun q => ?_) q
            · obtain ⟨h03, hi6, q⟩ := q
              obtain ⟨a3, ha3, hi5⟩ := f16.addr h03 rfl hi6
              refine ⟨a3, ha3, hi5.1, hi5.2, ?_⟩
              obtain ⟨x22, hx3, q⟩ := q
              have hc3 := f16.ldi ha3 h03 hx3
              refine ⟨_, hc3.val, ?_⟩
              obtain ⟨h04, hi8, q⟩ := q
              obtain ⟨a4, ha4, hi7⟩ := f14.addr h04 rfl hi8
              refine ⟨a4, ha4, hi7.1, hi7.2, ?_⟩
              obtain ⟨x23, hx4, q⟩ := q
              have hc4 := f14.ldi ha4 h04 hx4
              refine ⟨_, hc4.val, ?_⟩
              refine NewH.mk fun H_32 e5 => ?_
              obtain ⟨xσ34, st35, f19⟩ := SlO.lit (E := i64L) xσ33 15 (xs := [x23]) (l := [[_]]) e5 rfl (.cons rfl .nil) (show (1 : Nat) ≤ 17592186044416 by decide)
              replace f := f.step st35
              replace f2 := f2.step st35
              replace b := b.step st35
              replace f3 := f3.step st35
              replace f4 := f4.step st35
              replace b2 := b2.step st35
              replace f13 := f13.step st35
              replace f14 := f14.step st35
              replace f15 := f15.step st35
              replace f16 := f16.step st35
              replace f18 := f18.step st35
              replace hc3 := hc3.step st35
              replace hc4 := hc4.step st35
              replace hs := hs.trans st35
              replace sl1 := sl1.trans st35
              obtain ⟨xσ36, st37, f19⟩ := SlO.freeze f19
              replace f := f.step st37
              replace f2 := f2.step st37
              replace b := b.step st37
              replace f3 := f3.step st37
              replace f4 := f4.step st37
              replace b2 := b2.step st37
              replace f13 := f13.step st37
              replace f14 := f14.step st37
              replace f15 := f15.step st37
              replace f16 := f16.step st37
              replace f18 := f18.step st37
              replace hc3 := hc3.step st37
              replace hc4 := hc4.step st37
              replace hs := hs.trans st37
              replace sl1 := sl1.trans st37
              obtain ⟨q4, q⟩ := q
              refine SlO.appF f18 f19 rfl rfl q4.l q4.r rfl rfl (fun A14 c14 H_33 xσ35 st36 f18_ => ?_)
              replace f18 := f18_
              replace f := f.step st36
              replace f2 := f2.step st36
              replace b := b.step st36
              replace f3 := f3.step st36
              replace f4 := f4.step st36
              replace b2 := b2.step st36
              replace f13 := f13.step st36
              replace f14 := f14.step st36
              replace f15 := f15.step st36
              replace f16 := f16.step st36
              replace hc3 := hc3.step st36
              replace hc4 := hc4.step st36
              replace f19 := f19.step st36
              replace hs := hs.trans st36
              replace sl1 := sl1.trans st36
              have f20 := f18; clear f18
              exact hnext2 ((t2.1 ++ ([x23] : List Int)), IntKind.i64.wrap (t2.2 + 1)) _ _ ⟨_, _, _, _, sl1, rfl, rfl, f20⟩ q
            · refine condI (fun q => ?_) (fun q => ?_) q
              · refine q (fun i => xσ33 i = 0 ∨ xσ33 i = 12) H_31 _ _ _ rfl (f3.wide (fun i h => .inl h)) _ _ _ rfl (f15.read (fun i h => .inl h) (fun i h => .inr (h))) _ (fun Z26 H_34 hE25 hO25 x24 q => ?_)
                obtain ⟨xσ37, st38⟩ := call0 hE25 xσ33
                replace f := f.step st38
                replace f2 := f2.step st38
                replace b := b.step st38
                replace f3 := f3.step st38
                replace f4 := f4.step st38
                replace b2 := b2.step st38
                replace f13 := f13.step st38
                replace f14 := f14.step st38
                replace f15 := f15.step st38
                replace f16 := f16.step st38
                replace f18 := f18.step st38
                replace hs := hs.trans st38
                refine ⟨_, rfl, ?_⟩
                refine condI (fun q => ?_) (fun q => ?_) q
                · refine q (fun i => xσ37 i = 0 ∨ xσ37 i = 14) H_34 _ _ _ rfl (f4.wide (fun i h => .inl h)) _ _ _ rfl (f18.read (fun i h => .inl h) (fun i h => .inr (h))) _ (fun Z27 H_35 hE26 hO26 x25 q => ?_)
                  obtain ⟨xσ38, st39⟩ := call0 hE26 xσ37
                  replace f := f.step st39
                  replace f2 := f2.step st39
                  replace b := b.step st39
                  replace f3 := f3.step st39
                  replace f4 := f4.step st39
                  replace b2 := b2.step st39
                  replace f13 := f13.step st39
                  replace f14 := f14.step st39
                  replace f15 := f15.step st39
                  replace f16 := f16.step st39
                  replace f18 := f18.step st39
                  replace hs := hs.trans st39
                  refine ⟨_, rfl, ?_⟩
                  exact hk (Zt xσ38) _ (hs.ext hσ) (hs.old hσ) _ q
                · exact hk (Zt xσ37) _ (hs.ext hσ) (hs.old hσ) _ q
              · exact hk (Zt xσ33) _ (hs.ext hσ) (hs.old hσ) _ q
  · refine condI (fun q => ?_) (fun q => ?_) q
    · refine ⟨_, _, _, _, _, _, _, b2.cell0, b2.cell 1 rfl, b2.cell 2 rfl, ?_⟩
      refine q (Zt xσ6) H_5 _ _ _ rfl f3 _ _ _ rfl f4 _ (fun Z28 H_36 hE27 hO27 x26 q => ?_)
      obtain ⟨xσ39, st40⟩ := call0 hE27 xσ6
      replace f := f.step st40
      replace f2 := f2.step st40
      replace b := b.step st40
      replace f3 := f3.step st40
      replace f4 := f4.step st40
      replace b2 := b2.step st40
      replace hs := hs.trans st40
      refine ⟨_, rfl, ?_⟩
      refine condI (fun q => ?_) (fun q => ?_) q
      · refine q (Zt xσ39) H_36  _ (fun Z29 H_37 hE28 hO28 x27 q => ?_)
        obtain ⟨xσ40, st41⟩ := call0 hE28 xσ39
        replace f := f.step st41
        replace f2 := f2.step st41
        replace b := b.step st41
        replace f3 := f3.step st41
        replace f4 := f4.step st41
        replace b2 := b2.step st41
        replace hs := hs.trans st41
        refine ⟨_, rfl, ?_⟩
        exact hk (Zt xσ40) _ (hs.ext hσ) (hs.old hσ) _ q
      · exact hk (Zt xσ39) _ (hs.ext hσ) (hs.old hσ) _ q
    · refine ⟨_, _, _, b.cell0, ?_⟩
      refine ⟨_, _, _, b.cell 1 rfl, ?_⟩
      refine q (Zt xσ6) H_5 _ _ _ rfl f _ _ _ rfl f2 _ (fun Z30 H_38 hE29 hO29 r12 Y11 hY14 A15 n13 c15 hn13 f21 r13 Y12 hY15 A16 n14 c16 hn14 f22 hY16 q => ?_)
      obtain ⟨xσ41, st42, fz29, fy11, fy12⟩ := call2 hE29 hO29 xσ6 16 17 (fun _ h => h) hY14 hY15 hY16
      replace f21 := f21.keep fz29 fy11
      replace f22 := f22.keep fz29 fy12
      cases hn13
      cases hn14
      replace f := f.step st42
      replace f2 := f2.step st42
      replace b := b.step st42
      replace f3 := f3.step st42
      replace f4 := f4.step st42
      replace b2 := b2.step st42
      replace hs := hs.trans st42
      refine ⟨_, _, _, _, _, _, rfl, ?_⟩
      refine q (Zt xσ41) H_38  _ (fun Z31 H_39 hE30 hO30 x28 q => ?_)
      obtain ⟨xσ42, st43⟩ := call0 hE30 xσ41
      replace f := f.step st43
      replace f2 := f2.step st43
      replace b := b.step st43
      replace f3 := f3.step st43
      replace f4 := f4.step st43
      replace b2 := b2.step st43
      replace f21 := f21.step st43
      replace f22 := f22.step st43
      replace hs := hs.trans st43
      refine ⟨_, rfl, ?_⟩
      refine condI (fun q => ?_) (fun q => ?_) q
      · refine ⟨_, _, _, _, _, _, _, b2.cell0, b2.cell 1 rfl, b2.cell 2 rfl, ?_⟩
        refine q (Zt xσ42) H_39 _ _ _ rfl f3 _ _ _ rfl f4 _ (fun Z32 H_40 hE31 hO31 x29 q => ?_)
        obtain ⟨xσ43, st44⟩ := call0 hE31 xσ42
        replace f := f.step st44
        replace f2 := f2.step st44
        replace b := b.step st44
        replace f3 := f3.step st44
        replace f4 := f4.step st44
        replace b2 := b2.step st44
        replace f21 := f21.step st44
        replace f22 := f22.step st44
        replace hs := hs.trans st44
        refine ⟨_, rfl, ?_⟩
        refine condI (fun q => ?_) (fun q => ?_) q
        · refine q (Zt xσ43) H_40  _ (fun Z33 H_41 hE32 hO32 x30 q => ?_)
          obtain ⟨xσ44, st45⟩ := call0 hE32 xσ43
          replace f := f.step st45
          replace f2 := f2.step st45
          replace b := b.step st45
          replace f3 := f3.step st45
          replace f4 := f4.step st45
          replace b2 := b2.step st45
          replace f21 := f21.step st45
          replace f22 := f22.step st45
          replace hs := hs.trans st45
          refine ⟨_, rfl, ?_⟩
          exact hk (Zt xσ44) _ (hs.ext hσ) (hs.old hσ) _ q
        · exact hk (Zt xσ43) _ (hs.ext hσ) (hs.old hσ) _ q
      · refine q (fun i => xσ42 i = 0 ∨ xσ42 i = 16) H_39 _ rfl _ _ _ rfl (f21.read (fun i h => .inl h) (fun i h => .inr (h))) _ (fun Z34 H_42 hE33 hO33 r14 Y13 hY17 A17 n15 c17 hn15 f23 r15 q => ?_)
        obtain ⟨xσ45, st46, fy13⟩ := callB1 hE33 hO33 xσ42 18 hY17
        replace f23 := (SlO.anyZ (Z' := Zt xσ45) u64_flatL f23).keep (Fr.refl _ _) fy13
        cases hn15
        replace f := f.step st46
        replace f2 := f2.step st46
        replace b := b.step st46
        replace f3 := f3.step st46
        replace f4 := f4.step st46
        replace b2 := b2.step st46
        replace f21 := f21.step st46
        replace f22 := f22.step st46
        replace hs := hs.trans st46
        refine ⟨_, _, _, _, rfl, ?_⟩
        refine condI (fun q => ?_) (fun q => ?_) q
        · refine ⟨_, _, _, _, _, _, _, b2.cell0, b2.cell 1 rfl, b2.cell 2 rfl, ?_⟩
          refine q (Zt xσ45) H_42 _ _ _ rfl f3 _ _ _ rfl f4 _ (fun Z35 H_43 hE34 hO34 x31 q => ?_)
          obtain ⟨xσ46, st47⟩ := call0 hE34 xσ45
          replace f := f.step st47
          replace f2 := f2.step st47
          replace b := b.step st47
          replace f3 := f3.step st47
          replace f4 := f4.step st47
          replace b2 := b2.step st47
          replace f21 := f21.step st47
          replace f22 := f22.step st47
          replace f23 := f23.step st47
          replace hs := hs.trans st47
          refine ⟨_, rfl, ?_⟩
          refine condI (fun q => ?_) (fun q => ?_) q
          · refine q (Zt xσ46) H_43  _ (fun Z36 H_44 hE35 hO35 x32 q => ?_)
            obtain ⟨xσ47, st48⟩ := call0 hE35 xσ46
            replace f := f.step st48
            replace f2 := f2.step st48
            replace b := b.step st48
            replace f3 := f3.step st48
            replace f4 := f4.step st48
            replace b2 := b2.step st48
            replace f21 := f21.step st48
            replace f22 := f22.step st48
            replace f23 := f23.step st48
            replace hs := hs.trans st48
            refine ⟨_, rfl, ?_⟩
            exact hk (Zt xσ47) _ (hs.ext hσ) (hs.old hσ) _ q
          · exact hk (Zt xσ46) _ (hs.ext hσ) (hs.old hσ) _ q
        · refine q (fun i => xσ45 i = 0 ∨ xσ45 i = 16 ∨ xσ45 i = 18) H_42 _ rfl _ _ _ rfl (f23.read (fun i h => .inl h) (fun i h => .inr (.inr (h)))) _ _ _ rfl (f21.read (fun i h => .inl h) (fun i h => .inr (.inl h))) _ (fun Z37 H_45 hE36 hO36 x33 Y14 hY18 A18 n16 c18 hn16 f24 q => ?_)
          obtain ⟨xσ48, st49, fy14⟩ := callB1 hE36 hO36 xσ45 19 hY18
          replace f24 := (SlO.anyZ (Z' := Zt xσ48) i64_flatL f24).keep (Fr.refl _ _) fy14
          cases hn16
          replace f := f.step st49
          replace f2 := f2.step st49
          replace b := b.step st49
          replace f3 := f3.step st49
          replace f4 := f4.step st49
          replace b2 := b2.step st49
          replace f21 := f21.step st49
          replace f22 := f22.step st49
          replace f23 := f23.step st49
          replace hs := hs.trans st49
          refine ⟨_, _, _, rfl, ?_⟩
          have f25 := SlO.nil (rdM i64L) 3 (Zt xσ48) (Yt xσ48 20) H_45
          refine LoopI.ofQ q (fun t_ s_ hp_ => ∃ (σ_ : Nat → Nat) (A0_ : Option Addr) (n0_ c0_ : Nat), Stp [20, 21] xσ48 H_45 σ_ hp_ ∧ ((A0_, n0_, c0_), t_.2) = s_ ∧ n0_ = t_.1.length ∧ SlO (rdM i64L) 3 (Zt σ_) (Yt σ_ 20) hp_ A0_ c0_ t_.1) (fun h k => h _ _ k) ⟨_, _, _, _, Stp.refl _ _ _, rfl, rfl, f25⟩ ?_
          rintro t3 _ _ H_46 next3 nextQ3 ⟨xσ49, A19, n17, c19, st50, rfl, rfl, f26⟩ q hnext3
          try dsimp only at q ⊢
          replace f := f.step st50
          replace f2 := f2.step st50
          replace b := b.step st50
          replace f3 := f3.step st50
          replace f4 := f4.step st50
          replace b2 := b2.step st50
          replace f21 := f21.step st50
          replace f22 := f22.step st50
          replace f23 := f23.step st50
          replace f24 := f24.step st50
          replace hs := hs.trans st50
          have sl2 := st50
          refine condI (fun q => ?_) (fun q => ?_) q
          · obtain ⟨h05, hi10, q⟩ := q
            obtain ⟨a5, ha5, hi9⟩ := f24.addr h05 rfl hi10
            refine ⟨a5, ha5, hi9.1, hi9.2, ?_⟩
            obtain ⟨x34, hx5, q⟩ := q
            have hc5 := f24.ldi ha5 h05 hx5
            refine ⟨_, hc5.val, ?_⟩
            obtain ⟨h06, hi12, q⟩ := q
            obtain ⟨a6, ha6, hi11⟩ := f22.addr h06 rfl hi12
            refine ⟨a6, ha6, hi11.1, hi11.2, ?_⟩
            obtain ⟨x35, hx6, q⟩ := q
            have hc6 := f22.ldi ha6 h06 hx6
            refine ⟨_, hc6.val, ?_⟩
            refine NewH.mk fun H_47 e6 => ?_
            obtain ⟨xσ50, st51, f27⟩ := SlO.lit (E := i64L) xσ49 21 (xs := [x35]) (l := [[_]]) e6 rfl (.cons rfl .nil) (show (1 : Nat) ≤ 17592186044416 by decide)
            replace f := f.step st51
            replace f2 := f2.step st51
            replace b := b.step st51
            replace f3 := f3.step st51
            replace f4 := f4.step st51
            replace b2 := b2.step st51
            replace f21 := f21.step st51
            replace f22 := f22.step st51
            replace f23 := f23.step st51
            replace f24 := f24.step st51
            replace f26 := f26.step st51
            replace hc5 := hc5.step st51
            replace hc6 := hc6.step st51
            replace hs := hs.trans st51
            replace sl2 := sl2.trans st51
            obtain ⟨xσ52, st53, f27⟩ := SlO.freeze f27
            replace f := f.step st53
            replace f2 := f2.step st53
            replace b := b.step st53
            replace f3 := f3.step st53
            replace f4 := f4.step st53
            replace b2 := b2.step st53
            replace f21 := f21.step st53
            replace f22 := f22.step st53
            replace f23 := f23.step st53
            replace f24 := f24.step st53
            replace f26 := f26.step st53
            replace hc5 := hc5.step st53
            replace hc6 := hc6.step st53
            replace hs := hs.trans st53
            replace sl2 := sl2.trans st53
            obtain ⟨q5, q⟩ := q
            refine SlO.appF f26 f27 rfl rfl q5.l q5.r rfl rfl (fun A20 c20 H_48 xσ51 st52 f26_ => ?_)
            replace f26 := f26_
            replace f := f.step st52
            replace f2 := f2.step st52
            replace b := b.step st52
            replace f3 := f3.step st52
            replace f4 := f4.step st52
            replace b2 := b2.step st52
            replace f21 := f21.step st52
            replace f22 := f22.step st52
            replace f23 := f23.step st52
            replace f24 := f24.step st52
            replace hc5 := hc5.step st52
            replace hc6 := hc6.step st52
            replace f27 := f27.step st52
            replace hs := hs.trans st52
            replace sl2 := sl2.trans st52
            have f28 := f26; clear f26
            exact hnext3 ((t3.1 ++ ([x35] : List Int)), IntKind.i64.wrap (t3.2 + 1)) _ _ ⟨_, _, _, _, sl2, rfl, rfl, f28⟩ q
          · refine condI (fun q => ?_) (fun q => ?_) q
            · refine q (fun i => xσ49 i = 0 ∨ xσ49 i = 18) H_46 _ _ _ rfl (f3.wide (fun i h => .inl h)) _ _ _ rfl (f23.read (fun i h => .inl h) (fun i h => .inr (h))) _ (fun Z38 H_49 hE37 hO37 x36 q => ?_)
              obtain ⟨xσ53, st54⟩ := call0 hE37 xσ49
              replace f := f.step st54
              replace f2 := f2.step st54
              replace b := b.step st54
              replace f3 := f3.step st54
              replace f4 := f4.step st54
              replace b2 := b2.step st54
              replace f21 := f21.step st54
              replace f22 := f22.step st54
              replace f23 := f23.step st54
              replace f24 := f24.step st54
              replace f26 := f26.step st54
              replace hs := hs.trans st54
              refine ⟨_, rfl, ?_⟩
              refine condI (fun q => ?_) (fun q => ?_) q
              · refine q (fun i => xσ53 i = 0 ∨ xσ53 i = 20) H_49 _ _ _ rfl (f4.wide (fun i h => .inl h)) _ _ _ rfl (f26.read (fun i h => .inl h) (fun i h => .inr (h))) _ (fun Z39 H_50 hE38 hO38 x37 q => ?_)
                obtain ⟨xσ54, st55⟩ := call0 hE38 xσ53
                replace f := f.step st55
                replace f2 := f2.step st55
                replace b := b.step st55
                replace f3 := f3.step st55
                replace f4 := f4.step st55
                replace b2 := b2.step st55
                replace f21 := f21.step st55
                replace f22 := f22.step st55
                replace f23 := f23.step st55
                replace f24 := f24.step st55
                replace f26 := f26.step st55
                replace hs := hs.trans st55
                refine ⟨_, rfl, ?_⟩
                exact hk (Zt xσ54) _ (hs.ext hσ) (hs.old hσ) _ q
              · exact hk (Zt xσ53) _ (hs.ext hσ) (hs.old hσ) _ q
            · exact hk (Zt xσ49) _ (hs.ext hσ) (hs.old hσ) _ q
end Go.Proofs.Ytlhcaangdenoaaa.Sh
