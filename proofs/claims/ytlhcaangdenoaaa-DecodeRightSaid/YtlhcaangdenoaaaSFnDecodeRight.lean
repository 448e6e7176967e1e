import Derived.Test.YtlhcaangdenoaaaSTypes
import Derived.Test.YtlhcaangdenoaaaSFnDecode
import Derived.Test.YtlhcaangdenoaaaSFnJuntolaw05
import Derived.Test.YtlhcaangdenoaaaSFnJuntoref01
import Derived.Test.YtlhcaangdenoaaaSFnJuntoref02
import Derived.Test.YtlhcaangdenoaaaSFnJuntoref05
namespace Go.Lf
end Go.Lf
namespace Go.Sx
end Go.Sx
set_option linter.unusedVariables false
set_option linter.unusedSimpArgs false
set_option maxRecDepth 100000
namespace Go.Proofs.Ytlhcaangdenoaaa.Sh
open Go.Sx
def juntolaw05_DecodeRight.A : Ann where
  loops := fun i => match i with
    | 20488 => [(7, .slice), (91, .int .i64)]
    | 40975 => [(109, .int .i64)]
    | _ => []
  plans := fun i => match i with
    | 1 => .first 0 (.alt 1 [] (.first 2 (.first 3 (.first 4 (.first 5 (.first 6 (.first 7 (.first 8 (.first 9 (.first 10 (.first 11 (.first 12 (.read 13 (.first 14 (.first 15 (.first 16 (.first 17 (.first 18 (.first 19 (.read 20 (.alt 21 [13, 20] (.first 22 (.first 23 (.first 24 (.first 25 (.read 26 (.alt 27 [26] (.first 28 (.first 29 (.first 30 (.first 31 (.read 32 (.alt 33 [32] (.first 34 (.first 35 (.first 36 (.first 37 (.first 41 (.first 42 (.read 38 (.alt 39 [38] (.first 40 (.first 43 (.first 44 (.first 45 (.first 46 (.first 47 (.read 48 (.alt 49 [48] (.first 50 (.first 51 (.first 52 (.first 53 (.first 56 (.read 54 (.first 55 (.read 57 (.first 58 (.first 59 (.first 60 (.first 61 (.first 62 (.first 65 (.first 68 (.read 63 (.first 64 (.read 66 (.first 67 (.alt 69 [54, 57, 66] (.first 70 (.first 71 (.done))) (.stop))))))))))))))))))))) (.stop))))))))) (.stop))))))))) (.stop))))))) (.stop))))))) (.stop))))))))))))))))))))) (.stop))
    | _ => .stop
def juntolaw05_DecodeRight.W (p : Int) (d : Int) (q_0A : Option Addr) (q_0n q_0c : Nat) (q_1A : Option Addr) (q_1n q_1c : Nat) (q_2A : Option Addr) (q_2n q_2c : Nat) (q_3A : Option Addr) (q_3n q_3c : Nat) (H : Heap) (R : Value → Heap → Prop) : Prop :=
  NewH (H.push (.cells #[.slice q_0A q_0n q_0c, .slice q_1A q_1n q_1c, .slice q_2A q_2n q_2c, .slice q_3A q_3n q_3c] 99 (0, 0))) fun H_ =>
  CallH P N.juntoref01_Is [.int .u64 p] H_ fun v H_2 =>
  ∃ r : Bool, v = .bool r ∧ cond (!r) (CallH P N.juntolaw05_alive [] H_2 fun v2 H_3 =>
  ∃ r2 : Bool, v2 = .bool r2 ∧ R (.bool r2) H_3) (cond (decide (d < 0)) (CallH P N.juntolaw05_alive [] H_2 fun v3 H_4 =>
  ∃ r3 : Bool, v3 = .bool r3 ∧ R (.bool r3) H_4) (cond (decide (d > 63)) (CallH P N.juntolaw05_alive [] H_2 fun v4 H_5 =>
  ∃ r4 : Bool, v4 = .bool r4 ∧ R (.bool r4) H_5) (∃ (xA : Option Addr) (xn xc : Nat), cellH H_2 (((Addr.mk H.size 0 none)).add 1) = some (.slice xA xn xc) ∧ cond (decide (((xn : Nat) : Int) > 64)) (CallH P N.juntolaw05_alive [] H_2 fun v5 H_6 =>
  ∃ r5 : Bool, v5 = .bool r5 ∧ R (.bool r5) H_6) (∃ (xA2 : Option Addr) (xn2 xc2 : Nat), cellH H_2 (((Addr.mk H.size 0 none)).add 1) = some (.slice xA2 xn2 xc2) ∧ CallH P N.juntoref01_Within [.int .u64 p, .slice xA2 xn2 xc2] H_2 fun v6 H_7 =>
  ∃ r6 : Int, v6 = .int .i64 r6 ∧ cond (r6 != 0) (CallH P N.juntolaw05_alive [] H_7 fun v7 H_8 =>
  ∃ r7 : Bool, v7 = .bool r7 ∧ R (.bool r7) H_8) (∃ (xA3 : Option Addr) (xn3 xc3 : Nat), cellH H_7 (((Addr.mk H.size 0 none)).add 1) = some (.slice xA3 xn3 xc3) ∧ CallH P N.juntoref02_Twice [.slice xA3 xn3 xc3] H_7 fun v8 H_9 =>
  ∃ r8 : Bool, v8 = .bool r8 ∧ cond r8 (CallH P N.juntolaw05_alive [] H_9 fun v9 H_10 =>
  ∃ r9 : Bool, v9 = .bool r9 ∧ R (.bool r9) H_10) (∃ (xA4 : Option Addr) (xn4 xc4 : Nat), cellH H_9 (Addr.mk H.size 0 none) = some (.slice xA4 xn4 xc4) ∧ CallH P N.juntoref01_Within [.int .u64 p, .slice xA4 xn4 xc4] H_9 fun v10 H_11 =>
  ∃ r10 : Int, v10 = .int .i64 r10 ∧ cond (r10 != 0) (CallH P N.juntolaw05_alive [] H_11 fun v11 H_12 =>
  ∃ r11 : Bool, v11 = .bool r11 ∧ R (.bool r11) H_12) (∃ (xA5 : Option Addr) (xn5 xc5 : Nat), cellH H_11 (Addr.mk H.size 0 none) = some (.slice xA5 xn5 xc5) ∧ CallH P N.juntoref02_Trim [.slice xA5 xn5 xc5] H_11 fun v12 H_13 =>
  ∃ (rA : Option Addr) (rn rc : Nat), v12 = .slice rA rn rc ∧ cond (decide (((rn : Nat) : Int) > (IntKind.i64.wrap (d + 1)))) (CallH P N.juntolaw05_alive [] H_13 fun v13 H_14 =>
  ∃ r12 : Bool, v13 = .bool r12 ∧ R (.bool r12) H_14) (∃ (xA6 : Option Addr) (xn6 xc6 : Nat), cellH H_13 (((Addr.mk H.size 0 none)).add 3) = some (.slice xA6 xn6 xc6) ∧ CallH P N.juntoref01_Within [.int .u64 p, .slice xA6 xn6 xc6] H_13 fun v14 H_15 =>
  ∃ r13 : Int, v14 = .int .i64 r13 ∧ cond (r13 != 0) (CallH P N.juntolaw05_alive [] H_15 fun v15 H_16 =>
  ∃ r14 : Bool, v15 = .bool r14 ∧ R (.bool r14) H_16) (∃ (xA7 : Option Addr) (xn7 xc7 : Nat), cellH H_15 (((Addr.mk H.size 0 none)).add 2) = some (.slice xA7 xn7 xc7) ∧ ∃ (xA8 : Option Addr) (xn8 xc8 : Nat), cellH H_15 (((Addr.mk H.size 0 none)).add 3) = some (.slice xA8 xn8 xc8) ∧ cond (((xn7 : Nat) : Int) != ((xn8 : Nat) : Int)) (CallH P N.juntolaw05_alive [] H_15 fun v16 H_17 =>
  ∃ r15 : Bool, v16 = .bool r15 ∧ R (.bool r15) H_17) (∃ (xA9 : Option Addr) (xn9 xc9 : Nat), cellH H_15 (((Addr.mk H.size 0 none)).add 2) = some (.slice xA9 xn9 xc9) ∧ ∃ (xA10 : Option Addr) (xn10 xc10 : Nat), cellH H_15 (((Addr.mk H.size 0 none)).add 1) = some (.slice xA10 xn10 xc10) ∧ CallH P N.juntoref05_Most [.int .i64 ((xn10 : Nat) : Int), .int .i64 d] H_15 fun v17 H_18 =>
  ∃ r16 : Int, v17 = .int .i64 r16 ∧ cellH H_18 (((Addr.mk H.size 0 none)).add 2) = some (.slice xA9 xn9 xc9) ∧ cond (decide (((xn9 : Nat) : Int) > r16)) (CallH P N.juntolaw05_alive [] H_18 fun v18 H_19 =>
  ∃ r17 : Bool, v18 = .bool r17 ∧ R (.bool r17) H_19)
   (∃ (xA11 : Option Addr) (xn11 xc11 : Nat), cellH H_18 (((Addr.mk H.size 0 none)).add 1) = some (.slice xA11 xn11 xc11) ∧ LoopI (σ := (Option Addr × Nat × Nat) × Int) (fun κ => κ ((none, 0, 0), 0) H_18) fun s z H_20 next =>
  cond (decide (s.2 < ((xn11 : Nat) : Int))) (∃ a : Addr, xA11 = some a ∧ 0 ≤ s.2 ∧ s.2 < ((xn11 : Nat) : Int) ∧ ∃ x : Int, cellH H_20 (a.add (Int.toNat s.2)) = some (.int .u64 x) ∧ ∃ (xA12 : Option Addr) (xn12 xc12 : Nat), cellH H_20 (Addr.mk H.size 0 none) = some (.slice xA12 xn12 xc12) ∧ CallH P N.juntoref02_Eval [.int .u64 p, .slice xA12 xn12 xc12, .int .u64 x] H_20 fun v19 H_21 =>
  ∃ r18 : Int, v19 = .int .u64 r18 ∧ NewH (H_21.push (.cells #[.int .u64 x, .int .u64 r18] 103 (0, 0))) fun H_22 =>
  AppendV 103 2 16 [.int .u64 0, .int .u64 0] H_22 s.1.1 s.1.2.1 s.1.2.2 (some (Addr.mk H_21.size 0 none)) 1 fun vA vn vc H_23 =>
  next ((vA, vn, vc), IntKind.i64.wrap (s.2 + 1)) H_23)
   (∃ (xA13 : Option Addr) (xn13 xc13 : Nat), cellH H_20 (((Addr.mk H.size 0 none)).add 2) = some (.slice xA13 xn13 xc13) ∧ LoopI (σ := Int) (fun κ => κ 0 H_20) fun s2 z2 H_24 next2 =>
  cond (decide (s2 < ((xn13 : Nat) : Int))) (∃ a2 : Addr, xA13 = some a2 ∧ 0 ≤ s2 ∧ s2 < ((xn13 : Nat) : Int) ∧ ∃ x2 : Int, cellH H_24 (a2.add (Int.toNat s2)) = some (.int .i64 x2) ∧ cond (decide (x2 < 0)) (CallH P N.juntolaw05_alive [] H_24 fun v21 H_25 =>
  ∃ r19 : Bool, v21 = .bool r19 ∧ R (.bool r19) H_25) (cond (decide (x2 ≥ ((s.1.2.1 : Nat) : Int))) (CallH P N.juntolaw05_alive [] H_24 fun v22 H_26 =>
  ∃ r20 : Bool, v22 = .bool r20 ∧ R (.bool r20) H_26)
   (∃ (xA14 : Option Addr) (xn14 xc14 : Nat), cellH H_24 (((Addr.mk H.size 0 none)).add 3) = some (.slice xA14 xn14 xc14) ∧ ∃ a3 : Addr, xA14 = some a3 ∧ 0 ≤ s2 ∧ s2 < ((xn14 : Nat) : Int) ∧ ∃ x3 : Int, cellH H_24 (a3.add (Int.toNat s2)) = some (.int .u64 x3) ∧ ∃ a4 : Addr, s.1.1 = some a4 ∧ 0 ≤ x2 ∧ x2 < ((s.1.2.1 : Nat) : Int) ∧ MayWrite H_24 ((a4.add ((Int.toNat x2) * 2)).add 1) 1 ∧ NewH (setH H_24 ((a4.add ((Int.toNat x2) * 2)).add 1) (.int .u64 x3)) fun H_27 =>
  next2 (IntKind.i64.wrap (s2 + 1)) H_27)))
   (CallH P N.decode_Best [.int .u64 p, .int .i64 d, .slice s.1.1 s.1.2.1 s.1.2.2] H_24 fun v23 H_28 =>
  ∃ (r0A : Option Addr) (r0n r0c : Nat), ∃ (r1A : Option Addr) (r1n r1c : Nat), ∃ r22 : Int, v23 = .tuple #[.slice r0A r0n r0c, .slice r1A r1n r1c, .int .i64 r22] ∧ cond (r22 == 0) (∃ (xA15 : Option Addr) (xn15 xc15 : Nat), cellH H_28 (Addr.mk H.size 0 none) = some (.slice xA15 xn15 xc15) ∧ CallH P N.juntoref02_Trim [.slice xA15 xn15 xc15] H_28 fun v24 H_29 =>
  ∃ (rA2 : Option Addr) (rn2 rc2 : Nat), v24 = .slice rA2 rn2 rc2 ∧ CallH P N.juntoref01_Same [.slice r0A r0n r0c, .slice rA2 rn2 rc2] H_29 fun v25 H_30 =>
  ∃ r21 : Bool, v25 = .bool r21 ∧ cond r21 (∃ (xA16 : Option Addr) (xn16 xc16 : Nat), cellH H_30 (Addr.mk H.size 0 none) = some (.slice xA16 xn16 xc16) ∧ CallH P N.juntoref05_Off [.int .u64 p, .slice xA16 xn16 xc16, .slice s.1.1 s.1.2.1 s.1.2.2] H_30 fun v26 H_31 =>
  ∃ (rA3 : Option Addr) (rn3 rc3 : Nat), v26 = .slice rA3 rn3 rc3 ∧ CallH P N.juntolaw05_ints [.slice r1A r1n r1c, .slice rA3 rn3 rc3] H_31 fun v27 H_32 =>
  ∃ r23 : Bool, v27 = .bool r23 ∧ cond r23 (CallH P N.juntolaw05_alive [] H_32 fun v28 H_33 =>
  ∃ r24 : Bool, v28 = .bool r24 ∧ R (.bool r24) H_33) (R (.bool false) H_32)) (R (.bool false) H_30)) (R (.bool false) H_28))))))))))))))
theorem juntolaw05_DecodeRight.ok (p : Int) (d : Int) (q_0A : Option Addr) (q_0n q_0c : Nat) (q_1A : Option Addr) (q_1n q_1c : Nat) (q_2A : Option Addr) (q_2n q_2c : Nat) (q_3A : Option Addr) (q_3n q_3c : Nat) (H : Heap) (R : Value → Heap → Prop) (h : juntolaw05_DecodeRight.W p d q_0A q_0n q_0c q_1A q_1n q_1c q_2A q_2n q_2c q_3A q_3n q_3c H R) : CallH P N.juntolaw05_DecodeRight ([.int .u64 p, .int .i64 d, .agg #[.slice q_0A q_0n q_0c, .slice q_1A q_1n q_1c, .slice q_2A q_2n q_2c, .slice q_3A q_3n q_3c]] : List Value) H R := by
  have e : juntolaw05_DecodeRight.W p d q_0A q_0n q_0c q_1A q_1n q_1c q_2A q_2n q_2c q_3A q_3n q_3c H R = sxFn P T Sh.R nf juntolaw05_DecodeRight.A Try.f18.results.toList (bodyOf Try.f18) (([(.int .u64 p : Value), (.int .i64 d : Value), (.agg #[.slice q_0A q_0n q_0c, .slice q_1A q_1n q_1c, .slice q_2A q_2n q_2c, .slice q_3A q_3n q_3c] : Value)] : List Value) ++ List.replicate (162 - ([(.int .u64 p : Value), (.int .i64 d : Value), (.agg #[.slice q_0A q_0n q_0c, .slice q_1A q_1n q_1c, .slice q_2A q_2n q_2c, .slice q_3A q_3n q_3c] : Value)] : List Value).length) undef) H R := by kernel_rfl
  exact call_of_sx fits bodies mixed Try.func18 (c := bodyOf Try.f18) (by kernel_rfl) Try.ntmps18 juntolaw05_DecodeRight.A (by kernel_rfl) (e.mp h)
end Go.Proofs.Ytlhcaangdenoaaa.Sh
namespace Go.Proofs.Ytlhcaangdenoaaa.Sh
open Go.Sx Go.Lf
def juntolaw05_DecodeRight.C (p : Nat) (d : Int) (q2 : TSpoilt) (K : Bool → Prop) : Prop :=
  ∀ (Z : Nat → Prop) (H : Heap), ∀ (pv : Int), pv = (p : Int) → ∀ (qA : Option Addr) (qn qc : Nat), qn = q2.F.length → SlF u64L Z H qA qc q2.F → ∀ (qA2 : Option Addr) (qn2 qc2 : Nat), qn2 = q2.Xs.length → SlF u64L Z H qA2 qc2 q2.Xs → ∀ (qA3 : Option Addr) (qn3 qc3 : Nat), qn3 = q2.At.length → SlF i64L Z H qA3 qc3 q2.At → ∀ (qA4 : Option Addr) (qn4 qc4 : Nat), qn4 = q2.Values.length → SlF u64L Z H qA4 qc4 q2.Values → ∀ KK : Value → Heap → Prop,
    (∀ (Z' : Nat → Prop) (H' : Heap), Ext H H' → Old Z H Z' → ∀ (r0 : Bool), K r0 → KK (.bool r0) H') →
    CallH P N.juntolaw05_DecodeRight [.int .u64 pv, .int .i64 d, .agg #[.slice qA qn qc, .slice qA2 qn2 qc2, .slice qA3 qn3 qc3, .slice qA4 qn4 qc4]] H KK
def juntolaw05_DecodeRight.Q (p : Nat) (d : Int) (q2 : TSpoilt) (K : Bool → Prop) : Prop :=
  juntoref01_Is.C p (fun (x : Bool) =>
  cond (!x) (juntolaw05_alive.C (fun (x2 : Bool) =>
  K x2))
   (cond (decide (d < 0)) (juntolaw05_alive.C (fun (x3 : Bool) =>
  K x3))
   (cond (decide (d > 63)) (juntolaw05_alive.C (fun (x4 : Bool) =>
  K x4))
   (cond (decide (((q2.Xs.length : Nat) : Int) > 64)) (juntolaw05_alive.C (fun (x5 : Bool) =>
  K x5))
   (juntoref01_Within.C p q2.Xs (fun (x6 : Int) =>
  cond (x6 != 0) (juntolaw05_alive.C (fun (x7 : Bool) =>
  K x7))
   (juntoref02_Twice.C q2.Xs (fun (x8 : Bool) =>
  cond x8 (juntolaw05_alive.C (fun (x9 : Bool) =>
  K x9))
   (juntoref01_Within.C p q2.F (fun (x10 : Int) =>
  cond (x10 != 0) (juntolaw05_alive.C (fun (x11 : Bool) =>
  K x11))
   (juntoref02_Trim.C q2.F (fun (x12 : (List Nat)) =>
  cond (decide (((x12.length : Nat) : Int) > (IntKind.i64.wrap (d + 1)))) (juntolaw05_alive.C (fun (x13 : Bool) =>
  K x13))
   (juntoref01_Within.C p q2.Values (fun (x14 : Int) =>
  cond (x14 != 0) (juntolaw05_alive.C (fun (x15 : Bool) =>
  K x15))
   (cond (((q2.At.length : Nat) : Int) != ((q2.Values.length : Nat) : Int)) (juntolaw05_alive.C (fun (x16 : Bool) =>
  K x16))
   (juntoref05_Most.C ((q2.Xs.length : Nat) : Int) d (fun (x17 : Int) =>
  cond (decide (((q2.At.length : Nat) : Int) > x17)) (juntolaw05_alive.C (fun (x18 : Bool) =>
  K x18))
   (LoopQ (τ := List TPoint × Int) (([] : List TPoint), 0) fun t nextQ =>
  cond (decide (t.2 < ((q2.Xs.length : Nat) : Int))) (0 ≤ t.2 ∧ ∃ x19 : Nat, q2.Xs[Int.toNat t.2]? = some x19 ∧ juntoref02_Eval.C p q2.F x19 (fun (x20 : Nat) =>
  AppOk 16 (t.1 ++ ([(⟨x19, x20⟩ : TPoint)] : List TPoint)).length ∧ nextQ ((t.1 ++ ([(⟨x19, x20⟩ : TPoint)] : List TPoint)), IntKind.i64.wrap (t.2 + 1))))
   (LoopQ (τ := Int × List TPoint) (0, t.1) fun t2 nextQ2 =>
  cond (decide (t2.1 < ((q2.At.length : Nat) : Int))) (0 ≤ t2.1 ∧ ∃ x21 : Int, q2.At[Int.toNat t2.1]? = some x21 ∧ cond (decide (x21 < 0)) (juntolaw05_alive.C (fun (x22 : Bool) =>
  K x22))
   (cond (decide (x21 ≥ ((t.1.length : Nat) : Int))) (juntolaw05_alive.C (fun (x23 : Bool) =>
  K x23))
   (0 ≤ t2.1 ∧ ∃ x24 : Nat, q2.Values[Int.toNat t2.1]? = some x24 ∧ 0 ≤ x21 ∧ x21 < ((t.1.length : Nat) : Int) ∧ ∃ x25 : TPoint, t2.2[Int.toNat x21]? = some x25 ∧ nextQ2 (IntKind.i64.wrap (t2.1 + 1), (List.set t2.2 (Int.toNat x21) (⟨x25.X, x24⟩ : TPoint))))))
   (decode_Best.C p d t2.2 (fun (r : (List Nat)) (r2 : (List Int)) (r3 : Int) =>
  cond (r3 == 0) (juntoref02_Trim.C q2.F (fun (x26 : (List Nat)) =>
  juntoref01_Same.C r x26 (fun (x27 : Bool) =>
  cond x27 (juntoref05_Off.C p q2.F t2.2 (fun (x28 : (List Int)) =>
  juntolaw05_ints.C r2 x28 (fun (x29 : Bool) =>
  cond x29 (juntolaw05_alive.C (fun (x30 : Bool) =>
  K x30))
   (K false))))
   (K false))))
   (K false))))))))))))))))))))))
theorem juntolaw05_DecodeRight.q {p : Nat} {d : Int} {q2 : TSpoilt} {K : Bool → Prop} (q : juntolaw05_DecodeRight.Q p d q2 K) : juntolaw05_DecodeRight.C p d q2 K := by
  intro Z H pv he qA qn qc hn f qA2 qn2 qc2 hn2 f2 qA3 qn3 qc3 hn3 f3 qA4 qn4 qc4 hn4 f4 KK hk
  cases he
  cases hn
  cases hn2
  cases hn3
  cases hn4
  apply juntolaw05_DecodeRight.ok
  unfold juntolaw05_DecodeRight.W
  unfold juntolaw05_DecodeRight.Q at q
  obtain ⟨σ, hz, hσ⟩ := tags Z
  have hs : Stp ([1, 2, 3, 4, 5, 6, 7] : List Nat) σ H σ H := Stp.refl _ _ _
  replace f := f.wide hz
  replace f2 := f2.wide hz
  replace f3 := f3.wide hz
  replace f4 := f4.wide hz
  clear hz
  refine NewH.mk fun H_ e => ?_
  obtain ⟨xσ, st, b⟩ := BoxF.new σ 0 e
  replace f := f.step st
  replace f2 := f2.step st
  replace f3 := f3.step st
  replace f4 := f4.step st
  replace hs := hs.trans st
  refine q (Zt xσ) H_ _ rfl _ (fun Z2 H_2 hE hO x q => ?_)
  obtain ⟨xσ2, st2⟩ := call0 hE xσ
  replace f := f.step st2
  replace f2 := f2.step st2
  replace f3 := f3.step st2
  replace f4 := f4.step st2
  replace b := b.step st2
  replace hs := hs.trans st2
  refine ⟨_, rfl, ?_⟩
  refine condI (fun q => ?_) (fun q => ?_) q
  · refine q (Zt xσ2) H_2  _ (fun Z3 H_3 hE2 hO2 x2 q => ?_)
    obtain ⟨xσ3, st3⟩ := call0 hE2 xσ2
    replace f := f.step st3
    replace f2 := f2.step st3
    replace f3 := f3.step st3
    replace f4 := f4.step st3
    replace b := b.step st3
    replace hs := hs.trans st3
    refine ⟨_, rfl, ?_⟩
    exact hk (Zt xσ3) _ (hs.ext hσ) (hs.old hσ) _ q
  · refine condI (fun q => ?_) (fun q => ?_) q
    · refine q (Zt xσ2) H_2  _ (fun Z4 H_4 hE3 hO3 x3 q => ?_)
      obtain ⟨xσ4, st4⟩ := call0 hE3 xσ2
      replace f := f.step st4
      replace f2 := f2.step st4
      replace f3 := f3.step st4
      replace f4 := f4.step st4
      replace b := b.step st4
      replace hs := hs.trans st4
      refine ⟨_, rfl, ?_⟩
      exact hk (Zt xσ4) _ (hs.ext hσ) (hs.old hσ) _ q
    · refine condI (fun q => ?_) (fun q => ?_) q
      · refine q (Zt xσ2) H_2  _ (fun Z5 H_5 hE4 hO4 x4 q => ?_)
        obtain ⟨xσ5, st5⟩ := call0 hE4 xσ2
        replace f := f.step st5
        replace f2 := f2.step st5
        replace f3 := f3.step st5
        replace f4 := f4.step st5
        replace b := b.step st5
        replace hs := hs.trans st5
        refine ⟨_, rfl, ?_⟩
        exact hk (Zt xσ5) _ (hs.ext hσ) (hs.old hσ) _ q
      · refine ⟨_, _, _, b.cell 1 rfl, ?_⟩
        refine condI (fun q => ?_) (fun q => ?_) q
        · refine q (Zt xσ2) H_2  _ (fun Z6 H_6 hE5 hO5 x5 q => ?_)
          obtain ⟨xσ6, st6⟩ := call0 hE5 xσ2
          replace f := f.step st6
          replace f2 := f2.step st6
          replace f3 := f3.step st6
          replace f4 := f4.step st6
          replace b := b.step st6
          replace hs := hs.trans st6
          refine ⟨_, rfl, ?_⟩
          exact hk (Zt xσ6) _ (hs.ext hσ) (hs.old hσ) _ q
        · refine ⟨_, _, _, b.cell 1 rfl, ?_⟩
          refine q (Zt xσ2) H_2 _ rfl _ _ _ rfl f2 _ (fun Z7 H_7 hE6 hO6 x6 q => ?_)
          obtain ⟨xσ7, st7⟩ := call0 hE6 xσ2
          replace f := f.step st7
          replace f2 := f2.step st7
          replace f3 := f3.step st7
          replace f4 := f4.step st7
          replace b := b.step st7
          replace hs := hs.trans st7
          refine ⟨_, rfl, ?_⟩
          refine condI (fun q => ?_) (fun q => ?_) q
          · refine q (Zt xσ7) H_7  _ (fun Z8 H_8 hE7 hO7 x7 q => ?_)
            obtain ⟨xσ8, st8⟩ := call0 hE7 xσ7
            replace f := f.step st8
            replace f2 := f2.step st8
            replace f3 := f3.step st8
            replace f4 := f4.step st8
            replace b := b.step st8
            replace hs := hs.trans st8
            refine ⟨_, rfl, ?_⟩
            exact hk (Zt xσ8) _ (hs.ext hσ) (hs.old hσ) _ q
          · refine ⟨_, _, _, b.cell 1 rfl, ?_⟩
            refine q (Zt xσ7) H_7 _ _ _ rfl f2 _ (fun Z9 H_9 hE8 hO8 x8 q => ?_)
            obtain ⟨xσ9, st9⟩ := call0 hE8 xσ7
            replace f := f.step st9
            replace f2 := f2.step st9
            replace f3 := f3.step st9
            replace f4 := f4.step st9
            replace b := b.step st9
            replace hs := hs.trans st9
            refine ⟨_, rfl, ?_⟩
            refine condI (fun q => ?_) (fun q => ?_) q
            · refine q (Zt xσ9) H_9  _ (fun Z10 H_10 hE9 hO9 x9 q => ?_)
              obtain ⟨xσ10, st10⟩ := call0 hE9 xσ9
              replace f := f.step st10
              replace f2 := f2.step st10
              replace f3 := f3.step st10
              replace f4 := f4.step st10
              replace b := b.step st10
              replace hs := hs.trans st10
              refine ⟨_, rfl, ?_⟩
              exact hk (Zt xσ10) _ (hs.ext hσ) (hs.old hσ) _ q
            · refine ⟨_, _, _, b.cell0, ?_⟩
              refine q (Zt xσ9) H_9 _ rfl _ _ _ rfl f _ (fun Z11 H_11 hE10 hO10 x10 q => ?_)
              obtain ⟨xσ11, st11⟩ := call0 hE10 xσ9
              replace f := f.step st11
              replace f2 := f2.step st11
              replace f3 := f3.step st11
              replace f4 := f4.step st11
              replace b := b.step st11
              replace hs := hs.trans st11
              refine ⟨_, rfl, ?_⟩
              refine condI (fun q => ?_) (fun q => ?_) q
              · refine q (Zt xσ11) H_11  _ (fun Z12 H_12 hE11 hO11 x11 q => ?_)
                obtain ⟨xσ12, st12⟩ := call0 hE11 xσ11
                replace f := f.step st12
                replace f2 := f2.step st12
                replace f3 := f3.step st12
                replace f4 := f4.step st12
                replace b := b.step st12
                replace hs := hs.trans st12
                refine ⟨_, rfl, ?_⟩
                exact hk (Zt xσ12) _ (hs.ext hσ) (hs.old hσ) _ q
              · refine ⟨_, _, _, b.cell0, ?_⟩
                refine q (Zt xσ11) H_11 _ _ _ rfl f _ (fun Z13 H_13 hE12 hO12 x12 Y hY A n c hn5 f5 q => ?_)
                obtain ⟨xσ13, st13, fz12, fy⟩ := call1 hE12 hO12 xσ11 1 (fun _ h => h) hY
                replace f5 := f5.keep fz12 fy
                cases hn5
                replace f := f.step st13
                replace f2 := f2.step st13
                replace f3 := f3.step st13
                replace f4 := f4.step st13
                replace b := b.step st13
                replace hs := hs.trans st13
                refine ⟨_, _, _, rfl, ?_⟩
                refine condI (fun q => ?_) (fun q => ?_) q
                · refine q (Zt xσ13) H_13  _ (fun Z14 H_14 hE13 hO13 x13 q => ?_)
                  obtain ⟨xσ14, st14⟩ := call0 hE13 xσ13
                  replace f := f.step st14
                  replace f2 := f2.step st14
                  replace f3 := f3.step st14
                  replace f4 := f4.step st14
                  replace b := b.step st14
                  replace f5 := f5.step st14
                  replace hs := hs.trans st14
                  refine ⟨_, rfl, ?_⟩
                  exact hk (Zt xσ14) _ (hs.ext hσ) (hs.old hσ) _ q
                · refine ⟨_, _, _, b.cell 3 rfl, ?_⟩
                  refine q (Zt xσ13) H_13 _ rfl _ _ _ rfl f4 _ (fun Z15 H_15 hE14 hO14 x14 q => ?_)
                  obtain ⟨xσ15, st15⟩ := call0 hE14 xσ13
                  replace f := f.step st15
                  replace f2 := f2.step st15
                  replace f3 := f3.step st15
                  replace f4 := f4.step st15
                  replace b := b.step st15
                  replace f5 := f5.step st15
                  replace hs := hs.trans st15
                  refine ⟨_, rfl, ?_⟩
                  refine condI (fun q => ?_) (fun q => ?_) q
                  · refine q (Zt xσ15) H_15  _ (fun Z16 H_16 hE15 hO15 x15 q => ?_)
                    obtain ⟨xσ16, st16⟩ := call0 hE15 xσ15
                    replace f := f.step st16
                    replace f2 := f2.step st16
                    replace f3 := f3.step st16
                    replace f4 := f4.step st16
                    replace b := b.step st16
                    replace f5 := f5.step st16
                    replace hs := hs.trans st16
                    refine ⟨_, rfl, ?_⟩
                    exact hk (Zt xσ16) _ (hs.ext hσ) (hs.old hσ) _ q
                  · refine ⟨_, _, _, b.cell 2 rfl, ?_⟩
                    refine ⟨_, _, _, b.cell 3 rfl, ?_⟩
                    refine condI (fun q => ?_) (fun q => ?_) q
                    · refine q (Zt xσ15) H_15  _ (fun Z17 H_17 hE16 hO16 x16 q => ?_)
                      obtain ⟨xσ17, st17⟩ := call0 hE16 xσ15
                      replace f := f.step st17
                      replace f2 := f2.step st17
                      replace f3 := f3.step st17
                      replace f4 := f4.step st17
                      replace b := b.step st17
                      replace f5 := f5.step st17
                      replace hs := hs.trans st17
                      refine ⟨_, rfl, ?_⟩
                      exact hk (Zt xσ17) _ (hs.ext hσ) (hs.old hσ) _ q
                    · refine ⟨_, _, _, b.cell 2 rfl, ?_⟩
                      refine ⟨_, _, _, b.cell 1 rfl, ?_⟩
                      refine q (Zt xσ15) H_15  _ (fun Z18 H_18 hE17 hO17 x17 q => ?_)
                      obtain ⟨xσ18, st18⟩ := call0 hE17 xσ15
                      replace f := f.step st18
                      replace f2 := f2.step st18
                      replace f3 := f3.step st18
                      replace f4 := f4.step st18
                      replace b := b.step st18
                      replace f5 := f5.step st18
                      replace hs := hs.trans st18
                      refine ⟨_, rfl, ?_⟩
                      refine ⟨(b.cell 2 rfl), ?_⟩
                      refine condI (fun q => ?_) (fun q => ?_) q
                      · refine q (Zt xσ18) H_18  _ (fun Z19 H_19 hE18 hO18 x18 q => ?_)
                        obtain ⟨xσ19, st19⟩ := call0 hE18 xσ18
                        replace f := f.step st19
                        replace f2 := f2.step st19
                        replace f3 := f3.step st19
                        replace f4 := f4.step st19
                        replace b := b.step st19
                        replace f5 := f5.step st19
                        replace hs := hs.trans st19
                        refine ⟨_, rfl, ?_⟩
                        exact hk (Zt xσ19) _ (hs.ext hσ) (hs.old hσ) _ q
                      · refine ⟨_, _, _, b.cell 1 rfl, ?_⟩
                        have f6 := SlO.nil (rdM TPoint.L) 103 (Zt xσ18) (Yt xσ18 2) H_18
                        refine LoopI.ofQ q (fun t_ s_ hp_ => ∃ (σ_ : Nat → Nat) (A0_ : Option Addr) (n0_ c0_ : Nat), Stp [2, 3] xσ18 H_18 σ_ hp_ ∧ ((A0_, n0_, c0_), t_.2) = s_ ∧ n0_ = t_.1.length ∧ SlO (rdM TPoint.L) 103 (Zt σ_) (Yt σ_ 2) hp_ A0_ c0_ t_.1) (fun h k => h _ _ k) ⟨_, _, _, _, Stp.refl _ _ _, rfl, rfl, f6⟩ ?_
                        rintro t _ _ H_20 next nextQ ⟨xσ20, A2, n2, c2, st20, rfl, rfl, f7⟩ q hnext
                        try dsimp only at q ⊢
                        replace f := f.step st20
                        replace f2 := f2.step st20
                        replace f3 := f3.step st20
                        replace f4 := f4.step st20
                        replace b := b.step st20
                        replace f5 := f5.step st20
                        replace hs := hs.trans st20
                        have sl0 := st20
                        refine condI (fun q => ?_) (fun q => ?_) q
                        · obtain ⟨h0, x19, hx, q⟩ := q
                          obtain ⟨a, ha, hi⟩ := f2.addr h0 hx rfl
                          refine ⟨a, ha, hi.1, hi.2, ?_⟩
                          have hc := f2.ldu ha h0 hx
                          refine ⟨_, hc.val, ?_⟩
                          refine ⟨_, _, _, b.cell0, ?_⟩
                          refine q (Zt xσ20) H_20 _ rfl _ _ _ rfl f _ rfl _ (fun Z20 H_21 hE19 hO19 x20 v he2 q => ?_)
                          obtain ⟨xσ21, st21⟩ := call0 hE19 xσ20
                          cases he2
                          replace f := f.step st21
                          replace f2 := f2.step st21
                          replace f3 := f3.step st21
                          replace f4 := f4.step st21
                          replace b := b.step st21
                          replace f5 := f5.step st21
                          replace f7 := f7.step st21
                          replace hc := hc.step st21
                          replace hs := hs.trans st21
                          replace sl0 := sl0.trans st21
                          refine ⟨_, rfl, ?_⟩
                          refine NewH.mk fun H_22 e2 => ?_
                          obtain ⟨xσ22, st22, f8⟩ := SlO.lit (E := TPoint.L) xσ21 3 (xs := [(⟨x19, x20⟩ : TPoint)]) (l := [[_, _]]) e2 rfl (.cons rfl .nil) (show (1 : Nat) ≤ 17592186044416 by decide)
                          replace f := f.step st22
                          replace f2 := f2.step st22
                          replace f3 := f3.step st22
                          replace f4 := f4.step st22
                          replace b := b.step st22
                          replace f5 := f5.step st22
                          replace f7 := f7.step st22
                          replace hc := hc.step st22
                          replace hs := hs.trans st22
                          replace sl0 := sl0.trans st22
                          obtain ⟨xσ24, st24, f8⟩ := SlO.freeze f8
                          replace f := f.step st24
                          replace f2 := f2.step st24
                          replace f3 := f3.step st24
                          replace f4 := f4.step st24
                          replace b := b.step st24
                          replace f5 := f5.step st24
                          replace f7 := f7.step st24
                          replace hc := hc.step st24
                          replace hs := hs.trans st24
                          replace sl0 := sl0.trans st24
                          obtain ⟨q3, q⟩ := q
                          refine SlO.appF f7 f8 rfl rfl q3.l q3.r rfl rfl (fun A3 c3 H_23 xσ23 st23 f7_ => ?_)
                          replace f7 := f7_
                          replace f := f.step st23
                          replace f2 := f2.step st23
                          replace f3 := f3.step st23
                          replace f4 := f4.step st23
                          replace b := b.step st23
                          replace f5 := f5.step st23
                          replace hc := hc.step st23
                          replace f8 := f8.step st23
                          replace hs := hs.trans st23
                          replace sl0 := sl0.trans st23
                          have f9 := f7; clear f7
                          exact hnext ((t.1 ++ ([(⟨x19, x20⟩ : TPoint)] : List TPoint)), IntKind.i64.wrap (t.2 + 1)) _ _ ⟨_, _, _, _, sl0, rfl, rfl, f9⟩ q
                        · refine ⟨_, _, _, b.cell 2 rfl, ?_⟩
                          refine LoopI.ofQ q (fun t_ s_ hp_ => ∃ (σ_ : Nat → Nat), Stp [2] xσ20 H_20 σ_ hp_ ∧ t_.1 = s_ ∧ t_.2.length = t.1.length ∧ SlO (rdM TPoint.L) 103 (Zt σ_) (Yt σ_ 2) hp_ A2 c2 t_.2) (fun h k => h _ _ k) ⟨_, Stp.refl _ _ _, rfl, rfl, f7⟩ ?_
                          rintro t2 _ _ H_24 next2 nextQ2 ⟨xσ25, st25, rfl, hl, f7⟩ q hnext2
                          try dsimp only at q ⊢
                          replace f := f.step st25
                          replace f2 := f2.step st25
                          replace f3 := f3.step st25
                          replace f4 := f4.step st25
                          replace b := b.step st25
                          replace f5 := f5.step st25
                          replace hs := hs.trans st25
                          have sl2 := st25
                          refine condI (fun q => ?_) (fun q => ?_) q
                          · obtain ⟨h02, x21, hx2, q⟩ := q
                            obtain ⟨a2, ha2, hi2⟩ := f3.addr h02 hx2 rfl
                            refine ⟨a2, ha2, hi2.1, hi2.2, ?_⟩
                            have hc2 := f3.ldi ha2 h02 hx2
                            refine ⟨_, hc2.val, ?_⟩
                            refine condI (fun q => ?_) (fun q => ?_) q
                            · refine q (Zt xσ25) H_24  _ (fun Z21 H_25 hE20 hO20 x22 q => ?_)
                              obtain ⟨xσ26, st26⟩ := call0 hE20 xσ25
                              replace f := f.step st26
                              replace f2 := f2.step st26
                              replace f3 := f3.step st26
                              replace f4 := f4.step st26
                              replace b := b.step st26
                              replace f5 := f5.step st26
                              replace f7 := f7.step st26
                              replace hc2 := hc2.step st26
                              replace hs := hs.trans st26
                              replace sl2 := sl2.trans st26
                              refine ⟨_, rfl, ?_⟩
                              exact hk (Zt xσ26) _ (hs.ext hσ) (hs.old hσ) _ q
                            · refine condI (fun q => ?_) (fun q => ?_) q
                              · refine q (Zt xσ25) H_24  _ (fun Z22 H_26 hE21 hO21 x23 q => ?_)
                                obtain ⟨xσ27, st27⟩ := call0 hE21 xσ25
                                replace f := f.step st27
                                replace f2 := f2.step st27
                                replace f3 := f3.step st27
                                replace f4 := f4.step st27
                                replace b := b.step st27
                                replace f5 := f5.step st27
                                replace f7 := f7.step st27
                                replace hc2 := hc2.step st27
                                replace hs := hs.trans st27
                                replace sl2 := sl2.trans st27
                                refine ⟨_, rfl, ?_⟩
                                exact hk (Zt xσ27) _ (hs.ext hσ) (hs.old hσ) _ q
                              · refine ⟨_, _, _, b.cell 3 rfl, ?_⟩
                                obtain ⟨h03, x24, hx3, q⟩ := q
                                obtain ⟨a3, ha3, hi3⟩ := f4.addr h03 hx3 rfl
                                refine ⟨a3, ha3, hi3.1, hi3.2, ?_⟩
                                have hc3 := f4.ldu ha3 h03 hx3
                                refine ⟨_, hc3.val, ?_⟩
                                obtain ⟨h04, hi5, q⟩ := q
                                obtain ⟨a4, ha4, hi4⟩ := f7.addr h04 ((rfl : _ = _).trans hl.symm) hi5
                                refine ⟨a4, ha4, hi4.1, hi4.2, ?_⟩
                                obtain ⟨x25, hx4, q⟩ := q
                                have w := fun v hv => SlO.setF (k := 2) (y := (⟨x25.X, x24⟩ : TPoint)) (v := v) (EF := u64L) (xv := x24) f7 rfl ha4 h04 hx4 1 (by decide) hv (fun cs hv hc => by cases hv; cases hc; rfl)
                                refine ⟨(w _ rfl).1, NewH.mk fun H_27 e3 => ?_⟩
                                obtain ⟨st28, f7⟩ := (w _ rfl).2 H_27 e3
                                replace f := f.step st28
                                replace f2 := f2.step st28
                                replace f3 := f3.step st28
                                replace f4 := f4.step st28
                                replace b := b.step st28
                                replace f5 := f5.step st28
                                replace hc2 := hc2.step st28
                                replace hc3 := hc3.step st28
                                replace hs := hs.trans st28
                                replace sl2 := sl2.trans st28
                                exact hnext2 (IntKind.i64.wrap (t2.1 + 1), (List.set t2.2 (Int.toNat x21) (⟨x25.X, x24⟩ : TPoint))) _ _ ⟨_, sl2, rfl, (set_back ((rfl : _ = _).trans hl.symm) (set_len ((rfl : _ = _).trans hl.symm)) hl), f7⟩ q
                          · refine q (fun i => xσ25 i = 0 ∨ xσ25 i = 2) H_24 _ rfl _ _ _ ((rfl : _ = _).trans hl.symm) (f7.read (fun i h => .inl h) (fun i h => .inr (h))) _ (fun Z23 H_28 hE22 hO22 r Y2 hY2 A4 n3 c4 hn6 f10 r2 Y3 hY3 A5 n4 c5 hn7 f11 r3 hY4 q => ?_)
                            obtain ⟨xσ28, st29, fy2, fy3⟩ := callB2 hE22 hO22 xσ25 4 5 hY2 hY3 hY4
                            replace f10 := (SlO.anyZ (Z' := Zt xσ28) u64_flatL f10).keep (Fr.refl _ _) fy2
                            replace f11 := (SlO.anyZ (Z' := Zt xσ28) i64_flatL f11).keep (Fr.refl _ _) fy3
                            cases hn6
                            cases hn7
                            replace f := f.step st29
                            replace f2 := f2.step st29
                            replace f3 := f3.step st29
                            replace f4 := f4.step st29
                            replace b := b.step st29
                            replace f5 := f5.step st29
                            replace f7 := f7.step st29
                            replace hs := hs.trans st29
                            refine ⟨_, _, _, _, _, _, _, rfl, ?_⟩
                            refine condI (fun q => ?_) (fun q => ?_) q
                            · refine ⟨_, _, _, b.cell0, ?_⟩
                              refine q (Zt xσ28) H_28 _ _ _ rfl f _ (fun Z24 H_29 hE23 hO23 x26 Y4 hY5 A6 n5 c6 hn8 f12 q => ?_)
                              obtain ⟨xσ29, st30, fz23, fy4⟩ := call1 hE23 hO23 xσ28 6 (fun _ h => h) hY5
                              replace f12 := f12.keep fz23 fy4
                              cases hn8
                              replace f := f.step st30
                              replace f2 := f2.step st30
                              replace f3 := f3.step st30
                              replace f4 := f4.step st30
                              replace b := b.step st30
                              replace f5 := f5.step st30
                              replace f7 := f7.step st30
                              replace f10 := f10.step st30
                              replace f11 := f11.step st30
                              replace hs := hs.trans st30
                              refine ⟨_, _, _, rfl, ?_⟩
                              refine q (fun i => xσ29 i = 0 ∨ xσ29 i = 4 ∨ xσ29 i = 6) H_29 _ _ _ rfl (f10.read (fun i h => .inl h) (fun i h => .inr (.inl h))) _ _ _ rfl (f12.read (fun i h => .inl h) (fun i h => .inr (.inr (h)))) _ (fun Z25 H_30 hE24 hO24 x27 q => ?_)
                              obtain ⟨xσ30, st31⟩ := call0 hE24 xσ29
                              replace f := f.step st31
                              replace f2 := f2.step st31
                              replace f3 := f3.step st31
                              replace f4 := f4.step st31
                              replace b := b.step st31
                              replace f5 := f5.step st31
                              replace f7 := f7.step st31
                              replace f10 := f10.step st31
                              replace f11 := f11.step st31
                              replace f12 := f12.step st31
                              replace hs := hs.trans st31
                              refine ⟨_, rfl, ?_⟩
                              refine condI (fun q => ?_) (fun q => ?_) q
                              · refine ⟨_, _, _, b.cell0, ?_⟩
                                refine q (fun i => xσ30 i = 0 ∨ xσ30 i = 2) H_30 _ rfl _ _ _ rfl (f.wide (fun i h => .inl h)) _ _ _ ((rfl : _ = _).trans hl.symm) (f7.read (fun i h => .inl h) (fun i h => .inr (h))) _ (fun Z26 H_31 hE25 hO25 x28 Y5 hY6 A7 n6 c7 hn9 f13 q => ?_)
                                obtain ⟨xσ31, st32, fy5⟩ := callB1 hE25 hO25 xσ30 7 hY6
                                replace f13 := (SlO.anyZ (Z' := Zt xσ31) i64_flatL f13).keep (Fr.refl _ _) fy5
                                cases hn9
                                replace f := f.step st32
                                replace f2 := f2.step st32
                                replace f3 := f3.step st32
                                replace f4 := f4.step st32
                                replace b := b.step st32
                                replace f5 := f5.step st32
                                replace f7 := f7.step st32
                                replace f10 := f10.step st32
                                replace f11 := f11.step st32
                                replace f12 := f12.step st32
                                replace hs := hs.trans st32
                                refine ⟨_, _, _, rfl, ?_⟩
                                refine q (fun i => xσ31 i = 0 ∨ xσ31 i = 5 ∨ xσ31 i = 7) H_31 _ _ _ rfl (f11.read (fun i h => .inl h) (fun i h => .inr (.inl h))) _ _ _ rfl (f13.read (fun i h => .inl h) (fun i h => .inr (.inr (h)))) _ (fun Z27 H_32 hE26 hO26 x29 q => ?_)
                                obtain ⟨xσ32, st33⟩ := call0 hE26 xσ31
                                replace f := f.step st33
                                replace f2 := f2.step st33
                                replace f3 := f3.step st33
                                replace f4 := f4.step st33
                                replace b := b.step st33
                                replace f5 := f5.step st33
                                replace f7 := f7.step st33
                                replace f10 := f10.step st33
                                replace f11 := f11.step st33
                                replace f12 := f12.step st33
                                replace f13 := f13.step st33
                                replace hs := hs.trans st33
                                refine ⟨_, rfl, ?_⟩
                                refine condI (fun q => ?_) (fun q => ?_) q
                                · refine q (Zt xσ32) H_32  _ (fun Z28 H_33 hE27 hO27 x30 q => ?_)
                                  obtain ⟨xσ33, st34⟩ := call0 hE27 xσ32
                                  replace f := f.step st34
                                  replace f2 := f2.step st34
                                  replace f3 := f3.step st34
                                  replace f4 := f4.step st34
                                  replace b := b.step st34
                                  replace f5 := f5.step st34
                                  replace f7 := f7.step st34
                                  replace f10 := f10.step st34
                                  replace f11 := f11.step st34
                                  replace f12 := f12.step st34
                                  replace f13 := f13.step st34
                                  replace hs := hs.trans st34
                                  refine ⟨_, rfl, ?_⟩
                                  exact hk (Zt xσ33) _ (hs.ext hσ) (hs.old hσ) _ q
                                · exact hk (Zt xσ32) _ (hs.ext hσ) (hs.old hσ) _ q
                              · exact hk (Zt xσ30) _ (hs.ext hσ) (hs.old hσ) _ q
                            · exact hk (Zt xσ28) _ (hs.ext hσ) (hs.old hσ) _ q
end Go.Proofs.Ytlhcaangdenoaaa.Sh
