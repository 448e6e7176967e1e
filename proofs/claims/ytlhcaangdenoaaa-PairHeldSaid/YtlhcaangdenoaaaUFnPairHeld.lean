import Derived.Test.YtlhcaangdenoaaaUTypes
import Derived.Test.YtlhcaangdenoaaaUFnJuntolaw06
import Derived.Test.YtlhcaangdenoaaaUFnJuntoref01
import Derived.Test.YtlhcaangdenoaaaUFnJuntoref02
import Derived.Test.YtlhcaangdenoaaaUFnJuntoref06
import Derived.Test.YtlhcaangdenoaaaUFnPair
namespace Go.Lf
end Go.Lf
namespace Go.Sx
end Go.Sx
set_option linter.unusedVariables false
set_option linter.unusedSimpArgs false
set_option maxRecDepth 100000
namespace Go.Proofs.Ytlhcaangdenoaaa.Sh
open Go.Sx
def juntolaw06_PairHeld.A : Ann where
  loops := fun i => match i with
    | 16392 => [(44, .int .i64)]
    | 69654 => [(135, .int .i64)]
    | _ => []
  plans := fun i => match i with
    | 6 => .first 0 (.first 3 (.read 4 (.first 5 (.alt 1 [] (.first 2 (.first 6 (.done))) (.stop)))))
    | 13 => .first 0 (.first 1 (.first 3 (.first 5 (.first 8 (.first 13 (.first 15 (.first 18 (.read 2 (.read 4 (.read 6 (.first 7 (.read 9 (.first 10 (.first 11 (.first 12 (.read 14 (.read 16 (.first 17 (.read 19 (.first 20 (.first 21 (.first 22 (.alt 23 [2, 4, 6, 9, 14, 16, 19] (.first 24 (.first 25 (.first 26 (.first 27 (.first 28 (.done)))))) (.stop))))))))))))))))))))))))
    | _ => .stop
def juntolaw06_PairHeld.W (p : Int) (q_0 : Int) (q_1A : Option Addr) (q_1n q_1c : Nat) (q_2A : Option Addr) (q_2n q_2c : Nat) (H : Heap) (R : Value → Heap → Prop) : Prop :=
  NewH (H.push (.cells #[.int .i64 q_0, .slice q_1A q_1n q_1c, .slice q_2A q_2n q_2c] 57 (0, 0))) fun H_ =>
  ∃ x : Int, cellH H_ (Addr.mk H.size 0 none) = some (.int .i64 x) ∧ CallH P N.juntoref06_Bounds [.int .u64 p, .int .i64 x] H_ fun v H_2 =>
  ∃ r : Int, v = .int .i64 r ∧ cond (r != 0) (CallH P N.juntolaw06_alive [] H_2 fun v2 H_3 =>
  ∃ r2 : Bool, v2 = .bool r2 ∧ R (.bool r2) H_3) (∃ (xA : Option Addr) (xn xc : Nat), cellH H_2 (((Addr.mk H.size 0 none)).add 1) = some (.slice xA xn xc) ∧ ∃ (xA2 : Option Addr) (xn2 xc2 : Nat), cellH H_2 (((Addr.mk H.size 0 none)).add 2) = some (.slice xA2 xn2 xc2) ∧ CallH P N.juntoref06_Rows [.int .u64 p, .slice xA xn xc, .slice xA2 xn2 xc2] H_2 fun v3 H_4 =>
  ∃ r3 : Int, v3 = .int .i64 r3 ∧ cond (r3 != 0) (CallH P N.juntolaw06_alive [] H_4 fun v4 H_5 =>
  ∃ r4 : Bool, v4 = .bool r4 ∧ R (.bool r4) H_5) (∃ (xA3 : Option Addr) (xn3 xc3 : Nat), cellH H_4 (((Addr.mk H.size 0 none)).add 1) = some (.slice xA3 xn3 xc3) ∧ ∃ x2 : Int, cellH H_4 (Addr.mk H.size 0 none) = some (.int .i64 x2) ∧ cond (decide (((xn3 : Nat) : Int) < (IntKind.i64.wrap (x2 + 1)))) (CallH P N.juntolaw06_alive [] H_4 fun v5 H_6 =>
  ∃ r5 : Bool, v5 = .bool r5 ∧ R (.bool r5) H_6)
   (∃ (xA4 : Option Addr) (xn4 xc4 : Nat), cellH H_4 (((Addr.mk H.size 0 none)).add 2) = some (.slice xA4 xn4 xc4) ∧ LoopI (σ := Int) (fun κ => κ 0 H_4) fun s z H_7 next =>
  cond (decide (s < ((xn4 : Nat) : Int))) (∃ a : Addr, xA4 = some a ∧ 0 ≤ s ∧ s < ((xn4 : Nat) : Int) ∧ ∃ (xA5 : Option Addr) (xn5 xc5 : Nat), cellH H_7 (a.add (Int.toNat s)) = some (.slice xA5 xn5 xc5) ∧ ∃ x3 : Int, cellH H_7 (Addr.mk H.size 0 none) = some (.int .i64 x3) ∧ CallH P N.juntoref02_Trim [.slice xA5 xn5 xc5] H_7 fun v6 H_8 =>
  ∃ (rA : Option Addr) (rn rc : Nat), v6 = .slice rA rn rc ∧ cellH H_8 (Addr.mk H.size 0 none) = some (.int .i64 x3) ∧ cond (decide (((rn : Nat) : Int) > (IntKind.i64.wrap (x3 + 1)))) (CallH P N.juntolaw06_alive [] H_8 fun v7 H_9 =>
  ∃ r6 : Bool, v7 = .bool r6 ∧ R (.bool r6) H_9)
   (next (IntKind.i64.wrap (s + 1)) H_8))
   (∃ (xA6 : Option Addr) (xn6 xc6 : Nat), cellH H_7 (((Addr.mk H.size 0 none)).add 1) = some (.slice xA6 xn6 xc6) ∧ ∃ (xA7 : Option Addr) (xn7 xc7 : Nat), cellH H_7 (((Addr.mk H.size 0 none)).add 2) = some (.slice xA7 xn7 xc7) ∧ CallH P N.pair_Quarrels [.int .u64 p, .slice xA6 xn6 xc6, .slice xA7 xn7 xc7] H_7 fun v8 H_10 =>
  ∃ (r0A : Option Addr) (r0n r0c : Nat), ∃ r1 : Int, v8 = .tuple #[.slice r0A r0n r0c, .int .i64 r1] ∧ ∃ x4 : Int, cellH H_10 (Addr.mk H.size 0 none) = some (.int .i64 x4) ∧ ∃ (xA8 : Option Addr) (xn8 xc8 : Nat), cellH H_10 (((Addr.mk H.size 0 none)).add 1) = some (.slice xA8 xn8 xc8) ∧ ∃ (xA9 : Option Addr) (xn9 xc9 : Nat), cellH H_10 (((Addr.mk H.size 0 none)).add 2) = some (.slice xA9 xn9 xc9) ∧ CallH P N.pair_Join [.int .u64 p, .int .i64 x4, .slice xA8 xn8 xc8, .slice xA9 xn9 xc9] H_10 fun v9 H_11 =>
  ∃ (r0A2 : Option Addr) (r0n2 r0c2 : Nat), ∃ r12 : Int, v9 = .tuple #[.slice r0A2 r0n2 r0c2, .int .i64 r12] ∧ cond (r1 != 0) (cond (r1 == 0) (cond (r12 == 12) (CallH P N.juntolaw06_alive [] H_11 fun v10 H_12 =>
  ∃ r7 : Bool, v10 = .bool r7 ∧ R (.bool r7) H_12) (R (.bool false) H_11)) (R (.bool false) H_11)) (cond (decide (((r0n : Nat) : Int) > 0)) (cond (r1 == 0) (cond (r12 == 12) (CallH P N.juntolaw06_alive [] H_11 fun v11 H_13 =>
  ∃ r8 : Bool, v11 = .bool r8 ∧ R (.bool r8) H_13) (R (.bool false) H_11)) (R (.bool false) H_11))
   (∃ x5 : Int, cellH H_11 (Addr.mk H.size 0 none) = some (.int .i64 x5) ∧ ∃ (xA10 : Option Addr) (xn10 xc10 : Nat), cellH H_11 (((Addr.mk H.size 0 none)).add 1) = some (.slice xA10 xn10 xc10) ∧ ∃ (xA11 : Option Addr) (xn11 xc11 : Nat), cellH H_11 (((Addr.mk H.size 0 none)).add 1) = some (.slice xA11 xn11 xc11) ∧ ∃ x6 : Int, cellH H_11 (Addr.mk H.size 0 none) = some (.int .i64 x6) ∧ 0 ≤ (IntKind.i64.wrap ((IntKind.i64.wrap (((xn11 : Nat) : Int) - x6)) - 1)) ∧ (IntKind.i64.wrap ((IntKind.i64.wrap (((xn11 : Nat) : Int) - x6)) - 1)) ≤ ((xn10 : Nat) : Int) ∧ ∃ (xA12 : Option Addr) (xn12 xc12 : Nat), cellH H_11 (((Addr.mk H.size 0 none)).add 2) = some (.slice xA12 xn12 xc12) ∧ ∃ (xA13 : Option Addr) (xn13 xc13 : Nat), cellH H_11 (((Addr.mk H.size 0 none)).add 1) = some (.slice xA13 xn13 xc13) ∧ ∃ x7 : Int, cellH H_11 (Addr.mk H.size 0 none) = some (.int .i64 x7) ∧ 0 ≤ (IntKind.i64.wrap ((IntKind.i64.wrap (((xn13 : Nat) : Int) - x7)) - 1)) ∧ (IntKind.i64.wrap ((IntKind.i64.wrap (((xn13 : Nat) : Int) - x7)) - 1)) ≤ ((xn12 : Nat) : Int) ∧ CallH P N.pair_Join [.int .u64 p, .int .i64 x5, .slice (SubA xA10 xc10 (Int.toNat (IntKind.i64.wrap ((IntKind.i64.wrap (((xn11 : Nat) : Int) - x6)) - 1))) 1) (xn10 - (Int.toNat (IntKind.i64.wrap ((IntKind.i64.wrap (((xn11 : Nat) : Int) - x6)) - 1)))) (xc10 - (Int.toNat (IntKind.i64.wrap ((IntKind.i64.wrap (((xn11 : Nat) : Int) - x6)) - 1)))), .slice (SubA xA12 xc12 (Int.toNat (IntKind.i64.wrap ((IntKind.i64.wrap (((xn13 : Nat) : Int) - x7)) - 1))) 1) (xn12 - (Int.toNat (IntKind.i64.wrap ((IntKind.i64.wrap (((xn13 : Nat) : Int) - x7)) - 1)))) (xc12 - (Int.toNat (IntKind.i64.wrap ((IntKind.i64.wrap (((xn13 : Nat) : Int) - x7)) - 1))))] H_11 fun v12 H_14 =>
  ∃ (r0A3 : Option Addr) (r0n3 r0c3 : Nat), ∃ r13 : Int, v12 = .tuple #[.slice r0A3 r0n3 r0c3, .int .i64 r13] ∧ cond (r12 != 0) (R (.bool false) H_14) (cond (r13 != 0) (R (.bool false) H_14) (CallH P N.juntoref06_Same [.slice r0A2 r0n2 r0c2, .slice r0A3 r0n3 r0c3] H_14 fun v13 H_15 =>
  ∃ r9 : Bool, v13 = .bool r9 ∧ cond (!r9) (R (.bool false) H_15)
   (∃ (xA14 : Option Addr) (xn14 xc14 : Nat), cellH H_15 (((Addr.mk H.size 0 none)).add 1) = some (.slice xA14 xn14 xc14) ∧ LoopI (σ := Int) (fun κ => κ 0 H_15) fun s2 z2 H_16 next2 =>
  cond (decide (s2 < ((xn14 : Nat) : Int))) (∃ a2 : Addr, xA14 = some a2 ∧ 0 ≤ s2 ∧ s2 < ((xn14 : Nat) : Int) ∧ ∃ x8 : Int, cellH H_16 (a2.add (Int.toNat s2)) = some (.int .u64 x8) ∧ ∃ x9 : Int, cellH H_16 (Addr.mk H.size 0 none) = some (.int .i64 x9) ∧ CallH P N.pair_Row [.int .u64 p, .int .i64 x9, .slice r0A2 r0n2 r0c2, .int .u64 x8] H_16 fun v14 H_17 =>
  ∃ (r0A4 : Option Addr) (r0n4 r0c4 : Nat), ∃ r14 : Int, v14 = .tuple #[.slice r0A4 r0n4 r0c4, .int .i64 r14] ∧ ∃ (xA15 : Option Addr) (xn15 xc15 : Nat), cellH H_17 (((Addr.mk H.size 0 none)).add 2) = some (.slice xA15 xn15 xc15) ∧ ∃ a3 : Addr, xA15 = some a3 ∧ 0 ≤ s2 ∧ s2 < ((xn15 : Nat) : Int) ∧ ∃ (xA16 : Option Addr) (xn16 xc16 : Nat), cellH H_17 (a3.add (Int.toNat s2)) = some (.slice xA16 xn16 xc16) ∧ CallH P N.juntoref02_Trim [.slice xA16 xn16 xc16] H_17 fun v15 H_18 =>
  ∃ (rA2 : Option Addr) (rn2 rc2 : Nat), v15 = .slice rA2 rn2 rc2 ∧ CallH P N.juntoref01_Same [.slice r0A4 r0n4 r0c4, .slice rA2 rn2 rc2] H_18 fun v16 H_19 =>
  ∃ r10 : Bool, v16 = .bool r10 ∧ cond (!r10) (R (.bool false) H_19)
   (next2 (IntKind.i64.wrap (s2 + 1)) H_19))
   (CallH P N.juntolaw06_alive [] H_16 fun v17 H_20 =>
  ∃ r11 : Bool, v17 = .bool r11 ∧ R (.bool r11) H_20))))))))))
theorem juntolaw06_PairHeld.ok (p : Int) (q_0 : Int) (q_1A : Option Addr) (q_1n q_1c : Nat) (q_2A : Option Addr) (q_2n q_2c : Nat) (H : Heap) (R : Value → Heap → Prop) (h : juntolaw06_PairHeld.W p q_0 q_1A q_1n q_1c q_2A q_2n q_2c H R) : CallH P N.juntolaw06_PairHeld ([.int .u64 p, .agg #[.int .i64 q_0, .slice q_1A q_1n q_1c, .slice q_2A q_2n q_2c]] : List Value) H R := by
  have e : juntolaw06_PairHeld.W p q_0 q_1A q_1n q_1c q_2A q_2n q_2c H R = sxFn P T Sh.R nf juntolaw06_PairHeld.A Try.f23.results.toList (bodyOf Try.f23) (([(.int .u64 p : Value), (.agg #[.int .i64 q_0, .slice q_1A q_1n q_1c, .slice q_2A q_2n q_2c] : Value)] : List Value) ++ List.replicate (160 - ([(.int .u64 p : Value), (.agg #[.int .i64 q_0, .slice q_1A q_1n q_1c, .slice q_2A q_2n q_2c] : Value)] : List Value).length) undef) H R := by kernel_rfl
  exact call_of_sx fits bodies mixed Try.func23 (c := bodyOf Try.f23) (by kernel_rfl) Try.ntmps23 juntolaw06_PairHeld.A (by kernel_rfl) (e.mp h)
end Go.Proofs.Ytlhcaangdenoaaa.Sh
namespace Go.Proofs.Ytlhcaangdenoaaa.Sh
open Go.Sx Go.Lf
def juntolaw06_PairHeld.C (p : Nat) (q2 : TRows) (K : Bool → Prop) : Prop :=
  ∀ (Z : Nat → Prop) (H : Heap), ∀ (pv : Int), pv = (p : Int) → ∀ (qA : Option Addr) (qn qc : Nat), qn = q2.Xs.length → SlF u64L Z H qA qc q2.Xs → ∀ (qA2 : Option Addr) (qn2 qc2 : Nat), qn2 = q2.Rows.length → SlF (slL u64L) Z H qA2 qc2 q2.Rows → ∀ KK : Value → Heap → Prop,
    (∀ (Z' : Nat → Prop) (H' : Heap), Ext H H' → Old Z H Z' → ∀ (r0 : Bool), K r0 → KK (.bool r0) H') →
    CallH P N.juntolaw06_PairHeld [.int .u64 pv, .agg #[.int .i64 q2.T_, .slice qA qn qc, .slice qA2 qn2 qc2]] H KK
def juntolaw06_PairHeld.Q (p : Nat) (q2 : TRows) (K : Bool → Prop) : Prop :=
  juntoref06_Bounds.C p q2.T_ (fun (x : Int) =>
  cond (x != 0) (juntolaw06_alive.C (fun (x2 : Bool) =>
  K x2))
   (juntoref06_Rows.C p q2.Xs q2.Rows (fun (x3 : Int) =>
  cond (x3 != 0) (juntolaw06_alive.C (fun (x4 : Bool) =>
  K x4))
   (cond (decide (((q2.Xs.length : Nat) : Int) < (IntKind.i64.wrap (q2.T_ + 1)))) (juntolaw06_alive.C (fun (x5 : Bool) =>
  K x5))
   (LoopQ (τ := Int) 0 fun t nextQ =>
  cond (decide (t < ((q2.Rows.length : Nat) : Int))) (0 ≤ t ∧ ∃ x6 : (List Nat), q2.Rows[Int.toNat t]? = some x6 ∧ juntoref02_Trim.C x6 (fun (x7 : (List Nat)) =>
  cond (decide (((x7.length : Nat) : Int) > (IntKind.i64.wrap (q2.T_ + 1)))) (juntolaw06_alive.C (fun (x8 : Bool) =>
  K x8))
   (nextQ (IntKind.i64.wrap (t + 1)))))
   (pair_Quarrels.C p q2.Xs q2.Rows (fun (r : (List (Int × Int))) (r2 : Int) =>
  pair_Join.C p q2.T_ q2.Xs q2.Rows (fun (r3 : (List (List Nat))) (r4 : Int) =>
  cond (r2 != 0) (cond (r2 == 0) (cond (r4 == 12) (juntolaw06_alive.C (fun (x9 : Bool) =>
  K x9))
   (K false))
   (K false))
   (cond (decide (((r.length : Nat) : Int) > 0)) (cond (r2 == 0) (cond (r4 == 12) (juntolaw06_alive.C (fun (x10 : Bool) =>
  K x10))
   (K false))
   (K false))
   (0 ≤ (IntKind.i64.wrap ((IntKind.i64.wrap (((q2.Xs.length : Nat) : Int) - q2.T_)) - 1)) ∧ (IntKind.i64.wrap ((IntKind.i64.wrap (((q2.Xs.length : Nat) : Int) - q2.T_)) - 1)) ≤ ((q2.Xs.length : Nat) : Int) ∧ 0 ≤ (IntKind.i64.wrap ((IntKind.i64.wrap (((q2.Xs.length : Nat) : Int) - q2.T_)) - 1)) ∧ (IntKind.i64.wrap ((IntKind.i64.wrap (((q2.Xs.length : Nat) : Int) - q2.T_)) - 1)) ≤ ((q2.Rows.length : Nat) : Int) ∧ pair_Join.C p q2.T_ (List.drop (Int.toNat (IntKind.i64.wrap ((IntKind.i64.wrap (((q2.Xs.length : Nat) : Int) - q2.T_)) - 1))) q2.Xs) (List.drop (Int.toNat (IntKind.i64.wrap ((IntKind.i64.wrap (((q2.Xs.length : Nat) : Int) - q2.T_)) - 1))) q2.Rows) (fun (r5 : (List (List Nat))) (r6 : Int) =>
  cond (r4 != 0) (K false)
   (cond (r6 != 0) (K false)
   (juntoref06_Same.C r3 r5 (fun (x11 : Bool) =>
  cond (!x11) (K false)
   (LoopQ (τ := Int) 0 fun t2 nextQ2 =>
  cond (decide (t2 < ((q2.Xs.length : Nat) : Int))) (0 ≤ t2 ∧ ∃ x12 : Nat, q2.Xs[Int.toNat t2]? = some x12 ∧ pair_Row.C p q2.T_ r3 x12 (fun (r7 : (List Nat)) (r8 : Int) =>
  0 ≤ t2 ∧ ∃ x13 : (List Nat), q2.Rows[Int.toNat t2]? = some x13 ∧ juntoref02_Trim.C x13 (fun (x14 : (List Nat)) =>
  juntoref01_Same.C r7 x14 (fun (x15 : Bool) =>
  cond (!x15) (K false)
   (nextQ2 (IntKind.i64.wrap (t2 + 1)))))))
   (juntolaw06_alive.C (fun (x16 : Bool) =>
  K x16)))))))))))))))))
theorem juntolaw06_PairHeld.q {p : Nat} {q2 : TRows} {K : Bool → Prop} (q : juntolaw06_PairHeld.Q p q2 K) : juntolaw06_PairHeld.C p q2 K := by
  intro Z H pv he qA qn qc hn f qA2 qn2 qc2 hn2 f2 KK hk
  cases he
  cases hn
  cases hn2
  apply juntolaw06_PairHeld.ok
  unfold juntolaw06_PairHeld.W
  unfold juntolaw06_PairHeld.Q at q
  obtain ⟨σ, hz, hσ⟩ := tags Z
  have hs : Stp ([1, 2, 3, 4] : List Nat) σ H σ H := Stp.refl _ _ _
  replace f := f.wide hz
  replace f2 := f2.wide hz
  clear hz
  refine NewH.mk fun H_ e => ?_
  obtain ⟨xσ, st, b⟩ := BoxF.new σ 0 e
  replace f := f.step st
  replace f2 := f2.step st
  replace hs := hs.trans st
  refine ⟨_, b.cell0, ?_⟩
  refine q (Zt xσ) H_ _ rfl _ (fun Z2 H_2 hE hO x q => ?_)
  obtain ⟨xσ2, st2⟩ := call0 hE xσ
  replace f := f.step st2
  replace f2 := f2.step st2
  replace b := b.step st2
  replace hs := hs.trans st2
  refine ⟨_, rfl, ?_⟩
  refine condI (fun q => ?_) (fun q => ?_) q
  · refine q (Zt xσ2) H_2  _ (fun Z3 H_3 hE2 hO2 x2 q => ?_)
    obtain ⟨xσ3, st3⟩ := call0 hE2 xσ2
    replace f := f.step st3
    replace f2 := f2.step st3
    replace b := b.step st3
    replace hs := hs.trans st3
    refine ⟨_, rfl, ?_⟩
    exact hk (Zt xσ3) _ (hs.ext hσ) (hs.old hσ) _ q
  · refine ⟨_, _, _, b.cell 1 rfl, ?_⟩
    refine ⟨_, _, _, b.cell 2 rfl, ?_⟩
    refine q (Zt xσ2) H_2 _ rfl _ _ _ rfl f _ _ _ rfl f2 _ (fun Z4 H_4 hE3 hO3 x3 q => ?_)
    obtain ⟨xσ4, st4⟩ := call0 hE3 xσ2
    replace f := f.step st4
    replace f2 := f2.step st4
    replace b := b.step st4
    replace hs := hs.trans st4
    refine ⟨_, rfl, ?_⟩
    refine condI (fun q => ?_) (fun q => ?_) q
    · refine q (Zt xσ4) H_4  _ (fun Z5 H_5 hE4 hO4 x4 q => ?_)
      obtain ⟨xσ5, st5⟩ := call0 hE4 xσ4
      replace f := f.step st5
      replace f2 := f2.step st5
      replace b := b.step st5
      replace hs := hs.trans st5
      refine ⟨_, rfl, ?_⟩
      exact hk (Zt xσ5) _ (hs.ext hσ) (hs.old hσ) _ q
    · refine ⟨_, _, _, b.cell 1 rfl, ?_⟩
      refine ⟨_, b.cell0, ?_⟩
      refine condI (fun q => ?_) (fun q => ?_) q
      · refine q (Zt xσ4) H_4  _ (fun Z6 H_6 hE5 hO5 x5 q => ?_)
        obtain ⟨xσ6, st6⟩ := call0 hE5 xσ4
        replace f := f.step st6
        replace f2 := f2.step st6
        replace b := b.step st6
        replace hs := hs.trans st6
        refine ⟨_, rfl, ?_⟩
        exact hk (Zt xσ6) _ (hs.ext hσ) (hs.old hσ) _ q
      · refine ⟨_, _, _, b.cell 2 rfl, ?_⟩
        refine LoopI.ofQ q (fun t_ s_ hp_ => ∃ (σ_ : Nat → Nat), Stp [1] xσ4 H_4 σ_ hp_ ∧ t_ = s_) (fun h k => h _ _ k) ⟨_, Stp.refl _ _ _, rfl⟩ ?_
        rintro t _ _ H_7 next nextQ ⟨xσ7, st7, rfl⟩ q hnext
        try dsimp only at q ⊢
        replace f := f.step st7
        replace f2 := f2.step st7
        replace b := b.step st7
        replace hs := hs.trans st7
        have sl0 := st7
        refine condI (fun q => ?_) (fun q => ?_) q
        · obtain ⟨h0, x6, hx, q⟩ := q
          obtain ⟨a, ha, hi⟩ := f2.addr h0 hx rfl
          refine ⟨a, ha, hi.1, hi.2, ?_⟩
          obtain ⟨A, c, hc, f3⟩ := f2.lds ha h0 hx
          refine ⟨_, _, _, hc.val, ?_⟩
          refine ⟨_, b.cell0, ?_⟩
          refine q (Zt xσ7) H_7 _ _ _ rfl f3 _ (fun Z7 H_8 hE6 hO6 x7 Y hY A2 n c2 hn3 f4 q => ?_)
          obtain ⟨xσ8, st8, fz6, fy⟩ := call1 hE6 hO6 xσ7 1 (fun _ h => h) hY
          replace f4 := f4.keep fz6 fy
          cases hn3
          replace f := f.step st8
          replace f2 := f2.step st8
          replace b := b.step st8
          replace hc := hc.step st8
          replace f3 := f3.step st8
          replace hs := hs.trans st8
          replace sl0 := sl0.trans st8
          refine ⟨_, _, _, rfl, ?_⟩
          refine ⟨b.cell0, ?_⟩
          refine condI (fun q => ?_) (fun q => ?_) q
          · refine q (Zt xσ8) H_8  _ (fun Z8 H_9 hE7 hO7 x8 q => ?_)
            obtain ⟨xσ9, st9⟩ := call0 hE7 xσ8
            replace f := f.step st9
            replace f2 := f2.step st9
            replace b := b.step st9
            replace hc := hc.step st9
            replace f3 := f3.step st9
            replace f4 := f4.step st9
            replace hs := hs.trans st9
            replace sl0 := sl0.trans st9
            refine ⟨_, rfl, ?_⟩
            exact hk (Zt xσ9) _ (hs.ext hσ) (hs.old hσ) _ q
          · exact hnext (IntKind.i64.wrap (t + 1)) _ _ ⟨_, sl0, rfl⟩ q
        · refine ⟨_, _, _, b.cell 1 rfl, ?_⟩
          refine ⟨_, _, _, b.cell 2 rfl, ?_⟩
          refine q (Zt xσ7) H_7 _ rfl _ _ _ rfl f _ _ _ rfl f2 _ (fun Z9 H_10 hE8 hO8 r Y2 hY2 A3 n2 c3 hn4 f5 r2 q => ?_)
          obtain ⟨xσ10, st10, fz8, fy2⟩ := call1 hE8 hO8 xσ7 2 (fun _ h => h) hY2
          replace f5 := f5.keep fz8 fy2
          cases hn4
          replace f := f.step st10
          replace f2 := f2.step st10
          replace b := b.step st10
          replace hs := hs.trans st10
          refine ⟨_, _, _, _, rfl, ?_⟩
          refine ⟨_, b.cell0, ?_⟩
          refine ⟨_, _, _, b.cell 1 rfl, ?_⟩
          refine ⟨_, _, _, b.cell 2 rfl, ?_⟩
          refine q (Zt xσ10) H_10 _ rfl _ _ _ rfl f _ _ _ rfl f2 _ (fun Z10 H_11 hE9 hO9 r3 A4 n3 c4 hn5 f6 r4 q => ?_)
          obtain ⟨xσ11, st11, fz9⟩ := callZ hE9 hO9 xσ10 (fun _ h => h)
          replace f6 := f6.keep fz9
          cases hn5
          replace f := f.step st11
          replace f2 := f2.step st11
          replace b := b.step st11
          replace f5 := f5.step st11
          replace hs := hs.trans st11
          refine ⟨_, _, _, _, rfl, ?_⟩
          refine condI (fun q => ?_) (fun q => ?_) q
          · refine condI (fun q => ?_) (fun q => ?_) q
            · refine condI (fun q => ?_) (fun q => ?_) q
              · refine q (Zt xσ11) H_11  _ (fun Z11 H_12 hE10 hO10 x9 q => ?_)
                obtain ⟨xσ12, st12⟩ := call0 hE10 xσ11
                replace f := f.step st12
                replace f2 := f2.step st12
                replace b := b.step st12
                replace f5 := f5.step st12
                replace f6 := f6.step st12
                replace hs := hs.trans st12
                refine ⟨_, rfl, ?_⟩
                exact hk (Zt xσ12) _ (hs.ext hσ) (hs.old hσ) _ q
              · exact hk (Zt xσ11) _ (hs.ext hσ) (hs.old hσ) _ q
            · exact hk (Zt xσ11) _ (hs.ext hσ) (hs.old hσ) _ q
          · refine condI (fun q => ?_) (fun q => ?_) q
            · refine condI (fun q => ?_) (fun q => ?_) q
              · refine condI (fun q => ?_) (fun q => ?_) q
                · refine q (Zt xσ11) H_11  _ (fun Z12 H_13 hE11 hO11 x10 q => ?_)
                  obtain ⟨xσ13, st13⟩ := call0 hE11 xσ11
                  replace f := f.step st13
                  replace f2 := f2.step st13
                  replace b := b.step st13
                  replace f5 := f5.step st13
                  replace f6 := f6.step st13
                  replace hs := hs.trans st13
                  refine ⟨_, rfl, ?_⟩
                  exact hk (Zt xσ13) _ (hs.ext hσ) (hs.old hσ) _ q
                · exact hk (Zt xσ11) _ (hs.ext hσ) (hs.old hσ) _ q
              · exact hk (Zt xσ11) _ (hs.ext hσ) (hs.old hσ) _ q
            · refine ⟨_, b.cell0, ?_⟩
              refine ⟨_, _, _, b.cell 1 rfl, ?_⟩
              refine ⟨_, _, _, b.cell 1 rfl, ?_⟩
              refine ⟨_, b.cell0, ?_⟩
              obtain ⟨q3, q4, q⟩ := q
              have f7 := f.from (l := Int.toNat (IntKind.i64.wrap ((IntKind.i64.wrap (((q2.Xs.length : Nat) : Int) - q2.T_)) - 1))) (k := 1) (upto_le rfl q4) rfl
              refine ⟨q3, q4, ?_⟩
              refine ⟨_, _, _, b.cell 2 rfl, ?_⟩
              refine ⟨_, _, _, b.cell 1 rfl, ?_⟩
              refine ⟨_, b.cell0, ?_⟩
              obtain ⟨q5, q6, q⟩ := q
              have f8 := f2.from (l := Int.toNat (IntKind.i64.wrap ((IntKind.i64.wrap (((q2.Xs.length : Nat) : Int) - q2.T_)) - 1))) (k := 1) (upto_le rfl q6) rfl
              refine ⟨q5, q6, ?_⟩
              refine q (Zt xσ11) H_11 _ rfl _ _ _ (drop_len rfl) f7 _ _ _ (drop_len rfl) f8 _ (fun Z13 H_14 hE12 hO12 r5 A5 n4 c5 hn6 f9 r6 q => ?_)
              obtain ⟨xσ14, st14, fz12⟩ := callZ hE12 hO12 xσ11 (fun _ h => h)
              replace f9 := f9.keep fz12
              cases hn6
              replace f := f.step st14
              replace f2 := f2.step st14
              replace b := b.step st14
              replace f5 := f5.step st14
              replace f6 := f6.step st14
              replace f7 := f7.step st14
              replace f8 := f8.step st14
              replace hs := hs.trans st14
              refine ⟨_, _, _, _, rfl, ?_⟩
              refine condI (fun q => ?_) (fun q => ?_) q
              · exact hk (Zt xσ14) _ (hs.ext hσ) (hs.old hσ) _ q
              · refine condI (fun q => ?_) (fun q => ?_) q
                · exact hk (Zt xσ14) _ (hs.ext hσ) (hs.old hσ) _ q
                · refine q (Zt xσ14) H_14 _ _ _ rfl f6 _ _ _ rfl f9 _ (fun Z14 H_15 hE13 hO13 x11 q => ?_)
                  obtain ⟨xσ15, st15⟩ := call0 hE13 xσ14
                  replace f := f.step st15
                  replace f2 := f2.step st15
                  replace b := b.step st15
                  replace f5 := f5.step st15
                  replace f6 := f6.step st15
                  replace f7 := f7.step st15
                  replace f8 := f8.step st15
                  replace f9 := f9.step st15
                  replace hs := hs.trans st15
                  refine ⟨_, rfl, ?_⟩
                  refine condI (fun q => ?_) (fun q => ?_) q
                  · exact hk (Zt xσ15) _ (hs.ext hσ) (hs.old hσ) _ q
                  · refine ⟨_, _, _, b.cell 1 rfl, ?_⟩
                    refine LoopI.ofQ q (fun t_ s_ hp_ => ∃ (σ_ : Nat → Nat), Stp [3, 4] xσ15 H_15 σ_ hp_ ∧ t_ = s_) (fun h k => h _ _ k) ⟨_, Stp.refl _ _ _, rfl⟩ ?_
                    rintro t2 _ _ H_16 next2 nextQ2 ⟨xσ16, st16, rfl⟩ q hnext2
                    try dsimp only at q ⊢
                    replace f := f.step st16
                    replace f2 := f2.step st16
                    replace b := b.step st16
                    replace f5 := f5.step st16
                    replace f6 := f6.step st16
                    replace f7 := f7.step st16
                    replace f8 := f8.step st16
                    replace f9 := f9.step st16
                    replace hs := hs.trans st16
                    have sl1 := st16
                    refine condI (fun q => ?_) (fun q => ?_) q
                    · obtain ⟨h02, x12, hx2, q⟩ := q
                      obtain ⟨a2, ha2, hi2⟩ := f.addr h02 hx2 rfl
                      refine ⟨a2, ha2, hi2.1, hi2.2, ?_⟩
                      have hc2 := f.ldu ha2 h02 hx2
                      refine ⟨_, hc2.val, ?_⟩
                      refine ⟨_, b.cell0, ?_⟩
                      refine q (Zt xσ16) H_16 _ rfl _ _ _ rfl f6 _ rfl _ (fun Z15 H_17 hE14 hO14 r7 Y3 hY3 A6 n5 c6 hn7 f10 r8 q => ?_)
                      obtain ⟨xσ17, st17, fz14, fy3⟩ := call1 hE14 hO14 xσ16 3 (fun _ h => h) hY3
                      replace f10 := f10.keep fz14 fy3
                      cases hn7
                      replace f := f.step st17
                      replace f2 := f2.step st17
                      replace b := b.step st17
                      replace f5 := f5.step st17
                      replace f6 := f6.step st17
                      replace f7 := f7.step st17
                      replace f8 := f8.step st17
                      replace f9 := f9.step st17
                      replace hc2 := hc2.step st17
                      replace hs := hs.trans st17
                      replace sl1 := sl1.trans st17
                      refine ⟨_, _, _, _, rfl, ?_⟩
                      refine ⟨_, _, _, b.cell 2 rfl, ?_⟩
                      obtain ⟨h03, x13, hx3, q⟩ := q
                      obtain ⟨a3, ha3, hi3⟩ := f2.addr h03 hx3 rfl
                      refine ⟨a3, ha3, hi3.1, hi3.2, ?_⟩
                      obtain ⟨A7, c7, hc3, f11⟩ := f2.lds ha3 h03 hx3
                      refine ⟨_, _, _, hc3.val, ?_⟩
                      refine q (Zt xσ17) H_17 _ _ _ rfl f11 _ (fun Z16 H_18 hE15 hO15 x14 Y4 hY4 A8 n6 c8 hn8 f12 q => ?_)
                      obtain ⟨xσ18, st18, fz15, fy4⟩ := call1 hE15 hO15 xσ17 4 (fun _ h => h) hY4
                      replace f12 := f12.keep fz15 fy4
                      cases hn8
                      replace f := f.step st18
                      replace f2 := f2.step st18
                      replace b := b.step st18
                      replace f5 := f5.step st18
                      replace f6 := f6.step st18
                      replace f7 := f7.step st18
                      replace f8 := f8.step st18
                      replace f9 := f9.step st18
                      replace hc2 := hc2.step st18
                      replace f10 := f10.step st18
                      replace hc3 := hc3.step st18
                      replace f11 := f11.step st18
                      replace hs := hs.trans st18
                      replace sl1 := sl1.trans st18
                      refine ⟨_, _, _, rfl, ?_⟩
                      refine q (fun i => xσ18 i = 0 ∨ xσ18 i = 3 ∨ xσ18 i = 4) H_18 _ _ _ rfl (f10.read (fun i h => .inl h) (fun i h => .inr (.inl h))) _ _ _ rfl (f12.read (fun i h => .inl h) (fun i h => .inr (.inr (h)))) _ (fun Z17 H_19 hE16 hO16 x15 q => ?_)
                      obtain ⟨xσ19, st19⟩ := call0 hE16 xσ18
                      replace f := f.step st19
                      replace f2 := f2.step st19
                      replace b := b.step st19
                      replace f5 := f5.step st19
                      replace f6 := f6.step st19
                      replace f7 := f7.step st19
                      replace f8 := f8.step st19
                      replace f9 := f9.step st19
                      replace hc2 := hc2.step st19
                      replace f10 := f10.step st19
                      replace hc3 := hc3.step st19
                      replace f11 := f11.step st19
                      replace f12 := f12.step st19
                      replace hs := hs.trans st19
                      replace sl1 := sl1.trans st19
                      refine ⟨_, rfl, ?_⟩
                      refine condI (fun q => ?_) (fun q => ?_) q
                      · exact hk (Zt xσ19) _ (hs.ext hσ) (hs.old hσ) _ q
                      · exact hnext2 (IntKind.i64.wrap (t2 + 1)) _ _ ⟨_, sl1, rfl⟩ q
                    · refine q (Zt xσ16) H_16  _ (fun Z18 H_20 hE17 hO17 x16 q => ?_)
                      obtain ⟨xσ20, st20⟩ := call0 hE17 xσ16
                      replace f := f.step st20
                      replace f2 := f2.step st20
                      replace b := b.step st20
                      replace f5 := f5.step st20
                      replace f6 := f6.step st20
                      replace f7 := f7.step st20
                      replace f8 := f8.step st20
                      replace f9 := f9.step st20
                      replace hs := hs.trans st20
                      refine ⟨_, rfl, ?_⟩
                      exact hk (Zt xσ20) _ (hs.ext hσ) (hs.old hσ) _ q
end Go.Proofs.Ytlhcaangdenoaaa.Sh
