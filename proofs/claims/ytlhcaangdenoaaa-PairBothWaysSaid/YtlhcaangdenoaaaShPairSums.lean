import Derived.Test.YtlhcaangdenoaaaShBase
set_option linter.unusedVariables false
set_option maxRecDepth 100000
namespace Go.Proofs.Ytlhcaangdenoaaa.Sh
open Go.Sx

/-! juntolaw06_PairSums -/
def juntolaw06_PairSums.A : Ann where
  loops := fun i => match i with
    | _ => []
  plans := fun i => match i with
    | _ => .stop
def juntolaw06_PairSums.W (p : Int) (q_0 : Int) (q_1A : Option Addr) (q_1n q_1c : Nat) (gA : Option Addr) (gn gc : Nat) (H : Heap) (R : Value → Heap → Prop) : Prop :=
  NewH (H.push (.cells #[.int .i64 q_0, .slice q_1A q_1n q_1c] 42 (0, 0))) fun H_ =>
  ∃ x : Int, cellH H_ (Addr.mk H.size 0 none) = some (.int .i64 x) ∧ ∃ (xA : Option Addr) (xn xc : Nat), cellH H_ (((Addr.mk H.size 0 none)).add 1) = some (.slice xA xn xc) ∧ CallH P N.pair_Add [.int .u64 p, .int .i64 x, .slice xA xn xc, .slice gA gn gc] H_ fun v H_2 =>
  ∃ (r0A : Option Addr) (r0n r0c : Nat), ∃ r1 : Int, v = .tuple #[.slice r0A r0n r0c, .int .i64 r1] ∧ ∃ x2 : Int, cellH H_2 (Addr.mk H.size 0 none) = some (.int .i64 x2) ∧ ∃ (xA2 : Option Addr) (xn2 xc2 : Nat), cellH H_2 (((Addr.mk H.size 0 none)).add 1) = some (.slice xA2 xn2 xc2) ∧ NewH (H_2.push (.cells #[.slice xA2 xn2 xc2, .slice gA gn gc] 23 (0, 0))) fun H_3 =>
  CallH P N.juntoref06_Check [.int .u64 p, .int .i64 x2, .slice (some (Addr.mk H_2.size 0 none)) 2 2] H_3 fun v2 H_4 =>
  ∃ r : Int, v2 = .int .i64 r ∧ cond (r != 0) (CallH P N.juntolaw06_is [.slice r0A r0n r0c, .int .i64 r1, .slice none 0 0, .int .i64 r] H_4 fun v3 H_5 =>
  ∃ r2 : Bool, v3 = .bool r2 ∧ cond r2 (CallH P N.juntolaw06_alive [] H_5 fun v4 H_6 =>
  ∃ r3 : Bool, v4 = .bool r3 ∧ R (.bool r3) H_6) (R (.bool false) H_5))
   (∃ (xA3 : Option Addr) (xn3 xc3 : Nat), cellH H_4 (((Addr.mk H.size 0 none)).add 1) = some (.slice xA3 xn3 xc3) ∧ CallH P N.juntoref06_Add [.int .u64 p, .slice xA3 xn3 xc3, .slice gA gn gc] H_4 fun v5 H_7 =>
  ∃ (rA : Option Addr) (rn rc : Nat), v5 = .slice rA rn rc ∧ CallH P N.juntolaw06_is [.slice r0A r0n r0c, .int .i64 r1, .slice rA rn rc, .int .i64 0] H_7 fun v6 H_8 =>
  ∃ r4 : Bool, v6 = .bool r4 ∧ R (.bool r4) H_8)
theorem juntolaw06_PairSums.ok (p : Int) (q_0 : Int) (q_1A : Option Addr) (q_1n q_1c : Nat) (gA : Option Addr) (gn gc : Nat) (H : Heap) (R : Value → Heap → Prop) (h : juntolaw06_PairSums.W p q_0 q_1A q_1n q_1c gA gn gc H R) : CallH P N.juntolaw06_PairSums ([.int .u64 p, .agg #[.int .i64 q_0, .slice q_1A q_1n q_1c], .slice gA gn gc] : List Value) H R := by
  have e : juntolaw06_PairSums.W p q_0 q_1A q_1n q_1c gA gn gc H R = sxFn P T Sh.R nf juntolaw06_PairSums.A Try.f9.results.toList (bodyOf Try.f9) (([(.int .u64 p : Value), (.agg #[.int .i64 q_0, .slice q_1A q_1n q_1c] : Value), (.slice gA gn gc : Value)] : List Value) ++ List.replicate (45 - ([(.int .u64 p : Value), (.agg #[.int .i64 q_0, .slice q_1A q_1n q_1c] : Value), (.slice gA gn gc : Value)] : List Value).length) undef) H R := by kernel_rfl
  exact call_of_sx fits bodies mixed Try.func9 (c := bodyOf Try.f9) (by kernel_rfl) Try.ntmps9 juntolaw06_PairSums.A (by kernel_rfl) (e.mp h)

end Go.Proofs.Ytlhcaangdenoaaa.Sh
