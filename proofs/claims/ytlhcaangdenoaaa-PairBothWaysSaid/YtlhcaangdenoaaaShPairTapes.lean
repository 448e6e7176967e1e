import Derived.Test.YtlhcaangdenoaaaShBase
set_option linter.unusedVariables false
set_option maxRecDepth 100000
namespace Go.Proofs.Ytlhcaangdenoaaa.Sh
open Go.Sx

/-! juntolaw06_PairTapes -/
def juntolaw06_PairTapes.A : Ann where
  loops := fun i => match i with
    | _ => []
  plans := fun i => match i with
    | _ => .stop
def juntolaw06_PairTapes.W (p : Int) (t : Int) (fA : Option Addr) (fn fc : Nat) (H : Heap) (R : Value → Heap → Prop) : Prop :=
  CallH P N.pair_Tape [.int .u64 p, .int .i64 t, .slice fA fn fc] H fun v H_ =>
  ∃ r0 : Int, ∃ (r1A : Option Addr) (r1n r1c : Nat), ∃ r2 : Int, v = .tuple #[.int .u64 r0, .slice r1A r1n r1c, .int .i64 r2] ∧ NewH (H_.push (.cells #[.slice fA fn fc] 23 (0, 0))) fun H_2 =>
  CallH P N.juntoref06_Check [.int .u64 p, .int .i64 t, .slice (some (Addr.mk H_.size 0 none)) 1 1] H_2 fun v2 H_3 =>
  ∃ r : Int, v2 = .int .i64 r ∧ cond (r != 0) (cond (r0 == 0) (CallH P N.juntolaw06_list [.slice r1A r1n r1c, .int .i64 r2, .slice none 0 0, .int .i64 r] H_3 fun v3 H_4 =>
  ∃ r3 : Bool, v3 = .bool r3 ∧ cond r3 (CallH P N.juntolaw06_alive [] H_4 fun v4 H_5 =>
  ∃ r4 : Bool, v4 = .bool r4 ∧ R (.bool r4) H_5) (R (.bool false) H_4)) (R (.bool false) H_3))
   (CallH P N.juntoref06_Tape [.slice fA fn fc] H_3 fun v5 H_6 =>
  ∃ r02 : Int, ∃ (r1A2 : Option Addr) (r1n2 r1c2 : Nat), v5 = .tuple #[.int .u64 r02, .slice r1A2 r1n2 r1c2] ∧ CallH P N.pair_Make [.int .u64 p, .int .u64 r0, .int .i64 t, .slice r1A r1n r1c] H_6 fun v6 H_7 =>
  ∃ (r0A : Option Addr) (r0n r0c : Nat), ∃ (r1A3 : Option Addr) (r1n3 r1c3 : Nat), ∃ r22 : Int, v6 = .tuple #[.slice r0A r0n r0c, .slice r1A3 r1n3 r1c3, .int .i64 r22] ∧ cond (r0 == r02) (CallH P N.juntolaw06_list [.slice r1A r1n r1c, .int .i64 r2, .slice r1A2 r1n2 r1c2, .int .i64 0] H_7 fun v7 H_8 =>
  ∃ r5 : Bool, v7 = .bool r5 ∧ cond r5 (CallH P N.juntolaw06_is [.slice r0A r0n r0c, .int .i64 r22, .slice fA fn fc, .int .i64 0] H_8 fun v8 H_9 =>
  ∃ r6 : Bool, v8 = .bool r6 ∧ cond r6 (cond (((r1n3 : Nat) : Int) == 0) (CallH P N.juntolaw06_alive [] H_9 fun v9 H_10 =>
  ∃ r7 : Bool, v9 = .bool r7 ∧ R (.bool r7) H_10) (R (.bool false) H_9)) (R (.bool false) H_9)) (R (.bool false) H_8)) (R (.bool false) H_7))
theorem juntolaw06_PairTapes.ok (p : Int) (t : Int) (fA : Option Addr) (fn fc : Nat) (H : Heap) (R : Value → Heap → Prop) (h : juntolaw06_PairTapes.W p t fA fn fc H R) : CallH P N.juntolaw06_PairTapes ([.int .u64 p, .int .i64 t, .slice fA fn fc] : List Value) H R := by
  have e : juntolaw06_PairTapes.W p t fA fn fc H R = sxFn P T Sh.R nf juntolaw06_PairTapes.A Try.f8.results.toList (bodyOf Try.f8) (([(.int .u64 p : Value), (.int .i64 t : Value), (.slice fA fn fc : Value)] : List Value) ++ List.replicate (79 - ([(.int .u64 p : Value), (.int .i64 t : Value), (.slice fA fn fc : Value)] : List Value).length) undef) H R := by kernel_rfl
  exact call_of_sx fits bodies mixed Try.func8 (c := bodyOf Try.f8) (by kernel_rfl) Try.ntmps8 juntolaw06_PairTapes.A (by kernel_rfl) (e.mp h)

end Go.Proofs.Ytlhcaangdenoaaa.Sh
