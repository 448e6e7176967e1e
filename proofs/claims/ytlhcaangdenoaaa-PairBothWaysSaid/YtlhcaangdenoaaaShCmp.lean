import Derived.Test.YtlhcaangdenoaaaShBase
set_option linter.unusedVariables false
set_option maxRecDepth 100000
namespace Go.Proofs.Ytlhcaangdenoaaa.Sh
open Go.Sx

/-! cmp_Compare_int -/
def cmp_Compare_int.A : Ann where
  loops := fun i => match i with
    | _ => []
  plans := fun i => match i with
    | _ => .stop
def cmp_Compare_int.W (x : Int) (y : Int) (H : Heap) (R : Value → Heap → Prop) : Prop :=
  CallH P N.cmp_isNaN_int [.int .i64 x] H fun v H_ =>
  ∃ r : Bool, v = .bool r ∧ CallH P N.cmp_isNaN_int [.int .i64 y] H_ fun v2 H_2 =>
  ∃ r2 : Bool, v2 = .bool r2 ∧ cond r (cond r2 (R (.int .i64 0) H_2)
   (R (.int .i64 (-1)) H_2))
   (cond r2 (R (.int .i64 1) H_2)
   (cond (decide (x < y)) (R (.int .i64 (-1)) H_2)
   (cond (decide (x > y)) (R (.int .i64 1) H_2)
   (R (.int .i64 0) H_2))))
theorem cmp_Compare_int.ok (x : Int) (y : Int) (H : Heap) (R : Value → Heap → Prop) (h : cmp_Compare_int.W x y H R) : CallH P N.cmp_Compare_int ([.int .i64 x, .int .i64 y] : List Value) H R := by
  have e : cmp_Compare_int.W x y H R = sxFn P T Sh.R nf cmp_Compare_int.A Try.f132.results.toList (bodyOf Try.f132) (([(.int .i64 x : Value), (.int .i64 y : Value)] : List Value) ++ List.replicate (20 - ([(.int .i64 x : Value), (.int .i64 y : Value)] : List Value).length) undef) H R := by kernel_rfl
  exact call_of_sx fits bodies mixed Try.func132 (c := bodyOf Try.f132) (by kernel_rfl) Try.ntmps132 cmp_Compare_int.A (by kernel_rfl) (e.mp h)

/-! cmp_isNaN_int -/
def cmp_isNaN_int.A : Ann where
  loops := fun i => match i with
    | _ => []
  plans := fun i => match i with
    | _ => .stop
def cmp_isNaN_int.W (x : Int) (H : Heap) (R : Value → Heap → Prop) : Prop :=
  R (.bool (x != x)) H
theorem cmp_isNaN_int.ok (x : Int) (H : Heap) (R : Value → Heap → Prop) (h : cmp_isNaN_int.W x H R) : CallH P N.cmp_isNaN_int ([.int .i64 x] : List Value) H R := by
  have e : cmp_isNaN_int.W x H R = sxFn P T Sh.R nf cmp_isNaN_int.A Try.f154.results.toList (bodyOf Try.f154) (([(.int .i64 x : Value)] : List Value) ++ List.replicate (6 - ([(.int .i64 x : Value)] : List Value).length) undef) H R := by kernel_rfl
  exact call_of_sx fits bodies mixed Try.func154 (c := bodyOf Try.f154) (by kernel_rfl) Try.ntmps154 cmp_isNaN_int.A (by kernel_rfl) (e.mp h)

end Go.Proofs.Ytlhcaangdenoaaa.Sh
