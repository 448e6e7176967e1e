import Derived.Test.YtlhcaangdenoaaaShBase
set_option linter.unusedVariables false
set_option maxRecDepth 100000
namespace Go.Proofs.Ytlhcaangdenoaaa.Sh
open Go.Sx

/-! field_Below -/
def field_Below.A : Ann where
  loops := fun i => match i with
    | 8198 => [(9, .int .i64)]
    | _ => []
  plans := fun i => match i with
    | _ => .stop
def field_Below.W (p : Int) (lA : Option Addr) (ln lc : Nat) (H : Heap) (R : Value → Heap → Prop) : Prop :=
  LoopI (σ := Int) (fun κ => κ 0 H) fun s z H_ next =>
  cond (decide (s < ((ln : Nat) : Int))) (∃ a : Addr, lA = some a ∧ 0 ≤ s ∧ s < ((ln : Nat) : Int) ∧ ∃ x : Int, cellH H_ (a.add (Int.toNat s)) = some (.int .u64 x) ∧ cond (decide (x ≥ p)) (R (.int .i64 2) H_)
   (next (IntKind.i64.wrap (s + 1)) H_))
   (R (.int .i64 0) H_)
theorem field_Below.ok (p : Int) (lA : Option Addr) (ln lc : Nat) (H : Heap) (R : Value → Heap → Prop) (h : field_Below.W p lA ln lc H R) : CallH P N.field_Below ([.int .u64 p, .slice lA ln lc] : List Value) H R := by
  have e : field_Below.W p lA ln lc H R = sxFn P T Sh.R nf field_Below.A Try.f79.results.toList (bodyOf Try.f79) (([(.int .u64 p : Value), (.slice lA ln lc : Value)] : List Value) ++ List.replicate (17 - ([(.int .u64 p : Value), (.slice lA ln lc : Value)] : List Value).length) undef) H R := by kernel_rfl
  exact call_of_sx fits bodies mixed Try.func79 (c := bodyOf Try.f79) (by kernel_rfl) Try.ntmps79 field_Below.A (by kernel_rfl) (e.mp h)

/-! field_Take -/
def field_Take.A : Ann where
  loops := fun i => match i with
    | 12295 => [(14, .int .i64)]
    | _ => []
  plans := fun i => match i with
    | _ => .stop
def field_Take.W (p : Int) (tapeA : Option Addr) (tapen tapec : Nat) (n : Int) (H : Heap) (R : Value → Heap → Prop) : Prop :=
  0 ≤ n ∧ n ≤ n ∧ n * 8 ≤ 2 ^ 48 ∧ n < 2 ^ 62 ∧ NewH (H.push (.cells (repl (Int.toNat n) [.int .u64 0]).toArray 22 (0, 0))) fun H_ =>
  LoopI (σ := Int) (fun κ => κ 0 H_) fun s z H_2 next =>
  cond (decide (s < ((Int.toNat n : Nat) : Int))) (cond (decide (s < ((tapen : Nat) : Int))) (∃ a : Addr, tapeA = some a ∧ 0 ≤ s ∧ s < ((tapen : Nat) : Int) ∧ ∃ x : Int, cellH H_2 (a.add (Int.toNat s)) = some (.int .u64 x) ∧ p ≠ 0 ∧ ∃ a2 : Addr, (some (Addr.mk H.size 0 none) : Option Addr) = some a2 ∧ 0 ≤ s ∧ s < ((Int.toNat n : Nat) : Int) ∧ MayWrite H_2 (a2.add (Int.toNat s)) 1 ∧ NewH (setH H_2 (a2.add (Int.toNat s)) (.int .u64 (Int.tmod x p))) fun H_3 =>
  next (IntKind.i64.wrap (s + 1)) H_3)
   (next (IntKind.i64.wrap (s + 1)) H_2))
   (NewH (H_2.push (.cells #[] 22 (0, 0))) fun H_4 =>
  0 ≤ (if ((tapen : Nat) : Int) < n then ((tapen : Nat) : Int) else n) ∧ (if ((tapen : Nat) : Int) < n then ((tapen : Nat) : Int) else n) ≤ ((tapen : Nat) : Int) ∧ AppendV 22 1 8 [.int .u64 0] H_4 (some (Addr.mk H_2.size 0 none)) 0 0 (SubA tapeA tapec (Int.toNat (if ((tapen : Nat) : Int) < n then ((tapen : Nat) : Int) else n)) 1) (tapen - (Int.toNat (if ((tapen : Nat) : Int) < n then ((tapen : Nat) : Int) else n))) fun vA vn vc H_5 =>
  R (.tuple #[.slice (some (Addr.mk H.size 0 none)) (Int.toNat n) (Int.toNat n), .slice vA vn vc]) H_5)
theorem field_Take.ok (p : Int) (tapeA : Option Addr) (tapen tapec : Nat) (n : Int) (H : Heap) (R : Value → Heap → Prop) (h : field_Take.W p tapeA tapen tapec n H R) : CallH P N.field_Take ([.int .u64 p, .slice tapeA tapen tapec, .int .i64 n] : List Value) H R := by
  have e : field_Take.W p tapeA tapen tapec n H R = sxFn P T Sh.R nf field_Take.A Try.f81.results.toList (bodyOf Try.f81) (([(.int .u64 p : Value), (.slice tapeA tapen tapec : Value), (.int .i64 n : Value)] : List Value) ++ List.replicate (40 - ([(.int .u64 p : Value), (.slice tapeA tapen tapec : Value), (.int .i64 n : Value)] : List Value).length) undef) H R := by kernel_rfl
  exact call_of_sx fits bodies mixed Try.func81 (c := bodyOf Try.f81) (by kernel_rfl) Try.ntmps81 field_Take.A (by kernel_rfl) (e.mp h)

/-! field_Is -/
def field_Is.A : Ann where
  loops := fun i => match i with
    | 16389 => [(3, .int .u64)]
    | _ => []
  plans := fun i => match i with
    | _ => .stop
def field_Is.W (p : Int) (H : Heap) (R : Value → Heap → Prop) : Prop :=
  cond (decide (p < 3)) (R (.bool false) H) (cond (decide (p > 65537)) (R (.bool false) H) ((2 : Int) ≠ 0 ∧ cond ((Int.tmod p 2) == 0) (R (.bool false) H)
   (LoopI (σ := Int) (fun κ => κ 3 H) fun s z H_ next =>
  cond (decide ((IntKind.u64.wrap (s * s)) ≤ p)) (s ≠ 0 ∧ cond ((Int.tmod p s) == 0) (R (.bool false) H_)
   (next (IntKind.u64.wrap (s + 2)) H_))
   (R (.bool true) H_))))
theorem field_Is.ok (p : Int) (H : Heap) (R : Value → Heap → Prop) (h : field_Is.W p H R) : CallH P N.field_Is ([.int .u64 p] : List Value) H R := by
  have e : field_Is.W p H R = sxFn P T Sh.R nf field_Is.A Try.f94.results.toList (bodyOf Try.f94) (([(.int .u64 p : Value)] : List Value) ++ List.replicate (26 - ([(.int .u64 p : Value)] : List Value).length) undef) H R := by kernel_rfl
  exact call_of_sx fits bodies mixed Try.func94 (c := bodyOf Try.f94) (by kernel_rfl) Try.ntmps94 field_Is.A (by kernel_rfl) (e.mp h)

/-! field_Plus -/
def field_Plus.A : Ann where
  loops := fun i => match i with
    | _ => []
  plans := fun i => match i with
    | _ => .stop
def field_Plus.W (p : Int) (a : Int) (b : Int) (H : Heap) (R : Value → Heap → Prop) : Prop :=
  cond (decide ((IntKind.u64.wrap (a + b)) ≥ p)) (R (.int .u64 (IntKind.u64.wrap ((IntKind.u64.wrap (a + b)) - p))) H)
   (R (.int .u64 (IntKind.u64.wrap (a + b))) H)
theorem field_Plus.ok (p : Int) (a : Int) (b : Int) (H : Heap) (R : Value → Heap → Prop) (h : field_Plus.W p a b H R) : CallH P N.field_Plus ([.int .u64 p, .int .u64 a, .int .u64 b] : List Value) H R := by
  have e : field_Plus.W p a b H R = sxFn P T Sh.R nf field_Plus.A Try.f111.results.toList (bodyOf Try.f111) (([(.int .u64 p : Value), (.int .u64 a : Value), (.int .u64 b : Value)] : List Value) ++ List.replicate (17 - ([(.int .u64 p : Value), (.int .u64 a : Value), (.int .u64 b : Value)] : List Value).length) undef) H R := by kernel_rfl
  exact call_of_sx fits bodies mixed Try.func111 (c := bodyOf Try.f111) (by kernel_rfl) Try.ntmps111 field_Plus.A (by kernel_rfl) (e.mp h)

/-! field_Times -/
def field_Times.A : Ann where
  loops := fun i => match i with
    | _ => []
  plans := fun i => match i with
    | _ => .stop
def field_Times.W (p : Int) (a : Int) (b : Int) (H : Heap) (R : Value → Heap → Prop) : Prop :=
  CallH P N.field_mul [.int .u64 p, .int .u64 a, .int .u64 b] H fun v H_ =>
  ∃ r : Int, v = .int .u64 r ∧ R (.int .u64 r) H_
theorem field_Times.ok (p : Int) (a : Int) (b : Int) (H : Heap) (R : Value → Heap → Prop) (h : field_Times.W p a b H R) : CallH P N.field_Times ([.int .u64 p, .int .u64 a, .int .u64 b] : List Value) H R := by
  have e : field_Times.W p a b H R = sxFn P T Sh.R nf field_Times.A Try.f112.results.toList (bodyOf Try.f112) (([(.int .u64 p : Value), (.int .u64 a : Value), (.int .u64 b : Value)] : List Value) ++ List.replicate (11 - ([(.int .u64 p : Value), (.int .u64 a : Value), (.int .u64 b : Value)] : List Value).length) undef) H R := by kernel_rfl
  exact call_of_sx fits bodies mixed Try.func112 (c := bodyOf Try.f112) (by kernel_rfl) Try.ntmps112 field_Times.A (by kernel_rfl) (e.mp h)

/-! field_Minus -/
def field_Minus.A : Ann where
  loops := fun i => match i with
    | _ => []
  plans := fun i => match i with
    | _ => .stop
def field_Minus.W (p : Int) (a : Int) (b : Int) (H : Heap) (R : Value → Heap → Prop) : Prop :=
  p ≠ 0 ∧ CallH P N.field_Plus [.int .u64 p, .int .u64 a, .int .u64 (Int.tmod (IntKind.u64.wrap (p - b)) p)] H fun v H_ =>
  ∃ r : Int, v = .int .u64 r ∧ R (.int .u64 r) H_
theorem field_Minus.ok (p : Int) (a : Int) (b : Int) (H : Heap) (R : Value → Heap → Prop) (h : field_Minus.W p a b H R) : CallH P N.field_Minus ([.int .u64 p, .int .u64 a, .int .u64 b] : List Value) H R := by
  have e : field_Minus.W p a b H R = sxFn P T Sh.R nf field_Minus.A Try.f115.results.toList (bodyOf Try.f115) (([(.int .u64 p : Value), (.int .u64 a : Value), (.int .u64 b : Value)] : List Value) ++ List.replicate (15 - ([(.int .u64 p : Value), (.int .u64 a : Value), (.int .u64 b : Value)] : List Value).length) undef) H R := by kernel_rfl
  exact call_of_sx fits bodies mixed Try.func115 (c := bodyOf Try.f115) (by kernel_rfl) Try.ntmps115 field_Minus.A (by kernel_rfl) (e.mp h)

/-! field_mul -/
def field_mul.A : Ann where
  loops := fun i => match i with
    | _ => []
  plans := fun i => match i with
    | _ => .stop
def field_mul.W (p : Int) (a : Int) (b : Int) (H : Heap) (R : Value → Heap → Prop) : Prop :=
  p ≠ 0 ∧ R (.int .u64 (Int.tmod (IntKind.u64.wrap (a * b)) p)) H
theorem field_mul.ok (p : Int) (a : Int) (b : Int) (H : Heap) (R : Value → Heap → Prop) (h : field_mul.W p a b H R) : CallH P N.field_mul ([.int .u64 p, .int .u64 a, .int .u64 b] : List Value) H R := by
  have e : field_mul.W p a b H R = sxFn P T Sh.R nf field_mul.A Try.f134.results.toList (bodyOf Try.f134) (([(.int .u64 p : Value), (.int .u64 a : Value), (.int .u64 b : Value)] : List Value) ++ List.replicate (12 - ([(.int .u64 p : Value), (.int .u64 a : Value), (.int .u64 b : Value)] : List Value).length) undef) H R := by kernel_rfl
  exact call_of_sx fits bodies mixed Try.func134 (c := bodyOf Try.f134) (by kernel_rfl) Try.ntmps134 field_mul.A (by kernel_rfl) (e.mp h)

/-! field_Over -/
def field_Over.A : Ann where
  loops := fun i => match i with
    | _ => []
  plans := fun i => match i with
    | _ => .stop
def field_Over.W (p : Int) (a : Int) (H : Heap) (R : Value → Heap → Prop) : Prop :=
  CallH P N.field_pow [.int .u64 p, .int .u64 a, .int .u64 (IntKind.u64.wrap (p - 2))] H fun v H_ =>
  ∃ r : Int, v = .int .u64 r ∧ R (.int .u64 r) H_
theorem field_Over.ok (p : Int) (a : Int) (H : Heap) (R : Value → Heap → Prop) (h : field_Over.W p a H R) : CallH P N.field_Over ([.int .u64 p, .int .u64 a] : List Value) H R := by
  have e : field_Over.W p a H R = sxFn P T Sh.R nf field_Over.A Try.f137.results.toList (bodyOf Try.f137) (([(.int .u64 p : Value), (.int .u64 a : Value)] : List Value) ++ List.replicate (10 - ([(.int .u64 p : Value), (.int .u64 a : Value)] : List Value).length) undef) H R := by kernel_rfl
  exact call_of_sx fits bodies mixed Try.func137 (c := bodyOf Try.f137) (by kernel_rfl) Try.ntmps137 field_Over.A (by kernel_rfl) (e.mp h)

/-! field_pow -/
def field_pow.A : Ann where
  loops := fun i => match i with
    | 8195 => [(1, .int .u64), (2, .int .u64), (7, .int .u64)]
    | _ => []
  plans := fun i => match i with
    | _ => .stop
def field_pow.W (p : Int) (a : Int) (e : Int) (H : Heap) (R : Value → Heap → Prop) : Prop :=
  p ≠ 0 ∧ LoopI (σ := Int × Int × Int) (fun κ => κ (a, e, Int.tmod 1 p) H) fun s z H_ next =>
  cond (decide (s.2.1 > 0)) (cond ((bitsOf .and .u64 s.2.1 1) == 1) (CallH P N.field_mul [.int .u64 p, .int .u64 s.2.2, .int .u64 s.1] H_ fun v H_2 =>
  ∃ r : Int, v = .int .u64 r ∧ CallH P N.field_mul [.int .u64 p, .int .u64 s.1, .int .u64 s.1] H_2 fun v2 H_3 =>
  ∃ r2 : Int, v2 = .int .u64 r2 ∧ 0 ≤ (1 : Int) ∧ next (r2, Int.fdiv s.2.1 (2 ^ (min (Int.toNat 1) 64)), r) H_3)
   (CallH P N.field_mul [.int .u64 p, .int .u64 s.1, .int .u64 s.1] H_ fun v3 H_4 =>
  ∃ r3 : Int, v3 = .int .u64 r3 ∧ 0 ≤ (1 : Int) ∧ next (r3, Int.fdiv s.2.1 (2 ^ (min (Int.toNat 1) 64)), s.2.2) H_4))
   (R (.int .u64 s.2.2) H_)
theorem field_pow.ok (p : Int) (a : Int) (e : Int) (H : Heap) (R : Value → Heap → Prop) (h : field_pow.W p a e H R) : CallH P N.field_pow ([.int .u64 p, .int .u64 a, .int .u64 e] : List Value) H R := by
  have e : field_pow.W p a e H R = sxFn P T Sh.R nf field_pow.A Try.f157.results.toList (bodyOf Try.f157) (([(.int .u64 p : Value), (.int .u64 a : Value), (.int .u64 e : Value)] : List Value) ++ List.replicate (26 - ([(.int .u64 p : Value), (.int .u64 a : Value), (.int .u64 e : Value)] : List Value).length) undef) H R := by kernel_rfl
  exact call_of_sx fits bodies mixed Try.func157 (c := bodyOf Try.f157) (by kernel_rfl) Try.ntmps157 field_pow.A (by kernel_rfl) (e.mp h)

end Go.Proofs.Ytlhcaangdenoaaa.Sh
