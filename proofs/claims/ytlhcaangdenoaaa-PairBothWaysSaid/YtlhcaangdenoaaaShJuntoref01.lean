import Derived.Test.YtlhcaangdenoaaaShBase
set_option linter.unusedVariables false
set_option maxRecDepth 100000
namespace Go.Proofs.Ytlhcaangdenoaaa.Sh
open Go.Sx

/-! juntoref01_Same -/
def juntoref01_Same.A : Ann where
  loops := fun i => match i with
    | 16392 => [(13, .int .i64)]
    | _ => []
  plans := fun i => match i with
    | 6 => .first 0 (.first 1 (.first 2 (.first 4 (.first 5 (.first 6 (.read 3 (.read 7 (.first 8 (.done)))))))))
    | _ => .stop
def juntoref01_Same.W (aA : Option Addr) (an ac : Nat) (bA : Option Addr) (bn bc : Nat) (H : Heap) (R : Value → Heap → Prop) : Prop :=
  cond (((an : Nat) : Int) != ((bn : Nat) : Int)) (R (.bool false) H)
   (LoopI (σ := Int) (fun κ => κ 0 H) fun s z H_ next =>
  cond (decide (s < ((an : Nat) : Int))) (∃ a : Addr, aA = some a ∧ 0 ≤ s ∧ s < ((an : Nat) : Int) ∧ ∃ a2 : Addr, bA = some a2 ∧ 0 ≤ s ∧ s < ((bn : Nat) : Int) ∧ ∃ x : Int, cellH H_ (a.add (Int.toNat s)) = some (.int .u64 x) ∧ ∃ x2 : Int, cellH H_ (a2.add (Int.toNat s)) = some (.int .u64 x2) ∧ cond (x != x2) (R (.bool false) H_)
   (next (IntKind.i64.wrap (s + 1)) H_))
   (R (.bool true) H_))
theorem juntoref01_Same.ok (aA : Option Addr) (an ac : Nat) (bA : Option Addr) (bn bc : Nat) (H : Heap) (R : Value → Heap → Prop) (h : juntoref01_Same.W aA an ac bA bn bc H R) : CallH P N.juntoref01_Same ([.slice aA an ac, .slice bA bn bc] : List Value) H R := by
  have e : juntoref01_Same.W aA an ac bA bn bc H R = sxFn P T Sh.R nf juntoref01_Same.A Try.f33.results.toList (bodyOf Try.f33) (([(.slice aA an ac : Value), (.slice bA bn bc : Value)] : List Value) ++ List.replicate (26 - ([(.slice aA an ac : Value), (.slice bA bn bc : Value)] : List Value).length) undef) H R := by kernel_rfl
  exact call_of_sx fits bodies mixed Try.func33 (c := bodyOf Try.f33) (by kernel_rfl) Try.ntmps33 juntoref01_Same.A (by kernel_rfl) (e.mp h)

/-! juntoref01_Within -/
def juntoref01_Within.A : Ann where
  loops := fun i => match i with
    | 8198 => [(9, .int .i64)]
    | _ => []
  plans := fun i => match i with
    | _ => .stop
def juntoref01_Within.W (p : Int) (lA : Option Addr) (ln lc : Nat) (H : Heap) (R : Value → Heap → Prop) : Prop :=
  LoopI (σ := Int) (fun κ => κ 0 H) fun s z H_ next =>
  cond (decide (s < ((ln : Nat) : Int))) (∃ a : Addr, lA = some a ∧ 0 ≤ s ∧ s < ((ln : Nat) : Int) ∧ ∃ x : Int, cellH H_ (a.add (Int.toNat s)) = some (.int .u64 x) ∧ cond (decide (x ≥ p)) (R (.int .i64 2) H_)
   (next (IntKind.i64.wrap (s + 1)) H_))
   (R (.int .i64 0) H_)
theorem juntoref01_Within.ok (p : Int) (lA : Option Addr) (ln lc : Nat) (H : Heap) (R : Value → Heap → Prop) (h : juntoref01_Within.W p lA ln lc H R) : CallH P N.juntoref01_Within ([.int .u64 p, .slice lA ln lc] : List Value) H R := by
  have e : juntoref01_Within.W p lA ln lc H R = sxFn P T Sh.R nf juntoref01_Within.A Try.f39.results.toList (bodyOf Try.f39) (([(.int .u64 p : Value), (.slice lA ln lc : Value)] : List Value) ++ List.replicate (17 - ([(.int .u64 p : Value), (.slice lA ln lc : Value)] : List Value).length) undef) H R := by kernel_rfl
  exact call_of_sx fits bodies mixed Try.func39 (c := bodyOf Try.f39) (by kernel_rfl) Try.ntmps39 juntoref01_Within.A (by kernel_rfl) (e.mp h)

/-! juntoref01_Sub -/
def juntoref01_Sub.A : Ann where
  loops := fun i => match i with
    | _ => []
  plans := fun i => match i with
    | _ => .stop
def juntoref01_Sub.W (p : Int) (a : Int) (b : Int) (H : Heap) (R : Value → Heap → Prop) : Prop :=
  p ≠ 0 ∧ R (.int .u64 (Int.tmod (IntKind.u64.wrap ((IntKind.u64.wrap (a + p)) - b)) p)) H
theorem juntoref01_Sub.ok (p : Int) (a : Int) (b : Int) (H : Heap) (R : Value → Heap → Prop) (h : juntoref01_Sub.W p a b H R) : CallH P N.juntoref01_Sub ([.int .u64 p, .int .u64 a, .int .u64 b] : List Value) H R := by
  have e : juntoref01_Sub.W p a b H R = sxFn P T Sh.R nf juntoref01_Sub.A Try.f51.results.toList (bodyOf Try.f51) (([(.int .u64 p : Value), (.int .u64 a : Value), (.int .u64 b : Value)] : List Value) ++ List.replicate (14 - ([(.int .u64 p : Value), (.int .u64 a : Value), (.int .u64 b : Value)] : List Value).length) undef) H R := by kernel_rfl
  exact call_of_sx fits bodies mixed Try.func51 (c := bodyOf Try.f51) (by kernel_rfl) Try.ntmps51 juntoref01_Sub.A (by kernel_rfl) (e.mp h)

/-! juntoref01_Is -/
def juntoref01_Is.A : Ann where
  loops := fun i => match i with
    | 16389 => [(3, .int .u64)]
    | _ => []
  plans := fun i => match i with
    | _ => .stop
def juntoref01_Is.W (p : Int) (H : Heap) (R : Value → Heap → Prop) : Prop :=
  cond (decide (p < 3)) (R (.bool false) H) (cond (decide (p > 65537)) (R (.bool false) H)
   (LoopI (σ := Int) (fun κ => κ 2 H) fun s z H_ next =>
  cond (decide ((IntKind.u64.wrap (s * s)) ≤ p)) (s ≠ 0 ∧ cond ((Int.tmod p s) == 0) (R (.bool false) H_)
   (next (IntKind.u64.wrap (s + 1)) H_))
   (R (.bool true) H_)))
theorem juntoref01_Is.ok (p : Int) (H : Heap) (R : Value → Heap → Prop) (h : juntoref01_Is.W p H R) : CallH P N.juntoref01_Is ([.int .u64 p] : List Value) H R := by
  have e : juntoref01_Is.W p H R = sxFn P T Sh.R nf juntoref01_Is.A Try.f65.results.toList (bodyOf Try.f65) (([(.int .u64 p : Value)] : List Value) ++ List.replicate (21 - ([(.int .u64 p : Value)] : List Value).length) undef) H R := by kernel_rfl
  exact call_of_sx fits bodies mixed Try.func65 (c := bodyOf Try.f65) (by kernel_rfl) Try.ntmps65 juntoref01_Is.A (by kernel_rfl) (e.mp h)

/-! juntoref01_Draw -/
def juntoref01_Draw.A : Ann where
  loops := fun i => match i with
    | 12292 => [(9, .int .i64)]
    | _ => []
  plans := fun i => match i with
    | _ => .stop
def juntoref01_Draw.W (p : Int) (tapeA : Option Addr) (tapen tapec : Nat) (n : Int) (H : Heap) (R : Value → Heap → Prop) : Prop :=
  0 ≤ n ∧ n ≤ n ∧ n * 8 ≤ 2 ^ 48 ∧ n < 2 ^ 62 ∧ NewH (H.push (.cells (repl (Int.toNat n) [.int .u64 0]).toArray 22 (0, 0))) fun H_ =>
  LoopI (σ := Int) (fun κ => κ 0 H_) fun s z H_2 next =>
  cond (decide (s < n)) (cond (decide (s < ((tapen : Nat) : Int))) (∃ a : Addr, tapeA = some a ∧ 0 ≤ s ∧ s < ((tapen : Nat) : Int) ∧ ∃ x : Int, cellH H_2 (a.add (Int.toNat s)) = some (.int .u64 x) ∧ p ≠ 0 ∧ ∃ a2 : Addr, (some (Addr.mk H.size 0 none) : Option Addr) = some a2 ∧ 0 ≤ s ∧ s < ((Int.toNat n : Nat) : Int) ∧ MayWrite H_2 (a2.add (Int.toNat s)) 1 ∧ NewH (setH H_2 (a2.add (Int.toNat s)) (.int .u64 (Int.tmod x p))) fun H_3 =>
  next (IntKind.i64.wrap (s + 1)) H_3)
   (NewH (H_2.push (.cells #[] 22 (0, 0))) fun H_4 =>
  0 ≤ (if ((tapen : Nat) : Int) < n then ((tapen : Nat) : Int) else n) ∧ (if ((tapen : Nat) : Int) < n then ((tapen : Nat) : Int) else n) ≤ ((tapen : Nat) : Int) ∧ AppendV 22 1 8 [.int .u64 0] H_4 (some (Addr.mk H_2.size 0 none)) 0 0 (SubA tapeA tapec (Int.toNat (if ((tapen : Nat) : Int) < n then ((tapen : Nat) : Int) else n)) 1) (tapen - (Int.toNat (if ((tapen : Nat) : Int) < n then ((tapen : Nat) : Int) else n))) fun vA vn vc H_5 =>
  R (.tuple #[.slice (some (Addr.mk H.size 0 none)) (Int.toNat n) (Int.toNat n), .slice vA vn vc]) H_5)) (NewH (H_2.push (.cells #[] 22 (0, 0))) fun H_6 =>
  0 ≤ (if ((tapen : Nat) : Int) < n then ((tapen : Nat) : Int) else n) ∧ (if ((tapen : Nat) : Int) < n then ((tapen : Nat) : Int) else n) ≤ ((tapen : Nat) : Int) ∧ AppendV 22 1 8 [.int .u64 0] H_6 (some (Addr.mk H_2.size 0 none)) 0 0 (SubA tapeA tapec (Int.toNat (if ((tapen : Nat) : Int) < n then ((tapen : Nat) : Int) else n)) 1) (tapen - (Int.toNat (if ((tapen : Nat) : Int) < n then ((tapen : Nat) : Int) else n))) fun vA2 vn2 vc2 H_7 =>
  R (.tuple #[.slice (some (Addr.mk H.size 0 none)) (Int.toNat n) (Int.toNat n), .slice vA2 vn2 vc2]) H_7)
theorem juntoref01_Draw.ok (p : Int) (tapeA : Option Addr) (tapen tapec : Nat) (n : Int) (H : Heap) (R : Value → Heap → Prop) (h : juntoref01_Draw.W p tapeA tapen tapec n H R) : CallH P N.juntoref01_Draw ([.int .u64 p, .slice tapeA tapen tapec, .int .i64 n] : List Value) H R := by
  have e : juntoref01_Draw.W p tapeA tapen tapec n H R = sxFn P T Sh.R nf juntoref01_Draw.A Try.f83.results.toList (bodyOf Try.f83) (([(.int .u64 p : Value), (.slice tapeA tapen tapec : Value), (.int .i64 n : Value)] : List Value) ++ List.replicate (41 - ([(.int .u64 p : Value), (.slice tapeA tapen tapec : Value), (.int .i64 n : Value)] : List Value).length) undef) H R := by kernel_rfl
  exact call_of_sx fits bodies mixed Try.func83 (c := bodyOf Try.f83) (by kernel_rfl) Try.ntmps83 juntoref01_Draw.A (by kernel_rfl) (e.mp h)

/-! juntoref01_Add -/
def juntoref01_Add.A : Ann where
  loops := fun i => match i with
    | _ => []
  plans := fun i => match i with
    | _ => .stop
def juntoref01_Add.W (p : Int) (a : Int) (b : Int) (H : Heap) (R : Value → Heap → Prop) : Prop :=
  p ≠ 0 ∧ R (.int .u64 (Int.tmod (IntKind.u64.wrap (a + b)) p)) H
theorem juntoref01_Add.ok (p : Int) (a : Int) (b : Int) (H : Heap) (R : Value → Heap → Prop) (h : juntoref01_Add.W p a b H R) : CallH P N.juntoref01_Add ([.int .u64 p, .int .u64 a, .int .u64 b] : List Value) H R := by
  have e : juntoref01_Add.W p a b H R = sxFn P T Sh.R nf juntoref01_Add.A Try.f86.results.toList (bodyOf Try.f86) (([(.int .u64 p : Value), (.int .u64 a : Value), (.int .u64 b : Value)] : List Value) ++ List.replicate (12 - ([(.int .u64 p : Value), (.int .u64 a : Value), (.int .u64 b : Value)] : List Value).length) undef) H R := by kernel_rfl
  exact call_of_sx fits bodies mixed Try.func86 (c := bodyOf Try.f86) (by kernel_rfl) Try.ntmps86 juntoref01_Add.A (by kernel_rfl) (e.mp h)

/-! juntoref01_Mul -/
def juntoref01_Mul.A : Ann where
  loops := fun i => match i with
    | _ => []
  plans := fun i => match i with
    | _ => .stop
def juntoref01_Mul.W (p : Int) (a : Int) (b : Int) (H : Heap) (R : Value → Heap → Prop) : Prop :=
  p ≠ 0 ∧ R (.int .u64 (Int.tmod (IntKind.u64.wrap (a * b)) p)) H
theorem juntoref01_Mul.ok (p : Int) (a : Int) (b : Int) (H : Heap) (R : Value → Heap → Prop) (h : juntoref01_Mul.W p a b H R) : CallH P N.juntoref01_Mul ([.int .u64 p, .int .u64 a, .int .u64 b] : List Value) H R := by
  have e : juntoref01_Mul.W p a b H R = sxFn P T Sh.R nf juntoref01_Mul.A Try.f87.results.toList (bodyOf Try.f87) (([(.int .u64 p : Value), (.int .u64 a : Value), (.int .u64 b : Value)] : List Value) ++ List.replicate (12 - ([(.int .u64 p : Value), (.int .u64 a : Value), (.int .u64 b : Value)] : List Value).length) undef) H R := by kernel_rfl
  exact call_of_sx fits bodies mixed Try.func87 (c := bodyOf Try.f87) (by kernel_rfl) Try.ntmps87 juntoref01_Mul.A (by kernel_rfl) (e.mp h)

/-! juntoref01_Pow -/
def juntoref01_Pow.A : Ann where
  loops := fun i => match i with
    | _ => []
  plans := fun i => match i with
    | _ => .stop
def juntoref01_Pow.W (p : Int) (a : Int) (e : Int) (H : Heap) (R : Value → Heap → Prop) : Prop :=
  cond (e == 0) (R (.int .u64 1) H)
   ((2 : Int) ≠ 0 ∧ CallH P N.juntoref01_Pow [.int .u64 p, .int .u64 a, .int .u64 (IntKind.u64.wrap (Int.tdiv e 2))] H fun v H_ =>
  ∃ r : Int, v = .int .u64 r ∧ CallH P N.juntoref01_Mul [.int .u64 p, .int .u64 r, .int .u64 r] H_ fun v2 H_2 =>
  ∃ r2 : Int, v2 = .int .u64 r2 ∧ (2 : Int) ≠ 0 ∧ cond ((Int.tmod e 2) == 1) (CallH P N.juntoref01_Mul [.int .u64 p, .int .u64 r2, .int .u64 a] H_2 fun v3 H_3 =>
  ∃ r3 : Int, v3 = .int .u64 r3 ∧ R (.int .u64 r3) H_3)
   (R (.int .u64 r2) H_2))
theorem juntoref01_Pow.ok (p : Int) (a : Int) (e : Int) (H : Heap) (R : Value → Heap → Prop) (h : juntoref01_Pow.W p a e H R) : CallH P N.juntoref01_Pow ([.int .u64 p, .int .u64 a, .int .u64 e] : List Value) H R := by
  have e : juntoref01_Pow.W p a e H R = sxFn P T Sh.R nf juntoref01_Pow.A Try.f88.results.toList (bodyOf Try.f88) (([(.int .u64 p : Value), (.int .u64 a : Value), (.int .u64 e : Value)] : List Value) ++ List.replicate (27 - ([(.int .u64 p : Value), (.int .u64 a : Value), (.int .u64 e : Value)] : List Value).length) undef) H R := by kernel_rfl
  exact call_of_sx fits bodies mixed Try.func88 (c := bodyOf Try.f88) (by kernel_rfl) Try.ntmps88 juntoref01_Pow.A (by kernel_rfl) (e.mp h)

/-! juntoref01_Inv -/
def juntoref01_Inv.A : Ann where
  loops := fun i => match i with
    | _ => []
  plans := fun i => match i with
    | _ => .stop
def juntoref01_Inv.W (p : Int) (a : Int) (H : Heap) (R : Value → Heap → Prop) : Prop :=
  CallH P N.juntoref01_Pow [.int .u64 p, .int .u64 a, .int .u64 (IntKind.u64.wrap (p - 2))] H fun v H_ =>
  ∃ r : Int, v = .int .u64 r ∧ R (.int .u64 r) H_
theorem juntoref01_Inv.ok (p : Int) (a : Int) (H : Heap) (R : Value → Heap → Prop) (h : juntoref01_Inv.W p a H R) : CallH P N.juntoref01_Inv ([.int .u64 p, .int .u64 a] : List Value) H R := by
  have e : juntoref01_Inv.W p a H R = sxFn P T Sh.R nf juntoref01_Inv.A Try.f93.results.toList (bodyOf Try.f93) (([(.int .u64 p : Value), (.int .u64 a : Value)] : List Value) ++ List.replicate (10 - ([(.int .u64 p : Value), (.int .u64 a : Value)] : List Value).length) undef) H R := by kernel_rfl
  exact call_of_sx fits bodies mixed Try.func93 (c := bodyOf Try.f93) (by kernel_rfl) Try.ntmps93 juntoref01_Inv.A (by kernel_rfl) (e.mp h)

end Go.Proofs.Ytlhcaangdenoaaa.Sh
