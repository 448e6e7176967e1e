import Derived.Test.YtlhcaangdenoaaaShBase
set_option linter.unusedVariables false
set_option maxRecDepth 100000
namespace Go.Proofs.Ytlhcaangdenoaaa.Sh
open Go.Sx

/-! juntoref06_Check -/
def juntoref06_Check.A : Ann where
  loops := fun i => match i with
    | 20490 => [(19, .int .i64)]
    | _ => []
  plans := fun i => match i with
    | _ => .stop
def juntoref06_Check.W (p : Int) (t : Int) (lA : Option Addr) (ln lc : Nat) (H : Heap) (R : Value → Heap → Prop) : Prop :=
  CallH P N.juntoref06_Bounds [.int .u64 p, .int .i64 t] H fun v H_ =>
  ∃ r : Int, v = .int .i64 r ∧ cond (r != 0) (R (.int .i64 r) H_)
   (LoopI (σ := Int) (fun κ => κ 0 H_) fun s z H_2 next =>
  cond (decide (s < ((ln : Nat) : Int))) (∃ a : Addr, lA = some a ∧ 0 ≤ s ∧ s < ((ln : Nat) : Int) ∧ ∃ (xA : Option Addr) (xn xc : Nat), cellH H_2 (a.add (Int.toNat s)) = some (.slice xA xn xc) ∧ CallH P N.juntoref06_form [.int .u64 p, .int .i64 t, .slice xA xn xc] H_2 fun v2 H_3 =>
  ∃ r2 : Int, v2 = .int .i64 r2 ∧ cond (r2 != 0) (R (.int .i64 r2) H_3)
   (next (IntKind.i64.wrap (s + 1)) H_3))
   (R (.int .i64 0) H_2))
theorem juntoref06_Check.ok (p : Int) (t : Int) (lA : Option Addr) (ln lc : Nat) (H : Heap) (R : Value → Heap → Prop) (h : juntoref06_Check.W p t lA ln lc H R) : CallH P N.juntoref06_Check ([.int .u64 p, .int .i64 t, .slice lA ln lc] : List Value) H R := by
  have e : juntoref06_Check.W p t lA ln lc H R = sxFn P T Sh.R nf juntoref06_Check.A Try.f25.results.toList (bodyOf Try.f25) (([(.int .u64 p : Value), (.int .i64 t : Value), (.slice lA ln lc : Value)] : List Value) ++ List.replicate (31 - ([(.int .u64 p : Value), (.int .i64 t : Value), (.slice lA ln lc : Value)] : List Value).length) undef) H R := by kernel_rfl
  exact call_of_sx fits bodies mixed Try.func25 (c := bodyOf Try.f25) (by kernel_rfl) Try.ntmps25 juntoref06_Check.A (by kernel_rfl) (e.mp h)

/-! juntoref06_Size -/
def juntoref06_Size.A : Ann where
  loops := fun i => match i with
    | _ => []
  plans := fun i => match i with
    | _ => .stop
def juntoref06_Size.W (t : Int) (H : Heap) (R : Value → Heap → Prop) : Prop :=
  cond (decide (t < 0)) (R (.int .i64 0) H) (cond (decide (t > 3)) (R (.int .i64 0) H)
   ((2 : Int) ≠ 0 ∧ R (.int .i64 (IntKind.i64.wrap ((IntKind.i64.wrap (Int.tdiv (IntKind.i64.wrap ((IntKind.i64.wrap (t + 1)) * (IntKind.i64.wrap (t + 2)))) 2)) - 1))) H))
theorem juntoref06_Size.ok (t : Int) (H : Heap) (R : Value → Heap → Prop) (h : juntoref06_Size.W t H R) : CallH P N.juntoref06_Size ([.int .i64 t] : List Value) H R := by
  have e : juntoref06_Size.W t H R = sxFn P T Sh.R nf juntoref06_Size.A Try.f27.results.toList (bodyOf Try.f27) (([(.int .i64 t : Value)] : List Value) ++ List.replicate (16 - ([(.int .i64 t : Value)] : List Value).length) undef) H R := by kernel_rfl
  exact call_of_sx fits bodies mixed Try.func27 (c := bodyOf Try.f27) (by kernel_rfl) Try.ntmps27 juntoref06_Size.A (by kernel_rfl) (e.mp h)

/-! juntoref06_Bounds -/
def juntoref06_Bounds.A : Ann where
  loops := fun i => match i with
    | _ => []
  plans := fun i => match i with
    | _ => .stop
def juntoref06_Bounds.W (p : Int) (t : Int) (H : Heap) (R : Value → Heap → Prop) : Prop :=
  CallH P N.juntoref01_Is [.int .u64 p] H fun v H_ =>
  ∃ r : Bool, v = .bool r ∧ cond (!r) (R (.int .i64 2) H_) (cond (decide (t < 0)) (R (.int .i64 2) H_) (cond (decide (t > 3)) (R (.int .i64 2) H_)
   (R (.int .i64 0) H_)))
theorem juntoref06_Bounds.ok (p : Int) (t : Int) (H : Heap) (R : Value → Heap → Prop) (h : juntoref06_Bounds.W p t H R) : CallH P N.juntoref06_Bounds ([.int .u64 p, .int .i64 t] : List Value) H R := by
  have e : juntoref06_Bounds.W p t H R = sxFn P T Sh.R nf juntoref06_Bounds.A Try.f30.results.toList (bodyOf Try.f30) (([(.int .u64 p : Value), (.int .i64 t : Value)] : List Value) ++ List.replicate (16 - ([(.int .u64 p : Value), (.int .i64 t : Value)] : List Value).length) undef) H R := by kernel_rfl
  exact call_of_sx fits bodies mixed Try.func30 (c := bodyOf Try.f30) (by kernel_rfl) Try.ntmps30 juntoref06_Bounds.A (by kernel_rfl) (e.mp h)

/-! juntoref06_Make -/
def juntoref06_Make.A : Ann where
  loops := fun i => match i with
    | 20488 => [(34, .int .i64)]
    | 45074 => [(14, .int .i64), (46, .int .i64)]
    | 57359 => [(14, .int .i64), (16, .int .i64)]
    | _ => []
  plans := fun i => match i with
    | 16 => .first 0 (.first 1 (.first 2 (.first 4 (.first 5 (.first 6 (.first 7 (.first 9 (.first 10 (.first 11 (.first 12 (.first 14 (.first 15 (.first 16 (.read 3 (.read 8 (.read 13 (.read 17 (.first 18 (.alt 19 [3, 8, 13, 17] (.first 20 (.alt 21 [] (.done) (.stop))) (.stop))))))))))))))))))))
    | _ => .stop
def juntoref06_Make.W (p : Int) (secret : Int) (t : Int) (tapeA : Option Addr) (tapen tapec : Nat) (H : Heap) (R : Value → Heap → Prop) : Prop :=
  CallH P N.juntoref06_Size [.int .i64 t] H fun v H_ =>
  ∃ r : Int, v = .int .i64 r ∧ CallH P N.juntoref01_Draw [.int .u64 p, .slice tapeA tapen tapec, .int .i64 r] H_ fun v2 H_2 =>
  ∃ (r0A : Option Addr) (r0n r0c : Nat), ∃ (r1A : Option Addr) (r1n r1c : Nat), v2 = .tuple #[.slice r0A r0n r0c, .slice r1A r1n r1c] ∧ NewH (H_2.push (.cells #[.int .u64 secret] 22 (0, 0))) fun H_3 =>
  AppendV 22 1 8 [.int .u64 0] H_3 (some (Addr.mk H_2.size 0 none)) 1 1 r0A r0n fun vA vn vc H_4 =>
  0 ≤ (IntKind.i64.wrap (t + 1)) ∧ (IntKind.i64.wrap (t + 1)) ≤ (IntKind.i64.wrap (t + 1)) ∧ (IntKind.i64.wrap (t + 1)) * 24 ≤ 2 ^ 48 ∧ (IntKind.i64.wrap (t + 1)) < 2 ^ 62 ∧ NewH (H_4.push (.cells (repl (Int.toNat (IntKind.i64.wrap (t + 1))) [.slice none 0 0]).toArray 30 (0, 0))) fun H_5 =>
  LoopI (σ := Int) (fun κ => κ 0 H_5) fun s z H_6 next =>
  cond (decide (s < ((Int.toNat (IntKind.i64.wrap (t + 1)) : Nat) : Int))) (0 ≤ (IntKind.i64.wrap (t + 1)) ∧ (IntKind.i64.wrap (t + 1)) ≤ (IntKind.i64.wrap (t + 1)) ∧ (IntKind.i64.wrap (t + 1)) * 8 ≤ 2 ^ 48 ∧ (IntKind.i64.wrap (t + 1)) < 2 ^ 62 ∧ NewH (H_6.push (.cells (repl (Int.toNat (IntKind.i64.wrap (t + 1))) [.int .u64 0]).toArray 22 (0, 0))) fun H_7 =>
  ∃ a : Addr, (some (Addr.mk H_4.size 0 none) : Option Addr) = some a ∧ 0 ≤ s ∧ s < ((Int.toNat (IntKind.i64.wrap (t + 1)) : Nat) : Int) ∧ MayWrite H_7 (a.add (Int.toNat s)) 1 ∧ NewH (setH H_7 (a.add (Int.toNat s)) (.slice (some (Addr.mk H_6.size 0 none)) (Int.toNat (IntKind.i64.wrap (t + 1))) (Int.toNat (IntKind.i64.wrap (t + 1))))) fun H_8 =>
  next (IntKind.i64.wrap (s + 1)) H_8)
   (LoopI (σ := Int × Int) (fun κ => κ (0, 0) H_6) fun s2 z2 H_9 next2 =>
  cond (decide (s2.2 < ((Int.toNat (IntKind.i64.wrap (t + 1)) : Nat) : Int))) (LoopI (σ := Int × Int) (fun κ => κ (s2.1, s2.2) H_9) fun s3 z3 H_10 next3 =>
  cond (decide (s3.2 ≤ t)) (∃ a2 : Addr, (some (Addr.mk H_4.size 0 none) : Option Addr) = some a2 ∧ 0 ≤ s2.2 ∧ s2.2 < ((Int.toNat (IntKind.i64.wrap (t + 1)) : Nat) : Int) ∧ ∃ a3 : Addr, (some (Addr.mk H_4.size 0 none) : Option Addr) = some a3 ∧ 0 ≤ s3.2 ∧ s3.2 < ((Int.toNat (IntKind.i64.wrap (t + 1)) : Nat) : Int) ∧ ∃ a4 : Addr, vA = some a4 ∧ 0 ≤ s3.1 ∧ s3.1 < ((vn : Nat) : Int) ∧ ∃ a5 : Addr, vA = some a5 ∧ 0 ≤ s3.1 ∧ s3.1 < ((vn : Nat) : Int) ∧ ∃ (xA : Option Addr) (xn xc : Nat), cellH H_10 (a2.add (Int.toNat s2.2)) = some (.slice xA xn xc) ∧ ∃ (xA2 : Option Addr) (xn2 xc2 : Nat), cellH H_10 (a3.add (Int.toNat s3.2)) = some (.slice xA2 xn2 xc2) ∧ ∃ x : Int, cellH H_10 (a4.add (Int.toNat s3.1)) = some (.int .u64 x) ∧ ∃ x2 : Int, cellH H_10 (a5.add (Int.toNat s3.1)) = some (.int .u64 x2) ∧ ∃ a6 : Addr, xA = some a6 ∧ 0 ≤ s3.2 ∧ s3.2 < ((xn : Nat) : Int) ∧ MayWrite H_10 (a6.add (Int.toNat s3.2)) 1 ∧ NewH (setH H_10 (a6.add (Int.toNat s3.2)) (.int .u64 x)) fun H_11 =>
  ∃ a7 : Addr, xA2 = some a7 ∧ 0 ≤ s2.2 ∧ s2.2 < ((xn2 : Nat) : Int) ∧ MayWrite H_11 (a7.add (Int.toNat s2.2)) 1 ∧ NewH (setH H_11 (a7.add (Int.toNat s2.2)) (.int .u64 x2)) fun H_12 =>
  next3 (IntKind.i64.wrap (s3.1 + 1), IntKind.i64.wrap (s3.2 + 1)) H_12)
   (next2 (s3.1, IntKind.i64.wrap (s2.2 + 1)) H_10))
   (R (.tuple #[.slice (some (Addr.mk H_4.size 0 none)) (Int.toNat (IntKind.i64.wrap (t + 1))) (Int.toNat (IntKind.i64.wrap (t + 1))), .slice r1A r1n r1c]) H_9))
theorem juntoref06_Make.ok (p : Int) (secret : Int) (t : Int) (tapeA : Option Addr) (tapen tapec : Nat) (H : Heap) (R : Value → Heap → Prop) (h : juntoref06_Make.W p secret t tapeA tapen tapec H R) : CallH P N.juntoref06_Make ([.int .u64 p, .int .u64 secret, .int .i64 t, .slice tapeA tapen tapec] : List Value) H R := by
  have e : juntoref06_Make.W p secret t tapeA tapen tapec H R = sxFn P T Sh.R nf juntoref06_Make.A Try.f32.results.toList (bodyOf Try.f32) (([(.int .u64 p : Value), (.int .u64 secret : Value), (.int .i64 t : Value), (.slice tapeA tapen tapec : Value)] : List Value) ++ List.replicate (80 - ([(.int .u64 p : Value), (.int .u64 secret : Value), (.int .i64 t : Value), (.slice tapeA tapen tapec : Value)] : List Value).length) undef) H R := by kernel_rfl
  exact call_of_sx fits bodies mixed Try.func32 (c := bodyOf Try.f32) (by kernel_rfl) Try.ntmps32 juntoref06_Make.A (by kernel_rfl) (e.mp h)

/-! juntoref06_At -/
def juntoref06_At.A : Ann where
  loops := fun i => match i with
    | _ => []
  plans := fun i => match i with
    | _ => .stop
def juntoref06_At.W (p : Int) (fA : Option Addr) (fn fc : Nat) (x : Int) (y : Int) (H : Heap) (R : Value → Heap → Prop) : Prop :=
  CallH P N.juntoref06_Row [.int .u64 p, .slice fA fn fc, .int .u64 x] H fun v H_ =>
  ∃ (rA : Option Addr) (rn rc : Nat), v = .slice rA rn rc ∧ CallH P N.juntoref02_Eval [.int .u64 p, .slice rA rn rc, .int .u64 y] H_ fun v2 H_2 =>
  ∃ r : Int, v2 = .int .u64 r ∧ R (.int .u64 r) H_2
theorem juntoref06_At.ok (p : Int) (fA : Option Addr) (fn fc : Nat) (x : Int) (y : Int) (H : Heap) (R : Value → Heap → Prop) (h : juntoref06_At.W p fA fn fc x y H R) : CallH P N.juntoref06_At ([.int .u64 p, .slice fA fn fc, .int .u64 x, .int .u64 y] : List Value) H R := by
  have e : juntoref06_At.W p fA fn fc x y H R = sxFn P T Sh.R nf juntoref06_At.A Try.f38.results.toList (bodyOf Try.f38) (([(.int .u64 p : Value), (.slice fA fn fc : Value), (.int .u64 x : Value), (.int .u64 y : Value)] : List Value) ++ List.replicate (16 - ([(.int .u64 p : Value), (.slice fA fn fc : Value), (.int .u64 x : Value), (.int .u64 y : Value)] : List Value).length) undef) H R := by kernel_rfl
  exact call_of_sx fits bodies mixed Try.func38 (c := bodyOf Try.f38) (by kernel_rfl) Try.ntmps38 juntoref06_At.A (by kernel_rfl) (e.mp h)

/-! juntoref06_Row -/
def juntoref06_Row.A : Ann where
  loops := fun i => match i with
    | 12298 => [(15, .int .i64)]
    | 24585 => [(20, .int .i64)]
    | _ => []
  plans := fun i => match i with
    | 8 => .first 0 (.first 1 (.first 2 (.first 3 (.first 4 (.first 5 (.first 7 (.first 8 (.first 9 (.first 10 (.first 12 (.first 15 (.first 16 (.first 17 (.first 18 (.read 6 (.read 11 (.first 13 (.read 14 (.alt 19 [] (.alt 20 [14] (.alt 21 [6] (.first 22 (.alt 23 [11] (.done) (.stop))) (.stop)) (.stop)) (.stop))))))))))))))))))))
    | _ => .stop
def juntoref06_Row.W (p : Int) (fA : Option Addr) (fn fc : Nat) (x : Int) (H : Heap) (R : Value → Heap → Prop) : Prop :=
  0 ≤ ((fn : Nat) : Int) ∧ ((fn : Nat) : Int) ≤ ((fn : Nat) : Int) ∧ ((fn : Nat) : Int) * 8 ≤ 2 ^ 48 ∧ ((fn : Nat) : Int) < 2 ^ 62 ∧ NewH (H.push (.cells (repl (Int.toNat ((fn : Nat) : Int)) [.int .u64 0]).toArray 22 (0, 0))) fun H_ =>
  LoopI (σ := Int) (fun κ => κ 0 H_) fun s z H_2 next =>
  cond (decide (s < ((fn : Nat) : Int))) (LoopI (σ := Int) (fun κ => κ 0 H_2) fun s2 z2 H_3 next2 =>
  cond (decide (s2 < ((fn : Nat) : Int))) (∃ a : Addr, (some (Addr.mk H.size 0 none) : Option Addr) = some a ∧ 0 ≤ s ∧ s < ((Int.toNat ((fn : Nat) : Int) : Nat) : Int) ∧ ∃ a2 : Addr, fA = some a2 ∧ 0 ≤ s2 ∧ s2 < ((fn : Nat) : Int) ∧ ∃ x2 : Int, cellH H_3 (a.add (Int.toNat s)) = some (.int .u64 x2) ∧ ∃ (xA : Option Addr) (xn xc : Nat), cellH H_3 (a2.add (Int.toNat s2)) = some (.slice xA xn xc) ∧ ∃ a3 : Addr, xA = some a3 ∧ 0 ≤ s ∧ s < ((xn : Nat) : Int) ∧ ∃ x3 : Int, cellH H_3 (a3.add (Int.toNat s)) = some (.int .u64 x3) ∧ CallH P N.juntoref01_Pow [.int .u64 p, .int .u64 x, .int .u64 (IntKind.u64.wrap s2)] H_3 fun v H_4 =>
  ∃ r : Int, v = .int .u64 r ∧ cellH H_4 (a3.add (Int.toNat s)) = some (.int .u64 x3) ∧ cellH H_4 (a2.add (Int.toNat s2)) = some (.slice xA xn xc) ∧ cellH H_4 (a.add (Int.toNat s)) = some (.int .u64 x2) ∧ CallH P N.juntoref01_Mul [.int .u64 p, .int .u64 x3, .int .u64 r] H_4 fun v2 H_5 =>
  ∃ r2 : Int, v2 = .int .u64 r2 ∧ cellH H_5 (a2.add (Int.toNat s2)) = some (.slice xA xn xc) ∧ cellH H_5 (a.add (Int.toNat s)) = some (.int .u64 x2) ∧ CallH P N.juntoref01_Add [.int .u64 p, .int .u64 x2, .int .u64 r2] H_5 fun v3 H_6 =>
  ∃ r3 : Int, v3 = .int .u64 r3 ∧ cellH H_6 (a2.add (Int.toNat s2)) = some (.slice xA xn xc) ∧ ∃ a4 : Addr, (some (Addr.mk H.size 0 none) : Option Addr) = some a4 ∧ 0 ≤ s ∧ s < ((Int.toNat ((fn : Nat) : Int) : Nat) : Int) ∧ MayWrite H_6 (a4.add (Int.toNat s)) 1 ∧ NewH (setH H_6 (a4.add (Int.toNat s)) (.int .u64 r3)) fun H_7 =>
  next2 (IntKind.i64.wrap (s2 + 1)) H_7)
   (next (IntKind.i64.wrap (s + 1)) H_3))
   (CallH P N.juntoref02_Trim [.slice (some (Addr.mk H.size 0 none)) (Int.toNat ((fn : Nat) : Int)) (Int.toNat ((fn : Nat) : Int))] H_2 fun v4 H_8 =>
  ∃ (rA : Option Addr) (rn rc : Nat), v4 = .slice rA rn rc ∧ R (.slice rA rn rc) H_8)
theorem juntoref06_Row.ok (p : Int) (fA : Option Addr) (fn fc : Nat) (x : Int) (H : Heap) (R : Value → Heap → Prop) (h : juntoref06_Row.W p fA fn fc x H R) : CallH P N.juntoref06_Row ([.int .u64 p, .slice fA fn fc, .int .u64 x] : List Value) H R := by
  have e : juntoref06_Row.W p fA fn fc x H R = sxFn P T Sh.R nf juntoref06_Row.A Try.f40.results.toList (bodyOf Try.f40) (([(.int .u64 p : Value), (.slice fA fn fc : Value), (.int .u64 x : Value)] : List Value) ++ List.replicate (50 - ([(.int .u64 p : Value), (.slice fA fn fc : Value), (.int .u64 x : Value)] : List Value).length) undef) H R := by kernel_rfl
  exact call_of_sx fits bodies mixed Try.func40 (c := bodyOf Try.f40) (by kernel_rfl) Try.ntmps40 juntoref06_Row.A (by kernel_rfl) (e.mp h)

/-! juntoref06_Tape -/
def juntoref06_Tape.A : Ann where
  loops := fun i => match i with
    | 12294 => [(4, .slice), (8, .int .i64)]
    | _ => []
  plans := fun i => match i with
    | 7 => .first 0 (.first 1 (.first 3 (.first 4 (.read 2 (.first 5 (.first 6 (.done)))))))
    | _ => .stop
def juntoref06_Tape.W (fA : Option Addr) (fn fc : Nat) (H : Heap) (R : Value → Heap → Prop) : Prop :=
  LoopI (σ := (Option Addr × Nat × Nat) × Int) (fun κ => κ ((none, 0, 0), 0) H) fun s z H_ next =>
  cond (decide (s.2 < ((fn : Nat) : Int))) (∃ a : Addr, fA = some a ∧ 0 ≤ s.2 ∧ s.2 < ((fn : Nat) : Int) ∧ ∃ (xA : Option Addr) (xn xc : Nat), cellH H_ (a.add (Int.toNat s.2)) = some (.slice xA xn xc) ∧ 0 ≤ s.2 ∧ s.2 ≤ ((xn : Nat) : Int) ∧ AppendV 22 1 8 [.int .u64 0] H_ s.1.1 s.1.2.1 s.1.2.2 (SubA xA xc (Int.toNat s.2) 1) (xn - (Int.toNat s.2)) fun vA vn vc H_2 =>
  next ((vA, vn, vc), IntKind.i64.wrap (s.2 + 1)) H_2)
   (∃ a2 : Addr, s.1.1 = some a2 ∧ 0 ≤ (0 : Int) ∧ (0 : Int) < ((s.1.2.1 : Nat) : Int) ∧ 0 ≤ (1 : Int) ∧ (1 : Int) ≤ ((s.1.2.1 : Nat) : Int) ∧ ∃ x : Int, cellH H_ (a2.add 0) = some (.int .u64 x) ∧ R (.tuple #[.int .u64 x, .slice (SubA s.1.1 s.1.2.2 1 1) (s.1.2.1 - 1) (s.1.2.2 - 1)]) H_)
theorem juntoref06_Tape.ok (fA : Option Addr) (fn fc : Nat) (H : Heap) (R : Value → Heap → Prop) (h : juntoref06_Tape.W fA fn fc H R) : CallH P N.juntoref06_Tape ([.slice fA fn fc] : List Value) H R := by
  have e : juntoref06_Tape.W fA fn fc H R = sxFn P T Sh.R nf juntoref06_Tape.A Try.f44.results.toList (bodyOf Try.f44) (([(.slice fA fn fc : Value)] : List Value) ++ List.replicate (25 - ([(.slice fA fn fc : Value)] : List Value).length) undef) H R := by kernel_rfl
  exact call_of_sx fits bodies mixed Try.func44 (c := bodyOf Try.f44) (by kernel_rfl) Try.ntmps44 juntoref06_Tape.A (by kernel_rfl) (e.mp h)

/-! juntoref06_Add -/
def juntoref06_Add.A : Ann where
  loops := fun i => match i with
    | 12300 => [(7, .slice), (13, .int .i64)]
    | 28682 => [(9, .slice), (18, .int .i64)]
    | _ => []
  plans := fun i => match i with
    | 9 => .first 0 (.first 1 (.first 2 (.first 3 (.first 4 (.first 6 (.first 9 (.first 10 (.first 11 (.first 13 (.read 5 (.first 7 (.read 8 (.read 12 (.first 14 (.read 15 (.alt 16 [8, 15] (.alt 17 [] (.alt 18 [] (.first 19 (.done)) (.stop)) (.stop)) (.stop)))))))))))))))))
    | _ => .stop
def juntoref06_Add.W (p : Int) (fA : Option Addr) (fn fc : Nat) (gA : Option Addr) (gn gc : Nat) (H : Heap) (R : Value → Heap → Prop) : Prop :=
  LoopI (σ := (Option Addr × Nat × Nat) × Int) (fun κ => κ ((none, 0, 0), 0) H) fun s z H_ next =>
  cond (decide (s.2 < ((fn : Nat) : Int))) (LoopI (σ := (Option Addr × Nat × Nat) × Int) (fun κ => κ ((none, 0, 0), 0) H_) fun s2 z2 H_2 next2 =>
  cond (decide (s2.2 < ((fn : Nat) : Int))) (∃ a : Addr, fA = some a ∧ 0 ≤ s.2 ∧ s.2 < ((fn : Nat) : Int) ∧ ∃ a2 : Addr, gA = some a2 ∧ 0 ≤ s.2 ∧ s.2 < ((gn : Nat) : Int) ∧ ∃ (xA : Option Addr) (xn xc : Nat), cellH H_2 (a.add (Int.toNat s.2)) = some (.slice xA xn xc) ∧ ∃ a3 : Addr, xA = some a3 ∧ 0 ≤ s2.2 ∧ s2.2 < ((xn : Nat) : Int) ∧ ∃ x : Int, cellH H_2 (a3.add (Int.toNat s2.2)) = some (.int .u64 x) ∧ ∃ (xA2 : Option Addr) (xn2 xc2 : Nat), cellH H_2 (a2.add (Int.toNat s.2)) = some (.slice xA2 xn2 xc2) ∧ ∃ a4 : Addr, xA2 = some a4 ∧ 0 ≤ s2.2 ∧ s2.2 < ((xn2 : Nat) : Int) ∧ ∃ x2 : Int, cellH H_2 (a4.add (Int.toNat s2.2)) = some (.int .u64 x2) ∧ CallH P N.juntoref01_Add [.int .u64 p, .int .u64 x, .int .u64 x2] H_2 fun v H_3 =>
  ∃ r : Int, v = .int .u64 r ∧ cellH H_3 (a2.add (Int.toNat s.2)) = some (.slice xA2 xn2 xc2) ∧ cellH H_3 (a.add (Int.toNat s.2)) = some (.slice xA xn xc) ∧ NewH (H_3.push (.cells #[.int .u64 r] 22 (0, 0))) fun H_4 =>
  cellH H_4 (a2.add (Int.toNat s.2)) = some (.slice xA2 xn2 xc2) ∧ cellH H_4 (a.add (Int.toNat s.2)) = some (.slice xA xn xc) ∧ AppendV 22 1 8 [.int .u64 0] H_4 s2.1.1 s2.1.2.1 s2.1.2.2 (some (Addr.mk H_3.size 0 none)) 1 fun vA vn vc H_5 =>
  cellH H_5 (a2.add (Int.toNat s.2)) = some (.slice xA2 xn2 xc2) ∧ cellH H_5 (a.add (Int.toNat s.2)) = some (.slice xA xn xc) ∧ next2 ((vA, vn, vc), IntKind.i64.wrap (s2.2 + 1)) H_5)
   (NewH (H_2.push (.cells #[.slice s2.1.1 s2.1.2.1 s2.1.2.2] 30 (0, 0))) fun H_6 =>
  AppendV 30 1 24 [.slice none 0 0] H_6 s.1.1 s.1.2.1 s.1.2.2 (some (Addr.mk H_2.size 0 none)) 1 fun vA2 vn2 vc2 H_7 =>
  next ((vA2, vn2, vc2), IntKind.i64.wrap (s.2 + 1)) H_7))
   (R (.slice s.1.1 s.1.2.1 s.1.2.2) H_)
theorem juntoref06_Add.ok (p : Int) (fA : Option Addr) (fn fc : Nat) (gA : Option Addr) (gn gc : Nat) (H : Heap) (R : Value → Heap → Prop) (h : juntoref06_Add.W p fA fn fc gA gn gc H R) : CallH P N.juntoref06_Add ([.int .u64 p, .slice fA fn fc, .slice gA gn gc] : List Value) H R := by
  have e : juntoref06_Add.W p fA fn fc gA gn gc H R = sxFn P T Sh.R nf juntoref06_Add.A Try.f46.results.toList (bodyOf Try.f46) (([(.int .u64 p : Value), (.slice fA fn fc : Value), (.slice gA gn gc : Value)] : List Value) ++ List.replicate (47 - ([(.int .u64 p : Value), (.slice fA fn fc : Value), (.slice gA gn gc : Value)] : List Value).length) undef) H R := by kernel_rfl
  exact call_of_sx fits bodies mixed Try.func46 (c := bodyOf Try.f46) (by kernel_rfl) Try.ntmps46 juntoref06_Add.A (by kernel_rfl) (e.mp h)

/-! juntoref06_Lift -/
def juntoref06_Lift.A : Ann where
  loops := fun i => match i with
    | 16397 => [(9, .slice), (21, .int .i64)]
    | 32779 => [(11, .slice), (26, .int .i64)]
    | _ => []
  plans := fun i => match i with
    | 10 => .first 0 (.first 1 (.first 2 (.first 3 (.first 4 (.first 5 (.first 6 (.first 8 (.first 9 (.first 10 (.read 7 (.read 11 (.alt 12 [7, 11] (.alt 13 [] (.alt 14 [] (.alt 15 [] (.first 16 (.done)) (.stop)) (.stop)) (.stop)) (.stop)))))))))))))
    | _ => .stop
def juntoref06_Lift.W (p : Int) (fA : Option Addr) (fn fc : Nat) (k : Int) (zA : Option Addr) (zn zc : Nat) (H : Heap) (R : Value → Heap → Prop) : Prop :=
  NewH (H.push (.cells #[] 22 (0, 0))) fun H_ =>
  AppendV 22 1 8 [.int .u64 0] H_ (some (Addr.mk H.size 0 none)) 0 0 zA zn fun vA vn vc H_2 =>
  0 ≤ ((fn : Nat) : Int) ∧ ((fn : Nat) : Int) * 8 ≤ 2 ^ 48 ∧ ((fn : Nat) : Int) < 2 ^ 62 ∧ AppendT 22 1 8 [.int .u64 0] H_2 vA vn vc (Int.toNat ((fn : Nat) : Int)) (repl (Int.toNat ((fn : Nat) : Int)) [.int .u64 0]) fun vA2 vn2 vc2 H_3 =>
  LoopI (σ := (Option Addr × Nat × Nat) × Int) (fun κ => κ ((none, 0, 0), 0) H_3) fun s z H_4 next =>
  cond (decide (s.2 < ((fn : Nat) : Int))) (LoopI (σ := (Option Addr × Nat × Nat) × Int) (fun κ => κ ((none, 0, 0), 0) H_4) fun s2 z2 H_5 next2 =>
  cond (decide (s2.2 < ((fn : Nat) : Int))) (∃ a : Addr, vA2 = some a ∧ 0 ≤ s.2 ∧ s.2 < ((vn2 : Nat) : Int) ∧ ∃ a2 : Addr, vA2 = some a2 ∧ 0 ≤ s2.2 ∧ s2.2 < ((vn2 : Nat) : Int) ∧ ∃ x : Int, cellH H_5 (a.add (Int.toNat s.2)) = some (.int .u64 x) ∧ ∃ x2 : Int, cellH H_5 (a2.add (Int.toNat s2.2)) = some (.int .u64 x2) ∧ CallH P N.juntoref01_Mul [.int .u64 p, .int .u64 x, .int .u64 x2] H_5 fun v3 H_6 =>
  ∃ r : Int, v3 = .int .u64 r ∧ CallH P N.juntoref01_Mul [.int .u64 p, .int .u64 k, .int .u64 r] H_6 fun v4 H_7 =>
  ∃ r2 : Int, v4 = .int .u64 r2 ∧ NewH (H_7.push (.cells #[.int .u64 r2] 22 (0, 0))) fun H_8 =>
  AppendV 22 1 8 [.int .u64 0] H_8 s2.1.1 s2.1.2.1 s2.1.2.2 (some (Addr.mk H_7.size 0 none)) 1 fun vA3 vn3 vc3 H_9 =>
  next2 ((vA3, vn3, vc3), IntKind.i64.wrap (s2.2 + 1)) H_9)
   (NewH (H_5.push (.cells #[.slice s2.1.1 s2.1.2.1 s2.1.2.2] 30 (0, 0))) fun H_10 =>
  AppendV 30 1 24 [.slice none 0 0] H_10 s.1.1 s.1.2.1 s.1.2.2 (some (Addr.mk H_5.size 0 none)) 1 fun vA4 vn4 vc4 H_11 =>
  next ((vA4, vn4, vc4), IntKind.i64.wrap (s.2 + 1)) H_11))
   (CallH P N.juntoref06_Add [.int .u64 p, .slice fA fn fc, .slice s.1.1 s.1.2.1 s.1.2.2] H_4 fun v7 H_12 =>
  ∃ (rA : Option Addr) (rn rc : Nat), v7 = .slice rA rn rc ∧ R (.slice rA rn rc) H_12)
theorem juntoref06_Lift.ok (p : Int) (fA : Option Addr) (fn fc : Nat) (k : Int) (zA : Option Addr) (zn zc : Nat) (H : Heap) (R : Value → Heap → Prop) (h : juntoref06_Lift.W p fA fn fc k zA zn zc H R) : CallH P N.juntoref06_Lift ([.int .u64 p, .slice fA fn fc, .int .u64 k, .slice zA zn zc] : List Value) H R := by
  have e : juntoref06_Lift.W p fA fn fc k zA zn zc H R = sxFn P T Sh.R nf juntoref06_Lift.A Try.f49.results.toList (bodyOf Try.f49) (([(.int .u64 p : Value), (.slice fA fn fc : Value), (.int .u64 k : Value), (.slice zA zn zc : Value)] : List Value) ++ List.replicate (55 - ([(.int .u64 p : Value), (.slice fA fn fc : Value), (.int .u64 k : Value), (.slice zA zn zc : Value)] : List Value).length) undef) H R := by kernel_rfl
  exact call_of_sx fits bodies mixed Try.func49 (c := bodyOf Try.f49) (by kernel_rfl) Try.ntmps49 juntoref06_Lift.A (by kernel_rfl) (e.mp h)

/-! juntoref06_Rows -/
def juntoref06_Rows.A : Ann where
  loops := fun i => match i with
    | 32781 => [(28, .int .i64)]
    | _ => []
  plans := fun i => match i with
    | _ => .stop
def juntoref06_Rows.W (p : Int) (xsA : Option Addr) (xsn xsc : Nat) (rowsA : Option Addr) (rowsn rowsc : Nat) (H : Heap) (R : Value → Heap → Prop) : Prop :=
  cond (decide (((xsn : Nat) : Int) > 13)) (R (.int .i64 3) H)
   (cond (((rowsn : Nat) : Int) != ((xsn : Nat) : Int)) (R (.int .i64 2) H) (CallH P N.juntoref01_Within [.int .u64 p, .slice xsA xsn xsc] H fun v H_ =>
  ∃ r : Int, v = .int .i64 r ∧ cond (r != 0) (R (.int .i64 2) H_)
   (CallH P N.juntoref02_Twice [.slice xsA xsn xsc] H_ fun v2 H_2 =>
  ∃ r2 : Bool, v2 = .bool r2 ∧ cond r2 (R (.int .i64 6) H_2)
   (LoopI (σ := Int) (fun κ => κ 0 H_2) fun s z H_3 next =>
  cond (decide (s < ((rowsn : Nat) : Int))) (∃ a : Addr, rowsA = some a ∧ 0 ≤ s ∧ s < ((rowsn : Nat) : Int) ∧ ∃ (xA : Option Addr) (xn xc : Nat), cellH H_3 (a.add (Int.toNat s)) = some (.slice xA xn xc) ∧ CallH P N.juntoref02_Within [.int .u64 p, .slice xA xn xc] H_3 fun v3 H_4 =>
  ∃ r3 : Int, v3 = .int .i64 r3 ∧ cond (r3 != 0) (R (.int .i64 r3) H_4)
   (next (IntKind.i64.wrap (s + 1)) H_4))
   (R (.int .i64 0) H_3)))))
theorem juntoref06_Rows.ok (p : Int) (xsA : Option Addr) (xsn xsc : Nat) (rowsA : Option Addr) (rowsn rowsc : Nat) (H : Heap) (R : Value → Heap → Prop) (h : juntoref06_Rows.W p xsA xsn xsc rowsA rowsn rowsc H R) : CallH P N.juntoref06_Rows ([.int .u64 p, .slice xsA xsn xsc, .slice rowsA rowsn rowsc] : List Value) H R := by
  have e : juntoref06_Rows.W p xsA xsn xsc rowsA rowsn rowsc H R = sxFn P T Sh.R nf juntoref06_Rows.A Try.f71.results.toList (bodyOf Try.f71) (([(.int .u64 p : Value), (.slice xsA xsn xsc : Value), (.slice rowsA rowsn rowsc : Value)] : List Value) ++ List.replicate (39 - ([(.int .u64 p : Value), (.slice xsA xsn xsc : Value), (.slice rowsA rowsn rowsc : Value)] : List Value).length) undef) H R := by kernel_rfl
  exact call_of_sx fits bodies mixed Try.func71 (c := bodyOf Try.f71) (by kernel_rfl) Try.ntmps71 juntoref06_Rows.A (by kernel_rfl) (e.mp h)

/-! juntoref06_Join -/
def juntoref06_Join.A : Ann where
  loops := fun i => match i with
    | 12294 => [(25, .int .i64)]
    | 32777 => [(12, .int .i64)]
    | 49165 => [(13, .slice), (14, .int .i64)]
    | 77846 => [(72, .int .i64)]
    | 106526 => [(92, .int .i64)]
    | _ => []
  plans := fun i => match i with
    | 28 => .first 0 (.first 1 (.first 2 (.first 4 (.first 5 (.first 6 (.read 7 (.alt 3 [] (.alt 8 [7] (.alt 9 [] (.first 10 (.done)) (.stop)) (.stop)) (.stop))))))))
    | _ => .stop
def juntoref06_Join.W (p : Int) (t : Int) (xsA : Option Addr) (xsn xsc : Nat) (rowsA : Option Addr) (rowsn rowsc : Nat) (H : Heap) (R : Value → Heap → Prop) : Prop :=
  0 ≤ (IntKind.i64.wrap (t + 1)) ∧ (IntKind.i64.wrap (t + 1)) ≤ (IntKind.i64.wrap (t + 1)) ∧ (IntKind.i64.wrap (t + 1)) * 24 ≤ 2 ^ 48 ∧ (IntKind.i64.wrap (t + 1)) < 2 ^ 62 ∧ NewH (H.push (.cells (repl (Int.toNat (IntKind.i64.wrap (t + 1))) [.slice none 0 0]).toArray 30 (0, 0))) fun H_ =>
  LoopI (σ := Int) (fun κ => κ 0 H_) fun s z H_2 next =>
  cond (decide (s < ((Int.toNat (IntKind.i64.wrap (t + 1)) : Nat) : Int))) (0 ≤ (IntKind.i64.wrap (t + 1)) ∧ (IntKind.i64.wrap (t + 1)) ≤ (IntKind.i64.wrap (t + 1)) ∧ (IntKind.i64.wrap (t + 1)) * 8 ≤ 2 ^ 48 ∧ (IntKind.i64.wrap (t + 1)) < 2 ^ 62 ∧ NewH (H_2.push (.cells (repl (Int.toNat (IntKind.i64.wrap (t + 1))) [.int .u64 0]).toArray 22 (0, 0))) fun H_3 =>
  ∃ a : Addr, (some (Addr.mk H.size 0 none) : Option Addr) = some a ∧ 0 ≤ s ∧ s < ((Int.toNat (IntKind.i64.wrap (t + 1)) : Nat) : Int) ∧ MayWrite H_3 (a.add (Int.toNat s)) 1 ∧ NewH (setH H_3 (a.add (Int.toNat s)) (.slice (some (Addr.mk H_2.size 0 none)) (Int.toNat (IntKind.i64.wrap (t + 1))) (Int.toNat (IntKind.i64.wrap (t + 1))))) fun H_4 =>
  next (IntKind.i64.wrap (s + 1)) H_4)
   (LoopI (σ := Int) (fun κ => κ 0 H_2) fun s2 z2 H_5 next2 =>
  cond (decide (s2 ≤ t)) (LoopI (σ := (Option Addr × Nat × Nat) × Int) (fun κ => κ ((none, 0, 0), 0) H_5) fun s3 z3 H_6 next3 =>
  cond (decide (s3.2 ≤ t)) (∃ a2 : Addr, rowsA = some a2 ∧ 0 ≤ s3.2 ∧ s3.2 < ((rowsn : Nat) : Int) ∧ ∃ (xA : Option Addr) (xn xc : Nat), cellH H_6 (a2.add (Int.toNat s3.2)) = some (.slice xA xn xc) ∧ cond (decide (s2 < ((xn : Nat) : Int))) (∃ a3 : Addr, rowsA = some a3 ∧ 0 ≤ s3.2 ∧ s3.2 < ((rowsn : Nat) : Int) ∧ ∃ (xA2 : Option Addr) (xn2 xc2 : Nat), cellH H_6 (a3.add (Int.toNat s3.2)) = some (.slice xA2 xn2 xc2) ∧ ∃ a4 : Addr, xA2 = some a4 ∧ 0 ≤ s2 ∧ s2 < ((xn2 : Nat) : Int) ∧ ∃ x : Int, cellH H_6 (a4.add (Int.toNat s2)) = some (.int .u64 x) ∧ ∃ a5 : Addr, xsA = some a5 ∧ 0 ≤ s3.2 ∧ s3.2 < ((xsn : Nat) : Int) ∧ ∃ x2 : Int, cellH H_6 (a5.add (Int.toNat s3.2)) = some (.int .u64 x2) ∧ NewH (H_6.push (.cells #[.int .u64 x2, .int .u64 x] 103 (0, 0))) fun H_7 =>
  AppendV 103 2 16 [.int .u64 0, .int .u64 0] H_7 s3.1.1 s3.1.2.1 s3.1.2.2 (some (Addr.mk H_6.size 0 none)) 1 fun vA vn vc H_8 =>
  next3 ((vA, vn, vc), IntKind.i64.wrap (s3.2 + 1)) H_8)
   (∃ a6 : Addr, xsA = some a6 ∧ 0 ≤ s3.2 ∧ s3.2 < ((xsn : Nat) : Int) ∧ ∃ x3 : Int, cellH H_6 (a6.add (Int.toNat s3.2)) = some (.int .u64 x3) ∧ NewH (H_6.push (.cells #[.int .u64 x3, .int .u64 0] 103 (0, 0))) fun H_9 =>
  AppendV 103 2 16 [.int .u64 0, .int .u64 0] H_9 s3.1.1 s3.1.2.1 s3.1.2.2 (some (Addr.mk H_6.size 0 none)) 1 fun vA2 vn2 vc2 H_10 =>
  next3 ((vA2, vn2, vc2), IntKind.i64.wrap (s3.2 + 1)) H_10))
   (CallH P N.juntoref02_Through [.int .u64 p, .slice s3.1.1 s3.1.2.1 s3.1.2.2] H_6 fun v3 H_11 =>
  ∃ (rA : Option Addr) (rn rc : Nat), v3 = .slice rA rn rc ∧ LoopI (σ := Int) (fun κ => κ 0 H_11) fun s4 z4 H_12 next4 =>
  cond (decide (s4 < ((rn : Nat) : Int))) (∃ a7 : Addr, rA = some a7 ∧ 0 ≤ s4 ∧ s4 < ((rn : Nat) : Int) ∧ ∃ x4 : Int, cellH H_12 (a7.add (Int.toNat s4)) = some (.int .u64 x4) ∧ ∃ a8 : Addr, (some (Addr.mk H.size 0 none) : Option Addr) = some a8 ∧ 0 ≤ s4 ∧ s4 < ((Int.toNat (IntKind.i64.wrap (t + 1)) : Nat) : Int) ∧ ∃ (xA3 : Option Addr) (xn3 xc3 : Nat), cellH H_12 (a8.add (Int.toNat s4)) = some (.slice xA3 xn3 xc3) ∧ ∃ a9 : Addr, xA3 = some a9 ∧ 0 ≤ s2 ∧ s2 < ((xn3 : Nat) : Int) ∧ MayWrite H_12 (a9.add (Int.toNat s2)) 1 ∧ NewH (setH H_12 (a9.add (Int.toNat s2)) (.int .u64 x4)) fun H_13 =>
  next4 (IntKind.i64.wrap (s4 + 1)) H_13)
   (next2 (IntKind.i64.wrap (s2 + 1)) H_12)))
   (CallH P N.juntoref06_form [.int .u64 p, .int .i64 t, .slice (some (Addr.mk H.size 0 none)) (Int.toNat (IntKind.i64.wrap (t + 1))) (Int.toNat (IntKind.i64.wrap (t + 1)))] H_5 fun v4 H_14 =>
  ∃ r : Int, v4 = .int .i64 r ∧ cond (r != 0) (R (.tuple #[.slice none 0 0, .bool false]) H_14)
   (LoopI (σ := Int) (fun κ => κ 0 H_14) fun s5 z5 H_15 next5 =>
  cond (decide (s5 < ((xsn : Nat) : Int))) (∃ a10 : Addr, xsA = some a10 ∧ 0 ≤ s5 ∧ s5 < ((xsn : Nat) : Int) ∧ ∃ x5 : Int, cellH H_15 (a10.add (Int.toNat s5)) = some (.int .u64 x5) ∧ ∃ a11 : Addr, rowsA = some a11 ∧ 0 ≤ s5 ∧ s5 < ((rowsn : Nat) : Int) ∧ ∃ (xA4 : Option Addr) (xn4 xc4 : Nat), cellH H_15 (a11.add (Int.toNat s5)) = some (.slice xA4 xn4 xc4) ∧ CallH P N.juntoref06_Row [.int .u64 p, .slice (some (Addr.mk H.size 0 none)) (Int.toNat (IntKind.i64.wrap (t + 1))) (Int.toNat (IntKind.i64.wrap (t + 1))), .int .u64 x5] H_15 fun v5 H_16 =>
  ∃ (rA2 : Option Addr) (rn2 rc2 : Nat), v5 = .slice rA2 rn2 rc2 ∧ cellH H_16 (a11.add (Int.toNat s5)) = some (.slice xA4 xn4 xc4) ∧ CallH P N.juntoref02_Trim [.slice xA4 xn4 xc4] H_16 fun v6 H_17 =>
  ∃ (rA3 : Option Addr) (rn3 rc3 : Nat), v6 = .slice rA3 rn3 rc3 ∧ CallH P N.juntoref01_Same [.slice rA2 rn2 rc2, .slice rA3 rn3 rc3] H_17 fun v7 H_18 =>
  ∃ r2 : Bool, v7 = .bool r2 ∧ cond (!r2) (R (.tuple #[.slice none 0 0, .bool false]) H_18)
   (next5 (IntKind.i64.wrap (s5 + 1)) H_18))
   (R (.tuple #[.slice (some (Addr.mk H.size 0 none)) (Int.toNat (IntKind.i64.wrap (t + 1))) (Int.toNat (IntKind.i64.wrap (t + 1))), .bool true]) H_15))))
theorem juntoref06_Join.ok (p : Int) (t : Int) (xsA : Option Addr) (xsn xsc : Nat) (rowsA : Option Addr) (rowsn rowsc : Nat) (H : Heap) (R : Value → Heap → Prop) (h : juntoref06_Join.W p t xsA xsn xsc rowsA rowsn rowsc H R) : CallH P N.juntoref06_Join ([.int .u64 p, .int .i64 t, .slice xsA xsn xsc, .slice rowsA rowsn rowsc] : List Value) H R := by
  have e : juntoref06_Join.W p t xsA xsn xsc rowsA rowsn rowsc H R = sxFn P T Sh.R nf juntoref06_Join.A Try.f72.results.toList (bodyOf Try.f72) (([(.int .u64 p : Value), (.int .i64 t : Value), (.slice xsA xsn xsc : Value), (.slice rowsA rowsn rowsc : Value)] : List Value) ++ List.replicate (110 - ([(.int .u64 p : Value), (.int .i64 t : Value), (.slice xsA xsn xsc : Value), (.slice rowsA rowsn rowsc : Value)] : List Value).length) undef) H R := by kernel_rfl
  exact call_of_sx fits bodies mixed Try.func72 (c := bodyOf Try.f72) (by kernel_rfl) Try.ntmps72 juntoref06_Join.A (by kernel_rfl) (e.mp h)

/-! juntoref06_Quarrels -/
def juntoref06_Quarrels.A : Ann where
  loops := fun i => match i with
    | 12298 => [(7, .slice), (12, .int .i64)]
    | 24583 => [(7, .slice), (9, .int .i64)]
    | _ => []
  plans := fun i => match i with
    | 8 => .first 0 (.first 1 (.first 2 (.first 3 (.first 5 (.first 6 (.first 7 (.first 10 (.first 11 (.first 12 (.first 13 (.first 15 (.first 16 (.first 17 (.read 4 (.read 8 (.read 14 (.read 18 (.alt 9 [4, 8] (.alt 19 [14, 18] (.first 20 (.done)) (.stop)) (.stop)))))))))))))))))))
    | _ => .stop
def juntoref06_Quarrels.W (p : Int) (xsA : Option Addr) (xsn xsc : Nat) (rowsA : Option Addr) (rowsn rowsc : Nat) (H : Heap) (R : Value → Heap → Prop) : Prop :=
  LoopI (σ := (Option Addr × Nat × Nat) × Int) (fun κ => κ ((none, 0, 0), 0) H) fun s z H_ next =>
  cond (decide (s.2 < ((xsn : Nat) : Int))) (LoopI (σ := (Option Addr × Nat × Nat) × Int) (fun κ => κ ((s.1.1, s.1.2.1, s.1.2.2), IntKind.i64.wrap (s.2 + 1)) H_) fun s2 z2 H_2 next2 =>
  cond (decide (s2.2 < ((xsn : Nat) : Int))) (∃ a : Addr, rowsA = some a ∧ 0 ≤ s.2 ∧ s.2 < ((rowsn : Nat) : Int) ∧ ∃ a2 : Addr, xsA = some a2 ∧ 0 ≤ s2.2 ∧ s2.2 < ((xsn : Nat) : Int) ∧ ∃ a3 : Addr, rowsA = some a3 ∧ 0 ≤ s2.2 ∧ s2.2 < ((rowsn : Nat) : Int) ∧ ∃ a4 : Addr, xsA = some a4 ∧ 0 ≤ s.2 ∧ s.2 < ((xsn : Nat) : Int) ∧ ∃ (xA : Option Addr) (xn xc : Nat), cellH H_2 (a.add (Int.toNat s.2)) = some (.slice xA xn xc) ∧ ∃ x : Int, cellH H_2 (a2.add (Int.toNat s2.2)) = some (.int .u64 x) ∧ ∃ (xA2 : Option Addr) (xn2 xc2 : Nat), cellH H_2 (a3.add (Int.toNat s2.2)) = some (.slice xA2 xn2 xc2) ∧ ∃ x2 : Int, cellH H_2 (a4.add (Int.toNat s.2)) = some (.int .u64 x2) ∧ CallH P N.juntoref02_Eval [.int .u64 p, .slice xA xn xc, .int .u64 x] H_2 fun v H_3 =>
  ∃ r : Int, v = .int .u64 r ∧ cellH H_3 (a4.add (Int.toNat s.2)) = some (.int .u64 x2) ∧ cellH H_3 (a3.add (Int.toNat s2.2)) = some (.slice xA2 xn2 xc2) ∧ CallH P N.juntoref02_Eval [.int .u64 p, .slice xA2 xn2 xc2, .int .u64 x2] H_3 fun v2 H_4 =>
  ∃ r2 : Int, v2 = .int .u64 r2 ∧ cond (r != r2) (NewH (H_4.push (.cells #[.int .i64 s.2, .int .i64 s2.2] 81 (0, 0))) fun H_5 =>
  AppendV 81 2 16 [.int .i64 0, .int .i64 0] H_5 s2.1.1 s2.1.2.1 s2.1.2.2 (some (Addr.mk H_4.size 0 none)) 1 fun vA vn vc H_6 =>
  next2 ((vA, vn, vc), IntKind.i64.wrap (s2.2 + 1)) H_6)
   (next2 ((s2.1.1, s2.1.2.1, s2.1.2.2), IntKind.i64.wrap (s2.2 + 1)) H_4))
   (next ((s2.1.1, s2.1.2.1, s2.1.2.2), IntKind.i64.wrap (s.2 + 1)) H_2))
   (R (.slice s.1.1 s.1.2.1 s.1.2.2) H_)
theorem juntoref06_Quarrels.ok (p : Int) (xsA : Option Addr) (xsn xsc : Nat) (rowsA : Option Addr) (rowsn rowsc : Nat) (H : Heap) (R : Value → Heap → Prop) (h : juntoref06_Quarrels.W p xsA xsn xsc rowsA rowsn rowsc H R) : CallH P N.juntoref06_Quarrels ([.int .u64 p, .slice xsA xsn xsc, .slice rowsA rowsn rowsc] : List Value) H R := by
  have e : juntoref06_Quarrels.W p xsA xsn xsc rowsA rowsn rowsc H R = sxFn P T Sh.R nf juntoref06_Quarrels.A Try.f74.results.toList (bodyOf Try.f74) (([(.int .u64 p : Value), (.slice xsA xsn xsc : Value), (.slice rowsA rowsn rowsc : Value)] : List Value) ++ List.replicate (52 - ([(.int .u64 p : Value), (.slice xsA xsn xsc : Value), (.slice rowsA rowsn rowsc : Value)] : List Value).length) undef) H R := by kernel_rfl
  exact call_of_sx fits bodies mixed Try.func74 (c := bodyOf Try.f74) (by kernel_rfl) Try.ntmps74 juntoref06_Quarrels.A (by kernel_rfl) (e.mp h)

/-! juntoref06_Same -/
def juntoref06_Same.A : Ann where
  loops := fun i => match i with
    | 16392 => [(13, .int .i64)]
    | _ => []
  plans := fun i => match i with
    | 6 => .first 0 (.first 1 (.first 2 (.first 4 (.first 5 (.first 6 (.read 3 (.read 7 (.alt 8 [3, 7] (.first 9 (.done)) (.stop)))))))))
    | _ => .stop
def juntoref06_Same.W (fA : Option Addr) (fn fc : Nat) (gA : Option Addr) (gn gc : Nat) (H : Heap) (R : Value → Heap → Prop) : Prop :=
  cond (((fn : Nat) : Int) != ((gn : Nat) : Int)) (R (.bool false) H)
   (LoopI (σ := Int) (fun κ => κ 0 H) fun s z H_ next =>
  cond (decide (s < ((fn : Nat) : Int))) (∃ a : Addr, fA = some a ∧ 0 ≤ s ∧ s < ((fn : Nat) : Int) ∧ ∃ a2 : Addr, gA = some a2 ∧ 0 ≤ s ∧ s < ((gn : Nat) : Int) ∧ ∃ (xA : Option Addr) (xn xc : Nat), cellH H_ (a.add (Int.toNat s)) = some (.slice xA xn xc) ∧ ∃ (xA2 : Option Addr) (xn2 xc2 : Nat), cellH H_ (a2.add (Int.toNat s)) = some (.slice xA2 xn2 xc2) ∧ CallH P N.juntoref01_Same [.slice xA xn xc, .slice xA2 xn2 xc2] H_ fun v H_2 =>
  ∃ r : Bool, v = .bool r ∧ cond (!r) (R (.bool false) H_2)
   (next (IntKind.i64.wrap (s + 1)) H_2))
   (R (.bool true) H_))
theorem juntoref06_Same.ok (fA : Option Addr) (fn fc : Nat) (gA : Option Addr) (gn gc : Nat) (H : Heap) (R : Value → Heap → Prop) (h : juntoref06_Same.W fA fn fc gA gn gc H R) : CallH P N.juntoref06_Same ([.slice fA fn fc, .slice gA gn gc] : List Value) H R := by
  have e : juntoref06_Same.W fA fn fc gA gn gc H R = sxFn P T Sh.R nf juntoref06_Same.A Try.f75.results.toList (bodyOf Try.f75) (([(.slice fA fn fc : Value), (.slice gA gn gc : Value)] : List Value) ++ List.replicate (27 - ([(.slice fA fn fc : Value), (.slice gA gn gc : Value)] : List Value).length) undef) H R := by kernel_rfl
  exact call_of_sx fits bodies mixed Try.func75 (c := bodyOf Try.f75) (by kernel_rfl) Try.ntmps75 juntoref06_Same.A (by kernel_rfl) (e.mp h)

/-! juntoref06_form -/
def juntoref06_form.A : Ann where
  loops := fun i => match i with
    | 16392 => [(21, .int .i64)]
    | 40975 => [(33, .int .i64)]
    | 69657 => [(46, .int .i64)]
    | 81944 => [(51, .int .i64)]
    | _ => []
  plans := fun i => match i with
    | 22 => .first 0 (.first 1 (.first 2 (.first 4 (.first 7 (.first 8 (.first 9 (.first 11 (.read 3 (.first 5 (.read 6 (.read 10 (.first 12 (.read 13 (.first 14 (.done)))))))))))))))
    | _ => .stop
def juntoref06_form.W (p : Int) (t : Int) (fA : Option Addr) (fn fc : Nat) (H : Heap) (R : Value → Heap → Prop) : Prop :=
  cond (((fn : Nat) : Int) != (IntKind.i64.wrap (t + 1))) (R (.int .i64 4) H)
   (LoopI (σ := Int) (fun κ => κ 0 H) fun s z H_ next =>
  cond (decide (s < ((fn : Nat) : Int))) (∃ a : Addr, fA = some a ∧ 0 ≤ s ∧ s < ((fn : Nat) : Int) ∧ ∃ (xA : Option Addr) (xn xc : Nat), cellH H_ (a.add (Int.toNat s)) = some (.slice xA xn xc) ∧ cond (((xn : Nat) : Int) != (IntKind.i64.wrap (t + 1))) (R (.int .i64 4) H_)
   (next (IntKind.i64.wrap (s + 1)) H_))
   (LoopI (σ := Int) (fun κ => κ 0 H_) fun s2 z2 H_2 next2 =>
  cond (decide (s2 < ((fn : Nat) : Int))) (∃ a2 : Addr, fA = some a2 ∧ 0 ≤ s2 ∧ s2 < ((fn : Nat) : Int) ∧ ∃ (xA2 : Option Addr) (xn2 xc2 : Nat), cellH H_2 (a2.add (Int.toNat s2)) = some (.slice xA2 xn2 xc2) ∧ CallH P N.juntoref01_Within [.int .u64 p, .slice xA2 xn2 xc2] H_2 fun v H_3 =>
  ∃ r : Int, v = .int .i64 r ∧ cond (r != 0) (R (.int .i64 r) H_3)
   (next2 (IntKind.i64.wrap (s2 + 1)) H_3))
   (LoopI (σ := Int) (fun κ => κ 0 H_2) fun s3 z3 H_4 next3 =>
  cond (decide (s3 < ((fn : Nat) : Int))) (LoopI (σ := Int) (fun κ => κ 0 H_4) fun s4 z4 H_5 next4 =>
  cond (decide (s4 < ((fn : Nat) : Int))) (∃ a3 : Addr, fA = some a3 ∧ 0 ≤ s3 ∧ s3 < ((fn : Nat) : Int) ∧ ∃ a4 : Addr, fA = some a4 ∧ 0 ≤ s4 ∧ s4 < ((fn : Nat) : Int) ∧ ∃ (xA3 : Option Addr) (xn3 xc3 : Nat), cellH H_5 (a3.add (Int.toNat s3)) = some (.slice xA3 xn3 xc3) ∧ ∃ a5 : Addr, xA3 = some a5 ∧ 0 ≤ s4 ∧ s4 < ((xn3 : Nat) : Int) ∧ ∃ x : Int, cellH H_5 (a5.add (Int.toNat s4)) = some (.int .u64 x) ∧ ∃ (xA4 : Option Addr) (xn4 xc4 : Nat), cellH H_5 (a4.add (Int.toNat s4)) = some (.slice xA4 xn4 xc4) ∧ ∃ a6 : Addr, xA4 = some a6 ∧ 0 ≤ s3 ∧ s3 < ((xn4 : Nat) : Int) ∧ ∃ x2 : Int, cellH H_5 (a6.add (Int.toNat s3)) = some (.int .u64 x2) ∧ cond (x != x2) (R (.int .i64 4) H_5)
   (next4 (IntKind.i64.wrap (s4 + 1)) H_5))
   (next3 (IntKind.i64.wrap (s3 + 1)) H_5))
   (R (.int .i64 0) H_4))))
theorem juntoref06_form.ok (p : Int) (t : Int) (fA : Option Addr) (fn fc : Nat) (H : Heap) (R : Value → Heap → Prop) (h : juntoref06_form.W p t fA fn fc H R) : CallH P N.juntoref06_form ([.int .u64 p, .int .i64 t, .slice fA fn fc] : List Value) H R := by
  have e : juntoref06_form.W p t fA fn fc H R = sxFn P T Sh.R nf juntoref06_form.A Try.f80.results.toList (bodyOf Try.f80) (([(.int .u64 p : Value), (.int .i64 t : Value), (.slice fA fn fc : Value)] : List Value) ++ List.replicate (71 - ([(.int .u64 p : Value), (.int .i64 t : Value), (.slice fA fn fc : Value)] : List Value).length) undef) H R := by kernel_rfl
  exact call_of_sx fits bodies mixed Try.func80 (c := bodyOf Try.f80) (by kernel_rfl) Try.ntmps80 juntoref06_form.A (by kernel_rfl) (e.mp h)

end Go.Proofs.Ytlhcaangdenoaaa.Sh
