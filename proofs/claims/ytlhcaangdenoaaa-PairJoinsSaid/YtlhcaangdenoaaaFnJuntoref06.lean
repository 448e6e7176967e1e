import Derived.Test.YtlhcaangdenoaaaTypes
import Derived.Test.YtlhcaangdenoaaaFnJuntoref01
import Derived.Test.YtlhcaangdenoaaaFnJuntoref02
set_option linter.unusedVariables false
set_option linter.unusedSimpArgs false
set_option maxRecDepth 100000
namespace Go.Proofs.Ytlhcaangdenoaaa.Sh
open Go.Sx

/-! juntoref06_Check -/
def juntoref06_Check.A : Ann where
  loops := fun i => match i with
    | 20490 => [(19, .int .i64)]
    | _ => []
  plans := fun i => match i with
    | _ => .stop
def juntoref06_Check.W (p : Int) (t : Int) (lA : Option Addr) (ln lc : Nat) (H : Heap) (R : Value → Heap → Prop) : Prop :=
  CallH P N.juntoref06_Bounds [.int .u64 p, .int .i64 t] H fun v H_ =>
  ∃ r : Int, v = .int .i64 r ∧ cond (r != 0) (R (.int .i64 r) H_)
   (LoopI (σ := Int) (fun κ => κ 0 H_) fun s z H_2 next =>
  cond (decide (s < ((ln : Nat) : Int))) (∃ a : Addr, lA = some a ∧ 0 ≤ s ∧ s < ((ln : Nat) : Int) ∧ ∃ (xA : Option Addr) (xn xc : Nat), cellH H_2 (a.add (Int.toNat s)) = some (.slice xA xn xc) ∧ CallH P N.juntoref06_form [.int .u64 p, .int .i64 t, .slice xA xn xc] H_2 fun v2 H_3 =>
  ∃ r2 : Int, v2 = .int .i64 r2 ∧ cond (r2 != 0) (R (.int .i64 r2) H_3)
   (next (IntKind.i64.wrap (s + 1)) H_3))
   (R (.int .i64 0) H_2))
theorem juntoref06_Check.ok (p : Int) (t : Int) (lA : Option Addr) (ln lc : Nat) (H : Heap) (R : Value → Heap → Prop) (h : juntoref06_Check.W p t lA ln lc H R) : CallH P N.juntoref06_Check ([.int .u64 p, .int .i64 t, .slice lA ln lc] : List Value) H R := by
  have e : juntoref06_Check.W p t lA ln lc H R = sxFn P T Sh.R nf juntoref06_Check.A Try.f25.results.toList (bodyOf Try.f25) (([(.int .u64 p : Value), (.int .i64 t : Value), (.slice lA ln lc : Value)] : List Value) ++ List.replicate (31 - ([(.int .u64 p : Value), (.int .i64 t : Value), (.slice lA ln lc : Value)] : List Value).length) undef) H R := by kernel_rfl
  exact call_of_sx fits bodies mixed Try.func25 (c := bodyOf Try.f25) (by kernel_rfl) Try.ntmps25 juntoref06_Check.A (by kernel_rfl) (e.mp h)

/-! juntoref06_Size -/
def juntoref06_Size.A : Ann where
  loops := fun i => match i with
    | _ => []
  plans := fun i => match i with
    | _ => .stop
def juntoref06_Size.W (t : Int) (H : Heap) (R : Value → Heap → Prop) : Prop :=
  cond (decide (t < 0)) (R (.int .i64 0) H) (cond (decide (t > 3)) (R (.int .i64 0) H)
   ((2 : Int) ≠ 0 ∧ R (.int .i64 (IntKind.i64.wrap ((IntKind.i64.wrap (Int.tdiv (IntKind.i64.wrap ((IntKind.i64.wrap (t + 1)) * (IntKind.i64.wrap (t + 2)))) 2)) - 1))) H))
theorem juntoref06_Size.ok (t : Int) (H : Heap) (R : Value → Heap → Prop) (h : juntoref06_Size.W t H R) : CallH P N.juntoref06_Size ([.int .i64 t] : List Value) H R := by
  have e : juntoref06_Size.W t H R = sxFn P T Sh.R nf juntoref06_Size.A Try.f27.results.toList (bodyOf Try.f27) (([(.int .i64 t : Value)] : List Value) ++ List.replicate (16 - ([(.int .i64 t : Value)] : List Value).length) undef) H R := by kernel_rfl
  exact call_of_sx fits bodies mixed Try.func27 (c := bodyOf Try.f27) (by kernel_rfl) Try.ntmps27 juntoref06_Size.A (by kernel_rfl) (e.mp h)

/-! juntoref06_Bounds -/
def juntoref06_Bounds.A : Ann where
  loops := fun i => match i with
    | _ => []
  plans := fun i => match i with
    | _ => .stop
def juntoref06_Bounds.W (p : Int) (t : Int) (H : Heap) (R : Value → Heap → Prop) : Prop :=
  CallH P N.juntoref01_Is [.int .u64 p] H fun v H_ =>
  ∃ r : Bool, v = .bool r ∧ cond (!r) (R (.int .i64 2) H_) (cond (decide (t < 0)) (R (.int .i64 2) H_) (cond (decide (t > 3)) (R (.int .i64 2) H_)
   (R (.int .i64 0) H_)))
theorem juntoref06_Bounds.ok (p : Int) (t : Int) (H : Heap) (R : Value → Heap → Prop) (h : juntoref06_Bounds.W p t H R) : CallH P N.juntoref06_Bounds ([.int .u64 p, .int .i64 t] : List Value) H R := by
  have e : juntoref06_Bounds.W p t H R = sxFn P T Sh.R nf juntoref06_Bounds.A Try.f30.results.toList (bodyOf Try.f30) (([(.int .u64 p : Value), (.int .i64 t : Value)] : List Value) ++ List.replicate (16 - ([(.int .u64 p : Value), (.int .i64 t : Value)] : List Value).length) undef) H R := by kernel_rfl
  exact call_of_sx fits bodies mixed Try.func30 (c := bodyOf Try.f30) (by kernel_rfl) Try.ntmps30 juntoref06_Bounds.A (by kernel_rfl) (e.mp h)

/-! juntoref06_Make -/
def juntoref06_Make.A : Ann where
  loops := fun i => match i with
    | 20488 => [(34, .int .i64)]
    | 45074 => [(14, .int .i64), (46, .int .i64)]
    | 57359 => [(14, .int .i64), (16, .int .i64)]
    | _ => []
  plans := fun i => match i with
    | 16 => .first 0 (.first 1 (.first 2 (.first 4 (.first 5 (.first 6 (.first 7 (.first 9 (.first 10 (.first 11 (.first 12 (.first 14 (.first 15 (.first 16 (.read 3 (.read 8 (.read 13 (.read 17 (.first 18 (.alt 19 [3, 8, 13, 17] (.first 20 (.alt 21 [] (.done) (.stop))) (.stop))))))))))))))))))))
    | _ => .stop
def juntoref06_Make.W (p : Int) (secret : Int) (t : Int) (tapeA : Option Addr) (tapen tapec : Nat) (H : Heap) (R : Value → Heap → Prop) : Prop :=
  CallH P N.juntoref06_Size [.int .i64 t] H fun v H_ =>
  ∃ r : Int, v = .int .i64 r ∧ CallH P N.juntoref01_Draw [.int .u64 p, .slice tapeA tapen tapec, .int .i64 r] H_ fun v2 H_2 =>
  ∃ (r0A : Option Addr) (r0n r0c : Nat), ∃ (r1A : Option Addr) (r1n r1c : Nat), v2 = .tuple #[.slice r0A r0n r0c, .slice r1A r1n r1c] ∧ NewH (H_2.push (.cells #[.int .u64 secret] 22 (0, 0))) fun H_3 =>
  AppendV 22 1 8 [.int .u64 0] H_3 (some (Addr.mk H_2.size 0 none)) 1 1 r0A r0n fun vA vn vc H_4 =>
  0 ≤ (IntKind.i64.wrap (t + 1)) ∧ (IntKind.i64.wrap (t + 1)) ≤ (IntKind.i64.wrap (t + 1)) ∧ (IntKind.i64.wrap (t + 1)) * 24 ≤ 2 ^ 48 ∧ (IntKind.i64.wrap (t + 1)) < 2 ^ 62 ∧ NewH (H_4.push (.cells (repl (Int.toNat (IntKind.i64.wrap (t + 1))) [.slice none 0 0]).toArray 30 (0, 0))) fun H_5 =>
  LoopI (σ := Int) (fun κ => κ 0 H_5) fun s z H_6 next =>
  cond (decide (s < ((Int.toNat (IntKind.i64.wrap (t + 1)) : Nat) : Int))) (0 ≤ (IntKind.i64.wrap (t + 1)) ∧ (IntKind.i64.wrap (t + 1)) ≤ (IntKind.i64.wrap (t + 1)) ∧ (IntKind.i64.wrap (t + 1)) * 8 ≤ 2 ^ 48 ∧ (IntKind.i64.wrap (t + 1)) < 2 ^ 62 ∧ NewH (H_6.push (.cells (repl (Int.toNat (IntKind.i64.wrap (t + 1))) [.int .u64 0]).toArray 22 (0, 0))) fun H_7 =>
  ∃ a : Addr, (some (Addr.mk H_4.size 0 none) : Option Addr) = some a ∧ 0 ≤ s ∧ s < ((Int.toNat (IntKind.i64.wrap (t + 1)) : Nat) : Int) ∧ MayWrite H_7 (a.add (Int.toNat s)) 1 ∧ NewH (setH H_7 (a.add (Int.toNat s)) (.slice (some (Addr.mk H_6.size 0 none)) (Int.toNat (IntKind.i64.wrap (t + 1))) (Int.toNat (IntKind.i64.wrap (t + 1))))) fun H_8 =>
  next (IntKind.i64.wrap (s + 1)) H_8)
   (LoopI (σ := Int × Int) (fun κ => κ (0, 0) H_6) fun s2 z2 H_9 next2 =>
  cond (decide (s2.2 < ((Int.toNat (IntKind.i64.wrap (t + 1)) : Nat) : Int))) (LoopI (σ := Int × Int) (fun κ => κ (s2.1, s2.2) H_9) fun s3 z3 H_10 next3 =>
  cond (decide (s3.2 ≤ t)) (∃ a2 : Addr, (some (Addr.mk H_4.size 0 none) : Option Addr) = some a2 ∧ 0 ≤ s2.2 ∧ s2.2 < ((Int.toNat (IntKind.i64.wrap (t + 1)) : Nat) : Int) ∧ ∃ a3 : Addr, (some (Addr.mk H_4.size 0 none) : Option Addr) = some a3 ∧ 0 ≤ s3.2 ∧ s3.2 < ((Int.toNat (IntKind.i64.wrap (t + 1)) : Nat) : Int) ∧ ∃ a4 : Addr, vA = some a4 ∧ 0 ≤ s3.1 ∧ s3.1 < ((vn : Nat) : Int) ∧ ∃ a5 : Addr, vA = some a5 ∧ 0 ≤ s3.1 ∧ s3.1 < ((vn : Nat) : Int) ∧ ∃ (xA : Option Addr) (xn xc : Nat), cellH H_10 (a2.add (Int.toNat s2.2)) = some (.slice xA xn xc) ∧ ∃ (xA2 : Option Addr) (xn2 xc2 : Nat), cellH H_10 (a3.add (Int.toNat s3.2)) = some (.slice xA2 xn2 xc2) ∧ ∃ x : Int, cellH H_10 (a4.add (Int.toNat s3.1)) = some (.int .u64 x) ∧ ∃ x2 : Int, cellH H_10 (a5.add (Int.toNat s3.1)) = some (.int .u64 x2) ∧ ∃ a6 : Addr, xA = some a6 ∧ 0 ≤ s3.2 ∧ s3.2 < ((xn : Nat) : Int) ∧ MayWrite H_10 (a6.add (Int.toNat s3.2)) 1 ∧ NewH (setH H_10 (a6.add (Int.toNat s3.2)) (.int .u64 x)) fun H_11 =>
  ∃ a7 : Addr, xA2 = some a7 ∧ 0 ≤ s2.2 ∧ s2.2 < ((xn2 : Nat) : Int) ∧ MayWrite H_11 (a7.add (Int.toNat s2.2)) 1 ∧ NewH (setH H_11 (a7.add (Int.toNat s2.2)) (.int .u64 x2)) fun H_12 =>
  next3 (IntKind.i64.wrap (s3.1 + 1), IntKind.i64.wrap (s3.2 + 1)) H_12)
   (next2 (s3.1, IntKind.i64.wrap (s2.2 + 1)) H_10))
   (R (.tuple #[.slice (some (Addr.mk H_4.size 0 none)) (Int.toNat (IntKind.i64.wrap (t + 1))) (Int.toNat (IntKind.i64.wrap (t + 1))), .slice r1A r1n r1c]) H_9))
theorem juntoref06_Make.ok (p : Int) (secret : Int) (t : Int) (tapeA : Option Addr) (tapen tapec : Nat) (H : Heap) (R : Value → Heap → Prop) (h : juntoref06_Make.W p secret t tapeA tapen tapec H R) : CallH P N.juntoref06_Make ([.int .u64 p, .int .u64 secret, .int .i64 t, .slice tapeA tapen tapec] : List Value) H R := by
  have e : juntoref06_Make.W p secret t tapeA tapen tapec H R = sxFn P T Sh.R nf juntoref06_Make.A Try.f32.results.toList (bodyOf Try.f32) (([(.int .u64 p : Value), (.int .u64 secret : Value), (.int .i64 t : Value), (.slice tapeA tapen tapec : Value)] : List Value) ++ List.replicate (80 - ([(.int .u64 p : Value), (.int .u64 secret : Value), (.int .i64 t : Value), (.slice tapeA tapen tapec : Value)] : List Value).length) undef) H R := by kernel_rfl
  exact call_of_sx fits bodies mixed Try.func32 (c := bodyOf Try.f32) (by kernel_rfl) Try.ntmps32 juntoref06_Make.A (by kernel_rfl) (e.mp h)

/-! juntoref06_At -/
def juntoref06_At.A : Ann where
  loops := fun i => match i with
    | _ => []
  plans := fun i => match i with
    | _ => .stop
def juntoref06_At.W (p : Int) (fA : Option Addr) (fn fc : Nat) (x : Int) (y : Int) (H : Heap) (R : Value → Heap → Prop) : Prop :=
  CallH P N.juntoref06_Row [.int .u64 p, .slice fA fn fc, .int .u64 x] H fun v H_ =>
  ∃ (rA : Option Addr) (rn rc : Nat), v = .slice rA rn rc ∧ CallH P N.juntoref02_Eval [.int .u64 p, .slice rA rn rc, .int .u64 y] H_ fun v2 H_2 =>
  ∃ r : Int, v2 = .int .u64 r ∧ R (.int .u64 r) H_2
theorem juntoref06_At.ok (p : Int) (fA : Option Addr) (fn fc : Nat) (x : Int) (y : Int) (H : Heap) (R : Value → Heap → Prop) (h : juntoref06_At.W p fA fn fc x y H R) : CallH P N.juntoref06_At ([.int .u64 p, .slice fA fn fc, .int .u64 x, .int .u64 y] : List Value) H R := by
  have e : juntoref06_At.W p fA fn fc x y H R = sxFn P T Sh.R nf juntoref06_At.A Try.f38.results.toList (bodyOf Try.f38) (([(.int .u64 p : Value), (.slice fA fn fc : Value), (.int .u64 x : Value), (.int .u64 y : Value)] : List Value) ++ List.replicate (16 - ([(.int .u64 p : Value), (.slice fA fn fc : Value), (.int .u64 x : Value), (.int .u64 y : Value)] : List Value).length) undef) H R := by kernel_rfl
  exact call_of_sx fits bodies mixed Try.func38 (c := bodyOf Try.f38) (by kernel_rfl) Try.ntmps38 juntoref06_At.A (by kernel_rfl) (e.mp h)

/-! juntoref06_Row -/
def juntoref06_Row.A : Ann where
  loops := fun i => match i with
    | 12298 => [(15, .int .i64)]
    | 24585 => [(20, .int .i64)]
    | _ => []
  plans := fun i => match i with
    | 8 => .first 0 (.first 1 (.first 2 (.first 3 (.first 4 (.first 5 (.first 7 (.first 8 (.first 9 (.first 10 (.first 12 (.first 15 (.first 16 (.first 17 (.first 18 (.read 6 (.read 11 (.first 13 (.read 14 (.alt 19 [] (.alt 20 [14] (.alt 21 [6] (.first 22 (.alt 23 [11] (.done) (.stop))) (.stop)) (.stop)) (.stop))))))))))))))))))))
    | _ => .stop
def juntoref06_Row.W (p : Int) (fA : Option Addr) (fn fc : Nat) (x : Int) (H : Heap) (R : Value → Heap → Prop) : Prop :=
  0 ≤ ((fn : Nat) : Int) ∧ ((fn : Nat) : Int) ≤ ((fn : Nat) : Int) ∧ ((fn : Nat) : Int) * 8 ≤ 2 ^ 48 ∧ ((fn : Nat) : Int) < 2 ^ 62 ∧ NewH (H.push (.cells (repl (Int.toNat ((fn : Nat) : Int)) [.int .u64 0]).toArray 22 (0, 0))) fun H_ =>
  LoopI (σ := Int) (fun κ => κ 0 H_) fun s z H_2 next =>
  cond (decide (s < ((fn : Nat) : Int))) (LoopI (σ := Int) (fun κ => κ 0 H_2) fun s2 z2 H_3 next2 =>
  cond (decide (s2 < ((fn : Nat) : Int))) (∃ a : Addr, (some (Addr.mk H.size 0 none) : Option Addr) = some a ∧ 0 ≤ s ∧ s < ((Int.toNat ((fn : Nat) : Int) : Nat) : Int) ∧ ∃ a2 : Addr, fA = some a2 ∧ 0 ≤ s2 ∧ s2 < ((fn : Nat) : Int) ∧ ∃ x2 : Int, cellH H_3 (a.add (Int.toNat s)) = some (.int .u64 x2) ∧ ∃ (xA : Option Addr) (xn xc : Nat), cellH H_3 (a2.add (Int.toNat s2)) = some (.slice xA xn xc) ∧ ∃ a3 : Addr, xA = some a3 ∧ 0 ≤ s ∧ s < ((xn : Nat) : Int) ∧ ∃ x3 : Int, cellH H_3 (a3.add (Int.toNat s)) = some (.int .u64 x3) ∧ CallH P N.juntoref01_Pow [.int .u64 p, .int .u64 x, .int .u64 (IntKind.u64.wrap s2)] H_3 fun v H_4 =>
  ∃ r : Int, v = .int .u64 r ∧ cellH H_4 (a3.add (Int.toNat s)) = some (.int .u64 x3) ∧ cellH H_4 (a2.add (Int.toNat s2)) = some (.slice xA xn xc) ∧ cellH H_4 (a.add (Int.toNat s)) = some (.int .u64 x2) ∧ CallH P N.juntoref01_Mul [.int .u64 p, .int .u64 x3, .int .u64 r] H_4 fun v2 H_5 =>
  ∃ r2 : Int, v2 = .int .u64 r2 ∧ cellH H_5 (a2.add (Int.toNat s2)) = some (.slice xA xn xc) ∧ cellH H_5 (a.add (Int.toNat s)) = some (.int .u64 x2) ∧ CallH P N.juntoref01_Add [.int .u64 p, .int .u64 x2, .int .u64 r2] H_5 fun v3 H_6 =>
  ∃ r3 : Int, v3 = .int .u64 r3 ∧ cellH H_6 (a2.add (Int.toNat s2)) = some (.slice xA xn xc) ∧ ∃ a4 : Addr, (some (Addr.mk H.size 0 none) : Option Addr) = some a4 ∧ 0 ≤ s ∧ s < ((Int.toNat ((fn : Nat) : Int) : Nat) : Int) ∧ MayWrite H_6 (a4.add (Int.toNat s)) 1 ∧ NewH (setH H_6 (a4.add (Int.toNat s)) (.int .u64 r3)) fun H_7 =>
  next2 (IntKind.i64.wrap (s2 + 1)) H_7)
   (next (IntKind.i64.wrap (s + 1)) H_3))
   (CallH P N.juntoref02_Trim [.slice (some (Addr.mk H.size 0 none)) (Int.toNat ((fn : Nat) : Int)) (Int.toNat ((fn : Nat) : Int))] H_2 fun v4 H_8 =>
  ∃ (rA : Option Addr) (rn rc : Nat), v4 = .slice rA rn rc ∧ R (.slice rA rn rc) H_8)
theorem juntoref06_Row.ok (p : Int) (fA : Option Addr) (fn fc : Nat) (x : Int) (H : Heap) (R : Value → Heap → Prop) (h : juntoref06_Row.W p fA fn fc x H R) : CallH P N.juntoref06_Row ([.int .u64 p, .slice fA fn fc, .int .u64 x] : List Value) H R := by
  have e : juntoref06_Row.W p fA fn fc x H R = sxFn P T Sh.R nf juntoref06_Row.A Try.f40.results.toList (bodyOf Try.f40) (([(.int .u64 p : Value), (.slice fA fn fc : Value), (.int .u64 x : Value)] : List Value) ++ List.replicate (50 - ([(.int .u64 p : Value), (.slice fA fn fc : Value), (.int .u64 x : Value)] : List Value).length) undef) H R := by kernel_rfl
  exact call_of_sx fits bodies mixed Try.func40 (c := bodyOf Try.f40) (by kernel_rfl) Try.ntmps40 juntoref06_Row.A (by kernel_rfl) (e.mp h)

/-! juntoref06_Tape -/
def juntoref06_Tape.A : Ann where
  loops := fun i => match i with
    | 12294 => [(4, .slice), (8, .int .i64)]
    | _ => []
  plans := fun i => match i with
    | 7 => .first 0 (.first 1 (.first 3 (.first 4 (.read 2 (.first 5 (.first 6 (.done)))))))
    | _ => .stop
def juntoref06_Tape.W (fA : Option Addr) (fn fc : Nat) (H : Heap) (R : Value → Heap → Prop) : Prop :=
  LoopI (σ := (Option Addr × Nat × Nat) × Int) (fun κ => κ ((none, 0, 0), 0) H) fun s z H_ next =>
  cond (decide (s.2 < ((fn : Nat) : Int))) (∃ a : Addr, fA = some a ∧ 0 ≤ s.2 ∧ s.2 < ((fn : Nat) : Int) ∧ ∃ (xA : Option Addr) (xn xc : Nat), cellH H_ (a.add (Int.toNat s.2)) = some (.slice xA xn xc) ∧ 0 ≤ s.2 ∧ s.2 ≤ ((xn : Nat) : Int) ∧ AppendV 22 1 8 [.int .u64 0] H_ s.1.1 s.1.2.1 s.1.2.2 (SubA xA xc (Int.toNat s.2) 1) (xn - (Int.toNat s.2)) fun vA vn vc H_2 =>
  next ((vA, vn, vc), IntKind.i64.wrap (s.2 + 1)) H_2)
   (∃ a2 : Addr, s.1.1 = some a2 ∧ 0 ≤ (0 : Int) ∧ (0 : Int) < ((s.1.2.1 : Nat) : Int) ∧ 0 ≤ (1 : Int) ∧ (1 : Int) ≤ ((s.1.2.1 : Nat) : Int) ∧ ∃ x : Int, cellH H_ (a2.add 0) = some (.int .u64 x) ∧ R (.tuple #[.int .u64 x, .slice (SubA s.1.1 s.1.2.2 1 1) (s.1.2.1 - 1) (s.1.2.2 - 1)]) H_)
theorem juntoref06_Tape.ok (fA : Option Addr) (fn fc : Nat) (H : Heap) (R : Value → Heap → Prop) (h : juntoref06_Tape.W fA fn fc H R) : CallH P N.juntoref06_Tape ([.slice fA fn fc] : List Value) H R := by
  have e : juntoref06_Tape.W fA fn fc H R = sxFn P T Sh.R nf juntoref06_Tape.A Try.f44.results.toList (bodyOf Try.f44) (([(.slice fA fn fc : Value)] : List Value) ++ List.replicate (25 - ([(.slice fA fn fc : Value)] : List Value).length) undef) H R := by kernel_rfl
  exact call_of_sx fits bodies mixed Try.func44 (c := bodyOf Try.f44) (by kernel_rfl) Try.ntmps44 juntoref06_Tape.A (by kernel_rfl) (e.mp h)

/-! juntoref06_Add -/
def juntoref06_Add.A : Ann where
  loops := fun i => match i with
    | 12300 => [(7, .slice), (13, .int .i64)]
    | 28682 => [(9, .slice), (18, .int .i64)]
    | _ => []
  plans := fun i => match i with
    | 9 => .first 0 (.first 1 (.first 2 (.first 3 (.first 4 (.first 6 (.first 9 (.first 10 (.first 11 (.first 13 (.read 5 (.first 7 (.read 8 (.read 12 (.first 14 (.read 15 (.alt 16 [8, 15] (.alt 17 [] (.alt 18 [] (.first 19 (.done)) (.stop)) (.stop)) (.stop)))))))))))))))))
    | _ => .stop
def juntoref06_Add.W (p : Int) (fA : Option Addr) (fn fc : Nat) (gA : Option Addr) (gn gc : Nat) (H : Heap) (R : Value → Heap → Prop) : Prop :=
  LoopI (σ := (Option Addr × Nat × Nat) × Int) (fun κ => κ ((none, 0, 0), 0) H) fun s z H_ next =>
  cond (decide (s.2 < ((fn : Nat) : Int))) (LoopI (σ := (Option Addr × Nat × Nat) × Int) (fun κ => κ ((none, 0, 0), 0) H_) fun s2 z2 H_2 next2 =>
  cond (decide (s2.2 < ((fn : Nat) : Int))) (∃ a : Addr, fA = some a ∧ 0 ≤ s.2 ∧ s.2 < ((fn : Nat) : Int) ∧ ∃ a2 : Addr, gA = some a2 ∧ 0 ≤ s.2 ∧ s.2 < ((gn : Nat) : Int) ∧ ∃ (xA : Option Addr) (xn xc : Nat), cellH H_2 (a.add (Int.toNat s.2)) = some (.slice xA xn xc) ∧ ∃ a3 : Addr, xA = some a3 ∧ 0 ≤ s2.2 ∧ s2.2 < ((xn : Nat) : Int) ∧ ∃ x : Int, cellH H_2 (a3.add (Int.toNat s2.2)) = some (.int .u64 x) ∧ ∃ (xA2 : Option Addr) (xn2 xc2 : Nat), cellH H_2 (a2.add (Int.toNat s.2)) = some (.slice xA2 xn2 xc2) ∧ ∃ a4 : Addr, xA2 = some a4 ∧ 0 ≤ s2.2 ∧ s2.2 < ((xn2 : Nat) : Int) ∧ ∃ x2 : Int, cellH H_2 (a4.add (Int.toNat s2.2)) = some (.int .u64 x2) ∧ CallH P N.juntoref01_Add [.int .u64 p, .int .u64 x, .int .u64 x2] H_2 fun v H_3 =>
  ∃ r : Int, v = .int .u64 r ∧ cellH H_3 (a2.add (Int.toNat s.2)) = some (.slice xA2 xn2 xc2) ∧ cellH H_3 (a.add (Int.toNat s.2)) = some (.slice xA xn xc) ∧ NewH (H_3.push (.cells #[.int .u64 r] 22 (0, 0))) fun H_4 =>
  cellH H_4 (a2.add (Int.toNat s.2)) = some (.slice xA2 xn2 xc2) ∧ cellH H_4 (a.add (Int.toNat s.2)) = some (.slice xA xn xc) ∧ AppendV 22 1 8 [.int .u64 0] H_4 s2.1.1 s2.1.2.1 s2.1.2.2 (some (Addr.mk H_3.size 0 none)) 1 fun vA vn vc H_5 =>
  cellH H_5 (a2.add (Int.toNat s.2)) = some (.slice xA2 xn2 xc2) ∧ cellH H_5 (a.add (Int.toNat s.2)) = some (.slice xA xn xc) ∧ next2 ((vA, vn, vc), IntKind.i64.wrap (s2.2 + 1)) H_5)
   (NewH (H_2.push (.cells #[.slice s2.1.1 s2.1.2.1 s2.1.2.2] 30 (0, 0))) fun H_6 =>
  AppendV 30 1 24 [.slice none 0 0] H_6 s.1.1 s.1.2.1 s.1.2.2 (some (Addr.mk H_2.size 0 none)) 1 fun vA2 vn2 vc2 H_7 =>
  next ((vA2, vn2, vc2), IntKind.i64.wrap (s.2 + 1)) H_7))
   (R (.slice s.1.1 s.1.2.1 s.1.2.2) H_)
theorem juntoref06_Add.ok (p : Int) (fA : Option Addr) (fn fc : Nat) (gA : Option Addr) (gn gc : Nat) (H : Heap) (R : Value → Heap → Prop) (h : juntoref06_Add.W p fA fn fc gA gn gc H R) : CallH P N.juntoref06_Add ([.int .u64 p, .slice fA fn fc, .slice gA gn gc] : List Value) H R := by
  have e : juntoref06_Add.W p fA fn fc gA gn gc H R = sxFn P T Sh.R nf juntoref06_Add.A Try.f46.results.toList (bodyOf Try.f46) (([(.int .u64 p : Value), (.slice fA fn fc : Value), (.slice gA gn gc : Value)] : List Value) ++ List.replicate (47 - ([(.int .u64 p : Value), (.slice fA fn fc : Value), (.slice gA gn gc : Value)] : List Value).length) undef) H R := by kernel_rfl
  exact call_of_sx fits bodies mixed Try.func46 (c := bodyOf Try.f46) (by kernel_rfl) Try.ntmps46 juntoref06_Add.A (by kernel_rfl) (e.mp h)

/-! juntoref06_Lift -/
def juntoref06_Lift.A : Ann where
  loops := fun i => match i with
    | 16397 => [(9, .slice), (21, .int .i64)]
    | 32779 => [(11, .slice), (26, .int .i64)]
    | _ => []
  plans := fun i => match i with
    | 10 => .first 0 (.first 1 (.first 2 (.first 3 (.first 4 (.first 5 (.first 6 (.first 8 (.first 9 (.first 10 (.read 7 (.read 11 (.alt 12 [7, 11] (.alt 13 [] (.alt 14 [] (.alt 15 [] (.first 16 (.done)) (.stop)) (.stop)) (.stop)) (.stop)))))))))))))
    | _ => .stop
def juntoref06_Lift.W (p : Int) (fA : Option Addr) (fn fc : Nat) (k : Int) (zA : Option Addr) (zn zc : Nat) (H : Heap) (R : Value → Heap → Prop) : Prop :=
  NewH (H.push (.cells #[] 22 (0, 0))) fun H_ =>
  AppendV 22 1 8 [.int .u64 0] H_ (some (Addr.mk H.size 0 none)) 0 0 zA zn fun vA vn vc H_2 =>
  0 ≤ ((fn : Nat) : Int) ∧ ((fn : Nat) : Int) * 8 ≤ 2 ^ 48 ∧ ((fn : Nat) : Int) < 2 ^ 62 ∧ AppendT 22 1 8 [.int .u64 0] H_2 vA vn vc (Int.toNat ((fn : Nat) : Int)) (repl (Int.toNat ((fn : Nat) : Int)) [.int .u64 0]) fun vA2 vn2 vc2 H_3 =>
  LoopI (σ := (Option Addr × Nat × Nat) × Int) (fun κ => κ ((none, 0, 0), 0) H_3) fun s z H_4 next =>
  cond (decide (s.2 < ((fn : Nat) : Int))) (LoopI (σ := (Option Addr × Nat × Nat) × Int) (fun κ => κ ((none, 0, 0), 0) H_4) fun s2 z2 H_5 next2 =>
  cond (decide (s2.2 < ((fn : Nat) : Int))) (∃ a : Addr, vA2 = some a ∧ 0 ≤ s.2 ∧ s.2 < ((vn2 : Nat) : Int) ∧ ∃ a2 : Addr, vA2 = some a2 ∧ 0 ≤ s2.2 ∧ s2.2 < ((vn2 : Nat) : Int) ∧ ∃ x : Int, cellH H_5 (a.add (Int.toNat s.2)) = some (.int .u64 x) ∧ ∃ x2 : Int, cellH H_5 (a2.add (Int.toNat s2.2)) = some (.int .u64 x2) ∧ CallH P N.juntoref01_Mul [.int .u64 p, .int .u64 x, .int .u64 x2] H_5 fun v3 H_6 =>
  ∃ r : Int, v3 = .int .u64 r ∧ CallH P N.juntoref01_Mul [.int .u64 p, .int .u64 k, .int .u64 r] H_6 fun v4 H_7 =>
  ∃ r2 : Int, v4 = .int .u64 r2 ∧ NewH (H_7.push (.cells #[.int .u64 r2] 22 (0, 0))) fun H_8 =>
  AppendV 22 1 8 [.int .u64 0] H_8 s2.1.1 s2.1.2.1 s2.1.2.2 (some (Addr.mk H_7.size 0 none)) 1 fun vA3 vn3 vc3 H_9 =>
  next2 ((vA3, vn3, vc3), IntKind.i64.wrap (s2.2 + 1)) H_9)
   (NewH (H_5.push (.cells #[.slice s2.1.1 s2.1.2.1 s2.1.2.2] 30 (0, 0))) fun H_10 =>
  AppendV 30 1 24 [.slice none 0 0] H_10 s.1.1 s.1.2.1 s.1.2.2 (some (Addr.mk H_5.size 0 none)) 1 fun vA4 vn4 vc4 H_11 =>
  next ((vA4, vn4, vc4), IntKind.i64.wrap (s.2 + 1)) H_11))
   (CallH P N.juntoref06_Add [.int .u64 p, .slice fA fn fc, .slice s.1.1 s.1.2.1 s.1.2.2] H_4 fun v7 H_12 =>
  ∃ (rA : Option Addr) (rn rc : Nat), v7 = .slice rA rn rc ∧ R (.slice rA rn rc) H_12)
theorem juntoref06_Lift.ok (p : Int) (fA : Option Addr) (fn fc : Nat) (k : Int) (zA : Option Addr) (zn zc : Nat) (H : Heap) (R : Value → Heap → Prop) (h : juntoref06_Lift.W p fA fn fc k zA zn zc H R) : CallH P N.juntoref06_Lift ([.int .u64 p, .slice fA fn fc, .int .u64 k, .slice zA zn zc] : List Value) H R := by
  have e : juntoref06_Lift.W p fA fn fc k zA zn zc H R = sxFn P T Sh.R nf juntoref06_Lift.A Try.f49.results.toList (bodyOf Try.f49) (([(.int .u64 p : Value), (.slice fA fn fc : Value), (.int .u64 k : Value), (.slice zA zn zc : Value)] : List Value) ++ List.replicate (55 - ([(.int .u64 p : Value), (.slice fA fn fc : Value), (.int .u64 k : Value), (.slice zA zn zc : Value)] : List Value).length) undef) H R := by kernel_rfl
  exact call_of_sx fits bodies mixed Try.func49 (c := bodyOf Try.f49) (by kernel_rfl) Try.ntmps49 juntoref06_Lift.A (by kernel_rfl) (e.mp h)

/-! juntoref06_Rows -/
def juntoref06_Rows.A : Ann where
  loops := fun i => match i with
    | 32781 => [(28, .int .i64)]
    | _ => []
  plans := fun i => match i with
    | _ => .stop
def juntoref06_Rows.W (p : Int) (xsA : Option Addr) (xsn xsc : Nat) (rowsA : Option Addr) (rowsn rowsc : Nat) (H : Heap) (R : Value → Heap → Prop) : Prop :=
  cond (decide (((xsn : Nat) : Int) > 13)) (R (.int .i64 3) H)
   (cond (((rowsn : Nat) : Int) != ((xsn : Nat) : Int)) (R (.int .i64 2) H) (CallH P N.juntoref01_Within [.int .u64 p, .slice xsA xsn xsc] H fun v H_ =>
  ∃ r : Int, v = .int .i64 r ∧ cond (r != 0) (R (.int .i64 2) H_)
   (CallH P N.juntoref02_Twice [.slice xsA xsn xsc] H_ fun v2 H_2 =>
  ∃ r2 : Bool, v2 = .bool r2 ∧ cond r2 (R (.int .i64 6) H_2)
   (LoopI (σ := Int) (fun κ => κ 0 H_2) fun s z H_3 next =>
  cond (decide (s < ((rowsn : Nat) : Int))) (∃ a : Addr, rowsA = some a ∧ 0 ≤ s ∧ s < ((rowsn : Nat) : Int) ∧ ∃ (xA : Option Addr) (xn xc : Nat), cellH H_3 (a.add (Int.toNat s)) = some (.slice xA xn xc) ∧ CallH P N.juntoref02_Within [.int .u64 p, .slice xA xn xc] H_3 fun v3 H_4 =>
  ∃ r3 : Int, v3 = .int .i64 r3 ∧ cond (r3 != 0) (R (.int .i64 r3) H_4)
   (next (IntKind.i64.wrap (s + 1)) H_4))
   (R (.int .i64 0) H_3)))))
theorem juntoref06_Rows.ok (p : Int) (xsA : Option Addr) (xsn xsc : Nat) (rowsA : Option Addr) (rowsn rowsc : Nat) (H : Heap) (R : Value → Heap → Prop) (h : juntoref06_Rows.W p xsA xsn xsc rowsA rowsn rowsc H R) : CallH P N.juntoref06_Rows ([.int .u64 p, .slice xsA xsn xsc, .slice rowsA rowsn rowsc] : List Value) H R := by
  have e : juntoref06_Rows.W p xsA xsn xsc rowsA rowsn rowsc H R = sxFn P T Sh.R nf juntoref06_Rows.A Try.f71.results.toList (bodyOf Try.f71) (([(.int .u64 p : Value), (.slice xsA xsn xsc : Value), (.slice rowsA rowsn rowsc : Value)] : List Value) ++ List.replicate (39 - ([(.int .u64 p : Value), (.slice xsA xsn xsc : Value), (.slice rowsA rowsn rowsc : Value)] : List Value).length) undef) H R := by kernel_rfl
  exact call_of_sx fits bodies mixed Try.func71 (c := bodyOf Try.f71) (by kernel_rfl) Try.ntmps71 juntoref06_Rows.A (by kernel_rfl) (e.mp h)

/-! juntoref06_Join -/
def juntoref06_Join.A : Ann where
  loops := fun i => match i with
    | 12294 => [(25, .int .i64)]
    | 32777 => [(12, .int .i64)]
    | 49165 => [(13, .slice), (14, .int .i64)]
    | 77846 => [(72, .int .i64)]
    | 106526 => [(92, .int .i64)]
    | _ => []
  plans := fun i => match i with
    | 28 => .first 0 (.first 1 (.first 2 (.first 4 (.first 5 (.first 6 (.read 7 (.alt 3 [] (.alt 8 [7] (.alt 9 [] (.first 10 (.done)) (.stop)) (.stop)) (.stop))))))))
    | _ => .stop
def juntoref06_Join.W (p : Int) (t : Int) (xsA : Option Addr) (xsn xsc : Nat) (rowsA : Option Addr) (rowsn rowsc : Nat) (H : Heap) (R : Value → Heap → Prop) : Prop :=
  0 ≤ (IntKind.i64.wrap (t + 1)) ∧ (IntKind.i64.wrap (t + 1)) ≤ (IntKind.i64.wrap (t + 1)) ∧ (IntKind.i64.wrap (t + 1)) * 24 ≤ 2 ^ 48 ∧ (IntKind.i64.wrap (t + 1)) < 2 ^ 62 ∧ NewH (H.push (.cells (repl (Int.toNat (IntKind.i64.wrap (t + 1))) [.slice none 0 0]).toArray 30 (0, 0))) fun H_ =>
  LoopI (σ := Int) (fun κ => κ 0 H_) fun s z H_2 next =>
  cond (decide (s < ((Int.toNat (IntKind.i64.wrap (t + 1)) : Nat) : Int))) (0 ≤ (IntKind.i64.wrap (t + 1)) ∧ (IntKind.i64.wrap (t + 1)) ≤ (IntKind.i64.wrap (t + 1)) ∧ (IntKind.i64.wrap (t + 1)) * 8 ≤ 2 ^ 48 ∧ (IntKind.i64.wrap (t + 1)) < 2 ^ 62 ∧ NewH (H_2.push (.cells (repl (Int.toNat (IntKind.i64.wrap (t + 1))) [.int .u64 0]).toArray 22 (0, 0))) fun H_3 =>
  ∃ a : Addr, (some (Addr.mk H.size 0 none) : Option Addr) = some a ∧ 0 ≤ s ∧ s < ((Int.toNat (IntKind.i64.wrap (t + 1)) : Nat) : Int) ∧ MayWrite H_3 (a.add (Int.toNat s)) 1 ∧ NewH (setH H_3 (a.add (Int.toNat s)) (.slice (some (Addr.mk H_2.size 0 none)) (Int.toNat (IntKind.i64.wrap (t + 1))) (Int.toNat (IntKind.i64.wrap (t + 1))))) fun H_4 =>
  next (IntKind.i64.wrap (s + 1)) H_4)
   (LoopI (σ := Int) (fun κ => κ 0 H_2) fun s2 z2 H_5 next2 =>
  cond (decide (s2 ≤ t)) (LoopI (σ := (Option Addr × Nat × Nat) × Int) (fun κ => κ ((none, 0, 0), 0) H_5) fun s3 z3 H_6 next3 =>
  cond (decide (s3.2 ≤ t)) (∃ a2 : Addr, rowsA = some a2 ∧ 0 ≤ s3.2 ∧ s3.2 < ((rowsn : Nat) : Int) ∧ ∃ (xA : Option Addr) (xn xc : Nat), cellH H_6 (a2.add (Int.toNat s3.2)) = some (.slice xA xn xc) ∧ cond (decide (s2 < ((xn : Nat) : Int))) (∃ a3 : Addr, rowsA = some a3 ∧ 0 ≤ s3.2 ∧ s3.2 < ((rowsn : Nat) : Int) ∧ ∃ (xA2 : Option Addr) (xn2 xc2 : Nat), cellH H_6 (a3.add (Int.toNat s3.2)) = some (.slice xA2 xn2 xc2) ∧ ∃ a4 : Addr, xA2 = some a4 ∧ 0 ≤ s2 ∧ s2 < ((xn2 : Nat) : Int) ∧ ∃ x : Int, cellH H_6 (a4.add (Int.toNat s2)) = some (.int .u64 x) ∧ ∃ a5 : Addr, xsA = some a5 ∧ 0 ≤ s3.2 ∧ s3.2 < ((xsn : Nat) : Int) ∧ ∃ x2 : Int, cellH H_6 (a5.add (Int.toNat s3.2)) = some (.int .u64 x2) ∧ NewH (H_6.push (.cells #[.int .u64 x2, .int .u64 x] 103 (0, 0))) fun H_7 =>
  AppendV 103 2 16 [.int .u64 0, .int .u64 0] H_7 s3.1.1 s3.1.2.1 s3.1.2.2 (some (Addr.mk H_6.size 0 none)) 1 fun vA vn vc H_8 =>
  next3 ((vA, vn, vc), IntKind.i64.wrap (s3.2 + 1)) H_8)
   (∃ a6 : Addr, xsA = some a6 ∧ 0 ≤ s3.2 ∧ s3.2 < ((xsn : Nat) : Int) ∧ ∃ x3 : Int, cellH H_6 (a6.add (Int.toNat s3.2)) = some (.int .u64 x3) ∧ NewH (H_6.push (.cells #[.int .u64 x3, .int .u64 0] 103 (0, 0))) fun H_9 =>
  AppendV 103 2 16 [.int .u64 0, .int .u64 0] H_9 s3.1.1 s3.1.2.1 s3.1.2.2 (some (Addr.mk H_6.size 0 none)) 1 fun vA2 vn2 vc2 H_10 =>
  next3 ((vA2, vn2, vc2), IntKind.i64.wrap (s3.2 + 1)) H_10))
   (CallH P N.juntoref02_Through [.int .u64 p, .slice s3.1.1 s3.1.2.1 s3.1.2.2] H_6 fun v3 H_11 =>
  ∃ (rA : Option Addr) (rn rc : Nat), v3 = .slice rA rn rc ∧ LoopI (σ := Int) (fun κ => κ 0 H_11) fun s4 z4 H_12 next4 =>
  cond (decide (s4 < ((rn : Nat) : Int))) (∃ a7 : Addr, rA = some a7 ∧ 0 ≤ s4 ∧ s4 < ((rn : Nat) : Int) ∧ ∃ x4 : Int, cellH H_12 (a7.add (Int.toNat s4)) = some (.int .u64 x4) ∧ ∃ a8 : Addr, (some (Addr.mk H.size 0 none) : Option Addr) = some a8 ∧ 0 ≤ s4 ∧ s4 < ((Int.toNat (IntKind.i64.wrap (t + 1)) : Nat) : Int) ∧ ∃ (xA3 : Option Addr) (xn3 xc3 : Nat), cellH H_12 (a8.add (Int.toNat s4)) = some (.slice xA3 xn3 xc3) ∧ ∃ a9 : Addr, xA3 = some a9 ∧ 0 ≤ s2 ∧ s2 < ((xn3 : Nat) : Int) ∧ MayWrite H_12 (a9.add (Int.toNat s2)) 1 ∧ NewH (setH H_12 (a9.add (Int.toNat s2)) (.int .u64 x4)) fun H_13 =>
  next4 (IntKind.i64.wrap (s4 + 1)) H_13)
   (next2 (IntKind.i64.wrap (s2 + 1)) H_12)))
   (CallH P N.juntoref06_form [.int .u64 p, .int .i64 t, .slice (some (Addr.mk H.size 0 none)) (Int.toNat (IntKind.i64.wrap (t + 1))) (Int.toNat (IntKind.i64.wrap (t + 1)))] H_5 fun v4 H_14 =>
  ∃ r : Int, v4 = .int .i64 r ∧ cond (r != 0) (R (.tuple #[.slice none 0 0, .bool false]) H_14)
   (LoopI (σ := Int) (fun κ => κ 0 H_14) fun s5 z5 H_15 next5 =>
  cond (decide (s5 < ((xsn : Nat) : Int))) (∃ a10 : Addr, xsA = some a10 ∧ 0 ≤ s5 ∧ s5 < ((xsn : Nat) : Int) ∧ ∃ x5 : Int, cellH H_15 (a10.add (Int.toNat s5)) = some (.int .u64 x5) ∧ ∃ a11 : Addr, rowsA = some a11 ∧ 0 ≤ s5 ∧ s5 < ((rowsn : Nat) : Int) ∧ ∃ (xA4 : Option Addr) (xn4 xc4 : Nat), cellH H_15 (a11.add (Int.toNat s5)) = some (.slice xA4 xn4 xc4) ∧ CallH P N.juntoref06_Row [.int .u64 p, .slice (some (Addr.mk H.size 0 none)) (Int.toNat (IntKind.i64.wrap (t + 1))) (Int.toNat (IntKind.i64.wrap (t + 1))), .int .u64 x5] H_15 fun v5 H_16 =>
  ∃ (rA2 : Option Addr) (rn2 rc2 : Nat), v5 = .slice rA2 rn2 rc2 ∧ cellH H_16 (a11.add (Int.toNat s5)) = some (.slice xA4 xn4 xc4) ∧ CallH P N.juntoref02_Trim [.slice xA4 xn4 xc4] H_16 fun v6 H_17 =>
  ∃ (rA3 : Option Addr) (rn3 rc3 : Nat), v6 = .slice rA3 rn3 rc3 ∧ CallH P N.juntoref01_Same [.slice rA2 rn2 rc2, .slice rA3 rn3 rc3] H_17 fun v7 H_18 =>
  ∃ r2 : Bool, v7 = .bool r2 ∧ cond (!r2) (R (.tuple #[.slice none 0 0, .bool false]) H_18)
   (next5 (IntKind.i64.wrap (s5 + 1)) H_18))
   (R (.tuple #[.slice (some (Addr.mk H.size 0 none)) (Int.toNat (IntKind.i64.wrap (t + 1))) (Int.toNat (IntKind.i64.wrap (t + 1))), .bool true]) H_15))))
theorem juntoref06_Join.ok (p : Int) (t : Int) (xsA : Option Addr) (xsn xsc : Nat) (rowsA : Option Addr) (rowsn rowsc : Nat) (H : Heap) (R : Value → Heap → Prop) (h : juntoref06_Join.W p t xsA xsn xsc rowsA rowsn rowsc H R) : CallH P N.juntoref06_Join ([.int .u64 p, .int .i64 t, .slice xsA xsn xsc, .slice rowsA rowsn rowsc] : List Value) H R := by
  have e : juntoref06_Join.W p t xsA xsn xsc rowsA rowsn rowsc H R = sxFn P T Sh.R nf juntoref06_Join.A Try.f72.results.toList (bodyOf Try.f72) (([(.int .u64 p : Value), (.int .i64 t : Value), (.slice xsA xsn xsc : Value), (.slice rowsA rowsn rowsc : Value)] : List Value) ++ List.replicate (110 - ([(.int .u64 p : Value), (.int .i64 t : Value), (.slice xsA xsn xsc : Value), (.slice rowsA rowsn rowsc : Value)] : List Value).length) undef) H R := by kernel_rfl
  exact call_of_sx fits bodies mixed Try.func72 (c := bodyOf Try.f72) (by kernel_rfl) Try.ntmps72 juntoref06_Join.A (by kernel_rfl) (e.mp h)

/-! juntoref06_Quarrels -/
def juntoref06_Quarrels.A : Ann where
  loops := fun i => match i with
    | 12298 => [(7, .slice), (12, .int .i64)]
    | 24583 => [(7, .slice), (9, .int .i64)]
    | _ => []
  plans := fun i => match i with
    | 8 => .first 0 (.first 1 (.first 2 (.first 3 (.first 5 (.first 6 (.first 7 (.first 10 (.first 11 (.first 12 (.first 13 (.first 15 (.first 16 (.first 17 (.read 4 (.read 8 (.read 14 (.read 18 (.alt 9 [4, 8] (.alt 19 [14, 18] (.first 20 (.done)) (.stop)) (.stop)))))))))))))))))))
    | _ => .stop
def juntoref06_Quarrels.W (p : Int) (xsA : Option Addr) (xsn xsc : Nat) (rowsA : Option Addr) (rowsn rowsc : Nat) (H : Heap) (R : Value → Heap → Prop) : Prop :=
  LoopI (σ := (Option Addr × Nat × Nat) × Int) (fun κ => κ ((none, 0, 0), 0) H) fun s z H_ next =>
  cond (decide (s.2 < ((xsn : Nat) : Int))) (LoopI (σ := (Option Addr × Nat × Nat) × Int) (fun κ => κ ((s.1.1, s.1.2.1, s.1.2.2), IntKind.i64.wrap (s.2 + 1)) H_) fun s2 z2 H_2 next2 =>
  cond (decide (s2.2 < ((xsn : Nat) : Int))) (∃ a : Addr, rowsA = some a ∧ 0 ≤ s.2 ∧ s.2 < ((rowsn : Nat) : Int) ∧ ∃ a2 : Addr, xsA = some a2 ∧ 0 ≤ s2.2 ∧ s2.2 < ((xsn : Nat) : Int) ∧ ∃ a3 : Addr, rowsA = some a3 ∧ 0 ≤ s2.2 ∧ s2.2 < ((rowsn : Nat) : Int) ∧ ∃ a4 : Addr, xsA = some a4 ∧ 0 ≤ s.2 ∧ s.2 < ((xsn : Nat) : Int) ∧ ∃ (xA : Option Addr) (xn xc : Nat), cellH H_2 (a.add (Int.toNat s.2)) = some (.slice xA xn xc) ∧ ∃ x : Int, cellH H_2 (a2.add (Int.toNat s2.2)) = some (.int .u64 x) ∧ ∃ (xA2 : Option Addr) (xn2 xc2 : Nat), cellH H_2 (a3.add (Int.toNat s2.2)) = some (.slice xA2 xn2 xc2) ∧ ∃ x2 : Int, cellH H_2 (a4.add (Int.toNat s.2)) = some (.int .u64 x2) ∧ CallH P N.juntoref02_Eval [.int .u64 p, .slice xA xn xc, .int .u64 x] H_2 fun v H_3 =>
  ∃ r : Int, v = .int .u64 r ∧ cellH H_3 (a4.add (Int.toNat s.2)) = some (.int .u64 x2) ∧ cellH H_3 (a3.add (Int.toNat s2.2)) = some (.slice xA2 xn2 xc2) ∧ CallH P N.juntoref02_Eval [.int .u64 p, .slice xA2 xn2 xc2, .int .u64 x2] H_3 fun v2 H_4 =>
  ∃ r2 : Int, v2 = .int .u64 r2 ∧ cond (r != r2) (NewH (H_4.push (.cells #[.int .i64 s.2, .int .i64 s2.2] 81 (0, 0))) fun H_5 =>
  AppendV 81 2 16 [.int .i64 0, .int .i64 0] H_5 s2.1.1 s2.1.2.1 s2.1.2.2 (some (Addr.mk H_4.size 0 none)) 1 fun vA vn vc H_6 =>
  next2 ((vA, vn, vc), IntKind.i64.wrap (s2.2 + 1)) H_6)
   (next2 ((s2.1.1, s2.1.2.1, s2.1.2.2), IntKind.i64.wrap (s2.2 + 1)) H_4))
   (next ((s2.1.1, s2.1.2.1, s2.1.2.2), IntKind.i64.wrap (s.2 + 1)) H_2))
   (R (.slice s.1.1 s.1.2.1 s.1.2.2) H_)
theorem juntoref06_Quarrels.ok (p : Int) (xsA : Option Addr) (xsn xsc : Nat) (rowsA : Option Addr) (rowsn rowsc : Nat) (H : Heap) (R : Value → Heap → Prop) (h : juntoref06_Quarrels.W p xsA xsn xsc rowsA rowsn rowsc H R) : CallH P N.juntoref06_Quarrels ([.int .u64 p, .slice xsA xsn xsc, .slice rowsA rowsn rowsc] : List Value) H R := by
  have e : juntoref06_Quarrels.W p xsA xsn xsc rowsA rowsn rowsc H R = sxFn P T Sh.R nf juntoref06_Quarrels.A Try.f74.results.toList (bodyOf Try.f74) (([(.int .u64 p : Value), (.slice xsA xsn xsc : Value), (.slice rowsA rowsn rowsc : Value)] : List Value) ++ List.replicate (52 - ([(.int .u64 p : Value), (.slice xsA xsn xsc : Value), (.slice rowsA rowsn rowsc : Value)] : List Value).length) undef) H R := by kernel_rfl
  exact call_of_sx fits bodies mixed Try.func74 (c := bodyOf Try.f74) (by kernel_rfl) Try.ntmps74 juntoref06_Quarrels.A (by kernel_rfl) (e.mp h)

/-! juntoref06_Same -/
def juntoref06_Same.A : Ann where
  loops := fun i => match i with
    | 16392 => [(13, .int .i64)]
    | _ => []
  plans := fun i => match i with
    | 6 => .first 0 (.first 1 (.first 2 (.first 4 (.first 5 (.first 6 (.read 3 (.read 7 (.alt 8 [3, 7] (.first 9 (.done)) (.stop)))))))))
    | _ => .stop
def juntoref06_Same.W (fA : Option Addr) (fn fc : Nat) (gA : Option Addr) (gn gc : Nat) (H : Heap) (R : Value → Heap → Prop) : Prop :=
  cond (((fn : Nat) : Int) != ((gn : Nat) : Int)) (R (.bool false) H)
   (LoopI (σ := Int) (fun κ => κ 0 H) fun s z H_ next =>
  cond (decide (s < ((fn : Nat) : Int))) (∃ a : Addr, fA = some a ∧ 0 ≤ s ∧ s < ((fn : Nat) : Int) ∧ ∃ a2 : Addr, gA = some a2 ∧ 0 ≤ s ∧ s < ((gn : Nat) : Int) ∧ ∃ (xA : Option Addr) (xn xc : Nat), cellH H_ (a.add (Int.toNat s)) = some (.slice xA xn xc) ∧ ∃ (xA2 : Option Addr) (xn2 xc2 : Nat), cellH H_ (a2.add (Int.toNat s)) = some (.slice xA2 xn2 xc2) ∧ CallH P N.juntoref01_Same [.slice xA xn xc, .slice xA2 xn2 xc2] H_ fun v H_2 =>
  ∃ r : Bool, v = .bool r ∧ cond (!r) (R (.bool false) H_2)
   (next (IntKind.i64.wrap (s + 1)) H_2))
   (R (.bool true) H_))
theorem juntoref06_Same.ok (fA : Option Addr) (fn fc : Nat) (gA : Option Addr) (gn gc : Nat) (H : Heap) (R : Value → Heap → Prop) (h : juntoref06_Same.W fA fn fc gA gn gc H R) : CallH P N.juntoref06_Same ([.slice fA fn fc, .slice gA gn gc] : List Value) H R := by
  have e : juntoref06_Same.W fA fn fc gA gn gc H R = sxFn P T Sh.R nf juntoref06_Same.A Try.f75.results.toList (bodyOf Try.f75) (([(.slice fA fn fc : Value), (.slice gA gn gc : Value)] : List Value) ++ List.replicate (27 - ([(.slice fA fn fc : Value), (.slice gA gn gc : Value)] : List Value).length) undef) H R := by kernel_rfl
  exact call_of_sx fits bodies mixed Try.func75 (c := bodyOf Try.f75) (by kernel_rfl) Try.ntmps75 juntoref06_Same.A (by kernel_rfl) (e.mp h)

/-! juntoref06_form -/
def juntoref06_form.A : Ann where
  loops := fun i => match i with
    | 16392 => [(21, .int .i64)]
    | 40975 => [(33, .int .i64)]
    | 69657 => [(46, .int .i64)]
    | 81944 => [(51, .int .i64)]
    | _ => []
  plans := fun i => match i with
    | 22 => .first 0 (.first 1 (.first 2 (.first 4 (.first 7 (.first 8 (.first 9 (.first 11 (.read 3 (.first 5 (.read 6 (.read 10 (.first 12 (.read 13 (.first 14 (.done)))))))))))))))
    | _ => .stop
def juntoref06_form.W (p : Int) (t : Int) (fA : Option Addr) (fn fc : Nat) (H : Heap) (R : Value → Heap → Prop) : Prop :=
  cond (((fn : Nat) : Int) != (IntKind.i64.wrap (t + 1))) (R (.int .i64 4) H)
   (LoopI (σ := Int) (fun κ => κ 0 H) fun s z H_ next =>
  cond (decide (s < ((fn : Nat) : Int))) (∃ a : Addr, fA = some a ∧ 0 ≤ s ∧ s < ((fn : Nat) : Int) ∧ ∃ (xA : Option Addr) (xn xc : Nat), cellH H_ (a.add (Int.toNat s)) = some (.slice xA xn xc) ∧ cond (((xn : Nat) : Int) != (IntKind.i64.wrap (t + 1))) (R (.int .i64 4) H_)
   (next (IntKind.i64.wrap (s + 1)) H_))
   (LoopI (σ := Int) (fun κ => κ 0 H_) fun s2 z2 H_2 next2 =>
  cond (decide (s2 < ((fn : Nat) : Int))) (∃ a2 : Addr, fA = some a2 ∧ 0 ≤ s2 ∧ s2 < ((fn : Nat) : Int) ∧ ∃ (xA2 : Option Addr) (xn2 xc2 : Nat), cellH H_2 (a2.add (Int.toNat s2)) = some (.slice xA2 xn2 xc2) ∧ CallH P N.juntoref01_Within [.int .u64 p, .slice xA2 xn2 xc2] H_2 fun v H_3 =>
  ∃ r : Int, v = .int .i64 r ∧ cond (r != 0) (R (.int .i64 r) H_3)
   (next2 (IntKind.i64.wrap (s2 + 1)) H_3))
   (LoopI (σ := Int) (fun κ => κ 0 H_2) fun s3 z3 H_4 next3 =>
  cond (decide (s3 < ((fn : Nat) : Int))) (LoopI (σ := Int) (fun κ => κ 0 H_4) fun s4 z4 H_5 next4 =>
  cond (decide (s4 < ((fn : Nat) : Int))) (∃ a3 : Addr, fA = some a3 ∧ 0 ≤ s3 ∧ s3 < ((fn : Nat) : Int) ∧ ∃ a4 : Addr, fA = some a4 ∧ 0 ≤ s4 ∧ s4 < ((fn : Nat) : Int) ∧ ∃ (xA3 : Option Addr) (xn3 xc3 : Nat), cellH H_5 (a3.add (Int.toNat s3)) = some (.slice xA3 xn3 xc3) ∧ ∃ a5 : Addr, xA3 = some a5 ∧ 0 ≤ s4 ∧ s4 < ((xn3 : Nat) : Int) ∧ ∃ x : Int, cellH H_5 (a5.add (Int.toNat s4)) = some (.int .u64 x) ∧ ∃ (xA4 : Option Addr) (xn4 xc4 : Nat), cellH H_5 (a4.add (Int.toNat s4)) = some (.slice xA4 xn4 xc4) ∧ ∃ a6 : Addr, xA4 = some a6 ∧ 0 ≤ s3 ∧ s3 < ((xn4 : Nat) : Int) ∧ ∃ x2 : Int, cellH H_5 (a6.add (Int.toNat s3)) = some (.int .u64 x2) ∧ cond (x != x2) (R (.int .i64 4) H_5)
   (next4 (IntKind.i64.wrap (s4 + 1)) H_5))
   (next3 (IntKind.i64.wrap (s3 + 1)) H_5))
   (R (.int .i64 0) H_4))))
theorem juntoref06_form.ok (p : Int) (t : Int) (fA : Option Addr) (fn fc : Nat) (H : Heap) (R : Value → Heap → Prop) (h : juntoref06_form.W p t fA fn fc H R) : CallH P N.juntoref06_form ([.int .u64 p, .int .i64 t, .slice fA fn fc] : List Value) H R := by
  have e : juntoref06_form.W p t fA fn fc H R = sxFn P T Sh.R nf juntoref06_form.A Try.f80.results.toList (bodyOf Try.f80) (([(.int .u64 p : Value), (.int .i64 t : Value), (.slice fA fn fc : Value)] : List Value) ++ List.replicate (71 - ([(.int .u64 p : Value), (.int .i64 t : Value), (.slice fA fn fc : Value)] : List Value).length) undef) H R := by kernel_rfl
  exact call_of_sx fits bodies mixed Try.func80 (c := bodyOf Try.f80) (by kernel_rfl) Try.ntmps80 juntoref06_form.A (by kernel_rfl) (e.mp h)

end Go.Proofs.Ytlhcaangdenoaaa.Sh

namespace Go.Proofs.Ytlhcaangdenoaaa.Sh
open Go.Sx Go.Lf

/-! juntoref06_Bounds -/
def juntoref06_Bounds.C (p : Nat) (t : Int) (K : Int → Prop) : Prop :=
  ∀ (Z : Nat → Prop) (H : Heap), ∀ (pv : Int), pv = (p : Int) → ∀ KK : Value → Heap → Prop,
    (∀ (Z' : Nat → Prop) (H' : Heap), Ext H H' → Old Z H Z' → ∀ (r0 : Int), K r0 → KK (.int .i64 r0) H') →
    CallH P N.juntoref06_Bounds [.int .u64 pv, .int .i64 t] H KK
def juntoref06_Bounds.Q (p : Nat) (t : Int) (K : Int → Prop) : Prop :=
  juntoref01_Is.C p (fun (x : Bool) =>
  cond (!x) (K 2)
   (cond (decide (t < 0)) (K 2)
   (cond (decide (t > 3)) (K 2)
   (K 0))))
theorem juntoref06_Bounds.q {p : Nat} {t : Int} {K : Int → Prop} (q : juntoref06_Bounds.Q p t K) : juntoref06_Bounds.C p t K := by
  intro Z H pv he KK hk
  cases he
  apply juntoref06_Bounds.ok
  unfold juntoref06_Bounds.W
  unfold juntoref06_Bounds.Q at q
  obtain ⟨σ, hz, hσ⟩ := tags Z
  have hs : Stp ([] : List Nat) σ H σ H := Stp.refl _ _ _
  clear hz
  refine q (Zt σ) H _ rfl _ (fun Z2 H_ hE hO x q => ?_)
  obtain ⟨xσ, st⟩ := call0 hE σ
  replace hs := hs.trans st
  refine ⟨_, rfl, ?_⟩
  refine condI (fun q => ?_) (fun q => ?_) q
  · exact hk (Zt xσ) _ (hs.ext hσ) (hs.old hσ) _ q
  · refine condI (fun q => ?_) (fun q => ?_) q
    · exact hk (Zt xσ) _ (hs.ext hσ) (hs.old hσ) _ q
    · refine condI (fun q => ?_) (fun q => ?_) q
      · exact hk (Zt xσ) _ (hs.ext hσ) (hs.old hσ) _ q
      · exact hk (Zt xσ) _ (hs.ext hσ) (hs.old hσ) _ q

/-! juntoref06_form -/
def juntoref06_form.C (p : Nat) (t : Int) (f : (List (List Nat))) (K : Int → Prop) : Prop :=
  ∀ (Z : Nat → Prop) (H : Heap), ∀ (pv : Int), pv = (p : Int) → ∀ (fA : Option Addr) (fn fc : Nat), fn = f.length → SlF (slL u64L) Z H fA fc f → ∀ KK : Value → Heap → Prop,
    (∀ (Z' : Nat → Prop) (H' : Heap), Ext H H' → Old Z H Z' → ∀ (r0 : Int), K r0 → KK (.int .i64 r0) H') →
    CallH P N.juntoref06_form [.int .u64 pv, .int .i64 t, .slice fA fn fc] H KK
def juntoref06_form.Q (p : Nat) (t : Int) (f : (List (List Nat))) (K : Int → Prop) : Prop :=
  cond (((f.length : Nat) : Int) != (IntKind.i64.wrap (t + 1))) (K 4)
   (LoopQ (τ := Int) 0 fun t2 nextQ =>
  cond (decide (t2 < ((f.length : Nat) : Int))) (0 ≤ t2 ∧ ∃ x : (List Nat), f[Int.toNat t2]? = some x ∧ cond (((x.length : Nat) : Int) != (IntKind.i64.wrap (t + 1))) (K 4)
   (nextQ (IntKind.i64.wrap (t2 + 1))))
   (LoopQ (τ := Int) 0 fun t3 nextQ2 =>
  cond (decide (t3 < ((f.length : Nat) : Int))) (0 ≤ t3 ∧ ∃ x2 : (List Nat), f[Int.toNat t3]? = some x2 ∧ juntoref01_Within.C p x2 (fun (x3 : Int) =>
  cond (x3 != 0) (K x3)
   (nextQ2 (IntKind.i64.wrap (t3 + 1)))))
   (LoopQ (τ := Int) 0 fun t4 nextQ3 =>
  cond (decide (t4 < ((f.length : Nat) : Int))) (LoopQ (τ := Int) 0 fun t5 nextQ4 =>
  cond (decide (t5 < ((f.length : Nat) : Int))) (0 ≤ t4 ∧ ∃ x4 : (List Nat), f[Int.toNat t4]? = some x4 ∧ 0 ≤ t5 ∧ ∃ x5 : (List Nat), f[Int.toNat t5]? = some x5 ∧ 0 ≤ t5 ∧ ∃ x6 : Nat, x4[Int.toNat t5]? = some x6 ∧ 0 ≤ t4 ∧ ∃ x7 : Nat, x5[Int.toNat t4]? = some x7 ∧ cond ((x6 : Int) != (x7 : Int)) (K 4)
   (nextQ4 (IntKind.i64.wrap (t5 + 1))))
   (nextQ3 (IntKind.i64.wrap (t4 + 1))))
   (K 0))))
theorem juntoref06_form.q {p : Nat} {t : Int} {f : (List (List Nat))} {K : Int → Prop} (q : juntoref06_form.Q p t f K) : juntoref06_form.C p t f K := by
  intro Z H pv he fA fn fc hn f2 KK hk
  cases he
  cases hn
  apply juntoref06_form.ok
  unfold juntoref06_form.W
  unfold juntoref06_form.Q at q
  obtain ⟨σ, hz, hσ⟩ := tags Z
  have hs : Stp ([] : List Nat) σ H σ H := Stp.refl _ _ _
  replace f2 := f2.wide hz
  clear hz
  refine condI (fun q => ?_) (fun q => ?_) q
  · exact hk (Zt σ) _ (hs.ext hσ) (hs.old hσ) _ q
  · refine LoopI.ofQ q (fun t_ s_ hp_ => ∃ (σ_ : Nat → Nat), Stp [] σ H σ_ hp_ ∧ t_ = s_) (fun h k => h _ _ k) ⟨_, Stp.refl _ _ _, rfl⟩ ?_
    rintro t2 _ _ H_ next nextQ ⟨xσ, st, rfl⟩ q hnext
    try dsimp only at q ⊢
    replace f2 := f2.step st
    replace hs := hs.trans st
    have sl0 := st
    refine condI (fun q => ?_) (fun q => ?_) q
    · obtain ⟨h0, x, hx, q⟩ := q
      obtain ⟨a, ha, hi⟩ := f2.addr h0 hx rfl
      refine ⟨a, ha, hi.1, hi.2, ?_⟩
      obtain ⟨A, c, hc, f3⟩ := f2.lds ha h0 hx
      refine ⟨_, _, _, hc.val, ?_⟩
      refine condI (fun q => ?_) (fun q => ?_) q
      · exact hk (Zt xσ) _ (hs.ext hσ) (hs.old hσ) _ q
      · exact hnext (IntKind.i64.wrap (t2 + 1)) _ _ ⟨_, sl0, rfl⟩ q
    · refine LoopI.ofQ q (fun t_ s_ hp_ => ∃ (σ_ : Nat → Nat), Stp [] xσ H_ σ_ hp_ ∧ t_ = s_) (fun h k => h _ _ k) ⟨_, Stp.refl _ _ _, rfl⟩ ?_
      rintro t3 _ _ H_2 next2 nextQ2 ⟨xσ2, st2, rfl⟩ q hnext2
      try dsimp only at q ⊢
      replace f2 := f2.step st2
      replace hs := hs.trans st2
      have sl1 := st2
      refine condI (fun q => ?_) (fun q => ?_) q
      · obtain ⟨h02, x2, hx2, q⟩ := q
        obtain ⟨a2, ha2, hi2⟩ := f2.addr h02 hx2 rfl
        refine ⟨a2, ha2, hi2.1, hi2.2, ?_⟩
        obtain ⟨A2, c2, hc2, f4⟩ := f2.lds ha2 h02 hx2
        refine ⟨_, _, _, hc2.val, ?_⟩
        refine q (Zt xσ2) H_2 _ rfl _ _ _ rfl f4 _ (fun Z2 H_3 hE hO x3 q => ?_)
        obtain ⟨xσ3, st3⟩ := call0 hE xσ2
        replace f2 := f2.step st3
        replace hc2 := hc2.step st3
        replace f4 := f4.step st3
        replace hs := hs.trans st3
        replace sl1 := sl1.trans st3
        refine ⟨_, rfl, ?_⟩
        refine condI (fun q => ?_) (fun q => ?_) q
        · exact hk (Zt xσ3) _ (hs.ext hσ) (hs.old hσ) _ q
        · exact hnext2 (IntKind.i64.wrap (t3 + 1)) _ _ ⟨_, sl1, rfl⟩ q
      · refine LoopI.ofQ q (fun t_ s_ hp_ => ∃ (σ_ : Nat → Nat), Stp [] xσ2 H_2 σ_ hp_ ∧ t_ = s_) (fun h k => h _ _ k) ⟨_, Stp.refl _ _ _, rfl⟩ ?_
        rintro t4 _ _ H_4 next3 nextQ3 ⟨xσ4, st4, rfl⟩ q hnext3
        try dsimp only at q ⊢
        replace f2 := f2.step st4
        replace hs := hs.trans st4
        have sl2 := st4
        refine condI (fun q => ?_) (fun q => ?_) q
        · refine LoopI.ofQ q (fun t_ s_ hp_ => ∃ (σ_ : Nat → Nat), Stp [] xσ4 H_4 σ_ hp_ ∧ t_ = s_) (fun h k => h _ _ k) ⟨_, Stp.refl _ _ _, rfl⟩ ?_
          rintro t5 _ _ H_5 next4 nextQ4 ⟨xσ5, st5, rfl⟩ q hnext4
          try dsimp only at q ⊢
          replace f2 := f2.step st5
          replace hs := hs.trans st5
          replace sl2 := sl2.trans st5
          have sl3 := st5
          refine condI (fun q => ?_) (fun q => ?_) q
          · obtain ⟨h03, x4, hx3, q⟩ := q
            obtain ⟨a3, ha3, hi3⟩ := f2.addr h03 hx3 rfl
            refine ⟨a3, ha3, hi3.1, hi3.2, ?_⟩
            obtain ⟨h04, x5, hx4, q⟩ := q
            obtain ⟨a4, ha4, hi4⟩ := f2.addr h04 hx4 rfl
            refine ⟨a4, ha4, hi4.1, hi4.2, ?_⟩
            obtain ⟨A3, c3, hc3, f5⟩ := f2.lds ha3 h03 hx3
            refine ⟨_, _, _, hc3.val, ?_⟩
            obtain ⟨h05, x6, hx5, q⟩ := q
            obtain ⟨a5, ha5, hi5⟩ := f5.addr h05 hx5 rfl
            refine ⟨a5, ha5, hi5.1, hi5.2, ?_⟩
            have hc4 := f5.ldu ha5 h05 hx5
            refine ⟨_, hc4.val, ?_⟩
            obtain ⟨A4, c4, hc5, f6⟩ := f2.lds ha4 h04 hx4
            refine ⟨_, _, _, hc5.val, ?_⟩
            obtain ⟨h06, x7, hx6, q⟩ := q
            obtain ⟨a6, ha6, hi6⟩ := f6.addr h06 hx6 rfl
            refine ⟨a6, ha6, hi6.1, hi6.2, ?_⟩
            have hc6 := f6.ldu ha6 h06 hx6
            refine ⟨_, hc6.val, ?_⟩
            refine condI (fun q => ?_) (fun q => ?_) q
            · exact hk (Zt xσ5) _ (hs.ext hσ) (hs.old hσ) _ q
            · exact hnext4 (IntKind.i64.wrap (t5 + 1)) _ _ ⟨_, sl3, rfl⟩ q
          · exact hnext3 (IntKind.i64.wrap (t4 + 1)) _ _ ⟨_, sl2, rfl⟩ q
        · exact hk (Zt xσ4) _ (hs.ext hσ) (hs.old hσ) _ q

/-! juntoref06_Check -/
def juntoref06_Check.C (p : Nat) (t : Int) (l : (List (List (List Nat)))) (K : Int → Prop) : Prop :=
  ∀ (Z : Nat → Prop) (H : Heap), ∀ (pv : Int), pv = (p : Int) → ∀ (lA : Option Addr) (ln lc : Nat), ln = l.length → SlF (slL (slL u64L)) Z H lA lc l → ∀ KK : Value → Heap → Prop,
    (∀ (Z' : Nat → Prop) (H' : Heap), Ext H H' → Old Z H Z' → ∀ (r0 : Int), K r0 → KK (.int .i64 r0) H') →
    CallH P N.juntoref06_Check [.int .u64 pv, .int .i64 t, .slice lA ln lc] H KK
def juntoref06_Check.Q (p : Nat) (t : Int) (l : (List (List (List Nat)))) (K : Int → Prop) : Prop :=
  juntoref06_Bounds.C p t (fun (x : Int) =>
  cond (x != 0) (K x)
   (LoopQ (τ := Int) 0 fun t2 nextQ =>
  cond (decide (t2 < ((l.length : Nat) : Int))) (0 ≤ t2 ∧ ∃ x2 : (List (List Nat)), l[Int.toNat t2]? = some x2 ∧ juntoref06_form.C p t x2 (fun (x3 : Int) =>
  cond (x3 != 0) (K x3)
   (nextQ (IntKind.i64.wrap (t2 + 1)))))
   (K 0)))
theorem juntoref06_Check.q {p : Nat} {t : Int} {l : (List (List (List Nat)))} {K : Int → Prop} (q : juntoref06_Check.Q p t l K) : juntoref06_Check.C p t l K := by
  intro Z H pv he lA ln lc hn f KK hk
  cases he
  cases hn
  apply juntoref06_Check.ok
  unfold juntoref06_Check.W
  unfold juntoref06_Check.Q at q
  obtain ⟨σ, hz, hσ⟩ := tags Z
  have hs : Stp ([] : List Nat) σ H σ H := Stp.refl _ _ _
  replace f := f.wide hz
  clear hz
  refine q (Zt σ) H _ rfl _ (fun Z2 H_ hE hO x q => ?_)
  obtain ⟨xσ, st⟩ := call0 hE σ
  replace f := f.step st
  replace hs := hs.trans st
  refine ⟨_, rfl, ?_⟩
  refine condI (fun q => ?_) (fun q => ?_) q
  · exact hk (Zt xσ) _ (hs.ext hσ) (hs.old hσ) _ q
  · refine LoopI.ofQ q (fun t_ s_ hp_ => ∃ (σ_ : Nat → Nat), Stp [] xσ H_ σ_ hp_ ∧ t_ = s_) (fun h k => h _ _ k) ⟨_, Stp.refl _ _ _, rfl⟩ ?_
    rintro t2 _ _ H_2 next nextQ ⟨xσ2, st2, rfl⟩ q hnext
    try dsimp only at q ⊢
    replace f := f.step st2
    replace hs := hs.trans st2
    have sl0 := st2
    refine condI (fun q => ?_) (fun q => ?_) q
    · obtain ⟨h0, x2, hx, q⟩ := q
      obtain ⟨a, ha, hi⟩ := f.addr h0 hx rfl
      refine ⟨a, ha, hi.1, hi.2, ?_⟩
      obtain ⟨A, c, hc, f2⟩ := f.lds ha h0 hx
      refine ⟨_, _, _, hc.val, ?_⟩
      refine q (Zt xσ2) H_2 _ rfl _ _ _ rfl f2 _ (fun Z3 H_3 hE2 hO2 x3 q => ?_)
      obtain ⟨xσ3, st3⟩ := call0 hE2 xσ2
      replace f := f.step st3
      replace hc := hc.step st3
      replace f2 := f2.step st3
      replace hs := hs.trans st3
      replace sl0 := sl0.trans st3
      refine ⟨_, rfl, ?_⟩
      refine condI (fun q => ?_) (fun q => ?_) q
      · exact hk (Zt xσ3) _ (hs.ext hσ) (hs.old hσ) _ q
      · exact hnext (IntKind.i64.wrap (t2 + 1)) _ _ ⟨_, sl0, rfl⟩ q
    · exact hk (Zt xσ2) _ (hs.ext hσ) (hs.old hσ) _ q

/-! juntoref06_Size -/
def juntoref06_Size.C (t : Int) (K : Int → Prop) : Prop :=
  ∀ (Z : Nat → Prop) (H : Heap), ∀ KK : Value → Heap → Prop,
    (∀ (Z' : Nat → Prop) (H' : Heap), Ext H H' → Old Z H Z' → ∀ (r0 : Int), K r0 → KK (.int .i64 r0) H') →
    CallH P N.juntoref06_Size [.int .i64 t] H KK
def juntoref06_Size.Q (t : Int) (K : Int → Prop) : Prop :=
  cond (decide (t < 0)) (K 0)
   (cond (decide (t > 3)) (K 0)
   ((2 : Int) ≠ 0 ∧ K (IntKind.i64.wrap ((IntKind.i64.wrap (Int.tdiv (IntKind.i64.wrap ((IntKind.i64.wrap (t + 1)) * (IntKind.i64.wrap (t + 2)))) 2)) - 1))))
theorem juntoref06_Size.q {t : Int} {K : Int → Prop} (q : juntoref06_Size.Q t K) : juntoref06_Size.C t K := by
  intro Z H  KK hk
  apply juntoref06_Size.ok
  unfold juntoref06_Size.W
  unfold juntoref06_Size.Q at q
  obtain ⟨σ, hz, hσ⟩ := tags Z
  have hs : Stp ([] : List Nat) σ H σ H := Stp.refl _ _ _
  clear hz
  refine condI (fun q => ?_) (fun q => ?_) q
  · exact hk (Zt σ) _ (hs.ext hσ) (hs.old hσ) _ q
  · refine condI (fun q => ?_) (fun q => ?_) q
    · exact hk (Zt σ) _ (hs.ext hσ) (hs.old hσ) _ q
    · obtain ⟨q2, q⟩ := q
      refine ⟨q2, ?_⟩
      exact hk (Zt σ) _ (hs.ext hσ) (hs.old hσ) _ q

/-! juntoref06_Same -/
def juntoref06_Same.C (f : (List (List Nat))) (g : (List (List Nat))) (K : Bool → Prop) : Prop :=
  ∀ (Z : Nat → Prop) (H : Heap), ∀ (fA : Option Addr) (fn fc : Nat), fn = f.length → SlF (slL u64L) Z H fA fc f → ∀ (gA : Option Addr) (gn gc : Nat), gn = g.length → SlF (slL u64L) Z H gA gc g → ∀ KK : Value → Heap → Prop,
    (∀ (Z' : Nat → Prop) (H' : Heap), Ext H H' → Old Z H Z' → ∀ (r0 : Bool), K r0 → KK (.bool r0) H') →
    CallH P N.juntoref06_Same [.slice fA fn fc, .slice gA gn gc] H KK
def juntoref06_Same.Q (f : (List (List Nat))) (g : (List (List Nat))) (K : Bool → Prop) : Prop :=
  cond (((f.length : Nat) : Int) != ((g.length : Nat) : Int)) (K false)
   (LoopQ (τ := Int) 0 fun t nextQ =>
  cond (decide (t < ((f.length : Nat) : Int))) (0 ≤ t ∧ ∃ x : (List Nat), f[Int.toNat t]? = some x ∧ 0 ≤ t ∧ ∃ x2 : (List Nat), g[Int.toNat t]? = some x2 ∧ juntoref01_Same.C x x2 (fun (x3 : Bool) =>
  cond (!x3) (K false)
   (nextQ (IntKind.i64.wrap (t + 1)))))
   (K true))
theorem juntoref06_Same.q {f : (List (List Nat))} {g : (List (List Nat))} {K : Bool → Prop} (q : juntoref06_Same.Q f g K) : juntoref06_Same.C f g K := by
  intro Z H fA fn fc hn f2 gA gn gc hn2 f3 KK hk
  cases hn
  cases hn2
  apply juntoref06_Same.ok
  unfold juntoref06_Same.W
  unfold juntoref06_Same.Q at q
  obtain ⟨σ, hz, hσ⟩ := tags Z
  have hs : Stp ([] : List Nat) σ H σ H := Stp.refl _ _ _
  replace f2 := f2.wide hz
  replace f3 := f3.wide hz
  clear hz
  refine condI (fun q => ?_) (fun q => ?_) q
  · exact hk (Zt σ) _ (hs.ext hσ) (hs.old hσ) _ q
  · refine LoopI.ofQ q (fun t_ s_ hp_ => ∃ (σ_ : Nat → Nat), Stp [] σ H σ_ hp_ ∧ t_ = s_) (fun h k => h _ _ k) ⟨_, Stp.refl _ _ _, rfl⟩ ?_
    rintro t _ _ H_ next nextQ ⟨xσ, st, rfl⟩ q hnext
    try dsimp only at q ⊢
    replace f2 := f2.step st
    replace f3 := f3.step st
    replace hs := hs.trans st
    have sl0 := st
    refine condI (fun q => ?_) (fun q => ?_) q
    · obtain ⟨h0, x, hx, q⟩ := q
      obtain ⟨a, ha, hi⟩ := f2.addr h0 hx rfl
      refine ⟨a, ha, hi.1, hi.2, ?_⟩
      obtain ⟨h02, x2, hx2, q⟩ := q
      obtain ⟨a2, ha2, hi2⟩ := f3.addr h02 hx2 rfl
      refine ⟨a2, ha2, hi2.1, hi2.2, ?_⟩
      obtain ⟨A, c, hc, f4⟩ := f2.lds ha h0 hx
      refine ⟨_, _, _, hc.val, ?_⟩
      obtain ⟨A2, c2, hc2, f5⟩ := f3.lds ha2 h02 hx2
      refine ⟨_, _, _, hc2.val, ?_⟩
      refine q (Zt xσ) H_ _ _ _ rfl f4 _ _ _ rfl f5 _ (fun Z2 H_2 hE hO x3 q => ?_)
      obtain ⟨xσ2, st2⟩ := call0 hE xσ
      replace f2 := f2.step st2
      replace f3 := f3.step st2
      replace hc := hc.step st2
      replace f4 := f4.step st2
      replace hc2 := hc2.step st2
      replace f5 := f5.step st2
      replace hs := hs.trans st2
      replace sl0 := sl0.trans st2
      refine ⟨_, rfl, ?_⟩
      refine condI (fun q => ?_) (fun q => ?_) q
      · exact hk (Zt xσ2) _ (hs.ext hσ) (hs.old hσ) _ q
      · exact hnext (IntKind.i64.wrap (t + 1)) _ _ ⟨_, sl0, rfl⟩ q
    · exact hk (Zt xσ) _ (hs.ext hσ) (hs.old hσ) _ q

/-! juntoref06_Make -/
def juntoref06_Make.C (p : Nat) (secret : Nat) (t : Int) (tape : (List Nat)) (K : (List (List Nat)) → (List Nat) → Prop) : Prop :=
  ∀ (Z : Nat → Prop) (H : Heap), ∀ (pv : Int), pv = (p : Int) → ∀ (secretv : Int), secretv = (secret : Int) → ∀ (tapeA : Option Addr) (tapen tapec : Nat), tapen = tape.length → SlF u64L Z H tapeA tapec tape → ∀ KK : Value → Heap → Prop,
    (∀ (Z' : Nat → Prop) (H' : Heap), Ext H H' → Old Z H Z' → ∀ (r0 : (List (List Nat))), ∀ (Y0 : Nat → Prop), (∀ i, Y0 i → H.size ≤ i ∧ ¬ Z' i) → ∀ (Ar0_0 : Option Addr) (nr0_0 cr0_0 : Nat), nr0_0 = r0.length → SlO (slM (rdM u64L) 22) 30 Z' Y0 H' Ar0_0 cr0_0 r0 → ∀ (r1 : (List Nat)), ∀ (Y1 : Nat → Prop), (∀ i, Y1 i → H.size ≤ i ∧ ¬ Z' i) → ∀ (Ar1_0 : Option Addr) (nr1_0 cr1_0 : Nat), nr1_0 = r1.length → SlO (rdM u64L) 22 Z' Y1 H' Ar1_0 cr1_0 r1 → (∀ i, Y0 i → ¬ Y1 i) → K r0 r1 → KK (.tuple #[.slice Ar0_0 nr0_0 cr0_0, .slice Ar1_0 nr1_0 cr1_0]) H') →
    CallH P N.juntoref06_Make [.int .u64 pv, .int .u64 secretv, .int .i64 t, .slice tapeA tapen tapec] H KK
def juntoref06_Make.Q (p : Nat) (secret : Nat) (t : Int) (tape : (List Nat)) (K : (List (List Nat)) → (List Nat) → Prop) : Prop :=
  juntoref06_Size.C t (fun (x : Int) =>
  juntoref01_Draw.C p tape x (fun (r : (List Nat)) (r2 : (List Nat)) =>
  AppOk 8 ([secret] ++ r).length ∧ MakeOk 24 (IntKind.i64.wrap (t + 1)) ∧ LoopQ (τ := Int × List (List Nat)) (0, (List.replicate (Int.toNat (IntKind.i64.wrap (t + 1))) [])) fun t2 nextQ =>
  cond (decide (t2.1 < ((Int.toNat (IntKind.i64.wrap (t + 1)) : Nat) : Int))) (MakeOk 8 (IntKind.i64.wrap (t + 1)) ∧ 0 ≤ t2.1 ∧ t2.1 < ((Int.toNat (IntKind.i64.wrap (t + 1)) : Nat) : Int) ∧ nextQ (IntKind.i64.wrap (t2.1 + 1), (List.set t2.2 (Int.toNat t2.1) (List.replicate (Int.toNat (IntKind.i64.wrap (t + 1))) 0))))
   (LoopQ (τ := Int × Int × List (List Nat)) (0, 0, t2.2) fun t3 nextQ2 =>
  cond (decide (t3.2.1 < ((Int.toNat (IntKind.i64.wrap (t + 1)) : Nat) : Int))) (LoopQ (τ := Int × Int × List (List Nat)) (t3.1, t3.2.1, t3.2.2) fun t4 nextQ3 =>
  cond (decide (t4.2.1 ≤ t)) (0 ≤ t3.2.1 ∧ t3.2.1 < ((Int.toNat (IntKind.i64.wrap (t + 1)) : Nat) : Int) ∧ 0 ≤ t4.2.1 ∧ t4.2.1 < ((Int.toNat (IntKind.i64.wrap (t + 1)) : Nat) : Int) ∧ 0 ≤ t4.1 ∧ t4.1 < ((([secret] ++ r).length : Nat) : Int) ∧ 0 ≤ t4.1 ∧ t4.1 < ((([secret] ++ r).length : Nat) : Int) ∧ ∃ x2 : (List Nat), t4.2.2[Int.toNat t3.2.1]? = some x2 ∧ ∃ x3 : (List Nat), t4.2.2[Int.toNat t4.2.1]? = some x3 ∧ ∃ x4 : Nat, ([secret] ++ r)[Int.toNat t4.1]? = some x4 ∧ ∃ x5 : Nat, ([secret] ++ r)[Int.toNat t4.1]? = some x5 ∧ 0 ≤ t4.2.1 ∧ t4.2.1 < ((x2.length : Nat) : Int) ∧ 0 ≤ t3.2.1 ∧ t3.2.1 < ((x3.length : Nat) : Int) ∧ ∃ row : (List Nat), (List.set t4.2.2 (Int.toNat t3.2.1) (List.set x2 (Int.toNat t4.2.1) x4))[Int.toNat t4.2.1]? = some row ∧ t3.2.1 < (row.length : Int) ∧ nextQ3 (IntKind.i64.wrap (t4.1 + 1), IntKind.i64.wrap (t4.2.1 + 1), (List.set (List.set t4.2.2 (Int.toNat t3.2.1) (List.set x2 (Int.toNat t4.2.1) x4)) (Int.toNat t4.2.1) (List.set row (Int.toNat t3.2.1) x5))))
   (nextQ2 (t4.1, IntKind.i64.wrap (t3.2.1 + 1), t4.2.2)))
   (K t3.2.2 r2))))
theorem juntoref06_Make.q {p : Nat} {secret : Nat} {t : Int} {tape : (List Nat)} {K : (List (List Nat)) → (List Nat) → Prop} (q : juntoref06_Make.Q p secret t tape K) : juntoref06_Make.C p secret t tape K := by
  intro Z H pv he secretv he2 tapeA tapen tapec hn f KK hk
  cases he
  cases he2
  cases hn
  apply juntoref06_Make.ok
  unfold juntoref06_Make.W
  unfold juntoref06_Make.Q at q
  obtain ⟨σ, hz, hσ⟩ := tags Z
  have hs : Stp ([1, 2, 3, 4, 5] : List Nat) σ H σ H := Stp.refl _ _ _
  replace f := f.wide hz
  clear hz
  refine q (Zt σ) H  _ (fun Z2 H_ hE hO x q => ?_)
  obtain ⟨xσ, st⟩ := call0 hE σ
  replace f := f.step st
  replace hs := hs.trans st
  refine ⟨_, rfl, ?_⟩
  refine q (Zt xσ) H_ _ rfl _ _ _ rfl f _ (fun Z3 H_2 hE2 hO2 r Y hY A n c hn2 f2 r2 Y2 hY2 A2 n2 c2 hn3 f3 hY3 q => ?_)
  obtain ⟨xσ2, st2, fz2, fy, fy2⟩ := call2 hE2 hO2 xσ 1 2 (fun _ h => h) hY hY2 hY3
  replace f2 := f2.keep fz2 fy
  replace f3 := f3.keep fz2 fy2
  cases hn2
  cases hn3
  replace f := f.step st2
  replace hs := hs.trans st2
  refine ⟨_, _, _, _, _, _, rfl, ?_⟩
  refine NewH.mk fun H_3 e => ?_
  obtain ⟨xσ3, st3, f4⟩ := SlO.lit (E := u64L) xσ2 3 (xs := [secret]) (l := [[_]]) e rfl (.cons rfl .nil) (show (1 : Nat) ≤ 17592186044416 by decide)
  replace f := f.step st3
  replace f2 := f2.step st3
  replace f3 := f3.step st3
  replace hs := hs.trans st3
  obtain ⟨xσ5, st5, f2⟩ := SlO.freeze f2
  replace f := f.step st5
  replace f3 := f3.step st5
  replace f4 := f4.step st5
  replace hs := hs.trans st5
  obtain ⟨q2, q⟩ := q
  refine SlO.appF f4 f2 rfl rfl q2.l q2.r rfl rfl (fun A3 c3 H_4 xσ4 st4 f4_ => ?_)
  replace f4 := f4_
  replace f := f.step st4
  replace f2 := f2.step st4
  replace f3 := f3.step st4
  replace hs := hs.trans st4
  have f5 := f4; clear f4
  obtain ⟨q3, q⟩ := q
  refine ⟨q3.1, Int.le_refl _, q3.w1, q3.w2, NewH.mk fun H_5 e2 => ?_⟩
  obtain ⟨xσ6, st6, f6⟩ := SlO.made (O := (slM (rdM u64L) 22)) xσ4 4 e2 (slM_zero _ _) q3.len
  replace f := f.step st6
  replace f2 := f2.step st6
  replace f3 := f3.step st6
  replace f5 := f5.step st6
  replace hs := hs.trans st6
  refine LoopI.ofQ q (fun t_ s_ hp_ => ∃ (σ_ : Nat → Nat), Stp [4, 5] xσ6 H_5 σ_ hp_ ∧ t_.1 = s_ ∧ t_.2.length = (List.replicate (Int.toNat (IntKind.i64.wrap (t + 1))) []).length ∧ SlO (slM (rdM u64L) 22) 30 (Zt σ_) (Yt σ_ 4) hp_ (some (Addr.mk H_4.size 0 none)) (Int.toNat (IntKind.i64.wrap (t + 1))) t_.2) (fun h k => h _ _ k) ⟨_, Stp.refl _ _ _, rfl, rfl, f6⟩ ?_
  rintro t2 _ _ H_6 next nextQ ⟨xσ7, st7, rfl, hl, f6⟩ q hnext
  try dsimp only at q ⊢
  replace f := f.step st7
  replace f2 := f2.step st7
  replace f3 := f3.step st7
  replace f5 := f5.step st7
  replace hs := hs.trans st7
  have sl7 := st7
  refine condI (fun q => ?_) (fun q => ?_) q
  · obtain ⟨q4, q⟩ := q
    refine ⟨q4.1, Int.le_refl _, q4.w1, q4.w2, NewH.mk fun H_7 e3 => ?_⟩
    obtain ⟨xσ8, st8, f7⟩ := SlO.made (O := (rdM u64L)) xσ7 5 e3 (u64_zero) q4.len
    replace f := f.step st8
    replace f2 := f2.step st8
    replace f3 := f3.step st8
    replace f5 := f5.step st8
    replace f6 := f6.step st8
    replace hs := hs.trans st8
    replace sl7 := sl7.trans st8
    obtain ⟨h0, hi2, q⟩ := q
    obtain ⟨a, ha, hi⟩ := f6.addr h0 ((rl_len _ _).trans hl.symm) hi2
    refine ⟨a, ha, hi.1, hi.2, ?_⟩
    have w := SlO.put f6 ha h0 (lt_of_n ((rl_len _ _).trans hl.symm) hi2) (rl_len _ _) f7
    refine ⟨w.1, NewH.mk fun H_8 e4 => ?_⟩
    obtain ⟨xσ9, st9, f6⟩ := w.2 H_8 e4
    replace f := f.step st9
    replace f2 := f2.step st9
    replace f3 := f3.step st9
    replace f5 := f5.step st9
    replace hs := hs.trans st9
    replace sl7 := sl7.trans st9
    exact hnext (IntKind.i64.wrap (t2.1 + 1), (List.set t2.2 (Int.toNat t2.1) (List.replicate (Int.toNat (IntKind.i64.wrap (t + 1))) 0))) _ _ ⟨_, sl7, rfl, (set_back ((rl_len _ _).trans hl.symm) (set_len ((rl_len _ _).trans hl.symm)) hl), f6⟩ q
  · refine LoopI.ofQ q (fun t_ s_ hp_ => ∃ (σ_ : Nat → Nat), Stp [4] xσ7 H_6 σ_ hp_ ∧ (t_.1, t_.2.1) = s_ ∧ t_.2.2.length = t2.2.length ∧ SlO (slM (rdM u64L) 22) 30 (Zt σ_) (Yt σ_ 4) hp_ (some (Addr.mk H_4.size 0 none)) (Int.toNat (IntKind.i64.wrap (t + 1))) t_.2.2) (fun h k => h _ _ k) ⟨_, Stp.refl _ _ _, rfl, rfl, f6⟩ ?_
    rintro t3 _ _ H_9 next2 nextQ2 ⟨xσ10, st10, rfl, hl2, f6⟩ q hnext2
    try dsimp only at q ⊢
    replace f := f.step st10
    replace f2 := f2.step st10
    replace f3 := f3.step st10
    replace f5 := f5.step st10
    replace hs := hs.trans st10
    have sl11 := st10
    refine condI (fun q => ?_) (fun q => ?_) q
    · refine LoopI.ofQ q (fun t_ s_ hp_ => ∃ (σ_ : Nat → Nat), Stp [4] xσ10 H_9 σ_ hp_ ∧ (t_.1, t_.2.1) = s_ ∧ t_.2.2.length = t3.2.2.length ∧ SlO (slM (rdM u64L) 22) 30 (Zt σ_) (Yt σ_ 4) hp_ (some (Addr.mk H_4.size 0 none)) (Int.toNat (IntKind.i64.wrap (t + 1))) t_.2.2) (fun h k => h _ _ k) ⟨_, Stp.refl _ _ _, rfl, rfl, f6⟩ ?_
      rintro t4 _ _ H_10 next3 nextQ3 ⟨xσ11, st11, rfl, hl3, f6⟩ q hnext3
      try dsimp only at q ⊢
      replace f := f.step st11
      replace f2 := f2.step st11
      replace f3 := f3.step st11
      replace f5 := f5.step st11
      replace hs := hs.trans st11
      replace sl11 := sl11.trans st11
      have sl13 := st11
      refine condI (fun q => ?_) (fun q => ?_) q
      · obtain ⟨h02, hi4, q⟩ := q
        obtain ⟨a2, ha2, hi3⟩ := f6.addr h02 ((((rl_len _ _).trans hl.symm).trans hl2.symm).trans hl3.symm) hi4
        refine ⟨a2, ha2, hi3.1, hi3.2, ?_⟩
        obtain ⟨h03, hi6, q⟩ := q
        obtain ⟨a3, ha3, hi5⟩ := f6.addr h03 ((((rl_len _ _).trans hl.symm).trans hl2.symm).trans hl3.symm) hi6
        refine ⟨a3, ha3, hi5.1, hi5.2, ?_⟩
        obtain ⟨h04, hi8, q⟩ := q
        obtain ⟨a4, ha4, hi7⟩ := f5.addr h04 rfl hi8
        refine ⟨a4, ha4, hi7.1, hi7.2, ?_⟩
        obtain ⟨h05, hi10, q⟩ := q
        obtain ⟨a5, ha5, hi9⟩ := f5.addr h05 rfl hi10
        refine ⟨a5, ha5, hi9.1, hi9.2, ?_⟩
        obtain ⟨x2, hx, q⟩ := q
        obtain ⟨A4, c4, Y3, hc, hY4, f8, bk⟩ := f6.row ha2 h02 hx
        have g := SlO.rowF f8 (fun b hb => (hY4 b hb).1)
        refine ⟨_, _, _, hc.val, ?_⟩
        obtain ⟨x3, hx2, q⟩ := q
        obtain ⟨A5, c5, Y4, hc2, hY5, f9, bk2⟩ := f6.row ha3 h03 hx2
        have g2 := SlO.rowF f9 (fun b hb => (hY5 b hb).1)
        refine ⟨_, _, _, hc2.val, ?_⟩
        obtain ⟨x4, hx3, q⟩ := q
        have hc3 := f5.ldu ha4 h04 hx3
        refine ⟨_, hc3.val, ?_⟩
        obtain ⟨x5, hx4, q⟩ := q
        have hc4 := f5.ldu ha5 h05 hx4
        refine ⟨_, hc4.val, ?_⟩
        obtain ⟨h06, hi12, q⟩ := q
        obtain ⟨a6, ha6, hi11⟩ := SlF.addr g h06 (List.getElem?_eq_getElem (idx_lt rfl h06 hi12)) rfl
        refine ⟨a6, ha6, hi11.1, hi11.2, ?_⟩
        have w2 := fun v hr => SlO.set2 (v := v) (y := x4) f6 rfl ha2 h02 hx hc ha6 h06 (lt_of_n rfl hi12) hr
        refine ⟨(w2 _ rfl).1, NewH.mk fun H_11 e5 => ?_⟩
        obtain ⟨st12, f6, hh⟩ := (w2 _ rfl).2 H_11 e5
        replace hc := hh _ _ hc
        replace hc2 := by have ea := Option.some.inj (ha3.symm.trans ha2); subst ea; exact hh _ _ hc2
        replace f := f.step st12
        replace f2 := f2.step st12
        replace f3 := f3.step st12
        replace f5 := f5.step st12
        replace hc3 := hc3.step st12
        replace hc4 := hc4.step st12
        replace hs := hs.trans st12
        replace sl11 := sl11.trans st12
        replace sl13 := sl13.trans st12
        obtain ⟨h07, hi14, q⟩ := q
        obtain ⟨a7, ha7, hi13⟩ := SlF.addr g2 h07 (List.getElem?_eq_getElem (idx_lt rfl h07 hi14)) rfl
        refine ⟨a7, ha7, hi13.1, hi13.2, ?_⟩
        obtain ⟨row, hx5, q⟩ := q
        obtain ⟨hl4, q⟩ := q
        have w3 := fun v hr => SlO.set2 (v := v) (y := x5) f6 rfl ha3 h03 hx5 hc2 ha7 h07 hl4 hr
        refine ⟨(w3 _ rfl).1, NewH.mk fun H_12 e6 => ?_⟩
        obtain ⟨st13, f6, hh2⟩ := (w3 _ rfl).2 H_12 e6
        replace hc := by have ea := Option.some.inj (ha2.symm.trans ha3); subst ea; exact hh2 _ _ hc
        replace hc2 := hh2 _ _ hc2
        replace f := f.step st13
        replace f2 := f2.step st13
        replace f3 := f3.step st13
        replace f5 := f5.step st13
        replace hc3 := hc3.step st13
        replace hc4 := hc4.step st13
        replace hs := hs.trans st13
        replace sl11 := sl11.trans st13
        replace sl13 := sl13.trans st13
        exact hnext3 (IntKind.i64.wrap (t4.1 + 1), IntKind.i64.wrap (t4.2.1 + 1), (List.set (List.set t4.2.2 (Int.toNat t3.2.1) (List.set x2 (Int.toNat t4.2.1) x4)) (Int.toNat t4.2.1) (List.set row (Int.toNat t3.2.1) x5))) _ _ ⟨_, sl13, rfl, (set_back ((((rl_len _ _).trans hl.symm).trans hl2.symm).trans hl3.symm) (set_len (set_len ((((rl_len _ _).trans hl.symm).trans hl2.symm).trans hl3.symm))) hl3), f6⟩ q
      · exact hnext2 (t4.1, IntKind.i64.wrap (t3.2.1 + 1), t4.2.2) _ _ ⟨_, sl11, rfl, (set_back (((rl_len _ _).trans hl.symm).trans hl2.symm) ((((rl_len _ _).trans hl.symm).trans hl2.symm).trans hl3.symm) hl2), f6⟩ q
    · exact hk (Zt xσ10) _ (hs.ext hσ) (hs.old hσ) _ (Yt xσ10 4) (hs.fresh hσ) _ _ _ (((rl_len _ _).trans hl.symm).trans hl2.symm) f6 _ (Yt xσ10 2) (hs.fresh hσ) _ _ _ rfl f3 Yt.apart q

/-! juntoref06_Row -/
def juntoref06_Row.C (p : Nat) (f : (List (List Nat))) (x : Nat) (K : (List Nat) → Prop) : Prop :=
  ∀ (Z : Nat → Prop) (H : Heap), ∀ (pv : Int), pv = (p : Int) → ∀ (fA : Option Addr) (fn fc : Nat), fn = f.length → SlF (slL u64L) Z H fA fc f → ∀ (xv : Int), xv = (x : Int) → ∀ KK : Value → Heap → Prop,
    (∀ (Z' : Nat → Prop) (H' : Heap), Ext H H' → Old Z H Z' → ∀ (r0 : (List Nat)), ∀ (Y0 : Nat → Prop), (∀ i, Y0 i → H.size ≤ i ∧ ¬ Z' i) → ∀ (Ar0_0 : Option Addr) (nr0_0 cr0_0 : Nat), nr0_0 = r0.length → SlO (rdM u64L) 22 Z' Y0 H' Ar0_0 cr0_0 r0 → K r0 → KK (.slice Ar0_0 nr0_0 cr0_0) H') →
    CallH P N.juntoref06_Row [.int .u64 pv, .slice fA fn fc, .int .u64 xv] H KK
def juntoref06_Row.Q (p : Nat) (f : (List (List Nat))) (x : Nat) (K : (List Nat) → Prop) : Prop :=
  MakeOk 8 ((f.length : Nat) : Int) ∧ LoopQ (τ := Int × List Nat) (0, (List.replicate f.length 0)) fun t nextQ =>
  cond (decide (t.1 < ((f.length : Nat) : Int))) (LoopQ (τ := Int × List Nat) (0, t.2) fun t2 nextQ2 =>
  cond (decide (t2.1 < ((f.length : Nat) : Int))) (0 ≤ t.1 ∧ t.1 < ((f.length : Nat) : Int) ∧ 0 ≤ t2.1 ∧ ∃ x2 : (List Nat), f[Int.toNat t2.1]? = some x2 ∧ ∃ x3 : Nat, t2.2[Int.toNat t.1]? = some x3 ∧ 0 ≤ t.1 ∧ ∃ x4 : Nat, x2[Int.toNat t.1]? = some x4 ∧ juntoref01_Pow.C p x ((IntKind.u64.wrap t2.1).toNat) (fun (x5 : Nat) =>
  juntoref01_Mul.C p x4 x5 (fun (x6 : Nat) =>
  juntoref01_Add.C p x3 x6 (fun (x7 : Nat) =>
  0 ≤ t.1 ∧ t.1 < ((f.length : Nat) : Int) ∧ nextQ2 (IntKind.i64.wrap (t2.1 + 1), (List.set t2.2 (Int.toNat t.1) x7))))))
   (nextQ (IntKind.i64.wrap (t.1 + 1), t2.2)))
   (juntoref02_Trim.C t.2 (fun (x8 : (List Nat)) =>
  K x8))
theorem juntoref06_Row.q {p : Nat} {f : (List (List Nat))} {x : Nat} {K : (List Nat) → Prop} (q : juntoref06_Row.Q p f x K) : juntoref06_Row.C p f x K := by
  intro Z H pv he fA fn fc hn f2 xv he2 KK hk
  cases he
  cases hn
  cases he2
  apply juntoref06_Row.ok
  unfold juntoref06_Row.W
  unfold juntoref06_Row.Q at q
  obtain ⟨σ, hz, hσ⟩ := tags Z
  have hs : Stp ([1, 2] : List Nat) σ H σ H := Stp.refl _ _ _
  replace f2 := f2.wide hz
  clear hz
  obtain ⟨q2, q⟩ := q
  refine ⟨q2.1, Int.le_refl _, q2.w1, q2.w2, NewH.mk fun H_ e => ?_⟩
  obtain ⟨xσ, st, f3⟩ := SlO.made (O := (rdM u64L)) σ 1 e (u64_zero) q2.len
  replace f2 := f2.step st
  replace hs := hs.trans st
  refine LoopI.ofQ q (fun t_ s_ hp_ => ∃ (σ_ : Nat → Nat), Stp [1] xσ H_ σ_ hp_ ∧ t_.1 = s_ ∧ t_.2.length = (List.replicate f.length 0).length ∧ SlO (rdM u64L) 22 (Zt σ_) (Yt σ_ 1) hp_ (some (Addr.mk H.size 0 none)) f.length t_.2) (fun h k => h _ _ k) ⟨_, Stp.refl _ _ _, rfl, rfl, f3⟩ ?_
  rintro t _ _ H_2 next nextQ ⟨xσ2, st2, rfl, hl, f3⟩ q hnext
  try dsimp only at q ⊢
  replace f2 := f2.step st2
  replace hs := hs.trans st2
  have sl3 := st2
  refine condI (fun q => ?_) (fun q => ?_) q
  · refine LoopI.ofQ q (fun t_ s_ hp_ => ∃ (σ_ : Nat → Nat), Stp [1] xσ2 H_2 σ_ hp_ ∧ t_.1 = s_ ∧ t_.2.length = t.2.length ∧ SlO (rdM u64L) 22 (Zt σ_) (Yt σ_ 1) hp_ (some (Addr.mk H.size 0 none)) f.length t_.2) (fun h k => h _ _ k) ⟨_, Stp.refl _ _ _, rfl, rfl, f3⟩ ?_
    rintro t2 _ _ H_3 next2 nextQ2 ⟨xσ3, st3, rfl, hl2, f3⟩ q hnext2
    try dsimp only at q ⊢
    replace f2 := f2.step st3
    replace hs := hs.trans st3
    replace sl3 := sl3.trans st3
    have sl5 := st3
    refine condI (fun q => ?_) (fun q => ?_) q
    · obtain ⟨h0, hi2, q⟩ := q
      obtain ⟨a, ha, hi⟩ := f3.addr h0 (((rl_len _ _).trans hl.symm).trans hl2.symm) hi2
      refine ⟨a, ha, hi.1, hi.2, ?_⟩
      obtain ⟨h02, x2, hx, q⟩ := q
      obtain ⟨a2, ha2, hi3⟩ := f2.addr h02 hx rfl
      refine ⟨a2, ha2, hi3.1, hi3.2, ?_⟩
      obtain ⟨x3, hx2, q⟩ := q
      have hc := f3.ldu ha h0 hx2
      refine ⟨_, hc.val, ?_⟩
      obtain ⟨A, c, hc2, f4⟩ := f2.lds ha2 h02 hx
      refine ⟨_, _, _, hc2.val, ?_⟩
      obtain ⟨h03, x4, hx3, q⟩ := q
      obtain ⟨a3, ha3, hi4⟩ := f4.addr h03 hx3 rfl
      refine ⟨a3, ha3, hi4.1, hi4.2, ?_⟩
      have hc3 := f4.ldu ha3 h03 hx3
      refine ⟨_, hc3.val, ?_⟩
      refine q (Zt xσ3) H_3 _ rfl _ rfl _ (natEq (nnw _)) _ (fun Z2 H_4 hE hO x5 v he3 q => ?_)
      obtain ⟨xσ4, st4⟩ := call0 hE xσ3
      cases he3
      replace f2 := f2.step st4
      replace f3 := f3.step st4
      replace hc := hc.step st4
      replace hc2 := hc2.step st4
      replace f4 := f4.step st4
      replace hc3 := hc3.step st4
      replace hs := hs.trans st4
      replace sl3 := sl3.trans st4
      replace sl5 := sl5.trans st4
      refine ⟨_, rfl, ?_⟩
      refine ⟨hc3.val, hc2.val, hc.val, ?_⟩
      refine q (Zt xσ4) H_4 _ rfl _ rfl _ rfl _ (fun Z3 H_5 hE2 hO2 x6 v2 he4 q => ?_)
      obtain ⟨xσ5, st5⟩ := call0 hE2 xσ4
      cases he4
      replace f2 := f2.step st5
      replace f3 := f3.step st5
      replace hc := hc.step st5
      replace hc2 := hc2.step st5
      replace f4 := f4.step st5
      replace hc3 := hc3.step st5
      replace hs := hs.trans st5
      replace sl3 := sl3.trans st5
      replace sl5 := sl5.trans st5
      refine ⟨_, rfl, ?_⟩
      refine ⟨hc2.val, hc.val, ?_⟩
      refine q (Zt xσ5) H_5 _ rfl _ rfl _ rfl _ (fun Z4 H_6 hE3 hO3 x7 v3 he5 q => ?_)
      obtain ⟨xσ6, st6⟩ := call0 hE3 xσ5
      cases he5
      replace f2 := f2.step st6
      replace f3 := f3.step st6
      replace hc := hc.step st6
      replace hc2 := hc2.step st6
      replace f4 := f4.step st6
      replace hc3 := hc3.step st6
      replace hs := hs.trans st6
      replace sl3 := sl3.trans st6
      replace sl5 := sl5.trans st6
      refine ⟨_, rfl, ?_⟩
      refine ⟨hc2.val, ?_⟩
      obtain ⟨h04, hi6, q⟩ := q
      obtain ⟨a4, ha4, hi5⟩ := f3.addr h04 (((rl_len _ _).trans hl.symm).trans hl2.symm) hi6
      refine ⟨a4, ha4, hi5.1, hi5.2, ?_⟩
      have w := fun v hr => SlO.set1 (v := v) (y := x7) f3 rfl ha4 h04 (lt_of_n (((rl_len _ _).trans hl.symm).trans hl2.symm) hi6) hr
      refine ⟨(w _ rfl).1, NewH.mk fun H_7 e2 => ?_⟩
      obtain ⟨st7, f3⟩ := (w _ rfl).2 H_7 e2
      replace f2 := f2.step st7
      replace hc2 := hc2.step st7
      replace f4 := f4.step st7
      replace hc3 := hc3.step st7
      replace hs := hs.trans st7
      replace sl3 := sl3.trans st7
      replace sl5 := sl5.trans st7
      exact hnext2 (IntKind.i64.wrap (t2.1 + 1), (List.set t2.2 (Int.toNat t.1) x7)) _ _ ⟨_, sl5, rfl, (set_back (((rl_len _ _).trans hl.symm).trans hl2.symm) (set_len (((rl_len _ _).trans hl.symm).trans hl2.symm)) hl2), f3⟩ q
    · exact hnext (IntKind.i64.wrap (t.1 + 1), t2.2) _ _ ⟨_, sl3, rfl, (set_back ((rl_len _ _).trans hl.symm) (((rl_len _ _).trans hl.symm).trans hl2.symm) hl), f3⟩ q
  · refine q (fun i => xσ2 i = 0 ∨ xσ2 i = 1) H_2 _ _ _ ((rl_len _ _).trans hl.symm) (f3.read (fun i h => .inl h) (fun i h => .inr (h))) _ (fun Z5 H_8 hE4 hO4 x8 Y hY A2 n c2 hn2 f5 q => ?_)
    obtain ⟨xσ7, st8, fy⟩ := callB1 hE4 hO4 xσ2 2 hY
    replace f5 := (SlO.anyZ (Z' := Zt xσ7) u64_flatL f5).keep (Fr.refl _ _) fy
    cases hn2
    replace f2 := f2.step st8
    replace f3 := f3.step st8
    replace hs := hs.trans st8
    refine ⟨_, _, _, rfl, ?_⟩
    exact hk (Zt xσ7) _ (hs.ext hσ) (hs.old hσ) _ (Yt xσ7 2) (hs.fresh hσ) _ _ _ rfl f5 q

/-! juntoref06_At -/
def juntoref06_At.C (p : Nat) (f : (List (List Nat))) (x : Nat) (y : Nat) (K : Nat → Prop) : Prop :=
  ∀ (Z : Nat → Prop) (H : Heap), ∀ (pv : Int), pv = (p : Int) → ∀ (fA : Option Addr) (fn fc : Nat), fn = f.length → SlF (slL u64L) Z H fA fc f → ∀ (xv : Int), xv = (x : Int) → ∀ (yv : Int), yv = (y : Int) → ∀ KK : Value → Heap → Prop,
    (∀ (Z' : Nat → Prop) (H' : Heap), Ext H H' → Old Z H Z' → ∀ (r0 : Nat), ∀ (r0v0 : Int), r0v0 = (r0 : Int) → K r0 → KK (.int .u64 r0v0) H') →
    CallH P N.juntoref06_At [.int .u64 pv, .slice fA fn fc, .int .u64 xv, .int .u64 yv] H KK
def juntoref06_At.Q (p : Nat) (f : (List (List Nat))) (x : Nat) (y : Nat) (K : Nat → Prop) : Prop :=
  juntoref06_Row.C p f x (fun (x2 : (List Nat)) =>
  juntoref02_Eval.C p x2 y (fun (x3 : Nat) =>
  K x3))
theorem juntoref06_At.q {p : Nat} {f : (List (List Nat))} {x : Nat} {y : Nat} {K : Nat → Prop} (q : juntoref06_At.Q p f x y K) : juntoref06_At.C p f x y K := by
  intro Z H pv he fA fn fc hn f2 xv he2 yv he3 KK hk
  cases he
  cases hn
  cases he2
  cases he3
  apply juntoref06_At.ok
  unfold juntoref06_At.W
  unfold juntoref06_At.Q at q
  obtain ⟨σ, hz, hσ⟩ := tags Z
  have hs : Stp ([1] : List Nat) σ H σ H := Stp.refl _ _ _
  replace f2 := f2.wide hz
  clear hz
  refine q (Zt σ) H _ rfl _ _ _ rfl f2 _ rfl _ (fun Z2 H_ hE hO x2 Y hY A n c hn2 f3 q => ?_)
  obtain ⟨xσ, st, fz, fy⟩ := call1 hE hO σ 1 (fun _ h => h) hY
  replace f3 := f3.keep fz fy
  cases hn2
  replace f2 := f2.step st
  replace hs := hs.trans st
  refine ⟨_, _, _, rfl, ?_⟩
  refine q (fun i => xσ i = 0 ∨ xσ i = 1) H_ _ rfl _ _ _ rfl (f3.read (fun i h => .inl h) (fun i h => .inr (h))) _ rfl _ (fun Z3 H_2 hE2 hO2 x3 v he4 q => ?_)
  obtain ⟨xσ2, st2⟩ := call0 hE2 xσ
  cases he4
  replace f2 := f2.step st2
  replace f3 := f3.step st2
  replace hs := hs.trans st2
  refine ⟨_, rfl, ?_⟩
  exact hk (Zt xσ2) _ (hs.ext hσ) (hs.old hσ) _ _ rfl q

/-! juntoref06_Tape -/
def juntoref06_Tape.C (f : (List (List Nat))) (K : Nat → (List Nat) → Prop) : Prop :=
  ∀ (Z : Nat → Prop) (H : Heap), ∀ (fA : Option Addr) (fn fc : Nat), fn = f.length → SlF (slL u64L) Z H fA fc f → ∀ KK : Value → Heap → Prop,
    (∀ (Z' : Nat → Prop) (H' : Heap), Ext H H' → Old Z H Z' → ∀ (r0 : Nat), ∀ (r0v0 : Int), r0v0 = (r0 : Int) → ∀ (r1 : (List Nat)), ∀ (Ar1_0 : Option Addr) (nr1_0 cr1_0 : Nat), nr1_0 = r1.length → SlF u64L Z' H' Ar1_0 cr1_0 r1 → K r0 r1 → KK (.tuple #[.int .u64 r0v0, .slice Ar1_0 nr1_0 cr1_0]) H') →
    CallH P N.juntoref06_Tape [.slice fA fn fc] H KK
def juntoref06_Tape.Q (f : (List (List Nat))) (K : Nat → (List Nat) → Prop) : Prop :=
  LoopQ (τ := List Nat × Int) (([] : List Nat), 0) fun t nextQ =>
  cond (decide (t.2 < ((f.length : Nat) : Int))) (0 ≤ t.2 ∧ ∃ x : (List Nat), f[Int.toNat t.2]? = some x ∧ 0 ≤ t.2 ∧ t.2 ≤ ((x.length : Nat) : Int) ∧ AppOk 8 (t.1 ++ (List.drop (Int.toNat t.2) x)).length ∧ nextQ ((t.1 ++ (List.drop (Int.toNat t.2) x)), IntKind.i64.wrap (t.2 + 1)))
   (0 ≤ (0 : Int) ∧ (0 : Int) < ((t.1.length : Nat) : Int) ∧ 0 ≤ (1 : Int) ∧ (1 : Int) ≤ ((t.1.length : Nat) : Int) ∧ ∃ x2 : Nat, t.1[0]? = some x2 ∧ K x2 (List.drop 1 t.1))
theorem juntoref06_Tape.q {f : (List (List Nat))} {K : Nat → (List Nat) → Prop} (q : juntoref06_Tape.Q f K) : juntoref06_Tape.C f K := by
  intro Z H fA fn fc hn f2 KK hk
  cases hn
  apply juntoref06_Tape.ok
  unfold juntoref06_Tape.W
  unfold juntoref06_Tape.Q at q
  obtain ⟨σ, hz, hσ⟩ := tags Z
  have hs : Stp ([1] : List Nat) σ H σ H := Stp.refl _ _ _
  replace f2 := f2.wide hz
  clear hz
  have f3 := SlO.nil (rdM u64L) 22 (Zt σ) (Yt σ 1) H
  refine LoopI.ofQ q (fun t_ s_ hp_ => ∃ (σ_ : Nat → Nat) (A0_ : Option Addr) (n0_ c0_ : Nat), Stp [1] σ H σ_ hp_ ∧ ((A0_, n0_, c0_), t_.2) = s_ ∧ n0_ = t_.1.length ∧ SlO (rdM u64L) 22 (Zt σ_) (Yt σ_ 1) hp_ A0_ c0_ t_.1) (fun h k => h _ _ k) ⟨_, _, _, _, Stp.refl _ _ _, rfl, rfl, f3⟩ ?_
  rintro t _ _ H_ next nextQ ⟨xσ, A, n, c, st, rfl, rfl, f4⟩ q hnext
  try dsimp only at q ⊢
  replace f2 := f2.step st
  replace hs := hs.trans st
  have sl0 := st
  refine condI (fun q => ?_) (fun q => ?_) q
  · obtain ⟨h0, x, hx, q⟩ := q
    obtain ⟨a, ha, hi⟩ := f2.addr h0 hx rfl
    refine ⟨a, ha, hi.1, hi.2, ?_⟩
    obtain ⟨A2, c2, hc, f5⟩ := f2.lds ha h0 hx
    refine ⟨_, _, _, hc.val, ?_⟩
    obtain ⟨q2, q3, q⟩ := q
    have f6 := f5.from (l := Int.toNat t.2) (k := 1) (upto_le rfl q3) rfl
    refine ⟨q2, q3, ?_⟩
    obtain ⟨q4, q⟩ := q
    refine SlO.appF f4 f6 rfl rfl q4.l q4.r rfl (drop_len rfl) (fun A3 c3 H_2 xσ2 st2 f4_ => ?_)
    replace f4 := f4_
    replace f2 := f2.step st2
    replace hc := hc.step st2
    replace f5 := f5.step st2
    replace f6 := f6.step st2
    replace hs := hs.trans st2
    replace sl0 := sl0.trans st2
    have f7 := f4; clear f4
    exact hnext ((t.1 ++ (List.drop (Int.toNat t.2) x)), IntKind.i64.wrap (t.2 + 1)) _ _ ⟨_, _, _, _, sl0, rfl, rfl, f7⟩ q
  · obtain ⟨h02, hi3, q⟩ := q
    obtain ⟨a2, ha2, hi2⟩ := f4.addr h02 rfl hi3
    refine ⟨a2, ha2, hi2.1, hi2.2, ?_⟩
    obtain ⟨xσ3, st3, f4⟩ := SlO.freeze f4
    replace f2 := f2.step st3
    replace hs := hs.trans st3
    obtain ⟨q5, q6, q⟩ := q
    have f8 := f4.from (l := 1) (k := 1) (upto_le rfl q6) rfl
    refine ⟨q5, q6, ?_⟩
    obtain ⟨x2, hx2, q⟩ := q
    have hc2 := f4.ldu ha2 h02 hx2
    refine ⟨_, hc2.val, ?_⟩
    exact hk (Zt xσ3) _ (hs.ext hσ) (hs.old hσ) _ _ rfl _ _ _ _ (drop_len rfl) f8 q

/-! juntoref06_Add -/
def juntoref06_Add.C (p : Nat) (f : (List (List Nat))) (g : (List (List Nat))) (K : (List (List Nat)) → Prop) : Prop :=
  ∀ (Z : Nat → Prop) (H : Heap), ∀ (pv : Int), pv = (p : Int) → ∀ (fA : Option Addr) (fn fc : Nat), fn = f.length → SlF (slL u64L) Z H fA fc f → ∀ (gA : Option Addr) (gn gc : Nat), gn = g.length → SlF (slL u64L) Z H gA gc g → ∀ KK : Value → Heap → Prop,
    (∀ (Z' : Nat → Prop) (H' : Heap), Ext H H' → Old Z H Z' → ∀ (r0 : (List (List Nat))), ∀ (Y0 : Nat → Prop), (∀ i, Y0 i → H.size ≤ i ∧ ¬ Z' i) → ∀ (Ar0_0 : Option Addr) (nr0_0 cr0_0 : Nat), nr0_0 = r0.length → SlO (rdM (slL u64L)) 30 Z' Y0 H' Ar0_0 cr0_0 r0 → K r0 → KK (.slice Ar0_0 nr0_0 cr0_0) H') →
    CallH P N.juntoref06_Add [.int .u64 pv, .slice fA fn fc, .slice gA gn gc] H KK
def juntoref06_Add.Q (p : Nat) (f : (List (List Nat))) (g : (List (List Nat))) (K : (List (List Nat)) → Prop) : Prop :=
  LoopQ (τ := List (List Nat) × Int) (([] : List (List Nat)), 0) fun t nextQ =>
  cond (decide (t.2 < ((f.length : Nat) : Int))) (LoopQ (τ := List Nat × Int) (([] : List Nat), 0) fun t2 nextQ2 =>
  cond (decide (t2.2 < ((f.length : Nat) : Int))) (0 ≤ t.2 ∧ ∃ x : (List Nat), f[Int.toNat t.2]? = some x ∧ 0 ≤ t.2 ∧ ∃ x2 : (List Nat), g[Int.toNat t.2]? = some x2 ∧ 0 ≤ t2.2 ∧ ∃ x3 : Nat, x[Int.toNat t2.2]? = some x3 ∧ 0 ≤ t2.2 ∧ ∃ x4 : Nat, x2[Int.toNat t2.2]? = some x4 ∧ juntoref01_Add.C p x3 x4 (fun (x5 : Nat) =>
  AppOk 8 (t2.1 ++ ([x5] : List Nat)).length ∧ nextQ2 ((t2.1 ++ ([x5] : List Nat)), IntKind.i64.wrap (t2.2 + 1))))
   (AppOk 24 (t.1 ++ ([t2.1] : List (List Nat))).length ∧ nextQ ((t.1 ++ ([t2.1] : List (List Nat))), IntKind.i64.wrap (t.2 + 1))))
   (K t.1)
theorem juntoref06_Add.q {p : Nat} {f : (List (List Nat))} {g : (List (List Nat))} {K : (List (List Nat)) → Prop} (q : juntoref06_Add.Q p f g K) : juntoref06_Add.C p f g K := by
  intro Z H pv he fA fn fc hn f2 gA gn gc hn2 f3 KK hk
  cases he
  cases hn
  cases hn2
  apply juntoref06_Add.ok
  unfold juntoref06_Add.W
  unfold juntoref06_Add.Q at q
  obtain ⟨σ, hz, hσ⟩ := tags Z
  have hs : Stp ([1, 2, 3, 4] : List Nat) σ H σ H := Stp.refl _ _ _
  replace f2 := f2.wide hz
  replace f3 := f3.wide hz
  clear hz
  have f4 := SlO.nil (rdM (slL u64L)) 30 (Zt σ) (Yt σ 1) H
  refine LoopI.ofQ q (fun t_ s_ hp_ => ∃ (σ_ : Nat → Nat) (A0_ : Option Addr) (n0_ c0_ : Nat), Stp [1, 2, 3, 4] σ H σ_ hp_ ∧ ((A0_, n0_, c0_), t_.2) = s_ ∧ n0_ = t_.1.length ∧ SlO (rdM (slL u64L)) 30 (Zt σ_) (Yt σ_ 1) hp_ A0_ c0_ t_.1) (fun h k => h _ _ k) ⟨_, _, _, _, Stp.refl _ _ _, rfl, rfl, f4⟩ ?_
  rintro t _ _ H_ next nextQ ⟨xσ, A, n, c, st, rfl, rfl, f5⟩ q hnext
  try dsimp only at q ⊢
  replace f2 := f2.step st
  replace f3 := f3.step st
  replace hs := hs.trans st
  have sl0 := st
  refine condI (fun q => ?_) (fun q => ?_) q
  · have f6 := SlO.nil (rdM u64L) 22 (Zt xσ) (Yt xσ 2) H_
    refine LoopI.ofQ q (fun t_ s_ hp_ => ∃ (σ_ : Nat → Nat) (A0_ : Option Addr) (n0_ c0_ : Nat), Stp [2, 3] xσ H_ σ_ hp_ ∧ ((A0_, n0_, c0_), t_.2) = s_ ∧ n0_ = t_.1.length ∧ SlO (rdM u64L) 22 (Zt σ_) (Yt σ_ 2) hp_ A0_ c0_ t_.1) (fun h k => h _ _ k) ⟨_, _, _, _, Stp.refl _ _ _, rfl, rfl, f6⟩ ?_
    rintro t2 _ _ H_2 next2 nextQ2 ⟨xσ2, A2, n2, c2, st2, rfl, rfl, f7⟩ q hnext2
    try dsimp only at q ⊢
    replace f2 := f2.step st2
    replace f3 := f3.step st2
    replace f5 := f5.step st2
    replace hs := hs.trans st2
    replace sl0 := sl0.trans st2
    have sl1 := st2
    refine condI (fun q => ?_) (fun q => ?_) q
    · obtain ⟨h0, x, hx, q⟩ := q
      obtain ⟨a, ha, hi⟩ := f2.addr h0 hx rfl
      refine ⟨a, ha, hi.1, hi.2, ?_⟩
      obtain ⟨h02, x2, hx2, q⟩ := q
      obtain ⟨a2, ha2, hi2⟩ := f3.addr h02 hx2 rfl
      refine ⟨a2, ha2, hi2.1, hi2.2, ?_⟩
      obtain ⟨A3, c3, hc, f8⟩ := f2.lds ha h0 hx
      refine ⟨_, _, _, hc.val, ?_⟩
      obtain ⟨h03, x3, hx3, q⟩ := q
      obtain ⟨a3, ha3, hi3⟩ := f8.addr h03 hx3 rfl
      refine ⟨a3, ha3, hi3.1, hi3.2, ?_⟩
      have hc2 := f8.ldu ha3 h03 hx3
      refine ⟨_, hc2.val, ?_⟩
      obtain ⟨A4, c4, hc3, f9⟩ := f3.lds ha2 h02 hx2
      refine ⟨_, _, _, hc3.val, ?_⟩
      obtain ⟨h04, x4, hx4, q⟩ := q
      obtain ⟨a4, ha4, hi4⟩ := f9.addr h04 hx4 rfl
      refine ⟨a4, ha4, hi4.1, hi4.2, ?_⟩
      have hc4 := f9.ldu ha4 h04 hx4
      refine ⟨_, hc4.val, ?_⟩
      refine q (Zt xσ2) H_2 _ rfl _ rfl _ rfl _ (fun Z2 H_3 hE hO x5 v he2 q => ?_)
      obtain ⟨xσ3, st3⟩ := call0 hE xσ2
      cases he2
      replace f2 := f2.step st3
      replace f3 := f3.step st3
      replace f5 := f5.step st3
      replace f7 := f7.step st3
      replace hc := hc.step st3
      replace f8 := f8.step st3
      replace hc2 := hc2.step st3
      replace hc3 := hc3.step st3
      replace f9 := f9.step st3
      replace hc4 := hc4.step st3
      replace hs := hs.trans st3
      replace sl0 := sl0.trans st3
      replace sl1 := sl1.trans st3
      refine ⟨_, rfl, ?_⟩
      refine ⟨hc3.val, hc.val, ?_⟩
      refine NewH.mk fun H_4 e => ?_
      obtain ⟨xσ4, st4, f10⟩ := SlO.lit (E := u64L) xσ3 3 (xs := [x5]) (l := [[_]]) e rfl (.cons rfl .nil) (show (1 : Nat) ≤ 17592186044416 by decide)
      replace f2 := f2.step st4
      replace f3 := f3.step st4
      replace f5 := f5.step st4
      replace f7 := f7.step st4
      replace hc := hc.step st4
      replace f8 := f8.step st4
      replace hc2 := hc2.step st4
      replace hc3 := hc3.step st4
      replace f9 := f9.step st4
      replace hc4 := hc4.step st4
      replace hs := hs.trans st4
      replace sl0 := sl0.trans st4
      replace sl1 := sl1.trans st4
      refine ⟨hc3.val, hc.val, ?_⟩
      obtain ⟨xσ6, st6, f10⟩ := SlO.freeze f10
      replace f2 := f2.step st6
      replace f3 := f3.step st6
      replace f5 := f5.step st6
      replace f7 := f7.step st6
      replace hc := hc.step st6
      replace f8 := f8.step st6
      replace hc2 := hc2.step st6
      replace hc3 := hc3.step st6
      replace f9 := f9.step st6
      replace hc4 := hc4.step st6
      replace hs := hs.trans st6
      replace sl0 := sl0.trans st6
      replace sl1 := sl1.trans st6
      obtain ⟨q2, q⟩ := q
      refine SlO.appF f7 f10 rfl rfl q2.l q2.r rfl rfl (fun A5 c5 H_5 xσ5 st5 f7_ => ?_)
      replace f7 := f7_
      replace f2 := f2.step st5
      replace f3 := f3.step st5
      replace f5 := f5.step st5
      replace hc := hc.step st5
      replace f8 := f8.step st5
      replace hc2 := hc2.step st5
      replace hc3 := hc3.step st5
      replace f9 := f9.step st5
      replace hc4 := hc4.step st5
      replace f10 := f10.step st5
      replace hs := hs.trans st5
      replace sl0 := sl0.trans st5
      replace sl1 := sl1.trans st5
      have f11 := f7; clear f7
      refine ⟨hc3.val, hc.val, ?_⟩
      exact hnext2 ((t2.1 ++ ([x5] : List Nat)), IntKind.i64.wrap (t2.2 + 1)) _ _ ⟨_, _, _, _, sl1, rfl, rfl, f11⟩ q
    · obtain ⟨xσ7, st7, f7⟩ := SlO.freeze f7
      replace f2 := f2.step st7
      replace f3 := f3.step st7
      replace f5 := f5.step st7
      replace hs := hs.trans st7
      replace sl0 := sl0.trans st7
      refine NewH.mk fun H_6 e2 => ?_
      obtain ⟨xσ8, st8, f12⟩ := SlO.lit (E := (slL u64L)) xσ7 4 (xs := [t2.1]) (l := [[_]]) e2 rfl (.cons (slL_rep rfl f7) .nil) (show (1 : Nat) ≤ 17592186044416 by decide)
      replace f2 := f2.step st8
      replace f3 := f3.step st8
      replace f5 := f5.step st8
      replace f7 := f7.step st8
      replace hs := hs.trans st8
      replace sl0 := sl0.trans st8
      obtain ⟨xσ10, st10, f12⟩ := SlO.freeze f12
      replace f2 := f2.step st10
      replace f3 := f3.step st10
      replace f5 := f5.step st10
      replace f7 := f7.step st10
      replace hs := hs.trans st10
      replace sl0 := sl0.trans st10
      obtain ⟨q3, q⟩ := q
      refine SlO.appF f5 f12 rfl rfl q3.l q3.r rfl rfl (fun A6 c6 H_7 xσ9 st9 f5_ => ?_)
      replace f5 := f5_
      replace f2 := f2.step st9
      replace f3 := f3.step st9
      replace f7 := f7.step st9
      replace f12 := f12.step st9
      replace hs := hs.trans st9
      replace sl0 := sl0.trans st9
      have f13 := f5; clear f5
      exact hnext ((t.1 ++ ([t2.1] : List (List Nat))), IntKind.i64.wrap (t.2 + 1)) _ _ ⟨_, _, _, _, sl0, rfl, rfl, f13⟩ q
  · exact hk (Zt xσ) _ (hs.ext hσ) (hs.old hσ) _ (Yt xσ 1) (hs.fresh hσ) _ _ _ rfl f5 q

/-! juntoref06_Lift -/
def juntoref06_Lift.C (p : Nat) (f : (List (List Nat))) (k : Nat) (z : (List Nat)) (K : (List (List Nat)) → Prop) : Prop :=
  ∀ (Z : Nat → Prop) (H : Heap), ∀ (pv : Int), pv = (p : Int) → ∀ (fA : Option Addr) (fn fc : Nat), fn = f.length → SlF (slL u64L) Z H fA fc f → ∀ (kv : Int), kv = (k : Int) → ∀ (zA : Option Addr) (zn zc : Nat), zn = z.length → SlF u64L Z H zA zc z → ∀ KK : Value → Heap → Prop,
    (∀ (Z' : Nat → Prop) (H' : Heap), Ext H H' → Old Z H Z' → ∀ (r0 : (List (List Nat))), ∀ (Y0 : Nat → Prop), (∀ i, Y0 i → H.size ≤ i ∧ ¬ Z' i) → ∀ (Ar0_0 : Option Addr) (nr0_0 cr0_0 : Nat), nr0_0 = r0.length → SlO (rdM (slL u64L)) 30 Z' Y0 H' Ar0_0 cr0_0 r0 → K r0 → KK (.slice Ar0_0 nr0_0 cr0_0) H') →
    CallH P N.juntoref06_Lift [.int .u64 pv, .slice fA fn fc, .int .u64 kv, .slice zA zn zc] H KK
def juntoref06_Lift.Q (p : Nat) (f : (List (List Nat))) (k : Nat) (z : (List Nat)) (K : (List (List Nat)) → Prop) : Prop :=
  AppOk 8 ([] ++ z).length ∧ MakeOk 8 ((f.length : Nat) : Int) ∧ AppOk 8 (z ++ List.replicate f.length 0).length ∧ LoopQ (τ := List (List Nat) × Int) (([] : List (List Nat)), 0) fun t nextQ =>
  cond (decide (t.2 < ((f.length : Nat) : Int))) (LoopQ (τ := List Nat × Int) (([] : List Nat), 0) fun t2 nextQ2 =>
  cond (decide (t2.2 < ((f.length : Nat) : Int))) (0 ≤ t.2 ∧ t.2 < (((z ++ List.replicate f.length 0).length : Nat) : Int) ∧ 0 ≤ t2.2 ∧ t2.2 < (((z ++ List.replicate f.length 0).length : Nat) : Int) ∧ ∃ x : Nat, (z ++ List.replicate f.length 0)[Int.toNat t.2]? = some x ∧ ∃ x2 : Nat, (z ++ List.replicate f.length 0)[Int.toNat t2.2]? = some x2 ∧ juntoref01_Mul.C p x x2 (fun (x3 : Nat) =>
  juntoref01_Mul.C p k x3 (fun (x4 : Nat) =>
  AppOk 8 (t2.1 ++ ([x4] : List Nat)).length ∧ nextQ2 ((t2.1 ++ ([x4] : List Nat)), IntKind.i64.wrap (t2.2 + 1)))))
   (AppOk 24 (t.1 ++ ([t2.1] : List (List Nat))).length ∧ nextQ ((t.1 ++ ([t2.1] : List (List Nat))), IntKind.i64.wrap (t.2 + 1))))
   (juntoref06_Add.C p f t.1 (fun (x5 : (List (List Nat))) =>
  K x5))
theorem juntoref06_Lift.q {p : Nat} {f : (List (List Nat))} {k : Nat} {z : (List Nat)} {K : (List (List Nat)) → Prop} (q : juntoref06_Lift.Q p f k z K) : juntoref06_Lift.C p f k z K := by
  intro Z H pv he fA fn fc hn f2 kv he2 zA zn zc hn2 f3 KK hk
  cases he
  cases hn
  cases he2
  cases hn2
  apply juntoref06_Lift.ok
  unfold juntoref06_Lift.W
  unfold juntoref06_Lift.Q at q
  obtain ⟨σ, hz, hσ⟩ := tags Z
  have hs : Stp ([1, 2, 3, 4, 5, 6] : List Nat) σ H σ H := Stp.refl _ _ _
  replace f2 := f2.wide hz
  replace f3 := f3.wide hz
  clear hz
  refine NewH.mk fun H_ e => ?_
  obtain ⟨xσ, st, f4⟩ := SlO.lit (E := u64L) σ 1 (xs := []) (l := []) e rfl .nil (show (0 : Nat) ≤ 17592186044416 by decide)
  replace f2 := f2.step st
  replace f3 := f3.step st
  replace hs := hs.trans st
  obtain ⟨q2, q⟩ := q
  refine SlO.appF f4 f3 rfl rfl q2.l q2.r rfl rfl (fun A c H_2 xσ2 st2 f4_ => ?_)
  replace f4 := f4_
  replace f2 := f2.step st2
  replace f3 := f3.step st2
  replace hs := hs.trans st2
  have f5 := SlO.nilapp f4; clear f4
  obtain ⟨q3, q4, q⟩ := q
  refine ⟨q3.1, q3.w1, q3.w2, SlO.appZ (l := ((f.length : Nat) : Int)) f5 (u64_zero) rfl q4.l q4.r rfl (fun A2 c2 H_3 xσ3 st3 f5_ => ?_)⟩
  replace f5 := f5_
  replace f2 := f2.step st3
  replace f3 := f3.step st3
  replace hs := hs.trans st3
  have f6 := f5; clear f5
  have f7 := SlO.nil (rdM (slL u64L)) 30 (Zt xσ3) (Yt xσ3 2) H_3
  refine LoopI.ofQ q (fun t_ s_ hp_ => ∃ (σ_ : Nat → Nat) (A0_ : Option Addr) (n0_ c0_ : Nat), Stp [2, 3, 4, 5] xσ3 H_3 σ_ hp_ ∧ ((A0_, n0_, c0_), t_.2) = s_ ∧ n0_ = t_.1.length ∧ SlO (rdM (slL u64L)) 30 (Zt σ_) (Yt σ_ 2) hp_ A0_ c0_ t_.1) (fun h k => h _ _ k) ⟨_, _, _, _, Stp.refl _ _ _, rfl, rfl, f7⟩ ?_
  rintro t _ _ H_4 next nextQ ⟨xσ4, A3, n, c3, st4, rfl, rfl, f8⟩ q hnext
  try dsimp only at q ⊢
  replace f2 := f2.step st4
  replace f3 := f3.step st4
  replace f6 := f6.step st4
  replace hs := hs.trans st4
  have sl0 := st4
  refine condI (fun q => ?_) (fun q => ?_) q
  · have f9 := SlO.nil (rdM u64L) 22 (Zt xσ4) (Yt xσ4 3) H_4
    refine LoopI.ofQ q (fun t_ s_ hp_ => ∃ (σ_ : Nat → Nat) (A0_ : Option Addr) (n0_ c0_ : Nat), Stp [3, 4] xσ4 H_4 σ_ hp_ ∧ ((A0_, n0_, c0_), t_.2) = s_ ∧ n0_ = t_.1.length ∧ SlO (rdM u64L) 22 (Zt σ_) (Yt σ_ 3) hp_ A0_ c0_ t_.1) (fun h k => h _ _ k) ⟨_, _, _, _, Stp.refl _ _ _, rfl, rfl, f9⟩ ?_
    rintro t2 _ _ H_5 next2 nextQ2 ⟨xσ5, A4, n2, c4, st5, rfl, rfl, f10⟩ q hnext2
    try dsimp only at q ⊢
    replace f2 := f2.step st5
    replace f3 := f3.step st5
    replace f6 := f6.step st5
    replace f8 := f8.step st5
    replace hs := hs.trans st5
    replace sl0 := sl0.trans st5
    have sl1 := st5
    refine condI (fun q => ?_) (fun q => ?_) q
    · obtain ⟨h0, hi2, q⟩ := q
      obtain ⟨a, ha, hi⟩ := f6.addr h0 rfl hi2
      refine ⟨a, ha, hi.1, hi.2, ?_⟩
      obtain ⟨h02, hi4, q⟩ := q
      obtain ⟨a2, ha2, hi3⟩ := f6.addr h02 rfl hi4
      refine ⟨a2, ha2, hi3.1, hi3.2, ?_⟩
      obtain ⟨x, hx, q⟩ := q
      have hc := f6.ldu ha h0 hx
      refine ⟨_, hc.val, ?_⟩
      obtain ⟨x2, hx2, q⟩ := q
      have hc2 := f6.ldu ha2 h02 hx2
      refine ⟨_, hc2.val, ?_⟩
      refine q (Zt xσ5) H_5 _ rfl _ rfl _ rfl _ (fun Z2 H_6 hE hO x3 v he3 q => ?_)
      obtain ⟨xσ6, st6⟩ := call0 hE xσ5
      cases he3
      replace f2 := f2.step st6
      replace f3 := f3.step st6
      replace f6 := f6.step st6
      replace f8 := f8.step st6
      replace f10 := f10.step st6
      replace hc := hc.step st6
      replace hc2 := hc2.step st6
      replace hs := hs.trans st6
      replace sl0 := sl0.trans st6
      replace sl1 := sl1.trans st6
      refine ⟨_, rfl, ?_⟩
      refine q (Zt xσ6) H_6 _ rfl _ rfl _ rfl _ (fun Z3 H_7 hE2 hO2 x4 v2 he4 q => ?_)
      obtain ⟨xσ7, st7⟩ := call0 hE2 xσ6
      cases he4
      replace f2 := f2.step st7
      replace f3 := f3.step st7
      replace f6 := f6.step st7
      replace f8 := f8.step st7
      replace f10 := f10.step st7
      replace hc := hc.step st7
      replace hc2 := hc2.step st7
      replace hs := hs.trans st7
      replace sl0 := sl0.trans st7
      replace sl1 := sl1.trans st7
      refine ⟨_, rfl, ?_⟩
      refine NewH.mk fun H_8 e2 => ?_
      obtain ⟨xσ8, st8, f11⟩ := SlO.lit (E := u64L) xσ7 4 (xs := [x4]) (l := [[_]]) e2 rfl (.cons rfl .nil) (show (1 : Nat) ≤ 17592186044416 by decide)
      replace f2 := f2.step st8
      replace f3 := f3.step st8
      replace f6 := f6.step st8
      replace f8 := f8.step st8
      replace f10 := f10.step st8
      replace hc := hc.step st8
      replace hc2 := hc2.step st8
      replace hs := hs.trans st8
      replace sl0 := sl0.trans st8
      replace sl1 := sl1.trans st8
      obtain ⟨xσ10, st10, f11⟩ := SlO.freeze f11
      replace f2 := f2.step st10
      replace f3 := f3.step st10
      replace f6 := f6.step st10
      replace f8 := f8.step st10
      replace f10 := f10.step st10
      replace hc := hc.step st10
      replace hc2 := hc2.step st10
      replace hs := hs.trans st10
      replace sl0 := sl0.trans st10
      replace sl1 := sl1.trans st10
      obtain ⟨q5, q⟩ := q
      refine SlO.appF f10 f11 rfl rfl q5.l q5.r rfl rfl (fun A5 c5 H_9 xσ9 st9 f10_ => ?_)
      replace f10 := f10_
      replace f2 := f2.step st9
      replace f3 := f3.step st9
      replace f6 := f6.step st9
      replace f8 := f8.step st9
      replace hc := hc.step st9
      replace hc2 := hc2.step st9
      replace f11 := f11.step st9
      replace hs := hs.trans st9
      replace sl0 := sl0.trans st9
      replace sl1 := sl1.trans st9
      have f12 := f10; clear f10
      exact hnext2 ((t2.1 ++ ([x4] : List Nat)), IntKind.i64.wrap (t2.2 + 1)) _ _ ⟨_, _, _, _, sl1, rfl, rfl, f12⟩ q
    · obtain ⟨xσ11, st11, f10⟩ := SlO.freeze f10
      replace f2 := f2.step st11
      replace f3 := f3.step st11
      replace f6 := f6.step st11
      replace f8 := f8.step st11
      replace hs := hs.trans st11
      replace sl0 := sl0.trans st11
      refine NewH.mk fun H_10 e3 => ?_
      obtain ⟨xσ12, st12, f13⟩ := SlO.lit (E := (slL u64L)) xσ11 5 (xs := [t2.1]) (l := [[_]]) e3 rfl (.cons (slL_rep rfl f10) .nil) (show (1 : Nat) ≤ 17592186044416 by decide)
      replace f2 := f2.step st12
      replace f3 := f3.step st12
      replace f6 := f6.step st12
      replace f8 := f8.step st12
      replace f10 := f10.step st12
      replace hs := hs.trans st12
      replace sl0 := sl0.trans st12
      obtain ⟨xσ14, st14, f13⟩ := SlO.freeze f13
      replace f2 := f2.step st14
      replace f3 := f3.step st14
      replace f6 := f6.step st14
      replace f8 := f8.step st14
      replace f10 := f10.step st14
      replace hs := hs.trans st14
      replace sl0 := sl0.trans st14
      obtain ⟨q6, q⟩ := q
      refine SlO.appF f8 f13 rfl rfl q6.l q6.r rfl rfl (fun A6 c6 H_11 xσ13 st13 f8_ => ?_)
      replace f8 := f8_
      replace f2 := f2.step st13
      replace f3 := f3.step st13
      replace f6 := f6.step st13
      replace f10 := f10.step st13
      replace f13 := f13.step st13
      replace hs := hs.trans st13
      replace sl0 := sl0.trans st13
      have f14 := f8; clear f8
      exact hnext ((t.1 ++ ([t2.1] : List (List Nat))), IntKind.i64.wrap (t.2 + 1)) _ _ ⟨_, _, _, _, sl0, rfl, rfl, f14⟩ q
  · obtain ⟨xσ15, st15, f8⟩ := SlO.freeze f8
    replace f2 := f2.step st15
    replace f3 := f3.step st15
    replace f6 := f6.step st15
    replace hs := hs.trans st15
    refine q (Zt xσ15) H_4 _ rfl _ _ _ rfl f2 _ _ _ rfl f8 _ (fun Z4 H_12 hE3 hO3 x5 Y hY A7 n3 c7 hn3 f15 q => ?_)
    obtain ⟨xσ16, st16, fz3, fy⟩ := call1 hE3 hO3 xσ15 6 (fun _ h => h) hY
    replace f15 := f15.keep fz3 fy
    cases hn3
    replace f2 := f2.step st16
    replace f3 := f3.step st16
    replace f6 := f6.step st16
    replace f8 := f8.step st16
    replace hs := hs.trans st16
    refine ⟨_, _, _, rfl, ?_⟩
    exact hk (Zt xσ16) _ (hs.ext hσ) (hs.old hσ) _ (Yt xσ16 6) (hs.fresh hσ) _ _ _ rfl f15 q

/-! juntoref06_Rows -/
def juntoref06_Rows.C (p : Nat) (xs : (List Nat)) (rows : (List (List Nat))) (K : Int → Prop) : Prop :=
  ∀ (Z : Nat → Prop) (H : Heap), ∀ (pv : Int), pv = (p : Int) → ∀ (xsA : Option Addr) (xsn xsc : Nat), xsn = xs.length → SlF u64L Z H xsA xsc xs → ∀ (rowsA : Option Addr) (rowsn rowsc : Nat), rowsn = rows.length → SlF (slL u64L) Z H rowsA rowsc rows → ∀ KK : Value → Heap → Prop,
    (∀ (Z' : Nat → Prop) (H' : Heap), Ext H H' → Old Z H Z' → ∀ (r0 : Int), K r0 → KK (.int .i64 r0) H') →
    CallH P N.juntoref06_Rows [.int .u64 pv, .slice xsA xsn xsc, .slice rowsA rowsn rowsc] H KK
def juntoref06_Rows.Q (p : Nat) (xs : (List Nat)) (rows : (List (List Nat))) (K : Int → Prop) : Prop :=
  cond (decide (((xs.length : Nat) : Int) > 13)) (K 3)
   (cond (((rows.length : Nat) : Int) != ((xs.length : Nat) : Int)) (K 2)
   (juntoref01_Within.C p xs (fun (x : Int) =>
  cond (x != 0) (K 2)
   (juntoref02_Twice.C xs (fun (x2 : Bool) =>
  cond x2 (K 6)
   (LoopQ (τ := Int) 0 fun t nextQ =>
  cond (decide (t < ((rows.length : Nat) : Int))) (0 ≤ t ∧ ∃ x3 : (List Nat), rows[Int.toNat t]? = some x3 ∧ juntoref02_Within.C p x3 (fun (x4 : Int) =>
  cond (x4 != 0) (K x4)
   (nextQ (IntKind.i64.wrap (t + 1)))))
   (K 0)))))))
theorem juntoref06_Rows.q {p : Nat} {xs : (List Nat)} {rows : (List (List Nat))} {K : Int → Prop} (q : juntoref06_Rows.Q p xs rows K) : juntoref06_Rows.C p xs rows K := by
  intro Z H pv he xsA xsn xsc hn f rowsA rowsn rowsc hn2 f2 KK hk
  cases he
  cases hn
  cases hn2
  apply juntoref06_Rows.ok
  unfold juntoref06_Rows.W
  unfold juntoref06_Rows.Q at q
  obtain ⟨σ, hz, hσ⟩ := tags Z
  have hs : Stp ([] : List Nat) σ H σ H := Stp.refl _ _ _
  replace f := f.wide hz
  replace f2 := f2.wide hz
  clear hz
  refine condI (fun q => ?_) (fun q => ?_) q
  · exact hk (Zt σ) _ (hs.ext hσ) (hs.old hσ) _ q
  · refine condI (fun q => ?_) (fun q => ?_) q
    · exact hk (Zt σ) _ (hs.ext hσ) (hs.old hσ) _ q
    · refine q (Zt σ) H _ rfl _ _ _ rfl f _ (fun Z2 H_ hE hO x q => ?_)
      obtain ⟨xσ, st⟩ := call0 hE σ
      replace f := f.step st
      replace f2 := f2.step st
      replace hs := hs.trans st
      refine ⟨_, rfl, ?_⟩
      refine condI (fun q => ?_) (fun q => ?_) q
      · exact hk (Zt xσ) _ (hs.ext hσ) (hs.old hσ) _ q
      · refine q (Zt xσ) H_ _ _ _ rfl f _ (fun Z3 H_2 hE2 hO2 x2 q => ?_)
        obtain ⟨xσ2, st2⟩ := call0 hE2 xσ
        replace f := f.step st2
        replace f2 := f2.step st2
        replace hs := hs.trans st2
        refine ⟨_, rfl, ?_⟩
        refine condI (fun q => ?_) (fun q => ?_) q
        · exact hk (Zt xσ2) _ (hs.ext hσ) (hs.old hσ) _ q
        · refine LoopI.ofQ q (fun t_ s_ hp_ => ∃ (σ_ : Nat → Nat), Stp [] xσ2 H_2 σ_ hp_ ∧ t_ = s_) (fun h k => h _ _ k) ⟨_, Stp.refl _ _ _, rfl⟩ ?_
          rintro t _ _ H_3 next nextQ ⟨xσ3, st3, rfl⟩ q hnext
          try dsimp only at q ⊢
          replace f := f.step st3
          replace f2 := f2.step st3
          replace hs := hs.trans st3
          have sl0 := st3
          refine condI (fun q => ?_) (fun q => ?_) q
          · obtain ⟨h0, x3, hx, q⟩ := q
            obtain ⟨a, ha, hi⟩ := f2.addr h0 hx rfl
            refine ⟨a, ha, hi.1, hi.2, ?_⟩
            obtain ⟨A, c, hc, f3⟩ := f2.lds ha h0 hx
            refine ⟨_, _, _, hc.val, ?_⟩
            refine q (Zt xσ3) H_3 _ rfl _ _ _ rfl f3 _ (fun Z4 H_4 hE3 hO3 x4 q => ?_)
            obtain ⟨xσ4, st4⟩ := call0 hE3 xσ3
            replace f := f.step st4
            replace f2 := f2.step st4
            replace hc := hc.step st4
            replace f3 := f3.step st4
            replace hs := hs.trans st4
            replace sl0 := sl0.trans st4
            refine ⟨_, rfl, ?_⟩
            refine condI (fun q => ?_) (fun q => ?_) q
            · exact hk (Zt xσ4) _ (hs.ext hσ) (hs.old hσ) _ q
            · exact hnext (IntKind.i64.wrap (t + 1)) _ _ ⟨_, sl0, rfl⟩ q
          · exact hk (Zt xσ3) _ (hs.ext hσ) (hs.old hσ) _ q

/-! juntoref06_Join -/
def juntoref06_Join.C (p : Nat) (t : Int) (xs : (List Nat)) (rows : (List (List Nat))) (K : (List (List Nat)) → Bool → Prop) : Prop :=
  ∀ (Z : Nat → Prop) (H : Heap), ∀ (pv : Int), pv = (p : Int) → ∀ (xsA : Option Addr) (xsn xsc : Nat), xsn = xs.length → SlF u64L Z H xsA xsc xs → ∀ (rowsA : Option Addr) (rowsn rowsc : Nat), rowsn = rows.length → SlF (slL u64L) Z H rowsA rowsc rows → ∀ KK : Value → Heap → Prop,
    (∀ (Z' : Nat → Prop) (H' : Heap), Ext H H' → Old Z H Z' → ∀ (r0 : (List (List Nat))), ∀ (Y0 : Nat → Prop), (∀ i, Y0 i → H.size ≤ i ∧ ¬ Z' i) → ∀ (Ar0_0 : Option Addr) (nr0_0 cr0_0 : Nat), nr0_0 = r0.length → SlO (slM (rdM u64L) 22) 30 Z' Y0 H' Ar0_0 cr0_0 r0 → ∀ (r1 : Bool), K r0 r1 → KK (.tuple #[.slice Ar0_0 nr0_0 cr0_0, .bool r1]) H') →
    CallH P N.juntoref06_Join [.int .u64 pv, .int .i64 t, .slice xsA xsn xsc, .slice rowsA rowsn rowsc] H KK
def juntoref06_Join.Q (p : Nat) (t : Int) (xs : (List Nat)) (rows : (List (List Nat))) (K : (List (List Nat)) → Bool → Prop) : Prop :=
  MakeOk 24 (IntKind.i64.wrap (t + 1)) ∧ LoopQ (τ := Int × List (List Nat)) (0, (List.replicate (Int.toNat (IntKind.i64.wrap (t + 1))) [])) fun t2 nextQ =>
  cond (decide (t2.1 < ((Int.toNat (IntKind.i64.wrap (t + 1)) : Nat) : Int))) (MakeOk 8 (IntKind.i64.wrap (t + 1)) ∧ 0 ≤ t2.1 ∧ t2.1 < ((Int.toNat (IntKind.i64.wrap (t + 1)) : Nat) : Int) ∧ nextQ (IntKind.i64.wrap (t2.1 + 1), (List.set t2.2 (Int.toNat t2.1) (List.replicate (Int.toNat (IntKind.i64.wrap (t + 1))) 0))))
   (LoopQ (τ := Int × List (List Nat)) (0, t2.2) fun t3 nextQ2 =>
  cond (decide (t3.1 ≤ t)) (LoopQ (τ := List TPoint × Int) (([] : List TPoint), 0) fun t4 nextQ3 =>
  cond (decide (t4.2 ≤ t)) (0 ≤ t4.2 ∧ ∃ x : (List Nat), rows[Int.toNat t4.2]? = some x ∧ cond (decide (t3.1 < ((x.length : Nat) : Int))) (0 ≤ t4.2 ∧ ∃ x2 : (List Nat), rows[Int.toNat t4.2]? = some x2 ∧ 0 ≤ t3.1 ∧ ∃ x3 : Nat, x2[Int.toNat t3.1]? = some x3 ∧ 0 ≤ t4.2 ∧ ∃ x4 : Nat, xs[Int.toNat t4.2]? = some x4 ∧ AppOk 16 (t4.1 ++ ([(⟨x4, x3⟩ : TPoint)] : List TPoint)).length ∧ nextQ3 ((t4.1 ++ ([(⟨x4, x3⟩ : TPoint)] : List TPoint)), IntKind.i64.wrap (t4.2 + 1)))
   (0 ≤ t4.2 ∧ ∃ x5 : Nat, xs[Int.toNat t4.2]? = some x5 ∧ AppOk 16 (t4.1 ++ ([(⟨x5, 0⟩ : TPoint)] : List TPoint)).length ∧ nextQ3 ((t4.1 ++ ([(⟨x5, 0⟩ : TPoint)] : List TPoint)), IntKind.i64.wrap (t4.2 + 1))))
   (juntoref02_Through.C p t4.1 (fun (x6 : (List Nat)) =>
  LoopQ (τ := Int × List (List Nat)) (0, t3.2) fun t5 nextQ4 =>
  cond (decide (t5.1 < ((x6.length : Nat) : Int))) (0 ≤ t5.1 ∧ t5.1 < ((x6.length : Nat) : Int) ∧ ∃ x7 : Nat, x6[Int.toNat t5.1]? = some x7 ∧ 0 ≤ t5.1 ∧ t5.1 < ((Int.toNat (IntKind.i64.wrap (t + 1)) : Nat) : Int) ∧ ∃ x8 : (List Nat), t5.2[Int.toNat t5.1]? = some x8 ∧ 0 ≤ t3.1 ∧ t3.1 < ((x8.length : Nat) : Int) ∧ nextQ4 (IntKind.i64.wrap (t5.1 + 1), (List.set t5.2 (Int.toNat t5.1) (List.set x8 (Int.toNat t3.1) x7))))
   (nextQ2 (IntKind.i64.wrap (t3.1 + 1), t5.2)))))
   (juntoref06_form.C p t t3.2 (fun (x9 : Int) =>
  cond (x9 != 0) (K ([]) false)
   (LoopQ (τ := Int) 0 fun t6 nextQ5 =>
  cond (decide (t6 < ((xs.length : Nat) : Int))) (0 ≤ t6 ∧ ∃ x10 : Nat, xs[Int.toNat t6]? = some x10 ∧ 0 ≤ t6 ∧ ∃ x11 : (List Nat), rows[Int.toNat t6]? = some x11 ∧ juntoref06_Row.C p t3.2 x10 (fun (x12 : (List Nat)) =>
  juntoref02_Trim.C x11 (fun (x13 : (List Nat)) =>
  juntoref01_Same.C x12 x13 (fun (x14 : Bool) =>
  cond (!x14) (K ([]) false)
   (nextQ5 (IntKind.i64.wrap (t6 + 1)))))))
   (K t3.2 true)))))
theorem juntoref06_Join.q {p : Nat} {t : Int} {xs : (List Nat)} {rows : (List (List Nat))} {K : (List (List Nat)) → Bool → Prop} (q : juntoref06_Join.Q p t xs rows K) : juntoref06_Join.C p t xs rows K := by
  intro Z H pv he xsA xsn xsc hn f rowsA rowsn rowsc hn2 f2 KK hk
  cases he
  cases hn
  cases hn2
  apply juntoref06_Join.ok
  unfold juntoref06_Join.W
  unfold juntoref06_Join.Q at q
  obtain ⟨σ, hz, hσ⟩ := tags Z
  have hs : Stp ([1, 2, 3, 4, 5, 6, 7, 8] : List Nat) σ H σ H := Stp.refl _ _ _
  replace f := f.wide hz
  replace f2 := f2.wide hz
  clear hz
  obtain ⟨q2, q⟩ := q
  refine ⟨q2.1, Int.le_refl _, q2.w1, q2.w2, NewH.mk fun H_ e => ?_⟩
  obtain ⟨xσ, st, f3⟩ := SlO.made (O := (slM (rdM u64L) 22)) σ 1 e (slM_zero _ _) q2.len
  replace f := f.step st
  replace f2 := f2.step st
  replace hs := hs.trans st
  refine LoopI.ofQ q (fun t_ s_ hp_ => ∃ (σ_ : Nat → Nat), Stp [1, 2] xσ H_ σ_ hp_ ∧ t_.1 = s_ ∧ t_.2.length = (List.replicate (Int.toNat (IntKind.i64.wrap (t + 1))) []).length ∧ SlO (slM (rdM u64L) 22) 30 (Zt σ_) (Yt σ_ 1) hp_ (some (Addr.mk H.size 0 none)) (Int.toNat (IntKind.i64.wrap (t + 1))) t_.2) (fun h k => h _ _ k) ⟨_, Stp.refl _ _ _, rfl, rfl, f3⟩ ?_
  rintro t2 _ _ H_2 next nextQ ⟨xσ2, st2, rfl, hl, f3⟩ q hnext
  try dsimp only at q ⊢
  replace f := f.step st2
  replace f2 := f2.step st2
  replace hs := hs.trans st2
  have sl11 := st2
  refine condI (fun q => ?_) (fun q => ?_) q
  · obtain ⟨q3, q⟩ := q
    refine ⟨q3.1, Int.le_refl _, q3.w1, q3.w2, NewH.mk fun H_3 e2 => ?_⟩
    obtain ⟨xσ3, st3, f4⟩ := SlO.made (O := (rdM u64L)) xσ2 2 e2 (u64_zero) q3.len
    replace f := f.step st3
    replace f2 := f2.step st3
    replace f3 := f3.step st3
    replace hs := hs.trans st3
    replace sl11 := sl11.trans st3
    obtain ⟨h0, hi2, q⟩ := q
    obtain ⟨a, ha, hi⟩ := f3.addr h0 ((rl_len _ _).trans hl.symm) hi2
    refine ⟨a, ha, hi.1, hi.2, ?_⟩
    have w := SlO.put f3 ha h0 (lt_of_n ((rl_len _ _).trans hl.symm) hi2) (rl_len _ _) f4
    refine ⟨w.1, NewH.mk fun H_4 e3 => ?_⟩
    obtain ⟨xσ4, st4, f3⟩ := w.2 H_4 e3
    replace f := f.step st4
    replace f2 := f2.step st4
    replace hs := hs.trans st4
    replace sl11 := sl11.trans st4
    exact hnext (IntKind.i64.wrap (t2.1 + 1), (List.set t2.2 (Int.toNat t2.1) (List.replicate (Int.toNat (IntKind.i64.wrap (t + 1))) 0))) _ _ ⟨_, sl11, rfl, (set_back ((rl_len _ _).trans hl.symm) (set_len ((rl_len _ _).trans hl.symm)) hl), f3⟩ q
  · refine LoopI.ofQ q (fun t_ s_ hp_ => ∃ (σ_ : Nat → Nat), Stp [1, 3, 4, 5, 6] xσ2 H_2 σ_ hp_ ∧ t_.1 = s_ ∧ t_.2.length = t2.2.length ∧ SlO (slM (rdM u64L) 22) 30 (Zt σ_) (Yt σ_ 1) hp_ (some (Addr.mk H.size 0 none)) (Int.toNat (IntKind.i64.wrap (t + 1))) t_.2) (fun h k => h _ _ k) ⟨_, Stp.refl _ _ _, rfl, rfl, f3⟩ ?_
    rintro t3 _ _ H_5 next2 nextQ2 ⟨xσ5, st5, rfl, hl2, f3⟩ q hnext2
    try dsimp only at q ⊢
    replace f := f.step st5
    replace f2 := f2.step st5
    replace hs := hs.trans st5
    have sl17 := st5
    refine condI (fun q => ?_) (fun q => ?_) q
    · have f5 := SlO.nil (rdM TPoint.L) 103 (Zt xσ5) (Yt xσ5 3) H_5
      refine LoopI.ofQ q (fun t_ s_ hp_ => ∃ (σ_ : Nat → Nat) (A0_ : Option Addr) (n0_ c0_ : Nat), Stp [3, 4, 5] xσ5 H_5 σ_ hp_ ∧ ((A0_, n0_, c0_), t_.2) = s_ ∧ n0_ = t_.1.length ∧ SlO (rdM TPoint.L) 103 (Zt σ_) (Yt σ_ 3) hp_ A0_ c0_ t_.1) (fun h k => h _ _ k) ⟨_, _, _, _, Stp.refl _ _ _, rfl, rfl, f5⟩ ?_
      rintro t4 _ _ H_6 next3 nextQ3 ⟨xσ6, A, n, c, st6, rfl, rfl, f6⟩ q hnext3
      try dsimp only at q ⊢
      replace f := f.step st6
      replace f2 := f2.step st6
      replace f3 := f3.step st6
      replace hs := hs.trans st6
      replace sl17 := sl17.trans st6
      have sl18 := st6
      refine condI (fun q => ?_) (fun q => ?_) q
      · obtain ⟨h02, x, hx, q⟩ := q
        obtain ⟨a2, ha2, hi3⟩ := f2.addr h02 hx rfl
        refine ⟨a2, ha2, hi3.1, hi3.2, ?_⟩
        obtain ⟨A2, c2, hc, f7⟩ := f2.lds ha2 h02 hx
        refine ⟨_, _, _, hc.val, ?_⟩
        refine condI (fun q => ?_) (fun q => ?_) q
        · obtain ⟨h03, x2, hx2, q⟩ := q
          obtain ⟨a3, ha3, hi4⟩ := f2.addr h03 hx2 rfl
          refine ⟨a3, ha3, hi4.1, hi4.2, ?_⟩
          obtain ⟨A3, c3, hc2, f8⟩ := f2.lds ha3 h03 hx2
          refine ⟨_, _, _, hc2.val, ?_⟩
          obtain ⟨h04, x3, hx3, q⟩ := q
          obtain ⟨a4, ha4, hi5⟩ := f8.addr h04 hx3 rfl
          refine ⟨a4, ha4, hi5.1, hi5.2, ?_⟩
          have hc3 := f8.ldu ha4 h04 hx3
          refine ⟨_, hc3.val, ?_⟩
          obtain ⟨h05, x4, hx4, q⟩ := q
          obtain ⟨a5, ha5, hi6⟩ := f.addr h05 hx4 rfl
          refine ⟨a5, ha5, hi6.1, hi6.2, ?_⟩
          have hc4 := f.ldu ha5 h05 hx4
          refine ⟨_, hc4.val, ?_⟩
          refine NewH.mk fun H_7 e4 => ?_
          obtain ⟨xσ7, st7, f9⟩ := SlO.lit (E := TPoint.L) xσ6 4 (xs := [(⟨x4, x3⟩ : TPoint)]) (l := [[_, _]]) e4 rfl (.cons rfl .nil) (show (1 : Nat) ≤ 17592186044416 by decide)
          replace f := f.step st7
          replace f2 := f2.step st7
          replace f3 := f3.step st7
          replace f6 := f6.step st7
          replace hc := hc.step st7
          replace f7 := f7.step st7
          replace hc2 := hc2.step st7
          replace f8 := f8.step st7
          replace hc3 := hc3.step st7
          replace hc4 := hc4.step st7
          replace hs := hs.trans st7
          replace sl17 := sl17.trans st7
          replace sl18 := sl18.trans st7
          obtain ⟨xσ9, st9, f9⟩ := SlO.freeze f9
          replace f := f.step st9
          replace f2 := f2.step st9
          replace f3 := f3.step st9
          replace f6 := f6.step st9
          replace hc := hc.step st9
          replace f7 := f7.step st9
          replace hc2 := hc2.step st9
          replace f8 := f8.step st9
          replace hc3 := hc3.step st9
          replace hc4 := hc4.step st9
          replace hs := hs.trans st9
          replace sl17 := sl17.trans st9
          replace sl18 := sl18.trans st9
          obtain ⟨q4, q⟩ := q
          refine SlO.appF f6 f9 rfl rfl q4.l q4.r rfl rfl (fun A4 c4 H_8 xσ8 st8 f6_ => ?_)
          replace f6 := f6_
          replace f := f.step st8
          replace f2 := f2.step st8
          replace f3 := f3.step st8
          replace hc := hc.step st8
          replace f7 := f7.step st8
          replace hc2 := hc2.step st8
          replace f8 := f8.step st8
          replace hc3 := hc3.step st8
          replace hc4 := hc4.step st8
          replace f9 := f9.step st8
          replace hs := hs.trans st8
          replace sl17 := sl17.trans st8
          replace sl18 := sl18.trans st8
          have f10 := f6; clear f6
          exact hnext3 ((t4.1 ++ ([(⟨x4, x3⟩ : TPoint)] : List TPoint)), IntKind.i64.wrap (t4.2 + 1)) _ _ ⟨_, _, _, _, sl18, rfl, rfl, f10⟩ q
        · obtain ⟨h06, x5, hx5, q⟩ := q
          obtain ⟨a6, ha6, hi7⟩ := f.addr h06 hx5 rfl
          refine ⟨a6, ha6, hi7.1, hi7.2, ?_⟩
          have hc5 := f.ldu ha6 h06 hx5
          refine ⟨_, hc5.val, ?_⟩
          refine NewH.mk fun H_9 e5 => ?_
          obtain ⟨xσ10, st10, f11⟩ := SlO.lit (E := TPoint.L) xσ6 5 (xs := [(⟨x5, 0⟩ : TPoint)]) (l := [[_, _]]) e5 rfl (.cons rfl .nil) (show (1 : Nat) ≤ 17592186044416 by decide)
          replace f := f.step st10
          replace f2 := f2.step st10
          replace f3 := f3.step st10
          replace f6 := f6.step st10
          replace hc := hc.step st10
          replace f7 := f7.step st10
          replace hc5 := hc5.step st10
          replace hs := hs.trans st10
          replace sl17 := sl17.trans st10
          replace sl18 := sl18.trans st10
          obtain ⟨xσ12, st12, f11⟩ := SlO.freeze f11
          replace f := f.step st12
          replace f2 := f2.step st12
          replace f3 := f3.step st12
          replace f6 := f6.step st12
          replace hc := hc.step st12
          replace f7 := f7.step st12
          replace hc5 := hc5.step st12
          replace hs := hs.trans st12
          replace sl17 := sl17.trans st12
          replace sl18 := sl18.trans st12
          obtain ⟨q5, q⟩ := q
          refine SlO.appF f6 f11 rfl rfl q5.l q5.r rfl rfl (fun A5 c5 H_10 xσ11 st11 f6_ => ?_)
          replace f6 := f6_
          replace f := f.step st11
          replace f2 := f2.step st11
          replace f3 := f3.step st11
          replace hc := hc.step st11
          replace f7 := f7.step st11
          replace hc5 := hc5.step st11
          replace f11 := f11.step st11
          replace hs := hs.trans st11
          replace sl17 := sl17.trans st11
          replace sl18 := sl18.trans st11
          have f12 := f6; clear f6
          exact hnext3 ((t4.1 ++ ([(⟨x5, 0⟩ : TPoint)] : List TPoint)), IntKind.i64.wrap (t4.2 + 1)) _ _ ⟨_, _, _, _, sl18, rfl, rfl, f12⟩ q
      · refine q (fun i => xσ6 i = 0 ∨ xσ6 i = 3) H_6 _ rfl _ _ _ rfl (f6.read (fun i h => .inl h) (fun i h => .inr (h))) _ (fun Z2 H_11 hE hO x6 Y hY A6 n2 c6 hn3 f13 q => ?_)
        obtain ⟨xσ13, st13, fy⟩ := callB1 hE hO xσ6 6 hY
        replace f13 := (SlO.anyZ (Z' := Zt xσ13) u64_flatL f13).keep (Fr.refl _ _) fy
        cases hn3
        replace f := f.step st13
        replace f2 := f2.step st13
        replace f3 := f3.step st13
        replace f6 := f6.step st13
        replace hs := hs.trans st13
        replace sl17 := sl17.trans st13
        refine ⟨_, _, _, rfl, ?_⟩
        refine LoopI.ofQ q (fun t_ s_ hp_ => ∃ (σ_ : Nat → Nat), Stp [1] xσ13 H_11 σ_ hp_ ∧ t_.1 = s_ ∧ t_.2.length = t3.2.length ∧ SlO (slM (rdM u64L) 22) 30 (Zt σ_) (Yt σ_ 1) hp_ (some (Addr.mk H.size 0 none)) (Int.toNat (IntKind.i64.wrap (t + 1))) t_.2) (fun h k => h _ _ k) ⟨_, Stp.refl _ _ _, rfl, rfl, f3⟩ ?_
        rintro t5 _ _ H_12 next4 nextQ4 ⟨xσ14, st14, rfl, hl3, f3⟩ q hnext4
        try dsimp only at q ⊢
        replace f := f.step st14
        replace f2 := f2.step st14
        replace f6 := f6.step st14
        replace f13 := f13.step st14
        replace hs := hs.trans st14
        replace sl17 := sl17.trans st14
        have sl20 := st14
        refine condI (fun q => ?_) (fun q => ?_) q
        · obtain ⟨h07, hi9, q⟩ := q
          obtain ⟨a7, ha7, hi8⟩ := f13.addr h07 rfl hi9
          refine ⟨a7, ha7, hi8.1, hi8.2, ?_⟩
          obtain ⟨x7, hx6, q⟩ := q
          have hc6 := f13.ldu ha7 h07 hx6
          refine ⟨_, hc6.val, ?_⟩
          obtain ⟨h08, hi11, q⟩ := q
          obtain ⟨a8, ha8, hi10⟩ := f3.addr h08 ((((rl_len _ _).trans hl.symm).trans hl2.symm).trans hl3.symm) hi11
          refine ⟨a8, ha8, hi10.1, hi10.2, ?_⟩
          obtain ⟨x8, hx7, q⟩ := q
          obtain ⟨A7, c7, Y2, hc7, hY2, f14, bk⟩ := f3.row ha8 h08 hx7
          have g := SlO.rowF f14 (fun b hb => (hY2 b hb).1)
          refine ⟨_, _, _, hc7.val, ?_⟩
          obtain ⟨h09, hi13, q⟩ := q
          obtain ⟨a9, ha9, hi12⟩ := SlF.addr g h09 (List.getElem?_eq_getElem (idx_lt rfl h09 hi13)) rfl
          refine ⟨a9, ha9, hi12.1, hi12.2, ?_⟩
          have w2 := fun v hr => SlO.set2 (v := v) (y := x7) f3 rfl ha8 h08 hx7 hc7 ha9 h09 (lt_of_n rfl hi13) hr
          refine ⟨(w2 _ rfl).1, NewH.mk fun H_13 e6 => ?_⟩
          obtain ⟨st15, f3, hh⟩ := (w2 _ rfl).2 H_13 e6
          replace hc7 := hh _ _ hc7
          replace f := f.step st15
          replace f2 := f2.step st15
          replace f6 := f6.step st15
          replace f13 := f13.step st15
          replace hc6 := hc6.step st15
          replace hs := hs.trans st15
          replace sl17 := sl17.trans st15
          replace sl20 := sl20.trans st15
          exact hnext4 (IntKind.i64.wrap (t5.1 + 1), (List.set t5.2 (Int.toNat t5.1) (List.set x8 (Int.toNat t3.1) x7))) _ _ ⟨_, sl20, rfl, (set_back ((((rl_len _ _).trans hl.symm).trans hl2.symm).trans hl3.symm) (set_len ((((rl_len _ _).trans hl.symm).trans hl2.symm).trans hl3.symm)) hl3), f3⟩ q
        · exact hnext2 (IntKind.i64.wrap (t3.1 + 1), t5.2) _ _ ⟨_, sl17, rfl, (set_back (((rl_len _ _).trans hl.symm).trans hl2.symm) ((((rl_len _ _).trans hl.symm).trans hl2.symm).trans hl3.symm) hl2), f3⟩ q
    · refine q (fun i => xσ5 i = 0 ∨ xσ5 i = 1) H_5 _ rfl _ _ _ (((rl_len _ _).trans hl.symm).trans hl2.symm) (f3.read (fun i h => .inl h) (fun i h => .inr (h))) _ (fun Z3 H_14 hE2 hO2 x9 q => ?_)
      obtain ⟨xσ15, st16⟩ := call0 hE2 xσ5
      replace f := f.step st16
      replace f2 := f2.step st16
      replace f3 := f3.step st16
      replace hs := hs.trans st16
      refine ⟨_, rfl, ?_⟩
      refine condI (fun q => ?_) (fun q => ?_) q
      · exact hk (Zt xσ15) _ (hs.ext hσ) (hs.old hσ) _ (fun _ => False) (fun _ h => h.elim) _ _ _ rfl (SlO.nil _ _ _ _ _) _ q
      · refine LoopI.ofQ q (fun t_ s_ hp_ => ∃ (σ_ : Nat → Nat), Stp [7, 8] xσ15 H_14 σ_ hp_ ∧ t_ = s_) (fun h k => h _ _ k) ⟨_, Stp.refl _ _ _, rfl⟩ ?_
        rintro t6 _ _ H_15 next5 nextQ5 ⟨xσ16, st17, rfl⟩ q hnext5
        try dsimp only at q ⊢
        replace f := f.step st17
        replace f2 := f2.step st17
        replace f3 := f3.step st17
        replace hs := hs.trans st17
        have sl21 := st17
        refine condI (fun q => ?_) (fun q => ?_) q
        · obtain ⟨h010, x10, hx8, q⟩ := q
          obtain ⟨a10, ha10, hi14⟩ := f.addr h010 hx8 rfl
          refine ⟨a10, ha10, hi14.1, hi14.2, ?_⟩
          have hc8 := f.ldu ha10 h010 hx8
          refine ⟨_, hc8.val, ?_⟩
          obtain ⟨h011, x11, hx9, q⟩ := q
          obtain ⟨a11, ha11, hi15⟩ := f2.addr h011 hx9 rfl
          refine ⟨a11, ha11, hi15.1, hi15.2, ?_⟩
          obtain ⟨A8, c8, hc9, f15⟩ := f2.lds ha11 h011 hx9
          refine ⟨_, _, _, hc9.val, ?_⟩
          refine q (fun i => xσ16 i = 0 ∨ xσ16 i = 1) H_15 _ rfl _ _ _ (((rl_len _ _).trans hl.symm).trans hl2.symm) (f3.read (fun i h => .inl h) (fun i h => .inr (h))) _ rfl _ (fun Z4 H_16 hE3 hO3 x12 Y3 hY3 A9 n3 c9 hn4 f16 q => ?_)
          obtain ⟨xσ17, st18, fy2⟩ := callB1 hE3 hO3 xσ16 7 hY3
          replace f16 := (SlO.anyZ (Z' := Zt xσ17) u64_flatL f16).keep (Fr.refl _ _) fy2
          cases hn4
          replace f := f.step st18
          replace f2 := f2.step st18
          replace f3 := f3.step st18
          replace hc8 := hc8.step st18
          replace hc9 := hc9.step st18
          replace f15 := f15.step st18
          replace hs := hs.trans st18
          replace sl21 := sl21.trans st18
          refine ⟨_, _, _, rfl, ?_⟩
          refine ⟨hc9.val, ?_⟩
          refine q (Zt xσ17) H_16 _ _ _ rfl f15 _ (fun Z5 H_17 hE4 hO4 x13 Y4 hY4 A10 n4 c10 hn5 f17 q => ?_)
          obtain ⟨xσ18, st19, fz4, fy3⟩ := call1 hE4 hO4 xσ17 8 (fun _ h => h) hY4
          replace f17 := f17.keep fz4 fy3
          cases hn5
          replace f := f.step st19
          replace f2 := f2.step st19
          replace f3 := f3.step st19
          replace hc8 := hc8.step st19
          replace hc9 := hc9.step st19
          replace f15 := f15.step st19
          replace f16 := f16.step st19
          replace hs := hs.trans st19
          replace sl21 := sl21.trans st19
          refine ⟨_, _, _, rfl, ?_⟩
          refine q (fun i => xσ18 i = 0 ∨ xσ18 i = 7 ∨ xσ18 i = 8) H_17 _ _ _ rfl (f16.read (fun i h => .inl h) (fun i h => .inr (.inl h))) _ _ _ rfl (f17.read (fun i h => .inl h) (fun i h => .inr (.inr (h)))) _ (fun Z6 H_18 hE5 hO5 x14 q => ?_)
          obtain ⟨xσ19, st20⟩ := call0 hE5 xσ18
          replace f := f.step st20
          replace f2 := f2.step st20
          replace f3 := f3.step st20
          replace hc8 := hc8.step st20
          replace hc9 := hc9.step st20
          replace f15 := f15.step st20
          replace f16 := f16.step st20
          replace f17 := f17.step st20
          replace hs := hs.trans st20
          replace sl21 := sl21.trans st20
          refine ⟨_, rfl, ?_⟩
          refine condI (fun q => ?_) (fun q => ?_) q
          · exact hk (Zt xσ19) _ (hs.ext hσ) (hs.old hσ) _ (fun _ => False) (fun _ h => h.elim) _ _ _ rfl (SlO.nil _ _ _ _ _) _ q
          · exact hnext5 (IntKind.i64.wrap (t6 + 1)) _ _ ⟨_, sl21, rfl⟩ q
        · exact hk (Zt xσ16) _ (hs.ext hσ) (hs.old hσ) _ (Yt xσ16 1) (hs.fresh hσ) _ _ _ (((rl_len _ _).trans hl.symm).trans hl2.symm) f3 _ q

/-! juntoref06_Quarrels -/
def juntoref06_Quarrels.C (p : Nat) (xs : (List Nat)) (rows : (List (List Nat))) (K : (List (Int × Int)) → Prop) : Prop :=
  ∀ (Z : Nat → Prop) (H : Heap), ∀ (pv : Int), pv = (p : Int) → ∀ (xsA : Option Addr) (xsn xsc : Nat), xsn = xs.length → SlF u64L Z H xsA xsc xs → ∀ (rowsA : Option Addr) (rowsn rowsc : Nat), rowsn = rows.length → SlF (slL u64L) Z H rowsA rowsc rows → ∀ KK : Value → Heap → Prop,
    (∀ (Z' : Nat → Prop) (H' : Heap), Ext H H' → Old Z H Z' → ∀ (r0 : (List (Int × Int))), ∀ (Y0 : Nat → Prop), (∀ i, Y0 i → H.size ≤ i ∧ ¬ Z' i) → ∀ (Ar0_0 : Option Addr) (nr0_0 cr0_0 : Nat), nr0_0 = r0.length → SlO (rdM Arr2_3.L) 81 Z' Y0 H' Ar0_0 cr0_0 r0 → K r0 → KK (.slice Ar0_0 nr0_0 cr0_0) H') →
    CallH P N.juntoref06_Quarrels [.int .u64 pv, .slice xsA xsn xsc, .slice rowsA rowsn rowsc] H KK
def juntoref06_Quarrels.Q (p : Nat) (xs : (List Nat)) (rows : (List (List Nat))) (K : (List (Int × Int)) → Prop) : Prop :=
  LoopQ (τ := List (Int × Int) × Int) (([] : List (Int × Int)), 0) fun t nextQ =>
  cond (decide (t.2 < ((xs.length : Nat) : Int))) (LoopQ (τ := List (Int × Int) × Int) (t.1, IntKind.i64.wrap (t.2 + 1)) fun t2 nextQ2 =>
  cond (decide (t2.2 < ((xs.length : Nat) : Int))) (0 ≤ t.2 ∧ ∃ x : (List Nat), rows[Int.toNat t.2]? = some x ∧ 0 ≤ t2.2 ∧ ∃ x2 : Nat, xs[Int.toNat t2.2]? = some x2 ∧ 0 ≤ t2.2 ∧ ∃ x3 : (List Nat), rows[Int.toNat t2.2]? = some x3 ∧ 0 ≤ t.2 ∧ ∃ x4 : Nat, xs[Int.toNat t.2]? = some x4 ∧ juntoref02_Eval.C p x x2 (fun (x5 : Nat) =>
  juntoref02_Eval.C p x3 x4 (fun (x6 : Nat) =>
  cond ((x5 : Int) != (x6 : Int)) (AppOk 16 (t2.1 ++ ([(t.2, t2.2)] : List (Int × Int))).length ∧ nextQ2 ((t2.1 ++ ([(t.2, t2.2)] : List (Int × Int))), IntKind.i64.wrap (t2.2 + 1)))
   (nextQ2 (t2.1, IntKind.i64.wrap (t2.2 + 1))))))
   (nextQ (t2.1, IntKind.i64.wrap (t.2 + 1))))
   (K t.1)
theorem juntoref06_Quarrels.q {p : Nat} {xs : (List Nat)} {rows : (List (List Nat))} {K : (List (Int × Int)) → Prop} (q : juntoref06_Quarrels.Q p xs rows K) : juntoref06_Quarrels.C p xs rows K := by
  intro Z H pv he xsA xsn xsc hn f rowsA rowsn rowsc hn2 f2 KK hk
  cases he
  cases hn
  cases hn2
  apply juntoref06_Quarrels.ok
  unfold juntoref06_Quarrels.W
  unfold juntoref06_Quarrels.Q at q
  obtain ⟨σ, hz, hσ⟩ := tags Z
  have hs : Stp ([1, 2] : List Nat) σ H σ H := Stp.refl _ _ _
  replace f := f.wide hz
  replace f2 := f2.wide hz
  clear hz
  have f3 := SlO.nil (rdM Arr2_3.L) 81 (Zt σ) (Yt σ 1) H
  refine LoopI.ofQ q (fun t_ s_ hp_ => ∃ (σ_ : Nat → Nat) (A0_ : Option Addr) (n0_ c0_ : Nat), Stp [1, 2] σ H σ_ hp_ ∧ ((A0_, n0_, c0_), t_.2) = s_ ∧ n0_ = t_.1.length ∧ SlO (rdM Arr2_3.L) 81 (Zt σ_) (Yt σ_ 1) hp_ A0_ c0_ t_.1) (fun h k => h _ _ k) ⟨_, _, _, _, Stp.refl _ _ _, rfl, rfl, f3⟩ ?_
  rintro t _ _ H_ next nextQ ⟨xσ, A, n, c, st, rfl, rfl, f4⟩ q hnext
  try dsimp only at q ⊢
  replace f := f.step st
  replace f2 := f2.step st
  replace hs := hs.trans st
  have sl0 := st
  refine condI (fun q => ?_) (fun q => ?_) q
  · refine LoopI.ofQ q (fun t_ s_ hp_ => ∃ (σ_ : Nat → Nat) (A0_ : Option Addr) (n0_ c0_ : Nat), Stp [1, 2] xσ H_ σ_ hp_ ∧ ((A0_, n0_, c0_), t_.2) = s_ ∧ n0_ = t_.1.length ∧ SlO (rdM Arr2_3.L) 81 (Zt σ_) (Yt σ_ 1) hp_ A0_ c0_ t_.1) (fun h k => h _ _ k) ⟨_, _, _, _, Stp.refl _ _ _, rfl, rfl, f4⟩ ?_
    rintro t2 _ _ H_2 next2 nextQ2 ⟨xσ2, A2, n2, c2, st2, rfl, rfl, f5⟩ q hnext2
    try dsimp only at q ⊢
    replace f := f.step st2
    replace f2 := f2.step st2
    replace hs := hs.trans st2
    replace sl0 := sl0.trans st2
    have sl1 := st2
    refine condI (fun q => ?_) (fun q => ?_) q
    · obtain ⟨h0, x, hx, q⟩ := q
      obtain ⟨a, ha, hi⟩ := f2.addr h0 hx rfl
      refine ⟨a, ha, hi.1, hi.2, ?_⟩
      obtain ⟨h02, x2, hx2, q⟩ := q
      obtain ⟨a2, ha2, hi2⟩ := f.addr h02 hx2 rfl
      refine ⟨a2, ha2, hi2.1, hi2.2, ?_⟩
      obtain ⟨h03, x3, hx3, q⟩ := q
      obtain ⟨a3, ha3, hi3⟩ := f2.addr h03 hx3 rfl
      refine ⟨a3, ha3, hi3.1, hi3.2, ?_⟩
      obtain ⟨h04, x4, hx4, q⟩ := q
      obtain ⟨a4, ha4, hi4⟩ := f.addr h04 hx4 rfl
      refine ⟨a4, ha4, hi4.1, hi4.2, ?_⟩
      obtain ⟨A3, c3, hc, f6⟩ := f2.lds ha h0 hx
      refine ⟨_, _, _, hc.val, ?_⟩
      have hc2 := f.ldu ha2 h02 hx2
      refine ⟨_, hc2.val, ?_⟩
      obtain ⟨A4, c4, hc3, f7⟩ := f2.lds ha3 h03 hx3
      refine ⟨_, _, _, hc3.val, ?_⟩
      have hc4 := f.ldu ha4 h04 hx4
      refine ⟨_, hc4.val, ?_⟩
      refine q (Zt xσ2) H_2 _ rfl _ _ _ rfl f6 _ rfl _ (fun Z2 H_3 hE hO x5 v he2 q => ?_)
      obtain ⟨xσ3, st3⟩ := call0 hE xσ2
      cases he2
      replace f := f.step st3
      replace f2 := f2.step st3
      replace f5 := f5.step st3
      replace hc := hc.step st3
      replace f6 := f6.step st3
      replace hc2 := hc2.step st3
      replace hc3 := hc3.step st3
      replace f7 := f7.step st3
      replace hc4 := hc4.step st3
      replace hs := hs.trans st3
      replace sl0 := sl0.trans st3
      replace sl1 := sl1.trans st3
      refine ⟨_, rfl, ?_⟩
      refine ⟨hc4.val, hc3.val, ?_⟩
      refine q (Zt xσ3) H_3 _ rfl _ _ _ rfl f7 _ rfl _ (fun Z3 H_4 hE2 hO2 x6 v2 he3 q => ?_)
      obtain ⟨xσ4, st4⟩ := call0 hE2 xσ3
      cases he3
      replace f := f.step st4
      replace f2 := f2.step st4
      replace f5 := f5.step st4
      replace hc := hc.step st4
      replace f6 := f6.step st4
      replace hc2 := hc2.step st4
      replace hc3 := hc3.step st4
      replace f7 := f7.step st4
      replace hc4 := hc4.step st4
      replace hs := hs.trans st4
      replace sl0 := sl0.trans st4
      replace sl1 := sl1.trans st4
      refine ⟨_, rfl, ?_⟩
      refine condI (fun q => ?_) (fun q => ?_) q
      · refine NewH.mk fun H_5 e => ?_
        obtain ⟨xσ5, st5, f8⟩ := SlO.lit (E := Arr2_3.L) xσ4 2 (xs := [(t.2, t2.2)]) (l := [[_, _]]) e rfl (.cons rfl .nil) (show (1 : Nat) ≤ 17592186044416 by decide)
        replace f := f.step st5
        replace f2 := f2.step st5
        replace f5 := f5.step st5
        replace hc := hc.step st5
        replace f6 := f6.step st5
        replace hc2 := hc2.step st5
        replace hc3 := hc3.step st5
        replace f7 := f7.step st5
        replace hc4 := hc4.step st5
        replace hs := hs.trans st5
        replace sl0 := sl0.trans st5
        replace sl1 := sl1.trans st5
        obtain ⟨xσ7, st7, f8⟩ := SlO.freeze f8
        replace f := f.step st7
        replace f2 := f2.step st7
        replace f5 := f5.step st7
        replace hc := hc.step st7
        replace f6 := f6.step st7
        replace hc2 := hc2.step st7
        replace hc3 := hc3.step st7
        replace f7 := f7.step st7
        replace hc4 := hc4.step st7
        replace hs := hs.trans st7
        replace sl0 := sl0.trans st7
        replace sl1 := sl1.trans st7
        obtain ⟨q2, q⟩ := q
        refine SlO.appF f5 f8 rfl rfl q2.l q2.r rfl rfl (fun A5 c5 H_6 xσ6 st6 f5_ => ?_)
        replace f5 := f5_
        replace f := f.step st6
        replace f2 := f2.step st6
        replace hc := hc.step st6
        replace f6 := f6.step st6
        replace hc2 := hc2.step st6
        replace hc3 := hc3.step st6
        replace f7 := f7.step st6
        replace hc4 := hc4.step st6
        replace f8 := f8.step st6
        replace hs := hs.trans st6
        replace sl0 := sl0.trans st6
        replace sl1 := sl1.trans st6
        have f9 := f5; clear f5
        exact hnext2 ((t2.1 ++ ([(t.2, t2.2)] : List (Int × Int))), IntKind.i64.wrap (t2.2 + 1)) _ _ ⟨_, _, _, _, sl1, rfl, rfl, f9⟩ q
      · exact hnext2 (t2.1, IntKind.i64.wrap (t2.2 + 1)) _ _ ⟨_, _, _, _, sl1, rfl, rfl, f5⟩ q
    · exact hnext (t2.1, IntKind.i64.wrap (t.2 + 1)) _ _ ⟨_, _, _, _, sl0, rfl, rfl, f5⟩ q
  · exact hk (Zt xσ) _ (hs.ext hσ) (hs.old hσ) _ (Yt xσ 1) (hs.fresh hσ) _ _ _ rfl f4 q

end Go.Proofs.Ytlhcaangdenoaaa.Sh
