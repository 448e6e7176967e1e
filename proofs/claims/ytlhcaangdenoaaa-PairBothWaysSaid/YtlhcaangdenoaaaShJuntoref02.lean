import Derived.Test.YtlhcaangdenoaaaShBase
set_option linter.unusedVariables false
set_option maxRecDepth 100000
namespace Go.Proofs.Ytlhcaangdenoaaa.Sh
open Go.Sx

/-! juntoref02_Eval -/
def juntoref02_Eval.A : Ann where
  loops := fun i => match i with
    | 12295 => [(7, .int .u64), (8, .int .u64), (13, .int .i64)]
    | _ => []
  plans := fun i => match i with
    | _ => .stop
def juntoref02_Eval.W (p : Int) (fA : Option Addr) (fn fc : Nat) (x : Int) (H : Heap) (R : Value → Heap → Prop) : Prop :=
  LoopI (σ := Int × Int × Int) (fun κ => κ (0, 1, 0) H) fun s z H_ next =>
  cond (decide (s.2.2 < ((fn : Nat) : Int))) (∃ a : Addr, fA = some a ∧ 0 ≤ s.2.2 ∧ s.2.2 < ((fn : Nat) : Int) ∧ ∃ x2 : Int, cellH H_ (a.add (Int.toNat s.2.2)) = some (.int .u64 x2) ∧ CallH P N.juntoref01_Mul [.int .u64 p, .int .u64 x2, .int .u64 s.2.1] H_ fun v H_2 =>
  ∃ r : Int, v = .int .u64 r ∧ CallH P N.juntoref01_Add [.int .u64 p, .int .u64 s.1, .int .u64 r] H_2 fun v2 H_3 =>
  ∃ r2 : Int, v2 = .int .u64 r2 ∧ CallH P N.juntoref01_Mul [.int .u64 p, .int .u64 s.2.1, .int .u64 x] H_3 fun v3 H_4 =>
  ∃ r3 : Int, v3 = .int .u64 r3 ∧ next (r2, r3, IntKind.i64.wrap (s.2.2 + 1)) H_4)
   (R (.int .u64 s.1) H_)
theorem juntoref02_Eval.ok (p : Int) (fA : Option Addr) (fn fc : Nat) (x : Int) (H : Heap) (R : Value → Heap → Prop) (h : juntoref02_Eval.W p fA fn fc x H R) : CallH P N.juntoref02_Eval ([.int .u64 p, .slice fA fn fc, .int .u64 x] : List Value) H R := by
  have e : juntoref02_Eval.W p fA fn fc x H R = sxFn P T Sh.R nf juntoref02_Eval.A Try.f41.results.toList (bodyOf Try.f41) (([(.int .u64 p : Value), (.slice fA fn fc : Value), (.int .u64 x : Value)] : List Value) ++ List.replicate (30 - ([(.int .u64 p : Value), (.slice fA fn fc : Value), (.int .u64 x : Value)] : List Value).length) undef) H R := by kernel_rfl
  exact call_of_sx fits bodies mixed Try.func41 (c := bodyOf Try.f41) (by kernel_rfl) Try.ntmps41 juntoref02_Eval.A (by kernel_rfl) (e.mp h)

/-! juntoref02_Twice -/
def juntoref02_Twice.A : Ann where
  loops := fun i => match i with
    | 8201 => [(7, .int .i64)]
    | 20486 => [(4, .int .i64)]
    | _ => []
  plans := fun i => match i with
    | 7 => .first 0 (.first 1 (.first 2 (.first 4 (.first 5 (.first 6 (.read 3 (.read 7 (.first 8 (.done)))))))))
    | _ => .stop
def juntoref02_Twice.W (lA : Option Addr) (ln lc : Nat) (H : Heap) (R : Value → Heap → Prop) : Prop :=
  LoopI (σ := Int) (fun κ => κ 0 H) fun s z H_ next =>
  cond (decide (s < ((ln : Nat) : Int))) (LoopI (σ := Int) (fun κ => κ 0 H_) fun s2 z2 H_2 next2 =>
  cond (decide (s2 < s)) (∃ a : Addr, lA = some a ∧ 0 ≤ s ∧ s < ((ln : Nat) : Int) ∧ ∃ a2 : Addr, lA = some a2 ∧ 0 ≤ s2 ∧ s2 < ((ln : Nat) : Int) ∧ ∃ x : Int, cellH H_2 (a.add (Int.toNat s)) = some (.int .u64 x) ∧ ∃ x2 : Int, cellH H_2 (a2.add (Int.toNat s2)) = some (.int .u64 x2) ∧ cond (x == x2) (R (.bool true) H_2)
   (next2 (IntKind.i64.wrap (s2 + 1)) H_2))
   (next (IntKind.i64.wrap (s + 1)) H_2))
   (R (.bool false) H_)
theorem juntoref02_Twice.ok (lA : Option Addr) (ln lc : Nat) (H : Heap) (R : Value → Heap → Prop) (h : juntoref02_Twice.W lA ln lc H R) : CallH P N.juntoref02_Twice ([.slice lA ln lc] : List Value) H R := by
  have e : juntoref02_Twice.W lA ln lc H R = sxFn P T Sh.R nf juntoref02_Twice.A Try.f42.results.toList (bodyOf Try.f42) (([(.slice lA ln lc : Value)] : List Value) ++ List.replicate (25 - ([(.slice lA ln lc : Value)] : List Value).length) undef) H R := by kernel_rfl
  exact call_of_sx fits bodies mixed Try.func42 (c := bodyOf Try.f42) (by kernel_rfl) Try.ntmps42 juntoref02_Twice.A (by kernel_rfl) (e.mp h)

/-! juntoref02_Away -/
def juntoref02_Away.A : Ann where
  loops := fun i => match i with
    | 12294 => [(5, .slice), (11, .int .i64)]
    | _ => []
  plans := fun i => match i with
    | _ => .stop
def juntoref02_Away.W (p : Int) (xsA : Option Addr) (xsn xsc : Nat) (H : Heap) (R : Value → Heap → Prop) : Prop :=
  NewH (H.push (.cells #[.int .u64 1] 22 (0, 0))) fun H_ =>
  LoopI (σ := (Option Addr × Nat × Nat) × Int) (fun κ => κ (((some (Addr.mk H.size 0 none) : Option Addr), 1, 1), 0) H_) fun s z H_2 next =>
  cond (decide (s.2 < ((xsn : Nat) : Int))) (∃ a : Addr, xsA = some a ∧ 0 ≤ s.2 ∧ s.2 < ((xsn : Nat) : Int) ∧ ∃ x : Int, cellH H_2 (a.add (Int.toNat s.2)) = some (.int .u64 x) ∧ CallH P N.juntoref01_Inv [.int .u64 p, .int .u64 x] H_2 fun v H_3 =>
  ∃ r : Int, v = .int .u64 r ∧ CallH P N.juntoref01_Sub [.int .u64 p, .int .u64 0, .int .u64 r] H_3 fun v2 H_4 =>
  ∃ r2 : Int, v2 = .int .u64 r2 ∧ NewH (H_4.push (.cells #[.int .u64 1, .int .u64 r2] 22 (0, 0))) fun H_5 =>
  CallH P N.juntoref02_Mul [.int .u64 p, .slice s.1.1 s.1.2.1 s.1.2.2, .slice (some (Addr.mk H_4.size 0 none)) 2 2] H_5 fun v3 H_6 =>
  ∃ (rA : Option Addr) (rn rc : Nat), v3 = .slice rA rn rc ∧ next ((rA, rn, rc), IntKind.i64.wrap (s.2 + 1)) H_6)
   (R (.slice s.1.1 s.1.2.1 s.1.2.2) H_2)
theorem juntoref02_Away.ok (p : Int) (xsA : Option Addr) (xsn xsc : Nat) (H : Heap) (R : Value → Heap → Prop) (h : juntoref02_Away.W p xsA xsn xsc H R) : CallH P N.juntoref02_Away ([.int .u64 p, .slice xsA xsn xsc] : List Value) H R := by
  have e : juntoref02_Away.W p xsA xsn xsc H R = sxFn P T Sh.R nf juntoref02_Away.A Try.f50.results.toList (bodyOf Try.f50) (([(.int .u64 p : Value), (.slice xsA xsn xsc : Value)] : List Value) ++ List.replicate (26 - ([(.int .u64 p : Value), (.slice xsA xsn xsc : Value)] : List Value).length) undef) H R := by kernel_rfl
  exact call_of_sx fits bodies mixed Try.func50 (c := bodyOf Try.f50) (by kernel_rfl) Try.ntmps50 juntoref02_Away.A (by kernel_rfl) (e.mp h)

/-! juntoref02_Trim -/
def juntoref02_Trim.A : Ann where
  loops := fun i => match i with
    | 8195 => [(3, .int .i64)]
    | _ => []
  plans := fun i => match i with
    | _ => .stop
def juntoref02_Trim.W (fA : Option Addr) (fn fc : Nat) (H : Heap) (R : Value → Heap → Prop) : Prop :=
  LoopI (σ := Int) (fun κ => κ ((fn : Nat) : Int) H) fun s z H_ next =>
  cond (decide (s > 0)) (∃ a : Addr, fA = some a ∧ 0 ≤ (IntKind.i64.wrap (s - 1)) ∧ (IntKind.i64.wrap (s - 1)) < ((fn : Nat) : Int) ∧ ∃ x : Int, cellH H_ (a.add (Int.toNat (IntKind.i64.wrap (s - 1)))) = some (.int .u64 x) ∧ cond (x == 0) (next (IntKind.i64.wrap (s - 1)) H_)
   (NewH (H_.push (.cells #[] 22 (0, 0))) fun H_2 =>
  0 ≤ s ∧ s ≤ ((fc : Nat) : Int) ∧ AppendV 22 1 8 [.int .u64 0] H_2 (some (Addr.mk H_.size 0 none)) 0 0 fA (Int.toNat s) fun vA vn vc H_3 =>
  R (.slice vA vn vc) H_3)) (NewH (H_.push (.cells #[] 22 (0, 0))) fun H_4 =>
  0 ≤ s ∧ s ≤ ((fc : Nat) : Int) ∧ AppendV 22 1 8 [.int .u64 0] H_4 (some (Addr.mk H_.size 0 none)) 0 0 fA (Int.toNat s) fun vA2 vn2 vc2 H_5 =>
  R (.slice vA2 vn2 vc2) H_5)
theorem juntoref02_Trim.ok (fA : Option Addr) (fn fc : Nat) (H : Heap) (R : Value → Heap → Prop) (h : juntoref02_Trim.W fA fn fc H R) : CallH P N.juntoref02_Trim ([.slice fA fn fc] : List Value) H R := by
  have e : juntoref02_Trim.W fA fn fc H R = sxFn P T Sh.R nf juntoref02_Trim.A Try.f66.results.toList (bodyOf Try.f66) (([(.slice fA fn fc : Value)] : List Value) ++ List.replicate (23 - ([(.slice fA fn fc : Value)] : List Value).length) undef) H R := by kernel_rfl
  exact call_of_sx fits bodies mixed Try.func66 (c := bodyOf Try.f66) (by kernel_rfl) Try.ntmps66 juntoref02_Trim.A (by kernel_rfl) (e.mp h)

/-! juntoref02_Mul -/
def juntoref02_Mul.A : Ann where
  loops := fun i => match i with
    | 12298 => [(18, .int .i64)]
    | 24585 => [(23, .int .i64)]
    | _ => []
  plans := fun i => match i with
    | 8 => .first 0 (.first 1 (.first 2 (.first 3 (.first 4 (.first 5 (.first 6 (.first 7 (.first 8 (.first 9 (.first 11 (.first 12 (.first 13 (.first 14 (.first 16 (.first 17 (.first 18 (.read 10 (.read 15 (.read 19 (.alt 20 [15, 19] (.alt 21 [10] (.first 22 (.alt 23 [] (.done) (.stop))) (.stop)) (.stop)))))))))))))))))))))
    | _ => .stop
def juntoref02_Mul.W (p : Int) (fA : Option Addr) (fn fc : Nat) (gA : Option Addr) (gn gc : Nat) (H : Heap) (R : Value → Heap → Prop) : Prop :=
  0 ≤ (IntKind.i64.wrap (((fn : Nat) : Int) + ((gn : Nat) : Int))) ∧ (IntKind.i64.wrap (((fn : Nat) : Int) + ((gn : Nat) : Int))) ≤ (IntKind.i64.wrap (((fn : Nat) : Int) + ((gn : Nat) : Int))) ∧ (IntKind.i64.wrap (((fn : Nat) : Int) + ((gn : Nat) : Int))) * 8 ≤ 2 ^ 48 ∧ (IntKind.i64.wrap (((fn : Nat) : Int) + ((gn : Nat) : Int))) < 2 ^ 62 ∧ NewH (H.push (.cells (repl (Int.toNat (IntKind.i64.wrap (((fn : Nat) : Int) + ((gn : Nat) : Int)))) [.int .u64 0]).toArray 22 (0, 0))) fun H_ =>
  LoopI (σ := Int) (fun κ => κ 0 H_) fun s z H_2 next =>
  cond (decide (s < ((fn : Nat) : Int))) (LoopI (σ := Int) (fun κ => κ 0 H_2) fun s2 z2 H_3 next2 =>
  cond (decide (s2 < ((gn : Nat) : Int))) (∃ a : Addr, (some (Addr.mk H.size 0 none) : Option Addr) = some a ∧ 0 ≤ (IntKind.i64.wrap (s + s2)) ∧ (IntKind.i64.wrap (s + s2)) < ((Int.toNat (IntKind.i64.wrap (((fn : Nat) : Int) + ((gn : Nat) : Int))) : Nat) : Int) ∧ ∃ a2 : Addr, fA = some a2 ∧ 0 ≤ s ∧ s < ((fn : Nat) : Int) ∧ ∃ a3 : Addr, gA = some a3 ∧ 0 ≤ s2 ∧ s2 < ((gn : Nat) : Int) ∧ ∃ x : Int, cellH H_3 (a.add (Int.toNat (IntKind.i64.wrap (s + s2)))) = some (.int .u64 x) ∧ ∃ x2 : Int, cellH H_3 (a2.add (Int.toNat s)) = some (.int .u64 x2) ∧ ∃ x3 : Int, cellH H_3 (a3.add (Int.toNat s2)) = some (.int .u64 x3) ∧ CallH P N.juntoref01_Mul [.int .u64 p, .int .u64 x2, .int .u64 x3] H_3 fun v H_4 =>
  ∃ r : Int, v = .int .u64 r ∧ cellH H_4 (a.add (Int.toNat (IntKind.i64.wrap (s + s2)))) = some (.int .u64 x) ∧ CallH P N.juntoref01_Add [.int .u64 p, .int .u64 x, .int .u64 r] H_4 fun v2 H_5 =>
  ∃ r2 : Int, v2 = .int .u64 r2 ∧ ∃ a4 : Addr, (some (Addr.mk H.size 0 none) : Option Addr) = some a4 ∧ 0 ≤ (IntKind.i64.wrap (s + s2)) ∧ (IntKind.i64.wrap (s + s2)) < ((Int.toNat (IntKind.i64.wrap (((fn : Nat) : Int) + ((gn : Nat) : Int))) : Nat) : Int) ∧ MayWrite H_5 (a4.add (Int.toNat (IntKind.i64.wrap (s + s2)))) 1 ∧ NewH (setH H_5 (a4.add (Int.toNat (IntKind.i64.wrap (s + s2)))) (.int .u64 r2)) fun H_6 =>
  next2 (IntKind.i64.wrap (s2 + 1)) H_6)
   (next (IntKind.i64.wrap (s + 1)) H_3))
   (CallH P N.juntoref02_Trim [.slice (some (Addr.mk H.size 0 none)) (Int.toNat (IntKind.i64.wrap (((fn : Nat) : Int) + ((gn : Nat) : Int)))) (Int.toNat (IntKind.i64.wrap (((fn : Nat) : Int) + ((gn : Nat) : Int))))] H_2 fun v3 H_7 =>
  ∃ (rA : Option Addr) (rn rc : Nat), v3 = .slice rA rn rc ∧ R (.slice rA rn rc) H_7)
theorem juntoref02_Mul.ok (p : Int) (fA : Option Addr) (fn fc : Nat) (gA : Option Addr) (gn gc : Nat) (H : Heap) (R : Value → Heap → Prop) (h : juntoref02_Mul.W p fA fn fc gA gn gc H R) : CallH P N.juntoref02_Mul ([.int .u64 p, .slice fA fn fc, .slice gA gn gc] : List Value) H R := by
  have e : juntoref02_Mul.W p fA fn fc gA gn gc H R = sxFn P T Sh.R nf juntoref02_Mul.A Try.f92.results.toList (bodyOf Try.f92) (([(.int .u64 p : Value), (.slice fA fn fc : Value), (.slice gA gn gc : Value)] : List Value) ++ List.replicate (53 - ([(.int .u64 p : Value), (.slice fA fn fc : Value), (.slice gA gn gc : Value)] : List Value).length) undef) H R := by kernel_rfl
  exact call_of_sx fits bodies mixed Try.func92 (c := bodyOf Try.f92) (by kernel_rfl) Try.ntmps92 juntoref02_Mul.A (by kernel_rfl) (e.mp h)

/-! juntoref02_Points -/
def juntoref02_Points.A : Ann where
  loops := fun i => match i with
    | 20490 => [(7, .slice), (16, .int .i64)]
    | _ => []
  plans := fun i => match i with
    | _ => .stop
def juntoref02_Points.W (p : Int) (lA : Option Addr) (ln lc : Nat) (most : Int) (H : Heap) (R : Value → Heap → Prop) : Prop :=
  cond (decide (((ln : Nat) : Int) > most)) (R (.int .i64 3) H)
   (LoopI (σ := (Option Addr × Nat × Nat) × Int) (fun κ => κ ((none, 0, 0), 0) H) fun s z H_ next =>
  cond (decide (s.2 < ((ln : Nat) : Int))) (∃ a : Addr, lA = some a ∧ 0 ≤ s.2 ∧ s.2 < ((ln : Nat) : Int) ∧ ∃ x0 : Int, ∃ x1 : Int, cellH H_ (a.add ((Int.toNat s.2) * 2)) = some (.int .u64 x0) ∧ cellH H_ ((a.add ((Int.toNat s.2) * 2)).add 1) = some (.int .u64 x1) ∧ NewH (H_.push (.cells #[.int .u64 0, .int .u64 0] 103 (0, 0))) fun H_2 =>
  MayWrite H_2 (Addr.mk H_.size 0 none) 2 ∧ NewH (setH (setH H_2 (Addr.mk H_.size 0 none) (.int .u64 x0)) (((Addr.mk H_.size 0 none)).add 1) (.int .u64 x1)) fun H_3 =>
  ∃ x : Int, cellH H_3 (Addr.mk H_.size 0 none) = some (.int .u64 x) ∧ cond (decide (x ≥ p)) (R (.int .i64 2) H_3) (∃ x2 : Int, cellH H_3 (((Addr.mk H_.size 0 none)).add 1) = some (.int .u64 x2) ∧ cond (decide (x2 ≥ p)) (R (.int .i64 2) H_3)
   (∃ x3 : Int, cellH H_3 (Addr.mk H_.size 0 none) = some (.int .u64 x3) ∧ NewH (H_3.push (.cells #[.int .u64 x3] 22 (0, 0))) fun H_4 =>
  AppendV 22 1 8 [.int .u64 0] H_4 s.1.1 s.1.2.1 s.1.2.2 (some (Addr.mk H_3.size 0 none)) 1 fun vA vn vc H_5 =>
  next ((vA, vn, vc), IntKind.i64.wrap (s.2 + 1)) H_5)))
   (CallH P N.juntoref02_Twice [.slice s.1.1 s.1.2.1 s.1.2.2] H_ fun v2 H_6 =>
  ∃ r : Bool, v2 = .bool r ∧ cond r (R (.int .i64 6) H_6)
   (R (.int .i64 0) H_6)))
theorem juntoref02_Points.ok (p : Int) (lA : Option Addr) (ln lc : Nat) (most : Int) (H : Heap) (R : Value → Heap → Prop) (h : juntoref02_Points.W p lA ln lc most H R) : CallH P N.juntoref02_Points ([.int .u64 p, .slice lA ln lc, .int .i64 most] : List Value) H R := by
  have e : juntoref02_Points.W p lA ln lc most H R = sxFn P T Sh.R nf juntoref02_Points.A Try.f95.results.toList (bodyOf Try.f95) (([(.int .u64 p : Value), (.slice lA ln lc : Value), (.int .i64 most : Value)] : List Value) ++ List.replicate (38 - ([(.int .u64 p : Value), (.slice lA ln lc : Value), (.int .i64 most : Value)] : List Value).length) undef) H R := by kernel_rfl
  exact call_of_sx fits bodies mixed Try.func95 (c := bodyOf Try.f95) (by kernel_rfl) Try.ntmps95 juntoref02_Points.A (by kernel_rfl) (e.mp h)

/-! juntoref02_Divide -/
def juntoref02_Divide.A : Ann where
  loops := fun i => match i with
    | 16392 => [(1, .slice)]
    | _ => []
  plans := fun i => match i with
    | 8 => .first 0 (.first 1 (.first 2 (.first 4 (.first 5 (.first 6 (.alt 3 [] (.alt 7 [] (.alt 8 [] (.alt 9 [] (.first 10 (.done)) (.stop)) (.stop)) (.stop)) (.alt 7 [] (.alt 3 [] (.alt 8 [] (.alt 9 [] (.first 10 (.done)) (.stop)) (.stop)) (.stop)) (.stop))))))))
    | _ => .stop
def juntoref02_Divide.W (p : Int) (fA : Option Addr) (fn fc : Nat) (gA : Option Addr) (gn gc : Nat) (H : Heap) (R : Value → Heap → Prop) : Prop :=
  CallH P N.juntoref02_Trim [.slice fA fn fc] H fun v H_ =>
  ∃ (rA : Option Addr) (rn rc : Nat), v = .slice rA rn rc ∧ CallH P N.juntoref02_Trim [.slice gA gn gc] H_ fun v2 H_2 =>
  ∃ (rA2 : Option Addr) (rn2 rc2 : Nat), v2 = .slice rA2 rn2 rc2 ∧ 0 ≤ ((rn : Nat) : Int) ∧ ((rn : Nat) : Int) ≤ ((rn : Nat) : Int) ∧ ((rn : Nat) : Int) * 8 ≤ 2 ^ 48 ∧ ((rn : Nat) : Int) < 2 ^ 62 ∧ NewH (H_2.push (.cells (repl (Int.toNat ((rn : Nat) : Int)) [.int .u64 0]).toArray 22 (0, 0))) fun H_3 =>
  ∃ a : Addr, rA2 = some a ∧ 0 ≤ (IntKind.i64.wrap (((rn2 : Nat) : Int) - 1)) ∧ (IntKind.i64.wrap (((rn2 : Nat) : Int) - 1)) < ((rn2 : Nat) : Int) ∧ ∃ x : Int, cellH H_3 (a.add (Int.toNat (IntKind.i64.wrap (((rn2 : Nat) : Int) - 1)))) = some (.int .u64 x) ∧ CallH P N.juntoref01_Inv [.int .u64 p, .int .u64 x] H_3 fun v3 H_4 =>
  ∃ r : Int, v3 = .int .u64 r ∧ LoopI (σ := (Option Addr × Nat × Nat)) (fun κ => κ (rA, rn, rc) H_4) fun s z H_5 next =>
  cond (decide (((s.2.1 : Nat) : Int) ≥ ((rn2 : Nat) : Int))) (∃ a2 : Addr, s.1 = some a2 ∧ 0 ≤ (IntKind.i64.wrap (((s.2.1 : Nat) : Int) - 1)) ∧ (IntKind.i64.wrap (((s.2.1 : Nat) : Int) - 1)) < ((s.2.1 : Nat) : Int) ∧ ∃ x2 : Int, cellH H_5 (a2.add (Int.toNat (IntKind.i64.wrap (((s.2.1 : Nat) : Int) - 1)))) = some (.int .u64 x2) ∧ CallH P N.juntoref01_Mul [.int .u64 p, .int .u64 x2, .int .u64 r] H_5 fun v4 H_6 =>
  ∃ r2 : Int, v4 = .int .u64 r2 ∧ ∃ a3 : Addr, (some (Addr.mk H_2.size 0 none) : Option Addr) = some a3 ∧ 0 ≤ (IntKind.i64.wrap (((s.2.1 : Nat) : Int) - ((rn2 : Nat) : Int))) ∧ (IntKind.i64.wrap (((s.2.1 : Nat) : Int) - ((rn2 : Nat) : Int))) < ((Int.toNat ((rn : Nat) : Int) : Nat) : Int) ∧ MayWrite H_6 (a3.add (Int.toNat (IntKind.i64.wrap (((s.2.1 : Nat) : Int) - ((rn2 : Nat) : Int))))) 1 ∧ NewH (setH H_6 (a3.add (Int.toNat (IntKind.i64.wrap (((s.2.1 : Nat) : Int) - ((rn2 : Nat) : Int))))) (.int .u64 r2)) fun H_7 =>
  (0 ≤ (IntKind.i64.wrap (((s.2.1 : Nat) : Int) - ((rn2 : Nat) : Int))) ∧ (IntKind.i64.wrap (((s.2.1 : Nat) : Int) - ((rn2 : Nat) : Int))) ≤ (IntKind.i64.wrap (((s.2.1 : Nat) : Int) - ((rn2 : Nat) : Int))) ∧ (IntKind.i64.wrap (((s.2.1 : Nat) : Int) - ((rn2 : Nat) : Int))) * 8 ≤ 2 ^ 48 ∧ (IntKind.i64.wrap (((s.2.1 : Nat) : Int) - ((rn2 : Nat) : Int))) < 2 ^ 62 ∧ NewH (H_7.push (.cells (repl (Int.toNat (IntKind.i64.wrap (((s.2.1 : Nat) : Int) - ((rn2 : Nat) : Int)))) [.int .u64 0]).toArray 22 (0, 0))) fun H_8 =>
  CallH P N.juntoref02_Scale [.int .u64 p, .slice rA2 rn2 rc2, .int .u64 r2] H_8 fun v5 H_9 =>
  ∃ (rA3 : Option Addr) (rn3 rc3 : Nat), v5 = .slice rA3 rn3 rc3 ∧ AppendV 22 1 8 [.int .u64 0] H_9 (some (Addr.mk H_7.size 0 none)) (Int.toNat (IntKind.i64.wrap (((s.2.1 : Nat) : Int) - ((rn2 : Nat) : Int)))) (Int.toNat (IntKind.i64.wrap (((s.2.1 : Nat) : Int) - ((rn2 : Nat) : Int)))) rA3 rn3 fun vA vn vc H_10 =>
  CallH P N.juntoref02_Sub [.int .u64 p, .slice s.1 s.2.1 s.2.2, .slice vA vn vc] H_10 fun v7 H_11 =>
  ∃ (rA4 : Option Addr) (rn4 rc4 : Nat), v7 = .slice rA4 rn4 rc4 ∧ next (rA4, rn4, rc4) H_11) ∧ CallH P N.juntoref02_Scale [.int .u64 p, .slice rA2 rn2 rc2, .int .u64 r2] H_7 fun v8 H_12 =>
  ∃ (rA5 : Option Addr) (rn5 rc5 : Nat), v8 = .slice rA5 rn5 rc5 ∧ 0 ≤ (IntKind.i64.wrap (((s.2.1 : Nat) : Int) - ((rn2 : Nat) : Int))) ∧ (IntKind.i64.wrap (((s.2.1 : Nat) : Int) - ((rn2 : Nat) : Int))) ≤ (IntKind.i64.wrap (((s.2.1 : Nat) : Int) - ((rn2 : Nat) : Int))) ∧ (IntKind.i64.wrap (((s.2.1 : Nat) : Int) - ((rn2 : Nat) : Int))) * 8 ≤ 2 ^ 48 ∧ (IntKind.i64.wrap (((s.2.1 : Nat) : Int) - ((rn2 : Nat) : Int))) < 2 ^ 62 ∧ NewH (H_12.push (.cells (repl (Int.toNat (IntKind.i64.wrap (((s.2.1 : Nat) : Int) - ((rn2 : Nat) : Int)))) [.int .u64 0]).toArray 22 (0, 0))) fun H_13 =>
  AppendV 22 1 8 [.int .u64 0] H_13 (some (Addr.mk H_12.size 0 none)) (Int.toNat (IntKind.i64.wrap (((s.2.1 : Nat) : Int) - ((rn2 : Nat) : Int)))) (Int.toNat (IntKind.i64.wrap (((s.2.1 : Nat) : Int) - ((rn2 : Nat) : Int)))) rA5 rn5 fun vA2 vn2 vc2 H_14 =>
  CallH P N.juntoref02_Sub [.int .u64 p, .slice s.1 s.2.1 s.2.2, .slice vA2 vn2 vc2] H_14 fun v10 H_15 =>
  ∃ (rA6 : Option Addr) (rn6 rc6 : Nat), v10 = .slice rA6 rn6 rc6 ∧ next (rA6, rn6, rc6) H_15)
   (CallH P N.juntoref02_Trim [.slice (some (Addr.mk H_2.size 0 none)) (Int.toNat ((rn : Nat) : Int)) (Int.toNat ((rn : Nat) : Int))] H_5 fun v11 H_16 =>
  ∃ (rA7 : Option Addr) (rn7 rc7 : Nat), v11 = .slice rA7 rn7 rc7 ∧ R (.tuple #[.slice rA7 rn7 rc7, .slice s.1 s.2.1 s.2.2]) H_16)
theorem juntoref02_Divide.ok (p : Int) (fA : Option Addr) (fn fc : Nat) (gA : Option Addr) (gn gc : Nat) (H : Heap) (R : Value → Heap → Prop) (h : juntoref02_Divide.W p fA fn fc gA gn gc H R) : CallH P N.juntoref02_Divide ([.int .u64 p, .slice fA fn fc, .slice gA gn gc] : List Value) H R := by
  have e : juntoref02_Divide.W p fA fn fc gA gn gc H R = sxFn P T Sh.R nf juntoref02_Divide.A Try.f99.results.toList (bodyOf Try.f99) (([(.int .u64 p : Value), (.slice fA fn fc : Value), (.slice gA gn gc : Value)] : List Value) ++ List.replicate (63 - ([(.int .u64 p : Value), (.slice fA fn fc : Value), (.slice gA gn gc : Value)] : List Value).length) undef) H R := by kernel_rfl
  exact call_of_sx fits bodies mixed Try.func99 (c := bodyOf Try.f99) (by kernel_rfl) Try.ntmps99 juntoref02_Divide.A (by kernel_rfl) (e.mp h)

/-! juntoref02_Within -/
def juntoref02_Within.A : Ann where
  loops := fun i => match i with
    | _ => []
  plans := fun i => match i with
    | _ => .stop
def juntoref02_Within.W (p : Int) (fA : Option Addr) (fn fc : Nat) (H : Heap) (R : Value → Heap → Prop) : Prop :=
  cond (decide (((fn : Nat) : Int) > 201)) (R (.int .i64 3) H)
   (CallH P N.juntoref01_Within [.int .u64 p, .slice fA fn fc] H fun v H_ =>
  ∃ r : Int, v = .int .i64 r ∧ R (.int .i64 r) H_)
theorem juntoref02_Within.ok (p : Int) (fA : Option Addr) (fn fc : Nat) (H : Heap) (R : Value → Heap → Prop) (h : juntoref02_Within.W p fA fn fc H R) : CallH P N.juntoref02_Within ([.int .u64 p, .slice fA fn fc] : List Value) H R := by
  have e : juntoref02_Within.W p fA fn fc H R = sxFn P T Sh.R nf juntoref02_Within.A Try.f104.results.toList (bodyOf Try.f104) (([(.int .u64 p : Value), (.slice fA fn fc : Value)] : List Value) ++ List.replicate (11 - ([(.int .u64 p : Value), (.slice fA fn fc : Value)] : List Value).length) undef) H R := by kernel_rfl
  exact call_of_sx fits bodies mixed Try.func104 (c := bodyOf Try.f104) (by kernel_rfl) Try.ntmps104 juntoref02_Within.A (by kernel_rfl) (e.mp h)

/-! juntoref02_Through -/
def juntoref02_Through.A : Ann where
  loops := fun i => match i with
    | 12294 => [(5, .slice), (10, .int .i64)]
    | _ => []
  plans := fun i => match i with
    | 5 => .first 0 (.first 1 (.first 2 (.first 3 (.first 4 (.first 6 (.first 8 (.read 9 (.alt 5 [] (.alt 7 [] (.alt 10 [9] (.alt 11 [] (.first 12 (.done)) (.stop)) (.stop)) (.stop)) (.stop)))))))))
    | _ => .stop
def juntoref02_Through.W (p : Int) (lA : Option Addr) (ln lc : Nat) (H : Heap) (R : Value → Heap → Prop) : Prop :=
  LoopI (σ := (Option Addr × Nat × Nat) × Int) (fun κ => κ ((none, 0, 0), 0) H) fun s z H_ next =>
  cond (decide (s.2 < ((ln : Nat) : Int))) (∃ a : Addr, lA = some a ∧ 0 ≤ s.2 ∧ s.2 < ((ln : Nat) : Int) ∧ ∃ x0 : Int, ∃ x1 : Int, cellH H_ (a.add ((Int.toNat s.2) * 2)) = some (.int .u64 x0) ∧ cellH H_ ((a.add ((Int.toNat s.2) * 2)).add 1) = some (.int .u64 x1) ∧ NewH (H_.push (.cells #[.int .u64 0, .int .u64 0] 103 (0, 0))) fun H_2 =>
  MayWrite H_2 (Addr.mk H_.size 0 none) 2 ∧ NewH (setH (setH H_2 (Addr.mk H_.size 0 none) (.int .u64 x0)) (((Addr.mk H_.size 0 none)).add 1) (.int .u64 x1)) fun H_3 =>
  ∃ x : Int, cellH H_3 (((Addr.mk H_.size 0 none)).add 1) = some (.int .u64 x) ∧ CallH P N.juntoref02_Places [.slice lA ln lc] H_3 fun v H_4 =>
  ∃ (rA : Option Addr) (rn rc : Nat), v = .slice rA rn rc ∧ cellH H_4 (((Addr.mk H_.size 0 none)).add 1) = some (.int .u64 x) ∧ CallH P N.juntoref02_unit [.int .u64 p, .slice rA rn rc, .int .i64 s.2] H_4 fun v2 H_5 =>
  ∃ (rA2 : Option Addr) (rn2 rc2 : Nat), v2 = .slice rA2 rn2 rc2 ∧ cellH H_5 (((Addr.mk H_.size 0 none)).add 1) = some (.int .u64 x) ∧ CallH P N.juntoref02_Scale [.int .u64 p, .slice rA2 rn2 rc2, .int .u64 x] H_5 fun v3 H_6 =>
  ∃ (rA3 : Option Addr) (rn3 rc3 : Nat), v3 = .slice rA3 rn3 rc3 ∧ CallH P N.juntoref02_Add [.int .u64 p, .slice s.1.1 s.1.2.1 s.1.2.2, .slice rA3 rn3 rc3] H_6 fun v4 H_7 =>
  ∃ (rA4 : Option Addr) (rn4 rc4 : Nat), v4 = .slice rA4 rn4 rc4 ∧ next ((rA4, rn4, rc4), IntKind.i64.wrap (s.2 + 1)) H_7)
   (R (.slice s.1.1 s.1.2.1 s.1.2.2) H_)
theorem juntoref02_Through.ok (p : Int) (lA : Option Addr) (ln lc : Nat) (H : Heap) (R : Value → Heap → Prop) (h : juntoref02_Through.W p lA ln lc H R) : CallH P N.juntoref02_Through ([.int .u64 p, .slice lA ln lc] : List Value) H R := by
  have e : juntoref02_Through.W p lA ln lc H R = sxFn P T Sh.R nf juntoref02_Through.A Try.f105.results.toList (bodyOf Try.f105) (([(.int .u64 p : Value), (.slice lA ln lc : Value)] : List Value) ++ List.replicate (29 - ([(.int .u64 p : Value), (.slice lA ln lc : Value)] : List Value).length) undef) H R := by kernel_rfl
  exact call_of_sx fits bodies mixed Try.func105 (c := bodyOf Try.f105) (by kernel_rfl) Try.ntmps105 juntoref02_Through.A (by kernel_rfl) (e.mp h)

/-! juntoref02_Sub -/
def juntoref02_Sub.A : Ann where
  loops := fun i => match i with
    | _ => []
  plans := fun i => match i with
    | _ => .stop
def juntoref02_Sub.W (p : Int) (fA : Option Addr) (fn fc : Nat) (gA : Option Addr) (gn gc : Nat) (H : Heap) (R : Value → Heap → Prop) : Prop :=
  CallH P N.juntoref02_Scale [.int .u64 p, .slice gA gn gc, .int .u64 (IntKind.u64.wrap (p - 1))] H fun v H_ =>
  ∃ (rA : Option Addr) (rn rc : Nat), v = .slice rA rn rc ∧ CallH P N.juntoref02_Add [.int .u64 p, .slice fA fn fc, .slice rA rn rc] H_ fun v2 H_2 =>
  ∃ (rA2 : Option Addr) (rn2 rc2 : Nat), v2 = .slice rA2 rn2 rc2 ∧ R (.slice rA2 rn2 rc2) H_2
theorem juntoref02_Sub.ok (p : Int) (fA : Option Addr) (fn fc : Nat) (gA : Option Addr) (gn gc : Nat) (H : Heap) (R : Value → Heap → Prop) (h : juntoref02_Sub.W p fA fn fc gA gn gc H R) : CallH P N.juntoref02_Sub ([.int .u64 p, .slice fA fn fc, .slice gA gn gc] : List Value) H R := by
  have e : juntoref02_Sub.W p fA fn fc gA gn gc H R = sxFn P T Sh.R nf juntoref02_Sub.A Try.f122.results.toList (bodyOf Try.f122) (([(.int .u64 p : Value), (.slice fA fn fc : Value), (.slice gA gn gc : Value)] : List Value) ++ List.replicate (15 - ([(.int .u64 p : Value), (.slice fA fn fc : Value), (.slice gA gn gc : Value)] : List Value).length) undef) H R := by kernel_rfl
  exact call_of_sx fits bodies mixed Try.func122 (c := bodyOf Try.f122) (by kernel_rfl) Try.ntmps122 juntoref02_Sub.A (by kernel_rfl) (e.mp h)

/-! juntoref02_Scale -/
def juntoref02_Scale.A : Ann where
  loops := fun i => match i with
    | 12294 => [(14, .int .i64)]
    | _ => []
  plans := fun i => match i with
    | _ => .stop
def juntoref02_Scale.W (p : Int) (fA : Option Addr) (fn fc : Nat) (k : Int) (H : Heap) (R : Value → Heap → Prop) : Prop :=
  0 ≤ ((fn : Nat) : Int) ∧ ((fn : Nat) : Int) ≤ ((fn : Nat) : Int) ∧ ((fn : Nat) : Int) * 8 ≤ 2 ^ 48 ∧ ((fn : Nat) : Int) < 2 ^ 62 ∧ NewH (H.push (.cells (repl (Int.toNat ((fn : Nat) : Int)) [.int .u64 0]).toArray 22 (0, 0))) fun H_ =>
  LoopI (σ := Int) (fun κ => κ 0 H_) fun s z H_2 next =>
  cond (decide (s < ((fn : Nat) : Int))) (∃ a : Addr, fA = some a ∧ 0 ≤ s ∧ s < ((fn : Nat) : Int) ∧ ∃ x : Int, cellH H_2 (a.add (Int.toNat s)) = some (.int .u64 x) ∧ CallH P N.juntoref01_Mul [.int .u64 p, .int .u64 x, .int .u64 k] H_2 fun v H_3 =>
  ∃ r : Int, v = .int .u64 r ∧ ∃ a2 : Addr, (some (Addr.mk H.size 0 none) : Option Addr) = some a2 ∧ 0 ≤ s ∧ s < ((Int.toNat ((fn : Nat) : Int) : Nat) : Int) ∧ MayWrite H_3 (a2.add (Int.toNat s)) 1 ∧ NewH (setH H_3 (a2.add (Int.toNat s)) (.int .u64 r)) fun H_4 =>
  next (IntKind.i64.wrap (s + 1)) H_4)
   (CallH P N.juntoref02_Trim [.slice (some (Addr.mk H.size 0 none)) (Int.toNat ((fn : Nat) : Int)) (Int.toNat ((fn : Nat) : Int))] H_2 fun v2 H_5 =>
  ∃ (rA : Option Addr) (rn rc : Nat), v2 = .slice rA rn rc ∧ R (.slice rA rn rc) H_5)
theorem juntoref02_Scale.ok (p : Int) (fA : Option Addr) (fn fc : Nat) (k : Int) (H : Heap) (R : Value → Heap → Prop) (h : juntoref02_Scale.W p fA fn fc k H R) : CallH P N.juntoref02_Scale ([.int .u64 p, .slice fA fn fc, .int .u64 k] : List Value) H R := by
  have e : juntoref02_Scale.W p fA fn fc k H R = sxFn P T Sh.R nf juntoref02_Scale.A Try.f123.results.toList (bodyOf Try.f123) (([(.int .u64 p : Value), (.slice fA fn fc : Value), (.int .u64 k : Value)] : List Value) ++ List.replicate (30 - ([(.int .u64 p : Value), (.slice fA fn fc : Value), (.int .u64 k : Value)] : List Value).length) undef) H R := by kernel_rfl
  exact call_of_sx fits bodies mixed Try.func123 (c := bodyOf Try.f123) (by kernel_rfl) Try.ntmps123 juntoref02_Scale.A (by kernel_rfl) (e.mp h)

/-! juntoref02_Add -/
def juntoref02_Add.A : Ann where
  loops := fun i => match i with
    | 12294 => [(17, .int .i64)]
    | _ => []
  plans := fun i => match i with
    | _ => .stop
def juntoref02_Add.W (p : Int) (fA : Option Addr) (fn fc : Nat) (gA : Option Addr) (gn gc : Nat) (H : Heap) (R : Value → Heap → Prop) : Prop :=
  0 ≤ (if ((gn : Nat) : Int) > ((fn : Nat) : Int) then ((gn : Nat) : Int) else ((fn : Nat) : Int)) ∧ (if ((gn : Nat) : Int) > ((fn : Nat) : Int) then ((gn : Nat) : Int) else ((fn : Nat) : Int)) ≤ (if ((gn : Nat) : Int) > ((fn : Nat) : Int) then ((gn : Nat) : Int) else ((fn : Nat) : Int)) ∧ (if ((gn : Nat) : Int) > ((fn : Nat) : Int) then ((gn : Nat) : Int) else ((fn : Nat) : Int)) * 8 ≤ 2 ^ 48 ∧ (if ((gn : Nat) : Int) > ((fn : Nat) : Int) then ((gn : Nat) : Int) else ((fn : Nat) : Int)) < 2 ^ 62 ∧ NewH (H.push (.cells (repl (Int.toNat (if ((gn : Nat) : Int) > ((fn : Nat) : Int) then ((gn : Nat) : Int) else ((fn : Nat) : Int))) [.int .u64 0]).toArray 22 (0, 0))) fun H_ =>
  LoopI (σ := Int) (fun κ => κ 0 H_) fun s z H_2 next =>
  cond (decide (s < ((Int.toNat (if ((gn : Nat) : Int) > ((fn : Nat) : Int) then ((gn : Nat) : Int) else ((fn : Nat) : Int)) : Nat) : Int))) (CallH P N.juntoref02_at [.slice fA fn fc, .int .i64 s] H_2 fun v H_3 =>
  ∃ r : Int, v = .int .u64 r ∧ CallH P N.juntoref02_at [.slice gA gn gc, .int .i64 s] H_3 fun v2 H_4 =>
  ∃ r2 : Int, v2 = .int .u64 r2 ∧ CallH P N.juntoref01_Add [.int .u64 p, .int .u64 r, .int .u64 r2] H_4 fun v3 H_5 =>
  ∃ r3 : Int, v3 = .int .u64 r3 ∧ ∃ a : Addr, (some (Addr.mk H.size 0 none) : Option Addr) = some a ∧ 0 ≤ s ∧ s < ((Int.toNat (if ((gn : Nat) : Int) > ((fn : Nat) : Int) then ((gn : Nat) : Int) else ((fn : Nat) : Int)) : Nat) : Int) ∧ MayWrite H_5 (a.add (Int.toNat s)) 1 ∧ NewH (setH H_5 (a.add (Int.toNat s)) (.int .u64 r3)) fun H_6 =>
  next (IntKind.i64.wrap (s + 1)) H_6)
   (CallH P N.juntoref02_Trim [.slice (some (Addr.mk H.size 0 none)) (Int.toNat (if ((gn : Nat) : Int) > ((fn : Nat) : Int) then ((gn : Nat) : Int) else ((fn : Nat) : Int))) (Int.toNat (if ((gn : Nat) : Int) > ((fn : Nat) : Int) then ((gn : Nat) : Int) else ((fn : Nat) : Int)))] H_2 fun v4 H_7 =>
  ∃ (rA : Option Addr) (rn rc : Nat), v4 = .slice rA rn rc ∧ R (.slice rA rn rc) H_7)
theorem juntoref02_Add.ok (p : Int) (fA : Option Addr) (fn fc : Nat) (gA : Option Addr) (gn gc : Nat) (H : Heap) (R : Value → Heap → Prop) (h : juntoref02_Add.W p fA fn fc gA gn gc H R) : CallH P N.juntoref02_Add ([.int .u64 p, .slice fA fn fc, .slice gA gn gc] : List Value) H R := by
  have e : juntoref02_Add.W p fA fn fc gA gn gc H R = sxFn P T Sh.R nf juntoref02_Add.A Try.f127.results.toList (bodyOf Try.f127) (([(.int .u64 p : Value), (.slice fA fn fc : Value), (.slice gA gn gc : Value)] : List Value) ++ List.replicate (34 - ([(.int .u64 p : Value), (.slice fA fn fc : Value), (.slice gA gn gc : Value)] : List Value).length) undef) H R := by kernel_rfl
  exact call_of_sx fits bodies mixed Try.func127 (c := bodyOf Try.f127) (by kernel_rfl) Try.ntmps127 juntoref02_Add.A (by kernel_rfl) (e.mp h)

/-! juntoref02_unit -/
def juntoref02_unit.A : Ann where
  loops := fun i => match i with
    | 12295 => [(7, .slice), (13, .int .i64)]
    | _ => []
  plans := fun i => match i with
    | 6 => .first 0 (.first 1 (.first 2 (.first 3 (.first 4 (.first 8 (.first 9 (.first 10 (.first 11 (.first 12 (.first 14 (.read 13 (.alt 5 [] (.alt 6 [] (.alt 7 [] (.alt 15 [13] (.alt 16 [] (.alt 17 [] (.first 18 (.done)) (.stop)) (.stop)) (.stop)) (.stop)) (.stop)) (.stop)))))))))))))
    | _ => .stop
def juntoref02_unit.W (p : Int) (xsA : Option Addr) (xsn xsc : Nat) (i : Int) (H : Heap) (R : Value → Heap → Prop) : Prop :=
  NewH (H.push (.cells #[.int .u64 1] 22 (0, 0))) fun H_ =>
  LoopI (σ := (Option Addr × Nat × Nat) × Int) (fun κ => κ (((some (Addr.mk H.size 0 none) : Option Addr), 1, 1), 0) H_) fun s z H_2 next =>
  cond (decide (s.2 < ((xsn : Nat) : Int))) (∃ a : Addr, xsA = some a ∧ 0 ≤ s.2 ∧ s.2 < ((xsn : Nat) : Int) ∧ ∃ x : Int, cellH H_2 (a.add (Int.toNat s.2)) = some (.int .u64 x) ∧ cond (s.2 != i) (∃ a2 : Addr, xsA = some a2 ∧ 0 ≤ i ∧ i < ((xsn : Nat) : Int) ∧ ∃ x2 : Int, cellH H_2 (a2.add (Int.toNat i)) = some (.int .u64 x2) ∧ CallH P N.juntoref01_Sub [.int .u64 p, .int .u64 0, .int .u64 x] H_2 fun v H_3 =>
  ∃ r : Int, v = .int .u64 r ∧ cellH H_3 (a2.add (Int.toNat i)) = some (.int .u64 x2) ∧ NewH (H_3.push (.cells #[.int .u64 r, .int .u64 1] 22 (0, 0))) fun H_4 =>
  cellH H_4 (a2.add (Int.toNat i)) = some (.int .u64 x2) ∧ CallH P N.juntoref02_Mul [.int .u64 p, .slice s.1.1 s.1.2.1 s.1.2.2, .slice (some (Addr.mk H_3.size 0 none)) 2 2] H_4 fun v2 H_5 =>
  ∃ (rA : Option Addr) (rn rc : Nat), v2 = .slice rA rn rc ∧ cellH H_5 (a2.add (Int.toNat i)) = some (.int .u64 x2) ∧ CallH P N.juntoref01_Sub [.int .u64 p, .int .u64 x2, .int .u64 x] H_5 fun v3 H_6 =>
  ∃ r2 : Int, v3 = .int .u64 r2 ∧ CallH P N.juntoref01_Inv [.int .u64 p, .int .u64 r2] H_6 fun v4 H_7 =>
  ∃ r3 : Int, v4 = .int .u64 r3 ∧ CallH P N.juntoref02_Scale [.int .u64 p, .slice rA rn rc, .int .u64 r3] H_7 fun v5 H_8 =>
  ∃ (rA2 : Option Addr) (rn2 rc2 : Nat), v5 = .slice rA2 rn2 rc2 ∧ next ((rA2, rn2, rc2), IntKind.i64.wrap (s.2 + 1)) H_8)
   (next ((s.1.1, s.1.2.1, s.1.2.2), IntKind.i64.wrap (s.2 + 1)) H_2))
   (R (.slice s.1.1 s.1.2.1 s.1.2.2) H_2)
theorem juntoref02_unit.ok (p : Int) (xsA : Option Addr) (xsn xsc : Nat) (i : Int) (H : Heap) (R : Value → Heap → Prop) (h : juntoref02_unit.W p xsA xsn xsc i H R) : CallH P N.juntoref02_unit ([.int .u64 p, .slice xsA xsn xsc, .int .i64 i] : List Value) H R := by
  have e : juntoref02_unit.W p xsA xsn xsc i H R = sxFn P T Sh.R nf juntoref02_unit.A Try.f128.results.toList (bodyOf Try.f128) (([(.int .u64 p : Value), (.slice xsA xsn xsc : Value), (.int .i64 i : Value)] : List Value) ++ List.replicate (41 - ([(.int .u64 p : Value), (.slice xsA xsn xsc : Value), (.int .i64 i : Value)] : List Value).length) undef) H R := by kernel_rfl
  exact call_of_sx fits bodies mixed Try.func128 (c := bodyOf Try.f128) (by kernel_rfl) Try.ntmps128 juntoref02_unit.A (by kernel_rfl) (e.mp h)

/-! juntoref02_Places -/
def juntoref02_Places.A : Ann where
  loops := fun i => match i with
    | 12294 => [(3, .slice), (8, .int .i64)]
    | _ => []
  plans := fun i => match i with
    | _ => .stop
def juntoref02_Places.W (lA : Option Addr) (ln lc : Nat) (H : Heap) (R : Value → Heap → Prop) : Prop :=
  LoopI (σ := (Option Addr × Nat × Nat) × Int) (fun κ => κ ((none, 0, 0), 0) H) fun s z H_ next =>
  cond (decide (s.2 < ((ln : Nat) : Int))) (∃ a : Addr, lA = some a ∧ 0 ≤ s.2 ∧ s.2 < ((ln : Nat) : Int) ∧ ∃ x0 : Int, ∃ x1 : Int, cellH H_ (a.add ((Int.toNat s.2) * 2)) = some (.int .u64 x0) ∧ cellH H_ ((a.add ((Int.toNat s.2) * 2)).add 1) = some (.int .u64 x1) ∧ NewH (H_.push (.cells #[.int .u64 0, .int .u64 0] 103 (0, 0))) fun H_2 =>
  MayWrite H_2 (Addr.mk H_.size 0 none) 2 ∧ NewH (setH (setH H_2 (Addr.mk H_.size 0 none) (.int .u64 x0)) (((Addr.mk H_.size 0 none)).add 1) (.int .u64 x1)) fun H_3 =>
  ∃ x : Int, cellH H_3 (Addr.mk H_.size 0 none) = some (.int .u64 x) ∧ NewH (H_3.push (.cells #[.int .u64 x] 22 (0, 0))) fun H_4 =>
  AppendV 22 1 8 [.int .u64 0] H_4 s.1.1 s.1.2.1 s.1.2.2 (some (Addr.mk H_3.size 0 none)) 1 fun vA vn vc H_5 =>
  next ((vA, vn, vc), IntKind.i64.wrap (s.2 + 1)) H_5)
   (R (.slice s.1.1 s.1.2.1 s.1.2.2) H_)
theorem juntoref02_Places.ok (lA : Option Addr) (ln lc : Nat) (H : Heap) (R : Value → Heap → Prop) (h : juntoref02_Places.W lA ln lc H R) : CallH P N.juntoref02_Places ([.slice lA ln lc] : List Value) H R := by
  have e : juntoref02_Places.W lA ln lc H R = sxFn P T Sh.R nf juntoref02_Places.A Try.f129.results.toList (bodyOf Try.f129) (([(.slice lA ln lc : Value)] : List Value) ++ List.replicate (19 - ([(.slice lA ln lc : Value)] : List Value).length) undef) H R := by kernel_rfl
  exact call_of_sx fits bodies mixed Try.func129 (c := bodyOf Try.f129) (by kernel_rfl) Try.ntmps129 juntoref02_Places.A (by kernel_rfl) (e.mp h)

/-! juntoref02_at -/
def juntoref02_at.A : Ann where
  loops := fun i => match i with
    | _ => []
  plans := fun i => match i with
    | _ => .stop
def juntoref02_at.W (fA : Option Addr) (fn fc : Nat) (i : Int) (H : Heap) (R : Value → Heap → Prop) : Prop :=
  cond (decide (i < ((fn : Nat) : Int))) (∃ a : Addr, fA = some a ∧ 0 ≤ i ∧ i < ((fn : Nat) : Int) ∧ ∃ x : Int, cellH H (a.add (Int.toNat i)) = some (.int .u64 x) ∧ R (.int .u64 x) H)
   (R (.int .u64 0) H)
theorem juntoref02_at.ok (fA : Option Addr) (fn fc : Nat) (i : Int) (H : Heap) (R : Value → Heap → Prop) (h : juntoref02_at.W fA fn fc i H R) : CallH P N.juntoref02_at ([.slice fA fn fc, .int .i64 i] : List Value) H R := by
  have e : juntoref02_at.W fA fn fc i H R = sxFn P T Sh.R nf juntoref02_at.A Try.f143.results.toList (bodyOf Try.f143) (([(.slice fA fn fc : Value), (.int .i64 i : Value)] : List Value) ++ List.replicate (13 - ([(.slice fA fn fc : Value), (.int .i64 i : Value)] : List Value).length) undef) H R := by kernel_rfl
  exact call_of_sx fits bodies mixed Try.func143 (c := bodyOf Try.f143) (by kernel_rfl) Try.ntmps143 juntoref02_at.A (by kernel_rfl) (e.mp h)

end Go.Proofs.Ytlhcaangdenoaaa.Sh
