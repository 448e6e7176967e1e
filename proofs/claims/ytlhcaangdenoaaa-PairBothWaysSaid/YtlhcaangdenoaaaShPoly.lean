import Derived.Test.YtlhcaangdenoaaaShBase
set_option linter.unusedVariables false
set_option maxRecDepth 100000
namespace Go.Proofs.Ytlhcaangdenoaaa.Sh
open Go.Sx

/-! poly_Short -/
def poly_Short.A : Ann where
  loops := fun i => match i with
    | 8195 => [(3, .int .i64)]
    | _ => []
  plans := fun i => match i with
    | _ => .stop
def poly_Short.W (fA : Option Addr) (fn fc : Nat) (H : Heap) (R : Value → Heap → Prop) : Prop :=
  LoopI (σ := Int) (fun κ => κ ((fn : Nat) : Int) H) fun s z H_ next =>
  cond (decide (s > 0)) (∃ a : Addr, fA = some a ∧ 0 ≤ (IntKind.i64.wrap (s - 1)) ∧ (IntKind.i64.wrap (s - 1)) < ((fn : Nat) : Int) ∧ ∃ x : Int, cellH H_ (a.add (Int.toNat (IntKind.i64.wrap (s - 1)))) = some (.int .u64 x) ∧ cond (x == 0) (next (IntKind.i64.wrap (s - 1)) H_)
   (0 ≤ s ∧ s ≤ ((fc : Nat) : Int) ∧ CallH P N.slices_Clone_uint64uint64 [.slice fA (Int.toNat s) fc] H_ fun v H_2 =>
  ∃ (rA : Option Addr) (rn rc : Nat), v = .slice rA rn rc ∧ R (.slice rA rn rc) H_2)) (0 ≤ s ∧ s ≤ ((fc : Nat) : Int) ∧ CallH P N.slices_Clone_uint64uint64 [.slice fA (Int.toNat s) fc] H_ fun v2 H_3 =>
  ∃ (rA2 : Option Addr) (rn2 rc2 : Nat), v2 = .slice rA2 rn2 rc2 ∧ R (.slice rA2 rn2 rc2) H_3)
theorem poly_Short.ok (fA : Option Addr) (fn fc : Nat) (H : Heap) (R : Value → Heap → Prop) (h : poly_Short.W fA fn fc H R) : CallH P N.poly_Short ([.slice fA fn fc] : List Value) H R := by
  have e : poly_Short.W fA fn fc H R = sxFn P T Sh.R nf poly_Short.A Try.f103.results.toList (bodyOf Try.f103) (([(.slice fA fn fc : Value)] : List Value) ++ List.replicate (22 - ([(.slice fA fn fc : Value)] : List Value).length) undef) H R := by kernel_rfl
  exact call_of_sx fits bodies mixed Try.func103 (c := bodyOf Try.f103) (by kernel_rfl) Try.ntmps103 poly_Short.A (by kernel_rfl) (e.mp h)

/-! poly_Over -/
def poly_Over.A : Ann where
  loops := fun i => match i with
    | 28680 => [(11, .int .i64)]
    | 49167 => [(64, .int .i64)]
    | _ => []
  plans := fun i => match i with
    | 14 => .first 0 (.first 1 (.first 2 (.first 3 (.first 4 (.first 5 (.first 6 (.first 7 (.first 8 (.first 9 (.first 11 (.first 12 (.first 13 (.read 10 (.alt 14 [] (.alt 15 [10] (.first 16 (.alt 17 [] (.done) (.stop))) (.stop)) (.stop)))))))))))))))
    | _ => .stop
def poly_Over.W (p : Int) (fA : Option Addr) (fn fc : Nat) (gA : Option Addr) (gn gc : Nat) (H : Heap) (R : Value → Heap → Prop) : Prop :=
  CallH P N.poly_Short [.slice fA fn fc] H fun v H_ =>
  ∃ (rA : Option Addr) (rn rc : Nat), v = .slice rA rn rc ∧ CallH P N.poly_Short [.slice gA gn gc] H_ fun v2 H_2 =>
  ∃ (rA2 : Option Addr) (rn2 rc2 : Nat), v2 = .slice rA2 rn2 rc2 ∧ cond (decide (((rn : Nat) : Int) < ((rn2 : Nat) : Int))) (R (.tuple #[.slice none 0 0, .slice rA rn rc]) H_2)
   (0 ≤ (IntKind.i64.wrap ((IntKind.i64.wrap (((rn : Nat) : Int) - ((rn2 : Nat) : Int))) + 1)) ∧ (IntKind.i64.wrap ((IntKind.i64.wrap (((rn : Nat) : Int) - ((rn2 : Nat) : Int))) + 1)) ≤ (IntKind.i64.wrap ((IntKind.i64.wrap (((rn : Nat) : Int) - ((rn2 : Nat) : Int))) + 1)) ∧ (IntKind.i64.wrap ((IntKind.i64.wrap (((rn : Nat) : Int) - ((rn2 : Nat) : Int))) + 1)) * 8 ≤ 2 ^ 48 ∧ (IntKind.i64.wrap ((IntKind.i64.wrap (((rn : Nat) : Int) - ((rn2 : Nat) : Int))) + 1)) < 2 ^ 62 ∧ NewH (H_2.push (.cells (repl (Int.toNat (IntKind.i64.wrap ((IntKind.i64.wrap (((rn : Nat) : Int) - ((rn2 : Nat) : Int))) + 1))) [.int .u64 0]).toArray 22 (0, 0))) fun H_3 =>
  ∃ a : Addr, rA2 = some a ∧ 0 ≤ (IntKind.i64.wrap (((rn2 : Nat) : Int) - 1)) ∧ (IntKind.i64.wrap (((rn2 : Nat) : Int) - 1)) < ((rn2 : Nat) : Int) ∧ ∃ x : Int, cellH H_3 (a.add (Int.toNat (IntKind.i64.wrap (((rn2 : Nat) : Int) - 1)))) = some (.int .u64 x) ∧ CallH P N.field_Over [.int .u64 p, .int .u64 x] H_3 fun v3 H_4 =>
  ∃ r : Int, v3 = .int .u64 r ∧ LoopI (σ := Int) (fun κ => κ (IntKind.i64.wrap (((Int.toNat (IntKind.i64.wrap ((IntKind.i64.wrap (((rn : Nat) : Int) - ((rn2 : Nat) : Int))) + 1)) : Nat) : Int) - 1)) H_4) fun s z H_5 next =>
  cond (decide (s ≥ 0)) (∃ a2 : Addr, rA = some a2 ∧ 0 ≤ (IntKind.i64.wrap ((IntKind.i64.wrap (s + ((rn2 : Nat) : Int))) - 1)) ∧ (IntKind.i64.wrap ((IntKind.i64.wrap (s + ((rn2 : Nat) : Int))) - 1)) < ((rn : Nat) : Int) ∧ ∃ x2 : Int, cellH H_5 (a2.add (Int.toNat (IntKind.i64.wrap ((IntKind.i64.wrap (s + ((rn2 : Nat) : Int))) - 1)))) = some (.int .u64 x2) ∧ CallH P N.field_Times [.int .u64 p, .int .u64 x2, .int .u64 r] H_5 fun v4 H_6 =>
  ∃ r2 : Int, v4 = .int .u64 r2 ∧ ∃ a3 : Addr, (some (Addr.mk H_2.size 0 none) : Option Addr) = some a3 ∧ 0 ≤ s ∧ s < ((Int.toNat (IntKind.i64.wrap ((IntKind.i64.wrap (((rn : Nat) : Int) - ((rn2 : Nat) : Int))) + 1)) : Nat) : Int) ∧ MayWrite H_6 (a3.add (Int.toNat s)) 1 ∧ NewH (setH H_6 (a3.add (Int.toNat s)) (.int .u64 r2)) fun H_7 =>
  LoopI (σ := Int) (fun κ => κ 0 H_7) fun s2 z2 H_8 next2 =>
  cond (decide (s2 < ((rn2 : Nat) : Int))) (∃ a4 : Addr, rA2 = some a4 ∧ 0 ≤ s2 ∧ s2 < ((rn2 : Nat) : Int) ∧ ∃ x3 : Int, cellH H_8 (a4.add (Int.toNat s2)) = some (.int .u64 x3) ∧ ∃ a5 : Addr, rA = some a5 ∧ 0 ≤ (IntKind.i64.wrap (s + s2)) ∧ (IntKind.i64.wrap (s + s2)) < ((rn : Nat) : Int) ∧ ∃ x4 : Int, cellH H_8 (a5.add (Int.toNat (IntKind.i64.wrap (s + s2)))) = some (.int .u64 x4) ∧ CallH P N.field_Times [.int .u64 p, .int .u64 r2, .int .u64 x3] H_8 fun v5 H_9 =>
  ∃ r3 : Int, v5 = .int .u64 r3 ∧ cellH H_9 (a5.add (Int.toNat (IntKind.i64.wrap (s + s2)))) = some (.int .u64 x4) ∧ CallH P N.field_Minus [.int .u64 p, .int .u64 x4, .int .u64 r3] H_9 fun v6 H_10 =>
  ∃ r4 : Int, v6 = .int .u64 r4 ∧ ∃ a6 : Addr, rA = some a6 ∧ 0 ≤ (IntKind.i64.wrap (s + s2)) ∧ (IntKind.i64.wrap (s + s2)) < ((rn : Nat) : Int) ∧ MayWrite H_10 (a6.add (Int.toNat (IntKind.i64.wrap (s + s2)))) 1 ∧ NewH (setH H_10 (a6.add (Int.toNat (IntKind.i64.wrap (s + s2)))) (.int .u64 r4)) fun H_11 =>
  next2 (IntKind.i64.wrap (s2 + 1)) H_11)
   (next (IntKind.i64.wrap (s - 1)) H_8))
   (CallH P N.poly_Short [.slice (some (Addr.mk H_2.size 0 none)) (Int.toNat (IntKind.i64.wrap ((IntKind.i64.wrap (((rn : Nat) : Int) - ((rn2 : Nat) : Int))) + 1))) (Int.toNat (IntKind.i64.wrap ((IntKind.i64.wrap (((rn : Nat) : Int) - ((rn2 : Nat) : Int))) + 1)))] H_5 fun v7 H_12 =>
  ∃ (rA3 : Option Addr) (rn3 rc3 : Nat), v7 = .slice rA3 rn3 rc3 ∧ CallH P N.poly_Short [.slice rA rn rc] H_12 fun v8 H_13 =>
  ∃ (rA4 : Option Addr) (rn4 rc4 : Nat), v8 = .slice rA4 rn4 rc4 ∧ R (.tuple #[.slice rA3 rn3 rc3, .slice rA4 rn4 rc4]) H_13))
theorem poly_Over.ok (p : Int) (fA : Option Addr) (fn fc : Nat) (gA : Option Addr) (gn gc : Nat) (H : Heap) (R : Value → Heap → Prop) (h : poly_Over.W p fA fn fc gA gn gc H R) : CallH P N.poly_Over ([.int .u64 p, .slice fA fn fc, .slice gA gn gc] : List Value) H R := by
  have e : poly_Over.W p fA fn fc gA gn gc H R = sxFn P T Sh.R nf poly_Over.A Try.f118.results.toList (bodyOf Try.f118) (([(.int .u64 p : Value), (.slice fA fn fc : Value), (.slice gA gn gc : Value)] : List Value) ++ List.replicate (91 - ([(.int .u64 p : Value), (.slice fA fn fc : Value), (.slice gA gn gc : Value)] : List Value).length) undef) H R := by kernel_rfl
  exact call_of_sx fits bodies mixed Try.func118 (c := bodyOf Try.f118) (by kernel_rfl) Try.ntmps118 poly_Over.A (by kernel_rfl) (e.mp h)

/-! poly_Is -/
def poly_Is.A : Ann where
  loops := fun i => match i with
    | 16395 => [(13, .int .i64)]
    | _ => []
  plans := fun i => match i with
    | _ => .stop
def poly_Is.W (p : Int) (lA : Option Addr) (ln lc : Nat) (H : Heap) (R : Value → Heap → Prop) : Prop :=
  CallH P N.field_Is [.int .u64 p] H fun v H_ =>
  ∃ r : Bool, v = .bool r ∧ cond (!r) (R (.int .i64 2) H_)
   (LoopI (σ := Int) (fun κ => κ 0 H_) fun s z H_2 next =>
  cond (decide (s < ((ln : Nat) : Int))) (∃ a : Addr, lA = some a ∧ 0 ≤ s ∧ s < ((ln : Nat) : Int) ∧ ∃ (xA : Option Addr) (xn xc : Nat), cellH H_2 (a.add (Int.toNat s)) = some (.slice xA xn xc) ∧ cond (decide (((xn : Nat) : Int) > 201)) (R (.int .i64 3) H_2)
   (CallH P N.field_Below [.int .u64 p, .slice xA xn xc] H_2 fun v2 H_3 =>
  ∃ r2 : Int, v2 = .int .i64 r2 ∧ cond (r2 != 0) (R (.int .i64 r2) H_3)
   (next (IntKind.i64.wrap (s + 1)) H_3)))
   (R (.int .i64 0) H_2))
theorem poly_Is.ok (p : Int) (lA : Option Addr) (ln lc : Nat) (H : Heap) (R : Value → Heap → Prop) (h : poly_Is.W p lA ln lc H R) : CallH P N.poly_Is ([.int .u64 p, .slice lA ln lc] : List Value) H R := by
  have e : poly_Is.W p lA ln lc H R = sxFn P T Sh.R nf poly_Is.A Try.f125.results.toList (bodyOf Try.f125) (([(.int .u64 p : Value), (.slice lA ln lc : Value)] : List Value) ++ List.replicate (27 - ([(.int .u64 p : Value), (.slice lA ln lc : Value)] : List Value).length) undef) H R := by kernel_rfl
  exact call_of_sx fits bodies mixed Try.func125 (c := bodyOf Try.f125) (by kernel_rfl) Try.ntmps125 poly_Is.A (by kernel_rfl) (e.mp h)

/-! poly_Fit -/
def poly_Fit.A : Ann where
  loops := fun i => match i with
    | 12294 => [(18, .int .i64)]
    | 32777 => [(8, .int .i64)]
    | 45068 => [(9, .int .i64)]
    | 69650 => [(11, .slice), (12, .int .i64)]
    | _ => []
  plans := fun i => match i with
    | 13 => .first 0 (.first 1 (.first 2 (.first 3 (.first 4 (.first 6 (.first 7 (.first 8 (.first 9 (.first 10 (.first 11 (.read 5 (.read 12 (.alt 13 [5, 12] (.first 14 (.done)) (.stop))))))))))))))
    | 14 => .first 0 (.first 1 (.first 2 (.first 3 (.first 4 (.first 5 (.first 6 (.first 8 (.first 9 (.first 10 (.first 11 (.first 14 (.first 15 (.read 7 (.read 12 (.alt 13 [7, 12] (.alt 16 [] (.alt 17 [] (.first 18 (.alt 19 [] (.done) (.stop))) (.stop)) (.stop)) (.stop))))))))))))))))
    | _ => .stop
def poly_Fit.W (p : Int) (lA : Option Addr) (ln lc : Nat) (H : Heap) (R : Value → Heap → Prop) : Prop :=
  0 ≤ ((ln : Nat) : Int) ∧ ((ln : Nat) : Int) ≤ ((ln : Nat) : Int) ∧ ((ln : Nat) : Int) * 8 ≤ 2 ^ 48 ∧ ((ln : Nat) : Int) < 2 ^ 62 ∧ NewH (H.push (.cells (repl (Int.toNat ((ln : Nat) : Int)) [.int .u64 0]).toArray 22 (0, 0))) fun H_ =>
  LoopI (σ := Int) (fun κ => κ 0 H_) fun s z H_2 next =>
  cond (decide (s < ((ln : Nat) : Int))) (∃ a : Addr, lA = some a ∧ 0 ≤ s ∧ s < ((ln : Nat) : Int) ∧ ∃ x0 : Int, ∃ x1 : Int, cellH H_2 (a.add ((Int.toNat s) * 2)) = some (.int .u64 x0) ∧ cellH H_2 ((a.add ((Int.toNat s) * 2)).add 1) = some (.int .u64 x1) ∧ NewH (H_2.push (.cells #[.int .u64 0, .int .u64 0] 103 (0, 0))) fun H_3 =>
  MayWrite H_3 (Addr.mk H_2.size 0 none) 2 ∧ NewH (setH (setH H_3 (Addr.mk H_2.size 0 none) (.int .u64 x0)) (((Addr.mk H_2.size 0 none)).add 1) (.int .u64 x1)) fun H_4 =>
  ∃ x : Int, cellH H_4 (((Addr.mk H_2.size 0 none)).add 1) = some (.int .u64 x) ∧ ∃ a2 : Addr, (some (Addr.mk H.size 0 none) : Option Addr) = some a2 ∧ 0 ≤ s ∧ s < ((Int.toNat ((ln : Nat) : Int) : Nat) : Int) ∧ MayWrite H_4 (a2.add (Int.toNat s)) 1 ∧ NewH (setH H_4 (a2.add (Int.toNat s)) (.int .u64 x)) fun H_5 =>
  next (IntKind.i64.wrap (s + 1)) H_5)
   (LoopI (σ := Int) (fun κ => κ 1 H_2) fun s2 z2 H_6 next2 =>
  cond (decide (s2 < ((ln : Nat) : Int))) (LoopI (σ := Int) (fun κ => κ (IntKind.i64.wrap (((ln : Nat) : Int) - 1)) H_6) fun s3 z3 H_7 next3 =>
  cond (decide (s3 ≥ s2)) (∃ a3 : Addr, lA = some a3 ∧ 0 ≤ s3 ∧ s3 < ((ln : Nat) : Int) ∧ ∃ a4 : Addr, lA = some a4 ∧ 0 ≤ (IntKind.i64.wrap (s3 - s2)) ∧ (IntKind.i64.wrap (s3 - s2)) < ((ln : Nat) : Int) ∧ ∃ x2 : Int, cellH H_7 (a3.add ((Int.toNat s3) * 2)) = some (.int .u64 x2) ∧ ∃ x3 : Int, cellH H_7 (a4.add ((Int.toNat (IntKind.i64.wrap (s3 - s2))) * 2)) = some (.int .u64 x3) ∧ CallH P N.field_Minus [.int .u64 p, .int .u64 x2, .int .u64 x3] H_7 fun v H_8 =>
  ∃ r : Int, v = .int .u64 r ∧ ∃ a5 : Addr, (some (Addr.mk H.size 0 none) : Option Addr) = some a5 ∧ 0 ≤ s3 ∧ s3 < ((Int.toNat ((ln : Nat) : Int) : Nat) : Int) ∧ ∃ a6 : Addr, (some (Addr.mk H.size 0 none) : Option Addr) = some a6 ∧ 0 ≤ (IntKind.i64.wrap (s3 - 1)) ∧ (IntKind.i64.wrap (s3 - 1)) < ((Int.toNat ((ln : Nat) : Int) : Nat) : Int) ∧ ∃ x4 : Int, cellH H_8 (a5.add (Int.toNat s3)) = some (.int .u64 x4) ∧ ∃ x5 : Int, cellH H_8 (a6.add (Int.toNat (IntKind.i64.wrap (s3 - 1)))) = some (.int .u64 x5) ∧ CallH P N.field_Minus [.int .u64 p, .int .u64 x4, .int .u64 x5] H_8 fun v2 H_9 =>
  ∃ r2 : Int, v2 = .int .u64 r2 ∧ CallH P N.field_Over [.int .u64 p, .int .u64 r] H_9 fun v3 H_10 =>
  ∃ r3 : Int, v3 = .int .u64 r3 ∧ CallH P N.field_Times [.int .u64 p, .int .u64 r2, .int .u64 r3] H_10 fun v4 H_11 =>
  ∃ r4 : Int, v4 = .int .u64 r4 ∧ ∃ a7 : Addr, (some (Addr.mk H.size 0 none) : Option Addr) = some a7 ∧ 0 ≤ s3 ∧ s3 < ((Int.toNat ((ln : Nat) : Int) : Nat) : Int) ∧ MayWrite H_11 (a7.add (Int.toNat s3)) 1 ∧ NewH (setH H_11 (a7.add (Int.toNat s3)) (.int .u64 r4)) fun H_12 =>
  next3 (IntKind.i64.wrap (s3 - 1)) H_12)
   (next2 (IntKind.i64.wrap (s2 + 1)) H_7))
   (LoopI (σ := (Option Addr × Nat × Nat) × Int) (fun κ => κ ((none, 0, 0), IntKind.i64.wrap (((ln : Nat) : Int) - 1)) H_6) fun s4 z4 H_13 next4 =>
  cond (decide (s4.2 ≥ 0)) (∃ a8 : Addr, lA = some a8 ∧ 0 ≤ s4.2 ∧ s4.2 < ((ln : Nat) : Int) ∧ ∃ x6 : Int, cellH H_13 (a8.add ((Int.toNat s4.2) * 2)) = some (.int .u64 x6) ∧ CallH P N.field_Minus [.int .u64 p, .int .u64 0, .int .u64 x6] H_13 fun v5 H_14 =>
  ∃ r5 : Int, v5 = .int .u64 r5 ∧ NewH (H_14.push (.cells #[.int .u64 r5, .int .u64 1] 22 (0, 0))) fun H_15 =>
  CallH P N.poly_Times [.int .u64 p, .slice s4.1.1 s4.1.2.1 s4.1.2.2, .slice (some (Addr.mk H_14.size 0 none)) 2 2] H_15 fun v6 H_16 =>
  ∃ (rA : Option Addr) (rn rc : Nat), v6 = .slice rA rn rc ∧ ∃ a9 : Addr, (some (Addr.mk H.size 0 none) : Option Addr) = some a9 ∧ 0 ≤ s4.2 ∧ s4.2 < ((Int.toNat ((ln : Nat) : Int) : Nat) : Int) ∧ ∃ x7 : Int, cellH H_16 (a9.add (Int.toNat s4.2)) = some (.int .u64 x7) ∧ NewH (H_16.push (.cells #[.int .u64 x7] 22 (0, 0))) fun H_17 =>
  CallH P N.poly_Plus [.int .u64 p, .slice rA rn rc, .slice (some (Addr.mk H_16.size 0 none)) 1 1] H_17 fun v7 H_18 =>
  ∃ (rA2 : Option Addr) (rn2 rc2 : Nat), v7 = .slice rA2 rn2 rc2 ∧ next4 ((rA2, rn2, rc2), IntKind.i64.wrap (s4.2 - 1)) H_18)
   (CallH P N.poly_Short [.slice s4.1.1 s4.1.2.1 s4.1.2.2] H_13 fun v8 H_19 =>
  ∃ (rA3 : Option Addr) (rn3 rc3 : Nat), v8 = .slice rA3 rn3 rc3 ∧ R (.slice rA3 rn3 rc3) H_19)))
theorem poly_Fit.ok (p : Int) (lA : Option Addr) (ln lc : Nat) (H : Heap) (R : Value → Heap → Prop) (h : poly_Fit.W p lA ln lc H R) : CallH P N.poly_Fit ([.int .u64 p, .slice lA ln lc] : List Value) H R := by
  have e : poly_Fit.W p lA ln lc H R = sxFn P T Sh.R nf poly_Fit.A Try.f126.results.toList (bodyOf Try.f126) (([(.int .u64 p : Value), (.slice lA ln lc : Value)] : List Value) ++ List.replicate (104 - ([(.int .u64 p : Value), (.slice lA ln lc : Value)] : List Value).length) undef) H R := by kernel_rfl
  exact call_of_sx fits bodies mixed Try.func126 (c := bodyOf Try.f126) (by kernel_rfl) Try.ntmps126 poly_Fit.A (by kernel_rfl) (e.mp h)

/-! poly_Times -/
def poly_Times.A : Ann where
  loops := fun i => match i with
    | 20492 => [(29, .int .i64)]
    | 32779 => [(36, .int .i64)]
    | _ => []
  plans := fun i => match i with
    | 10 => .first 0 (.first 1 (.first 2 (.first 3 (.first 4 (.first 5 (.first 6 (.first 7 (.first 8 (.first 9 (.first 11 (.first 12 (.first 13 (.read 10 (.alt 14 [] (.alt 15 [10] (.first 16 (.alt 17 [] (.done) (.stop))) (.stop)) (.stop)))))))))))))))
    | _ => .stop
def poly_Times.W (p : Int) (fA : Option Addr) (fn fc : Nat) (gA : Option Addr) (gn gc : Nat) (H : Heap) (R : Value → Heap → Prop) : Prop :=
  cond (((fn : Nat) : Int) == 0) (R (.slice none 0 0) H) (cond (((gn : Nat) : Int) == 0) (R (.slice none 0 0) H)
   (0 ≤ (IntKind.i64.wrap ((IntKind.i64.wrap (((fn : Nat) : Int) + ((gn : Nat) : Int))) - 1)) ∧ (IntKind.i64.wrap ((IntKind.i64.wrap (((fn : Nat) : Int) + ((gn : Nat) : Int))) - 1)) ≤ (IntKind.i64.wrap ((IntKind.i64.wrap (((fn : Nat) : Int) + ((gn : Nat) : Int))) - 1)) ∧ (IntKind.i64.wrap ((IntKind.i64.wrap (((fn : Nat) : Int) + ((gn : Nat) : Int))) - 1)) * 8 ≤ 2 ^ 48 ∧ (IntKind.i64.wrap ((IntKind.i64.wrap (((fn : Nat) : Int) + ((gn : Nat) : Int))) - 1)) < 2 ^ 62 ∧ NewH (H.push (.cells (repl (Int.toNat (IntKind.i64.wrap ((IntKind.i64.wrap (((fn : Nat) : Int) + ((gn : Nat) : Int))) - 1))) [.int .u64 0]).toArray 22 (0, 0))) fun H_ =>
  LoopI (σ := Int) (fun κ => κ 0 H_) fun s z H_2 next =>
  cond (decide (s < ((fn : Nat) : Int))) (∃ a : Addr, fA = some a ∧ 0 ≤ s ∧ s < ((fn : Nat) : Int) ∧ ∃ x : Int, cellH H_2 (a.add (Int.toNat s)) = some (.int .u64 x) ∧ LoopI (σ := Int) (fun κ => κ 0 H_2) fun s2 z2 H_3 next2 =>
  cond (decide (s2 < ((gn : Nat) : Int))) (∃ a2 : Addr, gA = some a2 ∧ 0 ≤ s2 ∧ s2 < ((gn : Nat) : Int) ∧ ∃ x2 : Int, cellH H_3 (a2.add (Int.toNat s2)) = some (.int .u64 x2) ∧ ∃ a3 : Addr, (some (Addr.mk H.size 0 none) : Option Addr) = some a3 ∧ 0 ≤ (IntKind.i64.wrap (s + s2)) ∧ (IntKind.i64.wrap (s + s2)) < ((Int.toNat (IntKind.i64.wrap ((IntKind.i64.wrap (((fn : Nat) : Int) + ((gn : Nat) : Int))) - 1)) : Nat) : Int) ∧ ∃ x3 : Int, cellH H_3 (a3.add (Int.toNat (IntKind.i64.wrap (s + s2)))) = some (.int .u64 x3) ∧ CallH P N.field_Times [.int .u64 p, .int .u64 x, .int .u64 x2] H_3 fun v H_4 =>
  ∃ r : Int, v = .int .u64 r ∧ cellH H_4 (a3.add (Int.toNat (IntKind.i64.wrap (s + s2)))) = some (.int .u64 x3) ∧ CallH P N.field_Plus [.int .u64 p, .int .u64 x3, .int .u64 r] H_4 fun v2 H_5 =>
  ∃ r2 : Int, v2 = .int .u64 r2 ∧ ∃ a4 : Addr, (some (Addr.mk H.size 0 none) : Option Addr) = some a4 ∧ 0 ≤ (IntKind.i64.wrap (s + s2)) ∧ (IntKind.i64.wrap (s + s2)) < ((Int.toNat (IntKind.i64.wrap ((IntKind.i64.wrap (((fn : Nat) : Int) + ((gn : Nat) : Int))) - 1)) : Nat) : Int) ∧ MayWrite H_5 (a4.add (Int.toNat (IntKind.i64.wrap (s + s2)))) 1 ∧ NewH (setH H_5 (a4.add (Int.toNat (IntKind.i64.wrap (s + s2)))) (.int .u64 r2)) fun H_6 =>
  next2 (IntKind.i64.wrap (s2 + 1)) H_6)
   (next (IntKind.i64.wrap (s + 1)) H_3))
   (CallH P N.poly_Short [.slice (some (Addr.mk H.size 0 none)) (Int.toNat (IntKind.i64.wrap ((IntKind.i64.wrap (((fn : Nat) : Int) + ((gn : Nat) : Int))) - 1))) (Int.toNat (IntKind.i64.wrap ((IntKind.i64.wrap (((fn : Nat) : Int) + ((gn : Nat) : Int))) - 1)))] H_2 fun v3 H_7 =>
  ∃ (rA : Option Addr) (rn rc : Nat), v3 = .slice rA rn rc ∧ R (.slice rA rn rc) H_7)))
theorem poly_Times.ok (p : Int) (fA : Option Addr) (fn fc : Nat) (gA : Option Addr) (gn gc : Nat) (H : Heap) (R : Value → Heap → Prop) (h : poly_Times.W p fA fn fc gA gn gc H R) : CallH P N.poly_Times ([.int .u64 p, .slice fA fn fc, .slice gA gn gc] : List Value) H R := by
  have e : poly_Times.W p fA fn fc gA gn gc H R = sxFn P T Sh.R nf poly_Times.A Try.f141.results.toList (bodyOf Try.f141) (([(.int .u64 p : Value), (.slice fA fn fc : Value), (.slice gA gn gc : Value)] : List Value) ++ List.replicate (62 - ([(.int .u64 p : Value), (.slice fA fn fc : Value), (.slice gA gn gc : Value)] : List Value).length) undef) H R := by kernel_rfl
  exact call_of_sx fits bodies mixed Try.func141 (c := bodyOf Try.f141) (by kernel_rfl) Try.ntmps141 poly_Times.A (by kernel_rfl) (e.mp h)

/-! poly_Plus -/
def poly_Plus.A : Ann where
  loops := fun i => match i with
    | _ => []
  plans := fun i => match i with
    | _ => .stop
def poly_Plus.W (p : Int) (fA : Option Addr) (fn fc : Nat) (gA : Option Addr) (gn gc : Nat) (H : Heap) (R : Value → Heap → Prop) : Prop :=
  CallH P N.poly_each [.int .u64 p, .slice fA fn fc, .slice gA gn gc, .func (.func 111) #[] #[]] H fun v H_ =>
  ∃ (rA : Option Addr) (rn rc : Nat), v = .slice rA rn rc ∧ R (.slice rA rn rc) H_
theorem poly_Plus.ok (p : Int) (fA : Option Addr) (fn fc : Nat) (gA : Option Addr) (gn gc : Nat) (H : Heap) (R : Value → Heap → Prop) (h : poly_Plus.W p fA fn fc gA gn gc H R) : CallH P N.poly_Plus ([.int .u64 p, .slice fA fn fc, .slice gA gn gc] : List Value) H R := by
  have e : poly_Plus.W p fA fn fc gA gn gc H R = sxFn P T Sh.R nf poly_Plus.A Try.f142.results.toList (bodyOf Try.f142) (([(.int .u64 p : Value), (.slice fA fn fc : Value), (.slice gA gn gc : Value)] : List Value) ++ List.replicate (11 - ([(.int .u64 p : Value), (.slice fA fn fc : Value), (.slice gA gn gc : Value)] : List Value).length) undef) H R := by kernel_rfl
  exact call_of_sx fits bodies mixed Try.func142 (c := bodyOf Try.f142) (by kernel_rfl) Try.ntmps142 poly_Plus.A (by kernel_rfl) (e.mp h)

/-! poly_each -/
def poly_each.A : Ann where
  loops := fun i => match i with
    | 16394 => [(23, .int .i64)]
    | _ => []
  plans := fun i => match i with
    | _ => .stop
def poly_each.W (p : Int) (fA : Option Addr) (fn fc : Nat) (gA : Option Addr) (gn gc : Nat) (dof : Nat) (doa dob : Array Value) (H : Heap) (R : Value → Heap → Prop) : Prop :=
  0 ≤ (if ((gn : Nat) : Int) > ((fn : Nat) : Int) then ((gn : Nat) : Int) else ((fn : Nat) : Int)) ∧ (if ((gn : Nat) : Int) > ((fn : Nat) : Int) then ((gn : Nat) : Int) else ((fn : Nat) : Int)) ≤ (if ((gn : Nat) : Int) > ((fn : Nat) : Int) then ((gn : Nat) : Int) else ((fn : Nat) : Int)) ∧ (if ((gn : Nat) : Int) > ((fn : Nat) : Int) then ((gn : Nat) : Int) else ((fn : Nat) : Int)) * 8 ≤ 2 ^ 48 ∧ (if ((gn : Nat) : Int) > ((fn : Nat) : Int) then ((gn : Nat) : Int) else ((fn : Nat) : Int)) < 2 ^ 62 ∧ NewH (H.push (.cells (repl (Int.toNat (if ((gn : Nat) : Int) > ((fn : Nat) : Int) then ((gn : Nat) : Int) else ((fn : Nat) : Int))) [.int .u64 0]).toArray 22 (0, 0))) fun H_ =>
  CopyV 1 H_ (some (Addr.mk H.size 0 none)) (Int.toNat (if ((gn : Nat) : Int) > ((fn : Nat) : Int) then ((gn : Nat) : Int) else ((fn : Nat) : Int))) fA fn fun m H_2 =>
  LoopI (σ := Int) (fun κ => κ 0 H_2) fun s z H_3 next =>
  cond (decide (s < ((Int.toNat (if ((gn : Nat) : Int) > ((fn : Nat) : Int) then ((gn : Nat) : Int) else ((fn : Nat) : Int)) : Nat) : Int))) (cond (decide (s < ((gn : Nat) : Int))) (∃ a : Addr, gA = some a ∧ 0 ≤ s ∧ s < ((gn : Nat) : Int) ∧ ∃ x : Int, cellH H_3 (a.add (Int.toNat s)) = some (.int .u64 x) ∧ ∃ a2 : Addr, (some (Addr.mk H.size 0 none) : Option Addr) = some a2 ∧ 0 ≤ s ∧ s < ((Int.toNat (if ((gn : Nat) : Int) > ((fn : Nat) : Int) then ((gn : Nat) : Int) else ((fn : Nat) : Int)) : Nat) : Int) ∧ ∃ x2 : Int, cellH H_3 (a2.add (Int.toNat s)) = some (.int .u64 x2) ∧ cond (hasB nf dof) (CallH P dof (doa.toList ++ [.int .u64 p, .int .u64 x2, .int .u64 x] ++ dob.toList) H_3 fun v H_4 =>
  ∃ r : Int, v = .int .u64 r ∧ ∃ a3 : Addr, (some (Addr.mk H.size 0 none) : Option Addr) = some a3 ∧ 0 ≤ s ∧ s < ((Int.toNat (if ((gn : Nat) : Int) > ((fn : Nat) : Int) then ((gn : Nat) : Int) else ((fn : Nat) : Int)) : Nat) : Int) ∧ MayWrite H_4 (a3.add (Int.toNat s)) 1 ∧ NewH (setH H_4 (a3.add (Int.toNat s)) (.int .u64 r)) fun H_5 =>
  next (IntKind.i64.wrap (s + 1)) H_5) False)
   (∃ a4 : Addr, (some (Addr.mk H.size 0 none) : Option Addr) = some a4 ∧ 0 ≤ s ∧ s < ((Int.toNat (if ((gn : Nat) : Int) > ((fn : Nat) : Int) then ((gn : Nat) : Int) else ((fn : Nat) : Int)) : Nat) : Int) ∧ ∃ x3 : Int, cellH H_3 (a4.add (Int.toNat s)) = some (.int .u64 x3) ∧ cond (hasB nf dof) (CallH P dof (doa.toList ++ [.int .u64 p, .int .u64 x3, .int .u64 0] ++ dob.toList) H_3 fun v2 H_6 =>
  ∃ r2 : Int, v2 = .int .u64 r2 ∧ ∃ a5 : Addr, (some (Addr.mk H.size 0 none) : Option Addr) = some a5 ∧ 0 ≤ s ∧ s < ((Int.toNat (if ((gn : Nat) : Int) > ((fn : Nat) : Int) then ((gn : Nat) : Int) else ((fn : Nat) : Int)) : Nat) : Int) ∧ MayWrite H_6 (a5.add (Int.toNat s)) 1 ∧ NewH (setH H_6 (a5.add (Int.toNat s)) (.int .u64 r2)) fun H_7 =>
  next (IntKind.i64.wrap (s + 1)) H_7) False))
   (CallH P N.poly_Short [.slice (some (Addr.mk H.size 0 none)) (Int.toNat (if ((gn : Nat) : Int) > ((fn : Nat) : Int) then ((gn : Nat) : Int) else ((fn : Nat) : Int))) (Int.toNat (if ((gn : Nat) : Int) > ((fn : Nat) : Int) then ((gn : Nat) : Int) else ((fn : Nat) : Int)))] H_3 fun v3 H_8 =>
  ∃ (rA : Option Addr) (rn rc : Nat), v3 = .slice rA rn rc ∧ R (.slice rA rn rc) H_8)
theorem poly_each.ok (p : Int) (fA : Option Addr) (fn fc : Nat) (gA : Option Addr) (gn gc : Nat) (dof : Nat) (doa dob : Array Value) (H : Heap) (R : Value → Heap → Prop) (h : poly_each.W p fA fn fc gA gn gc dof doa dob H R) : CallH P N.poly_each ([.int .u64 p, .slice fA fn fc, .slice gA gn gc, .func (.func dof) doa dob] : List Value) H R := by
  have e : poly_each.W p fA fn fc gA gn gc dof doa dob H R = sxFn P T Sh.R nf poly_each.A Try.f158.results.toList (bodyOf Try.f158) (([(.int .u64 p : Value), (.slice fA fn fc : Value), (.slice gA gn gc : Value), (.func (.func dof) doa dob : Value)] : List Value) ++ List.replicate (48 - ([(.int .u64 p : Value), (.slice fA fn fc : Value), (.slice gA gn gc : Value), (.func (.func dof) doa dob : Value)] : List Value).length) undef) H R := by kernel_rfl
  exact call_of_sx fits bodies mixed Try.func158 (c := bodyOf Try.f158) (by kernel_rfl) Try.ntmps158 poly_each.A (by kernel_rfl) (e.mp h)

end Go.Proofs.Ytlhcaangdenoaaa.Sh
