import Derived.Test.YtlhcaangdenoaaaUTypes
import Derived.Test.YtlhcaangdenoaaaUFnField
namespace Go.Lf
end Go.Lf
namespace Go.Sx
end Go.Sx
set_option linter.unusedVariables false
set_option linter.unusedSimpArgs false
set_option maxRecDepth 100000
namespace Go.Proofs.Ytlhcaangdenoaaa.Sh
open Go.Sx
def poly_Short.A : Ann where
  loops := fun i => match i with
    | 8195 => [(3, .int .i64)]
    | _ => []
  plans := fun i => match i with
    | _ => .stop
def poly_Short.W (fA : Option Addr) (fn fc : Nat) (H : Heap) (R : Value → Heap → Prop) : Prop :=
  LoopI (σ := Int) (fun κ => κ ((fn : Nat) : Int) H) fun s z H_ next =>
  cond (decide (s > 0)) (∃ a : Addr, fA = some a ∧ 0 ≤ (IntKind.i64.wrap (s - 1)) ∧ (IntKind.i64.wrap (s - 1)) < ((fn : Nat) : Int) ∧ ∃ x : Int, cellH H_ (a.add (Int.toNat (IntKind.i64.wrap (s - 1)))) = some (.int .u64 x) ∧ cond (x == 0) (next (IntKind.i64.wrap (s - 1)) H_)
   (0 ≤ s ∧ s ≤ ((fc : Nat) : Int) ∧ CallH P N.slices_Clone_uint64uint64 [.slice fA (Int.toNat s) fc] H_ fun v H_2 =>
  ∃ (rA : Option Addr) (rn rc : Nat), v = .slice rA rn rc ∧ R (.slice rA rn rc) H_2)) (0 ≤ s ∧ s ≤ ((fc : Nat) : Int) ∧ CallH P N.slices_Clone_uint64uint64 [.slice fA (Int.toNat s) fc] H_ fun v2 H_3 =>
  ∃ (rA2 : Option Addr) (rn2 rc2 : Nat), v2 = .slice rA2 rn2 rc2 ∧ R (.slice rA2 rn2 rc2) H_3)
theorem poly_Short.ok (fA : Option Addr) (fn fc : Nat) (H : Heap) (R : Value → Heap → Prop) (h : poly_Short.W fA fn fc H R) : CallH P N.poly_Short ([.slice fA fn fc] : List Value) H R := by
  have e : poly_Short.W fA fn fc H R = sxFn P T Sh.R nf poly_Short.A Try.f103.results.toList (bodyOf Try.f103) (([(.slice fA fn fc : Value)] : List Value) ++ List.replicate (22 - ([(.slice fA fn fc : Value)] : List Value).length) undef) H R := by kernel_rfl
  exact call_of_sx fits bodies mixed Try.func103 (c := bodyOf Try.f103) (by kernel_rfl) Try.ntmps103 poly_Short.A (by kernel_rfl) (e.mp h)
def poly_Is.A : Ann where
  loops := fun i => match i with
    | 16395 => [(13, .int .i64)]
    | _ => []
  plans := fun i => match i with
    | _ => .stop
def poly_Is.W (p : Int) (lA : Option Addr) (ln lc : Nat) (H : Heap) (R : Value → Heap → Prop) : Prop :=
  CallH P N.field_Is [.int .u64 p] H fun v H_ =>
  ∃ r : Bool, v = .bool r ∧ cond (!r) (R (.int .i64 2) H_)
   (LoopI (σ := Int) (fun κ => κ 0 H_) fun s z H_2 next =>
  cond (decide (s < ((ln : Nat) : Int))) (∃ a : Addr, lA = some a ∧ 0 ≤ s ∧ s < ((ln : Nat) : Int) ∧ ∃ (xA : Option Addr) (xn xc : Nat), cellH H_2 (a.add (Int.toNat s)) = some (.slice xA xn xc) ∧ cond (decide (((xn : Nat) : Int) > 201)) (R (.int .i64 3) H_2)
   (CallH P N.field_Below [.int .u64 p, .slice xA xn xc] H_2 fun v2 H_3 =>
  ∃ r2 : Int, v2 = .int .i64 r2 ∧ cond (r2 != 0) (R (.int .i64 r2) H_3)
   (next (IntKind.i64.wrap (s + 1)) H_3)))
   (R (.int .i64 0) H_2))
theorem poly_Is.ok (p : Int) (lA : Option Addr) (ln lc : Nat) (H : Heap) (R : Value → Heap → Prop) (h : poly_Is.W p lA ln lc H R) : CallH P N.poly_Is ([.int .u64 p, .slice lA ln lc] : List Value) H R := by
  have e : poly_Is.W p lA ln lc H R = sxFn P T Sh.R nf poly_Is.A Try.f125.results.toList (bodyOf Try.f125) (([(.int .u64 p : Value), (.slice lA ln lc : Value)] : List Value) ++ List.replicate (27 - ([(.int .u64 p : Value), (.slice lA ln lc : Value)] : List Value).length) undef) H R := by kernel_rfl
  exact call_of_sx fits bodies mixed Try.func125 (c := bodyOf Try.f125) (by kernel_rfl) Try.ntmps125 poly_Is.A (by kernel_rfl) (e.mp h)
def poly_Fit.A : Ann where
  loops := fun i => match i with
    | 12294 => [(18, .int .i64)]
    | 32777 => [(8, .int .i64)]
    | 45068 => [(9, .int .i64)]
    | 69650 => [(11, .slice), (12, .int .i64)]
    | _ => []
  plans := fun i => match i with
    | 13 => .first 0 (.first 1 (.first 2 (.first 3 (.first 4 (.first 6 (.first 7 (.first 8 (.first 9 (.first 10 (.first 11 (.read 5 (.read 12 (.alt 13 [5, 12] (.first 14 (.done)) (.stop))))))))))))))
    | 14 => .first 0 (.first 1 (.first 2 (.first 3 (.first 4 (.first 5 (.first 6 (.first 8 (.first 9 (.first 10 (.first 11 (.first 14 (.first 15 (.read 7 (.read 12 (.alt 13 [7, 12] (.alt 16 [] (.alt 17 [] (.first 18 (.alt 19 [] (.done) (.stop))) (.stop)) (.stop)) (.stop))))))))))))))))
    | _ => .stop
def poly_Fit.W (p : Int) (lA : Option Addr) (ln lc : Nat) (H : Heap) (R : Value → Heap → Prop) : Prop :=
  0 ≤ ((ln : Nat) : Int) ∧ ((ln : Nat) : Int) ≤ ((ln : Nat) : Int) ∧ ((ln : Nat) : Int) * 8 ≤ 2 ^ 48 ∧ ((ln : Nat) : Int) < 2 ^ 62 ∧ NewH (H.push (.cells (repl (Int.toNat ((ln : Nat) : Int)) [.int .u64 0]).toArray 22 (0, 0))) fun H_ =>
  LoopI (σ := Int) (fun κ => κ 0 H_) fun s z H_2 next =>
  cond (decide (s < ((ln : Nat) : Int))) (∃ a : Addr, lA = some a ∧ 0 ≤ s ∧ s < ((ln : Nat) : Int) ∧ ∃ x0 : Int, ∃ x1 : Int, cellH H_2 (a.add ((Int.toNat s) * 2)) = some (.int .u64 x0) ∧ cellH H_2 ((a.add ((Int.toNat s) * 2)).add 1) = some (.int .u64 x1) ∧ NewH (H_2.push (.cells #[.int .u64 0, .int .u64 0] 103 (0, 0))) fun H_3 =>
  MayWrite H_3 (Addr.mk H_2.size 0 none) 2 ∧ NewH (setH (setH H_3 (Addr.mk H_2.size 0 none) (.int .u64 x0)) (((Addr.mk H_2.size 0 none)).add 1) (.int .u64 x1)) fun H_4 =>
  ∃ x : Int, cellH H_4 (((Addr.mk H_2.size 0 none)).add 1) = some (.int .u64 x) ∧ ∃ a2 : Addr, (some (Addr.mk H.size 0 none) : Option Addr) = some a2 ∧ 0 ≤ s ∧ s < ((Int.toNat ((ln : Nat) : Int) : Nat) : Int) ∧ MayWrite H_4 (a2.add (Int.toNat s)) 1 ∧ NewH (setH H_4 (a2.add (Int.toNat s)) (.int .u64 x)) fun H_5 =>
  next (IntKind.i64.wrap (s + 1)) H_5)
   (LoopI (σ := Int) (fun κ => κ 1 H_2) fun s2 z2 H_6 next2 =>
  cond (decide (s2 < ((ln : Nat) : Int))) (LoopI (σ := Int) (fun κ => κ (IntKind.i64.wrap (((ln : Nat) : Int) - 1)) H_6) fun s3 z3 H_7 next3 =>
  cond (decide (s3 ≥ s2)) (∃ a3 : Addr, lA = some a3 ∧ 0 ≤ s3 ∧ s3 < ((ln : Nat) : Int) ∧ ∃ a4 : Addr, lA = some a4 ∧ 0 ≤ (IntKind.i64.wrap (s3 - s2)) ∧ (IntKind.i64.wrap (s3 - s2)) < ((ln : Nat) : Int) ∧ ∃ x2 : Int, cellH H_7 (a3.add ((Int.toNat s3) * 2)) = some (.int .u64 x2) ∧ ∃ x3 : Int, cellH H_7 (a4.add ((Int.toNat (IntKind.i64.wrap (s3 - s2))) * 2)) = some (.int .u64 x3) ∧ CallH P N.field_Minus [.int .u64 p, .int .u64 x2, .int .u64 x3] H_7 fun v H_8 =>
  ∃ r : Int, v = .int .u64 r ∧ ∃ a5 : Addr, (some (Addr.mk H.size 0 none) : Option Addr) = some a5 ∧ 0 ≤ s3 ∧ s3 < ((Int.toNat ((ln : Nat) : Int) : Nat) : Int) ∧ ∃ a6 : Addr, (some (Addr.mk H.size 0 none) : Option Addr) = some a6 ∧ 0 ≤ (IntKind.i64.wrap (s3 - 1)) ∧ (IntKind.i64.wrap (s3 - 1)) < ((Int.toNat ((ln : Nat) : Int) : Nat) : Int) ∧ ∃ x4 : Int, cellH H_8 (a5.add (Int.toNat s3)) = some (.int .u64 x4) ∧ ∃ x5 : Int, cellH H_8 (a6.add (Int.toNat (IntKind.i64.wrap (s3 - 1)))) = some (.int .u64 x5) ∧ CallH P N.field_Minus [.int .u64 p, .int .u64 x4, .int .u64 x5] H_8 fun v2 H_9 =>
  ∃ r2 : Int, v2 = .int .u64 r2 ∧ CallH P N.field_Over [.int .u64 p, .int .u64 r] H_9 fun v3 H_10 =>
  ∃ r3 : Int, v3 = .int .u64 r3 ∧ CallH P N.field_Times [.int .u64 p, .int .u64 r2, .int .u64 r3] H_10 fun v4 H_11 =>
  ∃ r4 : Int, v4 = .int .u64 r4 ∧ ∃ a7 : Addr, (some (Addr.mk H.size 0 none) : Option Addr) = some a7 ∧ 0 ≤ s3 ∧ s3 < ((Int.toNat ((ln : Nat) : Int) : Nat) : Int) ∧ MayWrite H_11 (a7.add (Int.toNat s3)) 1 ∧ NewH (setH H_11 (a7.add (Int.toNat s3)) (.int .u64 r4)) fun H_12 =>
  next3 (IntKind.i64.wrap (s3 - 1)) H_12)
   (next2 (IntKind.i64.wrap (s2 + 1)) H_7))
   (LoopI (σ := (Option Addr × Nat × Nat) × Int) (fun κ => κ ((none, 0, 0), IntKind.i64.wrap (((ln : Nat) : Int) - 1)) H_6) fun s4 z4 H_13 next4 =>
  cond (decide (s4.2 ≥ 0)) (∃ a8 : Addr, lA = some a8 ∧ 0 ≤ s4.2 ∧ s4.2 < ((ln : Nat) : Int) ∧ ∃ x6 : Int, cellH H_13 (a8.add ((Int.toNat s4.2) * 2)) = some (.int .u64 x6) ∧ CallH P N.field_Minus [.int .u64 p, .int .u64 0, .int .u64 x6] H_13 fun v5 H_14 =>
  ∃ r5 : Int, v5 = .int .u64 r5 ∧ NewH (H_14.push (.cells #[.int .u64 r5, .int .u64 1] 22 (0, 0))) fun H_15 =>
  CallH P N.poly_Times [.int .u64 p, .slice s4.1.1 s4.1.2.1 s4.1.2.2, .slice (some (Addr.mk H_14.size 0 none)) 2 2] H_15 fun v6 H_16 =>
  ∃ (rA : Option Addr) (rn rc : Nat), v6 = .slice rA rn rc ∧ ∃ a9 : Addr, (some (Addr.mk H.size 0 none) : Option Addr) = some a9 ∧ 0 ≤ s4.2 ∧ s4.2 < ((Int.toNat ((ln : Nat) : Int) : Nat) : Int) ∧ ∃ x7 : Int, cellH H_16 (a9.add (Int.toNat s4.2)) = some (.int .u64 x7) ∧ NewH (H_16.push (.cells #[.int .u64 x7] 22 (0, 0))) fun H_17 =>
  CallH P N.poly_Plus [.int .u64 p, .slice rA rn rc, .slice (some (Addr.mk H_16.size 0 none)) 1 1] H_17 fun v7 H_18 =>
  ∃ (rA2 : Option Addr) (rn2 rc2 : Nat), v7 = .slice rA2 rn2 rc2 ∧ next4 ((rA2, rn2, rc2), IntKind.i64.wrap (s4.2 - 1)) H_18)
   (CallH P N.poly_Short [.slice s4.1.1 s4.1.2.1 s4.1.2.2] H_13 fun v8 H_19 =>
  ∃ (rA3 : Option Addr) (rn3 rc3 : Nat), v8 = .slice rA3 rn3 rc3 ∧ R (.slice rA3 rn3 rc3) H_19)))
theorem poly_Fit.ok (p : Int) (lA : Option Addr) (ln lc : Nat) (H : Heap) (R : Value → Heap → Prop) (h : poly_Fit.W p lA ln lc H R) : CallH P N.poly_Fit ([.int .u64 p, .slice lA ln lc] : List Value) H R := by
  have e : poly_Fit.W p lA ln lc H R = sxFn P T Sh.R nf poly_Fit.A Try.f126.results.toList (bodyOf Try.f126) (([(.int .u64 p : Value), (.slice lA ln lc : Value)] : List Value) ++ List.replicate (104 - ([(.int .u64 p : Value), (.slice lA ln lc : Value)] : List Value).length) undef) H R := by kernel_rfl
  exact call_of_sx fits bodies mixed Try.func126 (c := bodyOf Try.f126) (by kernel_rfl) Try.ntmps126 poly_Fit.A (by kernel_rfl) (e.mp h)
def poly_Times.A : Ann where
  loops := fun i => match i with
    | 20492 => [(29, .int .i64)]
    | 32779 => [(36, .int .i64)]
    | _ => []
  plans := fun i => match i with
    | 10 => .first 0 (.first 1 (.first 2 (.first 3 (.first 4 (.first 5 (.first 6 (.first 7 (.first 8 (.first 9 (.first 11 (.first 12 (.first 13 (.read 10 (.alt 14 [] (.alt 15 [10] (.first 16 (.alt 17 [] (.done) (.stop))) (.stop)) (.stop)))))))))))))))
    | _ => .stop
def poly_Times.W (p : Int) (fA : Option Addr) (fn fc : Nat) (gA : Option Addr) (gn gc : Nat) (H : Heap) (R : Value → Heap → Prop) : Prop :=
  cond (((fn : Nat) : Int) == 0) (R (.slice none 0 0) H) (cond (((gn : Nat) : Int) == 0) (R (.slice none 0 0) H)
   (0 ≤ (IntKind.i64.wrap ((IntKind.i64.wrap (((fn : Nat) : Int) + ((gn : Nat) : Int))) - 1)) ∧ (IntKind.i64.wrap ((IntKind.i64.wrap (((fn : Nat) : Int) + ((gn : Nat) : Int))) - 1)) ≤ (IntKind.i64.wrap ((IntKind.i64.wrap (((fn : Nat) : Int) + ((gn : Nat) : Int))) - 1)) ∧ (IntKind.i64.wrap ((IntKind.i64.wrap (((fn : Nat) : Int) + ((gn : Nat) : Int))) - 1)) * 8 ≤ 2 ^ 48 ∧ (IntKind.i64.wrap ((IntKind.i64.wrap (((fn : Nat) : Int) + ((gn : Nat) : Int))) - 1)) < 2 ^ 62 ∧ NewH (H.push (.cells (repl (Int.toNat (IntKind.i64.wrap ((IntKind.i64.wrap (((fn : Nat) : Int) + ((gn : Nat) : Int))) - 1))) [.int .u64 0]).toArray 22 (0, 0))) fun H_ =>
  LoopI (σ := Int) (fun κ => κ 0 H_) fun s z H_2 next =>
  cond (decide (s < ((fn : Nat) : Int))) (∃ a : Addr, fA = some a ∧ 0 ≤ s ∧ s < ((fn : Nat) : Int) ∧ ∃ x : Int, cellH H_2 (a.add (Int.toNat s)) = some (.int .u64 x) ∧ LoopI (σ := Int) (fun κ => κ 0 H_2) fun s2 z2 H_3 next2 =>
  cond (decide (s2 < ((gn : Nat) : Int))) (∃ a2 : Addr, gA = some a2 ∧ 0 ≤ s2 ∧ s2 < ((gn : Nat) : Int) ∧ ∃ x2 : Int, cellH H_3 (a2.add (Int.toNat s2)) = some (.int .u64 x2) ∧ ∃ a3 : Addr, (some (Addr.mk H.size 0 none) : Option Addr) = some a3 ∧ 0 ≤ (IntKind.i64.wrap (s + s2)) ∧ (IntKind.i64.wrap (s + s2)) < ((Int.toNat (IntKind.i64.wrap ((IntKind.i64.wrap (((fn : Nat) : Int) + ((gn : Nat) : Int))) - 1)) : Nat) : Int) ∧ ∃ x3 : Int, cellH H_3 (a3.add (Int.toNat (IntKind.i64.wrap (s + s2)))) = some (.int .u64 x3) ∧ CallH P N.field_Times [.int .u64 p, .int .u64 x, .int .u64 x2] H_3 fun v H_4 =>
  ∃ r : Int, v = .int .u64 r ∧ cellH H_4 (a3.add (Int.toNat (IntKind.i64.wrap (s + s2)))) = some (.int .u64 x3) ∧ CallH P N.field_Plus [.int .u64 p, .int .u64 x3, .int .u64 r] H_4 fun v2 H_5 =>
  ∃ r2 : Int, v2 = .int .u64 r2 ∧ ∃ a4 : Addr, (some (Addr.mk H.size 0 none) : Option Addr) = some a4 ∧ 0 ≤ (IntKind.i64.wrap (s + s2)) ∧ (IntKind.i64.wrap (s + s2)) < ((Int.toNat (IntKind.i64.wrap ((IntKind.i64.wrap (((fn : Nat) : Int) + ((gn : Nat) : Int))) - 1)) : Nat) : Int) ∧ MayWrite H_5 (a4.add (Int.toNat (IntKind.i64.wrap (s + s2)))) 1 ∧ NewH (setH H_5 (a4.add (Int.toNat (IntKind.i64.wrap (s + s2)))) (.int .u64 r2)) fun H_6 =>
  next2 (IntKind.i64.wrap (s2 + 1)) H_6)
   (next (IntKind.i64.wrap (s + 1)) H_3))
   (CallH P N.poly_Short [.slice (some (Addr.mk H.size 0 none)) (Int.toNat (IntKind.i64.wrap ((IntKind.i64.wrap (((fn : Nat) : Int) + ((gn : Nat) : Int))) - 1))) (Int.toNat (IntKind.i64.wrap ((IntKind.i64.wrap (((fn : Nat) : Int) + ((gn : Nat) : Int))) - 1)))] H_2 fun v3 H_7 =>
  ∃ (rA : Option Addr) (rn rc : Nat), v3 = .slice rA rn rc ∧ R (.slice rA rn rc) H_7)))
theorem poly_Times.ok (p : Int) (fA : Option Addr) (fn fc : Nat) (gA : Option Addr) (gn gc : Nat) (H : Heap) (R : Value → Heap → Prop) (h : poly_Times.W p fA fn fc gA gn gc H R) : CallH P N.poly_Times ([.int .u64 p, .slice fA fn fc, .slice gA gn gc] : List Value) H R := by
  have e : poly_Times.W p fA fn fc gA gn gc H R = sxFn P T Sh.R nf poly_Times.A Try.f141.results.toList (bodyOf Try.f141) (([(.int .u64 p : Value), (.slice fA fn fc : Value), (.slice gA gn gc : Value)] : List Value) ++ List.replicate (62 - ([(.int .u64 p : Value), (.slice fA fn fc : Value), (.slice gA gn gc : Value)] : List Value).length) undef) H R := by kernel_rfl
  exact call_of_sx fits bodies mixed Try.func141 (c := bodyOf Try.f141) (by kernel_rfl) Try.ntmps141 poly_Times.A (by kernel_rfl) (e.mp h)
def poly_Plus.A : Ann where
  loops := fun i => match i with
    | _ => []
  plans := fun i => match i with
    | _ => .stop
def poly_Plus.W (p : Int) (fA : Option Addr) (fn fc : Nat) (gA : Option Addr) (gn gc : Nat) (H : Heap) (R : Value → Heap → Prop) : Prop :=
  CallH P N.poly_each [.int .u64 p, .slice fA fn fc, .slice gA gn gc, .func (.func 111) #[] #[]] H fun v H_ =>
  ∃ (rA : Option Addr) (rn rc : Nat), v = .slice rA rn rc ∧ R (.slice rA rn rc) H_
theorem poly_Plus.ok (p : Int) (fA : Option Addr) (fn fc : Nat) (gA : Option Addr) (gn gc : Nat) (H : Heap) (R : Value → Heap → Prop) (h : poly_Plus.W p fA fn fc gA gn gc H R) : CallH P N.poly_Plus ([.int .u64 p, .slice fA fn fc, .slice gA gn gc] : List Value) H R := by
  have e : poly_Plus.W p fA fn fc gA gn gc H R = sxFn P T Sh.R nf poly_Plus.A Try.f142.results.toList (bodyOf Try.f142) (([(.int .u64 p : Value), (.slice fA fn fc : Value), (.slice gA gn gc : Value)] : List Value) ++ List.replicate (11 - ([(.int .u64 p : Value), (.slice fA fn fc : Value), (.slice gA gn gc : Value)] : List Value).length) undef) H R := by kernel_rfl
  exact call_of_sx fits bodies mixed Try.func142 (c := bodyOf Try.f142) (by kernel_rfl) Try.ntmps142 poly_Plus.A (by kernel_rfl) (e.mp h)
def poly_each.A : Ann where
  loops := fun i => match i with
    | 16394 => [(23, .int .i64)]
    | _ => []
  plans := fun i => match i with
    | _ => .stop
def poly_each.W (p : Int) (fA : Option Addr) (fn fc : Nat) (gA : Option Addr) (gn gc : Nat) (dof : Nat) (doa dob : Array Value) (H : Heap) (R : Value → Heap → Prop) : Prop :=
  0 ≤ (if ((gn : Nat) : Int) > ((fn : Nat) : Int) then ((gn : Nat) : Int) else ((fn : Nat) : Int)) ∧ (if ((gn : Nat) : Int) > ((fn : Nat) : Int) then ((gn : Nat) : Int) else ((fn : Nat) : Int)) ≤ (if ((gn : Nat) : Int) > ((fn : Nat) : Int) then ((gn : Nat) : Int) else ((fn : Nat) : Int)) ∧ (if ((gn : Nat) : Int) > ((fn : Nat) : Int) then ((gn : Nat) : Int) else ((fn : Nat) : Int)) * 8 ≤ 2 ^ 48 ∧ (if ((gn : Nat) : Int) > ((fn : Nat) : Int) then ((gn : Nat) : Int) else ((fn : Nat) : Int)) < 2 ^ 62 ∧ NewH (H.push (.cells (repl (Int.toNat (if ((gn : Nat) : Int) > ((fn : Nat) : Int) then ((gn : Nat) : Int) else ((fn : Nat) : Int))) [.int .u64 0]).toArray 22 (0, 0))) fun H_ =>
  CopyV 1 H_ (some (Addr.mk H.size 0 none)) (Int.toNat (if ((gn : Nat) : Int) > ((fn : Nat) : Int) then ((gn : Nat) : Int) else ((fn : Nat) : Int))) fA fn fun m H_2 =>
  LoopI (σ := Int) (fun κ => κ 0 H_2) fun s z H_3 next =>
  cond (decide (s < ((Int.toNat (if ((gn : Nat) : Int) > ((fn : Nat) : Int) then ((gn : Nat) : Int) else ((fn : Nat) : Int)) : Nat) : Int))) (cond (decide (s < ((gn : Nat) : Int))) (∃ a : Addr, gA = some a ∧ 0 ≤ s ∧ s < ((gn : Nat) : Int) ∧ ∃ x : Int, cellH H_3 (a.add (Int.toNat s)) = some (.int .u64 x) ∧ ∃ a2 : Addr, (some (Addr.mk H.size 0 none) : Option Addr) = some a2 ∧ 0 ≤ s ∧ s < ((Int.toNat (if ((gn : Nat) : Int) > ((fn : Nat) : Int) then ((gn : Nat) : Int) else ((fn : Nat) : Int)) : Nat) : Int) ∧ ∃ x2 : Int, cellH H_3 (a2.add (Int.toNat s)) = some (.int .u64 x2) ∧ cond (hasB nf dof) (CallH P dof (doa.toList ++ [.int .u64 p, .int .u64 x2, .int .u64 x] ++ dob.toList) H_3 fun v H_4 =>
  ∃ r : Int, v = .int .u64 r ∧ ∃ a3 : Addr, (some (Addr.mk H.size 0 none) : Option Addr) = some a3 ∧ 0 ≤ s ∧ s < ((Int.toNat (if ((gn : Nat) : Int) > ((fn : Nat) : Int) then ((gn : Nat) : Int) else ((fn : Nat) : Int)) : Nat) : Int) ∧ MayWrite H_4 (a3.add (Int.toNat s)) 1 ∧ NewH (setH H_4 (a3.add (Int.toNat s)) (.int .u64 r)) fun H_5 =>
  next (IntKind.i64.wrap (s + 1)) H_5) False)
   (∃ a4 : Addr, (some (Addr.mk H.size 0 none) : Option Addr) = some a4 ∧ 0 ≤ s ∧ s < ((Int.toNat (if ((gn : Nat) : Int) > ((fn : Nat) : Int) then ((gn : Nat) : Int) else ((fn : Nat) : Int)) : Nat) : Int) ∧ ∃ x3 : Int, cellH H_3 (a4.add (Int.toNat s)) = some (.int .u64 x3) ∧ cond (hasB nf dof) (CallH P dof (doa.toList ++ [.int .u64 p, .int .u64 x3, .int .u64 0] ++ dob.toList) H_3 fun v2 H_6 =>
  ∃ r2 : Int, v2 = .int .u64 r2 ∧ ∃ a5 : Addr, (some (Addr.mk H.size 0 none) : Option Addr) = some a5 ∧ 0 ≤ s ∧ s < ((Int.toNat (if ((gn : Nat) : Int) > ((fn : Nat) : Int) then ((gn : Nat) : Int) else ((fn : Nat) : Int)) : Nat) : Int) ∧ MayWrite H_6 (a5.add (Int.toNat s)) 1 ∧ NewH (setH H_6 (a5.add (Int.toNat s)) (.int .u64 r2)) fun H_7 =>
  next (IntKind.i64.wrap (s + 1)) H_7) False))
   (CallH P N.poly_Short [.slice (some (Addr.mk H.size 0 none)) (Int.toNat (if ((gn : Nat) : Int) > ((fn : Nat) : Int) then ((gn : Nat) : Int) else ((fn : Nat) : Int))) (Int.toNat (if ((gn : Nat) : Int) > ((fn : Nat) : Int) then ((gn : Nat) : Int) else ((fn : Nat) : Int)))] H_3 fun v3 H_8 =>
  ∃ (rA : Option Addr) (rn rc : Nat), v3 = .slice rA rn rc ∧ R (.slice rA rn rc) H_8)
theorem poly_each.ok (p : Int) (fA : Option Addr) (fn fc : Nat) (gA : Option Addr) (gn gc : Nat) (dof : Nat) (doa dob : Array Value) (H : Heap) (R : Value → Heap → Prop) (h : poly_each.W p fA fn fc gA gn gc dof doa dob H R) : CallH P N.poly_each ([.int .u64 p, .slice fA fn fc, .slice gA gn gc, .func (.func dof) doa dob] : List Value) H R := by
  have e : poly_each.W p fA fn fc gA gn gc dof doa dob H R = sxFn P T Sh.R nf poly_each.A Try.f158.results.toList (bodyOf Try.f158) (([(.int .u64 p : Value), (.slice fA fn fc : Value), (.slice gA gn gc : Value), (.func (.func dof) doa dob : Value)] : List Value) ++ List.replicate (48 - ([(.int .u64 p : Value), (.slice fA fn fc : Value), (.slice gA gn gc : Value), (.func (.func dof) doa dob : Value)] : List Value).length) undef) H R := by kernel_rfl
  exact call_of_sx fits bodies mixed Try.func158 (c := bodyOf Try.f158) (by kernel_rfl) Try.ntmps158 poly_each.A (by kernel_rfl) (e.mp h)
end Go.Proofs.Ytlhcaangdenoaaa.Sh
namespace Go.Proofs.Ytlhcaangdenoaaa.Sh
open Go.Sx Go.Lf
def poly_Short.C (f : (List Nat)) (K : (List Nat) → Prop) : Prop :=
  ∀ (Z : Nat → Prop) (H : Heap), ∀ (fA : Option Addr) (fn fc : Nat), fn = f.length → SlF u64L Z H fA fc f → ∀ KK : Value → Heap → Prop,
    (∀ (Z' : Nat → Prop) (H' : Heap), Ext H H' → Old Z H Z' → ∀ (r0 : (List Nat)), ∀ (Y0 : Nat → Prop), (∀ i, Y0 i → H.size ≤ i ∧ ¬ Z' i) → ∀ (Ar0_0 : Option Addr) (nr0_0 cr0_0 : Nat), nr0_0 = r0.length → SlO (rdM u64L) 22 Z' Y0 H' Ar0_0 cr0_0 r0 → K r0 → KK (.slice Ar0_0 nr0_0 cr0_0) H') →
    CallH P N.poly_Short [.slice fA fn fc] H KK
def poly_Short.Q (f : (List Nat)) (K : (List Nat) → Prop) : Prop :=
  LoopQ (τ := Int) ((f.length : Nat) : Int) fun t nextQ =>
  cond (decide (t > 0)) (0 ≤ (IntKind.i64.wrap (t - 1)) ∧ ∃ x : Nat, f[Int.toNat (IntKind.i64.wrap (t - 1))]? = some x ∧ cond ((x : Int) == 0) (nextQ (IntKind.i64.wrap (t - 1)))
   (0 ≤ t ∧ t ≤ ((f.length : Nat) : Int) ∧ slices_Clone_uint64uint64.C (List.take (Int.toNat t) f) (fun (x2 : (List Nat)) =>
  K x2)))
   (0 ≤ t ∧ t ≤ ((f.length : Nat) : Int) ∧ slices_Clone_uint64uint64.C (List.take (Int.toNat t) f) (fun (x3 : (List Nat)) =>
  K x3))
theorem poly_Short.q {f : (List Nat)} {K : (List Nat) → Prop} (q : poly_Short.Q f K) : poly_Short.C f K := by
  intro Z H fA fn fc hn f2 KK hk
  cases hn
  apply poly_Short.ok
  unfold poly_Short.W
  unfold poly_Short.Q at q
  obtain ⟨σ, hz, hσ⟩ := tags Z
  have hs : Stp ([1, 2] : List Nat) σ H σ H := Stp.refl _ _ _
  replace f2 := f2.wide hz
  clear hz
  refine LoopI.ofQ q (fun t_ s_ hp_ => ∃ (σ_ : Nat → Nat), Stp [] σ H σ_ hp_ ∧ t_ = s_) (fun h k => h _ _ k) ⟨_, Stp.refl _ _ _, rfl⟩ ?_
  rintro t _ _ H_ next nextQ ⟨xσ, st, rfl⟩ q hnext
  try dsimp only at q ⊢
  replace f2 := f2.step st
  replace hs := hs.trans st
  have sl0 := st
  refine condI (fun q => ?_) (fun q => ?_) q
  · obtain ⟨h0, x, hx, q⟩ := q
    obtain ⟨a, ha, hi⟩ := f2.addr h0 hx rfl
    refine ⟨a, ha, hi.1, hi.2, ?_⟩
    have hc := f2.ldu ha h0 hx
    refine ⟨_, hc.val, ?_⟩
    refine condI (fun q => ?_) (fun q => ?_) q
    · exact hnext (IntKind.i64.wrap (t - 1)) _ _ ⟨_, sl0, rfl⟩ q
    · obtain ⟨q2, q3, q⟩ := q
      have f3 := f2.upto (u := Int.toNat t) (upto_le rfl q3)
      refine ⟨q2, cap_le rfl f2.cap q3, ?_⟩
      refine q (Zt xσ) H_ _ _ _ (take_len rfl q3) f3 _ (fun Z2 H_2 hE hO x2 Y hY A n c hn2 f4 q => ?_)
      obtain ⟨xσ2, st2, fz, fy⟩ := call1 hE hO xσ 1 (fun _ h => h) hY
      replace f4 := f4.keep fz fy
      cases hn2
      replace f2 := f2.step st2
      replace hc := hc.step st2
      replace f3 := f3.step st2
      replace hs := hs.trans st2
      refine ⟨_, _, _, rfl, ?_⟩
      exact hk (Zt xσ2) _ (hs.ext hσ) (hs.old hσ) _ (Yt xσ2 1) (hs.fresh hσ) _ _ _ rfl f4 q
  · obtain ⟨q4, q5, q⟩ := q
    have f5 := f2.upto (u := Int.toNat t) (upto_le rfl q5)
    refine ⟨q4, cap_le rfl f2.cap q5, ?_⟩
    refine q (Zt xσ) H_ _ _ _ (take_len rfl q5) f5 _ (fun Z3 H_3 hE2 hO2 x3 Y2 hY2 A2 n2 c2 hn3 f6 q => ?_)
    obtain ⟨xσ3, st3, fz2, fy2⟩ := call1 hE2 hO2 xσ 2 (fun _ h => h) hY2
    replace f6 := f6.keep fz2 fy2
    cases hn3
    replace f2 := f2.step st3
    replace f5 := f5.step st3
    replace hs := hs.trans st3
    refine ⟨_, _, _, rfl, ?_⟩
    exact hk (Zt xσ3) _ (hs.ext hσ) (hs.old hσ) _ (Yt xσ3 2) (hs.fresh hσ) _ _ _ rfl f6 q
def poly_Is.C (p : Nat) (l : (List (List Nat))) (K : Int → Prop) : Prop :=
  ∀ (Z : Nat → Prop) (H : Heap), ∀ (pv : Int), pv = (p : Int) → ∀ (lA : Option Addr) (ln lc : Nat), ln = l.length → SlF (slL u64L) Z H lA lc l → ∀ KK : Value → Heap → Prop,
    (∀ (Z' : Nat → Prop) (H' : Heap), Ext H H' → Old Z H Z' → ∀ (r0 : Int), K r0 → KK (.int .i64 r0) H') →
    CallH P N.poly_Is [.int .u64 pv, .slice lA ln lc] H KK
def poly_Is.Q (p : Nat) (l : (List (List Nat))) (K : Int → Prop) : Prop :=
  field_Is.C p (fun (x : Bool) =>
  cond (!x) (K 2)
   (LoopQ (τ := Int) 0 fun t nextQ =>
  cond (decide (t < ((l.length : Nat) : Int))) (0 ≤ t ∧ ∃ x2 : (List Nat), l[Int.toNat t]? = some x2 ∧ cond (decide (((x2.length : Nat) : Int) > 201)) (K 3)
   (field_Below.C p x2 (fun (x3 : Int) =>
  cond (x3 != 0) (K x3)
   (nextQ (IntKind.i64.wrap (t + 1))))))
   (K 0)))
theorem poly_Is.q {p : Nat} {l : (List (List Nat))} {K : Int → Prop} (q : poly_Is.Q p l K) : poly_Is.C p l K := by
  intro Z H pv he lA ln lc hn f KK hk
  cases he
  cases hn
  apply poly_Is.ok
  unfold poly_Is.W
  unfold poly_Is.Q at q
  obtain ⟨σ, hz, hσ⟩ := tags Z
  have hs : Stp ([] : List Nat) σ H σ H := Stp.refl _ _ _
  replace f := f.wide hz
  clear hz
  refine q (Zt σ) H _ rfl _ (fun Z2 H_ hE hO x q => ?_)
  obtain ⟨xσ, st⟩ := call0 hE σ
  replace f := f.step st
  replace hs := hs.trans st
  refine ⟨_, rfl, ?_⟩
  refine condI (fun q => ?_) (fun q => ?_) q
  · exact hk (Zt xσ) _ (hs.ext hσ) (hs.old hσ) _ q
  · refine LoopI.ofQ q (fun t_ s_ hp_ => ∃ (σ_ : Nat → Nat), Stp [] xσ H_ σ_ hp_ ∧ t_ = s_) (fun h k => h _ _ k) ⟨_, Stp.refl _ _ _, rfl⟩ ?_
    rintro t _ _ H_2 next nextQ ⟨xσ2, st2, rfl⟩ q hnext
    try dsimp only at q ⊢
    replace f := f.step st2
    replace hs := hs.trans st2
    have sl0 := st2
    refine condI (fun q => ?_) (fun q => ?_) q
    · obtain ⟨h0, x2, hx, q⟩ := q
      obtain ⟨a, ha, hi⟩ := f.addr h0 hx rfl
      refine ⟨a, ha, hi.1, hi.2, ?_⟩
      obtain ⟨A, c, hc, f2⟩ := f.lds ha h0 hx
      refine ⟨_, _, _, hc.val, ?_⟩
      refine condI (fun q => ?_) (fun q => ?_) q
      · exact hk (Zt xσ2) _ (hs.ext hσ) (hs.old hσ) _ q
      · refine q (Zt xσ2) H_2 _ rfl _ _ _ rfl f2 _ (fun Z3 H_3 hE2 hO2 x3 q => ?_)
        obtain ⟨xσ3, st3⟩ := call0 hE2 xσ2
        replace f := f.step st3
        replace hc := hc.step st3
        replace f2 := f2.step st3
        replace hs := hs.trans st3
        replace sl0 := sl0.trans st3
        refine ⟨_, rfl, ?_⟩
        refine condI (fun q => ?_) (fun q => ?_) q
        · exact hk (Zt xσ3) _ (hs.ext hσ) (hs.old hσ) _ q
        · exact hnext (IntKind.i64.wrap (t + 1)) _ _ ⟨_, sl0, rfl⟩ q
    · exact hk (Zt xσ2) _ (hs.ext hσ) (hs.old hσ) _ q
def poly_Times.C (p : Nat) (f : (List Nat)) (g : (List Nat)) (K : (List Nat) → Prop) : Prop :=
  ∀ (Z : Nat → Prop) (H : Heap), ∀ (pv : Int), pv = (p : Int) → ∀ (fA : Option Addr) (fn fc : Nat), fn = f.length → SlF u64L Z H fA fc f → ∀ (gA : Option Addr) (gn gc : Nat), gn = g.length → SlF u64L Z H gA gc g → ∀ KK : Value → Heap → Prop,
    (∀ (Z' : Nat → Prop) (H' : Heap), Ext H H' → Old Z H Z' → ∀ (r0 : (List Nat)), ∀ (Y0 : Nat → Prop), (∀ i, Y0 i → H.size ≤ i ∧ ¬ Z' i) → ∀ (Ar0_0 : Option Addr) (nr0_0 cr0_0 : Nat), nr0_0 = r0.length → SlO (rdM u64L) 22 Z' Y0 H' Ar0_0 cr0_0 r0 → K r0 → KK (.slice Ar0_0 nr0_0 cr0_0) H') →
    CallH P N.poly_Times [.int .u64 pv, .slice fA fn fc, .slice gA gn gc] H KK
def poly_Times.Q (p : Nat) (f : (List Nat)) (g : (List Nat)) (K : (List Nat) → Prop) : Prop :=
  cond (((f.length : Nat) : Int) == 0) (K ([]))
   (cond (((g.length : Nat) : Int) == 0) (K ([]))
   (MakeOk 8 (IntKind.i64.wrap ((IntKind.i64.wrap (((f.length : Nat) : Int) + ((g.length : Nat) : Int))) - 1)) ∧ LoopQ (τ := Int × List Nat) (0, (List.replicate (Int.toNat (IntKind.i64.wrap ((IntKind.i64.wrap (((f.length : Nat) : Int) + ((g.length : Nat) : Int))) - 1))) 0)) fun t nextQ =>
  cond (decide (t.1 < ((f.length : Nat) : Int))) (0 ≤ t.1 ∧ ∃ x : Nat, f[Int.toNat t.1]? = some x ∧ LoopQ (τ := Int × List Nat) (0, t.2) fun t2 nextQ2 =>
  cond (decide (t2.1 < ((g.length : Nat) : Int))) (0 ≤ t2.1 ∧ ∃ x2 : Nat, g[Int.toNat t2.1]? = some x2 ∧ 0 ≤ (IntKind.i64.wrap (t.1 + t2.1)) ∧ (IntKind.i64.wrap (t.1 + t2.1)) < ((Int.toNat (IntKind.i64.wrap ((IntKind.i64.wrap (((f.length : Nat) : Int) + ((g.length : Nat) : Int))) - 1)) : Nat) : Int) ∧ ∃ x3 : Nat, t2.2[Int.toNat (IntKind.i64.wrap (t.1 + t2.1))]? = some x3 ∧ field_Times.C p x x2 (fun (x4 : Nat) =>
  field_Plus.C p x3 x4 (fun (x5 : Nat) =>
  0 ≤ (IntKind.i64.wrap (t.1 + t2.1)) ∧ (IntKind.i64.wrap (t.1 + t2.1)) < ((Int.toNat (IntKind.i64.wrap ((IntKind.i64.wrap (((f.length : Nat) : Int) + ((g.length : Nat) : Int))) - 1)) : Nat) : Int) ∧ nextQ2 (IntKind.i64.wrap (t2.1 + 1), (List.set t2.2 (Int.toNat (IntKind.i64.wrap (t.1 + t2.1))) x5)))))
   (nextQ (IntKind.i64.wrap (t.1 + 1), t2.2)))
   (poly_Short.C t.2 (fun (x6 : (List Nat)) =>
  K x6))))
theorem poly_Times.q {p : Nat} {f : (List Nat)} {g : (List Nat)} {K : (List Nat) → Prop} (q : poly_Times.Q p f g K) : poly_Times.C p f g K := by
  intro Z H pv he fA fn fc hn f2 gA gn gc hn2 f3 KK hk
  cases he
  cases hn
  cases hn2
  apply poly_Times.ok
  unfold poly_Times.W
  unfold poly_Times.Q at q
  obtain ⟨σ, hz, hσ⟩ := tags Z
  have hs : Stp ([1, 2] : List Nat) σ H σ H := Stp.refl _ _ _
  replace f2 := f2.wide hz
  replace f3 := f3.wide hz
  clear hz
  refine condI (fun q => ?_) (fun q => ?_) q
  · exact hk (Zt σ) _ (hs.ext hσ) (hs.old hσ) _ (fun _ => False) (fun _ h => h.elim) _ _ _ rfl (SlO.nil _ _ _ _ _) q
  · refine condI (fun q => ?_) (fun q => ?_) q
    · exact hk (Zt σ) _ (hs.ext hσ) (hs.old hσ) _ (fun _ => False) (fun _ h => h.elim) _ _ _ rfl (SlO.nil _ _ _ _ _) q
    · obtain ⟨q2, q⟩ := q
      refine ⟨q2.1, Int.le_refl _, q2.w1, q2.w2, NewH.mk fun H_ e => ?_⟩
      obtain ⟨xσ, st, f4⟩ := SlO.made (O := (rdM u64L)) σ 1 e (u64_zero) q2.len
      replace f2 := f2.step st
      replace f3 := f3.step st
      replace hs := hs.trans st
      refine LoopI.ofQ q (fun t_ s_ hp_ => ∃ (σ_ : Nat → Nat), Stp [1] xσ H_ σ_ hp_ ∧ t_.1 = s_ ∧ t_.2.length = (List.replicate (Int.toNat (IntKind.i64.wrap ((IntKind.i64.wrap (((f.length : Nat) : Int) + ((g.length : Nat) : Int))) - 1))) 0).length ∧ SlO (rdM u64L) 22 (Zt σ_) (Yt σ_ 1) hp_ (some (Addr.mk H.size 0 none)) (Int.toNat (IntKind.i64.wrap ((IntKind.i64.wrap (((f.length : Nat) : Int) + ((g.length : Nat) : Int))) - 1))) t_.2) (fun h k => h _ _ k) ⟨_, Stp.refl _ _ _, rfl, rfl, f4⟩ ?_
      rintro t _ _ H_2 next nextQ ⟨xσ2, st2, rfl, hl, f4⟩ q hnext
      try dsimp only at q ⊢
      replace f2 := f2.step st2
      replace f3 := f3.step st2
      replace hs := hs.trans st2
      have sl3 := st2
      refine condI (fun q => ?_) (fun q => ?_) q
      · obtain ⟨h0, x, hx, q⟩ := q
        obtain ⟨a, ha, hi⟩ := f2.addr h0 hx rfl
        refine ⟨a, ha, hi.1, hi.2, ?_⟩
        have hc := f2.ldu ha h0 hx
        refine ⟨_, hc.val, ?_⟩
        refine LoopI.ofQ q (fun t_ s_ hp_ => ∃ (σ_ : Nat → Nat), Stp [1] xσ2 H_2 σ_ hp_ ∧ t_.1 = s_ ∧ t_.2.length = t.2.length ∧ SlO (rdM u64L) 22 (Zt σ_) (Yt σ_ 1) hp_ (some (Addr.mk H.size 0 none)) (Int.toNat (IntKind.i64.wrap ((IntKind.i64.wrap (((f.length : Nat) : Int) + ((g.length : Nat) : Int))) - 1))) t_.2) (fun h k => h _ _ k) ⟨_, Stp.refl _ _ _, rfl, rfl, f4⟩ ?_
        rintro t2 _ _ H_3 next2 nextQ2 ⟨xσ3, st3, rfl, hl2, f4⟩ q hnext2
        try dsimp only at q ⊢
        replace f2 := f2.step st3
        replace f3 := f3.step st3
        replace hc := hc.step st3
        replace hs := hs.trans st3
        replace sl3 := sl3.trans st3
        have sl5 := st3
        refine condI (fun q => ?_) (fun q => ?_) q
        · obtain ⟨h02, x2, hx2, q⟩ := q
          obtain ⟨a2, ha2, hi2⟩ := f3.addr h02 hx2 rfl
          refine ⟨a2, ha2, hi2.1, hi2.2, ?_⟩
          have hc2 := f3.ldu ha2 h02 hx2
          refine ⟨_, hc2.val, ?_⟩
          obtain ⟨h03, hi4, q⟩ := q
          obtain ⟨a3, ha3, hi3⟩ := f4.addr h03 (((rl_len _ _).trans hl.symm).trans hl2.symm) hi4
          refine ⟨a3, ha3, hi3.1, hi3.2, ?_⟩
          obtain ⟨x3, hx3, q⟩ := q
          have hc3 := f4.ldu ha3 h03 hx3
          refine ⟨_, hc3.val, ?_⟩
          refine q (Zt xσ3) H_3 _ rfl _ rfl _ rfl _ (fun Z2 H_4 hE hO x4 v he2 q => ?_)
          obtain ⟨xσ4, st4⟩ := call0 hE xσ3
          cases he2
          replace f2 := f2.step st4
          replace f3 := f3.step st4
          replace f4 := f4.step st4
          replace hc := hc.step st4
          replace hc2 := hc2.step st4
          replace hc3 := hc3.step st4
          replace hs := hs.trans st4
          replace sl3 := sl3.trans st4
          replace sl5 := sl5.trans st4
          refine ⟨_, rfl, ?_⟩
          refine ⟨hc3.val, ?_⟩
          refine q (Zt xσ4) H_4 _ rfl _ rfl _ rfl _ (fun Z3 H_5 hE2 hO2 x5 v2 he3 q => ?_)
          obtain ⟨xσ5, st5⟩ := call0 hE2 xσ4
          cases he3
          replace f2 := f2.step st5
          replace f3 := f3.step st5
          replace f4 := f4.step st5
          replace hc := hc.step st5
          replace hc2 := hc2.step st5
          replace hc3 := hc3.step st5
          replace hs := hs.trans st5
          replace sl3 := sl3.trans st5
          replace sl5 := sl5.trans st5
          refine ⟨_, rfl, ?_⟩
          obtain ⟨h04, hi6, q⟩ := q
          obtain ⟨a4, ha4, hi5⟩ := f4.addr h04 (((rl_len _ _).trans hl.symm).trans hl2.symm) hi6
          refine ⟨a4, ha4, hi5.1, hi5.2, ?_⟩
          have w := fun v hr => SlO.set1 (v := v) (y := x5) f4 rfl ha4 h04 (lt_of_n (((rl_len _ _).trans hl.symm).trans hl2.symm) hi6) hr
          refine ⟨(w _ rfl).1, NewH.mk fun H_6 e2 => ?_⟩
          obtain ⟨st6, f4⟩ := (w _ rfl).2 H_6 e2
          replace f2 := f2.step st6
          replace f3 := f3.step st6
          replace hc := hc.step st6
          replace hc2 := hc2.step st6
          replace hs := hs.trans st6
          replace sl3 := sl3.trans st6
          replace sl5 := sl5.trans st6
          exact hnext2 (IntKind.i64.wrap (t2.1 + 1), (List.set t2.2 (Int.toNat (IntKind.i64.wrap (t.1 + t2.1))) x5)) _ _ ⟨_, sl5, rfl, (set_back (((rl_len _ _).trans hl.symm).trans hl2.symm) (set_len (((rl_len _ _).trans hl.symm).trans hl2.symm)) hl2), f4⟩ q
        · exact hnext (IntKind.i64.wrap (t.1 + 1), t2.2) _ _ ⟨_, sl3, rfl, (set_back ((rl_len _ _).trans hl.symm) (((rl_len _ _).trans hl.symm).trans hl2.symm) hl), f4⟩ q
      · refine q (fun i => xσ2 i = 0 ∨ xσ2 i = 1) H_2 _ _ _ ((rl_len _ _).trans hl.symm) (f4.read (fun i h => .inl h) (fun i h => .inr (h))) _ (fun Z4 H_7 hE3 hO3 x6 Y hY A n c hn3 f5 q => ?_)
        obtain ⟨xσ6, st7, fy⟩ := callB1 hE3 hO3 xσ2 2 hY
        replace f5 := (SlO.anyZ (Z' := Zt xσ6) u64_flatL f5).keep (Fr.refl _ _) fy
        cases hn3
        replace f2 := f2.step st7
        replace f3 := f3.step st7
        replace f4 := f4.step st7
        replace hs := hs.trans st7
        refine ⟨_, _, _, rfl, ?_⟩
        exact hk (Zt xσ6) _ (hs.ext hσ) (hs.old hσ) _ (Yt xσ6 2) (hs.fresh hσ) _ _ _ rfl f5 q
def poly_each.C (p : Nat) (f : (List Nat)) (g : (List Nat)) (do_ : (Nat → Nat → Nat → (Nat → Prop) → Prop)) (K : (List Nat) → Prop) : Prop :=
  ∀ (Z : Nat → Prop) (H : Heap), ∀ (pv : Int), pv = (p : Int) → ∀ (fA : Option Addr) (fn fc : Nat), fn = f.length → SlF u64L Z H fA fc f → ∀ (gA : Option Addr) (gn gc : Nat), gn = g.length → SlF u64L Z H gA gc g → ∀ (doF : Nat) (doa dob : Array Value), Fn75.F Z H doF doa dob do_ → ∀ KK : Value → Heap → Prop,
    (∀ (Z' : Nat → Prop) (H' : Heap), Ext H H' → Old Z H Z' → ∀ (r0 : (List Nat)), ∀ (Y0 : Nat → Prop), (∀ i, Y0 i → H.size ≤ i ∧ ¬ Z' i) → ∀ (Ar0_0 : Option Addr) (nr0_0 cr0_0 : Nat), nr0_0 = r0.length → SlO (rdM u64L) 22 Z' Y0 H' Ar0_0 cr0_0 r0 → K r0 → KK (.slice Ar0_0 nr0_0 cr0_0) H') →
    CallH P N.poly_each [.int .u64 pv, .slice fA fn fc, .slice gA gn gc, .func (.func doF) doa dob] H KK
def poly_each.Q (p : Nat) (f : (List Nat)) (g : (List Nat)) (do_ : (Nat → Nat → Nat → (Nat → Prop) → Prop)) (K : (List Nat) → Prop) : Prop :=
  MakeOk 8 (if ((g.length : Nat) : Int) > ((f.length : Nat) : Int) then ((g.length : Nat) : Int) else ((f.length : Nat) : Int)) ∧ LoopQ (τ := Int × List Nat) (0, (copyL (List.replicate (Int.toNat (if ((g.length : Nat) : Int) > ((f.length : Nat) : Int) then ((g.length : Nat) : Int) else ((f.length : Nat) : Int))) 0) f)) fun t nextQ =>
  cond (decide (t.1 < ((Int.toNat (if ((g.length : Nat) : Int) > ((f.length : Nat) : Int) then ((g.length : Nat) : Int) else ((f.length : Nat) : Int)) : Nat) : Int))) (cond (decide (t.1 < ((g.length : Nat) : Int))) (0 ≤ t.1 ∧ ∃ x : Nat, g[Int.toNat t.1]? = some x ∧ 0 ≤ t.1 ∧ t.1 < ((Int.toNat (if ((g.length : Nat) : Int) > ((f.length : Nat) : Int) then ((g.length : Nat) : Int) else ((f.length : Nat) : Int)) : Nat) : Int) ∧ ∃ x2 : Nat, t.2[Int.toNat t.1]? = some x2 ∧ do_ p x2 x (fun (x3 : Nat) =>
  0 ≤ t.1 ∧ t.1 < ((Int.toNat (if ((g.length : Nat) : Int) > ((f.length : Nat) : Int) then ((g.length : Nat) : Int) else ((f.length : Nat) : Int)) : Nat) : Int) ∧ nextQ (IntKind.i64.wrap (t.1 + 1), (List.set t.2 (Int.toNat t.1) x3))))
   (0 ≤ t.1 ∧ t.1 < ((Int.toNat (if ((g.length : Nat) : Int) > ((f.length : Nat) : Int) then ((g.length : Nat) : Int) else ((f.length : Nat) : Int)) : Nat) : Int) ∧ ∃ x4 : Nat, t.2[Int.toNat t.1]? = some x4 ∧ do_ p x4 0 (fun (x5 : Nat) =>
  0 ≤ t.1 ∧ t.1 < ((Int.toNat (if ((g.length : Nat) : Int) > ((f.length : Nat) : Int) then ((g.length : Nat) : Int) else ((f.length : Nat) : Int)) : Nat) : Int) ∧ nextQ (IntKind.i64.wrap (t.1 + 1), (List.set t.2 (Int.toNat t.1) x5)))))
   (poly_Short.C t.2 (fun (x6 : (List Nat)) =>
  K x6))
theorem poly_each.q {p : Nat} {f : (List Nat)} {g : (List Nat)} {do_ : (Nat → Nat → Nat → (Nat → Prop) → Prop)} {K : (List Nat) → Prop} (q : poly_each.Q p f g do_ K) : poly_each.C p f g do_ K := by
  intro Z H pv he fA fn fc hn f2 gA gn gc hn2 f3 doF doa dob f4 KK hk
  cases he
  cases hn
  cases hn2
  apply poly_each.ok
  unfold poly_each.W
  unfold poly_each.Q at q
  obtain ⟨σ, hz, hσ⟩ := tags Z
  have hs : Stp ([1, 2] : List Nat) σ H σ H := Stp.refl _ _ _
  replace f2 := f2.wide hz
  replace f3 := f3.wide hz
  replace f4 := f4.wide hz
  clear hz
  obtain ⟨q2, q⟩ := q
  refine ⟨q2.1, Int.le_refl _, q2.w1, q2.w2, NewH.mk fun H_ e => ?_⟩
  obtain ⟨xσ, st, f5⟩ := SlO.made (O := (rdM u64L)) σ 1 e (u64_zero) q2.len
  replace f2 := f2.step st
  replace f3 := f3.step st
  replace f4 := f4.step st
  replace hs := hs.trans st
  refine SlO.copyF f5 f2 rfl (rl_len _ _) rfl (fun H_2 xσ2 st2 f5_ => ?_)
  replace f5 := f5_
  replace f2 := f2.step st2
  replace f3 := f3.step st2
  replace f4 := f4.step st2
  replace hs := hs.trans st2
  refine LoopI.ofQ q (fun t_ s_ hp_ => ∃ (σ_ : Nat → Nat), Stp [1] xσ2 H_2 σ_ hp_ ∧ t_.1 = s_ ∧ t_.2.length = (copyL (List.replicate (Int.toNat (if ((g.length : Nat) : Int) > ((f.length : Nat) : Int) then ((g.length : Nat) : Int) else ((f.length : Nat) : Int))) 0) f).length ∧ SlO (rdM u64L) 22 (Zt σ_) (Yt σ_ 1) hp_ (some (Addr.mk H.size 0 none)) (Int.toNat (if ((g.length : Nat) : Int) > ((f.length : Nat) : Int) then ((g.length : Nat) : Int) else ((f.length : Nat) : Int))) t_.2) (fun h k => h _ _ k) ⟨_, Stp.refl _ _ _, rfl, rfl, f5⟩ ?_
  rintro t _ _ H_3 next nextQ ⟨xσ3, st3, rfl, hl, f5⟩ q hnext
  try dsimp only at q ⊢
  replace f2 := f2.step st3
  replace f3 := f3.step st3
  replace f4 := f4.step st3
  replace hs := hs.trans st3
  have sl1 := st3
  refine condI (fun q => ?_) (fun q => ?_) q
  · refine condI (fun q => ?_) (fun q => ?_) q
    · obtain ⟨h0, x, hx, q⟩ := q
      obtain ⟨a, ha, hi⟩ := f3.addr h0 hx rfl
      refine ⟨a, ha, hi.1, hi.2, ?_⟩
      have hc := f3.ldu ha h0 hx
      refine ⟨_, hc.val, ?_⟩
      obtain ⟨h02, hi3, q⟩ := q
      obtain ⟨a2, ha2, hi2⟩ := f5.addr h02 (((rl_len _ _).trans (copyL_len _ _).symm).trans hl.symm) hi3
      refine ⟨a2, ha2, hi2.1, hi2.2, ?_⟩
      obtain ⟨x2, hx2, q⟩ := q
      have hc2 := f5.ldu ha2 h02 hx2
      refine ⟨_, hc2.val, ?_⟩
      refine ct f4.1 ?_
      refine f4.2 (Zt xσ3) H_3 (Fr.refl _ _) _ _ _ _ q _ rfl _ rfl _ rfl _ (fun Z2 H_4 hE hO x3 v he2 q => ?_)
      obtain ⟨xσ4, st4⟩ := call0 hE xσ3
      cases he2
      replace f2 := f2.step st4
      replace f3 := f3.step st4
      replace f4 := f4.step st4
      replace f5 := f5.step st4
      replace hc := hc.step st4
      replace hc2 := hc2.step st4
      replace hs := hs.trans st4
      replace sl1 := sl1.trans st4
      refine ⟨_, rfl, ?_⟩
      obtain ⟨h03, hi5, q⟩ := q
      obtain ⟨a3, ha3, hi4⟩ := f5.addr h03 (((rl_len _ _).trans (copyL_len _ _).symm).trans hl.symm) hi5
      refine ⟨a3, ha3, hi4.1, hi4.2, ?_⟩
      have w := fun v hr => SlO.set1 (v := v) (y := x3) f5 rfl ha3 h03 (lt_of_n (((rl_len _ _).trans (copyL_len _ _).symm).trans hl.symm) hi5) hr
      refine ⟨(w _ rfl).1, NewH.mk fun H_5 e2 => ?_⟩
      obtain ⟨st5, f5⟩ := (w _ rfl).2 H_5 e2
      replace f2 := f2.step st5
      replace f3 := f3.step st5
      replace f4 := f4.step st5
      replace hc := hc.step st5
      replace hs := hs.trans st5
      replace sl1 := sl1.trans st5
      exact hnext (IntKind.i64.wrap (t.1 + 1), (List.set t.2 (Int.toNat t.1) x3)) _ _ ⟨_, sl1, rfl, (set_back (((rl_len _ _).trans (copyL_len _ _).symm).trans hl.symm) (set_len (((rl_len _ _).trans (copyL_len _ _).symm).trans hl.symm)) hl), f5⟩ q
    · obtain ⟨h04, hi7, q⟩ := q
      obtain ⟨a4, ha4, hi6⟩ := f5.addr h04 (((rl_len _ _).trans (copyL_len _ _).symm).trans hl.symm) hi7
      refine ⟨a4, ha4, hi6.1, hi6.2, ?_⟩
      obtain ⟨x4, hx3, q⟩ := q
      have hc3 := f5.ldu ha4 h04 hx3
      refine ⟨_, hc3.val, ?_⟩
      refine ct f4.1 ?_
      refine f4.2 (Zt xσ3) H_3 (Fr.refl _ _) _ _ _ _ q _ rfl _ rfl _ rfl _ (fun Z3 H_6 hE2 hO2 x5 v2 he3 q => ?_)
      obtain ⟨xσ5, st6⟩ := call0 hE2 xσ3
      cases he3
      replace f2 := f2.step st6
      replace f3 := f3.step st6
      replace f4 := f4.step st6
      replace f5 := f5.step st6
      replace hc3 := hc3.step st6
      replace hs := hs.trans st6
      replace sl1 := sl1.trans st6
      refine ⟨_, rfl, ?_⟩
      obtain ⟨h05, hi9, q⟩ := q
      obtain ⟨a5, ha5, hi8⟩ := f5.addr h05 (((rl_len _ _).trans (copyL_len _ _).symm).trans hl.symm) hi9
      refine ⟨a5, ha5, hi8.1, hi8.2, ?_⟩
      have w2 := fun v hr => SlO.set1 (v := v) (y := x5) f5 rfl ha5 h05 (lt_of_n (((rl_len _ _).trans (copyL_len _ _).symm).trans hl.symm) hi9) hr
      refine ⟨(w2 _ rfl).1, NewH.mk fun H_7 e3 => ?_⟩
      obtain ⟨st7, f5⟩ := (w2 _ rfl).2 H_7 e3
      replace f2 := f2.step st7
      replace f3 := f3.step st7
      replace f4 := f4.step st7
      replace hs := hs.trans st7
      replace sl1 := sl1.trans st7
      exact hnext (IntKind.i64.wrap (t.1 + 1), (List.set t.2 (Int.toNat t.1) x5)) _ _ ⟨_, sl1, rfl, (set_back (((rl_len _ _).trans (copyL_len _ _).symm).trans hl.symm) (set_len (((rl_len _ _).trans (copyL_len _ _).symm).trans hl.symm)) hl), f5⟩ q
  · refine q (fun i => xσ3 i = 0 ∨ xσ3 i = 1) H_3 _ _ _ (((rl_len _ _).trans (copyL_len _ _).symm).trans hl.symm) (f5.read (fun i h => .inl h) (fun i h => .inr (h))) _ (fun Z4 H_8 hE3 hO3 x6 Y hY A n2 c hn3 f6 q => ?_)
    obtain ⟨xσ6, st8, fy⟩ := callB1 hE3 hO3 xσ3 2 hY
    replace f6 := (SlO.anyZ (Z' := Zt xσ6) u64_flatL f6).keep (Fr.refl _ _) fy
    cases hn3
    replace f2 := f2.step st8
    replace f3 := f3.step st8
    replace f4 := f4.step st8
    replace f5 := f5.step st8
    replace hs := hs.trans st8
    refine ⟨_, _, _, rfl, ?_⟩
    exact hk (Zt xσ6) _ (hs.ext hσ) (hs.old hσ) _ (Yt xσ6 2) (hs.fresh hσ) _ _ _ rfl f6 q
def poly_Plus.C (p : Nat) (f : (List Nat)) (g : (List Nat)) (K : (List Nat) → Prop) : Prop :=
  ∀ (Z : Nat → Prop) (H : Heap), ∀ (pv : Int), pv = (p : Int) → ∀ (fA : Option Addr) (fn fc : Nat), fn = f.length → SlF u64L Z H fA fc f → ∀ (gA : Option Addr) (gn gc : Nat), gn = g.length → SlF u64L Z H gA gc g → ∀ KK : Value → Heap → Prop,
    (∀ (Z' : Nat → Prop) (H' : Heap), Ext H H' → Old Z H Z' → ∀ (r0 : (List Nat)), ∀ (Y0 : Nat → Prop), (∀ i, Y0 i → H.size ≤ i ∧ ¬ Z' i) → ∀ (Ar0_0 : Option Addr) (nr0_0 cr0_0 : Nat), nr0_0 = r0.length → SlO (rdM u64L) 22 Z' Y0 H' Ar0_0 cr0_0 r0 → K r0 → KK (.slice Ar0_0 nr0_0 cr0_0) H') →
    CallH P N.poly_Plus [.int .u64 pv, .slice fA fn fc, .slice gA gn gc] H KK
def poly_Plus.Q (p : Nat) (f : (List Nat)) (g : (List Nat)) (K : (List Nat) → Prop) : Prop :=
  poly_each.C p f g (fun x0_ x1_ x2_ K_ => field_Plus.C x0_ x1_ x2_  K_) (fun (x : (List Nat)) =>
  K x)
theorem poly_Plus.q {p : Nat} {f : (List Nat)} {g : (List Nat)} {K : (List Nat) → Prop} (q : poly_Plus.Q p f g K) : poly_Plus.C p f g K := by
  intro Z H pv he fA fn fc hn f2 gA gn gc hn2 f3 KK hk
  cases he
  cases hn
  cases hn2
  apply poly_Plus.ok
  unfold poly_Plus.W
  unfold poly_Plus.Q at q
  obtain ⟨σ, hz, hσ⟩ := tags Z
  have hs : Stp ([1] : List Nat) σ H σ H := Stp.refl _ _ _
  replace f2 := f2.wide hz
  replace f3 := f3.wide hz
  clear hz
  refine q (Zt σ) H _ rfl _ _ _ rfl f2 _ _ _ rfl f3 (111) (#[]) (#[]) ⟨rfl, fun Z_ H_ fr_ x0_ x1_ x2_ K_ q_ a0_ a1_ a2_ a3_ a4_ a5_ KK_ hk_ => q_ Z_ H_ a0_ a1_ a2_ a3_ a4_ a5_  KK_ hk_⟩ _ (fun Z2 H_ hE hO x Y hY A n c hn3 f4 q => ?_)
  obtain ⟨xσ, st, fz, fy⟩ := call1 hE hO σ 1 (fun _ h => h) hY
  replace f4 := f4.keep fz fy
  cases hn3
  replace f2 := f2.step st
  replace f3 := f3.step st
  replace hs := hs.trans st
  refine ⟨_, _, _, rfl, ?_⟩
  exact hk (Zt xσ) _ (hs.ext hσ) (hs.old hσ) _ (Yt xσ 1) (hs.fresh hσ) _ _ _ rfl f4 q
def poly_Fit.C (p : Nat) (l : (List TPoint)) (K : (List Nat) → Prop) : Prop :=
  ∀ (Z : Nat → Prop) (H : Heap), ∀ (pv : Int), pv = (p : Int) → ∀ (lA : Option Addr) (ln lc : Nat), ln = l.length → SlF TPoint.L Z H lA lc l → ∀ KK : Value → Heap → Prop,
    (∀ (Z' : Nat → Prop) (H' : Heap), Ext H H' → Old Z H Z' → ∀ (r0 : (List Nat)), ∀ (Y0 : Nat → Prop), (∀ i, Y0 i → H.size ≤ i ∧ ¬ Z' i) → ∀ (Ar0_0 : Option Addr) (nr0_0 cr0_0 : Nat), nr0_0 = r0.length → SlO (rdM u64L) 22 Z' Y0 H' Ar0_0 cr0_0 r0 → K r0 → KK (.slice Ar0_0 nr0_0 cr0_0) H') →
    CallH P N.poly_Fit [.int .u64 pv, .slice lA ln lc] H KK
def poly_Fit.Q (p : Nat) (l : (List TPoint)) (K : (List Nat) → Prop) : Prop :=
  MakeOk 8 ((l.length : Nat) : Int) ∧ LoopQ (τ := Int × List Nat) (0, (List.replicate l.length 0)) fun t nextQ =>
  cond (decide (t.1 < ((l.length : Nat) : Int))) (0 ≤ t.1 ∧ ∃ x : TPoint, l[Int.toNat t.1]? = some x ∧ 0 ≤ t.1 ∧ t.1 < ((l.length : Nat) : Int) ∧ nextQ (IntKind.i64.wrap (t.1 + 1), (List.set t.2 (Int.toNat t.1) x.Y)))
   (LoopQ (τ := Int × List Nat) (1, t.2) fun t2 nextQ2 =>
  cond (decide (t2.1 < ((l.length : Nat) : Int))) (LoopQ (τ := Int × List Nat) (IntKind.i64.wrap (((l.length : Nat) : Int) - 1), t2.2) fun t3 nextQ3 =>
  cond (decide (t3.1 ≥ t2.1)) (0 ≤ t3.1 ∧ ∃ x2 : TPoint, l[Int.toNat t3.1]? = some x2 ∧ 0 ≤ (IntKind.i64.wrap (t3.1 - t2.1)) ∧ ∃ x3 : TPoint, l[Int.toNat (IntKind.i64.wrap (t3.1 - t2.1))]? = some x3 ∧ field_Minus.C p x2.X x3.X (fun (x4 : Nat) =>
  0 ≤ t3.1 ∧ t3.1 < ((l.length : Nat) : Int) ∧ 0 ≤ (IntKind.i64.wrap (t3.1 - 1)) ∧ (IntKind.i64.wrap (t3.1 - 1)) < ((l.length : Nat) : Int) ∧ ∃ x5 : Nat, t3.2[Int.toNat t3.1]? = some x5 ∧ ∃ x6 : Nat, t3.2[Int.toNat (IntKind.i64.wrap (t3.1 - 1))]? = some x6 ∧ field_Minus.C p x5 x6 (fun (x7 : Nat) =>
  field_Over.C p x4 (fun (x8 : Nat) =>
  field_Times.C p x7 x8 (fun (x9 : Nat) =>
  0 ≤ t3.1 ∧ t3.1 < ((l.length : Nat) : Int) ∧ nextQ3 (IntKind.i64.wrap (t3.1 - 1), (List.set t3.2 (Int.toNat t3.1) x9)))))))
   (nextQ2 (IntKind.i64.wrap (t2.1 + 1), t3.2)))
   (LoopQ (τ := List Nat × Int) (([] : List Nat), IntKind.i64.wrap (((l.length : Nat) : Int) - 1)) fun t4 nextQ4 =>
  cond (decide (t4.2 ≥ 0)) (0 ≤ t4.2 ∧ ∃ x10 : TPoint, l[Int.toNat t4.2]? = some x10 ∧ field_Minus.C p 0 x10.X (fun (x11 : Nat) =>
  poly_Times.C p t4.1 ([x11, 1]) (fun (x12 : (List Nat)) =>
  0 ≤ t4.2 ∧ t4.2 < ((l.length : Nat) : Int) ∧ ∃ x13 : Nat, t2.2[Int.toNat t4.2]? = some x13 ∧ poly_Plus.C p x12 ([x13]) (fun (x14 : (List Nat)) =>
  nextQ4 (x14, IntKind.i64.wrap (t4.2 - 1))))))
   (poly_Short.C t4.1 (fun (x15 : (List Nat)) =>
  K x15))))
theorem poly_Fit.q {p : Nat} {l : (List TPoint)} {K : (List Nat) → Prop} (q : poly_Fit.Q p l K) : poly_Fit.C p l K := by
  intro Z H pv he lA ln lc hn f KK hk
  cases he
  cases hn
  apply poly_Fit.ok
  unfold poly_Fit.W
  unfold poly_Fit.Q at q
  obtain ⟨σ, hz, hσ⟩ := tags Z
  have hs : Stp ([1, 2, 3, 4, 5, 6, 7, 8] : List Nat) σ H σ H := Stp.refl _ _ _
  replace f := f.wide hz
  clear hz
  obtain ⟨q2, q⟩ := q
  refine ⟨q2.1, Int.le_refl _, q2.w1, q2.w2, NewH.mk fun H_ e => ?_⟩
  obtain ⟨xσ, st, f2⟩ := SlO.made (O := (rdM u64L)) σ 1 e (u64_zero) q2.len
  replace f := f.step st
  replace hs := hs.trans st
  refine LoopI.ofQ q (fun t_ s_ hp_ => ∃ (σ_ : Nat → Nat), Stp [1, 2] xσ H_ σ_ hp_ ∧ t_.1 = s_ ∧ t_.2.length = (List.replicate l.length 0).length ∧ SlO (rdM u64L) 22 (Zt σ_) (Yt σ_ 1) hp_ (some (Addr.mk H.size 0 none)) l.length t_.2) (fun h k => h _ _ k) ⟨_, Stp.refl _ _ _, rfl, rfl, f2⟩ ?_
  rintro t _ _ H_2 next nextQ ⟨xσ2, st2, rfl, hl, f2⟩ q hnext
  try dsimp only at q ⊢
  replace f := f.step st2
  replace hs := hs.trans st2
  have sl9 := st2
  refine condI (fun q => ?_) (fun q => ?_) q
  · obtain ⟨h0, x, hx, q⟩ := q
    obtain ⟨a, ha, hi⟩ := f.addr h0 hx rfl
    refine ⟨a, ha, hi.1, hi.2, ?_⟩
    obtain ⟨cs, hr, hc⟩ := f.ldN (k := 2) rfl ha h0 hx
    cases hr
    have hc2 := hc 0 _ rfl
    have hc3 := hc 1 _ rfl
    refine ⟨_, _, hc2.val, hc3.val, ?_⟩
    refine NewH.mk fun H_3 e2 => ?_
    obtain ⟨xσ3, st3, b⟩ := BoxF.new xσ2 2 e2
    replace f := f.step st3
    replace f2 := f2.step st3
    replace hc2 := hc2.step st3
    replace hc3 := hc3.step st3
    replace hs := hs.trans st3
    replace sl9 := sl9.trans st3
    refine ⟨b.mayN 0 2 (show (2 : Nat) ≤ 2 by decide), NewH.mk fun H_4 e3 => ?_⟩
    obtain ⟨st4, b⟩ := b.wroteN 0 (vs := [_, _]) (show (2 : Nat) ≤ 2 by decide) e3
    simp only [List.take_zero, List.take_succ_cons, List.drop_zero, List.drop_succ_cons, List.drop_nil, List.length_cons, List.length_nil, List.cons_append, List.nil_append, List.append_nil, Nat.zero_add, Nat.reduceAdd] at b
    replace f := f.step st4
    replace f2 := f2.step st4
    replace hc2 := hc2.step st4
    replace hc3 := hc3.step st4
    replace hs := hs.trans st4
    replace sl9 := sl9.trans st4
    refine ⟨_, b.cell 1 rfl, ?_⟩
    obtain ⟨h02, hi3, q⟩ := q
    obtain ⟨a2, ha2, hi2⟩ := f2.addr h02 ((rl_len _ _).trans hl.symm) hi3
    refine ⟨a2, ha2, hi2.1, hi2.2, ?_⟩
    have w := fun v hr => SlO.set1 (v := v) (y := x.Y) f2 rfl ha2 h02 (lt_of_n ((rl_len _ _).trans hl.symm) hi3) hr
    refine ⟨(w _ rfl).1, NewH.mk fun H_5 e4 => ?_⟩
    obtain ⟨st5, f2⟩ := (w _ rfl).2 H_5 e4
    replace f := f.step st5
    replace hc2 := hc2.step st5
    replace hc3 := hc3.step st5
    replace b := b.step st5
    replace hs := hs.trans st5
    replace sl9 := sl9.trans st5
    exact hnext (IntKind.i64.wrap (t.1 + 1), (List.set t.2 (Int.toNat t.1) x.Y)) _ _ ⟨_, sl9, rfl, (set_back ((rl_len _ _).trans hl.symm) (set_len ((rl_len _ _).trans hl.symm)) hl), f2⟩ q
  · refine LoopI.ofQ q (fun t_ s_ hp_ => ∃ (σ_ : Nat → Nat), Stp [1] xσ2 H_2 σ_ hp_ ∧ t_.1 = s_ ∧ t_.2.length = t.2.length ∧ SlO (rdM u64L) 22 (Zt σ_) (Yt σ_ 1) hp_ (some (Addr.mk H.size 0 none)) l.length t_.2) (fun h k => h _ _ k) ⟨_, Stp.refl _ _ _, rfl, rfl, f2⟩ ?_
    rintro t2 _ _ H_6 next2 nextQ2 ⟨xσ4, st6, rfl, hl2, f2⟩ q hnext2
    try dsimp only at q ⊢
    replace f := f.step st6
    replace hs := hs.trans st6
    have sl14 := st6
    refine condI (fun q => ?_) (fun q => ?_) q
    · refine LoopI.ofQ q (fun t_ s_ hp_ => ∃ (σ_ : Nat → Nat), Stp [1] xσ4 H_6 σ_ hp_ ∧ t_.1 = s_ ∧ t_.2.length = t2.2.length ∧ SlO (rdM u64L) 22 (Zt σ_) (Yt σ_ 1) hp_ (some (Addr.mk H.size 0 none)) l.length t_.2) (fun h k => h _ _ k) ⟨_, Stp.refl _ _ _, rfl, rfl, f2⟩ ?_
      rintro t3 _ _ H_7 next3 nextQ3 ⟨xσ5, st7, rfl, hl3, f2⟩ q hnext3
      try dsimp only at q ⊢
      replace f := f.step st7
      replace hs := hs.trans st7
      replace sl14 := sl14.trans st7
      have sl16 := st7
      refine condI (fun q => ?_) (fun q => ?_) q
      · obtain ⟨h03, x2, hx2, q⟩ := q
        obtain ⟨a3, ha3, hi4⟩ := f.addr h03 hx2 rfl
        refine ⟨a3, ha3, hi4.1, hi4.2, ?_⟩
        obtain ⟨h04, x3, hx3, q⟩ := q
        obtain ⟨a4, ha4, hi5⟩ := f.addr h04 hx3 rfl
        refine ⟨a4, ha4, hi5.1, hi5.2, ?_⟩
        obtain ⟨cs2, hr2, hc4⟩ := f.ldN (k := 2) rfl ha3 h03 hx2
        cases hr2
        have hc5 := hc4 0 _ rfl
        refine ⟨_, hc5.val, ?_⟩
        obtain ⟨cs3, hr3, hc6⟩ := f.ldN (k := 2) rfl ha4 h04 hx3
        cases hr3
        have hc7 := hc6 0 _ rfl
        refine ⟨_, hc7.val, ?_⟩
        refine q (Zt xσ5) H_7 _ rfl _ rfl _ rfl _ (fun Z2 H_8 hE hO x4 v he2 q => ?_)
        obtain ⟨xσ6, st8⟩ := call0 hE xσ5
        cases he2
        replace f := f.step st8
        replace f2 := f2.step st8
        replace hc5 := hc5.step st8
        replace hc7 := hc7.step st8
        replace hs := hs.trans st8
        replace sl14 := sl14.trans st8
        replace sl16 := sl16.trans st8
        refine ⟨_, rfl, ?_⟩
        obtain ⟨h05, hi7, q⟩ := q
        obtain ⟨a5, ha5, hi6⟩ := f2.addr h05 ((((rl_len _ _).trans hl.symm).trans hl2.symm).trans hl3.symm) hi7
        refine ⟨a5, ha5, hi6.1, hi6.2, ?_⟩
        obtain ⟨h06, hi9, q⟩ := q
        obtain ⟨a6, ha6, hi8⟩ := f2.addr h06 ((((rl_len _ _).trans hl.symm).trans hl2.symm).trans hl3.symm) hi9
        refine ⟨a6, ha6, hi8.1, hi8.2, ?_⟩
        obtain ⟨x5, hx4, q⟩ := q
        have hc8 := f2.ldu ha5 h05 hx4
        refine ⟨_, hc8.val, ?_⟩
        obtain ⟨x6, hx5, q⟩ := q
        have hc9 := f2.ldu ha6 h06 hx5
        refine ⟨_, hc9.val, ?_⟩
        refine q (Zt xσ6) H_8 _ rfl _ rfl _ rfl _ (fun Z3 H_9 hE2 hO2 x7 v2 he3 q => ?_)
        obtain ⟨xσ7, st9⟩ := call0 hE2 xσ6
        cases he3
        replace f := f.step st9
        replace f2 := f2.step st9
        replace hc5 := hc5.step st9
        replace hc7 := hc7.step st9
        replace hc8 := hc8.step st9
        replace hc9 := hc9.step st9
        replace hs := hs.trans st9
        replace sl14 := sl14.trans st9
        replace sl16 := sl16.trans st9
        refine ⟨_, rfl, ?_⟩
        refine q (Zt xσ7) H_9 _ rfl _ rfl _ (fun Z4 H_10 hE3 hO3 x8 v3 he4 q => ?_)
        obtain ⟨xσ8, st10⟩ := call0 hE3 xσ7
        cases he4
        replace f := f.step st10
        replace f2 := f2.step st10
        replace hc5 := hc5.step st10
        replace hc7 := hc7.step st10
        replace hc8 := hc8.step st10
        replace hc9 := hc9.step st10
        replace hs := hs.trans st10
        replace sl14 := sl14.trans st10
        replace sl16 := sl16.trans st10
        refine ⟨_, rfl, ?_⟩
        refine q (Zt xσ8) H_10 _ rfl _ rfl _ rfl _ (fun Z5 H_11 hE4 hO4 x9 v4 he5 q => ?_)
        obtain ⟨xσ9, st11⟩ := call0 hE4 xσ8
        cases he5
        replace f := f.step st11
        replace f2 := f2.step st11
        replace hc5 := hc5.step st11
        replace hc7 := hc7.step st11
        replace hc8 := hc8.step st11
        replace hc9 := hc9.step st11
        replace hs := hs.trans st11
        replace sl14 := sl14.trans st11
        replace sl16 := sl16.trans st11
        refine ⟨_, rfl, ?_⟩
        obtain ⟨h07, hi11, q⟩ := q
        obtain ⟨a7, ha7, hi10⟩ := f2.addr h07 ((((rl_len _ _).trans hl.symm).trans hl2.symm).trans hl3.symm) hi11
        refine ⟨a7, ha7, hi10.1, hi10.2, ?_⟩
        have w2 := fun v hr => SlO.set1 (v := v) (y := x9) f2 rfl ha7 h07 (lt_of_n ((((rl_len _ _).trans hl.symm).trans hl2.symm).trans hl3.symm) hi11) hr
        refine ⟨(w2 _ rfl).1, NewH.mk fun H_12 e5 => ?_⟩
        obtain ⟨st12, f2⟩ := (w2 _ rfl).2 H_12 e5
        replace f := f.step st12
        replace hc5 := hc5.step st12
        replace hc7 := hc7.step st12
        replace hs := hs.trans st12
        replace sl14 := sl14.trans st12
        replace sl16 := sl16.trans st12
        exact hnext3 (IntKind.i64.wrap (t3.1 - 1), (List.set t3.2 (Int.toNat t3.1) x9)) _ _ ⟨_, sl16, rfl, (set_back ((((rl_len _ _).trans hl.symm).trans hl2.symm).trans hl3.symm) (set_len ((((rl_len _ _).trans hl.symm).trans hl2.symm).trans hl3.symm)) hl3), f2⟩ q
      · exact hnext2 (IntKind.i64.wrap (t2.1 + 1), t3.2) _ _ ⟨_, sl14, rfl, (set_back (((rl_len _ _).trans hl.symm).trans hl2.symm) ((((rl_len _ _).trans hl.symm).trans hl2.symm).trans hl3.symm) hl2), f2⟩ q
    · have f3 := SlO.nil (rdM u64L) 22 (Zt xσ4) (Yt xσ4 3) H_6
      refine LoopI.ofQ q (fun t_ s_ hp_ => ∃ (σ_ : Nat → Nat) (A0_ : Option Addr) (n0_ c0_ : Nat), Stp [4, 5, 6, 7] xσ4 H_6 σ_ hp_ ∧ ((A0_, n0_, c0_), t_.2) = s_ ∧ n0_ = t_.1.length ∧ SlO (rdM u64L) 22 (Zt σ_) (Yt σ_ 3) hp_ A0_ c0_ t_.1) (fun h k => h _ _ k) ⟨_, _, _, _, Stp.refl _ _ _, rfl, rfl, f3⟩ ?_
      rintro t4 _ _ H_13 next4 nextQ4 ⟨xσ10, A, n, c, st13, rfl, rfl, f4⟩ q hnext4
      try dsimp only at q ⊢
      replace f := f.step st13
      replace f2 := f2.step st13
      replace hs := hs.trans st13
      have sl17 := st13
      refine condI (fun q => ?_) (fun q => ?_) q
      · obtain ⟨h08, x10, hx6, q⟩ := q
        obtain ⟨a8, ha8, hi12⟩ := f.addr h08 hx6 rfl
        refine ⟨a8, ha8, hi12.1, hi12.2, ?_⟩
        obtain ⟨cs4, hr4, hc10⟩ := f.ldN (k := 2) rfl ha8 h08 hx6
        cases hr4
        have hc11 := hc10 0 _ rfl
        refine ⟨_, hc11.val, ?_⟩
        refine q (Zt xσ10) H_13 _ rfl _ rfl _ rfl _ (fun Z6 H_14 hE5 hO5 x11 v5 he6 q => ?_)
        obtain ⟨xσ11, st14⟩ := call0 hE5 xσ10
        cases he6
        replace f := f.step st14
        replace f2 := f2.step st14
        replace f4 := f4.step st14
        replace hc11 := hc11.step st14
        replace hs := hs.trans st14
        replace sl17 := sl17.trans st14
        refine ⟨_, rfl, ?_⟩
        refine NewH.mk fun H_15 e6 => ?_
        obtain ⟨xσ12, st15, f5⟩ := SlO.lit (E := u64L) xσ11 4 (xs := [x11, 1]) (l := [[_], [_]]) e6 rfl (.cons rfl (.cons rfl .nil)) (show (2 : Nat) ≤ 17592186044416 by decide)
        replace f := f.step st15
        replace f2 := f2.step st15
        replace f4 := f4.step st15
        replace hc11 := hc11.step st15
        replace hs := hs.trans st15
        replace sl17 := sl17.trans st15
        refine q (fun i => xσ12 i = 0 ∨ xσ12 i = 3 ∨ xσ12 i = 4) H_15 _ rfl _ _ _ rfl (f4.read (fun i h => .inl h) (fun i h => .inr (.inl h))) _ _ _ rfl (f5.read (fun i h => .inl h) (fun i h => .inr (.inr (h)))) _ (fun Z7 H_16 hE6 hO6 x12 Y hY A2 n2 c2 hn2 f6 q => ?_)
        obtain ⟨xσ13, st16, fy⟩ := callB1 hE6 hO6 xσ12 5 hY
        replace f6 := (SlO.anyZ (Z' := Zt xσ13) u64_flatL f6).keep (Fr.refl _ _) fy
        cases hn2
        replace f := f.step st16
        replace f2 := f2.step st16
        replace f4 := f4.step st16
        replace hc11 := hc11.step st16
        replace f5 := f5.step st16
        replace hs := hs.trans st16
        replace sl17 := sl17.trans st16
        refine ⟨_, _, _, rfl, ?_⟩
        obtain ⟨h09, hi14, q⟩ := q
        obtain ⟨a9, ha9, hi13⟩ := f2.addr h09 (((rl_len _ _).trans hl.symm).trans hl2.symm) hi14
        refine ⟨a9, ha9, hi13.1, hi13.2, ?_⟩
        obtain ⟨x13, hx7, q⟩ := q
        have hc12 := f2.ldu ha9 h09 hx7
        refine ⟨_, hc12.val, ?_⟩
        refine NewH.mk fun H_17 e7 => ?_
        obtain ⟨xσ14, st17, f7⟩ := SlO.lit (E := u64L) xσ13 6 (xs := [x13]) (l := [[_]]) e7 rfl (.cons rfl .nil) (show (1 : Nat) ≤ 17592186044416 by decide)
        replace f := f.step st17
        replace f2 := f2.step st17
        replace f4 := f4.step st17
        replace hc11 := hc11.step st17
        replace f5 := f5.step st17
        replace f6 := f6.step st17
        replace hc12 := hc12.step st17
        replace hs := hs.trans st17
        replace sl17 := sl17.trans st17
        refine q (fun i => xσ14 i = 0 ∨ xσ14 i = 5 ∨ xσ14 i = 6) H_17 _ rfl _ _ _ rfl (f6.read (fun i h => .inl h) (fun i h => .inr (.inl h))) _ _ _ rfl (f7.read (fun i h => .inl h) (fun i h => .inr (.inr (h)))) _ (fun Z8 H_18 hE7 hO7 x14 Y2 hY2 A3 n3 c3 hn3 f8 q => ?_)
        obtain ⟨xσ15, st18, fy2⟩ := callB1 hE7 hO7 xσ14 7 hY2
        replace f8 := (SlO.anyZ (Z' := Zt xσ15) u64_flatL f8).keep (Fr.refl _ _) fy2
        cases hn3
        replace f := f.step st18
        replace f2 := f2.step st18
        replace f4 := f4.step st18
        replace hc11 := hc11.step st18
        replace f5 := f5.step st18
        replace f6 := f6.step st18
        replace hc12 := hc12.step st18
        replace f7 := f7.step st18
        replace hs := hs.trans st18
        replace sl17 := sl17.trans st18
        refine ⟨_, _, _, rfl, ?_⟩
        obtain ⟨xσ16, st19, f8⟩ := SlO.retag f8 3
        replace f := f.step st19
        replace f2 := f2.step st19
        replace f4 := f4.step st19
        replace hc11 := hc11.step st19
        replace f5 := f5.step st19
        replace f6 := f6.step st19
        replace hc12 := hc12.step st19
        replace f7 := f7.step st19
        replace hs := hs.trans st19
        replace sl17 := sl17.trans st19
        exact hnext4 (x14, IntKind.i64.wrap (t4.2 - 1)) _ _ ⟨_, _, _, _, sl17, rfl, rfl, f8⟩ q
      · refine q (fun i => xσ10 i = 0 ∨ xσ10 i = 3) H_13 _ _ _ rfl (f4.read (fun i h => .inl h) (fun i h => .inr (h))) _ (fun Z9 H_19 hE8 hO8 x15 Y3 hY3 A4 n4 c4 hn4 f9 q => ?_)
        obtain ⟨xσ17, st20, fy3⟩ := callB1 hE8 hO8 xσ10 8 hY3
        replace f9 := (SlO.anyZ (Z' := Zt xσ17) u64_flatL f9).keep (Fr.refl _ _) fy3
        cases hn4
        replace f := f.step st20
        replace f2 := f2.step st20
        replace f4 := f4.step st20
        replace hs := hs.trans st20
        refine ⟨_, _, _, rfl, ?_⟩
        exact hk (Zt xσ17) _ (hs.ext hσ) (hs.old hσ) _ (Yt xσ17 8) (hs.fresh hσ) _ _ _ rfl f9 q
end Go.Proofs.Ytlhcaangdenoaaa.Sh
