import Derived.Test.YtlhcaangdenoaaaSTypes
import Derived.Test.YtlhcaangdenoaaaSFnField
namespace Go.Lf
end Go.Lf
namespace Go.Sx
end Go.Sx
set_option linter.unusedVariables false
set_option linter.unusedSimpArgs false
set_option maxRecDepth 100000
namespace Go.Proofs.Ytlhcaangdenoaaa.Sh
open Go.Sx
def matrix_Answer.A : Ann where
  loops := fun i => match i with
    | 12294 => [(26, .int .i64)]
    | 40976 => [(59, .int .i64)]
    | _ => []
  plans := fun i => match i with
    | 1 => .first 0 (.first 1 (.first 3 (.first 4 (.read 5 (.first 6 (.alt 2 [] (.first 7 (.first 8 (.done))) (.stop)))))))
    | 5 => .first 0 (.first 1 (.first 2 (.first 4 (.first 5 (.first 6 (.first 7 (.first 9 (.first 12 (.first 13 (.first 14 (.read 3 (.read 8 (.first 10 (.read 11 (.read 15 (.alt 16 [15] (.alt 17 [8, 11] (.first 18 (.alt 19 [3] (.done) (.stop))) (.stop)) (.stop)))))))))))))))))
    | 13 => .first 0 (.first 1 (.first 2 (.first 3 (.first 5 (.first 8 (.first 9 (.first 10 (.read 4 (.first 6 (.read 7 (.read 11 (.first 12 (.alt 13 [4, 7, 11] (.done) (.stop))))))))))))))
    | _ => .stop
def matrix_Answer.W (p : Int) (mA : Option Addr) (mn mc : Nat) (vA : Option Addr) (vn vc : Nat) (H : Heap) (R : Value → Heap → Prop) : Prop :=
  ∃ a : Addr, mA = some a ∧ 0 ≤ (0 : Int) ∧ (0 : Int) < ((mn : Nat) : Int) ∧ ∃ (xA : Option Addr) (xn xc : Nat), cellH H (a.add 0) = some (.slice xA xn xc) ∧ CallH P N.matrix_own [.int .u64 p, .slice mA mn mc] H fun v H_ =>
  ∃ r : Addr, v = .pointer (some r) ∧ cellH H_ (a.add 0) = some (.slice xA xn xc) ∧ ∃ (xA2 : Option Addr) (xn2 xc2 : Nat), cellH H_ (r.add 1) = some (.slice xA2 xn2 xc2) ∧ LoopI (σ := Int) (fun κ => κ 0 H_) fun s z H_2 next =>
  cond (decide (s < ((xn2 : Nat) : Int))) (∃ a2 : Addr, vA = some a2 ∧ 0 ≤ s ∧ s < ((vn : Nat) : Int) ∧ ∃ (xA3 : Option Addr) (xn3 xc3 : Nat), cellH H_2 (r.add 1) = some (.slice xA3 xn3 xc3) ∧ ∃ (xA4 : Option Addr) (xn4 xc4 : Nat), cellH H_2 (r.add 1) = some (.slice xA4 xn4 xc4) ∧ ∃ a3 : Addr, xA4 = some a3 ∧ 0 ≤ s ∧ s < ((xn4 : Nat) : Int) ∧ ∃ (xA5 : Option Addr) (xn5 xc5 : Nat), cellH H_2 (a3.add (Int.toNat s)) = some (.slice xA5 xn5 xc5) ∧ ∃ x : Int, cellH H_2 (a2.add (Int.toNat s)) = some (.int .u64 x) ∧ NewH (H_2.push (.cells #[.int .u64 x] 22 (0, 0))) fun H_3 =>
  cellH H_3 (a3.add (Int.toNat s)) = some (.slice xA5 xn5 xc5) ∧ cellH H_3 (r.add 1) = some (.slice xA4 xn4 xc4) ∧ cellH H_3 (r.add 1) = some (.slice xA3 xn3 xc3) ∧ AppendV 22 1 8 [.int .u64 0] H_3 xA5 xn5 xc5 (some (Addr.mk H_2.size 0 none)) 1 fun vA2 vn2 vc2 H_4 =>
  cellH H_4 (r.add 1) = some (.slice xA3 xn3 xc3) ∧ ∃ a4 : Addr, xA3 = some a4 ∧ 0 ≤ s ∧ s < ((xn3 : Nat) : Int) ∧ MayWrite H_4 (a4.add (Int.toNat s)) 1 ∧ NewH (setH H_4 (a4.add (Int.toNat s)) (.slice vA2 vn2 vc2)) fun H_5 =>
  next (IntKind.i64.wrap (s + 1)) H_5)
   (CallH P N.matrix_grid_reduce [.pointer (some r), .int .i64 ((xn : Nat) : Int)] H_2 fun v3 H_6 =>
  ∃ r2 : Addr, v3 = .pointer (some r2) ∧ 0 ≤ ((xn : Nat) : Int) ∧ ((xn : Nat) : Int) ≤ ((xn : Nat) : Int) ∧ ((xn : Nat) : Int) * 8 ≤ 2 ^ 48 ∧ ((xn : Nat) : Int) < 2 ^ 62 ∧ NewH (H_6.push (.cells (repl (Int.toNat ((xn : Nat) : Int)) [.int .u64 0]).toArray 22 (0, 0))) fun H_7 =>
  ∃ (xA6 : Option Addr) (xn6 xc6 : Nat), cellH H_7 (r.add 1) = some (.slice xA6 xn6 xc6) ∧ LoopI (σ := Int) (fun κ => κ 0 H_7) fun s2 z2 H_8 next2 =>
  cond (decide (s2 < ((xn6 : Nat) : Int))) (∃ a5 : Addr, xA6 = some a5 ∧ 0 ≤ s2 ∧ s2 < ((xn6 : Nat) : Int) ∧ ∃ (xA7 : Option Addr) (xn7 xc7 : Nat), cellH H_8 (a5.add (Int.toNat s2)) = some (.slice xA7 xn7 xc7) ∧ ∃ (xA8 : Option Addr) (xn8 xc8 : Nat), cellH H_8 (r.add 3) = some (.slice xA8 xn8 xc8) ∧ cond (decide (s2 < ((xn8 : Nat) : Int))) (∃ a6 : Addr, xA7 = some a6 ∧ 0 ≤ ((xn : Nat) : Int) ∧ ((xn : Nat) : Int) < ((xn7 : Nat) : Int) ∧ ∃ (xA9 : Option Addr) (xn9 xc9 : Nat), cellH H_8 (r.add 3) = some (.slice xA9 xn9 xc9) ∧ ∃ a7 : Addr, xA9 = some a7 ∧ 0 ≤ s2 ∧ s2 < ((xn9 : Nat) : Int) ∧ ∃ x2 : Int, cellH H_8 (a7.add (Int.toNat s2)) = some (.int .i64 x2) ∧ ∃ x3 : Int, cellH H_8 (a6.add (Int.toNat ((xn : Nat) : Int))) = some (.int .u64 x3) ∧ ∃ a8 : Addr, (some (Addr.mk H_6.size 0 none) : Option Addr) = some a8 ∧ 0 ≤ x2 ∧ x2 < ((Int.toNat ((xn : Nat) : Int) : Nat) : Int) ∧ MayWrite H_8 (a8.add (Int.toNat x2)) 1 ∧ NewH (setH H_8 (a8.add (Int.toNat x2)) (.int .u64 x3)) fun H_9 =>
  next2 (IntKind.i64.wrap (s2 + 1)) H_9)
   (∃ a9 : Addr, xA7 = some a9 ∧ 0 ≤ ((xn : Nat) : Int) ∧ ((xn : Nat) : Int) < ((xn7 : Nat) : Int) ∧ ∃ x4 : Int, cellH H_8 (a9.add (Int.toNat ((xn : Nat) : Int))) = some (.int .u64 x4) ∧ cond (x4 != 0) (R (.tuple #[.slice none 0 0, .bool false]) H_8)
   (next2 (IntKind.i64.wrap (s2 + 1)) H_8)))
   (R (.tuple #[.slice (some (Addr.mk H_6.size 0 none)) (Int.toNat ((xn : Nat) : Int)) (Int.toNat ((xn : Nat) : Int)), .bool true]) H_8))
theorem matrix_Answer.ok (p : Int) (mA : Option Addr) (mn mc : Nat) (vA : Option Addr) (vn vc : Nat) (H : Heap) (R : Value → Heap → Prop) (h : matrix_Answer.W p mA mn mc vA vn vc H R) : CallH P N.matrix_Answer ([.int .u64 p, .slice mA mn mc, .slice vA vn vc] : List Value) H R := by
  have e : matrix_Answer.W p mA mn mc vA vn vc H R = sxFn P T Sh.R nf matrix_Answer.A Try.f116.results.toList (bodyOf Try.f116) (([(.int .u64 p : Value), (.slice mA mn mc : Value), (.slice vA vn vc : Value)] : List Value) ++ List.replicate (93 - ([(.int .u64 p : Value), (.slice mA mn mc : Value), (.slice vA vn vc : Value)] : List Value).length) undef) H R := by kernel_rfl
  exact call_of_sx fits bodies mixed Try.func116 (c := bodyOf Try.f116) (by kernel_rfl) Try.ntmps116 matrix_Answer.A (by kernel_rfl) (e.mp h)
def matrix_own.A : Ann where
  loops := fun i => match i with
    | 12294 => [(13, .int .i64)]
    | _ => []
  plans := fun i => match i with
    | 5 => .first 0 (.first 1 (.first 2 (.first 3 (.first 5 (.read 4 (.alt 6 [] (.alt 7 [] (.alt 8 [4] (.first 9 (.first 10 (.alt 11 [] (.done) (.stop)))) (.stop)) (.stop)) (.stop)))))))
    | _ => .stop
def matrix_own.W (p : Int) (mA : Option Addr) (mn mc : Nat) (H : Heap) (R : Value → Heap → Prop) : Prop :=
  NewH (H.push (.cells #[.int .u64 p, .slice none 0 0, .int .u64 1, .slice none 0 0] 166 (0, 0))) fun H_ =>
  LoopI (σ := Int) (fun κ => κ 0 H_) fun s z H_2 next =>
  cond (decide (s < ((mn : Nat) : Int))) (∃ a : Addr, mA = some a ∧ 0 ≤ s ∧ s < ((mn : Nat) : Int) ∧ ∃ (xA : Option Addr) (xn xc : Nat), cellH H_2 (a.add (Int.toNat s)) = some (.slice xA xn xc) ∧ ∃ (xA2 : Option Addr) (xn2 xc2 : Nat), cellH H_2 (((Addr.mk H.size 0 none)).add 1) = some (.slice xA2 xn2 xc2) ∧ CallH P N.slices_Clone_uint64uint64 [.slice xA xn xc] H_2 fun v H_3 =>
  ∃ (rA : Option Addr) (rn rc : Nat), v = .slice rA rn rc ∧ cellH H_3 (((Addr.mk H.size 0 none)).add 1) = some (.slice xA2 xn2 xc2) ∧ NewH (H_3.push (.cells #[.slice rA rn rc] 30 (0, 0))) fun H_4 =>
  cellH H_4 (((Addr.mk H.size 0 none)).add 1) = some (.slice xA2 xn2 xc2) ∧ AppendV 30 1 24 [.slice none 0 0] H_4 xA2 xn2 xc2 (some (Addr.mk H_3.size 0 none)) 1 fun vA vn vc H_5 =>
  MayWrite H_5 (((Addr.mk H.size 0 none)).add 1) 1 ∧ NewH (setH H_5 (((Addr.mk H.size 0 none)).add 1) (.slice vA vn vc)) fun H_6 =>
  next (IntKind.i64.wrap (s + 1)) H_6)
   (R (.pointer (some (Addr.mk H.size 0 none))) H_2)
theorem matrix_own.ok (p : Int) (mA : Option Addr) (mn mc : Nat) (H : Heap) (R : Value → Heap → Prop) (h : matrix_own.W p mA mn mc H R) : CallH P N.matrix_own ([.int .u64 p, .slice mA mn mc] : List Value) H R := by
  have e : matrix_own.W p mA mn mc H R = sxFn P T Sh.R nf matrix_own.A Try.f135.results.toList (bodyOf Try.f135) (([(.int .u64 p : Value), (.slice mA mn mc : Value)] : List Value) ++ List.replicate (30 - ([(.int .u64 p : Value), (.slice mA mn mc : Value)] : List Value).length) undef) H R := by kernel_rfl
  exact call_of_sx fits bodies mixed Try.func135 (c := bodyOf Try.f135) (by kernel_rfl) Try.ntmps135 matrix_own.A (by kernel_rfl) (e.mp h)
def matrix_grid_reduce.A : Ann where
  loops := fun i => match i with
    | 8195 => [(5, .int .i64)]
    | 28683 => [(41, .int .i64)]
    | _ => []
  plans := fun i => match i with
    | 2 => .first 0 (.first 1 (.first 2 (.first 3 (.first 4 (.first 5 (.first 6 (.first 9 (.first 10 (.first 11 (.read 7 (.first 8 (.read 12 (.first 13 (.first 14 (.first 15 (.done))))))))))))))))
    | 10 => .first 0 (.first 1 (.first 2 (.first 3 (.first 4 (.first 5 (.first 7 (.first 8 (.first 9 (.first 11 (.first 14 (.read 6 (.read 10 (.first 12 (.read 13 (.first 15 (.read 16 (.alt 17 [6, 10, 13, 16] (.alt 18 [] (.done) (.stop)) (.stop))))))))))))))))))
    | _ => .stop
def matrix_grid_reduce.W (g : Addr) (columns : Int) (H : Heap) (R : Value → Heap → Prop) : Prop :=
  LoopI (σ := Int) (fun κ => κ 0 H) fun s z H_ next =>
  cond (decide (s < columns)) (∃ (xA : Option Addr) (xn xc : Nat), cellH H_ (g.add 3) = some (.slice xA xn xc) ∧ ∃ (xA2 : Option Addr) (xn2 xc2 : Nat), cellH H_ (g.add 1) = some (.slice xA2 xn2 xc2) ∧ cond (decide (((xn : Nat) : Int) < ((xn2 : Nat) : Int))) (∃ (xA3 : Option Addr) (xn3 xc3 : Nat), cellH H_ (g.add 3) = some (.slice xA3 xn3 xc3) ∧ CallH P N.matrix_grid_lift [.pointer (some g), .int .i64 ((xn3 : Nat) : Int), .int .i64 s] H_ fun v H_2 =>
  ∃ r : Bool, v = .bool r ∧ cond (!r) (next (IntKind.i64.wrap (s + 1)) H_2)
   (∃ (xA4 : Option Addr) (xn4 xc4 : Nat), cellH H_2 (g.add 1) = some (.slice xA4 xn4 xc4) ∧ LoopI (σ := Int) (fun κ => κ 0 H_2) fun s2 z2 H_3 next2 =>
  cond (decide (s2 < ((xn4 : Nat) : Int))) (cond (s2 != ((xn3 : Nat) : Int)) (∃ x : Int, cellH H_3 g = some (.int .u64 x) ∧ ∃ (xA5 : Option Addr) (xn5 xc5 : Nat), cellH H_3 (g.add 1) = some (.slice xA5 xn5 xc5) ∧ ∃ a : Addr, xA5 = some a ∧ 0 ≤ s2 ∧ s2 < ((xn5 : Nat) : Int) ∧ ∃ (xA6 : Option Addr) (xn6 xc6 : Nat), cellH H_3 (a.add (Int.toNat s2)) = some (.slice xA6 xn6 xc6) ∧ ∃ a2 : Addr, xA6 = some a2 ∧ 0 ≤ s ∧ s < ((xn6 : Nat) : Int) ∧ ∃ x2 : Int, cellH H_3 (a2.add (Int.toNat s)) = some (.int .u64 x2) ∧ CallH P N.field_Minus [.int .u64 x, .int .u64 0, .int .u64 x2] H_3 fun v2 H_4 =>
  ∃ r2 : Int, v2 = .int .u64 r2 ∧ CallH P N.matrix_grid_add [.pointer (some g), .int .i64 s2, .int .i64 ((xn3 : Nat) : Int), .int .u64 r2] H_4 fun v3 H_5 =>
  v3 = .tuple #[] ∧ next2 (IntKind.i64.wrap (s2 + 1)) H_5)
   (next2 (IntKind.i64.wrap (s2 + 1)) H_3))
   (∃ (xA7 : Option Addr) (xn7 xc7 : Nat), cellH H_3 (g.add 3) = some (.slice xA7 xn7 xc7) ∧ NewH (H_3.push (.cells #[.int .i64 s] 3 (0, 0))) fun H_6 =>
  AppendV 3 1 8 [.int .i64 0] H_6 xA7 xn7 xc7 (some (Addr.mk H_3.size 0 none)) 1 fun vA vn vc H_7 =>
  MayWrite H_7 (g.add 3) 1 ∧ NewH (setH H_7 (g.add 3) (.slice vA vn vc)) fun H_8 =>
  next (IntKind.i64.wrap (s + 1)) H_8)))
   (R (.pointer (some g)) H_)) (R (.pointer (some g)) H_)
theorem matrix_grid_reduce.ok (g : Addr) (columns : Int) (H : Heap) (R : Value → Heap → Prop) (h : matrix_grid_reduce.W g columns H R) : CallH P N.matrix_grid_reduce ([.pointer (some g), .int .i64 columns] : List Value) H R := by
  have e : matrix_grid_reduce.W g columns H R = sxFn P T Sh.R nf matrix_grid_reduce.A Try.f136.results.toList (bodyOf Try.f136) (([(.pointer (some g) : Value), (.int .i64 columns : Value)] : List Value) ++ List.replicate (78 - ([(.pointer (some g) : Value), (.int .i64 columns : Value)] : List Value).length) undef) H R := by kernel_rfl
  exact call_of_sx fits bodies mixed Try.func136 (c := bodyOf Try.f136) (by kernel_rfl) Try.ntmps136 matrix_grid_reduce.A (by kernel_rfl) (e.mp h)
def matrix_grid_lift.A : Ann where
  loops := fun i => match i with
    | 8195 => [(7, .int .i64)]
    | 49167 => [(102, .int .i64)]
    | _ => []
  plans := fun i => match i with
    | 7 => .first 0 (.first 1 (.first 2 (.first 4 (.first 5 (.first 6 (.first 7 (.first 9 (.first 10 (.first 11 (.first 12 (.first 14 (.first 17 (.first 18 (.first 19 (.first 21 (.read 3 (.read 8 (.read 13 (.first 15 (.read 16 (.read 20 (.first 22 (.read 23 (.first 24 (.alt 25 [3, 8, 13, 16, 20, 23] (.first 26 (.alt 27 [] (.done) (.stop))) (.stop))))))))))))))))))))))))))
    | 8 => .first 0 (.first 1 (.first 2 (.first 3 (.first 5 (.first 6 (.first 7 (.read 4 (.read 8 (.alt 9 [4, 8] (.first 10 (.first 11 (.alt 12 [] (.done) (.stop)))) (.stop))))))))))
    | 9 => .first 0 (.first 1 (.first 2 (.first 3 (.first 5 (.first 6 (.first 7 (.first 9 (.read 4 (.read 8 (.alt 10 [4, 8] (.first 11 (.first 12 (.alt 13 [] (.done) (.stop)))) (.stop)))))))))))
    | 14 => .first 0 (.first 1 (.first 2 (.first 4 (.first 7 (.first 8 (.first 9 (.first 10 (.first 12 (.first 13 (.read 3 (.first 5 (.read 6 (.read 11 (.alt 14 [11] (.first 15 (.alt 16 [3, 6] (.done) (.stop))) (.stop)))))))))))))))
    | _ => .stop
def matrix_grid_lift.W (g : Addr) (at_ : Int) (column : Int) (H : Heap) (R : Value → Heap → Prop) : Prop :=
  LoopI (σ := Int) (fun κ => κ at_ H) fun s z H_ next =>
  ∃ (xA : Option Addr) (xn xc : Nat), cellH H_ (g.add 1) = some (.slice xA xn xc) ∧ cond (decide (s < ((xn : Nat) : Int))) (∃ (xA2 : Option Addr) (xn2 xc2 : Nat), cellH H_ (g.add 1) = some (.slice xA2 xn2 xc2) ∧ ∃ a : Addr, xA2 = some a ∧ 0 ≤ s ∧ s < ((xn2 : Nat) : Int) ∧ ∃ (xA3 : Option Addr) (xn3 xc3 : Nat), cellH H_ (a.add (Int.toNat s)) = some (.slice xA3 xn3 xc3) ∧ ∃ a2 : Addr, xA3 = some a2 ∧ 0 ≤ column ∧ column < ((xn3 : Nat) : Int) ∧ ∃ x : Int, cellH H_ (a2.add (Int.toNat column)) = some (.int .u64 x) ∧ cond (x == 0) (next (IntKind.i64.wrap (s + 1)) H_)
   (cond (s != at_) (∃ (xA4 : Option Addr) (xn4 xc4 : Nat), cellH H_ (g.add 1) = some (.slice xA4 xn4 xc4) ∧ ∃ (xA5 : Option Addr) (xn5 xc5 : Nat), cellH H_ (g.add 1) = some (.slice xA5 xn5 xc5) ∧ ∃ (xA6 : Option Addr) (xn6 xc6 : Nat), cellH H_ (g.add 1) = some (.slice xA6 xn6 xc6) ∧ ∃ a3 : Addr, xA6 = some a3 ∧ 0 ≤ at_ ∧ at_ < ((xn6 : Nat) : Int) ∧ ∃ (xA7 : Option Addr) (xn7 xc7 : Nat), cellH H_ (a3.add (Int.toNat at_)) = some (.slice xA7 xn7 xc7) ∧ ∃ (xA8 : Option Addr) (xn8 xc8 : Nat), cellH H_ (g.add 1) = some (.slice xA8 xn8 xc8) ∧ ∃ a4 : Addr, xA8 = some a4 ∧ 0 ≤ s ∧ s < ((xn8 : Nat) : Int) ∧ ∃ (xA9 : Option Addr) (xn9 xc9 : Nat), cellH H_ (a4.add (Int.toNat s)) = some (.slice xA9 xn9 xc9) ∧ ∃ a5 : Addr, xA4 = some a5 ∧ 0 ≤ s ∧ s < ((xn4 : Nat) : Int) ∧ MayWrite H_ (a5.add (Int.toNat s)) 1 ∧ NewH (setH H_ (a5.add (Int.toNat s)) (.slice xA7 xn7 xc7)) fun H_2 =>
  ∃ a6 : Addr, xA5 = some a6 ∧ 0 ≤ at_ ∧ at_ < ((xn5 : Nat) : Int) ∧ MayWrite H_2 (a6.add (Int.toNat at_)) 1 ∧ NewH (setH H_2 (a6.add (Int.toNat at_)) (.slice xA9 xn9 xc9)) fun H_3 =>
  ∃ x2 : Int, cellH H_3 g = some (.int .u64 x2) ∧ ∃ x3 : Int, cellH H_3 (g.add 2) = some (.int .u64 x3) ∧ CallH P N.field_Minus [.int .u64 x2, .int .u64 0, .int .u64 x3] H_3 fun v H_4 =>
  ∃ r : Int, v = .int .u64 r ∧ MayWrite H_4 (g.add 2) 1 ∧ NewH (setH H_4 (g.add 2) (.int .u64 r)) fun H_5 =>
  ∃ x4 : Int, cellH H_5 g = some (.int .u64 x4) ∧ ∃ x5 : Int, cellH H_5 (g.add 2) = some (.int .u64 x5) ∧ CallH P N.field_Times [.int .u64 x4, .int .u64 x5, .int .u64 x] H_5 fun v2 H_6 =>
  ∃ r2 : Int, v2 = .int .u64 r2 ∧ MayWrite H_6 (g.add 2) 1 ∧ NewH (setH H_6 (g.add 2) (.int .u64 r2)) fun H_7 =>
  ∃ x6 : Int, cellH H_7 g = some (.int .u64 x6) ∧ CallH P N.field_Over [.int .u64 x6, .int .u64 x] H_7 fun v3 H_8 =>
  ∃ r3 : Int, v3 = .int .u64 r3 ∧ ∃ (xA10 : Option Addr) (xn10 xc10 : Nat), cellH H_8 (g.add 1) = some (.slice xA10 xn10 xc10) ∧ ∃ a7 : Addr, xA10 = some a7 ∧ 0 ≤ at_ ∧ at_ < ((xn10 : Nat) : Int) ∧ ∃ (xA11 : Option Addr) (xn11 xc11 : Nat), cellH H_8 (a7.add (Int.toNat at_)) = some (.slice xA11 xn11 xc11) ∧ LoopI (σ := Int) (fun κ => κ 0 H_8) fun s2 z2 H_9 next2 =>
  cond (decide (s2 < ((xn11 : Nat) : Int))) (∃ a8 : Addr, xA11 = some a8 ∧ 0 ≤ s2 ∧ s2 < ((xn11 : Nat) : Int) ∧ ∃ x7 : Int, cellH H_9 (a8.add (Int.toNat s2)) = some (.int .u64 x7) ∧ ∃ (xA12 : Option Addr) (xn12 xc12 : Nat), cellH H_9 (g.add 1) = some (.slice xA12 xn12 xc12) ∧ ∃ a9 : Addr, xA12 = some a9 ∧ 0 ≤ at_ ∧ at_ < ((xn12 : Nat) : Int) ∧ ∃ (xA13 : Option Addr) (xn13 xc13 : Nat), cellH H_9 (a9.add (Int.toNat at_)) = some (.slice xA13 xn13 xc13) ∧ ∃ x8 : Int, cellH H_9 g = some (.int .u64 x8) ∧ CallH P N.field_Times [.int .u64 x8, .int .u64 x7, .int .u64 r3] H_9 fun v4 H_10 =>
  ∃ r4 : Int, v4 = .int .u64 r4 ∧ cellH H_10 (a9.add (Int.toNat at_)) = some (.slice xA13 xn13 xc13) ∧ cellH H_10 (g.add 1) = some (.slice xA12 xn12 xc12) ∧ ∃ a10 : Addr, xA13 = some a10 ∧ 0 ≤ s2 ∧ s2 < ((xn13 : Nat) : Int) ∧ MayWrite H_10 (a10.add (Int.toNat s2)) 1 ∧ NewH (setH H_10 (a10.add (Int.toNat s2)) (.int .u64 r4)) fun H_11 =>
  next2 (IntKind.i64.wrap (s2 + 1)) H_11)
   (R (.bool true) H_9))
   (∃ x9 : Int, cellH H_ g = some (.int .u64 x9) ∧ ∃ x10 : Int, cellH H_ (g.add 2) = some (.int .u64 x10) ∧ CallH P N.field_Times [.int .u64 x9, .int .u64 x10, .int .u64 x] H_ fun v5 H_12 =>
  ∃ r5 : Int, v5 = .int .u64 r5 ∧ MayWrite H_12 (g.add 2) 1 ∧ NewH (setH H_12 (g.add 2) (.int .u64 r5)) fun H_13 =>
  ∃ x11 : Int, cellH H_13 g = some (.int .u64 x11) ∧ CallH P N.field_Over [.int .u64 x11, .int .u64 x] H_13 fun v6 H_14 =>
  ∃ r6 : Int, v6 = .int .u64 r6 ∧ ∃ (xA14 : Option Addr) (xn14 xc14 : Nat), cellH H_14 (g.add 1) = some (.slice xA14 xn14 xc14) ∧ ∃ a11 : Addr, xA14 = some a11 ∧ 0 ≤ at_ ∧ at_ < ((xn14 : Nat) : Int) ∧ ∃ (xA15 : Option Addr) (xn15 xc15 : Nat), cellH H_14 (a11.add (Int.toNat at_)) = some (.slice xA15 xn15 xc15) ∧ LoopI (σ := Int) (fun κ => κ 0 H_14) fun s3 z3 H_15 next3 =>
  cond (decide (s3 < ((xn15 : Nat) : Int))) (∃ a12 : Addr, xA15 = some a12 ∧ 0 ≤ s3 ∧ s3 < ((xn15 : Nat) : Int) ∧ ∃ x12 : Int, cellH H_15 (a12.add (Int.toNat s3)) = some (.int .u64 x12) ∧ ∃ (xA16 : Option Addr) (xn16 xc16 : Nat), cellH H_15 (g.add 1) = some (.slice xA16 xn16 xc16) ∧ ∃ a13 : Addr, xA16 = some a13 ∧ 0 ≤ at_ ∧ at_ < ((xn16 : Nat) : Int) ∧ ∃ (xA17 : Option Addr) (xn17 xc17 : Nat), cellH H_15 (a13.add (Int.toNat at_)) = some (.slice xA17 xn17 xc17) ∧ ∃ x13 : Int, cellH H_15 g = some (.int .u64 x13) ∧ CallH P N.field_Times [.int .u64 x13, .int .u64 x12, .int .u64 r6] H_15 fun v7 H_16 =>
  ∃ r7 : Int, v7 = .int .u64 r7 ∧ cellH H_16 (a13.add (Int.toNat at_)) = some (.slice xA17 xn17 xc17) ∧ cellH H_16 (g.add 1) = some (.slice xA16 xn16 xc16) ∧ ∃ a14 : Addr, xA17 = some a14 ∧ 0 ≤ s3 ∧ s3 < ((xn17 : Nat) : Int) ∧ MayWrite H_16 (a14.add (Int.toNat s3)) 1 ∧ NewH (setH H_16 (a14.add (Int.toNat s3)) (.int .u64 r7)) fun H_17 =>
  next3 (IntKind.i64.wrap (s3 + 1)) H_17)
   (R (.bool true) H_15))))
   (R (.bool false) H_)
theorem matrix_grid_lift.ok (g : Addr) (at_ : Int) (column : Int) (H : Heap) (R : Value → Heap → Prop) (h : matrix_grid_lift.W g at_ column H R) : CallH P N.matrix_grid_lift ([.pointer (some g), .int .i64 at_, .int .i64 column] : List Value) H R := by
  have e : matrix_grid_lift.W g at_ column H R = sxFn P T Sh.R nf matrix_grid_lift.A Try.f155.results.toList (bodyOf Try.f155) (([(.pointer (some g) : Value), (.int .i64 at_ : Value), (.int .i64 column : Value)] : List Value) ++ List.replicate (124 - ([(.pointer (some g) : Value), (.int .i64 at_ : Value), (.int .i64 column : Value)] : List Value).length) undef) H R := by kernel_rfl
  exact call_of_sx fits bodies mixed Try.func155 (c := bodyOf Try.f155) (by kernel_rfl) Try.ntmps155 matrix_grid_lift.A (by kernel_rfl) (e.mp h)
def matrix_grid_add.A : Ann where
  loops := fun i => match i with
    | 4100 => [(18, .int .i64)]
    | _ => []
  plans := fun i => match i with
    | 3 => .first 0 (.first 1 (.first 2 (.first 4 (.first 7 (.first 8 (.first 9 (.first 10 (.first 12 (.first 13 (.first 14 (.first 16 (.first 19 (.first 22 (.first 23 (.first 24 (.first 26 (.first 27 (.read 3 (.first 5 (.read 6 (.read 11 (.read 15 (.first 17 (.read 18 (.first 20 (.read 21 (.read 25 (.alt 28 [25] (.alt 29 [11, 15, 18, 21] (.first 30 (.alt 31 [3, 6] (.done) (.stop))) (.stop)) (.stop)))))))))))))))))))))))))))))
    | _ => .stop
def matrix_grid_add.W (g : Addr) (to_ : Int) (from_ : Int) (k : Int) (H : Heap) (R : Value → Heap → Prop) : Prop :=
  ∃ (xA : Option Addr) (xn xc : Nat), cellH H (g.add 1) = some (.slice xA xn xc) ∧ ∃ a : Addr, xA = some a ∧ 0 ≤ from_ ∧ from_ < ((xn : Nat) : Int) ∧ ∃ (xA2 : Option Addr) (xn2 xc2 : Nat), cellH H (a.add (Int.toNat from_)) = some (.slice xA2 xn2 xc2) ∧ LoopI (σ := Int) (fun κ => κ 0 H) fun s z H_ next =>
  cond (decide (s < ((xn2 : Nat) : Int))) (∃ a2 : Addr, xA2 = some a2 ∧ 0 ≤ s ∧ s < ((xn2 : Nat) : Int) ∧ ∃ x : Int, cellH H_ (a2.add (Int.toNat s)) = some (.int .u64 x) ∧ ∃ (xA3 : Option Addr) (xn3 xc3 : Nat), cellH H_ (g.add 1) = some (.slice xA3 xn3 xc3) ∧ ∃ a3 : Addr, xA3 = some a3 ∧ 0 ≤ to_ ∧ to_ < ((xn3 : Nat) : Int) ∧ ∃ (xA4 : Option Addr) (xn4 xc4 : Nat), cellH H_ (a3.add (Int.toNat to_)) = some (.slice xA4 xn4 xc4) ∧ ∃ x2 : Int, cellH H_ g = some (.int .u64 x2) ∧ ∃ (xA5 : Option Addr) (xn5 xc5 : Nat), cellH H_ (g.add 1) = some (.slice xA5 xn5 xc5) ∧ ∃ a4 : Addr, xA5 = some a4 ∧ 0 ≤ to_ ∧ to_ < ((xn5 : Nat) : Int) ∧ ∃ (xA6 : Option Addr) (xn6 xc6 : Nat), cellH H_ (a4.add (Int.toNat to_)) = some (.slice xA6 xn6 xc6) ∧ ∃ a5 : Addr, xA6 = some a5 ∧ 0 ≤ s ∧ s < ((xn6 : Nat) : Int) ∧ ∃ x3 : Int, cellH H_ (a5.add (Int.toNat s)) = some (.int .u64 x3) ∧ ∃ x4 : Int, cellH H_ g = some (.int .u64 x4) ∧ CallH P N.field_Times [.int .u64 x4, .int .u64 x, .int .u64 k] H_ fun v H_2 =>
  ∃ r : Int, v = .int .u64 r ∧ cellH H_2 (a5.add (Int.toNat s)) = some (.int .u64 x3) ∧ cellH H_2 (a4.add (Int.toNat to_)) = some (.slice xA6 xn6 xc6) ∧ cellH H_2 (g.add 1) = some (.slice xA5 xn5 xc5) ∧ cellH H_2 g = some (.int .u64 x2) ∧ cellH H_2 (a3.add (Int.toNat to_)) = some (.slice xA4 xn4 xc4) ∧ cellH H_2 (g.add 1) = some (.slice xA3 xn3 xc3) ∧ CallH P N.field_Plus [.int .u64 x2, .int .u64 x3, .int .u64 r] H_2 fun v2 H_3 =>
  ∃ r2 : Int, v2 = .int .u64 r2 ∧ cellH H_3 (a3.add (Int.toNat to_)) = some (.slice xA4 xn4 xc4) ∧ cellH H_3 (g.add 1) = some (.slice xA3 xn3 xc3) ∧ ∃ a6 : Addr, xA4 = some a6 ∧ 0 ≤ s ∧ s < ((xn4 : Nat) : Int) ∧ MayWrite H_3 (a6.add (Int.toNat s)) 1 ∧ NewH (setH H_3 (a6.add (Int.toNat s)) (.int .u64 r2)) fun H_4 =>
  next (IntKind.i64.wrap (s + 1)) H_4)
   (R (.tuple #[]) H_)
theorem matrix_grid_add.ok (g : Addr) (to_ : Int) (from_ : Int) (k : Int) (H : Heap) (R : Value → Heap → Prop) (h : matrix_grid_add.W g to_ from_ k H R) : CallH P N.matrix_grid_add ([.pointer (some g), .int .i64 to_, .int .i64 from_, .int .u64 k] : List Value) H R := by
  have e : matrix_grid_add.W g to_ from_ k H R = sxFn P T Sh.R nf matrix_grid_add.A Try.f156.results.toList (bodyOf Try.f156) (([(.pointer (some g) : Value), (.int .i64 to_ : Value), (.int .i64 from_ : Value), (.int .u64 k : Value)] : List Value) ++ List.replicate (55 - ([(.pointer (some g) : Value), (.int .i64 to_ : Value), (.int .i64 from_ : Value), (.int .u64 k : Value)] : List Value).length) undef) H R := by kernel_rfl
  exact call_of_sx fits bodies mixed Try.func156 (c := bodyOf Try.f156) (by kernel_rfl) Try.ntmps156 matrix_grid_add.A (by kernel_rfl) (e.mp h)
end Go.Proofs.Ytlhcaangdenoaaa.Sh
namespace Go.Proofs.Ytlhcaangdenoaaa.Sh
open Go.Sx Go.Lf
def matrix_own.C (p : Nat) (m : (List (List Nat))) (K : TGrid → Prop) : Prop :=
  ∀ (Z : Nat → Prop) (τ : Nat → Nat) (H : Heap), (∀ i, τ i ≠ 0 → ¬ Z i) → ∀ (pv : Int), pv = (p : Int) → ∀ (mA : Option Addr) (mn mc : Nat), mn = m.length → SlF (slL u64L) Z H mA mc m → ∀ KK : Value → Heap → Prop,
    (∀ (Z' : Nat → Prop) (τ' : Nat → Nat) (H' : Heap), Turn τ H τ' H' → OldT Z τ H Z' → (∀ i, τ' i ≠ 0 → ¬ Z' i) → ∀ (r0 : TGrid) (gr0 : Nat), ∀ (vr0_0 : Int), vr0_0 = (r0.p : Int) → ∀ (Ar0_1 : Option Addr) (nr0_1 cr0_1 : Nat), nr0_1 = r0.rows.length → SlO (slM (rdM u64L) 22) 30 Z' (Yt τ' 2) H' Ar0_1 cr0_1 r0.rows → ∀ (vr0_2 : Int), vr0_2 = (r0.det : Int) → ∀ (Ar0_3 : Option Addr) (nr0_3 cr0_3 : Nat), nr0_3 = r0.lead.length → SlO (rdM i64L) 3 Z' (Yt τ' 3) H' Ar0_3 cr0_3 r0.lead → BoxF 1 τ' H' gr0 [.int .u64 vr0_0, .slice Ar0_1 nr0_1 cr0_1, .int .u64 vr0_2, .slice Ar0_3 nr0_3 cr0_3] 166 → K r0 → KK (.pointer (some (Addr.mk gr0 0 none))) H') →
    CallH P N.matrix_own [.int .u64 pv, .slice mA mn mc] H KK
def matrix_own.Q (p : Nat) (m : (List (List Nat))) (K : TGrid → Prop) : Prop :=
  LoopQ (τ := Int × TGrid) (0, (⟨p, ([] : List (List Nat)), 1, ([] : List Int)⟩ : TGrid)) fun t nextQ =>
  cond (decide (t.1 < ((m.length : Nat) : Int))) (0 ≤ t.1 ∧ ∃ x3 : (List Nat), m[Int.toNat t.1]? = some x3 ∧ slices_Clone_uint64uint64.C x3 (fun (x4 : (List Nat)) =>
  AppOk 24 (t.2.rows ++ ([x4] : List (List Nat))).length ∧ nextQ (IntKind.i64.wrap (t.1 + 1), (⟨t.2.p, (t.2.rows ++ ([x4] : List (List Nat))), t.2.det, t.2.lead⟩ : TGrid))))
   (K t.2)
theorem matrix_own.q {p : Nat} {m : (List (List Nat))} {K : TGrid → Prop} (q : matrix_own.Q p m K) : matrix_own.C p m K := by
  intro Z τ H hτ pv he mA mn mc hn f KK hk
  cases he
  cases hn
  apply matrix_own.ok
  unfold matrix_own.W
  unfold matrix_own.Q at q
  obtain ⟨σ, hz, hy, hσ⟩ := tags2 Z τ 0 hτ
  have hs : Stp ([1, 2, 3, 4, 5] : List Nat) σ H σ H := Stp.refl _ _ _
  replace f := f.wide hz
  clear hz
  clear hy
  refine NewH.mk fun H_ e => ?_
  obtain ⟨xσ, st, b⟩ := BoxF.new σ 1 e
  replace f := f.step st
  replace hs := hs.trans st
  have f2 := SlO.nil (slM (rdM u64L) 22) 30 (Zt xσ) (Yt xσ 2) H_
  have f3 := SlO.nil (rdM i64L) 3 (Zt xσ) (Yt xσ 3) H_
  refine LoopI.ofQ q (fun t_ s_ hp_ => ∃ (σ_ : Nat → Nat) (x1_0 : Int) (A1_1 : Option Addr) (n1_1 c1_1 : Nat) (x1_2 : Int) (A1_3 : Option Addr) (n1_3 c1_3 : Nat), Stp [1, 2, 4] xσ H_ σ_ hp_ ∧ t_.1 = s_ ∧ x1_0 = ((t_.2.p : Nat) : Int) ∧ n1_1 = t_.2.rows.length ∧ SlO (slM (rdM u64L) 22) 30 (Zt σ_) (Yt σ_ 2) hp_ A1_1 c1_1 t_.2.rows ∧ x1_2 = ((t_.2.det : Nat) : Int) ∧ n1_3 = t_.2.lead.length ∧ SlO (rdM i64L) 3 (Zt σ_) (Yt σ_ 3) hp_ A1_3 c1_3 t_.2.lead ∧ BoxF 1 σ_ hp_ H.size [.int .u64 x1_0, .slice A1_1 n1_1 c1_1, .int .u64 x1_2, .slice A1_3 n1_3 c1_3] 166) (fun h k => h _ _ k) ⟨_, _, _, _, _, _, _, _, _, Stp.refl _ _ _, rfl, rfl, rfl, f2, rfl, rfl, f3, b⟩ ?_
  rintro t _ _ H_2 next nextQ ⟨xσ2, x, A, n, c, x2, A2, n2, c2, st2, rfl, rfl, rfl, f4, rfl, rfl, f5, b⟩ q hnext
  try dsimp only at q ⊢
  replace f := f.step st2
  replace hs := hs.trans st2
  have sl1 := st2
  refine condI (fun q => ?_) (fun q => ?_) q
  · obtain ⟨h0, x3, hx, q⟩ := q
    obtain ⟨a, ha, hi⟩ := f.addr h0 hx rfl
    refine ⟨a, ha, hi.1, hi.2, ?_⟩
    obtain ⟨A3, c3, hc, f6⟩ := f.lds ha h0 hx
    refine ⟨_, _, _, hc.val, ?_⟩
    refine ⟨_, _, _, b.cell 1 rfl, ?_⟩
    refine q (Zt xσ2) H_2 _ _ _ rfl f6 _ (fun Z2 H_3 hE hO x4 Y hY A4 n3 c4 hn2 f7 q => ?_)
    obtain ⟨xσ3, st3, fz, fy⟩ := call1 hE hO xσ2 4 (fun _ h => h) hY
    replace f7 := f7.keep fz fy
    cases hn2
    replace f := f.step st3
    replace b := b.step st3
    replace f4 := f4.step st3
    replace f5 := f5.step st3
    replace hc := hc.step st3
    replace f6 := f6.step st3
    replace hs := hs.trans st3
    replace sl1 := sl1.trans st3
    refine ⟨_, _, _, rfl, ?_⟩
    refine ⟨(b.cell 1 rfl), ?_⟩
    refine NewH.mk fun H_4 e2 => ?_
    obtain ⟨xσ4, st4, f8⟩ := SlO.litO e2 rfl f7
    replace f := f.step st4
    replace b := b.step st4
    replace f4 := f4.step st4
    replace f5 := f5.step st4
    replace hc := hc.step st4
    replace f6 := f6.step st4
    replace hs := hs.trans st4
    replace sl1 := sl1.trans st4
    refine ⟨(b.cell 1 rfl), ?_⟩
    obtain ⟨q2, q⟩ := q
    refine SlO.appO f4 f8 rfl rfl q2.l q2.r rfl rfl (fun A5 c5 H_5 xσ5 st5 f4_ => ?_)
    replace f4 := f4_
    replace f := f.step st5
    replace b := b.step st5
    replace f5 := f5.step st5
    replace hc := hc.step st5
    replace f6 := f6.step st5
    replace hs := hs.trans st5
    replace sl1 := sl1.trans st5
    have f9 := f4; clear f4
    refine ⟨b.may 1 (show (1 : Nat) < 4 by decide), NewH.mk fun H_6 e3 => ?_⟩
    obtain ⟨st6, b⟩ := b.wrote 1 (show (1 : Nat) < 4 by decide) e3
    simp only [List.set_cons_zero, List.set_cons_succ] at b
    replace f := f.step st6
    replace f5 := f5.step st6
    replace hc := hc.step st6
    replace f6 := f6.step st6
    replace f9 := f9.step st6
    replace hs := hs.trans st6
    replace sl1 := sl1.trans st6
    exact hnext (IntKind.i64.wrap (t.1 + 1), (⟨t.2.p, (t.2.rows ++ ([x4] : List (List Nat))), t.2.det, t.2.lead⟩ : TGrid)) _ _ ⟨_, _, _, _, _, _, _, _, _, sl1, rfl, rfl, rfl, f9, rfl, rfl, f5, b⟩ q
  · exact hk (Zt xσ2) (ren [1, 2, 3] xσ2) _ (hs.turn hσ) (hs.oldT hσ) (ren_z _ _) t.2 _ _ rfl _ _ _ rfl (SlO.keep f4 (Fr.refl _ _) (Fr.wide (ren_y (js := [1, 2, 3]) (j := 2) (m := 2) (by decide) (by decide)) _)) _ rfl _ _ _ rfl (SlO.keep f5 (Fr.refl _ _) (Fr.wide (ren_y (js := [1, 2, 3]) (j := 3) (m := 3) (by decide) (by decide)) _)) ⟨b.blk, ren_y (js := [1, 2, 3]) (j := 1) (m := 1) (by decide) (by decide) _ b.tag⟩ q
def matrix_grid_lift.C (g : TGrid) (at_ : Int) (column : Int) (K : Bool → TGrid → Prop) : Prop :=
  ∀ (Z : Nat → Prop) (τ : Nat → Nat) (H : Heap), (∀ i, τ i ≠ 0 → ¬ Z i) → ∀ (gP : Nat), ∀ (v : Int), v = (g.p : Int) → ∀ (A : Option Addr) (n c : Nat), n = g.rows.length → SlO (slM (rdM u64L) 22) 30 Z (Yt τ 2) H A c g.rows → ∀ (v2 : Int), v2 = (g.det : Int) → ∀ (A2 : Option Addr) (n2 c2 : Nat), n2 = g.lead.length → SlO (rdM i64L) 3 Z (Yt τ 3) H A2 c2 g.lead → BoxF 1 τ H gP [.int .u64 v, .slice A n c, .int .u64 v2, .slice A2 n2 c2] 166 → ∀ KK : Value → Heap → Prop,
    (∀ (Z' : Nat → Prop) (τ' : Nat → Nat) (H' : Heap), Turn τ H τ' H' → OldT Z τ H Z' → (∀ i, τ' i ≠ 0 → ¬ Z' i) → ∀ (r0 : Bool), ∀ (o0 : TGrid), ∀ (vo0_0 : Int), vo0_0 = (o0.p : Int) → ∀ (Ao0_1 : Option Addr) (no0_1 co0_1 : Nat), no0_1 = o0.rows.length → SlO (slM (rdM u64L) 22) 30 Z' (Yt τ' 2) H' Ao0_1 co0_1 o0.rows → ∀ (vo0_2 : Int), vo0_2 = (o0.det : Int) → ∀ (Ao0_3 : Option Addr) (no0_3 co0_3 : Nat), no0_3 = o0.lead.length → SlO (rdM i64L) 3 Z' (Yt τ' 3) H' Ao0_3 co0_3 o0.lead → BoxF 1 τ' H' gP [.int .u64 vo0_0, .slice Ao0_1 no0_1 co0_1, .int .u64 vo0_2, .slice Ao0_3 no0_3 co0_3] 166 → K r0 o0 → KK (.bool r0) H') →
    CallH P N.matrix_grid_lift [.pointer (some (Addr.mk gP 0 none)), .int .i64 at_, .int .i64 column] H KK
def matrix_grid_lift.Q (g : TGrid) (at_ : Int) (column : Int) (K : Bool → TGrid → Prop) : Prop :=
  LoopQ (τ := Int × TGrid) (at_, g) fun t nextQ =>
  cond (decide (t.1 < ((t.2.rows.length : Nat) : Int))) (0 ≤ t.1 ∧ t.1 < ((t.2.rows.length : Nat) : Int) ∧ ∃ x3 : (List Nat), t.2.rows[Int.toNat t.1]? = some x3 ∧ 0 ≤ column ∧ column < ((x3.length : Nat) : Int) ∧ ∃ x4 : Nat, x3[Int.toNat column]? = some x4 ∧ cond ((x4 : Int) == 0) (nextQ (IntKind.i64.wrap (t.1 + 1), t.2))
   (cond (t.1 != at_) (0 ≤ at_ ∧ at_ < ((t.2.rows.length : Nat) : Int) ∧ ∃ x5 : (List Nat), t.2.rows[Int.toNat at_]? = some x5 ∧ 0 ≤ t.1 ∧ t.1 < ((t.2.rows.length : Nat) : Int) ∧ ∃ x6 : (List Nat), t.2.rows[Int.toNat t.1]? = some x6 ∧ 0 ≤ t.1 ∧ t.1 < ((t.2.rows.length : Nat) : Int) ∧ 0 ≤ at_ ∧ at_ < ((t.2.rows.length : Nat) : Int) ∧ field_Minus.C t.2.p 0 t.2.det (fun (x7 : Nat) =>
  field_Times.C t.2.p x7 x4 (fun (x8 : Nat) =>
  field_Over.C t.2.p x4 (fun (x9 : Nat) =>
  0 ≤ at_ ∧ at_ < ((t.2.rows.length : Nat) : Int) ∧ ∃ x10 : (List Nat), (List.set (List.set t.2.rows (Int.toNat t.1) x5) (Int.toNat at_) x6)[Int.toNat at_]? = some x10 ∧ LoopQ (τ := Int × List (List Nat)) (0, (List.set (List.set t.2.rows (Int.toNat t.1) x5) (Int.toNat at_) x6)) fun t2 nextQ2 =>
  cond (decide (t2.1 < ((x10.length : Nat) : Int))) (0 ≤ t2.1 ∧ t2.1 < ((x10.length : Nat) : Int) ∧ ∃ row : (List Nat), t2.2[Int.toNat at_]? = some row ∧ ∃ x11 : Nat, row[Int.toNat t2.1]? = some x11 ∧ 0 ≤ at_ ∧ at_ < ((t.2.rows.length : Nat) : Int) ∧ ∃ x12 : (List Nat), t2.2[Int.toNat at_]? = some x12 ∧ field_Times.C t.2.p x11 x9 (fun (x13 : Nat) =>
  0 ≤ t2.1 ∧ t2.1 < ((x12.length : Nat) : Int) ∧ nextQ2 (IntKind.i64.wrap (t2.1 + 1), (List.set t2.2 (Int.toNat at_) (List.set x12 (Int.toNat t2.1) x13)))))
   (K true (⟨t.2.p, t2.2, x8, t.2.lead⟩ : TGrid))))))
   (field_Times.C t.2.p t.2.det x4 (fun (x14 : Nat) =>
  field_Over.C t.2.p x4 (fun (x15 : Nat) =>
  0 ≤ at_ ∧ at_ < ((t.2.rows.length : Nat) : Int) ∧ ∃ x16 : (List Nat), t.2.rows[Int.toNat at_]? = some x16 ∧ LoopQ (τ := Int × List (List Nat)) (0, t.2.rows) fun t3 nextQ3 =>
  cond (decide (t3.1 < ((x16.length : Nat) : Int))) (0 ≤ t3.1 ∧ t3.1 < ((x16.length : Nat) : Int) ∧ ∃ row2 : (List Nat), t3.2[Int.toNat at_]? = some row2 ∧ ∃ x17 : Nat, row2[Int.toNat t3.1]? = some x17 ∧ 0 ≤ at_ ∧ at_ < ((t.2.rows.length : Nat) : Int) ∧ ∃ x18 : (List Nat), t3.2[Int.toNat at_]? = some x18 ∧ field_Times.C t.2.p x17 x15 (fun (x19 : Nat) =>
  0 ≤ t3.1 ∧ t3.1 < ((x18.length : Nat) : Int) ∧ nextQ3 (IntKind.i64.wrap (t3.1 + 1), (List.set t3.2 (Int.toNat at_) (List.set x18 (Int.toNat t3.1) x19)))))
   (K true (⟨t.2.p, t3.2, x14, t.2.lead⟩ : TGrid)))))))
   (K false t.2)
theorem matrix_grid_lift.q {g : TGrid} {at_ : Int} {column : Int} {K : Bool → TGrid → Prop} (q : matrix_grid_lift.Q g at_ column K) : matrix_grid_lift.C g at_ column K := by
  intro Z τ H hτ gP v he A n c hn f v2 he2 A2 n2 c2 hn2 f2 b KK hk
  cases he
  cases hn
  cases he2
  cases hn2
  apply matrix_grid_lift.ok
  unfold matrix_grid_lift.W
  unfold matrix_grid_lift.Q at q
  obtain ⟨σ, hz, hy, hσ⟩ := tags2 Z τ 3 hτ
  have hs : Stp ([1, 2] : List Nat) σ H σ H := Stp.refl _ _ _
  replace f := SlO.keep f (Fr.wide hz _) (Fr.wide (hy 2 (by decide) (by decide)) _)
  replace f2 := SlO.keep f2 (Fr.wide hz _) (Fr.wide (hy 3 (by decide) (by decide)) _)
  replace b := BoxF.mk b.blk (hy 1 (by decide) (by decide) _ b.tag)
  clear hz
  clear hy
  refine LoopI.ofQ q (fun t_ s_ hp_ => ∃ (σ_ : Nat → Nat) (x1_0 : Int) (A1_1 : Option Addr) (n1_1 c1_1 : Nat) (x1_2 : Int) (A1_3 : Option Addr) (n1_3 c1_3 : Nat), Stp [1, 2] σ H σ_ hp_ ∧ t_.1 = s_ ∧ x1_0 = ((t_.2.p : Nat) : Int) ∧ n1_1 = t_.2.rows.length ∧ SlO (slM (rdM u64L) 22) 30 (Zt σ_) (Yt σ_ 2) hp_ A1_1 c1_1 t_.2.rows ∧ x1_2 = ((t_.2.det : Nat) : Int) ∧ n1_3 = t_.2.lead.length ∧ SlO (rdM i64L) 3 (Zt σ_) (Yt σ_ 3) hp_ A1_3 c1_3 t_.2.lead ∧ BoxF 1 σ_ hp_ gP [.int .u64 x1_0, .slice A1_1 n1_1 c1_1, .int .u64 x1_2, .slice A1_3 n1_3 c1_3] 166) (fun h k => h _ _ k) ⟨_, _, _, _, _, _, _, _, _, Stp.refl _ _ _, rfl, rfl, rfl, f, rfl, rfl, f2, b⟩ ?_
  rintro t _ _ H_ next nextQ ⟨xσ, x, A3, n3, c3, x2, A4, n4, c4, st, rfl, rfl, rfl, f3, rfl, rfl, f4, b⟩ q hnext
  try dsimp only at q ⊢
  replace hs := hs.trans st
  have sl5 := st
  refine ⟨_, _, _, b.cell 1 rfl, ?_⟩
  refine condI (fun q => ?_) (fun q => ?_) q
  · refine ⟨_, _, _, b.cell 1 rfl, ?_⟩
    obtain ⟨h0, hi2, q⟩ := q
    obtain ⟨a, ha, hi⟩ := f3.addr h0 rfl hi2
    refine ⟨a, ha, hi.1, hi.2, ?_⟩
    obtain ⟨x3, hx, q⟩ := q
    obtain ⟨A5, c5, Y, hc, hY, f5, bk⟩ := f3.row ha h0 hx
    have g2 := SlO.rowF f5 (fun b hb => (hY b hb).1)
    refine ⟨_, _, _, hc.val, ?_⟩
    obtain ⟨h02, hi4, q⟩ := q
    obtain ⟨a2, ha2, hi3⟩ := SlF.addr g2 h02 (List.getElem?_eq_getElem (idx_lt rfl h02 hi4)) rfl
    refine ⟨a2, ha2, hi3.1, hi3.2, ?_⟩
    obtain ⟨x4, hx2, q⟩ := q
    have hc2 := SlO.row_ldu f3 ha h0 hx hc ha2 h02 hx2
    refine ⟨_, hc2.val, ?_⟩
    refine condI (fun q => ?_) (fun q => ?_) q
    · exact hnext (IntKind.i64.wrap (t.1 + 1), t.2) _ _ ⟨_, _, _, _, _, _, _, _, _, sl5, rfl, rfl, rfl, f3, rfl, rfl, f4, b⟩ q
    · refine condI (fun q => ?_) (fun q => ?_) q
      · refine ⟨_, _, _, b.cell 1 rfl, ?_⟩
        refine ⟨_, _, _, b.cell 1 rfl, ?_⟩
        refine ⟨_, _, _, b.cell 1 rfl, ?_⟩
        obtain ⟨h03, hi6, q⟩ := q
        obtain ⟨a3, ha3, hi5⟩ := f3.addr h03 rfl hi6
        refine ⟨a3, ha3, hi5.1, hi5.2, ?_⟩
        obtain ⟨x5, hx3, q⟩ := q
        obtain ⟨A6, c6, Y2, hc3, hY2, f6, bk2⟩ := f3.row ha3 h03 hx3
        have g3 := SlO.rowF f6 (fun b hb => (hY2 b hb).1)
        refine ⟨_, _, _, hc3.val, ?_⟩
        refine ⟨_, _, _, b.cell 1 rfl, ?_⟩
        obtain ⟨h04, hi8, q⟩ := q
        obtain ⟨a4, ha4, hi7⟩ := f3.addr h04 rfl hi8
        refine ⟨a4, ha4, hi7.1, hi7.2, ?_⟩
        obtain ⟨x6, hx4, q⟩ := q
        obtain ⟨A7, c7, Y3, hc4, hY3, f7, bk3⟩ := f3.row ha4 h04 hx4
        have g4 := SlO.rowF f7 (fun b hb => (hY3 b hb).1)
        refine ⟨_, _, _, hc4.val, ?_⟩
        obtain ⟨h05, hi10, q⟩ := q
        obtain ⟨a5, ha5, hi9⟩ := f3.addr h05 rfl hi10
        refine ⟨a5, ha5, hi9.1, hi9.2, ?_⟩
        have ea := Option.some.inj (ha3.symm.trans ha5)
        subst ea
        have ea := Option.some.inj (ha3.symm.trans ha4)
        subst ea
        have w := SlO.swap f3 ha3 h04 h03 hx4 hx3 hc4 hc3
        refine ⟨w.1, NewH.mk fun H_2 e => ?_⟩
        have w2 := w.2 H_2 e
        obtain ⟨h06, hi12, q⟩ := q
        obtain ⟨a6, ha6, hi11⟩ := f3.addr h06 rfl hi12
        refine ⟨a6, ha6, hi11.1, hi11.2, ?_⟩
        have ea := Option.some.inj (ha3.symm.trans ha6)
        subst ea
        refine ⟨w2.1, NewH.mk fun H_3 e2 => ?_⟩
        obtain ⟨st3, f3⟩ := w2.2 H_3 e2
        replace b := b.step st3
        replace f4 := f4.step st3
        replace hs := hs.trans st3
        replace sl5 := sl5.trans st3
        refine ⟨_, b.cell0, ?_⟩
        refine ⟨_, b.cell 2 rfl, ?_⟩
        refine q (Zt xσ) H_3 _ rfl _ rfl _ rfl _ (fun Z2 H_4 hE hO x7 v3 he3 q => ?_)
        obtain ⟨xσ2, st4⟩ := call0 hE xσ
        cases he3
        replace b := b.step st4
        replace f3 := f3.step st4
        replace f4 := f4.step st4
        replace hs := hs.trans st4
        replace sl5 := sl5.trans st4
        refine ⟨_, rfl, ?_⟩
        refine ⟨b.may 2 (show (2 : Nat) < 4 by decide), NewH.mk fun H_5 e3 => ?_⟩
        obtain ⟨st5, b⟩ := b.wrote 2 (show (2 : Nat) < 4 by decide) e3
        simp only [List.set_cons_zero, List.set_cons_succ] at b
        replace f3 := f3.step st5
        replace f4 := f4.step st5
        replace hs := hs.trans st5
        replace sl5 := sl5.trans st5
        refine ⟨_, b.cell0, ?_⟩
        refine ⟨_, b.cell 2 rfl, ?_⟩
        refine q (Zt xσ2) H_5 _ rfl _ rfl _ rfl _ (fun Z3 H_6 hE2 hO2 x8 v4 he4 q => ?_)
        obtain ⟨xσ3, st6⟩ := call0 hE2 xσ2
        cases he4
        replace b := b.step st6
        replace f3 := f3.step st6
        replace f4 := f4.step st6
        replace hs := hs.trans st6
        replace sl5 := sl5.trans st6
        refine ⟨_, rfl, ?_⟩
        refine ⟨b.may 2 (show (2 : Nat) < 4 by decide), NewH.mk fun H_7 e4 => ?_⟩
        obtain ⟨st7, b⟩ := b.wrote 2 (show (2 : Nat) < 4 by decide) e4
        simp only [List.set_cons_zero, List.set_cons_succ] at b
        replace f3 := f3.step st7
        replace f4 := f4.step st7
        replace hs := hs.trans st7
        replace sl5 := sl5.trans st7
        refine ⟨_, b.cell0, ?_⟩
        refine q (Zt xσ3) H_7 _ rfl _ rfl _ (fun Z4 H_8 hE3 hO3 x9 v5 he5 q => ?_)
        obtain ⟨xσ4, st8⟩ := call0 hE3 xσ3
        cases he5
        replace b := b.step st8
        replace f3 := f3.step st8
        replace f4 := f4.step st8
        replace hs := hs.trans st8
        replace sl5 := sl5.trans st8
        refine ⟨_, rfl, ?_⟩
        refine ⟨_, _, _, b.cell 1 rfl, ?_⟩
        obtain ⟨h07, hi14, q⟩ := q
        obtain ⟨a7, ha7, hi13⟩ := f3.addr h07 (set_len (set_len rfl)) hi14
        refine ⟨a7, ha7, hi13.1, hi13.2, ?_⟩
        obtain ⟨x10, hx5, q⟩ := q
        obtain ⟨A8, c8, Y4, hc5, hY4, f8, bk4⟩ := f3.row ha7 h07 hx5
        have g5 := SlO.rowF f8 (fun b hb => (hY4 b hb).1)
        refine ⟨_, _, _, hc5.val, ?_⟩
        refine LoopI.ofQ q (fun t_ s_ hp_ => ∃ (σ_ : Nat → Nat), Stp [2] xσ4 H_8 σ_ hp_ ∧ t_.1 = s_ ∧ t_.2.length = (List.set (List.set t.2.rows (Int.toNat t.1) x5) (Int.toNat at_) x6).length ∧ SlO (slM (rdM u64L) 22) 30 (Zt σ_) (Yt σ_ 2) hp_ A3 c3 t_.2 ∧ CelF 2 σ_ hp_ (a7.add (Int.toNat at_)) (.slice A8 x10.length c8)) (fun h k => h _ _ k) ⟨_, Stp.refl _ _ _, rfl, rfl, f3, hc5⟩ ?_
        rintro t2 _ _ H_9 next2 nextQ2 ⟨xσ5, st9, rfl, hl, f3, hc5⟩ q hnext2
        try dsimp only at q ⊢
        replace b := b.step st9
        replace f4 := f4.step st9
        replace hs := hs.trans st9
        replace sl5 := sl5.trans st9
        have sl7 := st9
        refine condI (fun q => ?_) (fun q => ?_) q
        · obtain ⟨h08, hi16, q⟩ := q
          obtain ⟨a8, ha8, hi15⟩ := SlF.addr g5 h08 (List.getElem?_eq_getElem (idx_lt rfl h08 hi16)) rfl
          refine ⟨a8, ha8, hi15.1, hi15.2, ?_⟩
          obtain ⟨row, hx6, q⟩ := q
          obtain ⟨x11, hx7, q⟩ := q
          have hc6 := SlO.row_ldu f3 ha7 h07 hx6 hc5 ha8 h08 hx7
          refine ⟨_, hc6.val, ?_⟩
          refine ⟨_, _, _, b.cell 1 rfl, ?_⟩
          obtain ⟨h09, hi18, q⟩ := q
          obtain ⟨a9, ha9, hi17⟩ := f3.addr h09 ((set_len (set_len rfl)).trans hl.symm) hi18
          refine ⟨a9, ha9, hi17.1, hi17.2, ?_⟩
          obtain ⟨x12, hx8, q⟩ := q
          obtain ⟨A9, c9, Y5, hc7, hY5, f9, bk5⟩ := f3.row ha9 h09 hx8
          have g6 := SlO.rowF f9 (fun b hb => (hY5 b hb).1)
          refine ⟨_, _, _, hc7.val, ?_⟩
          refine ⟨_, b.cell0, ?_⟩
          refine q (Zt xσ5) H_9 _ rfl _ rfl _ rfl _ (fun Z5 H_10 hE4 hO4 x13 v6 he6 q => ?_)
          obtain ⟨xσ6, st10⟩ := call0 hE4 xσ5
          cases he6
          replace b := b.step st10
          replace f3 := f3.step st10
          replace f4 := f4.step st10
          replace hc5 := hc5.step st10
          replace hc6 := hc6.step st10
          replace hc7 := hc7.step st10
          replace hs := hs.trans st10
          replace sl5 := sl5.trans st10
          replace sl7 := sl7.trans st10
          refine ⟨_, rfl, ?_⟩
          refine ⟨hc7.val, (b.cell 1 rfl), ?_⟩
          obtain ⟨h010, hi20, q⟩ := q
          obtain ⟨a10, ha10, hi19⟩ := SlF.addr g6 h010 (List.getElem?_eq_getElem (idx_lt rfl h010 hi20)) rfl
          refine ⟨a10, ha10, hi19.1, hi19.2, ?_⟩
          have w4 := fun v hr => SlO.set2 (v := v) (y := x13) f3 rfl ha9 h09 hx8 hc7 ha10 h010 (lt_of_n rfl hi20) hr
          refine ⟨(w4 _ rfl).1, NewH.mk fun H_11 e5 => ?_⟩
          obtain ⟨st11, f3, hh⟩ := (w4 _ rfl).2 H_11 e5
          replace hc5 := by have ea := Option.some.inj (ha7.symm.trans ha9); subst ea; exact hh _ _ hc5
          replace hc7 := hh _ _ hc7
          replace b := b.step st11
          replace f4 := f4.step st11
          replace hs := hs.trans st11
          replace sl5 := sl5.trans st11
          replace sl7 := sl7.trans st11
          exact hnext2 (IntKind.i64.wrap (t2.1 + 1), (List.set t2.2 (Int.toNat at_) (List.set x12 (Int.toNat t2.1) x13))) _ _ ⟨_, sl7, rfl, (set_back ((set_len (set_len rfl)).trans hl.symm) (set_len ((set_len (set_len rfl)).trans hl.symm)) hl), f3, hc5⟩ q
        · exact hk (Zt xσ5) (ren [1, 2, 3] xσ5) _ (hs.turn hσ) (hs.oldT hσ) (ren_z _ _) true (⟨t.2.p, t2.2, x8, t.2.lead⟩ : TGrid) _ rfl _ _ _ ((set_len (set_len rfl)).trans hl.symm) (SlO.keep f3 (Fr.refl _ _) (Fr.wide (ren_y (js := [1, 2, 3]) (j := 2) (m := 2) (by decide) (by decide)) _)) _ rfl _ _ _ rfl (SlO.keep f4 (Fr.refl _ _) (Fr.wide (ren_y (js := [1, 2, 3]) (j := 3) (m := 3) (by decide) (by decide)) _)) ⟨b.blk, ren_y (js := [1, 2, 3]) (j := 1) (m := 1) (by decide) (by decide) _ b.tag⟩ q
      · refine ⟨_, b.cell0, ?_⟩
        refine ⟨_, b.cell 2 rfl, ?_⟩
        refine q (Zt xσ) H_ _ rfl _ rfl _ rfl _ (fun Z6 H_12 hE5 hO5 x14 v7 he7 q => ?_)
        obtain ⟨xσ7, st12⟩ := call0 hE5 xσ
        cases he7
        replace b := b.step st12
        replace f3 := f3.step st12
        replace f4 := f4.step st12
        replace hc := hc.step st12
        replace hc2 := hc2.step st12
        replace hs := hs.trans st12
        replace sl5 := sl5.trans st12
        refine ⟨_, rfl, ?_⟩
        refine ⟨b.may 2 (show (2 : Nat) < 4 by decide), NewH.mk fun H_13 e6 => ?_⟩
        obtain ⟨st13, b⟩ := b.wrote 2 (show (2 : Nat) < 4 by decide) e6
        simp only [List.set_cons_zero, List.set_cons_succ] at b
        replace f3 := f3.step st13
        replace f4 := f4.step st13
        replace hc := hc.step st13
        replace hc2 := hc2.step st13
        replace hs := hs.trans st13
        replace sl5 := sl5.trans st13
        refine ⟨_, b.cell0, ?_⟩
        refine q (Zt xσ7) H_13 _ rfl _ rfl _ (fun Z7 H_14 hE6 hO6 x15 v8 he8 q => ?_)
        obtain ⟨xσ8, st14⟩ := call0 hE6 xσ7
        cases he8
        replace b := b.step st14
        replace f3 := f3.step st14
        replace f4 := f4.step st14
        replace hc := hc.step st14
        replace hc2 := hc2.step st14
        replace hs := hs.trans st14
        replace sl5 := sl5.trans st14
        refine ⟨_, rfl, ?_⟩
        refine ⟨_, _, _, b.cell 1 rfl, ?_⟩
        obtain ⟨h011, hi22, q⟩ := q
        obtain ⟨a11, ha11, hi21⟩ := f3.addr h011 rfl hi22
        refine ⟨a11, ha11, hi21.1, hi21.2, ?_⟩
        obtain ⟨x16, hx9, q⟩ := q
        obtain ⟨A10, c10, Y6, hc8, hY6, f10, bk6⟩ := f3.row ha11 h011 hx9
        have g7 := SlO.rowF f10 (fun b hb => (hY6 b hb).1)
        refine ⟨_, _, _, hc8.val, ?_⟩
        refine LoopI.ofQ q (fun t_ s_ hp_ => ∃ (σ_ : Nat → Nat), Stp [2] xσ8 H_14 σ_ hp_ ∧ t_.1 = s_ ∧ t_.2.length = t.2.rows.length ∧ SlO (slM (rdM u64L) 22) 30 (Zt σ_) (Yt σ_ 2) hp_ A3 c3 t_.2 ∧ CelF 2 σ_ hp_ (a.add (Int.toNat t.1)) (.slice A5 x3.length c5) ∧ CelF 2 σ_ hp_ (a11.add (Int.toNat at_)) (.slice A10 x16.length c10)) (fun h k => h _ _ k) ⟨_, Stp.refl _ _ _, rfl, rfl, f3, hc, hc8⟩ ?_
        rintro t3 _ _ H_15 next3 nextQ3 ⟨xσ9, st15, rfl, hl2, f3, hc, hc8⟩ q hnext3
        try dsimp only at q ⊢
        replace b := b.step st15
        replace f4 := f4.step st15
        replace hs := hs.trans st15
        replace sl5 := sl5.trans st15
        have sl9 := st15
        refine condI (fun q => ?_) (fun q => ?_) q
        · obtain ⟨h012, hi24, q⟩ := q
          obtain ⟨a12, ha12, hi23⟩ := SlF.addr g7 h012 (List.getElem?_eq_getElem (idx_lt rfl h012 hi24)) rfl
          refine ⟨a12, ha12, hi23.1, hi23.2, ?_⟩
          obtain ⟨row2, hx10, q⟩ := q
          obtain ⟨x17, hx11, q⟩ := q
          have hc9 := SlO.row_ldu f3 ha11 h011 hx10 hc8 ha12 h012 hx11
          refine ⟨_, hc9.val, ?_⟩
          refine ⟨_, _, _, b.cell 1 rfl, ?_⟩
          obtain ⟨h013, hi26, q⟩ := q
          obtain ⟨a13, ha13, hi25⟩ := f3.addr h013 ((rfl : _ = _).trans hl2.symm) hi26
          refine ⟨a13, ha13, hi25.1, hi25.2, ?_⟩
          obtain ⟨x18, hx12, q⟩ := q
          obtain ⟨A11, c11, Y7, hc10, hY7, f11, bk7⟩ := f3.row ha13 h013 hx12
          have g8 := SlO.rowF f11 (fun b hb => (hY7 b hb).1)
          refine ⟨_, _, _, hc10.val, ?_⟩
          refine ⟨_, b.cell0, ?_⟩
          refine q (Zt xσ9) H_15 _ rfl _ rfl _ rfl _ (fun Z8 H_16 hE7 hO7 x19 v9 he9 q => ?_)
          obtain ⟨xσ10, st16⟩ := call0 hE7 xσ9
          cases he9
          replace b := b.step st16
          replace f3 := f3.step st16
          replace f4 := f4.step st16
          replace hc := hc.step st16
          replace hc8 := hc8.step st16
          replace hc9 := hc9.step st16
          replace hc10 := hc10.step st16
          replace hs := hs.trans st16
          replace sl5 := sl5.trans st16
          replace sl9 := sl9.trans st16
          refine ⟨_, rfl, ?_⟩
          refine ⟨hc10.val, (b.cell 1 rfl), ?_⟩
          obtain ⟨h014, hi28, q⟩ := q
          obtain ⟨a14, ha14, hi27⟩ := SlF.addr g8 h014 (List.getElem?_eq_getElem (idx_lt rfl h014 hi28)) rfl
          refine ⟨a14, ha14, hi27.1, hi27.2, ?_⟩
          have w5 := fun v hr => SlO.set2 (v := v) (y := x19) f3 rfl ha13 h013 hx12 hc10 ha14 h014 (lt_of_n rfl hi28) hr
          refine ⟨(w5 _ rfl).1, NewH.mk fun H_17 e7 => ?_⟩
          obtain ⟨st17, f3, hh2⟩ := (w5 _ rfl).2 H_17 e7
          replace hc := by have ea := Option.some.inj (ha.symm.trans ha13); subst ea; exact hh2 _ _ hc
          replace hc8 := by have ea := Option.some.inj (ha11.symm.trans ha13); subst ea; exact hh2 _ _ hc8
          replace hc10 := hh2 _ _ hc10
          replace b := b.step st17
          replace f4 := f4.step st17
          replace hs := hs.trans st17
          replace sl5 := sl5.trans st17
          replace sl9 := sl9.trans st17
          exact hnext3 (IntKind.i64.wrap (t3.1 + 1), (List.set t3.2 (Int.toNat at_) (List.set x18 (Int.toNat t3.1) x19))) _ _ ⟨_, sl9, rfl, (set_back ((rfl : _ = _).trans hl2.symm) (set_len ((rfl : _ = _).trans hl2.symm)) hl2), f3, hc, hc8⟩ q
        · exact hk (Zt xσ9) (ren [1, 2, 3] xσ9) _ (hs.turn hσ) (hs.oldT hσ) (ren_z _ _) true (⟨t.2.p, t3.2, x14, t.2.lead⟩ : TGrid) _ rfl _ _ _ ((rfl : _ = _).trans hl2.symm) (SlO.keep f3 (Fr.refl _ _) (Fr.wide (ren_y (js := [1, 2, 3]) (j := 2) (m := 2) (by decide) (by decide)) _)) _ rfl _ _ _ rfl (SlO.keep f4 (Fr.refl _ _) (Fr.wide (ren_y (js := [1, 2, 3]) (j := 3) (m := 3) (by decide) (by decide)) _)) ⟨b.blk, ren_y (js := [1, 2, 3]) (j := 1) (m := 1) (by decide) (by decide) _ b.tag⟩ q
  · exact hk (Zt xσ) (ren [1, 2, 3] xσ) _ (hs.turn hσ) (hs.oldT hσ) (ren_z _ _) false t.2 _ rfl _ _ _ rfl (SlO.keep f3 (Fr.refl _ _) (Fr.wide (ren_y (js := [1, 2, 3]) (j := 2) (m := 2) (by decide) (by decide)) _)) _ rfl _ _ _ rfl (SlO.keep f4 (Fr.refl _ _) (Fr.wide (ren_y (js := [1, 2, 3]) (j := 3) (m := 3) (by decide) (by decide)) _)) ⟨b.blk, ren_y (js := [1, 2, 3]) (j := 1) (m := 1) (by decide) (by decide) _ b.tag⟩ q
def matrix_grid_add.C (g : TGrid) (to_ : Int) (from_ : Int) (k : Nat) (K : TGrid → Prop) : Prop :=
  ∀ (Z : Nat → Prop) (τ : Nat → Nat) (H : Heap), (∀ i, τ i ≠ 0 → ¬ Z i) → ∀ (gP : Nat), ∀ (v : Int), v = (g.p : Int) → ∀ (A : Option Addr) (n c : Nat), n = g.rows.length → SlO (slM (rdM u64L) 22) 30 Z (Yt τ 2) H A c g.rows → ∀ (v2 : Int), v2 = (g.det : Int) → ∀ (A2 : Option Addr) (n2 c2 : Nat), n2 = g.lead.length → SlO (rdM i64L) 3 Z (Yt τ 3) H A2 c2 g.lead → BoxF 1 τ H gP [.int .u64 v, .slice A n c, .int .u64 v2, .slice A2 n2 c2] 166 → ∀ (kv : Int), kv = (k : Int) → ∀ KK : Value → Heap → Prop,
    (∀ (Z' : Nat → Prop) (τ' : Nat → Nat) (H' : Heap), Turn τ H τ' H' → OldT Z τ H Z' → (∀ i, τ' i ≠ 0 → ¬ Z' i) → ∀ (o0 : TGrid), ∀ (vo0_0 : Int), vo0_0 = (o0.p : Int) → ∀ (Ao0_1 : Option Addr) (no0_1 co0_1 : Nat), no0_1 = o0.rows.length → SlO (slM (rdM u64L) 22) 30 Z' (Yt τ' 2) H' Ao0_1 co0_1 o0.rows → ∀ (vo0_2 : Int), vo0_2 = (o0.det : Int) → ∀ (Ao0_3 : Option Addr) (no0_3 co0_3 : Nat), no0_3 = o0.lead.length → SlO (rdM i64L) 3 Z' (Yt τ' 3) H' Ao0_3 co0_3 o0.lead → BoxF 1 τ' H' gP [.int .u64 vo0_0, .slice Ao0_1 no0_1 co0_1, .int .u64 vo0_2, .slice Ao0_3 no0_3 co0_3] 166 → K o0 → KK (.tuple #[]) H') →
    CallH P N.matrix_grid_add [.pointer (some (Addr.mk gP 0 none)), .int .i64 to_, .int .i64 from_, .int .u64 kv] H KK
def matrix_grid_add.Q (g : TGrid) (to_ : Int) (from_ : Int) (k : Nat) (K : TGrid → Prop) : Prop :=
  0 ≤ from_ ∧ from_ < ((g.rows.length : Nat) : Int) ∧ ∃ x : (List Nat), g.rows[Int.toNat from_]? = some x ∧ LoopQ (τ := Int × List (List Nat)) (0, g.rows) fun t nextQ =>
  cond (decide (t.1 < ((x.length : Nat) : Int))) (0 ≤ t.1 ∧ t.1 < ((x.length : Nat) : Int) ∧ ∃ row : (List Nat), t.2[Int.toNat from_]? = some row ∧ ∃ x2 : Nat, row[Int.toNat t.1]? = some x2 ∧ 0 ≤ to_ ∧ to_ < ((g.rows.length : Nat) : Int) ∧ ∃ x3 : (List Nat), t.2[Int.toNat to_]? = some x3 ∧ 0 ≤ to_ ∧ to_ < ((g.rows.length : Nat) : Int) ∧ ∃ x4 : (List Nat), t.2[Int.toNat to_]? = some x4 ∧ 0 ≤ t.1 ∧ t.1 < ((x4.length : Nat) : Int) ∧ ∃ x5 : Nat, x4[Int.toNat t.1]? = some x5 ∧ field_Times.C g.p x2 k (fun (x6 : Nat) =>
  field_Plus.C g.p x5 x6 (fun (x7 : Nat) =>
  0 ≤ t.1 ∧ t.1 < ((x3.length : Nat) : Int) ∧ nextQ (IntKind.i64.wrap (t.1 + 1), (List.set t.2 (Int.toNat to_) (List.set x3 (Int.toNat t.1) x7))))))
   (K (⟨g.p, t.2, g.det, g.lead⟩ : TGrid))
theorem matrix_grid_add.q {g : TGrid} {to_ : Int} {from_ : Int} {k : Nat} {K : TGrid → Prop} (q : matrix_grid_add.Q g to_ from_ k K) : matrix_grid_add.C g to_ from_ k K := by
  intro Z τ H hτ gP v he A n c hn f v2 he2 A2 n2 c2 hn2 f2 b kv he3 KK hk
  cases he
  cases hn
  cases he2
  cases hn2
  cases he3
  apply matrix_grid_add.ok
  unfold matrix_grid_add.W
  unfold matrix_grid_add.Q at q
  obtain ⟨σ, hz, hy, hσ⟩ := tags2 Z τ 3 hτ
  have hs : Stp ([2] : List Nat) σ H σ H := Stp.refl _ _ _
  replace f := SlO.keep f (Fr.wide hz _) (Fr.wide (hy 2 (by decide) (by decide)) _)
  replace f2 := SlO.keep f2 (Fr.wide hz _) (Fr.wide (hy 3 (by decide) (by decide)) _)
  replace b := BoxF.mk b.blk (hy 1 (by decide) (by decide) _ b.tag)
  clear hz
  clear hy
  refine ⟨_, _, _, b.cell 1 rfl, ?_⟩
  obtain ⟨h0, hi2, q⟩ := q
  obtain ⟨a, ha, hi⟩ := f.addr h0 rfl hi2
  refine ⟨a, ha, hi.1, hi.2, ?_⟩
  obtain ⟨x, hx, q⟩ := q
  obtain ⟨A3, c3, Y, hc, hY, f3, bk⟩ := f.row ha h0 hx
  have g2 := SlO.rowF f3 (fun b hb => (hY b hb).1)
  refine ⟨_, _, _, hc.val, ?_⟩
  refine LoopI.ofQ q (fun t_ s_ hp_ => ∃ (σ_ : Nat → Nat), Stp [2] σ H σ_ hp_ ∧ t_.1 = s_ ∧ t_.2.length = g.rows.length ∧ SlO (slM (rdM u64L) 22) 30 (Zt σ_) (Yt σ_ 2) hp_ A c t_.2 ∧ CelF 2 σ_ hp_ (a.add (Int.toNat from_)) (.slice A3 x.length c3)) (fun h k => h _ _ k) ⟨_, Stp.refl _ _ _, rfl, rfl, f, hc⟩ ?_
  rintro t _ _ H_ next nextQ ⟨xσ, st, rfl, hl, f, hc⟩ q hnext
  try dsimp only at q ⊢
  replace f2 := f2.step st
  replace b := b.step st
  replace hs := hs.trans st
  have sl1 := st
  refine condI (fun q => ?_) (fun q => ?_) q
  · obtain ⟨h02, hi4, q⟩ := q
    obtain ⟨a2, ha2, hi3⟩ := SlF.addr g2 h02 (List.getElem?_eq_getElem (idx_lt rfl h02 hi4)) rfl
    refine ⟨a2, ha2, hi3.1, hi3.2, ?_⟩
    obtain ⟨row, hx2, q⟩ := q
    obtain ⟨x2, hx3, q⟩ := q
    have hc2 := SlO.row_ldu f ha h0 hx2 hc ha2 h02 hx3
    refine ⟨_, hc2.val, ?_⟩
    refine ⟨_, _, _, b.cell 1 rfl, ?_⟩
    obtain ⟨h03, hi6, q⟩ := q
    obtain ⟨a3, ha3, hi5⟩ := f.addr h03 ((rfl : _ = _).trans hl.symm) hi6
    refine ⟨a3, ha3, hi5.1, hi5.2, ?_⟩
    obtain ⟨x3, hx4, q⟩ := q
    obtain ⟨A4, c4, Y2, hc3, hY2, f4, bk2⟩ := f.row ha3 h03 hx4
    have g3 := SlO.rowF f4 (fun b hb => (hY2 b hb).1)
    refine ⟨_, _, _, hc3.val, ?_⟩
    refine ⟨_, b.cell0, ?_⟩
    refine ⟨_, _, _, b.cell 1 rfl, ?_⟩
    obtain ⟨h04, hi8, q⟩ := q
    obtain ⟨a4, ha4, hi7⟩ := f.addr h04 ((rfl : _ = _).trans hl.symm) hi8
    refine ⟨a4, ha4, hi7.1, hi7.2, ?_⟩
    obtain ⟨x4, hx5, q⟩ := q
    obtain ⟨A5, c5, Y3, hc4, hY3, f5, bk3⟩ := f.row ha4 h04 hx5
    have g4 := SlO.rowF f5 (fun b hb => (hY3 b hb).1)
    refine ⟨_, _, _, hc4.val, ?_⟩
    obtain ⟨h05, hi10, q⟩ := q
    obtain ⟨a5, ha5, hi9⟩ := SlF.addr g4 h05 (List.getElem?_eq_getElem (idx_lt rfl h05 hi10)) rfl
    refine ⟨a5, ha5, hi9.1, hi9.2, ?_⟩
    obtain ⟨x5, hx6, q⟩ := q
    have hc5 := SlO.row_ldu f ha4 h04 hx5 hc4 ha5 h05 hx6
    refine ⟨_, hc5.val, ?_⟩
    refine ⟨_, b.cell0, ?_⟩
    refine q (Zt xσ) H_ _ rfl _ rfl _ rfl _ (fun Z2 H_2 hE hO x6 v3 he4 q => ?_)
    obtain ⟨xσ2, st2⟩ := call0 hE xσ
    cases he4
    replace f := f.step st2
    replace f2 := f2.step st2
    replace b := b.step st2
    replace hc := hc.step st2
    replace hc2 := hc2.step st2
    replace hc3 := hc3.step st2
    replace hc4 := hc4.step st2
    replace hc5 := hc5.step st2
    replace hs := hs.trans st2
    replace sl1 := sl1.trans st2
    refine ⟨_, rfl, ?_⟩
    refine ⟨hc5.val, hc4.val, (b.cell 1 rfl), b.cell0, hc3.val, (b.cell 1 rfl), ?_⟩
    refine q (Zt xσ2) H_2 _ rfl _ rfl _ rfl _ (fun Z3 H_3 hE2 hO2 x7 v4 he5 q => ?_)
    obtain ⟨xσ3, st3⟩ := call0 hE2 xσ2
    cases he5
    replace f := f.step st3
    replace f2 := f2.step st3
    replace b := b.step st3
    replace hc := hc.step st3
    replace hc2 := hc2.step st3
    replace hc3 := hc3.step st3
    replace hc4 := hc4.step st3
    replace hc5 := hc5.step st3
    replace hs := hs.trans st3
    replace sl1 := sl1.trans st3
    refine ⟨_, rfl, ?_⟩
    refine ⟨hc3.val, (b.cell 1 rfl), ?_⟩
    obtain ⟨h06, hi12, q⟩ := q
    obtain ⟨a6, ha6, hi11⟩ := SlF.addr g3 h06 (List.getElem?_eq_getElem (idx_lt rfl h06 hi12)) rfl
    refine ⟨a6, ha6, hi11.1, hi11.2, ?_⟩
    have w := fun v hr => SlO.set2 (v := v) (y := x7) f rfl ha3 h03 hx4 hc3 ha6 h06 (lt_of_n rfl hi12) hr
    refine ⟨(w _ rfl).1, NewH.mk fun H_4 e => ?_⟩
    obtain ⟨st4, f, hh⟩ := (w _ rfl).2 H_4 e
    replace hc := by have ea := Option.some.inj (ha.symm.trans ha3); subst ea; exact hh _ _ hc
    replace hc3 := hh _ _ hc3
    replace hc4 := by have ea := Option.some.inj (ha4.symm.trans ha3); subst ea; exact hh _ _ hc4
    replace f2 := f2.step st4
    replace b := b.step st4
    replace hs := hs.trans st4
    replace sl1 := sl1.trans st4
    exact hnext (IntKind.i64.wrap (t.1 + 1), (List.set t.2 (Int.toNat to_) (List.set x3 (Int.toNat t.1) x7))) _ _ ⟨_, sl1, rfl, (set_back ((rfl : _ = _).trans hl.symm) (set_len ((rfl : _ = _).trans hl.symm)) hl), f, hc⟩ q
  · exact hk (Zt xσ) (ren [1, 2, 3] xσ) _ (hs.turn hσ) (hs.oldT hσ) (ren_z _ _) (⟨g.p, t.2, g.det, g.lead⟩ : TGrid) _ rfl _ _ _ ((rfl : _ = _).trans hl.symm) (SlO.keep f (Fr.refl _ _) (Fr.wide (ren_y (js := [1, 2, 3]) (j := 2) (m := 2) (by decide) (by decide)) _)) _ rfl _ _ _ rfl (SlO.keep f2 (Fr.refl _ _) (Fr.wide (ren_y (js := [1, 2, 3]) (j := 3) (m := 3) (by decide) (by decide)) _)) ⟨b.blk, ren_y (js := [1, 2, 3]) (j := 1) (m := 1) (by decide) (by decide) _ b.tag⟩ q
def matrix_grid_reduce.C (g : TGrid) (columns : Int) (K : TGrid → Prop) : Prop :=
  ∀ (Z : Nat → Prop) (τ : Nat → Nat) (H : Heap), (∀ i, τ i ≠ 0 → ¬ Z i) → ∀ (gP : Nat), ∀ (v : Int), v = (g.p : Int) → ∀ (A : Option Addr) (n c : Nat), n = g.rows.length → SlO (slM (rdM u64L) 22) 30 Z (Yt τ 2) H A c g.rows → ∀ (v2 : Int), v2 = (g.det : Int) → ∀ (A2 : Option Addr) (n2 c2 : Nat), n2 = g.lead.length → SlO (rdM i64L) 3 Z (Yt τ 3) H A2 c2 g.lead → BoxF 1 τ H gP [.int .u64 v, .slice A n c, .int .u64 v2, .slice A2 n2 c2] 166 → ∀ KK : Value → Heap → Prop,
    (∀ (Z' : Nat → Prop) (τ' : Nat → Nat) (H' : Heap), Turn τ H τ' H' → OldT Z τ H Z' → (∀ i, τ' i ≠ 0 → ¬ Z' i) → ∀ (o0 : TGrid), ∀ (vo0_0 : Int), vo0_0 = (o0.p : Int) → ∀ (Ao0_1 : Option Addr) (no0_1 co0_1 : Nat), no0_1 = o0.rows.length → SlO (slM (rdM u64L) 22) 30 Z' (Yt τ' 2) H' Ao0_1 co0_1 o0.rows → ∀ (vo0_2 : Int), vo0_2 = (o0.det : Int) → ∀ (Ao0_3 : Option Addr) (no0_3 co0_3 : Nat), no0_3 = o0.lead.length → SlO (rdM i64L) 3 Z' (Yt τ' 3) H' Ao0_3 co0_3 o0.lead → BoxF 1 τ' H' gP [.int .u64 vo0_0, .slice Ao0_1 no0_1 co0_1, .int .u64 vo0_2, .slice Ao0_3 no0_3 co0_3] 166 → K o0 → KK (.pointer (some (Addr.mk gP 0 none))) H') →
    CallH P N.matrix_grid_reduce [.pointer (some (Addr.mk gP 0 none)), .int .i64 columns] H KK
def matrix_grid_reduce.Q (g : TGrid) (columns : Int) (K : TGrid → Prop) : Prop :=
  LoopQ (τ := Int × TGrid) (0, g) fun t nextQ =>
  cond (decide (t.1 < columns)) (cond (decide (((t.2.lead.length : Nat) : Int) < ((t.2.rows.length : Nat) : Int))) (matrix_grid_lift.C t.2 ((t.2.lead.length : Nat) : Int) t.1 (fun (x3 : Bool) (o : TGrid) =>
  cond (!x3) (nextQ (IntKind.i64.wrap (t.1 + 1), o))
   (LoopQ (τ := Int × TGrid) (0, o) fun t2 nextQ2 =>
  cond (decide (t2.1 < ((o.rows.length : Nat) : Int))) (cond (t2.1 != ((t.2.lead.length : Nat) : Int)) (0 ≤ t2.1 ∧ t2.1 < ((t2.2.rows.length : Nat) : Int) ∧ ∃ x6 : (List Nat), t2.2.rows[Int.toNat t2.1]? = some x6 ∧ 0 ≤ t.1 ∧ t.1 < ((x6.length : Nat) : Int) ∧ ∃ x7 : Nat, x6[Int.toNat t.1]? = some x7 ∧ field_Minus.C t2.2.p 0 x7 (fun (x8 : Nat) =>
  matrix_grid_add.C t2.2 t2.1 ((t.2.lead.length : Nat) : Int) x8 (fun (o2 : TGrid) =>
  nextQ2 (IntKind.i64.wrap (t2.1 + 1), o2))))
   (nextQ2 (IntKind.i64.wrap (t2.1 + 1), t2.2)))
   (AppOk 8 (t2.2.lead ++ ([t.1] : List Int)).length ∧ nextQ (IntKind.i64.wrap (t.1 + 1), (⟨t2.2.p, t2.2.rows, t2.2.det, (t2.2.lead ++ ([t.1] : List Int))⟩ : TGrid))))))
   (K t.2))
   (K t.2)
theorem matrix_grid_reduce.q {g : TGrid} {columns : Int} {K : TGrid → Prop} (q : matrix_grid_reduce.Q g columns K) : matrix_grid_reduce.C g columns K := by
  intro Z τ H hτ gP v he A n c hn f v2 he2 A2 n2 c2 hn2 f2 b KK hk
  cases he
  cases hn
  cases he2
  cases hn2
  apply matrix_grid_reduce.ok
  unfold matrix_grid_reduce.W
  unfold matrix_grid_reduce.Q at q
  obtain ⟨σ, hz, hy, hσ⟩ := tags2 Z τ 3 hτ
  have hs : Stp ([1, 2, 3, 4] : List Nat) σ H σ H := Stp.refl _ _ _
  replace f := SlO.keep f (Fr.wide hz _) (Fr.wide (hy 2 (by decide) (by decide)) _)
  replace f2 := SlO.keep f2 (Fr.wide hz _) (Fr.wide (hy 3 (by decide) (by decide)) _)
  replace b := BoxF.mk b.blk (hy 1 (by decide) (by decide) _ b.tag)
  clear hz
  clear hy
  refine LoopI.ofQ q (fun t_ s_ hp_ => ∃ (σ_ : Nat → Nat) (x1_0 : Int) (A1_1 : Option Addr) (n1_1 c1_1 : Nat) (x1_2 : Int) (A1_3 : Option Addr) (n1_3 c1_3 : Nat), Stp [1, 2, 3, 4] σ H σ_ hp_ ∧ t_.1 = s_ ∧ x1_0 = ((t_.2.p : Nat) : Int) ∧ n1_1 = t_.2.rows.length ∧ SlO (slM (rdM u64L) 22) 30 (Zt σ_) (Yt σ_ 2) hp_ A1_1 c1_1 t_.2.rows ∧ x1_2 = ((t_.2.det : Nat) : Int) ∧ n1_3 = t_.2.lead.length ∧ SlO (rdM i64L) 3 (Zt σ_) (Yt σ_ 3) hp_ A1_3 c1_3 t_.2.lead ∧ BoxF 1 σ_ hp_ gP [.int .u64 x1_0, .slice A1_1 n1_1 c1_1, .int .u64 x1_2, .slice A1_3 n1_3 c1_3] 166) (fun h k => h _ _ k) ⟨_, _, _, _, _, _, _, _, _, Stp.refl _ _ _, rfl, rfl, rfl, f, rfl, rfl, f2, b⟩ ?_
  rintro t _ _ H_ next nextQ ⟨xσ, x, A3, n3, c3, x2, A4, n4, c4, st, rfl, rfl, rfl, f3, rfl, rfl, f4, b⟩ q hnext
  try dsimp only at q ⊢
  replace hs := hs.trans st
  have sl3 := st
  refine condI (fun q => ?_) (fun q => ?_) q
  · refine ⟨_, _, _, b.cell 3 rfl, ?_⟩
    refine ⟨_, _, _, b.cell 1 rfl, ?_⟩
    refine condI (fun q => ?_) (fun q => ?_) q
    · refine ⟨_, _, _, b.cell 3 rfl, ?_⟩
      refine q (Zt xσ) (ren [1, 2, 3] xσ) H_ (ren_z _ _) _ _ rfl _ _ _ rfl (SlO.keep f3 (Fr.refl _ _) (Fr.wide (ren_y (js := [1, 2, 3]) (j := 2) (m := 2) (by decide) (by decide)) _)) _ rfl _ _ _ rfl (SlO.keep f4 (Fr.refl _ _) (Fr.wide (ren_y (js := [1, 2, 3]) (j := 3) (m := 3) (by decide) (by decide)) _)) ⟨b.blk, (ren_y (js := [1, 2, 3]) (j := 1) (m := 1) (by decide) (by decide)) _ b.tag⟩ _ (fun Z2 xτ H_2 hT hO hd x3 o v3 he3 A5 n5 c5 hn3 f5 v4 he4 A6 n6 c6 hn4 f6 b q => ?_)
      obtain ⟨xσ2, st2, fz, fy⟩ := callT hT hO hd [1, 2, 3]
      replace f5 := SlO.keep f5 fz (Fr.wide (fy 1 2 rfl) _)
      replace f6 := SlO.keep f6 fz (Fr.wide (fy 2 3 rfl) _)
      replace b := BoxF.mk b.blk (fy 0 1 rfl _ b.tag)
      cases he3
      cases hn3
      cases he4
      cases hn4
      replace hs := hs.trans st2
      replace sl3 := sl3.trans st2
      refine ⟨_, rfl, ?_⟩
      refine condI (fun q => ?_) (fun q => ?_) q
      · exact hnext (IntKind.i64.wrap (t.1 + 1), o) _ _ ⟨_, _, _, _, _, _, _, _, _, sl3, rfl, rfl, rfl, f5, rfl, rfl, f6, b⟩ q
      · refine ⟨_, _, _, b.cell 1 rfl, ?_⟩
        refine LoopI.ofQ q (fun t_ s_ hp_ => ∃ (σ_ : Nat → Nat) (x1_0 : Int) (A1_1 : Option Addr) (n1_1 c1_1 : Nat) (x1_2 : Int) (A1_3 : Option Addr) (n1_3 c1_3 : Nat), Stp [1, 2, 3] xσ2 H_2 σ_ hp_ ∧ t_.1 = s_ ∧ x1_0 = ((t_.2.p : Nat) : Int) ∧ n1_1 = t_.2.rows.length ∧ SlO (slM (rdM u64L) 22) 30 (Zt σ_) (Yt σ_ 2) hp_ A1_1 c1_1 t_.2.rows ∧ x1_2 = ((t_.2.det : Nat) : Int) ∧ n1_3 = t_.2.lead.length ∧ SlO (rdM i64L) 3 (Zt σ_) (Yt σ_ 3) hp_ A1_3 c1_3 t_.2.lead ∧ BoxF 1 σ_ hp_ gP [.int .u64 x1_0, .slice A1_1 n1_1 c1_1, .int .u64 x1_2, .slice A1_3 n1_3 c1_3] 166) (fun h k => h _ _ k) ⟨_, _, _, _, _, _, _, _, _, Stp.refl _ _ _, rfl, rfl, rfl, f5, rfl, rfl, f6, b⟩ ?_
        rintro t2 _ _ H_3 next2 nextQ2 ⟨xσ3, x4, A7, n7, c7, x5, A8, n8, c8, st3, rfl, rfl, rfl, f7, rfl, rfl, f8, b⟩ q hnext2
        try dsimp only at q ⊢
        replace hs := hs.trans st3
        replace sl3 := sl3.trans st3
        have sl5 := st3
        refine condI (fun q => ?_) (fun q => ?_) q
        · refine condI (fun q => ?_) (fun q => ?_) q
          · refine ⟨_, b.cell0, ?_⟩
            refine ⟨_, _, _, b.cell 1 rfl, ?_⟩
            obtain ⟨h0, hi2, q⟩ := q
            obtain ⟨a, ha, hi⟩ := f7.addr h0 rfl hi2
            refine ⟨a, ha, hi.1, hi.2, ?_⟩
            obtain ⟨x6, hx, q⟩ := q
            obtain ⟨A9, c9, Y, hc, hY, f9, bk⟩ := f7.row ha h0 hx
            have g2 := SlO.rowF f9 (fun b hb => (hY b hb).1)
            refine ⟨_, _, _, hc.val, ?_⟩
            obtain ⟨h02, hi4, q⟩ := q
            obtain ⟨a2, ha2, hi3⟩ := SlF.addr g2 h02 (List.getElem?_eq_getElem (idx_lt rfl h02 hi4)) rfl
            refine ⟨a2, ha2, hi3.1, hi3.2, ?_⟩
            obtain ⟨x7, hx2, q⟩ := q
            have hc2 := SlO.row_ldu f7 ha h0 hx hc ha2 h02 hx2
            refine ⟨_, hc2.val, ?_⟩
            refine q (Zt xσ3) H_3 _ rfl _ rfl _ rfl _ (fun Z3 H_4 hE hO2 x8 v5 he5 q => ?_)
            obtain ⟨xσ4, st4⟩ := call0 hE xσ3
            cases he5
            replace b := b.step st4
            replace f7 := f7.step st4
            replace f8 := f8.step st4
            replace hc := hc.step st4
            replace hc2 := hc2.step st4
            replace hs := hs.trans st4
            replace sl3 := sl3.trans st4
            replace sl5 := sl5.trans st4
            refine ⟨_, rfl, ?_⟩
            refine q (Zt xσ4) (ren [1, 2, 3] xσ4) H_4 (ren_z _ _) _ _ rfl _ _ _ rfl (SlO.keep f7 (Fr.refl _ _) (Fr.wide (ren_y (js := [1, 2, 3]) (j := 2) (m := 2) (by decide) (by decide)) _)) _ rfl _ _ _ rfl (SlO.keep f8 (Fr.refl _ _) (Fr.wide (ren_y (js := [1, 2, 3]) (j := 3) (m := 3) (by decide) (by decide)) _)) ⟨b.blk, (ren_y (js := [1, 2, 3]) (j := 1) (m := 1) (by decide) (by decide)) _ b.tag⟩ _ rfl _ (fun Z4 xτ2 H_5 hT2 hO3 hd2 o2 v6 he6 A10 n9 c10 hn5 f10 v7 he7 A11 n10 c11 hn6 f11 b q => ?_)
            obtain ⟨xσ5, st5, fz3, fy2⟩ := callT hT2 hO3 hd2 [1, 2, 3]
            replace f10 := SlO.keep f10 fz3 (Fr.wide (fy2 1 2 rfl) _)
            replace f11 := SlO.keep f11 fz3 (Fr.wide (fy2 2 3 rfl) _)
            replace b := BoxF.mk b.blk (fy2 0 1 rfl _ b.tag)
            cases he6
            cases hn5
            cases he7
            cases hn6
            replace hs := hs.trans st5
            replace sl3 := sl3.trans st5
            replace sl5 := sl5.trans st5
            refine ⟨rfl, ?_⟩
            exact hnext2 (IntKind.i64.wrap (t2.1 + 1), o2) _ _ ⟨_, _, _, _, _, _, _, _, _, sl5, rfl, rfl, rfl, f10, rfl, rfl, f11, b⟩ q
          · exact hnext2 (IntKind.i64.wrap (t2.1 + 1), t2.2) _ _ ⟨_, _, _, _, _, _, _, _, _, sl5, rfl, rfl, rfl, f7, rfl, rfl, f8, b⟩ q
        · refine ⟨_, _, _, b.cell 3 rfl, ?_⟩
          refine NewH.mk fun H_6 e => ?_
          obtain ⟨xσ6, st6, f12⟩ := SlO.lit (E := i64L) xσ3 4 (xs := [t.1]) (l := [[_]]) e rfl (.cons rfl .nil) (show (1 : Nat) ≤ 17592186044416 by decide)
          replace b := b.step st6
          replace f7 := f7.step st6
          replace f8 := f8.step st6
          replace hs := hs.trans st6
          replace sl3 := sl3.trans st6
          obtain ⟨xσ8, st8, f12⟩ := SlO.freeze f12
          replace b := b.step st8
          replace f7 := f7.step st8
          replace f8 := f8.step st8
          replace hs := hs.trans st8
          replace sl3 := sl3.trans st8
          obtain ⟨q2, q⟩ := q
          refine SlO.appF f8 f12 rfl rfl q2.l q2.r rfl rfl (fun A12 c12 H_7 xσ7 st7 f8_ => ?_)
          replace f8 := f8_
          replace b := b.step st7
          replace f7 := f7.step st7
          replace f12 := f12.step st7
          replace hs := hs.trans st7
          replace sl3 := sl3.trans st7
          have f13 := f8; clear f8
          refine ⟨b.may 3 (show (3 : Nat) < 4 by decide), NewH.mk fun H_8 e2 => ?_⟩
          obtain ⟨st9, b⟩ := b.wrote 3 (show (3 : Nat) < 4 by decide) e2
          simp only [List.set_cons_zero, List.set_cons_succ] at b
          replace f7 := f7.step st9
          replace f12 := f12.step st9
          replace f13 := f13.step st9
          replace hs := hs.trans st9
          replace sl3 := sl3.trans st9
          exact hnext (IntKind.i64.wrap (t.1 + 1), (⟨t2.2.p, t2.2.rows, t2.2.det, (t2.2.lead ++ ([t.1] : List Int))⟩ : TGrid)) _ _ ⟨_, _, _, _, _, _, _, _, _, sl3, rfl, rfl, rfl, f7, rfl, rfl, f13, b⟩ q
    · exact hk (Zt xσ) (ren [1, 2, 3] xσ) _ (hs.turn hσ) (hs.oldT hσ) (ren_z _ _) t.2 _ rfl _ _ _ rfl (SlO.keep f3 (Fr.refl _ _) (Fr.wide (ren_y (js := [1, 2, 3]) (j := 2) (m := 2) (by decide) (by decide)) _)) _ rfl _ _ _ rfl (SlO.keep f4 (Fr.refl _ _) (Fr.wide (ren_y (js := [1, 2, 3]) (j := 3) (m := 3) (by decide) (by decide)) _)) ⟨b.blk, ren_y (js := [1, 2, 3]) (j := 1) (m := 1) (by decide) (by decide) _ b.tag⟩ q
  · exact hk (Zt xσ) (ren [1, 2, 3] xσ) _ (hs.turn hσ) (hs.oldT hσ) (ren_z _ _) t.2 _ rfl _ _ _ rfl (SlO.keep f3 (Fr.refl _ _) (Fr.wide (ren_y (js := [1, 2, 3]) (j := 2) (m := 2) (by decide) (by decide)) _)) _ rfl _ _ _ rfl (SlO.keep f4 (Fr.refl _ _) (Fr.wide (ren_y (js := [1, 2, 3]) (j := 3) (m := 3) (by decide) (by decide)) _)) ⟨b.blk, ren_y (js := [1, 2, 3]) (j := 1) (m := 1) (by decide) (by decide) _ b.tag⟩ q
def matrix_Answer.C (p : Nat) (m : (List (List Nat))) (v : (List Nat)) (K : (List Nat) → Bool → Prop) : Prop :=
  ∀ (Z : Nat → Prop) (H : Heap), ∀ (pv : Int), pv = (p : Int) → ∀ (mA : Option Addr) (mn mc : Nat), mn = m.length → SlF (slL u64L) Z H mA mc m → ∀ (vA : Option Addr) (vn vc : Nat), vn = v.length → SlF u64L Z H vA vc v → ∀ KK : Value → Heap → Prop,
    (∀ (Z' : Nat → Prop) (H' : Heap), Ext H H' → Old Z H Z' → ∀ (r0 : (List Nat)), ∀ (Y0 : Nat → Prop), (∀ i, Y0 i → H.size ≤ i ∧ ¬ Z' i) → ∀ (Ar0_0 : Option Addr) (nr0_0 cr0_0 : Nat), nr0_0 = r0.length → SlO (rdM u64L) 22 Z' Y0 H' Ar0_0 cr0_0 r0 → ∀ (r1 : Bool), K r0 r1 → KK (.tuple #[.slice Ar0_0 nr0_0 cr0_0, .bool r1]) H') →
    CallH P N.matrix_Answer [.int .u64 pv, .slice mA mn mc, .slice vA vn vc] H KK
def matrix_Answer.Q (p : Nat) (m : (List (List Nat))) (v : (List Nat)) (K : (List Nat) → Bool → Prop) : Prop :=
  0 ≤ (0 : Int) ∧ ∃ x : (List Nat), m[0]? = some x ∧ matrix_own.C p m (fun (x2 : TGrid) =>
  LoopQ (τ := Int × List (List Nat)) (0, x2.rows) fun t nextQ =>
  cond (decide (t.1 < ((x2.rows.length : Nat) : Int))) (0 ≤ t.1 ∧ ∃ x3 : Nat, v[Int.toNat t.1]? = some x3 ∧ 0 ≤ t.1 ∧ t.1 < ((x2.rows.length : Nat) : Int) ∧ ∃ x4 : (List Nat), t.2[Int.toNat t.1]? = some x4 ∧ AppOk 8 (x4 ++ ([x3] : List Nat)).length ∧ 0 ≤ t.1 ∧ t.1 < ((x2.rows.length : Nat) : Int) ∧ nextQ (IntKind.i64.wrap (t.1 + 1), (List.set t.2 (Int.toNat t.1) (x4 ++ ([x3] : List Nat)))))
   (matrix_grid_reduce.C (⟨x2.p, t.2, x2.det, x2.lead⟩ : TGrid) ((x.length : Nat) : Int) (fun (o : TGrid) =>
  MakeOk 8 ((x.length : Nat) : Int) ∧ LoopQ (τ := Int × List Nat) (0, (List.replicate x.length 0)) fun t2 nextQ2 =>
  cond (decide (t2.1 < ((o.rows.length : Nat) : Int))) (0 ≤ t2.1 ∧ t2.1 < ((o.rows.length : Nat) : Int) ∧ ∃ x5 : (List Nat), o.rows[Int.toNat t2.1]? = some x5 ∧ cond (decide (t2.1 < ((o.lead.length : Nat) : Int))) (0 ≤ ((x.length : Nat) : Int) ∧ ((x.length : Nat) : Int) < ((x5.length : Nat) : Int) ∧ 0 ≤ t2.1 ∧ t2.1 < ((o.lead.length : Nat) : Int) ∧ ∃ x6 : Int, o.lead[Int.toNat t2.1]? = some x6 ∧ ∃ x7 : Nat, x5[x.length]? = some x7 ∧ 0 ≤ x6 ∧ x6 < ((x.length : Nat) : Int) ∧ nextQ2 (IntKind.i64.wrap (t2.1 + 1), (List.set t2.2 (Int.toNat x6) x7)))
   (0 ≤ ((x.length : Nat) : Int) ∧ ((x.length : Nat) : Int) < ((x5.length : Nat) : Int) ∧ ∃ x8 : Nat, x5[x.length]? = some x8 ∧ cond ((x8 : Int) != 0) (K ([]) false)
   (nextQ2 (IntKind.i64.wrap (t2.1 + 1), t2.2))))
   (K t2.2 true))))
theorem matrix_Answer.q {p : Nat} {m : (List (List Nat))} {v : (List Nat)} {K : (List Nat) → Bool → Prop} (q : matrix_Answer.Q p m v K) : matrix_Answer.C p m v K := by
  intro Z H pv he mA mn mc hn f vA vn vc hn2 f2 KK hk
  cases he
  cases hn
  cases hn2
  apply matrix_Answer.ok
  unfold matrix_Answer.W
  unfold matrix_Answer.Q at q
  obtain ⟨σ, hz, hσ⟩ := tags Z
  have hs : Stp ([1, 2, 3, 4, 5] : List Nat) σ H σ H := Stp.refl _ _ _
  replace f := f.wide hz
  replace f2 := f2.wide hz
  clear hz
  obtain ⟨h0, x, hx, q⟩ := q
  obtain ⟨a, ha, hi⟩ := f.addr h0 hx rfl
  refine ⟨a, ha, hi.1, hi.2, ?_⟩
  obtain ⟨A, c, hc, f3⟩ := f.lds ha h0 hx
  refine ⟨_, _, _, hc.val, ?_⟩
  refine q (Zt σ) (ren [] σ) H (ren_z _ _) _ rfl _ _ _ rfl f _ (fun Z2 xτ H_ hT hO hd x2 g v2 he2 A2 n c2 hn3 f4 v3 he3 A3 n2 c3 hn4 f5 b q => ?_)
  obtain ⟨xσ, st, fz, fy⟩ := callT hT hO hd [1, 2, 3]
  replace f4 := SlO.keep f4 fz (Fr.wide (fy 1 2 rfl) _)
  replace f5 := SlO.keep f5 fz (Fr.wide (fy 2 3 rfl) _)
  replace b := BoxF.mk b.blk (fy 0 1 rfl _ b.tag)
  cases he2
  cases hn3
  cases he3
  cases hn4
  replace f := f.step st
  replace f2 := f2.step st
  replace hc := hc.step st
  replace f3 := f3.step st
  replace hs := hs.trans st
  refine ⟨_, rfl, ?_⟩
  refine ⟨hc.val, ?_⟩
  refine ⟨_, _, _, b.cell 1 rfl, ?_⟩
  refine LoopI.ofQ q (fun t_ s_ hp_ => ∃ (σ_ : Nat → Nat), Stp [2, 4] xσ H_ σ_ hp_ ∧ t_.1 = s_ ∧ t_.2.length = x2.rows.length ∧ SlO (slM (rdM u64L) 22) 30 (Zt σ_) (Yt σ_ 2) hp_ A2 c2 t_.2) (fun h k => h _ _ k) ⟨_, Stp.refl _ _ _, rfl, rfl, f4⟩ ?_
  rintro t _ _ H_2 next nextQ ⟨xσ2, st2, rfl, hl, f4⟩ q hnext
  try dsimp only at q ⊢
  replace f := f.step st2
  replace f2 := f2.step st2
  replace hc := hc.step st2
  replace f3 := f3.step st2
  replace f5 := f5.step st2
  replace b := b.step st2
  replace hs := hs.trans st2
  have sl3 := st2
  refine condI (fun q => ?_) (fun q => ?_) q
  · obtain ⟨h02, x3, hx2, q⟩ := q
    obtain ⟨a2, ha2, hi2⟩ := f2.addr h02 hx2 rfl
    refine ⟨a2, ha2, hi2.1, hi2.2, ?_⟩
    refine ⟨_, _, _, b.cell 1 rfl, ?_⟩
    refine ⟨_, _, _, b.cell 1 rfl, ?_⟩
    obtain ⟨h03, hi4, q⟩ := q
    obtain ⟨a3, ha3, hi3⟩ := f4.addr h03 ((rfl : _ = _).trans hl.symm) hi4
    refine ⟨a3, ha3, hi3.1, hi3.2, ?_⟩
    obtain ⟨x4, hx3, q⟩ := q
    obtain ⟨A4, c4, Y, hc2, hY, f6, bk⟩ := f4.row ha3 h03 hx3
    have g2 := SlO.rowF f6 (fun b hb => (hY b hb).1)
    refine ⟨_, _, _, hc2.val, ?_⟩
    have hc3 := f2.ldu ha2 h02 hx2
    refine ⟨_, hc3.val, ?_⟩
    refine NewH.mk fun H_3 e => ?_
    obtain ⟨xσ3, st3, f7⟩ := SlO.lit (E := u64L) xσ2 4 (xs := [x3]) (l := [[_]]) e rfl (.cons rfl .nil) (show (1 : Nat) ≤ 17592186044416 by decide)
    replace f := f.step st3
    replace f2 := f2.step st3
    replace hc := hc.step st3
    replace f3 := f3.step st3
    replace f4 := f4.step st3
    replace f5 := f5.step st3
    replace b := b.step st3
    replace hc2 := hc2.step st3
    replace hc3 := hc3.step st3
    replace hs := hs.trans st3
    replace sl3 := sl3.trans st3
    refine ⟨hc2.val, (b.cell 1 rfl), (b.cell 1 rfl), ?_⟩
    obtain ⟨xσ4, st4, f7⟩ := SlO.freeze f7
    replace f := f.step st4
    replace f2 := f2.step st4
    replace hc := hc.step st4
    replace f3 := f3.step st4
    replace f4 := f4.step st4
    replace f5 := f5.step st4
    replace b := b.step st4
    replace hc2 := hc2.step st4
    replace hc3 := hc3.step st4
    replace hs := hs.trans st4
    replace sl3 := sl3.trans st4
    obtain ⟨q2, q⟩ := q
    refine SlO.rowApp f4 ha3 h03 hx3 hc2 f7 rfl rfl q2.l q2.r rfl (kont := fun A5 c5 H_4 xσ5 st5 w => ?_)
    replace f := f.step st5
    replace f2 := f2.step st5
    replace hc := hc.step st5
    replace f3 := f3.step st5
    replace f5 := f5.step st5
    replace b := b.step st5
    replace hc3 := hc3.step st5
    replace f7 := f7.step st5
    replace hs := hs.trans st5
    replace sl3 := sl3.trans st5
    refine ⟨(b.cell 1 rfl), ?_⟩
    obtain ⟨h04, hi6, q⟩ := q
    obtain ⟨a4, ha4, hi5⟩ := f4.addr h04 ((rfl : _ = _).trans hl.symm) hi6
    refine ⟨a4, ha4, hi5.1, hi5.2, ?_⟩
    have ea := Option.some.inj (ha3.symm.trans ha4)
    subst ea
    refine ⟨w.1, NewH.mk fun H_5 e2 => ?_⟩
    obtain ⟨st6, f4⟩ := w.2 H_5 e2
    replace f := f.step st6
    replace f2 := f2.step st6
    replace hc := hc.step st6
    replace f3 := f3.step st6
    replace f5 := f5.step st6
    replace b := b.step st6
    replace hc3 := hc3.step st6
    replace f7 := f7.step st6
    replace hs := hs.trans st6
    replace sl3 := sl3.trans st6
    exact hnext (IntKind.i64.wrap (t.1 + 1), (List.set t.2 (Int.toNat t.1) (x4 ++ ([x3] : List Nat)))) _ _ ⟨_, sl3, rfl, (set_back ((rfl : _ = _).trans hl.symm) (set_len ((rfl : _ = _).trans hl.symm)) hl), f4⟩ q
  · refine q (Zt xσ2) (ren [1, 2, 3] xσ2) H_2 (ren_z _ _) _ _ rfl _ _ _ ((rfl : _ = _).trans hl.symm) (SlO.keep f4 (Fr.refl _ _) (Fr.wide (ren_y (js := [1, 2, 3]) (j := 2) (m := 2) (by decide) (by decide)) _)) _ rfl _ _ _ rfl (SlO.keep f5 (Fr.refl _ _) (Fr.wide (ren_y (js := [1, 2, 3]) (j := 3) (m := 3) (by decide) (by decide)) _)) ⟨b.blk, (ren_y (js := [1, 2, 3]) (j := 1) (m := 1) (by decide) (by decide)) _ b.tag⟩ _ (fun Z3 xτ2 H_6 hT2 hO2 hd2 o v4 he4 A6 n3 c6 hn5 f8 v5 he5 A7 n4 c7 hn6 f9 b q => ?_)
    obtain ⟨xσ6, st7, fz2, fy2⟩ := callT hT2 hO2 hd2 [1, 2, 3]
    replace f8 := SlO.keep f8 fz2 (Fr.wide (fy2 1 2 rfl) _)
    replace f9 := SlO.keep f9 fz2 (Fr.wide (fy2 2 3 rfl) _)
    replace b := BoxF.mk b.blk (fy2 0 1 rfl _ b.tag)
    cases he4
    cases hn5
    cases he5
    cases hn6
    replace f := f.step st7
    replace f2 := f2.step st7
    replace hc := hc.step st7
    replace f3 := f3.step st7
    replace hs := hs.trans st7
    refine ⟨_, rfl, ?_⟩
    obtain ⟨q3, q⟩ := q
    refine ⟨q3.1, Int.le_refl _, q3.w1, q3.w2, NewH.mk fun H_7 e3 => ?_⟩
    obtain ⟨xσ7, st8, f10⟩ := SlO.made (O := (rdM u64L)) xσ6 5 e3 (u64_zero) q3.len
    replace f := f.step st8
    replace f2 := f2.step st8
    replace hc := hc.step st8
    replace f3 := f3.step st8
    replace b := b.step st8
    replace f8 := f8.step st8
    replace f9 := f9.step st8
    replace hs := hs.trans st8
    refine ⟨_, _, _, b.cell 1 rfl, ?_⟩
    refine LoopI.ofQ q (fun t_ s_ hp_ => ∃ (σ_ : Nat → Nat), Stp [5] xσ7 H_7 σ_ hp_ ∧ t_.1 = s_ ∧ t_.2.length = (List.replicate x.length 0).length ∧ SlO (rdM u64L) 22 (Zt σ_) (Yt σ_ 5) hp_ (some (Addr.mk H_6.size 0 none)) x.length t_.2) (fun h k => h _ _ k) ⟨_, Stp.refl _ _ _, rfl, rfl, f10⟩ ?_
    rintro t2 _ _ H_8 next2 nextQ2 ⟨xσ8, st9, rfl, hl2, f10⟩ q hnext2
    try dsimp only at q ⊢
    replace f := f.step st9
    replace f2 := f2.step st9
    replace hc := hc.step st9
    replace f3 := f3.step st9
    replace b := b.step st9
    replace f8 := f8.step st9
    replace f9 := f9.step st9
    replace hs := hs.trans st9
    have sl5 := st9
    refine condI (fun q => ?_) (fun q => ?_) q
    · obtain ⟨h05, hi8, q⟩ := q
      obtain ⟨a5, ha5, hi7⟩ := f8.addr h05 rfl hi8
      refine ⟨a5, ha5, hi7.1, hi7.2, ?_⟩
      obtain ⟨x5, hx4, q⟩ := q
      obtain ⟨A8, c8, Y2, hc4, hY2, f11, bk2⟩ := f8.row ha5 h05 hx4
      have g3 := SlO.rowF f11 (fun b hb => (hY2 b hb).1)
      refine ⟨_, _, _, hc4.val, ?_⟩
      refine ⟨_, _, _, b.cell 3 rfl, ?_⟩
      refine condI (fun q => ?_) (fun q => ?_) q
      · obtain ⟨h06, hi10, q⟩ := q
        obtain ⟨a6, ha6, hi9⟩ := SlF.addr g3 h06 (List.getElem?_eq_getElem (idx_lt rfl h06 hi10)) rfl
        refine ⟨a6, ha6, hi9.1, hi9.2, ?_⟩
        refine ⟨_, _, _, b.cell 3 rfl, ?_⟩
        obtain ⟨h07, hi12, q⟩ := q
        obtain ⟨a7, ha7, hi11⟩ := f9.addr h07 rfl hi12
        refine ⟨a7, ha7, hi11.1, hi11.2, ?_⟩
        obtain ⟨x6, hx5, q⟩ := q
        have hc5 := f9.ldi ha7 h07 hx5
        refine ⟨_, hc5.val, ?_⟩
        obtain ⟨x7, hx6, q⟩ := q
        have hc6 := SlO.row_ldu f8 ha5 h05 hx4 hc4 ha6 h06 hx6
        refine ⟨_, hc6.val, ?_⟩
        obtain ⟨h08, hi14, q⟩ := q
        obtain ⟨a8, ha8, hi13⟩ := f10.addr h08 ((rl_len _ _).trans hl2.symm) hi14
        refine ⟨a8, ha8, hi13.1, hi13.2, ?_⟩
        have w3 := fun v hr => SlO.set1 (v := v) (y := x7) f10 rfl ha8 h08 (lt_of_n ((rl_len _ _).trans hl2.symm) hi14) hr
        refine ⟨(w3 _ rfl).1, NewH.mk fun H_9 e4 => ?_⟩
        obtain ⟨st10, f10⟩ := (w3 _ rfl).2 H_9 e4
        replace f := f.step st10
        replace f2 := f2.step st10
        replace hc := hc.step st10
        replace f3 := f3.step st10
        replace b := b.step st10
        replace f8 := f8.step st10
        replace f9 := f9.step st10
        replace hc4 := hc4.step st10
        replace hc5 := hc5.step st10
        replace hc6 := hc6.step st10
        replace hs := hs.trans st10
        replace sl5 := sl5.trans st10
        exact hnext2 (IntKind.i64.wrap (t2.1 + 1), (List.set t2.2 (Int.toNat x6) x7)) _ _ ⟨_, sl5, rfl, (set_back ((rl_len _ _).trans hl2.symm) (set_len ((rl_len _ _).trans hl2.symm)) hl2), f10⟩ q
      · obtain ⟨h09, hi16, q⟩ := q
        obtain ⟨a9, ha9, hi15⟩ := SlF.addr g3 h09 (List.getElem?_eq_getElem (idx_lt rfl h09 hi16)) rfl
        refine ⟨a9, ha9, hi15.1, hi15.2, ?_⟩
        obtain ⟨x8, hx7, q⟩ := q
        have hc7 := SlO.row_ldu f8 ha5 h05 hx4 hc4 ha9 h09 hx7
        refine ⟨_, hc7.val, ?_⟩
        refine condI (fun q => ?_) (fun q => ?_) q
        · exact hk (Zt xσ8) _ (hs.ext hσ) (hs.old hσ) _ (fun _ => False) (fun _ h => h.elim) _ _ _ rfl (SlO.nil _ _ _ _ _) _ q
        · exact hnext2 (IntKind.i64.wrap (t2.1 + 1), t2.2) _ _ ⟨_, sl5, rfl, hl2, f10⟩ q
    · exact hk (Zt xσ8) _ (hs.ext hσ) (hs.old hσ) _ (Yt xσ8 5) (hs.fresh hσ) _ _ _ ((rl_len _ _).trans hl2.symm) f10 _ q
end Go.Proofs.Ytlhcaangdenoaaa.Sh
