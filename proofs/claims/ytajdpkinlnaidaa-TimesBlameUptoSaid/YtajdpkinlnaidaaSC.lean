import Derived.Test.YtajdpkinlnaidaaSB
namespace Go.Lf
end Go.Lf
namespace Go.Proofs.Ytajdpkinlnaidaa.Back
end Go.Proofs.Ytajdpkinlnaidaa.Back
namespace Go.Proofs.Ytajdpkinlnaidaa.Pl
end Go.Proofs.Ytajdpkinlnaidaa.Pl
namespace Go.Proofs.Ytajdpkinlnaidaa.Sh
end Go.Proofs.Ytajdpkinlnaidaa.Sh
namespace Go.Proofs.Ytajdpkinlnaidaa.Sp
end Go.Proofs.Ytajdpkinlnaidaa.Sp
namespace Go.Sx
end Go.Sx
section
set_option linter.unusedVariables false
set_option linter.unusedSimpArgs false
set_option maxRecDepth 100000
set_option maxHeartbeats 8000000
namespace Go.Proofs.Ytajdpkinlnaidaa.Sh
open Go.Sx
def matrix_Answer.A : Ann where
 loops := fun i => match i with
   | 12294 => [(26, .int .i64)]
   | 40976 => [(59, .int .i64)]
   | _ => []
 plans := fun i => match i with
   | 1 => .first 0 (.first 1 (.first 3 (.first 4 (.read 5 (.first 6 (.alt 2 [] (.first 7 (.first 8 (.done))) (.stop)))))))
   | 5 => .first 0 (.first 1 (.first 2 (.first 4 (.first 5 (.first 6 (.first 7 (.first 9 (.first 12 (.first 13 (.first 14 (.read 3 (.read 8 (.first 10 (.read 11 (.read 15 (.alt 16 [15] (.alt 17 [8, 11] (.first 18 (.alt 19 [3] (.done) (.stop))) (.stop)) (.stop)))))))))))))))))
   | 13 => .first 0 (.first 1 (.first 2 (.first 3 (.first 5 (.first 8 (.first 9 (.first 10 (.read 4 (.first 6 (.read 7 (.read 11 (.first 12 (.alt 13 [4, 7, 11] (.done) (.stop))))))))))))))
   | _ => .stop
def matrix_Answer.W (p : Int) (mA : Option Addr) (mn mc : Nat) (vA : Option Addr) (vn vc : Nat) (H : Heap) (R : Value → Heap → Prop) : Prop :=
 ∃ a : Addr, mA = some a ∧ 0 ≤ (0 : Int) ∧ (0 : Int) < ((mn : Nat) : Int) ∧ ∃ (xA : Option Addr) (xn xc : Nat), cellH H (a.add 0) = some (.slice xA xn xc) ∧ CallH P N.matrix_own [.int .u64 p, .slice mA mn mc] H fun v H_ =>
 ∃ r : Addr, v = .pointer (some r) ∧ cellH H_ (a.add 0) = some (.slice xA xn xc) ∧ ∃ (xA2 : Option Addr) (xn2 xc2 : Nat), cellH H_ (r.add 1) = some (.slice xA2 xn2 xc2) ∧ LoopI (σ := Int) (fun κ => κ 0 H_) fun s z H_2 next =>
 cond (decide (s < ((xn2 : Nat) : Int))) (∃ a2 : Addr, vA = some a2 ∧ 0 ≤ s ∧ s < ((vn : Nat) : Int) ∧ ∃ (xA3 : Option Addr) (xn3 xc3 : Nat), cellH H_2 (r.add 1) = some (.slice xA3 xn3 xc3) ∧ ∃ (xA4 : Option Addr) (xn4 xc4 : Nat), cellH H_2 (r.add 1) = some (.slice xA4 xn4 xc4) ∧ ∃ a3 : Addr, xA4 = some a3 ∧ 0 ≤ s ∧ s < ((xn4 : Nat) : Int) ∧ ∃ (xA5 : Option Addr) (xn5 xc5 : Nat), cellH H_2 (a3.add (Int.toNat s)) = some (.slice xA5 xn5 xc5) ∧ ∃ x : Int, cellH H_2 (a2.add (Int.toNat s)) = some (.int .u64 x) ∧ NewH (H_2.push (.cells #[.int .u64 x] 22 (0, 0))) fun H_3 =>
 cellH H_3 (a3.add (Int.toNat s)) = some (.slice xA5 xn5 xc5) ∧ cellH H_3 (r.add 1) = some (.slice xA4 xn4 xc4) ∧ cellH H_3 (r.add 1) = some (.slice xA3 xn3 xc3) ∧ AppendV 22 1 8 [.int .u64 0] H_3 xA5 xn5 xc5 (some (Addr.mk H_2.size 0 none)) 1 fun vA2 vn2 vc2 H_4 =>
 cellH H_4 (r.add 1) = some (.slice xA3 xn3 xc3) ∧ ∃ a4 : Addr, xA3 = some a4 ∧ 0 ≤ s ∧ s < ((xn3 : Nat) : Int) ∧ MayWrite H_4 (a4.add (Int.toNat s)) 1 ∧ NewH (setH H_4 (a4.add (Int.toNat s)) (.slice vA2 vn2 vc2)) fun H_5 =>
 next (IntKind.i64.wrap (s + 1)) H_5)
  (CallH P N.matrix_grid_reduce [.pointer (some r), .int .i64 ((xn : Nat) : Int)] H_2 fun v3 H_6 =>
 ∃ r2 : Addr, v3 = .pointer (some r2) ∧ 0 ≤ ((xn : Nat) : Int) ∧ ((xn : Nat) : Int) ≤ ((xn : Nat) : Int) ∧ ((xn : Nat) : Int) * 8 ≤ 2 ^ 48 ∧ ((xn : Nat) : Int) < 2 ^ 62 ∧ NewH (H_6.push (.cells (repl (Int.toNat ((xn : Nat) : Int)) [.int .u64 0]).toArray 22 (0, 0))) fun H_7 =>
 ∃ (xA6 : Option Addr) (xn6 xc6 : Nat), cellH H_7 (r.add 1) = some (.slice xA6 xn6 xc6) ∧ LoopI (σ := Int) (fun κ => κ 0 H_7) fun s2 z2 H_8 next2 =>
 cond (decide (s2 < ((xn6 : Nat) : Int))) (∃ a5 : Addr, xA6 = some a5 ∧ 0 ≤ s2 ∧ s2 < ((xn6 : Nat) : Int) ∧ ∃ (xA7 : Option Addr) (xn7 xc7 : Nat), cellH H_8 (a5.add (Int.toNat s2)) = some (.slice xA7 xn7 xc7) ∧ ∃ (xA8 : Option Addr) (xn8 xc8 : Nat), cellH H_8 (r.add 3) = some (.slice xA8 xn8 xc8) ∧ cond (decide (s2 < ((xn8 : Nat) : Int))) (∃ a6 : Addr, xA7 = some a6 ∧ 0 ≤ ((xn : Nat) : Int) ∧ ((xn : Nat) : Int) < ((xn7 : Nat) : Int) ∧ ∃ (xA9 : Option Addr) (xn9 xc9 : Nat), cellH H_8 (r.add 3) = some (.slice xA9 xn9 xc9) ∧ ∃ a7 : Addr, xA9 = some a7 ∧ 0 ≤ s2 ∧ s2 < ((xn9 : Nat) : Int) ∧ ∃ x2 : Int, cellH H_8 (a7.add (Int.toNat s2)) = some (.int .i64 x2) ∧ ∃ x3 : Int, cellH H_8 (a6.add (Int.toNat ((xn : Nat) : Int))) = some (.int .u64 x3) ∧ ∃ a8 : Addr, (some (Addr.mk H_6.size 0 none) : Option Addr) = some a8 ∧ 0 ≤ x2 ∧ x2 < ((Int.toNat ((xn : Nat) : Int) : Nat) : Int) ∧ MayWrite H_8 (a8.add (Int.toNat x2)) 1 ∧ NewH (setH H_8 (a8.add (Int.toNat x2)) (.int .u64 x3)) fun H_9 =>
 next2 (IntKind.i64.wrap (s2 + 1)) H_9)
  (∃ a9 : Addr, xA7 = some a9 ∧ 0 ≤ ((xn : Nat) : Int) ∧ ((xn : Nat) : Int) < ((xn7 : Nat) : Int) ∧ ∃ x4 : Int, cellH H_8 (a9.add (Int.toNat ((xn : Nat) : Int))) = some (.int .u64 x4) ∧ cond (x4 != 0) (R (.tuple #[.slice none 0 0, .bool false]) H_8)
  (next2 (IntKind.i64.wrap (s2 + 1)) H_8)))
  (R (.tuple #[.slice (some (Addr.mk H_6.size 0 none)) (Int.toNat ((xn : Nat) : Int)) (Int.toNat ((xn : Nat) : Int)), .bool true]) H_8))
theorem matrix_Answer.ok (p : Int) (mA : Option Addr) (mn mc : Nat) (vA : Option Addr) (vn vc : Nat) (H : Heap) (R : Value → Heap → Prop) (h : matrix_Answer.W p mA mn mc vA vn vc H R) : CallH P N.matrix_Answer [.int .u64 p, .slice mA mn mc, .slice vA vn vc] H R :=
 okW Try.func99 (by kernel_rfl) Try.ntmps99 matrix_Answer.A (by kernel_rfl) (by kernel_rfl) h
def matrix_own.A : Ann where
 loops := fun i => match i with
   | 12294 => [(13, .int .i64)]
   | _ => []
 plans := fun i => match i with
   | 5 => .first 0 (.first 1 (.first 2 (.first 3 (.first 5 (.read 4 (.alt 6 [] (.alt 7 [] (.alt 8 [4] (.first 9 (.first 10 (.alt 11 [] (.done) (.stop)))) (.stop)) (.stop)) (.stop)))))))
   | _ => .stop
def matrix_own.W (p : Int) (mA : Option Addr) (mn mc : Nat) (H : Heap) (R : Value → Heap → Prop) : Prop :=
 NewH (H.push (.cells #[.int .u64 p, .slice none 0 0, .int .u64 1, .slice none 0 0] 152 (0, 0))) fun H_ =>
 LoopI (σ := Int) (fun κ => κ 0 H_) fun s z H_2 next =>
 cond (decide (s < ((mn : Nat) : Int))) (∃ a : Addr, mA = some a ∧ 0 ≤ s ∧ s < ((mn : Nat) : Int) ∧ ∃ (xA : Option Addr) (xn xc : Nat), cellH H_2 (a.add (Int.toNat s)) = some (.slice xA xn xc) ∧ ∃ (xA2 : Option Addr) (xn2 xc2 : Nat), cellH H_2 (((Addr.mk H.size 0 none)).add 1) = some (.slice xA2 xn2 xc2) ∧ CallH P N.slices_Clone_uint64uint64 [.slice xA xn xc] H_2 fun v H_3 =>
 ∃ (rA : Option Addr) (rn rc : Nat), v = .slice rA rn rc ∧ cellH H_3 (((Addr.mk H.size 0 none)).add 1) = some (.slice xA2 xn2 xc2) ∧ NewH (H_3.push (.cells #[.slice rA rn rc] 37 (0, 0))) fun H_4 =>
 cellH H_4 (((Addr.mk H.size 0 none)).add 1) = some (.slice xA2 xn2 xc2) ∧ AppendV 37 1 24 [.slice none 0 0] H_4 xA2 xn2 xc2 (some (Addr.mk H_3.size 0 none)) 1 fun vA vn vc H_5 =>
 MayWrite H_5 (((Addr.mk H.size 0 none)).add 1) 1 ∧ NewH (setH H_5 (((Addr.mk H.size 0 none)).add 1) (.slice vA vn vc)) fun H_6 =>
 next (IntKind.i64.wrap (s + 1)) H_6)
  (R (.pointer (some (Addr.mk H.size 0 none))) H_2)
theorem matrix_own.ok (p : Int) (mA : Option Addr) (mn mc : Nat) (H : Heap) (R : Value → Heap → Prop) (h : matrix_own.W p mA mn mc H R) : CallH P N.matrix_own [.int .u64 p, .slice mA mn mc] H R :=
 okW Try.func106 (by kernel_rfl) Try.ntmps106 matrix_own.A (by kernel_rfl) (by kernel_rfl) h
def matrix_grid_reduce.A : Ann where
 loops := fun i => match i with
   | 8195 => [(5, .int .i64)]
   | 28683 => [(41, .int .i64)]
   | _ => []
 plans := fun i => match i with
   | 2 => .first 0 (.first 1 (.first 2 (.first 3 (.first 4 (.first 5 (.first 6 (.first 9 (.first 10 (.first 11 (.read 7 (.first 8 (.read 12 (.first 13 (.first 14 (.first 15 (.done))))))))))))))))
   | 10 => .first 0 (.first 1 (.first 2 (.first 3 (.first 4 (.first 5 (.first 7 (.first 8 (.first 9 (.first 11 (.first 14 (.read 6 (.read 10 (.first 12 (.read 13 (.first 15 (.read 16 (.alt 17 [6, 10, 13, 16] (.alt 18 [] (.done) (.stop)) (.stop))))))))))))))))))
   | _ => .stop
def matrix_grid_reduce.W (g : Addr) (columns : Int) (H : Heap) (R : Value → Heap → Prop) : Prop :=
 LoopI (σ := Int) (fun κ => κ 0 H) fun s z H_ next =>
 cond (decide (s < columns)) (∃ (xA : Option Addr) (xn xc : Nat), cellH H_ (g.add 3) = some (.slice xA xn xc) ∧ ∃ (xA2 : Option Addr) (xn2 xc2 : Nat), cellH H_ (g.add 1) = some (.slice xA2 xn2 xc2) ∧ cond (decide (((xn : Nat) : Int) < ((xn2 : Nat) : Int))) (∃ (xA3 : Option Addr) (xn3 xc3 : Nat), cellH H_ (g.add 3) = some (.slice xA3 xn3 xc3) ∧ CallH P N.matrix_grid_lift [.pointer (some g), .int .i64 ((xn3 : Nat) : Int), .int .i64 s] H_ fun v H_2 =>
 ∃ r : Bool, v = .bool r ∧ cond (!r) (next (IntKind.i64.wrap (s + 1)) H_2)
  (∃ (xA4 : Option Addr) (xn4 xc4 : Nat), cellH H_2 (g.add 1) = some (.slice xA4 xn4 xc4) ∧ LoopI (σ := Int) (fun κ => κ 0 H_2) fun s2 z2 H_3 next2 =>
 cond (decide (s2 < ((xn4 : Nat) : Int))) (cond (s2 != ((xn3 : Nat) : Int)) (∃ x : Int, cellH H_3 g = some (.int .u64 x) ∧ ∃ (xA5 : Option Addr) (xn5 xc5 : Nat), cellH H_3 (g.add 1) = some (.slice xA5 xn5 xc5) ∧ ∃ a : Addr, xA5 = some a ∧ 0 ≤ s2 ∧ s2 < ((xn5 : Nat) : Int) ∧ ∃ (xA6 : Option Addr) (xn6 xc6 : Nat), cellH H_3 (a.add (Int.toNat s2)) = some (.slice xA6 xn6 xc6) ∧ ∃ a2 : Addr, xA6 = some a2 ∧ 0 ≤ s ∧ s < ((xn6 : Nat) : Int) ∧ ∃ x2 : Int, cellH H_3 (a2.add (Int.toNat s)) = some (.int .u64 x2) ∧ CallH P N.field_Minus [.int .u64 x, .int .u64 0, .int .u64 x2] H_3 fun v2 H_4 =>
 ∃ r2 : Int, v2 = .int .u64 r2 ∧ CallH P N.matrix_grid_add [.pointer (some g), .int .i64 s2, .int .i64 ((xn3 : Nat) : Int), .int .u64 r2] H_4 fun v3 H_5 =>
 v3 = .tuple #[] ∧ next2 (IntKind.i64.wrap (s2 + 1)) H_5)
  (next2 (IntKind.i64.wrap (s2 + 1)) H_3))
  (∃ (xA7 : Option Addr) (xn7 xc7 : Nat), cellH H_3 (g.add 3) = some (.slice xA7 xn7 xc7) ∧ NewH (H_3.push (.cells #[.int .i64 s] 3 (0, 0))) fun H_6 =>
 AppendV 3 1 8 [.int .i64 0] H_6 xA7 xn7 xc7 (some (Addr.mk H_3.size 0 none)) 1 fun vA vn vc H_7 =>
 MayWrite H_7 (g.add 3) 1 ∧ NewH (setH H_7 (g.add 3) (.slice vA vn vc)) fun H_8 =>
 next (IntKind.i64.wrap (s + 1)) H_8)))
  (R (.pointer (some g)) H_)) (R (.pointer (some g)) H_)
theorem matrix_grid_reduce.ok (g : Addr) (columns : Int) (H : Heap) (R : Value → Heap → Prop) (h : matrix_grid_reduce.W g columns H R) : CallH P N.matrix_grid_reduce [.pointer (some g), .int .i64 columns] H R :=
 okW Try.func107 (by kernel_rfl) Try.ntmps107 matrix_grid_reduce.A (by kernel_rfl) (by kernel_rfl) h
def matrix_grid_lift.A : Ann where
 loops := fun i => match i with
   | 8195 => [(7, .int .i64)]
   | 49167 => [(102, .int .i64)]
   | _ => []
 plans := fun i => match i with
   | 7 => .first 0 (.first 1 (.first 2 (.first 4 (.first 5 (.first 6 (.first 7 (.first 9 (.first 10 (.first 11 (.first 12 (.first 14 (.first 17 (.first 18 (.first 19 (.first 21 (.read 3 (.read 8 (.read 13 (.first 15 (.read 16 (.read 20 (.first 22 (.read 23 (.first 24 (.alt 25 [3, 8, 13, 16, 20, 23] (.first 26 (.alt 27 [] (.done) (.stop))) (.stop))))))))))))))))))))))))))
   | 8 => .first 0 (.first 1 (.first 2 (.first 3 (.first 5 (.first 6 (.first 7 (.read 4 (.read 8 (.alt 9 [4, 8] (.first 10 (.first 11 (.alt 12 [] (.done) (.stop)))) (.stop))))))))))
   | 9 => .first 0 (.first 1 (.first 2 (.first 3 (.first 5 (.first 6 (.first 7 (.first 9 (.read 4 (.read 8 (.alt 10 [4, 8] (.first 11 (.first 12 (.alt 13 [] (.done) (.stop)))) (.stop)))))))))))
   | 14 => .first 0 (.first 1 (.first 2 (.first 4 (.first 7 (.first 8 (.first 9 (.first 10 (.first 12 (.first 13 (.read 3 (.first 5 (.read 6 (.read 11 (.alt 14 [11] (.first 15 (.alt 16 [3, 6] (.done) (.stop))) (.stop)))))))))))))))
   | _ => .stop
def matrix_grid_lift.W (g : Addr) (at_ : Int) (column : Int) (H : Heap) (R : Value → Heap → Prop) : Prop :=
 LoopI (σ := Int) (fun κ => κ at_ H) fun s z H_ next =>
 ∃ (xA : Option Addr) (xn xc : Nat), cellH H_ (g.add 1) = some (.slice xA xn xc) ∧ cond (decide (s < ((xn : Nat) : Int))) (∃ (xA2 : Option Addr) (xn2 xc2 : Nat), cellH H_ (g.add 1) = some (.slice xA2 xn2 xc2) ∧ ∃ a : Addr, xA2 = some a ∧ 0 ≤ s ∧ s < ((xn2 : Nat) : Int) ∧ ∃ (xA3 : Option Addr) (xn3 xc3 : Nat), cellH H_ (a.add (Int.toNat s)) = some (.slice xA3 xn3 xc3) ∧ ∃ a2 : Addr, xA3 = some a2 ∧ 0 ≤ column ∧ column < ((xn3 : Nat) : Int) ∧ ∃ x : Int, cellH H_ (a2.add (Int.toNat column)) = some (.int .u64 x) ∧ cond (x == 0) (next (IntKind.i64.wrap (s + 1)) H_)
  (cond (s != at_) (∃ (xA4 : Option Addr) (xn4 xc4 : Nat), cellH H_ (g.add 1) = some (.slice xA4 xn4 xc4) ∧ ∃ (xA5 : Option Addr) (xn5 xc5 : Nat), cellH H_ (g.add 1) = some (.slice xA5 xn5 xc5) ∧ ∃ (xA6 : Option Addr) (xn6 xc6 : Nat), cellH H_ (g.add 1) = some (.slice xA6 xn6 xc6) ∧ ∃ a3 : Addr, xA6 = some a3 ∧ 0 ≤ at_ ∧ at_ < ((xn6 : Nat) : Int) ∧ ∃ (xA7 : Option Addr) (xn7 xc7 : Nat), cellH H_ (a3.add (Int.toNat at_)) = some (.slice xA7 xn7 xc7) ∧ ∃ (xA8 : Option Addr) (xn8 xc8 : Nat), cellH H_ (g.add 1) = some (.slice xA8 xn8 xc8) ∧ ∃ a4 : Addr, xA8 = some a4 ∧ 0 ≤ s ∧ s < ((xn8 : Nat) : Int) ∧ ∃ (xA9 : Option Addr) (xn9 xc9 : Nat), cellH H_ (a4.add (Int.toNat s)) = some (.slice xA9 xn9 xc9) ∧ ∃ a5 : Addr, xA4 = some a5 ∧ 0 ≤ s ∧ s < ((xn4 : Nat) : Int) ∧ MayWrite H_ (a5.add (Int.toNat s)) 1 ∧ NewH (setH H_ (a5.add (Int.toNat s)) (.slice xA7 xn7 xc7)) fun H_2 =>
 ∃ a6 : Addr, xA5 = some a6 ∧ 0 ≤ at_ ∧ at_ < ((xn5 : Nat) : Int) ∧ MayWrite H_2 (a6.add (Int.toNat at_)) 1 ∧ NewH (setH H_2 (a6.add (Int.toNat at_)) (.slice xA9 xn9 xc9)) fun H_3 =>
 ∃ x2 : Int, cellH H_3 g = some (.int .u64 x2) ∧ ∃ x3 : Int, cellH H_3 (g.add 2) = some (.int .u64 x3) ∧ CallH P N.field_Minus [.int .u64 x2, .int .u64 0, .int .u64 x3] H_3 fun v H_4 =>
 ∃ r : Int, v = .int .u64 r ∧ MayWrite H_4 (g.add 2) 1 ∧ NewH (setH H_4 (g.add 2) (.int .u64 r)) fun H_5 =>
 ∃ x4 : Int, cellH H_5 g = some (.int .u64 x4) ∧ ∃ x5 : Int, cellH H_5 (g.add 2) = some (.int .u64 x5) ∧ CallH P N.field_Times [.int .u64 x4, .int .u64 x5, .int .u64 x] H_5 fun v2 H_6 =>
 ∃ r2 : Int, v2 = .int .u64 r2 ∧ MayWrite H_6 (g.add 2) 1 ∧ NewH (setH H_6 (g.add 2) (.int .u64 r2)) fun H_7 =>
 ∃ x6 : Int, cellH H_7 g = some (.int .u64 x6) ∧ CallH P N.field_Over [.int .u64 x6, .int .u64 x] H_7 fun v3 H_8 =>
 ∃ r3 : Int, v3 = .int .u64 r3 ∧ ∃ (xA10 : Option Addr) (xn10 xc10 : Nat), cellH H_8 (g.add 1) = some (.slice xA10 xn10 xc10) ∧ ∃ a7 : Addr, xA10 = some a7 ∧ 0 ≤ at_ ∧ at_ < ((xn10 : Nat) : Int) ∧ ∃ (xA11 : Option Addr) (xn11 xc11 : Nat), cellH H_8 (a7.add (Int.toNat at_)) = some (.slice xA11 xn11 xc11) ∧ LoopI (σ := Int) (fun κ => κ 0 H_8) fun s2 z2 H_9 next2 =>
 cond (decide (s2 < ((xn11 : Nat) : Int))) (∃ a8 : Addr, xA11 = some a8 ∧ 0 ≤ s2 ∧ s2 < ((xn11 : Nat) : Int) ∧ ∃ x7 : Int, cellH H_9 (a8.add (Int.toNat s2)) = some (.int .u64 x7) ∧ ∃ (xA12 : Option Addr) (xn12 xc12 : Nat), cellH H_9 (g.add 1) = some (.slice xA12 xn12 xc12) ∧ ∃ a9 : Addr, xA12 = some a9 ∧ 0 ≤ at_ ∧ at_ < ((xn12 : Nat) : Int) ∧ ∃ (xA13 : Option Addr) (xn13 xc13 : Nat), cellH H_9 (a9.add (Int.toNat at_)) = some (.slice xA13 xn13 xc13) ∧ ∃ x8 : Int, cellH H_9 g = some (.int .u64 x8) ∧ CallH P N.field_Times [.int .u64 x8, .int .u64 x7, .int .u64 r3] H_9 fun v4 H_10 =>
 ∃ r4 : Int, v4 = .int .u64 r4 ∧ cellH H_10 (a9.add (Int.toNat at_)) = some (.slice xA13 xn13 xc13) ∧ cellH H_10 (g.add 1) = some (.slice xA12 xn12 xc12) ∧ ∃ a10 : Addr, xA13 = some a10 ∧ 0 ≤ s2 ∧ s2 < ((xn13 : Nat) : Int) ∧ MayWrite H_10 (a10.add (Int.toNat s2)) 1 ∧ NewH (setH H_10 (a10.add (Int.toNat s2)) (.int .u64 r4)) fun H_11 =>
 next2 (IntKind.i64.wrap (s2 + 1)) H_11)
  (R (.bool true) H_9))
  (∃ x9 : Int, cellH H_ g = some (.int .u64 x9) ∧ ∃ x10 : Int, cellH H_ (g.add 2) = some (.int .u64 x10) ∧ CallH P N.field_Times [.int .u64 x9, .int .u64 x10, .int .u64 x] H_ fun v5 H_12 =>
 ∃ r5 : Int, v5 = .int .u64 r5 ∧ MayWrite H_12 (g.add 2) 1 ∧ NewH (setH H_12 (g.add 2) (.int .u64 r5)) fun H_13 =>
 ∃ x11 : Int, cellH H_13 g = some (.int .u64 x11) ∧ CallH P N.field_Over [.int .u64 x11, .int .u64 x] H_13 fun v6 H_14 =>
 ∃ r6 : Int, v6 = .int .u64 r6 ∧ ∃ (xA14 : Option Addr) (xn14 xc14 : Nat), cellH H_14 (g.add 1) = some (.slice xA14 xn14 xc14) ∧ ∃ a11 : Addr, xA14 = some a11 ∧ 0 ≤ at_ ∧ at_ < ((xn14 : Nat) : Int) ∧ ∃ (xA15 : Option Addr) (xn15 xc15 : Nat), cellH H_14 (a11.add (Int.toNat at_)) = some (.slice xA15 xn15 xc15) ∧ LoopI (σ := Int) (fun κ => κ 0 H_14) fun s3 z3 H_15 next3 =>
 cond (decide (s3 < ((xn15 : Nat) : Int))) (∃ a12 : Addr, xA15 = some a12 ∧ 0 ≤ s3 ∧ s3 < ((xn15 : Nat) : Int) ∧ ∃ x12 : Int, cellH H_15 (a12.add (Int.toNat s3)) = some (.int .u64 x12) ∧ ∃ (xA16 : Option Addr) (xn16 xc16 : Nat), cellH H_15 (g.add 1) = some (.slice xA16 xn16 xc16) ∧ ∃ a13 : Addr, xA16 = some a13 ∧ 0 ≤ at_ ∧ at_ < ((xn16 : Nat) : Int) ∧ ∃ (xA17 : Option Addr) (xn17 xc17 : Nat), cellH H_15 (a13.add (Int.toNat at_)) = some (.slice xA17 xn17 xc17) ∧ ∃ x13 : Int, cellH H_15 g = some (.int .u64 x13) ∧ CallH P N.field_Times [.int .u64 x13, .int .u64 x12, .int .u64 r6] H_15 fun v7 H_16 =>
 ∃ r7 : Int, v7 = .int .u64 r7 ∧ cellH H_16 (a13.add (Int.toNat at_)) = some (.slice xA17 xn17 xc17) ∧ cellH H_16 (g.add 1) = some (.slice xA16 xn16 xc16) ∧ ∃ a14 : Addr, xA17 = some a14 ∧ 0 ≤ s3 ∧ s3 < ((xn17 : Nat) : Int) ∧ MayWrite H_16 (a14.add (Int.toNat s3)) 1 ∧ NewH (setH H_16 (a14.add (Int.toNat s3)) (.int .u64 r7)) fun H_17 =>
 next3 (IntKind.i64.wrap (s3 + 1)) H_17)
  (R (.bool true) H_15))))
  (R (.bool false) H_)
theorem matrix_grid_lift.ok (g : Addr) (at_ : Int) (column : Int) (H : Heap) (R : Value → Heap → Prop) (h : matrix_grid_lift.W g at_ column H R) : CallH P N.matrix_grid_lift [.pointer (some g), .int .i64 at_, .int .i64 column] H R :=
 okW Try.func108 (by kernel_rfl) Try.ntmps108 matrix_grid_lift.A (by kernel_rfl) (by kernel_rfl) h
def matrix_grid_add.A : Ann where
 loops := fun i => match i with
   | 4100 => [(18, .int .i64)]
   | _ => []
 plans := fun i => match i with
   | 3 => .first 0 (.first 1 (.first 2 (.first 4 (.first 7 (.first 8 (.first 9 (.first 10 (.first 12 (.first 13 (.first 14 (.first 16 (.first 19 (.first 22 (.first 23 (.first 24 (.first 26 (.first 27 (.read 3 (.first 5 (.read 6 (.read 11 (.read 15 (.first 17 (.read 18 (.first 20 (.read 21 (.read 25 (.alt 28 [25] (.alt 29 [11, 15, 18, 21] (.first 30 (.alt 31 [3, 6] (.done) (.stop))) (.stop)) (.stop)))))))))))))))))))))))))))))
   | _ => .stop
def matrix_grid_add.W (g : Addr) (to_ : Int) (from_ : Int) (k : Int) (H : Heap) (R : Value → Heap → Prop) : Prop :=
 ∃ (xA : Option Addr) (xn xc : Nat), cellH H (g.add 1) = some (.slice xA xn xc) ∧ ∃ a : Addr, xA = some a ∧ 0 ≤ from_ ∧ from_ < ((xn : Nat) : Int) ∧ ∃ (xA2 : Option Addr) (xn2 xc2 : Nat), cellH H (a.add (Int.toNat from_)) = some (.slice xA2 xn2 xc2) ∧ LoopI (σ := Int) (fun κ => κ 0 H) fun s z H_ next =>
 cond (decide (s < ((xn2 : Nat) : Int))) (∃ a2 : Addr, xA2 = some a2 ∧ 0 ≤ s ∧ s < ((xn2 : Nat) : Int) ∧ ∃ x : Int, cellH H_ (a2.add (Int.toNat s)) = some (.int .u64 x) ∧ ∃ (xA3 : Option Addr) (xn3 xc3 : Nat), cellH H_ (g.add 1) = some (.slice xA3 xn3 xc3) ∧ ∃ a3 : Addr, xA3 = some a3 ∧ 0 ≤ to_ ∧ to_ < ((xn3 : Nat) : Int) ∧ ∃ (xA4 : Option Addr) (xn4 xc4 : Nat), cellH H_ (a3.add (Int.toNat to_)) = some (.slice xA4 xn4 xc4) ∧ ∃ x2 : Int, cellH H_ g = some (.int .u64 x2) ∧ ∃ (xA5 : Option Addr) (xn5 xc5 : Nat), cellH H_ (g.add 1) = some (.slice xA5 xn5 xc5) ∧ ∃ a4 : Addr, xA5 = some a4 ∧ 0 ≤ to_ ∧ to_ < ((xn5 : Nat) : Int) ∧ ∃ (xA6 : Option Addr) (xn6 xc6 : Nat), cellH H_ (a4.add (Int.toNat to_)) = some (.slice xA6 xn6 xc6) ∧ ∃ a5 : Addr, xA6 = some a5 ∧ 0 ≤ s ∧ s < ((xn6 : Nat) : Int) ∧ ∃ x3 : Int, cellH H_ (a5.add (Int.toNat s)) = some (.int .u64 x3) ∧ ∃ x4 : Int, cellH H_ g = some (.int .u64 x4) ∧ CallH P N.field_Times [.int .u64 x4, .int .u64 x, .int .u64 k] H_ fun v H_2 =>
 ∃ r : Int, v = .int .u64 r ∧ cellH H_2 (a5.add (Int.toNat s)) = some (.int .u64 x3) ∧ cellH H_2 (a4.add (Int.toNat to_)) = some (.slice xA6 xn6 xc6) ∧ cellH H_2 (g.add 1) = some (.slice xA5 xn5 xc5) ∧ cellH H_2 g = some (.int .u64 x2) ∧ cellH H_2 (a3.add (Int.toNat to_)) = some (.slice xA4 xn4 xc4) ∧ cellH H_2 (g.add 1) = some (.slice xA3 xn3 xc3) ∧ CallH P N.field_Plus [.int .u64 x2, .int .u64 x3, .int .u64 r] H_2 fun v2 H_3 =>
 ∃ r2 : Int, v2 = .int .u64 r2 ∧ cellH H_3 (a3.add (Int.toNat to_)) = some (.slice xA4 xn4 xc4) ∧ cellH H_3 (g.add 1) = some (.slice xA3 xn3 xc3) ∧ ∃ a6 : Addr, xA4 = some a6 ∧ 0 ≤ s ∧ s < ((xn4 : Nat) : Int) ∧ MayWrite H_3 (a6.add (Int.toNat s)) 1 ∧ NewH (setH H_3 (a6.add (Int.toNat s)) (.int .u64 r2)) fun H_4 =>
 next (IntKind.i64.wrap (s + 1)) H_4)
  (R (.tuple #[]) H_)
theorem matrix_grid_add.ok (g : Addr) (to_ : Int) (from_ : Int) (k : Int) (H : Heap) (R : Value → Heap → Prop) (h : matrix_grid_add.W g to_ from_ k H R) : CallH P N.matrix_grid_add [.pointer (some g), .int .i64 to_, .int .i64 from_, .int .u64 k] H R :=
 okW Try.func109 (by kernel_rfl) Try.ntmps109 matrix_grid_add.A (by kernel_rfl) (by kernel_rfl) h
end Go.Proofs.Ytajdpkinlnaidaa.Sh
namespace Go.Proofs.Ytajdpkinlnaidaa.Sh
open Go.Sx Go.Lf
def matrix_own.C (p : Nat) (m : (List (List Nat))) (K : TGrid → Prop) : Prop :=
 ∀ (Z : Nat → Prop) (τ : Nat → Nat) (H : Heap), (∀ i, τ i ≠ 0 → ¬ Z i) → ∀ (pv : Int), pv = (p : Int) → ∀ (mA : Option Addr) (mn mc : Nat), mn = m.length → SlF (slL u64L) Z H mA mc m → ∀ KK : Value → Heap → Prop,
   (∀ (Z' : Nat → Prop) (τ' : Nat → Nat) (H' : Heap), Turn τ H τ' H' → OldT Z τ H Z' → (∀ i, τ' i ≠ 0 → ¬ Z' i) → ∀ (r0 : TGrid) (gr0 : Nat), ∀ (vr0_0 : Int), vr0_0 = (r0.p : Int) → ∀ (Ar0_1 : Option Addr) (nr0_1 cr0_1 : Nat), nr0_1 = r0.rows.length → SlO (slM (rdM u64L) 22) 37 Z' (Yt τ' 2) H' Ar0_1 cr0_1 r0.rows → ∀ (vr0_2 : Int), vr0_2 = (r0.det : Int) → ∀ (Ar0_3 : Option Addr) (nr0_3 cr0_3 : Nat), nr0_3 = r0.lead.length → SlO (rdM i64L) 3 Z' (Yt τ' 3) H' Ar0_3 cr0_3 r0.lead → BoxF 1 τ' H' gr0 [.int .u64 vr0_0, .slice Ar0_1 nr0_1 cr0_1, .int .u64 vr0_2, .slice Ar0_3 nr0_3 cr0_3] 152 → K r0 → KK (.pointer (some (Addr.mk gr0 0 none))) H') →
   CallH P N.matrix_own [.int .u64 pv, .slice mA mn mc] H KK
def matrix_own.Q (p : Nat) (m : (List (List Nat))) (K : TGrid → Prop) : Prop :=
 LoopQ (τ := Int × TGrid) (0, (⟨p, ([] : List (List Nat)), 1, ([] : List Int)⟩ : TGrid)) fun t nextQ =>
 cond (decide (t.1 < ((m.length : Nat) : Int))) (0 ≤ t.1 ∧ ∃ x3 : (List Nat), m[Int.toNat t.1]? = some x3 ∧ slices_Clone_uint64uint64.C x3 (fun (x4 : (List Nat)) =>
 AppOk 24 (t.2.rows ++ ([x4] : List (List Nat))).length ∧ nextQ (IntKind.i64.wrap (t.1 + 1), (⟨t.2.p, (t.2.rows ++ ([x4] : List (List Nat))), t.2.det, t.2.lead⟩ : TGrid))))
  (K t.2)
theorem matrix_own.q {p : Nat} {m : (List (List Nat))} {K : TGrid → Prop} (q : matrix_own.Q p m K) : matrix_own.C p m K := by
 intro Z τ H hτ pv he mA mn mc hn f KK hk; cases he; cases hn; apply matrix_own.ok; unfold matrix_own.W; unfold matrix_own.Q at q; obtain ⟨σ, hz, hy, hσ⟩ := tags2 Z τ 0 hτ; have hs : Stp ([1, 2, 3, 4, 5] : List Nat) σ H σ H := Stp.refl _ _ _; replace f := f.wide hz; clear hz; clear hy; refine NewH.mk fun H_ e => ?_; obtain ⟨xσ, st, b⟩ := BoxF.new σ 1 e; have f2 := SlO.nil (slM (rdM u64L) 22) 37 (Zt xσ) (Yt xσ 2) H_; have f3 := SlO.nil (rdM i64L) 3 (Zt xσ) (Yt xσ 3) H_; refine LoopI.ofQ q (fun t_ s_ hp_ => ∃ σ_ x1_0 A1_1 n1_1 c1_1 x1_2 A1_3 n1_3 c1_3, Stp [1, 2, 4] xσ H_ σ_ hp_ ∧ t_.1 = s_ ∧ x1_0 = ((t_.2.p : Nat) : Int) ∧ n1_1 = t_.2.rows.length ∧ SlO (slM (rdM u64L) 22) 37 (Zt σ_) (Yt σ_ 2) hp_ A1_1 c1_1 t_.2.rows ∧ x1_2 = ((t_.2.det : Nat) : Int) ∧ n1_3 = t_.2.lead.length ∧ SlO (rdM i64L) 3 (Zt σ_) (Yt σ_ 3) hp_ A1_3 c1_3 t_.2.lead ∧ BoxF 1 σ_ hp_ H.size [.int .u64 x1_0, .slice A1_1 n1_1 c1_1, .int .u64 x1_2, .slice A1_3 n1_3 c1_3] 152) (fun h k => h _ _ k) ⟨_, _, _, _, _, _, _, _, _, Stp.refl _ _ _, rfl, rfl, rfl, f2, rfl, rfl, f3, b⟩ ?_; rintro t _ _ H_2 next nextQ ⟨xσ2, x, A, n, c, x2, A2, n2, c2, st2, rfl, rfl, rfl, f4, rfl, rfl, f5, b⟩ q hnext; (try dsimp only at q ⊢); have sl1 := st2; refine condJ (fun q => ?_) (fun q => ?_) q
 · replace hs := hs.trans (st.then st2); exact hk (Zt xσ2) (ren [1, 2, 3] xσ2) _ (hs.turn hσ) (hs.oldT hσ) (ren_z _ _) t.2 _ _ rfl _ _ _ rfl (SlO.keep f4 (Fr.refl _ _) (Fr.wide (ren_y (js := [1, 2, 3]) (j := 2) (m := 2) (by decide) (by decide)) _)) _ rfl _ _ _ rfl (SlO.keep f5 (Fr.refl _ _) (Fr.wide (ren_y (js := [1, 2, 3]) (j := 3) (m := 3) (by decide) (by decide)) _)) ⟨b.blk, ren_y (js := [1, 2, 3]) (j := 1) (m := 1) (by decide) (by decide) _ b.tag⟩ q
 obtain ⟨h0, x3, hx, q⟩ := q; replace f := f.step (st.then st2); obtain ⟨a, ha, hi⟩ := f.addr h0 hx rfl; refine ⟨a, ha, hi.1, hi.2, ?_⟩; obtain ⟨A3, c3, hc, f6⟩ := f.lds ha h0 hx; refine ⟨_, _, _, hc.val, ?_⟩; refine ⟨_, _, _, b.cell 1 rfl, ?_⟩; refine q (Zt xσ2) H_2 _ _ _ rfl f6 _ (fun Z2 H_3 hE hO x4 Y hY A4 n3 c4 hn2 f7 q => ?_); obtain ⟨xσ3, st3, fz, fy⟩ := call1 hE hO xσ2 4 (fun _ h => h) hY; replace f7 := f7.keep fz fy; cases hn2; refine ⟨_, _, _, rfl, ?_⟩; replace b := b.step st3; refine ⟨(b.cell 1 rfl), ?_⟩; refine NewH.mk fun H_4 e2 => ?_; obtain ⟨xσ4, st4, f8⟩ := SlO.litO e2 rfl f7; replace b := b.step st4; refine ⟨(b.cell 1 rfl), ?_⟩; obtain ⟨q2, q⟩ := q; replace f4 := f4.step (st3.then st4); refine SlO.appO f4 f8 rfl rfl q2.l q2.r rfl rfl (fun A5 c5 H_5 xσ5 st5 f4_ => ?_); replace f4 := f4_; have f9 := f4; clear f4; replace b := b.step st5; refine ⟨b.may 1 (show (1 : Nat) < 4 by decide), NewH.mk fun H_6 e3 => ?_⟩; obtain ⟨st6, b⟩ := b.wrote 1 (show (1 : Nat) < 4 by decide) e3; simp only [List.set_cons_zero, List.set_cons_succ] at b; have c_0 := st3.then (st4.then (st5.then st6)); replace sl1 := sl1.trans c_0; replace f9 := f9.step st6; replace f5 := f5.step c_0; exact hnext (IntKind.i64.wrap (t.1 + 1), (⟨t.2.p, (t.2.rows ++ ([x4] : List (List Nat))), t.2.det, t.2.lead⟩ : TGrid)) _ _ ⟨_, _, _, _, _, _, _, _, _, sl1, rfl, rfl, rfl, f9, rfl, rfl, f5, b⟩ q
def matrix_grid_lift.C (g : TGrid) (at_ : Int) (column : Int) (K : Bool → TGrid → Prop) : Prop :=
 ∀ (Z : Nat → Prop) (τ : Nat → Nat) (H : Heap), (∀ i, τ i ≠ 0 → ¬ Z i) → ∀ (gP : Nat), ∀ (v : Int), v = (g.p : Int) → ∀ (A : Option Addr) (n c : Nat), n = g.rows.length → SlO (slM (rdM u64L) 22) 37 Z (Yt τ 2) H A c g.rows → ∀ (v2 : Int), v2 = (g.det : Int) → ∀ (A2 : Option Addr) (n2 c2 : Nat), n2 = g.lead.length → SlO (rdM i64L) 3 Z (Yt τ 3) H A2 c2 g.lead → BoxF 1 τ H gP [.int .u64 v, .slice A n c, .int .u64 v2, .slice A2 n2 c2] 152 → ∀ KK : Value → Heap → Prop,
   (∀ (Z' : Nat → Prop) (τ' : Nat → Nat) (H' : Heap), Turn τ H τ' H' → OldT Z τ H Z' → (∀ i, τ' i ≠ 0 → ¬ Z' i) → ∀ (r0 : Bool), ∀ (o0 : TGrid), ∀ (vo0_0 : Int), vo0_0 = (o0.p : Int) → ∀ (Ao0_1 : Option Addr) (no0_1 co0_1 : Nat), no0_1 = o0.rows.length → SlO (slM (rdM u64L) 22) 37 Z' (Yt τ' 2) H' Ao0_1 co0_1 o0.rows → ∀ (vo0_2 : Int), vo0_2 = (o0.det : Int) → ∀ (Ao0_3 : Option Addr) (no0_3 co0_3 : Nat), no0_3 = o0.lead.length → SlO (rdM i64L) 3 Z' (Yt τ' 3) H' Ao0_3 co0_3 o0.lead → BoxF 1 τ' H' gP [.int .u64 vo0_0, .slice Ao0_1 no0_1 co0_1, .int .u64 vo0_2, .slice Ao0_3 no0_3 co0_3] 152 → K r0 o0 → KK (.bool r0) H') →
   CallH P N.matrix_grid_lift [.pointer (some (Addr.mk gP 0 none)), .int .i64 at_, .int .i64 column] H KK
def matrix_grid_lift.Q (g : TGrid) (at_ : Int) (column : Int) (K : Bool → TGrid → Prop) : Prop :=
 LoopQ (τ := Int × TGrid) (at_, g) fun t nextQ =>
 cond (decide (t.1 < ((t.2.rows.length : Nat) : Int))) (0 ≤ t.1 ∧ t.1 < ((t.2.rows.length : Nat) : Int) ∧ ∃ x3 : (List Nat), t.2.rows[Int.toNat t.1]? = some x3 ∧ 0 ≤ column ∧ column < ((x3.length : Nat) : Int) ∧ ∃ x4 : Nat, x3[Int.toNat column]? = some x4 ∧ cond ((x4 : Int) == 0) (nextQ (IntKind.i64.wrap (t.1 + 1), t.2))
  (cond (t.1 != at_) (0 ≤ at_ ∧ at_ < ((t.2.rows.length : Nat) : Int) ∧ ∃ x5 : (List Nat), t.2.rows[Int.toNat at_]? = some x5 ∧ 0 ≤ t.1 ∧ t.1 < ((t.2.rows.length : Nat) : Int) ∧ ∃ x6 : (List Nat), t.2.rows[Int.toNat t.1]? = some x6 ∧ 0 ≤ t.1 ∧ t.1 < ((t.2.rows.length : Nat) : Int) ∧ 0 ≤ at_ ∧ at_ < ((t.2.rows.length : Nat) : Int) ∧ field_Minus.C t.2.p 0 t.2.det (fun (x7 : Nat) =>
 field_Times.C t.2.p x7 x4 (fun (x8 : Nat) =>
 field_Over.C t.2.p x4 (fun (x9 : Nat) =>
 0 ≤ at_ ∧ at_ < ((t.2.rows.length : Nat) : Int) ∧ ∃ x10 : (List Nat), (List.set (List.set t.2.rows (Int.toNat t.1) x5) (Int.toNat at_) x6)[Int.toNat at_]? = some x10 ∧ LoopQ (τ := Int × List (List Nat)) (0, (List.set (List.set t.2.rows (Int.toNat t.1) x5) (Int.toNat at_) x6)) fun t2 nextQ2 =>
 cond (decide (t2.1 < ((x10.length : Nat) : Int))) (0 ≤ t2.1 ∧ t2.1 < ((x10.length : Nat) : Int) ∧ ∃ row : (List Nat), t2.2[Int.toNat at_]? = some row ∧ ∃ x11 : Nat, row[Int.toNat t2.1]? = some x11 ∧ 0 ≤ at_ ∧ at_ < ((t.2.rows.length : Nat) : Int) ∧ ∃ x12 : (List Nat), t2.2[Int.toNat at_]? = some x12 ∧ field_Times.C t.2.p x11 x9 (fun (x13 : Nat) =>
 0 ≤ t2.1 ∧ t2.1 < ((x12.length : Nat) : Int) ∧ nextQ2 (IntKind.i64.wrap (t2.1 + 1), (List.set t2.2 (Int.toNat at_) (List.set x12 (Int.toNat t2.1) x13)))))
  (K true (⟨t.2.p, t2.2, x8, t.2.lead⟩ : TGrid))))))
  (field_Times.C t.2.p t.2.det x4 (fun (x14 : Nat) =>
 field_Over.C t.2.p x4 (fun (x15 : Nat) =>
 0 ≤ at_ ∧ at_ < ((t.2.rows.length : Nat) : Int) ∧ ∃ x16 : (List Nat), t.2.rows[Int.toNat at_]? = some x16 ∧ LoopQ (τ := Int × List (List Nat)) (0, t.2.rows) fun t3 nextQ3 =>
 cond (decide (t3.1 < ((x16.length : Nat) : Int))) (0 ≤ t3.1 ∧ t3.1 < ((x16.length : Nat) : Int) ∧ ∃ row2 : (List Nat), t3.2[Int.toNat at_]? = some row2 ∧ ∃ x17 : Nat, row2[Int.toNat t3.1]? = some x17 ∧ 0 ≤ at_ ∧ at_ < ((t.2.rows.length : Nat) : Int) ∧ ∃ x18 : (List Nat), t3.2[Int.toNat at_]? = some x18 ∧ field_Times.C t.2.p x17 x15 (fun (x19 : Nat) =>
 0 ≤ t3.1 ∧ t3.1 < ((x18.length : Nat) : Int) ∧ nextQ3 (IntKind.i64.wrap (t3.1 + 1), (List.set t3.2 (Int.toNat at_) (List.set x18 (Int.toNat t3.1) x19)))))
  (K true (⟨t.2.p, t3.2, x14, t.2.lead⟩ : TGrid)))))))
  (K false t.2)
theorem matrix_grid_lift.q {g : TGrid} {at_ : Int} {column : Int} {K : Bool → TGrid → Prop} (q : matrix_grid_lift.Q g at_ column K) : matrix_grid_lift.C g at_ column K := by
 intro Z τ H hτ gP v he A n c hn f v2 he2 A2 n2 c2 hn2 f2 b KK hk; cases he; cases hn; cases he2; cases hn2; apply matrix_grid_lift.ok; unfold matrix_grid_lift.W; unfold matrix_grid_lift.Q at q; obtain ⟨σ, hz, hy, hσ⟩ := tags2 Z τ 3 hτ; have hs : Stp ([1, 2] : List Nat) σ H σ H := Stp.refl _ _ _; replace f := SlO.keep f (Fr.wide hz _) (Fr.wide (hy 2 (by decide) (by decide)) _); replace f2 := SlO.keep f2 (Fr.wide hz _) (Fr.wide (hy 3 (by decide) (by decide)) _); replace b := BoxF.mk b.blk (hy 1 (by decide) (by decide) _ b.tag); clear hz; clear hy; refine LoopI.ofQ q (fun t_ s_ hp_ => ∃ σ_ x1_0 A1_1 n1_1 c1_1 x1_2 A1_3 n1_3 c1_3, Stp [1, 2] σ H σ_ hp_ ∧ t_.1 = s_ ∧ x1_0 = ((t_.2.p : Nat) : Int) ∧ n1_1 = t_.2.rows.length ∧ SlO (slM (rdM u64L) 22) 37 (Zt σ_) (Yt σ_ 2) hp_ A1_1 c1_1 t_.2.rows ∧ x1_2 = ((t_.2.det : Nat) : Int) ∧ n1_3 = t_.2.lead.length ∧ SlO (rdM i64L) 3 (Zt σ_) (Yt σ_ 3) hp_ A1_3 c1_3 t_.2.lead ∧ BoxF 1 σ_ hp_ gP [.int .u64 x1_0, .slice A1_1 n1_1 c1_1, .int .u64 x1_2, .slice A1_3 n1_3 c1_3] 152) (fun h k => h _ _ k) ⟨_, _, _, _, _, _, _, _, _, Stp.refl _ _ _, rfl, rfl, rfl, f, rfl, rfl, f2, b⟩ ?_; rintro t _ _ H_ next nextQ ⟨xσ, x, A3, n3, c3, x2, A4, n4, c4, st, rfl, rfl, rfl, f3, rfl, rfl, f4, b⟩ q hnext; (try dsimp only at q ⊢); have sl5 := st; refine ⟨_, _, _, b.cell 1 rfl, ?_⟩; refine condJ (fun q => ?_) (fun q => ?_) q
 · replace hs := hs.trans st; exact hk (Zt xσ) (ren [1, 2, 3] xσ) _ (hs.turn hσ) (hs.oldT hσ) (ren_z _ _) false t.2 _ rfl _ _ _ rfl (SlO.keep f3 (Fr.refl _ _) (Fr.wide (ren_y (js := [1, 2, 3]) (j := 2) (m := 2) (by decide) (by decide)) _)) _ rfl _ _ _ rfl (SlO.keep f4 (Fr.refl _ _) (Fr.wide (ren_y (js := [1, 2, 3]) (j := 3) (m := 3) (by decide) (by decide)) _)) ⟨b.blk, ren_y (js := [1, 2, 3]) (j := 1) (m := 1) (by decide) (by decide) _ b.tag⟩ q
 refine ⟨_, _, _, b.cell 1 rfl, ?_⟩; obtain ⟨h0, hi2, q⟩ := q; obtain ⟨a, ha, hi⟩ := f3.addr h0 rfl hi2; refine ⟨a, ha, hi.1, hi.2, ?_⟩; obtain ⟨x3, hx, q⟩ := q; obtain ⟨A5, c5, Y, hc, hY, f5, bk⟩ := f3.row ha h0 hx; have g2 := SlO.rowF f5 (fun b hb => (hY b hb).1); refine ⟨_, _, _, hc.val, ?_⟩; obtain ⟨h02, hi4, q⟩ := q; obtain ⟨a2, ha2, hi3⟩ := SlF.addr g2 h02 (List.getElem?_eq_getElem (idx_lt rfl h02 hi4)) rfl; refine ⟨a2, ha2, hi3.1, hi3.2, ?_⟩; obtain ⟨x4, hx2, q⟩ := q; have hc2 := SlO.row_ldu f3 ha h0 hx hc ha2 h02 hx2; refine ⟨_, hc2.val, ?_⟩; refine condI (fun q => ?_) (fun q => ?_) q
 · exact hnext (IntKind.i64.wrap (t.1 + 1), t.2) _ _ ⟨_, _, _, _, _, _, _, _, _, sl5, rfl, rfl, rfl, f3, rfl, rfl, f4, b⟩ q
 refine condJ (fun q => ?_) (fun q => ?_) q
 · refine ⟨_, b.cell0, ?_⟩; refine ⟨_, b.cell 2 rfl, ?_⟩; refine q (Zt xσ) H_ _ rfl _ rfl _ rfl _ (fun Z6 H_12 hE5 hO5 x14 v7 he7 q => ?_); obtain ⟨xσ7, st12⟩ := call0 hE5 xσ; cases he7; refine ⟨_, rfl, ?_⟩; replace b := b.step st12; refine ⟨b.may 2 (show (2 : Nat) < 4 by decide), NewH.mk fun H_13 e6 => ?_⟩; obtain ⟨st13, b⟩ := b.wrote 2 (show (2 : Nat) < 4 by decide) e6; simp only [List.set_cons_zero, List.set_cons_succ] at b; refine ⟨_, b.cell0, ?_⟩; refine q (Zt xσ7) H_13 _ rfl _ rfl _ (fun Z7 H_14 hE6 hO6 x15 v8 he8 q => ?_); obtain ⟨xσ8, st14⟩ := call0 hE6 xσ7; cases he8; refine ⟨_, rfl, ?_⟩; replace b := b.step st14; refine ⟨_, _, _, b.cell 1 rfl, ?_⟩; obtain ⟨h011, hi22, q⟩ := q; replace f3 := f3.step (st12.then (st13.then st14)); obtain ⟨a11, ha11, hi21⟩ := f3.addr h011 rfl hi22; refine ⟨a11, ha11, hi21.1, hi21.2, ?_⟩; obtain ⟨x16, hx9, q⟩ := q; obtain ⟨A10, c10, Y6, hc8, hY6, f10, bk6⟩ := f3.row ha11 h011 hx9; have g7 := SlO.rowF f10 (fun b hb => (hY6 b hb).1); refine ⟨_, _, _, hc8.val, ?_⟩; replace hc := hc.step (st12.then (st13.then st14)); refine LoopI.ofQ q (fun t_ s_ hp_ => ∃ σ_, Stp [2] xσ8 H_14 σ_ hp_ ∧ t_.1 = s_ ∧ t_.2.length = t.2.rows.length ∧ SlO (slM (rdM u64L) 22) 37 (Zt σ_) (Yt σ_ 2) hp_ A3 c3 t_.2 ∧ CelF 2 σ_ hp_ (a.add (Int.toNat t.1)) (.slice A5 x3.length c5) ∧ CelF 2 σ_ hp_ (a11.add (Int.toNat at_)) (.slice A10 x16.length c10)) (fun h k => h _ _ k) ⟨_, Stp.refl _ _ _, rfl, rfl, f3, hc, hc8⟩ ?_; rintro t3 _ _ H_15 next3 nextQ3 ⟨xσ9, st15, rfl, hl2, f3, hc, hc8⟩ q hnext3; (try dsimp only at q ⊢); have sl9 := st15; refine condJ (fun q => ?_) (fun q => ?_) q
   · replace hs := hs.trans (st.then (st12.then (st13.then (st14.then st15)))); replace f4 := f4.step (st12.then (st13.then (st14.then st15))); replace b := b.step st15; exact hk (Zt xσ9) (ren [1, 2, 3] xσ9) _ (hs.turn hσ) (hs.oldT hσ) (ren_z _ _) true (⟨t.2.p, t3.2, x14, t.2.lead⟩ : TGrid) _ rfl _ _ _ ((rfl : _ = _).trans hl2.symm) (SlO.keep f3 (Fr.refl _ _) (Fr.wide (ren_y (js := [1, 2, 3]) (j := 2) (m := 2) (by decide) (by decide)) _)) _ rfl _ _ _ rfl (SlO.keep f4 (Fr.refl _ _) (Fr.wide (ren_y (js := [1, 2, 3]) (j := 3) (m := 3) (by decide) (by decide)) _)) ⟨b.blk, ren_y (js := [1, 2, 3]) (j := 1) (m := 1) (by decide) (by decide) _ b.tag⟩ q
   obtain ⟨h012, hi24, q⟩ := q; obtain ⟨a12, ha12, hi23⟩ := SlF.addr g7 h012 (List.getElem?_eq_getElem (idx_lt rfl h012 hi24)) rfl; refine ⟨a12, ha12, hi23.1, hi23.2, ?_⟩; obtain ⟨row2, hx10, q⟩ := q; obtain ⟨x17, hx11, q⟩ := q; have hc9 := SlO.row_ldu f3 ha11 h011 hx10 hc8 ha12 h012 hx11; refine ⟨_, hc9.val, ?_⟩; replace b := b.step st15; refine ⟨_, _, _, b.cell 1 rfl, ?_⟩; obtain ⟨h013, hi26, q⟩ := q; obtain ⟨a13, ha13, hi25⟩ := f3.addr h013 ((rfl : _ = _).trans hl2.symm) hi26; refine ⟨a13, ha13, hi25.1, hi25.2, ?_⟩; obtain ⟨x18, hx12, q⟩ := q; obtain ⟨A11, c11, Y7, hc10, hY7, f11, bk7⟩ := f3.row ha13 h013 hx12; have g8 := SlO.rowF f11 (fun b hb => (hY7 b hb).1); refine ⟨_, _, _, hc10.val, ?_⟩; refine ⟨_, b.cell0, ?_⟩; refine q (Zt xσ9) H_15 _ rfl _ rfl _ rfl _ (fun Z8 H_16 hE7 hO7 x19 v9 he9 q => ?_); obtain ⟨xσ10, st16⟩ := call0 hE7 xσ9; cases he9; refine ⟨_, rfl, ?_⟩; replace hc10 := hc10.step st16; replace b := b.step st16; refine ⟨hc10.val, (b.cell 1 rfl), ?_⟩; obtain ⟨h014, hi28, q⟩ := q; obtain ⟨a14, ha14, hi27⟩ := SlF.addr g8 h014 (List.getElem?_eq_getElem (idx_lt rfl h014 hi28)) rfl; refine ⟨a14, ha14, hi27.1, hi27.2, ?_⟩; replace f3 := f3.step st16; have w5 := fun v hr => SlO.set2 (v := v) (y := x19) f3 rfl ha13 h013 hx12 hc10 ha14 h014 (lt_of_n rfl hi28) hr; refine ⟨(w5 _ rfl).1, NewH.mk fun H_17 e7 => ?_⟩; obtain ⟨st17, f3, hh2⟩ := (w5 _ rfl).2 H_17 e7; replace hc := hc.step st16; replace hc := by have ea := Option.some.inj (ha.symm.trans ha13); subst ea; exact hh2 _ _ hc
   replace hc8 := hc8.step st16; replace hc8 := by have ea := Option.some.inj (ha11.symm.trans ha13); subst ea; exact hh2 _ _ hc8
   replace hc10 := hh2 _ _ hc10; replace sl9 := sl9.trans (st16.then st17); exact hnext3 (IntKind.i64.wrap (t3.1 + 1), (List.set t3.2 (Int.toNat at_) (List.set x18 (Int.toNat t3.1) x19))) _ _ ⟨_, sl9, rfl, (set_back ((rfl : _ = _).trans hl2.symm) (set_len ((rfl : _ = _).trans hl2.symm)) hl2), f3, hc, hc8⟩ q
 refine ⟨_, _, _, b.cell 1 rfl, ?_⟩; refine ⟨_, _, _, b.cell 1 rfl, ?_⟩; refine ⟨_, _, _, b.cell 1 rfl, ?_⟩; obtain ⟨h03, hi6, q⟩ := q; obtain ⟨a3, ha3, hi5⟩ := f3.addr h03 rfl hi6; refine ⟨a3, ha3, hi5.1, hi5.2, ?_⟩; obtain ⟨x5, hx3, q⟩ := q; obtain ⟨A6, c6, Y2, hc3, hY2, f6, bk2⟩ := f3.row ha3 h03 hx3; have g3 := SlO.rowF f6 (fun b hb => (hY2 b hb).1); refine ⟨_, _, _, hc3.val, ?_⟩; refine ⟨_, _, _, b.cell 1 rfl, ?_⟩; obtain ⟨h04, hi8, q⟩ := q; obtain ⟨a4, ha4, hi7⟩ := f3.addr h04 rfl hi8; refine ⟨a4, ha4, hi7.1, hi7.2, ?_⟩; obtain ⟨x6, hx4, q⟩ := q; obtain ⟨A7, c7, Y3, hc4, hY3, f7, bk3⟩ := f3.row ha4 h04 hx4; have g4 := SlO.rowF f7 (fun b hb => (hY3 b hb).1); refine ⟨_, _, _, hc4.val, ?_⟩; obtain ⟨h05, hi10, q⟩ := q; obtain ⟨a5, ha5, hi9⟩ := f3.addr h05 rfl hi10; refine ⟨a5, ha5, hi9.1, hi9.2, ?_⟩; have ea := Option.some.inj (ha3.symm.trans ha5); subst ea; have ea := Option.some.inj (ha3.symm.trans ha4); subst ea; have w := SlO.swap f3 ha3 h04 h03 hx4 hx3 hc4 hc3; refine ⟨w.1, NewH.mk fun H_2 e => ?_⟩; have w2 := w.2 H_2 e; obtain ⟨h06, hi12, q⟩ := q; obtain ⟨a6, ha6, hi11⟩ := f3.addr h06 rfl hi12; refine ⟨a6, ha6, hi11.1, hi11.2, ?_⟩; have ea := Option.some.inj (ha3.symm.trans ha6); subst ea; refine ⟨w2.1, NewH.mk fun H_3 e2 => ?_⟩; obtain ⟨st3, f3⟩ := w2.2 H_3 e2; replace b := b.step st3; refine ⟨_, b.cell0, ?_⟩; refine ⟨_, b.cell 2 rfl, ?_⟩; refine q (Zt xσ) H_3 _ rfl _ rfl _ rfl _ (fun Z2 H_4 hE hO x7 v3 he3 q => ?_); obtain ⟨xσ2, st4⟩ := call0 hE xσ; cases he3; refine ⟨_, rfl, ?_⟩; replace b := b.step st4; refine ⟨b.may 2 (show (2 : Nat) < 4 by decide), NewH.mk fun H_5 e3 => ?_⟩; obtain ⟨st5, b⟩ := b.wrote 2 (show (2 : Nat) < 4 by decide) e3; simp only [List.set_cons_zero, List.set_cons_succ] at b; refine ⟨_, b.cell0, ?_⟩; refine ⟨_, b.cell 2 rfl, ?_⟩; refine q (Zt xσ2) H_5 _ rfl _ rfl _ rfl _ (fun Z3 H_6 hE2 hO2 x8 v4 he4 q => ?_); obtain ⟨xσ3, st6⟩ := call0 hE2 xσ2; cases he4; refine ⟨_, rfl, ?_⟩; replace b := b.step st6; refine ⟨b.may 2 (show (2 : Nat) < 4 by decide), NewH.mk fun H_7 e4 => ?_⟩; obtain ⟨st7, b⟩ := b.wrote 2 (show (2 : Nat) < 4 by decide) e4; simp only [List.set_cons_zero, List.set_cons_succ] at b; refine ⟨_, b.cell0, ?_⟩; refine q (Zt xσ3) H_7 _ rfl _ rfl _ (fun Z4 H_8 hE3 hO3 x9 v5 he5 q => ?_); obtain ⟨xσ4, st8⟩ := call0 hE3 xσ3; cases he5; refine ⟨_, rfl, ?_⟩; replace b := b.step st8; refine ⟨_, _, _, b.cell 1 rfl, ?_⟩; obtain ⟨h07, hi14, q⟩ := q; replace f3 := f3.step (st4.then (st5.then (st6.then (st7.then st8)))); obtain ⟨a7, ha7, hi13⟩ := f3.addr h07 (set_len (set_len rfl)) hi14; refine ⟨a7, ha7, hi13.1, hi13.2, ?_⟩; obtain ⟨x10, hx5, q⟩ := q; obtain ⟨A8, c8, Y4, hc5, hY4, f8, bk4⟩ := f3.row ha7 h07 hx5; have g5 := SlO.rowF f8 (fun b hb => (hY4 b hb).1); refine ⟨_, _, _, hc5.val, ?_⟩; refine LoopI.ofQ q (fun t_ s_ hp_ => ∃ σ_, Stp [2] xσ4 H_8 σ_ hp_ ∧ t_.1 = s_ ∧ t_.2.length = (List.set (List.set t.2.rows (Int.toNat t.1) x5) (Int.toNat at_) x6).length ∧ SlO (slM (rdM u64L) 22) 37 (Zt σ_) (Yt σ_ 2) hp_ A3 c3 t_.2 ∧ CelF 2 σ_ hp_ (a7.add (Int.toNat at_)) (.slice A8 x10.length c8)) (fun h k => h _ _ k) ⟨_, Stp.refl _ _ _, rfl, rfl, f3, hc5⟩ ?_
 rintro t2 _ _ H_9 next2 nextQ2 ⟨xσ5, st9, rfl, hl, f3, hc5⟩ q hnext2; (try dsimp only at q ⊢); have sl7 := st9; refine condJ (fun q => ?_) (fun q => ?_) q
 · replace hs := hs.trans (st.then (st3.then (st4.then (st5.then (st6.then (st7.then (st8.then st9))))))); replace f4 := f4.step (st3.then (st4.then (st5.then (st6.then (st7.then (st8.then st9)))))); replace b := b.step st9; exact hk (Zt xσ5) (ren [1, 2, 3] xσ5) _ (hs.turn hσ) (hs.oldT hσ) (ren_z _ _) true (⟨t.2.p, t2.2, x8, t.2.lead⟩ : TGrid) _ rfl _ _ _ ((set_len (set_len rfl)).trans hl.symm) (SlO.keep f3 (Fr.refl _ _) (Fr.wide (ren_y (js := [1, 2, 3]) (j := 2) (m := 2) (by decide) (by decide)) _)) _ rfl _ _ _ rfl (SlO.keep f4 (Fr.refl _ _) (Fr.wide (ren_y (js := [1, 2, 3]) (j := 3) (m := 3) (by decide) (by decide)) _)) ⟨b.blk, ren_y (js := [1, 2, 3]) (j := 1) (m := 1) (by decide) (by decide) _ b.tag⟩ q
 obtain ⟨h08, hi16, q⟩ := q; obtain ⟨a8, ha8, hi15⟩ := SlF.addr g5 h08 (List.getElem?_eq_getElem (idx_lt rfl h08 hi16)) rfl; refine ⟨a8, ha8, hi15.1, hi15.2, ?_⟩; obtain ⟨row, hx6, q⟩ := q; obtain ⟨x11, hx7, q⟩ := q; have hc6 := SlO.row_ldu f3 ha7 h07 hx6 hc5 ha8 h08 hx7; refine ⟨_, hc6.val, ?_⟩; replace b := b.step st9; refine ⟨_, _, _, b.cell 1 rfl, ?_⟩; obtain ⟨h09, hi18, q⟩ := q; obtain ⟨a9, ha9, hi17⟩ := f3.addr h09 ((set_len (set_len rfl)).trans hl.symm) hi18; refine ⟨a9, ha9, hi17.1, hi17.2, ?_⟩; obtain ⟨x12, hx8, q⟩ := q; obtain ⟨A9, c9, Y5, hc7, hY5, f9, bk5⟩ := f3.row ha9 h09 hx8; have g6 := SlO.rowF f9 (fun b hb => (hY5 b hb).1); refine ⟨_, _, _, hc7.val, ?_⟩; refine ⟨_, b.cell0, ?_⟩; refine q (Zt xσ5) H_9 _ rfl _ rfl _ rfl _ (fun Z5 H_10 hE4 hO4 x13 v6 he6 q => ?_); obtain ⟨xσ6, st10⟩ := call0 hE4 xσ5; cases he6; refine ⟨_, rfl, ?_⟩; replace hc7 := hc7.step st10; replace b := b.step st10; refine ⟨hc7.val, (b.cell 1 rfl), ?_⟩; obtain ⟨h010, hi20, q⟩ := q; obtain ⟨a10, ha10, hi19⟩ := SlF.addr g6 h010 (List.getElem?_eq_getElem (idx_lt rfl h010 hi20)) rfl; refine ⟨a10, ha10, hi19.1, hi19.2, ?_⟩; replace f3 := f3.step st10; have w4 := fun v hr => SlO.set2 (v := v) (y := x13) f3 rfl ha9 h09 hx8 hc7 ha10 h010 (lt_of_n rfl hi20) hr; refine ⟨(w4 _ rfl).1, NewH.mk fun H_11 e5 => ?_⟩; obtain ⟨st11, f3, hh⟩ := (w4 _ rfl).2 H_11 e5; replace hc5 := hc5.step st10; replace hc5 := by have ea := Option.some.inj (ha7.symm.trans ha9); subst ea; exact hh _ _ hc5
 replace hc7 := hh _ _ hc7; replace sl7 := sl7.trans (st10.then st11); exact hnext2 (IntKind.i64.wrap (t2.1 + 1), (List.set t2.2 (Int.toNat at_) (List.set x12 (Int.toNat t2.1) x13))) _ _ ⟨_, sl7, rfl, (set_back ((set_len (set_len rfl)).trans hl.symm) (set_len ((set_len (set_len rfl)).trans hl.symm)) hl), f3, hc5⟩ q
def matrix_grid_add.C (g : TGrid) (to_ : Int) (from_ : Int) (k : Nat) (K : TGrid → Prop) : Prop :=
 ∀ (Z : Nat → Prop) (τ : Nat → Nat) (H : Heap), (∀ i, τ i ≠ 0 → ¬ Z i) → ∀ (gP : Nat), ∀ (v : Int), v = (g.p : Int) → ∀ (A : Option Addr) (n c : Nat), n = g.rows.length → SlO (slM (rdM u64L) 22) 37 Z (Yt τ 2) H A c g.rows → ∀ (v2 : Int), v2 = (g.det : Int) → ∀ (A2 : Option Addr) (n2 c2 : Nat), n2 = g.lead.length → SlO (rdM i64L) 3 Z (Yt τ 3) H A2 c2 g.lead → BoxF 1 τ H gP [.int .u64 v, .slice A n c, .int .u64 v2, .slice A2 n2 c2] 152 → ∀ (kv : Int), kv = (k : Int) → ∀ KK : Value → Heap → Prop,
   (∀ (Z' : Nat → Prop) (τ' : Nat → Nat) (H' : Heap), Turn τ H τ' H' → OldT Z τ H Z' → (∀ i, τ' i ≠ 0 → ¬ Z' i) → ∀ (o0 : TGrid), ∀ (vo0_0 : Int), vo0_0 = (o0.p : Int) → ∀ (Ao0_1 : Option Addr) (no0_1 co0_1 : Nat), no0_1 = o0.rows.length → SlO (slM (rdM u64L) 22) 37 Z' (Yt τ' 2) H' Ao0_1 co0_1 o0.rows → ∀ (vo0_2 : Int), vo0_2 = (o0.det : Int) → ∀ (Ao0_3 : Option Addr) (no0_3 co0_3 : Nat), no0_3 = o0.lead.length → SlO (rdM i64L) 3 Z' (Yt τ' 3) H' Ao0_3 co0_3 o0.lead → BoxF 1 τ' H' gP [.int .u64 vo0_0, .slice Ao0_1 no0_1 co0_1, .int .u64 vo0_2, .slice Ao0_3 no0_3 co0_3] 152 → K o0 → KK (.tuple #[]) H') →
   CallH P N.matrix_grid_add [.pointer (some (Addr.mk gP 0 none)), .int .i64 to_, .int .i64 from_, .int .u64 kv] H KK
def matrix_grid_add.Q (g : TGrid) (to_ : Int) (from_ : Int) (k : Nat) (K : TGrid → Prop) : Prop :=
 0 ≤ from_ ∧ from_ < ((g.rows.length : Nat) : Int) ∧ ∃ x : (List Nat), g.rows[Int.toNat from_]? = some x ∧ LoopQ (τ := Int × List (List Nat)) (0, g.rows) fun t nextQ =>
 cond (decide (t.1 < ((x.length : Nat) : Int))) (0 ≤ t.1 ∧ t.1 < ((x.length : Nat) : Int) ∧ ∃ row : (List Nat), t.2[Int.toNat from_]? = some row ∧ ∃ x2 : Nat, row[Int.toNat t.1]? = some x2 ∧ 0 ≤ to_ ∧ to_ < ((g.rows.length : Nat) : Int) ∧ ∃ x3 : (List Nat), t.2[Int.toNat to_]? = some x3 ∧ 0 ≤ to_ ∧ to_ < ((g.rows.length : Nat) : Int) ∧ ∃ x4 : (List Nat), t.2[Int.toNat to_]? = some x4 ∧ 0 ≤ t.1 ∧ t.1 < ((x4.length : Nat) : Int) ∧ ∃ x5 : Nat, x4[Int.toNat t.1]? = some x5 ∧ field_Times.C g.p x2 k (fun (x6 : Nat) =>
 field_Plus.C g.p x5 x6 (fun (x7 : Nat) =>
 0 ≤ t.1 ∧ t.1 < ((x3.length : Nat) : Int) ∧ nextQ (IntKind.i64.wrap (t.1 + 1), (List.set t.2 (Int.toNat to_) (List.set x3 (Int.toNat t.1) x7))))))
  (K (⟨g.p, t.2, g.det, g.lead⟩ : TGrid))
theorem matrix_grid_add.q {g : TGrid} {to_ : Int} {from_ : Int} {k : Nat} {K : TGrid → Prop} (q : matrix_grid_add.Q g to_ from_ k K) : matrix_grid_add.C g to_ from_ k K := by
 intro Z τ H hτ gP v he A n c hn f v2 he2 A2 n2 c2 hn2 f2 b kv he3 KK hk; cases he; cases hn; cases he2; cases hn2; cases he3; apply matrix_grid_add.ok; unfold matrix_grid_add.W; unfold matrix_grid_add.Q at q; obtain ⟨σ, hz, hy, hσ⟩ := tags2 Z τ 3 hτ; have hs : Stp ([2] : List Nat) σ H σ H := Stp.refl _ _ _; replace f := SlO.keep f (Fr.wide hz _) (Fr.wide (hy 2 (by decide) (by decide)) _); replace f2 := SlO.keep f2 (Fr.wide hz _) (Fr.wide (hy 3 (by decide) (by decide)) _); replace b := BoxF.mk b.blk (hy 1 (by decide) (by decide) _ b.tag); clear hz; clear hy; refine ⟨_, _, _, b.cell 1 rfl, ?_⟩; obtain ⟨h0, hi2, q⟩ := q; obtain ⟨a, ha, hi⟩ := f.addr h0 rfl hi2; refine ⟨a, ha, hi.1, hi.2, ?_⟩; obtain ⟨x, hx, q⟩ := q; obtain ⟨A3, c3, Y, hc, hY, f3, bk⟩ := f.row ha h0 hx; have g2 := SlO.rowF f3 (fun b hb => (hY b hb).1); refine ⟨_, _, _, hc.val, ?_⟩; refine LoopI.ofQ q (fun t_ s_ hp_ => ∃ σ_, Stp [2] σ H σ_ hp_ ∧ t_.1 = s_ ∧ t_.2.length = g.rows.length ∧ SlO (slM (rdM u64L) 22) 37 (Zt σ_) (Yt σ_ 2) hp_ A c t_.2 ∧ CelF 2 σ_ hp_ (a.add (Int.toNat from_)) (.slice A3 x.length c3)) (fun h k => h _ _ k) ⟨_, Stp.refl _ _ _, rfl, rfl, f, hc⟩ ?_; rintro t _ _ H_ next nextQ ⟨xσ, st, rfl, hl, f, hc⟩ q hnext; (try dsimp only at q ⊢); have sl1 := st; refine condJ (fun q => ?_) (fun q => ?_) q
 · replace hs := hs.trans st; replace f2 := f2.step st; replace b := b.step st; exact hk (Zt xσ) (ren [1, 2, 3] xσ) _ (hs.turn hσ) (hs.oldT hσ) (ren_z _ _) (⟨g.p, t.2, g.det, g.lead⟩ : TGrid) _ rfl _ _ _ ((rfl : _ = _).trans hl.symm) (SlO.keep f (Fr.refl _ _) (Fr.wide (ren_y (js := [1, 2, 3]) (j := 2) (m := 2) (by decide) (by decide)) _)) _ rfl _ _ _ rfl (SlO.keep f2 (Fr.refl _ _) (Fr.wide (ren_y (js := [1, 2, 3]) (j := 3) (m := 3) (by decide) (by decide)) _)) ⟨b.blk, ren_y (js := [1, 2, 3]) (j := 1) (m := 1) (by decide) (by decide) _ b.tag⟩ q
 obtain ⟨h02, hi4, q⟩ := q; obtain ⟨a2, ha2, hi3⟩ := SlF.addr g2 h02 (List.getElem?_eq_getElem (idx_lt rfl h02 hi4)) rfl; refine ⟨a2, ha2, hi3.1, hi3.2, ?_⟩; obtain ⟨row, hx2, q⟩ := q; obtain ⟨x2, hx3, q⟩ := q; have hc2 := SlO.row_ldu f ha h0 hx2 hc ha2 h02 hx3; refine ⟨_, hc2.val, ?_⟩; replace b := b.step st; refine ⟨_, _, _, b.cell 1 rfl, ?_⟩; obtain ⟨h03, hi6, q⟩ := q; obtain ⟨a3, ha3, hi5⟩ := f.addr h03 ((rfl : _ = _).trans hl.symm) hi6; refine ⟨a3, ha3, hi5.1, hi5.2, ?_⟩; obtain ⟨x3, hx4, q⟩ := q; obtain ⟨A4, c4, Y2, hc3, hY2, f4, bk2⟩ := f.row ha3 h03 hx4; have g3 := SlO.rowF f4 (fun b hb => (hY2 b hb).1); refine ⟨_, _, _, hc3.val, ?_⟩; refine ⟨_, b.cell0, ?_⟩; refine ⟨_, _, _, b.cell 1 rfl, ?_⟩; obtain ⟨h04, hi8, q⟩ := q; obtain ⟨a4, ha4, hi7⟩ := f.addr h04 ((rfl : _ = _).trans hl.symm) hi8; refine ⟨a4, ha4, hi7.1, hi7.2, ?_⟩; obtain ⟨x4, hx5, q⟩ := q; obtain ⟨A5, c5, Y3, hc4, hY3, f5, bk3⟩ := f.row ha4 h04 hx5; have g4 := SlO.rowF f5 (fun b hb => (hY3 b hb).1); refine ⟨_, _, _, hc4.val, ?_⟩; obtain ⟨h05, hi10, q⟩ := q; obtain ⟨a5, ha5, hi9⟩ := SlF.addr g4 h05 (List.getElem?_eq_getElem (idx_lt rfl h05 hi10)) rfl; refine ⟨a5, ha5, hi9.1, hi9.2, ?_⟩; obtain ⟨x5, hx6, q⟩ := q; have hc5 := SlO.row_ldu f ha4 h04 hx5 hc4 ha5 h05 hx6; refine ⟨_, hc5.val, ?_⟩; refine ⟨_, b.cell0, ?_⟩; refine q (Zt xσ) H_ _ rfl _ rfl _ rfl _ (fun Z2 H_2 hE hO x6 v3 he4 q => ?_); obtain ⟨xσ2, st2⟩ := call0 hE xσ; cases he4; refine ⟨_, rfl, ?_⟩; replace hc5 := hc5.step st2; replace hc4 := hc4.step st2; replace b := b.step st2; replace hc3 := hc3.step st2; refine ⟨hc5.val, hc4.val, (b.cell 1 rfl), b.cell0, hc3.val, (b.cell 1 rfl), ?_⟩; refine q (Zt xσ2) H_2 _ rfl _ rfl _ rfl _ (fun Z3 H_3 hE2 hO2 x7 v4 he5 q => ?_); obtain ⟨xσ3, st3⟩ := call0 hE2 xσ2; cases he5; refine ⟨_, rfl, ?_⟩; replace hc3 := hc3.step st3; replace b := b.step st3; refine ⟨hc3.val, (b.cell 1 rfl), ?_⟩; obtain ⟨h06, hi12, q⟩ := q; obtain ⟨a6, ha6, hi11⟩ := SlF.addr g3 h06 (List.getElem?_eq_getElem (idx_lt rfl h06 hi12)) rfl; refine ⟨a6, ha6, hi11.1, hi11.2, ?_⟩; replace f := f.step (st2.then st3); have w := fun v hr => SlO.set2 (v := v) (y := x7) f rfl ha3 h03 hx4 hc3 ha6 h06 (lt_of_n rfl hi12) hr; refine ⟨(w _ rfl).1, NewH.mk fun H_4 e => ?_⟩; obtain ⟨st4, f, hh⟩ := (w _ rfl).2 H_4 e; replace hc := hc.step (st2.then st3); replace hc := by have ea := Option.some.inj (ha.symm.trans ha3); subst ea; exact hh _ _ hc
 replace hc3 := hh _ _ hc3; replace hc4 := hc4.step st3; replace hc4 := by have ea := Option.some.inj (ha4.symm.trans ha3); subst ea; exact hh _ _ hc4
 replace sl1 := sl1.trans (st2.then (st3.then st4)); exact hnext (IntKind.i64.wrap (t.1 + 1), (List.set t.2 (Int.toNat to_) (List.set x3 (Int.toNat t.1) x7))) _ _ ⟨_, sl1, rfl, (set_back ((rfl : _ = _).trans hl.symm) (set_len ((rfl : _ = _).trans hl.symm)) hl), f, hc⟩ q
def matrix_grid_reduce.C (g : TGrid) (columns : Int) (K : TGrid → Prop) : Prop :=
 ∀ (Z : Nat → Prop) (τ : Nat → Nat) (H : Heap), (∀ i, τ i ≠ 0 → ¬ Z i) → ∀ (gP : Nat), ∀ (v : Int), v = (g.p : Int) → ∀ (A : Option Addr) (n c : Nat), n = g.rows.length → SlO (slM (rdM u64L) 22) 37 Z (Yt τ 2) H A c g.rows → ∀ (v2 : Int), v2 = (g.det : Int) → ∀ (A2 : Option Addr) (n2 c2 : Nat), n2 = g.lead.length → SlO (rdM i64L) 3 Z (Yt τ 3) H A2 c2 g.lead → BoxF 1 τ H gP [.int .u64 v, .slice A n c, .int .u64 v2, .slice A2 n2 c2] 152 → ∀ KK : Value → Heap → Prop,
   (∀ (Z' : Nat → Prop) (τ' : Nat → Nat) (H' : Heap), Turn τ H τ' H' → OldT Z τ H Z' → (∀ i, τ' i ≠ 0 → ¬ Z' i) → ∀ (o0 : TGrid), ∀ (vo0_0 : Int), vo0_0 = (o0.p : Int) → ∀ (Ao0_1 : Option Addr) (no0_1 co0_1 : Nat), no0_1 = o0.rows.length → SlO (slM (rdM u64L) 22) 37 Z' (Yt τ' 2) H' Ao0_1 co0_1 o0.rows → ∀ (vo0_2 : Int), vo0_2 = (o0.det : Int) → ∀ (Ao0_3 : Option Addr) (no0_3 co0_3 : Nat), no0_3 = o0.lead.length → SlO (rdM i64L) 3 Z' (Yt τ' 3) H' Ao0_3 co0_3 o0.lead → BoxF 1 τ' H' gP [.int .u64 vo0_0, .slice Ao0_1 no0_1 co0_1, .int .u64 vo0_2, .slice Ao0_3 no0_3 co0_3] 152 → K o0 → KK (.pointer (some (Addr.mk gP 0 none))) H') →
   CallH P N.matrix_grid_reduce [.pointer (some (Addr.mk gP 0 none)), .int .i64 columns] H KK
def matrix_grid_reduce.Q (g : TGrid) (columns : Int) (K : TGrid → Prop) : Prop :=
 LoopQ (τ := Int × TGrid) (0, g) fun t nextQ =>
 cond (decide (t.1 < columns)) (cond (decide (((t.2.lead.length : Nat) : Int) < ((t.2.rows.length : Nat) : Int))) (matrix_grid_lift.C t.2 ((t.2.lead.length : Nat) : Int) t.1 (fun (x3 : Bool) (o : TGrid) =>
 cond (!x3) (nextQ (IntKind.i64.wrap (t.1 + 1), o))
  (LoopQ (τ := Int × TGrid) (0, o) fun t2 nextQ2 =>
 cond (decide (t2.1 < ((o.rows.length : Nat) : Int))) (cond (t2.1 != ((t.2.lead.length : Nat) : Int)) (0 ≤ t2.1 ∧ t2.1 < ((t2.2.rows.length : Nat) : Int) ∧ ∃ x6 : (List Nat), t2.2.rows[Int.toNat t2.1]? = some x6 ∧ 0 ≤ t.1 ∧ t.1 < ((x6.length : Nat) : Int) ∧ ∃ x7 : Nat, x6[Int.toNat t.1]? = some x7 ∧ field_Minus.C t2.2.p 0 x7 (fun (x8 : Nat) =>
 matrix_grid_add.C t2.2 t2.1 ((t.2.lead.length : Nat) : Int) x8 (fun (o2 : TGrid) =>
 nextQ2 (IntKind.i64.wrap (t2.1 + 1), o2))))
  (nextQ2 (IntKind.i64.wrap (t2.1 + 1), t2.2)))
  (AppOk 8 (t2.2.lead ++ ([t.1] : List Int)).length ∧ nextQ (IntKind.i64.wrap (t.1 + 1), (⟨t2.2.p, t2.2.rows, t2.2.det, (t2.2.lead ++ ([t.1] : List Int))⟩ : TGrid))))))
  (K t.2))
  (K t.2)
theorem matrix_grid_reduce.q {g : TGrid} {columns : Int} {K : TGrid → Prop} (q : matrix_grid_reduce.Q g columns K) : matrix_grid_reduce.C g columns K := by
 intro Z τ H hτ gP v he A n c hn f v2 he2 A2 n2 c2 hn2 f2 b KK hk; cases he; cases hn; cases he2; cases hn2; apply matrix_grid_reduce.ok; unfold matrix_grid_reduce.W; unfold matrix_grid_reduce.Q at q; obtain ⟨σ, hz, hy, hσ⟩ := tags2 Z τ 3 hτ; have hs : Stp ([1, 2, 3, 4] : List Nat) σ H σ H := Stp.refl _ _ _; replace f := SlO.keep f (Fr.wide hz _) (Fr.wide (hy 2 (by decide) (by decide)) _); replace f2 := SlO.keep f2 (Fr.wide hz _) (Fr.wide (hy 3 (by decide) (by decide)) _); replace b := BoxF.mk b.blk (hy 1 (by decide) (by decide) _ b.tag); clear hz; clear hy; refine LoopI.ofQ q (fun t_ s_ hp_ => ∃ σ_ x1_0 A1_1 n1_1 c1_1 x1_2 A1_3 n1_3 c1_3, Stp [1, 2, 3, 4] σ H σ_ hp_ ∧ t_.1 = s_ ∧ x1_0 = ((t_.2.p : Nat) : Int) ∧ n1_1 = t_.2.rows.length ∧ SlO (slM (rdM u64L) 22) 37 (Zt σ_) (Yt σ_ 2) hp_ A1_1 c1_1 t_.2.rows ∧ x1_2 = ((t_.2.det : Nat) : Int) ∧ n1_3 = t_.2.lead.length ∧ SlO (rdM i64L) 3 (Zt σ_) (Yt σ_ 3) hp_ A1_3 c1_3 t_.2.lead ∧ BoxF 1 σ_ hp_ gP [.int .u64 x1_0, .slice A1_1 n1_1 c1_1, .int .u64 x1_2, .slice A1_3 n1_3 c1_3] 152) (fun h k => h _ _ k) ⟨_, _, _, _, _, _, _, _, _, Stp.refl _ _ _, rfl, rfl, rfl, f, rfl, rfl, f2, b⟩ ?_; rintro t _ _ H_ next nextQ ⟨xσ, x, A3, n3, c3, x2, A4, n4, c4, st, rfl, rfl, rfl, f3, rfl, rfl, f4, b⟩ q hnext; (try dsimp only at q ⊢); have sl3 := st; refine condJ (fun q => ?_) (fun q => ?_) q
 · replace hs := hs.trans st; exact hk (Zt xσ) (ren [1, 2, 3] xσ) _ (hs.turn hσ) (hs.oldT hσ) (ren_z _ _) t.2 _ rfl _ _ _ rfl (SlO.keep f3 (Fr.refl _ _) (Fr.wide (ren_y (js := [1, 2, 3]) (j := 2) (m := 2) (by decide) (by decide)) _)) _ rfl _ _ _ rfl (SlO.keep f4 (Fr.refl _ _) (Fr.wide (ren_y (js := [1, 2, 3]) (j := 3) (m := 3) (by decide) (by decide)) _)) ⟨b.blk, ren_y (js := [1, 2, 3]) (j := 1) (m := 1) (by decide) (by decide) _ b.tag⟩ q
 refine ⟨_, _, _, b.cell 3 rfl, ?_⟩; refine ⟨_, _, _, b.cell 1 rfl, ?_⟩; refine condJ (fun q => ?_) (fun q => ?_) q
 · replace hs := hs.trans st; exact hk (Zt xσ) (ren [1, 2, 3] xσ) _ (hs.turn hσ) (hs.oldT hσ) (ren_z _ _) t.2 _ rfl _ _ _ rfl (SlO.keep f3 (Fr.refl _ _) (Fr.wide (ren_y (js := [1, 2, 3]) (j := 2) (m := 2) (by decide) (by decide)) _)) _ rfl _ _ _ rfl (SlO.keep f4 (Fr.refl _ _) (Fr.wide (ren_y (js := [1, 2, 3]) (j := 3) (m := 3) (by decide) (by decide)) _)) ⟨b.blk, ren_y (js := [1, 2, 3]) (j := 1) (m := 1) (by decide) (by decide) _ b.tag⟩ q
 refine ⟨_, _, _, b.cell 3 rfl, ?_⟩; refine q (Zt xσ) (ren [1, 2, 3] xσ) H_ (ren_z _ _) _ _ rfl _ _ _ rfl (SlO.keep f3 (Fr.refl _ _) (Fr.wide (ren_y (js := [1, 2, 3]) (j := 2) (m := 2) (by decide) (by decide)) _)) _ rfl _ _ _ rfl (SlO.keep f4 (Fr.refl _ _) (Fr.wide (ren_y (js := [1, 2, 3]) (j := 3) (m := 3) (by decide) (by decide)) _)) ⟨b.blk, (ren_y (js := [1, 2, 3]) (j := 1) (m := 1) (by decide) (by decide)) _ b.tag⟩ _ (fun Z2 xτ H_2 hT hO hd x3 o v3 he3 A5 n5 c5 hn3 f5 v4 he4 A6 n6 c6 hn4 f6 b q => ?_); obtain ⟨xσ2, st2, fz, fy⟩ := callT hT hO hd [1, 2, 3]; replace f5 := SlO.keep f5 fz (Fr.wide (fy 1 2 rfl) _); replace f6 := SlO.keep f6 fz (Fr.wide (fy 2 3 rfl) _); replace b := BoxF.mk b.blk (fy 0 1 rfl _ b.tag); cases he3; cases hn3; cases he4; cases hn4; refine ⟨_, rfl, ?_⟩; refine condI (fun q => ?_) (fun q => ?_) q
 · replace sl3 := sl3.trans st2; exact hnext (IntKind.i64.wrap (t.1 + 1), o) _ _ ⟨_, _, _, _, _, _, _, _, _, sl3, rfl, rfl, rfl, f5, rfl, rfl, f6, b⟩ q
 refine ⟨_, _, _, b.cell 1 rfl, ?_⟩; refine LoopI.ofQ q (fun t_ s_ hp_ => ∃ σ_ x1_0 A1_1 n1_1 c1_1 x1_2 A1_3 n1_3 c1_3, Stp [1, 2, 3] xσ2 H_2 σ_ hp_ ∧ t_.1 = s_ ∧ x1_0 = ((t_.2.p : Nat) : Int) ∧ n1_1 = t_.2.rows.length ∧ SlO (slM (rdM u64L) 22) 37 (Zt σ_) (Yt σ_ 2) hp_ A1_1 c1_1 t_.2.rows ∧ x1_2 = ((t_.2.det : Nat) : Int) ∧ n1_3 = t_.2.lead.length ∧ SlO (rdM i64L) 3 (Zt σ_) (Yt σ_ 3) hp_ A1_3 c1_3 t_.2.lead ∧ BoxF 1 σ_ hp_ gP [.int .u64 x1_0, .slice A1_1 n1_1 c1_1, .int .u64 x1_2, .slice A1_3 n1_3 c1_3] 152) (fun h k => h _ _ k) ⟨_, _, _, _, _, _, _, _, _, Stp.refl _ _ _, rfl, rfl, rfl, f5, rfl, rfl, f6, b⟩ ?_; rintro t2 _ _ H_3 next2 nextQ2 ⟨xσ3, x4, A7, n7, c7, x5, A8, n8, c8, st3, rfl, rfl, rfl, f7, rfl, rfl, f8, b⟩ q hnext2; (try dsimp only at q ⊢); have sl5 := st3; refine condJ (fun q => ?_) (fun q => ?_) q
 · refine ⟨_, _, _, b.cell 3 rfl, ?_⟩; refine NewH.mk fun H_6 e => ?_; obtain ⟨xσ6, st6, f12⟩ := SlO.lit (E := i64L) xσ3 4 (xs := [t.1]) (l := [[_]]) e rfl (.cons rfl .nil) (show (1 : Nat) ≤ 17592186044416 by decide); obtain ⟨xσ8, st8, f12⟩ := SlO.freeze f12; obtain ⟨q2, q⟩ := q; replace f8 := f8.step (st6.then st8); refine SlO.appF f8 f12 rfl rfl q2.l q2.r rfl rfl (fun A12 c12 H_7 xσ7 st7 f8_ => ?_); replace f8 := f8_; have f13 := f8; clear f8; replace b := b.step (st6.then (st8.then st7)); refine ⟨b.may 3 (show (3 : Nat) < 4 by decide), NewH.mk fun H_8 e2 => ?_⟩; obtain ⟨st9, b⟩ := b.wrote 3 (show (3 : Nat) < 4 by decide) e2; simp only [List.set_cons_zero, List.set_cons_succ] at b; replace sl3 := sl3.trans (st2.then (st3.then (st6.then (st8.then (st7.then st9))))); replace f7 := f7.step (st6.then (st8.then (st7.then st9))); replace f13 := f13.step st9; exact hnext (IntKind.i64.wrap (t.1 + 1), (⟨t2.2.p, t2.2.rows, t2.2.det, (t2.2.lead ++ ([t.1] : List Int))⟩ : TGrid)) _ _ ⟨_, _, _, _, _, _, _, _, _, sl3, rfl, rfl, rfl, f7, rfl, rfl, f13, b⟩ q
 refine condJ (fun q => ?_) (fun q => ?_) q
 · exact hnext2 (IntKind.i64.wrap (t2.1 + 1), t2.2) _ _ ⟨_, _, _, _, _, _, _, _, _, sl5, rfl, rfl, rfl, f7, rfl, rfl, f8, b⟩ q
 refine ⟨_, b.cell0, ?_⟩; refine ⟨_, _, _, b.cell 1 rfl, ?_⟩; obtain ⟨h0, hi2, q⟩ := q; obtain ⟨a, ha, hi⟩ := f7.addr h0 rfl hi2; refine ⟨a, ha, hi.1, hi.2, ?_⟩; obtain ⟨x6, hx, q⟩ := q; obtain ⟨A9, c9, Y, hc, hY, f9, bk⟩ := f7.row ha h0 hx; have g2 := SlO.rowF f9 (fun b hb => (hY b hb).1); refine ⟨_, _, _, hc.val, ?_⟩; obtain ⟨h02, hi4, q⟩ := q; obtain ⟨a2, ha2, hi3⟩ := SlF.addr g2 h02 (List.getElem?_eq_getElem (idx_lt rfl h02 hi4)) rfl; refine ⟨a2, ha2, hi3.1, hi3.2, ?_⟩; obtain ⟨x7, hx2, q⟩ := q; have hc2 := SlO.row_ldu f7 ha h0 hx hc ha2 h02 hx2; refine ⟨_, hc2.val, ?_⟩; refine q (Zt xσ3) H_3 _ rfl _ rfl _ rfl _ (fun Z3 H_4 hE hO2 x8 v5 he5 q => ?_); obtain ⟨xσ4, st4⟩ := call0 hE xσ3; cases he5; refine ⟨_, rfl, ?_⟩; replace f7 := f7.step st4; replace f8 := f8.step st4; replace b := b.step st4; refine q (Zt xσ4) (ren [1, 2, 3] xσ4) H_4 (ren_z _ _) _ _ rfl _ _ _ rfl (SlO.keep f7 (Fr.refl _ _) (Fr.wide (ren_y (js := [1, 2, 3]) (j := 2) (m := 2) (by decide) (by decide)) _)) _ rfl _ _ _ rfl (SlO.keep f8 (Fr.refl _ _) (Fr.wide (ren_y (js := [1, 2, 3]) (j := 3) (m := 3) (by decide) (by decide)) _)) ⟨b.blk, (ren_y (js := [1, 2, 3]) (j := 1) (m := 1) (by decide) (by decide)) _ b.tag⟩ _ rfl _ (fun Z4 xτ2 H_5 hT2 hO3 hd2 o2 v6 he6 A10 n9 c10 hn5 f10 v7 he7 A11 n10 c11 hn6 f11 b q => ?_); obtain ⟨xσ5, st5, fz3, fy2⟩ := callT hT2 hO3 hd2 [1, 2, 3]; replace f10 := SlO.keep f10 fz3 (Fr.wide (fy2 1 2 rfl) _); replace f11 := SlO.keep f11 fz3 (Fr.wide (fy2 2 3 rfl) _); replace b := BoxF.mk b.blk (fy2 0 1 rfl _ b.tag); cases he6; cases hn5; cases he7; cases hn6; refine ⟨rfl, ?_⟩; replace sl5 := sl5.trans (st4.then st5); exact hnext2 (IntKind.i64.wrap (t2.1 + 1), o2) _ _ ⟨_, _, _, _, _, _, _, _, _, sl5, rfl, rfl, rfl, f10, rfl, rfl, f11, b⟩ q
def matrix_Answer.C (p : Nat) (m : (List (List Nat))) (v : (List Nat)) (K : (List Nat) → Bool → Prop) : Prop :=
 ∀ (Z : Nat → Prop) (H : Heap), ∀ (pv : Int), pv = (p : Int) → ∀ (mA : Option Addr) (mn mc : Nat), mn = m.length → SlF (slL u64L) Z H mA mc m → ∀ (vA : Option Addr) (vn vc : Nat), vn = v.length → SlF u64L Z H vA vc v → ∀ KK : Value → Heap → Prop,
   (∀ (Z' : Nat → Prop) (H' : Heap), Ext H H' → Old Z H Z' → ∀ (r0 : (List Nat)), ∀ (Y0 : Nat → Prop), (∀ i, Y0 i → H.size ≤ i ∧ ¬ Z' i) → ∀ (Ar0_0 : Option Addr) (nr0_0 cr0_0 : Nat), nr0_0 = r0.length → SlO (rdM u64L) 22 Z' Y0 H' Ar0_0 cr0_0 r0 → ∀ (r1 : Bool), K r0 r1 → KK (.tuple #[.slice Ar0_0 nr0_0 cr0_0, .bool r1]) H') →
   CallH P N.matrix_Answer [.int .u64 pv, .slice mA mn mc, .slice vA vn vc] H KK
def matrix_Answer.Q (p : Nat) (m : (List (List Nat))) (v : (List Nat)) (K : (List Nat) → Bool → Prop) : Prop :=
 0 ≤ (0 : Int) ∧ ∃ x : (List Nat), m[0]? = some x ∧ matrix_own.C p m (fun (x2 : TGrid) =>
 LoopQ (τ := Int × List (List Nat)) (0, x2.rows) fun t nextQ =>
 cond (decide (t.1 < ((x2.rows.length : Nat) : Int))) (0 ≤ t.1 ∧ ∃ x3 : Nat, v[Int.toNat t.1]? = some x3 ∧ 0 ≤ t.1 ∧ t.1 < ((x2.rows.length : Nat) : Int) ∧ ∃ x4 : (List Nat), t.2[Int.toNat t.1]? = some x4 ∧ AppOk 8 (x4 ++ ([x3] : List Nat)).length ∧ 0 ≤ t.1 ∧ t.1 < ((x2.rows.length : Nat) : Int) ∧ nextQ (IntKind.i64.wrap (t.1 + 1), (List.set t.2 (Int.toNat t.1) (x4 ++ ([x3] : List Nat)))))
  (matrix_grid_reduce.C (⟨x2.p, t.2, x2.det, x2.lead⟩ : TGrid) ((x.length : Nat) : Int) (fun (o : TGrid) =>
 MakeOk 8 ((x.length : Nat) : Int) ∧ LoopQ (τ := Int × List Nat) (0, (List.replicate x.length 0)) fun t2 nextQ2 =>
 cond (decide (t2.1 < ((o.rows.length : Nat) : Int))) (0 ≤ t2.1 ∧ t2.1 < ((o.rows.length : Nat) : Int) ∧ ∃ x5 : (List Nat), o.rows[Int.toNat t2.1]? = some x5 ∧ cond (decide (t2.1 < ((o.lead.length : Nat) : Int))) (0 ≤ ((x.length : Nat) : Int) ∧ ((x.length : Nat) : Int) < ((x5.length : Nat) : Int) ∧ 0 ≤ t2.1 ∧ t2.1 < ((o.lead.length : Nat) : Int) ∧ ∃ x6 : Int, o.lead[Int.toNat t2.1]? = some x6 ∧ ∃ x7 : Nat, x5[x.length]? = some x7 ∧ 0 ≤ x6 ∧ x6 < ((x.length : Nat) : Int) ∧ nextQ2 (IntKind.i64.wrap (t2.1 + 1), (List.set t2.2 (Int.toNat x6) x7)))
  (0 ≤ ((x.length : Nat) : Int) ∧ ((x.length : Nat) : Int) < ((x5.length : Nat) : Int) ∧ ∃ x8 : Nat, x5[x.length]? = some x8 ∧ cond ((x8 : Int) != 0) (K ([]) false)
  (nextQ2 (IntKind.i64.wrap (t2.1 + 1), t2.2))))
  (K t2.2 true))))
theorem matrix_Answer.q {p : Nat} {m : (List (List Nat))} {v : (List Nat)} {K : (List Nat) → Bool → Prop} (q : matrix_Answer.Q p m v K) : matrix_Answer.C p m v K := by
 intro Z H pv he mA mn mc hn f vA vn vc hn2 f2 KK hk; cases he; cases hn; cases hn2; apply matrix_Answer.ok; unfold matrix_Answer.W; unfold matrix_Answer.Q at q; obtain ⟨σ, hz, hσ⟩ := tags Z; have hs : Stp ([1, 2, 3, 4, 5] : List Nat) σ H σ H := Stp.refl _ _ _; replace f := f.wide hz; replace f2 := f2.wide hz; clear hz; obtain ⟨h0, x, hx, q⟩ := q; obtain ⟨a, ha, hi⟩ := f.addr h0 hx rfl; refine ⟨a, ha, hi.1, hi.2, ?_⟩; obtain ⟨A, c, hc, f3⟩ := f.lds ha h0 hx; refine ⟨_, _, _, hc.val, ?_⟩; refine q (Zt σ) (ren [] σ) H (ren_z _ _) _ rfl _ _ _ rfl f _ (fun Z2 xτ H_ hT hO hd x2 g v2 he2 A2 n c2 hn3 f4 v3 he3 A3 n2 c3 hn4 f5 b q => ?_); obtain ⟨xσ, st, fz, fy⟩ := callT hT hO hd [1, 2, 3]; replace f4 := SlO.keep f4 fz (Fr.wide (fy 1 2 rfl) _); replace f5 := SlO.keep f5 fz (Fr.wide (fy 2 3 rfl) _); replace b := BoxF.mk b.blk (fy 0 1 rfl _ b.tag); cases he2; cases hn3; cases he3; cases hn4; refine ⟨_, rfl, ?_⟩; replace hc := hc.step st; refine ⟨hc.val, ?_⟩; refine ⟨_, _, _, b.cell 1 rfl, ?_⟩; refine LoopI.ofQ q (fun t_ s_ hp_ => ∃ σ_, Stp [2, 4] xσ H_ σ_ hp_ ∧ t_.1 = s_ ∧ t_.2.length = x2.rows.length ∧ SlO (slM (rdM u64L) 22) 37 (Zt σ_) (Yt σ_ 2) hp_ A2 c2 t_.2) (fun h k => h _ _ k) ⟨_, Stp.refl _ _ _, rfl, rfl, f4⟩ ?_; rintro t _ _ H_2 next nextQ ⟨xσ2, st2, rfl, hl, f4⟩ q hnext; (try dsimp only at q ⊢); have sl3 := st2; refine condI (fun q => ?_) (fun q => ?_) q
 · obtain ⟨h02, x3, hx2, q⟩ := q; replace f2 := f2.step (st.then st2); obtain ⟨a2, ha2, hi2⟩ := f2.addr h02 hx2 rfl; refine ⟨a2, ha2, hi2.1, hi2.2, ?_⟩; replace b := b.step st2; refine ⟨_, _, _, b.cell 1 rfl, ?_⟩; refine ⟨_, _, _, b.cell 1 rfl, ?_⟩; obtain ⟨h03, hi4, q⟩ := q; obtain ⟨a3, ha3, hi3⟩ := f4.addr h03 ((rfl : _ = _).trans hl.symm) hi4; refine ⟨a3, ha3, hi3.1, hi3.2, ?_⟩; obtain ⟨x4, hx3, q⟩ := q; obtain ⟨A4, c4, Y, hc2, hY, f6, bk⟩ := f4.row ha3 h03 hx3; have g2 := SlO.rowF f6 (fun b hb => (hY b hb).1); refine ⟨_, _, _, hc2.val, ?_⟩; have hc3 := f2.ldu ha2 h02 hx2; refine ⟨_, hc3.val, ?_⟩; refine NewH.mk fun H_3 e => ?_; obtain ⟨xσ3, st3, f7⟩ := SlO.lit (E := u64L) xσ2 4 (xs := [x3]) (l := [[_]]) e rfl (.cons rfl .nil) (show (1 : Nat) ≤ 17592186044416 by decide); replace hc2 := hc2.step st3; replace b := b.step st3; refine ⟨hc2.val, (b.cell 1 rfl), (b.cell 1 rfl), ?_⟩; obtain ⟨xσ4, st4, f7⟩ := SlO.freeze f7; obtain ⟨q2, q⟩ := q; replace f4 := f4.step (st3.then st4); replace hc2 := hc2.step st4; refine SlO.rowApp f4 ha3 h03 hx3 hc2 f7 rfl rfl q2.l q2.r rfl (kont := fun A5 c5 H_4 xσ5 st5 w => ?_); replace b := b.step (st4.then st5); refine ⟨(b.cell 1 rfl), ?_⟩; obtain ⟨h04, hi6, q⟩ := q; obtain ⟨a4, ha4, hi5⟩ := f4.addr h04 ((rfl : _ = _).trans hl.symm) hi6; refine ⟨a4, ha4, hi5.1, hi5.2, ?_⟩; have ea := Option.some.inj (ha3.symm.trans ha4); subst ea; refine ⟨w.1, NewH.mk fun H_5 e2 => ?_⟩; obtain ⟨st6, f4⟩ := w.2 H_5 e2; replace sl3 := sl3.trans (st3.then (st4.then (st5.then st6))); exact hnext (IntKind.i64.wrap (t.1 + 1), (List.set t.2 (Int.toNat t.1) (x4 ++ ([x3] : List Nat)))) _ _ ⟨_, sl3, rfl, (set_back ((rfl : _ = _).trans hl.symm) (set_len ((rfl : _ = _).trans hl.symm)) hl), f4⟩ q
 replace f5 := f5.step st2; replace b := b.step st2; refine q (Zt xσ2) (ren [1, 2, 3] xσ2) H_2 (ren_z _ _) _ _ rfl _ _ _ ((rfl : _ = _).trans hl.symm) (SlO.keep f4 (Fr.refl _ _) (Fr.wide (ren_y (js := [1, 2, 3]) (j := 2) (m := 2) (by decide) (by decide)) _)) _ rfl _ _ _ rfl (SlO.keep f5 (Fr.refl _ _) (Fr.wide (ren_y (js := [1, 2, 3]) (j := 3) (m := 3) (by decide) (by decide)) _)) ⟨b.blk, (ren_y (js := [1, 2, 3]) (j := 1) (m := 1) (by decide) (by decide)) _ b.tag⟩ _ (fun Z3 xτ2 H_6 hT2 hO2 hd2 o v4 he4 A6 n3 c6 hn5 f8 v5 he5 A7 n4 c7 hn6 f9 b q => ?_); obtain ⟨xσ6, st7, fz2, fy2⟩ := callT hT2 hO2 hd2 [1, 2, 3]; replace f8 := SlO.keep f8 fz2 (Fr.wide (fy2 1 2 rfl) _); replace f9 := SlO.keep f9 fz2 (Fr.wide (fy2 2 3 rfl) _); replace b := BoxF.mk b.blk (fy2 0 1 rfl _ b.tag); cases he4; cases hn5; cases he5; cases hn6; refine ⟨_, rfl, ?_⟩; obtain ⟨q3, q⟩ := q; refine ⟨q3.1, Int.le_refl _, q3.w1, q3.w2, NewH.mk fun H_7 e3 => ?_⟩; obtain ⟨xσ7, st8, f10⟩ := SlO.made (O := (rdM u64L)) xσ6 5 e3 (u64_zero) q3.len; replace b := b.step st8; refine ⟨_, _, _, b.cell 1 rfl, ?_⟩; refine LoopI.ofQ q (fun t_ s_ hp_ => ∃ σ_, Stp [5] xσ7 H_7 σ_ hp_ ∧ t_.1 = s_ ∧ t_.2.length = (List.replicate x.length 0).length ∧ SlO (rdM u64L) 22 (Zt σ_) (Yt σ_ 5) hp_ (some (Addr.mk H_6.size 0 none)) x.length t_.2) (fun h k => h _ _ k) ⟨_, Stp.refl _ _ _, rfl, rfl, f10⟩ ?_; rintro t2 _ _ H_8 next2 nextQ2 ⟨xσ8, st9, rfl, hl2, f10⟩ q hnext2; (try dsimp only at q ⊢); have sl5 := st9; refine condJ (fun q => ?_) (fun q => ?_) q
 · replace hs := hs.trans (st.then (st2.then (st7.then (st8.then st9)))); exact hk (Zt xσ8) _ (hs.ext hσ) (hs.old hσ) _ (Yt xσ8 5) (hs.fresh hσ) _ _ _ ((rl_len _ _).trans hl2.symm) f10 _ q
 obtain ⟨h05, hi8, q⟩ := q; replace f8 := f8.step (st8.then st9); obtain ⟨a5, ha5, hi7⟩ := f8.addr h05 rfl hi8; refine ⟨a5, ha5, hi7.1, hi7.2, ?_⟩; obtain ⟨x5, hx4, q⟩ := q; obtain ⟨A8, c8, Y2, hc4, hY2, f11, bk2⟩ := f8.row ha5 h05 hx4; replace b := b.step st9; have g3 := SlO.rowF f11 (fun b hb => (hY2 b hb).1); refine ⟨_, _, _, hc4.val, ?_⟩; refine ⟨_, _, _, b.cell 3 rfl, ?_⟩; refine condJ (fun q => ?_) (fun q => ?_) q
 · obtain ⟨h09, hi16, q⟩ := q; obtain ⟨a9, ha9, hi15⟩ := SlF.addr g3 h09 (List.getElem?_eq_getElem (idx_lt rfl h09 hi16)) rfl; refine ⟨a9, ha9, hi15.1, hi15.2, ?_⟩; obtain ⟨x8, hx7, q⟩ := q; have hc7 := SlO.row_ldu f8 ha5 h05 hx4 hc4 ha9 h09 hx7; refine ⟨_, hc7.val, ?_⟩; refine condJ (fun q => ?_) (fun q => ?_) q
   · exact hnext2 (IntKind.i64.wrap (t2.1 + 1), t2.2) _ _ ⟨_, sl5, rfl, hl2, f10⟩ q
   replace hs := hs.trans (st.then (st2.then (st7.then (st8.then st9)))); exact hk (Zt xσ8) _ (hs.ext hσ) (hs.old hσ) _ (fun _ => False) (fun _ h => h.elim) _ _ _ rfl (SlO.nil _ _ _ _ _) _ q
 obtain ⟨h06, hi10, q⟩ := q; obtain ⟨a6, ha6, hi9⟩ := SlF.addr g3 h06 (List.getElem?_eq_getElem (idx_lt rfl h06 hi10)) rfl; refine ⟨a6, ha6, hi9.1, hi9.2, ?_⟩; refine ⟨_, _, _, b.cell 3 rfl, ?_⟩; obtain ⟨h07, hi12, q⟩ := q; replace f9 := f9.step (st8.then st9); obtain ⟨a7, ha7, hi11⟩ := f9.addr h07 rfl hi12; refine ⟨a7, ha7, hi11.1, hi11.2, ?_⟩; obtain ⟨x6, hx5, q⟩ := q; have hc5 := f9.ldi ha7 h07 hx5; refine ⟨_, hc5.val, ?_⟩; obtain ⟨x7, hx6, q⟩ := q; have hc6 := SlO.row_ldu f8 ha5 h05 hx4 hc4 ha6 h06 hx6; refine ⟨_, hc6.val, ?_⟩; obtain ⟨h08, hi14, q⟩ := q; obtain ⟨a8, ha8, hi13⟩ := f10.addr h08 ((rl_len _ _).trans hl2.symm) hi14; refine ⟨a8, ha8, hi13.1, hi13.2, ?_⟩; have w3 := fun v hr => SlO.set1 (v := v) (y := x7) f10 rfl ha8 h08 (lt_of_n ((rl_len _ _).trans hl2.symm) hi14) hr; refine ⟨(w3 _ rfl).1, NewH.mk fun H_9 e4 => ?_⟩; obtain ⟨st10, f10⟩ := (w3 _ rfl).2 H_9 e4; replace sl5 := sl5.trans st10; exact hnext2 (IntKind.i64.wrap (t2.1 + 1), (List.set t2.2 (Int.toNat x6) x7)) _ _ ⟨_, sl5, rfl, (set_back ((rl_len _ _).trans hl2.symm) (set_len ((rl_len _ _).trans hl2.symm)) hl2), f10⟩ q
end Go.Proofs.Ytajdpkinlnaidaa.Sh
end
section
set_option linter.unusedVariables false
set_option linter.unusedSimpArgs false
namespace Go.Proofs.Ytajdpkinlnaidaa.Pl
open Go.Sx Go.Lf Go.Proofs.Ytajdpkinlnaidaa.Sh Go.Proofs.Ytajdpkinlnaidaa.Sp
theorem add_neg {p a b x : Nat} (hp : 0 < p) (ha : a < p) (hb : b < p) (hx : x < p) : fadd p a (fmul p b (fsub p 0 x)) = fsub p a (fmul p x b) := by
 haveI : NeZero p := ⟨by omega⟩
 refine cz_inj (fadd_lt hp _ _) (fsub_lt hp _ _) ?_
 rw [cz_fadd, cz_fmul, cz_fsub (Nat.le_of_lt hx), cz_fsub (Nat.le_of_lt (fmul_lt hp _ _)), cz_fmul, cz_zero]; grind
def addJ (p : Nat) (M : Nat → Nat → Nat) (to_ from_ k j : Nat) : Nat → Nat → Nat := fun a b => if a = to_ ∧ b < j then fadd p (M a b) (fmul p (M from_ b) k) else M a b
def addM (p : Nat) (M : Nat → Nat → Nat) (to_ from_ k : Nat) : Nat → Nat → Nat := fun a b => if a = to_ then fadd p (M a b) (fmul p (M from_ b) k) else M a b
theorem grid_add_c {p n w det to_ from_ k : Nat} {lead : List Int} {M : Nat → Nat → Nat} (hp0 : 0 < p) (hp : p ≤ 65537) (hn : n ≤ 500) (hw : w ≤ 500) (hM : ∀ i k, M i k < p) (ht : to_ < n) (hf : from_ < n) (hne : to_ ≠ from_) (hk : k < p) {K : TGrid → Prop}
   (kk : K ⟨p, mat2 n w (addM p M to_ from_ k), det, lead⟩) : matrix_grid_add.C ⟨p, mat2 n w M, det, lead⟩ to_ from_ k K := by
 apply matrix_grid_add.q
 unfold matrix_grid_add.Q
 dsimp only
 rw [mat2_len]
 refine ⟨by omega, by omega, _, mat2_get _ hf, ?_⟩
 rw [tab_len]
 refine LoopQ.rangeS w (fun j t => t = mat2 n w (addJ p M to_ from_ k j)) (mat2_ext fun a b _ _ => by simp [addJ]) (by omega) ?_ ?_
 · rintro j _ next hj rfl hnx
   dsimp only
   have gf : (tab w (addJ p M to_ from_ k j from_))[j]? = some (M from_ j) := by rw [tab_get _ hj]; simp [addJ, Ne.symm hne]
   have gt : (tab w (addJ p M to_ from_ k j to_))[j]? = some (M to_ j) := by rw [tab_get _ hj]; simp [addJ]
   refine ctd (by omega) ⟨by omega, by omega, _, mat2_get _ hf, _, gf, by omega, by omega, _, mat2_get _ ht, by omega, by omega, _, mat2_get _ ht, by omega, by rw [tab_len]; omega, _, gt, field_Times_c hp0 hp (hM _ _) hk (field_Plus_c hp (hM _ _) (fmul_lt hp0 _ _) ⟨by omega, by rw [tab_len]; omega, hnx _ ?_⟩)⟩
   simp only [toNat_c]
   rw [mat2_cell]
   refine mat2_ext fun a b _ _ => ?_
   unfold addJ
   by_cases h : a = to_ ∧ b = j
   · rw [if_pos h, if_pos (by omega), h.1, h.2]
   · rw [if_neg h]
     by_cases h2 : a = to_ ∧ b < j
     · rw [if_pos h2, if_pos (by omega)]
     · rw [if_neg h2, if_neg (by omega)]
 · rintro _ next rfl
   refine cfd (by dsimp only; omega) ?_
   dsimp only
   rw [mat2_ext (M' := addM p M to_ from_ k) fun a b _ hb => by
     unfold addJ addM
     by_cases h : a = to_
     · rw [if_pos ⟨h, hb⟩, if_pos h]
     · rw [if_neg (fun h2 => h h2.1), if_neg h]]
   exact kk
theorem swap_set2 {n w top i : Nat} {M : Nat → Nat → Nat} : ((mat2 n w M).set i (tab w (M top))).set top (tab w (M i)) = mat2 n w (swapM M top i) := by
 rw [mat2_row, mat2_row]
 refine mat2_ext fun a k _ _ => ?_
 unfold swapM
 by_cases h : a = top
 · simp [h]
 · rw [if_neg h]
   by_cases h2 : a = i
   · subst h2; simp [h]
   · simp [h, h2]
theorem swap_self {M : Nat → Nat → Nat} (top : Nat) : swapM M top top = M := by
 funext a
 unfold swapM
 by_cases h : a = top
 · subst h; simp
 · simp [h]
theorem scale_loop {p n w top one : Nat} {S : Nat → Nat → Nat} (hw : w ≤ 500) {step : Int × List (List Nat) → (Int × List (List Nat) → Prop) → Prop}
   (hs : ∀ (j : Nat) (N : Nat → Nat → Nat) (next : Int × List (List Nat) → Prop), j < w → N top j = S top j → next (IntKind.i64.wrap ((j : Int) + 1), (mat2 n w N).set top ((tab w (N top)).set j (fmul p (S top j) one))) → step ((j : Int), mat2 n w N) next)
   (he : ∀ next, step ((w : Int), mat2 n w (scaleM p S top one)) next) : LoopQ ((0 : Int), mat2 n w S) step := by
 refine LoopQ.rangeS w (fun j t => t = mat2 n w (scaleJ p S top one j)) (mat2_ext fun a b _ _ => by simp [scaleJ]) (by omega) ?_ ?_
 · rintro j _ next hj rfl hnx
   refine hs j _ next hj (by simp [scaleJ]) (hnx _ ?_)
   rw [mat2_cell]
   refine mat2_ext fun a b _ _ => ?_
   unfold scaleJ
   by_cases h : a = top ∧ b = j
   · rw [if_pos h, if_pos (by omega), h.1, h.2]
   · rw [if_neg h]
     by_cases h2 : a = top ∧ b < j
     · rw [if_pos h2, if_pos (by omega)]
     · rw [if_neg h2, if_neg (by omega)]
 · rintro _ next rfl
   rw [mat2_ext (M' := scaleM p S top one) fun a b _ hb => by
     unfold scaleM scaleJ
     by_cases h : a = top
     · rw [if_pos ⟨h, hb⟩, if_pos h]
     · rw [if_neg (fun h2 => h h2.1), if_neg h]]
   exact he next
theorem grid_lift_c {p n w det top c : Nat} {lead : List Int} {M : Nat → Nat → Nat} (hp0 : 2 < p) (hp : p ≤ 65537) (hn : n ≤ 500) (hw : w ≤ 500) (hM : ∀ i k, M i k < p) (hd : det < p) (hc : c < w) {K : Bool → TGrid → Prop}
   (k0 : piv n M top c = none → K false ⟨p, mat2 n w M, det, lead⟩) (k1 : ∀ i det', piv n M top c = some i → det' < p → K true ⟨p, mat2 n w (scaleM p (swapM M top i) top (finv p (swapM M top i top c))), det', lead⟩) :
   matrix_grid_lift.C ⟨p, mat2 n w M, det, lead⟩ top c K := by
 apply matrix_grid_lift.q
 refine LoopQ.upto (n - top) (fun m t => t = (((top + m : Nat) : Int), (⟨p, mat2 n w M, det, lead⟩ : TGrid)) ∧ ∀ j, top ≤ j → j < top + m → M j c = 0) ⟨rfl, fun j h1 h2 => by omega⟩ ?_
 rintro m _ next hm ⟨rfl, hz⟩ hnx
 generalize hi : top + m = i at *
 dsimp only
 rw [mat2_len]
 by_cases hin : i < n
 · refine ctd (by omega) ⟨by omega, by omega, _, mat2_get _ hin, by omega, by rw [tab_len]; omega, _, tab_get _ hc, ?_⟩
   by_cases h0 : M i c = 0
   · refine ct (beq_t (by simp only [toNat_c]; omega)) (hnx (by omega) _ ⟨by rw [wsucc (by omega)]; congr 1; omega, fun j h1 h2 => ?_⟩)
     by_cases hj : j < i
     · exact hz j h1 hj
     · obtain rfl : j = i := by omega
       exact h0
   · have hpiv := piv_some hin (by omega) h0 hz
     have htop : top < n := by omega
     refine cf (beq_f (by simp only [toNat_c]; omega)) ?_
     by_cases hit : i = top
     · refine cf (bne_f (by omega)) (field_Times_c (by omega) hp hd (hM _ _) (field_Over_c (by omega) hp (hM _ _) ⟨by omega, by omega, _, mat2_get _ htop, ?_⟩))
       simp only [toNat_c]
       have k2 := fun det' => k1 i det' hpiv
       subst hit
       rw [swap_self] at k2
       refine scale_loop (p := p) (top := i) (one := finv p (M i c)) hw ?_ ?_
       · intro j N next2 hj hN hn2
         dsimp only
         have g : (tab w (N i))[j]? = some (M i j) := by rw [tab_get _ hj, hN]
         exact ctd (by rw [tab_len]; omega) ⟨by omega, by rw [tab_len]; omega, _, mat2_get _ hin, _, g, by omega, by omega, _, mat2_get _ hin, field_Times_c (by omega) hp (hM _ _) (finv_lt (by omega) _) ⟨by omega, by rw [tab_len]; omega, hn2⟩⟩
       · intro next2
         exact cfd (by dsimp only; rw [tab_len]; omega) (k2 _ (fmul_lt (by omega) _ _))
     · refine ct (bne_t (by omega)) ⟨by omega, by omega, _, mat2_get _ htop, by omega, by omega, _, mat2_get _ hin, by omega, by omega, by omega, by omega, field_Minus_c (by omega) hp (by omega) hd (field_Times_c (by omega) hp (fsub_lt (by omega) _ _) (hM _ _) (field_Over_c (by omega) hp (hM _ _) ⟨by omega, by omega, ?_⟩))⟩
       simp only [toNat_c]
       rw [swap_set2]
       have k2 := fun det' => k1 i det' hpiv
       have e : swapM M top i top c = M i c := by simp [swapM]
       have hS : ∀ a b, swapM M top i a b < p := fun a b => hM _ _
       rw [e] at k2
       have hone := finv_lt (p := p) (by omega) (M i c)
       generalize finv p (M i c) = one at *
       generalize swapM M top i = S at *
       refine ⟨_, mat2_get _ htop, ?_⟩
       rw [tab_len]
       refine scale_loop (p := p) (top := top) (one := one) hw ?_ ?_
       · intro j N next2 hj hN hn2
         dsimp only
         have g : (tab w (N top))[j]? = some (S top j) := by rw [tab_get _ hj, hN]
         exact ctd (by omega) ⟨by omega, by omega, _, mat2_get _ htop, _, g, by omega, by omega, _, mat2_get _ htop, field_Times_c (by omega) hp (hS _ _) hone ⟨by omega, by rw [tab_len]; omega, hn2⟩⟩
       · intro next2
         exact cfd (by dsimp only; omega) (k2 _ (fmul_lt (by omega) _ _))
 · exact cfd (by omega) (k0 (piv_none fun j h1 h2 => hz j h1 (by omega)))
theorem piv_full {n : Nat} {M : Nat → Nat → Nat} {top c : Nat} (h : n ≤ top) : piv n M top c = none := piv_none fun j h1 h2 => by omega
theorem run_full {p n : Nat} {M : Nat → Nat → Nat} {c : Nat} (h : n ≤ (El.run p n M c).lead.length) : ∀ m, El.run p n M (c + m) = El.run p n M c
 | 0 => rfl
 | m + 1 => by
   rw [← Nat.add_assoc, El.run, run_full h m, El.step, piv_full h]
theorem piv_lt {n : Nat} {M : Nat → Nat → Nat} {top c i : Nat} (h : piv n M top c = some i) : top ≤ i ∧ i < n := by
 unfold piv at h
 rw [List.find?_range_eq_some] at h
 obtain ⟨h1, h2, _⟩ := h
 simp at h1 h2
 exact ⟨h1.1, h2⟩
theorem run_leadn (p n : Nat) (M : Nat → Nat → Nat) : ∀ c, (El.run p n M c).lead.length ≤ n
 | 0 => Nat.zero_le _
 | c + 1 => by
   have ih := run_leadn p n M c
   rw [El.run, El.step]
   cases h : piv n (El.run p n M c).M (El.run p n M c).lead.length c with
   | none => exact ih
   | some i => have := piv_lt h; simp; omega
theorem grid_reduce_c {p n w det cols : Nat} {M : Nat → Nat → Nat} (hp0 : 2 < p) (hp : p ≤ 65537) (hn : n ≤ 500) (hw : w ≤ 500) (hM : ∀ i k, M i k < p) (hd : det < p) (hc : cols ≤ w) {K : TGrid → Prop}
   (k : ∀ det', K ⟨p, mat2 n w (El.run p n M cols).M, det', ints (El.run p n M cols).lead⟩) : matrix_grid_reduce.C ⟨p, mat2 n w M, det, []⟩ cols K := by
 apply matrix_grid_reduce.q
 refine LoopQ.upto cols (fun c t => ∃ det', det' < p ∧ t = ((c : Int), (⟨p, mat2 n w (El.run p n M c).M, det', ints (El.run p n M c).lead⟩ : TGrid))) ⟨det, hd, rfl⟩ ?_
 rintro c _ next hcc ⟨det', hd', rfl⟩ hnx
 dsimp only
 rw [ints_len, mat2_len]
 by_cases hlast : c < cols
 · refine ctd (by omega) ?_
   by_cases hfull : n ≤ (El.run p n M c).lead.length
   · refine cfd (by omega) ?_
     have e := run_full hfull (cols - c)
     rw [show c + (cols - c) = cols by omega] at e
     rw [e] at k; exact k _
   refine ctd (by omega) ?_
   have hlen := run_len p n M c
   have hlt := run_lt (n := n) (show 0 < p by omega) hM c
   have hstep : El.run p n M (c + 1) = (El.run p n M c).step p n c := rfl
   rw [hstep] at hnx
   clear hstep k
   generalize El.run p n M c = s at *
   refine grid_lift_c hp0 hp hn hw hlt hd' (by omega) ?_ ?_
   · intro hpiv
     refine ct rfl (hnx hlast _ ⟨det', hd', ?_⟩)
     unfold El.step; rw [hpiv, wsucc (by omega)]
   · intro i det2 hpiv hd2
     refine cf rfl ?_
     have hnx3 : next (IntKind.i64.wrap ((c : Int) + 1), (⟨p, mat2 n w (pivM p s.M s.lead.length c i), det2, ints s.lead ++ [(c : Int)]⟩ : TGrid)) := by
       refine hnx hlast _ ⟨det2, hd2, ?_⟩
       unfold El.step; rw [hpiv, wsucc (by omega)]
       simp [ints]
     have hS : ∀ a b, swapM s.M s.lead.length i a b < p := fun a b => hlt _ _
     unfold pivM at hnx3
     have hil := ints_len s.lead
     have htop : s.lead.length < n := by omega
     generalize swapM s.M s.lead.length i = S at *
     generalize s.lead.length = top at *
     generalize finv p (S top c) = one at *
     have hT : ∀ a b, scaleM p S top one a b < p := fun a b => by
       unfold scaleM; split
       · exact fmul_lt (by omega) _ _
       · exact hS _ _
     generalize scaleM p S top one = T at *
     dsimp only
     rw [mat2_len]
     refine LoopQ.rangeS n (fun j t => t = (⟨p, mat2 n w fun a b => if a < j then elimM p T top c a b else T a b, det2, ints s.lead⟩ : TGrid)) (by congr 1) (by omega) ?_ ?_
     · rintro j _ next4 hj rfl hnx4
       dsimp only
       rw [mat2_len]
       refine ctd (by omega) ?_
       by_cases hjt : j = top
       · subst hjt
         refine cf (bne_f rfl) (hnx4 _ (by
           congr 1
           refine mat2_ext fun a b _ _ => ?_
           by_cases ha : a < j
           · rw [if_pos ha, if_pos (by omega)]
           · rw [if_neg ha]
             by_cases ha2 : a < j + 1
             · obtain rfl : a = j := by omega
               rw [if_pos ha2]; simp [elimM]
             · rw [if_neg ha2]))
       · have hE : ∀ a b, (fun a b => if a < j then elimM p T top c a b else T a b) a b < p := fun a b => by
           dsimp only
           split
           · unfold elimM; split
             · exact hT _ _
             · exact fsub_lt (by omega) _ _
           · exact hT _ _
         have g1 := mat2_get (n := n) (w := w) (fun a b => if a < j then elimM p T top c a b else T a b) hj
         simp only [Nat.lt_irrefl, if_false] at g1
         refine ct (bne_t (by omega)) ⟨by omega, by omega, _, g1, by omega, by rw [tab_len]; omega, _, tab_get _ (show c < w by omega), field_Minus_c (by omega) hp (by omega) (hT _ _) (grid_add_c (by omega) hp hn hw hE hj htop hjt (fsub_lt (by omega) _ _) (hnx4 _ ?_))⟩
         simp only [toNat_c]
         congr 1
         refine mat2_ext fun a b _ _ => ?_
         unfold addM
         by_cases ha : a = j
         · subst ha
           rw [if_pos rfl]
           have : (if top < a then elimM p T top c top b else T top b) = T top b := by split <;> simp [elimM]
           show fadd p (if a < a then elimM p T top c a b else T a b) (fmul p (if top < a then elimM p T top c top b else T top b) (fsub p 0 (T a c))) = (if a < a + 1 then elimM p T top c a b else T a b)
           rw [this, if_neg (Nat.lt_irrefl a), if_pos (Nat.lt_succ_self a), elimM, if_neg hjt]
           exact add_neg (by omega) (hT _ _) (hT _ _) (hT _ _)
         · rw [if_neg ha]
           dsimp only
           by_cases h2 : a < j
           · rw [if_pos h2, if_pos (by omega)]
           · rw [if_neg h2, if_neg (by omega)]
     rintro _ next4 rfl
     refine cfd (by omega) ⟨AppOk.of (by rw [List.length_append, hil]; simp; omega), ?_⟩
     rw [mat2_ext (M' := elimM p T top c) fun a b ha _ => by rw [if_pos ha]]
     exact hnx3
 · obtain rfl : c = cols := by omega
   exact cfd (by omega) (k _)
def augM (w : Nat) (A : Nat → Nat → Nat) (b : Nat → Nat) : Nat → Nat → Nat := fun i k => if k < w then A i k else b i
theorem aug_row (w : Nat) (A : Nat → Nat → Nat) (b : Nat → Nat) (i : Nat) : tab w (A i) ++ [b i] = tab (w + 1) (augM w A b i) := by
 rw [← tab_snoc]
 have : tab w (A i) = tab w (augM w A b i) := tab_ext fun k hk => by unfold augM; rw [if_pos hk]
 rw [this]
 simp [augM]
theorem augM_lt {p w : Nat} {A : Nat → Nat → Nat} {b : Nat → Nat} (hA : ∀ i k, A i k < p) (hb : ∀ i, b i < p) (i k : Nat) : augM w A b i k < p := by
 unfold augM; split
 · exact hA i k
 · exact hb i
theorem run_lead_lt (p n : Nat) (M : Nat → Nat → Nat) : ∀ c, ∀ x ∈ (El.run p n M c).lead, x < c
 | 0, x, hx => by cases hx
 | c + 1, x, hx => by
   have ih := run_lead_lt p n M c
   rw [El.run, El.step] at hx
   cases h : piv n (El.run p n M c).M (El.run p n M c).lead.length c with
   | none => rw [h] at hx; have := ih x hx; omega
   | some i =>
     rw [h] at hx
     rcases List.mem_append.1 hx with hx | hx
     · have := ih x hx; omega
     · simp at hx; omega
def solV (s : El) (w : Nat) : Nat → List Nat
 | 0 => List.replicate w 0
 | i + 1 => (solV s w i).set (s.lead[i]?.getD 0) (s.M i w)
theorem solV_len (s : El) (w : Nat) : ∀ i, (solV s w i).length = w
 | 0 => by simp [solV]
 | i + 1 => by rw [solV, List.length_set, solV_len s w i]
def SolOk (s : El) (n w : Nat) : Prop := ∀ i, s.lead.length ≤ i → i < n → s.M i w = 0
theorem sol_loop {n w : Nat} {s : El} {Kbad : Prop} (hn : n ≤ 500) (hl : s.lead.length ≤ n) (kbad : ¬ SolOk s n w → Kbad) {step : Int × List Nat → (Int × List Nat → Prop) → Prop}
   (h1 : ∀ (i x : Nat) (t : List Nat) (next : Int × List Nat → Prop), i < n → i < s.lead.length → t.length = w → s.lead[i]? = some x → next (IntKind.i64.wrap ((i : Int) + 1), t.set x (s.M i w)) → step ((i : Int), t) next)
   (h2 : ∀ (i : Nat) (t : List Nat) (next : Int × List Nat → Prop), i < n → ¬ i < s.lead.length → s.M i w ≠ 0 → Kbad → step ((i : Int), t) next)
   (h3 : ∀ (i : Nat) (t : List Nat) (next : Int × List Nat → Prop), i < n → ¬ i < s.lead.length → s.M i w = 0 → next (IntKind.i64.wrap ((i : Int) + 1), t) → step ((i : Int), t) next)
   (he : SolOk s n w → ∀ next, step ((n : Int), solV s w s.lead.length) next) : LoopQ ((0 : Int), List.replicate w 0) step := by
 refine LoopQ.rangeS n (fun i t => t = solV s w (min i s.lead.length) ∧ ∀ j, s.lead.length ≤ j → j < i → s.M j w = 0) ⟨by simp [solV], fun j h1 h2 => by omega⟩ (by omega) ?_ ?_
 · rintro i _ next hi ⟨rfl, hz⟩ hnx
   by_cases hil : i < s.lead.length
   · obtain ⟨x, hx⟩ := get_some hil
     refine h1 i x _ next hi hil (solV_len _ _ _) hx (hnx _ ⟨?_, fun j a b => by omega⟩)
     rw [show min i s.lead.length = i by omega, show min (i + 1) s.lead.length = i + 1 by omega, solV, hx]; rfl
   · by_cases h0 : s.M i w = 0
     · refine h3 i _ next hi hil h0 (hnx _ ⟨by rw [show min i s.lead.length = s.lead.length by omega, show min (i + 1) s.lead.length = s.lead.length by omega], fun j a b => ?_⟩)
       by_cases hj : j < i
       · exact hz j a hj
       · obtain rfl : j = i := by omega
         exact h0
     · exact h2 i _ next hi hil h0 (kbad fun h => h0 (h i (by omega) hi))
 · rintro _ next ⟨rfl, hz⟩
   rw [show min n s.lead.length = s.lead.length by omega]
   exact he (fun i a b => hz i a b) next
theorem ints_get {l : List Nat} {i x : Nat} (h : l[i]? = some x) : (ints l)[i]? = some (x : Int) := by simp [ints, h]
theorem matrix_own_c {p n w : Nat} {A : Nat → Nat → Nat} (hn : n ≤ 500) (hw : w ≤ 500) {K : TGrid → Prop} (k : K ⟨p, mat2 n w A, 1, []⟩) : matrix_own.C p (mat2 n w A) K := by
 apply matrix_own.q
 refine LoopQ.upto n (fun i t => t = ((i : Int), (⟨p, tab i (fun a => tab w (A a)), 1, []⟩ : TGrid))) rfl ?_
 rintro i _ next hi rfl hnx
 dsimp only
 rw [mat2_len]
 by_cases h : i < n
 · refine ctd (by omega) ⟨by omega, _, mat2_get _ h, slices_Clone_c ⟨AppOk.of (by simp [tab_len]; omega), hnx h _ ?_⟩⟩
   simp only [toNat_c]
   rw [tab_snoc (g := fun a => tab w (A a)), wsucc (by omega)]
 · obtain rfl : i = n := by omega
   exact cfd (by omega) k
theorem aug_loop {n w : Nat} {A : Nat → Nat → Nat} {b : Nat → Nat} (hn : n ≤ 500) {step : Int × List (List Nat) → (Int × List (List Nat) → Prop) → Prop}
   (hs : ∀ (i : Nat) (R : List (List Nat)) (next : Int × List (List Nat) → Prop), i < n → R.length = n → R[i]? = some (tab w (A i)) → next (IntKind.i64.wrap ((i : Int) + 1), R.set i (tab w (A i) ++ [b i])) → step ((i : Int), R) next)
   (he : ∀ next, step ((n : Int), mat2 n (w + 1) (augM w A b)) next) : LoopQ ((0 : Int), mat2 n w A) step := by
 refine LoopQ.rangeS n (fun i R => R = tab n fun a => if a < i then tab (w + 1) (augM w A b a) else tab w (A a)) (tab_ext fun a _ => by simp) (by omega) ?_ ?_
 · rintro i _ next hi rfl hnx
   refine hs i _ next hi (tab_len _ _) (by rw [tab_get _ hi]; simp) (hnx _ ?_)
   rw [tab_set, aug_row]
   refine tab_ext fun a _ => ?_
   by_cases h : a = i
   · subst h; rw [if_pos rfl, if_pos (by omega)]
   · rw [if_neg h]
     by_cases h2 : a < i
     · rw [if_pos h2, if_pos (by omega)]
     · rw [if_neg h2, if_neg (by omega)]
 · rintro _ next rfl
   have : (tab n fun a => if a < n then tab (w + 1) (augM w A b a) else tab w (A a)) = mat2 n (w + 1) (augM w A b) := tab_ext fun a ha => by rw [if_pos ha]
   rw [this]; exact he next
noncomputable def solS (p n w : Nat) (A : Nat → Nat → Nat) (b : Nat → Nat) : El := El.run p n (augM w A b) w
theorem matrix_Answer_c {p n w : Nat} {A : Nat → Nat → Nat} {b : Nat → Nat} (hp0 : 2 < p) (hp : p ≤ 65537) (hn1 : 1 ≤ n) (hn : n ≤ 400) (hw : w ≤ 400) (hA : ∀ i k, A i k < p) (hb : ∀ i, b i < p) {K : List Nat → Bool → Prop}
   (k0 : ¬ SolOk (solS p n w A b) n w → K [] false) (k1 : SolOk (solS p n w A b) n w → K (solV (solS p n w A b) w (solS p n w A b).lead.length) true) : matrix_Answer.C p (mat2 n w A) (tab n b) K := by
 refine matrix_Answer.q ⟨by omega, _, mat2_get A (show 0 < n by omega), matrix_own_c (by omega) (by omega) ?_⟩
 dsimp only
 rw [mat2_len]
 refine aug_loop (b := b) (by omega) ?_ ?_
 · intro i R next hi hR hRi hnx
   dsimp only
   exact ctd (by omega) ⟨by omega, _, tab_get _ hi, by omega, by omega, _, hRi, AppOk.of (by simp [tab_len]; omega), by omega, by omega, hnx⟩
 intro next
 refine cfd (by dsimp only; omega) ?_
 simp only [tab_len]
 refine grid_reduce_c hp0 hp (by omega) (by omega) (augM_lt hA hb) (by omega) (by omega) fun det' => ⟨MakeOk.of (by omega) (by omega), ?_⟩
 have hl := run_leadn p n (augM w A b) w
 have hlt := run_lead_lt p n (augM w A b) w
 unfold solS at k0 k1
 generalize El.run p n (augM w A b) w = s at *
 dsimp only
 rw [mat2_len, ints_len]
 refine sol_loop (Kbad := K [] false) (by omega) hl k0 ?_ ?_ ?_ ?_
 · intro i x t next2 hi hil ht hx hnx
   dsimp only
   have hxw := hlt x (mem_get hx)
   refine ctd (by omega) ⟨by omega, by omega, _, mat2_get _ hi, ctd (by omega) ⟨by omega, by rw [tab_len]; omega, by omega, by omega, _, ints_get hx, _, tab_get _ (show w < w + 1 by omega), by omega, by omega, hnx⟩⟩
 · intro i t next2 hi hil h0 hk
   dsimp only
   refine ctd (by omega) ⟨by omega, by omega, _, mat2_get _ hi, cfd (by omega) ⟨by omega, by rw [tab_len]; omega, _, tab_get _ (show w < w + 1 by omega), ct (bne_t (by simp only [toNat_c]; omega)) hk⟩⟩
 · intro i t next2 hi hil h0 hnx
   dsimp only
   refine ctd (by omega) ⟨by omega, by omega, _, mat2_get _ hi, cfd (by omega) ⟨by omega, by rw [tab_len]; omega, _, tab_get _ (show w < w + 1 by omega), cf (bne_f (by simp only [toNat_c]; omega)) hnx⟩⟩
 · intro hok next2
   exact cfd (by dsimp only; omega) (k1 hok)
def cterm (p : Nat) (f g : List Nat) (a m : Nat) : Nat := if a ≤ m ∧ m - a < g.length then fmul p (f[a]?.getD 0) (g[m - a]?.getD 0) else 0
def cvP (p : Nat) (f g : List Nat) (i j m : Nat) : Nat := if i ≤ m ∧ m < i + j then fadd p (psum p (fun a => cterm p f g a m) i) (fmul p (f[i]?.getD 0) (g[m - i]?.getD 0)) else psum p (fun a => cterm p f g a m) i
def cv (p : Nat) (f g : List Nat) (m : Nat) : Nat := psum p (fun a => cterm p f g a m) f.length
theorem fadd_zero {p a : Nat} (h : a < p) : fadd p a 0 = a := by unfold fadd; rw [Nat.add_zero, Nat.mod_eq_of_lt h]
theorem cvP_row {p : Nat} (hp : 0 < p) (f g : List Nat) (i N : Nat) : tab N (cvP p f g i g.length) = tab N (cvP p f g (i + 1) 0) :=
 tab_ext fun m _ => by
   unfold cvP
   rw [if_neg (show ¬ (i + 1 ≤ m ∧ m < i + 1 + 0) by omega), psum]
   by_cases h : i ≤ m ∧ m < i + g.length
   · rw [if_pos h, cterm, if_pos (by omega)]
   · rw [if_neg h, cterm, if_neg (by omega), fadd_zero (psum_lt hp _ _)]
theorem cvP_zero (p : Nat) (f g : List Nat) (N : Nat) : List.replicate N 0 = tab N (cvP p f g 0 0) := by
 rw [tab_rep]; exact tab_ext fun m _ => by unfold cvP; rw [if_neg (by omega)]; rfl
theorem cvP_all (p : Nat) (f g : List Nat) (N : Nat) : tab N (cvP p f g f.length 0) = tab N (cv p f g) := tab_ext fun m _ => by unfold cvP; rw [if_neg (by omega)]; rfl
theorem cvP_lt {p : Nat} (hp : 0 < p) (f g : List Nat) (i j m : Nat) : cvP p f g i j m < p := by
 unfold cvP; split
 · exact fadd_lt hp _ _
 · exact psum_lt hp _ _
theorem cvP_step {p : Nat} {f g : List Nat} {i j x y : Nat} (hx : f[i]? = some x) (hy : g[j]? = some y) (N : Nat) : (tab N (cvP p f g i j)).set (i + j) (fadd p (cvP p f g i j (i + j)) (fmul p x y)) = tab N (cvP p f g i (j + 1)) := by
 rw [tab_set]
 refine tab_ext fun m _ => ?_
 by_cases h : m = i + j
 · subst h
   rw [if_pos rfl]
   unfold cvP
   rw [if_neg (by omega), if_pos (by omega), show i + j - i = j by omega, hx, hy]; rfl
 · rw [if_neg h]
   unfold cvP
   by_cases h2 : i ≤ m ∧ m < i + j
   · rw [if_pos h2, if_pos (by omega)]
   · rw [if_neg h2, if_neg (by omega)]
def mulP (p : Nat) (f g : List Nat) : List Nat := short (tab (f.length + g.length) (cv p f g))
theorem cv_lt {p : Nat} (hp : 0 < p) (f g : List Nat) (m : Nat) : cv p f g m < p := psum_lt hp _ _
theorem short_zeros (f : List Nat) (n : Nat) : short (f ++ List.replicate n 0) = short f := by
 unfold short
 rw [List.reverse_append, List.reverse_replicate]
 congr 1
 induction n with
 | zero => simp
 | succ n ih => rw [List.replicate_succ, List.cons_append, List.dropWhile_cons]; simp [ih]
theorem cv_high {p : Nat} (hp : 0 < p) {f g : List Nat} {m : Nat} (h : f.length + g.length ≤ m + 1) : cv p f g m = 0 := by
 unfold cv
 have : ∀ k, k ≤ f.length → psum p (fun a => cterm p f g a m) k = 0 := by
   intro k
   induction k with
   | zero => intro _; rfl
   | succ k ih => intro hk; rw [psum, ih (by omega)]; simp only [cterm]; rw [if_neg (by omega)]; simp [fadd]
 exact this _ (Nat.le_refl _)
theorem mulP_eq {p : Nat} (hp : 0 < p) (f g : List Nat) {N : Nat} (h : f.length + g.length ≤ N + 1) (hN : N ≤ f.length + g.length) : short (tab N (cv p f g)) = mulP p f g := by
 unfold mulP
 have : N = f.length + g.length ∨ N + 1 = f.length + g.length := by omega
 rcases this with rfl | e
 · rfl
 · rw [← e, ← tab_snoc, cv_high hp (by omega)]
   exact (short_zeros _ 1).symm
theorem mulP_lt {p : Nat} (hp : 0 < p) {f g : List Nat} {a : Nat} (h : a ∈ mulP p f g) : a < p := by
 obtain ⟨i, _, rfl⟩ := tab_mem (short_mem h); exact cv_lt hp _ _ _
theorem mulP_len {p : Nat} (hp : 0 < p) (f g : List Nat) : (mulP p f g).length ≤ f.length + g.length - 1 := by
 by_cases h : f.length + g.length = 0
 · have := short_len (tab (f.length + g.length) (cv p f g))
   rw [tab_len] at this; unfold mulP; omega
 · rw [← mulP_eq hp f g (N := f.length + g.length - 1) (by omega) (by omega)]
   have := short_len (tab (f.length + g.length - 1) (cv p f g))
   rw [tab_len] at this; exact this
theorem mulP_eval {p : Nat} [NeZero p] (hp : 0 < p) (f g : List Nat) (x : Fin p) : pv p (mulP p f g) x = pv p f x * pv p g x := by
 unfold mulP
 have hsh : ∀ l, pv p (short l) x = pv p l x := fun l => by
   obtain ⟨m, hm⟩ := short_split l
   conv => rhs; rw [hm]
   rw [pv_append, pv_zeros]; grind
 rw [hsh, pv_tab]
 have hc : ∀ m, cz p (cv p f g m) = S (fun a => cz p (cterm p f g a m)) f.length := fun m => S_psum _ _
 have swap : ∀ (h : Nat → Nat → Fin p) (a b : Nat), S (fun m => S (fun k => h k m) a) b = S (fun k => S (fun m => h k m) b) a := by
   intro h a b
   induction b with
   | zero => exact (S_zero a).symm
   | succ b ih =>
     have : (fun k => S (fun m => h k m) (b + 1)) = fun k => S (fun m => h k m) b + h k b := by funext k; rfl
     rw [S, ih, this, S_add]
 have e1 : S (fun m => cz p (cv p f g m) * x ^ m) (f.length + g.length) = S (fun m => S (fun a => cz p (cterm p f g a m) * x ^ m) f.length) (f.length + g.length) :=
   S_ext fun m _ => by
     rw [hc]
     have : (fun a => cz p (cterm p f g a m) * x ^ m) = fun a => x ^ m * cz p (cterm p f g a m) := by funext a; grind
     rw [this, S_mul]; grind
 rw [e1, swap, pv_S f]
 have e2 : ∀ a, a < f.length → S (fun m => cz p (cterm p f g a m) * x ^ m) (f.length + g.length) = (cz p (f[a]?.getD 0) * x ^ a) * pv p g x := by
   intro a ha
   have e3 : (fun m => cz p (cterm p f g a m) * x ^ m) = fun m => if a ≤ m ∧ m - a < g.length then (fun k => (cz p (f[a]?.getD 0) * x ^ a) * (cz p (g[k]?.getD 0) * x ^ k)) (m - a) else 0 := by
     funext m
     unfold cterm
     by_cases h : a ≤ m ∧ m - a < g.length
     · rw [if_pos h, if_pos h, cz_fmul]
       have : x ^ m = x ^ a * x ^ (m - a) := by rw [← Lean.Grind.Semiring.pow_add]; congr 1; omega
       rw [this]; grind
     · rw [if_neg h, if_neg h, cz_zero]; grind
   rw [e3, S_shift (fun k => (cz p (f[a]?.getD 0) * x ^ a) * (cz p (g[k]?.getD 0) * x ^ k)) a g.length _ (by omega), S_mul, pv_S g]
 rw [S_ext e2]
 have e4 : (fun i : Nat => cz p (f[i]?.getD 0) * x ^ i * pv p g x) = fun i => pv p g x * (cz p (f[i]?.getD 0) * x ^ i) := by funext i; grind
 rw [e4, S_mul]; grind
theorem juntoref02_Mul_c {p : Nat} (hp0 : 0 < p) (hp : p ≤ 65537) {f g : List Nat} (hf : ∀ x ∈ f, x < p) (hg : ∀ x ∈ g, x < p) (hfl : f.length ≤ 100000) (hgl : g.length ≤ 100000) {K : List Nat → Prop} (k : K (mulP p f g)) : juntoref02_Mul.C p f g K := by
 apply juntoref02_Mul.q
 unfold juntoref02_Mul.Q
 rw [show ((f.length : Nat) : Int) + ((g.length : Nat) : Int) = ((f.length + g.length : Nat) : Int) by omega, wi64 (by omega) (by omega), toNat_c]
 refine ⟨MakeOk.of (by omega) (by omega), ?_⟩
 rw [cvP_zero p f g]
 refine LoopQ.rangeS f.length (fun i s => s = tab (f.length + g.length) (cvP p f g i 0)) rfl (by omega) ?_ ?_
 · rintro i _ next hi rfl hnx
   dsimp only
   obtain ⟨x, hx⟩ := get_some hi
   refine ctd (by omega) (LoopQ.rangeS g.length (fun j s => s = tab (f.length + g.length) (cvP p f g i j)) rfl (by omega) ?_ ?_)
   · rintro j _ next2 hj rfl hnx2
     dsimp only
     obtain ⟨y, hy⟩ := get_some hj
     rw [show (i : Int) + (j : Int) = ((i + j : Nat) : Int) by omega, wi64 (by omega) (by omega)]
     refine ctd (by omega) ⟨by omega, by omega, by omega, x, hx, by omega, y, hy, _, tab_get _ (show i + j < f.length + g.length by omega), ?_⟩
     refine juntoref01_Mul_c hp0 hp (hf x (mem_get hx)) (hg y (mem_get hy)) (juntoref01_Add_c hp0 hp (cvP_lt hp0 _ _ _ _ _) (fmul_lt hp0 _ _) ⟨by omega, by omega, hnx2 _ ?_⟩)
     simp only [toNat_c]
     exact cvP_step hx hy _
   · rintro _ next2 rfl
     refine cfd (by dsimp only; omega) (hnx _ ?_)
     exact cvP_row hp0 f g i _
 · rintro _ next rfl
   refine cfd (by dsimp only; omega) (juntoref02_Trim_c (by simp [tab_len]; omega) ?_)
   rw [cvP_all]; exact k
def sizeN (d : Nat) : Nat := (d + 1) * (d + 2) / 2 - 1
def off (n : Nat) : Nat → Nat
 | 0 => 0
 | i + 1 => off n i + (n - i)
def ix (n i k : Nat) : Nat := off n i + (k - i)
def mkG (n : Nat) (L : List Nat) (a b : Nat) : Nat := L.getD (ix n (min a b) (max a b)) 0
def mkM (n : Nat) (L : List Nat) : List (List Nat) := mat n (mkG n L)
noncomputable def mk (p secret d : Nat) (tape : List Nat) : List (List Nat) := mkM (d + 1) (secret :: takeN p tape (sizeN d))
theorem takeN_lt {p n : Nat} {tape : List Nat} (hp : 0 < p) {x : Nat} (h : x ∈ takeN p tape n) : x < p := by
 unfold takeN at h
 obtain ⟨i, _, rfl⟩ := List.mem_map.1 h
 cases tape[i]? with
 | none => exact hp
 | some y => exact Nat.mod_lt _ hp
def zat (z : List Nat) (i : Nat) : Nat := (z[i]?).getD 0
theorem zat_lt {p : Nat} (hp : 0 < p) {z : List Nat} (h : ∀ x ∈ z, x < p) (i : Nat) : zat z i < p := by
 unfold zat
 cases hx : z[i]? with
 | none => exact hp
 | some y => exact h y (mem_get hx)
theorem nodup_iff {l : List Nat} : l.Nodup ↔ ∀ (i j x : Nat), j < i → l[i]? = some x → l[j]? ≠ some x := by
 rw [List.Nodup, List.pairwise_iff_getElem]
 constructor
 · intro h i j x hji hi hj
   obtain ⟨h1, e1⟩ := List.getElem?_eq_some_iff.1 hi
   obtain ⟨h2, e2⟩ := List.getElem?_eq_some_iff.1 hj
   exact h j i h2 h1 hji (e2.trans e1.symm)
 · intro h i j hi hj hij he
   exact h j i _ hij (List.getElem?_eq_getElem hj) (by rw [List.getElem?_eq_getElem hi, he])
section
variable {p : Nat} [NeZero p]
theorem cz_nodup {l : List Nat} (h : l.Nodup) (hl : ∀ x ∈ l, x < p) : (l.map (cz p)).Nodup := nodup_map h fun a ha b hb he => cz_inj (hl a ha) (hl b hb) he
theorem pe_tab (g : Nat → Fin p) (x : Fin p) (n : Nat) : pe (tab n g) x = S (fun i => g i * x ^ i) n := by
 have key : ∀ (l : List (Fin p)) (c : Fin p), pe (l ++ [c]) x = pe l x + c * x ^ l.length := by
   intro l c
   induction l with
   | nil => show (0 : Fin p) * x + c = 0 + c * x ^ 0; grind
   | cons a l ih => rw [List.cons_append, pe_cons, pe_cons, ih, List.length_cons]; grind
 induction n with
 | zero => rfl
 | succ n ih => rw [← tab_snoc, key, ih, S, tab_len]
end
theorem takeN_self {p : Nat} {l : List Nat} {n : Nat} (hl : l.length = n) (h : ∀ x ∈ l, x < p) : takeN p l n = l := by
 symm
 refine tab_of hl fun i y hy => ?_
 rw [hy]
 simp [Nat.mod_eq_of_lt (h y (mem_get hy))]
section
variable {p : Nat} [NeZero p]
theorem pv_zat (z : List Nat) {n : Nat} (h : z.length ≤ n) (x : Fin p) : S (fun i => cz p (zat z i) * x ^ i) n = pv p z x := by
 rw [pv_S]
 have : ∀ m, z.length ≤ m → S (fun i => cz p (zat z i) * x ^ i) m = S (fun i => cz p (z[i]?.getD 0) * x ^ i) z.length := by
   intro m hm
   induction m with
   | zero => have : z.length = 0 := by omega
             rw [this]; rfl
   | succ m ih =>
     rcases Nat.eq_or_lt_of_le hm with h' | h'
     · rw [← h']; rfl
     · rw [S, ih (by omega)]
       unfold zat
       rw [List.getElem?_eq_none (by omega)]
       simp only [Option.getD_none, cz_zero]; grind
 exact this n h
end
theorem mulP_nil (p : Nat) (g : List Nat) : mulP p [] g = [] := by
 unfold mulP
 have : tab (([] : List Nat).length + g.length) (cv p [] g) = [] ++ List.replicate (([] : List Nat).length + g.length) 0 := by
   rw [tab_rep]; exact tab_ext fun i _ => rfl
 rw [this, short_zeros]; rfl
theorem poly_Times_c {p : Nat} (hp0 : 0 < p) (hp : p ≤ 65537) {f g : List Nat} (hf : ∀ x ∈ f, x < p) (hg : ∀ x ∈ g, x < p) (hfl : f.length ≤ 100000) (hgl : g.length ≤ 100000) (hg0 : 0 < g.length) {K : List Nat → Prop} (k : K (mulP p f g)) : poly_Times.C p f g K := by
 apply poly_Times.q
 unfold poly_Times.Q
 by_cases h0 : f.length = 0
 · obtain rfl := List.eq_nil_of_length_eq_zero h0
   rw [mulP_nil] at k
   exact ct rfl k
 refine cf (beq_f (by omega)) (cf (beq_f (by omega)) ?_)
 rw [show ((f.length : Nat) : Int) + ((g.length : Nat) : Int) = ((f.length + g.length : Nat) : Int) by omega, wi64 (x := ((f.length + g.length : Nat) : Int)) (by omega) (by omega), show ((f.length + g.length : Nat) : Int) - 1 = ((f.length + g.length - 1 : Nat) : Int) by omega, wi64 (by omega) (by omega), toNat_c]
 refine ⟨MakeOk.of (by omega) (by omega), ?_⟩
 rw [cvP_zero p f g]
 refine LoopQ.rangeS f.length (fun i s => s = tab (f.length + g.length - 1) (cvP p f g i 0)) rfl (by omega) ?_ ?_
 · rintro i _ next hi rfl hnx
   dsimp only
   obtain ⟨x, hx⟩ := get_some hi
   refine ctd (by omega) ⟨by omega, x, hx, LoopQ.rangeS g.length (fun j s => s = tab (f.length + g.length - 1) (cvP p f g i j)) rfl (by omega) ?_ ?_⟩
   · rintro j _ next2 hj rfl hnx2
     dsimp only
     obtain ⟨y, hy⟩ := get_some hj
     rw [show (i : Int) + (j : Int) = ((i + j : Nat) : Int) by omega, wi64 (by omega) (by omega)]
     refine ctd (by omega) ⟨by omega, y, hy, by omega, by omega, _, tab_get _ (show i + j < f.length + g.length - 1 by omega), ?_⟩
     refine field_Times_c hp0 hp (hf x (mem_get hx)) (hg y (mem_get hy)) (field_Plus_c hp (cvP_lt hp0 _ _ _ _ _) (fmul_lt hp0 _ _) ⟨by omega, by omega, hnx2 _ ?_⟩)
     simp only [toNat_c]
     exact cvP_step hx hy _
   · rintro _ next2 rfl
     refine cfd (by dsimp only; omega) (hnx _ ?_)
     exact cvP_row hp0 f g i _
 · rintro _ next rfl
   refine cfd (by dsimp only; omega) (poly_Short_c (by simp [tab_len]; omega) ?_)
   dsimp only
   rw [cvP_all, mulP_eq hp0 f g (by omega) (by omega)]; exact k
def mx (a b : Nat) : Nat := if b > a then b else a
def addP (p : Nat) (f g : List Nat) : List Nat := short (tab (mx f.length g.length) fun i => fadd p (zat f i) (zat g i))
theorem mx_int (a b : Nat) : (if (b : Int) > (a : Int) then (b : Int) else (a : Int)) = ((mx a b : Nat) : Int) := by
 unfold mx; split <;> split <;> omega
theorem mx_le (a b : Nat) : a ≤ mx a b ∧ b ≤ mx a b := by unfold mx; split <;> omega
theorem mx_lub {a b c : Nat} (h : a ≤ c) (h2 : b ≤ c) : mx a b ≤ c := by unfold mx; split <;> omega
theorem zat_get {f : List Nat} {i x : Nat} (h : f[i]? = some x) : zat f i = x := by unfold zat; rw [h]; rfl
theorem zat_none {f : List Nat} {i : Nat} (h : f.length ≤ i) : zat f i = 0 := by unfold zat; rw [List.getElem?_eq_none h]; rfl
theorem copy_zat (f : List Nat) {n : Nat} (h : f.length ≤ n) : copyL (List.replicate n 0) f = tab n (zat f) := by
 unfold copyL
 refine tab_of (by simp; omega) fun i x hx => ?_
 rcases Nat.lt_or_ge i f.length with h' | h'
 · rw [List.getElem?_append_left (by simp; omega), List.getElem?_take_of_lt (by simp; omega)] at hx
   exact (zat_get hx).symm
 · rw [zat_none h']
   rw [List.getElem?_append_right (by simp; omega)] at hx
   have := mem_get hx
   simp at this
   exact this.2
theorem poly_Plus_c {p : Nat} (hp0 : 0 < p) (hp : p ≤ 65537) {f g : List Nat} (hf : ∀ x ∈ f, x < p) (hg : ∀ x ∈ g, x < p) (hfl : f.length ≤ 100000) (hgl : g.length ≤ 100000) {K : List Nat → Prop} (k : K (addP p f g)) : poly_Plus.C p f g K := by
 refine poly_Plus.q (poly_each.q ?_)
 unfold poly_each.Q
 rw [mx_int, toNat_c]
 have h1 := mx_le f.length g.length
 have h2 : mx f.length g.length ≤ 100000 := mx_lub hfl hgl
 refine ⟨MakeOk.of (by omega) (by omega), ?_⟩
 rw [copy_zat f h1.1]
 unfold addP at k
 generalize mx f.length g.length = n at *
 refine LoopQ.rangeS n (fun i s => s = tab n fun a => if a < i then fadd p (zat f a) (zat g a) else zat f a) (tab_ext fun a _ => by simp) (by omega) ?_ ?_
 · rintro i _ next hi rfl hnx
   dsimp only
   have hg1 := tab_get (n := n) (i := i) (fun a => if a < i then fadd p (zat f a) (zat g a) else zat f a) hi
   rw [if_neg (by omega)] at hg1
   refine ctd (by omega) ?_
   have fin : (tab n fun a => if a < i then fadd p (zat f a) (zat g a) else zat f a).set i (fadd p (zat f i) (zat g i)) = tab n fun a => if a < i + 1 then fadd p (zat f a) (zat g a) else zat f a := by
     rw [tab_set]
     refine tab_ext fun a ha => ?_
     by_cases hai : a = i
     · subst hai; rw [if_pos rfl, if_pos (by omega)]
     · rw [if_neg hai]
       by_cases hlt : a < i
       · rw [if_pos hlt, if_pos (by omega)]
       · rw [if_neg hlt, if_neg (by omega)]
   by_cases hgi : i < g.length
   · obtain ⟨y, hy⟩ := get_some hgi
     refine ctd (by omega) ⟨by omega, y, hy, by omega, by omega, _, hg1, field_Plus_c hp (zat_lt hp0 hf _) (hg y (mem_get hy)) ⟨by omega, by omega, hnx _ ?_⟩⟩
     simp only [toNat_c]
     rw [← zat_get hy]; exact fin
   · refine cfd (by omega) ⟨by omega, by omega, _, hg1, field_Plus_c hp (zat_lt hp0 hf _) hp0 ⟨by omega, by omega, hnx _ ?_⟩⟩
     simp only [toNat_c]
     rw [← zat_none (f := g) (i := i) (by omega)]; exact fin
 · rintro _ next rfl
   refine cfd (by dsimp only; omega) (poly_Short_c (by simp [tab_len]; omega) ?_)
   dsimp only
   rw [tab_ext (g' := fun i => fadd p (zat f i) (zat g i)) fun a ha => by rw [if_pos ha]]; exact k
theorem juntoref02_at_c {f : List Nat} (i : Nat) {K : Nat → Prop} (k : K (zat f i)) : juntoref02_at.C f i K := by
 apply juntoref02_at.q
 unfold juntoref02_at.Q
 by_cases h : i < f.length
 · obtain ⟨x, hx⟩ := get_some h
   rw [zat_get hx] at k
   exact ctd (by omega) ⟨by omega, x, hx, k⟩
 · rw [zat_none (by omega)] at k
   exact cfd (by omega) k
theorem juntoref02_Add_c {p : Nat} (hp0 : 0 < p) (hp : p ≤ 65537) {f g : List Nat} (hf : ∀ x ∈ f, x < p) (hg : ∀ x ∈ g, x < p) (hfl : f.length ≤ 100000) (hgl : g.length ≤ 100000) {K : List Nat → Prop} (k : K (addP p f g)) : juntoref02_Add.C p f g K := by
 apply juntoref02_Add.q
 unfold juntoref02_Add.Q
 rw [mx_int, toNat_c]
 have h1 := mx_le f.length g.length
 have h2 : mx f.length g.length ≤ 100000 := mx_lub hfl hgl
 refine ⟨MakeOk.of (by omega) (by omega), ?_⟩
 rw [tab_rep]
 unfold addP at k
 generalize mx f.length g.length = n at *
 refine LoopQ.rangeS n (fun i s => s = tab n fun a => if a < i then fadd p (zat f a) (zat g a) else 0) (tab_ext fun a _ => by simp) (by omega) ?_ ?_
 · rintro i _ next hi rfl hnx
   dsimp only
   refine ctd (by omega) (juntoref02_at_c i (juntoref02_at_c i (juntoref01_Add_c hp0 hp (zat_lt hp0 hf _) (zat_lt hp0 hg _) ⟨by omega, by omega, hnx _ ?_⟩)))
   simp only [toNat_c]
   rw [tab_set]
   refine tab_ext fun a ha => ?_
   by_cases hai : a = i
   · subst hai; rw [if_pos rfl, if_pos (by omega)]
   · rw [if_neg hai]
     by_cases hlt : a < i
     · rw [if_pos hlt, if_pos (by omega)]
     · rw [if_neg hlt, if_neg (by omega)]
 · rintro _ next rfl
   refine cfd (by dsimp only; omega) (juntoref02_Trim_c (by simp [tab_len]; omega) ?_)
   dsimp only
   rw [tab_ext (g' := fun i => fadd p (zat f i) (zat g i)) fun a ha => by rw [if_pos ha]]; exact k
def scaleP (p : Nat) (f : List Nat) (c : Nat) : List Nat := short (tab f.length fun i => fmul p (zat f i) c)
theorem juntoref02_Scale_c {p c : Nat} (hp0 : 0 < p) (hp : p ≤ 65537) {f : List Nat} (hf : ∀ x ∈ f, x < p) (hc : c < p) (hfl : f.length ≤ 100000) {K : List Nat → Prop} (k : K (scaleP p f c)) : juntoref02_Scale.C p f c K := by
 refine juntoref02_Scale.q ⟨MakeOk.of (by omega) (by omega), ?_⟩
 rw [tab_rep]
 refine LoopQ.rangeS f.length (fun i s => s = tab f.length fun a => if a < i then fmul p (zat f a) c else 0) (tab_ext fun a _ => by simp) (by omega) ?_ ?_
 · rintro i _ next hi rfl hnx
   dsimp only
   obtain ⟨x, hx⟩ := get_some hi
   refine ctd (by omega) ⟨by omega, x, hx, juntoref01_Mul_c hp0 hp (hf x (mem_get hx)) hc ⟨by omega, by omega, hnx _ ?_⟩⟩
   simp only [toNat_c]
   rw [tab_set]
   refine tab_ext fun a ha => ?_
   by_cases hai : a = i
   · subst hai; rw [if_pos rfl, if_pos (by omega), zat_get hx]
   · rw [if_neg hai]
     by_cases hlt : a < i
     · rw [if_pos hlt, if_pos (by omega)]
     · rw [if_neg hlt, if_neg (by omega)]
 · rintro _ next rfl
   refine cfd (by dsimp only; omega) (juntoref02_Trim_c (by simp [tab_len]; omega) ?_)
   dsimp only
   rw [tab_ext (g' := fun i => fmul p (zat f i) c) fun a ha => by rw [if_pos ha]]; exact k
theorem addP_lt {p : Nat} (hp : 0 < p) {f g : List Nat} {a : Nat} (h : a ∈ addP p f g) : a < p := by obtain ⟨i, _, rfl⟩ := tab_mem (short_mem h); exact fadd_lt hp _ _
theorem addP_len (p : Nat) (f g : List Nat) : (addP p f g).length ≤ mx f.length g.length := by
 have := short_len (tab (mx f.length g.length) fun i => fadd p (zat f i) (zat g i)); rw [tab_len] at this; exact this
theorem scaleP_lt {p c : Nat} (hp : 0 < p) {f : List Nat} {a : Nat} (h : a ∈ scaleP p f c) : a < p := by obtain ⟨i, _, rfl⟩ := tab_mem (short_mem h); exact fmul_lt hp _ _
theorem scaleP_len (p c : Nat) (f : List Nat) : (scaleP p f c).length ≤ f.length := by
 have := short_len (tab f.length fun i => fmul p (zat f i) c); rw [tab_len] at this; exact this
theorem short_short (f : List Nat) : short (short f) = short f := by
 unfold short
 rw [List.reverse_reverse]
 congr 1
 generalize f.reverse = l
 induction l with
 | nil => rfl
 | cons a l ih =>
   rw [List.dropWhile_cons]
   by_cases h : (a == 0) = true
   · rw [if_pos h]; exact ih
   · rw [if_neg h, List.dropWhile_cons, if_neg h]
section
variable {p : Nat} [NeZero p]
theorem pv_short (f : List Nat) (x : Fin p) : pv p (short f) x = pv p f x := by
 obtain ⟨m, hm⟩ := short_split f
 conv => rhs; rw [hm]
 rw [pv_append, pv_zeros]; grind
theorem pv_addP (f g : List Nat) (x : Fin p) : pv p (addP p f g) x = pv p f x + pv p g x := by
 unfold addP
 have h := mx_le f.length g.length
 rw [pv_short, pv_tab, ← pv_zat f h.1, ← pv_zat g h.2, ← S_add]
 exact S_ext fun i _ => by rw [cz_fadd]; grind
theorem pv_scaleP (f : List Nat) (c : Nat) (x : Fin p) : pv p (scaleP p f c) x = pv p f x * cz p c := by
 unfold scaleP
 rw [pv_short, pv_tab, ← pv_zat f (Nat.le_refl _)]
 have : S (fun i => cz p (fmul p (zat f i) c) * x ^ i) f.length = S (fun i => cz p c * (cz p (zat f i) * x ^ i)) f.length := S_ext fun i _ => by rw [cz_fmul]; grind
 rw [this, S_mul]; grind
theorem pv_lin {x : Nat} (hx : x ≤ p) (z : Fin p) : pv p [fsub p 0 x, 1] z = z - cz p x := by
 rw [pv_cons, pv_cons, pv_nil, cz_fsub hx, cz_zero, cz_one]; grind
end
def Interp (p : Nat) (l : List TPoint) (f : List Nat) : Prop := (∀ a ∈ f, a < p) ∧ f.length ≤ l.length ∧ short f = f ∧ ∀ [NeZero p], ∀ q ∈ l, pv p f (cz p q.X) = cz p q.Y
def Pts (p : Nat) (l : List TPoint) : Prop := (∀ q ∈ l, q.X < p ∧ q.Y < p) ∧ (l.map (·.X)).Nodup
theorem tab_zat (f : List Nat) {n : Nat} (h : f.length ≤ n) : tab n (zat f) = f ++ List.replicate (n - f.length) 0 := by
 symm
 refine tab_of (by simp; omega) fun i x hx => ?_
 rcases Nat.lt_or_ge i f.length with h' | h'
 · rw [List.getElem?_append_left h'] at hx; exact (zat_get hx).symm
 · rw [zat_none h']
   rw [List.getElem?_append_right h'] at hx
   have := mem_get hx
   simp at this
   exact this.2
theorem Interp.uniq {p : Nat} (hp : isP p) {l : List TPoint} (hl : Pts p l) {f g : List Nat} (hf : Interp p l f) (hg : Interp p l g) : f = g := by
 have hp3 := hp.1
 haveI : NeZero p := ⟨by omega⟩
 obtain ⟨f1, f2, f3, f4⟩ := hf
 obtain ⟨g1, g2, g3, g4⟩ := hg
 have hz := roots_zero hp ((l.map (·.X)).map (cz p)) (tab l.length fun i => cz p (zat f i) - cz p (zat g i)) (cz_nodup hl.2 fun x hx => by
   obtain ⟨q, hq, rfl⟩ := List.mem_map.1 hx; exact (hl.1 q hq).1) (by rw [tab_len]; simp) (fun x hx => by
   obtain ⟨y, hy, rfl⟩ := List.mem_map.1 hx
   obtain ⟨q, hq, rfl⟩ := List.mem_map.1 hy
   rw [pe_tab]
   have e3 : S (fun i => (cz p (zat f i) - cz p (zat g i)) * cz p q.X ^ i) l.length = S (fun i => cz p (zat f i) * cz p q.X ^ i + (-1 : Fin p) * (cz p (zat g i) * cz p q.X ^ i)) l.length := S_ext fun i _ => by grind
   rw [e3, S_add, S_mul, pv_zat f f2, pv_zat g g2, f4 q hq, g4 q hq]; grind)
 have hi : ∀ i, i < l.length → zat f i = zat g i := fun i hi => cz_inj (zat_lt (by omega) f1 i) (zat_lt (by omega) g1 i) (by
   have := hz _ (mem_get (tab_get (fun i => cz p (zat f i) - cz p (zat g i)) hi)); grind)
 have e := tab_ext (n := l.length) hi
 rw [tab_zat f f2, tab_zat g g2] at e
 have := congrArg short e
 rw [short_zeros, short_zeros, f3, g3] at this
 exact this
section
variable {p : Nat} [NeZero p]
def dev (M : Nat → Nat → Fin p) (w : Nat) (x : Nat → Fin p) (i : Nat) : Fin p := S (fun k => M i k * x k) w - M i w
def czM (p : Nat) [NeZero p] (M : Nat → Nat → Nat) : Nat → Nat → Fin p := fun i k => cz p (M i k)
def Solves (p : Nat) [NeZero p] (n w : Nat) (M : Nat → Nat → Nat) (x : Nat → Fin p) : Prop := ∀ i, i < n → dev (czM p M) w x i = 0
theorem piv_no {n : Nat} {M : Nat → Nat → Nat} {top c : Nat} (h : piv n M top c = none) : ∀ j, top ≤ j → j < n → M j c = 0 := by
 intro j h1 h2
 unfold piv at h
 rw [List.find?_range_eq_none] at h
 have := h j h2
 simp [h1] at this
 exact this
theorem piv_ne {n : Nat} {M : Nat → Nat → Nat} {top c i : Nat} (h : piv n M top c = some i) : M i c ≠ 0 := by
 unfold piv at h
 rw [List.find?_range_eq_some] at h
 obtain ⟨h1, h2, _⟩ := h
 simp at h1
 exact h1.2
theorem cz_ne {a : Nat} (h : a < p) (h0 : a ≠ 0) : cz p a ≠ 0 := fun h1 => h0 (cz_inj h (by omega) (by rw [h1, cz_zero]))
theorem one_ne (hp : isP p) : (1 : Fin p) ≠ 0 := by
 have hp3 := hp.1
 exact fun h => by have := cz_inj (p := p) (a := 1) (b := 0) (by omega) (by omega) (by rw [cz_one, cz_zero, h]); omega
theorem cz_pivM {M : Nat → Nat → Nat} {top c i : Nat} (hp : 0 < p) (a k : Nat) : cz p (pivM p M top c i a k) =
   if a = top then cz p (swapM M top i top k) * cz p (finv p (swapM M top i top c)) else cz p (swapM M top i a k) - cz p (swapM M top i a c) * (cz p (swapM M top i top k) * cz p (finv p (swapM M top i top c))) := by
 unfold pivM elimM
 by_cases h : a = top
 · rw [if_pos h, if_pos h]; unfold scaleM; rw [if_pos h, cz_fmul, h]
 · rw [if_neg h, if_neg h, cz_fsub (Nat.le_of_lt (fmul_lt hp _ _)), cz_fmul]
   unfold scaleM
   rw [if_neg h, if_neg h, if_pos rfl, cz_fmul]
theorem dev_lin {M N : Nat → Nat → Fin p} {w : Nat} {x : Nat → Fin p} {a b d : Nat} {u v : Fin p} (h : ∀ k, N a k = u * M b k + v * M d k) : dev N w x a = u * dev M w x b + v * dev M w x d := by
 unfold dev
 have e : (fun k => N a k * x k) = fun k => u * (M b k * x k) + v * (M d k * x k) := by funext k; rw [h]; grind
 rw [e, S_add, S_mul, S_mul, h]; grind
theorem solves_swap {n w : Nat} {M : Nat → Nat → Nat} {x : Nat → Fin p} {a b : Nat} (ha : a < n) (hb : b < n) : Solves p n w (swapM M a b) x ↔ Solves p n w M x := by
 have e : ∀ i, dev (czM p (swapM M a b)) w x i = dev (czM p M) w x (if i = a then b else if i = b then a else i) := fun i => rfl
 constructor
 · intro h i hi
   have := h (if i = a then b else if i = b then a else i) (by split; omega; split <;> omega)
   rw [e] at this
   by_cases h1 : i = a
   · subst h1
     rw [if_pos rfl] at this
     by_cases h2 : b = i
     · subst h2; simpa using this
     · simpa [h2] using this
   · by_cases h2 : i = b
     · subst h2; simpa [h1] using this
     · simpa [h1, h2] using this
 · intro h i hi
   rw [e]; exact h _ (by split; omega; split <;> omega)
theorem solves_piv {n w : Nat} {M : Nat → Nat → Nat} {x : Nat → Fin p} {top c i : Nat} (hp : isP p) (hM : ∀ i k, M i k < p) (ht : top < n) (hi : i < n) (hne : M i c ≠ 0) : Solves p n w (pivM p M top c i) x ↔ Solves p n w M x := by
 have hp3 := hp.1
 rw [← solves_swap (M := M) ht hi]
 have hc : cz p (swapM M top i top c) ≠ 0 := cz_ne (hM _ _) (by simpa [swapM] using hne)
 have huv := fin_finv hp hc
 have hrow := cz_pivM (p := p) (M := M) (top := top) (c := c) (i := i) (by omega)
 generalize cz p (finv p (swapM M top i top c)) = v at *
 generalize swapM M top i = T at *
 have e1 : dev (czM p (pivM p M top c i)) w x top = v * dev (czM p T) w x top := by
   rw [dev_lin (M := czM p T) (b := top) (d := top) (u := v) (v := 0) fun k => by unfold czM; rw [hrow, if_pos rfl]; grind]; grind
 have e2 : ∀ a, a ≠ top → dev (czM p (pivM p M top c i)) w x a = dev (czM p T) w x a - cz p (T a c) * v * dev (czM p T) w x top := fun a ha => by
   rw [dev_lin (M := czM p T) (b := a) (d := top) (u := 1) (v := - (cz p (T a c) * v)) fun k => by unfold czM; rw [hrow, if_neg ha]; grind]; grind
 constructor
 · intro h
   have h1 : dev (czM p T) w x top = 0 := by
     have h2 := h top ht
     rw [e1] at h2
     have : cz p (T top c) * (v * dev (czM p T) w x top) = 0 := by rw [h2]; grind
     grind
   intro a ha
   by_cases hat : a = top
   · rw [hat]; exact h1
   · have h2 := h a ha
     rw [e2 a hat, h1] at h2; grind
 · intro h a ha
   by_cases hat : a = top
   · rw [hat, e1, h top ht]; grind
   · rw [e2 a hat, h a ha, h top ht]; grind
structure ElInv (p : Nat) [NeZero p] (n w : Nat) (M : Nat → Nat → Nat) (s : El) (c : Nat) : Prop where
 lead : ∀ x ∈ s.lead, x < c
 one : ∀ (i x j : Nat), s.lead[i]? = some x → j < n → cz p (s.M j x) = if j = i then 1 else 0
 zero : ∀ i k, s.lead.length ≤ i → i < n → k < c → cz p (s.M i k) = 0
 sol : ∀ x, Solves p n w M x ↔ Solves p n w s.M x
theorem run_inv {n : Nat} {M : Nat → Nat → Nat} (hp : isP p) (hM : ∀ i k, M i k < p) (w : Nat) : ∀ c, ElInv p n w M (El.run p n M c) c
 | 0 => ⟨fun x hx => (by cases hx), fun i x j h => (by cases h), fun i k _ _ h => by omega, fun x => Iff.rfl⟩
 | c + 1 => by
   have ih := run_inv (n := n) hp hM w c
   have hp3 := hp.1
   have hlt := run_lt (n := n) (show 0 < p by omega) hM c
   have hlen := run_leadn p n M c
   rw [El.run, El.step]
   generalize El.run p n M c = s at *
   cases h : piv n s.M s.lead.length c with
   | none =>
     refine ⟨fun x hx => Nat.lt_succ_of_lt (ih.lead x hx), ih.one, fun i k h1 h2 h3 => ?_, ih.sol⟩
     by_cases hk : k = c
     · rw [hk, piv_no h i h1 h2, cz_zero]
     · exact ih.zero i k h1 h2 (by omega)
   | some i =>
     have hi := piv_lt h
     have hne := piv_ne h
     have htop : s.lead.length < n := by omega
     have hc : cz p (swapM s.M s.lead.length i s.lead.length c) ≠ 0 := cz_ne (hlt _ _) (by simpa [swapM] using hne)
     have huv := fin_finv hp hc
     have hrow := cz_pivM (p := p) (M := s.M) (top := s.lead.length) (c := c) (i := i) (by omega)
     have hsw : ∀ j, j < n → ∃ j', j' < n ∧ (∀ k, swapM s.M s.lead.length i j k = s.M j' k) ∧ (j < s.lead.length → j' = j) ∧ (s.lead.length ≤ j → s.lead.length ≤ j') := fun j hj =>
       ⟨if j = s.lead.length then i else if j = i then s.lead.length else j, by split; omega; split <;> omega, fun k => rfl, fun h => by rw [if_neg (by omega), if_neg (by omega)], fun h => by split; omega; split <;> omega⟩
     generalize cz p (finv p (swapM s.M s.lead.length i s.lead.length c)) = v at *
     have hone : ∀ (a x j : Nat), s.lead[a]? = some x → j < n → cz p (swapM s.M s.lead.length i j x) = if j = a then 1 else 0 := fun a x j ha hj => by
       obtain ⟨j', h1, h2, h3, h4⟩ := hsw j hj
       rw [h2, ih.one a x j' ha h1]
       have := lt_get ha
       by_cases hj2 : j < s.lead.length
       · rw [h3 hj2]
       · have := h4 (by omega)
         rw [if_neg (by omega), if_neg (by omega)]
     have hzero : ∀ j k, s.lead.length ≤ j → j < n → k < c → cz p (swapM s.M s.lead.length i j k) = 0 := fun j k h1 h2 h3 => by
       obtain ⟨j', h5, h6, _, h7⟩ := hsw j h2
       rw [h6]; exact ih.zero j' k (h7 h1) h5 h3
     have hnew : ∀ j, j < n → cz p (pivM p s.M s.lead.length c i j c) = if j = s.lead.length then 1 else 0 := fun j hj => by
       rw [hrow]
       by_cases hjt : j = s.lead.length
       · rw [if_pos hjt, if_pos hjt]; exact huv
       · rw [if_neg hjt, if_neg hjt, huv]; grind
     refine ⟨fun x hx => ?_, fun a x j ha hj => ?_, fun j k h1 h2 h3 => ?_, fun x => (ih.sol x).trans (solves_piv hp hlt htop hi.2 hne).symm⟩
     · rcases List.mem_append.1 hx with hx | hx
       · exact Nat.lt_succ_of_lt (ih.lead x hx)
       · simp at hx; omega
     · dsimp only at ha ⊢
       rcases Nat.lt_or_ge a s.lead.length with hal | hal
       · rw [List.getElem?_append_left hal] at ha
         rw [hrow]
         have ht := hone a x s.lead.length ha htop
         rw [if_neg (by omega)] at ht
         rw [ht, hone a x j ha hj]
         by_cases hjt : j = s.lead.length
         · rw [if_pos hjt, if_neg (by omega)]; grind
         · rw [if_neg hjt]; grind
       · rw [List.getElem?_append_right hal] at ha
         have hz : a - s.lead.length = 0 := by have := lt_get ha; simp at this; omega
         rw [hz] at ha
         cases ha
         obtain rfl : a = s.lead.length := by omega
         exact hnew j hj
     · dsimp only at h1 ⊢
       rw [List.length_append, List.length_singleton] at h1
       by_cases hk : k = c
       · rw [hk, hnew j h2, if_neg (by omega)]
       · rw [hrow, if_neg (by omega), hzero j k (by omega) h2 (by omega), hzero s.lead.length k (Nat.le_refl _) htop (by omega)]; grind
theorem S_one {g : Nat → Fin p} {k w : Nat} (hk : k < w) : S (fun j => if j = k then g j else 0) w = g k := by
 have : (fun j => if j = k then g j else (0 : Fin p)) = fun m => if k ≤ m ∧ m - k < 1 then (fun q => g (q + k)) (m - k) else 0 := by
   funext j
   by_cases h : j = k
   · subst h; rw [if_pos rfl, if_pos (by omega)]; simp
   · rw [if_neg h, if_neg (by omega)]
 rw [this, S_shift (fun q => g (q + k)) k 1 w (by omega)]
 show (0 : Fin p) + g (0 + k) = g k
 rw [Nat.zero_add]; grind
theorem zat_set {f : List Nat} {x v k : Nat} (hx : x < f.length) : zat (f.set x v) k = if k = x then v else zat f k := by
 unfold zat
 rw [List.getElem?_set]
 by_cases h : x = k
 · subst h; simp [hx]
 · simp [h, Ne.symm h]
theorem solV_ok {n w : Nat} {M : Nat → Nat → Nat} {s : El} (hp : isP p) (h : ElInv p n w M s w) (hl : s.lead.length ≤ n) : ∀ j, j ≤ s.lead.length →
   (∀ (b x : Nat), j ≤ b → s.lead[b]? = some x → zat (solV s w j) x = 0) ∧ ∀ a, a < n → S (fun k => cz p (s.M a k) * cz p (zat (solV s w j) k)) w = if a < j then cz p (s.M a w) else 0
 | 0, _ => by
   have hz : ∀ k, zat (solV s w 0) k = 0 := fun k => by
     unfold solV zat
     rw [List.getElem?_replicate]; split <;> rfl
   refine ⟨fun b x _ _ => hz x, fun a ha => ?_⟩
   have : (fun k => cz p (s.M a k) * cz p (zat (solV s w 0) k)) = fun _ => (0 : Fin p) := by funext k; rw [hz, cz_zero]; grind
   rw [this, S_zero]; rfl
 | j + 1, hj => by
   obtain ⟨ih1, ih2⟩ := solV_ok hp h hl j (by omega)
   obtain ⟨x, hx⟩ := get_some (show j < s.lead.length by omega)
   have hxw := h.lead x (mem_get hx)
   have hx0 := ih1 j x (Nat.le_refl _) hx
   have hzs : ∀ k, zat (solV s w (j + 1)) k = if k = x then s.M j w else zat (solV s w j) k := fun k => by
     rw [solV, hx]; exact zat_set (by rw [solV_len]; exact hxw)
   constructor
   · intro b y hb hy
     rw [hzs]
     have hne : y ≠ x := by
       rintro rfl
       have h1 := h.one j y j hx (by omega)
       have h2 := h.one b y j hy (by omega)
       rw [if_pos rfl] at h1
       rw [h1, if_neg (by omega)] at h2
       exact one_ne hp h2
     rw [if_neg hne]; exact ih1 b y (by omega) hy
   · intro a ha
     have e : (fun k => cz p (s.M a k) * cz p (zat (solV s w (j + 1)) k)) = fun k => cz p (s.M a k) * cz p (zat (solV s w j) k) + (if k = x then (fun k => cz p (s.M a k) * cz p (s.M j w)) k else 0) := by
       funext k
       rw [hzs]
       by_cases hk : k = x
       · rw [if_pos hk, if_pos hk, hk, hx0, cz_zero]; grind
       · rw [if_neg hk, if_neg hk]; grind
     rw [e, S_add, ih2 a ha, S_one hxw, h.one j x a hx ha]
     by_cases haj : a = j
     · subst haj; rw [if_pos rfl, if_neg (by omega), if_pos (by omega)]; grind
     · rw [if_neg haj]
       by_cases h3 : a < j
       · rw [if_pos h3, if_pos (by omega)]; grind
       · rw [if_neg h3, if_neg (by omega)]; grind
theorem sol_some {n w : Nat} {M : Nat → Nat → Nat} (hp : isP p) (hM : ∀ i k, M i k < p) {x : Nat → Fin p} (h : Solves p n w M x) : SolOk (El.run p n M w) n w := by
 have hp3 := hp.1
 have hi := run_inv (n := n) hp hM w w
 have hlt := run_lt (n := n) (show 0 < p by omega) hM w
 generalize El.run p n M w = s at *
 intro i h1 h2
 have := (hi.sol x).1 h i h2
 unfold dev at this
 have e : S (fun k => czM p s.M i k * x k) w = 0 := by
   rw [S_ext (g' := fun _ => 0) fun k hk => by show cz p (s.M i k) * x k = 0; rw [hi.zero i k h1 h2 hk]; grind, S_zero]
 rw [e] at this
 refine cz_inj (hlt _ _) (by omega) ?_
 rw [cz_zero]
 have : czM p s.M i w = 0 := by grind
 exact this
theorem sol_solves {n w : Nat} {M : Nat → Nat → Nat} (hp : isP p) (hM : ∀ i k, M i k < p) (h : SolOk (El.run p n M w) n w) : Solves p n w M fun k => cz p (zat (solV (El.run p n M w) w (El.run p n M w).lead.length) k) := by
 have hi := run_inv (n := n) hp hM w w
 have hl := run_leadn p n M w
 rw [hi.sol]
 generalize El.run p n M w = s at *
 intro a ha
 have := (solV_ok hp hi hl s.lead.length (Nat.le_refl _)).2 a ha
 unfold dev czM
 rw [this]
 by_cases hal : a < s.lead.length
 · rw [if_pos hal]; grind
 · rw [if_neg hal, h a (by omega) ha, cz_zero]; grind
omit [NeZero p] in
theorem solV_lt {s : El} {w : Nat} (hp : 0 < p) (hs : ∀ i k, s.M i k < p) : ∀ j, ∀ a ∈ solV s w j, a < p
 | 0, a, ha => by unfold solV at ha; have := (List.mem_replicate.1 ha).2; omega
 | j + 1, a, ha => by
   rw [solV] at ha
   rcases List.mem_or_eq_of_mem_set ha with h | h
   · exact solV_lt hp hs j a h
   · rw [h]; exact hs _ _
end
def dvS (p : Nat) (g : List Nat) (c k : Nat) (F : Nat → Nat) : Nat → Nat := fun j => if k ≤ j ∧ j - k < g.length then fsub p (F j) (fmul p c (zat g (j - k))) else F j
def dvC (p : Nat) (g : List Nat) (hd k : Nat) (F : Nat → Nat) : Nat := fmul p (F (k + g.length - 1)) hd
def dvR (p : Nat) (g : List Nat) (hd : Nat) : Nat → (Nat → Nat) → Nat → Nat
 | 0, F => F
 | k + 1, F => dvR p g hd k (dvS p g (dvC p g hd k F) k F)
def dvQ (p : Nat) (g : List Nat) (hd : Nat) : Nat → (Nat → Nat) → Nat → Nat
 | 0, F, _ => 0
 | k + 1, F, j => if j = k then dvC p g hd k F else dvQ p g hd k (dvS p g (dvC p g hd k F) k F) j
theorem dvS_lt {p : Nat} (hp : 0 < p) {g : List Nat} {c k : Nat} {F : Nat → Nat} (hF : ∀ j, F j < p) (j : Nat) : dvS p g c k F j < p := by
 unfold dvS; split
 · exact fsub_lt hp _ _
 · exact hF _
theorem dvR_lt {p : Nat} (hp : 0 < p) {g : List Nat} {hd : Nat} : ∀ k {F : Nat → Nat}, (∀ j, F j < p) → ∀ j, dvR p g hd k F j < p
 | 0, F, hF, j => hF j
 | k + 1, F, hF, j => dvR_lt hp k (fun i => dvS_lt hp hF i) j
theorem dvQ_lt {p : Nat} (hp : 0 < p) {g : List Nat} {hd : Nat} : ∀ k {F : Nat → Nat} (j), dvQ p g hd k F j < p
 | 0, F, j => hp
 | k + 1, F, j => by
   unfold dvQ; split
   · exact fmul_lt hp _ _
   · exact dvQ_lt hp k j
theorem dv_prod {p : Nat} [NeZero p] (hp : isP p) {f g : List Nat} {hd : Nat} (hf : ∀ x ∈ f, x < p) (hg : 0 < g.length) (hd1 : fmul p (zat g (g.length - 1)) hd = 1) : ∀ k {F : Nat → Nat}, (∀ j, cz p (F j) = S (fun a => cz p (cterm p f g a j)) k) → (∀ j, cz p (dvR p g hd k F j) = 0) ∧ ∀ j, j < k → dvQ p g hd k F j = zat f j
 | 0, F, h => ⟨fun j => by rw [dvR, h]; rfl, fun j hj => by omega⟩
 | k + 1, F, h => by
   have hp3 := hp.1
   have hz : S (fun a => cz p (cterm p f g a (k + g.length - 1))) k = 0 := by
     rw [S_ext (g' := fun _ => 0) fun a ha => by unfold cterm; rw [if_neg (by omega), cz_zero], S_zero]
   have hk : ∀ j, cz p (F j) = S (fun a => cz p (cterm p f g a j)) k + cz p (cterm p f g k j) := fun j => h j
   have hg1 := congrArg (cz p) hd1
   rw [cz_fmul, cz_one] at hg1
   have hc : dvC p g hd k F = zat f k := by
     refine cz_inj (fmul_lt (by omega) _ _) (zat_lt (by omega) hf k) ?_
     unfold dvC
     have e : cterm p f g k (k + g.length - 1) = fmul p (zat f k) (zat g (g.length - 1)) := by
       unfold cterm; rw [if_pos (by omega), show k + g.length - 1 - k = g.length - 1 by omega]; rfl
     rw [cz_fmul, hk, hz, e, cz_fmul]; grind
   have hs : ∀ j, cz p (dvS p g (dvC p g hd k F) k F j) = S (fun a => cz p (cterm p f g a j)) k := fun j => by
     unfold dvS
     have hkj := hk j
     unfold cterm at hkj
     by_cases h1 : k ≤ j ∧ j - k < g.length
     · rw [if_pos h1, cz_fsub (Nat.le_of_lt (fmul_lt (by omega) _ _)), cz_fmul, hc]
       rw [if_pos h1, cz_fmul] at hkj
       have e1 : (f[k]?.getD 0) = zat f k := rfl
       have e2 : (g[j - k]?.getD 0) = zat g (j - k) := rfl
       rw [e1, e2] at hkj
       show _ = S (fun a => cz p (if a ≤ j ∧ j - a < g.length then fmul p (f[a]?.getD 0) (g[j - a]?.getD 0) else 0)) k
       grind
     · rw [if_neg h1]
       rw [if_neg h1, cz_zero] at hkj
       rw [hkj]
       show _ = S (fun a => cz p (if a ≤ j ∧ j - a < g.length then fmul p (f[a]?.getD 0) (g[j - a]?.getD 0) else 0)) k
       grind
   obtain ⟨i1, i2⟩ := dv_prod hp hf hg hd1 k hs
   refine ⟨i1, fun j hj => ?_⟩
   rw [dvQ]
   by_cases hjk : j = k
   · rw [if_pos hjk, hc, hjk]
   · rw [if_neg hjk]; exact i2 j (by omega)
theorem lt_short {f : List Nat} {j : Nat} (h : zat f j ≠ 0) : j < (short f).length := by
 obtain ⟨m, hm⟩ := short_split f
 rcases Nat.lt_or_ge j (short f).length with h1 | h1
 · exact h1
 · refine (h ?_).elim
   unfold zat
   rw [hm, List.getElem?_append_right h1, List.getElem?_replicate]
   split <;> rfl
theorem zat_short (f : List Nat) (j : Nat) : zat (short f) j = zat f j := by
 obtain ⟨m, hm⟩ := short_split f
 unfold zat
 conv => rhs; rw [hm]
 rcases Nat.lt_or_ge j (short f).length with h1 | h1
 · rw [List.getElem?_append_left h1]
 · rw [List.getElem?_append_right h1, List.getElem?_replicate, List.getElem?_eq_none h1]
   split <;> rfl
theorem short_last {f : List Nat} (h : 0 < (short f).length) : zat (short f) ((short f).length - 1) ≠ 0 := by
 intro h0
 have h1 := lt_get (List.getElem?_eq_getElem (show (short f).length - 1 < (short f).length by omega))
 have e : short f = (short f).take ((short f).length - 1) ++ List.replicate 1 0 := by
   apply List.ext_getElem?
   intro i
   rcases Nat.lt_or_ge i ((short f).length - 1) with h2 | h2
   · rw [List.getElem?_append_left (by simp; omega), List.getElem?_take_of_lt h2]
   · rw [List.getElem?_append_right (by simp; omega), List.getElem?_replicate]
     simp only [List.length_take, Nat.min_eq_left (Nat.sub_le _ _)]
     by_cases hi : i = (short f).length - 1
     · subst hi
       rw [if_pos (by omega), List.getElem?_eq_getElem h1]
       unfold zat at h0
       rw [List.getElem?_eq_getElem h1] at h0
       simpa using h0
     · rw [if_neg (by omega), List.getElem?_eq_none (by omega)]
 have h3 := congrArg short e
 rw [short_short, short_zeros] at h3
 have := short_len ((short f).take ((short f).length - 1))
 rw [← h3] at this
 simp at this
 omega
theorem tab_zatf {f : List Nat} {n : Nat} (h : f.length = n) : tab n (zat f) = f := by rw [tab_zat f (by omega), h, Nat.sub_self]; simp
theorem zat_tab {n j : Nat} {g : Nat → Nat} : zat (tab n g) j = if j < n then g j else 0 := by
 by_cases h : j < n
 · rw [if_pos h, zat_get (tab_get g h)]
 · rw [if_neg h, zat_none (by rw [tab_len]; omega)]
theorem mulP_long {p : Nat} (hp : isP p) {f g : List Nat} (hf : ∀ x ∈ f, x < p) (hg : ∀ x ∈ g, x < p) (hf0 : 0 < f.length) (hf1 : short f = f) (hg0 : 0 < g.length) (hg1 : zat g (g.length - 1) ≠ 0) : (mulP p f g).length = f.length + g.length - 1 := by
 have hp3 := hp.1
 haveI : NeZero p := ⟨by omega⟩
 have h1 := mulP_len (p := p) (by omega) f g
 have hl : zat f (f.length - 1) ≠ 0 := by have := short_last (f := f) (by rw [hf1]; exact hf0); rw [hf1] at this; exact this
 have : f.length + g.length - 2 < (mulP p f g).length := by
   unfold mulP
   refine lt_short ?_
   rw [zat_tab, if_pos (by omega)]
   intro h0
   have e : cz p (cv p f g (f.length + g.length - 2)) = cz p (zat f (f.length - 1)) * cz p (zat g (g.length - 1)) := by
     unfold cv
     rw [S_psum]
     obtain ⟨n, hn⟩ : ∃ n, f.length = n + 1 := ⟨f.length - 1, by omega⟩
     rw [hn, S, S_ext (g' := fun _ => 0) fun a ha => by unfold cterm; rw [if_neg (by omega), cz_zero], S_zero]
     unfold cterm
     rw [if_pos (by omega), cz_fmul, show n + 1 + g.length - 2 - n = g.length - 1 by omega]
     show (0 : Fin p) + cz p (zat f n) * _ = _
     rw [show n + 1 - 1 = n by omega]
     show (0 : Fin p) + cz p (zat f n) * cz p (zat g (g.length - 1)) = _
     grind
   rw [h0, cz_zero] at e
   rcases fin_mul hp e.symm with h2 | h2
   · exact cz_ne (zat_lt (by omega) hf _) hl h2
   · exact cz_ne (zat_lt (by omega) hg _) hg1 h2
 omega
def px (l : List TPoint) (i : Nat) : Nat := ((l[i]?).map (·.X)).getD 0
def py (l : List TPoint) (i : Nat) : Nat := ((l[i]?).map (·.Y)).getD 0
theorem px_get {l : List TPoint} {i : Nat} {q : TPoint} (h : l[i]? = some q) : px l i = q.X := by unfold px; rw [h]; rfl
theorem py_get {l : List TPoint} {i : Nat} {q : TPoint} (h : l[i]? = some q) : py l i = q.Y := by unfold py; rw [h]; rfl
def ddT (p : Nat) (l : List TPoint) : Nat → Nat → Nat
 | 0, i => py l i
 | s + 1, i => if s + 1 ≤ i then fmul p (fsub p (ddT p l s i) (ddT p l s (i - 1))) (finv p (fsub p (px l i) (px l (i - (s + 1))))) else ddT p l s i
theorem px_lt {p : Nat} (hp : 0 < p) {l : List TPoint} (hl : Pts p l) (i : Nat) : px l i < p := by
 unfold px
 cases h : l[i]? with
 | none => exact hp
 | some q => exact (hl.1 q (mem_get h)).1
theorem py_lt {p : Nat} (hp : 0 < p) {l : List TPoint} (hl : Pts p l) (i : Nat) : py l i < p := by
 unfold py
 cases h : l[i]? with
 | none => exact hp
 | some q => exact (hl.1 q (mem_get h)).2
theorem ddT_lt {p : Nat} (hp : 0 < p) {l : List TPoint} (hl : Pts p l) : ∀ s i, ddT p l s i < p
 | 0, i => py_lt hp hl i
 | s + 1, i => by
   unfold ddT; split
   · exact fmul_lt hp _ _
   · exact ddT_lt hp hl s i
theorem ddT_stop {p : Nat} {l : List TPoint} {i : Nat} : ∀ s, i ≤ s → ddT p l s i = ddT p l i i
 | 0, h => by obtain rfl : i = 0 := by omega
              rfl
 | s + 1, h => by
   rcases Nat.eq_or_lt_of_le h with rfl | h'
   · rfl
   · rw [ddT, if_neg (by omega), ddT_stop s (by omega)]
theorem px_ne {p : Nat} [NeZero p] (hp : 0 < p) {l : List TPoint} (hl : Pts p l) {i j : Nat} (hj : j < i) (hi : i < l.length) : cz p (px l i) - cz p (px l j) ≠ 0 := by
 intro h
 have e := cz_inj (p := p) (px_lt hp hl i) (px_lt hp hl j) (by grind)
 obtain ⟨a, ha⟩ := get_some hi
 obtain ⟨b, hb⟩ := get_some (show j < l.length by omega)
 rw [px_get ha, px_get hb] at e
 exact nodup_iff.1 hl.2 i j a.X hj (by rw [List.getElem?_map, ha]; rfl) (by rw [List.getElem?_map, hb]; simp [e])
theorem ddT_step {p : Nat} [NeZero p] (hp : isP p) {l : List TPoint} (hl : Pts p l) {s i : Nat} (h : s + 1 ≤ i) (hi : i < l.length) :
   cz p (ddT p l (s + 1) i) * (cz p (px l i) - cz p (px l (i - (s + 1)))) = cz p (ddT p l s i) - cz p (ddT p l s (i - 1)) := by
 have hp3 := hp.1
 have hne := px_ne (p := p) (by omega) hl (show i - (s + 1) < i by omega) hi
 have hx := px_lt (p := p) (by omega) hl (i - (s + 1))
 have hy := ddT_lt (p := p) (by omega) hl s (i - 1)
 rw [ddT, if_pos h, cz_fmul, cz_fsub (Nat.le_of_lt hy)]
 have := fin_finv hp (a := fsub p (px l i) (px l (i - (s + 1)))) (by rw [cz_fsub (Nat.le_of_lt hx)]; exact hne)
 rw [cz_fsub (Nat.le_of_lt hx)] at this
 grind
section
variable {p : Nat} [NeZero p]
def nwV (X D : Nat → Fin p) (n : Nat) : Nat → Fin p → Fin p
 | 0, _ => 0
 | m + 1, z => nwV X D n m z * (z - X (n - 1 - m)) + D (n - 1 - m)
def nwW (X : Nat → Fin p) (z : Fin p) (a : Nat) : Nat → Fin p
 | 0 => 1
 | k + 1 => nwW X z a k * (z - X (a + k))
def nwP (X : Nat → Fin p) (T : Nat → Nat → Fin p) (z : Fin p) (a : Nat) : Nat → Fin p
 | 0 => T 0 a
 | m + 1 => nwP X T z a m + T (m + 1) (a + m + 1) * nwW X z a (m + 1)
theorem nwW_first (X : Nat → Fin p) (z : Fin p) (a : Nat) : ∀ k, nwW X z a (k + 1) = (z - X a) * nwW X z (a + 1) k
 | 0 => by simp only [nwW, Nat.add_zero]; grind
 | k + 1 => by rw [nwW, nwW_first X z a k, nwW, show a + (k + 1) = a + 1 + k by omega]; grind
theorem nwP_diff (X : Nat → Fin p) (T : Nat → Nat → Fin p) {n : Nat} (hT : ∀ s i, s + 1 ≤ i → i < n → T (s + 1) i * (X i - X (i - (s + 1))) = T s i - T s (i - 1)) (z : Fin p) (a : Nat) : ∀ m, a + m + 1 < n → nwP X T z (a + 1) m - nwP X T z a m = (T m (a + m + 1) - T m (a + m)) * nwW X z (a + 1) m
 | 0, h => by simp only [nwP, nwW, Nat.add_zero]; grind
 | m + 1, h => by
   have ih := nwP_diff X T hT z a m (by omega)
   have h1 := hT m (a + m + 1) (by omega) (by omega)
   rw [show a + m + 1 - (m + 1) = a by omega, show a + m + 1 - 1 = a + m by omega] at h1
   have h2 := nwW_first X z a m
   have h3 : nwW X z (a + 1) (m + 1) = nwW X z (a + 1) m * (z - X (a + m + 1)) := by rw [nwW, show a + 1 + m = a + m + 1 by omega]
   rw [nwP, nwP, show a + 1 + m + 1 = a + (m + 1) + 1 by omega, h2, h3, show a + (m + 1) = a + m + 1 by omega]
   generalize nwW X z (a + 1) m = W at *
   generalize nwP X T z (a + 1) m = P1 at *
   generalize nwP X T z a m = P0 at *
   generalize T (m + 1) (a + m + 1) = t1 at *
   generalize T (m + 1) (a + m + 1 + 1) = t2 at *
   generalize T m (a + m + 1) = t3 at *
   generalize T m (a + m) = t4 at *
   have e : P1 = P0 + (t3 - t4) * W := by grind
   rw [e, ← h1]
   generalize X (a + m + 1) = x1 at *
   generalize X a = x0 at *
   clear h1 h2 h3 ih e
   grind
theorem nwP_at (hp : isP p) (X : Nat → Fin p) (T : Nat → Nat → Fin p) {n : Nat} (hT : ∀ s i, s + 1 ≤ i → i < n → T (s + 1) i * (X i - X (i - (s + 1))) = T s i - T s (i - 1)) (hX : ∀ i j, j < i → i < n → X i - X j ≠ 0) : ∀ m a j, a + m < n → j ≤ m → nwP X T (X (a + j)) a m = T 0 (a + j)
 | 0, a, j, h, hj => by
   obtain rfl : j = 0 := by omega
   rfl
 | m + 1, a, j, h, hj => by
   have hne := hX (a + m + 1) a (by omega) (by omega)
   have hd := nwP_diff X T hT (X (a + j)) a m (by omega)
   have h1 := hT m (a + m + 1) (by omega) (by omega)
   rw [show a + m + 1 - (m + 1) = a by omega, show a + m + 1 - 1 = a + m by omega] at h1
   have h2 := nwW_first X (X (a + j)) a m
   have key : nwP X T (X (a + j)) a (m + 1) * (X (a + m + 1) - X a) = (X (a + j) - X a) * nwP X T (X (a + j)) (a + 1) m - (X (a + j) - X (a + m + 1)) * nwP X T (X (a + j)) a m := by
     rw [nwP, h2]
     generalize nwW X (X (a + j)) (a + 1) m = W at *
     generalize nwP X T (X (a + j)) (a + 1) m = P1 at *
     generalize nwP X T (X (a + j)) a m = P0 at *
     generalize T (m + 1) (a + m + 1) = t1 at *
     generalize T m (a + m + 1) = t3 at *
     generalize T m (a + m) = t4 at *
     generalize X (a + m + 1) = x1 at *
     generalize X a = x0 at *
     generalize X (a + j) = z at *
     have e : P1 = P0 + (t3 - t4) * W := by grind
     rw [e, ← h1]
     clear h1 h2 hd hne e
     grind
   have fin : ∀ v, (X (a + j) - X a) * nwP X T (X (a + j)) (a + 1) m - (X (a + j) - X (a + m + 1)) * nwP X T (X (a + j)) a m = v * (X (a + m + 1) - X a) → nwP X T (X (a + j)) a (m + 1) = v := fun v hv => by
     rw [hv] at key
     refine fin_cancel hp hne ?_
     grind
   refine fin _ ?_
   by_cases hj0 : j = 0
   · subst hj0
     have := nwP_at hp X T hT hX m a 0 (by omega) (by omega)
     rw [Nat.add_zero] at this ⊢
     rw [this]; grind
   · have i1 := nwP_at hp X T hT hX m (a + 1) (j - 1) (by omega) (by omega)
     rw [show a + 1 + (j - 1) = a + j by omega] at i1
     rw [i1]
     by_cases hjm : j = m + 1
     · subst hjm
       rw [← Nat.add_assoc]; grind
     · rw [nwP_at hp X T hT hX m a j (by omega) (by omega)]; grind
def nwS (X : Nat → Fin p) (D : Nat → Fin p) (z : Fin p) : Nat → Fin p
 | 0 => 0
 | m + 1 => nwS X D z m + D m * nwW X z 0 m
theorem nwS_P (X : Nat → Fin p) (T : Nat → Nat → Fin p) (z : Fin p) : ∀ m, nwS X (fun i => T i i) z (m + 1) = nwP X T z 0 m
 | 0 => by simp only [nwS, nwP, nwW]; grind
 | m + 1 => by rw [nwS, nwS_P X T z m, nwP, Nat.zero_add]
theorem nwV_S (X D : Nat → Fin p) (n : Nat) (z : Fin p) : ∀ m, m ≤ n → nwS X D z (n - m) + nwV X D n m z * nwW X z 0 (n - m) = nwS X D z n
 | 0, _ => by simp only [nwV, Nat.sub_zero]; grind
 | m + 1, h => by
   have ih := nwV_S X D n z m (by omega)
   obtain ⟨q, hq⟩ : ∃ q, n - m = q + 1 := ⟨n - m - 1, by omega⟩
   rw [hq, nwS, nwW, Nat.zero_add] at ih
   rw [show n - (m + 1) = q by omega, nwV, show n - 1 - m = q by omega, ← ih]; grind
theorem newton (hp : isP p) (X : Nat → Fin p) (T : Nat → Nat → Fin p) {n : Nat} (hT : ∀ s i, s + 1 ≤ i → i < n → T (s + 1) i * (X i - X (i - (s + 1))) = T s i - T s (i - 1)) (hX : ∀ i j, j < i → i < n → X i - X j ≠ 0) {i : Nat} (hi : i < n) : nwV X (fun i => T i i) n n (X i) = T 0 i := by
 have h := nwV_S X (fun i => T i i) n (X i) n (Nat.le_refl _)
 rw [Nat.sub_self] at h
 obtain ⟨m, rfl⟩ : ∃ m, n = m + 1 := ⟨n - 1, by omega⟩
 rw [nwS_P] at h
 have h2 := nwP_at hp X T hT hX m 0 i (by omega) (by omega)
 rw [Nat.zero_add] at h2
 rw [h2] at h
 simp only [nwS, nwW] at h
 grind
end
theorem pred_wi {n : Nat} (h0 : 0 < n) (h : n < 4611686018427387904) : IntKind.i64.wrap ((n : Int) - 1) = ((n - 1 : Nat) : Int) := by rw [wi64 (by omega) (by omega)]; omega
theorem poly_Fit_c {p : Nat} (hp : isP p) {l : List TPoint} (hl : Pts p l) (h1 : 1 ≤ l.length) (h4 : l.length ≤ 1000) {K : List Nat → Prop} (k : ∀ f, Interp p l f → K f) : poly_Fit.C p l K := by
 have hp3 := hp.1
 have hpp := hp.2.1
 haveI : NeZero p := ⟨by omega⟩
 refine poly_Fit.q ⟨MakeOk.of (by omega) (by omega), ?_⟩
 rw [tab_rep]
 refine LoopQ.rangeS l.length (fun i s => s = tab l.length fun a => if a < i then ddT p l 0 a else 0) (tab_ext fun a _ => by simp) (by omega) ?_ ?_
 · rintro i _ next hi rfl hnx
   dsimp only
   obtain ⟨q, hq⟩ := get_some hi
   refine ctd (by omega) ⟨by omega, q, hq, by omega, by omega, hnx _ ?_⟩
   simp only [toNat_c]
   rw [tab_set]
   refine tab_ext fun a ha => ?_
   by_cases hai : a = i
   · subst hai; rw [if_pos rfl, if_pos (by omega), ddT, py_get hq]
   · rw [if_neg hai]
     by_cases hlt : a < i
     · rw [if_pos hlt, if_pos (by omega)]
     · rw [if_neg hlt, if_neg (by omega)]
 rintro _ next rfl
 dsimp only
 rw [tab_ext (g' := ddT p l 0) fun a ha => by rw [if_pos ha], pred_wi (by omega) (by omega)]
 refine cfd (by omega) ?_
 refine LoopQ.upto (l.length - 1) (fun s t => t = (((s + 1 : Nat) : Int), tab l.length (ddT p l s))) rfl ?_
 rintro s _ next2 hs rfl hnx2
 dsimp only
 by_cases hlast : s < l.length - 1
 · refine ctd (by omega) ?_
   refine LoopQ.upto (l.length - (s + 1)) (fun m t => t = (((l.length - 1 - m : Nat) : Int), tab l.length fun a => if l.length - 1 - m < a then ddT p l (s + 1) a else ddT p l s a)) ?_ ?_
   · congr 1
     exact tab_ext fun a ha => by rw [if_neg (by omega)]
   rintro m _ next3 hm rfl hnx3
   dsimp only
   by_cases hml : m < l.length - (s + 1)
   · generalize hb : l.length - 1 - m = b at *
     have hbl : b < l.length := by omega
     obtain ⟨q, hq⟩ := get_some hbl
     obtain ⟨r, hr⟩ := get_some (show b - (s + 1) < l.length by omega)
     have g1 := tab_get (n := l.length) (i := b) (fun a => if b < a then ddT p l (s + 1) a else ddT p l s a) hbl
     have g2 := tab_get (n := l.length) (i := b - 1) (fun a => if b < a then ddT p l (s + 1) a else ddT p l s a) (by omega)
     rw [if_neg (by omega)] at g1 g2
     have hqx := (hl.1 q (mem_get hq)).1
     have hrx := (hl.1 r (mem_get hr)).1
     rw [show (b : Int) - ((s + 1 : Nat) : Int) = ((b - (s + 1) : Nat) : Int) by omega, wi64 (x := ((b - (s + 1) : Nat) : Int)) (by omega) (by omega), pred_wi (by omega) (by omega)]
     refine ctd (by omega) ⟨by omega, q, hq, by omega, r, hr, field_Minus_c (by omega) hpp hqx hrx ⟨by omega, by omega, by omega, by omega, _, g1, _, g2, field_Minus_c (by omega) hpp (ddT_lt (by omega) hl _ _) (ddT_lt (by omega) hl _ _) (field_Over_c (by omega) hpp (fsub_lt (by omega) _ _) (field_Times_c (by omega) hpp (fsub_lt (by omega) _ _) (finv_lt (by omega) _) ⟨by omega, by omega, hnx3 hml _ ?_⟩))⟩⟩
     refine Prod.ext_iff.2 ⟨by dsimp only; omega, ?_⟩
     simp only [toNat_c]
     rw [tab_set]
     refine tab_ext fun a ha => ?_
     by_cases hab : a = b
     · subst hab
       rw [if_pos rfl, if_pos (by omega), ddT, if_pos (by omega), px_get hq, px_get hr]
     · rw [if_neg hab]
       by_cases hlt : b < a
       · rw [if_pos hlt, if_pos (by omega)]
       · rw [if_neg hlt, if_neg (by omega)]
   · refine cfd (by omega) (hnx2 hlast _ ?_)
     rw [wsucc (by omega)]
     congr 1
     refine tab_ext fun a ha => ?_
     by_cases hlt : l.length - 1 - m < a
     · rw [if_pos hlt]
     · rw [if_neg hlt, ddT, if_neg (by omega)]
 refine cfd (by omega) ?_
 obtain rfl : s = l.length - 1 := by omega
 let X := fun i => cz p (px l i)
 let T := fun s i => cz p (ddT p l s i)
 refine LoopQ.upto l.length (fun m t => t.2 = (l.length : Int) - 1 - m ∧ (∀ a ∈ t.1, a < p) ∧ t.1.length ≤ m ∧ ∀ z : Fin p, pv p t.1 z = nwV X (fun i => T i i) l.length m z) ⟨by dsimp only; omega, fun a ha => (by cases ha), Nat.le_refl _, fun z => rfl⟩ ?_
 rintro m ⟨f, t⟩ next4 hm ⟨ht, hf1, hf2, hf3⟩ hnx4
 dsimp only at *
 by_cases hml : m < l.length
 · obtain rfl : t = ((l.length - 1 - m : Nat) : Int) := by omega
   generalize hb : l.length - 1 - m = b at *
   obtain ⟨q, hq⟩ := get_some (show b < l.length by omega)
   have hqx := (hl.1 q (mem_get hq)).1
   have hd := ddT_lt (p := p) (by omega) hl (l.length - 1) b
   have hlin : ∀ a ∈ [fsub p 0 q.X, 1], a < p := by
     intro a ha; simp at ha; rcases ha with rfl | rfl
     · exact fsub_lt (by omega) _ _
     · omega
   have hml2 := mulP_len (p := p) (by omega) f [fsub p 0 q.X, 1]
   simp only [List.length_cons, List.length_nil] at hml2
   refine ctd (by omega) ⟨by omega, q, hq, field_Minus_c (by omega) hpp (by omega) hqx (poly_Times_c (by omega) hpp hf1 hlin (by omega) (by simp) (by simp) ⟨by omega, by omega, _, tab_get _ (show b < l.length by omega), poly_Plus_c (by omega) hpp (fun a ha => mulP_lt (by omega) ha) (fun a ha => ?_) (by omega) (by simp) (hnx4 hml _ ⟨?_, ?_, ?_, ?_⟩)⟩)⟩
   · rw [List.mem_singleton.1 ha]; simp only [toNat_c]; exact hd
   · dsimp only; rw [wi64 (by omega) (by omega)]; omega
   · exact fun a ha => addP_lt (by omega) ha
   · have := addP_len p (mulP p f [fsub p 0 q.X, 1]) [ddT p l (l.length - 1) b]
     have h2 := mx_lub (a := (mulP p f [fsub p 0 q.X, 1]).length) (b := [ddT p l (l.length - 1) b].length) (c := m + 1) (by omega) (by simp)
     simp only [toNat_c]; omega
   · intro z
     simp only [toNat_c]
     rw [pv_addP, mulP_eval (by omega), hf3, pv_lin (Nat.le_of_lt hqx), pv_cons, pv_nil, nwV, hb]
     show _ = _ * (z - cz p (px l b)) + cz p (ddT p l b b)
     rw [px_get hq, ddT_stop (p := p) (l := l) (i := b) (l.length - 1) (by omega)]
     grind
 · obtain rfl : m = l.length := by omega
   refine cfd (by omega) (poly_Short_c (by omega) (k _ ⟨fun a ha => hf1 a (short_mem ha), ?_, short_short _, ?_⟩))
   · have := short_len f; omega
   · intro _ q hq
     obtain ⟨i, hi⟩ := List.mem_iff_getElem?.1 hq
     have := newton hp X T (n := l.length) (fun s i h1 h2 => ddT_step hp hl h1 h2) (fun i j h1 h2 => px_ne (by omega) hl h1 h2) (lt_get hi)
     have h5 : pv p (short f) (cz p (px l i)) = cz p (py l i) := by rw [pv_short, hf3]; exact this
     rw [px_get hi, py_get hi] at h5
     exact h5
theorem juntoref02_Places_c {l : List TPoint} (h4 : l.length ≤ 100) {K : List Nat → Prop} (k : K (l.map (·.X))) : juntoref02_Places.C l K := by
 apply juntoref02_Places.q
 refine LoopQ.upto l.length (fun i t => t = ((l.take i).map (·.X), (i : Int))) rfl ?_
 rintro i _ next hi rfl hnx
 dsimp only
 by_cases h : i < l.length
 · obtain ⟨q, hq⟩ := get_some h
   refine ctd (by omega) ⟨by omega, q, hq, AppOk.of (by simp; omega), hnx h _ ?_⟩
   rw [wsucc (by omega), List.take_add_one, hq]; simp
 · obtain rfl : i = l.length := by omega
   refine cfd (by omega) ?_
   rw [List.take_length]; exact k
theorem juntoref02_unit_c {p : Nat} [NeZero p] (hp : isP p) {xs : List Nat} (hx : ∀ x ∈ xs, x < p) (hn : xs.Nodup) (h4 : xs.length ≤ 100) {i : Nat} (hi : i < xs.length) {K : List Nat → Prop}
   (k : ∀ f, (∀ a ∈ f, a < p) → f.length ≤ xs.length → (∀ m x, xs[m]? = some x → pv p f (cz p x) = if m = i then 1 else 0) → K f) : juntoref02_unit.C p xs i K := by
 have hp3 := hp.1
 have hpp := hp.2.1
 apply juntoref02_unit.q
 obtain ⟨xi, hxi⟩ := get_some hi
 have hxip := hx xi (mem_get hxi)
 refine LoopQ.upto xs.length (fun j t => t.2 = (j : Int) ∧ (∀ a ∈ t.1, a < p) ∧ t.1.length ≤ j + (if j ≤ i then 1 else 0) ∧ pv p t.1 (cz p xi) = 1 ∧ ∀ m x, m < j → m ≠ i → xs[m]? = some x → pv p t.1 (cz p x) = 0) ⟨rfl, fun a ha => by simp at ha; omega, by simp, by rw [pv_cons, pv_nil, cz_one]; grind, fun m x hm => by omega⟩ ?_
 rintro j ⟨f, t⟩ next hj ⟨ht, hf1, hf2, hf3, hf4⟩ hnx
 dsimp only at *
 subst ht
 by_cases h : j < xs.length
 · obtain ⟨x, hxj⟩ := get_some h
   have hxp := hx x (mem_get hxj)
   refine ctd (by omega) ⟨by omega, x, hxj, ?_⟩
   by_cases hji : j = i
   · subst hji
     refine cf (bne_f (by omega)) (hnx h _ ⟨wsucc (by omega), hf1, ?_, hf3, fun m y hm hmi hy => hf4 m y (by omega) hmi hy⟩)
     dsimp only
     rw [if_pos (by omega)] at hf2
     omega
   · have hlin : ∀ a ∈ [fsub p 0 x, 1], a < p := by
       intro a ha; simp at ha; rcases ha with rfl | rfl
       · exact fsub_lt (by omega) _ _
       · omega
     have hfl : f.length ≤ 1000 := by split at hf2 <;> omega
     have hml2 := mulP_len (p := p) (by omega) f [fsub p 0 x, 1]
     simp only [List.length_cons, List.length_nil] at hml2
     have hev : ∀ z : Fin p, pv p (scaleP p (mulP p f [fsub p 0 x, 1]) (finv p (fsub p xi x))) z = pv p f z * (z - cz p x) * cz p (finv p (fsub p xi x)) := fun z => by
       rw [pv_scaleP, mulP_eval (by omega), pv_lin (Nat.le_of_lt hxp)]
     refine ct (bne_t (by omega)) ⟨by omega, xi, hxi, juntoref01_Sub_c (by omega) hpp (by omega) hxp (juntoref02_Mul_c (by omega) hpp hf1 hlin (by omega) (by simp) (juntoref01_Sub_c (by omega) hpp hxip hxp (juntoref01_Inv_c (by omega) hpp (fsub_lt (by omega) _ _) (juntoref02_Scale_c (by omega) hpp (fun a ha => mulP_lt (by omega) ha) (finv_lt (by omega) _) (by omega) (hnx h _ ⟨wsucc (by omega), ?_, ?_, ?_, ?_⟩)))))⟩
     · exact fun a ha => scaleP_lt (by omega) ha
     · have := scaleP_len p (finv p (fsub p xi x)) (mulP p f [fsub p 0 x, 1])
       dsimp only
       have hh : (if j ≤ i then 1 else 0) = (if j + 1 ≤ i then 1 else 0) := by
         by_cases hh : j ≤ i
         · rw [if_pos hh, if_pos (by omega)]
         · rw [if_neg hh, if_neg (by omega)]
       rw [hh] at hf2
       omega
     · dsimp only
       rw [hev, hf3]
       have hne : cz p (fsub p xi x) ≠ 0 := by
         rw [cz_fsub (Nat.le_of_lt hxp)]
         intro h0
         have e := cz_inj (p := p) hxip hxp (by grind)
         subst e
         rcases Nat.lt_or_ge i j with hlt | hge
         · exact nodup_iff.1 hn j i xi hlt hxj hxi
         · exact nodup_iff.1 hn i j xi (by omega) hxi hxj
       have := fin_finv hp hne
       rw [cz_fsub (Nat.le_of_lt hxp)] at this
       grind
     · intro m y hm hmi hy
       dsimp only
       rw [hev]
       rcases Nat.lt_or_ge m j with h' | h'
       · rw [hf4 m y h' hmi hy]; grind
       · obtain rfl : m = j := by omega
         rw [hxj] at hy; cases hy; grind
 · obtain rfl : j = xs.length := by omega
   refine cfd (by omega) (k f hf1 ?_ ?_)
   · rw [if_neg (by omega)] at hf2; omega
   · intro m x hm
     by_cases hmi : m = i
     · subst hmi; rw [hxi] at hm; cases hm; rw [if_pos rfl, hf3]
     · rw [if_neg hmi, hf4 m x (lt_get hm) hmi hm]
theorem juntoref02_Through_c {p : Nat} (hp : isP p) {l : List TPoint} (hl : Pts p l) (h4 : l.length ≤ 100) {K : List Nat → Prop} (k : ∀ f, Interp p l f → K f) : juntoref02_Through.C p l K := by
 have hp3 := hp.1
 have hpp := hp.2.1
 haveI : NeZero p := ⟨by omega⟩
 apply juntoref02_Through.q
 refine LoopQ.upto l.length (fun i t => t.2 = (i : Int) ∧ (∀ a ∈ t.1, a < p) ∧ t.1.length ≤ l.length ∧ short t.1 = t.1 ∧ ∀ m q, l[m]? = some q → pv p t.1 (cz p q.X) = if m < i then cz p q.Y else 0) ⟨rfl, fun a ha => (by cases ha), Nat.zero_le _, rfl, fun m q _ => by rw [if_neg (by omega)]; rfl⟩ ?_
 rintro i ⟨f, t⟩ next hi ⟨ht, hf1, hf2, hf3, hf4⟩ hnx
 dsimp only at *
 subst ht
 by_cases h : i < l.length
 · obtain ⟨q, hq⟩ := get_some h
   have hqx := (hl.1 q (mem_get hq)).2
   refine ctd (by omega) ⟨by omega, q, hq, juntoref02_Places_c h4 (juntoref02_unit_c hp (fun x hx => by
     obtain ⟨r, hr, rfl⟩ := List.mem_map.1 hx; exact (hl.1 r hr).1) hl.2 (by simp; omega) (by simp; omega) ?_)⟩
   intro u hu1 hu2 hu3
   rw [List.length_map] at hu2
   have hsl := scaleP_len p q.Y u
   refine juntoref02_Scale_c (by omega) hpp hu1 hqx (by omega) (juntoref02_Add_c (by omega) hpp hf1 (fun a ha => scaleP_lt (by omega) ha) (by omega) (by omega) (hnx h _ ⟨wsucc (by omega), ?_, ?_, ?_, ?_⟩))
   · exact fun a ha => addP_lt (by omega) ha
   · have := addP_len p f (scaleP p u q.Y)
     have h2 := mx_lub (a := f.length) (b := (scaleP p u q.Y).length) (c := l.length) hf2 (by omega)
     dsimp only; omega
   · exact short_short _
   · intro m r hr
     dsimp only
     rw [pv_addP, pv_scaleP, hf4 m r hr, hu3 m r.X (by rw [List.getElem?_map, hr]; rfl)]
     by_cases hmi : m = i
     · subst hmi; rw [hq] at hr; cases hr
       rw [if_neg (by omega), if_pos rfl, if_pos (by omega)]; grind
     · rw [if_neg hmi]
       by_cases hlt : m < i
       · rw [if_pos hlt, if_pos (by omega)]; grind
       · rw [if_neg hlt, if_neg (by omega)]; grind
 · obtain rfl : i = l.length := by omega
   refine cfd (by omega) (k f ⟨hf1, hf2, hf3, ?_⟩)
   intro _ q hq
   obtain ⟨m, hm⟩ := List.mem_iff_getElem?.1 hq
   rw [hf4 m q hm, if_pos (lt_get hm)]
def offB (p : Nat) (f : List Nat) (l : List TPoint) (i : Nat) : Bool := decide (evalH p f (px l i) ≠ py l i)
def offL (p : Nat) (f : List Nat) (l : List TPoint) : List Nat := (List.range l.length).filter (offB p f l)
structure Dec (p d w : Nat) (l : List TPoint) (f : List Nat) : Prop where
 lt : ∀ a ∈ f, a < p
 len : f.length ≤ d + 1
 tidy : short f = f
 off : (offL p f l).length ≤ w
theorem Dec.mono {p d w w' : Nat} {l : List TPoint} {f : List Nat} (h : Dec p d w l f) (hw : w ≤ w') : Dec p d w' l f := ⟨h.lt, h.len, h.tidy, Nat.le_trans h.off hw⟩
theorem eq_roots {p m : Nat} (hp : isP p) [NeZero p] {f g : List Nat} (hf : ∀ a ∈ f, a < p) (hg : ∀ a ∈ g, a < p) (hfl : f.length ≤ m) (hgl : g.length ≤ m) {xs : List Nat} (hn : xs.Nodup) (hx : ∀ x ∈ xs, x < p) (hl : m ≤ xs.length) (h : ∀ x ∈ xs, pv p f (cz p x) = pv p g (cz p x)) : short f = short g := by
 have hp3 := hp.1
 have hz := roots_zero hp (xs.map (cz p)) (tab m fun i => cz p (zat f i) - cz p (zat g i)) (cz_nodup hn hx) (by rw [tab_len]; simp; omega) (fun x hx => by
   obtain ⟨q, hq, rfl⟩ := List.mem_map.1 hx
   rw [pe_tab]
   have e3 : S (fun i => (cz p (zat f i) - cz p (zat g i)) * cz p q ^ i) m = S (fun i => cz p (zat f i) * cz p q ^ i + (-1 : Fin p) * (cz p (zat g i) * cz p q ^ i)) m := S_ext fun i _ => by grind
   rw [e3, S_add, S_mul, pv_zat f hfl, pv_zat g hgl, h q hq]; grind)
 have hi : ∀ i, i < m → zat f i = zat g i := fun i hi => cz_inj (zat_lt (by omega) hf i) (zat_lt (by omega) hg i) (by
   have := hz _ (mem_get (tab_get (fun i => cz p (zat f i) - cz p (zat g i)) hi)); grind)
 have e := tab_ext (n := m) hi
 rw [tab_zat f hfl, tab_zat g hgl] at e
 have := congrArg short e
 rw [short_zeros, short_zeros] at this
 exact this
theorem cnt3 (a b : Nat → Bool) (L : List Nat) : L.length ≤ (L.filter fun i => !a i && !b i).length + (L.filter a).length + (L.filter b).length := by
 induction L with
 | nil => simp
 | cons x L ih =>
   simp only [List.filter_cons, List.length_cons]
   cases a x <;> cases b x <;> simp <;> omega
theorem off_false {p : Nat} [NeZero p] (hp : 0 < p) {f : List Nat} {l : List TPoint} {i : Nat} (h : offB p f l i = false) : pv p f (cz p (px l i)) = cz p (py l i) := by
 unfold offB at h
 rw [decide_eq_false_iff_not, Classical.not_not] at h
 rw [← pv_evalH, h]
theorem px_nodup {p : Nat} {l : List TPoint} (hl : Pts p l) (c : Nat → Bool) : (((List.range l.length).filter c).map (px l)).Nodup := by
 refine nodup_map (List.nodup_range.filter _) fun a ha b hb h => ?_
 have h1 := List.mem_range.1 (List.mem_filter.1 ha).1
 have h2 := List.mem_range.1 (List.mem_filter.1 hb).1
 obtain ⟨u, hu⟩ := get_some h1
 obtain ⟨v, hv⟩ := get_some h2
 rw [px_get hu, px_get hv] at h
 rcases Nat.lt_trichotomy a b with hab | hab | hab
 · exact (nodup_iff.1 hl.2 b a v.X hab (by rw [List.getElem?_map, hv]; rfl) (by rw [List.getElem?_map, hu]; simp [h])).elim
 · exact hab
 · exact (nodup_iff.1 hl.2 a b u.X hab (by rw [List.getElem?_map, hu]; rfl) (by rw [List.getElem?_map, hv]; simp [h])).elim
theorem Dec.uniq {p d w : Nat} (hp : isP p) {l : List TPoint} (hl : Pts p l) (hn : d + 1 + 2 * w ≤ l.length) {f g : List Nat} (hf : Dec p d w l f) (hg : Dec p d w l g) : f = g := by
 have hp3 := hp.1
 haveI : NeZero p := ⟨by omega⟩
 have hc := cnt3 (offB p f l) (offB p g l) (List.range l.length)
 have h1 := hf.off
 have h2 := hg.off
 unfold offL at h1 h2
 rw [List.length_range] at hc
 have := eq_roots (m := d + 1) hp hf.lt hg.lt hf.len hg.len (px_nodup hl fun i => !offB p f l i && !offB p g l i) (fun x hx => by
   obtain ⟨i, _, rfl⟩ := List.mem_map.1 hx; exact px_lt (by omega) hl i) (by rw [List.length_map]; omega) (fun x hx => by
   obtain ⟨i, hi, rfl⟩ := List.mem_map.1 hx
   have := (List.mem_filter.1 hi).2
   simp at this
   rw [off_false (by omega) this.1, off_false (by omega) this.2])
 rwa [hf.tidy, hg.tidy] at this
def mlin (p z : Nat) : Nat → List Nat → List Nat
 | a, [] => [a]
 | a, c :: f => fsub p a (fmul p z c) :: mlin p z c f
theorem mlin_eval {p z : Nat} [NeZero p] (hp : 0 < p) (x : Fin p) : ∀ (f : List Nat) (a : Nat), pv p (mlin p z a f) x = cz p a + pv p f x * (x - cz p z)
 | [], a => by rw [mlin, pv_cons, pv_nil]; grind
 | c :: f, a => by rw [mlin, pv_cons, mlin_eval hp x f c, pv_cons, cz_fsub (Nat.le_of_lt (fmul_lt hp _ _)), cz_fmul]; grind
theorem mlin_monic {p z : Nat} (hp : 0 < p) : ∀ (E : List Nat) (a : Nat), a < p → (∀ x ∈ E, x < p) → ∃ E', mlin p z a (E ++ [1]) = E' ++ [1] ∧ E'.length = E.length + 1 ∧ ∀ x ∈ E', x < p
 | [], a, ha, _ => ⟨[fsub p a (fmul p z 1)], rfl, rfl, fun x hx => by rw [List.mem_singleton.1 hx]; exact fsub_lt hp _ _⟩
 | c :: E, a, ha, hE => by
   obtain ⟨E', h1, h2, h3⟩ := mlin_monic (z := z) hp E c (hE c (List.mem_cons_self ..)) fun x hx => hE x (List.mem_cons_of_mem _ hx)
   refine ⟨fsub p a (fmul p z c) :: E', by rw [List.cons_append, mlin, h1]; rfl, by simp [h2], fun x hx => ?_⟩
   rcases List.mem_cons.1 hx with rfl | hx
   · exact fsub_lt hp _ _
   · exact h3 x hx
theorem monic_roots {p : Nat} [NeZero p] (hp : 0 < p) : ∀ (zs : List Nat), ∃ E : List Nat, E.length = zs.length ∧ (∀ x ∈ E, x < p) ∧ ∀ z ∈ zs, pv p (E ++ [1]) (cz p z) = 0
 | [] => ⟨[], rfl, fun x hx => (by cases hx), fun z hz => (by cases hz)⟩
 | z :: zs => by
   obtain ⟨E, h1, h2, h3⟩ := monic_roots hp zs
   obtain ⟨E', h4, h5, h6⟩ := mlin_monic (z := z) hp E 0 hp h2
   refine ⟨E', by rw [h5, h1]; rfl, h6, fun y hy => ?_⟩
   rw [← h4, mlin_eval hp, cz_zero]
   rcases List.mem_cons.1 hy with rfl | hy
   · grind
   · rw [h3 y hy]; grind
def rowA (p D : Nat) (l : List TPoint) (i k : Nat) : Nat := if k < D then fpow p (px l i) k else fsub p 0 (fmul p (py l i) (fpow p (px l i) (k - D)))
def rowB (p w : Nat) (l : List TPoint) (i : Nat) : Nat := fmul p (py l i) (fpow p (px l i) w)
theorem rowA_lt {p : Nat} (hp : 0 < p) (D : Nat) (l : List TPoint) (i k : Nat) : rowA p D l i k < p := by
 unfold rowA; split
 · exact fpow_lt hp _ _
 · exact fsub_lt hp _ _
theorem rowB_lt {p : Nat} (hp : 0 < p) (w : Nat) (l : List TPoint) (i : Nat) : rowB p w l i < p := fmul_lt hp _ _
section
variable {p : Nat} [NeZero p]
theorem S_split (g : Nat → Fin p) (a : Nat) : ∀ b, S g (a + b) = S g a + S (fun k => g (a + k)) b
 | 0 => by show S g a = S g a + 0; grind
 | b + 1 => by rw [← Nat.add_assoc, S, S_split g a b, S]; grind
theorem dev_row (hp : 0 < p) (D w : Nat) (l : List TPoint) (x : Nat → Fin p) (i : Nat) : dev (czM p (augM (D + w) (rowA p D l) (rowB p w l))) (D + w) x i =
   S (fun k => x k * cz p (px l i) ^ k) D - cz p (py l i) * (S (fun k => x (D + k) * cz p (px l i) ^ k) w + cz p (px l i) ^ w) := by
 unfold dev czM
 have e1 : S (fun k => cz p (augM (D + w) (rowA p D l) (rowB p w l) i k) * x k) (D + w) = S (fun k => cz p (rowA p D l i k) * x k) (D + w) := S_ext fun k hk => by unfold augM; rw [if_pos hk]
 have e2 : augM (D + w) (rowA p D l) (rowB p w l) i (D + w) = rowB p w l i := by unfold augM; rw [if_neg (by omega)]
 rw [e1, e2, S_split]
 have e3 : S (fun k => cz p (rowA p D l i k) * x k) D = S (fun k => x k * cz p (px l i) ^ k) D := S_ext fun k hk => by
   unfold rowA; rw [if_pos hk, cz_fpow]; grind
 have e4 : S (fun k => cz p (rowA p D l i (D + k)) * x (D + k)) w = S (fun k => (- cz p (py l i)) * (x (D + k) * cz p (px l i) ^ k)) w := S_ext fun k hk => by
   unfold rowA
   rw [if_neg (by omega), cz_fsub (Nat.le_of_lt (fmul_lt hp _ _)), cz_fmul, cz_fpow, cz_zero, show D + k - D = k by omega]; grind
 rw [e3, e4, S_mul]
 unfold rowB
 rw [cz_fmul, cz_fpow]; grind
theorem offs_sol {d w : Nat} (hp : isP p) {l : List TPoint} (hl : Pts p l) {f : List Nat} (hf : Dec p d w l f) : ∃ x, Solves p l.length (d + w + 1 + w) (augM (d + w + 1 + w) (rowA p (d + w + 1) l) (rowB p w l)) x := by
 have hp3 := hp.1
 obtain ⟨E, h1, h2, h3⟩ := monic_roots (p := p) (by omega) ((offL p f l).map (px l) ++ List.replicate (w - (offL p f l).length) 0)
 have hE : E.length = w := by rw [h1]; simp; have := hf.off; omega
 have hE1 : ∀ x ∈ E ++ [1], x < p := fun x hx => by
   rcases List.mem_append.1 hx with hx | hx
   · exact h2 x hx
   · rw [List.mem_singleton.1 hx]; omega
 have hQ := mulP_len (p := p) (by omega) f (E ++ [1])
 have hfl := hf.len
 simp only [List.length_append, List.length_singleton, hE] at hQ
 refine ⟨fun k => if k < d + w + 1 then cz p (zat (mulP p f (E ++ [1])) k) else cz p (zat E (k - (d + w + 1))), fun i hi => ?_⟩
 rw [dev_row (by omega)]
 have e1 : S (fun k => (if k < d + w + 1 then cz p (zat (mulP p f (E ++ [1])) k) else cz p (zat E (k - (d + w + 1)))) * cz p (px l i) ^ k) (d + w + 1) = pv p (mulP p f (E ++ [1])) (cz p (px l i)) := by
   rw [← pv_zat _ (show (mulP p f (E ++ [1])).length ≤ d + w + 1 by omega)]
   exact S_ext fun k hk => by rw [if_pos hk]
 have e2 : S (fun k => (if d + w + 1 + k < d + w + 1 then cz p (zat (mulP p f (E ++ [1])) (d + w + 1 + k)) else cz p (zat E (d + w + 1 + k - (d + w + 1)))) * cz p (px l i) ^ k) w + cz p (px l i) ^ w = pv p (E ++ [1]) (cz p (px l i)) := by
   rw [pv_append, ← pv_zat E (Nat.le_of_eq hE), hE, pv_cons, pv_nil, cz_one]
   have : S (fun k => (if d + w + 1 + k < d + w + 1 then cz p (zat (mulP p f (E ++ [1])) (d + w + 1 + k)) else cz p (zat E (d + w + 1 + k - (d + w + 1)))) * cz p (px l i) ^ k) w = S (fun k => cz p (zat E k) * cz p (px l i) ^ k) w := S_ext fun k hk => by rw [if_neg (by omega), show d + w + 1 + k - (d + w + 1) = k by omega]
   rw [this]; grind
 rw [e1, e2, mulP_eval (by omega)]
 cases h : offB p f l i with
 | false => rw [off_false (by omega) h]; grind
 | true =>
   have hz : pv p (E ++ [1]) (cz p (px l i)) = 0 := h3 _ (List.mem_append_left _ (List.mem_map.2 ⟨i, List.mem_filter.2 ⟨List.mem_range.2 hi, h⟩, rfl⟩))
   rw [hz]; grind
theorem pv_take {V : List Nat} {D : Nat} (x : Fin p) : S (fun k => cz p (zat V k) * x ^ k) D = pv p (V.take D) x := by
 rw [← pv_zat (V.take D) (n := D) (by simp; omega)]
 exact S_ext fun k hk => by unfold zat; rw [List.getElem?_take_of_lt hk]
theorem sol_prod {d w : Nat} (hp : isP p) {l : List TPoint} (hl : Pts p l) (hn : d + 1 + 2 * w ≤ l.length) {f : List Nat} (hf : Dec p d w l f) {V : List Nat} (hV : V.length = d + w + 1 + w) (hVp : ∀ a ∈ V, a < p)
   (hs : Solves p l.length (d + w + 1 + w) (augM (d + w + 1 + w) (rowA p (d + w + 1) l) (rowB p w l)) fun k => cz p (zat V k)) : short (V.take (d + w + 1)) = mulP p f (V.drop (d + w + 1) ++ [1]) := by
 have hp3 := hp.1
 have hc := cnt3 (offB p f l) (offB p f l) (List.range l.length)
 have h1 := hf.off
 have hfl := hf.len
 have hm := mulP_len (p := p) (by omega) f (V.drop (d + w + 1) ++ [1])
 simp only [List.length_append, List.length_drop, List.length_singleton, hV] at hm
 have hcnt : l.length - w ≤ ((List.range l.length).filter fun i => !offB p f l i).length := by
   have : ∀ (a : Nat → Bool) (L : List Nat), L.length ≤ (L.filter fun i => !a i).length + (L.filter a).length := fun a L => by
     induction L with
     | nil => simp
     | cons x L ih => simp only [List.filter_cons, List.length_cons]; cases a x <;> simp <;> omega
   have := this (offB p f l) (List.range l.length)
   rw [List.length_range] at this
   unfold offL at h1
   omega
 have := eq_roots (m := d + w + 1) (f := V.take (d + w + 1)) (g := mulP p f (V.drop (d + w + 1) ++ [1])) hp (fun a ha => hVp a (List.mem_of_mem_take ha)) (fun a ha => mulP_lt (by omega) ha) (by simp; omega) (by omega) (px_nodup hl fun i => !offB p f l i) (fun x hx => by
   obtain ⟨i, _, rfl⟩ := List.mem_map.1 hx; exact px_lt (by omega) hl i) (by rw [List.length_map]; omega) (fun x hx => by
   obtain ⟨i, hi, rfl⟩ := List.mem_map.1 hx
   have hi2 := List.mem_filter.1 hi
   have hr : offB p f l i = false := by simpa using hi2.2
   have := hs i (List.mem_range.1 hi2.1)
   rw [dev_row (by omega)] at this
   have e2 : S (fun k => cz p (zat V (d + w + 1 + k)) * cz p (px l i) ^ k) w + cz p (px l i) ^ w = pv p (V.drop (d + w + 1) ++ [1]) (cz p (px l i)) := by
     rw [pv_append, ← pv_zat (V.drop (d + w + 1)) (n := w) (by simp [hV]), pv_cons, pv_nil, cz_one, List.length_drop, hV, show d + w + 1 + w - (d + w + 1) = w by omega]
     have : S (fun k => cz p (zat (V.drop (d + w + 1)) k) * cz p (px l i) ^ k) w = S (fun k => cz p (zat V (d + w + 1 + k)) * cz p (px l i) ^ k) w := S_ext fun k hk => by unfold zat; rw [List.getElem?_drop]
     rw [this]; grind
   rw [pv_take, e2] at this
   rw [mulP_eval (by omega), off_false (by omega) hr]; grind)
 rw [this]
 exact short_short _
end
def dvK (f g : List Nat) : Nat := (short f).length - (short g).length + 1
def divQ (p : Nat) (f g : List Nat) : List Nat := if (short f).length < (short g).length then [] else short (tab (dvK f g) (dvQ p (short g) (finv p (zat (short g) ((short g).length - 1))) (dvK f g) (zat (short f))))
def divR (p : Nat) (f g : List Nat) : List Nat := if (short f).length < (short g).length then short f else short (tab (short f).length (dvR p (short g) (finv p (zat (short g) ((short g).length - 1))) (dvK f g) (zat (short f))))
theorem short_monic (E : List Nat) : short (E ++ [1]) = E ++ [1] := by
 unfold short
 rw [List.reverse_append, List.reverse_singleton, List.singleton_append, List.dropWhile_cons]
 simp
theorem finv_one {p : Nat} (hp : 2 < p) : finv p 1 = 1 := by unfold finv fpow; rw [Nat.one_pow, Nat.mod_eq_of_lt (by omega)]
theorem div_prod {p : Nat} (hp : isP p) {a f E : List Nat} (hf : ∀ x ∈ f, x < p) (hf1 : short f = f) (hE : ∀ x ∈ E, x < p) (ha : short a = mulP p f (E ++ [1])) : divQ p a (E ++ [1]) = f ∧ divR p a (E ++ [1]) = [] := by
 have hp3 := hp.1
 haveI : NeZero p := ⟨by omega⟩
 have hl : zat (E ++ [1]) ((E ++ [1]).length - 1) = 1 := by unfold zat; simp
 have hE1 : ∀ x ∈ E ++ [1], x < p := fun x hx => by
   rcases List.mem_append.1 hx with hx | hx
   · exact hE x hx
   · rw [List.mem_singleton.1 hx]; omega
 unfold divQ divR dvK
 rw [ha, short_monic, hl, finv_one (by omega)]
 by_cases h0 : f.length = 0
 · obtain rfl := List.eq_nil_of_length_eq_zero h0
   rw [mulP_nil]
   rw [if_pos (by simp), if_pos (by simp)]; exact ⟨rfl, rfl⟩
 have hlen := mulP_long hp hf hE1 (by omega) hf1 (by simp) (by rw [hl]; decide)
 have hgl : (E ++ [1]).length = E.length + 1 := by simp
 have hK : (mulP p f (E ++ [1])).length - (E ++ [1] : List Nat).length + 1 = f.length := by omega
 rw [if_neg (by omega), if_neg (by omega), hK]
 have hzs : ∀ j, cz p (zat (mulP p f (E ++ [1])) j) = S (fun a => cz p (cterm p f (E ++ [1]) a j)) f.length := fun j => by
   have hcv : cz p (cv p f (E ++ [1]) j) = S (fun a => cz p (cterm p f (E ++ [1]) a j)) f.length := by unfold cv; rw [S_psum]
   rw [← hcv]
   unfold mulP
   rw [zat_short, zat_tab]
   by_cases hj : j < f.length + (E ++ [1]).length
   · rw [if_pos hj]
   · rw [if_neg hj, cv_high (by omega) (by omega)]
 obtain ⟨h1, h2⟩ := dv_prod hp hf (g := E ++ [1]) (hd := 1) (by simp) (by rw [hl]; unfold fmul; rw [Nat.mod_eq_of_lt (by omega)]) f.length hzs
 constructor
 · rw [tab_ext h2, tab_zatf rfl, hf1]
 · have : ∀ j, j < (mulP p f (E ++ [1])).length → dvR p (E ++ [1]) 1 f.length (zat (mulP p f (E ++ [1]))) j = 0 := fun j _ => cz_inj (dvR_lt (by omega) _ (fun i => zat_lt (by omega) (fun x hx => mulP_lt (by omega) hx) i) j) (by omega) (by rw [h1, cz_zero])
   rw [tab_ext this, ← tab_rep]
   have := short_zeros [] (mulP p f (E ++ [1])).length
   rw [List.nil_append] at this
   rw [this]; rfl
theorem subw {a b : Nat} (h : b ≤ a) (ha : a < 4611686018427387904) : IntKind.i64.wrap ((a : Int) - (b : Int)) = ((a - b : Nat) : Int) := by rw [wi64 (by omega) (by omega)]; omega
theorem addw {a b : Nat} (h : a + b < 4611686018427387904) : IntKind.i64.wrap ((a : Int) + (b : Int)) = ((a + b : Nat) : Int) := by rw [wi64 (by omega) (by omega)]; omega
theorem subw1 {a : Nat} (h : 1 ≤ a) (ha : a < 4611686018427387904) : IntKind.i64.wrap ((a : Int) - 1) = ((a - 1 : Nat) : Int) := subw (b := 1) h ha
theorem addw1 {a : Nat} (h : a < 4611686018427387904) : IntKind.i64.wrap ((a : Int) + 1) = ((a + 1 : Nat) : Int) := wsucc (by omega)
theorem short_lt {p : Nat} {f : List Nat} (h : ∀ x ∈ f, x < p) : ∀ x ∈ short f, x < p := fun x hx => h x (short_mem hx)
theorem poly_Over_c {p : Nat} (hp : isP p) {f g : List Nat} (hf : ∀ x ∈ f, x < p) (hg : ∀ x ∈ g, x < p) (hfl : f.length ≤ 100000) (hgl : g.length ≤ 100000) (hg0 : 0 < (short g).length) {K : List Nat → List Nat → Prop} (k : K (divQ p f g) (divR p f g)) : poly_Over.C p f g K := by
 have hp3 := hp.1
 have hpp := hp.2.1
 refine poly_Over.q (poly_Short_c (by omega) (poly_Short_c (by omega) ?_))
 have hal := short_len f
 have hbl := short_len g
 have ha := short_lt hf
 have hb := short_lt hg
 unfold divQ divR dvK at k
 generalize short f = a at *
 generalize short g = b at *
 by_cases h0 : a.length < b.length
 · rw [if_pos h0, if_pos h0] at k
   exact ctd (by omega) k
 rw [if_neg h0, if_neg h0] at k
 refine cfd (by omega) ?_
 obtain ⟨y, hy⟩ := get_some (show b.length - 1 < b.length by omega)
 rw [subw (by omega) (by omega), addw1 (by omega), subw1 (by omega) (by omega), toNat_c]
 rw [zat_get hy] at k
 have hyp := hb y (mem_get hy)
 have hhd := finv_lt (p := p) (by omega) y
 have hL : a.length - b.length + 1 + b.length = a.length + 1 := by omega
 refine ⟨MakeOk.of (by omega) (by omega), by omega, by omega, y, hy, field_Over_c (by omega) hpp hyp ?_⟩
 generalize a.length - b.length + 1 = n at *
 generalize finv p y = hd at *
 rw [subw1 (by omega) (by omega), tab_rep]
 refine LoopQ.upto n (fun m t => ∃ F : Nat → Nat, (∀ j, F j < p) ∧ t = ((n : Int) - 1 - m, tab a.length F, tab n fun j => if n - m ≤ j then dvQ p b hd n (zat a) j else 0) ∧ dvR p b hd (n - m) F = dvR p b hd n (zat a) ∧ ∀ j, j < n - m → dvQ p b hd (n - m) F j = dvQ p b hd n (zat a) j) ⟨zat a, zat_lt (by omega) ha, ?_, rfl, fun j _ => rfl⟩ ?_
 · refine Prod.ext_iff.2 ⟨by dsimp only; omega, Prod.ext_iff.2 ⟨(tab_zatf rfl).symm, ?_⟩⟩
   exact tab_ext fun j hj => by rw [if_neg (by omega)]
 rintro m _ next hm ⟨F, hF, rfl, hR, hQ⟩ hnx
 dsimp only
 by_cases hmn : m < n
 · obtain ⟨q, hq⟩ : ∃ q, n - m = q + 1 := ⟨n - m - 1, by omega⟩
   rw [hq] at hR hQ
   have e1 : (n : Int) - 1 - m = (q : Int) := by omega
   rw [e1, addw (by omega), subw1 (by omega) (by omega)]
   refine ctd (by omega) ⟨by omega, by omega, _, tab_get F (show q + b.length - 1 < a.length by omega), field_Times_c (by omega) hpp (hF _) hhd ⟨by omega, by omega, ?_⟩⟩
   refine LoopQ.rangeS b.length (fun i s => s = tab a.length fun j => if q ≤ j ∧ j - q < i then dvS p b (dvC p b hd q F) q F j else F j) (tab_ext fun j _ => by rw [if_neg (by omega)]) (by omega) ?_ ?_
   · rintro i _ next2 hi rfl hnx2
     dsimp only
     obtain ⟨z, hz⟩ := get_some hi
     have g1 := tab_get (n := a.length) (i := q + i) (fun j => if q ≤ j ∧ j - q < i then dvS p b (dvC p b hd q F) q F j else F j) (by omega)
     rw [if_neg (by omega)] at g1
     rw [addw (by omega)]
     refine ctd (by omega) ⟨by omega, by omega, z, hz, by omega, by omega, _, g1, field_Times_c (by omega) hpp (fmul_lt (by omega) _ _) (hb z (mem_get hz)) (field_Minus_c (by omega) hpp (hF _) (fmul_lt (by omega) _ _) ⟨by omega, by omega, hnx2 _ ?_⟩)⟩
     simp only [toNat_c]
     rw [tab_set]
     refine tab_ext fun j _ => ?_
     by_cases hj : j = q + i
     · subst hj
       rw [if_pos rfl, if_pos (by omega)]
       unfold dvS
       rw [if_pos (by omega), show q + i - q = i by omega, zat_get hz]; rfl
     · rw [if_neg hj]
       by_cases h2 : q ≤ j ∧ j - q < i
       · rw [if_pos h2, if_pos (by omega)]
       · rw [if_neg h2, if_neg (by omega)]
   · rintro _ next2 rfl
     refine cfd (by dsimp only; omega) (hnx hmn _ ⟨dvS p b (dvC p b hd q F) q F, dvS_lt (by omega) hF, ?_, ?_, ?_⟩)
     · dsimp only
       refine Prod.ext_iff.2 ⟨by dsimp only; rw [wi64 (by omega) (by omega)]; omega, Prod.ext_iff.2 ⟨?_, ?_⟩⟩
       · refine tab_ext fun j _ => ?_
         by_cases h2 : q ≤ j ∧ j - q < b.length
         · rw [if_pos h2]
         · rw [if_neg h2]; unfold dvS; rw [if_neg h2]
       · simp only [toNat_c]
         rw [tab_set]
         refine tab_ext fun j _ => ?_
         by_cases hj : j = q
         · subst hj
           rw [if_pos rfl, if_pos (by omega), ← hQ j (by omega), dvQ, if_pos rfl]; rfl
         · rw [if_neg hj, hq]
           by_cases h2 : q + 1 ≤ j
           · rw [if_pos h2, if_pos (by omega)]
           · rw [if_neg h2, if_neg (by omega)]
     · rw [show n - (m + 1) = q by omega, ← hR]; rfl
     · intro j hj
       rw [show n - (m + 1) = q by omega] at hj ⊢
       rw [← hQ j (by omega), dvQ, if_neg (by omega)]
 · obtain rfl : m = n := by omega
   rw [Nat.sub_self] at hR
   refine cfd (by omega) (poly_Short_c (by rw [tab_len]; omega) (poly_Short_c (by rw [tab_len]; omega) ?_))
   have e1 : (tab m fun j => if m - m ≤ j then dvQ p b hd m (zat a) j else 0) = tab m (dvQ p b hd m (zat a)) := tab_ext fun j _ => by rw [if_pos (by omega)]
   have e2 : F = dvR p b hd m (zat a) := hR
   rw [e1, e2]; exact k
end Go.Proofs.Ytajdpkinlnaidaa.Pl
end
section
set_option linter.unusedVariables false
set_option linter.unusedSimpArgs false
set_option maxRecDepth 100000
set_option maxHeartbeats 8000000
namespace Go.Proofs.Ytajdpkinlnaidaa.Sh
open Go.Sx
def share_Corrupted.A : Ann where
 loops := fun i => match i with
   | 32781 => [(6, .int .i64), (21, .int .i64)]
   | _ => []
 plans := fun i => match i with
   | _ => .stop
def share_Corrupted.W (s_0 : Int) (s_1 : Int) (s_2 : Int) (lA : Option Addr) (ln lc : Nat) (H : Heap) (R : Value → Heap → Prop) : Prop :=
 NewH (H.push (.cells #[.int .u64 s_0, .int .i64 s_1, .int .i64 s_2] 24 (0, 0))) fun H_ =>
 ∃ x0 : Int, ∃ x1 : Int, ∃ x2 : Int, cellH H_ (Addr.mk H.size 0 none) = some (.int .u64 x0) ∧ cellH H_ (((Addr.mk H.size 0 none)).add 1) = some (.int .i64 x1) ∧ cellH H_ (((Addr.mk H.size 0 none)).add 2) = some (.int .i64 x2) ∧ CallH P N.share_Setup [.agg #[.int .u64 x0, .int .i64 x1, .int .i64 x2]] H_ fun v H_2 =>
 ∃ r : Int, v = .int .i64 r ∧ cond (r != 0) (R (.int .i64 r) H_2)
  (∃ x : Int, cellH H_2 (((Addr.mk H.size 0 none)).add 2) = some (.int .i64 x) ∧ cond (decide (((ln : Nat) : Int) > x)) (R (.int .i64 2) H_2)
  (LoopI (σ := Int × Int) (fun κ => κ (0, 0) H_2) fun s z H_3 next =>
 cond (decide (s.2 < ((ln : Nat) : Int))) (∃ a : Addr, lA = some a ∧ 0 ≤ s.2 ∧ s.2 < ((ln : Nat) : Int) ∧ ∃ x3 : Int, cellH H_3 (a.add (Int.toNat s.2)) = some (.int .i64 x3) ∧ cond (decide (x3 ≤ s.1)) (R (.int .i64 2) H_3) (∃ x4 : Int, cellH H_3 (((Addr.mk H.size 0 none)).add 1) = some (.int .i64 x4) ∧ cond (decide (x3 > x4)) (R (.int .i64 2) H_3)
  (next (x3, IntKind.i64.wrap (s.2 + 1)) H_3)))
  (R (.int .i64 0) H_3)))
theorem share_Corrupted.ok (s_0 : Int) (s_1 : Int) (s_2 : Int) (lA : Option Addr) (ln lc : Nat) (H : Heap) (R : Value → Heap → Prop) (h : share_Corrupted.W s_0 s_1 s_2 lA ln lc H R) : CallH P N.share_Corrupted [.agg #[.int .u64 s_0, .int .i64 s_1, .int .i64 s_2], .slice lA ln lc] H R :=
 okW Try.func36 (by kernel_rfl) Try.ntmps36 share_Corrupted.A (by kernel_rfl) (by kernel_rfl) h
def share_Setup.A : Ann where
 loops := fun i => match i with
   | _ => []
 plans := fun i => match i with
   | _ => .stop
def share_Setup.W (s_0 : Int) (s_1 : Int) (s_2 : Int) (H : Heap) (R : Value → Heap → Prop) : Prop :=
 NewH (H.push (.cells #[.int .u64 s_0, .int .i64 s_1, .int .i64 s_2] 24 (0, 0))) fun H_ =>
 ∃ x : Int, cellH H_ (Addr.mk H.size 0 none) = some (.int .u64 x) ∧ CallH P N.field_Is [.int .u64 x] H_ fun v H_2 =>
 ∃ r : Bool, v = .bool r ∧ cond (!r) (R (.int .i64 2) H_2) (∃ x2 : Int, cellH H_2 (((Addr.mk H.size 0 none)).add 1) = some (.int .i64 x2) ∧ cond (decide (x2 < 1)) (R (.int .i64 2) H_2) (∃ x3 : Int, cellH H_2 (((Addr.mk H.size 0 none)).add 1) = some (.int .i64 x3) ∧ cond (decide (x3 > 13)) (R (.int .i64 2) H_2) (∃ x4 : Int, cellH H_2 (((Addr.mk H.size 0 none)).add 2) = some (.int .i64 x4) ∧ cond (decide (x4 < 0)) (R (.int .i64 2) H_2) (∃ x5 : Int, cellH H_2 (((Addr.mk H.size 0 none)).add 2) = some (.int .i64 x5) ∧ ∃ x6 : Int, cellH H_2 (((Addr.mk H.size 0 none)).add 1) = some (.int .i64 x6) ∧ cond (decide (x5 > x6)) (R (.int .i64 2) H_2) (∃ x7 : Int, cellH H_2 (((Addr.mk H.size 0 none)).add 2) = some (.int .i64 x7) ∧ ∃ x8 : Int, cellH H_2 (((Addr.mk H.size 0 none)).add 1) = some (.int .i64 x8) ∧ cond (decide ((IntKind.i64.wrap ((IntKind.i64.wrap (4 * x7)) + 1)) > x8)) (R (.int .i64 2) H_2) (∃ x9 : Int, cellH H_2 (Addr.mk H.size 0 none) = some (.int .u64 x9) ∧ ∃ x10 : Int, cellH H_2 (((Addr.mk H.size 0 none)).add 1) = some (.int .i64 x10) ∧ cond (decide (x9 ≤ (IntKind.u64.wrap x10))) (R (.int .i64 2) H_2)
  (R (.int .i64 0) H_2)))))))
theorem share_Setup.ok (s_0 : Int) (s_1 : Int) (s_2 : Int) (H : Heap) (R : Value → Heap → Prop) (h : share_Setup.W s_0 s_1 s_2 H R) : CallH P N.share_Setup [.agg #[.int .u64 s_0, .int .i64 s_1, .int .i64 s_2]] H R :=
 okW Try.func38 (by kernel_rfl) Try.ntmps38 share_Setup.A (by kernel_rfl) (by kernel_rfl) h
end Go.Proofs.Ytajdpkinlnaidaa.Sh
namespace Go.Proofs.Ytajdpkinlnaidaa.Sh
open Go.Sx Go.Lf
def share_Setup.C (s : TSetup) (K : Int → Prop) : Prop :=
 ∀ (Z : Nat → Prop) (H : Heap), ∀ (sv : Int), sv = (s.P : Int) → ∀ KK : Value → Heap → Prop,
   (∀ (Z' : Nat → Prop) (H' : Heap), Ext H H' → Old Z H Z' → ∀ (r0 : Int), K r0 → KK (.int .i64 r0) H') →
   CallH P N.share_Setup [.agg #[.int .u64 sv, .int .i64 s.N, .int .i64 s.T_]] H KK
def share_Setup.Q (s : TSetup) (K : Int → Prop) : Prop :=
 field_Is.C s.P (fun (x : Bool) =>
 cond (!x) (K 2)
  (cond (decide (s.N < 1)) (K 2)
  (cond (decide (s.N > 13)) (K 2)
  (cond (decide (s.T_ < 0)) (K 2)
  (cond (decide (s.T_ > s.N)) (K 2)
  (cond (decide ((IntKind.i64.wrap ((IntKind.i64.wrap (4 * s.T_)) + 1)) > s.N)) (K 2)
  (cond (decide ((s.P : Int) ≤ (IntKind.u64.wrap s.N))) (K 2)
  (K 0))))))))
theorem share_Setup.q {s : TSetup} {K : Int → Prop} (q : share_Setup.Q s K) : share_Setup.C s K := by
 intro Z H sv he KK hk; cases he; apply share_Setup.ok; unfold share_Setup.W; unfold share_Setup.Q at q; obtain ⟨σ, hz, hσ⟩ := tags Z; have hs : Stp ([] : List Nat) σ H σ H := Stp.refl _ _ _; clear hz; refine NewH.mk fun H_ e => ?_; obtain ⟨xσ, st, b⟩ := BoxF.new σ 0 e; refine ⟨_, b.cell0, ?_⟩; refine q (Zt xσ) H_ _ rfl _ (fun Z2 H_2 hE hO x q => ?_); obtain ⟨xσ2, st2⟩ := call0 hE xσ; refine ⟨_, rfl, ?_⟩; refine condI (fun q => ?_) (fun q => ?_) q
 · replace hs := hs.trans (st.then st2); exact hk (Zt xσ2) _ (hs.ext hσ) (hs.old hσ) _ q
 replace b := b.step st2; refine ⟨_, b.cell 1 rfl, ?_⟩; refine condI (fun q => ?_) (fun q => ?_) q
 · replace hs := hs.trans (st.then st2); exact hk (Zt xσ2) _ (hs.ext hσ) (hs.old hσ) _ q
 refine ⟨_, b.cell 1 rfl, ?_⟩; refine condI (fun q => ?_) (fun q => ?_) q
 · replace hs := hs.trans (st.then st2); exact hk (Zt xσ2) _ (hs.ext hσ) (hs.old hσ) _ q
 refine ⟨_, b.cell 2 rfl, ?_⟩; refine condI (fun q => ?_) (fun q => ?_) q
 · replace hs := hs.trans (st.then st2); exact hk (Zt xσ2) _ (hs.ext hσ) (hs.old hσ) _ q
 refine ⟨_, b.cell 2 rfl, ?_⟩; refine ⟨_, b.cell 1 rfl, ?_⟩; refine condI (fun q => ?_) (fun q => ?_) q
 · replace hs := hs.trans (st.then st2); exact hk (Zt xσ2) _ (hs.ext hσ) (hs.old hσ) _ q
 refine ⟨_, b.cell 2 rfl, ?_⟩; refine ⟨_, b.cell 1 rfl, ?_⟩; refine condI (fun q => ?_) (fun q => ?_) q
 · replace hs := hs.trans (st.then st2); exact hk (Zt xσ2) _ (hs.ext hσ) (hs.old hσ) _ q
 refine ⟨_, b.cell0, ?_⟩; refine ⟨_, b.cell 1 rfl, ?_⟩; refine condI (fun q => ?_) (fun q => ?_) q
 · replace hs := hs.trans (st.then st2); exact hk (Zt xσ2) _ (hs.ext hσ) (hs.old hσ) _ q
 replace hs := hs.trans (st.then st2); exact hk (Zt xσ2) _ (hs.ext hσ) (hs.old hσ) _ q
def share_Corrupted.C (s : TSetup) (l : (List Int)) (K : Int → Prop) : Prop :=
 ∀ (Z : Nat → Prop) (H : Heap), ∀ (sv : Int), sv = (s.P : Int) → ∀ (lA : Option Addr) (ln lc : Nat), ln = l.length → SlF i64L Z H lA lc l → ∀ KK : Value → Heap → Prop,
   (∀ (Z' : Nat → Prop) (H' : Heap), Ext H H' → Old Z H Z' → ∀ (r0 : Int), K r0 → KK (.int .i64 r0) H') →
   CallH P N.share_Corrupted [.agg #[.int .u64 sv, .int .i64 s.N, .int .i64 s.T_], .slice lA ln lc] H KK
def share_Corrupted.Q (s : TSetup) (l : (List Int)) (K : Int → Prop) : Prop :=
 share_Setup.C s (fun (x : Int) =>
 cond (x != 0) (K x)
  (cond (decide (((l.length : Nat) : Int) > s.T_)) (K 2)
  (LoopQ (τ := Int × Int) (0, 0) fun t nextQ =>
 cond (decide (t.2 < ((l.length : Nat) : Int))) (0 ≤ t.2 ∧ ∃ x2 : Int, l[Int.toNat t.2]? = some x2 ∧ cond (decide (x2 ≤ t.1)) (K 2)
  (cond (decide (x2 > s.N)) (K 2)
  (nextQ (x2, IntKind.i64.wrap (t.2 + 1)))))
  (K 0))))
theorem share_Corrupted.q {s : TSetup} {l : (List Int)} {K : Int → Prop} (q : share_Corrupted.Q s l K) : share_Corrupted.C s l K := by
 intro Z H sv he lA ln lc hn f KK hk; cases he; cases hn; apply share_Corrupted.ok; unfold share_Corrupted.W; unfold share_Corrupted.Q at q; obtain ⟨σ, hz, hσ⟩ := tags Z; have hs : Stp ([] : List Nat) σ H σ H := Stp.refl _ _ _; replace f := f.wide hz; clear hz; refine NewH.mk fun H_ e => ?_; obtain ⟨xσ, st, b⟩ := BoxF.new σ 0 e; refine ⟨_, _, _, b.cell0, b.cell 1 rfl, b.cell 2 rfl, ?_⟩; refine q (Zt xσ) H_ _ rfl _ (fun Z2 H_2 hE hO x q => ?_); obtain ⟨xσ2, st2⟩ := call0 hE xσ; refine ⟨_, rfl, ?_⟩; refine condI (fun q => ?_) (fun q => ?_) q
 · replace hs := hs.trans (st.then st2); exact hk (Zt xσ2) _ (hs.ext hσ) (hs.old hσ) _ q
 replace b := b.step st2; refine ⟨_, b.cell 2 rfl, ?_⟩; refine condI (fun q => ?_) (fun q => ?_) q
 · replace hs := hs.trans (st.then st2); exact hk (Zt xσ2) _ (hs.ext hσ) (hs.old hσ) _ q
 refine LoopI.ofQ q (fun t_ s_ hp_ => ∃ σ_, Stp [] xσ2 H_2 σ_ hp_ ∧ (t_.1, t_.2) = s_) (fun h k => h _ _ k) ⟨_, Stp.refl _ _ _, rfl⟩ ?_; rintro t _ _ H_3 next nextQ ⟨xσ3, st3, rfl⟩ q hnext; (try dsimp only at q ⊢); have sl0 := st3; refine condJ (fun q => ?_) (fun q => ?_) q
 · replace hs := hs.trans (st.then (st2.then st3)); exact hk (Zt xσ3) _ (hs.ext hσ) (hs.old hσ) _ q
 obtain ⟨h0, x2, hx, q⟩ := q; replace f := f.step (st.then (st2.then st3)); obtain ⟨a, ha, hi⟩ := f.addr h0 hx rfl; refine ⟨a, ha, hi.1, hi.2, ?_⟩; have hc := f.ldi ha h0 hx; refine ⟨_, hc.val, ?_⟩; refine condI (fun q => ?_) (fun q => ?_) q
 · replace hs := hs.trans (st.then (st2.then st3)); exact hk (Zt xσ3) _ (hs.ext hσ) (hs.old hσ) _ q
 replace b := b.step st3; refine ⟨_, b.cell 1 rfl, ?_⟩; refine condI (fun q => ?_) (fun q => ?_) q
 · replace hs := hs.trans (st.then (st2.then st3)); exact hk (Zt xσ3) _ (hs.ext hσ) (hs.old hσ) _ q
 exact hnext (x2, IntKind.i64.wrap (t.2 + 1)) _ _ ⟨_, sl0, rfl⟩ q
end Go.Proofs.Ytajdpkinlnaidaa.Sh
end
