import Derived.Test.YtpfpnkaeoedeiaaSB
namespace Go.Lf
end Go.Lf
namespace Go.Proofs.Ytpfpnkaeoedeiaa.Back
end Go.Proofs.Ytpfpnkaeoedeiaa.Back
namespace Go.Proofs.Ytpfpnkaeoedeiaa.Pl
end Go.Proofs.Ytpfpnkaeoedeiaa.Pl
namespace Go.Proofs.Ytpfpnkaeoedeiaa.Sh
end Go.Proofs.Ytpfpnkaeoedeiaa.Sh
namespace Go.Proofs.Ytpfpnkaeoedeiaa.Sp
end Go.Proofs.Ytpfpnkaeoedeiaa.Sp
namespace Go.Sx
end Go.Sx
section
set_option linter.unusedVariables false
set_option linter.unusedSimpArgs false
set_option maxRecDepth 100000
set_option maxHeartbeats 8000000
namespace Go.Proofs.Ytpfpnkaeoedeiaa.Sh
open Go.Sx
def juntoref17_Copy.A : Ann where
 loops := fun i => match i with
   | 12294 => [(3, .slice), (8, .int .i64)]
   | _ => []
 plans := fun i => match i with
   | _ => .stop
def juntoref17_Check.A : Ann where
 loops := fun i => match i with
   | 36881 => [(38, .int .i64)]
   | _ => []
 plans := fun i => match i with
   | 15 => .first 0 (.first 2 (.read 1 (.first 3 (.read 4 (.alt 5 [1, 4] (.done) (.stop))))))
   | _ => .stop
def juntoref17_Check.W (w_0 : Int) (w_1 : Int) (w_2 : Int) (w_3A : Option Addr) (w_3n w_3c : Nat) (w_4A : Option Addr) (w_4n w_4c : Nat) (w_5A : Option Addr) (w_5n w_5c : Nat) (w_6 : Int) (w_7A : Option Addr) (w_7n w_7c : Nat) (H : Heap) (R : Value → Heap → Prop) : Prop :=
 NewH (H.push (.cells #[.int .u64 w_0, .int .i64 w_1, .int .i64 w_2, .slice w_3A w_3n w_3c, .slice w_4A w_4n w_4c, .slice w_5A w_5n w_5c, .int .i64 w_6, .slice w_7A w_7n w_7c] 30 (0, 0))) fun H_ =>
 ∃ x0 : Int, ∃ x1 : Int, ∃ x2 : Int, cellH H_ (Addr.mk H.size 0 none) = some (.int .u64 x0) ∧ cellH H_ (((Addr.mk H.size 0 none)).add 1) = some (.int .i64 x1) ∧ cellH H_ (((Addr.mk H.size 0 none)).add 2) = some (.int .i64 x2) ∧ ∃ (xA : Option Addr) (xn xc : Nat), cellH H_ (((Addr.mk H.size 0 none)).add 3) = some (.slice xA xn xc) ∧ CallH P N.juntoref04_Corrupted [.agg #[.int .u64 x0, .int .i64 x1, .int .i64 x2], .slice xA xn xc] H_ fun v H_2 =>
 ∃ r : Int, v = .int .i64 r ∧ cond (r != 0) (R (.int .i64 r) H_2)
  (∃ (xA2 : Option Addr) (xn2 xc2 : Nat), cellH H_2 (((Addr.mk H.size 0 none)).add 5) = some (.slice xA2 xn2 xc2) ∧ ∃ x : Int, cellH H_2 (((Addr.mk H.size 0 none)).add 1) = some (.int .i64 x) ∧ cond (((xn2 : Nat) : Int) != x) (R (.int .i64 2) H_2) (∃ x3 : Int, cellH H_2 (((Addr.mk H.size 0 none)).add 6) = some (.int .i64 x3) ∧ cond (decide (x3 < 0)) (R (.int .i64 2) H_2) (∃ x4 : Int, cellH H_2 (((Addr.mk H.size 0 none)).add 6) = some (.int .i64 x4) ∧ cond (decide (x4 > 1048576)) (R (.int .i64 2) H_2)
  (∃ (xA3 : Option Addr) (xn3 xc3 : Nat), cellH H_2 (((Addr.mk H.size 0 none)).add 4) = some (.slice xA3 xn3 xc3) ∧ cond (decide (((xn3 : Nat) : Int) > 65536)) (R (.int .i64 3) H_2)
  (∃ (xA4 : Option Addr) (xn4 xc4 : Nat), cellH H_2 (((Addr.mk H.size 0 none)).add 4) = some (.slice xA4 xn4 xc4) ∧ LoopI (σ := Int) (fun κ => κ 0 H_2) fun s z H_3 next =>
 cond (decide (s < ((xn4 : Nat) : Int))) (∃ a : Addr, xA4 = some a ∧ 0 ≤ s ∧ s < ((xn4 : Nat) : Int) ∧ ∃ x02 : Int, ∃ x12 : Int, ∃ x22 : Int, ∃ x32 : Bool, ∃ (x4A : Option Addr) (x4n x4c : Nat), cellH H_3 (a.add ((Int.toNat s) * 5)) = some (.int .i64 x02) ∧ cellH H_3 ((a.add ((Int.toNat s) * 5)).add 1) = some (.int .i64 x12) ∧ cellH H_3 ((a.add ((Int.toNat s) * 5)).add 2) = some (.int .i64 x22) ∧ cellH H_3 ((a.add ((Int.toNat s) * 5)).add 3) = some (.bool x32) ∧ cellH H_3 ((a.add ((Int.toNat s) * 5)).add 4) = some (.slice x4A x4n x4c) ∧ NewH (H_3.push (.cells #[.int .i64 0, .int .i64 0, .int .i64 0, .bool false, .slice none 0 0] 60 (0, 0))) fun H_4 =>
 MayWrite H_4 (Addr.mk H_3.size 0 none) 5 ∧ NewH (setH (setH (setH (setH (setH H_4 (Addr.mk H_3.size 0 none) (.int .i64 x02)) (((Addr.mk H_3.size 0 none)).add 1) (.int .i64 x12)) (((Addr.mk H_3.size 0 none)).add 2) (.int .i64 x22)) (((Addr.mk H_3.size 0 none)).add 3) (.bool x32)) (((Addr.mk H_3.size 0 none)).add 4) (.slice x4A x4n x4c)) fun H_5 =>
 ∃ (xA5 : Option Addr) (xn5 xc5 : Nat), cellH H_5 (((Addr.mk H.size 0 none)).add 3) = some (.slice xA5 xn5 xc5) ∧ ∃ x5 : Int, cellH H_5 (((Addr.mk H_3.size 0 none)).add 1) = some (.int .i64 x5) ∧ CallH P N.juntoref17_Is [.slice xA5 xn5 xc5, .int .i64 x5] H_5 fun v2 H_6 =>
 ∃ r2 : Bool, v2 = .bool r2 ∧ cond (!r2) (R (.int .i64 2) H_6) (∃ x6 : Int, cellH H_6 (((Addr.mk H_3.size 0 none)).add 2) = some (.int .i64 x6) ∧ cond (decide (x6 < 0)) (R (.int .i64 2) H_6) (∃ x7 : Int, cellH H_6 (((Addr.mk H_3.size 0 none)).add 2) = some (.int .i64 x7) ∧ ∃ x8 : Int, cellH H_6 (((Addr.mk H.size 0 none)).add 1) = some (.int .i64 x8) ∧ cond (decide (x7 > x8)) (R (.int .i64 2) H_6) (∃ x9 : Int, cellH H_6 (((Addr.mk H_3.size 0 none)).add 2) = some (.int .i64 x9) ∧ ∃ x10 : Int, cellH H_6 (((Addr.mk H_3.size 0 none)).add 1) = some (.int .i64 x10) ∧ cond (x9 == x10) (R (.int .i64 2) H_6) (∃ x11 : Int, cellH H_6 (Addr.mk H_3.size 0 none) = some (.int .i64 x11) ∧ cond (decide (x11 < 1)) (R (.int .i64 2) H_6)
  (∃ (xA6 : Option Addr) (xn6 xc6 : Nat), cellH H_6 (((Addr.mk H_3.size 0 none)).add 4) = some (.slice xA6 xn6 xc6) ∧ cond (decide (((xn6 : Nat) : Int) > 65536)) (R (.int .i64 3) H_6)
  (∃ (xA7 : Option Addr) (xn7 xc7 : Nat), cellH H_6 (((Addr.mk H.size 0 none)).add 4) = some (.slice xA7 xn7 xc7) ∧ 0 ≤ s ∧ s ≤ ((xc7 : Nat) : Int) ∧ ∃ x03 : Int, ∃ x13 : Int, ∃ x23 : Int, ∃ x33 : Bool, ∃ (x4A2 : Option Addr) (x4n2 x4c2 : Nat), cellH H_6 (Addr.mk H_3.size 0 none) = some (.int .i64 x03) ∧ cellH H_6 (((Addr.mk H_3.size 0 none)).add 1) = some (.int .i64 x13) ∧ cellH H_6 (((Addr.mk H_3.size 0 none)).add 2) = some (.int .i64 x23) ∧ cellH H_6 (((Addr.mk H_3.size 0 none)).add 3) = some (.bool x33) ∧ cellH H_6 (((Addr.mk H_3.size 0 none)).add 4) = some (.slice x4A2 x4n2 x4c2) ∧ CallH P N.juntoref17_Ahead [.slice xA7 (Int.toNat s) xc7, .agg #[.int .i64 x03, .int .i64 x13, .int .i64 x23, .bool x33, .slice x4A2 x4n2 x4c2]] H_6 fun v3 H_7 =>
 ∃ r3 : Bool, v3 = .bool r3 ∧ cond r3 (R (.int .i64 6) H_7)
  (next (IntKind.i64.wrap (s + 1)) H_7))))))))
  (R (.int .i64 0) H_3))))))
theorem juntoref17_Check.ok (w_0 : Int) (w_1 : Int) (w_2 : Int) (w_3A : Option Addr) (w_3n w_3c : Nat) (w_4A : Option Addr) (w_4n w_4c : Nat) (w_5A : Option Addr) (w_5n w_5c : Nat) (w_6 : Int) (w_7A : Option Addr) (w_7n w_7c : Nat) (H : Heap) (R : Value → Heap → Prop) (h : juntoref17_Check.W w_0 w_1 w_2 w_3A w_3n w_3c w_4A w_4n w_4c w_5A w_5n w_5c w_6 w_7A w_7n w_7c H R) : CallH P N.juntoref17_Check [.agg #[.int .u64 w_0, .int .i64 w_1, .int .i64 w_2, .slice w_3A w_3n w_3c, .slice w_4A w_4n w_4c, .slice w_5A w_5n w_5c, .int .i64 w_6, .slice w_7A w_7n w_7c]] H R :=
 okW Try.func11 (by kernel_rfl) Try.ntmps11 juntoref17_Check.A (by kernel_rfl) (by kernel_rfl) h
def juntoref17_Same.A : Ann where
 loops := fun i => match i with
   | 16393 => [(48, .int .i64)]
   | _ => []
 plans := fun i => match i with
   | 6 => .first 0 (.first 2 (.first 5 (.first 7 (.read 1 (.first 3 (.read 4 (.read 6 (.first 8 (.read 9 (.alt 10 [] (.alt 11 [] (.alt 12 [1, 4] (.alt 13 [6, 9] (.done) (.stop)) (.stop)) (.stop)) (.alt 11 [] (.alt 10 [] (.alt 12 [1, 4] (.alt 13 [6, 9] (.done) (.stop)) (.stop)) (.stop)) (.stop))))))))))))
   | _ => .stop
def juntoref17_Same.W (a_0 : Int) (a_1 : Int) (a_2 : Int) (a_3A : Option Addr) (a_3n a_3c : Nat) (a_4A : Option Addr) (a_4n a_4c : Nat) (a_5A : Option Addr) (a_5n a_5c : Nat) (a_6 : Int) (a_7A : Option Addr) (a_7n a_7c : Nat) (b_0 : Int) (b_1 : Int) (b_2 : Int) (b_3A : Option Addr) (b_3n b_3c : Nat) (b_4A : Option Addr) (b_4n b_4c : Nat) (b_5A : Option Addr) (b_5n b_5c : Nat) (b_6 : Int) (b_7A : Option Addr) (b_7n b_7c : Nat) (H : Heap) (R : Value → Heap → Prop) : Prop :=
 NewH (H.push (.cells #[.int .u64 a_0, .int .i64 a_1, .int .i64 a_2, .slice a_3A a_3n a_3c, .slice a_4A a_4n a_4c, .slice a_5A a_5n a_5c, .int .i64 a_6, .slice a_7A a_7n a_7c] 30 (0, 0))) fun H_ =>
 NewH (H_.push (.cells #[.int .u64 b_0, .int .i64 b_1, .int .i64 b_2, .slice b_3A b_3n b_3c, .slice b_4A b_4n b_4c, .slice b_5A b_5n b_5c, .int .i64 b_6, .slice b_7A b_7n b_7c] 30 (0, 0))) fun H_2 =>
 ∃ x0 : Int, ∃ x1 : Int, ∃ x2 : Int, cellH H_2 (Addr.mk H.size 0 none) = some (.int .u64 x0) ∧ cellH H_2 (((Addr.mk H.size 0 none)).add 1) = some (.int .i64 x1) ∧ cellH H_2 (((Addr.mk H.size 0 none)).add 2) = some (.int .i64 x2) ∧ ∃ x02 : Int, ∃ x12 : Int, ∃ x22 : Int, cellH H_2 (Addr.mk H_.size 0 none) = some (.int .u64 x02) ∧ cellH H_2 (((Addr.mk H_.size 0 none)).add 1) = some (.int .i64 x12) ∧ cellH H_2 (((Addr.mk H_.size 0 none)).add 2) = some (.int .i64 x22) ∧ ∃ b : Bool, EqAgg P .neq 24 (.agg #[.int .u64 x0, .int .i64 x1, .int .i64 x2]) (.agg #[.int .u64 x02, .int .i64 x12, .int .i64 x22]) b ∧ cond b (R (.bool false) H_2) (∃ (xA : Option Addr) (xn xc : Nat), cellH H_2 (((Addr.mk H.size 0 none)).add 3) = some (.slice xA xn xc) ∧ ∃ (xA2 : Option Addr) (xn2 xc2 : Nat), cellH H_2 (((Addr.mk H_.size 0 none)).add 3) = some (.slice xA2 xn2 xc2) ∧ CallH P N.juntoref17_SameInts [.slice xA xn xc, .slice xA2 xn2 xc2] H_2 fun v H_3 =>
 ∃ r : Bool, v = .bool r ∧ cond (!r) (R (.bool false) H_3) (∃ (xA3 : Option Addr) (xn3 xc3 : Nat), cellH H_3 (((Addr.mk H.size 0 none)).add 4) = some (.slice xA3 xn3 xc3) ∧ ∃ (xA4 : Option Addr) (xn4 xc4 : Nat), cellH H_3 (((Addr.mk H_.size 0 none)).add 4) = some (.slice xA4 xn4 xc4) ∧ cond (((xn3 : Nat) : Int) != ((xn4 : Nat) : Int)) (R (.bool false) H_3) (∃ (xA5 : Option Addr) (xn5 xc5 : Nat), cellH H_3 (((Addr.mk H.size 0 none)).add 5) = some (.slice xA5 xn5 xc5) ∧ ∃ (xA6 : Option Addr) (xn6 xc6 : Nat), cellH H_3 (((Addr.mk H_.size 0 none)).add 5) = some (.slice xA6 xn6 xc6) ∧ CallH P N.juntoref17_SamePayloads [.slice xA5 xn5 xc5, .slice xA6 xn6 xc6] H_3 fun v2 H_4 =>
 ∃ r2 : Bool, v2 = .bool r2 ∧ cond (!r2) (R (.bool false) H_4) (∃ x : Int, cellH H_4 (((Addr.mk H.size 0 none)).add 6) = some (.int .i64 x) ∧ ∃ x3 : Int, cellH H_4 (((Addr.mk H_.size 0 none)).add 6) = some (.int .i64 x3) ∧ cond (x != x3) (R (.bool false) H_4)
  (∃ (xA7 : Option Addr) (xn7 xc7 : Nat), cellH H_4 (((Addr.mk H.size 0 none)).add 4) = some (.slice xA7 xn7 xc7) ∧ LoopI (σ := Int) (fun κ => κ 0 H_4) fun s z H_5 next =>
 cond (decide (s < ((xn7 : Nat) : Int))) (∃ (xA8 : Option Addr) (xn8 xc8 : Nat), cellH H_5 (((Addr.mk H.size 0 none)).add 4) = some (.slice xA8 xn8 xc8) ∧ ∃ a : Addr, xA8 = some a ∧ 0 ≤ s ∧ s < ((xn8 : Nat) : Int) ∧ ∃ x03 : Int, ∃ x13 : Int, ∃ x23 : Int, ∃ x32 : Bool, ∃ (x4A : Option Addr) (x4n x4c : Nat), cellH H_5 (a.add ((Int.toNat s) * 5)) = some (.int .i64 x03) ∧ cellH H_5 ((a.add ((Int.toNat s) * 5)).add 1) = some (.int .i64 x13) ∧ cellH H_5 ((a.add ((Int.toNat s) * 5)).add 2) = some (.int .i64 x23) ∧ cellH H_5 ((a.add ((Int.toNat s) * 5)).add 3) = some (.bool x32) ∧ cellH H_5 ((a.add ((Int.toNat s) * 5)).add 4) = some (.slice x4A x4n x4c) ∧ ∃ (xA9 : Option Addr) (xn9 xc9 : Nat), cellH H_5 (((Addr.mk H_.size 0 none)).add 4) = some (.slice xA9 xn9 xc9) ∧ ∃ a2 : Addr, xA9 = some a2 ∧ 0 ≤ s ∧ s < ((xn9 : Nat) : Int) ∧ ∃ x04 : Int, ∃ x14 : Int, ∃ x24 : Int, ∃ x33 : Bool, ∃ (x4A2 : Option Addr) (x4n2 x4c2 : Nat), cellH H_5 (a2.add ((Int.toNat s) * 5)) = some (.int .i64 x04) ∧ cellH H_5 ((a2.add ((Int.toNat s) * 5)).add 1) = some (.int .i64 x14) ∧ cellH H_5 ((a2.add ((Int.toNat s) * 5)).add 2) = some (.int .i64 x24) ∧ cellH H_5 ((a2.add ((Int.toNat s) * 5)).add 3) = some (.bool x33) ∧ cellH H_5 ((a2.add ((Int.toNat s) * 5)).add 4) = some (.slice x4A2 x4n2 x4c2) ∧ (NewH (H_5.push (.cells #[.int .i64 0, .int .i64 0, .int .i64 0, .bool false, .slice none 0 0] 60 (0, 0))) fun H_6 =>
 cellH H_6 (a2.add ((Int.toNat s) * 5)) = some (.int .i64 x04) ∧ cellH H_6 ((a2.add ((Int.toNat s) * 5)).add 1) = some (.int .i64 x14) ∧ cellH H_6 ((a2.add ((Int.toNat s) * 5)).add 2) = some (.int .i64 x24) ∧ cellH H_6 ((a2.add ((Int.toNat s) * 5)).add 3) = some (.bool x33) ∧ cellH H_6 ((a2.add ((Int.toNat s) * 5)).add 4) = some (.slice x4A2 x4n2 x4c2) ∧ cellH H_6 (((Addr.mk H_.size 0 none)).add 4) = some (.slice xA9 xn9 xc9) ∧ cellH H_6 (a.add ((Int.toNat s) * 5)) = some (.int .i64 x03) ∧ cellH H_6 ((a.add ((Int.toNat s) * 5)).add 1) = some (.int .i64 x13) ∧ cellH H_6 ((a.add ((Int.toNat s) * 5)).add 2) = some (.int .i64 x23) ∧ cellH H_6 ((a.add ((Int.toNat s) * 5)).add 3) = some (.bool x32) ∧ cellH H_6 ((a.add ((Int.toNat s) * 5)).add 4) = some (.slice x4A x4n x4c) ∧ cellH H_6 (((Addr.mk H.size 0 none)).add 4) = some (.slice xA8 xn8 xc8) ∧ NewH (H_6.push (.cells #[.int .i64 0, .int .i64 0, .int .i64 0, .bool false, .slice none 0 0] 60 (0, 0))) fun H_7 =>
 cellH H_7 (a2.add ((Int.toNat s) * 5)) = some (.int .i64 x04) ∧ cellH H_7 ((a2.add ((Int.toNat s) * 5)).add 1) = some (.int .i64 x14) ∧ cellH H_7 ((a2.add ((Int.toNat s) * 5)).add 2) = some (.int .i64 x24) ∧ cellH H_7 ((a2.add ((Int.toNat s) * 5)).add 3) = some (.bool x33) ∧ cellH H_7 ((a2.add ((Int.toNat s) * 5)).add 4) = some (.slice x4A2 x4n2 x4c2) ∧ cellH H_7 (((Addr.mk H_.size 0 none)).add 4) = some (.slice xA9 xn9 xc9) ∧ cellH H_7 (a.add ((Int.toNat s) * 5)) = some (.int .i64 x03) ∧ cellH H_7 ((a.add ((Int.toNat s) * 5)).add 1) = some (.int .i64 x13) ∧ cellH H_7 ((a.add ((Int.toNat s) * 5)).add 2) = some (.int .i64 x23) ∧ cellH H_7 ((a.add ((Int.toNat s) * 5)).add 3) = some (.bool x32) ∧ cellH H_7 ((a.add ((Int.toNat s) * 5)).add 4) = some (.slice x4A x4n x4c) ∧ cellH H_7 (((Addr.mk H.size 0 none)).add 4) = some (.slice xA8 xn8 xc8) ∧ MayWrite H_7 (Addr.mk H_5.size 0 none) 5 ∧ NewH (setH (setH (setH (setH (setH H_7 (Addr.mk H_5.size 0 none) (.int .i64 x03)) (((Addr.mk H_5.size 0 none)).add 1) (.int .i64 x13)) (((Addr.mk H_5.size 0 none)).add 2) (.int .i64 x23)) (((Addr.mk H_5.size 0 none)).add 3) (.bool x32)) (((Addr.mk H_5.size 0 none)).add 4) (.slice x4A x4n x4c)) fun H_8 =>
 cellH H_8 (a2.add ((Int.toNat s) * 5)) = some (.int .i64 x04) ∧ cellH H_8 ((a2.add ((Int.toNat s) * 5)).add 1) = some (.int .i64 x14) ∧ cellH H_8 ((a2.add ((Int.toNat s) * 5)).add 2) = some (.int .i64 x24) ∧ cellH H_8 ((a2.add ((Int.toNat s) * 5)).add 3) = some (.bool x33) ∧ cellH H_8 ((a2.add ((Int.toNat s) * 5)).add 4) = some (.slice x4A2 x4n2 x4c2) ∧ cellH H_8 (((Addr.mk H_.size 0 none)).add 4) = some (.slice xA9 xn9 xc9) ∧ MayWrite H_8 (Addr.mk H_6.size 0 none) 5 ∧ NewH (setH (setH (setH (setH (setH H_8 (Addr.mk H_6.size 0 none) (.int .i64 x04)) (((Addr.mk H_6.size 0 none)).add 1) (.int .i64 x14)) (((Addr.mk H_6.size 0 none)).add 2) (.int .i64 x24)) (((Addr.mk H_6.size 0 none)).add 3) (.bool x33)) (((Addr.mk H_6.size 0 none)).add 4) (.slice x4A2 x4n2 x4c2)) fun H_9 =>
 ∃ x4 : Int, cellH H_9 (Addr.mk H_5.size 0 none) = some (.int .i64 x4) ∧ ∃ x5 : Int, cellH H_9 (Addr.mk H_6.size 0 none) = some (.int .i64 x5) ∧ cond (x4 != x5) (R (.bool false) H_9) (∃ x6 : Int, cellH H_9 (((Addr.mk H_5.size 0 none)).add 1) = some (.int .i64 x6) ∧ ∃ x7 : Int, cellH H_9 (((Addr.mk H_6.size 0 none)).add 1) = some (.int .i64 x7) ∧ cond (x6 != x7) (R (.bool false) H_9) (∃ x8 : Int, cellH H_9 (((Addr.mk H_5.size 0 none)).add 2) = some (.int .i64 x8) ∧ ∃ x9 : Int, cellH H_9 (((Addr.mk H_6.size 0 none)).add 2) = some (.int .i64 x9) ∧ cond (x8 != x9) (R (.bool false) H_9) (∃ x10 : Bool, cellH H_9 (((Addr.mk H_5.size 0 none)).add 3) = some (.bool x10) ∧ ∃ x11 : Bool, cellH H_9 (((Addr.mk H_6.size 0 none)).add 3) = some (.bool x11) ∧ cond (x10 != x11) (R (.bool false) H_9) (∃ (xA10 : Option Addr) (xn10 xc10 : Nat), cellH H_9 (((Addr.mk H_5.size 0 none)).add 4) = some (.slice xA10 xn10 xc10) ∧ ∃ (xA11 : Option Addr) (xn11 xc11 : Nat), cellH H_9 (((Addr.mk H_6.size 0 none)).add 4) = some (.slice xA11 xn11 xc11) ∧ CallH P N.juntoref01_Same [.slice xA10 xn10 xc10, .slice xA11 xn11 xc11] H_9 fun v3 H_10 =>
 ∃ r3 : Bool, v3 = .bool r3 ∧ cond (!r3) (R (.bool false) H_10)
  (next (IntKind.i64.wrap (s + 1)) H_10)))))) ∧ NewH (H_5.push (.cells #[.int .i64 0, .int .i64 0, .int .i64 0, .bool false, .slice none 0 0] 60 (0, 0))) fun H_11 =>
 cellH H_11 (a2.add ((Int.toNat s) * 5)) = some (.int .i64 x04) ∧ cellH H_11 ((a2.add ((Int.toNat s) * 5)).add 1) = some (.int .i64 x14) ∧ cellH H_11 ((a2.add ((Int.toNat s) * 5)).add 2) = some (.int .i64 x24) ∧ cellH H_11 ((a2.add ((Int.toNat s) * 5)).add 3) = some (.bool x33) ∧ cellH H_11 ((a2.add ((Int.toNat s) * 5)).add 4) = some (.slice x4A2 x4n2 x4c2) ∧ cellH H_11 (((Addr.mk H_.size 0 none)).add 4) = some (.slice xA9 xn9 xc9) ∧ cellH H_11 (a.add ((Int.toNat s) * 5)) = some (.int .i64 x03) ∧ cellH H_11 ((a.add ((Int.toNat s) * 5)).add 1) = some (.int .i64 x13) ∧ cellH H_11 ((a.add ((Int.toNat s) * 5)).add 2) = some (.int .i64 x23) ∧ cellH H_11 ((a.add ((Int.toNat s) * 5)).add 3) = some (.bool x32) ∧ cellH H_11 ((a.add ((Int.toNat s) * 5)).add 4) = some (.slice x4A x4n x4c) ∧ cellH H_11 (((Addr.mk H.size 0 none)).add 4) = some (.slice xA8 xn8 xc8) ∧ NewH (H_11.push (.cells #[.int .i64 0, .int .i64 0, .int .i64 0, .bool false, .slice none 0 0] 60 (0, 0))) fun H_12 =>
 cellH H_12 (a2.add ((Int.toNat s) * 5)) = some (.int .i64 x04) ∧ cellH H_12 ((a2.add ((Int.toNat s) * 5)).add 1) = some (.int .i64 x14) ∧ cellH H_12 ((a2.add ((Int.toNat s) * 5)).add 2) = some (.int .i64 x24) ∧ cellH H_12 ((a2.add ((Int.toNat s) * 5)).add 3) = some (.bool x33) ∧ cellH H_12 ((a2.add ((Int.toNat s) * 5)).add 4) = some (.slice x4A2 x4n2 x4c2) ∧ cellH H_12 (((Addr.mk H_.size 0 none)).add 4) = some (.slice xA9 xn9 xc9) ∧ cellH H_12 (a.add ((Int.toNat s) * 5)) = some (.int .i64 x03) ∧ cellH H_12 ((a.add ((Int.toNat s) * 5)).add 1) = some (.int .i64 x13) ∧ cellH H_12 ((a.add ((Int.toNat s) * 5)).add 2) = some (.int .i64 x23) ∧ cellH H_12 ((a.add ((Int.toNat s) * 5)).add 3) = some (.bool x32) ∧ cellH H_12 ((a.add ((Int.toNat s) * 5)).add 4) = some (.slice x4A x4n x4c) ∧ cellH H_12 (((Addr.mk H.size 0 none)).add 4) = some (.slice xA8 xn8 xc8) ∧ MayWrite H_12 (Addr.mk H_11.size 0 none) 5 ∧ NewH (setH (setH (setH (setH (setH H_12 (Addr.mk H_11.size 0 none) (.int .i64 x03)) (((Addr.mk H_11.size 0 none)).add 1) (.int .i64 x13)) (((Addr.mk H_11.size 0 none)).add 2) (.int .i64 x23)) (((Addr.mk H_11.size 0 none)).add 3) (.bool x32)) (((Addr.mk H_11.size 0 none)).add 4) (.slice x4A x4n x4c)) fun H_13 =>
 cellH H_13 (a2.add ((Int.toNat s) * 5)) = some (.int .i64 x04) ∧ cellH H_13 ((a2.add ((Int.toNat s) * 5)).add 1) = some (.int .i64 x14) ∧ cellH H_13 ((a2.add ((Int.toNat s) * 5)).add 2) = some (.int .i64 x24) ∧ cellH H_13 ((a2.add ((Int.toNat s) * 5)).add 3) = some (.bool x33) ∧ cellH H_13 ((a2.add ((Int.toNat s) * 5)).add 4) = some (.slice x4A2 x4n2 x4c2) ∧ cellH H_13 (((Addr.mk H_.size 0 none)).add 4) = some (.slice xA9 xn9 xc9) ∧ MayWrite H_13 (Addr.mk H_5.size 0 none) 5 ∧ NewH (setH (setH (setH (setH (setH H_13 (Addr.mk H_5.size 0 none) (.int .i64 x04)) (((Addr.mk H_5.size 0 none)).add 1) (.int .i64 x14)) (((Addr.mk H_5.size 0 none)).add 2) (.int .i64 x24)) (((Addr.mk H_5.size 0 none)).add 3) (.bool x33)) (((Addr.mk H_5.size 0 none)).add 4) (.slice x4A2 x4n2 x4c2)) fun H_14 =>
 ∃ x15 : Int, cellH H_14 (Addr.mk H_11.size 0 none) = some (.int .i64 x15) ∧ ∃ x16 : Int, cellH H_14 (Addr.mk H_5.size 0 none) = some (.int .i64 x16) ∧ cond (x15 != x16) (R (.bool false) H_14) (∃ x17 : Int, cellH H_14 (((Addr.mk H_11.size 0 none)).add 1) = some (.int .i64 x17) ∧ ∃ x18 : Int, cellH H_14 (((Addr.mk H_5.size 0 none)).add 1) = some (.int .i64 x18) ∧ cond (x17 != x18) (R (.bool false) H_14) (∃ x19 : Int, cellH H_14 (((Addr.mk H_11.size 0 none)).add 2) = some (.int .i64 x19) ∧ ∃ x20 : Int, cellH H_14 (((Addr.mk H_5.size 0 none)).add 2) = some (.int .i64 x20) ∧ cond (x19 != x20) (R (.bool false) H_14) (∃ x21 : Bool, cellH H_14 (((Addr.mk H_11.size 0 none)).add 3) = some (.bool x21) ∧ ∃ x25 : Bool, cellH H_14 (((Addr.mk H_5.size 0 none)).add 3) = some (.bool x25) ∧ cond (x21 != x25) (R (.bool false) H_14) (∃ (xA12 : Option Addr) (xn12 xc12 : Nat), cellH H_14 (((Addr.mk H_11.size 0 none)).add 4) = some (.slice xA12 xn12 xc12) ∧ ∃ (xA13 : Option Addr) (xn13 xc13 : Nat), cellH H_14 (((Addr.mk H_5.size 0 none)).add 4) = some (.slice xA13 xn13 xc13) ∧ CallH P N.juntoref01_Same [.slice xA12 xn12 xc12, .slice xA13 xn13 xc13] H_14 fun v4 H_15 =>
 ∃ r4 : Bool, v4 = .bool r4 ∧ cond (!r4) (R (.bool false) H_15)
  (next (IntKind.i64.wrap (s + 1)) H_15))))))
  (∃ (xA14 : Option Addr) (xn14 xc14 : Nat), cellH H_5 (((Addr.mk H.size 0 none)).add 7) = some (.slice xA14 xn14 xc14) ∧ ∃ (xA15 : Option Addr) (xn15 xc15 : Nat), cellH H_5 (((Addr.mk H_.size 0 none)).add 7) = some (.slice xA15 xn15 xc15) ∧ CallH P N.juntoref17_SameSent [.slice xA14 xn14 xc14, .slice xA15 xn15 xc15] H_5 fun v5 H_16 =>
 ∃ r5 : Bool, v5 = .bool r5 ∧ R (.bool r5) H_16))))))
theorem juntoref17_Same.ok (a_0 : Int) (a_1 : Int) (a_2 : Int) (a_3A : Option Addr) (a_3n a_3c : Nat) (a_4A : Option Addr) (a_4n a_4c : Nat) (a_5A : Option Addr) (a_5n a_5c : Nat) (a_6 : Int) (a_7A : Option Addr) (a_7n a_7c : Nat) (b_0 : Int) (b_1 : Int) (b_2 : Int) (b_3A : Option Addr) (b_3n b_3c : Nat) (b_4A : Option Addr) (b_4n b_4c : Nat) (b_5A : Option Addr) (b_5n b_5c : Nat) (b_6 : Int) (b_7A : Option Addr) (b_7n b_7c : Nat) (H : Heap) (R : Value → Heap → Prop) (h : juntoref17_Same.W a_0 a_1 a_2 a_3A a_3n a_3c a_4A a_4n a_4c a_5A a_5n a_5c a_6 a_7A a_7n a_7c b_0 b_1 b_2 b_3A b_3n b_3c b_4A b_4n b_4c b_5A b_5n b_5c b_6 b_7A b_7n b_7c H R) : CallH P N.juntoref17_Same [.agg #[.int .u64 a_0, .int .i64 a_1, .int .i64 a_2, .slice a_3A a_3n a_3c, .slice a_4A a_4n a_4c, .slice a_5A a_5n a_5c, .int .i64 a_6, .slice a_7A a_7n a_7c], .agg #[.int .u64 b_0, .int .i64 b_1, .int .i64 b_2, .slice b_3A b_3n b_3c, .slice b_4A b_4n b_4c, .slice b_5A b_5n b_5c, .int .i64 b_6, .slice b_7A b_7n b_7c]] H R :=
 okW Try.func13 (by kernel_rfl) Try.ntmps13 juntoref17_Same.A (by kernel_rfl) (by kernel_rfl) h
def juntoref17_SamePayloads.A : Ann where
 loops := fun i => match i with
   | 16392 => [(13, .int .i64)]
   | _ => []
 plans := fun i => match i with
   | 6 => .first 0 (.first 1 (.first 2 (.first 4 (.first 5 (.first 6 (.read 3 (.read 7 (.alt 8 [3, 7] (.first 9 (.done)) (.stop)))))))))
   | _ => .stop
def juntoref17_SamePayloads.W (aA : Option Addr) (an ac : Nat) (bA : Option Addr) (bn bc : Nat) (H : Heap) (R : Value → Heap → Prop) : Prop :=
 cond (((an : Nat) : Int) != ((bn : Nat) : Int)) (R (.bool false) H)
  (LoopI (σ := Int) (fun κ => κ 0 H) fun s z H_ next =>
 cond (decide (s < ((an : Nat) : Int))) (∃ a : Addr, aA = some a ∧ 0 ≤ s ∧ s < ((an : Nat) : Int) ∧ ∃ a2 : Addr, bA = some a2 ∧ 0 ≤ s ∧ s < ((bn : Nat) : Int) ∧ ∃ (xA : Option Addr) (xn xc : Nat), cellH H_ (a.add (Int.toNat s)) = some (.slice xA xn xc) ∧ ∃ (xA2 : Option Addr) (xn2 xc2 : Nat), cellH H_ (a2.add (Int.toNat s)) = some (.slice xA2 xn2 xc2) ∧ CallH P N.juntoref01_Same [.slice xA xn xc, .slice xA2 xn2 xc2] H_ fun v H_2 =>
 ∃ r : Bool, v = .bool r ∧ cond (!r) (R (.bool false) H_2)
  (next (IntKind.i64.wrap (s + 1)) H_2))
  (R (.bool true) H_))
theorem juntoref17_SamePayloads.ok (aA : Option Addr) (an ac : Nat) (bA : Option Addr) (bn bc : Nat) (H : Heap) (R : Value → Heap → Prop) (h : juntoref17_SamePayloads.W aA an ac bA bn bc H R) : CallH P N.juntoref17_SamePayloads [.slice aA an ac, .slice bA bn bc] H R :=
 okW Try.func14 (by kernel_rfl) Try.ntmps14 juntoref17_SamePayloads.A (by kernel_rfl) (by kernel_rfl) h
def juntoref17_Zero.A : Ann where
 loops := fun i => match i with
   | _ => []
 plans := fun i => match i with
   | _ => .stop
def juntoref17_Zero.W (w_0 : Int) (w_1 : Int) (w_2 : Int) (w_3A : Option Addr) (w_3n w_3c : Nat) (w_4A : Option Addr) (w_4n w_4c : Nat) (w_5A : Option Addr) (w_5n w_5c : Nat) (w_6 : Int) (w_7A : Option Addr) (w_7n w_7c : Nat) (H : Heap) (R : Value → Heap → Prop) : Prop :=
 NewH (H.push (.cells #[.int .u64 w_0, .int .i64 w_1, .int .i64 w_2, .slice w_3A w_3n w_3c, .slice w_4A w_4n w_4c, .slice w_5A w_5n w_5c, .int .i64 w_6, .slice w_7A w_7n w_7c] 30 (0, 0))) fun H_ =>
 ∃ x0 : Int, ∃ x1 : Int, ∃ x2 : Int, cellH H_ (Addr.mk H.size 0 none) = some (.int .u64 x0) ∧ cellH H_ (((Addr.mk H.size 0 none)).add 1) = some (.int .i64 x1) ∧ cellH H_ (((Addr.mk H.size 0 none)).add 2) = some (.int .i64 x2) ∧ ∃ b : Bool, EqAgg P .eql 24 (.agg #[.int .u64 x0, .int .i64 x1, .int .i64 x2]) (.agg #[.int .u64 0, .int .i64 0, .int .i64 0]) b ∧ cond b (∃ (xA : Option Addr) (xn xc : Nat), cellH H_ (((Addr.mk H.size 0 none)).add 3) = some (.slice xA xn xc) ∧ ∃ (xA2 : Option Addr) (xn2 xc2 : Nat), cellH H_ (((Addr.mk H.size 0 none)).add 4) = some (.slice xA2 xn2 xc2) ∧ ∃ (xA3 : Option Addr) (xn3 xc3 : Nat), cellH H_ (((Addr.mk H.size 0 none)).add 5) = some (.slice xA3 xn3 xc3) ∧ ∃ (xA4 : Option Addr) (xn4 xc4 : Nat), cellH H_ (((Addr.mk H.size 0 none)).add 7) = some (.slice xA4 xn4 xc4) ∧ cond ((IntKind.i64.wrap ((IntKind.i64.wrap ((IntKind.i64.wrap (((xn : Nat) : Int) + ((xn2 : Nat) : Int))) + ((xn3 : Nat) : Int))) + ((xn4 : Nat) : Int))) == 0) (∃ x : Int, cellH H_ (((Addr.mk H.size 0 none)).add 6) = some (.int .i64 x) ∧ R (.bool (x == 0)) H_) (R (.bool false) H_)) (R (.bool false) H_)
theorem juntoref17_Zero.ok (w_0 : Int) (w_1 : Int) (w_2 : Int) (w_3A : Option Addr) (w_3n w_3c : Nat) (w_4A : Option Addr) (w_4n w_4c : Nat) (w_5A : Option Addr) (w_5n w_5c : Nat) (w_6 : Int) (w_7A : Option Addr) (w_7n w_7c : Nat) (H : Heap) (R : Value → Heap → Prop) (h : juntoref17_Zero.W w_0 w_1 w_2 w_3A w_3n w_3c w_4A w_4n w_4c w_5A w_5n w_5c w_6 w_7A w_7n w_7c H R) : CallH P N.juntoref17_Zero [.agg #[.int .u64 w_0, .int .i64 w_1, .int .i64 w_2, .slice w_3A w_3n w_3c, .slice w_4A w_4n w_4c, .slice w_5A w_5n w_5c, .int .i64 w_6, .slice w_7A w_7n w_7c]] H R :=
 okW Try.func15 (by kernel_rfl) Try.ntmps15 juntoref17_Zero.A (by kernel_rfl) (by kernel_rfl) h
def juntoref17_Is.A : Ann where
 loops := fun i => match i with
   | 8198 => [(9, .int .i64)]
   | _ => []
 plans := fun i => match i with
   | _ => .stop
def juntoref17_Is.W (lA : Option Addr) (ln lc : Nat) (party : Int) (H : Heap) (R : Value → Heap → Prop) : Prop :=
 LoopI (σ := Int) (fun κ => κ 0 H) fun s z H_ next =>
 cond (decide (s < ((ln : Nat) : Int))) (∃ a : Addr, lA = some a ∧ 0 ≤ s ∧ s < ((ln : Nat) : Int) ∧ ∃ x : Int, cellH H_ (a.add (Int.toNat s)) = some (.int .i64 x) ∧ cond (x == party) (R (.bool true) H_)
  (next (IntKind.i64.wrap (s + 1)) H_))
  (R (.bool false) H_)
theorem juntoref17_Is.ok (lA : Option Addr) (ln lc : Nat) (party : Int) (H : Heap) (R : Value → Heap → Prop) (h : juntoref17_Is.W lA ln lc party H R) : CallH P N.juntoref17_Is [.slice lA ln lc, .int .i64 party] H R :=
 okW Try.func24 (by kernel_rfl) Try.ntmps24 juntoref17_Is.A (by kernel_rfl) (by kernel_rfl) h
def juntoref17_Ahead.A : Ann where
 loops := fun i => match i with
   | 8198 => [(9, .int .i64)]
   | _ => []
 plans := fun i => match i with
   | _ => .stop
def juntoref17_Ahead.W (lA : Option Addr) (ln lc : Nat) (a_0 : Int) (a_1 : Int) (a_2 : Int) (a_3 : Bool) (a_4A : Option Addr) (a_4n a_4c : Nat) (H : Heap) (R : Value → Heap → Prop) : Prop :=
 NewH (H.push (.cells #[.int .i64 a_0, .int .i64 a_1, .int .i64 a_2, .bool a_3, .slice a_4A a_4n a_4c] 60 (0, 0))) fun H_ =>
 LoopI (σ := Int) (fun κ => κ 0 H_) fun s z H_2 next =>
 cond (decide (s < ((ln : Nat) : Int))) (∃ a : Addr, lA = some a ∧ 0 ≤ s ∧ s < ((ln : Nat) : Int) ∧ ∃ x0 : Int, ∃ x1 : Int, ∃ x2 : Int, ∃ x3 : Bool, ∃ (x4A : Option Addr) (x4n x4c : Nat), cellH H_2 (a.add ((Int.toNat s) * 5)) = some (.int .i64 x0) ∧ cellH H_2 ((a.add ((Int.toNat s) * 5)).add 1) = some (.int .i64 x1) ∧ cellH H_2 ((a.add ((Int.toNat s) * 5)).add 2) = some (.int .i64 x2) ∧ cellH H_2 ((a.add ((Int.toNat s) * 5)).add 3) = some (.bool x3) ∧ cellH H_2 ((a.add ((Int.toNat s) * 5)).add 4) = some (.slice x4A x4n x4c) ∧ NewH (H_2.push (.cells #[.int .i64 0, .int .i64 0, .int .i64 0, .bool false, .slice none 0 0] 60 (0, 0))) fun H_3 =>
 MayWrite H_3 (Addr.mk H_2.size 0 none) 5 ∧ NewH (setH (setH (setH (setH (setH H_3 (Addr.mk H_2.size 0 none) (.int .i64 x0)) (((Addr.mk H_2.size 0 none)).add 1) (.int .i64 x1)) (((Addr.mk H_2.size 0 none)).add 2) (.int .i64 x2)) (((Addr.mk H_2.size 0 none)).add 3) (.bool x3)) (((Addr.mk H_2.size 0 none)).add 4) (.slice x4A x4n x4c)) fun H_4 =>
 ∃ x : Int, cellH H_4 (Addr.mk H.size 0 none) = some (.int .i64 x) ∧ ∃ x4 : Int, cellH H_4 (Addr.mk H_2.size 0 none) = some (.int .i64 x4) ∧ cond (x == x4) (∃ x5 : Int, cellH H_4 (((Addr.mk H.size 0 none)).add 1) = some (.int .i64 x5) ∧ ∃ x6 : Int, cellH H_4 (((Addr.mk H_2.size 0 none)).add 1) = some (.int .i64 x6) ∧ cond (x5 == x6) (∃ x7 : Int, cellH H_4 (((Addr.mk H.size 0 none)).add 2) = some (.int .i64 x7) ∧ ∃ x8 : Int, cellH H_4 (((Addr.mk H_2.size 0 none)).add 2) = some (.int .i64 x8) ∧ cond (x7 == x8) (R (.bool true) H_4)
  (next (IntKind.i64.wrap (s + 1)) H_4)) (next (IntKind.i64.wrap (s + 1)) H_4)) (next (IntKind.i64.wrap (s + 1)) H_4))
  (R (.bool false) H_2)
theorem juntoref17_Ahead.ok (lA : Option Addr) (ln lc : Nat) (a_0 : Int) (a_1 : Int) (a_2 : Int) (a_3 : Bool) (a_4A : Option Addr) (a_4n a_4c : Nat) (H : Heap) (R : Value → Heap → Prop) (h : juntoref17_Ahead.W lA ln lc a_0 a_1 a_2 a_3 a_4A a_4n a_4c H R) : CallH P N.juntoref17_Ahead [.slice lA ln lc, .agg #[.int .i64 a_0, .int .i64 a_1, .int .i64 a_2, .bool a_3, .slice a_4A a_4n a_4c]] H R :=
 okW Try.func31 (by kernel_rfl) Try.ntmps31 juntoref17_Ahead.A (by kernel_rfl) (by kernel_rfl) h
def juntoref17_SameInts.A : Ann where
 loops := fun i => match i with
   | 16392 => [(13, .int .i64)]
   | _ => []
 plans := fun i => match i with
   | 6 => .first 0 (.first 1 (.first 2 (.first 4 (.first 5 (.first 6 (.read 3 (.read 7 (.first 8 (.done)))))))))
   | _ => .stop
def juntoref17_SameInts.W (aA : Option Addr) (an ac : Nat) (bA : Option Addr) (bn bc : Nat) (H : Heap) (R : Value → Heap → Prop) : Prop :=
 cond (((an : Nat) : Int) != ((bn : Nat) : Int)) (R (.bool false) H)
  (LoopI (σ := Int) (fun κ => κ 0 H) fun s z H_ next =>
 cond (decide (s < ((an : Nat) : Int))) (∃ a : Addr, aA = some a ∧ 0 ≤ s ∧ s < ((an : Nat) : Int) ∧ ∃ a2 : Addr, bA = some a2 ∧ 0 ≤ s ∧ s < ((bn : Nat) : Int) ∧ ∃ x : Int, cellH H_ (a.add (Int.toNat s)) = some (.int .i64 x) ∧ ∃ x2 : Int, cellH H_ (a2.add (Int.toNat s)) = some (.int .i64 x2) ∧ cond (x != x2) (R (.bool false) H_)
  (next (IntKind.i64.wrap (s + 1)) H_))
  (R (.bool true) H_))
theorem juntoref17_SameInts.ok (aA : Option Addr) (an ac : Nat) (bA : Option Addr) (bn bc : Nat) (H : Heap) (R : Value → Heap → Prop) (h : juntoref17_SameInts.W aA an ac bA bn bc H R) : CallH P N.juntoref17_SameInts [.slice aA an ac, .slice bA bn bc] H R :=
 okW Try.func32 (by kernel_rfl) Try.ntmps32 juntoref17_SameInts.A (by kernel_rfl) (by kernel_rfl) h
def juntoref17_SameSent.A : Ann where
 loops := fun i => match i with
   | 16392 => [(13, .int .i64)]
   | _ => []
 plans := fun i => match i with
   | 6 => .first 0 (.first 1 (.first 2 (.first 3 (.first 5 (.first 6 (.first 7 (.first 8 (.read 4 (.read 9 (.first 10 (.first 11 (.first 12 (.first 13 (.first 14 (.first 15 (.first 17 (.first 18 (.first 19 (.first 20 (.read 16 (.read 21 (.first 22 (.first 23 (.first 24 (.first 25 (.first 26 (.first 27 (.first 28 (.first 30 (.first 31 (.first 32 (.first 33 (.read 29 (.read 34 (.first 35 (.first 36 (.first 37 (.first 38 (.first 39 (.first 40 (.first 41 (.first 43 (.first 44 (.first 45 (.first 46 (.read 42 (.read 47 (.alt 48 [4, 9, 16, 21, 29, 34, 42, 47] (.first 49 (.first 50 (.done))) (.stop)))))))))))))))))))))))))))))))))))))))))))))))))
   | _ => .stop
def juntoref17_SameSent.W (aA : Option Addr) (an ac : Nat) (bA : Option Addr) (bn bc : Nat) (H : Heap) (R : Value → Heap → Prop) : Prop :=
 cond (((an : Nat) : Int) != ((bn : Nat) : Int)) (R (.bool false) H)
  (LoopI (σ := Int) (fun κ => κ 0 H) fun s z H_ next =>
 cond (decide (s < ((an : Nat) : Int))) (∃ a : Addr, aA = some a ∧ 0 ≤ s ∧ s < ((an : Nat) : Int) ∧ ∃ a2 : Addr, bA = some a2 ∧ 0 ≤ s ∧ s < ((bn : Nat) : Int) ∧ ∃ x : Int, cellH H_ (a.add ((Int.toNat s) * 4)) = some (.int .i64 x) ∧ ∃ x2 : Int, cellH H_ (a2.add ((Int.toNat s) * 4)) = some (.int .i64 x2) ∧ cond (x != x2) (R (.bool false) H_) (∃ a3 : Addr, aA = some a3 ∧ 0 ≤ s ∧ s < ((an : Nat) : Int) ∧ ∃ a4 : Addr, bA = some a4 ∧ 0 ≤ s ∧ s < ((bn : Nat) : Int) ∧ ∃ x3 : Int, cellH H_ ((a3.add ((Int.toNat s) * 4)).add 1) = some (.int .i64 x3) ∧ ∃ x4 : Int, cellH H_ ((a4.add ((Int.toNat s) * 4)).add 1) = some (.int .i64 x4) ∧ cond (x3 != x4) (R (.bool false) H_) (∃ a5 : Addr, aA = some a5 ∧ 0 ≤ s ∧ s < ((an : Nat) : Int) ∧ ∃ a6 : Addr, bA = some a6 ∧ 0 ≤ s ∧ s < ((bn : Nat) : Int) ∧ ∃ x5 : Int, cellH H_ ((a5.add ((Int.toNat s) * 4)).add 2) = some (.int .i64 x5) ∧ ∃ x6 : Int, cellH H_ ((a6.add ((Int.toNat s) * 4)).add 2) = some (.int .i64 x6) ∧ cond (x5 != x6) (R (.bool false) H_) (∃ a7 : Addr, aA = some a7 ∧ 0 ≤ s ∧ s < ((an : Nat) : Int) ∧ ∃ a8 : Addr, bA = some a8 ∧ 0 ≤ s ∧ s < ((bn : Nat) : Int) ∧ ∃ (xA : Option Addr) (xn xc : Nat), cellH H_ ((a7.add ((Int.toNat s) * 4)).add 3) = some (.slice xA xn xc) ∧ ∃ (xA2 : Option Addr) (xn2 xc2 : Nat), cellH H_ ((a8.add ((Int.toNat s) * 4)).add 3) = some (.slice xA2 xn2 xc2) ∧ CallH P N.juntoref01_Same [.slice xA xn xc, .slice xA2 xn2 xc2] H_ fun v H_2 =>
 ∃ r : Bool, v = .bool r ∧ cond (!r) (R (.bool false) H_2)
  (next (IntKind.i64.wrap (s + 1)) H_2)))))
  (R (.bool true) H_))
theorem juntoref17_SameSent.ok (aA : Option Addr) (an ac : Nat) (bA : Option Addr) (bn bc : Nat) (H : Heap) (R : Value → Heap → Prop) (h : juntoref17_SameSent.W aA an ac bA bn bc H R) : CallH P N.juntoref17_SameSent [.slice aA an ac, .slice bA bn bc] H R :=
 okW Try.func33 (by kernel_rfl) Try.ntmps33 juntoref17_SameSent.A (by kernel_rfl) (by kernel_rfl) h
def juntoref17_Nothing.A : Ann where
 loops := fun i => match i with
   | 12294 => [(10, .int .i64)]
   | _ => []
 plans := fun i => match i with
   | 7 => .first 0 (.first 1 (.first 3 (.alt 2 [] (.first 4 (.done)) (.stop))))
   | _ => .stop
def juntoref17_Nothing.W (n : Int) (H : Heap) (R : Value → Heap → Prop) : Prop :=
 0 ≤ n ∧ n ≤ n ∧ n * 24 ≤ 2 ^ 48 ∧ n < 2 ^ 62 ∧ NewH (H.push (.cells (repl (Int.toNat n) [.slice none 0 0]).toArray 27 (0, 0))) fun H_ =>
 LoopI (σ := Int) (fun κ => κ 0 H_) fun s z H_2 next =>
 cond (decide (s < ((Int.toNat n : Nat) : Int))) (0 ≤ n ∧ n ≤ n ∧ n * 24 ≤ 2 ^ 48 ∧ n < 2 ^ 62 ∧ NewH (H_2.push (.cells (repl (Int.toNat n) [.slice none 0 0]).toArray 47 (0, 0))) fun H_3 =>
 ∃ a : Addr, (some (Addr.mk H.size 0 none) : Option Addr) = some a ∧ 0 ≤ s ∧ s < ((Int.toNat n : Nat) : Int) ∧ MayWrite H_3 (a.add (Int.toNat s)) 1 ∧ NewH (setH H_3 (a.add (Int.toNat s)) (.slice (some (Addr.mk H_2.size 0 none)) (Int.toNat n) (Int.toNat n))) fun H_4 =>
 next (IntKind.i64.wrap (s + 1)) H_4)
  (0 ≤ n ∧ n ≤ n ∧ n * 24 ≤ 2 ^ 48 ∧ n < 2 ^ 62 ∧ NewH (H_2.push (.cells (repl (Int.toNat n) [.slice none 0 0]).toArray 47 (0, 0))) fun H_5 =>
 R (.tuple #[.slice (some (Addr.mk H.size 0 none)) (Int.toNat n) (Int.toNat n), .slice (some (Addr.mk H_2.size 0 none)) (Int.toNat n) (Int.toNat n)]) H_5)
theorem juntoref17_Nothing.ok (n : Int) (H : Heap) (R : Value → Heap → Prop) (h : juntoref17_Nothing.W n H R) : CallH P N.juntoref17_Nothing [.int .i64 n] H R :=
 okW Try.func34 (by kernel_rfl) Try.ntmps34 juntoref17_Nothing.A (by kernel_rfl) (by kernel_rfl) h
def juntoref17_Exchange.A : Ann where
 loops := fun i => match i with
   | 16391 => [(25, .int .i64)]
   | 40971 => [(13, .slice), (14, .int .i64)]
   | 65553 => [(13, .slice), (15, .int .i64)]
   | _ => []
 plans := fun i => match i with
   | 2 => .first 0 (.first 2 (.alt 1 [] (.first 4 (.alt 3 [] (.first 5 (.done)) (.stop))) (.alt 3 [] (.alt 1 [] (.first 4 (.first 5 (.done))) (.stop)) (.stop))))
   | 12 => .first 0 (.first 1 (.first 2 (.first 4 (.first 5 (.first 6 (.first 7 (.first 8 (.read 3 (.read 9 (.alt 10 [3, 9] (.first 11 (.alt 12 [] (.done) (.stop))) (.stop)))))))))))
   | 14 => .first 0 (.first 1 (.first 4 (.first 5 (.first 6 (.first 7 (.first 8 (.read 2 (.first 3 (.read 9 (.first 10 (.alt 11 [2, 9] (.alt 12 [] (.first 13 (.done)) (.stop)) (.stop))))))))))))
   | 19 => .first 0 (.first 1 (.first 2 (.first 3 (.first 5 (.first 6 (.first 7 (.first 8 (.first 9 (.first 10 (.first 12 (.first 13 (.read 4 (.read 11 (.first 14 (.read 15 (.first 16 (.alt 17 [4, 11, 15] (.done) (.stop))))))))))))))))))
   | 20 => .first 0 (.first 1 (.first 2 (.first 3 (.first 5 (.first 6 (.first 8 (.first 9 (.first 10 (.first 11 (.first 12 (.first 13 (.first 15 (.first 16 (.read 4 (.read 7 (.read 14 (.first 17 (.read 18 (.alt 19 [7, 14, 18] (.first 20 (.alt 21 [4] (.done) (.stop))) (.stop))))))))))))))))))))
   | 22 => .first 0 (.first 1 (.first 4 (.first 5 (.first 6 (.first 7 (.first 8 (.first 9 (.first 11 (.first 12 (.read 2 (.first 3 (.read 10 (.first 13 (.read 14 (.first 15 (.alt 16 [2, 10, 14] (.alt 17 [] (.first 18 (.done)) (.stop)) (.stop)))))))))))))))))
   | 25 => .first 0 (.first 1 (.first 3 (.first 4 (.read 2 (.alt 5 [2] (.done) (.stop))))))
   | _ => .stop
def juntoref17_Exchange.W (w_0 : Int) (w_1 : Int) (w_2 : Int) (w_3A : Option Addr) (w_3n w_3c : Nat) (w_4A : Option Addr) (w_4n w_4c : Nat) (w_5A : Option Addr) (w_5n w_5c : Nat) (w_6 : Int) (w_7A : Option Addr) (w_7n w_7c : Nat) (privateA : Option Addr) (privaten privatec : Nat) (saidA : Option Addr) (saidn saidc : Nat) (H : Heap) (R : Value → Heap → Prop) : Prop :=
 NewH (H.push (.cells #[.int .u64 w_0, .int .i64 w_1, .int .i64 w_2, .slice w_3A w_3n w_3c, .slice w_4A w_4n w_4c, .slice w_5A w_5n w_5c, .int .i64 w_6, .slice w_7A w_7n w_7c] 30 (0, 0))) fun H_ =>
 NewH (H_.push (.cells #[.int .u64 0, .int .i64 0, .int .i64 0, .slice none 0 0, .slice none 0 0, .slice none 0 0, .int .i64 0, .slice none 0 0] 30 (0, 0))) fun H_2 =>
 ∃ x : Int, cellH H_2 (((Addr.mk H.size 0 none)).add 1) = some (.int .i64 x) ∧ (0 ≤ x ∧ x ≤ x ∧ x * 24 ≤ 2 ^ 48 ∧ x < 2 ^ 62 ∧ NewH (H_2.push (.cells (repl (Int.toNat x) [.slice none 0 0]).toArray 27 (0, 0))) fun H_3 =>
 0 ≤ x ∧ x ≤ x ∧ x * 24 ≤ 2 ^ 48 ∧ x < 2 ^ 62 ∧ NewH (H_3.push (.cells (repl (Int.toNat x) [.slice none 0 0]).toArray 47 (0, 0))) fun H_4 =>
 LoopI (σ := Int) (fun κ => κ 0 H_4) fun s z H_5 next =>
 cond (decide (s < ((Int.toNat x : Nat) : Int))) (0 ≤ x ∧ x ≤ x ∧ x * 24 ≤ 2 ^ 48 ∧ x < 2 ^ 62 ∧ NewH (H_5.push (.cells (repl (Int.toNat x) [.slice none 0 0]).toArray 47 (0, 0))) fun H_6 =>
 ∃ a : Addr, (some (Addr.mk H_2.size 0 none) : Option Addr) = some a ∧ 0 ≤ s ∧ s < ((Int.toNat x : Nat) : Int) ∧ MayWrite H_6 (a.add (Int.toNat s)) 1 ∧ NewH (setH H_6 (a.add (Int.toNat s)) (.slice (some (Addr.mk H_5.size 0 none)) (Int.toNat x) (Int.toNat x))) fun H_7 =>
 next (IntKind.i64.wrap (s + 1)) H_7)
  (NewH (H_5.push (.cells #[] 57 (0, 0))) fun H_8 =>
 ∃ (xA : Option Addr) (xn xc : Nat), cellH H_8 (((Addr.mk H.size 0 none)).add 7) = some (.slice xA xn xc) ∧ AppendV 57 4 48 [.int .i64 0, .int .i64 0, .int .i64 0, .slice none 0 0] H_8 (some (Addr.mk H_5.size 0 none)) 0 0 xA xn fun vA vn vc H_9 =>
 LoopI (σ := (Option Addr × Nat × Nat) × Int) (fun κ => κ ((vA, vn, vc), 1) H_9) fun s2 z2 H_10 next2 =>
 cond (decide (s2.2 ≤ x)) (∃ a2 : Addr, saidA = some a2 ∧ 0 ≤ (IntKind.i64.wrap (s2.2 - 1)) ∧ (IntKind.i64.wrap (s2.2 - 1)) < ((saidn : Nat) : Int) ∧ ∃ x0 : Int, ∃ x1 : Int, ∃ x2 : Int, ∃ (x3A : Option Addr) (x3n x3c : Nat), ∃ (x4A : Option Addr) (x4n x4c : Nat), ∃ (x5A : Option Addr) (x5n x5c : Nat), ∃ x6 : Int, ∃ (x7A : Option Addr) (x7n x7c : Nat), cellH H_10 (Addr.mk H.size 0 none) = some (.int .u64 x0) ∧ cellH H_10 (((Addr.mk H.size 0 none)).add 1) = some (.int .i64 x1) ∧ cellH H_10 (((Addr.mk H.size 0 none)).add 2) = some (.int .i64 x2) ∧ cellH H_10 (((Addr.mk H.size 0 none)).add 3) = some (.slice x3A x3n x3c) ∧ cellH H_10 (((Addr.mk H.size 0 none)).add 4) = some (.slice x4A x4n x4c) ∧ cellH H_10 (((Addr.mk H.size 0 none)).add 5) = some (.slice x5A x5n x5c) ∧ cellH H_10 (((Addr.mk H.size 0 none)).add 6) = some (.int .i64 x6) ∧ cellH H_10 (((Addr.mk H.size 0 none)).add 7) = some (.slice x7A x7n x7c) ∧ ∃ (xA2 : Option Addr) (xn2 xc2 : Nat), cellH H_10 (a2.add (Int.toNat (IntKind.i64.wrap (s2.2 - 1)))) = some (.slice xA2 xn2 xc2) ∧ CallH P N.juntoref17_Act [.agg #[.int .u64 x0, .int .i64 x1, .int .i64 x2, .slice x3A x3n x3c, .slice x4A x4n x4c, .slice x5A x5n x5c, .int .i64 x6, .slice x7A x7n x7c], .int .i64 s2.2, .int .i64 0, .slice xA2 xn2 xc2] H_10 fun v2 H_11 =>
 ∃ (rA : Option Addr) (rn rc : Nat), v2 = .slice rA rn rc ∧ ∃ a3 : Addr, (some (Addr.mk H_3.size 0 none) : Option Addr) = some a3 ∧ 0 ≤ (IntKind.i64.wrap (s2.2 - 1)) ∧ (IntKind.i64.wrap (s2.2 - 1)) < ((Int.toNat x : Nat) : Int) ∧ MayWrite H_11 (a3.add (Int.toNat (IntKind.i64.wrap (s2.2 - 1)))) 1 ∧ NewH (setH H_11 (a3.add (Int.toNat (IntKind.i64.wrap (s2.2 - 1)))) (.slice rA rn rc)) fun H_12 =>
 ∃ a4 : Addr, (some (Addr.mk H_3.size 0 none) : Option Addr) = some a4 ∧ 0 ≤ (IntKind.i64.wrap (s2.2 - 1)) ∧ (IntKind.i64.wrap (s2.2 - 1)) < ((Int.toNat x : Nat) : Int) ∧ ∃ (xA3 : Option Addr) (xn3 xc3 : Nat), cellH H_12 (a4.add (Int.toNat (IntKind.i64.wrap (s2.2 - 1)))) = some (.slice xA3 xn3 xc3) ∧ cond (decide (((xn3 : Nat) : Int) > 0)) (∃ a5 : Addr, (some (Addr.mk H_3.size 0 none) : Option Addr) = some a5 ∧ 0 ≤ (IntKind.i64.wrap (s2.2 - 1)) ∧ (IntKind.i64.wrap (s2.2 - 1)) < ((Int.toNat x : Nat) : Int) ∧ ∃ x3 : Int, cellH H_12 (((Addr.mk H.size 0 none)).add 6) = some (.int .i64 x3) ∧ ∃ (xA4 : Option Addr) (xn4 xc4 : Nat), cellH H_12 (a5.add (Int.toNat (IntKind.i64.wrap (s2.2 - 1)))) = some (.slice xA4 xn4 xc4) ∧ NewH (H_12.push (.cells #[.int .i64 (IntKind.i64.wrap (x3 + 1)), .int .i64 s2.2, .int .i64 0, .slice xA4 xn4 xc4] 57 (0, 0))) fun H_13 =>
 AppendV 57 4 48 [.int .i64 0, .int .i64 0, .int .i64 0, .slice none 0 0] H_13 s2.1.1 s2.1.2.1 s2.1.2.2 (some (Addr.mk H_12.size 0 none)) 1 fun vA2 vn2 vc2 H_14 =>
 LoopI (σ := (Option Addr × Nat × Nat) × Int) (fun κ => κ ((vA2, vn2, vc2), 1) H_14) fun s3 z3 H_15 next3 =>
 cond (decide (s3.2 ≤ x)) (cond (s2.2 == s3.2) (∃ a6 : Addr, (some (Addr.mk H_2.size 0 none) : Option Addr) = some a6 ∧ 0 ≤ (IntKind.i64.wrap (s3.2 - 1)) ∧ (IntKind.i64.wrap (s3.2 - 1)) < ((Int.toNat x : Nat) : Int) ∧ ∃ a7 : Addr, privateA = some a7 ∧ 0 ≤ (IntKind.i64.wrap (s2.2 - 1)) ∧ (IntKind.i64.wrap (s2.2 - 1)) < ((privaten : Nat) : Int) ∧ ∃ (xA5 : Option Addr) (xn5 xc5 : Nat), cellH H_15 (a6.add (Int.toNat (IntKind.i64.wrap (s3.2 - 1)))) = some (.slice xA5 xn5 xc5) ∧ ∃ (xA6 : Option Addr) (xn6 xc6 : Nat), cellH H_15 (a7.add (Int.toNat (IntKind.i64.wrap (s2.2 - 1)))) = some (.slice xA6 xn6 xc6) ∧ ∃ a8 : Addr, xA6 = some a8 ∧ 0 ≤ (IntKind.i64.wrap (s3.2 - 1)) ∧ (IntKind.i64.wrap (s3.2 - 1)) < ((xn6 : Nat) : Int) ∧ ∃ (xA7 : Option Addr) (xn7 xc7 : Nat), cellH H_15 (a8.add (Int.toNat (IntKind.i64.wrap (s3.2 - 1)))) = some (.slice xA7 xn7 xc7) ∧ ∃ a9 : Addr, xA5 = some a9 ∧ 0 ≤ (IntKind.i64.wrap (s2.2 - 1)) ∧ (IntKind.i64.wrap (s2.2 - 1)) < ((xn5 : Nat) : Int) ∧ MayWrite H_15 (a9.add (Int.toNat (IntKind.i64.wrap (s2.2 - 1)))) 1 ∧ NewH (setH H_15 (a9.add (Int.toNat (IntKind.i64.wrap (s2.2 - 1)))) (.slice xA7 xn7 xc7)) fun H_16 =>
 next3 ((s3.1.1, s3.1.2.1, s3.1.2.2), IntKind.i64.wrap (s3.2 + 1)) H_16)
  (∃ a10 : Addr, (some (Addr.mk H_2.size 0 none) : Option Addr) = some a10 ∧ 0 ≤ (IntKind.i64.wrap (s3.2 - 1)) ∧ (IntKind.i64.wrap (s3.2 - 1)) < ((Int.toNat x : Nat) : Int) ∧ ∃ a11 : Addr, privateA = some a11 ∧ 0 ≤ (IntKind.i64.wrap (s2.2 - 1)) ∧ (IntKind.i64.wrap (s2.2 - 1)) < ((privaten : Nat) : Int) ∧ ∃ (xA8 : Option Addr) (xn8 xc8 : Nat), cellH H_15 (a10.add (Int.toNat (IntKind.i64.wrap (s3.2 - 1)))) = some (.slice xA8 xn8 xc8) ∧ ∃ x02 : Int, ∃ x12 : Int, ∃ x22 : Int, ∃ (x3A2 : Option Addr) (x3n2 x3c2 : Nat), ∃ (x4A2 : Option Addr) (x4n2 x4c2 : Nat), ∃ (x5A2 : Option Addr) (x5n2 x5c2 : Nat), ∃ x62 : Int, ∃ (x7A2 : Option Addr) (x7n2 x7c2 : Nat), cellH H_15 (Addr.mk H.size 0 none) = some (.int .u64 x02) ∧ cellH H_15 (((Addr.mk H.size 0 none)).add 1) = some (.int .i64 x12) ∧ cellH H_15 (((Addr.mk H.size 0 none)).add 2) = some (.int .i64 x22) ∧ cellH H_15 (((Addr.mk H.size 0 none)).add 3) = some (.slice x3A2 x3n2 x3c2) ∧ cellH H_15 (((Addr.mk H.size 0 none)).add 4) = some (.slice x4A2 x4n2 x4c2) ∧ cellH H_15 (((Addr.mk H.size 0 none)).add 5) = some (.slice x5A2 x5n2 x5c2) ∧ cellH H_15 (((Addr.mk H.size 0 none)).add 6) = some (.int .i64 x62) ∧ cellH H_15 (((Addr.mk H.size 0 none)).add 7) = some (.slice x7A2 x7n2 x7c2) ∧ ∃ (xA9 : Option Addr) (xn9 xc9 : Nat), cellH H_15 (a11.add (Int.toNat (IntKind.i64.wrap (s2.2 - 1)))) = some (.slice xA9 xn9 xc9) ∧ ∃ a12 : Addr, xA9 = some a12 ∧ 0 ≤ (IntKind.i64.wrap (s3.2 - 1)) ∧ (IntKind.i64.wrap (s3.2 - 1)) < ((xn9 : Nat) : Int) ∧ ∃ (xA10 : Option Addr) (xn10 xc10 : Nat), cellH H_15 (a12.add (Int.toNat (IntKind.i64.wrap (s3.2 - 1)))) = some (.slice xA10 xn10 xc10) ∧ CallH P N.juntoref17_Act [.agg #[.int .u64 x02, .int .i64 x12, .int .i64 x22, .slice x3A2 x3n2 x3c2, .slice x4A2 x4n2 x4c2, .slice x5A2 x5n2 x5c2, .int .i64 x62, .slice x7A2 x7n2 x7c2], .int .i64 s2.2, .int .i64 s3.2, .slice xA10 xn10 xc10] H_15 fun v4 H_17 =>
 ∃ (rA2 : Option Addr) (rn2 rc2 : Nat), v4 = .slice rA2 rn2 rc2 ∧ cellH H_17 (a10.add (Int.toNat (IntKind.i64.wrap (s3.2 - 1)))) = some (.slice xA8 xn8 xc8) ∧ ∃ a13 : Addr, xA8 = some a13 ∧ 0 ≤ (IntKind.i64.wrap (s2.2 - 1)) ∧ (IntKind.i64.wrap (s2.2 - 1)) < ((xn8 : Nat) : Int) ∧ MayWrite H_17 (a13.add (Int.toNat (IntKind.i64.wrap (s2.2 - 1)))) 1 ∧ NewH (setH H_17 (a13.add (Int.toNat (IntKind.i64.wrap (s2.2 - 1)))) (.slice rA2 rn2 rc2)) fun H_18 =>
 ∃ a14 : Addr, (some (Addr.mk H_2.size 0 none) : Option Addr) = some a14 ∧ 0 ≤ (IntKind.i64.wrap (s3.2 - 1)) ∧ (IntKind.i64.wrap (s3.2 - 1)) < ((Int.toNat x : Nat) : Int) ∧ ∃ (xA11 : Option Addr) (xn11 xc11 : Nat), cellH H_18 (a14.add (Int.toNat (IntKind.i64.wrap (s3.2 - 1)))) = some (.slice xA11 xn11 xc11) ∧ ∃ a15 : Addr, xA11 = some a15 ∧ 0 ≤ (IntKind.i64.wrap (s2.2 - 1)) ∧ (IntKind.i64.wrap (s2.2 - 1)) < ((xn11 : Nat) : Int) ∧ ∃ (xA12 : Option Addr) (xn12 xc12 : Nat), cellH H_18 (a15.add (Int.toNat (IntKind.i64.wrap (s2.2 - 1)))) = some (.slice xA12 xn12 xc12) ∧ cond (decide (((xn12 : Nat) : Int) > 0)) (∃ a16 : Addr, (some (Addr.mk H_2.size 0 none) : Option Addr) = some a16 ∧ 0 ≤ (IntKind.i64.wrap (s3.2 - 1)) ∧ (IntKind.i64.wrap (s3.2 - 1)) < ((Int.toNat x : Nat) : Int) ∧ ∃ x4 : Int, cellH H_18 (((Addr.mk H.size 0 none)).add 6) = some (.int .i64 x4) ∧ ∃ (xA13 : Option Addr) (xn13 xc13 : Nat), cellH H_18 (a16.add (Int.toNat (IntKind.i64.wrap (s3.2 - 1)))) = some (.slice xA13 xn13 xc13) ∧ ∃ a17 : Addr, xA13 = some a17 ∧ 0 ≤ (IntKind.i64.wrap (s2.2 - 1)) ∧ (IntKind.i64.wrap (s2.2 - 1)) < ((xn13 : Nat) : Int) ∧ ∃ (xA14 : Option Addr) (xn14 xc14 : Nat), cellH H_18 (a17.add (Int.toNat (IntKind.i64.wrap (s2.2 - 1)))) = some (.slice xA14 xn14 xc14) ∧ NewH (H_18.push (.cells #[.int .i64 (IntKind.i64.wrap (x4 + 1)), .int .i64 s2.2, .int .i64 s3.2, .slice xA14 xn14 xc14] 57 (0, 0))) fun H_19 =>
 AppendV 57 4 48 [.int .i64 0, .int .i64 0, .int .i64 0, .slice none 0 0] H_19 s3.1.1 s3.1.2.1 s3.1.2.2 (some (Addr.mk H_18.size 0 none)) 1 fun vA3 vn3 vc3 H_20 =>
 next3 ((vA3, vn3, vc3), IntKind.i64.wrap (s3.2 + 1)) H_20)
  (next3 ((s3.1.1, s3.1.2.1, s3.1.2.2), IntKind.i64.wrap (s3.2 + 1)) H_18)))
  (next2 ((s3.1.1, s3.1.2.1, s3.1.2.2), IntKind.i64.wrap (s2.2 + 1)) H_15))
  (LoopI (σ := (Option Addr × Nat × Nat) × Int) (fun κ => κ ((s2.1.1, s2.1.2.1, s2.1.2.2), 1) H_12) fun s4 z4 H_21 next4 =>
 cond (decide (s4.2 ≤ x)) (cond (s2.2 == s4.2) (∃ a18 : Addr, (some (Addr.mk H_2.size 0 none) : Option Addr) = some a18 ∧ 0 ≤ (IntKind.i64.wrap (s4.2 - 1)) ∧ (IntKind.i64.wrap (s4.2 - 1)) < ((Int.toNat x : Nat) : Int) ∧ ∃ a19 : Addr, privateA = some a19 ∧ 0 ≤ (IntKind.i64.wrap (s2.2 - 1)) ∧ (IntKind.i64.wrap (s2.2 - 1)) < ((privaten : Nat) : Int) ∧ ∃ (xA15 : Option Addr) (xn15 xc15 : Nat), cellH H_21 (a18.add (Int.toNat (IntKind.i64.wrap (s4.2 - 1)))) = some (.slice xA15 xn15 xc15) ∧ ∃ (xA16 : Option Addr) (xn16 xc16 : Nat), cellH H_21 (a19.add (Int.toNat (IntKind.i64.wrap (s2.2 - 1)))) = some (.slice xA16 xn16 xc16) ∧ ∃ a20 : Addr, xA16 = some a20 ∧ 0 ≤ (IntKind.i64.wrap (s4.2 - 1)) ∧ (IntKind.i64.wrap (s4.2 - 1)) < ((xn16 : Nat) : Int) ∧ ∃ (xA17 : Option Addr) (xn17 xc17 : Nat), cellH H_21 (a20.add (Int.toNat (IntKind.i64.wrap (s4.2 - 1)))) = some (.slice xA17 xn17 xc17) ∧ ∃ a21 : Addr, xA15 = some a21 ∧ 0 ≤ (IntKind.i64.wrap (s2.2 - 1)) ∧ (IntKind.i64.wrap (s2.2 - 1)) < ((xn15 : Nat) : Int) ∧ MayWrite H_21 (a21.add (Int.toNat (IntKind.i64.wrap (s2.2 - 1)))) 1 ∧ NewH (setH H_21 (a21.add (Int.toNat (IntKind.i64.wrap (s2.2 - 1)))) (.slice xA17 xn17 xc17)) fun H_22 =>
 next4 ((s4.1.1, s4.1.2.1, s4.1.2.2), IntKind.i64.wrap (s4.2 + 1)) H_22)
  (∃ a22 : Addr, (some (Addr.mk H_2.size 0 none) : Option Addr) = some a22 ∧ 0 ≤ (IntKind.i64.wrap (s4.2 - 1)) ∧ (IntKind.i64.wrap (s4.2 - 1)) < ((Int.toNat x : Nat) : Int) ∧ ∃ a23 : Addr, privateA = some a23 ∧ 0 ≤ (IntKind.i64.wrap (s2.2 - 1)) ∧ (IntKind.i64.wrap (s2.2 - 1)) < ((privaten : Nat) : Int) ∧ ∃ (xA18 : Option Addr) (xn18 xc18 : Nat), cellH H_21 (a22.add (Int.toNat (IntKind.i64.wrap (s4.2 - 1)))) = some (.slice xA18 xn18 xc18) ∧ ∃ x03 : Int, ∃ x13 : Int, ∃ x23 : Int, ∃ (x3A3 : Option Addr) (x3n3 x3c3 : Nat), ∃ (x4A3 : Option Addr) (x4n3 x4c3 : Nat), ∃ (x5A3 : Option Addr) (x5n3 x5c3 : Nat), ∃ x63 : Int, ∃ (x7A3 : Option Addr) (x7n3 x7c3 : Nat), cellH H_21 (Addr.mk H.size 0 none) = some (.int .u64 x03) ∧ cellH H_21 (((Addr.mk H.size 0 none)).add 1) = some (.int .i64 x13) ∧ cellH H_21 (((Addr.mk H.size 0 none)).add 2) = some (.int .i64 x23) ∧ cellH H_21 (((Addr.mk H.size 0 none)).add 3) = some (.slice x3A3 x3n3 x3c3) ∧ cellH H_21 (((Addr.mk H.size 0 none)).add 4) = some (.slice x4A3 x4n3 x4c3) ∧ cellH H_21 (((Addr.mk H.size 0 none)).add 5) = some (.slice x5A3 x5n3 x5c3) ∧ cellH H_21 (((Addr.mk H.size 0 none)).add 6) = some (.int .i64 x63) ∧ cellH H_21 (((Addr.mk H.size 0 none)).add 7) = some (.slice x7A3 x7n3 x7c3) ∧ ∃ (xA19 : Option Addr) (xn19 xc19 : Nat), cellH H_21 (a23.add (Int.toNat (IntKind.i64.wrap (s2.2 - 1)))) = some (.slice xA19 xn19 xc19) ∧ ∃ a24 : Addr, xA19 = some a24 ∧ 0 ≤ (IntKind.i64.wrap (s4.2 - 1)) ∧ (IntKind.i64.wrap (s4.2 - 1)) < ((xn19 : Nat) : Int) ∧ ∃ (xA20 : Option Addr) (xn20 xc20 : Nat), cellH H_21 (a24.add (Int.toNat (IntKind.i64.wrap (s4.2 - 1)))) = some (.slice xA20 xn20 xc20) ∧ CallH P N.juntoref17_Act [.agg #[.int .u64 x03, .int .i64 x13, .int .i64 x23, .slice x3A3 x3n3 x3c3, .slice x4A3 x4n3 x4c3, .slice x5A3 x5n3 x5c3, .int .i64 x63, .slice x7A3 x7n3 x7c3], .int .i64 s2.2, .int .i64 s4.2, .slice xA20 xn20 xc20] H_21 fun v6 H_23 =>
 ∃ (rA3 : Option Addr) (rn3 rc3 : Nat), v6 = .slice rA3 rn3 rc3 ∧ cellH H_23 (a22.add (Int.toNat (IntKind.i64.wrap (s4.2 - 1)))) = some (.slice xA18 xn18 xc18) ∧ ∃ a25 : Addr, xA18 = some a25 ∧ 0 ≤ (IntKind.i64.wrap (s2.2 - 1)) ∧ (IntKind.i64.wrap (s2.2 - 1)) < ((xn18 : Nat) : Int) ∧ MayWrite H_23 (a25.add (Int.toNat (IntKind.i64.wrap (s2.2 - 1)))) 1 ∧ NewH (setH H_23 (a25.add (Int.toNat (IntKind.i64.wrap (s2.2 - 1)))) (.slice rA3 rn3 rc3)) fun H_24 =>
 ∃ a26 : Addr, (some (Addr.mk H_2.size 0 none) : Option Addr) = some a26 ∧ 0 ≤ (IntKind.i64.wrap (s4.2 - 1)) ∧ (IntKind.i64.wrap (s4.2 - 1)) < ((Int.toNat x : Nat) : Int) ∧ ∃ (xA21 : Option Addr) (xn21 xc21 : Nat), cellH H_24 (a26.add (Int.toNat (IntKind.i64.wrap (s4.2 - 1)))) = some (.slice xA21 xn21 xc21) ∧ ∃ a27 : Addr, xA21 = some a27 ∧ 0 ≤ (IntKind.i64.wrap (s2.2 - 1)) ∧ (IntKind.i64.wrap (s2.2 - 1)) < ((xn21 : Nat) : Int) ∧ ∃ (xA22 : Option Addr) (xn22 xc22 : Nat), cellH H_24 (a27.add (Int.toNat (IntKind.i64.wrap (s2.2 - 1)))) = some (.slice xA22 xn22 xc22) ∧ cond (decide (((xn22 : Nat) : Int) > 0)) (∃ a28 : Addr, (some (Addr.mk H_2.size 0 none) : Option Addr) = some a28 ∧ 0 ≤ (IntKind.i64.wrap (s4.2 - 1)) ∧ (IntKind.i64.wrap (s4.2 - 1)) < ((Int.toNat x : Nat) : Int) ∧ ∃ x5 : Int, cellH H_24 (((Addr.mk H.size 0 none)).add 6) = some (.int .i64 x5) ∧ ∃ (xA23 : Option Addr) (xn23 xc23 : Nat), cellH H_24 (a28.add (Int.toNat (IntKind.i64.wrap (s4.2 - 1)))) = some (.slice xA23 xn23 xc23) ∧ ∃ a29 : Addr, xA23 = some a29 ∧ 0 ≤ (IntKind.i64.wrap (s2.2 - 1)) ∧ (IntKind.i64.wrap (s2.2 - 1)) < ((xn23 : Nat) : Int) ∧ ∃ (xA24 : Option Addr) (xn24 xc24 : Nat), cellH H_24 (a29.add (Int.toNat (IntKind.i64.wrap (s2.2 - 1)))) = some (.slice xA24 xn24 xc24) ∧ NewH (H_24.push (.cells #[.int .i64 (IntKind.i64.wrap (x5 + 1)), .int .i64 s2.2, .int .i64 s4.2, .slice xA24 xn24 xc24] 57 (0, 0))) fun H_25 =>
 AppendV 57 4 48 [.int .i64 0, .int .i64 0, .int .i64 0, .slice none 0 0] H_25 s4.1.1 s4.1.2.1 s4.1.2.2 (some (Addr.mk H_24.size 0 none)) 1 fun vA4 vn4 vc4 H_26 =>
 next4 ((vA4, vn4, vc4), IntKind.i64.wrap (s4.2 + 1)) H_26)
  (next4 ((s4.1.1, s4.1.2.1, s4.1.2.2), IntKind.i64.wrap (s4.2 + 1)) H_24)))
  (next2 ((s4.1.1, s4.1.2.1, s4.1.2.2), IntKind.i64.wrap (s2.2 + 1)) H_21)))
  (∃ x7 : Int, cellH H_10 (((Addr.mk H.size 0 none)).add 6) = some (.int .i64 x7) ∧ MayWrite H_10 (((Addr.mk H.size 0 none)).add 6) 1 ∧ NewH (setH H_10 (((Addr.mk H.size 0 none)).add 6) (.int .i64 (IntKind.i64.wrap (x7 + 1)))) fun H_27 =>
 MayWrite H_27 (((Addr.mk H.size 0 none)).add 7) 1 ∧ NewH (setH H_27 (((Addr.mk H.size 0 none)).add 7) (.slice s2.1.1 s2.1.2.1 s2.1.2.2)) fun H_28 =>
 ∃ x04 : Int, ∃ x14 : Int, ∃ x24 : Int, ∃ (x3A4 : Option Addr) (x3n4 x3c4 : Nat), ∃ (x4A4 : Option Addr) (x4n4 x4c4 : Nat), ∃ (x5A4 : Option Addr) (x5n4 x5c4 : Nat), ∃ x64 : Int, ∃ (x7A4 : Option Addr) (x7n4 x7c4 : Nat), cellH H_28 (Addr.mk H.size 0 none) = some (.int .u64 x04) ∧ cellH H_28 (((Addr.mk H.size 0 none)).add 1) = some (.int .i64 x14) ∧ cellH H_28 (((Addr.mk H.size 0 none)).add 2) = some (.int .i64 x24) ∧ cellH H_28 (((Addr.mk H.size 0 none)).add 3) = some (.slice x3A4 x3n4 x3c4) ∧ cellH H_28 (((Addr.mk H.size 0 none)).add 4) = some (.slice x4A4 x4n4 x4c4) ∧ cellH H_28 (((Addr.mk H.size 0 none)).add 5) = some (.slice x5A4 x5n4 x5c4) ∧ cellH H_28 (((Addr.mk H.size 0 none)).add 6) = some (.int .i64 x64) ∧ cellH H_28 (((Addr.mk H.size 0 none)).add 7) = some (.slice x7A4 x7n4 x7c4) ∧ MayWrite H_28 (Addr.mk H_.size 0 none) 8 ∧ NewH (setH (setH (setH (setH (setH (setH (setH (setH H_28 (Addr.mk H_.size 0 none) (.int .u64 x04)) (((Addr.mk H_.size 0 none)).add 1) (.int .i64 x14)) (((Addr.mk H_.size 0 none)).add 2) (.int .i64 x24)) (((Addr.mk H_.size 0 none)).add 3) (.slice x3A4 x3n4 x3c4)) (((Addr.mk H_.size 0 none)).add 4) (.slice x4A4 x4n4 x4c4)) (((Addr.mk H_.size 0 none)).add 5) (.slice x5A4 x5n4 x5c4)) (((Addr.mk H_.size 0 none)).add 6) (.int .i64 x64)) (((Addr.mk H_.size 0 none)).add 7) (.slice x7A4 x7n4 x7c4)) fun H_29 =>
 ∃ x05 : Int, ∃ x15 : Int, ∃ x25 : Int, ∃ (x3A5 : Option Addr) (x3n5 x3c5 : Nat), ∃ (x4A5 : Option Addr) (x4n5 x4c5 : Nat), ∃ (x5A5 : Option Addr) (x5n5 x5c5 : Nat), ∃ x65 : Int, ∃ (x7A5 : Option Addr) (x7n5 x7c5 : Nat), cellH H_29 (Addr.mk H_.size 0 none) = some (.int .u64 x05) ∧ cellH H_29 (((Addr.mk H_.size 0 none)).add 1) = some (.int .i64 x15) ∧ cellH H_29 (((Addr.mk H_.size 0 none)).add 2) = some (.int .i64 x25) ∧ cellH H_29 (((Addr.mk H_.size 0 none)).add 3) = some (.slice x3A5 x3n5 x3c5) ∧ cellH H_29 (((Addr.mk H_.size 0 none)).add 4) = some (.slice x4A5 x4n5 x4c5) ∧ cellH H_29 (((Addr.mk H_.size 0 none)).add 5) = some (.slice x5A5 x5n5 x5c5) ∧ cellH H_29 (((Addr.mk H_.size 0 none)).add 6) = some (.int .i64 x65) ∧ cellH H_29 (((Addr.mk H_.size 0 none)).add 7) = some (.slice x7A5 x7n5 x7c5) ∧ R (.tuple #[.slice (some (Addr.mk H_2.size 0 none)) (Int.toNat x) (Int.toNat x), .slice (some (Addr.mk H_3.size 0 none)) (Int.toNat x) (Int.toNat x), .agg #[.int .u64 x05, .int .i64 x15, .int .i64 x25, .slice x3A5 x3n5 x3c5, .slice x4A5 x4n5 x4c5, .slice x5A5 x5n5 x5c5, .int .i64 x65, .slice x7A5 x7n5 x7c5]]) H_29))) ∧ 0 ≤ x ∧ x ≤ x ∧ x * 24 ≤ 2 ^ 48 ∧ x < 2 ^ 62 ∧ NewH (H_2.push (.cells (repl (Int.toNat x) [.slice none 0 0]).toArray 47 (0, 0))) fun H_30 =>
 0 ≤ x ∧ x ≤ x ∧ x * 24 ≤ 2 ^ 48 ∧ x < 2 ^ 62 ∧ NewH (H_30.push (.cells (repl (Int.toNat x) [.slice none 0 0]).toArray 27 (0, 0))) fun H_31 =>
 LoopI (σ := Int) (fun κ => κ 0 H_31) fun s5 z5 H_32 next5 =>
 cond (decide (s5 < ((Int.toNat x : Nat) : Int))) (0 ≤ x ∧ x ≤ x ∧ x * 24 ≤ 2 ^ 48 ∧ x < 2 ^ 62 ∧ NewH (H_32.push (.cells (repl (Int.toNat x) [.slice none 0 0]).toArray 47 (0, 0))) fun H_33 =>
 ∃ a30 : Addr, (some (Addr.mk H_30.size 0 none) : Option Addr) = some a30 ∧ 0 ≤ s5 ∧ s5 < ((Int.toNat x : Nat) : Int) ∧ MayWrite H_33 (a30.add (Int.toNat s5)) 1 ∧ NewH (setH H_33 (a30.add (Int.toNat s5)) (.slice (some (Addr.mk H_32.size 0 none)) (Int.toNat x) (Int.toNat x))) fun H_34 =>
 next5 (IntKind.i64.wrap (s5 + 1)) H_34)
  (NewH (H_32.push (.cells #[] 57 (0, 0))) fun H_35 =>
 ∃ (xA25 : Option Addr) (xn25 xc25 : Nat), cellH H_35 (((Addr.mk H.size 0 none)).add 7) = some (.slice xA25 xn25 xc25) ∧ AppendV 57 4 48 [.int .i64 0, .int .i64 0, .int .i64 0, .slice none 0 0] H_35 (some (Addr.mk H_32.size 0 none)) 0 0 xA25 xn25 fun vA5 vn5 vc5 H_36 =>
 LoopI (σ := (Option Addr × Nat × Nat) × Int) (fun κ => κ ((vA5, vn5, vc5), 1) H_36) fun s6 z6 H_37 next6 =>
 cond (decide (s6.2 ≤ x)) (∃ a31 : Addr, saidA = some a31 ∧ 0 ≤ (IntKind.i64.wrap (s6.2 - 1)) ∧ (IntKind.i64.wrap (s6.2 - 1)) < ((saidn : Nat) : Int) ∧ ∃ x06 : Int, ∃ x16 : Int, ∃ x26 : Int, ∃ (x3A6 : Option Addr) (x3n6 x3c6 : Nat), ∃ (x4A6 : Option Addr) (x4n6 x4c6 : Nat), ∃ (x5A6 : Option Addr) (x5n6 x5c6 : Nat), ∃ x66 : Int, ∃ (x7A6 : Option Addr) (x7n6 x7c6 : Nat), cellH H_37 (Addr.mk H.size 0 none) = some (.int .u64 x06) ∧ cellH H_37 (((Addr.mk H.size 0 none)).add 1) = some (.int .i64 x16) ∧ cellH H_37 (((Addr.mk H.size 0 none)).add 2) = some (.int .i64 x26) ∧ cellH H_37 (((Addr.mk H.size 0 none)).add 3) = some (.slice x3A6 x3n6 x3c6) ∧ cellH H_37 (((Addr.mk H.size 0 none)).add 4) = some (.slice x4A6 x4n6 x4c6) ∧ cellH H_37 (((Addr.mk H.size 0 none)).add 5) = some (.slice x5A6 x5n6 x5c6) ∧ cellH H_37 (((Addr.mk H.size 0 none)).add 6) = some (.int .i64 x66) ∧ cellH H_37 (((Addr.mk H.size 0 none)).add 7) = some (.slice x7A6 x7n6 x7c6) ∧ ∃ (xA26 : Option Addr) (xn26 xc26 : Nat), cellH H_37 (a31.add (Int.toNat (IntKind.i64.wrap (s6.2 - 1)))) = some (.slice xA26 xn26 xc26) ∧ CallH P N.juntoref17_Act [.agg #[.int .u64 x06, .int .i64 x16, .int .i64 x26, .slice x3A6 x3n6 x3c6, .slice x4A6 x4n6 x4c6, .slice x5A6 x5n6 x5c6, .int .i64 x66, .slice x7A6 x7n6 x7c6], .int .i64 s6.2, .int .i64 0, .slice xA26 xn26 xc26] H_37 fun v9 H_38 =>
 ∃ (rA4 : Option Addr) (rn4 rc4 : Nat), v9 = .slice rA4 rn4 rc4 ∧ ∃ a32 : Addr, (some (Addr.mk H_2.size 0 none) : Option Addr) = some a32 ∧ 0 ≤ (IntKind.i64.wrap (s6.2 - 1)) ∧ (IntKind.i64.wrap (s6.2 - 1)) < ((Int.toNat x : Nat) : Int) ∧ MayWrite H_38 (a32.add (Int.toNat (IntKind.i64.wrap (s6.2 - 1)))) 1 ∧ NewH (setH H_38 (a32.add (Int.toNat (IntKind.i64.wrap (s6.2 - 1)))) (.slice rA4 rn4 rc4)) fun H_39 =>
 ∃ a33 : Addr, (some (Addr.mk H_2.size 0 none) : Option Addr) = some a33 ∧ 0 ≤ (IntKind.i64.wrap (s6.2 - 1)) ∧ (IntKind.i64.wrap (s6.2 - 1)) < ((Int.toNat x : Nat) : Int) ∧ ∃ (xA27 : Option Addr) (xn27 xc27 : Nat), cellH H_39 (a33.add (Int.toNat (IntKind.i64.wrap (s6.2 - 1)))) = some (.slice xA27 xn27 xc27) ∧ cond (decide (((xn27 : Nat) : Int) > 0)) (∃ a34 : Addr, (some (Addr.mk H_2.size 0 none) : Option Addr) = some a34 ∧ 0 ≤ (IntKind.i64.wrap (s6.2 - 1)) ∧ (IntKind.i64.wrap (s6.2 - 1)) < ((Int.toNat x : Nat) : Int) ∧ ∃ x8 : Int, cellH H_39 (((Addr.mk H.size 0 none)).add 6) = some (.int .i64 x8) ∧ ∃ (xA28 : Option Addr) (xn28 xc28 : Nat), cellH H_39 (a34.add (Int.toNat (IntKind.i64.wrap (s6.2 - 1)))) = some (.slice xA28 xn28 xc28) ∧ NewH (H_39.push (.cells #[.int .i64 (IntKind.i64.wrap (x8 + 1)), .int .i64 s6.2, .int .i64 0, .slice xA28 xn28 xc28] 57 (0, 0))) fun H_40 =>
 AppendV 57 4 48 [.int .i64 0, .int .i64 0, .int .i64 0, .slice none 0 0] H_40 s6.1.1 s6.1.2.1 s6.1.2.2 (some (Addr.mk H_39.size 0 none)) 1 fun vA6 vn6 vc6 H_41 =>
 LoopI (σ := (Option Addr × Nat × Nat) × Int) (fun κ => κ ((vA6, vn6, vc6), 1) H_41) fun s7 z7 H_42 next7 =>
 cond (decide (s7.2 ≤ x)) (cond (s6.2 == s7.2) (∃ a35 : Addr, (some (Addr.mk H_30.size 0 none) : Option Addr) = some a35 ∧ 0 ≤ (IntKind.i64.wrap (s7.2 - 1)) ∧ (IntKind.i64.wrap (s7.2 - 1)) < ((Int.toNat x : Nat) : Int) ∧ ∃ a36 : Addr, privateA = some a36 ∧ 0 ≤ (IntKind.i64.wrap (s6.2 - 1)) ∧ (IntKind.i64.wrap (s6.2 - 1)) < ((privaten : Nat) : Int) ∧ ∃ (xA29 : Option Addr) (xn29 xc29 : Nat), cellH H_42 (a35.add (Int.toNat (IntKind.i64.wrap (s7.2 - 1)))) = some (.slice xA29 xn29 xc29) ∧ ∃ (xA30 : Option Addr) (xn30 xc30 : Nat), cellH H_42 (a36.add (Int.toNat (IntKind.i64.wrap (s6.2 - 1)))) = some (.slice xA30 xn30 xc30) ∧ ∃ a37 : Addr, xA30 = some a37 ∧ 0 ≤ (IntKind.i64.wrap (s7.2 - 1)) ∧ (IntKind.i64.wrap (s7.2 - 1)) < ((xn30 : Nat) : Int) ∧ ∃ (xA31 : Option Addr) (xn31 xc31 : Nat), cellH H_42 (a37.add (Int.toNat (IntKind.i64.wrap (s7.2 - 1)))) = some (.slice xA31 xn31 xc31) ∧ ∃ a38 : Addr, xA29 = some a38 ∧ 0 ≤ (IntKind.i64.wrap (s6.2 - 1)) ∧ (IntKind.i64.wrap (s6.2 - 1)) < ((xn29 : Nat) : Int) ∧ MayWrite H_42 (a38.add (Int.toNat (IntKind.i64.wrap (s6.2 - 1)))) 1 ∧ NewH (setH H_42 (a38.add (Int.toNat (IntKind.i64.wrap (s6.2 - 1)))) (.slice xA31 xn31 xc31)) fun H_43 =>
 next7 ((s7.1.1, s7.1.2.1, s7.1.2.2), IntKind.i64.wrap (s7.2 + 1)) H_43)
  (∃ a39 : Addr, (some (Addr.mk H_30.size 0 none) : Option Addr) = some a39 ∧ 0 ≤ (IntKind.i64.wrap (s7.2 - 1)) ∧ (IntKind.i64.wrap (s7.2 - 1)) < ((Int.toNat x : Nat) : Int) ∧ ∃ a40 : Addr, privateA = some a40 ∧ 0 ≤ (IntKind.i64.wrap (s6.2 - 1)) ∧ (IntKind.i64.wrap (s6.2 - 1)) < ((privaten : Nat) : Int) ∧ ∃ (xA32 : Option Addr) (xn32 xc32 : Nat), cellH H_42 (a39.add (Int.toNat (IntKind.i64.wrap (s7.2 - 1)))) = some (.slice xA32 xn32 xc32) ∧ ∃ x07 : Int, ∃ x17 : Int, ∃ x27 : Int, ∃ (x3A7 : Option Addr) (x3n7 x3c7 : Nat), ∃ (x4A7 : Option Addr) (x4n7 x4c7 : Nat), ∃ (x5A7 : Option Addr) (x5n7 x5c7 : Nat), ∃ x67 : Int, ∃ (x7A7 : Option Addr) (x7n7 x7c7 : Nat), cellH H_42 (Addr.mk H.size 0 none) = some (.int .u64 x07) ∧ cellH H_42 (((Addr.mk H.size 0 none)).add 1) = some (.int .i64 x17) ∧ cellH H_42 (((Addr.mk H.size 0 none)).add 2) = some (.int .i64 x27) ∧ cellH H_42 (((Addr.mk H.size 0 none)).add 3) = some (.slice x3A7 x3n7 x3c7) ∧ cellH H_42 (((Addr.mk H.size 0 none)).add 4) = some (.slice x4A7 x4n7 x4c7) ∧ cellH H_42 (((Addr.mk H.size 0 none)).add 5) = some (.slice x5A7 x5n7 x5c7) ∧ cellH H_42 (((Addr.mk H.size 0 none)).add 6) = some (.int .i64 x67) ∧ cellH H_42 (((Addr.mk H.size 0 none)).add 7) = some (.slice x7A7 x7n7 x7c7) ∧ ∃ (xA33 : Option Addr) (xn33 xc33 : Nat), cellH H_42 (a40.add (Int.toNat (IntKind.i64.wrap (s6.2 - 1)))) = some (.slice xA33 xn33 xc33) ∧ ∃ a41 : Addr, xA33 = some a41 ∧ 0 ≤ (IntKind.i64.wrap (s7.2 - 1)) ∧ (IntKind.i64.wrap (s7.2 - 1)) < ((xn33 : Nat) : Int) ∧ ∃ (xA34 : Option Addr) (xn34 xc34 : Nat), cellH H_42 (a41.add (Int.toNat (IntKind.i64.wrap (s7.2 - 1)))) = some (.slice xA34 xn34 xc34) ∧ CallH P N.juntoref17_Act [.agg #[.int .u64 x07, .int .i64 x17, .int .i64 x27, .slice x3A7 x3n7 x3c7, .slice x4A7 x4n7 x4c7, .slice x5A7 x5n7 x5c7, .int .i64 x67, .slice x7A7 x7n7 x7c7], .int .i64 s6.2, .int .i64 s7.2, .slice xA34 xn34 xc34] H_42 fun v11 H_44 =>
 ∃ (rA5 : Option Addr) (rn5 rc5 : Nat), v11 = .slice rA5 rn5 rc5 ∧ cellH H_44 (a39.add (Int.toNat (IntKind.i64.wrap (s7.2 - 1)))) = some (.slice xA32 xn32 xc32) ∧ ∃ a42 : Addr, xA32 = some a42 ∧ 0 ≤ (IntKind.i64.wrap (s6.2 - 1)) ∧ (IntKind.i64.wrap (s6.2 - 1)) < ((xn32 : Nat) : Int) ∧ MayWrite H_44 (a42.add (Int.toNat (IntKind.i64.wrap (s6.2 - 1)))) 1 ∧ NewH (setH H_44 (a42.add (Int.toNat (IntKind.i64.wrap (s6.2 - 1)))) (.slice rA5 rn5 rc5)) fun H_45 =>
 ∃ a43 : Addr, (some (Addr.mk H_30.size 0 none) : Option Addr) = some a43 ∧ 0 ≤ (IntKind.i64.wrap (s7.2 - 1)) ∧ (IntKind.i64.wrap (s7.2 - 1)) < ((Int.toNat x : Nat) : Int) ∧ ∃ (xA35 : Option Addr) (xn35 xc35 : Nat), cellH H_45 (a43.add (Int.toNat (IntKind.i64.wrap (s7.2 - 1)))) = some (.slice xA35 xn35 xc35) ∧ ∃ a44 : Addr, xA35 = some a44 ∧ 0 ≤ (IntKind.i64.wrap (s6.2 - 1)) ∧ (IntKind.i64.wrap (s6.2 - 1)) < ((xn35 : Nat) : Int) ∧ ∃ (xA36 : Option Addr) (xn36 xc36 : Nat), cellH H_45 (a44.add (Int.toNat (IntKind.i64.wrap (s6.2 - 1)))) = some (.slice xA36 xn36 xc36) ∧ cond (decide (((xn36 : Nat) : Int) > 0)) (∃ a45 : Addr, (some (Addr.mk H_30.size 0 none) : Option Addr) = some a45 ∧ 0 ≤ (IntKind.i64.wrap (s7.2 - 1)) ∧ (IntKind.i64.wrap (s7.2 - 1)) < ((Int.toNat x : Nat) : Int) ∧ ∃ x9 : Int, cellH H_45 (((Addr.mk H.size 0 none)).add 6) = some (.int .i64 x9) ∧ ∃ (xA37 : Option Addr) (xn37 xc37 : Nat), cellH H_45 (a45.add (Int.toNat (IntKind.i64.wrap (s7.2 - 1)))) = some (.slice xA37 xn37 xc37) ∧ ∃ a46 : Addr, xA37 = some a46 ∧ 0 ≤ (IntKind.i64.wrap (s6.2 - 1)) ∧ (IntKind.i64.wrap (s6.2 - 1)) < ((xn37 : Nat) : Int) ∧ ∃ (xA38 : Option Addr) (xn38 xc38 : Nat), cellH H_45 (a46.add (Int.toNat (IntKind.i64.wrap (s6.2 - 1)))) = some (.slice xA38 xn38 xc38) ∧ NewH (H_45.push (.cells #[.int .i64 (IntKind.i64.wrap (x9 + 1)), .int .i64 s6.2, .int .i64 s7.2, .slice xA38 xn38 xc38] 57 (0, 0))) fun H_46 =>
 AppendV 57 4 48 [.int .i64 0, .int .i64 0, .int .i64 0, .slice none 0 0] H_46 s7.1.1 s7.1.2.1 s7.1.2.2 (some (Addr.mk H_45.size 0 none)) 1 fun vA7 vn7 vc7 H_47 =>
 next7 ((vA7, vn7, vc7), IntKind.i64.wrap (s7.2 + 1)) H_47)
  (next7 ((s7.1.1, s7.1.2.1, s7.1.2.2), IntKind.i64.wrap (s7.2 + 1)) H_45)))
  (next6 ((s7.1.1, s7.1.2.1, s7.1.2.2), IntKind.i64.wrap (s6.2 + 1)) H_42))
  (LoopI (σ := (Option Addr × Nat × Nat) × Int) (fun κ => κ ((s6.1.1, s6.1.2.1, s6.1.2.2), 1) H_39) fun s8 z8 H_48 next8 =>
 cond (decide (s8.2 ≤ x)) (cond (s6.2 == s8.2) (∃ a47 : Addr, (some (Addr.mk H_30.size 0 none) : Option Addr) = some a47 ∧ 0 ≤ (IntKind.i64.wrap (s8.2 - 1)) ∧ (IntKind.i64.wrap (s8.2 - 1)) < ((Int.toNat x : Nat) : Int) ∧ ∃ a48 : Addr, privateA = some a48 ∧ 0 ≤ (IntKind.i64.wrap (s6.2 - 1)) ∧ (IntKind.i64.wrap (s6.2 - 1)) < ((privaten : Nat) : Int) ∧ ∃ (xA39 : Option Addr) (xn39 xc39 : Nat), cellH H_48 (a47.add (Int.toNat (IntKind.i64.wrap (s8.2 - 1)))) = some (.slice xA39 xn39 xc39) ∧ ∃ (xA40 : Option Addr) (xn40 xc40 : Nat), cellH H_48 (a48.add (Int.toNat (IntKind.i64.wrap (s6.2 - 1)))) = some (.slice xA40 xn40 xc40) ∧ ∃ a49 : Addr, xA40 = some a49 ∧ 0 ≤ (IntKind.i64.wrap (s8.2 - 1)) ∧ (IntKind.i64.wrap (s8.2 - 1)) < ((xn40 : Nat) : Int) ∧ ∃ (xA41 : Option Addr) (xn41 xc41 : Nat), cellH H_48 (a49.add (Int.toNat (IntKind.i64.wrap (s8.2 - 1)))) = some (.slice xA41 xn41 xc41) ∧ ∃ a50 : Addr, xA39 = some a50 ∧ 0 ≤ (IntKind.i64.wrap (s6.2 - 1)) ∧ (IntKind.i64.wrap (s6.2 - 1)) < ((xn39 : Nat) : Int) ∧ MayWrite H_48 (a50.add (Int.toNat (IntKind.i64.wrap (s6.2 - 1)))) 1 ∧ NewH (setH H_48 (a50.add (Int.toNat (IntKind.i64.wrap (s6.2 - 1)))) (.slice xA41 xn41 xc41)) fun H_49 =>
 next8 ((s8.1.1, s8.1.2.1, s8.1.2.2), IntKind.i64.wrap (s8.2 + 1)) H_49)
  (∃ a51 : Addr, (some (Addr.mk H_30.size 0 none) : Option Addr) = some a51 ∧ 0 ≤ (IntKind.i64.wrap (s8.2 - 1)) ∧ (IntKind.i64.wrap (s8.2 - 1)) < ((Int.toNat x : Nat) : Int) ∧ ∃ a52 : Addr, privateA = some a52 ∧ 0 ≤ (IntKind.i64.wrap (s6.2 - 1)) ∧ (IntKind.i64.wrap (s6.2 - 1)) < ((privaten : Nat) : Int) ∧ ∃ (xA42 : Option Addr) (xn42 xc42 : Nat), cellH H_48 (a51.add (Int.toNat (IntKind.i64.wrap (s8.2 - 1)))) = some (.slice xA42 xn42 xc42) ∧ ∃ x08 : Int, ∃ x18 : Int, ∃ x28 : Int, ∃ (x3A8 : Option Addr) (x3n8 x3c8 : Nat), ∃ (x4A8 : Option Addr) (x4n8 x4c8 : Nat), ∃ (x5A8 : Option Addr) (x5n8 x5c8 : Nat), ∃ x68 : Int, ∃ (x7A8 : Option Addr) (x7n8 x7c8 : Nat), cellH H_48 (Addr.mk H.size 0 none) = some (.int .u64 x08) ∧ cellH H_48 (((Addr.mk H.size 0 none)).add 1) = some (.int .i64 x18) ∧ cellH H_48 (((Addr.mk H.size 0 none)).add 2) = some (.int .i64 x28) ∧ cellH H_48 (((Addr.mk H.size 0 none)).add 3) = some (.slice x3A8 x3n8 x3c8) ∧ cellH H_48 (((Addr.mk H.size 0 none)).add 4) = some (.slice x4A8 x4n8 x4c8) ∧ cellH H_48 (((Addr.mk H.size 0 none)).add 5) = some (.slice x5A8 x5n8 x5c8) ∧ cellH H_48 (((Addr.mk H.size 0 none)).add 6) = some (.int .i64 x68) ∧ cellH H_48 (((Addr.mk H.size 0 none)).add 7) = some (.slice x7A8 x7n8 x7c8) ∧ ∃ (xA43 : Option Addr) (xn43 xc43 : Nat), cellH H_48 (a52.add (Int.toNat (IntKind.i64.wrap (s6.2 - 1)))) = some (.slice xA43 xn43 xc43) ∧ ∃ a53 : Addr, xA43 = some a53 ∧ 0 ≤ (IntKind.i64.wrap (s8.2 - 1)) ∧ (IntKind.i64.wrap (s8.2 - 1)) < ((xn43 : Nat) : Int) ∧ ∃ (xA44 : Option Addr) (xn44 xc44 : Nat), cellH H_48 (a53.add (Int.toNat (IntKind.i64.wrap (s8.2 - 1)))) = some (.slice xA44 xn44 xc44) ∧ CallH P N.juntoref17_Act [.agg #[.int .u64 x08, .int .i64 x18, .int .i64 x28, .slice x3A8 x3n8 x3c8, .slice x4A8 x4n8 x4c8, .slice x5A8 x5n8 x5c8, .int .i64 x68, .slice x7A8 x7n8 x7c8], .int .i64 s6.2, .int .i64 s8.2, .slice xA44 xn44 xc44] H_48 fun v13 H_50 =>
 ∃ (rA6 : Option Addr) (rn6 rc6 : Nat), v13 = .slice rA6 rn6 rc6 ∧ cellH H_50 (a51.add (Int.toNat (IntKind.i64.wrap (s8.2 - 1)))) = some (.slice xA42 xn42 xc42) ∧ ∃ a54 : Addr, xA42 = some a54 ∧ 0 ≤ (IntKind.i64.wrap (s6.2 - 1)) ∧ (IntKind.i64.wrap (s6.2 - 1)) < ((xn42 : Nat) : Int) ∧ MayWrite H_50 (a54.add (Int.toNat (IntKind.i64.wrap (s6.2 - 1)))) 1 ∧ NewH (setH H_50 (a54.add (Int.toNat (IntKind.i64.wrap (s6.2 - 1)))) (.slice rA6 rn6 rc6)) fun H_51 =>
 ∃ a55 : Addr, (some (Addr.mk H_30.size 0 none) : Option Addr) = some a55 ∧ 0 ≤ (IntKind.i64.wrap (s8.2 - 1)) ∧ (IntKind.i64.wrap (s8.2 - 1)) < ((Int.toNat x : Nat) : Int) ∧ ∃ (xA45 : Option Addr) (xn45 xc45 : Nat), cellH H_51 (a55.add (Int.toNat (IntKind.i64.wrap (s8.2 - 1)))) = some (.slice xA45 xn45 xc45) ∧ ∃ a56 : Addr, xA45 = some a56 ∧ 0 ≤ (IntKind.i64.wrap (s6.2 - 1)) ∧ (IntKind.i64.wrap (s6.2 - 1)) < ((xn45 : Nat) : Int) ∧ ∃ (xA46 : Option Addr) (xn46 xc46 : Nat), cellH H_51 (a56.add (Int.toNat (IntKind.i64.wrap (s6.2 - 1)))) = some (.slice xA46 xn46 xc46) ∧ cond (decide (((xn46 : Nat) : Int) > 0)) (∃ a57 : Addr, (some (Addr.mk H_30.size 0 none) : Option Addr) = some a57 ∧ 0 ≤ (IntKind.i64.wrap (s8.2 - 1)) ∧ (IntKind.i64.wrap (s8.2 - 1)) < ((Int.toNat x : Nat) : Int) ∧ ∃ x10 : Int, cellH H_51 (((Addr.mk H.size 0 none)).add 6) = some (.int .i64 x10) ∧ ∃ (xA47 : Option Addr) (xn47 xc47 : Nat), cellH H_51 (a57.add (Int.toNat (IntKind.i64.wrap (s8.2 - 1)))) = some (.slice xA47 xn47 xc47) ∧ ∃ a58 : Addr, xA47 = some a58 ∧ 0 ≤ (IntKind.i64.wrap (s6.2 - 1)) ∧ (IntKind.i64.wrap (s6.2 - 1)) < ((xn47 : Nat) : Int) ∧ ∃ (xA48 : Option Addr) (xn48 xc48 : Nat), cellH H_51 (a58.add (Int.toNat (IntKind.i64.wrap (s6.2 - 1)))) = some (.slice xA48 xn48 xc48) ∧ NewH (H_51.push (.cells #[.int .i64 (IntKind.i64.wrap (x10 + 1)), .int .i64 s6.2, .int .i64 s8.2, .slice xA48 xn48 xc48] 57 (0, 0))) fun H_52 =>
 AppendV 57 4 48 [.int .i64 0, .int .i64 0, .int .i64 0, .slice none 0 0] H_52 s8.1.1 s8.1.2.1 s8.1.2.2 (some (Addr.mk H_51.size 0 none)) 1 fun vA8 vn8 vc8 H_53 =>
 next8 ((vA8, vn8, vc8), IntKind.i64.wrap (s8.2 + 1)) H_53)
  (next8 ((s8.1.1, s8.1.2.1, s8.1.2.2), IntKind.i64.wrap (s8.2 + 1)) H_51)))
  (next6 ((s8.1.1, s8.1.2.1, s8.1.2.2), IntKind.i64.wrap (s6.2 + 1)) H_48)))
  (∃ x11 : Int, cellH H_37 (((Addr.mk H.size 0 none)).add 6) = some (.int .i64 x11) ∧ MayWrite H_37 (((Addr.mk H.size 0 none)).add 6) 1 ∧ NewH (setH H_37 (((Addr.mk H.size 0 none)).add 6) (.int .i64 (IntKind.i64.wrap (x11 + 1)))) fun H_54 =>
 MayWrite H_54 (((Addr.mk H.size 0 none)).add 7) 1 ∧ NewH (setH H_54 (((Addr.mk H.size 0 none)).add 7) (.slice s6.1.1 s6.1.2.1 s6.1.2.2)) fun H_55 =>
 ∃ x09 : Int, ∃ x19 : Int, ∃ x29 : Int, ∃ (x3A9 : Option Addr) (x3n9 x3c9 : Nat), ∃ (x4A9 : Option Addr) (x4n9 x4c9 : Nat), ∃ (x5A9 : Option Addr) (x5n9 x5c9 : Nat), ∃ x69 : Int, ∃ (x7A9 : Option Addr) (x7n9 x7c9 : Nat), cellH H_55 (Addr.mk H.size 0 none) = some (.int .u64 x09) ∧ cellH H_55 (((Addr.mk H.size 0 none)).add 1) = some (.int .i64 x19) ∧ cellH H_55 (((Addr.mk H.size 0 none)).add 2) = some (.int .i64 x29) ∧ cellH H_55 (((Addr.mk H.size 0 none)).add 3) = some (.slice x3A9 x3n9 x3c9) ∧ cellH H_55 (((Addr.mk H.size 0 none)).add 4) = some (.slice x4A9 x4n9 x4c9) ∧ cellH H_55 (((Addr.mk H.size 0 none)).add 5) = some (.slice x5A9 x5n9 x5c9) ∧ cellH H_55 (((Addr.mk H.size 0 none)).add 6) = some (.int .i64 x69) ∧ cellH H_55 (((Addr.mk H.size 0 none)).add 7) = some (.slice x7A9 x7n9 x7c9) ∧ MayWrite H_55 (Addr.mk H_.size 0 none) 8 ∧ NewH (setH (setH (setH (setH (setH (setH (setH (setH H_55 (Addr.mk H_.size 0 none) (.int .u64 x09)) (((Addr.mk H_.size 0 none)).add 1) (.int .i64 x19)) (((Addr.mk H_.size 0 none)).add 2) (.int .i64 x29)) (((Addr.mk H_.size 0 none)).add 3) (.slice x3A9 x3n9 x3c9)) (((Addr.mk H_.size 0 none)).add 4) (.slice x4A9 x4n9 x4c9)) (((Addr.mk H_.size 0 none)).add 5) (.slice x5A9 x5n9 x5c9)) (((Addr.mk H_.size 0 none)).add 6) (.int .i64 x69)) (((Addr.mk H_.size 0 none)).add 7) (.slice x7A9 x7n9 x7c9)) fun H_56 =>
 ∃ x010 : Int, ∃ x110 : Int, ∃ x210 : Int, ∃ (x3A10 : Option Addr) (x3n10 x3c10 : Nat), ∃ (x4A10 : Option Addr) (x4n10 x4c10 : Nat), ∃ (x5A10 : Option Addr) (x5n10 x5c10 : Nat), ∃ x610 : Int, ∃ (x7A10 : Option Addr) (x7n10 x7c10 : Nat), cellH H_56 (Addr.mk H_.size 0 none) = some (.int .u64 x010) ∧ cellH H_56 (((Addr.mk H_.size 0 none)).add 1) = some (.int .i64 x110) ∧ cellH H_56 (((Addr.mk H_.size 0 none)).add 2) = some (.int .i64 x210) ∧ cellH H_56 (((Addr.mk H_.size 0 none)).add 3) = some (.slice x3A10 x3n10 x3c10) ∧ cellH H_56 (((Addr.mk H_.size 0 none)).add 4) = some (.slice x4A10 x4n10 x4c10) ∧ cellH H_56 (((Addr.mk H_.size 0 none)).add 5) = some (.slice x5A10 x5n10 x5c10) ∧ cellH H_56 (((Addr.mk H_.size 0 none)).add 6) = some (.int .i64 x610) ∧ cellH H_56 (((Addr.mk H_.size 0 none)).add 7) = some (.slice x7A10 x7n10 x7c10) ∧ R (.tuple #[.slice (some (Addr.mk H_30.size 0 none)) (Int.toNat x) (Int.toNat x), .slice (some (Addr.mk H_2.size 0 none)) (Int.toNat x) (Int.toNat x), .agg #[.int .u64 x010, .int .i64 x110, .int .i64 x210, .slice x3A10 x3n10 x3c10, .slice x4A10 x4n10 x4c10, .slice x5A10 x5n10 x5c10, .int .i64 x610, .slice x7A10 x7n10 x7c10]]) H_56))
theorem juntoref17_Exchange.ok (w_0 : Int) (w_1 : Int) (w_2 : Int) (w_3A : Option Addr) (w_3n w_3c : Nat) (w_4A : Option Addr) (w_4n w_4c : Nat) (w_5A : Option Addr) (w_5n w_5c : Nat) (w_6 : Int) (w_7A : Option Addr) (w_7n w_7c : Nat) (privateA : Option Addr) (privaten privatec : Nat) (saidA : Option Addr) (saidn saidc : Nat) (H : Heap) (R : Value → Heap → Prop) (h : juntoref17_Exchange.W w_0 w_1 w_2 w_3A w_3n w_3c w_4A w_4n w_4c w_5A w_5n w_5c w_6 w_7A w_7n w_7c privateA privaten privatec saidA saidn saidc H R) : CallH P N.juntoref17_Exchange [.agg #[.int .u64 w_0, .int .i64 w_1, .int .i64 w_2, .slice w_3A w_3n w_3c, .slice w_4A w_4n w_4c, .slice w_5A w_5n w_5c, .int .i64 w_6, .slice w_7A w_7n w_7c], .slice privateA privaten privatec, .slice saidA saidn saidc] H R :=
 okW Try.func35 (by kernel_rfl) Try.ntmps35 juntoref17_Exchange.A (by kernel_rfl) (by kernel_rfl) h
def juntoref17_Act.A : Ann where
 loops := fun i => match i with
   | 8200 => [(14, .int .i64)]
   | _ => []
 plans := fun i => match i with
   | _ => .stop
def juntoref17_Act.W (w_0 : Int) (w_1 : Int) (w_2 : Int) (w_3A : Option Addr) (w_3n w_3c : Nat) (w_4A : Option Addr) (w_4n w_4c : Nat) (w_5A : Option Addr) (w_5n w_5c : Nat) (w_6 : Int) (w_7A : Option Addr) (w_7n w_7c : Nat) (from_ : Int) (to_ : Int) (dataA : Option Addr) (datan datac : Nat) (H : Heap) (R : Value → Heap → Prop) : Prop :=
 NewH (H.push (.cells #[.int .u64 w_0, .int .i64 w_1, .int .i64 w_2, .slice w_3A w_3n w_3c, .slice w_4A w_4n w_4c, .slice w_5A w_5n w_5c, .int .i64 w_6, .slice w_7A w_7n w_7c] 30 (0, 0))) fun H_ =>
 ∃ (xA : Option Addr) (xn xc : Nat), cellH H_ (((Addr.mk H.size 0 none)).add 4) = some (.slice xA xn xc) ∧ LoopI (σ := Int) (fun κ => κ 0 H_) fun s z H_2 next =>
 cond (decide (s < ((xn : Nat) : Int))) (∃ a : Addr, xA = some a ∧ 0 ≤ s ∧ s < ((xn : Nat) : Int) ∧ ∃ x0 : Int, ∃ x1 : Int, ∃ x2 : Int, ∃ x3 : Bool, ∃ (x4A : Option Addr) (x4n x4c : Nat), cellH H_2 (a.add ((Int.toNat s) * 5)) = some (.int .i64 x0) ∧ cellH H_2 ((a.add ((Int.toNat s) * 5)).add 1) = some (.int .i64 x1) ∧ cellH H_2 ((a.add ((Int.toNat s) * 5)).add 2) = some (.int .i64 x2) ∧ cellH H_2 ((a.add ((Int.toNat s) * 5)).add 3) = some (.bool x3) ∧ cellH H_2 ((a.add ((Int.toNat s) * 5)).add 4) = some (.slice x4A x4n x4c) ∧ NewH (H_2.push (.cells #[.int .i64 0, .int .i64 0, .int .i64 0, .bool false, .slice none 0 0] 60 (0, 0))) fun H_3 =>
 MayWrite H_3 (Addr.mk H_2.size 0 none) 5 ∧ NewH (setH (setH (setH (setH (setH H_3 (Addr.mk H_2.size 0 none) (.int .i64 x0)) (((Addr.mk H_2.size 0 none)).add 1) (.int .i64 x1)) (((Addr.mk H_2.size 0 none)).add 2) (.int .i64 x2)) (((Addr.mk H_2.size 0 none)).add 3) (.bool x3)) (((Addr.mk H_2.size 0 none)).add 4) (.slice x4A x4n x4c)) fun H_4 =>
 ∃ x : Int, cellH H_4 (Addr.mk H_2.size 0 none) = some (.int .i64 x) ∧ ∃ x4 : Int, cellH H_4 (((Addr.mk H.size 0 none)).add 6) = some (.int .i64 x4) ∧ cond (x == (IntKind.i64.wrap (x4 + 1))) (∃ x5 : Int, cellH H_4 (((Addr.mk H_2.size 0 none)).add 1) = some (.int .i64 x5) ∧ cond (x5 == from_) (∃ x6 : Int, cellH H_4 (((Addr.mk H_2.size 0 none)).add 2) = some (.int .i64 x6) ∧ cond (x6 == to_) (∃ x7 : Bool, cellH H_4 (((Addr.mk H_2.size 0 none)).add 3) = some (.bool x7) ∧ cond x7 (R (.slice none 0 0) H_4)
  (∃ (xA2 : Option Addr) (xn2 xc2 : Nat), cellH H_4 (((Addr.mk H_2.size 0 none)).add 4) = some (.slice xA2 xn2 xc2) ∧ R (.slice xA2 xn2 xc2) H_4))
  (next (IntKind.i64.wrap (s + 1)) H_4)) (next (IntKind.i64.wrap (s + 1)) H_4)) (next (IntKind.i64.wrap (s + 1)) H_4))
  (R (.slice dataA datan datac) H_2)
theorem juntoref17_Act.ok (w_0 : Int) (w_1 : Int) (w_2 : Int) (w_3A : Option Addr) (w_3n w_3c : Nat) (w_4A : Option Addr) (w_4n w_4c : Nat) (w_5A : Option Addr) (w_5n w_5c : Nat) (w_6 : Int) (w_7A : Option Addr) (w_7n w_7c : Nat) (from_ : Int) (to_ : Int) (dataA : Option Addr) (datan datac : Nat) (H : Heap) (R : Value → Heap → Prop) (h : juntoref17_Act.W w_0 w_1 w_2 w_3A w_3n w_3c w_4A w_4n w_4c w_5A w_5n w_5c w_6 w_7A w_7n w_7c from_ to_ dataA datan datac H R) : CallH P N.juntoref17_Act [.agg #[.int .u64 w_0, .int .i64 w_1, .int .i64 w_2, .slice w_3A w_3n w_3c, .slice w_4A w_4n w_4c, .slice w_5A w_5n w_5c, .int .i64 w_6, .slice w_7A w_7n w_7c], .int .i64 from_, .int .i64 to_, .slice dataA datan datac] H R :=
 okW Try.func50 (by kernel_rfl) Try.ntmps50 juntoref17_Act.A (by kernel_rfl) (by kernel_rfl) h
end Go.Proofs.Ytpfpnkaeoedeiaa.Sh
namespace Go.Proofs.Ytpfpnkaeoedeiaa.Sh
open Go.Sx Go.Lf
def juntoref17_Is.C (l : (List Int)) (party : Int) (K : Bool → Prop) : Prop :=
 ∀ (Z : Nat → Prop) (H : Heap), ∀ (lA : Option Addr) (ln lc : Nat), ln = l.length → SlF i64L Z H lA lc l → ∀ KK : Value → Heap → Prop,
   (∀ (Z' : Nat → Prop) (H' : Heap), Ext H H' → Old Z H Z' → ∀ (r0 : Bool), K r0 → KK (.bool r0) H') →
   CallH P N.juntoref17_Is [.slice lA ln lc, .int .i64 party] H KK
def juntoref17_Is.Q (l : (List Int)) (party : Int) (K : Bool → Prop) : Prop :=
 LoopQ (τ := Int) 0 fun t nextQ =>
 cond (decide (t < ((l.length : Nat) : Int))) (0 ≤ t ∧ ∃ x : Int, l[Int.toNat t]? = some x ∧ cond (x == party) (K true)
  (nextQ (IntKind.i64.wrap (t + 1))))
  (K false)
theorem juntoref17_Is.q {l : (List Int)} {party : Int} {K : Bool → Prop} (q : juntoref17_Is.Q l party K) : juntoref17_Is.C l party K := by
 intro Z H lA ln lc hn f KK hk; cases hn; apply juntoref17_Is.ok; unfold juntoref17_Is.W; unfold juntoref17_Is.Q at q; obtain ⟨σ, hz, hσ⟩ := tags Z; have hs : Stp ([] : List Nat) σ H σ H := Stp.refl _ _ _; replace f := f.wide hz; clear hz; refine LoopI.ofQ q (fun t_ s_ hp_ => ∃ σ_, Stp [] σ H σ_ hp_ ∧ t_ = s_) (fun h k => h _ _ k) ⟨_, Stp.refl _ _ _, rfl⟩ ?_; rintro t _ _ H_ next nextQ ⟨xσ, st, rfl⟩ q hnext; (try dsimp only at q ⊢); have sl0 := st; refine condJ (fun q => ?_) (fun q => ?_) q
 · replace hs := hs.trans st; exact hk (Zt xσ) _ (hs.ext hσ) (hs.old hσ) _ q
 obtain ⟨h0, x, hx, q⟩ := q; replace f := f.step st; obtain ⟨a, ha, hi⟩ := f.addr h0 hx rfl; refine ⟨a, ha, hi.1, hi.2, ?_⟩; have hc := f.ldi ha h0 hx; refine ⟨_, hc.val, ?_⟩; refine condI (fun q => ?_) (fun q => ?_) q
 · replace hs := hs.trans st; exact hk (Zt xσ) _ (hs.ext hσ) (hs.old hσ) _ q
 exact hnext (IntKind.i64.wrap (t + 1)) _ _ ⟨_, sl0, rfl⟩ q
def juntoref17_Ahead.C (l : (List TAct)) (a : TAct) (K : Bool → Prop) : Prop :=
 ∀ (Z : Nat → Prop) (H : Heap), ∀ (lA : Option Addr) (ln lc : Nat), ln = l.length → SlF TAct.L Z H lA lc l → ∀ (aA : Option Addr) (an ac : Nat), an = a.Data.length → SlF u64L Z H aA ac a.Data → ∀ KK : Value → Heap → Prop,
   (∀ (Z' : Nat → Prop) (H' : Heap), Ext H H' → Old Z H Z' → ∀ (r0 : Bool), K r0 → KK (.bool r0) H') →
   CallH P N.juntoref17_Ahead [.slice lA ln lc, .agg #[.int .i64 a.Round, .int .i64 a.From, .int .i64 a.To, .bool a.Silent, .slice aA an ac]] H KK
def juntoref17_Ahead.Q (l : (List TAct)) (a : TAct) (K : Bool → Prop) : Prop :=
 LoopQ (τ := Int) 0 fun t nextQ =>
 cond (decide (t < ((l.length : Nat) : Int))) (0 ≤ t ∧ ∃ x : TAct, l[Int.toNat t]? = some x ∧ cond (a.Round == x.Round) (cond (a.From == x.From) (cond (a.To == x.To) (K true)
  (nextQ (IntKind.i64.wrap (t + 1))))
  (nextQ (IntKind.i64.wrap (t + 1))))
  (nextQ (IntKind.i64.wrap (t + 1))))
  (K false)
theorem juntoref17_Ahead.q {l : (List TAct)} {a : TAct} {K : Bool → Prop} (q : juntoref17_Ahead.Q l a K) : juntoref17_Ahead.C l a K := by
 intro Z H lA ln lc hn f aA an ac hn2 f2 KK hk; cases hn; cases hn2; apply juntoref17_Ahead.ok; unfold juntoref17_Ahead.W; unfold juntoref17_Ahead.Q at q; obtain ⟨σ, hz, hσ⟩ := tags Z; have hs : Stp ([1] : List Nat) σ H σ H := Stp.refl _ _ _; replace f := f.wide hz; replace f2 := f2.wide hz; clear hz; refine NewH.mk fun H_ e => ?_; obtain ⟨xσ, st, b⟩ := BoxF.new σ 0 e; refine LoopI.ofQ q (fun t_ s_ hp_ => ∃ σ_, Stp [1] xσ H_ σ_ hp_ ∧ t_ = s_) (fun h k => h _ _ k) ⟨_, Stp.refl _ _ _, rfl⟩ ?_; rintro t _ _ H_2 next nextQ ⟨xσ2, st2, rfl⟩ q hnext; (try dsimp only at q ⊢); have sl0 := st2; refine condJ (fun q => ?_) (fun q => ?_) q
 · replace hs := hs.trans (st.then st2); exact hk (Zt xσ2) _ (hs.ext hσ) (hs.old hσ) _ q
 obtain ⟨h0, x, hx, q⟩ := q; replace f := f.step (st.then st2); obtain ⟨a2, ha, hi⟩ := f.addr h0 hx rfl; refine ⟨a2, ha, hi.1, hi.2, ?_⟩; obtain ⟨cs, hr, hc⟩ := f.ldN (k := 5) rfl ha h0 hx; obtain ⟨A, c, rfl, f3⟩ := hr; have hc2 := hc 0 _ rfl; have hc3 := hc 1 _ rfl; have hc4 := hc 2 _ rfl; have hc5 := hc 3 _ rfl; have hc6 := hc 4 _ rfl; refine ⟨_, _, _, _, _, _, _, hc2.val, hc3.val, hc4.val, hc5.val, hc6.val, ?_⟩; refine NewH.mk fun H_3 e2 => ?_; obtain ⟨xσ3, st3, b2⟩ := BoxF.new xσ2 1 e2; refine ⟨b2.mayF rfl, NewH.mk fun H_4 e3 => ?_⟩; obtain ⟨st4, b2⟩ := b2.wf5 rfl e3; replace b := b.step (st2.then (st3.then st4)); refine ⟨_, b.cell0, ?_⟩; refine ⟨_, b2.cell0, ?_⟩; refine condJ (fun q => ?_) (fun q => ?_) q
 · replace sl0 := sl0.trans (st3.then st4); exact hnext (IntKind.i64.wrap (t + 1)) _ _ ⟨_, sl0, rfl⟩ q
 refine ⟨_, b.cell 1 rfl, ?_⟩; refine ⟨_, b2.cell 1 rfl, ?_⟩; refine condJ (fun q => ?_) (fun q => ?_) q
 · replace sl0 := sl0.trans (st3.then st4); exact hnext (IntKind.i64.wrap (t + 1)) _ _ ⟨_, sl0, rfl⟩ q
 refine ⟨_, b.cell 2 rfl, ?_⟩; refine ⟨_, b2.cell 2 rfl, ?_⟩; refine condI (fun q => ?_) (fun q => ?_) q
 · replace hs := hs.trans (st.then (st2.then (st3.then st4))); exact hk (Zt xσ3) _ (hs.ext hσ) (hs.old hσ) _ q
 replace sl0 := sl0.trans (st3.then st4); exact hnext (IntKind.i64.wrap (t + 1)) _ _ ⟨_, sl0, rfl⟩ q
def juntoref17_Check.C (w : TWorld) (K : Int → Prop) : Prop :=
 ∀ (Z : Nat → Prop) (H : Heap), ∀ (wv : Int), wv = (w.Setup.P : Int) → ∀ (wA : Option Addr) (wn wc : Nat), wn = w.Corrupted.length → SlF i64L Z H wA wc w.Corrupted → ∀ (wA2 : Option Addr) (wn2 wc2 : Nat), wn2 = w.Acts.length → SlF TAct.L Z H wA2 wc2 w.Acts → ∀ (wA3 : Option Addr) (wn3 wc3 : Nat), wn3 = w.Tapes.length → SlF (slL u64L) Z H wA3 wc3 w.Tapes → ∀ (wA4 : Option Addr) (wn4 wc4 : Nat), wn4 = w.Sent.length → SlF TSent.L Z H wA4 wc4 w.Sent → ∀ KK : Value → Heap → Prop,
   (∀ (Z' : Nat → Prop) (H' : Heap), Ext H H' → Old Z H Z' → ∀ (r0 : Int), K r0 → KK (.int .i64 r0) H') →
   CallH P N.juntoref17_Check [.agg #[.int .u64 wv, .int .i64 w.Setup.N, .int .i64 w.Setup.T_, .slice wA wn wc, .slice wA2 wn2 wc2, .slice wA3 wn3 wc3, .int .i64 w.Round, .slice wA4 wn4 wc4]] H KK
def juntoref17_Check.Q (w : TWorld) (K : Int → Prop) : Prop :=
 juntoref04_Corrupted.C w.Setup w.Corrupted (fun (x : Int) =>
 cond (x != 0) (K x)
  (cond (((w.Tapes.length : Nat) : Int) != w.Setup.N) (K 2)
  (cond (decide (w.Round < 0)) (K 2)
  (cond (decide (w.Round > 1048576)) (K 2)
  (cond (decide (((w.Acts.length : Nat) : Int) > 65536)) (K 3)
  (LoopQ (τ := Int) 0 fun t nextQ =>
 cond (decide (t < ((w.Acts.length : Nat) : Int))) (0 ≤ t ∧ ∃ x2 : TAct, w.Acts[Int.toNat t]? = some x2 ∧ juntoref17_Is.C w.Corrupted x2.From (fun (x3 : Bool) =>
 cond (!x3) (K 2)
  (cond (decide (x2.To < 0)) (K 2)
  (cond (decide (x2.To > w.Setup.N)) (K 2)
  (cond (x2.To == x2.From) (K 2)
  (cond (decide (x2.Round < 1)) (K 2)
  (cond (decide (((x2.Data.length : Nat) : Int) > 65536)) (K 3)
  (0 ≤ t ∧ t ≤ ((w.Acts.length : Nat) : Int) ∧ juntoref17_Ahead.C (List.take (Int.toNat t) w.Acts) x2 (fun (x4 : Bool) =>
 cond x4 (K 6)
  (nextQ (IntKind.i64.wrap (t + 1))))))))))))
  (K 0)))))))
theorem juntoref17_Check.q {w : TWorld} {K : Int → Prop} (q : juntoref17_Check.Q w K) : juntoref17_Check.C w K := by
 intro Z H wv he wA wn wc hn f wA2 wn2 wc2 hn2 f2 wA3 wn3 wc3 hn3 f3 wA4 wn4 wc4 hn4 f4 KK hk; cases he; cases hn; cases hn2; cases hn3; cases hn4; apply juntoref17_Check.ok; unfold juntoref17_Check.W; unfold juntoref17_Check.Q at q; obtain ⟨σ, hz, hσ⟩ := tags Z; have hs : Stp ([1] : List Nat) σ H σ H := Stp.refl _ _ _; replace f := f.wide hz; replace f2 := f2.wide hz; replace f3 := f3.wide hz; replace f4 := f4.wide hz; clear hz; refine NewH.mk fun H_ e => ?_; obtain ⟨xσ, st, b⟩ := BoxF.new σ 0 e; refine ⟨_, _, _, b.cell0, b.cell 1 rfl, b.cell 2 rfl, ?_⟩; refine ⟨_, _, _, b.cell 3 rfl, ?_⟩; replace f := f.step st; refine q (Zt xσ) H_ _ rfl _ _ _ rfl f _ (fun Z2 H_2 hE hO x q => ?_); obtain ⟨xσ2, st2⟩ := call0 hE xσ; refine ⟨_, rfl, ?_⟩; refine condI (fun q => ?_) (fun q => ?_) q
 · replace hs := hs.trans (st.then st2); exact hk (Zt xσ2) _ (hs.ext hσ) (hs.old hσ) _ q
 replace b := b.step st2; refine ⟨_, _, _, b.cell 5 rfl, ?_⟩; refine ⟨_, b.cell 1 rfl, ?_⟩; refine condI (fun q => ?_) (fun q => ?_) q
 · replace hs := hs.trans (st.then st2); exact hk (Zt xσ2) _ (hs.ext hσ) (hs.old hσ) _ q
 refine ⟨_, b.cell 6 rfl, ?_⟩; refine condI (fun q => ?_) (fun q => ?_) q
 · replace hs := hs.trans (st.then st2); exact hk (Zt xσ2) _ (hs.ext hσ) (hs.old hσ) _ q
 refine ⟨_, b.cell 6 rfl, ?_⟩; refine condI (fun q => ?_) (fun q => ?_) q
 · replace hs := hs.trans (st.then st2); exact hk (Zt xσ2) _ (hs.ext hσ) (hs.old hσ) _ q
 refine ⟨_, _, _, b.cell 4 rfl, ?_⟩; refine condI (fun q => ?_) (fun q => ?_) q
 · replace hs := hs.trans (st.then st2); exact hk (Zt xσ2) _ (hs.ext hσ) (hs.old hσ) _ q
 refine ⟨_, _, _, b.cell 4 rfl, ?_⟩; refine LoopI.ofQ q (fun t_ s_ hp_ => ∃ σ_, Stp [1] xσ2 H_2 σ_ hp_ ∧ t_ = s_) (fun h k => h _ _ k) ⟨_, Stp.refl _ _ _, rfl⟩ ?_; rintro t _ _ H_3 next nextQ ⟨xσ3, st3, rfl⟩ q hnext; (try dsimp only at q ⊢); have sl0 := st3; refine condJ (fun q => ?_) (fun q => ?_) q
 · replace hs := hs.trans (st.then (st2.then st3)); exact hk (Zt xσ3) _ (hs.ext hσ) (hs.old hσ) _ q
 obtain ⟨h0, x2, hx, q⟩ := q; replace f2 := f2.step (st.then (st2.then st3)); obtain ⟨a, ha, hi⟩ := f2.addr h0 hx rfl; refine ⟨a, ha, hi.1, hi.2, ?_⟩; obtain ⟨cs, hr, hc⟩ := f2.ldN (k := 5) rfl ha h0 hx; obtain ⟨A, c, rfl, f5⟩ := hr; have hc2 := hc 0 _ rfl; have hc3 := hc 1 _ rfl; have hc4 := hc 2 _ rfl; have hc5 := hc 3 _ rfl; have hc6 := hc 4 _ rfl; refine ⟨_, _, _, _, _, _, _, hc2.val, hc3.val, hc4.val, hc5.val, hc6.val, ?_⟩; refine NewH.mk fun H_4 e2 => ?_; obtain ⟨xσ4, st4, b2⟩ := BoxF.new xσ3 1 e2; refine ⟨b2.mayF rfl, NewH.mk fun H_5 e3 => ?_⟩; obtain ⟨st5, b2⟩ := b2.wf5 rfl e3; replace b := b.step (st3.then (st4.then st5)); refine ⟨_, _, _, b.cell 3 rfl, ?_⟩; refine ⟨_, b2.cell 1 rfl, ?_⟩; replace f := f.step (st2.then (st3.then (st4.then st5))); refine q (Zt xσ4) H_5 _ _ _ rfl f _ (fun Z3 H_6 hE2 hO2 x3 q => ?_); obtain ⟨xσ5, st6⟩ := call0 hE2 xσ4; refine ⟨_, rfl, ?_⟩; refine condI (fun q => ?_) (fun q => ?_) q
 · replace hs := hs.trans (st.then (st2.then (st3.then (st4.then (st5.then st6))))); exact hk (Zt xσ5) _ (hs.ext hσ) (hs.old hσ) _ q
 replace b2 := b2.step st6; refine ⟨_, b2.cell 2 rfl, ?_⟩; refine condI (fun q => ?_) (fun q => ?_) q
 · replace hs := hs.trans (st.then (st2.then (st3.then (st4.then (st5.then st6))))); exact hk (Zt xσ5) _ (hs.ext hσ) (hs.old hσ) _ q
 refine ⟨_, b2.cell 2 rfl, ?_⟩; replace b := b.step st6; refine ⟨_, b.cell 1 rfl, ?_⟩; refine condI (fun q => ?_) (fun q => ?_) q
 · replace hs := hs.trans (st.then (st2.then (st3.then (st4.then (st5.then st6))))); exact hk (Zt xσ5) _ (hs.ext hσ) (hs.old hσ) _ q
 refine ⟨_, b2.cell 2 rfl, ?_⟩; refine ⟨_, b2.cell 1 rfl, ?_⟩; refine condI (fun q => ?_) (fun q => ?_) q
 · replace hs := hs.trans (st.then (st2.then (st3.then (st4.then (st5.then st6))))); exact hk (Zt xσ5) _ (hs.ext hσ) (hs.old hσ) _ q
 refine ⟨_, b2.cell0, ?_⟩; refine condI (fun q => ?_) (fun q => ?_) q
 · replace hs := hs.trans (st.then (st2.then (st3.then (st4.then (st5.then st6))))); exact hk (Zt xσ5) _ (hs.ext hσ) (hs.old hσ) _ q
 refine ⟨_, _, _, b2.cell 4 rfl, ?_⟩; refine condI (fun q => ?_) (fun q => ?_) q
 · replace hs := hs.trans (st.then (st2.then (st3.then (st4.then (st5.then st6))))); exact hk (Zt xσ5) _ (hs.ext hσ) (hs.old hσ) _ q
 refine ⟨_, _, _, b.cell 4 rfl, ?_⟩; obtain ⟨q2, q3, q⟩ := q; replace f2 := f2.step (st4.then (st5.then st6)); have f6 := f2.upto (u := Int.toNat t) (upto_le rfl q3); refine ⟨q2, cap_le rfl f2.cap q3, ?_⟩; refine ⟨_, _, _, _, _, _, _, b2.cell0, b2.cell 1 rfl, b2.cell 2 rfl, b2.cell 3 rfl, b2.cell 4 rfl, ?_⟩; replace f5 := f5.step (st4.then (st5.then st6)); refine q (Zt xσ5) H_6 _ _ _ (take_len rfl q3) f6 _ _ _ rfl f5 _ (fun Z4 H_7 hE3 hO3 x4 q => ?_); obtain ⟨xσ6, st7⟩ := call0 hE3 xσ5; refine ⟨_, rfl, ?_⟩; refine condI (fun q => ?_) (fun q => ?_) q
 · replace hs := hs.trans (st.then (st2.then (st3.then (st4.then (st5.then (st6.then st7)))))); exact hk (Zt xσ6) _ (hs.ext hσ) (hs.old hσ) _ q
 replace sl0 := sl0.trans (st4.then (st5.then (st6.then st7))); exact hnext (IntKind.i64.wrap (t + 1)) _ _ ⟨_, sl0, rfl⟩ q
def juntoref17_SameInts.C (a : (List Int)) (b : (List Int)) (K : Bool → Prop) : Prop :=
 ∀ (Z : Nat → Prop) (H : Heap), ∀ (aA : Option Addr) (an ac : Nat), an = a.length → SlF i64L Z H aA ac a → ∀ (bA : Option Addr) (bn bc : Nat), bn = b.length → SlF i64L Z H bA bc b → ∀ KK : Value → Heap → Prop,
   (∀ (Z' : Nat → Prop) (H' : Heap), Ext H H' → Old Z H Z' → ∀ (r0 : Bool), K r0 → KK (.bool r0) H') →
   CallH P N.juntoref17_SameInts [.slice aA an ac, .slice bA bn bc] H KK
def juntoref17_SameInts.Q (a : (List Int)) (b : (List Int)) (K : Bool → Prop) : Prop :=
 cond (((a.length : Nat) : Int) != ((b.length : Nat) : Int)) (K false)
  (LoopQ (τ := Int) 0 fun t nextQ =>
 cond (decide (t < ((a.length : Nat) : Int))) (0 ≤ t ∧ ∃ x : Int, a[Int.toNat t]? = some x ∧ 0 ≤ t ∧ ∃ x2 : Int, b[Int.toNat t]? = some x2 ∧ cond (x != x2) (K false)
  (nextQ (IntKind.i64.wrap (t + 1))))
  (K true))
theorem juntoref17_SameInts.q {a : (List Int)} {b : (List Int)} {K : Bool → Prop} (q : juntoref17_SameInts.Q a b K) : juntoref17_SameInts.C a b K := by
 intro Z H aA an ac hn f bA bn bc hn2 f2 KK hk; cases hn; cases hn2; apply juntoref17_SameInts.ok; unfold juntoref17_SameInts.W; unfold juntoref17_SameInts.Q at q; obtain ⟨σ, hz, hσ⟩ := tags Z; have hs : Stp ([] : List Nat) σ H σ H := Stp.refl _ _ _; replace f := f.wide hz; replace f2 := f2.wide hz; clear hz; refine condI (fun q => ?_) (fun q => ?_) q
 · exact hk (Zt σ) _ (hs.ext hσ) (hs.old hσ) _ q
 refine LoopI.ofQ q (fun t_ s_ hp_ => ∃ σ_, Stp [] σ H σ_ hp_ ∧ t_ = s_) (fun h k => h _ _ k) ⟨_, Stp.refl _ _ _, rfl⟩ ?_; rintro t _ _ H_ next nextQ ⟨xσ, st, rfl⟩ q hnext; (try dsimp only at q ⊢); have sl0 := st; refine condJ (fun q => ?_) (fun q => ?_) q
 · replace hs := hs.trans st; exact hk (Zt xσ) _ (hs.ext hσ) (hs.old hσ) _ q
 obtain ⟨h0, x, hx, q⟩ := q; replace f := f.step st; obtain ⟨a2, ha, hi⟩ := f.addr h0 hx rfl; refine ⟨a2, ha, hi.1, hi.2, ?_⟩; obtain ⟨h02, x2, hx2, q⟩ := q; replace f2 := f2.step st; obtain ⟨a3, ha2, hi2⟩ := f2.addr h02 hx2 rfl; refine ⟨a3, ha2, hi2.1, hi2.2, ?_⟩; have hc := f.ldi ha h0 hx; refine ⟨_, hc.val, ?_⟩; have hc2 := f2.ldi ha2 h02 hx2; refine ⟨_, hc2.val, ?_⟩; refine condI (fun q => ?_) (fun q => ?_) q
 · replace hs := hs.trans st; exact hk (Zt xσ) _ (hs.ext hσ) (hs.old hσ) _ q
 exact hnext (IntKind.i64.wrap (t + 1)) _ _ ⟨_, sl0, rfl⟩ q
def juntoref17_SamePayloads.C (a : (List (List Nat))) (b : (List (List Nat))) (K : Bool → Prop) : Prop :=
 ∀ (Z : Nat → Prop) (H : Heap), ∀ (aA : Option Addr) (an ac : Nat), an = a.length → SlF (slL u64L) Z H aA ac a → ∀ (bA : Option Addr) (bn bc : Nat), bn = b.length → SlF (slL u64L) Z H bA bc b → ∀ KK : Value → Heap → Prop,
   (∀ (Z' : Nat → Prop) (H' : Heap), Ext H H' → Old Z H Z' → ∀ (r0 : Bool), K r0 → KK (.bool r0) H') →
   CallH P N.juntoref17_SamePayloads [.slice aA an ac, .slice bA bn bc] H KK
def juntoref17_SamePayloads.Q (a : (List (List Nat))) (b : (List (List Nat))) (K : Bool → Prop) : Prop :=
 cond (((a.length : Nat) : Int) != ((b.length : Nat) : Int)) (K false)
  (LoopQ (τ := Int) 0 fun t nextQ =>
 cond (decide (t < ((a.length : Nat) : Int))) (0 ≤ t ∧ ∃ x : (List Nat), a[Int.toNat t]? = some x ∧ 0 ≤ t ∧ ∃ x2 : (List Nat), b[Int.toNat t]? = some x2 ∧ juntoref01_Same.C x x2 (fun (x3 : Bool) =>
 cond (!x3) (K false)
  (nextQ (IntKind.i64.wrap (t + 1)))))
  (K true))
theorem juntoref17_SamePayloads.q {a : (List (List Nat))} {b : (List (List Nat))} {K : Bool → Prop} (q : juntoref17_SamePayloads.Q a b K) : juntoref17_SamePayloads.C a b K := by
 intro Z H aA an ac hn f bA bn bc hn2 f2 KK hk; cases hn; cases hn2; apply juntoref17_SamePayloads.ok; unfold juntoref17_SamePayloads.W; unfold juntoref17_SamePayloads.Q at q; obtain ⟨σ, hz, hσ⟩ := tags Z; have hs : Stp ([] : List Nat) σ H σ H := Stp.refl _ _ _; replace f := f.wide hz; replace f2 := f2.wide hz; clear hz; refine condI (fun q => ?_) (fun q => ?_) q
 · exact hk (Zt σ) _ (hs.ext hσ) (hs.old hσ) _ q
 refine LoopI.ofQ q (fun t_ s_ hp_ => ∃ σ_, Stp [] σ H σ_ hp_ ∧ t_ = s_) (fun h k => h _ _ k) ⟨_, Stp.refl _ _ _, rfl⟩ ?_; rintro t _ _ H_ next nextQ ⟨xσ, st, rfl⟩ q hnext; (try dsimp only at q ⊢); have sl0 := st; refine condJ (fun q => ?_) (fun q => ?_) q
 · replace hs := hs.trans st; exact hk (Zt xσ) _ (hs.ext hσ) (hs.old hσ) _ q
 obtain ⟨h0, x, hx, q⟩ := q; replace f := f.step st; obtain ⟨a2, ha, hi⟩ := f.addr h0 hx rfl; refine ⟨a2, ha, hi.1, hi.2, ?_⟩; obtain ⟨h02, x2, hx2, q⟩ := q; replace f2 := f2.step st; obtain ⟨a3, ha2, hi2⟩ := f2.addr h02 hx2 rfl; refine ⟨a3, ha2, hi2.1, hi2.2, ?_⟩; obtain ⟨A, c, hc, f3⟩ := f.lds ha h0 hx; refine ⟨_, _, _, hc.val, ?_⟩; obtain ⟨A2, c2, hc2, f4⟩ := f2.lds ha2 h02 hx2; refine ⟨_, _, _, hc2.val, ?_⟩; refine q (Zt xσ) H_ _ _ _ rfl f3 _ _ _ rfl f4 _ (fun Z2 H_2 hE hO x3 q => ?_); obtain ⟨xσ2, st2⟩ := call0 hE xσ; refine ⟨_, rfl, ?_⟩; refine condI (fun q => ?_) (fun q => ?_) q
 · replace hs := hs.trans (st.then st2); exact hk (Zt xσ2) _ (hs.ext hσ) (hs.old hσ) _ q
 replace sl0 := sl0.trans st2; exact hnext (IntKind.i64.wrap (t + 1)) _ _ ⟨_, sl0, rfl⟩ q
def juntoref17_SameSent.C (a : (List TSent)) (b : (List TSent)) (K : Bool → Prop) : Prop :=
 ∀ (Z : Nat → Prop) (H : Heap), ∀ (aA : Option Addr) (an ac : Nat), an = a.length → SlF TSent.L Z H aA ac a → ∀ (bA : Option Addr) (bn bc : Nat), bn = b.length → SlF TSent.L Z H bA bc b → ∀ KK : Value → Heap → Prop,
   (∀ (Z' : Nat → Prop) (H' : Heap), Ext H H' → Old Z H Z' → ∀ (r0 : Bool), K r0 → KK (.bool r0) H') →
   CallH P N.juntoref17_SameSent [.slice aA an ac, .slice bA bn bc] H KK
def juntoref17_SameSent.Q (a : (List TSent)) (b : (List TSent)) (K : Bool → Prop) : Prop :=
 cond (((a.length : Nat) : Int) != ((b.length : Nat) : Int)) (K false)
  (LoopQ (τ := Int) 0 fun t nextQ =>
 cond (decide (t < ((a.length : Nat) : Int))) (0 ≤ t ∧ ∃ x : TSent, a[Int.toNat t]? = some x ∧ 0 ≤ t ∧ ∃ x2 : TSent, b[Int.toNat t]? = some x2 ∧ cond (x.Round != x2.Round) (K false)
  (0 ≤ t ∧ ∃ x3 : TSent, a[Int.toNat t]? = some x3 ∧ 0 ≤ t ∧ ∃ x4 : TSent, b[Int.toNat t]? = some x4 ∧ cond (x3.From != x4.From) (K false)
  (0 ≤ t ∧ ∃ x5 : TSent, a[Int.toNat t]? = some x5 ∧ 0 ≤ t ∧ ∃ x6 : TSent, b[Int.toNat t]? = some x6 ∧ cond (x5.To != x6.To) (K false)
  (0 ≤ t ∧ ∃ x7 : TSent, a[Int.toNat t]? = some x7 ∧ 0 ≤ t ∧ ∃ x8 : TSent, b[Int.toNat t]? = some x8 ∧ juntoref01_Same.C x7.Data x8.Data (fun (x9 : Bool) =>
 cond (!x9) (K false)
  (nextQ (IntKind.i64.wrap (t + 1))))))))
  (K true))
theorem juntoref17_SameSent.q {a : (List TSent)} {b : (List TSent)} {K : Bool → Prop} (q : juntoref17_SameSent.Q a b K) : juntoref17_SameSent.C a b K := by
 intro Z H aA an ac hn f bA bn bc hn2 f2 KK hk; cases hn; cases hn2; apply juntoref17_SameSent.ok; unfold juntoref17_SameSent.W; unfold juntoref17_SameSent.Q at q; obtain ⟨σ, hz, hσ⟩ := tags Z; have hs : Stp ([] : List Nat) σ H σ H := Stp.refl _ _ _; replace f := f.wide hz; replace f2 := f2.wide hz; clear hz; refine condI (fun q => ?_) (fun q => ?_) q
 · exact hk (Zt σ) _ (hs.ext hσ) (hs.old hσ) _ q
 refine LoopI.ofQ q (fun t_ s_ hp_ => ∃ σ_, Stp [] σ H σ_ hp_ ∧ t_ = s_) (fun h k => h _ _ k) ⟨_, Stp.refl _ _ _, rfl⟩ ?_; rintro t _ _ H_ next nextQ ⟨xσ, st, rfl⟩ q hnext; (try dsimp only at q ⊢); have sl0 := st; refine condJ (fun q => ?_) (fun q => ?_) q
 · replace hs := hs.trans st; exact hk (Zt xσ) _ (hs.ext hσ) (hs.old hσ) _ q
 obtain ⟨h0, x, hx, q⟩ := q; replace f := f.step st; obtain ⟨a2, ha, hi⟩ := f.addr h0 hx rfl; refine ⟨a2, ha, hi.1, hi.2, ?_⟩; obtain ⟨h02, x2, hx2, q⟩ := q; replace f2 := f2.step st; obtain ⟨a3, ha2, hi2⟩ := f2.addr h02 hx2 rfl; refine ⟨a3, ha2, hi2.1, hi2.2, ?_⟩; obtain ⟨cs, hr, hc⟩ := f.ldN (k := 4) rfl ha h0 hx; obtain ⟨A, c, rfl, f3⟩ := hr; have hc2 := hc 0 _ rfl; refine ⟨_, hc2.val, ?_⟩; obtain ⟨cs2, hr2, hc3⟩ := f2.ldN (k := 4) rfl ha2 h02 hx2; obtain ⟨A2, c2, rfl, f4⟩ := hr2; have hc4 := hc3 0 _ rfl; refine ⟨_, hc4.val, ?_⟩; refine condI (fun q => ?_) (fun q => ?_) q
 · replace hs := hs.trans st; exact hk (Zt xσ) _ (hs.ext hσ) (hs.old hσ) _ q
 obtain ⟨h03, x3, hx3, q⟩ := q; obtain ⟨a4, ha3, hi3⟩ := f.addr h03 hx3 rfl; refine ⟨a4, ha3, hi3.1, hi3.2, ?_⟩; obtain ⟨h04, x4, hx4, q⟩ := q; obtain ⟨a5, ha4, hi4⟩ := f2.addr h04 hx4 rfl; refine ⟨a5, ha4, hi4.1, hi4.2, ?_⟩; obtain ⟨cs3, hr3, hc5⟩ := f.ldN (k := 4) rfl ha3 h03 hx3; obtain ⟨A3, c3, rfl, f5⟩ := hr3; have hc6 := hc5 1 _ rfl; refine ⟨_, hc6.val, ?_⟩; obtain ⟨cs4, hr4, hc7⟩ := f2.ldN (k := 4) rfl ha4 h04 hx4; obtain ⟨A4, c4, rfl, f6⟩ := hr4; have hc8 := hc7 1 _ rfl; refine ⟨_, hc8.val, ?_⟩; refine condI (fun q => ?_) (fun q => ?_) q
 · replace hs := hs.trans st; exact hk (Zt xσ) _ (hs.ext hσ) (hs.old hσ) _ q
 obtain ⟨h05, x5, hx5, q⟩ := q; obtain ⟨a6, ha5, hi5⟩ := f.addr h05 hx5 rfl; refine ⟨a6, ha5, hi5.1, hi5.2, ?_⟩; obtain ⟨h06, x6, hx6, q⟩ := q; obtain ⟨a7, ha6, hi6⟩ := f2.addr h06 hx6 rfl; refine ⟨a7, ha6, hi6.1, hi6.2, ?_⟩; obtain ⟨cs5, hr5, hc9⟩ := f.ldN (k := 4) rfl ha5 h05 hx5; obtain ⟨A5, c5, rfl, f7⟩ := hr5; have hc10 := hc9 2 _ rfl; refine ⟨_, hc10.val, ?_⟩; obtain ⟨cs6, hr6, hc11⟩ := f2.ldN (k := 4) rfl ha6 h06 hx6; obtain ⟨A6, c6, rfl, f8⟩ := hr6; have hc12 := hc11 2 _ rfl; refine ⟨_, hc12.val, ?_⟩; refine condI (fun q => ?_) (fun q => ?_) q
 · replace hs := hs.trans st; exact hk (Zt xσ) _ (hs.ext hσ) (hs.old hσ) _ q
 obtain ⟨h07, x7, hx7, q⟩ := q; obtain ⟨a8, ha7, hi7⟩ := f.addr h07 hx7 rfl; refine ⟨a8, ha7, hi7.1, hi7.2, ?_⟩; obtain ⟨h08, x8, hx8, q⟩ := q; obtain ⟨a9, ha8, hi8⟩ := f2.addr h08 hx8 rfl; refine ⟨a9, ha8, hi8.1, hi8.2, ?_⟩; obtain ⟨cs7, hr7, hc13⟩ := f.ldN (k := 4) rfl ha7 h07 hx7; obtain ⟨A7, c7, rfl, f9⟩ := hr7; have hc14 := hc13 3 _ rfl; refine ⟨_, _, _, hc14.val, ?_⟩; obtain ⟨cs8, hr8, hc15⟩ := f2.ldN (k := 4) rfl ha8 h08 hx8; obtain ⟨A8, c8, rfl, f10⟩ := hr8; have hc16 := hc15 3 _ rfl; refine ⟨_, _, _, hc16.val, ?_⟩; refine q (Zt xσ) H_ _ _ _ rfl f9 _ _ _ rfl f10 _ (fun Z2 H_2 hE hO x9 q => ?_); obtain ⟨xσ2, st2⟩ := call0 hE xσ; refine ⟨_, rfl, ?_⟩; refine condI (fun q => ?_) (fun q => ?_) q
 · replace hs := hs.trans (st.then st2); exact hk (Zt xσ2) _ (hs.ext hσ) (hs.old hσ) _ q
 replace sl0 := sl0.trans st2; exact hnext (IntKind.i64.wrap (t + 1)) _ _ ⟨_, sl0, rfl⟩ q
def juntoref17_Same.C (a : TWorld) (b : TWorld) (K : Bool → Prop) : Prop :=
 ∀ (Z : Nat → Prop) (H : Heap), ∀ (av : Int), av = (a.Setup.P : Int) → ∀ (aA : Option Addr) (an ac : Nat), an = a.Corrupted.length → SlF i64L Z H aA ac a.Corrupted → ∀ (aA2 : Option Addr) (an2 ac2 : Nat), an2 = a.Acts.length → SlF TAct.L Z H aA2 ac2 a.Acts → ∀ (aA3 : Option Addr) (an3 ac3 : Nat), an3 = a.Tapes.length → SlF (slL u64L) Z H aA3 ac3 a.Tapes → ∀ (aA4 : Option Addr) (an4 ac4 : Nat), an4 = a.Sent.length → SlF TSent.L Z H aA4 ac4 a.Sent → ∀ (bv : Int), bv = (b.Setup.P : Int) → ∀ (bA : Option Addr) (bn bc : Nat), bn = b.Corrupted.length → SlF i64L Z H bA bc b.Corrupted → ∀ (bA2 : Option Addr) (bn2 bc2 : Nat), bn2 = b.Acts.length → SlF TAct.L Z H bA2 bc2 b.Acts → ∀ (bA3 : Option Addr) (bn3 bc3 : Nat), bn3 = b.Tapes.length → SlF (slL u64L) Z H bA3 bc3 b.Tapes → ∀ (bA4 : Option Addr) (bn4 bc4 : Nat), bn4 = b.Sent.length → SlF TSent.L Z H bA4 bc4 b.Sent → ∀ KK : Value → Heap → Prop,
   (∀ (Z' : Nat → Prop) (H' : Heap), Ext H H' → Old Z H Z' → ∀ (r0 : Bool), K r0 → KK (.bool r0) H') →
   CallH P N.juntoref17_Same [.agg #[.int .u64 av, .int .i64 a.Setup.N, .int .i64 a.Setup.T_, .slice aA an ac, .slice aA2 an2 ac2, .slice aA3 an3 ac3, .int .i64 a.Round, .slice aA4 an4 ac4], .agg #[.int .u64 bv, .int .i64 b.Setup.N, .int .i64 b.Setup.T_, .slice bA bn bc, .slice bA2 bn2 bc2, .slice bA3 bn3 bc3, .int .i64 b.Round, .slice bA4 bn4 bc4]] H KK
def juntoref17_Same.Q (a : TWorld) (b : TWorld) (K : Bool → Prop) : Prop :=
 cond (!((a.Setup.P : Int) == (b.Setup.P : Int) && a.Setup.N == b.Setup.N && a.Setup.T_ == b.Setup.T_)) (K false)
  (juntoref17_SameInts.C a.Corrupted b.Corrupted (fun (x : Bool) =>
 cond (!x) (K false)
  (cond (((a.Acts.length : Nat) : Int) != ((b.Acts.length : Nat) : Int)) (K false)
  (juntoref17_SamePayloads.C a.Tapes b.Tapes (fun (x2 : Bool) =>
 cond (!x2) (K false)
  (cond (a.Round != b.Round) (K false)
  (LoopQ (τ := Int) 0 fun t nextQ =>
 cond (decide (t < ((a.Acts.length : Nat) : Int))) (0 ≤ t ∧ ∃ x3 : TAct, a.Acts[Int.toNat t]? = some x3 ∧ 0 ≤ t ∧ ∃ x4 : TAct, b.Acts[Int.toNat t]? = some x4 ∧ cond (x3.Round != x4.Round) (K false)
  (cond (x3.From != x4.From) (K false)
  (cond (x3.To != x4.To) (K false)
  (cond (x3.Silent != x4.Silent) (K false)
  (juntoref01_Same.C x3.Data x4.Data (fun (x5 : Bool) =>
 cond (!x5) (K false)
  (nextQ (IntKind.i64.wrap (t + 1)))))))))
  (juntoref17_SameSent.C a.Sent b.Sent (fun (x6 : Bool) =>
 K x6)))))))))
theorem juntoref17_Same.q {a : TWorld} {b : TWorld} {K : Bool → Prop} (q : juntoref17_Same.Q a b K) : juntoref17_Same.C a b K := by
 intro Z H av he aA an ac hn f aA2 an2 ac2 hn2 f2 aA3 an3 ac3 hn3 f3 aA4 an4 ac4 hn4 f4 bv he2 bA bn bc hn5 f5 bA2 bn2 bc2 hn6 f6 bA3 bn3 bc3 hn7 f7 bA4 bn4 bc4 hn8 f8 KK hk; cases he; cases hn; cases hn2; cases hn3; cases hn4; cases he2; cases hn5; cases hn6; cases hn7; cases hn8; apply juntoref17_Same.ok; unfold juntoref17_Same.W; unfold juntoref17_Same.Q at q; obtain ⟨σ, hz, hσ⟩ := tags Z; have hs : Stp ([1, 2, 3, 4] : List Nat) σ H σ H := Stp.refl _ _ _; replace f := f.wide hz; replace f2 := f2.wide hz; replace f3 := f3.wide hz; replace f4 := f4.wide hz; replace f5 := f5.wide hz; replace f6 := f6.wide hz; replace f7 := f7.wide hz; replace f8 := f8.wide hz; clear hz; refine NewH.mk fun H_ e => ?_; obtain ⟨xσ, st, b2⟩ := BoxF.new σ 0 e; refine NewH.mk fun H_2 e2 => ?_; obtain ⟨xσ2, st2, b3⟩ := BoxF.new xσ 0 e2; replace b2 := b2.step st2; refine ⟨_, _, _, b2.cell0, b2.cell 1 rfl, b2.cell 2 rfl, ?_⟩; refine ⟨_, _, _, b3.cell0, b3.cell 1 rfl, b3.cell 2 rfl, ?_⟩; refine ⟨_, (agg24 _ _ _ _ _ _).2, ?_⟩; refine condI (fun q => ?_) (fun q => ?_) q
 · replace hs := hs.trans (st.then st2); exact hk (Zt xσ2) _ (hs.ext hσ) (hs.old hσ) _ q
 refine ⟨_, _, _, b2.cell 3 rfl, ?_⟩; refine ⟨_, _, _, b3.cell 3 rfl, ?_⟩; have c_0 := st.then st2; replace f := f.step c_0; replace f5 := f5.step c_0; refine q (Zt xσ2) H_2 _ _ _ rfl f _ _ _ rfl f5 _ (fun Z2 H_3 hE hO x q => ?_); obtain ⟨xσ3, st3⟩ := call0 hE xσ2; refine ⟨_, rfl, ?_⟩; refine condI (fun q => ?_) (fun q => ?_) q
 · replace hs := hs.trans (st.then (st2.then st3)); exact hk (Zt xσ3) _ (hs.ext hσ) (hs.old hσ) _ q
 replace b2 := b2.step st3; refine ⟨_, _, _, b2.cell 4 rfl, ?_⟩; replace b3 := b3.step st3; refine ⟨_, _, _, b3.cell 4 rfl, ?_⟩; refine condI (fun q => ?_) (fun q => ?_) q
 · replace hs := hs.trans (st.then (st2.then st3)); exact hk (Zt xσ3) _ (hs.ext hσ) (hs.old hσ) _ q
 refine ⟨_, _, _, b2.cell 5 rfl, ?_⟩; refine ⟨_, _, _, b3.cell 5 rfl, ?_⟩; have c_1 := st.then (st2.then st3); replace f3 := f3.step c_1; replace f7 := f7.step c_1; refine q (Zt xσ3) H_3 _ _ _ rfl f3 _ _ _ rfl f7 _ (fun Z3 H_4 hE2 hO2 x2 q => ?_); obtain ⟨xσ4, st4⟩ := call0 hE2 xσ3; refine ⟨_, rfl, ?_⟩; refine condI (fun q => ?_) (fun q => ?_) q
 · replace hs := hs.trans (st.then (st2.then (st3.then st4))); exact hk (Zt xσ4) _ (hs.ext hσ) (hs.old hσ) _ q
 replace b2 := b2.step st4; refine ⟨_, b2.cell 6 rfl, ?_⟩; replace b3 := b3.step st4; refine ⟨_, b3.cell 6 rfl, ?_⟩; refine condI (fun q => ?_) (fun q => ?_) q
 · replace hs := hs.trans (st.then (st2.then (st3.then st4))); exact hk (Zt xσ4) _ (hs.ext hσ) (hs.old hσ) _ q
 refine ⟨_, _, _, b2.cell 4 rfl, ?_⟩; refine LoopI.ofQ q (fun t_ s_ hp_ => ∃ σ_, Stp [1, 2, 3, 4] xσ4 H_4 σ_ hp_ ∧ t_ = s_) (fun h k => h _ _ k) ⟨_, Stp.refl _ _ _, rfl⟩ ?_; rintro t _ _ H_5 next nextQ ⟨xσ5, st5, rfl⟩ q hnext; (try dsimp only at q ⊢); have sl0 := st5; refine condJ (fun q => ?_) (fun q => ?_) q
 · replace b2 := b2.step st5; refine ⟨_, _, _, b2.cell 7 rfl, ?_⟩; replace b3 := b3.step st5; refine ⟨_, _, _, b3.cell 7 rfl, ?_⟩; have c_2 := st.then (st2.then (st3.then (st4.then st5))); replace f4 := f4.step c_2; replace f8 := f8.step c_2; refine q (Zt xσ5) H_5 _ _ _ rfl f4 _ _ _ rfl f8 _ (fun Z5 H_11 hE4 hO4 x6 q => ?_); obtain ⟨xσ9, st11⟩ := call0 hE4 xσ5; refine ⟨_, rfl, ?_⟩; replace hs := hs.trans (st.then (st2.then (st3.then (st4.then (st5.then st11))))); exact hk (Zt xσ9) _ (hs.ext hσ) (hs.old hσ) _ q
 replace b2 := b2.step st5; refine ⟨_, _, _, b2.cell 4 rfl, ?_⟩; obtain ⟨h0, x3, hx, q⟩ := q; replace f2 := f2.step (st.then (st2.then (st3.then (st4.then st5)))); obtain ⟨a2, ha, hi⟩ := f2.addr h0 hx rfl; refine ⟨a2, ha, hi.1, hi.2, ?_⟩; obtain ⟨cs, hr, hc⟩ := f2.ldN (k := 5) rfl ha h0 hx; obtain ⟨A, c, rfl, f9⟩ := hr; have hc2 := hc 0 _ rfl; have hc3 := hc 1 _ rfl; have hc4 := hc 2 _ rfl; have hc5 := hc 3 _ rfl; have hc6 := hc 4 _ rfl; refine ⟨_, _, _, _, _, _, _, hc2.val, hc3.val, hc4.val, hc5.val, hc6.val, ?_⟩; replace b3 := b3.step st5; refine ⟨_, _, _, b3.cell 4 rfl, ?_⟩; obtain ⟨h02, x4, hx2, q⟩ := q; replace f6 := f6.step (st.then (st2.then (st3.then (st4.then st5)))); obtain ⟨a3, ha2, hi2⟩ := f6.addr h02 hx2 rfl; refine ⟨a3, ha2, hi2.1, hi2.2, ?_⟩; obtain ⟨cs2, hr2, hc7⟩ := f6.ldN (k := 5) rfl ha2 h02 hx2; obtain ⟨A2, c2, rfl, f10⟩ := hr2; have hc8 := hc7 0 _ rfl; have hc9 := hc7 1 _ rfl; have hc10 := hc7 2 _ rfl; have hc11 := hc7 3 _ rfl; have hc12 := hc7 4 _ rfl; refine ⟨_, _, _, _, _, _, _, hc8.val, hc9.val, hc10.val, hc11.val, hc12.val, ?_⟩; refine ⟨?_, ?_⟩
 · refine NewH.mk fun H_6 e3 => ?_; obtain ⟨xσ6, st6, b4⟩ := BoxF.new xσ5 1 e3; replace hc8 := hc8.step st6; replace hc9 := hc9.step st6; replace hc10 := hc10.step st6; replace hc11 := hc11.step st6; replace hc12 := hc12.step st6; replace b3 := b3.step st6; replace hc2 := hc2.step st6; replace hc3 := hc3.step st6; replace hc4 := hc4.step st6; replace hc5 := hc5.step st6; replace hc6 := hc6.step st6; replace b2 := b2.step st6; refine ⟨hc8.val, hc9.val, hc10.val, hc11.val, hc12.val, (b3.cell 4 rfl), hc2.val, hc3.val, hc4.val, hc5.val, hc6.val, (b2.cell 4 rfl), ?_⟩; refine NewH.mk fun H_7 e4 => ?_; obtain ⟨xσ7, st7, b5⟩ := BoxF.new xσ6 2 e4; replace hc8 := hc8.step st7; replace hc9 := hc9.step st7; replace hc10 := hc10.step st7; replace hc11 := hc11.step st7; replace hc12 := hc12.step st7; replace b3 := b3.step st7; replace hc2 := hc2.step st7; replace hc3 := hc3.step st7; replace hc4 := hc4.step st7; replace hc5 := hc5.step st7; replace hc6 := hc6.step st7; replace b2 := b2.step st7; refine ⟨hc8.val, hc9.val, hc10.val, hc11.val, hc12.val, (b3.cell 4 rfl), hc2.val, hc3.val, hc4.val, hc5.val, hc6.val, (b2.cell 4 rfl), ?_⟩; replace b4 := b4.step st7; refine ⟨b4.mayF rfl, NewH.mk fun H_8 e5 => ?_⟩; obtain ⟨st8, b4⟩ := b4.wf5 rfl e5; replace hc8 := hc8.step st8; replace hc9 := hc9.step st8; replace hc10 := hc10.step st8; replace hc11 := hc11.step st8; replace hc12 := hc12.step st8; replace b3 := b3.step st8; refine ⟨hc8.val, hc9.val, hc10.val, hc11.val, hc12.val, (b3.cell 4 rfl), ?_⟩; replace b5 := b5.step st8; refine ⟨b5.mayF rfl, NewH.mk fun H_9 e6 => ?_⟩; obtain ⟨st9, b5⟩ := b5.wf5 rfl e6; replace b4 := b4.step st9; refine ⟨_, b4.cell0, ?_⟩; refine ⟨_, b5.cell0, ?_⟩; refine condI (fun q => ?_) (fun q => ?_) q
   · replace hs := hs.trans (st.then (st2.then (st3.then (st4.then (st5.then (st6.then (st7.then (st8.then st9)))))))); exact hk (Zt xσ7) _ (hs.ext hσ) (hs.old hσ) _ q
   refine ⟨_, b4.cell 1 rfl, ?_⟩; refine ⟨_, b5.cell 1 rfl, ?_⟩; refine condI (fun q => ?_) (fun q => ?_) q
   · replace hs := hs.trans (st.then (st2.then (st3.then (st4.then (st5.then (st6.then (st7.then (st8.then st9)))))))); exact hk (Zt xσ7) _ (hs.ext hσ) (hs.old hσ) _ q
   refine ⟨_, b4.cell 2 rfl, ?_⟩; refine ⟨_, b5.cell 2 rfl, ?_⟩; refine condI (fun q => ?_) (fun q => ?_) q
   · replace hs := hs.trans (st.then (st2.then (st3.then (st4.then (st5.then (st6.then (st7.then (st8.then st9)))))))); exact hk (Zt xσ7) _ (hs.ext hσ) (hs.old hσ) _ q
   refine ⟨_, b4.cell 3 rfl, ?_⟩; refine ⟨_, b5.cell 3 rfl, ?_⟩; refine condI (fun q => ?_) (fun q => ?_) q
   · replace hs := hs.trans (st.then (st2.then (st3.then (st4.then (st5.then (st6.then (st7.then (st8.then st9)))))))); exact hk (Zt xσ7) _ (hs.ext hσ) (hs.old hσ) _ q
   refine ⟨_, _, _, b4.cell 4 rfl, ?_⟩; refine ⟨_, _, _, b5.cell 4 rfl, ?_⟩; have c_3 := st6.then (st7.then (st8.then st9)); replace f9 := f9.step c_3; replace f10 := f10.step c_3; refine q (Zt xσ7) H_9 _ _ _ rfl f9 _ _ _ rfl f10 _ (fun Z4 H_10 hE3 hO3 x5 q => ?_); obtain ⟨xσ8, st10⟩ := call0 hE3 xσ7; refine ⟨_, rfl, ?_⟩; refine condI (fun q => ?_) (fun q => ?_) q
   · replace hs := hs.trans (st.then (st2.then (st3.then (st4.then (st5.then (st6.then (st7.then (st8.then (st9.then st10))))))))); exact hk (Zt xσ8) _ (hs.ext hσ) (hs.old hσ) _ q
   replace sl0 := sl0.trans (st6.then (st7.then (st8.then (st9.then st10)))); exact hnext (IntKind.i64.wrap (t + 1)) _ _ ⟨_, sl0, rfl⟩ q
 refine NewH.mk fun H_6 e3 => ?_; obtain ⟨xσ6, st6, b4⟩ := BoxF.new xσ5 3 e3; replace hc8 := hc8.step st6; replace hc9 := hc9.step st6; replace hc10 := hc10.step st6; replace hc11 := hc11.step st6; replace hc12 := hc12.step st6; replace b3 := b3.step st6; replace hc2 := hc2.step st6; replace hc3 := hc3.step st6; replace hc4 := hc4.step st6; replace hc5 := hc5.step st6; replace hc6 := hc6.step st6; replace b2 := b2.step st6; refine ⟨hc8.val, hc9.val, hc10.val, hc11.val, hc12.val, (b3.cell 4 rfl), hc2.val, hc3.val, hc4.val, hc5.val, hc6.val, (b2.cell 4 rfl), ?_⟩; refine NewH.mk fun H_7 e4 => ?_; obtain ⟨xσ7, st7, b5⟩ := BoxF.new xσ6 4 e4; replace hc8 := hc8.step st7; replace hc9 := hc9.step st7; replace hc10 := hc10.step st7; replace hc11 := hc11.step st7; replace hc12 := hc12.step st7; replace b3 := b3.step st7; replace hc2 := hc2.step st7; replace hc3 := hc3.step st7; replace hc4 := hc4.step st7; replace hc5 := hc5.step st7; replace hc6 := hc6.step st7; replace b2 := b2.step st7; refine ⟨hc8.val, hc9.val, hc10.val, hc11.val, hc12.val, (b3.cell 4 rfl), hc2.val, hc3.val, hc4.val, hc5.val, hc6.val, (b2.cell 4 rfl), ?_⟩; refine ⟨b5.mayF rfl, NewH.mk fun H_8 e5 => ?_⟩; obtain ⟨st8, b5⟩ := b5.wf5 rfl e5; replace hc8 := hc8.step st8; replace hc9 := hc9.step st8; replace hc10 := hc10.step st8; replace hc11 := hc11.step st8; replace hc12 := hc12.step st8; replace b3 := b3.step st8; refine ⟨hc8.val, hc9.val, hc10.val, hc11.val, hc12.val, (b3.cell 4 rfl), ?_⟩; replace b4 := b4.step (st7.then st8); refine ⟨b4.mayF rfl, NewH.mk fun H_9 e6 => ?_⟩; obtain ⟨st9, b4⟩ := b4.wf5 rfl e6; replace b5 := b5.step st9; refine ⟨_, b5.cell0, ?_⟩; refine ⟨_, b4.cell0, ?_⟩; refine condI (fun q => ?_) (fun q => ?_) q
 · replace hs := hs.trans (st.then (st2.then (st3.then (st4.then (st5.then (st6.then (st7.then (st8.then st9)))))))); exact hk (Zt xσ7) _ (hs.ext hσ) (hs.old hσ) _ q
 refine ⟨_, b5.cell 1 rfl, ?_⟩; refine ⟨_, b4.cell 1 rfl, ?_⟩; refine condI (fun q => ?_) (fun q => ?_) q
 · replace hs := hs.trans (st.then (st2.then (st3.then (st4.then (st5.then (st6.then (st7.then (st8.then st9)))))))); exact hk (Zt xσ7) _ (hs.ext hσ) (hs.old hσ) _ q
 refine ⟨_, b5.cell 2 rfl, ?_⟩; refine ⟨_, b4.cell 2 rfl, ?_⟩; refine condI (fun q => ?_) (fun q => ?_) q
 · replace hs := hs.trans (st.then (st2.then (st3.then (st4.then (st5.then (st6.then (st7.then (st8.then st9)))))))); exact hk (Zt xσ7) _ (hs.ext hσ) (hs.old hσ) _ q
 refine ⟨_, b5.cell 3 rfl, ?_⟩; refine ⟨_, b4.cell 3 rfl, ?_⟩; refine condI (fun q => ?_) (fun q => ?_) q
 · replace hs := hs.trans (st.then (st2.then (st3.then (st4.then (st5.then (st6.then (st7.then (st8.then st9)))))))); exact hk (Zt xσ7) _ (hs.ext hσ) (hs.old hσ) _ q
 refine ⟨_, _, _, b5.cell 4 rfl, ?_⟩; refine ⟨_, _, _, b4.cell 4 rfl, ?_⟩; have c_4 := st6.then (st7.then (st8.then st9)); replace f9 := f9.step c_4; replace f10 := f10.step c_4; refine q (Zt xσ7) H_9 _ _ _ rfl f9 _ _ _ rfl f10 _ (fun Z4 H_10 hE3 hO3 x5 q => ?_); obtain ⟨xσ8, st10⟩ := call0 hE3 xσ7; refine ⟨_, rfl, ?_⟩; refine condI (fun q => ?_) (fun q => ?_) q
 · replace hs := hs.trans (st.then (st2.then (st3.then (st4.then (st5.then (st6.then (st7.then (st8.then (st9.then st10))))))))); exact hk (Zt xσ8) _ (hs.ext hσ) (hs.old hσ) _ q
 replace sl0 := sl0.trans (st6.then (st7.then (st8.then (st9.then st10)))); exact hnext (IntKind.i64.wrap (t + 1)) _ _ ⟨_, sl0, rfl⟩ q
def juntoref17_Zero.C (w : TWorld) (K : Bool → Prop) : Prop :=
 ∀ (Z : Nat → Prop) (H : Heap), ∀ (wv : Int), wv = (w.Setup.P : Int) → ∀ (wA : Option Addr) (wn wc : Nat), wn = w.Corrupted.length → SlF i64L Z H wA wc w.Corrupted → ∀ (wA2 : Option Addr) (wn2 wc2 : Nat), wn2 = w.Acts.length → SlF TAct.L Z H wA2 wc2 w.Acts → ∀ (wA3 : Option Addr) (wn3 wc3 : Nat), wn3 = w.Tapes.length → SlF (slL u64L) Z H wA3 wc3 w.Tapes → ∀ (wA4 : Option Addr) (wn4 wc4 : Nat), wn4 = w.Sent.length → SlF TSent.L Z H wA4 wc4 w.Sent → ∀ KK : Value → Heap → Prop,
   (∀ (Z' : Nat → Prop) (H' : Heap), Ext H H' → Old Z H Z' → ∀ (r0 : Bool), K r0 → KK (.bool r0) H') →
   CallH P N.juntoref17_Zero [.agg #[.int .u64 wv, .int .i64 w.Setup.N, .int .i64 w.Setup.T_, .slice wA wn wc, .slice wA2 wn2 wc2, .slice wA3 wn3 wc3, .int .i64 w.Round, .slice wA4 wn4 wc4]] H KK
def juntoref17_Zero.Q (w : TWorld) (K : Bool → Prop) : Prop :=
 cond ((w.Setup.P : Int) == 0 && w.Setup.N == 0 && w.Setup.T_ == 0) (cond ((IntKind.i64.wrap ((IntKind.i64.wrap ((IntKind.i64.wrap (((w.Corrupted.length : Nat) : Int) + ((w.Acts.length : Nat) : Int))) + ((w.Tapes.length : Nat) : Int))) + ((w.Sent.length : Nat) : Int))) == 0) (K (w.Round == 0))
  (K false))
  (K false)
theorem juntoref17_Zero.q {w : TWorld} {K : Bool → Prop} (q : juntoref17_Zero.Q w K) : juntoref17_Zero.C w K := by
 intro Z H wv he wA wn wc hn f wA2 wn2 wc2 hn2 f2 wA3 wn3 wc3 hn3 f3 wA4 wn4 wc4 hn4 f4 KK hk; cases he; cases hn; cases hn2; cases hn3; cases hn4; apply juntoref17_Zero.ok; unfold juntoref17_Zero.W; unfold juntoref17_Zero.Q at q; obtain ⟨σ, hz, hσ⟩ := tags Z; have hs : Stp ([] : List Nat) σ H σ H := Stp.refl _ _ _; replace f := f.wide hz; replace f2 := f2.wide hz; replace f3 := f3.wide hz; replace f4 := f4.wide hz; clear hz; refine NewH.mk fun H_ e => ?_; obtain ⟨xσ, st, b⟩ := BoxF.new σ 0 e; refine ⟨_, _, _, b.cell0, b.cell 1 rfl, b.cell 2 rfl, ?_⟩; refine ⟨_, (agg24 _ _ _ _ _ _).1, ?_⟩; refine condJ (fun q => ?_) (fun q => ?_) q
 · replace hs := hs.trans st; exact hk (Zt xσ) _ (hs.ext hσ) (hs.old hσ) _ q
 refine ⟨_, _, _, b.cell 3 rfl, ?_⟩; refine ⟨_, _, _, b.cell 4 rfl, ?_⟩; refine ⟨_, _, _, b.cell 5 rfl, ?_⟩; refine ⟨_, _, _, b.cell 7 rfl, ?_⟩; refine condJ (fun q => ?_) (fun q => ?_) q
 · replace hs := hs.trans st; exact hk (Zt xσ) _ (hs.ext hσ) (hs.old hσ) _ q
 refine ⟨_, b.cell 6 rfl, ?_⟩; replace hs := hs.trans st; exact hk (Zt xσ) _ (hs.ext hσ) (hs.old hσ) _ q
def juntoref17_Nothing.C (n : Int) (K : (List (List (List Nat))) → (List (List Nat)) → Prop) : Prop :=
 ∀ (Z : Nat → Prop) (H : Heap), ∀ KK : Value → Heap → Prop,
   (∀ (Z' : Nat → Prop) (H' : Heap), Ext H H' → Old Z H Z' → ∀ (r0 : (List (List (List Nat)))), ∀ (Y0 : Nat → Prop), (∀ i, Y0 i → H.size ≤ i ∧ ¬ Z' i) → ∀ (Ar0_0 : Option Addr) (nr0_0 cr0_0 : Nat), nr0_0 = r0.length → SlO (slM (rdM (slL u64L)) 47) 27 Z' Y0 H' Ar0_0 cr0_0 r0 → ∀ (r1 : (List (List Nat))), ∀ (Y1 : Nat → Prop), (∀ i, Y1 i → H.size ≤ i ∧ ¬ Z' i) → ∀ (Ar1_0 : Option Addr) (nr1_0 cr1_0 : Nat), nr1_0 = r1.length → SlO (rdM (slL u64L)) 47 Z' Y1 H' Ar1_0 cr1_0 r1 → (∀ i, Y0 i → ¬ Y1 i) → K r0 r1 → KK (.tuple #[.slice Ar0_0 nr0_0 cr0_0, .slice Ar1_0 nr1_0 cr1_0]) H') →
   CallH P N.juntoref17_Nothing [.int .i64 n] H KK
def juntoref17_Nothing.Q (n : Int) (K : (List (List (List Nat))) → (List (List Nat)) → Prop) : Prop :=
 MakeOk 24 n ∧ LoopQ (τ := Int × List (List (List Nat))) (0, (List.replicate (Int.toNat n) [])) fun t nextQ =>
 cond (decide (t.1 < ((Int.toNat n : Nat) : Int))) (MakeOk 24 n ∧ 0 ≤ t.1 ∧ t.1 < ((Int.toNat n : Nat) : Int) ∧ nextQ (IntKind.i64.wrap (t.1 + 1), (List.set t.2 (Int.toNat t.1) (List.replicate (Int.toNat n) []))))
  (MakeOk 24 n ∧ K t.2 (List.replicate (Int.toNat n) []))
theorem juntoref17_Nothing.q {n : Int} {K : (List (List (List Nat))) → (List (List Nat)) → Prop} (q : juntoref17_Nothing.Q n K) : juntoref17_Nothing.C n K := by
 intro Z H  KK hk; apply juntoref17_Nothing.ok; unfold juntoref17_Nothing.W; unfold juntoref17_Nothing.Q at q; obtain ⟨σ, hz, hσ⟩ := tags Z; have hs : Stp ([1, 2, 3] : List Nat) σ H σ H := Stp.refl _ _ _; clear hz; obtain ⟨q2, q⟩ := q; refine ⟨q2.1, Int.le_refl _, q2.w1, q2.w2, NewH.mk fun H_ e => ?_⟩; obtain ⟨xσ, st, f⟩ := SlO.made (O := (slM (rdM (slL u64L)) 47)) σ 1 e (slM_zero _ _) q2.len; refine LoopI.ofQ q (fun t_ s_ hp_ => ∃ σ_, Stp [1, 2] xσ H_ σ_ hp_ ∧ t_.1 = s_ ∧ t_.2.length = (List.replicate (Int.toNat n) []).length ∧ SlO (slM (rdM (slL u64L)) 47) 27 (Zt σ_) (Yt σ_ 1) hp_ (some (Addr.mk H.size 0 none)) (Int.toNat n) t_.2) (fun h k => h _ _ k) ⟨_, Stp.refl _ _ _, rfl, rfl, f⟩ ?_; rintro t _ _ H_2 next nextQ ⟨xσ2, st2, rfl, hl, f⟩ q hnext; (try dsimp only at q ⊢); have sl1 := st2; refine condJ (fun q => ?_) (fun q => ?_) q
 · obtain ⟨q4, q⟩ := q; refine ⟨q4.1, Int.le_refl _, q4.w1, q4.w2, NewH.mk fun H_5 e4 => ?_⟩; obtain ⟨xσ5, st5, f3⟩ := SlO.made (O := (rdM (slL u64L))) xσ2 3 e4 (slL_zero _) q4.len; replace hs := hs.trans (st.then (st2.then st5)); replace f := f.step st5; exact hk (Zt xσ5) _ (hs.ext hσ) (hs.old hσ) _ (Yt xσ5 1) (hs.fresh hσ) _ _ _ ((rl_len _ _).trans hl.symm) f _ (Yt xσ5 3) (hs.fresh hσ) _ _ _ (rl_len _ _) f3 Yt.apart q
 obtain ⟨q3, q⟩ := q; refine ⟨q3.1, Int.le_refl _, q3.w1, q3.w2, NewH.mk fun H_3 e2 => ?_⟩; obtain ⟨xσ3, st3, f2⟩ := SlO.made (O := (rdM (slL u64L))) xσ2 2 e2 (slL_zero _) q3.len; obtain ⟨h0, hi2, q⟩ := q; replace f := f.step st3; obtain ⟨a, ha, hi⟩ := f.addr h0 ((rl_len _ _).trans hl.symm) hi2; refine ⟨a, ha, hi.1, hi.2, ?_⟩; have w := SlO.put f ha h0 (lt_of_n ((rl_len _ _).trans hl.symm) hi2) (rl_len _ _) f2; refine ⟨w.1, NewH.mk fun H_4 e3 => ?_⟩; obtain ⟨xσ4, st4, f⟩ := w.2 H_4 e3; replace sl1 := sl1.trans (st3.then st4); exact hnext (IntKind.i64.wrap (t.1 + 1), (List.set t.2 (Int.toNat t.1) (List.replicate (Int.toNat n) []))) _ _ ⟨_, sl1, rfl, (set_back ((rl_len _ _).trans hl.symm) (set_len ((rl_len _ _).trans hl.symm)) hl), f⟩ q
def juntoref17_Act.C (w : TWorld) (from_ : Int) (to_ : Int) (data : (List Nat)) (K : (List Nat) → Prop) : Prop :=
 ∀ (Z : Nat → Prop) (H : Heap), ∀ (wv : Int), wv = (w.Setup.P : Int) → ∀ (wA : Option Addr) (wn wc : Nat), wn = w.Corrupted.length → SlF i64L Z H wA wc w.Corrupted → ∀ (wA2 : Option Addr) (wn2 wc2 : Nat), wn2 = w.Acts.length → SlF TAct.L Z H wA2 wc2 w.Acts → ∀ (wA3 : Option Addr) (wn3 wc3 : Nat), wn3 = w.Tapes.length → SlF (slL u64L) Z H wA3 wc3 w.Tapes → ∀ (wA4 : Option Addr) (wn4 wc4 : Nat), wn4 = w.Sent.length → SlF TSent.L Z H wA4 wc4 w.Sent → ∀ (dataA : Option Addr) (datan datac : Nat), datan = data.length → SlF u64L Z H dataA datac data → ∀ KK : Value → Heap → Prop,
   (∀ (Z' : Nat → Prop) (H' : Heap), Ext H H' → Old Z H Z' → ∀ (r0 : (List Nat)), ∀ (Ar0_0 : Option Addr) (nr0_0 cr0_0 : Nat), nr0_0 = r0.length → SlF u64L Z' H' Ar0_0 cr0_0 r0 → K r0 → KK (.slice Ar0_0 nr0_0 cr0_0) H') →
   CallH P N.juntoref17_Act [.agg #[.int .u64 wv, .int .i64 w.Setup.N, .int .i64 w.Setup.T_, .slice wA wn wc, .slice wA2 wn2 wc2, .slice wA3 wn3 wc3, .int .i64 w.Round, .slice wA4 wn4 wc4], .int .i64 from_, .int .i64 to_, .slice dataA datan datac] H KK
def juntoref17_Act.Q (w : TWorld) (from_ : Int) (to_ : Int) (data : (List Nat)) (K : (List Nat) → Prop) : Prop :=
 LoopQ (τ := Int) 0 fun t nextQ =>
 cond (decide (t < ((w.Acts.length : Nat) : Int))) (0 ≤ t ∧ ∃ x : TAct, w.Acts[Int.toNat t]? = some x ∧ cond (x.Round == (IntKind.i64.wrap (w.Round + 1))) (cond (x.From == from_) (cond (x.To == to_) (cond x.Silent (K ([]))
  (K x.Data))
  (nextQ (IntKind.i64.wrap (t + 1))))
  (nextQ (IntKind.i64.wrap (t + 1))))
  (nextQ (IntKind.i64.wrap (t + 1))))
  (K data)
theorem juntoref17_Act.q {w : TWorld} {from_ : Int} {to_ : Int} {data : (List Nat)} {K : (List Nat) → Prop} (q : juntoref17_Act.Q w from_ to_ data K) : juntoref17_Act.C w from_ to_ data K := by
 intro Z H wv he wA wn wc hn f wA2 wn2 wc2 hn2 f2 wA3 wn3 wc3 hn3 f3 wA4 wn4 wc4 hn4 f4 dataA datan datac hn5 f5 KK hk; cases he; cases hn; cases hn2; cases hn3; cases hn4; cases hn5; apply juntoref17_Act.ok; unfold juntoref17_Act.W; unfold juntoref17_Act.Q at q; obtain ⟨σ, hz, hσ⟩ := tags Z; have hs : Stp ([1] : List Nat) σ H σ H := Stp.refl _ _ _; replace f := f.wide hz; replace f2 := f2.wide hz; replace f3 := f3.wide hz; replace f4 := f4.wide hz; replace f5 := f5.wide hz; clear hz; refine NewH.mk fun H_ e => ?_; obtain ⟨xσ, st, b⟩ := BoxF.new σ 0 e; refine ⟨_, _, _, b.cell 4 rfl, ?_⟩; refine LoopI.ofQ q (fun t_ s_ hp_ => ∃ σ_, Stp [1] xσ H_ σ_ hp_ ∧ t_ = s_) (fun h k => h _ _ k) ⟨_, Stp.refl _ _ _, rfl⟩ ?_; rintro t _ _ H_2 next nextQ ⟨xσ2, st2, rfl⟩ q hnext; (try dsimp only at q ⊢); have sl0 := st2; refine condJ (fun q => ?_) (fun q => ?_) q
 · have c_0 := st.then st2; replace hs := hs.trans c_0; replace f5 := f5.step c_0; exact hk (Zt xσ2) _ (hs.ext hσ) (hs.old hσ) _ _ _ _ rfl f5 q
 obtain ⟨h0, x, hx, q⟩ := q; replace f2 := f2.step (st.then st2); obtain ⟨a, ha, hi⟩ := f2.addr h0 hx rfl; refine ⟨a, ha, hi.1, hi.2, ?_⟩; obtain ⟨cs, hr, hc⟩ := f2.ldN (k := 5) rfl ha h0 hx; obtain ⟨A, c, rfl, f6⟩ := hr; have hc2 := hc 0 _ rfl; have hc3 := hc 1 _ rfl; have hc4 := hc 2 _ rfl; have hc5 := hc 3 _ rfl; have hc6 := hc 4 _ rfl; refine ⟨_, _, _, _, _, _, _, hc2.val, hc3.val, hc4.val, hc5.val, hc6.val, ?_⟩; refine NewH.mk fun H_3 e2 => ?_; obtain ⟨xσ3, st3, b2⟩ := BoxF.new xσ2 1 e2; refine ⟨b2.mayF rfl, NewH.mk fun H_4 e3 => ?_⟩; obtain ⟨st4, b2⟩ := b2.wf5 rfl e3; refine ⟨_, b2.cell0, ?_⟩; replace b := b.step (st2.then (st3.then st4)); refine ⟨_, b.cell 6 rfl, ?_⟩; refine condJ (fun q => ?_) (fun q => ?_) q
 · replace sl0 := sl0.trans (st3.then st4); exact hnext (IntKind.i64.wrap (t + 1)) _ _ ⟨_, sl0, rfl⟩ q
 refine ⟨_, b2.cell 1 rfl, ?_⟩; refine condJ (fun q => ?_) (fun q => ?_) q
 · replace sl0 := sl0.trans (st3.then st4); exact hnext (IntKind.i64.wrap (t + 1)) _ _ ⟨_, sl0, rfl⟩ q
 refine ⟨_, b2.cell 2 rfl, ?_⟩; refine condJ (fun q => ?_) (fun q => ?_) q
 · replace sl0 := sl0.trans (st3.then st4); exact hnext (IntKind.i64.wrap (t + 1)) _ _ ⟨_, sl0, rfl⟩ q
 refine ⟨_, b2.cell 3 rfl, ?_⟩; refine condI (fun q => ?_) (fun q => ?_) q
 · replace hs := hs.trans (st.then (st2.then (st3.then st4))); exact hk (Zt xσ3) _ (hs.ext hσ) (hs.old hσ) _ _ _ _ rfl (SlF.nil _ _ _ _ _) q
 refine ⟨_, _, _, b2.cell 4 rfl, ?_⟩; replace hs := hs.trans (st.then (st2.then (st3.then st4))); replace f6 := f6.step (st3.then st4); exact hk (Zt xσ3) _ (hs.ext hσ) (hs.old hσ) _ _ _ _ rfl f6 q
def juntoref17_Exchange.C (w : TWorld) (private_ : (List (List (List Nat)))) (said : (List (List Nat))) (K : (List (List (List Nat))) → (List (List Nat)) → TWorld → Prop) : Prop :=
 ∀ (Z : Nat → Prop) (H : Heap), ∀ (wv : Int), wv = (w.Setup.P : Int) → ∀ (wA : Option Addr) (wn wc : Nat), wn = w.Corrupted.length → SlF i64L Z H wA wc w.Corrupted → ∀ (wA2 : Option Addr) (wn2 wc2 : Nat), wn2 = w.Acts.length → SlF TAct.L Z H wA2 wc2 w.Acts → ∀ (wA3 : Option Addr) (wn3 wc3 : Nat), wn3 = w.Tapes.length → SlF (slL u64L) Z H wA3 wc3 w.Tapes → ∀ (wA4 : Option Addr) (wn4 wc4 : Nat), wn4 = w.Sent.length → SlF TSent.L Z H wA4 wc4 w.Sent → ∀ (privateA : Option Addr) (privaten privatec : Nat), privaten = private_.length → SlF (slL (slL u64L)) Z H privateA privatec private_ → ∀ (saidA : Option Addr) (saidn saidc : Nat), saidn = said.length → SlF (slL u64L) Z H saidA saidc said → ∀ KK : Value → Heap → Prop,
   (∀ (Z' : Nat → Prop) (H' : Heap), Ext H H' → Old Z H Z' → ∀ (r0 : (List (List (List Nat)))), ∀ (Ar0_0 : Option Addr) (nr0_0 cr0_0 : Nat), nr0_0 = r0.length → SlF (slL (slL u64L)) Z' H' Ar0_0 cr0_0 r0 → ∀ (r1 : (List (List Nat))), ∀ (Ar1_0 : Option Addr) (nr1_0 cr1_0 : Nat), nr1_0 = r1.length → SlF (slL u64L) Z' H' Ar1_0 cr1_0 r1 → ∀ (r2 : TWorld), ∀ (r2v0 : Int), r2v0 = (r2.Setup.P : Int) → ∀ (Ar2_3 : Option Addr) (nr2_3 cr2_3 : Nat), nr2_3 = r2.Corrupted.length → SlF i64L Z' H' Ar2_3 cr2_3 r2.Corrupted → ∀ (Ar2_4 : Option Addr) (nr2_4 cr2_4 : Nat), nr2_4 = r2.Acts.length → SlF TAct.L Z' H' Ar2_4 cr2_4 r2.Acts → ∀ (Ar2_5 : Option Addr) (nr2_5 cr2_5 : Nat), nr2_5 = r2.Tapes.length → SlF (slL u64L) Z' H' Ar2_5 cr2_5 r2.Tapes → ∀ (Ar2_7 : Option Addr) (nr2_7 cr2_7 : Nat), nr2_7 = r2.Sent.length → SlF TSent.L Z' H' Ar2_7 cr2_7 r2.Sent → K r0 r1 r2 → KK (.tuple #[.slice Ar0_0 nr0_0 cr0_0, .slice Ar1_0 nr1_0 cr1_0, .agg #[.int .u64 r2v0, .int .i64 r2.Setup.N, .int .i64 r2.Setup.T_, .slice Ar2_3 nr2_3 cr2_3, .slice Ar2_4 nr2_4 cr2_4, .slice Ar2_5 nr2_5 cr2_5, .int .i64 r2.Round, .slice Ar2_7 nr2_7 cr2_7]]) H') →
   CallH P N.juntoref17_Exchange [.agg #[.int .u64 wv, .int .i64 w.Setup.N, .int .i64 w.Setup.T_, .slice wA wn wc, .slice wA2 wn2 wc2, .slice wA3 wn3 wc3, .int .i64 w.Round, .slice wA4 wn4 wc4], .slice privateA privaten privatec, .slice saidA saidn saidc] H KK
def juntoref17_Exchange.Q (w : TWorld) (private_ : (List (List (List Nat)))) (said : (List (List Nat))) (K : (List (List (List Nat))) → (List (List Nat)) → TWorld → Prop) : Prop :=
 (MakeOk 24 w.Setup.N ∧ MakeOk 24 w.Setup.N ∧ LoopQ (τ := Int × List (List (List Nat))) (0, (List.replicate (Int.toNat w.Setup.N) [])) fun t nextQ =>
 cond (decide (t.1 < ((Int.toNat w.Setup.N : Nat) : Int))) (MakeOk 24 w.Setup.N ∧ 0 ≤ t.1 ∧ t.1 < ((Int.toNat w.Setup.N : Nat) : Int) ∧ nextQ (IntKind.i64.wrap (t.1 + 1), (List.set t.2 (Int.toNat t.1) (List.replicate (Int.toNat w.Setup.N) []))))
  (AppOk 48 ([] ++ w.Sent).length ∧ LoopQ (τ := List TSent × Int × List (List (List Nat)) × List (List Nat)) (w.Sent, 1, t.2, (List.replicate (Int.toNat w.Setup.N) [])) fun t2 nextQ2 =>
 cond (decide (t2.2.1 ≤ w.Setup.N)) (0 ≤ (IntKind.i64.wrap (t2.2.1 - 1)) ∧ ∃ x : (List Nat), said[Int.toNat (IntKind.i64.wrap (t2.2.1 - 1))]? = some x ∧ juntoref17_Act.C w t2.2.1 0 x (fun (x2 : (List Nat)) =>
 0 ≤ (IntKind.i64.wrap (t2.2.1 - 1)) ∧ (IntKind.i64.wrap (t2.2.1 - 1)) < ((Int.toNat w.Setup.N : Nat) : Int) ∧ 0 ≤ (IntKind.i64.wrap (t2.2.1 - 1)) ∧ (IntKind.i64.wrap (t2.2.1 - 1)) < ((Int.toNat w.Setup.N : Nat) : Int) ∧ ∃ x3 : (List Nat), (List.set t2.2.2.2 (Int.toNat (IntKind.i64.wrap (t2.2.1 - 1))) x2)[Int.toNat (IntKind.i64.wrap (t2.2.1 - 1))]? = some x3 ∧ cond (decide (((x3.length : Nat) : Int) > 0)) (0 ≤ (IntKind.i64.wrap (t2.2.1 - 1)) ∧ (IntKind.i64.wrap (t2.2.1 - 1)) < ((Int.toNat w.Setup.N : Nat) : Int) ∧ ∃ x4 : (List Nat), (List.set t2.2.2.2 (Int.toNat (IntKind.i64.wrap (t2.2.1 - 1))) x2)[Int.toNat (IntKind.i64.wrap (t2.2.1 - 1))]? = some x4 ∧ AppOk 48 (t2.1 ++ ([(⟨IntKind.i64.wrap (w.Round + 1), t2.2.1, 0, x4⟩ : TSent)] : List TSent)).length ∧ LoopQ (τ := List TSent × Int × List (List (List Nat))) ((t2.1 ++ ([(⟨IntKind.i64.wrap (w.Round + 1), t2.2.1, 0, x4⟩ : TSent)] : List TSent)), 1, t2.2.2.1) fun t3 nextQ3 =>
 cond (decide (t3.2.1 ≤ w.Setup.N)) (cond (t2.2.1 == t3.2.1) (0 ≤ (IntKind.i64.wrap (t3.2.1 - 1)) ∧ (IntKind.i64.wrap (t3.2.1 - 1)) < ((Int.toNat w.Setup.N : Nat) : Int) ∧ 0 ≤ (IntKind.i64.wrap (t2.2.1 - 1)) ∧ ∃ x5 : (List (List Nat)), private_[Int.toNat (IntKind.i64.wrap (t2.2.1 - 1))]? = some x5 ∧ ∃ x6 : (List (List Nat)), t3.2.2[Int.toNat (IntKind.i64.wrap (t3.2.1 - 1))]? = some x6 ∧ 0 ≤ (IntKind.i64.wrap (t3.2.1 - 1)) ∧ ∃ x7 : (List Nat), x5[Int.toNat (IntKind.i64.wrap (t3.2.1 - 1))]? = some x7 ∧ 0 ≤ (IntKind.i64.wrap (t2.2.1 - 1)) ∧ (IntKind.i64.wrap (t2.2.1 - 1)) < ((x6.length : Nat) : Int) ∧ nextQ3 (t3.1, IntKind.i64.wrap (t3.2.1 + 1), (List.set t3.2.2 (Int.toNat (IntKind.i64.wrap (t3.2.1 - 1))) (List.set x6 (Int.toNat (IntKind.i64.wrap (t2.2.1 - 1))) x7))))
  (0 ≤ (IntKind.i64.wrap (t3.2.1 - 1)) ∧ (IntKind.i64.wrap (t3.2.1 - 1)) < ((Int.toNat w.Setup.N : Nat) : Int) ∧ 0 ≤ (IntKind.i64.wrap (t2.2.1 - 1)) ∧ ∃ x8 : (List (List Nat)), private_[Int.toNat (IntKind.i64.wrap (t2.2.1 - 1))]? = some x8 ∧ ∃ x9 : (List (List Nat)), t3.2.2[Int.toNat (IntKind.i64.wrap (t3.2.1 - 1))]? = some x9 ∧ 0 ≤ (IntKind.i64.wrap (t3.2.1 - 1)) ∧ ∃ x10 : (List Nat), x8[Int.toNat (IntKind.i64.wrap (t3.2.1 - 1))]? = some x10 ∧ juntoref17_Act.C w t2.2.1 t3.2.1 x10 (fun (x11 : (List Nat)) =>
 0 ≤ (IntKind.i64.wrap (t2.2.1 - 1)) ∧ (IntKind.i64.wrap (t2.2.1 - 1)) < ((x9.length : Nat) : Int) ∧ 0 ≤ (IntKind.i64.wrap (t3.2.1 - 1)) ∧ (IntKind.i64.wrap (t3.2.1 - 1)) < ((Int.toNat w.Setup.N : Nat) : Int) ∧ ∃ x12 : (List (List Nat)), (List.set t3.2.2 (Int.toNat (IntKind.i64.wrap (t3.2.1 - 1))) (List.set x9 (Int.toNat (IntKind.i64.wrap (t2.2.1 - 1))) x11))[Int.toNat (IntKind.i64.wrap (t3.2.1 - 1))]? = some x12 ∧ 0 ≤ (IntKind.i64.wrap (t2.2.1 - 1)) ∧ (IntKind.i64.wrap (t2.2.1 - 1)) < ((x12.length : Nat) : Int) ∧ ∃ x13 : (List Nat), x12[Int.toNat (IntKind.i64.wrap (t2.2.1 - 1))]? = some x13 ∧ cond (decide (((x13.length : Nat) : Int) > 0)) (0 ≤ (IntKind.i64.wrap (t3.2.1 - 1)) ∧ (IntKind.i64.wrap (t3.2.1 - 1)) < ((Int.toNat w.Setup.N : Nat) : Int) ∧ ∃ x14 : (List (List Nat)), (List.set t3.2.2 (Int.toNat (IntKind.i64.wrap (t3.2.1 - 1))) (List.set x9 (Int.toNat (IntKind.i64.wrap (t2.2.1 - 1))) x11))[Int.toNat (IntKind.i64.wrap (t3.2.1 - 1))]? = some x14 ∧ 0 ≤ (IntKind.i64.wrap (t2.2.1 - 1)) ∧ (IntKind.i64.wrap (t2.2.1 - 1)) < ((x14.length : Nat) : Int) ∧ ∃ x15 : (List Nat), x14[Int.toNat (IntKind.i64.wrap (t2.2.1 - 1))]? = some x15 ∧ AppOk 48 (t3.1 ++ ([(⟨IntKind.i64.wrap (w.Round + 1), t2.2.1, t3.2.1, x15⟩ : TSent)] : List TSent)).length ∧ nextQ3 ((t3.1 ++ ([(⟨IntKind.i64.wrap (w.Round + 1), t2.2.1, t3.2.1, x15⟩ : TSent)] : List TSent)), IntKind.i64.wrap (t3.2.1 + 1), (List.set t3.2.2 (Int.toNat (IntKind.i64.wrap (t3.2.1 - 1))) (List.set x9 (Int.toNat (IntKind.i64.wrap (t2.2.1 - 1))) x11))))
  (nextQ3 (t3.1, IntKind.i64.wrap (t3.2.1 + 1), (List.set t3.2.2 (Int.toNat (IntKind.i64.wrap (t3.2.1 - 1))) (List.set x9 (Int.toNat (IntKind.i64.wrap (t2.2.1 - 1))) x11)))))))
  (nextQ2 (t3.1, IntKind.i64.wrap (t2.2.1 + 1), t3.2.2, (List.set t2.2.2.2 (Int.toNat (IntKind.i64.wrap (t2.2.1 - 1))) x2))))
  (LoopQ (τ := List TSent × Int × List (List (List Nat))) (t2.1, 1, t2.2.2.1) fun t4 nextQ4 =>
 cond (decide (t4.2.1 ≤ w.Setup.N)) (cond (t2.2.1 == t4.2.1) (0 ≤ (IntKind.i64.wrap (t4.2.1 - 1)) ∧ (IntKind.i64.wrap (t4.2.1 - 1)) < ((Int.toNat w.Setup.N : Nat) : Int) ∧ 0 ≤ (IntKind.i64.wrap (t2.2.1 - 1)) ∧ ∃ x16 : (List (List Nat)), private_[Int.toNat (IntKind.i64.wrap (t2.2.1 - 1))]? = some x16 ∧ ∃ x17 : (List (List Nat)), t4.2.2[Int.toNat (IntKind.i64.wrap (t4.2.1 - 1))]? = some x17 ∧ 0 ≤ (IntKind.i64.wrap (t4.2.1 - 1)) ∧ ∃ x18 : (List Nat), x16[Int.toNat (IntKind.i64.wrap (t4.2.1 - 1))]? = some x18 ∧ 0 ≤ (IntKind.i64.wrap (t2.2.1 - 1)) ∧ (IntKind.i64.wrap (t2.2.1 - 1)) < ((x17.length : Nat) : Int) ∧ nextQ4 (t4.1, IntKind.i64.wrap (t4.2.1 + 1), (List.set t4.2.2 (Int.toNat (IntKind.i64.wrap (t4.2.1 - 1))) (List.set x17 (Int.toNat (IntKind.i64.wrap (t2.2.1 - 1))) x18))))
  (0 ≤ (IntKind.i64.wrap (t4.2.1 - 1)) ∧ (IntKind.i64.wrap (t4.2.1 - 1)) < ((Int.toNat w.Setup.N : Nat) : Int) ∧ 0 ≤ (IntKind.i64.wrap (t2.2.1 - 1)) ∧ ∃ x19 : (List (List Nat)), private_[Int.toNat (IntKind.i64.wrap (t2.2.1 - 1))]? = some x19 ∧ ∃ x20 : (List (List Nat)), t4.2.2[Int.toNat (IntKind.i64.wrap (t4.2.1 - 1))]? = some x20 ∧ 0 ≤ (IntKind.i64.wrap (t4.2.1 - 1)) ∧ ∃ x21 : (List Nat), x19[Int.toNat (IntKind.i64.wrap (t4.2.1 - 1))]? = some x21 ∧ juntoref17_Act.C w t2.2.1 t4.2.1 x21 (fun (x22 : (List Nat)) =>
 0 ≤ (IntKind.i64.wrap (t2.2.1 - 1)) ∧ (IntKind.i64.wrap (t2.2.1 - 1)) < ((x20.length : Nat) : Int) ∧ 0 ≤ (IntKind.i64.wrap (t4.2.1 - 1)) ∧ (IntKind.i64.wrap (t4.2.1 - 1)) < ((Int.toNat w.Setup.N : Nat) : Int) ∧ ∃ x23 : (List (List Nat)), (List.set t4.2.2 (Int.toNat (IntKind.i64.wrap (t4.2.1 - 1))) (List.set x20 (Int.toNat (IntKind.i64.wrap (t2.2.1 - 1))) x22))[Int.toNat (IntKind.i64.wrap (t4.2.1 - 1))]? = some x23 ∧ 0 ≤ (IntKind.i64.wrap (t2.2.1 - 1)) ∧ (IntKind.i64.wrap (t2.2.1 - 1)) < ((x23.length : Nat) : Int) ∧ ∃ x24 : (List Nat), x23[Int.toNat (IntKind.i64.wrap (t2.2.1 - 1))]? = some x24 ∧ cond (decide (((x24.length : Nat) : Int) > 0)) (0 ≤ (IntKind.i64.wrap (t4.2.1 - 1)) ∧ (IntKind.i64.wrap (t4.2.1 - 1)) < ((Int.toNat w.Setup.N : Nat) : Int) ∧ ∃ x25 : (List (List Nat)), (List.set t4.2.2 (Int.toNat (IntKind.i64.wrap (t4.2.1 - 1))) (List.set x20 (Int.toNat (IntKind.i64.wrap (t2.2.1 - 1))) x22))[Int.toNat (IntKind.i64.wrap (t4.2.1 - 1))]? = some x25 ∧ 0 ≤ (IntKind.i64.wrap (t2.2.1 - 1)) ∧ (IntKind.i64.wrap (t2.2.1 - 1)) < ((x25.length : Nat) : Int) ∧ ∃ x26 : (List Nat), x25[Int.toNat (IntKind.i64.wrap (t2.2.1 - 1))]? = some x26 ∧ AppOk 48 (t4.1 ++ ([(⟨IntKind.i64.wrap (w.Round + 1), t2.2.1, t4.2.1, x26⟩ : TSent)] : List TSent)).length ∧ nextQ4 ((t4.1 ++ ([(⟨IntKind.i64.wrap (w.Round + 1), t2.2.1, t4.2.1, x26⟩ : TSent)] : List TSent)), IntKind.i64.wrap (t4.2.1 + 1), (List.set t4.2.2 (Int.toNat (IntKind.i64.wrap (t4.2.1 - 1))) (List.set x20 (Int.toNat (IntKind.i64.wrap (t2.2.1 - 1))) x22))))
  (nextQ4 (t4.1, IntKind.i64.wrap (t4.2.1 + 1), (List.set t4.2.2 (Int.toNat (IntKind.i64.wrap (t4.2.1 - 1))) (List.set x20 (Int.toNat (IntKind.i64.wrap (t2.2.1 - 1))) x22)))))))
  (nextQ2 (t4.1, IntKind.i64.wrap (t2.2.1 + 1), t4.2.2, (List.set t2.2.2.2 (Int.toNat (IntKind.i64.wrap (t2.2.1 - 1))) x2))))))
  (K t2.2.2.1 t2.2.2.2 (⟨w.Setup, w.Corrupted, w.Acts, w.Tapes, IntKind.i64.wrap (w.Round + 1), t2.1⟩ : TWorld)))) ∧ MakeOk 24 w.Setup.N ∧ MakeOk 24 w.Setup.N ∧ LoopQ (τ := Int × List (List (List Nat))) (0, (List.replicate (Int.toNat w.Setup.N) [])) fun t nextQ =>
 cond (decide (t.1 < ((Int.toNat w.Setup.N : Nat) : Int))) (MakeOk 24 w.Setup.N ∧ 0 ≤ t.1 ∧ t.1 < ((Int.toNat w.Setup.N : Nat) : Int) ∧ nextQ (IntKind.i64.wrap (t.1 + 1), (List.set t.2 (Int.toNat t.1) (List.replicate (Int.toNat w.Setup.N) []))))
  (AppOk 48 ([] ++ w.Sent).length ∧ LoopQ (τ := List TSent × Int × List (List Nat) × List (List (List Nat))) (w.Sent, 1, (List.replicate (Int.toNat w.Setup.N) []), t.2) fun t2 nextQ2 =>
 cond (decide (t2.2.1 ≤ w.Setup.N)) (0 ≤ (IntKind.i64.wrap (t2.2.1 - 1)) ∧ ∃ x : (List Nat), said[Int.toNat (IntKind.i64.wrap (t2.2.1 - 1))]? = some x ∧ juntoref17_Act.C w t2.2.1 0 x (fun (x2 : (List Nat)) =>
 0 ≤ (IntKind.i64.wrap (t2.2.1 - 1)) ∧ (IntKind.i64.wrap (t2.2.1 - 1)) < ((Int.toNat w.Setup.N : Nat) : Int) ∧ 0 ≤ (IntKind.i64.wrap (t2.2.1 - 1)) ∧ (IntKind.i64.wrap (t2.2.1 - 1)) < ((Int.toNat w.Setup.N : Nat) : Int) ∧ ∃ x3 : (List Nat), (List.set t2.2.2.1 (Int.toNat (IntKind.i64.wrap (t2.2.1 - 1))) x2)[Int.toNat (IntKind.i64.wrap (t2.2.1 - 1))]? = some x3 ∧ cond (decide (((x3.length : Nat) : Int) > 0)) (0 ≤ (IntKind.i64.wrap (t2.2.1 - 1)) ∧ (IntKind.i64.wrap (t2.2.1 - 1)) < ((Int.toNat w.Setup.N : Nat) : Int) ∧ ∃ x4 : (List Nat), (List.set t2.2.2.1 (Int.toNat (IntKind.i64.wrap (t2.2.1 - 1))) x2)[Int.toNat (IntKind.i64.wrap (t2.2.1 - 1))]? = some x4 ∧ AppOk 48 (t2.1 ++ ([(⟨IntKind.i64.wrap (w.Round + 1), t2.2.1, 0, x4⟩ : TSent)] : List TSent)).length ∧ LoopQ (τ := List TSent × Int × List (List (List Nat))) ((t2.1 ++ ([(⟨IntKind.i64.wrap (w.Round + 1), t2.2.1, 0, x4⟩ : TSent)] : List TSent)), 1, t2.2.2.2) fun t3 nextQ3 =>
 cond (decide (t3.2.1 ≤ w.Setup.N)) (cond (t2.2.1 == t3.2.1) (0 ≤ (IntKind.i64.wrap (t3.2.1 - 1)) ∧ (IntKind.i64.wrap (t3.2.1 - 1)) < ((Int.toNat w.Setup.N : Nat) : Int) ∧ 0 ≤ (IntKind.i64.wrap (t2.2.1 - 1)) ∧ ∃ x5 : (List (List Nat)), private_[Int.toNat (IntKind.i64.wrap (t2.2.1 - 1))]? = some x5 ∧ ∃ x6 : (List (List Nat)), t3.2.2[Int.toNat (IntKind.i64.wrap (t3.2.1 - 1))]? = some x6 ∧ 0 ≤ (IntKind.i64.wrap (t3.2.1 - 1)) ∧ ∃ x7 : (List Nat), x5[Int.toNat (IntKind.i64.wrap (t3.2.1 - 1))]? = some x7 ∧ 0 ≤ (IntKind.i64.wrap (t2.2.1 - 1)) ∧ (IntKind.i64.wrap (t2.2.1 - 1)) < ((x6.length : Nat) : Int) ∧ nextQ3 (t3.1, IntKind.i64.wrap (t3.2.1 + 1), (List.set t3.2.2 (Int.toNat (IntKind.i64.wrap (t3.2.1 - 1))) (List.set x6 (Int.toNat (IntKind.i64.wrap (t2.2.1 - 1))) x7))))
  (0 ≤ (IntKind.i64.wrap (t3.2.1 - 1)) ∧ (IntKind.i64.wrap (t3.2.1 - 1)) < ((Int.toNat w.Setup.N : Nat) : Int) ∧ 0 ≤ (IntKind.i64.wrap (t2.2.1 - 1)) ∧ ∃ x8 : (List (List Nat)), private_[Int.toNat (IntKind.i64.wrap (t2.2.1 - 1))]? = some x8 ∧ ∃ x9 : (List (List Nat)), t3.2.2[Int.toNat (IntKind.i64.wrap (t3.2.1 - 1))]? = some x9 ∧ 0 ≤ (IntKind.i64.wrap (t3.2.1 - 1)) ∧ ∃ x10 : (List Nat), x8[Int.toNat (IntKind.i64.wrap (t3.2.1 - 1))]? = some x10 ∧ juntoref17_Act.C w t2.2.1 t3.2.1 x10 (fun (x11 : (List Nat)) =>
 0 ≤ (IntKind.i64.wrap (t2.2.1 - 1)) ∧ (IntKind.i64.wrap (t2.2.1 - 1)) < ((x9.length : Nat) : Int) ∧ 0 ≤ (IntKind.i64.wrap (t3.2.1 - 1)) ∧ (IntKind.i64.wrap (t3.2.1 - 1)) < ((Int.toNat w.Setup.N : Nat) : Int) ∧ ∃ x12 : (List (List Nat)), (List.set t3.2.2 (Int.toNat (IntKind.i64.wrap (t3.2.1 - 1))) (List.set x9 (Int.toNat (IntKind.i64.wrap (t2.2.1 - 1))) x11))[Int.toNat (IntKind.i64.wrap (t3.2.1 - 1))]? = some x12 ∧ 0 ≤ (IntKind.i64.wrap (t2.2.1 - 1)) ∧ (IntKind.i64.wrap (t2.2.1 - 1)) < ((x12.length : Nat) : Int) ∧ ∃ x13 : (List Nat), x12[Int.toNat (IntKind.i64.wrap (t2.2.1 - 1))]? = some x13 ∧ cond (decide (((x13.length : Nat) : Int) > 0)) (0 ≤ (IntKind.i64.wrap (t3.2.1 - 1)) ∧ (IntKind.i64.wrap (t3.2.1 - 1)) < ((Int.toNat w.Setup.N : Nat) : Int) ∧ ∃ x14 : (List (List Nat)), (List.set t3.2.2 (Int.toNat (IntKind.i64.wrap (t3.2.1 - 1))) (List.set x9 (Int.toNat (IntKind.i64.wrap (t2.2.1 - 1))) x11))[Int.toNat (IntKind.i64.wrap (t3.2.1 - 1))]? = some x14 ∧ 0 ≤ (IntKind.i64.wrap (t2.2.1 - 1)) ∧ (IntKind.i64.wrap (t2.2.1 - 1)) < ((x14.length : Nat) : Int) ∧ ∃ x15 : (List Nat), x14[Int.toNat (IntKind.i64.wrap (t2.2.1 - 1))]? = some x15 ∧ AppOk 48 (t3.1 ++ ([(⟨IntKind.i64.wrap (w.Round + 1), t2.2.1, t3.2.1, x15⟩ : TSent)] : List TSent)).length ∧ nextQ3 ((t3.1 ++ ([(⟨IntKind.i64.wrap (w.Round + 1), t2.2.1, t3.2.1, x15⟩ : TSent)] : List TSent)), IntKind.i64.wrap (t3.2.1 + 1), (List.set t3.2.2 (Int.toNat (IntKind.i64.wrap (t3.2.1 - 1))) (List.set x9 (Int.toNat (IntKind.i64.wrap (t2.2.1 - 1))) x11))))
  (nextQ3 (t3.1, IntKind.i64.wrap (t3.2.1 + 1), (List.set t3.2.2 (Int.toNat (IntKind.i64.wrap (t3.2.1 - 1))) (List.set x9 (Int.toNat (IntKind.i64.wrap (t2.2.1 - 1))) x11)))))))
  (nextQ2 (t3.1, IntKind.i64.wrap (t2.2.1 + 1), (List.set t2.2.2.1 (Int.toNat (IntKind.i64.wrap (t2.2.1 - 1))) x2), t3.2.2)))
  (LoopQ (τ := List TSent × Int × List (List (List Nat))) (t2.1, 1, t2.2.2.2) fun t4 nextQ4 =>
 cond (decide (t4.2.1 ≤ w.Setup.N)) (cond (t2.2.1 == t4.2.1) (0 ≤ (IntKind.i64.wrap (t4.2.1 - 1)) ∧ (IntKind.i64.wrap (t4.2.1 - 1)) < ((Int.toNat w.Setup.N : Nat) : Int) ∧ 0 ≤ (IntKind.i64.wrap (t2.2.1 - 1)) ∧ ∃ x16 : (List (List Nat)), private_[Int.toNat (IntKind.i64.wrap (t2.2.1 - 1))]? = some x16 ∧ ∃ x17 : (List (List Nat)), t4.2.2[Int.toNat (IntKind.i64.wrap (t4.2.1 - 1))]? = some x17 ∧ 0 ≤ (IntKind.i64.wrap (t4.2.1 - 1)) ∧ ∃ x18 : (List Nat), x16[Int.toNat (IntKind.i64.wrap (t4.2.1 - 1))]? = some x18 ∧ 0 ≤ (IntKind.i64.wrap (t2.2.1 - 1)) ∧ (IntKind.i64.wrap (t2.2.1 - 1)) < ((x17.length : Nat) : Int) ∧ nextQ4 (t4.1, IntKind.i64.wrap (t4.2.1 + 1), (List.set t4.2.2 (Int.toNat (IntKind.i64.wrap (t4.2.1 - 1))) (List.set x17 (Int.toNat (IntKind.i64.wrap (t2.2.1 - 1))) x18))))
  (0 ≤ (IntKind.i64.wrap (t4.2.1 - 1)) ∧ (IntKind.i64.wrap (t4.2.1 - 1)) < ((Int.toNat w.Setup.N : Nat) : Int) ∧ 0 ≤ (IntKind.i64.wrap (t2.2.1 - 1)) ∧ ∃ x19 : (List (List Nat)), private_[Int.toNat (IntKind.i64.wrap (t2.2.1 - 1))]? = some x19 ∧ ∃ x20 : (List (List Nat)), t4.2.2[Int.toNat (IntKind.i64.wrap (t4.2.1 - 1))]? = some x20 ∧ 0 ≤ (IntKind.i64.wrap (t4.2.1 - 1)) ∧ ∃ x21 : (List Nat), x19[Int.toNat (IntKind.i64.wrap (t4.2.1 - 1))]? = some x21 ∧ juntoref17_Act.C w t2.2.1 t4.2.1 x21 (fun (x22 : (List Nat)) =>
 0 ≤ (IntKind.i64.wrap (t2.2.1 - 1)) ∧ (IntKind.i64.wrap (t2.2.1 - 1)) < ((x20.length : Nat) : Int) ∧ 0 ≤ (IntKind.i64.wrap (t4.2.1 - 1)) ∧ (IntKind.i64.wrap (t4.2.1 - 1)) < ((Int.toNat w.Setup.N : Nat) : Int) ∧ ∃ x23 : (List (List Nat)), (List.set t4.2.2 (Int.toNat (IntKind.i64.wrap (t4.2.1 - 1))) (List.set x20 (Int.toNat (IntKind.i64.wrap (t2.2.1 - 1))) x22))[Int.toNat (IntKind.i64.wrap (t4.2.1 - 1))]? = some x23 ∧ 0 ≤ (IntKind.i64.wrap (t2.2.1 - 1)) ∧ (IntKind.i64.wrap (t2.2.1 - 1)) < ((x23.length : Nat) : Int) ∧ ∃ x24 : (List Nat), x23[Int.toNat (IntKind.i64.wrap (t2.2.1 - 1))]? = some x24 ∧ cond (decide (((x24.length : Nat) : Int) > 0)) (0 ≤ (IntKind.i64.wrap (t4.2.1 - 1)) ∧ (IntKind.i64.wrap (t4.2.1 - 1)) < ((Int.toNat w.Setup.N : Nat) : Int) ∧ ∃ x25 : (List (List Nat)), (List.set t4.2.2 (Int.toNat (IntKind.i64.wrap (t4.2.1 - 1))) (List.set x20 (Int.toNat (IntKind.i64.wrap (t2.2.1 - 1))) x22))[Int.toNat (IntKind.i64.wrap (t4.2.1 - 1))]? = some x25 ∧ 0 ≤ (IntKind.i64.wrap (t2.2.1 - 1)) ∧ (IntKind.i64.wrap (t2.2.1 - 1)) < ((x25.length : Nat) : Int) ∧ ∃ x26 : (List Nat), x25[Int.toNat (IntKind.i64.wrap (t2.2.1 - 1))]? = some x26 ∧ AppOk 48 (t4.1 ++ ([(⟨IntKind.i64.wrap (w.Round + 1), t2.2.1, t4.2.1, x26⟩ : TSent)] : List TSent)).length ∧ nextQ4 ((t4.1 ++ ([(⟨IntKind.i64.wrap (w.Round + 1), t2.2.1, t4.2.1, x26⟩ : TSent)] : List TSent)), IntKind.i64.wrap (t4.2.1 + 1), (List.set t4.2.2 (Int.toNat (IntKind.i64.wrap (t4.2.1 - 1))) (List.set x20 (Int.toNat (IntKind.i64.wrap (t2.2.1 - 1))) x22))))
  (nextQ4 (t4.1, IntKind.i64.wrap (t4.2.1 + 1), (List.set t4.2.2 (Int.toNat (IntKind.i64.wrap (t4.2.1 - 1))) (List.set x20 (Int.toNat (IntKind.i64.wrap (t2.2.1 - 1))) x22)))))))
  (nextQ2 (t4.1, IntKind.i64.wrap (t2.2.1 + 1), (List.set t2.2.2.1 (Int.toNat (IntKind.i64.wrap (t2.2.1 - 1))) x2), t4.2.2)))))
  (K t2.2.2.2 t2.2.2.1 (⟨w.Setup, w.Corrupted, w.Acts, w.Tapes, IntKind.i64.wrap (w.Round + 1), t2.1⟩ : TWorld)))
theorem juntoref17_Exchange.q {w : TWorld} {private_ : (List (List (List Nat)))} {said : (List (List Nat))} {K : (List (List (List Nat))) → (List (List Nat)) → TWorld → Prop} (q : juntoref17_Exchange.Q w private_ said K) : juntoref17_Exchange.C w private_ said K := by
 intro Z H wv he wA wn wc hn f wA2 wn2 wc2 hn2 f2 wA3 wn3 wc3 hn3 f3 wA4 wn4 wc4 hn4 f4 privateA privaten privatec hn5 f5 saidA saidn saidc hn6 f6 KK hk; cases he; cases hn; cases hn2; cases hn3; cases hn4; cases hn5; cases hn6; apply juntoref17_Exchange.ok; unfold juntoref17_Exchange.W; unfold juntoref17_Exchange.Q at q; obtain ⟨σ, hz, hσ⟩ := tags Z; have hs : Stp ([1, 2, 3, 4, 5, 6, 7, 8, 9, 10, 11, 12, 13, 14, 15, 16] : List Nat) σ H σ H := Stp.refl _ _ _; replace f := f.wide hz; replace f2 := f2.wide hz; replace f3 := f3.wide hz; replace f4 := f4.wide hz; replace f5 := f5.wide hz; replace f6 := f6.wide hz; clear hz; refine NewH.mk fun H_ e => ?_; obtain ⟨xσ, st, b⟩ := BoxF.new σ 1 e; refine NewH.mk fun H_2 e2 => ?_; obtain ⟨xσ2, st2, b2⟩ := BoxF.new xσ 2 e2; replace b := b.step st2; refine ⟨_, b.cell 1 rfl, ?_⟩; obtain ⟨q, qq⟩ := q; refine ⟨?_, ?_⟩
 · obtain ⟨q2, q⟩ := q; refine ⟨q2.1, Int.le_refl _, q2.w1, q2.w2, NewH.mk fun H_3 e3 => ?_⟩; obtain ⟨xσ3, st3, f7⟩ := SlO.made (O := (slM (rdM (slL u64L)) 47)) xσ2 3 e3 (slM_zero _ _) q2.len; obtain ⟨q3, q⟩ := q; refine ⟨q3.1, Int.le_refl _, q3.w1, q3.w2, NewH.mk fun H_4 e4 => ?_⟩; obtain ⟨xσ4, st4, f8⟩ := SlO.made (O := (rdM (slL u64L))) xσ3 4 e4 (slL_zero _) q3.len; replace f7 := f7.step st4; refine LoopI.ofQ q (fun t_ s_ hp_ => ∃ σ_, Stp [3, 5] xσ4 H_4 σ_ hp_ ∧ t_.1 = s_ ∧ t_.2.length = (List.replicate (Int.toNat w.Setup.N) []).length ∧ SlO (slM (rdM (slL u64L)) 47) 27 (Zt σ_) (Yt σ_ 3) hp_ (some (Addr.mk H_2.size 0 none)) (Int.toNat w.Setup.N) t_.2) (fun h k => h _ _ k) ⟨_, Stp.refl _ _ _, rfl, rfl, f7⟩ ?_; rintro t _ _ H_5 next nextQ ⟨xσ5, st5, rfl, hl, f7⟩ q hnext; (try dsimp only at q ⊢); have sl11 := st5; refine condI (fun q => ?_) (fun q => ?_) q
   · obtain ⟨q4, q⟩ := q; refine ⟨q4.1, Int.le_refl _, q4.w1, q4.w2, NewH.mk fun H_6 e5 => ?_⟩; obtain ⟨xσ6, st6, f9⟩ := SlO.made (O := (rdM (slL u64L))) xσ5 5 e5 (slL_zero _) q4.len; obtain ⟨h0, hi2, q⟩ := q; replace f7 := f7.step st6; obtain ⟨a, ha, hi⟩ := f7.addr h0 ((rl_len _ _).trans hl.symm) hi2; refine ⟨a, ha, hi.1, hi.2, ?_⟩; have w2 := SlO.put f7 ha h0 (lt_of_n ((rl_len _ _).trans hl.symm) hi2) (rl_len _ _) f9; refine ⟨w2.1, NewH.mk fun H_7 e6 => ?_⟩; obtain ⟨xσ7, st7, f7⟩ := w2.2 H_7 e6; replace sl11 := sl11.trans (st6.then st7); exact hnext (IntKind.i64.wrap (t.1 + 1), (List.set t.2 (Int.toNat t.1) (List.replicate (Int.toNat w.Setup.N) []))) _ _ ⟨_, sl11, rfl, (set_back ((rl_len _ _).trans hl.symm) (set_len ((rl_len _ _).trans hl.symm)) hl), f7⟩ q
   refine NewH.mk fun H_8 e7 => ?_; obtain ⟨xσ8, st8, f10⟩ := SlO.lit (E := TSent.L) xσ5 6 (xs := []) (l := []) e7 rfl .nil (show (0 : Nat) ≤ 17592186044416 by decide); replace b := b.step (st3.then (st4.then (st5.then st8))); refine ⟨_, _, _, b.cell 7 rfl, ?_⟩; obtain ⟨q5, q⟩ := q; replace f4 := f4.step (st.then (st2.then (st3.then (st4.then (st5.then st8))))); refine SlO.appF f10 f4 rfl rfl q5.l q5.r rfl rfl (fun A c H_9 xσ9 st9 f10_ => ?_); replace f10 := f10_; have f11 := SlO.nilapp f10; clear f10; replace f7 := f7.step (st8.then st9); replace f8 := f8.step (st5.then (st8.then st9)); refine LoopI.ofQ q (fun t_ s_ hp_ => ∃ σ_ A0_ n0_ c0_, Stp [3, 4, 6, 7, 8, 9] xσ9 H_9 σ_ hp_ ∧ ((A0_, n0_, c0_), t_.2.1) = s_ ∧ n0_ = t_.1.length ∧ SlO (rdM TSent.L) 57 (Zt σ_) (Yt σ_ 6) hp_ A0_ c0_ t_.1 ∧ t_.2.2.1.length = t.2.length ∧ SlO (slM (rdM (slL u64L)) 47) 27 (Zt σ_) (Yt σ_ 3) hp_ (some (Addr.mk H_2.size 0 none)) (Int.toNat w.Setup.N) t_.2.2.1 ∧ t_.2.2.2.length = (List.replicate (Int.toNat w.Setup.N) []).length ∧ SlO (rdM (slL u64L)) 47 (Zt σ_) (Yt σ_ 4) hp_ (some (Addr.mk H_3.size 0 none)) (Int.toNat w.Setup.N) t_.2.2.2) (fun h k => h _ _ k) ⟨_, _, _, _, Stp.refl _ _ _, rfl, rfl, f11, rfl, f7, rfl, f8⟩ ?_; rintro t2 _ _ H_10 next2 nextQ2 ⟨xσ10, A2, n, c2, st10, rfl, rfl, f12, hl2, f7, hl3, f8⟩ q hnext2; (try dsimp only at q ⊢); have sl17 := st10; refine condJ (fun q => ?_) (fun q => ?_) q
   · replace b := b.step (st9.then st10); refine ⟨_, b.cell 6 rfl, ?_⟩; refine ⟨b.may 6 (show (6 : Nat) < 8 by decide), NewH.mk fun H_27 e16 => ?_⟩; obtain ⟨st30, b⟩ := b.wrote 6 (show (6 : Nat) < 8 by decide) e16; simp only [List.set_cons_zero, List.set_cons_succ] at b; refine ⟨b.may 7 (show (7 : Nat) < 8 by decide), NewH.mk fun H_28 e17 => ?_⟩; obtain ⟨st31, b⟩ := b.wrote 7 (show (7 : Nat) < 8 by decide) e17; simp only [List.set_cons_zero, List.set_cons_succ] at b; refine ⟨_, _, _, _, _, _, _, _, _, _, _, _, _, _, _, _, b.cell0, b.cell 1 rfl, b.cell 2 rfl, b.cell 3 rfl, b.cell 4 rfl, b.cell 5 rfl, b.cell 6 rfl, b.cell 7 rfl, ?_⟩; replace b2 := b2.step (st3.then (st4.then (st5.then (st8.then (st9.then (st10.then (st30.then st31))))))); refine ⟨b2.mayF rfl, NewH.mk fun H_29 e18 => ?_⟩; obtain ⟨st32, b2⟩ := b2.wf8 rfl e18; refine ⟨_, _, _, _, _, _, _, _, _, _, _, _, _, _, _, _, b2.cell0, b2.cell 1 rfl, b2.cell 2 rfl, b2.cell 3 rfl, b2.cell 4 rfl, b2.cell 5 rfl, b2.cell 6 rfl, b2.cell 7 rfl, ?_⟩; replace f7 := f7.step (st30.then (st31.then st32)); obtain ⟨xσ25, st33, f7⟩ := SlO.freeze f7; replace f8 := f8.step (st30.then (st31.then (st32.then st33))); obtain ⟨xσ26, st34, f8⟩ := SlO.freeze f8; replace f12 := f12.step (st30.then (st31.then (st32.then (st33.then st34)))); obtain ⟨xσ27, st35, f12⟩ := SlO.freeze f12; have c_0 := st.then (st2.then (st3.then (st4.then (st5.then (st8.then (st9.then (st10.then (st30.then (st31.then (st32.then (st33.then (st34.then st35)))))))))))); replace hs := hs.trans c_0; replace f7 := f7.step (st34.then st35); replace f8 := f8.step st35; replace f := f.step c_0; replace f2 := f2.step c_0; replace f3 := f3.step c_0; exact hk (Zt xσ27) _ (hs.ext hσ) (hs.old hσ) _ _ _ _ (((rl_len _ _).trans hl.symm).trans hl2.symm) f7 _ _ _ _ ((rl_len _ _).trans hl3.symm) f8 (⟨w.Setup, w.Corrupted, w.Acts, w.Tapes, IntKind.i64.wrap (w.Round + 1), t2.1⟩ : TWorld) _ rfl _ _ _ rfl f _ _ _ rfl f2 _ _ _ rfl f3 _ _ _ rfl f12 q
   obtain ⟨h02, x, hx, q⟩ := q; replace f6 := f6.step (st.then (st2.then (st3.then (st4.then (st5.then (st8.then (st9.then st10))))))); obtain ⟨a2, ha2, hi3⟩ := f6.addr h02 hx rfl; refine ⟨a2, ha2, hi3.1, hi3.2, ?_⟩; replace b := b.step (st9.then st10); refine ⟨_, _, _, _, _, _, _, _, _, _, _, _, _, _, _, _, b.cell0, b.cell 1 rfl, b.cell 2 rfl, b.cell 3 rfl, b.cell 4 rfl, b.cell 5 rfl, b.cell 6 rfl, b.cell 7 rfl, ?_⟩; obtain ⟨A3, c3, hc, f13⟩ := f6.lds ha2 h02 hx; refine ⟨_, _, _, hc.val, ?_⟩; have c_1 := st.then (st2.then (st3.then (st4.then (st5.then (st8.then (st9.then st10)))))); replace f := f.step c_1; replace f2 := f2.step c_1; replace f3 := f3.step c_1; replace f4 := f4.step (st9.then st10); refine q (Zt xσ10) H_10 _ rfl _ _ _ rfl f _ _ _ rfl f2 _ _ _ rfl f3 _ _ _ rfl f4 _ _ _ rfl f13 _ (fun Z2 H_11 hE hO x2 A4 n2 c4 hn7 f14 q => ?_); obtain ⟨xσ11, st11, fz⟩ := callZ hE hO xσ10 (fun _ h => h); replace f14 := f14.keep fz; cases hn7; refine ⟨_, _, _, rfl, ?_⟩; obtain ⟨h03, hi5, q⟩ := q; replace f8 := f8.step st11; obtain ⟨a3, ha3, hi4⟩ := f8.addr h03 ((rl_len _ _).trans hl3.symm) hi5; refine ⟨a3, ha3, hi4.1, hi4.2, ?_⟩; have w3 := fun v hr => SlO.set1 (v := v) (y := x2) f8 rfl ha3 h03 (lt_of_n ((rl_len _ _).trans hl3.symm) hi5) hr; refine ⟨(w3 _ (slL_rep rfl f14)).1, NewH.mk fun H_12 e8 => ?_⟩; obtain ⟨st12, f8⟩ := (w3 _ (slL_rep rfl f14)).2 H_12 e8; obtain ⟨h04, hi7, q⟩ := q; obtain ⟨a4, ha4, hi6⟩ := f8.addr h04 (set_len ((rl_len _ _).trans hl3.symm)) hi7; refine ⟨a4, ha4, hi6.1, hi6.2, ?_⟩; obtain ⟨x3, hx2, q⟩ := q; obtain ⟨A5, c5, hc2, f15⟩ := f8.lds ha4 h04 hx2; refine ⟨_, _, _, hc2.val, ?_⟩; refine condJ (fun q => ?_) (fun q => ?_) q
   · have c_2 := st11.then st12; replace f12 := f12.step c_2; replace f7 := f7.step c_2; refine LoopI.ofQ q (fun t_ s_ hp_ => ∃ σ_ A0_ n0_ c0_, Stp [3, 6, 9] xσ11 H_12 σ_ hp_ ∧ ((A0_, n0_, c0_), t_.2.1) = s_ ∧ n0_ = t_.1.length ∧ SlO (rdM TSent.L) 57 (Zt σ_) (Yt σ_ 6) hp_ A0_ c0_ t_.1 ∧ t_.2.2.length = t2.2.2.1.length ∧ SlO (slM (rdM (slL u64L)) 47) 27 (Zt σ_) (Yt σ_ 3) hp_ (some (Addr.mk H_2.size 0 none)) (Int.toNat w.Setup.N) t_.2.2) (fun h k => h _ _ k) ⟨_, _, _, _, Stp.refl _ _ _, rfl, rfl, f12, rfl, f7⟩ ?_; rintro t4 _ _ H_21 next4 nextQ4 ⟨xσ20, A21, n5, c21, st23, rfl, rfl, f33, hl5, f7⟩ q hnext4; (try dsimp only at q ⊢); have sl21 := st23; refine condJ (fun q => ?_) (fun q => ?_) q
     · replace sl17 := sl17.trans (st11.then (st12.then st23)); replace f8 := f8.step st23; exact hnext2 (t4.1, IntKind.i64.wrap (t2.2.1 + 1), t4.2.2, (List.set t2.2.2.2 (Int.toNat (IntKind.i64.wrap (t2.2.1 - 1))) x2)) _ _ ⟨_, _, _, _, sl17, rfl, rfl, f33, (set_back (((rl_len _ _).trans hl.symm).trans hl2.symm) ((((rl_len _ _).trans hl.symm).trans hl2.symm).trans hl5.symm) hl2), f7, (set_back ((rl_len _ _).trans hl3.symm) (set_len ((rl_len _ _).trans hl3.symm)) hl3), f8⟩ q
     refine condI (fun q => ?_) (fun q => ?_) q
     · obtain ⟨h018, hi31, q⟩ := q; obtain ⟨a18, ha18, hi30⟩ := f7.addr h018 ((((rl_len _ _).trans hl.symm).trans hl2.symm).trans hl5.symm) hi31; refine ⟨a18, ha18, hi30.1, hi30.2, ?_⟩; obtain ⟨h019, x16, hx14, q⟩ := q; replace f5 := f5.step (st.then (st2.then (st3.then (st4.then (st5.then (st8.then (st9.then (st10.then (st11.then (st12.then st23)))))))))); obtain ⟨a19, ha19, hi32⟩ := f5.addr h019 hx14 rfl; refine ⟨a19, ha19, hi32.1, hi32.2, ?_⟩; obtain ⟨x17, hx15, q⟩ := q; obtain ⟨A22, c22, Y5, hc14, hY5, f34, bk5⟩ := f7.row ha18 h018 hx15; replace b := b.step (st11.then (st12.then st23)); have g5 := SlO.rowF f34 (fun b hb => (hY5 b hb).1); refine ⟨_, _, _, hc14.val, ?_⟩; obtain ⟨A23, c23, hc15, f35⟩ := f5.lds ha19 h019 hx14; refine ⟨_, _, _, hc15.val, ?_⟩; obtain ⟨h020, x18, hx16, q⟩ := q; obtain ⟨a20, ha20, hi33⟩ := f35.addr h020 hx16 rfl; refine ⟨a20, ha20, hi33.1, hi33.2, ?_⟩; obtain ⟨A24, c24, hc16, f36⟩ := f35.lds ha20 h020 hx16; refine ⟨_, _, _, hc16.val, ?_⟩; obtain ⟨h021, hi35, q⟩ := q; obtain ⟨a21, ha21, hi34⟩ := SlF.addr g5 h021 (List.getElem?_eq_getElem (idx_lt rfl h021 hi35)) rfl; refine ⟨a21, ha21, hi34.1, hi34.2, ?_⟩; have w6 := fun v hr => SlO.set2 (v := v) (y := x18) f7 rfl ha18 h018 hx15 hc14 ha21 h021 (lt_of_n rfl hi35) hr; refine ⟨(w6 _ (slL_rep rfl f36)).1, NewH.mk fun H_22 e13 => ?_⟩; obtain ⟨st24, f7, hh3⟩ := (w6 _ (slL_rep rfl f36)).2 H_22 e13; replace hc14 := hh3 _ _ hc14; replace sl21 := sl21.trans st24; replace f33 := f33.step st24; exact hnext4 (t4.1, IntKind.i64.wrap (t4.2.1 + 1), (List.set t4.2.2 (Int.toNat (IntKind.i64.wrap (t4.2.1 - 1))) (List.set x17 (Int.toNat (IntKind.i64.wrap (t2.2.1 - 1))) x18))) _ _ ⟨_, _, _, _, sl21, rfl, rfl, f33, (set_back ((((rl_len _ _).trans hl.symm).trans hl2.symm).trans hl5.symm) (set_len ((((rl_len _ _).trans hl.symm).trans hl2.symm).trans hl5.symm)) hl5), f7⟩ q
     obtain ⟨h022, hi37, q⟩ := q; obtain ⟨a22, ha22, hi36⟩ := f7.addr h022 ((((rl_len _ _).trans hl.symm).trans hl2.symm).trans hl5.symm) hi37; refine ⟨a22, ha22, hi36.1, hi36.2, ?_⟩; obtain ⟨h023, x19, hx17, q⟩ := q; replace f5 := f5.step (st.then (st2.then (st3.then (st4.then (st5.then (st8.then (st9.then (st10.then (st11.then (st12.then st23)))))))))); obtain ⟨a23, ha23, hi38⟩ := f5.addr h023 hx17 rfl; refine ⟨a23, ha23, hi38.1, hi38.2, ?_⟩; obtain ⟨x20, hx18, q⟩ := q; obtain ⟨A25, c25, Y6, hc17, hY6, f37, bk6⟩ := f7.row ha22 h022 hx18; replace b := b.step (st11.then (st12.then st23)); have g6 := SlO.rowF f37 (fun b hb => (hY6 b hb).1); refine ⟨_, _, _, hc17.val, ?_⟩; refine ⟨_, _, _, _, _, _, _, _, _, _, _, _, _, _, _, _, b.cell0, b.cell 1 rfl, b.cell 2 rfl, b.cell 3 rfl, b.cell 4 rfl, b.cell 5 rfl, b.cell 6 rfl, b.cell 7 rfl, ?_⟩; obtain ⟨A26, c26, hc18, f38⟩ := f5.lds ha23 h023 hx17; refine ⟨_, _, _, hc18.val, ?_⟩; obtain ⟨h024, x21, hx19, q⟩ := q; obtain ⟨a24, ha24, hi39⟩ := f38.addr h024 hx19 rfl; refine ⟨a24, ha24, hi39.1, hi39.2, ?_⟩; obtain ⟨A27, c27, hc19, f39⟩ := f38.lds ha24 h024 hx19; refine ⟨_, _, _, hc19.val, ?_⟩; have c_3 := st11.then (st12.then st23); replace f := f.step c_3; replace f2 := f2.step c_3; replace f3 := f3.step c_3; replace f4 := f4.step c_3; refine q (Zt xσ20) H_21 _ rfl _ _ _ rfl f _ _ _ rfl f2 _ _ _ rfl f3 _ _ _ rfl f4 _ _ _ rfl f39 _ (fun Z4 H_23 hE3 hO3 x22 A28 n6 c28 hn9 f40 q => ?_); obtain ⟨xσ21, st25, fz3⟩ := callZ hE3 hO3 xσ20 (fun _ h => h); replace f40 := f40.keep fz3; cases hn9; refine ⟨_, _, _, rfl, ?_⟩; replace hc17 := hc17.step st25; refine ⟨hc17.val, ?_⟩; obtain ⟨h025, hi41, q⟩ := q; obtain ⟨a25, ha25, hi40⟩ := SlF.addr g6 h025 (List.getElem?_eq_getElem (idx_lt rfl h025 hi41)) rfl; refine ⟨a25, ha25, hi40.1, hi40.2, ?_⟩; replace f7 := f7.step st25; have w7 := fun v hr => SlO.set2 (v := v) (y := x22) f7 rfl ha22 h022 hx18 hc17 ha25 h025 (lt_of_n rfl hi41) hr; refine ⟨(w7 _ (slL_rep rfl f40)).1, NewH.mk fun H_24 e14 => ?_⟩; obtain ⟨st26, f7, hh4⟩ := (w7 _ (slL_rep rfl f40)).2 H_24 e14; replace hc17 := hh4 _ _ hc17; obtain ⟨h026, hi43, q⟩ := q; obtain ⟨a26, ha26, hi42⟩ := f7.addr h026 (set_len ((((rl_len _ _).trans hl.symm).trans hl2.symm).trans hl5.symm)) hi43; refine ⟨a26, ha26, hi42.1, hi42.2, ?_⟩; obtain ⟨x23, hx20, q⟩ := q; obtain ⟨A29, c29, Y7, hc20, hY7, f41, bk7⟩ := f7.row ha26 h026 hx20; replace b := b.step (st25.then st26); have g7 := SlO.rowF f41 (fun b hb => (hY7 b hb).1); refine ⟨_, _, _, hc20.val, ?_⟩; obtain ⟨h027, hi45, q⟩ := q; obtain ⟨a27, ha27, hi44⟩ := SlF.addr g7 h027 (List.getElem?_eq_getElem (idx_lt rfl h027 hi45)) rfl; refine ⟨a27, ha27, hi44.1, hi44.2, ?_⟩; obtain ⟨x24, hx21, q⟩ := q; obtain ⟨A30, c30, hc21, f42⟩ := SlO.row_lds f7 ha26 h026 hx20 hc20 ha27 h027 hx21; refine ⟨_, _, _, hc21.val, ?_⟩; refine condJ (fun q => ?_) (fun q => ?_) q
     · have c_4 := st25.then st26; replace sl21 := sl21.trans c_4; replace f33 := f33.step c_4; exact hnext4 (t4.1, IntKind.i64.wrap (t4.2.1 + 1), (List.set t4.2.2 (Int.toNat (IntKind.i64.wrap (t4.2.1 - 1))) (List.set x20 (Int.toNat (IntKind.i64.wrap (t2.2.1 - 1))) x22))) _ _ ⟨_, _, _, _, sl21, rfl, rfl, f33, (set_back ((((rl_len _ _).trans hl.symm).trans hl2.symm).trans hl5.symm) (set_len ((((rl_len _ _).trans hl.symm).trans hl2.symm).trans hl5.symm)) hl5), f7⟩ q
     obtain ⟨h028, hi47, q⟩ := q; obtain ⟨a28, ha28, hi46⟩ := f7.addr h028 (set_len ((((rl_len _ _).trans hl.symm).trans hl2.symm).trans hl5.symm)) hi47; refine ⟨a28, ha28, hi46.1, hi46.2, ?_⟩; refine ⟨_, b.cell 6 rfl, ?_⟩; obtain ⟨x25, hx22, q⟩ := q; obtain ⟨A31, c31, Y8, hc22, hY8, f43, bk8⟩ := f7.row ha28 h028 hx22; have g8 := SlO.rowF f43 (fun b hb => (hY8 b hb).1); refine ⟨_, _, _, hc22.val, ?_⟩; obtain ⟨h029, hi49, q⟩ := q; obtain ⟨a29, ha29, hi48⟩ := SlF.addr g8 h029 (List.getElem?_eq_getElem (idx_lt rfl h029 hi49)) rfl; refine ⟨a29, ha29, hi48.1, hi48.2, ?_⟩; obtain ⟨x26, hx23, q⟩ := q; obtain ⟨A32, c32, hc23, f44⟩ := SlO.row_lds f7 ha28 h028 hx22 hc22 ha29 h029 hx23; refine ⟨_, _, _, hc23.val, ?_⟩; refine NewH.mk fun H_25 e15 => ?_; obtain ⟨xσ22, st27, f45⟩ := SlO.lit (E := TSent.L) xσ21 9 (xs := [(⟨IntKind.i64.wrap (w.Round + 1), t2.2.1, t4.2.1, x26⟩ : TSent)]) (l := [[_, _, _, _]]) e15 rfl (.cons (show (TSent.L).rep _ _ (⟨IntKind.i64.wrap (w.Round + 1), t2.2.1, t4.2.1, x26⟩ : TSent) _ from ⟨_, _, rfl, f44⟩) .nil) (show (1 : Nat) ≤ 17592186044416 by decide); obtain ⟨xσ24, st29, f45⟩ := SlO.freeze f45; obtain ⟨q8, q⟩ := q; replace f33 := f33.step (st25.then (st26.then (st27.then st29))); refine SlO.appF f33 f45 rfl rfl q8.l q8.r rfl rfl (fun A33 c33 H_26 xσ23 st28 f33_ => ?_); replace f33 := f33_; have f46 := f33; clear f33; replace sl21 := sl21.trans (st25.then (st26.then (st27.then (st29.then st28)))); replace f7 := f7.step (st27.then (st29.then st28)); exact hnext4 ((t4.1 ++ ([(⟨IntKind.i64.wrap (w.Round + 1), t2.2.1, t4.2.1, x26⟩ : TSent)] : List TSent)), IntKind.i64.wrap (t4.2.1 + 1), (List.set t4.2.2 (Int.toNat (IntKind.i64.wrap (t4.2.1 - 1))) (List.set x20 (Int.toNat (IntKind.i64.wrap (t2.2.1 - 1))) x22))) _ _ ⟨_, _, _, _, sl21, rfl, rfl, f46, (set_back ((((rl_len _ _).trans hl.symm).trans hl2.symm).trans hl5.symm) (set_len ((((rl_len _ _).trans hl.symm).trans hl2.symm).trans hl5.symm)) hl5), f7⟩ q
   obtain ⟨h05, hi9, q⟩ := q; obtain ⟨a5, ha5, hi8⟩ := f8.addr h05 (set_len ((rl_len _ _).trans hl3.symm)) hi9; refine ⟨a5, ha5, hi8.1, hi8.2, ?_⟩; replace b := b.step (st11.then st12); refine ⟨_, b.cell 6 rfl, ?_⟩; obtain ⟨x4, hx3, q⟩ := q; obtain ⟨A6, c6, hc3, f16⟩ := f8.lds ha5 h05 hx3; refine ⟨_, _, _, hc3.val, ?_⟩; refine NewH.mk fun H_13 e9 => ?_; obtain ⟨xσ12, st13, f17⟩ := SlO.lit (E := TSent.L) xσ11 7 (xs := [(⟨IntKind.i64.wrap (w.Round + 1), t2.2.1, 0, x4⟩ : TSent)]) (l := [[_, _, _, _]]) e9 rfl (.cons (show (TSent.L).rep _ _ (⟨IntKind.i64.wrap (w.Round + 1), t2.2.1, 0, x4⟩ : TSent) _ from ⟨_, _, rfl, f16⟩) .nil) (show (1 : Nat) ≤ 17592186044416 by decide); obtain ⟨xσ14, st15, f17⟩ := SlO.freeze f17; obtain ⟨q6, q⟩ := q; replace f12 := f12.step (st11.then (st12.then (st13.then st15))); refine SlO.appF f12 f17 rfl rfl q6.l q6.r rfl rfl (fun A7 c7 H_14 xσ13 st14 f12_ => ?_); replace f12 := f12_; have f18 := f12; clear f12; replace f7 := f7.step (st11.then (st12.then (st13.then (st15.then st14)))); refine LoopI.ofQ q (fun t_ s_ hp_ => ∃ σ_ A0_ n0_ c0_, Stp [3, 6, 8] xσ13 H_14 σ_ hp_ ∧ ((A0_, n0_, c0_), t_.2.1) = s_ ∧ n0_ = t_.1.length ∧ SlO (rdM TSent.L) 57 (Zt σ_) (Yt σ_ 6) hp_ A0_ c0_ t_.1 ∧ t_.2.2.length = t2.2.2.1.length ∧ SlO (slM (rdM (slL u64L)) 47) 27 (Zt σ_) (Yt σ_ 3) hp_ (some (Addr.mk H_2.size 0 none)) (Int.toNat w.Setup.N) t_.2.2) (fun h k => h _ _ k) ⟨_, _, _, _, Stp.refl _ _ _, rfl, rfl, f18, rfl, f7⟩ ?_; rintro t3 _ _ H_15 next3 nextQ3 ⟨xσ15, A8, n3, c8, st16, rfl, rfl, f19, hl4, f7⟩ q hnext3; (try dsimp only at q ⊢); have sl19 := st16; refine condJ (fun q => ?_) (fun q => ?_) q
   · replace sl17 := sl17.trans (st11.then (st12.then (st13.then (st15.then (st14.then st16))))); replace f8 := f8.step (st13.then (st15.then (st14.then st16))); exact hnext2 (t3.1, IntKind.i64.wrap (t2.2.1 + 1), t3.2.2, (List.set t2.2.2.2 (Int.toNat (IntKind.i64.wrap (t2.2.1 - 1))) x2)) _ _ ⟨_, _, _, _, sl17, rfl, rfl, f19, (set_back (((rl_len _ _).trans hl.symm).trans hl2.symm) ((((rl_len _ _).trans hl.symm).trans hl2.symm).trans hl4.symm) hl2), f7, (set_back ((rl_len _ _).trans hl3.symm) (set_len ((rl_len _ _).trans hl3.symm)) hl3), f8⟩ q
   refine condI (fun q => ?_) (fun q => ?_) q
   · obtain ⟨h06, hi11, q⟩ := q; obtain ⟨a6, ha6, hi10⟩ := f7.addr h06 ((((rl_len _ _).trans hl.symm).trans hl2.symm).trans hl4.symm) hi11; refine ⟨a6, ha6, hi10.1, hi10.2, ?_⟩; obtain ⟨h07, x5, hx4, q⟩ := q; replace f5 := f5.step (st.then (st2.then (st3.then (st4.then (st5.then (st8.then (st9.then (st10.then (st11.then (st12.then (st13.then (st15.then (st14.then st16))))))))))))); obtain ⟨a7, ha7, hi12⟩ := f5.addr h07 hx4 rfl; refine ⟨a7, ha7, hi12.1, hi12.2, ?_⟩; obtain ⟨x6, hx5, q⟩ := q; obtain ⟨A9, c9, Y, hc4, hY, f20, bk⟩ := f7.row ha6 h06 hx5; replace b := b.step (st13.then (st15.then (st14.then st16))); have g := SlO.rowF f20 (fun b hb => (hY b hb).1); refine ⟨_, _, _, hc4.val, ?_⟩; obtain ⟨A10, c10, hc5, f21⟩ := f5.lds ha7 h07 hx4; refine ⟨_, _, _, hc5.val, ?_⟩; obtain ⟨h08, x7, hx6, q⟩ := q; obtain ⟨a8, ha8, hi13⟩ := f21.addr h08 hx6 rfl; refine ⟨a8, ha8, hi13.1, hi13.2, ?_⟩; obtain ⟨A11, c11, hc6, f22⟩ := f21.lds ha8 h08 hx6; refine ⟨_, _, _, hc6.val, ?_⟩; obtain ⟨h09, hi15, q⟩ := q; obtain ⟨a9, ha9, hi14⟩ := SlF.addr g h09 (List.getElem?_eq_getElem (idx_lt rfl h09 hi15)) rfl; refine ⟨a9, ha9, hi14.1, hi14.2, ?_⟩; have w4 := fun v hr => SlO.set2 (v := v) (y := x7) f7 rfl ha6 h06 hx5 hc4 ha9 h09 (lt_of_n rfl hi15) hr; refine ⟨(w4 _ (slL_rep rfl f22)).1, NewH.mk fun H_16 e10 => ?_⟩; obtain ⟨st17, f7, hh⟩ := (w4 _ (slL_rep rfl f22)).2 H_16 e10; replace hc4 := hh _ _ hc4; replace sl19 := sl19.trans st17; replace f19 := f19.step st17; exact hnext3 (t3.1, IntKind.i64.wrap (t3.2.1 + 1), (List.set t3.2.2 (Int.toNat (IntKind.i64.wrap (t3.2.1 - 1))) (List.set x6 (Int.toNat (IntKind.i64.wrap (t2.2.1 - 1))) x7))) _ _ ⟨_, _, _, _, sl19, rfl, rfl, f19, (set_back ((((rl_len _ _).trans hl.symm).trans hl2.symm).trans hl4.symm) (set_len ((((rl_len _ _).trans hl.symm).trans hl2.symm).trans hl4.symm)) hl4), f7⟩ q
   obtain ⟨h010, hi17, q⟩ := q; obtain ⟨a10, ha10, hi16⟩ := f7.addr h010 ((((rl_len _ _).trans hl.symm).trans hl2.symm).trans hl4.symm) hi17; refine ⟨a10, ha10, hi16.1, hi16.2, ?_⟩; obtain ⟨h011, x8, hx7, q⟩ := q; replace f5 := f5.step (st.then (st2.then (st3.then (st4.then (st5.then (st8.then (st9.then (st10.then (st11.then (st12.then (st13.then (st15.then (st14.then st16))))))))))))); obtain ⟨a11, ha11, hi18⟩ := f5.addr h011 hx7 rfl; refine ⟨a11, ha11, hi18.1, hi18.2, ?_⟩; obtain ⟨x9, hx8, q⟩ := q; obtain ⟨A12, c12, Y2, hc7, hY2, f23, bk2⟩ := f7.row ha10 h010 hx8; replace b := b.step (st13.then (st15.then (st14.then st16))); have g2 := SlO.rowF f23 (fun b hb => (hY2 b hb).1); refine ⟨_, _, _, hc7.val, ?_⟩; refine ⟨_, _, _, _, _, _, _, _, _, _, _, _, _, _, _, _, b.cell0, b.cell 1 rfl, b.cell 2 rfl, b.cell 3 rfl, b.cell 4 rfl, b.cell 5 rfl, b.cell 6 rfl, b.cell 7 rfl, ?_⟩; obtain ⟨A13, c13, hc8, f24⟩ := f5.lds ha11 h011 hx7; refine ⟨_, _, _, hc8.val, ?_⟩; obtain ⟨h012, x10, hx9, q⟩ := q; obtain ⟨a12, ha12, hi19⟩ := f24.addr h012 hx9 rfl; refine ⟨a12, ha12, hi19.1, hi19.2, ?_⟩; obtain ⟨A14, c14, hc9, f25⟩ := f24.lds ha12 h012 hx9; refine ⟨_, _, _, hc9.val, ?_⟩; have c_5 := st11.then (st12.then (st13.then (st15.then (st14.then st16)))); replace f := f.step c_5; replace f2 := f2.step c_5; replace f3 := f3.step c_5; replace f4 := f4.step c_5; refine q (Zt xσ15) H_15 _ rfl _ _ _ rfl f _ _ _ rfl f2 _ _ _ rfl f3 _ _ _ rfl f4 _ _ _ rfl f25 _ (fun Z3 H_17 hE2 hO2 x11 A15 n4 c15 hn8 f26 q => ?_); obtain ⟨xσ16, st18, fz2⟩ := callZ hE2 hO2 xσ15 (fun _ h => h); replace f26 := f26.keep fz2; cases hn8; refine ⟨_, _, _, rfl, ?_⟩; replace hc7 := hc7.step st18; refine ⟨hc7.val, ?_⟩; obtain ⟨h013, hi21, q⟩ := q; obtain ⟨a13, ha13, hi20⟩ := SlF.addr g2 h013 (List.getElem?_eq_getElem (idx_lt rfl h013 hi21)) rfl; refine ⟨a13, ha13, hi20.1, hi20.2, ?_⟩; replace f7 := f7.step st18; have w5 := fun v hr => SlO.set2 (v := v) (y := x11) f7 rfl ha10 h010 hx8 hc7 ha13 h013 (lt_of_n rfl hi21) hr; refine ⟨(w5 _ (slL_rep rfl f26)).1, NewH.mk fun H_18 e11 => ?_⟩; obtain ⟨st19, f7, hh2⟩ := (w5 _ (slL_rep rfl f26)).2 H_18 e11; replace hc7 := hh2 _ _ hc7; obtain ⟨h014, hi23, q⟩ := q; obtain ⟨a14, ha14, hi22⟩ := f7.addr h014 (set_len ((((rl_len _ _).trans hl.symm).trans hl2.symm).trans hl4.symm)) hi23; refine ⟨a14, ha14, hi22.1, hi22.2, ?_⟩; obtain ⟨x12, hx10, q⟩ := q; obtain ⟨A16, c16, Y3, hc10, hY3, f27, bk3⟩ := f7.row ha14 h014 hx10; replace b := b.step (st18.then st19); have g3 := SlO.rowF f27 (fun b hb => (hY3 b hb).1); refine ⟨_, _, _, hc10.val, ?_⟩; obtain ⟨h015, hi25, q⟩ := q; obtain ⟨a15, ha15, hi24⟩ := SlF.addr g3 h015 (List.getElem?_eq_getElem (idx_lt rfl h015 hi25)) rfl; refine ⟨a15, ha15, hi24.1, hi24.2, ?_⟩; obtain ⟨x13, hx11, q⟩ := q; obtain ⟨A17, c17, hc11, f28⟩ := SlO.row_lds f7 ha14 h014 hx10 hc10 ha15 h015 hx11; refine ⟨_, _, _, hc11.val, ?_⟩; refine condJ (fun q => ?_) (fun q => ?_) q
   · have c_6 := st18.then st19; replace sl19 := sl19.trans c_6; replace f19 := f19.step c_6; exact hnext3 (t3.1, IntKind.i64.wrap (t3.2.1 + 1), (List.set t3.2.2 (Int.toNat (IntKind.i64.wrap (t3.2.1 - 1))) (List.set x9 (Int.toNat (IntKind.i64.wrap (t2.2.1 - 1))) x11))) _ _ ⟨_, _, _, _, sl19, rfl, rfl, f19, (set_back ((((rl_len _ _).trans hl.symm).trans hl2.symm).trans hl4.symm) (set_len ((((rl_len _ _).trans hl.symm).trans hl2.symm).trans hl4.symm)) hl4), f7⟩ q
   obtain ⟨h016, hi27, q⟩ := q; obtain ⟨a16, ha16, hi26⟩ := f7.addr h016 (set_len ((((rl_len _ _).trans hl.symm).trans hl2.symm).trans hl4.symm)) hi27; refine ⟨a16, ha16, hi26.1, hi26.2, ?_⟩; refine ⟨_, b.cell 6 rfl, ?_⟩; obtain ⟨x14, hx12, q⟩ := q; obtain ⟨A18, c18, Y4, hc12, hY4, f29, bk4⟩ := f7.row ha16 h016 hx12; have g4 := SlO.rowF f29 (fun b hb => (hY4 b hb).1); refine ⟨_, _, _, hc12.val, ?_⟩; obtain ⟨h017, hi29, q⟩ := q; obtain ⟨a17, ha17, hi28⟩ := SlF.addr g4 h017 (List.getElem?_eq_getElem (idx_lt rfl h017 hi29)) rfl; refine ⟨a17, ha17, hi28.1, hi28.2, ?_⟩; obtain ⟨x15, hx13, q⟩ := q; obtain ⟨A19, c19, hc13, f30⟩ := SlO.row_lds f7 ha16 h016 hx12 hc12 ha17 h017 hx13; refine ⟨_, _, _, hc13.val, ?_⟩; refine NewH.mk fun H_19 e12 => ?_; obtain ⟨xσ17, st20, f31⟩ := SlO.lit (E := TSent.L) xσ16 8 (xs := [(⟨IntKind.i64.wrap (w.Round + 1), t2.2.1, t3.2.1, x15⟩ : TSent)]) (l := [[_, _, _, _]]) e12 rfl (.cons (show (TSent.L).rep _ _ (⟨IntKind.i64.wrap (w.Round + 1), t2.2.1, t3.2.1, x15⟩ : TSent) _ from ⟨_, _, rfl, f30⟩) .nil) (show (1 : Nat) ≤ 17592186044416 by decide); obtain ⟨xσ19, st22, f31⟩ := SlO.freeze f31; obtain ⟨q7, q⟩ := q; replace f19 := f19.step (st18.then (st19.then (st20.then st22))); refine SlO.appF f19 f31 rfl rfl q7.l q7.r rfl rfl (fun A20 c20 H_20 xσ18 st21 f19_ => ?_); replace f19 := f19_; have f32 := f19; clear f19; replace sl19 := sl19.trans (st18.then (st19.then (st20.then (st22.then st21)))); replace f7 := f7.step (st20.then (st22.then st21)); exact hnext3 ((t3.1 ++ ([(⟨IntKind.i64.wrap (w.Round + 1), t2.2.1, t3.2.1, x15⟩ : TSent)] : List TSent)), IntKind.i64.wrap (t3.2.1 + 1), (List.set t3.2.2 (Int.toNat (IntKind.i64.wrap (t3.2.1 - 1))) (List.set x9 (Int.toNat (IntKind.i64.wrap (t2.2.1 - 1))) x11))) _ _ ⟨_, _, _, _, sl19, rfl, rfl, f32, (set_back ((((rl_len _ _).trans hl.symm).trans hl2.symm).trans hl4.symm) (set_len ((((rl_len _ _).trans hl.symm).trans hl2.symm).trans hl4.symm)) hl4), f7⟩ q
 replace q := qq; clear qq; obtain ⟨q2, q⟩ := q; refine ⟨q2.1, Int.le_refl _, q2.w1, q2.w2, NewH.mk fun H_3 e3 => ?_⟩; obtain ⟨xσ3, st3, f7⟩ := SlO.made (O := (rdM (slL u64L))) xσ2 10 e3 (slL_zero _) q2.len; obtain ⟨q3, q⟩ := q; refine ⟨q3.1, Int.le_refl _, q3.w1, q3.w2, NewH.mk fun H_4 e4 => ?_⟩; obtain ⟨xσ4, st4, f8⟩ := SlO.made (O := (slM (rdM (slL u64L)) 47)) xσ3 11 e4 (slM_zero _ _) q3.len; refine LoopI.ofQ q (fun t_ s_ hp_ => ∃ σ_, Stp [11, 12] xσ4 H_4 σ_ hp_ ∧ t_.1 = s_ ∧ t_.2.length = (List.replicate (Int.toNat w.Setup.N) []).length ∧ SlO (slM (rdM (slL u64L)) 47) 27 (Zt σ_) (Yt σ_ 11) hp_ (some (Addr.mk H_3.size 0 none)) (Int.toNat w.Setup.N) t_.2) (fun h k => h _ _ k) ⟨_, Stp.refl _ _ _, rfl, rfl, f8⟩ ?_; rintro t _ _ H_5 next nextQ ⟨xσ5, st5, rfl, hl, f8⟩ q hnext; (try dsimp only at q ⊢); have sl33 := st5; refine condI (fun q => ?_) (fun q => ?_) q
 · obtain ⟨q4, q⟩ := q; refine ⟨q4.1, Int.le_refl _, q4.w1, q4.w2, NewH.mk fun H_6 e5 => ?_⟩; obtain ⟨xσ6, st6, f9⟩ := SlO.made (O := (rdM (slL u64L))) xσ5 12 e5 (slL_zero _) q4.len; obtain ⟨h0, hi2, q⟩ := q; replace f8 := f8.step st6; obtain ⟨a, ha, hi⟩ := f8.addr h0 ((rl_len _ _).trans hl.symm) hi2; refine ⟨a, ha, hi.1, hi.2, ?_⟩; have w2 := SlO.put f8 ha h0 (lt_of_n ((rl_len _ _).trans hl.symm) hi2) (rl_len _ _) f9; refine ⟨w2.1, NewH.mk fun H_7 e6 => ?_⟩; obtain ⟨xσ7, st7, f8⟩ := w2.2 H_7 e6; replace sl33 := sl33.trans (st6.then st7); exact hnext (IntKind.i64.wrap (t.1 + 1), (List.set t.2 (Int.toNat t.1) (List.replicate (Int.toNat w.Setup.N) []))) _ _ ⟨_, sl33, rfl, (set_back ((rl_len _ _).trans hl.symm) (set_len ((rl_len _ _).trans hl.symm)) hl), f8⟩ q
 refine NewH.mk fun H_8 e7 => ?_; obtain ⟨xσ8, st8, f10⟩ := SlO.lit (E := TSent.L) xσ5 13 (xs := []) (l := []) e7 rfl .nil (show (0 : Nat) ≤ 17592186044416 by decide); replace b := b.step (st3.then (st4.then (st5.then st8))); refine ⟨_, _, _, b.cell 7 rfl, ?_⟩; obtain ⟨q5, q⟩ := q; replace f4 := f4.step (st.then (st2.then (st3.then (st4.then (st5.then st8))))); refine SlO.appF f10 f4 rfl rfl q5.l q5.r rfl rfl (fun A c H_9 xσ9 st9 f10_ => ?_); replace f10 := f10_; have f11 := SlO.nilapp f10; clear f10; replace f7 := f7.step (st4.then (st5.then (st8.then st9))); replace f8 := f8.step (st8.then st9); refine LoopI.ofQ q (fun t_ s_ hp_ => ∃ σ_ A0_ n0_ c0_, Stp [10, 11, 13, 14, 15, 16] xσ9 H_9 σ_ hp_ ∧ ((A0_, n0_, c0_), t_.2.1) = s_ ∧ n0_ = t_.1.length ∧ SlO (rdM TSent.L) 57 (Zt σ_) (Yt σ_ 13) hp_ A0_ c0_ t_.1 ∧ t_.2.2.1.length = (List.replicate (Int.toNat w.Setup.N) []).length ∧ SlO (rdM (slL u64L)) 47 (Zt σ_) (Yt σ_ 10) hp_ (some (Addr.mk H_2.size 0 none)) (Int.toNat w.Setup.N) t_.2.2.1 ∧ t_.2.2.2.length = t.2.length ∧ SlO (slM (rdM (slL u64L)) 47) 27 (Zt σ_) (Yt σ_ 11) hp_ (some (Addr.mk H_3.size 0 none)) (Int.toNat w.Setup.N) t_.2.2.2) (fun h k => h _ _ k) ⟨_, _, _, _, Stp.refl _ _ _, rfl, rfl, f11, rfl, f7, rfl, f8⟩ ?_; rintro t2 _ _ H_10 next2 nextQ2 ⟨xσ10, A2, n, c2, st10, rfl, rfl, f12, hl2, f7, hl3, f8⟩ q hnext2; (try dsimp only at q ⊢); have sl39 := st10; refine condJ (fun q => ?_) (fun q => ?_) q
 · replace b := b.step (st9.then st10); refine ⟨_, b.cell 6 rfl, ?_⟩; refine ⟨b.may 6 (show (6 : Nat) < 8 by decide), NewH.mk fun H_27 e16 => ?_⟩; obtain ⟨st30, b⟩ := b.wrote 6 (show (6 : Nat) < 8 by decide) e16; simp only [List.set_cons_zero, List.set_cons_succ] at b; refine ⟨b.may 7 (show (7 : Nat) < 8 by decide), NewH.mk fun H_28 e17 => ?_⟩; obtain ⟨st31, b⟩ := b.wrote 7 (show (7 : Nat) < 8 by decide) e17; simp only [List.set_cons_zero, List.set_cons_succ] at b; refine ⟨_, _, _, _, _, _, _, _, _, _, _, _, _, _, _, _, b.cell0, b.cell 1 rfl, b.cell 2 rfl, b.cell 3 rfl, b.cell 4 rfl, b.cell 5 rfl, b.cell 6 rfl, b.cell 7 rfl, ?_⟩; replace b2 := b2.step (st3.then (st4.then (st5.then (st8.then (st9.then (st10.then (st30.then st31))))))); refine ⟨b2.mayF rfl, NewH.mk fun H_29 e18 => ?_⟩; obtain ⟨st32, b2⟩ := b2.wf8 rfl e18; refine ⟨_, _, _, _, _, _, _, _, _, _, _, _, _, _, _, _, b2.cell0, b2.cell 1 rfl, b2.cell 2 rfl, b2.cell 3 rfl, b2.cell 4 rfl, b2.cell 5 rfl, b2.cell 6 rfl, b2.cell 7 rfl, ?_⟩; replace f8 := f8.step (st30.then (st31.then st32)); obtain ⟨xσ25, st33, f8⟩ := SlO.freeze f8; replace f7 := f7.step (st30.then (st31.then (st32.then st33))); obtain ⟨xσ26, st34, f7⟩ := SlO.freeze f7; replace f12 := f12.step (st30.then (st31.then (st32.then (st33.then st34)))); obtain ⟨xσ27, st35, f12⟩ := SlO.freeze f12; have c_7 := st.then (st2.then (st3.then (st4.then (st5.then (st8.then (st9.then (st10.then (st30.then (st31.then (st32.then (st33.then (st34.then st35)))))))))))); replace hs := hs.trans c_7; replace f8 := f8.step (st34.then st35); replace f7 := f7.step st35; replace f := f.step c_7; replace f2 := f2.step c_7; replace f3 := f3.step c_7; exact hk (Zt xσ27) _ (hs.ext hσ) (hs.old hσ) _ _ _ _ (((rl_len _ _).trans hl.symm).trans hl3.symm) f8 _ _ _ _ ((rl_len _ _).trans hl2.symm) f7 (⟨w.Setup, w.Corrupted, w.Acts, w.Tapes, IntKind.i64.wrap (w.Round + 1), t2.1⟩ : TWorld) _ rfl _ _ _ rfl f _ _ _ rfl f2 _ _ _ rfl f3 _ _ _ rfl f12 q
 obtain ⟨h02, x, hx, q⟩ := q; replace f6 := f6.step (st.then (st2.then (st3.then (st4.then (st5.then (st8.then (st9.then st10))))))); obtain ⟨a2, ha2, hi3⟩ := f6.addr h02 hx rfl; refine ⟨a2, ha2, hi3.1, hi3.2, ?_⟩; replace b := b.step (st9.then st10); refine ⟨_, _, _, _, _, _, _, _, _, _, _, _, _, _, _, _, b.cell0, b.cell 1 rfl, b.cell 2 rfl, b.cell 3 rfl, b.cell 4 rfl, b.cell 5 rfl, b.cell 6 rfl, b.cell 7 rfl, ?_⟩; obtain ⟨A3, c3, hc, f13⟩ := f6.lds ha2 h02 hx; refine ⟨_, _, _, hc.val, ?_⟩; have c_8 := st.then (st2.then (st3.then (st4.then (st5.then (st8.then (st9.then st10)))))); replace f := f.step c_8; replace f2 := f2.step c_8; replace f3 := f3.step c_8; replace f4 := f4.step (st9.then st10); refine q (Zt xσ10) H_10 _ rfl _ _ _ rfl f _ _ _ rfl f2 _ _ _ rfl f3 _ _ _ rfl f4 _ _ _ rfl f13 _ (fun Z2 H_11 hE hO x2 A4 n2 c4 hn7 f14 q => ?_); obtain ⟨xσ11, st11, fz⟩ := callZ hE hO xσ10 (fun _ h => h); replace f14 := f14.keep fz; cases hn7; refine ⟨_, _, _, rfl, ?_⟩; obtain ⟨h03, hi5, q⟩ := q; replace f7 := f7.step st11; obtain ⟨a3, ha3, hi4⟩ := f7.addr h03 ((rl_len _ _).trans hl2.symm) hi5; refine ⟨a3, ha3, hi4.1, hi4.2, ?_⟩; have w3 := fun v hr => SlO.set1 (v := v) (y := x2) f7 rfl ha3 h03 (lt_of_n ((rl_len _ _).trans hl2.symm) hi5) hr; refine ⟨(w3 _ (slL_rep rfl f14)).1, NewH.mk fun H_12 e8 => ?_⟩; obtain ⟨st12, f7⟩ := (w3 _ (slL_rep rfl f14)).2 H_12 e8; obtain ⟨h04, hi7, q⟩ := q; obtain ⟨a4, ha4, hi6⟩ := f7.addr h04 (set_len ((rl_len _ _).trans hl2.symm)) hi7; refine ⟨a4, ha4, hi6.1, hi6.2, ?_⟩; obtain ⟨x3, hx2, q⟩ := q; obtain ⟨A5, c5, hc2, f15⟩ := f7.lds ha4 h04 hx2; refine ⟨_, _, _, hc2.val, ?_⟩; refine condJ (fun q => ?_) (fun q => ?_) q
 · have c_9 := st11.then st12; replace f12 := f12.step c_9; replace f8 := f8.step c_9; refine LoopI.ofQ q (fun t_ s_ hp_ => ∃ σ_ A0_ n0_ c0_, Stp [11, 13, 16] xσ11 H_12 σ_ hp_ ∧ ((A0_, n0_, c0_), t_.2.1) = s_ ∧ n0_ = t_.1.length ∧ SlO (rdM TSent.L) 57 (Zt σ_) (Yt σ_ 13) hp_ A0_ c0_ t_.1 ∧ t_.2.2.length = t2.2.2.2.length ∧ SlO (slM (rdM (slL u64L)) 47) 27 (Zt σ_) (Yt σ_ 11) hp_ (some (Addr.mk H_3.size 0 none)) (Int.toNat w.Setup.N) t_.2.2) (fun h k => h _ _ k) ⟨_, _, _, _, Stp.refl _ _ _, rfl, rfl, f12, rfl, f8⟩ ?_; rintro t4 _ _ H_21 next4 nextQ4 ⟨xσ20, A21, n5, c21, st23, rfl, rfl, f33, hl5, f8⟩ q hnext4; (try dsimp only at q ⊢); have sl43 := st23; refine condJ (fun q => ?_) (fun q => ?_) q
   · replace sl39 := sl39.trans (st11.then (st12.then st23)); replace f7 := f7.step st23; exact hnext2 (t4.1, IntKind.i64.wrap (t2.2.1 + 1), (List.set t2.2.2.1 (Int.toNat (IntKind.i64.wrap (t2.2.1 - 1))) x2), t4.2.2) _ _ ⟨_, _, _, _, sl39, rfl, rfl, f33, (set_back ((rl_len _ _).trans hl2.symm) (set_len ((rl_len _ _).trans hl2.symm)) hl2), f7, (set_back (((rl_len _ _).trans hl.symm).trans hl3.symm) ((((rl_len _ _).trans hl.symm).trans hl3.symm).trans hl5.symm) hl3), f8⟩ q
   refine condI (fun q => ?_) (fun q => ?_) q
   · obtain ⟨h018, hi31, q⟩ := q; obtain ⟨a18, ha18, hi30⟩ := f8.addr h018 ((((rl_len _ _).trans hl.symm).trans hl3.symm).trans hl5.symm) hi31; refine ⟨a18, ha18, hi30.1, hi30.2, ?_⟩; obtain ⟨h019, x16, hx14, q⟩ := q; replace f5 := f5.step (st.then (st2.then (st3.then (st4.then (st5.then (st8.then (st9.then (st10.then (st11.then (st12.then st23)))))))))); obtain ⟨a19, ha19, hi32⟩ := f5.addr h019 hx14 rfl; refine ⟨a19, ha19, hi32.1, hi32.2, ?_⟩; obtain ⟨x17, hx15, q⟩ := q; obtain ⟨A22, c22, Y5, hc14, hY5, f34, bk5⟩ := f8.row ha18 h018 hx15; replace b := b.step (st11.then (st12.then st23)); have g5 := SlO.rowF f34 (fun b hb => (hY5 b hb).1); refine ⟨_, _, _, hc14.val, ?_⟩; obtain ⟨A23, c23, hc15, f35⟩ := f5.lds ha19 h019 hx14; refine ⟨_, _, _, hc15.val, ?_⟩; obtain ⟨h020, x18, hx16, q⟩ := q; obtain ⟨a20, ha20, hi33⟩ := f35.addr h020 hx16 rfl; refine ⟨a20, ha20, hi33.1, hi33.2, ?_⟩; obtain ⟨A24, c24, hc16, f36⟩ := f35.lds ha20 h020 hx16; refine ⟨_, _, _, hc16.val, ?_⟩; obtain ⟨h021, hi35, q⟩ := q; obtain ⟨a21, ha21, hi34⟩ := SlF.addr g5 h021 (List.getElem?_eq_getElem (idx_lt rfl h021 hi35)) rfl; refine ⟨a21, ha21, hi34.1, hi34.2, ?_⟩; have w6 := fun v hr => SlO.set2 (v := v) (y := x18) f8 rfl ha18 h018 hx15 hc14 ha21 h021 (lt_of_n rfl hi35) hr; refine ⟨(w6 _ (slL_rep rfl f36)).1, NewH.mk fun H_22 e13 => ?_⟩; obtain ⟨st24, f8, hh3⟩ := (w6 _ (slL_rep rfl f36)).2 H_22 e13; replace hc14 := hh3 _ _ hc14; replace sl43 := sl43.trans st24; replace f33 := f33.step st24; exact hnext4 (t4.1, IntKind.i64.wrap (t4.2.1 + 1), (List.set t4.2.2 (Int.toNat (IntKind.i64.wrap (t4.2.1 - 1))) (List.set x17 (Int.toNat (IntKind.i64.wrap (t2.2.1 - 1))) x18))) _ _ ⟨_, _, _, _, sl43, rfl, rfl, f33, (set_back ((((rl_len _ _).trans hl.symm).trans hl3.symm).trans hl5.symm) (set_len ((((rl_len _ _).trans hl.symm).trans hl3.symm).trans hl5.symm)) hl5), f8⟩ q
   obtain ⟨h022, hi37, q⟩ := q; obtain ⟨a22, ha22, hi36⟩ := f8.addr h022 ((((rl_len _ _).trans hl.symm).trans hl3.symm).trans hl5.symm) hi37; refine ⟨a22, ha22, hi36.1, hi36.2, ?_⟩; obtain ⟨h023, x19, hx17, q⟩ := q; replace f5 := f5.step (st.then (st2.then (st3.then (st4.then (st5.then (st8.then (st9.then (st10.then (st11.then (st12.then st23)))))))))); obtain ⟨a23, ha23, hi38⟩ := f5.addr h023 hx17 rfl; refine ⟨a23, ha23, hi38.1, hi38.2, ?_⟩; obtain ⟨x20, hx18, q⟩ := q; obtain ⟨A25, c25, Y6, hc17, hY6, f37, bk6⟩ := f8.row ha22 h022 hx18; replace b := b.step (st11.then (st12.then st23)); have g6 := SlO.rowF f37 (fun b hb => (hY6 b hb).1); refine ⟨_, _, _, hc17.val, ?_⟩; refine ⟨_, _, _, _, _, _, _, _, _, _, _, _, _, _, _, _, b.cell0, b.cell 1 rfl, b.cell 2 rfl, b.cell 3 rfl, b.cell 4 rfl, b.cell 5 rfl, b.cell 6 rfl, b.cell 7 rfl, ?_⟩; obtain ⟨A26, c26, hc18, f38⟩ := f5.lds ha23 h023 hx17; refine ⟨_, _, _, hc18.val, ?_⟩; obtain ⟨h024, x21, hx19, q⟩ := q; obtain ⟨a24, ha24, hi39⟩ := f38.addr h024 hx19 rfl; refine ⟨a24, ha24, hi39.1, hi39.2, ?_⟩; obtain ⟨A27, c27, hc19, f39⟩ := f38.lds ha24 h024 hx19; refine ⟨_, _, _, hc19.val, ?_⟩; have c_10 := st11.then (st12.then st23); replace f := f.step c_10; replace f2 := f2.step c_10; replace f3 := f3.step c_10; replace f4 := f4.step c_10; refine q (Zt xσ20) H_21 _ rfl _ _ _ rfl f _ _ _ rfl f2 _ _ _ rfl f3 _ _ _ rfl f4 _ _ _ rfl f39 _ (fun Z4 H_23 hE3 hO3 x22 A28 n6 c28 hn9 f40 q => ?_); obtain ⟨xσ21, st25, fz3⟩ := callZ hE3 hO3 xσ20 (fun _ h => h); replace f40 := f40.keep fz3; cases hn9; refine ⟨_, _, _, rfl, ?_⟩; replace hc17 := hc17.step st25; refine ⟨hc17.val, ?_⟩; obtain ⟨h025, hi41, q⟩ := q; obtain ⟨a25, ha25, hi40⟩ := SlF.addr g6 h025 (List.getElem?_eq_getElem (idx_lt rfl h025 hi41)) rfl; refine ⟨a25, ha25, hi40.1, hi40.2, ?_⟩; replace f8 := f8.step st25; have w7 := fun v hr => SlO.set2 (v := v) (y := x22) f8 rfl ha22 h022 hx18 hc17 ha25 h025 (lt_of_n rfl hi41) hr; refine ⟨(w7 _ (slL_rep rfl f40)).1, NewH.mk fun H_24 e14 => ?_⟩; obtain ⟨st26, f8, hh4⟩ := (w7 _ (slL_rep rfl f40)).2 H_24 e14; replace hc17 := hh4 _ _ hc17; obtain ⟨h026, hi43, q⟩ := q; obtain ⟨a26, ha26, hi42⟩ := f8.addr h026 (set_len ((((rl_len _ _).trans hl.symm).trans hl3.symm).trans hl5.symm)) hi43; refine ⟨a26, ha26, hi42.1, hi42.2, ?_⟩; obtain ⟨x23, hx20, q⟩ := q; obtain ⟨A29, c29, Y7, hc20, hY7, f41, bk7⟩ := f8.row ha26 h026 hx20; replace b := b.step (st25.then st26); have g7 := SlO.rowF f41 (fun b hb => (hY7 b hb).1); refine ⟨_, _, _, hc20.val, ?_⟩; obtain ⟨h027, hi45, q⟩ := q; obtain ⟨a27, ha27, hi44⟩ := SlF.addr g7 h027 (List.getElem?_eq_getElem (idx_lt rfl h027 hi45)) rfl; refine ⟨a27, ha27, hi44.1, hi44.2, ?_⟩; obtain ⟨x24, hx21, q⟩ := q; obtain ⟨A30, c30, hc21, f42⟩ := SlO.row_lds f8 ha26 h026 hx20 hc20 ha27 h027 hx21; refine ⟨_, _, _, hc21.val, ?_⟩; refine condJ (fun q => ?_) (fun q => ?_) q
   · have c_11 := st25.then st26; replace sl43 := sl43.trans c_11; replace f33 := f33.step c_11; exact hnext4 (t4.1, IntKind.i64.wrap (t4.2.1 + 1), (List.set t4.2.2 (Int.toNat (IntKind.i64.wrap (t4.2.1 - 1))) (List.set x20 (Int.toNat (IntKind.i64.wrap (t2.2.1 - 1))) x22))) _ _ ⟨_, _, _, _, sl43, rfl, rfl, f33, (set_back ((((rl_len _ _).trans hl.symm).trans hl3.symm).trans hl5.symm) (set_len ((((rl_len _ _).trans hl.symm).trans hl3.symm).trans hl5.symm)) hl5), f8⟩ q
   obtain ⟨h028, hi47, q⟩ := q; obtain ⟨a28, ha28, hi46⟩ := f8.addr h028 (set_len ((((rl_len _ _).trans hl.symm).trans hl3.symm).trans hl5.symm)) hi47; refine ⟨a28, ha28, hi46.1, hi46.2, ?_⟩; refine ⟨_, b.cell 6 rfl, ?_⟩; obtain ⟨x25, hx22, q⟩ := q; obtain ⟨A31, c31, Y8, hc22, hY8, f43, bk8⟩ := f8.row ha28 h028 hx22; have g8 := SlO.rowF f43 (fun b hb => (hY8 b hb).1); refine ⟨_, _, _, hc22.val, ?_⟩; obtain ⟨h029, hi49, q⟩ := q; obtain ⟨a29, ha29, hi48⟩ := SlF.addr g8 h029 (List.getElem?_eq_getElem (idx_lt rfl h029 hi49)) rfl; refine ⟨a29, ha29, hi48.1, hi48.2, ?_⟩; obtain ⟨x26, hx23, q⟩ := q; obtain ⟨A32, c32, hc23, f44⟩ := SlO.row_lds f8 ha28 h028 hx22 hc22 ha29 h029 hx23; refine ⟨_, _, _, hc23.val, ?_⟩; refine NewH.mk fun H_25 e15 => ?_; obtain ⟨xσ22, st27, f45⟩ := SlO.lit (E := TSent.L) xσ21 16 (xs := [(⟨IntKind.i64.wrap (w.Round + 1), t2.2.1, t4.2.1, x26⟩ : TSent)]) (l := [[_, _, _, _]]) e15 rfl (.cons (show (TSent.L).rep _ _ (⟨IntKind.i64.wrap (w.Round + 1), t2.2.1, t4.2.1, x26⟩ : TSent) _ from ⟨_, _, rfl, f44⟩) .nil) (show (1 : Nat) ≤ 17592186044416 by decide); obtain ⟨xσ24, st29, f45⟩ := SlO.freeze f45; obtain ⟨q8, q⟩ := q; replace f33 := f33.step (st25.then (st26.then (st27.then st29))); refine SlO.appF f33 f45 rfl rfl q8.l q8.r rfl rfl (fun A33 c33 H_26 xσ23 st28 f33_ => ?_); replace f33 := f33_; have f46 := f33; clear f33; replace sl43 := sl43.trans (st25.then (st26.then (st27.then (st29.then st28)))); replace f8 := f8.step (st27.then (st29.then st28)); exact hnext4 ((t4.1 ++ ([(⟨IntKind.i64.wrap (w.Round + 1), t2.2.1, t4.2.1, x26⟩ : TSent)] : List TSent)), IntKind.i64.wrap (t4.2.1 + 1), (List.set t4.2.2 (Int.toNat (IntKind.i64.wrap (t4.2.1 - 1))) (List.set x20 (Int.toNat (IntKind.i64.wrap (t2.2.1 - 1))) x22))) _ _ ⟨_, _, _, _, sl43, rfl, rfl, f46, (set_back ((((rl_len _ _).trans hl.symm).trans hl3.symm).trans hl5.symm) (set_len ((((rl_len _ _).trans hl.symm).trans hl3.symm).trans hl5.symm)) hl5), f8⟩ q
 obtain ⟨h05, hi9, q⟩ := q; obtain ⟨a5, ha5, hi8⟩ := f7.addr h05 (set_len ((rl_len _ _).trans hl2.symm)) hi9; refine ⟨a5, ha5, hi8.1, hi8.2, ?_⟩; replace b := b.step (st11.then st12); refine ⟨_, b.cell 6 rfl, ?_⟩; obtain ⟨x4, hx3, q⟩ := q; obtain ⟨A6, c6, hc3, f16⟩ := f7.lds ha5 h05 hx3; refine ⟨_, _, _, hc3.val, ?_⟩; refine NewH.mk fun H_13 e9 => ?_; obtain ⟨xσ12, st13, f17⟩ := SlO.lit (E := TSent.L) xσ11 14 (xs := [(⟨IntKind.i64.wrap (w.Round + 1), t2.2.1, 0, x4⟩ : TSent)]) (l := [[_, _, _, _]]) e9 rfl (.cons (show (TSent.L).rep _ _ (⟨IntKind.i64.wrap (w.Round + 1), t2.2.1, 0, x4⟩ : TSent) _ from ⟨_, _, rfl, f16⟩) .nil) (show (1 : Nat) ≤ 17592186044416 by decide); obtain ⟨xσ14, st15, f17⟩ := SlO.freeze f17; obtain ⟨q6, q⟩ := q; replace f12 := f12.step (st11.then (st12.then (st13.then st15))); refine SlO.appF f12 f17 rfl rfl q6.l q6.r rfl rfl (fun A7 c7 H_14 xσ13 st14 f12_ => ?_); replace f12 := f12_; have f18 := f12; clear f12; replace f8 := f8.step (st11.then (st12.then (st13.then (st15.then st14)))); refine LoopI.ofQ q (fun t_ s_ hp_ => ∃ σ_ A0_ n0_ c0_, Stp [11, 13, 15] xσ13 H_14 σ_ hp_ ∧ ((A0_, n0_, c0_), t_.2.1) = s_ ∧ n0_ = t_.1.length ∧ SlO (rdM TSent.L) 57 (Zt σ_) (Yt σ_ 13) hp_ A0_ c0_ t_.1 ∧ t_.2.2.length = t2.2.2.2.length ∧ SlO (slM (rdM (slL u64L)) 47) 27 (Zt σ_) (Yt σ_ 11) hp_ (some (Addr.mk H_3.size 0 none)) (Int.toNat w.Setup.N) t_.2.2) (fun h k => h _ _ k) ⟨_, _, _, _, Stp.refl _ _ _, rfl, rfl, f18, rfl, f8⟩ ?_; rintro t3 _ _ H_15 next3 nextQ3 ⟨xσ15, A8, n3, c8, st16, rfl, rfl, f19, hl4, f8⟩ q hnext3; (try dsimp only at q ⊢); have sl41 := st16; refine condJ (fun q => ?_) (fun q => ?_) q
 · replace sl39 := sl39.trans (st11.then (st12.then (st13.then (st15.then (st14.then st16))))); replace f7 := f7.step (st13.then (st15.then (st14.then st16))); exact hnext2 (t3.1, IntKind.i64.wrap (t2.2.1 + 1), (List.set t2.2.2.1 (Int.toNat (IntKind.i64.wrap (t2.2.1 - 1))) x2), t3.2.2) _ _ ⟨_, _, _, _, sl39, rfl, rfl, f19, (set_back ((rl_len _ _).trans hl2.symm) (set_len ((rl_len _ _).trans hl2.symm)) hl2), f7, (set_back (((rl_len _ _).trans hl.symm).trans hl3.symm) ((((rl_len _ _).trans hl.symm).trans hl3.symm).trans hl4.symm) hl3), f8⟩ q
 refine condI (fun q => ?_) (fun q => ?_) q
 · obtain ⟨h06, hi11, q⟩ := q; obtain ⟨a6, ha6, hi10⟩ := f8.addr h06 ((((rl_len _ _).trans hl.symm).trans hl3.symm).trans hl4.symm) hi11; refine ⟨a6, ha6, hi10.1, hi10.2, ?_⟩; obtain ⟨h07, x5, hx4, q⟩ := q; replace f5 := f5.step (st.then (st2.then (st3.then (st4.then (st5.then (st8.then (st9.then (st10.then (st11.then (st12.then (st13.then (st15.then (st14.then st16))))))))))))); obtain ⟨a7, ha7, hi12⟩ := f5.addr h07 hx4 rfl; refine ⟨a7, ha7, hi12.1, hi12.2, ?_⟩; obtain ⟨x6, hx5, q⟩ := q; obtain ⟨A9, c9, Y, hc4, hY, f20, bk⟩ := f8.row ha6 h06 hx5; replace b := b.step (st13.then (st15.then (st14.then st16))); have g := SlO.rowF f20 (fun b hb => (hY b hb).1); refine ⟨_, _, _, hc4.val, ?_⟩; obtain ⟨A10, c10, hc5, f21⟩ := f5.lds ha7 h07 hx4; refine ⟨_, _, _, hc5.val, ?_⟩; obtain ⟨h08, x7, hx6, q⟩ := q; obtain ⟨a8, ha8, hi13⟩ := f21.addr h08 hx6 rfl; refine ⟨a8, ha8, hi13.1, hi13.2, ?_⟩; obtain ⟨A11, c11, hc6, f22⟩ := f21.lds ha8 h08 hx6; refine ⟨_, _, _, hc6.val, ?_⟩; obtain ⟨h09, hi15, q⟩ := q; obtain ⟨a9, ha9, hi14⟩ := SlF.addr g h09 (List.getElem?_eq_getElem (idx_lt rfl h09 hi15)) rfl; refine ⟨a9, ha9, hi14.1, hi14.2, ?_⟩; have w4 := fun v hr => SlO.set2 (v := v) (y := x7) f8 rfl ha6 h06 hx5 hc4 ha9 h09 (lt_of_n rfl hi15) hr; refine ⟨(w4 _ (slL_rep rfl f22)).1, NewH.mk fun H_16 e10 => ?_⟩; obtain ⟨st17, f8, hh⟩ := (w4 _ (slL_rep rfl f22)).2 H_16 e10; replace hc4 := hh _ _ hc4; replace sl41 := sl41.trans st17; replace f19 := f19.step st17; exact hnext3 (t3.1, IntKind.i64.wrap (t3.2.1 + 1), (List.set t3.2.2 (Int.toNat (IntKind.i64.wrap (t3.2.1 - 1))) (List.set x6 (Int.toNat (IntKind.i64.wrap (t2.2.1 - 1))) x7))) _ _ ⟨_, _, _, _, sl41, rfl, rfl, f19, (set_back ((((rl_len _ _).trans hl.symm).trans hl3.symm).trans hl4.symm) (set_len ((((rl_len _ _).trans hl.symm).trans hl3.symm).trans hl4.symm)) hl4), f8⟩ q
 obtain ⟨h010, hi17, q⟩ := q; obtain ⟨a10, ha10, hi16⟩ := f8.addr h010 ((((rl_len _ _).trans hl.symm).trans hl3.symm).trans hl4.symm) hi17; refine ⟨a10, ha10, hi16.1, hi16.2, ?_⟩; obtain ⟨h011, x8, hx7, q⟩ := q; replace f5 := f5.step (st.then (st2.then (st3.then (st4.then (st5.then (st8.then (st9.then (st10.then (st11.then (st12.then (st13.then (st15.then (st14.then st16))))))))))))); obtain ⟨a11, ha11, hi18⟩ := f5.addr h011 hx7 rfl; refine ⟨a11, ha11, hi18.1, hi18.2, ?_⟩; obtain ⟨x9, hx8, q⟩ := q; obtain ⟨A12, c12, Y2, hc7, hY2, f23, bk2⟩ := f8.row ha10 h010 hx8; replace b := b.step (st13.then (st15.then (st14.then st16))); have g2 := SlO.rowF f23 (fun b hb => (hY2 b hb).1); refine ⟨_, _, _, hc7.val, ?_⟩; refine ⟨_, _, _, _, _, _, _, _, _, _, _, _, _, _, _, _, b.cell0, b.cell 1 rfl, b.cell 2 rfl, b.cell 3 rfl, b.cell 4 rfl, b.cell 5 rfl, b.cell 6 rfl, b.cell 7 rfl, ?_⟩; obtain ⟨A13, c13, hc8, f24⟩ := f5.lds ha11 h011 hx7; refine ⟨_, _, _, hc8.val, ?_⟩; obtain ⟨h012, x10, hx9, q⟩ := q; obtain ⟨a12, ha12, hi19⟩ := f24.addr h012 hx9 rfl; refine ⟨a12, ha12, hi19.1, hi19.2, ?_⟩; obtain ⟨A14, c14, hc9, f25⟩ := f24.lds ha12 h012 hx9; refine ⟨_, _, _, hc9.val, ?_⟩; have c_12 := st11.then (st12.then (st13.then (st15.then (st14.then st16)))); replace f := f.step c_12; replace f2 := f2.step c_12; replace f3 := f3.step c_12; replace f4 := f4.step c_12; refine q (Zt xσ15) H_15 _ rfl _ _ _ rfl f _ _ _ rfl f2 _ _ _ rfl f3 _ _ _ rfl f4 _ _ _ rfl f25 _ (fun Z3 H_17 hE2 hO2 x11 A15 n4 c15 hn8 f26 q => ?_); obtain ⟨xσ16, st18, fz2⟩ := callZ hE2 hO2 xσ15 (fun _ h => h); replace f26 := f26.keep fz2; cases hn8; refine ⟨_, _, _, rfl, ?_⟩; replace hc7 := hc7.step st18; refine ⟨hc7.val, ?_⟩; obtain ⟨h013, hi21, q⟩ := q; obtain ⟨a13, ha13, hi20⟩ := SlF.addr g2 h013 (List.getElem?_eq_getElem (idx_lt rfl h013 hi21)) rfl; refine ⟨a13, ha13, hi20.1, hi20.2, ?_⟩; replace f8 := f8.step st18; have w5 := fun v hr => SlO.set2 (v := v) (y := x11) f8 rfl ha10 h010 hx8 hc7 ha13 h013 (lt_of_n rfl hi21) hr; refine ⟨(w5 _ (slL_rep rfl f26)).1, NewH.mk fun H_18 e11 => ?_⟩; obtain ⟨st19, f8, hh2⟩ := (w5 _ (slL_rep rfl f26)).2 H_18 e11; replace hc7 := hh2 _ _ hc7; obtain ⟨h014, hi23, q⟩ := q; obtain ⟨a14, ha14, hi22⟩ := f8.addr h014 (set_len ((((rl_len _ _).trans hl.symm).trans hl3.symm).trans hl4.symm)) hi23; refine ⟨a14, ha14, hi22.1, hi22.2, ?_⟩; obtain ⟨x12, hx10, q⟩ := q; obtain ⟨A16, c16, Y3, hc10, hY3, f27, bk3⟩ := f8.row ha14 h014 hx10; replace b := b.step (st18.then st19); have g3 := SlO.rowF f27 (fun b hb => (hY3 b hb).1); refine ⟨_, _, _, hc10.val, ?_⟩; obtain ⟨h015, hi25, q⟩ := q; obtain ⟨a15, ha15, hi24⟩ := SlF.addr g3 h015 (List.getElem?_eq_getElem (idx_lt rfl h015 hi25)) rfl; refine ⟨a15, ha15, hi24.1, hi24.2, ?_⟩; obtain ⟨x13, hx11, q⟩ := q; obtain ⟨A17, c17, hc11, f28⟩ := SlO.row_lds f8 ha14 h014 hx10 hc10 ha15 h015 hx11; refine ⟨_, _, _, hc11.val, ?_⟩; refine condJ (fun q => ?_) (fun q => ?_) q
 · have c_13 := st18.then st19; replace sl41 := sl41.trans c_13; replace f19 := f19.step c_13; exact hnext3 (t3.1, IntKind.i64.wrap (t3.2.1 + 1), (List.set t3.2.2 (Int.toNat (IntKind.i64.wrap (t3.2.1 - 1))) (List.set x9 (Int.toNat (IntKind.i64.wrap (t2.2.1 - 1))) x11))) _ _ ⟨_, _, _, _, sl41, rfl, rfl, f19, (set_back ((((rl_len _ _).trans hl.symm).trans hl3.symm).trans hl4.symm) (set_len ((((rl_len _ _).trans hl.symm).trans hl3.symm).trans hl4.symm)) hl4), f8⟩ q
 obtain ⟨h016, hi27, q⟩ := q; obtain ⟨a16, ha16, hi26⟩ := f8.addr h016 (set_len ((((rl_len _ _).trans hl.symm).trans hl3.symm).trans hl4.symm)) hi27; refine ⟨a16, ha16, hi26.1, hi26.2, ?_⟩; refine ⟨_, b.cell 6 rfl, ?_⟩; obtain ⟨x14, hx12, q⟩ := q; obtain ⟨A18, c18, Y4, hc12, hY4, f29, bk4⟩ := f8.row ha16 h016 hx12; have g4 := SlO.rowF f29 (fun b hb => (hY4 b hb).1); refine ⟨_, _, _, hc12.val, ?_⟩; obtain ⟨h017, hi29, q⟩ := q; obtain ⟨a17, ha17, hi28⟩ := SlF.addr g4 h017 (List.getElem?_eq_getElem (idx_lt rfl h017 hi29)) rfl; refine ⟨a17, ha17, hi28.1, hi28.2, ?_⟩; obtain ⟨x15, hx13, q⟩ := q; obtain ⟨A19, c19, hc13, f30⟩ := SlO.row_lds f8 ha16 h016 hx12 hc12 ha17 h017 hx13; refine ⟨_, _, _, hc13.val, ?_⟩; refine NewH.mk fun H_19 e12 => ?_; obtain ⟨xσ17, st20, f31⟩ := SlO.lit (E := TSent.L) xσ16 15 (xs := [(⟨IntKind.i64.wrap (w.Round + 1), t2.2.1, t3.2.1, x15⟩ : TSent)]) (l := [[_, _, _, _]]) e12 rfl (.cons (show (TSent.L).rep _ _ (⟨IntKind.i64.wrap (w.Round + 1), t2.2.1, t3.2.1, x15⟩ : TSent) _ from ⟨_, _, rfl, f30⟩) .nil) (show (1 : Nat) ≤ 17592186044416 by decide); obtain ⟨xσ19, st22, f31⟩ := SlO.freeze f31; obtain ⟨q7, q⟩ := q; replace f19 := f19.step (st18.then (st19.then (st20.then st22))); refine SlO.appF f19 f31 rfl rfl q7.l q7.r rfl rfl (fun A20 c20 H_20 xσ18 st21 f19_ => ?_); replace f19 := f19_; have f32 := f19; clear f19; replace sl41 := sl41.trans (st18.then (st19.then (st20.then (st22.then st21)))); replace f8 := f8.step (st20.then (st22.then st21)); exact hnext3 ((t3.1 ++ ([(⟨IntKind.i64.wrap (w.Round + 1), t2.2.1, t3.2.1, x15⟩ : TSent)] : List TSent)), IntKind.i64.wrap (t3.2.1 + 1), (List.set t3.2.2 (Int.toNat (IntKind.i64.wrap (t3.2.1 - 1))) (List.set x9 (Int.toNat (IntKind.i64.wrap (t2.2.1 - 1))) x11))) _ _ ⟨_, _, _, _, sl41, rfl, rfl, f32, (set_back ((((rl_len _ _).trans hl.symm).trans hl3.symm).trans hl4.symm) (set_len ((((rl_len _ _).trans hl.symm).trans hl3.symm).trans hl4.symm)) hl4), f8⟩ q
end Go.Proofs.Ytpfpnkaeoedeiaa.Sh
end
section
set_option linter.unusedVariables false
namespace Go.Proofs.Ytpfpnkaeoedeiaa.Pl
open Go.Sx Go.Lf Go.Proofs.Ytpfpnkaeoedeiaa.Sh Go.Proofs.Ytpfpnkaeoedeiaa.Sp
theorem actsC_of {n : Int} {c : List Int} : ∀ (l seen : List TAct), ((seen ++ l).map key3).Nodup → (∀ a ∈ l, ¬ badAct n c a ∧ a.Data.length ≤ 65536) → actsC n c seen l = 0
 | [], _, _, _ => rfl
 | a :: l, seen, hn, h => by
   have h0 : actC n c seen a = 0 := by
     obtain ⟨h1, h2⟩ := h a (by simp)
     rw [actC, if_neg h1, if_neg (by omega), if_neg]
     rintro ⟨b, hb, e⟩
     rw [List.map_append, List.nodup_append] at hn
     exact hn.2.2 _ (List.mem_map.2 ⟨b, hb, rfl⟩) _ (by simp) e
   simp only [actsC]
   rw [if_pos h0]
   exact actsC_of l _ (by simpa using hn) fun b hb => h b (by simp [hb])
theorem checkW_of {w : TWorld} (h : WOk w) (ha : w.Acts.length ≤ 65536) : checkW w = 0 := by
 have hc : corC w.Setup w.Corrupted = 0 := by rw [corC, if_pos ⟨h.set, h.cor, h.ris⟩]
 have h0 := h.r0; have h1 := h.r1; have h2 := h.tap
 unfold checkW
 rw [if_pos hc, if_neg (by omega), if_neg (by omega)]
 exact actsC_of _ _ (by simpa using h.key) h.act
theorem juntoref17_Is_c {l : List Int} {x : Int} (hl : l.length < 4611686018427387904) {K : Bool → Prop} (k : K (decide (x ∈ l))) : juntoref17_Is.C l x K := by
 refine juntoref17_Is.q ?_
 refine LoopQ.range l.length (fun k => ∀ j, j < k → l[j]? ≠ some x) (fun j hj => by omega) hl ?_ ?_
 · intro i next hk hI hn
   obtain ⟨y, hy⟩ := get_some hk
   refine ctd (by omega) ⟨by omega, y, hy, cnE (fun h => ?_) (fun h => hn fun j hj => ?_)⟩
   · rw [decide_eq_true (by rw [← h]; exact mem_get hy)] at k; exact k
   · rcases Nat.lt_or_ge j i with h' | h'
     · exact hI j h'
     · obtain rfl : j = i := by omega
       rw [hy]; exact fun e => h (by cases e; rfl)
 · intro next hI
   refine cfd (by omega) ?_
   rw [decide_eq_false (fun hm => by obtain ⟨j, hj⟩ := List.mem_iff_getElem?.1 hm; exact hI j (lt_get hj) hj)] at k
   exact k
theorem juntoref17_SameInts_c {x y : List Int} (hl : x.length < 4611686018427387904) {K : Bool → Prop} (k : K (decide (x = y))) : juntoref17_SameInts.C x y K := by
 apply juntoref17_SameInts.q
 unfold juntoref17_SameInts.Q
 by_cases hlen : x.length = y.length
 · refine cf (bne_f (by omega)) ?_
   refine LoopQ.range x.length (fun k => ∀ j, j < k → x[j]? = y[j]?) (fun j hj => by omega) hl ?_ ?_
   · intro n next hk hI hn
     obtain ⟨u, hu⟩ := get_some hk
     obtain ⟨v, hv⟩ := get_some (show n < y.length by omega)
     refine ctd (by omega) ⟨by omega, u, hu, by omega, v, hv, cnN (fun h => ?_) (fun h => hn fun j hj => ?_)⟩
     · rw [decide_eq_false (fun e => h (by rw [e, hv] at hu; cases hu; rfl))] at k; exact k
     · rcases Nat.lt_or_ge j n with h' | h'
       · exact hI j h'
       · obtain rfl : j = n := by omega
         rw [hu, hv, h]
   · intro next hI
     refine cfd (by omega) ?_
     rw [decide_eq_true] at k
     · exact k
     · apply List.ext_getElem?
       intro j
       rcases Nat.lt_or_ge j x.length with h' | h'
       · exact hI j h'
       · rw [List.getElem?_eq_none h', List.getElem?_eq_none (by omega)]
 · refine ct (bne_t (by omega)) ?_
   rw [decide_eq_false (fun h => hlen (by rw [h]))] at k; exact k
theorem smW_of {w : TWorld} (h : TWorld.L.sm 1048576 w) : SmW w :=
 ⟨Nat.le_trans h.1.1 (by decide), Nat.le_trans h.2.1.1 (by decide), Nat.le_trans h.2.2.1.1 (by decide), Nat.le_trans h.2.2.2.1 (by decide)⟩
theorem juntoref04_Setup_c {s : TSetup} {K : Int → Prop} (k : K (setC s)) : juntoref04_Setup.C s K := by
 apply juntoref04_Setup.q
 unfold juntoref04_Setup.Q
 have bad : ¬ OkS s → K 2 := fun h => by rw [setC, if_neg h] at k; exact k
 refine juntoref01_Is_c ?_
 by_cases hp : ¬ isP s.P
 · exact ct (by rw [prm_f hp]; rfl) (bad fun h => hp h.1)
 rw [Classical.not_not] at hp
 refine cf (by rw [prm_t hp]; rfl) ?_
 refine cnd (fun h => bad fun ⟨_, a, b, c, d, e⟩ => by omega) (fun h1 => ?_)
 refine cnd (fun h => bad fun ⟨_, a, b, c, d, e⟩ => by omega) (fun h2 => ?_)
 refine cnd (fun h => bad fun ⟨_, a, b, c, d, e⟩ => by omega) (fun h3 => ?_)
 refine cnd (fun h => bad fun ⟨_, a, b, c, d, e⟩ => by omega) (fun h4 => ?_)
 rw [wi64 (x := 4 * s.T_) (by omega) (by omega), wi64 (by omega) (by omega), wu64 (by omega) (by omega)]
 refine cnd (fun h => bad fun ⟨_, a, b, c, d, e⟩ => by omega) (fun h5 => ?_)
 refine cnd (fun h => bad fun ⟨_, a, b, c, d, e⟩ => by omega) (fun h6 => ?_)
 have : OkS s := ⟨hp, by omega, by omega, by omega, by omega, by omega⟩
 rw [setC, if_pos this] at k; exact k
theorem juntoref04_Rising_c {n : Int} {l : List Int} (hl : l.length < 4611686018427387904) {K : Bool → Prop} (k : K (risA n 0 l)) : juntoref04_Rising.C n l K := by
 refine juntoref04_Rising.q ?_
 refine LoopQ.range l.length (fun j => risA n (if j = 0 then 0 else ih l (j - 1)) (l.drop j) = risA n 0 l ∧ (j ≠ 0 → 1 ≤ ih l (j - 1))) ⟨rfl, fun h => absurd rfl h⟩ hl ?_ ?_
 · rintro j next hj ⟨hI, h1⟩ hn
   obtain ⟨x, hx⟩ := get_some hj
   rw [drop_cons hx] at hI
   simp only [risA] at hI
   have no : ¬ ((if j = 0 then 0 else ih l (j - 1)) < x ∧ x ≤ n) → K false := fun h => by
     have : (decide ((if j = 0 then 0 else ih l (j - 1)) < x) && decide (x ≤ n) && risA n x (l.drop (j + 1))) = false := by
       by_cases ha : (if j = 0 then 0 else ih l (j - 1)) < x
       · rw [decide_eq_false (fun hb => h ⟨ha, hb⟩)]; simp
       · rw [decide_eq_false ha]; simp
     rw [← hI, this] at k; exact k
   have go : (if j = 0 then 0 else ih l (j - 1)) < x → x ≤ n → 1 ≤ x → next (IntKind.i64.wrap ((j : Int) + 1)) := fun ha hb hc => by
     refine hn ⟨?_, fun _ => ?_⟩
     · rw [if_neg (by omega), show j + 1 - 1 = j by omega, ih_get hx, ← hI, decide_eq_true ha, decide_eq_true hb]; rfl
     · rw [show j + 1 - 1 = j by omega, ih_get hx]; exact hc
   refine ctd (by omega) ⟨by omega, x, hx, cnd (fun h => no ?_) (fun h2 => cnd (fun h => no ?_) (fun h3 => ?_))⟩
   · rintro ⟨ha, _⟩
     by_cases h0 : j = 0
     · rw [if_pos h0] at ha; omega
     · rw [if_neg h0] at ha; have := h1 h0; omega
   · rintro ⟨_, hb⟩; omega
   by_cases h0 : j = 0
   · refine cfd (by omega) (go ?_ (by omega) (by omega))
     rw [if_pos h0]; omega
   · obtain ⟨y, hy⟩ := get_some (show j - 1 < l.length by omega)
     have ew : IntKind.i64.wrap ((j : Int) - 1) = ((j - 1 : Nat) : Int) := subw1 (by omega) (by omega)
     rw [ew]
     refine ctd (by omega) ⟨by omega, y, hy, cnd (fun h => no ?_) (fun h4 => go ?_ (by omega) (by omega))⟩
     · rintro ⟨ha, _⟩
       rw [if_neg h0, ih_get hy] at ha; omega
     · rw [if_neg h0, ih_get hy]; omega
 · rintro next ⟨hI, _⟩
   refine cfd (by omega) ?_
   rw [List.drop_of_length_le (Nat.le_refl _)] at hI
   rw [← hI] at k; exact k
theorem juntoref04_Corrupted_c {s : TSetup} {l : List Int} (hl : l.length < 4611686018427387904) {K : Int → Prop} (k : K (corC s l)) : juntoref04_Corrupted.C s l K := by
 refine juntoref04_Corrupted.q (juntoref04_Setup_c ?_)
 have bad : ¬ (OkS s ∧ (l.length : Int) ≤ s.T_ ∧ risA s.N 0 l = true) → K 2 := fun h => by rw [corC, if_neg h] at k; exact k
 rcases setC_cases s with ⟨h, e⟩ | ⟨h, e⟩
 · rw [e]
   refine cf rfl (cnd (fun h2 => bad fun hh => by omega) (fun h2 => juntoref04_Rising_c hl ?_))
   cases h3 : risA s.N 0 l with
   | false => exact ct rfl (bad fun hh => by rw [h3] at hh; simp at hh)
   | true =>
     rw [corC, if_pos ⟨h, by omega, h3⟩] at k
     exact cf rfl k
 · rw [e]
   exact ct rfl (bad fun hh => h hh.1)
theorem juntoref17_Ahead_c {l : List TAct} {a : TAct} (hl : l.length < 4611686018427387904) {K : Bool → Prop} (k1 : (∃ b ∈ l, key3 b = key3 a) → K true) (k0 : (¬ ∃ b ∈ l, key3 b = key3 a) → K false) : juntoref17_Ahead.C l a K := by
 refine juntoref17_Ahead.q ?_
 refine LoopQ.range l.length (fun j => ∀ i b, i < j → l[i]? = some b → key3 b ≠ key3 a) (fun i b hi => by omega) hl ?_ ?_
 · intro j next hj hI hn
   obtain ⟨b, hb⟩ := get_some hj
   have step : key3 b ≠ key3 a → next (IntKind.i64.wrap ((j : Int) + 1)) := fun h => hn fun i c hi hc => by
     rcases Nat.lt_or_ge i j with h' | h'
     · exact hI i c h' hc
     · obtain rfl : i = j := by omega
       rw [hb] at hc; cases hc; exact h
   refine ctd (by omega) ⟨by omega, b, hb, cnE (fun h1 => cnE (fun h2 => cnE (fun h3 => k1 ⟨b, mem_get hb, by simp [key3, h1, h2, h3]⟩) (fun h => step ?_)) (fun h => step ?_)) (fun h => step ?_)⟩
   all_goals (intro e; simp only [key3, Prod.mk.injEq] at e)
   · exact h e.2.2.symm
   · exact h e.2.1.symm
   · exact h e.1.symm
 · intro next hI
   refine cfd (by omega) (k0 ?_)
   rintro ⟨b, hb, e⟩
   obtain ⟨i, hi⟩ := List.mem_iff_getElem?.1 hb
   exact hI i b (lt_get hi) hi e
theorem juntoref17_Check_c {w : TWorld} (hc : w.Corrupted.length < 4611686018427387904) {K : Int → Prop} (k : K (checkW w)) : juntoref17_Check.C w K := by
 refine juntoref17_Check.q (juntoref04_Corrupted_c hc ?_)
 unfold checkW at k
 by_cases en : corC w.Setup w.Corrupted ≠ 0
 · have e := (corC_cases w.Setup w.Corrupted).resolve_left fun h => en h.2
   rw [e]
   rw [if_neg (by rw [e]; decide)] at k
   exact ct rfl k
 have e := Classical.not_not.1 en
 rw [e]
 rw [if_pos e] at k
 refine cf rfl (cnN (fun h1 => ?_) (fun h1 => cnd (fun h2 => ?_) (fun h2 => cnd (fun h3 => ?_) (fun h3 => cnd (fun h4 => ?_) (fun h4 => ?_)))))
 · rw [if_pos (.inl h1)] at k; exact k
 · rw [if_pos (.inr (.inl h2))] at k; exact k
 · rw [if_pos (.inr (.inr h3))] at k; exact k
 · rw [if_neg (by omega), if_pos (by omega)] at k; exact k
 rw [if_neg (by omega), if_neg (by omega)] at k
 refine LoopQ.range w.Acts.length (fun j => actsC w.Setup.N w.Corrupted (w.Acts.take j) (w.Acts.drop j) = actsC w.Setup.N w.Corrupted [] w.Acts) rfl (by omega) ?_ ?_
 · intro j next hj hI hn
   obtain ⟨a, ha⟩ := get_some hj
   refine ctd (by omega) ⟨by omega, a, ha, juntoref17_Is_c hc ?_⟩
   rw [drop_cons ha] at hI
   simp only [actsC] at hI
   have out : ∀ e : Int, actC w.Setup.N w.Corrupted (w.Acts.take j) a = e → e ≠ 0 → K e := fun e he h0 => by
     rw [← hI, if_neg (by rw [he]; exact h0), he] at k; exact k
   have bad : badAct w.Setup.N w.Corrupted a → K 2 := fun hb => out 2 (by rw [actC, if_pos hb]) (by decide)
   refine cnB (fun h1 => bad (.inl (by simpa using h1))) (fun h1 => ?_)
   refine cnd (fun h2 => bad (.inr (.inl h2))) (fun h2 => cnd (fun h3 => bad (.inr (.inr (.inl h3)))) (fun h3 => cnE (fun h4 => bad (.inr (.inr (.inr (.inl h4))))) (fun h4 => cnd (fun h5 => bad (.inr (.inr (.inr (.inr h5))))) (fun h5 => ?_))))
   have hnb : ¬ badAct w.Setup.N w.Corrupted a := by
     rintro (hh | hh | hh | hh | hh)
     · simp at h1; exact hh h1
     · exact h2 hh
     · exact h3 hh
     · exact h4 hh
     · exact h5 hh
   refine cnd (fun h6 => out 3 (by rw [actC, if_neg hnb, if_pos (by omega)]) (by decide)) (fun h6 => ⟨by omega, by omega, ?_⟩)
   rw [toNat_c]
   refine juntoref17_Ahead_c (by rw [List.length_take]; omega) (fun h7 => ct rfl (out 6 (by rw [actC, if_neg hnb, if_neg (by omega), if_pos h7]) (by decide))) (fun h7 => cf rfl (hn ?_))
   have : actC w.Setup.N w.Corrupted (w.Acts.take j) a = 0 := by rw [actC, if_neg hnb, if_neg (by omega), if_neg h7]
   rw [if_pos this, ← take_snoc ha] at hI
   exact hI
 · intro next hI
   refine cfd (by omega) ?_
   rw [← hI, List.drop_of_length_le (Nat.le_refl _)] at k
   exact k
theorem hasAct_first {l : List TAct} {r f t : Int} {i : Nat} {a : TAct} (ha : l[i]? = some a) (hk : key3 a = (r, f, t)) (h : ∀ j b, j < i → l[j]? = some b → key3 b ≠ (r, f, t)) : hasAct l r f t = some a := by
 obtain ⟨hi, e⟩ := List.getElem?_eq_some_iff.1 ha
 unfold hasAct
 rw [List.find?_eq_some_iff_getElem]
 refine ⟨by simp [hk], i, hi, e, fun j hj => ?_⟩
 simp only [Bool.not_eq_true', decide_eq_false_iff_not]
 exact h j _ hj (List.getElem?_eq_getElem (by omega))
theorem juntoref17_Act_c {w : TWorld} {f t : Int} {d : List Nat} (hr0 : 0 ≤ w.Round) (hr1 : w.Round ≤ 1048576) (hA : w.Acts.length ≤ 2000000) {K : List Nat → Prop} (k : K (actOf w.Acts (w.Round + 1) f t d)) : juntoref17_Act.C w f t d K := by
 refine juntoref17_Act.q ?_
 unfold juntoref17_Act.Q
 rw [wi64 (x := w.Round + 1) (by omega) (by omega)]
 refine LoopQ.range w.Acts.length (fun j => ∀ i b, i < j → w.Acts[i]? = some b → key3 b ≠ (w.Round + 1, f, t)) (fun i b hi => by omega) (by omega) ?_ ?_
 · intro j next hj hI hn
   obtain ⟨a, ha⟩ := get_some hj
   have step : key3 a ≠ (w.Round + 1, f, t) → next (IntKind.i64.wrap ((j : Int) + 1)) := fun h => hn fun i c hi hc => by
     rcases Nat.lt_or_ge i j with h' | h'
     · exact hI i c h' hc
     · obtain rfl : i = j := by omega
       rw [ha] at hc; cases hc; exact h
   refine ctd (by omega) ⟨by omega, a, ha, cnE (fun h1 => cnE (fun h2 => cnE (fun h3 => ?_) (fun h => step ?_)) (fun h => step ?_)) (fun h => step ?_)⟩
   · have e := hasAct_first ha (r := w.Round + 1) (f := f) (t := t) (by simp [key3, h1, h2, h3]) hI
     unfold actOf at k
     rw [e] at k
     dsimp only at k
     cases hs : a.Silent with
     | true => rw [hs] at k; exact k
     | false => rw [hs] at k; exact k
   all_goals (intro e; simp only [key3, Prod.mk.injEq] at e)
   · exact h e.2.2
   · exact h e.2.1
   · exact h e.1
 · intro next hI
   refine cfd (by omega) ?_
   have e : hasAct w.Acts (w.Round + 1) f t = none := by
     unfold hasAct
     rw [List.find?_eq_none]
     intro a ha
     obtain ⟨i, hi⟩ := List.mem_iff_getElem?.1 ha
     simpa using hI i a (lt_get hi) hi
   unfold actOf at k
   rw [e] at k
   exact k
def cameT (w : TWorld) (p : List (List (List Nat))) (n b m : Nat) : List (List (List Nat)) := tab n fun a => tab n fun c => if c < b ∨ (c = b ∧ a < m) then cameF w p a c else []
section
variable {w : TWorld} {p : List (List (List Nat))} {n b m : Nat}
theorem cameT_row (hm : m < n) : (cameT w p n b m)[m]? = some (tab n fun c => if c < b then cameF w p m c else []) := by
 unfold cameT
 rw [tab_get _ hm]
 congr 1
 refine tab_ext fun c hc => ?_
 by_cases h : c < b
 · rw [if_pos (.inl h), if_pos h]
 · rw [if_neg (by omega), if_neg h]
theorem cameT_put (hm : m < n) (hb : b < n) : (cameT w p n b m).set m ((tab n fun c => if c < b then cameF w p m c else []).set b (cameF w p m b)) = cameT w p n b (m + 1) := by
 unfold cameT
 rw [tab_set, tab_set]
 refine tab_ext fun a ha => ?_
 by_cases e : a = m
 · subst e
   rw [if_pos rfl]
   refine tab_ext fun c hc => ?_
   by_cases e2 : c = b
   · rw [if_pos e2, if_pos (.inr ⟨e2, by omega⟩), e2]
   · rw [if_neg e2]
     by_cases h : c < b
     · rw [if_pos h, if_pos (.inl h)]
     · rw [if_neg h, if_neg (by omega)]
 · rw [if_neg e]
   refine tab_ext fun c hc => ?_
   by_cases h : c < b ∨ (c = b ∧ a < m)
   · rw [if_pos h, if_pos (by omega)]
   · rw [if_neg h, if_neg (by omega)]
theorem cameT_next : cameT w p n b n = cameT w p n (b + 1) 0 := by
 unfold cameT
 refine tab_ext fun a ha => tab_ext fun c hc => ?_
 by_cases h : c < b ∨ (c = b ∧ a < n)
 · rw [if_pos h, if_pos (by omega)]
 · rw [if_neg h, if_neg (by omega)]
theorem cameT_start : List.replicate n (List.replicate n ([] : List Nat)) = cameT w p n 0 0 := by
 unfold cameT
 rw [tab_rep]
 refine tab_ext fun a ha => ?_
 rw [tab_rep]
 exact tab_ext fun c hc => by rw [if_neg (by omega)]
theorem cameT_end (hn : w.Setup.N = n) : cameT w p n n 0 = cames w p := by
 have e : w.Setup.N.toNat = n := by omega
 unfold cameT cames
 rw [e]
 exact tab_ext fun a ha => tab_ext fun c hc => by rw [if_pos (.inl hc)]
theorem flat_succ' {α : Type} {n : Nat} {g : Nat → List α} : flat (n + 1) g = flat n g ++ g n := by
 unfold flat
 rw [List.range_succ, List.map_append, List.flatten_append]; simp
theorem no_own {w : TWorld} (hw : WOk w) (r f : Int) (d : List Nat) : actOf w.Acts r f f d = d := by
 unfold actOf
 cases h : hasAct w.Acts r f f with
 | none => rfl
 | some a =>
   obtain ⟨hm, hk⟩ := hasAct_some h
   simp only [key3, Prod.mk.injEq] at hk
   exact absurd (hw.act a hm).1 (fun h => h (.inr (.inr (.inr (.inl (by rw [hk.2.1, hk.2.2]))))))
theorem exch_in {s : List (List Nat)} (hw : WOk w) (hn : w.Setup.N = n) (hp : Sq n p) (hA : w.Acts.length ≤ 2000000) (hS : w.Sent.length ≤ 2000000) (hb : b < n) {bi : Int} (ebi : bi = (b : Int) + 1) {S0 : List TSent} {C0 : List (List (List Nat))}
   (eS : S0 = w.Sent ++ sentF w p s n b ++ sentRow w p s b 0) (eC : C0 = cameT w p n b 0) {J : List TSent × Int × List (List (List Nat)) → Prop} (j : ∀ m, J (w.Sent ++ sentF w p s n (b + 1), m, cameT w p n (b + 1) 0)) :
 LoopQ (τ := List TSent × Int × List (List (List Nat))) (S0, 1, C0) fun t4 nextQ4 =>
 cond (decide (t4.2.1 ≤ w.Setup.N)) (cond (bi == t4.2.1) (0 ≤ (IntKind.i64.wrap (t4.2.1 - 1)) ∧ (IntKind.i64.wrap (t4.2.1 - 1)) < ((Int.toNat w.Setup.N : Nat) : Int) ∧ 0 ≤ (IntKind.i64.wrap (bi - 1)) ∧ ∃ x16 : (List (List Nat)), p[Int.toNat (IntKind.i64.wrap (bi - 1))]? = some x16 ∧ ∃ x17 : (List (List Nat)), t4.2.2[Int.toNat (IntKind.i64.wrap (t4.2.1 - 1))]? = some x17 ∧ 0 ≤ (IntKind.i64.wrap (t4.2.1 - 1)) ∧ ∃ x18 : (List Nat), x16[Int.toNat (IntKind.i64.wrap (t4.2.1 - 1))]? = some x18 ∧ 0 ≤ (IntKind.i64.wrap (bi - 1)) ∧ (IntKind.i64.wrap (bi - 1)) < ((x17.length : Nat) : Int) ∧ nextQ4 (t4.1, IntKind.i64.wrap (t4.2.1 + 1), (List.set t4.2.2 (Int.toNat (IntKind.i64.wrap (t4.2.1 - 1))) (List.set x17 (Int.toNat (IntKind.i64.wrap (bi - 1))) x18))))
  (0 ≤ (IntKind.i64.wrap (t4.2.1 - 1)) ∧ (IntKind.i64.wrap (t4.2.1 - 1)) < ((Int.toNat w.Setup.N : Nat) : Int) ∧ 0 ≤ (IntKind.i64.wrap (bi - 1)) ∧ ∃ x19 : (List (List Nat)), p[Int.toNat (IntKind.i64.wrap (bi - 1))]? = some x19 ∧ ∃ x20 : (List (List Nat)), t4.2.2[Int.toNat (IntKind.i64.wrap (t4.2.1 - 1))]? = some x20 ∧ 0 ≤ (IntKind.i64.wrap (t4.2.1 - 1)) ∧ ∃ x21 : (List Nat), x19[Int.toNat (IntKind.i64.wrap (t4.2.1 - 1))]? = some x21 ∧ juntoref17_Act.C w bi t4.2.1 x21 (fun (x22 : (List Nat)) =>
 0 ≤ (IntKind.i64.wrap (bi - 1)) ∧ (IntKind.i64.wrap (bi - 1)) < ((x20.length : Nat) : Int) ∧ 0 ≤ (IntKind.i64.wrap (t4.2.1 - 1)) ∧ (IntKind.i64.wrap (t4.2.1 - 1)) < ((Int.toNat w.Setup.N : Nat) : Int) ∧ ∃ x23 : (List (List Nat)), (List.set t4.2.2 (Int.toNat (IntKind.i64.wrap (t4.2.1 - 1))) (List.set x20 (Int.toNat (IntKind.i64.wrap (bi - 1))) x22))[Int.toNat (IntKind.i64.wrap (t4.2.1 - 1))]? = some x23 ∧ 0 ≤ (IntKind.i64.wrap (bi - 1)) ∧ (IntKind.i64.wrap (bi - 1)) < ((x23.length : Nat) : Int) ∧ ∃ x24 : (List Nat), x23[Int.toNat (IntKind.i64.wrap (bi - 1))]? = some x24 ∧ cond (decide (((x24.length : Nat) : Int) > 0)) (0 ≤ (IntKind.i64.wrap (t4.2.1 - 1)) ∧ (IntKind.i64.wrap (t4.2.1 - 1)) < ((Int.toNat w.Setup.N : Nat) : Int) ∧ ∃ x25 : (List (List Nat)), (List.set t4.2.2 (Int.toNat (IntKind.i64.wrap (t4.2.1 - 1))) (List.set x20 (Int.toNat (IntKind.i64.wrap (bi - 1))) x22))[Int.toNat (IntKind.i64.wrap (t4.2.1 - 1))]? = some x25 ∧ 0 ≤ (IntKind.i64.wrap (bi - 1)) ∧ (IntKind.i64.wrap (bi - 1)) < ((x25.length : Nat) : Int) ∧ ∃ x26 : (List Nat), x25[Int.toNat (IntKind.i64.wrap (bi - 1))]? = some x26 ∧ AppOk 48 (t4.1 ++ ([(⟨IntKind.i64.wrap (w.Round + 1), bi, t4.2.1, x26⟩ : TSent)] : List TSent)).length ∧ nextQ4 ((t4.1 ++ ([(⟨IntKind.i64.wrap (w.Round + 1), bi, t4.2.1, x26⟩ : TSent)] : List TSent)), IntKind.i64.wrap (t4.2.1 + 1), (List.set t4.2.2 (Int.toNat (IntKind.i64.wrap (t4.2.1 - 1))) (List.set x20 (Int.toNat (IntKind.i64.wrap (bi - 1))) x22))))
  (nextQ4 (t4.1, IntKind.i64.wrap (t4.2.1 + 1), (List.set t4.2.2 (Int.toNat (IntKind.i64.wrap (t4.2.1 - 1))) (List.set x20 (Int.toNat (IntKind.i64.wrap (bi - 1))) x22)))))))
  (J t4) := by
 have hn2 := (show n ≤ 13 by have := hw.set.2.2.1; omega)
 have hr0 := hw.r0; have hr1 := hw.r1
 have hsent : ∀ k, k ≤ n → (w.Sent ++ sentF w p s n b ++ sentRow w p s b k).length ≤ 3000000 := fun k hk => by
   have h1 : (sentF w p s n b).length ≤ b * (n + 1) := flat_le fun c => sentRow_le w p s c n
   have h2 := sentRow_le w p s b k
   have h3 : b * (n + 1) ≤ 13 * 14 := Nat.mul_le_mul (by omega) (by omega)
   rw [List.length_append, List.length_append]
   omega
 refine LoopQ.upto n (fun m t => t.1 = w.Sent ++ sentF w p s n b ++ sentRow w p s b m ∧ t.2.1 = (m : Int) + 1 ∧ t.2.2 = cameT w p n b m) ⟨eS, rfl, eC⟩ ?_
 rintro m ⟨t1, t2, t3⟩ next hm ⟨h1, h2, h3⟩ hnx
 dsimp only at h1 h2 h3 ⊢
 subst h1 h2 h3 ebi
 have srow : sentRow w p s b (m + 1) = sentRow w p s b m ++ one (w.Round + 1) ((b : Int) + 1) ((m : Int) + 1) (cameF w p m b) := by
   unfold sentRow; rw [flat_succ', ← List.append_assoc]
 by_cases h : m < n
 · refine ctd (by omega) ?_
   rw [wi64 (x := (m : Int) + 1 - 1) (by omega) (by omega), wi64 (x := (b : Int) + 1 - 1) (by omega) (by omega), show (m : Int) + 1 - 1 = (m : Int) by omega, show (b : Int) + 1 - 1 = (b : Int) by omega, wi64 (x := (m : Int) + 1 + 1) (by omega) (by omega),
     wi64 (x := w.Round + 1) (by omega) (by omega)]
   simp only [Int.toNat_natCast]
   obtain ⟨x, hx⟩ : ∃ x, p[b]? = some x := get_some (by rw [hp.len]; exact hb)
   have hxl : x.length = n := by rw [← row_get hx]; exact hp.row b hb
   obtain ⟨y, hy⟩ : ∃ y, x[m]? = some y := get_some (by omega)
   have ey : pay (row p b) m = y := by rw [row_get hx, pay_get hy]
   have hlen : (tab n fun c => if c < b then cameF w p m c else []).length = n := tab_len _ _
   refine cnE (fun e => ?_) (fun e => ?_)
   · obtain rfl : b = m := by omega
     have ec : cameF w p b b = y := by unfold cameF; rw [no_own hw, ey]
     refine ⟨by omega, by omega, by omega, x, hx, _, cameT_row h, by omega, y, hy, by omega, by omega, hnx h _ ⟨?_, by dsimp only; omega, ?_⟩⟩
     · dsimp only
       rw [srow, one, if_pos (.inl rfl), List.append_nil]
     · dsimp only
       rw [← ec]; exact cameT_put h hb
   · refine ⟨by omega, by omega, by omega, x, hx, _, cameT_row h, by omega, y, hy, juntoref17_Act_c hr0 hr1 hA ?_⟩
     have ec : actOf w.Acts (w.Round + 1) ((b : Int) + 1) ((m : Int) + 1) y = cameF w p m b := by unfold cameF; rw [ey]
     rw [ec, cameT_put h hb]
     refine ⟨by omega, by omega, by omega, by omega, _, by unfold cameT; exact tab_get _ h, by omega, by rw [tab_len]; omega, cameF w p m b, by rw [tab_get _ hb, if_pos (.inr ⟨rfl, by omega⟩)], ?_⟩
     refine cnd (fun h0 => ?_) (fun h0 => ?_)
     · refine ⟨by omega, by omega, _, by unfold cameT; exact tab_get _ h, by omega, by rw [tab_len]; omega, cameF w p m b, by rw [tab_get _ hb, if_pos (.inr ⟨rfl, by omega⟩)], AppOk.big ?_, hnx h _ ⟨?_, by dsimp only; omega, rfl⟩⟩
       · rw [List.length_append]; have := hsent m hm; simp only [List.length_cons, List.length_nil]; omega
       · dsimp only
         rw [srow, one, if_neg, ← List.append_assoc]
         rintro (e1 | e1)
         · omega
         · rw [e1] at h0; simp at h0
     · refine hnx h _ ⟨?_, by dsimp only; omega, rfl⟩
       dsimp only
       rw [srow, one, if_pos, List.append_nil]
       right
       exact List.eq_nil_of_length_eq_zero (by omega)
 · obtain rfl : m = n := by omega
   refine cfd (by omega) ?_
   have := j ((m : Int) + 1)
   rw [cameT_next]
   unfold sentF at this ⊢
   rw [flat_succ', ← List.append_assoc] at this
   exact this
end
theorem juntoref17_Exchange_c {w : TWorld} {p : List (List (List Nat))} {s : List (List Nat)} {n : Nat} (hw : WOk w) (hn : w.Setup.N = n) (hp : Sq n p) (hl : s.length = n) (hS : w.Sent.length ≤ 2000000) (hA : w.Acts.length ≤ 2000000)
   {K : List (List (List Nat)) → List (List Nat) → TWorld → Prop} (k : K (cames w p) (heards w s) (nextW w p s)) : juntoref17_Exchange.C w p s K := by
 have hn2 := (show n ≤ 13 by have := hw.set.2.2.1; omega)
 have hr0 := hw.r0; have hr1 := hw.r1
 have hsent : ∀ k, k ≤ n → (w.Sent ++ sentF w p s n k).length ≤ 3000000 := fun k hk => by
   have h1 : (sentF w p s n k).length ≤ k * (n + 1) := flat_le fun c => sentRow_le w p s c n
   have h3 : k * (n + 1) ≤ 13 * 14 := Nat.mul_le_mul (by omega) (by omega)
   rw [List.length_append]
   omega
 refine juntoref17_Exchange.q ?_
 unfold juntoref17_Exchange.Q
 rw [hn]
 simp only [Int.toNat_natCast]
 refine ⟨⟨MakeOk.of (by omega) (by omega), MakeOk.of (by omega) (by omega), ?_⟩, MakeOk.of (by omega) (by omega), MakeOk.of (by omega) (by omega), ?_⟩
 · refine LoopQ.rangeS n (fun j s => s = tab n fun i => if i < j then List.replicate n ([] : List Nat) else []) (tab_fill0 n (fun _ => List.replicate n ([] : List Nat)) []) (by omega) ?_ ?_
   · rintro j _ next hj rfl hnx
     refine ctd (by dsimp only; omega) ⟨MakeOk.of (by omega) (by omega), by dsimp only; omega, by dsimp only; omega, hnx _ ?_⟩
     dsimp only [Int.toNat_natCast]
     rw [tab_fill (g := fun _ => List.replicate n ([] : List Nat))]
   · rintro _ next rfl
     refine cfd (by dsimp only; omega) ⟨AppOk.big (by rw [List.nil_append]; omega), ?_⟩
     dsimp only
     rw [tab_filln n (fun _ => List.replicate n ([] : List Nat)), ← tab_rep, cameT_start (w := w) (p := p)]
     refine LoopQ.upto n (fun b t => t.1 = w.Sent ++ sentF w p s n b ∧ t.2.1 = (b : Int) + 1 ∧ t.2.2.1 = cameT w p n b 0 ∧ t.2.2.2 = tab n fun c => if c < b then heardF w s c else []) ⟨by simp [sentF, flat], rfl, rfl, tab_fill0 n _ _⟩ ?_
     rintro b ⟨t1, t2, t3, t4⟩ next hb ⟨h1, h2, h3, h4⟩ hnx
     dsimp only at h1 h2 h3 h4 ⊢
     subst h1 h2 h3 h4
     by_cases h : b < n
     · refine ctd (by omega) ?_
       rw [wi64 (x := (b : Int) + 1 - 1) (by omega) (by omega), show (b : Int) + 1 - 1 = (b : Int) by omega, wi64 (x := (b : Int) + 1 + 1) (by omega) (by omega), wi64 (x := w.Round + 1) (by omega) (by omega)]
       simp only [Int.toNat_natCast]
       obtain ⟨y, hy⟩ : ∃ y, s[b]? = some y := get_some (by omega)
       refine ⟨by omega, y, hy, juntoref17_Act_c hr0 hr1 hA ?_⟩
       have eh : actOf w.Acts (w.Round + 1) ((b : Int) + 1) 0 y = heardF w s b := by unfold heardF; rw [pay_get hy]
       rw [eh, tab_fill (g := heardF w s)]
       have get : (tab n fun c => if c < b + 1 then heardF w s c else [])[b]? = some (heardF w s b) := by rw [tab_get _ h, if_pos (by omega)]
       have fin : ∀ m : Int, next (w.Sent ++ sentF w p s n (b + 1), ((b : Int) + 1 + 1), cameT w p n (b + 1) 0, tab n fun c => if c < b + 1 then heardF w s c else []) := fun _ => hnx h _ ⟨rfl, by dsimp only; omega, rfl, rfl⟩
       have srow : sentRow w p s b 0 = one (w.Round + 1) ((b : Int) + 1) 0 (heardF w s b) := by unfold sentRow; rw [show flat 0 _ = ([] : List TSent) from rfl, List.append_nil]
       refine ⟨by omega, by omega, by omega, by omega, _, get, cnd (fun h0 => ?_) (fun h0 => ?_)⟩
       · refine ⟨by omega, by omega, _, get, AppOk.big ?_, ?_⟩
         · rw [List.length_append]; have := hsent b (by omega); simp only [List.length_cons, List.length_nil]; omega
         · have eS : w.Sent ++ sentF w p s n b ++ [(⟨w.Round + 1, (b : Int) + 1, 0, heardF w s b⟩ : TSent)] = w.Sent ++ sentF w p s n b ++ sentRow w p s b 0 := by
             rw [srow, one, if_neg]
             rintro (e1 | e1)
             · omega
             · rw [e1] at h0; simp at h0
           have := exch_in (s := s) (J := fun t => next (t.1, ((b : Int) + 1 + 1), t.2.2, tab n fun c => if c < b + 1 then heardF w s c else [])) hw hn hp hA hS h rfl eS rfl fin
           rw [hn, wi64 (x := (b : Int) + 1 - 1) (by omega) (by omega), show (b : Int) + 1 - 1 = (b : Int) by omega, wi64 (x := w.Round + 1) (by omega) (by omega)] at this
           simp only [Int.toNat_natCast] at this
           exact this
       · have eS : w.Sent ++ sentF w p s n b = w.Sent ++ sentF w p s n b ++ sentRow w p s b 0 := by
           rw [srow, one, if_pos (.inr (List.eq_nil_of_length_eq_zero (by omega))), List.append_nil]
         have := exch_in (s := s) (J := fun t => next (t.1, ((b : Int) + 1 + 1), t.2.2, tab n fun c => if c < b + 1 then heardF w s c else [])) hw hn hp hA hS h rfl eS rfl fin
         rw [hn, wi64 (x := (b : Int) + 1 - 1) (by omega) (by omega), show (b : Int) + 1 - 1 = (b : Int) by omega, wi64 (x := w.Round + 1) (by omega) (by omega)] at this
         simp only [Int.toNat_natCast] at this
         exact this
     · obtain rfl : b = n := by omega
       refine cfd (by omega) ?_
       rw [wi64 (x := w.Round + 1) (by omega) (by omega), tab_filln b (heardF w s), cameT_end hn]
       have e : w.Setup.N.toNat = b := by omega
       unfold nextW withSent heards at k
       rw [e] at k
       exact k
 · refine LoopQ.rangeS n (fun j s => s = tab n fun i => if i < j then List.replicate n ([] : List Nat) else []) (tab_fill0 n (fun _ => List.replicate n ([] : List Nat)) []) (by omega) ?_ ?_
   · rintro j _ next hj rfl hnx
     refine ctd (by dsimp only; omega) ⟨MakeOk.of (by omega) (by omega), by dsimp only; omega, by dsimp only; omega, hnx _ ?_⟩
     dsimp only [Int.toNat_natCast]
     rw [tab_fill (g := fun _ => List.replicate n ([] : List Nat))]
   · rintro _ next rfl
     refine cfd (by dsimp only; omega) ⟨AppOk.big (by rw [List.nil_append]; omega), ?_⟩
     dsimp only
     rw [tab_filln n (fun _ => List.replicate n ([] : List Nat)), ← tab_rep, cameT_start (w := w) (p := p)]
     refine LoopQ.upto n (fun b t => t.1 = w.Sent ++ sentF w p s n b ∧ t.2.1 = (b : Int) + 1 ∧ t.2.2.2 = cameT w p n b 0 ∧ t.2.2.1 = tab n fun c => if c < b then heardF w s c else []) ⟨by simp [sentF, flat], rfl, rfl, tab_fill0 n _ _⟩ ?_
     rintro b ⟨t1, t2, t3, t4⟩ next hb ⟨h1, h2, h4, h3⟩ hnx
     dsimp only at h1 h2 h3 h4 ⊢
     subst h1 h2 h3 h4
     by_cases h : b < n
     · refine ctd (by omega) ?_
       rw [wi64 (x := (b : Int) + 1 - 1) (by omega) (by omega), show (b : Int) + 1 - 1 = (b : Int) by omega, wi64 (x := (b : Int) + 1 + 1) (by omega) (by omega), wi64 (x := w.Round + 1) (by omega) (by omega)]
       simp only [Int.toNat_natCast]
       obtain ⟨y, hy⟩ : ∃ y, s[b]? = some y := get_some (by omega)
       refine ⟨by omega, y, hy, juntoref17_Act_c hr0 hr1 hA ?_⟩
       have eh : actOf w.Acts (w.Round + 1) ((b : Int) + 1) 0 y = heardF w s b := by unfold heardF; rw [pay_get hy]
       rw [eh, tab_fill (g := heardF w s)]
       have get : (tab n fun c => if c < b + 1 then heardF w s c else [])[b]? = some (heardF w s b) := by rw [tab_get _ h, if_pos (by omega)]
       have fin : ∀ m : Int, next (w.Sent ++ sentF w p s n (b + 1), ((b : Int) + 1 + 1), (tab n fun c => if c < b + 1 then heardF w s c else []), cameT w p n (b + 1) 0) := fun _ => hnx h _ ⟨rfl, by dsimp only; omega, rfl, rfl⟩
       have srow : sentRow w p s b 0 = one (w.Round + 1) ((b : Int) + 1) 0 (heardF w s b) := by unfold sentRow; rw [show flat 0 _ = ([] : List TSent) from rfl, List.append_nil]
       refine ⟨by omega, by omega, by omega, by omega, _, get, cnd (fun h0 => ?_) (fun h0 => ?_)⟩
       · refine ⟨by omega, by omega, _, get, AppOk.big ?_, ?_⟩
         · rw [List.length_append]; have := hsent b (by omega); simp only [List.length_cons, List.length_nil]; omega
         · have eS : w.Sent ++ sentF w p s n b ++ [(⟨w.Round + 1, (b : Int) + 1, 0, heardF w s b⟩ : TSent)] = w.Sent ++ sentF w p s n b ++ sentRow w p s b 0 := by
             rw [srow, one, if_neg]
             rintro (e1 | e1)
             · omega
             · rw [e1] at h0; simp at h0
           have := exch_in (s := s) (J := fun t => next (t.1, ((b : Int) + 1 + 1), (tab n fun c => if c < b + 1 then heardF w s c else []), t.2.2)) hw hn hp hA hS h rfl eS rfl fin
           rw [hn, wi64 (x := (b : Int) + 1 - 1) (by omega) (by omega), show (b : Int) + 1 - 1 = (b : Int) by omega, wi64 (x := w.Round + 1) (by omega) (by omega)] at this
           simp only [Int.toNat_natCast] at this
           exact this
       · have eS : w.Sent ++ sentF w p s n b = w.Sent ++ sentF w p s n b ++ sentRow w p s b 0 := by
           rw [srow, one, if_pos (.inr (List.eq_nil_of_length_eq_zero (by omega))), List.append_nil]
         have := exch_in (s := s) (J := fun t => next (t.1, ((b : Int) + 1 + 1), (tab n fun c => if c < b + 1 then heardF w s c else []), t.2.2)) hw hn hp hA hS h rfl eS rfl fin
         rw [hn, wi64 (x := (b : Int) + 1 - 1) (by omega) (by omega), show (b : Int) + 1 - 1 = (b : Int) by omega, wi64 (x := w.Round + 1) (by omega) (by omega)] at this
         simp only [Int.toNat_natCast] at this
         exact this
     · obtain rfl : b = n := by omega
       refine cfd (by omega) ?_
       rw [wi64 (x := w.Round + 1) (by omega) (by omega), tab_filln b (heardF w s), cameT_end hn]
       have e : w.Setup.N.toNat = b := by omega
       unfold nextW withSent heards at k
       rw [e] at k
       exact k
theorem juntoref17_Nothing_c {n : Nat} (hn : n ≤ 1000) {K : List (List (List Nat)) → List (List Nat) → Prop} (k : K (List.replicate n (List.replicate n [])) (List.replicate n [])) : juntoref17_Nothing.C n K := by
 refine juntoref17_Nothing.q ?_
 unfold juntoref17_Nothing.Q
 simp only [Int.toNat_natCast]
 refine ⟨MakeOk.of (by omega) (by omega), LoopQ.rangeS n (fun j s => s = tab n fun i => if i < j then List.replicate n ([] : List Nat) else []) (tab_fill0 n (fun _ => List.replicate n ([] : List Nat)) []) (by omega) ?_ ?_⟩
 · rintro j _ next hj rfl hnx
   refine ctd (by dsimp only; omega) ⟨MakeOk.of (by omega) (by omega), by dsimp only; omega, by dsimp only; omega, hnx _ ?_⟩
   dsimp only [Int.toNat_natCast]
   rw [tab_fill (g := fun _ => List.replicate n ([] : List Nat))]
 · rintro _ next rfl
   refine cfd (by dsimp only; omega) ⟨MakeOk.of (by omega) (by omega), ?_⟩
   dsimp only
   rw [tab_filln n (fun _ => List.replicate n ([] : List Nat)), ← tab_rep]
   exact k
theorem same01 {a b : List Nat} {K : Bool → Prop} (k : K (decide (a = b))) : juntoref01_Same.C a b K :=
 fun Z H A n c hn f => juntoref01_Same_c (Nat.lt_of_le_of_lt f.lt (by decide)) k Z H A n c hn f
theorem samePay {a b : List (List Nat)} (h : a = b) {K : Bool → Prop} (k : K true) : juntoref17_SamePayloads.C a b K := by
 subst h
 intro Z H A n c hn f
 have hl := f.lt47
 revert Z H A n c hn f
 refine juntoref17_SamePayloads.q (cf (bne_f rfl) ?_)
 refine LoopQ.range a.length (fun _ => True) trivial (by omega) ?_ ?_
 · intro j next hj _ hnx
   obtain ⟨x, hx⟩ := get_some hj
   refine ctd (by omega) ⟨by omega, x, hx, by omega, x, hx, same01 ?_⟩
   rw [decide_eq_true rfl]
   exact cf rfl (hnx trivial)
 · intro next _
   exact cfd (by omega) k
theorem sameSent {a b : List TSent} (h : a = b) {K : Bool → Prop} (k : K true) : juntoref17_SameSent.C a b K := by
 subst h
 intro Z H A n c hn f
 have hl := f.lt47
 revert Z H A n c hn f
 refine juntoref17_SameSent.q (cf (bne_f rfl) ?_)
 refine LoopQ.range a.length (fun _ => True) trivial (by omega) ?_ ?_
 · intro j next hj _ hnx
   obtain ⟨x, hx⟩ := get_some hj
   refine ctd (by omega) ⟨by omega, x, hx, by omega, x, hx, cf (bne_f rfl) ⟨by omega, x, hx, by omega, x, hx, cf (bne_f rfl) ⟨by omega, x, hx, by omega, x, hx, cf (bne_f rfl) ⟨by omega, x, hx, by omega, x, hx, same01 ?_⟩⟩⟩⟩
   rw [decide_eq_true rfl]
   exact cf rfl (hnx trivial)
 · intro next _
   exact cfd (by omega) k
theorem sameInts {a b : List Int} (h : a = b) {K : Bool → Prop} (k : K true) : juntoref17_SameInts.C a b K :=
 fun Z H A n c hn f => juntoref17_SameInts_c (Nat.lt_of_le_of_lt f.lt (by decide)) (by rw [decide_eq_true h]; exact k) Z H A n c hn f
theorem sameW {a b : TWorld} (h : a = b) {K : Bool → Prop} (k : K true) : juntoref17_Same.C a b K := by
 subst h
 intro Z H v hv A1 n1 c1 hn1 f1 A2 n2 c2 hn2 f2
 have hl := f2.lt47
 revert Z H v hv A1 n1 c1 hn1 f1 A2 n2 c2 hn2 f2
 refine juntoref17_Same.q (cf (by simp) (sameInts rfl (cf rfl (cf (bne_f rfl) (samePay rfl (cf rfl (cf (bne_f rfl) ?_)))))))
 refine LoopQ.range a.Acts.length (fun _ => True) trivial (by omega) ?_ ?_
 · intro j next hj _ hnx
   obtain ⟨x, hx⟩ := get_some hj
   refine ctd (by omega) ⟨by omega, x, hx, by omega, x, hx, cf (bne_f rfl) (cf (bne_f rfl) (cf (bne_f rfl) (cf (by cases x.Silent <;> rfl) (same01 ?_))))⟩
   rw [decide_eq_true rfl]
   exact cf rfl (hnx trivial)
 · intro next _
   exact cfd (by omega) (sameSent rfl k)
theorem zeroC {K : Bool → Prop} (k : K true) : juntoref17_Zero.C zeroW K := by
 refine juntoref17_Zero.q (ct rfl (ct ?_ k))
 rfl
end Go.Proofs.Ytpfpnkaeoedeiaa.Pl
end
section
namespace Go.King
def lexLt : List Nat → List Nat → Bool
 | _, [] => false
 | [], _ :: _ => true
 | a :: l, b :: m => if a = b then lexLt l m else decide (a < b)
theorem lexLt_irrefl : ∀ l : List Nat, lexLt l l = false
 | [] => rfl
 | a :: l => by simp [lexLt, lexLt_irrefl l]
theorem lexLt_total : ∀ l m : List Nat, lexLt l m = false → lexLt m l = false → l = m
 | [], [], _, _ => rfl
 | [], b :: m, h, _ => by simp [lexLt] at h
 | a :: l, [], _, h => by simp [lexLt] at h
 | a :: l, b :: m, h1, h2 => by
   unfold lexLt at h1 h2
   by_cases e : a = b
   · subst e
     rw [if_pos rfl] at h1 h2
     rw [lexLt_total l m h1 h2]
   · rw [if_neg e] at h1
     rw [if_neg (fun h => e h.symm)] at h2
     simp at h1 h2
     omega
theorem lexLt_trans : ∀ l m k : List Nat, lexLt l m = true → lexLt m k = true → lexLt l k = true
 | l, [], k, h, _ => by cases l <;> simp [lexLt] at h
 | l, b :: m, [], _, h => by simp [lexLt] at h
 | [], b :: m, c :: k, _, _ => by simp [lexLt]
 | a :: l, b :: m, c :: k, h1, h2 => by
   unfold lexLt at h1 h2 ⊢
   by_cases e1 : a = b
   · subst e1
     rw [if_pos rfl] at h1
     by_cases e2 : a = c
     · subst e2
       rw [if_pos rfl] at h2 ⊢
       exact lexLt_trans l m k h1 h2
     · rw [if_neg e2] at h2 ⊢; exact h2
   · rw [if_neg e1] at h1
     by_cases e2 : b = c
     · subst e2; rw [if_neg e1]; exact h1
     · rw [if_neg e2] at h2
       simp at h1 h2
       rw [if_neg (by omega)]
       simp; omega
theorem lexLt_ntrans (l m k : List Nat) (h1 : lexLt l m = false) (h2 : lexLt m k = false) : lexLt l k = false := by
 cases h : lexLt l k with
 | false => rfl
 | true =>
   cases h3 : lexLt m l with
   | true => rw [lexLt_trans m l k h3 h] at h2; exact h2
   | false => rw [lexLt_total l m h1 h3, h2] at h; exact nomatch h
theorem lexLt_asymm {l m : List Nat} (h : lexLt l m = true) : lexLt m l = false := by
 cases h2 : lexLt m l with
 | false => rfl
 | true => exact absurd (lexLt_trans l m l h h2) (by rw [lexLt_irrefl]; decide)
structure Best (l : List (List Nat)) (b : List Nat) (m : Nat) : Prop where
 cnt : ∀ x ∈ l, l.count x ≤ m ∧ (l.count x = m → lexLt x b = false)
 is : (l = [] ∧ b = [] ∧ m = 0) ∨ (b ∈ l ∧ l.count b = m)
theorem Best.uniq {l : List (List Nat)} {b c : List Nat} {m k : Nat} (h : Best l b m) (g : Best l c k) : b = c ∧ m = k := by
 rcases h.is with ⟨rfl, rfl, rfl⟩ | ⟨hb, hm⟩
 · rcases g.is with ⟨_, rfl, rfl⟩ | ⟨hc, _⟩
   · exact ⟨rfl, rfl⟩
   · simp at hc
 · rcases g.is with ⟨rfl, _⟩ | ⟨hc, hk⟩
   · simp at hb
   · obtain ⟨h1, h2⟩ := h.cnt c hc
     obtain ⟨g1, g2⟩ := g.cnt b hb
     have e : m = k := by omega
     exact ⟨lexLt_total _ _ (g2 (by omega)) (h2 (by omega)), e⟩
theorem Best.perm {l s : List (List Nat)} {b : List Nat} {m : Nat} (h : Best l b m) (p : l.Perm s) : Best s b m where
 cnt x hx := by rw [← p.count_eq x]; exact h.cnt x (p.mem_iff.2 hx)
 is := by
   rcases h.is with ⟨rfl, rfl, rfl⟩ | ⟨hb, hm⟩
   · exact .inl ⟨List.nil_perm.1 p, rfl, rfl⟩
   · exact .inr ⟨p.mem_iff.1 hb, by rw [← p.count_eq]; exact hm⟩
theorem Best.nil : Best [] [] 0 := ⟨fun _ h => by simp at h, .inl ⟨rfl, rfl, rfl⟩⟩
theorem Best.pos {l : List (List Nat)} {b : List Nat} {m : Nat} (h : Best l b m) (hl : l ≠ []) : b ∈ l ∧ l.count b = m := by
 rcases h.is with ⟨e, _⟩ | h
 · exact absurd e hl
 · exact h
theorem Best.le {l : List (List Nat)} {b : List Nat} {m : Nat} (h : Best l b m) : m ≤ l.length := by
 rcases h.is with ⟨_, _, rfl⟩ | ⟨_, rfl⟩
 · exact Nat.zero_le _
 · exact List.count_le_length
structure Half (l Q : List (List Nat)) (b : List Nat) (m : Nat) : Prop where
 cnt : ∀ x ∈ Q, l.count x ≤ m ∧ (l.count x = m → lexLt x b = false)
 is : (Q = [] ∧ b = [] ∧ m = 0) ∨ (b ∈ l ∧ l.count b = m)
theorem Half.nil (l : List (List Nat)) : Half l [] [] 0 := ⟨fun _ h => by simp at h, .inl ⟨rfl, rfl, rfl⟩⟩
theorem Half.done {l : List (List Nat)} {b : List Nat} {m : Nat} (h : Half l l b m) : Best l b m := ⟨h.cnt, h.is⟩
theorem Half.keep {l Q : List (List Nat)} {b x : List Nat} {m : Nat} (h : Half l Q b m) (hx : x ∈ l) (h1 : l.count x ≤ m) (h2 : l.count x = m → lexLt x b = false) : Half l (Q ++ [x]) b m where
 cnt y hy := by
   rcases List.mem_append.1 hy with hy | hy
   · exact h.cnt y hy
   · rw [List.mem_singleton.1 hy]; exact ⟨h1, h2⟩
 is := by
   rcases h.is with ⟨rfl, rfl, rfl⟩ | h
   · have := List.count_pos_iff.2 hx; omega
   · exact .inr h
theorem Half.put {l Q : List (List Nat)} {b x : List Nat} {m : Nat} (h : Half l Q b m) (hx : x ∈ l) (h1 : m < l.count x ∨ (l.count x = m ∧ lexLt x b = true)) : Half l (Q ++ [x]) x (l.count x) where
 cnt y hy := by
   rcases List.mem_append.1 hy with hy | hy
   · obtain ⟨g1, g2⟩ := h.cnt y hy
     refine ⟨by omega, fun e => ?_⟩
     rcases h1 with h1 | ⟨h1, h3⟩
     · omega
     · exact lexLt_ntrans _ _ _ (g2 (by omega)) (lexLt_asymm h3)
   · rw [List.mem_singleton.1 hy]; exact ⟨Nat.le_refl _, fun _ => lexLt_irrefl _⟩
 is := .inr ⟨hx, rfl⟩
def bestStep (l : List (List Nat)) (a : List Nat × Nat) (x : List Nat) : List Nat × Nat := if a.2 < l.count x ∨ (l.count x = a.2 ∧ lexLt x a.1 = true) then (x, l.count x) else a
def bestF (l : List (List Nat)) : List Nat × Nat := l.foldl (bestStep l) ([], 0)
theorem Half.step {l Q : List (List Nat)} {a : List Nat × Nat} {x : List Nat} (h : Half l Q a.1 a.2) (hx : x ∈ l) : Half l (Q ++ [x]) (bestStep l a x).1 (bestStep l a x).2 := by
 unfold bestStep
 by_cases c : a.2 < l.count x ∨ (l.count x = a.2 ∧ lexLt x a.1 = true)
 · rw [if_pos c]; exact h.put hx c
 · rw [if_neg c]
   exact h.keep hx (by omega) fun e => by
     cases g : lexLt x a.1
     · rfl
     · exact absurd (.inr ⟨e, g⟩) c
theorem Half.fold {l : List (List Nat)} : ∀ (R Q : List (List Nat)) (a : List Nat × Nat), Half l Q a.1 a.2 → (∀ x ∈ R, x ∈ l) → Half l (Q ++ R) (R.foldl (bestStep l) a).1 (R.foldl (bestStep l) a).2
 | [], Q, a, h, _ => by rw [List.append_nil]; exact h
 | x :: R, Q, a, h, hR => by
   have := Half.fold R (Q ++ [x]) (bestStep l a x) (h.step (hR x (by simp))) fun y hy => hR y (by simp [hy])
   rw [List.append_assoc] at this
   exact this
theorem bestF_best (l : List (List Nat)) : Best l (bestF l).1 (bestF l).2 := by
 have := Half.fold l [] ([], 0) (Half.nil l) fun x hx => hx
 exact Half.done this
theorem Best.eq {l : List (List Nat)} {b : List Nat} {m : Nat} (h : Best l b m) : bestF l = (b, m) := by
 obtain ⟨h1, h2⟩ := (bestF_best l).uniq h
 exact Prod.ext h1 h2
def OrdL (s : List (List Nat)) : Prop := s.Pairwise fun x y => lexLt y x = false
theorem Best.run {s : List (List Nat)} (ho : OrdL s) {i k : Nat} {x b : List Nat} {m : Nat} (h : Best (s.take i) b m) (hik : i < k) (hk : k ≤ s.length) (hx : ∀ j, i ≤ j → j < k → s[j]? = some x) (hn : x ∉ s.take i) :
   Best (s.take k) (if k - i > m then x else b) (if k - i > m then k - i else m) := by
 have hsplit : s.take k = s.take i ++ List.replicate (k - i) x := by
   apply List.ext_getElem?
   intro j
   by_cases h1 : j < i
   · rw [List.getElem?_append_left (by simp; omega), List.getElem?_take_of_lt (by omega), List.getElem?_take_of_lt h1]
   · rw [List.getElem?_append_right (by simp; omega)]
     have : (s.take i).length = i := by simp; omega
     rw [this, List.getElem?_replicate]
     by_cases h2 : j < k
     · rw [List.getElem?_take_of_lt h2, hx j (by omega) h2, if_pos (by omega)]
     · rw [if_neg (by omega), List.getElem?_eq_none (by simp; omega)]
 have c0 : (s.take i).count x = 0 := List.count_eq_zero.2 hn
 have cx : (s.take k).count x = k - i := by rw [hsplit, List.count_append, c0, List.count_replicate_self]; omega
 have cy : ∀ y, y ≠ x → (s.take k).count y = (s.take i).count y := fun y hy => by
   rw [hsplit, List.count_append, List.count_replicate, if_neg (by simpa using fun e => hy e.symm)]; rfl
 have mx : x ∈ s.take k := List.count_pos_iff.1 (by omega)
 have my : ∀ y, y ∈ s.take k → y = x ∨ (y ≠ x ∧ y ∈ s.take i) := fun y hy => by
   by_cases e : y = x
   · exact .inl e
   · refine .inr ⟨e, ?_⟩
     have := List.count_pos_iff.2 hy
     rw [cy y e] at this
     exact List.count_pos_iff.1 this
 by_cases hc : k - i > m
 · rw [if_pos hc, if_pos hc]
   refine ⟨fun y hy => ?_, .inr ⟨mx, cx⟩⟩
   rcases my y hy with rfl | ⟨e, hy⟩
   · exact ⟨by omega, fun _ => lexLt_irrefl _⟩
   · have := (h.cnt y hy).1
     rw [cy y e]
     exact ⟨by omega, fun e => by omega⟩
 · rw [if_neg hc, if_neg hc]
   have hne : s.take i ≠ [] := fun e => by
     rcases h.is with ⟨_, _, rfl⟩ | ⟨hb, _⟩
     · omega
     · rw [e] at hb; simp at hb
   obtain ⟨hb, hm⟩ := h.pos hne
   have hbx : b ≠ x := fun e => hn (e ▸ hb)
   have hlt : lexLt x b = false := by
     obtain ⟨j, hj, e⟩ := List.mem_iff_getElem.1 hb
     have hj' : j < i := by simp at hj; omega
     have := List.pairwise_iff_getElem.1 ho j i (by omega) (by omega) hj'
     have e2 := hx i (Nat.le_refl _) hik
     rw [List.getElem?_eq_getElem (by omega)] at e2
     rw [Option.some.inj e2] at this
     rw [List.getElem_take] at e
     rw [e] at this
     exact this
   refine ⟨fun y hy => ?_, .inr ⟨?_, by rw [cy b hbx]; exact hm⟩⟩
   · rcases my y hy with rfl | ⟨e, hy⟩
     · exact ⟨by omega, fun _ => hlt⟩
     · rw [cy y e]; exact h.cnt y hy
   · rw [hsplit]; exact List.mem_append_left _ hb
theorem OrdL.new {s : List (List Nat)} (ho : OrdL s) {i k : Nat} {x y : List Nat} (hx : ∀ j, i ≤ j → j < k → s[j]? = some x) (hik : i < k) (hy : s[k]? = some y) (hne : y ≠ x) : y ∉ s.take k := by
 intro h
 obtain ⟨hk, ey⟩ := List.getElem?_eq_some_iff.1 hy
 obtain ⟨j, hj, e⟩ := List.mem_iff_getElem.1 h
 have hj' : j < k := by simp at hj; omega
 rw [List.getElem_take] at e
 have e2 := hx i (Nat.le_refl _) hik
 obtain ⟨hi', ei⟩ := List.getElem?_eq_some_iff.1 e2
 have o1 := List.pairwise_iff_getElem.1 ho i k hi' hk hik
 rw [ei, ey] at o1
 by_cases h1 : i ≤ j
 · have := hx j h1 hj'
   rw [List.getElem?_eq_getElem (by omega), e] at this
   exact hne (Option.some.inj this)
 · have o2 := List.pairwise_iff_getElem.1 ho j i (by omega) hi' (by omega)
   rw [ei, e] at o2
   exact hne (lexLt_total _ _ o1 o2)
def nOf (n : Nat) (c : Nat → Bool) : Nat := ((List.range n).filter c).length
theorem nOf_succ (n : Nat) (c : Nat → Bool) : nOf (n + 1) c = nOf n c + (if c n then 1 else 0) := by
 unfold nOf
 rw [List.range_succ, List.filter_append, List.length_append]
 by_cases h : c n <;> simp [h]
theorem nOf_or {c d e : Nat → Bool} : ∀ {n : Nat}, (∀ i, i < n → c i = true → d i = true ∨ e i = true) → nOf n c ≤ nOf n d + nOf n e
 | 0, _ => Nat.le_refl _
 | n + 1, h => by
   have := nOf_or (n := n) fun i hi => h i (by omega)
   rw [nOf_succ, nOf_succ, nOf_succ]
   by_cases hc : c n
   · rcases h n (by omega) hc with h | h
     · rw [if_pos hc, if_pos h]; split <;> omega
     · rw [if_pos hc, if_pos h]; split <;> omega
   · rw [if_neg hc]; split <;> split <;> omega
theorem nOf_two {c d : Nat → Bool} : ∀ {n : Nat}, (∀ i, i < n → c i = true → d i = false) → nOf n c + nOf n d ≤ n
 | 0, _ => Nat.le_refl _
 | n + 1, h => by
   have := nOf_two (n := n) fun i hi => h i (by omega)
   rw [nOf_succ, nOf_succ]
   by_cases hc : c n
   · rw [if_pos hc, if_neg (by rw [h n (by omega) hc]; decide)]; omega
   · rw [if_neg hc]; split <;> omega
theorem nOf_all {c : Nat → Bool} : ∀ {n : Nat}, (∀ i, i < n → c i = true) → nOf n c = n
 | 0, _ => rfl
 | n + 1, h => by rw [nOf_succ, nOf_all (n := n) fun i hi => h i (by omega), if_pos (h n (by omega))]
def rowK (n : Nat) (g : Nat → List Nat) : List (List Nat) := (List.range n).map g
theorem count_row (g : Nat → List Nat) (x : List Nat) : ∀ n, (rowK n g).count x = nOf n fun i => decide (g i = x)
 | 0 => rfl
 | n + 1 => by
   unfold rowK
   rw [List.range_succ, List.map_append, List.count_append, nOf_succ]
   have := count_row g x n
   unfold rowK at this
   rw [this]
   by_cases h : g n = x <;> simp [h]
structure Phase (n T : Nat) (bad : Nat → Bool) (king : Nat) (v : Nat → List Nat) (came : Nat → Nat → List Nat) (said : Nat → List Nat) (b : Nat → List Nat) (m : Nat → Nat) (u : Nat → List Nat) : Prop where
 big : 4 * T + 1 ≤ n
 few : nOf n bad ≤ T
 heard : ∀ i j, i < n → j < n → bad j = false → came i j = v j
 best : ∀ i, i < n → Best (rowK n (came i)) (b i) (m i)
 kings : bad king = false → ∀ i, i < n → said i = b king
 next : ∀ i, i < n → u i = if i ≠ king ∧ 2 * m i ≤ n + 2 * T then said i else b i
variable {n T : Nat} {bad : Nat → Bool} {king : Nat} {v : Nat → List Nat} {came : Nat → Nat → List Nat} {said : Nat → List Nat} {b : Nat → List Nat} {m : Nat → Nat} {u : Nat → List Nat}
theorem few_all (few : nOf n bad ≤ T) (P : Nat → Bool) (h : ∀ i, i < n → bad i = false → P i = true) : n ≤ nOf n P + T := by
 have h1 := nOf_or (n := n) (c := fun _ => true) (d := P) (e := bad) fun i hi _ => by
   cases e : bad i
   · exact .inl (h i hi e)
   · exact .inr rfl
 rw [nOf_all fun _ _ => rfl] at h1
 omega
theorem Phase.persist (h : Phase n T bad king v came said b m u) {x : List Nat} (hv : ∀ j, j < n → bad j = false → v j = x) : ∀ i, i < n → u i = x := fun i hi => by
 have big := h.big
 have c1 := few_all h.few (fun j => decide (came i j = x)) fun j hj hb => by rw [h.heard i j hi hj hb, hv j hj hb]; simp
 have c2 := count_row (came i) x n
 have hx : x ∈ rowK n (came i) := List.count_pos_iff.1 (by omega)
 obtain ⟨l1, _⟩ := (h.best i hi).cnt x hx
 obtain ⟨hb, hm⟩ := (h.best i hi).pos (fun e => by rw [e] at hx; simp at hx)
 have e : b i = x := by
   apply Decidable.byContradiction
   intro hne
   have := nOf_two (n := n) (c := fun j => decide (came i j = x)) (d := fun j => decide (came i j = b i)) fun j _ e => by
     rw [of_decide_eq_true e]; exact decide_eq_false fun e => hne e.symm
   have c3 := count_row (came i) (b i) n
   omega
 rw [h.next i hi, if_neg (by omega), e]
end Go.King
namespace Go.King
def cmpI (x y : Nat) : Int := if x < y then -1 else if y < x then 1 else 0
def cmpL : List Nat → List Nat → Int
 | [], [] => 0
 | [], _ :: _ => -1
 | _ :: _, [] => 1
 | a :: l, b :: m => if cmpI a b ≠ 0 then cmpI a b else cmpL l m
theorem cmpL_drop : ∀ (k : Nat) (l m : List Nat), (∀ j, j < k → l[j]? = m[j]?) → k ≤ l.length → k ≤ m.length → cmpL l m = cmpL (l.drop k) (m.drop k)
 | 0, l, m, _, _, _ => by simp
 | k + 1, [], m, _, h, _ => by simp at h
 | k + 1, a :: l, [], _, _, h => by simp at h
 | k + 1, a :: l, b :: m, h, h1, h2 => by
   have e : a = b := by simpa using h 0 (by omega)
   subst e
   have hc : cmpI a a = 0 := by simp [cmpI]
   show (if cmpI a a ≠ 0 then cmpI a a else cmpL l m) = _
   rw [if_neg (by rw [hc]; simp), cmpL_drop k l m (fun j hj => by simpa using h (j + 1) (by omega)) (by simpa using h1) (by simpa using h2)]
   rfl
theorem cmpL_ne {k : Nat} {l m : List Nat} {x y : Nat} (h : ∀ j, j < k → l[j]? = m[j]?) (hx : l[k]? = some x) (hy : m[k]? = some y) (hne : cmpI x y ≠ 0) : cmpL l m = cmpI x y := by
 obtain ⟨h1, e1⟩ := List.getElem?_eq_some_iff.1 hx
 obtain ⟨h2, e2⟩ := List.getElem?_eq_some_iff.1 hy
 rw [cmpL_drop k l m h (by omega) (by omega), List.drop_eq_getElem_cons h1, List.drop_eq_getElem_cons h2, e1, e2]
 simp only [cmpL]
 rw [if_pos hne]
theorem cmpL_end {l m : List Nat} (h : ∀ j, j < l.length → l[j]? = m[j]?) (hl : l.length ≤ m.length) : cmpL l m = if l.length < m.length then -1 else 0 := by
 rw [cmpL_drop l.length l m h (Nat.le_refl _) hl, List.drop_length]
 cases e : m.drop l.length with
 | nil =>
   have := congrArg List.length e
   rw [List.length_drop] at this
   simp at this
   rw [if_neg (by omega)]
   rfl
 | cons a t =>
   have := congrArg List.length e
   rw [List.length_drop] at this
   simp at this
   rw [if_pos (by omega)]
   rfl
theorem cmpL_stop {l m : List Nat} (h : ∀ j, j < m.length → l[j]? = m[j]?) (hl : m.length < l.length) : cmpL l m = 1 := by
 rw [cmpL_drop m.length l m h (by omega) (Nat.le_refl _), List.drop_length, List.drop_eq_getElem_cons hl]
 rfl
theorem cmpI_eq {x y : Nat} : cmpI x y = 0 ↔ x = y := by
 unfold cmpI
 by_cases h1 : x < y
 · rw [if_pos h1]; simp; omega
 · rw [if_neg h1]
   by_cases h2 : y < x
   · rw [if_pos h2]; simp; omega
   · rw [if_neg h2]; simp; omega
theorem cmpL_lt : ∀ l m : List Nat, decide (cmpL l m < 0) = lexLt l m
 | [], [] => rfl
 | [], _ :: _ => rfl
 | _ :: _, [] => rfl
 | a :: l, b :: m => by
   have ih := cmpL_lt l m
   unfold cmpL lexLt
   by_cases e : a = b
   · subst e
     rw [if_pos rfl, if_neg (by simp [cmpI]), ih]
   · have hc : cmpI a b ≠ 0 := fun h => e (cmpI_eq.1 h)
     rw [if_neg e, if_pos hc]
     unfold cmpI
     by_cases h : a < b
     · simp [h]
     · have : b < a := by omega
       simp [h, this]
end Go.King
end
section
set_option linter.unusedVariables false
namespace Go.Proofs.Ytpfpnkaeoedeiaa.Pl
open Go.Sx Go.Lf Go.Proofs.Ytpfpnkaeoedeiaa.Sh Go.Proofs.Ytpfpnkaeoedeiaa.Sp Go.King
def none' (n : Nat) : List (List Nat) := List.replicate n []
def sendP (n : Nat) (v : Nat → List Nat) (c : Nat → Bool) : List (List (List Nat)) := tab n fun i => tab n fun k => if i = k ∨ c i = true then v i else []
theorem sendP_sq (n : Nat) (v : Nat → List Nat) (c : Nat → Bool) : Sq n (sendP n v c) where
 len := tab_len _ _
 row i hi := by unfold sendP; rw [row_get (tab_get _ hi), tab_len]
theorem sendP_pay {n i k : Nat} {v : Nat → List Nat} {c : Nat → Bool} (hi : i < n) (hk : k < n) : pay (row (sendP n v c) i) k = if i = k ∨ c i = true then v i else [] := by
 unfold sendP; rw [row_get (tab_get _ hi), pay_get (tab_get _ hk)]
theorem next_round (w : TWorld) (p : List (List (List Nat))) (s : List (List Nat)) : (nextW w p s).Round = w.Round + 1 := rfl
theorem WOk.next {w : TWorld} (h : WOk w) (p : List (List (List Nat))) (s : List (List Nat)) (hr : w.Round + 1 ≤ 1048576) : WOk (nextW w p s) where
 set := h.set
 cor := h.cor
 ris := h.ris
 tap := h.tap
 r0 := by have := h.r0; rw [next_round]; omega
 r1 := hr
 act := h.act
 key := h.key
theorem sent_le {w : TWorld} {n : Nat} (hn : w.Setup.N = n) (hn2 : n ≤ 13) (p : List (List (List Nat))) (s : List (List Nat)) : (nextW w p s).Sent.length ≤ w.Sent.length + 200 := by
 have e : w.Setup.N.toNat = n := by omega
 show (w.Sent ++ sentF w p s w.Setup.N.toNat w.Setup.N.toNat).length ≤ _
 rw [List.length_append, e]
 have := flat_le (n := n) (m := n + 1) (g := fun b => sentRow w p s b n) fun b => sentRow_le w p s b n
 have h2 : n * (n + 1) ≤ 13 * 14 := Nat.mul_le_mul hn2 (by omega)
 unfold sentF
 omega
def bad (w : TWorld) (i : Nat) : Bool := decide ((i : Int) + 1 ∈ w.Corrupted)
theorem bad_few {w : TWorld} {tt : Nat} (hw : WOk w) (ht : w.Setup.T_ = tt) (n : Nat) : nOf n (bad w) ≤ tt := by
 have nd : (((List.range n).filter (bad w)).map fun i : Nat => (i : Int) + 1).Nodup := List.Pairwise.map _ (fun i j h e => h (by omega)) (List.nodup_range.filter (bad w))
 have := sub_len' (C := w.Corrupted) nd fun x hx => by
   obtain ⟨i, hi, rfl⟩ := List.mem_map.1 hx
   exact of_decide_eq_true (List.mem_filter.1 hi).2
 rw [List.length_map] at this
 have := hw.cor
 unfold nOf
 omega
def chose (w : TWorld) (n : Nat) (v : Nat → List Nat) (i : Nat) : List Nat × Nat := bestF (row (cames w (sendP n v fun _ => true)) i)
def mid (w : TWorld) (n : Nat) (v : Nat → List Nat) : TWorld := nextW w (sendP n v fun _ => true) (none' n)
def kingP (w : TWorld) (n : Nat) (v : Nat → List Nat) (k : Nat) : List (List (List Nat)) := sendP n (fun i => (chose w n v i).1) fun i => decide (i = k)
def endW (w : TWorld) (n : Nat) (v : Nat → List Nat) (k : Nat) : TWorld := nextW (mid w n v) (kingP w n v k) (none' n)
def endV (w : TWorld) (n tt : Nat) (v : Nat → List Nat) (k i : Nat) : List Nat :=
 if i ≠ k ∧ 2 * (chose w n v i).2 ≤ n + 2 * tt then pay (row (cames (mid w n v) (kingP w n v k)) i) k else (chose w n v i).1
theorem phase_of {w : TWorld} {n tt : Nat} (hw : WOk w) (hr : w.Round + 2 ≤ 1048576) (hn : w.Setup.N = n) (ht : w.Setup.T_ = tt) (v : Nat → List Nat) {k : Nat} (hk : k < n) :
   Phase n tt (bad w) k v (fun i j => cameF w (sendP n v fun _ => true) i j) (fun i => cameF (mid w n v) (kingP w n v k) i k) (fun i => (chose w n v i).1) (fun i => (chose w n v i).2) (endV w n tt v k) where
 big := by have := hw.set.2.2.2.2.1; omega
 few := bad_few hw ht n
 heard i j hi hj hb := by
   show actOf _ _ _ _ _ = _
   rw [actOf_honest hw (of_decide_eq_false hb), sendP_pay hj hi, if_pos (.inr rfl)]
 best i hi := by
   have e : row (cames w (sendP n v fun _ => true)) i = rowK n fun j => cameF w (sendP n v fun _ => true) i j := by
     have hN : w.Setup.N.toNat = n := by omega
     unfold cames
     rw [hN, row_get (tab_get _ hi)]
     rfl
   rw [← e]
   exact bestF_best _
 kings hb i hi := by
   show actOf _ _ _ _ _ = _
   have hw' : WOk (mid w n v) := hw.next _ _ (by omega)
   rw [actOf_honest hw' (of_decide_eq_false hb)]
   unfold kingP
   rw [sendP_pay hk hi, if_pos (.inr (by simp))]
 next i hi := by
   unfold endV
   rw [cames_pay (w := mid w n v) hn hi hk]
def runK (w : TWorld) (n tt : Nat) (v : Nat → List Nat) : Nat → TWorld × (Nat → List Nat)
 | 0 => (w, v)
 | k + 1 => (endW (runK w n tt v k).1 n (runK w n tt v k).2 k, endV (runK w n tt v k).1 n tt (runK w n tt v k).2 k)
structure RunOk (w w' : TWorld) (k : Nat) : Prop where
 wok : WOk w'
 set : w'.Setup = w.Setup
 cor : w'.Corrupted = w.Corrupted
 act : w'.Acts = w.Acts
 tap : w'.Tapes = w.Tapes
 rnd : w'.Round = w.Round + 2 * k
 snt : w'.Sent.length ≤ w.Sent.length + 400 * k
theorem run_ok {w : TWorld} {n tt : Nat} (hw : WOk w) (hn : w.Setup.N = n) (v : Nat → List Nat) : ∀ k : Nat, w.Round + 2 * k ≤ 1048576 → RunOk w (runK w n tt v k).1 k
 | 0, _ => ⟨hw, rfl, rfl, rfl, rfl, by show w.Round = _; omega, Nat.le_refl _⟩
 | k + 1, h => by
   have ih := run_ok hw hn v k (by omega) (tt := tt)
   have hr := ih.rnd
   have hn2 : n ≤ 13 := by have := hw.set.2.2.1; omega
   have h1 : WOk (mid (runK w n tt v k).1 n (runK w n tt v k).2) := ih.wok.next _ _ (by omega)
   refine ⟨h1.next _ _ ?_, ih.set, ih.cor, ih.act, ih.tap, ?_, ?_⟩
   · show (runK w n tt v k).1.Round + 1 + 1 ≤ _; omega
   · show (runK w n tt v k).1.Round + 1 + 1 = _; omega
   · have e := ih.set
     have s1 := sent_le (w := (runK w n tt v k).1) (n := n) (by rw [e]; exact hn) hn2 (sendP n (runK w n tt v k).2 fun _ => true) (none' n)
     have s2 := sent_le (w := mid (runK w n tt v k).1 n (runK w n tt v k).2) (n := n) (by show (runK w n tt v k).1.Setup.N = _; rw [e]; exact hn) hn2 (kingP (runK w n tt v k).1 n (runK w n tt v k).2 k) (none' n)
     have s3 := ih.snt
     show (endW (runK w n tt v k).1 n (runK w n tt v k).2 k).Sent.length ≤ _
     unfold endW
     have : (mid (runK w n tt v k).1 n (runK w n tt v k).2).Sent.length ≤ (runK w n tt v k).1.Sent.length + 200 := s1
     omega
theorem bad_run {w w' : TWorld} {k : Nat} (h : RunOk w w' k) : bad w' = bad w := by unfold bad; rw [h.cor]
theorem run_persist {w : TWorld} {n tt : Nat} (hw : WOk w) (hn : w.Setup.N = n) (ht : w.Setup.T_ = tt) (v : Nat → List Nat) {x : List Nat} {a : Nat} (han : a ≤ n) : ∀ k : Nat, a + k ≤ n → w.Round + 2 * (a + k) ≤ 1048576 →
   (∀ i, i < n → bad w i = false → (runK w n tt v a).2 i = x) → ∀ i, i < n → bad w i = false → (runK w n tt v (a + k)).2 i = x
 | 0, _, _, h => h
 | k + 1, hk, hr, h => fun i hi hb => by
   have ih := run_persist hw hn ht v han k (by omega) (by omega) h
   have ok := run_ok hw hn v (a + k) (by omega) (tt := tt)
   have hr' := ok.rnd
   have e := ok.set
   have P := phase_of ok.wok (by omega) (by rw [e]; exact hn) (by rw [e]; exact ht) (runK w n tt v (a + k)).2 (k := a + k) (by omega)
   rw [bad_run ok] at P
   exact P.persist ih i hi
theorem run_valid {w : TWorld} {n tt : Nat} (hw : WOk w) (hn : w.Setup.N = n) (ht : w.Setup.T_ = tt) (hr : w.Round + 2 * (tt + 1 : Nat) ≤ 1048576) (v : Nat → List Nat) {x : List Nat} (h : ∀ i, i < n → bad w i = false → v i = x) :
   ∀ i, i < n → bad w i = false → (runK w n tt v (tt + 1)).2 i = x := by
 have hbig : 4 * tt + 1 ≤ n := by have := hw.set.2.2.2.2.1; omega
 have := run_persist hw hn ht v (x := x) (a := 0) (by omega) (tt + 1) (by omega) (by omega) h
 rw [Nat.zero_add] at this
 exact this
def Off (n : Nat) (p q : List (List (List Nat))) : Prop := ∀ b a, b < n → a < n → a ≠ b → pay (row p b) a = pay (row q b) a
theorem Off.came {w : TWorld} {n : Nat} {p q : List (List (List Nat))} (h : Off n p q) {a b : Nat} (ha : a < n) (hb : b < n) (hne : a ≠ b) : cameF w p a b = cameF w q a b := by
 unfold cameF; rw [h b a hb ha hne]
theorem Off.next {w : TWorld} {n : Nat} {p q : List (List (List Nat))} (hn : w.Setup.N = n) (h : Off n p q) (s : List (List Nat)) : nextW w p s = nextW w q s := by
 have e : w.Setup.N.toNat = n := by omega
 unfold nextW
 rw [e]
 congr 2
 unfold sentF
 refine flat_ext fun b hb => ?_
 unfold sentRow
 congr 1
 refine flat_ext fun a ha => ?_
 by_cases hab : a = b
 · subst hab
   unfold one
   rw [if_pos (.inl rfl), if_pos (.inl rfl)]
 · rw [h.came ha hb hab]
def sendR (n : Nat) (v : Nat → List Nat) (k : Nat) : List (List (List Nat)) := tab n fun i => tab n fun _ => if i = k then v i else []
theorem sendR_sq (n : Nat) (v : Nat → List Nat) (k : Nat) : Sq n (sendR n v k) where
 len := tab_len _ _
 row i hi := by unfold sendR; rw [row_get (tab_get _ hi), tab_len]
theorem sendR_pay {n i j k : Nat} {v : Nat → List Nat} (hi : i < n) (hj : j < n) : pay (row (sendR n v k) i) j = if i = k then v i else [] := by
 unfold sendR; rw [row_get (tab_get _ hi), pay_get (tab_get _ hj)]
theorem sendR_off (n : Nat) (v : Nat → List Nat) (k : Nat) : Off n (sendP n v fun i => decide (i = k)) (sendR n v k) := fun b a hb ha hne => by
 rw [sendP_pay hb ha, sendR_pay hb ha]
 by_cases e : b = k
 · rw [if_pos (.inr (by simp [e])), if_pos e]
 · rw [if_neg (by simp [e]; omega), if_neg e]
theorem endW_ref {w : TWorld} {n : Nat} (hn : w.Setup.N = n) (v : Nat → List Nat) (k : Nat) :
   endW w n v k = nextW (mid w n v) (sendR n (fun i => (chose w n v i).1) k) (none' n) := (sendR_off n _ k).next (w := mid w n v) hn _
theorem endV_ref {w : TWorld} {n tt : Nat} (hn : w.Setup.N = n) (v : Nat → List Nat) {k i : Nat} (hk : k < n) (hi : i < n) :
   endV w n tt v k i = if i ≠ k ∧ 2 * (chose w n v i).2 ≤ n + 2 * tt then pay (row (cames (mid w n v) (sendR n (fun i => (chose w n v i).1) k)) i) k else (chose w n v i).1 := by
 unfold endV
 by_cases h : i ≠ k ∧ 2 * (chose w n v i).2 ≤ n + 2 * tt
 · rw [if_pos h, if_pos h, cames_pay (w := mid w n v) hn hi hk, cames_pay (w := mid w n v) hn hi hk]
   exact (sendR_off n _ k).came hi hk h.1
 · rw [if_neg h, if_neg h]
end Go.Proofs.Ytpfpnkaeoedeiaa.Pl
end
