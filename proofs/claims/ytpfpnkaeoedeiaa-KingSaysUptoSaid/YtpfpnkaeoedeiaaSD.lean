import Derived.Test.YtpfpnkaeoedeiaaSC
import Derived.Shelf.SlGeneric
import Derived.Shelf.SlSortCmp.Whole1
import Derived.KernelRfl
import Derived.Test.YtpfpnkaeoedeiaaProg
import Derived.WalkKit
import Derived.OwnWalkIn
import Derived.TacticsInMore
import Derived.LoopNIn
import Derived.LoopIn
import Derived.Deep.LoopGhost
import Derived.Shelf.RegionOpen
import Derived.Shelf.SlSortCmp.NoneTotal
namespace Go.Lf
end Go.Lf
namespace Go.Proofs.Ytpfpnkaeoedeiaa.Back
end Go.Proofs.Ytpfpnkaeoedeiaa.Back
namespace Go.Proofs.Ytpfpnkaeoedeiaa.Pl
end Go.Proofs.Ytpfpnkaeoedeiaa.Pl
namespace Go.Proofs.Ytpfpnkaeoedeiaa.Sh
end Go.Proofs.Ytpfpnkaeoedeiaa.Sh
namespace Go.Proofs.Ytpfpnkaeoedeiaa.Sp
end Go.Proofs.Ytpfpnkaeoedeiaa.Sp
namespace Go.Sx
end Go.Sx
section
set_option linter.unusedVariables false
set_option linter.unusedSimpArgs false
set_option maxRecDepth 100000
set_option maxHeartbeats 8000000
namespace Go.Proofs.Ytpfpnkaeoedeiaa.Sh
open Go.Sx
def king_Agree.A : Ann where
 loops := fun i => match i with
   | _ => []
 plans := fun i => match i with
   | 11 => .read 0 (.first 2 (.read 1 (.alt 3 [0, 1] (.first 4 (.done)) (.stop))))
   | _ => .stop
def king_Agree.W (w_0 : Int) (w_1 : Int) (w_2 : Int) (w_3A : Option Addr) (w_3n w_3c : Nat) (w_4A : Option Addr) (w_4n w_4c : Nat) (w_5A : Option Addr) (w_5n w_5c : Nat) (w_6 : Int) (w_7A : Option Addr) (w_7n w_7c : Nat) (valuesA : Option Addr) (valuesn valuesc : Nat) (H : Heap) (R : Value → Heap → Prop) : Prop :=
 NewH (H.push (.cells #[.int .u64 w_0, .int .i64 w_1, .int .i64 w_2, .slice w_3A w_3n w_3c, .slice w_4A w_4n w_4c, .slice w_5A w_5n w_5c, .int .i64 w_6, .slice w_7A w_7n w_7c] 30 (0, 0))) fun H_ =>
 NewH (H_.push (.cells #[.slice valuesA valuesn valuesc] 27 (0, 0))) fun H_2 =>
 NewH (H_2.push (.cells #[.int .u64 0, .int .i64 0, .int .i64 0, .slice none 0 0, .slice none 0 0, .slice none 0 0, .int .i64 0, .slice none 0 0] 30 (0, 0))) fun H_3 =>
 ∃ x0 : Int, ∃ x1 : Int, ∃ x2 : Int, ∃ (x3A : Option Addr) (x3n x3c : Nat), ∃ (x4A : Option Addr) (x4n x4c : Nat), ∃ (x5A : Option Addr) (x5n x5c : Nat), ∃ x6 : Int, ∃ (x7A : Option Addr) (x7n x7c : Nat), cellH H_3 (Addr.mk H.size 0 none) = some (.int .u64 x0) ∧ cellH H_3 (((Addr.mk H.size 0 none)).add 1) = some (.int .i64 x1) ∧ cellH H_3 (((Addr.mk H.size 0 none)).add 2) = some (.int .i64 x2) ∧ cellH H_3 (((Addr.mk H.size 0 none)).add 3) = some (.slice x3A x3n x3c) ∧ cellH H_3 (((Addr.mk H.size 0 none)).add 4) = some (.slice x4A x4n x4c) ∧ cellH H_3 (((Addr.mk H.size 0 none)).add 5) = some (.slice x5A x5n x5c) ∧ cellH H_3 (((Addr.mk H.size 0 none)).add 6) = some (.int .i64 x6) ∧ cellH H_3 (((Addr.mk H.size 0 none)).add 7) = some (.slice x7A x7n x7c) ∧ CallH P N.net_Check [.agg #[.int .u64 x0, .int .i64 x1, .int .i64 x2, .slice x3A x3n x3c, .slice x4A x4n x4c, .slice x5A x5n x5c, .int .i64 x6, .slice x7A x7n x7c]] H_3 fun v H_4 =>
 ∃ r : Int, v = .int .i64 r ∧ cond (r != 0) (MayWrite H_4 (Addr.mk H_2.size 0 none) 8 ∧ NewH (setH (setH (setH (setH (setH (setH (setH (setH H_4 (Addr.mk H_2.size 0 none) (.int .u64 0)) (((Addr.mk H_2.size 0 none)).add 1) (.int .i64 0)) (((Addr.mk H_2.size 0 none)).add 2) (.int .i64 0)) (((Addr.mk H_2.size 0 none)).add 3) (.slice none 0 0)) (((Addr.mk H_2.size 0 none)).add 4) (.slice none 0 0)) (((Addr.mk H_2.size 0 none)).add 5) (.slice none 0 0)) (((Addr.mk H_2.size 0 none)).add 6) (.int .i64 0)) (((Addr.mk H_2.size 0 none)).add 7) (.slice none 0 0)) fun H_5 =>
 ∃ x02 : Int, ∃ x12 : Int, ∃ x22 : Int, ∃ (x3A2 : Option Addr) (x3n2 x3c2 : Nat), ∃ (x4A2 : Option Addr) (x4n2 x4c2 : Nat), ∃ (x5A2 : Option Addr) (x5n2 x5c2 : Nat), ∃ x62 : Int, ∃ (x7A2 : Option Addr) (x7n2 x7c2 : Nat), cellH H_5 (Addr.mk H_2.size 0 none) = some (.int .u64 x02) ∧ cellH H_5 (((Addr.mk H_2.size 0 none)).add 1) = some (.int .i64 x12) ∧ cellH H_5 (((Addr.mk H_2.size 0 none)).add 2) = some (.int .i64 x22) ∧ cellH H_5 (((Addr.mk H_2.size 0 none)).add 3) = some (.slice x3A2 x3n2 x3c2) ∧ cellH H_5 (((Addr.mk H_2.size 0 none)).add 4) = some (.slice x4A2 x4n2 x4c2) ∧ cellH H_5 (((Addr.mk H_2.size 0 none)).add 5) = some (.slice x5A2 x5n2 x5c2) ∧ cellH H_5 (((Addr.mk H_2.size 0 none)).add 6) = some (.int .i64 x62) ∧ cellH H_5 (((Addr.mk H_2.size 0 none)).add 7) = some (.slice x7A2 x7n2 x7c2) ∧ R (.tuple #[.slice none 0 0, .agg #[.int .u64 x02, .int .i64 x12, .int .i64 x22, .slice x3A2 x3n2 x3c2, .slice x4A2 x4n2 x4c2, .slice x5A2 x5n2 x5c2, .int .i64 x62, .slice x7A2 x7n2 x7c2], .int .i64 r]) H_5)
  (∃ (xA : Option Addr) (xn xc : Nat), cellH H_4 (Addr.mk H_.size 0 none) = some (.slice xA xn xc) ∧ ∃ x : Int, cellH H_4 (((Addr.mk H.size 0 none)).add 1) = some (.int .i64 x) ∧ cond (((xn : Nat) : Int) != x) (MayWrite H_4 (Addr.mk H_2.size 0 none) 8 ∧ NewH (setH (setH (setH (setH (setH (setH (setH (setH H_4 (Addr.mk H_2.size 0 none) (.int .u64 0)) (((Addr.mk H_2.size 0 none)).add 1) (.int .i64 0)) (((Addr.mk H_2.size 0 none)).add 2) (.int .i64 0)) (((Addr.mk H_2.size 0 none)).add 3) (.slice none 0 0)) (((Addr.mk H_2.size 0 none)).add 4) (.slice none 0 0)) (((Addr.mk H_2.size 0 none)).add 5) (.slice none 0 0)) (((Addr.mk H_2.size 0 none)).add 6) (.int .i64 0)) (((Addr.mk H_2.size 0 none)).add 7) (.slice none 0 0)) fun H_6 =>
 ∃ x03 : Int, ∃ x13 : Int, ∃ x23 : Int, ∃ (x3A3 : Option Addr) (x3n3 x3c3 : Nat), ∃ (x4A3 : Option Addr) (x4n3 x4c3 : Nat), ∃ (x5A3 : Option Addr) (x5n3 x5c3 : Nat), ∃ x63 : Int, ∃ (x7A3 : Option Addr) (x7n3 x7c3 : Nat), cellH H_6 (Addr.mk H_2.size 0 none) = some (.int .u64 x03) ∧ cellH H_6 (((Addr.mk H_2.size 0 none)).add 1) = some (.int .i64 x13) ∧ cellH H_6 (((Addr.mk H_2.size 0 none)).add 2) = some (.int .i64 x23) ∧ cellH H_6 (((Addr.mk H_2.size 0 none)).add 3) = some (.slice x3A3 x3n3 x3c3) ∧ cellH H_6 (((Addr.mk H_2.size 0 none)).add 4) = some (.slice x4A3 x4n3 x4c3) ∧ cellH H_6 (((Addr.mk H_2.size 0 none)).add 5) = some (.slice x5A3 x5n3 x5c3) ∧ cellH H_6 (((Addr.mk H_2.size 0 none)).add 6) = some (.int .i64 x63) ∧ cellH H_6 (((Addr.mk H_2.size 0 none)).add 7) = some (.slice x7A3 x7n3 x7c3) ∧ R (.tuple #[.slice none 0 0, .agg #[.int .u64 x03, .int .i64 x13, .int .i64 x23, .slice x3A3 x3n3 x3c3, .slice x4A3 x4n3 x4c3, .slice x5A3 x5n3 x5c3, .int .i64 x63, .slice x7A3 x7n3 x7c3], .int .i64 2]) H_6)
  (∃ x04 : Int, ∃ x14 : Int, ∃ x24 : Int, ∃ (x3A4 : Option Addr) (x3n4 x3c4 : Nat), ∃ (x4A4 : Option Addr) (x4n4 x4c4 : Nat), ∃ (x5A4 : Option Addr) (x5n4 x5c4 : Nat), ∃ x64 : Int, ∃ (x7A4 : Option Addr) (x7n4 x7c4 : Nat), cellH H_4 (Addr.mk H.size 0 none) = some (.int .u64 x04) ∧ cellH H_4 (((Addr.mk H.size 0 none)).add 1) = some (.int .i64 x14) ∧ cellH H_4 (((Addr.mk H.size 0 none)).add 2) = some (.int .i64 x24) ∧ cellH H_4 (((Addr.mk H.size 0 none)).add 3) = some (.slice x3A4 x3n4 x3c4) ∧ cellH H_4 (((Addr.mk H.size 0 none)).add 4) = some (.slice x4A4 x4n4 x4c4) ∧ cellH H_4 (((Addr.mk H.size 0 none)).add 5) = some (.slice x5A4 x5n4 x5c4) ∧ cellH H_4 (((Addr.mk H.size 0 none)).add 6) = some (.int .i64 x64) ∧ cellH H_4 (((Addr.mk H.size 0 none)).add 7) = some (.slice x7A4 x7n4 x7c4) ∧ ∃ x3 : Int, cellH H_4 (((Addr.mk H.size 0 none)).add 2) = some (.int .i64 x3) ∧ CallH P N.net_Room [.agg #[.int .u64 x04, .int .i64 x14, .int .i64 x24, .slice x3A4 x3n4 x3c4, .slice x4A4 x4n4 x4c4, .slice x5A4 x5n4 x5c4, .int .i64 x64, .slice x7A4 x7n4 x7c4], .int .i64 (IntKind.i64.wrap (2 * (IntKind.i64.wrap (x3 + 1))))] H_4 fun v2 H_7 =>
 ∃ r2 : Int, v2 = .int .i64 r2 ∧ cond (r2 != 0) (MayWrite H_7 (Addr.mk H_2.size 0 none) 8 ∧ NewH (setH (setH (setH (setH (setH (setH (setH (setH H_7 (Addr.mk H_2.size 0 none) (.int .u64 0)) (((Addr.mk H_2.size 0 none)).add 1) (.int .i64 0)) (((Addr.mk H_2.size 0 none)).add 2) (.int .i64 0)) (((Addr.mk H_2.size 0 none)).add 3) (.slice none 0 0)) (((Addr.mk H_2.size 0 none)).add 4) (.slice none 0 0)) (((Addr.mk H_2.size 0 none)).add 5) (.slice none 0 0)) (((Addr.mk H_2.size 0 none)).add 6) (.int .i64 0)) (((Addr.mk H_2.size 0 none)).add 7) (.slice none 0 0)) fun H_8 =>
 ∃ x05 : Int, ∃ x15 : Int, ∃ x25 : Int, ∃ (x3A5 : Option Addr) (x3n5 x3c5 : Nat), ∃ (x4A5 : Option Addr) (x4n5 x4c5 : Nat), ∃ (x5A5 : Option Addr) (x5n5 x5c5 : Nat), ∃ x65 : Int, ∃ (x7A5 : Option Addr) (x7n5 x7c5 : Nat), cellH H_8 (Addr.mk H_2.size 0 none) = some (.int .u64 x05) ∧ cellH H_8 (((Addr.mk H_2.size 0 none)).add 1) = some (.int .i64 x15) ∧ cellH H_8 (((Addr.mk H_2.size 0 none)).add 2) = some (.int .i64 x25) ∧ cellH H_8 (((Addr.mk H_2.size 0 none)).add 3) = some (.slice x3A5 x3n5 x3c5) ∧ cellH H_8 (((Addr.mk H_2.size 0 none)).add 4) = some (.slice x4A5 x4n5 x4c5) ∧ cellH H_8 (((Addr.mk H_2.size 0 none)).add 5) = some (.slice x5A5 x5n5 x5c5) ∧ cellH H_8 (((Addr.mk H_2.size 0 none)).add 6) = some (.int .i64 x65) ∧ cellH H_8 (((Addr.mk H_2.size 0 none)).add 7) = some (.slice x7A5 x7n5 x7c5) ∧ R (.tuple #[.slice none 0 0, .agg #[.int .u64 x05, .int .i64 x15, .int .i64 x25, .slice x3A5 x3n5 x3c5, .slice x4A5 x4n5 x4c5, .slice x5A5 x5n5 x5c5, .int .i64 x65, .slice x7A5 x7n5 x7c5], .int .i64 r2]) H_8)
  (NewH (H_7.push (.cells #[.slice none 0 0] 27 (0, 0))) fun H_9 =>
 ∃ x06 : Int, ∃ x16 : Int, ∃ x26 : Int, ∃ (x3A6 : Option Addr) (x3n6 x3c6 : Nat), ∃ (x4A6 : Option Addr) (x4n6 x4c6 : Nat), ∃ (x5A6 : Option Addr) (x5n6 x5c6 : Nat), ∃ x66 : Int, ∃ (x7A6 : Option Addr) (x7n6 x7c6 : Nat), cellH H_9 (Addr.mk H.size 0 none) = some (.int .u64 x06) ∧ cellH H_9 (((Addr.mk H.size 0 none)).add 1) = some (.int .i64 x16) ∧ cellH H_9 (((Addr.mk H.size 0 none)).add 2) = some (.int .i64 x26) ∧ cellH H_9 (((Addr.mk H.size 0 none)).add 3) = some (.slice x3A6 x3n6 x3c6) ∧ cellH H_9 (((Addr.mk H.size 0 none)).add 4) = some (.slice x4A6 x4n6 x4c6) ∧ cellH H_9 (((Addr.mk H.size 0 none)).add 5) = some (.slice x5A6 x5n6 x5c6) ∧ cellH H_9 (((Addr.mk H.size 0 none)).add 6) = some (.int .i64 x66) ∧ cellH H_9 (((Addr.mk H.size 0 none)).add 7) = some (.slice x7A6 x7n6 x7c6) ∧ CallH P N.net_Play [.agg #[.int .u64 x06, .int .i64 x16, .int .i64 x26, .slice x3A6 x3n6 x3c6, .slice x4A6 x4n6 x4c6, .slice x5A6 x5n6 x5c6, .int .i64 x66, .slice x7A6 x7n6 x7c6], .func (.func 28) #[] #[.pointer (some (Addr.mk H_.size 0 none)), .pointer (some (Addr.mk H_7.size 0 none))]] H_9 fun v3 H_10 =>
 ∃ r0 : Int, ∃ r1 : Int, ∃ r22 : Int, ∃ (r3A : Option Addr) (r3n r3c : Nat), ∃ (r4A : Option Addr) (r4n r4c : Nat), ∃ (r5A : Option Addr) (r5n r5c : Nat), ∃ r6 : Int, ∃ (r7A : Option Addr) (r7n r7c : Nat), v3 = .agg #[.int .u64 r0, .int .i64 r1, .int .i64 r22, .slice r3A r3n r3c, .slice r4A r4n r4c, .slice r5A r5n r5c, .int .i64 r6, .slice r7A r7n r7c] ∧ MayWrite H_10 (Addr.mk H.size 0 none) 8 ∧ NewH (setH (setH (setH (setH (setH (setH (setH (setH H_10 (Addr.mk H.size 0 none) (.int .u64 r0)) (((Addr.mk H.size 0 none)).add 1) (.int .i64 r1)) (((Addr.mk H.size 0 none)).add 2) (.int .i64 r22)) (((Addr.mk H.size 0 none)).add 3) (.slice r3A r3n r3c)) (((Addr.mk H.size 0 none)).add 4) (.slice r4A r4n r4c)) (((Addr.mk H.size 0 none)).add 5) (.slice r5A r5n r5c)) (((Addr.mk H.size 0 none)).add 6) (.int .i64 r6)) (((Addr.mk H.size 0 none)).add 7) (.slice r7A r7n r7c)) fun H_11 =>
 ∃ (xA2 : Option Addr) (xn2 xc2 : Nat), cellH H_11 (Addr.mk H_7.size 0 none) = some (.slice xA2 xn2 xc2) ∧ ∃ x07 : Int, ∃ x17 : Int, ∃ x27 : Int, ∃ (x3A7 : Option Addr) (x3n7 x3c7 : Nat), ∃ (x4A7 : Option Addr) (x4n7 x4c7 : Nat), ∃ (x5A7 : Option Addr) (x5n7 x5c7 : Nat), ∃ x67 : Int, ∃ (x7A7 : Option Addr) (x7n7 x7c7 : Nat), cellH H_11 (Addr.mk H.size 0 none) = some (.int .u64 x07) ∧ cellH H_11 (((Addr.mk H.size 0 none)).add 1) = some (.int .i64 x17) ∧ cellH H_11 (((Addr.mk H.size 0 none)).add 2) = some (.int .i64 x27) ∧ cellH H_11 (((Addr.mk H.size 0 none)).add 3) = some (.slice x3A7 x3n7 x3c7) ∧ cellH H_11 (((Addr.mk H.size 0 none)).add 4) = some (.slice x4A7 x4n7 x4c7) ∧ cellH H_11 (((Addr.mk H.size 0 none)).add 5) = some (.slice x5A7 x5n7 x5c7) ∧ cellH H_11 (((Addr.mk H.size 0 none)).add 6) = some (.int .i64 x67) ∧ cellH H_11 (((Addr.mk H.size 0 none)).add 7) = some (.slice x7A7 x7n7 x7c7) ∧ MayWrite H_11 (Addr.mk H_2.size 0 none) 8 ∧ NewH (setH (setH (setH (setH (setH (setH (setH (setH H_11 (Addr.mk H_2.size 0 none) (.int .u64 x07)) (((Addr.mk H_2.size 0 none)).add 1) (.int .i64 x17)) (((Addr.mk H_2.size 0 none)).add 2) (.int .i64 x27)) (((Addr.mk H_2.size 0 none)).add 3) (.slice x3A7 x3n7 x3c7)) (((Addr.mk H_2.size 0 none)).add 4) (.slice x4A7 x4n7 x4c7)) (((Addr.mk H_2.size 0 none)).add 5) (.slice x5A7 x5n7 x5c7)) (((Addr.mk H_2.size 0 none)).add 6) (.int .i64 x67)) (((Addr.mk H_2.size 0 none)).add 7) (.slice x7A7 x7n7 x7c7)) fun H_12 =>
 ∃ x08 : Int, ∃ x18 : Int, ∃ x28 : Int, ∃ (x3A8 : Option Addr) (x3n8 x3c8 : Nat), ∃ (x4A8 : Option Addr) (x4n8 x4c8 : Nat), ∃ (x5A8 : Option Addr) (x5n8 x5c8 : Nat), ∃ x68 : Int, ∃ (x7A8 : Option Addr) (x7n8 x7c8 : Nat), cellH H_12 (Addr.mk H_2.size 0 none) = some (.int .u64 x08) ∧ cellH H_12 (((Addr.mk H_2.size 0 none)).add 1) = some (.int .i64 x18) ∧ cellH H_12 (((Addr.mk H_2.size 0 none)).add 2) = some (.int .i64 x28) ∧ cellH H_12 (((Addr.mk H_2.size 0 none)).add 3) = some (.slice x3A8 x3n8 x3c8) ∧ cellH H_12 (((Addr.mk H_2.size 0 none)).add 4) = some (.slice x4A8 x4n8 x4c8) ∧ cellH H_12 (((Addr.mk H_2.size 0 none)).add 5) = some (.slice x5A8 x5n8 x5c8) ∧ cellH H_12 (((Addr.mk H_2.size 0 none)).add 6) = some (.int .i64 x68) ∧ cellH H_12 (((Addr.mk H_2.size 0 none)).add 7) = some (.slice x7A8 x7n8 x7c8) ∧ R (.tuple #[.slice xA2 xn2 xc2, .agg #[.int .u64 x08, .int .i64 x18, .int .i64 x28, .slice x3A8 x3n8 x3c8, .slice x4A8 x4n8 x4c8, .slice x5A8 x5n8 x5c8, .int .i64 x68, .slice x7A8 x7n8 x7c8], .int .i64 0]) H_12)))
theorem king_Agree.ok (w_0 : Int) (w_1 : Int) (w_2 : Int) (w_3A : Option Addr) (w_3n w_3c : Nat) (w_4A : Option Addr) (w_4n w_4c : Nat) (w_5A : Option Addr) (w_5n w_5c : Nat) (w_6 : Int) (w_7A : Option Addr) (w_7n w_7c : Nat) (valuesA : Option Addr) (valuesn valuesc : Nat) (H : Heap) (R : Value → Heap → Prop) (h : king_Agree.W w_0 w_1 w_2 w_3A w_3n w_3c w_4A w_4n w_4c w_5A w_5n w_5c w_6 w_7A w_7n w_7c valuesA valuesn valuesc H R) : CallH P N.king_Agree [.agg #[.int .u64 w_0, .int .i64 w_1, .int .i64 w_2, .slice w_3A w_3n w_3c, .slice w_4A w_4n w_4c, .slice w_5A w_5n w_5c, .int .i64 w_6, .slice w_7A w_7n w_7c], .slice valuesA valuesn valuesc] H R :=
 okW Try.func10 (by kernel_rfl) Try.ntmps10 king_Agree.A (by kernel_rfl) (by kernel_rfl) h
def king_Say.A : Ann where
 loops := fun i => match i with
   | _ => []
 plans := fun i => match i with
   | 11 => .read 0 (.first 2 (.read 1 (.alt 3 [0, 1] (.first 4 (.done)) (.stop))))
   | _ => .stop
def king_Say.W (w_0 : Int) (w_1 : Int) (w_2 : Int) (w_3A : Option Addr) (w_3n w_3c : Nat) (w_4A : Option Addr) (w_4n w_4c : Nat) (w_5A : Option Addr) (w_5n w_5c : Nat) (w_6 : Int) (w_7A : Option Addr) (w_7n w_7c : Nat) (from_ : Int) (valueA : Option Addr) (valuen valuec : Nat) (H : Heap) (R : Value → Heap → Prop) : Prop :=
 NewH (H.push (.cells #[.int .u64 w_0, .int .i64 w_1, .int .i64 w_2, .slice w_3A w_3n w_3c, .slice w_4A w_4n w_4c, .slice w_5A w_5n w_5c, .int .i64 w_6, .slice w_7A w_7n w_7c] 30 (0, 0))) fun H_ =>
 NewH (H_.push (.cells #[.int .i64 from_] 3 (0, 0))) fun H_2 =>
 NewH (H_2.push (.cells #[.slice valueA valuen valuec] 47 (0, 0))) fun H_3 =>
 NewH (H_3.push (.cells #[.int .u64 0, .int .i64 0, .int .i64 0, .slice none 0 0, .slice none 0 0, .slice none 0 0, .int .i64 0, .slice none 0 0] 30 (0, 0))) fun H_4 =>
 ∃ x0 : Int, ∃ x1 : Int, ∃ x2 : Int, ∃ (x3A : Option Addr) (x3n x3c : Nat), ∃ (x4A : Option Addr) (x4n x4c : Nat), ∃ (x5A : Option Addr) (x5n x5c : Nat), ∃ x6 : Int, ∃ (x7A : Option Addr) (x7n x7c : Nat), cellH H_4 (Addr.mk H.size 0 none) = some (.int .u64 x0) ∧ cellH H_4 (((Addr.mk H.size 0 none)).add 1) = some (.int .i64 x1) ∧ cellH H_4 (((Addr.mk H.size 0 none)).add 2) = some (.int .i64 x2) ∧ cellH H_4 (((Addr.mk H.size 0 none)).add 3) = some (.slice x3A x3n x3c) ∧ cellH H_4 (((Addr.mk H.size 0 none)).add 4) = some (.slice x4A x4n x4c) ∧ cellH H_4 (((Addr.mk H.size 0 none)).add 5) = some (.slice x5A x5n x5c) ∧ cellH H_4 (((Addr.mk H.size 0 none)).add 6) = some (.int .i64 x6) ∧ cellH H_4 (((Addr.mk H.size 0 none)).add 7) = some (.slice x7A x7n x7c) ∧ CallH P N.net_Check [.agg #[.int .u64 x0, .int .i64 x1, .int .i64 x2, .slice x3A x3n x3c, .slice x4A x4n x4c, .slice x5A x5n x5c, .int .i64 x6, .slice x7A x7n x7c]] H_4 fun v H_5 =>
 ∃ r : Int, v = .int .i64 r ∧ cond (r != 0) (MayWrite H_5 (Addr.mk H_3.size 0 none) 8 ∧ NewH (setH (setH (setH (setH (setH (setH (setH (setH H_5 (Addr.mk H_3.size 0 none) (.int .u64 0)) (((Addr.mk H_3.size 0 none)).add 1) (.int .i64 0)) (((Addr.mk H_3.size 0 none)).add 2) (.int .i64 0)) (((Addr.mk H_3.size 0 none)).add 3) (.slice none 0 0)) (((Addr.mk H_3.size 0 none)).add 4) (.slice none 0 0)) (((Addr.mk H_3.size 0 none)).add 5) (.slice none 0 0)) (((Addr.mk H_3.size 0 none)).add 6) (.int .i64 0)) (((Addr.mk H_3.size 0 none)).add 7) (.slice none 0 0)) fun H_6 =>
 ∃ x02 : Int, ∃ x12 : Int, ∃ x22 : Int, ∃ (x3A2 : Option Addr) (x3n2 x3c2 : Nat), ∃ (x4A2 : Option Addr) (x4n2 x4c2 : Nat), ∃ (x5A2 : Option Addr) (x5n2 x5c2 : Nat), ∃ x62 : Int, ∃ (x7A2 : Option Addr) (x7n2 x7c2 : Nat), cellH H_6 (Addr.mk H_3.size 0 none) = some (.int .u64 x02) ∧ cellH H_6 (((Addr.mk H_3.size 0 none)).add 1) = some (.int .i64 x12) ∧ cellH H_6 (((Addr.mk H_3.size 0 none)).add 2) = some (.int .i64 x22) ∧ cellH H_6 (((Addr.mk H_3.size 0 none)).add 3) = some (.slice x3A2 x3n2 x3c2) ∧ cellH H_6 (((Addr.mk H_3.size 0 none)).add 4) = some (.slice x4A2 x4n2 x4c2) ∧ cellH H_6 (((Addr.mk H_3.size 0 none)).add 5) = some (.slice x5A2 x5n2 x5c2) ∧ cellH H_6 (((Addr.mk H_3.size 0 none)).add 6) = some (.int .i64 x62) ∧ cellH H_6 (((Addr.mk H_3.size 0 none)).add 7) = some (.slice x7A2 x7n2 x7c2) ∧ R (.tuple #[.slice none 0 0, .agg #[.int .u64 x02, .int .i64 x12, .int .i64 x22, .slice x3A2 x3n2 x3c2, .slice x4A2 x4n2 x4c2, .slice x5A2 x5n2 x5c2, .int .i64 x62, .slice x7A2 x7n2 x7c2], .int .i64 r]) H_6)
  (∃ x : Int, cellH H_5 (Addr.mk H_.size 0 none) = some (.int .i64 x) ∧ cond (decide (x < 1)) (MayWrite H_5 (Addr.mk H_3.size 0 none) 8 ∧ NewH (setH (setH (setH (setH (setH (setH (setH (setH H_5 (Addr.mk H_3.size 0 none) (.int .u64 0)) (((Addr.mk H_3.size 0 none)).add 1) (.int .i64 0)) (((Addr.mk H_3.size 0 none)).add 2) (.int .i64 0)) (((Addr.mk H_3.size 0 none)).add 3) (.slice none 0 0)) (((Addr.mk H_3.size 0 none)).add 4) (.slice none 0 0)) (((Addr.mk H_3.size 0 none)).add 5) (.slice none 0 0)) (((Addr.mk H_3.size 0 none)).add 6) (.int .i64 0)) (((Addr.mk H_3.size 0 none)).add 7) (.slice none 0 0)) fun H_7 =>
 ∃ x03 : Int, ∃ x13 : Int, ∃ x23 : Int, ∃ (x3A3 : Option Addr) (x3n3 x3c3 : Nat), ∃ (x4A3 : Option Addr) (x4n3 x4c3 : Nat), ∃ (x5A3 : Option Addr) (x5n3 x5c3 : Nat), ∃ x63 : Int, ∃ (x7A3 : Option Addr) (x7n3 x7c3 : Nat), cellH H_7 (Addr.mk H_3.size 0 none) = some (.int .u64 x03) ∧ cellH H_7 (((Addr.mk H_3.size 0 none)).add 1) = some (.int .i64 x13) ∧ cellH H_7 (((Addr.mk H_3.size 0 none)).add 2) = some (.int .i64 x23) ∧ cellH H_7 (((Addr.mk H_3.size 0 none)).add 3) = some (.slice x3A3 x3n3 x3c3) ∧ cellH H_7 (((Addr.mk H_3.size 0 none)).add 4) = some (.slice x4A3 x4n3 x4c3) ∧ cellH H_7 (((Addr.mk H_3.size 0 none)).add 5) = some (.slice x5A3 x5n3 x5c3) ∧ cellH H_7 (((Addr.mk H_3.size 0 none)).add 6) = some (.int .i64 x63) ∧ cellH H_7 (((Addr.mk H_3.size 0 none)).add 7) = some (.slice x7A3 x7n3 x7c3) ∧ R (.tuple #[.slice none 0 0, .agg #[.int .u64 x03, .int .i64 x13, .int .i64 x23, .slice x3A3 x3n3 x3c3, .slice x4A3 x4n3 x4c3, .slice x5A3 x5n3 x5c3, .int .i64 x63, .slice x7A3 x7n3 x7c3], .int .i64 2]) H_7) (∃ x3 : Int, cellH H_5 (Addr.mk H_.size 0 none) = some (.int .i64 x3) ∧ ∃ x4 : Int, cellH H_5 (((Addr.mk H.size 0 none)).add 1) = some (.int .i64 x4) ∧ cond (decide (x3 > x4)) (MayWrite H_5 (Addr.mk H_3.size 0 none) 8 ∧ NewH (setH (setH (setH (setH (setH (setH (setH (setH H_5 (Addr.mk H_3.size 0 none) (.int .u64 0)) (((Addr.mk H_3.size 0 none)).add 1) (.int .i64 0)) (((Addr.mk H_3.size 0 none)).add 2) (.int .i64 0)) (((Addr.mk H_3.size 0 none)).add 3) (.slice none 0 0)) (((Addr.mk H_3.size 0 none)).add 4) (.slice none 0 0)) (((Addr.mk H_3.size 0 none)).add 5) (.slice none 0 0)) (((Addr.mk H_3.size 0 none)).add 6) (.int .i64 0)) (((Addr.mk H_3.size 0 none)).add 7) (.slice none 0 0)) fun H_8 =>
 ∃ x04 : Int, ∃ x14 : Int, ∃ x24 : Int, ∃ (x3A4 : Option Addr) (x3n4 x3c4 : Nat), ∃ (x4A4 : Option Addr) (x4n4 x4c4 : Nat), ∃ (x5A4 : Option Addr) (x5n4 x5c4 : Nat), ∃ x64 : Int, ∃ (x7A4 : Option Addr) (x7n4 x7c4 : Nat), cellH H_8 (Addr.mk H_3.size 0 none) = some (.int .u64 x04) ∧ cellH H_8 (((Addr.mk H_3.size 0 none)).add 1) = some (.int .i64 x14) ∧ cellH H_8 (((Addr.mk H_3.size 0 none)).add 2) = some (.int .i64 x24) ∧ cellH H_8 (((Addr.mk H_3.size 0 none)).add 3) = some (.slice x3A4 x3n4 x3c4) ∧ cellH H_8 (((Addr.mk H_3.size 0 none)).add 4) = some (.slice x4A4 x4n4 x4c4) ∧ cellH H_8 (((Addr.mk H_3.size 0 none)).add 5) = some (.slice x5A4 x5n4 x5c4) ∧ cellH H_8 (((Addr.mk H_3.size 0 none)).add 6) = some (.int .i64 x64) ∧ cellH H_8 (((Addr.mk H_3.size 0 none)).add 7) = some (.slice x7A4 x7n4 x7c4) ∧ R (.tuple #[.slice none 0 0, .agg #[.int .u64 x04, .int .i64 x14, .int .i64 x24, .slice x3A4 x3n4 x3c4, .slice x4A4 x4n4 x4c4, .slice x5A4 x5n4 x5c4, .int .i64 x64, .slice x7A4 x7n4 x7c4], .int .i64 2]) H_8)
  (∃ x05 : Int, ∃ x15 : Int, ∃ x25 : Int, ∃ (x3A5 : Option Addr) (x3n5 x3c5 : Nat), ∃ (x4A5 : Option Addr) (x4n5 x4c5 : Nat), ∃ (x5A5 : Option Addr) (x5n5 x5c5 : Nat), ∃ x65 : Int, ∃ (x7A5 : Option Addr) (x7n5 x7c5 : Nat), cellH H_5 (Addr.mk H.size 0 none) = some (.int .u64 x05) ∧ cellH H_5 (((Addr.mk H.size 0 none)).add 1) = some (.int .i64 x15) ∧ cellH H_5 (((Addr.mk H.size 0 none)).add 2) = some (.int .i64 x25) ∧ cellH H_5 (((Addr.mk H.size 0 none)).add 3) = some (.slice x3A5 x3n5 x3c5) ∧ cellH H_5 (((Addr.mk H.size 0 none)).add 4) = some (.slice x4A5 x4n5 x4c5) ∧ cellH H_5 (((Addr.mk H.size 0 none)).add 5) = some (.slice x5A5 x5n5 x5c5) ∧ cellH H_5 (((Addr.mk H.size 0 none)).add 6) = some (.int .i64 x65) ∧ cellH H_5 (((Addr.mk H.size 0 none)).add 7) = some (.slice x7A5 x7n5 x7c5) ∧ ∃ x5 : Int, cellH H_5 (((Addr.mk H.size 0 none)).add 2) = some (.int .i64 x5) ∧ CallH P N.net_Room [.agg #[.int .u64 x05, .int .i64 x15, .int .i64 x25, .slice x3A5 x3n5 x3c5, .slice x4A5 x4n5 x4c5, .slice x5A5 x5n5 x5c5, .int .i64 x65, .slice x7A5 x7n5 x7c5], .int .i64 (IntKind.i64.wrap ((IntKind.i64.wrap (2 * (IntKind.i64.wrap (x5 + 1)))) + 1))] H_5 fun v2 H_9 =>
 ∃ r2 : Int, v2 = .int .i64 r2 ∧ cond (r2 != 0) (MayWrite H_9 (Addr.mk H_3.size 0 none) 8 ∧ NewH (setH (setH (setH (setH (setH (setH (setH (setH H_9 (Addr.mk H_3.size 0 none) (.int .u64 0)) (((Addr.mk H_3.size 0 none)).add 1) (.int .i64 0)) (((Addr.mk H_3.size 0 none)).add 2) (.int .i64 0)) (((Addr.mk H_3.size 0 none)).add 3) (.slice none 0 0)) (((Addr.mk H_3.size 0 none)).add 4) (.slice none 0 0)) (((Addr.mk H_3.size 0 none)).add 5) (.slice none 0 0)) (((Addr.mk H_3.size 0 none)).add 6) (.int .i64 0)) (((Addr.mk H_3.size 0 none)).add 7) (.slice none 0 0)) fun H_10 =>
 ∃ x06 : Int, ∃ x16 : Int, ∃ x26 : Int, ∃ (x3A6 : Option Addr) (x3n6 x3c6 : Nat), ∃ (x4A6 : Option Addr) (x4n6 x4c6 : Nat), ∃ (x5A6 : Option Addr) (x5n6 x5c6 : Nat), ∃ x66 : Int, ∃ (x7A6 : Option Addr) (x7n6 x7c6 : Nat), cellH H_10 (Addr.mk H_3.size 0 none) = some (.int .u64 x06) ∧ cellH H_10 (((Addr.mk H_3.size 0 none)).add 1) = some (.int .i64 x16) ∧ cellH H_10 (((Addr.mk H_3.size 0 none)).add 2) = some (.int .i64 x26) ∧ cellH H_10 (((Addr.mk H_3.size 0 none)).add 3) = some (.slice x3A6 x3n6 x3c6) ∧ cellH H_10 (((Addr.mk H_3.size 0 none)).add 4) = some (.slice x4A6 x4n6 x4c6) ∧ cellH H_10 (((Addr.mk H_3.size 0 none)).add 5) = some (.slice x5A6 x5n6 x5c6) ∧ cellH H_10 (((Addr.mk H_3.size 0 none)).add 6) = some (.int .i64 x66) ∧ cellH H_10 (((Addr.mk H_3.size 0 none)).add 7) = some (.slice x7A6 x7n6 x7c6) ∧ R (.tuple #[.slice none 0 0, .agg #[.int .u64 x06, .int .i64 x16, .int .i64 x26, .slice x3A6 x3n6 x3c6, .slice x4A6 x4n6 x4c6, .slice x5A6 x5n6 x5c6, .int .i64 x66, .slice x7A6 x7n6 x7c6], .int .i64 r2]) H_10)
  (NewH (H_9.push (.cells #[.slice none 0 0] 27 (0, 0))) fun H_11 =>
 ∃ x07 : Int, ∃ x17 : Int, ∃ x27 : Int, ∃ (x3A7 : Option Addr) (x3n7 x3c7 : Nat), ∃ (x4A7 : Option Addr) (x4n7 x4c7 : Nat), ∃ (x5A7 : Option Addr) (x5n7 x5c7 : Nat), ∃ x67 : Int, ∃ (x7A7 : Option Addr) (x7n7 x7c7 : Nat), cellH H_11 (Addr.mk H.size 0 none) = some (.int .u64 x07) ∧ cellH H_11 (((Addr.mk H.size 0 none)).add 1) = some (.int .i64 x17) ∧ cellH H_11 (((Addr.mk H.size 0 none)).add 2) = some (.int .i64 x27) ∧ cellH H_11 (((Addr.mk H.size 0 none)).add 3) = some (.slice x3A7 x3n7 x3c7) ∧ cellH H_11 (((Addr.mk H.size 0 none)).add 4) = some (.slice x4A7 x4n7 x4c7) ∧ cellH H_11 (((Addr.mk H.size 0 none)).add 5) = some (.slice x5A7 x5n7 x5c7) ∧ cellH H_11 (((Addr.mk H.size 0 none)).add 6) = some (.int .i64 x67) ∧ cellH H_11 (((Addr.mk H.size 0 none)).add 7) = some (.slice x7A7 x7n7 x7c7) ∧ CallH P N.net_Play [.agg #[.int .u64 x07, .int .i64 x17, .int .i64 x27, .slice x3A7 x3n7 x3c7, .slice x4A7 x4n7 x4c7, .slice x5A7 x5n7 x5c7, .int .i64 x67, .slice x7A7 x7n7 x7c7], .func (.func 37) #[] #[.pointer (some (Addr.mk H_2.size 0 none)), .pointer (some (Addr.mk H_.size 0 none)), .pointer (some (Addr.mk H_9.size 0 none))]] H_11 fun v3 H_12 =>
 ∃ r0 : Int, ∃ r1 : Int, ∃ r22 : Int, ∃ (r3A : Option Addr) (r3n r3c : Nat), ∃ (r4A : Option Addr) (r4n r4c : Nat), ∃ (r5A : Option Addr) (r5n r5c : Nat), ∃ r6 : Int, ∃ (r7A : Option Addr) (r7n r7c : Nat), v3 = .agg #[.int .u64 r0, .int .i64 r1, .int .i64 r22, .slice r3A r3n r3c, .slice r4A r4n r4c, .slice r5A r5n r5c, .int .i64 r6, .slice r7A r7n r7c] ∧ MayWrite H_12 (Addr.mk H.size 0 none) 8 ∧ NewH (setH (setH (setH (setH (setH (setH (setH (setH H_12 (Addr.mk H.size 0 none) (.int .u64 r0)) (((Addr.mk H.size 0 none)).add 1) (.int .i64 r1)) (((Addr.mk H.size 0 none)).add 2) (.int .i64 r22)) (((Addr.mk H.size 0 none)).add 3) (.slice r3A r3n r3c)) (((Addr.mk H.size 0 none)).add 4) (.slice r4A r4n r4c)) (((Addr.mk H.size 0 none)).add 5) (.slice r5A r5n r5c)) (((Addr.mk H.size 0 none)).add 6) (.int .i64 r6)) (((Addr.mk H.size 0 none)).add 7) (.slice r7A r7n r7c)) fun H_13 =>
 ∃ (xA : Option Addr) (xn xc : Nat), cellH H_13 (Addr.mk H_9.size 0 none) = some (.slice xA xn xc) ∧ ∃ x08 : Int, ∃ x18 : Int, ∃ x28 : Int, ∃ (x3A8 : Option Addr) (x3n8 x3c8 : Nat), ∃ (x4A8 : Option Addr) (x4n8 x4c8 : Nat), ∃ (x5A8 : Option Addr) (x5n8 x5c8 : Nat), ∃ x68 : Int, ∃ (x7A8 : Option Addr) (x7n8 x7c8 : Nat), cellH H_13 (Addr.mk H.size 0 none) = some (.int .u64 x08) ∧ cellH H_13 (((Addr.mk H.size 0 none)).add 1) = some (.int .i64 x18) ∧ cellH H_13 (((Addr.mk H.size 0 none)).add 2) = some (.int .i64 x28) ∧ cellH H_13 (((Addr.mk H.size 0 none)).add 3) = some (.slice x3A8 x3n8 x3c8) ∧ cellH H_13 (((Addr.mk H.size 0 none)).add 4) = some (.slice x4A8 x4n8 x4c8) ∧ cellH H_13 (((Addr.mk H.size 0 none)).add 5) = some (.slice x5A8 x5n8 x5c8) ∧ cellH H_13 (((Addr.mk H.size 0 none)).add 6) = some (.int .i64 x68) ∧ cellH H_13 (((Addr.mk H.size 0 none)).add 7) = some (.slice x7A8 x7n8 x7c8) ∧ MayWrite H_13 (Addr.mk H_3.size 0 none) 8 ∧ NewH (setH (setH (setH (setH (setH (setH (setH (setH H_13 (Addr.mk H_3.size 0 none) (.int .u64 x08)) (((Addr.mk H_3.size 0 none)).add 1) (.int .i64 x18)) (((Addr.mk H_3.size 0 none)).add 2) (.int .i64 x28)) (((Addr.mk H_3.size 0 none)).add 3) (.slice x3A8 x3n8 x3c8)) (((Addr.mk H_3.size 0 none)).add 4) (.slice x4A8 x4n8 x4c8)) (((Addr.mk H_3.size 0 none)).add 5) (.slice x5A8 x5n8 x5c8)) (((Addr.mk H_3.size 0 none)).add 6) (.int .i64 x68)) (((Addr.mk H_3.size 0 none)).add 7) (.slice x7A8 x7n8 x7c8)) fun H_14 =>
 ∃ x09 : Int, ∃ x19 : Int, ∃ x29 : Int, ∃ (x3A9 : Option Addr) (x3n9 x3c9 : Nat), ∃ (x4A9 : Option Addr) (x4n9 x4c9 : Nat), ∃ (x5A9 : Option Addr) (x5n9 x5c9 : Nat), ∃ x69 : Int, ∃ (x7A9 : Option Addr) (x7n9 x7c9 : Nat), cellH H_14 (Addr.mk H_3.size 0 none) = some (.int .u64 x09) ∧ cellH H_14 (((Addr.mk H_3.size 0 none)).add 1) = some (.int .i64 x19) ∧ cellH H_14 (((Addr.mk H_3.size 0 none)).add 2) = some (.int .i64 x29) ∧ cellH H_14 (((Addr.mk H_3.size 0 none)).add 3) = some (.slice x3A9 x3n9 x3c9) ∧ cellH H_14 (((Addr.mk H_3.size 0 none)).add 4) = some (.slice x4A9 x4n9 x4c9) ∧ cellH H_14 (((Addr.mk H_3.size 0 none)).add 5) = some (.slice x5A9 x5n9 x5c9) ∧ cellH H_14 (((Addr.mk H_3.size 0 none)).add 6) = some (.int .i64 x69) ∧ cellH H_14 (((Addr.mk H_3.size 0 none)).add 7) = some (.slice x7A9 x7n9 x7c9) ∧ R (.tuple #[.slice xA xn xc, .agg #[.int .u64 x09, .int .i64 x19, .int .i64 x29, .slice x3A9 x3n9 x3c9, .slice x4A9 x4n9 x4c9, .slice x5A9 x5n9 x5c9, .int .i64 x69, .slice x7A9 x7n9 x7c9], .int .i64 0]) H_14))))
theorem king_Say.ok (w_0 : Int) (w_1 : Int) (w_2 : Int) (w_3A : Option Addr) (w_3n w_3c : Nat) (w_4A : Option Addr) (w_4n w_4c : Nat) (w_5A : Option Addr) (w_5n w_5c : Nat) (w_6 : Int) (w_7A : Option Addr) (w_7n w_7c : Nat) (from_ : Int) (valueA : Option Addr) (valuen valuec : Nat) (H : Heap) (R : Value → Heap → Prop) (h : king_Say.W w_0 w_1 w_2 w_3A w_3n w_3c w_4A w_4n w_4c w_5A w_5n w_5c w_6 w_7A w_7n w_7c from_ valueA valuen valuec H R) : CallH P N.king_Say [.agg #[.int .u64 w_0, .int .i64 w_1, .int .i64 w_2, .slice w_3A w_3n w_3c, .slice w_4A w_4n w_4c, .slice w_5A w_5n w_5c, .int .i64 w_6, .slice w_7A w_7n w_7c], .int .i64 from_, .slice valueA valuen valuec] H R :=
 okW Try.func22 (by kernel_rfl) Try.ntmps22 king_Say.A (by kernel_rfl) (by kernel_rfl) h
def king_Agree_1.A : Ann where
 loops := fun i => match i with
   | _ => []
 plans := fun i => match i with
   | _ => .stop
def king_Agree_1.W (t : Addr) (c0 : Addr) (c1 : Addr) (H : Heap) (R : Value → Heap → Prop) : Prop :=
 ∃ (xA : Option Addr) (xn xc : Nat), cellH H c0 = some (.slice xA xn xc) ∧ CallH P N.king_phases [.pointer (some t), .slice xA xn xc] H fun v H_ =>
 ∃ (rA : Option Addr) (rn rc : Nat), v = .slice rA rn rc ∧ MayWrite H_ c1 1 ∧ NewH (setH H_ c1 (.slice rA rn rc)) fun H_2 =>
 R (.tuple #[]) H_2
theorem king_Agree_1.ok (t : Addr) (c0 : Addr) (c1 : Addr) (H : Heap) (R : Value → Heap → Prop) (h : king_Agree_1.W t c0 c1 H R) : CallH P N.king_Agree_1 [.pointer (some t), .pointer (some c0), .pointer (some c1)] H R :=
 okW Try.func28 (by kernel_rfl) Try.ntmps28 king_Agree_1.A (by kernel_rfl) (by kernel_rfl) h
def king_phases.A : Ann where
 loops := fun i => match i with
   | 8197 => [(1, .slice), (15, .int .i64)]
   | 32779 => [(29, .int .i64)]
   | _ => []
 plans := fun i => match i with
   | _ => .stop
def king_phases.W (t : Addr) (valuesA : Option Addr) (valuesn valuesc : Nat) (H : Heap) (R : Value → Heap → Prop) : Prop :=
 ∃ x : Int, cellH H (t.add 2) = some (.int .i64 x) ∧ LoopI (σ := (Option Addr × Nat × Nat) × Int) (fun κ => κ ((valuesA, valuesn, valuesc), 0) H) fun s z H_ next =>
 cond (decide (s.2 < (IntKind.i64.wrap (x + 1)))) (CallH P N.king_phase [.pointer (some t), .slice s.1.1 s.1.2.1 s.1.2.2, .int .i64 (IntKind.i64.wrap (s.2 + 1))] H_ fun v H_2 =>
 ∃ (rA : Option Addr) (rn rc : Nat), v = .slice rA rn rc ∧ next ((rA, rn, rc), IntKind.i64.wrap (s.2 + 1)) H_2)
  (0 ≤ ((s.1.2.1 : Nat) : Int) ∧ ((s.1.2.1 : Nat) : Int) ≤ ((s.1.2.1 : Nat) : Int) ∧ ((s.1.2.1 : Nat) : Int) * 24 ≤ 2 ^ 48 ∧ ((s.1.2.1 : Nat) : Int) < 2 ^ 62 ∧ NewH (H_.push (.cells (repl (Int.toNat ((s.1.2.1 : Nat) : Int)) [.slice none 0 0]).toArray 47 (0, 0))) fun H_3 =>
 LoopI (σ := Int) (fun κ => κ 0 H_3) fun s2 z2 H_4 next2 =>
 cond (decide (s2 < ((s.1.2.1 : Nat) : Int))) (∃ a : Addr, s.1.1 = some a ∧ 0 ≤ s2 ∧ s2 < ((s.1.2.1 : Nat) : Int) ∧ ∃ (xA : Option Addr) (xn xc : Nat), cellH H_4 (a.add (Int.toNat s2)) = some (.slice xA xn xc) ∧ CallH P N.slices_Clone_uint64uint64 [.slice xA xn xc] H_4 fun v2 H_5 =>
 ∃ (rA2 : Option Addr) (rn2 rc2 : Nat), v2 = .slice rA2 rn2 rc2 ∧ ∃ a2 : Addr, (some (Addr.mk H_.size 0 none) : Option Addr) = some a2 ∧ 0 ≤ s2 ∧ s2 < ((Int.toNat ((s.1.2.1 : Nat) : Int) : Nat) : Int) ∧ MayWrite H_5 (a2.add (Int.toNat s2)) 1 ∧ NewH (setH H_5 (a2.add (Int.toNat s2)) (.slice rA2 rn2 rc2)) fun H_6 =>
 next2 (IntKind.i64.wrap (s2 + 1)) H_6)
  (R (.slice (some (Addr.mk H_.size 0 none)) (Int.toNat ((s.1.2.1 : Nat) : Int)) (Int.toNat ((s.1.2.1 : Nat) : Int))) H_4))
theorem king_phases.ok (t : Addr) (valuesA : Option Addr) (valuesn valuesc : Nat) (H : Heap) (R : Value → Heap → Prop) (h : king_phases.W t valuesA valuesn valuesc H R) : CallH P N.king_phases [.pointer (some t), .slice valuesA valuesn valuesc] H R :=
 okW Try.func29 (by kernel_rfl) Try.ntmps29 king_phases.A (by kernel_rfl) (by kernel_rfl) h
def king_Say_1.A : Ann where
 loops := fun i => match i with
   | 16391 => [(25, .int .i64)]
   | _ => []
 plans := fun i => match i with
   | 6 => .first 0 (.first 1 (.first 2 (.first 3 (.first 4 (.read 5 (.read 6 (.first 7 (.first 8 (.read 9 (.first 10 (.alt 11 [5, 6, 9] (.done) (.stop))))))))))))
   | _ => .stop
def king_Say_1.W (t : Addr) (c0 : Addr) (c1 : Addr) (c2 : Addr) (H : Heap) (R : Value → Heap → Prop) : Prop :=
 ∃ x : Int, cellH H (t.add 1) = some (.int .i64 x) ∧ 0 ≤ x ∧ x ≤ x ∧ x * 24 ≤ 2 ^ 48 ∧ x < 2 ^ 62 ∧ NewH (H.push (.cells (repl (Int.toNat x) [.slice none 0 0]).toArray 47 (0, 0))) fun H_ =>
 ∃ x2 : Int, cellH H_ c1 = some (.int .i64 x2) ∧ ∃ (xA : Option Addr) (xn xc : Nat), cellH H_ c0 = some (.slice xA xn xc) ∧ ∃ a : Addr, (some (Addr.mk H.size 0 none) : Option Addr) = some a ∧ 0 ≤ (IntKind.i64.wrap (x2 - 1)) ∧ (IntKind.i64.wrap (x2 - 1)) < ((Int.toNat x : Nat) : Int) ∧ MayWrite H_ (a.add (Int.toNat (IntKind.i64.wrap (x2 - 1)))) 1 ∧ NewH (setH H_ (a.add (Int.toNat (IntKind.i64.wrap (x2 - 1)))) (.slice xA xn xc)) fun H_2 =>
 CallH P N.king_send [.pointer (some t), .slice (some (Addr.mk H.size 0 none)) (Int.toNat x) (Int.toNat x), .func (.func 39) #[] #[.pointer (some c1)]] H_2 fun v H_3 =>
 ∃ (rA : Option Addr) (rn rc : Nat), v = .slice rA rn rc ∧ LoopI (σ := Int) (fun κ => κ 0 H_3) fun s z H_4 next =>
 cond (decide (s < ((Int.toNat x : Nat) : Int))) (∃ a2 : Addr, rA = some a2 ∧ 0 ≤ s ∧ s < ((rn : Nat) : Int) ∧ ∃ (xA2 : Option Addr) (xn2 xc2 : Nat), cellH H_4 (a2.add (Int.toNat s)) = some (.slice xA2 xn2 xc2) ∧ ∃ x3 : Int, cellH H_4 c1 = some (.int .i64 x3) ∧ ∃ a3 : Addr, xA2 = some a3 ∧ 0 ≤ (IntKind.i64.wrap (x3 - 1)) ∧ (IntKind.i64.wrap (x3 - 1)) < ((xn2 : Nat) : Int) ∧ ∃ (xA3 : Option Addr) (xn3 xc3 : Nat), cellH H_4 (a3.add (Int.toNat (IntKind.i64.wrap (x3 - 1)))) = some (.slice xA3 xn3 xc3) ∧ ∃ a4 : Addr, (some (Addr.mk H.size 0 none) : Option Addr) = some a4 ∧ 0 ≤ s ∧ s < ((Int.toNat x : Nat) : Int) ∧ MayWrite H_4 (a4.add (Int.toNat s)) 1 ∧ NewH (setH H_4 (a4.add (Int.toNat s)) (.slice xA3 xn3 xc3)) fun H_5 =>
 next (IntKind.i64.wrap (s + 1)) H_5)
  (CallH P N.king_phases [.pointer (some t), .slice (some (Addr.mk H.size 0 none)) (Int.toNat x) (Int.toNat x)] H_4 fun v2 H_6 =>
 ∃ (rA2 : Option Addr) (rn2 rc2 : Nat), v2 = .slice rA2 rn2 rc2 ∧ MayWrite H_6 c2 1 ∧ NewH (setH H_6 c2 (.slice rA2 rn2 rc2)) fun H_7 =>
 R (.tuple #[]) H_7)
theorem king_Say_1.ok (t : Addr) (c0 : Addr) (c1 : Addr) (c2 : Addr) (H : Heap) (R : Value → Heap → Prop) (h : king_Say_1.W t c0 c1 c2 H R) : CallH P N.king_Say_1 [.pointer (some t), .pointer (some c0), .pointer (some c1), .pointer (some c2)] H R :=
 okW Try.func37 (by kernel_rfl) Try.ntmps37 king_Say_1.A (by kernel_rfl) (by kernel_rfl) h
def king_send.A : Ann where
 loops := fun i => match i with
   | 12299 => [(25, .int .i64)]
   | 24586 => [(32, .int .i64)]
   | _ => []
 plans := fun i => match i with
   | _ => .stop
def king_send.W (t : Addr) (valuesA : Option Addr) (valuesn valuesc : Nat) (whof : Nat) (whoa whob : Array Value) (H : Heap) (R : Value → Heap → Prop) : Prop :=
 ∃ x : Int, cellH H (t.add 1) = some (.int .i64 x) ∧ CallH P N.net_Blank [.int .i64 x] H fun v H_ =>
 ∃ (r0A : Option Addr) (r0n r0c : Nat), ∃ (r1A : Option Addr) (r1n r1c : Nat), v = .tuple #[.slice r0A r0n r0c, .slice r1A r1n r1c] ∧ LoopI (σ := Int) (fun κ => κ 0 H_) fun s z H_2 next =>
 cond (decide (s < ((valuesn : Nat) : Int))) (∃ a : Addr, valuesA = some a ∧ 0 ≤ s ∧ s < ((valuesn : Nat) : Int) ∧ ∃ (xA : Option Addr) (xn xc : Nat), cellH H_2 (a.add (Int.toNat s)) = some (.slice xA xn xc) ∧ LoopI (σ := Int) (fun κ => κ 0 H_2) fun s2 z2 H_3 next2 =>
 cond (decide (s2 < ((valuesn : Nat) : Int))) (cond (s == s2) (∃ a2 : Addr, r0A = some a2 ∧ 0 ≤ s ∧ s < ((r0n : Nat) : Int) ∧ ∃ (xA2 : Option Addr) (xn2 xc2 : Nat), cellH H_3 (a2.add (Int.toNat s)) = some (.slice xA2 xn2 xc2) ∧ ∃ a3 : Addr, xA2 = some a3 ∧ 0 ≤ s2 ∧ s2 < ((xn2 : Nat) : Int) ∧ MayWrite H_3 (a3.add (Int.toNat s2)) 1 ∧ NewH (setH H_3 (a3.add (Int.toNat s2)) (.slice xA xn xc)) fun H_4 =>
 next2 (IntKind.i64.wrap (s2 + 1)) H_4) (cond (hasB nf whof) (CallH P whof (whoa.toList ++ [.int .i64 (IntKind.i64.wrap (s + 1))] ++ whob.toList) H_3 fun v2 H_5 =>
 ∃ r : Bool, v2 = .bool r ∧ cond r (∃ a4 : Addr, r0A = some a4 ∧ 0 ≤ s ∧ s < ((r0n : Nat) : Int) ∧ ∃ (xA3 : Option Addr) (xn3 xc3 : Nat), cellH H_5 (a4.add (Int.toNat s)) = some (.slice xA3 xn3 xc3) ∧ ∃ a5 : Addr, xA3 = some a5 ∧ 0 ≤ s2 ∧ s2 < ((xn3 : Nat) : Int) ∧ MayWrite H_5 (a5.add (Int.toNat s2)) 1 ∧ NewH (setH H_5 (a5.add (Int.toNat s2)) (.slice xA xn xc)) fun H_6 =>
 next2 (IntKind.i64.wrap (s2 + 1)) H_6)
  (next2 (IntKind.i64.wrap (s2 + 1)) H_5)) False))
  (next (IntKind.i64.wrap (s + 1)) H_3))
  (CallH P N.net_Table_Round [.pointer (some t), .slice r0A r0n r0c, .slice r1A r1n r1c] H_2 fun v3 H_7 =>
 ∃ (r0A2 : Option Addr) (r0n2 r0c2 : Nat), ∃ (r1A2 : Option Addr) (r1n2 r1c2 : Nat), v3 = .tuple #[.slice r0A2 r0n2 r0c2, .slice r1A2 r1n2 r1c2] ∧ R (.slice r0A2 r0n2 r0c2) H_7)
theorem king_send.ok (t : Addr) (valuesA : Option Addr) (valuesn valuesc : Nat) (whof : Nat) (whoa whob : Array Value) (H : Heap) (R : Value → Heap → Prop) (h : king_send.W t valuesA valuesn valuesc whof whoa whob H R) : CallH P N.king_send [.pointer (some t), .slice valuesA valuesn valuesc, .func (.func whof) whoa whob] H R :=
 okW Try.func38 (by kernel_rfl) Try.ntmps38 king_send.A (by kernel_rfl) (by kernel_rfl) h
def king_Say_1_1.A : Ann where
 loops := fun i => match i with
   | _ => []
 plans := fun i => match i with
   | _ => .stop
def king_Say_1_1.W (party : Int) (c0 : Addr) (H : Heap) (R : Value → Heap → Prop) : Prop :=
 ∃ x : Int, cellH H c0 = some (.int .i64 x) ∧ R (.bool (party == x)) H
theorem king_Say_1_1.ok (party : Int) (c0 : Addr) (H : Heap) (R : Value → Heap → Prop) (h : king_Say_1_1.W party c0 H R) : CallH P N.king_Say_1_1 [.int .i64 party, .pointer (some c0)] H R :=
 okW Try.func39 (by kernel_rfl) Try.ntmps39 king_Say_1_1.A (by kernel_rfl) (by kernel_rfl) h
def king_phase.A : Ann where
 loops := fun i => match i with
   | 16391 => [(24, .int .i64)]
   | 45072 => [(51, .int .i64)]
   | _ => []
 plans := fun i => match i with
   | 2 => .first 0 (.first 1 (.first 3 (.first 4 (.alt 2 [] (.first 6 (.alt 5 [] (.first 7 (.done)) (.stop))) (.alt 5 [] (.alt 2 [] (.first 6 (.first 7 (.done))) (.stop)) (.stop))))))
   | 14 => .first 0 (.first 1 (.read 2 (.first 3 (.first 4 (.first 5 (.first 6 (.first 7 (.first 10 (.first 11 (.first 12 (.first 13 (.first 15 (.first 16 (.first 17 (.first 18 (.read 8 (.first 9 (.read 14 (.read 19 (.first 20 (.first 21 (.first 22 (.first 23 (.done))))))))))))))))))))))))
   | 15 => .first 0 (.first 1 (.first 2 (.first 3 (.first 4 (.read 5 (.read 6 (.first 7 (.first 8 (.read 9 (.first 10 (.alt 11 [5, 6, 9] (.done) (.stop))))))))))))
   | _ => .stop
def king_phase.W (t : Addr) (valuesA : Option Addr) (valuesn valuesc : Nat) (king : Int) (H : Heap) (R : Value → Heap → Prop) : Prop :=
 NewH (H.push (.cells #[.int .i64 king] 3 (0, 0))) fun H_ =>
 CallH P N.king_send [.pointer (some t), .slice valuesA valuesn valuesc, .func (.func 61) #[] #[]] H_ fun v H_2 =>
 ∃ (rA : Option Addr) (rn rc : Nat), v = .slice rA rn rc ∧ (0 ≤ ((valuesn : Nat) : Int) ∧ ((valuesn : Nat) : Int) ≤ ((valuesn : Nat) : Int) ∧ ((valuesn : Nat) : Int) * 24 ≤ 2 ^ 48 ∧ ((valuesn : Nat) : Int) < 2 ^ 62 ∧ NewH (H_2.push (.cells (repl (Int.toNat ((valuesn : Nat) : Int)) [.slice none 0 0]).toArray 47 (0, 0))) fun H_3 =>
 0 ≤ ((valuesn : Nat) : Int) ∧ ((valuesn : Nat) : Int) ≤ ((valuesn : Nat) : Int) ∧ ((valuesn : Nat) : Int) * 8 ≤ 2 ^ 48 ∧ ((valuesn : Nat) : Int) < 2 ^ 62 ∧ NewH (H_3.push (.cells (repl (Int.toNat ((valuesn : Nat) : Int)) [.int .i64 0]).toArray 3 (0, 0))) fun H_4 =>
 LoopI (σ := Int) (fun κ => κ 0 H_4) fun s z H_5 next =>
 cond (decide (s < ((valuesn : Nat) : Int))) (∃ a : Addr, rA = some a ∧ 0 ≤ s ∧ s < ((rn : Nat) : Int) ∧ ∃ (xA : Option Addr) (xn xc : Nat), cellH H_5 (a.add (Int.toNat s)) = some (.slice xA xn xc) ∧ CallH P N.king_choice [.slice xA xn xc] H_5 fun v2 H_6 =>
 ∃ (r0A : Option Addr) (r0n r0c : Nat), ∃ r1 : Int, v2 = .tuple #[.slice r0A r0n r0c, .int .i64 r1] ∧ ∃ a2 : Addr, (some (Addr.mk H_2.size 0 none) : Option Addr) = some a2 ∧ 0 ≤ s ∧ s < ((Int.toNat ((valuesn : Nat) : Int) : Nat) : Int) ∧ MayWrite H_6 (a2.add (Int.toNat s)) 1 ∧ NewH (setH H_6 (a2.add (Int.toNat s)) (.slice r0A r0n r0c)) fun H_7 =>
 ∃ a3 : Addr, (some (Addr.mk H_3.size 0 none) : Option Addr) = some a3 ∧ 0 ≤ s ∧ s < ((Int.toNat ((valuesn : Nat) : Int) : Nat) : Int) ∧ MayWrite H_7 (a3.add (Int.toNat s)) 1 ∧ NewH (setH H_7 (a3.add (Int.toNat s)) (.int .i64 r1)) fun H_8 =>
 next (IntKind.i64.wrap (s + 1)) H_8)
  (CallH P N.king_send [.pointer (some t), .slice (some (Addr.mk H_2.size 0 none)) (Int.toNat ((valuesn : Nat) : Int)) (Int.toNat ((valuesn : Nat) : Int)), .func (.func 63) #[] #[.pointer (some (Addr.mk H.size 0 none))]] H_5 fun v3 H_9 =>
 ∃ (rA2 : Option Addr) (rn2 rc2 : Nat), v3 = .slice rA2 rn2 rc2 ∧ 0 ≤ ((valuesn : Nat) : Int) ∧ ((valuesn : Nat) : Int) ≤ ((valuesn : Nat) : Int) ∧ ((valuesn : Nat) : Int) * 24 ≤ 2 ^ 48 ∧ ((valuesn : Nat) : Int) < 2 ^ 62 ∧ NewH (H_9.push (.cells (repl (Int.toNat ((valuesn : Nat) : Int)) [.slice none 0 0]).toArray 47 (0, 0))) fun H_10 =>
 LoopI (σ := Int) (fun κ => κ 0 H_10) fun s2 z2 H_11 next2 =>
 cond (decide (s2 < ((Int.toNat ((valuesn : Nat) : Int) : Nat) : Int))) (∃ a4 : Addr, (some (Addr.mk H_2.size 0 none) : Option Addr) = some a4 ∧ 0 ≤ s2 ∧ s2 < ((Int.toNat ((valuesn : Nat) : Int) : Nat) : Int) ∧ ∃ (xA2 : Option Addr) (xn2 xc2 : Nat), cellH H_11 (a4.add (Int.toNat s2)) = some (.slice xA2 xn2 xc2) ∧ ∃ a5 : Addr, (some (Addr.mk H_9.size 0 none) : Option Addr) = some a5 ∧ 0 ≤ s2 ∧ s2 < ((Int.toNat ((valuesn : Nat) : Int) : Nat) : Int) ∧ MayWrite H_11 (a5.add (Int.toNat s2)) 1 ∧ NewH (setH H_11 (a5.add (Int.toNat s2)) (.slice xA2 xn2 xc2)) fun H_12 =>
 ∃ x : Int, cellH H_12 (Addr.mk H.size 0 none) = some (.int .i64 x) ∧ cond ((IntKind.i64.wrap (s2 + 1)) != x) (∃ a6 : Addr, (some (Addr.mk H_3.size 0 none) : Option Addr) = some a6 ∧ 0 ≤ s2 ∧ s2 < ((Int.toNat ((valuesn : Nat) : Int) : Nat) : Int) ∧ ∃ x2 : Int, cellH H_12 (a6.add (Int.toNat s2)) = some (.int .i64 x2) ∧ ∃ x3 : Int, cellH H_12 (t.add 1) = some (.int .i64 x3) ∧ ∃ x4 : Int, cellH H_12 (t.add 2) = some (.int .i64 x4) ∧ cond (decide ((IntKind.i64.wrap (2 * x2)) ≤ (IntKind.i64.wrap (x3 + (IntKind.i64.wrap (2 * x4)))))) (∃ a7 : Addr, rA2 = some a7 ∧ 0 ≤ s2 ∧ s2 < ((rn2 : Nat) : Int) ∧ ∃ (xA3 : Option Addr) (xn3 xc3 : Nat), cellH H_12 (a7.add (Int.toNat s2)) = some (.slice xA3 xn3 xc3) ∧ ∃ x5 : Int, cellH H_12 (Addr.mk H.size 0 none) = some (.int .i64 x5) ∧ ∃ a8 : Addr, xA3 = some a8 ∧ 0 ≤ (IntKind.i64.wrap (x5 - 1)) ∧ (IntKind.i64.wrap (x5 - 1)) < ((xn3 : Nat) : Int) ∧ ∃ (xA4 : Option Addr) (xn4 xc4 : Nat), cellH H_12 (a8.add (Int.toNat (IntKind.i64.wrap (x5 - 1)))) = some (.slice xA4 xn4 xc4) ∧ ∃ a9 : Addr, (some (Addr.mk H_9.size 0 none) : Option Addr) = some a9 ∧ 0 ≤ s2 ∧ s2 < ((Int.toNat ((valuesn : Nat) : Int) : Nat) : Int) ∧ MayWrite H_12 (a9.add (Int.toNat s2)) 1 ∧ NewH (setH H_12 (a9.add (Int.toNat s2)) (.slice xA4 xn4 xc4)) fun H_13 =>
 next2 (IntKind.i64.wrap (s2 + 1)) H_13)
  (next2 (IntKind.i64.wrap (s2 + 1)) H_12)) (next2 (IntKind.i64.wrap (s2 + 1)) H_12))
  (R (.slice (some (Addr.mk H_9.size 0 none)) (Int.toNat ((valuesn : Nat) : Int)) (Int.toNat ((valuesn : Nat) : Int))) H_11))) ∧ 0 ≤ ((valuesn : Nat) : Int) ∧ ((valuesn : Nat) : Int) ≤ ((valuesn : Nat) : Int) ∧ ((valuesn : Nat) : Int) * 8 ≤ 2 ^ 48 ∧ ((valuesn : Nat) : Int) < 2 ^ 62 ∧ NewH (H_2.push (.cells (repl (Int.toNat ((valuesn : Nat) : Int)) [.int .i64 0]).toArray 3 (0, 0))) fun H_14 =>
 0 ≤ ((valuesn : Nat) : Int) ∧ ((valuesn : Nat) : Int) ≤ ((valuesn : Nat) : Int) ∧ ((valuesn : Nat) : Int) * 24 ≤ 2 ^ 48 ∧ ((valuesn : Nat) : Int) < 2 ^ 62 ∧ NewH (H_14.push (.cells (repl (Int.toNat ((valuesn : Nat) : Int)) [.slice none 0 0]).toArray 47 (0, 0))) fun H_15 =>
 LoopI (σ := Int) (fun κ => κ 0 H_15) fun s3 z3 H_16 next3 =>
 cond (decide (s3 < ((valuesn : Nat) : Int))) (∃ a10 : Addr, rA = some a10 ∧ 0 ≤ s3 ∧ s3 < ((rn : Nat) : Int) ∧ ∃ (xA5 : Option Addr) (xn5 xc5 : Nat), cellH H_16 (a10.add (Int.toNat s3)) = some (.slice xA5 xn5 xc5) ∧ CallH P N.king_choice [.slice xA5 xn5 xc5] H_16 fun v4 H_17 =>
 ∃ (r0A2 : Option Addr) (r0n2 r0c2 : Nat), ∃ r12 : Int, v4 = .tuple #[.slice r0A2 r0n2 r0c2, .int .i64 r12] ∧ ∃ a11 : Addr, (some (Addr.mk H_14.size 0 none) : Option Addr) = some a11 ∧ 0 ≤ s3 ∧ s3 < ((Int.toNat ((valuesn : Nat) : Int) : Nat) : Int) ∧ MayWrite H_17 (a11.add (Int.toNat s3)) 1 ∧ NewH (setH H_17 (a11.add (Int.toNat s3)) (.slice r0A2 r0n2 r0c2)) fun H_18 =>
 ∃ a12 : Addr, (some (Addr.mk H_2.size 0 none) : Option Addr) = some a12 ∧ 0 ≤ s3 ∧ s3 < ((Int.toNat ((valuesn : Nat) : Int) : Nat) : Int) ∧ MayWrite H_18 (a12.add (Int.toNat s3)) 1 ∧ NewH (setH H_18 (a12.add (Int.toNat s3)) (.int .i64 r12)) fun H_19 =>
 next3 (IntKind.i64.wrap (s3 + 1)) H_19)
  (CallH P N.king_send [.pointer (some t), .slice (some (Addr.mk H_14.size 0 none)) (Int.toNat ((valuesn : Nat) : Int)) (Int.toNat ((valuesn : Nat) : Int)), .func (.func 63) #[] #[.pointer (some (Addr.mk H.size 0 none))]] H_16 fun v5 H_20 =>
 ∃ (rA3 : Option Addr) (rn3 rc3 : Nat), v5 = .slice rA3 rn3 rc3 ∧ 0 ≤ ((valuesn : Nat) : Int) ∧ ((valuesn : Nat) : Int) ≤ ((valuesn : Nat) : Int) ∧ ((valuesn : Nat) : Int) * 24 ≤ 2 ^ 48 ∧ ((valuesn : Nat) : Int) < 2 ^ 62 ∧ NewH (H_20.push (.cells (repl (Int.toNat ((valuesn : Nat) : Int)) [.slice none 0 0]).toArray 47 (0, 0))) fun H_21 =>
 LoopI (σ := Int) (fun κ => κ 0 H_21) fun s4 z4 H_22 next4 =>
 cond (decide (s4 < ((Int.toNat ((valuesn : Nat) : Int) : Nat) : Int))) (∃ a13 : Addr, (some (Addr.mk H_14.size 0 none) : Option Addr) = some a13 ∧ 0 ≤ s4 ∧ s4 < ((Int.toNat ((valuesn : Nat) : Int) : Nat) : Int) ∧ ∃ (xA6 : Option Addr) (xn6 xc6 : Nat), cellH H_22 (a13.add (Int.toNat s4)) = some (.slice xA6 xn6 xc6) ∧ ∃ a14 : Addr, (some (Addr.mk H_20.size 0 none) : Option Addr) = some a14 ∧ 0 ≤ s4 ∧ s4 < ((Int.toNat ((valuesn : Nat) : Int) : Nat) : Int) ∧ MayWrite H_22 (a14.add (Int.toNat s4)) 1 ∧ NewH (setH H_22 (a14.add (Int.toNat s4)) (.slice xA6 xn6 xc6)) fun H_23 =>
 ∃ x6 : Int, cellH H_23 (Addr.mk H.size 0 none) = some (.int .i64 x6) ∧ cond ((IntKind.i64.wrap (s4 + 1)) != x6) (∃ a15 : Addr, (some (Addr.mk H_2.size 0 none) : Option Addr) = some a15 ∧ 0 ≤ s4 ∧ s4 < ((Int.toNat ((valuesn : Nat) : Int) : Nat) : Int) ∧ ∃ x7 : Int, cellH H_23 (a15.add (Int.toNat s4)) = some (.int .i64 x7) ∧ ∃ x8 : Int, cellH H_23 (t.add 1) = some (.int .i64 x8) ∧ ∃ x9 : Int, cellH H_23 (t.add 2) = some (.int .i64 x9) ∧ cond (decide ((IntKind.i64.wrap (2 * x7)) ≤ (IntKind.i64.wrap (x8 + (IntKind.i64.wrap (2 * x9)))))) (∃ a16 : Addr, rA3 = some a16 ∧ 0 ≤ s4 ∧ s4 < ((rn3 : Nat) : Int) ∧ ∃ (xA7 : Option Addr) (xn7 xc7 : Nat), cellH H_23 (a16.add (Int.toNat s4)) = some (.slice xA7 xn7 xc7) ∧ ∃ x10 : Int, cellH H_23 (Addr.mk H.size 0 none) = some (.int .i64 x10) ∧ ∃ a17 : Addr, xA7 = some a17 ∧ 0 ≤ (IntKind.i64.wrap (x10 - 1)) ∧ (IntKind.i64.wrap (x10 - 1)) < ((xn7 : Nat) : Int) ∧ ∃ (xA8 : Option Addr) (xn8 xc8 : Nat), cellH H_23 (a17.add (Int.toNat (IntKind.i64.wrap (x10 - 1)))) = some (.slice xA8 xn8 xc8) ∧ ∃ a18 : Addr, (some (Addr.mk H_20.size 0 none) : Option Addr) = some a18 ∧ 0 ≤ s4 ∧ s4 < ((Int.toNat ((valuesn : Nat) : Int) : Nat) : Int) ∧ MayWrite H_23 (a18.add (Int.toNat s4)) 1 ∧ NewH (setH H_23 (a18.add (Int.toNat s4)) (.slice xA8 xn8 xc8)) fun H_24 =>
 next4 (IntKind.i64.wrap (s4 + 1)) H_24)
  (next4 (IntKind.i64.wrap (s4 + 1)) H_23)) (next4 (IntKind.i64.wrap (s4 + 1)) H_23))
  (R (.slice (some (Addr.mk H_20.size 0 none)) (Int.toNat ((valuesn : Nat) : Int)) (Int.toNat ((valuesn : Nat) : Int))) H_22))
theorem king_phase.ok (t : Addr) (valuesA : Option Addr) (valuesn valuesc : Nat) (king : Int) (H : Heap) (R : Value → Heap → Prop) (h : king_phase.W t valuesA valuesn valuesc king H R) : CallH P N.king_phase [.pointer (some t), .slice valuesA valuesn valuesc, .int .i64 king] H R :=
 okW Try.func47 (by kernel_rfl) Try.ntmps47 king_phase.A (by kernel_rfl) (by kernel_rfl) h
def king_phase_1.A : Ann where
 loops := fun i => match i with
   | _ => []
 plans := fun i => match i with
   | _ => .stop
def king_phase_1.W (p0 : Int) (H : Heap) (R : Value → Heap → Prop) : Prop :=
 R (.bool true) H
theorem king_phase_1.ok (p0 : Int) (H : Heap) (R : Value → Heap → Prop) (h : king_phase_1.W p0 H R) : CallH P N.king_phase_1 [.int .i64 p0] H R :=
 okW Try.func61 (by kernel_rfl) Try.ntmps61 king_phase_1.A (by kernel_rfl) (by kernel_rfl) h
def king_choice.A : Ann where
 loops := fun i => match i with
   | 24588 => [(4, .slice), (5, .int .i64), (6, .int .i64)]
   | 32777 => [(7, .int .i64)]
   | _ => []
 plans := fun i => match i with
   | 8 => .first 0 (.first 1 (.first 2 (.first 3 (.first 4 (.first 5 (.first 6 (.first 7 (.first 9 (.first 10 (.first 11 (.read 8 (.read 12 (.alt 13 [8, 12] (.first 14 (.done)) (.stop))))))))))))))
   | _ => .stop
def king_choice.W (lA : Option Addr) (ln lc : Nat) (H : Heap) (R : Value → Heap → Prop) : Prop :=
 CallH P N.slices_Clone_LLuint64Luint64 [.slice lA ln lc] H fun v H_ =>
 ∃ (rA : Option Addr) (rn rc : Nat), v = .slice rA rn rc ∧ CallH P N.slices_SortFunc_LLuint64Luint64 [.slice rA rn rc, .func (.func 68) #[] #[]] H_ fun v2 H_2 =>
 v2 = .tuple #[] ∧ LoopI (σ := (Option Addr × Nat × Nat) × Int × Int) (fun κ => κ ((none, 0, 0), 0, 0) H_2) fun s z H_3 next =>
 cond (decide (s.2.2 < ((rn : Nat) : Int))) (LoopI (σ := Int) (fun κ => κ s.2.2 H_3) fun s2 z2 H_4 next2 =>
 cond (decide (s2 < ((rn : Nat) : Int))) (∃ a : Addr, rA = some a ∧ 0 ≤ s.2.2 ∧ s.2.2 < ((rn : Nat) : Int) ∧ ∃ a2 : Addr, rA = some a2 ∧ 0 ≤ s2 ∧ s2 < ((rn : Nat) : Int) ∧ ∃ (xA : Option Addr) (xn xc : Nat), cellH H_4 (a.add (Int.toNat s.2.2)) = some (.slice xA xn xc) ∧ ∃ (xA2 : Option Addr) (xn2 xc2 : Nat), cellH H_4 (a2.add (Int.toNat s2)) = some (.slice xA2 xn2 xc2) ∧ CallH P N.slices_Equal_uint64uint64 [.slice xA xn xc, .slice xA2 xn2 xc2] H_4 fun v3 H_5 =>
 ∃ r : Bool, v3 = .bool r ∧ cond r (next2 (IntKind.i64.wrap (s2 + 1)) H_5)
  (cond (decide ((IntKind.i64.wrap (s2 - s.2.2)) > s.2.1)) (∃ a3 : Addr, rA = some a3 ∧ 0 ≤ s.2.2 ∧ s.2.2 < ((rn : Nat) : Int) ∧ ∃ (xA3 : Option Addr) (xn3 xc3 : Nat), cellH H_5 (a3.add (Int.toNat s.2.2)) = some (.slice xA3 xn3 xc3) ∧ next ((xA3, xn3, xc3), IntKind.i64.wrap (s2 - s.2.2), s2) H_5)
  (next ((s.1.1, s.1.2.1, s.1.2.2), s.2.1, s2) H_5))) (cond (decide ((IntKind.i64.wrap (s2 - s.2.2)) > s.2.1)) (∃ a4 : Addr, rA = some a4 ∧ 0 ≤ s.2.2 ∧ s.2.2 < ((rn : Nat) : Int) ∧ ∃ (xA4 : Option Addr) (xn4 xc4 : Nat), cellH H_4 (a4.add (Int.toNat s.2.2)) = some (.slice xA4 xn4 xc4) ∧ next ((xA4, xn4, xc4), IntKind.i64.wrap (s2 - s.2.2), s2) H_4)
  (next ((s.1.1, s.1.2.1, s.1.2.2), s.2.1, s2) H_4)))
  (R (.tuple #[.slice s.1.1 s.1.2.1 s.1.2.2, .int .i64 s.2.1]) H_3)
theorem king_choice.ok (lA : Option Addr) (ln lc : Nat) (H : Heap) (R : Value → Heap → Prop) (h : king_choice.W lA ln lc H R) : CallH P N.king_choice [.slice lA ln lc] H R :=
 okW Try.func62 (by kernel_rfl) Try.ntmps62 king_choice.A (by kernel_rfl) (by kernel_rfl) h
def king_phase_2.A : Ann where
 loops := fun i => match i with
   | _ => []
 plans := fun i => match i with
   | _ => .stop
def king_phase_2.W (party : Int) (c0 : Addr) (H : Heap) (R : Value → Heap → Prop) : Prop :=
 ∃ x : Int, cellH H c0 = some (.int .i64 x) ∧ R (.bool (party == x)) H
theorem king_phase_2.ok (party : Int) (c0 : Addr) (H : Heap) (R : Value → Heap → Prop) (h : king_phase_2.W party c0 H R) : CallH P N.king_phase_2 [.int .i64 party, .pointer (some c0)] H R :=
 okW Try.func63 (by kernel_rfl) Try.ntmps63 king_phase_2.A (by kernel_rfl) (by kernel_rfl) h
end Go.Proofs.Ytpfpnkaeoedeiaa.Sh
namespace Go.Proofs.Ytpfpnkaeoedeiaa.Sh
open Go.Sx Go.Lf
def king_send.C (t : TTable) (world : TWorld) (values : (List (List Nat))) (who : (Int → (Bool → Prop) → Prop)) (K : (List (List (List Nat))) → TTable → TWorld → Prop) : Prop :=
 ∀ (Z : Nat → Prop) (τ : Nat → Nat) (H : Heap), (∀ i, τ i ≠ 0 → ¬ Z i) → ∀ (tP : Nat), ∀ (v : Int), v = (t.Setup.P : Int) → ∀ (A : Option Addr) (n c : Nat), n = t.tapes.length → SlO (rdM (slL u64L)) 47 Z (Yt τ 2) H A c t.tapes → ∀ (worldP : Nat), ∀ (v2 : Int), v2 = (world.Setup.P : Int) → ∀ (A2 : Option Addr) (n2 c2 : Nat), n2 = world.Corrupted.length → SlF i64L Z H A2 c2 world.Corrupted → ∀ (A3 : Option Addr) (n3 c3 : Nat), n3 = world.Acts.length → SlF TAct.L Z H A3 c3 world.Acts → ∀ (A4 : Option Addr) (n4 c4 : Nat), n4 = world.Tapes.length → SlO (rdM (slL u64L)) 47 Z (Yt τ 4) H A4 c4 world.Tapes → ∀ (A5 : Option Addr) (n5 c5 : Nat), n5 = world.Sent.length → SlO (rdM TSent.L) 57 Z (Yt τ 5) H A5 c5 world.Sent → BoxF 3 τ H worldP [.int .u64 v2, .int .i64 world.Setup.N, .int .i64 world.Setup.T_, .slice A2 n2 c2, .slice A3 n3 c3, .slice A4 n4 c4, .int .i64 world.Round, .slice A5 n5 c5] 30 → BoxF 1 τ H tP [.int .u64 v, .int .i64 t.Setup.N, .int .i64 t.Setup.T_, .slice A n c, .func (.func 44) #[] #[.pointer (some (Addr.mk worldP 0 none))]] 78 → ∀ (valuesA : Option Addr) (valuesn valuesc : Nat), valuesn = values.length → SlF (slL u64L) Z H valuesA valuesc values → ∀ (whoF : Nat) (whoa whob : Array Value), Fn80.F Z H whoF whoa whob who → ∀ KK : Value → Heap → Prop,
   (∀ (Z' : Nat → Prop) (τ' : Nat → Nat) (H' : Heap), Turn τ H τ' H' → OldT Z τ H Z' → (∀ i, τ' i ≠ 0 → ¬ Z' i) → ∀ (r0 : (List (List (List Nat)))), ∀ (Ar0_0 : Option Addr) (nr0_0 cr0_0 : Nat), nr0_0 = r0.length → SlF (slL (slL u64L)) Z' H' Ar0_0 cr0_0 r0 → ∀ (o0 : TTable), ∀ (vo0_0 : Int), vo0_0 = (o0.Setup.P : Int) → ∀ (Ao0_3 : Option Addr) (no0_3 co0_3 : Nat), no0_3 = o0.tapes.length → SlO (rdM (slL u64L)) 47 Z' (Yt τ' 2) H' Ao0_3 co0_3 o0.tapes → BoxF 1 τ' H' tP [.int .u64 vo0_0, .int .i64 o0.Setup.N, .int .i64 o0.Setup.T_, .slice Ao0_3 no0_3 co0_3, .func (.func 44) #[] #[.pointer (some (Addr.mk worldP 0 none))]] 78 → ∀ (o1 : TWorld), ∀ (vo1_0 : Int), vo1_0 = (o1.Setup.P : Int) → ∀ (Ao1_3 : Option Addr) (no1_3 co1_3 : Nat), no1_3 = o1.Corrupted.length → SlF i64L Z' H' Ao1_3 co1_3 o1.Corrupted → ∀ (Ao1_4 : Option Addr) (no1_4 co1_4 : Nat), no1_4 = o1.Acts.length → SlF TAct.L Z' H' Ao1_4 co1_4 o1.Acts → ∀ (Ao1_5 : Option Addr) (no1_5 co1_5 : Nat), no1_5 = o1.Tapes.length → SlO (rdM (slL u64L)) 47 Z' (Yt τ' 4) H' Ao1_5 co1_5 o1.Tapes → ∀ (Ao1_7 : Option Addr) (no1_7 co1_7 : Nat), no1_7 = o1.Sent.length → SlO (rdM TSent.L) 57 Z' (Yt τ' 5) H' Ao1_7 co1_7 o1.Sent → BoxF 3 τ' H' worldP [.int .u64 vo1_0, .int .i64 o1.Setup.N, .int .i64 o1.Setup.T_, .slice Ao1_3 no1_3 co1_3, .slice Ao1_4 no1_4 co1_4, .slice Ao1_5 no1_5 co1_5, .int .i64 o1.Round, .slice Ao1_7 no1_7 co1_7] 30 → K r0 o0 o1 → KK (.slice Ar0_0 nr0_0 cr0_0) H') →
   CallH P N.king_send [.pointer (some (Addr.mk tP 0 none)), .slice valuesA valuesn valuesc, .func (.func whoF) whoa whob] H KK
def king_send.Q (t : TTable) (world : TWorld) (values : (List (List Nat))) (who : (Int → (Bool → Prop) → Prop)) (K : (List (List (List Nat))) → TTable → TWorld → Prop) : Prop :=
 net_Blank.C t.Setup.N (fun (r : (List (List (List Nat)))) (r2 : (List (List Nat))) =>
 LoopQ (τ := Int × List (List (List Nat))) (0, r) fun t2 nextQ =>
 cond (decide (t2.1 < ((values.length : Nat) : Int))) (0 ≤ t2.1 ∧ ∃ x : (List Nat), values[Int.toNat t2.1]? = some x ∧ LoopQ (τ := Int × List (List (List Nat))) (0, t2.2) fun t3 nextQ2 =>
 cond (decide (t3.1 < ((values.length : Nat) : Int))) (cond (t2.1 == t3.1) (0 ≤ t2.1 ∧ t2.1 < ((r.length : Nat) : Int) ∧ ∃ x2 : (List (List Nat)), t3.2[Int.toNat t2.1]? = some x2 ∧ 0 ≤ t3.1 ∧ t3.1 < ((x2.length : Nat) : Int) ∧ nextQ2 (IntKind.i64.wrap (t3.1 + 1), (List.set t3.2 (Int.toNat t2.1) (List.set x2 (Int.toNat t3.1) x))))
  (who (IntKind.i64.wrap (t2.1 + 1)) (fun (x3 : Bool) =>
 cond x3 (0 ≤ t2.1 ∧ t2.1 < ((r.length : Nat) : Int) ∧ ∃ x4 : (List (List Nat)), t3.2[Int.toNat t2.1]? = some x4 ∧ 0 ≤ t3.1 ∧ t3.1 < ((x4.length : Nat) : Int) ∧ nextQ2 (IntKind.i64.wrap (t3.1 + 1), (List.set t3.2 (Int.toNat t2.1) (List.set x4 (Int.toNat t3.1) x))))
  (nextQ2 (IntKind.i64.wrap (t3.1 + 1), t3.2)))))
  (nextQ (IntKind.i64.wrap (t2.1 + 1), t3.2)))
  (net_Table_Round.C t world t2.2 r2 (fun (r5 : (List (List (List Nat)))) (r6 : (List (List Nat))) (o : TTable) (o2 : TWorld) =>
 K r5 o o2)))
theorem king_send.q {t : TTable} {world : TWorld} {values : (List (List Nat))} {who : (Int → (Bool → Prop) → Prop)} {K : (List (List (List Nat))) → TTable → TWorld → Prop} (q : king_send.Q t world values who K) : king_send.C t world values who K := by
 intro Z τ H hτ tP v he A n c hn f worldP v2 he2 A2 n2 c2 hn2 f2 A3 n3 c3 hn3 f3 A4 n4 c4 hn4 f4 A5 n5 c5 hn5 f5 b2 b valuesA valuesn valuesc hn6 f6 whoF whoa whob f7 KK hk; cases he; cases hn; cases he2; cases hn2; cases hn3; cases hn4; cases hn5; cases hn6; apply king_send.ok; unfold king_send.W; unfold king_send.Q at q; obtain ⟨σ, hz, hy, hσ⟩ := tags2 Z τ 5 hτ; have hs : Stp ([1, 2, 3, 4, 5, 6, 7] : List Nat) σ H σ H := Stp.refl _ _ _; replace f := SlO.keep f (Fr.wide hz _) (Fr.wide (hy 2 (by decide) (by decide)) _); replace f2 := f2.wide hz; replace f3 := f3.wide hz; replace f4 := SlO.keep f4 (Fr.wide hz _) (Fr.wide (hy 4 (by decide) (by decide)) _); replace f5 := SlO.keep f5 (Fr.wide hz _) (Fr.wide (hy 5 (by decide) (by decide)) _); replace b2 := BoxF.mk b2.blk (hy 3 (by decide) (by decide) _ b2.tag); replace b := BoxF.mk b.blk (hy 1 (by decide) (by decide) _ b.tag); replace f6 := f6.wide hz; replace f7 := f7.wide hz; clear hz; clear hy; refine ⟨_, b.cell 1 rfl, ?_⟩; refine q (Zt σ) H  _ (fun Z2 H_ hE hO r Y hY A6 n6 c6 hn7 f8 r2 Y2 hY2 A7 n7 c7 hn8 f9 hY3 q => ?_); obtain ⟨xσ, st, fz, fy, fy2⟩ := call2 hE hO σ 6 7 (fun _ h => h) hY hY2 hY3; replace f8 := f8.keep fz fy; replace f9 := f9.keep fz fy2; cases hn7; cases hn8; refine ⟨_, _, _, _, _, _, rfl, ?_⟩; refine LoopI.ofQ q (fun t_ s_ hp_ => ∃ σ_, Stp [6] xσ H_ σ_ hp_ ∧ t_.1 = s_ ∧ t_.2.length = r.length ∧ SlO (slM (rdM (slL u64L)) 47) 27 (Zt σ_) (Yt σ_ 6) hp_ A6 c6 t_.2) (fun h k => h _ _ k) ⟨_, Stp.refl _ _ _, rfl, rfl, f8⟩ ?_; rintro t2 _ _ H_2 next nextQ ⟨xσ2, st2, rfl, hl, f8⟩ q hnext; (try dsimp only at q ⊢); have sl3 := st2; refine condJ (fun q => ?_) (fun q => ?_) q
 · obtain ⟨xσ5, st7, f8⟩ := SlO.freeze f8; replace f9 := f9.step (st2.then st7); obtain ⟨xσ6, st8, f9⟩ := SlO.freeze f9; have c_0 := st.then (st2.then (st7.then st8)); replace f := f.step c_0; replace f2 := f2.step c_0; replace f3 := f3.step c_0; replace f4 := f4.step c_0; replace f5 := f5.step c_0; replace b2 := b2.step c_0; replace b := b.step c_0; replace f8 := f8.step st8; refine q (Zt xσ6) (ren [1, 2, 3, 4, 5] xσ6) H_2 (ren_z _ _) _ _ rfl _ _ _ rfl (SlO.keep f (Fr.refl _ _) (Fr.wide (ren_y (js := [1, 2, 3, 4, 5]) (j := 2) (m := 2) (by decide) (by decide)) _)) _ _ rfl _ _ _ rfl f2 _ _ _ rfl f3 _ _ _ rfl (SlO.keep f4 (Fr.refl _ _) (Fr.wide (ren_y (js := [1, 2, 3, 4, 5]) (j := 4) (m := 4) (by decide) (by decide)) _)) _ _ _ rfl (SlO.keep f5 (Fr.refl _ _) (Fr.wide (ren_y (js := [1, 2, 3, 4, 5]) (j := 5) (m := 5) (by decide) (by decide)) _)) ⟨b2.blk, (ren_y (js := [1, 2, 3, 4, 5]) (j := 3) (m := 3) (by decide) (by decide)) _ b2.tag⟩ ⟨b.blk, (ren_y (js := [1, 2, 3, 4, 5]) (j := 1) (m := 1) (by decide) (by decide)) _ b.tag⟩ _ _ _ ((rfl : _ = _).trans hl.symm) f8 _ _ _ rfl f9 _ (fun Z4 xτ H_7 hT hO3 hd r5 A11 n8 c11 hn9 f13 r6 A12 n9 c12 hn10 f14 o v3 he3 A13 n10 c13 hn11 f15 b o2 v4 he4 A14 n11 c14 hn12 f16 A15 n12 c15 hn13 f17 A16 n13 c16 hn14 f18 A17 n14 c17 hn15 f19 b2 q => ?_); obtain ⟨xσ7, st9, fz3, fy3⟩ := callT hT hO3 hd [1, 2, 3, 4, 5]; replace f13 := f13.keep fz3; replace f14 := f14.keep fz3; replace f15 := SlO.keep f15 fz3 (Fr.wide (fy3 1 2 rfl) _); replace b := BoxF.mk b.blk (fy3 0 1 rfl _ b.tag); replace f16 := f16.keep fz3; replace f17 := f17.keep fz3; replace f18 := SlO.keep f18 fz3 (Fr.wide (fy3 3 4 rfl) _); replace f19 := SlO.keep f19 fz3 (Fr.wide (fy3 4 5 rfl) _); replace b2 := BoxF.mk b2.blk (fy3 2 3 rfl _ b2.tag); cases hn9; cases hn10; cases he3; cases hn11; cases he4; cases hn12; cases hn13; cases hn14; cases hn15; refine ⟨_, _, _, _, _, _, rfl, ?_⟩; replace hs := hs.trans (st.then (st2.then (st7.then (st8.then st9)))); exact hk (Zt xσ7) (ren [1, 2, 3, 4, 5] xσ7) _ (hs.turn hσ) (hs.oldT hσ) (ren_z _ _) r5 _ _ _ rfl f13 o _ rfl _ _ _ rfl (SlO.keep f15 (Fr.refl _ _) (Fr.wide (ren_y (js := [1, 2, 3, 4, 5]) (j := 2) (m := 2) (by decide) (by decide)) _)) ⟨b.blk, ren_y (js := [1, 2, 3, 4, 5]) (j := 1) (m := 1) (by decide) (by decide) _ b.tag⟩ o2 _ rfl _ _ _ rfl f16 _ _ _ rfl f17 _ _ _ rfl (SlO.keep f18 (Fr.refl _ _) (Fr.wide (ren_y (js := [1, 2, 3, 4, 5]) (j := 4) (m := 4) (by decide) (by decide)) _)) _ _ _ rfl (SlO.keep f19 (Fr.refl _ _) (Fr.wide (ren_y (js := [1, 2, 3, 4, 5]) (j := 5) (m := 5) (by decide) (by decide)) _)) ⟨b2.blk, ren_y (js := [1, 2, 3, 4, 5]) (j := 3) (m := 3) (by decide) (by decide) _ b2.tag⟩ q
 obtain ⟨h0, x, hx, q⟩ := q; replace f6 := f6.step (st.then st2); obtain ⟨a, ha, hi⟩ := f6.addr h0 hx rfl; refine ⟨a, ha, hi.1, hi.2, ?_⟩; obtain ⟨A8, c8, hc, f10⟩ := f6.lds ha h0 hx; refine ⟨_, _, _, hc.val, ?_⟩; refine LoopI.ofQ q (fun t_ s_ hp_ => ∃ σ_, Stp [6] xσ2 H_2 σ_ hp_ ∧ t_.1 = s_ ∧ t_.2.length = t2.2.length ∧ SlO (slM (rdM (slL u64L)) 47) 27 (Zt σ_) (Yt σ_ 6) hp_ A6 c6 t_.2) (fun h k => h _ _ k) ⟨_, Stp.refl _ _ _, rfl, rfl, f8⟩ ?_; rintro t3 _ _ H_3 next2 nextQ2 ⟨xσ3, st3, rfl, hl2, f8⟩ q hnext2; (try dsimp only at q ⊢); have sl5 := st3; refine condJ (fun q => ?_) (fun q => ?_) q
 · replace sl3 := sl3.trans st3; exact hnext (IntKind.i64.wrap (t2.1 + 1), t3.2) _ _ ⟨_, sl3, rfl, (set_back ((rfl : _ = _).trans hl.symm) (((rfl : _ = _).trans hl.symm).trans hl2.symm) hl), f8⟩ q
 refine condI (fun q => ?_) (fun q => ?_) q
 · obtain ⟨h02, hi3, q⟩ := q; obtain ⟨a2, ha2, hi2⟩ := f8.addr h02 (((rfl : _ = _).trans hl.symm).trans hl2.symm) hi3; refine ⟨a2, ha2, hi2.1, hi2.2, ?_⟩; obtain ⟨x2, hx2, q⟩ := q; obtain ⟨A9, c9, Y3, hc2, hY4, f11, bk⟩ := f8.row ha2 h02 hx2; replace b := b.step (st.then (st2.then st3)); have g := SlO.rowF f11 (fun b hb => (hY4 b hb).1); refine ⟨_, _, _, hc2.val, ?_⟩; obtain ⟨h03, hi5, q⟩ := q; obtain ⟨a3, ha3, hi4⟩ := SlF.addr g h03 (List.getElem?_eq_getElem (idx_lt rfl h03 hi5)) rfl; refine ⟨a3, ha3, hi4.1, hi4.2, ?_⟩; have w := fun v hr => SlO.set2 (v := v) (y := x) f8 rfl ha2 h02 hx2 hc2 ha3 h03 (lt_of_n rfl hi5) hr; replace f10 := f10.step st3; refine ⟨(w _ (slL_rep rfl f10)).1, NewH.mk fun H_4 e => ?_⟩; obtain ⟨st4, f8, hh⟩ := (w _ (slL_rep rfl f10)).2 H_4 e; replace hc2 := hh _ _ hc2; replace sl5 := sl5.trans st4; exact hnext2 (IntKind.i64.wrap (t3.1 + 1), (List.set t3.2 (Int.toNat t2.1) (List.set x2 (Int.toNat t3.1) x))) _ _ ⟨_, sl5, rfl, (set_back (((rfl : _ = _).trans hl.symm).trans hl2.symm) (set_len (((rfl : _ = _).trans hl.symm).trans hl2.symm)) hl2), f8⟩ q
 replace f7 := f7.step (st.then (st2.then st3)); refine ct f7.1 ?_; refine f7.2 (Zt xσ3) H_3 (Fr.refl _ _) _ _ q  _ (fun Z3 H_5 hE2 hO2 x3 q => ?_); obtain ⟨xσ4, st5⟩ := call0 hE2 xσ3; refine ⟨_, rfl, ?_⟩; refine condJ (fun q => ?_) (fun q => ?_) q
 · replace sl5 := sl5.trans st5; replace f8 := f8.step st5; exact hnext2 (IntKind.i64.wrap (t3.1 + 1), t3.2) _ _ ⟨_, sl5, rfl, hl2, f8⟩ q
 obtain ⟨h04, hi7, q⟩ := q; replace f8 := f8.step st5; obtain ⟨a4, ha4, hi6⟩ := f8.addr h04 (((rfl : _ = _).trans hl.symm).trans hl2.symm) hi7; refine ⟨a4, ha4, hi6.1, hi6.2, ?_⟩; obtain ⟨x4, hx3, q⟩ := q; obtain ⟨A10, c10, Y4, hc3, hY5, f12, bk2⟩ := f8.row ha4 h04 hx3; replace b := b.step (st.then (st2.then (st3.then st5))); have g2 := SlO.rowF f12 (fun b hb => (hY5 b hb).1); refine ⟨_, _, _, hc3.val, ?_⟩; obtain ⟨h05, hi9, q⟩ := q; obtain ⟨a5, ha5, hi8⟩ := SlF.addr g2 h05 (List.getElem?_eq_getElem (idx_lt rfl h05 hi9)) rfl; refine ⟨a5, ha5, hi8.1, hi8.2, ?_⟩; have w2 := fun v hr => SlO.set2 (v := v) (y := x) f8 rfl ha4 h04 hx3 hc3 ha5 h05 (lt_of_n rfl hi9) hr; replace f10 := f10.step (st3.then st5); refine ⟨(w2 _ (slL_rep rfl f10)).1, NewH.mk fun H_6 e2 => ?_⟩; obtain ⟨st6, f8, hh2⟩ := (w2 _ (slL_rep rfl f10)).2 H_6 e2; replace hc3 := hh2 _ _ hc3; replace sl5 := sl5.trans (st5.then st6); exact hnext2 (IntKind.i64.wrap (t3.1 + 1), (List.set t3.2 (Int.toNat t2.1) (List.set x4 (Int.toNat t3.1) x))) _ _ ⟨_, sl5, rfl, (set_back (((rfl : _ = _).trans hl.symm).trans hl2.symm) (set_len (((rfl : _ = _).trans hl.symm).trans hl2.symm)) hl2), f8⟩ q
def king_phase_1.C (p0 : Int) (K : Bool → Prop) : Prop :=
 ∀ (Z : Nat → Prop) (H : Heap), ∀ KK : Value → Heap → Prop,
   (∀ (Z' : Nat → Prop) (H' : Heap), Ext H H' → Old Z H Z' → ∀ (r0 : Bool), K r0 → KK (.bool r0) H') →
   CallH P N.king_phase_1 [.int .i64 p0] H KK
def king_phase_1.Q (p0 : Int) (K : Bool → Prop) : Prop :=
 K true
theorem king_phase_1.q {p0 : Int} {K : Bool → Prop} (q : king_phase_1.Q p0 K) : king_phase_1.C p0 K := by
 intro Z H  KK hk; apply king_phase_1.ok; unfold king_phase_1.W; unfold king_phase_1.Q at q; obtain ⟨σ, hz, hσ⟩ := tags Z; have hs : Stp ([] : List Nat) σ H σ H := Stp.refl _ _ _; clear hz; exact hk (Zt σ) _ (hs.ext hσ) (hs.old hσ) _ q
def king_choice.C (l : (List (List Nat))) (K : (List Nat) → Int → Prop) : Prop :=
 ∀ (Z : Nat → Prop) (H : Heap), ∀ (lA : Option Addr) (ln lc : Nat), ln = l.length → SlF (slL u64L) Z H lA lc l → ∀ KK : Value → Heap → Prop,
   (∀ (Z' : Nat → Prop) (H' : Heap), Ext H H' → Old Z H Z' → ∀ (r0 : (List Nat)), ∀ (Ar0_0 : Option Addr) (nr0_0 cr0_0 : Nat), nr0_0 = r0.length → SlF u64L Z' H' Ar0_0 cr0_0 r0 → ∀ (r1 : Int), K r0 r1 → KK (.tuple #[.slice Ar0_0 nr0_0 cr0_0, .int .i64 r1]) H') →
   CallH P N.king_choice [.slice lA ln lc] H KK
def king_choice.Q (l : (List (List Nat))) (K : (List Nat) → Int → Prop) : Prop :=
 slices_Clone_LLuint64Luint64.C l (fun (x : (List (List Nat))) =>
 slices_SortFunc_LLuint64Luint64.C x (fun (o : List (List Nat)) =>
 LoopQ (τ := List Nat × Int × Int) (([] : List Nat), 0, 0) fun t nextQ =>
 cond (decide (t.2.2 < ((x.length : Nat) : Int))) (LoopQ (τ := Int) t.2.2 fun t2 nextQ2 =>
 cond (decide (t2 < ((x.length : Nat) : Int))) (0 ≤ t.2.2 ∧ t.2.2 < ((x.length : Nat) : Int) ∧ 0 ≤ t2 ∧ t2 < ((x.length : Nat) : Int) ∧ ∃ x2 : (List Nat), o[Int.toNat t.2.2]? = some x2 ∧ ∃ x3 : (List Nat), o[Int.toNat t2]? = some x3 ∧ slices_Equal_uint64uint64.C x2 x3 (fun (x4 : Bool) =>
 cond x4 (nextQ2 (IntKind.i64.wrap (t2 + 1)))
  (cond (decide ((IntKind.i64.wrap (t2 - t.2.2)) > t.2.1)) (0 ≤ t.2.2 ∧ t.2.2 < ((x.length : Nat) : Int) ∧ ∃ x5 : (List Nat), o[Int.toNat t.2.2]? = some x5 ∧ nextQ (x5, IntKind.i64.wrap (t2 - t.2.2), t2))
  (nextQ (t.1, t.2.1, t2)))))
  (cond (decide ((IntKind.i64.wrap (t2 - t.2.2)) > t.2.1)) (0 ≤ t.2.2 ∧ t.2.2 < ((x.length : Nat) : Int) ∧ ∃ x6 : (List Nat), o[Int.toNat t.2.2]? = some x6 ∧ nextQ (x6, IntKind.i64.wrap (t2 - t.2.2), t2))
  (nextQ (t.1, t.2.1, t2))))
  (K t.1 t.2.1)))
theorem king_choice.q {l : (List (List Nat))} {K : (List Nat) → Int → Prop} (q : king_choice.Q l K) : king_choice.C l K := by
 intro Z H lA ln lc hn f KK hk; cases hn; apply king_choice.ok; unfold king_choice.W; unfold king_choice.Q at q; obtain ⟨σ, hz, hσ⟩ := tags Z; have hs : Stp ([1, 2] : List Nat) σ H σ H := Stp.refl _ _ _; replace f := f.wide hz; clear hz; refine q (Zt σ) H _ _ _ rfl f _ (fun Z2 H_ hE hO x Y hY A n c hn2 f2 q => ?_); obtain ⟨xσ, st, fz, fy⟩ := call1 hE hO σ 1 (fun _ h => h) hY; replace f2 := f2.keep fz fy; cases hn2; refine ⟨_, _, _, rfl, ?_⟩; refine q (Zt xσ) (ren [1] xσ) H_ (ren_z _ _) _ _ _ rfl (SlO.keep f2 (Fr.refl _ _) (Fr.wide (ren_y (js := [1]) (j := 1) (m := 1) (by decide) (by decide)) _)) _ (fun Z3 xτ H_2 hT hO2 hd o hl f3 q => ?_); obtain ⟨xσ2, st2, fz2, fy2⟩ := callT hT hO2 hd [1]; replace f3 := SlO.keep f3 fz2 (Fr.wide (fy2 0 1 rfl) _); refine ⟨rfl, ?_⟩; have f4 := SlF.nil u64L (Zt xσ2) H_2 none 0; refine LoopI.ofQ q (fun t_ s_ hp_ => ∃ σ_ A0_ n0_ c0_, Stp [] xσ2 H_2 σ_ hp_ ∧ ((A0_, n0_, c0_), t_.2.1, t_.2.2) = s_ ∧ n0_ = t_.1.length ∧ SlF u64L (Zt σ_) hp_ A0_ c0_ t_.1) (fun h k => h _ _ k) ⟨_, _, _, _, Stp.refl _ _ _, rfl, rfl, f4⟩ ?_; rintro t _ _ H_3 next nextQ ⟨xσ3, A2, n2, c2, st3, rfl, rfl, f5⟩ q hnext; (try dsimp only at q ⊢); have sl2 := st3; refine condJ (fun q => ?_) (fun q => ?_) q
 · replace hs := hs.trans (st.then (st2.then st3)); exact hk (Zt xσ3) _ (hs.ext hσ) (hs.old hσ) _ _ _ _ rfl f5 _ q
 refine LoopI.ofQ q (fun t_ s_ hp_ => ∃ σ_, Stp [] xσ3 H_3 σ_ hp_ ∧ t_ = s_) (fun h k => h _ _ k) ⟨_, Stp.refl _ _ _, rfl⟩ ?_; rintro t2 _ _ H_4 next2 nextQ2 ⟨xσ4, st4, rfl⟩ q hnext2; (try dsimp only at q ⊢); have sl3 := st4; refine condJ (fun q => ?_) (fun q => ?_) q
 · refine condJ (fun q => ?_) (fun q => ?_) q
   · replace sl2 := sl2.trans st4; replace f5 := f5.step st4; exact hnext (t.1, t.2.1, t2) _ _ ⟨_, _, _, _, sl2, rfl, rfl, f5⟩ q
   obtain ⟨h04, hi8, q⟩ := q; replace f3 := f3.step (st3.then st4); obtain ⟨a4, ha4, hi7⟩ := f3.addr h04 ((rfl : _ = _).trans hl.symm) hi8; refine ⟨a4, ha4, hi7.1, hi7.2, ?_⟩; obtain ⟨x6, hx4, q⟩ := q; obtain ⟨A6, c6, hc4, f9⟩ := f3.lds ha4 h04 hx4; refine ⟨_, _, _, hc4.val, ?_⟩; replace sl2 := sl2.trans st4; exact hnext (x6, IntKind.i64.wrap (t2 - t.2.2), t2) _ _ ⟨_, _, _, _, sl2, rfl, rfl, f9⟩ q
 obtain ⟨h0, hi2, q⟩ := q; replace f3 := f3.step (st3.then st4); obtain ⟨a, ha, hi⟩ := f3.addr h0 ((rfl : _ = _).trans hl.symm) hi2; refine ⟨a, ha, hi.1, hi.2, ?_⟩; obtain ⟨h02, hi4, q⟩ := q; obtain ⟨a2, ha2, hi3⟩ := f3.addr h02 ((rfl : _ = _).trans hl.symm) hi4; refine ⟨a2, ha2, hi3.1, hi3.2, ?_⟩; obtain ⟨x2, hx, q⟩ := q; obtain ⟨A3, c3, hc, f6⟩ := f3.lds ha h0 hx; refine ⟨_, _, _, hc.val, ?_⟩; obtain ⟨x3, hx2, q⟩ := q; obtain ⟨A4, c4, hc2, f7⟩ := f3.lds ha2 h02 hx2; refine ⟨_, _, _, hc2.val, ?_⟩; refine q (Zt xσ4) H_4 _ _ _ rfl f6 _ _ _ rfl f7 _ (fun Z4 H_5 hE2 hO3 x4 q => ?_); obtain ⟨xσ5, st5⟩ := call0 hE2 xσ4; refine ⟨_, rfl, ?_⟩; refine condI (fun q => ?_) (fun q => ?_) q
 · replace sl3 := sl3.trans st5; exact hnext2 (IntKind.i64.wrap (t2 + 1)) _ _ ⟨_, sl3, rfl⟩ q
 refine condJ (fun q => ?_) (fun q => ?_) q
 · have c_0 := st4.then st5; replace sl2 := sl2.trans c_0; replace f5 := f5.step c_0; exact hnext (t.1, t.2.1, t2) _ _ ⟨_, _, _, _, sl2, rfl, rfl, f5⟩ q
 obtain ⟨h03, hi6, q⟩ := q; replace f3 := f3.step st5; obtain ⟨a3, ha3, hi5⟩ := f3.addr h03 ((rfl : _ = _).trans hl.symm) hi6; refine ⟨a3, ha3, hi5.1, hi5.2, ?_⟩; obtain ⟨x5, hx3, q⟩ := q; obtain ⟨A5, c5, hc3, f8⟩ := f3.lds ha3 h03 hx3; refine ⟨_, _, _, hc3.val, ?_⟩; replace sl2 := sl2.trans (st4.then st5); exact hnext (x5, IntKind.i64.wrap (t2 - t.2.2), t2) _ _ ⟨_, _, _, _, sl2, rfl, rfl, f8⟩ q
def king_phase_2.C (party : Int) (c0 : Int) (K : Bool → Prop) : Prop :=
 ∀ (Z : Nat → Prop) (H : Heap), ∀ (c0P : Addr), PtF i64L Z H c0P c0 → ∀ KK : Value → Heap → Prop,
   (∀ (Z' : Nat → Prop) (H' : Heap), Ext H H' → Old Z H Z' → ∀ (r0 : Bool), K r0 → KK (.bool r0) H') →
   CallH P N.king_phase_2 [.int .i64 party, .pointer (some c0P)] H KK
def king_phase_2.Q (party : Int) (c0 : Int) (K : Bool → Prop) : Prop :=
 K (party == c0)
theorem king_phase_2.q {party : Int} {c0 : Int} {K : Bool → Prop} (q : king_phase_2.Q party c0 K) : king_phase_2.C party c0 K := by
 intro Z H c0P f KK hk; apply king_phase_2.ok; unfold king_phase_2.W; unfold king_phase_2.Q at q; obtain ⟨σ, hz, hσ⟩ := tags Z; have hs : Stp ([] : List Nat) σ H σ H := Stp.refl _ _ _; replace f := f.wide hz; clear hz; obtain ⟨v, hc, hr⟩ := PtF.ld1 f rfl; cases hr; refine ⟨_, hc.val, ?_⟩; exact hk (Zt σ) _ (hs.ext hσ) (hs.old hσ) _ q
def king_phase.C (t : TTable) (world : TWorld) (values : (List (List Nat))) (king : Int) (K : (List (List Nat)) → TTable → TWorld → Prop) : Prop :=
 ∀ (Z : Nat → Prop) (τ : Nat → Nat) (H : Heap), (∀ i, τ i ≠ 0 → ¬ Z i) → ∀ (tP : Nat), ∀ (v : Int), v = (t.Setup.P : Int) → ∀ (A : Option Addr) (n c : Nat), n = t.tapes.length → SlO (rdM (slL u64L)) 47 Z (Yt τ 2) H A c t.tapes → ∀ (worldP : Nat), ∀ (v2 : Int), v2 = (world.Setup.P : Int) → ∀ (A2 : Option Addr) (n2 c2 : Nat), n2 = world.Corrupted.length → SlF i64L Z H A2 c2 world.Corrupted → ∀ (A3 : Option Addr) (n3 c3 : Nat), n3 = world.Acts.length → SlF TAct.L Z H A3 c3 world.Acts → ∀ (A4 : Option Addr) (n4 c4 : Nat), n4 = world.Tapes.length → SlO (rdM (slL u64L)) 47 Z (Yt τ 4) H A4 c4 world.Tapes → ∀ (A5 : Option Addr) (n5 c5 : Nat), n5 = world.Sent.length → SlO (rdM TSent.L) 57 Z (Yt τ 5) H A5 c5 world.Sent → BoxF 3 τ H worldP [.int .u64 v2, .int .i64 world.Setup.N, .int .i64 world.Setup.T_, .slice A2 n2 c2, .slice A3 n3 c3, .slice A4 n4 c4, .int .i64 world.Round, .slice A5 n5 c5] 30 → BoxF 1 τ H tP [.int .u64 v, .int .i64 t.Setup.N, .int .i64 t.Setup.T_, .slice A n c, .func (.func 44) #[] #[.pointer (some (Addr.mk worldP 0 none))]] 78 → ∀ (valuesA : Option Addr) (valuesn valuesc : Nat), valuesn = values.length → SlF (slL u64L) Z H valuesA valuesc values → ∀ KK : Value → Heap → Prop,
   (∀ (Z' : Nat → Prop) (τ' : Nat → Nat) (H' : Heap), Turn τ H τ' H' → OldT Z τ H Z' → (∀ i, τ' i ≠ 0 → ¬ Z' i) → ∀ (r0 : (List (List Nat))), ∀ (Ar0_0 : Option Addr) (nr0_0 cr0_0 : Nat), nr0_0 = r0.length → SlO (rdM (slL u64L)) 47 Z' (Yt τ' 6) H' Ar0_0 cr0_0 r0 → ∀ (o0 : TTable), ∀ (vo0_0 : Int), vo0_0 = (o0.Setup.P : Int) → ∀ (Ao0_3 : Option Addr) (no0_3 co0_3 : Nat), no0_3 = o0.tapes.length → SlO (rdM (slL u64L)) 47 Z' (Yt τ' 2) H' Ao0_3 co0_3 o0.tapes → BoxF 1 τ' H' tP [.int .u64 vo0_0, .int .i64 o0.Setup.N, .int .i64 o0.Setup.T_, .slice Ao0_3 no0_3 co0_3, .func (.func 44) #[] #[.pointer (some (Addr.mk worldP 0 none))]] 78 → ∀ (o1 : TWorld), ∀ (vo1_0 : Int), vo1_0 = (o1.Setup.P : Int) → ∀ (Ao1_3 : Option Addr) (no1_3 co1_3 : Nat), no1_3 = o1.Corrupted.length → SlF i64L Z' H' Ao1_3 co1_3 o1.Corrupted → ∀ (Ao1_4 : Option Addr) (no1_4 co1_4 : Nat), no1_4 = o1.Acts.length → SlF TAct.L Z' H' Ao1_4 co1_4 o1.Acts → ∀ (Ao1_5 : Option Addr) (no1_5 co1_5 : Nat), no1_5 = o1.Tapes.length → SlO (rdM (slL u64L)) 47 Z' (Yt τ' 4) H' Ao1_5 co1_5 o1.Tapes → ∀ (Ao1_7 : Option Addr) (no1_7 co1_7 : Nat), no1_7 = o1.Sent.length → SlO (rdM TSent.L) 57 Z' (Yt τ' 5) H' Ao1_7 co1_7 o1.Sent → BoxF 3 τ' H' worldP [.int .u64 vo1_0, .int .i64 o1.Setup.N, .int .i64 o1.Setup.T_, .slice Ao1_3 no1_3 co1_3, .slice Ao1_4 no1_4 co1_4, .slice Ao1_5 no1_5 co1_5, .int .i64 o1.Round, .slice Ao1_7 no1_7 co1_7] 30 → K r0 o0 o1 → KK (.slice Ar0_0 nr0_0 cr0_0) H') →
   CallH P N.king_phase [.pointer (some (Addr.mk tP 0 none)), .slice valuesA valuesn valuesc, .int .i64 king] H KK
def king_phase.Q (t : TTable) (world : TWorld) (values : (List (List Nat))) (king : Int) (K : (List (List Nat)) → TTable → TWorld → Prop) : Prop :=
 king_send.C t world values (fun x0_ K_ => king_phase_1.C x0_  K_) (fun (x : (List (List (List Nat)))) (o : TTable) (o2 : TWorld) =>
 (MakeOk 24 ((values.length : Nat) : Int) ∧ MakeOk 8 ((values.length : Nat) : Int) ∧ LoopQ (τ := Int × List (List Nat) × List Int) (0, (List.replicate values.length []), (List.replicate values.length 0)) fun t2 nextQ =>
 cond (decide (t2.1 < ((values.length : Nat) : Int))) (0 ≤ t2.1 ∧ ∃ x2 : (List (List Nat)), x[Int.toNat t2.1]? = some x2 ∧ king_choice.C x2 (fun (r : (List Nat)) (r2 : Int) =>
 0 ≤ t2.1 ∧ t2.1 < ((values.length : Nat) : Int) ∧ 0 ≤ t2.1 ∧ t2.1 < ((values.length : Nat) : Int) ∧ nextQ (IntKind.i64.wrap (t2.1 + 1), (List.set t2.2.1 (Int.toNat t2.1) r), (List.set t2.2.2 (Int.toNat t2.1) r2))))
  (king_send.C o o2 t2.2.1 (fun x0_ K_ => king_phase_2.C x0_ king K_) (fun (x3 : (List (List (List Nat)))) (o3 : TTable) (o4 : TWorld) =>
 MakeOk 24 ((values.length : Nat) : Int) ∧ LoopQ (τ := Int × List (List Nat)) (0, (List.replicate values.length [])) fun t3 nextQ2 =>
 cond (decide (t3.1 < ((values.length : Nat) : Int))) (0 ≤ t3.1 ∧ ∃ x4 : (List Nat), t2.2.1[Int.toNat t3.1]? = some x4 ∧ 0 ≤ t3.1 ∧ t3.1 < ((values.length : Nat) : Int) ∧ cond ((IntKind.i64.wrap (t3.1 + 1)) != king) (0 ≤ t3.1 ∧ t3.1 < ((values.length : Nat) : Int) ∧ ∃ x5 : Int, t2.2.2[Int.toNat t3.1]? = some x5 ∧ cond (decide ((IntKind.i64.wrap (2 * x5)) ≤ (IntKind.i64.wrap (o3.Setup.N + (IntKind.i64.wrap (2 * o3.Setup.T_)))))) (0 ≤ t3.1 ∧ ∃ x6 : (List (List Nat)), x3[Int.toNat t3.1]? = some x6 ∧ 0 ≤ (IntKind.i64.wrap (king - 1)) ∧ ∃ x7 : (List Nat), x6[Int.toNat (IntKind.i64.wrap (king - 1))]? = some x7 ∧ 0 ≤ t3.1 ∧ t3.1 < ((values.length : Nat) : Int) ∧ nextQ2 (IntKind.i64.wrap (t3.1 + 1), (List.set (List.set t3.2 (Int.toNat t3.1) x4) (Int.toNat t3.1) x7)))
  (nextQ2 (IntKind.i64.wrap (t3.1 + 1), (List.set t3.2 (Int.toNat t3.1) x4))))
  (nextQ2 (IntKind.i64.wrap (t3.1 + 1), (List.set t3.2 (Int.toNat t3.1) x4))))
  (K t3.2 o3 o4)))) ∧ MakeOk 8 ((values.length : Nat) : Int) ∧ MakeOk 24 ((values.length : Nat) : Int) ∧ LoopQ (τ := Int × List Int × List (List Nat)) (0, (List.replicate values.length 0), (List.replicate values.length [])) fun t2 nextQ =>
 cond (decide (t2.1 < ((values.length : Nat) : Int))) (0 ≤ t2.1 ∧ ∃ x2 : (List (List Nat)), x[Int.toNat t2.1]? = some x2 ∧ king_choice.C x2 (fun (r : (List Nat)) (r2 : Int) =>
 0 ≤ t2.1 ∧ t2.1 < ((values.length : Nat) : Int) ∧ 0 ≤ t2.1 ∧ t2.1 < ((values.length : Nat) : Int) ∧ nextQ (IntKind.i64.wrap (t2.1 + 1), (List.set t2.2.1 (Int.toNat t2.1) r2), (List.set t2.2.2 (Int.toNat t2.1) r))))
  (king_send.C o o2 t2.2.2 (fun x0_ K_ => king_phase_2.C x0_ king K_) (fun (x3 : (List (List (List Nat)))) (o3 : TTable) (o4 : TWorld) =>
 MakeOk 24 ((values.length : Nat) : Int) ∧ LoopQ (τ := Int × List (List Nat)) (0, (List.replicate values.length [])) fun t3 nextQ2 =>
 cond (decide (t3.1 < ((values.length : Nat) : Int))) (0 ≤ t3.1 ∧ ∃ x4 : (List Nat), t2.2.2[Int.toNat t3.1]? = some x4 ∧ 0 ≤ t3.1 ∧ t3.1 < ((values.length : Nat) : Int) ∧ cond ((IntKind.i64.wrap (t3.1 + 1)) != king) (0 ≤ t3.1 ∧ t3.1 < ((values.length : Nat) : Int) ∧ ∃ x5 : Int, t2.2.1[Int.toNat t3.1]? = some x5 ∧ cond (decide ((IntKind.i64.wrap (2 * x5)) ≤ (IntKind.i64.wrap (o3.Setup.N + (IntKind.i64.wrap (2 * o3.Setup.T_)))))) (0 ≤ t3.1 ∧ ∃ x6 : (List (List Nat)), x3[Int.toNat t3.1]? = some x6 ∧ 0 ≤ (IntKind.i64.wrap (king - 1)) ∧ ∃ x7 : (List Nat), x6[Int.toNat (IntKind.i64.wrap (king - 1))]? = some x7 ∧ 0 ≤ t3.1 ∧ t3.1 < ((values.length : Nat) : Int) ∧ nextQ2 (IntKind.i64.wrap (t3.1 + 1), (List.set (List.set t3.2 (Int.toNat t3.1) x4) (Int.toNat t3.1) x7)))
  (nextQ2 (IntKind.i64.wrap (t3.1 + 1), (List.set t3.2 (Int.toNat t3.1) x4))))
  (nextQ2 (IntKind.i64.wrap (t3.1 + 1), (List.set t3.2 (Int.toNat t3.1) x4))))
  (K t3.2 o3 o4))))
theorem king_phase.q {t : TTable} {world : TWorld} {values : (List (List Nat))} {king : Int} {K : (List (List Nat)) → TTable → TWorld → Prop} (q : king_phase.Q t world values king K) : king_phase.C t world values king K := by
 intro Z τ H hτ tP v he A n c hn f worldP v2 he2 A2 n2 c2 hn2 f2 A3 n3 c3 hn3 f3 A4 n4 c4 hn4 f4 A5 n5 c5 hn5 f5 b2 b valuesA valuesn valuesc hn6 f6 KK hk; cases he; cases hn; cases he2; cases hn2; cases hn3; cases hn4; cases hn5; cases hn6; apply king_phase.ok; unfold king_phase.W; unfold king_phase.Q at q; obtain ⟨σ, hz, hy, hσ⟩ := tags2 Z τ 5 hτ; have hs : Stp ([1, 2, 3, 4, 5, 6, 7, 8, 9, 10, 11] : List Nat) σ H σ H := Stp.refl _ _ _; replace f := SlO.keep f (Fr.wide hz _) (Fr.wide (hy 2 (by decide) (by decide)) _); replace f2 := f2.wide hz; replace f3 := f3.wide hz; replace f4 := SlO.keep f4 (Fr.wide hz _) (Fr.wide (hy 4 (by decide) (by decide)) _); replace f5 := SlO.keep f5 (Fr.wide hz _) (Fr.wide (hy 5 (by decide) (by decide)) _); replace b2 := BoxF.mk b2.blk (hy 3 (by decide) (by decide) _ b2.tag); replace b := BoxF.mk b.blk (hy 1 (by decide) (by decide) _ b.tag); replace f6 := f6.wide hz; clear hz; clear hy; refine NewH.mk fun H_ e => ?_; obtain ⟨xσ, st, b3⟩ := BoxF.new σ 0 e; replace f := f.step st; replace f2 := f2.step st; replace f3 := f3.step st; replace f4 := f4.step st; replace f5 := f5.step st; replace b2 := b2.step st; replace b := b.step st; replace f6 := f6.step st; refine q (Zt xσ) (ren [1, 2, 3, 4, 5] xσ) H_ (ren_z _ _) _ _ rfl _ _ _ rfl (SlO.keep f (Fr.refl _ _) (Fr.wide (ren_y (js := [1, 2, 3, 4, 5]) (j := 2) (m := 2) (by decide) (by decide)) _)) _ _ rfl _ _ _ rfl f2 _ _ _ rfl f3 _ _ _ rfl (SlO.keep f4 (Fr.refl _ _) (Fr.wide (ren_y (js := [1, 2, 3, 4, 5]) (j := 4) (m := 4) (by decide) (by decide)) _)) _ _ _ rfl (SlO.keep f5 (Fr.refl _ _) (Fr.wide (ren_y (js := [1, 2, 3, 4, 5]) (j := 5) (m := 5) (by decide) (by decide)) _)) ⟨b2.blk, (ren_y (js := [1, 2, 3, 4, 5]) (j := 3) (m := 3) (by decide) (by decide)) _ b2.tag⟩ ⟨b.blk, (ren_y (js := [1, 2, 3, 4, 5]) (j := 1) (m := 1) (by decide) (by decide)) _ b.tag⟩ _ _ _ rfl f6 (61) (#[]) (#[]) ⟨rfl, fun Z_ H_ fr_ x0_ K_ q_  KK_ hk_ => q_ Z_ H_   KK_ hk_⟩ _ (fun Z2 xτ H_2 hT hO hd x A6 n6 c6 hn7 f7 o v3 he3 A7 n7 c7 hn8 f8 b o2 v4 he4 A8 n8 c8 hn9 f9 A9 n9 c9 hn10 f10 A10 n10 c10 hn11 f11 A11 n11 c11 hn12 f12 b2 q => ?_); obtain ⟨xσ2, st2, fz, fy⟩ := callT hT hO hd [1, 2, 3, 4, 5]; replace f7 := f7.keep fz; replace f8 := SlO.keep f8 fz (Fr.wide (fy 1 2 rfl) _); replace b := BoxF.mk b.blk (fy 0 1 rfl _ b.tag); replace f9 := f9.keep fz; replace f10 := f10.keep fz; replace f11 := SlO.keep f11 fz (Fr.wide (fy 3 4 rfl) _); replace f12 := SlO.keep f12 fz (Fr.wide (fy 4 5 rfl) _); replace b2 := BoxF.mk b2.blk (fy 2 3 rfl _ b2.tag); cases hn7; cases he3; cases hn8; cases he4; cases hn9; cases hn10; cases hn11; cases hn12; refine ⟨_, _, _, rfl, ?_⟩; obtain ⟨q, qq⟩ := q; refine ⟨?_, ?_⟩
 · obtain ⟨q2, q⟩ := q; refine ⟨q2.1, Int.le_refl _, q2.w1, q2.w2, NewH.mk fun H_3 e2 => ?_⟩; obtain ⟨xσ3, st3, f13⟩ := SlO.made (O := (rdM (slL u64L))) xσ2 6 e2 (slL_zero _) q2.len; obtain ⟨q3, q⟩ := q; refine ⟨q3.1, Int.le_refl _, q3.w1, q3.w2, NewH.mk fun H_4 e3 => ?_⟩; obtain ⟨xσ4, st4, f14⟩ := SlO.made (O := (rdM i64L)) xσ3 7 e3 (i64_zero) q3.len; replace f13 := f13.step st4; refine LoopI.ofQ q (fun t_ s_ hp_ => ∃ σ_, Stp [6, 7] xσ4 H_4 σ_ hp_ ∧ t_.1 = s_ ∧ t_.2.1.length = (List.replicate values.length []).length ∧ SlO (rdM (slL u64L)) 47 (Zt σ_) (Yt σ_ 6) hp_ (some (Addr.mk H_2.size 0 none)) values.length t_.2.1 ∧ t_.2.2.length = (List.replicate values.length 0).length ∧ SlO (rdM i64L) 3 (Zt σ_) (Yt σ_ 7) hp_ (some (Addr.mk H_3.size 0 none)) values.length t_.2.2) (fun h k => h _ _ k) ⟨_, Stp.refl _ _ _, rfl, rfl, f13, rfl, f14⟩ ?_; rintro t2 _ _ H_5 next nextQ ⟨xσ5, st5, rfl, hl, f13, hl2, f14⟩ q hnext; (try dsimp only at q ⊢); have sl3 := st5; refine condI (fun q => ?_) (fun q => ?_) q
   · obtain ⟨h0, x2, hx, q⟩ := q; replace f7 := f7.step (st3.then (st4.then st5)); obtain ⟨a, ha, hi⟩ := f7.addr h0 hx rfl; refine ⟨a, ha, hi.1, hi.2, ?_⟩; obtain ⟨A12, c12, hc, f15⟩ := f7.lds ha h0 hx; refine ⟨_, _, _, hc.val, ?_⟩; refine q (Zt xσ5) H_5 _ _ _ rfl f15 _ (fun Z3 H_6 hE hO2 r A13 n12 c13 hn13 f16 r2 q => ?_); obtain ⟨xσ6, st6, fz2⟩ := callZ hE hO2 xσ5 (fun _ h => h); replace f16 := f16.keep fz2; cases hn13; refine ⟨_, _, _, _, rfl, ?_⟩; obtain ⟨h02, hi3, q⟩ := q; replace f13 := f13.step st6; obtain ⟨a2, ha2, hi2⟩ := f13.addr h02 ((rl_len _ _).trans hl.symm) hi3; refine ⟨a2, ha2, hi2.1, hi2.2, ?_⟩; have w := fun v hr => SlO.set1 (v := v) (y := r) f13 rfl ha2 h02 (lt_of_n ((rl_len _ _).trans hl.symm) hi3) hr; refine ⟨(w _ (slL_rep rfl f16)).1, NewH.mk fun H_7 e4 => ?_⟩; obtain ⟨st7, f13⟩ := (w _ (slL_rep rfl f16)).2 H_7 e4; obtain ⟨h03, hi5, q⟩ := q; replace f14 := f14.step (st6.then st7); obtain ⟨a3, ha3, hi4⟩ := f14.addr h03 ((rl_len _ _).trans hl2.symm) hi5; refine ⟨a3, ha3, hi4.1, hi4.2, ?_⟩; have w2 := fun v hr => SlO.set1 (v := v) (y := r2) f14 rfl ha3 h03 (lt_of_n ((rl_len _ _).trans hl2.symm) hi5) hr; refine ⟨(w2 _ rfl).1, NewH.mk fun H_8 e5 => ?_⟩; obtain ⟨st8, f14⟩ := (w2 _ rfl).2 H_8 e5; replace sl3 := sl3.trans (st6.then (st7.then st8)); replace f13 := f13.step st8; exact hnext (IntKind.i64.wrap (t2.1 + 1), (List.set t2.2.1 (Int.toNat t2.1) r), (List.set t2.2.2 (Int.toNat t2.1) r2)) _ _ ⟨_, sl3, rfl, (set_back ((rl_len _ _).trans hl.symm) (set_len ((rl_len _ _).trans hl.symm)) hl), f13, (set_back ((rl_len _ _).trans hl2.symm) (set_len ((rl_len _ _).trans hl2.symm)) hl2), f14⟩ q
   obtain ⟨xσ7, st9, f13⟩ := SlO.freeze f13; have c_0 := st3.then (st4.then (st5.then st9)); replace f8 := f8.step c_0; replace f9 := f9.step c_0; replace f10 := f10.step c_0; replace f11 := f11.step c_0; replace f12 := f12.step c_0; replace b2 := b2.step c_0; replace b := b.step c_0; replace b3 := b3.step (st2.then (st3.then (st4.then (st5.then st9)))); refine q (Zt xσ7) (ren [1, 2, 3, 4, 5] xσ7) H_5 (ren_z _ _) _ _ rfl _ _ _ rfl (SlO.keep f8 (Fr.refl _ _) (Fr.wide (ren_y (js := [1, 2, 3, 4, 5]) (j := 2) (m := 2) (by decide) (by decide)) _)) _ _ rfl _ _ _ rfl f9 _ _ _ rfl f10 _ _ _ rfl (SlO.keep f11 (Fr.refl _ _) (Fr.wide (ren_y (js := [1, 2, 3, 4, 5]) (j := 4) (m := 4) (by decide) (by decide)) _)) _ _ _ rfl (SlO.keep f12 (Fr.refl _ _) (Fr.wide (ren_y (js := [1, 2, 3, 4, 5]) (j := 5) (m := 5) (by decide) (by decide)) _)) ⟨b2.blk, (ren_y (js := [1, 2, 3, 4, 5]) (j := 3) (m := 3) (by decide) (by decide)) _ b2.tag⟩ ⟨b.blk, (ren_y (js := [1, 2, 3, 4, 5]) (j := 1) (m := 1) (by decide) (by decide)) _ b.tag⟩ _ _ _ ((rl_len _ _).trans hl.symm) f13 (63) (#[]) (#[.pointer (some (Addr.mk H.size 0 none))]) ⟨rfl, fun Z_ H_ fr_ x0_ K_ q_  KK_ hk_ => q_ Z_ H_  _ ((BoxF.pt (E := i64L) b3 rfl).keep fr_) KK_ hk_⟩ _ (fun Z4 xτ2 H_9 hT2 hO3 hd2 x3 A14 n13 c14 hn14 f17 o3 v5 he5 A15 n14 c15 hn15 f18 b o4 v6 he6 A16 n15 c16 hn16 f19 A17 n16 c17 hn17 f20 A18 n17 c18 hn18 f21 A19 n18 c19 hn19 f22 b2 q => ?_); obtain ⟨xσ8, st10, fz3, fy2⟩ := callT hT2 hO3 hd2 [1, 2, 3, 4, 5]; replace f17 := f17.keep fz3; replace f18 := SlO.keep f18 fz3 (Fr.wide (fy2 1 2 rfl) _); replace b := BoxF.mk b.blk (fy2 0 1 rfl _ b.tag); replace f19 := f19.keep fz3; replace f20 := f20.keep fz3; replace f21 := SlO.keep f21 fz3 (Fr.wide (fy2 3 4 rfl) _); replace f22 := SlO.keep f22 fz3 (Fr.wide (fy2 4 5 rfl) _); replace b2 := BoxF.mk b2.blk (fy2 2 3 rfl _ b2.tag); cases hn14; cases he5; cases hn15; cases he6; cases hn16; cases hn17; cases hn18; cases hn19; refine ⟨_, _, _, rfl, ?_⟩; obtain ⟨q4, q⟩ := q; refine ⟨q4.1, Int.le_refl _, q4.w1, q4.w2, NewH.mk fun H_10 e6 => ?_⟩; obtain ⟨xσ9, st11, f23⟩ := SlO.made (O := (rdM (slL u64L))) xσ8 8 e6 (slL_zero _) q4.len; refine LoopI.ofQ q (fun t_ s_ hp_ => ∃ σ_, Stp [8] xσ9 H_10 σ_ hp_ ∧ t_.1 = s_ ∧ t_.2.length = (List.replicate values.length []).length ∧ SlO (rdM (slL u64L)) 47 (Zt σ_) (Yt σ_ 8) hp_ (some (Addr.mk H_9.size 0 none)) values.length t_.2) (fun h k => h _ _ k) ⟨_, Stp.refl _ _ _, rfl, rfl, f23⟩ ?_; rintro t3 _ _ H_11 next2 nextQ2 ⟨xσ10, st12, rfl, hl3, f23⟩ q hnext2; (try dsimp only at q ⊢); have sl5 := st12; refine condJ (fun q => ?_) (fun q => ?_) q
   · replace hs := hs.trans (st.then (st2.then (st3.then (st4.then (st5.then (st9.then (st10.then (st11.then st12)))))))); have c_1 := st11.then st12; replace f18 := f18.step c_1; replace b := b.step c_1; replace f19 := f19.step c_1; replace f20 := f20.step c_1; replace f21 := f21.step c_1; replace f22 := f22.step c_1; replace b2 := b2.step c_1; exact hk (Zt xσ10) (ren [1, 2, 3, 4, 5, 8] xσ10) _ (hs.turn hσ) (hs.oldT hσ) (ren_z _ _) t3.2 _ _ _ ((rl_len _ _).trans hl3.symm) (SlO.keep f23 (Fr.refl _ _) (Fr.wide (ren_y (js := [1, 2, 3, 4, 5, 8]) (j := 8) (m := 6) (by decide) (by decide)) _)) o3 _ rfl _ _ _ rfl (SlO.keep f18 (Fr.refl _ _) (Fr.wide (ren_y (js := [1, 2, 3, 4, 5, 8]) (j := 2) (m := 2) (by decide) (by decide)) _)) ⟨b.blk, ren_y (js := [1, 2, 3, 4, 5, 8]) (j := 1) (m := 1) (by decide) (by decide) _ b.tag⟩ o4 _ rfl _ _ _ rfl f19 _ _ _ rfl f20 _ _ _ rfl (SlO.keep f21 (Fr.refl _ _) (Fr.wide (ren_y (js := [1, 2, 3, 4, 5, 8]) (j := 4) (m := 4) (by decide) (by decide)) _)) _ _ _ rfl (SlO.keep f22 (Fr.refl _ _) (Fr.wide (ren_y (js := [1, 2, 3, 4, 5, 8]) (j := 5) (m := 5) (by decide) (by decide)) _)) ⟨b2.blk, ren_y (js := [1, 2, 3, 4, 5, 8]) (j := 3) (m := 3) (by decide) (by decide) _ b2.tag⟩ q
   obtain ⟨h04, x4, hx2, q⟩ := q; replace f13 := f13.step (st10.then (st11.then st12)); obtain ⟨a4, ha4, hi6⟩ := f13.addr h04 hx2 ((rl_len _ _).trans hl.symm); refine ⟨a4, ha4, hi6.1, hi6.2, ?_⟩; obtain ⟨A20, c20, hc2, f24⟩ := f13.lds ha4 h04 hx2; refine ⟨_, _, _, hc2.val, ?_⟩; obtain ⟨h05, hi8, q⟩ := q; obtain ⟨a5, ha5, hi7⟩ := f23.addr h05 ((rl_len _ _).trans hl3.symm) hi8; refine ⟨a5, ha5, hi7.1, hi7.2, ?_⟩; have w3 := fun v hr => SlO.set1 (v := v) (y := x4) f23 rfl ha5 h05 (lt_of_n ((rl_len _ _).trans hl3.symm) hi8) hr; refine ⟨(w3 _ (slL_rep rfl f24)).1, NewH.mk fun H_12 e7 => ?_⟩; obtain ⟨st13, f23⟩ := (w3 _ (slL_rep rfl f24)).2 H_12 e7; replace b3 := b3.step (st10.then (st11.then (st12.then st13))); refine ⟨_, b3.cell0, ?_⟩; refine condJ (fun q => ?_) (fun q => ?_) q
   · replace sl5 := sl5.trans st13; exact hnext2 (IntKind.i64.wrap (t3.1 + 1), (List.set t3.2 (Int.toNat t3.1) x4)) _ _ ⟨_, sl5, rfl, (set_back ((rl_len _ _).trans hl3.symm) (set_len ((rl_len _ _).trans hl3.symm)) hl3), f23⟩ q
   obtain ⟨h06, hi10, q⟩ := q; replace f14 := f14.step (st9.then (st10.then (st11.then (st12.then st13)))); obtain ⟨a6, ha6, hi9⟩ := f14.addr h06 ((rl_len _ _).trans hl2.symm) hi10; refine ⟨a6, ha6, hi9.1, hi9.2, ?_⟩; obtain ⟨x5, hx3, q⟩ := q; have hc3 := f14.ldi ha6 h06 hx3; refine ⟨_, hc3.val, ?_⟩; replace b := b.step (st11.then (st12.then st13)); refine ⟨_, b.cell 1 rfl, ?_⟩; refine ⟨_, b.cell 2 rfl, ?_⟩; refine condJ (fun q => ?_) (fun q => ?_) q
   · replace sl5 := sl5.trans st13; exact hnext2 (IntKind.i64.wrap (t3.1 + 1), (List.set t3.2 (Int.toNat t3.1) x4)) _ _ ⟨_, sl5, rfl, (set_back ((rl_len _ _).trans hl3.symm) (set_len ((rl_len _ _).trans hl3.symm)) hl3), f23⟩ q
   obtain ⟨h07, x6, hx4, q⟩ := q; replace f17 := f17.step (st11.then (st12.then st13)); obtain ⟨a7, ha7, hi11⟩ := f17.addr h07 hx4 rfl; refine ⟨a7, ha7, hi11.1, hi11.2, ?_⟩; obtain ⟨A21, c21, hc4, f25⟩ := f17.lds ha7 h07 hx4; refine ⟨_, _, _, hc4.val, ?_⟩; refine ⟨_, b3.cell0, ?_⟩; obtain ⟨h08, x7, hx5, q⟩ := q; obtain ⟨a8, ha8, hi12⟩ := f25.addr h08 hx5 rfl; refine ⟨a8, ha8, hi12.1, hi12.2, ?_⟩; obtain ⟨A22, c22, hc5, f26⟩ := f25.lds ha8 h08 hx5; refine ⟨_, _, _, hc5.val, ?_⟩; obtain ⟨h09, hi14, q⟩ := q; obtain ⟨a9, ha9, hi13⟩ := f23.addr h09 (set_len ((rl_len _ _).trans hl3.symm)) hi14; refine ⟨a9, ha9, hi13.1, hi13.2, ?_⟩; have w4 := fun v hr => SlO.set1 (v := v) (y := x7) f23 rfl ha9 h09 (lt_of_n (set_len ((rl_len _ _).trans hl3.symm)) hi14) hr; refine ⟨(w4 _ (slL_rep rfl f26)).1, NewH.mk fun H_13 e8 => ?_⟩; obtain ⟨st14, f23⟩ := (w4 _ (slL_rep rfl f26)).2 H_13 e8; replace sl5 := sl5.trans (st13.then st14); exact hnext2 (IntKind.i64.wrap (t3.1 + 1), (List.set (List.set t3.2 (Int.toNat t3.1) x4) (Int.toNat t3.1) x7)) _ _ ⟨_, sl5, rfl, (set_back ((rl_len _ _).trans hl3.symm) (set_len (set_len ((rl_len _ _).trans hl3.symm))) hl3), f23⟩ q
 replace q := qq; clear qq; obtain ⟨q2, q⟩ := q; refine ⟨q2.1, Int.le_refl _, q2.w1, q2.w2, NewH.mk fun H_3 e2 => ?_⟩; obtain ⟨xσ3, st3, f13⟩ := SlO.made (O := (rdM i64L)) xσ2 9 e2 (i64_zero) q2.len; obtain ⟨q3, q⟩ := q; refine ⟨q3.1, Int.le_refl _, q3.w1, q3.w2, NewH.mk fun H_4 e3 => ?_⟩; obtain ⟨xσ4, st4, f14⟩ := SlO.made (O := (rdM (slL u64L))) xσ3 10 e3 (slL_zero _) q3.len; replace f13 := f13.step st4; refine LoopI.ofQ q (fun t_ s_ hp_ => ∃ σ_, Stp [9, 10] xσ4 H_4 σ_ hp_ ∧ t_.1 = s_ ∧ t_.2.1.length = (List.replicate values.length 0).length ∧ SlO (rdM i64L) 3 (Zt σ_) (Yt σ_ 9) hp_ (some (Addr.mk H_2.size 0 none)) values.length t_.2.1 ∧ t_.2.2.length = (List.replicate values.length []).length ∧ SlO (rdM (slL u64L)) 47 (Zt σ_) (Yt σ_ 10) hp_ (some (Addr.mk H_3.size 0 none)) values.length t_.2.2) (fun h k => h _ _ k) ⟨_, Stp.refl _ _ _, rfl, rfl, f13, rfl, f14⟩ ?_; rintro t2 _ _ H_5 next nextQ ⟨xσ5, st5, rfl, hl, f13, hl2, f14⟩ q hnext; (try dsimp only at q ⊢); have sl9 := st5; refine condI (fun q => ?_) (fun q => ?_) q
 · obtain ⟨h0, x2, hx, q⟩ := q; replace f7 := f7.step (st3.then (st4.then st5)); obtain ⟨a, ha, hi⟩ := f7.addr h0 hx rfl; refine ⟨a, ha, hi.1, hi.2, ?_⟩; obtain ⟨A12, c12, hc, f15⟩ := f7.lds ha h0 hx; refine ⟨_, _, _, hc.val, ?_⟩; refine q (Zt xσ5) H_5 _ _ _ rfl f15 _ (fun Z3 H_6 hE hO2 r A13 n12 c13 hn13 f16 r2 q => ?_); obtain ⟨xσ6, st6, fz2⟩ := callZ hE hO2 xσ5 (fun _ h => h); replace f16 := f16.keep fz2; cases hn13; refine ⟨_, _, _, _, rfl, ?_⟩; obtain ⟨h02, hi3, q⟩ := q; replace f14 := f14.step st6; obtain ⟨a2, ha2, hi2⟩ := f14.addr h02 ((rl_len _ _).trans hl2.symm) hi3; refine ⟨a2, ha2, hi2.1, hi2.2, ?_⟩; have w := fun v hr => SlO.set1 (v := v) (y := r) f14 rfl ha2 h02 (lt_of_n ((rl_len _ _).trans hl2.symm) hi3) hr; refine ⟨(w _ (slL_rep rfl f16)).1, NewH.mk fun H_7 e4 => ?_⟩; obtain ⟨st7, f14⟩ := (w _ (slL_rep rfl f16)).2 H_7 e4; obtain ⟨h03, hi5, q⟩ := q; replace f13 := f13.step (st6.then st7); obtain ⟨a3, ha3, hi4⟩ := f13.addr h03 ((rl_len _ _).trans hl.symm) hi5; refine ⟨a3, ha3, hi4.1, hi4.2, ?_⟩; have w2 := fun v hr => SlO.set1 (v := v) (y := r2) f13 rfl ha3 h03 (lt_of_n ((rl_len _ _).trans hl.symm) hi5) hr; refine ⟨(w2 _ rfl).1, NewH.mk fun H_8 e5 => ?_⟩; obtain ⟨st8, f13⟩ := (w2 _ rfl).2 H_8 e5; replace sl9 := sl9.trans (st6.then (st7.then st8)); replace f14 := f14.step st8; exact hnext (IntKind.i64.wrap (t2.1 + 1), (List.set t2.2.1 (Int.toNat t2.1) r2), (List.set t2.2.2 (Int.toNat t2.1) r)) _ _ ⟨_, sl9, rfl, (set_back ((rl_len _ _).trans hl.symm) (set_len ((rl_len _ _).trans hl.symm)) hl), f13, (set_back ((rl_len _ _).trans hl2.symm) (set_len ((rl_len _ _).trans hl2.symm)) hl2), f14⟩ q
 obtain ⟨xσ7, st9, f14⟩ := SlO.freeze f14; have c_2 := st3.then (st4.then (st5.then st9)); replace f8 := f8.step c_2; replace f9 := f9.step c_2; replace f10 := f10.step c_2; replace f11 := f11.step c_2; replace f12 := f12.step c_2; replace b2 := b2.step c_2; replace b := b.step c_2; replace b3 := b3.step (st2.then (st3.then (st4.then (st5.then st9)))); refine q (Zt xσ7) (ren [1, 2, 3, 4, 5] xσ7) H_5 (ren_z _ _) _ _ rfl _ _ _ rfl (SlO.keep f8 (Fr.refl _ _) (Fr.wide (ren_y (js := [1, 2, 3, 4, 5]) (j := 2) (m := 2) (by decide) (by decide)) _)) _ _ rfl _ _ _ rfl f9 _ _ _ rfl f10 _ _ _ rfl (SlO.keep f11 (Fr.refl _ _) (Fr.wide (ren_y (js := [1, 2, 3, 4, 5]) (j := 4) (m := 4) (by decide) (by decide)) _)) _ _ _ rfl (SlO.keep f12 (Fr.refl _ _) (Fr.wide (ren_y (js := [1, 2, 3, 4, 5]) (j := 5) (m := 5) (by decide) (by decide)) _)) ⟨b2.blk, (ren_y (js := [1, 2, 3, 4, 5]) (j := 3) (m := 3) (by decide) (by decide)) _ b2.tag⟩ ⟨b.blk, (ren_y (js := [1, 2, 3, 4, 5]) (j := 1) (m := 1) (by decide) (by decide)) _ b.tag⟩ _ _ _ ((rl_len _ _).trans hl2.symm) f14 (63) (#[]) (#[.pointer (some (Addr.mk H.size 0 none))]) ⟨rfl, fun Z_ H_ fr_ x0_ K_ q_  KK_ hk_ => q_ Z_ H_  _ ((BoxF.pt (E := i64L) b3 rfl).keep fr_) KK_ hk_⟩ _ (fun Z4 xτ2 H_9 hT2 hO3 hd2 x3 A14 n13 c14 hn14 f17 o3 v5 he5 A15 n14 c15 hn15 f18 b o4 v6 he6 A16 n15 c16 hn16 f19 A17 n16 c17 hn17 f20 A18 n17 c18 hn18 f21 A19 n18 c19 hn19 f22 b2 q => ?_); obtain ⟨xσ8, st10, fz3, fy2⟩ := callT hT2 hO3 hd2 [1, 2, 3, 4, 5]; replace f17 := f17.keep fz3; replace f18 := SlO.keep f18 fz3 (Fr.wide (fy2 1 2 rfl) _); replace b := BoxF.mk b.blk (fy2 0 1 rfl _ b.tag); replace f19 := f19.keep fz3; replace f20 := f20.keep fz3; replace f21 := SlO.keep f21 fz3 (Fr.wide (fy2 3 4 rfl) _); replace f22 := SlO.keep f22 fz3 (Fr.wide (fy2 4 5 rfl) _); replace b2 := BoxF.mk b2.blk (fy2 2 3 rfl _ b2.tag); cases hn14; cases he5; cases hn15; cases he6; cases hn16; cases hn17; cases hn18; cases hn19; refine ⟨_, _, _, rfl, ?_⟩; obtain ⟨q4, q⟩ := q; refine ⟨q4.1, Int.le_refl _, q4.w1, q4.w2, NewH.mk fun H_10 e6 => ?_⟩; obtain ⟨xσ9, st11, f23⟩ := SlO.made (O := (rdM (slL u64L))) xσ8 11 e6 (slL_zero _) q4.len; refine LoopI.ofQ q (fun t_ s_ hp_ => ∃ σ_, Stp [11] xσ9 H_10 σ_ hp_ ∧ t_.1 = s_ ∧ t_.2.length = (List.replicate values.length []).length ∧ SlO (rdM (slL u64L)) 47 (Zt σ_) (Yt σ_ 11) hp_ (some (Addr.mk H_9.size 0 none)) values.length t_.2) (fun h k => h _ _ k) ⟨_, Stp.refl _ _ _, rfl, rfl, f23⟩ ?_; rintro t3 _ _ H_11 next2 nextQ2 ⟨xσ10, st12, rfl, hl3, f23⟩ q hnext2; (try dsimp only at q ⊢); have sl11 := st12; refine condJ (fun q => ?_) (fun q => ?_) q
 · replace hs := hs.trans (st.then (st2.then (st3.then (st4.then (st5.then (st9.then (st10.then (st11.then st12)))))))); have c_3 := st11.then st12; replace f18 := f18.step c_3; replace b := b.step c_3; replace f19 := f19.step c_3; replace f20 := f20.step c_3; replace f21 := f21.step c_3; replace f22 := f22.step c_3; replace b2 := b2.step c_3; exact hk (Zt xσ10) (ren [1, 2, 3, 4, 5, 11] xσ10) _ (hs.turn hσ) (hs.oldT hσ) (ren_z _ _) t3.2 _ _ _ ((rl_len _ _).trans hl3.symm) (SlO.keep f23 (Fr.refl _ _) (Fr.wide (ren_y (js := [1, 2, 3, 4, 5, 11]) (j := 11) (m := 6) (by decide) (by decide)) _)) o3 _ rfl _ _ _ rfl (SlO.keep f18 (Fr.refl _ _) (Fr.wide (ren_y (js := [1, 2, 3, 4, 5, 11]) (j := 2) (m := 2) (by decide) (by decide)) _)) ⟨b.blk, ren_y (js := [1, 2, 3, 4, 5, 11]) (j := 1) (m := 1) (by decide) (by decide) _ b.tag⟩ o4 _ rfl _ _ _ rfl f19 _ _ _ rfl f20 _ _ _ rfl (SlO.keep f21 (Fr.refl _ _) (Fr.wide (ren_y (js := [1, 2, 3, 4, 5, 11]) (j := 4) (m := 4) (by decide) (by decide)) _)) _ _ _ rfl (SlO.keep f22 (Fr.refl _ _) (Fr.wide (ren_y (js := [1, 2, 3, 4, 5, 11]) (j := 5) (m := 5) (by decide) (by decide)) _)) ⟨b2.blk, ren_y (js := [1, 2, 3, 4, 5, 11]) (j := 3) (m := 3) (by decide) (by decide) _ b2.tag⟩ q
 obtain ⟨h04, x4, hx2, q⟩ := q; replace f14 := f14.step (st10.then (st11.then st12)); obtain ⟨a4, ha4, hi6⟩ := f14.addr h04 hx2 ((rl_len _ _).trans hl2.symm); refine ⟨a4, ha4, hi6.1, hi6.2, ?_⟩; obtain ⟨A20, c20, hc2, f24⟩ := f14.lds ha4 h04 hx2; refine ⟨_, _, _, hc2.val, ?_⟩; obtain ⟨h05, hi8, q⟩ := q; obtain ⟨a5, ha5, hi7⟩ := f23.addr h05 ((rl_len _ _).trans hl3.symm) hi8; refine ⟨a5, ha5, hi7.1, hi7.2, ?_⟩; have w3 := fun v hr => SlO.set1 (v := v) (y := x4) f23 rfl ha5 h05 (lt_of_n ((rl_len _ _).trans hl3.symm) hi8) hr; refine ⟨(w3 _ (slL_rep rfl f24)).1, NewH.mk fun H_12 e7 => ?_⟩; obtain ⟨st13, f23⟩ := (w3 _ (slL_rep rfl f24)).2 H_12 e7; replace b3 := b3.step (st10.then (st11.then (st12.then st13))); refine ⟨_, b3.cell0, ?_⟩; refine condJ (fun q => ?_) (fun q => ?_) q
 · replace sl11 := sl11.trans st13; exact hnext2 (IntKind.i64.wrap (t3.1 + 1), (List.set t3.2 (Int.toNat t3.1) x4)) _ _ ⟨_, sl11, rfl, (set_back ((rl_len _ _).trans hl3.symm) (set_len ((rl_len _ _).trans hl3.symm)) hl3), f23⟩ q
 obtain ⟨h06, hi10, q⟩ := q; replace f13 := f13.step (st9.then (st10.then (st11.then (st12.then st13)))); obtain ⟨a6, ha6, hi9⟩ := f13.addr h06 ((rl_len _ _).trans hl.symm) hi10; refine ⟨a6, ha6, hi9.1, hi9.2, ?_⟩; obtain ⟨x5, hx3, q⟩ := q; have hc3 := f13.ldi ha6 h06 hx3; refine ⟨_, hc3.val, ?_⟩; replace b := b.step (st11.then (st12.then st13)); refine ⟨_, b.cell 1 rfl, ?_⟩; refine ⟨_, b.cell 2 rfl, ?_⟩; refine condJ (fun q => ?_) (fun q => ?_) q
 · replace sl11 := sl11.trans st13; exact hnext2 (IntKind.i64.wrap (t3.1 + 1), (List.set t3.2 (Int.toNat t3.1) x4)) _ _ ⟨_, sl11, rfl, (set_back ((rl_len _ _).trans hl3.symm) (set_len ((rl_len _ _).trans hl3.symm)) hl3), f23⟩ q
 obtain ⟨h07, x6, hx4, q⟩ := q; replace f17 := f17.step (st11.then (st12.then st13)); obtain ⟨a7, ha7, hi11⟩ := f17.addr h07 hx4 rfl; refine ⟨a7, ha7, hi11.1, hi11.2, ?_⟩; obtain ⟨A21, c21, hc4, f25⟩ := f17.lds ha7 h07 hx4; refine ⟨_, _, _, hc4.val, ?_⟩; refine ⟨_, b3.cell0, ?_⟩; obtain ⟨h08, x7, hx5, q⟩ := q; obtain ⟨a8, ha8, hi12⟩ := f25.addr h08 hx5 rfl; refine ⟨a8, ha8, hi12.1, hi12.2, ?_⟩; obtain ⟨A22, c22, hc5, f26⟩ := f25.lds ha8 h08 hx5; refine ⟨_, _, _, hc5.val, ?_⟩; obtain ⟨h09, hi14, q⟩ := q; obtain ⟨a9, ha9, hi13⟩ := f23.addr h09 (set_len ((rl_len _ _).trans hl3.symm)) hi14; refine ⟨a9, ha9, hi13.1, hi13.2, ?_⟩; have w4 := fun v hr => SlO.set1 (v := v) (y := x7) f23 rfl ha9 h09 (lt_of_n (set_len ((rl_len _ _).trans hl3.symm)) hi14) hr; refine ⟨(w4 _ (slL_rep rfl f26)).1, NewH.mk fun H_13 e8 => ?_⟩; obtain ⟨st14, f23⟩ := (w4 _ (slL_rep rfl f26)).2 H_13 e8; replace sl11 := sl11.trans (st13.then st14); exact hnext2 (IntKind.i64.wrap (t3.1 + 1), (List.set (List.set t3.2 (Int.toNat t3.1) x4) (Int.toNat t3.1) x7)) _ _ ⟨_, sl11, rfl, (set_back ((rl_len _ _).trans hl3.symm) (set_len (set_len ((rl_len _ _).trans hl3.symm))) hl3), f23⟩ q
def king_phases.C (t : TTable) (world : TWorld) (values : (List (List Nat))) (K : (List (List Nat)) → TTable → TWorld → Prop) : Prop :=
 ∀ (Z : Nat → Prop) (τ : Nat → Nat) (H : Heap), (∀ i, τ i ≠ 0 → ¬ Z i) → ∀ (tP : Nat), ∀ (v : Int), v = (t.Setup.P : Int) → ∀ (A : Option Addr) (n c : Nat), n = t.tapes.length → SlO (rdM (slL u64L)) 47 Z (Yt τ 2) H A c t.tapes → ∀ (worldP : Nat), ∀ (v2 : Int), v2 = (world.Setup.P : Int) → ∀ (A2 : Option Addr) (n2 c2 : Nat), n2 = world.Corrupted.length → SlF i64L Z H A2 c2 world.Corrupted → ∀ (A3 : Option Addr) (n3 c3 : Nat), n3 = world.Acts.length → SlF TAct.L Z H A3 c3 world.Acts → ∀ (A4 : Option Addr) (n4 c4 : Nat), n4 = world.Tapes.length → SlO (rdM (slL u64L)) 47 Z (Yt τ 4) H A4 c4 world.Tapes → ∀ (A5 : Option Addr) (n5 c5 : Nat), n5 = world.Sent.length → SlO (rdM TSent.L) 57 Z (Yt τ 5) H A5 c5 world.Sent → BoxF 3 τ H worldP [.int .u64 v2, .int .i64 world.Setup.N, .int .i64 world.Setup.T_, .slice A2 n2 c2, .slice A3 n3 c3, .slice A4 n4 c4, .int .i64 world.Round, .slice A5 n5 c5] 30 → BoxF 1 τ H tP [.int .u64 v, .int .i64 t.Setup.N, .int .i64 t.Setup.T_, .slice A n c, .func (.func 44) #[] #[.pointer (some (Addr.mk worldP 0 none))]] 78 → ∀ (valuesA : Option Addr) (valuesn valuesc : Nat), valuesn = values.length → SlF (slL u64L) Z H valuesA valuesc values → ∀ KK : Value → Heap → Prop,
   (∀ (Z' : Nat → Prop) (τ' : Nat → Nat) (H' : Heap), Turn τ H τ' H' → OldT Z τ H Z' → (∀ i, τ' i ≠ 0 → ¬ Z' i) → ∀ (r0 : (List (List Nat))), ∀ (Ar0_0 : Option Addr) (nr0_0 cr0_0 : Nat), nr0_0 = r0.length → SlO (rdM (slL u64L)) 47 Z' (Yt τ' 6) H' Ar0_0 cr0_0 r0 → ∀ (o0 : TTable), ∀ (vo0_0 : Int), vo0_0 = (o0.Setup.P : Int) → ∀ (Ao0_3 : Option Addr) (no0_3 co0_3 : Nat), no0_3 = o0.tapes.length → SlO (rdM (slL u64L)) 47 Z' (Yt τ' 2) H' Ao0_3 co0_3 o0.tapes → BoxF 1 τ' H' tP [.int .u64 vo0_0, .int .i64 o0.Setup.N, .int .i64 o0.Setup.T_, .slice Ao0_3 no0_3 co0_3, .func (.func 44) #[] #[.pointer (some (Addr.mk worldP 0 none))]] 78 → ∀ (o1 : TWorld), ∀ (vo1_0 : Int), vo1_0 = (o1.Setup.P : Int) → ∀ (Ao1_3 : Option Addr) (no1_3 co1_3 : Nat), no1_3 = o1.Corrupted.length → SlF i64L Z' H' Ao1_3 co1_3 o1.Corrupted → ∀ (Ao1_4 : Option Addr) (no1_4 co1_4 : Nat), no1_4 = o1.Acts.length → SlF TAct.L Z' H' Ao1_4 co1_4 o1.Acts → ∀ (Ao1_5 : Option Addr) (no1_5 co1_5 : Nat), no1_5 = o1.Tapes.length → SlO (rdM (slL u64L)) 47 Z' (Yt τ' 4) H' Ao1_5 co1_5 o1.Tapes → ∀ (Ao1_7 : Option Addr) (no1_7 co1_7 : Nat), no1_7 = o1.Sent.length → SlO (rdM TSent.L) 57 Z' (Yt τ' 5) H' Ao1_7 co1_7 o1.Sent → BoxF 3 τ' H' worldP [.int .u64 vo1_0, .int .i64 o1.Setup.N, .int .i64 o1.Setup.T_, .slice Ao1_3 no1_3 co1_3, .slice Ao1_4 no1_4 co1_4, .slice Ao1_5 no1_5 co1_5, .int .i64 o1.Round, .slice Ao1_7 no1_7 co1_7] 30 → K r0 o0 o1 → KK (.slice Ar0_0 nr0_0 cr0_0) H') →
   CallH P N.king_phases [.pointer (some (Addr.mk tP 0 none)), .slice valuesA valuesn valuesc] H KK
def king_phases.Q (t : TTable) (world : TWorld) (values : (List (List Nat))) (K : (List (List Nat)) → TTable → TWorld → Prop) : Prop :=
 LoopQ (τ := List (List Nat) × Int × TTable × TWorld) (values, 0, t, world) fun t2 nextQ =>
 cond (decide (t2.2.1 < (IntKind.i64.wrap (t.Setup.T_ + 1)))) (king_phase.C t2.2.2.1 t2.2.2.2 t2.1 (IntKind.i64.wrap (t2.2.1 + 1)) (fun (x3 : (List (List Nat))) (o : TTable) (o2 : TWorld) =>
 nextQ (x3, IntKind.i64.wrap (t2.2.1 + 1), o, o2)))
  (MakeOk 24 ((t2.1.length : Nat) : Int) ∧ LoopQ (τ := Int × List (List Nat)) (0, (List.replicate t2.1.length [])) fun t3 nextQ2 =>
 cond (decide (t3.1 < ((t2.1.length : Nat) : Int))) (0 ≤ t3.1 ∧ ∃ x4 : (List Nat), t2.1[Int.toNat t3.1]? = some x4 ∧ slices_Clone_uint64uint64.C x4 (fun (x5 : (List Nat)) =>
 0 ≤ t3.1 ∧ t3.1 < ((t2.1.length : Nat) : Int) ∧ nextQ2 (IntKind.i64.wrap (t3.1 + 1), (List.set t3.2 (Int.toNat t3.1) x5))))
  (K t3.2 t2.2.2.1 t2.2.2.2))
theorem king_phases.q {t : TTable} {world : TWorld} {values : (List (List Nat))} {K : (List (List Nat)) → TTable → TWorld → Prop} (q : king_phases.Q t world values K) : king_phases.C t world values K := by
 intro Z τ H hτ tP v he A n c hn f worldP v2 he2 A2 n2 c2 hn2 f2 A3 n3 c3 hn3 f3 A4 n4 c4 hn4 f4 A5 n5 c5 hn5 f5 b2 b valuesA valuesn valuesc hn6 f6 KK hk; cases he; cases hn; cases he2; cases hn2; cases hn3; cases hn4; cases hn5; cases hn6; apply king_phases.ok; unfold king_phases.W; unfold king_phases.Q at q; obtain ⟨σ, hz, hy, hσ⟩ := tags2 Z τ 5 hτ; have hs : Stp ([1, 2, 3, 4, 5, 6, 7, 8] : List Nat) σ H σ H := Stp.refl _ _ _; replace f := SlO.keep f (Fr.wide hz _) (Fr.wide (hy 2 (by decide) (by decide)) _); replace f2 := f2.wide hz; replace f3 := f3.wide hz; replace f4 := SlO.keep f4 (Fr.wide hz _) (Fr.wide (hy 4 (by decide) (by decide)) _); replace f5 := SlO.keep f5 (Fr.wide hz _) (Fr.wide (hy 5 (by decide) (by decide)) _); replace b2 := BoxF.mk b2.blk (hy 3 (by decide) (by decide) _ b2.tag); replace b := BoxF.mk b.blk (hy 1 (by decide) (by decide) _ b.tag); replace f6 := f6.wide hz; clear hz; clear hy; refine ⟨_, b.cell 2 rfl, ?_⟩; refine LoopI.ofQ q (fun t_ s_ hp_ => ∃ σ_ A0_ n0_ c0_ x2_0 A2_3 n2_3 c2_3 x3_0 A3_3 n3_3 c3_3 A3_4 n3_4 c3_4 A3_5 n3_5 c3_5 A3_7 n3_7 c3_7, Stp [1, 2, 3, 4, 5, 6] σ H σ_ hp_ ∧ ((A0_, n0_, c0_), t_.2.1) = s_ ∧ n0_ = t_.1.length ∧ SlF (slL u64L) (Zt σ_) hp_ A0_ c0_ t_.1 ∧ x2_0 = ((t_.2.2.1.Setup.P : Nat) : Int) ∧ n2_3 = t_.2.2.1.tapes.length ∧ SlO (rdM (slL u64L)) 47 (Zt σ_) (Yt σ_ 2) hp_ A2_3 c2_3 t_.2.2.1.tapes ∧ BoxF 1 σ_ hp_ tP [.int .u64 x2_0, .int .i64 t_.2.2.1.Setup.N, .int .i64 t_.2.2.1.Setup.T_, .slice A2_3 n2_3 c2_3, .func (.func 44) #[] #[.pointer (some (Addr.mk worldP 0 none))]] 78 ∧ x3_0 = ((t_.2.2.2.Setup.P : Nat) : Int) ∧ n3_3 = t_.2.2.2.Corrupted.length ∧ SlF i64L (Zt σ_) hp_ A3_3 c3_3 t_.2.2.2.Corrupted ∧ n3_4 = t_.2.2.2.Acts.length ∧ SlF TAct.L (Zt σ_) hp_ A3_4 c3_4 t_.2.2.2.Acts ∧ n3_5 = t_.2.2.2.Tapes.length ∧ SlO (rdM (slL u64L)) 47 (Zt σ_) (Yt σ_ 4) hp_ A3_5 c3_5 t_.2.2.2.Tapes ∧ n3_7 = t_.2.2.2.Sent.length ∧ SlO (rdM TSent.L) 57 (Zt σ_) (Yt σ_ 5) hp_ A3_7 c3_7 t_.2.2.2.Sent ∧ BoxF 3 σ_ hp_ worldP [.int .u64 x3_0, .int .i64 t_.2.2.2.Setup.N, .int .i64 t_.2.2.2.Setup.T_, .slice A3_3 n3_3 c3_3, .slice A3_4 n3_4 c3_4, .slice A3_5 n3_5 c3_5, .int .i64 t_.2.2.2.Round, .slice A3_7 n3_7 c3_7] 30) (fun h k => h _ _ k) ⟨_, _, _, _, _, _, _, _, _, _, _, _, _, _, _, _, _, _, _, _, _, Stp.refl _ _ _, rfl, rfl, f6, rfl, rfl, f, b, rfl, rfl, f2, rfl, f3, rfl, f4, rfl, f5, b2⟩ ?_; rintro t2 _ _ H_ next nextQ ⟨xσ, A6, n6, c6, x, A7, n7, c7, x2, A8, n8, c8, A9, n9, c9, A10, n10, c10, A11, n11, c11, st, rfl, rfl, f7, rfl, rfl, f8, b, rfl, rfl, f9, rfl, f10, rfl, f11, rfl, f12, b2⟩ q hnext; (try dsimp only at q ⊢); have sl3 := st; refine condI (fun q => ?_) (fun q => ?_) q
 · refine q (Zt xσ) (ren [1, 2, 3, 4, 5] xσ) H_ (ren_z _ _) _ _ rfl _ _ _ rfl (SlO.keep f8 (Fr.refl _ _) (Fr.wide (ren_y (js := [1, 2, 3, 4, 5]) (j := 2) (m := 2) (by decide) (by decide)) _)) _ _ rfl _ _ _ rfl f9 _ _ _ rfl f10 _ _ _ rfl (SlO.keep f11 (Fr.refl _ _) (Fr.wide (ren_y (js := [1, 2, 3, 4, 5]) (j := 4) (m := 4) (by decide) (by decide)) _)) _ _ _ rfl (SlO.keep f12 (Fr.refl _ _) (Fr.wide (ren_y (js := [1, 2, 3, 4, 5]) (j := 5) (m := 5) (by decide) (by decide)) _)) ⟨b2.blk, (ren_y (js := [1, 2, 3, 4, 5]) (j := 3) (m := 3) (by decide) (by decide)) _ b2.tag⟩ ⟨b.blk, (ren_y (js := [1, 2, 3, 4, 5]) (j := 1) (m := 1) (by decide) (by decide)) _ b.tag⟩ _ _ _ rfl f7 _ (fun Z2 xτ H_2 hT hO hd x3 A12 n12 c12 hn7 f13 o v3 he3 A13 n13 c13 hn8 f14 b o2 v4 he4 A14 n14 c14 hn9 f15 A15 n15 c15 hn10 f16 A16 n16 c16 hn11 f17 A17 n17 c17 hn12 f18 b2 q => ?_); obtain ⟨xσ2, st2, fz, fy⟩ := callT hT hO hd [1, 2, 3, 4, 5, 6]; replace f13 := SlO.keep f13 fz (Fr.wide (fy 5 6 rfl) _); replace f14 := SlO.keep f14 fz (Fr.wide (fy 1 2 rfl) _); replace b := BoxF.mk b.blk (fy 0 1 rfl _ b.tag); replace f15 := f15.keep fz; replace f16 := f16.keep fz; replace f17 := SlO.keep f17 fz (Fr.wide (fy 3 4 rfl) _); replace f18 := SlO.keep f18 fz (Fr.wide (fy 4 5 rfl) _); replace b2 := BoxF.mk b2.blk (fy 2 3 rfl _ b2.tag); cases hn7; cases he3; cases hn8; cases he4; cases hn9; cases hn10; cases hn11; cases hn12; refine ⟨_, _, _, rfl, ?_⟩; obtain ⟨xσ3, st3, f13⟩ := SlO.freeze f13; replace sl3 := sl3.trans (st2.then st3); replace f14 := f14.step st3; replace b := b.step st3; replace f15 := f15.step st3; replace f16 := f16.step st3; replace f17 := f17.step st3; replace f18 := f18.step st3; replace b2 := b2.step st3; exact hnext (x3, IntKind.i64.wrap (t2.2.1 + 1), o, o2) _ _ ⟨_, _, _, _, _, _, _, _, _, _, _, _, _, _, _, _, _, _, _, _, _, sl3, rfl, rfl, f13, rfl, rfl, f14, b, rfl, rfl, f15, rfl, f16, rfl, f17, rfl, f18, b2⟩ q
 obtain ⟨q2, q⟩ := q; refine ⟨q2.1, Int.le_refl _, q2.w1, q2.w2, NewH.mk fun H_3 e => ?_⟩; obtain ⟨xσ4, st4, f19⟩ := SlO.made (O := (rdM (slL u64L))) xσ 7 e (slL_zero _) q2.len; refine LoopI.ofQ q (fun t_ s_ hp_ => ∃ σ_, Stp [7, 8] xσ4 H_3 σ_ hp_ ∧ t_.1 = s_ ∧ t_.2.length = (List.replicate t2.1.length []).length ∧ SlO (rdM (slL u64L)) 47 (Zt σ_) (Yt σ_ 7) hp_ (some (Addr.mk H_.size 0 none)) t2.1.length t_.2) (fun h k => h _ _ k) ⟨_, Stp.refl _ _ _, rfl, rfl, f19⟩ ?_; rintro t3 _ _ H_4 next2 nextQ2 ⟨xσ5, st5, rfl, hl, f19⟩ q hnext2; (try dsimp only at q ⊢); have sl5 := st5; refine condJ (fun q => ?_) (fun q => ?_) q
 · replace hs := hs.trans (st.then (st4.then st5)); have c_0 := st4.then st5; replace f8 := f8.step c_0; replace b := b.step c_0; replace f9 := f9.step c_0; replace f10 := f10.step c_0; replace f11 := f11.step c_0; replace f12 := f12.step c_0; replace b2 := b2.step c_0; exact hk (Zt xσ5) (ren [1, 2, 3, 4, 5, 7] xσ5) _ (hs.turn hσ) (hs.oldT hσ) (ren_z _ _) t3.2 _ _ _ ((rl_len _ _).trans hl.symm) (SlO.keep f19 (Fr.refl _ _) (Fr.wide (ren_y (js := [1, 2, 3, 4, 5, 7]) (j := 7) (m := 6) (by decide) (by decide)) _)) t2.2.2.1 _ rfl _ _ _ rfl (SlO.keep f8 (Fr.refl _ _) (Fr.wide (ren_y (js := [1, 2, 3, 4, 5, 7]) (j := 2) (m := 2) (by decide) (by decide)) _)) ⟨b.blk, ren_y (js := [1, 2, 3, 4, 5, 7]) (j := 1) (m := 1) (by decide) (by decide) _ b.tag⟩ t2.2.2.2 _ rfl _ _ _ rfl f9 _ _ _ rfl f10 _ _ _ rfl (SlO.keep f11 (Fr.refl _ _) (Fr.wide (ren_y (js := [1, 2, 3, 4, 5, 7]) (j := 4) (m := 4) (by decide) (by decide)) _)) _ _ _ rfl (SlO.keep f12 (Fr.refl _ _) (Fr.wide (ren_y (js := [1, 2, 3, 4, 5, 7]) (j := 5) (m := 5) (by decide) (by decide)) _)) ⟨b2.blk, ren_y (js := [1, 2, 3, 4, 5, 7]) (j := 3) (m := 3) (by decide) (by decide) _ b2.tag⟩ q
 obtain ⟨h0, x4, hx, q⟩ := q; replace f7 := f7.step (st4.then st5); obtain ⟨a, ha, hi⟩ := f7.addr h0 hx rfl; refine ⟨a, ha, hi.1, hi.2, ?_⟩; obtain ⟨A18, c18, hc, f20⟩ := f7.lds ha h0 hx; refine ⟨_, _, _, hc.val, ?_⟩; refine q (Zt xσ5) H_4 _ _ _ rfl f20 _ (fun Z3 H_5 hE hO2 x5 Y hY A19 n18 c19 hn13 f21 q => ?_); obtain ⟨xσ6, st6, fz2, fy2⟩ := call1 hE hO2 xσ5 8 (fun _ h => h) hY; replace f21 := f21.keep fz2 fy2; cases hn13; refine ⟨_, _, _, rfl, ?_⟩; obtain ⟨h02, hi3, q⟩ := q; replace f19 := f19.step st6; obtain ⟨a2, ha2, hi2⟩ := f19.addr h02 ((rl_len _ _).trans hl.symm) hi3; refine ⟨a2, ha2, hi2.1, hi2.2, ?_⟩; obtain ⟨xσ7, st8, f21⟩ := SlO.freeze f21; replace f19 := f19.step st8; have w := fun v hr => SlO.set1 (v := v) (y := x5) f19 rfl ha2 h02 (lt_of_n ((rl_len _ _).trans hl.symm) hi3) hr; refine ⟨(w _ (slL_rep rfl f21)).1, NewH.mk fun H_6 e2 => ?_⟩; obtain ⟨st7, f19⟩ := (w _ (slL_rep rfl f21)).2 H_6 e2; replace sl5 := sl5.trans (st6.then (st8.then st7)); exact hnext2 (IntKind.i64.wrap (t3.1 + 1), (List.set t3.2 (Int.toNat t3.1) x5)) _ _ ⟨_, sl5, rfl, (set_back ((rl_len _ _).trans hl.symm) (set_len ((rl_len _ _).trans hl.symm)) hl), f19⟩ q
def king_Agree.C (w : TWorld) (values : (List (List Nat))) (K : (List (List Nat)) → TWorld → Int → Prop) : Prop :=
 ∀ (Z : Nat → Prop) (H : Heap), ∀ (wv : Int), wv = (w.Setup.P : Int) → ∀ (wA : Option Addr) (wn wc : Nat), wn = w.Corrupted.length → SlF i64L Z H wA wc w.Corrupted → ∀ (wA2 : Option Addr) (wn2 wc2 : Nat), wn2 = w.Acts.length → SlF TAct.L Z H wA2 wc2 w.Acts → ∀ (wA3 : Option Addr) (wn3 wc3 : Nat), wn3 = w.Tapes.length → SlF (slL u64L) Z H wA3 wc3 w.Tapes → ∀ (wA4 : Option Addr) (wn4 wc4 : Nat), wn4 = w.Sent.length → SlF TSent.L Z H wA4 wc4 w.Sent → ∀ (valuesA : Option Addr) (valuesn valuesc : Nat), valuesn = values.length → SlF (slL u64L) Z H valuesA valuesc values → ∀ KK : Value → Heap → Prop,
   (∀ (Z' : Nat → Prop) (H' : Heap), Ext H H' → Old Z H Z' → ∀ (r0 : (List (List Nat))), ∀ (Y0 : Nat → Prop), (∀ i, Y0 i → H.size ≤ i ∧ ¬ Z' i) → ∀ (Ar0_0 : Option Addr) (nr0_0 cr0_0 : Nat), nr0_0 = r0.length → SlO (rdM (slL u64L)) 47 Z' Y0 H' Ar0_0 cr0_0 r0 → ∀ (r1 : TWorld), ∀ (r1v0 : Int), r1v0 = (r1.Setup.P : Int) → ∀ (Ar1_3 : Option Addr) (nr1_3 cr1_3 : Nat), nr1_3 = r1.Corrupted.length → SlF i64L Z' H' Ar1_3 cr1_3 r1.Corrupted → ∀ (Ar1_4 : Option Addr) (nr1_4 cr1_4 : Nat), nr1_4 = r1.Acts.length → SlF TAct.L Z' H' Ar1_4 cr1_4 r1.Acts → ∀ (Ar1_5 : Option Addr) (nr1_5 cr1_5 : Nat), nr1_5 = r1.Tapes.length → SlF (slL u64L) Z' H' Ar1_5 cr1_5 r1.Tapes → ∀ (Ar1_7 : Option Addr) (nr1_7 cr1_7 : Nat), nr1_7 = r1.Sent.length → SlF TSent.L Z' H' Ar1_7 cr1_7 r1.Sent → ∀ (r2 : Int), K r0 r1 r2 → KK (.tuple #[.slice Ar0_0 nr0_0 cr0_0, .agg #[.int .u64 r1v0, .int .i64 r1.Setup.N, .int .i64 r1.Setup.T_, .slice Ar1_3 nr1_3 cr1_3, .slice Ar1_4 nr1_4 cr1_4, .slice Ar1_5 nr1_5 cr1_5, .int .i64 r1.Round, .slice Ar1_7 nr1_7 cr1_7], .int .i64 r2]) H') →
   CallH P N.king_Agree [.agg #[.int .u64 wv, .int .i64 w.Setup.N, .int .i64 w.Setup.T_, .slice wA wn wc, .slice wA2 wn2 wc2, .slice wA3 wn3 wc3, .int .i64 w.Round, .slice wA4 wn4 wc4], .slice valuesA valuesn valuesc] H KK
def king_Agree.Q (w : TWorld) (values : (List (List Nat))) (K : (List (List Nat)) → TWorld → Int → Prop) : Prop :=
 net_Check.C w (fun (x : Int) =>
 cond (x != 0) (K ([]) (⟨(⟨0, 0, 0⟩ : TSetup), [], [], [], 0, []⟩ : TWorld) x)
  (cond (((values.length : Nat) : Int) != w.Setup.N) (K ([]) (⟨(⟨0, 0, 0⟩ : TSetup), [], [], [], 0, []⟩ : TWorld) 2)
  (net_Room.C w (IntKind.i64.wrap (2 * (IntKind.i64.wrap (w.Setup.T_ + 1)))) (fun (x2 : Int) =>
 cond (x2 != 0) (K ([]) (⟨(⟨0, 0, 0⟩ : TSetup), [], [], [], 0, []⟩ : TWorld) x2)
  (net_Clone.C w (fun (x3 : TWorld) =>
 MakeOk 24 x3.Setup.N ∧ king_phases.C (⟨x3.Setup, (copyL (List.replicate (Int.toNat x3.Setup.N) []) x3.Tapes)⟩ : TTable) x3 values (fun (x4 : (List (List Nat))) (o : TTable) (o2 : TWorld) =>
 LoopQ (τ := Int × List (List Nat)) (0, o2.Tapes) fun t nextQ =>
 cond (decide (t.1 < ((o.tapes.length : Nat) : Int))) (0 ≤ t.1 ∧ t.1 < ((o.tapes.length : Nat) : Int) ∧ ∃ x5 : (List Nat), o.tapes[Int.toNat t.1]? = some x5 ∧ slices_Clone_uint64uint64.C x5 (fun (x6 : (List Nat)) =>
 0 ≤ t.1 ∧ t.1 < ((o2.Tapes.length : Nat) : Int) ∧ nextQ (IntKind.i64.wrap (t.1 + 1), (List.set t.2 (Int.toNat t.1) x6))))
  (K x4 (⟨o2.Setup, o2.Corrupted, o2.Acts, t.2, o2.Round, o2.Sent⟩ : TWorld) 0))))))))
theorem king_Agree.q {w : TWorld} {values : (List (List Nat))} {K : (List (List Nat)) → TWorld → Int → Prop} (q : king_Agree.Q w values K) : king_Agree.C w values K := by
 intro Z H wv he wA wn wc hn f wA2 wn2 wc2 hn2 f2 wA3 wn3 wc3 hn3 f3 wA4 wn4 wc4 hn4 f4 valuesA valuesn valuesc hn5 f5 KK hk; cases he; cases hn; cases hn2; cases hn3; cases hn4; cases hn5; apply king_Agree.ok; unfold king_Agree.W; unfold king_Agree.Q at q; obtain ⟨σ, hz, hσ⟩ := tags Z; have hs : Stp ([1, 2, 3, 4, 5, 6, 7, 8, 9, 10, 11, 12] : List Nat) σ H σ H := Stp.refl _ _ _; replace f := f.wide hz; replace f2 := f2.wide hz; replace f3 := f3.wide hz; replace f4 := f4.wide hz; replace f5 := f5.wide hz; clear hz; refine NewH.mk fun H_ e => ?_; obtain ⟨xσ, st, b⟩ := BoxF.new σ 1 e; refine NewH.mk fun H_2 e2 => ?_; obtain ⟨xσ2, st2, b2⟩ := BoxF.new xσ 2 e2; refine NewH.mk fun H_3 e3 => ?_; obtain ⟨xσ3, st3, b3⟩ := BoxF.new xσ2 3 e3; replace b := b.step (st2.then st3); refine ⟨_, _, _, _, _, _, _, _, _, _, _, _, _, _, _, _, b.cell0, b.cell 1 rfl, b.cell 2 rfl, b.cell 3 rfl, b.cell 4 rfl, b.cell 5 rfl, b.cell 6 rfl, b.cell 7 rfl, ?_⟩; have c_0 := st.then (st2.then st3); replace f := f.step c_0; replace f2 := f2.step c_0; replace f3 := f3.step c_0; replace f4 := f4.step c_0; refine q (Zt xσ3) H_3 _ rfl _ _ _ rfl f _ _ _ rfl f2 _ _ _ rfl f3 _ _ _ rfl f4 _ (fun Z2 H_4 hE hO x q => ?_); obtain ⟨xσ4, st4⟩ := call0 hE xσ3; refine ⟨_, rfl, ?_⟩; refine condI (fun q => ?_) (fun q => ?_) q
 · replace b3 := b3.step st4; refine ⟨b3.mayF rfl, NewH.mk fun H_5 e4 => ?_⟩; obtain ⟨st5, b3⟩ := b3.wf8 rfl e4; refine ⟨_, _, _, _, _, _, _, _, _, _, _, _, _, _, _, _, b3.cell0, b3.cell 1 rfl, b3.cell 2 rfl, b3.cell 3 rfl, b3.cell 4 rfl, b3.cell 5 rfl, b3.cell 6 rfl, b3.cell 7 rfl, ?_⟩; replace hs := hs.trans (st.then (st2.then (st3.then (st4.then st5)))); exact hk (Zt xσ4) _ (hs.ext hσ) (hs.old hσ) _ (fun _ => False) (fun _ h => h.elim) _ _ _ rfl (SlO.nil _ _ _ _ _) (⟨(⟨0, 0, 0⟩ : TSetup), [], [], [], 0, []⟩ : TWorld) _ rfl _ _ _ rfl (SlF.nil _ _ _ _ _) _ _ _ rfl (SlF.nil _ _ _ _ _) _ _ _ rfl (SlF.nil _ _ _ _ _) _ _ _ rfl (SlF.nil _ _ _ _ _) _ q
 replace b2 := b2.step (st3.then st4); refine ⟨_, _, _, b2.cell0, ?_⟩; replace b := b.step st4; refine ⟨_, b.cell 1 rfl, ?_⟩; refine condI (fun q => ?_) (fun q => ?_) q
 · replace b3 := b3.step st4; refine ⟨b3.mayF rfl, NewH.mk fun H_6 e5 => ?_⟩; obtain ⟨st6, b3⟩ := b3.wf8 rfl e5; refine ⟨_, _, _, _, _, _, _, _, _, _, _, _, _, _, _, _, b3.cell0, b3.cell 1 rfl, b3.cell 2 rfl, b3.cell 3 rfl, b3.cell 4 rfl, b3.cell 5 rfl, b3.cell 6 rfl, b3.cell 7 rfl, ?_⟩; replace hs := hs.trans (st.then (st2.then (st3.then (st4.then st6)))); exact hk (Zt xσ4) _ (hs.ext hσ) (hs.old hσ) _ (fun _ => False) (fun _ h => h.elim) _ _ _ rfl (SlO.nil _ _ _ _ _) (⟨(⟨0, 0, 0⟩ : TSetup), [], [], [], 0, []⟩ : TWorld) _ rfl _ _ _ rfl (SlF.nil _ _ _ _ _) _ _ _ rfl (SlF.nil _ _ _ _ _) _ _ _ rfl (SlF.nil _ _ _ _ _) _ _ _ rfl (SlF.nil _ _ _ _ _) _ q
 refine ⟨_, _, _, _, _, _, _, _, _, _, _, _, _, _, _, _, b.cell0, b.cell 1 rfl, b.cell 2 rfl, b.cell 3 rfl, b.cell 4 rfl, b.cell 5 rfl, b.cell 6 rfl, b.cell 7 rfl, ?_⟩; refine ⟨_, b.cell 2 rfl, ?_⟩; replace f := f.step st4; replace f2 := f2.step st4; replace f3 := f3.step st4; replace f4 := f4.step st4; refine q (Zt xσ4) H_4 _ rfl _ _ _ rfl f _ _ _ rfl f2 _ _ _ rfl f3 _ _ _ rfl f4 _ (fun Z3 H_7 hE2 hO2 x2 q => ?_); obtain ⟨xσ5, st7⟩ := call0 hE2 xσ4; refine ⟨_, rfl, ?_⟩; refine condI (fun q => ?_) (fun q => ?_) q
 · replace b3 := b3.step (st4.then st7); refine ⟨b3.mayF rfl, NewH.mk fun H_8 e6 => ?_⟩; obtain ⟨st8, b3⟩ := b3.wf8 rfl e6; refine ⟨_, _, _, _, _, _, _, _, _, _, _, _, _, _, _, _, b3.cell0, b3.cell 1 rfl, b3.cell 2 rfl, b3.cell 3 rfl, b3.cell 4 rfl, b3.cell 5 rfl, b3.cell 6 rfl, b3.cell 7 rfl, ?_⟩; replace hs := hs.trans (st.then (st2.then (st3.then (st4.then (st7.then st8))))); exact hk (Zt xσ5) _ (hs.ext hσ) (hs.old hσ) _ (fun _ => False) (fun _ h => h.elim) _ _ _ rfl (SlO.nil _ _ _ _ _) (⟨(⟨0, 0, 0⟩ : TSetup), [], [], [], 0, []⟩ : TWorld) _ rfl _ _ _ rfl (SlF.nil _ _ _ _ _) _ _ _ rfl (SlF.nil _ _ _ _ _) _ _ _ rfl (SlF.nil _ _ _ _ _) _ _ _ rfl (SlF.nil _ _ _ _ _) _ q
 refine NewH.mk fun H_9 e7 => ?_; obtain ⟨xσ6, st9, b4⟩ := BoxF.new xσ5 4 e7; replace b := b.step (st7.then st9); refine ⟨_, _, _, _, _, _, _, _, _, _, _, _, _, _, _, _, b.cell0, b.cell 1 rfl, b.cell 2 rfl, b.cell 3 rfl, b.cell 4 rfl, b.cell 5 rfl, b.cell 6 rfl, b.cell 7 rfl, ?_⟩; apply net_Play.ok; unfold net_Play.W; refine NewH.mk fun H_10 e8 => ?_; obtain ⟨xσ7, st10, b5⟩ := BoxF.new xσ6 5 e8; refine NewH.mk fun H_11 e9 => ?_; obtain ⟨xσ8, st11, b6⟩ := BoxF.new xσ7 6 e9; replace b5 := b5.step st11; refine ⟨_, _, _, _, _, _, _, _, _, _, _, _, _, _, _, _, b5.cell0, b5.cell 1 rfl, b5.cell 2 rfl, b5.cell 3 rfl, b5.cell 4 rfl, b5.cell 5 rfl, b5.cell 6 rfl, b5.cell 7 rfl, ?_⟩; have c_1 := st7.then (st9.then (st10.then st11)); replace f := f.step c_1; replace f2 := f2.step c_1; replace f3 := f3.step c_1; replace f4 := f4.step c_1; refine q (Zt xσ8) H_11 _ rfl _ _ _ rfl f _ _ _ rfl f2 _ _ _ rfl f3 _ _ _ rfl f4 _ (fun Z4 H_12 hE3 hO3 x3 Y hY Y2 hY2 v he2 A n c hn6 f6 A2 n2 c2 hn7 f7 A3 n3 c3 hn8 f8 A4 n4 c4 hn9 f9 hY3 q => ?_); obtain ⟨xσ9, st12, fz3, fy, fy2⟩ := call2 hE3 hO3 xσ8 7 8 (fun _ h => h) hY hY2 hY3; replace f6 := f6.keep fz3; replace f7 := f7.keep fz3; replace f8 := f8.keep fz3 fy; replace f9 := f9.keep fz3 fy2; cases he2; cases hn6; cases hn7; cases hn8; cases hn9; refine ⟨_, _, _, _, _, _, _, _, _, _, _, _, _, _, _, _, rfl, ?_⟩; replace b5 := b5.step st12; refine ⟨b5.mayF rfl, NewH.mk fun H_13 e10 => ?_⟩; obtain ⟨st13, b5⟩ := b5.wf8 rfl e10; refine ⟨_, _, _, b5.cell0, b5.cell 1 rfl, b5.cell 2 rfl, ?_⟩; refine ⟨_, _, _, b5.cell 5 rfl, ?_⟩; apply net_Lay.ok; unfold net_Lay.W; refine NewH.mk fun H_14 e11 => ?_; obtain ⟨xσ10, st14, b7⟩ := BoxF.new xσ9 0 e11; refine ⟨_, _, _, b7.cell0, b7.cell 1 rfl, b7.cell 2 rfl, ?_⟩; refine ⟨_, b7.cell 1 rfl, ?_⟩; obtain ⟨q2, q⟩ := q; refine ⟨q2.1, Int.le_refl _, q2.w1, q2.w2, NewH.mk fun H_15 e12 => ?_⟩; obtain ⟨xσ11, st15, f10⟩ := SlO.made (O := (rdM (slL u64L))) xσ10 9 e12 (slL_zero _) q2.len; replace b7 := b7.step st15; refine ⟨b7.cell0, (b7.cell 1 rfl), (b7.cell 2 rfl), ?_⟩; refine NewH.mk fun H_16 e13 => ?_; obtain ⟨xσ12, st16, b8⟩ := BoxF.new xσ11 10 e13; refine ⟨_, _, _, b8.cell 3 rfl, ?_⟩; replace f10 := f10.step st16; replace f8 := f8.step (st13.then (st14.then (st15.then st16))); refine SlO.copyO f10 f8 rfl (rl_len _ _) rfl (fun H_17 xσ13 st17 f10_ => ?_); replace f10 := f10_; refine ⟨_, rfl, ?_⟩; refine ct rfl ?_; apply king_Agree_1.ok; unfold king_Agree_1.W; replace b2 := b2.step (st7.then (st9.then (st10.then (st11.then (st12.then (st13.then (st14.then (st15.then (st16.then st17))))))))); refine ⟨_, _, _, b2.cell0, ?_⟩; have c_2 := st13.then (st14.then (st15.then (st16.then st17))); replace f6 := f6.step c_2; replace f7 := f7.step c_2; replace f8 := f8.step st17; replace f9 := f9.step c_2; replace b5 := b5.step (st14.then (st15.then (st16.then st17))); replace b8 := b8.step st17; replace f5 := f5.step (st.then (st2.then (st3.then (st4.then (st7.then (st9.then (st10.then (st11.then (st12.then (st13.then (st14.then (st15.then (st16.then st17)))))))))))))
 refine q (Zt xσ13) (ren [10, 9, 5, 7, 8] xσ13) H_17 (ren_z _ _) _ _ rfl _ _ _ ((rl_len _ _).trans (copyL_len _ _).symm) (SlO.keep f10 (Fr.refl _ _) (Fr.wide (ren_y (js := [10, 9, 5, 7, 8]) (j := 9) (m := 2) (by decide) (by decide)) _)) _ _ rfl _ _ _ rfl f6 _ _ _ rfl f7 _ _ _ rfl (SlO.keep f8 (Fr.refl _ _) (Fr.wide (ren_y (js := [10, 9, 5, 7, 8]) (j := 7) (m := 4) (by decide) (by decide)) _)) _ _ _ rfl (SlO.keep f9 (Fr.refl _ _) (Fr.wide (ren_y (js := [10, 9, 5, 7, 8]) (j := 8) (m := 5) (by decide) (by decide)) _)) ⟨b5.blk, (ren_y (js := [10, 9, 5, 7, 8]) (j := 5) (m := 3) (by decide) (by decide)) _ b5.tag⟩ ⟨b8.blk, (ren_y (js := [10, 9, 5, 7, 8]) (j := 10) (m := 1) (by decide) (by decide)) _ b8.tag⟩ _ _ _ rfl f5 _ (fun Z5 xτ H_18 hT hO4 hd x4 A5 n6 c5 hn10 f11 o v2 he3 A6 n7 c6 hn11 f12 b8 o2 v3 he4 A7 n8 c7 hn12 f13 A8 n9 c8 hn13 f14 A9 n10 c9 hn14 f15 A10 n11 c10 hn15 f16 b5 q => ?_); obtain ⟨xσ14, st18, fz4, fy3⟩ := callT hT hO4 hd [10, 9, 5, 7, 8, 11]; replace f11 := SlO.keep f11 fz4 (Fr.wide (fy3 5 11 rfl) _); replace f12 := SlO.keep f12 fz4 (Fr.wide (fy3 1 9 rfl) _); replace b8 := BoxF.mk b8.blk (fy3 0 10 rfl _ b8.tag); replace f13 := f13.keep fz4; replace f14 := f14.keep fz4; replace f15 := SlO.keep f15 fz4 (Fr.wide (fy3 3 7 rfl) _); replace f16 := SlO.keep f16 fz4 (Fr.wide (fy3 4 8 rfl) _); replace b5 := BoxF.mk b5.blk (fy3 2 5 rfl _ b5.tag); cases hn10; cases he3; cases hn11; cases he4; cases hn12; cases hn13; cases hn14; cases hn15; refine ⟨_, _, _, rfl, ?_⟩; replace b4 := b4.step (st10.then (st11.then (st12.then (st13.then (st14.then (st15.then (st16.then (st17.then st18)))))))); refine ⟨b4.may 0 (show (0 : Nat) < 1 by decide), NewH.mk fun H_19 e14 => ?_⟩; obtain ⟨st19, b4⟩ := b4.wrote 0 (show (0 : Nat) < 1 by decide) e14; simp only [List.set_cons_zero, List.set_cons_succ] at b4; refine ⟨rfl, ?_⟩; replace b8 := b8.step st19; refine ⟨_, _, _, b8.cell 3 rfl, ?_⟩; replace f15 := f15.step st19; refine LoopI.ofQ q (fun t_ s_ hp_ => ∃ σ_, Stp [7, 12] xσ14 H_19 σ_ hp_ ∧ t_.1 = s_ ∧ t_.2.length = o2.Tapes.length ∧ SlO (rdM (slL u64L)) 47 (Zt σ_) (Yt σ_ 7) hp_ A9 c9 t_.2) (fun h k => h _ _ k) ⟨_, Stp.refl _ _ _, rfl, rfl, f15⟩ ?_; rintro t _ _ H_20 next nextQ ⟨xσ15, st20, rfl, hl, f15⟩ q hnext; (try dsimp only at q ⊢); have sl1 := st20; refine condI (fun q => ?_) (fun q => ?_) q
 · obtain ⟨h0, hi2, q⟩ := q; replace f12 := f12.step (st19.then st20); obtain ⟨a, ha, hi⟩ := f12.addr h0 rfl hi2; refine ⟨a, ha, hi.1, hi.2, ?_⟩; obtain ⟨x5, hx, q⟩ := q; obtain ⟨A11, c11, hc, f17⟩ := f12.lds ha h0 hx; refine ⟨_, _, _, hc.val, ?_⟩; replace b5 := b5.step (st19.then st20); refine ⟨_, _, _, b5.cell 5 rfl, ?_⟩; refine q (Zt xσ15) H_20 _ _ _ rfl f17 _ (fun Z6 H_21 hE4 hO5 x6 Y3 hY4 A12 n12 c12 hn16 f18 q => ?_); obtain ⟨xσ16, st21, fz5, fy4⟩ := call1 hE4 hO5 xσ15 12 (fun _ h => h) hY4; replace f18 := f18.keep fz5 fy4; cases hn16; refine ⟨_, _, _, rfl, ?_⟩; replace b5 := b5.step st21; refine ⟨(b5.cell 5 rfl), ?_⟩; obtain ⟨h02, hi4, q⟩ := q; replace f15 := f15.step st21; obtain ⟨a2, ha2, hi3⟩ := f15.addr h02 ((rfl : _ = _).trans hl.symm) hi4; refine ⟨a2, ha2, hi3.1, hi3.2, ?_⟩; obtain ⟨xσ17, st23, f18⟩ := SlO.freeze f18; replace f15 := f15.step st23; have w2 := fun v hr => SlO.set1 (v := v) (y := x6) f15 rfl ha2 h02 (lt_of_n ((rfl : _ = _).trans hl.symm) hi4) hr; refine ⟨(w2 _ (slL_rep rfl f18)).1, NewH.mk fun H_22 e15 => ?_⟩; obtain ⟨st22, f15⟩ := (w2 _ (slL_rep rfl f18)).2 H_22 e15; replace sl1 := sl1.trans (st21.then (st23.then st22)); exact hnext (IntKind.i64.wrap (t.1 + 1), (List.set t.2 (Int.toNat t.1) x6)) _ _ ⟨_, sl1, rfl, (set_back ((rfl : _ = _).trans hl.symm) (set_len ((rfl : _ = _).trans hl.symm)) hl), f15⟩ q
 replace b5 := b5.step (st19.then st20); refine ⟨_, _, _, _, _, _, _, _, _, _, _, _, _, _, _, _, b5.cell0, b5.cell 1 rfl, b5.cell 2 rfl, b5.cell 3 rfl, b5.cell 4 rfl, b5.cell 5 rfl, b5.cell 6 rfl, b5.cell 7 rfl, ?_⟩; replace b6 := b6.step (st12.then (st13.then (st14.then (st15.then (st16.then (st17.then (st18.then (st19.then st20)))))))); refine ⟨b6.mayF rfl, NewH.mk fun H_23 e16 => ?_⟩; obtain ⟨st24, b6⟩ := b6.wf8 rfl e16; refine ⟨_, _, _, _, _, _, _, _, _, _, _, _, _, _, _, _, b6.cell0, b6.cell 1 rfl, b6.cell 2 rfl, b6.cell 3 rfl, b6.cell 4 rfl, b6.cell 5 rfl, b6.cell 6 rfl, b6.cell 7 rfl, ?_⟩; refine ⟨_, _, _, _, _, _, _, _, _, _, _, _, _, _, _, _, rfl, ?_⟩; replace b := b.step (st10.then (st11.then (st12.then (st13.then (st14.then (st15.then (st16.then (st17.then (st18.then (st19.then (st20.then st24))))))))))); refine ⟨b.mayF rfl, NewH.mk fun H_24 e17 => ?_⟩; obtain ⟨st25, b⟩ := b.wf8 rfl e17; replace b4 := b4.step (st20.then (st24.then st25)); refine ⟨_, _, _, b4.cell0, ?_⟩; refine ⟨_, _, _, _, _, _, _, _, _, _, _, _, _, _, _, _, b.cell0, b.cell 1 rfl, b.cell 2 rfl, b.cell 3 rfl, b.cell 4 rfl, b.cell 5 rfl, b.cell 6 rfl, b.cell 7 rfl, ?_⟩; replace b3 := b3.step (st4.then (st7.then (st9.then (st10.then (st11.then (st12.then (st13.then (st14.then (st15.then (st16.then (st17.then (st18.then (st19.then (st20.then (st24.then st25))))))))))))))); refine ⟨b3.mayF rfl, NewH.mk fun H_25 e18 => ?_⟩; obtain ⟨st26, b3⟩ := b3.wf8 rfl e18; refine ⟨_, _, _, _, _, _, _, _, _, _, _, _, _, _, _, _, b3.cell0, b3.cell 1 rfl, b3.cell 2 rfl, b3.cell 3 rfl, b3.cell 4 rfl, b3.cell 5 rfl, b3.cell 6 rfl, b3.cell 7 rfl, ?_⟩; replace f15 := f15.step (st24.then (st25.then st26)); obtain ⟨xσ18, st27, f15⟩ := SlO.freeze f15; replace f16 := f16.step (st19.then (st20.then (st24.then (st25.then (st26.then st27))))); obtain ⟨xσ19, st28, f16⟩ := SlO.freeze f16; replace hs := hs.trans (st.then (st2.then (st3.then (st4.then (st7.then (st9.then (st10.then (st11.then (st12.then (st13.then (st14.then (st15.then (st16.then (st17.then (st18.then (st19.then (st20.then (st24.then (st25.then (st26.then (st27.then st28))))))))))))))))))))); have c_3 := st19.then (st20.then (st24.then (st25.then (st26.then (st27.then st28))))); replace f11 := f11.step c_3; replace f13 := f13.step c_3; replace f14 := f14.step c_3; replace f15 := f15.step st28; exact hk (Zt xσ19) _ (hs.ext hσ) (hs.old hσ) _ (Yt xσ19 11) (hs.fresh hσ) _ _ _ rfl f11 (⟨o2.Setup, o2.Corrupted, o2.Acts, t.2, o2.Round, o2.Sent⟩ : TWorld) _ rfl _ _ _ rfl f13 _ _ _ rfl f14 _ _ _ ((rfl : _ = _).trans hl.symm) f15 _ _ _ rfl f16 _ q
def king_Say.C (w : TWorld) (from_ : Int) (value : (List Nat)) (K : (List (List Nat)) → TWorld → Int → Prop) : Prop :=
 ∀ (Z : Nat → Prop) (H : Heap), ∀ (wv : Int), wv = (w.Setup.P : Int) → ∀ (wA : Option Addr) (wn wc : Nat), wn = w.Corrupted.length → SlF i64L Z H wA wc w.Corrupted → ∀ (wA2 : Option Addr) (wn2 wc2 : Nat), wn2 = w.Acts.length → SlF TAct.L Z H wA2 wc2 w.Acts → ∀ (wA3 : Option Addr) (wn3 wc3 : Nat), wn3 = w.Tapes.length → SlF (slL u64L) Z H wA3 wc3 w.Tapes → ∀ (wA4 : Option Addr) (wn4 wc4 : Nat), wn4 = w.Sent.length → SlF TSent.L Z H wA4 wc4 w.Sent → ∀ (valueA : Option Addr) (valuen valuec : Nat), valuen = value.length → SlF u64L Z H valueA valuec value → ∀ KK : Value → Heap → Prop,
   (∀ (Z' : Nat → Prop) (H' : Heap), Ext H H' → Old Z H Z' → ∀ (r0 : (List (List Nat))), ∀ (Y0 : Nat → Prop), (∀ i, Y0 i → H.size ≤ i ∧ ¬ Z' i) → ∀ (Ar0_0 : Option Addr) (nr0_0 cr0_0 : Nat), nr0_0 = r0.length → SlO (rdM (slL u64L)) 47 Z' Y0 H' Ar0_0 cr0_0 r0 → ∀ (r1 : TWorld), ∀ (r1v0 : Int), r1v0 = (r1.Setup.P : Int) → ∀ (Ar1_3 : Option Addr) (nr1_3 cr1_3 : Nat), nr1_3 = r1.Corrupted.length → SlF i64L Z' H' Ar1_3 cr1_3 r1.Corrupted → ∀ (Ar1_4 : Option Addr) (nr1_4 cr1_4 : Nat), nr1_4 = r1.Acts.length → SlF TAct.L Z' H' Ar1_4 cr1_4 r1.Acts → ∀ (Ar1_5 : Option Addr) (nr1_5 cr1_5 : Nat), nr1_5 = r1.Tapes.length → SlF (slL u64L) Z' H' Ar1_5 cr1_5 r1.Tapes → ∀ (Ar1_7 : Option Addr) (nr1_7 cr1_7 : Nat), nr1_7 = r1.Sent.length → SlF TSent.L Z' H' Ar1_7 cr1_7 r1.Sent → ∀ (r2 : Int), K r0 r1 r2 → KK (.tuple #[.slice Ar0_0 nr0_0 cr0_0, .agg #[.int .u64 r1v0, .int .i64 r1.Setup.N, .int .i64 r1.Setup.T_, .slice Ar1_3 nr1_3 cr1_3, .slice Ar1_4 nr1_4 cr1_4, .slice Ar1_5 nr1_5 cr1_5, .int .i64 r1.Round, .slice Ar1_7 nr1_7 cr1_7], .int .i64 r2]) H') →
   CallH P N.king_Say [.agg #[.int .u64 wv, .int .i64 w.Setup.N, .int .i64 w.Setup.T_, .slice wA wn wc, .slice wA2 wn2 wc2, .slice wA3 wn3 wc3, .int .i64 w.Round, .slice wA4 wn4 wc4], .int .i64 from_, .slice valueA valuen valuec] H KK
def king_Say.Q (w : TWorld) (from_ : Int) (value : (List Nat)) (K : (List (List Nat)) → TWorld → Int → Prop) : Prop :=
 net_Check.C w (fun (x : Int) =>
 cond (x != 0) (K ([]) (⟨(⟨0, 0, 0⟩ : TSetup), [], [], [], 0, []⟩ : TWorld) x)
  (cond (decide (from_ < 1)) (K ([]) (⟨(⟨0, 0, 0⟩ : TSetup), [], [], [], 0, []⟩ : TWorld) 2)
  (cond (decide (from_ > w.Setup.N)) (K ([]) (⟨(⟨0, 0, 0⟩ : TSetup), [], [], [], 0, []⟩ : TWorld) 2)
  (net_Room.C w (IntKind.i64.wrap ((IntKind.i64.wrap (2 * (IntKind.i64.wrap (w.Setup.T_ + 1)))) + 1)) (fun (x2 : Int) =>
 cond (x2 != 0) (K ([]) (⟨(⟨0, 0, 0⟩ : TSetup), [], [], [], 0, []⟩ : TWorld) x2)
  (net_Clone.C w (fun (x3 : TWorld) =>
 MakeOk 24 x3.Setup.N ∧ MakeOk 24 x3.Setup.N ∧ 0 ≤ (IntKind.i64.wrap (from_ - 1)) ∧ (IntKind.i64.wrap (from_ - 1)) < ((Int.toNat x3.Setup.N : Nat) : Int) ∧ net_Blank.C x3.Setup.N (fun (r : (List (List (List Nat)))) (r2 : (List (List Nat))) =>
 LoopQ (τ := Int × List (List (List Nat))) (0, r) fun t nextQ =>
 cond (decide (t.1 < ((Int.toNat x3.Setup.N : Nat) : Int))) (0 ≤ t.1 ∧ t.1 < ((Int.toNat x3.Setup.N : Nat) : Int) ∧ ∃ x4 : (List Nat), (List.set (List.replicate (Int.toNat x3.Setup.N) []) (Int.toNat (IntKind.i64.wrap (from_ - 1))) value)[Int.toNat t.1]? = some x4 ∧ LoopQ (τ := Int × List (List (List Nat))) (0, t.2) fun t2 nextQ2 =>
 cond (decide (t2.1 < ((Int.toNat x3.Setup.N : Nat) : Int))) (cond (t.1 == t2.1) (0 ≤ t.1 ∧ t.1 < ((r.length : Nat) : Int) ∧ ∃ x5 : (List (List Nat)), t2.2[Int.toNat t.1]? = some x5 ∧ 0 ≤ t2.1 ∧ t2.1 < ((x5.length : Nat) : Int) ∧ nextQ2 (IntKind.i64.wrap (t2.1 + 1), (List.set t2.2 (Int.toNat t.1) (List.set x5 (Int.toNat t2.1) x4))))
  (cond ((IntKind.i64.wrap (t.1 + 1)) == from_) (0 ≤ t.1 ∧ t.1 < ((r.length : Nat) : Int) ∧ ∃ x6 : (List (List Nat)), t2.2[Int.toNat t.1]? = some x6 ∧ 0 ≤ t2.1 ∧ t2.1 < ((x6.length : Nat) : Int) ∧ nextQ2 (IntKind.i64.wrap (t2.1 + 1), (List.set t2.2 (Int.toNat t.1) (List.set x6 (Int.toNat t2.1) x4))))
  (nextQ2 (IntKind.i64.wrap (t2.1 + 1), t2.2))))
  (nextQ (IntKind.i64.wrap (t.1 + 1), t2.2)))
  (net_Table_Round.C (⟨x3.Setup, (copyL (List.replicate (Int.toNat x3.Setup.N) []) x3.Tapes)⟩ : TTable) x3 t.2 r2 (fun (r5 : (List (List (List Nat)))) (r6 : (List (List Nat))) (o : TTable) (o2 : TWorld) =>
 LoopQ (τ := Int × List (List Nat)) (0, (List.set (List.replicate (Int.toNat x3.Setup.N) []) (Int.toNat (IntKind.i64.wrap (from_ - 1))) value)) fun t3 nextQ3 =>
 cond (decide (t3.1 < ((Int.toNat x3.Setup.N : Nat) : Int))) (0 ≤ t3.1 ∧ ∃ x7 : (List (List Nat)), r5[Int.toNat t3.1]? = some x7 ∧ 0 ≤ (IntKind.i64.wrap (from_ - 1)) ∧ ∃ x8 : (List Nat), x7[Int.toNat (IntKind.i64.wrap (from_ - 1))]? = some x8 ∧ 0 ≤ t3.1 ∧ t3.1 < ((Int.toNat x3.Setup.N : Nat) : Int) ∧ nextQ3 (IntKind.i64.wrap (t3.1 + 1), (List.set t3.2 (Int.toNat t3.1) x8)))
  (king_phases.C o o2 t3.2 (fun (x9 : (List (List Nat))) (o3 : TTable) (o4 : TWorld) =>
 LoopQ (τ := Int × List (List Nat)) (0, o4.Tapes) fun t4 nextQ4 =>
 cond (decide (t4.1 < ((o3.tapes.length : Nat) : Int))) (0 ≤ t4.1 ∧ t4.1 < ((o3.tapes.length : Nat) : Int) ∧ ∃ x10 : (List Nat), o3.tapes[Int.toNat t4.1]? = some x10 ∧ slices_Clone_uint64uint64.C x10 (fun (x11 : (List Nat)) =>
 0 ≤ t4.1 ∧ t4.1 < ((o4.Tapes.length : Nat) : Int) ∧ nextQ4 (IntKind.i64.wrap (t4.1 + 1), (List.set t4.2 (Int.toNat t4.1) x11))))
  (K x9 (⟨o4.Setup, o4.Corrupted, o4.Acts, t4.2, o4.Round, o4.Sent⟩ : TWorld) 0)))))))))))))
theorem king_Say.q {w : TWorld} {from_ : Int} {value : (List Nat)} {K : (List (List Nat)) → TWorld → Int → Prop} (q : king_Say.Q w from_ value K) : king_Say.C w from_ value K := by
 intro Z H wv he wA wn wc hn f wA2 wn2 wc2 hn2 f2 wA3 wn3 wc3 hn3 f3 wA4 wn4 wc4 hn4 f4 valueA valuen valuec hn5 f5 KK hk; cases he; cases hn; cases hn2; cases hn3; cases hn4; cases hn5; apply king_Say.ok; unfold king_Say.W; unfold king_Say.Q at q; obtain ⟨σ, hz, hσ⟩ := tags Z; have hs : Stp ([1, 2, 3, 4, 5, 6, 7, 8, 9, 10, 11, 12, 13, 14, 15, 16] : List Nat) σ H σ H := Stp.refl _ _ _; replace f := f.wide hz; replace f2 := f2.wide hz; replace f3 := f3.wide hz; replace f4 := f4.wide hz; replace f5 := f5.wide hz; clear hz; refine NewH.mk fun H_ e => ?_; obtain ⟨xσ, st, b⟩ := BoxF.new σ 1 e; refine NewH.mk fun H_2 e2 => ?_; obtain ⟨xσ2, st2, b2⟩ := BoxF.new xσ 2 e2; refine NewH.mk fun H_3 e3 => ?_; obtain ⟨xσ3, st3, b3⟩ := BoxF.new xσ2 3 e3; refine NewH.mk fun H_4 e4 => ?_; obtain ⟨xσ4, st4, b4⟩ := BoxF.new xσ3 4 e4; replace b := b.step (st2.then (st3.then st4)); refine ⟨_, _, _, _, _, _, _, _, _, _, _, _, _, _, _, _, b.cell0, b.cell 1 rfl, b.cell 2 rfl, b.cell 3 rfl, b.cell 4 rfl, b.cell 5 rfl, b.cell 6 rfl, b.cell 7 rfl, ?_⟩; have c_0 := st.then (st2.then (st3.then st4)); replace f := f.step c_0; replace f2 := f2.step c_0; replace f3 := f3.step c_0; replace f4 := f4.step c_0; refine q (Zt xσ4) H_4 _ rfl _ _ _ rfl f _ _ _ rfl f2 _ _ _ rfl f3 _ _ _ rfl f4 _ (fun Z2 H_5 hE hO x q => ?_); obtain ⟨xσ5, st5⟩ := call0 hE xσ4; refine ⟨_, rfl, ?_⟩; refine condI (fun q => ?_) (fun q => ?_) q
 · replace b4 := b4.step st5; refine ⟨b4.mayF rfl, NewH.mk fun H_6 e5 => ?_⟩; obtain ⟨st6, b4⟩ := b4.wf8 rfl e5; refine ⟨_, _, _, _, _, _, _, _, _, _, _, _, _, _, _, _, b4.cell0, b4.cell 1 rfl, b4.cell 2 rfl, b4.cell 3 rfl, b4.cell 4 rfl, b4.cell 5 rfl, b4.cell 6 rfl, b4.cell 7 rfl, ?_⟩; replace hs := hs.trans (st.then (st2.then (st3.then (st4.then (st5.then st6))))); exact hk (Zt xσ5) _ (hs.ext hσ) (hs.old hσ) _ (fun _ => False) (fun _ h => h.elim) _ _ _ rfl (SlO.nil _ _ _ _ _) (⟨(⟨0, 0, 0⟩ : TSetup), [], [], [], 0, []⟩ : TWorld) _ rfl _ _ _ rfl (SlF.nil _ _ _ _ _) _ _ _ rfl (SlF.nil _ _ _ _ _) _ _ _ rfl (SlF.nil _ _ _ _ _) _ _ _ rfl (SlF.nil _ _ _ _ _) _ q
 replace b2 := b2.step (st3.then (st4.then st5)); refine ⟨_, b2.cell0, ?_⟩; refine condI (fun q => ?_) (fun q => ?_) q
 · replace b4 := b4.step st5; refine ⟨b4.mayF rfl, NewH.mk fun H_7 e6 => ?_⟩; obtain ⟨st7, b4⟩ := b4.wf8 rfl e6; refine ⟨_, _, _, _, _, _, _, _, _, _, _, _, _, _, _, _, b4.cell0, b4.cell 1 rfl, b4.cell 2 rfl, b4.cell 3 rfl, b4.cell 4 rfl, b4.cell 5 rfl, b4.cell 6 rfl, b4.cell 7 rfl, ?_⟩; replace hs := hs.trans (st.then (st2.then (st3.then (st4.then (st5.then st7))))); exact hk (Zt xσ5) _ (hs.ext hσ) (hs.old hσ) _ (fun _ => False) (fun _ h => h.elim) _ _ _ rfl (SlO.nil _ _ _ _ _) (⟨(⟨0, 0, 0⟩ : TSetup), [], [], [], 0, []⟩ : TWorld) _ rfl _ _ _ rfl (SlF.nil _ _ _ _ _) _ _ _ rfl (SlF.nil _ _ _ _ _) _ _ _ rfl (SlF.nil _ _ _ _ _) _ _ _ rfl (SlF.nil _ _ _ _ _) _ q
 refine ⟨_, b2.cell0, ?_⟩; replace b := b.step st5; refine ⟨_, b.cell 1 rfl, ?_⟩; refine condI (fun q => ?_) (fun q => ?_) q
 · replace b4 := b4.step st5; refine ⟨b4.mayF rfl, NewH.mk fun H_8 e7 => ?_⟩; obtain ⟨st8, b4⟩ := b4.wf8 rfl e7; refine ⟨_, _, _, _, _, _, _, _, _, _, _, _, _, _, _, _, b4.cell0, b4.cell 1 rfl, b4.cell 2 rfl, b4.cell 3 rfl, b4.cell 4 rfl, b4.cell 5 rfl, b4.cell 6 rfl, b4.cell 7 rfl, ?_⟩; replace hs := hs.trans (st.then (st2.then (st3.then (st4.then (st5.then st8))))); exact hk (Zt xσ5) _ (hs.ext hσ) (hs.old hσ) _ (fun _ => False) (fun _ h => h.elim) _ _ _ rfl (SlO.nil _ _ _ _ _) (⟨(⟨0, 0, 0⟩ : TSetup), [], [], [], 0, []⟩ : TWorld) _ rfl _ _ _ rfl (SlF.nil _ _ _ _ _) _ _ _ rfl (SlF.nil _ _ _ _ _) _ _ _ rfl (SlF.nil _ _ _ _ _) _ _ _ rfl (SlF.nil _ _ _ _ _) _ q
 refine ⟨_, _, _, _, _, _, _, _, _, _, _, _, _, _, _, _, b.cell0, b.cell 1 rfl, b.cell 2 rfl, b.cell 3 rfl, b.cell 4 rfl, b.cell 5 rfl, b.cell 6 rfl, b.cell 7 rfl, ?_⟩; refine ⟨_, b.cell 2 rfl, ?_⟩; replace f := f.step st5; replace f2 := f2.step st5; replace f3 := f3.step st5; replace f4 := f4.step st5; refine q (Zt xσ5) H_5 _ rfl _ _ _ rfl f _ _ _ rfl f2 _ _ _ rfl f3 _ _ _ rfl f4 _ (fun Z3 H_9 hE2 hO2 x2 q => ?_); obtain ⟨xσ6, st9⟩ := call0 hE2 xσ5; refine ⟨_, rfl, ?_⟩; refine condI (fun q => ?_) (fun q => ?_) q
 · replace b4 := b4.step (st5.then st9); refine ⟨b4.mayF rfl, NewH.mk fun H_10 e8 => ?_⟩; obtain ⟨st10, b4⟩ := b4.wf8 rfl e8; refine ⟨_, _, _, _, _, _, _, _, _, _, _, _, _, _, _, _, b4.cell0, b4.cell 1 rfl, b4.cell 2 rfl, b4.cell 3 rfl, b4.cell 4 rfl, b4.cell 5 rfl, b4.cell 6 rfl, b4.cell 7 rfl, ?_⟩; replace hs := hs.trans (st.then (st2.then (st3.then (st4.then (st5.then (st9.then st10)))))); exact hk (Zt xσ6) _ (hs.ext hσ) (hs.old hσ) _ (fun _ => False) (fun _ h => h.elim) _ _ _ rfl (SlO.nil _ _ _ _ _) (⟨(⟨0, 0, 0⟩ : TSetup), [], [], [], 0, []⟩ : TWorld) _ rfl _ _ _ rfl (SlF.nil _ _ _ _ _) _ _ _ rfl (SlF.nil _ _ _ _ _) _ _ _ rfl (SlF.nil _ _ _ _ _) _ _ _ rfl (SlF.nil _ _ _ _ _) _ q
 refine NewH.mk fun H_11 e9 => ?_; obtain ⟨xσ7, st11, b5⟩ := BoxF.new xσ6 5 e9; replace b := b.step (st9.then st11); refine ⟨_, _, _, _, _, _, _, _, _, _, _, _, _, _, _, _, b.cell0, b.cell 1 rfl, b.cell 2 rfl, b.cell 3 rfl, b.cell 4 rfl, b.cell 5 rfl, b.cell 6 rfl, b.cell 7 rfl, ?_⟩; apply net_Play.ok; unfold net_Play.W; refine NewH.mk fun H_12 e10 => ?_; obtain ⟨xσ8, st12, b6⟩ := BoxF.new xσ7 6 e10; refine NewH.mk fun H_13 e11 => ?_; obtain ⟨xσ9, st13, b7⟩ := BoxF.new xσ8 7 e11; replace b6 := b6.step st13; refine ⟨_, _, _, _, _, _, _, _, _, _, _, _, _, _, _, _, b6.cell0, b6.cell 1 rfl, b6.cell 2 rfl, b6.cell 3 rfl, b6.cell 4 rfl, b6.cell 5 rfl, b6.cell 6 rfl, b6.cell 7 rfl, ?_⟩; have c_1 := st9.then (st11.then (st12.then st13)); replace f := f.step c_1; replace f2 := f2.step c_1; replace f3 := f3.step c_1; replace f4 := f4.step c_1; refine q (Zt xσ9) H_13 _ rfl _ _ _ rfl f _ _ _ rfl f2 _ _ _ rfl f3 _ _ _ rfl f4 _ (fun Z4 H_14 hE3 hO3 x3 Y hY Y2 hY2 v he2 A n c hn6 f6 A2 n2 c2 hn7 f7 A3 n3 c3 hn8 f8 A4 n4 c4 hn9 f9 hY3 q => ?_); obtain ⟨xσ10, st14, fz3, fy, fy2⟩ := call2 hE3 hO3 xσ9 8 9 (fun _ h => h) hY hY2 hY3; replace f6 := f6.keep fz3; replace f7 := f7.keep fz3; replace f8 := f8.keep fz3 fy; replace f9 := f9.keep fz3 fy2; cases he2; cases hn6; cases hn7; cases hn8; cases hn9; refine ⟨_, _, _, _, _, _, _, _, _, _, _, _, _, _, _, _, rfl, ?_⟩; replace b6 := b6.step st14; refine ⟨b6.mayF rfl, NewH.mk fun H_15 e12 => ?_⟩; obtain ⟨st15, b6⟩ := b6.wf8 rfl e12; refine ⟨_, _, _, b6.cell0, b6.cell 1 rfl, b6.cell 2 rfl, ?_⟩; refine ⟨_, _, _, b6.cell 5 rfl, ?_⟩; apply net_Lay.ok; unfold net_Lay.W; refine NewH.mk fun H_16 e13 => ?_; obtain ⟨xσ11, st16, b8⟩ := BoxF.new xσ10 0 e13; refine ⟨_, _, _, b8.cell0, b8.cell 1 rfl, b8.cell 2 rfl, ?_⟩; refine ⟨_, b8.cell 1 rfl, ?_⟩; obtain ⟨q2, q⟩ := q; refine ⟨q2.1, Int.le_refl _, q2.w1, q2.w2, NewH.mk fun H_17 e14 => ?_⟩; obtain ⟨xσ12, st17, f10⟩ := SlO.made (O := (rdM (slL u64L))) xσ11 10 e14 (slL_zero _) q2.len; replace b8 := b8.step st17; refine ⟨b8.cell0, (b8.cell 1 rfl), (b8.cell 2 rfl), ?_⟩; refine NewH.mk fun H_18 e15 => ?_; obtain ⟨xσ13, st18, b9⟩ := BoxF.new xσ12 11 e15; refine ⟨_, _, _, b9.cell 3 rfl, ?_⟩; replace f10 := f10.step st18; replace f8 := f8.step (st15.then (st16.then (st17.then st18))); refine SlO.copyO f10 f8 rfl (rl_len _ _) rfl (fun H_19 xσ14 st19 f10_ => ?_); replace f10 := f10_; refine ⟨_, rfl, ?_⟩; refine ct rfl ?_; apply king_Say_1.ok; unfold king_Say_1.W; replace b9 := b9.step st19; refine ⟨_, b9.cell 1 rfl, ?_⟩; obtain ⟨q3, q⟩ := q; refine ⟨q3.1, Int.le_refl _, q3.w1, q3.w2, NewH.mk fun H_20 e16 => ?_⟩; obtain ⟨xσ15, st20, f11⟩ := SlO.made (O := (rdM (slL u64L))) xσ14 12 e16 (slL_zero _) q3.len; replace b2 := b2.step (st9.then (st11.then (st12.then (st13.then (st14.then (st15.then (st16.then (st17.then (st18.then (st19.then st20)))))))))); refine ⟨_, b2.cell0, ?_⟩; replace b3 := b3.step (st4.then (st5.then (st9.then (st11.then (st12.then (st13.then (st14.then (st15.then (st16.then (st17.then (st18.then (st19.then st20))))))))))))
 refine ⟨_, _, _, b3.cell0, ?_⟩; obtain ⟨h0, hi2, q⟩ := q; obtain ⟨a, ha, hi⟩ := f11.addr h0 (rl_len _ _) hi2; refine ⟨a, ha, hi.1, hi.2, ?_⟩; have w2 := fun v hr => SlO.set1 (v := v) (y := value) f11 rfl ha h0 (lt_of_n (rl_len _ _) hi2) hr; replace f5 := f5.step (st.then (st2.then (st3.then (st4.then (st5.then (st9.then (st11.then (st12.then (st13.then (st14.then (st15.then (st16.then (st17.then (st18.then (st19.then st20))))))))))))))); refine ⟨(w2 _ (slL_rep rfl f5)).1, NewH.mk fun H_21 e17 => ?_⟩; obtain ⟨st21, f11⟩ := (w2 _ (slL_rep rfl f5)).2 H_21 e17; apply king_send.ok; unfold king_send.W; replace b9 := b9.step (st20.then st21); refine ⟨_, b9.cell 1 rfl, ?_⟩; refine q (Zt xσ15) H_21  _ (fun Z5 H_22 hE4 hO4 r Y3 hY4 A5 n6 c5 hn10 f12 r2 Y4 hY5 A6 n7 c6 hn11 f13 hY6 q => ?_); obtain ⟨xσ16, st22, fz4, fy3, fy4⟩ := call2 hE4 hO4 xσ15 13 14 (fun _ h => h) hY4 hY5 hY6; replace f12 := f12.keep fz4 fy3; replace f13 := f13.keep fz4 fy4; cases hn10; cases hn11; refine ⟨_, _, _, _, _, _, rfl, ?_⟩; refine LoopI.ofQ q (fun t_ s_ hp_ => ∃ σ_, Stp [13] xσ16 H_22 σ_ hp_ ∧ t_.1 = s_ ∧ t_.2.length = r.length ∧ SlO (slM (rdM (slL u64L)) 47) 27 (Zt σ_) (Yt σ_ 13) hp_ A5 c5 t_.2) (fun h k => h _ _ k) ⟨_, Stp.refl _ _ _, rfl, rfl, f12⟩ ?_; rintro t _ _ H_23 next nextQ ⟨xσ17, st23, rfl, hl, f12⟩ q hnext; (try dsimp only at q ⊢); have sl9 := st23; refine condI (fun q => ?_) (fun q => ?_) q
 · obtain ⟨h02, hi4, q⟩ := q; replace f11 := f11.step (st22.then st23); obtain ⟨a2, ha2, hi3⟩ := f11.addr h02 (set_len (rl_len _ _)) hi4; refine ⟨a2, ha2, hi3.1, hi3.2, ?_⟩; obtain ⟨x4, hx, q⟩ := q; obtain ⟨A7, c7, hc, f14⟩ := f11.lds ha2 h02 hx; refine ⟨_, _, _, hc.val, ?_⟩; refine LoopI.ofQ q (fun t_ s_ hp_ => ∃ σ_, Stp [13] xσ17 H_23 σ_ hp_ ∧ t_.1 = s_ ∧ t_.2.length = t.2.length ∧ SlO (slM (rdM (slL u64L)) 47) 27 (Zt σ_) (Yt σ_ 13) hp_ A5 c5 t_.2) (fun h k => h _ _ k) ⟨_, Stp.refl _ _ _, rfl, rfl, f12⟩ ?_; rintro t2 _ _ H_24 next2 nextQ2 ⟨xσ18, st24, rfl, hl2, f12⟩ q hnext2; (try dsimp only at q ⊢); have sl11 := st24; refine condJ (fun q => ?_) (fun q => ?_) q
   · replace sl9 := sl9.trans st24; exact hnext (IntKind.i64.wrap (t.1 + 1), t2.2) _ _ ⟨_, sl9, rfl, (set_back ((rfl : _ = _).trans hl.symm) (((rfl : _ = _).trans hl.symm).trans hl2.symm) hl), f12⟩ q
   refine condI (fun q => ?_) (fun q => ?_) q
   · obtain ⟨h03, hi6, q⟩ := q; obtain ⟨a3, ha3, hi5⟩ := f12.addr h03 (((rfl : _ = _).trans hl.symm).trans hl2.symm) hi6; refine ⟨a3, ha3, hi5.1, hi5.2, ?_⟩; obtain ⟨x5, hx2, q⟩ := q; obtain ⟨A8, c8, Y5, hc2, hY7, f15, bk⟩ := f12.row ha3 h03 hx2; replace b := b.step (st12.then (st13.then (st14.then (st15.then (st16.then (st17.then (st18.then (st19.then (st20.then (st21.then (st22.then (st23.then st24)))))))))))); have g := SlO.rowF f15 (fun b hb => (hY7 b hb).1); refine ⟨_, _, _, hc2.val, ?_⟩; obtain ⟨h04, hi8, q⟩ := q; obtain ⟨a4, ha4, hi7⟩ := SlF.addr g h04 (List.getElem?_eq_getElem (idx_lt rfl h04 hi8)) rfl; refine ⟨a4, ha4, hi7.1, hi7.2, ?_⟩; have w3 := fun v hr => SlO.set2 (v := v) (y := x4) f12 rfl ha3 h03 hx2 hc2 ha4 h04 (lt_of_n rfl hi8) hr; replace f14 := f14.step st24; refine ⟨(w3 _ (slL_rep rfl f14)).1, NewH.mk fun H_25 e18 => ?_⟩; obtain ⟨st25, f12, hh⟩ := (w3 _ (slL_rep rfl f14)).2 H_25 e18; replace hc2 := hh _ _ hc2; replace sl11 := sl11.trans st25; exact hnext2 (IntKind.i64.wrap (t2.1 + 1), (List.set t2.2 (Int.toNat t.1) (List.set x5 (Int.toNat t2.1) x4))) _ _ ⟨_, sl11, rfl, (set_back (((rfl : _ = _).trans hl.symm).trans hl2.symm) (set_len (((rfl : _ = _).trans hl.symm).trans hl2.symm)) hl2), f12⟩ q
   refine ct rfl ?_; apply king_Say_1_1.ok; unfold king_Say_1_1.W; replace b2 := b2.step (st21.then (st22.then (st23.then st24))); refine ⟨_, b2.cell0, ?_⟩; refine ⟨_, rfl, ?_⟩; refine condJ (fun q => ?_) (fun q => ?_) q
   · exact hnext2 (IntKind.i64.wrap (t2.1 + 1), t2.2) _ _ ⟨_, sl11, rfl, hl2, f12⟩ q
   obtain ⟨h05, hi10, q⟩ := q; obtain ⟨a5, ha5, hi9⟩ := f12.addr h05 (((rfl : _ = _).trans hl.symm).trans hl2.symm) hi10; refine ⟨a5, ha5, hi9.1, hi9.2, ?_⟩; obtain ⟨x6, hx3, q⟩ := q; obtain ⟨A9, c9, Y6, hc3, hY8, f16, bk2⟩ := f12.row ha5 h05 hx3; replace b := b.step (st12.then (st13.then (st14.then (st15.then (st16.then (st17.then (st18.then (st19.then (st20.then (st21.then (st22.then (st23.then st24)))))))))))); have g2 := SlO.rowF f16 (fun b hb => (hY8 b hb).1); refine ⟨_, _, _, hc3.val, ?_⟩; obtain ⟨h06, hi12, q⟩ := q; obtain ⟨a6, ha6, hi11⟩ := SlF.addr g2 h06 (List.getElem?_eq_getElem (idx_lt rfl h06 hi12)) rfl; refine ⟨a6, ha6, hi11.1, hi11.2, ?_⟩; have w4 := fun v hr => SlO.set2 (v := v) (y := x4) f12 rfl ha5 h05 hx3 hc3 ha6 h06 (lt_of_n rfl hi12) hr; replace f14 := f14.step st24; refine ⟨(w4 _ (slL_rep rfl f14)).1, NewH.mk fun H_26 e19 => ?_⟩; obtain ⟨st26, f12, hh2⟩ := (w4 _ (slL_rep rfl f14)).2 H_26 e19; replace hc3 := hh2 _ _ hc3; replace sl11 := sl11.trans st26; exact hnext2 (IntKind.i64.wrap (t2.1 + 1), (List.set t2.2 (Int.toNat t.1) (List.set x6 (Int.toNat t2.1) x4))) _ _ ⟨_, sl11, rfl, (set_back (((rfl : _ = _).trans hl.symm).trans hl2.symm) (set_len (((rfl : _ = _).trans hl.symm).trans hl2.symm)) hl2), f12⟩ q
 obtain ⟨xσ19, st27, f12⟩ := SlO.freeze f12; replace f13 := f13.step (st23.then st27); obtain ⟨xσ20, st28, f13⟩ := SlO.freeze f13; replace f10 := f10.step (st20.then (st21.then (st22.then (st23.then (st27.then st28))))); have c_2 := st15.then (st16.then (st17.then (st18.then (st19.then (st20.then (st21.then (st22.then (st23.then (st27.then st28))))))))); replace f6 := f6.step c_2; replace f7 := f7.step c_2; replace f8 := f8.step (st19.then (st20.then (st21.then (st22.then (st23.then (st27.then st28)))))); replace f9 := f9.step c_2; replace b6 := b6.step (st16.then (st17.then (st18.then (st19.then (st20.then (st21.then (st22.then (st23.then (st27.then st28))))))))); replace b9 := b9.step (st22.then (st23.then (st27.then st28))); replace f12 := f12.step st28; refine q (Zt xσ20) (ren [11, 10, 6, 8, 9] xσ20) H_23 (ren_z _ _) _ _ rfl _ _ _ ((rl_len _ _).trans (copyL_len _ _).symm) (SlO.keep f10 (Fr.refl _ _) (Fr.wide (ren_y (js := [11, 10, 6, 8, 9]) (j := 10) (m := 2) (by decide) (by decide)) _)) _ _ rfl _ _ _ rfl f6 _ _ _ rfl f7 _ _ _ rfl (SlO.keep f8 (Fr.refl _ _) (Fr.wide (ren_y (js := [11, 10, 6, 8, 9]) (j := 8) (m := 4) (by decide) (by decide)) _)) _ _ _ rfl (SlO.keep f9 (Fr.refl _ _) (Fr.wide (ren_y (js := [11, 10, 6, 8, 9]) (j := 9) (m := 5) (by decide) (by decide)) _)) ⟨b6.blk, (ren_y (js := [11, 10, 6, 8, 9]) (j := 6) (m := 3) (by decide) (by decide)) _ b6.tag⟩ ⟨b9.blk, (ren_y (js := [11, 10, 6, 8, 9]) (j := 11) (m := 1) (by decide) (by decide)) _ b9.tag⟩ _ _ _ ((rfl : _ = _).trans hl.symm) f12 _ _ _ rfl f13 _ (fun Z6 xτ H_27 hT hO5 hd r5 A10 n8 c10 hn12 f17 r6 A11 n9 c11 hn13 f18 o v2 he3 A12 n10 c12 hn14 f19 b9 o2 v3 he4 A13 n11 c13 hn15 f20 A14 n12 c14 hn16 f21 A15 n13 c15 hn17 f22 A16 n14 c16 hn18 f23 b6 q => ?_); obtain ⟨xσ21, st29, fz5, fy5⟩ := callT hT hO5 hd [11, 10, 6, 8, 9]; replace f17 := f17.keep fz5; replace f18 := f18.keep fz5; replace f19 := SlO.keep f19 fz5 (Fr.wide (fy5 1 10 rfl) _); replace b9 := BoxF.mk b9.blk (fy5 0 11 rfl _ b9.tag); replace f20 := f20.keep fz5; replace f21 := f21.keep fz5; replace f22 := SlO.keep f22 fz5 (Fr.wide (fy5 3 8 rfl) _); replace f23 := SlO.keep f23 fz5 (Fr.wide (fy5 4 9 rfl) _); replace b6 := BoxF.mk b6.blk (fy5 2 6 rfl _ b6.tag); cases hn12; cases hn13; cases he3; cases hn14; cases he4; cases hn15; cases hn16; cases hn17; cases hn18; refine ⟨_, _, _, _, _, _, rfl, ?_⟩; refine ⟨_, _, _, rfl, ?_⟩; replace f11 := f11.step (st22.then (st23.then (st27.then (st28.then st29)))); refine LoopI.ofQ q (fun t_ s_ hp_ => ∃ σ_, Stp [12] xσ21 H_27 σ_ hp_ ∧ t_.1 = s_ ∧ t_.2.length = (List.set (List.replicate (Int.toNat x3.Setup.N) []) (Int.toNat (IntKind.i64.wrap (from_ - 1))) value).length ∧ SlO (rdM (slL u64L)) 47 (Zt σ_) (Yt σ_ 12) hp_ (some (Addr.mk H_19.size 0 none)) (Int.toNat x3.Setup.N) t_.2) (fun h k => h _ _ k) ⟨_, Stp.refl _ _ _, rfl, rfl, f11⟩ ?_; rintro t3 _ _ H_28 next3 nextQ3 ⟨xσ22, st30, rfl, hl3, f11⟩ q hnext3; (try dsimp only at q ⊢); have sl15 := st30; refine condI (fun q => ?_) (fun q => ?_) q
 · obtain ⟨h07, x7, hx4, q⟩ := q; replace f17 := f17.step st30; obtain ⟨a7, ha7, hi13⟩ := f17.addr h07 hx4 rfl; refine ⟨a7, ha7, hi13.1, hi13.2, ?_⟩; obtain ⟨A17, c17, hc4, f24⟩ := f17.lds ha7 h07 hx4; refine ⟨_, _, _, hc4.val, ?_⟩; replace b2 := b2.step (st21.then (st22.then (st23.then (st27.then (st28.then (st29.then st30)))))); refine ⟨_, b2.cell0, ?_⟩; obtain ⟨h08, x8, hx5, q⟩ := q; obtain ⟨a8, ha8, hi14⟩ := f24.addr h08 hx5 rfl; refine ⟨a8, ha8, hi14.1, hi14.2, ?_⟩; obtain ⟨A18, c18, hc5, f25⟩ := f24.lds ha8 h08 hx5; refine ⟨_, _, _, hc5.val, ?_⟩; obtain ⟨h09, hi16, q⟩ := q; obtain ⟨a9, ha9, hi15⟩ := f11.addr h09 ((set_len (rl_len _ _)).trans hl3.symm) hi16; refine ⟨a9, ha9, hi15.1, hi15.2, ?_⟩; have w5 := fun v hr => SlO.set1 (v := v) (y := x8) f11 rfl ha9 h09 (lt_of_n ((set_len (rl_len _ _)).trans hl3.symm) hi16) hr; refine ⟨(w5 _ (slL_rep rfl f25)).1, NewH.mk fun H_29 e20 => ?_⟩; obtain ⟨st31, f11⟩ := (w5 _ (slL_rep rfl f25)).2 H_29 e20; replace sl15 := sl15.trans st31; exact hnext3 (IntKind.i64.wrap (t3.1 + 1), (List.set t3.2 (Int.toNat t3.1) x8)) _ _ ⟨_, sl15, rfl, (set_back ((set_len (rl_len _ _)).trans hl3.symm) (set_len ((set_len (rl_len _ _)).trans hl3.symm)) hl3), f11⟩ q
 obtain ⟨xσ23, st32, f11⟩ := SlO.freeze f11; have c_3 := st30.then st32; replace f19 := f19.step c_3; replace f20 := f20.step c_3; replace f21 := f21.step c_3; replace f22 := f22.step c_3; replace f23 := f23.step c_3; replace b6 := b6.step c_3; replace b9 := b9.step c_3; refine q (Zt xσ23) (ren [11, 10, 6, 8, 9] xσ23) H_28 (ren_z _ _) _ _ rfl _ _ _ rfl (SlO.keep f19 (Fr.refl _ _) (Fr.wide (ren_y (js := [11, 10, 6, 8, 9]) (j := 10) (m := 2) (by decide) (by decide)) _)) _ _ rfl _ _ _ rfl f20 _ _ _ rfl f21 _ _ _ rfl (SlO.keep f22 (Fr.refl _ _) (Fr.wide (ren_y (js := [11, 10, 6, 8, 9]) (j := 8) (m := 4) (by decide) (by decide)) _)) _ _ _ rfl (SlO.keep f23 (Fr.refl _ _) (Fr.wide (ren_y (js := [11, 10, 6, 8, 9]) (j := 9) (m := 5) (by decide) (by decide)) _)) ⟨b6.blk, (ren_y (js := [11, 10, 6, 8, 9]) (j := 6) (m := 3) (by decide) (by decide)) _ b6.tag⟩ ⟨b9.blk, (ren_y (js := [11, 10, 6, 8, 9]) (j := 11) (m := 1) (by decide) (by decide)) _ b9.tag⟩ _ _ _ ((set_len (rl_len _ _)).trans hl3.symm) f11 _ (fun Z7 xτ2 H_30 hT2 hO6 hd2 x9 A19 n15 c19 hn19 f26 o3 v4 he5 A20 n16 c20 hn20 f27 b9 o4 v5 he6 A21 n17 c21 hn21 f28 A22 n18 c22 hn22 f29 A23 n19 c23 hn23 f30 A24 n20 c24 hn24 f31 b6 q => ?_); obtain ⟨xσ24, st33, fz6, fy6⟩ := callT hT2 hO6 hd2 [11, 10, 6, 8, 9, 15]; replace f26 := SlO.keep f26 fz6 (Fr.wide (fy6 5 15 rfl) _); replace f27 := SlO.keep f27 fz6 (Fr.wide (fy6 1 10 rfl) _); replace b9 := BoxF.mk b9.blk (fy6 0 11 rfl _ b9.tag); replace f28 := f28.keep fz6; replace f29 := f29.keep fz6; replace f30 := SlO.keep f30 fz6 (Fr.wide (fy6 3 8 rfl) _); replace f31 := SlO.keep f31 fz6 (Fr.wide (fy6 4 9 rfl) _); replace b6 := BoxF.mk b6.blk (fy6 2 6 rfl _ b6.tag); cases hn19; cases he5; cases hn20; cases he6; cases hn21; cases hn22; cases hn23; cases hn24; refine ⟨_, _, _, rfl, ?_⟩; replace b5 := b5.step (st12.then (st13.then (st14.then (st15.then (st16.then (st17.then (st18.then (st19.then (st20.then (st21.then (st22.then (st23.then (st27.then (st28.then (st29.then (st30.then (st32.then st33))))))))))))))))); refine ⟨b5.may 0 (show (0 : Nat) < 1 by decide), NewH.mk fun H_31 e21 => ?_⟩; obtain ⟨st34, b5⟩ := b5.wrote 0 (show (0 : Nat) < 1 by decide) e21; simp only [List.set_cons_zero, List.set_cons_succ] at b5; refine ⟨rfl, ?_⟩; replace b9 := b9.step st34; refine ⟨_, _, _, b9.cell 3 rfl, ?_⟩; replace f30 := f30.step st34; refine LoopI.ofQ q (fun t_ s_ hp_ => ∃ σ_, Stp [8, 16] xσ24 H_31 σ_ hp_ ∧ t_.1 = s_ ∧ t_.2.length = o4.Tapes.length ∧ SlO (rdM (slL u64L)) 47 (Zt σ_) (Yt σ_ 8) hp_ A23 c23 t_.2) (fun h k => h _ _ k) ⟨_, Stp.refl _ _ _, rfl, rfl, f30⟩ ?_; rintro t4 _ _ H_32 next4 nextQ4 ⟨xσ25, st35, rfl, hl4, f30⟩ q hnext4; (try dsimp only at q ⊢); have sl17 := st35; refine condI (fun q => ?_) (fun q => ?_) q
 · obtain ⟨h010, hi18, q⟩ := q; replace f27 := f27.step (st34.then st35); obtain ⟨a10, ha10, hi17⟩ := f27.addr h010 rfl hi18; refine ⟨a10, ha10, hi17.1, hi17.2, ?_⟩; obtain ⟨x10, hx6, q⟩ := q; obtain ⟨A25, c25, hc6, f32⟩ := f27.lds ha10 h010 hx6; refine ⟨_, _, _, hc6.val, ?_⟩; replace b6 := b6.step (st34.then st35); refine ⟨_, _, _, b6.cell 5 rfl, ?_⟩; refine q (Zt xσ25) H_32 _ _ _ rfl f32 _ (fun Z8 H_33 hE5 hO7 x11 Y7 hY9 A26 n21 c26 hn25 f33 q => ?_); obtain ⟨xσ26, st36, fz7, fy7⟩ := call1 hE5 hO7 xσ25 16 (fun _ h => h) hY9; replace f33 := f33.keep fz7 fy7; cases hn25; refine ⟨_, _, _, rfl, ?_⟩; replace b6 := b6.step st36; refine ⟨(b6.cell 5 rfl), ?_⟩; obtain ⟨h011, hi20, q⟩ := q; replace f30 := f30.step st36; obtain ⟨a11, ha11, hi19⟩ := f30.addr h011 ((rfl : _ = _).trans hl4.symm) hi20; refine ⟨a11, ha11, hi19.1, hi19.2, ?_⟩; obtain ⟨xσ27, st38, f33⟩ := SlO.freeze f33; replace f30 := f30.step st38; have w6 := fun v hr => SlO.set1 (v := v) (y := x11) f30 rfl ha11 h011 (lt_of_n ((rfl : _ = _).trans hl4.symm) hi20) hr; refine ⟨(w6 _ (slL_rep rfl f33)).1, NewH.mk fun H_34 e22 => ?_⟩; obtain ⟨st37, f30⟩ := (w6 _ (slL_rep rfl f33)).2 H_34 e22; replace sl17 := sl17.trans (st36.then (st38.then st37)); exact hnext4 (IntKind.i64.wrap (t4.1 + 1), (List.set t4.2 (Int.toNat t4.1) x11)) _ _ ⟨_, sl17, rfl, (set_back ((rfl : _ = _).trans hl4.symm) (set_len ((rfl : _ = _).trans hl4.symm)) hl4), f30⟩ q
 replace b6 := b6.step (st34.then st35); refine ⟨_, _, _, _, _, _, _, _, _, _, _, _, _, _, _, _, b6.cell0, b6.cell 1 rfl, b6.cell 2 rfl, b6.cell 3 rfl, b6.cell 4 rfl, b6.cell 5 rfl, b6.cell 6 rfl, b6.cell 7 rfl, ?_⟩; replace b7 := b7.step (st14.then (st15.then (st16.then (st17.then (st18.then (st19.then (st20.then (st21.then (st22.then (st23.then (st27.then (st28.then (st29.then (st30.then (st32.then (st33.then (st34.then st35))))))))))))))))); refine ⟨b7.mayF rfl, NewH.mk fun H_35 e23 => ?_⟩; obtain ⟨st39, b7⟩ := b7.wf8 rfl e23; refine ⟨_, _, _, _, _, _, _, _, _, _, _, _, _, _, _, _, b7.cell0, b7.cell 1 rfl, b7.cell 2 rfl, b7.cell 3 rfl, b7.cell 4 rfl, b7.cell 5 rfl, b7.cell 6 rfl, b7.cell 7 rfl, ?_⟩; refine ⟨_, _, _, _, _, _, _, _, _, _, _, _, _, _, _, _, rfl, ?_⟩; replace b := b.step (st12.then (st13.then (st14.then (st15.then (st16.then (st17.then (st18.then (st19.then (st20.then (st21.then (st22.then (st23.then (st27.then (st28.then (st29.then (st30.then (st32.then (st33.then (st34.then (st35.then st39)))))))))))))))))))); refine ⟨b.mayF rfl, NewH.mk fun H_36 e24 => ?_⟩; obtain ⟨st40, b⟩ := b.wf8 rfl e24; replace b5 := b5.step (st35.then (st39.then st40)); refine ⟨_, _, _, b5.cell0, ?_⟩; refine ⟨_, _, _, _, _, _, _, _, _, _, _, _, _, _, _, _, b.cell0, b.cell 1 rfl, b.cell 2 rfl, b.cell 3 rfl, b.cell 4 rfl, b.cell 5 rfl, b.cell 6 rfl, b.cell 7 rfl, ?_⟩; replace b4 := b4.step (st5.then (st9.then (st11.then (st12.then (st13.then (st14.then (st15.then (st16.then (st17.then (st18.then (st19.then (st20.then (st21.then (st22.then (st23.then (st27.then (st28.then (st29.then (st30.then (st32.then (st33.then (st34.then (st35.then (st39.then st40)))))))))))))))))))))))); refine ⟨b4.mayF rfl, NewH.mk fun H_37 e25 => ?_⟩; obtain ⟨st41, b4⟩ := b4.wf8 rfl e25; refine ⟨_, _, _, _, _, _, _, _, _, _, _, _, _, _, _, _, b4.cell0, b4.cell 1 rfl, b4.cell 2 rfl, b4.cell 3 rfl, b4.cell 4 rfl, b4.cell 5 rfl, b4.cell 6 rfl, b4.cell 7 rfl, ?_⟩; replace f30 := f30.step (st39.then (st40.then st41)); obtain ⟨xσ28, st42, f30⟩ := SlO.freeze f30; replace f31 := f31.step (st34.then (st35.then (st39.then (st40.then (st41.then st42))))); obtain ⟨xσ29, st43, f31⟩ := SlO.freeze f31; replace hs := hs.trans (st.then (st2.then (st3.then (st4.then (st5.then (st9.then (st11.then (st12.then (st13.then (st14.then (st15.then (st16.then (st17.then (st18.then (st19.then (st20.then (st21.then (st22.then (st23.then (st27.then (st28.then (st29.then (st30.then (st32.then (st33.then (st34.then (st35.then (st39.then (st40.then (st41.then (st42.then st43))))))))))))))))))))))))))))))); have c_4 := st34.then (st35.then (st39.then (st40.then (st41.then (st42.then st43))))); replace f26 := f26.step c_4; replace f28 := f28.step c_4; replace f29 := f29.step c_4; replace f30 := f30.step st43; exact hk (Zt xσ29) _ (hs.ext hσ) (hs.old hσ) _ (Yt xσ29 15) (hs.fresh hσ) _ _ _ rfl f26 (⟨o4.Setup, o4.Corrupted, o4.Acts, t4.2, o4.Round, o4.Sent⟩ : TWorld) _ rfl _ _ _ rfl f28 _ _ _ rfl f29 _ _ _ ((rfl : _ = _).trans hl4.symm) f30 _ _ _ rfl f31 _ q
end Go.Proofs.Ytpfpnkaeoedeiaa.Sh
end
section
set_option linter.unusedVariables false
namespace Go.Proofs.Ytpfpnkaeoedeiaa.Pl
open Go.Sx Go.Lf Go.Proofs.Ytpfpnkaeoedeiaa.Sh Go.Proofs.Ytpfpnkaeoedeiaa.Sp Go.King
def sendT (n : Nat) (v : Nat → List Nat) (c : Nat → Bool) (i k : Nat) : List (List (List Nat)) :=
 tab n fun a => tab n fun b => if (a < i ∨ (a = i ∧ b < k)) ∧ (a = b ∨ c a = true) then v a else []
section
variable {n j m : Nat} {v : Nat → List Nat} {c : Nat → Bool}
theorem sendT_start (n : Nat) (v : Nat → List Nat) (c : Nat → Bool) : List.replicate n (List.replicate n ([] : List Nat)) = sendT n v c 0 0 := by
 unfold sendT
 rw [tab_rep]
 refine tab_ext fun a ha => ?_
 rw [tab_rep]
 exact tab_ext fun b hb => by rw [if_neg (by omega)]
theorem sendT_row (hj : j < n) : (sendT n v c j m)[j]? = some (tab n fun b => if b < m ∧ (j = b ∨ c j = true) then v j else []) := by
 unfold sendT
 rw [tab_get _ hj]
 congr 1
 refine tab_ext fun b hb => ?_
 by_cases h : b < m ∧ (j = b ∨ c j = true)
 · rw [if_pos h, if_pos ⟨.inr ⟨rfl, h.1⟩, h.2⟩]
 · rw [if_neg h, if_neg (fun g => h ⟨by omega, g.2⟩)]
theorem sendT_put (hj : j < n) (hm : m < n) (hc : j = m ∨ c j = true) :
   (sendT n v c j m).set j ((tab n fun b => if b < m ∧ (j = b ∨ c j = true) then v j else []).set m (v j)) = sendT n v c j (m + 1) := by
 unfold sendT
 rw [tab_set, tab_set]
 refine tab_ext fun a ha => ?_
 by_cases e : a = j
 · rw [if_pos e]
   subst e
   refine tab_ext fun b hb => ?_
   by_cases e2 : b = m
   · subst e2
     rw [if_pos rfl, if_pos ⟨.inr ⟨rfl, by omega⟩, hc⟩]
   · rw [if_neg e2]
     by_cases h : b < m ∧ (a = b ∨ c a = true)
     · rw [if_pos h, if_pos ⟨.inr ⟨rfl, by omega⟩, h.2⟩]
     · rw [if_neg h, if_neg (fun g => h ⟨by omega, g.2⟩)]
 · rw [if_neg e]
   refine tab_ext fun b hb => ?_
   by_cases h : (a < j ∨ (a = j ∧ b < m)) ∧ (a = b ∨ c a = true)
   · rw [if_pos h, if_pos ⟨by omega, h.2⟩]
   · rw [if_neg h, if_neg (fun g => h ⟨by omega, g.2⟩)]
theorem sendT_keep (hc : ¬ (j = m ∨ c j = true)) : sendT n v c j m = sendT n v c j (m + 1) := by
 unfold sendT
 refine tab_ext fun a ha => tab_ext fun b hb => ?_
 by_cases h : (a < j ∨ (a = j ∧ b < m)) ∧ (a = b ∨ c a = true)
 · rw [if_pos h, if_pos ⟨by omega, h.2⟩]
 · rw [if_neg h, if_neg]
   rintro ⟨g1, g2⟩
   by_cases e : a = j ∧ b = m
   · obtain ⟨rfl, rfl⟩ := e
     exact hc g2
   · exact h ⟨by omega, g2⟩
theorem sendT_next : sendT n v c j n = sendT n v c (j + 1) 0 := by
 unfold sendT
 refine tab_ext fun a ha => tab_ext fun b hb => ?_
 by_cases h : (a < j ∨ (a = j ∧ b < n)) ∧ (a = b ∨ c a = true)
 · rw [if_pos h, if_pos ⟨by omega, h.2⟩]
 · rw [if_neg h, if_neg (fun g => h ⟨by omega, g.2⟩)]
theorem sendT_end : sendT n v c n 0 = sendP n v c := by
 unfold sendT sendP
 refine tab_ext fun a ha => tab_ext fun b hb => ?_
 by_cases h : a = b ∨ c a = true
 · rw [if_pos h, if_pos ⟨.inl ha, h⟩]
 · rw [if_neg h, if_neg (fun g => h g.2)]
end
theorem king_send_c {t : TTable} {w : TWorld} {n : Nat} {vs : List (List Nat)} {c : Nat → Bool} {who : Int → (Bool → Prop) → Prop} (hw : WOk w) (ht : t.Setup = w.Setup) (hn : w.Setup.N = n) (hl : vs.length = n)
   (hS : w.Sent.length ≤ 2000000) (hA : w.Acts.length ≤ 2000000) (hwho : ∀ (i : Nat) (J : Bool → Prop), i < n → J (c i) → who ((i : Int) + 1) J)
   {K : List (List (List Nat)) → TTable → TWorld → Prop} (k : K (cames w (sendP n (pay vs) c)) t (nextW w (sendP n (pay vs) c) (none' n))) : king_send.C t w vs who K := by
 have hn2 : n ≤ 13 := by have := hw.set.2.2.1; omega
 refine king_send.q ?_
 unfold king_send.Q
 rw [ht, hn]
 refine net_Blank_c (by omega) ?_
 rw [sendT_start n (pay vs) c]
 have hlen : (sendT n (pay vs) c 0 0).length = n := tab_len _ _
 refine LoopQ.rangeS n (fun j s => s = sendT n (pay vs) c j 0) rfl (by omega) ?_ ?_
 · rintro j _ next hj rfl hnx
   obtain ⟨x, hx⟩ := get_some (l := vs) (k := j) (by omega)
   have ex : pay vs j = x := pay_get hx
   refine ctd (by dsimp only; omega) ⟨by dsimp only; omega, x, hx, ?_⟩
   refine LoopQ.rangeS n (fun m s => s = sendT n (pay vs) c j m) rfl (by omega) ?_ ?_
   · rintro m _ next2 hm rfl hnx2
     refine ctd (by dsimp only; omega) (cnE (fun e => ?_) (fun e => ?_))
     · refine ⟨by dsimp only; omega, by dsimp only; omega, _, sendT_row hj, by dsimp only; omega, by dsimp only; rw [tab_len]; omega, hnx2 _ ?_⟩
       dsimp only at e ⊢
       rw [← ex]
       exact sendT_put hj hm (.inl (by omega))
     · dsimp only at e ⊢
       rw [wi64 (x := (j : Int) + 1) (by omega) (by omega)]
       refine hwho j _ hj ?_
       cases hc : c j
       · exact cf rfl (hnx2 _ (sendT_keep (by rw [hc]; simp; omega)))
       · refine ct rfl ⟨by omega, by omega, _, sendT_row hj, by omega, by rw [tab_len]; omega, hnx2 _ ?_⟩
         rw [← ex]
         exact sendT_put hj hm (.inr hc)
   · rintro _ next2 rfl
     exact cfd (by dsimp only; omega) (hnx _ sendT_next)
 · rintro _ next rfl
   refine cfd (by dsimp only; omega) ?_
   dsimp only
   rw [sendT_end]
   exact net_Table_Round_c hw hn (sendP_sq _ _ _) (by simp) hS hA k
end Go.Proofs.Ytpfpnkaeoedeiaa.Pl
end
section
namespace Go.Proofs.Ytpfpnkaeoedeiaa
open Go.Shelf Go.Proofs
def Lay.sortQ_ren : Go.Shelf.Ren := ⟨fun | 6 => 67 | 15 => 71 | 14 => 70 | 28 => 81 | 29 => 82 | 20 => 73 | 21 => 74 | 22 => 75 | 23 => 76 | 24 => 77 | 25 => 78 | 26 => 79 | 27 => 80 | 46 => 84 | 47 => 85 | 48 => 86 | 49 => 87 | 50 => 88 | 57 => 89 | n => n, fun | 22 => 27 | 24 => 47 | 25 => 102 | 3 => 3 | 39 => 105 | 0 => 0 | 53 => 116 | 55 => 22 | 4 => 4 | 46 => 109 | 45 => 108 | 50 => 113 | 5 => 5 | 9 => 9 | 66 => 118 | 70 => 122 | 76 => 124 | 77 => 125 | n => n, fun | n => n⟩
theorem Lay.sortQ : Go.Proofs.SlLaysF.n6 Try.prog Lay.sortQ_ren := {
 mixed := by kernel_rfl,
 f6 := ⟨Try.f67.name, by decide, Try.func67.trans (congrArg some (by kernel_rfl))⟩,
 f14 := ⟨Try.f70.name, by decide, Try.func70.trans (congrArg some (by kernel_rfl))⟩,
 f15 := Try.func71.trans (congrArg some (by kernel_rfl)),
 f20 := ⟨Try.f73.name, by decide, Try.func73.trans (congrArg some (by kernel_rfl))⟩,
 f21 := ⟨Try.f74.name, by decide, Try.func74.trans (congrArg some (by kernel_rfl))⟩,
 f22 := ⟨Try.f75.name, by decide, Try.func75.trans (congrArg some (by kernel_rfl))⟩,
 f23 := ⟨Try.f76.name, by decide, Try.func76.trans (congrArg some (by kernel_rfl))⟩,
 f24 := ⟨Try.f77.name, by decide, Try.func77.trans (congrArg some (by kernel_rfl))⟩,
 f25 := ⟨Try.f78.name, by decide, Try.func78.trans (congrArg some (by kernel_rfl))⟩,
 f26 := ⟨Try.f79.name, by decide, Try.func79.trans (congrArg some (by kernel_rfl))⟩,
 f27 := ⟨Try.f80.name, by decide, Try.func80.trans (congrArg some (by kernel_rfl))⟩,
 f28 := Try.func81.trans (congrArg some (by kernel_rfl)),
 f29 := Try.func82.trans (congrArg some (by kernel_rfl)),
 f46 := ⟨Try.f84.name, by decide, Try.func84.trans (congrArg some (by kernel_rfl))⟩,
 f47 := Try.func85.trans (congrArg some (by kernel_rfl)),
 f48 := Try.func86.trans (congrArg some (by kernel_rfl)),
 f49 := ⟨Try.f87.name, by decide, Try.func87.trans (congrArg some (by kernel_rfl))⟩,
 f50 := ⟨Try.f88.name, by decide, Try.func88.trans (congrArg some (by kernel_rfl))⟩,
 f57 := ⟨Try.f89.name, by decide, Try.func89.trans (congrArg some (by kernel_rfl))⟩,
 t0 := Try.underlying0,
 a0 := Try.isAgg0,
 z0 := Try.sizeOf0,
 v0 := Try.zeroValue0,
 t3 := Try.underlying3,
 a3 := Try.isAgg3,
 z3 := Try.sizeOf3,
 v3 := Try.zeroValue3,
 t4 := Try.underlying4,
 a4 := Try.isAgg4,
 z4 := Try.sizeOf4,
 v4 := Try.zeroValue4,
 t5 := Try.underlying5,
 a5 := Try.isAgg5,
 z5 := Try.sizeOf5,
 v5 := Try.zeroValue5,
 t9 := Try.underlying9,
 a9 := Try.isAgg9,
 z9 := Try.sizeOf9,
 v9 := Try.zeroValue9,
 t22 := Try.underlying27,
 a22 := Try.isAgg27,
 z22 := Try.sizeOf27,
 v22 := Try.zeroValue27,
 a24 := Try.isAgg47,
 z24 := Try.sizeOf47,
 t25 := Try.underlying102,
 a25 := Try.isAgg102,
 z25 := Try.sizeOf102,
 v25 := Try.zeroValue102,
 t39 := Try.underlying105,
 a39 := Try.isAgg105,
 z39 := Try.sizeOf105,
 v39 := Try.zeroValue105,
 t45 := Try.underlying108,
 a45 := Try.isAgg108,
 z45 := Try.sizeOf108,
 v45 := Try.zeroValue108,
 t46 := Try.underlying109,
 a46 := Try.isAgg109,
 z46 := Try.sizeOf109,
 v46 := Try.zeroValue109,
 t50 := Try.underlying113,
 a50 := Try.isAgg113,
 z50 := Try.sizeOf113,
 v50 := Try.zeroValue113,
 t53 := Try.underlying116,
 a53 := Try.isAgg116,
 z53 := Try.sizeOf116,
 v53 := Try.zeroValue116,
 t55 := Try.underlying22,
 a55 := Try.isAgg22,
 z55 := Try.sizeOf22,
 v55 := Try.zeroValue22,
 t66 := Try.underlying118,
 a66 := Try.isAgg118,
 z66 := Try.sizeOf118,
 v66 := Try.zeroValue118,
 t70 := Try.underlying122,
 a70 := Try.isAgg122,
 z70 := Try.sizeOf122,
 v70 := Try.zeroValue122,
 t76 := Try.underlying124,
 a76 := Try.isAgg124,
 z76 := Try.sizeOf124,
 v76 := Try.zeroValue124,
 t77 := Try.underlying125,
 a77 := Try.isAgg125,
 z77 := Try.sizeOf125,
 v77 := Try.zeroValue125 }
end Go.Proofs.Ytpfpnkaeoedeiaa
end
section
set_option linter.unusedVariables false
namespace Go.Proofs.Ytpfpnkaeoedeiaa.Srt
open Go Go.Proofs Go.Shelf Go.RowKit Go.King
attribute [local go_sem] Oper.semAt_some
theorem nan_u (x : Nat) (w : World) : Calls Try.prog 83 #[.int .u64 x] w fun e w' => e = .returned (.bool false) ∧ w' = w := by
 go_enter Try.func83, Try.ntmps83
 go_wp2
 go_ret
 exact ⟨by simp, rfl⟩
theorem cmp_u (x y : Nat) (w : World) : Calls Try.prog 72 #[.int .u64 x, .int .u64 y] w fun e w' => e = .returned (.int .i64 (cmpI x y)) ∧ w' = w := by
 have hcon := nan_u
 go_enter Try.func72, Try.ntmps72
 go_wp2_with (go_at_call 83; refine (hcon _ _).mono ?_; rintro e w' ⟨rfl, hw⟩; rw [hw])
 all_goals (go_ret; refine ⟨?_, rfl⟩; unfold cmpI; (repeat' split) <;> first | rfl | (exfalso; omega))
set_option maxRecDepth 100000 in
set_option maxHeartbeats 2000000 in
theorem cmp_rows (b1 o1 b2 o2 c d : Nat) (xs ys : List Nat) (w : World) (hbx : xs.length ≤ 4611686018427387904) (hby : ys.length ≤ 4611686018427387904)
   (hx : ∀ j x : Nat, xs[j]? = some x → w.cell? ⟨b1, o1 + j, none⟩ = some (.int .u64 x)) (hy : ∀ j x : Nat, ys[j]? = some x → w.cell? ⟨b2, o2 + j, none⟩ = some (.int .u64 x)) :
   Calls Try.prog 68 #[.slice (some ⟨b1, o1, none⟩) xs.length c, .slice (some ⟨b2, o2, none⟩) ys.length d] w fun e w' => e = .returned (.int .i64 (cmpL xs ys)) ∧ ∃ q, w' = w.drewN q := by
 have hcon := cmp_u
 generalize hn : xs.length = n
 generalize hm : ys.length = m
 go_enter Try.func68, Try.ntmps68
 go_wp2
 go_loopg [11] n (fun g s11 wr => ∃ k q : Nat, k ≤ n ∧ k ≤ m ∧ n - k ≤ g ∧ s11 = .int .i64 k ∧ wr = w.drewN q ∧ ∀ j, j < k → xs[j]? = ys[j]?)
 case atStart => exact ⟨0, 0, Nat.zero_le _, Nat.zero_le _, by omega, rfl, rfl, fun j hj => absurd hj (Nat.not_lt_zero _)⟩
 case round =>
   obtain ⟨k, q, hk, hkm, hg, rfl, rfl, heq⟩ := hrel
   by_cases hlt : k < n
   · obtain ⟨x, ex⟩ : ∃ x, xs[k]? = some x := ⟨_, List.getElem?_eq_getElem (by omega)⟩
     have g1 : w.cell? ⟨b1, o1 + k, none⟩ = some (.int .u64 (x : Int)) := hx k x ex
     by_cases hlm : k < m
     · obtain ⟨y, ey⟩ : ∃ y, ys[k]? = some y := ⟨_, List.getElem?_eq_getElem (by omega)⟩
       have g2 : w.cell? ⟨b2, o2 + k, none⟩ = some (.int .u64 (y : Int)) := hy k y ey
       have A : Aside ((∀ j, j < k → xs[j]? = ys[j]?) ∧ xs[k]? = some x ∧ ys[k]? = some y ∧ xs.length = n ∧ ys.length = m) := ⟨heq, ex, ey, hn, hm⟩
       clear heq hx hy ex ey
       by_cases hxy : cmpI x y = 0
       · go_wp2_with (go_at_call 72; refine (hcon _ _ _).mono ?_; rintro e w' ⟨rfl, rfl⟩; rw [hxy])
         go_roundg (n - (k + 1))
         case measure => omega
         case rel =>
           refine ⟨k + 1, q, by omega, by omega, by omega, by go_num, rfl, fun j hj => ?_⟩
           by_cases e : j = k
           · subst e
             rw [A.out.2.1, A.out.2.2.1, cmpI_eq.1 hxy]
           · exact A.out.1 j (by omega)
       · go_wp2_with (go_at_call 72; refine (hcon _ _ _).mono ?_; rintro e w' ⟨rfl, rfl⟩)
         go_ret
         refine ⟨?_, q, rfl⟩
         rw [cmpL_ne A.out.1 A.out.2.1 A.out.2.2.1 hxy]; rfl
     · have : k = m := by omega
       subst this
       have A : Aside ((∀ j, j < k → xs[j]? = ys[j]?) ∧ xs.length = n ∧ ys.length = k) := ⟨heq, hn, hm⟩
       clear heq hx hy ex
       go_wp2
       go_ret
       refine ⟨?_, q, rfl⟩
       rw [cmpL_stop (fun j hj => A.out.1 j (by omega)) (by omega)]; rfl
   · have : k = n := by omega
     subst this
     have A : Aside ((∀ j, j < k → xs[j]? = ys[j]?) ∧ xs.length = k ∧ ys.length = m) := ⟨heq, hn, hm⟩
     clear heq hx hy
     have e := cmpL_end (l := xs) (m := ys) (fun j hj => A.out.1 j (by omega)) (by omega)
     by_cases h : k < m
     · rw [if_pos (by omega)] at e
       go_wp2
       go_ret
       exact ⟨by rw [e]; rfl, q, rfl⟩
     · rw [if_neg (by omega)] at e
       go_wp2
       go_ret
       exact ⟨by rw [e]; rfl, q, rfl⟩
set_option maxRecDepth 100000 in
set_option maxHeartbeats 2000000 in
theorem cmp_rows0 (a1 : Option Addr) (b2 o2 c d : Nat) (a2 : Option Addr) (m : Nat) (ys : List Nat) (w : World) (hm : ys.length = m) (hby : m ≤ 4611686018427387904) :
   Calls Try.prog 68 #[.slice a1 0 c, .slice a2 m d] w fun e w' => e = .returned (.int .i64 (cmpL [] ys)) ∧ ∃ q, w' = w.drewN q := by
 go_enter Try.func68, Try.ntmps68
 go_wp2
 go_loopg [11] 0 (fun _ s11 wr => s11 = .int .i64 0 ∧ wr = w)
 case atStart => exact ⟨rfl, rfl⟩
 case round =>
   obtain ⟨rfl, rfl⟩ := hrel
   have e := cmpL_end (l := []) (m := ys) (fun j hj => by simp at hj) (by simp)
   by_cases h : 0 < m
   · rw [if_pos (by simpa [hm] using h)] at e
     go_wp2
     go_ret
     exact ⟨by rw [e]; rfl, 0, rfl⟩
   · obtain rfl : m = 0 := by omega
     rw [if_neg (by simp [hm])] at e
     go_wp2
     go_ret
     exact ⟨by rw [e]; rfl, 0, rfl⟩
set_option maxRecDepth 100000 in
set_option maxHeartbeats 2000000 in
theorem cmp_rows1 (b1 o1 c d n m : Nat) (hm : m = 0) (a2 : Option Addr) (xs : List Nat) (w : World) (hn : xs.length = n) (hp : 0 < n) (hbx : n ≤ 4611686018427387904)
   (hx : ∀ j x : Nat, xs[j]? = some x → w.cell? ⟨b1, o1 + j, none⟩ = some (.int .u64 x)) :
   Calls Try.prog 68 #[.slice (some ⟨b1, o1, none⟩) n c, .slice a2 m d] w fun e w' => e = .returned (.int .i64 (cmpL xs [])) ∧ ∃ q, w' = w.drewN q := by
 obtain ⟨x, ex⟩ : ∃ x, xs[0]? = some x := ⟨_, List.getElem?_eq_getElem (by omega)⟩
 have g1 : w.cell? ⟨b1, o1 + m, none⟩ = some (.int .u64 (x : Int)) := by rw [hm]; exact hx 0 x ex
 have e : cmpL xs [] = 1 := cmpL_stop (fun j hj => by simp at hj) (by simp; omega)
 have hlt : m < n := by omega
 have A : Aside (m = 0) := hm
 clear hx ex hm
 go_enter Try.func68, Try.ntmps68
 go_wp2
 go_loopg [11] n (fun _ s11 wr => s11 = .int .i64 m ∧ wr = w)
 case atStart => exact ⟨by rw [A.out]; rfl, rfl⟩
 case round =>
   obtain ⟨rfl, rfl⟩ := hrel
   go_wp2
   go_ret
   exact ⟨by rw [e]; rfl, 0, rfl⟩
end Go.Proofs.Ytpfpnkaeoedeiaa.Srt
end
section
set_option linter.unusedVariables false
namespace Go.Proofs.Ytpfpnkaeoedeiaa.Srt
open Go Go.Sx Go.Proofs.Ytpfpnkaeoedeiaa.Sh Go.Lf Go.King
open Go.Proofs (sortWorld CmpLays1)
open Go.Sort (putCells putRow mapBlock onCells Holds ahead grow SWO PermIn SortedIn)
def RowOf (Z : Nat → Prop) (H : Heap) (v : Value) (xs : List Nat) : Prop := ∃ A c, v = .slice A xs.length c ∧ SlF u64L Z H A c xs
structure RowT (Z : Nat → Prop) (H : Heap) where
 v : Value
 xs : List Nat
 is : RowOf Z H v xs
instance (Z : Nat → Prop) (H : Heap) : Inhabited (RowT Z H) := ⟨⟨.slice none 0 0, [], none, 0, rfl, SlF.nil _ _ _ _ _⟩⟩
def encT {Z : Nat → Prop} {H : Heap} (p : RowT Z H) : Value := p.v
def cmpT {Z : Nat → Prop} {H : Heap} (p q : RowT Z H) : Int := cmpL p.xs q.xs
theorem ltT {Z : Nat → Prop} {H : Heap} (p q : RowT Z H) : Go.Proofs.ltOf cmpT p q = lexLt p.xs q.xs := cmpL_lt _ _
theorem swoT (Z : Nat → Prop) (H : Heap) : SWO (Go.Proofs.ltOf (cmpT (Z := Z) (H := H))) where
 irrefl x := by rw [ltT]; exact lexLt_irrefl _
 trans x y z h1 h2 := by rw [ltT] at *; exact lexLt_trans _ _ _ h1 h2
 ntrans x y z h1 h2 := by rw [ltT] at *; exact lexLt_ntrans _ _ _ h1 h2
theorem rowsT {Z : Nat → Prop} {H : Heap} {Q : Nat → Value → Prop} : ∀ (l : List (List Nat)) (k : Nat), (∀ i x, l[i]? = some x → ∃ v, RowOf Z H v x ∧ Q (k + i) v) →
   ∃ d : List (RowT Z H), d.map (fun p => p.xs) = l ∧ ∀ i p, d[i]? = some p → Q (k + i) p.v
 | [], k, h => ⟨[], rfl, fun i p hp => by simp at hp⟩
 | x :: l, k, h => by
   obtain ⟨v, hv, hq⟩ := h 0 x rfl
   obtain ⟨d, hd, hQ⟩ := rowsT l (k + 1) fun i y hy => by
     obtain ⟨v, h1, h2⟩ := h (i + 1) y (by simpa using hy)
     exact ⟨v, h1, by rw [show k + 1 + i = k + (i + 1) by omega]; exact h2⟩
   refine ⟨⟨v, x, hv⟩ :: d, by simp [hd], fun i p hp => ?_⟩
   match i, hp with
   | 0, hp => cases hp; exact hq
   | i + 1, hp => rw [show k + (i + 1) = k + 1 + i by omega]; exact hQ i p (by simpa using hp)
theorem world1 {α : Type} [Inhabited α] {enc : α → Value} {w : World} {g m : Nat} {d : Array α} {os : Array Obj} {cells : Array Value} {e : TypeId} {fr : Nat × Nat} (hb : w.heap[g]? = some (.cells cells e fr)) (hs : d.size ≤ cells.size) :
   Same w (sortWorld enc w g 0 m d os) ∧ w.heap.size ≤ (sortWorld enc w g 0 m d os).heap.size ∧ (∀ i, i < w.heap.size → i ≠ g → (sortWorld enc w g 0 m d os).heap[i]? = w.heap[i]?) ∧
     ∃ c2 : Array Value, (sortWorld enc w g 0 m d os).heap[g]? = some (.cells c2 e fr) ∧ c2.size = cells.size ∧ ∀ (i : Nat) (x : α), d[i]? = some x → c2[i]? = some (enc x) := by
 have hg := lt_of_get hb
 unfold sortWorld putRow mapBlock grow
 refine ⟨⟨rfl, rfl, rfl⟩, by simp, fun i hi hne => ?_, putCells enc 0 d cells, ?_, by simp [putCells], fun i x hx => ?_⟩
 · show ((w.heap.modify g _) ++ os)[i]? = _
   rw [Array.getElem?_append, if_pos (by simpa using hi), Array.getElem?_modify, if_neg (fun h => hne h.symm)]
 · show ((w.heap.modify g _) ++ os)[g]? = _
   rw [Array.getElem?_append, if_pos (by simpa using hg), Array.getElem?_modify, if_pos rfl, hb]
   rfl
 · obtain ⟨hi, hv⟩ := Array.getElem?_eq_some_iff.1 hx
   unfold putCells
   rw [Array.getElem?_mapIdx, Array.getElem?_eq_getElem (show i < cells.size by omega)]
   simp only [Option.map_some, Nat.zero_le, Nat.zero_add, true_and, Nat.sub_zero, if_pos hi]
   rw [getElem!_pos d i hi, hv]
theorem grow_empty' (w : World) : grow w #[] = w := by
 unfold grow
 simp
theorem cell_of_cellH {w : World} {Z : Nat → Prop} {H : Heap} {g : Nat} {v : Value} {xs : List Nat} (hw : ∀ i, i < H.size → i ≠ g → w.heap[i]? = H[i]?) (hZ : ¬ Z g) (h : RowOf Z H v xs) (hne : xs ≠ []) :
   ∃ b o c, v = .slice (some ⟨b, o, none⟩) xs.length c ∧ ∀ j x : Nat, xs[j]? = some x → w.cell? ⟨b, o + j, none⟩ = some (.int .u64 x) := by
 obtain ⟨A, c, rfl, hf⟩ := h
 obtain ⟨x0, h0⟩ : ∃ x, xs[0]? = some x := ⟨_, List.getElem?_eq_getElem (List.length_pos_iff.2 hne)⟩
 obtain ⟨a, cs, rfl, hr, hc⟩ := hf.get 0 x0 h0
 cases hr
 obtain ⟨_, h00⟩ := hc 0 _ rfl
 obtain ⟨b, o, sp⟩ := a
 have hsp : sp = none := by
   cases sp with
   | none => rfl
   | some s =>
     unfold cellH at h00
     have : ((Addr.mk b o (some s)).add (0 * u64L.sz + 0)) = Addr.mk b o (some s) := by simp [add_zero]
     rw [this] at h00
     simp at h00
     split at h00 <;> simp at h00
 subst hsp
 refine ⟨b, o, c, rfl, fun j x hx => ?_⟩
 obtain ⟨a', cs', ha', hr', hc'⟩ := hf.get j x hx
 cases ha'
 cases hr'
 obtain ⟨hz, hv⟩ := hc' 0 _ rfl
 have hbg : b ≠ g := fun e => hZ (e ▸ hz)
 have ea : (Addr.mk b o none).add (j * u64L.sz + 0) = ⟨b, o + j, none⟩ := by
   have : j * u64L.sz + 0 = j := by show j * 1 + 0 = j; omega
   rw [this]; unfold Addr.add; split <;> simp_all
 rw [ea] at hv
 have hlt := lt_of_cell hv
 rw [cellH_eq]
 rw [cell_of_get (H := H) (H' := w.heap) (hw _ hlt hbg)]
 exact hv
theorem cmp_T {Z : Nat → Prop} {H : Heap} {g : Nat} (w : World) (hw : ∀ i, i < H.size → i ≠ g → w.heap[i]? = H[i]?) (hZ : ¬ Z g) (p q : RowT Z H) :
   Calls P 68 #[encT p, encT q] w fun e w' => e = .returned (.int .i64 (cmpT p q)) ∧ ∃ k, w' = w.drewN k := by
 obtain ⟨v, xs, h⟩ := p
 obtain ⟨u, ys, k⟩ := q
 unfold encT cmpT
 dsimp only at h k ⊢
 have lx : xs.length ≤ 4611686018427387904 := by obtain ⟨_, _, _, hf⟩ := h; have := hf.lt; have e : u64L.mx = 17592186044416 := rfl; omega
 have ly : ys.length ≤ 4611686018427387904 := by obtain ⟨_, _, _, hf⟩ := k; have := hf.lt; have e : u64L.mx = 17592186044416 := rfl; omega
 by_cases hx : xs = []
 · subst hx
   obtain ⟨A, c, rfl, _⟩ := h
   obtain ⟨B, d, rfl, _⟩ := k
   exact cmp_rows0 A 0 0 c d B ys.length ys w rfl ly
 · obtain ⟨b, o, c, rfl, hc⟩ := cell_of_cellH hw hZ h hx
   by_cases hy : ys = []
   · subst hy
     obtain ⟨B, d, rfl, _⟩ := k
     exact cmp_rows1 b o c d xs.length 0 rfl B xs w rfl (List.length_pos_iff.2 hx) lx hc
   · obtain ⟨b2, o2, c2, rfl, hc2⟩ := cell_of_cellH hw hZ k hy
     exact cmp_rows b o b2 o2 c c2 xs ys w lx ly hc hc2
theorem slices_SortFunc_rows_c {l : List (List Nat)} (hl : l.length ≤ 4000000) {K : List (List Nat) → Prop} (k : ∀ s, s.Perm l → OrdL s → K s) : slices_SortFunc_LLuint64Luint64.C l K := by
 intro Z τ H hτ A n c hn hF KK hk
 subst hn
 have hlt := hF.lt
 have hcap := hF.cap
 rcases hF.blk with ⟨rfl, rfl⟩ | ⟨g, cells, Ys, rfl, hY, hb, hs, h1, h2, h3⟩
 · obtain rfl := List.eq_nil_of_length_eq_zero (show l.length = 0 by omega)
   intro w hw
   refine (AnyF.slices_SortFunc_none (P := P) (ρ := Lay.sortQ_ren) { Lay.sortQ with } none 0 _ w).mono ?_
   rintro e w' ⟨rfl, rfl⟩
   subst hw
   exact ⟨_, rfl, Same.refl _, hk Z τ _ ⟨Nat.le_refl _, fun i hi h => ⟨h, rfl⟩⟩ (fun i h _ => .inl h) hτ [] rfl (SlO.nil _ _ _ _ _) (k [] (List.Perm.refl _) List.Pairwise.nil)⟩
 · intro w hw
   subst hw
   have hg : g < w.heap.size := lt_of_get hb
   have hτ1 : τ g = 1 := hY
   have hZg : ¬ Z g := hτ g (by omega)
   have hsz : cells.size = c := by rw [hs]; exact Nat.mul_one c
   obtain ⟨d, hd, hQ⟩ := rowsT (Z := Z) (H := w.heap) (Q := fun i v => cells[i]? = some v) l 0 fun i x hx => by
     obtain ⟨cs, hr, hc⟩ := h3 i x hx
     obtain ⟨A', c', rfl, hf⟩ := hr
     refine ⟨_, ⟨A', c', rfl, hf⟩, ?_⟩
     have := hc 0 _ rfl
     rw [Nat.zero_add]
     have e : i * (rdM (slL u64L)).rd.sz + 0 = i := Nat.mul_one i
     rw [e] at this
     exact this
   have hdl : d.length = l.length := by rw [← hd, List.length_map]
   have hH : Holds encT w g 0 d.toArray := by
     intro j hj
     have hj' : j < d.length := by simpa using hj
     have e : d.toArray[j]! = d[j] := by rw [getElem!_pos d.toArray j hj]; simp
     have := hQ j d[j] (List.getElem?_eq_getElem hj')
     rw [Nat.zero_add] at this
     refine ⟨?_, by unfold World.frozen?; rw [hb]; simp⟩
     rw [e]
     unfold World.cell?
     rw [Nat.zero_add, hb]
     exact this
   have hcmp : CmpLays1 P 68 #[] (encT (Z := Z) (H := w.heap)) cmpT g 0 d.toArray.size w := by
     intro m os dk hdk x y
     obtain ⟨_, _, hoth, _⟩ := world1 (m := m) (os := os) (d := dk) (enc := encT) hb (by rw [hdk]; simp; omega)
     exact (cmp_T (sortWorld encT w g 0 m dk os) hoth hZg x y).mono fun _ _ ⟨he, q, hq⟩ => ⟨he, q, #[], by rw [hq, grow_empty']⟩
   have := Any.slices_SortFunc Lay.sortQ encT (fun p => by obtain ⟨v, xs, A', c', rfl, _⟩ := p; rfl) cmpT (swoT Z w.heap) 68 #[] g 0 c d.toArray w (enters_of Try.func68 (by kernel_rfl) rfl)
     hcmp hH hg (by simp; omega)
   simp only [List.size_toArray, hdl] at this
   refine this.mono ?_
   rintro e w' ⟨rfl, d', m, os, hp, ho, rfl⟩
   have hds : d'.size = d.length := by simpa using hp.1
   have hperm : d'.toList.Perm d := by
     have := hp.2.2
     rwa [← hdl, ← hds, Array.extract_size, hds, show d.length = d.toArray.size by simp, Array.extract_size] at this
   obtain ⟨hsame, hgrow, hoth, c2, hb2, hs2, hc2⟩ := world1 (m := m) (os := os) (d := d') (enc := encT) hb (by omega)
   have hsl : (d'.toList.map fun p => p.xs).length = l.length := by simp [hds, hdl]
   refine ⟨_, rfl, hsame, hk Z τ _ ⟨hgrow, fun i hi h => ⟨h, hoth i hi (fun hh => by subst hh; omega)⟩⟩ (fun i h _ => .inl h) hτ (d'.toList.map fun p => p.xs) hsl ?_ (k _ ?_ ?_)⟩
   · refine ⟨by omega, by omega, .inr ⟨g, c2, fun _ _ => False, rfl, hY, hb2, hs2.trans hs, fun _ _ h => h.elim, fun _ _ _ h => h.elim, fun i x hx => ?_⟩⟩
     rw [List.getElem?_map, Option.map_eq_some_iff] at hx
     obtain ⟨p, hp', rfl⟩ := hx
     have hpc := hc2 i p (by rw [Array.getElem?_toList] at hp'; exact hp')
     obtain ⟨v, xs, A', c', rfl, hf⟩ := p
     refine ⟨[.slice A' xs.length c'], ⟨A', c', rfl, hf.keep fun i hz hi => ⟨hz, hoth i hi (fun e => hZg (e ▸ hz))⟩⟩, fun j v hv => ?_⟩
     match j, hv with
     | 0, hv =>
       cases hv
       have e : i * (rdM (slL u64L)).rd.sz + 0 = i := Nat.mul_one i
       rw [e]; exact hpc
   · have := hperm.map fun p => p.xs
     rwa [hd] at this
   · show List.Pairwise _ _
     rw [List.pairwise_map, List.pairwise_iff_getElem]
     intro i j hi hj hij
     have := ho i j (Nat.zero_le _) hij (by simpa [hds, hdl] using hj)
     rw [ltT] at this
     have ei : d'[i]! = d'.toList[i] := by rw [getElem!_pos d' i (by simpa using hi)]; simp
     have ej : d'[j]! = d'.toList[j] := by rw [getElem!_pos d' j (by simpa using hj)]; simp
     rw [ei, ej] at this
     exact this
end Go.Proofs.Ytpfpnkaeoedeiaa.Srt
end
section
set_option linter.unusedVariables false
set_option linter.unusedSimpArgs false
namespace Go.Proofs.Ytpfpnkaeoedeiaa.Pl
open Go.Sx Go.Lf Go.Proofs.Ytpfpnkaeoedeiaa.Sh Go.Proofs.Ytpfpnkaeoedeiaa.Sp
theorem slices_Equal_c {x y : List Nat} (hl : x.length < 4611686018427387904) {K : Bool → Prop} (k : K (decide (x = y))) : slices_Equal_uint64uint64.C x y K := by
 apply slices_Equal_uint64uint64.q
 unfold slices_Equal_uint64uint64.Q
 by_cases hlen : x.length = y.length
 · refine cf (bne_f (by omega)) ?_
   refine LoopQ.range x.length (fun k => ∀ j, j < k → x[j]? = y[j]?) (fun j hj => by omega) hl ?_ ?_
   · intro n next hk hI hn
     obtain ⟨u, hu⟩ := get_some hk
     obtain ⟨v, hv⟩ := get_some (show n < y.length by omega)
     refine ctd (by omega) ⟨by omega, u, hu, by omega, v, hv, ?_⟩
     by_cases huv : u = v
     · refine cf (bne_f (by omega)) (hn fun j hj => ?_)
       rcases Nat.lt_or_ge j n with h' | h'
       · exact hI j h'
       · obtain rfl : j = n := by omega
         rw [hu, hv, huv]
     · refine ct (bne_t (by omega)) ?_
       rw [decide_eq_false (fun h => huv (by rw [h, hv] at hu; cases hu; rfl))] at k; exact k
   · intro next hI
     refine cfd (by omega) ?_
     rw [decide_eq_true] at k
     · exact k
     · apply List.ext_getElem?
       intro j
       rcases Nat.lt_or_ge j x.length with h' | h'
       · exact hI j h'
       · rw [List.getElem?_eq_none h', List.getElem?_eq_none (by omega)]
 · refine ct (bne_t (by omega)) ?_
   rw [decide_eq_false (fun h => hlen (by rw [h]))] at k; exact k
end Go.Proofs.Ytpfpnkaeoedeiaa.Pl
end
section
set_option linter.unusedVariables false
namespace Go.Proofs.Ytpfpnkaeoedeiaa.Pl
open Go.Sx Go.Lf Go.Proofs.Ytpfpnkaeoedeiaa.Sh Go.Proofs.Ytpfpnkaeoedeiaa.Sp Go.Proofs.Ytpfpnkaeoedeiaa.Srt Go.King
theorem king_choice_c {l : List (List Nat)} (hl : l.length ≤ 4000000) (hll : ∀ x ∈ l, x.length < 4611686018427387904) {K : List Nat → Int → Prop} (k : K (bestF l).1 ((bestF l).2 : Nat)) : king_choice.C l K := by
 refine king_choice.q ?_
 unfold king_choice.Q
 refine slices_Clone_LLuint64Luint64_c (mul_big hl) (slices_SortFunc_rows_c hl fun s hs ho => ?_)
 have hn : s.length = l.length := hs.length_eq
 refine LoopQ.down (fun t => ∃ i m : Nat, t.2.1 = m ∧ t.2.2 = i ∧ i ≤ s.length ∧ Best (s.take i) t.1 m ∧ ∀ x, s[i]? = some x → x ∉ s.take i) (fun t => s.length - t.2.2.toNat)
   ⟨0, 0, rfl, rfl, Nat.zero_le _, by rw [List.take_zero]; exact Best.nil, by simp⟩ ?_
 rintro ⟨b, tm, ti⟩ next ⟨i, m, hm, hi, hil, hB, hN⟩ hnx
 dsimp only at hm hi hB hnx ⊢
 subst hm hi
 have hml := hB.le
 rw [List.length_take] at hml
 by_cases hlt : i < s.length
 · obtain ⟨x, hx⟩ := get_some hlt
   refine ctd (by omega) ?_
   have fin : ∀ k : Nat, i < k → k ≤ s.length → (∀ j, i ≤ j → j < k → s[j]? = some x) → (∀ y, s[k]? = some y → y ≠ x) →
       (m < k - i → next (x, ((k - i : Nat) : Int), (k : Int))) ∧ (¬ m < k - i → next (b, (m : Int), (k : Int))) := fun k hik hk hrun hne => by
     have R := hB.run ho hik hk hrun (hN x hx)
     have hnew : ∀ y, s[k]? = some y → y ∉ s.take k := fun y hy => ho.new hrun hik hy (hne y hy)
     refine ⟨fun h => ?_, fun h => ?_⟩
     · rw [if_pos (by omega), if_pos (by omega)] at R
       exact hnx _ (by simp only [Int.toNat_natCast]; omega) ⟨k, k - i, rfl, rfl, hk, R, hnew⟩
     · rw [if_neg (by omega), if_neg (by omega)] at R
       exact hnx _ (by simp only [Int.toNat_natCast]; omega) ⟨k, m, rfl, rfl, hk, R, hnew⟩
   refine LoopQ.down (fun t2 => ∃ k : Nat, t2 = k ∧ i ≤ k ∧ k ≤ s.length ∧ ∀ j, i ≤ j → j < k → s[j]? = some x) (fun t2 => s.length - t2.toNat)
     ⟨i, rfl, Nat.le_refl _, by omega, fun j h1 h2 => by omega⟩ ?_
   rintro _ next2 ⟨k, rfl, hik, hk, hrun⟩ hnx2
   have ew : i < k → IntKind.i64.wrap ((k : Int) - (i : Int)) = ((k - i : Nat) : Int) := fun h => by rw [wi64 (by omega) (by omega)]; omega
   by_cases hkl : k < s.length
   · obtain ⟨y, hy⟩ := get_some hkl
     refine ctd (by omega) ⟨by omega, by omega, by omega, by omega, x, by simpa using hx, y, by simpa using hy, slices_Equal_c (hll x (hs.mem_iff.1 (mem_get hx))) ?_⟩
     refine cnd (fun e => ?_) (fun e => ?_)
     · subst e
       rw [wsucc (by omega)]
       refine hnx2 _ (by simp only [Int.toNat_natCast]; omega) ⟨k + 1, rfl, by omega, by omega, fun j h1 h2 => ?_⟩
       by_cases h3 : j = k
       · rw [h3]; exact hy
       · exact hrun j h1 (by omega)
     · have hik2 : i < k := by
         apply Decidable.byContradiction
         intro h
         have : k = i := by omega
         subst this
         rw [hx] at hy
         exact e (Option.some.inj hy)
       obtain ⟨f1, f2⟩ := fin k hik2 hk hrun fun z hz hzx => by rw [hy] at hz; exact e (by rw [← hzx]; exact (Option.some.inj hz).symm)
       rw [ew hik2]
       exact cnd (fun h => ⟨by omega, by omega, x, by simpa using hx, f1 (by omega)⟩) (fun h => f2 (by omega))
   · have hik2 : i < k := by omega
     obtain ⟨f1, f2⟩ := fin k hik2 hk hrun fun z hz => by rw [List.getElem?_eq_none (by omega)] at hz; cases hz
     refine cfd (by omega) ?_
     rw [ew hik2]
     exact cnd (fun h => ⟨by omega, by omega, x, by simpa using hx, f1 (by omega)⟩) (fun h => f2 (by omega))
 · refine cfd (by omega) ?_
   rw [List.take_of_length_le (by omega)] at hB
   have := (hB.perm hs).eq
   rw [this] at k
   exact k
section
variable {w : TWorld} {n : Nat}
theorem cames_get {p : List (List (List Nat))} {j : Nat} (hn : w.Setup.N = n) (hj : j < n) : (cames w p)[j]? = some (row (cames w p) j) := by
 have e : w.Setup.N.toNat = n := by omega
 unfold cames; rw [e, tab_get _ hj, row_get (tab_get _ hj)]
theorem cames_row {p : List (List (List Nat))} {a b : Nat} (hn : w.Setup.N = n) (ha : a < n) (hb : b < n) : (row (cames w p) a)[b]? = some (pay (row (cames w p) a) b) := by
 have e : w.Setup.N.toNat = n := by omega
 unfold cames; rw [e, row_get (tab_get _ ha), tab_get _ hb, pay_get (tab_get _ hb)]
theorem cames_len {p : List (List (List Nat))} {a : Nat} (hn : w.Setup.N = n) (ha : a < n) : (row (cames w p) a).length = n := by
 have e : w.Setup.N.toNat = n := by omega
 unfold cames; rw [e, row_get (tab_get _ ha), tab_len]
end
theorem bestF_le (l : List (List Nat)) : (bestF l).2 ≤ l.length := (bestF_best l).le
theorem sm13 {w : TWorld} {n : Nat} (hw : WOk w) (hn : w.Setup.N = n) : n ≤ 13 := by have := hw.set.2.2.1; omega
def Short (v : Nat → List Nat) : Prop := ∀ i, (v i).length < 4611686018427387904
theorem came_short {w : TWorld} {n : Nat} {v : Nat → List Nat} {c : Nat → Bool} (hw : WOk w) (hn : w.Setup.N = n) (hv : Short v) {i : Nat} (hi : i < n) : ∀ x ∈ row (cames w (sendP n v c)) i, x.length < 4611686018427387904 := fun x hx => by
 obtain ⟨j, hj⟩ := List.mem_iff_getElem?.1 hx
 have hjn : j < n := by have := lt_get hj; rw [cames_len hn hi] at this; exact this
 rw [cames_row hn hi hjn] at hj
 rw [← Option.some.inj hj, cames_pay hn hi hjn]
 unfold cameF actOf
 cases h : hasAct w.Acts (w.Round + 1) ((j : Int) + 1) ((i : Int) + 1) with
 | none =>
   dsimp only
   rw [sendP_pay hjn hi]
   split
   · exact hv j
   · exact Nat.lt_of_le_of_lt (Nat.le_refl 0) (by decide)
 | some a =>
   dsimp only
   split
   · exact Nat.lt_of_le_of_lt (Nat.le_refl 0) (by decide)
   · have := (hw.act a (hasAct_some h).1).2; omega
theorem chose_short {w : TWorld} {n : Nat} {v : Nat → List Nat} (hw : WOk w) (hn : w.Setup.N = n) (hv : Short v) {i : Nat} (hi : i < n) : (chose w n v i).1.length < 4611686018427387904 := by
 rcases (bestF_best (row (cames w (sendP n v fun _ => true)) i)).is with ⟨_, h, _⟩ | ⟨h, _⟩
 · show (bestF _).1.length < _
   rw [h]; exact Nat.lt_of_le_of_lt (Nat.le_refl 0) (by decide)
 · exact came_short hw hn hv hi _ h
theorem pay_tab {n i : Nat} {g : Nat → List Nat} (h : i < n) : pay (tab n g) i = g i := pay_get (tab_get _ h)
theorem sendP_tab {n : Nat} {g : Nat → List Nat} {c : Nat → Bool} : sendP n (pay (tab n g)) c = sendP n g c := by
 unfold sendP
 exact tab_ext fun a ha => tab_ext fun b hb => by rw [pay_tab ha]
theorem king_phase_c {t : TTable} {w : TWorld} {n tt : Nat} {vs : List (List Nat)} (hw : WOk w) (hr : w.Round + 2 ≤ 1048576) (ht : t.Setup = w.Setup) (hn : w.Setup.N = n) (htt : w.Setup.T_ = tt) (hl : vs.length = n)
   (hv : Short (pay vs)) (hS : w.Sent.length ≤ 1900000) (hA : w.Acts.length ≤ 2000000) {k : Nat} (hk : k < n)
   {K : List (List Nat) → TTable → TWorld → Prop} (kk : K (tab n (endV w n tt (pay vs) k)) t (endW w n (pay vs) k)) : king_phase.C t w vs ((k : Int) + 1) K := by
 have hn2 := sm13 hw hn
 have htt2 : tt ≤ 13 := by have := hw.set.2.2.2.2.1; omega
 refine king_phase.q ?_
 unfold king_phase.Q
 refine king_send_c (c := fun _ => true) hw ht hn hl (by omega) hA (fun i J _ hJ => king_phase_1.q hJ) ?_
 have hwm : WOk (mid w n (pay vs)) := hw.next _ _ (by omega)
 have hsm : (mid w n (pay vs)).Sent.length ≤ 2000000 := by
   have : (mid w n (pay vs)).Sent.length ≤ w.Sent.length + 200 := sent_le hn hn2 _ _
   omega
 have hwho : ∀ (i : Nat) (J : Bool → Prop), i < n → J (decide (i = k)) → king_phase_2.C ((i : Int) + 1) ((k : Int) + 1) J := fun i J hi hJ => king_phase_2.q (by
   show J ((i : Int) + 1 == (k : Int) + 1)
   have : ((i : Int) + 1 == (k : Int) + 1) = decide (i = k) := by
     by_cases e : i = k
     · rw [decide_eq_true e]; exact beq_t (by omega)
     · rw [decide_eq_false e]; exact beq_f (by omega)
   rw [this]; exact hJ)
 rw [hl]
 have hch : ∀ j, j < n → ∀ {J : List Nat → Int → Prop}, J (chose w n (pay vs) j).1 ((chose w n (pay vs) j).2 : Nat) → king_choice.C (row (cames w (sendP n (pay vs) fun _ => true)) j) J := fun j hj J hJ =>
   king_choice_c (by rw [cames_len hn hj]; omega) (came_short hw hn hv hj) hJ
 have hcn : ∀ j, j < n → (chose w n (pay vs) j).2 ≤ 13 := fun j hj => Nat.le_trans (bestF_le _) (by rw [cames_len hn hj]; exact hn2)
 refine ⟨⟨MakeOk.of (by omega) (by omega), MakeOk.of (by omega) (by omega), ?_⟩, MakeOk.of (by omega) (by omega), MakeOk.of (by omega) (by omega), ?_⟩
 · refine LoopQ.rangeS n (fun j s => s = (tab n (fun i => if i < j then (chose w n (pay vs) i).1 else []), tab n (fun i => if i < j then ((chose w n (pay vs) i).2 : Int) else 0))) (by rw [← tab_fill0, ← tab_fill0]) (by omega) ?_ ?_
   · rintro j _ next hj rfl hnx
     refine ctd (by dsimp only; omega) ⟨by dsimp only; omega, _, cames_get hn hj, hch j hj ⟨by dsimp only; omega, by dsimp only; omega, by dsimp only; omega, by dsimp only; omega, hnx _ ?_⟩⟩
     dsimp only [Int.toNat_natCast]
     rw [tab_fill (g := fun i => (chose w n (pay vs) i).1), tab_fill (g := fun i => ((chose w n (pay vs) i).2 : Int))]
   · rintro _ next rfl
     refine cfd (by dsimp only; omega) ?_
     dsimp only
     rw [tab_filln n (fun i => (chose w n (pay vs) i).1), tab_filln n (fun i => ((chose w n (pay vs) i).2 : Int))]
     refine king_send_c (w := mid w n (pay vs)) (c := fun i => decide (i = k)) hwm ht hn (tab_len _ _) hsm hA hwho ?_
     rw [sendP_tab]
     refine ⟨MakeOk.of (by omega) (by omega), LoopQ.rangeS n (fun j s => s = tab n (fun i => if i < j then endV w n tt (pay vs) k i else [])) (tab_fill0 _ _ _) (by omega) ?_ ?_⟩
     · rintro j _ next2 hj rfl hnx2
       refine ctd (by dsimp only; omega) ⟨by dsimp only; omega, _, tab_get _ hj, by dsimp only; omega, by dsimp only; omega, ?_⟩
       dsimp only [Int.toNat_natCast]
       have hc := hcn j hj
       rw [wi64 (x := (j : Int) + 1) (by omega) (by omega)]
       have fill : ∀ x, x = endV w n tt (pay vs) k j → (tab n fun i => if i < j then endV w n tt (pay vs) k i else []).set j x = tab n fun i => if i < j + 1 then endV w n tt (pay vs) k i else [] := fun x e => by rw [e, tab_fill]
       have step1 : ∀ s', s' = (tab n fun i => if i < j + 1 then endV w n tt (pay vs) k i else []) → next2 ((j : Int) + 1, s') := fun s' e => by
         have := hnx2 s' e
         rwa [wi64 (x := (j : Int) + 1) (by omega) (by omega)] at this
       refine cnN (fun h => ?_) (fun h => ?_)
       · refine ⟨by omega, by omega, _, tab_get _ hj, ?_⟩
         rw [ht, hn, htt, wi64 (x := 2 * ((chose w n (pay vs) j).2 : Int)) (by omega) (by omega), wi64 (x := 2 * (tt : Int)) (by omega) (by omega), wi64 (x := (n : Int) + 2 * (tt : Int)) (by omega) (by omega), wi64 (x := (k : Int) + 1 - 1) (by omega) (by omega),
           show ((k : Int) + 1 - 1) = (k : Int) by omega]
         refine cnd (fun h2 => ?_) (fun h2 => step1 _ (fill _ ?_))
         · refine ⟨by omega, _, cames_get (w := mid w n (pay vs)) hn hj, by omega, _, cames_row (w := mid w n (pay vs)) hn hj hk, by omega, by omega, step1 _ ?_⟩
           rw [List.set_set]
           refine fill _ ?_
           unfold endV
           rw [if_pos ⟨by omega, by omega⟩]
           rfl
         · unfold endV
           rw [if_neg (by omega)]
       · refine step1 _ (fill _ ?_)
         unfold endV
         rw [if_neg (by omega)]
     · rintro _ next2 rfl
       refine cfd (by dsimp only; omega) ?_
       dsimp only
       rw [tab_filln n (endV w n tt (pay vs) k)]
       exact kk
 · refine LoopQ.rangeS n (fun j s => s = (tab n (fun i => if i < j then ((chose w n (pay vs) i).2 : Int) else 0), tab n (fun i => if i < j then (chose w n (pay vs) i).1 else []))) (by rw [← tab_fill0, ← tab_fill0]) (by omega) ?_ ?_
   · rintro j _ next hj rfl hnx
     refine ctd (by dsimp only; omega) ⟨by dsimp only; omega, _, cames_get hn hj, hch j hj ⟨by dsimp only; omega, by dsimp only; omega, by dsimp only; omega, by dsimp only; omega, hnx _ ?_⟩⟩
     dsimp only [Int.toNat_natCast]
     rw [tab_fill (g := fun i => ((chose w n (pay vs) i).2 : Int)), tab_fill (g := fun i => (chose w n (pay vs) i).1)]
   · rintro _ next rfl
     refine cfd (by dsimp only; omega) ?_
     dsimp only
     rw [tab_filln n (fun i => (chose w n (pay vs) i).1), tab_filln n (fun i => ((chose w n (pay vs) i).2 : Int))]
     refine king_send_c (w := mid w n (pay vs)) (c := fun i => decide (i = k)) hwm ht hn (tab_len _ _) hsm hA hwho ?_
     rw [sendP_tab]
     refine ⟨MakeOk.of (by omega) (by omega), LoopQ.rangeS n (fun j s => s = tab n (fun i => if i < j then endV w n tt (pay vs) k i else [])) (tab_fill0 _ _ _) (by omega) ?_ ?_⟩
     · rintro j _ next2 hj rfl hnx2
       refine ctd (by dsimp only; omega) ⟨by dsimp only; omega, _, tab_get _ hj, by dsimp only; omega, by dsimp only; omega, ?_⟩
       dsimp only [Int.toNat_natCast]
       have hc := hcn j hj
       rw [wi64 (x := (j : Int) + 1) (by omega) (by omega)]
       have fill : ∀ x, x = endV w n tt (pay vs) k j → (tab n fun i => if i < j then endV w n tt (pay vs) k i else []).set j x = tab n fun i => if i < j + 1 then endV w n tt (pay vs) k i else [] := fun x e => by rw [e, tab_fill]
       have step1 : ∀ s', s' = (tab n fun i => if i < j + 1 then endV w n tt (pay vs) k i else []) → next2 ((j : Int) + 1, s') := fun s' e => by
         have := hnx2 s' e
         rwa [wi64 (x := (j : Int) + 1) (by omega) (by omega)] at this
       refine cnN (fun h => ?_) (fun h => ?_)
       · refine ⟨by omega, by omega, _, tab_get _ hj, ?_⟩
         rw [ht, hn, htt, wi64 (x := 2 * ((chose w n (pay vs) j).2 : Int)) (by omega) (by omega), wi64 (x := 2 * (tt : Int)) (by omega) (by omega), wi64 (x := (n : Int) + 2 * (tt : Int)) (by omega) (by omega), wi64 (x := (k : Int) + 1 - 1) (by omega) (by omega),
           show ((k : Int) + 1 - 1) = (k : Int) by omega]
         refine cnd (fun h2 => ?_) (fun h2 => step1 _ (fill _ ?_))
         · refine ⟨by omega, _, cames_get (w := mid w n (pay vs)) hn hj, by omega, _, cames_row (w := mid w n (pay vs)) hn hj hk, by omega, by omega, step1 _ ?_⟩
           rw [List.set_set]
           refine fill _ ?_
           unfold endV
           rw [if_pos ⟨by omega, by omega⟩]
           rfl
         · unfold endV
           rw [if_neg (by omega)]
       · refine step1 _ (fill _ ?_)
         unfold endV
         rw [if_neg (by omega)]
     · rintro _ next2 rfl
       refine cfd (by dsimp only; omega) ?_
       dsimp only
       rw [tab_filln n (endV w n tt (pay vs) k)]
       exact kk
theorem endV_short {w : TWorld} {n tt : Nat} {v : Nat → List Nat} (hw : WOk w) (hr : w.Round + 1 ≤ 1048576) (hn : w.Setup.N = n) (hv : Short v) {k : Nat} (hk : k < n) {i : Nat} (hi : i < n) : (endV w n tt v k i).length < 4611686018427387904 := by
 unfold endV
 split
 · have hwm : WOk (mid w n v) := hw.next _ _ hr
   have hs : Short fun i => if i < n then (chose w n v i).1 else [] := fun i => by
     dsimp only
     by_cases h : i < n
     · rw [if_pos h]; exact chose_short hw hn hv h
     · rw [if_neg h]; exact Nat.lt_of_le_of_lt (Nat.le_refl 0) (by decide)
   have e : kingP w n v k = sendP n (fun i => if i < n then (chose w n v i).1 else []) fun i => decide (i = k) := by
     unfold kingP sendP
     exact tab_ext fun a ha => tab_ext fun b hb => by dsimp only; rw [if_pos ha]
   rw [e]
   exact came_short (w := mid w n v) hwm hn hs hi _ (mem_get (cames_row (w := mid w n v) hn hi hk))
 · exact chose_short hw hn hv hi
theorem run_short {w : TWorld} {n tt : Nat} {v : Nat → List Nat} (hw : WOk w) (hn : w.Setup.N = n) (hv : Short v) : ∀ k : Nat, k ≤ n → w.Round + 2 * k ≤ 1048576 → ∀ i, i < n → ((runK w n tt v k).2 i).length < 4611686018427387904
 | 0, _, _, i, _ => hv i
 | k + 1, hk, hr, i, hi => by
   have ih := run_short (tt := tt) hw hn hv k (by omega) (by omega)
   have ok := run_ok hw hn v k (by omega) (tt := tt)
   have hr' := ok.rnd
   have e : (runK w n tt v k).1.Setup.N = n := by rw [ok.set]; exact hn
   show (endV (runK w n tt v k).1 n tt (runK w n tt v k).2 k i).length < _
   have hs : Short fun i => if i < n then (runK w n tt v k).2 i else [] := fun i => by
     dsimp only
     by_cases h : i < n
     · rw [if_pos h]; exact ih i h
     · rw [if_neg h]; exact Nat.lt_of_le_of_lt (Nat.le_refl 0) (by decide)
   have := endV_short (tt := tt) ok.wok (by omega) e hs (k := k) (by omega) hi
   have es : ∀ c, sendP n (fun i => if i < n then (runK w n tt v k).2 i else []) c = sendP n (runK w n tt v k).2 c := fun c => by
     unfold sendP
     exact tab_ext fun a ha => tab_ext fun b hb => by dsimp only; rw [if_pos ha]
   unfold endV kingP mid chose at this ⊢
   rw [es] at this
   exact this
theorem runK_congr {w : TWorld} {n tt : Nat} {u v : Nat → List Nat} (h : ∀ i, i < n → u i = v i) (k i : Nat) (hk : k < n) (hi : i < n) : endV w n tt u k i = endV w n tt v k i ∧ endW w n u k = endW w n v k := by
 have es : ∀ c, sendP n u c = sendP n v c := fun c => by
   unfold sendP
   exact tab_ext fun a ha => tab_ext fun b hb => by rw [h a ha]
 have em : mid w n u = mid w n v := by unfold mid; rw [es]
 have ec : ∀ i, chose w n u i = chose w n v i := fun i => by unfold chose; rw [es]
 have ek : kingP w n u k = kingP w n v k := by
   unfold kingP sendP
   exact tab_ext fun a ha => tab_ext fun b hb => by dsimp only; rw [ec]
 refine ⟨?_, ?_⟩
 · unfold endV; rw [em, ek, ec]
 · unfold endW; rw [em, ek]
theorem endW_congr {w : TWorld} {n : Nat} {u v : Nat → List Nat} (h : ∀ i, i < n → u i = v i) {k : Nat} (hk : k < n) : endW w n u k = endW w n v k := (runK_congr (tt := 0) h k k hk hk).2
theorem king_phases_c {t : TTable} {w : TWorld} {n tt : Nat} {vs : List (List Nat)} (hw : WOk w) (hr : w.Round + 2 * (tt + 1 : Nat) ≤ 1048576) (ht : t.Setup = w.Setup) (hn : w.Setup.N = n) (htt : w.Setup.T_ = tt) (hl : vs.length = n)
   (hv : Short (pay vs)) (hS : w.Sent.length ≤ 1800000) (hA : w.Acts.length ≤ 2000000)
   {K : List (List Nat) → TTable → TWorld → Prop} (kk : K (tab n (runK w n tt (pay vs) (tt + 1)).2) t (runK w n tt (pay vs) (tt + 1)).1) : king_phases.C t w vs K := by
 have hn2 := sm13 hw hn
 have hbig : 4 * tt + 1 ≤ n := by have := hw.set.2.2.2.2.1; omega
 refine king_phases.q ?_
 unfold king_phases.Q
 rw [ht, htt, wi64 (x := (tt : Int) + 1) (by omega) (by omega)]
 refine LoopQ.upto (tt + 1) (fun k s => s.1.length = n ∧ (∀ i, i < n → pay s.1 i = (runK w n tt (pay vs) k).2 i) ∧ s.2.1 = k ∧ s.2.2.1 = t ∧ s.2.2.2 = (runK w n tt (pay vs) k).1) ⟨hl, fun i _ => rfl, rfl, rfl, rfl⟩ ?_
 rintro k ⟨s1, s2, s3, s4⟩ next hk ⟨h1, h2, h3, h4, h5⟩ hnx
 dsimp only at h1 h2 h3 h4 h5 ⊢
 subst h3 h4 h5
 have ok := run_ok hw hn (pay vs) k (by omega) (tt := tt)
 have hr' := ok.rnd
 have hs' := ok.snt
 have hshort := run_short (tt := tt) hw hn hv k (by omega) (by omega)
 by_cases hlt : k < tt + 1
 · refine ctd (by omega) ?_
   rw [wsucc (by omega), show (((k + 1 : Nat) : Int)) = (k : Int) + 1 by omega]
   have sh : Short (pay s1) := fun i => by
     by_cases hi : i < n
     · rw [h2 i hi]; exact hshort i hi
     · unfold pay; rw [List.getElem?_eq_none (by omega)]; exact Nat.lt_of_le_of_lt (Nat.le_refl 0) (by decide)
   refine king_phase_c (tt := tt) ok.wok (by omega) (by rw [ok.set]; exact ht) (by rw [ok.set]; exact hn) (by rw [ok.set]; exact htt) h1 sh (by omega) (by rw [ok.act]; exact hA) (k := k) (by omega) ?_
   refine hnx hlt _ ⟨tab_len _ _, fun i hi => ?_, by dsimp only; omega, rfl, ?_⟩
   · dsimp only
     rw [pay_tab hi]
     exact (runK_congr h2 k i (by omega) hi).1
   · exact endW_congr h2 (by omega)
 · obtain rfl : k = tt + 1 := by omega
   refine cfd (by omega) ⟨MakeOk.of (by omega) (by omega), ?_⟩
   rw [h1]
   refine LoopQ.rangeS n (fun j s => s = tab n (fun i => if i < j then (runK w n tt (pay vs) (tt + 1)).2 i else [])) (tab_fill0 _ _ _) (by omega) ?_ ?_
   · rintro j _ next2 hj rfl hnx2
     obtain ⟨x, hx⟩ := get_some (l := s1) (k := j) (by omega)
     refine ctd (by dsimp only; omega) ⟨by dsimp only; omega, x, hx, slices_Clone_c ⟨by dsimp only; omega, by dsimp only; omega, hnx2 _ ?_⟩⟩
     dsimp only [Int.toNat_natCast]
     rw [← pay_get hx, h2 j hj, tab_fill]
   · rintro _ next2 rfl
     refine cfd (by dsimp only; omega) ?_
     dsimp only
     rw [tab_filln n]
     exact kk
structure KingOk (w : TWorld) (n tt ahead : Nat) : Prop where
 wok : WOk w
 en : w.Setup.N = n
 et : w.Setup.T_ = tt
 rnd : w.Round + ahead + 2 * (tt + 1 : Nat) ≤ 1048576
noncomputable def agreeC (w : TWorld) (len : Nat) : Int :=
 if checkW w ≠ 0 then checkW w else if (len : Int) ≠ w.Setup.N then 2 else if w.Round + 2 * (w.Setup.T_ + 1) > 1048576 then 8 else 0
theorem tapes_c {a b : List (List Nat)} (h : a = b) (hb : b.length ≤ 4000000) {K : List (List Nat) → Prop} (k : K b) :
   LoopQ (τ := Int × List (List Nat)) (0, b) fun t nextQ => cond (decide (t.1 < ((a.length : Nat) : Int))) (0 ≤ t.1 ∧ t.1 < ((a.length : Nat) : Int) ∧ ∃ x5 : (List Nat), a[Int.toNat t.1]? = some x5 ∧ slices_Clone_uint64uint64.C x5 (fun (x6 : (List Nat)) =>
     0 ≤ t.1 ∧ t.1 < ((b.length : Nat) : Int) ∧ nextQ (IntKind.i64.wrap (t.1 + 1), (List.set t.2 (Int.toNat t.1) x6)))) (K t.2) := by
 subst h
 refine LoopQ.rangeS a.length (fun _ s => s = a) rfl (by omega) ?_ ?_
 · rintro j _ next hj rfl hnx
   obtain ⟨x, hx⟩ := get_some hj
   exact ctd (by dsimp only; omega) ⟨by dsimp only; omega, by dsimp only; omega, x, hx, slices_Clone_c ⟨by dsimp only; omega, by dsimp only; omega, hnx _ (set_same hx)⟩⟩
 · rintro _ next rfl
   exact cfd (by dsimp only; omega) k
theorem king_Agree_c {w : TWorld} {vs : List (List Nat)} (hW : SmW w) (hS : w.Sent.length ≤ 1800000) (hlen : vs.length ≤ 4000000) (hv : Short (pay vs))
   {K : List (List Nat) → TWorld → Int → Prop} (kerr : agreeC w vs.length ≠ 0 → K [] zeroW (agreeC w vs.length))
   (kok : ∀ n tt : Nat, KingOk w n tt 0 → vs.length = n → agreeC w vs.length = 0 → K (tab n (runK w n tt (pay vs) (tt + 1)).2) (runK w n tt (pay vs) (tt + 1)).1 0) : king_Agree.C w vs K := by
 have hWc := hW.cor; have hWa := hW.act; have hWt := hW.tap
 refine king_Agree.q (net_Check_c (by omega) ?_)
 have out : ∀ e : Int, e ≠ 0 → agreeC w vs.length = e → K [] zeroW e := fun e h0 he => by rw [he] at kerr; exact kerr h0
 refine cnN (fun h => out _ h (by unfold agreeC; rw [if_pos h])) (fun h0 => ?_)
 have hw := checkW_ok h0
 obtain ⟨hp, hN1, hN2, hT0, hT1, hNP⟩ := id hw.set
 have hr0 := hw.r0; have hr1 := hw.r1
 have e0 : agreeC w vs.length = if (vs.length : Int) ≠ w.Setup.N then 2 else if w.Round + 2 * (w.Setup.T_ + 1) > 1048576 then 8 else 0 := by
   unfold agreeC; rw [if_neg (by rw [h0]; simp)]
 refine cnN (fun h => out 2 (by decide) (by rw [e0, if_pos h])) (fun h1 => ?_)
 rw [if_neg (by omega)] at e0
 rw [wi64 (x := w.Setup.T_ + 1) (by omega) (by omega), wi64 (x := 2 * (w.Setup.T_ + 1)) (by omega) (by omega)]
 refine net_Room_c hw.r0 hw.r1 (by omega) (by omega) (fun h => ct rfl (out 8 (by decide) (by rw [e0, if_pos h]))) (fun h4 => cf rfl (net_Clone_c hW ?_))
 rw [if_neg (by omega)] at e0
 obtain ⟨n, hn⟩ : ∃ n : Nat, w.Setup.N = n := ⟨w.Setup.N.toNat, by omega⟩
 obtain ⟨tt, htt⟩ : ∃ t : Nat, w.Setup.T_ = t := ⟨w.Setup.T_.toNat, by omega⟩
 have htl := hw.tap
 have hcp : copyL (List.replicate (Int.toNat w.Setup.N) ([] : List Nat)) w.Tapes = w.Tapes := copyL_same (by rw [List.length_replicate]; omega)
 rw [hcp]
 have ok := run_ok hw hn (pay vs) (tt + 1) (by omega) (tt := tt)
 refine ⟨MakeOk.big (by omega) (by omega), king_phases_c (n := n) (tt := tt) hw (by omega) rfl hn htt (by omega) hv (by omega) hWa ?_⟩
 have et := ok.tap
 refine tapes_c et.symm (by rw [et]; exact hWt) (K := fun s => K _ (⟨_, _, _, s, _, _⟩ : TWorld) 0) ?_
 exact kok n tt ⟨hw, hn, htt, by omega⟩ (by omega) e0
end Go.Proofs.Ytpfpnkaeoedeiaa.Pl
end
section
set_option linter.unusedVariables false
set_option linter.unusedSimpArgs false
set_option maxRecDepth 100000
set_option maxHeartbeats 8000000
namespace Go.Proofs.Ytpfpnkaeoedeiaa.Sh
open Go.Sx
def juntolaw18_alive.A : Ann where
 loops := fun i => match i with
   | _ => []
 plans := fun i => match i with
   | _ => .stop
def juntolaw18_alive.W  (H : Heap) (R : Value → Heap → Prop) : Prop :=
 NewH (H.push (.cells #[.int .i64 4] 3 (0, 0))) fun H_ =>
 0 ≤ (5 : Int) ∧ (5 : Int) ≤ (5 : Int) ∧ (5 : Int) * 24 ≤ 2 ^ 48 ∧ (5 : Int) < 2 ^ 62 ∧ NewH (H_.push (.cells (repl 5 [.slice none 0 0]).toArray 47 (0, 0))) fun H_2 =>
 NewH (H_2.push (.cells #[.int .u64 0, .int .i64 0, .int .i64 0, .slice none 0 0, .slice none 0 0, .slice none 0 0, .int .i64 0, .slice none 0 0] 30 (0, 0))) fun H_3 =>
 MayWrite H_3 (Addr.mk H_2.size 0 none) 8 ∧ NewH (setH (setH (setH (setH (setH (setH (setH (setH H_3 (Addr.mk H_2.size 0 none) (.int .u64 11)) (((Addr.mk H_2.size 0 none)).add 1) (.int .i64 5)) (((Addr.mk H_2.size 0 none)).add 2) (.int .i64 1)) (((Addr.mk H_2.size 0 none)).add 3) (.slice (some (Addr.mk H.size 0 none)) 1 1)) (((Addr.mk H_2.size 0 none)).add 4) (.slice none 0 0)) (((Addr.mk H_2.size 0 none)).add 5) (.slice (some (Addr.mk H_.size 0 none)) 5 5)) (((Addr.mk H_2.size 0 none)).add 6) (.int .i64 0)) (((Addr.mk H_2.size 0 none)).add 7) (.slice none 0 0)) fun H_4 =>
 ∃ x0 : Int, ∃ x1 : Int, ∃ x2 : Int, ∃ (x3A : Option Addr) (x3n x3c : Nat), ∃ (x4A : Option Addr) (x4n x4c : Nat), ∃ (x5A : Option Addr) (x5n x5c : Nat), ∃ x6 : Int, ∃ (x7A : Option Addr) (x7n x7c : Nat), cellH H_4 (Addr.mk H_2.size 0 none) = some (.int .u64 x0) ∧ cellH H_4 (((Addr.mk H_2.size 0 none)).add 1) = some (.int .i64 x1) ∧ cellH H_4 (((Addr.mk H_2.size 0 none)).add 2) = some (.int .i64 x2) ∧ cellH H_4 (((Addr.mk H_2.size 0 none)).add 3) = some (.slice x3A x3n x3c) ∧ cellH H_4 (((Addr.mk H_2.size 0 none)).add 4) = some (.slice x4A x4n x4c) ∧ cellH H_4 (((Addr.mk H_2.size 0 none)).add 5) = some (.slice x5A x5n x5c) ∧ cellH H_4 (((Addr.mk H_2.size 0 none)).add 6) = some (.int .i64 x6) ∧ cellH H_4 (((Addr.mk H_2.size 0 none)).add 7) = some (.slice x7A x7n x7c) ∧ NewH (H_4.push (.cells #[.int .u64 1] 22 (0, 0))) fun H_5 =>
 NewH (H_5.push (.cells #[.int .u64 1] 22 (0, 0))) fun H_6 =>
 NewH (H_6.push (.cells #[.int .u64 1] 22 (0, 0))) fun H_7 =>
 NewH (H_7.push (.cells #[.int .u64 0] 22 (0, 0))) fun H_8 =>
 NewH (H_8.push (.cells #[.int .u64 1] 22 (0, 0))) fun H_9 =>
 NewH (H_9.push (.cells #[.slice (some (Addr.mk H_4.size 0 none)) 1 1, .slice (some (Addr.mk H_5.size 0 none)) 1 1, .slice (some (Addr.mk H_6.size 0 none)) 1 1, .slice (some (Addr.mk H_7.size 0 none)) 1 1, .slice (some (Addr.mk H_8.size 0 none)) 1 1] 47 (0, 0))) fun H_10 =>
 CallH P N.king_Agree [.agg #[.int .u64 x0, .int .i64 x1, .int .i64 x2, .slice x3A x3n x3c, .slice x4A x4n x4c, .slice x5A x5n x5c, .int .i64 x6, .slice x7A x7n x7c], .slice (some (Addr.mk H_9.size 0 none)) 5 5] H_10 fun v H_11 =>
 ∃ (r0A : Option Addr) (r0n r0c : Nat), ∃ r10 : Int, ∃ r11 : Int, ∃ r12 : Int, ∃ (r13A : Option Addr) (r13n r13c : Nat), ∃ (r14A : Option Addr) (r14n r14c : Nat), ∃ (r15A : Option Addr) (r15n r15c : Nat), ∃ r16 : Int, ∃ (r17A : Option Addr) (r17n r17c : Nat), ∃ r2 : Int, v = .tuple #[.slice r0A r0n r0c, .agg #[.int .u64 r10, .int .i64 r11, .int .i64 r12, .slice r13A r13n r13c, .slice r14A r14n r14c, .slice r15A r15n r15c, .int .i64 r16, .slice r17A r17n r17c], .int .i64 r2] ∧ NewH (H_11.push (.cells #[.int .u64 0, .int .i64 0, .int .i64 0, .slice none 0 0, .slice none 0 0, .slice none 0 0, .int .i64 0, .slice none 0 0] 30 (0, 0))) fun H_12 =>
 MayWrite H_12 (Addr.mk H_11.size 0 none) 8 ∧ NewH (setH (setH (setH (setH (setH (setH (setH (setH H_12 (Addr.mk H_11.size 0 none) (.int .u64 r10)) (((Addr.mk H_11.size 0 none)).add 1) (.int .i64 r11)) (((Addr.mk H_11.size 0 none)).add 2) (.int .i64 r12)) (((Addr.mk H_11.size 0 none)).add 3) (.slice r13A r13n r13c)) (((Addr.mk H_11.size 0 none)).add 4) (.slice r14A r14n r14c)) (((Addr.mk H_11.size 0 none)).add 5) (.slice r15A r15n r15c)) (((Addr.mk H_11.size 0 none)).add 6) (.int .i64 r16)) (((Addr.mk H_11.size 0 none)).add 7) (.slice r17A r17n r17c)) fun H_13 =>
 cond (r2 == 0) (cond (((r0n : Nat) : Int) == 5) (∃ x : Int, cellH H_13 (((Addr.mk H_11.size 0 none)).add 6) = some (.int .i64 x) ∧ cond (x == 4) (∃ a : Addr, r0A = some a ∧ 0 ≤ (0 : Int) ∧ (0 : Int) < ((r0n : Nat) : Int) ∧ ∃ (xA : Option Addr) (xn xc : Nat), cellH H_13 (a.add 0) = some (.slice xA xn xc) ∧ NewH (H_13.push (.cells #[.int .u64 1] 22 (0, 0))) fun H_14 =>
 CallH P N.juntoref01_Same [.slice xA xn xc, .slice (some (Addr.mk H_13.size 0 none)) 1 1] H_14 fun v2 H_15 =>
 ∃ r : Bool, v2 = .bool r ∧ cond r (∃ a2 : Addr, r0A = some a2 ∧ 0 ≤ (4 : Int) ∧ (4 : Int) < ((r0n : Nat) : Int) ∧ ∃ (xA2 : Option Addr) (xn2 xc2 : Nat), cellH H_15 (a2.add 4) = some (.slice xA2 xn2 xc2) ∧ NewH (H_15.push (.cells #[.int .u64 1] 22 (0, 0))) fun H_16 =>
 CallH P N.juntoref01_Same [.slice xA2 xn2 xc2, .slice (some (Addr.mk H_15.size 0 none)) 1 1] H_16 fun v3 H_17 =>
 ∃ r3 : Bool, v3 = .bool r3 ∧ R (.bool r3) H_17) (R (.bool false) H_15)) (R (.bool false) H_13)) (R (.bool false) H_13)) (R (.bool false) H_13)
theorem juntolaw18_alive.ok  (H : Heap) (R : Value → Heap → Prop) (h : juntolaw18_alive.W  H R) : CallH P N.juntolaw18_alive [] H R :=
 okW Try.func16 (by kernel_rfl) Try.ntmps16 juntolaw18_alive.A (by kernel_rfl) (by kernel_rfl) h
end Go.Proofs.Ytpfpnkaeoedeiaa.Sh
namespace Go.Proofs.Ytpfpnkaeoedeiaa.Sh
open Go.Sx Go.Lf
def juntolaw18_alive.C  (K : Bool → Prop) : Prop :=
 ∀ (Z : Nat → Prop) (H : Heap), ∀ KK : Value → Heap → Prop,
   (∀ (Z' : Nat → Prop) (H' : Heap), Ext H H' → Old Z H Z' → ∀ (r0 : Bool), K r0 → KK (.bool r0) H') →
   CallH P N.juntolaw18_alive [] H KK
def juntolaw18_alive.Q  (K : Bool → Prop) : Prop :=
 MakeOk 24 (5 : Int) ∧ king_Agree.C (⟨(⟨11, 5, 1⟩ : TSetup), [4], [], (List.replicate 5 []), 0, []⟩ : TWorld) ([[1], [1], [1], [0], [1]]) (fun (r : (List (List Nat))) (r2 : TWorld) (r3 : Int) =>
 cond (r3 == 0) (cond (((r.length : Nat) : Int) == 5) (cond (r2.Round == 4) (0 ≤ (0 : Int) ∧ (0 : Int) < ((r.length : Nat) : Int) ∧ ∃ x : (List Nat), r[0]? = some x ∧ juntoref01_Same.C x ([1]) (fun (x2 : Bool) =>
 cond x2 (0 ≤ (4 : Int) ∧ (4 : Int) < ((r.length : Nat) : Int) ∧ ∃ x3 : (List Nat), r[4]? = some x3 ∧ juntoref01_Same.C x3 ([1]) (fun (x4 : Bool) =>
 K x4))
  (K false)))
  (K false))
  (K false))
  (K false))
theorem juntolaw18_alive.q  {K : Bool → Prop} (q : juntolaw18_alive.Q  K) : juntolaw18_alive.C  K := by
 intro Z H  KK hk; apply juntolaw18_alive.ok; unfold juntolaw18_alive.W; unfold juntolaw18_alive.Q at q; obtain ⟨σ, hz, hσ⟩ := tags Z; have hs : Stp ([1, 2, 3, 4, 5, 6, 7, 8, 9, 10, 11, 12, 13] : List Nat) σ H σ H := Stp.refl _ _ _; clear hz; refine NewH.mk fun H_ e => ?_; obtain ⟨xσ, st, f⟩ := SlO.lit (E := i64L) σ 1 (xs := [4]) (l := [[_]]) e rfl (.cons rfl .nil) (show (1 : Nat) ≤ 17592186044416 by decide); obtain ⟨q2, q⟩ := q; refine ⟨q2.1, Int.le_refl _, q2.w1, q2.w2, NewH.mk fun H_2 e2 => ?_⟩; obtain ⟨xσ2, st2, f2⟩ := SlO.made (O := (rdM (slL u64L))) xσ 2 e2 (slL_zero _) q2.len; refine NewH.mk fun H_3 e3 => ?_; obtain ⟨xσ3, st3, b⟩ := BoxF.new xσ2 3 e3; replace f := f.step (st2.then st3); obtain ⟨xσ4, st4, f⟩ := SlO.freeze f; replace b := b.step st4; refine ⟨b.mayF rfl, NewH.mk fun H_4 e4 => ?_⟩; obtain ⟨st5, b⟩ := b.wf8 rfl e4; refine ⟨_, _, _, _, _, _, _, _, _, _, _, _, _, _, _, _, b.cell0, b.cell 1 rfl, b.cell 2 rfl, b.cell 3 rfl, b.cell 4 rfl, b.cell 5 rfl, b.cell 6 rfl, b.cell 7 rfl, ?_⟩; refine NewH.mk fun H_5 e5 => ?_; obtain ⟨xσ5, st6, f3⟩ := SlO.lit (E := u64L) xσ4 4 (xs := [1]) (l := [[_]]) e5 rfl (.cons rfl .nil) (show (1 : Nat) ≤ 17592186044416 by decide); refine NewH.mk fun H_6 e6 => ?_; obtain ⟨xσ6, st7, f4⟩ := SlO.lit (E := u64L) xσ5 5 (xs := [1]) (l := [[_]]) e6 rfl (.cons rfl .nil) (show (1 : Nat) ≤ 17592186044416 by decide); refine NewH.mk fun H_7 e7 => ?_; obtain ⟨xσ7, st8, f5⟩ := SlO.lit (E := u64L) xσ6 6 (xs := [1]) (l := [[_]]) e7 rfl (.cons rfl .nil) (show (1 : Nat) ≤ 17592186044416 by decide); refine NewH.mk fun H_8 e8 => ?_; obtain ⟨xσ8, st9, f6⟩ := SlO.lit (E := u64L) xσ7 7 (xs := [0]) (l := [[_]]) e8 rfl (.cons rfl .nil) (show (1 : Nat) ≤ 17592186044416 by decide); refine NewH.mk fun H_9 e9 => ?_; obtain ⟨xσ9, st10, f7⟩ := SlO.lit (E := u64L) xσ8 8 (xs := [1]) (l := [[_]]) e9 rfl (.cons rfl .nil) (show (1 : Nat) ≤ 17592186044416 by decide); replace f3 := f3.step (st7.then (st8.then (st9.then st10))); obtain ⟨xσ10, st11, f3⟩ := SlO.freeze f3; replace f4 := f4.step (st8.then (st9.then (st10.then st11))); obtain ⟨xσ11, st12, f4⟩ := SlO.freeze f4; replace f5 := f5.step (st9.then (st10.then (st11.then st12))); obtain ⟨xσ12, st13, f5⟩ := SlO.freeze f5; replace f6 := f6.step (st10.then (st11.then (st12.then st13))); obtain ⟨xσ13, st14, f6⟩ := SlO.freeze f6; replace f7 := f7.step (st11.then (st12.then (st13.then st14))); obtain ⟨xσ14, st15, f7⟩ := SlO.freeze f7; refine NewH.mk fun H_10 e10 => ?_; replace f3 := f3.step (st12.then (st13.then (st14.then st15))); replace f4 := f4.step (st13.then (st14.then st15)); replace f5 := f5.step (st14.then st15); replace f6 := f6.step st15; obtain ⟨xσ15, st16, f8⟩ := SlO.lit (E := (slL u64L)) xσ14 9 (xs := [[1], [1], [1], [0], [1]]) (l := [[_], [_], [_], [_], [_]]) e10 rfl (.cons (slL_rep rfl f3) (.cons (slL_rep rfl f4) (.cons (slL_rep rfl f5) (.cons (slL_rep rfl f6) (.cons (slL_rep rfl f7) .nil))))) (show (5 : Nat) ≤ 17592186044416 by decide); replace f2 := f2.step (st3.then (st4.then (st5.then (st6.then (st7.then (st8.then (st9.then (st10.then (st11.then (st12.then (st13.then (st14.then (st15.then st16)))))))))))))
 obtain ⟨xσ16, st17, f2⟩ := SlO.freeze f2; replace f8 := f8.step st17; obtain ⟨xσ17, st18, f8⟩ := SlO.freeze f8; replace f := f.step (st5.then (st6.then (st7.then (st8.then (st9.then (st10.then (st11.then (st12.then (st13.then (st14.then (st15.then (st16.then (st17.then st18))))))))))))); replace f2 := f2.step st18; refine q (Zt xσ17) H_10 _ rfl _ _ _ rfl f _ _ _ rfl (SlF.nil _ _ _ _ _) _ _ _ (rl_len _ _) f2 _ _ _ rfl (SlF.nil _ _ _ _ _) _ _ _ rfl f8 _ (fun Z2 H_11 hE hO r Y hY A n c hn f9 r2 v he A2 n2 c2 hn2 f10 A3 n3 c3 hn3 f11 A4 n4 c4 hn4 f12 A5 n5 c5 hn5 f13 r3 q => ?_); obtain ⟨xσ18, st19, fz, fy⟩ := call1 hE hO xσ17 10 (fun _ h => h) hY; replace f9 := f9.keep fz fy; replace f10 := f10.keep fz; replace f11 := f11.keep fz; replace f12 := f12.keep fz; replace f13 := f13.keep fz; cases hn; cases he; cases hn2; cases hn3; cases hn4; cases hn5; refine ⟨_, _, _, _, _, _, _, _, _, _, _, _, _, _, _, _, _, _, _, _, rfl, ?_⟩; refine NewH.mk fun H_12 e11 => ?_; obtain ⟨xσ19, st20, b2⟩ := BoxF.new xσ18 11 e11; refine ⟨b2.mayF rfl, NewH.mk fun H_13 e12 => ?_⟩; obtain ⟨st21, b2⟩ := b2.wf8 rfl e12; refine condJ (fun q => ?_) (fun q => ?_) q
 · replace hs := hs.trans (st.then (st2.then (st3.then (st4.then (st5.then (st6.then (st7.then (st8.then (st9.then (st10.then (st11.then (st12.then (st13.then (st14.then (st15.then (st16.then (st17.then (st18.then (st19.then (st20.then st21)))))))))))))))))))); exact hk (Zt xσ19) _ (hs.ext hσ) (hs.old hσ) _ q
 refine condJ (fun q => ?_) (fun q => ?_) q
 · replace hs := hs.trans (st.then (st2.then (st3.then (st4.then (st5.then (st6.then (st7.then (st8.then (st9.then (st10.then (st11.then (st12.then (st13.then (st14.then (st15.then (st16.then (st17.then (st18.then (st19.then (st20.then st21)))))))))))))))))))); exact hk (Zt xσ19) _ (hs.ext hσ) (hs.old hσ) _ q
 refine ⟨_, b2.cell 6 rfl, ?_⟩; refine condJ (fun q => ?_) (fun q => ?_) q
 · replace hs := hs.trans (st.then (st2.then (st3.then (st4.then (st5.then (st6.then (st7.then (st8.then (st9.then (st10.then (st11.then (st12.then (st13.then (st14.then (st15.then (st16.then (st17.then (st18.then (st19.then (st20.then st21)))))))))))))))))))); exact hk (Zt xσ19) _ (hs.ext hσ) (hs.old hσ) _ q
 obtain ⟨h0, hi2, q⟩ := q; replace f9 := f9.step (st20.then st21); obtain ⟨a, ha, hi⟩ := f9.addr h0 rfl hi2; refine ⟨a, ha, hi.1, hi.2, ?_⟩; obtain ⟨x, hx, q⟩ := q; obtain ⟨A6, c6, hc, f14⟩ := f9.lds ha h0 hx; refine ⟨_, _, _, hc.val, ?_⟩; refine NewH.mk fun H_14 e13 => ?_; obtain ⟨xσ20, st22, f15⟩ := SlO.lit (E := u64L) xσ19 12 (xs := [1]) (l := [[_]]) e13 rfl (.cons rfl .nil) (show (1 : Nat) ≤ 17592186044416 by decide); replace f14 := f14.step st22; refine q (fun i => xσ20 i = 0 ∨ xσ20 i = 12) H_14 _ _ _ rfl (f14.wide (fun i h => .inl h)) _ _ _ rfl (f15.read (fun i h => .inl h) (fun i h => .inr (h))) _ (fun Z3 H_15 hE2 hO2 x2 q => ?_); obtain ⟨xσ21, st23⟩ := call0 hE2 xσ20; refine ⟨_, rfl, ?_⟩; refine condJ (fun q => ?_) (fun q => ?_) q
 · replace hs := hs.trans (st.then (st2.then (st3.then (st4.then (st5.then (st6.then (st7.then (st8.then (st9.then (st10.then (st11.then (st12.then (st13.then (st14.then (st15.then (st16.then (st17.then (st18.then (st19.then (st20.then (st21.then (st22.then st23)))))))))))))))))))))); exact hk (Zt xσ21) _ (hs.ext hσ) (hs.old hσ) _ q
 obtain ⟨h02, hi4, q⟩ := q; replace f9 := f9.step (st22.then st23); obtain ⟨a2, ha2, hi3⟩ := f9.addr h02 rfl hi4; refine ⟨a2, ha2, hi3.1, hi3.2, ?_⟩; obtain ⟨x3, hx2, q⟩ := q; obtain ⟨A7, c7, hc2, f16⟩ := f9.lds ha2 h02 hx2; refine ⟨_, _, _, hc2.val, ?_⟩; refine NewH.mk fun H_16 e14 => ?_; obtain ⟨xσ22, st24, f17⟩ := SlO.lit (E := u64L) xσ21 13 (xs := [1]) (l := [[_]]) e14 rfl (.cons rfl .nil) (show (1 : Nat) ≤ 17592186044416 by decide); replace f16 := f16.step st24; refine q (fun i => xσ22 i = 0 ∨ xσ22 i = 13) H_16 _ _ _ rfl (f16.wide (fun i h => .inl h)) _ _ _ rfl (f17.read (fun i h => .inl h) (fun i h => .inr (h))) _ (fun Z4 H_17 hE3 hO3 x4 q => ?_); obtain ⟨xσ23, st25⟩ := call0 hE3 xσ22; refine ⟨_, rfl, ?_⟩; replace hs := hs.trans (st.then (st2.then (st3.then (st4.then (st5.then (st6.then (st7.then (st8.then (st9.then (st10.then (st11.then (st12.then (st13.then (st14.then (st15.then (st16.then (st17.then (st18.then (st19.then (st20.then (st21.then (st22.then (st23.then (st24.then st25)))))))))))))))))))))))); exact hk (Zt xσ23) _ (hs.ext hσ) (hs.old hσ) _ q
end Go.Proofs.Ytpfpnkaeoedeiaa.Sh
end
section
set_option linter.unusedVariables false
namespace Go.Proofs.Ytpfpnkaeoedeiaa.Pl
open Go.Sx Go.Lf Go.Proofs.Ytpfpnkaeoedeiaa.Sh Go.Proofs.Ytpfpnkaeoedeiaa.Sp Go.Proofs.Ytpfpnkaeoedeiaa.Srt Go.King
theorem short_tab {n : Nat} {g : Nat → List Nat} (h : ∀ i, i < n → (g i).length < 4611686018427387904) : Short (pay (tab n g)) := fun i => by
 by_cases hi : i < n
 · rw [pay_tab hi]; exact h i hi
 · unfold pay; rw [List.getElem?_eq_none (by rw [tab_len]; omega)]; exact Nat.lt_of_le_of_lt (Nat.le_refl 0) (by decide)
theorem sent_of {w : TWorld} (h : TWorld.L.sm 1048576 w) : w.Sent.length ≤ 1700000 := Nat.le_trans h.2.2.2.1 (by decide)
theorem sm_short {x : List Nat} (h : (slL u64L).sm 1048576 x) : x.length < 4611686018427387904 := Nat.lt_of_le_of_lt h.1 (by decide)
theorem isP11' : isP 11 := ⟨by decide, by decide, fun d h2 hd => by
 have : d = 2 ∨ d = 3 := by
   rcases Nat.lt_or_ge d 4 with h | h
   · omega
   · have := Nat.mul_le_mul h h; omega
 rcases this with rfl | rfl <;> decide⟩
def exK : TWorld := ⟨⟨11, 5, 1⟩, [4], [], List.replicate 5 [], 0, []⟩
theorem exK_ok : WOk exK where
 set := ⟨isP11', by decide, by decide, by decide, by decide, by decide⟩
 cor := by decide
 ris := by decide
 tap := by decide
 r0 := by decide
 r1 := by decide
 act := fun a h => by cases h
 key := by decide
theorem exK_agree : agreeC exK 5 = 0 := by
 unfold agreeC
 have : checkW exK = 0 := checkW_of exK_ok (by decide)
 rw [if_neg (by rw [this]; simp), if_neg (by decide), if_neg (by decide)]
def exV : List (List Nat) := [[1], [1], [1], [0], [1]]
theorem exV_short : Short (pay exV) := fun i => by
 match i with
 | 0 => decide
 | 1 => decide
 | 2 => decide
 | 3 => decide
 | 4 => decide
 | k + 5 => exact Nat.lt_of_le_of_lt (Nat.le_refl 0) (by decide)
theorem alive18_c {K : Bool → Prop} (k : K true) : juntolaw18_alive.C K := by
 refine juntolaw18_alive.q ⟨MakeOk.of (by decide) (by decide), ?_⟩
 refine king_Agree_c (w := exK) (vs := exV) ⟨by decide, by decide, by decide, by decide⟩ (by decide) (by decide) exV_short (fun h => absurd exK_agree h) ?_
 intro n tt ok hl _
 obtain rfl : n = 5 := hl.symm
 obtain rfl : tt = 1 := by have := ok.et; have e : exK.Setup.T_ = 1 := rfl; omega
 have val := run_valid ok.wok ok.en ok.et (by have := ok.rnd; omega) (pay exV) (x := [1]) fun i hi hb => by
   match i, hi, hb with
   | 0, _, _ => rfl
   | 1, _, _ => rfl
   | 2, _, _ => rfl
   | 3, _, hb => exact absurd hb (by decide)
   | 4, _, _ => rfl
   | k + 5, hi, _ => omega
 have rk := (run_ok (tt := 1) ok.wok ok.en (pay exV) 2 (by have := ok.rnd; omega)).rnd
 refine ct rfl (ct (by rw [tab_len]; rfl) (ct ?_ ⟨by omega, by rw [tab_len]; omega, _, tab_get _ (by decide), ?_⟩))
 · exact beq_t (by rw [rk]; rfl)
 · rw [val 0 (by decide) (by decide)]
   refine juntoref01_Same_c (by decide) (ct (by decide) ⟨by omega, by rw [tab_len]; omega, _, tab_get _ (by decide), ?_⟩)
   rw [val 4 (by decide) (by decide)]
   refine juntoref01_Same_c (by decide) ?_
   exact k
def sayP (n f : Nat) (x : List Nat) : List (List (List Nat)) := sendP n (fun i => if i = f then x else []) fun i => decide (i = f)
def sayV (w : TWorld) (n f : Nat) (x : List Nat) (i : Nat) : List Nat := pay (row (cames w (sayP n f x)) i) f
def sayW (w : TWorld) (n f : Nat) (x : List Nat) : TWorld := nextW w (sayP n f x) (none' n)
noncomputable def sayC (w : TWorld) (from_ : Int) : Int :=
 if checkW w ≠ 0 then checkW w else if from_ < 1 ∨ from_ > w.Setup.N then 2 else if w.Round + 1 + 2 * (w.Setup.T_ + 1) > 1048576 then 8 else 0
theorem sayP_set {n f : Nat} {x : List Nat} (hf : f < n) : sendP n (pay ((List.replicate n ([] : List Nat)).set f x)) (fun i => decide (i = f)) = sayP n f x := by
 unfold sayP sendP
 refine tab_ext fun a ha => tab_ext fun b hb => ?_
 have : pay ((List.replicate n ([] : List Nat)).set f x) a = if a = f then x else [] := by
   unfold pay
   rw [List.getElem?_set]
   by_cases e : f = a
   · subst e; rw [if_pos rfl, if_pos (by simpa using hf), if_pos rfl]; rfl
   · rw [if_neg e, if_neg (fun h => e h.symm), List.getElem?_replicate, if_pos ha]; rfl
 rw [this]
structure SayOk (w : TWorld) (n tt f : Nat) (from_ : Int) : Prop where
 ok : KingOk w n tt 1
 fr : from_ = (f : Int) + 1
 lt : f < n
theorem say_short {w : TWorld} {n f : Nat} {x : List Nat} (hw : WOk w) (hn : w.Setup.N = n) (hf : f < n) (hx : x.length < 4611686018427387904) : ∀ i, i < n → (sayV w n f x i).length < 4611686018427387904 := fun i hi => by
 have hs : Short fun i => if i = f then x else [] := fun i => by
   dsimp only
   split
   · exact hx
   · exact Nat.lt_of_le_of_lt (Nat.le_refl 0) (by decide)
 exact came_short hw hn hs hi _ (mem_get (cames_row hn hi hf))
theorem say_cong {w : TWorld} {n tt f : Nat} {x : List Nat} (big : 4 * tt + 1 ≤ n) : ∀ k, k ≤ tt + 1 → (∀ i, i < n → (runK (sayW w n f x) n tt (pay (tab n (sayV w n f x))) k).2 i = (runK (sayW w n f x) n tt (sayV w n f x) k).2 i) ∧ (runK (sayW w n f x) n tt (pay (tab n (sayV w n f x))) k).1 = (runK (sayW w n f x) n tt (sayV w n f x) k).1 := fun k => by
 have epay : ∀ i, i < n → pay (tab n (sayV w n f x)) i = sayV w n f x i := fun i hi => pay_tab hi
 induction k with
 | zero => exact fun _ => ⟨epay, rfl⟩
 | succ k ih =>
   intro hk
   obtain ⟨i1, i2⟩ := ih (by omega)
   refine ⟨fun i hi => ?_, ?_⟩
   · show endV _ _ _ _ _ _ = endV _ _ _ _ _ _
     rw [i2]; exact (runK_congr i1 k i (by omega) hi).1
   · show endW _ _ _ _ = endW _ _ _ _
     rw [i2]; exact endW_congr i1 (by omega)
theorem king_Say_c {w : TWorld} {from_ : Int} {x : List Nat} (hW : SmW w) (hS : w.Sent.length ≤ 1700000) (hx : x.length < 4611686018427387904)
   {K : List (List Nat) → TWorld → Int → Prop} (kerr : sayC w from_ ≠ 0 → K [] zeroW (sayC w from_))
   (kok : ∀ n tt f : Nat, SayOk w n tt f from_ → sayC w from_ = 0 → K (tab n (runK (sayW w n f x) n tt (sayV w n f x) (tt + 1)).2) (runK (sayW w n f x) n tt (sayV w n f x) (tt + 1)).1 0) : king_Say.C w from_ x K := by
 have hWc := hW.cor; have hWa := hW.act; have hWt := hW.tap
 refine king_Say.q (net_Check_c (by omega) ?_)
 have out : ∀ e : Int, e ≠ 0 → sayC w from_ = e → K [] zeroW e := fun e h0 he => by rw [he] at kerr; exact kerr h0
 refine cnN (fun h => out _ h (by unfold sayC; rw [if_pos h])) (fun h0 => ?_)
 have hw := checkW_ok h0
 obtain ⟨hp, hN1, hN2, hT0, hT1, hNP⟩ := id hw.set
 have hr0 := hw.r0; have hr1 := hw.r1
 have e0 : sayC w from_ = if from_ < 1 ∨ from_ > w.Setup.N then 2 else if w.Round + 1 + 2 * (w.Setup.T_ + 1) > 1048576 then 8 else 0 := by
   unfold sayC; rw [if_neg (by rw [h0]; simp)]
 refine cnd (fun h => out 2 (by decide) (by rw [e0, if_pos (.inl h)])) (fun h1 => cnd (fun h => out 2 (by decide) (by rw [e0, if_pos (.inr h)])) (fun h2 => ?_))
 rw [if_neg (by omega)] at e0
 rw [wi64 (x := w.Setup.T_ + 1) (by omega) (by omega), wi64 (x := 2 * (w.Setup.T_ + 1)) (by omega) (by omega), wi64 (x := 2 * (w.Setup.T_ + 1) + 1) (by omega) (by omega)]
 refine net_Room_c hw.r0 hw.r1 (by omega) (by omega) (fun h => ct rfl (out 8 (by decide) (by rw [e0, if_pos (by omega)]))) (fun h4 => cf rfl (net_Clone_c hW ?_))
 rw [if_neg (by omega)] at e0
 obtain ⟨n, hn⟩ : ∃ n : Nat, w.Setup.N = n := ⟨w.Setup.N.toNat, by omega⟩
 obtain ⟨tt, htt⟩ : ∃ t : Nat, w.Setup.T_ = t := ⟨w.Setup.T_.toNat, by omega⟩
 obtain ⟨f, hf⟩ : ∃ f : Nat, from_ = (f : Int) + 1 := ⟨(from_ - 1).toNat, by omega⟩
 have hfn : f < n := by omega
 have htl := hw.tap
 have hcp : copyL (List.replicate (Int.toNat w.Setup.N) ([] : List Nat)) w.Tapes = w.Tapes := copyL_same (by rw [List.length_replicate]; omega)
 rw [hcp, wi64 (x := from_ - 1) (by omega) (by omega), hn, show from_ - 1 = (f : Int) by omega]
 simp only [Int.toNat_natCast]
 have hl : ((List.replicate n ([] : List Nat)).set f x).length = n := by simp
 refine ⟨MakeOk.big (by omega) (by omega), MakeOk.big (by omega) (by omega), by omega, by omega, net_Blank_c (by omega) ?_⟩
 rw [sendT_start n (pay ((List.replicate n ([] : List Nat)).set f x)) (fun i => decide (i = f))]
 have hlen : (sendT n (pay ((List.replicate n ([] : List Nat)).set f x)) (fun i => decide (i = f)) 0 0).length = n := tab_len _ _
 have hev : ∀ j, j < n → ((List.replicate n ([] : List Nat)).set f x)[j]? = some (pay ((List.replicate n ([] : List Nat)).set f x) j) := fun j hj => by
   obtain ⟨y, hy⟩ := get_some (l := (List.replicate n ([] : List Nat)).set f x) (k := j) (by omega)
   rw [hy, pay_get hy]
 refine LoopQ.rangeS n (fun j s => s = sendT n (pay ((List.replicate n ([] : List Nat)).set f x)) (fun i => decide (i = f)) j 0) rfl (by omega) ?_ ?_
 · rintro j _ next hj rfl hnx
   refine ctd (by dsimp only; omega) ⟨by dsimp only; omega, by dsimp only; omega, _, hev j hj, ?_⟩
   refine LoopQ.rangeS n (fun m s => s = sendT n (pay ((List.replicate n ([] : List Nat)).set f x)) (fun i => decide (i = f)) j m) rfl (by omega) ?_ ?_
   · rintro m _ next2 hm rfl hnx2
     refine ctd (by dsimp only; omega) (cnE (fun e => ?_) (fun e => ?_))
     · refine ⟨by dsimp only; omega, by dsimp only; omega, _, sendT_row hj, by dsimp only; omega, by dsimp only; rw [tab_len]; omega, hnx2 _ ?_⟩
       dsimp only at e ⊢
       exact sendT_put hj hm (.inl (by omega))
     · dsimp only at e ⊢
       rw [wi64 (x := (j : Int) + 1) (by omega) (by omega)]
       refine cnE (fun e2 => ?_) (fun e2 => hnx2 _ (sendT_keep ?_))
       · refine ⟨by omega, by omega, _, sendT_row hj, by omega, by rw [tab_len]; omega, hnx2 _ ?_⟩
         exact sendT_put hj hm (.inr (by simp; omega))
       · simp; omega
   · rintro _ next2 rfl
     exact cfd (by dsimp only; omega) (hnx _ sendT_next)
 · rintro _ next rfl
   refine cfd (by dsimp only; omega) ?_
   dsimp only
   rw [sendT_end, sayP_set hfn]
   refine net_Table_Round_c hw hn (sendP_sq _ _ _) (by simp) (by omega) hWa ?_
   refine LoopQ.rangeS n (fun j s => s.length = n ∧ ∀ i, i < j → pay s i = sayV w n f x i) ⟨hl, fun i hi => by omega⟩ (by omega) ?_ ?_
   · rintro j s next2 hj ⟨hs1, hs2⟩ hnx2
     refine ctd (by dsimp only; omega) ⟨by dsimp only; omega, _, cames_get hn hj, by omega, _, cames_row hn hj hfn, by dsimp only; omega, by dsimp only; omega, hnx2 _ ⟨by rw [List.length_set]; exact hs1, fun i hi => ?_⟩⟩
     dsimp only [Int.toNat_natCast]
     unfold pay
     rw [List.getElem?_set]
     by_cases e : j = i
     · subst e; rw [if_pos rfl, if_pos (by omega)]; rfl
     · rw [if_neg e]; exact hs2 i (by omega)
   · rintro s next2 ⟨hs1, hs2⟩
     refine cfd (by dsimp only; omega) ?_
     have es : s = tab n (sayV w n f x) := tab_of hs1 fun i y hy => by
       have hi := lt_get hy
       rw [← hs2 i (by omega), pay_get hy]
     dsimp only
     rw [es]
     have hw1 : WOk (sayW w n f x) := hw.next _ _ (by omega)
     have hsent : (sayW w n f x).Sent.length ≤ w.Sent.length + 200 := sent_le hn (by omega) _ _
     obtain ⟨c1, c2⟩ := say_cong (w := w) (f := f) (x := x) (n := n) (tt := tt) (by omega) (tt + 1) (Nat.le_refl _)
     refine king_phases_c (n := n) (tt := tt) hw1 (by show w.Round + 1 + _ ≤ _; omega) rfl hn htt (tab_len _ _) (short_tab (say_short hw hn hfn hx)) (by omega) hWa ?_
     have ok := run_ok hw1 hn (pay (tab n (sayV w n f x))) (tt + 1) (by show w.Round + 1 + _ ≤ _; omega) (tt := tt)
     have et := ok.tap
     refine tapes_c (a := w.Tapes) et.symm (by rw [et]; exact hWt) (K := fun s => K _ (⟨_, _, _, s, _, _⟩ : TWorld) 0) ?_
     have := kok n tt f ⟨⟨hw, hn, htt, by omega⟩, hf, hfn⟩ e0
     rw [← c2, show tab n (runK (sayW w n f x) n tt (sayV w n f x) (tt + 1)).2 = tab n (runK (sayW w n f x) n tt (pay (tab n (sayV w n f x))) (tt + 1)).2 from tab_ext fun i hi => (c1 i hi).symm] at this
     exact this
end Go.Proofs.Ytpfpnkaeoedeiaa.Pl
end
