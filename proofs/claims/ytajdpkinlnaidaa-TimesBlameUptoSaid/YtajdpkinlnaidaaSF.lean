import Derived.Test.YtajdpkinlnaidaaSE
namespace Go.Lf
end Go.Lf
namespace Go.Proofs.Ytajdpkinlnaidaa.Back
end Go.Proofs.Ytajdpkinlnaidaa.Back
namespace Go.Proofs.Ytajdpkinlnaidaa.Pl
end Go.Proofs.Ytajdpkinlnaidaa.Pl
namespace Go.Proofs.Ytajdpkinlnaidaa.Sh
end Go.Proofs.Ytajdpkinlnaidaa.Sh
namespace Go.Proofs.Ytajdpkinlnaidaa.Sp
end Go.Proofs.Ytajdpkinlnaidaa.Sp
namespace Go.Sx
end Go.Sx
section
set_option linter.unusedVariables false
set_option linter.unusedSimpArgs false
set_option maxRecDepth 100000
set_option maxHeartbeats 8000000
namespace Go.Proofs.Ytajdpkinlnaidaa.Sh
open Go.Sx
def times_All.A : Ann where
 loops := fun i => match i with
   | _ => []
 plans := fun i => match i with
   | 7 => .read 0 (.first 3 (.read 1 (.first 4 (.read 2 (.alt 5 [0, 1, 2] (.first 6 (.done)) (.stop))))))
   | _ => .stop
def times_All.W (w_0 : Int) (w_1 : Int) (w_2 : Int) (w_3A : Option Addr) (w_3n w_3c : Nat) (w_4A : Option Addr) (w_4n w_4c : Nat) (w_5A : Option Addr) (w_5n w_5c : Nat) (w_6 : Int) (w_7A : Option Addr) (w_7n w_7c : Nat) (holdersA : Option Addr) (holdersn holdersc : Nat) (xsA : Option Addr) (xsn xsc : Nat) (ysA : Option Addr) (ysn ysc : Nat) (masksA : Option Addr) (masksn masksc : Nat) (H : Heap) (R : Value → Heap → Prop) : Prop :=
 NewH (H.push (.cells #[.int .u64 w_0, .int .i64 w_1, .int .i64 w_2, .slice w_3A w_3n w_3c, .slice w_4A w_4n w_4c, .slice w_5A w_5n w_5c, .int .i64 w_6, .slice w_7A w_7n w_7c] 30 (0, 0))) fun H_ =>
 NewH (H_.push (.cells #[.slice holdersA holdersn holdersc] 25 (0, 0))) fun H_2 =>
 NewH (H_2.push (.cells #[.slice xsA xsn xsc] 27 (0, 0))) fun H_3 =>
 NewH (H_3.push (.cells #[.slice ysA ysn ysc] 27 (0, 0))) fun H_4 =>
 NewH (H_4.push (.cells #[.slice masksA masksn masksc] 49 (0, 0))) fun H_5 =>
 NewH (H_5.push (.cells #[.int .u64 0, .int .i64 0, .int .i64 0, .slice none 0 0, .slice none 0 0, .slice none 0 0, .int .i64 0, .slice none 0 0] 30 (0, 0))) fun H_6 =>
 ∃ x0 : Int, ∃ x1 : Int, ∃ x2 : Int, ∃ (x3A : Option Addr) (x3n x3c : Nat), ∃ (x4A : Option Addr) (x4n x4c : Nat), ∃ (x5A : Option Addr) (x5n x5c : Nat), ∃ x6 : Int, ∃ (x7A : Option Addr) (x7n x7c : Nat), cellH H_6 (Addr.mk H.size 0 none) = some (.int .u64 x0) ∧ cellH H_6 (((Addr.mk H.size 0 none)).add 1) = some (.int .i64 x1) ∧ cellH H_6 (((Addr.mk H.size 0 none)).add 2) = some (.int .i64 x2) ∧ cellH H_6 (((Addr.mk H.size 0 none)).add 3) = some (.slice x3A x3n x3c) ∧ cellH H_6 (((Addr.mk H.size 0 none)).add 4) = some (.slice x4A x4n x4c) ∧ cellH H_6 (((Addr.mk H.size 0 none)).add 5) = some (.slice x5A x5n x5c) ∧ cellH H_6 (((Addr.mk H.size 0 none)).add 6) = some (.int .i64 x6) ∧ cellH H_6 (((Addr.mk H.size 0 none)).add 7) = some (.slice x7A x7n x7c) ∧ ∃ (xA : Option Addr) (xn xc : Nat), cellH H_6 (Addr.mk H_.size 0 none) = some (.slice xA xn xc) ∧ ∃ (xA2 : Option Addr) (xn2 xc2 : Nat), cellH H_6 (Addr.mk H_2.size 0 none) = some (.slice xA2 xn2 xc2) ∧ ∃ (xA3 : Option Addr) (xn3 xc3 : Nat), cellH H_6 (Addr.mk H_3.size 0 none) = some (.slice xA3 xn3 xc3) ∧ ∃ (xA4 : Option Addr) (xn4 xc4 : Nat), cellH H_6 (Addr.mk H_4.size 0 none) = some (.slice xA4 xn4 xc4) ∧ CallH P N.times_Check [.agg #[.int .u64 x0, .int .i64 x1, .int .i64 x2, .slice x3A x3n x3c, .slice x4A x4n x4c, .slice x5A x5n x5c, .int .i64 x6, .slice x7A x7n x7c], .slice xA xn xc, .slice xA2 xn2 xc2, .slice xA3 xn3 xc3, .slice xA4 xn4 xc4] H_6 fun v H_7 =>
 ∃ r : Int, v = .int .i64 r ∧ cond (r != 0) (MayWrite H_7 (Addr.mk H_5.size 0 none) 8 ∧ NewH (setH (setH (setH (setH (setH (setH (setH (setH H_7 (Addr.mk H_5.size 0 none) (.int .u64 0)) (((Addr.mk H_5.size 0 none)).add 1) (.int .i64 0)) (((Addr.mk H_5.size 0 none)).add 2) (.int .i64 0)) (((Addr.mk H_5.size 0 none)).add 3) (.slice none 0 0)) (((Addr.mk H_5.size 0 none)).add 4) (.slice none 0 0)) (((Addr.mk H_5.size 0 none)).add 5) (.slice none 0 0)) (((Addr.mk H_5.size 0 none)).add 6) (.int .i64 0)) (((Addr.mk H_5.size 0 none)).add 7) (.slice none 0 0)) fun H_8 =>
 ∃ x02 : Int, ∃ x12 : Int, ∃ x22 : Int, ∃ (x3A2 : Option Addr) (x3n2 x3c2 : Nat), ∃ (x4A2 : Option Addr) (x4n2 x4c2 : Nat), ∃ (x5A2 : Option Addr) (x5n2 x5c2 : Nat), ∃ x62 : Int, ∃ (x7A2 : Option Addr) (x7n2 x7c2 : Nat), cellH H_8 (Addr.mk H_5.size 0 none) = some (.int .u64 x02) ∧ cellH H_8 (((Addr.mk H_5.size 0 none)).add 1) = some (.int .i64 x12) ∧ cellH H_8 (((Addr.mk H_5.size 0 none)).add 2) = some (.int .i64 x22) ∧ cellH H_8 (((Addr.mk H_5.size 0 none)).add 3) = some (.slice x3A2 x3n2 x3c2) ∧ cellH H_8 (((Addr.mk H_5.size 0 none)).add 4) = some (.slice x4A2 x4n2 x4c2) ∧ cellH H_8 (((Addr.mk H_5.size 0 none)).add 5) = some (.slice x5A2 x5n2 x5c2) ∧ cellH H_8 (((Addr.mk H_5.size 0 none)).add 6) = some (.int .i64 x62) ∧ cellH H_8 (((Addr.mk H_5.size 0 none)).add 7) = some (.slice x7A2 x7n2 x7c2) ∧ R (.tuple #[.slice none 0 0, .slice none 0 0, .agg #[.int .u64 x02, .int .i64 x12, .int .i64 x22, .slice x3A2 x3n2 x3c2, .slice x4A2 x4n2 x4c2, .slice x5A2 x5n2 x5c2, .int .i64 x62, .slice x7A2 x7n2 x7c2], .int .i64 r]) H_8)
  (NewH (H_7.push (.cells #[.slice none 0 0] 27 (0, 0))) fun H_9 =>
 NewH (H_9.push (.cells #[.slice none 0 0] 42 (0, 0))) fun H_10 =>
 ∃ x03 : Int, ∃ x13 : Int, ∃ x23 : Int, ∃ (x3A3 : Option Addr) (x3n3 x3c3 : Nat), ∃ (x4A3 : Option Addr) (x4n3 x4c3 : Nat), ∃ (x5A3 : Option Addr) (x5n3 x5c3 : Nat), ∃ x63 : Int, ∃ (x7A3 : Option Addr) (x7n3 x7c3 : Nat), cellH H_10 (Addr.mk H.size 0 none) = some (.int .u64 x03) ∧ cellH H_10 (((Addr.mk H.size 0 none)).add 1) = some (.int .i64 x13) ∧ cellH H_10 (((Addr.mk H.size 0 none)).add 2) = some (.int .i64 x23) ∧ cellH H_10 (((Addr.mk H.size 0 none)).add 3) = some (.slice x3A3 x3n3 x3c3) ∧ cellH H_10 (((Addr.mk H.size 0 none)).add 4) = some (.slice x4A3 x4n3 x4c3) ∧ cellH H_10 (((Addr.mk H.size 0 none)).add 5) = some (.slice x5A3 x5n3 x5c3) ∧ cellH H_10 (((Addr.mk H.size 0 none)).add 6) = some (.int .i64 x63) ∧ cellH H_10 (((Addr.mk H.size 0 none)).add 7) = some (.slice x7A3 x7n3 x7c3) ∧ CallH P N.net_Play [.agg #[.int .u64 x03, .int .i64 x13, .int .i64 x23, .slice x3A3 x3n3 x3c3, .slice x4A3 x4n3 x4c3, .slice x5A3 x5n3 x5c3, .int .i64 x63, .slice x7A3 x7n3 x7c3], .func (.func 31) #[] #[.pointer (some (Addr.mk H_.size 0 none)), .pointer (some (Addr.mk H_2.size 0 none)), .pointer (some (Addr.mk H_3.size 0 none)), .pointer (some (Addr.mk H_4.size 0 none)), .pointer (some (Addr.mk H_7.size 0 none)), .pointer (some (Addr.mk H_9.size 0 none))]] H_10 fun v2 H_11 =>
 ∃ r0 : Int, ∃ r1 : Int, ∃ r2 : Int, ∃ (r3A : Option Addr) (r3n r3c : Nat), ∃ (r4A : Option Addr) (r4n r4c : Nat), ∃ (r5A : Option Addr) (r5n r5c : Nat), ∃ r6 : Int, ∃ (r7A : Option Addr) (r7n r7c : Nat), v2 = .agg #[.int .u64 r0, .int .i64 r1, .int .i64 r2, .slice r3A r3n r3c, .slice r4A r4n r4c, .slice r5A r5n r5c, .int .i64 r6, .slice r7A r7n r7c] ∧ MayWrite H_11 (Addr.mk H.size 0 none) 8 ∧ NewH (setH (setH (setH (setH (setH (setH (setH (setH H_11 (Addr.mk H.size 0 none) (.int .u64 r0)) (((Addr.mk H.size 0 none)).add 1) (.int .i64 r1)) (((Addr.mk H.size 0 none)).add 2) (.int .i64 r2)) (((Addr.mk H.size 0 none)).add 3) (.slice r3A r3n r3c)) (((Addr.mk H.size 0 none)).add 4) (.slice r4A r4n r4c)) (((Addr.mk H.size 0 none)).add 5) (.slice r5A r5n r5c)) (((Addr.mk H.size 0 none)).add 6) (.int .i64 r6)) (((Addr.mk H.size 0 none)).add 7) (.slice r7A r7n r7c)) fun H_12 =>
 ∃ (xA5 : Option Addr) (xn5 xc5 : Nat), cellH H_12 (Addr.mk H_7.size 0 none) = some (.slice xA5 xn5 xc5) ∧ ∃ (xA6 : Option Addr) (xn6 xc6 : Nat), cellH H_12 (Addr.mk H_9.size 0 none) = some (.slice xA6 xn6 xc6) ∧ ∃ x04 : Int, ∃ x14 : Int, ∃ x24 : Int, ∃ (x3A4 : Option Addr) (x3n4 x3c4 : Nat), ∃ (x4A4 : Option Addr) (x4n4 x4c4 : Nat), ∃ (x5A4 : Option Addr) (x5n4 x5c4 : Nat), ∃ x64 : Int, ∃ (x7A4 : Option Addr) (x7n4 x7c4 : Nat), cellH H_12 (Addr.mk H.size 0 none) = some (.int .u64 x04) ∧ cellH H_12 (((Addr.mk H.size 0 none)).add 1) = some (.int .i64 x14) ∧ cellH H_12 (((Addr.mk H.size 0 none)).add 2) = some (.int .i64 x24) ∧ cellH H_12 (((Addr.mk H.size 0 none)).add 3) = some (.slice x3A4 x3n4 x3c4) ∧ cellH H_12 (((Addr.mk H.size 0 none)).add 4) = some (.slice x4A4 x4n4 x4c4) ∧ cellH H_12 (((Addr.mk H.size 0 none)).add 5) = some (.slice x5A4 x5n4 x5c4) ∧ cellH H_12 (((Addr.mk H.size 0 none)).add 6) = some (.int .i64 x64) ∧ cellH H_12 (((Addr.mk H.size 0 none)).add 7) = some (.slice x7A4 x7n4 x7c4) ∧ MayWrite H_12 (Addr.mk H_5.size 0 none) 8 ∧ NewH (setH (setH (setH (setH (setH (setH (setH (setH H_12 (Addr.mk H_5.size 0 none) (.int .u64 x04)) (((Addr.mk H_5.size 0 none)).add 1) (.int .i64 x14)) (((Addr.mk H_5.size 0 none)).add 2) (.int .i64 x24)) (((Addr.mk H_5.size 0 none)).add 3) (.slice x3A4 x3n4 x3c4)) (((Addr.mk H_5.size 0 none)).add 4) (.slice x4A4 x4n4 x4c4)) (((Addr.mk H_5.size 0 none)).add 5) (.slice x5A4 x5n4 x5c4)) (((Addr.mk H_5.size 0 none)).add 6) (.int .i64 x64)) (((Addr.mk H_5.size 0 none)).add 7) (.slice x7A4 x7n4 x7c4)) fun H_13 =>
 ∃ x05 : Int, ∃ x15 : Int, ∃ x25 : Int, ∃ (x3A5 : Option Addr) (x3n5 x3c5 : Nat), ∃ (x4A5 : Option Addr) (x4n5 x4c5 : Nat), ∃ (x5A5 : Option Addr) (x5n5 x5c5 : Nat), ∃ x65 : Int, ∃ (x7A5 : Option Addr) (x7n5 x7c5 : Nat), cellH H_13 (Addr.mk H_5.size 0 none) = some (.int .u64 x05) ∧ cellH H_13 (((Addr.mk H_5.size 0 none)).add 1) = some (.int .i64 x15) ∧ cellH H_13 (((Addr.mk H_5.size 0 none)).add 2) = some (.int .i64 x25) ∧ cellH H_13 (((Addr.mk H_5.size 0 none)).add 3) = some (.slice x3A5 x3n5 x3c5) ∧ cellH H_13 (((Addr.mk H_5.size 0 none)).add 4) = some (.slice x4A5 x4n5 x4c5) ∧ cellH H_13 (((Addr.mk H_5.size 0 none)).add 5) = some (.slice x5A5 x5n5 x5c5) ∧ cellH H_13 (((Addr.mk H_5.size 0 none)).add 6) = some (.int .i64 x65) ∧ cellH H_13 (((Addr.mk H_5.size 0 none)).add 7) = some (.slice x7A5 x7n5 x7c5) ∧ R (.tuple #[.slice xA5 xn5 xc5, .slice xA6 xn6 xc6, .agg #[.int .u64 x05, .int .i64 x15, .int .i64 x25, .slice x3A5 x3n5 x3c5, .slice x4A5 x4n5 x4c5, .slice x5A5 x5n5 x5c5, .int .i64 x65, .slice x7A5 x7n5 x7c5], .int .i64 0]) H_13)
theorem times_All.ok (w_0 : Int) (w_1 : Int) (w_2 : Int) (w_3A : Option Addr) (w_3n w_3c : Nat) (w_4A : Option Addr) (w_4n w_4c : Nat) (w_5A : Option Addr) (w_5n w_5c : Nat) (w_6 : Int) (w_7A : Option Addr) (w_7n w_7c : Nat) (holdersA : Option Addr) (holdersn holdersc : Nat) (xsA : Option Addr) (xsn xsc : Nat) (ysA : Option Addr) (ysn ysc : Nat) (masksA : Option Addr) (masksn masksc : Nat) (H : Heap) (R : Value → Heap → Prop) (h : times_All.W w_0 w_1 w_2 w_3A w_3n w_3c w_4A w_4n w_4c w_5A w_5n w_5c w_6 w_7A w_7n w_7c holdersA holdersn holdersc xsA xsn xsc ysA ysn ysc masksA masksn masksc H R) : CallH P N.times_All [.agg #[.int .u64 w_0, .int .i64 w_1, .int .i64 w_2, .slice w_3A w_3n w_3c, .slice w_4A w_4n w_4c, .slice w_5A w_5n w_5c, .int .i64 w_6, .slice w_7A w_7n w_7c], .slice holdersA holdersn holdersc, .slice xsA xsn xsc, .slice ysA ysn ysc, .slice masksA masksn masksc] H R :=
 okW Try.func12 (by kernel_rfl) Try.ntmps12 times_All.A (by kernel_rfl) (by kernel_rfl) h
def times_Check.A : Ann where
 loops := fun i => match i with
   | 49169 => [(49, .int .i64)]
   | 77847 => [(78, .int .i64)]
   | _ => []
 plans := fun i => match i with
   | 14 => .first 0 (.first 1 (.first 3 (.first 4 (.first 5 (.first 6 (.first 8 (.first 9 (.first 10 (.first 12 (.first 14 (.read 2 (.read 7 (.read 11 (.read 13 (.read 15 (.alt 16 [7, 11, 13, 15] (.alt 17 [2] (.first 18 (.done)) (.stop)) (.stop)))))))))))))))))
   | 21 => .first 1 (.first 2 (.first 3 (.first 6 (.first 7 (.first 9 (.first 10 (.first 11 (.first 13 (.first 14 (.first 15 (.first 17 (.read 0 (.read 4 (.first 5 (.read 8 (.read 12 (.read 16 (.read 18 (.alt 19 [8, 12, 16, 18] (.alt 20 [0, 4] (.first 21 (.done)) (.stop)) (.stop))))))))))))))))))))
   | _ => .stop
def times_Check.W (w_0 : Int) (w_1 : Int) (w_2 : Int) (w_3A : Option Addr) (w_3n w_3c : Nat) (w_4A : Option Addr) (w_4n w_4c : Nat) (w_5A : Option Addr) (w_5n w_5c : Nat) (w_6 : Int) (w_7A : Option Addr) (w_7n w_7c : Nat) (holdersA : Option Addr) (holdersn holdersc : Nat) (xsA : Option Addr) (xsn xsc : Nat) (ysA : Option Addr) (ysn ysc : Nat) (masksA : Option Addr) (masksn masksc : Nat) (H : Heap) (R : Value → Heap → Prop) : Prop :=
 NewH (H.push (.cells #[.int .u64 w_0, .int .i64 w_1, .int .i64 w_2, .slice w_3A w_3n w_3c, .slice w_4A w_4n w_4c, .slice w_5A w_5n w_5c, .int .i64 w_6, .slice w_7A w_7n w_7c] 30 (0, 0))) fun H_ =>
 ∃ x0 : Int, ∃ x1 : Int, ∃ x2 : Int, ∃ (x3A : Option Addr) (x3n x3c : Nat), ∃ (x4A : Option Addr) (x4n x4c : Nat), ∃ (x5A : Option Addr) (x5n x5c : Nat), ∃ x6 : Int, ∃ (x7A : Option Addr) (x7n x7c : Nat), cellH H_ (Addr.mk H.size 0 none) = some (.int .u64 x0) ∧ cellH H_ (((Addr.mk H.size 0 none)).add 1) = some (.int .i64 x1) ∧ cellH H_ (((Addr.mk H.size 0 none)).add 2) = some (.int .i64 x2) ∧ cellH H_ (((Addr.mk H.size 0 none)).add 3) = some (.slice x3A x3n x3c) ∧ cellH H_ (((Addr.mk H.size 0 none)).add 4) = some (.slice x4A x4n x4c) ∧ cellH H_ (((Addr.mk H.size 0 none)).add 5) = some (.slice x5A x5n x5c) ∧ cellH H_ (((Addr.mk H.size 0 none)).add 6) = some (.int .i64 x6) ∧ cellH H_ (((Addr.mk H.size 0 none)).add 7) = some (.slice x7A x7n x7c) ∧ CallH P N.net_Check [.agg #[.int .u64 x0, .int .i64 x1, .int .i64 x2, .slice x3A x3n x3c, .slice x4A x4n x4c, .slice x5A x5n x5c, .int .i64 x6, .slice x7A x7n x7c]] H_ fun v H_2 =>
 ∃ r : Int, v = .int .i64 r ∧ cond (r != 0) (R (.int .i64 r) H_2)
  (∃ x02 : Int, ∃ x12 : Int, ∃ x22 : Int, cellH H_2 (Addr.mk H.size 0 none) = some (.int .u64 x02) ∧ cellH H_2 (((Addr.mk H.size 0 none)).add 1) = some (.int .i64 x12) ∧ cellH H_2 (((Addr.mk H.size 0 none)).add 2) = some (.int .i64 x22) ∧ CallH P N.net_Group [.agg #[.int .u64 x02, .int .i64 x12, .int .i64 x22], .slice holdersA holdersn holdersc] H_2 fun v2 H_3 =>
 ∃ r2 : Int, v2 = .int .i64 r2 ∧ cond (r2 != 0) (R (.int .i64 r2) H_3)
  (cond (((ysn : Nat) : Int) != ((xsn : Nat) : Int)) (R (.int .i64 2) H_3) (cond (((masksn : Nat) : Int) != ((xsn : Nat) : Int)) (R (.int .i64 2) H_3)
  (cond (decide (((xsn : Nat) : Int) > 65536)) (R (.int .i64 3) H_3)
  (LoopI (σ := Int) (fun κ => κ 0 H_3) fun s z H_4 next =>
 cond (decide (s < ((masksn : Nat) : Int))) (∃ a : Addr, masksA = some a ∧ 0 ≤ s ∧ s < ((masksn : Nat) : Int) ∧ ∃ (x0A : Option Addr) (x0n x0c : Nat), ∃ (x1A : Option Addr) (x1n x1c : Nat), cellH H_4 (a.add ((Int.toNat s) * 2)) = some (.slice x0A x0n x0c) ∧ cellH H_4 ((a.add ((Int.toNat s) * 2)).add 1) = some (.slice x1A x1n x1c) ∧ NewH (H_4.push (.cells #[.slice none 0 0, .slice none 0 0] 84 (0, 0))) fun H_5 =>
 MayWrite H_5 (Addr.mk H_4.size 0 none) 2 ∧ NewH (setH (setH H_5 (Addr.mk H_4.size 0 none) (.slice x0A x0n x0c)) (((Addr.mk H_4.size 0 none)).add 1) (.slice x1A x1n x1c)) fun H_6 =>
 ∃ a2 : Addr, xsA = some a2 ∧ 0 ≤ s ∧ s < ((xsn : Nat) : Int) ∧ ∃ a3 : Addr, ysA = some a3 ∧ 0 ≤ s ∧ s < ((ysn : Nat) : Int) ∧ ∃ x : Int, cellH H_6 (Addr.mk H.size 0 none) = some (.int .u64 x) ∧ ∃ (xA : Option Addr) (xn xc : Nat), cellH H_6 (a2.add (Int.toNat s)) = some (.slice xA xn xc) ∧ ∃ (xA2 : Option Addr) (xn2 xc2 : Nat), cellH H_6 (a3.add (Int.toNat s)) = some (.slice xA2 xn2 xc2) ∧ ∃ (xA3 : Option Addr) (xn3 xc3 : Nat), cellH H_6 (Addr.mk H_4.size 0 none) = some (.slice xA3 xn3 xc3) ∧ ∃ (xA4 : Option Addr) (xn4 xc4 : Nat), cellH H_6 (((Addr.mk H_4.size 0 none)).add 1) = some (.slice xA4 xn4 xc4) ∧ NewH (H_6.push (.cells #[.slice xA xn xc, .slice xA2 xn2 xc2, .slice xA3 xn3 xc3, .slice xA4 xn4 xc4] 37 (0, 0))) fun H_7 =>
 cellH H_7 (Addr.mk H.size 0 none) = some (.int .u64 x) ∧ CallH P N.open_Are [.int .u64 x, .slice holdersA holdersn holdersc, .slice (some (Addr.mk H_6.size 0 none)) 4 4] H_7 fun v3 H_8 =>
 ∃ r3 : Int, v3 = .int .i64 r3 ∧ cond (r3 != 0) (R (.int .i64 r3) H_8)
  (next (IntKind.i64.wrap (s + 1)) H_8))
  (LoopI (σ := Int) (fun κ => κ 0 H_4) fun s2 z2 H_9 next2 =>
 cond (decide (s2 < ((masksn : Nat) : Int))) (∃ a4 : Addr, masksA = some a4 ∧ 0 ≤ s2 ∧ s2 < ((masksn : Nat) : Int) ∧ ∃ (x0A2 : Option Addr) (x0n2 x0c2 : Nat), ∃ (x1A2 : Option Addr) (x1n2 x1c2 : Nat), cellH H_9 (a4.add ((Int.toNat s2) * 2)) = some (.slice x0A2 x0n2 x0c2) ∧ cellH H_9 ((a4.add ((Int.toNat s2) * 2)).add 1) = some (.slice x1A2 x1n2 x1c2) ∧ NewH (H_9.push (.cells #[.slice none 0 0, .slice none 0 0] 84 (0, 0))) fun H_10 =>
 MayWrite H_10 (Addr.mk H_9.size 0 none) 2 ∧ NewH (setH (setH H_10 (Addr.mk H_9.size 0 none) (.slice x0A2 x0n2 x0c2)) (((Addr.mk H_9.size 0 none)).add 1) (.slice x1A2 x1n2 x1c2)) fun H_11 =>
 ∃ a5 : Addr, xsA = some a5 ∧ 0 ≤ s2 ∧ s2 < ((xsn : Nat) : Int) ∧ ∃ a6 : Addr, ysA = some a6 ∧ 0 ≤ s2 ∧ s2 < ((ysn : Nat) : Int) ∧ ∃ x03 : Int, ∃ x13 : Int, ∃ x23 : Int, ∃ (x3A2 : Option Addr) (x3n2 x3c2 : Nat), ∃ (x4A2 : Option Addr) (x4n2 x4c2 : Nat), ∃ (x5A2 : Option Addr) (x5n2 x5c2 : Nat), ∃ x62 : Int, ∃ (x7A2 : Option Addr) (x7n2 x7c2 : Nat), cellH H_11 (Addr.mk H.size 0 none) = some (.int .u64 x03) ∧ cellH H_11 (((Addr.mk H.size 0 none)).add 1) = some (.int .i64 x13) ∧ cellH H_11 (((Addr.mk H.size 0 none)).add 2) = some (.int .i64 x23) ∧ cellH H_11 (((Addr.mk H.size 0 none)).add 3) = some (.slice x3A2 x3n2 x3c2) ∧ cellH H_11 (((Addr.mk H.size 0 none)).add 4) = some (.slice x4A2 x4n2 x4c2) ∧ cellH H_11 (((Addr.mk H.size 0 none)).add 5) = some (.slice x5A2 x5n2 x5c2) ∧ cellH H_11 (((Addr.mk H.size 0 none)).add 6) = some (.int .i64 x62) ∧ cellH H_11 (((Addr.mk H.size 0 none)).add 7) = some (.slice x7A2 x7n2 x7c2) ∧ ∃ x3 : Int, cellH H_11 (((Addr.mk H.size 0 none)).add 2) = some (.int .i64 x3) ∧ ∃ x4 : Int, cellH H_11 (Addr.mk H.size 0 none) = some (.int .u64 x4) ∧ ∃ (xA5 : Option Addr) (xn5 xc5 : Nat), cellH H_11 (a5.add (Int.toNat s2)) = some (.slice xA5 xn5 xc5) ∧ ∃ (xA6 : Option Addr) (xn6 xc6 : Nat), cellH H_11 (a6.add (Int.toNat s2)) = some (.slice xA6 xn6 xc6) ∧ ∃ (xA7 : Option Addr) (xn7 xc7 : Nat), cellH H_11 (((Addr.mk H_9.size 0 none)).add 1) = some (.slice xA7 xn7 xc7) ∧ CallH P N.times_Shares [.int .u64 x4, .slice xA5 xn5 xc5, .slice xA6 xn6 xc6, .slice xA7 xn7 xc7] H_11 fun v4 H_12 =>
 ∃ (rA : Option Addr) (rn rc : Nat), v4 = .slice rA rn rc ∧ cellH H_12 (((Addr.mk H.size 0 none)).add 2) = some (.int .i64 x3) ∧ cellH H_12 (Addr.mk H.size 0 none) = some (.int .u64 x03) ∧ cellH H_12 (((Addr.mk H.size 0 none)).add 1) = some (.int .i64 x13) ∧ cellH H_12 (((Addr.mk H.size 0 none)).add 2) = some (.int .i64 x23) ∧ cellH H_12 (((Addr.mk H.size 0 none)).add 3) = some (.slice x3A2 x3n2 x3c2) ∧ cellH H_12 (((Addr.mk H.size 0 none)).add 4) = some (.slice x4A2 x4n2 x4c2) ∧ cellH H_12 (((Addr.mk H.size 0 none)).add 5) = some (.slice x5A2 x5n2 x5c2) ∧ cellH H_12 (((Addr.mk H.size 0 none)).add 6) = some (.int .i64 x62) ∧ cellH H_12 (((Addr.mk H.size 0 none)).add 7) = some (.slice x7A2 x7n2 x7c2) ∧ CallH P N.open_Fits [.agg #[.int .u64 x03, .int .i64 x13, .int .i64 x23, .slice x3A2 x3n2 x3c2, .slice x4A2 x4n2 x4c2, .slice x5A2 x5n2 x5c2, .int .i64 x62, .slice x7A2 x7n2 x7c2], .slice holdersA holdersn holdersc, .int .i64 (IntKind.i64.wrap (2 * x3)), .slice rA rn rc] H_12 fun v5 H_13 =>
 ∃ r4 : Bool, v5 = .bool r4 ∧ cond (!r4) (R (.int .i64 12) H_13)
  (next2 (IntKind.i64.wrap (s2 + 1)) H_13))
  (∃ x04 : Int, ∃ x14 : Int, ∃ x24 : Int, ∃ (x3A3 : Option Addr) (x3n3 x3c3 : Nat), ∃ (x4A3 : Option Addr) (x4n3 x4c3 : Nat), ∃ (x5A3 : Option Addr) (x5n3 x5c3 : Nat), ∃ x63 : Int, ∃ (x7A3 : Option Addr) (x7n3 x7c3 : Nat), cellH H_9 (Addr.mk H.size 0 none) = some (.int .u64 x04) ∧ cellH H_9 (((Addr.mk H.size 0 none)).add 1) = some (.int .i64 x14) ∧ cellH H_9 (((Addr.mk H.size 0 none)).add 2) = some (.int .i64 x24) ∧ cellH H_9 (((Addr.mk H.size 0 none)).add 3) = some (.slice x3A3 x3n3 x3c3) ∧ cellH H_9 (((Addr.mk H.size 0 none)).add 4) = some (.slice x4A3 x4n3 x4c3) ∧ cellH H_9 (((Addr.mk H.size 0 none)).add 5) = some (.slice x5A3 x5n3 x5c3) ∧ cellH H_9 (((Addr.mk H.size 0 none)).add 6) = some (.int .i64 x63) ∧ cellH H_9 (((Addr.mk H.size 0 none)).add 7) = some (.slice x7A3 x7n3 x7c3) ∧ CallH P N.net_Room [.agg #[.int .u64 x04, .int .i64 x14, .int .i64 x24, .slice x3A3 x3n3 x3c3, .slice x4A3 x4n3 x4c3, .slice x5A3 x5n3 x5c3, .int .i64 x63, .slice x7A3 x7n3 x7c3], .int .i64 1] H_9 fun v6 H_14 =>
 ∃ r5 : Int, v6 = .int .i64 r5 ∧ R (.int .i64 r5) H_14)))))))
theorem times_Check.ok (w_0 : Int) (w_1 : Int) (w_2 : Int) (w_3A : Option Addr) (w_3n w_3c : Nat) (w_4A : Option Addr) (w_4n w_4c : Nat) (w_5A : Option Addr) (w_5n w_5c : Nat) (w_6 : Int) (w_7A : Option Addr) (w_7n w_7c : Nat) (holdersA : Option Addr) (holdersn holdersc : Nat) (xsA : Option Addr) (xsn xsc : Nat) (ysA : Option Addr) (ysn ysc : Nat) (masksA : Option Addr) (masksn masksc : Nat) (H : Heap) (R : Value → Heap → Prop) (h : times_Check.W w_0 w_1 w_2 w_3A w_3n w_3c w_4A w_4n w_4c w_5A w_5n w_5c w_6 w_7A w_7n w_7c holdersA holdersn holdersc xsA xsn xsc ysA ysn ysc masksA masksn masksc H R) : CallH P N.times_Check [.agg #[.int .u64 w_0, .int .i64 w_1, .int .i64 w_2, .slice w_3A w_3n w_3c, .slice w_4A w_4n w_4c, .slice w_5A w_5n w_5c, .int .i64 w_6, .slice w_7A w_7n w_7c], .slice holdersA holdersn holdersc, .slice xsA xsn xsc, .slice ysA ysn ysc, .slice masksA masksn masksc] H R :=
 okW Try.func30 (by kernel_rfl) Try.ntmps30 times_Check.A (by kernel_rfl) (by kernel_rfl) h
def times_All_1.A : Ann where
 loops := fun i => match i with
   | _ => []
 plans := fun i => match i with
   | _ => .stop
def times_All_1.W (t : Addr) (c0 : Addr) (c1 : Addr) (c2 : Addr) (c3 : Addr) (c4 : Addr) (c5 : Addr) (H : Heap) (R : Value → Heap → Prop) : Prop :=
 ∃ (xA : Option Addr) (xn xc : Nat), cellH H c0 = some (.slice xA xn xc) ∧ ∃ (xA2 : Option Addr) (xn2 xc2 : Nat), cellH H c1 = some (.slice xA2 xn2 xc2) ∧ ∃ (xA3 : Option Addr) (xn3 xc3 : Nat), cellH H c2 = some (.slice xA3 xn3 xc3) ∧ ∃ (xA4 : Option Addr) (xn4 xc4 : Nat), cellH H c3 = some (.slice xA4 xn4 xc4) ∧ CallH P N.times_Play [.pointer (some t), .slice xA xn xc, .slice xA2 xn2 xc2, .slice xA3 xn3 xc3, .slice xA4 xn4 xc4] H fun v H_ =>
 ∃ (r0A : Option Addr) (r0n r0c : Nat), ∃ (r1A : Option Addr) (r1n r1c : Nat), v = .tuple #[.slice r0A r0n r0c, .slice r1A r1n r1c] ∧ CallH P N.open_Bare [.slice r1A r1n r1c] H_ fun v2 H_2 =>
 ∃ (rA : Option Addr) (rn rc : Nat), v2 = .slice rA rn rc ∧ MayWrite H_2 c4 1 ∧ NewH (setH H_2 c4 (.slice r0A r0n r0c)) fun H_3 =>
 MayWrite H_3 c5 1 ∧ NewH (setH H_3 c5 (.slice rA rn rc)) fun H_4 =>
 R (.tuple #[]) H_4
theorem times_All_1.ok (t : Addr) (c0 : Addr) (c1 : Addr) (c2 : Addr) (c3 : Addr) (c4 : Addr) (c5 : Addr) (H : Heap) (R : Value → Heap → Prop) (h : times_All_1.W t c0 c1 c2 c3 c4 c5 H R) : CallH P N.times_All_1 [.pointer (some t), .pointer (some c0), .pointer (some c1), .pointer (some c2), .pointer (some c3), .pointer (some c4), .pointer (some c5)] H R :=
 okW Try.func31 (by kernel_rfl) Try.ntmps31 times_All_1.A (by kernel_rfl) (by kernel_rfl) h
def times_Play.A : Ann where
 loops := fun i => match i with
   | 16391 => [(13, .slice), (26, .int .i64)]
   | 45070 => [(16, .slice), (60, .int .i64)]
   | _ => []
 plans := fun i => match i with
   | 6 => .first 0 (.first 1 (.first 2 (.first 3 (.first 4 (.first 6 (.first 7 (.first 8 (.first 10 (.first 11 (.first 12 (.first 13 (.read 5 (.read 9 (.read 14 (.alt 15 [5, 9, 14] (.alt 16 [] (.alt 17 [] (.first 18 (.done)) (.stop)) (.stop)) (.stop))))))))))))))))
   | 13 => .first 0 (.first 1 (.first 2 (.first 3 (.first 5 (.first 6 (.first 7 (.first 8 (.read 4 (.read 9 (.alt 10 [4, 9] (.alt 11 [] (.alt 12 [] (.first 13 (.done)) (.stop)) (.stop)) (.stop)))))))))))
   | _ => .stop
def times_Play.W (t : Addr) (holdersA : Option Addr) (holdersn holdersc : Nat) (xsA : Option Addr) (xsn xsc : Nat) (ysA : Option Addr) (ysn ysc : Nat) (masksA : Option Addr) (masksn masksc : Nat) (H : Heap) (R : Value → Heap → Prop) : Prop :=
 ∃ x : Int, cellH H t = some (.int .u64 x) ∧ LoopI (σ := (Option Addr × Nat × Nat) × Int) (fun κ => κ ((none, 0, 0), 0) H) fun s z H_ next =>
 cond (decide (s.2 < ((xsn : Nat) : Int))) (∃ a : Addr, xsA = some a ∧ 0 ≤ s.2 ∧ s.2 < ((xsn : Nat) : Int) ∧ ∃ a2 : Addr, ysA = some a2 ∧ 0 ≤ s.2 ∧ s.2 < ((ysn : Nat) : Int) ∧ ∃ a3 : Addr, masksA = some a3 ∧ 0 ≤ s.2 ∧ s.2 < ((masksn : Nat) : Int) ∧ ∃ (xA : Option Addr) (xn xc : Nat), cellH H_ (a.add (Int.toNat s.2)) = some (.slice xA xn xc) ∧ ∃ (xA2 : Option Addr) (xn2 xc2 : Nat), cellH H_ (a2.add (Int.toNat s.2)) = some (.slice xA2 xn2 xc2) ∧ ∃ (xA3 : Option Addr) (xn3 xc3 : Nat), cellH H_ ((a3.add ((Int.toNat s.2) * 2)).add 1) = some (.slice xA3 xn3 xc3) ∧ CallH P N.times_Shares [.int .u64 x, .slice xA xn xc, .slice xA2 xn2 xc2, .slice xA3 xn3 xc3] H_ fun v H_2 =>
 ∃ (rA : Option Addr) (rn rc : Nat), v = .slice rA rn rc ∧ NewH (H_2.push (.cells #[.slice rA rn rc] 37 (0, 0))) fun H_3 =>
 AppendV 37 1 24 [.slice none 0 0] H_3 s.1.1 s.1.2.1 s.1.2.2 (some (Addr.mk H_2.size 0 none)) 1 fun vA vn vc H_4 =>
 next ((vA, vn, vc), IntKind.i64.wrap (s.2 + 1)) H_4)
  (∃ x2 : Int, cellH H_ (t.add 2) = some (.int .i64 x2) ∧ CallH P N.open_Public [.pointer (some t), .slice holdersA holdersn holdersc, .int .i64 (IntKind.i64.wrap (2 * x2)), .slice s.1.1 s.1.2.1 s.1.2.2] H_ fun v3 H_5 =>
 ∃ (rA2 : Option Addr) (rn2 rc2 : Nat), v3 = .slice rA2 rn2 rc2 ∧ LoopI (σ := (Option Addr × Nat × Nat) × Int) (fun κ => κ ((none, 0, 0), 0) H_5) fun s2 z2 H_6 next2 =>
 cond (decide (s2.2 < ((rn2 : Nat) : Int))) (∃ a4 : Addr, rA2 = some a4 ∧ 0 ≤ s2.2 ∧ s2.2 < ((rn2 : Nat) : Int) ∧ ∃ x0 : Int, ∃ (x1A : Option Addr) (x1n x1c : Nat), ∃ (x2A : Option Addr) (x2n x2c : Nat), ∃ x3 : Bool, cellH H_6 (a4.add ((Int.toNat s2.2) * 4)) = some (.int .u64 x0) ∧ cellH H_6 ((a4.add ((Int.toNat s2.2) * 4)).add 1) = some (.slice x1A x1n x1c) ∧ cellH H_6 ((a4.add ((Int.toNat s2.2) * 4)).add 2) = some (.slice x2A x2n x2c) ∧ cellH H_6 ((a4.add ((Int.toNat s2.2) * 4)).add 3) = some (.bool x3) ∧ NewH (H_6.push (.cells #[.int .u64 0, .slice none 0 0, .slice none 0 0, .bool false] 108 (0, 0))) fun H_7 =>
 MayWrite H_7 (Addr.mk H_6.size 0 none) 4 ∧ NewH (setH (setH (setH (setH H_7 (Addr.mk H_6.size 0 none) (.int .u64 x0)) (((Addr.mk H_6.size 0 none)).add 1) (.slice x1A x1n x1c)) (((Addr.mk H_6.size 0 none)).add 2) (.slice x2A x2n x2c)) (((Addr.mk H_6.size 0 none)).add 3) (.bool x3)) fun H_8 =>
 ∃ a5 : Addr, masksA = some a5 ∧ 0 ≤ s2.2 ∧ s2.2 < ((masksn : Nat) : Int) ∧ ∃ x4 : Int, cellH H_8 (Addr.mk H_6.size 0 none) = some (.int .u64 x4) ∧ ∃ (xA4 : Option Addr) (xn4 xc4 : Nat), cellH H_8 (a5.add ((Int.toNat s2.2) * 2)) = some (.slice xA4 xn4 xc4) ∧ CallH P N.times_Less [.int .u64 x, .int .u64 x4, .slice xA4 xn4 xc4] H_8 fun v4 H_9 =>
 ∃ (rA3 : Option Addr) (rn3 rc3 : Nat), v4 = .slice rA3 rn3 rc3 ∧ NewH (H_9.push (.cells #[.slice rA3 rn3 rc3] 37 (0, 0))) fun H_10 =>
 AppendV 37 1 24 [.slice none 0 0] H_10 s2.1.1 s2.1.2.1 s2.1.2.2 (some (Addr.mk H_9.size 0 none)) 1 fun vA2 vn2 vc2 H_11 =>
 next2 ((vA2, vn2, vc2), IntKind.i64.wrap (s2.2 + 1)) H_11)
  (R (.tuple #[.slice s2.1.1 s2.1.2.1 s2.1.2.2, .slice rA2 rn2 rc2]) H_6))
theorem times_Play.ok (t : Addr) (holdersA : Option Addr) (holdersn holdersc : Nat) (xsA : Option Addr) (xsn xsc : Nat) (ysA : Option Addr) (ysn ysc : Nat) (masksA : Option Addr) (masksn masksc : Nat) (H : Heap) (R : Value → Heap → Prop) (h : times_Play.W t holdersA holdersn holdersc xsA xsn xsc ysA ysn ysc masksA masksn masksc H R) : CallH P N.times_Play [.pointer (some t), .slice holdersA holdersn holdersc, .slice xsA xsn xsc, .slice ysA ysn ysc, .slice masksA masksn masksc] H R :=
 okW Try.func32 (by kernel_rfl) Try.ntmps32 times_Play.A (by kernel_rfl) (by kernel_rfl) h
def times_Shares.A : Ann where
 loops := fun i => match i with
   | 12294 => [(16, .int .i64)]
   | _ => []
 plans := fun i => match i with
   | 5 => .first 0 (.first 1 (.first 2 (.first 3 (.first 4 (.first 5 (.first 6 (.first 8 (.first 9 (.first 10 (.first 13 (.first 14 (.first 15 (.read 7 (.read 11 (.read 16 (.alt 12 [7, 11] (.alt 17 [16] (.first 18 (.alt 19 [] (.done) (.stop))) (.stop)) (.stop)))))))))))))))))
   | _ => .stop
def times_Shares.W (p : Int) (xA : Option Addr) (xn xc : Nat) (yA : Option Addr) (yn yc : Nat) (highA : Option Addr) (highn highc : Nat) (H : Heap) (R : Value → Heap → Prop) : Prop :=
 0 ≤ ((xn : Nat) : Int) ∧ ((xn : Nat) : Int) ≤ ((xn : Nat) : Int) ∧ ((xn : Nat) : Int) * 8 ≤ 2 ^ 48 ∧ ((xn : Nat) : Int) < 2 ^ 62 ∧ NewH (H.push (.cells (repl (Int.toNat ((xn : Nat) : Int)) [.int .u64 0]).toArray 22 (0, 0))) fun H_ =>
 LoopI (σ := Int) (fun κ => κ 0 H_) fun s z H_2 next =>
 cond (decide (s < ((Int.toNat ((xn : Nat) : Int) : Nat) : Int))) (∃ a : Addr, xA = some a ∧ 0 ≤ s ∧ s < ((xn : Nat) : Int) ∧ ∃ a2 : Addr, yA = some a2 ∧ 0 ≤ s ∧ s < ((yn : Nat) : Int) ∧ ∃ a3 : Addr, highA = some a3 ∧ 0 ≤ s ∧ s < ((highn : Nat) : Int) ∧ ∃ x : Int, cellH H_2 (a.add (Int.toNat s)) = some (.int .u64 x) ∧ ∃ x2 : Int, cellH H_2 (a2.add (Int.toNat s)) = some (.int .u64 x2) ∧ ∃ x3 : Int, cellH H_2 (a3.add (Int.toNat s)) = some (.int .u64 x3) ∧ CallH P N.field_Times [.int .u64 p, .int .u64 x, .int .u64 x2] H_2 fun v H_3 =>
 ∃ r : Int, v = .int .u64 r ∧ cellH H_3 (a3.add (Int.toNat s)) = some (.int .u64 x3) ∧ CallH P N.field_Plus [.int .u64 p, .int .u64 r, .int .u64 x3] H_3 fun v2 H_4 =>
 ∃ r2 : Int, v2 = .int .u64 r2 ∧ ∃ a4 : Addr, (some (Addr.mk H.size 0 none) : Option Addr) = some a4 ∧ 0 ≤ s ∧ s < ((Int.toNat ((xn : Nat) : Int) : Nat) : Int) ∧ MayWrite H_4 (a4.add (Int.toNat s)) 1 ∧ NewH (setH H_4 (a4.add (Int.toNat s)) (.int .u64 r2)) fun H_5 =>
 next (IntKind.i64.wrap (s + 1)) H_5)
  (R (.slice (some (Addr.mk H.size 0 none)) (Int.toNat ((xn : Nat) : Int)) (Int.toNat ((xn : Nat) : Int))) H_2)
theorem times_Shares.ok (p : Int) (xA : Option Addr) (xn xc : Nat) (yA : Option Addr) (yn yc : Nat) (highA : Option Addr) (highn highc : Nat) (H : Heap) (R : Value → Heap → Prop) (h : times_Shares.W p xA xn xc yA yn yc highA highn highc H R) : CallH P N.times_Shares [.int .u64 p, .slice xA xn xc, .slice yA yn yc, .slice highA highn highc] H R :=
 okW Try.func51 (by kernel_rfl) Try.ntmps51 times_Shares.A (by kernel_rfl) (by kernel_rfl) h
def times_Less.A : Ann where
 loops := fun i => match i with
   | 12294 => [(15, .int .i64)]
   | _ => []
 plans := fun i => match i with
   | _ => .stop
def times_Less.W (p : Int) (value : Int) (lowA : Option Addr) (lown lowc : Nat) (H : Heap) (R : Value → Heap → Prop) : Prop :=
 0 ≤ ((lown : Nat) : Int) ∧ ((lown : Nat) : Int) ≤ ((lown : Nat) : Int) ∧ ((lown : Nat) : Int) * 8 ≤ 2 ^ 48 ∧ ((lown : Nat) : Int) < 2 ^ 62 ∧ NewH (H.push (.cells (repl (Int.toNat ((lown : Nat) : Int)) [.int .u64 0]).toArray 22 (0, 0))) fun H_ =>
 LoopI (σ := Int) (fun κ => κ 0 H_) fun s z H_2 next =>
 cond (decide (s < ((lown : Nat) : Int))) (∃ a : Addr, lowA = some a ∧ 0 ≤ s ∧ s < ((lown : Nat) : Int) ∧ ∃ x : Int, cellH H_2 (a.add (Int.toNat s)) = some (.int .u64 x) ∧ CallH P N.field_Minus [.int .u64 p, .int .u64 value, .int .u64 x] H_2 fun v H_3 =>
 ∃ r : Int, v = .int .u64 r ∧ ∃ a2 : Addr, (some (Addr.mk H.size 0 none) : Option Addr) = some a2 ∧ 0 ≤ s ∧ s < ((Int.toNat ((lown : Nat) : Int) : Nat) : Int) ∧ MayWrite H_3 (a2.add (Int.toNat s)) 1 ∧ NewH (setH H_3 (a2.add (Int.toNat s)) (.int .u64 r)) fun H_4 =>
 next (IntKind.i64.wrap (s + 1)) H_4)
  (R (.slice (some (Addr.mk H.size 0 none)) (Int.toNat ((lown : Nat) : Int)) (Int.toNat ((lown : Nat) : Int))) H_2)
theorem times_Less.ok (p : Int) (value : Int) (lowA : Option Addr) (lown lowc : Nat) (H : Heap) (R : Value → Heap → Prop) (h : times_Less.W p value lowA lown lowc H R) : CallH P N.times_Less [.int .u64 p, .int .u64 value, .slice lowA lown lowc] H R :=
 okW Try.func53 (by kernel_rfl) Try.ntmps53 times_Less.A (by kernel_rfl) (by kernel_rfl) h
end Go.Proofs.Ytajdpkinlnaidaa.Sh
namespace Go.Proofs.Ytajdpkinlnaidaa.Sh
open Go.Sx Go.Lf
def times_Shares.C (p : Nat) (x : (List Nat)) (y : (List Nat)) (high : (List Nat)) (K : (List Nat) → Prop) : Prop :=
 ∀ (Z : Nat → Prop) (H : Heap), ∀ (pv : Int), pv = (p : Int) → ∀ (xA : Option Addr) (xn xc : Nat), xn = x.length → SlF u64L Z H xA xc x → ∀ (yA : Option Addr) (yn yc : Nat), yn = y.length → SlF u64L Z H yA yc y → ∀ (highA : Option Addr) (highn highc : Nat), highn = high.length → SlF u64L Z H highA highc high → ∀ KK : Value → Heap → Prop,
   (∀ (Z' : Nat → Prop) (H' : Heap), Ext H H' → Old Z H Z' → ∀ (r0 : (List Nat)), ∀ (Y0 : Nat → Prop), (∀ i, Y0 i → H.size ≤ i ∧ ¬ Z' i) → ∀ (Ar0_0 : Option Addr) (nr0_0 cr0_0 : Nat), nr0_0 = r0.length → SlO (rdM u64L) 22 Z' Y0 H' Ar0_0 cr0_0 r0 → K r0 → KK (.slice Ar0_0 nr0_0 cr0_0) H') →
   CallH P N.times_Shares [.int .u64 pv, .slice xA xn xc, .slice yA yn yc, .slice highA highn highc] H KK
def times_Shares.Q (p : Nat) (x : (List Nat)) (y : (List Nat)) (high : (List Nat)) (K : (List Nat) → Prop) : Prop :=
 MakeOk 8 ((x.length : Nat) : Int) ∧ LoopQ (τ := Int × List Nat) (0, (List.replicate x.length 0)) fun t nextQ =>
 cond (decide (t.1 < ((x.length : Nat) : Int))) (0 ≤ t.1 ∧ ∃ x2 : Nat, x[Int.toNat t.1]? = some x2 ∧ 0 ≤ t.1 ∧ ∃ x3 : Nat, y[Int.toNat t.1]? = some x3 ∧ 0 ≤ t.1 ∧ ∃ x4 : Nat, high[Int.toNat t.1]? = some x4 ∧ field_Times.C p x2 x3 (fun (x5 : Nat) =>
 field_Plus.C p x5 x4 (fun (x6 : Nat) =>
 0 ≤ t.1 ∧ t.1 < ((x.length : Nat) : Int) ∧ nextQ (IntKind.i64.wrap (t.1 + 1), (List.set t.2 (Int.toNat t.1) x6)))))
  (K t.2)
theorem times_Shares.q {p : Nat} {x : (List Nat)} {y : (List Nat)} {high : (List Nat)} {K : (List Nat) → Prop} (q : times_Shares.Q p x y high K) : times_Shares.C p x y high K := by
 intro Z H pv he xA xn xc hn f yA yn yc hn2 f2 highA highn highc hn3 f3 KK hk; cases he; cases hn; cases hn2; cases hn3; apply times_Shares.ok; unfold times_Shares.W; unfold times_Shares.Q at q; obtain ⟨σ, hz, hσ⟩ := tags Z; have hs : Stp ([1] : List Nat) σ H σ H := Stp.refl _ _ _; replace f := f.wide hz; replace f2 := f2.wide hz; replace f3 := f3.wide hz; clear hz; obtain ⟨q2, q⟩ := q; refine ⟨q2.1, Int.le_refl _, q2.w1, q2.w2, NewH.mk fun H_ e => ?_⟩; obtain ⟨xσ, st, f4⟩ := SlO.made (O := (rdM u64L)) σ 1 e (u64_zero) q2.len; refine LoopI.ofQ q (fun t_ s_ hp_ => ∃ σ_, Stp [1] xσ H_ σ_ hp_ ∧ t_.1 = s_ ∧ t_.2.length = (List.replicate x.length 0).length ∧ SlO (rdM u64L) 22 (Zt σ_) (Yt σ_ 1) hp_ (some (Addr.mk H.size 0 none)) x.length t_.2) (fun h k => h _ _ k) ⟨_, Stp.refl _ _ _, rfl, rfl, f4⟩ ?_; rintro t _ _ H_2 next nextQ ⟨xσ2, st2, rfl, hl, f4⟩ q hnext; (try dsimp only at q ⊢); have sl1 := st2; refine condJ (fun q => ?_) (fun q => ?_) q
 · replace hs := hs.trans (st.then st2); exact hk (Zt xσ2) _ (hs.ext hσ) (hs.old hσ) _ (Yt xσ2 1) (hs.fresh hσ) _ _ _ ((rl_len _ _).trans hl.symm) f4 q
 obtain ⟨h0, x2, hx, q⟩ := q; replace f := f.step (st.then st2); obtain ⟨a, ha, hi⟩ := f.addr h0 hx rfl; refine ⟨a, ha, hi.1, hi.2, ?_⟩; obtain ⟨h02, x3, hx2, q⟩ := q; replace f2 := f2.step (st.then st2); obtain ⟨a2, ha2, hi2⟩ := f2.addr h02 hx2 rfl; refine ⟨a2, ha2, hi2.1, hi2.2, ?_⟩; obtain ⟨h03, x4, hx3, q⟩ := q; replace f3 := f3.step (st.then st2); obtain ⟨a3, ha3, hi3⟩ := f3.addr h03 hx3 rfl; refine ⟨a3, ha3, hi3.1, hi3.2, ?_⟩; have hc := f.ldu ha h0 hx; refine ⟨_, hc.val, ?_⟩; have hc2 := f2.ldu ha2 h02 hx2; refine ⟨_, hc2.val, ?_⟩; have hc3 := f3.ldu ha3 h03 hx3; refine ⟨_, hc3.val, ?_⟩; refine q (Zt xσ2) H_2 _ rfl _ rfl _ rfl _ (fun Z2 H_3 hE hO x5 v he2 q => ?_); obtain ⟨xσ3, st3⟩ := call0 hE xσ2; cases he2; refine ⟨_, rfl, ?_⟩; replace hc3 := hc3.step st3; refine ⟨hc3.val, ?_⟩; refine q (Zt xσ3) H_3 _ rfl _ rfl _ rfl _ (fun Z3 H_4 hE2 hO2 x6 v2 he3 q => ?_); obtain ⟨xσ4, st4⟩ := call0 hE2 xσ3; cases he3; refine ⟨_, rfl, ?_⟩; obtain ⟨h04, hi5, q⟩ := q; replace f4 := f4.step (st3.then st4); obtain ⟨a4, ha4, hi4⟩ := f4.addr h04 ((rl_len _ _).trans hl.symm) hi5; refine ⟨a4, ha4, hi4.1, hi4.2, ?_⟩; have w := fun v hr => SlO.set1 (v := v) (y := x6) f4 rfl ha4 h04 (lt_of_n ((rl_len _ _).trans hl.symm) hi5) hr; refine ⟨(w _ rfl).1, NewH.mk fun H_5 e2 => ?_⟩; obtain ⟨st5, f4⟩ := (w _ rfl).2 H_5 e2; replace sl1 := sl1.trans (st3.then (st4.then st5)); exact hnext (IntKind.i64.wrap (t.1 + 1), (List.set t.2 (Int.toNat t.1) x6)) _ _ ⟨_, sl1, rfl, (set_back ((rl_len _ _).trans hl.symm) (set_len ((rl_len _ _).trans hl.symm)) hl), f4⟩ q
def times_Check.C (w : TWorld) (holders : (List Int)) (xs : (List (List Nat))) (ys : (List (List Nat))) (masks : (List TMask)) (K : Int → Prop) : Prop :=
 ∀ (Z : Nat → Prop) (H : Heap), ∀ (wv : Int), wv = (w.Setup.P : Int) → ∀ (wA : Option Addr) (wn wc : Nat), wn = w.Corrupted.length → SlF i64L Z H wA wc w.Corrupted → ∀ (wA2 : Option Addr) (wn2 wc2 : Nat), wn2 = w.Acts.length → SlF TAct.L Z H wA2 wc2 w.Acts → ∀ (wA3 : Option Addr) (wn3 wc3 : Nat), wn3 = w.Tapes.length → SlF (slL u64L) Z H wA3 wc3 w.Tapes → ∀ (wA4 : Option Addr) (wn4 wc4 : Nat), wn4 = w.Sent.length → SlF TSent.L Z H wA4 wc4 w.Sent → ∀ (holdersA : Option Addr) (holdersn holdersc : Nat), holdersn = holders.length → SlF i64L Z H holdersA holdersc holders → ∀ (xsA : Option Addr) (xsn xsc : Nat), xsn = xs.length → SlF (slL u64L) Z H xsA xsc xs → ∀ (ysA : Option Addr) (ysn ysc : Nat), ysn = ys.length → SlF (slL u64L) Z H ysA ysc ys → ∀ (masksA : Option Addr) (masksn masksc : Nat), masksn = masks.length → SlF TMask.L Z H masksA masksc masks → ∀ KK : Value → Heap → Prop,
   (∀ (Z' : Nat → Prop) (H' : Heap), Ext H H' → Old Z H Z' → ∀ (r0 : Int), K r0 → KK (.int .i64 r0) H') →
   CallH P N.times_Check [.agg #[.int .u64 wv, .int .i64 w.Setup.N, .int .i64 w.Setup.T_, .slice wA wn wc, .slice wA2 wn2 wc2, .slice wA3 wn3 wc3, .int .i64 w.Round, .slice wA4 wn4 wc4], .slice holdersA holdersn holdersc, .slice xsA xsn xsc, .slice ysA ysn ysc, .slice masksA masksn masksc] H KK
def times_Check.Q (w : TWorld) (holders : (List Int)) (xs : (List (List Nat))) (ys : (List (List Nat))) (masks : (List TMask)) (K : Int → Prop) : Prop :=
 net_Check.C w (fun (x : Int) =>
 cond (x != 0) (K x)
  (net_Group.C w.Setup holders (fun (x2 : Int) =>
 cond (x2 != 0) (K x2)
  (cond (((ys.length : Nat) : Int) != ((xs.length : Nat) : Int)) (K 2)
  (cond (((masks.length : Nat) : Int) != ((xs.length : Nat) : Int)) (K 2)
  (cond (decide (((xs.length : Nat) : Int) > 65536)) (K 3)
  (LoopQ (τ := Int) 0 fun t nextQ =>
 cond (decide (t < ((masks.length : Nat) : Int))) (0 ≤ t ∧ ∃ x3 : TMask, masks[Int.toNat t]? = some x3 ∧ 0 ≤ t ∧ ∃ x4 : (List Nat), xs[Int.toNat t]? = some x4 ∧ 0 ≤ t ∧ ∃ x5 : (List Nat), ys[Int.toNat t]? = some x5 ∧ open_Are.C w.Setup.P holders ([x4, x5, x3.Low, x3.High]) (fun (x6 : Int) =>
 cond (x6 != 0) (K x6)
  (nextQ (IntKind.i64.wrap (t + 1)))))
  (LoopQ (τ := Int) 0 fun t2 nextQ2 =>
 cond (decide (t2 < ((masks.length : Nat) : Int))) (0 ≤ t2 ∧ ∃ x7 : TMask, masks[Int.toNat t2]? = some x7 ∧ 0 ≤ t2 ∧ ∃ x8 : (List Nat), xs[Int.toNat t2]? = some x8 ∧ 0 ≤ t2 ∧ ∃ x9 : (List Nat), ys[Int.toNat t2]? = some x9 ∧ times_Shares.C w.Setup.P x8 x9 x7.High (fun (x10 : (List Nat)) =>
 open_Fits.C w holders (IntKind.i64.wrap (2 * w.Setup.T_)) x10 (fun (x11 : Bool) =>
 cond (!x11) (K 12)
  (nextQ2 (IntKind.i64.wrap (t2 + 1))))))
  (net_Room.C w 1 (fun (x12 : Int) =>
 K x12))))))))))
theorem times_Check.q {w : TWorld} {holders : (List Int)} {xs : (List (List Nat))} {ys : (List (List Nat))} {masks : (List TMask)} {K : Int → Prop} (q : times_Check.Q w holders xs ys masks K) : times_Check.C w holders xs ys masks K := by
 intro Z H wv he wA wn wc hn f wA2 wn2 wc2 hn2 f2 wA3 wn3 wc3 hn3 f3 wA4 wn4 wc4 hn4 f4 holdersA holdersn holdersc hn5 f5 xsA xsn xsc hn6 f6 ysA ysn ysc hn7 f7 masksA masksn masksc hn8 f8 KK hk; cases he; cases hn; cases hn2; cases hn3; cases hn4; cases hn5; cases hn6; cases hn7; cases hn8; apply times_Check.ok; unfold times_Check.W; unfold times_Check.Q at q; obtain ⟨σ, hz, hσ⟩ := tags Z; have hs : Stp ([1, 2, 3, 4] : List Nat) σ H σ H := Stp.refl _ _ _; replace f := f.wide hz; replace f2 := f2.wide hz; replace f3 := f3.wide hz; replace f4 := f4.wide hz; replace f5 := f5.wide hz; replace f6 := f6.wide hz; replace f7 := f7.wide hz; replace f8 := f8.wide hz; clear hz; refine NewH.mk fun H_ e => ?_; obtain ⟨xσ, st, b⟩ := BoxF.new σ 0 e; refine ⟨_, _, _, _, _, _, _, _, _, _, _, _, _, _, _, _, b.cell0, b.cell 1 rfl, b.cell 2 rfl, b.cell 3 rfl, b.cell 4 rfl, b.cell 5 rfl, b.cell 6 rfl, b.cell 7 rfl, ?_⟩; replace f := f.step st; replace f2 := f2.step st; replace f3 := f3.step st; replace f4 := f4.step st; refine q (Zt xσ) H_ _ rfl _ _ _ rfl f _ _ _ rfl f2 _ _ _ rfl f3 _ _ _ rfl f4 _ (fun Z2 H_2 hE hO x q => ?_); obtain ⟨xσ2, st2⟩ := call0 hE xσ; refine ⟨_, rfl, ?_⟩; refine condI (fun q => ?_) (fun q => ?_) q
 · replace hs := hs.trans (st.then st2); exact hk (Zt xσ2) _ (hs.ext hσ) (hs.old hσ) _ q
 replace b := b.step st2; refine ⟨_, _, _, b.cell0, b.cell 1 rfl, b.cell 2 rfl, ?_⟩; replace f5 := f5.step (st.then st2); refine q (Zt xσ2) H_2 _ rfl _ _ _ rfl f5 _ (fun Z3 H_3 hE2 hO2 x2 q => ?_); obtain ⟨xσ3, st3⟩ := call0 hE2 xσ2; refine ⟨_, rfl, ?_⟩; refine condI (fun q => ?_) (fun q => ?_) q
 · replace hs := hs.trans (st.then (st2.then st3)); exact hk (Zt xσ3) _ (hs.ext hσ) (hs.old hσ) _ q
 refine condI (fun q => ?_) (fun q => ?_) q
 · replace hs := hs.trans (st.then (st2.then st3)); exact hk (Zt xσ3) _ (hs.ext hσ) (hs.old hσ) _ q
 refine condI (fun q => ?_) (fun q => ?_) q
 · replace hs := hs.trans (st.then (st2.then st3)); exact hk (Zt xσ3) _ (hs.ext hσ) (hs.old hσ) _ q
 refine condI (fun q => ?_) (fun q => ?_) q
 · replace hs := hs.trans (st.then (st2.then st3)); exact hk (Zt xσ3) _ (hs.ext hσ) (hs.old hσ) _ q
 refine LoopI.ofQ q (fun t_ s_ hp_ => ∃ σ_, Stp [1, 2] xσ3 H_3 σ_ hp_ ∧ t_ = s_) (fun h k => h _ _ k) ⟨_, Stp.refl _ _ _, rfl⟩ ?_; rintro t _ _ H_4 next nextQ ⟨xσ4, st4, rfl⟩ q hnext; (try dsimp only at q ⊢); have sl0 := st4; refine condI (fun q => ?_) (fun q => ?_) q
 · obtain ⟨h0, x3, hx, q⟩ := q; replace f8 := f8.step (st.then (st2.then (st3.then st4))); obtain ⟨a, ha, hi⟩ := f8.addr h0 hx rfl; refine ⟨a, ha, hi.1, hi.2, ?_⟩; obtain ⟨cs, hr, hc⟩ := f8.ldN (k := 2) rfl ha h0 hx; obtain ⟨A, c, A2, c2, rfl, f9, f10⟩ := hr; have hc2 := hc 0 _ rfl; have hc3 := hc 1 _ rfl; refine ⟨_, _, _, _, _, _, hc2.val, hc3.val, ?_⟩; refine NewH.mk fun H_5 e2 => ?_; obtain ⟨xσ5, st5, b2⟩ := BoxF.new xσ4 1 e2; refine ⟨b2.mayF rfl, NewH.mk fun H_6 e3 => ?_⟩; obtain ⟨st6, b2⟩ := b2.wf2 rfl e3; obtain ⟨h02, x4, hx2, q⟩ := q; replace f6 := f6.step (st.then (st2.then (st3.then (st4.then (st5.then st6))))); obtain ⟨a2, ha2, hi2⟩ := f6.addr h02 hx2 rfl; refine ⟨a2, ha2, hi2.1, hi2.2, ?_⟩; obtain ⟨h03, x5, hx3, q⟩ := q; replace f7 := f7.step (st.then (st2.then (st3.then (st4.then (st5.then st6))))); obtain ⟨a3, ha3, hi3⟩ := f7.addr h03 hx3 rfl; refine ⟨a3, ha3, hi3.1, hi3.2, ?_⟩; replace b := b.step (st3.then (st4.then (st5.then st6))); refine ⟨_, b.cell0, ?_⟩; obtain ⟨A3, c3, hc4, f11⟩ := f6.lds ha2 h02 hx2; refine ⟨_, _, _, hc4.val, ?_⟩; obtain ⟨A4, c4, hc5, f12⟩ := f7.lds ha3 h03 hx3; refine ⟨_, _, _, hc5.val, ?_⟩; refine ⟨_, _, _, b2.cell0, ?_⟩; refine ⟨_, _, _, b2.cell 1 rfl, ?_⟩; refine NewH.mk fun H_7 e4 => ?_; have c_0 := st5.then st6; replace f9 := f9.step c_0; replace f10 := f10.step c_0; obtain ⟨xσ6, st7, f13⟩ := SlO.lit (E := (slL u64L)) xσ5 2 (xs := [x4, x5, x3.Low, x3.High]) (l := [[_], [_], [_], [_]]) e4 rfl (.cons (slL_rep rfl f11) (.cons (slL_rep rfl f12) (.cons (slL_rep rfl f9) (.cons (slL_rep rfl f10) .nil)))) (show (4 : Nat) ≤ 17592186044416 by decide); replace b := b.step st7; refine ⟨b.cell0, ?_⟩; replace f5 := f5.step (st3.then (st4.then (st5.then (st6.then st7)))); refine q (fun i => xσ6 i = 0 ∨ xσ6 i = 2) H_7 _ rfl _ _ _ rfl (f5.wide (fun i h => .inl h)) _ _ _ rfl (f13.read (fun i h => .inl h) (fun i h => .inr (h))) _ (fun Z4 H_8 hE3 hO3 x6 q => ?_); obtain ⟨xσ7, st8⟩ := call0 hE3 xσ6; refine ⟨_, rfl, ?_⟩; refine condI (fun q => ?_) (fun q => ?_) q
   · replace hs := hs.trans (st.then (st2.then (st3.then (st4.then (st5.then (st6.then (st7.then st8))))))); exact hk (Zt xσ7) _ (hs.ext hσ) (hs.old hσ) _ q
   replace sl0 := sl0.trans (st5.then (st6.then (st7.then st8))); exact hnext (IntKind.i64.wrap (t + 1)) _ _ ⟨_, sl0, rfl⟩ q
 refine LoopI.ofQ q (fun t_ s_ hp_ => ∃ σ_, Stp [3, 4] xσ4 H_4 σ_ hp_ ∧ t_ = s_) (fun h k => h _ _ k) ⟨_, Stp.refl _ _ _, rfl⟩ ?_; rintro t2 _ _ H_9 next2 nextQ2 ⟨xσ8, st9, rfl⟩ q hnext2; (try dsimp only at q ⊢); have sl1 := st9; refine condJ (fun q => ?_) (fun q => ?_) q
 · replace b := b.step (st3.then (st4.then st9)); refine ⟨_, _, _, _, _, _, _, _, _, _, _, _, _, _, _, _, b.cell0, b.cell 1 rfl, b.cell 2 rfl, b.cell 3 rfl, b.cell 4 rfl, b.cell 5 rfl, b.cell 6 rfl, b.cell 7 rfl, ?_⟩; have c_1 := st2.then (st3.then (st4.then st9)); replace f := f.step c_1; replace f2 := f2.step c_1; replace f3 := f3.step c_1; replace f4 := f4.step c_1; refine q (Zt xσ8) H_9 _ rfl _ _ _ rfl f _ _ _ rfl f2 _ _ _ rfl f3 _ _ _ rfl f4 _ (fun Z7 H_14 hE6 hO6 x12 q => ?_); obtain ⟨xσ12, st14⟩ := call0 hE6 xσ8; refine ⟨_, rfl, ?_⟩; replace hs := hs.trans (st.then (st2.then (st3.then (st4.then (st9.then st14))))); exact hk (Zt xσ12) _ (hs.ext hσ) (hs.old hσ) _ q
 obtain ⟨h04, x7, hx4, q⟩ := q; replace f8 := f8.step (st.then (st2.then (st3.then (st4.then st9)))); obtain ⟨a4, ha4, hi4⟩ := f8.addr h04 hx4 rfl; refine ⟨a4, ha4, hi4.1, hi4.2, ?_⟩; obtain ⟨cs2, hr2, hc6⟩ := f8.ldN (k := 2) rfl ha4 h04 hx4; obtain ⟨A5, c5, A6, c6, rfl, f14, f15⟩ := hr2; have hc7 := hc6 0 _ rfl; have hc8 := hc6 1 _ rfl; refine ⟨_, _, _, _, _, _, hc7.val, hc8.val, ?_⟩; refine NewH.mk fun H_10 e5 => ?_; obtain ⟨xσ9, st10, b3⟩ := BoxF.new xσ8 3 e5; refine ⟨b3.mayF rfl, NewH.mk fun H_11 e6 => ?_⟩; obtain ⟨st11, b3⟩ := b3.wf2 rfl e6; obtain ⟨h05, x8, hx5, q⟩ := q; replace f6 := f6.step (st.then (st2.then (st3.then (st4.then (st9.then (st10.then st11)))))); obtain ⟨a5, ha5, hi5⟩ := f6.addr h05 hx5 rfl; refine ⟨a5, ha5, hi5.1, hi5.2, ?_⟩; obtain ⟨h06, x9, hx6, q⟩ := q; replace f7 := f7.step (st.then (st2.then (st3.then (st4.then (st9.then (st10.then st11)))))); obtain ⟨a6, ha6, hi6⟩ := f7.addr h06 hx6 rfl; refine ⟨a6, ha6, hi6.1, hi6.2, ?_⟩; replace b := b.step (st3.then (st4.then (st9.then (st10.then st11)))); refine ⟨_, _, _, _, _, _, _, _, _, _, _, _, _, _, _, _, b.cell0, b.cell 1 rfl, b.cell 2 rfl, b.cell 3 rfl, b.cell 4 rfl, b.cell 5 rfl, b.cell 6 rfl, b.cell 7 rfl, ?_⟩; refine ⟨_, b.cell 2 rfl, ?_⟩; refine ⟨_, b.cell0, ?_⟩; obtain ⟨A7, c7, hc9, f16⟩ := f6.lds ha5 h05 hx5; refine ⟨_, _, _, hc9.val, ?_⟩; obtain ⟨A8, c8, hc10, f17⟩ := f7.lds ha6 h06 hx6; refine ⟨_, _, _, hc10.val, ?_⟩; refine ⟨_, _, _, b3.cell 1 rfl, ?_⟩; replace f15 := f15.step (st10.then st11); refine q (Zt xσ9) H_11 _ rfl _ _ _ rfl f16 _ _ _ rfl f17 _ _ _ rfl f15 _ (fun Z5 H_12 hE4 hO4 x10 Y hY A9 n c9 hn9 f18 q => ?_); obtain ⟨xσ10, st12, fz4, fy⟩ := call1 hE4 hO4 xσ9 4 (fun _ h => h) hY; replace f18 := f18.keep fz4 fy; cases hn9; refine ⟨_, _, _, rfl, ?_⟩; replace b := b.step st12; refine ⟨(b.cell 2 rfl), b.cell0, (b.cell 1 rfl), (b.cell 2 rfl), (b.cell 3 rfl), (b.cell 4 rfl), (b.cell 5 rfl), (b.cell 6 rfl), (b.cell 7 rfl), ?_⟩; have c_2 := st2.then (st3.then (st4.then (st9.then (st10.then (st11.then st12))))); replace f := f.step c_2; replace f2 := f2.step c_2; replace f3 := f3.step c_2; replace f4 := f4.step c_2; replace f5 := f5.step (st3.then (st4.then (st9.then (st10.then (st11.then st12))))); refine q (fun i => xσ10 i = 0 ∨ xσ10 i = 4) H_12 _ rfl _ _ _ rfl (f.wide (fun i h => .inl h)) _ _ _ rfl (f2.wide (fun i h => .inl h)) _ _ _ rfl (f3.wide (fun i h => .inl h)) _ _ _ rfl (f4.wide (fun i h => .inl h)) _ _ _ rfl (f5.wide (fun i h => .inl h)) _ _ _ rfl (f18.read (fun i h => .inl h) (fun i h => .inr (h))) _ (fun Z6 H_13 hE5 hO5 x11 q => ?_); obtain ⟨xσ11, st13⟩ := call0 hE5 xσ10; refine ⟨_, rfl, ?_⟩; refine condI (fun q => ?_) (fun q => ?_) q
 · replace hs := hs.trans (st.then (st2.then (st3.then (st4.then (st9.then (st10.then (st11.then (st12.then st13)))))))); exact hk (Zt xσ11) _ (hs.ext hσ) (hs.old hσ) _ q
 replace sl1 := sl1.trans (st10.then (st11.then (st12.then st13))); exact hnext2 (IntKind.i64.wrap (t2 + 1)) _ _ ⟨_, sl1, rfl⟩ q
def times_Less.C (p : Nat) (value : Nat) (low : (List Nat)) (K : (List Nat) → Prop) : Prop :=
 ∀ (Z : Nat → Prop) (H : Heap), ∀ (pv : Int), pv = (p : Int) → ∀ (valuev : Int), valuev = (value : Int) → ∀ (lowA : Option Addr) (lown lowc : Nat), lown = low.length → SlF u64L Z H lowA lowc low → ∀ KK : Value → Heap → Prop,
   (∀ (Z' : Nat → Prop) (H' : Heap), Ext H H' → Old Z H Z' → ∀ (r0 : (List Nat)), ∀ (Y0 : Nat → Prop), (∀ i, Y0 i → H.size ≤ i ∧ ¬ Z' i) → ∀ (Ar0_0 : Option Addr) (nr0_0 cr0_0 : Nat), nr0_0 = r0.length → SlO (rdM u64L) 22 Z' Y0 H' Ar0_0 cr0_0 r0 → K r0 → KK (.slice Ar0_0 nr0_0 cr0_0) H') →
   CallH P N.times_Less [.int .u64 pv, .int .u64 valuev, .slice lowA lown lowc] H KK
def times_Less.Q (p : Nat) (value : Nat) (low : (List Nat)) (K : (List Nat) → Prop) : Prop :=
 MakeOk 8 ((low.length : Nat) : Int) ∧ LoopQ (τ := Int × List Nat) (0, (List.replicate low.length 0)) fun t nextQ =>
 cond (decide (t.1 < ((low.length : Nat) : Int))) (0 ≤ t.1 ∧ ∃ x : Nat, low[Int.toNat t.1]? = some x ∧ field_Minus.C p value x (fun (x2 : Nat) =>
 0 ≤ t.1 ∧ t.1 < ((low.length : Nat) : Int) ∧ nextQ (IntKind.i64.wrap (t.1 + 1), (List.set t.2 (Int.toNat t.1) x2))))
  (K t.2)
theorem times_Less.q {p : Nat} {value : Nat} {low : (List Nat)} {K : (List Nat) → Prop} (q : times_Less.Q p value low K) : times_Less.C p value low K := by
 intro Z H pv he valuev he2 lowA lown lowc hn f KK hk; cases he; cases he2; cases hn; apply times_Less.ok; unfold times_Less.W; unfold times_Less.Q at q; obtain ⟨σ, hz, hσ⟩ := tags Z; have hs : Stp ([1] : List Nat) σ H σ H := Stp.refl _ _ _; replace f := f.wide hz; clear hz; obtain ⟨q2, q⟩ := q; refine ⟨q2.1, Int.le_refl _, q2.w1, q2.w2, NewH.mk fun H_ e => ?_⟩; obtain ⟨xσ, st, f2⟩ := SlO.made (O := (rdM u64L)) σ 1 e (u64_zero) q2.len; refine LoopI.ofQ q (fun t_ s_ hp_ => ∃ σ_, Stp [1] xσ H_ σ_ hp_ ∧ t_.1 = s_ ∧ t_.2.length = (List.replicate low.length 0).length ∧ SlO (rdM u64L) 22 (Zt σ_) (Yt σ_ 1) hp_ (some (Addr.mk H.size 0 none)) low.length t_.2) (fun h k => h _ _ k) ⟨_, Stp.refl _ _ _, rfl, rfl, f2⟩ ?_; rintro t _ _ H_2 next nextQ ⟨xσ2, st2, rfl, hl, f2⟩ q hnext; (try dsimp only at q ⊢); have sl1 := st2; refine condJ (fun q => ?_) (fun q => ?_) q
 · replace hs := hs.trans (st.then st2); exact hk (Zt xσ2) _ (hs.ext hσ) (hs.old hσ) _ (Yt xσ2 1) (hs.fresh hσ) _ _ _ ((rl_len _ _).trans hl.symm) f2 q
 obtain ⟨h0, x, hx, q⟩ := q; replace f := f.step (st.then st2); obtain ⟨a, ha, hi⟩ := f.addr h0 hx rfl; refine ⟨a, ha, hi.1, hi.2, ?_⟩; have hc := f.ldu ha h0 hx; refine ⟨_, hc.val, ?_⟩; refine q (Zt xσ2) H_2 _ rfl _ rfl _ rfl _ (fun Z2 H_3 hE hO x2 v he3 q => ?_); obtain ⟨xσ3, st3⟩ := call0 hE xσ2; cases he3; refine ⟨_, rfl, ?_⟩; obtain ⟨h02, hi3, q⟩ := q; replace f2 := f2.step st3; obtain ⟨a2, ha2, hi2⟩ := f2.addr h02 ((rl_len _ _).trans hl.symm) hi3; refine ⟨a2, ha2, hi2.1, hi2.2, ?_⟩; have w := fun v hr => SlO.set1 (v := v) (y := x2) f2 rfl ha2 h02 (lt_of_n ((rl_len _ _).trans hl.symm) hi3) hr; refine ⟨(w _ rfl).1, NewH.mk fun H_4 e2 => ?_⟩; obtain ⟨st4, f2⟩ := (w _ rfl).2 H_4 e2; replace sl1 := sl1.trans (st3.then st4); exact hnext (IntKind.i64.wrap (t.1 + 1), (List.set t.2 (Int.toNat t.1) x2)) _ _ ⟨_, sl1, rfl, (set_back ((rl_len _ _).trans hl.symm) (set_len ((rl_len _ _).trans hl.symm)) hl), f2⟩ q
def times_Play.C (t : TTable) (world : TWorld) (holders : (List Int)) (xs : (List (List Nat))) (ys : (List (List Nat))) (masks : (List TMask)) (K : (List (List Nat)) → (List TGot) → TTable → TWorld → Prop) : Prop :=
 ∀ (Z : Nat → Prop) (τ : Nat → Nat) (H : Heap), (∀ i, τ i ≠ 0 → ¬ Z i) → ∀ (tP : Nat), ∀ (v : Int), v = (t.Setup.P : Int) → ∀ (A : Option Addr) (n c : Nat), n = t.tapes.length → SlO (rdM (slL u64L)) 37 Z (Yt τ 2) H A c t.tapes → ∀ (worldP : Nat), ∀ (v2 : Int), v2 = (world.Setup.P : Int) → ∀ (A2 : Option Addr) (n2 c2 : Nat), n2 = world.Corrupted.length → SlF i64L Z H A2 c2 world.Corrupted → ∀ (A3 : Option Addr) (n3 c3 : Nat), n3 = world.Acts.length → SlF TAct.L Z H A3 c3 world.Acts → ∀ (A4 : Option Addr) (n4 c4 : Nat), n4 = world.Tapes.length → SlO (rdM (slL u64L)) 37 Z (Yt τ 4) H A4 c4 world.Tapes → ∀ (A5 : Option Addr) (n5 c5 : Nat), n5 = world.Sent.length → SlO (rdM TSent.L) 76 Z (Yt τ 5) H A5 c5 world.Sent → BoxF 3 τ H worldP [.int .u64 v2, .int .i64 world.Setup.N, .int .i64 world.Setup.T_, .slice A2 n2 c2, .slice A3 n3 c3, .slice A4 n4 c4, .int .i64 world.Round, .slice A5 n5 c5] 30 → BoxF 1 τ H tP [.int .u64 v, .int .i64 t.Setup.N, .int .i64 t.Setup.T_, .slice A n c, .func (.func 44) #[] #[.pointer (some (Addr.mk worldP 0 none))]] 98 → ∀ (holdersA : Option Addr) (holdersn holdersc : Nat), holdersn = holders.length → SlF i64L Z H holdersA holdersc holders → ∀ (xsA : Option Addr) (xsn xsc : Nat), xsn = xs.length → SlF (slL u64L) Z H xsA xsc xs → ∀ (ysA : Option Addr) (ysn ysc : Nat), ysn = ys.length → SlF (slL u64L) Z H ysA ysc ys → ∀ (masksA : Option Addr) (masksn masksc : Nat), masksn = masks.length → SlF TMask.L Z H masksA masksc masks → ∀ KK : Value → Heap → Prop,
   (∀ (Z' : Nat → Prop) (τ' : Nat → Nat) (H' : Heap), Turn τ H τ' H' → OldT Z τ H Z' → (∀ i, τ' i ≠ 0 → ¬ Z' i) → ∀ (r0 : (List (List Nat))), ∀ (Ar0_0 : Option Addr) (nr0_0 cr0_0 : Nat), nr0_0 = r0.length → SlF (slL u64L) Z' H' Ar0_0 cr0_0 r0 → ∀ (r1 : (List TGot)), ∀ (Ar1_0 : Option Addr) (nr1_0 cr1_0 : Nat), nr1_0 = r1.length → SlF TGot.L Z' H' Ar1_0 cr1_0 r1 → ∀ (o0 : TTable), ∀ (vo0_0 : Int), vo0_0 = (o0.Setup.P : Int) → ∀ (Ao0_3 : Option Addr) (no0_3 co0_3 : Nat), no0_3 = o0.tapes.length → SlO (rdM (slL u64L)) 37 Z' (Yt τ' 2) H' Ao0_3 co0_3 o0.tapes → BoxF 1 τ' H' tP [.int .u64 vo0_0, .int .i64 o0.Setup.N, .int .i64 o0.Setup.T_, .slice Ao0_3 no0_3 co0_3, .func (.func 44) #[] #[.pointer (some (Addr.mk worldP 0 none))]] 98 → ∀ (o1 : TWorld), ∀ (vo1_0 : Int), vo1_0 = (o1.Setup.P : Int) → ∀ (Ao1_3 : Option Addr) (no1_3 co1_3 : Nat), no1_3 = o1.Corrupted.length → SlF i64L Z' H' Ao1_3 co1_3 o1.Corrupted → ∀ (Ao1_4 : Option Addr) (no1_4 co1_4 : Nat), no1_4 = o1.Acts.length → SlF TAct.L Z' H' Ao1_4 co1_4 o1.Acts → ∀ (Ao1_5 : Option Addr) (no1_5 co1_5 : Nat), no1_5 = o1.Tapes.length → SlO (rdM (slL u64L)) 37 Z' (Yt τ' 4) H' Ao1_5 co1_5 o1.Tapes → ∀ (Ao1_7 : Option Addr) (no1_7 co1_7 : Nat), no1_7 = o1.Sent.length → SlO (rdM TSent.L) 76 Z' (Yt τ' 5) H' Ao1_7 co1_7 o1.Sent → BoxF 3 τ' H' worldP [.int .u64 vo1_0, .int .i64 o1.Setup.N, .int .i64 o1.Setup.T_, .slice Ao1_3 no1_3 co1_3, .slice Ao1_4 no1_4 co1_4, .slice Ao1_5 no1_5 co1_5, .int .i64 o1.Round, .slice Ao1_7 no1_7 co1_7] 30 → K r0 r1 o0 o1 → KK (.tuple #[.slice Ar0_0 nr0_0 cr0_0, .slice Ar1_0 nr1_0 cr1_0]) H') →
   CallH P N.times_Play [.pointer (some (Addr.mk tP 0 none)), .slice holdersA holdersn holdersc, .slice xsA xsn xsc, .slice ysA ysn ysc, .slice masksA masksn masksc] H KK
def times_Play.Q (t : TTable) (world : TWorld) (holders : (List Int)) (xs : (List (List Nat))) (ys : (List (List Nat))) (masks : (List TMask)) (K : (List (List Nat)) → (List TGot) → TTable → TWorld → Prop) : Prop :=
 LoopQ (τ := List (List Nat) × Int) (([] : List (List Nat)), 0) fun t2 nextQ =>
 cond (decide (t2.2 < ((xs.length : Nat) : Int))) (0 ≤ t2.2 ∧ ∃ x : (List Nat), xs[Int.toNat t2.2]? = some x ∧ 0 ≤ t2.2 ∧ ∃ x2 : (List Nat), ys[Int.toNat t2.2]? = some x2 ∧ 0 ≤ t2.2 ∧ ∃ x3 : TMask, masks[Int.toNat t2.2]? = some x3 ∧ times_Shares.C t.Setup.P x x2 x3.High (fun (x4 : (List Nat)) =>
 AppOk 24 (t2.1 ++ ([x4] : List (List Nat))).length ∧ nextQ ((t2.1 ++ ([x4] : List (List Nat))), IntKind.i64.wrap (t2.2 + 1))))
  (open_Public.C t world holders (IntKind.i64.wrap (2 * t.Setup.T_)) t2.1 (fun (x5 : (List TGot)) (o : TTable) (o2 : TWorld) =>
 LoopQ (τ := List (List Nat) × Int) (([] : List (List Nat)), 0) fun t3 nextQ2 =>
 cond (decide (t3.2 < ((x5.length : Nat) : Int))) (0 ≤ t3.2 ∧ ∃ x6 : TGot, x5[Int.toNat t3.2]? = some x6 ∧ 0 ≤ t3.2 ∧ ∃ x7 : TMask, masks[Int.toNat t3.2]? = some x7 ∧ times_Less.C t.Setup.P x6.Opened.Value x7.Low (fun (x8 : (List Nat)) =>
 AppOk 24 (t3.1 ++ ([x8] : List (List Nat))).length ∧ nextQ2 ((t3.1 ++ ([x8] : List (List Nat))), IntKind.i64.wrap (t3.2 + 1))))
  (K t3.1 x5 o o2)))
theorem times_Play.q {t : TTable} {world : TWorld} {holders : (List Int)} {xs : (List (List Nat))} {ys : (List (List Nat))} {masks : (List TMask)} {K : (List (List Nat)) → (List TGot) → TTable → TWorld → Prop} (q : times_Play.Q t world holders xs ys masks K) : times_Play.C t world holders xs ys masks K := by
 intro Z τ H hτ tP v he A n c hn f worldP v2 he2 A2 n2 c2 hn2 f2 A3 n3 c3 hn3 f3 A4 n4 c4 hn4 f4 A5 n5 c5 hn5 f5 b2 b holdersA holdersn holdersc hn6 f6 xsA xsn xsc hn7 f7 ysA ysn ysc hn8 f8 masksA masksn masksc hn9 f9 KK hk; cases he; cases hn; cases he2; cases hn2; cases hn3; cases hn4; cases hn5; cases hn6; cases hn7; cases hn8; cases hn9; apply times_Play.ok; unfold times_Play.W; unfold times_Play.Q at q; obtain ⟨σ, hz, hy, hσ⟩ := tags2 Z τ 5 hτ; have hs : Stp ([1, 2, 3, 4, 5, 6, 7, 8, 9, 10, 11, 12] : List Nat) σ H σ H := Stp.refl _ _ _; replace f := SlO.keep f (Fr.wide hz _) (Fr.wide (hy 2 (by decide) (by decide)) _); replace f2 := f2.wide hz; replace f3 := f3.wide hz; replace f4 := SlO.keep f4 (Fr.wide hz _) (Fr.wide (hy 4 (by decide) (by decide)) _); replace f5 := SlO.keep f5 (Fr.wide hz _) (Fr.wide (hy 5 (by decide) (by decide)) _); replace b2 := BoxF.mk b2.blk (hy 3 (by decide) (by decide) _ b2.tag); replace b := BoxF.mk b.blk (hy 1 (by decide) (by decide) _ b.tag); replace f6 := f6.wide hz; replace f7 := f7.wide hz; replace f8 := f8.wide hz; replace f9 := f9.wide hz; clear hz; clear hy; refine ⟨_, b.cell0, ?_⟩; have f10 := SlO.nil (rdM (slL u64L)) 37 (Zt σ) (Yt σ 6) H; refine LoopI.ofQ q (fun t_ s_ hp_ => ∃ σ_ A0_ n0_ c0_, Stp [6, 7, 8] σ H σ_ hp_ ∧ ((A0_, n0_, c0_), t_.2) = s_ ∧ n0_ = t_.1.length ∧ SlO (rdM (slL u64L)) 37 (Zt σ_) (Yt σ_ 6) hp_ A0_ c0_ t_.1) (fun h k => h _ _ k) ⟨_, _, _, _, Stp.refl _ _ _, rfl, rfl, f10⟩ ?_; rintro t2 _ _ H_ next nextQ ⟨xσ, A6, n6, c6, st, rfl, rfl, f11⟩ q hnext; (try dsimp only at q ⊢); have sl0 := st; refine condI (fun q => ?_) (fun q => ?_) q
 · obtain ⟨h0, x, hx, q⟩ := q; replace f7 := f7.step st; obtain ⟨a, ha, hi⟩ := f7.addr h0 hx rfl; refine ⟨a, ha, hi.1, hi.2, ?_⟩; obtain ⟨h02, x2, hx2, q⟩ := q; replace f8 := f8.step st; obtain ⟨a2, ha2, hi2⟩ := f8.addr h02 hx2 rfl; refine ⟨a2, ha2, hi2.1, hi2.2, ?_⟩; obtain ⟨h03, x3, hx3, q⟩ := q; replace f9 := f9.step st; obtain ⟨a3, ha3, hi3⟩ := f9.addr h03 hx3 rfl; refine ⟨a3, ha3, hi3.1, hi3.2, ?_⟩; obtain ⟨A7, c7, hc, f12⟩ := f7.lds ha h0 hx; refine ⟨_, _, _, hc.val, ?_⟩; obtain ⟨A8, c8, hc2, f13⟩ := f8.lds ha2 h02 hx2; refine ⟨_, _, _, hc2.val, ?_⟩; obtain ⟨cs, hr, hc3⟩ := f9.ldN (k := 2) rfl ha3 h03 hx3; obtain ⟨A9, c9, A10, c10, rfl, f14, f15⟩ := hr; have hc4 := hc3 1 _ rfl; refine ⟨_, _, _, hc4.val, ?_⟩; refine q (Zt xσ) H_ _ rfl _ _ _ rfl f12 _ _ _ rfl f13 _ _ _ rfl f15 _ (fun Z2 H_2 hE hO x4 Y hY A11 n7 c11 hn10 f16 q => ?_); obtain ⟨xσ2, st2, fz, fy⟩ := call1 hE hO xσ 7 (fun _ h => h) hY; replace f16 := f16.keep fz fy; cases hn10; refine ⟨_, _, _, rfl, ?_⟩; obtain ⟨xσ3, st3, f16⟩ := SlO.freeze f16; refine NewH.mk fun H_3 e => ?_; obtain ⟨xσ4, st4, f17⟩ := SlO.lit (E := (slL u64L)) xσ3 8 (xs := [x4]) (l := [[_]]) e rfl (.cons (slL_rep rfl f16) .nil) (show (1 : Nat) ≤ 17592186044416 by decide); obtain ⟨xσ6, st6, f17⟩ := SlO.freeze f17; obtain ⟨q2, q⟩ := q; replace f11 := f11.step (st2.then (st3.then (st4.then st6))); refine SlO.appF f11 f17 rfl rfl q2.l q2.r rfl rfl (fun A12 c12 H_4 xσ5 st5 f11_ => ?_); replace f11 := f11_; have f18 := f11; clear f11; replace sl0 := sl0.trans (st2.then (st3.then (st4.then (st6.then st5)))); exact hnext ((t2.1 ++ ([x4] : List (List Nat))), IntKind.i64.wrap (t2.2 + 1)) _ _ ⟨_, _, _, _, sl0, rfl, rfl, f18⟩ q
 replace b := b.step st; refine ⟨_, b.cell 2 rfl, ?_⟩; obtain ⟨xσ7, st7, f11⟩ := SlO.freeze f11; have c_0 := st.then st7; replace f := f.step c_0; replace f2 := f2.step c_0; replace f3 := f3.step c_0; replace f4 := f4.step c_0; replace f5 := f5.step c_0; replace b2 := b2.step c_0; replace b := b.step st7; replace f6 := f6.step c_0; refine q (Zt xσ7) (ren [1, 2, 3, 4, 5] xσ7) H_ (ren_z _ _) _ _ rfl _ _ _ rfl (SlO.keep f (Fr.refl _ _) (Fr.wide (ren_y (js := [1, 2, 3, 4, 5]) (j := 2) (m := 2) (by decide) (by decide)) _)) _ _ rfl _ _ _ rfl f2 _ _ _ rfl f3 _ _ _ rfl (SlO.keep f4 (Fr.refl _ _) (Fr.wide (ren_y (js := [1, 2, 3, 4, 5]) (j := 4) (m := 4) (by decide) (by decide)) _)) _ _ _ rfl (SlO.keep f5 (Fr.refl _ _) (Fr.wide (ren_y (js := [1, 2, 3, 4, 5]) (j := 5) (m := 5) (by decide) (by decide)) _)) ⟨b2.blk, (ren_y (js := [1, 2, 3, 4, 5]) (j := 3) (m := 3) (by decide) (by decide)) _ b2.tag⟩ ⟨b.blk, (ren_y (js := [1, 2, 3, 4, 5]) (j := 1) (m := 1) (by decide) (by decide)) _ b.tag⟩ _ _ _ rfl f6 _ _ _ rfl f11 _ (fun Z3 xτ H_5 hT hO2 hd x5 A13 n8 c13 hn11 f19 o v3 he3 A14 n9 c14 hn12 f20 b o2 v4 he4 A15 n10 c15 hn13 f21 A16 n11 c16 hn14 f22 A17 n12 c17 hn15 f23 A18 n13 c18 hn16 f24 b2 q => ?_); obtain ⟨xσ8, st8, fz2, fy2⟩ := callT hT hO2 hd [1, 2, 3, 4, 5]; replace f19 := f19.keep fz2; replace f20 := SlO.keep f20 fz2 (Fr.wide (fy2 1 2 rfl) _); replace b := BoxF.mk b.blk (fy2 0 1 rfl _ b.tag); replace f21 := f21.keep fz2; replace f22 := f22.keep fz2; replace f23 := SlO.keep f23 fz2 (Fr.wide (fy2 3 4 rfl) _); replace f24 := SlO.keep f24 fz2 (Fr.wide (fy2 4 5 rfl) _); replace b2 := BoxF.mk b2.blk (fy2 2 3 rfl _ b2.tag); cases hn11; cases he3; cases hn12; cases he4; cases hn13; cases hn14; cases hn15; cases hn16; refine ⟨_, _, _, rfl, ?_⟩; have f25 := SlO.nil (rdM (slL u64L)) 37 (Zt xσ8) (Yt xσ8 9) H_5; refine LoopI.ofQ q (fun t_ s_ hp_ => ∃ σ_ A0_ n0_ c0_, Stp [9, 10, 11, 12] xσ8 H_5 σ_ hp_ ∧ ((A0_, n0_, c0_), t_.2) = s_ ∧ n0_ = t_.1.length ∧ SlO (rdM (slL u64L)) 37 (Zt σ_) (Yt σ_ 9) hp_ A0_ c0_ t_.1) (fun h k => h _ _ k) ⟨_, _, _, _, Stp.refl _ _ _, rfl, rfl, f25⟩ ?_; rintro t3 _ _ H_6 next2 nextQ2 ⟨xσ9, A19, n14, c19, st9, rfl, rfl, f26⟩ q hnext2; (try dsimp only at q ⊢); have sl1 := st9; refine condJ (fun q => ?_) (fun q => ?_) q
 · obtain ⟨xσ16, st17, f26⟩ := SlO.freeze f26; replace hs := hs.trans (st.then (st7.then (st8.then (st9.then st17)))); have c_1 := st9.then st17; replace f19 := f19.step c_1; replace f20 := f20.step c_1; replace b := b.step c_1; replace f21 := f21.step c_1; replace f22 := f22.step c_1; replace f23 := f23.step c_1; replace f24 := f24.step c_1; replace b2 := b2.step c_1; exact hk (Zt xσ16) (ren [1, 2, 3, 4, 5] xσ16) _ (hs.turn hσ) (hs.oldT hσ) (ren_z _ _) t3.1 _ _ _ rfl f26 x5 _ _ _ rfl f19 o _ rfl _ _ _ rfl (SlO.keep f20 (Fr.refl _ _) (Fr.wide (ren_y (js := [1, 2, 3, 4, 5]) (j := 2) (m := 2) (by decide) (by decide)) _)) ⟨b.blk, ren_y (js := [1, 2, 3, 4, 5]) (j := 1) (m := 1) (by decide) (by decide) _ b.tag⟩ o2 _ rfl _ _ _ rfl f21 _ _ _ rfl f22 _ _ _ rfl (SlO.keep f23 (Fr.refl _ _) (Fr.wide (ren_y (js := [1, 2, 3, 4, 5]) (j := 4) (m := 4) (by decide) (by decide)) _)) _ _ _ rfl (SlO.keep f24 (Fr.refl _ _) (Fr.wide (ren_y (js := [1, 2, 3, 4, 5]) (j := 5) (m := 5) (by decide) (by decide)) _)) ⟨b2.blk, ren_y (js := [1, 2, 3, 4, 5]) (j := 3) (m := 3) (by decide) (by decide) _ b2.tag⟩ q
 obtain ⟨h04, x6, hx4, q⟩ := q; replace f19 := f19.step st9; obtain ⟨a4, ha4, hi4⟩ := f19.addr h04 hx4 rfl; refine ⟨a4, ha4, hi4.1, hi4.2, ?_⟩; obtain ⟨cs2, hr2, hc5⟩ := f19.ldN (k := 4) rfl ha4 h04 hx4; obtain ⟨A20, c20, A21, c21, rfl, f27, f28⟩ := hr2; have hc6 := hc5 0 _ rfl; have hc7 := hc5 1 _ rfl; have hc8 := hc5 2 _ rfl; have hc9 := hc5 3 _ rfl; refine ⟨_, _, _, _, _, _, _, _, hc6.val, hc7.val, hc8.val, hc9.val, ?_⟩; refine NewH.mk fun H_7 e2 => ?_; obtain ⟨xσ10, st10, b3⟩ := BoxF.new xσ9 10 e2; refine ⟨b3.mayF rfl, NewH.mk fun H_8 e3 => ?_⟩; obtain ⟨st11, b3⟩ := b3.wf4 rfl e3; obtain ⟨h05, x7, hx5, q⟩ := q; replace f9 := f9.step (st.then (st7.then (st8.then (st9.then (st10.then st11))))); obtain ⟨a5, ha5, hi5⟩ := f9.addr h05 hx5 rfl; refine ⟨a5, ha5, hi5.1, hi5.2, ?_⟩; refine ⟨_, b3.cell0, ?_⟩; obtain ⟨cs3, hr3, hc10⟩ := f9.ldN (k := 2) rfl ha5 h05 hx5; obtain ⟨A22, c22, A23, c23, rfl, f29, f30⟩ := hr3; have hc11 := hc10 0 _ rfl; refine ⟨_, _, _, hc11.val, ?_⟩; refine q (Zt xσ10) H_8 _ rfl _ rfl _ _ _ rfl f29 _ (fun Z4 H_9 hE2 hO3 x8 Y2 hY2 A24 n15 c24 hn17 f31 q => ?_); obtain ⟨xσ11, st12, fz3, fy3⟩ := call1 hE2 hO3 xσ10 11 (fun _ h => h) hY2; replace f31 := f31.keep fz3 fy3; cases hn17; refine ⟨_, _, _, rfl, ?_⟩; obtain ⟨xσ12, st13, f31⟩ := SlO.freeze f31; refine NewH.mk fun H_10 e4 => ?_; obtain ⟨xσ13, st14, f32⟩ := SlO.lit (E := (slL u64L)) xσ12 12 (xs := [x8]) (l := [[_]]) e4 rfl (.cons (slL_rep rfl f31) .nil) (show (1 : Nat) ≤ 17592186044416 by decide); obtain ⟨xσ15, st16, f32⟩ := SlO.freeze f32; obtain ⟨q3, q⟩ := q; replace f26 := f26.step (st10.then (st11.then (st12.then (st13.then (st14.then st16))))); refine SlO.appF f26 f32 rfl rfl q3.l q3.r rfl rfl (fun A25 c25 H_11 xσ14 st15 f26_ => ?_); replace f26 := f26_; have f33 := f26; clear f26; replace sl1 := sl1.trans (st10.then (st11.then (st12.then (st13.then (st14.then (st16.then st15)))))); exact hnext2 ((t3.1 ++ ([x8] : List (List Nat))), IntKind.i64.wrap (t3.2 + 1)) _ _ ⟨_, _, _, _, sl1, rfl, rfl, f33⟩ q
def times_All.C (w : TWorld) (holders : (List Int)) (xs : (List (List Nat))) (ys : (List (List Nat))) (masks : (List TMask)) (K : (List (List Nat)) → (List TOpened) → TWorld → Int → Prop) : Prop :=
 ∀ (Z : Nat → Prop) (H : Heap), ∀ (wv : Int), wv = (w.Setup.P : Int) → ∀ (wA : Option Addr) (wn wc : Nat), wn = w.Corrupted.length → SlF i64L Z H wA wc w.Corrupted → ∀ (wA2 : Option Addr) (wn2 wc2 : Nat), wn2 = w.Acts.length → SlF TAct.L Z H wA2 wc2 w.Acts → ∀ (wA3 : Option Addr) (wn3 wc3 : Nat), wn3 = w.Tapes.length → SlF (slL u64L) Z H wA3 wc3 w.Tapes → ∀ (wA4 : Option Addr) (wn4 wc4 : Nat), wn4 = w.Sent.length → SlF TSent.L Z H wA4 wc4 w.Sent → ∀ (holdersA : Option Addr) (holdersn holdersc : Nat), holdersn = holders.length → SlF i64L Z H holdersA holdersc holders → ∀ (xsA : Option Addr) (xsn xsc : Nat), xsn = xs.length → SlF (slL u64L) Z H xsA xsc xs → ∀ (ysA : Option Addr) (ysn ysc : Nat), ysn = ys.length → SlF (slL u64L) Z H ysA ysc ys → ∀ (masksA : Option Addr) (masksn masksc : Nat), masksn = masks.length → SlF TMask.L Z H masksA masksc masks → ∀ KK : Value → Heap → Prop,
   (∀ (Z' : Nat → Prop) (H' : Heap), Ext H H' → Old Z H Z' → ∀ (r0 : (List (List Nat))), ∀ (Ar0_0 : Option Addr) (nr0_0 cr0_0 : Nat), nr0_0 = r0.length → SlF (slL u64L) Z' H' Ar0_0 cr0_0 r0 → ∀ (r1 : (List TOpened)), ∀ (Y1 : Nat → Prop), (∀ i, Y1 i → H.size ≤ i ∧ ¬ Z' i) → ∀ (Ar1_0 : Option Addr) (nr1_0 cr1_0 : Nat), nr1_0 = r1.length → SlO (rdM TOpened.L) 44 Z' Y1 H' Ar1_0 cr1_0 r1 → ∀ (r2 : TWorld), ∀ (r2v0 : Int), r2v0 = (r2.Setup.P : Int) → ∀ (Ar2_3 : Option Addr) (nr2_3 cr2_3 : Nat), nr2_3 = r2.Corrupted.length → SlF i64L Z' H' Ar2_3 cr2_3 r2.Corrupted → ∀ (Ar2_4 : Option Addr) (nr2_4 cr2_4 : Nat), nr2_4 = r2.Acts.length → SlF TAct.L Z' H' Ar2_4 cr2_4 r2.Acts → ∀ (Ar2_5 : Option Addr) (nr2_5 cr2_5 : Nat), nr2_5 = r2.Tapes.length → SlF (slL u64L) Z' H' Ar2_5 cr2_5 r2.Tapes → ∀ (Ar2_7 : Option Addr) (nr2_7 cr2_7 : Nat), nr2_7 = r2.Sent.length → SlF TSent.L Z' H' Ar2_7 cr2_7 r2.Sent → ∀ (r3 : Int), K r0 r1 r2 r3 → KK (.tuple #[.slice Ar0_0 nr0_0 cr0_0, .slice Ar1_0 nr1_0 cr1_0, .agg #[.int .u64 r2v0, .int .i64 r2.Setup.N, .int .i64 r2.Setup.T_, .slice Ar2_3 nr2_3 cr2_3, .slice Ar2_4 nr2_4 cr2_4, .slice Ar2_5 nr2_5 cr2_5, .int .i64 r2.Round, .slice Ar2_7 nr2_7 cr2_7], .int .i64 r3]) H') →
   CallH P N.times_All [.agg #[.int .u64 wv, .int .i64 w.Setup.N, .int .i64 w.Setup.T_, .slice wA wn wc, .slice wA2 wn2 wc2, .slice wA3 wn3 wc3, .int .i64 w.Round, .slice wA4 wn4 wc4], .slice holdersA holdersn holdersc, .slice xsA xsn xsc, .slice ysA ysn ysc, .slice masksA masksn masksc] H KK
def times_All.Q (w : TWorld) (holders : (List Int)) (xs : (List (List Nat))) (ys : (List (List Nat))) (masks : (List TMask)) (K : (List (List Nat)) → (List TOpened) → TWorld → Int → Prop) : Prop :=
 times_Check.C w holders xs ys masks (fun (x : Int) =>
 cond (x != 0) (K ([]) ([]) (⟨(⟨0, 0, 0⟩ : TSetup), [], [], [], 0, []⟩ : TWorld) x)
  (net_Clone.C w (fun (x2 : TWorld) =>
 MakeOk 24 x2.Setup.N ∧ times_Play.C (⟨x2.Setup, (copyL (List.replicate (Int.toNat x2.Setup.N) []) x2.Tapes)⟩ : TTable) x2 holders xs ys masks (fun (r : (List (List Nat))) (r2 : (List TGot)) (o : TTable) (o2 : TWorld) =>
 open_Bare.C r2 (fun (x3 : (List TOpened)) =>
 LoopQ (τ := Int × List (List Nat)) (0, o2.Tapes) fun t nextQ =>
 cond (decide (t.1 < ((o.tapes.length : Nat) : Int))) (0 ≤ t.1 ∧ t.1 < ((o.tapes.length : Nat) : Int) ∧ ∃ x4 : (List Nat), o.tapes[Int.toNat t.1]? = some x4 ∧ slices_Clone_uint64uint64.C x4 (fun (x5 : (List Nat)) =>
 0 ≤ t.1 ∧ t.1 < ((o2.Tapes.length : Nat) : Int) ∧ nextQ (IntKind.i64.wrap (t.1 + 1), (List.set t.2 (Int.toNat t.1) x5))))
  (K r x3 (⟨o2.Setup, o2.Corrupted, o2.Acts, t.2, o2.Round, o2.Sent⟩ : TWorld) 0))))))
theorem times_All.q {w : TWorld} {holders : (List Int)} {xs : (List (List Nat))} {ys : (List (List Nat))} {masks : (List TMask)} {K : (List (List Nat)) → (List TOpened) → TWorld → Int → Prop} (q : times_All.Q w holders xs ys masks K) : times_All.C w holders xs ys masks K := by
 intro Z H wv he wA wn wc hn f wA2 wn2 wc2 hn2 f2 wA3 wn3 wc3 hn3 f3 wA4 wn4 wc4 hn4 f4 holdersA holdersn holdersc hn5 f5 xsA xsn xsc hn6 f6 ysA ysn ysc hn7 f7 masksA masksn masksc hn8 f8 KK hk; cases he; cases hn; cases hn2; cases hn3; cases hn4; cases hn5; cases hn6; cases hn7; cases hn8; apply times_All.ok; unfold times_All.W; unfold times_All.Q at q; obtain ⟨σ, hz, hσ⟩ := tags Z; have hs : Stp ([1, 2, 3, 4, 5, 6, 7, 8, 9, 10, 11, 12, 13, 14, 15, 16] : List Nat) σ H σ H := Stp.refl _ _ _; replace f := f.wide hz; replace f2 := f2.wide hz; replace f3 := f3.wide hz; replace f4 := f4.wide hz; replace f5 := f5.wide hz; replace f6 := f6.wide hz; replace f7 := f7.wide hz; replace f8 := f8.wide hz; clear hz; refine NewH.mk fun H_ e => ?_; obtain ⟨xσ, st, b⟩ := BoxF.new σ 1 e; refine NewH.mk fun H_2 e2 => ?_; obtain ⟨xσ2, st2, b2⟩ := BoxF.new xσ 2 e2; refine NewH.mk fun H_3 e3 => ?_; obtain ⟨xσ3, st3, b3⟩ := BoxF.new xσ2 3 e3; refine NewH.mk fun H_4 e4 => ?_; obtain ⟨xσ4, st4, b4⟩ := BoxF.new xσ3 4 e4; refine NewH.mk fun H_5 e5 => ?_; obtain ⟨xσ5, st5, b5⟩ := BoxF.new xσ4 5 e5; refine NewH.mk fun H_6 e6 => ?_; obtain ⟨xσ6, st6, b6⟩ := BoxF.new xσ5 6 e6; replace b := b.step (st2.then (st3.then (st4.then (st5.then st6)))); refine ⟨_, _, _, _, _, _, _, _, _, _, _, _, _, _, _, _, b.cell0, b.cell 1 rfl, b.cell 2 rfl, b.cell 3 rfl, b.cell 4 rfl, b.cell 5 rfl, b.cell 6 rfl, b.cell 7 rfl, ?_⟩; replace b2 := b2.step (st3.then (st4.then (st5.then st6))); refine ⟨_, _, _, b2.cell0, ?_⟩; replace b3 := b3.step (st4.then (st5.then st6)); refine ⟨_, _, _, b3.cell0, ?_⟩; replace b4 := b4.step (st5.then st6); refine ⟨_, _, _, b4.cell0, ?_⟩; replace b5 := b5.step st6; refine ⟨_, _, _, b5.cell0, ?_⟩; have c_0 := st.then (st2.then (st3.then (st4.then (st5.then st6)))); replace f := f.step c_0; replace f2 := f2.step c_0; replace f3 := f3.step c_0; replace f4 := f4.step c_0; replace f5 := f5.step c_0; replace f6 := f6.step c_0; replace f7 := f7.step c_0; replace f8 := f8.step c_0; refine q (Zt xσ6) H_6 _ rfl _ _ _ rfl f _ _ _ rfl f2 _ _ _ rfl f3 _ _ _ rfl f4 _ _ _ rfl f5 _ _ _ rfl f6 _ _ _ rfl f7 _ _ _ rfl f8 _ (fun Z2 H_7 hE hO x q => ?_); obtain ⟨xσ7, st7⟩ := call0 hE xσ6; refine ⟨_, rfl, ?_⟩; refine condI (fun q => ?_) (fun q => ?_) q
 · replace b6 := b6.step st7; refine ⟨b6.mayF rfl, NewH.mk fun H_8 e7 => ?_⟩; obtain ⟨st8, b6⟩ := b6.wf8 rfl e7; refine ⟨_, _, _, _, _, _, _, _, _, _, _, _, _, _, _, _, b6.cell0, b6.cell 1 rfl, b6.cell 2 rfl, b6.cell 3 rfl, b6.cell 4 rfl, b6.cell 5 rfl, b6.cell 6 rfl, b6.cell 7 rfl, ?_⟩; replace hs := hs.trans (st.then (st2.then (st3.then (st4.then (st5.then (st6.then (st7.then st8))))))); exact hk (Zt xσ7) _ (hs.ext hσ) (hs.old hσ) _ _ _ _ rfl (SlF.nil _ _ _ _ _) _ (fun _ => False) (fun _ h => h.elim) _ _ _ rfl (SlO.nil _ _ _ _ _) (⟨(⟨0, 0, 0⟩ : TSetup), [], [], [], 0, []⟩ : TWorld) _ rfl _ _ _ rfl (SlF.nil _ _ _ _ _) _ _ _ rfl (SlF.nil _ _ _ _ _) _ _ _ rfl (SlF.nil _ _ _ _ _) _ _ _ rfl (SlF.nil _ _ _ _ _) _ q
 refine NewH.mk fun H_9 e8 => ?_; obtain ⟨xσ8, st9, b7⟩ := BoxF.new xσ7 7 e8; refine NewH.mk fun H_10 e9 => ?_; obtain ⟨xσ9, st10, b8⟩ := BoxF.new xσ8 8 e9; replace b := b.step (st7.then (st9.then st10)); refine ⟨_, _, _, _, _, _, _, _, _, _, _, _, _, _, _, _, b.cell0, b.cell 1 rfl, b.cell 2 rfl, b.cell 3 rfl, b.cell 4 rfl, b.cell 5 rfl, b.cell 6 rfl, b.cell 7 rfl, ?_⟩; apply net_Play.ok; unfold net_Play.W; refine NewH.mk fun H_11 e10 => ?_; obtain ⟨xσ10, st11, b9⟩ := BoxF.new xσ9 9 e10; refine NewH.mk fun H_12 e11 => ?_; obtain ⟨xσ11, st12, b10⟩ := BoxF.new xσ10 10 e11; replace b9 := b9.step st12; refine ⟨_, _, _, _, _, _, _, _, _, _, _, _, _, _, _, _, b9.cell0, b9.cell 1 rfl, b9.cell 2 rfl, b9.cell 3 rfl, b9.cell 4 rfl, b9.cell 5 rfl, b9.cell 6 rfl, b9.cell 7 rfl, ?_⟩; have c_1 := st7.then (st9.then (st10.then (st11.then st12))); replace f := f.step c_1; replace f2 := f2.step c_1; replace f3 := f3.step c_1; replace f4 := f4.step c_1; refine q (Zt xσ11) H_12 _ rfl _ _ _ rfl f _ _ _ rfl f2 _ _ _ rfl f3 _ _ _ rfl f4 _ (fun Z3 H_13 hE2 hO2 x2 Y hY Y2 hY2 v he2 A n c hn9 f9 A2 n2 c2 hn10 f10 A3 n3 c3 hn11 f11 A4 n4 c4 hn12 f12 hY3 q => ?_); obtain ⟨xσ12, st13, fz2, fy, fy2⟩ := call2 hE2 hO2 xσ11 11 12 (fun _ h => h) hY hY2 hY3; replace f9 := f9.keep fz2; replace f10 := f10.keep fz2; replace f11 := f11.keep fz2 fy; replace f12 := f12.keep fz2 fy2; cases he2; cases hn9; cases hn10; cases hn11; cases hn12; refine ⟨_, _, _, _, _, _, _, _, _, _, _, _, _, _, _, _, rfl, ?_⟩; replace b9 := b9.step st13; refine ⟨b9.mayF rfl, NewH.mk fun H_14 e12 => ?_⟩; obtain ⟨st14, b9⟩ := b9.wf8 rfl e12; refine ⟨_, _, _, b9.cell0, b9.cell 1 rfl, b9.cell 2 rfl, ?_⟩; refine ⟨_, _, _, b9.cell 5 rfl, ?_⟩; apply net_Lay.ok; unfold net_Lay.W; refine NewH.mk fun H_15 e13 => ?_; obtain ⟨xσ13, st15, b11⟩ := BoxF.new xσ12 0 e13; refine ⟨_, _, _, b11.cell0, b11.cell 1 rfl, b11.cell 2 rfl, ?_⟩; refine ⟨_, b11.cell 1 rfl, ?_⟩; obtain ⟨q2, q⟩ := q; refine ⟨q2.1, Int.le_refl _, q2.w1, q2.w2, NewH.mk fun H_16 e14 => ?_⟩; obtain ⟨xσ14, st16, f13⟩ := SlO.made (O := (rdM (slL u64L))) xσ13 13 e14 (slL_zero _) q2.len; replace b11 := b11.step st16; refine ⟨b11.cell0, (b11.cell 1 rfl), (b11.cell 2 rfl), ?_⟩; refine NewH.mk fun H_17 e15 => ?_; obtain ⟨xσ15, st17, b12⟩ := BoxF.new xσ14 14 e15; refine ⟨_, _, _, b12.cell 3 rfl, ?_⟩; replace f13 := f13.step st17; replace f11 := f11.step (st14.then (st15.then (st16.then st17))); refine SlO.copyO f13 f11 rfl (rl_len _ _) rfl (fun H_18 xσ16 st18 f13_ => ?_); replace f13 := f13_; refine ⟨_, rfl, ?_⟩; refine ct rfl ?_; apply times_All_1.ok; unfold times_All_1.W; replace b2 := b2.step (st7.then (st9.then (st10.then (st11.then (st12.then (st13.then (st14.then (st15.then (st16.then (st17.then st18)))))))))); refine ⟨_, _, _, b2.cell0, ?_⟩; replace b3 := b3.step (st7.then (st9.then (st10.then (st11.then (st12.then (st13.then (st14.then (st15.then (st16.then (st17.then st18)))))))))); refine ⟨_, _, _, b3.cell0, ?_⟩; replace b4 := b4.step (st7.then (st9.then (st10.then (st11.then (st12.then (st13.then (st14.then (st15.then (st16.then (st17.then st18))))))))))
 refine ⟨_, _, _, b4.cell0, ?_⟩; replace b5 := b5.step (st7.then (st9.then (st10.then (st11.then (st12.then (st13.then (st14.then (st15.then (st16.then (st17.then st18)))))))))); refine ⟨_, _, _, b5.cell0, ?_⟩; have c_2 := st14.then (st15.then (st16.then (st17.then st18))); replace f9 := f9.step c_2; replace f10 := f10.step c_2; replace f11 := f11.step st18; replace f12 := f12.step c_2; replace b9 := b9.step (st15.then (st16.then (st17.then st18))); replace b12 := b12.step st18; have c_3 := st7.then (st9.then (st10.then (st11.then (st12.then (st13.then (st14.then (st15.then (st16.then (st17.then st18))))))))); replace f5 := f5.step c_3; replace f6 := f6.step c_3; replace f7 := f7.step c_3; replace f8 := f8.step c_3; refine q (Zt xσ16) (ren [14, 13, 9, 11, 12] xσ16) H_18 (ren_z _ _) _ _ rfl _ _ _ ((rl_len _ _).trans (copyL_len _ _).symm) (SlO.keep f13 (Fr.refl _ _) (Fr.wide (ren_y (js := [14, 13, 9, 11, 12]) (j := 13) (m := 2) (by decide) (by decide)) _)) _ _ rfl _ _ _ rfl f9 _ _ _ rfl f10 _ _ _ rfl (SlO.keep f11 (Fr.refl _ _) (Fr.wide (ren_y (js := [14, 13, 9, 11, 12]) (j := 11) (m := 4) (by decide) (by decide)) _)) _ _ _ rfl (SlO.keep f12 (Fr.refl _ _) (Fr.wide (ren_y (js := [14, 13, 9, 11, 12]) (j := 12) (m := 5) (by decide) (by decide)) _)) ⟨b9.blk, (ren_y (js := [14, 13, 9, 11, 12]) (j := 9) (m := 3) (by decide) (by decide)) _ b9.tag⟩ ⟨b12.blk, (ren_y (js := [14, 13, 9, 11, 12]) (j := 14) (m := 1) (by decide) (by decide)) _ b12.tag⟩ _ _ _ rfl f5 _ _ _ rfl f6 _ _ _ rfl f7 _ _ _ rfl f8 _ (fun Z4 xτ H_19 hT hO3 hd r A5 n6 c5 hn13 f14 r2 A6 n7 c6 hn14 f15 o v2 he3 A7 n8 c7 hn15 f16 b12 o2 v3 he4 A8 n9 c8 hn16 f17 A9 n10 c9 hn17 f18 A10 n11 c10 hn18 f19 A11 n12 c11 hn19 f20 b9 q => ?_); obtain ⟨xσ17, st19, fz3, fy3⟩ := callT hT hO3 hd [14, 13, 9, 11, 12]; replace f14 := f14.keep fz3; replace f15 := f15.keep fz3; replace f16 := SlO.keep f16 fz3 (Fr.wide (fy3 1 13 rfl) _); replace b12 := BoxF.mk b12.blk (fy3 0 14 rfl _ b12.tag); replace f17 := f17.keep fz3; replace f18 := f18.keep fz3; replace f19 := SlO.keep f19 fz3 (Fr.wide (fy3 3 11 rfl) _); replace f20 := SlO.keep f20 fz3 (Fr.wide (fy3 4 12 rfl) _); replace b9 := BoxF.mk b9.blk (fy3 2 9 rfl _ b9.tag); cases hn13; cases hn14; cases he3; cases hn15; cases he4; cases hn16; cases hn17; cases hn18; cases hn19; refine ⟨_, _, _, _, _, _, rfl, ?_⟩; refine q (Zt xσ17) H_19 _ _ _ rfl f15 _ (fun Z5 H_20 hE3 hO4 x3 Y3 hY4 A12 n13 c12 hn20 f21 q => ?_); obtain ⟨xσ18, st20, fz4, fy4⟩ := call1 hE3 hO4 xσ17 15 (fun _ h => h) hY4; replace f21 := f21.keep fz4 fy4; cases hn20; refine ⟨_, _, _, rfl, ?_⟩; replace b7 := b7.step (st10.then (st11.then (st12.then (st13.then (st14.then (st15.then (st16.then (st17.then (st18.then (st19.then st20)))))))))); refine ⟨b7.may 0 (show (0 : Nat) < 1 by decide), NewH.mk fun H_21 e16 => ?_⟩; obtain ⟨st21, b7⟩ := b7.wrote 0 (show (0 : Nat) < 1 by decide) e16; simp only [List.set_cons_zero, List.set_cons_succ] at b7; replace b8 := b8.step (st11.then (st12.then (st13.then (st14.then (st15.then (st16.then (st17.then (st18.then (st19.then (st20.then st21))))))))))
 refine ⟨b8.may 0 (show (0 : Nat) < 1 by decide), NewH.mk fun H_22 e17 => ?_⟩; obtain ⟨st22, b8⟩ := b8.wrote 0 (show (0 : Nat) < 1 by decide) e17; simp only [List.set_cons_zero, List.set_cons_succ] at b8; refine ⟨rfl, ?_⟩; replace b12 := b12.step (st20.then (st21.then st22)); refine ⟨_, _, _, b12.cell 3 rfl, ?_⟩; replace f19 := f19.step (st20.then (st21.then st22)); refine LoopI.ofQ q (fun t_ s_ hp_ => ∃ σ_, Stp [11, 16] xσ18 H_22 σ_ hp_ ∧ t_.1 = s_ ∧ t_.2.length = o2.Tapes.length ∧ SlO (rdM (slL u64L)) 37 (Zt σ_) (Yt σ_ 11) hp_ A10 c10 t_.2) (fun h k => h _ _ k) ⟨_, Stp.refl _ _ _, rfl, rfl, f19⟩ ?_; rintro t _ _ H_23 next nextQ ⟨xσ19, st23, rfl, hl, f19⟩ q hnext; (try dsimp only at q ⊢); have sl1 := st23; refine condI (fun q => ?_) (fun q => ?_) q
 · obtain ⟨h0, hi2, q⟩ := q; replace f16 := f16.step (st20.then (st21.then (st22.then st23))); obtain ⟨a, ha, hi⟩ := f16.addr h0 rfl hi2; refine ⟨a, ha, hi.1, hi.2, ?_⟩; obtain ⟨x4, hx, q⟩ := q; obtain ⟨A13, c13, hc, f22⟩ := f16.lds ha h0 hx; refine ⟨_, _, _, hc.val, ?_⟩; replace b9 := b9.step (st20.then (st21.then (st22.then st23))); refine ⟨_, _, _, b9.cell 5 rfl, ?_⟩; refine q (Zt xσ19) H_23 _ _ _ rfl f22 _ (fun Z6 H_24 hE4 hO5 x5 Y4 hY5 A14 n14 c14 hn21 f23 q => ?_); obtain ⟨xσ20, st24, fz5, fy5⟩ := call1 hE4 hO5 xσ19 16 (fun _ h => h) hY5; replace f23 := f23.keep fz5 fy5; cases hn21; refine ⟨_, _, _, rfl, ?_⟩; replace b9 := b9.step st24; refine ⟨(b9.cell 5 rfl), ?_⟩; obtain ⟨h02, hi4, q⟩ := q; replace f19 := f19.step st24; obtain ⟨a2, ha2, hi3⟩ := f19.addr h02 ((rfl : _ = _).trans hl.symm) hi4; refine ⟨a2, ha2, hi3.1, hi3.2, ?_⟩; obtain ⟨xσ21, st26, f23⟩ := SlO.freeze f23; replace f19 := f19.step st26; have w2 := fun v hr => SlO.set1 (v := v) (y := x5) f19 rfl ha2 h02 (lt_of_n ((rfl : _ = _).trans hl.symm) hi4) hr; refine ⟨(w2 _ (slL_rep rfl f23)).1, NewH.mk fun H_25 e18 => ?_⟩; obtain ⟨st25, f19⟩ := (w2 _ (slL_rep rfl f23)).2 H_25 e18; replace sl1 := sl1.trans (st24.then (st26.then st25)); exact hnext (IntKind.i64.wrap (t.1 + 1), (List.set t.2 (Int.toNat t.1) x5)) _ _ ⟨_, sl1, rfl, (set_back ((rfl : _ = _).trans hl.symm) (set_len ((rfl : _ = _).trans hl.symm)) hl), f19⟩ q
 replace b9 := b9.step (st20.then (st21.then (st22.then st23))); refine ⟨_, _, _, _, _, _, _, _, _, _, _, _, _, _, _, _, b9.cell0, b9.cell 1 rfl, b9.cell 2 rfl, b9.cell 3 rfl, b9.cell 4 rfl, b9.cell 5 rfl, b9.cell 6 rfl, b9.cell 7 rfl, ?_⟩; replace b10 := b10.step (st13.then (st14.then (st15.then (st16.then (st17.then (st18.then (st19.then (st20.then (st21.then (st22.then st23)))))))))); refine ⟨b10.mayF rfl, NewH.mk fun H_26 e19 => ?_⟩; obtain ⟨st27, b10⟩ := b10.wf8 rfl e19; refine ⟨_, _, _, _, _, _, _, _, _, _, _, _, _, _, _, _, b10.cell0, b10.cell 1 rfl, b10.cell 2 rfl, b10.cell 3 rfl, b10.cell 4 rfl, b10.cell 5 rfl, b10.cell 6 rfl, b10.cell 7 rfl, ?_⟩; refine ⟨_, _, _, _, _, _, _, _, _, _, _, _, _, _, _, _, rfl, ?_⟩; replace b := b.step (st11.then (st12.then (st13.then (st14.then (st15.then (st16.then (st17.then (st18.then (st19.then (st20.then (st21.then (st22.then (st23.then st27))))))))))))); refine ⟨b.mayF rfl, NewH.mk fun H_27 e20 => ?_⟩; obtain ⟨st28, b⟩ := b.wf8 rfl e20; replace b7 := b7.step (st22.then (st23.then (st27.then st28))); refine ⟨_, _, _, b7.cell0, ?_⟩; replace b8 := b8.step (st23.then (st27.then st28)); refine ⟨_, _, _, b8.cell0, ?_⟩; refine ⟨_, _, _, _, _, _, _, _, _, _, _, _, _, _, _, _, b.cell0, b.cell 1 rfl, b.cell 2 rfl, b.cell 3 rfl, b.cell 4 rfl, b.cell 5 rfl, b.cell 6 rfl, b.cell 7 rfl, ?_⟩; replace b6 := b6.step (st7.then (st9.then (st10.then (st11.then (st12.then (st13.then (st14.then (st15.then (st16.then (st17.then (st18.then (st19.then (st20.then (st21.then (st22.then (st23.then (st27.then st28))))))))))))))))); refine ⟨b6.mayF rfl, NewH.mk fun H_28 e21 => ?_⟩; obtain ⟨st29, b6⟩ := b6.wf8 rfl e21; refine ⟨_, _, _, _, _, _, _, _, _, _, _, _, _, _, _, _, b6.cell0, b6.cell 1 rfl, b6.cell 2 rfl, b6.cell 3 rfl, b6.cell 4 rfl, b6.cell 5 rfl, b6.cell 6 rfl, b6.cell 7 rfl, ?_⟩; replace f19 := f19.step (st27.then (st28.then st29)); obtain ⟨xσ22, st30, f19⟩ := SlO.freeze f19; replace f20 := f20.step (st20.then (st21.then (st22.then (st23.then (st27.then (st28.then (st29.then st30))))))); obtain ⟨xσ23, st31, f20⟩ := SlO.freeze f20; replace hs := hs.trans (st.then (st2.then (st3.then (st4.then (st5.then (st6.then (st7.then (st9.then (st10.then (st11.then (st12.then (st13.then (st14.then (st15.then (st16.then (st17.then (st18.then (st19.then (st20.then (st21.then (st22.then (st23.then (st27.then (st28.then (st29.then (st30.then st31)))))))))))))))))))))))))); have c_4 := st20.then (st21.then (st22.then (st23.then (st27.then (st28.then (st29.then (st30.then st31))))))); replace f14 := f14.step c_4; replace f21 := f21.step (st21.then (st22.then (st23.then (st27.then (st28.then (st29.then (st30.then st31))))))); replace f17 := f17.step c_4; replace f18 := f18.step c_4; replace f19 := f19.step st31; exact hk (Zt xσ23) _ (hs.ext hσ) (hs.old hσ) _ _ _ _ rfl f14 _ (Yt xσ23 15) (hs.fresh hσ) _ _ _ rfl f21 (⟨o2.Setup, o2.Corrupted, o2.Acts, t.2, o2.Round, o2.Sent⟩ : TWorld) _ rfl _ _ _ rfl f17 _ _ _ rfl f18 _ _ _ ((rfl : _ = _).trans hl.symm) f19 _ _ _ rfl f20 _ q
end Go.Proofs.Ytajdpkinlnaidaa.Sh
end
section
set_option linter.unusedVariables false
set_option linter.unusedSimpArgs false
set_option maxRecDepth 100000
set_option maxHeartbeats 8000000
namespace Go.Proofs.Ytajdpkinlnaidaa.Sh
open Go.Sx
def juntoref22_Error.A : Ann where
 loops := fun i => match i with
   | _ => []
 plans := fun i => match i with
   | 4 => .first 1 (.first 2 (.first 3 (.first 6 (.first 7 (.first 9 (.first 10 (.first 11 (.read 0 (.read 4 (.first 5 (.read 8 (.alt 12 [8] (.alt 13 [0, 4] (.first 14 (.done)) (.stop)) (.stop)))))))))))))
   | _ => .stop
def juntoref22_Error.W (w_0 : Int) (w_1 : Int) (w_2 : Int) (w_3A : Option Addr) (w_3n w_3c : Nat) (w_4A : Option Addr) (w_4n w_4c : Nat) (w_5A : Option Addr) (w_5n w_5c : Nat) (w_6 : Int) (w_7A : Option Addr) (w_7n w_7c : Nat) (holdersA : Option Addr) (holdersn holdersc : Nat) (xsA : Option Addr) (xsn xsc : Nat) (ysA : Option Addr) (ysn ysc : Nat) (masksA : Option Addr) (masksn masksc : Nat) (H : Heap) (R : Value → Heap → Prop) : Prop :=
 NewH (H.push (.cells #[.int .u64 w_0, .int .i64 w_1, .int .i64 w_2, .slice w_3A w_3n w_3c, .slice w_4A w_4n w_4c, .slice w_5A w_5n w_5c, .int .i64 w_6, .slice w_7A w_7n w_7c] 30 (0, 0))) fun H_ =>
 ∃ x0 : Int, ∃ x1 : Int, ∃ x2 : Int, ∃ (x3A : Option Addr) (x3n x3c : Nat), ∃ (x4A : Option Addr) (x4n x4c : Nat), ∃ (x5A : Option Addr) (x5n x5c : Nat), ∃ x6 : Int, ∃ (x7A : Option Addr) (x7n x7c : Nat), cellH H_ (Addr.mk H.size 0 none) = some (.int .u64 x0) ∧ cellH H_ (((Addr.mk H.size 0 none)).add 1) = some (.int .i64 x1) ∧ cellH H_ (((Addr.mk H.size 0 none)).add 2) = some (.int .i64 x2) ∧ cellH H_ (((Addr.mk H.size 0 none)).add 3) = some (.slice x3A x3n x3c) ∧ cellH H_ (((Addr.mk H.size 0 none)).add 4) = some (.slice x4A x4n x4c) ∧ cellH H_ (((Addr.mk H.size 0 none)).add 5) = some (.slice x5A x5n x5c) ∧ cellH H_ (((Addr.mk H.size 0 none)).add 6) = some (.int .i64 x6) ∧ cellH H_ (((Addr.mk H.size 0 none)).add 7) = some (.slice x7A x7n x7c) ∧ NewH (H_.push (.cells #[.slice xsA xsn xsc, .slice ysA ysn ysc] 27 (0, 0))) fun H_2 =>
 CallH P N.juntoref22_Lists [.agg #[.int .u64 x0, .int .i64 x1, .int .i64 x2, .slice x3A x3n x3c, .slice x4A x4n x4c, .slice x5A x5n x5c, .int .i64 x6, .slice x7A x7n x7c], .slice holdersA holdersn holdersc, .slice masksA masksn masksc, .slice (some (Addr.mk H_.size 0 none)) 2 2] H_2 fun v H_3 =>
 ∃ r : Int, v = .int .i64 r ∧ cond (r != 0) (R (.int .i64 r) H_3)
  (∃ x02 : Int, ∃ x12 : Int, ∃ x22 : Int, ∃ (x3A2 : Option Addr) (x3n2 x3c2 : Nat), ∃ (x4A2 : Option Addr) (x4n2 x4c2 : Nat), ∃ (x5A2 : Option Addr) (x5n2 x5c2 : Nat), ∃ x62 : Int, ∃ (x7A2 : Option Addr) (x7n2 x7c2 : Nat), cellH H_3 (Addr.mk H.size 0 none) = some (.int .u64 x02) ∧ cellH H_3 (((Addr.mk H.size 0 none)).add 1) = some (.int .i64 x12) ∧ cellH H_3 (((Addr.mk H.size 0 none)).add 2) = some (.int .i64 x22) ∧ cellH H_3 (((Addr.mk H.size 0 none)).add 3) = some (.slice x3A2 x3n2 x3c2) ∧ cellH H_3 (((Addr.mk H.size 0 none)).add 4) = some (.slice x4A2 x4n2 x4c2) ∧ cellH H_3 (((Addr.mk H.size 0 none)).add 5) = some (.slice x5A2 x5n2 x5c2) ∧ cellH H_3 (((Addr.mk H.size 0 none)).add 6) = some (.int .i64 x62) ∧ cellH H_3 (((Addr.mk H.size 0 none)).add 7) = some (.slice x7A2 x7n2 x7c2) ∧ ∃ x : Int, cellH H_3 (((Addr.mk H.size 0 none)).add 2) = some (.int .i64 x) ∧ ∃ x3 : Int, cellH H_3 (Addr.mk H.size 0 none) = some (.int .u64 x3) ∧ CallH P N.juntoref22_Masked [.int .u64 x3, .slice xsA xsn xsc, .slice ysA ysn ysc, .slice masksA masksn masksc] H_3 fun v2 H_4 =>
 ∃ (rA : Option Addr) (rn rc : Nat), v2 = .slice rA rn rc ∧ cellH H_4 (((Addr.mk H.size 0 none)).add 2) = some (.int .i64 x) ∧ cellH H_4 (Addr.mk H.size 0 none) = some (.int .u64 x02) ∧ cellH H_4 (((Addr.mk H.size 0 none)).add 1) = some (.int .i64 x12) ∧ cellH H_4 (((Addr.mk H.size 0 none)).add 2) = some (.int .i64 x22) ∧ cellH H_4 (((Addr.mk H.size 0 none)).add 3) = some (.slice x3A2 x3n2 x3c2) ∧ cellH H_4 (((Addr.mk H.size 0 none)).add 4) = some (.slice x4A2 x4n2 x4c2) ∧ cellH H_4 (((Addr.mk H.size 0 none)).add 5) = some (.slice x5A2 x5n2 x5c2) ∧ cellH H_4 (((Addr.mk H.size 0 none)).add 6) = some (.int .i64 x62) ∧ cellH H_4 (((Addr.mk H.size 0 none)).add 7) = some (.slice x7A2 x7n2 x7c2) ∧ CallH P N.juntoref20_Error [.agg #[.int .u64 x02, .int .i64 x12, .int .i64 x22, .slice x3A2 x3n2 x3c2, .slice x4A2 x4n2 x4c2, .slice x5A2 x5n2 x5c2, .int .i64 x62, .slice x7A2 x7n2 x7c2], .slice holdersA holdersn holdersc, .int .i64 (IntKind.i64.wrap (2 * x)), .slice rA rn rc] H_4 fun v3 H_5 =>
 ∃ r2 : Int, v3 = .int .i64 r2 ∧ R (.int .i64 r2) H_5)
theorem juntoref22_Error.ok (w_0 : Int) (w_1 : Int) (w_2 : Int) (w_3A : Option Addr) (w_3n w_3c : Nat) (w_4A : Option Addr) (w_4n w_4c : Nat) (w_5A : Option Addr) (w_5n w_5c : Nat) (w_6 : Int) (w_7A : Option Addr) (w_7n w_7c : Nat) (holdersA : Option Addr) (holdersn holdersc : Nat) (xsA : Option Addr) (xsn xsc : Nat) (ysA : Option Addr) (ysn ysc : Nat) (masksA : Option Addr) (masksn masksc : Nat) (H : Heap) (R : Value → Heap → Prop) (h : juntoref22_Error.W w_0 w_1 w_2 w_3A w_3n w_3c w_4A w_4n w_4c w_5A w_5n w_5c w_6 w_7A w_7n w_7c holdersA holdersn holdersc xsA xsn xsc ysA ysn ysc masksA masksn masksc H R) : CallH P N.juntoref22_Error [.agg #[.int .u64 w_0, .int .i64 w_1, .int .i64 w_2, .slice w_3A w_3n w_3c, .slice w_4A w_4n w_4c, .slice w_5A w_5n w_5c, .int .i64 w_6, .slice w_7A w_7n w_7c], .slice holdersA holdersn holdersc, .slice xsA xsn xsc, .slice ysA ysn ysc, .slice masksA masksn masksc] H R :=
 okW Try.func13 (by kernel_rfl) Try.ntmps13 juntoref22_Error.A (by kernel_rfl) (by kernel_rfl) h
def juntoref22_Lists.A : Ann where
 loops := fun i => match i with
   | 36877 => [(38, .int .i64)]
   | 77857 => [(55, .int .i64)]
   | 94234 => [(15, .slice), (60, .int .i64)]
   | 114720 => [(86, .int .i64)]
   | _ => []
 plans := fun i => match i with
   | 27 => .first 0 (.first 1 (.first 2 (.first 3 (.first 4 (.first 6 (.first 7 (.first 8 (.first 9 (.first 14 (.read 5 (.read 10 (.alt 11 [5, 10] (.alt 12 [] (.first 13 (.done)) (.stop)) (.stop)))))))))))))
   | _ => .stop
def juntoref22_Lists.W (w_0 : Int) (w_1 : Int) (w_2 : Int) (w_3A : Option Addr) (w_3n w_3c : Nat) (w_4A : Option Addr) (w_4n w_4c : Nat) (w_5A : Option Addr) (w_5n w_5c : Nat) (w_6 : Int) (w_7A : Option Addr) (w_7n w_7c : Nat) (holdersA : Option Addr) (holdersn holdersc : Nat) (masksA : Option Addr) (masksn masksc : Nat) (listsA : Option Addr) (listsn listsc : Nat) (H : Heap) (R : Value → Heap → Prop) : Prop :=
 NewH (H.push (.cells #[.int .u64 w_0, .int .i64 w_1, .int .i64 w_2, .slice w_3A w_3n w_3c, .slice w_4A w_4n w_4c, .slice w_5A w_5n w_5c, .int .i64 w_6, .slice w_7A w_7n w_7c] 30 (0, 0))) fun H_ =>
 ∃ x0 : Int, ∃ x1 : Int, ∃ x2 : Int, ∃ (x3A : Option Addr) (x3n x3c : Nat), ∃ (x4A : Option Addr) (x4n x4c : Nat), ∃ (x5A : Option Addr) (x5n x5c : Nat), ∃ x6 : Int, ∃ (x7A : Option Addr) (x7n x7c : Nat), cellH H_ (Addr.mk H.size 0 none) = some (.int .u64 x0) ∧ cellH H_ (((Addr.mk H.size 0 none)).add 1) = some (.int .i64 x1) ∧ cellH H_ (((Addr.mk H.size 0 none)).add 2) = some (.int .i64 x2) ∧ cellH H_ (((Addr.mk H.size 0 none)).add 3) = some (.slice x3A x3n x3c) ∧ cellH H_ (((Addr.mk H.size 0 none)).add 4) = some (.slice x4A x4n x4c) ∧ cellH H_ (((Addr.mk H.size 0 none)).add 5) = some (.slice x5A x5n x5c) ∧ cellH H_ (((Addr.mk H.size 0 none)).add 6) = some (.int .i64 x6) ∧ cellH H_ (((Addr.mk H.size 0 none)).add 7) = some (.slice x7A x7n x7c) ∧ CallH P N.juntoref17_Check [.agg #[.int .u64 x0, .int .i64 x1, .int .i64 x2, .slice x3A x3n x3c, .slice x4A x4n x4c, .slice x5A x5n x5c, .int .i64 x6, .slice x7A x7n x7c]] H_ fun v H_2 =>
 ∃ r : Int, v = .int .i64 r ∧ cond (r != 0) (R (.int .i64 r) H_2)
  (∃ x02 : Int, ∃ x12 : Int, ∃ x22 : Int, cellH H_2 (Addr.mk H.size 0 none) = some (.int .u64 x02) ∧ cellH H_2 (((Addr.mk H.size 0 none)).add 1) = some (.int .i64 x12) ∧ cellH H_2 (((Addr.mk H.size 0 none)).add 2) = some (.int .i64 x22) ∧ CallH P N.juntoref17_Group [.agg #[.int .u64 x02, .int .i64 x12, .int .i64 x22], .slice holdersA holdersn holdersc] H_2 fun v2 H_3 =>
 ∃ r2 : Int, v2 = .int .i64 r2 ∧ cond (r2 != 0) (R (.int .i64 r2) H_3)
  (∃ a : Addr, listsA = some a ∧ 0 ≤ (0 : Int) ∧ (0 : Int) < ((listsn : Nat) : Int) ∧ ∃ (xA : Option Addr) (xn xc : Nat), cellH H_3 (a.add 0) = some (.slice xA xn xc) ∧ LoopI (σ := Int) (fun κ => κ 0 H_3) fun s z H_4 next =>
 cond (decide (s < ((listsn : Nat) : Int))) (∃ a2 : Addr, listsA = some a2 ∧ 0 ≤ s ∧ s < ((listsn : Nat) : Int) ∧ ∃ (xA2 : Option Addr) (xn2 xc2 : Nat), cellH H_4 (a2.add (Int.toNat s)) = some (.slice xA2 xn2 xc2) ∧ cond (((xn2 : Nat) : Int) != ((xn : Nat) : Int)) (R (.int .i64 2) H_4)
  (next (IntKind.i64.wrap (s + 1)) H_4))
  (cond (((masksn : Nat) : Int) != ((xn : Nat) : Int)) (R (.int .i64 2) H_4)
  (cond (decide (((xn : Nat) : Int) > 65536)) (R (.int .i64 3) H_4)
  (LoopI (σ := Int) (fun κ => κ 0 H_4) fun s2 z2 H_5 next2 =>
 cond (decide (s2 < ((masksn : Nat) : Int))) (LoopI (σ := (Option Addr × Nat × Nat) × Int) (fun κ => κ ((none, 0, 0), 0) H_5) fun s3 z3 H_6 next3 =>
 cond (decide (s3.2 < ((listsn : Nat) : Int))) (∃ a3 : Addr, listsA = some a3 ∧ 0 ≤ s3.2 ∧ s3.2 < ((listsn : Nat) : Int) ∧ ∃ (xA3 : Option Addr) (xn3 xc3 : Nat), cellH H_6 (a3.add (Int.toNat s3.2)) = some (.slice xA3 xn3 xc3) ∧ ∃ a4 : Addr, xA3 = some a4 ∧ 0 ≤ s2 ∧ s2 < ((xn3 : Nat) : Int) ∧ ∃ (xA4 : Option Addr) (xn4 xc4 : Nat), cellH H_6 (a4.add (Int.toNat s2)) = some (.slice xA4 xn4 xc4) ∧ NewH (H_6.push (.cells #[.slice xA4 xn4 xc4] 37 (0, 0))) fun H_7 =>
 AppendV 37 1 24 [.slice none 0 0] H_7 s3.1.1 s3.1.2.1 s3.1.2.2 (some (Addr.mk H_6.size 0 none)) 1 fun vA vn vc H_8 =>
 next3 ((vA, vn, vc), IntKind.i64.wrap (s3.2 + 1)) H_8)
  (∃ a5 : Addr, masksA = some a5 ∧ 0 ≤ s2 ∧ s2 < ((masksn : Nat) : Int) ∧ ∃ a6 : Addr, masksA = some a6 ∧ 0 ≤ s2 ∧ s2 < ((masksn : Nat) : Int) ∧ ∃ (xA5 : Option Addr) (xn5 xc5 : Nat), cellH H_6 (a5.add ((Int.toNat s2) * 2)) = some (.slice xA5 xn5 xc5) ∧ ∃ (xA6 : Option Addr) (xn6 xc6 : Nat), cellH H_6 ((a6.add ((Int.toNat s2) * 2)).add 1) = some (.slice xA6 xn6 xc6) ∧ NewH (H_6.push (.cells #[.slice xA5 xn5 xc5, .slice xA6 xn6 xc6] 37 (0, 0))) fun H_9 =>
 AppendV 37 1 24 [.slice none 0 0] H_9 s3.1.1 s3.1.2.1 s3.1.2.2 (some (Addr.mk H_6.size 0 none)) 2 fun vA2 vn2 vc2 H_10 =>
 LoopI (σ := Int) (fun κ => κ 0 H_10) fun s4 z4 H_11 next4 =>
 cond (decide (s4 < ((vn2 : Nat) : Int))) (∃ a7 : Addr, vA2 = some a7 ∧ 0 ≤ s4 ∧ s4 < ((vn2 : Nat) : Int) ∧ ∃ (xA7 : Option Addr) (xn7 xc7 : Nat), cellH H_11 (a7.add (Int.toNat s4)) = some (.slice xA7 xn7 xc7) ∧ cond (((xn7 : Nat) : Int) != ((holdersn : Nat) : Int)) (R (.int .i64 2) H_11) (∃ x : Int, cellH H_11 (Addr.mk H.size 0 none) = some (.int .u64 x) ∧ CallH P N.juntoref01_Within [.int .u64 x, .slice xA7 xn7 xc7] H_11 fun v5 H_12 =>
 ∃ r3 : Int, v5 = .int .i64 r3 ∧ cond (r3 != 0) (R (.int .i64 2) H_12)
  (next4 (IntKind.i64.wrap (s4 + 1)) H_12)))
  (next2 (IntKind.i64.wrap (s2 + 1)) H_11)))
  (R (.int .i64 0) H_5))))))
theorem juntoref22_Lists.ok (w_0 : Int) (w_1 : Int) (w_2 : Int) (w_3A : Option Addr) (w_3n w_3c : Nat) (w_4A : Option Addr) (w_4n w_4c : Nat) (w_5A : Option Addr) (w_5n w_5c : Nat) (w_6 : Int) (w_7A : Option Addr) (w_7n w_7c : Nat) (holdersA : Option Addr) (holdersn holdersc : Nat) (masksA : Option Addr) (masksn masksc : Nat) (listsA : Option Addr) (listsn listsc : Nat) (H : Heap) (R : Value → Heap → Prop) (h : juntoref22_Lists.W w_0 w_1 w_2 w_3A w_3n w_3c w_4A w_4n w_4c w_5A w_5n w_5c w_6 w_7A w_7n w_7c holdersA holdersn holdersc masksA masksn masksc listsA listsn listsc H R) : CallH P N.juntoref22_Lists [.agg #[.int .u64 w_0, .int .i64 w_1, .int .i64 w_2, .slice w_3A w_3n w_3c, .slice w_4A w_4n w_4c, .slice w_5A w_5n w_5c, .int .i64 w_6, .slice w_7A w_7n w_7c], .slice holdersA holdersn holdersc, .slice masksA masksn masksc, .slice listsA listsn listsc] H R :=
 okW Try.func33 (by kernel_rfl) Try.ntmps33 juntoref22_Lists.A (by kernel_rfl) (by kernel_rfl) h
def juntoref22_Masked.A : Ann where
 loops := fun i => match i with
   | 12300 => [(9, .slice), (15, .int .i64)]
   | 28682 => [(11, .slice), (23, .int .i64)]
   | _ => []
 plans := fun i => match i with
   | 9 => .first 0 (.first 1 (.first 2 (.first 3 (.first 4 (.first 5 (.first 7 (.first 10 (.first 11 (.first 12 (.first 14 (.first 18 (.first 19 (.first 20 (.first 21 (.first 23 (.read 6 (.first 8 (.read 9 (.read 13 (.first 15 (.read 16 (.read 22 (.first 24 (.read 25 (.alt 17 [6, 9, 13, 16] (.alt 26 [22, 25] (.alt 27 [] (.alt 28 [] (.first 29 (.done)) (.stop)) (.stop)) (.stop)) (.stop))))))))))))))))))))))))))
   | _ => .stop
def juntoref22_Masked.W (p : Int) (xsA : Option Addr) (xsn xsc : Nat) (ysA : Option Addr) (ysn ysc : Nat) (masksA : Option Addr) (masksn masksc : Nat) (H : Heap) (R : Value → Heap → Prop) : Prop :=
 LoopI (σ := (Option Addr × Nat × Nat) × Int) (fun κ => κ ((none, 0, 0), 0) H) fun s z H_ next =>
 cond (decide (s.2 < ((masksn : Nat) : Int))) (∃ a : Addr, xsA = some a ∧ 0 ≤ s.2 ∧ s.2 < ((xsn : Nat) : Int) ∧ ∃ (xA : Option Addr) (xn xc : Nat), cellH H_ (a.add (Int.toNat s.2)) = some (.slice xA xn xc) ∧ LoopI (σ := (Option Addr × Nat × Nat) × Int) (fun κ => κ ((none, 0, 0), 0) H_) fun s2 z2 H_2 next2 =>
 cond (decide (s2.2 < ((xn : Nat) : Int))) (∃ a2 : Addr, xsA = some a2 ∧ 0 ≤ s.2 ∧ s.2 < ((xsn : Nat) : Int) ∧ ∃ a3 : Addr, ysA = some a3 ∧ 0 ≤ s.2 ∧ s.2 < ((ysn : Nat) : Int) ∧ ∃ a4 : Addr, masksA = some a4 ∧ 0 ≤ s.2 ∧ s.2 < ((masksn : Nat) : Int) ∧ ∃ (xA2 : Option Addr) (xn2 xc2 : Nat), cellH H_2 (a2.add (Int.toNat s.2)) = some (.slice xA2 xn2 xc2) ∧ ∃ a5 : Addr, xA2 = some a5 ∧ 0 ≤ s2.2 ∧ s2.2 < ((xn2 : Nat) : Int) ∧ ∃ x : Int, cellH H_2 (a5.add (Int.toNat s2.2)) = some (.int .u64 x) ∧ ∃ (xA3 : Option Addr) (xn3 xc3 : Nat), cellH H_2 (a3.add (Int.toNat s.2)) = some (.slice xA3 xn3 xc3) ∧ ∃ a6 : Addr, xA3 = some a6 ∧ 0 ≤ s2.2 ∧ s2.2 < ((xn3 : Nat) : Int) ∧ ∃ x2 : Int, cellH H_2 (a6.add (Int.toNat s2.2)) = some (.int .u64 x2) ∧ ∃ (xA4 : Option Addr) (xn4 xc4 : Nat), cellH H_2 ((a4.add ((Int.toNat s.2) * 2)).add 1) = some (.slice xA4 xn4 xc4) ∧ ∃ a7 : Addr, xA4 = some a7 ∧ 0 ≤ s2.2 ∧ s2.2 < ((xn4 : Nat) : Int) ∧ ∃ x3 : Int, cellH H_2 (a7.add (Int.toNat s2.2)) = some (.int .u64 x3) ∧ CallH P N.juntoref01_Mul [.int .u64 p, .int .u64 x, .int .u64 x2] H_2 fun v H_3 =>
 ∃ r : Int, v = .int .u64 r ∧ cellH H_3 (a7.add (Int.toNat s2.2)) = some (.int .u64 x3) ∧ cellH H_3 ((a4.add ((Int.toNat s.2) * 2)).add 1) = some (.slice xA4 xn4 xc4) ∧ CallH P N.juntoref01_Add [.int .u64 p, .int .u64 r, .int .u64 x3] H_3 fun v2 H_4 =>
 ∃ r2 : Int, v2 = .int .u64 r2 ∧ NewH (H_4.push (.cells #[.int .u64 r2] 22 (0, 0))) fun H_5 =>
 AppendV 22 1 8 [.int .u64 0] H_5 s2.1.1 s2.1.2.1 s2.1.2.2 (some (Addr.mk H_4.size 0 none)) 1 fun vA vn vc H_6 =>
 next2 ((vA, vn, vc), IntKind.i64.wrap (s2.2 + 1)) H_6)
  (NewH (H_2.push (.cells #[.slice none 0 0, .slice s2.1.1 s2.1.2.1 s2.1.2.2] 39 (0, 0))) fun H_7 =>
 AppendV 39 2 48 [.slice none 0 0, .slice none 0 0] H_7 s.1.1 s.1.2.1 s.1.2.2 (some (Addr.mk H_2.size 0 none)) 1 fun vA2 vn2 vc2 H_8 =>
 next ((vA2, vn2, vc2), IntKind.i64.wrap (s.2 + 1)) H_8))
  (R (.slice s.1.1 s.1.2.1 s.1.2.2) H_)
theorem juntoref22_Masked.ok (p : Int) (xsA : Option Addr) (xsn xsc : Nat) (ysA : Option Addr) (ysn ysc : Nat) (masksA : Option Addr) (masksn masksc : Nat) (H : Heap) (R : Value → Heap → Prop) (h : juntoref22_Masked.W p xsA xsn xsc ysA ysn ysc masksA masksn masksc H R) : CallH P N.juntoref22_Masked [.int .u64 p, .slice xsA xsn xsc, .slice ysA ysn ysc, .slice masksA masksn masksc] H R :=
 okW Try.func35 (by kernel_rfl) Try.ntmps35 juntoref22_Masked.A (by kernel_rfl) (by kernel_rfl) h
end Go.Proofs.Ytajdpkinlnaidaa.Sh
namespace Go.Proofs.Ytajdpkinlnaidaa.Sh
open Go.Sx Go.Lf
def juntoref22_Lists.C (w : TWorld) (holders : (List Int)) (masks : (List TMask)) (lists : (List (List (List Nat)))) (K : Int → Prop) : Prop :=
 ∀ (Z : Nat → Prop) (H : Heap), ∀ (wv : Int), wv = (w.Setup.P : Int) → ∀ (wA : Option Addr) (wn wc : Nat), wn = w.Corrupted.length → SlF i64L Z H wA wc w.Corrupted → ∀ (wA2 : Option Addr) (wn2 wc2 : Nat), wn2 = w.Acts.length → SlF TAct.L Z H wA2 wc2 w.Acts → ∀ (wA3 : Option Addr) (wn3 wc3 : Nat), wn3 = w.Tapes.length → SlF (slL u64L) Z H wA3 wc3 w.Tapes → ∀ (wA4 : Option Addr) (wn4 wc4 : Nat), wn4 = w.Sent.length → SlF TSent.L Z H wA4 wc4 w.Sent → ∀ (holdersA : Option Addr) (holdersn holdersc : Nat), holdersn = holders.length → SlF i64L Z H holdersA holdersc holders → ∀ (masksA : Option Addr) (masksn masksc : Nat), masksn = masks.length → SlF TMask.L Z H masksA masksc masks → ∀ (listsA : Option Addr) (listsn listsc : Nat), listsn = lists.length → SlF (slL (slL u64L)) Z H listsA listsc lists → ∀ KK : Value → Heap → Prop,
   (∀ (Z' : Nat → Prop) (H' : Heap), Ext H H' → Old Z H Z' → ∀ (r0 : Int), K r0 → KK (.int .i64 r0) H') →
   CallH P N.juntoref22_Lists [.agg #[.int .u64 wv, .int .i64 w.Setup.N, .int .i64 w.Setup.T_, .slice wA wn wc, .slice wA2 wn2 wc2, .slice wA3 wn3 wc3, .int .i64 w.Round, .slice wA4 wn4 wc4], .slice holdersA holdersn holdersc, .slice masksA masksn masksc, .slice listsA listsn listsc] H KK
def juntoref22_Lists.Q (w : TWorld) (holders : (List Int)) (masks : (List TMask)) (lists : (List (List (List Nat)))) (K : Int → Prop) : Prop :=
 juntoref17_Check.C w (fun (x : Int) =>
 cond (x != 0) (K x)
  (juntoref17_Group.C w.Setup holders (fun (x2 : Int) =>
 cond (x2 != 0) (K x2)
  (0 ≤ (0 : Int) ∧ ∃ x3 : (List (List Nat)), lists[0]? = some x3 ∧ LoopQ (τ := Int) 0 fun t nextQ =>
 cond (decide (t < ((lists.length : Nat) : Int))) (0 ≤ t ∧ ∃ x4 : (List (List Nat)), lists[Int.toNat t]? = some x4 ∧ cond (((x4.length : Nat) : Int) != ((x3.length : Nat) : Int)) (K 2)
  (nextQ (IntKind.i64.wrap (t + 1))))
  (cond (((masks.length : Nat) : Int) != ((x3.length : Nat) : Int)) (K 2)
  (cond (decide (((x3.length : Nat) : Int) > 65536)) (K 3)
  (LoopQ (τ := Int) 0 fun t2 nextQ2 =>
 cond (decide (t2 < ((masks.length : Nat) : Int))) (LoopQ (τ := List (List Nat) × Int) (([] : List (List Nat)), 0) fun t3 nextQ3 =>
 cond (decide (t3.2 < ((lists.length : Nat) : Int))) (0 ≤ t3.2 ∧ ∃ x5 : (List (List Nat)), lists[Int.toNat t3.2]? = some x5 ∧ 0 ≤ t2 ∧ ∃ x6 : (List Nat), x5[Int.toNat t2]? = some x6 ∧ AppOk 24 (t3.1 ++ ([x6] : List (List Nat))).length ∧ nextQ3 ((t3.1 ++ ([x6] : List (List Nat))), IntKind.i64.wrap (t3.2 + 1)))
  (0 ≤ t2 ∧ ∃ x7 : TMask, masks[Int.toNat t2]? = some x7 ∧ 0 ≤ t2 ∧ ∃ x8 : TMask, masks[Int.toNat t2]? = some x8 ∧ AppOk 24 (t3.1 ++ ([x7.Low, x8.High] : List (List Nat))).length ∧ LoopQ (τ := Int) 0 fun t4 nextQ4 =>
 cond (decide (t4 < (((t3.1 ++ ([x7.Low, x8.High] : List (List Nat))).length : Nat) : Int))) (0 ≤ t4 ∧ t4 < (((t3.1 ++ ([x7.Low, x8.High] : List (List Nat))).length : Nat) : Int) ∧ ∃ x9 : (List Nat), (t3.1 ++ ([x7.Low, x8.High] : List (List Nat)))[Int.toNat t4]? = some x9 ∧ cond (((x9.length : Nat) : Int) != ((holders.length : Nat) : Int)) (K 2)
  (juntoref01_Within.C w.Setup.P x9 (fun (x10 : Int) =>
 cond (x10 != 0) (K 2)
  (nextQ4 (IntKind.i64.wrap (t4 + 1))))))
  (nextQ2 (IntKind.i64.wrap (t2 + 1)))))
  (K 0))))))))
theorem juntoref22_Lists.q {w : TWorld} {holders : (List Int)} {masks : (List TMask)} {lists : (List (List (List Nat)))} {K : Int → Prop} (q : juntoref22_Lists.Q w holders masks lists K) : juntoref22_Lists.C w holders masks lists K := by
 intro Z H wv he wA wn wc hn f wA2 wn2 wc2 hn2 f2 wA3 wn3 wc3 hn3 f3 wA4 wn4 wc4 hn4 f4 holdersA holdersn holdersc hn5 f5 masksA masksn masksc hn6 f6 listsA listsn listsc hn7 f7 KK hk; cases he; cases hn; cases hn2; cases hn3; cases hn4; cases hn5; cases hn6; cases hn7; apply juntoref22_Lists.ok; unfold juntoref22_Lists.W; unfold juntoref22_Lists.Q at q; obtain ⟨σ, hz, hσ⟩ := tags Z; have hs : Stp ([1, 2, 3] : List Nat) σ H σ H := Stp.refl _ _ _; replace f := f.wide hz; replace f2 := f2.wide hz; replace f3 := f3.wide hz; replace f4 := f4.wide hz; replace f5 := f5.wide hz; replace f6 := f6.wide hz; replace f7 := f7.wide hz; clear hz; refine NewH.mk fun H_ e => ?_; obtain ⟨xσ, st, b⟩ := BoxF.new σ 0 e; refine ⟨_, _, _, _, _, _, _, _, _, _, _, _, _, _, _, _, b.cell0, b.cell 1 rfl, b.cell 2 rfl, b.cell 3 rfl, b.cell 4 rfl, b.cell 5 rfl, b.cell 6 rfl, b.cell 7 rfl, ?_⟩; replace f := f.step st; replace f2 := f2.step st; replace f3 := f3.step st; replace f4 := f4.step st; refine q (Zt xσ) H_ _ rfl _ _ _ rfl f _ _ _ rfl f2 _ _ _ rfl f3 _ _ _ rfl f4 _ (fun Z2 H_2 hE hO x q => ?_); obtain ⟨xσ2, st2⟩ := call0 hE xσ; refine ⟨_, rfl, ?_⟩; refine condI (fun q => ?_) (fun q => ?_) q
 · replace hs := hs.trans (st.then st2); exact hk (Zt xσ2) _ (hs.ext hσ) (hs.old hσ) _ q
 replace b := b.step st2; refine ⟨_, _, _, b.cell0, b.cell 1 rfl, b.cell 2 rfl, ?_⟩; replace f5 := f5.step (st.then st2); refine q (Zt xσ2) H_2 _ rfl _ _ _ rfl f5 _ (fun Z3 H_3 hE2 hO2 x2 q => ?_); obtain ⟨xσ3, st3⟩ := call0 hE2 xσ2; refine ⟨_, rfl, ?_⟩; refine condI (fun q => ?_) (fun q => ?_) q
 · replace hs := hs.trans (st.then (st2.then st3)); exact hk (Zt xσ3) _ (hs.ext hσ) (hs.old hσ) _ q
 obtain ⟨h0, x3, hx, q⟩ := q; replace f7 := f7.step (st.then (st2.then st3)); obtain ⟨a, ha, hi⟩ := f7.addr h0 hx rfl; refine ⟨a, ha, hi.1, hi.2, ?_⟩; obtain ⟨A, c, hc, f8⟩ := f7.lds ha h0 hx; refine ⟨_, _, _, hc.val, ?_⟩; refine LoopI.ofQ q (fun t_ s_ hp_ => ∃ σ_, Stp [] xσ3 H_3 σ_ hp_ ∧ t_ = s_) (fun h k => h _ _ k) ⟨_, Stp.refl _ _ _, rfl⟩ ?_; rintro t _ _ H_4 next nextQ ⟨xσ4, st4, rfl⟩ q hnext; (try dsimp only at q ⊢); have sl0 := st4; refine condI (fun q => ?_) (fun q => ?_) q
 · obtain ⟨h02, x4, hx2, q⟩ := q; replace f7 := f7.step st4; obtain ⟨a2, ha2, hi2⟩ := f7.addr h02 hx2 rfl; refine ⟨a2, ha2, hi2.1, hi2.2, ?_⟩; obtain ⟨A2, c2, hc2, f9⟩ := f7.lds ha2 h02 hx2; refine ⟨_, _, _, hc2.val, ?_⟩; refine condI (fun q => ?_) (fun q => ?_) q
   · replace hs := hs.trans (st.then (st2.then (st3.then st4))); exact hk (Zt xσ4) _ (hs.ext hσ) (hs.old hσ) _ q
   exact hnext (IntKind.i64.wrap (t + 1)) _ _ ⟨_, sl0, rfl⟩ q
 refine condI (fun q => ?_) (fun q => ?_) q
 · replace hs := hs.trans (st.then (st2.then (st3.then st4))); exact hk (Zt xσ4) _ (hs.ext hσ) (hs.old hσ) _ q
 refine condI (fun q => ?_) (fun q => ?_) q
 · replace hs := hs.trans (st.then (st2.then (st3.then st4))); exact hk (Zt xσ4) _ (hs.ext hσ) (hs.old hσ) _ q
 refine LoopI.ofQ q (fun t_ s_ hp_ => ∃ σ_, Stp [1, 2, 3] xσ4 H_4 σ_ hp_ ∧ t_ = s_) (fun h k => h _ _ k) ⟨_, Stp.refl _ _ _, rfl⟩ ?_; rintro t2 _ _ H_5 next2 nextQ2 ⟨xσ5, st5, rfl⟩ q hnext2; (try dsimp only at q ⊢); have sl1 := st5; refine condJ (fun q => ?_) (fun q => ?_) q
 · replace hs := hs.trans (st.then (st2.then (st3.then (st4.then st5)))); exact hk (Zt xσ5) _ (hs.ext hσ) (hs.old hσ) _ q
 have f10 := SlO.nil (rdM (slL u64L)) 37 (Zt xσ5) (Yt xσ5 1) H_5; refine LoopI.ofQ q (fun t_ s_ hp_ => ∃ σ_ A0_ n0_ c0_, Stp [1, 2] xσ5 H_5 σ_ hp_ ∧ ((A0_, n0_, c0_), t_.2) = s_ ∧ n0_ = t_.1.length ∧ SlO (rdM (slL u64L)) 37 (Zt σ_) (Yt σ_ 1) hp_ A0_ c0_ t_.1) (fun h k => h _ _ k) ⟨_, _, _, _, Stp.refl _ _ _, rfl, rfl, f10⟩ ?_; rintro t3 _ _ H_6 next3 nextQ3 ⟨xσ6, A3, n, c3, st6, rfl, rfl, f11⟩ q hnext3; (try dsimp only at q ⊢); have sl2 := st6; refine condI (fun q => ?_) (fun q => ?_) q
 · obtain ⟨h03, x5, hx3, q⟩ := q; replace f7 := f7.step (st4.then (st5.then st6)); obtain ⟨a3, ha3, hi3⟩ := f7.addr h03 hx3 rfl; refine ⟨a3, ha3, hi3.1, hi3.2, ?_⟩; obtain ⟨A4, c4, hc3, f12⟩ := f7.lds ha3 h03 hx3; refine ⟨_, _, _, hc3.val, ?_⟩; obtain ⟨h04, x6, hx4, q⟩ := q; obtain ⟨a4, ha4, hi4⟩ := f12.addr h04 hx4 rfl; refine ⟨a4, ha4, hi4.1, hi4.2, ?_⟩; obtain ⟨A5, c5, hc4, f13⟩ := f12.lds ha4 h04 hx4; refine ⟨_, _, _, hc4.val, ?_⟩; refine NewH.mk fun H_7 e2 => ?_; obtain ⟨xσ7, st7, f14⟩ := SlO.lit (E := (slL u64L)) xσ6 2 (xs := [x6]) (l := [[_]]) e2 rfl (.cons (slL_rep rfl f13) .nil) (show (1 : Nat) ≤ 17592186044416 by decide); obtain ⟨xσ9, st9, f14⟩ := SlO.freeze f14; obtain ⟨q2, q⟩ := q; replace f11 := f11.step (st7.then st9); refine SlO.appF f11 f14 rfl rfl q2.l q2.r rfl rfl (fun A6 c6 H_8 xσ8 st8 f11_ => ?_); replace f11 := f11_; have f15 := f11; clear f11; replace sl2 := sl2.trans (st7.then (st9.then st8)); exact hnext3 ((t3.1 ++ ([x6] : List (List Nat))), IntKind.i64.wrap (t3.2 + 1)) _ _ ⟨_, _, _, _, sl2, rfl, rfl, f15⟩ q
 obtain ⟨h05, x7, hx5, q⟩ := q; replace f6 := f6.step (st.then (st2.then (st3.then (st4.then (st5.then st6))))); obtain ⟨a5, ha5, hi5⟩ := f6.addr h05 hx5 rfl; refine ⟨a5, ha5, hi5.1, hi5.2, ?_⟩; obtain ⟨h06, x8, hx6, q⟩ := q; obtain ⟨a6, ha6, hi6⟩ := f6.addr h06 hx6 rfl; refine ⟨a6, ha6, hi6.1, hi6.2, ?_⟩; obtain ⟨cs, hr, hc5⟩ := f6.ldN (k := 2) rfl ha5 h05 hx5; obtain ⟨A7, c7, A8, c8, rfl, f16, f17⟩ := hr; have hc6 := hc5 0 _ rfl; refine ⟨_, _, _, hc6.val, ?_⟩; obtain ⟨cs2, hr2, hc7⟩ := f6.ldN (k := 2) rfl ha6 h06 hx6; obtain ⟨A9, c9, A10, c10, rfl, f18, f19⟩ := hr2; have hc8 := hc7 1 _ rfl; refine ⟨_, _, _, hc8.val, ?_⟩; refine NewH.mk fun H_9 e3 => ?_; obtain ⟨xσ10, st10, f20⟩ := SlO.lit (E := (slL u64L)) xσ6 3 (xs := [x7.Low, x8.High]) (l := [[_], [_]]) e3 rfl (.cons (slL_rep rfl f16) (.cons (slL_rep rfl f19) .nil)) (show (2 : Nat) ≤ 17592186044416 by decide); obtain ⟨xσ12, st12, f20⟩ := SlO.freeze f20; obtain ⟨q3, q⟩ := q; replace f11 := f11.step (st10.then st12); refine SlO.appF f11 f20 rfl rfl q3.l q3.r rfl rfl (fun A11 c11 H_10 xσ11 st11 f11_ => ?_); replace f11 := f11_; have f21 := f11; clear f11; refine LoopI.ofQ q (fun t_ s_ hp_ => ∃ σ_, Stp [] xσ11 H_10 σ_ hp_ ∧ t_ = s_) (fun h k => h _ _ k) ⟨_, Stp.refl _ _ _, rfl⟩ ?_; rintro t4 _ _ H_11 next4 nextQ4 ⟨xσ13, st13, rfl⟩ q hnext4; (try dsimp only at q ⊢); have sl3 := st13; refine condJ (fun q => ?_) (fun q => ?_) q
 · replace sl1 := sl1.trans (st6.then (st10.then (st12.then (st11.then st13)))); exact hnext2 (IntKind.i64.wrap (t2 + 1)) _ _ ⟨_, sl1, rfl⟩ q
 obtain ⟨h07, hi8, q⟩ := q; replace f21 := f21.step st13; obtain ⟨a7, ha7, hi7⟩ := f21.addr h07 rfl hi8; refine ⟨a7, ha7, hi7.1, hi7.2, ?_⟩; obtain ⟨x9, hx7, q⟩ := q; obtain ⟨A12, c12, hc9, f22⟩ := f21.lds ha7 h07 hx7; refine ⟨_, _, _, hc9.val, ?_⟩; refine condI (fun q => ?_) (fun q => ?_) q
 · replace hs := hs.trans (st.then (st2.then (st3.then (st4.then (st5.then (st6.then (st10.then (st12.then (st11.then st13))))))))); exact hk (Zt xσ13) _ (hs.ext hσ) (hs.old hσ) _ q
 replace b := b.step (st3.then (st4.then (st5.then (st6.then (st10.then (st12.then (st11.then st13))))))); refine ⟨_, b.cell0, ?_⟩; refine q (Zt xσ13) H_11 _ rfl _ _ _ rfl f22 _ (fun Z4 H_12 hE3 hO3 x10 q => ?_); obtain ⟨xσ14, st14⟩ := call0 hE3 xσ13; refine ⟨_, rfl, ?_⟩; refine condI (fun q => ?_) (fun q => ?_) q
 · replace hs := hs.trans (st.then (st2.then (st3.then (st4.then (st5.then (st6.then (st10.then (st12.then (st11.then (st13.then st14)))))))))); exact hk (Zt xσ14) _ (hs.ext hσ) (hs.old hσ) _ q
 replace sl3 := sl3.trans st14; exact hnext4 (IntKind.i64.wrap (t4 + 1)) _ _ ⟨_, sl3, rfl⟩ q
def juntoref22_Masked.C (p : Nat) (xs : (List (List Nat))) (ys : (List (List Nat))) (masks : (List TMask)) (K : (List TSecret) → Prop) : Prop :=
 ∀ (Z : Nat → Prop) (H : Heap), ∀ (pv : Int), pv = (p : Int) → ∀ (xsA : Option Addr) (xsn xsc : Nat), xsn = xs.length → SlF (slL u64L) Z H xsA xsc xs → ∀ (ysA : Option Addr) (ysn ysc : Nat), ysn = ys.length → SlF (slL u64L) Z H ysA ysc ys → ∀ (masksA : Option Addr) (masksn masksc : Nat), masksn = masks.length → SlF TMask.L Z H masksA masksc masks → ∀ KK : Value → Heap → Prop,
   (∀ (Z' : Nat → Prop) (H' : Heap), Ext H H' → Old Z H Z' → ∀ (r0 : (List TSecret)), ∀ (Y0 : Nat → Prop), (∀ i, Y0 i → H.size ≤ i ∧ ¬ Z' i) → ∀ (Ar0_0 : Option Addr) (nr0_0 cr0_0 : Nat), nr0_0 = r0.length → SlO (rdM TSecret.L) 39 Z' Y0 H' Ar0_0 cr0_0 r0 → K r0 → KK (.slice Ar0_0 nr0_0 cr0_0) H') →
   CallH P N.juntoref22_Masked [.int .u64 pv, .slice xsA xsn xsc, .slice ysA ysn ysc, .slice masksA masksn masksc] H KK
def juntoref22_Masked.Q (p : Nat) (xs : (List (List Nat))) (ys : (List (List Nat))) (masks : (List TMask)) (K : (List TSecret) → Prop) : Prop :=
 LoopQ (τ := List TSecret × Int) (([] : List TSecret), 0) fun t nextQ =>
 cond (decide (t.2 < ((masks.length : Nat) : Int))) (0 ≤ t.2 ∧ ∃ x : (List Nat), xs[Int.toNat t.2]? = some x ∧ LoopQ (τ := List Nat × Int) (([] : List Nat), 0) fun t2 nextQ2 =>
 cond (decide (t2.2 < ((x.length : Nat) : Int))) (0 ≤ t.2 ∧ ∃ x2 : (List Nat), xs[Int.toNat t.2]? = some x2 ∧ 0 ≤ t.2 ∧ ∃ x3 : (List Nat), ys[Int.toNat t.2]? = some x3 ∧ 0 ≤ t.2 ∧ ∃ x4 : TMask, masks[Int.toNat t.2]? = some x4 ∧ 0 ≤ t2.2 ∧ ∃ x5 : Nat, x2[Int.toNat t2.2]? = some x5 ∧ 0 ≤ t2.2 ∧ ∃ x6 : Nat, x3[Int.toNat t2.2]? = some x6 ∧ 0 ≤ t2.2 ∧ ∃ x7 : Nat, x4.High[Int.toNat t2.2]? = some x7 ∧ juntoref01_Mul.C p x5 x6 (fun (x8 : Nat) =>
 juntoref01_Add.C p x8 x7 (fun (x9 : Nat) =>
 AppOk 8 (t2.1 ++ ([x9] : List Nat)).length ∧ nextQ2 ((t2.1 ++ ([x9] : List Nat)), IntKind.i64.wrap (t2.2 + 1)))))
  (AppOk 48 (t.1 ++ ([(⟨[], t2.1⟩ : TSecret)] : List TSecret)).length ∧ nextQ ((t.1 ++ ([(⟨[], t2.1⟩ : TSecret)] : List TSecret)), IntKind.i64.wrap (t.2 + 1))))
  (K t.1)
theorem juntoref22_Masked.q {p : Nat} {xs : (List (List Nat))} {ys : (List (List Nat))} {masks : (List TMask)} {K : (List TSecret) → Prop} (q : juntoref22_Masked.Q p xs ys masks K) : juntoref22_Masked.C p xs ys masks K := by
 intro Z H pv he xsA xsn xsc hn f ysA ysn ysc hn2 f2 masksA masksn masksc hn3 f3 KK hk; cases he; cases hn; cases hn2; cases hn3; apply juntoref22_Masked.ok; unfold juntoref22_Masked.W; unfold juntoref22_Masked.Q at q; obtain ⟨σ, hz, hσ⟩ := tags Z; have hs : Stp ([1, 2, 3, 4] : List Nat) σ H σ H := Stp.refl _ _ _; replace f := f.wide hz; replace f2 := f2.wide hz; replace f3 := f3.wide hz; clear hz; have f4 := SlO.nil (rdM TSecret.L) 39 (Zt σ) (Yt σ 1) H; refine LoopI.ofQ q (fun t_ s_ hp_ => ∃ σ_ A0_ n0_ c0_, Stp [1, 2, 3, 4] σ H σ_ hp_ ∧ ((A0_, n0_, c0_), t_.2) = s_ ∧ n0_ = t_.1.length ∧ SlO (rdM TSecret.L) 39 (Zt σ_) (Yt σ_ 1) hp_ A0_ c0_ t_.1) (fun h k => h _ _ k) ⟨_, _, _, _, Stp.refl _ _ _, rfl, rfl, f4⟩ ?_; rintro t _ _ H_ next nextQ ⟨xσ, A, n, c, st, rfl, rfl, f5⟩ q hnext; (try dsimp only at q ⊢); have sl0 := st; refine condJ (fun q => ?_) (fun q => ?_) q
 · replace hs := hs.trans st; exact hk (Zt xσ) _ (hs.ext hσ) (hs.old hσ) _ (Yt xσ 1) (hs.fresh hσ) _ _ _ rfl f5 q
 obtain ⟨h0, x, hx, q⟩ := q; replace f := f.step st; obtain ⟨a, ha, hi⟩ := f.addr h0 hx rfl; refine ⟨a, ha, hi.1, hi.2, ?_⟩; obtain ⟨A2, c2, hc, f6⟩ := f.lds ha h0 hx; refine ⟨_, _, _, hc.val, ?_⟩; have f7 := SlO.nil (rdM u64L) 22 (Zt xσ) (Yt xσ 2) H_; refine LoopI.ofQ q (fun t_ s_ hp_ => ∃ σ_ A0_ n0_ c0_, Stp [2, 3] xσ H_ σ_ hp_ ∧ ((A0_, n0_, c0_), t_.2) = s_ ∧ n0_ = t_.1.length ∧ SlO (rdM u64L) 22 (Zt σ_) (Yt σ_ 2) hp_ A0_ c0_ t_.1) (fun h k => h _ _ k) ⟨_, _, _, _, Stp.refl _ _ _, rfl, rfl, f7⟩ ?_; rintro t2 _ _ H_2 next2 nextQ2 ⟨xσ2, A3, n2, c3, st2, rfl, rfl, f8⟩ q hnext2; (try dsimp only at q ⊢); have sl1 := st2; refine condJ (fun q => ?_) (fun q => ?_) q
 · obtain ⟨xσ8, st8, f8⟩ := SlO.freeze f8; refine NewH.mk fun H_7 e2 => ?_; obtain ⟨xσ9, st9, f15⟩ := SlO.lit (E := TSecret.L) xσ8 4 (xs := [(⟨[], t2.1⟩ : TSecret)]) (l := [[_, _]]) e2 rfl (.cons (show (TSecret.L).rep _ _ (⟨[], t2.1⟩ : TSecret) _ from ⟨_, _, _, _, rfl, (SlF.nil _ _ _ _ _), f8⟩) .nil) (show (1 : Nat) ≤ 17592186044416 by decide); obtain ⟨xσ11, st11, f15⟩ := SlO.freeze f15; obtain ⟨q3, q⟩ := q; replace f5 := f5.step (st2.then (st8.then (st9.then st11))); refine SlO.appF f5 f15 rfl rfl q3.l q3.r rfl rfl (fun A9 c9 H_8 xσ10 st10 f5_ => ?_); replace f5 := f5_; have f16 := f5; clear f5; replace sl0 := sl0.trans (st2.then (st8.then (st9.then (st11.then st10)))); exact hnext ((t.1 ++ ([(⟨[], t2.1⟩ : TSecret)] : List TSecret)), IntKind.i64.wrap (t.2 + 1)) _ _ ⟨_, _, _, _, sl0, rfl, rfl, f16⟩ q
 obtain ⟨h02, x2, hx2, q⟩ := q; replace f := f.step st2; obtain ⟨a2, ha2, hi2⟩ := f.addr h02 hx2 rfl; refine ⟨a2, ha2, hi2.1, hi2.2, ?_⟩; obtain ⟨h03, x3, hx3, q⟩ := q; replace f2 := f2.step (st.then st2); obtain ⟨a3, ha3, hi3⟩ := f2.addr h03 hx3 rfl; refine ⟨a3, ha3, hi3.1, hi3.2, ?_⟩; obtain ⟨h04, x4, hx4, q⟩ := q; replace f3 := f3.step (st.then st2); obtain ⟨a4, ha4, hi4⟩ := f3.addr h04 hx4 rfl; refine ⟨a4, ha4, hi4.1, hi4.2, ?_⟩; obtain ⟨A4, c4, hc2, f9⟩ := f.lds ha2 h02 hx2; refine ⟨_, _, _, hc2.val, ?_⟩; obtain ⟨h05, x5, hx5, q⟩ := q; obtain ⟨a5, ha5, hi5⟩ := f9.addr h05 hx5 rfl; refine ⟨a5, ha5, hi5.1, hi5.2, ?_⟩; have hc3 := f9.ldu ha5 h05 hx5; refine ⟨_, hc3.val, ?_⟩; obtain ⟨A5, c5, hc4, f10⟩ := f2.lds ha3 h03 hx3; refine ⟨_, _, _, hc4.val, ?_⟩; obtain ⟨h06, x6, hx6, q⟩ := q; obtain ⟨a6, ha6, hi6⟩ := f10.addr h06 hx6 rfl; refine ⟨a6, ha6, hi6.1, hi6.2, ?_⟩; have hc5 := f10.ldu ha6 h06 hx6; refine ⟨_, hc5.val, ?_⟩; obtain ⟨cs, hr, hc6⟩ := f3.ldN (k := 2) rfl ha4 h04 hx4; obtain ⟨A6, c6, A7, c7, rfl, f11, f12⟩ := hr; have hc7 := hc6 1 _ rfl; refine ⟨_, _, _, hc7.val, ?_⟩; obtain ⟨h07, x7, hx7, q⟩ := q; obtain ⟨a7, ha7, hi7⟩ := f12.addr h07 hx7 rfl; refine ⟨a7, ha7, hi7.1, hi7.2, ?_⟩; have hc8 := f12.ldu ha7 h07 hx7; refine ⟨_, hc8.val, ?_⟩; refine q (Zt xσ2) H_2 _ rfl _ rfl _ rfl _ (fun Z2 H_3 hE hO x8 v he2 q => ?_); obtain ⟨xσ3, st3⟩ := call0 hE xσ2; cases he2; refine ⟨_, rfl, ?_⟩; replace hc8 := hc8.step st3; replace hc7 := hc7.step st3; refine ⟨hc8.val, hc7.val, ?_⟩; refine q (Zt xσ3) H_3 _ rfl _ rfl _ rfl _ (fun Z3 H_4 hE2 hO2 x9 v2 he3 q => ?_); obtain ⟨xσ4, st4⟩ := call0 hE2 xσ3; cases he3; refine ⟨_, rfl, ?_⟩; refine NewH.mk fun H_5 e => ?_; obtain ⟨xσ5, st5, f13⟩ := SlO.lit (E := u64L) xσ4 3 (xs := [x9]) (l := [[_]]) e rfl (.cons rfl .nil) (show (1 : Nat) ≤ 17592186044416 by decide); obtain ⟨xσ7, st7, f13⟩ := SlO.freeze f13; obtain ⟨q2, q⟩ := q; replace f8 := f8.step (st3.then (st4.then (st5.then st7))); refine SlO.appF f8 f13 rfl rfl q2.l q2.r rfl rfl (fun A8 c8 H_6 xσ6 st6 f8_ => ?_); replace f8 := f8_; have f14 := f8; clear f8; replace sl1 := sl1.trans (st3.then (st4.then (st5.then (st7.then st6)))); exact hnext2 ((t2.1 ++ ([x9] : List Nat)), IntKind.i64.wrap (t2.2 + 1)) _ _ ⟨_, _, _, _, sl1, rfl, rfl, f14⟩ q
def juntoref22_Error.C (w : TWorld) (holders : (List Int)) (xs : (List (List Nat))) (ys : (List (List Nat))) (masks : (List TMask)) (K : Int → Prop) : Prop :=
 ∀ (Z : Nat → Prop) (H : Heap), ∀ (wv : Int), wv = (w.Setup.P : Int) → ∀ (wA : Option Addr) (wn wc : Nat), wn = w.Corrupted.length → SlF i64L Z H wA wc w.Corrupted → ∀ (wA2 : Option Addr) (wn2 wc2 : Nat), wn2 = w.Acts.length → SlF TAct.L Z H wA2 wc2 w.Acts → ∀ (wA3 : Option Addr) (wn3 wc3 : Nat), wn3 = w.Tapes.length → SlF (slL u64L) Z H wA3 wc3 w.Tapes → ∀ (wA4 : Option Addr) (wn4 wc4 : Nat), wn4 = w.Sent.length → SlF TSent.L Z H wA4 wc4 w.Sent → ∀ (holdersA : Option Addr) (holdersn holdersc : Nat), holdersn = holders.length → SlF i64L Z H holdersA holdersc holders → ∀ (xsA : Option Addr) (xsn xsc : Nat), xsn = xs.length → SlF (slL u64L) Z H xsA xsc xs → ∀ (ysA : Option Addr) (ysn ysc : Nat), ysn = ys.length → SlF (slL u64L) Z H ysA ysc ys → ∀ (masksA : Option Addr) (masksn masksc : Nat), masksn = masks.length → SlF TMask.L Z H masksA masksc masks → ∀ KK : Value → Heap → Prop,
   (∀ (Z' : Nat → Prop) (H' : Heap), Ext H H' → Old Z H Z' → ∀ (r0 : Int), K r0 → KK (.int .i64 r0) H') →
   CallH P N.juntoref22_Error [.agg #[.int .u64 wv, .int .i64 w.Setup.N, .int .i64 w.Setup.T_, .slice wA wn wc, .slice wA2 wn2 wc2, .slice wA3 wn3 wc3, .int .i64 w.Round, .slice wA4 wn4 wc4], .slice holdersA holdersn holdersc, .slice xsA xsn xsc, .slice ysA ysn ysc, .slice masksA masksn masksc] H KK
def juntoref22_Error.Q (w : TWorld) (holders : (List Int)) (xs : (List (List Nat))) (ys : (List (List Nat))) (masks : (List TMask)) (K : Int → Prop) : Prop :=
 juntoref22_Lists.C w holders masks ([xs, ys]) (fun (x : Int) =>
 cond (x != 0) (K x)
  (juntoref22_Masked.C w.Setup.P xs ys masks (fun (x2 : (List TSecret)) =>
 juntoref20_Error.C w holders (IntKind.i64.wrap (2 * w.Setup.T_)) x2 (fun (x3 : Int) =>
 K x3))))
theorem juntoref22_Error.q {w : TWorld} {holders : (List Int)} {xs : (List (List Nat))} {ys : (List (List Nat))} {masks : (List TMask)} {K : Int → Prop} (q : juntoref22_Error.Q w holders xs ys masks K) : juntoref22_Error.C w holders xs ys masks K := by
 intro Z H wv he wA wn wc hn f wA2 wn2 wc2 hn2 f2 wA3 wn3 wc3 hn3 f3 wA4 wn4 wc4 hn4 f4 holdersA holdersn holdersc hn5 f5 xsA xsn xsc hn6 f6 ysA ysn ysc hn7 f7 masksA masksn masksc hn8 f8 KK hk; cases he; cases hn; cases hn2; cases hn3; cases hn4; cases hn5; cases hn6; cases hn7; cases hn8; apply juntoref22_Error.ok; unfold juntoref22_Error.W; unfold juntoref22_Error.Q at q; obtain ⟨σ, hz, hσ⟩ := tags Z; have hs : Stp ([1, 2] : List Nat) σ H σ H := Stp.refl _ _ _; replace f := f.wide hz; replace f2 := f2.wide hz; replace f3 := f3.wide hz; replace f4 := f4.wide hz; replace f5 := f5.wide hz; replace f6 := f6.wide hz; replace f7 := f7.wide hz; replace f8 := f8.wide hz; clear hz; refine NewH.mk fun H_ e => ?_; obtain ⟨xσ, st, b⟩ := BoxF.new σ 0 e; refine ⟨_, _, _, _, _, _, _, _, _, _, _, _, _, _, _, _, b.cell0, b.cell 1 rfl, b.cell 2 rfl, b.cell 3 rfl, b.cell 4 rfl, b.cell 5 rfl, b.cell 6 rfl, b.cell 7 rfl, ?_⟩; refine NewH.mk fun H_2 e2 => ?_; replace f6 := f6.step st; replace f7 := f7.step st; obtain ⟨xσ2, st2, f9⟩ := SlO.lit (E := (slL (slL u64L))) xσ 1 (xs := [xs, ys]) (l := [[_], [_]]) e2 rfl (.cons (slL_rep rfl f6) (.cons (slL_rep rfl f7) .nil)) (show (2 : Nat) ≤ 17592186044416 by decide); have c_0 := st.then st2; replace f := f.step c_0; replace f2 := f2.step c_0; replace f3 := f3.step c_0; replace f4 := f4.step c_0; replace f5 := f5.step c_0; replace f8 := f8.step c_0; refine q (fun i => xσ2 i = 0 ∨ xσ2 i = 1) H_2 _ rfl _ _ _ rfl (f.wide (fun i h => .inl h)) _ _ _ rfl (f2.wide (fun i h => .inl h)) _ _ _ rfl (f3.wide (fun i h => .inl h)) _ _ _ rfl (f4.wide (fun i h => .inl h)) _ _ _ rfl (f5.wide (fun i h => .inl h)) _ _ _ rfl (f8.wide (fun i h => .inl h)) _ _ _ rfl (f9.read (fun i h => .inl h) (fun i h => .inr (h))) _ (fun Z2 H_3 hE hO x q => ?_); obtain ⟨xσ3, st3⟩ := call0 hE xσ2; refine ⟨_, rfl, ?_⟩; refine condI (fun q => ?_) (fun q => ?_) q
 · replace hs := hs.trans (st.then (st2.then st3)); exact hk (Zt xσ3) _ (hs.ext hσ) (hs.old hσ) _ q
 replace b := b.step (st2.then st3); refine ⟨_, _, _, _, _, _, _, _, _, _, _, _, _, _, _, _, b.cell0, b.cell 1 rfl, b.cell 2 rfl, b.cell 3 rfl, b.cell 4 rfl, b.cell 5 rfl, b.cell 6 rfl, b.cell 7 rfl, ?_⟩; refine ⟨_, b.cell 2 rfl, ?_⟩; refine ⟨_, b.cell0, ?_⟩; have c_1 := st2.then st3; replace f6 := f6.step c_1; replace f7 := f7.step c_1; replace f8 := f8.step st3; refine q (Zt xσ3) H_3 _ rfl _ _ _ rfl f6 _ _ _ rfl f7 _ _ _ rfl f8 _ (fun Z3 H_4 hE2 hO2 x2 Y hY A n c hn9 f10 q => ?_); obtain ⟨xσ4, st4, fz2, fy⟩ := call1 hE2 hO2 xσ3 2 (fun _ h => h) hY; replace f10 := f10.keep fz2 fy; cases hn9; refine ⟨_, _, _, rfl, ?_⟩; replace b := b.step st4; refine ⟨(b.cell 2 rfl), b.cell0, (b.cell 1 rfl), (b.cell 2 rfl), (b.cell 3 rfl), (b.cell 4 rfl), (b.cell 5 rfl), (b.cell 6 rfl), (b.cell 7 rfl), ?_⟩; have c_2 := st3.then st4; replace f := f.step c_2; replace f2 := f2.step c_2; replace f3 := f3.step c_2; replace f4 := f4.step c_2; replace f5 := f5.step c_2; refine q (fun i => xσ4 i = 0 ∨ xσ4 i = 2) H_4 _ rfl _ _ _ rfl (f.wide (fun i h => .inl h)) _ _ _ rfl (f2.wide (fun i h => .inl h)) _ _ _ rfl (f3.wide (fun i h => .inl h)) _ _ _ rfl (f4.wide (fun i h => .inl h)) _ _ _ rfl (f5.wide (fun i h => .inl h)) _ _ _ rfl (f10.read (fun i h => .inl h) (fun i h => .inr (h))) _ (fun Z4 H_5 hE3 hO3 x3 q => ?_); obtain ⟨xσ5, st5⟩ := call0 hE3 xσ4; refine ⟨_, rfl, ?_⟩; replace hs := hs.trans (st.then (st2.then (st3.then (st4.then st5)))); exact hk (Zt xσ5) _ (hs.ext hσ) (hs.old hσ) _ q
end Go.Proofs.Ytajdpkinlnaidaa.Sh
end
section
set_option linter.unusedVariables false
set_option linter.unusedSimpArgs false
set_option maxRecDepth 100000
set_option maxHeartbeats 8000000
namespace Go.Proofs.Ytajdpkinlnaidaa.Sh
open Go.Sx
def juntolaw22_alive.A : Ann where
 loops := fun i => match i with
   | _ => []
 plans := fun i => match i with
   | _ => .stop
def juntolaw22_alive.W  (H : Heap) (R : Value → Heap → Prop) : Prop :=
 0 ≤ (5 : Int) ∧ (5 : Int) ≤ (5 : Int) ∧ (5 : Int) * 24 ≤ 2 ^ 48 ∧ (5 : Int) < 2 ^ 62 ∧ NewH (H.push (.cells (repl 5 [.slice none 0 0]).toArray 37 (0, 0))) fun H_ =>
 NewH (H_.push (.cells #[.int .u64 0, .int .i64 0, .int .i64 0, .slice none 0 0, .slice none 0 0, .slice none 0 0, .int .i64 0, .slice none 0 0] 30 (0, 0))) fun H_2 =>
 MayWrite H_2 (Addr.mk H_.size 0 none) 8 ∧ NewH (setH (setH (setH (setH (setH (setH (setH (setH H_2 (Addr.mk H_.size 0 none) (.int .u64 11)) (((Addr.mk H_.size 0 none)).add 1) (.int .i64 5)) (((Addr.mk H_.size 0 none)).add 2) (.int .i64 1)) (((Addr.mk H_.size 0 none)).add 3) (.slice none 0 0)) (((Addr.mk H_.size 0 none)).add 4) (.slice none 0 0)) (((Addr.mk H_.size 0 none)).add 5) (.slice (some (Addr.mk H.size 0 none)) 5 5)) (((Addr.mk H_.size 0 none)).add 6) (.int .i64 0)) (((Addr.mk H_.size 0 none)).add 7) (.slice none 0 0)) fun H_3 =>
 NewH (H_3.push (.cells #[.int .u64 5, .int .u64 8, .int .u64 0, .int .u64 3, .int .u64 6] 22 (0, 0))) fun H_4 =>
 NewH (H_4.push (.cells #[.int .u64 10, .int .u64 4, .int .u64 6, .int .u64 5, .int .u64 1] 22 (0, 0))) fun H_5 =>
 NewH (H_5.push (.cells #[.slice (some (Addr.mk H_3.size 0 none)) 5 5, .slice (some (Addr.mk H_4.size 0 none)) 5 5] 84 (0, 0))) fun H_6 =>
 ∃ x0 : Int, ∃ x1 : Int, ∃ x2 : Int, ∃ (x3A : Option Addr) (x3n x3c : Nat), ∃ (x4A : Option Addr) (x4n x4c : Nat), ∃ (x5A : Option Addr) (x5n x5c : Nat), ∃ x6 : Int, ∃ (x7A : Option Addr) (x7n x7c : Nat), cellH H_6 (Addr.mk H_.size 0 none) = some (.int .u64 x0) ∧ cellH H_6 (((Addr.mk H_.size 0 none)).add 1) = some (.int .i64 x1) ∧ cellH H_6 (((Addr.mk H_.size 0 none)).add 2) = some (.int .i64 x2) ∧ cellH H_6 (((Addr.mk H_.size 0 none)).add 3) = some (.slice x3A x3n x3c) ∧ cellH H_6 (((Addr.mk H_.size 0 none)).add 4) = some (.slice x4A x4n x4c) ∧ cellH H_6 (((Addr.mk H_.size 0 none)).add 5) = some (.slice x5A x5n x5c) ∧ cellH H_6 (((Addr.mk H_.size 0 none)).add 6) = some (.int .i64 x6) ∧ cellH H_6 (((Addr.mk H_.size 0 none)).add 7) = some (.slice x7A x7n x7c) ∧ NewH (H_6.push (.cells #[.int .i64 1, .int .i64 2, .int .i64 3, .int .i64 4, .int .i64 5] 3 (0, 0))) fun H_7 =>
 NewH (H_7.push (.cells #[.int .u64 7, .int .u64 10, .int .u64 2, .int .u64 5, .int .u64 8] 22 (0, 0))) fun H_8 =>
 NewH (H_8.push (.cells #[.slice (some (Addr.mk H_7.size 0 none)) 5 5] 37 (0, 0))) fun H_9 =>
 NewH (H_9.push (.cells #[.int .u64 2, .int .u64 2, .int .u64 2, .int .u64 2, .int .u64 2] 22 (0, 0))) fun H_10 =>
 NewH (H_10.push (.cells #[.slice (some (Addr.mk H_9.size 0 none)) 5 5] 37 (0, 0))) fun H_11 =>
 CallH P N.times_All [.agg #[.int .u64 x0, .int .i64 x1, .int .i64 x2, .slice x3A x3n x3c, .slice x4A x4n x4c, .slice x5A x5n x5c, .int .i64 x6, .slice x7A x7n x7c], .slice (some (Addr.mk H_6.size 0 none)) 5 5, .slice (some (Addr.mk H_8.size 0 none)) 1 1, .slice (some (Addr.mk H_10.size 0 none)) 1 1, .slice (some (Addr.mk H_5.size 0 none)) 1 1] H_11 fun v H_12 =>
 ∃ (r0A : Option Addr) (r0n r0c : Nat), ∃ (r1A : Option Addr) (r1n r1c : Nat), ∃ r20 : Int, ∃ r21 : Int, ∃ r22 : Int, ∃ (r23A : Option Addr) (r23n r23c : Nat), ∃ (r24A : Option Addr) (r24n r24c : Nat), ∃ (r25A : Option Addr) (r25n r25c : Nat), ∃ r26 : Int, ∃ (r27A : Option Addr) (r27n r27c : Nat), ∃ r3 : Int, v = .tuple #[.slice r0A r0n r0c, .slice r1A r1n r1c, .agg #[.int .u64 r20, .int .i64 r21, .int .i64 r22, .slice r23A r23n r23c, .slice r24A r24n r24c, .slice r25A r25n r25c, .int .i64 r26, .slice r27A r27n r27c], .int .i64 r3] ∧ NewH (H_12.push (.cells #[.int .u64 0, .int .i64 0, .int .i64 0, .slice none 0 0, .slice none 0 0, .slice none 0 0, .int .i64 0, .slice none 0 0] 30 (0, 0))) fun H_13 =>
 MayWrite H_13 (Addr.mk H_12.size 0 none) 8 ∧ NewH (setH (setH (setH (setH (setH (setH (setH (setH H_13 (Addr.mk H_12.size 0 none) (.int .u64 r20)) (((Addr.mk H_12.size 0 none)).add 1) (.int .i64 r21)) (((Addr.mk H_12.size 0 none)).add 2) (.int .i64 r22)) (((Addr.mk H_12.size 0 none)).add 3) (.slice r23A r23n r23c)) (((Addr.mk H_12.size 0 none)).add 4) (.slice r24A r24n r24c)) (((Addr.mk H_12.size 0 none)).add 5) (.slice r25A r25n r25c)) (((Addr.mk H_12.size 0 none)).add 6) (.int .i64 r26)) (((Addr.mk H_12.size 0 none)).add 7) (.slice r27A r27n r27c)) fun H_14 =>
 cond (r3 == 0) (∃ x : Int, cellH H_14 (((Addr.mk H_12.size 0 none)).add 6) = some (.int .i64 x) ∧ cond (x == 1) (cond (((r0n : Nat) : Int) == 1) (cond (((r1n : Nat) : Int) == 1) (∃ a : Addr, r1A = some a ∧ 0 ≤ (0 : Int) ∧ (0 : Int) < ((r1n : Nat) : Int) ∧ ∃ (xA : Option Addr) (xn xc : Nat), cellH H_14 ((a.add (0 * 3)).add 1) = some (.slice xA xn xc) ∧ NewH (H_14.push (.cells #[.int .u64 10, .int .u64 10, .int .u64 4] 22 (0, 0))) fun H_15 =>
 CallH P N.juntoref01_Same [.slice xA xn xc, .slice (some (Addr.mk H_14.size 0 none)) 3 3] H_15 fun v2 H_16 =>
 ∃ r : Bool, v2 = .bool r ∧ cond r (∃ a2 : Addr, r0A = some a2 ∧ 0 ≤ (0 : Int) ∧ (0 : Int) < ((r0n : Nat) : Int) ∧ ∃ (xA2 : Option Addr) (xn2 xc2 : Nat), cellH H_16 (a2.add 0) = some (.slice xA2 xn2 xc2) ∧ NewH (H_16.push (.cells #[.int .u64 5, .int .u64 2, .int .u64 10, .int .u64 7, .int .u64 4] 22 (0, 0))) fun H_17 =>
 CallH P N.juntoref01_Same [.slice xA2 xn2 xc2, .slice (some (Addr.mk H_16.size 0 none)) 5 5] H_17 fun v3 H_18 =>
 ∃ r2 : Bool, v3 = .bool r2 ∧ R (.bool r2) H_18) (R (.bool false) H_16)) (R (.bool false) H_14)) (R (.bool false) H_14)) (R (.bool false) H_14)) (R (.bool false) H_14)
theorem juntolaw22_alive.ok  (H : Heap) (R : Value → Heap → Prop) (h : juntolaw22_alive.W  H R) : CallH P N.juntolaw22_alive [] H R :=
 okW Try.func15 (by kernel_rfl) Try.ntmps15 juntolaw22_alive.A (by kernel_rfl) (by kernel_rfl) h
end Go.Proofs.Ytajdpkinlnaidaa.Sh
namespace Go.Proofs.Ytajdpkinlnaidaa.Sh
open Go.Sx Go.Lf
def juntolaw22_alive.C  (K : Bool → Prop) : Prop :=
 ∀ (Z : Nat → Prop) (H : Heap), ∀ KK : Value → Heap → Prop,
   (∀ (Z' : Nat → Prop) (H' : Heap), Ext H H' → Old Z H Z' → ∀ (r0 : Bool), K r0 → KK (.bool r0) H') →
   CallH P N.juntolaw22_alive [] H KK
def juntolaw22_alive.Q  (K : Bool → Prop) : Prop :=
 MakeOk 24 (5 : Int) ∧ times_All.C (⟨(⟨11, 5, 1⟩ : TSetup), [], [], (List.replicate 5 []), 0, []⟩ : TWorld) ([1, 2, 3, 4, 5]) ([[7, 10, 2, 5, 8]]) ([[2, 2, 2, 2, 2]]) ([(⟨[5, 8, 0, 3, 6], [10, 4, 6, 5, 1]⟩ : TMask)]) (fun (r : (List (List Nat))) (r2 : (List TOpened)) (r3 : TWorld) (r4 : Int) =>
 cond (r4 == 0) (cond (r3.Round == 1) (cond (((r.length : Nat) : Int) == 1) (cond (((r2.length : Nat) : Int) == 1) (0 ≤ (0 : Int) ∧ (0 : Int) < ((r2.length : Nat) : Int) ∧ ∃ x : TOpened, r2[0]? = some x ∧ juntoref01_Same.C x.Poly ([10, 10, 4]) (fun (x2 : Bool) =>
 cond x2 (0 ≤ (0 : Int) ∧ ∃ x3 : (List Nat), r[0]? = some x3 ∧ juntoref01_Same.C x3 ([5, 2, 10, 7, 4]) (fun (x4 : Bool) =>
 K x4))
  (K false)))
  (K false))
  (K false))
  (K false))
  (K false))
theorem juntolaw22_alive.q  {K : Bool → Prop} (q : juntolaw22_alive.Q  K) : juntolaw22_alive.C  K := by
 intro Z H  KK hk; apply juntolaw22_alive.ok; unfold juntolaw22_alive.W; unfold juntolaw22_alive.Q at q; obtain ⟨σ, hz, hσ⟩ := tags Z; have hs : Stp ([1, 2, 3, 4, 5, 6, 7, 8, 9, 10, 11, 12, 13, 14] : List Nat) σ H σ H := Stp.refl _ _ _; clear hz; obtain ⟨q2, q⟩ := q; refine ⟨q2.1, Int.le_refl _, q2.w1, q2.w2, NewH.mk fun H_ e => ?_⟩; obtain ⟨xσ, st, f⟩ := SlO.made (O := (rdM (slL u64L))) σ 1 e (slL_zero _) q2.len; refine NewH.mk fun H_2 e2 => ?_; obtain ⟨xσ2, st2, b⟩ := BoxF.new xσ 2 e2; refine ⟨b.mayF rfl, NewH.mk fun H_3 e3 => ?_⟩; obtain ⟨st3, b⟩ := b.wf8 rfl e3; refine NewH.mk fun H_4 e4 => ?_; obtain ⟨xσ3, st4, f2⟩ := SlO.lit (E := u64L) xσ2 3 (xs := [5, 8, 0, 3, 6]) (l := [[_], [_], [_], [_], [_]]) e4 rfl (.cons rfl (.cons rfl (.cons rfl (.cons rfl (.cons rfl .nil))))) (show (5 : Nat) ≤ 17592186044416 by decide); refine NewH.mk fun H_5 e5 => ?_; obtain ⟨xσ4, st5, f3⟩ := SlO.lit (E := u64L) xσ3 4 (xs := [10, 4, 6, 5, 1]) (l := [[_], [_], [_], [_], [_]]) e5 rfl (.cons rfl (.cons rfl (.cons rfl (.cons rfl (.cons rfl .nil))))) (show (5 : Nat) ≤ 17592186044416 by decide); replace f2 := f2.step st5; obtain ⟨xσ5, st6, f2⟩ := SlO.freeze f2; replace f3 := f3.step st6; obtain ⟨xσ6, st7, f3⟩ := SlO.freeze f3; refine NewH.mk fun H_6 e6 => ?_; replace f2 := f2.step st7; obtain ⟨xσ7, st8, f4⟩ := SlO.lit (E := TMask.L) xσ6 5 (xs := [(⟨[5, 8, 0, 3, 6], [10, 4, 6, 5, 1]⟩ : TMask)]) (l := [[_, _]]) e6 rfl (.cons (show (TMask.L).rep _ _ (⟨[5, 8, 0, 3, 6], [10, 4, 6, 5, 1]⟩ : TMask) _ from ⟨_, _, _, _, rfl, f2, f3⟩) .nil) (show (1 : Nat) ≤ 17592186044416 by decide); replace b := b.step (st4.then (st5.then (st6.then (st7.then st8)))); refine ⟨_, _, _, _, _, _, _, _, _, _, _, _, _, _, _, _, b.cell0, b.cell 1 rfl, b.cell 2 rfl, b.cell 3 rfl, b.cell 4 rfl, b.cell 5 rfl, b.cell 6 rfl, b.cell 7 rfl, ?_⟩; refine NewH.mk fun H_7 e7 => ?_; obtain ⟨xσ8, st9, f5⟩ := SlO.lit (E := i64L) xσ7 6 (xs := [1, 2, 3, 4, 5]) (l := [[_], [_], [_], [_], [_]]) e7 rfl (.cons rfl (.cons rfl (.cons rfl (.cons rfl (.cons rfl .nil))))) (show (5 : Nat) ≤ 17592186044416 by decide); refine NewH.mk fun H_8 e8 => ?_; obtain ⟨xσ9, st10, f6⟩ := SlO.lit (E := u64L) xσ8 7 (xs := [7, 10, 2, 5, 8]) (l := [[_], [_], [_], [_], [_]]) e8 rfl (.cons rfl (.cons rfl (.cons rfl (.cons rfl (.cons rfl .nil))))) (show (5 : Nat) ≤ 17592186044416 by decide); obtain ⟨xσ10, st11, f6⟩ := SlO.freeze f6; refine NewH.mk fun H_9 e9 => ?_; obtain ⟨xσ11, st12, f7⟩ := SlO.lit (E := (slL u64L)) xσ10 8 (xs := [[7, 10, 2, 5, 8]]) (l := [[_]]) e9 rfl (.cons (slL_rep rfl f6) .nil) (show (1 : Nat) ≤ 17592186044416 by decide); refine NewH.mk fun H_10 e10 => ?_; obtain ⟨xσ12, st13, f8⟩ := SlO.lit (E := u64L) xσ11 9 (xs := [2, 2, 2, 2, 2]) (l := [[_], [_], [_], [_], [_]]) e10 rfl (.cons rfl (.cons rfl (.cons rfl (.cons rfl (.cons rfl .nil))))) (show (5 : Nat) ≤ 17592186044416 by decide); obtain ⟨xσ13, st14, f8⟩ := SlO.freeze f8; refine NewH.mk fun H_11 e11 => ?_; obtain ⟨xσ14, st15, f9⟩ := SlO.lit (E := (slL u64L)) xσ13 10 (xs := [[2, 2, 2, 2, 2]]) (l := [[_]]) e11 rfl (.cons (slL_rep rfl f8) .nil) (show (1 : Nat) ≤ 17592186044416 by decide)
 replace f := f.step (st2.then (st3.then (st4.then (st5.then (st6.then (st7.then (st8.then (st9.then (st10.then (st11.then (st12.then (st13.then (st14.then st15))))))))))))); obtain ⟨xσ15, st16, f⟩ := SlO.freeze f; replace f5 := f5.step (st10.then (st11.then (st12.then (st13.then (st14.then (st15.then st16)))))); obtain ⟨xσ16, st17, f5⟩ := SlO.freeze f5; replace f7 := f7.step (st13.then (st14.then (st15.then (st16.then st17)))); obtain ⟨xσ17, st18, f7⟩ := SlO.freeze f7; replace f9 := f9.step (st16.then (st17.then st18)); obtain ⟨xσ18, st19, f9⟩ := SlO.freeze f9; replace f4 := f4.step (st9.then (st10.then (st11.then (st12.then (st13.then (st14.then (st15.then (st16.then (st17.then (st18.then st19)))))))))); obtain ⟨xσ19, st20, f4⟩ := SlO.freeze f4; replace f := f.step (st17.then (st18.then (st19.then st20))); replace f5 := f5.step (st18.then (st19.then st20)); replace f7 := f7.step (st19.then st20); replace f9 := f9.step st20; refine q (Zt xσ19) H_11 _ rfl _ _ _ rfl (SlF.nil _ _ _ _ _) _ _ _ rfl (SlF.nil _ _ _ _ _) _ _ _ (rl_len _ _) f _ _ _ rfl (SlF.nil _ _ _ _ _) _ _ _ rfl f5 _ _ _ rfl f7 _ _ _ rfl f9 _ _ _ rfl f4 _ (fun Z2 H_12 hE hO r A n c hn f10 r2 Y hY A2 n2 c2 hn2 f11 r3 v he A3 n3 c3 hn3 f12 A4 n4 c4 hn4 f13 A5 n5 c5 hn5 f14 A6 n6 c6 hn6 f15 r4 q => ?_); obtain ⟨xσ20, st21, fz, fy⟩ := call1 hE hO xσ19 11 (fun _ h => h) hY; replace f10 := f10.keep fz; replace f11 := f11.keep fz fy; replace f12 := f12.keep fz; replace f13 := f13.keep fz; replace f14 := f14.keep fz; replace f15 := f15.keep fz; cases hn; cases hn2; cases he; cases hn3; cases hn4; cases hn5; cases hn6; refine ⟨_, _, _, _, _, _, _, _, _, _, _, _, _, _, _, _, _, _, _, _, _, _, _, rfl, ?_⟩; refine NewH.mk fun H_13 e12 => ?_; obtain ⟨xσ21, st22, b2⟩ := BoxF.new xσ20 12 e12; refine ⟨b2.mayF rfl, NewH.mk fun H_14 e13 => ?_⟩; obtain ⟨st23, b2⟩ := b2.wf8 rfl e13; refine condJ (fun q => ?_) (fun q => ?_) q
 · replace hs := hs.trans (st.then (st2.then (st3.then (st4.then (st5.then (st6.then (st7.then (st8.then (st9.then (st10.then (st11.then (st12.then (st13.then (st14.then (st15.then (st16.then (st17.then (st18.then (st19.then (st20.then (st21.then (st22.then st23)))))))))))))))))))))); exact hk (Zt xσ21) _ (hs.ext hσ) (hs.old hσ) _ q
 refine ⟨_, b2.cell 6 rfl, ?_⟩; refine condJ (fun q => ?_) (fun q => ?_) q
 · replace hs := hs.trans (st.then (st2.then (st3.then (st4.then (st5.then (st6.then (st7.then (st8.then (st9.then (st10.then (st11.then (st12.then (st13.then (st14.then (st15.then (st16.then (st17.then (st18.then (st19.then (st20.then (st21.then (st22.then st23)))))))))))))))))))))); exact hk (Zt xσ21) _ (hs.ext hσ) (hs.old hσ) _ q
 refine condJ (fun q => ?_) (fun q => ?_) q
 · replace hs := hs.trans (st.then (st2.then (st3.then (st4.then (st5.then (st6.then (st7.then (st8.then (st9.then (st10.then (st11.then (st12.then (st13.then (st14.then (st15.then (st16.then (st17.then (st18.then (st19.then (st20.then (st21.then (st22.then st23)))))))))))))))))))))); exact hk (Zt xσ21) _ (hs.ext hσ) (hs.old hσ) _ q
 refine condJ (fun q => ?_) (fun q => ?_) q
 · replace hs := hs.trans (st.then (st2.then (st3.then (st4.then (st5.then (st6.then (st7.then (st8.then (st9.then (st10.then (st11.then (st12.then (st13.then (st14.then (st15.then (st16.then (st17.then (st18.then (st19.then (st20.then (st21.then (st22.then st23)))))))))))))))))))))); exact hk (Zt xσ21) _ (hs.ext hσ) (hs.old hσ) _ q
 obtain ⟨h0, hi2, q⟩ := q; replace f11 := f11.step (st22.then st23); obtain ⟨a, ha, hi⟩ := f11.addr h0 rfl hi2; refine ⟨a, ha, hi.1, hi.2, ?_⟩; obtain ⟨x, hx, q⟩ := q; obtain ⟨cs, hr, hc⟩ := f11.ldN (k := 3) rfl ha h0 hx; obtain ⟨A7, c7, A8, c8, rfl, f16, f17⟩ := hr; have hc2 := hc 1 _ rfl; refine ⟨_, _, _, hc2.val, ?_⟩; refine NewH.mk fun H_15 e14 => ?_; obtain ⟨xσ22, st24, f18⟩ := SlO.lit (E := u64L) xσ21 13 (xs := [10, 10, 4]) (l := [[_], [_], [_]]) e14 rfl (.cons rfl (.cons rfl (.cons rfl .nil))) (show (3 : Nat) ≤ 17592186044416 by decide); replace f16 := f16.step st24; refine q (fun i => xσ22 i = 0 ∨ xσ22 i = 13) H_15 _ _ _ rfl (f16.wide (fun i h => .inl h)) _ _ _ rfl (f18.read (fun i h => .inl h) (fun i h => .inr (h))) _ (fun Z3 H_16 hE2 hO2 x2 q => ?_); obtain ⟨xσ23, st25⟩ := call0 hE2 xσ22; refine ⟨_, rfl, ?_⟩; refine condJ (fun q => ?_) (fun q => ?_) q
 · replace hs := hs.trans (st.then (st2.then (st3.then (st4.then (st5.then (st6.then (st7.then (st8.then (st9.then (st10.then (st11.then (st12.then (st13.then (st14.then (st15.then (st16.then (st17.then (st18.then (st19.then (st20.then (st21.then (st22.then (st23.then (st24.then st25)))))))))))))))))))))))); exact hk (Zt xσ23) _ (hs.ext hσ) (hs.old hσ) _ q
 obtain ⟨h02, x3, hx2, q⟩ := q; replace f10 := f10.step (st22.then (st23.then (st24.then st25))); obtain ⟨a2, ha2, hi3⟩ := f10.addr h02 hx2 rfl; refine ⟨a2, ha2, hi3.1, hi3.2, ?_⟩; obtain ⟨A9, c9, hc3, f19⟩ := f10.lds ha2 h02 hx2; refine ⟨_, _, _, hc3.val, ?_⟩; refine NewH.mk fun H_17 e15 => ?_; obtain ⟨xσ24, st26, f20⟩ := SlO.lit (E := u64L) xσ23 14 (xs := [5, 2, 10, 7, 4]) (l := [[_], [_], [_], [_], [_]]) e15 rfl (.cons rfl (.cons rfl (.cons rfl (.cons rfl (.cons rfl .nil))))) (show (5 : Nat) ≤ 17592186044416 by decide); replace f19 := f19.step st26; refine q (fun i => xσ24 i = 0 ∨ xσ24 i = 14) H_17 _ _ _ rfl (f19.wide (fun i h => .inl h)) _ _ _ rfl (f20.read (fun i h => .inl h) (fun i h => .inr (h))) _ (fun Z4 H_18 hE3 hO3 x4 q => ?_); obtain ⟨xσ25, st27⟩ := call0 hE3 xσ24; refine ⟨_, rfl, ?_⟩; replace hs := hs.trans (st.then (st2.then (st3.then (st4.then (st5.then (st6.then (st7.then (st8.then (st9.then (st10.then (st11.then (st12.then (st13.then (st14.then (st15.then (st16.then (st17.then (st18.then (st19.then (st20.then (st21.then (st22.then (st23.then (st24.then (st25.then (st26.then st27)))))))))))))))))))))))))); exact hk (Zt xσ25) _ (hs.ext hσ) (hs.old hσ) _ q
end Go.Proofs.Ytajdpkinlnaidaa.Sh
end
section
set_option linter.unusedVariables false
set_option linter.unusedSimpArgs false
set_option maxRecDepth 100000
set_option maxHeartbeats 8000000
namespace Go.Proofs.Ytajdpkinlnaidaa.Sh
open Go.Sx
def juntolaw22_TimesBlame.A : Ann where
 loops := fun i => match i with
   | 28687 => [(43, .int .i64)]
   | 40974 => [(50, .int .i64)]
   | _ => []
 plans := fun i => match i with
   | _ => .stop
def juntolaw22_TimesBlame.W (w_0 : Int) (w_1 : Int) (w_2 : Int) (w_3A : Option Addr) (w_3n w_3c : Nat) (w_4A : Option Addr) (w_4n w_4c : Nat) (w_5A : Option Addr) (w_5n w_5c : Nat) (w_6 : Int) (w_7A : Option Addr) (w_7n w_7c : Nat) (holdersA : Option Addr) (holdersn holdersc : Nat) (xsA : Option Addr) (xsn xsc : Nat) (ysA : Option Addr) (ysn ysc : Nat) (masksA : Option Addr) (masksn masksc : Nat) (H : Heap) (R : Value → Heap → Prop) : Prop :=
 NewH (H.push (.cells #[.int .u64 w_0, .int .i64 w_1, .int .i64 w_2, .slice w_3A w_3n w_3c, .slice w_4A w_4n w_4c, .slice w_5A w_5n w_5c, .int .i64 w_6, .slice w_7A w_7n w_7c] 30 (0, 0))) fun H_ =>
 cond (decide (((xsn : Nat) : Int) > 40)) (R (.bool true) H_)
  (∃ x0 : Int, ∃ x1 : Int, ∃ x2 : Int, ∃ (x3A : Option Addr) (x3n x3c : Nat), ∃ (x4A : Option Addr) (x4n x4c : Nat), ∃ (x5A : Option Addr) (x5n x5c : Nat), ∃ x6 : Int, ∃ (x7A : Option Addr) (x7n x7c : Nat), cellH H_ (Addr.mk H.size 0 none) = some (.int .u64 x0) ∧ cellH H_ (((Addr.mk H.size 0 none)).add 1) = some (.int .i64 x1) ∧ cellH H_ (((Addr.mk H.size 0 none)).add 2) = some (.int .i64 x2) ∧ cellH H_ (((Addr.mk H.size 0 none)).add 3) = some (.slice x3A x3n x3c) ∧ cellH H_ (((Addr.mk H.size 0 none)).add 4) = some (.slice x4A x4n x4c) ∧ cellH H_ (((Addr.mk H.size 0 none)).add 5) = some (.slice x5A x5n x5c) ∧ cellH H_ (((Addr.mk H.size 0 none)).add 6) = some (.int .i64 x6) ∧ cellH H_ (((Addr.mk H.size 0 none)).add 7) = some (.slice x7A x7n x7c) ∧ CallH P N.times_All [.agg #[.int .u64 x0, .int .i64 x1, .int .i64 x2, .slice x3A x3n x3c, .slice x4A x4n x4c, .slice x5A x5n x5c, .int .i64 x6, .slice x7A x7n x7c], .slice holdersA holdersn holdersc, .slice xsA xsn xsc, .slice ysA ysn ysc, .slice masksA masksn masksc] H_ fun v H_2 =>
 ∃ (r0A : Option Addr) (r0n r0c : Nat), ∃ (r1A : Option Addr) (r1n r1c : Nat), ∃ r20 : Int, ∃ r21 : Int, ∃ r22 : Int, ∃ (r23A : Option Addr) (r23n r23c : Nat), ∃ (r24A : Option Addr) (r24n r24c : Nat), ∃ (r25A : Option Addr) (r25n r25c : Nat), ∃ r26 : Int, ∃ (r27A : Option Addr) (r27n r27c : Nat), ∃ r3 : Int, v = .tuple #[.slice r0A r0n r0c, .slice r1A r1n r1c, .agg #[.int .u64 r20, .int .i64 r21, .int .i64 r22, .slice r23A r23n r23c, .slice r24A r24n r24c, .slice r25A r25n r25c, .int .i64 r26, .slice r27A r27n r27c], .int .i64 r3] ∧ NewH (H_2.push (.cells #[.int .u64 0, .int .i64 0, .int .i64 0, .slice none 0 0, .slice none 0 0, .slice none 0 0, .int .i64 0, .slice none 0 0] 30 (0, 0))) fun H_3 =>
 MayWrite H_3 (Addr.mk H_2.size 0 none) 8 ∧ NewH (setH (setH (setH (setH (setH (setH (setH (setH H_3 (Addr.mk H_2.size 0 none) (.int .u64 r20)) (((Addr.mk H_2.size 0 none)).add 1) (.int .i64 r21)) (((Addr.mk H_2.size 0 none)).add 2) (.int .i64 r22)) (((Addr.mk H_2.size 0 none)).add 3) (.slice r23A r23n r23c)) (((Addr.mk H_2.size 0 none)).add 4) (.slice r24A r24n r24c)) (((Addr.mk H_2.size 0 none)).add 5) (.slice r25A r25n r25c)) (((Addr.mk H_2.size 0 none)).add 6) (.int .i64 r26)) (((Addr.mk H_2.size 0 none)).add 7) (.slice r27A r27n r27c)) fun H_4 =>
 ∃ x02 : Int, ∃ x12 : Int, ∃ x22 : Int, ∃ (x3A2 : Option Addr) (x3n2 x3c2 : Nat), ∃ (x4A2 : Option Addr) (x4n2 x4c2 : Nat), ∃ (x5A2 : Option Addr) (x5n2 x5c2 : Nat), ∃ x62 : Int, ∃ (x7A2 : Option Addr) (x7n2 x7c2 : Nat), cellH H_4 (Addr.mk H.size 0 none) = some (.int .u64 x02) ∧ cellH H_4 (((Addr.mk H.size 0 none)).add 1) = some (.int .i64 x12) ∧ cellH H_4 (((Addr.mk H.size 0 none)).add 2) = some (.int .i64 x22) ∧ cellH H_4 (((Addr.mk H.size 0 none)).add 3) = some (.slice x3A2 x3n2 x3c2) ∧ cellH H_4 (((Addr.mk H.size 0 none)).add 4) = some (.slice x4A2 x4n2 x4c2) ∧ cellH H_4 (((Addr.mk H.size 0 none)).add 5) = some (.slice x5A2 x5n2 x5c2) ∧ cellH H_4 (((Addr.mk H.size 0 none)).add 6) = some (.int .i64 x62) ∧ cellH H_4 (((Addr.mk H.size 0 none)).add 7) = some (.slice x7A2 x7n2 x7c2) ∧ CallH P N.juntoref22_Error [.agg #[.int .u64 x02, .int .i64 x12, .int .i64 x22, .slice x3A2 x3n2 x3c2, .slice x4A2 x4n2 x4c2, .slice x5A2 x5n2 x5c2, .int .i64 x62, .slice x7A2 x7n2 x7c2], .slice holdersA holdersn holdersc, .slice xsA xsn xsc, .slice ysA ysn ysc, .slice masksA masksn masksc] H_4 fun v2 H_5 =>
 ∃ r : Int, v2 = .int .i64 r ∧ cond (r3 != r) (R (.bool false) H_5)
  (LoopI (σ := Int) (fun κ => κ 0 H_5) fun s z H_6 next =>
 cond (decide (s < ((r1n : Nat) : Int))) (∃ a : Addr, r1A = some a ∧ 0 ≤ s ∧ s < ((r1n : Nat) : Int) ∧ ∃ x03 : Int, ∃ (x1A : Option Addr) (x1n x1c : Nat), ∃ (x2A : Option Addr) (x2n x2c : Nat), cellH H_6 (a.add ((Int.toNat s) * 3)) = some (.int .u64 x03) ∧ cellH H_6 ((a.add ((Int.toNat s) * 3)).add 1) = some (.slice x1A x1n x1c) ∧ cellH H_6 ((a.add ((Int.toNat s) * 3)).add 2) = some (.slice x2A x2n x2c) ∧ NewH (H_6.push (.cells #[.int .u64 0, .slice none 0 0, .slice none 0 0] 44 (0, 0))) fun H_7 =>
 MayWrite H_7 (Addr.mk H_6.size 0 none) 3 ∧ NewH (setH (setH (setH H_7 (Addr.mk H_6.size 0 none) (.int .u64 x03)) (((Addr.mk H_6.size 0 none)).add 1) (.slice x1A x1n x1c)) (((Addr.mk H_6.size 0 none)).add 2) (.slice x2A x2n x2c)) fun H_8 =>
 ∃ (xA : Option Addr) (xn xc : Nat), cellH H_8 (((Addr.mk H_6.size 0 none)).add 2) = some (.slice xA xn xc) ∧ LoopI (σ := Int) (fun κ => κ 0 H_8) fun s2 z2 H_9 next2 =>
 cond (decide (s2 < ((xn : Nat) : Int))) (∃ a2 : Addr, xA = some a2 ∧ 0 ≤ s2 ∧ s2 < ((xn : Nat) : Int) ∧ ∃ x : Int, cellH H_9 (a2.add (Int.toNat s2)) = some (.int .i64 x) ∧ ∃ (xA2 : Option Addr) (xn2 xc2 : Nat), cellH H_9 (((Addr.mk H.size 0 none)).add 3) = some (.slice xA2 xn2 xc2) ∧ CallH P N.juntoref17_Is [.slice xA2 xn2 xc2, .int .i64 x] H_9 fun v3 H_10 =>
 ∃ r2 : Bool, v3 = .bool r2 ∧ cond (!r2) (R (.bool false) H_10)
  (next2 (IntKind.i64.wrap (s2 + 1)) H_10))
  (next (IntKind.i64.wrap (s + 1)) H_9))
  (CallH P N.juntolaw22_alive [] H_6 fun v4 H_11 =>
 ∃ r4 : Bool, v4 = .bool r4 ∧ R (.bool r4) H_11)))
theorem juntolaw22_TimesBlame.ok (w_0 : Int) (w_1 : Int) (w_2 : Int) (w_3A : Option Addr) (w_3n w_3c : Nat) (w_4A : Option Addr) (w_4n w_4c : Nat) (w_5A : Option Addr) (w_5n w_5c : Nat) (w_6 : Int) (w_7A : Option Addr) (w_7n w_7c : Nat) (holdersA : Option Addr) (holdersn holdersc : Nat) (xsA : Option Addr) (xsn xsc : Nat) (ysA : Option Addr) (ysn ysc : Nat) (masksA : Option Addr) (masksn masksc : Nat) (H : Heap) (R : Value → Heap → Prop) (h : juntolaw22_TimesBlame.W w_0 w_1 w_2 w_3A w_3n w_3c w_4A w_4n w_4c w_5A w_5n w_5c w_6 w_7A w_7n w_7c holdersA holdersn holdersc xsA xsn xsc ysA ysn ysc masksA masksn masksc H R) : CallH P N.juntolaw22_TimesBlame [.agg #[.int .u64 w_0, .int .i64 w_1, .int .i64 w_2, .slice w_3A w_3n w_3c, .slice w_4A w_4n w_4c, .slice w_5A w_5n w_5c, .int .i64 w_6, .slice w_7A w_7n w_7c], .slice holdersA holdersn holdersc, .slice xsA xsn xsc, .slice ysA ysn ysc, .slice masksA masksn masksc] H R :=
 okW Try.func5 (by kernel_rfl) Try.ntmps5 juntolaw22_TimesBlame.A (by kernel_rfl) (by kernel_rfl) h
end Go.Proofs.Ytajdpkinlnaidaa.Sh
namespace Go.Proofs.Ytajdpkinlnaidaa.Sh
open Go.Sx Go.Lf
def juntolaw22_TimesBlame.C (w : TWorld) (holders : (List Int)) (xs : (List (List Nat))) (ys : (List (List Nat))) (masks : (List TMask)) (K : Bool → Prop) : Prop :=
 ∀ (Z : Nat → Prop) (H : Heap), ∀ (wv : Int), wv = (w.Setup.P : Int) → ∀ (wA : Option Addr) (wn wc : Nat), wn = w.Corrupted.length → SlF i64L Z H wA wc w.Corrupted → ∀ (wA2 : Option Addr) (wn2 wc2 : Nat), wn2 = w.Acts.length → SlF TAct.L Z H wA2 wc2 w.Acts → ∀ (wA3 : Option Addr) (wn3 wc3 : Nat), wn3 = w.Tapes.length → SlF (slL u64L) Z H wA3 wc3 w.Tapes → ∀ (wA4 : Option Addr) (wn4 wc4 : Nat), wn4 = w.Sent.length → SlF TSent.L Z H wA4 wc4 w.Sent → ∀ (holdersA : Option Addr) (holdersn holdersc : Nat), holdersn = holders.length → SlF i64L Z H holdersA holdersc holders → ∀ (xsA : Option Addr) (xsn xsc : Nat), xsn = xs.length → SlF (slL u64L) Z H xsA xsc xs → ∀ (ysA : Option Addr) (ysn ysc : Nat), ysn = ys.length → SlF (slL u64L) Z H ysA ysc ys → ∀ (masksA : Option Addr) (masksn masksc : Nat), masksn = masks.length → SlF TMask.L Z H masksA masksc masks → ∀ KK : Value → Heap → Prop,
   (∀ (Z' : Nat → Prop) (H' : Heap), Ext H H' → Old Z H Z' → ∀ (r0 : Bool), K r0 → KK (.bool r0) H') →
   CallH P N.juntolaw22_TimesBlame [.agg #[.int .u64 wv, .int .i64 w.Setup.N, .int .i64 w.Setup.T_, .slice wA wn wc, .slice wA2 wn2 wc2, .slice wA3 wn3 wc3, .int .i64 w.Round, .slice wA4 wn4 wc4], .slice holdersA holdersn holdersc, .slice xsA xsn xsc, .slice ysA ysn ysc, .slice masksA masksn masksc] H KK
def juntolaw22_TimesBlame.Q (w : TWorld) (holders : (List Int)) (xs : (List (List Nat))) (ys : (List (List Nat))) (masks : (List TMask)) (K : Bool → Prop) : Prop :=
 cond (decide (((xs.length : Nat) : Int) > 40)) (K true)
  (times_All.C w holders xs ys masks (fun (r : (List (List Nat))) (r2 : (List TOpened)) (r3 : TWorld) (r4 : Int) =>
 juntoref22_Error.C w holders xs ys masks (fun (x : Int) =>
 cond (r4 != x) (K false)
  (LoopQ (τ := Int) 0 fun t nextQ =>
 cond (decide (t < ((r2.length : Nat) : Int))) (0 ≤ t ∧ t < ((r2.length : Nat) : Int) ∧ ∃ x2 : TOpened, r2[Int.toNat t]? = some x2 ∧ LoopQ (τ := Int) 0 fun t2 nextQ2 =>
 cond (decide (t2 < ((x2.Wrong.length : Nat) : Int))) (0 ≤ t2 ∧ ∃ x3 : Int, x2.Wrong[Int.toNat t2]? = some x3 ∧ juntoref17_Is.C w.Corrupted x3 (fun (x4 : Bool) =>
 cond (!x4) (K false)
  (nextQ2 (IntKind.i64.wrap (t2 + 1)))))
  (nextQ (IntKind.i64.wrap (t + 1))))
  (juntolaw22_alive.C (fun (x5 : Bool) =>
 K x5))))))
theorem juntolaw22_TimesBlame.q {w : TWorld} {holders : (List Int)} {xs : (List (List Nat))} {ys : (List (List Nat))} {masks : (List TMask)} {K : Bool → Prop} (q : juntolaw22_TimesBlame.Q w holders xs ys masks K) : juntolaw22_TimesBlame.C w holders xs ys masks K := by
 intro Z H wv he wA wn wc hn f wA2 wn2 wc2 hn2 f2 wA3 wn3 wc3 hn3 f3 wA4 wn4 wc4 hn4 f4 holdersA holdersn holdersc hn5 f5 xsA xsn xsc hn6 f6 ysA ysn ysc hn7 f7 masksA masksn masksc hn8 f8 KK hk; cases he; cases hn; cases hn2; cases hn3; cases hn4; cases hn5; cases hn6; cases hn7; cases hn8; apply juntolaw22_TimesBlame.ok; unfold juntolaw22_TimesBlame.W; unfold juntolaw22_TimesBlame.Q at q; obtain ⟨σ, hz, hσ⟩ := tags Z; have hs : Stp ([1, 2, 3] : List Nat) σ H σ H := Stp.refl _ _ _; replace f := f.wide hz; replace f2 := f2.wide hz; replace f3 := f3.wide hz; replace f4 := f4.wide hz; replace f5 := f5.wide hz; replace f6 := f6.wide hz; replace f7 := f7.wide hz; replace f8 := f8.wide hz; clear hz; refine NewH.mk fun H_ e => ?_; obtain ⟨xσ, st, b⟩ := BoxF.new σ 0 e; refine condI (fun q => ?_) (fun q => ?_) q
 · replace hs := hs.trans st; exact hk (Zt xσ) _ (hs.ext hσ) (hs.old hσ) _ q
 refine ⟨_, _, _, _, _, _, _, _, _, _, _, _, _, _, _, _, b.cell0, b.cell 1 rfl, b.cell 2 rfl, b.cell 3 rfl, b.cell 4 rfl, b.cell 5 rfl, b.cell 6 rfl, b.cell 7 rfl, ?_⟩; replace f := f.step st; replace f2 := f2.step st; replace f3 := f3.step st; replace f4 := f4.step st; replace f5 := f5.step st; replace f6 := f6.step st; replace f7 := f7.step st; replace f8 := f8.step st; refine q (Zt xσ) H_ _ rfl _ _ _ rfl f _ _ _ rfl f2 _ _ _ rfl f3 _ _ _ rfl f4 _ _ _ rfl f5 _ _ _ rfl f6 _ _ _ rfl f7 _ _ _ rfl f8 _ (fun Z2 H_2 hE hO r A n c hn9 f9 r2 Y hY A2 n2 c2 hn10 f10 r3 v he2 A3 n3 c3 hn11 f11 A4 n4 c4 hn12 f12 A5 n5 c5 hn13 f13 A6 n6 c6 hn14 f14 r4 q => ?_); obtain ⟨xσ2, st2, fz, fy⟩ := call1 hE hO xσ 1 (fun _ h => h) hY; replace f9 := f9.keep fz; replace f10 := f10.keep fz fy; replace f11 := f11.keep fz; replace f12 := f12.keep fz; replace f13 := f13.keep fz; replace f14 := f14.keep fz; cases hn9; cases hn10; cases he2; cases hn11; cases hn12; cases hn13; cases hn14; refine ⟨_, _, _, _, _, _, _, _, _, _, _, _, _, _, _, _, _, _, _, _, _, _, _, rfl, ?_⟩; refine NewH.mk fun H_3 e2 => ?_; obtain ⟨xσ3, st3, b2⟩ := BoxF.new xσ2 2 e2; refine ⟨b2.mayF rfl, NewH.mk fun H_4 e3 => ?_⟩; obtain ⟨st4, b2⟩ := b2.wf8 rfl e3; replace b := b.step (st2.then (st3.then st4)); refine ⟨_, _, _, _, _, _, _, _, _, _, _, _, _, _, _, _, b.cell0, b.cell 1 rfl, b.cell 2 rfl, b.cell 3 rfl, b.cell 4 rfl, b.cell 5 rfl, b.cell 6 rfl, b.cell 7 rfl, ?_⟩; have c_0 := st2.then (st3.then st4); replace f := f.step c_0; replace f2 := f2.step c_0; replace f3 := f3.step c_0; replace f4 := f4.step c_0; replace f5 := f5.step c_0; replace f6 := f6.step c_0; replace f7 := f7.step c_0; replace f8 := f8.step c_0; refine q (Zt xσ3) H_4 _ rfl _ _ _ rfl f _ _ _ rfl f2 _ _ _ rfl f3 _ _ _ rfl f4 _ _ _ rfl f5 _ _ _ rfl f6 _ _ _ rfl f7 _ _ _ rfl f8 _ (fun Z3 H_5 hE2 hO2 x q => ?_); obtain ⟨xσ4, st5⟩ := call0 hE2 xσ3; refine ⟨_, rfl, ?_⟩; refine condI (fun q => ?_) (fun q => ?_) q
 · replace hs := hs.trans (st.then (st2.then (st3.then (st4.then st5)))); exact hk (Zt xσ4) _ (hs.ext hσ) (hs.old hσ) _ q
 refine LoopI.ofQ q (fun t_ s_ hp_ => ∃ σ_, Stp [3] xσ4 H_5 σ_ hp_ ∧ t_ = s_) (fun h k => h _ _ k) ⟨_, Stp.refl _ _ _, rfl⟩ ?_; rintro t _ _ H_6 next nextQ ⟨xσ5, st6, rfl⟩ q hnext; (try dsimp only at q ⊢); have sl0 := st6; refine condJ (fun q => ?_) (fun q => ?_) q
 · refine q (Zt xσ5) H_6  _ (fun Z5 H_11 hE4 hO4 x5 q => ?_); obtain ⟨xσ9, st11⟩ := call0 hE4 xσ5; refine ⟨_, rfl, ?_⟩; replace hs := hs.trans (st.then (st2.then (st3.then (st4.then (st5.then (st6.then st11)))))); exact hk (Zt xσ9) _ (hs.ext hσ) (hs.old hσ) _ q
 obtain ⟨h0, hi2, q⟩ := q; replace f10 := f10.step (st3.then (st4.then (st5.then st6))); obtain ⟨a, ha, hi⟩ := f10.addr h0 rfl hi2; refine ⟨a, ha, hi.1, hi.2, ?_⟩; obtain ⟨x2, hx, q⟩ := q; obtain ⟨cs, hr, hc⟩ := f10.ldN (k := 3) rfl ha h0 hx; obtain ⟨A7, c7, A8, c8, rfl, f15, f16⟩ := hr; have hc2 := hc 0 _ rfl; have hc3 := hc 1 _ rfl; have hc4 := hc 2 _ rfl; refine ⟨_, _, _, _, _, _, _, hc2.val, hc3.val, hc4.val, ?_⟩; refine NewH.mk fun H_7 e4 => ?_; obtain ⟨xσ6, st7, b3⟩ := BoxF.new xσ5 3 e4; refine ⟨b3.mayF rfl, NewH.mk fun H_8 e5 => ?_⟩; obtain ⟨st8, b3⟩ := b3.wf3 rfl e5; refine ⟨_, _, _, b3.cell 2 rfl, ?_⟩; refine LoopI.ofQ q (fun t_ s_ hp_ => ∃ σ_, Stp [] xσ6 H_8 σ_ hp_ ∧ t_ = s_) (fun h k => h _ _ k) ⟨_, Stp.refl _ _ _, rfl⟩ ?_; rintro t2 _ _ H_9 next2 nextQ2 ⟨xσ7, st9, rfl⟩ q hnext2; (try dsimp only at q ⊢); have sl1 := st9; refine condJ (fun q => ?_) (fun q => ?_) q
 · replace sl0 := sl0.trans (st7.then (st8.then st9)); exact hnext (IntKind.i64.wrap (t + 1)) _ _ ⟨_, sl0, rfl⟩ q
 obtain ⟨h02, x3, hx2, q⟩ := q; replace f16 := f16.step (st7.then (st8.then st9)); obtain ⟨a2, ha2, hi3⟩ := f16.addr h02 hx2 rfl; refine ⟨a2, ha2, hi3.1, hi3.2, ?_⟩; have hc5 := f16.ldi ha2 h02 hx2; refine ⟨_, hc5.val, ?_⟩; replace b := b.step (st5.then (st6.then (st7.then (st8.then st9)))); refine ⟨_, _, _, b.cell 3 rfl, ?_⟩; replace f := f.step (st5.then (st6.then (st7.then (st8.then st9)))); refine q (Zt xσ7) H_9 _ _ _ rfl f _ (fun Z4 H_10 hE3 hO3 x4 q => ?_); obtain ⟨xσ8, st10⟩ := call0 hE3 xσ7; refine ⟨_, rfl, ?_⟩; refine condI (fun q => ?_) (fun q => ?_) q
 · replace hs := hs.trans (st.then (st2.then (st3.then (st4.then (st5.then (st6.then (st7.then (st8.then (st9.then st10))))))))); exact hk (Zt xσ8) _ (hs.ext hσ) (hs.old hσ) _ q
 replace sl1 := sl1.trans st10; exact hnext2 (IntKind.i64.wrap (t2 + 1)) _ _ ⟨_, sl1, rfl⟩ q
end Go.Proofs.Ytajdpkinlnaidaa.Sh
end
section
set_option linter.unusedVariables false
namespace Go.Proofs.Ytajdpkinlnaidaa.Pl
open Go.Sx Go.Lf Go.Proofs.Ytajdpkinlnaidaa.Sh Go.Proofs.Ytajdpkinlnaidaa.Sp
def prodS (p : Nat) (x y hi : List Nat) : List Nat := tab x.length fun i => fadd p (fmul p (zat x i) (zat y i)) (zat hi i)
theorem prodS_lt {p : Nat} (hp : 0 < p) {x y hi : List Nat} {a : Nat} (h : a ∈ prodS p x y hi) : a < p := by obtain ⟨i, _, rfl⟩ := tab_mem h; exact fadd_lt hp _ _
def lessS (p v : Nat) (low : List Nat) : List Nat := tab low.length fun i => fsub p v (zat low i)
def maskAt (ms : List TMask) (i : Nat) : TMask := (ms[i]?).getD ⟨[], []⟩
theorem maskAt_get {ms : List TMask} {i : Nat} {x : TMask} (h : ms[i]? = some x) : maskAt ms i = x := by unfold maskAt; rw [h]; rfl
theorem times_Shares_c {p : Nat} {x y hi : List Nat} (hp0 : 0 < p) (hp : p ≤ 65537) (hl : x.length ≤ 100000) (hy : x.length ≤ y.length) (hh : x.length ≤ hi.length) (hx : ∀ a ∈ x, a < p) (hyl : ∀ a ∈ y, a < p) (hhl : ∀ a ∈ hi, a < p)
   {K : List Nat → Prop} (k : K (prodS p x y hi)) : times_Shares.C p x y hi K := by
 refine times_Shares.q ⟨MakeOk.big (by omega) (by omega), ?_⟩
 refine LoopQ.rangeS x.length (fun j s => s = tab x.length fun i => if i < j then fadd p (fmul p (zat x i) (zat y i)) (zat hi i) else 0) (tab_fill0 _ _ _) (by omega) ?_ ?_
 · rintro j _ next hj rfl hn
   obtain ⟨a, ha⟩ := get_some hj
   obtain ⟨b, hb⟩ := get_some (show j < y.length by omega)
   obtain ⟨c, hc⟩ := get_some (show j < hi.length by omega)
   refine ctd (by dsimp only; omega) ⟨by dsimp only; omega, a, ha, by dsimp only; omega, b, hb, by dsimp only; omega, c, hc, field_Times_c hp0 hp (hx a (mem_get ha)) (hyl b (mem_get hb)) (field_Plus_c hp (fmul_lt hp0 _ _) (hhl c (mem_get hc)) ⟨by dsimp only; omega, by dsimp only; omega, hn _ ?_⟩)⟩
   dsimp only
   rw [toNat_c, ← tab_fill, zat_get ha, zat_get hb, zat_get hc]
 · rintro _ next rfl
   refine cfd (by dsimp only; omega) ?_
   dsimp only
   rw [tab_filln]; exact k
theorem times_Less_c {p v : Nat} {low : List Nat} (hp0 : 0 < p) (hp : p ≤ 65537) (hl : low.length ≤ 100000) (hv : v < p) (hx : ∀ a ∈ low, a < p) {K : List Nat → Prop} (k : K (lessS p v low)) : times_Less.C p v low K := by
 refine times_Less.q ⟨MakeOk.big (by omega) (by omega), ?_⟩
 refine LoopQ.rangeS low.length (fun j s => s = tab low.length fun i => if i < j then fsub p v (zat low i) else 0) (tab_fill0 _ _ _) (by omega) ?_ ?_
 · rintro j _ next hj rfl hn
   obtain ⟨a, ha⟩ := get_some hj
   refine ctd (by dsimp only; omega) ⟨by dsimp only; omega, a, ha, field_Minus_c hp0 hp hv (hx a (mem_get ha)) ⟨by dsimp only; omega, by dsimp only; omega, hn _ ?_⟩⟩
   dsimp only
   rw [toNat_c, ← tab_fill, zat_get ha]
 · rintro _ next rfl
   refine cfd (by dsimp only; omega) ?_
   dsimp only
   rw [tab_filln]; exact k
def secsP (p : Nat) (xs ys : List (List Nat)) (ms : List TMask) : List TSecret := tab ms.length fun i => ⟨[], prodS p (pay xs i) (pay ys i) (maskAt ms i).High⟩
def LOk (p n : Nat) (xs ys : List (List Nat)) (ms : List TMask) : Prop := ∀ i, i < ms.length → ∀ x ∈ [pay xs i, pay ys i, (maskAt ms i).Low, (maskAt ms i).High], x.length = n ∧ below p x = true
open Classical in
noncomputable def timC (w : TWorld) (hs : List Int) (xs ys : List (List Nat)) (ms : List TMask) : Int :=
 if checkW w ≠ 0 then checkW w else if ¬ (risA w.Setup.N 0 hs = true ∧ 4 * w.Setup.T_ + 1 ≤ (hs.length : Int)) then 2 else if ys.length ≠ xs.length ∨ ms.length ≠ xs.length then 2 else if xs.length > 65536 then 3 else
 if ¬ LOk w.Setup.P hs.length xs ys ms then 2 else allC w hs (2 * w.Setup.T_) (secsP w.Setup.P xs ys ms)
open Classical in
theorem timC_eq {w : TWorld} {hs : List Int} {xs ys : List (List Nat)} {ms : List TMask} (h0 : checkW w = 0) : timC w hs xs ys ms = if ¬ (risA w.Setup.N 0 hs = true ∧ 4 * w.Setup.T_ + 1 ≤ (hs.length : Int)) then 2 else if ys.length ≠ xs.length ∨ ms.length ≠ xs.length then 2 else if xs.length > 65536 then 3 else
   if ¬ LOk w.Setup.P hs.length xs ys ms then 2 else allC w hs (2 * w.Setup.T_) (secsP w.Setup.P xs ys ms) := by
 unfold timC; rw [if_neg (by rw [h0]; simp)]
theorem LOk.at {p n : Nat} {xs ys : List (List Nat)} {ms : List TMask} (h : LOk p n xs ys ms) {i : Nat} {x y : List Nat} {m : TMask} (hx : xs[i]? = some x) (hy : ys[i]? = some y) (hm : ms[i]? = some m) :
   (x.length = n ∧ ∀ a ∈ x, a < p) ∧ (y.length = n ∧ ∀ a ∈ y, a < p) ∧ (m.Low.length = n ∧ ∀ a ∈ m.Low, a < p) ∧ (m.High.length = n ∧ ∀ a ∈ m.High, a < p) := by
 have := h i (lt_get hm)
 rw [pay_get hx, pay_get hy, maskAt_get hm] at this
 simp only [List.forall_mem_cons] at this
 obtain ⟨⟨a1, a2⟩, ⟨b1, b2⟩, ⟨c1, c2⟩, ⟨d1, d2⟩, _⟩ := this
 exact ⟨⟨a1, fun _ h => below_lt a2 h⟩, ⟨b1, fun _ h => below_lt b2 h⟩, ⟨c1, fun _ h => below_lt c2 h⟩, ⟨d1, fun _ h => below_lt d2 h⟩⟩
open Classical in
theorem chkC_line {w : TWorld} {hs : List Int} {d : Nat} {sh : List Nat} (h1 : sh.length = hs.length) (h2 : ∀ a ∈ sh, a < w.Setup.P) : chkC w hs d ⟨[], sh⟩ = if ∃ f, LineP w hs d sh f then 0 else 12 := by
 unfold chkC
 rw [if_pos (show risA w.Setup.N 0 ([] : List Int) = true from rfl), if_pos ⟨h1, below_of h2⟩]
section
variable {w : TWorld} {hs : List Int} {xs ys : List (List Nat)} {ms : List TMask}
theorem secs_get {p : Nat} {i : Nat} {x y : List Nat} {m : TMask} (hx : xs[i]? = some x) (hy : ys[i]? = some y) (hm : ms[i]? = some m) : (secsP p xs ys ms)[i]? = some ⟨[], prodS p x y m.High⟩ := by
 unfold secsP; rw [tab_get _ (lt_get hm), pay_get hx, pay_get hy, maskAt_get hm]
theorem times_Check_c (hc : w.Corrupted.length ≤ 4000000) (hh : hs.length ≤ 4000000) {K : Int → Prop} (k : K (timC w hs xs ys ms)) (hxl : xs.length ≤ 4000000) (hml : ms.length ≤ 4000000) : times_Check.C w hs xs ys ms K := by
 have out : ∀ e : Int, timC w hs xs ys ms = e → K e := fun e he => by rw [he] at k; exact k
 refine times_Check.q (net_Check_c (by omega) ?_)
 refine cnN (fun h => out _ (by unfold timC; rw [if_pos h])) (fun h0 => ?_)
 have hw := checkW_ok h0
 obtain ⟨hp, hN1, hN2, hT0, hT1, hNP⟩ := id hw.set
 have hp3 := hp.1
 have hpp := hp.2.1
 have e0 := timC_eq (hs := hs) (xs := xs) (ys := ys) (ms := ms) h0
 refine net_Group_c (by omega) (fun h => ct rfl (out 2 (by rw [e0, if_pos fun hh => h ⟨hw.set, hh⟩]))) (fun h => cf rfl ?_)
 obtain ⟨_, hr, hlen⟩ := h
 have h13 := hs13 hN2 hr
 rw [if_neg (by simp only [Classical.not_not]; exact ⟨hr, hlen⟩)] at e0
 refine cnN (fun h => out 2 (by rw [e0, if_pos (.inl fun e => h (by omega))])) (fun h1 => cnN (fun h => out 2 (by rw [e0, if_pos (.inr fun e => h (by omega))])) (fun h2 => ?_))
 have hyl : ys.length = xs.length := by omega
 have hmx : ms.length = xs.length := by omega
 rw [if_neg (by rintro (h | h) <;> omega)] at e0
 refine cnd (fun h => out 3 (by rw [e0, if_pos (by omega)])) (fun h3 => ?_)
 rw [if_neg (by omega)] at e0
 refine LoopQ.range ms.length (fun j => ∀ i, i < j → ∀ x ∈ [pay xs i, pay ys i, (maskAt ms i).Low, (maskAt ms i).High], x.length = hs.length ∧ below w.Setup.P x = true) (fun i hi => by omega) (by omega) ?_ ?_
 · intro j next hj hI hn
   obtain ⟨m, hm⟩ := get_some hj
   obtain ⟨x, hx⟩ := get_some (show j < xs.length by omega)
   obtain ⟨y, hy⟩ := get_some (show j < ys.length by omega)
   refine ctd (by omega) ⟨by omega, m, hm, by omega, x, hx, by omega, y, hy, open_Are_c (by simp) (by omega) ?_⟩
   rcases areC_cases w.Setup.P hs.length [x, y, m.Low, m.High] with ⟨h4, e⟩ | ⟨h4, e⟩
   · rw [e]
     refine cf rfl (hn fun i hi => ?_)
     rcases Nat.lt_or_ge i j with h' | h'
     · exact hI i h'
     · obtain rfl : i = j := by omega
       rw [pay_get hx, pay_get hy, maskAt_get hm]; exact h4
   · rw [e]
     refine ct rfl (out 2 ?_)
     rw [e0, if_pos]
     intro hL
     have := hL j hj
     rw [pay_get hx, pay_get hy, maskAt_get hm] at this
     exact h4 this
 intro next hL
 refine cfd (by omega) ?_
 have hL' : LOk w.Setup.P hs.length xs ys ms := fun i hi => hL i hi
 rw [if_neg (by simp only [Classical.not_not]; exact hL')] at e0
 obtain ⟨tt, htt⟩ : ∃ t : Nat, w.Setup.T_ = t := ⟨w.Setup.T_.toNat, by omega⟩
 have hsl : (secsP w.Setup.P xs ys ms).length = ms.length := tab_len _ _
 have e1 : allC w hs (2 * w.Setup.T_) (secsP w.Setup.P xs ys ms) = if chkL w hs (2 * tt) (secsP w.Setup.P xs ys ms) ≠ 0 then chkL w hs (2 * tt) (secsP w.Setup.P xs ys ms) else if w.Round + 1 > 1048576 then 8 else 0 := by
   unfold allC
   rw [if_neg (by rw [h0]; simp), if_neg (by simp only [Classical.not_not]; exact ⟨hr, hlen⟩), if_neg (by omega), if_neg (by omega), show (2 * w.Setup.T_).toNat = 2 * tt by omega]
 have e2w : IntKind.i64.wrap (2 * w.Setup.T_) = ((2 * tt : Nat) : Int) := by rw [wi64 (by omega) (by omega)]; omega
 refine LoopQ.range ms.length (fun j => chkL w hs (2 * tt) ((secsP w.Setup.P xs ys ms).drop j) = chkL w hs (2 * tt) (secsP w.Setup.P xs ys ms)) rfl (by omega) ?_ ?_
 · intro j next hj hI hn
   obtain ⟨m, hm⟩ := get_some hj
   obtain ⟨x, hx⟩ := get_some (show j < xs.length by omega)
   obtain ⟨y, hy⟩ := get_some (show j < ys.length by omega)
   obtain ⟨⟨x1, x2⟩, ⟨y1, y2⟩, _, ⟨m1, m2⟩⟩ := hL'.at hx hy hm
   rw [drop_cons (secs_get hx hy hm)] at hI
   simp only [chkL] at hI
   have hpl : (prodS w.Setup.P x y m.High).length = hs.length := by unfold prodS; rw [tab_len]; exact x1
   refine ctd (by omega) ⟨by omega, m, hm, by omega, x, hx, by omega, y, hy, times_Shares_c (by omega) hpp (by omega) (by omega) (by omega) x2 y2 m2 ?_⟩
   rw [e2w]
   refine open_Fits_c hw.set hw.cor hr hlen (by omega) (by omega) (fun a ha => prodS_lt (by omega) ha) (fun f hf => cf rfl (hn ?_)) (fun hno => ct rfl (out 12 ?_))
   · rw [if_pos (by rw [chkC_line hpl fun a ha => prodS_lt (by omega) ha, if_pos ⟨f, hf⟩])] at hI
     exact hI
   · have e3 : chkC w hs (2 * tt) ⟨[], prodS w.Setup.P x y m.High⟩ = 12 := by rw [chkC_line hpl fun a ha => prodS_lt (by omega) ha, if_neg (by rintro ⟨f, hf⟩; exact hno f hf)]
     rw [e3] at hI
     simp only [show ¬ (12 : Int) = 0 by decide, if_false] at hI
     rw [e0, e1, ← hI]; simp
 · intro next2 hI
   rw [List.drop_of_length_le (by omega)] at hI
   have hchk : chkL w hs (2 * tt) (secsP w.Setup.P xs ys ms) = 0 := hI.symm
   rw [if_neg (by rw [hchk]; simp)] at e1
   refine cfd (by omega) (net_Room_c hw.r0 hw.r1 (by decide) (by decide) (fun h => out 8 ?_) (fun h => out 0 ?_))
   · rw [e0, e1, if_pos h]
   · rw [e0, e1, if_neg (by omega)]
end
def heads (w : TWorld) (hs : List Int) (n : Nat) (l : List TSecret) (F : Nat → List Nat) : List TGot := tab l.length fun i => gotQ w.Setup.P l hs (cames w (privL l hs n)) (heards w (saidL l hs n)) F 0 i
theorem open_Public_c {w : TWorld} {t : TTable} {hs : List Int} {d n tt : Nat} {L : List (List Nat)} {F : Nat → List Nat} (hA : AllOk w hs d n tt (L.map fun x => ⟨[], x⟩) F) (ht : t.Setup = w.Setup) (hS : w.Sent.length ≤ 2000000) (hAc : w.Acts.length ≤ 2000000)
   {K : List TGot → TTable → TWorld → Prop} (k : K (heads w hs n (L.map fun x => ⟨[], x⟩) F) t (nextW w (privL (L.map fun x => ⟨[], x⟩) hs n) (saidL (L.map fun x => ⟨[], x⟩) hs n))) : open_Public.C t w hs d L K := by
 have hll := hA.lel
 rw [List.length_map] at hll
 refine open_Public.q ?_
 refine LoopQ.rangeL L.length (fun j s => s = (L.take j).map fun x => (⟨[], x⟩ : TSecret)) rfl (by omega) ?_ ?_
 · rintro j _ next hj rfl hn
   obtain ⟨x, hx⟩ := get_some hj
   refine ctd (by dsimp only; omega) ⟨by dsimp only; omega, x, hx, AppOk.big (by rw [List.length_append, List.length_map, List.length_take, List.length_singleton]; omega), hn _ ?_⟩
   rw [take_snoc hx, List.map_append, List.map_singleton]
 rintro _ next rfl
 refine cfd (by dsimp only; omega) ?_
 dsimp only
 rw [List.take_of_length_le (Nat.le_refl _)]
 generalize hl : (L.map fun x => (⟨[], x⟩ : TSecret)) = l at hA k ⊢
 have hll2 := hA.lel; have hlen := hA.len; have hded := hA.ded
 have hto : ∀ x ∈ l, x.To = [] := fun x hx => by
   rw [← hl] at hx; obtain ⟨y, _, rfl⟩ := List.mem_map.1 hx; rfl
 refine open_Play_c hA.wok ht hA.en hA.et hA.ris (by omega) (by omega) (fun x hx => by rw [hto x hx]; simp) (fun x hx => by
   obtain ⟨j, hj⟩ := List.mem_iff_getElem?.1 hx; exact (hA.sec j x hj).len) hS hAc F (fun q i hq hi => dec_of hA.wok hA.en hA.et hA.ris hA.sec hq hi) ?_
 have hgl : (gots w.Setup.P l hs (cames w (privL l hs n)) (heards w (saidL l hs n)) F (n + 1)).length = l.length := tab_len _ _
 have hhl : (heads w hs n l F).length = l.length := tab_len _ _
 refine LoopQ.rangeL l.length (fun j s => s = (heads w hs n l F).take j) rfl (by omega) ?_ ?_
 · rintro j _ next2 hj rfl hn2
   obtain ⟨s, hs0⟩ := get_some hj
   have hrec := recips (n := n) (s := s) (by rw [hto s (mem_get hs0)]; rfl)
   rw [if_pos (hto s (mem_get hs0))] at hrec
   have hget : (gots w.Setup.P l hs (cames w (privL l hs n)) (heards w (saidL l hs n)) F (n + 1))[j]? = some [gotQ w.Setup.P l hs (cames w (privL l hs n)) (heards w (saidL l hs n)) F 0 j] := by
     unfold gots; rw [tab_get _ hj, secAt_get hs0, hrec]; rfl
   have hh : (heads w hs n l F)[j]? = some (gotQ w.Setup.P l hs (cames w (privL l hs n)) (heards w (saidL l hs n)) F 0 j) := tab_get _ hj
   refine ctd (by dsimp only; omega) ⟨by dsimp only; omega, _, hget, by omega, _, rfl, AppOk.big (by rw [List.length_append, List.length_take, List.length_singleton]; omega), hn2 _ ?_⟩
   rw [take_snoc hh]
 · rintro _ next2 rfl
   refine cfd (by dsimp only; omega) ?_
   dsimp only
   rw [List.take_of_length_le (by omega)]; exact k
section
variable {w : TWorld} {hs : List Int} {xs ys : List (List Nat)} {ms : List TMask}
theorem secs_map {p : Nat} : secsP p xs ys ms = ((tab ms.length fun i => prodS p (pay xs i) (pay ys i) (maskAt ms i).High)).map fun x => (⟨[], x⟩ : TSecret) := by
 unfold secsP tab; rw [List.map_map]; rfl
def prods (w : TWorld) (hs : List Int) (n : Nat) (l : List TSecret) (ms : List TMask) (F : Nat → List Nat) : List (List Nat) := tab ms.length fun i => lessS w.Setup.P (evalH w.Setup.P (F i) 0) (maskAt ms i).Low
theorem times_Play_c {t : TTable} {n tt : Nat} {F : Nat → List Nat} (hA : AllOk w hs (2 * tt) n tt (secsP w.Setup.P xs ys ms) F) (hL : LOk w.Setup.P hs.length xs ys ms) (hx : xs.length = ms.length) (hy : ys.length = ms.length) (ht : t.Setup = w.Setup) (hS : w.Sent.length ≤ 2000000) (hAc : w.Acts.length ≤ 2000000)
   {K : List (List Nat) → List TGot → TTable → TWorld → Prop} (k : K (prods w hs n (secsP w.Setup.P xs ys ms) ms F) (heads w hs n (secsP w.Setup.P xs ys ms) F) t (nextW w (privL (secsP w.Setup.P xs ys ms) hs n) (saidL (secsP w.Setup.P xs ys ms) hs n))) : times_Play.C t w hs xs ys ms K := by
 have hset := hA.wok.set
 obtain ⟨hp, hN1, hN2, hT0, hT1, hNP⟩ := id hset
 have hp3 := hp.1
 have hpp := hp.2.1
 have h13 := hs13 hN2 hA.ris
 have hll := hA.lel
 have hsl : (secsP w.Setup.P xs ys ms).length = ms.length := tab_len _ _
 have het := hA.et
 refine times_Play.q ?_
 unfold times_Play.Q
 rw [ht]
 refine LoopQ.rangeL xs.length (fun j s => s = (tab ms.length fun i => prodS w.Setup.P (pay xs i) (pay ys i) (maskAt ms i).High).take j) rfl (by omega) ?_ ?_
 · rintro j _ next hj rfl hn
   obtain ⟨m, hm⟩ := get_some (show j < ms.length by omega)
   obtain ⟨x, hx0⟩ := get_some hj
   obtain ⟨y, hy0⟩ := get_some (show j < ys.length by omega)
   obtain ⟨⟨x1, x2⟩, ⟨y1, y2⟩, _, ⟨m1, m2⟩⟩ := hL.at hx0 hy0 hm
   refine ctd (by dsimp only; omega) ⟨by dsimp only; omega, x, hx0, by dsimp only; omega, y, hy0, by dsimp only; omega, m, hm, times_Shares_c (by omega) hpp (by omega) (by omega) (by omega) x2 y2 m2 ⟨AppOk.big (by rw [List.length_append, List.length_take, List.length_singleton]; omega), hn _ ?_⟩⟩
   have hg : (tab ms.length fun i => prodS w.Setup.P (pay xs i) (pay ys i) (maskAt ms i).High)[j]? = some (prodS w.Setup.P x y m.High) := by rw [tab_get _ (lt_get hm), pay_get hx0, pay_get hy0, maskAt_get hm]
   rw [take_snoc hg]
 rintro _ next rfl
 refine cfd (by dsimp only; omega) ?_
 dsimp only
 rw [List.take_of_length_le (by rw [tab_len]; omega), show IntKind.i64.wrap (2 * w.Setup.T_) = ((2 * tt : Nat) : Int) by rw [wi64 (by omega) (by omega)]; omega]
 have hA2 := hA
 rw [secs_map] at hA2
 refine open_Public_c hA2 ht hS hAc ?_
 rw [← secs_map]
 have hhl : (heads w hs n (secsP w.Setup.P xs ys ms) F).length = ms.length := by unfold heads; rw [tab_len, hsl]
 refine LoopQ.rangeL ms.length (fun j s => s = (prods w hs n (secsP w.Setup.P xs ys ms) ms F).take j) rfl (by omega) ?_ ?_
 · rintro j _ next2 hj rfl hn2
   obtain ⟨m, hm⟩ := get_some hj
   obtain ⟨x, hx0⟩ := get_some (show j < xs.length by omega)
   obtain ⟨y, hy0⟩ := get_some (show j < ys.length by omega)
   obtain ⟨_, _, ⟨m1, m2⟩, _⟩ := hL.at hx0 hy0 hm
   have hh : (heads w hs n (secsP w.Setup.P xs ys ms) F)[j]? = some (gotQ w.Setup.P (secsP w.Setup.P xs ys ms) hs (cames w (privL (secsP w.Setup.P xs ys ms) hs n)) (heards w (saidL (secsP w.Setup.P xs ys ms) hs n)) F 0 j) := tab_get _ (by rw [hsl]; exact hj)
   refine ctd (by dsimp only; omega) ⟨by dsimp only; omega, _, hh, by dsimp only; omega, m, hm, times_Less_c (by omega) hpp (by omega) (evalH_lt (by omega) _ _) m2 ⟨AppOk.big (by rw [List.length_append, List.length_take, List.length_singleton]; omega), hn2 _ ?_⟩⟩
   have hg : (prods w hs n (secsP w.Setup.P xs ys ms) ms F)[j]? = some (lessS w.Setup.P (evalH w.Setup.P (F j) 0) m.Low) := by unfold prods; rw [tab_get _ hj, maskAt_get hm]
   rw [take_snoc hg]
 · rintro _ next2 rfl
   refine cfd (by dsimp only; omega) ?_
   dsimp only
   rw [List.take_of_length_le (by unfold prods; rw [tab_len]; exact Nat.le_refl _)]; exact k
structure TimOk (w : TWorld) (hs : List Int) (n tt : Nat) (xs ys : List (List Nat)) (ms : List TMask) (F : Nat → List Nat) : Prop where
 all : AllOk w hs (2 * tt) n tt (secsP w.Setup.P xs ys ms) F
 ok : LOk w.Setup.P hs.length xs ys ms
 xl : xs.length = ms.length
 yl : ys.length = ms.length
theorem timC_ok (h : timC w hs xs ys ms = 0) : ∃ n tt F, TimOk w hs n tt xs ys ms F := by
 unfold timC at h
 by_cases h0 : checkW w ≠ 0
 · rw [if_pos h0] at h; exact absurd h h0
 replace h0 := Classical.not_not.1 h0
 rw [if_neg (by rw [h0]; simp)] at h
 have hw := checkW_ok h0
 obtain ⟨hp, hN1, hN2, hT0, hT1, hNP⟩ := id hw.set
 by_cases h1 : ¬ (risA w.Setup.N 0 hs = true ∧ 4 * w.Setup.T_ + 1 ≤ (hs.length : Int))
 · rw [if_pos h1] at h; simp at h
 replace h1 := Classical.not_not.1 h1
 rw [if_neg (by simp only [Classical.not_not]; exact h1)] at h
 by_cases h2 : ys.length ≠ xs.length ∨ ms.length ≠ xs.length
 · rw [if_pos h2] at h; simp at h
 rw [if_neg h2] at h
 by_cases h3 : xs.length > 65536
 · rw [if_pos h3] at h; simp at h
 rw [if_neg h3] at h
 by_cases h4 : ¬ LOk w.Setup.P hs.length xs ys ms
 · rw [if_pos h4] at h; simp at h
 replace h4 := Classical.not_not.1 h4
 rw [if_neg (by simp only [Classical.not_not]; exact h4)] at h
 obtain ⟨n, hn⟩ : ∃ n : Nat, w.Setup.N = n := ⟨w.Setup.N.toNat, by omega⟩
 obtain ⟨tt, htt⟩ : ∃ t : Nat, w.Setup.T_ = t := ⟨w.Setup.T_.toNat, by omega⟩
 have hsl : (secsP w.Setup.P xs ys ms).length = ms.length := tab_len _ _
 unfold allC at h
 rw [if_neg (by rw [h0]; simp), if_neg (by simp only [Classical.not_not]; exact h1), if_neg (by omega), if_neg (by omega), show (2 * w.Setup.T_).toNat = 2 * tt by omega] at h
 by_cases h5 : chkL w hs (2 * tt) (secsP w.Setup.P xs ys ms) ≠ 0
 · rw [if_pos h5] at h; exact absurd h h5
 replace h5 := Classical.not_not.1 h5
 rw [if_neg (by rw [h5]; simp)] at h
 by_cases h6 : w.Round + 1 > 1048576
 · rw [if_pos h6] at h; simp at h
 have hex : ∀ i : Nat, ∃ f : List Nat, ∀ s, (secsP w.Setup.P xs ys ms)[i]? = some s → SecOk w hs (2 * tt) s f := fun i => by
   cases hi : (secsP w.Setup.P xs ys ms)[i]? with
   | none => exact ⟨[], fun s h => by cases h⟩
   | some s =>
     obtain ⟨f, hf⟩ := chkC_ok (chkL_ok h5 s (mem_get hi))
     exact ⟨f, fun s' h => by cases h; exact hf⟩
 obtain ⟨F, hF⟩ := Classical.axiomOfChoice hex
 exact ⟨n, tt, F, ⟨hw, hn, htt, h1.1, by omega, by omega, by omega, by omega, hF⟩, h4, by omega, by omega⟩
theorem times_All_c (hW : SmW w) (hh : hs.length ≤ 4000000) (hxl : xs.length ≤ 4000000) (hml : ms.length ≤ 4000000)
   {K : List (List Nat) → List TOpened → TWorld → Int → Prop} (kerr : timC w hs xs ys ms ≠ 0 → K [] [] zeroW (timC w hs xs ys ms))
   (kok : ∀ (n tt : Nat) F, TimOk w hs n tt xs ys ms F → timC w hs xs ys ms = 0 → K (prods w hs n (secsP w.Setup.P xs ys ms) ms F) ((heads w hs n (secsP w.Setup.P xs ys ms) F).map (·.Opened)) (nextW w (privL (secsP w.Setup.P xs ys ms) hs n) (saidL (secsP w.Setup.P xs ys ms) hs n)) 0) : times_All.C w hs xs ys ms K := by
 have hWc := hW.cor; have hWa := hW.act; have hWt := hW.tap; have hWs := hW.snt
 refine times_All.q (times_Check_c hWc hh ?_ hxl hml)
 refine cnN kerr (fun h0 => net_Clone_c hW ?_)
 obtain ⟨n, tt, F, hT⟩ := timC_ok h0
 have hA := hT.all
 obtain ⟨hp, hN1, hN2, hT0, hT1, hNP⟩ := id hA.wok.set
 have htl := hA.wok.tap
 have hcp : copyL (List.replicate (Int.toNat w.Setup.N) ([] : List Nat)) w.Tapes = w.Tapes := copyL_same (by rw [List.length_replicate]; omega)
 rw [hcp]
 refine ⟨MakeOk.big (by omega) (by omega), times_Play_c hA hT.ok hT.xl hT.yl rfl hWs hWa ?_⟩
 refine open_Bare_c (by unfold heads; rw [tab_len]; have := hA.lel; omega) ?_
 refine LoopQ.rangeS w.Tapes.length (fun _ s => s = w.Tapes) rfl (by omega) ?_ ?_
 · rintro j _ next3 hj rfl hn3
   obtain ⟨x, hx⟩ := get_some hj
   refine ctd (by dsimp only; omega) ⟨by dsimp only; omega, by dsimp only; omega, x, hx, slices_Clone_c ⟨by dsimp only; omega, by dsimp only; show (j : Int) < ((w.Tapes.length : Nat) : Int); omega, hn3 _ ?_⟩⟩
   exact set_same hx
 · rintro _ next3 rfl
   refine cfd (by dsimp only; omega) ?_
   exact kok n tt F hT h0
theorem juntoref22_Masked_c {p : Nat} (hp0 : 0 < p) (hp : p ≤ 65537) {n : Nat} (hn : n ≤ 1000) (hL : LOk p n xs ys ms) (hx : xs.length = ms.length) (hy : ys.length = ms.length) (hl : ms.length ≤ 100000) {K : List TSecret → Prop} (k : K (secsP p xs ys ms)) : juntoref22_Masked.C p xs ys ms K := by
 refine juntoref22_Masked.q ?_
 refine LoopQ.rangeL ms.length (fun j s => s = (secsP p xs ys ms).take j) rfl (by omega) ?_ ?_
 · rintro j _ next hj rfl hnx
   obtain ⟨m, hm⟩ := get_some hj
   obtain ⟨x, hx0⟩ := get_some (show j < xs.length by omega)
   obtain ⟨y, hy0⟩ := get_some (show j < ys.length by omega)
   obtain ⟨⟨x1, x2⟩, ⟨y1, y2⟩, _, ⟨m1, m2⟩⟩ := hL.at hx0 hy0 hm
   refine ctd (by dsimp only; omega) ⟨by dsimp only; omega, x, hx0, ?_⟩
   refine LoopQ.rangeL x.length (fun i s => s = (prodS p x y m.High).take i) rfl (by omega) ?_ ?_
   · rintro i _ next2 hi rfl hn2
     obtain ⟨a, ha⟩ := get_some hi
     obtain ⟨b, hb⟩ := get_some (show i < y.length by omega)
     obtain ⟨c, hc⟩ := get_some (show i < m.High.length by omega)
     refine ctd (by dsimp only; omega) ⟨by dsimp only; omega, x, hx0, by dsimp only; omega, y, hy0, by dsimp only; omega, m, hm, by dsimp only; omega, a, ha, by dsimp only; omega, b, hb, by dsimp only; omega, c, hc, juntoref01_Mul_c hp0 hp (x2 a (mem_get ha)) (y2 b (mem_get hb)) (juntoref01_Add_c hp0 hp (fmul_lt hp0 _ _) (m2 c (mem_get hc)) ⟨AppOk.big (by rw [List.length_append, List.length_take, List.length_singleton]; omega), hn2 _ ?_⟩)⟩
     have hg : (prodS p x y m.High)[i]? = some (fadd p (fmul p a b) c) := by unfold prodS; rw [tab_get _ hi, zat_get ha, zat_get hb, zat_get hc]
     rw [take_snoc hg]
   · rintro _ next2 rfl
     refine cfd (by dsimp only; omega) ⟨AppOk.big (by rw [List.length_append, List.length_take, List.length_singleton]; omega), hnx _ ?_⟩
     dsimp only
     rw [List.take_of_length_le (show (prodS p x y m.High).length ≤ x.length by unfold prodS; rw [tab_len]; exact Nat.le_refl _), take_snoc (secs_get hx0 hy0 hm)]
 · rintro _ next rfl
   refine cfd (by dsimp only; omega) ?_
   dsimp only
   rw [List.take_of_length_le (by unfold secsP; rw [tab_len]; exact Nat.le_refl _)]; exact k
theorem juntoref22_Error_c (hc : w.Corrupted.length ≤ 4000000) (hh : hs.length ≤ 4000000) (hxl : xs.length ≤ 4000000) (hml : ms.length ≤ 4000000) (hin : ∀ x ∈ xs, x.length ≤ 4000000) (hiny : ∀ x ∈ ys, x.length ≤ 4000000) (hinm : ∀ x ∈ ms, x.Low.length ≤ 4000000 ∧ x.High.length ≤ 4000000)
   {K : Int → Prop} (k : K (timC w hs xs ys ms)) : juntoref22_Error.C w hs xs ys ms K := by
 have out : ∀ e : Int, timC w hs xs ys ms = e → K e := fun e he => by rw [he] at k; exact k
 refine juntoref22_Error.q (juntoref22_Lists.q (juntoref17_Check_c (by omega) ?_))
 refine cnN (fun h => ct (bne_t h) (out _ (by unfold timC; rw [if_pos h]))) (fun h0 => ?_)
 have hw := checkW_ok h0
 obtain ⟨hp, hN1, hN2, hT0, hT1, hNP⟩ := id hw.set
 have hp3 := hp.1
 have hpp := hp.2.1
 have e0 := timC_eq (hs := hs) (xs := xs) (ys := ys) (ms := ms) h0
 refine juntoref17_Group_c (by omega) (fun h => ct rfl (ct rfl (out 2 (by rw [e0, if_pos fun hh => h ⟨hw.set, hh⟩])))) (fun h => cf rfl ⟨by decide, xs, rfl, ?_⟩)
 obtain ⟨_, hr, hlen⟩ := h
 have h13 := hs13 hN2 hr
 rw [if_neg (by simp only [Classical.not_not]; exact ⟨hr, hlen⟩)] at e0
 have two : timC w hs xs ys ms = 2 → cond ((2 : Int) != 0) (K 2) (juntoref22_Masked.C w.Setup.P xs ys ms fun x2 => juntoref20_Error.C w hs (IntKind.i64.wrap (2 * w.Setup.T_)) x2 fun x3 => K x3) := fun h => ct rfl (out 2 h)
 refine LoopQ.range 2 (fun j => 2 ≤ j → ys.length = xs.length) (fun h => by omega) (by decide) ?_ ?_
 · intro j next hj hI hn
   have hj2 : j = 0 ∨ j = 1 := by omega
   rcases hj2 with rfl | rfl
   · exact ctd (show ((0 : Nat) : Int) < ((2 : Nat) : Int) by decide) ⟨show (0 : Int) ≤ ((0 : Nat) : Int) by decide, xs, rfl, cf (bne_f rfl) (hn fun h => by omega)⟩
   · exact ctd (show ((1 : Nat) : Int) < ((2 : Nat) : Int) by decide) ⟨show (0 : Int) ≤ ((1 : Nat) : Int) by decide, ys, rfl, cnN (fun h => two (by rw [e0, if_pos (.inl fun e => h (by omega))])) (fun h => hn fun _ => by omega)⟩
 intro next hyl
 replace hyl := hyl (Nat.le_refl _)
 refine cfd (show ¬ ((2 : Nat) : Int) < ((2 : Nat) : Int) by decide) (cnN (fun h => two (by rw [e0, if_pos (.inr fun e => h (by omega))])) (fun h2 => ?_))
 have hmx : ms.length = xs.length := by omega
 rw [if_neg (by rintro (h | h) <;> omega)] at e0
 refine cnd (fun h => ct rfl (out 3 (by rw [e0, if_pos (by omega)]))) (fun h3 => ?_)
 rw [if_neg (by omega)] at e0
 refine LoopQ.range ms.length (fun j => ∀ i, i < j → ∀ x ∈ [pay xs i, pay ys i, (maskAt ms i).Low, (maskAt ms i).High], x.length = hs.length ∧ below w.Setup.P x = true) (fun i hi => by omega) (by omega) ?_ ?_
 · intro j next2 hj hI hn
   obtain ⟨m, hm⟩ := get_some hj
   obtain ⟨x, hx⟩ := get_some (show j < xs.length by omega)
   obtain ⟨y, hy⟩ := get_some (show j < ys.length by omega)
   refine ctd (by omega) ?_
   refine LoopQ.rangeL 2 (fun i s => s = [x, y].take i) rfl (by decide) ?_ ?_
   · rintro i _ next3 hi rfl hn3
     have hi2 : i = 0 ∨ i = 1 := by omega
     rcases hi2 with rfl | rfl
     · exact ctd (show ((0 : Nat) : Int) < ((2 : Nat) : Int) by decide) ⟨show (0 : Int) ≤ ((0 : Nat) : Int) by decide, xs, rfl, by omega, x, hx, AppOk.big (show 1 ≤ 4000000 by decide), hn3 _ rfl⟩
     · exact ctd (show ((1 : Nat) : Int) < ((2 : Nat) : Int) by decide) ⟨show (0 : Int) ≤ ((1 : Nat) : Int) by decide, ys, rfl, by omega, y, hy, AppOk.big (show 2 ≤ 4000000 by decide), hn3 _ rfl⟩
   rintro _ next3 rfl
   refine cfd (show ¬ ((2 : Nat) : Int) < ((2 : Nat) : Int) by decide) ⟨by omega, m, hm, by omega, m, hm, AppOk.big (show 4 ≤ 4000000 by decide), ?_⟩
   have bad : ¬ (∀ z ∈ [x, y, m.Low, m.High], z.length = hs.length ∧ below w.Setup.P z = true) → timC w hs xs ys ms = 2 := fun h4 => by
     rw [e0, if_pos]
     intro hL
     have := hL j hj
     rw [pay_get hx, pay_get hy, maskAt_get hm] at this
     exact h4 this
   refine LoopQ.range 4 (fun q => ∀ i z, i < q → [x, y, m.Low, m.High][i]? = some z → z.length = hs.length ∧ below w.Setup.P z = true) (fun i z hi => by omega) (by decide) ?_ ?_
   · intro q next4 hq hI4 hn4
     obtain ⟨z, hz⟩ := get_some (show q < [x, y, m.Low, m.High].length from hq)
     have hzl : z.length ≤ 4000000 := by
       have := mem_get hz
       simp only [List.mem_cons, List.not_mem_nil, or_false] at this
       rcases this with rfl | rfl | rfl | rfl
       · exact hin _ (mem_get hx)
       · exact hiny _ (mem_get hy)
       · exact (hinm _ (mem_get hm)).1
       · exact (hinm _ (mem_get hm)).2
     refine ctd (show (q : Int) < 4 by omega) ⟨by omega, show (q : Int) < 4 by omega, z, hz, cnN (fun h => two (bad fun hh => h (by have := (hh z (mem_get hz)).1; omega))) (fun h => juntoref01_Within_c (by omega) ?_)⟩
     rcases codeB_ne w.Setup.P z with ⟨e, hb⟩ | ⟨e, hb⟩
     · rw [e]
       refine cf rfl (hn4 fun i z' hi hz' => ?_)
       rcases Nat.lt_or_ge i q with h' | h'
       · exact hI4 i z' h' hz'
       · obtain rfl : i = q := by omega
         rw [hz] at hz'; cases hz'; exact ⟨by omega, hb⟩
     · rw [e]
       exact ct rfl (two (bad fun hh => by have := (hh z (mem_get hz)).2; rw [hb] at this; simp at this))
   · intro next4 hI4
     refine cfd (show ¬ ((4 : Nat) : Int) < 4 by decide) (hn fun i hi => ?_)
     rcases Nat.lt_or_ge i j with h' | h'
     · exact hI i h'
     · obtain rfl : i = j := by omega
       rw [pay_get hx, pay_get hy, maskAt_get hm]
       intro z hz
       obtain ⟨q, hq⟩ := List.mem_iff_getElem?.1 hz
       exact hI4 q z (by have := lt_get hq; simpa using this) hq
 intro next2 hL
 have hL' : LOk w.Setup.P hs.length xs ys ms := fun i hi => hL i hi
 rw [if_neg (by simp only [Classical.not_not]; exact hL')] at e0
 have hsl : (secsP w.Setup.P xs ys ms).length = ms.length := tab_len _ _
 refine cfd (by omega) (cf rfl (juntoref22_Masked_c (by omega) hpp (n := hs.length) (by omega) hL' (by omega) (by omega) (by omega) ?_))
 rw [wi64 (x := 2 * w.Setup.T_) (by omega) (by omega)]
 refine juntoref20_Error_c hc hh (by omega) (fun x hx => ?_) (fun x hx => ?_) (by rw [e0] at k; exact k)
 · obtain ⟨i, hi, rfl⟩ := tab_mem hx; simp
 · obtain ⟨i, hi, rfl⟩ := tab_mem hx
   obtain ⟨x0, hx0⟩ := get_some (show i < xs.length by omega)
   dsimp only
   unfold prodS; rw [tab_len, pay_get hx0]; exact hin _ (mem_get hx0)
end
def exT : TWorld := ⟨⟨11, 5, 1⟩, [], [], List.replicate 5 [], 0, []⟩
def exM : List TMask := [⟨[5, 8, 0, 3, 6], [10, 4, 6, 5, 1]⟩]
theorem exT_ok : WOk exT where
 set := ⟨isP11, by decide, by decide, by decide, by decide, by decide⟩
 cor := by decide
 ris := by decide
 tap := by decide
 r0 := by decide
 r1 := by decide
 act := fun a ha => by cases ha
 key := by decide
theorem exT_secs : secsP 11 [[7, 10, 2, 5, 8]] [[2, 2, 2, 2, 2]] exM = [⟨[], [2, 2, 10, 4, 6]⟩] := by kernel_rfl
theorem exT_line : LineP exT [1, 2, 3, 4, 5] 2 [2, 2, 10, 4, 6] [10, 10, 4] := dec0.2 ⟨by decide, by decide, by decide, by decide⟩
theorem exT_all : AllOk exT [1, 2, 3, 4, 5] 2 5 1 (secsP 11 [[7, 10, 2, 5, 8]] [[2, 2, 2, 2, 2]] exM) fun _ => [10, 10, 4] where
 wok := exT_ok
 en := rfl
 et := rfl
 ris := by decide
 len := by decide
 ded := by decide
 lel := by rw [exT_secs]; decide
 rnd := by decide
 sec := fun i s h => by
   rw [exT_secs] at h
   have hs := mem_get h
   rw [List.mem_singleton.1 hs]
   exact ⟨by decide, by decide, by decide, exT_line⟩
theorem exT_L : LOk 11 5 [[7, 10, 2, 5, 8]] [[2, 2, 2, 2, 2]] exM := fun i hi => by
 have : i = 0 := by simp [exM] at hi; exact hi
 subst this
 intro x hx
 simp [pay, maskAt, exM] at hx
 rcases hx with rfl | rfl | rfl | rfl <;> exact ⟨by decide, by decide⟩
theorem exT_tim : timC exT [1, 2, 3, 4, 5] [[7, 10, 2, 5, 8]] [[2, 2, 2, 2, 2]] exM = 0 := by
 have h1 := allC_of exT_all (by decide)
 unfold timC
 rw [if_neg (by rw [checkW_of exT_ok (by decide)]; simp), if_neg (by simp only [Classical.not_not]; exact ⟨by decide, by decide⟩), if_neg (by decide), if_neg (by decide), if_neg (by simp only [Classical.not_not]; exact exT_L)]
 exact h1
theorem exT_heads : (heads exT [1, 2, 3, 4, 5] 5 (secsP 11 [[7, 10, 2, 5, 8]] [[2, 2, 2, 2, 2]] exM) fun _ => [10, 10, 4]).map (·.Opened) = [⟨10, [10, 10, 4], []⟩] := by kernel_rfl
theorem exT_prods : (prods exT [1, 2, 3, 4, 5] 5 (secsP 11 [[7, 10, 2, 5, 8]] [[2, 2, 2, 2, 2]] exM) exM fun _ => [10, 10, 4]) = [[5, 2, 10, 7, 4]] := by kernel_rfl
theorem alive22_c {K : Bool → Prop} (k : K true) : juntolaw22_alive.C K := by
 refine juntolaw22_alive.q ⟨MakeOk.big (by decide) (by decide), ?_⟩
 refine times_All_c (w := exT) (ms := exM) ⟨by decide, by decide, by decide, by decide⟩ (by decide) (by decide) (by decide) (fun h => absurd exT_tim h) fun n tt F hT _ => ?_
 have hA := hT.all
 have hn : n = 5 := by have : (5 : Int) = n := hA.en; omega
 have ht : tt = 1 := by have : (1 : Int) = tt := hA.et; omega
 subst hn; subst ht
 have hg : (secsP 11 [[7, 10, 2, 5, 8]] [[2, 2, 2, 2, 2]] exM)[0]? = some ⟨[], [2, 2, 10, 4, 6]⟩ := by rw [exT_secs]; rfl
 have hF : F 0 = [10, 10, 4] := line_uniq (tt := 1) (d := 2) exT_ok rfl (by decide) (by decide) (by decide) (by decide) (hA.sec 0 _ hg).line exT_line
 have e1 : heads exT [1, 2, 3, 4, 5] 5 (secsP 11 [[7, 10, 2, 5, 8]] [[2, 2, 2, 2, 2]] exM) F = heads exT [1, 2, 3, 4, 5] 5 (secsP 11 [[7, 10, 2, 5, 8]] [[2, 2, 2, 2, 2]] exM) fun _ => [10, 10, 4] := by
   unfold heads
   refine tab_ext fun i hi => ?_
   have : i = 0 := by rw [exT_secs] at hi; simp at hi; exact hi
   subst this
   unfold gotQ; rw [hF]
 have e2 : prods exT [1, 2, 3, 4, 5] 5 (secsP 11 [[7, 10, 2, 5, 8]] [[2, 2, 2, 2, 2]] exM) exM F = prods exT [1, 2, 3, 4, 5] 5 (secsP 11 [[7, 10, 2, 5, 8]] [[2, 2, 2, 2, 2]] exM) exM fun _ => [10, 10, 4] := by
   unfold prods
   refine tab_ext fun i hi => ?_
   have : i = 0 := by simp [exM] at hi; exact hi
   subst this
   rw [hF]
 show cond _ _ _
 rw [show exT.Setup.P = 11 from rfl, e1, e2, exT_heads, exT_prods]
 refine ct rfl (ct rfl (ct rfl (ct rfl ⟨by decide, by decide, _, rfl, juntoref01_Same_c (by decide) (ct rfl ⟨by decide, _, rfl, juntoref01_Same_c (by decide) ?_⟩)⟩)))
 exact k
theorem TimesBlame_c {w : TWorld} {hs : List Int} {xs ys : List (List Nat)} {ms : List TMask} (hW : SmW w) (hh : hs.length ≤ 4000000) (hxl : xs.length ≤ 4000000) (hml : ms.length ≤ 4000000) (hin : ∀ x ∈ xs, x.length ≤ 4000000) (hiny : ∀ x ∈ ys, x.length ≤ 4000000) (hinm : ∀ x ∈ ms, x.Low.length ≤ 4000000 ∧ x.High.length ≤ 4000000) :
   juntolaw22_TimesBlame.C w hs xs ys ms fun b => b = true := by
 refine juntolaw22_TimesBlame.q (cnd (fun _ => rfl) fun h40 => ?_)
 have hWc := hW.cor
 refine times_All_c hW hh hxl hml (fun h => ?_) (fun n tt F hT h0 => ?_)
 · refine juntoref22_Error_c hWc hh hxl hml hin hiny hinm (cf (bne_f rfl) ?_)
   refine LoopQ.range 0 (fun _ => True) trivial (by decide) (fun j next hj => by omega) (fun next _ => cfd (by decide) (alive22_c rfl))
 · refine juntoref22_Error_c hWc hh hxl hml hin hiny hinm (cf (bne_f h0.symm) ?_)
   have hA := hT.all
   have hN2 := hA.wok.set.2.2.1
   have h13 := hs13 hN2 hA.ris
   have hsl : (secsP w.Setup.P xs ys ms).length = ms.length := tab_len _ _
   have hhl : ((heads w hs n (secsP w.Setup.P xs ys ms) F).map (·.Opened)).length = ms.length := by rw [List.length_map]; unfold heads; rw [tab_len, hsl]
   refine LoopQ.range ms.length (fun _ => True) trivial (by omega) ?_ (fun next _ => cfd (by omega) (alive22_c rfl))
   intro i next hi _ hn
   have hget : ((heads w hs n (secsP w.Setup.P xs ys ms) F).map (·.Opened))[i]? = some (gotQ w.Setup.P (secsP w.Setup.P xs ys ms) hs (cames w (privL (secsP w.Setup.P xs ys ms) hs n)) (heards w (saidL (secsP w.Setup.P xs ys ms) hs n)) F 0 i).Opened := by
     unfold heads; rw [List.getElem?_map, tab_get _ (by rw [hsl]; exact hi)]; rfl
   have hio : i ∈ ofL (secsP w.Setup.P xs ys ms) 0 := ofL_mem.2 ⟨by rw [hsl]; exact hi, by
     obtain ⟨s, hs0⟩ := get_some (show i < (secsP w.Setup.P xs ys ms).length by rw [hsl]; exact hi)
     have : s.To = [] := by obtain ⟨j, _, rfl⟩ := tab_mem (mem_get hs0); rfl
     rw [secAt_get hs0]; unfold asked; rw [if_pos rfl, this]; rfl⟩
   have hwl : (gotQ w.Setup.P (secsP w.Setup.P xs ys ms) hs (cames w (privL (secsP w.Setup.P xs ys ms) hs n)) (heards w (saidL (secsP w.Setup.P xs ys ms) hs n)) F 0 i).Opened.Wrong.length ≤ 13 := by
     show ((offL _ _ _).map _).length ≤ _
     rw [List.length_map]
     unfold offL
     refine Nat.le_trans (List.length_filter_le _ _) ?_
     rw [List.length_range]; unfold ptsOf; rw [tab_len]; exact h13
   refine ctd (by omega) ⟨by omega, by omega, _, hget, ?_⟩
   refine LoopQ.range (gotQ w.Setup.P (secsP w.Setup.P xs ys ms) hs (cames w (privL (secsP w.Setup.P xs ys ms) hs n)) (heards w (saidL (secsP w.Setup.P xs ys ms) hs n)) F 0 i).Opened.Wrong.length (fun _ => True) trivial (by omega) ?_ (fun next2 _ => cfd (by omega) (hn trivial))
   intro j next2 hj _ hn2
   obtain ⟨x, hx⟩ := get_some hj
   have hxc : x ∈ w.Corrupted := by
     have hm : x ∈ (offL w.Setup.P (F i) (ptsOf hs (recv w.Setup.P (secsP w.Setup.P xs ys ms) hs (cames w (privL (secsP w.Setup.P xs ys ms) hs n)) (heards w (saidL (secsP w.Setup.P xs ys ms) hs n)) 0 ((ofL (secsP w.Setup.P xs ys ms) 0).idxOf i)))).map (ih hs) := mem_get hx
     obtain ⟨c, hc, rfl⟩ := List.mem_map.1 hm
     unfold offL at hc
     obtain ⟨h1, h2⟩ := List.mem_filter.1 hc
     refine off_corr hA.wok hA.en hA.ris hA.sec (Nat.zero_le _) hio ?_ h2
     have := List.mem_range.1 h1
     unfold ptsOf at this; rwa [tab_len] at this
   refine ctd (by omega) ⟨by omega, x, hx, juntoref17_Is_c (by omega) ?_⟩
   rw [decide_eq_true hxc]
   exact cf rfl (hn2 trivial)
theorem sm_in {l : List (List Nat)} (h : (slL (slL u64L)).sm 1048576 l) (x : List Nat) (hx : x ∈ l) : x.length ≤ 4000000 := Nat.le_trans (h.2 x hx).1 (by decide)
theorem sm_mask {l : List TMask} (h : (slL TMask.L).sm 1048576 l) (x : TMask) (hx : x ∈ l) : x.Low.length ≤ 4000000 ∧ x.High.length ≤ 4000000 := ⟨Nat.le_trans (h.2 x hx).1.1 (by decide), Nat.le_trans (h.2 x hx).2.1 (by decide)⟩
end Go.Proofs.Ytajdpkinlnaidaa.Pl
end
