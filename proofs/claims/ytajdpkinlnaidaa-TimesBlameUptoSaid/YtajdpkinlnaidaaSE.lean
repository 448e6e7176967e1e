import Derived.Test.YtajdpkinlnaidaaSD
namespace Go.Lf
end Go.Lf
namespace Go.Proofs.Ytajdpkinlnaidaa.Back
end Go.Proofs.Ytajdpkinlnaidaa.Back
namespace Go.Proofs.Ytajdpkinlnaidaa.Pl
end Go.Proofs.Ytajdpkinlnaidaa.Pl
namespace Go.Proofs.Ytajdpkinlnaidaa.Sh
end Go.Proofs.Ytajdpkinlnaidaa.Sh
namespace Go.Proofs.Ytajdpkinlnaidaa.Sp
end Go.Proofs.Ytajdpkinlnaidaa.Sp
namespace Go.Sx
end Go.Sx
section
set_option linter.unusedVariables false
set_option linter.unusedSimpArgs false
set_option maxRecDepth 100000
set_option maxHeartbeats 8000000
namespace Go.Proofs.Ytajdpkinlnaidaa.Sh
open Go.Sx
def open_check.A : Ann where
 loops := fun i => match i with
   | _ => []
 plans := fun i => match i with
   | _ => .stop
def open_Play.A : Ann where
 loops := fun i => match i with
   | 20493 => [(32, .int .i64)]
   | 36876 => [(42, .int .i64)]
   | _ => []
 plans := fun i => match i with
   | 11 => .first 0 (.first 1 (.first 2 (.first 3 (.first 4 (.first 6 (.first 7 (.first 8 (.read 5 (.read 9 (.alt 10 [9] (.alt 11 [5] (.first 12 (.alt 13 [] (.done) (.stop))) (.stop)) (.stop)))))))))))
   | _ => .stop
def open_Play.W (t : Addr) (holdersA : Option Addr) (holdersn holdersc : Nat) (d : Int) (lA : Option Addr) (ln lc : Nat) (H : Heap) (R : Value → Heap → Prop) : Prop :=
 NewH (H.push (.cells #[.pointer (some t), .slice holdersA holdersn holdersc, .int .i64 d, .slice lA ln lc, .map none, .map none] 104 (0, 0))) fun H_ =>
 CallH P N.open_telling_round [.pointer (some (Addr.mk H.size 0 none))] H_ fun v H_2 =>
 v = .tuple #[] ∧ 0 ≤ ((ln : Nat) : Int) ∧ ((ln : Nat) : Int) ≤ ((ln : Nat) : Int) ∧ ((ln : Nat) : Int) * 24 ≤ 2 ^ 48 ∧ ((ln : Nat) : Int) < 2 ^ 62 ∧ NewH (H_2.push (.cells (repl (Int.toNat ((ln : Nat) : Int)) [.slice none 0 0]).toArray 63 (0, 0))) fun H_3 =>
 ∃ x : Int, cellH H_3 (t.add 1) = some (.int .i64 x) ∧ LoopI (σ := Int) (fun κ => κ 0 H_3) fun s z H_4 next =>
 cond (decide (s < (IntKind.i64.wrap (x + 1)))) (CallH P N.open_telling_read [.pointer (some (Addr.mk H.size 0 none)), .int .i64 s] H_4 fun v2 H_5 =>
 ∃ (rA : Option Addr) (rn rc : Nat), v2 = .slice rA rn rc ∧ CallH P N.open_telling_of [.pointer (some (Addr.mk H.size 0 none)), .int .i64 s] H_5 fun v3 H_6 =>
 ∃ (rA2 : Option Addr) (rn2 rc2 : Nat), v3 = .slice rA2 rn2 rc2 ∧ LoopI (σ := Int) (fun κ => κ 0 H_6) fun s2 z2 H_7 next2 =>
 cond (decide (s2 < ((rn2 : Nat) : Int))) (∃ a : Addr, rA2 = some a ∧ 0 ≤ s2 ∧ s2 < ((rn2 : Nat) : Int) ∧ ∃ x2 : Int, cellH H_7 (a.add (Int.toNat s2)) = some (.int .i64 x2) ∧ ∃ a2 : Addr, (some (Addr.mk H_2.size 0 none) : Option Addr) = some a2 ∧ 0 ≤ x2 ∧ x2 < ((Int.toNat ((ln : Nat) : Int) : Nat) : Int) ∧ ∃ a3 : Addr, rA = some a3 ∧ 0 ≤ s2 ∧ s2 < ((rn : Nat) : Int) ∧ ∃ (xA : Option Addr) (xn xc : Nat), cellH H_7 (a2.add (Int.toNat x2)) = some (.slice xA xn xc) ∧ ∃ x0 : Int, ∃ (x1A : Option Addr) (x1n x1c : Nat), ∃ (x2A : Option Addr) (x2n x2c : Nat), ∃ x3 : Bool, cellH H_7 (a3.add ((Int.toNat s2) * 4)) = some (.int .u64 x0) ∧ cellH H_7 ((a3.add ((Int.toNat s2) * 4)).add 1) = some (.slice x1A x1n x1c) ∧ cellH H_7 ((a3.add ((Int.toNat s2) * 4)).add 2) = some (.slice x2A x2n x2c) ∧ cellH H_7 ((a3.add ((Int.toNat s2) * 4)).add 3) = some (.bool x3) ∧ NewH (H_7.push (.cells #[.int .u64 x0, .slice x1A x1n x1c, .slice x2A x2n x2c, .bool x3] 108 (0, 0))) fun H_8 =>
 cellH H_8 (a2.add (Int.toNat x2)) = some (.slice xA xn xc) ∧ AppendV 108 4 64 [.int .u64 0, .slice none 0 0, .slice none 0 0, .bool false] H_8 xA xn xc (some (Addr.mk H_7.size 0 none)) 1 fun vA vn vc H_9 =>
 ∃ a4 : Addr, (some (Addr.mk H_2.size 0 none) : Option Addr) = some a4 ∧ 0 ≤ x2 ∧ x2 < ((Int.toNat ((ln : Nat) : Int) : Nat) : Int) ∧ MayWrite H_9 (a4.add (Int.toNat x2)) 1 ∧ NewH (setH H_9 (a4.add (Int.toNat x2)) (.slice vA vn vc)) fun H_10 =>
 next2 (IntKind.i64.wrap (s2 + 1)) H_10)
  (next (IntKind.i64.wrap (s + 1)) H_7))
  (R (.slice (some (Addr.mk H_2.size 0 none)) (Int.toNat ((ln : Nat) : Int)) (Int.toNat ((ln : Nat) : Int))) H_4)
theorem open_Play.ok (t : Addr) (holdersA : Option Addr) (holdersn holdersc : Nat) (d : Int) (lA : Option Addr) (ln lc : Nat) (H : Heap) (R : Value → Heap → Prop) (h : open_Play.W t holdersA holdersn holdersc d lA ln lc H R) : CallH P N.open_Play [.pointer (some t), .slice holdersA holdersn holdersc, .int .i64 d, .slice lA ln lc] H R :=
 okW Try.func22 (by kernel_rfl) Try.ntmps22 open_Play.A (by kernel_rfl) (by kernel_rfl) h
def open_Bare.A : Ann where
 loops := fun i => match i with
   | 12294 => [(3, .slice), (8, .int .i64)]
   | _ => []
 plans := fun i => match i with
   | _ => .stop
def open_Bare.W (lA : Option Addr) (ln lc : Nat) (H : Heap) (R : Value → Heap → Prop) : Prop :=
 LoopI (σ := (Option Addr × Nat × Nat) × Int) (fun κ => κ ((none, 0, 0), 0) H) fun s z H_ next =>
 cond (decide (s.2 < ((ln : Nat) : Int))) (∃ a : Addr, lA = some a ∧ 0 ≤ s.2 ∧ s.2 < ((ln : Nat) : Int) ∧ ∃ x0 : Int, ∃ (x1A : Option Addr) (x1n x1c : Nat), ∃ (x2A : Option Addr) (x2n x2c : Nat), ∃ x3 : Bool, cellH H_ (a.add ((Int.toNat s.2) * 4)) = some (.int .u64 x0) ∧ cellH H_ ((a.add ((Int.toNat s.2) * 4)).add 1) = some (.slice x1A x1n x1c) ∧ cellH H_ ((a.add ((Int.toNat s.2) * 4)).add 2) = some (.slice x2A x2n x2c) ∧ cellH H_ ((a.add ((Int.toNat s.2) * 4)).add 3) = some (.bool x3) ∧ NewH (H_.push (.cells #[.int .u64 0, .slice none 0 0, .slice none 0 0, .bool false] 108 (0, 0))) fun H_2 =>
 MayWrite H_2 (Addr.mk H_.size 0 none) 4 ∧ NewH (setH (setH (setH (setH H_2 (Addr.mk H_.size 0 none) (.int .u64 x0)) (((Addr.mk H_.size 0 none)).add 1) (.slice x1A x1n x1c)) (((Addr.mk H_.size 0 none)).add 2) (.slice x2A x2n x2c)) (((Addr.mk H_.size 0 none)).add 3) (.bool x3)) fun H_3 =>
 ∃ x02 : Int, ∃ (x1A2 : Option Addr) (x1n2 x1c2 : Nat), ∃ (x2A2 : Option Addr) (x2n2 x2c2 : Nat), cellH H_3 (Addr.mk H_.size 0 none) = some (.int .u64 x02) ∧ cellH H_3 (((Addr.mk H_.size 0 none)).add 1) = some (.slice x1A2 x1n2 x1c2) ∧ cellH H_3 (((Addr.mk H_.size 0 none)).add 2) = some (.slice x2A2 x2n2 x2c2) ∧ NewH (H_3.push (.cells #[.int .u64 x02, .slice x1A2 x1n2 x1c2, .slice x2A2 x2n2 x2c2] 44 (0, 0))) fun H_4 =>
 AppendV 44 3 56 [.int .u64 0, .slice none 0 0, .slice none 0 0] H_4 s.1.1 s.1.2.1 s.1.2.2 (some (Addr.mk H_3.size 0 none)) 1 fun vA vn vc H_5 =>
 next ((vA, vn, vc), IntKind.i64.wrap (s.2 + 1)) H_5)
  (R (.slice s.1.1 s.1.2.1 s.1.2.2) H_)
theorem open_Bare.ok (lA : Option Addr) (ln lc : Nat) (H : Heap) (R : Value → Heap → Prop) (h : open_Bare.W lA ln lc H R) : CallH P N.open_Bare [.slice lA ln lc] H R :=
 okW Try.func23 (by kernel_rfl) Try.ntmps23 open_Bare.A (by kernel_rfl) (by kernel_rfl) h
def open_Are.A : Ann where
 loops := fun i => match i with
   | 8198 => [(11, .int .i64)]
   | _ => []
 plans := fun i => match i with
   | _ => .stop
def open_Are.W (p : Int) (holdersA : Option Addr) (holdersn holdersc : Nat) (lA : Option Addr) (ln lc : Nat) (H : Heap) (R : Value → Heap → Prop) : Prop :=
 LoopI (σ := Int) (fun κ => κ 0 H) fun s z H_ next =>
 cond (decide (s < ((ln : Nat) : Int))) (∃ a : Addr, lA = some a ∧ 0 ≤ s ∧ s < ((ln : Nat) : Int) ∧ ∃ (xA : Option Addr) (xn xc : Nat), cellH H_ (a.add (Int.toNat s)) = some (.slice xA xn xc) ∧ cond (((xn : Nat) : Int) != ((holdersn : Nat) : Int)) (R (.int .i64 2) H_) (CallH P N.field_Below [.int .u64 p, .slice xA xn xc] H_ fun v H_2 =>
 ∃ r : Int, v = .int .i64 r ∧ cond (r != 0) (R (.int .i64 2) H_2)
  (next (IntKind.i64.wrap (s + 1)) H_2)))
  (R (.int .i64 0) H_)
theorem open_Are.ok (p : Int) (holdersA : Option Addr) (holdersn holdersc : Nat) (lA : Option Addr) (ln lc : Nat) (H : Heap) (R : Value → Heap → Prop) (h : open_Are.W p holdersA holdersn holdersc lA ln lc H R) : CallH P N.open_Are [.int .u64 p, .slice holdersA holdersn holdersc, .slice lA ln lc] H R :=
 okW Try.func40 (by kernel_rfl) Try.ntmps40 open_Are.A (by kernel_rfl) (by kernel_rfl) h
def open_Fits.A : Ann where
 loops := fun i => match i with
   | 12295 => [(9, .slice), (16, .int .i64)]
   | _ => []
 plans := fun i => match i with
   | _ => .stop
def open_Fits.W (w_0 : Int) (w_1 : Int) (w_2 : Int) (w_3A : Option Addr) (w_3n w_3c : Nat) (w_4A : Option Addr) (w_4n w_4c : Nat) (w_5A : Option Addr) (w_5n w_5c : Nat) (w_6 : Int) (w_7A : Option Addr) (w_7n w_7c : Nat) (holdersA : Option Addr) (holdersn holdersc : Nat) (d : Int) (sharesA : Option Addr) (sharesn sharesc : Nat) (H : Heap) (R : Value → Heap → Prop) : Prop :=
 NewH (H.push (.cells #[.int .u64 w_0, .int .i64 w_1, .int .i64 w_2, .slice w_3A w_3n w_3c, .slice w_4A w_4n w_4c, .slice w_5A w_5n w_5c, .int .i64 w_6, .slice w_7A w_7n w_7c] 30 (0, 0))) fun H_ =>
 LoopI (σ := (Option Addr × Nat × Nat) × Int) (fun κ => κ ((none, 0, 0), 0) H_) fun s z H_2 next =>
 cond (decide (s.2 < ((holdersn : Nat) : Int))) (∃ a : Addr, holdersA = some a ∧ 0 ≤ s.2 ∧ s.2 < ((holdersn : Nat) : Int) ∧ ∃ x : Int, cellH H_2 (a.add (Int.toNat s.2)) = some (.int .i64 x) ∧ ∃ (xA : Option Addr) (xn xc : Nat), cellH H_2 (((Addr.mk H.size 0 none)).add 3) = some (.slice xA xn xc) ∧ CallH P N.slices_Contains_intint [.slice xA xn xc, .int .i64 x] H_2 fun v H_3 =>
 ∃ r : Bool, v = .bool r ∧ cond (!r) (∃ a2 : Addr, sharesA = some a2 ∧ 0 ≤ s.2 ∧ s.2 < ((sharesn : Nat) : Int) ∧ ∃ x2 : Int, cellH H_3 (a2.add (Int.toNat s.2)) = some (.int .u64 x2) ∧ NewH (H_3.push (.cells #[.int .u64 (IntKind.u64.wrap x), .int .u64 x2] 71 (0, 0))) fun H_4 =>
 AppendV 71 2 16 [.int .u64 0, .int .u64 0] H_4 s.1.1 s.1.2.1 s.1.2.2 (some (Addr.mk H_3.size 0 none)) 1 fun vA vn vc H_5 =>
 next ((vA, vn, vc), IntKind.i64.wrap (s.2 + 1)) H_5)
  (next ((s.1.1, s.1.2.1, s.1.2.2), IntKind.i64.wrap (s.2 + 1)) H_3))
  (∃ x3 : Int, cellH H_2 (Addr.mk H.size 0 none) = some (.int .u64 x3) ∧ CallH P N.open_straight [.int .u64 x3, .int .i64 d, .slice s.1.1 s.1.2.1 s.1.2.2] H_2 fun v3 H_6 =>
 ∃ (r0A : Option Addr) (r0n r0c : Nat), ∃ r1 : Bool, v3 = .tuple #[.slice r0A r0n r0c, .bool r1] ∧ R (.bool r1) H_6)
theorem open_Fits.ok (w_0 : Int) (w_1 : Int) (w_2 : Int) (w_3A : Option Addr) (w_3n w_3c : Nat) (w_4A : Option Addr) (w_4n w_4c : Nat) (w_5A : Option Addr) (w_5n w_5c : Nat) (w_6 : Int) (w_7A : Option Addr) (w_7n w_7c : Nat) (holdersA : Option Addr) (holdersn holdersc : Nat) (d : Int) (sharesA : Option Addr) (sharesn sharesc : Nat) (H : Heap) (R : Value → Heap → Prop) (h : open_Fits.W w_0 w_1 w_2 w_3A w_3n w_3c w_4A w_4n w_4c w_5A w_5n w_5c w_6 w_7A w_7n w_7c holdersA holdersn holdersc d sharesA sharesn sharesc H R) : CallH P N.open_Fits [.agg #[.int .u64 w_0, .int .i64 w_1, .int .i64 w_2, .slice w_3A w_3n w_3c, .slice w_4A w_4n w_4c, .slice w_5A w_5n w_5c, .int .i64 w_6, .slice w_7A w_7n w_7c], .slice holdersA holdersn holdersc, .int .i64 d, .slice sharesA sharesn sharesc] H R :=
 okW Try.func41 (by kernel_rfl) Try.ntmps41 open_Fits.A (by kernel_rfl) (by kernel_rfl) h
def open_telling_round.A : Ann where
 loops := fun i => match i with
   | 12304 => [(43, .int .i64)]
   | 24591 => [(50, .int .i64)]
   | 36878 => [(59, .int .i64)]
   | 86040 => [(147, .int .i64)]
   | 106523 => [(16, .int .i64)]
   | 122913 => [(179, .int .i64)]
   | _ => []
 plans := fun i => match i with
   | 0 => .first 0 (.first 1 (.first 2 (.first 8 (.first 9 (.first 10 (.read 3 (.first 4 (.first 5 (.first 6 (.read 7 (.first 16 (.read 11 (.first 12 (.first 13 (.first 14 (.read 15 (.first 17 (.done))))))))))))))))))
   | 12 => .first 0 (.first 1 (.first 2 (.first 3 (.first 4 (.first 5 (.first 6 (.first 8 (.first 9 (.first 10 (.first 12 (.first 16 (.read 7 (.read 11 (.first 13 (.first 14 (.read 15 (.first 17 (.read 18 (.alt 19 [11, 15, 18] (.alt 20 [7] (.first 21 (.alt 22 [] (.done) (.stop))) (.stop)) (.stop))))))))))))))))))))
   | 13 => .first 0 (.first 1 (.first 2 (.first 3 (.first 5 (.first 6 (.first 7 (.first 8 (.first 9 (.first 10 (.first 12 (.first 13 (.first 16 (.first 17 (.first 18 (.first 20 (.first 24 (.read 4 (.read 11 (.first 14 (.read 15 (.read 19 (.first 21 (.first 22 (.read 23 (.first 25 (.read 26 (.alt 27 [19, 23, 26] (.alt 28 [11, 15] (.first 29 (.alt 30 [4] (.done) (.stop))) (.stop)) (.stop))))))))))))))))))))))))))))
   | 23 => .first 0 (.first 1 (.first 2 (.first 4 (.first 5 (.first 6 (.first 7 (.first 8 (.first 9 (.first 11 (.read 3 (.read 10 (.alt 12 [10] (.alt 13 [3] (.done) (.stop)) (.stop)))))))))))))
   | 32 => .first 0 (.first 1 (.first 2 (.first 4 (.first 5 (.first 6 (.first 7 (.first 8 (.first 9 (.first 10 (.first 11 (.first 13 (.first 14 (.first 17 (.read 3 (.read 12 (.first 15 (.read 16 (.alt 18 [12, 16] (.alt 19 [3] (.done) (.stop)) (.stop)))))))))))))))))))
   | _ => .stop
def open_telling_round.W (x : Addr) (H : Heap) (R : Value → Heap → Prop) : Prop :=
 ∃ x2 : Addr, cellH H x = some (.pointer (some x2)) ∧ ∃ x3 : Int, cellH H (x2.add 1) = some (.int .i64 x3) ∧ ∃ x4 : Addr, cellH H x = some (.pointer (some x4)) ∧ ∃ x5 : Int, cellH H x4 = some (.int .u64 x5) ∧ CallH P N.net_Blank [.int .i64 x3] H fun v H_ =>
 ∃ (r0A : Option Addr) (r0n r0c : Nat), ∃ (r1A : Option Addr) (r1n r1c : Nat), v = .tuple #[.slice r0A r0n r0c, .slice r1A r1n r1c] ∧ LoopI (σ := Int) (fun κ => κ 0 H_) fun s z H_2 next =>
 cond (decide (s < (IntKind.i64.wrap (x3 + 1)))) (CallH P N.open_telling_of [.pointer (some x), .int .i64 s] H_2 fun v2 H_3 =>
 ∃ (rA : Option Addr) (rn rc : Nat), v2 = .slice rA rn rc ∧ LoopI (σ := Int) (fun κ => κ 0 H_3) fun s2 z2 H_4 next2 =>
 cond (decide (s2 < ((rn : Nat) : Int))) (∃ a : Addr, rA = some a ∧ 0 ≤ s2 ∧ s2 < ((rn : Nat) : Int) ∧ ∃ x6 : Int, cellH H_4 (a.add (Int.toNat s2)) = some (.int .i64 x6) ∧ ∃ (xA : Option Addr) (xn xc : Nat), cellH H_4 (x.add 1) = some (.slice xA xn xc) ∧ LoopI (σ := Int) (fun κ => κ 0 H_4) fun s3 z3 H_5 next3 =>
 cond (decide (s3 < ((xn : Nat) : Int))) (∃ a2 : Addr, xA = some a2 ∧ 0 ≤ s3 ∧ s3 < ((xn : Nat) : Int) ∧ ∃ x7 : Int, cellH H_5 (a2.add (Int.toNat s3)) = some (.int .i64 x7) ∧ cond (s == 0) (∃ a3 : Addr, r1A = some a3 ∧ 0 ≤ (IntKind.i64.wrap (x7 - 1)) ∧ (IntKind.i64.wrap (x7 - 1)) < ((r1n : Nat) : Int) ∧ ∃ (xA2 : Option Addr) (xn2 xc2 : Nat), cellH H_5 (a3.add (Int.toNat (IntKind.i64.wrap (x7 - 1)))) = some (.slice xA2 xn2 xc2) ∧ ∃ (xA3 : Option Addr) (xn3 xc3 : Nat), cellH H_5 (x.add 3) = some (.slice xA3 xn3 xc3) ∧ ∃ a4 : Addr, xA3 = some a4 ∧ 0 ≤ x6 ∧ x6 < ((xn3 : Nat) : Int) ∧ ∃ (xA4 : Option Addr) (xn4 xc4 : Nat), cellH H_5 ((a4.add ((Int.toNat x6) * 2)).add 1) = some (.slice xA4 xn4 xc4) ∧ ∃ a5 : Addr, xA4 = some a5 ∧ 0 ≤ s3 ∧ s3 < ((xn4 : Nat) : Int) ∧ ∃ x8 : Int, cellH H_5 (a5.add (Int.toNat s3)) = some (.int .u64 x8) ∧ NewH (H_5.push (.cells #[.int .u64 x8] 22 (0, 0))) fun H_6 =>
 cellH H_6 (a3.add (Int.toNat (IntKind.i64.wrap (x7 - 1)))) = some (.slice xA2 xn2 xc2) ∧ AppendV 22 1 8 [.int .u64 0] H_6 xA2 xn2 xc2 (some (Addr.mk H_5.size 0 none)) 1 fun vA vn vc H_7 =>
 ∃ a6 : Addr, r1A = some a6 ∧ 0 ≤ (IntKind.i64.wrap (x7 - 1)) ∧ (IntKind.i64.wrap (x7 - 1)) < ((r1n : Nat) : Int) ∧ MayWrite H_7 (a6.add (Int.toNat (IntKind.i64.wrap (x7 - 1)))) 1 ∧ NewH (setH H_7 (a6.add (Int.toNat (IntKind.i64.wrap (x7 - 1)))) (.slice vA vn vc)) fun H_8 =>
 next3 (IntKind.i64.wrap (s3 + 1)) H_8)
  (∃ a7 : Addr, r0A = some a7 ∧ 0 ≤ (IntKind.i64.wrap (x7 - 1)) ∧ (IntKind.i64.wrap (x7 - 1)) < ((r0n : Nat) : Int) ∧ ∃ a8 : Addr, r0A = some a8 ∧ 0 ≤ (IntKind.i64.wrap (x7 - 1)) ∧ (IntKind.i64.wrap (x7 - 1)) < ((r0n : Nat) : Int) ∧ ∃ (xA5 : Option Addr) (xn5 xc5 : Nat), cellH H_5 (a7.add (Int.toNat (IntKind.i64.wrap (x7 - 1)))) = some (.slice xA5 xn5 xc5) ∧ ∃ (xA6 : Option Addr) (xn6 xc6 : Nat), cellH H_5 (a8.add (Int.toNat (IntKind.i64.wrap (x7 - 1)))) = some (.slice xA6 xn6 xc6) ∧ ∃ a9 : Addr, xA6 = some a9 ∧ 0 ≤ (IntKind.i64.wrap (s - 1)) ∧ (IntKind.i64.wrap (s - 1)) < ((xn6 : Nat) : Int) ∧ ∃ (xA7 : Option Addr) (xn7 xc7 : Nat), cellH H_5 (a9.add (Int.toNat (IntKind.i64.wrap (s - 1)))) = some (.slice xA7 xn7 xc7) ∧ ∃ (xA8 : Option Addr) (xn8 xc8 : Nat), cellH H_5 (x.add 3) = some (.slice xA8 xn8 xc8) ∧ ∃ a10 : Addr, xA8 = some a10 ∧ 0 ≤ x6 ∧ x6 < ((xn8 : Nat) : Int) ∧ ∃ (xA9 : Option Addr) (xn9 xc9 : Nat), cellH H_5 ((a10.add ((Int.toNat x6) * 2)).add 1) = some (.slice xA9 xn9 xc9) ∧ ∃ a11 : Addr, xA9 = some a11 ∧ 0 ≤ s3 ∧ s3 < ((xn9 : Nat) : Int) ∧ ∃ x9 : Int, cellH H_5 (a11.add (Int.toNat s3)) = some (.int .u64 x9) ∧ NewH (H_5.push (.cells #[.int .u64 x9] 22 (0, 0))) fun H_9 =>
 cellH H_9 (a9.add (Int.toNat (IntKind.i64.wrap (s - 1)))) = some (.slice xA7 xn7 xc7) ∧ cellH H_9 (a8.add (Int.toNat (IntKind.i64.wrap (x7 - 1)))) = some (.slice xA6 xn6 xc6) ∧ cellH H_9 (a7.add (Int.toNat (IntKind.i64.wrap (x7 - 1)))) = some (.slice xA5 xn5 xc5) ∧ AppendV 22 1 8 [.int .u64 0] H_9 xA7 xn7 xc7 (some (Addr.mk H_5.size 0 none)) 1 fun vA2 vn2 vc2 H_10 =>
 cellH H_10 (a7.add (Int.toNat (IntKind.i64.wrap (x7 - 1)))) = some (.slice xA5 xn5 xc5) ∧ ∃ a12 : Addr, xA5 = some a12 ∧ 0 ≤ (IntKind.i64.wrap (s - 1)) ∧ (IntKind.i64.wrap (s - 1)) < ((xn5 : Nat) : Int) ∧ MayWrite H_10 (a12.add (Int.toNat (IntKind.i64.wrap (s - 1)))) 1 ∧ NewH (setH H_10 (a12.add (Int.toNat (IntKind.i64.wrap (s - 1)))) (.slice vA2 vn2 vc2)) fun H_11 =>
 next3 (IntKind.i64.wrap (s3 + 1)) H_11))
  (next2 (IntKind.i64.wrap (s2 + 1)) H_5))
  (next (IntKind.i64.wrap (s + 1)) H_4))
  (∃ x10 : Addr, cellH H_2 x = some (.pointer (some x10)) ∧ CallH P N.net_Table_Round [.pointer (some x10), .slice r0A r0n r0c, .slice r1A r1n r1c] H_2 fun v5 H_12 =>
 ∃ (r0A2 : Option Addr) (r0n2 r0c2 : Nat), ∃ (r1A2 : Option Addr) (r1n2 r1c2 : Nat), v5 = .tuple #[.slice r0A2 r0n2 r0c2, .slice r1A2 r1n2 r1c2] ∧ NewH (H_12.push (.map #[] 0)) fun H_13 =>
 NewH (H_13.push (.map #[] 0)) fun H_14 =>
 MayWrite H_14 (x.add 4) 1 ∧ NewH (setH H_14 (x.add 4) (.map (some H_12.size))) fun H_15 =>
 MayWrite H_15 (x.add 5) 1 ∧ NewH (setH H_15 (x.add 5) (.map (some H_13.size))) fun H_16 =>
 CallH P N.open_telling_of [.pointer (some x), .int .i64 0] H_16 fun v6 H_17 =>
 ∃ (rA2 : Option Addr) (rn2 rc2 : Nat), v6 = .slice rA2 rn2 rc2 ∧ ∃ (xA10 : Option Addr) (xn10 xc10 : Nat), cellH H_17 (x.add 1) = some (.slice xA10 xn10 xc10) ∧ LoopI (σ := Int) (fun κ => κ 0 H_17) fun s4 z4 H_18 next4 =>
 cond (decide (s4 < ((xn10 : Nat) : Int))) (∃ a13 : Addr, xA10 = some a13 ∧ 0 ≤ s4 ∧ s4 < ((xn10 : Nat) : Int) ∧ ∃ x11 : Int, cellH H_18 (a13.add (Int.toNat s4)) = some (.int .i64 x11) ∧ ∃ a14 : Addr, r1A2 = some a14 ∧ 0 ≤ (IntKind.i64.wrap (x11 - 1)) ∧ (IntKind.i64.wrap (x11 - 1)) < ((r1n2 : Nat) : Int) ∧ ∃ x12 : Nat, cellH H_18 (x.add 4) = some (.map (some x12)) ∧ ∃ (xA11 : Option Addr) (xn11 xc11 : Nat), cellH H_18 (a14.add (Int.toNat (IntKind.i64.wrap (x11 - 1)))) = some (.slice xA11 xn11 xc11) ∧ CallH P N.net_Of [.int .u64 x5, .slice xA11 xn11 xc11, .int .i64 ((rn2 : Nat) : Int)] H_18 fun v7 H_19 =>
 ∃ (rA3 : Option Addr) (rn3 rc3 : Nat), v7 = .slice rA3 rn3 rc3 ∧ cellH H_19 (x.add 4) = some (.map (some x12)) ∧ SemU P (Instr.mapUpdate 101 (.map (some x12)) (.int .i64 x11) (.slice rA3 rn3 rc3)) H_19 fun H_20 =>
 next4 (IntKind.i64.wrap (s4 + 1)) H_20)
  (LoopI (σ := Int) (fun κ => κ 1 H_18) fun s5 z5 H_21 next5 =>
 cond (decide (s5 ≤ x3)) (CallH P N.open_telling_of [.pointer (some x), .int .i64 s5] H_21 fun v8 H_22 =>
 ∃ (rA4 : Option Addr) (rn4 rc4 : Nat), v8 = .slice rA4 rn4 rc4 ∧ ∃ (xA12 : Option Addr) (xn12 xc12 : Nat), cellH H_22 (x.add 1) = some (.slice xA12 xn12 xc12) ∧ LoopI (σ := Int) (fun κ => κ 0 H_22) fun s6 z6 H_23 next6 =>
 cond (decide (s6 < ((xn12 : Nat) : Int))) (∃ a15 : Addr, xA12 = some a15 ∧ 0 ≤ s6 ∧ s6 < ((xn12 : Nat) : Int) ∧ ∃ x13 : Int, cellH H_23 (a15.add (Int.toNat s6)) = some (.int .i64 x13) ∧ ∃ a16 : Addr, r0A2 = some a16 ∧ 0 ≤ (IntKind.i64.wrap (s5 - 1)) ∧ (IntKind.i64.wrap (s5 - 1)) < ((r0n2 : Nat) : Int) ∧ ∃ x14 : Nat, cellH H_23 (x.add 5) = some (.map (some x14)) ∧ ∃ (xA13 : Option Addr) (xn13 xc13 : Nat), cellH H_23 (a16.add (Int.toNat (IntKind.i64.wrap (s5 - 1)))) = some (.slice xA13 xn13 xc13) ∧ ∃ a17 : Addr, xA13 = some a17 ∧ 0 ≤ (IntKind.i64.wrap (x13 - 1)) ∧ (IntKind.i64.wrap (x13 - 1)) < ((xn13 : Nat) : Int) ∧ ∃ (xA14 : Option Addr) (xn14 xc14 : Nat), cellH H_23 (a17.add (Int.toNat (IntKind.i64.wrap (x13 - 1)))) = some (.slice xA14 xn14 xc14) ∧ CallH P N.net_Of [.int .u64 x5, .slice xA14 xn14 xc14, .int .i64 ((rn4 : Nat) : Int)] H_23 fun v9 H_24 =>
 ∃ (rA5 : Option Addr) (rn5 rc5 : Nat), v9 = .slice rA5 rn5 rc5 ∧ cellH H_24 (x.add 5) = some (.map (some x14)) ∧ SemU P (Instr.mapUpdate 102 (.map (some x14)) (.agg #[.int .i64 s5, .int .i64 x13]) (.slice rA5 rn5 rc5)) H_24 fun H_25 =>
 next6 (IntKind.i64.wrap (s6 + 1)) H_25)
  (next5 (IntKind.i64.wrap (s5 + 1)) H_23))
  (R (.tuple #[]) H_21)))
theorem open_telling_round.ok (x : Addr) (H : Heap) (R : Value → Heap → Prop) (h : open_telling_round.W x H R) : CallH P N.open_telling_round [.pointer (some x)] H R :=
 okW Try.func47 (by kernel_rfl) Try.ntmps47 open_telling_round.A (by kernel_rfl) (by kernel_rfl) h
def open_telling_read.A : Ann where
 loops := fun i => match i with
   | 12302 => [(5, .slice), (14, .int .i64)]
   | 28684 => [(28, .int .i64)]
   | _ => []
 plans := fun i => match i with
   | 13 => .first 0 (.first 1 (.first 2 (.first 3 (.first 8 (.first 9 (.first 10 (.first 12 (.first 13 (.first 14 (.first 16 (.read 4 (.first 5 (.first 6 (.read 7 (.read 11 (.read 15 (.alt 17 [4, 7, 11, 15] (.alt 18 [] (.alt 19 [] (.first 20 (.done)) (.stop)) (.stop)) (.stop))))))))))))))))))
   | _ => .stop
def open_telling_read.W (x : Addr) (party : Int) (H : Heap) (R : Value → Heap → Prop) : Prop :=
 CallH P N.open_telling_of [.pointer (some x), .int .i64 party] H fun v H_ =>
 ∃ (rA : Option Addr) (rn rc : Nat), v = .slice rA rn rc ∧ LoopI (σ := (Option Addr × Nat × Nat) × Int) (fun κ => κ ((none, 0, 0), 0) H_) fun s z H_2 next =>
 cond (decide (s.2 < ((rn : Nat) : Int))) (∃ (xA : Option Addr) (xn xc : Nat), cellH H_2 (x.add 1) = some (.slice xA xn xc) ∧ 0 ≤ ((xn : Nat) : Int) ∧ ((xn : Nat) : Int) ≤ ((xn : Nat) : Int) ∧ ((xn : Nat) : Int) * 8 ≤ 2 ^ 48 ∧ ((xn : Nat) : Int) < 2 ^ 62 ∧ NewH (H_2.push (.cells (repl (Int.toNat ((xn : Nat) : Int)) [.int .u64 0]).toArray 22 (0, 0))) fun H_3 =>
 ∃ (xA2 : Option Addr) (xn2 xc2 : Nat), cellH H_3 (x.add 1) = some (.slice xA2 xn2 xc2) ∧ LoopI (σ := Int) (fun κ => κ 0 H_3) fun s2 z2 H_4 next2 =>
 cond (decide (s2 < ((xn2 : Nat) : Int))) (∃ a : Addr, xA2 = some a ∧ 0 ≤ s2 ∧ s2 < ((xn2 : Nat) : Int) ∧ ∃ x2 : Int, cellH H_4 (a.add (Int.toNat s2)) = some (.int .i64 x2) ∧ cond (party == 0) (∃ x3 : Nat, cellH H_4 (x.add 4) = some (.map (some x3)) ∧ SemV P (Instr.lookup 101 (.map (some x3)) (.int .i64 x2) false) H_4 fun v2 H_5 =>
 ∃ (vA : Option Addr) (vn vc : Nat), v2 = .slice vA vn vc ∧ ∃ a2 : Addr, vA = some a2 ∧ 0 ≤ s.2 ∧ s.2 < ((vn : Nat) : Int) ∧ ∃ x4 : Int, cellH H_5 (a2.add (Int.toNat s.2)) = some (.int .u64 x4) ∧ ∃ a3 : Addr, (some (Addr.mk H_2.size 0 none) : Option Addr) = some a3 ∧ 0 ≤ s2 ∧ s2 < ((Int.toNat ((xn : Nat) : Int) : Nat) : Int) ∧ MayWrite H_5 (a3.add (Int.toNat s2)) 1 ∧ NewH (setH H_5 (a3.add (Int.toNat s2)) (.int .u64 x4)) fun H_6 =>
 next2 (IntKind.i64.wrap (s2 + 1)) H_6)
  (∃ x5 : Nat, cellH H_4 (x.add 5) = some (.map (some x5)) ∧ SemV P (Instr.lookup 102 (.map (some x5)) (.agg #[.int .i64 party, .int .i64 x2]) false) H_4 fun v3 H_7 =>
 ∃ (vA2 : Option Addr) (vn2 vc2 : Nat), v3 = .slice vA2 vn2 vc2 ∧ ∃ a4 : Addr, vA2 = some a4 ∧ 0 ≤ s.2 ∧ s.2 < ((vn2 : Nat) : Int) ∧ ∃ x6 : Int, cellH H_7 (a4.add (Int.toNat s.2)) = some (.int .u64 x6) ∧ ∃ a5 : Addr, (some (Addr.mk H_2.size 0 none) : Option Addr) = some a5 ∧ 0 ≤ s2 ∧ s2 < ((Int.toNat ((xn : Nat) : Int) : Nat) : Int) ∧ MayWrite H_7 (a5.add (Int.toNat s2)) 1 ∧ NewH (setH H_7 (a5.add (Int.toNat s2)) (.int .u64 x6)) fun H_8 =>
 next2 (IntKind.i64.wrap (s2 + 1)) H_8))
  (∃ x7 : Addr, cellH H_4 x = some (.pointer (some x7)) ∧ ∃ x0 : Int, ∃ x1 : Int, ∃ x22 : Int, cellH H_4 x7 = some (.int .u64 x0) ∧ cellH H_4 (x7.add 1) = some (.int .i64 x1) ∧ cellH H_4 (x7.add 2) = some (.int .i64 x22) ∧ ∃ (xA3 : Option Addr) (xn3 xc3 : Nat), cellH H_4 (x.add 1) = some (.slice xA3 xn3 xc3) ∧ ∃ x8 : Int, cellH H_4 (x.add 2) = some (.int .i64 x8) ∧ CallH P N.open_Decode [.agg #[.int .u64 x0, .int .i64 x1, .int .i64 x22], .slice xA3 xn3 xc3, .int .i64 x8, .slice (some (Addr.mk H_2.size 0 none)) (Int.toNat ((xn : Nat) : Int)) (Int.toNat ((xn : Nat) : Int))] H_4 fun v4 H_9 =>
 ∃ r0 : Int, ∃ (r1A : Option Addr) (r1n r1c : Nat), ∃ (r2A : Option Addr) (r2n r2c : Nat), ∃ r3 : Bool, v4 = .agg #[.int .u64 r0, .slice r1A r1n r1c, .slice r2A r2n r2c, .bool r3] ∧ NewH (H_9.push (.cells #[.int .u64 r0, .slice r1A r1n r1c, .slice r2A r2n r2c, .bool r3] 108 (0, 0))) fun H_10 =>
 AppendV 108 4 64 [.int .u64 0, .slice none 0 0, .slice none 0 0, .bool false] H_10 s.1.1 s.1.2.1 s.1.2.2 (some (Addr.mk H_9.size 0 none)) 1 fun vA3 vn3 vc3 H_11 =>
 next ((vA3, vn3, vc3), IntKind.i64.wrap (s.2 + 1)) H_11))
  (R (.slice s.1.1 s.1.2.1 s.1.2.2) H_2)
theorem open_telling_read.ok (x : Addr) (party : Int) (H : Heap) (R : Value → Heap → Prop) (h : open_telling_read.W x party H R) : CallH P N.open_telling_read [.pointer (some x), .int .i64 party] H R :=
 okW Try.func48 (by kernel_rfl) Try.ntmps48 open_telling_read.A (by kernel_rfl) (by kernel_rfl) h
def open_telling_of.A : Ann where
 loops := fun i => match i with
   | 12295 => [(5, .slice), (13, .int .i64)]
   | _ => []
 plans := fun i => match i with
   | _ => .stop
def open_telling_of.W (x : Addr) (party : Int) (H : Heap) (R : Value → Heap → Prop) : Prop :=
 ∃ (xA : Option Addr) (xn xc : Nat), cellH H (x.add 3) = some (.slice xA xn xc) ∧ LoopI (σ := (Option Addr × Nat × Nat) × Int) (fun κ => κ ((none, 0, 0), 0) H) fun s z H_ next =>
 cond (decide (s.2 < ((xn : Nat) : Int))) (∃ a : Addr, xA = some a ∧ 0 ≤ s.2 ∧ s.2 < ((xn : Nat) : Int) ∧ ∃ (x0A : Option Addr) (x0n x0c : Nat), ∃ (x1A : Option Addr) (x1n x1c : Nat), cellH H_ (a.add ((Int.toNat s.2) * 2)) = some (.slice x0A x0n x0c) ∧ cellH H_ ((a.add ((Int.toNat s.2) * 2)).add 1) = some (.slice x1A x1n x1c) ∧ NewH (H_.push (.cells #[.slice none 0 0, .slice none 0 0] 39 (0, 0))) fun H_2 =>
 MayWrite H_2 (Addr.mk H_.size 0 none) 2 ∧ NewH (setH (setH H_2 (Addr.mk H_.size 0 none) (.slice x0A x0n x0c)) (((Addr.mk H_.size 0 none)).add 1) (.slice x1A x1n x1c)) fun H_3 =>
 cond (party == 0) (∃ (xA2 : Option Addr) (xn2 xc2 : Nat), cellH H_3 (Addr.mk H_.size 0 none) = some (.slice xA2 xn2 xc2) ∧ cond (((xn2 : Nat) : Int) == 0) (NewH (H_3.push (.cells #[.int .i64 s.2] 3 (0, 0))) fun H_4 =>
 AppendV 3 1 8 [.int .i64 0] H_4 s.1.1 s.1.2.1 s.1.2.2 (some (Addr.mk H_3.size 0 none)) 1 fun vA vn vc H_5 =>
 next ((vA, vn, vc), IntKind.i64.wrap (s.2 + 1)) H_5) (cond (decide (party > 0)) (∃ (xA3 : Option Addr) (xn3 xc3 : Nat), cellH H_3 (Addr.mk H_.size 0 none) = some (.slice xA3 xn3 xc3) ∧ CallH P N.slices_Contains_intint [.slice xA3 xn3 xc3, .int .i64 party] H_3 fun v2 H_6 =>
 ∃ r : Bool, v2 = .bool r ∧ cond r (NewH (H_6.push (.cells #[.int .i64 s.2] 3 (0, 0))) fun H_7 =>
 AppendV 3 1 8 [.int .i64 0] H_7 s.1.1 s.1.2.1 s.1.2.2 (some (Addr.mk H_6.size 0 none)) 1 fun vA2 vn2 vc2 H_8 =>
 next ((vA2, vn2, vc2), IntKind.i64.wrap (s.2 + 1)) H_8)
  (next ((s.1.1, s.1.2.1, s.1.2.2), IntKind.i64.wrap (s.2 + 1)) H_6)) (next ((s.1.1, s.1.2.1, s.1.2.2), IntKind.i64.wrap (s.2 + 1)) H_3))) (cond (decide (party > 0)) (∃ (xA4 : Option Addr) (xn4 xc4 : Nat), cellH H_3 (Addr.mk H_.size 0 none) = some (.slice xA4 xn4 xc4) ∧ CallH P N.slices_Contains_intint [.slice xA4 xn4 xc4, .int .i64 party] H_3 fun v4 H_9 =>
 ∃ r2 : Bool, v4 = .bool r2 ∧ cond r2 (NewH (H_9.push (.cells #[.int .i64 s.2] 3 (0, 0))) fun H_10 =>
 AppendV 3 1 8 [.int .i64 0] H_10 s.1.1 s.1.2.1 s.1.2.2 (some (Addr.mk H_9.size 0 none)) 1 fun vA3 vn3 vc3 H_11 =>
 next ((vA3, vn3, vc3), IntKind.i64.wrap (s.2 + 1)) H_11)
  (next ((s.1.1, s.1.2.1, s.1.2.2), IntKind.i64.wrap (s.2 + 1)) H_9)) (next ((s.1.1, s.1.2.1, s.1.2.2), IntKind.i64.wrap (s.2 + 1)) H_3)))
  (R (.slice s.1.1 s.1.2.1 s.1.2.2) H_)
theorem open_telling_of.ok (x : Addr) (party : Int) (H : Heap) (R : Value → Heap → Prop) (h : open_telling_of.W x party H R) : CallH P N.open_telling_of [.pointer (some x), .int .i64 party] H R :=
 okW Try.func49 (by kernel_rfl) Try.ntmps49 open_telling_of.A (by kernel_rfl) (by kernel_rfl) h
def open_Public.A : Ann where
 loops := fun i => match i with
   | 12294 => [(9, .slice), (17, .int .i64)]
   | 36876 => [(12, .slice), (33, .int .i64)]
   | _ => []
 plans := fun i => match i with
   | _ => .stop
def open_Public.W (t : Addr) (holdersA : Option Addr) (holdersn holdersc : Nat) (d : Int) (sharesA : Option Addr) (sharesn sharesc : Nat) (H : Heap) (R : Value → Heap → Prop) : Prop :=
 LoopI (σ := (Option Addr × Nat × Nat) × Int) (fun κ => κ ((none, 0, 0), 0) H) fun s z H_ next =>
 cond (decide (s.2 < ((sharesn : Nat) : Int))) (∃ a : Addr, sharesA = some a ∧ 0 ≤ s.2 ∧ s.2 < ((sharesn : Nat) : Int) ∧ ∃ (xA : Option Addr) (xn xc : Nat), cellH H_ (a.add (Int.toNat s.2)) = some (.slice xA xn xc) ∧ NewH (H_.push (.cells #[.slice none 0 0, .slice xA xn xc] 39 (0, 0))) fun H_2 =>
 AppendV 39 2 48 [.slice none 0 0, .slice none 0 0] H_2 s.1.1 s.1.2.1 s.1.2.2 (some (Addr.mk H_.size 0 none)) 1 fun vA vn vc H_3 =>
 next ((vA, vn, vc), IntKind.i64.wrap (s.2 + 1)) H_3)
  (CallH P N.open_Play [.pointer (some t), .slice holdersA holdersn holdersc, .int .i64 d, .slice s.1.1 s.1.2.1 s.1.2.2] H_ fun v2 H_4 =>
 ∃ (rA : Option Addr) (rn rc : Nat), v2 = .slice rA rn rc ∧ LoopI (σ := (Option Addr × Nat × Nat) × Int) (fun κ => κ ((none, 0, 0), 0) H_4) fun s2 z2 H_5 next2 =>
 cond (decide (s2.2 < ((rn : Nat) : Int))) (∃ a2 : Addr, rA = some a2 ∧ 0 ≤ s2.2 ∧ s2.2 < ((rn : Nat) : Int) ∧ ∃ (xA2 : Option Addr) (xn2 xc2 : Nat), cellH H_5 (a2.add (Int.toNat s2.2)) = some (.slice xA2 xn2 xc2) ∧ ∃ a3 : Addr, xA2 = some a3 ∧ 0 ≤ (0 : Int) ∧ (0 : Int) < ((xn2 : Nat) : Int) ∧ ∃ x0 : Int, ∃ (x1A : Option Addr) (x1n x1c : Nat), ∃ (x2A : Option Addr) (x2n x2c : Nat), ∃ x3 : Bool, cellH H_5 (a3.add (0 * 4)) = some (.int .u64 x0) ∧ cellH H_5 ((a3.add (0 * 4)).add 1) = some (.slice x1A x1n x1c) ∧ cellH H_5 ((a3.add (0 * 4)).add 2) = some (.slice x2A x2n x2c) ∧ cellH H_5 ((a3.add (0 * 4)).add 3) = some (.bool x3) ∧ NewH (H_5.push (.cells #[.int .u64 x0, .slice x1A x1n x1c, .slice x2A x2n x2c, .bool x3] 108 (0, 0))) fun H_6 =>
 AppendV 108 4 64 [.int .u64 0, .slice none 0 0, .slice none 0 0, .bool false] H_6 s2.1.1 s2.1.2.1 s2.1.2.2 (some (Addr.mk H_5.size 0 none)) 1 fun vA2 vn2 vc2 H_7 =>
 next2 ((vA2, vn2, vc2), IntKind.i64.wrap (s2.2 + 1)) H_7)
  (R (.slice s2.1.1 s2.1.2.1 s2.1.2.2) H_5))
theorem open_Public.ok (t : Addr) (holdersA : Option Addr) (holdersn holdersc : Nat) (d : Int) (sharesA : Option Addr) (sharesn sharesc : Nat) (H : Heap) (R : Value → Heap → Prop) (h : open_Public.W t holdersA holdersn holdersc d sharesA sharesn sharesc H R) : CallH P N.open_Public [.pointer (some t), .slice holdersA holdersn holdersc, .int .i64 d, .slice sharesA sharesn sharesc] H R :=
 okW Try.func52 (by kernel_rfl) Try.ntmps52 open_Public.A (by kernel_rfl) (by kernel_rfl) h
def open_straight.A : Ann where
 loops := fun i => match i with
   | 12295 => [(22, .int .i64)]
   | _ => []
 plans := fun i => match i with
   | 5 => .first 0 (.first 1 (.first 2 (.first 5 (.read 3 (.read 6 (.alt 4 [3] (.first 7 (.done)) (.stop)))))))
   | _ => .stop
def open_straight.W (p : Int) (d : Int) (lA : Option Addr) (ln lc : Nat) (H : Heap) (R : Value → Heap → Prop) : Prop :=
 0 ≤ (if ((ln : Nat) : Int) < (IntKind.i64.wrap (d + 1)) then ((ln : Nat) : Int) else (IntKind.i64.wrap (d + 1))) ∧ (if ((ln : Nat) : Int) < (IntKind.i64.wrap (d + 1)) then ((ln : Nat) : Int) else (IntKind.i64.wrap (d + 1))) ≤ ((lc : Nat) : Int) ∧ CallH P N.poly_Fit [.int .u64 p, .slice lA (Int.toNat (if ((ln : Nat) : Int) < (IntKind.i64.wrap (d + 1)) then ((ln : Nat) : Int) else (IntKind.i64.wrap (d + 1)))) lc] H fun v H_ =>
 ∃ (rA : Option Addr) (rn rc : Nat), v = .slice rA rn rc ∧ LoopI (σ := Int) (fun κ => κ 0 H_) fun s z H_2 next =>
 cond (decide (s < ((ln : Nat) : Int))) (∃ a : Addr, lA = some a ∧ 0 ≤ s ∧ s < ((ln : Nat) : Int) ∧ ∃ x0 : Int, ∃ x1 : Int, cellH H_2 (a.add ((Int.toNat s) * 2)) = some (.int .u64 x0) ∧ cellH H_2 ((a.add ((Int.toNat s) * 2)).add 1) = some (.int .u64 x1) ∧ NewH (H_2.push (.cells #[.int .u64 0, .int .u64 0] 71 (0, 0))) fun H_3 =>
 MayWrite H_3 (Addr.mk H_2.size 0 none) 2 ∧ NewH (setH (setH H_3 (Addr.mk H_2.size 0 none) (.int .u64 x0)) (((Addr.mk H_2.size 0 none)).add 1) (.int .u64 x1)) fun H_4 =>
 ∃ x : Int, cellH H_4 (Addr.mk H_2.size 0 none) = some (.int .u64 x) ∧ ∃ x2 : Int, cellH H_4 (((Addr.mk H_2.size 0 none)).add 1) = some (.int .u64 x2) ∧ CallH P N.poly_At [.int .u64 p, .slice rA rn rc, .int .u64 x] H_4 fun v2 H_5 =>
 ∃ r : Int, v2 = .int .u64 r ∧ cellH H_5 (((Addr.mk H_2.size 0 none)).add 1) = some (.int .u64 x2) ∧ cond (r != x2) (R (.tuple #[.slice none 0 0, .bool false]) H_5)
  (next (IntKind.i64.wrap (s + 1)) H_5))
  (R (.tuple #[.slice rA rn rc, .bool true]) H_2)
theorem open_straight.ok (p : Int) (d : Int) (lA : Option Addr) (ln lc : Nat) (H : Heap) (R : Value → Heap → Prop) (h : open_straight.W p d lA ln lc H R) : CallH P N.open_straight [.int .u64 p, .int .i64 d, .slice lA ln lc] H R :=
 okW Try.func61 (by kernel_rfl) Try.ntmps61 open_straight.A (by kernel_rfl) (by kernel_rfl) h
def open_Decode.A : Ann where
 loops := fun i => match i with
   | 40973 => [(61, .int .i64)]
   | _ => []
 plans := fun i => match i with
   | 12 => .first 0 (.first 1 (.first 3 (.first 4 (.first 5 (.read 2 (.read 6 (.alt 7 [6] (.alt 8 [2] (.first 9 (.first 10 (.alt 11 [] (.done) (.stop)))) (.stop)) (.stop))))))))
   | _ => .stop
def open_Decode.W (s_0 : Int) (s_1 : Int) (s_2 : Int) (holdersA : Option Addr) (holdersn holdersc : Nat) (d : Int) (sharesA : Option Addr) (sharesn sharesc : Nat) (H : Heap) (R : Value → Heap → Prop) : Prop :=
 NewH (H.push (.cells #[.int .u64 s_0, .int .i64 s_1, .int .i64 s_2] 24 (0, 0))) fun H_ =>
 NewH (H_.push (.cells #[.int .u64 0, .slice none 0 0, .slice none 0 0, .bool false] 108 (0, 0))) fun H_2 =>
 CallH P N.open_points [.slice holdersA holdersn holdersc, .slice sharesA sharesn sharesc] H_2 fun v H_3 =>
 ∃ (rA : Option Addr) (rn rc : Nat), v = .slice rA rn rc ∧ ∃ x : Int, cellH H_3 (Addr.mk H.size 0 none) = some (.int .u64 x) ∧ CallH P N.open_straight [.int .u64 x, .int .i64 d, .slice rA rn rc] H_3 fun v2 H_4 =>
 ∃ (r0A : Option Addr) (r0n r0c : Nat), ∃ r1 : Bool, v2 = .tuple #[.slice r0A r0n r0c, .bool r1] ∧ cond r1 (∃ x2 : Int, cellH H_4 (Addr.mk H.size 0 none) = some (.int .u64 x2) ∧ CallH P N.poly_At [.int .u64 x2, .slice r0A r0n r0c, .int .u64 0] H_4 fun v3 H_5 =>
 ∃ r : Int, v3 = .int .u64 r ∧ MayWrite H_5 (Addr.mk H_.size 0 none) 4 ∧ NewH (setH (setH (setH (setH H_5 (Addr.mk H_.size 0 none) (.int .u64 r)) (((Addr.mk H_.size 0 none)).add 1) (.slice r0A r0n r0c)) (((Addr.mk H_.size 0 none)).add 2) (.slice none 0 0)) (((Addr.mk H_.size 0 none)).add 3) (.bool true)) fun H_6 =>
 ∃ x0 : Int, ∃ (x1A : Option Addr) (x1n x1c : Nat), ∃ (x2A : Option Addr) (x2n x2c : Nat), ∃ x3 : Bool, cellH H_6 (Addr.mk H_.size 0 none) = some (.int .u64 x0) ∧ cellH H_6 (((Addr.mk H_.size 0 none)).add 1) = some (.slice x1A x1n x1c) ∧ cellH H_6 (((Addr.mk H_.size 0 none)).add 2) = some (.slice x2A x2n x2c) ∧ cellH H_6 (((Addr.mk H_.size 0 none)).add 3) = some (.bool x3) ∧ R (.agg #[.int .u64 x0, .slice x1A x1n x1c, .slice x2A x2n x2c, .bool x3]) H_6)
  (∃ x4 : Int, cellH H_4 (Addr.mk H.size 0 none) = some (.int .u64 x4) ∧ ∃ x5 : Int, cellH H_4 (((Addr.mk H.size 0 none)).add 2) = some (.int .i64 x5) ∧ CallH P N.decode_Find [.int .u64 x4, .int .i64 d, .int .i64 x5, .slice rA rn rc] H_4 fun v4 H_7 =>
 ∃ (r0A2 : Option Addr) (r0n2 r0c2 : Nat), ∃ (r1A : Option Addr) (r1n r1c : Nat), ∃ r2 : Bool, v4 = .tuple #[.slice r0A2 r0n2 r0c2, .slice r1A r1n r1c, .bool r2] ∧ cond (!r2) (MayWrite H_7 (Addr.mk H_.size 0 none) 4 ∧ NewH (setH (setH (setH (setH H_7 (Addr.mk H_.size 0 none) (.int .u64 0)) (((Addr.mk H_.size 0 none)).add 1) (.slice none 0 0)) (((Addr.mk H_.size 0 none)).add 2) (.slice none 0 0)) (((Addr.mk H_.size 0 none)).add 3) (.bool false)) fun H_8 =>
 ∃ x02 : Int, ∃ (x1A2 : Option Addr) (x1n2 x1c2 : Nat), ∃ (x2A2 : Option Addr) (x2n2 x2c2 : Nat), ∃ x32 : Bool, cellH H_8 (Addr.mk H_.size 0 none) = some (.int .u64 x02) ∧ cellH H_8 (((Addr.mk H_.size 0 none)).add 1) = some (.slice x1A2 x1n2 x1c2) ∧ cellH H_8 (((Addr.mk H_.size 0 none)).add 2) = some (.slice x2A2 x2n2 x2c2) ∧ cellH H_8 (((Addr.mk H_.size 0 none)).add 3) = some (.bool x32) ∧ R (.agg #[.int .u64 x02, .slice x1A2 x1n2 x1c2, .slice x2A2 x2n2 x2c2, .bool x32]) H_8)
  (∃ x6 : Int, cellH H_7 (Addr.mk H.size 0 none) = some (.int .u64 x6) ∧ CallH P N.poly_At [.int .u64 x6, .slice r0A2 r0n2 r0c2, .int .u64 0] H_7 fun v5 H_9 =>
 ∃ r3 : Int, v5 = .int .u64 r3 ∧ CallH P N.poly_Short [.slice r0A2 r0n2 r0c2] H_9 fun v6 H_10 =>
 ∃ (rA2 : Option Addr) (rn2 rc2 : Nat), v6 = .slice rA2 rn2 rc2 ∧ NewH (H_10.push (.cells #[.int .u64 0, .slice none 0 0, .slice none 0 0, .bool false] 108 (0, 0))) fun H_11 =>
 MayWrite H_11 (Addr.mk H_10.size 0 none) 4 ∧ NewH (setH (setH (setH (setH H_11 (Addr.mk H_10.size 0 none) (.int .u64 r3)) (((Addr.mk H_10.size 0 none)).add 1) (.slice rA2 rn2 rc2)) (((Addr.mk H_10.size 0 none)).add 2) (.slice none 0 0)) (((Addr.mk H_10.size 0 none)).add 3) (.bool true)) fun H_12 =>
 LoopI (σ := Int) (fun κ => κ 0 H_12) fun s z H_13 next =>
 cond (decide (s < ((r1n : Nat) : Int))) (∃ a : Addr, r1A = some a ∧ 0 ≤ s ∧ s < ((r1n : Nat) : Int) ∧ ∃ x7 : Int, cellH H_13 (a.add (Int.toNat s)) = some (.int .i64 x7) ∧ ∃ a2 : Addr, holdersA = some a2 ∧ 0 ≤ x7 ∧ x7 < ((holdersn : Nat) : Int) ∧ ∃ (xA : Option Addr) (xn xc : Nat), cellH H_13 (((Addr.mk H_10.size 0 none)).add 2) = some (.slice xA xn xc) ∧ ∃ x8 : Int, cellH H_13 (a2.add (Int.toNat x7)) = some (.int .i64 x8) ∧ NewH (H_13.push (.cells #[.int .i64 x8] 3 (0, 0))) fun H_14 =>
 cellH H_14 (((Addr.mk H_10.size 0 none)).add 2) = some (.slice xA xn xc) ∧ AppendV 3 1 8 [.int .i64 0] H_14 xA xn xc (some (Addr.mk H_13.size 0 none)) 1 fun vA vn vc H_15 =>
 MayWrite H_15 (((Addr.mk H_10.size 0 none)).add 2) 1 ∧ NewH (setH H_15 (((Addr.mk H_10.size 0 none)).add 2) (.slice vA vn vc)) fun H_16 =>
 next (IntKind.i64.wrap (s + 1)) H_16)
  (∃ x03 : Int, ∃ (x1A3 : Option Addr) (x1n3 x1c3 : Nat), ∃ (x2A3 : Option Addr) (x2n3 x2c3 : Nat), ∃ x33 : Bool, cellH H_13 (Addr.mk H_10.size 0 none) = some (.int .u64 x03) ∧ cellH H_13 (((Addr.mk H_10.size 0 none)).add 1) = some (.slice x1A3 x1n3 x1c3) ∧ cellH H_13 (((Addr.mk H_10.size 0 none)).add 2) = some (.slice x2A3 x2n3 x2c3) ∧ cellH H_13 (((Addr.mk H_10.size 0 none)).add 3) = some (.bool x33) ∧ MayWrite H_13 (Addr.mk H_.size 0 none) 4 ∧ NewH (setH (setH (setH (setH H_13 (Addr.mk H_.size 0 none) (.int .u64 x03)) (((Addr.mk H_.size 0 none)).add 1) (.slice x1A3 x1n3 x1c3)) (((Addr.mk H_.size 0 none)).add 2) (.slice x2A3 x2n3 x2c3)) (((Addr.mk H_.size 0 none)).add 3) (.bool x33)) fun H_17 =>
 ∃ x04 : Int, ∃ (x1A4 : Option Addr) (x1n4 x1c4 : Nat), ∃ (x2A4 : Option Addr) (x2n4 x2c4 : Nat), ∃ x34 : Bool, cellH H_17 (Addr.mk H_.size 0 none) = some (.int .u64 x04) ∧ cellH H_17 (((Addr.mk H_.size 0 none)).add 1) = some (.slice x1A4 x1n4 x1c4) ∧ cellH H_17 (((Addr.mk H_.size 0 none)).add 2) = some (.slice x2A4 x2n4 x2c4) ∧ cellH H_17 (((Addr.mk H_.size 0 none)).add 3) = some (.bool x34) ∧ R (.agg #[.int .u64 x04, .slice x1A4 x1n4 x1c4, .slice x2A4 x2n4 x2c4, .bool x34]) H_17)))
theorem open_Decode.ok (s_0 : Int) (s_1 : Int) (s_2 : Int) (holdersA : Option Addr) (holdersn holdersc : Nat) (d : Int) (sharesA : Option Addr) (sharesn sharesc : Nat) (H : Heap) (R : Value → Heap → Prop) (h : open_Decode.W s_0 s_1 s_2 holdersA holdersn holdersc d sharesA sharesn sharesc H R) : CallH P N.open_Decode [.agg #[.int .u64 s_0, .int .i64 s_1, .int .i64 s_2], .slice holdersA holdersn holdersc, .int .i64 d, .slice sharesA sharesn sharesc] H R :=
 okW Try.func70 (by kernel_rfl) Try.ntmps70 open_Decode.A (by kernel_rfl) (by kernel_rfl) h
def open_points.A : Ann where
 loops := fun i => match i with
   | 12294 => [(13, .int .i64)]
   | _ => []
 plans := fun i => match i with
   | _ => .stop
def open_points.W (holdersA : Option Addr) (holdersn holdersc : Nat) (sharesA : Option Addr) (sharesn sharesc : Nat) (H : Heap) (R : Value → Heap → Prop) : Prop :=
 0 ≤ ((holdersn : Nat) : Int) ∧ ((holdersn : Nat) : Int) ≤ ((holdersn : Nat) : Int) ∧ ((holdersn : Nat) : Int) * 16 ≤ 2 ^ 48 ∧ ((holdersn : Nat) : Int) < 2 ^ 62 ∧ NewH (H.push (.cells (repl (Int.toNat ((holdersn : Nat) : Int)) [.int .u64 0, .int .u64 0]).toArray 71 (0, 0))) fun H_ =>
 LoopI (σ := Int) (fun κ => κ 0 H_) fun s z H_2 next =>
 cond (decide (s < ((holdersn : Nat) : Int))) (∃ a : Addr, holdersA = some a ∧ 0 ≤ s ∧ s < ((holdersn : Nat) : Int) ∧ ∃ x : Int, cellH H_2 (a.add (Int.toNat s)) = some (.int .i64 x) ∧ ∃ a2 : Addr, sharesA = some a2 ∧ 0 ≤ s ∧ s < ((sharesn : Nat) : Int) ∧ ∃ x2 : Int, cellH H_2 (a2.add (Int.toNat s)) = some (.int .u64 x2) ∧ ∃ a3 : Addr, (some (Addr.mk H.size 0 none) : Option Addr) = some a3 ∧ 0 ≤ s ∧ s < ((Int.toNat ((holdersn : Nat) : Int) : Nat) : Int) ∧ MayWrite H_2 (a3.add ((Int.toNat s) * 2)) 2 ∧ NewH (setH (setH H_2 (a3.add ((Int.toNat s) * 2)) (.int .u64 (IntKind.u64.wrap x))) ((a3.add ((Int.toNat s) * 2)).add 1) (.int .u64 x2)) fun H_3 =>
 next (IntKind.i64.wrap (s + 1)) H_3)
  (R (.slice (some (Addr.mk H.size 0 none)) (Int.toNat ((holdersn : Nat) : Int)) (Int.toNat ((holdersn : Nat) : Int))) H_2)
theorem open_points.ok (holdersA : Option Addr) (holdersn holdersc : Nat) (sharesA : Option Addr) (sharesn sharesc : Nat) (H : Heap) (R : Value → Heap → Prop) (h : open_points.W holdersA holdersn holdersc sharesA sharesn sharesc H R) : CallH P N.open_points [.slice holdersA holdersn holdersc, .slice sharesA sharesn sharesc] H R :=
 okW Try.func85 (by kernel_rfl) Try.ntmps85 open_points.A (by kernel_rfl) (by kernel_rfl) h
end Go.Proofs.Ytajdpkinlnaidaa.Sh
namespace Go.Proofs.Ytajdpkinlnaidaa.Sh
open Go.Sx Go.Lf
def open_Are.C (p : Nat) (holders : (List Int)) (l : (List (List Nat))) (K : Int → Prop) : Prop :=
 ∀ (Z : Nat → Prop) (H : Heap), ∀ (pv : Int), pv = (p : Int) → ∀ (holdersA : Option Addr) (holdersn holdersc : Nat), holdersn = holders.length → SlF i64L Z H holdersA holdersc holders → ∀ (lA : Option Addr) (ln lc : Nat), ln = l.length → SlF (slL u64L) Z H lA lc l → ∀ KK : Value → Heap → Prop,
   (∀ (Z' : Nat → Prop) (H' : Heap), Ext H H' → Old Z H Z' → ∀ (r0 : Int), K r0 → KK (.int .i64 r0) H') →
   CallH P N.open_Are [.int .u64 pv, .slice holdersA holdersn holdersc, .slice lA ln lc] H KK
def open_Are.Q (p : Nat) (holders : (List Int)) (l : (List (List Nat))) (K : Int → Prop) : Prop :=
 LoopQ (τ := Int) 0 fun t nextQ =>
 cond (decide (t < ((l.length : Nat) : Int))) (0 ≤ t ∧ ∃ x : (List Nat), l[Int.toNat t]? = some x ∧ cond (((x.length : Nat) : Int) != ((holders.length : Nat) : Int)) (K 2)
  (field_Below.C p x (fun (x2 : Int) =>
 cond (x2 != 0) (K 2)
  (nextQ (IntKind.i64.wrap (t + 1))))))
  (K 0)
theorem open_Are.q {p : Nat} {holders : (List Int)} {l : (List (List Nat))} {K : Int → Prop} (q : open_Are.Q p holders l K) : open_Are.C p holders l K := by
 intro Z H pv he holdersA holdersn holdersc hn f lA ln lc hn2 f2 KK hk; cases he; cases hn; cases hn2; apply open_Are.ok; unfold open_Are.W; unfold open_Are.Q at q; obtain ⟨σ, hz, hσ⟩ := tags Z; have hs : Stp ([] : List Nat) σ H σ H := Stp.refl _ _ _; replace f := f.wide hz; replace f2 := f2.wide hz; clear hz; refine LoopI.ofQ q (fun t_ s_ hp_ => ∃ σ_, Stp [] σ H σ_ hp_ ∧ t_ = s_) (fun h k => h _ _ k) ⟨_, Stp.refl _ _ _, rfl⟩ ?_; rintro t _ _ H_ next nextQ ⟨xσ, st, rfl⟩ q hnext; (try dsimp only at q ⊢); have sl0 := st; refine condJ (fun q => ?_) (fun q => ?_) q
 · replace hs := hs.trans st; exact hk (Zt xσ) _ (hs.ext hσ) (hs.old hσ) _ q
 obtain ⟨h0, x, hx, q⟩ := q; replace f2 := f2.step st; obtain ⟨a, ha, hi⟩ := f2.addr h0 hx rfl; refine ⟨a, ha, hi.1, hi.2, ?_⟩; obtain ⟨A, c, hc, f3⟩ := f2.lds ha h0 hx; refine ⟨_, _, _, hc.val, ?_⟩; refine condI (fun q => ?_) (fun q => ?_) q
 · replace hs := hs.trans st; exact hk (Zt xσ) _ (hs.ext hσ) (hs.old hσ) _ q
 refine q (Zt xσ) H_ _ rfl _ _ _ rfl f3 _ (fun Z2 H_2 hE hO x2 q => ?_); obtain ⟨xσ2, st2⟩ := call0 hE xσ; refine ⟨_, rfl, ?_⟩; refine condI (fun q => ?_) (fun q => ?_) q
 · replace hs := hs.trans (st.then st2); exact hk (Zt xσ2) _ (hs.ext hσ) (hs.old hσ) _ q
 replace sl0 := sl0.trans st2; exact hnext (IntKind.i64.wrap (t + 1)) _ _ ⟨_, sl0, rfl⟩ q
def open_straight.C (p : Nat) (d : Int) (l : (List TPoint)) (K : (List Nat) → Bool → Prop) : Prop :=
 ∀ (Z : Nat → Prop) (H : Heap), ∀ (pv : Int), pv = (p : Int) → ∀ (lA : Option Addr) (ln lc : Nat), ln = l.length → SlF TPoint.L Z H lA lc l → ∀ KK : Value → Heap → Prop,
   (∀ (Z' : Nat → Prop) (H' : Heap), Ext H H' → Old Z H Z' → ∀ (r0 : (List Nat)), ∀ (Y0 : Nat → Prop), (∀ i, Y0 i → H.size ≤ i ∧ ¬ Z' i) → ∀ (Ar0_0 : Option Addr) (nr0_0 cr0_0 : Nat), nr0_0 = r0.length → SlO (rdM u64L) 22 Z' Y0 H' Ar0_0 cr0_0 r0 → ∀ (r1 : Bool), K r0 r1 → KK (.tuple #[.slice Ar0_0 nr0_0 cr0_0, .bool r1]) H') →
   CallH P N.open_straight [.int .u64 pv, .int .i64 d, .slice lA ln lc] H KK
def open_straight.Q (p : Nat) (d : Int) (l : (List TPoint)) (K : (List Nat) → Bool → Prop) : Prop :=
 0 ≤ (if ((l.length : Nat) : Int) < (IntKind.i64.wrap (d + 1)) then ((l.length : Nat) : Int) else (IntKind.i64.wrap (d + 1))) ∧ (if ((l.length : Nat) : Int) < (IntKind.i64.wrap (d + 1)) then ((l.length : Nat) : Int) else (IntKind.i64.wrap (d + 1))) ≤ ((l.length : Nat) : Int) ∧ poly_Fit.C p (List.take (Int.toNat (if ((l.length : Nat) : Int) < (IntKind.i64.wrap (d + 1)) then ((l.length : Nat) : Int) else (IntKind.i64.wrap (d + 1)))) l) (fun (x : (List Nat)) =>
 LoopQ (τ := Int) 0 fun t nextQ =>
 cond (decide (t < ((l.length : Nat) : Int))) (0 ≤ t ∧ ∃ x2 : TPoint, l[Int.toNat t]? = some x2 ∧ poly_At.C p x x2.X (fun (x3 : Nat) =>
 cond ((x3 : Int) != (x2.Y : Int)) (K ([]) false)
  (nextQ (IntKind.i64.wrap (t + 1)))))
  (K x true))
theorem open_straight.q {p : Nat} {d : Int} {l : (List TPoint)} {K : (List Nat) → Bool → Prop} (q : open_straight.Q p d l K) : open_straight.C p d l K := by
 intro Z H pv he lA ln lc hn f KK hk; cases he; cases hn; apply open_straight.ok; unfold open_straight.W; unfold open_straight.Q at q; obtain ⟨σ, hz, hσ⟩ := tags Z; have hs : Stp ([1, 2] : List Nat) σ H σ H := Stp.refl _ _ _; replace f := f.wide hz; clear hz; obtain ⟨q2, q3, q⟩ := q; have f2 := f.upto (u := Int.toNat (if ((l.length : Nat) : Int) < (IntKind.i64.wrap (d + 1)) then ((l.length : Nat) : Int) else (IntKind.i64.wrap (d + 1)))) (upto_le rfl q3); refine ⟨q2, cap_le rfl f.cap q3, ?_⟩; refine q (Zt σ) H _ rfl _ _ _ (take_len rfl q3) f2 _ (fun Z2 H_ hE hO x Y hY A n c hn2 f3 q => ?_); obtain ⟨xσ, st, fz, fy⟩ := call1 hE hO σ 1 (fun _ h => h) hY; replace f3 := f3.keep fz fy; cases hn2; refine ⟨_, _, _, rfl, ?_⟩; refine LoopI.ofQ q (fun t_ s_ hp_ => ∃ σ_, Stp [2] xσ H_ σ_ hp_ ∧ t_ = s_) (fun h k => h _ _ k) ⟨_, Stp.refl _ _ _, rfl⟩ ?_; rintro t _ _ H_2 next nextQ ⟨xσ2, st2, rfl⟩ q hnext; (try dsimp only at q ⊢); have sl0 := st2; refine condJ (fun q => ?_) (fun q => ?_) q
 · replace hs := hs.trans (st.then st2); replace f3 := f3.step st2; exact hk (Zt xσ2) _ (hs.ext hσ) (hs.old hσ) _ (Yt xσ2 1) (hs.fresh hσ) _ _ _ rfl f3 _ q
 obtain ⟨h0, x2, hx, q⟩ := q; replace f := f.step (st.then st2); obtain ⟨a, ha, hi⟩ := f.addr h0 hx rfl; refine ⟨a, ha, hi.1, hi.2, ?_⟩; obtain ⟨cs, hr, hc⟩ := f.ldN (k := 2) rfl ha h0 hx; cases hr; have hc2 := hc 0 _ rfl; have hc3 := hc 1 _ rfl; refine ⟨_, _, hc2.val, hc3.val, ?_⟩; refine NewH.mk fun H_3 e => ?_; obtain ⟨xσ3, st3, b⟩ := BoxF.new xσ2 2 e; refine ⟨b.mayF rfl, NewH.mk fun H_4 e2 => ?_⟩; obtain ⟨st4, b⟩ := b.wf2 rfl e2; refine ⟨_, b.cell0, ?_⟩; refine ⟨_, b.cell 1 rfl, ?_⟩; replace f3 := f3.step (st2.then (st3.then st4)); refine q (fun i => xσ3 i = 0 ∨ xσ3 i = 1) H_4 _ rfl _ _ _ rfl (f3.read (fun i h => .inl h) (fun i h => .inr (h))) _ rfl _ (fun Z3 H_5 hE2 hO2 x3 v he2 q => ?_); obtain ⟨xσ4, st5⟩ := call0 hE2 xσ3; cases he2; refine ⟨_, rfl, ?_⟩; replace b := b.step st5; refine ⟨(b.cell 1 rfl), ?_⟩; refine condJ (fun q => ?_) (fun q => ?_) q
 · replace sl0 := sl0.trans (st3.then (st4.then st5)); exact hnext (IntKind.i64.wrap (t + 1)) _ _ ⟨_, sl0, rfl⟩ q
 replace hs := hs.trans (st.then (st2.then (st3.then (st4.then st5)))); exact hk (Zt xσ4) _ (hs.ext hσ) (hs.old hσ) _ (fun _ => False) (fun _ h => h.elim) _ _ _ rfl (SlO.nil _ _ _ _ _) _ q
def open_Fits.C (w : TWorld) (holders : (List Int)) (d : Int) (shares : (List Nat)) (K : Bool → Prop) : Prop :=
 ∀ (Z : Nat → Prop) (H : Heap), ∀ (wv : Int), wv = (w.Setup.P : Int) → ∀ (wA : Option Addr) (wn wc : Nat), wn = w.Corrupted.length → SlF i64L Z H wA wc w.Corrupted → ∀ (wA2 : Option Addr) (wn2 wc2 : Nat), wn2 = w.Acts.length → SlF TAct.L Z H wA2 wc2 w.Acts → ∀ (wA3 : Option Addr) (wn3 wc3 : Nat), wn3 = w.Tapes.length → SlF (slL u64L) Z H wA3 wc3 w.Tapes → ∀ (wA4 : Option Addr) (wn4 wc4 : Nat), wn4 = w.Sent.length → SlF TSent.L Z H wA4 wc4 w.Sent → ∀ (holdersA : Option Addr) (holdersn holdersc : Nat), holdersn = holders.length → SlF i64L Z H holdersA holdersc holders → ∀ (sharesA : Option Addr) (sharesn sharesc : Nat), sharesn = shares.length → SlF u64L Z H sharesA sharesc shares → ∀ KK : Value → Heap → Prop,
   (∀ (Z' : Nat → Prop) (H' : Heap), Ext H H' → Old Z H Z' → ∀ (r0 : Bool), K r0 → KK (.bool r0) H') →
   CallH P N.open_Fits [.agg #[.int .u64 wv, .int .i64 w.Setup.N, .int .i64 w.Setup.T_, .slice wA wn wc, .slice wA2 wn2 wc2, .slice wA3 wn3 wc3, .int .i64 w.Round, .slice wA4 wn4 wc4], .slice holdersA holdersn holdersc, .int .i64 d, .slice sharesA sharesn sharesc] H KK
def open_Fits.Q (w : TWorld) (holders : (List Int)) (d : Int) (shares : (List Nat)) (K : Bool → Prop) : Prop :=
 LoopQ (τ := List TPoint × Int) (([] : List TPoint), 0) fun t nextQ =>
 cond (decide (t.2 < ((holders.length : Nat) : Int))) (0 ≤ t.2 ∧ ∃ x : Int, holders[Int.toNat t.2]? = some x ∧ slices_Contains_intint.C w.Corrupted x (fun (x2 : Bool) =>
 cond (!x2) (0 ≤ t.2 ∧ ∃ x3 : Nat, shares[Int.toNat t.2]? = some x3 ∧ AppOk 16 (t.1 ++ ([(⟨(IntKind.u64.wrap x).toNat, x3⟩ : TPoint)] : List TPoint)).length ∧ nextQ ((t.1 ++ ([(⟨(IntKind.u64.wrap x).toNat, x3⟩ : TPoint)] : List TPoint)), IntKind.i64.wrap (t.2 + 1)))
  (nextQ (t.1, IntKind.i64.wrap (t.2 + 1)))))
  (open_straight.C w.Setup.P d t.1 (fun (r : (List Nat)) (r2 : Bool) =>
 K r2))
theorem open_Fits.q {w : TWorld} {holders : (List Int)} {d : Int} {shares : (List Nat)} {K : Bool → Prop} (q : open_Fits.Q w holders d shares K) : open_Fits.C w holders d shares K := by
 intro Z H wv he wA wn wc hn f wA2 wn2 wc2 hn2 f2 wA3 wn3 wc3 hn3 f3 wA4 wn4 wc4 hn4 f4 holdersA holdersn holdersc hn5 f5 sharesA sharesn sharesc hn6 f6 KK hk; cases he; cases hn; cases hn2; cases hn3; cases hn4; cases hn5; cases hn6; apply open_Fits.ok; unfold open_Fits.W; unfold open_Fits.Q at q; obtain ⟨σ, hz, hσ⟩ := tags Z; have hs : Stp ([1, 2, 3] : List Nat) σ H σ H := Stp.refl _ _ _; replace f := f.wide hz; replace f2 := f2.wide hz; replace f3 := f3.wide hz; replace f4 := f4.wide hz; replace f5 := f5.wide hz; replace f6 := f6.wide hz; clear hz; refine NewH.mk fun H_ e => ?_; obtain ⟨xσ, st, b⟩ := BoxF.new σ 0 e; have f7 := SlO.nil (rdM TPoint.L) 71 (Zt xσ) (Yt xσ 1) H_; refine LoopI.ofQ q (fun t_ s_ hp_ => ∃ σ_ A0_ n0_ c0_, Stp [1, 2] xσ H_ σ_ hp_ ∧ ((A0_, n0_, c0_), t_.2) = s_ ∧ n0_ = t_.1.length ∧ SlO (rdM TPoint.L) 71 (Zt σ_) (Yt σ_ 1) hp_ A0_ c0_ t_.1) (fun h k => h _ _ k) ⟨_, _, _, _, Stp.refl _ _ _, rfl, rfl, f7⟩ ?_; rintro t _ _ H_2 next nextQ ⟨xσ2, A, n, c, st2, rfl, rfl, f8⟩ q hnext; (try dsimp only at q ⊢); have sl0 := st2; refine condJ (fun q => ?_) (fun q => ?_) q
 · replace b := b.step st2; refine ⟨_, b.cell0, ?_⟩; refine q (fun i => xσ2 i = 0 ∨ xσ2 i = 1) H_2 _ rfl _ _ _ rfl (f8.read (fun i h => .inl h) (fun i h => .inr (h))) _ (fun Z3 H_6 hE2 hO2 r Y hY A3 n2 c3 hn7 f11 r2 q => ?_); obtain ⟨xσ7, st7, fy⟩ := callB1 hE2 hO2 xσ2 3 hY; replace f11 := (SlO.anyZ (Z' := Zt xσ7) u64_flatL f11).keep (Fr.refl _ _) fy; cases hn7; refine ⟨_, _, _, _, rfl, ?_⟩; replace hs := hs.trans (st.then (st2.then st7)); exact hk (Zt xσ7) _ (hs.ext hσ) (hs.old hσ) _ q
 obtain ⟨h0, x, hx, q⟩ := q; replace f5 := f5.step (st.then st2); obtain ⟨a, ha, hi⟩ := f5.addr h0 hx rfl; refine ⟨a, ha, hi.1, hi.2, ?_⟩; have hc := f5.ldi ha h0 hx; refine ⟨_, hc.val, ?_⟩; replace b := b.step st2; refine ⟨_, _, _, b.cell 3 rfl, ?_⟩; replace f := f.step (st.then st2); refine q (Zt xσ2) H_2 _ _ _ rfl f _ (fun Z2 H_3 hE hO x2 q => ?_); obtain ⟨xσ3, st3⟩ := call0 hE xσ2; refine ⟨_, rfl, ?_⟩; refine condJ (fun q => ?_) (fun q => ?_) q
 · replace sl0 := sl0.trans st3; replace f8 := f8.step st3; exact hnext (t.1, IntKind.i64.wrap (t.2 + 1)) _ _ ⟨_, _, _, _, sl0, rfl, rfl, f8⟩ q
 obtain ⟨h02, x3, hx2, q⟩ := q; replace f6 := f6.step (st.then (st2.then st3)); obtain ⟨a2, ha2, hi2⟩ := f6.addr h02 hx2 rfl; refine ⟨a2, ha2, hi2.1, hi2.2, ?_⟩; have hc2 := f6.ldu ha2 h02 hx2; refine ⟨_, hc2.val, ?_⟩; refine NewH.mk fun H_4 e2 => ?_; obtain ⟨xσ4, st4, f9⟩ := SlO.lit (E := TPoint.L) xσ3 2 (xs := [(⟨(IntKind.u64.wrap x).toNat, x3⟩ : TPoint)]) (l := [[_, _]]) e2 rfl (.cons (by show (_ : List Value) = _; simp only [← natEq (nnw _)]) .nil) (show (1 : Nat) ≤ 17592186044416 by decide); obtain ⟨xσ6, st6, f9⟩ := SlO.freeze f9; obtain ⟨q2, q⟩ := q; replace f8 := f8.step (st3.then (st4.then st6)); refine SlO.appF f8 f9 rfl rfl q2.l q2.r rfl rfl (fun A2 c2 H_5 xσ5 st5 f8_ => ?_); replace f8 := f8_; have f10 := f8; clear f8; replace sl0 := sl0.trans (st3.then (st4.then (st6.then st5))); exact hnext ((t.1 ++ ([(⟨(IntKind.u64.wrap x).toNat, x3⟩ : TPoint)] : List TPoint)), IntKind.i64.wrap (t.2 + 1)) _ _ ⟨_, _, _, _, sl0, rfl, rfl, f10⟩ q
def open_telling_of.C (x_l : (List TSecret)) (party : Int) (K : (List Int) → Prop) : Prop :=
 ∀ (Z : Nat → Prop) (H : Heap), ∀ (xP : Addr), PtF (slL TSecret.L) Z H (xP.add 3) x_l → ∀ KK : Value → Heap → Prop,
   (∀ (Z' : Nat → Prop) (H' : Heap), Ext H H' → Old Z H Z' → ∀ (r0 : (List Int)), ∀ (Y0 : Nat → Prop), (∀ i, Y0 i → H.size ≤ i ∧ ¬ Z' i) → ∀ (Ar0_0 : Option Addr) (nr0_0 cr0_0 : Nat), nr0_0 = r0.length → SlO (rdM i64L) 3 Z' Y0 H' Ar0_0 cr0_0 r0 → K r0 → KK (.slice Ar0_0 nr0_0 cr0_0) H') →
   CallH P N.open_telling_of [.pointer (some xP), .int .i64 party] H KK
def open_telling_of.Q (x_l : (List TSecret)) (party : Int) (K : (List Int) → Prop) : Prop :=
 LoopQ (τ := List Int × Int) (([] : List Int), 0) fun t nextQ =>
 cond (decide (t.2 < ((x_l.length : Nat) : Int))) (0 ≤ t.2 ∧ ∃ x : TSecret, x_l[Int.toNat t.2]? = some x ∧ cond (party == 0) (cond (((x.To.length : Nat) : Int) == 0) (AppOk 8 (t.1 ++ ([t.2] : List Int)).length ∧ nextQ ((t.1 ++ ([t.2] : List Int)), IntKind.i64.wrap (t.2 + 1)))
  (cond (decide (party > 0)) (slices_Contains_intint.C x.To party (fun (x2 : Bool) =>
 cond x2 (AppOk 8 (t.1 ++ ([t.2] : List Int)).length ∧ nextQ ((t.1 ++ ([t.2] : List Int)), IntKind.i64.wrap (t.2 + 1)))
  (nextQ (t.1, IntKind.i64.wrap (t.2 + 1)))))
  (nextQ (t.1, IntKind.i64.wrap (t.2 + 1)))))
  (cond (decide (party > 0)) (slices_Contains_intint.C x.To party (fun (x3 : Bool) =>
 cond x3 (AppOk 8 (t.1 ++ ([t.2] : List Int)).length ∧ nextQ ((t.1 ++ ([t.2] : List Int)), IntKind.i64.wrap (t.2 + 1)))
  (nextQ (t.1, IntKind.i64.wrap (t.2 + 1)))))
  (nextQ (t.1, IntKind.i64.wrap (t.2 + 1)))))
  (K t.1)
theorem open_telling_of.q {x_l : (List TSecret)} {party : Int} {K : (List Int) → Prop} (q : open_telling_of.Q x_l party K) : open_telling_of.C x_l party K := by
 intro Z H xP f KK hk; apply open_telling_of.ok; unfold open_telling_of.W; unfold open_telling_of.Q at q; obtain ⟨σ, hz, hσ⟩ := tags Z; have hs : Stp ([1, 2, 3, 4, 5] : List Nat) σ H σ H := Stp.refl _ _ _; replace f := f.wide hz; clear hz; obtain ⟨v, hc, hr⟩ := PtF.ld1 f rfl; obtain ⟨A, c, e, f2⟩ := hr; cases e; refine ⟨_, _, _, hc.val, ?_⟩; have f3 := SlO.nil (rdM i64L) 3 (Zt σ) (Yt σ 1) H; refine LoopI.ofQ q (fun t_ s_ hp_ => ∃ σ_ A0_ n0_ c0_, Stp [1, 2, 3, 4, 5] σ H σ_ hp_ ∧ ((A0_, n0_, c0_), t_.2) = s_ ∧ n0_ = t_.1.length ∧ SlO (rdM i64L) 3 (Zt σ_) (Yt σ_ 1) hp_ A0_ c0_ t_.1) (fun h k => h _ _ k) ⟨_, _, _, _, Stp.refl _ _ _, rfl, rfl, f3⟩ ?_; rintro t _ _ H_ next nextQ ⟨xσ, A2, n, c2, st, rfl, rfl, f4⟩ q hnext; (try dsimp only at q ⊢); have sl0 := st; refine condJ (fun q => ?_) (fun q => ?_) q
 · replace hs := hs.trans st; exact hk (Zt xσ) _ (hs.ext hσ) (hs.old hσ) _ (Yt xσ 1) (hs.fresh hσ) _ _ _ rfl f4 q
 obtain ⟨h0, x, hx, q⟩ := q; replace f2 := f2.step st; obtain ⟨a, ha, hi⟩ := f2.addr h0 hx rfl; refine ⟨a, ha, hi.1, hi.2, ?_⟩; obtain ⟨cs, hr2, hc2⟩ := f2.ldN (k := 2) rfl ha h0 hx; obtain ⟨A3, c3, A4, c4, rfl, f5, f6⟩ := hr2; have hc3 := hc2 0 _ rfl; have hc4 := hc2 1 _ rfl; refine ⟨_, _, _, _, _, _, hc3.val, hc4.val, ?_⟩; refine NewH.mk fun H_2 e2 => ?_; obtain ⟨xσ2, st2, b⟩ := BoxF.new xσ 2 e2; refine ⟨b.mayF rfl, NewH.mk fun H_3 e3 => ?_⟩; obtain ⟨st3, b⟩ := b.wf2 rfl e3; refine condJ (fun q => ?_) (fun q => ?_) q
 · refine condJ (fun q => ?_) (fun q => ?_) q
   · have c_0 := st2.then st3; replace sl0 := sl0.trans c_0; replace f4 := f4.step c_0; exact hnext (t.1, IntKind.i64.wrap (t.2 + 1)) _ _ ⟨_, _, _, _, sl0, rfl, rfl, f4⟩ q
   refine ⟨_, _, _, b.cell0, ?_⟩; replace f5 := f5.step (st2.then st3); refine q (Zt xσ2) H_3 _ _ _ rfl f5 _ (fun Z3 H_9 hE2 hO2 x3 q => ?_); obtain ⟨xσ10, st11⟩ := call0 hE2 xσ2; refine ⟨_, rfl, ?_⟩; refine condJ (fun q => ?_) (fun q => ?_) q
   · have c_1 := st2.then (st3.then st11); replace sl0 := sl0.trans c_1; replace f4 := f4.step c_1; exact hnext (t.1, IntKind.i64.wrap (t.2 + 1)) _ _ ⟨_, _, _, _, sl0, rfl, rfl, f4⟩ q
   refine NewH.mk fun H_10 e6 => ?_; obtain ⟨xσ11, st12, f11⟩ := SlO.lit (E := i64L) xσ10 5 (xs := [t.2]) (l := [[_]]) e6 rfl (.cons rfl .nil) (show (1 : Nat) ≤ 17592186044416 by decide); obtain ⟨xσ13, st14, f11⟩ := SlO.freeze f11; obtain ⟨q4, q⟩ := q; replace f4 := f4.step (st2.then (st3.then (st11.then (st12.then st14)))); refine SlO.appF f4 f11 rfl rfl q4.l q4.r rfl rfl (fun A7 c7 H_11 xσ12 st13 f4_ => ?_); replace f4 := f4_; have f12 := f4; clear f4; replace sl0 := sl0.trans (st2.then (st3.then (st11.then (st12.then (st14.then st13))))); exact hnext ((t.1 ++ ([t.2] : List Int)), IntKind.i64.wrap (t.2 + 1)) _ _ ⟨_, _, _, _, sl0, rfl, rfl, f12⟩ q
 refine ⟨_, _, _, b.cell0, ?_⟩; refine condI (fun q => ?_) (fun q => ?_) q
 · refine NewH.mk fun H_4 e4 => ?_; obtain ⟨xσ3, st4, f7⟩ := SlO.lit (E := i64L) xσ2 3 (xs := [t.2]) (l := [[_]]) e4 rfl (.cons rfl .nil) (show (1 : Nat) ≤ 17592186044416 by decide); obtain ⟨xσ5, st6, f7⟩ := SlO.freeze f7; obtain ⟨q2, q⟩ := q; replace f4 := f4.step (st2.then (st3.then (st4.then st6))); refine SlO.appF f4 f7 rfl rfl q2.l q2.r rfl rfl (fun A5 c5 H_5 xσ4 st5 f4_ => ?_); replace f4 := f4_; have f8 := f4; clear f4; replace sl0 := sl0.trans (st2.then (st3.then (st4.then (st6.then st5)))); exact hnext ((t.1 ++ ([t.2] : List Int)), IntKind.i64.wrap (t.2 + 1)) _ _ ⟨_, _, _, _, sl0, rfl, rfl, f8⟩ q
 refine condJ (fun q => ?_) (fun q => ?_) q
 · have c_2 := st2.then st3; replace sl0 := sl0.trans c_2; replace f4 := f4.step c_2; exact hnext (t.1, IntKind.i64.wrap (t.2 + 1)) _ _ ⟨_, _, _, _, sl0, rfl, rfl, f4⟩ q
 refine ⟨_, _, _, b.cell0, ?_⟩; replace f5 := f5.step (st2.then st3); refine q (Zt xσ2) H_3 _ _ _ rfl f5 _ (fun Z2 H_6 hE hO x2 q => ?_); obtain ⟨xσ6, st7⟩ := call0 hE xσ2; refine ⟨_, rfl, ?_⟩; refine condJ (fun q => ?_) (fun q => ?_) q
 · have c_3 := st2.then (st3.then st7); replace sl0 := sl0.trans c_3; replace f4 := f4.step c_3; exact hnext (t.1, IntKind.i64.wrap (t.2 + 1)) _ _ ⟨_, _, _, _, sl0, rfl, rfl, f4⟩ q
 refine NewH.mk fun H_7 e5 => ?_; obtain ⟨xσ7, st8, f9⟩ := SlO.lit (E := i64L) xσ6 4 (xs := [t.2]) (l := [[_]]) e5 rfl (.cons rfl .nil) (show (1 : Nat) ≤ 17592186044416 by decide); obtain ⟨xσ9, st10, f9⟩ := SlO.freeze f9; obtain ⟨q3, q⟩ := q; replace f4 := f4.step (st2.then (st3.then (st7.then (st8.then st10)))); refine SlO.appF f4 f9 rfl rfl q3.l q3.r rfl rfl (fun A6 c6 H_8 xσ8 st9 f4_ => ?_); replace f4 := f4_; have f10 := f4; clear f4; replace sl0 := sl0.trans (st2.then (st3.then (st7.then (st8.then (st10.then st9))))); exact hnext ((t.1 ++ ([t.2] : List Int)), IntKind.i64.wrap (t.2 + 1)) _ _ ⟨_, _, _, _, sl0, rfl, rfl, f10⟩ q
def open_points.C (holders : (List Int)) (shares : (List Nat)) (K : (List TPoint) → Prop) : Prop :=
 ∀ (Z : Nat → Prop) (H : Heap), ∀ (holdersA : Option Addr) (holdersn holdersc : Nat), holdersn = holders.length → SlF i64L Z H holdersA holdersc holders → ∀ (sharesA : Option Addr) (sharesn sharesc : Nat), sharesn = shares.length → SlF u64L Z H sharesA sharesc shares → ∀ KK : Value → Heap → Prop,
   (∀ (Z' : Nat → Prop) (H' : Heap), Ext H H' → Old Z H Z' → ∀ (r0 : (List TPoint)), ∀ (Y0 : Nat → Prop), (∀ i, Y0 i → H.size ≤ i ∧ ¬ Z' i) → ∀ (Ar0_0 : Option Addr) (nr0_0 cr0_0 : Nat), nr0_0 = r0.length → SlO (rdM TPoint.L) 71 Z' Y0 H' Ar0_0 cr0_0 r0 → K r0 → KK (.slice Ar0_0 nr0_0 cr0_0) H') →
   CallH P N.open_points [.slice holdersA holdersn holdersc, .slice sharesA sharesn sharesc] H KK
def open_points.Q (holders : (List Int)) (shares : (List Nat)) (K : (List TPoint) → Prop) : Prop :=
 MakeOk 16 ((holders.length : Nat) : Int) ∧ LoopQ (τ := Int × List TPoint) (0, (List.replicate holders.length (⟨0, 0⟩ : TPoint))) fun t nextQ =>
 cond (decide (t.1 < ((holders.length : Nat) : Int))) (0 ≤ t.1 ∧ ∃ x : Int, holders[Int.toNat t.1]? = some x ∧ 0 ≤ t.1 ∧ ∃ x2 : Nat, shares[Int.toNat t.1]? = some x2 ∧ 0 ≤ t.1 ∧ t.1 < ((holders.length : Nat) : Int) ∧ nextQ (IntKind.i64.wrap (t.1 + 1), (List.set t.2 (Int.toNat t.1) (⟨(IntKind.u64.wrap x).toNat, x2⟩ : TPoint))))
  (K t.2)
theorem open_points.q {holders : (List Int)} {shares : (List Nat)} {K : (List TPoint) → Prop} (q : open_points.Q holders shares K) : open_points.C holders shares K := by
 intro Z H holdersA holdersn holdersc hn f sharesA sharesn sharesc hn2 f2 KK hk; cases hn; cases hn2; apply open_points.ok; unfold open_points.W; unfold open_points.Q at q; obtain ⟨σ, hz, hσ⟩ := tags Z; have hs : Stp ([1] : List Nat) σ H σ H := Stp.refl _ _ _; replace f := f.wide hz; replace f2 := f2.wide hz; clear hz; obtain ⟨q2, q⟩ := q; refine ⟨q2.1, Int.le_refl _, q2.w1, q2.w2, NewH.mk fun H_ e => ?_⟩; obtain ⟨xσ, st, f3⟩ := SlO.made (O := (rdM TPoint.L)) σ 1 e (TPoint.zero) q2.len; refine LoopI.ofQ q (fun t_ s_ hp_ => ∃ σ_, Stp [1] xσ H_ σ_ hp_ ∧ t_.1 = s_ ∧ t_.2.length = (List.replicate holders.length (⟨0, 0⟩ : TPoint)).length ∧ SlO (rdM TPoint.L) 71 (Zt σ_) (Yt σ_ 1) hp_ (some (Addr.mk H.size 0 none)) holders.length t_.2) (fun h k => h _ _ k) ⟨_, Stp.refl _ _ _, rfl, rfl, f3⟩ ?_; rintro t _ _ H_2 next nextQ ⟨xσ2, st2, rfl, hl, f3⟩ q hnext; (try dsimp only at q ⊢); have sl1 := st2; refine condJ (fun q => ?_) (fun q => ?_) q
 · replace hs := hs.trans (st.then st2); exact hk (Zt xσ2) _ (hs.ext hσ) (hs.old hσ) _ (Yt xσ2 1) (hs.fresh hσ) _ _ _ ((rl_len _ _).trans hl.symm) f3 q
 obtain ⟨h0, x, hx, q⟩ := q; replace f := f.step (st.then st2); obtain ⟨a, ha, hi⟩ := f.addr h0 hx rfl; refine ⟨a, ha, hi.1, hi.2, ?_⟩; have hc := f.ldi ha h0 hx; refine ⟨_, hc.val, ?_⟩; obtain ⟨h02, x2, hx2, q⟩ := q; replace f2 := f2.step (st.then st2); obtain ⟨a2, ha2, hi2⟩ := f2.addr h02 hx2 rfl; refine ⟨a2, ha2, hi2.1, hi2.2, ?_⟩; have hc2 := f2.ldu ha2 h02 hx2; refine ⟨_, hc2.val, ?_⟩; obtain ⟨h03, hi4, q⟩ := q; obtain ⟨a3, ha3, hi3⟩ := f3.addr h03 ((rl_len _ _).trans hl.symm) hi4; refine ⟨a3, ha3, hi3.1, hi3.2, ?_⟩; have w := fun vs hr => SlO.setN (k := 2) (vs := vs) (y := (⟨(IntKind.u64.wrap x).toNat, x2⟩ : TPoint)) f3 rfl ha3 h03 (lt_of_n ((rl_len _ _).trans hl.symm) hi4) hr; refine ⟨(w [.int .u64 (IntKind.u64.wrap x), .int .u64 (x2 : Int)] (by show (_ : List Value) = _; simp only [← natEq (nnw _)])).1, NewH.mk fun H_3 e2 => ?_⟩; obtain ⟨st3, f3⟩ := (w [.int .u64 (IntKind.u64.wrap x), .int .u64 (x2 : Int)] (by show (_ : List Value) = _; simp only [← natEq (nnw _)])).2 H_3 e2; replace sl1 := sl1.trans st3; exact hnext (IntKind.i64.wrap (t.1 + 1), (List.set t.2 (Int.toNat t.1) (⟨(IntKind.u64.wrap x).toNat, x2⟩ : TPoint))) _ _ ⟨_, sl1, rfl, (set_back ((rl_len _ _).trans hl.symm) (set_len ((rl_len _ _).trans hl.symm)) hl), f3⟩ q
def open_Decode.C (s : TSetup) (holders : (List Int)) (d : Int) (shares : (List Nat)) (K : TGot → Prop) : Prop :=
 ∀ (Z : Nat → Prop) (H : Heap), ∀ (sv : Int), sv = (s.P : Int) → ∀ (holdersA : Option Addr) (holdersn holdersc : Nat), holdersn = holders.length → SlF i64L Z H holdersA holdersc holders → ∀ (sharesA : Option Addr) (sharesn sharesc : Nat), sharesn = shares.length → SlF u64L Z H sharesA sharesc shares → ∀ KK : Value → Heap → Prop,
   (∀ (Z' : Nat → Prop) (H' : Heap), Ext H H' → Old Z H Z' → ∀ (r0 : TGot), ∀ (r0v0 : Int), r0v0 = (r0.Opened.Value : Int) → ∀ (Ar0_1 : Option Addr) (nr0_1 cr0_1 : Nat), nr0_1 = r0.Opened.Poly.length → SlF u64L Z' H' Ar0_1 cr0_1 r0.Opened.Poly → ∀ (Ar0_2 : Option Addr) (nr0_2 cr0_2 : Nat), nr0_2 = r0.Opened.Wrong.length → SlF i64L Z' H' Ar0_2 cr0_2 r0.Opened.Wrong → K r0 → KK (.agg #[.int .u64 r0v0, .slice Ar0_1 nr0_1 cr0_1, .slice Ar0_2 nr0_2 cr0_2, .bool r0.Ok]) H') →
   CallH P N.open_Decode [.agg #[.int .u64 sv, .int .i64 s.N, .int .i64 s.T_], .slice holdersA holdersn holdersc, .int .i64 d, .slice sharesA sharesn sharesc] H KK
def open_Decode.Q (s : TSetup) (holders : (List Int)) (d : Int) (shares : (List Nat)) (K : TGot → Prop) : Prop :=
 open_points.C holders shares (fun (x : (List TPoint)) =>
 open_straight.C s.P d x (fun (r : (List Nat)) (r2 : Bool) =>
 cond r2 (poly_At.C s.P r 0 (fun (x2 : Nat) =>
 K (⟨(⟨x2, r, []⟩ : TOpened), true⟩ : TGot)))
  (decode_Find.C s.P d s.T_ x (fun (r3 : (List Nat)) (r4 : (List Int)) (r5 : Bool) =>
 cond (!r5) (K (⟨(⟨0, [], []⟩ : TOpened), false⟩ : TGot))
  (poly_At.C s.P r3 0 (fun (x3 : Nat) =>
 poly_Short.C r3 (fun (x4 : (List Nat)) =>
 LoopQ (τ := Int × TGot) (0, (⟨(⟨x3, x4, ([] : List Int)⟩ : TOpened), true⟩ : TGot)) fun t nextQ =>
 cond (decide (t.1 < ((r4.length : Nat) : Int))) (0 ≤ t.1 ∧ t.1 < ((r4.length : Nat) : Int) ∧ ∃ x6 : Int, r4[Int.toNat t.1]? = some x6 ∧ 0 ≤ x6 ∧ ∃ x7 : Int, holders[Int.toNat x6]? = some x7 ∧ AppOk 8 (t.2.Opened.Wrong ++ ([x7] : List Int)).length ∧ nextQ (IntKind.i64.wrap (t.1 + 1), (⟨(⟨t.2.Opened.Value, t.2.Opened.Poly, (t.2.Opened.Wrong ++ ([x7] : List Int))⟩ : TOpened), t.2.Ok⟩ : TGot)))
  (K t.2))))))))
theorem open_Decode.q {s : TSetup} {holders : (List Int)} {d : Int} {shares : (List Nat)} {K : TGot → Prop} (q : open_Decode.Q s holders d shares K) : open_Decode.C s holders d shares K := by
 intro Z H sv he holdersA holdersn holdersc hn f sharesA sharesn sharesc hn2 f2 KK hk; cases he; cases hn; cases hn2; apply open_Decode.ok; unfold open_Decode.W; unfold open_Decode.Q at q; obtain ⟨σ, hz, hσ⟩ := tags Z; have hs : Stp ([1, 2, 3, 4, 5, 6, 7, 8, 9] : List Nat) σ H σ H := Stp.refl _ _ _; replace f := f.wide hz; replace f2 := f2.wide hz; clear hz; refine NewH.mk fun H_ e => ?_; obtain ⟨xσ, st, b⟩ := BoxF.new σ 0 e; refine NewH.mk fun H_2 e2 => ?_; obtain ⟨xσ2, st2, b2⟩ := BoxF.new xσ 1 e2; have c_0 := st.then st2; replace f := f.step c_0; replace f2 := f2.step c_0; refine q (Zt xσ2) H_2 _ _ _ rfl f _ _ _ rfl f2 _ (fun Z2 H_3 hE hO x Y hY A n c hn3 f3 q => ?_); obtain ⟨xσ3, st3, fz, fy⟩ := call1 hE hO xσ2 2 (fun _ h => h) hY; replace f3 := f3.keep fz fy; cases hn3; refine ⟨_, _, _, rfl, ?_⟩; replace b := b.step (st2.then st3); refine ⟨_, b.cell0, ?_⟩; refine q (fun i => xσ3 i = 0 ∨ xσ3 i = 2) H_3 _ rfl _ _ _ rfl (f3.read (fun i h => .inl h) (fun i h => .inr (h))) _ (fun Z3 H_4 hE2 hO2 r Y2 hY2 A2 n2 c2 hn4 f4 r2 q => ?_); obtain ⟨xσ4, st4, fy2⟩ := callB1 hE2 hO2 xσ3 3 hY2; replace f4 := (SlO.anyZ (Z' := Zt xσ4) u64_flatL f4).keep (Fr.refl _ _) fy2; cases hn4; refine ⟨_, _, _, _, rfl, ?_⟩; refine condI (fun q => ?_) (fun q => ?_) q
 · replace b := b.step st4; refine ⟨_, b.cell0, ?_⟩; refine q (fun i => xσ4 i = 0 ∨ xσ4 i = 3) H_4 _ rfl _ _ _ rfl (f4.read (fun i h => .inl h) (fun i h => .inr (h))) _ rfl _ (fun Z4 H_5 hE3 hO3 x2 v he2 q => ?_); obtain ⟨xσ5, st5⟩ := call0 hE3 xσ4; cases he2; refine ⟨_, rfl, ?_⟩; replace b2 := b2.step (st3.then (st4.then st5)); refine ⟨b2.mayF rfl, NewH.mk fun H_6 e3 => ?_⟩; obtain ⟨st6, b2⟩ := b2.wf4 rfl e3; refine ⟨_, _, _, _, _, _, _, _, b2.cell0, b2.cell 1 rfl, b2.cell 2 rfl, b2.cell 3 rfl, ?_⟩; replace f4 := f4.step (st5.then st6); obtain ⟨xσ6, st7, f4⟩ := SlO.freeze f4; replace hs := hs.trans (st.then (st2.then (st3.then (st4.then (st5.then (st6.then st7)))))); exact hk (Zt xσ6) _ (hs.ext hσ) (hs.old hσ) (⟨(⟨x2, r, []⟩ : TOpened), true⟩ : TGot) _ rfl _ _ _ rfl f4 _ _ _ rfl (SlF.nil _ _ _ _ _) q
 replace b := b.step st4; refine ⟨_, b.cell0, ?_⟩; refine ⟨_, b.cell 2 rfl, ?_⟩; replace f3 := f3.step st4; refine q (fun i => xσ4 i = 0 ∨ xσ4 i = 2) H_4 _ rfl _ _ _ rfl (f3.read (fun i h => .inl h) (fun i h => .inr (h))) _ (fun Z5 H_7 hE4 hO4 r3 Y3 hY3 A3 n3 c3 hn5 f5 r4 Y4 hY4 A4 n4 c4 hn6 f6 r5 hY5 q => ?_); obtain ⟨xσ7, st8, fy3, fy4⟩ := callB2 hE4 hO4 xσ4 4 5 hY3 hY4 hY5; replace f5 := (SlO.anyZ (Z' := Zt xσ7) u64_flatL f5).keep (Fr.refl _ _) fy3; replace f6 := (SlO.anyZ (Z' := Zt xσ7) i64_flatL f6).keep (Fr.refl _ _) fy4; cases hn5; cases hn6; refine ⟨_, _, _, _, _, _, _, rfl, ?_⟩; refine condI (fun q => ?_) (fun q => ?_) q
 · replace b2 := b2.step (st3.then (st4.then st8)); refine ⟨b2.mayF rfl, NewH.mk fun H_8 e4 => ?_⟩; obtain ⟨st9, b2⟩ := b2.wf4 rfl e4; refine ⟨_, _, _, _, _, _, _, _, b2.cell0, b2.cell 1 rfl, b2.cell 2 rfl, b2.cell 3 rfl, ?_⟩; replace hs := hs.trans (st.then (st2.then (st3.then (st4.then (st8.then st9))))); exact hk (Zt xσ7) _ (hs.ext hσ) (hs.old hσ) (⟨(⟨0, [], []⟩ : TOpened), false⟩ : TGot) _ rfl _ _ _ rfl (SlF.nil _ _ _ _ _) _ _ _ rfl (SlF.nil _ _ _ _ _) q
 replace b := b.step st8; refine ⟨_, b.cell0, ?_⟩; refine q (fun i => xσ7 i = 0 ∨ xσ7 i = 4) H_7 _ rfl _ _ _ rfl (f5.read (fun i h => .inl h) (fun i h => .inr (h))) _ rfl _ (fun Z6 H_9 hE5 hO5 x3 v2 he3 q => ?_); obtain ⟨xσ8, st10⟩ := call0 hE5 xσ7; cases he3; refine ⟨_, rfl, ?_⟩; replace f5 := f5.step st10; refine q (fun i => xσ8 i = 0 ∨ xσ8 i = 4) H_9 _ _ _ rfl (f5.read (fun i h => .inl h) (fun i h => .inr (h))) _ (fun Z7 H_10 hE6 hO6 x4 Y5 hY6 A5 n5 c5 hn7 f7 q => ?_); obtain ⟨xσ9, st11, fy5⟩ := callB1 hE6 hO6 xσ8 6 hY6; replace f7 := (SlO.anyZ (Z' := Zt xσ9) u64_flatL f7).keep (Fr.refl _ _) fy5; cases hn7; refine ⟨_, _, _, rfl, ?_⟩; refine NewH.mk fun H_11 e5 => ?_; obtain ⟨xσ10, st12, b3⟩ := BoxF.new xσ9 7 e5; refine ⟨b3.mayF rfl, NewH.mk fun H_12 e6 => ?_⟩; obtain ⟨st13, b3⟩ := b3.wf4 rfl e6; have f8 := SlO.nil (rdM i64L) 3 (Zt xσ10) (Yt xσ10 8) H_12; replace f7 := f7.step (st12.then st13); refine LoopI.ofQ q (fun t_ s_ hp_ => ∃ σ_ x1_0 A1_1 n1_1 c1_1 A1_2 n1_2 c1_2, Stp [7, 8, 9] xσ10 H_12 σ_ hp_ ∧ t_.1 = s_ ∧ x1_0 = ((t_.2.Opened.Value : Nat) : Int) ∧ n1_1 = t_.2.Opened.Poly.length ∧ SlO (rdM u64L) 22 (Zt σ_) (Yt σ_ 6) hp_ A1_1 c1_1 t_.2.Opened.Poly ∧ n1_2 = t_.2.Opened.Wrong.length ∧ SlO (rdM i64L) 3 (Zt σ_) (Yt σ_ 8) hp_ A1_2 c1_2 t_.2.Opened.Wrong ∧ BoxF 7 σ_ hp_ H_10.size [.int .u64 x1_0, .slice A1_1 n1_1 c1_1, .slice A1_2 n1_2 c1_2, .bool t_.2.Ok] 108) (fun h k => h _ _ k) ⟨_, _, _, _, _, _, _, _, Stp.refl _ _ _, rfl, rfl, rfl, f7, rfl, f8, b3⟩ ?_; rintro t _ _ H_13 next nextQ ⟨xσ11, x5, A6, n6, c6, A7, n7, c7, st14, rfl, rfl, rfl, f9, rfl, f10, b3⟩ q hnext; (try dsimp only at q ⊢); have sl1 := st14; refine condJ (fun q => ?_) (fun q => ?_) q
 · refine ⟨_, _, _, _, _, _, _, _, b3.cell0, b3.cell 1 rfl, b3.cell 2 rfl, b3.cell 3 rfl, ?_⟩; replace b2 := b2.step (st3.then (st4.then (st8.then (st10.then (st11.then (st12.then (st13.then st14))))))); refine ⟨b2.mayF rfl, NewH.mk fun H_17 e9 => ?_⟩; obtain ⟨st19, b2⟩ := b2.wf4 rfl e9; refine ⟨_, _, _, _, _, _, _, _, b2.cell0, b2.cell 1 rfl, b2.cell 2 rfl, b2.cell 3 rfl, ?_⟩; replace f9 := f9.step st19; obtain ⟨xσ15, st20, f9⟩ := SlO.freeze f9; replace f10 := f10.step (st19.then st20); obtain ⟨xσ16, st21, f10⟩ := SlO.freeze f10; replace hs := hs.trans (st.then (st2.then (st3.then (st4.then (st8.then (st10.then (st11.then (st12.then (st13.then (st14.then (st19.then (st20.then st21)))))))))))); replace f9 := f9.step st21; exact hk (Zt xσ16) _ (hs.ext hσ) (hs.old hσ) t.2 _ rfl _ _ _ rfl f9 _ _ _ rfl f10 q
 obtain ⟨h0, hi2, q⟩ := q; replace f6 := f6.step (st10.then (st11.then (st12.then (st13.then st14)))); obtain ⟨a, ha, hi⟩ := f6.addr h0 rfl hi2; refine ⟨a, ha, hi.1, hi.2, ?_⟩; obtain ⟨x6, hx, q⟩ := q; have hc := f6.ldi ha h0 hx; refine ⟨_, hc.val, ?_⟩; obtain ⟨h02, x7, hx2, q⟩ := q; replace f := f.step (st3.then (st4.then (st8.then (st10.then (st11.then (st12.then (st13.then st14))))))); obtain ⟨a2, ha2, hi3⟩ := f.addr h02 hx2 rfl; refine ⟨a2, ha2, hi3.1, hi3.2, ?_⟩; refine ⟨_, _, _, b3.cell 2 rfl, ?_⟩; have hc2 := f.ldi ha2 h02 hx2; refine ⟨_, hc2.val, ?_⟩; refine NewH.mk fun H_14 e7 => ?_; obtain ⟨xσ12, st15, f11⟩ := SlO.lit (E := i64L) xσ11 9 (xs := [x7]) (l := [[_]]) e7 rfl (.cons rfl .nil) (show (1 : Nat) ≤ 17592186044416 by decide); replace b3 := b3.step st15; refine ⟨(b3.cell 2 rfl), ?_⟩; obtain ⟨xσ14, st17, f11⟩ := SlO.freeze f11; obtain ⟨q2, q⟩ := q; replace f10 := f10.step (st15.then st17); refine SlO.appF f10 f11 rfl rfl q2.l q2.r rfl rfl (fun A8 c8 H_15 xσ13 st16 f10_ => ?_); replace f10 := f10_; have f12 := f10; clear f10; replace b3 := b3.step (st17.then st16); refine ⟨b3.may 2 (show (2 : Nat) < 4 by decide), NewH.mk fun H_16 e8 => ?_⟩; obtain ⟨st18, b3⟩ := b3.wrote 2 (show (2 : Nat) < 4 by decide) e8; simp only [List.set_cons_zero, List.set_cons_succ] at b3; have c_1 := st15.then (st17.then (st16.then st18)); replace sl1 := sl1.trans c_1; replace f9 := f9.step c_1; replace f12 := f12.step st18; exact hnext (IntKind.i64.wrap (t.1 + 1), (⟨(⟨t.2.Opened.Value, t.2.Opened.Poly, (t.2.Opened.Wrong ++ ([x7] : List Int))⟩ : TOpened), t.2.Ok⟩ : TGot)) _ _ ⟨_, _, _, _, _, _, _, _, sl1, rfl, rfl, rfl, f9, rfl, f12, b3⟩ q
def open_Play.C (t : TTable) (world : TWorld) (holders : (List Int)) (d : Int) (l : (List TSecret)) (K : (List (List TGot)) → TTable → TWorld → Prop) : Prop :=
 ∀ (Z : Nat → Prop) (τ : Nat → Nat) (H : Heap), (∀ i, τ i ≠ 0 → ¬ Z i) → ∀ (tP : Nat), ∀ (v : Int), v = (t.Setup.P : Int) → ∀ (A : Option Addr) (n c : Nat), n = t.tapes.length → SlO (rdM (slL u64L)) 37 Z (Yt τ 2) H A c t.tapes → ∀ (worldP : Nat), ∀ (v2 : Int), v2 = (world.Setup.P : Int) → ∀ (A2 : Option Addr) (n2 c2 : Nat), n2 = world.Corrupted.length → SlF i64L Z H A2 c2 world.Corrupted → ∀ (A3 : Option Addr) (n3 c3 : Nat), n3 = world.Acts.length → SlF TAct.L Z H A3 c3 world.Acts → ∀ (A4 : Option Addr) (n4 c4 : Nat), n4 = world.Tapes.length → SlO (rdM (slL u64L)) 37 Z (Yt τ 4) H A4 c4 world.Tapes → ∀ (A5 : Option Addr) (n5 c5 : Nat), n5 = world.Sent.length → SlO (rdM TSent.L) 76 Z (Yt τ 5) H A5 c5 world.Sent → BoxF 3 τ H worldP [.int .u64 v2, .int .i64 world.Setup.N, .int .i64 world.Setup.T_, .slice A2 n2 c2, .slice A3 n3 c3, .slice A4 n4 c4, .int .i64 world.Round, .slice A5 n5 c5] 30 → BoxF 1 τ H tP [.int .u64 v, .int .i64 t.Setup.N, .int .i64 t.Setup.T_, .slice A n c, .func (.func 44) #[] #[.pointer (some (Addr.mk worldP 0 none))]] 98 → ∀ (holdersA : Option Addr) (holdersn holdersc : Nat), holdersn = holders.length → SlF i64L Z H holdersA holdersc holders → ∀ (lA : Option Addr) (ln lc : Nat), ln = l.length → SlF TSecret.L Z H lA lc l → ∀ KK : Value → Heap → Prop,
   (∀ (Z' : Nat → Prop) (τ' : Nat → Nat) (H' : Heap), Turn τ H τ' H' → OldT Z τ H Z' → (∀ i, τ' i ≠ 0 → ¬ Z' i) → ∀ (r0 : (List (List TGot))), ∀ (Ar0_0 : Option Addr) (nr0_0 cr0_0 : Nat), nr0_0 = r0.length → SlF (slL TGot.L) Z' H' Ar0_0 cr0_0 r0 → ∀ (o0 : TTable), ∀ (vo0_0 : Int), vo0_0 = (o0.Setup.P : Int) → ∀ (Ao0_3 : Option Addr) (no0_3 co0_3 : Nat), no0_3 = o0.tapes.length → SlO (rdM (slL u64L)) 37 Z' (Yt τ' 2) H' Ao0_3 co0_3 o0.tapes → BoxF 1 τ' H' tP [.int .u64 vo0_0, .int .i64 o0.Setup.N, .int .i64 o0.Setup.T_, .slice Ao0_3 no0_3 co0_3, .func (.func 44) #[] #[.pointer (some (Addr.mk worldP 0 none))]] 98 → ∀ (o1 : TWorld), ∀ (vo1_0 : Int), vo1_0 = (o1.Setup.P : Int) → ∀ (Ao1_3 : Option Addr) (no1_3 co1_3 : Nat), no1_3 = o1.Corrupted.length → SlF i64L Z' H' Ao1_3 co1_3 o1.Corrupted → ∀ (Ao1_4 : Option Addr) (no1_4 co1_4 : Nat), no1_4 = o1.Acts.length → SlF TAct.L Z' H' Ao1_4 co1_4 o1.Acts → ∀ (Ao1_5 : Option Addr) (no1_5 co1_5 : Nat), no1_5 = o1.Tapes.length → SlO (rdM (slL u64L)) 37 Z' (Yt τ' 4) H' Ao1_5 co1_5 o1.Tapes → ∀ (Ao1_7 : Option Addr) (no1_7 co1_7 : Nat), no1_7 = o1.Sent.length → SlO (rdM TSent.L) 76 Z' (Yt τ' 5) H' Ao1_7 co1_7 o1.Sent → BoxF 3 τ' H' worldP [.int .u64 vo1_0, .int .i64 o1.Setup.N, .int .i64 o1.Setup.T_, .slice Ao1_3 no1_3 co1_3, .slice Ao1_4 no1_4 co1_4, .slice Ao1_5 no1_5 co1_5, .int .i64 o1.Round, .slice Ao1_7 no1_7 co1_7] 30 → K r0 o0 o1 → KK (.slice Ar0_0 nr0_0 cr0_0) H') →
   CallH P N.open_Play [.pointer (some (Addr.mk tP 0 none)), .slice holdersA holdersn holdersc, .int .i64 d, .slice lA ln lc] H KK
def open_Play.Q (t : TTable) (world : TWorld) (holders : (List Int)) (d : Int) (l : (List TSecret)) (K : (List (List TGot)) → TTable → TWorld → Prop) : Prop :=
 net_Blank.C t.Setup.N (fun (r : (List (List (List Nat)))) (r2 : (List (List Nat))) =>
 LoopQ (τ := Int × List (List (List Nat)) × List (List Nat)) (0, r, r2) fun t2 nextQ =>
 cond (decide (t2.1 < (IntKind.i64.wrap (t.Setup.N + 1)))) (open_telling_of.C l t2.1 (fun (x : (List Int)) =>
 LoopQ (τ := Int × List (List (List Nat)) × List (List Nat)) (0, t2.2.1, t2.2.2) fun t3 nextQ2 =>
 cond (decide (t3.1 < ((x.length : Nat) : Int))) (0 ≤ t3.1 ∧ t3.1 < ((x.length : Nat) : Int) ∧ ∃ x2 : Int, x[Int.toNat t3.1]? = some x2 ∧ LoopQ (τ := Int × List (List (List Nat)) × List (List Nat)) (0, t3.2.1, t3.2.2) fun t4 nextQ3 =>
 cond (decide (t4.1 < ((holders.length : Nat) : Int))) (0 ≤ t4.1 ∧ ∃ x3 : Int, holders[Int.toNat t4.1]? = some x3 ∧ cond (t2.1 == 0) (0 ≤ (IntKind.i64.wrap (x3 - 1)) ∧ (IntKind.i64.wrap (x3 - 1)) < ((r2.length : Nat) : Int) ∧ ∃ x4 : (List Nat), t4.2.2[Int.toNat (IntKind.i64.wrap (x3 - 1))]? = some x4 ∧ 0 ≤ x2 ∧ ∃ x5 : TSecret, l[Int.toNat x2]? = some x5 ∧ 0 ≤ t4.1 ∧ ∃ x6 : Nat, x5.Shares[Int.toNat t4.1]? = some x6 ∧ AppOk 8 (x4 ++ ([x6] : List Nat)).length ∧ 0 ≤ (IntKind.i64.wrap (x3 - 1)) ∧ (IntKind.i64.wrap (x3 - 1)) < ((r2.length : Nat) : Int) ∧ nextQ3 (IntKind.i64.wrap (t4.1 + 1), t4.2.1, (List.set t4.2.2 (Int.toNat (IntKind.i64.wrap (x3 - 1))) (x4 ++ ([x6] : List Nat)))))
  (0 ≤ (IntKind.i64.wrap (x3 - 1)) ∧ (IntKind.i64.wrap (x3 - 1)) < ((r.length : Nat) : Int) ∧ 0 ≤ (IntKind.i64.wrap (x3 - 1)) ∧ (IntKind.i64.wrap (x3 - 1)) < ((r.length : Nat) : Int) ∧ ∃ x7 : (List (List Nat)), t4.2.1[Int.toNat (IntKind.i64.wrap (x3 - 1))]? = some x7 ∧ 0 ≤ (IntKind.i64.wrap (t2.1 - 1)) ∧ (IntKind.i64.wrap (t2.1 - 1)) < ((x7.length : Nat) : Int) ∧ ∃ x8 : (List Nat), x7[Int.toNat (IntKind.i64.wrap (t2.1 - 1))]? = some x8 ∧ 0 ≤ x2 ∧ ∃ x9 : TSecret, l[Int.toNat x2]? = some x9 ∧ 0 ≤ t4.1 ∧ ∃ x10 : Nat, x9.Shares[Int.toNat t4.1]? = some x10 ∧ AppOk 8 (x8 ++ ([x10] : List Nat)).length ∧ 0 ≤ (IntKind.i64.wrap (t2.1 - 1)) ∧ (IntKind.i64.wrap (t2.1 - 1)) < ((x7.length : Nat) : Int) ∧ nextQ3 (IntKind.i64.wrap (t4.1 + 1), (List.set t4.2.1 (Int.toNat (IntKind.i64.wrap (x3 - 1))) (List.set x7 (Int.toNat (IntKind.i64.wrap (t2.1 - 1))) (x8 ++ ([x10] : List Nat)))), t4.2.2)))
  (nextQ2 (IntKind.i64.wrap (t3.1 + 1), t4.2.1, t4.2.2)))
  (nextQ (IntKind.i64.wrap (t2.1 + 1), t3.2.1, t3.2.2))))
  (net_Table_Round.C t world t2.2.1 t2.2.2 (fun (r7 : (List (List (List Nat)))) (r8 : (List (List Nat))) (o : TTable) (o2 : TWorld) =>
 open_telling_of.C l 0 (fun (x11 : (List Int)) =>
 LoopQ (τ := Int × List (Int × (List Nat))) (0, ([] : List (Int × (List Nat)))) fun t5 nextQ4 =>
 cond (decide (t5.1 < ((holders.length : Nat) : Int))) (0 ≤ t5.1 ∧ ∃ x12 : Int, holders[Int.toNat t5.1]? = some x12 ∧ 0 ≤ (IntKind.i64.wrap (x12 - 1)) ∧ ∃ x13 : (List Nat), r8[Int.toNat (IntKind.i64.wrap (x12 - 1))]? = some x13 ∧ net_Of.C t.Setup.P x13 ((x11.length : Nat) : Int) (fun (x14 : (List Nat)) =>
 nextQ4 (IntKind.i64.wrap (t5.1 + 1), (mset t5.2 x12 x14))))
  (LoopQ (τ := Int × List ((Int × Int) × (List Nat))) (1, ([] : List ((Int × Int) × (List Nat)))) fun t6 nextQ5 =>
 cond (decide (t6.1 ≤ t.Setup.N)) (open_telling_of.C l t6.1 (fun (x15 : (List Int)) =>
 LoopQ (τ := Int × List ((Int × Int) × (List Nat))) (0, t6.2) fun t7 nextQ6 =>
 cond (decide (t7.1 < ((holders.length : Nat) : Int))) (0 ≤ t7.1 ∧ ∃ x16 : Int, holders[Int.toNat t7.1]? = some x16 ∧ 0 ≤ (IntKind.i64.wrap (t6.1 - 1)) ∧ ∃ x17 : (List (List Nat)), r7[Int.toNat (IntKind.i64.wrap (t6.1 - 1))]? = some x17 ∧ 0 ≤ (IntKind.i64.wrap (x16 - 1)) ∧ ∃ x18 : (List Nat), x17[Int.toNat (IntKind.i64.wrap (x16 - 1))]? = some x18 ∧ net_Of.C t.Setup.P x18 ((x15.length : Nat) : Int) (fun (x19 : (List Nat)) =>
 nextQ6 (IntKind.i64.wrap (t7.1 + 1), (mset t7.2 (t6.1, x16) x19))))
  (nextQ5 (IntKind.i64.wrap (t6.1 + 1), t7.2))))
  (MakeOk 24 ((l.length : Nat) : Int) ∧ LoopQ (τ := Int × List (List TGot)) (0, (List.replicate l.length [])) fun t8 nextQ7 =>
 cond (decide (t8.1 < (IntKind.i64.wrap (o.Setup.N + 1)))) (open_telling_of.C l t8.1 (fun (x20 : (List Int)) =>
 LoopQ (τ := List TGot × Int) (([] : List TGot), 0) fun t9 nextQ8 =>
 cond (decide (t9.2 < ((x20.length : Nat) : Int))) (MakeOk 8 ((holders.length : Nat) : Int) ∧ LoopQ (τ := Int × List Nat) (0, (List.replicate holders.length 0)) fun t10 nextQ9 =>
 cond (decide (t10.1 < ((holders.length : Nat) : Int))) (0 ≤ t10.1 ∧ ∃ x21 : Int, holders[Int.toNat t10.1]? = some x21 ∧ cond (t8.1 == 0) (∃ x22 : (List Nat), x22 = mgetD t5.2 x21 ([]) ∧ 0 ≤ t9.2 ∧ ∃ x23 : Nat, x22[Int.toNat t9.2]? = some x23 ∧ 0 ≤ t10.1 ∧ t10.1 < ((holders.length : Nat) : Int) ∧ nextQ9 (IntKind.i64.wrap (t10.1 + 1), (List.set t10.2 (Int.toNat t10.1) x23)))
  (∃ x24 : (List Nat), x24 = mgetD t6.2 (t8.1, x21) ([]) ∧ 0 ≤ t9.2 ∧ ∃ x25 : Nat, x24[Int.toNat t9.2]? = some x25 ∧ 0 ≤ t10.1 ∧ t10.1 < ((holders.length : Nat) : Int) ∧ nextQ9 (IntKind.i64.wrap (t10.1 + 1), (List.set t10.2 (Int.toNat t10.1) x25))))
  (open_Decode.C o.Setup holders d t10.2 (fun (x26 : TGot) =>
 AppOk 64 (t9.1 ++ ([x26] : List TGot)).length ∧ nextQ8 ((t9.1 ++ ([x26] : List TGot)), IntKind.i64.wrap (t9.2 + 1)))))
  (open_telling_of.C l t8.1 (fun (x27 : (List Int)) =>
 LoopQ (τ := Int × List (List TGot)) (0, t8.2) fun t11 nextQ10 =>
 cond (decide (t11.1 < ((x27.length : Nat) : Int))) (0 ≤ t11.1 ∧ t11.1 < ((x27.length : Nat) : Int) ∧ ∃ x28 : Int, x27[Int.toNat t11.1]? = some x28 ∧ 0 ≤ x28 ∧ x28 < ((l.length : Nat) : Int) ∧ 0 ≤ t11.1 ∧ t11.1 < ((t9.1.length : Nat) : Int) ∧ ∃ x29 : (List TGot), t11.2[Int.toNat x28]? = some x29 ∧ ∃ x30 : TGot, t9.1[Int.toNat t11.1]? = some x30 ∧ AppOk 64 (x29 ++ ([x30] : List TGot)).length ∧ 0 ≤ x28 ∧ x28 < ((l.length : Nat) : Int) ∧ nextQ10 (IntKind.i64.wrap (t11.1 + 1), (List.set t11.2 (Int.toNat x28) (x29 ++ ([x30] : List TGot)))))
  (nextQ7 (IntKind.i64.wrap (t8.1 + 1), t11.2))))))
  (K t8.2 o o2)))))))
theorem open_Play.q {t : TTable} {world : TWorld} {holders : (List Int)} {d : Int} {l : (List TSecret)} {K : (List (List TGot)) → TTable → TWorld → Prop} (q : open_Play.Q t world holders d l K) : open_Play.C t world holders d l K := by
 intro Z τ H hτ tP v he A n c hn f worldP v2 he2 A2 n2 c2 hn2 f2 A3 n3 c3 hn3 f3 A4 n4 c4 hn4 f4 A5 n5 c5 hn5 f5 b2 b holdersA holdersn holdersc hn6 f6 lA ln lc hn7 f7 KK hk; cases he; cases hn; cases he2; cases hn2; cases hn3; cases hn4; cases hn5; cases hn6; cases hn7; apply open_Play.ok; unfold open_Play.W; unfold open_Play.Q at q; obtain ⟨σ, hz, hy, hσ⟩ := tags2 Z τ 5 hτ; have hs : Stp ([1, 2, 3, 4, 5, 6, 7, 8, 9, 10, 11, 12, 13, 14, 15, 16, 17, 18, 19, 20, 21, 22, 23, 24, 25] : List Nat) σ H σ H := Stp.refl _ _ _; replace f := SlO.keep f (Fr.wide hz _) (Fr.wide (hy 2 (by decide) (by decide)) _); replace f2 := f2.wide hz; replace f3 := f3.wide hz; replace f4 := SlO.keep f4 (Fr.wide hz _) (Fr.wide (hy 4 (by decide) (by decide)) _); replace f5 := SlO.keep f5 (Fr.wide hz _) (Fr.wide (hy 5 (by decide) (by decide)) _); replace b2 := BoxF.mk b2.blk (hy 3 (by decide) (by decide) _ b2.tag); replace b := BoxF.mk b.blk (hy 1 (by decide) (by decide) _ b.tag); replace f6 := f6.wide hz; replace f7 := f7.wide hz; clear hz; clear hy; refine NewH.mk fun H_ e => ?_; obtain ⟨xσ, st, b3⟩ := BoxF.new σ 6 e; apply open_telling_round.ok; unfold open_telling_round.W; refine ⟨_, b3.cell0, ?_⟩; replace b := b.step st; refine ⟨_, b.cell 1 rfl, ?_⟩; refine ⟨_, b3.cell0, ?_⟩; refine ⟨_, b.cell0, ?_⟩; refine q (Zt xσ) H_  _ (fun Z2 H_2 hE hO r Y hY A6 n6 c6 hn8 f8 r2 Y2 hY2 A7 n7 c7 hn9 f9 hY3 q => ?_); obtain ⟨xσ2, st2, fz, fy, fy2⟩ := call2 hE hO xσ 7 8 (fun _ h => h) hY hY2 hY3; replace f8 := f8.keep fz fy; replace f9 := f9.keep fz fy2; cases hn8; cases hn9; refine ⟨_, _, _, _, _, _, rfl, ?_⟩; refine LoopI.ofQ q (fun t_ s_ hp_ => ∃ σ_, Stp [7, 8, 9, 10, 11, 12] xσ2 H_2 σ_ hp_ ∧ t_.1 = s_ ∧ t_.2.1.length = r.length ∧ SlO (slM (slM (rdM u64L) 22) 37) 27 (Zt σ_) (Yt σ_ 7) hp_ A6 c6 t_.2.1 ∧ t_.2.2.length = r2.length ∧ SlO (slM (rdM u64L) 22) 37 (Zt σ_) (Yt σ_ 8) hp_ A7 c7 t_.2.2) (fun h k => h _ _ k) ⟨_, Stp.refl _ _ _, rfl, rfl, f8, rfl, f9⟩ ?_; rintro t2 _ _ H_3 next nextQ ⟨xσ3, st3, rfl, hl, f8, hl2, f9⟩ q hnext; (try dsimp only at q ⊢); have sl69 := st3; refine condI (fun q => ?_) (fun q => ?_) q
 · replace b3 := b3.step (st2.then st3); replace f7 := f7.step (st.then (st2.then st3)); refine q (fun i => xσ3 i = 0 ∨ xσ3 i = 6) H_3 _ (BoxF.ptAt (E := (slL TSecret.L)) b3 3 (vs := [_]) rfl (.inr (b3.tag)) (slL_rep rfl (f7.wide (fun i h => .inl h)))) _ (fun Z3 H_4 hE2 hO2 x Y3 hY4 A8 n8 c8 hn10 f10 q => ?_); obtain ⟨xσ4, st4, fy3⟩ := callB1 hE2 hO2 xσ3 9 hY4; replace f10 := (SlO.anyZ (Z' := Zt xσ4) i64_flatL f10).keep (Fr.refl _ _) fy3; cases hn10; refine ⟨_, _, _, rfl, ?_⟩; replace f8 := f8.step st4; replace f9 := f9.step st4; refine LoopI.ofQ q (fun t_ s_ hp_ => ∃ σ_, Stp [7, 8, 10, 11, 12] xσ4 H_4 σ_ hp_ ∧ t_.1 = s_ ∧ t_.2.1.length = t2.2.1.length ∧ SlO (slM (slM (rdM u64L) 22) 37) 27 (Zt σ_) (Yt σ_ 7) hp_ A6 c6 t_.2.1 ∧ t_.2.2.length = t2.2.2.length ∧ SlO (slM (rdM u64L) 22) 37 (Zt σ_) (Yt σ_ 8) hp_ A7 c7 t_.2.2) (fun h k => h _ _ k) ⟨_, Stp.refl _ _ _, rfl, rfl, f8, rfl, f9⟩ ?_; rintro t3 _ _ H_5 next2 nextQ2 ⟨xσ5, st5, rfl, hl3, f8, hl4, f9⟩ q hnext2; (try dsimp only at q ⊢); have sl73 := st5; refine condJ (fun q => ?_) (fun q => ?_) q
   · replace sl69 := sl69.trans (st4.then st5); exact hnext (IntKind.i64.wrap (t2.1 + 1), t3.2.1, t3.2.2) _ _ ⟨_, sl69, rfl, (set_back ((rfl : _ = _).trans hl.symm) (((rfl : _ = _).trans hl.symm).trans hl3.symm) hl), f8, (set_back ((rfl : _ = _).trans hl2.symm) (((rfl : _ = _).trans hl2.symm).trans hl4.symm) hl2), f9⟩ q
   obtain ⟨h0, hi2, q⟩ := q; replace f10 := f10.step st5; obtain ⟨a, ha, hi⟩ := f10.addr h0 rfl hi2; refine ⟨a, ha, hi.1, hi.2, ?_⟩; obtain ⟨x2, hx, q⟩ := q; have hc := f10.ldi ha h0 hx; refine ⟨_, hc.val, ?_⟩; replace b3 := b3.step (st4.then st5); refine ⟨_, _, _, b3.cell 1 rfl, ?_⟩; refine LoopI.ofQ q (fun t_ s_ hp_ => ∃ σ_, Stp [7, 8, 10, 11, 12] xσ5 H_5 σ_ hp_ ∧ t_.1 = s_ ∧ t_.2.1.length = t3.2.1.length ∧ SlO (slM (slM (rdM u64L) 22) 37) 27 (Zt σ_) (Yt σ_ 7) hp_ A6 c6 t_.2.1 ∧ t_.2.2.length = t3.2.2.length ∧ SlO (slM (rdM u64L) 22) 37 (Zt σ_) (Yt σ_ 8) hp_ A7 c7 t_.2.2) (fun h k => h _ _ k) ⟨_, Stp.refl _ _ _, rfl, rfl, f8, rfl, f9⟩ ?_; rintro t4 _ _ H_6 next3 nextQ3 ⟨xσ6, st6, rfl, hl5, f8, hl6, f9⟩ q hnext3; (try dsimp only at q ⊢); have sl75 := st6; refine condJ (fun q => ?_) (fun q => ?_) q
   · replace sl73 := sl73.trans st6; exact hnext2 (IntKind.i64.wrap (t3.1 + 1), t4.2.1, t4.2.2) _ _ ⟨_, sl73, rfl, (set_back (((rfl : _ = _).trans hl.symm).trans hl3.symm) ((((rfl : _ = _).trans hl.symm).trans hl3.symm).trans hl5.symm) hl3), f8, (set_back (((rfl : _ = _).trans hl2.symm).trans hl4.symm) ((((rfl : _ = _).trans hl2.symm).trans hl4.symm).trans hl6.symm) hl4), f9⟩ q
   obtain ⟨h02, x3, hx2, q⟩ := q; replace f6 := f6.step (st.then (st2.then (st3.then (st4.then (st5.then st6))))); obtain ⟨a2, ha2, hi3⟩ := f6.addr h02 hx2 rfl; refine ⟨a2, ha2, hi3.1, hi3.2, ?_⟩; have hc2 := f6.ldi ha2 h02 hx2; refine ⟨_, hc2.val, ?_⟩; refine condI (fun q => ?_) (fun q => ?_) q
   · obtain ⟨h03, hi5, q⟩ := q; obtain ⟨a3, ha3, hi4⟩ := f9.addr h03 ((((rfl : _ = _).trans hl2.symm).trans hl4.symm).trans hl6.symm) hi5; refine ⟨a3, ha3, hi4.1, hi4.2, ?_⟩; obtain ⟨x4, hx3, q⟩ := q; obtain ⟨A9, c9, Y4, hc3, hY5, f11, bk⟩ := f9.row ha3 h03 hx3; replace b := b.step (st2.then (st3.then (st4.then (st5.then st6)))); have g := SlO.rowF f11 (fun b hb => (hY5 b hb).1); refine ⟨_, _, _, hc3.val, ?_⟩; replace b3 := b3.step st6; refine ⟨_, _, _, b3.cell 3 rfl, ?_⟩; obtain ⟨h04, x5, hx4, q⟩ := q; replace f7 := f7.step (st4.then (st5.then st6)); obtain ⟨a4, ha4, hi6⟩ := f7.addr h04 hx4 rfl; refine ⟨a4, ha4, hi6.1, hi6.2, ?_⟩; obtain ⟨cs, hr, hc4⟩ := f7.ldN (k := 2) rfl ha4 h04 hx4; obtain ⟨A10, c10, A11, c11, rfl, f12, f13⟩ := hr; have hc5 := hc4 1 _ rfl; refine ⟨_, _, _, hc5.val, ?_⟩; obtain ⟨h05, x6, hx5, q⟩ := q; obtain ⟨a5, ha5, hi7⟩ := f13.addr h05 hx5 rfl; refine ⟨a5, ha5, hi7.1, hi7.2, ?_⟩; have hc6 := f13.ldu ha5 h05 hx5; refine ⟨_, hc6.val, ?_⟩; refine NewH.mk fun H_7 e2 => ?_; obtain ⟨xσ7, st7, f14⟩ := SlO.lit (E := u64L) xσ6 10 (xs := [x6]) (l := [[_]]) e2 rfl (.cons rfl .nil) (show (1 : Nat) ≤ 17592186044416 by decide); replace hc3 := hc3.step st7; refine ⟨hc3.val, ?_⟩; obtain ⟨xσ8, st8, f14⟩ := SlO.freeze f14; obtain ⟨q2, q⟩ := q; replace f9 := f9.step (st7.then st8); replace hc3 := hc3.step st8; refine SlO.rowApp f9 ha3 h03 hx3 hc3 f14 rfl rfl q2.l q2.r rfl (kont := fun A12 c12 H_8 xσ9 st9 w => ?_); obtain ⟨h06, hi9, q⟩ := q; obtain ⟨a6, ha6, hi8⟩ := f9.addr h06 ((((rfl : _ = _).trans hl2.symm).trans hl4.symm).trans hl6.symm) hi9; refine ⟨a6, ha6, hi8.1, hi8.2, ?_⟩; have ea := Option.some.inj (ha3.symm.trans ha6); subst ea; refine ⟨w.1, NewH.mk fun H_9 e3 => ?_⟩; obtain ⟨st10, f9⟩ := w.2 H_9 e3; have c_0 := st7.then (st8.then (st9.then st10)); replace sl75 := sl75.trans c_0; replace f8 := f8.step c_0; exact hnext3 (IntKind.i64.wrap (t4.1 + 1), t4.2.1, (List.set t4.2.2 (Int.toNat (IntKind.i64.wrap (x3 - 1))) (x4 ++ ([x6] : List Nat)))) _ _ ⟨_, sl75, rfl, hl5, f8, (set_back ((((rfl : _ = _).trans hl2.symm).trans hl4.symm).trans hl6.symm) (set_len ((((rfl : _ = _).trans hl2.symm).trans hl4.symm).trans hl6.symm)) hl6), f9⟩ q
   obtain ⟨h07, hi11, q⟩ := q; obtain ⟨a7, ha7, hi10⟩ := f8.addr h07 ((((rfl : _ = _).trans hl.symm).trans hl3.symm).trans hl5.symm) hi11; refine ⟨a7, ha7, hi10.1, hi10.2, ?_⟩; obtain ⟨h08, hi13, q⟩ := q; obtain ⟨a8, ha8, hi12⟩ := f8.addr h08 ((((rfl : _ = _).trans hl.symm).trans hl3.symm).trans hl5.symm) hi13; refine ⟨a8, ha8, hi12.1, hi12.2, ?_⟩; obtain ⟨x7, hx6, q⟩ := q; obtain ⟨xσ10, A13, c13, st11, hc7, f15, f8⟩ := SlO.take f8 ha7 h07 hx6 11; refine ⟨_, _, _, hc7.val, ?_⟩; have ea := Option.some.inj (ha7.symm.trans ha8); subst ea; refine ⟨_, _, _, hc7.val, ?_⟩; obtain ⟨h09, hi15, q⟩ := q; obtain ⟨a9, ha9, hi14⟩ := f15.addr h09 rfl hi15; refine ⟨a9, ha9, hi14.1, hi14.2, ?_⟩; obtain ⟨x8, hx7, q⟩ := q; obtain ⟨A14, c14, Y5, hc8, hY6, f16, bk2⟩ := f15.row ha9 h09 hx7; replace b := b.step (st2.then (st3.then (st4.then (st5.then (st6.then st11))))); have g2 := SlO.rowF f16 (fun b hb => (hY6 b hb).1); refine ⟨_, _, _, hc8.val, ?_⟩; replace b3 := b3.step (st6.then st11); refine ⟨_, _, _, b3.cell 3 rfl, ?_⟩; obtain ⟨h010, x9, hx8, q⟩ := q; replace f7 := f7.step (st4.then (st5.then (st6.then st11))); obtain ⟨a10, ha10, hi16⟩ := f7.addr h010 hx8 rfl; refine ⟨a10, ha10, hi16.1, hi16.2, ?_⟩; obtain ⟨cs2, hr2, hc9⟩ := f7.ldN (k := 2) rfl ha10 h010 hx8; obtain ⟨A15, c15, A16, c16, rfl, f17, f18⟩ := hr2; have hc10 := hc9 1 _ rfl; refine ⟨_, _, _, hc10.val, ?_⟩; obtain ⟨h011, x10, hx9, q⟩ := q; obtain ⟨a11, ha11, hi17⟩ := f18.addr h011 hx9 rfl; refine ⟨a11, ha11, hi17.1, hi17.2, ?_⟩; have hc11 := f18.ldu ha11 h011 hx9; refine ⟨_, hc11.val, ?_⟩; refine NewH.mk fun H_10 e4 => ?_; obtain ⟨xσ11, st12, f19⟩ := SlO.lit (E := u64L) xσ10 12 (xs := [x10]) (l := [[_]]) e4 rfl (.cons rfl .nil) (show (1 : Nat) ≤ 17592186044416 by decide); replace hc8 := hc8.step st12; replace hc7 := hc7.step st12; refine ⟨hc8.val, hc7.val, hc7.val, ?_⟩; obtain ⟨xσ12, st13, f19⟩ := SlO.freeze f19; obtain ⟨q3, q⟩ := q; replace f15 := f15.step (st12.then st13); replace hc8 := hc8.step st13; refine SlO.rowApp f15 ha9 h09 hx7 hc8 f19 rfl rfl q3.l q3.r rfl (kont := fun A17 c17 H_11 xσ13 st14 w3 => ?_); replace hc7 := hc7.step (st13.then st14); refine ⟨hc7.val, ?_⟩; obtain ⟨h012, hi19, q⟩ := q; obtain ⟨a12, ha12, hi18⟩ := f15.addr h012 rfl hi19; refine ⟨a12, ha12, hi18.1, hi18.2, ?_⟩; have ea := Option.some.inj (ha9.symm.trans ha12); subst ea; refine ⟨w3.1, NewH.mk fun H_12 e5 => ?_⟩; obtain ⟨st15, f15⟩ := w3.2 H_12 e5; replace f8 := f8.step (st12.then (st13.then (st14.then st15))); replace hc7 := hc7.step st15; obtain ⟨xσ14, st16, f8⟩ := SlO.give f8 ha7 rfl (lt_get_ hx6) hc7 (set_len rfl) f15; have c_1 := st11.then (st12.then (st13.then (st14.then (st15.then st16)))); replace sl75 := sl75.trans c_1; replace f9 := f9.step c_1; exact hnext3 (IntKind.i64.wrap (t4.1 + 1), (List.set t4.2.1 (Int.toNat (IntKind.i64.wrap (x3 - 1))) (List.set x7 (Int.toNat (IntKind.i64.wrap (t2.1 - 1))) (x8 ++ ([x10] : List Nat)))), t4.2.2) _ _ ⟨_, sl75, rfl, (set_back ((((rfl : _ = _).trans hl.symm).trans hl3.symm).trans hl5.symm) (set_len ((((rfl : _ = _).trans hl.symm).trans hl3.symm).trans hl5.symm)) hl5), f8, hl6, f9⟩ q
 replace b3 := b3.step (st2.then st3); refine ⟨_, b3.cell0, ?_⟩; obtain ⟨xσ15, st17, f8⟩ := SlO.freeze f8; replace f9 := f9.step st17; obtain ⟨xσ16, st18, f9⟩ := SlO.freeze f9; have c_2 := st.then (st2.then (st3.then (st17.then st18))); replace f := f.step c_2; replace f2 := f2.step c_2; replace f3 := f3.step c_2; replace f4 := f4.step c_2; replace f5 := f5.step c_2; replace b2 := b2.step c_2; replace b := b.step (st2.then (st3.then (st17.then st18))); replace f8 := f8.step st18; refine q (Zt xσ16) (ren [1, 2, 3, 4, 5] xσ16) H_3 (ren_z _ _) _ _ rfl _ _ _ rfl (SlO.keep f (Fr.refl _ _) (Fr.wide (ren_y (js := [1, 2, 3, 4, 5]) (j := 2) (m := 2) (by decide) (by decide)) _)) _ _ rfl _ _ _ rfl f2 _ _ _ rfl f3 _ _ _ rfl (SlO.keep f4 (Fr.refl _ _) (Fr.wide (ren_y (js := [1, 2, 3, 4, 5]) (j := 4) (m := 4) (by decide) (by decide)) _)) _ _ _ rfl (SlO.keep f5 (Fr.refl _ _) (Fr.wide (ren_y (js := [1, 2, 3, 4, 5]) (j := 5) (m := 5) (by decide) (by decide)) _)) ⟨b2.blk, (ren_y (js := [1, 2, 3, 4, 5]) (j := 3) (m := 3) (by decide) (by decide)) _ b2.tag⟩ ⟨b.blk, (ren_y (js := [1, 2, 3, 4, 5]) (j := 1) (m := 1) (by decide) (by decide)) _ b.tag⟩ _ _ _ ((rfl : _ = _).trans hl.symm) f8 _ _ _ ((rfl : _ = _).trans hl2.symm) f9 _ (fun Z4 xτ H_13 hT hO3 hd r7 A18 n9 c18 hn11 f20 r8 A19 n10 c19 hn12 f21 o v3 he3 A20 n11 c20 hn13 f22 b o2 v4 he4 A21 n12 c21 hn14 f23 A22 n13 c22 hn15 f24 A23 n14 c23 hn16 f25 A24 n15 c24 hn17 f26 b2 q => ?_); obtain ⟨xσ17, st19, fz3, fy4⟩ := callT hT hO3 hd [1, 2, 3, 4, 5]; replace f20 := f20.keep fz3; replace f21 := f21.keep fz3; replace f22 := SlO.keep f22 fz3 (Fr.wide (fy4 1 2 rfl) _); replace b := BoxF.mk b.blk (fy4 0 1 rfl _ b.tag); replace f23 := f23.keep fz3; replace f24 := f24.keep fz3; replace f25 := SlO.keep f25 fz3 (Fr.wide (fy4 3 4 rfl) _); replace f26 := SlO.keep f26 fz3 (Fr.wide (fy4 4 5 rfl) _); replace b2 := BoxF.mk b2.blk (fy4 2 3 rfl _ b2.tag); cases hn11; cases hn12; cases he3; cases hn13; cases he4; cases hn14; cases hn15; cases hn16; cases hn17; refine ⟨_, _, _, _, _, _, rfl, ?_⟩; refine NewH.mk fun H_14 e6 => ?_; obtain ⟨xσ18, st20, f27⟩ := KvO.new xσ17 Key3.e (slL u64L) false 13 e6; refine NewH.mk fun H_15 e7 => ?_; obtain ⟨xσ19, st21, f28⟩ := KvO.new xσ18 Key124.e (slL u64L) false 14 e7; replace b3 := b3.step (st17.then (st18.then (st19.then (st20.then st21)))); refine ⟨b3.may 4 (show (4 : Nat) < 6 by decide), NewH.mk fun H_16 e8 => ?_⟩; obtain ⟨st22, b3⟩ := b3.wrote 4 (show (4 : Nat) < 6 by decide) e8; simp only [List.set_cons_zero, List.set_cons_succ] at b3; refine ⟨b3.may 5 (show (5 : Nat) < 6 by decide), NewH.mk fun H_17 e9 => ?_⟩; obtain ⟨st23, b3⟩ := b3.wrote 5 (show (5 : Nat) < 6 by decide) e9; simp only [List.set_cons_zero, List.set_cons_succ] at b3; replace f7 := f7.step (st.then (st2.then (st3.then (st17.then (st18.then (st19.then (st20.then (st21.then (st22.then st23))))))))); refine q (fun i => xσ19 i = 0 ∨ xσ19 i = 6) H_17 _ (BoxF.ptAt (E := (slL TSecret.L)) b3 3 (vs := [_]) rfl (.inr (b3.tag)) (slL_rep rfl (f7.wide (fun i h => .inl h)))) _ (fun Z5 H_18 hE3 hO4 x11 Y6 hY7 A25 n16 c25 hn18 f29 q => ?_)
 obtain ⟨xσ20, st24, fy5⟩ := callB1 hE3 hO4 xσ19 15 hY7; replace f29 := (SlO.anyZ (Z' := Zt xσ20) i64_flatL f29).keep (Fr.refl _ _) fy5; cases hn18; refine ⟨_, _, _, rfl, ?_⟩; replace b3 := b3.step st24; refine ⟨_, _, _, b3.cell 1 rfl, ?_⟩; replace f27 := f27.step (st21.then (st22.then (st23.then st24))); refine LoopI.ofQ q (fun t_ s_ hp_ => ∃ σ_, Stp [13, 16] xσ20 H_18 σ_ hp_ ∧ t_.1 = s_ ∧ KvO Key3.e (slL u64L) false 13 σ_ hp_ H_13.size t_.2) (fun h k => h _ _ k) ⟨_, Stp.refl _ _ _, rfl, f27⟩ ?_; rintro t5 _ _ H_19 next4 nextQ4 ⟨xσ21, st25, rfl, f27⟩ q hnext4; (try dsimp only at q ⊢); have sl107 := st25; refine condI (fun q => ?_) (fun q => ?_) q
 · obtain ⟨h013, x12, hx10, q⟩ := q; replace f6 := f6.step (st.then (st2.then (st3.then (st17.then (st18.then (st19.then (st20.then (st21.then (st22.then (st23.then (st24.then st25))))))))))); obtain ⟨a13, ha13, hi20⟩ := f6.addr h013 hx10 rfl; refine ⟨a13, ha13, hi20.1, hi20.2, ?_⟩; have hc12 := f6.ldi ha13 h013 hx10; refine ⟨_, hc12.val, ?_⟩; obtain ⟨h014, x13, hx11, q⟩ := q; replace f21 := f21.step (st20.then (st21.then (st22.then (st23.then (st24.then st25))))); obtain ⟨a14, ha14, hi21⟩ := f21.addr h014 hx11 rfl; refine ⟨a14, ha14, hi21.1, hi21.2, ?_⟩; replace b3 := b3.step st25; refine ⟨_, b3.cell 4 rfl, ?_⟩; obtain ⟨A26, c26, hc13, f30⟩ := f21.lds ha14 h014 hx11; refine ⟨_, _, _, hc13.val, ?_⟩; refine q (Zt xσ21) H_19 _ rfl _ _ _ rfl f30 _ (fun Z6 H_20 hE4 hO5 x14 Y7 hY8 A27 n17 c27 hn19 f31 q => ?_); obtain ⟨xσ22, st26, fz5, fy6⟩ := call1 hE4 hO5 xσ21 16 (fun _ h => h) hY8; replace f31 := f31.keep fz5 fy6; cases hn19; refine ⟨_, _, _, rfl, ?_⟩; replace b3 := b3.step st26; refine ⟨(b3.cell 4 rfl), ?_⟩; obtain ⟨xσ23, st27, f31⟩ := SlO.freeze f31; replace f27 := f27.step (st26.then st27); refine KvO.put f27 Try.underlying101 Key3.ops x12 (x := x14) (slL_rep rfl f31) rfl (kk := fun H_21 st28 f27_ => ?_); replace f27 := f27_; replace sl107 := sl107.trans (st26.then (st27.then st28)); exact hnext4 (IntKind.i64.wrap (t5.1 + 1), (mset t5.2 x12 x14)) _ _ ⟨_, sl107, rfl, f27⟩ q
 replace f28 := f28.step (st22.then (st23.then (st24.then st25))); refine LoopI.ofQ q (fun t_ s_ hp_ => ∃ σ_, Stp [14, 17, 18] xσ21 H_19 σ_ hp_ ∧ t_.1 = s_ ∧ KvO Key124.e (slL u64L) false 14 σ_ hp_ H_14.size t_.2) (fun h k => h _ _ k) ⟨_, Stp.refl _ _ _, rfl, f28⟩ ?_; rintro t6 _ _ H_22 next5 nextQ5 ⟨xσ24, st29, rfl, f28⟩ q hnext5; (try dsimp only at q ⊢); have sl123 := st29; refine condI (fun q => ?_) (fun q => ?_) q
 · replace b3 := b3.step (st25.then st29); replace f7 := f7.step (st24.then (st25.then st29)); refine q (fun i => xσ24 i = 0 ∨ xσ24 i = 6) H_22 _ (BoxF.ptAt (E := (slL TSecret.L)) b3 3 (vs := [_]) rfl (.inr (b3.tag)) (slL_rep rfl (f7.wide (fun i h => .inl h)))) _ (fun Z7 H_23 hE5 hO6 x15 Y8 hY9 A28 n18 c28 hn20 f32 q => ?_); obtain ⟨xσ25, st30, fy7⟩ := callB1 hE5 hO6 xσ24 17 hY9; replace f32 := (SlO.anyZ (Z' := Zt xσ25) i64_flatL f32).keep (Fr.refl _ _) fy7; cases hn20; refine ⟨_, _, _, rfl, ?_⟩; replace b3 := b3.step st30; refine ⟨_, _, _, b3.cell 1 rfl, ?_⟩; replace f28 := f28.step st30; refine LoopI.ofQ q (fun t_ s_ hp_ => ∃ σ_, Stp [14, 18] xσ25 H_23 σ_ hp_ ∧ t_.1 = s_ ∧ KvO Key124.e (slL u64L) false 14 σ_ hp_ H_14.size t_.2) (fun h k => h _ _ k) ⟨_, Stp.refl _ _ _, rfl, f28⟩ ?_; rintro t7 _ _ H_24 next6 nextQ6 ⟨xσ26, st31, rfl, f28⟩ q hnext6; (try dsimp only at q ⊢); have sl125 := st31; refine condJ (fun q => ?_) (fun q => ?_) q
   · replace sl123 := sl123.trans (st30.then st31); exact hnext5 (IntKind.i64.wrap (t6.1 + 1), t7.2) _ _ ⟨_, sl123, rfl, f28⟩ q
   obtain ⟨h015, x16, hx12, q⟩ := q; replace f6 := f6.step (st.then (st2.then (st3.then (st17.then (st18.then (st19.then (st20.then (st21.then (st22.then (st23.then (st24.then (st25.then (st29.then (st30.then st31)))))))))))))); obtain ⟨a15, ha15, hi22⟩ := f6.addr h015 hx12 rfl; refine ⟨a15, ha15, hi22.1, hi22.2, ?_⟩; have hc14 := f6.ldi ha15 h015 hx12; refine ⟨_, hc14.val, ?_⟩; obtain ⟨h016, x17, hx13, q⟩ := q; replace f20 := f20.step (st20.then (st21.then (st22.then (st23.then (st24.then (st25.then (st29.then (st30.then st31)))))))); obtain ⟨a16, ha16, hi23⟩ := f20.addr h016 hx13 rfl; refine ⟨a16, ha16, hi23.1, hi23.2, ?_⟩; replace b3 := b3.step st31; refine ⟨_, b3.cell 5 rfl, ?_⟩; obtain ⟨A29, c29, hc15, f33⟩ := f20.lds ha16 h016 hx13; refine ⟨_, _, _, hc15.val, ?_⟩; obtain ⟨h017, x18, hx14, q⟩ := q; obtain ⟨a17, ha17, hi24⟩ := f33.addr h017 hx14 rfl; refine ⟨a17, ha17, hi24.1, hi24.2, ?_⟩; obtain ⟨A30, c30, hc16, f34⟩ := f33.lds ha17 h017 hx14; refine ⟨_, _, _, hc16.val, ?_⟩; refine q (Zt xσ26) H_24 _ rfl _ _ _ rfl f34 _ (fun Z8 H_25 hE6 hO7 x19 Y9 hY10 A31 n19 c31 hn21 f35 q => ?_); obtain ⟨xσ27, st32, fz7, fy8⟩ := call1 hE6 hO7 xσ26 18 (fun _ h => h) hY10; replace f35 := f35.keep fz7 fy8; cases hn21; refine ⟨_, _, _, rfl, ?_⟩; replace b3 := b3.step st32; refine ⟨(b3.cell 5 rfl), ?_⟩; obtain ⟨xσ28, st33, f35⟩ := SlO.freeze f35; replace f28 := f28.step (st32.then st33); refine KvO.put f28 Try.underlying102 Key124.ops (t6.1, x16) (x := x19) (slL_rep rfl f35) rfl (kk := fun H_26 st34 f28_ => ?_); replace f28 := f28_; replace sl125 := sl125.trans (st32.then (st33.then st34)); exact hnext6 (IntKind.i64.wrap (t7.1 + 1), (mset t7.2 (t6.1, x16) x19)) _ _ ⟨_, sl125, rfl, f28⟩ q
 refine ⟨rfl, ?_⟩; obtain ⟨q4, q⟩ := q; refine ⟨q4.1, Int.le_refl _, q4.w1, q4.w2, NewH.mk fun H_27 e10 => ?_⟩; obtain ⟨xσ29, st35, f36⟩ := SlO.made (O := (slM (rdM TGot.L) 108)) xσ24 19 e10 (slM_zero _ _) q4.len; replace b := b.step (st20.then (st21.then (st22.then (st23.then (st24.then (st25.then (st29.then st35))))))); refine ⟨_, b.cell 1 rfl, ?_⟩; refine LoopI.ofQ q (fun t_ s_ hp_ => ∃ σ_, Stp [19, 20, 21, 22, 23, 24, 25] xσ29 H_27 σ_ hp_ ∧ t_.1 = s_ ∧ t_.2.length = (List.replicate l.length []).length ∧ SlO (slM (rdM TGot.L) 108) 63 (Zt σ_) (Yt σ_ 19) hp_ (some (Addr.mk H_22.size 0 none)) l.length t_.2) (fun h k => h _ _ k) ⟨_, Stp.refl _ _ _, rfl, rfl, f36⟩ ?_; rintro t8 _ _ H_28 next7 nextQ7 ⟨xσ30, st36, rfl, hl7, f36⟩ q hnext7; (try dsimp only at q ⊢); have sl132 := st36; refine condJ (fun q => ?_) (fun q => ?_) q
 · obtain ⟨xσ45, st54, f36⟩ := SlO.freeze f36; replace hs := hs.trans (st.then (st2.then (st3.then (st17.then (st18.then (st19.then (st20.then (st21.then (st22.then (st23.then (st24.then (st25.then (st29.then (st35.then (st36.then st54))))))))))))))); have c_3 := st20.then (st21.then (st22.then (st23.then (st24.then (st25.then (st29.then (st35.then (st36.then st54)))))))); replace f22 := f22.step c_3; replace b := b.step (st36.then st54); replace f23 := f23.step c_3; replace f24 := f24.step c_3; replace f25 := f25.step c_3; replace f26 := f26.step c_3; replace b2 := b2.step c_3; exact hk (Zt xσ45) (ren [1, 2, 3, 4, 5] xσ45) _ (hs.turn hσ) (hs.oldT hσ) (ren_z _ _) t8.2 _ _ _ ((rl_len _ _).trans hl7.symm) f36 o _ rfl _ _ _ rfl (SlO.keep f22 (Fr.refl _ _) (Fr.wide (ren_y (js := [1, 2, 3, 4, 5]) (j := 2) (m := 2) (by decide) (by decide)) _)) ⟨b.blk, ren_y (js := [1, 2, 3, 4, 5]) (j := 1) (m := 1) (by decide) (by decide) _ b.tag⟩ o2 _ rfl _ _ _ rfl f23 _ _ _ rfl f24 _ _ _ rfl (SlO.keep f25 (Fr.refl _ _) (Fr.wide (ren_y (js := [1, 2, 3, 4, 5]) (j := 4) (m := 4) (by decide) (by decide)) _)) _ _ _ rfl (SlO.keep f26 (Fr.refl _ _) (Fr.wide (ren_y (js := [1, 2, 3, 4, 5]) (j := 5) (m := 5) (by decide) (by decide)) _)) ⟨b2.blk, ren_y (js := [1, 2, 3, 4, 5]) (j := 3) (m := 3) (by decide) (by decide) _ b2.tag⟩ q
 apply open_telling_read.ok; unfold open_telling_read.W; replace b3 := b3.step (st25.then (st29.then (st35.then st36))); replace f7 := f7.step (st24.then (st25.then (st29.then (st35.then st36)))); refine q (fun i => xσ30 i = 0 ∨ xσ30 i = 6) H_28 _ (BoxF.ptAt (E := (slL TSecret.L)) b3 3 (vs := [_]) rfl (.inr (b3.tag)) (slL_rep rfl (f7.wide (fun i h => .inl h)))) _ (fun Z9 H_29 hE7 hO8 x20 Y10 hY11 A32 n20 c32 hn22 f37 q => ?_); obtain ⟨xσ31, st37, fy9⟩ := callB1 hE7 hO8 xσ30 20 hY11; replace f37 := (SlO.anyZ (Z' := Zt xσ31) i64_flatL f37).keep (Fr.refl _ _) fy9; cases hn22; refine ⟨_, _, _, rfl, ?_⟩; have f38 := SlO.nil (rdM TGot.L) 108 (Zt xσ31) (Yt xσ31 21) H_29; refine LoopI.ofQ q (fun t_ s_ hp_ => ∃ σ_ A0_ n0_ c0_, Stp [21, 22, 23] xσ31 H_29 σ_ hp_ ∧ ((A0_, n0_, c0_), t_.2) = s_ ∧ n0_ = t_.1.length ∧ SlO (rdM TGot.L) 108 (Zt σ_) (Yt σ_ 21) hp_ A0_ c0_ t_.1) (fun h k => h _ _ k) ⟨_, _, _, _, Stp.refl _ _ _, rfl, rfl, f38⟩ ?_; rintro t9 _ _ H_30 next8 nextQ8 ⟨xσ32, A33, n21, c33, st38, rfl, rfl, f39⟩ q hnext8; (try dsimp only at q ⊢); have sl133 := st38; refine condJ (fun q => ?_) (fun q => ?_) q
 · refine ⟨_, _, _, rfl, ?_⟩; have c_4 := st37.then st38; replace b3 := b3.step c_4; replace f7 := f7.step c_4; refine q (fun i => xσ32 i = 0 ∨ xσ32 i = 6) H_30 _ (BoxF.ptAt (E := (slL TSecret.L)) b3 3 (vs := [_]) rfl (.inr (b3.tag)) (slL_rep rfl (f7.wide (fun i h => .inl h)))) _ (fun Z11 H_38 hE9 hO10 x27 Y11 hY12 A39 n24 c39 hn25 f47 q => ?_); obtain ⟨xσ40, st48, fy10⟩ := callB1 hE9 hO10 xσ32 24 hY12; replace f47 := (SlO.anyZ (Z' := Zt xσ40) i64_flatL f47).keep (Fr.refl _ _) fy10; cases hn25; refine ⟨_, _, _, rfl, ?_⟩; replace f36 := f36.step (st37.then (st38.then st48)); refine LoopI.ofQ q (fun t_ s_ hp_ => ∃ σ_, Stp [19, 25] xσ40 H_38 σ_ hp_ ∧ t_.1 = s_ ∧ t_.2.length = t8.2.length ∧ SlO (slM (rdM TGot.L) 108) 63 (Zt σ_) (Yt σ_ 19) hp_ (some (Addr.mk H_22.size 0 none)) l.length t_.2) (fun h k => h _ _ k) ⟨_, Stp.refl _ _ _, rfl, rfl, f36⟩ ?_; rintro t11 _ _ H_39 next10 nextQ10 ⟨xσ41, st49, rfl, hl9, f36⟩ q hnext10; (try dsimp only at q ⊢); have sl137 := st49; refine condJ (fun q => ?_) (fun q => ?_) q
   · replace sl132 := sl132.trans (st37.then (st38.then (st48.then st49))); exact hnext7 (IntKind.i64.wrap (t8.1 + 1), t11.2) _ _ ⟨_, sl132, rfl, (set_back ((rl_len _ _).trans hl7.symm) (((rl_len _ _).trans hl7.symm).trans hl9.symm) hl7), f36⟩ q
   obtain ⟨h023, hi33, q⟩ := q; replace f47 := f47.step st49; obtain ⟨a23, ha23, hi32⟩ := f47.addr h023 rfl hi33; refine ⟨a23, ha23, hi32.1, hi32.2, ?_⟩; obtain ⟨x28, hx20, q⟩ := q; have hc20 := f47.ldi ha23 h023 hx20; refine ⟨_, hc20.val, ?_⟩; obtain ⟨h024, hi35, q⟩ := q; obtain ⟨a24, ha24, hi34⟩ := f36.addr h024 (((rl_len _ _).trans hl7.symm).trans hl9.symm) hi35; refine ⟨a24, ha24, hi34.1, hi34.2, ?_⟩; obtain ⟨h025, hi37, q⟩ := q; replace f39 := f39.step (st48.then st49); obtain ⟨a25, ha25, hi36⟩ := f39.addr h025 rfl hi37; refine ⟨a25, ha25, hi36.1, hi36.2, ?_⟩; obtain ⟨x29, hx21, q⟩ := q; obtain ⟨A40, c40, Y12, hc21, hY13, f48, bk3⟩ := f36.row ha24 h024 hx21; replace b := b.step (st36.then (st37.then (st38.then (st48.then st49)))); have g3 := SlO.rowF f48 (fun b hb => (hY13 b hb).1); refine ⟨_, _, _, hc21.val, ?_⟩; obtain ⟨x30, hx22, q⟩ := q; obtain ⟨cs5, hr5, hc22⟩ := f39.ldN (k := 4) rfl ha25 h025 hx22; obtain ⟨A41, c41, A42, c42, rfl, f49, f50⟩ := hr5; have hc23 := hc22 0 _ rfl; have hc24 := hc22 1 _ rfl; have hc25 := hc22 2 _ rfl; have hc26 := hc22 3 _ rfl; refine ⟨_, _, _, _, _, _, _, _, hc23.val, hc24.val, hc25.val, hc26.val, ?_⟩; refine NewH.mk fun H_40 e17 => ?_; obtain ⟨xσ42, st50, f51⟩ := SlO.lit (E := TGot.L) xσ41 25 (xs := [x30]) (l := [[_, _, _, _]]) e17 rfl (.cons (show (TGot.L).rep _ _ x30 _ from ⟨_, _, _, _, rfl, f49, f50⟩) .nil) (show (1 : Nat) ≤ 17592186044416 by decide); replace hc21 := hc21.step st50; refine ⟨hc21.val, ?_⟩; obtain ⟨xσ43, st51, f51⟩ := SlO.freeze f51; obtain ⟨q7, q⟩ := q; replace f36 := f36.step (st50.then st51); replace hc21 := hc21.step st51; refine SlO.rowApp f36 ha24 h024 hx21 hc21 f51 rfl rfl q7.l q7.r rfl (kont := fun A43 c43 H_41 xσ44 st52 w7 => ?_); obtain ⟨h026, hi39, q⟩ := q; obtain ⟨a26, ha26, hi38⟩ := f36.addr h026 (((rl_len _ _).trans hl7.symm).trans hl9.symm) hi39; refine ⟨a26, ha26, hi38.1, hi38.2, ?_⟩; have ea := Option.some.inj (ha24.symm.trans ha26); subst ea; refine ⟨w7.1, NewH.mk fun H_42 e18 => ?_⟩; obtain ⟨st53, f36⟩ := w7.2 H_42 e18; replace sl137 := sl137.trans (st50.then (st51.then (st52.then st53))); exact hnext10 (IntKind.i64.wrap (t11.1 + 1), (List.set t11.2 (Int.toNat x28) (x29 ++ ([x30] : List TGot)))) _ _ ⟨_, sl137, rfl, (set_back (((rl_len _ _).trans hl7.symm).trans hl9.symm) (set_len (((rl_len _ _).trans hl7.symm).trans hl9.symm)) hl9), f36⟩ q
 replace b3 := b3.step (st37.then st38); refine ⟨_, _, _, b3.cell 1 rfl, ?_⟩; obtain ⟨q5, q⟩ := q; refine ⟨q5.1, Int.le_refl _, q5.w1, q5.w2, NewH.mk fun H_31 e11 => ?_⟩; obtain ⟨xσ33, st39, f40⟩ := SlO.made (O := (rdM u64L)) xσ32 22 e11 (u64_zero) q5.len; replace b3 := b3.step st39; refine ⟨_, _, _, b3.cell 1 rfl, ?_⟩; refine LoopI.ofQ q (fun t_ s_ hp_ => ∃ σ_, Stp [22] xσ33 H_31 σ_ hp_ ∧ t_.1 = s_ ∧ t_.2.length = (List.replicate holders.length 0).length ∧ SlO (rdM u64L) 22 (Zt σ_) (Yt σ_ 22) hp_ (some (Addr.mk H_30.size 0 none)) holders.length t_.2) (fun h k => h _ _ k) ⟨_, Stp.refl _ _ _, rfl, rfl, f40⟩ ?_; rintro t10 _ _ H_32 next9 nextQ9 ⟨xσ34, st40, rfl, hl8, f40⟩ q hnext9; (try dsimp only at q ⊢); have sl135 := st40; refine condI (fun q => ?_) (fun q => ?_) q
 · obtain ⟨h018, x21, hx15, q⟩ := q; replace f6 := f6.step (st.then (st2.then (st3.then (st17.then (st18.then (st19.then (st20.then (st21.then (st22.then (st23.then (st24.then (st25.then (st29.then (st35.then (st36.then (st37.then (st38.then (st39.then st40)))))))))))))))))); obtain ⟨a18, ha18, hi25⟩ := f6.addr h018 hx15 rfl; refine ⟨a18, ha18, hi25.1, hi25.2, ?_⟩; have hc17 := f6.ldi ha18 h018 hx15; refine ⟨_, hc17.val, ?_⟩; refine condI (fun q => ?_) (fun q => ?_) q
   · replace b3 := b3.step st40; refine ⟨_, b3.cell 4 rfl, ?_⟩; obtain ⟨x22, hx16, q⟩ := q; replace f27 := f27.step (st29.then (st35.then (st36.then (st37.then (st38.then (st39.then st40)))))); refine KvF.lookD f27.kv Try.underlying101 Key3.ops (x0 := []) (zcs := [.slice none 0 0]) Zero37.run (fun _ _ => ⟨none, 0, rfl, SlF.nil _ _ _ _ _⟩) false x21 (fun cs3 hr3 => ?_); rw [← hx16] at hr3; obtain ⟨A34, c34, e12, f41⟩ := hr3; cases e12; refine ⟨_, _, _, rfl, ?_⟩; obtain ⟨h019, x23, hx17, q⟩ := q; obtain ⟨a19, ha19, hi26⟩ := f41.addr h019 hx17 rfl; refine ⟨a19, ha19, hi26.1, hi26.2, ?_⟩; have hc18 := f41.ldu ha19 h019 hx17; refine ⟨_, hc18.val, ?_⟩; obtain ⟨h020, hi28, q⟩ := q; obtain ⟨a20, ha20, hi27⟩ := f40.addr h020 ((rl_len _ _).trans hl8.symm) hi28; refine ⟨a20, ha20, hi27.1, hi27.2, ?_⟩; have w5 := fun v hr => SlO.set1 (v := v) (y := x23) f40 rfl ha20 h020 (lt_of_n ((rl_len _ _).trans hl8.symm) hi28) hr; refine ⟨(w5 _ rfl).1, NewH.mk fun H_33 e13 => ?_⟩; obtain ⟨st41, f40⟩ := (w5 _ rfl).2 H_33 e13; replace sl135 := sl135.trans st41; exact hnext9 (IntKind.i64.wrap (t10.1 + 1), (List.set t10.2 (Int.toNat t10.1) x23)) _ _ ⟨_, sl135, rfl, (set_back ((rl_len _ _).trans hl8.symm) (set_len ((rl_len _ _).trans hl8.symm)) hl8), f40⟩ q
   replace b3 := b3.step st40; refine ⟨_, b3.cell 5 rfl, ?_⟩; obtain ⟨x24, hx18, q⟩ := q; replace f28 := f28.step (st35.then (st36.then (st37.then (st38.then (st39.then st40))))); refine KvF.lookD f28.kv Try.underlying102 Key124.ops (x0 := []) (zcs := [.slice none 0 0]) Zero37.run (fun _ _ => ⟨none, 0, rfl, SlF.nil _ _ _ _ _⟩) false (t8.1, x21) (fun cs4 hr4 => ?_); rw [← hx18] at hr4; obtain ⟨A35, c35, e14, f42⟩ := hr4; cases e14; refine ⟨_, _, _, rfl, ?_⟩; obtain ⟨h021, x25, hx19, q⟩ := q; obtain ⟨a21, ha21, hi29⟩ := f42.addr h021 hx19 rfl; refine ⟨a21, ha21, hi29.1, hi29.2, ?_⟩; have hc19 := f42.ldu ha21 h021 hx19; refine ⟨_, hc19.val, ?_⟩; obtain ⟨h022, hi31, q⟩ := q; obtain ⟨a22, ha22, hi30⟩ := f40.addr h022 ((rl_len _ _).trans hl8.symm) hi31; refine ⟨a22, ha22, hi30.1, hi30.2, ?_⟩; have w6 := fun v hr => SlO.set1 (v := v) (y := x25) f40 rfl ha22 h022 (lt_of_n ((rl_len _ _).trans hl8.symm) hi31) hr; refine ⟨(w6 _ rfl).1, NewH.mk fun H_34 e15 => ?_⟩; obtain ⟨st42, f40⟩ := (w6 _ rfl).2 H_34 e15; replace sl135 := sl135.trans st42; exact hnext9 (IntKind.i64.wrap (t10.1 + 1), (List.set t10.2 (Int.toNat t10.1) x25)) _ _ ⟨_, sl135, rfl, (set_back ((rl_len _ _).trans hl8.symm) (set_len ((rl_len _ _).trans hl8.symm)) hl8), f40⟩ q
 replace b3 := b3.step st40; refine ⟨_, b3.cell0, ?_⟩; replace b := b.step (st36.then (st37.then (st38.then (st39.then st40)))); refine ⟨_, _, _, b.cell0, b.cell 1 rfl, b.cell 2 rfl, ?_⟩; refine ⟨_, _, _, b3.cell 1 rfl, ?_⟩; refine ⟨_, b3.cell 2 rfl, ?_⟩; obtain ⟨xσ35, st43, f40⟩ := SlO.freeze f40; replace f6 := f6.step (st.then (st2.then (st3.then (st17.then (st18.then (st19.then (st20.then (st21.then (st22.then (st23.then (st24.then (st25.then (st29.then (st35.then (st36.then (st37.then (st38.then (st39.then (st40.then st43))))))))))))))))))); refine q (Zt xσ35) H_32 _ rfl _ _ _ rfl f6 _ _ _ ((rl_len _ _).trans hl8.symm) f40 _ (fun Z10 H_35 hE8 hO9 x26 v5 he5 A36 n22 c36 hn23 f43 A37 n23 c37 hn24 f44 q => ?_); obtain ⟨xσ36, st44, fz9⟩ := callZ hE8 hO9 xσ35 (fun _ h => h); replace f43 := f43.keep fz9; replace f44 := f44.keep fz9; cases he5; cases hn23; cases hn24; refine ⟨_, _, _, _, _, _, _, _, rfl, ?_⟩; refine NewH.mk fun H_36 e16 => ?_; obtain ⟨xσ37, st45, f45⟩ := SlO.lit (E := TGot.L) xσ36 23 (xs := [x26]) (l := [[_, _, _, _]]) e16 rfl (.cons (show (TGot.L).rep _ _ x26 _ from ⟨_, _, _, _, rfl, f43, f44⟩) .nil) (show (1 : Nat) ≤ 17592186044416 by decide); obtain ⟨xσ39, st47, f45⟩ := SlO.freeze f45; obtain ⟨q6, q⟩ := q; replace f39 := f39.step (st39.then (st40.then (st43.then (st44.then (st45.then st47))))); refine SlO.appF f39 f45 rfl rfl q6.l q6.r rfl rfl (fun A38 c38 H_37 xσ38 st46 f39_ => ?_); replace f39 := f39_; have f46 := f39; clear f39; replace sl133 := sl133.trans (st39.then (st40.then (st43.then (st44.then (st45.then (st47.then st46)))))); exact hnext8 ((t9.1 ++ ([x26] : List TGot)), IntKind.i64.wrap (t9.2 + 1)) _ _ ⟨_, _, _, _, sl133, rfl, rfl, f46⟩ q
def open_Bare.C (l : (List TGot)) (K : (List TOpened) → Prop) : Prop :=
 ∀ (Z : Nat → Prop) (H : Heap), ∀ (lA : Option Addr) (ln lc : Nat), ln = l.length → SlF TGot.L Z H lA lc l → ∀ KK : Value → Heap → Prop,
   (∀ (Z' : Nat → Prop) (H' : Heap), Ext H H' → Old Z H Z' → ∀ (r0 : (List TOpened)), ∀ (Y0 : Nat → Prop), (∀ i, Y0 i → H.size ≤ i ∧ ¬ Z' i) → ∀ (Ar0_0 : Option Addr) (nr0_0 cr0_0 : Nat), nr0_0 = r0.length → SlO (rdM TOpened.L) 44 Z' Y0 H' Ar0_0 cr0_0 r0 → K r0 → KK (.slice Ar0_0 nr0_0 cr0_0) H') →
   CallH P N.open_Bare [.slice lA ln lc] H KK
def open_Bare.Q (l : (List TGot)) (K : (List TOpened) → Prop) : Prop :=
 LoopQ (τ := List TOpened × Int) (([] : List TOpened), 0) fun t nextQ =>
 cond (decide (t.2 < ((l.length : Nat) : Int))) (0 ≤ t.2 ∧ ∃ x : TGot, l[Int.toNat t.2]? = some x ∧ AppOk 56 (t.1 ++ ([x.Opened] : List TOpened)).length ∧ nextQ ((t.1 ++ ([x.Opened] : List TOpened)), IntKind.i64.wrap (t.2 + 1)))
  (K t.1)
theorem open_Bare.q {l : (List TGot)} {K : (List TOpened) → Prop} (q : open_Bare.Q l K) : open_Bare.C l K := by
 intro Z H lA ln lc hn f KK hk; cases hn; apply open_Bare.ok; unfold open_Bare.W; unfold open_Bare.Q at q; obtain ⟨σ, hz, hσ⟩ := tags Z; have hs : Stp ([1, 2, 3] : List Nat) σ H σ H := Stp.refl _ _ _; replace f := f.wide hz; clear hz; have f2 := SlO.nil (rdM TOpened.L) 44 (Zt σ) (Yt σ 1) H; refine LoopI.ofQ q (fun t_ s_ hp_ => ∃ σ_ A0_ n0_ c0_, Stp [1, 2, 3] σ H σ_ hp_ ∧ ((A0_, n0_, c0_), t_.2) = s_ ∧ n0_ = t_.1.length ∧ SlO (rdM TOpened.L) 44 (Zt σ_) (Yt σ_ 1) hp_ A0_ c0_ t_.1) (fun h k => h _ _ k) ⟨_, _, _, _, Stp.refl _ _ _, rfl, rfl, f2⟩ ?_; rintro t _ _ H_ next nextQ ⟨xσ, A, n, c, st, rfl, rfl, f3⟩ q hnext; (try dsimp only at q ⊢); have sl0 := st; refine condJ (fun q => ?_) (fun q => ?_) q
 · replace hs := hs.trans st; exact hk (Zt xσ) _ (hs.ext hσ) (hs.old hσ) _ (Yt xσ 1) (hs.fresh hσ) _ _ _ rfl f3 q
 obtain ⟨h0, x, hx, q⟩ := q; replace f := f.step st; obtain ⟨a, ha, hi⟩ := f.addr h0 hx rfl; refine ⟨a, ha, hi.1, hi.2, ?_⟩; obtain ⟨cs, hr, hc⟩ := f.ldN (k := 4) rfl ha h0 hx; obtain ⟨A2, c2, A3, c3, rfl, f4, f5⟩ := hr; have hc2 := hc 0 _ rfl; have hc3 := hc 1 _ rfl; have hc4 := hc 2 _ rfl; have hc5 := hc 3 _ rfl; refine ⟨_, _, _, _, _, _, _, _, hc2.val, hc3.val, hc4.val, hc5.val, ?_⟩; refine NewH.mk fun H_2 e => ?_; obtain ⟨xσ2, st2, b⟩ := BoxF.new xσ 2 e; refine ⟨b.mayF rfl, NewH.mk fun H_3 e2 => ?_⟩; obtain ⟨st3, b⟩ := b.wf4 rfl e2; refine ⟨_, _, _, _, _, _, _, b.cell0, b.cell 1 rfl, b.cell 2 rfl, ?_⟩; refine NewH.mk fun H_4 e3 => ?_; have c_0 := st2.then st3; replace f4 := f4.step c_0; replace f5 := f5.step c_0; obtain ⟨xσ3, st4, f6⟩ := SlO.lit (E := TOpened.L) xσ2 3 (xs := [x.Opened]) (l := [[_, _, _]]) e3 rfl (.cons (show (TOpened.L).rep _ _ x.Opened _ from ⟨_, _, _, _, rfl, f4, f5⟩) .nil) (show (1 : Nat) ≤ 17592186044416 by decide); obtain ⟨xσ5, st6, f6⟩ := SlO.freeze f6; obtain ⟨q2, q⟩ := q; replace f3 := f3.step (st2.then (st3.then (st4.then st6))); refine SlO.appF f3 f6 rfl rfl q2.l q2.r rfl rfl (fun A4 c4 H_5 xσ4 st5 f3_ => ?_); replace f3 := f3_; have f7 := f3; clear f3; replace sl0 := sl0.trans (st2.then (st3.then (st4.then (st6.then st5)))); exact hnext ((t.1 ++ ([x.Opened] : List TOpened)), IntKind.i64.wrap (t.2 + 1)) _ _ ⟨_, _, _, _, sl0, rfl, rfl, f7⟩ q
def open_Public.C (t : TTable) (world : TWorld) (holders : (List Int)) (d : Int) (shares : (List (List Nat))) (K : (List TGot) → TTable → TWorld → Prop) : Prop :=
 ∀ (Z : Nat → Prop) (τ : Nat → Nat) (H : Heap), (∀ i, τ i ≠ 0 → ¬ Z i) → ∀ (tP : Nat), ∀ (v : Int), v = (t.Setup.P : Int) → ∀ (A : Option Addr) (n c : Nat), n = t.tapes.length → SlO (rdM (slL u64L)) 37 Z (Yt τ 2) H A c t.tapes → ∀ (worldP : Nat), ∀ (v2 : Int), v2 = (world.Setup.P : Int) → ∀ (A2 : Option Addr) (n2 c2 : Nat), n2 = world.Corrupted.length → SlF i64L Z H A2 c2 world.Corrupted → ∀ (A3 : Option Addr) (n3 c3 : Nat), n3 = world.Acts.length → SlF TAct.L Z H A3 c3 world.Acts → ∀ (A4 : Option Addr) (n4 c4 : Nat), n4 = world.Tapes.length → SlO (rdM (slL u64L)) 37 Z (Yt τ 4) H A4 c4 world.Tapes → ∀ (A5 : Option Addr) (n5 c5 : Nat), n5 = world.Sent.length → SlO (rdM TSent.L) 76 Z (Yt τ 5) H A5 c5 world.Sent → BoxF 3 τ H worldP [.int .u64 v2, .int .i64 world.Setup.N, .int .i64 world.Setup.T_, .slice A2 n2 c2, .slice A3 n3 c3, .slice A4 n4 c4, .int .i64 world.Round, .slice A5 n5 c5] 30 → BoxF 1 τ H tP [.int .u64 v, .int .i64 t.Setup.N, .int .i64 t.Setup.T_, .slice A n c, .func (.func 44) #[] #[.pointer (some (Addr.mk worldP 0 none))]] 98 → ∀ (holdersA : Option Addr) (holdersn holdersc : Nat), holdersn = holders.length → SlF i64L Z H holdersA holdersc holders → ∀ (sharesA : Option Addr) (sharesn sharesc : Nat), sharesn = shares.length → SlF (slL u64L) Z H sharesA sharesc shares → ∀ KK : Value → Heap → Prop,
   (∀ (Z' : Nat → Prop) (τ' : Nat → Nat) (H' : Heap), Turn τ H τ' H' → OldT Z τ H Z' → (∀ i, τ' i ≠ 0 → ¬ Z' i) → ∀ (r0 : (List TGot)), ∀ (Ar0_0 : Option Addr) (nr0_0 cr0_0 : Nat), nr0_0 = r0.length → SlF TGot.L Z' H' Ar0_0 cr0_0 r0 → ∀ (o0 : TTable), ∀ (vo0_0 : Int), vo0_0 = (o0.Setup.P : Int) → ∀ (Ao0_3 : Option Addr) (no0_3 co0_3 : Nat), no0_3 = o0.tapes.length → SlO (rdM (slL u64L)) 37 Z' (Yt τ' 2) H' Ao0_3 co0_3 o0.tapes → BoxF 1 τ' H' tP [.int .u64 vo0_0, .int .i64 o0.Setup.N, .int .i64 o0.Setup.T_, .slice Ao0_3 no0_3 co0_3, .func (.func 44) #[] #[.pointer (some (Addr.mk worldP 0 none))]] 98 → ∀ (o1 : TWorld), ∀ (vo1_0 : Int), vo1_0 = (o1.Setup.P : Int) → ∀ (Ao1_3 : Option Addr) (no1_3 co1_3 : Nat), no1_3 = o1.Corrupted.length → SlF i64L Z' H' Ao1_3 co1_3 o1.Corrupted → ∀ (Ao1_4 : Option Addr) (no1_4 co1_4 : Nat), no1_4 = o1.Acts.length → SlF TAct.L Z' H' Ao1_4 co1_4 o1.Acts → ∀ (Ao1_5 : Option Addr) (no1_5 co1_5 : Nat), no1_5 = o1.Tapes.length → SlO (rdM (slL u64L)) 37 Z' (Yt τ' 4) H' Ao1_5 co1_5 o1.Tapes → ∀ (Ao1_7 : Option Addr) (no1_7 co1_7 : Nat), no1_7 = o1.Sent.length → SlO (rdM TSent.L) 76 Z' (Yt τ' 5) H' Ao1_7 co1_7 o1.Sent → BoxF 3 τ' H' worldP [.int .u64 vo1_0, .int .i64 o1.Setup.N, .int .i64 o1.Setup.T_, .slice Ao1_3 no1_3 co1_3, .slice Ao1_4 no1_4 co1_4, .slice Ao1_5 no1_5 co1_5, .int .i64 o1.Round, .slice Ao1_7 no1_7 co1_7] 30 → K r0 o0 o1 → KK (.slice Ar0_0 nr0_0 cr0_0) H') →
   CallH P N.open_Public [.pointer (some (Addr.mk tP 0 none)), .slice holdersA holdersn holdersc, .int .i64 d, .slice sharesA sharesn sharesc] H KK
def open_Public.Q (t : TTable) (world : TWorld) (holders : (List Int)) (d : Int) (shares : (List (List Nat))) (K : (List TGot) → TTable → TWorld → Prop) : Prop :=
 LoopQ (τ := List TSecret × Int) (([] : List TSecret), 0) fun t2 nextQ =>
 cond (decide (t2.2 < ((shares.length : Nat) : Int))) (0 ≤ t2.2 ∧ ∃ x : (List Nat), shares[Int.toNat t2.2]? = some x ∧ AppOk 48 (t2.1 ++ ([(⟨[], x⟩ : TSecret)] : List TSecret)).length ∧ nextQ ((t2.1 ++ ([(⟨[], x⟩ : TSecret)] : List TSecret)), IntKind.i64.wrap (t2.2 + 1)))
  (open_Play.C t world holders d t2.1 (fun (x2 : (List (List TGot))) (o : TTable) (o2 : TWorld) =>
 LoopQ (τ := List TGot × Int) (([] : List TGot), 0) fun t3 nextQ2 =>
 cond (decide (t3.2 < ((x2.length : Nat) : Int))) (0 ≤ t3.2 ∧ ∃ x3 : (List TGot), x2[Int.toNat t3.2]? = some x3 ∧ 0 ≤ (0 : Int) ∧ ∃ x4 : TGot, x3[0]? = some x4 ∧ AppOk 64 (t3.1 ++ ([x4] : List TGot)).length ∧ nextQ2 ((t3.1 ++ ([x4] : List TGot)), IntKind.i64.wrap (t3.2 + 1)))
  (K t3.1 o o2)))
theorem open_Public.q {t : TTable} {world : TWorld} {holders : (List Int)} {d : Int} {shares : (List (List Nat))} {K : (List TGot) → TTable → TWorld → Prop} (q : open_Public.Q t world holders d shares K) : open_Public.C t world holders d shares K := by
 intro Z τ H hτ tP v he A n c hn f worldP v2 he2 A2 n2 c2 hn2 f2 A3 n3 c3 hn3 f3 A4 n4 c4 hn4 f4 A5 n5 c5 hn5 f5 b2 b holdersA holdersn holdersc hn6 f6 sharesA sharesn sharesc hn7 f7 KK hk; cases he; cases hn; cases he2; cases hn2; cases hn3; cases hn4; cases hn5; cases hn6; cases hn7; apply open_Public.ok; unfold open_Public.W; unfold open_Public.Q at q; obtain ⟨σ, hz, hy, hσ⟩ := tags2 Z τ 5 hτ; have hs : Stp ([1, 2, 3, 4, 5, 6, 7, 8, 9] : List Nat) σ H σ H := Stp.refl _ _ _; replace f := SlO.keep f (Fr.wide hz _) (Fr.wide (hy 2 (by decide) (by decide)) _); replace f2 := f2.wide hz; replace f3 := f3.wide hz; replace f4 := SlO.keep f4 (Fr.wide hz _) (Fr.wide (hy 4 (by decide) (by decide)) _); replace f5 := SlO.keep f5 (Fr.wide hz _) (Fr.wide (hy 5 (by decide) (by decide)) _); replace b2 := BoxF.mk b2.blk (hy 3 (by decide) (by decide) _ b2.tag); replace b := BoxF.mk b.blk (hy 1 (by decide) (by decide) _ b.tag); replace f6 := f6.wide hz; replace f7 := f7.wide hz; clear hz; clear hy; have f8 := SlO.nil (rdM TSecret.L) 39 (Zt σ) (Yt σ 6) H; refine LoopI.ofQ q (fun t_ s_ hp_ => ∃ σ_ A0_ n0_ c0_, Stp [6, 7] σ H σ_ hp_ ∧ ((A0_, n0_, c0_), t_.2) = s_ ∧ n0_ = t_.1.length ∧ SlO (rdM TSecret.L) 39 (Zt σ_) (Yt σ_ 6) hp_ A0_ c0_ t_.1) (fun h k => h _ _ k) ⟨_, _, _, _, Stp.refl _ _ _, rfl, rfl, f8⟩ ?_; rintro t2 _ _ H_ next nextQ ⟨xσ, A6, n6, c6, st, rfl, rfl, f9⟩ q hnext; (try dsimp only at q ⊢); have sl0 := st; refine condI (fun q => ?_) (fun q => ?_) q
 · obtain ⟨h0, x, hx, q⟩ := q; replace f7 := f7.step st; obtain ⟨a, ha, hi⟩ := f7.addr h0 hx rfl; refine ⟨a, ha, hi.1, hi.2, ?_⟩; obtain ⟨A7, c7, hc, f10⟩ := f7.lds ha h0 hx; refine ⟨_, _, _, hc.val, ?_⟩; refine NewH.mk fun H_2 e => ?_; obtain ⟨xσ2, st2, f11⟩ := SlO.lit (E := TSecret.L) xσ 7 (xs := [(⟨[], x⟩ : TSecret)]) (l := [[_, _]]) e rfl (.cons (show (TSecret.L).rep _ _ (⟨[], x⟩ : TSecret) _ from ⟨_, _, _, _, rfl, (SlF.nil _ _ _ _ _), f10⟩) .nil) (show (1 : Nat) ≤ 17592186044416 by decide); obtain ⟨xσ4, st4, f11⟩ := SlO.freeze f11; obtain ⟨q2, q⟩ := q; replace f9 := f9.step (st2.then st4); refine SlO.appF f9 f11 rfl rfl q2.l q2.r rfl rfl (fun A8 c8 H_3 xσ3 st3 f9_ => ?_); replace f9 := f9_; have f12 := f9; clear f9; replace sl0 := sl0.trans (st2.then (st4.then st3)); exact hnext ((t2.1 ++ ([(⟨[], x⟩ : TSecret)] : List TSecret)), IntKind.i64.wrap (t2.2 + 1)) _ _ ⟨_, _, _, _, sl0, rfl, rfl, f12⟩ q
 obtain ⟨xσ5, st5, f9⟩ := SlO.freeze f9; have c_0 := st.then st5; replace f := f.step c_0; replace f2 := f2.step c_0; replace f3 := f3.step c_0; replace f4 := f4.step c_0; replace f5 := f5.step c_0; replace b2 := b2.step c_0; replace b := b.step c_0; replace f6 := f6.step c_0; refine q (Zt xσ5) (ren [1, 2, 3, 4, 5] xσ5) H_ (ren_z _ _) _ _ rfl _ _ _ rfl (SlO.keep f (Fr.refl _ _) (Fr.wide (ren_y (js := [1, 2, 3, 4, 5]) (j := 2) (m := 2) (by decide) (by decide)) _)) _ _ rfl _ _ _ rfl f2 _ _ _ rfl f3 _ _ _ rfl (SlO.keep f4 (Fr.refl _ _) (Fr.wide (ren_y (js := [1, 2, 3, 4, 5]) (j := 4) (m := 4) (by decide) (by decide)) _)) _ _ _ rfl (SlO.keep f5 (Fr.refl _ _) (Fr.wide (ren_y (js := [1, 2, 3, 4, 5]) (j := 5) (m := 5) (by decide) (by decide)) _)) ⟨b2.blk, (ren_y (js := [1, 2, 3, 4, 5]) (j := 3) (m := 3) (by decide) (by decide)) _ b2.tag⟩ ⟨b.blk, (ren_y (js := [1, 2, 3, 4, 5]) (j := 1) (m := 1) (by decide) (by decide)) _ b.tag⟩ _ _ _ rfl f6 _ _ _ rfl f9 _ (fun Z2 xτ H_4 hT hO hd x2 A9 n7 c9 hn8 f13 o v3 he3 A10 n8 c10 hn9 f14 b o2 v4 he4 A11 n9 c11 hn10 f15 A12 n10 c12 hn11 f16 A13 n11 c13 hn12 f17 A14 n12 c14 hn13 f18 b2 q => ?_); obtain ⟨xσ6, st6, fz, fy⟩ := callT hT hO hd [1, 2, 3, 4, 5]; replace f13 := f13.keep fz; replace f14 := SlO.keep f14 fz (Fr.wide (fy 1 2 rfl) _); replace b := BoxF.mk b.blk (fy 0 1 rfl _ b.tag); replace f15 := f15.keep fz; replace f16 := f16.keep fz; replace f17 := SlO.keep f17 fz (Fr.wide (fy 3 4 rfl) _); replace f18 := SlO.keep f18 fz (Fr.wide (fy 4 5 rfl) _); replace b2 := BoxF.mk b2.blk (fy 2 3 rfl _ b2.tag); cases hn8; cases he3; cases hn9; cases he4; cases hn10; cases hn11; cases hn12; cases hn13; refine ⟨_, _, _, rfl, ?_⟩; have f19 := SlO.nil (rdM TGot.L) 108 (Zt xσ6) (Yt xσ6 8) H_4; refine LoopI.ofQ q (fun t_ s_ hp_ => ∃ σ_ A0_ n0_ c0_, Stp [8, 9] xσ6 H_4 σ_ hp_ ∧ ((A0_, n0_, c0_), t_.2) = s_ ∧ n0_ = t_.1.length ∧ SlO (rdM TGot.L) 108 (Zt σ_) (Yt σ_ 8) hp_ A0_ c0_ t_.1) (fun h k => h _ _ k) ⟨_, _, _, _, Stp.refl _ _ _, rfl, rfl, f19⟩ ?_; rintro t3 _ _ H_5 next2 nextQ2 ⟨xσ7, A15, n13, c15, st7, rfl, rfl, f20⟩ q hnext2; (try dsimp only at q ⊢); have sl1 := st7; refine condJ (fun q => ?_) (fun q => ?_) q
 · obtain ⟨xσ11, st11, f20⟩ := SlO.freeze f20; replace hs := hs.trans (st.then (st5.then (st6.then (st7.then st11)))); have c_1 := st7.then st11; replace f14 := f14.step c_1; replace b := b.step c_1; replace f15 := f15.step c_1; replace f16 := f16.step c_1; replace f17 := f17.step c_1; replace f18 := f18.step c_1; replace b2 := b2.step c_1; exact hk (Zt xσ11) (ren [1, 2, 3, 4, 5] xσ11) _ (hs.turn hσ) (hs.oldT hσ) (ren_z _ _) t3.1 _ _ _ rfl f20 o _ rfl _ _ _ rfl (SlO.keep f14 (Fr.refl _ _) (Fr.wide (ren_y (js := [1, 2, 3, 4, 5]) (j := 2) (m := 2) (by decide) (by decide)) _)) ⟨b.blk, ren_y (js := [1, 2, 3, 4, 5]) (j := 1) (m := 1) (by decide) (by decide) _ b.tag⟩ o2 _ rfl _ _ _ rfl f15 _ _ _ rfl f16 _ _ _ rfl (SlO.keep f17 (Fr.refl _ _) (Fr.wide (ren_y (js := [1, 2, 3, 4, 5]) (j := 4) (m := 4) (by decide) (by decide)) _)) _ _ _ rfl (SlO.keep f18 (Fr.refl _ _) (Fr.wide (ren_y (js := [1, 2, 3, 4, 5]) (j := 5) (m := 5) (by decide) (by decide)) _)) ⟨b2.blk, ren_y (js := [1, 2, 3, 4, 5]) (j := 3) (m := 3) (by decide) (by decide) _ b2.tag⟩ q
 obtain ⟨h02, x3, hx2, q⟩ := q; replace f13 := f13.step st7; obtain ⟨a2, ha2, hi2⟩ := f13.addr h02 hx2 rfl; refine ⟨a2, ha2, hi2.1, hi2.2, ?_⟩; obtain ⟨A16, c16, hc2, f21⟩ := f13.lds ha2 h02 hx2; refine ⟨_, _, _, hc2.val, ?_⟩; obtain ⟨h03, x4, hx3, q⟩ := q; obtain ⟨a3, ha3, hi3⟩ := f21.addr h03 hx3 rfl; refine ⟨a3, ha3, hi3.1, hi3.2, ?_⟩; obtain ⟨cs, hr, hc3⟩ := f21.ldN (k := 4) rfl ha3 h03 hx3; obtain ⟨A17, c17, A18, c18, rfl, f22, f23⟩ := hr; have hc4 := hc3 0 _ rfl; have hc5 := hc3 1 _ rfl; have hc6 := hc3 2 _ rfl; have hc7 := hc3 3 _ rfl; refine ⟨_, _, _, _, _, _, _, _, hc4.val, hc5.val, hc6.val, hc7.val, ?_⟩; refine NewH.mk fun H_6 e2 => ?_; obtain ⟨xσ8, st8, f24⟩ := SlO.lit (E := TGot.L) xσ7 9 (xs := [x4]) (l := [[_, _, _, _]]) e2 rfl (.cons (show (TGot.L).rep _ _ x4 _ from ⟨_, _, _, _, rfl, f22, f23⟩) .nil) (show (1 : Nat) ≤ 17592186044416 by decide); obtain ⟨xσ10, st10, f24⟩ := SlO.freeze f24; obtain ⟨q3, q⟩ := q; replace f20 := f20.step (st8.then st10); refine SlO.appF f20 f24 rfl rfl q3.l q3.r rfl rfl (fun A19 c19 H_7 xσ9 st9 f20_ => ?_); replace f20 := f20_; have f25 := f20; clear f20; replace sl1 := sl1.trans (st8.then (st10.then st9)); exact hnext2 ((t3.1 ++ ([x4] : List TGot)), IntKind.i64.wrap (t3.2 + 1)) _ _ ⟨_, _, _, _, sl1, rfl, rfl, f25⟩ q
end Go.Proofs.Ytajdpkinlnaidaa.Sh
end
section
set_option linter.unusedVariables false
namespace Go.Proofs.Ytajdpkinlnaidaa.Pl
open Go.Sx Go.Lf Go.Proofs.Ytajdpkinlnaidaa.Sh Go.Proofs.Ytajdpkinlnaidaa.Sp
theorem tab_fill {α : Type} {n j : Nat} {g : Nat → α} {z : α} : (tab n fun i => if i < j then g i else z).set j (g j) = tab n fun i => if i < j + 1 then g i else z := by
 rw [tab_set]
 refine tab_ext fun i hi => ?_
 by_cases h1 : i = j
 · subst h1; rw [if_pos rfl, if_pos (by omega)]
 · rw [if_neg h1]
   by_cases h2 : i < j
   · rw [if_pos h2, if_pos (by omega)]
   · rw [if_neg h2, if_neg (by omega)]
theorem tab_fill0 {α : Type} (n : Nat) (g : Nat → α) (z : α) : List.replicate n z = tab n fun i => if i < 0 then g i else z := by
 rw [tab_rep]; exact tab_ext fun i _ => by simp
theorem tab_filln {α : Type} (n : Nat) (g : Nat → α) (z : α) : (tab n fun i => if i < n then g i else z) = tab n g := tab_ext fun i hi => if_pos hi
theorem rng_step (c : Nat → Bool) (i : Nat) : (List.range (i + 1)).filter c = (List.range i).filter c ++ (if c i then [i] else []) := by
 rw [List.range_succ, List.filter_append]; congr 1
 cases h : c i <;> simp [h]
def ih (l : List Int) (i : Nat) : Int := (l[i]?).getD 0
theorem ih_get {l : List Int} {i : Nat} {x : Int} (h : l[i]? = some x) : ih l i = x := by unfold ih; rw [h]; rfl
theorem ih_mem {l : List Int} {i : Nat} (h : i < l.length) : ih l i ∈ l := by
 obtain ⟨x, hx⟩ := get_some h; rw [ih_get hx]; exact mem_get hx
def secAt (l : List TSecret) (i : Nat) : TSecret := (l[i]?).getD ⟨[], []⟩
theorem secAt_get {l : List TSecret} {i : Nat} {x : TSecret} (h : l[i]? = some x) : secAt l i = x := by unfold secAt; rw [h]; rfl
def asked (party : Nat) (x : TSecret) : Bool := if party = 0 then decide (x.To.length = 0) else decide ((party : Int) ∈ x.To)
def ofL (l : List TSecret) (party : Nat) : List Nat := (List.range l.length).filter fun i => asked party (secAt l i)
theorem ofL_len (l : List TSecret) (party : Nat) : (ofL l party).length ≤ l.length := by
 unfold ofL; exact Nat.le_trans (List.length_filter_le _ _) (by simp)
theorem ofL_mem {l : List TSecret} {party i : Nat} : i ∈ ofL l party ↔ i < l.length ∧ asked party (secAt l i) = true := by unfold ofL; rw [List.mem_filter, List.mem_range]
theorem open_telling_of_c {l : List TSecret} {party : Nat} (hl : l.length ≤ 100000) (ht : ∀ x ∈ l, x.To.length < 4611686018427387904) {K : List Int → Prop} (k : K (ints (ofL l party))) : open_telling_of.C l party K := by
 refine open_telling_of.q ?_
 refine LoopQ.rangeL l.length (fun j s => s = ints ((List.range j).filter fun i => asked party (secAt l i))) rfl (by omega) ?_ ?_
 · rintro j _ next hj rfl hn
   obtain ⟨x, hx⟩ := get_some hj
   refine ctd (by dsimp only; omega) ⟨by dsimp only; omega, x, hx, ?_⟩
   have hlen : ((List.range j).filter fun i => asked party (secAt l i)).length ≤ j := by exact Nat.le_trans (List.length_filter_le _ _) (by simp)
   have yes : asked party x = true → AppOk 8 (ints ((List.range j).filter fun i => asked party (secAt l i)) ++ ([(j : Int)] : List Int)).length ∧ next (ints ((List.range j).filter fun i => asked party (secAt l i)) ++ ([(j : Int)] : List Int), IntKind.i64.wrap ((j : Int) + 1)) := fun h => by
     refine ⟨AppOk.big (by rw [List.length_append, ints_len, List.length_singleton]; omega), hn _ ?_⟩
     rw [rng_step, secAt_get hx, if_pos h, ints_snoc]
   have no : asked party x = false → next (ints ((List.range j).filter fun i => asked party (secAt l i)), IntKind.i64.wrap ((j : Int) + 1)) := fun h => by
     refine hn _ ?_
     rw [rng_step, secAt_get hx, h]; simp
   refine cnE (fun h0 => ?_) (fun h0 => ?_)
   · have h0' : party = 0 := by omega
     refine cnE (fun h1 => yes ?_) (fun h1 => cfd (by omega) (no ?_))
     · unfold asked; rw [if_pos h0']; simp; exact List.eq_nil_of_length_eq_zero (by omega)
     · unfold asked; rw [if_pos h0']; simp; intro e; rw [e] at h1; simp at h1
   · have h0' : party ≠ 0 := by omega
     refine ctd (by omega) (slices_Contains_intint_c (ht x (mem_get hx)) (cnB (fun h1 => yes ?_) (fun h1 => no ?_)))
     · unfold asked; rw [if_neg h0']; exact h1
     · unfold asked; rw [if_neg h0']; exact h1
 · rintro _ next rfl
   exact cfd (by dsimp only; omega) k
def ptsOf (hs : List Int) (sh : List Nat) : List TPoint := tab hs.length fun i => ⟨(ih hs i).toNat, zat sh i⟩
theorem ris_mem {n : Int} : ∀ {l : List Int} {a : Int}, risA n a l = true → ∀ x ∈ l, a < x ∧ x ≤ n
 | y :: l, a, h, x, hx => by
   simp only [risA, Bool.and_eq_true, decide_eq_true_eq] at h
   rcases List.mem_cons.1 hx with rfl | hx
   · exact h.1
   · have := ris_mem h.2 x hx; omega
theorem ris_nodup {n : Int} : ∀ {l : List Int} {a : Int}, risA n a l = true → l.Nodup
 | [], _, _ => by simp
 | y :: l, a, h => by
   simp only [risA, Bool.and_eq_true, decide_eq_true_eq] at h
   refine List.nodup_cons.2 ⟨fun hm => ?_, ris_nodup h.2⟩
   have := ris_mem h.2 y hm; omega
theorem ris_len {n : Int} : ∀ {l : List Int} {a : Int}, risA n a l = true → (l.length : Int) ≤ n - a ∨ l = []
 | [], _, _ => .inr rfl
 | y :: l, a, h => by
   simp only [risA, Bool.and_eq_true, decide_eq_true_eq] at h
   left
   rw [List.length_cons]
   rcases ris_len h.2 with h1 | h1
   · omega
   · subst h1; simp; omega
theorem open_points_c {hs : List Int} {sh : List Nat} (hl : hs.length ≤ 1000) (hsl : hs.length ≤ sh.length) (hb : ∀ x ∈ hs, 0 ≤ x ∧ x < 1000000) {K : List TPoint → Prop} (k : K (ptsOf hs sh)) : open_points.C hs sh K := by
 refine open_points.q ⟨MakeOk.of (by omega) (by omega), ?_⟩
 refine LoopQ.rangeS hs.length (fun j s => s = tab hs.length fun i => if i < j then (⟨(ih hs i).toNat, zat sh i⟩ : TPoint) else ⟨0, 0⟩) (tab_fill0 _ _ _) (by omega) ?_ ?_
 · rintro j _ next hj rfl hn
   obtain ⟨x, hx⟩ := get_some hj
   obtain ⟨y, hy⟩ := get_some (show j < sh.length by omega)
   have := hb x (mem_get hx)
   refine ctd (by dsimp only; omega) ⟨by dsimp only; omega, x, hx, by omega, y, hy, by omega, by dsimp only; omega, hn _ ?_⟩
   dsimp only
   rw [wu64 (by omega) (by omega), ← tab_fill, ih_get hx, zat_get hy]; rfl
 · rintro _ next rfl
   refine cfd (by dsimp only; omega) ?_
   dsimp only
   rw [tab_filln]; exact k
def ptsL (hs : List Int) (sh : List Nat) (L : List Nat) : List TPoint := L.map fun i => ⟨(ih hs i).toNat, zat sh i⟩
theorem ptsOf_L (hs : List Int) (sh : List Nat) : ptsOf hs sh = ptsL hs sh (List.range hs.length) := rfl
theorem ptsL_ok {p : Nat} {n : Int} {hs : List Int} {sh : List Nat} {L : List Nat} (hr : risA n 0 hs = true) (hn : n < (p : Int)) (hsh : ∀ y ∈ sh, y < p) (hp : 0 < p) (hL : ∀ i ∈ L, i < hs.length) (hLn : L.Nodup) : Pts p (ptsL hs sh L) := by
 constructor
 · intro q hq
   obtain ⟨i, hi, rfl⟩ := List.mem_map.1 hq
   have := ris_mem hr _ (ih_mem (hL i hi))
   exact ⟨by dsimp only; omega, zat_lt hp hsh i⟩
 · rw [ptsL, List.map_map]
   refine nodup_map hLn ?_
   intro a ha b hb e
   dsimp only [Function.comp] at e
   have h1 := ris_mem hr _ (ih_mem (hL a ha))
   have h2 := ris_mem hr _ (ih_mem (hL b hb))
   have e2 : ih hs a = ih hs b := by omega
   obtain ⟨x, hx⟩ := get_some (hL a ha)
   obtain ⟨y, hy⟩ := get_some (hL b hb)
   rw [ih_get hx, ih_get hy] at e2
   subst e2
   have hnd := ris_nodup hr
   rcases Nat.lt_trichotomy a b with h | h | h
   · exact absurd hx (fun _ => (nodup_iff' hnd h hy hx))
   · exact h
   · exact absurd hy (fun _ => (nodup_iff' hnd h hx hy))
where
 nodup_iff' {l : List Int} (h : l.Nodup) {i j : Nat} (hij : i < j) {x : Int} (hj : l[j]? = some x) (hi : l[i]? = some x) : False := by
   have hil := lt_get hi
   have hjl := lt_get hj
   have h1 := List.pairwise_iff_getElem.1 h i j hil hjl hij
   rw [List.getElem?_eq_getElem hil] at hi
   rw [List.getElem?_eq_getElem hjl] at hj
   cases hi
   exact h1 (Option.some.inj hj).symm
theorem dec0 {p d : Nat} {l : List TPoint} {f : List Nat} : Dec p d 0 l f ↔ (∀ a ∈ f, a < p) ∧ f.length ≤ d + 1 ∧ short f = f ∧ ∀ q ∈ l, evalH p f q.X = q.Y := by
 constructor
 · intro h
   refine ⟨h.lt, h.len, h.tidy, fun q hq => ?_⟩
   obtain ⟨i, hi⟩ := List.mem_iff_getElem?.1 hq
   have h0 : offL p f l = [] := List.eq_nil_of_length_eq_zero (by have := h.off; omega)
   have := List.filter_eq_nil_iff.1 h0 i (List.mem_range.2 (lt_get hi))
   simp only [offB, px_get hi, py_get hi, decide_eq_true_eq, Classical.not_not] at this
   exact this
 · rintro ⟨h1, h2, h3, h4⟩
   refine ⟨h1, h2, h3, ?_⟩
   have : offL p f l = [] := List.filter_eq_nil_iff.2 fun i hi => by
     obtain ⟨q, hq⟩ := get_some (List.mem_range.1 hi)
     simp only [offB, px_get hq, py_get hq, decide_eq_true_eq, Classical.not_not]
     exact h4 q (mem_get hq)
   rw [this]; exact Nat.le_refl _
theorem Pts.take {p : Nat} {l : List TPoint} (h : Pts p l) (n : Nat) : Pts p (l.take n) :=
 ⟨fun q hq => h.1 q (List.mem_of_mem_take hq), by rw [List.map_take]; exact h.2.sublist (List.take_sublist _ _)⟩
theorem eval_pv {p : Nat} [NeZero p] {f : List Nat} {q : TPoint} (h : evalH p f q.X = q.Y) : pv p f (cz p q.X) = cz p q.Y := by rw [← pv_evalH, h]
theorem pv_eval {p : Nat} [NeZero p] (hp : 0 < p) {f : List Nat} {q : TPoint} (hq : q.Y < p) (h : pv p f (cz p q.X) = cz p q.Y) : evalH p f q.X = q.Y := cz_inj (evalH_lt hp _ _) hq (by rw [pv_evalH, h])
theorem open_straight_c {p d : Nat} {l : List TPoint} (hp : isP p) (hl : Pts p l) (hll : l.length ≤ 64) (hd : d + 1 ≤ l.length) {K : List Nat → Bool → Prop} (k1 : ∀ f, Dec p d 0 l f → K f true) (k0 : (∀ f, ¬ Dec p d 0 l f) → K [] false) : open_straight.C p d l K := by
 have hp3 := hp.1
 have hpp := hp.2.1
 haveI : NeZero p := ⟨by omega⟩
 refine open_straight.q ?_
 unfold open_straight.Q
 rw [addw1 (by omega), minI, toNat_c]
 refine ⟨by omega, by omega, ?_⟩
 have hm : min (d + 1) l.length = d + 1 := by omega
 rw [hm]
 have htl : (l.take (d + 1)).length = d + 1 := by rw [List.length_take]; omega
 refine poly_Fit_c hp (hl.take _) (by omega) (by omega) fun f hf => ?_
 obtain ⟨f1, f2, f3, f4⟩ := id hf
 refine LoopQ.range l.length (fun j => ∀ i q, i < j → l[i]? = some q → evalH p f q.X = q.Y) (fun i q hi => by omega) (by omega) ?_ ?_
 · intro j next hj hI hn
   obtain ⟨q, hq⟩ := get_some hj
   refine ctd (by omega) ⟨by omega, q, hq, poly_At_c (by omega) hpp (hl.1 q (mem_get hq)).1 (below_of f1) (cnN (fun h => k0 fun g hg => ?_) (fun h => hn fun i r hi hr => ?_))⟩
   · obtain ⟨g1, g2, g3, g4⟩ := dec0.1 hg
     have : Interp p (l.take (d + 1)) g := ⟨g1, by omega, g3, fun r hr => eval_pv (g4 r (List.mem_of_mem_take hr))⟩
     have e := hf.uniq hp (hl.take _) this
     subst e
     exact h (by have := g4 q (mem_get hq); omega)
   · rcases Nat.lt_or_ge i j with h' | h'
     · exact hI i r h' hr
     · obtain rfl : i = j := by omega
       rw [hq] at hr; cases hr; omega
 · intro next hI
   refine cfd (by omega) (k1 f (dec0.2 ⟨f1, by omega, f3, fun q hq => ?_⟩))
   obtain ⟨i, hi⟩ := List.mem_iff_getElem?.1 hq
   exact hI i q (lt_get hi) hi
def gotOf (p : Nat) (hs : List Int) (f : List Nat) (P : List TPoint) : TGot := ⟨⟨evalH p f 0, f, (offL p f P).map (ih hs)⟩, true⟩
theorem open_Decode_c {s : TSetup} {hs : List Int} {d t : Nat} {sh : List Nat} (hS : OkS s) (ht : s.T_ = t) (hr : risA s.N 0 hs = true) (hsl : hs.length ≤ sh.length) (hsh : ∀ y ∈ sh, y < s.P) (hn : d + 1 + 2 * t ≤ hs.length)
   {f : List Nat} (hf : Dec s.P d t (ptsOf hs sh) f) {K : TGot → Prop} (k : K (gotOf s.P hs f (ptsOf hs sh))) : open_Decode.C s hs d sh K := by
 obtain ⟨hp, hN1, hN2, hT0, hT1, hNP⟩ := hS
 have hp3 := hp.1
 have hpp := hp.2.1
 have hlen : hs.length ≤ 13 := by
   rcases ris_len hr with h | h
   · omega
   · subst h; simp
 have hP : Pts s.P (ptsOf hs sh) := by rw [ptsOf_L]; exact ptsL_ok hr hNP hsh (by omega) (fun i hi => List.mem_range.1 hi) List.nodup_range
 have hPl : (ptsOf hs sh).length = hs.length := by rw [ptsOf_L, ptsL, List.length_map, List.length_range]
 refine open_Decode.q (open_points_c (by omega) hsl (fun x hx => by have := ris_mem hr x hx; omega) ?_)
 refine open_straight_c hp hP (by omega) (by omega) (fun g hg => ?_) (fun hno => ?_)
 · have e : g = f := Dec.uniq hp hP (by omega) (hg.mono (Nat.zero_le t)) hf
   subst e
   have h0 : offL s.P g (ptsOf hs sh) = [] := List.eq_nil_of_length_eq_zero (by have := hg.off; omega)
   refine ct rfl (poly_At_c (by omega) hpp (by omega) (below_of hf.lt) ?_)
   rw [gotOf, h0] at k; exact k
 · rw [ht]
   refine cf rfl (decode_Find_c hp hP (by omega) (by omega) (fun g hg => ?_) (fun hno => absurd hf (hno f)))
   have e : g = f := Dec.uniq hp hP (by omega) hg hf
   subst e
   have hgl := hf.len
   refine cf rfl (poly_At_c (by omega) hpp (by omega) (below_of hf.lt) (poly_Short_c (by omega) ?_))
   rw [hf.tidy]
   have hol : (offL s.P g (ptsOf hs sh)).length ≤ hs.length := by unfold offL; exact Nat.le_trans (List.length_filter_le _ _) (by rw [List.length_range]; omega)
   rw [ints_len]
   refine LoopQ.rangeS (offL s.P g (ptsOf hs sh)).length (fun j t => t = (⟨⟨evalH s.P g 0, g, ((offL s.P g (ptsOf hs sh)).take j).map (ih hs)⟩, true⟩ : TGot)) rfl (by omega) ?_ ?_
   · rintro j _ next hj rfl hnx
     obtain ⟨i, hi⟩ := get_some hj
     have hil : i < hs.length := by
       have := mem_get hi
       unfold offL at this
       have := List.mem_range.1 (List.mem_filter.1 this).1
       omega
     obtain ⟨x, hx⟩ := get_some hil
     refine ctd (by dsimp only; omega) ⟨by dsimp only; omega, by dsimp only; omega, (i : Int), by unfold ints; rw [List.getElem?_map, toNat_c, hi]; rfl, by omega, x, hx, AppOk.big (by simp; omega), hnx _ ?_⟩
     dsimp only
     rw [take_snoc hi, List.map_append, List.map_singleton, ih_get hx]
   · rintro _ next rfl
     refine cfd (by dsimp only; omega) ?_
     dsimp only
     rw [List.take_of_length_le (Nat.le_refl _)]; exact k
def hon (c hs : List Int) : List Nat := (List.range hs.length).filter fun i => decide (ih hs i ∉ c)
theorem hon_lt {c hs : List Int} {i : Nat} (h : i ∈ hon c hs) : i < hs.length ∧ ih hs i ∉ c := by
 unfold hon at h; rw [List.mem_filter, List.mem_range] at h; exact ⟨h.1, by simpa using h.2⟩
theorem sub_len' : ∀ {L C : List Int}, L.Nodup → (∀ x ∈ L, x ∈ C) → L.length ≤ C.length
 | [], _, _, _ => Nat.zero_le _
 | x :: L, C, hn, h => by
   have hx := h x (by simp)
   have hn' := List.nodup_cons.1 hn
   have := sub_len' (C := C.erase x) hn'.2 fun y hy => (List.mem_erase_of_ne (fun e => hn'.1 (by rw [← e]; exact hy))).2 (h y (by simp [hy]))
   rw [List.length_erase_of_mem hx] at this
   have hc : 0 < C.length := List.length_pos_of_mem hx
   simp; omega
theorem ih_inj {n : Int} {hs : List Int} (hr : risA n 0 hs = true) {a b : Nat} (ha : a < hs.length) (hb : b < hs.length) (e : ih hs a = ih hs b) : a = b := by
 obtain ⟨x, hx⟩ := get_some ha
 obtain ⟨y, hy⟩ := get_some hb
 rw [ih_get hx, ih_get hy] at e
 subst e
 rcases Nat.lt_trichotomy a b with h | h | h
 · exact (ptsL_ok.nodup_iff' (ris_nodup hr) h hy hx).elim
 · exact h
 · exact (ptsL_ok.nodup_iff' (ris_nodup hr) h hx hy).elim
theorem filter_split (f : Nat → Bool) : ∀ L : List Nat, L.length = (L.filter f).length + (L.filter fun i => !f i).length
 | [] => rfl
 | a :: L => by
   have := filter_split f L
   cases h : f a <;> simp [h] <;> omega
theorem hon_len {n : Int} {c hs : List Int} (hr : risA n 0 hs = true) : hs.length ≤ (hon c hs).length + c.length := by
 have h1 := filter_split (fun i => decide (ih hs i ∉ c)) (List.range hs.length)
 rw [List.length_range] at h1
 have h2 : ((List.range hs.length).filter fun i => !decide (ih hs i ∉ c)).length ≤ c.length := by
   have hn : (((List.range hs.length).filter fun i => !decide (ih hs i ∉ c)).map (ih hs)).Nodup := by
     refine nodup_map (List.nodup_range.filter _) ?_
     intro a ha b hb e
     exact ih_inj hr (List.mem_range.1 (List.mem_filter.1 ha).1) (List.mem_range.1 (List.mem_filter.1 hb).1) e
   have := sub_len' (C := c) hn fun x hx => by
     obtain ⟨i, hi, rfl⟩ := List.mem_map.1 hx
     have := (List.mem_filter.1 hi).2
     simpa using this
   rwa [List.length_map] at this
 unfold hon; omega
def LineP (w : TWorld) (hs : List Int) (d : Nat) (sh f : List Nat) : Prop := Dec w.Setup.P d 0 (ptsL hs sh (hon w.Corrupted hs)) f
theorem hon_pts {w : TWorld} {hs : List Int} {sh : List Nat} (hS : OkS w.Setup) (hr : risA w.Setup.N 0 hs = true) (hsh : ∀ y ∈ sh, y < w.Setup.P) : Pts w.Setup.P (ptsL hs sh (hon w.Corrupted hs)) :=
 ptsL_ok hr hS.2.2.2.2.2 hsh (by have := hS.1.1; omega) (fun i hi => (hon_lt hi).1) (List.nodup_range.filter _)
theorem ptsL_len (hs : List Int) (sh : List Nat) (L : List Nat) : (ptsL hs sh L).length = L.length := by unfold ptsL; rw [List.length_map]
theorem hs13 {n : Int} {hs : List Int} (hN : n ≤ 13) (hr : risA n 0 hs = true) : hs.length ≤ 13 := by
 rcases ris_len hr with h | h
 · omega
 · subst h; simp
theorem hon_le (c hs : List Int) : (hon c hs).length ≤ hs.length := by unfold hon; exact Nat.le_trans (List.length_filter_le _ _) (by simp)
theorem hon_loop {w : TWorld} {hs : List Int} {sh : List Nat} (hN : w.Setup.N ≤ 13) (hr : risA w.Setup.N 0 hs = true) (hsl : hs.length ≤ sh.length) {is : Int → (Bool → Prop) → Prop} (his : ∀ x K, K (decide (x ∈ w.Corrupted)) → is x K) {A : List TPoint → Prop} (k : A (ptsL hs sh (hon w.Corrupted hs))) :
   LoopQ (τ := List TPoint × Int) (([] : List TPoint), 0) fun t nextQ =>
     cond (decide (t.2 < ((hs.length : Nat) : Int))) (0 ≤ t.2 ∧ ∃ x : Int, hs[Int.toNat t.2]? = some x ∧ is x (fun (x2 : Bool) =>
     cond (!x2) (0 ≤ t.2 ∧ ∃ x3 : Nat, sh[Int.toNat t.2]? = some x3 ∧ AppOk 16 (t.1 ++ ([(⟨(IntKind.u64.wrap x).toNat, x3⟩ : TPoint)] : List TPoint)).length ∧ nextQ ((t.1 ++ ([(⟨(IntKind.u64.wrap x).toNat, x3⟩ : TPoint)] : List TPoint)), IntKind.i64.wrap (t.2 + 1)))
      (nextQ (t.1, IntKind.i64.wrap (t.2 + 1))))) (A t.1) := by
 have h13 := hs13 hN hr
 refine LoopQ.rangeL hs.length (fun j s => s = ptsL hs sh ((List.range j).filter fun i => decide (ih hs i ∉ w.Corrupted))) rfl (by omega) ?_ ?_
 · rintro j _ next hj rfl hn
   obtain ⟨x, hx⟩ := get_some hj
   obtain ⟨y, hy⟩ := get_some (show j < sh.length by omega)
   have hxr := ris_mem hr x (mem_get hx)
   have hlen : ((List.range j).filter fun i => decide (ih hs i ∉ w.Corrupted)).length ≤ j := Nat.le_trans (List.length_filter_le _ _) (by simp)
   refine ctd (by dsimp only; omega) ⟨by dsimp only; omega, x, hx, his x _ ?_⟩
   by_cases hc : x ∈ w.Corrupted
   · rw [decide_eq_true hc]
     refine cf rfl (hn _ ?_)
     rw [rng_step, ih_get hx, if_neg (by simp [hc]), List.append_nil]
   · rw [decide_eq_false hc]
     refine ct rfl ⟨by dsimp only; omega, y, hy, AppOk.big (by rw [List.length_append, ptsL_len, List.length_singleton]; omega), hn _ ?_⟩
     rw [rng_step, ih_get hx, if_pos (by simp [hc]), wu64 (by omega) (by omega)]
     simp [ptsL, ih_get hx, zat_get hy]
 · rintro _ next rfl
   exact cfd (by dsimp only; omega) k
theorem open_Fits_c {w : TWorld} {hs : List Int} {d : Nat} {sh : List Nat} (hS : OkS w.Setup) (hc : (w.Corrupted.length : Int) ≤ w.Setup.T_) (hr : risA w.Setup.N 0 hs = true) (hn : 4 * w.Setup.T_ + 1 ≤ hs.length) (hd : (d : Int) ≤ 2 * w.Setup.T_) (hsl : hs.length ≤ sh.length) (hsh : ∀ y ∈ sh, y < w.Setup.P)
   {K : Bool → Prop} (k1 : ∀ f, LineP w hs d sh f → K true) (k0 : (∀ f, ¬ LineP w hs d sh f) → K false) : open_Fits.C w hs d sh K := by
 have h13 := hs13 hS.2.2.1 hr
 have hl := hon_len (c := w.Corrupted) hr
 have hle := hon_le w.Corrupted hs
 refine open_Fits.q (hon_loop (A := fun P => open_straight.C w.Setup.P d P fun r r2 => K r2) (is := fun x K => slices_Contains_intint.C w.Corrupted x K) hS.2.2.1 hr hsl (fun x K hk => slices_Contains_intint_c (by have := hS.2.2.2.2.1; have := hS.2.2.1; omega) hk) ?_)
 exact open_straight_c hS.1 (hon_pts hS hr hsh) (by rw [ptsL_len]; omega) (by rw [ptsL_len]; omega) k1 k0
open Classical in
noncomputable def areC (p : Nat) (n : Nat) (l : List (List Nat)) : Int := if ∀ x ∈ l, x.length = n ∧ below p x = true then 0 else 2
theorem codeB_ne (p : Nat) (x : List Nat) : (codeB (below p x) = 0 ∧ below p x = true) ∨ (codeB (below p x) = 2 ∧ below p x = false) := by
 cases h : below p x
 · exact .inr ⟨rfl, rfl⟩
 · exact .inl ⟨rfl, rfl⟩
theorem open_Are_c {p : Nat} {hs : List Int} {l : List (List Nat)} (hl : l.length < 4611686018427387904) (hx : hs.length < 4611686018427387904) {K : Int → Prop} (k : K (areC p hs.length l)) : open_Are.C p hs l K := by
 have bad : ¬ (∀ x ∈ l, x.length = hs.length ∧ below p x = true) → K 2 := fun h => by rw [areC, if_neg h] at k; exact k
 refine open_Are.q ?_
 refine LoopQ.range l.length (fun j => ∀ i x, i < j → l[i]? = some x → x.length = hs.length ∧ below p x = true) (fun i x hi => by omega) hl ?_ ?_
 · intro j next hj hI hn
   obtain ⟨x, hx0⟩ := get_some hj
   refine ctd (by omega) ⟨by omega, x, hx0, cnN (fun h => bad fun hh => h (by have := (hh x (mem_get hx0)).1; omega)) (fun h => ?_)⟩
   have hxl : x.length = hs.length := by omega
   refine field_Below_c (by omega) ?_
   rcases codeB_ne p x with ⟨e, hb⟩ | ⟨e, hb⟩
   · rw [e]
     refine cf rfl (hn fun i y hi hy => ?_)
     rcases Nat.lt_or_ge i j with h' | h'
     · exact hI i y h' hy
     · obtain rfl : i = j := by omega
       rw [hx0] at hy; cases hy; exact ⟨hxl, hb⟩
   · rw [e]
     exact ct rfl (bad fun hh => by have := (hh x (mem_get hx0)).2; rw [hb] at this; simp at this)
 · intro next hI
   refine cfd (by omega) ?_
   rw [areC, if_pos fun x hx => by obtain ⟨i, hi⟩ := List.mem_iff_getElem?.1 hx; exact hI i x (lt_get hi) hi] at k
   exact k
theorem areC_cases (p n : Nat) (l : List (List Nat)) : ((∀ x ∈ l, x.length = n ∧ below p x = true) ∧ areC p n l = 0) ∨ (¬ (∀ x ∈ l, x.length = n ∧ below p x = true) ∧ areC p n l = 2) := by
 unfold areC
 by_cases h : ∀ x ∈ l, x.length = n ∧ below p x = true
 · exact .inl ⟨h, if_pos h⟩
 · exact .inr ⟨h, if_neg h⟩
structure SecOk (w : TWorld) (hs : List Int) (d : Nat) (s : TSecret) (f : List Nat) : Prop where
 to : risA w.Setup.N 0 s.To = true
 len : s.Shares.length = hs.length
 lt : ∀ y ∈ s.Shares, y < w.Setup.P
 line : LineP w hs d s.Shares f
open Classical in
noncomputable def chkC (w : TWorld) (hs : List Int) (d : Nat) (s : TSecret) : Int :=
 if risA w.Setup.N 0 s.To = true then if s.Shares.length = hs.length ∧ below w.Setup.P s.Shares = true then if ∃ f, LineP w hs d s.Shares f then 0 else 12 else 2 else 2
theorem chkC_ok {w : TWorld} {hs : List Int} {d : Nat} {s : TSecret} (h : chkC w hs d s = 0) : ∃ f, SecOk w hs d s f := by
 unfold chkC at h
 split at h
 · rename_i h1
   split at h
   · rename_i h2
     split at h
     · rename_i h3
       obtain ⟨f, hf⟩ := h3
       exact ⟨f, h1, h2.1, fun y hy => below_lt h2.2 hy, hf⟩
     · simp at h
   · simp at h
 · simp at h
def shr (l : List TSecret) (hs : List Int) (a i : Nat) : Nat := zat (secAt l i).Shares (hs.idxOf ((a : Int) + 1))
def cntS (l : List TSecret) (hs : List Int) (P m c q a : Nat) : Nat := if q < P then (ofL l q).length else if q = P then (if hs.idxOf ((a : Int) + 1) < c then m + 1 else m) else 0
def cel (l : List TSecret) (hs : List Int) (q a c : Nat) : List Nat := if ((a : Int) + 1) ∈ hs then ((ofL l q).take c).map (shr l hs a) else []
def full (l : List TSecret) (hs : List Int) (q a : Nat) : List Nat := if ((a : Int) + 1) ∈ hs then (ofL l q).map (shr l hs a) else []
def privL (l : List TSecret) (hs : List Int) (n : Nat) : List (List (List Nat)) := tab n fun a => tab n fun b => full l hs (b + 1) a
def saidL (l : List TSecret) (hs : List Int) (n : Nat) : List (List Nat) := tab n fun a => full l hs 0 a
def privS (l : List TSecret) (hs : List Int) (n P m c : Nat) : List (List (List Nat)) := tab n fun a => tab n fun b => cel l hs (b + 1) a (cntS l hs P m c (b + 1) a)
def saidS (l : List TSecret) (hs : List Int) (n P m c : Nat) : List (List Nat) := tab n fun a => cel l hs 0 a (cntS l hs P m c 0 a)
theorem cel_len (l : List TSecret) (hs : List Int) (q a : Nat) {c : Nat} (h : (ofL l q).length ≤ c) : cel l hs q a c = full l hs q a := by unfold cel full; rw [List.take_of_length_le h]
theorem cel_zero (l : List TSecret) (hs : List Int) (q a : Nat) : cel l hs q a 0 = [] := by unfold cel; simp
theorem cntS_next (l : List TSecret) (hs : List Int) (P m q a : Nat) : cel l hs q a (cntS l hs P m hs.length q a) = cel l hs q a (cntS l hs P (m + 1) 0 q a) := by
 by_cases hm : ((a : Int) + 1) ∈ hs
 · have := List.idxOf_lt_length_iff.2 hm
   congr 1
   unfold cntS
   by_cases h1 : q < P
   · rw [if_pos h1, if_pos h1]
   · rw [if_neg h1, if_neg h1]
     by_cases h2 : q = P
     · rw [if_pos h2, if_pos h2, if_pos this, if_neg (by omega)]
     · rw [if_neg h2, if_neg h2]
 · unfold cel; rw [if_neg hm, if_neg hm]
theorem cntS_party (l : List TSecret) (hs : List Int) (P q a : Nat) : cntS l hs P (ofL l P).length 0 q a = cntS l hs (P + 1) 0 0 q a := by
 unfold cntS
 by_cases h1 : q < P
 · rw [if_pos h1, if_pos (by omega)]
 · rw [if_neg h1]
   by_cases h2 : q = P
   · subst h2; rw [if_pos rfl, if_pos (show q < q + 1 by omega), if_neg (show ¬ hs.idxOf ((a : Int) + 1) < 0 by omega)]
   · rw [if_neg h2, if_neg (show ¬ q < P + 1 by omega)]; split <;> simp
theorem cntS_start (l : List TSecret) (hs : List Int) (q a : Nat) : cntS l hs 0 0 0 q a = 0 := by
 unfold cntS; rw [if_neg (show ¬ q < 0 by omega)]; split <;> simp
theorem idx_of {hs : List Int} {n : Int} (hr : risA n 0 hs = true) {c : Nat} {x : Int} (hx : hs[c]? = some x) : hs.idxOf x = c := by
 have hm := mem_get hx
 have h1 := List.idxOf_lt_length_iff.2 hm
 refine ih_inj hr h1 (lt_get hx) ?_
 rw [ih_get hx, ih_get (x := x)]
 rw [List.getElem?_eq_getElem h1, List.getElem_idxOf]
theorem cel_step {l : List TSecret} {hs : List Int} {n : Int} (hr : risA n 0 hs = true) {P m c i : Nat} {x : Int} (hx : hs[c]? = some x) (hi : (ofL l P)[m]? = some i) {q a : Nat} :
   cel l hs q a (cntS l hs P m (c + 1) q a) = if (a : Int) + 1 = x ∧ q = P then cel l hs q a m ++ [zat (secAt l i).Shares c] else cel l hs q a (cntS l hs P m c q a) := by
 by_cases hm : ((a : Int) + 1) ∈ hs
 · by_cases h1 : (a : Int) + 1 = x ∧ q = P
   · rw [if_pos h1]
     obtain ⟨e, rfl⟩ := h1
     have hix := idx_of hr hx
     unfold cntS
     rw [if_neg (by omega), if_pos rfl, e, hix, if_pos (by omega)]
     unfold cel
     rw [if_pos hm, if_pos hm, take_snoc hi, List.map_append, List.map_singleton]
     unfold shr
     rw [e, hix]
   · rw [if_neg h1]
     congr 1
     unfold cntS
     by_cases h2 : q < P
     · rw [if_pos h2, if_pos h2]
     · rw [if_neg h2, if_neg h2]
       by_cases h3 : q = P
       · rw [if_pos h3, if_pos h3]
         have hne : hs.idxOf ((a : Int) + 1) ≠ c := fun e => h1 ⟨by
           have hlt := List.idxOf_lt_length_iff.2 hm
           have h4 : hs[hs.idxOf ((a : Int) + 1)]? = some ((a : Int) + 1) := by rw [List.getElem?_eq_getElem hlt, List.getElem_idxOf]
           rw [e, hx] at h4; exact (Option.some.inj h4).symm, h3⟩
         by_cases h4 : hs.idxOf ((a : Int) + 1) < c
         · rw [if_pos h4, if_pos (by omega)]
         · rw [if_neg h4, if_neg (by omega)]
       · rw [if_neg h3, if_neg h3]
 · have h1 : ¬ ((a : Int) + 1 = x ∧ q = P) := fun h => hm (by rw [h.1]; exact mem_get hx)
   rw [if_neg h1]; unfold cel; rw [if_neg hm, if_neg hm]
theorem cel_at {l : List TSecret} {hs : List Int} {P m c a : Nat} {x : Int} {n : Int} (hr : risA n 0 hs = true) (hx : hs[c]? = some x) (e : (a : Int) + 1 = x) : cel l hs P a (cntS l hs P m c P a) = cel l hs P a m := by
 unfold cntS
 rw [if_neg (by omega), if_pos rfl, e, idx_of hr hx, if_neg (by omega)]
section
variable {l : List TSecret} {hs : List Int} {n P m c : Nat}
theorem privS_start (n : Nat) : List.replicate n (List.replicate n ([] : List Nat)) = privS l hs n 0 0 0 := by
 unfold privS; rw [tab_rep n ([] : List Nat), tab_rep]
 exact tab_ext fun a _ => tab_ext fun b _ => by rw [cntS_start, cel_zero]
theorem saidS_start (n : Nat) : List.replicate n ([] : List Nat) = saidS l hs n 0 0 0 := by
 unfold saidS; rw [tab_rep]
 exact tab_ext fun a _ => by rw [cntS_start, cel_zero]
theorem privS_next : privS l hs n P m hs.length = privS l hs n P (m + 1) 0 := tab_ext fun a _ => tab_ext fun b _ => cntS_next l hs P m (b + 1) a
theorem saidS_next : saidS l hs n P m hs.length = saidS l hs n P (m + 1) 0 := tab_ext fun a _ => cntS_next l hs P m 0 a
theorem privS_party : privS l hs n P (ofL l P).length 0 = privS l hs n (P + 1) 0 0 := tab_ext fun a _ => tab_ext fun b _ => by rw [cntS_party]
theorem saidS_party : saidS l hs n P (ofL l P).length 0 = saidS l hs n (P + 1) 0 0 := tab_ext fun a _ => by rw [cntS_party]
theorem privS_end : privS l hs n (n + 1) 0 0 = privL l hs n := tab_ext fun a _ => tab_ext fun b hb => by
 unfold cntS; rw [if_pos (show b + 1 < n + 1 by omega)]; exact cel_len l hs _ a (Nat.le_refl _)
theorem saidS_end : saidS l hs n (n + 1) 0 0 = saidL l hs n := tab_ext fun a _ => by
 unfold cntS; rw [if_pos (show 0 < n + 1 by omega)]; exact cel_len l hs _ a (Nat.le_refl _)
variable {N : Int} {i a : Nat} {x : Int}
theorem said_put (hr : risA N 0 hs = true) (hx : hs[c]? = some x) (e : (a : Int) + 1 = x) (ha : a < n) (hi : (ofL l 0)[m]? = some i) : (saidS l hs n 0 m c).set a (cel l hs 0 a m ++ [zat (secAt l i).Shares c]) = saidS l hs n 0 m (c + 1) := by
 unfold saidS
 rw [tab_set]
 refine tab_ext fun b hb => ?_
 rw [cel_step hr hx hi]
 by_cases h : b = a
 · subst h; rw [if_pos rfl, if_pos ⟨e, rfl⟩]
 · rw [if_neg h, if_neg (by rintro ⟨h1, _⟩; omega)]
theorem said_keep (hr : risA N 0 hs = true) (hx : hs[c]? = some x) (hP : P ≠ 0) (hi : (ofL l P)[m]? = some i) : saidS l hs n P m c = saidS l hs n P m (c + 1) :=
 tab_ext fun b hb => by rw [cel_step hr hx hi, if_neg (by rintro ⟨_, h1⟩; omega)]
theorem priv_keep (hr : risA N 0 hs = true) (hx : hs[c]? = some x) (hi : (ofL l 0)[m]? = some i) : privS l hs n 0 m c = privS l hs n 0 m (c + 1) :=
 tab_ext fun a ha => tab_ext fun b hb => by rw [cel_step hr hx hi, if_neg (by rintro ⟨_, h1⟩; omega)]
theorem priv_put {b : Nat} (hr : risA N 0 hs = true) (hx : hs[c]? = some x) (e : (a : Int) + 1 = x) (hP : P = b + 1) (hi : (ofL l P)[m]? = some i) :
   (privS l hs n P m c).set a ((tab n fun b => cel l hs (b + 1) a (cntS l hs P m c (b + 1) a)).set b (cel l hs P a m ++ [zat (secAt l i).Shares c])) = privS l hs n P m (c + 1) := by
 unfold privS
 rw [tab_set, tab_set]
 refine tab_ext fun a' ha => ?_
 by_cases h : a' = a
 · subst h
   rw [if_pos rfl]
   refine tab_ext fun b' hb => ?_
   rw [cel_step hr hx hi]
   by_cases h2 : b' = b
   · subst h2; rw [if_pos rfl, if_pos ⟨e, hP.symm⟩, hP]
   · rw [if_neg h2, if_neg (by rintro ⟨_, h3⟩; omega)]
 · rw [if_neg h]
   exact tab_ext fun b' hb => by rw [cel_step hr hx hi, if_neg (by rintro ⟨h3, _⟩; omega)]
end
theorem cel_le (l : List TSecret) (hs : List Int) (q a m : Nat) : (cel l hs q a m).length ≤ l.length := by
 unfold cel; split
 · rw [List.length_map, List.length_take]; have := ofL_len l q; omega
 · exact Nat.zero_le _
def inPay (C : List (List (List Nat))) (Hd : List (List Nat)) (q : Nat) (h : Int) : List Nat := if q = 0 then pay Hd (h.toNat - 1) else pay (row C (q - 1)) (h.toNat - 1)
def inR (p : Nat) (l : List TSecret) (C : List (List (List Nat))) (Hd : List (List Nat)) (q : Nat) (h : Int) : List Nat := takeN p (inPay C Hd q h) (ofL l q).length
def recv (p : Nat) (l : List TSecret) (hs : List Int) (C : List (List (List Nat))) (Hd : List (List Nat)) (q m : Nat) : List Nat := tab hs.length fun c => zat (inR p l C Hd q (ih hs c)) m
def gotQ (p : Nat) (l : List TSecret) (hs : List Int) (C : List (List (List Nat))) (Hd : List (List Nat)) (F : Nat → List Nat) (q i : Nat) : TGot := gotOf p hs (F i) (ptsOf hs (recv p l hs C Hd q ((ofL l q).idxOf i)))
def gots (p : Nat) (l : List TSecret) (hs : List Int) (C : List (List (List Nat))) (Hd : List (List Nat)) (F : Nat → List Nat) (n : Nat) : List (List TGot) :=
 tab l.length fun i => ((List.range n).filter fun q => asked q (secAt l i)).map fun q => gotQ p l hs C Hd F q i
theorem ofL_nodup (l : List TSecret) (q : Nat) : (ofL l q).Nodup := List.nodup_range.filter _
theorem idx_nat {L : List Nat} (hn : L.Nodup) {m i : Nat} (h : L[m]? = some i) : L.idxOf i = m := by
 have hm := mem_get h
 have h1 := List.idxOf_lt_length_iff.2 hm
 have h2 : L[L.idxOf i]? = some i := by rw [List.getElem?_eq_getElem h1, List.getElem_idxOf]
 rcases Nat.lt_trichotomy (L.idxOf i) m with h3 | h3 | h3
 · exact absurd h2 (nodup_iff.1 hn m _ i h3 h)
 · exact h3
 · exact absurd h (nodup_iff.1 hn _ m i h3 h2)
theorem data_le {w : TWorld} (hw : WOk w) (r f t : Int) (d : List Nat) : (actOf w.Acts r f t d).length ≤ max 65536 d.length := by
 unfold actOf
 cases h : hasAct w.Acts r f t with
 | none => dsimp only; omega
 | some a =>
   dsimp only
   split
   · simp
   · have := (hw.act a (hasAct_some h).1).2; omega
theorem full_len (l : List TSecret) (hs : List Int) (q a : Nat) : (full l hs q a).length ≤ l.length := by
 unfold full; split
 · rw [List.length_map]; exact ofL_len l q
 · exact Nat.zero_le _
theorem privL_pay {l : List TSecret} {hs : List Int} {n a b : Nat} (ha : a < n) (hb : b < n) : pay (row (privL l hs n) a) b = full l hs (b + 1) a := by
 unfold privL; rw [row_get (tab_get _ ha), pay_get (tab_get _ hb)]
theorem saidL_pay {l : List TSecret} {hs : List Int} {n a : Nat} (ha : a < n) : pay (saidL l hs n) a = full l hs 0 a := pay_get (tab_get _ ha)
section
variable {w : TWorld} {t : TTable} {hs : List Int} {d n tt : Nat} {l : List TSecret}
theorem open_Play_c (hw : WOk w) (ht : t.Setup = w.Setup) (hn : w.Setup.N = n) (htt : w.Setup.T_ = tt) (hr : risA w.Setup.N 0 hs = true) (hd : d + 1 + 2 * tt ≤ hs.length) (hl : l.length ≤ 100000) (hto : ∀ x ∈ l, x.To.length ≤ 1000000) (hsh : ∀ x ∈ l, x.Shares.length = hs.length) (hS : w.Sent.length ≤ 2000000) (hA : w.Acts.length ≤ 2000000)
   (F : Nat → List Nat) (hD : ∀ q i, q ≤ n → i ∈ ofL l q → Dec w.Setup.P d tt (ptsOf hs (recv w.Setup.P l hs (cames w (privL l hs n)) (heards w (saidL l hs n)) q ((ofL l q).idxOf i))) (F i))
   {K : List (List TGot) → TTable → TWorld → Prop} (k : K (gots w.Setup.P l hs (cames w (privL l hs n)) (heards w (saidL l hs n)) F (n + 1)) t (nextW w (privL l hs n) (saidL l hs n))) : open_Play.C t w hs d l K := by
 have hset := hw.set
 obtain ⟨hp, hN1, hN2, _, _, hNP⟩ := id hset
 have hp3 := hp.1
 have hpp := hp.2.1
 have h13 := hs13 hN2 hr
 have hof : ∀ q, (ofL l q).length ≤ 100000 := fun q => Nat.le_trans (ofL_len l q) hl
 have hto' : ∀ x ∈ l, x.To.length < 4611686018427387904 := fun x hx => by have := hto x hx; omega
 have hNn : w.Setup.N.toNat = n := by omega
 refine open_Play.q ?_
 unfold open_Play.Q
 rw [ht, hn]
 refine net_Blank_c (by omega) ?_
 rw [addw1 (by omega)]
 refine LoopQ.rangeS (n + 1) (fun P s => s.1 = privS l hs n P 0 0 ∧ s.2 = saidS l hs n P 0 0) ⟨privS_start n, saidS_start n⟩ (by omega) ?_ ?_
 · rintro P ⟨A, B⟩ next hP ⟨hA0, hB0⟩ hnext
   dsimp only at hA0 hB0
   subst hA0; subst hB0
   refine ctd (by dsimp only; omega) (open_telling_of_c hl hto' ?_)
   dsimp only
   rw [ints_len]
   refine LoopQ.rangeS (ofL l P).length (fun m s => s.1 = privS l hs n P m 0 ∧ s.2 = saidS l hs n P m 0) ⟨rfl, rfl⟩ (by have := hof P; omega) ?_ ?_
   · rintro m ⟨A, B⟩ next2 hm ⟨hA0, hB0⟩ hnext2
     dsimp only at hA0 hB0
     subst hA0; subst hB0
     obtain ⟨i, hi⟩ := get_some hm
     have hil := (ofL_mem.1 (mem_get hi)).1
     refine ctd (by dsimp only; omega) ⟨by dsimp only; omega, by dsimp only; omega, (i : Int), by unfold ints; rw [List.getElem?_map, toNat_c, hi]; rfl, ?_⟩
     refine LoopQ.rangeS hs.length (fun c s => s.1 = privS l hs n P m c ∧ s.2 = saidS l hs n P m c) ⟨rfl, rfl⟩ (by omega) ?_ ?_
     · rintro c ⟨A, B⟩ next3 hc ⟨hA0, hB0⟩ hnext3
       dsimp only at hA0 hB0
       subst hA0; subst hB0
       obtain ⟨x, hx⟩ := get_some hc
       have hxr := ris_mem hr x (mem_get hx)
       obtain ⟨s, hsec⟩ := get_some hil
       have hsl := hsh s (mem_get hsec)
       obtain ⟨y, hy⟩ := get_some (show c < s.Shares.length by omega)
       obtain ⟨a, rfl⟩ : ∃ a : Nat, x = (a : Int) + 1 := ⟨x.toNat - 1, by omega⟩
       have han : a < n := by omega
       have ew : IntKind.i64.wrap ((a : Int) + 1 - 1) = (a : Int) := by rw [show (a : Int) + 1 - 1 = a by omega]; exact wi64 (by omega) (by omega)
       have ezat : y = zat (secAt l i).Shares c := by rw [secAt_get hsec, zat_get hy]
       refine ctd (by dsimp only; omega) ⟨by dsimp only; omega, (a : Int) + 1, hx, ?_⟩
       dsimp only
       rw [ew, toNat_c, toNat_c, toNat_c]
       refine cnE (fun h0 => ?_) (fun h0 => ?_)
       · obtain rfl : P = 0 := by omega
         have hcell := cel_at (l := l) (P := 0) (m := m) hr hx rfl
         refine ⟨by omega, by simp; omega, cel l hs 0 a m, by rw [← hcell]; exact tab_get _ han, by omega, s, hsec, by omega, y, hy, AppOk.big (by rw [List.length_append, List.length_singleton]; have := cel_le l hs 0 a m; omega), by omega, by simp; omega, hnext3 _ ⟨?_, ?_⟩⟩
         · exact priv_keep hr hx hi
         · dsimp only; rw [ezat]; exact said_put hr hx rfl han hi
       · obtain ⟨b, rfl⟩ : ∃ b, P = b + 1 := ⟨P - 1, by omega⟩
         have hcell := cel_at (l := l) (P := b + 1) (m := m) hr hx rfl
         have ewb : IntKind.i64.wrap (((b + 1 : Nat) : Int) - 1) = (b : Int) := by rw [show ((b + 1 : Nat) : Int) - 1 = b by omega]; exact wi64 (by omega) (by omega)
         rw [ewb, toNat_c]
         refine ⟨by omega, by simp; omega, by omega, by simp; omega, tab n fun b' => cel l hs (b' + 1) a (cntS l hs (b + 1) m c (b' + 1) a), tab_get _ han, by omega, by rw [tab_len]; omega, cel l hs (b + 1) a m, by rw [← hcell]; exact tab_get _ (show b < n by omega), by omega, s, hsec, by omega, y, hy, AppOk.big (by rw [List.length_append, List.length_singleton]; have := cel_le l hs (b + 1) a m; omega), by omega, by rw [tab_len]; omega, hnext3 _ ⟨?_, ?_⟩⟩
         · dsimp only; rw [ezat]; exact priv_put hr hx rfl rfl hi
         · exact said_keep hr hx (by omega) hi
     · rintro ⟨A, B⟩ next3 ⟨hA0, hB0⟩
       dsimp only at hA0 hB0
       subst hA0; subst hB0
       exact cfd (by dsimp only; omega) (hnext2 _ ⟨privS_next, saidS_next⟩)
   · rintro ⟨A, B⟩ next2 ⟨hA0, hB0⟩
     dsimp only at hA0 hB0
     subst hA0; subst hB0
     exact cfd (by dsimp only; omega) (hnext _ ⟨privS_party, saidS_party⟩)
 rintro ⟨A, B⟩ next ⟨hA0, hB0⟩
 dsimp only at hA0 hB0
 rw [privS_end] at hA0
 rw [saidS_end] at hB0
 subst hA0; subst hB0
 refine cfd (by dsimp only; omega) (net_Table_Round_c (priv := privL l hs n) (said := saidL l hs n) hw hn ⟨tab_len _ _, fun i hi => by unfold privL; rw [row_get (tab_get _ hi), tab_len]⟩ (tab_len _ _) hS hA ?_)
 generalize hC : cames w (privL l hs n) = C at hD k ⊢
 generalize hH : heards w (saidL l hs n) = Hd at hD k ⊢
 have hHd : ∀ a, a < n → ∃ x, Hd[a]? = some x ∧ x.length ≤ 200000 := fun a ha => by
   rw [← hH]; unfold heards; rw [hNn]
   refine ⟨_, tab_get _ ha, ?_⟩
   unfold heardF
   have h1 := data_le hw (w.Round + 1) ((a : Int) + 1) 0 (pay (saidL l hs n) a)
   rw [saidL_pay ha] at h1 ⊢
   have := full_len l hs 0 a
   omega
 have hCc : ∀ a b, a < n → b < n → ∃ r x, C[a]? = some r ∧ r[b]? = some x ∧ x.length ≤ 200000 := fun a b ha hb => by
   rw [← hC]; unfold cames; rw [hNn]
   refine ⟨_, _, tab_get _ ha, tab_get _ hb, ?_⟩
   unfold cameF
   have h1 := data_le hw (w.Round + 1) ((b : Int) + 1) ((a : Int) + 1) (pay (row (privL l hs n) b) a)
   rw [privL_pay hb ha] at h1 ⊢
   have := full_len l hs (a + 1) b
   omega
 refine open_telling_of_c (party := 0) hl hto' ?_
 rw [ints_len]
 refine LoopQ.rangeS hs.length (fun c m => ∀ i, i < c → mgetD m (ih hs i) [] = inR w.Setup.P l C Hd 0 (ih hs i)) (fun i hi => by omega) (by omega) ?_ ?_
 · intro c m next hc hI hnext
   obtain ⟨x, hx⟩ := get_some hc
   have hxr := ris_mem hr x (mem_get hx)
   obtain ⟨a, rfl⟩ : ∃ a : Nat, x = (a : Int) + 1 := ⟨x.toNat - 1, by omega⟩
   have ew : IntKind.i64.wrap ((a : Int) + 1 - 1) = (a : Int) := by rw [show (a : Int) + 1 - 1 = a by omega]; exact wi64 (by omega) (by omega)
   obtain ⟨y, hy, hyl⟩ := hHd a (by omega)
   refine ctd (by dsimp only; omega) ⟨by dsimp only; omega, (a : Int) + 1, hx, ?_⟩
   rw [ew, toNat_c]
   refine ⟨by omega, y, hy, net_Of_c (by omega) (by have := hof 0; omega) (by omega) (hnext _ fun i hi => ?_)⟩
   dsimp only
   rw [mgetD_set]
   by_cases he : (a : Int) + 1 = ih hs i
   · rw [if_pos he, ← he]
     unfold inR inPay
     rw [if_pos rfl, show ((a : Int) + 1).toNat - 1 = a by omega, pay_get hy]
   · rw [if_neg he]
     rcases Nat.lt_or_ge i c with h' | h'
     · exact hI i h'
     · obtain rfl : i = c := by omega
       rw [ih_get hx] at he; exact absurd rfl he
 intro hm next hIh
 refine cfd (by dsimp only; omega) ?_
 refine LoopQ.upto n (fun P t6 => t6.1 = ((P + 1 : Nat) : Int) ∧ ∀ q, 1 ≤ q → q ≤ P → ∀ i, i < hs.length → mgetD t6.2 ((q : Int), ih hs i) [] = inR w.Setup.P l C Hd q (ih hs i)) ⟨rfl, fun q h1 h2 => by omega⟩ ?_
 rintro P ⟨P1, cm⟩ next2 hP ⟨hP1, hI⟩ hnext2
 dsimp only at hP1 hI
 subst hP1
 by_cases hPn : P < n
 · refine ctd (by dsimp only; omega) (open_telling_of_c hl hto' ?_)
   dsimp only
   rw [ints_len]
   refine LoopQ.rangeS hs.length (fun c m => (∀ q, 1 ≤ q → q ≤ P → ∀ i, i < hs.length → mgetD m ((q : Int), ih hs i) [] = inR w.Setup.P l C Hd q (ih hs i)) ∧ ∀ i, i < c → mgetD m (((P + 1 : Nat) : Int), ih hs i) [] = inR w.Setup.P l C Hd (P + 1) (ih hs i)) ⟨hI, fun i hi => by omega⟩ (by omega) ?_ ?_
   · rintro c m next3 hc ⟨hI1, hI2⟩ hnext3
     obtain ⟨x, hx⟩ := get_some hc
     have hxr := ris_mem hr x (mem_get hx)
     obtain ⟨a, rfl⟩ : ∃ a : Nat, x = (a : Int) + 1 := ⟨x.toNat - 1, by omega⟩
     have ew : IntKind.i64.wrap ((a : Int) + 1 - 1) = (a : Int) := by rw [show (a : Int) + 1 - 1 = a by omega]; exact wi64 (by omega) (by omega)
     have ewP : IntKind.i64.wrap (((P + 1 : Nat) : Int) - 1) = (P : Int) := by rw [show ((P + 1 : Nat) : Int) - 1 = P by omega]; exact wi64 (by omega) (by omega)
     obtain ⟨rw_, y, hrw, hy, hyl⟩ := hCc P a hPn (by omega)
     refine ctd (by dsimp only; omega) ⟨by dsimp only; omega, (a : Int) + 1, hx, ?_⟩
     rw [ew, ewP, toNat_c, toNat_c]
     refine ⟨by omega, rw_, hrw, by omega, y, hy, net_Of_c (by omega) (by have := hof (P + 1); omega) (by omega) (hnext3 _ ⟨fun q h1 h2 i hi => ?_, fun i hi => ?_⟩)⟩
     · dsimp only
       rw [mgetD_set, if_neg (by intro e; have := congrArg Prod.fst e; dsimp only at this; omega)]
       exact hI1 q h1 h2 i hi
     · dsimp only
       rw [mgetD_set]
       by_cases he : (((P + 1 : Nat) : Int), (a : Int) + 1) = (((P + 1 : Nat) : Int), ih hs i)
       · rw [if_pos he]
         have he2 : (a : Int) + 1 = ih hs i := congrArg Prod.snd he
         rw [← he2]
         unfold inR inPay
         rw [if_neg (show ¬ P + 1 = 0 by omega), show ((a : Int) + 1).toNat - 1 = a by omega, show P + 1 - 1 = P by omega, row_get hrw, pay_get hy]
       · rw [if_neg he]
         rcases Nat.lt_or_ge i c with h' | h'
         · exact hI2 i h'
         · obtain rfl : i = c := by omega
           rw [ih_get hx] at he; exact absurd rfl he
   · rintro m next3 ⟨hI1, hI2⟩
     refine cfd (by dsimp only; omega) (hnext2 hPn _ ⟨wsucc (by omega), fun q h1 h2 i hi => ?_⟩)
     rcases Nat.lt_or_ge P q with h' | h'
     · obtain rfl : q = P + 1 := by omega
       exact hI2 i hi
     · exact hI1 q h1 h' i hi
 obtain rfl : P = n := by omega
 refine cfd (by dsimp only; omega) ⟨MakeOk.big (by omega) (by omega), ?_⟩
 rw [ht, hn, addw1 (by omega)]
 have hrl : ∀ q i, (inR w.Setup.P l C Hd q i).length = (ofL l q).length := fun q i => by unfold inR; exact takeN_len _ _ _
 refine LoopQ.rangeS (P + 1) (fun Q s => s = gots w.Setup.P l hs C Hd F Q) (by unfold gots; rw [tab_rep]; exact tab_ext fun i _ => by simp) (by omega) ?_ ?_
 · rintro Q _ next3 hQ rfl hnext3
   refine ctd (by dsimp only; omega) (open_telling_of_c hl hto' ?_)
   dsimp only
   rw [ints_len]
   refine LoopQ.rangeL (ofL l Q).length (fun m s => s = ((ofL l Q).take m).map fun i => gotQ w.Setup.P l hs C Hd F Q i) rfl (by have := hof Q; omega) ?_ ?_
   · rintro m _ next4 hm0 rfl hnext4
     obtain ⟨i, hi⟩ := get_some hm0
     refine ctd (by dsimp only; omega) ⟨MakeOk.big (by omega) (by omega), ?_⟩
     refine LoopQ.rangeS hs.length (fun c s => s = tab hs.length fun j => if j < c then zat (inR w.Setup.P l C Hd Q (ih hs j)) m else 0) (tab_fill0 _ _ _) (by omega) ?_ ?_
     · rintro c _ next5 hc rfl hnext5
       obtain ⟨x, hx⟩ := get_some hc
       refine ctd (by dsimp only; omega) ⟨by dsimp only; omega, x, hx, cnE (fun h0 => ?_) (fun h0 => ?_)⟩
       · obtain rfl : Q = 0 := by omega
         have e := hIh c hc
         rw [ih_get hx] at e
         obtain ⟨y, hy⟩ := get_some (show m < (inR w.Setup.P l C Hd 0 x).length by rw [hrl]; exact hm0)
         refine ⟨_, rfl, by dsimp only; omega, y, by rw [e]; exact hy, by dsimp only; omega, by dsimp only; omega, hnext5 _ ?_⟩
         dsimp only
         rw [toNat_c, ← tab_fill, ih_get hx, zat_get hy]
       · have e := hI Q (by omega) (by omega) c hc
         rw [ih_get hx] at e
         obtain ⟨y, hy⟩ := get_some (show m < (inR w.Setup.P l C Hd Q x).length by rw [hrl]; exact hm0)
         refine ⟨_, rfl, by dsimp only; omega, y, by rw [e]; exact hy, by dsimp only; omega, by dsimp only; omega, hnext5 _ ?_⟩
         dsimp only
         rw [toNat_c, ← tab_fill, ih_get hx, zat_get hy]
     · rintro _ next5 rfl
       refine cfd (by dsimp only; omega) ?_
       dsimp only
       rw [tab_filln]
       have hrv : (tab hs.length fun j => zat (inR w.Setup.P l C Hd Q (ih hs j)) m) = recv w.Setup.P l hs C Hd Q ((ofL l Q).idxOf i) := by unfold recv; rw [idx_nat (ofL_nodup l Q) hi]
       rw [hrv]
       refine open_Decode_c hset htt hr (by unfold recv; rw [tab_len]; exact Nat.le_refl _) (fun y hy => ?_) hd (hD Q i (by omega) (mem_get hi)) ⟨AppOk.big (by rw [List.length_append, List.length_map, List.length_take, List.length_singleton]; have := hof Q; omega), hnext4 _ ?_⟩
       · unfold recv at hy
         obtain ⟨c, _, rfl⟩ := tab_mem hy
         exact zat_lt (by omega) (fun z hz => takeN_lt (by omega) hz) _
       · rw [take_snoc hi, List.map_append, List.map_singleton]; rfl
   · rintro _ next4 rfl
     refine cfd (by dsimp only; omega) (open_telling_of_c hl hto' ?_)
     dsimp only
     rw [ints_len, List.take_of_length_le (Nat.le_refl _)]
     refine LoopQ.rangeS (ofL l Q).length (fun k s => s = tab l.length fun i => (((List.range Q).filter fun q => asked q (secAt l i)).map fun q => gotQ w.Setup.P l hs C Hd F q i) ++ if i ∈ (ofL l Q).take k then [gotQ w.Setup.P l hs C Hd F Q i] else []) (by unfold gots; exact tab_ext fun i _ => by simp) (by have := hof Q; omega) ?_ ?_
     · rintro k _ next5 hk rfl hnext5
       obtain ⟨i, hi⟩ := get_some hk
       have hil := (ofL_mem.1 (mem_get hi)).1
       have hnot : i ∉ (ofL l Q).take k := fun hmm => by
         obtain ⟨j, hj⟩ := List.mem_iff_getElem?.1 hmm
         have hjk : j < k := by have := lt_get hj; rw [List.length_take] at this; omega
         rw [List.getElem?_take, if_pos hjk] at hj
         exact nodup_iff.1 (ofL_nodup l Q) k j i hjk hi hj
       refine ctd (by dsimp only; omega) ⟨by dsimp only; omega, by dsimp only; omega, (i : Int), by unfold ints; rw [List.getElem?_map, toNat_c, hi]; rfl, by omega, by omega, by dsimp only; omega, by dsimp only; rw [List.length_map]; omega, ((List.range Q).filter fun q => asked q (secAt l i)).map (fun q => gotQ w.Setup.P l hs C Hd F q i), ?_, gotQ w.Setup.P l hs C Hd F Q i, ?_, ?_⟩
       · dsimp only; rw [toNat_c, tab_get _ hil, if_neg hnot, List.append_nil]
       · dsimp only; rw [toNat_c, List.getElem?_map, hi]; rfl
       refine ⟨AppOk.big ?_, by omega, by omega, hnext5 _ ?_⟩
       · rw [List.length_append, List.length_map, List.length_singleton]
         have := List.length_filter_le (fun q => asked q (secAt l i)) (List.range Q)
         rw [List.length_range] at this; omega
       · dsimp only
         rw [toNat_c, tab_set]
         refine tab_ext fun j hj => ?_
         rw [take_snoc hi]
         by_cases hji : j = i
         · subst hji; rw [if_pos rfl, if_pos (by simp)]
         · rw [if_neg hji]; congr 1
           by_cases hjm : j ∈ (ofL l Q).take k
           · rw [if_pos hjm, if_pos (by simp [hjm])]
           · rw [if_neg hjm, if_neg (by simp [hjm, hji])]
     · rintro _ next5 rfl
       refine cfd (by dsimp only; omega) (hnext3 _ ?_)
       dsimp only
       unfold gots
       refine tab_ext fun i hi => ?_
       rw [rng_step, List.map_append, List.take_of_length_le (Nat.le_refl _)]
       congr 1
       by_cases ha : asked Q (secAt l i) = true
       · rw [if_pos ha, if_pos (ofL_mem.2 ⟨hi, ha⟩)]; rfl
       · rw [if_neg ha, if_neg (fun h => ha (ofL_mem.1 h).2)]; rfl
 · rintro _ next3 rfl
   exact cfd (by dsimp only; omega) k
end
theorem actOf_honest {w : TWorld} (hw : WOk w) {r f t : Int} (hf : f ∉ w.Corrupted) (d : List Nat) : actOf w.Acts r f t d = d := by
 unfold actOf
 cases h : hasAct w.Acts r f t with
 | none => rfl
 | some a =>
   obtain ⟨h1, h2⟩ := hasAct_some h
   have : a.From = f := by simp only [key3, Prod.mk.injEq] at h2; exact h2.2.1
   exact absurd (.inl (by rw [this]; exact hf)) (hw.act a h1).1
theorem cames_pay {w : TWorld} {priv : List (List (List Nat))} {n a b : Nat} (hn : w.Setup.N = n) (ha : a < n) (hb : b < n) : pay (row (cames w priv) a) b = cameF w priv a b := by
 have : w.Setup.N.toNat = n := by omega
 unfold cames; rw [this, row_get (tab_get _ ha), pay_get (tab_get _ hb)]
theorem heards_pay {w : TWorld} {said : List (List Nat)} {n b : Nat} (hn : w.Setup.N = n) (hb : b < n) : pay (heards w said) b = heardF w said b := by
 have : w.Setup.N.toNat = n := by omega
 unfold heards; rw [this, pay_get (tab_get _ hb)]
section
variable {w : TWorld} {hs : List Int} {d n tt : Nat} {l : List TSecret}
theorem honest_R (hw : WOk w) (hn : w.Setup.N = n) (hr : risA w.Setup.N 0 hs = true) (hsh : ∀ s ∈ l, ∀ y ∈ s.Shares, y < w.Setup.P) {c q i : Nat} (hc : c < hs.length) (hh : ih hs c ∉ w.Corrupted) (hq : q ≤ n) (hi : i ∈ ofL l q) :
   zat (inR w.Setup.P l (cames w (privL l hs n)) (heards w (saidL l hs n)) q (ih hs c)) ((ofL l q).idxOf i) = zat (secAt l i).Shares c := by
 have hp3 := hw.set.1.1
 have hm := ih_mem hc
 have hxr := ris_mem hr _ hm
 obtain ⟨a, ha⟩ : ∃ a : Nat, ih hs c = (a : Int) + 1 := ⟨(ih hs c).toNat - 1, by omega⟩
 have han : a < n := by omega
 have ha1 : (ih hs c).toNat - 1 = a := by omega
 obtain ⟨x, hx⟩ := get_some hc
 have hpay : inPay (cames w (privL l hs n)) (heards w (saidL l hs n)) q (ih hs c) = (ofL l q).map (shr l hs a) := by
   have hfull : full l hs q a = (ofL l q).map (shr l hs a) := by unfold full; rw [if_pos (by rw [← ha]; exact hm)]
   unfold inPay
   rw [ha1]
   by_cases h0 : q = 0
   · subst h0
     rw [if_pos rfl, heards_pay hn han, heardF, actOf_honest hw (by rw [← ha]; exact hh), saidL_pay han, hfull]
   · obtain ⟨b, rfl⟩ : ∃ b, q = b + 1 := ⟨q - 1, by omega⟩
     rw [if_neg h0, show b + 1 - 1 = b by omega, cames_pay hn (by omega) han, cameF, actOf_honest hw (by rw [← ha]; exact hh), privL_pay han (by omega), hfull]
 unfold inR
 rw [hpay, takeN_self (by rw [List.length_map]) (fun y hy => by
   obtain ⟨j, hj, rfl⟩ := List.mem_map.1 hy
   obtain ⟨s, hs0⟩ := get_some (ofL_mem.1 hj).1
   unfold shr; rw [secAt_get hs0]
   exact zat_lt (by omega) (hsh s (mem_get hs0)) _)]
 have hlt := List.idxOf_lt_length_iff.2 hi
 have hget : (ofL l q)[(ofL l q).idxOf i]? = some i := by rw [List.getElem?_eq_getElem hlt, List.getElem_idxOf]
 rw [zat_get (x := shr l hs a i) (by rw [List.getElem?_map, hget]; rfl)]
 unfold shr
 rw [← ha, ih_get hx, idx_of hr hx]
theorem count_le {f g : Nat → Bool} : ∀ (L : List Nat), (∀ i ∈ L, f i = true → g i = true) → (L.filter f).length ≤ (L.filter g).length
 | [], _ => Nat.le_refl _
 | a :: L, h => by
   have ih0 := count_le L fun i hi => h i (by simp [hi])
   cases hf : f a with
   | false =>
     cases hg : g a <;> simp [hf, hg] <;> omega
   | true =>
     have hg := h a (by simp) hf
     simp [hf, hg]; omega
theorem off_corr (hw : WOk w) (hn : w.Setup.N = n) (hr : risA w.Setup.N 0 hs = true) {F : Nat → List Nat} (hF : ∀ i s, l[i]? = some s → SecOk w hs d s (F i)) {q i : Nat} (hq : q ≤ n) (hi : i ∈ ofL l q) {c : Nat} (hcl : c < hs.length)
   (hoff : offB w.Setup.P (F i) (ptsOf hs (recv w.Setup.P l hs (cames w (privL l hs n)) (heards w (saidL l hs n)) q ((ofL l q).idxOf i))) c = true) : ih hs c ∈ w.Corrupted := by
 obtain ⟨s, hs0⟩ := get_some (ofL_mem.1 hi).1
 have hsec := hF i s hs0
 obtain ⟨h1, h2, h3, h4⟩ := dec0.1 hsec.line
 have hsh : ∀ s ∈ l, ∀ y ∈ s.Shares, y < w.Setup.P := fun s hs1 => by
   obtain ⟨j, hj⟩ := List.mem_iff_getElem?.1 hs1
   exact (hF j s hj).lt
 refine Classical.byContradiction fun hh => ?_
 have hpt : (ptsOf hs (recv w.Setup.P l hs (cames w (privL l hs n)) (heards w (saidL l hs n)) q ((ofL l q).idxOf i)))[c]? = some ⟨(ih hs c).toNat, zat (recv w.Setup.P l hs (cames w (privL l hs n)) (heards w (saidL l hs n)) q ((ofL l q).idxOf i)) c⟩ := tab_get _ hcl
 unfold offB at hoff
 rw [px_get hpt, py_get hpt] at hoff
 dsimp only at hoff
 have e1 : zat (recv w.Setup.P l hs (cames w (privL l hs n)) (heards w (saidL l hs n)) q ((ofL l q).idxOf i)) c = zat (secAt l i).Shares c := by
   unfold recv
   rw [zat_get (tab_get _ hcl)]
   exact honest_R hw hn hr hsh hcl hh hq hi
 have e2 := h4 ⟨(ih hs c).toNat, zat s.Shares c⟩ (List.mem_map.2 ⟨c, by unfold hon; rw [List.mem_filter, List.mem_range]; exact ⟨hcl, by simp [hh]⟩, rfl⟩)
 dsimp only at e2
 rw [e1, secAt_get hs0, e2] at hoff
 simp at hoff
theorem dec_of (hw : WOk w) (hn : w.Setup.N = n) (htt : w.Setup.T_ = tt) (hr : risA w.Setup.N 0 hs = true) {F : Nat → List Nat} (hF : ∀ i s, l[i]? = some s → SecOk w hs d s (F i)) {q i : Nat} (hq : q ≤ n) (hi : i ∈ ofL l q) :
   Dec w.Setup.P d tt (ptsOf hs (recv w.Setup.P l hs (cames w (privL l hs n)) (heards w (saidL l hs n)) q ((ofL l q).idxOf i))) (F i) := by
 obtain ⟨s, hs0⟩ := get_some (ofL_mem.1 hi).1
 have hsec := hF i s hs0
 obtain ⟨h1, h2, h3, h4⟩ := dec0.1 hsec.line
 refine ⟨h1, h2, h3, ?_⟩
 have hc := hw.cor
 have hcount : (offL w.Setup.P (F i) (ptsOf hs (recv w.Setup.P l hs (cames w (privL l hs n)) (heards w (saidL l hs n)) q ((ofL l q).idxOf i)))).length ≤ ((List.range hs.length).filter fun c => !decide (ih hs c ∉ w.Corrupted)).length := by
   unfold offL
   have hl : (ptsOf hs (recv w.Setup.P l hs (cames w (privL l hs n)) (heards w (saidL l hs n)) q ((ofL l q).idxOf i))).length = hs.length := tab_len _ _
   rw [hl]
   refine count_le _ fun c hc0 hoff => ?_
   have := off_corr hw hn hr hF hq hi (List.mem_range.1 hc0) hoff
   simp [this]
 have h5 := filter_split (fun c => decide (ih hs c ∉ w.Corrupted)) (List.range hs.length)
 rw [List.length_range] at h5
 have h6 := hon_len (c := w.Corrupted) hr
 unfold hon at h6
 omega
end
noncomputable def chkL (w : TWorld) (hs : List Int) (d : Nat) : List TSecret → Int
 | [] => 0
 | s :: l => if chkC w hs d s = 0 then chkL w hs d l else chkC w hs d s
theorem chkL_ok {w : TWorld} {hs : List Int} {d : Nat} : ∀ {l : List TSecret}, chkL w hs d l = 0 → ∀ s ∈ l, chkC w hs d s = 0
 | a :: l, h, s, hm => by
   simp only [chkL] at h
   by_cases h0 : chkC w hs d a = 0
   · rw [if_pos h0] at h
     rcases List.mem_cons.1 hm with rfl | hm
     · exact h0
     · exact chkL_ok h s hm
   · rw [if_neg h0] at h; exact absurd h h0
def zeroW : TWorld := ⟨⟨0, 0, 0⟩, [], [], [], 0, []⟩
theorem open_Bare_c {l : List TGot} (hl : l.length ≤ 1000000) {K : List TOpened → Prop} (k : K (l.map (·.Opened))) : open_Bare.C l K := by
 refine open_Bare.q ?_
 refine LoopQ.rangeL l.length (fun j s => s = (l.take j).map (·.Opened)) rfl (by omega) ?_ ?_
 · rintro j _ next hj rfl hn
   obtain ⟨x, hx⟩ := get_some hj
   refine ctd (by dsimp only; omega) ⟨by dsimp only; omega, x, hx, AppOk.big (by rw [List.length_append, List.length_map, List.length_take, List.length_singleton]; omega), hn _ ?_⟩
   rw [take_snoc hx, List.map_append, List.map_singleton]
 · rintro _ next rfl
   refine cfd (by dsimp only; omega) ?_
   dsimp only
   rw [List.take_of_length_le (Nat.le_refl _)]; exact k
theorem copyL_same {α : Type} {x s : List α} (h : x.length = s.length) : copyL x s = s := by
 unfold copyL; rw [h, List.take_of_length_le (Nat.le_refl _), List.drop_of_length_le (by omega), List.append_nil]
noncomputable def allC (w : TWorld) (hs : List Int) (d : Int) (l : List TSecret) : Int :=
 if checkW w ≠ 0 then checkW w else if ¬ (risA w.Setup.N 0 hs = true ∧ 4 * w.Setup.T_ + 1 ≤ (hs.length : Int)) then 2 else if d < 0 ∨ d > 2 * w.Setup.T_ then 2 else if l.length > 65536 then 3 else
 if chkL w hs d.toNat l ≠ 0 then chkL w hs d.toNat l else if w.Round + 1 > 1048576 then 8 else 0
structure AllOk (w : TWorld) (hs : List Int) (d n tt : Nat) (l : List TSecret) (F : Nat → List Nat) : Prop where
 wok : WOk w
 en : w.Setup.N = n
 et : w.Setup.T_ = tt
 ris : risA w.Setup.N 0 hs = true
 len : 4 * tt + 1 ≤ hs.length
 ded : d ≤ 2 * tt
 lel : l.length ≤ 65536
 rnd : w.Round + 1 ≤ 1048576
 sec : ∀ i s, l[i]? = some s → SecOk w hs d s (F i)
end Go.Proofs.Ytajdpkinlnaidaa.Pl
end
section
set_option linter.unusedVariables false
set_option linter.unusedSimpArgs false
set_option maxRecDepth 100000
set_option maxHeartbeats 8000000
namespace Go.Proofs.Ytajdpkinlnaidaa.Sh
open Go.Sx
def juntoref04_Line.A : Ann where
 loops := fun i => match i with
   | _ => []
 plans := fun i => match i with
   | _ => .stop
def juntoref04_Line.W (p : Int) (d : Int) (lA : Option Addr) (ln lc : Nat) (H : Heap) (R : Value → Heap → Prop) : Prop :=
 CallH P N.juntoref02_Through [.int .u64 p, .slice lA ln lc] H fun v H_ =>
 ∃ (rA : Option Addr) (rn rc : Nat), v = .slice rA rn rc ∧ R (.tuple #[.slice rA rn rc, .bool (decide (((rn : Nat) : Int) ≤ (IntKind.i64.wrap (d + 1))))]) H_
theorem juntoref04_Line.ok (p : Int) (d : Int) (lA : Option Addr) (ln lc : Nat) (H : Heap) (R : Value → Heap → Prop) (h : juntoref04_Line.W p d lA ln lc H R) : CallH P N.juntoref04_Line [.int .u64 p, .int .i64 d, .slice lA ln lc] H R :=
 okW Try.func25 (by kernel_rfl) Try.ntmps25 juntoref04_Line.A (by kernel_rfl) (by kernel_rfl) h
def juntoref04_Rising.A : Ann where
 loops := fun i => match i with
   | 8198 => [(9, .int .i64)]
   | _ => []
 plans := fun i => match i with
   | _ => .stop
def juntoref04_Rising.W (n : Int) (lA : Option Addr) (ln lc : Nat) (H : Heap) (R : Value → Heap → Prop) : Prop :=
 LoopI (σ := Int) (fun κ => κ 0 H) fun s z H_ next =>
 cond (decide (s < ((ln : Nat) : Int))) (∃ a : Addr, lA = some a ∧ 0 ≤ s ∧ s < ((ln : Nat) : Int) ∧ ∃ x : Int, cellH H_ (a.add (Int.toNat s)) = some (.int .i64 x) ∧ cond (decide (x < 1)) (R (.bool false) H_) (cond (decide (x > n)) (R (.bool false) H_) (cond (decide (s > 0)) (∃ a2 : Addr, lA = some a2 ∧ 0 ≤ (IntKind.i64.wrap (s - 1)) ∧ (IntKind.i64.wrap (s - 1)) < ((ln : Nat) : Int) ∧ ∃ x2 : Int, cellH H_ (a2.add (Int.toNat (IntKind.i64.wrap (s - 1)))) = some (.int .i64 x2) ∧ cond (decide (x2 ≥ x)) (R (.bool false) H_)
  (next (IntKind.i64.wrap (s + 1)) H_)) (next (IntKind.i64.wrap (s + 1)) H_))))
  (R (.bool true) H_)
theorem juntoref04_Rising.ok (n : Int) (lA : Option Addr) (ln lc : Nat) (H : Heap) (R : Value → Heap → Prop) (h : juntoref04_Rising.W n lA ln lc H R) : CallH P N.juntoref04_Rising [.int .i64 n, .slice lA ln lc] H R :=
 okW Try.func57 (by kernel_rfl) Try.ntmps57 juntoref04_Rising.A (by kernel_rfl) (by kernel_rfl) h
def juntoref04_Corrupted.A : Ann where
 loops := fun i => match i with
   | _ => []
 plans := fun i => match i with
   | _ => .stop
def juntoref04_Corrupted.W (s_0 : Int) (s_1 : Int) (s_2 : Int) (lA : Option Addr) (ln lc : Nat) (H : Heap) (R : Value → Heap → Prop) : Prop :=
 NewH (H.push (.cells #[.int .u64 s_0, .int .i64 s_1, .int .i64 s_2] 24 (0, 0))) fun H_ =>
 ∃ x0 : Int, ∃ x1 : Int, ∃ x2 : Int, cellH H_ (Addr.mk H.size 0 none) = some (.int .u64 x0) ∧ cellH H_ (((Addr.mk H.size 0 none)).add 1) = some (.int .i64 x1) ∧ cellH H_ (((Addr.mk H.size 0 none)).add 2) = some (.int .i64 x2) ∧ CallH P N.juntoref04_Setup [.agg #[.int .u64 x0, .int .i64 x1, .int .i64 x2]] H_ fun v H_2 =>
 ∃ r : Int, v = .int .i64 r ∧ cond (r != 0) (R (.int .i64 r) H_2)
  (∃ x : Int, cellH H_2 (((Addr.mk H.size 0 none)).add 2) = some (.int .i64 x) ∧ cond (decide (((ln : Nat) : Int) > x)) (R (.int .i64 2) H_2) (∃ x3 : Int, cellH H_2 (((Addr.mk H.size 0 none)).add 1) = some (.int .i64 x3) ∧ CallH P N.juntoref04_Rising [.int .i64 x3, .slice lA ln lc] H_2 fun v2 H_3 =>
 ∃ r2 : Bool, v2 = .bool r2 ∧ cond (!r2) (R (.int .i64 2) H_3)
  (R (.int .i64 0) H_3)))
theorem juntoref04_Corrupted.ok (s_0 : Int) (s_1 : Int) (s_2 : Int) (lA : Option Addr) (ln lc : Nat) (H : Heap) (R : Value → Heap → Prop) (h : juntoref04_Corrupted.W s_0 s_1 s_2 lA ln lc H R) : CallH P N.juntoref04_Corrupted [.agg #[.int .u64 s_0, .int .i64 s_1, .int .i64 s_2], .slice lA ln lc] H R :=
 okW Try.func78 (by kernel_rfl) Try.ntmps78 juntoref04_Corrupted.A (by kernel_rfl) (by kernel_rfl) h
def juntoref04_Setup.A : Ann where
 loops := fun i => match i with
   | _ => []
 plans := fun i => match i with
   | _ => .stop
def juntoref04_Setup.W (s_0 : Int) (s_1 : Int) (s_2 : Int) (H : Heap) (R : Value → Heap → Prop) : Prop :=
 NewH (H.push (.cells #[.int .u64 s_0, .int .i64 s_1, .int .i64 s_2] 24 (0, 0))) fun H_ =>
 ∃ x : Int, cellH H_ (Addr.mk H.size 0 none) = some (.int .u64 x) ∧ CallH P N.juntoref01_Is [.int .u64 x] H_ fun v H_2 =>
 ∃ r : Bool, v = .bool r ∧ cond (!r) (R (.int .i64 2) H_2) (∃ x2 : Int, cellH H_2 (((Addr.mk H.size 0 none)).add 1) = some (.int .i64 x2) ∧ cond (decide (x2 < 1)) (R (.int .i64 2) H_2) (∃ x3 : Int, cellH H_2 (((Addr.mk H.size 0 none)).add 1) = some (.int .i64 x3) ∧ cond (decide (x3 > 13)) (R (.int .i64 2) H_2) (∃ x4 : Int, cellH H_2 (((Addr.mk H.size 0 none)).add 2) = some (.int .i64 x4) ∧ cond (decide (x4 < 0)) (R (.int .i64 2) H_2) (∃ x5 : Int, cellH H_2 (((Addr.mk H.size 0 none)).add 2) = some (.int .i64 x5) ∧ cond (decide (x5 > 13)) (R (.int .i64 2) H_2) (∃ x6 : Int, cellH H_2 (((Addr.mk H.size 0 none)).add 1) = some (.int .i64 x6) ∧ ∃ x7 : Int, cellH H_2 (((Addr.mk H.size 0 none)).add 2) = some (.int .i64 x7) ∧ cond (decide (x6 < (IntKind.i64.wrap ((IntKind.i64.wrap (4 * x7)) + 1)))) (R (.int .i64 2) H_2) (∃ x8 : Int, cellH H_2 (Addr.mk H.size 0 none) = some (.int .u64 x8) ∧ ∃ x9 : Int, cellH H_2 (((Addr.mk H.size 0 none)).add 1) = some (.int .i64 x9) ∧ cond (decide (x8 ≤ (IntKind.u64.wrap x9))) (R (.int .i64 2) H_2)
  (R (.int .i64 0) H_2)))))))
theorem juntoref04_Setup.ok (s_0 : Int) (s_1 : Int) (s_2 : Int) (H : Heap) (R : Value → Heap → Prop) (h : juntoref04_Setup.W s_0 s_1 s_2 H R) : CallH P N.juntoref04_Setup [.agg #[.int .u64 s_0, .int .i64 s_1, .int .i64 s_2]] H R :=
 okW Try.func80 (by kernel_rfl) Try.ntmps80 juntoref04_Setup.A (by kernel_rfl) (by kernel_rfl) h
end Go.Proofs.Ytajdpkinlnaidaa.Sh
namespace Go.Proofs.Ytajdpkinlnaidaa.Sh
open Go.Sx Go.Lf
def juntoref04_Line.C (p : Nat) (d : Int) (l : (List TPoint)) (K : (List Nat) → Bool → Prop) : Prop :=
 ∀ (Z : Nat → Prop) (H : Heap), ∀ (pv : Int), pv = (p : Int) → ∀ (lA : Option Addr) (ln lc : Nat), ln = l.length → SlF TPoint.L Z H lA lc l → ∀ KK : Value → Heap → Prop,
   (∀ (Z' : Nat → Prop) (H' : Heap), Ext H H' → Old Z H Z' → ∀ (r0 : (List Nat)), ∀ (Y0 : Nat → Prop), (∀ i, Y0 i → H.size ≤ i ∧ ¬ Z' i) → ∀ (Ar0_0 : Option Addr) (nr0_0 cr0_0 : Nat), nr0_0 = r0.length → SlO (rdM u64L) 22 Z' Y0 H' Ar0_0 cr0_0 r0 → ∀ (r1 : Bool), K r0 r1 → KK (.tuple #[.slice Ar0_0 nr0_0 cr0_0, .bool r1]) H') →
   CallH P N.juntoref04_Line [.int .u64 pv, .int .i64 d, .slice lA ln lc] H KK
def juntoref04_Line.Q (p : Nat) (d : Int) (l : (List TPoint)) (K : (List Nat) → Bool → Prop) : Prop :=
 juntoref02_Through.C p l (fun (x : (List Nat)) =>
 K x (decide (((x.length : Nat) : Int) ≤ (IntKind.i64.wrap (d + 1)))))
theorem juntoref04_Line.q {p : Nat} {d : Int} {l : (List TPoint)} {K : (List Nat) → Bool → Prop} (q : juntoref04_Line.Q p d l K) : juntoref04_Line.C p d l K := by
 intro Z H pv he lA ln lc hn f KK hk; cases he; cases hn; apply juntoref04_Line.ok; unfold juntoref04_Line.W; unfold juntoref04_Line.Q at q; obtain ⟨σ, hz, hσ⟩ := tags Z; have hs : Stp ([1] : List Nat) σ H σ H := Stp.refl _ _ _; replace f := f.wide hz; clear hz; refine q (Zt σ) H _ rfl _ _ _ rfl f _ (fun Z2 H_ hE hO x Y hY A n c hn2 f2 q => ?_); obtain ⟨xσ, st, fz, fy⟩ := call1 hE hO σ 1 (fun _ h => h) hY; replace f2 := f2.keep fz fy; cases hn2; refine ⟨_, _, _, rfl, ?_⟩; replace hs := hs.trans st; exact hk (Zt xσ) _ (hs.ext hσ) (hs.old hσ) _ (Yt xσ 1) (hs.fresh hσ) _ _ _ rfl f2 _ q
def juntoref04_Setup.C (s : TSetup) (K : Int → Prop) : Prop :=
 ∀ (Z : Nat → Prop) (H : Heap), ∀ (sv : Int), sv = (s.P : Int) → ∀ KK : Value → Heap → Prop,
   (∀ (Z' : Nat → Prop) (H' : Heap), Ext H H' → Old Z H Z' → ∀ (r0 : Int), K r0 → KK (.int .i64 r0) H') →
   CallH P N.juntoref04_Setup [.agg #[.int .u64 sv, .int .i64 s.N, .int .i64 s.T_]] H KK
def juntoref04_Setup.Q (s : TSetup) (K : Int → Prop) : Prop :=
 juntoref01_Is.C s.P (fun (x : Bool) =>
 cond (!x) (K 2)
  (cond (decide (s.N < 1)) (K 2)
  (cond (decide (s.N > 13)) (K 2)
  (cond (decide (s.T_ < 0)) (K 2)
  (cond (decide (s.T_ > 13)) (K 2)
  (cond (decide (s.N < (IntKind.i64.wrap ((IntKind.i64.wrap (4 * s.T_)) + 1)))) (K 2)
  (cond (decide ((s.P : Int) ≤ (IntKind.u64.wrap s.N))) (K 2)
  (K 0))))))))
theorem juntoref04_Setup.q {s : TSetup} {K : Int → Prop} (q : juntoref04_Setup.Q s K) : juntoref04_Setup.C s K := by
 intro Z H sv he KK hk; cases he; apply juntoref04_Setup.ok; unfold juntoref04_Setup.W; unfold juntoref04_Setup.Q at q; obtain ⟨σ, hz, hσ⟩ := tags Z; have hs : Stp ([] : List Nat) σ H σ H := Stp.refl _ _ _; clear hz; refine NewH.mk fun H_ e => ?_; obtain ⟨xσ, st, b⟩ := BoxF.new σ 0 e; refine ⟨_, b.cell0, ?_⟩; refine q (Zt xσ) H_ _ rfl _ (fun Z2 H_2 hE hO x q => ?_); obtain ⟨xσ2, st2⟩ := call0 hE xσ; refine ⟨_, rfl, ?_⟩; refine condI (fun q => ?_) (fun q => ?_) q
 · replace hs := hs.trans (st.then st2); exact hk (Zt xσ2) _ (hs.ext hσ) (hs.old hσ) _ q
 replace b := b.step st2; refine ⟨_, b.cell 1 rfl, ?_⟩; refine condI (fun q => ?_) (fun q => ?_) q
 · replace hs := hs.trans (st.then st2); exact hk (Zt xσ2) _ (hs.ext hσ) (hs.old hσ) _ q
 refine ⟨_, b.cell 1 rfl, ?_⟩; refine condI (fun q => ?_) (fun q => ?_) q
 · replace hs := hs.trans (st.then st2); exact hk (Zt xσ2) _ (hs.ext hσ) (hs.old hσ) _ q
 refine ⟨_, b.cell 2 rfl, ?_⟩; refine condI (fun q => ?_) (fun q => ?_) q
 · replace hs := hs.trans (st.then st2); exact hk (Zt xσ2) _ (hs.ext hσ) (hs.old hσ) _ q
 refine ⟨_, b.cell 2 rfl, ?_⟩; refine condI (fun q => ?_) (fun q => ?_) q
 · replace hs := hs.trans (st.then st2); exact hk (Zt xσ2) _ (hs.ext hσ) (hs.old hσ) _ q
 refine ⟨_, b.cell 1 rfl, ?_⟩; refine ⟨_, b.cell 2 rfl, ?_⟩; refine condI (fun q => ?_) (fun q => ?_) q
 · replace hs := hs.trans (st.then st2); exact hk (Zt xσ2) _ (hs.ext hσ) (hs.old hσ) _ q
 refine ⟨_, b.cell0, ?_⟩; refine ⟨_, b.cell 1 rfl, ?_⟩; refine condI (fun q => ?_) (fun q => ?_) q
 · replace hs := hs.trans (st.then st2); exact hk (Zt xσ2) _ (hs.ext hσ) (hs.old hσ) _ q
 replace hs := hs.trans (st.then st2); exact hk (Zt xσ2) _ (hs.ext hσ) (hs.old hσ) _ q
def juntoref04_Rising.C (n : Int) (l : (List Int)) (K : Bool → Prop) : Prop :=
 ∀ (Z : Nat → Prop) (H : Heap), ∀ (lA : Option Addr) (ln lc : Nat), ln = l.length → SlF i64L Z H lA lc l → ∀ KK : Value → Heap → Prop,
   (∀ (Z' : Nat → Prop) (H' : Heap), Ext H H' → Old Z H Z' → ∀ (r0 : Bool), K r0 → KK (.bool r0) H') →
   CallH P N.juntoref04_Rising [.int .i64 n, .slice lA ln lc] H KK
def juntoref04_Rising.Q (n : Int) (l : (List Int)) (K : Bool → Prop) : Prop :=
 LoopQ (τ := Int) 0 fun t nextQ =>
 cond (decide (t < ((l.length : Nat) : Int))) (0 ≤ t ∧ ∃ x : Int, l[Int.toNat t]? = some x ∧ cond (decide (x < 1)) (K false)
  (cond (decide (x > n)) (K false)
  (cond (decide (t > 0)) (0 ≤ (IntKind.i64.wrap (t - 1)) ∧ ∃ x2 : Int, l[Int.toNat (IntKind.i64.wrap (t - 1))]? = some x2 ∧ cond (decide (x2 ≥ x)) (K false)
  (nextQ (IntKind.i64.wrap (t + 1))))
  (nextQ (IntKind.i64.wrap (t + 1))))))
  (K true)
theorem juntoref04_Rising.q {n : Int} {l : (List Int)} {K : Bool → Prop} (q : juntoref04_Rising.Q n l K) : juntoref04_Rising.C n l K := by
 intro Z H lA ln lc hn f KK hk; cases hn; apply juntoref04_Rising.ok; unfold juntoref04_Rising.W; unfold juntoref04_Rising.Q at q; obtain ⟨σ, hz, hσ⟩ := tags Z; have hs : Stp ([] : List Nat) σ H σ H := Stp.refl _ _ _; replace f := f.wide hz; clear hz; refine LoopI.ofQ q (fun t_ s_ hp_ => ∃ σ_, Stp [] σ H σ_ hp_ ∧ t_ = s_) (fun h k => h _ _ k) ⟨_, Stp.refl _ _ _, rfl⟩ ?_; rintro t _ _ H_ next nextQ ⟨xσ, st, rfl⟩ q hnext; (try dsimp only at q ⊢); have sl0 := st; refine condJ (fun q => ?_) (fun q => ?_) q
 · replace hs := hs.trans st; exact hk (Zt xσ) _ (hs.ext hσ) (hs.old hσ) _ q
 obtain ⟨h0, x, hx, q⟩ := q; replace f := f.step st; obtain ⟨a, ha, hi⟩ := f.addr h0 hx rfl; refine ⟨a, ha, hi.1, hi.2, ?_⟩; have hc := f.ldi ha h0 hx; refine ⟨_, hc.val, ?_⟩; refine condI (fun q => ?_) (fun q => ?_) q
 · replace hs := hs.trans st; exact hk (Zt xσ) _ (hs.ext hσ) (hs.old hσ) _ q
 refine condI (fun q => ?_) (fun q => ?_) q
 · replace hs := hs.trans st; exact hk (Zt xσ) _ (hs.ext hσ) (hs.old hσ) _ q
 refine condJ (fun q => ?_) (fun q => ?_) q
 · exact hnext (IntKind.i64.wrap (t + 1)) _ _ ⟨_, sl0, rfl⟩ q
 obtain ⟨h02, x2, hx2, q⟩ := q; obtain ⟨a2, ha2, hi2⟩ := f.addr h02 hx2 rfl; refine ⟨a2, ha2, hi2.1, hi2.2, ?_⟩; have hc2 := f.ldi ha2 h02 hx2; refine ⟨_, hc2.val, ?_⟩; refine condI (fun q => ?_) (fun q => ?_) q
 · replace hs := hs.trans st; exact hk (Zt xσ) _ (hs.ext hσ) (hs.old hσ) _ q
 exact hnext (IntKind.i64.wrap (t + 1)) _ _ ⟨_, sl0, rfl⟩ q
def juntoref04_Corrupted.C (s : TSetup) (l : (List Int)) (K : Int → Prop) : Prop :=
 ∀ (Z : Nat → Prop) (H : Heap), ∀ (sv : Int), sv = (s.P : Int) → ∀ (lA : Option Addr) (ln lc : Nat), ln = l.length → SlF i64L Z H lA lc l → ∀ KK : Value → Heap → Prop,
   (∀ (Z' : Nat → Prop) (H' : Heap), Ext H H' → Old Z H Z' → ∀ (r0 : Int), K r0 → KK (.int .i64 r0) H') →
   CallH P N.juntoref04_Corrupted [.agg #[.int .u64 sv, .int .i64 s.N, .int .i64 s.T_], .slice lA ln lc] H KK
def juntoref04_Corrupted.Q (s : TSetup) (l : (List Int)) (K : Int → Prop) : Prop :=
 juntoref04_Setup.C s (fun (x : Int) =>
 cond (x != 0) (K x)
  (cond (decide (((l.length : Nat) : Int) > s.T_)) (K 2)
  (juntoref04_Rising.C s.N l (fun (x2 : Bool) =>
 cond (!x2) (K 2)
  (K 0)))))
theorem juntoref04_Corrupted.q {s : TSetup} {l : (List Int)} {K : Int → Prop} (q : juntoref04_Corrupted.Q s l K) : juntoref04_Corrupted.C s l K := by
 intro Z H sv he lA ln lc hn f KK hk; cases he; cases hn; apply juntoref04_Corrupted.ok; unfold juntoref04_Corrupted.W; unfold juntoref04_Corrupted.Q at q; obtain ⟨σ, hz, hσ⟩ := tags Z; have hs : Stp ([] : List Nat) σ H σ H := Stp.refl _ _ _; replace f := f.wide hz; clear hz; refine NewH.mk fun H_ e => ?_; obtain ⟨xσ, st, b⟩ := BoxF.new σ 0 e; refine ⟨_, _, _, b.cell0, b.cell 1 rfl, b.cell 2 rfl, ?_⟩; refine q (Zt xσ) H_ _ rfl _ (fun Z2 H_2 hE hO x q => ?_); obtain ⟨xσ2, st2⟩ := call0 hE xσ; refine ⟨_, rfl, ?_⟩; refine condI (fun q => ?_) (fun q => ?_) q
 · replace hs := hs.trans (st.then st2); exact hk (Zt xσ2) _ (hs.ext hσ) (hs.old hσ) _ q
 replace b := b.step st2; refine ⟨_, b.cell 2 rfl, ?_⟩; refine condI (fun q => ?_) (fun q => ?_) q
 · replace hs := hs.trans (st.then st2); exact hk (Zt xσ2) _ (hs.ext hσ) (hs.old hσ) _ q
 refine ⟨_, b.cell 1 rfl, ?_⟩; replace f := f.step (st.then st2); refine q (Zt xσ2) H_2 _ _ _ rfl f _ (fun Z3 H_3 hE2 hO2 x2 q => ?_); obtain ⟨xσ3, st3⟩ := call0 hE2 xσ2; refine ⟨_, rfl, ?_⟩; refine condI (fun q => ?_) (fun q => ?_) q
 · replace hs := hs.trans (st.then (st2.then st3)); exact hk (Zt xσ3) _ (hs.ext hσ) (hs.old hσ) _ q
 replace hs := hs.trans (st.then (st2.then st3)); exact hk (Zt xσ3) _ (hs.ext hσ) (hs.old hσ) _ q
end Go.Proofs.Ytajdpkinlnaidaa.Sh
end
section
set_option linter.unusedVariables false
set_option linter.unusedSimpArgs false
set_option maxRecDepth 100000
set_option maxHeartbeats 8000000
namespace Go.Proofs.Ytajdpkinlnaidaa.Sh
open Go.Sx
def juntoref17_Is.A : Ann where
 loops := fun i => match i with
   | 8198 => [(9, .int .i64)]
   | _ => []
 plans := fun i => match i with
   | _ => .stop
def juntoref17_Is.W (lA : Option Addr) (ln lc : Nat) (party : Int) (H : Heap) (R : Value → Heap → Prop) : Prop :=
 LoopI (σ := Int) (fun κ => κ 0 H) fun s z H_ next =>
 cond (decide (s < ((ln : Nat) : Int))) (∃ a : Addr, lA = some a ∧ 0 ≤ s ∧ s < ((ln : Nat) : Int) ∧ ∃ x : Int, cellH H_ (a.add (Int.toNat s)) = some (.int .i64 x) ∧ cond (x == party) (R (.bool true) H_)
  (next (IntKind.i64.wrap (s + 1)) H_))
  (R (.bool false) H_)
theorem juntoref17_Is.ok (lA : Option Addr) (ln lc : Nat) (party : Int) (H : Heap) (R : Value → Heap → Prop) (h : juntoref17_Is.W lA ln lc party H R) : CallH P N.juntoref17_Is [.slice lA ln lc, .int .i64 party] H R :=
 okW Try.func14 (by kernel_rfl) Try.ntmps14 juntoref17_Is.A (by kernel_rfl) (by kernel_rfl) h
def juntoref17_Check.A : Ann where
 loops := fun i => match i with
   | 36881 => [(38, .int .i64)]
   | _ => []
 plans := fun i => match i with
   | 15 => .first 0 (.first 2 (.read 1 (.first 3 (.read 4 (.alt 5 [1, 4] (.done) (.stop))))))
   | _ => .stop
def juntoref17_Check.W (w_0 : Int) (w_1 : Int) (w_2 : Int) (w_3A : Option Addr) (w_3n w_3c : Nat) (w_4A : Option Addr) (w_4n w_4c : Nat) (w_5A : Option Addr) (w_5n w_5c : Nat) (w_6 : Int) (w_7A : Option Addr) (w_7n w_7c : Nat) (H : Heap) (R : Value → Heap → Prop) : Prop :=
 NewH (H.push (.cells #[.int .u64 w_0, .int .i64 w_1, .int .i64 w_2, .slice w_3A w_3n w_3c, .slice w_4A w_4n w_4c, .slice w_5A w_5n w_5c, .int .i64 w_6, .slice w_7A w_7n w_7c] 30 (0, 0))) fun H_ =>
 ∃ x0 : Int, ∃ x1 : Int, ∃ x2 : Int, cellH H_ (Addr.mk H.size 0 none) = some (.int .u64 x0) ∧ cellH H_ (((Addr.mk H.size 0 none)).add 1) = some (.int .i64 x1) ∧ cellH H_ (((Addr.mk H.size 0 none)).add 2) = some (.int .i64 x2) ∧ ∃ (xA : Option Addr) (xn xc : Nat), cellH H_ (((Addr.mk H.size 0 none)).add 3) = some (.slice xA xn xc) ∧ CallH P N.juntoref04_Corrupted [.agg #[.int .u64 x0, .int .i64 x1, .int .i64 x2], .slice xA xn xc] H_ fun v H_2 =>
 ∃ r : Int, v = .int .i64 r ∧ cond (r != 0) (R (.int .i64 r) H_2)
  (∃ (xA2 : Option Addr) (xn2 xc2 : Nat), cellH H_2 (((Addr.mk H.size 0 none)).add 5) = some (.slice xA2 xn2 xc2) ∧ ∃ x : Int, cellH H_2 (((Addr.mk H.size 0 none)).add 1) = some (.int .i64 x) ∧ cond (((xn2 : Nat) : Int) != x) (R (.int .i64 2) H_2) (∃ x3 : Int, cellH H_2 (((Addr.mk H.size 0 none)).add 6) = some (.int .i64 x3) ∧ cond (decide (x3 < 0)) (R (.int .i64 2) H_2) (∃ x4 : Int, cellH H_2 (((Addr.mk H.size 0 none)).add 6) = some (.int .i64 x4) ∧ cond (decide (x4 > 1048576)) (R (.int .i64 2) H_2)
  (∃ (xA3 : Option Addr) (xn3 xc3 : Nat), cellH H_2 (((Addr.mk H.size 0 none)).add 4) = some (.slice xA3 xn3 xc3) ∧ cond (decide (((xn3 : Nat) : Int) > 65536)) (R (.int .i64 3) H_2)
  (∃ (xA4 : Option Addr) (xn4 xc4 : Nat), cellH H_2 (((Addr.mk H.size 0 none)).add 4) = some (.slice xA4 xn4 xc4) ∧ LoopI (σ := Int) (fun κ => κ 0 H_2) fun s z H_3 next =>
 cond (decide (s < ((xn4 : Nat) : Int))) (∃ a : Addr, xA4 = some a ∧ 0 ≤ s ∧ s < ((xn4 : Nat) : Int) ∧ ∃ x02 : Int, ∃ x12 : Int, ∃ x22 : Int, ∃ x32 : Bool, ∃ (x4A : Option Addr) (x4n x4c : Nat), cellH H_3 (a.add ((Int.toNat s) * 5)) = some (.int .i64 x02) ∧ cellH H_3 ((a.add ((Int.toNat s) * 5)).add 1) = some (.int .i64 x12) ∧ cellH H_3 ((a.add ((Int.toNat s) * 5)).add 2) = some (.int .i64 x22) ∧ cellH H_3 ((a.add ((Int.toNat s) * 5)).add 3) = some (.bool x32) ∧ cellH H_3 ((a.add ((Int.toNat s) * 5)).add 4) = some (.slice x4A x4n x4c) ∧ NewH (H_3.push (.cells #[.int .i64 0, .int .i64 0, .int .i64 0, .bool false, .slice none 0 0] 67 (0, 0))) fun H_4 =>
 MayWrite H_4 (Addr.mk H_3.size 0 none) 5 ∧ NewH (setH (setH (setH (setH (setH H_4 (Addr.mk H_3.size 0 none) (.int .i64 x02)) (((Addr.mk H_3.size 0 none)).add 1) (.int .i64 x12)) (((Addr.mk H_3.size 0 none)).add 2) (.int .i64 x22)) (((Addr.mk H_3.size 0 none)).add 3) (.bool x32)) (((Addr.mk H_3.size 0 none)).add 4) (.slice x4A x4n x4c)) fun H_5 =>
 ∃ (xA5 : Option Addr) (xn5 xc5 : Nat), cellH H_5 (((Addr.mk H.size 0 none)).add 3) = some (.slice xA5 xn5 xc5) ∧ ∃ x5 : Int, cellH H_5 (((Addr.mk H_3.size 0 none)).add 1) = some (.int .i64 x5) ∧ CallH P N.juntoref17_Is [.slice xA5 xn5 xc5, .int .i64 x5] H_5 fun v2 H_6 =>
 ∃ r2 : Bool, v2 = .bool r2 ∧ cond (!r2) (R (.int .i64 2) H_6) (∃ x6 : Int, cellH H_6 (((Addr.mk H_3.size 0 none)).add 2) = some (.int .i64 x6) ∧ cond (decide (x6 < 0)) (R (.int .i64 2) H_6) (∃ x7 : Int, cellH H_6 (((Addr.mk H_3.size 0 none)).add 2) = some (.int .i64 x7) ∧ ∃ x8 : Int, cellH H_6 (((Addr.mk H.size 0 none)).add 1) = some (.int .i64 x8) ∧ cond (decide (x7 > x8)) (R (.int .i64 2) H_6) (∃ x9 : Int, cellH H_6 (((Addr.mk H_3.size 0 none)).add 2) = some (.int .i64 x9) ∧ ∃ x10 : Int, cellH H_6 (((Addr.mk H_3.size 0 none)).add 1) = some (.int .i64 x10) ∧ cond (x9 == x10) (R (.int .i64 2) H_6) (∃ x11 : Int, cellH H_6 (Addr.mk H_3.size 0 none) = some (.int .i64 x11) ∧ cond (decide (x11 < 1)) (R (.int .i64 2) H_6)
  (∃ (xA6 : Option Addr) (xn6 xc6 : Nat), cellH H_6 (((Addr.mk H_3.size 0 none)).add 4) = some (.slice xA6 xn6 xc6) ∧ cond (decide (((xn6 : Nat) : Int) > 65536)) (R (.int .i64 3) H_6)
  (∃ (xA7 : Option Addr) (xn7 xc7 : Nat), cellH H_6 (((Addr.mk H.size 0 none)).add 4) = some (.slice xA7 xn7 xc7) ∧ 0 ≤ s ∧ s ≤ ((xc7 : Nat) : Int) ∧ ∃ x03 : Int, ∃ x13 : Int, ∃ x23 : Int, ∃ x33 : Bool, ∃ (x4A2 : Option Addr) (x4n2 x4c2 : Nat), cellH H_6 (Addr.mk H_3.size 0 none) = some (.int .i64 x03) ∧ cellH H_6 (((Addr.mk H_3.size 0 none)).add 1) = some (.int .i64 x13) ∧ cellH H_6 (((Addr.mk H_3.size 0 none)).add 2) = some (.int .i64 x23) ∧ cellH H_6 (((Addr.mk H_3.size 0 none)).add 3) = some (.bool x33) ∧ cellH H_6 (((Addr.mk H_3.size 0 none)).add 4) = some (.slice x4A2 x4n2 x4c2) ∧ CallH P N.juntoref17_Ahead [.slice xA7 (Int.toNat s) xc7, .agg #[.int .i64 x03, .int .i64 x13, .int .i64 x23, .bool x33, .slice x4A2 x4n2 x4c2]] H_6 fun v3 H_7 =>
 ∃ r3 : Bool, v3 = .bool r3 ∧ cond r3 (R (.int .i64 6) H_7)
  (next (IntKind.i64.wrap (s + 1)) H_7))))))))
  (R (.int .i64 0) H_3))))))
theorem juntoref17_Check.ok (w_0 : Int) (w_1 : Int) (w_2 : Int) (w_3A : Option Addr) (w_3n w_3c : Nat) (w_4A : Option Addr) (w_4n w_4c : Nat) (w_5A : Option Addr) (w_5n w_5c : Nat) (w_6 : Int) (w_7A : Option Addr) (w_7n w_7c : Nat) (H : Heap) (R : Value → Heap → Prop) (h : juntoref17_Check.W w_0 w_1 w_2 w_3A w_3n w_3c w_4A w_4n w_4c w_5A w_5n w_5c w_6 w_7A w_7n w_7c H R) : CallH P N.juntoref17_Check [.agg #[.int .u64 w_0, .int .i64 w_1, .int .i64 w_2, .slice w_3A w_3n w_3c, .slice w_4A w_4n w_4c, .slice w_5A w_5n w_5c, .int .i64 w_6, .slice w_7A w_7n w_7c]] H R :=
 okW Try.func54 (by kernel_rfl) Try.ntmps54 juntoref17_Check.A (by kernel_rfl) (by kernel_rfl) h
def juntoref17_Group.A : Ann where
 loops := fun i => match i with
   | _ => []
 plans := fun i => match i with
   | _ => .stop
def juntoref17_Group.W (s_0 : Int) (s_1 : Int) (s_2 : Int) (lA : Option Addr) (ln lc : Nat) (H : Heap) (R : Value → Heap → Prop) : Prop :=
 NewH (H.push (.cells #[.int .u64 s_0, .int .i64 s_1, .int .i64 s_2] 24 (0, 0))) fun H_ =>
 ∃ x0 : Int, ∃ x1 : Int, ∃ x2 : Int, cellH H_ (Addr.mk H.size 0 none) = some (.int .u64 x0) ∧ cellH H_ (((Addr.mk H.size 0 none)).add 1) = some (.int .i64 x1) ∧ cellH H_ (((Addr.mk H.size 0 none)).add 2) = some (.int .i64 x2) ∧ CallH P N.juntoref04_Setup [.agg #[.int .u64 x0, .int .i64 x1, .int .i64 x2]] H_ fun v H_2 =>
 ∃ r : Int, v = .int .i64 r ∧ cond (r != 0) (R (.int .i64 r) H_2)
  (∃ x : Int, cellH H_2 (((Addr.mk H.size 0 none)).add 1) = some (.int .i64 x) ∧ CallH P N.juntoref04_Rising [.int .i64 x, .slice lA ln lc] H_2 fun v2 H_3 =>
 ∃ r2 : Bool, v2 = .bool r2 ∧ cond (!r2) (R (.int .i64 2) H_3) (∃ x3 : Int, cellH H_3 (((Addr.mk H.size 0 none)).add 2) = some (.int .i64 x3) ∧ cond (decide (((ln : Nat) : Int) < (IntKind.i64.wrap ((IntKind.i64.wrap (4 * x3)) + 1)))) (R (.int .i64 2) H_3)
  (R (.int .i64 0) H_3)))
theorem juntoref17_Group.ok (s_0 : Int) (s_1 : Int) (s_2 : Int) (lA : Option Addr) (ln lc : Nat) (H : Heap) (R : Value → Heap → Prop) (h : juntoref17_Group.W s_0 s_1 s_2 lA ln lc H R) : CallH P N.juntoref17_Group [.agg #[.int .u64 s_0, .int .i64 s_1, .int .i64 s_2], .slice lA ln lc] H R :=
 okW Try.func55 (by kernel_rfl) Try.ntmps55 juntoref17_Group.A (by kernel_rfl) (by kernel_rfl) h
def juntoref17_Ahead.A : Ann where
 loops := fun i => match i with
   | 8198 => [(9, .int .i64)]
   | _ => []
 plans := fun i => match i with
   | _ => .stop
def juntoref17_Ahead.W (lA : Option Addr) (ln lc : Nat) (a_0 : Int) (a_1 : Int) (a_2 : Int) (a_3 : Bool) (a_4A : Option Addr) (a_4n a_4c : Nat) (H : Heap) (R : Value → Heap → Prop) : Prop :=
 NewH (H.push (.cells #[.int .i64 a_0, .int .i64 a_1, .int .i64 a_2, .bool a_3, .slice a_4A a_4n a_4c] 67 (0, 0))) fun H_ =>
 LoopI (σ := Int) (fun κ => κ 0 H_) fun s z H_2 next =>
 cond (decide (s < ((ln : Nat) : Int))) (∃ a : Addr, lA = some a ∧ 0 ≤ s ∧ s < ((ln : Nat) : Int) ∧ ∃ x0 : Int, ∃ x1 : Int, ∃ x2 : Int, ∃ x3 : Bool, ∃ (x4A : Option Addr) (x4n x4c : Nat), cellH H_2 (a.add ((Int.toNat s) * 5)) = some (.int .i64 x0) ∧ cellH H_2 ((a.add ((Int.toNat s) * 5)).add 1) = some (.int .i64 x1) ∧ cellH H_2 ((a.add ((Int.toNat s) * 5)).add 2) = some (.int .i64 x2) ∧ cellH H_2 ((a.add ((Int.toNat s) * 5)).add 3) = some (.bool x3) ∧ cellH H_2 ((a.add ((Int.toNat s) * 5)).add 4) = some (.slice x4A x4n x4c) ∧ NewH (H_2.push (.cells #[.int .i64 0, .int .i64 0, .int .i64 0, .bool false, .slice none 0 0] 67 (0, 0))) fun H_3 =>
 MayWrite H_3 (Addr.mk H_2.size 0 none) 5 ∧ NewH (setH (setH (setH (setH (setH H_3 (Addr.mk H_2.size 0 none) (.int .i64 x0)) (((Addr.mk H_2.size 0 none)).add 1) (.int .i64 x1)) (((Addr.mk H_2.size 0 none)).add 2) (.int .i64 x2)) (((Addr.mk H_2.size 0 none)).add 3) (.bool x3)) (((Addr.mk H_2.size 0 none)).add 4) (.slice x4A x4n x4c)) fun H_4 =>
 ∃ x : Int, cellH H_4 (Addr.mk H.size 0 none) = some (.int .i64 x) ∧ ∃ x4 : Int, cellH H_4 (Addr.mk H_2.size 0 none) = some (.int .i64 x4) ∧ cond (x == x4) (∃ x5 : Int, cellH H_4 (((Addr.mk H.size 0 none)).add 1) = some (.int .i64 x5) ∧ ∃ x6 : Int, cellH H_4 (((Addr.mk H_2.size 0 none)).add 1) = some (.int .i64 x6) ∧ cond (x5 == x6) (∃ x7 : Int, cellH H_4 (((Addr.mk H.size 0 none)).add 2) = some (.int .i64 x7) ∧ ∃ x8 : Int, cellH H_4 (((Addr.mk H_2.size 0 none)).add 2) = some (.int .i64 x8) ∧ cond (x7 == x8) (R (.bool true) H_4)
  (next (IntKind.i64.wrap (s + 1)) H_4)) (next (IntKind.i64.wrap (s + 1)) H_4)) (next (IntKind.i64.wrap (s + 1)) H_4))
  (R (.bool false) H_2)
theorem juntoref17_Ahead.ok (lA : Option Addr) (ln lc : Nat) (a_0 : Int) (a_1 : Int) (a_2 : Int) (a_3 : Bool) (a_4A : Option Addr) (a_4n a_4c : Nat) (H : Heap) (R : Value → Heap → Prop) (h : juntoref17_Ahead.W lA ln lc a_0 a_1 a_2 a_3 a_4A a_4n a_4c H R) : CallH P N.juntoref17_Ahead [.slice lA ln lc, .agg #[.int .i64 a_0, .int .i64 a_1, .int .i64 a_2, .bool a_3, .slice a_4A a_4n a_4c]] H R :=
 okW Try.func79 (by kernel_rfl) Try.ntmps79 juntoref17_Ahead.A (by kernel_rfl) (by kernel_rfl) h
end Go.Proofs.Ytajdpkinlnaidaa.Sh
namespace Go.Proofs.Ytajdpkinlnaidaa.Sh
open Go.Sx Go.Lf
def juntoref17_Is.C (l : (List Int)) (party : Int) (K : Bool → Prop) : Prop :=
 ∀ (Z : Nat → Prop) (H : Heap), ∀ (lA : Option Addr) (ln lc : Nat), ln = l.length → SlF i64L Z H lA lc l → ∀ KK : Value → Heap → Prop,
   (∀ (Z' : Nat → Prop) (H' : Heap), Ext H H' → Old Z H Z' → ∀ (r0 : Bool), K r0 → KK (.bool r0) H') →
   CallH P N.juntoref17_Is [.slice lA ln lc, .int .i64 party] H KK
def juntoref17_Is.Q (l : (List Int)) (party : Int) (K : Bool → Prop) : Prop :=
 LoopQ (τ := Int) 0 fun t nextQ =>
 cond (decide (t < ((l.length : Nat) : Int))) (0 ≤ t ∧ ∃ x : Int, l[Int.toNat t]? = some x ∧ cond (x == party) (K true)
  (nextQ (IntKind.i64.wrap (t + 1))))
  (K false)
theorem juntoref17_Is.q {l : (List Int)} {party : Int} {K : Bool → Prop} (q : juntoref17_Is.Q l party K) : juntoref17_Is.C l party K := by
 intro Z H lA ln lc hn f KK hk; cases hn; apply juntoref17_Is.ok; unfold juntoref17_Is.W; unfold juntoref17_Is.Q at q; obtain ⟨σ, hz, hσ⟩ := tags Z; have hs : Stp ([] : List Nat) σ H σ H := Stp.refl _ _ _; replace f := f.wide hz; clear hz; refine LoopI.ofQ q (fun t_ s_ hp_ => ∃ σ_, Stp [] σ H σ_ hp_ ∧ t_ = s_) (fun h k => h _ _ k) ⟨_, Stp.refl _ _ _, rfl⟩ ?_; rintro t _ _ H_ next nextQ ⟨xσ, st, rfl⟩ q hnext; (try dsimp only at q ⊢); have sl0 := st; refine condJ (fun q => ?_) (fun q => ?_) q
 · replace hs := hs.trans st; exact hk (Zt xσ) _ (hs.ext hσ) (hs.old hσ) _ q
 obtain ⟨h0, x, hx, q⟩ := q; replace f := f.step st; obtain ⟨a, ha, hi⟩ := f.addr h0 hx rfl; refine ⟨a, ha, hi.1, hi.2, ?_⟩; have hc := f.ldi ha h0 hx; refine ⟨_, hc.val, ?_⟩; refine condI (fun q => ?_) (fun q => ?_) q
 · replace hs := hs.trans st; exact hk (Zt xσ) _ (hs.ext hσ) (hs.old hσ) _ q
 exact hnext (IntKind.i64.wrap (t + 1)) _ _ ⟨_, sl0, rfl⟩ q
def juntoref17_Ahead.C (l : (List TAct)) (a : TAct) (K : Bool → Prop) : Prop :=
 ∀ (Z : Nat → Prop) (H : Heap), ∀ (lA : Option Addr) (ln lc : Nat), ln = l.length → SlF TAct.L Z H lA lc l → ∀ (aA : Option Addr) (an ac : Nat), an = a.Data.length → SlF u64L Z H aA ac a.Data → ∀ KK : Value → Heap → Prop,
   (∀ (Z' : Nat → Prop) (H' : Heap), Ext H H' → Old Z H Z' → ∀ (r0 : Bool), K r0 → KK (.bool r0) H') →
   CallH P N.juntoref17_Ahead [.slice lA ln lc, .agg #[.int .i64 a.Round, .int .i64 a.From, .int .i64 a.To, .bool a.Silent, .slice aA an ac]] H KK
def juntoref17_Ahead.Q (l : (List TAct)) (a : TAct) (K : Bool → Prop) : Prop :=
 LoopQ (τ := Int) 0 fun t nextQ =>
 cond (decide (t < ((l.length : Nat) : Int))) (0 ≤ t ∧ ∃ x : TAct, l[Int.toNat t]? = some x ∧ cond (a.Round == x.Round) (cond (a.From == x.From) (cond (a.To == x.To) (K true)
  (nextQ (IntKind.i64.wrap (t + 1))))
  (nextQ (IntKind.i64.wrap (t + 1))))
  (nextQ (IntKind.i64.wrap (t + 1))))
  (K false)
theorem juntoref17_Ahead.q {l : (List TAct)} {a : TAct} {K : Bool → Prop} (q : juntoref17_Ahead.Q l a K) : juntoref17_Ahead.C l a K := by
 intro Z H lA ln lc hn f aA an ac hn2 f2 KK hk; cases hn; cases hn2; apply juntoref17_Ahead.ok; unfold juntoref17_Ahead.W; unfold juntoref17_Ahead.Q at q; obtain ⟨σ, hz, hσ⟩ := tags Z; have hs : Stp ([1] : List Nat) σ H σ H := Stp.refl _ _ _; replace f := f.wide hz; replace f2 := f2.wide hz; clear hz; refine NewH.mk fun H_ e => ?_; obtain ⟨xσ, st, b⟩ := BoxF.new σ 0 e; refine LoopI.ofQ q (fun t_ s_ hp_ => ∃ σ_, Stp [1] xσ H_ σ_ hp_ ∧ t_ = s_) (fun h k => h _ _ k) ⟨_, Stp.refl _ _ _, rfl⟩ ?_; rintro t _ _ H_2 next nextQ ⟨xσ2, st2, rfl⟩ q hnext; (try dsimp only at q ⊢); have sl0 := st2; refine condJ (fun q => ?_) (fun q => ?_) q
 · replace hs := hs.trans (st.then st2); exact hk (Zt xσ2) _ (hs.ext hσ) (hs.old hσ) _ q
 obtain ⟨h0, x, hx, q⟩ := q; replace f := f.step (st.then st2); obtain ⟨a2, ha, hi⟩ := f.addr h0 hx rfl; refine ⟨a2, ha, hi.1, hi.2, ?_⟩; obtain ⟨cs, hr, hc⟩ := f.ldN (k := 5) rfl ha h0 hx; obtain ⟨A, c, rfl, f3⟩ := hr; have hc2 := hc 0 _ rfl; have hc3 := hc 1 _ rfl; have hc4 := hc 2 _ rfl; have hc5 := hc 3 _ rfl; have hc6 := hc 4 _ rfl; refine ⟨_, _, _, _, _, _, _, hc2.val, hc3.val, hc4.val, hc5.val, hc6.val, ?_⟩; refine NewH.mk fun H_3 e2 => ?_; obtain ⟨xσ3, st3, b2⟩ := BoxF.new xσ2 1 e2; refine ⟨b2.mayF rfl, NewH.mk fun H_4 e3 => ?_⟩; obtain ⟨st4, b2⟩ := b2.wf5 rfl e3; replace b := b.step (st2.then (st3.then st4)); refine ⟨_, b.cell0, ?_⟩; refine ⟨_, b2.cell0, ?_⟩; refine condJ (fun q => ?_) (fun q => ?_) q
 · replace sl0 := sl0.trans (st3.then st4); exact hnext (IntKind.i64.wrap (t + 1)) _ _ ⟨_, sl0, rfl⟩ q
 refine ⟨_, b.cell 1 rfl, ?_⟩; refine ⟨_, b2.cell 1 rfl, ?_⟩; refine condJ (fun q => ?_) (fun q => ?_) q
 · replace sl0 := sl0.trans (st3.then st4); exact hnext (IntKind.i64.wrap (t + 1)) _ _ ⟨_, sl0, rfl⟩ q
 refine ⟨_, b.cell 2 rfl, ?_⟩; refine ⟨_, b2.cell 2 rfl, ?_⟩; refine condI (fun q => ?_) (fun q => ?_) q
 · replace hs := hs.trans (st.then (st2.then (st3.then st4))); exact hk (Zt xσ3) _ (hs.ext hσ) (hs.old hσ) _ q
 replace sl0 := sl0.trans (st3.then st4); exact hnext (IntKind.i64.wrap (t + 1)) _ _ ⟨_, sl0, rfl⟩ q
def juntoref17_Check.C (w : TWorld) (K : Int → Prop) : Prop :=
 ∀ (Z : Nat → Prop) (H : Heap), ∀ (wv : Int), wv = (w.Setup.P : Int) → ∀ (wA : Option Addr) (wn wc : Nat), wn = w.Corrupted.length → SlF i64L Z H wA wc w.Corrupted → ∀ (wA2 : Option Addr) (wn2 wc2 : Nat), wn2 = w.Acts.length → SlF TAct.L Z H wA2 wc2 w.Acts → ∀ (wA3 : Option Addr) (wn3 wc3 : Nat), wn3 = w.Tapes.length → SlF (slL u64L) Z H wA3 wc3 w.Tapes → ∀ (wA4 : Option Addr) (wn4 wc4 : Nat), wn4 = w.Sent.length → SlF TSent.L Z H wA4 wc4 w.Sent → ∀ KK : Value → Heap → Prop,
   (∀ (Z' : Nat → Prop) (H' : Heap), Ext H H' → Old Z H Z' → ∀ (r0 : Int), K r0 → KK (.int .i64 r0) H') →
   CallH P N.juntoref17_Check [.agg #[.int .u64 wv, .int .i64 w.Setup.N, .int .i64 w.Setup.T_, .slice wA wn wc, .slice wA2 wn2 wc2, .slice wA3 wn3 wc3, .int .i64 w.Round, .slice wA4 wn4 wc4]] H KK
def juntoref17_Check.Q (w : TWorld) (K : Int → Prop) : Prop :=
 juntoref04_Corrupted.C w.Setup w.Corrupted (fun (x : Int) =>
 cond (x != 0) (K x)
  (cond (((w.Tapes.length : Nat) : Int) != w.Setup.N) (K 2)
  (cond (decide (w.Round < 0)) (K 2)
  (cond (decide (w.Round > 1048576)) (K 2)
  (cond (decide (((w.Acts.length : Nat) : Int) > 65536)) (K 3)
  (LoopQ (τ := Int) 0 fun t nextQ =>
 cond (decide (t < ((w.Acts.length : Nat) : Int))) (0 ≤ t ∧ ∃ x2 : TAct, w.Acts[Int.toNat t]? = some x2 ∧ juntoref17_Is.C w.Corrupted x2.From (fun (x3 : Bool) =>
 cond (!x3) (K 2)
  (cond (decide (x2.To < 0)) (K 2)
  (cond (decide (x2.To > w.Setup.N)) (K 2)
  (cond (x2.To == x2.From) (K 2)
  (cond (decide (x2.Round < 1)) (K 2)
  (cond (decide (((x2.Data.length : Nat) : Int) > 65536)) (K 3)
  (0 ≤ t ∧ t ≤ ((w.Acts.length : Nat) : Int) ∧ juntoref17_Ahead.C (List.take (Int.toNat t) w.Acts) x2 (fun (x4 : Bool) =>
 cond x4 (K 6)
  (nextQ (IntKind.i64.wrap (t + 1))))))))))))
  (K 0)))))))
theorem juntoref17_Check.q {w : TWorld} {K : Int → Prop} (q : juntoref17_Check.Q w K) : juntoref17_Check.C w K := by
 intro Z H wv he wA wn wc hn f wA2 wn2 wc2 hn2 f2 wA3 wn3 wc3 hn3 f3 wA4 wn4 wc4 hn4 f4 KK hk; cases he; cases hn; cases hn2; cases hn3; cases hn4; apply juntoref17_Check.ok; unfold juntoref17_Check.W; unfold juntoref17_Check.Q at q; obtain ⟨σ, hz, hσ⟩ := tags Z; have hs : Stp ([1] : List Nat) σ H σ H := Stp.refl _ _ _; replace f := f.wide hz; replace f2 := f2.wide hz; replace f3 := f3.wide hz; replace f4 := f4.wide hz; clear hz; refine NewH.mk fun H_ e => ?_; obtain ⟨xσ, st, b⟩ := BoxF.new σ 0 e; refine ⟨_, _, _, b.cell0, b.cell 1 rfl, b.cell 2 rfl, ?_⟩; refine ⟨_, _, _, b.cell 3 rfl, ?_⟩; replace f := f.step st; refine q (Zt xσ) H_ _ rfl _ _ _ rfl f _ (fun Z2 H_2 hE hO x q => ?_); obtain ⟨xσ2, st2⟩ := call0 hE xσ; refine ⟨_, rfl, ?_⟩; refine condI (fun q => ?_) (fun q => ?_) q
 · replace hs := hs.trans (st.then st2); exact hk (Zt xσ2) _ (hs.ext hσ) (hs.old hσ) _ q
 replace b := b.step st2; refine ⟨_, _, _, b.cell 5 rfl, ?_⟩; refine ⟨_, b.cell 1 rfl, ?_⟩; refine condI (fun q => ?_) (fun q => ?_) q
 · replace hs := hs.trans (st.then st2); exact hk (Zt xσ2) _ (hs.ext hσ) (hs.old hσ) _ q
 refine ⟨_, b.cell 6 rfl, ?_⟩; refine condI (fun q => ?_) (fun q => ?_) q
 · replace hs := hs.trans (st.then st2); exact hk (Zt xσ2) _ (hs.ext hσ) (hs.old hσ) _ q
 refine ⟨_, b.cell 6 rfl, ?_⟩; refine condI (fun q => ?_) (fun q => ?_) q
 · replace hs := hs.trans (st.then st2); exact hk (Zt xσ2) _ (hs.ext hσ) (hs.old hσ) _ q
 refine ⟨_, _, _, b.cell 4 rfl, ?_⟩; refine condI (fun q => ?_) (fun q => ?_) q
 · replace hs := hs.trans (st.then st2); exact hk (Zt xσ2) _ (hs.ext hσ) (hs.old hσ) _ q
 refine ⟨_, _, _, b.cell 4 rfl, ?_⟩; refine LoopI.ofQ q (fun t_ s_ hp_ => ∃ σ_, Stp [1] xσ2 H_2 σ_ hp_ ∧ t_ = s_) (fun h k => h _ _ k) ⟨_, Stp.refl _ _ _, rfl⟩ ?_; rintro t _ _ H_3 next nextQ ⟨xσ3, st3, rfl⟩ q hnext; (try dsimp only at q ⊢); have sl0 := st3; refine condJ (fun q => ?_) (fun q => ?_) q
 · replace hs := hs.trans (st.then (st2.then st3)); exact hk (Zt xσ3) _ (hs.ext hσ) (hs.old hσ) _ q
 obtain ⟨h0, x2, hx, q⟩ := q; replace f2 := f2.step (st.then (st2.then st3)); obtain ⟨a, ha, hi⟩ := f2.addr h0 hx rfl; refine ⟨a, ha, hi.1, hi.2, ?_⟩; obtain ⟨cs, hr, hc⟩ := f2.ldN (k := 5) rfl ha h0 hx; obtain ⟨A, c, rfl, f5⟩ := hr; have hc2 := hc 0 _ rfl; have hc3 := hc 1 _ rfl; have hc4 := hc 2 _ rfl; have hc5 := hc 3 _ rfl; have hc6 := hc 4 _ rfl; refine ⟨_, _, _, _, _, _, _, hc2.val, hc3.val, hc4.val, hc5.val, hc6.val, ?_⟩; refine NewH.mk fun H_4 e2 => ?_; obtain ⟨xσ4, st4, b2⟩ := BoxF.new xσ3 1 e2; refine ⟨b2.mayF rfl, NewH.mk fun H_5 e3 => ?_⟩; obtain ⟨st5, b2⟩ := b2.wf5 rfl e3; replace b := b.step (st3.then (st4.then st5)); refine ⟨_, _, _, b.cell 3 rfl, ?_⟩; refine ⟨_, b2.cell 1 rfl, ?_⟩; replace f := f.step (st2.then (st3.then (st4.then st5))); refine q (Zt xσ4) H_5 _ _ _ rfl f _ (fun Z3 H_6 hE2 hO2 x3 q => ?_); obtain ⟨xσ5, st6⟩ := call0 hE2 xσ4; refine ⟨_, rfl, ?_⟩; refine condI (fun q => ?_) (fun q => ?_) q
 · replace hs := hs.trans (st.then (st2.then (st3.then (st4.then (st5.then st6))))); exact hk (Zt xσ5) _ (hs.ext hσ) (hs.old hσ) _ q
 replace b2 := b2.step st6; refine ⟨_, b2.cell 2 rfl, ?_⟩; refine condI (fun q => ?_) (fun q => ?_) q
 · replace hs := hs.trans (st.then (st2.then (st3.then (st4.then (st5.then st6))))); exact hk (Zt xσ5) _ (hs.ext hσ) (hs.old hσ) _ q
 refine ⟨_, b2.cell 2 rfl, ?_⟩; replace b := b.step st6; refine ⟨_, b.cell 1 rfl, ?_⟩; refine condI (fun q => ?_) (fun q => ?_) q
 · replace hs := hs.trans (st.then (st2.then (st3.then (st4.then (st5.then st6))))); exact hk (Zt xσ5) _ (hs.ext hσ) (hs.old hσ) _ q
 refine ⟨_, b2.cell 2 rfl, ?_⟩; refine ⟨_, b2.cell 1 rfl, ?_⟩; refine condI (fun q => ?_) (fun q => ?_) q
 · replace hs := hs.trans (st.then (st2.then (st3.then (st4.then (st5.then st6))))); exact hk (Zt xσ5) _ (hs.ext hσ) (hs.old hσ) _ q
 refine ⟨_, b2.cell0, ?_⟩; refine condI (fun q => ?_) (fun q => ?_) q
 · replace hs := hs.trans (st.then (st2.then (st3.then (st4.then (st5.then st6))))); exact hk (Zt xσ5) _ (hs.ext hσ) (hs.old hσ) _ q
 refine ⟨_, _, _, b2.cell 4 rfl, ?_⟩; refine condI (fun q => ?_) (fun q => ?_) q
 · replace hs := hs.trans (st.then (st2.then (st3.then (st4.then (st5.then st6))))); exact hk (Zt xσ5) _ (hs.ext hσ) (hs.old hσ) _ q
 refine ⟨_, _, _, b.cell 4 rfl, ?_⟩; obtain ⟨q2, q3, q⟩ := q; replace f2 := f2.step (st4.then (st5.then st6)); have f6 := f2.upto (u := Int.toNat t) (upto_le rfl q3); refine ⟨q2, cap_le rfl f2.cap q3, ?_⟩; refine ⟨_, _, _, _, _, _, _, b2.cell0, b2.cell 1 rfl, b2.cell 2 rfl, b2.cell 3 rfl, b2.cell 4 rfl, ?_⟩; replace f5 := f5.step (st4.then (st5.then st6)); refine q (Zt xσ5) H_6 _ _ _ (take_len rfl q3) f6 _ _ _ rfl f5 _ (fun Z4 H_7 hE3 hO3 x4 q => ?_); obtain ⟨xσ6, st7⟩ := call0 hE3 xσ5; refine ⟨_, rfl, ?_⟩; refine condI (fun q => ?_) (fun q => ?_) q
 · replace hs := hs.trans (st.then (st2.then (st3.then (st4.then (st5.then (st6.then st7)))))); exact hk (Zt xσ6) _ (hs.ext hσ) (hs.old hσ) _ q
 replace sl0 := sl0.trans (st4.then (st5.then (st6.then st7))); exact hnext (IntKind.i64.wrap (t + 1)) _ _ ⟨_, sl0, rfl⟩ q
def juntoref17_Group.C (s : TSetup) (l : (List Int)) (K : Int → Prop) : Prop :=
 ∀ (Z : Nat → Prop) (H : Heap), ∀ (sv : Int), sv = (s.P : Int) → ∀ (lA : Option Addr) (ln lc : Nat), ln = l.length → SlF i64L Z H lA lc l → ∀ KK : Value → Heap → Prop,
   (∀ (Z' : Nat → Prop) (H' : Heap), Ext H H' → Old Z H Z' → ∀ (r0 : Int), K r0 → KK (.int .i64 r0) H') →
   CallH P N.juntoref17_Group [.agg #[.int .u64 sv, .int .i64 s.N, .int .i64 s.T_], .slice lA ln lc] H KK
def juntoref17_Group.Q (s : TSetup) (l : (List Int)) (K : Int → Prop) : Prop :=
 juntoref04_Setup.C s (fun (x : Int) =>
 cond (x != 0) (K x)
  (juntoref04_Rising.C s.N l (fun (x2 : Bool) =>
 cond (!x2) (K 2)
  (cond (decide (((l.length : Nat) : Int) < (IntKind.i64.wrap ((IntKind.i64.wrap (4 * s.T_)) + 1)))) (K 2)
  (K 0)))))
theorem juntoref17_Group.q {s : TSetup} {l : (List Int)} {K : Int → Prop} (q : juntoref17_Group.Q s l K) : juntoref17_Group.C s l K := by
 intro Z H sv he lA ln lc hn f KK hk; cases he; cases hn; apply juntoref17_Group.ok; unfold juntoref17_Group.W; unfold juntoref17_Group.Q at q; obtain ⟨σ, hz, hσ⟩ := tags Z; have hs : Stp ([] : List Nat) σ H σ H := Stp.refl _ _ _; replace f := f.wide hz; clear hz; refine NewH.mk fun H_ e => ?_; obtain ⟨xσ, st, b⟩ := BoxF.new σ 0 e; refine ⟨_, _, _, b.cell0, b.cell 1 rfl, b.cell 2 rfl, ?_⟩; refine q (Zt xσ) H_ _ rfl _ (fun Z2 H_2 hE hO x q => ?_); obtain ⟨xσ2, st2⟩ := call0 hE xσ; refine ⟨_, rfl, ?_⟩; refine condI (fun q => ?_) (fun q => ?_) q
 · replace hs := hs.trans (st.then st2); exact hk (Zt xσ2) _ (hs.ext hσ) (hs.old hσ) _ q
 replace b := b.step st2; refine ⟨_, b.cell 1 rfl, ?_⟩; replace f := f.step (st.then st2); refine q (Zt xσ2) H_2 _ _ _ rfl f _ (fun Z3 H_3 hE2 hO2 x2 q => ?_); obtain ⟨xσ3, st3⟩ := call0 hE2 xσ2; refine ⟨_, rfl, ?_⟩; refine condI (fun q => ?_) (fun q => ?_) q
 · replace hs := hs.trans (st.then (st2.then st3)); exact hk (Zt xσ3) _ (hs.ext hσ) (hs.old hσ) _ q
 replace b := b.step st3; refine ⟨_, b.cell 2 rfl, ?_⟩; refine condI (fun q => ?_) (fun q => ?_) q
 · replace hs := hs.trans (st.then (st2.then st3)); exact hk (Zt xσ3) _ (hs.ext hσ) (hs.old hσ) _ q
 replace hs := hs.trans (st.then (st2.then st3)); exact hk (Zt xσ3) _ (hs.ext hσ) (hs.old hσ) _ q
end Go.Proofs.Ytajdpkinlnaidaa.Sh
end
section
set_option linter.unusedVariables false
set_option linter.unusedSimpArgs false
set_option maxRecDepth 100000
set_option maxHeartbeats 8000000
namespace Go.Proofs.Ytajdpkinlnaidaa.Sh
open Go.Sx
def juntoref20_Line.A : Ann where
 loops := fun i => match i with
   | 12295 => [(10, .slice), (15, .int .i64)]
   | _ => []
 plans := fun i => match i with
   | _ => .stop
def juntoref20_Line.W (w_0 : Int) (w_1 : Int) (w_2 : Int) (w_3A : Option Addr) (w_3n w_3c : Nat) (w_4A : Option Addr) (w_4n w_4c : Nat) (w_5A : Option Addr) (w_5n w_5c : Nat) (w_6 : Int) (w_7A : Option Addr) (w_7n w_7c : Nat) (holdersA : Option Addr) (holdersn holdersc : Nat) (d : Int) (sharesA : Option Addr) (sharesn sharesc : Nat) (H : Heap) (R : Value → Heap → Prop) : Prop :=
 NewH (H.push (.cells #[.int .u64 w_0, .int .i64 w_1, .int .i64 w_2, .slice w_3A w_3n w_3c, .slice w_4A w_4n w_4c, .slice w_5A w_5n w_5c, .int .i64 w_6, .slice w_7A w_7n w_7c] 30 (0, 0))) fun H_ =>
 LoopI (σ := (Option Addr × Nat × Nat) × Int) (fun κ => κ ((none, 0, 0), 0) H_) fun s z H_2 next =>
 cond (decide (s.2 < ((holdersn : Nat) : Int))) (∃ a : Addr, holdersA = some a ∧ 0 ≤ s.2 ∧ s.2 < ((holdersn : Nat) : Int) ∧ ∃ x : Int, cellH H_2 (a.add (Int.toNat s.2)) = some (.int .i64 x) ∧ ∃ (xA : Option Addr) (xn xc : Nat), cellH H_2 (((Addr.mk H.size 0 none)).add 3) = some (.slice xA xn xc) ∧ CallH P N.juntoref17_Is [.slice xA xn xc, .int .i64 x] H_2 fun v H_3 =>
 ∃ r : Bool, v = .bool r ∧ cond (!r) (∃ a2 : Addr, sharesA = some a2 ∧ 0 ≤ s.2 ∧ s.2 < ((sharesn : Nat) : Int) ∧ ∃ x2 : Int, cellH H_3 (a2.add (Int.toNat s.2)) = some (.int .u64 x2) ∧ NewH (H_3.push (.cells #[.int .u64 (IntKind.u64.wrap x), .int .u64 x2] 71 (0, 0))) fun H_4 =>
 AppendV 71 2 16 [.int .u64 0, .int .u64 0] H_4 s.1.1 s.1.2.1 s.1.2.2 (some (Addr.mk H_3.size 0 none)) 1 fun vA vn vc H_5 =>
 next ((vA, vn, vc), IntKind.i64.wrap (s.2 + 1)) H_5)
  (next ((s.1.1, s.1.2.1, s.1.2.2), IntKind.i64.wrap (s.2 + 1)) H_3))
  (∃ x3 : Int, cellH H_2 (Addr.mk H.size 0 none) = some (.int .u64 x3) ∧ CallH P N.juntoref04_Line [.int .u64 x3, .int .i64 d, .slice s.1.1 s.1.2.1 s.1.2.2] H_2 fun v3 H_6 =>
 ∃ (r0A : Option Addr) (r0n r0c : Nat), ∃ r1 : Bool, v3 = .tuple #[.slice r0A r0n r0c, .bool r1] ∧ R (.tuple #[.slice r0A r0n r0c, .bool r1]) H_6)
theorem juntoref20_Line.ok (w_0 : Int) (w_1 : Int) (w_2 : Int) (w_3A : Option Addr) (w_3n w_3c : Nat) (w_4A : Option Addr) (w_4n w_4c : Nat) (w_5A : Option Addr) (w_5n w_5c : Nat) (w_6 : Int) (w_7A : Option Addr) (w_7n w_7c : Nat) (holdersA : Option Addr) (holdersn holdersc : Nat) (d : Int) (sharesA : Option Addr) (sharesn sharesc : Nat) (H : Heap) (R : Value → Heap → Prop) (h : juntoref20_Line.W w_0 w_1 w_2 w_3A w_3n w_3c w_4A w_4n w_4c w_5A w_5n w_5c w_6 w_7A w_7n w_7c holdersA holdersn holdersc d sharesA sharesn sharesc H R) : CallH P N.juntoref20_Line [.agg #[.int .u64 w_0, .int .i64 w_1, .int .i64 w_2, .slice w_3A w_3n w_3c, .slice w_4A w_4n w_4c, .slice w_5A w_5n w_5c, .int .i64 w_6, .slice w_7A w_7n w_7c], .slice holdersA holdersn holdersc, .int .i64 d, .slice sharesA sharesn sharesc] H R :=
 okW Try.func8 (by kernel_rfl) Try.ntmps8 juntoref20_Line.A (by kernel_rfl) (by kernel_rfl) h
def juntoref20_Error.A : Ann where
 loops := fun i => match i with
   | 49171 => [(42, .int .i64)]
   | _ => []
 plans := fun i => match i with
   | _ => .stop
def juntoref20_Error.W (w_0 : Int) (w_1 : Int) (w_2 : Int) (w_3A : Option Addr) (w_3n w_3c : Nat) (w_4A : Option Addr) (w_4n w_4c : Nat) (w_5A : Option Addr) (w_5n w_5c : Nat) (w_6 : Int) (w_7A : Option Addr) (w_7n w_7c : Nat) (holdersA : Option Addr) (holdersn holdersc : Nat) (d : Int) (lA : Option Addr) (ln lc : Nat) (H : Heap) (R : Value → Heap → Prop) : Prop :=
 NewH (H.push (.cells #[.int .u64 w_0, .int .i64 w_1, .int .i64 w_2, .slice w_3A w_3n w_3c, .slice w_4A w_4n w_4c, .slice w_5A w_5n w_5c, .int .i64 w_6, .slice w_7A w_7n w_7c] 30 (0, 0))) fun H_ =>
 ∃ x0 : Int, ∃ x1 : Int, ∃ x2 : Int, ∃ (x3A : Option Addr) (x3n x3c : Nat), ∃ (x4A : Option Addr) (x4n x4c : Nat), ∃ (x5A : Option Addr) (x5n x5c : Nat), ∃ x6 : Int, ∃ (x7A : Option Addr) (x7n x7c : Nat), cellH H_ (Addr.mk H.size 0 none) = some (.int .u64 x0) ∧ cellH H_ (((Addr.mk H.size 0 none)).add 1) = some (.int .i64 x1) ∧ cellH H_ (((Addr.mk H.size 0 none)).add 2) = some (.int .i64 x2) ∧ cellH H_ (((Addr.mk H.size 0 none)).add 3) = some (.slice x3A x3n x3c) ∧ cellH H_ (((Addr.mk H.size 0 none)).add 4) = some (.slice x4A x4n x4c) ∧ cellH H_ (((Addr.mk H.size 0 none)).add 5) = some (.slice x5A x5n x5c) ∧ cellH H_ (((Addr.mk H.size 0 none)).add 6) = some (.int .i64 x6) ∧ cellH H_ (((Addr.mk H.size 0 none)).add 7) = some (.slice x7A x7n x7c) ∧ CallH P N.juntoref17_Check [.agg #[.int .u64 x0, .int .i64 x1, .int .i64 x2, .slice x3A x3n x3c, .slice x4A x4n x4c, .slice x5A x5n x5c, .int .i64 x6, .slice x7A x7n x7c]] H_ fun v H_2 =>
 ∃ r : Int, v = .int .i64 r ∧ cond (r != 0) (R (.int .i64 r) H_2)
  (∃ x02 : Int, ∃ x12 : Int, ∃ x22 : Int, cellH H_2 (Addr.mk H.size 0 none) = some (.int .u64 x02) ∧ cellH H_2 (((Addr.mk H.size 0 none)).add 1) = some (.int .i64 x12) ∧ cellH H_2 (((Addr.mk H.size 0 none)).add 2) = some (.int .i64 x22) ∧ CallH P N.juntoref17_Group [.agg #[.int .u64 x02, .int .i64 x12, .int .i64 x22], .slice holdersA holdersn holdersc] H_2 fun v2 H_3 =>
 ∃ r2 : Int, v2 = .int .i64 r2 ∧ cond (r2 != 0) (R (.int .i64 r2) H_3)
  (cond (decide (d < 0)) (R (.int .i64 2) H_3) (∃ x : Int, cellH H_3 (((Addr.mk H.size 0 none)).add 2) = some (.int .i64 x) ∧ cond (decide (d > (IntKind.i64.wrap (2 * x)))) (R (.int .i64 2) H_3)
  (cond (decide (((ln : Nat) : Int) > 65536)) (R (.int .i64 3) H_3)
  (LoopI (σ := Int) (fun κ => κ 0 H_3) fun s z H_4 next =>
 cond (decide (s < ((ln : Nat) : Int))) (∃ a : Addr, lA = some a ∧ 0 ≤ s ∧ s < ((ln : Nat) : Int) ∧ ∃ (x0A : Option Addr) (x0n x0c : Nat), ∃ (x1A : Option Addr) (x1n x1c : Nat), cellH H_4 (a.add ((Int.toNat s) * 2)) = some (.slice x0A x0n x0c) ∧ cellH H_4 ((a.add ((Int.toNat s) * 2)).add 1) = some (.slice x1A x1n x1c) ∧ NewH (H_4.push (.cells #[.slice none 0 0, .slice none 0 0] 39 (0, 0))) fun H_5 =>
 MayWrite H_5 (Addr.mk H_4.size 0 none) 2 ∧ NewH (setH (setH H_5 (Addr.mk H_4.size 0 none) (.slice x0A x0n x0c)) (((Addr.mk H_4.size 0 none)).add 1) (.slice x1A x1n x1c)) fun H_6 =>
 ∃ x3 : Int, cellH H_6 (((Addr.mk H.size 0 none)).add 1) = some (.int .i64 x3) ∧ ∃ (xA : Option Addr) (xn xc : Nat), cellH H_6 (Addr.mk H_4.size 0 none) = some (.slice xA xn xc) ∧ CallH P N.juntoref04_Rising [.int .i64 x3, .slice xA xn xc] H_6 fun v3 H_7 =>
 ∃ r3 : Bool, v3 = .bool r3 ∧ cond (!r3) (R (.int .i64 2) H_7) (∃ (xA2 : Option Addr) (xn2 xc2 : Nat), cellH H_7 (((Addr.mk H_4.size 0 none)).add 1) = some (.slice xA2 xn2 xc2) ∧ cond (((xn2 : Nat) : Int) != ((holdersn : Nat) : Int)) (R (.int .i64 2) H_7) (∃ x4 : Int, cellH H_7 (Addr.mk H.size 0 none) = some (.int .u64 x4) ∧ ∃ (xA3 : Option Addr) (xn3 xc3 : Nat), cellH H_7 (((Addr.mk H_4.size 0 none)).add 1) = some (.slice xA3 xn3 xc3) ∧ CallH P N.juntoref01_Within [.int .u64 x4, .slice xA3 xn3 xc3] H_7 fun v4 H_8 =>
 ∃ r4 : Int, v4 = .int .i64 r4 ∧ cond (r4 != 0) (R (.int .i64 2) H_8)
  (∃ x03 : Int, ∃ x13 : Int, ∃ x23 : Int, ∃ (x3A2 : Option Addr) (x3n2 x3c2 : Nat), ∃ (x4A2 : Option Addr) (x4n2 x4c2 : Nat), ∃ (x5A2 : Option Addr) (x5n2 x5c2 : Nat), ∃ x62 : Int, ∃ (x7A2 : Option Addr) (x7n2 x7c2 : Nat), cellH H_8 (Addr.mk H.size 0 none) = some (.int .u64 x03) ∧ cellH H_8 (((Addr.mk H.size 0 none)).add 1) = some (.int .i64 x13) ∧ cellH H_8 (((Addr.mk H.size 0 none)).add 2) = some (.int .i64 x23) ∧ cellH H_8 (((Addr.mk H.size 0 none)).add 3) = some (.slice x3A2 x3n2 x3c2) ∧ cellH H_8 (((Addr.mk H.size 0 none)).add 4) = some (.slice x4A2 x4n2 x4c2) ∧ cellH H_8 (((Addr.mk H.size 0 none)).add 5) = some (.slice x5A2 x5n2 x5c2) ∧ cellH H_8 (((Addr.mk H.size 0 none)).add 6) = some (.int .i64 x62) ∧ cellH H_8 (((Addr.mk H.size 0 none)).add 7) = some (.slice x7A2 x7n2 x7c2) ∧ ∃ (xA4 : Option Addr) (xn4 xc4 : Nat), cellH H_8 (((Addr.mk H_4.size 0 none)).add 1) = some (.slice xA4 xn4 xc4) ∧ CallH P N.juntoref20_Line [.agg #[.int .u64 x03, .int .i64 x13, .int .i64 x23, .slice x3A2 x3n2 x3c2, .slice x4A2 x4n2 x4c2, .slice x5A2 x5n2 x5c2, .int .i64 x62, .slice x7A2 x7n2 x7c2], .slice holdersA holdersn holdersc, .int .i64 d, .slice xA4 xn4 xc4] H_8 fun v5 H_9 =>
 ∃ (r0A : Option Addr) (r0n r0c : Nat), ∃ r1 : Bool, v5 = .tuple #[.slice r0A r0n r0c, .bool r1] ∧ cond (!r1) (R (.int .i64 12) H_9)
  (next (IntKind.i64.wrap (s + 1)) H_9)))))
  (∃ x5 : Int, cellH H_4 (((Addr.mk H.size 0 none)).add 6) = some (.int .i64 x5) ∧ cond (x5 == 1048576) (R (.int .i64 8) H_4)
  (R (.int .i64 0) H_4)))))))
theorem juntoref20_Error.ok (w_0 : Int) (w_1 : Int) (w_2 : Int) (w_3A : Option Addr) (w_3n w_3c : Nat) (w_4A : Option Addr) (w_4n w_4c : Nat) (w_5A : Option Addr) (w_5n w_5c : Nat) (w_6 : Int) (w_7A : Option Addr) (w_7n w_7c : Nat) (holdersA : Option Addr) (holdersn holdersc : Nat) (d : Int) (lA : Option Addr) (ln lc : Nat) (H : Heap) (R : Value → Heap → Prop) (h : juntoref20_Error.W w_0 w_1 w_2 w_3A w_3n w_3c w_4A w_4n w_4c w_5A w_5n w_5c w_6 w_7A w_7n w_7c holdersA holdersn holdersc d lA ln lc H R) : CallH P N.juntoref20_Error [.agg #[.int .u64 w_0, .int .i64 w_1, .int .i64 w_2, .slice w_3A w_3n w_3c, .slice w_4A w_4n w_4c, .slice w_5A w_5n w_5c, .int .i64 w_6, .slice w_7A w_7n w_7c], .slice holdersA holdersn holdersc, .int .i64 d, .slice lA ln lc] H R :=
 okW Try.func34 (by kernel_rfl) Try.ntmps34 juntoref20_Error.A (by kernel_rfl) (by kernel_rfl) h
end Go.Proofs.Ytajdpkinlnaidaa.Sh
namespace Go.Proofs.Ytajdpkinlnaidaa.Sh
open Go.Sx Go.Lf
def juntoref20_Line.C (w : TWorld) (holders : (List Int)) (d : Int) (shares : (List Nat)) (K : (List Nat) → Bool → Prop) : Prop :=
 ∀ (Z : Nat → Prop) (H : Heap), ∀ (wv : Int), wv = (w.Setup.P : Int) → ∀ (wA : Option Addr) (wn wc : Nat), wn = w.Corrupted.length → SlF i64L Z H wA wc w.Corrupted → ∀ (wA2 : Option Addr) (wn2 wc2 : Nat), wn2 = w.Acts.length → SlF TAct.L Z H wA2 wc2 w.Acts → ∀ (wA3 : Option Addr) (wn3 wc3 : Nat), wn3 = w.Tapes.length → SlF (slL u64L) Z H wA3 wc3 w.Tapes → ∀ (wA4 : Option Addr) (wn4 wc4 : Nat), wn4 = w.Sent.length → SlF TSent.L Z H wA4 wc4 w.Sent → ∀ (holdersA : Option Addr) (holdersn holdersc : Nat), holdersn = holders.length → SlF i64L Z H holdersA holdersc holders → ∀ (sharesA : Option Addr) (sharesn sharesc : Nat), sharesn = shares.length → SlF u64L Z H sharesA sharesc shares → ∀ KK : Value → Heap → Prop,
   (∀ (Z' : Nat → Prop) (H' : Heap), Ext H H' → Old Z H Z' → ∀ (r0 : (List Nat)), ∀ (Y0 : Nat → Prop), (∀ i, Y0 i → H.size ≤ i ∧ ¬ Z' i) → ∀ (Ar0_0 : Option Addr) (nr0_0 cr0_0 : Nat), nr0_0 = r0.length → SlO (rdM u64L) 22 Z' Y0 H' Ar0_0 cr0_0 r0 → ∀ (r1 : Bool), K r0 r1 → KK (.tuple #[.slice Ar0_0 nr0_0 cr0_0, .bool r1]) H') →
   CallH P N.juntoref20_Line [.agg #[.int .u64 wv, .int .i64 w.Setup.N, .int .i64 w.Setup.T_, .slice wA wn wc, .slice wA2 wn2 wc2, .slice wA3 wn3 wc3, .int .i64 w.Round, .slice wA4 wn4 wc4], .slice holdersA holdersn holdersc, .int .i64 d, .slice sharesA sharesn sharesc] H KK
def juntoref20_Line.Q (w : TWorld) (holders : (List Int)) (d : Int) (shares : (List Nat)) (K : (List Nat) → Bool → Prop) : Prop :=
 LoopQ (τ := List TPoint × Int) (([] : List TPoint), 0) fun t nextQ =>
 cond (decide (t.2 < ((holders.length : Nat) : Int))) (0 ≤ t.2 ∧ ∃ x : Int, holders[Int.toNat t.2]? = some x ∧ juntoref17_Is.C w.Corrupted x (fun (x2 : Bool) =>
 cond (!x2) (0 ≤ t.2 ∧ ∃ x3 : Nat, shares[Int.toNat t.2]? = some x3 ∧ AppOk 16 (t.1 ++ ([(⟨(IntKind.u64.wrap x).toNat, x3⟩ : TPoint)] : List TPoint)).length ∧ nextQ ((t.1 ++ ([(⟨(IntKind.u64.wrap x).toNat, x3⟩ : TPoint)] : List TPoint)), IntKind.i64.wrap (t.2 + 1)))
  (nextQ (t.1, IntKind.i64.wrap (t.2 + 1)))))
  (juntoref04_Line.C w.Setup.P d t.1 (fun (r : (List Nat)) (r2 : Bool) =>
 K r r2))
theorem juntoref20_Line.q {w : TWorld} {holders : (List Int)} {d : Int} {shares : (List Nat)} {K : (List Nat) → Bool → Prop} (q : juntoref20_Line.Q w holders d shares K) : juntoref20_Line.C w holders d shares K := by
 intro Z H wv he wA wn wc hn f wA2 wn2 wc2 hn2 f2 wA3 wn3 wc3 hn3 f3 wA4 wn4 wc4 hn4 f4 holdersA holdersn holdersc hn5 f5 sharesA sharesn sharesc hn6 f6 KK hk; cases he; cases hn; cases hn2; cases hn3; cases hn4; cases hn5; cases hn6; apply juntoref20_Line.ok; unfold juntoref20_Line.W; unfold juntoref20_Line.Q at q; obtain ⟨σ, hz, hσ⟩ := tags Z; have hs : Stp ([1, 2, 3] : List Nat) σ H σ H := Stp.refl _ _ _; replace f := f.wide hz; replace f2 := f2.wide hz; replace f3 := f3.wide hz; replace f4 := f4.wide hz; replace f5 := f5.wide hz; replace f6 := f6.wide hz; clear hz; refine NewH.mk fun H_ e => ?_; obtain ⟨xσ, st, b⟩ := BoxF.new σ 0 e; have f7 := SlO.nil (rdM TPoint.L) 71 (Zt xσ) (Yt xσ 1) H_; refine LoopI.ofQ q (fun t_ s_ hp_ => ∃ σ_ A0_ n0_ c0_, Stp [1, 2] xσ H_ σ_ hp_ ∧ ((A0_, n0_, c0_), t_.2) = s_ ∧ n0_ = t_.1.length ∧ SlO (rdM TPoint.L) 71 (Zt σ_) (Yt σ_ 1) hp_ A0_ c0_ t_.1) (fun h k => h _ _ k) ⟨_, _, _, _, Stp.refl _ _ _, rfl, rfl, f7⟩ ?_; rintro t _ _ H_2 next nextQ ⟨xσ2, A, n, c, st2, rfl, rfl, f8⟩ q hnext; (try dsimp only at q ⊢); have sl0 := st2; refine condJ (fun q => ?_) (fun q => ?_) q
 · replace b := b.step st2; refine ⟨_, b.cell0, ?_⟩; refine q (fun i => xσ2 i = 0 ∨ xσ2 i = 1) H_2 _ rfl _ _ _ rfl (f8.read (fun i h => .inl h) (fun i h => .inr (h))) _ (fun Z3 H_6 hE2 hO2 r Y hY A3 n2 c3 hn7 f11 r2 q => ?_); obtain ⟨xσ7, st7, fy⟩ := callB1 hE2 hO2 xσ2 3 hY; replace f11 := (SlO.anyZ (Z' := Zt xσ7) u64_flatL f11).keep (Fr.refl _ _) fy; cases hn7; refine ⟨_, _, _, _, rfl, ?_⟩; replace hs := hs.trans (st.then (st2.then st7)); exact hk (Zt xσ7) _ (hs.ext hσ) (hs.old hσ) _ (Yt xσ7 3) (hs.fresh hσ) _ _ _ rfl f11 _ q
 obtain ⟨h0, x, hx, q⟩ := q; replace f5 := f5.step (st.then st2); obtain ⟨a, ha, hi⟩ := f5.addr h0 hx rfl; refine ⟨a, ha, hi.1, hi.2, ?_⟩; have hc := f5.ldi ha h0 hx; refine ⟨_, hc.val, ?_⟩; replace b := b.step st2; refine ⟨_, _, _, b.cell 3 rfl, ?_⟩; replace f := f.step (st.then st2); refine q (Zt xσ2) H_2 _ _ _ rfl f _ (fun Z2 H_3 hE hO x2 q => ?_); obtain ⟨xσ3, st3⟩ := call0 hE xσ2; refine ⟨_, rfl, ?_⟩; refine condJ (fun q => ?_) (fun q => ?_) q
 · replace sl0 := sl0.trans st3; replace f8 := f8.step st3; exact hnext (t.1, IntKind.i64.wrap (t.2 + 1)) _ _ ⟨_, _, _, _, sl0, rfl, rfl, f8⟩ q
 obtain ⟨h02, x3, hx2, q⟩ := q; replace f6 := f6.step (st.then (st2.then st3)); obtain ⟨a2, ha2, hi2⟩ := f6.addr h02 hx2 rfl; refine ⟨a2, ha2, hi2.1, hi2.2, ?_⟩; have hc2 := f6.ldu ha2 h02 hx2; refine ⟨_, hc2.val, ?_⟩; refine NewH.mk fun H_4 e2 => ?_; obtain ⟨xσ4, st4, f9⟩ := SlO.lit (E := TPoint.L) xσ3 2 (xs := [(⟨(IntKind.u64.wrap x).toNat, x3⟩ : TPoint)]) (l := [[_, _]]) e2 rfl (.cons (by show (_ : List Value) = _; simp only [← natEq (nnw _)]) .nil) (show (1 : Nat) ≤ 17592186044416 by decide); obtain ⟨xσ6, st6, f9⟩ := SlO.freeze f9; obtain ⟨q2, q⟩ := q; replace f8 := f8.step (st3.then (st4.then st6)); refine SlO.appF f8 f9 rfl rfl q2.l q2.r rfl rfl (fun A2 c2 H_5 xσ5 st5 f8_ => ?_); replace f8 := f8_; have f10 := f8; clear f8; replace sl0 := sl0.trans (st3.then (st4.then (st6.then st5))); exact hnext ((t.1 ++ ([(⟨(IntKind.u64.wrap x).toNat, x3⟩ : TPoint)] : List TPoint)), IntKind.i64.wrap (t.2 + 1)) _ _ ⟨_, _, _, _, sl0, rfl, rfl, f10⟩ q
def juntoref20_Error.C (w : TWorld) (holders : (List Int)) (d : Int) (l : (List TSecret)) (K : Int → Prop) : Prop :=
 ∀ (Z : Nat → Prop) (H : Heap), ∀ (wv : Int), wv = (w.Setup.P : Int) → ∀ (wA : Option Addr) (wn wc : Nat), wn = w.Corrupted.length → SlF i64L Z H wA wc w.Corrupted → ∀ (wA2 : Option Addr) (wn2 wc2 : Nat), wn2 = w.Acts.length → SlF TAct.L Z H wA2 wc2 w.Acts → ∀ (wA3 : Option Addr) (wn3 wc3 : Nat), wn3 = w.Tapes.length → SlF (slL u64L) Z H wA3 wc3 w.Tapes → ∀ (wA4 : Option Addr) (wn4 wc4 : Nat), wn4 = w.Sent.length → SlF TSent.L Z H wA4 wc4 w.Sent → ∀ (holdersA : Option Addr) (holdersn holdersc : Nat), holdersn = holders.length → SlF i64L Z H holdersA holdersc holders → ∀ (lA : Option Addr) (ln lc : Nat), ln = l.length → SlF TSecret.L Z H lA lc l → ∀ KK : Value → Heap → Prop,
   (∀ (Z' : Nat → Prop) (H' : Heap), Ext H H' → Old Z H Z' → ∀ (r0 : Int), K r0 → KK (.int .i64 r0) H') →
   CallH P N.juntoref20_Error [.agg #[.int .u64 wv, .int .i64 w.Setup.N, .int .i64 w.Setup.T_, .slice wA wn wc, .slice wA2 wn2 wc2, .slice wA3 wn3 wc3, .int .i64 w.Round, .slice wA4 wn4 wc4], .slice holdersA holdersn holdersc, .int .i64 d, .slice lA ln lc] H KK
def juntoref20_Error.Q (w : TWorld) (holders : (List Int)) (d : Int) (l : (List TSecret)) (K : Int → Prop) : Prop :=
 juntoref17_Check.C w (fun (x : Int) =>
 cond (x != 0) (K x)
  (juntoref17_Group.C w.Setup holders (fun (x2 : Int) =>
 cond (x2 != 0) (K x2)
  (cond (decide (d < 0)) (K 2)
  (cond (decide (d > (IntKind.i64.wrap (2 * w.Setup.T_)))) (K 2)
  (cond (decide (((l.length : Nat) : Int) > 65536)) (K 3)
  (LoopQ (τ := Int) 0 fun t nextQ =>
 cond (decide (t < ((l.length : Nat) : Int))) (0 ≤ t ∧ ∃ x3 : TSecret, l[Int.toNat t]? = some x3 ∧ juntoref04_Rising.C w.Setup.N x3.To (fun (x4 : Bool) =>
 cond (!x4) (K 2)
  (cond (((x3.Shares.length : Nat) : Int) != ((holders.length : Nat) : Int)) (K 2)
  (juntoref01_Within.C w.Setup.P x3.Shares (fun (x5 : Int) =>
 cond (x5 != 0) (K 2)
  (juntoref20_Line.C w holders d x3.Shares (fun (r : (List Nat)) (r2 : Bool) =>
 cond (!r2) (K 12)
  (nextQ (IntKind.i64.wrap (t + 1))))))))))
  (cond (w.Round == 1048576) (K 8)
  (K 0)))))))))
theorem juntoref20_Error.q {w : TWorld} {holders : (List Int)} {d : Int} {l : (List TSecret)} {K : Int → Prop} (q : juntoref20_Error.Q w holders d l K) : juntoref20_Error.C w holders d l K := by
 intro Z H wv he wA wn wc hn f wA2 wn2 wc2 hn2 f2 wA3 wn3 wc3 hn3 f3 wA4 wn4 wc4 hn4 f4 holdersA holdersn holdersc hn5 f5 lA ln lc hn6 f6 KK hk; cases he; cases hn; cases hn2; cases hn3; cases hn4; cases hn5; cases hn6; apply juntoref20_Error.ok; unfold juntoref20_Error.W; unfold juntoref20_Error.Q at q; obtain ⟨σ, hz, hσ⟩ := tags Z; have hs : Stp ([1, 2] : List Nat) σ H σ H := Stp.refl _ _ _; replace f := f.wide hz; replace f2 := f2.wide hz; replace f3 := f3.wide hz; replace f4 := f4.wide hz; replace f5 := f5.wide hz; replace f6 := f6.wide hz; clear hz; refine NewH.mk fun H_ e => ?_; obtain ⟨xσ, st, b⟩ := BoxF.new σ 0 e; refine ⟨_, _, _, _, _, _, _, _, _, _, _, _, _, _, _, _, b.cell0, b.cell 1 rfl, b.cell 2 rfl, b.cell 3 rfl, b.cell 4 rfl, b.cell 5 rfl, b.cell 6 rfl, b.cell 7 rfl, ?_⟩; replace f := f.step st; replace f2 := f2.step st; replace f3 := f3.step st; replace f4 := f4.step st; refine q (Zt xσ) H_ _ rfl _ _ _ rfl f _ _ _ rfl f2 _ _ _ rfl f3 _ _ _ rfl f4 _ (fun Z2 H_2 hE hO x q => ?_); obtain ⟨xσ2, st2⟩ := call0 hE xσ; refine ⟨_, rfl, ?_⟩; refine condI (fun q => ?_) (fun q => ?_) q
 · replace hs := hs.trans (st.then st2); exact hk (Zt xσ2) _ (hs.ext hσ) (hs.old hσ) _ q
 replace b := b.step st2; refine ⟨_, _, _, b.cell0, b.cell 1 rfl, b.cell 2 rfl, ?_⟩; replace f5 := f5.step (st.then st2); refine q (Zt xσ2) H_2 _ rfl _ _ _ rfl f5 _ (fun Z3 H_3 hE2 hO2 x2 q => ?_); obtain ⟨xσ3, st3⟩ := call0 hE2 xσ2; refine ⟨_, rfl, ?_⟩; refine condI (fun q => ?_) (fun q => ?_) q
 · replace hs := hs.trans (st.then (st2.then st3)); exact hk (Zt xσ3) _ (hs.ext hσ) (hs.old hσ) _ q
 refine condI (fun q => ?_) (fun q => ?_) q
 · replace hs := hs.trans (st.then (st2.then st3)); exact hk (Zt xσ3) _ (hs.ext hσ) (hs.old hσ) _ q
 replace b := b.step st3; refine ⟨_, b.cell 2 rfl, ?_⟩; refine condI (fun q => ?_) (fun q => ?_) q
 · replace hs := hs.trans (st.then (st2.then st3)); exact hk (Zt xσ3) _ (hs.ext hσ) (hs.old hσ) _ q
 refine condI (fun q => ?_) (fun q => ?_) q
 · replace hs := hs.trans (st.then (st2.then st3)); exact hk (Zt xσ3) _ (hs.ext hσ) (hs.old hσ) _ q
 refine LoopI.ofQ q (fun t_ s_ hp_ => ∃ σ_, Stp [1, 2] xσ3 H_3 σ_ hp_ ∧ t_ = s_) (fun h k => h _ _ k) ⟨_, Stp.refl _ _ _, rfl⟩ ?_; rintro t _ _ H_4 next nextQ ⟨xσ4, st4, rfl⟩ q hnext; (try dsimp only at q ⊢); have sl0 := st4; refine condJ (fun q => ?_) (fun q => ?_) q
 · replace b := b.step st4; refine ⟨_, b.cell 6 rfl, ?_⟩; refine condI (fun q => ?_) (fun q => ?_) q
   · replace hs := hs.trans (st.then (st2.then (st3.then st4))); exact hk (Zt xσ4) _ (hs.ext hσ) (hs.old hσ) _ q
   replace hs := hs.trans (st.then (st2.then (st3.then st4))); exact hk (Zt xσ4) _ (hs.ext hσ) (hs.old hσ) _ q
 obtain ⟨h0, x3, hx, q⟩ := q; replace f6 := f6.step (st.then (st2.then (st3.then st4))); obtain ⟨a, ha, hi⟩ := f6.addr h0 hx rfl; refine ⟨a, ha, hi.1, hi.2, ?_⟩; obtain ⟨cs, hr, hc⟩ := f6.ldN (k := 2) rfl ha h0 hx; obtain ⟨A, c, A2, c2, rfl, f7, f8⟩ := hr; have hc2 := hc 0 _ rfl; have hc3 := hc 1 _ rfl; refine ⟨_, _, _, _, _, _, hc2.val, hc3.val, ?_⟩; refine NewH.mk fun H_5 e2 => ?_; obtain ⟨xσ5, st5, b2⟩ := BoxF.new xσ4 1 e2; refine ⟨b2.mayF rfl, NewH.mk fun H_6 e3 => ?_⟩; obtain ⟨st6, b2⟩ := b2.wf2 rfl e3; replace b := b.step (st4.then (st5.then st6)); refine ⟨_, b.cell 1 rfl, ?_⟩; refine ⟨_, _, _, b2.cell0, ?_⟩; replace f7 := f7.step (st5.then st6); refine q (Zt xσ5) H_6 _ _ _ rfl f7 _ (fun Z4 H_7 hE3 hO3 x4 q => ?_); obtain ⟨xσ6, st7⟩ := call0 hE3 xσ5; refine ⟨_, rfl, ?_⟩; refine condI (fun q => ?_) (fun q => ?_) q
 · replace hs := hs.trans (st.then (st2.then (st3.then (st4.then (st5.then (st6.then st7)))))); exact hk (Zt xσ6) _ (hs.ext hσ) (hs.old hσ) _ q
 replace b2 := b2.step st7; refine ⟨_, _, _, b2.cell 1 rfl, ?_⟩; refine condI (fun q => ?_) (fun q => ?_) q
 · replace hs := hs.trans (st.then (st2.then (st3.then (st4.then (st5.then (st6.then st7)))))); exact hk (Zt xσ6) _ (hs.ext hσ) (hs.old hσ) _ q
 replace b := b.step st7; refine ⟨_, b.cell0, ?_⟩; refine ⟨_, _, _, b2.cell 1 rfl, ?_⟩; replace f8 := f8.step (st5.then (st6.then st7)); refine q (Zt xσ6) H_7 _ rfl _ _ _ rfl f8 _ (fun Z5 H_8 hE4 hO4 x5 q => ?_); obtain ⟨xσ7, st8⟩ := call0 hE4 xσ6; refine ⟨_, rfl, ?_⟩; refine condI (fun q => ?_) (fun q => ?_) q
 · replace hs := hs.trans (st.then (st2.then (st3.then (st4.then (st5.then (st6.then (st7.then st8))))))); exact hk (Zt xσ7) _ (hs.ext hσ) (hs.old hσ) _ q
 replace b := b.step st8; refine ⟨_, _, _, _, _, _, _, _, _, _, _, _, _, _, _, _, b.cell0, b.cell 1 rfl, b.cell 2 rfl, b.cell 3 rfl, b.cell 4 rfl, b.cell 5 rfl, b.cell 6 rfl, b.cell 7 rfl, ?_⟩; replace b2 := b2.step st8; refine ⟨_, _, _, b2.cell 1 rfl, ?_⟩; have c_0 := st2.then (st3.then (st4.then (st5.then (st6.then (st7.then st8))))); replace f := f.step c_0; replace f2 := f2.step c_0; replace f3 := f3.step c_0; replace f4 := f4.step c_0; replace f5 := f5.step (st3.then (st4.then (st5.then (st6.then (st7.then st8))))); replace f8 := f8.step st8; refine q (Zt xσ7) H_8 _ rfl _ _ _ rfl f _ _ _ rfl f2 _ _ _ rfl f3 _ _ _ rfl f4 _ _ _ rfl f5 _ _ _ rfl f8 _ (fun Z6 H_9 hE5 hO5 r Y hY A3 n c3 hn7 f9 r2 q => ?_); obtain ⟨xσ8, st9, fz5, fy⟩ := call1 hE5 hO5 xσ7 2 (fun _ h => h) hY; replace f9 := f9.keep fz5 fy; cases hn7; refine ⟨_, _, _, _, rfl, ?_⟩; refine condI (fun q => ?_) (fun q => ?_) q
 · replace hs := hs.trans (st.then (st2.then (st3.then (st4.then (st5.then (st6.then (st7.then (st8.then st9)))))))); exact hk (Zt xσ8) _ (hs.ext hσ) (hs.old hσ) _ q
 replace sl0 := sl0.trans (st5.then (st6.then (st7.then (st8.then st9)))); exact hnext (IntKind.i64.wrap (t + 1)) _ _ ⟨_, sl0, rfl⟩ q
end Go.Proofs.Ytajdpkinlnaidaa.Sh
end
section
set_option linter.unusedVariables false
namespace Go.Proofs.Ytajdpkinlnaidaa.Pl
open Go.Sx Go.Lf Go.Proofs.Ytajdpkinlnaidaa.Sh Go.Proofs.Ytajdpkinlnaidaa.Sp
theorem actsC_of {n : Int} {c : List Int} : ∀ (l seen : List TAct), ((seen ++ l).map key3).Nodup → (∀ a ∈ l, ¬ badAct n c a ∧ a.Data.length ≤ 65536) → actsC n c seen l = 0
 | [], _, _, _ => rfl
 | a :: l, seen, hn, h => by
   have h0 : actC n c seen a = 0 := by
     obtain ⟨h1, h2⟩ := h a (by simp)
     rw [actC, if_neg h1, if_neg (by omega), if_neg]
     rintro ⟨b, hb, e⟩
     rw [List.map_append, List.nodup_append] at hn
     exact hn.2.2 _ (List.mem_map.2 ⟨b, hb, rfl⟩) _ (by simp) e
   simp only [actsC]
   rw [if_pos h0]
   exact actsC_of l _ (by simpa using hn) fun b hb => h b (by simp [hb])
theorem checkW_of {w : TWorld} (h : WOk w) (ha : w.Acts.length ≤ 65536) : checkW w = 0 := by
 have hc : corC w.Setup w.Corrupted = 0 := by rw [corC, if_pos ⟨h.set, h.cor, h.ris⟩]
 have h0 := h.r0; have h1 := h.r1; have h2 := h.tap
 unfold checkW
 rw [if_pos hc, if_neg (by omega), if_neg (by omega)]
 exact actsC_of _ _ (by simpa using h.key) h.act
theorem chkC_of {w : TWorld} {hs : List Int} {d : Nat} {s : TSecret} {f : List Nat} (h : SecOk w hs d s f) : chkC w hs d s = 0 := by
 unfold chkC
 rw [if_pos h.to, if_pos ⟨h.len, below_of h.lt⟩, if_pos ⟨f, h.line⟩]
theorem chkL_of {w : TWorld} {hs : List Int} {d : Nat} : ∀ {l : List TSecret}, (∀ s ∈ l, ∃ f, SecOk w hs d s f) → chkL w hs d l = 0
 | [], _ => rfl
 | s :: l, h => by
   obtain ⟨f, hf⟩ := h s (by simp)
   simp only [chkL]
   rw [if_pos (chkC_of hf)]
   exact chkL_of fun x hx => h x (by simp [hx])
theorem allC_of {w : TWorld} {hs : List Int} {d n tt : Nat} {l : List TSecret} {F : Nat → List Nat} (h : AllOk w hs d n tt l F) (ha : w.Acts.length ≤ 65536) : allC w hs d l = 0 := by
 have h1 := h.len; have h2 := h.et; have h3 := h.ded; have h4 := h.lel; have h5 := h.rnd
 have hc := checkW_of h.wok ha
 have hl : chkL w hs ((d : Nat) : Int).toNat l = 0 := chkL_of fun s hs0 => by
   obtain ⟨i, hi⟩ := List.mem_iff_getElem?.1 hs0
   exact ⟨_, h.sec i s hi⟩
 unfold allC
 rw [if_neg (by rw [hc]; simp), if_neg (by simp only [Classical.not_not]; exact ⟨h.ris, by omega⟩), if_neg (by omega), if_neg (by omega), if_neg (by rw [hl]; simp), if_neg (by omega)]
theorem line_uniq {w : TWorld} {hs : List Int} {d tt : Nat} {sh : List Nat} (hw : WOk w) (ht : w.Setup.T_ = tt) (hr : risA w.Setup.N 0 hs = true) (hl : 4 * tt + 1 ≤ hs.length) (hd : d ≤ 2 * tt) (hsh : ∀ y ∈ sh, y < w.Setup.P) {f g : List Nat} (hf : LineP w hs d sh f) (hg : LineP w hs d sh g) : f = g := by
 have h1 := hon_len (c := w.Corrupted) hr
 have h2 := hw.cor
 exact Dec.uniq hw.set.1 (hon_pts hw.set hr hsh) (by rw [ptsL_len]; omega) hf hg
theorem juntoref17_Is_c {l : List Int} {x : Int} (hl : l.length < 4611686018427387904) {K : Bool → Prop} (k : K (decide (x ∈ l))) : juntoref17_Is.C l x K := by
 refine juntoref17_Is.q ?_
 refine LoopQ.range l.length (fun k => ∀ j, j < k → l[j]? ≠ some x) (fun j hj => by omega) hl ?_ ?_
 · intro i next hk hI hn
   obtain ⟨y, hy⟩ := get_some hk
   refine ctd (by omega) ⟨by omega, y, hy, cnE (fun h => ?_) (fun h => hn fun j hj => ?_)⟩
   · rw [decide_eq_true (by rw [← h]; exact mem_get hy)] at k; exact k
   · rcases Nat.lt_or_ge j i with h' | h'
     · exact hI j h'
     · obtain rfl : j = i := by omega
       rw [hy]; exact fun e => h (by cases e; rfl)
 · intro next hI
   refine cfd (by omega) ?_
   rw [decide_eq_false (fun hm => by obtain ⟨j, hj⟩ := List.mem_iff_getElem?.1 hm; exact hI j (lt_get hj) hj)] at k
   exact k
theorem juntoref04_Line_c {p d : Nat} {l : List TPoint} (hp : isP p) (hl : Pts p l) (hll : l.length ≤ 64) (hd : d + 1 ≤ l.length) {K : List Nat → Bool → Prop} (k1 : ∀ f, Dec p d 0 l f → K f true) (k0 : (∀ f, ¬ Dec p d 0 l f) → ∀ g, K g false) : juntoref04_Line.C p d l K := by
 have hp3 := hp.1
 haveI : NeZero p := ⟨by omega⟩
 refine juntoref04_Line.q (juntoref02_Through_c hp hl (by omega) fun f hf => ?_)
 obtain ⟨f1, f2, f3, f4⟩ := id hf
 rw [addw1 (by omega)]
 by_cases h : f.length ≤ d + 1
 · rw [decide_eq_true (by omega)]
   exact k1 f (dec0.2 ⟨f1, h, f3, fun q hq => pv_eval (by omega) (hl.1 q hq).2 (f4 q hq)⟩)
 · rw [decide_eq_false (by omega)]
   refine k0 (fun g hg => h ?_) f
   obtain ⟨g1, g2, g3, g4⟩ := dec0.1 hg
   have : Interp p l g := ⟨g1, by omega, g3, fun q hq => eval_pv (g4 q hq)⟩
   rw [hf.uniq hp hl this]; exact g2
theorem juntoref20_Line_c {w : TWorld} {hs : List Int} {d : Nat} {sh : List Nat} (hS : OkS w.Setup) (hc : (w.Corrupted.length : Int) ≤ w.Setup.T_) (hr : risA w.Setup.N 0 hs = true) (hn : 4 * w.Setup.T_ + 1 ≤ hs.length) (hd : (d : Int) ≤ 2 * w.Setup.T_) (hsl : hs.length ≤ sh.length) (hsh : ∀ y ∈ sh, y < w.Setup.P)
   {K : List Nat → Bool → Prop} (k1 : ∀ f, LineP w hs d sh f → K f true) (k0 : (∀ f, ¬ LineP w hs d sh f) → ∀ g, K g false) : juntoref20_Line.C w hs d sh K := by
 have h13 := hs13 hS.2.2.1 hr
 have hl := hon_len (c := w.Corrupted) hr
 have hle := hon_le w.Corrupted hs
 refine juntoref20_Line.q (hon_loop (A := fun P => juntoref04_Line.C w.Setup.P d P fun r r2 => K r r2) (is := fun x K => juntoref17_Is.C w.Corrupted x K) hS.2.2.1 hr hsl (fun x K hk => juntoref17_Is_c (by have := hS.2.2.2.2.1; have := hS.2.2.1; omega) hk) ?_)
 exact juntoref04_Line_c hS.1 (hon_pts hS hr hsh) (by rw [ptsL_len]; omega) (by rw [ptsL_len]; omega) k1 k0
theorem inc_eq : ∀ (A B : List Nat), A.Pairwise (· < ·) → B.Pairwise (· < ·) → (∀ x, x ∈ A ↔ x ∈ B) → A = B
 | [], [], _, _, _ => rfl
 | [], b :: B, _, _, h => by have := (h b).2 (by simp); simp at this
 | a :: A, [], _, _, h => by have := (h a).1 (by simp); simp at this
 | a :: A, b :: B, hA, hB, h => by
   rw [List.pairwise_cons] at hA hB
   have e : a = b := by
     have h1 := (h a).1 (by simp)
     have h2 := (h b).2 (by simp)
     rcases List.mem_cons.1 h1 with h1 | h1
     · exact h1
     · rcases List.mem_cons.1 h2 with h2 | h2
       · exact h2.symm
       · have := hB.1 a h1; have := hA.1 b h2; omega
   subst e
   congr 1
   refine inc_eq A B hA.2 hB.2 fun x => ?_
   constructor
   · intro hx
     rcases List.mem_cons.1 ((h x).1 (by simp [hx])) with e | e
     · subst e; have := hA.1 _ hx; omega
     · exact e
   · intro hx
     rcases List.mem_cons.1 ((h x).2 (by simp [hx])) with e | e
     · subst e; have := hB.1 _ hx; omega
     · exact e
theorem ris_pair {n : Int} : ∀ {l : List Int} {a : Int}, 0 ≤ a → risA n a l = true → (l.map Int.toNat).Pairwise (· < ·)
 | [], _, _, _ => by simp
 | x :: l, a, ha, h => by
   have h0 := h
   simp only [risA, Bool.and_eq_true, decide_eq_true_eq] at h
   rw [List.map_cons, List.pairwise_cons]
   refine ⟨fun y hy => ?_, ris_pair (by omega) h.2⟩
   obtain ⟨z, hz, rfl⟩ := List.mem_map.1 hy
   have := ris_mem h.2 z hz; omega
theorem recips {n : Nat} {s : TSecret} (h : risA n 0 s.To = true) : ((List.range (n + 1)).filter fun q => asked q s) = if s.To = [] then [0] else s.To.map Int.toNat := by
 have hs : ((List.range (n + 1)).filter fun q => asked q s).Pairwise (· < ·) := List.pairwise_lt_range.filter _
 by_cases h0 : s.To = []
 · rw [if_pos h0]
   refine inc_eq _ _ hs (by simp) fun x => ?_
   rw [List.mem_filter, List.mem_range, List.mem_singleton]
   unfold asked
   rw [h0]
   by_cases hx : x = 0
   · subst hx; simp
   · rw [if_neg hx]; simp [hx]
 · rw [if_neg h0]
   refine inc_eq _ _ hs (ris_pair (by decide) h) fun x => ?_
   rw [List.mem_filter, List.mem_range]
   unfold asked
   by_cases hx : x = 0
   · subst hx
     rw [if_pos rfl]
     constructor
     · intro hh; simp at hh; exact absurd hh h0
     · intro hm
       obtain ⟨z, hz, e⟩ := List.mem_map.1 hm
       have := ris_mem h z hz; omega
   · rw [if_neg hx]
     constructor
     · rintro ⟨_, h2⟩
       exact List.mem_map.2 ⟨x, by simpa using h2, by omega⟩
     · intro hm
       obtain ⟨z, hz, e⟩ := List.mem_map.1 hm
       have := ris_mem h z hz
       have ez : z = (x : Int) := by omega
       subst ez
       exact ⟨by omega, by simpa using hz⟩
theorem smW_of {w : TWorld} (h : TWorld.L.sm 1048576 w) : SmW w :=
 ⟨Nat.le_trans h.1.1 (by decide), Nat.le_trans h.2.1.1 (by decide), Nat.le_trans h.2.2.1.1 (by decide), Nat.le_trans h.2.2.2.1 (by decide)⟩
theorem sm_len {α : Type} {E : Rl α} {xs : List α} (h : (slL E).sm 1048576 xs) : xs.length ≤ 4000000 := Nat.le_trans h.1 (by decide)
theorem juntoref04_Setup_c {s : TSetup} {K : Int → Prop} (k : K (setC s)) : juntoref04_Setup.C s K := by
 apply juntoref04_Setup.q
 unfold juntoref04_Setup.Q
 have bad : ¬ OkS s → K 2 := fun h => by rw [setC, if_neg h] at k; exact k
 refine juntoref01_Is_c ?_
 by_cases hp : ¬ isP s.P
 · exact ct (by rw [prm_f hp]; rfl) (bad fun h => hp h.1)
 rw [Classical.not_not] at hp
 refine cf (by rw [prm_t hp]; rfl) ?_
 refine cnd (fun h => bad fun ⟨_, a, b, c, d, e⟩ => by omega) (fun h1 => ?_)
 refine cnd (fun h => bad fun ⟨_, a, b, c, d, e⟩ => by omega) (fun h2 => ?_)
 refine cnd (fun h => bad fun ⟨_, a, b, c, d, e⟩ => by omega) (fun h3 => ?_)
 refine cnd (fun h => bad fun ⟨_, a, b, c, d, e⟩ => by omega) (fun h4 => ?_)
 rw [wi64 (x := 4 * s.T_) (by omega) (by omega), wi64 (by omega) (by omega), wu64 (by omega) (by omega)]
 refine cnd (fun h => bad fun ⟨_, a, b, c, d, e⟩ => by omega) (fun h5 => ?_)
 refine cnd (fun h => bad fun ⟨_, a, b, c, d, e⟩ => by omega) (fun h6 => ?_)
 have : OkS s := ⟨hp, by omega, by omega, by omega, by omega, by omega⟩
 rw [setC, if_pos this] at k; exact k
theorem juntoref04_Rising_c {n : Int} {l : List Int} (hl : l.length < 4611686018427387904) {K : Bool → Prop} (k : K (risA n 0 l)) : juntoref04_Rising.C n l K := by
 refine juntoref04_Rising.q ?_
 refine LoopQ.range l.length (fun j => risA n (if j = 0 then 0 else ih l (j - 1)) (l.drop j) = risA n 0 l ∧ (j ≠ 0 → 1 ≤ ih l (j - 1))) ⟨rfl, fun h => absurd rfl h⟩ hl ?_ ?_
 · rintro j next hj ⟨hI, h1⟩ hn
   obtain ⟨x, hx⟩ := get_some hj
   rw [drop_cons hx] at hI
   simp only [risA] at hI
   have no : ¬ ((if j = 0 then 0 else ih l (j - 1)) < x ∧ x ≤ n) → K false := fun h => by
     have : (decide ((if j = 0 then 0 else ih l (j - 1)) < x) && decide (x ≤ n) && risA n x (l.drop (j + 1))) = false := by
       by_cases ha : (if j = 0 then 0 else ih l (j - 1)) < x
       · rw [decide_eq_false (fun hb => h ⟨ha, hb⟩)]; simp
       · rw [decide_eq_false ha]; simp
     rw [← hI, this] at k; exact k
   have go : (if j = 0 then 0 else ih l (j - 1)) < x → x ≤ n → 1 ≤ x → next (IntKind.i64.wrap ((j : Int) + 1)) := fun ha hb hc => by
     refine hn ⟨?_, fun _ => ?_⟩
     · rw [if_neg (by omega), show j + 1 - 1 = j by omega, ih_get hx, ← hI, decide_eq_true ha, decide_eq_true hb]; rfl
     · rw [show j + 1 - 1 = j by omega, ih_get hx]; exact hc
   refine ctd (by omega) ⟨by omega, x, hx, cnd (fun h => no ?_) (fun h2 => cnd (fun h => no ?_) (fun h3 => ?_))⟩
   · rintro ⟨ha, _⟩
     by_cases h0 : j = 0
     · rw [if_pos h0] at ha; omega
     · rw [if_neg h0] at ha; have := h1 h0; omega
   · rintro ⟨_, hb⟩; omega
   by_cases h0 : j = 0
   · refine cfd (by omega) (go ?_ (by omega) (by omega))
     rw [if_pos h0]; omega
   · obtain ⟨y, hy⟩ := get_some (show j - 1 < l.length by omega)
     have ew : IntKind.i64.wrap ((j : Int) - 1) = ((j - 1 : Nat) : Int) := subw1 (by omega) (by omega)
     rw [ew]
     refine ctd (by omega) ⟨by omega, y, hy, cnd (fun h => no ?_) (fun h4 => go ?_ (by omega) (by omega))⟩
     · rintro ⟨ha, _⟩
       rw [if_neg h0, ih_get hy] at ha; omega
     · rw [if_neg h0, ih_get hy]; omega
 · rintro next ⟨hI, _⟩
   refine cfd (by omega) ?_
   rw [List.drop_of_length_le (Nat.le_refl _)] at hI
   rw [← hI] at k; exact k
theorem juntoref04_Corrupted_c {s : TSetup} {l : List Int} (hl : l.length < 4611686018427387904) {K : Int → Prop} (k : K (corC s l)) : juntoref04_Corrupted.C s l K := by
 refine juntoref04_Corrupted.q (juntoref04_Setup_c ?_)
 have bad : ¬ (OkS s ∧ (l.length : Int) ≤ s.T_ ∧ risA s.N 0 l = true) → K 2 := fun h => by rw [corC, if_neg h] at k; exact k
 rcases setC_cases s with ⟨h, e⟩ | ⟨h, e⟩
 · rw [e]
   refine cf rfl (cnd (fun h2 => bad fun hh => by omega) (fun h2 => juntoref04_Rising_c hl ?_))
   cases h3 : risA s.N 0 l with
   | false => exact ct rfl (bad fun hh => by rw [h3] at hh; simp at hh)
   | true =>
     rw [corC, if_pos ⟨h, by omega, h3⟩] at k
     exact cf rfl k
 · rw [e]
   exact ct rfl (bad fun hh => h hh.1)
theorem juntoref17_Group_c {s : TSetup} {l : List Int} (hl : l.length < 4611686018427387904) {K : Int → Prop} (kbad : ¬ (OkS s ∧ risA s.N 0 l = true ∧ 4 * s.T_ + 1 ≤ l.length) → K 2) (kok : OkS s ∧ risA s.N 0 l = true ∧ 4 * s.T_ + 1 ≤ l.length → K 0) : juntoref17_Group.C s l K := by
 refine juntoref17_Group.q (juntoref04_Setup_c ?_)
 rcases setC_cases s with ⟨h, e⟩ | ⟨h, e⟩
 · rw [e]
   refine cf rfl (juntoref04_Rising_c hl ?_)
   obtain ⟨hp, h1, h2, h3, h4, h5⟩ := h
   rw [wi64 (x := 4 * s.T_) (by omega) (by omega), wi64 (by omega) (by omega)]
   cases hr : risA s.N 0 l with
   | false => exact ct rfl (kbad fun hh => by rw [hr] at hh; simp at hh)
   | true => exact cf rfl (cnd (fun h6 => kbad fun hh => by omega) (fun h6 => kok ⟨⟨hp, h1, h2, h3, h4, h5⟩, hr, by omega⟩))
 · rw [e]
   exact ct rfl (kbad fun hh => h hh.1)
theorem juntoref17_Ahead_c {l : List TAct} {a : TAct} (hl : l.length < 4611686018427387904) {K : Bool → Prop} (k1 : (∃ b ∈ l, key3 b = key3 a) → K true) (k0 : (¬ ∃ b ∈ l, key3 b = key3 a) → K false) : juntoref17_Ahead.C l a K := by
 refine juntoref17_Ahead.q ?_
 refine LoopQ.range l.length (fun j => ∀ i b, i < j → l[i]? = some b → key3 b ≠ key3 a) (fun i b hi => by omega) hl ?_ ?_
 · intro j next hj hI hn
   obtain ⟨b, hb⟩ := get_some hj
   have step : key3 b ≠ key3 a → next (IntKind.i64.wrap ((j : Int) + 1)) := fun h => hn fun i c hi hc => by
     rcases Nat.lt_or_ge i j with h' | h'
     · exact hI i c h' hc
     · obtain rfl : i = j := by omega
       rw [hb] at hc; cases hc; exact h
   refine ctd (by omega) ⟨by omega, b, hb, cnE (fun h1 => cnE (fun h2 => cnE (fun h3 => k1 ⟨b, mem_get hb, by simp [key3, h1, h2, h3]⟩) (fun h => step ?_)) (fun h => step ?_)) (fun h => step ?_)⟩
   all_goals (intro e; simp only [key3, Prod.mk.injEq] at e)
   · exact h e.2.2.symm
   · exact h e.2.1.symm
   · exact h e.1.symm
 · intro next hI
   refine cfd (by omega) (k0 ?_)
   rintro ⟨b, hb, e⟩
   obtain ⟨i, hi⟩ := List.mem_iff_getElem?.1 hb
   exact hI i b (lt_get hi) hi e
theorem juntoref17_Check_c {w : TWorld} (hc : w.Corrupted.length < 4611686018427387904) {K : Int → Prop} (k : K (checkW w)) : juntoref17_Check.C w K := by
 refine juntoref17_Check.q (juntoref04_Corrupted_c hc ?_)
 unfold checkW at k
 by_cases en : corC w.Setup w.Corrupted ≠ 0
 · have e := (corC_cases w.Setup w.Corrupted).resolve_left fun h => en h.2
   rw [e]
   rw [if_neg (by rw [e]; decide)] at k
   exact ct rfl k
 have e := Classical.not_not.1 en
 rw [e]
 rw [if_pos e] at k
 refine cf rfl (cnN (fun h1 => ?_) (fun h1 => cnd (fun h2 => ?_) (fun h2 => cnd (fun h3 => ?_) (fun h3 => cnd (fun h4 => ?_) (fun h4 => ?_)))))
 · rw [if_pos (.inl h1)] at k; exact k
 · rw [if_pos (.inr (.inl h2))] at k; exact k
 · rw [if_pos (.inr (.inr h3))] at k; exact k
 · rw [if_neg (by omega), if_pos (by omega)] at k; exact k
 rw [if_neg (by omega), if_neg (by omega)] at k
 refine LoopQ.range w.Acts.length (fun j => actsC w.Setup.N w.Corrupted (w.Acts.take j) (w.Acts.drop j) = actsC w.Setup.N w.Corrupted [] w.Acts) rfl (by omega) ?_ ?_
 · intro j next hj hI hn
   obtain ⟨a, ha⟩ := get_some hj
   refine ctd (by omega) ⟨by omega, a, ha, juntoref17_Is_c hc ?_⟩
   rw [drop_cons ha] at hI
   simp only [actsC] at hI
   have out : ∀ e : Int, actC w.Setup.N w.Corrupted (w.Acts.take j) a = e → e ≠ 0 → K e := fun e he h0 => by
     rw [← hI, if_neg (by rw [he]; exact h0), he] at k; exact k
   have bad : badAct w.Setup.N w.Corrupted a → K 2 := fun hb => out 2 (by rw [actC, if_pos hb]) (by decide)
   refine cnB (fun h1 => bad (.inl (by simpa using h1))) (fun h1 => ?_)
   refine cnd (fun h2 => bad (.inr (.inl h2))) (fun h2 => cnd (fun h3 => bad (.inr (.inr (.inl h3)))) (fun h3 => cnE (fun h4 => bad (.inr (.inr (.inr (.inl h4))))) (fun h4 => cnd (fun h5 => bad (.inr (.inr (.inr (.inr h5))))) (fun h5 => ?_))))
   have hnb : ¬ badAct w.Setup.N w.Corrupted a := by
     rintro (hh | hh | hh | hh | hh)
     · simp at h1; exact hh h1
     · exact h2 hh
     · exact h3 hh
     · exact h4 hh
     · exact h5 hh
   refine cnd (fun h6 => out 3 (by rw [actC, if_neg hnb, if_pos (by omega)]) (by decide)) (fun h6 => ⟨by omega, by omega, ?_⟩)
   rw [toNat_c]
   refine juntoref17_Ahead_c (by rw [List.length_take]; omega) (fun h7 => ct rfl (out 6 (by rw [actC, if_neg hnb, if_neg (by omega), if_pos h7]) (by decide))) (fun h7 => cf rfl (hn ?_))
   have : actC w.Setup.N w.Corrupted (w.Acts.take j) a = 0 := by rw [actC, if_neg hnb, if_neg (by omega), if_neg h7]
   rw [if_pos this, ← take_snoc ha] at hI
   exact hI
 · intro next hI
   refine cfd (by omega) ?_
   rw [← hI, List.drop_of_length_le (Nat.le_refl _)] at k
   exact k
theorem juntoref20_Error_c {w : TWorld} {hs : List Int} {d : Int} {l : List TSecret} (hc : w.Corrupted.length ≤ 4000000) (hh : hs.length ≤ 4000000) (hl : l.length ≤ 4000000) (hto : ∀ x ∈ l, x.To.length ≤ 4000000) (hsh : ∀ x ∈ l, x.Shares.length ≤ 4000000)
   {K : Int → Prop} (k : K (allC w hs d l)) : juntoref20_Error.C w hs d l K := by
 refine juntoref20_Error.q (juntoref17_Check_c (by omega) ?_)
 have out : ∀ e : Int, allC w hs d l = e → K e := fun e he => by rw [he] at k; exact k
 refine cnN (fun h => out _ (by unfold allC; rw [if_pos h])) (fun h0 => ?_)
 have hw := checkW_ok h0
 obtain ⟨hp, hN1, hN2, hT0, hT1, hNP⟩ := id hw.set
 have e0 : allC w hs d l = if ¬ (risA w.Setup.N 0 hs = true ∧ 4 * w.Setup.T_ + 1 ≤ (hs.length : Int)) then 2 else if d < 0 ∨ d > 2 * w.Setup.T_ then 2 else if l.length > 65536 then 3 else if chkL w hs d.toNat l ≠ 0 then chkL w hs d.toNat l else if w.Round + 1 > 1048576 then 8 else 0 := by
   unfold allC; rw [if_neg (by rw [h0]; simp)]
 refine juntoref17_Group_c (by omega) (fun h => ct rfl (out 2 (by rw [e0, if_pos fun hh => h ⟨hw.set, hh⟩]))) (fun h => cf rfl ?_)
 obtain ⟨_, hr, hlen⟩ := h
 rw [if_neg (by simp; exact ⟨hr, hlen⟩)] at e0
 rw [wi64 (x := 2 * w.Setup.T_) (by omega) (by omega)]
 refine cnd (fun h => out 2 (by rw [e0, if_pos (.inl h)])) (fun h1 => cnd (fun h => out 2 (by rw [e0, if_pos (.inr h)])) (fun h2 => ?_))
 rw [if_neg (by omega)] at e0
 refine cnd (fun h => out 3 (by rw [e0, if_pos (by omega)])) (fun h3 => ?_)
 rw [if_neg (by omega)] at e0
 obtain ⟨e, rfl⟩ : ∃ e : Nat, d = e := ⟨d.toNat, by omega⟩
 rw [toNat_c] at e0
 have h13 := hs13 hN2 hr
 refine LoopQ.range l.length (fun j => chkL w hs e (l.drop j) = chkL w hs e l) rfl (by omega) ?_ ?_
 · intro j next hj hI hn
   obtain ⟨s, hs0⟩ := get_some hj
   rw [drop_cons hs0] at hI
   simp only [chkL] at hI
   have bad : ∀ c : Int, chkC w hs e s = c → c ≠ 0 → K c := fun c hcc hc0 => by
     refine out c ?_
     rw [if_neg (by rw [hcc]; exact hc0), hcc] at hI
     rw [e0, ← hI, if_pos hc0]
   refine ctd (by omega) ⟨by omega, s, hs0, juntoref04_Rising_c (by have := hto s (mem_get hs0); omega) ?_⟩
   cases hr2 : risA w.Setup.N 0 s.To with
   | false => exact ct rfl (bad 2 (by unfold chkC; rw [hr2]; simp) (by decide))
   | true =>
     refine cf rfl (cnN (fun h => bad 2 ?_ (by decide)) (fun h4 => juntoref01_Within_c (by have := hsh s (mem_get hs0); omega) ?_))
     · unfold chkC; rw [if_pos hr2, if_neg (fun hx => h (by omega))]
     · rcases codeB_ne w.Setup.P s.Shares with ⟨e1, hb⟩ | ⟨e1, hb⟩
       · rw [e1]
         have hsl : s.Shares.length = hs.length := by omega
         refine cf rfl (juntoref20_Line_c hw.set hw.cor hr hlen (by omega) (by omega) (fun y hy => below_lt hb hy) (fun f hf => cf rfl (hn ?_)) (fun hno g => ct rfl (bad 12 ?_ (by decide))))
         · have : chkC w hs e s = 0 := by unfold chkC; rw [if_pos hr2, if_pos ⟨hsl, hb⟩, if_pos ⟨f, hf⟩]
           rw [if_pos this] at hI; exact hI
         · unfold chkC; rw [if_pos hr2, if_pos ⟨hsl, hb⟩, if_neg (by rintro ⟨f, hf⟩; exact hno f hf)]
       · rw [e1]
         exact ct rfl (bad 2 (by unfold chkC; rw [if_pos hr2, if_neg (fun hx => by rw [hb] at hx; simp at hx)]) (by decide))
 · intro next hI
   rw [List.drop_of_length_le (Nat.le_refl _)] at hI
   have hchk : chkL w hs e l = 0 := hI.symm
   rw [if_neg (by rw [hchk]; simp)] at e0
   have hr1 := hw.r1
   refine cfd (by omega) (cnE (fun h => out 8 ?_) (fun h => out 0 ?_))
   · rw [e0, if_pos (by omega)]
   · rw [e0, if_neg (by omega)]
end Go.Proofs.Ytajdpkinlnaidaa.Pl
end
section
set_option linter.unusedVariables false
set_option linter.unusedSimpArgs false
namespace Go.Proofs.Ytajdpkinlnaidaa.Pl
open Go.Sx Go.Lf Go.Proofs.Ytajdpkinlnaidaa.Sh Go.Proofs.Ytajdpkinlnaidaa.Sp
theorem isP11 : isP 11 := ⟨by decide, by decide, fun d h2 hd => by
 have : d = 2 ∨ d = 3 := by
   rcases Nat.lt_or_ge d 4 with h | h
   · omega
   · have := Nat.mul_le_mul h h; omega
 rcases this with rfl | rfl <;> decide⟩
end Go.Proofs.Ytajdpkinlnaidaa.Pl
end
