import Derived.Test.YtlhcaangdenoaaaSTypes
import Derived.Test.YtlhcaangdenoaaaSFnJuntoref01
namespace Go.Lf
end Go.Lf
namespace Go.Sx
end Go.Sx
set_option linter.unusedVariables false
set_option linter.unusedSimpArgs false
set_option maxRecDepth 100000
namespace Go.Proofs.Ytlhcaangdenoaaa.Sh
open Go.Sx
def juntoref03_Solve.A : Ann where
  loops := fun i => match i with
    | 12294 => [(8, .slice), (19, .int .i64)]
    | 45073 => [(46, .int .i64)]
    | _ => []
  plans := fun i => match i with
    | 14 => .first 0 (.first 1 (.first 2 (.first 3 (.first 5 (.first 6 (.first 7 (.read 4 (.read 8 (.first 9 (.alt 10 [4, 8] (.done) (.stop)))))))))))
    | _ => .stop
def juntoref03_Solve.W (p : Int) (mA : Option Addr) (mn mc : Nat) (vA : Option Addr) (vn vc : Nat) (H : Heap) (R : Value → Heap → Prop) : Prop :=
  LoopI (σ := (Option Addr × Nat × Nat) × Int) (fun κ => κ ((none, 0, 0), 0) H) fun s z H_ next =>
  cond (decide (s.2 < ((vn : Nat) : Int))) (∃ a : Addr, vA = some a ∧ 0 ≤ s.2 ∧ s.2 < ((vn : Nat) : Int) ∧ ∃ x : Int, cellH H_ (a.add (Int.toNat s.2)) = some (.int .u64 x) ∧ NewH (H_.push (.cells #[.int .u64 x] 22 (0, 0))) fun H_2 =>
  NewH (H_2.push (.cells #[.slice (some (Addr.mk H_.size 0 none)) 1 1] 30 (0, 0))) fun H_3 =>
  AppendV 30 1 24 [.slice none 0 0] H_3 s.1.1 s.1.2.1 s.1.2.2 (some (Addr.mk H_2.size 0 none)) 1 fun vA2 vn2 vc2 H_4 =>
  next ((vA2, vn2, vc2), IntKind.i64.wrap (s.2 + 1)) H_4)
   (∃ a2 : Addr, mA = some a2 ∧ 0 ≤ (0 : Int) ∧ (0 : Int) < ((mn : Nat) : Int) ∧ ∃ (xA : Option Addr) (xn xc : Nat), cellH H_ (a2.add 0) = some (.slice xA xn xc) ∧ CallH P N.juntoref03_beside [.slice mA mn mc, .slice s.1.1 s.1.2.1 s.1.2.2] H_ fun v2 H_5 =>
  ∃ (rA : Option Addr) (rn rc : Nat), v2 = .slice rA rn rc ∧ CallH P N.juntoref03_Reduce [.int .u64 p, .slice rA rn rc, .int .i64 ((xn : Nat) : Int)] H_5 fun v3 H_6 =>
  ∃ (r0A : Option Addr) (r0n r0c : Nat), ∃ (r1A : Option Addr) (r1n r1c : Nat), v3 = .tuple #[.slice r0A r0n r0c, .slice r1A r1n r1c] ∧ 0 ≤ ((xn : Nat) : Int) ∧ ((xn : Nat) : Int) ≤ ((xn : Nat) : Int) ∧ ((xn : Nat) : Int) * 8 ≤ 2 ^ 48 ∧ ((xn : Nat) : Int) < 2 ^ 62 ∧ NewH (H_6.push (.cells (repl (Int.toNat ((xn : Nat) : Int)) [.int .u64 0]).toArray 22 (0, 0))) fun H_7 =>
  LoopI (σ := Int) (fun κ => κ 0 H_7) fun s2 z2 H_8 next2 =>
  cond (decide (s2 < ((r0n : Nat) : Int))) (∃ a3 : Addr, r0A = some a3 ∧ 0 ≤ s2 ∧ s2 < ((r0n : Nat) : Int) ∧ ∃ (xA2 : Option Addr) (xn2 xc2 : Nat), cellH H_8 (a3.add (Int.toNat s2)) = some (.slice xA2 xn2 xc2) ∧ cond (decide (s2 < ((r1n : Nat) : Int))) (∃ a4 : Addr, r1A = some a4 ∧ 0 ≤ s2 ∧ s2 < ((r1n : Nat) : Int) ∧ ∃ a5 : Addr, xA2 = some a5 ∧ 0 ≤ ((xn : Nat) : Int) ∧ ((xn : Nat) : Int) < ((xn2 : Nat) : Int) ∧ ∃ x2 : Int, cellH H_8 (a4.add (Int.toNat s2)) = some (.int .i64 x2) ∧ ∃ x3 : Int, cellH H_8 (a5.add (Int.toNat ((xn : Nat) : Int))) = some (.int .u64 x3) ∧ ∃ a6 : Addr, (some (Addr.mk H_6.size 0 none) : Option Addr) = some a6 ∧ 0 ≤ x2 ∧ x2 < ((Int.toNat ((xn : Nat) : Int) : Nat) : Int) ∧ MayWrite H_8 (a6.add (Int.toNat x2)) 1 ∧ NewH (setH H_8 (a6.add (Int.toNat x2)) (.int .u64 x3)) fun H_9 =>
  next2 (IntKind.i64.wrap (s2 + 1)) H_9)
   (∃ a7 : Addr, xA2 = some a7 ∧ 0 ≤ ((xn : Nat) : Int) ∧ ((xn : Nat) : Int) < ((xn2 : Nat) : Int) ∧ ∃ x4 : Int, cellH H_8 (a7.add (Int.toNat ((xn : Nat) : Int))) = some (.int .u64 x4) ∧ cond (x4 != 0) (R (.tuple #[.slice none 0 0, .bool false]) H_8)
   (next2 (IntKind.i64.wrap (s2 + 1)) H_8)))
   (R (.tuple #[.slice (some (Addr.mk H_6.size 0 none)) (Int.toNat ((xn : Nat) : Int)) (Int.toNat ((xn : Nat) : Int)), .bool true]) H_8))
theorem juntoref03_Solve.ok (p : Int) (mA : Option Addr) (mn mc : Nat) (vA : Option Addr) (vn vc : Nat) (H : Heap) (R : Value → Heap → Prop) (h : juntoref03_Solve.W p mA mn mc vA vn vc H R) : CallH P N.juntoref03_Solve ([.int .u64 p, .slice mA mn mc, .slice vA vn vc] : List Value) H R := by
  have e : juntoref03_Solve.W p mA mn mc vA vn vc H R = sxFn P T Sh.R nf juntoref03_Solve.A Try.f98.results.toList (bodyOf Try.f98) (([(.int .u64 p : Value), (.slice mA mn mc : Value), (.slice vA vn vc : Value)] : List Value) ++ List.replicate (72 - ([(.int .u64 p : Value), (.slice mA mn mc : Value), (.slice vA vn vc : Value)] : List Value).length) undef) H R := by kernel_rfl
  exact call_of_sx fits bodies mixed Try.func98 (c := bodyOf Try.f98) (by kernel_rfl) Try.ntmps98 juntoref03_Solve.A (by kernel_rfl) (e.mp h)
def juntoref03_Reduce.A : Ann where
  loops := fun i => match i with
    | 16389 => [(8, .slice), (9, .int .i64)]
    | 32777 => [(11, .int .i64)]
    | 57361 => [(73, .int .i64)]
    | 77847 => [(95, .int .i64)]
    | _ => []
  plans := fun i => match i with
    | 11 => .first 0 (.first 1 (.first 2 (.first 3 (.first 4 (.first 5 (.first 6 (.first 8 (.first 9 (.first 10 (.read 7 (.read 11 (.first 12 (.alt 13 [7, 11] (.first 14 (.alt 15 [] (.done) (.stop))) (.stop))))))))))))))
    | 16 => .first 0 (.first 1 (.first 2 (.first 4 (.first 5 (.first 6 (.first 7 (.first 8 (.first 10 (.first 13 (.read 3 (.read 9 (.first 11 (.read 12 (.alt 14 [9, 12] (.first 15 (.alt 16 [3] (.done) (.stop))) (.stop)))))))))))))))
    | 22 => .first 0 (.first 1 (.first 2 (.first 3 (.first 5 (.first 6 (.first 7 (.first 9 (.first 10 (.first 11 (.first 13 (.read 4 (.read 8 (.read 12 (.first 14 (.read 15 (.alt 16 [4, 8, 12, 15] (.done) (.stop)))))))))))))))))
    | _ => .stop
def juntoref03_Reduce.W (p : Int) (mA : Option Addr) (mn mc : Nat) (columns : Int) (H : Heap) (R : Value → Heap → Prop) : Prop :=
  CallH P N.juntoref03_copied [.slice mA mn mc] H fun v H_ =>
  ∃ (rA : Option Addr) (rn rc : Nat), v = .slice rA rn rc ∧ LoopI (σ := (Option Addr × Nat × Nat) × Int) (fun κ => κ ((none, 0, 0), 0) H_) fun s z H_2 next =>
  cond (decide (s.2 < columns)) (LoopI (σ := Int) (fun κ => κ ((s.1.2.1 : Nat) : Int) H_2) fun s2 z2 H_3 next2 =>
  cond (decide (s2 < ((rn : Nat) : Int))) (∃ a : Addr, rA = some a ∧ 0 ≤ s2 ∧ s2 < ((rn : Nat) : Int) ∧ ∃ (xA : Option Addr) (xn xc : Nat), cellH H_3 (a.add (Int.toNat s2)) = some (.slice xA xn xc) ∧ ∃ a2 : Addr, xA = some a2 ∧ 0 ≤ s.2 ∧ s.2 < ((xn : Nat) : Int) ∧ ∃ x : Int, cellH H_3 (a2.add (Int.toNat s.2)) = some (.int .u64 x) ∧ cond (x == 0) (next2 (IntKind.i64.wrap (s2 + 1)) H_3)
   (cond (decide (s2 ≥ ((rn : Nat) : Int))) (next ((s.1.1, s.1.2.1, s.1.2.2), IntKind.i64.wrap (s.2 + 1)) H_3)
   (∃ a3 : Addr, rA = some a3 ∧ 0 ≤ s2 ∧ s2 < ((rn : Nat) : Int) ∧ ∃ a4 : Addr, rA = some a4 ∧ 0 ≤ ((s.1.2.1 : Nat) : Int) ∧ ((s.1.2.1 : Nat) : Int) < ((rn : Nat) : Int) ∧ ∃ (xA2 : Option Addr) (xn2 xc2 : Nat), cellH H_3 (a3.add (Int.toNat s2)) = some (.slice xA2 xn2 xc2) ∧ ∃ (xA3 : Option Addr) (xn3 xc3 : Nat), cellH H_3 (a4.add (Int.toNat ((s.1.2.1 : Nat) : Int))) = some (.slice xA3 xn3 xc3) ∧ ∃ a5 : Addr, rA = some a5 ∧ 0 ≤ ((s.1.2.1 : Nat) : Int) ∧ ((s.1.2.1 : Nat) : Int) < ((rn : Nat) : Int) ∧ MayWrite H_3 (a5.add (Int.toNat ((s.1.2.1 : Nat) : Int))) 1 ∧ NewH (setH H_3 (a5.add (Int.toNat ((s.1.2.1 : Nat) : Int))) (.slice xA2 xn2 xc2)) fun H_4 =>
  ∃ a6 : Addr, rA = some a6 ∧ 0 ≤ s2 ∧ s2 < ((rn : Nat) : Int) ∧ MayWrite H_4 (a6.add (Int.toNat s2)) 1 ∧ NewH (setH H_4 (a6.add (Int.toNat s2)) (.slice xA3 xn3 xc3)) fun H_5 =>
  ∃ a7 : Addr, rA = some a7 ∧ 0 ≤ ((s.1.2.1 : Nat) : Int) ∧ ((s.1.2.1 : Nat) : Int) < ((rn : Nat) : Int) ∧ ∃ (xA4 : Option Addr) (xn4 xc4 : Nat), cellH H_5 (a7.add (Int.toNat ((s.1.2.1 : Nat) : Int))) = some (.slice xA4 xn4 xc4) ∧ ∃ a8 : Addr, xA4 = some a8 ∧ 0 ≤ s.2 ∧ s.2 < ((xn4 : Nat) : Int) ∧ ∃ x2 : Int, cellH H_5 (a8.add (Int.toNat s.2)) = some (.int .u64 x2) ∧ CallH P N.juntoref01_Inv [.int .u64 p, .int .u64 x2] H_5 fun v2 H_6 =>
  ∃ r : Int, v2 = .int .u64 r ∧ ∃ a9 : Addr, rA = some a9 ∧ 0 ≤ ((s.1.2.1 : Nat) : Int) ∧ ((s.1.2.1 : Nat) : Int) < ((rn : Nat) : Int) ∧ ∃ (xA5 : Option Addr) (xn5 xc5 : Nat), cellH H_6 (a9.add (Int.toNat ((s.1.2.1 : Nat) : Int))) = some (.slice xA5 xn5 xc5) ∧ LoopI (σ := Int) (fun κ => κ 0 H_6) fun s3 z3 H_7 next3 =>
  cond (decide (s3 < ((xn5 : Nat) : Int))) (∃ a10 : Addr, rA = some a10 ∧ 0 ≤ ((s.1.2.1 : Nat) : Int) ∧ ((s.1.2.1 : Nat) : Int) < ((rn : Nat) : Int) ∧ ∃ a11 : Addr, rA = some a11 ∧ 0 ≤ ((s.1.2.1 : Nat) : Int) ∧ ((s.1.2.1 : Nat) : Int) < ((rn : Nat) : Int) ∧ ∃ (xA6 : Option Addr) (xn6 xc6 : Nat), cellH H_7 (a10.add (Int.toNat ((s.1.2.1 : Nat) : Int))) = some (.slice xA6 xn6 xc6) ∧ ∃ (xA7 : Option Addr) (xn7 xc7 : Nat), cellH H_7 (a11.add (Int.toNat ((s.1.2.1 : Nat) : Int))) = some (.slice xA7 xn7 xc7) ∧ ∃ a12 : Addr, xA7 = some a12 ∧ 0 ≤ s3 ∧ s3 < ((xn7 : Nat) : Int) ∧ ∃ x3 : Int, cellH H_7 (a12.add (Int.toNat s3)) = some (.int .u64 x3) ∧ CallH P N.juntoref01_Mul [.int .u64 p, .int .u64 x3, .int .u64 r] H_7 fun v3 H_8 =>
  ∃ r2 : Int, v3 = .int .u64 r2 ∧ cellH H_8 (a10.add (Int.toNat ((s.1.2.1 : Nat) : Int))) = some (.slice xA6 xn6 xc6) ∧ ∃ a13 : Addr, xA6 = some a13 ∧ 0 ≤ s3 ∧ s3 < ((xn6 : Nat) : Int) ∧ MayWrite H_8 (a13.add (Int.toNat s3)) 1 ∧ NewH (setH H_8 (a13.add (Int.toNat s3)) (.int .u64 r2)) fun H_9 =>
  next3 (IntKind.i64.wrap (s3 + 1)) H_9)
   (LoopI (σ := Int) (fun κ => κ 0 H_7) fun s4 z4 H_10 next4 =>
  cond (decide (s4 < ((rn : Nat) : Int))) (cond (s4 != ((s.1.2.1 : Nat) : Int)) (∃ a14 : Addr, rA = some a14 ∧ 0 ≤ s4 ∧ s4 < ((rn : Nat) : Int) ∧ ∃ a15 : Addr, rA = some a15 ∧ 0 ≤ ((s.1.2.1 : Nat) : Int) ∧ ((s.1.2.1 : Nat) : Int) < ((rn : Nat) : Int) ∧ ∃ a16 : Addr, rA = some a16 ∧ 0 ≤ s4 ∧ s4 < ((rn : Nat) : Int) ∧ ∃ (xA8 : Option Addr) (xn8 xc8 : Nat), cellH H_10 (a14.add (Int.toNat s4)) = some (.slice xA8 xn8 xc8) ∧ ∃ (xA9 : Option Addr) (xn9 xc9 : Nat), cellH H_10 (a15.add (Int.toNat ((s.1.2.1 : Nat) : Int))) = some (.slice xA9 xn9 xc9) ∧ ∃ (xA10 : Option Addr) (xn10 xc10 : Nat), cellH H_10 (a16.add (Int.toNat s4)) = some (.slice xA10 xn10 xc10) ∧ ∃ a17 : Addr, xA10 = some a17 ∧ 0 ≤ s.2 ∧ s.2 < ((xn10 : Nat) : Int) ∧ ∃ x4 : Int, cellH H_10 (a17.add (Int.toNat s.2)) = some (.int .u64 x4) ∧ CallH P N.juntoref03_less [.int .u64 p, .slice xA8 xn8 xc8, .slice xA9 xn9 xc9, .int .u64 x4] H_10 fun v4 H_11 =>
  v4 = .tuple #[] ∧ next4 (IntKind.i64.wrap (s4 + 1)) H_11)
   (next4 (IntKind.i64.wrap (s4 + 1)) H_10))
   (NewH (H_10.push (.cells #[.int .i64 s.2] 3 (0, 0))) fun H_12 =>
  AppendV 3 1 8 [.int .i64 0] H_12 s.1.1 s.1.2.1 s.1.2.2 (some (Addr.mk H_10.size 0 none)) 1 fun vA vn vc H_13 =>
  next ((vA, vn, vc), IntKind.i64.wrap (s.2 + 1)) H_13))))) (cond (decide (s2 ≥ ((rn : Nat) : Int))) (next ((s.1.1, s.1.2.1, s.1.2.2), IntKind.i64.wrap (s.2 + 1)) H_3)
   (∃ a18 : Addr, rA = some a18 ∧ 0 ≤ s2 ∧ s2 < ((rn : Nat) : Int) ∧ ∃ a19 : Addr, rA = some a19 ∧ 0 ≤ ((s.1.2.1 : Nat) : Int) ∧ ((s.1.2.1 : Nat) : Int) < ((rn : Nat) : Int) ∧ ∃ (xA11 : Option Addr) (xn11 xc11 : Nat), cellH H_3 (a18.add (Int.toNat s2)) = some (.slice xA11 xn11 xc11) ∧ ∃ (xA12 : Option Addr) (xn12 xc12 : Nat), cellH H_3 (a19.add (Int.toNat ((s.1.2.1 : Nat) : Int))) = some (.slice xA12 xn12 xc12) ∧ ∃ a20 : Addr, rA = some a20 ∧ 0 ≤ ((s.1.2.1 : Nat) : Int) ∧ ((s.1.2.1 : Nat) : Int) < ((rn : Nat) : Int) ∧ MayWrite H_3 (a20.add (Int.toNat ((s.1.2.1 : Nat) : Int))) 1 ∧ NewH (setH H_3 (a20.add (Int.toNat ((s.1.2.1 : Nat) : Int))) (.slice xA11 xn11 xc11)) fun H_14 =>
  ∃ a21 : Addr, rA = some a21 ∧ 0 ≤ s2 ∧ s2 < ((rn : Nat) : Int) ∧ MayWrite H_14 (a21.add (Int.toNat s2)) 1 ∧ NewH (setH H_14 (a21.add (Int.toNat s2)) (.slice xA12 xn12 xc12)) fun H_15 =>
  ∃ a22 : Addr, rA = some a22 ∧ 0 ≤ ((s.1.2.1 : Nat) : Int) ∧ ((s.1.2.1 : Nat) : Int) < ((rn : Nat) : Int) ∧ ∃ (xA13 : Option Addr) (xn13 xc13 : Nat), cellH H_15 (a22.add (Int.toNat ((s.1.2.1 : Nat) : Int))) = some (.slice xA13 xn13 xc13) ∧ ∃ a23 : Addr, xA13 = some a23 ∧ 0 ≤ s.2 ∧ s.2 < ((xn13 : Nat) : Int) ∧ ∃ x5 : Int, cellH H_15 (a23.add (Int.toNat s.2)) = some (.int .u64 x5) ∧ CallH P N.juntoref01_Inv [.int .u64 p, .int .u64 x5] H_15 fun v6 H_16 =>
  ∃ r3 : Int, v6 = .int .u64 r3 ∧ ∃ a24 : Addr, rA = some a24 ∧ 0 ≤ ((s.1.2.1 : Nat) : Int) ∧ ((s.1.2.1 : Nat) : Int) < ((rn : Nat) : Int) ∧ ∃ (xA14 : Option Addr) (xn14 xc14 : Nat), cellH H_16 (a24.add (Int.toNat ((s.1.2.1 : Nat) : Int))) = some (.slice xA14 xn14 xc14) ∧ LoopI (σ := Int) (fun κ => κ 0 H_16) fun s5 z5 H_17 next5 =>
  cond (decide (s5 < ((xn14 : Nat) : Int))) (∃ a25 : Addr, rA = some a25 ∧ 0 ≤ ((s.1.2.1 : Nat) : Int) ∧ ((s.1.2.1 : Nat) : Int) < ((rn : Nat) : Int) ∧ ∃ a26 : Addr, rA = some a26 ∧ 0 ≤ ((s.1.2.1 : Nat) : Int) ∧ ((s.1.2.1 : Nat) : Int) < ((rn : Nat) : Int) ∧ ∃ (xA15 : Option Addr) (xn15 xc15 : Nat), cellH H_17 (a25.add (Int.toNat ((s.1.2.1 : Nat) : Int))) = some (.slice xA15 xn15 xc15) ∧ ∃ (xA16 : Option Addr) (xn16 xc16 : Nat), cellH H_17 (a26.add (Int.toNat ((s.1.2.1 : Nat) : Int))) = some (.slice xA16 xn16 xc16) ∧ ∃ a27 : Addr, xA16 = some a27 ∧ 0 ≤ s5 ∧ s5 < ((xn16 : Nat) : Int) ∧ ∃ x6 : Int, cellH H_17 (a27.add (Int.toNat s5)) = some (.int .u64 x6) ∧ CallH P N.juntoref01_Mul [.int .u64 p, .int .u64 x6, .int .u64 r3] H_17 fun v7 H_18 =>
  ∃ r4 : Int, v7 = .int .u64 r4 ∧ cellH H_18 (a25.add (Int.toNat ((s.1.2.1 : Nat) : Int))) = some (.slice xA15 xn15 xc15) ∧ ∃ a28 : Addr, xA15 = some a28 ∧ 0 ≤ s5 ∧ s5 < ((xn15 : Nat) : Int) ∧ MayWrite H_18 (a28.add (Int.toNat s5)) 1 ∧ NewH (setH H_18 (a28.add (Int.toNat s5)) (.int .u64 r4)) fun H_19 =>
  next5 (IntKind.i64.wrap (s5 + 1)) H_19)
   (LoopI (σ := Int) (fun κ => κ 0 H_17) fun s6 z6 H_20 next6 =>
  cond (decide (s6 < ((rn : Nat) : Int))) (cond (s6 != ((s.1.2.1 : Nat) : Int)) (∃ a29 : Addr, rA = some a29 ∧ 0 ≤ s6 ∧ s6 < ((rn : Nat) : Int) ∧ ∃ a30 : Addr, rA = some a30 ∧ 0 ≤ ((s.1.2.1 : Nat) : Int) ∧ ((s.1.2.1 : Nat) : Int) < ((rn : Nat) : Int) ∧ ∃ a31 : Addr, rA = some a31 ∧ 0 ≤ s6 ∧ s6 < ((rn : Nat) : Int) ∧ ∃ (xA17 : Option Addr) (xn17 xc17 : Nat), cellH H_20 (a29.add (Int.toNat s6)) = some (.slice xA17 xn17 xc17) ∧ ∃ (xA18 : Option Addr) (xn18 xc18 : Nat), cellH H_20 (a30.add (Int.toNat ((s.1.2.1 : Nat) : Int))) = some (.slice xA18 xn18 xc18) ∧ ∃ (xA19 : Option Addr) (xn19 xc19 : Nat), cellH H_20 (a31.add (Int.toNat s6)) = some (.slice xA19 xn19 xc19) ∧ ∃ a32 : Addr, xA19 = some a32 ∧ 0 ≤ s.2 ∧ s.2 < ((xn19 : Nat) : Int) ∧ ∃ x7 : Int, cellH H_20 (a32.add (Int.toNat s.2)) = some (.int .u64 x7) ∧ CallH P N.juntoref03_less [.int .u64 p, .slice xA17 xn17 xc17, .slice xA18 xn18 xc18, .int .u64 x7] H_20 fun v8 H_21 =>
  v8 = .tuple #[] ∧ next6 (IntKind.i64.wrap (s6 + 1)) H_21)
   (next6 (IntKind.i64.wrap (s6 + 1)) H_20))
   (NewH (H_20.push (.cells #[.int .i64 s.2] 3 (0, 0))) fun H_22 =>
  AppendV 3 1 8 [.int .i64 0] H_22 s.1.1 s.1.2.1 s.1.2.2 (some (Addr.mk H_20.size 0 none)) 1 fun vA2 vn2 vc2 H_23 =>
  next ((vA2, vn2, vc2), IntKind.i64.wrap (s.2 + 1)) H_23)))))
   (R (.tuple #[.slice rA rn rc, .slice s.1.1 s.1.2.1 s.1.2.2]) H_2)
theorem juntoref03_Reduce.ok (p : Int) (mA : Option Addr) (mn mc : Nat) (columns : Int) (H : Heap) (R : Value → Heap → Prop) (h : juntoref03_Reduce.W p mA mn mc columns H R) : CallH P N.juntoref03_Reduce ([.int .u64 p, .slice mA mn mc, .int .i64 columns] : List Value) H R := by
  have e : juntoref03_Reduce.W p mA mn mc columns H R = sxFn P T Sh.R nf juntoref03_Reduce.A Try.f120.results.toList (bodyOf Try.f120) (([(.int .u64 p : Value), (.slice mA mn mc : Value), (.int .i64 columns : Value)] : List Value) ++ List.replicate (125 - ([(.int .u64 p : Value), (.slice mA mn mc : Value), (.int .i64 columns : Value)] : List Value).length) undef) H R := by kernel_rfl
  exact call_of_sx fits bodies mixed Try.func120 (c := bodyOf Try.f120) (by kernel_rfl) Try.ntmps120 juntoref03_Reduce.A (by kernel_rfl) (e.mp h)
def juntoref03_beside.A : Ann where
  loops := fun i => match i with
    | 12294 => [(5, .slice), (10, .int .i64)]
    | _ => []
  plans := fun i => match i with
    | 5 => .first 0 (.first 2 (.first 4 (.first 5 (.first 6 (.read 7 (.alt 1 [] (.alt 3 [] (.alt 8 [7] (.alt 9 [] (.alt 10 [] (.first 11 (.done)) (.stop)) (.stop)) (.stop)) (.stop)) (.stop)))))))
    | _ => .stop
def juntoref03_beside.W (mA : Option Addr) (mn mc : Nat) (moreA : Option Addr) (moren morec : Nat) (H : Heap) (R : Value → Heap → Prop) : Prop :=
  LoopI (σ := (Option Addr × Nat × Nat) × Int) (fun κ => κ ((none, 0, 0), 0) H) fun s z H_ next =>
  cond (decide (s.2 < ((mn : Nat) : Int))) (∃ a : Addr, mA = some a ∧ 0 ≤ s.2 ∧ s.2 < ((mn : Nat) : Int) ∧ ∃ (xA : Option Addr) (xn xc : Nat), cellH H_ (a.add (Int.toNat s.2)) = some (.slice xA xn xc) ∧ ∃ a2 : Addr, moreA = some a2 ∧ 0 ≤ s.2 ∧ s.2 < ((moren : Nat) : Int) ∧ ∃ (xA2 : Option Addr) (xn2 xc2 : Nat), cellH H_ (a2.add (Int.toNat s.2)) = some (.slice xA2 xn2 xc2) ∧ NewH (H_.push (.cells #[] 22 (0, 0))) fun H_2 =>
  cellH H_2 (a2.add (Int.toNat s.2)) = some (.slice xA2 xn2 xc2) ∧ AppendV 22 1 8 [.int .u64 0] H_2 (some (Addr.mk H_.size 0 none)) 0 0 xA xn fun vA vn vc H_3 =>
  cellH H_3 (a2.add (Int.toNat s.2)) = some (.slice xA2 xn2 xc2) ∧ AppendV 22 1 8 [.int .u64 0] H_3 vA vn vc xA2 xn2 fun vA2 vn2 vc2 H_4 =>
  NewH (H_4.push (.cells #[.slice vA2 vn2 vc2] 30 (0, 0))) fun H_5 =>
  AppendV 30 1 24 [.slice none 0 0] H_5 s.1.1 s.1.2.1 s.1.2.2 (some (Addr.mk H_4.size 0 none)) 1 fun vA3 vn3 vc3 H_6 =>
  next ((vA3, vn3, vc3), IntKind.i64.wrap (s.2 + 1)) H_6)
   (R (.slice s.1.1 s.1.2.1 s.1.2.2) H_)
theorem juntoref03_beside.ok (mA : Option Addr) (mn mc : Nat) (moreA : Option Addr) (moren morec : Nat) (H : Heap) (R : Value → Heap → Prop) (h : juntoref03_beside.W mA mn mc moreA moren morec H R) : CallH P N.juntoref03_beside ([.slice mA mn mc, .slice moreA moren morec] : List Value) H R := by
  have e : juntoref03_beside.W mA mn mc moreA moren morec H R = sxFn P T Sh.R nf juntoref03_beside.A Try.f121.results.toList (bodyOf Try.f121) (([(.slice mA mn mc : Value), (.slice moreA moren morec : Value)] : List Value) ++ List.replicate (28 - ([(.slice mA mn mc : Value), (.slice moreA moren morec : Value)] : List Value).length) undef) H R := by kernel_rfl
  exact call_of_sx fits bodies mixed Try.func121 (c := bodyOf Try.f121) (by kernel_rfl) Try.ntmps121 juntoref03_beside.A (by kernel_rfl) (e.mp h)
def juntoref03_copied.A : Ann where
  loops := fun i => match i with
    | 12294 => [(3, .slice), (8, .int .i64)]
    | _ => []
  plans := fun i => match i with
    | _ => .stop
def juntoref03_copied.W (mA : Option Addr) (mn mc : Nat) (H : Heap) (R : Value → Heap → Prop) : Prop :=
  LoopI (σ := (Option Addr × Nat × Nat) × Int) (fun κ => κ ((none, 0, 0), 0) H) fun s z H_ next =>
  cond (decide (s.2 < ((mn : Nat) : Int))) (∃ a : Addr, mA = some a ∧ 0 ≤ s.2 ∧ s.2 < ((mn : Nat) : Int) ∧ ∃ (xA : Option Addr) (xn xc : Nat), cellH H_ (a.add (Int.toNat s.2)) = some (.slice xA xn xc) ∧ NewH (H_.push (.cells #[] 22 (0, 0))) fun H_2 =>
  AppendV 22 1 8 [.int .u64 0] H_2 (some (Addr.mk H_.size 0 none)) 0 0 xA xn fun vA vn vc H_3 =>
  NewH (H_3.push (.cells #[.slice vA vn vc] 30 (0, 0))) fun H_4 =>
  AppendV 30 1 24 [.slice none 0 0] H_4 s.1.1 s.1.2.1 s.1.2.2 (some (Addr.mk H_3.size 0 none)) 1 fun vA2 vn2 vc2 H_5 =>
  next ((vA2, vn2, vc2), IntKind.i64.wrap (s.2 + 1)) H_5)
   (R (.slice s.1.1 s.1.2.1 s.1.2.2) H_)
theorem juntoref03_copied.ok (mA : Option Addr) (mn mc : Nat) (H : Heap) (R : Value → Heap → Prop) (h : juntoref03_copied.W mA mn mc H R) : CallH P N.juntoref03_copied ([.slice mA mn mc] : List Value) H R := by
  have e : juntoref03_copied.W mA mn mc H R = sxFn P T Sh.R nf juntoref03_copied.A Try.f138.results.toList (bodyOf Try.f138) (([(.slice mA mn mc : Value)] : List Value) ++ List.replicate (20 - ([(.slice mA mn mc : Value)] : List Value).length) undef) H R := by kernel_rfl
  exact call_of_sx fits bodies mixed Try.func138 (c := bodyOf Try.f138) (by kernel_rfl) Try.ntmps138 juntoref03_copied.A (by kernel_rfl) (e.mp h)
def juntoref03_less.A : Ann where
  loops := fun i => match i with
    | 4100 => [(11, .int .i64)]
    | _ => []
  plans := fun i => match i with
    | 3 => .first 0 (.first 1 (.first 2 (.first 3 (.first 4 (.first 5 (.first 7 (.first 8 (.first 9 (.first 10 (.first 11 (.read 6 (.read 12 (.alt 13 [12] (.alt 14 [6] (.first 15 (.alt 16 [] (.done) (.stop))) (.stop)) (.stop))))))))))))))
    | _ => .stop
def juntoref03_less.W (p : Int) (rowA : Option Addr) (rown rowc : Nat) (byA : Option Addr) (byn byc : Nat) (k : Int) (H : Heap) (R : Value → Heap → Prop) : Prop :=
  LoopI (σ := Int) (fun κ => κ 0 H) fun s z H_ next =>
  cond (decide (s < ((rown : Nat) : Int))) (∃ a : Addr, rowA = some a ∧ 0 ≤ s ∧ s < ((rown : Nat) : Int) ∧ ∃ a2 : Addr, byA = some a2 ∧ 0 ≤ s ∧ s < ((byn : Nat) : Int) ∧ ∃ x : Int, cellH H_ (a.add (Int.toNat s)) = some (.int .u64 x) ∧ ∃ x2 : Int, cellH H_ (a2.add (Int.toNat s)) = some (.int .u64 x2) ∧ CallH P N.juntoref01_Mul [.int .u64 p, .int .u64 k, .int .u64 x2] H_ fun v H_2 =>
  ∃ r : Int, v = .int .u64 r ∧ cellH H_2 (a.add (Int.toNat s)) = some (.int .u64 x) ∧ CallH P N.juntoref01_Sub [.int .u64 p, .int .u64 x, .int .u64 r] H_2 fun v2 H_3 =>
  ∃ r2 : Int, v2 = .int .u64 r2 ∧ ∃ a3 : Addr, rowA = some a3 ∧ 0 ≤ s ∧ s < ((rown : Nat) : Int) ∧ MayWrite H_3 (a3.add (Int.toNat s)) 1 ∧ NewH (setH H_3 (a3.add (Int.toNat s)) (.int .u64 r2)) fun H_4 =>
  next (IntKind.i64.wrap (s + 1)) H_4)
   (R (.tuple #[]) H_)
theorem juntoref03_less.ok (p : Int) (rowA : Option Addr) (rown rowc : Nat) (byA : Option Addr) (byn byc : Nat) (k : Int) (H : Heap) (R : Value → Heap → Prop) (h : juntoref03_less.W p rowA rown rowc byA byn byc k H R) : CallH P N.juntoref03_less ([.int .u64 p, .slice rowA rown rowc, .slice byA byn byc, .int .u64 k] : List Value) H R := by
  have e : juntoref03_less.W p rowA rown rowc byA byn byc k H R = sxFn P T Sh.R nf juntoref03_less.A Try.f139.results.toList (bodyOf Try.f139) (([(.int .u64 p : Value), (.slice rowA rown rowc : Value), (.slice byA byn byc : Value), (.int .u64 k : Value)] : List Value) ++ List.replicate (31 - ([(.int .u64 p : Value), (.slice rowA rown rowc : Value), (.slice byA byn byc : Value), (.int .u64 k : Value)] : List Value).length) undef) H R := by kernel_rfl
  exact call_of_sx fits bodies mixed Try.func139 (c := bodyOf Try.f139) (by kernel_rfl) Try.ntmps139 juntoref03_less.A (by kernel_rfl) (e.mp h)
end Go.Proofs.Ytlhcaangdenoaaa.Sh
namespace Go.Proofs.Ytlhcaangdenoaaa.Sh
open Go.Sx Go.Lf
def juntoref03_beside.C (m : (List (List Nat))) (more : (List (List Nat))) (K : (List (List Nat)) → Prop) : Prop :=
  ∀ (Z : Nat → Prop) (H : Heap), ∀ (mA : Option Addr) (mn mc : Nat), mn = m.length → SlF (slL u64L) Z H mA mc m → ∀ (moreA : Option Addr) (moren morec : Nat), moren = more.length → SlF (slL u64L) Z H moreA morec more → ∀ KK : Value → Heap → Prop,
    (∀ (Z' : Nat → Prop) (H' : Heap), Ext H H' → Old Z H Z' → ∀ (r0 : (List (List Nat))), ∀ (Y0 : Nat → Prop), (∀ i, Y0 i → H.size ≤ i ∧ ¬ Z' i) → ∀ (Ar0_0 : Option Addr) (nr0_0 cr0_0 : Nat), nr0_0 = r0.length → SlO (rdM (slL u64L)) 30 Z' Y0 H' Ar0_0 cr0_0 r0 → K r0 → KK (.slice Ar0_0 nr0_0 cr0_0) H') →
    CallH P N.juntoref03_beside [.slice mA mn mc, .slice moreA moren morec] H KK
def juntoref03_beside.Q (m : (List (List Nat))) (more : (List (List Nat))) (K : (List (List Nat)) → Prop) : Prop :=
  LoopQ (τ := List (List Nat) × Int) (([] : List (List Nat)), 0) fun t nextQ =>
  cond (decide (t.2 < ((m.length : Nat) : Int))) (0 ≤ t.2 ∧ ∃ x : (List Nat), m[Int.toNat t.2]? = some x ∧ 0 ≤ t.2 ∧ ∃ x2 : (List Nat), more[Int.toNat t.2]? = some x2 ∧ AppOk 8 ([] ++ x).length ∧ AppOk 8 (x ++ x2).length ∧ AppOk 24 (t.1 ++ ([(x ++ x2)] : List (List Nat))).length ∧ nextQ ((t.1 ++ ([(x ++ x2)] : List (List Nat))), IntKind.i64.wrap (t.2 + 1)))
   (K t.1)
theorem juntoref03_beside.q {m : (List (List Nat))} {more : (List (List Nat))} {K : (List (List Nat)) → Prop} (q : juntoref03_beside.Q m more K) : juntoref03_beside.C m more K := by
  intro Z H mA mn mc hn f moreA moren morec hn2 f2 KK hk
  cases hn
  cases hn2
  apply juntoref03_beside.ok
  unfold juntoref03_beside.W
  unfold juntoref03_beside.Q at q
  obtain ⟨σ, hz, hσ⟩ := tags Z
  have hs : Stp ([1, 2, 3] : List Nat) σ H σ H := Stp.refl _ _ _
  replace f := f.wide hz
  replace f2 := f2.wide hz
  clear hz
  have f3 := SlO.nil (rdM (slL u64L)) 30 (Zt σ) (Yt σ 1) H
  refine LoopI.ofQ q (fun t_ s_ hp_ => ∃ (σ_ : Nat → Nat) (A0_ : Option Addr) (n0_ c0_ : Nat), Stp [1, 2, 3] σ H σ_ hp_ ∧ ((A0_, n0_, c0_), t_.2) = s_ ∧ n0_ = t_.1.length ∧ SlO (rdM (slL u64L)) 30 (Zt σ_) (Yt σ_ 1) hp_ A0_ c0_ t_.1) (fun h k => h _ _ k) ⟨_, _, _, _, Stp.refl _ _ _, rfl, rfl, f3⟩ ?_
  rintro t _ _ H_ next nextQ ⟨xσ, A, n, c, st, rfl, rfl, f4⟩ q hnext
  try dsimp only at q ⊢
  replace f := f.step st
  replace f2 := f2.step st
  replace hs := hs.trans st
  have sl0 := st
  refine condI (fun q => ?_) (fun q => ?_) q
  · obtain ⟨h0, x, hx, q⟩ := q
    obtain ⟨a, ha, hi⟩ := f.addr h0 hx rfl
    refine ⟨a, ha, hi.1, hi.2, ?_⟩
    obtain ⟨A2, c2, hc, f5⟩ := f.lds ha h0 hx
    refine ⟨_, _, _, hc.val, ?_⟩
    obtain ⟨h02, x2, hx2, q⟩ := q
    obtain ⟨a2, ha2, hi2⟩ := f2.addr h02 hx2 rfl
    refine ⟨a2, ha2, hi2.1, hi2.2, ?_⟩
    obtain ⟨A3, c3, hc2, f6⟩ := f2.lds ha2 h02 hx2
    refine ⟨_, _, _, hc2.val, ?_⟩
    refine NewH.mk fun H_2 e => ?_
    obtain ⟨xσ2, st2, f7⟩ := SlO.lit (E := u64L) xσ 2 (xs := []) (l := []) e rfl .nil (show (0 : Nat) ≤ 17592186044416 by decide)
    replace f := f.step st2
    replace f2 := f2.step st2
    replace f4 := f4.step st2
    replace hc := hc.step st2
    replace f5 := f5.step st2
    replace hc2 := hc2.step st2
    replace f6 := f6.step st2
    replace hs := hs.trans st2
    replace sl0 := sl0.trans st2
    refine ⟨hc2.val, ?_⟩
    obtain ⟨q2, q⟩ := q
    refine SlO.appF f7 f5 rfl rfl q2.l q2.r rfl rfl (fun A4 c4 H_3 xσ3 st3 f7_ => ?_)
    replace f7 := f7_
    replace f := f.step st3
    replace f2 := f2.step st3
    replace f4 := f4.step st3
    replace hc := hc.step st3
    replace f5 := f5.step st3
    replace hc2 := hc2.step st3
    replace f6 := f6.step st3
    replace hs := hs.trans st3
    replace sl0 := sl0.trans st3
    have f8 := SlO.nilapp f7; clear f7
    refine ⟨hc2.val, ?_⟩
    obtain ⟨q3, q⟩ := q
    refine SlO.appF f8 f6 rfl rfl q3.l q3.r rfl rfl (fun A5 c5 H_4 xσ4 st4 f8_ => ?_)
    replace f8 := f8_
    replace f := f.step st4
    replace f2 := f2.step st4
    replace f4 := f4.step st4
    replace hc := hc.step st4
    replace f5 := f5.step st4
    replace hc2 := hc2.step st4
    replace f6 := f6.step st4
    replace hs := hs.trans st4
    replace sl0 := sl0.trans st4
    have f9 := f8; clear f8
    obtain ⟨xσ5, st5, f9⟩ := SlO.freeze f9
    replace f := f.step st5
    replace f2 := f2.step st5
    replace f4 := f4.step st5
    replace hc := hc.step st5
    replace f5 := f5.step st5
    replace hc2 := hc2.step st5
    replace f6 := f6.step st5
    replace hs := hs.trans st5
    replace sl0 := sl0.trans st5
    refine NewH.mk fun H_5 e2 => ?_
    obtain ⟨xσ6, st6, f10⟩ := SlO.lit (E := (slL u64L)) xσ5 3 (xs := [(x ++ x2)]) (l := [[_]]) e2 rfl (.cons (slL_rep rfl f9) .nil) (show (1 : Nat) ≤ 17592186044416 by decide)
    replace f := f.step st6
    replace f2 := f2.step st6
    replace f4 := f4.step st6
    replace hc := hc.step st6
    replace f5 := f5.step st6
    replace hc2 := hc2.step st6
    replace f6 := f6.step st6
    replace f9 := f9.step st6
    replace hs := hs.trans st6
    replace sl0 := sl0.trans st6
    obtain ⟨xσ8, st8, f10⟩ := SlO.freeze f10
    replace f := f.step st8
    replace f2 := f2.step st8
    replace f4 := f4.step st8
    replace hc := hc.step st8
    replace f5 := f5.step st8
    replace hc2 := hc2.step st8
    replace f6 := f6.step st8
    replace f9 := f9.step st8
    replace hs := hs.trans st8
    replace sl0 := sl0.trans st8
    obtain ⟨q4, q⟩ := q
    refine SlO.appF f4 f10 rfl rfl q4.l q4.r rfl rfl (fun A6 c6 H_6 xσ7 st7 f4_ => ?_)
    replace f4 := f4_
    replace f := f.step st7
    replace f2 := f2.step st7
    replace hc := hc.step st7
    replace f5 := f5.step st7
    replace hc2 := hc2.step st7
    replace f6 := f6.step st7
    replace f9 := f9.step st7
    replace f10 := f10.step st7
    replace hs := hs.trans st7
    replace sl0 := sl0.trans st7
    have f11 := f4; clear f4
    exact hnext ((t.1 ++ ([(x ++ x2)] : List (List Nat))), IntKind.i64.wrap (t.2 + 1)) _ _ ⟨_, _, _, _, sl0, rfl, rfl, f11⟩ q
  · exact hk (Zt xσ) _ (hs.ext hσ) (hs.old hσ) _ (Yt xσ 1) (hs.fresh hσ) _ _ _ rfl f4 q
def juntoref03_copied.C (m : (List (List Nat))) (K : (List (List Nat)) → Prop) : Prop :=
  ∀ (Z : Nat → Prop) (H : Heap), ∀ (mA : Option Addr) (mn mc : Nat), mn = m.length → SlF (slL u64L) Z H mA mc m → ∀ KK : Value → Heap → Prop,
    (∀ (Z' : Nat → Prop) (H' : Heap), Ext H H' → Old Z H Z' → ∀ (r0 : (List (List Nat))), ∀ (Y0 : Nat → Prop), (∀ i, Y0 i → H.size ≤ i ∧ ¬ Z' i) → ∀ (Ar0_0 : Option Addr) (nr0_0 cr0_0 : Nat), nr0_0 = r0.length → SlO (slM (rdM u64L) 22) 30 Z' Y0 H' Ar0_0 cr0_0 r0 → K r0 → KK (.slice Ar0_0 nr0_0 cr0_0) H') →
    CallH P N.juntoref03_copied [.slice mA mn mc] H KK
def juntoref03_copied.Q (m : (List (List Nat))) (K : (List (List Nat)) → Prop) : Prop :=
  LoopQ (τ := List (List Nat) × Int) (([] : List (List Nat)), 0) fun t nextQ =>
  cond (decide (t.2 < ((m.length : Nat) : Int))) (0 ≤ t.2 ∧ ∃ x : (List Nat), m[Int.toNat t.2]? = some x ∧ AppOk 8 ([] ++ x).length ∧ AppOk 24 (t.1 ++ ([x] : List (List Nat))).length ∧ nextQ ((t.1 ++ ([x] : List (List Nat))), IntKind.i64.wrap (t.2 + 1)))
   (K t.1)
theorem juntoref03_copied.q {m : (List (List Nat))} {K : (List (List Nat)) → Prop} (q : juntoref03_copied.Q m K) : juntoref03_copied.C m K := by
  intro Z H mA mn mc hn f KK hk
  cases hn
  apply juntoref03_copied.ok
  unfold juntoref03_copied.W
  unfold juntoref03_copied.Q at q
  obtain ⟨σ, hz, hσ⟩ := tags Z
  have hs : Stp ([1, 2] : List Nat) σ H σ H := Stp.refl _ _ _
  replace f := f.wide hz
  clear hz
  have f2 := SlO.nil (slM (rdM u64L) 22) 30 (Zt σ) (Yt σ 1) H
  refine LoopI.ofQ q (fun t_ s_ hp_ => ∃ (σ_ : Nat → Nat) (A0_ : Option Addr) (n0_ c0_ : Nat), Stp [1, 2] σ H σ_ hp_ ∧ ((A0_, n0_, c0_), t_.2) = s_ ∧ n0_ = t_.1.length ∧ SlO (slM (rdM u64L) 22) 30 (Zt σ_) (Yt σ_ 1) hp_ A0_ c0_ t_.1) (fun h k => h _ _ k) ⟨_, _, _, _, Stp.refl _ _ _, rfl, rfl, f2⟩ ?_
  rintro t _ _ H_ next nextQ ⟨xσ, A, n, c, st, rfl, rfl, f3⟩ q hnext
  try dsimp only at q ⊢
  replace f := f.step st
  replace hs := hs.trans st
  have sl0 := st
  refine condI (fun q => ?_) (fun q => ?_) q
  · obtain ⟨h0, x, hx, q⟩ := q
    obtain ⟨a, ha, hi⟩ := f.addr h0 hx rfl
    refine ⟨a, ha, hi.1, hi.2, ?_⟩
    obtain ⟨A2, c2, hc, f4⟩ := f.lds ha h0 hx
    refine ⟨_, _, _, hc.val, ?_⟩
    refine NewH.mk fun H_2 e => ?_
    obtain ⟨xσ2, st2, f5⟩ := SlO.lit (E := u64L) xσ 2 (xs := []) (l := []) e rfl .nil (show (0 : Nat) ≤ 17592186044416 by decide)
    replace f := f.step st2
    replace f3 := f3.step st2
    replace hc := hc.step st2
    replace f4 := f4.step st2
    replace hs := hs.trans st2
    replace sl0 := sl0.trans st2
    obtain ⟨q2, q⟩ := q
    refine SlO.appF f5 f4 rfl rfl q2.l q2.r rfl rfl (fun A3 c3 H_3 xσ3 st3 f5_ => ?_)
    replace f5 := f5_
    replace f := f.step st3
    replace f3 := f3.step st3
    replace hc := hc.step st3
    replace f4 := f4.step st3
    replace hs := hs.trans st3
    replace sl0 := sl0.trans st3
    have f6 := SlO.nilapp f5; clear f5
    refine NewH.mk fun H_4 e2 => ?_
    obtain ⟨xσ4, st4, f7⟩ := SlO.litO e2 rfl f6
    replace f := f.step st4
    replace f3 := f3.step st4
    replace hc := hc.step st4
    replace f4 := f4.step st4
    replace hs := hs.trans st4
    replace sl0 := sl0.trans st4
    obtain ⟨q3, q⟩ := q
    refine SlO.appO f3 f7 rfl rfl q3.l q3.r rfl rfl (fun A4 c4 H_5 xσ5 st5 f3_ => ?_)
    replace f3 := f3_
    replace f := f.step st5
    replace hc := hc.step st5
    replace f4 := f4.step st5
    replace hs := hs.trans st5
    replace sl0 := sl0.trans st5
    have f8 := f3; clear f3
    exact hnext ((t.1 ++ ([x] : List (List Nat))), IntKind.i64.wrap (t.2 + 1)) _ _ ⟨_, _, _, _, sl0, rfl, rfl, f8⟩ q
  · exact hk (Zt xσ) _ (hs.ext hσ) (hs.old hσ) _ (Yt xσ 1) (hs.fresh hσ) _ _ _ rfl f3 q
def juntoref03_less.C (p : Nat) (row : (List Nat)) (by_ : (List Nat)) (k : Nat) (K : (List Nat) → Prop) : Prop :=
  ∀ (Z : Nat → Prop) (τ : Nat → Nat) (H : Heap), (∀ i, τ i ≠ 0 → ¬ Z i) → ∀ (pv : Int), pv = (p : Int) → ∀ (rowA : Option Addr) (rown rowc : Nat), rown = row.length → SlO (rdM u64L) 22 Z (Yt τ 1) H rowA rowc row → ∀ (byA : Option Addr) (byn byc : Nat), byn = by_.length → SlF u64L Z H byA byc by_ → ∀ (kv : Int), kv = (k : Int) → ∀ KK : Value → Heap → Prop,
    (∀ (Z' : Nat → Prop) (τ' : Nat → Nat) (H' : Heap), Turn τ H τ' H' → OldT Z τ H Z' → (∀ i, τ' i ≠ 0 → ¬ Z' i) → ∀ (o1 : List Nat), o1.length = row.length → SlO (rdM u64L) 22 Z' (Yt τ' 1) H' rowA rowc o1 → K o1 → KK (.tuple #[]) H') →
    CallH P N.juntoref03_less [.int .u64 pv, .slice rowA rown rowc, .slice byA byn byc, .int .u64 kv] H KK
def juntoref03_less.Q (p : Nat) (row : (List Nat)) (by_ : (List Nat)) (k : Nat) (K : (List Nat) → Prop) : Prop :=
  LoopQ (τ := Int × List Nat) (0, row) fun t nextQ =>
  cond (decide (t.1 < ((row.length : Nat) : Int))) (0 ≤ t.1 ∧ t.1 < ((row.length : Nat) : Int) ∧ 0 ≤ t.1 ∧ ∃ x : Nat, by_[Int.toNat t.1]? = some x ∧ ∃ x2 : Nat, t.2[Int.toNat t.1]? = some x2 ∧ juntoref01_Mul.C p k x (fun (x3 : Nat) =>
  juntoref01_Sub.C p x2 x3 (fun (x4 : Nat) =>
  0 ≤ t.1 ∧ t.1 < ((row.length : Nat) : Int) ∧ nextQ (IntKind.i64.wrap (t.1 + 1), (List.set t.2 (Int.toNat t.1) x4)))))
   (K t.2)
theorem juntoref03_less.q {p : Nat} {row : (List Nat)} {by_ : (List Nat)} {k : Nat} {K : (List Nat) → Prop} (q : juntoref03_less.Q p row by_ k K) : juntoref03_less.C p row by_ k K := by
  intro Z τ H hτ pv he rowA rown rowc hn f byA byn byc hn2 f2 kv he2 KK hk
  cases he
  cases hn
  cases hn2
  cases he2
  apply juntoref03_less.ok
  unfold juntoref03_less.W
  unfold juntoref03_less.Q at q
  obtain ⟨σ, hz, hy, hσ⟩ := tags2 Z τ 1 hτ
  have hs : Stp ([1] : List Nat) σ H σ H := Stp.refl _ _ _
  replace f := SlO.keep f (Fr.wide hz _) (Fr.wide (hy 1 (by decide) (by decide)) _)
  replace f2 := f2.wide hz
  clear hz
  clear hy
  refine LoopI.ofQ q (fun t_ s_ hp_ => ∃ (σ_ : Nat → Nat), Stp [1] σ H σ_ hp_ ∧ t_.1 = s_ ∧ t_.2.length = row.length ∧ SlO (rdM u64L) 22 (Zt σ_) (Yt σ_ 1) hp_ rowA rowc t_.2) (fun h k => h _ _ k) ⟨_, Stp.refl _ _ _, rfl, rfl, f⟩ ?_
  rintro t _ _ H_ next nextQ ⟨xσ, st, rfl, hl, f⟩ q hnext
  try dsimp only at q ⊢
  replace f2 := f2.step st
  replace hs := hs.trans st
  have sl1 := st
  refine condI (fun q => ?_) (fun q => ?_) q
  · obtain ⟨h0, hi2, q⟩ := q
    obtain ⟨a, ha, hi⟩ := f.addr h0 ((rfl : _ = _).trans hl.symm) hi2
    refine ⟨a, ha, hi.1, hi.2, ?_⟩
    obtain ⟨h02, x, hx, q⟩ := q
    obtain ⟨a2, ha2, hi3⟩ := f2.addr h02 hx rfl
    refine ⟨a2, ha2, hi3.1, hi3.2, ?_⟩
    obtain ⟨x2, hx2, q⟩ := q
    have hc := f.ldu ha h0 hx2
    refine ⟨_, hc.val, ?_⟩
    have hc2 := f2.ldu ha2 h02 hx
    refine ⟨_, hc2.val, ?_⟩
    refine q (Zt xσ) H_ _ rfl _ rfl _ rfl _ (fun Z2 H_2 hE hO x3 v he3 q => ?_)
    obtain ⟨xσ2, st2⟩ := call0 hE xσ
    cases he3
    replace f := f.step st2
    replace f2 := f2.step st2
    replace hc := hc.step st2
    replace hc2 := hc2.step st2
    replace hs := hs.trans st2
    replace sl1 := sl1.trans st2
    refine ⟨_, rfl, ?_⟩
    refine ⟨hc.val, ?_⟩
    refine q (Zt xσ2) H_2 _ rfl _ rfl _ rfl _ (fun Z3 H_3 hE2 hO2 x4 v2 he4 q => ?_)
    obtain ⟨xσ3, st3⟩ := call0 hE2 xσ2
    cases he4
    replace f := f.step st3
    replace f2 := f2.step st3
    replace hc := hc.step st3
    replace hc2 := hc2.step st3
    replace hs := hs.trans st3
    replace sl1 := sl1.trans st3
    refine ⟨_, rfl, ?_⟩
    obtain ⟨h03, hi5, q⟩ := q
    obtain ⟨a3, ha3, hi4⟩ := f.addr h03 ((rfl : _ = _).trans hl.symm) hi5
    refine ⟨a3, ha3, hi4.1, hi4.2, ?_⟩
    have w := fun v hr => SlO.set1 (v := v) (y := x4) f rfl ha3 h03 (lt_of_n ((rfl : _ = _).trans hl.symm) hi5) hr
    refine ⟨(w _ rfl).1, NewH.mk fun H_4 e => ?_⟩
    obtain ⟨st4, f⟩ := (w _ rfl).2 H_4 e
    replace f2 := f2.step st4
    replace hc2 := hc2.step st4
    replace hs := hs.trans st4
    replace sl1 := sl1.trans st4
    exact hnext (IntKind.i64.wrap (t.1 + 1), (List.set t.2 (Int.toNat t.1) x4)) _ _ ⟨_, sl1, rfl, (set_back ((rfl : _ = _).trans hl.symm) (set_len ((rfl : _ = _).trans hl.symm)) hl), f⟩ q
  · exact hk (Zt xσ) (ren [1] xσ) _ (hs.turn hσ) (hs.oldT hσ) (ren_z _ _) t.2 (own_len ((rfl : _ = _).trans hl.symm)) (SlO.keep f (Fr.refl _ _) (Fr.wide (ren_y (js := [1]) (j := 1) (m := 1) (by decide) (by decide)) _)) q
def juntoref03_Reduce.C (p : Nat) (m : (List (List Nat))) (columns : Int) (K : (List (List Nat)) → (List Int) → Prop) : Prop :=
  ∀ (Z : Nat → Prop) (H : Heap), ∀ (pv : Int), pv = (p : Int) → ∀ (mA : Option Addr) (mn mc : Nat), mn = m.length → SlF (slL u64L) Z H mA mc m → ∀ KK : Value → Heap → Prop,
    (∀ (Z' : Nat → Prop) (H' : Heap), Ext H H' → Old Z H Z' → ∀ (r0 : (List (List Nat))), ∀ (Y0 : Nat → Prop), (∀ i, Y0 i → H.size ≤ i ∧ ¬ Z' i) → ∀ (Ar0_0 : Option Addr) (nr0_0 cr0_0 : Nat), nr0_0 = r0.length → SlO (slM (rdM u64L) 22) 30 Z' Y0 H' Ar0_0 cr0_0 r0 → ∀ (r1 : (List Int)), ∀ (Y1 : Nat → Prop), (∀ i, Y1 i → H.size ≤ i ∧ ¬ Z' i) → ∀ (Ar1_0 : Option Addr) (nr1_0 cr1_0 : Nat), nr1_0 = r1.length → SlO (rdM i64L) 3 Z' Y1 H' Ar1_0 cr1_0 r1 → (∀ i, Y0 i → ¬ Y1 i) → K r0 r1 → KK (.tuple #[.slice Ar0_0 nr0_0 cr0_0, .slice Ar1_0 nr1_0 cr1_0]) H') →
    CallH P N.juntoref03_Reduce [.int .u64 pv, .slice mA mn mc, .int .i64 columns] H KK
def juntoref03_Reduce.Q (p : Nat) (m : (List (List Nat))) (columns : Int) (K : (List (List Nat)) → (List Int) → Prop) : Prop :=
  juntoref03_copied.C m (fun (x : (List (List Nat))) =>
  LoopQ (τ := List Int × Int × List (List Nat)) (([] : List Int), 0, x) fun t nextQ =>
  cond (decide (t.2.1 < columns)) (LoopQ (τ := Int) ((t.1.length : Nat) : Int) fun t2 nextQ2 =>
  cond (decide (t2 < ((x.length : Nat) : Int))) (0 ≤ t2 ∧ t2 < ((x.length : Nat) : Int) ∧ ∃ x2 : (List Nat), t.2.2[Int.toNat t2]? = some x2 ∧ 0 ≤ t.2.1 ∧ t.2.1 < ((x2.length : Nat) : Int) ∧ ∃ x3 : Nat, x2[Int.toNat t.2.1]? = some x3 ∧ cond ((x3 : Int) == 0) (nextQ2 (IntKind.i64.wrap (t2 + 1)))
   (cond (decide (t2 ≥ ((x.length : Nat) : Int))) (nextQ (t.1, IntKind.i64.wrap (t.2.1 + 1), t.2.2))
   (0 ≤ t2 ∧ t2 < ((x.length : Nat) : Int) ∧ 0 ≤ ((t.1.length : Nat) : Int) ∧ ((t.1.length : Nat) : Int) < ((x.length : Nat) : Int) ∧ ∃ x4 : (List Nat), t.2.2[Int.toNat t2]? = some x4 ∧ ∃ x5 : (List Nat), t.2.2[t.1.length]? = some x5 ∧ 0 ≤ ((t.1.length : Nat) : Int) ∧ ((t.1.length : Nat) : Int) < ((x.length : Nat) : Int) ∧ 0 ≤ t2 ∧ t2 < ((x.length : Nat) : Int) ∧ 0 ≤ ((t.1.length : Nat) : Int) ∧ ((t.1.length : Nat) : Int) < ((x.length : Nat) : Int) ∧ ∃ x6 : (List Nat), (List.set (List.set t.2.2 t.1.length x4) (Int.toNat t2) x5)[t.1.length]? = some x6 ∧ 0 ≤ t.2.1 ∧ t.2.1 < ((x6.length : Nat) : Int) ∧ ∃ x7 : Nat, x6[Int.toNat t.2.1]? = some x7 ∧ juntoref01_Inv.C p x7 (fun (x8 : Nat) =>
  0 ≤ ((t.1.length : Nat) : Int) ∧ ((t.1.length : Nat) : Int) < ((x.length : Nat) : Int) ∧ ∃ x9 : (List Nat), (List.set (List.set t.2.2 t.1.length x4) (Int.toNat t2) x5)[t.1.length]? = some x9 ∧ LoopQ (τ := Int × List (List Nat)) (0, (List.set (List.set t.2.2 t.1.length x4) (Int.toNat t2) x5)) fun t3 nextQ3 =>
  cond (decide (t3.1 < ((x9.length : Nat) : Int))) (0 ≤ ((t.1.length : Nat) : Int) ∧ ((t.1.length : Nat) : Int) < ((x.length : Nat) : Int) ∧ 0 ≤ ((t.1.length : Nat) : Int) ∧ ((t.1.length : Nat) : Int) < ((x.length : Nat) : Int) ∧ ∃ x10 : (List Nat), t3.2[t.1.length]? = some x10 ∧ ∃ x11 : (List Nat), t3.2[t.1.length]? = some x11 ∧ 0 ≤ t3.1 ∧ t3.1 < ((x11.length : Nat) : Int) ∧ ∃ x12 : Nat, x11[Int.toNat t3.1]? = some x12 ∧ juntoref01_Mul.C p x12 x8 (fun (x13 : Nat) =>
  0 ≤ t3.1 ∧ t3.1 < ((x10.length : Nat) : Int) ∧ nextQ3 (IntKind.i64.wrap (t3.1 + 1), (List.set t3.2 t.1.length (List.set x10 (Int.toNat t3.1) x13)))))
   (LoopQ (τ := Int × List (List Nat)) (0, t3.2) fun t4 nextQ4 =>
  cond (decide (t4.1 < ((x.length : Nat) : Int))) (cond (t4.1 != ((t.1.length : Nat) : Int)) (0 ≤ t4.1 ∧ t4.1 < ((x.length : Nat) : Int) ∧ 0 ≤ ((t.1.length : Nat) : Int) ∧ ((t.1.length : Nat) : Int) < ((x.length : Nat) : Int) ∧ 0 ≤ t4.1 ∧ t4.1 < ((x.length : Nat) : Int) ∧ ∃ x14 : (List Nat), t4.2[Int.toNat t4.1]? = some x14 ∧ ∃ x15 : (List Nat), t4.2[t.1.length]? = some x15 ∧ ∃ x16 : (List Nat), t4.2[Int.toNat t4.1]? = some x16 ∧ 0 ≤ t.2.1 ∧ t.2.1 < ((x16.length : Nat) : Int) ∧ ∃ x17 : Nat, x16[Int.toNat t.2.1]? = some x17 ∧ (Int.toNat t4.1) ≠ t.1.length ∧ juntoref03_less.C p x14 x15 x17 (fun (o : List Nat) =>
  nextQ4 (IntKind.i64.wrap (t4.1 + 1), (List.set t4.2 (Int.toNat t4.1) o))))
   (nextQ4 (IntKind.i64.wrap (t4.1 + 1), t4.2)))
   (AppOk 8 (t.1 ++ ([t.2.1] : List Int)).length ∧ nextQ ((t.1 ++ ([t.2.1] : List Int)), IntKind.i64.wrap (t.2.1 + 1), t4.2)))))))
   (cond (decide (t2 ≥ ((x.length : Nat) : Int))) (nextQ (t.1, IntKind.i64.wrap (t.2.1 + 1), t.2.2))
   (0 ≤ t2 ∧ t2 < ((x.length : Nat) : Int) ∧ 0 ≤ ((t.1.length : Nat) : Int) ∧ ((t.1.length : Nat) : Int) < ((x.length : Nat) : Int) ∧ ∃ x18 : (List Nat), t.2.2[Int.toNat t2]? = some x18 ∧ ∃ x19 : (List Nat), t.2.2[t.1.length]? = some x19 ∧ 0 ≤ ((t.1.length : Nat) : Int) ∧ ((t.1.length : Nat) : Int) < ((x.length : Nat) : Int) ∧ 0 ≤ t2 ∧ t2 < ((x.length : Nat) : Int) ∧ 0 ≤ ((t.1.length : Nat) : Int) ∧ ((t.1.length : Nat) : Int) < ((x.length : Nat) : Int) ∧ ∃ x20 : (List Nat), (List.set (List.set t.2.2 t.1.length x18) (Int.toNat t2) x19)[t.1.length]? = some x20 ∧ 0 ≤ t.2.1 ∧ t.2.1 < ((x20.length : Nat) : Int) ∧ ∃ x21 : Nat, x20[Int.toNat t.2.1]? = some x21 ∧ juntoref01_Inv.C p x21 (fun (x22 : Nat) =>
  0 ≤ ((t.1.length : Nat) : Int) ∧ ((t.1.length : Nat) : Int) < ((x.length : Nat) : Int) ∧ ∃ x23 : (List Nat), (List.set (List.set t.2.2 t.1.length x18) (Int.toNat t2) x19)[t.1.length]? = some x23 ∧ LoopQ (τ := Int × List (List Nat)) (0, (List.set (List.set t.2.2 t.1.length x18) (Int.toNat t2) x19)) fun t5 nextQ5 =>
  cond (decide (t5.1 < ((x23.length : Nat) : Int))) (0 ≤ ((t.1.length : Nat) : Int) ∧ ((t.1.length : Nat) : Int) < ((x.length : Nat) : Int) ∧ 0 ≤ ((t.1.length : Nat) : Int) ∧ ((t.1.length : Nat) : Int) < ((x.length : Nat) : Int) ∧ ∃ x24 : (List Nat), t5.2[t.1.length]? = some x24 ∧ ∃ x25 : (List Nat), t5.2[t.1.length]? = some x25 ∧ 0 ≤ t5.1 ∧ t5.1 < ((x25.length : Nat) : Int) ∧ ∃ x26 : Nat, x25[Int.toNat t5.1]? = some x26 ∧ juntoref01_Mul.C p x26 x22 (fun (x27 : Nat) =>
  0 ≤ t5.1 ∧ t5.1 < ((x24.length : Nat) : Int) ∧ nextQ5 (IntKind.i64.wrap (t5.1 + 1), (List.set t5.2 t.1.length (List.set x24 (Int.toNat t5.1) x27)))))
   (LoopQ (τ := Int × List (List Nat)) (0, t5.2) fun t6 nextQ6 =>
  cond (decide (t6.1 < ((x.length : Nat) : Int))) (cond (t6.1 != ((t.1.length : Nat) : Int)) (0 ≤ t6.1 ∧ t6.1 < ((x.length : Nat) : Int) ∧ 0 ≤ ((t.1.length : Nat) : Int) ∧ ((t.1.length : Nat) : Int) < ((x.length : Nat) : Int) ∧ 0 ≤ t6.1 ∧ t6.1 < ((x.length : Nat) : Int) ∧ ∃ x28 : (List Nat), t6.2[Int.toNat t6.1]? = some x28 ∧ ∃ x29 : (List Nat), t6.2[t.1.length]? = some x29 ∧ ∃ x30 : (List Nat), t6.2[Int.toNat t6.1]? = some x30 ∧ 0 ≤ t.2.1 ∧ t.2.1 < ((x30.length : Nat) : Int) ∧ ∃ x31 : Nat, x30[Int.toNat t.2.1]? = some x31 ∧ (Int.toNat t6.1) ≠ t.1.length ∧ juntoref03_less.C p x28 x29 x31 (fun (o2 : List Nat) =>
  nextQ6 (IntKind.i64.wrap (t6.1 + 1), (List.set t6.2 (Int.toNat t6.1) o2))))
   (nextQ6 (IntKind.i64.wrap (t6.1 + 1), t6.2)))
   (AppOk 8 (t.1 ++ ([t.2.1] : List Int)).length ∧ nextQ ((t.1 ++ ([t.2.1] : List Int)), IntKind.i64.wrap (t.2.1 + 1), t6.2)))))))
   (K t.2.2 t.1))
theorem juntoref03_Reduce.q {p : Nat} {m : (List (List Nat))} {columns : Int} {K : (List (List Nat)) → (List Int) → Prop} (q : juntoref03_Reduce.Q p m columns K) : juntoref03_Reduce.C p m columns K := by
  intro Z H pv he mA mn mc hn f KK hk
  cases he
  cases hn
  apply juntoref03_Reduce.ok
  unfold juntoref03_Reduce.W
  unfold juntoref03_Reduce.Q at q
  obtain ⟨σ, hz, hσ⟩ := tags Z
  have hs : Stp ([1, 2, 3, 4] : List Nat) σ H σ H := Stp.refl _ _ _
  replace f := f.wide hz
  clear hz
  refine q (Zt σ) H _ _ _ rfl f _ (fun Z2 H_ hE hO x Y hY A n c hn2 f2 q => ?_)
  obtain ⟨xσ, st, fz, fy⟩ := call1 hE hO σ 1 (fun _ h => h) hY
  replace f2 := f2.keep fz fy
  cases hn2
  replace f := f.step st
  replace hs := hs.trans st
  refine ⟨_, _, _, rfl, ?_⟩
  have f3 := SlO.nil (rdM i64L) 3 (Zt xσ) (Yt xσ 2) H_
  refine LoopI.ofQ q (fun t_ s_ hp_ => ∃ (σ_ : Nat → Nat) (A0_ : Option Addr) (n0_ c0_ : Nat), Stp [1, 2, 3, 4] xσ H_ σ_ hp_ ∧ ((A0_, n0_, c0_), t_.2.1) = s_ ∧ n0_ = t_.1.length ∧ SlO (rdM i64L) 3 (Zt σ_) (Yt σ_ 2) hp_ A0_ c0_ t_.1 ∧ t_.2.2.length = x.length ∧ SlO (slM (rdM u64L) 22) 30 (Zt σ_) (Yt σ_ 1) hp_ A c t_.2.2) (fun h k => h _ _ k) ⟨_, _, _, _, Stp.refl _ _ _, rfl, rfl, f3, rfl, f2⟩ ?_
  rintro t _ _ H_2 next nextQ ⟨xσ2, A2, n2, c2, st2, rfl, rfl, f4, hl, f2⟩ q hnext
  try dsimp only at q ⊢
  replace f := f.step st2
  replace hs := hs.trans st2
  have sl14 := st2
  refine condI (fun q => ?_) (fun q => ?_) q
  · refine LoopI.ofQ q (fun t_ s_ hp_ => ∃ (σ_ : Nat → Nat), Stp [] xσ2 H_2 σ_ hp_ ∧ t_ = s_) (fun h k => h _ _ k) ⟨_, Stp.refl _ _ _, rfl⟩ ?_
    rintro t2 _ _ H_3 next2 nextQ2 ⟨xσ3, st3, rfl⟩ q hnext2
    try dsimp only at q ⊢
    replace f := f.step st3
    replace f2 := f2.step st3
    replace f4 := f4.step st3
    replace hs := hs.trans st3
    replace sl14 := sl14.trans st3
    have sl15 := st3
    refine condI (fun q => ?_) (fun q => ?_) q
    · obtain ⟨h0, hi2, q⟩ := q
      obtain ⟨a, ha, hi⟩ := f2.addr h0 ((rfl : _ = _).trans hl.symm) hi2
      refine ⟨a, ha, hi.1, hi.2, ?_⟩
      obtain ⟨x2, hx, q⟩ := q
      obtain ⟨A3, c3, Y2, hc, hY2, f5, bk⟩ := f2.row ha h0 hx
      have g := SlO.rowF f5 (fun b hb => (hY2 b hb).1)
      refine ⟨_, _, _, hc.val, ?_⟩
      obtain ⟨h02, hi4, q⟩ := q
      obtain ⟨a2, ha2, hi3⟩ := SlF.addr g h02 (List.getElem?_eq_getElem (idx_lt rfl h02 hi4)) rfl
      refine ⟨a2, ha2, hi3.1, hi3.2, ?_⟩
      obtain ⟨x3, hx2, q⟩ := q
      have hc2 := SlO.row_ldu f2 ha h0 hx hc ha2 h02 hx2
      refine ⟨_, hc2.val, ?_⟩
      refine condI (fun q => ?_) (fun q => ?_) q
      · exact hnext2 (IntKind.i64.wrap (t2 + 1)) _ _ ⟨_, sl15, rfl⟩ q
      · refine condI (fun q => ?_) (fun q => ?_) q
        · exact hnext (t.1, IntKind.i64.wrap (t.2.1 + 1), t.2.2) _ _ ⟨_, _, _, _, sl14, rfl, rfl, f4, hl, f2⟩ q
        · obtain ⟨h03, hi6, q⟩ := q
          obtain ⟨a3, ha3, hi5⟩ := f2.addr h03 ((rfl : _ = _).trans hl.symm) hi6
          refine ⟨a3, ha3, hi5.1, hi5.2, ?_⟩
          obtain ⟨h04, hi8, q⟩ := q
          obtain ⟨a4, ha4, hi7⟩ := f2.addr h04 ((rfl : _ = _).trans hl.symm) hi8
          refine ⟨a4, ha4, hi7.1, hi7.2, ?_⟩
          obtain ⟨x4, hx3, q⟩ := q
          obtain ⟨A4, c4, Y3, hc3, hY3, f6, bk2⟩ := f2.row ha3 h03 hx3
          have g2 := SlO.rowF f6 (fun b hb => (hY3 b hb).1)
          refine ⟨_, _, _, hc3.val, ?_⟩
          obtain ⟨x5, hx4, q⟩ := q
          obtain ⟨A5, c5, Y4, hc4, hY4, f7, bk3⟩ := f2.row ha4 h04 hx4
          have g3 := SlO.rowF f7 (fun b hb => (hY4 b hb).1)
          refine ⟨_, _, _, hc4.val, ?_⟩
          obtain ⟨h05, hi10, q⟩ := q
          obtain ⟨a5, ha5, hi9⟩ := f2.addr h05 ((rfl : _ = _).trans hl.symm) hi10
          refine ⟨a5, ha5, hi9.1, hi9.2, ?_⟩
          have ea := Option.some.inj (ha3.symm.trans ha5)
          subst ea
          have ea := Option.some.inj (ha3.symm.trans ha4)
          subst ea
          have w := SlO.swap f2 ha3 h04 h03 hx4 hx3 hc4 hc3
          refine ⟨w.1, NewH.mk fun H_4 e => ?_⟩
          have w2 := w.2 H_4 e
          obtain ⟨h06, hi12, q⟩ := q
          obtain ⟨a6, ha6, hi11⟩ := f2.addr h06 ((rfl : _ = _).trans hl.symm) hi12
          refine ⟨a6, ha6, hi11.1, hi11.2, ?_⟩
          have ea := Option.some.inj (ha3.symm.trans ha6)
          subst ea
          refine ⟨w2.1, NewH.mk fun H_5 e2 => ?_⟩
          obtain ⟨st5, f2⟩ := w2.2 H_5 e2
          replace f := f.step st5
          replace f4 := f4.step st5
          replace hs := hs.trans st5
          replace sl14 := sl14.trans st5
          obtain ⟨h07, hi14, q⟩ := q
          obtain ⟨a7, ha7, hi13⟩ := f2.addr h07 (set_len (set_len ((rfl : _ = _).trans hl.symm))) hi14
          refine ⟨a7, ha7, hi13.1, hi13.2, ?_⟩
          obtain ⟨x6, hx5, q⟩ := q
          obtain ⟨A6, c6, Y5, hc5, hY5, f8, bk4⟩ := f2.row ha7 h07 hx5
          have g4 := SlO.rowF f8 (fun b hb => (hY5 b hb).1)
          refine ⟨_, _, _, hc5.val, ?_⟩
          obtain ⟨h08, hi16, q⟩ := q
          obtain ⟨a8, ha8, hi15⟩ := SlF.addr g4 h08 (List.getElem?_eq_getElem (idx_lt rfl h08 hi16)) rfl
          refine ⟨a8, ha8, hi15.1, hi15.2, ?_⟩
          obtain ⟨x7, hx6, q⟩ := q
          have hc6 := SlO.row_ldu f2 ha7 h07 hx5 hc5 ha8 h08 hx6
          refine ⟨_, hc6.val, ?_⟩
          refine q (Zt xσ3) H_5 _ rfl _ rfl _ (fun Z3 H_6 hE2 hO2 x8 v he2 q => ?_)
          obtain ⟨xσ4, st6⟩ := call0 hE2 xσ3
          cases he2
          replace f := f.step st6
          replace f2 := f2.step st6
          replace f4 := f4.step st6
          replace hc5 := hc5.step st6
          replace hc6 := hc6.step st6
          replace hs := hs.trans st6
          replace sl14 := sl14.trans st6
          refine ⟨_, rfl, ?_⟩
          obtain ⟨h09, hi18, q⟩ := q
          obtain ⟨a9, ha9, hi17⟩ := f2.addr h09 (set_len (set_len ((rfl : _ = _).trans hl.symm))) hi18
          refine ⟨a9, ha9, hi17.1, hi17.2, ?_⟩
          obtain ⟨x9, hx7, q⟩ := q
          obtain ⟨A7, c7, Y6, hc7, hY6, f9, bk5⟩ := f2.row ha9 h09 hx7
          have g5 := SlO.rowF f9 (fun b hb => (hY6 b hb).1)
          refine ⟨_, _, _, hc7.val, ?_⟩
          refine LoopI.ofQ q (fun t_ s_ hp_ => ∃ (σ_ : Nat → Nat), Stp [1] xσ4 H_6 σ_ hp_ ∧ t_.1 = s_ ∧ t_.2.length = (List.set (List.set t.2.2 t.1.length x4) (Int.toNat t2) x5).length ∧ SlO (slM (rdM u64L) 22) 30 (Zt σ_) (Yt σ_ 1) hp_ A c t_.2 ∧ CelF 1 σ_ hp_ (a7.add t.1.length) (.slice A6 x6.length c6) ∧ CelF 1 σ_ hp_ (a9.add t.1.length) (.slice A7 x9.length c7)) (fun h k => h _ _ k) ⟨_, Stp.refl _ _ _, rfl, rfl, f2, hc5, hc7⟩ ?_
          rintro t3 _ _ H_7 next3 nextQ3 ⟨xσ5, st7, rfl, hl2, f2, hc5, hc7⟩ q hnext3
          try dsimp only at q ⊢
          replace f := f.step st7
          replace f4 := f4.step st7
          replace hs := hs.trans st7
          replace sl14 := sl14.trans st7
          have sl19 := st7
          refine condI (fun q => ?_) (fun q => ?_) q
          · obtain ⟨h010, hi20, q⟩ := q
            obtain ⟨a10, ha10, hi19⟩ := f2.addr h010 ((set_len (set_len ((rfl : _ = _).trans hl.symm))).trans hl2.symm) hi20
            refine ⟨a10, ha10, hi19.1, hi19.2, ?_⟩
            obtain ⟨h011, hi22, q⟩ := q
            obtain ⟨a11, ha11, hi21⟩ := f2.addr h011 ((set_len (set_len ((rfl : _ = _).trans hl.symm))).trans hl2.symm) hi22
            refine ⟨a11, ha11, hi21.1, hi21.2, ?_⟩
            obtain ⟨x10, hx8, q⟩ := q
            obtain ⟨A8, c8, Y7, hc8, hY7, f10, bk6⟩ := f2.row ha10 h010 hx8
            have g6 := SlO.rowF f10 (fun b hb => (hY7 b hb).1)
            refine ⟨_, _, _, hc8.val, ?_⟩
            obtain ⟨x11, hx9, q⟩ := q
            obtain ⟨A9, c9, Y8, hc9, hY8, f11, bk7⟩ := f2.row ha11 h011 hx9
            have g7 := SlO.rowF f11 (fun b hb => (hY8 b hb).1)
            refine ⟨_, _, _, hc9.val, ?_⟩
            obtain ⟨h012, hi24, q⟩ := q
            obtain ⟨a12, ha12, hi23⟩ := SlF.addr g7 h012 (List.getElem?_eq_getElem (idx_lt rfl h012 hi24)) rfl
            refine ⟨a12, ha12, hi23.1, hi23.2, ?_⟩
            obtain ⟨x12, hx10, q⟩ := q
            have hc10 := SlO.row_ldu f2 ha11 h011 hx9 hc9 ha12 h012 hx10
            refine ⟨_, hc10.val, ?_⟩
            refine q (Zt xσ5) H_7 _ rfl _ rfl _ rfl _ (fun Z4 H_8 hE3 hO3 x13 v2 he3 q => ?_)
            obtain ⟨xσ6, st8⟩ := call0 hE3 xσ5
            cases he3
            replace f := f.step st8
            replace f2 := f2.step st8
            replace f4 := f4.step st8
            replace hc5 := hc5.step st8
            replace hc7 := hc7.step st8
            replace hc8 := hc8.step st8
            replace hc9 := hc9.step st8
            replace hc10 := hc10.step st8
            replace hs := hs.trans st8
            replace sl14 := sl14.trans st8
            replace sl19 := sl19.trans st8
            refine ⟨_, rfl, ?_⟩
            refine ⟨hc8.val, ?_⟩
            obtain ⟨h013, hi26, q⟩ := q
            obtain ⟨a13, ha13, hi25⟩ := SlF.addr g6 h013 (List.getElem?_eq_getElem (idx_lt rfl h013 hi26)) rfl
            refine ⟨a13, ha13, hi25.1, hi25.2, ?_⟩
            have w4 := fun v hr => SlO.set2 (v := v) (y := x13) f2 rfl ha10 h010 hx8 hc8 ha13 h013 (lt_of_n rfl hi26) hr
            refine ⟨(w4 _ rfl).1, NewH.mk fun H_9 e3 => ?_⟩
            obtain ⟨st9, f2, hh⟩ := (w4 _ rfl).2 H_9 e3
            replace hc5 := by have ea := Option.some.inj (ha7.symm.trans ha10); subst ea; exact hh _ _ hc5
            replace hc7 := by have ea := Option.some.inj (ha9.symm.trans ha10); subst ea; exact hh _ _ hc7
            replace hc8 := hh _ _ hc8
            replace hc9 := by have ea := Option.some.inj (ha11.symm.trans ha10); subst ea; exact hh _ _ hc9
            replace f := f.step st9
            replace f4 := f4.step st9
            replace hs := hs.trans st9
            replace sl14 := sl14.trans st9
            replace sl19 := sl19.trans st9
            exact hnext3 (IntKind.i64.wrap (t3.1 + 1), (List.set t3.2 t.1.length (List.set x10 (Int.toNat t3.1) x13))) _ _ ⟨_, sl19, rfl, (set_back ((set_len (set_len ((rfl : _ = _).trans hl.symm))).trans hl2.symm) (set_len ((set_len (set_len ((rfl : _ = _).trans hl.symm))).trans hl2.symm)) hl2), f2, hc5, hc7⟩ q
          · refine LoopI.ofQ q (fun t_ s_ hp_ => ∃ (σ_ : Nat → Nat), Stp [1] xσ5 H_7 σ_ hp_ ∧ t_.1 = s_ ∧ t_.2.length = t3.2.length ∧ SlO (slM (rdM u64L) 22) 30 (Zt σ_) (Yt σ_ 1) hp_ A c t_.2 ∧ CelF 1 σ_ hp_ (a7.add t.1.length) (.slice A6 x6.length c6) ∧ CelF 1 σ_ hp_ (a9.add t.1.length) (.slice A7 x9.length c7)) (fun h k => h _ _ k) ⟨_, Stp.refl _ _ _, rfl, rfl, f2, hc5, hc7⟩ ?_
            rintro t4 _ _ H_10 next4 nextQ4 ⟨xσ7, st10, rfl, hl3, f2, hc5, hc7⟩ q hnext4
            try dsimp only at q ⊢
            replace f := f.step st10
            replace f4 := f4.step st10
            replace hs := hs.trans st10
            replace sl14 := sl14.trans st10
            have sl21 := st10
            refine condI (fun q => ?_) (fun q => ?_) q
            · refine condI (fun q => ?_) (fun q => ?_) q
              · obtain ⟨h014, hi28, q⟩ := q
                obtain ⟨a14, ha14, hi27⟩ := f2.addr h014 (((set_len (set_len ((rfl : _ = _).trans hl.symm))).trans hl2.symm).trans hl3.symm) hi28
                refine ⟨a14, ha14, hi27.1, hi27.2, ?_⟩
                obtain ⟨h015, hi30, q⟩ := q
                obtain ⟨a15, ha15, hi29⟩ := f2.addr h015 (((set_len (set_len ((rfl : _ = _).trans hl.symm))).trans hl2.symm).trans hl3.symm) hi30
                refine ⟨a15, ha15, hi29.1, hi29.2, ?_⟩
                obtain ⟨h016, hi32, q⟩ := q
                obtain ⟨a16, ha16, hi31⟩ := f2.addr h016 (((set_len (set_len ((rfl : _ = _).trans hl.symm))).trans hl2.symm).trans hl3.symm) hi32
                refine ⟨a16, ha16, hi31.1, hi31.2, ?_⟩
                obtain ⟨x14, hx11, q⟩ := q
                obtain ⟨A10, c10, Y9, hc11, hY9, f12, bk8⟩ := f2.row ha14 h014 hx11
                have g8 := SlO.rowF f12 (fun b hb => (hY9 b hb).1)
                refine ⟨_, _, _, hc11.val, ?_⟩
                obtain ⟨x15, hx12, q⟩ := q
                obtain ⟨A11, c11, Y10, hc12, hY10, f13, bk9⟩ := f2.row ha15 h015 hx12
                have g9 := SlO.rowF f13 (fun b hb => (hY10 b hb).1)
                refine ⟨_, _, _, hc12.val, ?_⟩
                obtain ⟨x16, hx13, q⟩ := q
                obtain ⟨A12, c12, Y11, hc13, hY11, f14, bk10⟩ := f2.row ha16 h016 hx13
                have g10 := SlO.rowF f14 (fun b hb => (hY11 b hb).1)
                refine ⟨_, _, _, hc13.val, ?_⟩
                obtain ⟨h017, hi34, q⟩ := q
                obtain ⟨a17, ha17, hi33⟩ := SlF.addr g10 h017 (List.getElem?_eq_getElem (idx_lt rfl h017 hi34)) rfl
                refine ⟨a17, ha17, hi33.1, hi33.2, ?_⟩
                obtain ⟨x17, hx14, q⟩ := q
                have hc14 := SlO.row_ldu f2 ha16 h016 hx13 hc13 ha17 h017 hx14
                refine ⟨_, hc14.val, ?_⟩
                have ea := Option.some.inj (ha15.symm.trans ha14)
                subst ea
                obtain ⟨hik, q⟩ := q
                obtain ⟨xτ, Z5, hτ, hZ, f15, f16, bk11⟩ := SlO.lend2 f2 ha14 h014 h015 hx11 hx12 hc11 hc12 hik
                refine q Z5 xτ H_10 hτ _ rfl _ _ _ rfl f15 _ _ _ rfl f16 _ rfl _ (fun Z6 xτ2 H_11 hT hO4 hd o hl4 f17 q => ?_)
                obtain ⟨xσ8, st11, f2, hh2⟩ := bk11 hT hd hl4 (fun Z2_ => SlO.anyZ u64_flatL f17)
                replace hc5 := by have ea := Option.some.inj (ha7.symm.trans ha14); subst ea; exact hh2 _ _ hc5
                replace hc7 := by have ea := Option.some.inj (ha9.symm.trans ha14); subst ea; exact hh2 _ _ hc7
                replace hc11 := hh2 _ _ hc11
                replace hc12 := hh2 _ _ hc12
                replace hc13 := by have ea := Option.some.inj (ha16.symm.trans ha14); subst ea; exact hh2 _ _ hc13
                replace f := f.step st11
                replace f4 := f4.step st11
                replace hs := hs.trans st11
                replace sl14 := sl14.trans st11
                replace sl21 := sl21.trans st11
                refine ⟨rfl, ?_⟩
                exact hnext4 (IntKind.i64.wrap (t4.1 + 1), (List.set t4.2 (Int.toNat t4.1) o)) _ _ ⟨_, sl21, rfl, (set_back (((set_len (set_len ((rfl : _ = _).trans hl.symm))).trans hl2.symm).trans hl3.symm) (set_len (((set_len (set_len ((rfl : _ = _).trans hl.symm))).trans hl2.symm).trans hl3.symm)) hl3), f2, hc5, hc7⟩ q
              · exact hnext4 (IntKind.i64.wrap (t4.1 + 1), t4.2) _ _ ⟨_, sl21, rfl, hl3, f2, hc5, hc7⟩ q
            · refine NewH.mk fun H_12 e4 => ?_
              obtain ⟨xσ9, st12, f18⟩ := SlO.lit (E := i64L) xσ7 3 (xs := [t.2.1]) (l := [[_]]) e4 rfl (.cons rfl .nil) (show (1 : Nat) ≤ 17592186044416 by decide)
              replace f := f.step st12
              replace f2 := f2.step st12
              replace f4 := f4.step st12
              replace hc5 := hc5.step st12
              replace hc7 := hc7.step st12
              replace hs := hs.trans st12
              replace sl14 := sl14.trans st12
              obtain ⟨xσ11, st14, f18⟩ := SlO.freeze f18
              replace f := f.step st14
              replace f2 := f2.step st14
              replace f4 := f4.step st14
              replace hc5 := hc5.step st14
              replace hc7 := hc7.step st14
              replace hs := hs.trans st14
              replace sl14 := sl14.trans st14
              obtain ⟨q2, q⟩ := q
              refine SlO.appF f4 f18 rfl rfl q2.l q2.r rfl rfl (fun A13 c13 H_13 xσ10 st13 f4_ => ?_)
              replace f4 := f4_
              replace f := f.step st13
              replace f2 := f2.step st13
              replace hc5 := hc5.step st13
              replace hc7 := hc7.step st13
              replace f18 := f18.step st13
              replace hs := hs.trans st13
              replace sl14 := sl14.trans st13
              have f19 := f4; clear f4
              exact hnext ((t.1 ++ ([t.2.1] : List Int)), IntKind.i64.wrap (t.2.1 + 1), t4.2) _ _ ⟨_, _, _, _, sl14, rfl, rfl, f19, (set_back ((rfl : _ = _).trans hl.symm) (((set_len (set_len ((rfl : _ = _).trans hl.symm))).trans hl2.symm).trans hl3.symm) hl), f2⟩ q
    · refine condI (fun q => ?_) (fun q => ?_) q
      · exact hnext (t.1, IntKind.i64.wrap (t.2.1 + 1), t.2.2) _ _ ⟨_, _, _, _, sl14, rfl, rfl, f4, hl, f2⟩ q
      · obtain ⟨h018, hi36, q⟩ := q
        obtain ⟨a18, ha18, hi35⟩ := f2.addr h018 ((rfl : _ = _).trans hl.symm) hi36
        refine ⟨a18, ha18, hi35.1, hi35.2, ?_⟩
        obtain ⟨h019, hi38, q⟩ := q
        obtain ⟨a19, ha19, hi37⟩ := f2.addr h019 ((rfl : _ = _).trans hl.symm) hi38
        refine ⟨a19, ha19, hi37.1, hi37.2, ?_⟩
        obtain ⟨x18, hx15, q⟩ := q
        obtain ⟨A14, c14, Y12, hc15, hY12, f20, bk12⟩ := f2.row ha18 h018 hx15
        have g11 := SlO.rowF f20 (fun b hb => (hY12 b hb).1)
        refine ⟨_, _, _, hc15.val, ?_⟩
        obtain ⟨x19, hx16, q⟩ := q
        obtain ⟨A15, c15, Y13, hc16, hY13, f21, bk13⟩ := f2.row ha19 h019 hx16
        have g12 := SlO.rowF f21 (fun b hb => (hY13 b hb).1)
        refine ⟨_, _, _, hc16.val, ?_⟩
        obtain ⟨h020, hi40, q⟩ := q
        obtain ⟨a20, ha20, hi39⟩ := f2.addr h020 ((rfl : _ = _).trans hl.symm) hi40
        refine ⟨a20, ha20, hi39.1, hi39.2, ?_⟩
        have ea := Option.some.inj (ha18.symm.trans ha20)
        subst ea
        have ea := Option.some.inj (ha18.symm.trans ha19)
        subst ea
        have w5 := SlO.swap f2 ha18 h019 h018 hx16 hx15 hc16 hc15
        refine ⟨w5.1, NewH.mk fun H_14 e5 => ?_⟩
        have w6 := w5.2 H_14 e5
        obtain ⟨h021, hi42, q⟩ := q
        obtain ⟨a21, ha21, hi41⟩ := f2.addr h021 ((rfl : _ = _).trans hl.symm) hi42
        refine ⟨a21, ha21, hi41.1, hi41.2, ?_⟩
        have ea := Option.some.inj (ha18.symm.trans ha21)
        subst ea
        refine ⟨w6.1, NewH.mk fun H_15 e6 => ?_⟩
        obtain ⟨st16, f2⟩ := w6.2 H_15 e6
        replace f := f.step st16
        replace f4 := f4.step st16
        replace hs := hs.trans st16
        replace sl14 := sl14.trans st16
        obtain ⟨h022, hi44, q⟩ := q
        obtain ⟨a22, ha22, hi43⟩ := f2.addr h022 (set_len (set_len ((rfl : _ = _).trans hl.symm))) hi44
        refine ⟨a22, ha22, hi43.1, hi43.2, ?_⟩
        obtain ⟨x20, hx17, q⟩ := q
        obtain ⟨A16, c16, Y14, hc17, hY14, f22, bk14⟩ := f2.row ha22 h022 hx17
        have g13 := SlO.rowF f22 (fun b hb => (hY14 b hb).1)
        refine ⟨_, _, _, hc17.val, ?_⟩
        obtain ⟨h023, hi46, q⟩ := q
        obtain ⟨a23, ha23, hi45⟩ := SlF.addr g13 h023 (List.getElem?_eq_getElem (idx_lt rfl h023 hi46)) rfl
        refine ⟨a23, ha23, hi45.1, hi45.2, ?_⟩
        obtain ⟨x21, hx18, q⟩ := q
        have hc18 := SlO.row_ldu f2 ha22 h022 hx17 hc17 ha23 h023 hx18
        refine ⟨_, hc18.val, ?_⟩
        refine q (Zt xσ3) H_15 _ rfl _ rfl _ (fun Z7 H_16 hE4 hO5 x22 v3 he4 q => ?_)
        obtain ⟨xσ12, st17⟩ := call0 hE4 xσ3
        cases he4
        replace f := f.step st17
        replace f2 := f2.step st17
        replace f4 := f4.step st17
        replace hc17 := hc17.step st17
        replace hc18 := hc18.step st17
        replace hs := hs.trans st17
        replace sl14 := sl14.trans st17
        refine ⟨_, rfl, ?_⟩
        obtain ⟨h024, hi48, q⟩ := q
        obtain ⟨a24, ha24, hi47⟩ := f2.addr h024 (set_len (set_len ((rfl : _ = _).trans hl.symm))) hi48
        refine ⟨a24, ha24, hi47.1, hi47.2, ?_⟩
        obtain ⟨x23, hx19, q⟩ := q
        obtain ⟨A17, c17, Y15, hc19, hY15, f23, bk15⟩ := f2.row ha24 h024 hx19
        have g14 := SlO.rowF f23 (fun b hb => (hY15 b hb).1)
        refine ⟨_, _, _, hc19.val, ?_⟩
        refine LoopI.ofQ q (fun t_ s_ hp_ => ∃ (σ_ : Nat → Nat), Stp [1] xσ12 H_16 σ_ hp_ ∧ t_.1 = s_ ∧ t_.2.length = (List.set (List.set t.2.2 t.1.length x18) (Int.toNat t2) x19).length ∧ SlO (slM (rdM u64L) 22) 30 (Zt σ_) (Yt σ_ 1) hp_ A c t_.2 ∧ CelF 1 σ_ hp_ (a22.add t.1.length) (.slice A16 x20.length c16) ∧ CelF 1 σ_ hp_ (a24.add t.1.length) (.slice A17 x23.length c17)) (fun h k => h _ _ k) ⟨_, Stp.refl _ _ _, rfl, rfl, f2, hc17, hc19⟩ ?_
        rintro t5 _ _ H_17 next5 nextQ5 ⟨xσ13, st18, rfl, hl5, f2, hc17, hc19⟩ q hnext5
        try dsimp only at q ⊢
        replace f := f.step st18
        replace f4 := f4.step st18
        replace hs := hs.trans st18
        replace sl14 := sl14.trans st18
        have sl25 := st18
        refine condI (fun q => ?_) (fun q => ?_) q
        · obtain ⟨h025, hi50, q⟩ := q
          obtain ⟨a25, ha25, hi49⟩ := f2.addr h025 ((set_len (set_len ((rfl : _ = _).trans hl.symm))).trans hl5.symm) hi50
          refine ⟨a25, ha25, hi49.1, hi49.2, ?_⟩
          obtain ⟨h026, hi52, q⟩ := q
          obtain ⟨a26, ha26, hi51⟩ := f2.addr h026 ((set_len (set_len ((rfl : _ = _).trans hl.symm))).trans hl5.symm) hi52
          refine ⟨a26, ha26, hi51.1, hi51.2, ?_⟩
          obtain ⟨x24, hx20, q⟩ := q
          obtain ⟨A18, c18, Y16, hc20, hY16, f24, bk16⟩ := f2.row ha25 h025 hx20
          have g15 := SlO.rowF f24 (fun b hb => (hY16 b hb).1)
          refine ⟨_, _, _, hc20.val, ?_⟩
          obtain ⟨x25, hx21, q⟩ := q
          obtain ⟨A19, c19, Y17, hc21, hY17, f25, bk17⟩ := f2.row ha26 h026 hx21
          have g16 := SlO.rowF f25 (fun b hb => (hY17 b hb).1)
          refine ⟨_, _, _, hc21.val, ?_⟩
          obtain ⟨h027, hi54, q⟩ := q
          obtain ⟨a27, ha27, hi53⟩ := SlF.addr g16 h027 (List.getElem?_eq_getElem (idx_lt rfl h027 hi54)) rfl
          refine ⟨a27, ha27, hi53.1, hi53.2, ?_⟩
          obtain ⟨x26, hx22, q⟩ := q
          have hc22 := SlO.row_ldu f2 ha26 h026 hx21 hc21 ha27 h027 hx22
          refine ⟨_, hc22.val, ?_⟩
          refine q (Zt xσ13) H_17 _ rfl _ rfl _ rfl _ (fun Z8 H_18 hE5 hO6 x27 v4 he5 q => ?_)
          obtain ⟨xσ14, st19⟩ := call0 hE5 xσ13
          cases he5
          replace f := f.step st19
          replace f2 := f2.step st19
          replace f4 := f4.step st19
          replace hc17 := hc17.step st19
          replace hc19 := hc19.step st19
          replace hc20 := hc20.step st19
          replace hc21 := hc21.step st19
          replace hc22 := hc22.step st19
          replace hs := hs.trans st19
          replace sl14 := sl14.trans st19
          replace sl25 := sl25.trans st19
          refine ⟨_, rfl, ?_⟩
          refine ⟨hc20.val, ?_⟩
          obtain ⟨h028, hi56, q⟩ := q
          obtain ⟨a28, ha28, hi55⟩ := SlF.addr g15 h028 (List.getElem?_eq_getElem (idx_lt rfl h028 hi56)) rfl
          refine ⟨a28, ha28, hi55.1, hi55.2, ?_⟩
          have w8 := fun v hr => SlO.set2 (v := v) (y := x27) f2 rfl ha25 h025 hx20 hc20 ha28 h028 (lt_of_n rfl hi56) hr
          refine ⟨(w8 _ rfl).1, NewH.mk fun H_19 e7 => ?_⟩
          obtain ⟨st20, f2, hh3⟩ := (w8 _ rfl).2 H_19 e7
          replace hc17 := by have ea := Option.some.inj (ha22.symm.trans ha25); subst ea; exact hh3 _ _ hc17
          replace hc19 := by have ea := Option.some.inj (ha24.symm.trans ha25); subst ea; exact hh3 _ _ hc19
          replace hc20 := hh3 _ _ hc20
          replace hc21 := by have ea := Option.some.inj (ha26.symm.trans ha25); subst ea; exact hh3 _ _ hc21
          replace f := f.step st20
          replace f4 := f4.step st20
          replace hs := hs.trans st20
          replace sl14 := sl14.trans st20
          replace sl25 := sl25.trans st20
          exact hnext5 (IntKind.i64.wrap (t5.1 + 1), (List.set t5.2 t.1.length (List.set x24 (Int.toNat t5.1) x27))) _ _ ⟨_, sl25, rfl, (set_back ((set_len (set_len ((rfl : _ = _).trans hl.symm))).trans hl5.symm) (set_len ((set_len (set_len ((rfl : _ = _).trans hl.symm))).trans hl5.symm)) hl5), f2, hc17, hc19⟩ q
        · refine LoopI.ofQ q (fun t_ s_ hp_ => ∃ (σ_ : Nat → Nat), Stp [1] xσ13 H_17 σ_ hp_ ∧ t_.1 = s_ ∧ t_.2.length = t5.2.length ∧ SlO (slM (rdM u64L) 22) 30 (Zt σ_) (Yt σ_ 1) hp_ A c t_.2 ∧ CelF 1 σ_ hp_ (a22.add t.1.length) (.slice A16 x20.length c16) ∧ CelF 1 σ_ hp_ (a24.add t.1.length) (.slice A17 x23.length c17)) (fun h k => h _ _ k) ⟨_, Stp.refl _ _ _, rfl, rfl, f2, hc17, hc19⟩ ?_
          rintro t6 _ _ H_20 next6 nextQ6 ⟨xσ15, st21, rfl, hl6, f2, hc17, hc19⟩ q hnext6
          try dsimp only at q ⊢
          replace f := f.step st21
          replace f4 := f4.step st21
          replace hs := hs.trans st21
          replace sl14 := sl14.trans st21
          have sl27 := st21
          refine condI (fun q => ?_) (fun q => ?_) q
          · refine condI (fun q => ?_) (fun q => ?_) q
            · obtain ⟨h029, hi58, q⟩ := q
              obtain ⟨a29, ha29, hi57⟩ := f2.addr h029 (((set_len (set_len ((rfl : _ = _).trans hl.symm))).trans hl5.symm).trans hl6.symm) hi58
              refine ⟨a29, ha29, hi57.1, hi57.2, ?_⟩
              obtain ⟨h030, hi60, q⟩ := q
              obtain ⟨a30, ha30, hi59⟩ := f2.addr h030 (((set_len (set_len ((rfl : _ = _).trans hl.symm))).trans hl5.symm).trans hl6.symm) hi60
              refine ⟨a30, ha30, hi59.1, hi59.2, ?_⟩
              obtain ⟨h031, hi62, q⟩ := q
              obtain ⟨a31, ha31, hi61⟩ := f2.addr h031 (((set_len (set_len ((rfl : _ = _).trans hl.symm))).trans hl5.symm).trans hl6.symm) hi62
              refine ⟨a31, ha31, hi61.1, hi61.2, ?_⟩
              obtain ⟨x28, hx23, q⟩ := q
              obtain ⟨A20, c20, Y18, hc23, hY18, f26, bk18⟩ := f2.row ha29 h029 hx23
              have g17 := SlO.rowF f26 (fun b hb => (hY18 b hb).1)
              refine ⟨_, _, _, hc23.val, ?_⟩
              obtain ⟨x29, hx24, q⟩ := q
              obtain ⟨A21, c21, Y19, hc24, hY19, f27, bk19⟩ := f2.row ha30 h030 hx24
              have g18 := SlO.rowF f27 (fun b hb => (hY19 b hb).1)
              refine ⟨_, _, _, hc24.val, ?_⟩
              obtain ⟨x30, hx25, q⟩ := q
              obtain ⟨A22, c22, Y20, hc25, hY20, f28, bk20⟩ := f2.row ha31 h031 hx25
              have g19 := SlO.rowF f28 (fun b hb => (hY20 b hb).1)
              refine ⟨_, _, _, hc25.val, ?_⟩
              obtain ⟨h032, hi64, q⟩ := q
              obtain ⟨a32, ha32, hi63⟩ := SlF.addr g19 h032 (List.getElem?_eq_getElem (idx_lt rfl h032 hi64)) rfl
              refine ⟨a32, ha32, hi63.1, hi63.2, ?_⟩
              obtain ⟨x31, hx26, q⟩ := q
              have hc26 := SlO.row_ldu f2 ha31 h031 hx25 hc25 ha32 h032 hx26
              refine ⟨_, hc26.val, ?_⟩
              have ea := Option.some.inj (ha30.symm.trans ha29)
              subst ea
              obtain ⟨hik2, q⟩ := q
              obtain ⟨xτ3, Z9, hτ2, hZ2, f29, f30, bk21⟩ := SlO.lend2 f2 ha29 h029 h030 hx23 hx24 hc23 hc24 hik2
              refine q Z9 xτ3 H_20 hτ2 _ rfl _ _ _ rfl f29 _ _ _ rfl f30 _ rfl _ (fun Z10 xτ4 H_21 hT2 hO7 hd2 o2 hl7 f31 q => ?_)
              obtain ⟨xσ16, st22, f2, hh4⟩ := bk21 hT2 hd2 hl7 (fun Z2_ => SlO.anyZ u64_flatL f31)
              replace hc17 := by have ea := Option.some.inj (ha22.symm.trans ha29); subst ea; exact hh4 _ _ hc17
              replace hc19 := by have ea := Option.some.inj (ha24.symm.trans ha29); subst ea; exact hh4 _ _ hc19
              replace hc23 := hh4 _ _ hc23
              replace hc24 := hh4 _ _ hc24
              replace hc25 := by have ea := Option.some.inj (ha31.symm.trans ha29); subst ea; exact hh4 _ _ hc25
              replace f := f.step st22
              replace f4 := f4.step st22
              replace hs := hs.trans st22
              replace sl14 := sl14.trans st22
              replace sl27 := sl27.trans st22
              refine ⟨rfl, ?_⟩
              exact hnext6 (IntKind.i64.wrap (t6.1 + 1), (List.set t6.2 (Int.toNat t6.1) o2)) _ _ ⟨_, sl27, rfl, (set_back (((set_len (set_len ((rfl : _ = _).trans hl.symm))).trans hl5.symm).trans hl6.symm) (set_len (((set_len (set_len ((rfl : _ = _).trans hl.symm))).trans hl5.symm).trans hl6.symm)) hl6), f2, hc17, hc19⟩ q
            · exact hnext6 (IntKind.i64.wrap (t6.1 + 1), t6.2) _ _ ⟨_, sl27, rfl, hl6, f2, hc17, hc19⟩ q
          · refine NewH.mk fun H_22 e8 => ?_
            obtain ⟨xσ17, st23, f32⟩ := SlO.lit (E := i64L) xσ15 4 (xs := [t.2.1]) (l := [[_]]) e8 rfl (.cons rfl .nil) (show (1 : Nat) ≤ 17592186044416 by decide)
            replace f := f.step st23
            replace f2 := f2.step st23
            replace f4 := f4.step st23
            replace hc17 := hc17.step st23
            replace hc19 := hc19.step st23
            replace hs := hs.trans st23
            replace sl14 := sl14.trans st23
            obtain ⟨xσ19, st25, f32⟩ := SlO.freeze f32
            replace f := f.step st25
            replace f2 := f2.step st25
            replace f4 := f4.step st25
            replace hc17 := hc17.step st25
            replace hc19 := hc19.step st25
            replace hs := hs.trans st25
            replace sl14 := sl14.trans st25
            obtain ⟨q3, q⟩ := q
            refine SlO.appF f4 f32 rfl rfl q3.l q3.r rfl rfl (fun A23 c23 H_23 xσ18 st24 f4_ => ?_)
            replace f4 := f4_
            replace f := f.step st24
            replace f2 := f2.step st24
            replace hc17 := hc17.step st24
            replace hc19 := hc19.step st24
            replace f32 := f32.step st24
            replace hs := hs.trans st24
            replace sl14 := sl14.trans st24
            have f33 := f4; clear f4
            exact hnext ((t.1 ++ ([t.2.1] : List Int)), IntKind.i64.wrap (t.2.1 + 1), t6.2) _ _ ⟨_, _, _, _, sl14, rfl, rfl, f33, (set_back ((rfl : _ = _).trans hl.symm) (((set_len (set_len ((rfl : _ = _).trans hl.symm))).trans hl5.symm).trans hl6.symm) hl), f2⟩ q
  · exact hk (Zt xσ2) _ (hs.ext hσ) (hs.old hσ) _ (Yt xσ2 1) (hs.fresh hσ) _ _ _ ((rfl : _ = _).trans hl.symm) f2 _ (Yt xσ2 2) (hs.fresh hσ) _ _ _ rfl f4 Yt.apart q
def juntoref03_Solve.C (p : Nat) (m : (List (List Nat))) (v : (List Nat)) (K : (List Nat) → Bool → Prop) : Prop :=
  ∀ (Z : Nat → Prop) (H : Heap), ∀ (pv : Int), pv = (p : Int) → ∀ (mA : Option Addr) (mn mc : Nat), mn = m.length → SlF (slL u64L) Z H mA mc m → ∀ (vA : Option Addr) (vn vc : Nat), vn = v.length → SlF u64L Z H vA vc v → ∀ KK : Value → Heap → Prop,
    (∀ (Z' : Nat → Prop) (H' : Heap), Ext H H' → Old Z H Z' → ∀ (r0 : (List Nat)), ∀ (Y0 : Nat → Prop), (∀ i, Y0 i → H.size ≤ i ∧ ¬ Z' i) → ∀ (Ar0_0 : Option Addr) (nr0_0 cr0_0 : Nat), nr0_0 = r0.length → SlO (rdM u64L) 22 Z' Y0 H' Ar0_0 cr0_0 r0 → ∀ (r1 : Bool), K r0 r1 → KK (.tuple #[.slice Ar0_0 nr0_0 cr0_0, .bool r1]) H') →
    CallH P N.juntoref03_Solve [.int .u64 pv, .slice mA mn mc, .slice vA vn vc] H KK
def juntoref03_Solve.Q (p : Nat) (m : (List (List Nat))) (v : (List Nat)) (K : (List Nat) → Bool → Prop) : Prop :=
  LoopQ (τ := List (List Nat) × Int) (([] : List (List Nat)), 0) fun t nextQ =>
  cond (decide (t.2 < ((v.length : Nat) : Int))) (0 ≤ t.2 ∧ ∃ x : Nat, v[Int.toNat t.2]? = some x ∧ AppOk 24 (t.1 ++ ([[x]] : List (List Nat))).length ∧ nextQ ((t.1 ++ ([[x]] : List (List Nat))), IntKind.i64.wrap (t.2 + 1)))
   (0 ≤ (0 : Int) ∧ ∃ x2 : (List Nat), m[0]? = some x2 ∧ juntoref03_beside.C m t.1 (fun (x3 : (List (List Nat))) =>
  juntoref03_Reduce.C p x3 ((x2.length : Nat) : Int) (fun (r : (List (List Nat))) (r2 : (List Int)) =>
  MakeOk 8 ((x2.length : Nat) : Int) ∧ LoopQ (τ := Int × List Nat) (0, (List.replicate x2.length 0)) fun t2 nextQ2 =>
  cond (decide (t2.1 < ((r.length : Nat) : Int))) (0 ≤ t2.1 ∧ t2.1 < ((r.length : Nat) : Int) ∧ ∃ x4 : (List Nat), r[Int.toNat t2.1]? = some x4 ∧ cond (decide (t2.1 < ((r2.length : Nat) : Int))) (0 ≤ t2.1 ∧ t2.1 < ((r2.length : Nat) : Int) ∧ 0 ≤ ((x2.length : Nat) : Int) ∧ ((x2.length : Nat) : Int) < ((x4.length : Nat) : Int) ∧ ∃ x5 : Int, r2[Int.toNat t2.1]? = some x5 ∧ ∃ x6 : Nat, x4[x2.length]? = some x6 ∧ 0 ≤ x5 ∧ x5 < ((x2.length : Nat) : Int) ∧ nextQ2 (IntKind.i64.wrap (t2.1 + 1), (List.set t2.2 (Int.toNat x5) x6)))
   (0 ≤ ((x2.length : Nat) : Int) ∧ ((x2.length : Nat) : Int) < ((x4.length : Nat) : Int) ∧ ∃ x7 : Nat, x4[x2.length]? = some x7 ∧ cond ((x7 : Int) != 0) (K ([]) false)
   (nextQ2 (IntKind.i64.wrap (t2.1 + 1), t2.2))))
   (K t2.2 true))))
theorem juntoref03_Solve.q {p : Nat} {m : (List (List Nat))} {v : (List Nat)} {K : (List Nat) → Bool → Prop} (q : juntoref03_Solve.Q p m v K) : juntoref03_Solve.C p m v K := by
  intro Z H pv he mA mn mc hn f vA vn vc hn2 f2 KK hk
  cases he
  cases hn
  cases hn2
  apply juntoref03_Solve.ok
  unfold juntoref03_Solve.W
  unfold juntoref03_Solve.Q at q
  obtain ⟨σ, hz, hσ⟩ := tags Z
  have hs : Stp ([1, 2, 3, 4, 5, 6, 7] : List Nat) σ H σ H := Stp.refl _ _ _
  replace f := f.wide hz
  replace f2 := f2.wide hz
  clear hz
  have f3 := SlO.nil (rdM (slL u64L)) 30 (Zt σ) (Yt σ 1) H
  refine LoopI.ofQ q (fun t_ s_ hp_ => ∃ (σ_ : Nat → Nat) (A0_ : Option Addr) (n0_ c0_ : Nat), Stp [1, 2, 3] σ H σ_ hp_ ∧ ((A0_, n0_, c0_), t_.2) = s_ ∧ n0_ = t_.1.length ∧ SlO (rdM (slL u64L)) 30 (Zt σ_) (Yt σ_ 1) hp_ A0_ c0_ t_.1) (fun h k => h _ _ k) ⟨_, _, _, _, Stp.refl _ _ _, rfl, rfl, f3⟩ ?_
  rintro t _ _ H_ next nextQ ⟨xσ, A, n, c, st, rfl, rfl, f4⟩ q hnext
  try dsimp only at q ⊢
  replace f := f.step st
  replace f2 := f2.step st
  replace hs := hs.trans st
  have sl0 := st
  refine condI (fun q => ?_) (fun q => ?_) q
  · obtain ⟨h0, x, hx, q⟩ := q
    obtain ⟨a, ha, hi⟩ := f2.addr h0 hx rfl
    refine ⟨a, ha, hi.1, hi.2, ?_⟩
    have hc := f2.ldu ha h0 hx
    refine ⟨_, hc.val, ?_⟩
    refine NewH.mk fun H_2 e => ?_
    obtain ⟨xσ2, st2, f5⟩ := SlO.lit (E := u64L) xσ 2 (xs := [x]) (l := [[_]]) e rfl (.cons rfl .nil) (show (1 : Nat) ≤ 17592186044416 by decide)
    replace f := f.step st2
    replace f2 := f2.step st2
    replace f4 := f4.step st2
    replace hc := hc.step st2
    replace hs := hs.trans st2
    replace sl0 := sl0.trans st2
    obtain ⟨xσ3, st3, f5⟩ := SlO.freeze f5
    replace f := f.step st3
    replace f2 := f2.step st3
    replace f4 := f4.step st3
    replace hc := hc.step st3
    replace hs := hs.trans st3
    replace sl0 := sl0.trans st3
    refine NewH.mk fun H_3 e2 => ?_
    obtain ⟨xσ4, st4, f6⟩ := SlO.lit (E := (slL u64L)) xσ3 3 (xs := [[x]]) (l := [[_]]) e2 rfl (.cons (slL_rep rfl f5) .nil) (show (1 : Nat) ≤ 17592186044416 by decide)
    replace f := f.step st4
    replace f2 := f2.step st4
    replace f4 := f4.step st4
    replace hc := hc.step st4
    replace f5 := f5.step st4
    replace hs := hs.trans st4
    replace sl0 := sl0.trans st4
    obtain ⟨xσ6, st6, f6⟩ := SlO.freeze f6
    replace f := f.step st6
    replace f2 := f2.step st6
    replace f4 := f4.step st6
    replace hc := hc.step st6
    replace f5 := f5.step st6
    replace hs := hs.trans st6
    replace sl0 := sl0.trans st6
    obtain ⟨q2, q⟩ := q
    refine SlO.appF f4 f6 rfl rfl q2.l q2.r rfl rfl (fun A2 c2 H_4 xσ5 st5 f4_ => ?_)
    replace f4 := f4_
    replace f := f.step st5
    replace f2 := f2.step st5
    replace hc := hc.step st5
    replace f5 := f5.step st5
    replace f6 := f6.step st5
    replace hs := hs.trans st5
    replace sl0 := sl0.trans st5
    have f7 := f4; clear f4
    exact hnext ((t.1 ++ ([[x]] : List (List Nat))), IntKind.i64.wrap (t.2 + 1)) _ _ ⟨_, _, _, _, sl0, rfl, rfl, f7⟩ q
  · obtain ⟨h02, x2, hx2, q⟩ := q
    obtain ⟨a2, ha2, hi2⟩ := f.addr h02 hx2 rfl
    refine ⟨a2, ha2, hi2.1, hi2.2, ?_⟩
    obtain ⟨A3, c3, hc2, f8⟩ := f.lds ha2 h02 hx2
    refine ⟨_, _, _, hc2.val, ?_⟩
    obtain ⟨xσ7, st7, f4⟩ := SlO.freeze f4
    replace f := f.step st7
    replace f2 := f2.step st7
    replace hc2 := hc2.step st7
    replace f8 := f8.step st7
    replace hs := hs.trans st7
    refine q (Zt xσ7) H_ _ _ _ rfl f _ _ _ rfl f4 _ (fun Z2 H_5 hE hO x3 Y hY A4 n2 c4 hn3 f9 q => ?_)
    obtain ⟨xσ8, st8, fz, fy⟩ := call1 hE hO xσ7 4 (fun _ h => h) hY
    replace f9 := f9.keep fz fy
    cases hn3
    replace f := f.step st8
    replace f2 := f2.step st8
    replace f4 := f4.step st8
    replace hc2 := hc2.step st8
    replace f8 := f8.step st8
    replace hs := hs.trans st8
    refine ⟨_, _, _, rfl, ?_⟩
    obtain ⟨xσ9, st9, f9⟩ := SlO.freeze f9
    replace f := f.step st9
    replace f2 := f2.step st9
    replace f4 := f4.step st9
    replace hc2 := hc2.step st9
    replace f8 := f8.step st9
    replace hs := hs.trans st9
    refine q (Zt xσ9) H_5 _ rfl _ _ _ rfl f9 _ (fun Z3 H_6 hE2 hO2 r Y2 hY2 A5 n3 c5 hn4 f10 r2 Y3 hY3 A6 n4 c6 hn5 f11 hY4 q => ?_)
    obtain ⟨xσ10, st10, fz2, fy2, fy3⟩ := call2 hE2 hO2 xσ9 5 6 (fun _ h => h) hY2 hY3 hY4
    replace f10 := f10.keep fz2 fy2
    replace f11 := f11.keep fz2 fy3
    cases hn4
    cases hn5
    replace f := f.step st10
    replace f2 := f2.step st10
    replace f4 := f4.step st10
    replace hc2 := hc2.step st10
    replace f8 := f8.step st10
    replace f9 := f9.step st10
    replace hs := hs.trans st10
    refine ⟨_, _, _, _, _, _, rfl, ?_⟩
    obtain ⟨q3, q⟩ := q
    refine ⟨q3.1, Int.le_refl _, q3.w1, q3.w2, NewH.mk fun H_7 e3 => ?_⟩
    obtain ⟨xσ11, st11, f12⟩ := SlO.made (O := (rdM u64L)) xσ10 7 e3 (u64_zero) q3.len
    replace f := f.step st11
    replace f2 := f2.step st11
    replace f4 := f4.step st11
    replace hc2 := hc2.step st11
    replace f8 := f8.step st11
    replace f9 := f9.step st11
    replace f10 := f10.step st11
    replace f11 := f11.step st11
    replace hs := hs.trans st11
    refine LoopI.ofQ q (fun t_ s_ hp_ => ∃ (σ_ : Nat → Nat), Stp [7] xσ11 H_7 σ_ hp_ ∧ t_.1 = s_ ∧ t_.2.length = (List.replicate x2.length 0).length ∧ SlO (rdM u64L) 22 (Zt σ_) (Yt σ_ 7) hp_ (some (Addr.mk H_6.size 0 none)) x2.length t_.2) (fun h k => h _ _ k) ⟨_, Stp.refl _ _ _, rfl, rfl, f12⟩ ?_
    rintro t2 _ _ H_8 next2 nextQ2 ⟨xσ12, st12, rfl, hl, f12⟩ q hnext2
    try dsimp only at q ⊢
    replace f := f.step st12
    replace f2 := f2.step st12
    replace f4 := f4.step st12
    replace hc2 := hc2.step st12
    replace f8 := f8.step st12
    replace f9 := f9.step st12
    replace f10 := f10.step st12
    replace f11 := f11.step st12
    replace hs := hs.trans st12
    have sl2 := st12
    refine condI (fun q => ?_) (fun q => ?_) q
    · obtain ⟨h03, hi4, q⟩ := q
      obtain ⟨a3, ha3, hi3⟩ := f10.addr h03 rfl hi4
      refine ⟨a3, ha3, hi3.1, hi3.2, ?_⟩
      obtain ⟨x4, hx3, q⟩ := q
      obtain ⟨A7, c7, Y4, hc3, hY5, f13, bk⟩ := f10.row ha3 h03 hx3
      have g := SlO.rowF f13 (fun b hb => (hY5 b hb).1)
      refine ⟨_, _, _, hc3.val, ?_⟩
      refine condI (fun q => ?_) (fun q => ?_) q
      · obtain ⟨h04, hi6, q⟩ := q
        obtain ⟨a4, ha4, hi5⟩ := f11.addr h04 rfl hi6
        refine ⟨a4, ha4, hi5.1, hi5.2, ?_⟩
        obtain ⟨h05, hi8, q⟩ := q
        obtain ⟨a5, ha5, hi7⟩ := SlF.addr g h05 (List.getElem?_eq_getElem (idx_lt rfl h05 hi8)) rfl
        refine ⟨a5, ha5, hi7.1, hi7.2, ?_⟩
        obtain ⟨x5, hx4, q⟩ := q
        have hc4 := f11.ldi ha4 h04 hx4
        refine ⟨_, hc4.val, ?_⟩
        obtain ⟨x6, hx5, q⟩ := q
        have hc5 := SlO.row_ldu f10 ha3 h03 hx3 hc3 ha5 h05 hx5
        refine ⟨_, hc5.val, ?_⟩
        obtain ⟨h06, hi10, q⟩ := q
        obtain ⟨a6, ha6, hi9⟩ := f12.addr h06 ((rl_len _ _).trans hl.symm) hi10
        refine ⟨a6, ha6, hi9.1, hi9.2, ?_⟩
        have w := fun v hr => SlO.set1 (v := v) (y := x6) f12 rfl ha6 h06 (lt_of_n ((rl_len _ _).trans hl.symm) hi10) hr
        refine ⟨(w _ rfl).1, NewH.mk fun H_9 e4 => ?_⟩
        obtain ⟨st13, f12⟩ := (w _ rfl).2 H_9 e4
        replace f := f.step st13
        replace f2 := f2.step st13
        replace f4 := f4.step st13
        replace hc2 := hc2.step st13
        replace f8 := f8.step st13
        replace f9 := f9.step st13
        replace f10 := f10.step st13
        replace f11 := f11.step st13
        replace hc3 := hc3.step st13
        replace hc4 := hc4.step st13
        replace hc5 := hc5.step st13
        replace hs := hs.trans st13
        replace sl2 := sl2.trans st13
        exact hnext2 (IntKind.i64.wrap (t2.1 + 1), (List.set t2.2 (Int.toNat x5) x6)) _ _ ⟨_, sl2, rfl, (set_back ((rl_len _ _).trans hl.symm) (set_len ((rl_len _ _).trans hl.symm)) hl), f12⟩ q
      · obtain ⟨h07, hi12, q⟩ := q
        obtain ⟨a7, ha7, hi11⟩ := SlF.addr g h07 (List.getElem?_eq_getElem (idx_lt rfl h07 hi12)) rfl
        refine ⟨a7, ha7, hi11.1, hi11.2, ?_⟩
        obtain ⟨x7, hx6, q⟩ := q
        have hc6 := SlO.row_ldu f10 ha3 h03 hx3 hc3 ha7 h07 hx6
        refine ⟨_, hc6.val, ?_⟩
        refine condI (fun q => ?_) (fun q => ?_) q
        · exact hk (Zt xσ12) _ (hs.ext hσ) (hs.old hσ) _ (fun _ => False) (fun _ h => h.elim) _ _ _ rfl (SlO.nil _ _ _ _ _) _ q
        · exact hnext2 (IntKind.i64.wrap (t2.1 + 1), t2.2) _ _ ⟨_, sl2, rfl, hl, f12⟩ q
    · exact hk (Zt xσ12) _ (hs.ext hσ) (hs.old hσ) _ (Yt xσ12 7) (hs.fresh hσ) _ _ _ ((rl_len _ _).trans hl.symm) f12 _ q
end Go.Proofs.Ytlhcaangdenoaaa.Sh
