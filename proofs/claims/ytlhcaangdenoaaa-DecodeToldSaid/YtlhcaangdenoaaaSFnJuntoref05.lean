import Derived.Test.YtlhcaangdenoaaaSTypes
import Derived.Test.YtlhcaangdenoaaaSFnJuntoref01
import Derived.Test.YtlhcaangdenoaaaSFnJuntoref02
import Derived.Test.YtlhcaangdenoaaaSFnJuntoref03
namespace Go.Lf
end Go.Lf
namespace Go.Sx
end Go.Sx
set_option linter.unusedVariables false
set_option linter.unusedSimpArgs false
set_option maxRecDepth 100000
namespace Go.Proofs.Ytlhcaangdenoaaa.Sh
open Go.Sx
def juntoref05_Check.A : Ann where
  loops := fun i => match i with
    | _ => []
  plans := fun i => match i with
    | _ => .stop
def juntoref05_Check.W (p : Int) (d : Int) (lA : Option Addr) (ln lc : Nat) (H : Heap) (R : Value → Heap → Prop) : Prop :=
  CallH P N.juntoref01_Is [.int .u64 p] H fun v H_ =>
  ∃ r : Bool, v = .bool r ∧ cond (!r) (R (.int .i64 2) H_) (cond (decide (d < 0)) (R (.int .i64 2) H_) (cond (decide (d > 63)) (R (.int .i64 2) H_)
   (CallH P N.juntoref02_Points [.int .u64 p, .slice lA ln lc, .int .i64 64] H_ fun v2 H_2 =>
  ∃ r2 : Int, v2 = .int .i64 r2 ∧ R (.int .i64 r2) H_2)))
theorem juntoref05_Check.ok (p : Int) (d : Int) (lA : Option Addr) (ln lc : Nat) (H : Heap) (R : Value → Heap → Prop) (h : juntoref05_Check.W p d lA ln lc H R) : CallH P N.juntoref05_Check ([.int .u64 p, .int .i64 d, .slice lA ln lc] : List Value) H R := by
  have e : juntoref05_Check.W p d lA ln lc H R = sxFn P T Sh.R nf juntoref05_Check.A Try.f53.results.toList (bodyOf Try.f53) (([(.int .u64 p : Value), (.int .i64 d : Value), (.slice lA ln lc : Value)] : List Value) ++ List.replicate (21 - ([(.int .u64 p : Value), (.int .i64 d : Value), (.slice lA ln lc : Value)] : List Value).length) undef) H R := by kernel_rfl
  exact call_of_sx fits bodies mixed Try.func53 (c := bodyOf Try.f53) (by kernel_rfl) Try.ntmps53 juntoref05_Check.A (by kernel_rfl) (e.mp h)
def juntoref05_Most.A : Ann where
  loops := fun i => match i with
    | _ => []
  plans := fun i => match i with
    | _ => .stop
def juntoref05_Most.W (points : Int) (d : Int) (H : Heap) (R : Value → Heap → Prop) : Prop :=
  cond (decide (points < 0)) (R (.int .i64 (-1)) H) (cond (decide (d < 0)) (R (.int .i64 (-1)) H) (cond (decide (d ≥ points)) (R (.int .i64 (-1)) H)
   ((2 : Int) ≠ 0 ∧ R (.int .i64 (IntKind.i64.wrap (Int.tdiv (IntKind.i64.wrap ((IntKind.i64.wrap (points - d)) - 1)) 2))) H)))
theorem juntoref05_Most.ok (points : Int) (d : Int) (H : Heap) (R : Value → Heap → Prop) (h : juntoref05_Most.W points d H R) : CallH P N.juntoref05_Most ([.int .i64 points, .int .i64 d] : List Value) H R := by
  have e : juntoref05_Most.W points d H R = sxFn P T Sh.R nf juntoref05_Most.A Try.f56.results.toList (bodyOf Try.f56) (([(.int .i64 points : Value), (.int .i64 d : Value)] : List Value) ++ List.replicate (21 - ([(.int .i64 points : Value), (.int .i64 d : Value)] : List Value).length) undef) H R := by kernel_rfl
  exact call_of_sx fits bodies mixed Try.func56 (c := bodyOf Try.f56) (by kernel_rfl) Try.ntmps56 juntoref05_Most.A (by kernel_rfl) (e.mp h)
def juntoref05_Search.A : Ann where
  loops := fun i => match i with
    | _ => []
  plans := fun i => match i with
    | _ => .stop
def juntoref05_Search.W (p : Int) (d : Int) (wrong : Int) (lA : Option Addr) (ln lc : Nat) (H : Heap) (R : Value → Heap → Prop) : Prop :=
  CallH P N.juntoref05_search [.int .u64 p, .int .i64 d, .int .i64 wrong, .slice lA ln lc, .int .i64 0, .slice none 0 0] H fun v H_ =>
  ∃ (r0A : Option Addr) (r0n r0c : Nat), ∃ r1 : Bool, v = .tuple #[.slice r0A r0n r0c, .bool r1] ∧ R (.tuple #[.slice r0A r0n r0c, .bool r1]) H_
theorem juntoref05_Search.ok (p : Int) (d : Int) (wrong : Int) (lA : Option Addr) (ln lc : Nat) (H : Heap) (R : Value → Heap → Prop) (h : juntoref05_Search.W p d wrong lA ln lc H R) : CallH P N.juntoref05_Search ([.int .u64 p, .int .i64 d, .int .i64 wrong, .slice lA ln lc] : List Value) H R := by
  have e : juntoref05_Search.W p d wrong lA ln lc H R = sxFn P T Sh.R nf juntoref05_Search.A Try.f62.results.toList (bodyOf Try.f62) (([(.int .u64 p : Value), (.int .i64 d : Value), (.int .i64 wrong : Value), (.slice lA ln lc : Value)] : List Value) ++ List.replicate (17 - ([(.int .u64 p : Value), (.int .i64 d : Value), (.int .i64 wrong : Value), (.slice lA ln lc : Value)] : List Value).length) undef) H R := by kernel_rfl
  exact call_of_sx fits bodies mixed Try.func62 (c := bodyOf Try.f62) (by kernel_rfl) Try.ntmps62 juntoref05_Search.A (by kernel_rfl) (e.mp h)
def juntoref05_Off.A : Ann where
  loops := fun i => match i with
    | 12295 => [(7, .slice), (12, .int .i64)]
    | _ => []
  plans := fun i => match i with
    | 5 => .first 0 (.first 1 (.first 2 (.first 5 (.read 3 (.read 6 (.alt 4 [3] (.first 7 (.done)) (.stop)))))))
    | _ => .stop
def juntoref05_Off.W (p : Int) (fA : Option Addr) (fn fc : Nat) (lA : Option Addr) (ln lc : Nat) (H : Heap) (R : Value → Heap → Prop) : Prop :=
  LoopI (σ := (Option Addr × Nat × Nat) × Int) (fun κ => κ ((none, 0, 0), 0) H) fun s z H_ next =>
  cond (decide (s.2 < ((ln : Nat) : Int))) (∃ a : Addr, lA = some a ∧ 0 ≤ s.2 ∧ s.2 < ((ln : Nat) : Int) ∧ ∃ x0 : Int, ∃ x1 : Int, cellH H_ (a.add ((Int.toNat s.2) * 2)) = some (.int .u64 x0) ∧ cellH H_ ((a.add ((Int.toNat s.2) * 2)).add 1) = some (.int .u64 x1) ∧ NewH (H_.push (.cells #[.int .u64 0, .int .u64 0] 103 (0, 0))) fun H_2 =>
  MayWrite H_2 (Addr.mk H_.size 0 none) 2 ∧ NewH (setH (setH H_2 (Addr.mk H_.size 0 none) (.int .u64 x0)) (((Addr.mk H_.size 0 none)).add 1) (.int .u64 x1)) fun H_3 =>
  ∃ x : Int, cellH H_3 (Addr.mk H_.size 0 none) = some (.int .u64 x) ∧ ∃ x2 : Int, cellH H_3 (((Addr.mk H_.size 0 none)).add 1) = some (.int .u64 x2) ∧ CallH P N.juntoref02_Eval [.int .u64 p, .slice fA fn fc, .int .u64 x] H_3 fun v H_4 =>
  ∃ r : Int, v = .int .u64 r ∧ cellH H_4 (((Addr.mk H_.size 0 none)).add 1) = some (.int .u64 x2) ∧ cond (r != x2) (NewH (H_4.push (.cells #[.int .i64 s.2] 3 (0, 0))) fun H_5 =>
  AppendV 3 1 8 [.int .i64 0] H_5 s.1.1 s.1.2.1 s.1.2.2 (some (Addr.mk H_4.size 0 none)) 1 fun vA vn vc H_6 =>
  next ((vA, vn, vc), IntKind.i64.wrap (s.2 + 1)) H_6)
   (next ((s.1.1, s.1.2.1, s.1.2.2), IntKind.i64.wrap (s.2 + 1)) H_4))
   (R (.slice s.1.1 s.1.2.1 s.1.2.2) H_)
theorem juntoref05_Off.ok (p : Int) (fA : Option Addr) (fn fc : Nat) (lA : Option Addr) (ln lc : Nat) (H : Heap) (R : Value → Heap → Prop) (h : juntoref05_Off.W p fA fn fc lA ln lc H R) : CallH P N.juntoref05_Off ([.int .u64 p, .slice fA fn fc, .slice lA ln lc] : List Value) H R := by
  have e : juntoref05_Off.W p fA fn fc lA ln lc H R = sxFn P T Sh.R nf juntoref05_Off.A Try.f64.results.toList (bodyOf Try.f64) (([(.int .u64 p : Value), (.slice fA fn fc : Value), (.slice lA ln lc : Value)] : List Value) ++ List.replicate (31 - ([(.int .u64 p : Value), (.slice fA fn fc : Value), (.slice lA ln lc : Value)] : List Value).length) undef) H R := by kernel_rfl
  exact call_of_sx fits bodies mixed Try.func64 (c := bodyOf Try.f64) (by kernel_rfl) Try.ntmps64 juntoref05_Off.A (by kernel_rfl) (e.mp h)
def juntoref05_There.A : Ann where
  loops := fun i => match i with
    | 16392 => [(6, .slice), (7, .slice), (12, .int .i64)]
    | _ => []
  plans := fun i => match i with
    | _ => .stop
def juntoref05_There.W (lA : Option Addr) (ln lc : Nat) (thereA : Option Addr) (theren therec : Nat) (H : Heap) (R : Value → Heap → Prop) : Prop :=
  LoopI (σ := (Option Addr × Nat × Nat) × (Option Addr × Nat × Nat) × Int) (fun κ => κ ((none, 0, 0), (none, 0, 0), 0) H) fun s z H_ next =>
  cond (decide (s.2.2 < ((ln : Nat) : Int))) (∃ a : Addr, lA = some a ∧ 0 ≤ s.2.2 ∧ s.2.2 < ((ln : Nat) : Int) ∧ ∃ x0 : Int, ∃ x1 : Int, cellH H_ (a.add ((Int.toNat s.2.2) * 2)) = some (.int .u64 x0) ∧ cellH H_ ((a.add ((Int.toNat s.2.2) * 2)).add 1) = some (.int .u64 x1) ∧ NewH (H_.push (.cells #[.int .u64 0, .int .u64 0] 103 (0, 0))) fun H_2 =>
  MayWrite H_2 (Addr.mk H_.size 0 none) 2 ∧ NewH (setH (setH H_2 (Addr.mk H_.size 0 none) (.int .u64 x0)) (((Addr.mk H_.size 0 none)).add 1) (.int .u64 x1)) fun H_3 =>
  ∃ a2 : Addr, thereA = some a2 ∧ 0 ≤ s.2.2 ∧ s.2.2 < ((theren : Nat) : Int) ∧ ∃ x : Bool, cellH H_3 (a2.add (Int.toNat s.2.2)) = some (.bool x) ∧ cond x (∃ x02 : Int, ∃ x12 : Int, cellH H_3 (Addr.mk H_.size 0 none) = some (.int .u64 x02) ∧ cellH H_3 (((Addr.mk H_.size 0 none)).add 1) = some (.int .u64 x12) ∧ NewH (H_3.push (.cells #[.int .u64 x02, .int .u64 x12] 103 (0, 0))) fun H_4 =>
  AppendV 103 2 16 [.int .u64 0, .int .u64 0] H_4 s.1.1 s.1.2.1 s.1.2.2 (some (Addr.mk H_3.size 0 none)) 1 fun vA vn vc H_5 =>
  NewH (H_5.push (.cells #[.int .i64 s.2.2] 3 (0, 0))) fun H_6 =>
  AppendV 3 1 8 [.int .i64 0] H_6 s.2.1.1 s.2.1.2.1 s.2.1.2.2 (some (Addr.mk H_5.size 0 none)) 1 fun vA2 vn2 vc2 H_7 =>
  next ((vA, vn, vc), (vA2, vn2, vc2), IntKind.i64.wrap (s.2.2 + 1)) H_7)
   (next ((s.1.1, s.1.2.1, s.1.2.2), (s.2.1.1, s.2.1.2.1, s.2.1.2.2), IntKind.i64.wrap (s.2.2 + 1)) H_3))
   (R (.tuple #[.slice s.1.1 s.1.2.1 s.1.2.2, .slice s.2.1.1 s.2.1.2.1 s.2.1.2.2]) H_)
theorem juntoref05_There.ok (lA : Option Addr) (ln lc : Nat) (thereA : Option Addr) (theren therec : Nat) (H : Heap) (R : Value → Heap → Prop) (h : juntoref05_There.W lA ln lc thereA theren therec H R) : CallH P N.juntoref05_There ([.slice lA ln lc, .slice thereA theren therec] : List Value) H R := by
  have e : juntoref05_There.W lA ln lc thereA theren therec H R = sxFn P T Sh.R nf juntoref05_There.A Try.f68.results.toList (bodyOf Try.f68) (([(.slice lA ln lc : Value), (.slice thereA theren therec : Value)] : List Value) ++ List.replicate (32 - ([(.slice lA ln lc : Value), (.slice thereA theren therec : Value)] : List Value).length) undef) H R := by kernel_rfl
  exact call_of_sx fits bodies mixed Try.func68 (c := bodyOf Try.f68) (by kernel_rfl) Try.ntmps68 juntoref05_There.A (by kernel_rfl) (e.mp h)
def juntoref05_Decode.A : Ann where
  loops := fun i => match i with
    | 16403 => [(10, .slice), (11, .slice), (23, .int .i64)]
    | 32779 => [(14, .slice), (31, .int .i64)]
    | 53264 => [(14, .slice), (45, .int .i64)]
    | _ => []
  plans := fun i => match i with
    | 15 => .first 0 (.first 1 (.first 2 (.first 3 (.first 5 (.first 6 (.first 8 (.first 9 (.read 4 (.read 7 (.alt 10 [7] (.alt 11 [4] (.alt 12 [] (.alt 13 [] (.alt 14 [] (.first 15 (.done)) (.stop)) (.stop)) (.stop)) (.stop)) (.stop)))))))))))
    | 18 => .first 0 (.first 1 (.first 2 (.first 4 (.first 5 (.first 7 (.first 8 (.read 3 (.read 6 (.alt 9 [6] (.alt 10 [3] (.alt 11 [] (.alt 12 [] (.first 13 (.done)) (.stop)) (.stop)) (.stop)) (.stop))))))))))
    | 23 => .first 0 (.first 1 (.first 2 (.first 3 (.first 4 (.first 5 (.first 6 (.first 8 (.first 9 (.first 10 (.first 11 (.first 12 (.first 13 (.alt 7 [] (.alt 14 [] (.alt 15 [] (.alt 16 [] (.alt 17 [] (.first 18 (.first 19 (.first 20 (.first 21 (.first 22 (.done)))))) (.stop)) (.stop)) (.stop)) (.alt 15 [] (.alt 14 [] (.alt 16 [] (.alt 17 [] (.first 18 (.first 19 (.first 20 (.first 21 (.first 22 (.done)))))) (.stop)) (.stop)) (.stop)) (.stop))) (.alt 15 [] (.alt 7 [] (.alt 14 [] (.alt 16 [] (.alt 17 [] (.first 18 (.first 19 (.first 20 (.first 21 (.first 22 (.done)))))) (.stop)) (.stop)) (.stop)) (.stop)) (.stop)))))))))))))))
    | _ => .stop
def juntoref05_Decode.W (p : Int) (d : Int) (wrong : Int) (lA : Option Addr) (ln lc : Nat) (H : Heap) (R : Value → Heap → Prop) : Prop :=
  LoopI (σ := (Option Addr × Nat × Nat) × (Option Addr × Nat × Nat) × Int) (fun κ => κ ((none, 0, 0), (none, 0, 0), 0) H) fun s z H_ next =>
  cond (decide (s.2.2 < ((ln : Nat) : Int))) (∃ a : Addr, lA = some a ∧ 0 ≤ s.2.2 ∧ s.2.2 < ((ln : Nat) : Int) ∧ ∃ x0 : Int, ∃ x1 : Int, cellH H_ (a.add ((Int.toNat s.2.2) * 2)) = some (.int .u64 x0) ∧ cellH H_ ((a.add ((Int.toNat s.2.2) * 2)).add 1) = some (.int .u64 x1) ∧ NewH (H_.push (.cells #[.int .u64 0, .int .u64 0] 103 (0, 0))) fun H_2 =>
  MayWrite H_2 (Addr.mk H_.size 0 none) 2 ∧ NewH (setH (setH H_2 (Addr.mk H_.size 0 none) (.int .u64 x0)) (((Addr.mk H_.size 0 none)).add 1) (.int .u64 x1)) fun H_3 =>
  LoopI (σ := (Option Addr × Nat × Nat) × Int) (fun κ => κ ((none, 0, 0), 0) H_3) fun s2 z2 H_4 next2 =>
  cond (decide (s2.2 < (IntKind.i64.wrap ((IntKind.i64.wrap (d + wrong)) + 1)))) (∃ x : Int, cellH H_4 (Addr.mk H_.size 0 none) = some (.int .u64 x) ∧ CallH P N.juntoref01_Pow [.int .u64 p, .int .u64 x, .int .u64 (IntKind.u64.wrap s2.2)] H_4 fun v H_5 =>
  ∃ r : Int, v = .int .u64 r ∧ NewH (H_5.push (.cells #[.int .u64 r] 22 (0, 0))) fun H_6 =>
  AppendV 22 1 8 [.int .u64 0] H_6 s2.1.1 s2.1.2.1 s2.1.2.2 (some (Addr.mk H_5.size 0 none)) 1 fun vA vn vc H_7 =>
  next2 ((vA, vn, vc), IntKind.i64.wrap (s2.2 + 1)) H_7)
   (LoopI (σ := (Option Addr × Nat × Nat) × Int) (fun κ => κ ((s2.1.1, s2.1.2.1, s2.1.2.2), 0) H_4) fun s3 z3 H_8 next3 =>
  cond (decide (s3.2 < wrong)) (∃ x2 : Int, cellH H_8 (((Addr.mk H_.size 0 none)).add 1) = some (.int .u64 x2) ∧ ∃ x3 : Int, cellH H_8 (Addr.mk H_.size 0 none) = some (.int .u64 x3) ∧ CallH P N.juntoref01_Pow [.int .u64 p, .int .u64 x3, .int .u64 (IntKind.u64.wrap s3.2)] H_8 fun v3 H_9 =>
  ∃ r2 : Int, v3 = .int .u64 r2 ∧ cellH H_9 (((Addr.mk H_.size 0 none)).add 1) = some (.int .u64 x2) ∧ CallH P N.juntoref01_Mul [.int .u64 p, .int .u64 x2, .int .u64 r2] H_9 fun v4 H_10 =>
  ∃ r3 : Int, v4 = .int .u64 r3 ∧ CallH P N.juntoref01_Sub [.int .u64 p, .int .u64 0, .int .u64 r3] H_10 fun v5 H_11 =>
  ∃ r4 : Int, v5 = .int .u64 r4 ∧ NewH (H_11.push (.cells #[.int .u64 r4] 22 (0, 0))) fun H_12 =>
  AppendV 22 1 8 [.int .u64 0] H_12 s3.1.1 s3.1.2.1 s3.1.2.2 (some (Addr.mk H_11.size 0 none)) 1 fun vA2 vn2 vc2 H_13 =>
  next3 ((vA2, vn2, vc2), IntKind.i64.wrap (s3.2 + 1)) H_13)
   (NewH (H_8.push (.cells #[.slice s3.1.1 s3.1.2.1 s3.1.2.2] 30 (0, 0))) fun H_14 =>
  AppendV 30 1 24 [.slice none 0 0] H_14 s.1.1 s.1.2.1 s.1.2.2 (some (Addr.mk H_8.size 0 none)) 1 fun vA3 vn3 vc3 H_15 =>
  ∃ x4 : Int, cellH H_15 (((Addr.mk H_.size 0 none)).add 1) = some (.int .u64 x4) ∧ ∃ x5 : Int, cellH H_15 (Addr.mk H_.size 0 none) = some (.int .u64 x5) ∧ CallH P N.juntoref01_Pow [.int .u64 p, .int .u64 x5, .int .u64 (IntKind.u64.wrap wrong)] H_15 fun v8 H_16 =>
  ∃ r5 : Int, v8 = .int .u64 r5 ∧ cellH H_16 (((Addr.mk H_.size 0 none)).add 1) = some (.int .u64 x4) ∧ CallH P N.juntoref01_Mul [.int .u64 p, .int .u64 x4, .int .u64 r5] H_16 fun v9 H_17 =>
  ∃ r6 : Int, v9 = .int .u64 r6 ∧ NewH (H_17.push (.cells #[.int .u64 r6] 22 (0, 0))) fun H_18 =>
  AppendV 22 1 8 [.int .u64 0] H_18 s.2.1.1 s.2.1.2.1 s.2.1.2.2 (some (Addr.mk H_17.size 0 none)) 1 fun vA4 vn4 vc4 H_19 =>
  next ((vA3, vn3, vc3), (vA4, vn4, vc4), IntKind.i64.wrap (s.2.2 + 1)) H_19)))
   (CallH P N.juntoref03_Solve [.int .u64 p, .slice s.1.1 s.1.2.1 s.1.2.2, .slice s.2.1.1 s.2.1.2.1 s.2.1.2.2] H_ fun v11 H_20 =>
  ∃ (r0A : Option Addr) (r0n r0c : Nat), ∃ r1 : Bool, v11 = .tuple #[.slice r0A r0n r0c, .bool r1] ∧ cond (!r1) (R (.tuple #[.slice none 0 0, .bool false]) H_20)
   (0 ≤ (IntKind.i64.wrap ((IntKind.i64.wrap (d + wrong)) + 1)) ∧ (IntKind.i64.wrap ((IntKind.i64.wrap (d + wrong)) + 1)) ≤ ((r0c : Nat) : Int) ∧ 0 ≤ (IntKind.i64.wrap ((IntKind.i64.wrap (d + wrong)) + 1)) ∧ (IntKind.i64.wrap ((IntKind.i64.wrap (d + wrong)) + 1)) ≤ ((r0n : Nat) : Int) ∧ (NewH (H_20.push (.cells #[] 22 (0, 0))) fun H_21 =>
  (AppendV 22 1 8 [.int .u64 0] H_21 (some (Addr.mk H_20.size 0 none)) 0 0 (SubA r0A r0c (Int.toNat (IntKind.i64.wrap ((IntKind.i64.wrap (d + wrong)) + 1))) 1) (r0n - (Int.toNat (IntKind.i64.wrap ((IntKind.i64.wrap (d + wrong)) + 1)))) fun vA5 vn5 vc5 H_22 =>
  NewH (H_22.push (.cells #[.int .u64 1] 22 (0, 0))) fun H_23 =>
  AppendV 22 1 8 [.int .u64 0] H_23 vA5 vn5 vc5 (some (Addr.mk H_22.size 0 none)) 1 fun vA6 vn6 vc6 H_24 =>
  CallH P N.juntoref02_Divide [.int .u64 p, .slice r0A (Int.toNat (IntKind.i64.wrap ((IntKind.i64.wrap (d + wrong)) + 1))) r0c, .slice vA6 vn6 vc6] H_24 fun v14 H_25 =>
  ∃ (r0A2 : Option Addr) (r0n2 r0c2 : Nat), ∃ (r1A : Option Addr) (r1n r1c : Nat), v14 = .tuple #[.slice r0A2 r0n2 r0c2, .slice r1A r1n r1c] ∧ cond (decide (((r1n : Nat) : Int) > 0)) (R (.tuple #[.slice none 0 0, .bool false]) H_25) (cond (decide (((r0n2 : Nat) : Int) > (IntKind.i64.wrap (d + 1)))) (R (.tuple #[.slice none 0 0, .bool false]) H_25) (CallH P N.juntoref05_Off [.int .u64 p, .slice r0A2 r0n2 r0c2, .slice lA ln lc] H_25 fun v15 H_26 =>
  ∃ (rA : Option Addr) (rn rc : Nat), v15 = .slice rA rn rc ∧ cond (decide (((rn : Nat) : Int) > wrong)) (R (.tuple #[.slice none 0 0, .bool false]) H_26)
   (R (.tuple #[.slice r0A2 r0n2 r0c2, .bool true]) H_26)))) ∧ NewH (H_21.push (.cells #[.int .u64 1] 22 (0, 0))) fun H_27 =>
  AppendV 22 1 8 [.int .u64 0] H_27 (some (Addr.mk H_20.size 0 none)) 0 0 (SubA r0A r0c (Int.toNat (IntKind.i64.wrap ((IntKind.i64.wrap (d + wrong)) + 1))) 1) (r0n - (Int.toNat (IntKind.i64.wrap ((IntKind.i64.wrap (d + wrong)) + 1)))) fun vA7 vn7 vc7 H_28 =>
  AppendV 22 1 8 [.int .u64 0] H_28 vA7 vn7 vc7 (some (Addr.mk H_21.size 0 none)) 1 fun vA8 vn8 vc8 H_29 =>
  CallH P N.juntoref02_Divide [.int .u64 p, .slice r0A (Int.toNat (IntKind.i64.wrap ((IntKind.i64.wrap (d + wrong)) + 1))) r0c, .slice vA8 vn8 vc8] H_29 fun v18 H_30 =>
  ∃ (r0A3 : Option Addr) (r0n3 r0c3 : Nat), ∃ (r1A2 : Option Addr) (r1n2 r1c2 : Nat), v18 = .tuple #[.slice r0A3 r0n3 r0c3, .slice r1A2 r1n2 r1c2] ∧ cond (decide (((r1n2 : Nat) : Int) > 0)) (R (.tuple #[.slice none 0 0, .bool false]) H_30) (cond (decide (((r0n3 : Nat) : Int) > (IntKind.i64.wrap (d + 1)))) (R (.tuple #[.slice none 0 0, .bool false]) H_30) (CallH P N.juntoref05_Off [.int .u64 p, .slice r0A3 r0n3 r0c3, .slice lA ln lc] H_30 fun v19 H_31 =>
  ∃ (rA2 : Option Addr) (rn2 rc2 : Nat), v19 = .slice rA2 rn2 rc2 ∧ cond (decide (((rn2 : Nat) : Int) > wrong)) (R (.tuple #[.slice none 0 0, .bool false]) H_31)
   (R (.tuple #[.slice r0A3 r0n3 r0c3, .bool true]) H_31)))) ∧ NewH (H_20.push (.cells #[.int .u64 1] 22 (0, 0))) fun H_32 =>
  NewH (H_32.push (.cells #[] 22 (0, 0))) fun H_33 =>
  AppendV 22 1 8 [.int .u64 0] H_33 (some (Addr.mk H_32.size 0 none)) 0 0 (SubA r0A r0c (Int.toNat (IntKind.i64.wrap ((IntKind.i64.wrap (d + wrong)) + 1))) 1) (r0n - (Int.toNat (IntKind.i64.wrap ((IntKind.i64.wrap (d + wrong)) + 1)))) fun vA9 vn9 vc9 H_34 =>
  AppendV 22 1 8 [.int .u64 0] H_34 vA9 vn9 vc9 (some (Addr.mk H_20.size 0 none)) 1 fun vA10 vn10 vc10 H_35 =>
  CallH P N.juntoref02_Divide [.int .u64 p, .slice r0A (Int.toNat (IntKind.i64.wrap ((IntKind.i64.wrap (d + wrong)) + 1))) r0c, .slice vA10 vn10 vc10] H_35 fun v22 H_36 =>
  ∃ (r0A4 : Option Addr) (r0n4 r0c4 : Nat), ∃ (r1A3 : Option Addr) (r1n3 r1c3 : Nat), v22 = .tuple #[.slice r0A4 r0n4 r0c4, .slice r1A3 r1n3 r1c3] ∧ cond (decide (((r1n3 : Nat) : Int) > 0)) (R (.tuple #[.slice none 0 0, .bool false]) H_36) (cond (decide (((r0n4 : Nat) : Int) > (IntKind.i64.wrap (d + 1)))) (R (.tuple #[.slice none 0 0, .bool false]) H_36) (CallH P N.juntoref05_Off [.int .u64 p, .slice r0A4 r0n4 r0c4, .slice lA ln lc] H_36 fun v23 H_37 =>
  ∃ (rA3 : Option Addr) (rn3 rc3 : Nat), v23 = .slice rA3 rn3 rc3 ∧ cond (decide (((rn3 : Nat) : Int) > wrong)) (R (.tuple #[.slice none 0 0, .bool false]) H_37)
   (R (.tuple #[.slice r0A4 r0n4 r0c4, .bool true]) H_37)))))
theorem juntoref05_Decode.ok (p : Int) (d : Int) (wrong : Int) (lA : Option Addr) (ln lc : Nat) (H : Heap) (R : Value → Heap → Prop) (h : juntoref05_Decode.W p d wrong lA ln lc H R) : CallH P N.juntoref05_Decode ([.int .u64 p, .int .i64 d, .int .i64 wrong, .slice lA ln lc] : List Value) H R := by
  have e : juntoref05_Decode.W p d wrong lA ln lc H R = sxFn P T Sh.R nf juntoref05_Decode.A Try.f69.results.toList (bodyOf Try.f69) (([(.int .u64 p : Value), (.int .i64 d : Value), (.int .i64 wrong : Value), (.slice lA ln lc : Value)] : List Value) ++ List.replicate (132 - ([(.int .u64 p : Value), (.int .i64 d : Value), (.int .i64 wrong : Value), (.slice lA ln lc : Value)] : List Value).length) undef) H R := by kernel_rfl
  exact call_of_sx fits bodies mixed Try.func69 (c := bodyOf Try.f69) (by kernel_rfl) Try.ntmps69 juntoref05_Decode.A (by kernel_rfl) (e.mp h)
def juntoref05_search.A : Ann where
  loops := fun i => match i with
    | 20486 => [(15, .int .i64)]
    | _ => []
  plans := fun i => match i with
    | 7 => .first 0 (.first 1 (.first 2 (.first 3 (.first 4 (.first 5 (.first 7 (.first 9 (.first 10 (.first 11 (.read 12 (.alt 6 [] (.alt 8 [] (.alt 13 [12] (.alt 14 [] (.alt 15 [] (.first 16 (.first 17 (.first 18 (.first 19 (.first 20 (.done)))))) (.stop)) (.stop)) (.stop)) (.alt 13 [12] (.alt 8 [] (.alt 14 [] (.alt 15 [] (.first 16 (.first 17 (.first 18 (.first 19 (.first 20 (.done)))))) (.stop)) (.stop)) (.stop)) (.stop))) (.alt 13 [12] (.alt 6 [] (.alt 8 [] (.alt 14 [] (.alt 15 [] (.first 16 (.first 17 (.first 18 (.first 19 (.first 20 (.done)))))) (.stop)) (.stop)) (.stop)) (.stop)) (.stop)))))))))))))
    | _ => .stop
def juntoref05_search.W (p : Int) (d : Int) (wrong : Int) (lA : Option Addr) (ln lc : Nat) (from_ : Int) (chosenA : Option Addr) (chosenn chosenc : Nat) (H : Heap) (R : Value → Heap → Prop) : Prop :=
  cond (((chosenn : Nat) : Int) == (IntKind.i64.wrap (d + 1))) (CallH P N.juntoref02_Through [.int .u64 p, .slice chosenA chosenn chosenc] H fun v H_ =>
  ∃ (rA : Option Addr) (rn rc : Nat), v = .slice rA rn rc ∧ CallH P N.juntoref05_Off [.int .u64 p, .slice rA rn rc, .slice lA ln lc] H_ fun v2 H_2 =>
  ∃ (rA2 : Option Addr) (rn2 rc2 : Nat), v2 = .slice rA2 rn2 rc2 ∧ R (.tuple #[.slice rA rn rc, .bool (decide (((rn2 : Nat) : Int) ≤ wrong))]) H_2)
   (LoopI (σ := Int) (fun κ => κ from_ H) fun s z H_3 next =>
  cond (decide (s < ((ln : Nat) : Int))) (∃ a : Addr, lA = some a ∧ 0 ≤ s ∧ s < ((ln : Nat) : Int) ∧ ∃ x0 : Int, ∃ x1 : Int, cellH H_3 (a.add ((Int.toNat s) * 2)) = some (.int .u64 x0) ∧ cellH H_3 ((a.add ((Int.toNat s) * 2)).add 1) = some (.int .u64 x1) ∧ (NewH (H_3.push (.cells #[] 103 (0, 0))) fun H_4 =>
  cellH H_4 (a.add ((Int.toNat s) * 2)) = some (.int .u64 x0) ∧ cellH H_4 ((a.add ((Int.toNat s) * 2)).add 1) = some (.int .u64 x1) ∧ (AppendV 103 2 16 [.int .u64 0, .int .u64 0] H_4 (some (Addr.mk H_3.size 0 none)) 0 0 chosenA chosenn fun vA vn vc H_5 =>
  cellH H_5 (a.add ((Int.toNat s) * 2)) = some (.int .u64 x0) ∧ cellH H_5 ((a.add ((Int.toNat s) * 2)).add 1) = some (.int .u64 x1) ∧ NewH (H_5.push (.cells #[.int .u64 x0, .int .u64 x1] 103 (0, 0))) fun H_6 =>
  AppendV 103 2 16 [.int .u64 0, .int .u64 0] H_6 vA vn vc (some (Addr.mk H_5.size 0 none)) 1 fun vA2 vn2 vc2 H_7 =>
  CallH P N.juntoref05_search [.int .u64 p, .int .i64 d, .int .i64 wrong, .slice lA ln lc, .int .i64 (IntKind.i64.wrap (s + 1)), .slice vA2 vn2 vc2] H_7 fun v5 H_8 =>
  ∃ (r0A : Option Addr) (r0n r0c : Nat), ∃ r1 : Bool, v5 = .tuple #[.slice r0A r0n r0c, .bool r1] ∧ cond r1 (R (.tuple #[.slice r0A r0n r0c, .bool true]) H_8)
   (next (IntKind.i64.wrap (s + 1)) H_8)) ∧ NewH (H_4.push (.cells #[.int .u64 x0, .int .u64 x1] 103 (0, 0))) fun H_9 =>
  AppendV 103 2 16 [.int .u64 0, .int .u64 0] H_9 (some (Addr.mk H_3.size 0 none)) 0 0 chosenA chosenn fun vA3 vn3 vc3 H_10 =>
  AppendV 103 2 16 [.int .u64 0, .int .u64 0] H_10 vA3 vn3 vc3 (some (Addr.mk H_4.size 0 none)) 1 fun vA4 vn4 vc4 H_11 =>
  CallH P N.juntoref05_search [.int .u64 p, .int .i64 d, .int .i64 wrong, .slice lA ln lc, .int .i64 (IntKind.i64.wrap (s + 1)), .slice vA4 vn4 vc4] H_11 fun v8 H_12 =>
  ∃ (r0A2 : Option Addr) (r0n2 r0c2 : Nat), ∃ r12 : Bool, v8 = .tuple #[.slice r0A2 r0n2 r0c2, .bool r12] ∧ cond r12 (R (.tuple #[.slice r0A2 r0n2 r0c2, .bool true]) H_12)
   (next (IntKind.i64.wrap (s + 1)) H_12)) ∧ NewH (H_3.push (.cells #[.int .u64 x0, .int .u64 x1] 103 (0, 0))) fun H_13 =>
  NewH (H_13.push (.cells #[] 103 (0, 0))) fun H_14 =>
  AppendV 103 2 16 [.int .u64 0, .int .u64 0] H_14 (some (Addr.mk H_13.size 0 none)) 0 0 chosenA chosenn fun vA5 vn5 vc5 H_15 =>
  AppendV 103 2 16 [.int .u64 0, .int .u64 0] H_15 vA5 vn5 vc5 (some (Addr.mk H_3.size 0 none)) 1 fun vA6 vn6 vc6 H_16 =>
  CallH P N.juntoref05_search [.int .u64 p, .int .i64 d, .int .i64 wrong, .slice lA ln lc, .int .i64 (IntKind.i64.wrap (s + 1)), .slice vA6 vn6 vc6] H_16 fun v11 H_17 =>
  ∃ (r0A3 : Option Addr) (r0n3 r0c3 : Nat), ∃ r13 : Bool, v11 = .tuple #[.slice r0A3 r0n3 r0c3, .bool r13] ∧ cond r13 (R (.tuple #[.slice r0A3 r0n3 r0c3, .bool true]) H_17)
   (next (IntKind.i64.wrap (s + 1)) H_17))
   (R (.tuple #[.slice none 0 0, .bool false]) H_3))
theorem juntoref05_search.ok (p : Int) (d : Int) (wrong : Int) (lA : Option Addr) (ln lc : Nat) (from_ : Int) (chosenA : Option Addr) (chosenn chosenc : Nat) (H : Heap) (R : Value → Heap → Prop) (h : juntoref05_search.W p d wrong lA ln lc from_ chosenA chosenn chosenc H R) : CallH P N.juntoref05_search ([.int .u64 p, .int .i64 d, .int .i64 wrong, .slice lA ln lc, .int .i64 from_, .slice chosenA chosenn chosenc] : List Value) H R := by
  have e : juntoref05_search.W p d wrong lA ln lc from_ chosenA chosenn chosenc H R = sxFn P T Sh.R nf juntoref05_search.A Try.f97.results.toList (bodyOf Try.f97) (([(.int .u64 p : Value), (.int .i64 d : Value), (.int .i64 wrong : Value), (.slice lA ln lc : Value), (.int .i64 from_ : Value), (.slice chosenA chosenn chosenc : Value)] : List Value) ++ List.replicate (62 - ([(.int .u64 p : Value), (.int .i64 d : Value), (.int .i64 wrong : Value), (.slice lA ln lc : Value), (.int .i64 from_ : Value), (.slice chosenA chosenn chosenc : Value)] : List Value).length) undef) H R := by kernel_rfl
  exact call_of_sx fits bodies mixed Try.func97 (c := bodyOf Try.f97) (by kernel_rfl) Try.ntmps97 juntoref05_search.A (by kernel_rfl) (e.mp h)
end Go.Proofs.Ytlhcaangdenoaaa.Sh
namespace Go.Proofs.Ytlhcaangdenoaaa.Sh
open Go.Sx Go.Lf
def juntoref05_Check.C (p : Nat) (d : Int) (l : (List TPoint)) (K : Int → Prop) : Prop :=
  ∀ (Z : Nat → Prop) (H : Heap), ∀ (pv : Int), pv = (p : Int) → ∀ (lA : Option Addr) (ln lc : Nat), ln = l.length → SlF TPoint.L Z H lA lc l → ∀ KK : Value → Heap → Prop,
    (∀ (Z' : Nat → Prop) (H' : Heap), Ext H H' → Old Z H Z' → ∀ (r0 : Int), K r0 → KK (.int .i64 r0) H') →
    CallH P N.juntoref05_Check [.int .u64 pv, .int .i64 d, .slice lA ln lc] H KK
def juntoref05_Check.Q (p : Nat) (d : Int) (l : (List TPoint)) (K : Int → Prop) : Prop :=
  juntoref01_Is.C p (fun (x : Bool) =>
  cond (!x) (K 2)
   (cond (decide (d < 0)) (K 2)
   (cond (decide (d > 63)) (K 2)
   (juntoref02_Points.C p l 64 (fun (x2 : Int) =>
  K x2)))))
theorem juntoref05_Check.q {p : Nat} {d : Int} {l : (List TPoint)} {K : Int → Prop} (q : juntoref05_Check.Q p d l K) : juntoref05_Check.C p d l K := by
  intro Z H pv he lA ln lc hn f KK hk
  cases he
  cases hn
  apply juntoref05_Check.ok
  unfold juntoref05_Check.W
  unfold juntoref05_Check.Q at q
  obtain ⟨σ, hz, hσ⟩ := tags Z
  have hs : Stp ([] : List Nat) σ H σ H := Stp.refl _ _ _
  replace f := f.wide hz
  clear hz
  refine q (Zt σ) H _ rfl _ (fun Z2 H_ hE hO x q => ?_)
  obtain ⟨xσ, st⟩ := call0 hE σ
  replace f := f.step st
  replace hs := hs.trans st
  refine ⟨_, rfl, ?_⟩
  refine condI (fun q => ?_) (fun q => ?_) q
  · exact hk (Zt xσ) _ (hs.ext hσ) (hs.old hσ) _ q
  · refine condI (fun q => ?_) (fun q => ?_) q
    · exact hk (Zt xσ) _ (hs.ext hσ) (hs.old hσ) _ q
    · refine condI (fun q => ?_) (fun q => ?_) q
      · exact hk (Zt xσ) _ (hs.ext hσ) (hs.old hσ) _ q
      · refine q (Zt xσ) H_ _ rfl _ _ _ rfl f _ (fun Z3 H_2 hE2 hO2 x2 q => ?_)
        obtain ⟨xσ2, st2⟩ := call0 hE2 xσ
        replace f := f.step st2
        replace hs := hs.trans st2
        refine ⟨_, rfl, ?_⟩
        exact hk (Zt xσ2) _ (hs.ext hσ) (hs.old hσ) _ q
def juntoref05_Most.C (points : Int) (d : Int) (K : Int → Prop) : Prop :=
  ∀ (Z : Nat → Prop) (H : Heap), ∀ KK : Value → Heap → Prop,
    (∀ (Z' : Nat → Prop) (H' : Heap), Ext H H' → Old Z H Z' → ∀ (r0 : Int), K r0 → KK (.int .i64 r0) H') →
    CallH P N.juntoref05_Most [.int .i64 points, .int .i64 d] H KK
def juntoref05_Most.Q (points : Int) (d : Int) (K : Int → Prop) : Prop :=
  cond (decide (points < 0)) (K (-1))
   (cond (decide (d < 0)) (K (-1))
   (cond (decide (d ≥ points)) (K (-1))
   ((2 : Int) ≠ 0 ∧ K (IntKind.i64.wrap (Int.tdiv (IntKind.i64.wrap ((IntKind.i64.wrap (points - d)) - 1)) 2)))))
theorem juntoref05_Most.q {points : Int} {d : Int} {K : Int → Prop} (q : juntoref05_Most.Q points d K) : juntoref05_Most.C points d K := by
  intro Z H  KK hk
  apply juntoref05_Most.ok
  unfold juntoref05_Most.W
  unfold juntoref05_Most.Q at q
  obtain ⟨σ, hz, hσ⟩ := tags Z
  have hs : Stp ([] : List Nat) σ H σ H := Stp.refl _ _ _
  clear hz
  refine condI (fun q => ?_) (fun q => ?_) q
  · exact hk (Zt σ) _ (hs.ext hσ) (hs.old hσ) _ q
  · refine condI (fun q => ?_) (fun q => ?_) q
    · exact hk (Zt σ) _ (hs.ext hσ) (hs.old hσ) _ q
    · refine condI (fun q => ?_) (fun q => ?_) q
      · exact hk (Zt σ) _ (hs.ext hσ) (hs.old hσ) _ q
      · obtain ⟨q2, q⟩ := q
        refine ⟨q2, ?_⟩
        exact hk (Zt σ) _ (hs.ext hσ) (hs.old hσ) _ q
def juntoref05_Off.C (p : Nat) (f : (List Nat)) (l : (List TPoint)) (K : (List Int) → Prop) : Prop :=
  ∀ (Z : Nat → Prop) (H : Heap), ∀ (pv : Int), pv = (p : Int) → ∀ (fA : Option Addr) (fn fc : Nat), fn = f.length → SlF u64L Z H fA fc f → ∀ (lA : Option Addr) (ln lc : Nat), ln = l.length → SlF TPoint.L Z H lA lc l → ∀ KK : Value → Heap → Prop,
    (∀ (Z' : Nat → Prop) (H' : Heap), Ext H H' → Old Z H Z' → ∀ (r0 : (List Int)), ∀ (Y0 : Nat → Prop), (∀ i, Y0 i → H.size ≤ i ∧ ¬ Z' i) → ∀ (Ar0_0 : Option Addr) (nr0_0 cr0_0 : Nat), nr0_0 = r0.length → SlO (rdM i64L) 3 Z' Y0 H' Ar0_0 cr0_0 r0 → K r0 → KK (.slice Ar0_0 nr0_0 cr0_0) H') →
    CallH P N.juntoref05_Off [.int .u64 pv, .slice fA fn fc, .slice lA ln lc] H KK
def juntoref05_Off.Q (p : Nat) (f : (List Nat)) (l : (List TPoint)) (K : (List Int) → Prop) : Prop :=
  LoopQ (τ := List Int × Int) (([] : List Int), 0) fun t nextQ =>
  cond (decide (t.2 < ((l.length : Nat) : Int))) (0 ≤ t.2 ∧ ∃ x : TPoint, l[Int.toNat t.2]? = some x ∧ juntoref02_Eval.C p f x.X (fun (x2 : Nat) =>
  cond ((x2 : Int) != (x.Y : Int)) (AppOk 8 (t.1 ++ ([t.2] : List Int)).length ∧ nextQ ((t.1 ++ ([t.2] : List Int)), IntKind.i64.wrap (t.2 + 1)))
   (nextQ (t.1, IntKind.i64.wrap (t.2 + 1)))))
   (K t.1)
theorem juntoref05_Off.q {p : Nat} {f : (List Nat)} {l : (List TPoint)} {K : (List Int) → Prop} (q : juntoref05_Off.Q p f l K) : juntoref05_Off.C p f l K := by
  intro Z H pv he fA fn fc hn f2 lA ln lc hn2 f3 KK hk
  cases he
  cases hn
  cases hn2
  apply juntoref05_Off.ok
  unfold juntoref05_Off.W
  unfold juntoref05_Off.Q at q
  obtain ⟨σ, hz, hσ⟩ := tags Z
  have hs : Stp ([1, 2, 3] : List Nat) σ H σ H := Stp.refl _ _ _
  replace f2 := f2.wide hz
  replace f3 := f3.wide hz
  clear hz
  have f4 := SlO.nil (rdM i64L) 3 (Zt σ) (Yt σ 1) H
  refine LoopI.ofQ q (fun t_ s_ hp_ => ∃ (σ_ : Nat → Nat) (A0_ : Option Addr) (n0_ c0_ : Nat), Stp [1, 2, 3] σ H σ_ hp_ ∧ ((A0_, n0_, c0_), t_.2) = s_ ∧ n0_ = t_.1.length ∧ SlO (rdM i64L) 3 (Zt σ_) (Yt σ_ 1) hp_ A0_ c0_ t_.1) (fun h k => h _ _ k) ⟨_, _, _, _, Stp.refl _ _ _, rfl, rfl, f4⟩ ?_
  rintro t _ _ H_ next nextQ ⟨xσ, A, n, c, st, rfl, rfl, f5⟩ q hnext
  try dsimp only at q ⊢
  replace f2 := f2.step st
  replace f3 := f3.step st
  replace hs := hs.trans st
  have sl0 := st
  refine condI (fun q => ?_) (fun q => ?_) q
  · obtain ⟨h0, x, hx, q⟩ := q
    obtain ⟨a, ha, hi⟩ := f3.addr h0 hx rfl
    refine ⟨a, ha, hi.1, hi.2, ?_⟩
    obtain ⟨cs, hr, hc⟩ := f3.ldN (k := 2) rfl ha h0 hx
    cases hr
    have hc2 := hc 0 _ rfl
    have hc3 := hc 1 _ rfl
    refine ⟨_, _, hc2.val, hc3.val, ?_⟩
    refine NewH.mk fun H_2 e => ?_
    obtain ⟨xσ2, st2, b⟩ := BoxF.new xσ 2 e
    replace f2 := f2.step st2
    replace f3 := f3.step st2
    replace f5 := f5.step st2
    replace hc2 := hc2.step st2
    replace hc3 := hc3.step st2
    replace hs := hs.trans st2
    replace sl0 := sl0.trans st2
    refine ⟨b.mayN 0 2 (show (2 : Nat) ≤ 2 by decide), NewH.mk fun H_3 e2 => ?_⟩
    obtain ⟨st3, b⟩ := b.wroteN 0 (vs := [_, _]) (show (2 : Nat) ≤ 2 by decide) e2
    simp only [List.take_zero, List.take_succ_cons, List.drop_zero, List.drop_succ_cons, List.drop_nil, List.length_cons, List.length_nil, List.cons_append, List.nil_append, List.append_nil, Nat.zero_add, Nat.reduceAdd] at b
    replace f2 := f2.step st3
    replace f3 := f3.step st3
    replace f5 := f5.step st3
    replace hc2 := hc2.step st3
    replace hc3 := hc3.step st3
    replace hs := hs.trans st3
    replace sl0 := sl0.trans st3
    refine ⟨_, b.cell0, ?_⟩
    refine ⟨_, b.cell 1 rfl, ?_⟩
    refine q (Zt xσ2) H_3 _ rfl _ _ _ rfl f2 _ rfl _ (fun Z2 H_4 hE hO x2 v he2 q => ?_)
    obtain ⟨xσ3, st4⟩ := call0 hE xσ2
    cases he2
    replace f2 := f2.step st4
    replace f3 := f3.step st4
    replace f5 := f5.step st4
    replace hc2 := hc2.step st4
    replace hc3 := hc3.step st4
    replace b := b.step st4
    replace hs := hs.trans st4
    replace sl0 := sl0.trans st4
    refine ⟨_, rfl, ?_⟩
    refine ⟨(b.cell 1 rfl), ?_⟩
    refine condI (fun q => ?_) (fun q => ?_) q
    · refine NewH.mk fun H_5 e3 => ?_
      obtain ⟨xσ4, st5, f6⟩ := SlO.lit (E := i64L) xσ3 3 (xs := [t.2]) (l := [[_]]) e3 rfl (.cons rfl .nil) (show (1 : Nat) ≤ 17592186044416 by decide)
      replace f2 := f2.step st5
      replace f3 := f3.step st5
      replace f5 := f5.step st5
      replace hc2 := hc2.step st5
      replace hc3 := hc3.step st5
      replace b := b.step st5
      replace hs := hs.trans st5
      replace sl0 := sl0.trans st5
      obtain ⟨xσ6, st7, f6⟩ := SlO.freeze f6
      replace f2 := f2.step st7
      replace f3 := f3.step st7
      replace f5 := f5.step st7
      replace hc2 := hc2.step st7
      replace hc3 := hc3.step st7
      replace b := b.step st7
      replace hs := hs.trans st7
      replace sl0 := sl0.trans st7
      obtain ⟨q2, q⟩ := q
      refine SlO.appF f5 f6 rfl rfl q2.l q2.r rfl rfl (fun A2 c2 H_6 xσ5 st6 f5_ => ?_)
      replace f5 := f5_
      replace f2 := f2.step st6
      replace f3 := f3.step st6
      replace hc2 := hc2.step st6
      replace hc3 := hc3.step st6
      replace b := b.step st6
      replace f6 := f6.step st6
      replace hs := hs.trans st6
      replace sl0 := sl0.trans st6
      have f7 := f5; clear f5
      exact hnext ((t.1 ++ ([t.2] : List Int)), IntKind.i64.wrap (t.2 + 1)) _ _ ⟨_, _, _, _, sl0, rfl, rfl, f7⟩ q
    · exact hnext (t.1, IntKind.i64.wrap (t.2 + 1)) _ _ ⟨_, _, _, _, sl0, rfl, rfl, f5⟩ q
  · exact hk (Zt xσ) _ (hs.ext hσ) (hs.old hσ) _ (Yt xσ 1) (hs.fresh hσ) _ _ _ rfl f5 q
def juntoref05_Decode.C (p : Nat) (d : Int) (wrong : Int) (l : (List TPoint)) (K : (List Nat) → Bool → Prop) : Prop :=
  ∀ (Z : Nat → Prop) (H : Heap), ∀ (pv : Int), pv = (p : Int) → ∀ (lA : Option Addr) (ln lc : Nat), ln = l.length → SlF TPoint.L Z H lA lc l → ∀ KK : Value → Heap → Prop,
    (∀ (Z' : Nat → Prop) (H' : Heap), Ext H H' → Old Z H Z' → ∀ (r0 : (List Nat)), ∀ (Y0 : Nat → Prop), (∀ i, Y0 i → H.size ≤ i ∧ ¬ Z' i) → ∀ (Ar0_0 : Option Addr) (nr0_0 cr0_0 : Nat), nr0_0 = r0.length → SlO (rdM u64L) 22 Z' Y0 H' Ar0_0 cr0_0 r0 → ∀ (r1 : Bool), K r0 r1 → KK (.tuple #[.slice Ar0_0 nr0_0 cr0_0, .bool r1]) H') →
    CallH P N.juntoref05_Decode [.int .u64 pv, .int .i64 d, .int .i64 wrong, .slice lA ln lc] H KK
def juntoref05_Decode.Q (p : Nat) (d : Int) (wrong : Int) (l : (List TPoint)) (K : (List Nat) → Bool → Prop) : Prop :=
  LoopQ (τ := List (List Nat) × List Nat × Int) (([] : List (List Nat)), ([] : List Nat), 0) fun t nextQ =>
  cond (decide (t.2.2 < ((l.length : Nat) : Int))) (0 ≤ t.2.2 ∧ ∃ x : TPoint, l[Int.toNat t.2.2]? = some x ∧ LoopQ (τ := List Nat × Int) (([] : List Nat), 0) fun t2 nextQ2 =>
  cond (decide (t2.2 < (IntKind.i64.wrap ((IntKind.i64.wrap (d + wrong)) + 1)))) (juntoref01_Pow.C p x.X ((IntKind.u64.wrap t2.2).toNat) (fun (x2 : Nat) =>
  AppOk 8 (t2.1 ++ ([x2] : List Nat)).length ∧ nextQ2 ((t2.1 ++ ([x2] : List Nat)), IntKind.i64.wrap (t2.2 + 1))))
   (LoopQ (τ := List Nat × Int) (t2.1, 0) fun t3 nextQ3 =>
  cond (decide (t3.2 < wrong)) (juntoref01_Pow.C p x.X ((IntKind.u64.wrap t3.2).toNat) (fun (x3 : Nat) =>
  juntoref01_Mul.C p x.Y x3 (fun (x4 : Nat) =>
  juntoref01_Sub.C p 0 x4 (fun (x5 : Nat) =>
  AppOk 8 (t3.1 ++ ([x5] : List Nat)).length ∧ nextQ3 ((t3.1 ++ ([x5] : List Nat)), IntKind.i64.wrap (t3.2 + 1))))))
   (AppOk 24 (t.1 ++ ([t3.1] : List (List Nat))).length ∧ juntoref01_Pow.C p x.X ((IntKind.u64.wrap wrong).toNat) (fun (x6 : Nat) =>
  juntoref01_Mul.C p x.Y x6 (fun (x7 : Nat) =>
  AppOk 8 (t.2.1 ++ ([x7] : List Nat)).length ∧ nextQ ((t.1 ++ ([t3.1] : List (List Nat))), (t.2.1 ++ ([x7] : List Nat)), IntKind.i64.wrap (t.2.2 + 1)))))))
   (juntoref03_Solve.C p t.1 t.2.1 (fun (r : (List Nat)) (r2 : Bool) =>
  cond (!r2) (K ([]) false)
   (0 ≤ (IntKind.i64.wrap ((IntKind.i64.wrap (d + wrong)) + 1)) ∧ (IntKind.i64.wrap ((IntKind.i64.wrap (d + wrong)) + 1)) ≤ ((r.length : Nat) : Int) ∧ 0 ≤ (IntKind.i64.wrap ((IntKind.i64.wrap (d + wrong)) + 1)) ∧ (IntKind.i64.wrap ((IntKind.i64.wrap (d + wrong)) + 1)) ≤ ((r.length : Nat) : Int) ∧ AppOk 8 ([] ++ (List.drop (Int.toNat (IntKind.i64.wrap ((IntKind.i64.wrap (d + wrong)) + 1))) r)).length ∧ AppOk 8 ((List.drop (Int.toNat (IntKind.i64.wrap ((IntKind.i64.wrap (d + wrong)) + 1))) r) ++ ([1] : List Nat)).length ∧ juntoref02_Divide.C p (List.take (Int.toNat (IntKind.i64.wrap ((IntKind.i64.wrap (d + wrong)) + 1))) r) ((List.drop (Int.toNat (IntKind.i64.wrap ((IntKind.i64.wrap (d + wrong)) + 1))) r) ++ ([1] : List Nat)) (fun (r3 : (List Nat)) (r4 : (List Nat)) =>
  cond (decide (((r4.length : Nat) : Int) > 0)) (K ([]) false)
   (cond (decide (((r3.length : Nat) : Int) > (IntKind.i64.wrap (d + 1)))) (K ([]) false)
   (juntoref05_Off.C p r3 l (fun (x8 : (List Int)) =>
  cond (decide (((x8.length : Nat) : Int) > wrong)) (K ([]) false)
   (K r3 true))))))))
theorem juntoref05_Decode.q {p : Nat} {d : Int} {wrong : Int} {l : (List TPoint)} {K : (List Nat) → Bool → Prop} (q : juntoref05_Decode.Q p d wrong l K) : juntoref05_Decode.C p d wrong l K := by
  intro Z H pv he lA ln lc hn f KK hk
  cases he
  cases hn
  apply juntoref05_Decode.ok
  unfold juntoref05_Decode.W
  unfold juntoref05_Decode.Q at q
  obtain ⟨σ, hz, hσ⟩ := tags Z
  have hs : Stp ([1, 2, 3, 4, 5, 6, 7, 8, 9, 10, 11, 12, 13, 14, 15, 16, 17, 18, 19, 20, 21, 22, 23] : List Nat) σ H σ H := Stp.refl _ _ _
  replace f := f.wide hz
  clear hz
  have f2 := SlO.nil (rdM (slL u64L)) 30 (Zt σ) (Yt σ 1) H
  have f3 := SlO.nil (rdM u64L) 22 (Zt σ) (Yt σ 2) H
  refine LoopI.ofQ q (fun t_ s_ hp_ => ∃ (σ_ : Nat → Nat) (A0_ : Option Addr) (n0_ c0_ : Nat) (A1_ : Option Addr) (n1_ c1_ : Nat), Stp [1, 2, 3, 4, 5, 6, 7, 8] σ H σ_ hp_ ∧ ((A0_, n0_, c0_), (A1_, n1_, c1_), t_.2.2) = s_ ∧ n0_ = t_.1.length ∧ SlO (rdM (slL u64L)) 30 (Zt σ_) (Yt σ_ 1) hp_ A0_ c0_ t_.1 ∧ n1_ = t_.2.1.length ∧ SlO (rdM u64L) 22 (Zt σ_) (Yt σ_ 2) hp_ A1_ c1_ t_.2.1) (fun h k => h _ _ k) ⟨_, _, _, _, _, _, _, Stp.refl _ _ _, rfl, rfl, f2, rfl, f3⟩ ?_
  rintro t _ _ H_ next nextQ ⟨xσ, A, n, c, A2, n2, c2, st, rfl, rfl, f4, rfl, f5⟩ q hnext
  try dsimp only at q ⊢
  replace f := f.step st
  replace hs := hs.trans st
  have sl0 := st
  refine condI (fun q => ?_) (fun q => ?_) q
  · obtain ⟨h0, x, hx, q⟩ := q
    obtain ⟨a, ha, hi⟩ := f.addr h0 hx rfl
    refine ⟨a, ha, hi.1, hi.2, ?_⟩
    obtain ⟨cs, hr, hc⟩ := f.ldN (k := 2) rfl ha h0 hx
    cases hr
    have hc2 := hc 0 _ rfl
    have hc3 := hc 1 _ rfl
    refine ⟨_, _, hc2.val, hc3.val, ?_⟩
    refine NewH.mk fun H_2 e => ?_
    obtain ⟨xσ2, st2, b⟩ := BoxF.new xσ 3 e
    replace f := f.step st2
    replace f4 := f4.step st2
    replace f5 := f5.step st2
    replace hc2 := hc2.step st2
    replace hc3 := hc3.step st2
    replace hs := hs.trans st2
    replace sl0 := sl0.trans st2
    refine ⟨b.mayN 0 2 (show (2 : Nat) ≤ 2 by decide), NewH.mk fun H_3 e2 => ?_⟩
    obtain ⟨st3, b⟩ := b.wroteN 0 (vs := [_, _]) (show (2 : Nat) ≤ 2 by decide) e2
    simp only [List.take_zero, List.take_succ_cons, List.drop_zero, List.drop_succ_cons, List.drop_nil, List.length_cons, List.length_nil, List.cons_append, List.nil_append, List.append_nil, Nat.zero_add, Nat.reduceAdd] at b
    replace f := f.step st3
    replace f4 := f4.step st3
    replace f5 := f5.step st3
    replace hc2 := hc2.step st3
    replace hc3 := hc3.step st3
    replace hs := hs.trans st3
    replace sl0 := sl0.trans st3
    have f6 := SlO.nil (rdM u64L) 22 (Zt xσ2) (Yt xσ2 4) H_3
    refine LoopI.ofQ q (fun t_ s_ hp_ => ∃ (σ_ : Nat → Nat) (A0_ : Option Addr) (n0_ c0_ : Nat), Stp [4, 5] xσ2 H_3 σ_ hp_ ∧ ((A0_, n0_, c0_), t_.2) = s_ ∧ n0_ = t_.1.length ∧ SlO (rdM u64L) 22 (Zt σ_) (Yt σ_ 4) hp_ A0_ c0_ t_.1) (fun h k => h _ _ k) ⟨_, _, _, _, Stp.refl _ _ _, rfl, rfl, f6⟩ ?_
    rintro t2 _ _ H_4 next2 nextQ2 ⟨xσ3, A3, n3, c3, st4, rfl, rfl, f7⟩ q hnext2
    try dsimp only at q ⊢
    replace f := f.step st4
    replace f4 := f4.step st4
    replace f5 := f5.step st4
    replace hc2 := hc2.step st4
    replace hc3 := hc3.step st4
    replace b := b.step st4
    replace hs := hs.trans st4
    replace sl0 := sl0.trans st4
    have sl1 := st4
    refine condI (fun q => ?_) (fun q => ?_) q
    · refine ⟨_, b.cell0, ?_⟩
      refine q (Zt xσ3) H_4 _ rfl _ rfl _ (natEq (nnw _)) _ (fun Z2 H_5 hE hO x2 v he2 q => ?_)
      obtain ⟨xσ4, st5⟩ := call0 hE xσ3
      cases he2
      replace f := f.step st5
      replace f4 := f4.step st5
      replace f5 := f5.step st5
      replace hc2 := hc2.step st5
      replace hc3 := hc3.step st5
      replace b := b.step st5
      replace f7 := f7.step st5
      replace hs := hs.trans st5
      replace sl0 := sl0.trans st5
      replace sl1 := sl1.trans st5
      refine ⟨_, rfl, ?_⟩
      refine NewH.mk fun H_6 e3 => ?_
      obtain ⟨xσ5, st6, f8⟩ := SlO.lit (E := u64L) xσ4 5 (xs := [x2]) (l := [[_]]) e3 rfl (.cons rfl .nil) (show (1 : Nat) ≤ 17592186044416 by decide)
      replace f := f.step st6
      replace f4 := f4.step st6
      replace f5 := f5.step st6
      replace hc2 := hc2.step st6
      replace hc3 := hc3.step st6
      replace b := b.step st6
      replace f7 := f7.step st6
      replace hs := hs.trans st6
      replace sl0 := sl0.trans st6
      replace sl1 := sl1.trans st6
      obtain ⟨xσ7, st8, f8⟩ := SlO.freeze f8
      replace f := f.step st8
      replace f4 := f4.step st8
      replace f5 := f5.step st8
      replace hc2 := hc2.step st8
      replace hc3 := hc3.step st8
      replace b := b.step st8
      replace f7 := f7.step st8
      replace hs := hs.trans st8
      replace sl0 := sl0.trans st8
      replace sl1 := sl1.trans st8
      obtain ⟨q2, q⟩ := q
      refine SlO.appF f7 f8 rfl rfl q2.l q2.r rfl rfl (fun A4 c4 H_7 xσ6 st7 f7_ => ?_)
      replace f7 := f7_
      replace f := f.step st7
      replace f4 := f4.step st7
      replace f5 := f5.step st7
      replace hc2 := hc2.step st7
      replace hc3 := hc3.step st7
      replace b := b.step st7
      replace f8 := f8.step st7
      replace hs := hs.trans st7
      replace sl0 := sl0.trans st7
      replace sl1 := sl1.trans st7
      have f9 := f7; clear f7
      exact hnext2 ((t2.1 ++ ([x2] : List Nat)), IntKind.i64.wrap (t2.2 + 1)) _ _ ⟨_, _, _, _, sl1, rfl, rfl, f9⟩ q
    · refine LoopI.ofQ q (fun t_ s_ hp_ => ∃ (σ_ : Nat → Nat) (A0_ : Option Addr) (n0_ c0_ : Nat), Stp [4, 6] xσ3 H_4 σ_ hp_ ∧ ((A0_, n0_, c0_), t_.2) = s_ ∧ n0_ = t_.1.length ∧ SlO (rdM u64L) 22 (Zt σ_) (Yt σ_ 4) hp_ A0_ c0_ t_.1) (fun h k => h _ _ k) ⟨_, _, _, _, Stp.refl _ _ _, rfl, rfl, f7⟩ ?_
      rintro t3 _ _ H_8 next3 nextQ3 ⟨xσ8, A5, n4, c5, st9, rfl, rfl, f10⟩ q hnext3
      try dsimp only at q ⊢
      replace f := f.step st9
      replace f4 := f4.step st9
      replace f5 := f5.step st9
      replace hc2 := hc2.step st9
      replace hc3 := hc3.step st9
      replace b := b.step st9
      replace hs := hs.trans st9
      replace sl0 := sl0.trans st9
      have sl2 := st9
      refine condI (fun q => ?_) (fun q => ?_) q
      · refine ⟨_, b.cell 1 rfl, ?_⟩
        refine ⟨_, b.cell0, ?_⟩
        refine q (Zt xσ8) H_8 _ rfl _ rfl _ (natEq (nnw _)) _ (fun Z3 H_9 hE2 hO2 x3 v2 he3 q => ?_)
        obtain ⟨xσ9, st10⟩ := call0 hE2 xσ8
        cases he3
        replace f := f.step st10
        replace f4 := f4.step st10
        replace f5 := f5.step st10
        replace hc2 := hc2.step st10
        replace hc3 := hc3.step st10
        replace b := b.step st10
        replace f10 := f10.step st10
        replace hs := hs.trans st10
        replace sl0 := sl0.trans st10
        replace sl2 := sl2.trans st10
        refine ⟨_, rfl, ?_⟩
        refine ⟨(b.cell 1 rfl), ?_⟩
        refine q (Zt xσ9) H_9 _ rfl _ rfl _ rfl _ (fun Z4 H_10 hE3 hO3 x4 v3 he4 q => ?_)
        obtain ⟨xσ10, st11⟩ := call0 hE3 xσ9
        cases he4
        replace f := f.step st11
        replace f4 := f4.step st11
        replace f5 := f5.step st11
        replace hc2 := hc2.step st11
        replace hc3 := hc3.step st11
        replace b := b.step st11
        replace f10 := f10.step st11
        replace hs := hs.trans st11
        replace sl0 := sl0.trans st11
        replace sl2 := sl2.trans st11
        refine ⟨_, rfl, ?_⟩
        refine q (Zt xσ10) H_10 _ rfl _ rfl _ rfl _ (fun Z5 H_11 hE4 hO4 x5 v4 he5 q => ?_)
        obtain ⟨xσ11, st12⟩ := call0 hE4 xσ10
        cases he5
        replace f := f.step st12
        replace f4 := f4.step st12
        replace f5 := f5.step st12
        replace hc2 := hc2.step st12
        replace hc3 := hc3.step st12
        replace b := b.step st12
        replace f10 := f10.step st12
        replace hs := hs.trans st12
        replace sl0 := sl0.trans st12
        replace sl2 := sl2.trans st12
        refine ⟨_, rfl, ?_⟩
        refine NewH.mk fun H_12 e4 => ?_
        obtain ⟨xσ12, st13, f11⟩ := SlO.lit (E := u64L) xσ11 6 (xs := [x5]) (l := [[_]]) e4 rfl (.cons rfl .nil) (show (1 : Nat) ≤ 17592186044416 by decide)
        replace f := f.step st13
        replace f4 := f4.step st13
        replace f5 := f5.step st13
        replace hc2 := hc2.step st13
        replace hc3 := hc3.step st13
        replace b := b.step st13
        replace f10 := f10.step st13
        replace hs := hs.trans st13
        replace sl0 := sl0.trans st13
        replace sl2 := sl2.trans st13
        obtain ⟨xσ14, st15, f11⟩ := SlO.freeze f11
        replace f := f.step st15
        replace f4 := f4.step st15
        replace f5 := f5.step st15
        replace hc2 := hc2.step st15
        replace hc3 := hc3.step st15
        replace b := b.step st15
        replace f10 := f10.step st15
        replace hs := hs.trans st15
        replace sl0 := sl0.trans st15
        replace sl2 := sl2.trans st15
        obtain ⟨q3, q⟩ := q
        refine SlO.appF f10 f11 rfl rfl q3.l q3.r rfl rfl (fun A6 c6 H_13 xσ13 st14 f10_ => ?_)
        replace f10 := f10_
        replace f := f.step st14
        replace f4 := f4.step st14
        replace f5 := f5.step st14
        replace hc2 := hc2.step st14
        replace hc3 := hc3.step st14
        replace b := b.step st14
        replace f11 := f11.step st14
        replace hs := hs.trans st14
        replace sl0 := sl0.trans st14
        replace sl2 := sl2.trans st14
        have f12 := f10; clear f10
        exact hnext3 ((t3.1 ++ ([x5] : List Nat)), IntKind.i64.wrap (t3.2 + 1)) _ _ ⟨_, _, _, _, sl2, rfl, rfl, f12⟩ q
      · obtain ⟨xσ15, st16, f10⟩ := SlO.freeze f10
        replace f := f.step st16
        replace f4 := f4.step st16
        replace f5 := f5.step st16
        replace hc2 := hc2.step st16
        replace hc3 := hc3.step st16
        replace b := b.step st16
        replace hs := hs.trans st16
        replace sl0 := sl0.trans st16
        refine NewH.mk fun H_14 e5 => ?_
        obtain ⟨xσ16, st17, f13⟩ := SlO.lit (E := (slL u64L)) xσ15 7 (xs := [t3.1]) (l := [[_]]) e5 rfl (.cons (slL_rep rfl f10) .nil) (show (1 : Nat) ≤ 17592186044416 by decide)
        replace f := f.step st17
        replace f4 := f4.step st17
        replace f5 := f5.step st17
        replace hc2 := hc2.step st17
        replace hc3 := hc3.step st17
        replace b := b.step st17
        replace f10 := f10.step st17
        replace hs := hs.trans st17
        replace sl0 := sl0.trans st17
        obtain ⟨xσ18, st19, f13⟩ := SlO.freeze f13
        replace f := f.step st19
        replace f4 := f4.step st19
        replace f5 := f5.step st19
        replace hc2 := hc2.step st19
        replace hc3 := hc3.step st19
        replace b := b.step st19
        replace f10 := f10.step st19
        replace hs := hs.trans st19
        replace sl0 := sl0.trans st19
        obtain ⟨q4, q⟩ := q
        refine SlO.appF f4 f13 rfl rfl q4.l q4.r rfl rfl (fun A7 c7 H_15 xσ17 st18 f4_ => ?_)
        replace f4 := f4_
        replace f := f.step st18
        replace f5 := f5.step st18
        replace hc2 := hc2.step st18
        replace hc3 := hc3.step st18
        replace b := b.step st18
        replace f10 := f10.step st18
        replace f13 := f13.step st18
        replace hs := hs.trans st18
        replace sl0 := sl0.trans st18
        have f14 := f4; clear f4
        refine ⟨_, b.cell 1 rfl, ?_⟩
        refine ⟨_, b.cell0, ?_⟩
        refine q (Zt xσ17) H_15 _ rfl _ rfl _ (natEq (nnw _)) _ (fun Z6 H_16 hE5 hO5 x6 v5 he6 q => ?_)
        obtain ⟨xσ19, st20⟩ := call0 hE5 xσ17
        cases he6
        replace f := f.step st20
        replace f5 := f5.step st20
        replace hc2 := hc2.step st20
        replace hc3 := hc3.step st20
        replace b := b.step st20
        replace f10 := f10.step st20
        replace f13 := f13.step st20
        replace f14 := f14.step st20
        replace hs := hs.trans st20
        replace sl0 := sl0.trans st20
        refine ⟨_, rfl, ?_⟩
        refine ⟨(b.cell 1 rfl), ?_⟩
        refine q (Zt xσ19) H_16 _ rfl _ rfl _ rfl _ (fun Z7 H_17 hE6 hO6 x7 v6 he7 q => ?_)
        obtain ⟨xσ20, st21⟩ := call0 hE6 xσ19
        cases he7
        replace f := f.step st21
        replace f5 := f5.step st21
        replace hc2 := hc2.step st21
        replace hc3 := hc3.step st21
        replace b := b.step st21
        replace f10 := f10.step st21
        replace f13 := f13.step st21
        replace f14 := f14.step st21
        replace hs := hs.trans st21
        replace sl0 := sl0.trans st21
        refine ⟨_, rfl, ?_⟩
        refine NewH.mk fun H_18 e6 => ?_
        obtain ⟨xσ21, st22, f15⟩ := SlO.lit (E := u64L) xσ20 8 (xs := [x7]) (l := [[_]]) e6 rfl (.cons rfl .nil) (show (1 : Nat) ≤ 17592186044416 by decide)
        replace f := f.step st22
        replace f5 := f5.step st22
        replace hc2 := hc2.step st22
        replace hc3 := hc3.step st22
        replace b := b.step st22
        replace f10 := f10.step st22
        replace f13 := f13.step st22
        replace f14 := f14.step st22
        replace hs := hs.trans st22
        replace sl0 := sl0.trans st22
        obtain ⟨xσ23, st24, f15⟩ := SlO.freeze f15
        replace f := f.step st24
        replace f5 := f5.step st24
        replace hc2 := hc2.step st24
        replace hc3 := hc3.step st24
        replace b := b.step st24
        replace f10 := f10.step st24
        replace f13 := f13.step st24
        replace f14 := f14.step st24
        replace hs := hs.trans st24
        replace sl0 := sl0.trans st24
        obtain ⟨q5, q⟩ := q
        refine SlO.appF f5 f15 rfl rfl q5.l q5.r rfl rfl (fun A8 c8 H_19 xσ22 st23 f5_ => ?_)
        replace f5 := f5_
        replace f := f.step st23
        replace hc2 := hc2.step st23
        replace hc3 := hc3.step st23
        replace b := b.step st23
        replace f10 := f10.step st23
        replace f13 := f13.step st23
        replace f14 := f14.step st23
        replace f15 := f15.step st23
        replace hs := hs.trans st23
        replace sl0 := sl0.trans st23
        have f16 := f5; clear f5
        exact hnext ((t.1 ++ ([t3.1] : List (List Nat))), (t.2.1 ++ ([x7] : List Nat)), IntKind.i64.wrap (t.2.2 + 1)) _ _ ⟨_, _, _, _, _, _, _, sl0, rfl, rfl, f14, rfl, f16⟩ q
  · refine q (fun i => xσ i = 0 ∨ xσ i = 1 ∨ xσ i = 2) H_ _ rfl _ _ _ rfl (f4.read (fun i h => .inl h) (fun i h => .inr (.inl h))) _ _ _ rfl (f5.read (fun i h => .inl h) (fun i h => .inr (.inr (h)))) _ (fun Z8 H_20 hE7 hO7 r Y hY A9 n5 c9 hn2 f17 r2 q => ?_)
    obtain ⟨xσ24, st25, fy⟩ := callB1 hE7 hO7 xσ 9 hY
    replace f17 := (SlO.anyZ (Z' := Zt xσ24) u64_flatL f17).keep (Fr.refl _ _) fy
    cases hn2
    replace f := f.step st25
    replace f4 := f4.step st25
    replace f5 := f5.step st25
    replace hs := hs.trans st25
    refine ⟨_, _, _, _, rfl, ?_⟩
    refine condI (fun q => ?_) (fun q => ?_) q
    · exact hk (Zt xσ24) _ (hs.ext hσ) (hs.old hσ) _ (fun _ => False) (fun _ h => h.elim) _ _ _ rfl (SlO.nil _ _ _ _ _) _ q
    · obtain ⟨xσ25, st26, f17⟩ := SlO.freeze f17
      replace f := f.step st26
      replace f4 := f4.step st26
      replace f5 := f5.step st26
      replace hs := hs.trans st26
      obtain ⟨q6, q7, q⟩ := q
      have f18 := f17.upto (u := Int.toNat (IntKind.i64.wrap ((IntKind.i64.wrap (d + wrong)) + 1))) (upto_le rfl q7)
      refine ⟨q6, cap_le rfl f17.cap q7, ?_⟩
      obtain ⟨q8, q9, q⟩ := q
      have f19 := f17.from (l := Int.toNat (IntKind.i64.wrap ((IntKind.i64.wrap (d + wrong)) + 1))) (k := 1) (upto_le rfl q9) rfl
      refine ⟨q8, q9, ?_⟩
      refine ⟨?_, ?_⟩
      · refine NewH.mk fun H_21 e7 => ?_
        obtain ⟨xσ26, st27, f20⟩ := SlO.lit (E := u64L) xσ25 10 (xs := []) (l := []) e7 rfl .nil (show (0 : Nat) ≤ 17592186044416 by decide)
        replace f := f.step st27
        replace f4 := f4.step st27
        replace f5 := f5.step st27
        replace f17 := f17.step st27
        replace f18 := f18.step st27
        replace f19 := f19.step st27
        replace hs := hs.trans st27
        refine ⟨?_, ?_⟩
        · obtain ⟨q10, q⟩ := q
          refine SlO.appF f20 f19 rfl rfl q10.l q10.r rfl (drop_len rfl) (fun A10 c10 H_22 xσ27 st28 f20_ => ?_)
          replace f20 := f20_
          replace f := f.step st28
          replace f4 := f4.step st28
          replace f5 := f5.step st28
          replace f17 := f17.step st28
          replace f18 := f18.step st28
          replace f19 := f19.step st28
          replace hs := hs.trans st28
          have f21 := SlO.nilapp f20; clear f20
          refine NewH.mk fun H_23 e8 => ?_
          obtain ⟨xσ28, st29, f22⟩ := SlO.lit (E := u64L) xσ27 11 (xs := [1]) (l := [[_]]) e8 rfl (.cons rfl .nil) (show (1 : Nat) ≤ 17592186044416 by decide)
          replace f := f.step st29
          replace f4 := f4.step st29
          replace f5 := f5.step st29
          replace f17 := f17.step st29
          replace f18 := f18.step st29
          replace f19 := f19.step st29
          replace f21 := f21.step st29
          replace hs := hs.trans st29
          obtain ⟨xσ30, st31, f22⟩ := SlO.freeze f22
          replace f := f.step st31
          replace f4 := f4.step st31
          replace f5 := f5.step st31
          replace f17 := f17.step st31
          replace f18 := f18.step st31
          replace f19 := f19.step st31
          replace f21 := f21.step st31
          replace hs := hs.trans st31
          obtain ⟨q11, q⟩ := q
          refine SlO.appF f21 f22 rfl rfl q11.l q11.r rfl rfl (fun A11 c11 H_24 xσ29 st30 f21_ => ?_)
          replace f21 := f21_
          replace f := f.step st30
          replace f4 := f4.step st30
          replace f5 := f5.step st30
          replace f17 := f17.step st30
          replace f18 := f18.step st30
          replace f19 := f19.step st30
          replace f22 := f22.step st30
          replace hs := hs.trans st30
          have f23 := f21; clear f21
          refine q (fun i => xσ29 i = 0 ∨ xσ29 i = 10) H_24 _ rfl _ _ _ (take_len rfl q7) (f18.wide (fun i h => .inl h)) _ _ _ rfl (f23.read (fun i h => .inl h) (fun i h => .inr (h))) _ (fun Z9 H_25 hE8 hO8 r3 Y2 hY2 A12 n6 c12 hn3 f24 r4 Y3 hY3 A13 n7 c13 hn4 f25 hY4 q => ?_)
          obtain ⟨xσ31, st32, fy2, fy3⟩ := callB2 hE8 hO8 xσ29 12 13 hY2 hY3 hY4
          replace f24 := (SlO.anyZ (Z' := Zt xσ31) u64_flatL f24).keep (Fr.refl _ _) fy2
          replace f25 := (SlO.anyZ (Z' := Zt xσ31) u64_flatL f25).keep (Fr.refl _ _) fy3
          cases hn3
          cases hn4
          replace f := f.step st32
          replace f4 := f4.step st32
          replace f5 := f5.step st32
          replace f17 := f17.step st32
          replace f18 := f18.step st32
          replace f19 := f19.step st32
          replace f22 := f22.step st32
          replace f23 := f23.step st32
          replace hs := hs.trans st32
          refine ⟨_, _, _, _, _, _, rfl, ?_⟩
          refine condI (fun q => ?_) (fun q => ?_) q
          · exact hk (Zt xσ31) _ (hs.ext hσ) (hs.old hσ) _ (fun _ => False) (fun _ h => h.elim) _ _ _ rfl (SlO.nil _ _ _ _ _) _ q
          · refine condI (fun q => ?_) (fun q => ?_) q
            · exact hk (Zt xσ31) _ (hs.ext hσ) (hs.old hσ) _ (fun _ => False) (fun _ h => h.elim) _ _ _ rfl (SlO.nil _ _ _ _ _) _ q
            · refine q (fun i => xσ31 i = 0 ∨ xσ31 i = 12) H_25 _ rfl _ _ _ rfl (f24.read (fun i h => .inl h) (fun i h => .inr (h))) _ _ _ rfl (f.wide (fun i h => .inl h)) _ (fun Z10 H_26 hE9 hO9 x8 Y4 hY5 A14 n8 c14 hn5 f26 q => ?_)
              obtain ⟨xσ32, st33, fy4⟩ := callB1 hE9 hO9 xσ31 14 hY5
              replace f26 := (SlO.anyZ (Z' := Zt xσ32) i64_flatL f26).keep (Fr.refl _ _) fy4
              cases hn5
              replace f := f.step st33
              replace f4 := f4.step st33
              replace f5 := f5.step st33
              replace f17 := f17.step st33
              replace f18 := f18.step st33
              replace f19 := f19.step st33
              replace f22 := f22.step st33
              replace f23 := f23.step st33
              replace f24 := f24.step st33
              replace f25 := f25.step st33
              replace hs := hs.trans st33
              refine ⟨_, _, _, rfl, ?_⟩
              refine condI (fun q => ?_) (fun q => ?_) q
              · exact hk (Zt xσ32) _ (hs.ext hσ) (hs.old hσ) _ (fun _ => False) (fun _ h => h.elim) _ _ _ rfl (SlO.nil _ _ _ _ _) _ q
              · exact hk (Zt xσ32) _ (hs.ext hσ) (hs.old hσ) _ (Yt xσ32 12) (hs.fresh hσ) _ _ _ rfl f24 _ q
        · refine NewH.mk fun H_22 e8 => ?_
          obtain ⟨xσ27, st28, f21⟩ := SlO.lit (E := u64L) xσ26 15 (xs := [1]) (l := [[_]]) e8 rfl (.cons rfl .nil) (show (1 : Nat) ≤ 17592186044416 by decide)
          replace f := f.step st28
          replace f4 := f4.step st28
          replace f5 := f5.step st28
          replace f17 := f17.step st28
          replace f18 := f18.step st28
          replace f19 := f19.step st28
          replace f20 := f20.step st28
          replace hs := hs.trans st28
          obtain ⟨q10, q⟩ := q
          refine SlO.appF f20 f19 rfl rfl q10.l q10.r rfl (drop_len rfl) (fun A10 c10 H_23 xσ28 st29 f20_ => ?_)
          replace f20 := f20_
          replace f := f.step st29
          replace f4 := f4.step st29
          replace f5 := f5.step st29
          replace f17 := f17.step st29
          replace f18 := f18.step st29
          replace f19 := f19.step st29
          replace f21 := f21.step st29
          replace hs := hs.trans st29
          have f22 := SlO.nilapp f20; clear f20
          obtain ⟨xσ30, st31, f21⟩ := SlO.freeze f21
          replace f := f.step st31
          replace f4 := f4.step st31
          replace f5 := f5.step st31
          replace f17 := f17.step st31
          replace f18 := f18.step st31
          replace f19 := f19.step st31
          replace f22 := f22.step st31
          replace hs := hs.trans st31
          obtain ⟨q11, q⟩ := q
          refine SlO.appF f22 f21 rfl rfl q11.l q11.r rfl rfl (fun A11 c11 H_24 xσ29 st30 f22_ => ?_)
          replace f22 := f22_
          replace f := f.step st30
          replace f4 := f4.step st30
          replace f5 := f5.step st30
          replace f17 := f17.step st30
          replace f18 := f18.step st30
          replace f19 := f19.step st30
          replace f21 := f21.step st30
          replace hs := hs.trans st30
          have f23 := f22; clear f22
          refine q (fun i => xσ29 i = 0 ∨ xσ29 i = 10) H_24 _ rfl _ _ _ (take_len rfl q7) (f18.wide (fun i h => .inl h)) _ _ _ rfl (f23.read (fun i h => .inl h) (fun i h => .inr (h))) _ (fun Z9 H_25 hE8 hO8 r3 Y2 hY2 A12 n6 c12 hn3 f24 r4 Y3 hY3 A13 n7 c13 hn4 f25 hY4 q => ?_)
          obtain ⟨xσ31, st32, fy2, fy3⟩ := callB2 hE8 hO8 xσ29 16 17 hY2 hY3 hY4
          replace f24 := (SlO.anyZ (Z' := Zt xσ31) u64_flatL f24).keep (Fr.refl _ _) fy2
          replace f25 := (SlO.anyZ (Z' := Zt xσ31) u64_flatL f25).keep (Fr.refl _ _) fy3
          cases hn3
          cases hn4
          replace f := f.step st32
          replace f4 := f4.step st32
          replace f5 := f5.step st32
          replace f17 := f17.step st32
          replace f18 := f18.step st32
          replace f19 := f19.step st32
          replace f21 := f21.step st32
          replace f23 := f23.step st32
          replace hs := hs.trans st32
          refine ⟨_, _, _, _, _, _, rfl, ?_⟩
          refine condI (fun q => ?_) (fun q => ?_) q
          · exact hk (Zt xσ31) _ (hs.ext hσ) (hs.old hσ) _ (fun _ => False) (fun _ h => h.elim) _ _ _ rfl (SlO.nil _ _ _ _ _) _ q
          · refine condI (fun q => ?_) (fun q => ?_) q
            · exact hk (Zt xσ31) _ (hs.ext hσ) (hs.old hσ) _ (fun _ => False) (fun _ h => h.elim) _ _ _ rfl (SlO.nil _ _ _ _ _) _ q
            · refine q (fun i => xσ31 i = 0 ∨ xσ31 i = 16) H_25 _ rfl _ _ _ rfl (f24.read (fun i h => .inl h) (fun i h => .inr (h))) _ _ _ rfl (f.wide (fun i h => .inl h)) _ (fun Z10 H_26 hE9 hO9 x8 Y4 hY5 A14 n8 c14 hn5 f26 q => ?_)
              obtain ⟨xσ32, st33, fy4⟩ := callB1 hE9 hO9 xσ31 18 hY5
              replace f26 := (SlO.anyZ (Z' := Zt xσ32) i64_flatL f26).keep (Fr.refl _ _) fy4
              cases hn5
              replace f := f.step st33
              replace f4 := f4.step st33
              replace f5 := f5.step st33
              replace f17 := f17.step st33
              replace f18 := f18.step st33
              replace f19 := f19.step st33
              replace f21 := f21.step st33
              replace f23 := f23.step st33
              replace f24 := f24.step st33
              replace f25 := f25.step st33
              replace hs := hs.trans st33
              refine ⟨_, _, _, rfl, ?_⟩
              refine condI (fun q => ?_) (fun q => ?_) q
              · exact hk (Zt xσ32) _ (hs.ext hσ) (hs.old hσ) _ (fun _ => False) (fun _ h => h.elim) _ _ _ rfl (SlO.nil _ _ _ _ _) _ q
              · exact hk (Zt xσ32) _ (hs.ext hσ) (hs.old hσ) _ (Yt xσ32 16) (hs.fresh hσ) _ _ _ rfl f24 _ q
      · refine NewH.mk fun H_21 e7 => ?_
        obtain ⟨xσ26, st27, f20⟩ := SlO.lit (E := u64L) xσ25 19 (xs := [1]) (l := [[_]]) e7 rfl (.cons rfl .nil) (show (1 : Nat) ≤ 17592186044416 by decide)
        replace f := f.step st27
        replace f4 := f4.step st27
        replace f5 := f5.step st27
        replace f17 := f17.step st27
        replace f18 := f18.step st27
        replace f19 := f19.step st27
        replace hs := hs.trans st27
        refine NewH.mk fun H_22 e8 => ?_
        obtain ⟨xσ27, st28, f21⟩ := SlO.lit (E := u64L) xσ26 20 (xs := []) (l := []) e8 rfl .nil (show (0 : Nat) ≤ 17592186044416 by decide)
        replace f := f.step st28
        replace f4 := f4.step st28
        replace f5 := f5.step st28
        replace f17 := f17.step st28
        replace f18 := f18.step st28
        replace f19 := f19.step st28
        replace f20 := f20.step st28
        replace hs := hs.trans st28
        obtain ⟨q10, q⟩ := q
        refine SlO.appF f21 f19 rfl rfl q10.l q10.r rfl (drop_len rfl) (fun A10 c10 H_23 xσ28 st29 f21_ => ?_)
        replace f21 := f21_
        replace f := f.step st29
        replace f4 := f4.step st29
        replace f5 := f5.step st29
        replace f17 := f17.step st29
        replace f18 := f18.step st29
        replace f19 := f19.step st29
        replace f20 := f20.step st29
        replace hs := hs.trans st29
        have f22 := SlO.nilapp f21; clear f21
        obtain ⟨xσ30, st31, f20⟩ := SlO.freeze f20
        replace f := f.step st31
        replace f4 := f4.step st31
        replace f5 := f5.step st31
        replace f17 := f17.step st31
        replace f18 := f18.step st31
        replace f19 := f19.step st31
        replace f22 := f22.step st31
        replace hs := hs.trans st31
        obtain ⟨q11, q⟩ := q
        refine SlO.appF f22 f20 rfl rfl q11.l q11.r rfl rfl (fun A11 c11 H_24 xσ29 st30 f22_ => ?_)
        replace f22 := f22_
        replace f := f.step st30
        replace f4 := f4.step st30
        replace f5 := f5.step st30
        replace f17 := f17.step st30
        replace f18 := f18.step st30
        replace f19 := f19.step st30
        replace f20 := f20.step st30
        replace hs := hs.trans st30
        have f23 := f22; clear f22
        refine q (fun i => xσ29 i = 0 ∨ xσ29 i = 20) H_24 _ rfl _ _ _ (take_len rfl q7) (f18.wide (fun i h => .inl h)) _ _ _ rfl (f23.read (fun i h => .inl h) (fun i h => .inr (h))) _ (fun Z9 H_25 hE8 hO8 r3 Y2 hY2 A12 n6 c12 hn3 f24 r4 Y3 hY3 A13 n7 c13 hn4 f25 hY4 q => ?_)
        obtain ⟨xσ31, st32, fy2, fy3⟩ := callB2 hE8 hO8 xσ29 21 22 hY2 hY3 hY4
        replace f24 := (SlO.anyZ (Z' := Zt xσ31) u64_flatL f24).keep (Fr.refl _ _) fy2
        replace f25 := (SlO.anyZ (Z' := Zt xσ31) u64_flatL f25).keep (Fr.refl _ _) fy3
        cases hn3
        cases hn4
        replace f := f.step st32
        replace f4 := f4.step st32
        replace f5 := f5.step st32
        replace f17 := f17.step st32
        replace f18 := f18.step st32
        replace f19 := f19.step st32
        replace f20 := f20.step st32
        replace f23 := f23.step st32
        replace hs := hs.trans st32
        refine ⟨_, _, _, _, _, _, rfl, ?_⟩
        refine condI (fun q => ?_) (fun q => ?_) q
        · exact hk (Zt xσ31) _ (hs.ext hσ) (hs.old hσ) _ (fun _ => False) (fun _ h => h.elim) _ _ _ rfl (SlO.nil _ _ _ _ _) _ q
        · refine condI (fun q => ?_) (fun q => ?_) q
          · exact hk (Zt xσ31) _ (hs.ext hσ) (hs.old hσ) _ (fun _ => False) (fun _ h => h.elim) _ _ _ rfl (SlO.nil _ _ _ _ _) _ q
          · refine q (fun i => xσ31 i = 0 ∨ xσ31 i = 21) H_25 _ rfl _ _ _ rfl (f24.read (fun i h => .inl h) (fun i h => .inr (h))) _ _ _ rfl (f.wide (fun i h => .inl h)) _ (fun Z10 H_26 hE9 hO9 x8 Y4 hY5 A14 n8 c14 hn5 f26 q => ?_)
            obtain ⟨xσ32, st33, fy4⟩ := callB1 hE9 hO9 xσ31 23 hY5
            replace f26 := (SlO.anyZ (Z' := Zt xσ32) i64_flatL f26).keep (Fr.refl _ _) fy4
            cases hn5
            replace f := f.step st33
            replace f4 := f4.step st33
            replace f5 := f5.step st33
            replace f17 := f17.step st33
            replace f18 := f18.step st33
            replace f19 := f19.step st33
            replace f20 := f20.step st33
            replace f23 := f23.step st33
            replace f24 := f24.step st33
            replace f25 := f25.step st33
            replace hs := hs.trans st33
            refine ⟨_, _, _, rfl, ?_⟩
            refine condI (fun q => ?_) (fun q => ?_) q
            · exact hk (Zt xσ32) _ (hs.ext hσ) (hs.old hσ) _ (fun _ => False) (fun _ h => h.elim) _ _ _ rfl (SlO.nil _ _ _ _ _) _ q
            · exact hk (Zt xσ32) _ (hs.ext hσ) (hs.old hσ) _ (Yt xσ32 21) (hs.fresh hσ) _ _ _ rfl f24 _ q
def juntoref05_search.C (p : Nat) (d : Int) (wrong : Int) (l : (List TPoint)) (from_ : Int) (chosen : (List TPoint)) (K : (List Nat) → Bool → Prop) : Prop :=
  ∀ (Z : Nat → Prop) (H : Heap), ∀ (pv : Int), pv = (p : Int) → ∀ (lA : Option Addr) (ln lc : Nat), ln = l.length → SlF TPoint.L Z H lA lc l → ∀ (chosenA : Option Addr) (chosenn chosenc : Nat), chosenn = chosen.length → SlF TPoint.L Z H chosenA chosenc chosen → ∀ KK : Value → Heap → Prop,
    (∀ (Z' : Nat → Prop) (H' : Heap), Ext H H' → Old Z H Z' → ∀ (r0 : (List Nat)), ∀ (Y0 : Nat → Prop), (∀ i, Y0 i → H.size ≤ i ∧ ¬ Z' i) → ∀ (Ar0_0 : Option Addr) (nr0_0 cr0_0 : Nat), nr0_0 = r0.length → SlO (rdM u64L) 22 Z' Y0 H' Ar0_0 cr0_0 r0 → ∀ (r1 : Bool), K r0 r1 → KK (.tuple #[.slice Ar0_0 nr0_0 cr0_0, .bool r1]) H') →
    CallH P N.juntoref05_search [.int .u64 pv, .int .i64 d, .int .i64 wrong, .slice lA ln lc, .int .i64 from_, .slice chosenA chosenn chosenc] H KK
def juntoref05_search.Q (p : Nat) (d : Int) (wrong : Int) (l : (List TPoint)) (from_ : Int) (chosen : (List TPoint)) (K : (List Nat) → Bool → Prop) : Prop :=
  cond (((chosen.length : Nat) : Int) == (IntKind.i64.wrap (d + 1))) (juntoref02_Through.C p chosen (fun (x : (List Nat)) =>
  juntoref05_Off.C p x l (fun (x2 : (List Int)) =>
  K x (decide (((x2.length : Nat) : Int) ≤ wrong)))))
   (LoopQ (τ := Int) from_ fun t nextQ =>
  cond (decide (t < ((l.length : Nat) : Int))) (0 ≤ t ∧ ∃ x3 : TPoint, l[Int.toNat t]? = some x3 ∧ AppOk 16 ([] ++ chosen).length ∧ AppOk 16 (chosen ++ ([x3] : List TPoint)).length ∧ juntoref05_search.C p d wrong l (IntKind.i64.wrap (t + 1)) (chosen ++ ([x3] : List TPoint)) (fun (r : (List Nat)) (r2 : Bool) =>
  cond r2 (K r true)
   (nextQ (IntKind.i64.wrap (t + 1)))))
   (K ([]) false))
theorem juntoref05_search.q {p : Nat} {d : Int} {wrong : Int} {l : (List TPoint)} {from_ : Int} {chosen : (List TPoint)} {K : (List Nat) → Bool → Prop} (q : juntoref05_search.Q p d wrong l from_ chosen K) : juntoref05_search.C p d wrong l from_ chosen K := by
  intro Z H pv he lA ln lc hn f chosenA chosenn chosenc hn2 f2 KK hk
  cases he
  cases hn
  cases hn2
  apply juntoref05_search.ok
  unfold juntoref05_search.W
  unfold juntoref05_search.Q at q
  obtain ⟨σ, hz, hσ⟩ := tags Z
  have hs : Stp ([1, 2, 3, 4, 5, 6, 7, 8, 9, 10] : List Nat) σ H σ H := Stp.refl _ _ _
  replace f := f.wide hz
  replace f2 := f2.wide hz
  clear hz
  refine condI (fun q => ?_) (fun q => ?_) q
  · refine q (Zt σ) H _ rfl _ _ _ rfl f2 _ (fun Z2 H_ hE hO x Y hY A n c hn3 f3 q => ?_)
    obtain ⟨xσ, st, fz, fy⟩ := call1 hE hO σ 1 (fun _ h => h) hY
    replace f3 := f3.keep fz fy
    cases hn3
    replace f := f.step st
    replace f2 := f2.step st
    replace hs := hs.trans st
    refine ⟨_, _, _, rfl, ?_⟩
    refine q (fun i => xσ i = 0 ∨ xσ i = 1) H_ _ rfl _ _ _ rfl (f3.read (fun i h => .inl h) (fun i h => .inr (h))) _ _ _ rfl (f.wide (fun i h => .inl h)) _ (fun Z3 H_2 hE2 hO2 x2 Y2 hY2 A2 n2 c2 hn4 f4 q => ?_)
    obtain ⟨xσ2, st2, fy2⟩ := callB1 hE2 hO2 xσ 2 hY2
    replace f4 := (SlO.anyZ (Z' := Zt xσ2) i64_flatL f4).keep (Fr.refl _ _) fy2
    cases hn4
    replace f := f.step st2
    replace f2 := f2.step st2
    replace f3 := f3.step st2
    replace hs := hs.trans st2
    refine ⟨_, _, _, rfl, ?_⟩
    exact hk (Zt xσ2) _ (hs.ext hσ) (hs.old hσ) _ (Yt xσ2 1) (hs.fresh hσ) _ _ _ rfl f3 _ q
  · refine LoopI.ofQ q (fun t_ s_ hp_ => ∃ (σ_ : Nat → Nat), Stp [3, 4, 5, 6, 7, 8, 9, 10] σ H σ_ hp_ ∧ t_ = s_) (fun h k => h _ _ k) ⟨_, Stp.refl _ _ _, rfl⟩ ?_
    rintro t _ _ H_3 next nextQ ⟨xσ3, st3, rfl⟩ q hnext
    try dsimp only at q ⊢
    replace f := f.step st3
    replace f2 := f2.step st3
    replace hs := hs.trans st3
    have sl0 := st3
    refine condI (fun q => ?_) (fun q => ?_) q
    · obtain ⟨h0, x3, hx, q⟩ := q
      obtain ⟨a, ha, hi⟩ := f.addr h0 hx rfl
      refine ⟨a, ha, hi.1, hi.2, ?_⟩
      obtain ⟨cs, hr, hc⟩ := f.ldN (k := 2) rfl ha h0 hx
      cases hr
      have hc2 := hc 0 _ rfl
      have hc3 := hc 1 _ rfl
      refine ⟨_, _, hc2.val, hc3.val, ?_⟩
      refine ⟨?_, ?_⟩
      · refine NewH.mk fun H_4 e => ?_
        obtain ⟨xσ4, st4, f5⟩ := SlO.lit (E := TPoint.L) xσ3 3 (xs := []) (l := []) e rfl .nil (show (0 : Nat) ≤ 17592186044416 by decide)
        replace f := f.step st4
        replace f2 := f2.step st4
        replace hc2 := hc2.step st4
        replace hc3 := hc3.step st4
        replace hs := hs.trans st4
        replace sl0 := sl0.trans st4
        refine ⟨hc2.val, hc3.val, ?_⟩
        refine ⟨?_, ?_⟩
        · obtain ⟨q2, q⟩ := q
          refine SlO.appF f5 f2 rfl rfl q2.l q2.r rfl rfl (fun A3 c3 H_5 xσ5 st5 f5_ => ?_)
          replace f5 := f5_
          replace f := f.step st5
          replace f2 := f2.step st5
          replace hc2 := hc2.step st5
          replace hc3 := hc3.step st5
          replace hs := hs.trans st5
          replace sl0 := sl0.trans st5
          have f6 := SlO.nilapp f5; clear f5
          refine ⟨hc2.val, hc3.val, ?_⟩
          refine NewH.mk fun H_6 e2 => ?_
          obtain ⟨xσ6, st6, f7⟩ := SlO.lit (E := TPoint.L) xσ5 4 (xs := [x3]) (l := [[_, _]]) e2 rfl (.cons rfl .nil) (show (1 : Nat) ≤ 17592186044416 by decide)
          replace f := f.step st6
          replace f2 := f2.step st6
          replace hc2 := hc2.step st6
          replace hc3 := hc3.step st6
          replace f6 := f6.step st6
          replace hs := hs.trans st6
          replace sl0 := sl0.trans st6
          obtain ⟨xσ8, st8, f7⟩ := SlO.freeze f7
          replace f := f.step st8
          replace f2 := f2.step st8
          replace hc2 := hc2.step st8
          replace hc3 := hc3.step st8
          replace f6 := f6.step st8
          replace hs := hs.trans st8
          replace sl0 := sl0.trans st8
          obtain ⟨q3, q⟩ := q
          refine SlO.appF f6 f7 rfl rfl q3.l q3.r rfl rfl (fun A4 c4 H_7 xσ7 st7 f6_ => ?_)
          replace f6 := f6_
          replace f := f.step st7
          replace f2 := f2.step st7
          replace hc2 := hc2.step st7
          replace hc3 := hc3.step st7
          replace f7 := f7.step st7
          replace hs := hs.trans st7
          replace sl0 := sl0.trans st7
          have f8 := f6; clear f6
          refine q (fun i => xσ7 i = 0 ∨ xσ7 i = 3) H_7 _ rfl _ _ _ rfl (f.wide (fun i h => .inl h)) _ _ _ rfl (f8.read (fun i h => .inl h) (fun i h => .inr (h))) _ (fun Z4 H_8 hE3 hO3 r Y3 hY3 A5 n3 c5 hn5 f9 r2 q => ?_)
          obtain ⟨xσ9, st9, fy3⟩ := callB1 hE3 hO3 xσ7 5 hY3
          replace f9 := (SlO.anyZ (Z' := Zt xσ9) u64_flatL f9).keep (Fr.refl _ _) fy3
          cases hn5
          replace f := f.step st9
          replace f2 := f2.step st9
          replace hc2 := hc2.step st9
          replace hc3 := hc3.step st9
          replace f7 := f7.step st9
          replace f8 := f8.step st9
          replace hs := hs.trans st9
          replace sl0 := sl0.trans st9
          refine ⟨_, _, _, _, rfl, ?_⟩
          refine condI (fun q => ?_) (fun q => ?_) q
          · exact hk (Zt xσ9) _ (hs.ext hσ) (hs.old hσ) _ (Yt xσ9 5) (hs.fresh hσ) _ _ _ rfl f9 _ q
          · exact hnext (IntKind.i64.wrap (t + 1)) _ _ ⟨_, sl0, rfl⟩ q
        · refine NewH.mk fun H_5 e2 => ?_
          obtain ⟨xσ5, st5, f6⟩ := SlO.lit (E := TPoint.L) xσ4 6 (xs := [x3]) (l := [[_, _]]) e2 rfl (.cons rfl .nil) (show (1 : Nat) ≤ 17592186044416 by decide)
          replace f := f.step st5
          replace f2 := f2.step st5
          replace hc2 := hc2.step st5
          replace hc3 := hc3.step st5
          replace f5 := f5.step st5
          replace hs := hs.trans st5
          replace sl0 := sl0.trans st5
          obtain ⟨q2, q⟩ := q
          refine SlO.appF f5 f2 rfl rfl q2.l q2.r rfl rfl (fun A3 c3 H_6 xσ6 st6 f5_ => ?_)
          replace f5 := f5_
          replace f := f.step st6
          replace f2 := f2.step st6
          replace hc2 := hc2.step st6
          replace hc3 := hc3.step st6
          replace f6 := f6.step st6
          replace hs := hs.trans st6
          replace sl0 := sl0.trans st6
          have f7 := SlO.nilapp f5; clear f5
          obtain ⟨xσ8, st8, f6⟩ := SlO.freeze f6
          replace f := f.step st8
          replace f2 := f2.step st8
          replace hc2 := hc2.step st8
          replace hc3 := hc3.step st8
          replace f7 := f7.step st8
          replace hs := hs.trans st8
          replace sl0 := sl0.trans st8
          obtain ⟨q3, q⟩ := q
          refine SlO.appF f7 f6 rfl rfl q3.l q3.r rfl rfl (fun A4 c4 H_7 xσ7 st7 f7_ => ?_)
          replace f7 := f7_
          replace f := f.step st7
          replace f2 := f2.step st7
          replace hc2 := hc2.step st7
          replace hc3 := hc3.step st7
          replace f6 := f6.step st7
          replace hs := hs.trans st7
          replace sl0 := sl0.trans st7
          have f8 := f7; clear f7
          refine q (fun i => xσ7 i = 0 ∨ xσ7 i = 3) H_7 _ rfl _ _ _ rfl (f.wide (fun i h => .inl h)) _ _ _ rfl (f8.read (fun i h => .inl h) (fun i h => .inr (h))) _ (fun Z4 H_8 hE3 hO3 r Y3 hY3 A5 n3 c5 hn5 f9 r2 q => ?_)
          obtain ⟨xσ9, st9, fy3⟩ := callB1 hE3 hO3 xσ7 7 hY3
          replace f9 := (SlO.anyZ (Z' := Zt xσ9) u64_flatL f9).keep (Fr.refl _ _) fy3
          cases hn5
          replace f := f.step st9
          replace f2 := f2.step st9
          replace hc2 := hc2.step st9
          replace hc3 := hc3.step st9
          replace f6 := f6.step st9
          replace f8 := f8.step st9
          replace hs := hs.trans st9
          replace sl0 := sl0.trans st9
          refine ⟨_, _, _, _, rfl, ?_⟩
          refine condI (fun q => ?_) (fun q => ?_) q
          · exact hk (Zt xσ9) _ (hs.ext hσ) (hs.old hσ) _ (Yt xσ9 7) (hs.fresh hσ) _ _ _ rfl f9 _ q
          · exact hnext (IntKind.i64.wrap (t + 1)) _ _ ⟨_, sl0, rfl⟩ q
      · refine NewH.mk fun H_4 e => ?_
        obtain ⟨xσ4, st4, f5⟩ := SlO.lit (E := TPoint.L) xσ3 8 (xs := [x3]) (l := [[_, _]]) e rfl (.cons rfl .nil) (show (1 : Nat) ≤ 17592186044416 by decide)
        replace f := f.step st4
        replace f2 := f2.step st4
        replace hc2 := hc2.step st4
        replace hc3 := hc3.step st4
        replace hs := hs.trans st4
        replace sl0 := sl0.trans st4
        refine NewH.mk fun H_5 e2 => ?_
        obtain ⟨xσ5, st5, f6⟩ := SlO.lit (E := TPoint.L) xσ4 9 (xs := []) (l := []) e2 rfl .nil (show (0 : Nat) ≤ 17592186044416 by decide)
        replace f := f.step st5
        replace f2 := f2.step st5
        replace hc2 := hc2.step st5
        replace hc3 := hc3.step st5
        replace f5 := f5.step st5
        replace hs := hs.trans st5
        replace sl0 := sl0.trans st5
        obtain ⟨q2, q⟩ := q
        refine SlO.appF f6 f2 rfl rfl q2.l q2.r rfl rfl (fun A3 c3 H_6 xσ6 st6 f6_ => ?_)
        replace f6 := f6_
        replace f := f.step st6
        replace f2 := f2.step st6
        replace hc2 := hc2.step st6
        replace hc3 := hc3.step st6
        replace f5 := f5.step st6
        replace hs := hs.trans st6
        replace sl0 := sl0.trans st6
        have f7 := SlO.nilapp f6; clear f6
        obtain ⟨xσ8, st8, f5⟩ := SlO.freeze f5
        replace f := f.step st8
        replace f2 := f2.step st8
        replace hc2 := hc2.step st8
        replace hc3 := hc3.step st8
        replace f7 := f7.step st8
        replace hs := hs.trans st8
        replace sl0 := sl0.trans st8
        obtain ⟨q3, q⟩ := q
        refine SlO.appF f7 f5 rfl rfl q3.l q3.r rfl rfl (fun A4 c4 H_7 xσ7 st7 f7_ => ?_)
        replace f7 := f7_
        replace f := f.step st7
        replace f2 := f2.step st7
        replace hc2 := hc2.step st7
        replace hc3 := hc3.step st7
        replace f5 := f5.step st7
        replace hs := hs.trans st7
        replace sl0 := sl0.trans st7
        have f8 := f7; clear f7
        refine q (fun i => xσ7 i = 0 ∨ xσ7 i = 9) H_7 _ rfl _ _ _ rfl (f.wide (fun i h => .inl h)) _ _ _ rfl (f8.read (fun i h => .inl h) (fun i h => .inr (h))) _ (fun Z4 H_8 hE3 hO3 r Y3 hY3 A5 n3 c5 hn5 f9 r2 q => ?_)
        obtain ⟨xσ9, st9, fy3⟩ := callB1 hE3 hO3 xσ7 10 hY3
        replace f9 := (SlO.anyZ (Z' := Zt xσ9) u64_flatL f9).keep (Fr.refl _ _) fy3
        cases hn5
        replace f := f.step st9
        replace f2 := f2.step st9
        replace hc2 := hc2.step st9
        replace hc3 := hc3.step st9
        replace f5 := f5.step st9
        replace f8 := f8.step st9
        replace hs := hs.trans st9
        replace sl0 := sl0.trans st9
        refine ⟨_, _, _, _, rfl, ?_⟩
        refine condI (fun q => ?_) (fun q => ?_) q
        · exact hk (Zt xσ9) _ (hs.ext hσ) (hs.old hσ) _ (Yt xσ9 10) (hs.fresh hσ) _ _ _ rfl f9 _ q
        · exact hnext (IntKind.i64.wrap (t + 1)) _ _ ⟨_, sl0, rfl⟩ q
    · exact hk (Zt xσ3) _ (hs.ext hσ) (hs.old hσ) _ (fun _ => False) (fun _ h => h.elim) _ _ _ rfl (SlO.nil _ _ _ _ _) _ q
def juntoref05_Search.C (p : Nat) (d : Int) (wrong : Int) (l : (List TPoint)) (K : (List Nat) → Bool → Prop) : Prop :=
  ∀ (Z : Nat → Prop) (H : Heap), ∀ (pv : Int), pv = (p : Int) → ∀ (lA : Option Addr) (ln lc : Nat), ln = l.length → SlF TPoint.L Z H lA lc l → ∀ KK : Value → Heap → Prop,
    (∀ (Z' : Nat → Prop) (H' : Heap), Ext H H' → Old Z H Z' → ∀ (r0 : (List Nat)), ∀ (Y0 : Nat → Prop), (∀ i, Y0 i → H.size ≤ i ∧ ¬ Z' i) → ∀ (Ar0_0 : Option Addr) (nr0_0 cr0_0 : Nat), nr0_0 = r0.length → SlO (rdM u64L) 22 Z' Y0 H' Ar0_0 cr0_0 r0 → ∀ (r1 : Bool), K r0 r1 → KK (.tuple #[.slice Ar0_0 nr0_0 cr0_0, .bool r1]) H') →
    CallH P N.juntoref05_Search [.int .u64 pv, .int .i64 d, .int .i64 wrong, .slice lA ln lc] H KK
def juntoref05_Search.Q (p : Nat) (d : Int) (wrong : Int) (l : (List TPoint)) (K : (List Nat) → Bool → Prop) : Prop :=
  juntoref05_search.C p d wrong l 0 ([]) (fun (r : (List Nat)) (r2 : Bool) =>
  K r r2)
theorem juntoref05_Search.q {p : Nat} {d : Int} {wrong : Int} {l : (List TPoint)} {K : (List Nat) → Bool → Prop} (q : juntoref05_Search.Q p d wrong l K) : juntoref05_Search.C p d wrong l K := by
  intro Z H pv he lA ln lc hn f KK hk
  cases he
  cases hn
  apply juntoref05_Search.ok
  unfold juntoref05_Search.W
  unfold juntoref05_Search.Q at q
  obtain ⟨σ, hz, hσ⟩ := tags Z
  have hs : Stp ([1] : List Nat) σ H σ H := Stp.refl _ _ _
  replace f := f.wide hz
  clear hz
  refine q (Zt σ) H _ rfl _ _ _ rfl f _ _ _ rfl (SlF.nil _ _ _ _ _) _ (fun Z2 H_ hE hO r Y hY A n c hn2 f2 r2 q => ?_)
  obtain ⟨xσ, st, fz, fy⟩ := call1 hE hO σ 1 (fun _ h => h) hY
  replace f2 := f2.keep fz fy
  cases hn2
  replace f := f.step st
  replace hs := hs.trans st
  refine ⟨_, _, _, _, rfl, ?_⟩
  exact hk (Zt xσ) _ (hs.ext hσ) (hs.old hσ) _ (Yt xσ 1) (hs.fresh hσ) _ _ _ rfl f2 _ q
def juntoref05_There.C (l : (List TPoint)) (there : (List Bool)) (K : (List TPoint) → (List Int) → Prop) : Prop :=
  ∀ (Z : Nat → Prop) (H : Heap), ∀ (lA : Option Addr) (ln lc : Nat), ln = l.length → SlF TPoint.L Z H lA lc l → ∀ (thereA : Option Addr) (theren therec : Nat), theren = there.length → SlF boolL Z H thereA therec there → ∀ KK : Value → Heap → Prop,
    (∀ (Z' : Nat → Prop) (H' : Heap), Ext H H' → Old Z H Z' → ∀ (r0 : (List TPoint)), ∀ (Y0 : Nat → Prop), (∀ i, Y0 i → H.size ≤ i ∧ ¬ Z' i) → ∀ (Ar0_0 : Option Addr) (nr0_0 cr0_0 : Nat), nr0_0 = r0.length → SlO (rdM TPoint.L) 103 Z' Y0 H' Ar0_0 cr0_0 r0 → ∀ (r1 : (List Int)), ∀ (Y1 : Nat → Prop), (∀ i, Y1 i → H.size ≤ i ∧ ¬ Z' i) → ∀ (Ar1_0 : Option Addr) (nr1_0 cr1_0 : Nat), nr1_0 = r1.length → SlO (rdM i64L) 3 Z' Y1 H' Ar1_0 cr1_0 r1 → (∀ i, Y0 i → ¬ Y1 i) → K r0 r1 → KK (.tuple #[.slice Ar0_0 nr0_0 cr0_0, .slice Ar1_0 nr1_0 cr1_0]) H') →
    CallH P N.juntoref05_There [.slice lA ln lc, .slice thereA theren therec] H KK
def juntoref05_There.Q (l : (List TPoint)) (there : (List Bool)) (K : (List TPoint) → (List Int) → Prop) : Prop :=
  LoopQ (τ := List TPoint × List Int × Int) (([] : List TPoint), ([] : List Int), 0) fun t nextQ =>
  cond (decide (t.2.2 < ((l.length : Nat) : Int))) (0 ≤ t.2.2 ∧ ∃ x : TPoint, l[Int.toNat t.2.2]? = some x ∧ 0 ≤ t.2.2 ∧ ∃ x2 : Bool, there[Int.toNat t.2.2]? = some x2 ∧ cond x2 (AppOk 16 (t.1 ++ ([x] : List TPoint)).length ∧ AppOk 8 (t.2.1 ++ ([t.2.2] : List Int)).length ∧ nextQ ((t.1 ++ ([x] : List TPoint)), (t.2.1 ++ ([t.2.2] : List Int)), IntKind.i64.wrap (t.2.2 + 1)))
   (nextQ (t.1, t.2.1, IntKind.i64.wrap (t.2.2 + 1))))
   (K t.1 t.2.1)
theorem juntoref05_There.q {l : (List TPoint)} {there : (List Bool)} {K : (List TPoint) → (List Int) → Prop} (q : juntoref05_There.Q l there K) : juntoref05_There.C l there K := by
  intro Z H lA ln lc hn f thereA theren therec hn2 f2 KK hk
  cases hn
  cases hn2
  apply juntoref05_There.ok
  unfold juntoref05_There.W
  unfold juntoref05_There.Q at q
  obtain ⟨σ, hz, hσ⟩ := tags Z
  have hs : Stp ([1, 2, 3, 4, 5] : List Nat) σ H σ H := Stp.refl _ _ _
  replace f := f.wide hz
  replace f2 := f2.wide hz
  clear hz
  have f3 := SlO.nil (rdM TPoint.L) 103 (Zt σ) (Yt σ 1) H
  have f4 := SlO.nil (rdM i64L) 3 (Zt σ) (Yt σ 2) H
  refine LoopI.ofQ q (fun t_ s_ hp_ => ∃ (σ_ : Nat → Nat) (A0_ : Option Addr) (n0_ c0_ : Nat) (A1_ : Option Addr) (n1_ c1_ : Nat), Stp [1, 2, 3, 4, 5] σ H σ_ hp_ ∧ ((A0_, n0_, c0_), (A1_, n1_, c1_), t_.2.2) = s_ ∧ n0_ = t_.1.length ∧ SlO (rdM TPoint.L) 103 (Zt σ_) (Yt σ_ 1) hp_ A0_ c0_ t_.1 ∧ n1_ = t_.2.1.length ∧ SlO (rdM i64L) 3 (Zt σ_) (Yt σ_ 2) hp_ A1_ c1_ t_.2.1) (fun h k => h _ _ k) ⟨_, _, _, _, _, _, _, Stp.refl _ _ _, rfl, rfl, f3, rfl, f4⟩ ?_
  rintro t _ _ H_ next nextQ ⟨xσ, A, n, c, A2, n2, c2, st, rfl, rfl, f5, rfl, f6⟩ q hnext
  try dsimp only at q ⊢
  replace f := f.step st
  replace f2 := f2.step st
  replace hs := hs.trans st
  have sl0 := st
  refine condI (fun q => ?_) (fun q => ?_) q
  · obtain ⟨h0, x, hx, q⟩ := q
    obtain ⟨a, ha, hi⟩ := f.addr h0 hx rfl
    refine ⟨a, ha, hi.1, hi.2, ?_⟩
    obtain ⟨cs, hr, hc⟩ := f.ldN (k := 2) rfl ha h0 hx
    cases hr
    have hc2 := hc 0 _ rfl
    have hc3 := hc 1 _ rfl
    refine ⟨_, _, hc2.val, hc3.val, ?_⟩
    refine NewH.mk fun H_2 e => ?_
    obtain ⟨xσ2, st2, b⟩ := BoxF.new xσ 3 e
    replace f := f.step st2
    replace f2 := f2.step st2
    replace f5 := f5.step st2
    replace f6 := f6.step st2
    replace hc2 := hc2.step st2
    replace hc3 := hc3.step st2
    replace hs := hs.trans st2
    replace sl0 := sl0.trans st2
    refine ⟨b.mayN 0 2 (show (2 : Nat) ≤ 2 by decide), NewH.mk fun H_3 e2 => ?_⟩
    obtain ⟨st3, b⟩ := b.wroteN 0 (vs := [_, _]) (show (2 : Nat) ≤ 2 by decide) e2
    simp only [List.take_zero, List.take_succ_cons, List.drop_zero, List.drop_succ_cons, List.drop_nil, List.length_cons, List.length_nil, List.cons_append, List.nil_append, List.append_nil, Nat.zero_add, Nat.reduceAdd] at b
    replace f := f.step st3
    replace f2 := f2.step st3
    replace f5 := f5.step st3
    replace f6 := f6.step st3
    replace hc2 := hc2.step st3
    replace hc3 := hc3.step st3
    replace hs := hs.trans st3
    replace sl0 := sl0.trans st3
    obtain ⟨h02, x2, hx2, q⟩ := q
    obtain ⟨a2, ha2, hi2⟩ := f2.addr h02 hx2 rfl
    refine ⟨a2, ha2, hi2.1, hi2.2, ?_⟩
    have hc4 := f2.ldb ha2 h02 hx2
    refine ⟨_, hc4.val, ?_⟩
    refine condI (fun q => ?_) (fun q => ?_) q
    · refine ⟨_, _, b.cell0, b.cell 1 rfl, ?_⟩
      refine NewH.mk fun H_4 e3 => ?_
      obtain ⟨xσ3, st4, f7⟩ := SlO.lit (E := TPoint.L) xσ2 4 (xs := [x]) (l := [[_, _]]) e3 rfl (.cons rfl .nil) (show (1 : Nat) ≤ 17592186044416 by decide)
      replace f := f.step st4
      replace f2 := f2.step st4
      replace f5 := f5.step st4
      replace f6 := f6.step st4
      replace hc2 := hc2.step st4
      replace hc3 := hc3.step st4
      replace b := b.step st4
      replace hc4 := hc4.step st4
      replace hs := hs.trans st4
      replace sl0 := sl0.trans st4
      obtain ⟨xσ5, st6, f7⟩ := SlO.freeze f7
      replace f := f.step st6
      replace f2 := f2.step st6
      replace f5 := f5.step st6
      replace f6 := f6.step st6
      replace hc2 := hc2.step st6
      replace hc3 := hc3.step st6
      replace b := b.step st6
      replace hc4 := hc4.step st6
      replace hs := hs.trans st6
      replace sl0 := sl0.trans st6
      obtain ⟨q2, q⟩ := q
      refine SlO.appF f5 f7 rfl rfl q2.l q2.r rfl rfl (fun A3 c3 H_5 xσ4 st5 f5_ => ?_)
      replace f5 := f5_
      replace f := f.step st5
      replace f2 := f2.step st5
      replace f6 := f6.step st5
      replace hc2 := hc2.step st5
      replace hc3 := hc3.step st5
      replace b := b.step st5
      replace hc4 := hc4.step st5
      replace f7 := f7.step st5
      replace hs := hs.trans st5
      replace sl0 := sl0.trans st5
      have f8 := f5; clear f5
      refine NewH.mk fun H_6 e4 => ?_
      obtain ⟨xσ6, st7, f9⟩ := SlO.lit (E := i64L) xσ4 5 (xs := [t.2.2]) (l := [[_]]) e4 rfl (.cons rfl .nil) (show (1 : Nat) ≤ 17592186044416 by decide)
      replace f := f.step st7
      replace f2 := f2.step st7
      replace f6 := f6.step st7
      replace hc2 := hc2.step st7
      replace hc3 := hc3.step st7
      replace b := b.step st7
      replace hc4 := hc4.step st7
      replace f7 := f7.step st7
      replace f8 := f8.step st7
      replace hs := hs.trans st7
      replace sl0 := sl0.trans st7
      obtain ⟨xσ8, st9, f9⟩ := SlO.freeze f9
      replace f := f.step st9
      replace f2 := f2.step st9
      replace f6 := f6.step st9
      replace hc2 := hc2.step st9
      replace hc3 := hc3.step st9
      replace b := b.step st9
      replace hc4 := hc4.step st9
      replace f7 := f7.step st9
      replace f8 := f8.step st9
      replace hs := hs.trans st9
      replace sl0 := sl0.trans st9
      obtain ⟨q3, q⟩ := q
      refine SlO.appF f6 f9 rfl rfl q3.l q3.r rfl rfl (fun A4 c4 H_7 xσ7 st8 f6_ => ?_)
      replace f6 := f6_
      replace f := f.step st8
      replace f2 := f2.step st8
      replace hc2 := hc2.step st8
      replace hc3 := hc3.step st8
      replace b := b.step st8
      replace hc4 := hc4.step st8
      replace f7 := f7.step st8
      replace f8 := f8.step st8
      replace f9 := f9.step st8
      replace hs := hs.trans st8
      replace sl0 := sl0.trans st8
      have f10 := f6; clear f6
      exact hnext ((t.1 ++ ([x] : List TPoint)), (t.2.1 ++ ([t.2.2] : List Int)), IntKind.i64.wrap (t.2.2 + 1)) _ _ ⟨_, _, _, _, _, _, _, sl0, rfl, rfl, f8, rfl, f10⟩ q
    · exact hnext (t.1, t.2.1, IntKind.i64.wrap (t.2.2 + 1)) _ _ ⟨_, _, _, _, _, _, _, sl0, rfl, rfl, f5, rfl, f6⟩ q
  · exact hk (Zt xσ) _ (hs.ext hσ) (hs.old hσ) _ (Yt xσ 1) (hs.fresh hσ) _ _ _ rfl f5 _ (Yt xσ 2) (hs.fresh hσ) _ _ _ rfl f6 Yt.apart q
end Go.Proofs.Ytlhcaangdenoaaa.Sh
