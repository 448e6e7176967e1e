import Derived.Test.YtlhcaangdenoaaaSTypes
import Derived.Test.YtlhcaangdenoaaaSFnField
import Derived.Test.YtlhcaangdenoaaaSFnMatrix
import Derived.Test.YtlhcaangdenoaaaSFnPoly
namespace Go.Lf
end Go.Lf
namespace Go.Sx
end Go.Sx
set_option linter.unusedVariables false
set_option linter.unusedSimpArgs false
set_option maxRecDepth 100000
namespace Go.Proofs.Ytlhcaangdenoaaa.Sh
open Go.Sx
def decode_Check.A : Ann where
  loops := fun i => match i with
    | 28685 => [(30, .int .i64)]
    | _ => []
  plans := fun i => match i with
    | _ => .stop
def decode_Check.W (p : Int) (d : Int) (lA : Option Addr) (ln lc : Nat) (H : Heap) (R : Value → Heap → Prop) : Prop :=
  CallH P N.field_Is [.int .u64 p] H fun v H_ =>
  ∃ r : Bool, v = .bool r ∧ cond (!r) (R (.int .i64 2) H_) (cond (decide (d < 0)) (R (.int .i64 2) H_) (cond (decide (d ≥ 64)) (R (.int .i64 2) H_)
   (cond (decide (((ln : Nat) : Int) > 64)) (R (.int .i64 3) H_)
   (NewH (H_.push (.map #[] 0)) fun H_2 =>
  LoopI (σ := Int) (fun κ => κ 0 H_2) fun s z H_3 next =>
  cond (decide (s < ((ln : Nat) : Int))) (∃ a : Addr, lA = some a ∧ 0 ≤ s ∧ s < ((ln : Nat) : Int) ∧ ∃ x0 : Int, ∃ x1 : Int, cellH H_3 (a.add ((Int.toNat s) * 2)) = some (.int .u64 x0) ∧ cellH H_3 ((a.add ((Int.toNat s) * 2)).add 1) = some (.int .u64 x1) ∧ NewH (H_3.push (.cells #[.int .u64 0, .int .u64 0] 103 (0, 0))) fun H_4 =>
  MayWrite H_4 (Addr.mk H_3.size 0 none) 2 ∧ NewH (setH (setH H_4 (Addr.mk H_3.size 0 none) (.int .u64 x0)) (((Addr.mk H_3.size 0 none)).add 1) (.int .u64 x1)) fun H_5 =>
  ∃ x : Int, cellH H_5 (Addr.mk H_3.size 0 none) = some (.int .u64 x) ∧ ∃ x2 : Int, cellH H_5 (((Addr.mk H_3.size 0 none)).add 1) = some (.int .u64 x2) ∧ NewH (H_5.push (.cells #[.int .u64 x, .int .u64 x2] 22 (0, 0))) fun H_6 =>
  CallH P N.field_Below [.int .u64 p, .slice (some (Addr.mk H_5.size 0 none)) 2 2] H_6 fun v2 H_7 =>
  ∃ r2 : Int, v2 = .int .i64 r2 ∧ cond (r2 != 0) (R (.int .i64 r2) H_7)
   (∃ x3 : Int, cellH H_7 (Addr.mk H_3.size 0 none) = some (.int .u64 x3) ∧ SemU P (Instr.mapUpdate 134 (.map (some H_.size)) (.int .u64 x3) (.bool true)) H_7 fun H_8 =>
  next (IntKind.i64.wrap (s + 1)) H_8))
   (∃ (es : Array MapEntry) (ck : Nat), H_3[H_.size]? = some (.map es ck) ∧ cond (decide ((es.size : Int) < ((ln : Nat) : Int))) (R (.int .i64 6) H_3)
   (R (.int .i64 0) H_3))))))
theorem decode_Check.ok (p : Int) (d : Int) (lA : Option Addr) (ln lc : Nat) (H : Heap) (R : Value → Heap → Prop) (h : decode_Check.W p d lA ln lc H R) : CallH P N.decode_Check ([.int .u64 p, .int .i64 d, .slice lA ln lc] : List Value) H R := by
  have e : decode_Check.W p d lA ln lc H R = sxFn P T Sh.R nf decode_Check.A Try.f52.results.toList (bodyOf Try.f52) (([(.int .u64 p : Value), (.int .i64 d : Value), (.slice lA ln lc : Value)] : List Value) ++ List.replicate (53 - ([(.int .u64 p : Value), (.int .i64 d : Value), (.slice lA ln lc : Value)] : List Value).length) undef) H R := by kernel_rfl
  exact call_of_sx fits bodies mixed Try.func52 (c := bodyOf Try.f52) (by kernel_rfl) Try.ntmps52 decode_Check.A (by kernel_rfl) (e.mp h)
def decode_Most.A : Ann where
  loops := fun i => match i with
    | _ => []
  plans := fun i => match i with
    | _ => .stop
def decode_Most.W (points : Int) (d : Int) (H : Heap) (R : Value → Heap → Prop) : Prop :=
  cond (decide (d < 0)) (R (.int .i64 (-1)) H) (cond (decide (points < 0)) (R (.int .i64 (-1)) H) (cond (decide (d ≥ points)) (R (.int .i64 (-1)) H)
   ((2 : Int) ≠ 0 ∧ R (.int .i64 (IntKind.i64.wrap (Int.tdiv (IntKind.i64.wrap ((IntKind.i64.wrap (points - d)) - 1)) 2))) H)))
theorem decode_Most.ok (points : Int) (d : Int) (H : Heap) (R : Value → Heap → Prop) (h : decode_Most.W points d H R) : CallH P N.decode_Most ([.int .i64 points, .int .i64 d] : List Value) H R := by
  have e : decode_Most.W points d H R = sxFn P T Sh.R nf decode_Most.A Try.f55.results.toList (bodyOf Try.f55) (([(.int .i64 points : Value), (.int .i64 d : Value)] : List Value) ++ List.replicate (21 - ([(.int .i64 points : Value), (.int .i64 d : Value)] : List Value).length) undef) H R := by kernel_rfl
  exact call_of_sx fits bodies mixed Try.func55 (c := bodyOf Try.f55) (by kernel_rfl) Try.ntmps55 decode_Most.A (by kernel_rfl) (e.mp h)
def decode_Decode.A : Ann where
  loops := fun i => match i with
    | _ => []
  plans := fun i => match i with
    | _ => .stop
def decode_Decode.W (p : Int) (d : Int) (wrong : Int) (lA : Option Addr) (ln lc : Nat) (H : Heap) (R : Value → Heap → Prop) : Prop :=
  CallH P N.decode_Check [.int .u64 p, .int .i64 d, .slice lA ln lc] H fun v H_ =>
  ∃ r : Int, v = .int .i64 r ∧ cond (r != 0) (R (.tuple #[.slice none 0 0, .slice none 0 0, .int .i64 r]) H_)
   (CallH P N.decode_Most [.int .i64 ((ln : Nat) : Int), .int .i64 d] H_ fun v2 H_2 =>
  ∃ r2 : Int, v2 = .int .i64 r2 ∧ cond (decide (wrong < 0)) (R (.tuple #[.slice none 0 0, .slice none 0 0, .int .i64 2]) H_2)
   (cond (decide (wrong > r2)) (R (.tuple #[.slice none 0 0, .slice none 0 0, .int .i64 11]) H_2)
   (CallH P N.decode_Find [.int .u64 p, .int .i64 d, .int .i64 wrong, .slice lA ln lc] H_2 fun v3 H_3 =>
  ∃ (r0A : Option Addr) (r0n r0c : Nat), ∃ (r1A : Option Addr) (r1n r1c : Nat), ∃ r22 : Bool, v3 = .tuple #[.slice r0A r0n r0c, .slice r1A r1n r1c, .bool r22] ∧ cond (!r22) (R (.tuple #[.slice none 0 0, .slice none 0 0, .int .i64 12]) H_3)
   (R (.tuple #[.slice r0A r0n r0c, .slice r1A r1n r1c, .int .i64 0]) H_3))))
theorem decode_Decode.ok (p : Int) (d : Int) (wrong : Int) (lA : Option Addr) (ln lc : Nat) (H : Heap) (R : Value → Heap → Prop) (h : decode_Decode.W p d wrong lA ln lc H R) : CallH P N.decode_Decode ([.int .u64 p, .int .i64 d, .int .i64 wrong, .slice lA ln lc] : List Value) H R := by
  have e : decode_Decode.W p d wrong lA ln lc H R = sxFn P T Sh.R nf decode_Decode.A Try.f57.results.toList (bodyOf Try.f57) (([(.int .u64 p : Value), (.int .i64 d : Value), (.int .i64 wrong : Value), (.slice lA ln lc : Value)] : List Value) ++ List.replicate (47 - ([(.int .u64 p : Value), (.int .i64 d : Value), (.int .i64 wrong : Value), (.slice lA ln lc : Value)] : List Value).length) undef) H R := by kernel_rfl
  exact call_of_sx fits bodies mixed Try.func57 (c := bodyOf Try.f57) (by kernel_rfl) Try.ntmps57 decode_Decode.A (by kernel_rfl) (e.mp h)
def decode_Best.A : Ann where
  loops := fun i => match i with
    | _ => []
  plans := fun i => match i with
    | _ => .stop
def decode_Best.W (p : Int) (d : Int) (lA : Option Addr) (ln lc : Nat) (H : Heap) (R : Value → Heap → Prop) : Prop :=
  CallH P N.decode_Check [.int .u64 p, .int .i64 d, .slice lA ln lc] H fun v H_ =>
  ∃ r : Int, v = .int .i64 r ∧ cond (r != 0) (R (.tuple #[.slice none 0 0, .slice none 0 0, .int .i64 r]) H_)
   (CallH P N.decode_Most [.int .i64 ((ln : Nat) : Int), .int .i64 d] H_ fun v2 H_2 =>
  ∃ r2 : Int, v2 = .int .i64 r2 ∧ cond (decide (r2 < 0)) (R (.tuple #[.slice none 0 0, .slice none 0 0, .int .i64 11]) H_2)
   (CallH P N.decode_Decode [.int .u64 p, .int .i64 d, .int .i64 r2, .slice lA ln lc] H_2 fun v3 H_3 =>
  ∃ (r0A : Option Addr) (r0n r0c : Nat), ∃ (r1A : Option Addr) (r1n r1c : Nat), ∃ r22 : Int, v3 = .tuple #[.slice r0A r0n r0c, .slice r1A r1n r1c, .int .i64 r22] ∧ R (.tuple #[.slice r0A r0n r0c, .slice r1A r1n r1c, .int .i64 r22]) H_3))
theorem decode_Best.ok (p : Int) (d : Int) (lA : Option Addr) (ln lc : Nat) (H : Heap) (R : Value → Heap → Prop) (h : decode_Best.W p d lA ln lc H R) : CallH P N.decode_Best ([.int .u64 p, .int .i64 d, .slice lA ln lc] : List Value) H R := by
  have e : decode_Best.W p d lA ln lc H R = sxFn P T Sh.R nf decode_Best.A Try.f61.results.toList (bodyOf Try.f61) (([(.int .u64 p : Value), (.int .i64 d : Value), (.slice lA ln lc : Value)] : List Value) ++ List.replicate (32 - ([(.int .u64 p : Value), (.int .i64 d : Value), (.slice lA ln lc : Value)] : List Value).length) undef) H R := by kernel_rfl
  exact call_of_sx fits bodies mixed Try.func61 (c := bodyOf Try.f61) (by kernel_rfl) Try.ntmps61 decode_Best.A (by kernel_rfl) (e.mp h)
def decode_Gaps.A : Ann where
  loops := fun i => match i with
    | 36877 => [(12, .slice), (13, .slice), (35, .int .i64)]
    | 65555 => [(63, .int .i64)]
    | _ => []
  plans := fun i => match i with
    | _ => .stop
def decode_Gaps.W (p : Int) (d : Int) (lA : Option Addr) (ln lc : Nat) (thereA : Option Addr) (theren therec : Nat) (H : Heap) (R : Value → Heap → Prop) : Prop :=
  CallH P N.decode_Check [.int .u64 p, .int .i64 d, .slice lA ln lc] H fun v H_ =>
  ∃ r : Int, v = .int .i64 r ∧ cond (r != 0) (R (.tuple #[.slice none 0 0, .slice none 0 0, .int .i64 r]) H_)
   (cond (((theren : Nat) : Int) != ((ln : Nat) : Int)) (R (.tuple #[.slice none 0 0, .slice none 0 0, .int .i64 2]) H_)
   (LoopI (σ := (Option Addr × Nat × Nat) × (Option Addr × Nat × Nat) × Int) (fun κ => κ ((none, 0, 0), (none, 0, 0), 0) H_) fun s z H_2 next =>
  cond (decide (s.2.2 < ((ln : Nat) : Int))) (∃ a : Addr, lA = some a ∧ 0 ≤ s.2.2 ∧ s.2.2 < ((ln : Nat) : Int) ∧ ∃ x0 : Int, ∃ x1 : Int, cellH H_2 (a.add ((Int.toNat s.2.2) * 2)) = some (.int .u64 x0) ∧ cellH H_2 ((a.add ((Int.toNat s.2.2) * 2)).add 1) = some (.int .u64 x1) ∧ NewH (H_2.push (.cells #[.int .u64 0, .int .u64 0] 103 (0, 0))) fun H_3 =>
  MayWrite H_3 (Addr.mk H_2.size 0 none) 2 ∧ NewH (setH (setH H_3 (Addr.mk H_2.size 0 none) (.int .u64 x0)) (((Addr.mk H_2.size 0 none)).add 1) (.int .u64 x1)) fun H_4 =>
  ∃ a2 : Addr, thereA = some a2 ∧ 0 ≤ s.2.2 ∧ s.2.2 < ((theren : Nat) : Int) ∧ ∃ x : Bool, cellH H_4 (a2.add (Int.toNat s.2.2)) = some (.bool x) ∧ cond x (∃ x02 : Int, ∃ x12 : Int, cellH H_4 (Addr.mk H_2.size 0 none) = some (.int .u64 x02) ∧ cellH H_4 (((Addr.mk H_2.size 0 none)).add 1) = some (.int .u64 x12) ∧ NewH (H_4.push (.cells #[.int .u64 x02, .int .u64 x12] 103 (0, 0))) fun H_5 =>
  AppendV 103 2 16 [.int .u64 0, .int .u64 0] H_5 s.1.1 s.1.2.1 s.1.2.2 (some (Addr.mk H_4.size 0 none)) 1 fun vA vn vc H_6 =>
  NewH (H_6.push (.cells #[.int .i64 s.2.2] 3 (0, 0))) fun H_7 =>
  AppendV 3 1 8 [.int .i64 0] H_7 s.2.1.1 s.2.1.2.1 s.2.1.2.2 (some (Addr.mk H_6.size 0 none)) 1 fun vA2 vn2 vc2 H_8 =>
  next ((vA, vn, vc), (vA2, vn2, vc2), IntKind.i64.wrap (s.2.2 + 1)) H_8)
   (next ((s.1.1, s.1.2.1, s.1.2.2), (s.2.1.1, s.2.1.2.1, s.2.1.2.2), IntKind.i64.wrap (s.2.2 + 1)) H_4))
   (CallH P N.decode_Best [.int .u64 p, .int .i64 d, .slice s.1.1 s.1.2.1 s.1.2.2] H_2 fun v4 H_9 =>
  ∃ (r0A : Option Addr) (r0n r0c : Nat), ∃ (r1A : Option Addr) (r1n r1c : Nat), ∃ r2 : Int, v4 = .tuple #[.slice r0A r0n r0c, .slice r1A r1n r1c, .int .i64 r2] ∧ LoopI (σ := Int) (fun κ => κ 0 H_9) fun s2 z2 H_10 next2 =>
  cond (decide (s2 < ((r1n : Nat) : Int))) (∃ a3 : Addr, r1A = some a3 ∧ 0 ≤ s2 ∧ s2 < ((r1n : Nat) : Int) ∧ ∃ x2 : Int, cellH H_10 (a3.add (Int.toNat s2)) = some (.int .i64 x2) ∧ ∃ a4 : Addr, s.2.1.1 = some a4 ∧ 0 ≤ x2 ∧ x2 < ((s.2.1.2.1 : Nat) : Int) ∧ ∃ x3 : Int, cellH H_10 (a4.add (Int.toNat x2)) = some (.int .i64 x3) ∧ ∃ a5 : Addr, r1A = some a5 ∧ 0 ≤ s2 ∧ s2 < ((r1n : Nat) : Int) ∧ MayWrite H_10 (a5.add (Int.toNat s2)) 1 ∧ NewH (setH H_10 (a5.add (Int.toNat s2)) (.int .i64 x3)) fun H_11 =>
  next2 (IntKind.i64.wrap (s2 + 1)) H_11)
   (R (.tuple #[.slice r0A r0n r0c, .slice r1A r1n r1c, .int .i64 r2]) H_10))))
theorem decode_Gaps.ok (p : Int) (d : Int) (lA : Option Addr) (ln lc : Nat) (thereA : Option Addr) (theren therec : Nat) (H : Heap) (R : Value → Heap → Prop) (h : decode_Gaps.W p d lA ln lc thereA theren therec H R) : CallH P N.decode_Gaps ([.int .u64 p, .int .i64 d, .slice lA ln lc, .slice thereA theren therec] : List Value) H R := by
  have e : decode_Gaps.W p d lA ln lc thereA theren therec H R = sxFn P T Sh.R nf decode_Gaps.A Try.f67.results.toList (bodyOf Try.f67) (([(.int .u64 p : Value), (.int .i64 d : Value), (.slice lA ln lc : Value), (.slice thereA theren therec : Value)] : List Value) ++ List.replicate (79 - ([(.int .u64 p : Value), (.int .i64 d : Value), (.slice lA ln lc : Value), (.slice thereA theren therec : Value)] : List Value).length) undef) H R := by kernel_rfl
  exact call_of_sx fits bodies mixed Try.func67 (c := bodyOf Try.f67) (by kernel_rfl) Try.ntmps67 decode_Gaps.A (by kernel_rfl) (e.mp h)
def decode_Find.A : Ann where
  loops := fun i => match i with
    | 16404 => [(11, .slice), (12, .slice), (26, .int .i64)]
    | 36876 => [(15, .slice), (16, .int .u64), (34, .int .i64)]
    | 61458 => [(15, .slice), (16, .int .u64), (49, .int .i64)]
    | _ => []
  plans := fun i => match i with
    | 24 => .first 0 (.first 1 (.first 2 (.first 3 (.first 4 (.first 5 (.first 6 (.first 7 (.first 8 (.first 9 (.first 10 (.first 11 (.alt 12 [] (.alt 13 [] (.alt 14 [] (.first 15 (.first 16 (.done))) (.stop)) (.stop)) (.alt 13 [] (.alt 12 [] (.alt 14 [] (.first 15 (.first 16 (.done))) (.stop)) (.stop)) (.stop))))))))))))))
    | _ => .stop
def decode_Find.W (p : Int) (d : Int) (wrong : Int) (lA : Option Addr) (ln lc : Nat) (H : Heap) (R : Value → Heap → Prop) : Prop :=
  LoopI (σ := (Option Addr × Nat × Nat) × (Option Addr × Nat × Nat) × Int) (fun κ => κ ((none, 0, 0), (none, 0, 0), 0) H) fun s z H_ next =>
  cond (decide (s.2.2 < ((ln : Nat) : Int))) (∃ a : Addr, lA = some a ∧ 0 ≤ s.2.2 ∧ s.2.2 < ((ln : Nat) : Int) ∧ ∃ x0 : Int, ∃ x1 : Int, cellH H_ (a.add ((Int.toNat s.2.2) * 2)) = some (.int .u64 x0) ∧ cellH H_ ((a.add ((Int.toNat s.2.2) * 2)).add 1) = some (.int .u64 x1) ∧ NewH (H_.push (.cells #[.int .u64 0, .int .u64 0] 103 (0, 0))) fun H_2 =>
  MayWrite H_2 (Addr.mk H_.size 0 none) 2 ∧ NewH (setH (setH H_2 (Addr.mk H_.size 0 none) (.int .u64 x0)) (((Addr.mk H_.size 0 none)).add 1) (.int .u64 x1)) fun H_3 =>
  LoopI (σ := (Option Addr × Nat × Nat) × Int × Int) (fun κ => κ ((none, 0, 0), 1, 0) H_3) fun s2 z2 H_4 next2 =>
  cond (decide (s2.2.2 < (IntKind.i64.wrap ((IntKind.i64.wrap (d + wrong)) + 1)))) (NewH (H_4.push (.cells #[.int .u64 s2.2.1] 22 (0, 0))) fun H_5 =>
  AppendV 22 1 8 [.int .u64 0] H_5 s2.1.1 s2.1.2.1 s2.1.2.2 (some (Addr.mk H_4.size 0 none)) 1 fun vA vn vc H_6 =>
  ∃ x : Int, cellH H_6 (Addr.mk H_.size 0 none) = some (.int .u64 x) ∧ CallH P N.field_Times [.int .u64 p, .int .u64 s2.2.1, .int .u64 x] H_6 fun v2 H_7 =>
  ∃ r : Int, v2 = .int .u64 r ∧ next2 ((vA, vn, vc), r, IntKind.i64.wrap (s2.2.2 + 1)) H_7)
   (∃ x2 : Int, cellH H_4 (((Addr.mk H_.size 0 none)).add 1) = some (.int .u64 x2) ∧ LoopI (σ := (Option Addr × Nat × Nat) × Int × Int) (fun κ => κ ((s2.1.1, s2.1.2.1, s2.1.2.2), x2, 0) H_4) fun s3 z3 H_8 next3 =>
  cond (decide (s3.2.2 < wrong)) (CallH P N.field_Minus [.int .u64 p, .int .u64 0, .int .u64 s3.2.1] H_8 fun v3 H_9 =>
  ∃ r2 : Int, v3 = .int .u64 r2 ∧ NewH (H_9.push (.cells #[.int .u64 r2] 22 (0, 0))) fun H_10 =>
  AppendV 22 1 8 [.int .u64 0] H_10 s3.1.1 s3.1.2.1 s3.1.2.2 (some (Addr.mk H_9.size 0 none)) 1 fun vA2 vn2 vc2 H_11 =>
  ∃ x3 : Int, cellH H_11 (Addr.mk H_.size 0 none) = some (.int .u64 x3) ∧ CallH P N.field_Times [.int .u64 p, .int .u64 s3.2.1, .int .u64 x3] H_11 fun v5 H_12 =>
  ∃ r3 : Int, v5 = .int .u64 r3 ∧ next3 ((vA2, vn2, vc2), r3, IntKind.i64.wrap (s3.2.2 + 1)) H_12)
   (NewH (H_8.push (.cells #[.slice s3.1.1 s3.1.2.1 s3.1.2.2] 30 (0, 0))) fun H_13 =>
  AppendV 30 1 24 [.slice none 0 0] H_13 s.1.1 s.1.2.1 s.1.2.2 (some (Addr.mk H_8.size 0 none)) 1 fun vA3 vn3 vc3 H_14 =>
  NewH (H_14.push (.cells #[.int .u64 s3.2.1] 22 (0, 0))) fun H_15 =>
  AppendV 22 1 8 [.int .u64 0] H_15 s.2.1.1 s.2.1.2.1 s.2.1.2.2 (some (Addr.mk H_14.size 0 none)) 1 fun vA4 vn4 vc4 H_16 =>
  next ((vA3, vn3, vc3), (vA4, vn4, vc4), IntKind.i64.wrap (s.2.2 + 1)) H_16)))
   (CallH P N.matrix_Answer [.int .u64 p, .slice s.1.1 s.1.2.1 s.1.2.2, .slice s.2.1.1 s.2.1.2.1 s.2.1.2.2] H_ fun v8 H_17 =>
  ∃ (r0A : Option Addr) (r0n r0c : Nat), ∃ r1 : Bool, v8 = .tuple #[.slice r0A r0n r0c, .bool r1] ∧ cond (!r1) (R (.tuple #[.slice none 0 0, .slice none 0 0, .bool false]) H_17)
   (0 ≤ (IntKind.i64.wrap ((IntKind.i64.wrap (d + wrong)) + 1)) ∧ (IntKind.i64.wrap ((IntKind.i64.wrap (d + wrong)) + 1)) ≤ ((r0c : Nat) : Int) ∧ 0 ≤ (IntKind.i64.wrap ((IntKind.i64.wrap (d + wrong)) + 1)) ∧ (IntKind.i64.wrap ((IntKind.i64.wrap (d + wrong)) + 1)) ≤ ((r0n : Nat) : Int) ∧ (CallH P N.slices_Clone_uint64uint64 [.slice (SubA r0A r0c (Int.toNat (IntKind.i64.wrap ((IntKind.i64.wrap (d + wrong)) + 1))) 1) (r0n - (Int.toNat (IntKind.i64.wrap ((IntKind.i64.wrap (d + wrong)) + 1)))) (r0c - (Int.toNat (IntKind.i64.wrap ((IntKind.i64.wrap (d + wrong)) + 1))))] H_17 fun v9 H_18 =>
  ∃ (rA : Option Addr) (rn rc : Nat), v9 = .slice rA rn rc ∧ NewH (H_18.push (.cells #[.int .u64 1] 22 (0, 0))) fun H_19 =>
  AppendV 22 1 8 [.int .u64 0] H_19 rA rn rc (some (Addr.mk H_18.size 0 none)) 1 fun vA5 vn5 vc5 H_20 =>
  CallH P N.poly_Over [.int .u64 p, .slice r0A (Int.toNat (IntKind.i64.wrap ((IntKind.i64.wrap (d + wrong)) + 1))) r0c, .slice vA5 vn5 vc5] H_20 fun v11 H_21 =>
  ∃ (r0A2 : Option Addr) (r0n2 r0c2 : Nat), ∃ (r1A : Option Addr) (r1n r1c : Nat), v11 = .tuple #[.slice r0A2 r0n2 r0c2, .slice r1A r1n r1c] ∧ CallH P N.decode_off [.int .u64 p, .slice r0A2 r0n2 r0c2, .slice lA ln lc] H_21 fun v12 H_22 =>
  ∃ (rA2 : Option Addr) (rn2 rc2 : Nat), v12 = .slice rA2 rn2 rc2 ∧ cond (((r1n : Nat) : Int) == 0) (cond (decide (((r0n2 : Nat) : Int) ≤ (IntKind.i64.wrap (d + 1)))) (R (.tuple #[.slice r0A2 r0n2 r0c2, .slice rA2 rn2 rc2, .bool (decide (((rn2 : Nat) : Int) ≤ wrong))]) H_22) (R (.tuple #[.slice r0A2 r0n2 r0c2, .slice rA2 rn2 rc2, .bool false]) H_22)) (R (.tuple #[.slice r0A2 r0n2 r0c2, .slice rA2 rn2 rc2, .bool false]) H_22)) ∧ NewH (H_17.push (.cells #[.int .u64 1] 22 (0, 0))) fun H_23 =>
  CallH P N.slices_Clone_uint64uint64 [.slice (SubA r0A r0c (Int.toNat (IntKind.i64.wrap ((IntKind.i64.wrap (d + wrong)) + 1))) 1) (r0n - (Int.toNat (IntKind.i64.wrap ((IntKind.i64.wrap (d + wrong)) + 1)))) (r0c - (Int.toNat (IntKind.i64.wrap ((IntKind.i64.wrap (d + wrong)) + 1))))] H_23 fun v13 H_24 =>
  ∃ (rA3 : Option Addr) (rn3 rc3 : Nat), v13 = .slice rA3 rn3 rc3 ∧ AppendV 22 1 8 [.int .u64 0] H_24 rA3 rn3 rc3 (some (Addr.mk H_17.size 0 none)) 1 fun vA6 vn6 vc6 H_25 =>
  CallH P N.poly_Over [.int .u64 p, .slice r0A (Int.toNat (IntKind.i64.wrap ((IntKind.i64.wrap (d + wrong)) + 1))) r0c, .slice vA6 vn6 vc6] H_25 fun v15 H_26 =>
  ∃ (r0A3 : Option Addr) (r0n3 r0c3 : Nat), ∃ (r1A2 : Option Addr) (r1n2 r1c2 : Nat), v15 = .tuple #[.slice r0A3 r0n3 r0c3, .slice r1A2 r1n2 r1c2] ∧ CallH P N.decode_off [.int .u64 p, .slice r0A3 r0n3 r0c3, .slice lA ln lc] H_26 fun v16 H_27 =>
  ∃ (rA4 : Option Addr) (rn4 rc4 : Nat), v16 = .slice rA4 rn4 rc4 ∧ cond (((r1n2 : Nat) : Int) == 0) (cond (decide (((r0n3 : Nat) : Int) ≤ (IntKind.i64.wrap (d + 1)))) (R (.tuple #[.slice r0A3 r0n3 r0c3, .slice rA4 rn4 rc4, .bool (decide (((rn4 : Nat) : Int) ≤ wrong))]) H_27) (R (.tuple #[.slice r0A3 r0n3 r0c3, .slice rA4 rn4 rc4, .bool false]) H_27)) (R (.tuple #[.slice r0A3 r0n3 r0c3, .slice rA4 rn4 rc4, .bool false]) H_27)))
theorem decode_Find.ok (p : Int) (d : Int) (wrong : Int) (lA : Option Addr) (ln lc : Nat) (H : Heap) (R : Value → Heap → Prop) (h : decode_Find.W p d wrong lA ln lc H R) : CallH P N.decode_Find ([.int .u64 p, .int .i64 d, .int .i64 wrong, .slice lA ln lc] : List Value) H R := by
  have e : decode_Find.W p d wrong lA ln lc H R = sxFn P T Sh.R nf decode_Find.A Try.f96.results.toList (bodyOf Try.f96) (([(.int .u64 p : Value), (.int .i64 d : Value), (.int .i64 wrong : Value), (.slice lA ln lc : Value)] : List Value) ++ List.replicate (125 - ([(.int .u64 p : Value), (.int .i64 d : Value), (.int .i64 wrong : Value), (.slice lA ln lc : Value)] : List Value).length) undef) H R := by kernel_rfl
  exact call_of_sx fits bodies mixed Try.func96 (c := bodyOf Try.f96) (by kernel_rfl) Try.ntmps96 decode_Find.A (by kernel_rfl) (e.mp h)
def decode_off.A : Ann where
  loops := fun i => match i with
    | 12295 => [(7, .slice), (12, .int .i64)]
    | _ => []
  plans := fun i => match i with
    | 5 => .first 0 (.first 1 (.first 2 (.first 5 (.read 3 (.read 6 (.alt 4 [3] (.first 7 (.done)) (.stop)))))))
    | _ => .stop
def decode_off.W (p : Int) (fA : Option Addr) (fn fc : Nat) (lA : Option Addr) (ln lc : Nat) (H : Heap) (R : Value → Heap → Prop) : Prop :=
  LoopI (σ := (Option Addr × Nat × Nat) × Int) (fun κ => κ ((none, 0, 0), 0) H) fun s z H_ next =>
  cond (decide (s.2 < ((ln : Nat) : Int))) (∃ a : Addr, lA = some a ∧ 0 ≤ s.2 ∧ s.2 < ((ln : Nat) : Int) ∧ ∃ x0 : Int, ∃ x1 : Int, cellH H_ (a.add ((Int.toNat s.2) * 2)) = some (.int .u64 x0) ∧ cellH H_ ((a.add ((Int.toNat s.2) * 2)).add 1) = some (.int .u64 x1) ∧ NewH (H_.push (.cells #[.int .u64 0, .int .u64 0] 103 (0, 0))) fun H_2 =>
  MayWrite H_2 (Addr.mk H_.size 0 none) 2 ∧ NewH (setH (setH H_2 (Addr.mk H_.size 0 none) (.int .u64 x0)) (((Addr.mk H_.size 0 none)).add 1) (.int .u64 x1)) fun H_3 =>
  ∃ x : Int, cellH H_3 (Addr.mk H_.size 0 none) = some (.int .u64 x) ∧ ∃ x2 : Int, cellH H_3 (((Addr.mk H_.size 0 none)).add 1) = some (.int .u64 x2) ∧ CallH P N.poly_At [.int .u64 p, .slice fA fn fc, .int .u64 x] H_3 fun v H_4 =>
  ∃ r : Int, v = .int .u64 r ∧ cellH H_4 (((Addr.mk H_.size 0 none)).add 1) = some (.int .u64 x2) ∧ cond (r != x2) (NewH (H_4.push (.cells #[.int .i64 s.2] 3 (0, 0))) fun H_5 =>
  AppendV 3 1 8 [.int .i64 0] H_5 s.1.1 s.1.2.1 s.1.2.2 (some (Addr.mk H_4.size 0 none)) 1 fun vA vn vc H_6 =>
  next ((vA, vn, vc), IntKind.i64.wrap (s.2 + 1)) H_6)
   (next ((s.1.1, s.1.2.1, s.1.2.2), IntKind.i64.wrap (s.2 + 1)) H_4))
   (R (.slice s.1.1 s.1.2.1 s.1.2.2) H_)
theorem decode_off.ok (p : Int) (fA : Option Addr) (fn fc : Nat) (lA : Option Addr) (ln lc : Nat) (H : Heap) (R : Value → Heap → Prop) (h : decode_off.W p fA fn fc lA ln lc H R) : CallH P N.decode_off ([.int .u64 p, .slice fA fn fc, .slice lA ln lc] : List Value) H R := by
  have e : decode_off.W p fA fn fc lA ln lc H R = sxFn P T Sh.R nf decode_off.A Try.f119.results.toList (bodyOf Try.f119) (([(.int .u64 p : Value), (.slice fA fn fc : Value), (.slice lA ln lc : Value)] : List Value) ++ List.replicate (31 - ([(.int .u64 p : Value), (.slice fA fn fc : Value), (.slice lA ln lc : Value)] : List Value).length) undef) H R := by kernel_rfl
  exact call_of_sx fits bodies mixed Try.func119 (c := bodyOf Try.f119) (by kernel_rfl) Try.ntmps119 decode_off.A (by kernel_rfl) (e.mp h)
end Go.Proofs.Ytlhcaangdenoaaa.Sh
namespace Go.Proofs.Ytlhcaangdenoaaa.Sh
open Go.Sx Go.Lf
def decode_Most.C (points : Int) (d : Int) (K : Int → Prop) : Prop :=
  ∀ (Z : Nat → Prop) (H : Heap), ∀ KK : Value → Heap → Prop,
    (∀ (Z' : Nat → Prop) (H' : Heap), Ext H H' → Old Z H Z' → ∀ (r0 : Int), K r0 → KK (.int .i64 r0) H') →
    CallH P N.decode_Most [.int .i64 points, .int .i64 d] H KK
def decode_Most.Q (points : Int) (d : Int) (K : Int → Prop) : Prop :=
  cond (decide (d < 0)) (K (-1))
   (cond (decide (points < 0)) (K (-1))
   (cond (decide (d ≥ points)) (K (-1))
   ((2 : Int) ≠ 0 ∧ K (IntKind.i64.wrap (Int.tdiv (IntKind.i64.wrap ((IntKind.i64.wrap (points - d)) - 1)) 2)))))
theorem decode_Most.q {points : Int} {d : Int} {K : Int → Prop} (q : decode_Most.Q points d K) : decode_Most.C points d K := by
  intro Z H  KK hk
  apply decode_Most.ok
  unfold decode_Most.W
  unfold decode_Most.Q at q
  obtain ⟨σ, hz, hσ⟩ := tags Z
  have hs : Stp ([] : List Nat) σ H σ H := Stp.refl _ _ _
  clear hz
  refine condI (fun q => ?_) (fun q => ?_) q
  · exact hk (Zt σ) _ (hs.ext hσ) (hs.old hσ) _ q
  · refine condI (fun q => ?_) (fun q => ?_) q
    · exact hk (Zt σ) _ (hs.ext hσ) (hs.old hσ) _ q
    · refine condI (fun q => ?_) (fun q => ?_) q
      · exact hk (Zt σ) _ (hs.ext hσ) (hs.old hσ) _ q
      · obtain ⟨q2, q⟩ := q
        refine ⟨q2, ?_⟩
        exact hk (Zt σ) _ (hs.ext hσ) (hs.old hσ) _ q
def decode_off.C (p : Nat) (f : (List Nat)) (l : (List TPoint)) (K : (List Int) → Prop) : Prop :=
  ∀ (Z : Nat → Prop) (H : Heap), ∀ (pv : Int), pv = (p : Int) → ∀ (fA : Option Addr) (fn fc : Nat), fn = f.length → SlF u64L Z H fA fc f → ∀ (lA : Option Addr) (ln lc : Nat), ln = l.length → SlF TPoint.L Z H lA lc l → ∀ KK : Value → Heap → Prop,
    (∀ (Z' : Nat → Prop) (H' : Heap), Ext H H' → Old Z H Z' → ∀ (r0 : (List Int)), ∀ (Y0 : Nat → Prop), (∀ i, Y0 i → H.size ≤ i ∧ ¬ Z' i) → ∀ (Ar0_0 : Option Addr) (nr0_0 cr0_0 : Nat), nr0_0 = r0.length → SlO (rdM i64L) 3 Z' Y0 H' Ar0_0 cr0_0 r0 → K r0 → KK (.slice Ar0_0 nr0_0 cr0_0) H') →
    CallH P N.decode_off [.int .u64 pv, .slice fA fn fc, .slice lA ln lc] H KK
def decode_off.Q (p : Nat) (f : (List Nat)) (l : (List TPoint)) (K : (List Int) → Prop) : Prop :=
  LoopQ (τ := List Int × Int) (([] : List Int), 0) fun t nextQ =>
  cond (decide (t.2 < ((l.length : Nat) : Int))) (0 ≤ t.2 ∧ ∃ x : TPoint, l[Int.toNat t.2]? = some x ∧ poly_At.C p f x.X (fun (x2 : Nat) =>
  cond ((x2 : Int) != (x.Y : Int)) (AppOk 8 (t.1 ++ ([t.2] : List Int)).length ∧ nextQ ((t.1 ++ ([t.2] : List Int)), IntKind.i64.wrap (t.2 + 1)))
   (nextQ (t.1, IntKind.i64.wrap (t.2 + 1)))))
   (K t.1)
theorem decode_off.q {p : Nat} {f : (List Nat)} {l : (List TPoint)} {K : (List Int) → Prop} (q : decode_off.Q p f l K) : decode_off.C p f l K := by
  intro Z H pv he fA fn fc hn f2 lA ln lc hn2 f3 KK hk
  cases he
  cases hn
  cases hn2
  apply decode_off.ok
  unfold decode_off.W
  unfold decode_off.Q at q
  obtain ⟨σ, hz, hσ⟩ := tags Z
  have hs : Stp ([1, 2, 3] : List Nat) σ H σ H := Stp.refl _ _ _
  replace f2 := f2.wide hz
  replace f3 := f3.wide hz
  clear hz
  have f4 := SlO.nil (rdM i64L) 3 (Zt σ) (Yt σ 1) H
  refine LoopI.ofQ q (fun t_ s_ hp_ => ∃ (σ_ : Nat → Nat) (A0_ : Option Addr) (n0_ c0_ : Nat), Stp [1, 2, 3] σ H σ_ hp_ ∧ ((A0_, n0_, c0_), t_.2) = s_ ∧ n0_ = t_.1.length ∧ SlO (rdM i64L) 3 (Zt σ_) (Yt σ_ 1) hp_ A0_ c0_ t_.1) (fun h k => h _ _ k) ⟨_, _, _, _, Stp.refl _ _ _, rfl, rfl, f4⟩ ?_
  rintro t _ _ H_ next nextQ ⟨xσ, A, n, c, st, rfl, rfl, f5⟩ q hnext
  try dsimp only at q ⊢
  replace f2 := f2.step st
  replace f3 := f3.step st
  replace hs := hs.trans st
  have sl0 := st
  refine condI (fun q => ?_) (fun q => ?_) q
  · obtain ⟨h0, x, hx, q⟩ := q
    obtain ⟨a, ha, hi⟩ := f3.addr h0 hx rfl
    refine ⟨a, ha, hi.1, hi.2, ?_⟩
    obtain ⟨cs, hr, hc⟩ := f3.ldN (k := 2) rfl ha h0 hx
    cases hr
    have hc2 := hc 0 _ rfl
    have hc3 := hc 1 _ rfl
    refine ⟨_, _, hc2.val, hc3.val, ?_⟩
    refine NewH.mk fun H_2 e => ?_
    obtain ⟨xσ2, st2, b⟩ := BoxF.new xσ 2 e
    replace f2 := f2.step st2
    replace f3 := f3.step st2
    replace f5 := f5.step st2
    replace hc2 := hc2.step st2
    replace hc3 := hc3.step st2
    replace hs := hs.trans st2
    replace sl0 := sl0.trans st2
    refine ⟨b.mayN 0 2 (show (2 : Nat) ≤ 2 by decide), NewH.mk fun H_3 e2 => ?_⟩
    obtain ⟨st3, b⟩ := b.wroteN 0 (vs := [_, _]) (show (2 : Nat) ≤ 2 by decide) e2
    simp only [List.take_zero, List.take_succ_cons, List.drop_zero, List.drop_succ_cons, List.drop_nil, List.length_cons, List.length_nil, List.cons_append, List.nil_append, List.append_nil, Nat.zero_add, Nat.reduceAdd] at b
    replace f2 := f2.step st3
    replace f3 := f3.step st3
    replace f5 := f5.step st3
    replace hc2 := hc2.step st3
    replace hc3 := hc3.step st3
    replace hs := hs.trans st3
    replace sl0 := sl0.trans st3
    refine ⟨_, b.cell0, ?_⟩
    refine ⟨_, b.cell 1 rfl, ?_⟩
    refine q (Zt xσ2) H_3 _ rfl _ _ _ rfl f2 _ rfl _ (fun Z2 H_4 hE hO x2 v he2 q => ?_)
    obtain ⟨xσ3, st4⟩ := call0 hE xσ2
    cases he2
    replace f2 := f2.step st4
    replace f3 := f3.step st4
    replace f5 := f5.step st4
    replace hc2 := hc2.step st4
    replace hc3 := hc3.step st4
    replace b := b.step st4
    replace hs := hs.trans st4
    replace sl0 := sl0.trans st4
    refine ⟨_, rfl, ?_⟩
    refine ⟨(b.cell 1 rfl), ?_⟩
    refine condI (fun q => ?_) (fun q => ?_) q
    · refine NewH.mk fun H_5 e3 => ?_
      obtain ⟨xσ4, st5, f6⟩ := SlO.lit (E := i64L) xσ3 3 (xs := [t.2]) (l := [[_]]) e3 rfl (.cons rfl .nil) (show (1 : Nat) ≤ 17592186044416 by decide)
      replace f2 := f2.step st5
      replace f3 := f3.step st5
      replace f5 := f5.step st5
      replace hc2 := hc2.step st5
      replace hc3 := hc3.step st5
      replace b := b.step st5
      replace hs := hs.trans st5
      replace sl0 := sl0.trans st5
      obtain ⟨xσ6, st7, f6⟩ := SlO.freeze f6
      replace f2 := f2.step st7
      replace f3 := f3.step st7
      replace f5 := f5.step st7
      replace hc2 := hc2.step st7
      replace hc3 := hc3.step st7
      replace b := b.step st7
      replace hs := hs.trans st7
      replace sl0 := sl0.trans st7
      obtain ⟨q2, q⟩ := q
      refine SlO.appF f5 f6 rfl rfl q2.l q2.r rfl rfl (fun A2 c2 H_6 xσ5 st6 f5_ => ?_)
      replace f5 := f5_
      replace f2 := f2.step st6
      replace f3 := f3.step st6
      replace hc2 := hc2.step st6
      replace hc3 := hc3.step st6
      replace b := b.step st6
      replace f6 := f6.step st6
      replace hs := hs.trans st6
      replace sl0 := sl0.trans st6
      have f7 := f5; clear f5
      exact hnext ((t.1 ++ ([t.2] : List Int)), IntKind.i64.wrap (t.2 + 1)) _ _ ⟨_, _, _, _, sl0, rfl, rfl, f7⟩ q
    · exact hnext (t.1, IntKind.i64.wrap (t.2 + 1)) _ _ ⟨_, _, _, _, sl0, rfl, rfl, f5⟩ q
  · exact hk (Zt xσ) _ (hs.ext hσ) (hs.old hσ) _ (Yt xσ 1) (hs.fresh hσ) _ _ _ rfl f5 q
def decode_Find.C (p : Nat) (d : Int) (wrong : Int) (l : (List TPoint)) (K : (List Nat) → (List Int) → Bool → Prop) : Prop :=
  ∀ (Z : Nat → Prop) (H : Heap), ∀ (pv : Int), pv = (p : Int) → ∀ (lA : Option Addr) (ln lc : Nat), ln = l.length → SlF TPoint.L Z H lA lc l → ∀ KK : Value → Heap → Prop,
    (∀ (Z' : Nat → Prop) (H' : Heap), Ext H H' → Old Z H Z' → ∀ (r0 : (List Nat)), ∀ (Y0 : Nat → Prop), (∀ i, Y0 i → H.size ≤ i ∧ ¬ Z' i) → ∀ (Ar0_0 : Option Addr) (nr0_0 cr0_0 : Nat), nr0_0 = r0.length → SlO (rdM u64L) 22 Z' Y0 H' Ar0_0 cr0_0 r0 → ∀ (r1 : (List Int)), ∀ (Y1 : Nat → Prop), (∀ i, Y1 i → H.size ≤ i ∧ ¬ Z' i) → ∀ (Ar1_0 : Option Addr) (nr1_0 cr1_0 : Nat), nr1_0 = r1.length → SlO (rdM i64L) 3 Z' Y1 H' Ar1_0 cr1_0 r1 → ∀ (r2 : Bool), (∀ i, Y0 i → ¬ Y1 i) → K r0 r1 r2 → KK (.tuple #[.slice Ar0_0 nr0_0 cr0_0, .slice Ar1_0 nr1_0 cr1_0, .bool r2]) H') →
    CallH P N.decode_Find [.int .u64 pv, .int .i64 d, .int .i64 wrong, .slice lA ln lc] H KK
def decode_Find.Q (p : Nat) (d : Int) (wrong : Int) (l : (List TPoint)) (K : (List Nat) → (List Int) → Bool → Prop) : Prop :=
  LoopQ (τ := List (List Nat) × List Nat × Int) (([] : List (List Nat)), ([] : List Nat), 0) fun t nextQ =>
  cond (decide (t.2.2 < ((l.length : Nat) : Int))) (0 ≤ t.2.2 ∧ ∃ x : TPoint, l[Int.toNat t.2.2]? = some x ∧ LoopQ (τ := List Nat × Nat × Int) (([] : List Nat), 1, 0) fun t2 nextQ2 =>
  cond (decide (t2.2.2 < (IntKind.i64.wrap ((IntKind.i64.wrap (d + wrong)) + 1)))) (AppOk 8 (t2.1 ++ ([t2.2.1] : List Nat)).length ∧ field_Times.C p t2.2.1 x.X (fun (x3 : Nat) =>
  nextQ2 ((t2.1 ++ ([t2.2.1] : List Nat)), x3, IntKind.i64.wrap (t2.2.2 + 1))))
   (LoopQ (τ := List Nat × Nat × Int) (t2.1, x.Y, 0) fun t3 nextQ3 =>
  cond (decide (t3.2.2 < wrong)) (field_Minus.C p 0 t3.2.1 (fun (x5 : Nat) =>
  AppOk 8 (t3.1 ++ ([x5] : List Nat)).length ∧ field_Times.C p t3.2.1 x.X (fun (x6 : Nat) =>
  nextQ3 ((t3.1 ++ ([x5] : List Nat)), x6, IntKind.i64.wrap (t3.2.2 + 1)))))
   (AppOk 24 (t.1 ++ ([t3.1] : List (List Nat))).length ∧ AppOk 8 (t.2.1 ++ ([t3.2.1] : List Nat)).length ∧ nextQ ((t.1 ++ ([t3.1] : List (List Nat))), (t.2.1 ++ ([t3.2.1] : List Nat)), IntKind.i64.wrap (t.2.2 + 1)))))
   (matrix_Answer.C p t.1 t.2.1 (fun (r : (List Nat)) (r2 : Bool) =>
  cond (!r2) (K ([]) ([]) false)
   (0 ≤ (IntKind.i64.wrap ((IntKind.i64.wrap (d + wrong)) + 1)) ∧ (IntKind.i64.wrap ((IntKind.i64.wrap (d + wrong)) + 1)) ≤ ((r.length : Nat) : Int) ∧ 0 ≤ (IntKind.i64.wrap ((IntKind.i64.wrap (d + wrong)) + 1)) ∧ (IntKind.i64.wrap ((IntKind.i64.wrap (d + wrong)) + 1)) ≤ ((r.length : Nat) : Int) ∧ slices_Clone_uint64uint64.C (List.drop (Int.toNat (IntKind.i64.wrap ((IntKind.i64.wrap (d + wrong)) + 1))) r) (fun (x7 : (List Nat)) =>
  AppOk 8 (x7 ++ ([1] : List Nat)).length ∧ poly_Over.C p (List.take (Int.toNat (IntKind.i64.wrap ((IntKind.i64.wrap (d + wrong)) + 1))) r) (x7 ++ ([1] : List Nat)) (fun (r3 : (List Nat)) (r4 : (List Nat)) =>
  decode_off.C p r3 l (fun (x8 : (List Int)) =>
  cond (((r4.length : Nat) : Int) == 0) (cond (decide (((r3.length : Nat) : Int) ≤ (IntKind.i64.wrap (d + 1)))) (K r3 x8 (decide (((x8.length : Nat) : Int) ≤ wrong)))
   (K r3 x8 false))
   (K r3 x8 false)))))))
theorem decode_Find.q {p : Nat} {d : Int} {wrong : Int} {l : (List TPoint)} {K : (List Nat) → (List Int) → Bool → Prop} (q : decode_Find.Q p d wrong l K) : decode_Find.C p d wrong l K := by
  intro Z H pv he lA ln lc hn f KK hk
  cases he
  cases hn
  apply decode_Find.ok
  unfold decode_Find.W
  unfold decode_Find.Q at q
  obtain ⟨σ, hz, hσ⟩ := tags Z
  have hs : Stp ([1, 2, 3, 4, 5, 6, 7, 8, 9, 10, 11, 12, 13, 14, 15, 16, 17, 18, 19] : List Nat) σ H σ H := Stp.refl _ _ _
  replace f := f.wide hz
  clear hz
  have f2 := SlO.nil (rdM (slL u64L)) 30 (Zt σ) (Yt σ 1) H
  have f3 := SlO.nil (rdM u64L) 22 (Zt σ) (Yt σ 2) H
  refine LoopI.ofQ q (fun t_ s_ hp_ => ∃ (σ_ : Nat → Nat) (A0_ : Option Addr) (n0_ c0_ : Nat) (A1_ : Option Addr) (n1_ c1_ : Nat), Stp [1, 2, 3, 4, 5, 6, 7, 8] σ H σ_ hp_ ∧ ((A0_, n0_, c0_), (A1_, n1_, c1_), t_.2.2) = s_ ∧ n0_ = t_.1.length ∧ SlO (rdM (slL u64L)) 30 (Zt σ_) (Yt σ_ 1) hp_ A0_ c0_ t_.1 ∧ n1_ = t_.2.1.length ∧ SlO (rdM u64L) 22 (Zt σ_) (Yt σ_ 2) hp_ A1_ c1_ t_.2.1) (fun h k => h _ _ k) ⟨_, _, _, _, _, _, _, Stp.refl _ _ _, rfl, rfl, f2, rfl, f3⟩ ?_
  rintro t _ _ H_ next nextQ ⟨xσ, A, n, c, A2, n2, c2, st, rfl, rfl, f4, rfl, f5⟩ q hnext
  try dsimp only at q ⊢
  replace f := f.step st
  replace hs := hs.trans st
  have sl0 := st
  refine condI (fun q => ?_) (fun q => ?_) q
  · obtain ⟨h0, x, hx, q⟩ := q
    obtain ⟨a, ha, hi⟩ := f.addr h0 hx rfl
    refine ⟨a, ha, hi.1, hi.2, ?_⟩
    obtain ⟨cs, hr, hc⟩ := f.ldN (k := 2) rfl ha h0 hx
    cases hr
    have hc2 := hc 0 _ rfl
    have hc3 := hc 1 _ rfl
    refine ⟨_, _, hc2.val, hc3.val, ?_⟩
    refine NewH.mk fun H_2 e => ?_
    obtain ⟨xσ2, st2, b⟩ := BoxF.new xσ 3 e
    replace f := f.step st2
    replace f4 := f4.step st2
    replace f5 := f5.step st2
    replace hc2 := hc2.step st2
    replace hc3 := hc3.step st2
    replace hs := hs.trans st2
    replace sl0 := sl0.trans st2
    refine ⟨b.mayN 0 2 (show (2 : Nat) ≤ 2 by decide), NewH.mk fun H_3 e2 => ?_⟩
    obtain ⟨st3, b⟩ := b.wroteN 0 (vs := [_, _]) (show (2 : Nat) ≤ 2 by decide) e2
    simp only [List.take_zero, List.take_succ_cons, List.drop_zero, List.drop_succ_cons, List.drop_nil, List.length_cons, List.length_nil, List.cons_append, List.nil_append, List.append_nil, Nat.zero_add, Nat.reduceAdd] at b
    replace f := f.step st3
    replace f4 := f4.step st3
    replace f5 := f5.step st3
    replace hc2 := hc2.step st3
    replace hc3 := hc3.step st3
    replace hs := hs.trans st3
    replace sl0 := sl0.trans st3
    have f6 := SlO.nil (rdM u64L) 22 (Zt xσ2) (Yt xσ2 4) H_3
    refine LoopI.ofQ q (fun t_ s_ hp_ => ∃ (σ_ : Nat → Nat) (A0_ : Option Addr) (n0_ c0_ : Nat) (x1_ : Int), Stp [4, 5] xσ2 H_3 σ_ hp_ ∧ ((A0_, n0_, c0_), x1_, t_.2.2) = s_ ∧ n0_ = t_.1.length ∧ SlO (rdM u64L) 22 (Zt σ_) (Yt σ_ 4) hp_ A0_ c0_ t_.1 ∧ x1_ = ((t_.2.1 : Nat) : Int)) (fun h k => h _ _ k) ⟨_, _, _, _, _, Stp.refl _ _ _, rfl, rfl, f6, rfl⟩ ?_
    rintro t2 _ _ H_4 next2 nextQ2 ⟨xσ3, A3, n3, c3, x2, st4, rfl, rfl, f7, rfl⟩ q hnext2
    try dsimp only at q ⊢
    replace f := f.step st4
    replace f4 := f4.step st4
    replace f5 := f5.step st4
    replace hc2 := hc2.step st4
    replace hc3 := hc3.step st4
    replace b := b.step st4
    replace hs := hs.trans st4
    replace sl0 := sl0.trans st4
    have sl1 := st4
    refine condI (fun q => ?_) (fun q => ?_) q
    · refine NewH.mk fun H_5 e3 => ?_
      obtain ⟨xσ4, st5, f8⟩ := SlO.lit (E := u64L) xσ3 5 (xs := [t2.2.1]) (l := [[_]]) e3 rfl (.cons rfl .nil) (show (1 : Nat) ≤ 17592186044416 by decide)
      replace f := f.step st5
      replace f4 := f4.step st5
      replace f5 := f5.step st5
      replace hc2 := hc2.step st5
      replace hc3 := hc3.step st5
      replace b := b.step st5
      replace f7 := f7.step st5
      replace hs := hs.trans st5
      replace sl0 := sl0.trans st5
      replace sl1 := sl1.trans st5
      obtain ⟨xσ6, st7, f8⟩ := SlO.freeze f8
      replace f := f.step st7
      replace f4 := f4.step st7
      replace f5 := f5.step st7
      replace hc2 := hc2.step st7
      replace hc3 := hc3.step st7
      replace b := b.step st7
      replace f7 := f7.step st7
      replace hs := hs.trans st7
      replace sl0 := sl0.trans st7
      replace sl1 := sl1.trans st7
      obtain ⟨q2, q⟩ := q
      refine SlO.appF f7 f8 rfl rfl q2.l q2.r rfl rfl (fun A4 c4 H_6 xσ5 st6 f7_ => ?_)
      replace f7 := f7_
      replace f := f.step st6
      replace f4 := f4.step st6
      replace f5 := f5.step st6
      replace hc2 := hc2.step st6
      replace hc3 := hc3.step st6
      replace b := b.step st6
      replace f8 := f8.step st6
      replace hs := hs.trans st6
      replace sl0 := sl0.trans st6
      replace sl1 := sl1.trans st6
      have f9 := f7; clear f7
      refine ⟨_, b.cell0, ?_⟩
      refine q (Zt xσ5) H_6 _ rfl _ rfl _ rfl _ (fun Z2 H_7 hE hO x3 v he2 q => ?_)
      obtain ⟨xσ7, st8⟩ := call0 hE xσ5
      cases he2
      replace f := f.step st8
      replace f4 := f4.step st8
      replace f5 := f5.step st8
      replace hc2 := hc2.step st8
      replace hc3 := hc3.step st8
      replace b := b.step st8
      replace f8 := f8.step st8
      replace f9 := f9.step st8
      replace hs := hs.trans st8
      replace sl0 := sl0.trans st8
      replace sl1 := sl1.trans st8
      refine ⟨_, rfl, ?_⟩
      exact hnext2 ((t2.1 ++ ([t2.2.1] : List Nat)), x3, IntKind.i64.wrap (t2.2.2 + 1)) _ _ ⟨_, _, _, _, _, sl1, rfl, rfl, f9, rfl⟩ q
    · refine ⟨_, b.cell 1 rfl, ?_⟩
      refine LoopI.ofQ q (fun t_ s_ hp_ => ∃ (σ_ : Nat → Nat) (A0_ : Option Addr) (n0_ c0_ : Nat) (x1_ : Int), Stp [4, 6] xσ3 H_4 σ_ hp_ ∧ ((A0_, n0_, c0_), x1_, t_.2.2) = s_ ∧ n0_ = t_.1.length ∧ SlO (rdM u64L) 22 (Zt σ_) (Yt σ_ 4) hp_ A0_ c0_ t_.1 ∧ x1_ = ((t_.2.1 : Nat) : Int)) (fun h k => h _ _ k) ⟨_, _, _, _, _, Stp.refl _ _ _, rfl, rfl, f7, rfl⟩ ?_
      rintro t3 _ _ H_8 next3 nextQ3 ⟨xσ8, A5, n4, c5, x4, st9, rfl, rfl, f10, rfl⟩ q hnext3
      try dsimp only at q ⊢
      replace f := f.step st9
      replace f4 := f4.step st9
      replace f5 := f5.step st9
      replace hc2 := hc2.step st9
      replace hc3 := hc3.step st9
      replace b := b.step st9
      replace hs := hs.trans st9
      replace sl0 := sl0.trans st9
      have sl2 := st9
      refine condI (fun q => ?_) (fun q => ?_) q
      · refine q (Zt xσ8) H_8 _ rfl _ rfl _ rfl _ (fun Z3 H_9 hE2 hO2 x5 v2 he3 q => ?_)
        obtain ⟨xσ9, st10⟩ := call0 hE2 xσ8
        cases he3
        replace f := f.step st10
        replace f4 := f4.step st10
        replace f5 := f5.step st10
        replace hc2 := hc2.step st10
        replace hc3 := hc3.step st10
        replace b := b.step st10
        replace f10 := f10.step st10
        replace hs := hs.trans st10
        replace sl0 := sl0.trans st10
        replace sl2 := sl2.trans st10
        refine ⟨_, rfl, ?_⟩
        refine NewH.mk fun H_10 e4 => ?_
        obtain ⟨xσ10, st11, f11⟩ := SlO.lit (E := u64L) xσ9 6 (xs := [x5]) (l := [[_]]) e4 rfl (.cons rfl .nil) (show (1 : Nat) ≤ 17592186044416 by decide)
        replace f := f.step st11
        replace f4 := f4.step st11
        replace f5 := f5.step st11
        replace hc2 := hc2.step st11
        replace hc3 := hc3.step st11
        replace b := b.step st11
        replace f10 := f10.step st11
        replace hs := hs.trans st11
        replace sl0 := sl0.trans st11
        replace sl2 := sl2.trans st11
        obtain ⟨xσ12, st13, f11⟩ := SlO.freeze f11
        replace f := f.step st13
        replace f4 := f4.step st13
        replace f5 := f5.step st13
        replace hc2 := hc2.step st13
        replace hc3 := hc3.step st13
        replace b := b.step st13
        replace f10 := f10.step st13
        replace hs := hs.trans st13
        replace sl0 := sl0.trans st13
        replace sl2 := sl2.trans st13
        obtain ⟨q3, q⟩ := q
        refine SlO.appF f10 f11 rfl rfl q3.l q3.r rfl rfl (fun A6 c6 H_11 xσ11 st12 f10_ => ?_)
        replace f10 := f10_
        replace f := f.step st12
        replace f4 := f4.step st12
        replace f5 := f5.step st12
        replace hc2 := hc2.step st12
        replace hc3 := hc3.step st12
        replace b := b.step st12
        replace f11 := f11.step st12
        replace hs := hs.trans st12
        replace sl0 := sl0.trans st12
        replace sl2 := sl2.trans st12
        have f12 := f10; clear f10
        refine ⟨_, b.cell0, ?_⟩
        refine q (Zt xσ11) H_11 _ rfl _ rfl _ rfl _ (fun Z4 H_12 hE3 hO3 x6 v3 he4 q => ?_)
        obtain ⟨xσ13, st14⟩ := call0 hE3 xσ11
        cases he4
        replace f := f.step st14
        replace f4 := f4.step st14
        replace f5 := f5.step st14
        replace hc2 := hc2.step st14
        replace hc3 := hc3.step st14
        replace b := b.step st14
        replace f11 := f11.step st14
        replace f12 := f12.step st14
        replace hs := hs.trans st14
        replace sl0 := sl0.trans st14
        replace sl2 := sl2.trans st14
        refine ⟨_, rfl, ?_⟩
        exact hnext3 ((t3.1 ++ ([x5] : List Nat)), x6, IntKind.i64.wrap (t3.2.2 + 1)) _ _ ⟨_, _, _, _, _, sl2, rfl, rfl, f12, rfl⟩ q
      · obtain ⟨xσ14, st15, f10⟩ := SlO.freeze f10
        replace f := f.step st15
        replace f4 := f4.step st15
        replace f5 := f5.step st15
        replace hc2 := hc2.step st15
        replace hc3 := hc3.step st15
        replace b := b.step st15
        replace hs := hs.trans st15
        replace sl0 := sl0.trans st15
        refine NewH.mk fun H_13 e5 => ?_
        obtain ⟨xσ15, st16, f13⟩ := SlO.lit (E := (slL u64L)) xσ14 7 (xs := [t3.1]) (l := [[_]]) e5 rfl (.cons (slL_rep rfl f10) .nil) (show (1 : Nat) ≤ 17592186044416 by decide)
        replace f := f.step st16
        replace f4 := f4.step st16
        replace f5 := f5.step st16
        replace hc2 := hc2.step st16
        replace hc3 := hc3.step st16
        replace b := b.step st16
        replace f10 := f10.step st16
        replace hs := hs.trans st16
        replace sl0 := sl0.trans st16
        obtain ⟨xσ17, st18, f13⟩ := SlO.freeze f13
        replace f := f.step st18
        replace f4 := f4.step st18
        replace f5 := f5.step st18
        replace hc2 := hc2.step st18
        replace hc3 := hc3.step st18
        replace b := b.step st18
        replace f10 := f10.step st18
        replace hs := hs.trans st18
        replace sl0 := sl0.trans st18
        obtain ⟨q4, q⟩ := q
        refine SlO.appF f4 f13 rfl rfl q4.l q4.r rfl rfl (fun A7 c7 H_14 xσ16 st17 f4_ => ?_)
        replace f4 := f4_
        replace f := f.step st17
        replace f5 := f5.step st17
        replace hc2 := hc2.step st17
        replace hc3 := hc3.step st17
        replace b := b.step st17
        replace f10 := f10.step st17
        replace f13 := f13.step st17
        replace hs := hs.trans st17
        replace sl0 := sl0.trans st17
        have f14 := f4; clear f4
        refine NewH.mk fun H_15 e6 => ?_
        obtain ⟨xσ18, st19, f15⟩ := SlO.lit (E := u64L) xσ16 8 (xs := [t3.2.1]) (l := [[_]]) e6 rfl (.cons rfl .nil) (show (1 : Nat) ≤ 17592186044416 by decide)
        replace f := f.step st19
        replace f5 := f5.step st19
        replace hc2 := hc2.step st19
        replace hc3 := hc3.step st19
        replace b := b.step st19
        replace f10 := f10.step st19
        replace f13 := f13.step st19
        replace f14 := f14.step st19
        replace hs := hs.trans st19
        replace sl0 := sl0.trans st19
        obtain ⟨xσ20, st21, f15⟩ := SlO.freeze f15
        replace f := f.step st21
        replace f5 := f5.step st21
        replace hc2 := hc2.step st21
        replace hc3 := hc3.step st21
        replace b := b.step st21
        replace f10 := f10.step st21
        replace f13 := f13.step st21
        replace f14 := f14.step st21
        replace hs := hs.trans st21
        replace sl0 := sl0.trans st21
        obtain ⟨q5, q⟩ := q
        refine SlO.appF f5 f15 rfl rfl q5.l q5.r rfl rfl (fun A8 c8 H_16 xσ19 st20 f5_ => ?_)
        replace f5 := f5_
        replace f := f.step st20
        replace hc2 := hc2.step st20
        replace hc3 := hc3.step st20
        replace b := b.step st20
        replace f10 := f10.step st20
        replace f13 := f13.step st20
        replace f14 := f14.step st20
        replace f15 := f15.step st20
        replace hs := hs.trans st20
        replace sl0 := sl0.trans st20
        have f16 := f5; clear f5
        exact hnext ((t.1 ++ ([t3.1] : List (List Nat))), (t.2.1 ++ ([t3.2.1] : List Nat)), IntKind.i64.wrap (t.2.2 + 1)) _ _ ⟨_, _, _, _, _, _, _, sl0, rfl, rfl, f14, rfl, f16⟩ q
  · refine q (fun i => xσ i = 0 ∨ xσ i = 1 ∨ xσ i = 2) H_ _ rfl _ _ _ rfl (f4.read (fun i h => .inl h) (fun i h => .inr (.inl h))) _ _ _ rfl (f5.read (fun i h => .inl h) (fun i h => .inr (.inr (h)))) _ (fun Z5 H_17 hE4 hO4 r Y hY A9 n5 c9 hn2 f17 r2 q => ?_)
    obtain ⟨xσ21, st22, fy⟩ := callB1 hE4 hO4 xσ 9 hY
    replace f17 := (SlO.anyZ (Z' := Zt xσ21) u64_flatL f17).keep (Fr.refl _ _) fy
    cases hn2
    replace f := f.step st22
    replace f4 := f4.step st22
    replace f5 := f5.step st22
    replace hs := hs.trans st22
    refine ⟨_, _, _, _, rfl, ?_⟩
    refine condI (fun q => ?_) (fun q => ?_) q
    · exact hk (Zt xσ21) _ (hs.ext hσ) (hs.old hσ) _ (fun _ => False) (fun _ h => h.elim) _ _ _ rfl (SlO.nil _ _ _ _ _) _ (fun _ => False) (fun _ h => h.elim) _ _ _ rfl (SlO.nil _ _ _ _ _) _ (fun _ h => h.elim) q
    · obtain ⟨xσ22, st23, f17⟩ := SlO.freeze f17
      replace f := f.step st23
      replace f4 := f4.step st23
      replace f5 := f5.step st23
      replace hs := hs.trans st23
      obtain ⟨q6, q7, q⟩ := q
      have f18 := f17.upto (u := Int.toNat (IntKind.i64.wrap ((IntKind.i64.wrap (d + wrong)) + 1))) (upto_le rfl q7)
      refine ⟨q6, cap_le rfl f17.cap q7, ?_⟩
      obtain ⟨q8, q9, q⟩ := q
      have f19 := f17.from (l := Int.toNat (IntKind.i64.wrap ((IntKind.i64.wrap (d + wrong)) + 1))) (k := 1) (upto_le rfl q9) rfl
      refine ⟨q8, q9, ?_⟩
      refine ⟨?_, ?_⟩
      · refine q (Zt xσ22) H_17 _ _ _ (drop_len rfl) f19 _ (fun Z6 H_18 hE5 hO5 x7 Y2 hY2 A10 n6 c10 hn3 f20 q => ?_)
        obtain ⟨xσ23, st24, fz5, fy2⟩ := call1 hE5 hO5 xσ22 10 (fun _ h => h) hY2
        replace f20 := f20.keep fz5 fy2
        cases hn3
        replace f := f.step st24
        replace f4 := f4.step st24
        replace f5 := f5.step st24
        replace f17 := f17.step st24
        replace f18 := f18.step st24
        replace f19 := f19.step st24
        replace hs := hs.trans st24
        refine ⟨_, _, _, rfl, ?_⟩
        refine NewH.mk fun H_19 e7 => ?_
        obtain ⟨xσ24, st25, f21⟩ := SlO.lit (E := u64L) xσ23 11 (xs := [1]) (l := [[_]]) e7 rfl (.cons rfl .nil) (show (1 : Nat) ≤ 17592186044416 by decide)
        replace f := f.step st25
        replace f4 := f4.step st25
        replace f5 := f5.step st25
        replace f17 := f17.step st25
        replace f18 := f18.step st25
        replace f19 := f19.step st25
        replace f20 := f20.step st25
        replace hs := hs.trans st25
        obtain ⟨xσ26, st27, f21⟩ := SlO.freeze f21
        replace f := f.step st27
        replace f4 := f4.step st27
        replace f5 := f5.step st27
        replace f17 := f17.step st27
        replace f18 := f18.step st27
        replace f19 := f19.step st27
        replace f20 := f20.step st27
        replace hs := hs.trans st27
        obtain ⟨q10, q⟩ := q
        refine SlO.appF f20 f21 rfl rfl q10.l q10.r rfl rfl (fun A11 c11 H_20 xσ25 st26 f20_ => ?_)
        replace f20 := f20_
        replace f := f.step st26
        replace f4 := f4.step st26
        replace f5 := f5.step st26
        replace f17 := f17.step st26
        replace f18 := f18.step st26
        replace f19 := f19.step st26
        replace f21 := f21.step st26
        replace hs := hs.trans st26
        have f22 := f20; clear f20
        refine q (fun i => xσ25 i = 0 ∨ xσ25 i = 10) H_20 _ rfl _ _ _ (take_len rfl q7) (f18.wide (fun i h => .inl h)) _ _ _ rfl (f22.read (fun i h => .inl h) (fun i h => .inr (h))) _ (fun Z7 H_21 hE6 hO6 r3 Y3 hY3 A12 n7 c12 hn4 f23 r4 Y4 hY4 A13 n8 c13 hn5 f24 hY5 q => ?_)
        obtain ⟨xσ27, st28, fy3, fy4⟩ := callB2 hE6 hO6 xσ25 12 13 hY3 hY4 hY5
        replace f23 := (SlO.anyZ (Z' := Zt xσ27) u64_flatL f23).keep (Fr.refl _ _) fy3
        replace f24 := (SlO.anyZ (Z' := Zt xσ27) u64_flatL f24).keep (Fr.refl _ _) fy4
        cases hn4
        cases hn5
        replace f := f.step st28
        replace f4 := f4.step st28
        replace f5 := f5.step st28
        replace f17 := f17.step st28
        replace f18 := f18.step st28
        replace f19 := f19.step st28
        replace f21 := f21.step st28
        replace f22 := f22.step st28
        replace hs := hs.trans st28
        refine ⟨_, _, _, _, _, _, rfl, ?_⟩
        refine q (fun i => xσ27 i = 0 ∨ xσ27 i = 12) H_21 _ rfl _ _ _ rfl (f23.read (fun i h => .inl h) (fun i h => .inr (h))) _ _ _ rfl (f.wide (fun i h => .inl h)) _ (fun Z8 H_22 hE7 hO7 x8 Y5 hY6 A14 n9 c14 hn6 f25 q => ?_)
        obtain ⟨xσ28, st29, fy5⟩ := callB1 hE7 hO7 xσ27 14 hY6
        replace f25 := (SlO.anyZ (Z' := Zt xσ28) i64_flatL f25).keep (Fr.refl _ _) fy5
        cases hn6
        replace f := f.step st29
        replace f4 := f4.step st29
        replace f5 := f5.step st29
        replace f17 := f17.step st29
        replace f18 := f18.step st29
        replace f19 := f19.step st29
        replace f21 := f21.step st29
        replace f22 := f22.step st29
        replace f23 := f23.step st29
        replace f24 := f24.step st29
        replace hs := hs.trans st29
        refine ⟨_, _, _, rfl, ?_⟩
        refine condI (fun q => ?_) (fun q => ?_) q
        · refine condI (fun q => ?_) (fun q => ?_) q
          · exact hk (Zt xσ28) _ (hs.ext hσ) (hs.old hσ) _ (Yt xσ28 12) (hs.fresh hσ) _ _ _ rfl f23 _ (Yt xσ28 14) (hs.fresh hσ) _ _ _ rfl f25 _ Yt.apart q
          · exact hk (Zt xσ28) _ (hs.ext hσ) (hs.old hσ) _ (Yt xσ28 12) (hs.fresh hσ) _ _ _ rfl f23 _ (Yt xσ28 14) (hs.fresh hσ) _ _ _ rfl f25 _ Yt.apart q
        · exact hk (Zt xσ28) _ (hs.ext hσ) (hs.old hσ) _ (Yt xσ28 12) (hs.fresh hσ) _ _ _ rfl f23 _ (Yt xσ28 14) (hs.fresh hσ) _ _ _ rfl f25 _ Yt.apart q
      · refine NewH.mk fun H_18 e7 => ?_
        obtain ⟨xσ23, st24, f20⟩ := SlO.lit (E := u64L) xσ22 15 (xs := [1]) (l := [[_]]) e7 rfl (.cons rfl .nil) (show (1 : Nat) ≤ 17592186044416 by decide)
        replace f := f.step st24
        replace f4 := f4.step st24
        replace f5 := f5.step st24
        replace f17 := f17.step st24
        replace f18 := f18.step st24
        replace f19 := f19.step st24
        replace hs := hs.trans st24
        refine q (Zt xσ23) H_18 _ _ _ (drop_len rfl) f19 _ (fun Z6 H_19 hE5 hO5 x7 Y2 hY2 A10 n6 c10 hn3 f21 q => ?_)
        obtain ⟨xσ24, st25, fz5, fy2⟩ := call1 hE5 hO5 xσ23 16 (fun _ h => h) hY2
        replace f21 := f21.keep fz5 fy2
        cases hn3
        replace f := f.step st25
        replace f4 := f4.step st25
        replace f5 := f5.step st25
        replace f17 := f17.step st25
        replace f18 := f18.step st25
        replace f19 := f19.step st25
        replace f20 := f20.step st25
        replace hs := hs.trans st25
        refine ⟨_, _, _, rfl, ?_⟩
        obtain ⟨xσ26, st27, f20⟩ := SlO.freeze f20
        replace f := f.step st27
        replace f4 := f4.step st27
        replace f5 := f5.step st27
        replace f17 := f17.step st27
        replace f18 := f18.step st27
        replace f19 := f19.step st27
        replace f21 := f21.step st27
        replace hs := hs.trans st27
        obtain ⟨q10, q⟩ := q
        refine SlO.appF f21 f20 rfl rfl q10.l q10.r rfl rfl (fun A11 c11 H_20 xσ25 st26 f21_ => ?_)
        replace f21 := f21_
        replace f := f.step st26
        replace f4 := f4.step st26
        replace f5 := f5.step st26
        replace f17 := f17.step st26
        replace f18 := f18.step st26
        replace f19 := f19.step st26
        replace f20 := f20.step st26
        replace hs := hs.trans st26
        have f22 := f21; clear f21
        refine q (fun i => xσ25 i = 0 ∨ xσ25 i = 16) H_20 _ rfl _ _ _ (take_len rfl q7) (f18.wide (fun i h => .inl h)) _ _ _ rfl (f22.read (fun i h => .inl h) (fun i h => .inr (h))) _ (fun Z7 H_21 hE6 hO6 r3 Y3 hY3 A12 n7 c12 hn4 f23 r4 Y4 hY4 A13 n8 c13 hn5 f24 hY5 q => ?_)
        obtain ⟨xσ27, st28, fy3, fy4⟩ := callB2 hE6 hO6 xσ25 17 18 hY3 hY4 hY5
        replace f23 := (SlO.anyZ (Z' := Zt xσ27) u64_flatL f23).keep (Fr.refl _ _) fy3
        replace f24 := (SlO.anyZ (Z' := Zt xσ27) u64_flatL f24).keep (Fr.refl _ _) fy4
        cases hn4
        cases hn5
        replace f := f.step st28
        replace f4 := f4.step st28
        replace f5 := f5.step st28
        replace f17 := f17.step st28
        replace f18 := f18.step st28
        replace f19 := f19.step st28
        replace f20 := f20.step st28
        replace f22 := f22.step st28
        replace hs := hs.trans st28
        refine ⟨_, _, _, _, _, _, rfl, ?_⟩
        refine q (fun i => xσ27 i = 0 ∨ xσ27 i = 17) H_21 _ rfl _ _ _ rfl (f23.read (fun i h => .inl h) (fun i h => .inr (h))) _ _ _ rfl (f.wide (fun i h => .inl h)) _ (fun Z8 H_22 hE7 hO7 x8 Y5 hY6 A14 n9 c14 hn6 f25 q => ?_)
        obtain ⟨xσ28, st29, fy5⟩ := callB1 hE7 hO7 xσ27 19 hY6
        replace f25 := (SlO.anyZ (Z' := Zt xσ28) i64_flatL f25).keep (Fr.refl _ _) fy5
        cases hn6
        replace f := f.step st29
        replace f4 := f4.step st29
        replace f5 := f5.step st29
        replace f17 := f17.step st29
        replace f18 := f18.step st29
        replace f19 := f19.step st29
        replace f20 := f20.step st29
        replace f22 := f22.step st29
        replace f23 := f23.step st29
        replace f24 := f24.step st29
        replace hs := hs.trans st29
        refine ⟨_, _, _, rfl, ?_⟩
        refine condI (fun q => ?_) (fun q => ?_) q
        · refine condI (fun q => ?_) (fun q => ?_) q
          · exact hk (Zt xσ28) _ (hs.ext hσ) (hs.old hσ) _ (Yt xσ28 17) (hs.fresh hσ) _ _ _ rfl f23 _ (Yt xσ28 19) (hs.fresh hσ) _ _ _ rfl f25 _ Yt.apart q
          · exact hk (Zt xσ28) _ (hs.ext hσ) (hs.old hσ) _ (Yt xσ28 17) (hs.fresh hσ) _ _ _ rfl f23 _ (Yt xσ28 19) (hs.fresh hσ) _ _ _ rfl f25 _ Yt.apart q
        · exact hk (Zt xσ28) _ (hs.ext hσ) (hs.old hσ) _ (Yt xσ28 17) (hs.fresh hσ) _ _ _ rfl f23 _ (Yt xσ28 19) (hs.fresh hσ) _ _ _ rfl f25 _ Yt.apart q
def decode_Decode.C (p : Nat) (d : Int) (wrong : Int) (l : (List TPoint)) (K : (List Nat) → (List Int) → Int → Prop) : Prop :=
  ∀ (Z : Nat → Prop) (H : Heap), ∀ (pv : Int), pv = (p : Int) → ∀ (lA : Option Addr) (ln lc : Nat), ln = l.length → SlF TPoint.L Z H lA lc l → ∀ KK : Value → Heap → Prop,
    (∀ (Z' : Nat → Prop) (H' : Heap), Ext H H' → Old Z H Z' → ∀ (r0 : (List Nat)), ∀ (Y0 : Nat → Prop), (∀ i, Y0 i → H.size ≤ i ∧ ¬ Z' i) → ∀ (Ar0_0 : Option Addr) (nr0_0 cr0_0 : Nat), nr0_0 = r0.length → SlO (rdM u64L) 22 Z' Y0 H' Ar0_0 cr0_0 r0 → ∀ (r1 : (List Int)), ∀ (Y1 : Nat → Prop), (∀ i, Y1 i → H.size ≤ i ∧ ¬ Z' i) → ∀ (Ar1_0 : Option Addr) (nr1_0 cr1_0 : Nat), nr1_0 = r1.length → SlO (rdM i64L) 3 Z' Y1 H' Ar1_0 cr1_0 r1 → ∀ (r2 : Int), (∀ i, Y0 i → ¬ Y1 i) → K r0 r1 r2 → KK (.tuple #[.slice Ar0_0 nr0_0 cr0_0, .slice Ar1_0 nr1_0 cr1_0, .int .i64 r2]) H') →
    CallH P N.decode_Decode [.int .u64 pv, .int .i64 d, .int .i64 wrong, .slice lA ln lc] H KK
def decode_Decode.Q (p : Nat) (d : Int) (wrong : Int) (l : (List TPoint)) (K : (List Nat) → (List Int) → Int → Prop) : Prop :=
  decode_Check.C p d l (fun (x : Int) =>
  cond (x != 0) (K ([]) ([]) x)
   (decode_Most.C ((l.length : Nat) : Int) d (fun (x2 : Int) =>
  cond (decide (wrong < 0)) (K ([]) ([]) 2)
   (cond (decide (wrong > x2)) (K ([]) ([]) 11)
   (decode_Find.C p d wrong l (fun (r : (List Nat)) (r2 : (List Int)) (r3 : Bool) =>
  cond (!r3) (K ([]) ([]) 12)
   (K r r2 0)))))))
theorem decode_Decode.q {p : Nat} {d : Int} {wrong : Int} {l : (List TPoint)} {K : (List Nat) → (List Int) → Int → Prop} (q : decode_Decode.Q p d wrong l K) : decode_Decode.C p d wrong l K := by
  intro Z H pv he lA ln lc hn f KK hk
  cases he
  cases hn
  apply decode_Decode.ok
  unfold decode_Decode.W
  unfold decode_Decode.Q at q
  obtain ⟨σ, hz, hσ⟩ := tags Z
  have hs : Stp ([1, 2] : List Nat) σ H σ H := Stp.refl _ _ _
  replace f := f.wide hz
  clear hz
  refine q (Zt σ) H _ rfl _ _ _ rfl f _ (fun Z2 H_ hE hO x q => ?_)
  obtain ⟨xσ, st⟩ := call0 hE σ
  replace f := f.step st
  replace hs := hs.trans st
  refine ⟨_, rfl, ?_⟩
  refine condI (fun q => ?_) (fun q => ?_) q
  · exact hk (Zt xσ) _ (hs.ext hσ) (hs.old hσ) _ (fun _ => False) (fun _ h => h.elim) _ _ _ rfl (SlO.nil _ _ _ _ _) _ (fun _ => False) (fun _ h => h.elim) _ _ _ rfl (SlO.nil _ _ _ _ _) _ (fun _ h => h.elim) q
  · refine q (Zt xσ) H_  _ (fun Z3 H_2 hE2 hO2 x2 q => ?_)
    obtain ⟨xσ2, st2⟩ := call0 hE2 xσ
    replace f := f.step st2
    replace hs := hs.trans st2
    refine ⟨_, rfl, ?_⟩
    refine condI (fun q => ?_) (fun q => ?_) q
    · exact hk (Zt xσ2) _ (hs.ext hσ) (hs.old hσ) _ (fun _ => False) (fun _ h => h.elim) _ _ _ rfl (SlO.nil _ _ _ _ _) _ (fun _ => False) (fun _ h => h.elim) _ _ _ rfl (SlO.nil _ _ _ _ _) _ (fun _ h => h.elim) q
    · refine condI (fun q => ?_) (fun q => ?_) q
      · exact hk (Zt xσ2) _ (hs.ext hσ) (hs.old hσ) _ (fun _ => False) (fun _ h => h.elim) _ _ _ rfl (SlO.nil _ _ _ _ _) _ (fun _ => False) (fun _ h => h.elim) _ _ _ rfl (SlO.nil _ _ _ _ _) _ (fun _ h => h.elim) q
      · refine q (Zt xσ2) H_2 _ rfl _ _ _ rfl f _ (fun Z4 H_3 hE3 hO3 r Y hY A n c hn2 f2 r2 Y2 hY2 A2 n2 c2 hn3 f3 r3 hY3 q => ?_)
        obtain ⟨xσ3, st3, fz3, fy, fy2⟩ := call2 hE3 hO3 xσ2 1 2 (fun _ h => h) hY hY2 hY3
        replace f2 := f2.keep fz3 fy
        replace f3 := f3.keep fz3 fy2
        cases hn2
        cases hn3
        replace f := f.step st3
        replace hs := hs.trans st3
        refine ⟨_, _, _, _, _, _, _, rfl, ?_⟩
        refine condI (fun q => ?_) (fun q => ?_) q
        · exact hk (Zt xσ3) _ (hs.ext hσ) (hs.old hσ) _ (fun _ => False) (fun _ h => h.elim) _ _ _ rfl (SlO.nil _ _ _ _ _) _ (fun _ => False) (fun _ h => h.elim) _ _ _ rfl (SlO.nil _ _ _ _ _) _ (fun _ h => h.elim) q
        · exact hk (Zt xσ3) _ (hs.ext hσ) (hs.old hσ) _ (Yt xσ3 1) (hs.fresh hσ) _ _ _ rfl f2 _ (Yt xσ3 2) (hs.fresh hσ) _ _ _ rfl f3 _ Yt.apart q
def decode_Best.C (p : Nat) (d : Int) (l : (List TPoint)) (K : (List Nat) → (List Int) → Int → Prop) : Prop :=
  ∀ (Z : Nat → Prop) (H : Heap), ∀ (pv : Int), pv = (p : Int) → ∀ (lA : Option Addr) (ln lc : Nat), ln = l.length → SlF TPoint.L Z H lA lc l → ∀ KK : Value → Heap → Prop,
    (∀ (Z' : Nat → Prop) (H' : Heap), Ext H H' → Old Z H Z' → ∀ (r0 : (List Nat)), ∀ (Y0 : Nat → Prop), (∀ i, Y0 i → H.size ≤ i ∧ ¬ Z' i) → ∀ (Ar0_0 : Option Addr) (nr0_0 cr0_0 : Nat), nr0_0 = r0.length → SlO (rdM u64L) 22 Z' Y0 H' Ar0_0 cr0_0 r0 → ∀ (r1 : (List Int)), ∀ (Y1 : Nat → Prop), (∀ i, Y1 i → H.size ≤ i ∧ ¬ Z' i) → ∀ (Ar1_0 : Option Addr) (nr1_0 cr1_0 : Nat), nr1_0 = r1.length → SlO (rdM i64L) 3 Z' Y1 H' Ar1_0 cr1_0 r1 → ∀ (r2 : Int), (∀ i, Y0 i → ¬ Y1 i) → K r0 r1 r2 → KK (.tuple #[.slice Ar0_0 nr0_0 cr0_0, .slice Ar1_0 nr1_0 cr1_0, .int .i64 r2]) H') →
    CallH P N.decode_Best [.int .u64 pv, .int .i64 d, .slice lA ln lc] H KK
def decode_Best.Q (p : Nat) (d : Int) (l : (List TPoint)) (K : (List Nat) → (List Int) → Int → Prop) : Prop :=
  decode_Check.C p d l (fun (x : Int) =>
  cond (x != 0) (K ([]) ([]) x)
   (decode_Most.C ((l.length : Nat) : Int) d (fun (x2 : Int) =>
  cond (decide (x2 < 0)) (K ([]) ([]) 11)
   (decode_Decode.C p d x2 l (fun (r : (List Nat)) (r2 : (List Int)) (r3 : Int) =>
  K r r2 r3)))))
theorem decode_Best.q {p : Nat} {d : Int} {l : (List TPoint)} {K : (List Nat) → (List Int) → Int → Prop} (q : decode_Best.Q p d l K) : decode_Best.C p d l K := by
  intro Z H pv he lA ln lc hn f KK hk
  cases he
  cases hn
  apply decode_Best.ok
  unfold decode_Best.W
  unfold decode_Best.Q at q
  obtain ⟨σ, hz, hσ⟩ := tags Z
  have hs : Stp ([1, 2] : List Nat) σ H σ H := Stp.refl _ _ _
  replace f := f.wide hz
  clear hz
  refine q (Zt σ) H _ rfl _ _ _ rfl f _ (fun Z2 H_ hE hO x q => ?_)
  obtain ⟨xσ, st⟩ := call0 hE σ
  replace f := f.step st
  replace hs := hs.trans st
  refine ⟨_, rfl, ?_⟩
  refine condI (fun q => ?_) (fun q => ?_) q
  · exact hk (Zt xσ) _ (hs.ext hσ) (hs.old hσ) _ (fun _ => False) (fun _ h => h.elim) _ _ _ rfl (SlO.nil _ _ _ _ _) _ (fun _ => False) (fun _ h => h.elim) _ _ _ rfl (SlO.nil _ _ _ _ _) _ (fun _ h => h.elim) q
  · refine q (Zt xσ) H_  _ (fun Z3 H_2 hE2 hO2 x2 q => ?_)
    obtain ⟨xσ2, st2⟩ := call0 hE2 xσ
    replace f := f.step st2
    replace hs := hs.trans st2
    refine ⟨_, rfl, ?_⟩
    refine condI (fun q => ?_) (fun q => ?_) q
    · exact hk (Zt xσ2) _ (hs.ext hσ) (hs.old hσ) _ (fun _ => False) (fun _ h => h.elim) _ _ _ rfl (SlO.nil _ _ _ _ _) _ (fun _ => False) (fun _ h => h.elim) _ _ _ rfl (SlO.nil _ _ _ _ _) _ (fun _ h => h.elim) q
    · refine q (Zt xσ2) H_2 _ rfl _ _ _ rfl f _ (fun Z4 H_3 hE3 hO3 r Y hY A n c hn2 f2 r2 Y2 hY2 A2 n2 c2 hn3 f3 r3 hY3 q => ?_)
      obtain ⟨xσ3, st3, fz3, fy, fy2⟩ := call2 hE3 hO3 xσ2 1 2 (fun _ h => h) hY hY2 hY3
      replace f2 := f2.keep fz3 fy
      replace f3 := f3.keep fz3 fy2
      cases hn2
      cases hn3
      replace f := f.step st3
      replace hs := hs.trans st3
      refine ⟨_, _, _, _, _, _, _, rfl, ?_⟩
      exact hk (Zt xσ3) _ (hs.ext hσ) (hs.old hσ) _ (Yt xσ3 1) (hs.fresh hσ) _ _ _ rfl f2 _ (Yt xσ3 2) (hs.fresh hσ) _ _ _ rfl f3 _ Yt.apart q
def decode_Gaps.C (p : Nat) (d : Int) (l : (List TPoint)) (there : (List Bool)) (K : (List Nat) → (List Int) → Int → Prop) : Prop :=
  ∀ (Z : Nat → Prop) (H : Heap), ∀ (pv : Int), pv = (p : Int) → ∀ (lA : Option Addr) (ln lc : Nat), ln = l.length → SlF TPoint.L Z H lA lc l → ∀ (thereA : Option Addr) (theren therec : Nat), theren = there.length → SlF boolL Z H thereA therec there → ∀ KK : Value → Heap → Prop,
    (∀ (Z' : Nat → Prop) (H' : Heap), Ext H H' → Old Z H Z' → ∀ (r0 : (List Nat)), ∀ (Y0 : Nat → Prop), (∀ i, Y0 i → H.size ≤ i ∧ ¬ Z' i) → ∀ (Ar0_0 : Option Addr) (nr0_0 cr0_0 : Nat), nr0_0 = r0.length → SlO (rdM u64L) 22 Z' Y0 H' Ar0_0 cr0_0 r0 → ∀ (r1 : (List Int)), ∀ (Y1 : Nat → Prop), (∀ i, Y1 i → H.size ≤ i ∧ ¬ Z' i) → ∀ (Ar1_0 : Option Addr) (nr1_0 cr1_0 : Nat), nr1_0 = r1.length → SlO (rdM i64L) 3 Z' Y1 H' Ar1_0 cr1_0 r1 → ∀ (r2 : Int), (∀ i, Y0 i → ¬ Y1 i) → K r0 r1 r2 → KK (.tuple #[.slice Ar0_0 nr0_0 cr0_0, .slice Ar1_0 nr1_0 cr1_0, .int .i64 r2]) H') →
    CallH P N.decode_Gaps [.int .u64 pv, .int .i64 d, .slice lA ln lc, .slice thereA theren therec] H KK
def decode_Gaps.Q (p : Nat) (d : Int) (l : (List TPoint)) (there : (List Bool)) (K : (List Nat) → (List Int) → Int → Prop) : Prop :=
  decode_Check.C p d l (fun (x : Int) =>
  cond (x != 0) (K ([]) ([]) x)
   (cond (((there.length : Nat) : Int) != ((l.length : Nat) : Int)) (K ([]) ([]) 2)
   (LoopQ (τ := List TPoint × List Int × Int) (([] : List TPoint), ([] : List Int), 0) fun t nextQ =>
  cond (decide (t.2.2 < ((l.length : Nat) : Int))) (0 ≤ t.2.2 ∧ ∃ x2 : TPoint, l[Int.toNat t.2.2]? = some x2 ∧ 0 ≤ t.2.2 ∧ ∃ x3 : Bool, there[Int.toNat t.2.2]? = some x3 ∧ cond x3 (AppOk 16 (t.1 ++ ([x2] : List TPoint)).length ∧ AppOk 8 (t.2.1 ++ ([t.2.2] : List Int)).length ∧ nextQ ((t.1 ++ ([x2] : List TPoint)), (t.2.1 ++ ([t.2.2] : List Int)), IntKind.i64.wrap (t.2.2 + 1)))
   (nextQ (t.1, t.2.1, IntKind.i64.wrap (t.2.2 + 1))))
   (decode_Best.C p d t.1 (fun (r : (List Nat)) (r2 : (List Int)) (r3 : Int) =>
  LoopQ (τ := Int × List Int) (0, r2) fun t2 nextQ2 =>
  cond (decide (t2.1 < ((r2.length : Nat) : Int))) (0 ≤ t2.1 ∧ t2.1 < ((r2.length : Nat) : Int) ∧ ∃ x4 : Int, t2.2[Int.toNat t2.1]? = some x4 ∧ 0 ≤ x4 ∧ x4 < ((t.2.1.length : Nat) : Int) ∧ ∃ x5 : Int, t.2.1[Int.toNat x4]? = some x5 ∧ 0 ≤ t2.1 ∧ t2.1 < ((r2.length : Nat) : Int) ∧ nextQ2 (IntKind.i64.wrap (t2.1 + 1), (List.set t2.2 (Int.toNat t2.1) x5)))
   (K r t2.2 r3))))))
theorem decode_Gaps.q {p : Nat} {d : Int} {l : (List TPoint)} {there : (List Bool)} {K : (List Nat) → (List Int) → Int → Prop} (q : decode_Gaps.Q p d l there K) : decode_Gaps.C p d l there K := by
  intro Z H pv he lA ln lc hn f thereA theren therec hn2 f2 KK hk
  cases he
  cases hn
  cases hn2
  apply decode_Gaps.ok
  unfold decode_Gaps.W
  unfold decode_Gaps.Q at q
  obtain ⟨σ, hz, hσ⟩ := tags Z
  have hs : Stp ([1, 2, 3, 4, 5, 6, 7] : List Nat) σ H σ H := Stp.refl _ _ _
  replace f := f.wide hz
  replace f2 := f2.wide hz
  clear hz
  refine q (Zt σ) H _ rfl _ _ _ rfl f _ (fun Z2 H_ hE hO x q => ?_)
  obtain ⟨xσ, st⟩ := call0 hE σ
  replace f := f.step st
  replace f2 := f2.step st
  replace hs := hs.trans st
  refine ⟨_, rfl, ?_⟩
  refine condI (fun q => ?_) (fun q => ?_) q
  · exact hk (Zt xσ) _ (hs.ext hσ) (hs.old hσ) _ (fun _ => False) (fun _ h => h.elim) _ _ _ rfl (SlO.nil _ _ _ _ _) _ (fun _ => False) (fun _ h => h.elim) _ _ _ rfl (SlO.nil _ _ _ _ _) _ (fun _ h => h.elim) q
  · refine condI (fun q => ?_) (fun q => ?_) q
    · exact hk (Zt xσ) _ (hs.ext hσ) (hs.old hσ) _ (fun _ => False) (fun _ h => h.elim) _ _ _ rfl (SlO.nil _ _ _ _ _) _ (fun _ => False) (fun _ h => h.elim) _ _ _ rfl (SlO.nil _ _ _ _ _) _ (fun _ h => h.elim) q
    · have f3 := SlO.nil (rdM TPoint.L) 103 (Zt xσ) (Yt xσ 1) H_
      have f4 := SlO.nil (rdM i64L) 3 (Zt xσ) (Yt xσ 2) H_
      refine LoopI.ofQ q (fun t_ s_ hp_ => ∃ (σ_ : Nat → Nat) (A0_ : Option Addr) (n0_ c0_ : Nat) (A1_ : Option Addr) (n1_ c1_ : Nat), Stp [1, 2, 3, 4, 5] xσ H_ σ_ hp_ ∧ ((A0_, n0_, c0_), (A1_, n1_, c1_), t_.2.2) = s_ ∧ n0_ = t_.1.length ∧ SlO (rdM TPoint.L) 103 (Zt σ_) (Yt σ_ 1) hp_ A0_ c0_ t_.1 ∧ n1_ = t_.2.1.length ∧ SlO (rdM i64L) 3 (Zt σ_) (Yt σ_ 2) hp_ A1_ c1_ t_.2.1) (fun h k => h _ _ k) ⟨_, _, _, _, _, _, _, Stp.refl _ _ _, rfl, rfl, f3, rfl, f4⟩ ?_
      rintro t _ _ H_2 next nextQ ⟨xσ2, A, n, c, A2, n2, c2, st2, rfl, rfl, f5, rfl, f6⟩ q hnext
      try dsimp only at q ⊢
      replace f := f.step st2
      replace f2 := f2.step st2
      replace hs := hs.trans st2
      have sl0 := st2
      refine condI (fun q => ?_) (fun q => ?_) q
      · obtain ⟨h0, x2, hx, q⟩ := q
        obtain ⟨a, ha, hi⟩ := f.addr h0 hx rfl
        refine ⟨a, ha, hi.1, hi.2, ?_⟩
        obtain ⟨cs, hr, hc⟩ := f.ldN (k := 2) rfl ha h0 hx
        cases hr
        have hc2 := hc 0 _ rfl
        have hc3 := hc 1 _ rfl
        refine ⟨_, _, hc2.val, hc3.val, ?_⟩
        refine NewH.mk fun H_3 e => ?_
        obtain ⟨xσ3, st3, b⟩ := BoxF.new xσ2 3 e
        replace f := f.step st3
        replace f2 := f2.step st3
        replace f5 := f5.step st3
        replace f6 := f6.step st3
        replace hc2 := hc2.step st3
        replace hc3 := hc3.step st3
        replace hs := hs.trans st3
        replace sl0 := sl0.trans st3
        refine ⟨b.mayN 0 2 (show (2 : Nat) ≤ 2 by decide), NewH.mk fun H_4 e2 => ?_⟩
        obtain ⟨st4, b⟩ := b.wroteN 0 (vs := [_, _]) (show (2 : Nat) ≤ 2 by decide) e2
        simp only [List.take_zero, List.take_succ_cons, List.drop_zero, List.drop_succ_cons, List.drop_nil, List.length_cons, List.length_nil, List.cons_append, List.nil_append, List.append_nil, Nat.zero_add, Nat.reduceAdd] at b
        replace f := f.step st4
        replace f2 := f2.step st4
        replace f5 := f5.step st4
        replace f6 := f6.step st4
        replace hc2 := hc2.step st4
        replace hc3 := hc3.step st4
        replace hs := hs.trans st4
        replace sl0 := sl0.trans st4
        obtain ⟨h02, x3, hx2, q⟩ := q
        obtain ⟨a2, ha2, hi2⟩ := f2.addr h02 hx2 rfl
        refine ⟨a2, ha2, hi2.1, hi2.2, ?_⟩
        have hc4 := f2.ldb ha2 h02 hx2
        refine ⟨_, hc4.val, ?_⟩
        refine condI (fun q => ?_) (fun q => ?_) q
        · refine ⟨_, _, b.cell0, b.cell 1 rfl, ?_⟩
          refine NewH.mk fun H_5 e3 => ?_
          obtain ⟨xσ4, st5, f7⟩ := SlO.lit (E := TPoint.L) xσ3 4 (xs := [x2]) (l := [[_, _]]) e3 rfl (.cons rfl .nil) (show (1 : Nat) ≤ 17592186044416 by decide)
          replace f := f.step st5
          replace f2 := f2.step st5
          replace f5 := f5.step st5
          replace f6 := f6.step st5
          replace hc2 := hc2.step st5
          replace hc3 := hc3.step st5
          replace b := b.step st5
          replace hc4 := hc4.step st5
          replace hs := hs.trans st5
          replace sl0 := sl0.trans st5
          obtain ⟨xσ6, st7, f7⟩ := SlO.freeze f7
          replace f := f.step st7
          replace f2 := f2.step st7
          replace f5 := f5.step st7
          replace f6 := f6.step st7
          replace hc2 := hc2.step st7
          replace hc3 := hc3.step st7
          replace b := b.step st7
          replace hc4 := hc4.step st7
          replace hs := hs.trans st7
          replace sl0 := sl0.trans st7
          obtain ⟨q2, q⟩ := q
          refine SlO.appF f5 f7 rfl rfl q2.l q2.r rfl rfl (fun A3 c3 H_6 xσ5 st6 f5_ => ?_)
          replace f5 := f5_
          replace f := f.step st6
          replace f2 := f2.step st6
          replace f6 := f6.step st6
          replace hc2 := hc2.step st6
          replace hc3 := hc3.step st6
          replace b := b.step st6
          replace hc4 := hc4.step st6
          replace f7 := f7.step st6
          replace hs := hs.trans st6
          replace sl0 := sl0.trans st6
          have f8 := f5; clear f5
          refine NewH.mk fun H_7 e4 => ?_
          obtain ⟨xσ7, st8, f9⟩ := SlO.lit (E := i64L) xσ5 5 (xs := [t.2.2]) (l := [[_]]) e4 rfl (.cons rfl .nil) (show (1 : Nat) ≤ 17592186044416 by decide)
          replace f := f.step st8
          replace f2 := f2.step st8
          replace f6 := f6.step st8
          replace hc2 := hc2.step st8
          replace hc3 := hc3.step st8
          replace b := b.step st8
          replace hc4 := hc4.step st8
          replace f7 := f7.step st8
          replace f8 := f8.step st8
          replace hs := hs.trans st8
          replace sl0 := sl0.trans st8
          obtain ⟨xσ9, st10, f9⟩ := SlO.freeze f9
          replace f := f.step st10
          replace f2 := f2.step st10
          replace f6 := f6.step st10
          replace hc2 := hc2.step st10
          replace hc3 := hc3.step st10
          replace b := b.step st10
          replace hc4 := hc4.step st10
          replace f7 := f7.step st10
          replace f8 := f8.step st10
          replace hs := hs.trans st10
          replace sl0 := sl0.trans st10
          obtain ⟨q3, q⟩ := q
          refine SlO.appF f6 f9 rfl rfl q3.l q3.r rfl rfl (fun A4 c4 H_8 xσ8 st9 f6_ => ?_)
          replace f6 := f6_
          replace f := f.step st9
          replace f2 := f2.step st9
          replace hc2 := hc2.step st9
          replace hc3 := hc3.step st9
          replace b := b.step st9
          replace hc4 := hc4.step st9
          replace f7 := f7.step st9
          replace f8 := f8.step st9
          replace f9 := f9.step st9
          replace hs := hs.trans st9
          replace sl0 := sl0.trans st9
          have f10 := f6; clear f6
          exact hnext ((t.1 ++ ([x2] : List TPoint)), (t.2.1 ++ ([t.2.2] : List Int)), IntKind.i64.wrap (t.2.2 + 1)) _ _ ⟨_, _, _, _, _, _, _, sl0, rfl, rfl, f8, rfl, f10⟩ q
        · exact hnext (t.1, t.2.1, IntKind.i64.wrap (t.2.2 + 1)) _ _ ⟨_, _, _, _, _, _, _, sl0, rfl, rfl, f5, rfl, f6⟩ q
      · refine q (fun i => xσ2 i = 0 ∨ xσ2 i = 1) H_2 _ rfl _ _ _ rfl (f5.read (fun i h => .inl h) (fun i h => .inr (h))) _ (fun Z3 H_9 hE2 hO2 r Y hY A5 n3 c5 hn3 f11 r2 Y2 hY2 A6 n4 c6 hn4 f12 r3 hY3 q => ?_)
        obtain ⟨xσ10, st11, fy, fy2⟩ := callB2 hE2 hO2 xσ2 6 7 hY hY2 hY3
        replace f11 := (SlO.anyZ (Z' := Zt xσ10) u64_flatL f11).keep (Fr.refl _ _) fy
        replace f12 := (SlO.anyZ (Z' := Zt xσ10) i64_flatL f12).keep (Fr.refl _ _) fy2
        cases hn3
        cases hn4
        replace f := f.step st11
        replace f2 := f2.step st11
        replace f5 := f5.step st11
        replace f6 := f6.step st11
        replace hs := hs.trans st11
        refine ⟨_, _, _, _, _, _, _, rfl, ?_⟩
        refine LoopI.ofQ q (fun t_ s_ hp_ => ∃ (σ_ : Nat → Nat), Stp [7] xσ10 H_9 σ_ hp_ ∧ t_.1 = s_ ∧ t_.2.length = r2.length ∧ SlO (rdM i64L) 3 (Zt σ_) (Yt σ_ 7) hp_ A6 c6 t_.2) (fun h k => h _ _ k) ⟨_, Stp.refl _ _ _, rfl, rfl, f12⟩ ?_
        rintro t2 _ _ H_10 next2 nextQ2 ⟨xσ11, st12, rfl, hl, f12⟩ q hnext2
        try dsimp only at q ⊢
        replace f := f.step st12
        replace f2 := f2.step st12
        replace f5 := f5.step st12
        replace f6 := f6.step st12
        replace f11 := f11.step st12
        replace hs := hs.trans st12
        have sl2 := st12
        refine condI (fun q => ?_) (fun q => ?_) q
        · obtain ⟨h03, hi4, q⟩ := q
          obtain ⟨a3, ha3, hi3⟩ := f12.addr h03 ((rfl : _ = _).trans hl.symm) hi4
          refine ⟨a3, ha3, hi3.1, hi3.2, ?_⟩
          obtain ⟨x4, hx3, q⟩ := q
          have hc5 := f12.ldi ha3 h03 hx3
          refine ⟨_, hc5.val, ?_⟩
          obtain ⟨h04, hi6, q⟩ := q
          obtain ⟨a4, ha4, hi5⟩ := f6.addr h04 rfl hi6
          refine ⟨a4, ha4, hi5.1, hi5.2, ?_⟩
          obtain ⟨x5, hx4, q⟩ := q
          have hc6 := f6.ldi ha4 h04 hx4
          refine ⟨_, hc6.val, ?_⟩
          obtain ⟨h05, hi8, q⟩ := q
          obtain ⟨a5, ha5, hi7⟩ := f12.addr h05 ((rfl : _ = _).trans hl.symm) hi8
          refine ⟨a5, ha5, hi7.1, hi7.2, ?_⟩
          have w := fun v hr => SlO.set1 (v := v) (y := x5) f12 rfl ha5 h05 (lt_of_n ((rfl : _ = _).trans hl.symm) hi8) hr
          refine ⟨(w _ rfl).1, NewH.mk fun H_11 e5 => ?_⟩
          obtain ⟨st13, f12⟩ := (w _ rfl).2 H_11 e5
          replace f := f.step st13
          replace f2 := f2.step st13
          replace f5 := f5.step st13
          replace f6 := f6.step st13
          replace f11 := f11.step st13
          replace hc6 := hc6.step st13
          replace hs := hs.trans st13
          replace sl2 := sl2.trans st13
          exact hnext2 (IntKind.i64.wrap (t2.1 + 1), (List.set t2.2 (Int.toNat t2.1) x5)) _ _ ⟨_, sl2, rfl, (set_back ((rfl : _ = _).trans hl.symm) (set_len ((rfl : _ = _).trans hl.symm)) hl), f12⟩ q
        · exact hk (Zt xσ11) _ (hs.ext hσ) (hs.old hσ) _ (Yt xσ11 6) (hs.fresh hσ) _ _ _ rfl f11 _ (Yt xσ11 7) (hs.fresh hσ) _ _ _ ((rfl : _ = _).trans hl.symm) f12 _ Yt.apart q
end Go.Proofs.Ytlhcaangdenoaaa.Sh
