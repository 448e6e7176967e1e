import Derived.Test.YtlhcaangdenoaaaSTypes
import Derived.Test.YtlhcaangdenoaaaSFnJuntoref01
namespace Go.Lf
end Go.Lf
namespace Go.Sx
end Go.Sx
set_option linter.unusedVariables false
set_option linter.unusedSimpArgs false
set_option maxRecDepth 100000
namespace Go.Proofs.Ytlhcaangdenoaaa.Sh
open Go.Sx
def juntoref02_Eval.A : Ann where
  loops := fun i => match i with
    | 12295 => [(7, .int .u64), (8, .int .u64), (13, .int .i64)]
    | _ => []
  plans := fun i => match i with
    | _ => .stop
def juntoref02_Eval.W (p : Int) (fA : Option Addr) (fn fc : Nat) (x : Int) (H : Heap) (R : Value → Heap → Prop) : Prop :=
  LoopI (σ := Int × Int × Int) (fun κ => κ (0, 1, 0) H) fun s z H_ next =>
  cond (decide (s.2.2 < ((fn : Nat) : Int))) (∃ a : Addr, fA = some a ∧ 0 ≤ s.2.2 ∧ s.2.2 < ((fn : Nat) : Int) ∧ ∃ x2 : Int, cellH H_ (a.add (Int.toNat s.2.2)) = some (.int .u64 x2) ∧ CallH P N.juntoref01_Mul [.int .u64 p, .int .u64 x2, .int .u64 s.2.1] H_ fun v H_2 =>
  ∃ r : Int, v = .int .u64 r ∧ CallH P N.juntoref01_Add [.int .u64 p, .int .u64 s.1, .int .u64 r] H_2 fun v2 H_3 =>
  ∃ r2 : Int, v2 = .int .u64 r2 ∧ CallH P N.juntoref01_Mul [.int .u64 p, .int .u64 s.2.1, .int .u64 x] H_3 fun v3 H_4 =>
  ∃ r3 : Int, v3 = .int .u64 r3 ∧ next (r2, r3, IntKind.i64.wrap (s.2.2 + 1)) H_4)
   (R (.int .u64 s.1) H_)
theorem juntoref02_Eval.ok (p : Int) (fA : Option Addr) (fn fc : Nat) (x : Int) (H : Heap) (R : Value → Heap → Prop) (h : juntoref02_Eval.W p fA fn fc x H R) : CallH P N.juntoref02_Eval ([.int .u64 p, .slice fA fn fc, .int .u64 x] : List Value) H R := by
  have e : juntoref02_Eval.W p fA fn fc x H R = sxFn P T Sh.R nf juntoref02_Eval.A Try.f41.results.toList (bodyOf Try.f41) (([(.int .u64 p : Value), (.slice fA fn fc : Value), (.int .u64 x : Value)] : List Value) ++ List.replicate (30 - ([(.int .u64 p : Value), (.slice fA fn fc : Value), (.int .u64 x : Value)] : List Value).length) undef) H R := by kernel_rfl
  exact call_of_sx fits bodies mixed Try.func41 (c := bodyOf Try.f41) (by kernel_rfl) Try.ntmps41 juntoref02_Eval.A (by kernel_rfl) (e.mp h)
def juntoref02_Twice.A : Ann where
  loops := fun i => match i with
    | 8201 => [(7, .int .i64)]
    | 20486 => [(4, .int .i64)]
    | _ => []
  plans := fun i => match i with
    | 7 => .first 0 (.first 1 (.first 2 (.first 4 (.first 5 (.first 6 (.read 3 (.read 7 (.first 8 (.done)))))))))
    | _ => .stop
def juntoref02_Twice.W (lA : Option Addr) (ln lc : Nat) (H : Heap) (R : Value → Heap → Prop) : Prop :=
  LoopI (σ := Int) (fun κ => κ 0 H) fun s z H_ next =>
  cond (decide (s < ((ln : Nat) : Int))) (LoopI (σ := Int) (fun κ => κ 0 H_) fun s2 z2 H_2 next2 =>
  cond (decide (s2 < s)) (∃ a : Addr, lA = some a ∧ 0 ≤ s ∧ s < ((ln : Nat) : Int) ∧ ∃ a2 : Addr, lA = some a2 ∧ 0 ≤ s2 ∧ s2 < ((ln : Nat) : Int) ∧ ∃ x : Int, cellH H_2 (a.add (Int.toNat s)) = some (.int .u64 x) ∧ ∃ x2 : Int, cellH H_2 (a2.add (Int.toNat s2)) = some (.int .u64 x2) ∧ cond (x == x2) (R (.bool true) H_2)
   (next2 (IntKind.i64.wrap (s2 + 1)) H_2))
   (next (IntKind.i64.wrap (s + 1)) H_2))
   (R (.bool false) H_)
theorem juntoref02_Twice.ok (lA : Option Addr) (ln lc : Nat) (H : Heap) (R : Value → Heap → Prop) (h : juntoref02_Twice.W lA ln lc H R) : CallH P N.juntoref02_Twice ([.slice lA ln lc] : List Value) H R := by
  have e : juntoref02_Twice.W lA ln lc H R = sxFn P T Sh.R nf juntoref02_Twice.A Try.f42.results.toList (bodyOf Try.f42) (([(.slice lA ln lc : Value)] : List Value) ++ List.replicate (25 - ([(.slice lA ln lc : Value)] : List Value).length) undef) H R := by kernel_rfl
  exact call_of_sx fits bodies mixed Try.func42 (c := bodyOf Try.f42) (by kernel_rfl) Try.ntmps42 juntoref02_Twice.A (by kernel_rfl) (e.mp h)
def juntoref02_Trim.A : Ann where
  loops := fun i => match i with
    | 8195 => [(3, .int .i64)]
    | _ => []
  plans := fun i => match i with
    | _ => .stop
def juntoref02_Trim.W (fA : Option Addr) (fn fc : Nat) (H : Heap) (R : Value → Heap → Prop) : Prop :=
  LoopI (σ := Int) (fun κ => κ ((fn : Nat) : Int) H) fun s z H_ next =>
  cond (decide (s > 0)) (∃ a : Addr, fA = some a ∧ 0 ≤ (IntKind.i64.wrap (s - 1)) ∧ (IntKind.i64.wrap (s - 1)) < ((fn : Nat) : Int) ∧ ∃ x : Int, cellH H_ (a.add (Int.toNat (IntKind.i64.wrap (s - 1)))) = some (.int .u64 x) ∧ cond (x == 0) (next (IntKind.i64.wrap (s - 1)) H_)
   (NewH (H_.push (.cells #[] 22 (0, 0))) fun H_2 =>
  0 ≤ s ∧ s ≤ ((fc : Nat) : Int) ∧ AppendV 22 1 8 [.int .u64 0] H_2 (some (Addr.mk H_.size 0 none)) 0 0 fA (Int.toNat s) fun vA vn vc H_3 =>
  R (.slice vA vn vc) H_3)) (NewH (H_.push (.cells #[] 22 (0, 0))) fun H_4 =>
  0 ≤ s ∧ s ≤ ((fc : Nat) : Int) ∧ AppendV 22 1 8 [.int .u64 0] H_4 (some (Addr.mk H_.size 0 none)) 0 0 fA (Int.toNat s) fun vA2 vn2 vc2 H_5 =>
  R (.slice vA2 vn2 vc2) H_5)
theorem juntoref02_Trim.ok (fA : Option Addr) (fn fc : Nat) (H : Heap) (R : Value → Heap → Prop) (h : juntoref02_Trim.W fA fn fc H R) : CallH P N.juntoref02_Trim ([.slice fA fn fc] : List Value) H R := by
  have e : juntoref02_Trim.W fA fn fc H R = sxFn P T Sh.R nf juntoref02_Trim.A Try.f66.results.toList (bodyOf Try.f66) (([(.slice fA fn fc : Value)] : List Value) ++ List.replicate (23 - ([(.slice fA fn fc : Value)] : List Value).length) undef) H R := by kernel_rfl
  exact call_of_sx fits bodies mixed Try.func66 (c := bodyOf Try.f66) (by kernel_rfl) Try.ntmps66 juntoref02_Trim.A (by kernel_rfl) (e.mp h)
def juntoref02_Mul.A : Ann where
  loops := fun i => match i with
    | 12298 => [(18, .int .i64)]
    | 24585 => [(23, .int .i64)]
    | _ => []
  plans := fun i => match i with
    | 8 => .first 0 (.first 1 (.first 2 (.first 3 (.first 4 (.first 5 (.first 6 (.first 7 (.first 8 (.first 9 (.first 11 (.first 12 (.first 13 (.first 14 (.first 16 (.first 17 (.first 18 (.read 10 (.read 15 (.read 19 (.alt 20 [15, 19] (.alt 21 [10] (.first 22 (.alt 23 [] (.done) (.stop))) (.stop)) (.stop)))))))))))))))))))))
    | _ => .stop
def juntoref02_Mul.W (p : Int) (fA : Option Addr) (fn fc : Nat) (gA : Option Addr) (gn gc : Nat) (H : Heap) (R : Value → Heap → Prop) : Prop :=
  0 ≤ (IntKind.i64.wrap (((fn : Nat) : Int) + ((gn : Nat) : Int))) ∧ (IntKind.i64.wrap (((fn : Nat) : Int) + ((gn : Nat) : Int))) ≤ (IntKind.i64.wrap (((fn : Nat) : Int) + ((gn : Nat) : Int))) ∧ (IntKind.i64.wrap (((fn : Nat) : Int) + ((gn : Nat) : Int))) * 8 ≤ 2 ^ 48 ∧ (IntKind.i64.wrap (((fn : Nat) : Int) + ((gn : Nat) : Int))) < 2 ^ 62 ∧ NewH (H.push (.cells (repl (Int.toNat (IntKind.i64.wrap (((fn : Nat) : Int) + ((gn : Nat) : Int)))) [.int .u64 0]).toArray 22 (0, 0))) fun H_ =>
  LoopI (σ := Int) (fun κ => κ 0 H_) fun s z H_2 next =>
  cond (decide (s < ((fn : Nat) : Int))) (LoopI (σ := Int) (fun κ => κ 0 H_2) fun s2 z2 H_3 next2 =>
  cond (decide (s2 < ((gn : Nat) : Int))) (∃ a : Addr, (some (Addr.mk H.size 0 none) : Option Addr) = some a ∧ 0 ≤ (IntKind.i64.wrap (s + s2)) ∧ (IntKind.i64.wrap (s + s2)) < ((Int.toNat (IntKind.i64.wrap (((fn : Nat) : Int) + ((gn : Nat) : Int))) : Nat) : Int) ∧ ∃ a2 : Addr, fA = some a2 ∧ 0 ≤ s ∧ s < ((fn : Nat) : Int) ∧ ∃ a3 : Addr, gA = some a3 ∧ 0 ≤ s2 ∧ s2 < ((gn : Nat) : Int) ∧ ∃ x : Int, cellH H_3 (a.add (Int.toNat (IntKind.i64.wrap (s + s2)))) = some (.int .u64 x) ∧ ∃ x2 : Int, cellH H_3 (a2.add (Int.toNat s)) = some (.int .u64 x2) ∧ ∃ x3 : Int, cellH H_3 (a3.add (Int.toNat s2)) = some (.int .u64 x3) ∧ CallH P N.juntoref01_Mul [.int .u64 p, .int .u64 x2, .int .u64 x3] H_3 fun v H_4 =>
  ∃ r : Int, v = .int .u64 r ∧ cellH H_4 (a.add (Int.toNat (IntKind.i64.wrap (s + s2)))) = some (.int .u64 x) ∧ CallH P N.juntoref01_Add [.int .u64 p, .int .u64 x, .int .u64 r] H_4 fun v2 H_5 =>
  ∃ r2 : Int, v2 = .int .u64 r2 ∧ ∃ a4 : Addr, (some (Addr.mk H.size 0 none) : Option Addr) = some a4 ∧ 0 ≤ (IntKind.i64.wrap (s + s2)) ∧ (IntKind.i64.wrap (s + s2)) < ((Int.toNat (IntKind.i64.wrap (((fn : Nat) : Int) + ((gn : Nat) : Int))) : Nat) : Int) ∧ MayWrite H_5 (a4.add (Int.toNat (IntKind.i64.wrap (s + s2)))) 1 ∧ NewH (setH H_5 (a4.add (Int.toNat (IntKind.i64.wrap (s + s2)))) (.int .u64 r2)) fun H_6 =>
  next2 (IntKind.i64.wrap (s2 + 1)) H_6)
   (next (IntKind.i64.wrap (s + 1)) H_3))
   (CallH P N.juntoref02_Trim [.slice (some (Addr.mk H.size 0 none)) (Int.toNat (IntKind.i64.wrap (((fn : Nat) : Int) + ((gn : Nat) : Int)))) (Int.toNat (IntKind.i64.wrap (((fn : Nat) : Int) + ((gn : Nat) : Int))))] H_2 fun v3 H_7 =>
  ∃ (rA : Option Addr) (rn rc : Nat), v3 = .slice rA rn rc ∧ R (.slice rA rn rc) H_7)
theorem juntoref02_Mul.ok (p : Int) (fA : Option Addr) (fn fc : Nat) (gA : Option Addr) (gn gc : Nat) (H : Heap) (R : Value → Heap → Prop) (h : juntoref02_Mul.W p fA fn fc gA gn gc H R) : CallH P N.juntoref02_Mul ([.int .u64 p, .slice fA fn fc, .slice gA gn gc] : List Value) H R := by
  have e : juntoref02_Mul.W p fA fn fc gA gn gc H R = sxFn P T Sh.R nf juntoref02_Mul.A Try.f92.results.toList (bodyOf Try.f92) (([(.int .u64 p : Value), (.slice fA fn fc : Value), (.slice gA gn gc : Value)] : List Value) ++ List.replicate (53 - ([(.int .u64 p : Value), (.slice fA fn fc : Value), (.slice gA gn gc : Value)] : List Value).length) undef) H R := by kernel_rfl
  exact call_of_sx fits bodies mixed Try.func92 (c := bodyOf Try.f92) (by kernel_rfl) Try.ntmps92 juntoref02_Mul.A (by kernel_rfl) (e.mp h)
def juntoref02_Points.A : Ann where
  loops := fun i => match i with
    | 20490 => [(7, .slice), (16, .int .i64)]
    | _ => []
  plans := fun i => match i with
    | _ => .stop
def juntoref02_Points.W (p : Int) (lA : Option Addr) (ln lc : Nat) (most : Int) (H : Heap) (R : Value → Heap → Prop) : Prop :=
  cond (decide (((ln : Nat) : Int) > most)) (R (.int .i64 3) H)
   (LoopI (σ := (Option Addr × Nat × Nat) × Int) (fun κ => κ ((none, 0, 0), 0) H) fun s z H_ next =>
  cond (decide (s.2 < ((ln : Nat) : Int))) (∃ a : Addr, lA = some a ∧ 0 ≤ s.2 ∧ s.2 < ((ln : Nat) : Int) ∧ ∃ x0 : Int, ∃ x1 : Int, cellH H_ (a.add ((Int.toNat s.2) * 2)) = some (.int .u64 x0) ∧ cellH H_ ((a.add ((Int.toNat s.2) * 2)).add 1) = some (.int .u64 x1) ∧ NewH (H_.push (.cells #[.int .u64 0, .int .u64 0] 103 (0, 0))) fun H_2 =>
  MayWrite H_2 (Addr.mk H_.size 0 none) 2 ∧ NewH (setH (setH H_2 (Addr.mk H_.size 0 none) (.int .u64 x0)) (((Addr.mk H_.size 0 none)).add 1) (.int .u64 x1)) fun H_3 =>
  ∃ x : Int, cellH H_3 (Addr.mk H_.size 0 none) = some (.int .u64 x) ∧ cond (decide (x ≥ p)) (R (.int .i64 2) H_3) (∃ x2 : Int, cellH H_3 (((Addr.mk H_.size 0 none)).add 1) = some (.int .u64 x2) ∧ cond (decide (x2 ≥ p)) (R (.int .i64 2) H_3)
   (∃ x3 : Int, cellH H_3 (Addr.mk H_.size 0 none) = some (.int .u64 x3) ∧ NewH (H_3.push (.cells #[.int .u64 x3] 22 (0, 0))) fun H_4 =>
  AppendV 22 1 8 [.int .u64 0] H_4 s.1.1 s.1.2.1 s.1.2.2 (some (Addr.mk H_3.size 0 none)) 1 fun vA vn vc H_5 =>
  next ((vA, vn, vc), IntKind.i64.wrap (s.2 + 1)) H_5)))
   (CallH P N.juntoref02_Twice [.slice s.1.1 s.1.2.1 s.1.2.2] H_ fun v2 H_6 =>
  ∃ r : Bool, v2 = .bool r ∧ cond r (R (.int .i64 6) H_6)
   (R (.int .i64 0) H_6)))
theorem juntoref02_Points.ok (p : Int) (lA : Option Addr) (ln lc : Nat) (most : Int) (H : Heap) (R : Value → Heap → Prop) (h : juntoref02_Points.W p lA ln lc most H R) : CallH P N.juntoref02_Points ([.int .u64 p, .slice lA ln lc, .int .i64 most] : List Value) H R := by
  have e : juntoref02_Points.W p lA ln lc most H R = sxFn P T Sh.R nf juntoref02_Points.A Try.f95.results.toList (bodyOf Try.f95) (([(.int .u64 p : Value), (.slice lA ln lc : Value), (.int .i64 most : Value)] : List Value) ++ List.replicate (38 - ([(.int .u64 p : Value), (.slice lA ln lc : Value), (.int .i64 most : Value)] : List Value).length) undef) H R := by kernel_rfl
  exact call_of_sx fits bodies mixed Try.func95 (c := bodyOf Try.f95) (by kernel_rfl) Try.ntmps95 juntoref02_Points.A (by kernel_rfl) (e.mp h)
def juntoref02_Divide.A : Ann where
  loops := fun i => match i with
    | 16392 => [(1, .slice)]
    | _ => []
  plans := fun i => match i with
    | 8 => .first 0 (.first 1 (.first 2 (.first 4 (.first 5 (.first 6 (.alt 3 [] (.alt 7 [] (.alt 8 [] (.alt 9 [] (.first 10 (.done)) (.stop)) (.stop)) (.stop)) (.alt 7 [] (.alt 3 [] (.alt 8 [] (.alt 9 [] (.first 10 (.done)) (.stop)) (.stop)) (.stop)) (.stop))))))))
    | _ => .stop
def juntoref02_Divide.W (p : Int) (fA : Option Addr) (fn fc : Nat) (gA : Option Addr) (gn gc : Nat) (H : Heap) (R : Value → Heap → Prop) : Prop :=
  CallH P N.juntoref02_Trim [.slice fA fn fc] H fun v H_ =>
  ∃ (rA : Option Addr) (rn rc : Nat), v = .slice rA rn rc ∧ CallH P N.juntoref02_Trim [.slice gA gn gc] H_ fun v2 H_2 =>
  ∃ (rA2 : Option Addr) (rn2 rc2 : Nat), v2 = .slice rA2 rn2 rc2 ∧ 0 ≤ ((rn : Nat) : Int) ∧ ((rn : Nat) : Int) ≤ ((rn : Nat) : Int) ∧ ((rn : Nat) : Int) * 8 ≤ 2 ^ 48 ∧ ((rn : Nat) : Int) < 2 ^ 62 ∧ NewH (H_2.push (.cells (repl (Int.toNat ((rn : Nat) : Int)) [.int .u64 0]).toArray 22 (0, 0))) fun H_3 =>
  ∃ a : Addr, rA2 = some a ∧ 0 ≤ (IntKind.i64.wrap (((rn2 : Nat) : Int) - 1)) ∧ (IntKind.i64.wrap (((rn2 : Nat) : Int) - 1)) < ((rn2 : Nat) : Int) ∧ ∃ x : Int, cellH H_3 (a.add (Int.toNat (IntKind.i64.wrap (((rn2 : Nat) : Int) - 1)))) = some (.int .u64 x) ∧ CallH P N.juntoref01_Inv [.int .u64 p, .int .u64 x] H_3 fun v3 H_4 =>
  ∃ r : Int, v3 = .int .u64 r ∧ LoopI (σ := (Option Addr × Nat × Nat)) (fun κ => κ (rA, rn, rc) H_4) fun s z H_5 next =>
  cond (decide (((s.2.1 : Nat) : Int) ≥ ((rn2 : Nat) : Int))) (∃ a2 : Addr, s.1 = some a2 ∧ 0 ≤ (IntKind.i64.wrap (((s.2.1 : Nat) : Int) - 1)) ∧ (IntKind.i64.wrap (((s.2.1 : Nat) : Int) - 1)) < ((s.2.1 : Nat) : Int) ∧ ∃ x2 : Int, cellH H_5 (a2.add (Int.toNat (IntKind.i64.wrap (((s.2.1 : Nat) : Int) - 1)))) = some (.int .u64 x2) ∧ CallH P N.juntoref01_Mul [.int .u64 p, .int .u64 x2, .int .u64 r] H_5 fun v4 H_6 =>
  ∃ r2 : Int, v4 = .int .u64 r2 ∧ ∃ a3 : Addr, (some (Addr.mk H_2.size 0 none) : Option Addr) = some a3 ∧ 0 ≤ (IntKind.i64.wrap (((s.2.1 : Nat) : Int) - ((rn2 : Nat) : Int))) ∧ (IntKind.i64.wrap (((s.2.1 : Nat) : Int) - ((rn2 : Nat) : Int))) < ((Int.toNat ((rn : Nat) : Int) : Nat) : Int) ∧ MayWrite H_6 (a3.add (Int.toNat (IntKind.i64.wrap (((s.2.1 : Nat) : Int) - ((rn2 : Nat) : Int))))) 1 ∧ NewH (setH H_6 (a3.add (Int.toNat (IntKind.i64.wrap (((s.2.1 : Nat) : Int) - ((rn2 : Nat) : Int))))) (.int .u64 r2)) fun H_7 =>
  (0 ≤ (IntKind.i64.wrap (((s.2.1 : Nat) : Int) - ((rn2 : Nat) : Int))) ∧ (IntKind.i64.wrap (((s.2.1 : Nat) : Int) - ((rn2 : Nat) : Int))) ≤ (IntKind.i64.wrap (((s.2.1 : Nat) : Int) - ((rn2 : Nat) : Int))) ∧ (IntKind.i64.wrap (((s.2.1 : Nat) : Int) - ((rn2 : Nat) : Int))) * 8 ≤ 2 ^ 48 ∧ (IntKind.i64.wrap (((s.2.1 : Nat) : Int) - ((rn2 : Nat) : Int))) < 2 ^ 62 ∧ NewH (H_7.push (.cells (repl (Int.toNat (IntKind.i64.wrap (((s.2.1 : Nat) : Int) - ((rn2 : Nat) : Int)))) [.int .u64 0]).toArray 22 (0, 0))) fun H_8 =>
  CallH P N.juntoref02_Scale [.int .u64 p, .slice rA2 rn2 rc2, .int .u64 r2] H_8 fun v5 H_9 =>
  ∃ (rA3 : Option Addr) (rn3 rc3 : Nat), v5 = .slice rA3 rn3 rc3 ∧ AppendV 22 1 8 [.int .u64 0] H_9 (some (Addr.mk H_7.size 0 none)) (Int.toNat (IntKind.i64.wrap (((s.2.1 : Nat) : Int) - ((rn2 : Nat) : Int)))) (Int.toNat (IntKind.i64.wrap (((s.2.1 : Nat) : Int) - ((rn2 : Nat) : Int)))) rA3 rn3 fun vA vn vc H_10 =>
  CallH P N.juntoref02_Sub [.int .u64 p, .slice s.1 s.2.1 s.2.2, .slice vA vn vc] H_10 fun v7 H_11 =>
  ∃ (rA4 : Option Addr) (rn4 rc4 : Nat), v7 = .slice rA4 rn4 rc4 ∧ next (rA4, rn4, rc4) H_11) ∧ CallH P N.juntoref02_Scale [.int .u64 p, .slice rA2 rn2 rc2, .int .u64 r2] H_7 fun v8 H_12 =>
  ∃ (rA5 : Option Addr) (rn5 rc5 : Nat), v8 = .slice rA5 rn5 rc5 ∧ 0 ≤ (IntKind.i64.wrap (((s.2.1 : Nat) : Int) - ((rn2 : Nat) : Int))) ∧ (IntKind.i64.wrap (((s.2.1 : Nat) : Int) - ((rn2 : Nat) : Int))) ≤ (IntKind.i64.wrap (((s.2.1 : Nat) : Int) - ((rn2 : Nat) : Int))) ∧ (IntKind.i64.wrap (((s.2.1 : Nat) : Int) - ((rn2 : Nat) : Int))) * 8 ≤ 2 ^ 48 ∧ (IntKind.i64.wrap (((s.2.1 : Nat) : Int) - ((rn2 : Nat) : Int))) < 2 ^ 62 ∧ NewH (H_12.push (.cells (repl (Int.toNat (IntKind.i64.wrap (((s.2.1 : Nat) : Int) - ((rn2 : Nat) : Int)))) [.int .u64 0]).toArray 22 (0, 0))) fun H_13 =>
  AppendV 22 1 8 [.int .u64 0] H_13 (some (Addr.mk H_12.size 0 none)) (Int.toNat (IntKind.i64.wrap (((s.2.1 : Nat) : Int) - ((rn2 : Nat) : Int)))) (Int.toNat (IntKind.i64.wrap (((s.2.1 : Nat) : Int) - ((rn2 : Nat) : Int)))) rA5 rn5 fun vA2 vn2 vc2 H_14 =>
  CallH P N.juntoref02_Sub [.int .u64 p, .slice s.1 s.2.1 s.2.2, .slice vA2 vn2 vc2] H_14 fun v10 H_15 =>
  ∃ (rA6 : Option Addr) (rn6 rc6 : Nat), v10 = .slice rA6 rn6 rc6 ∧ next (rA6, rn6, rc6) H_15)
   (CallH P N.juntoref02_Trim [.slice (some (Addr.mk H_2.size 0 none)) (Int.toNat ((rn : Nat) : Int)) (Int.toNat ((rn : Nat) : Int))] H_5 fun v11 H_16 =>
  ∃ (rA7 : Option Addr) (rn7 rc7 : Nat), v11 = .slice rA7 rn7 rc7 ∧ R (.tuple #[.slice rA7 rn7 rc7, .slice s.1 s.2.1 s.2.2]) H_16)
theorem juntoref02_Divide.ok (p : Int) (fA : Option Addr) (fn fc : Nat) (gA : Option Addr) (gn gc : Nat) (H : Heap) (R : Value → Heap → Prop) (h : juntoref02_Divide.W p fA fn fc gA gn gc H R) : CallH P N.juntoref02_Divide ([.int .u64 p, .slice fA fn fc, .slice gA gn gc] : List Value) H R := by
  have e : juntoref02_Divide.W p fA fn fc gA gn gc H R = sxFn P T Sh.R nf juntoref02_Divide.A Try.f99.results.toList (bodyOf Try.f99) (([(.int .u64 p : Value), (.slice fA fn fc : Value), (.slice gA gn gc : Value)] : List Value) ++ List.replicate (63 - ([(.int .u64 p : Value), (.slice fA fn fc : Value), (.slice gA gn gc : Value)] : List Value).length) undef) H R := by kernel_rfl
  exact call_of_sx fits bodies mixed Try.func99 (c := bodyOf Try.f99) (by kernel_rfl) Try.ntmps99 juntoref02_Divide.A (by kernel_rfl) (e.mp h)
def juntoref02_Through.A : Ann where
  loops := fun i => match i with
    | 12294 => [(5, .slice), (10, .int .i64)]
    | _ => []
  plans := fun i => match i with
    | 5 => .first 0 (.first 1 (.first 2 (.first 3 (.first 4 (.first 6 (.first 8 (.read 9 (.alt 5 [] (.alt 7 [] (.alt 10 [9] (.alt 11 [] (.first 12 (.done)) (.stop)) (.stop)) (.stop)) (.stop)))))))))
    | _ => .stop
def juntoref02_Through.W (p : Int) (lA : Option Addr) (ln lc : Nat) (H : Heap) (R : Value → Heap → Prop) : Prop :=
  LoopI (σ := (Option Addr × Nat × Nat) × Int) (fun κ => κ ((none, 0, 0), 0) H) fun s z H_ next =>
  cond (decide (s.2 < ((ln : Nat) : Int))) (∃ a : Addr, lA = some a ∧ 0 ≤ s.2 ∧ s.2 < ((ln : Nat) : Int) ∧ ∃ x0 : Int, ∃ x1 : Int, cellH H_ (a.add ((Int.toNat s.2) * 2)) = some (.int .u64 x0) ∧ cellH H_ ((a.add ((Int.toNat s.2) * 2)).add 1) = some (.int .u64 x1) ∧ NewH (H_.push (.cells #[.int .u64 0, .int .u64 0] 103 (0, 0))) fun H_2 =>
  MayWrite H_2 (Addr.mk H_.size 0 none) 2 ∧ NewH (setH (setH H_2 (Addr.mk H_.size 0 none) (.int .u64 x0)) (((Addr.mk H_.size 0 none)).add 1) (.int .u64 x1)) fun H_3 =>
  ∃ x : Int, cellH H_3 (((Addr.mk H_.size 0 none)).add 1) = some (.int .u64 x) ∧ CallH P N.juntoref02_Places [.slice lA ln lc] H_3 fun v H_4 =>
  ∃ (rA : Option Addr) (rn rc : Nat), v = .slice rA rn rc ∧ cellH H_4 (((Addr.mk H_.size 0 none)).add 1) = some (.int .u64 x) ∧ CallH P N.juntoref02_unit [.int .u64 p, .slice rA rn rc, .int .i64 s.2] H_4 fun v2 H_5 =>
  ∃ (rA2 : Option Addr) (rn2 rc2 : Nat), v2 = .slice rA2 rn2 rc2 ∧ cellH H_5 (((Addr.mk H_.size 0 none)).add 1) = some (.int .u64 x) ∧ CallH P N.juntoref02_Scale [.int .u64 p, .slice rA2 rn2 rc2, .int .u64 x] H_5 fun v3 H_6 =>
  ∃ (rA3 : Option Addr) (rn3 rc3 : Nat), v3 = .slice rA3 rn3 rc3 ∧ CallH P N.juntoref02_Add [.int .u64 p, .slice s.1.1 s.1.2.1 s.1.2.2, .slice rA3 rn3 rc3] H_6 fun v4 H_7 =>
  ∃ (rA4 : Option Addr) (rn4 rc4 : Nat), v4 = .slice rA4 rn4 rc4 ∧ next ((rA4, rn4, rc4), IntKind.i64.wrap (s.2 + 1)) H_7)
   (R (.slice s.1.1 s.1.2.1 s.1.2.2) H_)
theorem juntoref02_Through.ok (p : Int) (lA : Option Addr) (ln lc : Nat) (H : Heap) (R : Value → Heap → Prop) (h : juntoref02_Through.W p lA ln lc H R) : CallH P N.juntoref02_Through ([.int .u64 p, .slice lA ln lc] : List Value) H R := by
  have e : juntoref02_Through.W p lA ln lc H R = sxFn P T Sh.R nf juntoref02_Through.A Try.f105.results.toList (bodyOf Try.f105) (([(.int .u64 p : Value), (.slice lA ln lc : Value)] : List Value) ++ List.replicate (29 - ([(.int .u64 p : Value), (.slice lA ln lc : Value)] : List Value).length) undef) H R := by kernel_rfl
  exact call_of_sx fits bodies mixed Try.func105 (c := bodyOf Try.f105) (by kernel_rfl) Try.ntmps105 juntoref02_Through.A (by kernel_rfl) (e.mp h)
def juntoref02_Sub.A : Ann where
  loops := fun i => match i with
    | _ => []
  plans := fun i => match i with
    | _ => .stop
def juntoref02_Sub.W (p : Int) (fA : Option Addr) (fn fc : Nat) (gA : Option Addr) (gn gc : Nat) (H : Heap) (R : Value → Heap → Prop) : Prop :=
  CallH P N.juntoref02_Scale [.int .u64 p, .slice gA gn gc, .int .u64 (IntKind.u64.wrap (p - 1))] H fun v H_ =>
  ∃ (rA : Option Addr) (rn rc : Nat), v = .slice rA rn rc ∧ CallH P N.juntoref02_Add [.int .u64 p, .slice fA fn fc, .slice rA rn rc] H_ fun v2 H_2 =>
  ∃ (rA2 : Option Addr) (rn2 rc2 : Nat), v2 = .slice rA2 rn2 rc2 ∧ R (.slice rA2 rn2 rc2) H_2
theorem juntoref02_Sub.ok (p : Int) (fA : Option Addr) (fn fc : Nat) (gA : Option Addr) (gn gc : Nat) (H : Heap) (R : Value → Heap → Prop) (h : juntoref02_Sub.W p fA fn fc gA gn gc H R) : CallH P N.juntoref02_Sub ([.int .u64 p, .slice fA fn fc, .slice gA gn gc] : List Value) H R := by
  have e : juntoref02_Sub.W p fA fn fc gA gn gc H R = sxFn P T Sh.R nf juntoref02_Sub.A Try.f122.results.toList (bodyOf Try.f122) (([(.int .u64 p : Value), (.slice fA fn fc : Value), (.slice gA gn gc : Value)] : List Value) ++ List.replicate (15 - ([(.int .u64 p : Value), (.slice fA fn fc : Value), (.slice gA gn gc : Value)] : List Value).length) undef) H R := by kernel_rfl
  exact call_of_sx fits bodies mixed Try.func122 (c := bodyOf Try.f122) (by kernel_rfl) Try.ntmps122 juntoref02_Sub.A (by kernel_rfl) (e.mp h)
def juntoref02_Scale.A : Ann where
  loops := fun i => match i with
    | 12294 => [(14, .int .i64)]
    | _ => []
  plans := fun i => match i with
    | _ => .stop
def juntoref02_Scale.W (p : Int) (fA : Option Addr) (fn fc : Nat) (k : Int) (H : Heap) (R : Value → Heap → Prop) : Prop :=
  0 ≤ ((fn : Nat) : Int) ∧ ((fn : Nat) : Int) ≤ ((fn : Nat) : Int) ∧ ((fn : Nat) : Int) * 8 ≤ 2 ^ 48 ∧ ((fn : Nat) : Int) < 2 ^ 62 ∧ NewH (H.push (.cells (repl (Int.toNat ((fn : Nat) : Int)) [.int .u64 0]).toArray 22 (0, 0))) fun H_ =>
  LoopI (σ := Int) (fun κ => κ 0 H_) fun s z H_2 next =>
  cond (decide (s < ((fn : Nat) : Int))) (∃ a : Addr, fA = some a ∧ 0 ≤ s ∧ s < ((fn : Nat) : Int) ∧ ∃ x : Int, cellH H_2 (a.add (Int.toNat s)) = some (.int .u64 x) ∧ CallH P N.juntoref01_Mul [.int .u64 p, .int .u64 x, .int .u64 k] H_2 fun v H_3 =>
  ∃ r : Int, v = .int .u64 r ∧ ∃ a2 : Addr, (some (Addr.mk H.size 0 none) : Option Addr) = some a2 ∧ 0 ≤ s ∧ s < ((Int.toNat ((fn : Nat) : Int) : Nat) : Int) ∧ MayWrite H_3 (a2.add (Int.toNat s)) 1 ∧ NewH (setH H_3 (a2.add (Int.toNat s)) (.int .u64 r)) fun H_4 =>
  next (IntKind.i64.wrap (s + 1)) H_4)
   (CallH P N.juntoref02_Trim [.slice (some (Addr.mk H.size 0 none)) (Int.toNat ((fn : Nat) : Int)) (Int.toNat ((fn : Nat) : Int))] H_2 fun v2 H_5 =>
  ∃ (rA : Option Addr) (rn rc : Nat), v2 = .slice rA rn rc ∧ R (.slice rA rn rc) H_5)
theorem juntoref02_Scale.ok (p : Int) (fA : Option Addr) (fn fc : Nat) (k : Int) (H : Heap) (R : Value → Heap → Prop) (h : juntoref02_Scale.W p fA fn fc k H R) : CallH P N.juntoref02_Scale ([.int .u64 p, .slice fA fn fc, .int .u64 k] : List Value) H R := by
  have e : juntoref02_Scale.W p fA fn fc k H R = sxFn P T Sh.R nf juntoref02_Scale.A Try.f123.results.toList (bodyOf Try.f123) (([(.int .u64 p : Value), (.slice fA fn fc : Value), (.int .u64 k : Value)] : List Value) ++ List.replicate (30 - ([(.int .u64 p : Value), (.slice fA fn fc : Value), (.int .u64 k : Value)] : List Value).length) undef) H R := by kernel_rfl
  exact call_of_sx fits bodies mixed Try.func123 (c := bodyOf Try.f123) (by kernel_rfl) Try.ntmps123 juntoref02_Scale.A (by kernel_rfl) (e.mp h)
def juntoref02_Add.A : Ann where
  loops := fun i => match i with
    | 12294 => [(17, .int .i64)]
    | _ => []
  plans := fun i => match i with
    | _ => .stop
def juntoref02_Add.W (p : Int) (fA : Option Addr) (fn fc : Nat) (gA : Option Addr) (gn gc : Nat) (H : Heap) (R : Value → Heap → Prop) : Prop :=
  0 ≤ (if ((gn : Nat) : Int) > ((fn : Nat) : Int) then ((gn : Nat) : Int) else ((fn : Nat) : Int)) ∧ (if ((gn : Nat) : Int) > ((fn : Nat) : Int) then ((gn : Nat) : Int) else ((fn : Nat) : Int)) ≤ (if ((gn : Nat) : Int) > ((fn : Nat) : Int) then ((gn : Nat) : Int) else ((fn : Nat) : Int)) ∧ (if ((gn : Nat) : Int) > ((fn : Nat) : Int) then ((gn : Nat) : Int) else ((fn : Nat) : Int)) * 8 ≤ 2 ^ 48 ∧ (if ((gn : Nat) : Int) > ((fn : Nat) : Int) then ((gn : Nat) : Int) else ((fn : Nat) : Int)) < 2 ^ 62 ∧ NewH (H.push (.cells (repl (Int.toNat (if ((gn : Nat) : Int) > ((fn : Nat) : Int) then ((gn : Nat) : Int) else ((fn : Nat) : Int))) [.int .u64 0]).toArray 22 (0, 0))) fun H_ =>
  LoopI (σ := Int) (fun κ => κ 0 H_) fun s z H_2 next =>
  cond (decide (s < ((Int.toNat (if ((gn : Nat) : Int) > ((fn : Nat) : Int) then ((gn : Nat) : Int) else ((fn : Nat) : Int)) : Nat) : Int))) (CallH P N.juntoref02_at [.slice fA fn fc, .int .i64 s] H_2 fun v H_3 =>
  ∃ r : Int, v = .int .u64 r ∧ CallH P N.juntoref02_at [.slice gA gn gc, .int .i64 s] H_3 fun v2 H_4 =>
  ∃ r2 : Int, v2 = .int .u64 r2 ∧ CallH P N.juntoref01_Add [.int .u64 p, .int .u64 r, .int .u64 r2] H_4 fun v3 H_5 =>
  ∃ r3 : Int, v3 = .int .u64 r3 ∧ ∃ a : Addr, (some (Addr.mk H.size 0 none) : Option Addr) = some a ∧ 0 ≤ s ∧ s < ((Int.toNat (if ((gn : Nat) : Int) > ((fn : Nat) : Int) then ((gn : Nat) : Int) else ((fn : Nat) : Int)) : Nat) : Int) ∧ MayWrite H_5 (a.add (Int.toNat s)) 1 ∧ NewH (setH H_5 (a.add (Int.toNat s)) (.int .u64 r3)) fun H_6 =>
  next (IntKind.i64.wrap (s + 1)) H_6)
   (CallH P N.juntoref02_Trim [.slice (some (Addr.mk H.size 0 none)) (Int.toNat (if ((gn : Nat) : Int) > ((fn : Nat) : Int) then ((gn : Nat) : Int) else ((fn : Nat) : Int))) (Int.toNat (if ((gn : Nat) : Int) > ((fn : Nat) : Int) then ((gn : Nat) : Int) else ((fn : Nat) : Int)))] H_2 fun v4 H_7 =>
  ∃ (rA : Option Addr) (rn rc : Nat), v4 = .slice rA rn rc ∧ R (.slice rA rn rc) H_7)
theorem juntoref02_Add.ok (p : Int) (fA : Option Addr) (fn fc : Nat) (gA : Option Addr) (gn gc : Nat) (H : Heap) (R : Value → Heap → Prop) (h : juntoref02_Add.W p fA fn fc gA gn gc H R) : CallH P N.juntoref02_Add ([.int .u64 p, .slice fA fn fc, .slice gA gn gc] : List Value) H R := by
  have e : juntoref02_Add.W p fA fn fc gA gn gc H R = sxFn P T Sh.R nf juntoref02_Add.A Try.f127.results.toList (bodyOf Try.f127) (([(.int .u64 p : Value), (.slice fA fn fc : Value), (.slice gA gn gc : Value)] : List Value) ++ List.replicate (34 - ([(.int .u64 p : Value), (.slice fA fn fc : Value), (.slice gA gn gc : Value)] : List Value).length) undef) H R := by kernel_rfl
  exact call_of_sx fits bodies mixed Try.func127 (c := bodyOf Try.f127) (by kernel_rfl) Try.ntmps127 juntoref02_Add.A (by kernel_rfl) (e.mp h)
def juntoref02_unit.A : Ann where
  loops := fun i => match i with
    | 12295 => [(7, .slice), (13, .int .i64)]
    | _ => []
  plans := fun i => match i with
    | 6 => .first 0 (.first 1 (.first 2 (.first 3 (.first 4 (.first 8 (.first 9 (.first 10 (.first 11 (.first 12 (.first 14 (.read 13 (.alt 5 [] (.alt 6 [] (.alt 7 [] (.alt 15 [13] (.alt 16 [] (.alt 17 [] (.first 18 (.done)) (.stop)) (.stop)) (.stop)) (.stop)) (.stop)) (.stop)))))))))))))
    | _ => .stop
def juntoref02_unit.W (p : Int) (xsA : Option Addr) (xsn xsc : Nat) (i : Int) (H : Heap) (R : Value → Heap → Prop) : Prop :=
  NewH (H.push (.cells #[.int .u64 1] 22 (0, 0))) fun H_ =>
  LoopI (σ := (Option Addr × Nat × Nat) × Int) (fun κ => κ (((some (Addr.mk H.size 0 none) : Option Addr), 1, 1), 0) H_) fun s z H_2 next =>
  cond (decide (s.2 < ((xsn : Nat) : Int))) (∃ a : Addr, xsA = some a ∧ 0 ≤ s.2 ∧ s.2 < ((xsn : Nat) : Int) ∧ ∃ x : Int, cellH H_2 (a.add (Int.toNat s.2)) = some (.int .u64 x) ∧ cond (s.2 != i) (∃ a2 : Addr, xsA = some a2 ∧ 0 ≤ i ∧ i < ((xsn : Nat) : Int) ∧ ∃ x2 : Int, cellH H_2 (a2.add (Int.toNat i)) = some (.int .u64 x2) ∧ CallH P N.juntoref01_Sub [.int .u64 p, .int .u64 0, .int .u64 x] H_2 fun v H_3 =>
  ∃ r : Int, v = .int .u64 r ∧ cellH H_3 (a2.add (Int.toNat i)) = some (.int .u64 x2) ∧ NewH (H_3.push (.cells #[.int .u64 r, .int .u64 1] 22 (0, 0))) fun H_4 =>
  cellH H_4 (a2.add (Int.toNat i)) = some (.int .u64 x2) ∧ CallH P N.juntoref02_Mul [.int .u64 p, .slice s.1.1 s.1.2.1 s.1.2.2, .slice (some (Addr.mk H_3.size 0 none)) 2 2] H_4 fun v2 H_5 =>
  ∃ (rA : Option Addr) (rn rc : Nat), v2 = .slice rA rn rc ∧ cellH H_5 (a2.add (Int.toNat i)) = some (.int .u64 x2) ∧ CallH P N.juntoref01_Sub [.int .u64 p, .int .u64 x2, .int .u64 x] H_5 fun v3 H_6 =>
  ∃ r2 : Int, v3 = .int .u64 r2 ∧ CallH P N.juntoref01_Inv [.int .u64 p, .int .u64 r2] H_6 fun v4 H_7 =>
  ∃ r3 : Int, v4 = .int .u64 r3 ∧ CallH P N.juntoref02_Scale [.int .u64 p, .slice rA rn rc, .int .u64 r3] H_7 fun v5 H_8 =>
  ∃ (rA2 : Option Addr) (rn2 rc2 : Nat), v5 = .slice rA2 rn2 rc2 ∧ next ((rA2, rn2, rc2), IntKind.i64.wrap (s.2 + 1)) H_8)
   (next ((s.1.1, s.1.2.1, s.1.2.2), IntKind.i64.wrap (s.2 + 1)) H_2))
   (R (.slice s.1.1 s.1.2.1 s.1.2.2) H_2)
theorem juntoref02_unit.ok (p : Int) (xsA : Option Addr) (xsn xsc : Nat) (i : Int) (H : Heap) (R : Value → Heap → Prop) (h : juntoref02_unit.W p xsA xsn xsc i H R) : CallH P N.juntoref02_unit ([.int .u64 p, .slice xsA xsn xsc, .int .i64 i] : List Value) H R := by
  have e : juntoref02_unit.W p xsA xsn xsc i H R = sxFn P T Sh.R nf juntoref02_unit.A Try.f128.results.toList (bodyOf Try.f128) (([(.int .u64 p : Value), (.slice xsA xsn xsc : Value), (.int .i64 i : Value)] : List Value) ++ List.replicate (41 - ([(.int .u64 p : Value), (.slice xsA xsn xsc : Value), (.int .i64 i : Value)] : List Value).length) undef) H R := by kernel_rfl
  exact call_of_sx fits bodies mixed Try.func128 (c := bodyOf Try.f128) (by kernel_rfl) Try.ntmps128 juntoref02_unit.A (by kernel_rfl) (e.mp h)
def juntoref02_Places.A : Ann where
  loops := fun i => match i with
    | 12294 => [(3, .slice), (8, .int .i64)]
    | _ => []
  plans := fun i => match i with
    | _ => .stop
def juntoref02_Places.W (lA : Option Addr) (ln lc : Nat) (H : Heap) (R : Value → Heap → Prop) : Prop :=
  LoopI (σ := (Option Addr × Nat × Nat) × Int) (fun κ => κ ((none, 0, 0), 0) H) fun s z H_ next =>
  cond (decide (s.2 < ((ln : Nat) : Int))) (∃ a : Addr, lA = some a ∧ 0 ≤ s.2 ∧ s.2 < ((ln : Nat) : Int) ∧ ∃ x0 : Int, ∃ x1 : Int, cellH H_ (a.add ((Int.toNat s.2) * 2)) = some (.int .u64 x0) ∧ cellH H_ ((a.add ((Int.toNat s.2) * 2)).add 1) = some (.int .u64 x1) ∧ NewH (H_.push (.cells #[.int .u64 0, .int .u64 0] 103 (0, 0))) fun H_2 =>
  MayWrite H_2 (Addr.mk H_.size 0 none) 2 ∧ NewH (setH (setH H_2 (Addr.mk H_.size 0 none) (.int .u64 x0)) (((Addr.mk H_.size 0 none)).add 1) (.int .u64 x1)) fun H_3 =>
  ∃ x : Int, cellH H_3 (Addr.mk H_.size 0 none) = some (.int .u64 x) ∧ NewH (H_3.push (.cells #[.int .u64 x] 22 (0, 0))) fun H_4 =>
  AppendV 22 1 8 [.int .u64 0] H_4 s.1.1 s.1.2.1 s.1.2.2 (some (Addr.mk H_3.size 0 none)) 1 fun vA vn vc H_5 =>
  next ((vA, vn, vc), IntKind.i64.wrap (s.2 + 1)) H_5)
   (R (.slice s.1.1 s.1.2.1 s.1.2.2) H_)
theorem juntoref02_Places.ok (lA : Option Addr) (ln lc : Nat) (H : Heap) (R : Value → Heap → Prop) (h : juntoref02_Places.W lA ln lc H R) : CallH P N.juntoref02_Places ([.slice lA ln lc] : List Value) H R := by
  have e : juntoref02_Places.W lA ln lc H R = sxFn P T Sh.R nf juntoref02_Places.A Try.f129.results.toList (bodyOf Try.f129) (([(.slice lA ln lc : Value)] : List Value) ++ List.replicate (19 - ([(.slice lA ln lc : Value)] : List Value).length) undef) H R := by kernel_rfl
  exact call_of_sx fits bodies mixed Try.func129 (c := bodyOf Try.f129) (by kernel_rfl) Try.ntmps129 juntoref02_Places.A (by kernel_rfl) (e.mp h)
def juntoref02_at.A : Ann where
  loops := fun i => match i with
    | _ => []
  plans := fun i => match i with
    | _ => .stop
def juntoref02_at.W (fA : Option Addr) (fn fc : Nat) (i : Int) (H : Heap) (R : Value → Heap → Prop) : Prop :=
  cond (decide (i < ((fn : Nat) : Int))) (∃ a : Addr, fA = some a ∧ 0 ≤ i ∧ i < ((fn : Nat) : Int) ∧ ∃ x : Int, cellH H (a.add (Int.toNat i)) = some (.int .u64 x) ∧ R (.int .u64 x) H)
   (R (.int .u64 0) H)
theorem juntoref02_at.ok (fA : Option Addr) (fn fc : Nat) (i : Int) (H : Heap) (R : Value → Heap → Prop) (h : juntoref02_at.W fA fn fc i H R) : CallH P N.juntoref02_at ([.slice fA fn fc, .int .i64 i] : List Value) H R := by
  have e : juntoref02_at.W fA fn fc i H R = sxFn P T Sh.R nf juntoref02_at.A Try.f143.results.toList (bodyOf Try.f143) (([(.slice fA fn fc : Value), (.int .i64 i : Value)] : List Value) ++ List.replicate (13 - ([(.slice fA fn fc : Value), (.int .i64 i : Value)] : List Value).length) undef) H R := by kernel_rfl
  exact call_of_sx fits bodies mixed Try.func143 (c := bodyOf Try.f143) (by kernel_rfl) Try.ntmps143 juntoref02_at.A (by kernel_rfl) (e.mp h)
end Go.Proofs.Ytlhcaangdenoaaa.Sh
namespace Go.Proofs.Ytlhcaangdenoaaa.Sh
open Go.Sx Go.Lf
def juntoref02_Trim.C (f : (List Nat)) (K : (List Nat) → Prop) : Prop :=
  ∀ (Z : Nat → Prop) (H : Heap), ∀ (fA : Option Addr) (fn fc : Nat), fn = f.length → SlF u64L Z H fA fc f → ∀ KK : Value → Heap → Prop,
    (∀ (Z' : Nat → Prop) (H' : Heap), Ext H H' → Old Z H Z' → ∀ (r0 : (List Nat)), ∀ (Y0 : Nat → Prop), (∀ i, Y0 i → H.size ≤ i ∧ ¬ Z' i) → ∀ (Ar0_0 : Option Addr) (nr0_0 cr0_0 : Nat), nr0_0 = r0.length → SlO (rdM u64L) 22 Z' Y0 H' Ar0_0 cr0_0 r0 → K r0 → KK (.slice Ar0_0 nr0_0 cr0_0) H') →
    CallH P N.juntoref02_Trim [.slice fA fn fc] H KK
def juntoref02_Trim.Q (f : (List Nat)) (K : (List Nat) → Prop) : Prop :=
  LoopQ (τ := Int) ((f.length : Nat) : Int) fun t nextQ =>
  cond (decide (t > 0)) (0 ≤ (IntKind.i64.wrap (t - 1)) ∧ ∃ x : Nat, f[Int.toNat (IntKind.i64.wrap (t - 1))]? = some x ∧ cond ((x : Int) == 0) (nextQ (IntKind.i64.wrap (t - 1)))
   (0 ≤ t ∧ t ≤ ((f.length : Nat) : Int) ∧ AppOk 8 ([] ++ (List.take (Int.toNat t) f)).length ∧ K (List.take (Int.toNat t) f)))
   (0 ≤ t ∧ t ≤ ((f.length : Nat) : Int) ∧ AppOk 8 ([] ++ (List.take (Int.toNat t) f)).length ∧ K (List.take (Int.toNat t) f))
theorem juntoref02_Trim.q {f : (List Nat)} {K : (List Nat) → Prop} (q : juntoref02_Trim.Q f K) : juntoref02_Trim.C f K := by
  intro Z H fA fn fc hn f2 KK hk
  cases hn
  apply juntoref02_Trim.ok
  unfold juntoref02_Trim.W
  unfold juntoref02_Trim.Q at q
  obtain ⟨σ, hz, hσ⟩ := tags Z
  have hs : Stp ([1, 2] : List Nat) σ H σ H := Stp.refl _ _ _
  replace f2 := f2.wide hz
  clear hz
  refine LoopI.ofQ q (fun t_ s_ hp_ => ∃ (σ_ : Nat → Nat), Stp [] σ H σ_ hp_ ∧ t_ = s_) (fun h k => h _ _ k) ⟨_, Stp.refl _ _ _, rfl⟩ ?_
  rintro t _ _ H_ next nextQ ⟨xσ, st, rfl⟩ q hnext
  try dsimp only at q ⊢
  replace f2 := f2.step st
  replace hs := hs.trans st
  have sl0 := st
  refine condI (fun q => ?_) (fun q => ?_) q
  · obtain ⟨h0, x, hx, q⟩ := q
    obtain ⟨a, ha, hi⟩ := f2.addr h0 hx rfl
    refine ⟨a, ha, hi.1, hi.2, ?_⟩
    have hc := f2.ldu ha h0 hx
    refine ⟨_, hc.val, ?_⟩
    refine condI (fun q => ?_) (fun q => ?_) q
    · exact hnext (IntKind.i64.wrap (t - 1)) _ _ ⟨_, sl0, rfl⟩ q
    · refine NewH.mk fun H_2 e => ?_
      obtain ⟨xσ2, st2, f3⟩ := SlO.lit (E := u64L) xσ 1 (xs := []) (l := []) e rfl .nil (show (0 : Nat) ≤ 17592186044416 by decide)
      replace f2 := f2.step st2
      replace hc := hc.step st2
      replace hs := hs.trans st2
      obtain ⟨q2, q3, q⟩ := q
      have f4 := f2.upto (u := Int.toNat t) (upto_le rfl q3)
      refine ⟨q2, cap_le rfl f2.cap q3, ?_⟩
      obtain ⟨q4, q⟩ := q
      refine SlO.appF f3 f4 rfl rfl q4.l q4.r rfl (take_len rfl q3) (fun A c H_3 xσ3 st3 f3_ => ?_)
      replace f3 := f3_
      replace f2 := f2.step st3
      replace hc := hc.step st3
      replace f4 := f4.step st3
      replace hs := hs.trans st3
      have f5 := SlO.nilapp f3; clear f3
      exact hk (Zt xσ3) _ (hs.ext hσ) (hs.old hσ) _ (Yt xσ3 1) (hs.fresh hσ) _ _ _ rfl f5 q
  · refine NewH.mk fun H_4 e2 => ?_
    obtain ⟨xσ4, st4, f6⟩ := SlO.lit (E := u64L) xσ 2 (xs := []) (l := []) e2 rfl .nil (show (0 : Nat) ≤ 17592186044416 by decide)
    replace f2 := f2.step st4
    replace hs := hs.trans st4
    obtain ⟨q5, q6, q⟩ := q
    have f7 := f2.upto (u := Int.toNat t) (upto_le rfl q6)
    refine ⟨q5, cap_le rfl f2.cap q6, ?_⟩
    obtain ⟨q7, q⟩ := q
    refine SlO.appF f6 f7 rfl rfl q7.l q7.r rfl (take_len rfl q6) (fun A2 c2 H_5 xσ5 st5 f6_ => ?_)
    replace f6 := f6_
    replace f2 := f2.step st5
    replace f7 := f7.step st5
    replace hs := hs.trans st5
    have f8 := SlO.nilapp f6; clear f6
    exact hk (Zt xσ5) _ (hs.ext hσ) (hs.old hσ) _ (Yt xσ5 2) (hs.fresh hσ) _ _ _ rfl f8 q
def juntoref02_Eval.C (p : Nat) (f : (List Nat)) (x : Nat) (K : Nat → Prop) : Prop :=
  ∀ (Z : Nat → Prop) (H : Heap), ∀ (pv : Int), pv = (p : Int) → ∀ (fA : Option Addr) (fn fc : Nat), fn = f.length → SlF u64L Z H fA fc f → ∀ (xv : Int), xv = (x : Int) → ∀ KK : Value → Heap → Prop,
    (∀ (Z' : Nat → Prop) (H' : Heap), Ext H H' → Old Z H Z' → ∀ (r0 : Nat), ∀ (r0v0 : Int), r0v0 = (r0 : Int) → K r0 → KK (.int .u64 r0v0) H') →
    CallH P N.juntoref02_Eval [.int .u64 pv, .slice fA fn fc, .int .u64 xv] H KK
def juntoref02_Eval.Q (p : Nat) (f : (List Nat)) (x : Nat) (K : Nat → Prop) : Prop :=
  LoopQ (τ := Nat × Nat × Int) (0, 1, 0) fun t nextQ =>
  cond (decide (t.2.2 < ((f.length : Nat) : Int))) (0 ≤ t.2.2 ∧ ∃ x4 : Nat, f[Int.toNat t.2.2]? = some x4 ∧ juntoref01_Mul.C p x4 t.2.1 (fun (x5 : Nat) =>
  juntoref01_Add.C p t.1 x5 (fun (x6 : Nat) =>
  juntoref01_Mul.C p t.2.1 x (fun (x7 : Nat) =>
  nextQ (x6, x7, IntKind.i64.wrap (t.2.2 + 1))))))
   (K t.1)
theorem juntoref02_Eval.q {p : Nat} {f : (List Nat)} {x : Nat} {K : Nat → Prop} (q : juntoref02_Eval.Q p f x K) : juntoref02_Eval.C p f x K := by
  intro Z H pv he fA fn fc hn f2 xv he2 KK hk
  cases he
  cases hn
  cases he2
  apply juntoref02_Eval.ok
  unfold juntoref02_Eval.W
  unfold juntoref02_Eval.Q at q
  obtain ⟨σ, hz, hσ⟩ := tags Z
  have hs : Stp ([] : List Nat) σ H σ H := Stp.refl _ _ _
  replace f2 := f2.wide hz
  clear hz
  refine LoopI.ofQ q (fun t_ s_ hp_ => ∃ (σ_ : Nat → Nat) (x0_ : Int) (x1_ : Int), Stp [] σ H σ_ hp_ ∧ (x0_, x1_, t_.2.2) = s_ ∧ x0_ = ((t_.1 : Nat) : Int) ∧ x1_ = ((t_.2.1 : Nat) : Int)) (fun h k => h _ _ k) ⟨_, _, _, Stp.refl _ _ _, rfl, rfl, rfl⟩ ?_
  rintro t _ _ H_ next nextQ ⟨xσ, x2, x3, st, rfl, rfl, rfl⟩ q hnext
  try dsimp only at q ⊢
  replace f2 := f2.step st
  replace hs := hs.trans st
  have sl0 := st
  refine condI (fun q => ?_) (fun q => ?_) q
  · obtain ⟨h0, x4, hx, q⟩ := q
    obtain ⟨a, ha, hi⟩ := f2.addr h0 hx rfl
    refine ⟨a, ha, hi.1, hi.2, ?_⟩
    have hc := f2.ldu ha h0 hx
    refine ⟨_, hc.val, ?_⟩
    refine q (Zt xσ) H_ _ rfl _ rfl _ rfl _ (fun Z2 H_2 hE hO x5 v he3 q => ?_)
    obtain ⟨xσ2, st2⟩ := call0 hE xσ
    cases he3
    replace f2 := f2.step st2
    replace hc := hc.step st2
    replace hs := hs.trans st2
    replace sl0 := sl0.trans st2
    refine ⟨_, rfl, ?_⟩
    refine q (Zt xσ2) H_2 _ rfl _ rfl _ rfl _ (fun Z3 H_3 hE2 hO2 x6 v2 he4 q => ?_)
    obtain ⟨xσ3, st3⟩ := call0 hE2 xσ2
    cases he4
    replace f2 := f2.step st3
    replace hc := hc.step st3
    replace hs := hs.trans st3
    replace sl0 := sl0.trans st3
    refine ⟨_, rfl, ?_⟩
    refine q (Zt xσ3) H_3 _ rfl _ rfl _ rfl _ (fun Z4 H_4 hE3 hO3 x7 v3 he5 q => ?_)
    obtain ⟨xσ4, st4⟩ := call0 hE3 xσ3
    cases he5
    replace f2 := f2.step st4
    replace hc := hc.step st4
    replace hs := hs.trans st4
    replace sl0 := sl0.trans st4
    refine ⟨_, rfl, ?_⟩
    exact hnext (x6, x7, IntKind.i64.wrap (t.2.2 + 1)) _ _ ⟨_, _, _, sl0, rfl, rfl, rfl⟩ q
  · exact hk (Zt xσ) _ (hs.ext hσ) (hs.old hσ) _ _ rfl q
def juntoref02_Twice.C (l : (List Nat)) (K : Bool → Prop) : Prop :=
  ∀ (Z : Nat → Prop) (H : Heap), ∀ (lA : Option Addr) (ln lc : Nat), ln = l.length → SlF u64L Z H lA lc l → ∀ KK : Value → Heap → Prop,
    (∀ (Z' : Nat → Prop) (H' : Heap), Ext H H' → Old Z H Z' → ∀ (r0 : Bool), K r0 → KK (.bool r0) H') →
    CallH P N.juntoref02_Twice [.slice lA ln lc] H KK
def juntoref02_Twice.Q (l : (List Nat)) (K : Bool → Prop) : Prop :=
  LoopQ (τ := Int) 0 fun t nextQ =>
  cond (decide (t < ((l.length : Nat) : Int))) (LoopQ (τ := Int) 0 fun t2 nextQ2 =>
  cond (decide (t2 < t)) (0 ≤ t ∧ ∃ x : Nat, l[Int.toNat t]? = some x ∧ 0 ≤ t2 ∧ ∃ x2 : Nat, l[Int.toNat t2]? = some x2 ∧ cond ((x : Int) == (x2 : Int)) (K true)
   (nextQ2 (IntKind.i64.wrap (t2 + 1))))
   (nextQ (IntKind.i64.wrap (t + 1))))
   (K false)
theorem juntoref02_Twice.q {l : (List Nat)} {K : Bool → Prop} (q : juntoref02_Twice.Q l K) : juntoref02_Twice.C l K := by
  intro Z H lA ln lc hn f KK hk
  cases hn
  apply juntoref02_Twice.ok
  unfold juntoref02_Twice.W
  unfold juntoref02_Twice.Q at q
  obtain ⟨σ, hz, hσ⟩ := tags Z
  have hs : Stp ([] : List Nat) σ H σ H := Stp.refl _ _ _
  replace f := f.wide hz
  clear hz
  refine LoopI.ofQ q (fun t_ s_ hp_ => ∃ (σ_ : Nat → Nat), Stp [] σ H σ_ hp_ ∧ t_ = s_) (fun h k => h _ _ k) ⟨_, Stp.refl _ _ _, rfl⟩ ?_
  rintro t _ _ H_ next nextQ ⟨xσ, st, rfl⟩ q hnext
  try dsimp only at q ⊢
  replace f := f.step st
  replace hs := hs.trans st
  have sl0 := st
  refine condI (fun q => ?_) (fun q => ?_) q
  · refine LoopI.ofQ q (fun t_ s_ hp_ => ∃ (σ_ : Nat → Nat), Stp [] xσ H_ σ_ hp_ ∧ t_ = s_) (fun h k => h _ _ k) ⟨_, Stp.refl _ _ _, rfl⟩ ?_
    rintro t2 _ _ H_2 next2 nextQ2 ⟨xσ2, st2, rfl⟩ q hnext2
    try dsimp only at q ⊢
    replace f := f.step st2
    replace hs := hs.trans st2
    replace sl0 := sl0.trans st2
    have sl1 := st2
    refine condI (fun q => ?_) (fun q => ?_) q
    · obtain ⟨h0, x, hx, q⟩ := q
      obtain ⟨a, ha, hi⟩ := f.addr h0 hx rfl
      refine ⟨a, ha, hi.1, hi.2, ?_⟩
      obtain ⟨h02, x2, hx2, q⟩ := q
      obtain ⟨a2, ha2, hi2⟩ := f.addr h02 hx2 rfl
      refine ⟨a2, ha2, hi2.1, hi2.2, ?_⟩
      have hc := f.ldu ha h0 hx
      refine ⟨_, hc.val, ?_⟩
      have hc2 := f.ldu ha2 h02 hx2
      refine ⟨_, hc2.val, ?_⟩
      refine condI (fun q => ?_) (fun q => ?_) q
      · exact hk (Zt xσ2) _ (hs.ext hσ) (hs.old hσ) _ q
      · exact hnext2 (IntKind.i64.wrap (t2 + 1)) _ _ ⟨_, sl1, rfl⟩ q
    · exact hnext (IntKind.i64.wrap (t + 1)) _ _ ⟨_, sl0, rfl⟩ q
  · exact hk (Zt xσ) _ (hs.ext hσ) (hs.old hσ) _ q
def juntoref02_Mul.C (p : Nat) (f : (List Nat)) (g : (List Nat)) (K : (List Nat) → Prop) : Prop :=
  ∀ (Z : Nat → Prop) (H : Heap), ∀ (pv : Int), pv = (p : Int) → ∀ (fA : Option Addr) (fn fc : Nat), fn = f.length → SlF u64L Z H fA fc f → ∀ (gA : Option Addr) (gn gc : Nat), gn = g.length → SlF u64L Z H gA gc g → ∀ KK : Value → Heap → Prop,
    (∀ (Z' : Nat → Prop) (H' : Heap), Ext H H' → Old Z H Z' → ∀ (r0 : (List Nat)), ∀ (Y0 : Nat → Prop), (∀ i, Y0 i → H.size ≤ i ∧ ¬ Z' i) → ∀ (Ar0_0 : Option Addr) (nr0_0 cr0_0 : Nat), nr0_0 = r0.length → SlO (rdM u64L) 22 Z' Y0 H' Ar0_0 cr0_0 r0 → K r0 → KK (.slice Ar0_0 nr0_0 cr0_0) H') →
    CallH P N.juntoref02_Mul [.int .u64 pv, .slice fA fn fc, .slice gA gn gc] H KK
def juntoref02_Mul.Q (p : Nat) (f : (List Nat)) (g : (List Nat)) (K : (List Nat) → Prop) : Prop :=
  MakeOk 8 (IntKind.i64.wrap (((f.length : Nat) : Int) + ((g.length : Nat) : Int))) ∧ LoopQ (τ := Int × List Nat) (0, (List.replicate (Int.toNat (IntKind.i64.wrap (((f.length : Nat) : Int) + ((g.length : Nat) : Int)))) 0)) fun t nextQ =>
  cond (decide (t.1 < ((f.length : Nat) : Int))) (LoopQ (τ := Int × List Nat) (0, t.2) fun t2 nextQ2 =>
  cond (decide (t2.1 < ((g.length : Nat) : Int))) (0 ≤ (IntKind.i64.wrap (t.1 + t2.1)) ∧ (IntKind.i64.wrap (t.1 + t2.1)) < ((Int.toNat (IntKind.i64.wrap (((f.length : Nat) : Int) + ((g.length : Nat) : Int))) : Nat) : Int) ∧ 0 ≤ t.1 ∧ ∃ x : Nat, f[Int.toNat t.1]? = some x ∧ 0 ≤ t2.1 ∧ ∃ x2 : Nat, g[Int.toNat t2.1]? = some x2 ∧ ∃ x3 : Nat, t2.2[Int.toNat (IntKind.i64.wrap (t.1 + t2.1))]? = some x3 ∧ juntoref01_Mul.C p x x2 (fun (x4 : Nat) =>
  juntoref01_Add.C p x3 x4 (fun (x5 : Nat) =>
  0 ≤ (IntKind.i64.wrap (t.1 + t2.1)) ∧ (IntKind.i64.wrap (t.1 + t2.1)) < ((Int.toNat (IntKind.i64.wrap (((f.length : Nat) : Int) + ((g.length : Nat) : Int))) : Nat) : Int) ∧ nextQ2 (IntKind.i64.wrap (t2.1 + 1), (List.set t2.2 (Int.toNat (IntKind.i64.wrap (t.1 + t2.1))) x5)))))
   (nextQ (IntKind.i64.wrap (t.1 + 1), t2.2)))
   (juntoref02_Trim.C t.2 (fun (x6 : (List Nat)) =>
  K x6))
theorem juntoref02_Mul.q {p : Nat} {f : (List Nat)} {g : (List Nat)} {K : (List Nat) → Prop} (q : juntoref02_Mul.Q p f g K) : juntoref02_Mul.C p f g K := by
  intro Z H pv he fA fn fc hn f2 gA gn gc hn2 f3 KK hk
  cases he
  cases hn
  cases hn2
  apply juntoref02_Mul.ok
  unfold juntoref02_Mul.W
  unfold juntoref02_Mul.Q at q
  obtain ⟨σ, hz, hσ⟩ := tags Z
  have hs : Stp ([1, 2] : List Nat) σ H σ H := Stp.refl _ _ _
  replace f2 := f2.wide hz
  replace f3 := f3.wide hz
  clear hz
  obtain ⟨q2, q⟩ := q
  refine ⟨q2.1, Int.le_refl _, q2.w1, q2.w2, NewH.mk fun H_ e => ?_⟩
  obtain ⟨xσ, st, f4⟩ := SlO.made (O := (rdM u64L)) σ 1 e (u64_zero) q2.len
  replace f2 := f2.step st
  replace f3 := f3.step st
  replace hs := hs.trans st
  refine LoopI.ofQ q (fun t_ s_ hp_ => ∃ (σ_ : Nat → Nat), Stp [1] xσ H_ σ_ hp_ ∧ t_.1 = s_ ∧ t_.2.length = (List.replicate (Int.toNat (IntKind.i64.wrap (((f.length : Nat) : Int) + ((g.length : Nat) : Int)))) 0).length ∧ SlO (rdM u64L) 22 (Zt σ_) (Yt σ_ 1) hp_ (some (Addr.mk H.size 0 none)) (Int.toNat (IntKind.i64.wrap (((f.length : Nat) : Int) + ((g.length : Nat) : Int)))) t_.2) (fun h k => h _ _ k) ⟨_, Stp.refl _ _ _, rfl, rfl, f4⟩ ?_
  rintro t _ _ H_2 next nextQ ⟨xσ2, st2, rfl, hl, f4⟩ q hnext
  try dsimp only at q ⊢
  replace f2 := f2.step st2
  replace f3 := f3.step st2
  replace hs := hs.trans st2
  have sl3 := st2
  refine condI (fun q => ?_) (fun q => ?_) q
  · refine LoopI.ofQ q (fun t_ s_ hp_ => ∃ (σ_ : Nat → Nat), Stp [1] xσ2 H_2 σ_ hp_ ∧ t_.1 = s_ ∧ t_.2.length = t.2.length ∧ SlO (rdM u64L) 22 (Zt σ_) (Yt σ_ 1) hp_ (some (Addr.mk H.size 0 none)) (Int.toNat (IntKind.i64.wrap (((f.length : Nat) : Int) + ((g.length : Nat) : Int)))) t_.2) (fun h k => h _ _ k) ⟨_, Stp.refl _ _ _, rfl, rfl, f4⟩ ?_
    rintro t2 _ _ H_3 next2 nextQ2 ⟨xσ3, st3, rfl, hl2, f4⟩ q hnext2
    try dsimp only at q ⊢
    replace f2 := f2.step st3
    replace f3 := f3.step st3
    replace hs := hs.trans st3
    replace sl3 := sl3.trans st3
    have sl5 := st3
    refine condI (fun q => ?_) (fun q => ?_) q
    · obtain ⟨h0, hi2, q⟩ := q
      obtain ⟨a, ha, hi⟩ := f4.addr h0 (((rl_len _ _).trans hl.symm).trans hl2.symm) hi2
      refine ⟨a, ha, hi.1, hi.2, ?_⟩
      obtain ⟨h02, x, hx, q⟩ := q
      obtain ⟨a2, ha2, hi3⟩ := f2.addr h02 hx rfl
      refine ⟨a2, ha2, hi3.1, hi3.2, ?_⟩
      obtain ⟨h03, x2, hx2, q⟩ := q
      obtain ⟨a3, ha3, hi4⟩ := f3.addr h03 hx2 rfl
      refine ⟨a3, ha3, hi4.1, hi4.2, ?_⟩
      obtain ⟨x3, hx3, q⟩ := q
      have hc := f4.ldu ha h0 hx3
      refine ⟨_, hc.val, ?_⟩
      have hc2 := f2.ldu ha2 h02 hx
      refine ⟨_, hc2.val, ?_⟩
      have hc3 := f3.ldu ha3 h03 hx2
      refine ⟨_, hc3.val, ?_⟩
      refine q (Zt xσ3) H_3 _ rfl _ rfl _ rfl _ (fun Z2 H_4 hE hO x4 v he2 q => ?_)
      obtain ⟨xσ4, st4⟩ := call0 hE xσ3
      cases he2
      replace f2 := f2.step st4
      replace f3 := f3.step st4
      replace f4 := f4.step st4
      replace hc := hc.step st4
      replace hc2 := hc2.step st4
      replace hc3 := hc3.step st4
      replace hs := hs.trans st4
      replace sl3 := sl3.trans st4
      replace sl5 := sl5.trans st4
      refine ⟨_, rfl, ?_⟩
      refine ⟨hc.val, ?_⟩
      refine q (Zt xσ4) H_4 _ rfl _ rfl _ rfl _ (fun Z3 H_5 hE2 hO2 x5 v2 he3 q => ?_)
      obtain ⟨xσ5, st5⟩ := call0 hE2 xσ4
      cases he3
      replace f2 := f2.step st5
      replace f3 := f3.step st5
      replace f4 := f4.step st5
      replace hc := hc.step st5
      replace hc2 := hc2.step st5
      replace hc3 := hc3.step st5
      replace hs := hs.trans st5
      replace sl3 := sl3.trans st5
      replace sl5 := sl5.trans st5
      refine ⟨_, rfl, ?_⟩
      obtain ⟨h04, hi6, q⟩ := q
      obtain ⟨a4, ha4, hi5⟩ := f4.addr h04 (((rl_len _ _).trans hl.symm).trans hl2.symm) hi6
      refine ⟨a4, ha4, hi5.1, hi5.2, ?_⟩
      have w := fun v hr => SlO.set1 (v := v) (y := x5) f4 rfl ha4 h04 (lt_of_n (((rl_len _ _).trans hl.symm).trans hl2.symm) hi6) hr
      refine ⟨(w _ rfl).1, NewH.mk fun H_6 e2 => ?_⟩
      obtain ⟨st6, f4⟩ := (w _ rfl).2 H_6 e2
      replace f2 := f2.step st6
      replace f3 := f3.step st6
      replace hc2 := hc2.step st6
      replace hc3 := hc3.step st6
      replace hs := hs.trans st6
      replace sl3 := sl3.trans st6
      replace sl5 := sl5.trans st6
      exact hnext2 (IntKind.i64.wrap (t2.1 + 1), (List.set t2.2 (Int.toNat (IntKind.i64.wrap (t.1 + t2.1))) x5)) _ _ ⟨_, sl5, rfl, (set_back (((rl_len _ _).trans hl.symm).trans hl2.symm) (set_len (((rl_len _ _).trans hl.symm).trans hl2.symm)) hl2), f4⟩ q
    · exact hnext (IntKind.i64.wrap (t.1 + 1), t2.2) _ _ ⟨_, sl3, rfl, (set_back ((rl_len _ _).trans hl.symm) (((rl_len _ _).trans hl.symm).trans hl2.symm) hl), f4⟩ q
  · refine q (fun i => xσ2 i = 0 ∨ xσ2 i = 1) H_2 _ _ _ ((rl_len _ _).trans hl.symm) (f4.read (fun i h => .inl h) (fun i h => .inr (h))) _ (fun Z4 H_7 hE3 hO3 x6 Y hY A n c hn3 f5 q => ?_)
    obtain ⟨xσ6, st7, fy⟩ := callB1 hE3 hO3 xσ2 2 hY
    replace f5 := (SlO.anyZ (Z' := Zt xσ6) u64_flatL f5).keep (Fr.refl _ _) fy
    cases hn3
    replace f2 := f2.step st7
    replace f3 := f3.step st7
    replace f4 := f4.step st7
    replace hs := hs.trans st7
    refine ⟨_, _, _, rfl, ?_⟩
    exact hk (Zt xσ6) _ (hs.ext hσ) (hs.old hσ) _ (Yt xσ6 2) (hs.fresh hσ) _ _ _ rfl f5 q
def juntoref02_Points.C (p : Nat) (l : (List TPoint)) (most : Int) (K : Int → Prop) : Prop :=
  ∀ (Z : Nat → Prop) (H : Heap), ∀ (pv : Int), pv = (p : Int) → ∀ (lA : Option Addr) (ln lc : Nat), ln = l.length → SlF TPoint.L Z H lA lc l → ∀ KK : Value → Heap → Prop,
    (∀ (Z' : Nat → Prop) (H' : Heap), Ext H H' → Old Z H Z' → ∀ (r0 : Int), K r0 → KK (.int .i64 r0) H') →
    CallH P N.juntoref02_Points [.int .u64 pv, .slice lA ln lc, .int .i64 most] H KK
def juntoref02_Points.Q (p : Nat) (l : (List TPoint)) (most : Int) (K : Int → Prop) : Prop :=
  cond (decide (((l.length : Nat) : Int) > most)) (K 3)
   (LoopQ (τ := List Nat × Int) (([] : List Nat), 0) fun t nextQ =>
  cond (decide (t.2 < ((l.length : Nat) : Int))) (0 ≤ t.2 ∧ ∃ x : TPoint, l[Int.toNat t.2]? = some x ∧ cond (decide ((x.X : Int) ≥ (p : Int))) (K 2)
   (cond (decide ((x.Y : Int) ≥ (p : Int))) (K 2)
   (AppOk 8 (t.1 ++ ([x.X] : List Nat)).length ∧ nextQ ((t.1 ++ ([x.X] : List Nat)), IntKind.i64.wrap (t.2 + 1)))))
   (juntoref02_Twice.C t.1 (fun (x2 : Bool) =>
  cond x2 (K 6)
   (K 0))))
theorem juntoref02_Points.q {p : Nat} {l : (List TPoint)} {most : Int} {K : Int → Prop} (q : juntoref02_Points.Q p l most K) : juntoref02_Points.C p l most K := by
  intro Z H pv he lA ln lc hn f KK hk
  cases he
  cases hn
  apply juntoref02_Points.ok
  unfold juntoref02_Points.W
  unfold juntoref02_Points.Q at q
  obtain ⟨σ, hz, hσ⟩ := tags Z
  have hs : Stp ([1, 2, 3] : List Nat) σ H σ H := Stp.refl _ _ _
  replace f := f.wide hz
  clear hz
  refine condI (fun q => ?_) (fun q => ?_) q
  · exact hk (Zt σ) _ (hs.ext hσ) (hs.old hσ) _ q
  · have f2 := SlO.nil (rdM u64L) 22 (Zt σ) (Yt σ 1) H
    refine LoopI.ofQ q (fun t_ s_ hp_ => ∃ (σ_ : Nat → Nat) (A0_ : Option Addr) (n0_ c0_ : Nat), Stp [1, 2, 3] σ H σ_ hp_ ∧ ((A0_, n0_, c0_), t_.2) = s_ ∧ n0_ = t_.1.length ∧ SlO (rdM u64L) 22 (Zt σ_) (Yt σ_ 1) hp_ A0_ c0_ t_.1) (fun h k => h _ _ k) ⟨_, _, _, _, Stp.refl _ _ _, rfl, rfl, f2⟩ ?_
    rintro t _ _ H_ next nextQ ⟨xσ, A, n, c, st, rfl, rfl, f3⟩ q hnext
    try dsimp only at q ⊢
    replace f := f.step st
    replace hs := hs.trans st
    have sl0 := st
    refine condI (fun q => ?_) (fun q => ?_) q
    · obtain ⟨h0, x, hx, q⟩ := q
      obtain ⟨a, ha, hi⟩ := f.addr h0 hx rfl
      refine ⟨a, ha, hi.1, hi.2, ?_⟩
      obtain ⟨cs, hr, hc⟩ := f.ldN (k := 2) rfl ha h0 hx
      cases hr
      have hc2 := hc 0 _ rfl
      have hc3 := hc 1 _ rfl
      refine ⟨_, _, hc2.val, hc3.val, ?_⟩
      refine NewH.mk fun H_2 e => ?_
      obtain ⟨xσ2, st2, b⟩ := BoxF.new xσ 2 e
      replace f := f.step st2
      replace f3 := f3.step st2
      replace hc2 := hc2.step st2
      replace hc3 := hc3.step st2
      replace hs := hs.trans st2
      replace sl0 := sl0.trans st2
      refine ⟨b.mayN 0 2 (show (2 : Nat) ≤ 2 by decide), NewH.mk fun H_3 e2 => ?_⟩
      obtain ⟨st3, b⟩ := b.wroteN 0 (vs := [_, _]) (show (2 : Nat) ≤ 2 by decide) e2
      simp only [List.take_zero, List.take_succ_cons, List.drop_zero, List.drop_succ_cons, List.drop_nil, List.length_cons, List.length_nil, List.cons_append, List.nil_append, List.append_nil, Nat.zero_add, Nat.reduceAdd] at b
      replace f := f.step st3
      replace f3 := f3.step st3
      replace hc2 := hc2.step st3
      replace hc3 := hc3.step st3
      replace hs := hs.trans st3
      replace sl0 := sl0.trans st3
      refine ⟨_, b.cell0, ?_⟩
      refine condI (fun q => ?_) (fun q => ?_) q
      · exact hk (Zt xσ2) _ (hs.ext hσ) (hs.old hσ) _ q
      · refine ⟨_, b.cell 1 rfl, ?_⟩
        refine condI (fun q => ?_) (fun q => ?_) q
        · exact hk (Zt xσ2) _ (hs.ext hσ) (hs.old hσ) _ q
        · refine ⟨_, b.cell0, ?_⟩
          refine NewH.mk fun H_4 e3 => ?_
          obtain ⟨xσ3, st4, f4⟩ := SlO.lit (E := u64L) xσ2 3 (xs := [x.X]) (l := [[_]]) e3 rfl (.cons rfl .nil) (show (1 : Nat) ≤ 17592186044416 by decide)
          replace f := f.step st4
          replace f3 := f3.step st4
          replace hc2 := hc2.step st4
          replace hc3 := hc3.step st4
          replace b := b.step st4
          replace hs := hs.trans st4
          replace sl0 := sl0.trans st4
          obtain ⟨xσ5, st6, f4⟩ := SlO.freeze f4
          replace f := f.step st6
          replace f3 := f3.step st6
          replace hc2 := hc2.step st6
          replace hc3 := hc3.step st6
          replace b := b.step st6
          replace hs := hs.trans st6
          replace sl0 := sl0.trans st6
          obtain ⟨q2, q⟩ := q
          refine SlO.appF f3 f4 rfl rfl q2.l q2.r rfl rfl (fun A2 c2 H_5 xσ4 st5 f3_ => ?_)
          replace f3 := f3_
          replace f := f.step st5
          replace hc2 := hc2.step st5
          replace hc3 := hc3.step st5
          replace b := b.step st5
          replace f4 := f4.step st5
          replace hs := hs.trans st5
          replace sl0 := sl0.trans st5
          have f5 := f3; clear f3
          exact hnext ((t.1 ++ ([x.X] : List Nat)), IntKind.i64.wrap (t.2 + 1)) _ _ ⟨_, _, _, _, sl0, rfl, rfl, f5⟩ q
    · refine q (fun i => xσ i = 0 ∨ xσ i = 1) H_ _ _ _ rfl (f3.read (fun i h => .inl h) (fun i h => .inr (h))) _ (fun Z2 H_6 hE hO x2 q => ?_)
      obtain ⟨xσ6, st7⟩ := call0 hE xσ
      replace f := f.step st7
      replace f3 := f3.step st7
      replace hs := hs.trans st7
      refine ⟨_, rfl, ?_⟩
      refine condI (fun q => ?_) (fun q => ?_) q
      · exact hk (Zt xσ6) _ (hs.ext hσ) (hs.old hσ) _ q
      · exact hk (Zt xσ6) _ (hs.ext hσ) (hs.old hσ) _ q
def juntoref02_Scale.C (p : Nat) (f : (List Nat)) (k : Nat) (K : (List Nat) → Prop) : Prop :=
  ∀ (Z : Nat → Prop) (H : Heap), ∀ (pv : Int), pv = (p : Int) → ∀ (fA : Option Addr) (fn fc : Nat), fn = f.length → SlF u64L Z H fA fc f → ∀ (kv : Int), kv = (k : Int) → ∀ KK : Value → Heap → Prop,
    (∀ (Z' : Nat → Prop) (H' : Heap), Ext H H' → Old Z H Z' → ∀ (r0 : (List Nat)), ∀ (Y0 : Nat → Prop), (∀ i, Y0 i → H.size ≤ i ∧ ¬ Z' i) → ∀ (Ar0_0 : Option Addr) (nr0_0 cr0_0 : Nat), nr0_0 = r0.length → SlO (rdM u64L) 22 Z' Y0 H' Ar0_0 cr0_0 r0 → K r0 → KK (.slice Ar0_0 nr0_0 cr0_0) H') →
    CallH P N.juntoref02_Scale [.int .u64 pv, .slice fA fn fc, .int .u64 kv] H KK
def juntoref02_Scale.Q (p : Nat) (f : (List Nat)) (k : Nat) (K : (List Nat) → Prop) : Prop :=
  MakeOk 8 ((f.length : Nat) : Int) ∧ LoopQ (τ := Int × List Nat) (0, (List.replicate f.length 0)) fun t nextQ =>
  cond (decide (t.1 < ((f.length : Nat) : Int))) (0 ≤ t.1 ∧ ∃ x : Nat, f[Int.toNat t.1]? = some x ∧ juntoref01_Mul.C p x k (fun (x2 : Nat) =>
  0 ≤ t.1 ∧ t.1 < ((f.length : Nat) : Int) ∧ nextQ (IntKind.i64.wrap (t.1 + 1), (List.set t.2 (Int.toNat t.1) x2))))
   (juntoref02_Trim.C t.2 (fun (x3 : (List Nat)) =>
  K x3))
theorem juntoref02_Scale.q {p : Nat} {f : (List Nat)} {k : Nat} {K : (List Nat) → Prop} (q : juntoref02_Scale.Q p f k K) : juntoref02_Scale.C p f k K := by
  intro Z H pv he fA fn fc hn f2 kv he2 KK hk
  cases he
  cases hn
  cases he2
  apply juntoref02_Scale.ok
  unfold juntoref02_Scale.W
  unfold juntoref02_Scale.Q at q
  obtain ⟨σ, hz, hσ⟩ := tags Z
  have hs : Stp ([1, 2] : List Nat) σ H σ H := Stp.refl _ _ _
  replace f2 := f2.wide hz
  clear hz
  obtain ⟨q2, q⟩ := q
  refine ⟨q2.1, Int.le_refl _, q2.w1, q2.w2, NewH.mk fun H_ e => ?_⟩
  obtain ⟨xσ, st, f3⟩ := SlO.made (O := (rdM u64L)) σ 1 e (u64_zero) q2.len
  replace f2 := f2.step st
  replace hs := hs.trans st
  refine LoopI.ofQ q (fun t_ s_ hp_ => ∃ (σ_ : Nat → Nat), Stp [1] xσ H_ σ_ hp_ ∧ t_.1 = s_ ∧ t_.2.length = (List.replicate f.length 0).length ∧ SlO (rdM u64L) 22 (Zt σ_) (Yt σ_ 1) hp_ (some (Addr.mk H.size 0 none)) f.length t_.2) (fun h k => h _ _ k) ⟨_, Stp.refl _ _ _, rfl, rfl, f3⟩ ?_
  rintro t _ _ H_2 next nextQ ⟨xσ2, st2, rfl, hl, f3⟩ q hnext
  try dsimp only at q ⊢
  replace f2 := f2.step st2
  replace hs := hs.trans st2
  have sl1 := st2
  refine condI (fun q => ?_) (fun q => ?_) q
  · obtain ⟨h0, x, hx, q⟩ := q
    obtain ⟨a, ha, hi⟩ := f2.addr h0 hx rfl
    refine ⟨a, ha, hi.1, hi.2, ?_⟩
    have hc := f2.ldu ha h0 hx
    refine ⟨_, hc.val, ?_⟩
    refine q (Zt xσ2) H_2 _ rfl _ rfl _ rfl _ (fun Z2 H_3 hE hO x2 v he3 q => ?_)
    obtain ⟨xσ3, st3⟩ := call0 hE xσ2
    cases he3
    replace f2 := f2.step st3
    replace f3 := f3.step st3
    replace hc := hc.step st3
    replace hs := hs.trans st3
    replace sl1 := sl1.trans st3
    refine ⟨_, rfl, ?_⟩
    obtain ⟨h02, hi3, q⟩ := q
    obtain ⟨a2, ha2, hi2⟩ := f3.addr h02 ((rl_len _ _).trans hl.symm) hi3
    refine ⟨a2, ha2, hi2.1, hi2.2, ?_⟩
    have w := fun v hr => SlO.set1 (v := v) (y := x2) f3 rfl ha2 h02 (lt_of_n ((rl_len _ _).trans hl.symm) hi3) hr
    refine ⟨(w _ rfl).1, NewH.mk fun H_4 e2 => ?_⟩
    obtain ⟨st4, f3⟩ := (w _ rfl).2 H_4 e2
    replace f2 := f2.step st4
    replace hc := hc.step st4
    replace hs := hs.trans st4
    replace sl1 := sl1.trans st4
    exact hnext (IntKind.i64.wrap (t.1 + 1), (List.set t.2 (Int.toNat t.1) x2)) _ _ ⟨_, sl1, rfl, (set_back ((rl_len _ _).trans hl.symm) (set_len ((rl_len _ _).trans hl.symm)) hl), f3⟩ q
  · refine q (fun i => xσ2 i = 0 ∨ xσ2 i = 1) H_2 _ _ _ ((rl_len _ _).trans hl.symm) (f3.read (fun i h => .inl h) (fun i h => .inr (h))) _ (fun Z3 H_5 hE2 hO2 x3 Y hY A n c hn2 f4 q => ?_)
    obtain ⟨xσ4, st5, fy⟩ := callB1 hE2 hO2 xσ2 2 hY
    replace f4 := (SlO.anyZ (Z' := Zt xσ4) u64_flatL f4).keep (Fr.refl _ _) fy
    cases hn2
    replace f2 := f2.step st5
    replace f3 := f3.step st5
    replace hs := hs.trans st5
    refine ⟨_, _, _, rfl, ?_⟩
    exact hk (Zt xσ4) _ (hs.ext hσ) (hs.old hσ) _ (Yt xσ4 2) (hs.fresh hσ) _ _ _ rfl f4 q
def juntoref02_at.C (f : (List Nat)) (i : Int) (K : Nat → Prop) : Prop :=
  ∀ (Z : Nat → Prop) (H : Heap), ∀ (fA : Option Addr) (fn fc : Nat), fn = f.length → SlF u64L Z H fA fc f → ∀ KK : Value → Heap → Prop,
    (∀ (Z' : Nat → Prop) (H' : Heap), Ext H H' → Old Z H Z' → ∀ (r0 : Nat), ∀ (r0v0 : Int), r0v0 = (r0 : Int) → K r0 → KK (.int .u64 r0v0) H') →
    CallH P N.juntoref02_at [.slice fA fn fc, .int .i64 i] H KK
def juntoref02_at.Q (f : (List Nat)) (i : Int) (K : Nat → Prop) : Prop :=
  cond (decide (i < ((f.length : Nat) : Int))) (0 ≤ i ∧ ∃ x : Nat, f[Int.toNat i]? = some x ∧ K x)
   (K 0)
theorem juntoref02_at.q {f : (List Nat)} {i : Int} {K : Nat → Prop} (q : juntoref02_at.Q f i K) : juntoref02_at.C f i K := by
  intro Z H fA fn fc hn f2 KK hk
  cases hn
  apply juntoref02_at.ok
  unfold juntoref02_at.W
  unfold juntoref02_at.Q at q
  obtain ⟨σ, hz, hσ⟩ := tags Z
  have hs : Stp ([] : List Nat) σ H σ H := Stp.refl _ _ _
  replace f2 := f2.wide hz
  clear hz
  refine condI (fun q => ?_) (fun q => ?_) q
  · obtain ⟨h0, x, hx, q⟩ := q
    obtain ⟨a, ha, hi⟩ := f2.addr h0 hx rfl
    refine ⟨a, ha, hi.1, hi.2, ?_⟩
    have hc := f2.ldu ha h0 hx
    refine ⟨_, hc.val, ?_⟩
    exact hk (Zt σ) _ (hs.ext hσ) (hs.old hσ) _ _ rfl q
  · exact hk (Zt σ) _ (hs.ext hσ) (hs.old hσ) _ _ rfl q
def juntoref02_Add.C (p : Nat) (f : (List Nat)) (g : (List Nat)) (K : (List Nat) → Prop) : Prop :=
  ∀ (Z : Nat → Prop) (H : Heap), ∀ (pv : Int), pv = (p : Int) → ∀ (fA : Option Addr) (fn fc : Nat), fn = f.length → SlF u64L Z H fA fc f → ∀ (gA : Option Addr) (gn gc : Nat), gn = g.length → SlF u64L Z H gA gc g → ∀ KK : Value → Heap → Prop,
    (∀ (Z' : Nat → Prop) (H' : Heap), Ext H H' → Old Z H Z' → ∀ (r0 : (List Nat)), ∀ (Y0 : Nat → Prop), (∀ i, Y0 i → H.size ≤ i ∧ ¬ Z' i) → ∀ (Ar0_0 : Option Addr) (nr0_0 cr0_0 : Nat), nr0_0 = r0.length → SlO (rdM u64L) 22 Z' Y0 H' Ar0_0 cr0_0 r0 → K r0 → KK (.slice Ar0_0 nr0_0 cr0_0) H') →
    CallH P N.juntoref02_Add [.int .u64 pv, .slice fA fn fc, .slice gA gn gc] H KK
def juntoref02_Add.Q (p : Nat) (f : (List Nat)) (g : (List Nat)) (K : (List Nat) → Prop) : Prop :=
  MakeOk 8 (if ((g.length : Nat) : Int) > ((f.length : Nat) : Int) then ((g.length : Nat) : Int) else ((f.length : Nat) : Int)) ∧ LoopQ (τ := Int × List Nat) (0, (List.replicate (Int.toNat (if ((g.length : Nat) : Int) > ((f.length : Nat) : Int) then ((g.length : Nat) : Int) else ((f.length : Nat) : Int))) 0)) fun t nextQ =>
  cond (decide (t.1 < ((Int.toNat (if ((g.length : Nat) : Int) > ((f.length : Nat) : Int) then ((g.length : Nat) : Int) else ((f.length : Nat) : Int)) : Nat) : Int))) (juntoref02_at.C f t.1 (fun (x : Nat) =>
  juntoref02_at.C g t.1 (fun (x2 : Nat) =>
  juntoref01_Add.C p x x2 (fun (x3 : Nat) =>
  0 ≤ t.1 ∧ t.1 < ((Int.toNat (if ((g.length : Nat) : Int) > ((f.length : Nat) : Int) then ((g.length : Nat) : Int) else ((f.length : Nat) : Int)) : Nat) : Int) ∧ nextQ (IntKind.i64.wrap (t.1 + 1), (List.set t.2 (Int.toNat t.1) x3))))))
   (juntoref02_Trim.C t.2 (fun (x4 : (List Nat)) =>
  K x4))
theorem juntoref02_Add.q {p : Nat} {f : (List Nat)} {g : (List Nat)} {K : (List Nat) → Prop} (q : juntoref02_Add.Q p f g K) : juntoref02_Add.C p f g K := by
  intro Z H pv he fA fn fc hn f2 gA gn gc hn2 f3 KK hk
  cases he
  cases hn
  cases hn2
  apply juntoref02_Add.ok
  unfold juntoref02_Add.W
  unfold juntoref02_Add.Q at q
  obtain ⟨σ, hz, hσ⟩ := tags Z
  have hs : Stp ([1, 2] : List Nat) σ H σ H := Stp.refl _ _ _
  replace f2 := f2.wide hz
  replace f3 := f3.wide hz
  clear hz
  obtain ⟨q2, q⟩ := q
  refine ⟨q2.1, Int.le_refl _, q2.w1, q2.w2, NewH.mk fun H_ e => ?_⟩
  obtain ⟨xσ, st, f4⟩ := SlO.made (O := (rdM u64L)) σ 1 e (u64_zero) q2.len
  replace f2 := f2.step st
  replace f3 := f3.step st
  replace hs := hs.trans st
  refine LoopI.ofQ q (fun t_ s_ hp_ => ∃ (σ_ : Nat → Nat), Stp [1] xσ H_ σ_ hp_ ∧ t_.1 = s_ ∧ t_.2.length = (List.replicate (Int.toNat (if ((g.length : Nat) : Int) > ((f.length : Nat) : Int) then ((g.length : Nat) : Int) else ((f.length : Nat) : Int))) 0).length ∧ SlO (rdM u64L) 22 (Zt σ_) (Yt σ_ 1) hp_ (some (Addr.mk H.size 0 none)) (Int.toNat (if ((g.length : Nat) : Int) > ((f.length : Nat) : Int) then ((g.length : Nat) : Int) else ((f.length : Nat) : Int))) t_.2) (fun h k => h _ _ k) ⟨_, Stp.refl _ _ _, rfl, rfl, f4⟩ ?_
  rintro t _ _ H_2 next nextQ ⟨xσ2, st2, rfl, hl, f4⟩ q hnext
  try dsimp only at q ⊢
  replace f2 := f2.step st2
  replace f3 := f3.step st2
  replace hs := hs.trans st2
  have sl1 := st2
  refine condI (fun q => ?_) (fun q => ?_) q
  · refine q (Zt xσ2) H_2 _ _ _ rfl f2 _ (fun Z2 H_3 hE hO x v he2 q => ?_)
    obtain ⟨xσ3, st3⟩ := call0 hE xσ2
    cases he2
    replace f2 := f2.step st3
    replace f3 := f3.step st3
    replace f4 := f4.step st3
    replace hs := hs.trans st3
    replace sl1 := sl1.trans st3
    refine ⟨_, rfl, ?_⟩
    refine q (Zt xσ3) H_3 _ _ _ rfl f3 _ (fun Z3 H_4 hE2 hO2 x2 v2 he3 q => ?_)
    obtain ⟨xσ4, st4⟩ := call0 hE2 xσ3
    cases he3
    replace f2 := f2.step st4
    replace f3 := f3.step st4
    replace f4 := f4.step st4
    replace hs := hs.trans st4
    replace sl1 := sl1.trans st4
    refine ⟨_, rfl, ?_⟩
    refine q (Zt xσ4) H_4 _ rfl _ rfl _ rfl _ (fun Z4 H_5 hE3 hO3 x3 v3 he4 q => ?_)
    obtain ⟨xσ5, st5⟩ := call0 hE3 xσ4
    cases he4
    replace f2 := f2.step st5
    replace f3 := f3.step st5
    replace f4 := f4.step st5
    replace hs := hs.trans st5
    replace sl1 := sl1.trans st5
    refine ⟨_, rfl, ?_⟩
    obtain ⟨h0, hi2, q⟩ := q
    obtain ⟨a, ha, hi⟩ := f4.addr h0 ((rl_len _ _).trans hl.symm) hi2
    refine ⟨a, ha, hi.1, hi.2, ?_⟩
    have w := fun v hr => SlO.set1 (v := v) (y := x3) f4 rfl ha h0 (lt_of_n ((rl_len _ _).trans hl.symm) hi2) hr
    refine ⟨(w _ rfl).1, NewH.mk fun H_6 e2 => ?_⟩
    obtain ⟨st6, f4⟩ := (w _ rfl).2 H_6 e2
    replace f2 := f2.step st6
    replace f3 := f3.step st6
    replace hs := hs.trans st6
    replace sl1 := sl1.trans st6
    exact hnext (IntKind.i64.wrap (t.1 + 1), (List.set t.2 (Int.toNat t.1) x3)) _ _ ⟨_, sl1, rfl, (set_back ((rl_len _ _).trans hl.symm) (set_len ((rl_len _ _).trans hl.symm)) hl), f4⟩ q
  · refine q (fun i => xσ2 i = 0 ∨ xσ2 i = 1) H_2 _ _ _ ((rl_len _ _).trans hl.symm) (f4.read (fun i h => .inl h) (fun i h => .inr (h))) _ (fun Z5 H_7 hE4 hO4 x4 Y hY A n c hn3 f5 q => ?_)
    obtain ⟨xσ6, st7, fy⟩ := callB1 hE4 hO4 xσ2 2 hY
    replace f5 := (SlO.anyZ (Z' := Zt xσ6) u64_flatL f5).keep (Fr.refl _ _) fy
    cases hn3
    replace f2 := f2.step st7
    replace f3 := f3.step st7
    replace f4 := f4.step st7
    replace hs := hs.trans st7
    refine ⟨_, _, _, rfl, ?_⟩
    exact hk (Zt xσ6) _ (hs.ext hσ) (hs.old hσ) _ (Yt xσ6 2) (hs.fresh hσ) _ _ _ rfl f5 q
def juntoref02_Sub.C (p : Nat) (f : (List Nat)) (g : (List Nat)) (K : (List Nat) → Prop) : Prop :=
  ∀ (Z : Nat → Prop) (H : Heap), ∀ (pv : Int), pv = (p : Int) → ∀ (fA : Option Addr) (fn fc : Nat), fn = f.length → SlF u64L Z H fA fc f → ∀ (gA : Option Addr) (gn gc : Nat), gn = g.length → SlF u64L Z H gA gc g → ∀ KK : Value → Heap → Prop,
    (∀ (Z' : Nat → Prop) (H' : Heap), Ext H H' → Old Z H Z' → ∀ (r0 : (List Nat)), ∀ (Y0 : Nat → Prop), (∀ i, Y0 i → H.size ≤ i ∧ ¬ Z' i) → ∀ (Ar0_0 : Option Addr) (nr0_0 cr0_0 : Nat), nr0_0 = r0.length → SlO (rdM u64L) 22 Z' Y0 H' Ar0_0 cr0_0 r0 → K r0 → KK (.slice Ar0_0 nr0_0 cr0_0) H') →
    CallH P N.juntoref02_Sub [.int .u64 pv, .slice fA fn fc, .slice gA gn gc] H KK
def juntoref02_Sub.Q (p : Nat) (f : (List Nat)) (g : (List Nat)) (K : (List Nat) → Prop) : Prop :=
  juntoref02_Scale.C p g ((IntKind.u64.wrap ((p : Int) - 1)).toNat) (fun (x : (List Nat)) =>
  juntoref02_Add.C p f x (fun (x2 : (List Nat)) =>
  K x2))
theorem juntoref02_Sub.q {p : Nat} {f : (List Nat)} {g : (List Nat)} {K : (List Nat) → Prop} (q : juntoref02_Sub.Q p f g K) : juntoref02_Sub.C p f g K := by
  intro Z H pv he fA fn fc hn f2 gA gn gc hn2 f3 KK hk
  cases he
  cases hn
  cases hn2
  apply juntoref02_Sub.ok
  unfold juntoref02_Sub.W
  unfold juntoref02_Sub.Q at q
  obtain ⟨σ, hz, hσ⟩ := tags Z
  have hs : Stp ([1, 2] : List Nat) σ H σ H := Stp.refl _ _ _
  replace f2 := f2.wide hz
  replace f3 := f3.wide hz
  clear hz
  refine q (Zt σ) H _ rfl _ _ _ rfl f3 _ (natEq (nnw _)) _ (fun Z2 H_ hE hO x Y hY A n c hn3 f4 q => ?_)
  obtain ⟨xσ, st, fz, fy⟩ := call1 hE hO σ 1 (fun _ h => h) hY
  replace f4 := f4.keep fz fy
  cases hn3
  replace f2 := f2.step st
  replace f3 := f3.step st
  replace hs := hs.trans st
  refine ⟨_, _, _, rfl, ?_⟩
  refine q (fun i => xσ i = 0 ∨ xσ i = 1) H_ _ rfl _ _ _ rfl (f2.wide (fun i h => .inl h)) _ _ _ rfl (f4.read (fun i h => .inl h) (fun i h => .inr (h))) _ (fun Z3 H_2 hE2 hO2 x2 Y2 hY2 A2 n2 c2 hn4 f5 q => ?_)
  obtain ⟨xσ2, st2, fy2⟩ := callB1 hE2 hO2 xσ 2 hY2
  replace f5 := (SlO.anyZ (Z' := Zt xσ2) u64_flatL f5).keep (Fr.refl _ _) fy2
  cases hn4
  replace f2 := f2.step st2
  replace f3 := f3.step st2
  replace f4 := f4.step st2
  replace hs := hs.trans st2
  refine ⟨_, _, _, rfl, ?_⟩
  exact hk (Zt xσ2) _ (hs.ext hσ) (hs.old hσ) _ (Yt xσ2 2) (hs.fresh hσ) _ _ _ rfl f5 q
def juntoref02_Divide.C (p : Nat) (f : (List Nat)) (g : (List Nat)) (K : (List Nat) → (List Nat) → Prop) : Prop :=
  ∀ (Z : Nat → Prop) (H : Heap), ∀ (pv : Int), pv = (p : Int) → ∀ (fA : Option Addr) (fn fc : Nat), fn = f.length → SlF u64L Z H fA fc f → ∀ (gA : Option Addr) (gn gc : Nat), gn = g.length → SlF u64L Z H gA gc g → ∀ KK : Value → Heap → Prop,
    (∀ (Z' : Nat → Prop) (H' : Heap), Ext H H' → Old Z H Z' → ∀ (r0 : (List Nat)), ∀ (Y0 : Nat → Prop), (∀ i, Y0 i → H.size ≤ i ∧ ¬ Z' i) → ∀ (Ar0_0 : Option Addr) (nr0_0 cr0_0 : Nat), nr0_0 = r0.length → SlO (rdM u64L) 22 Z' Y0 H' Ar0_0 cr0_0 r0 → ∀ (r1 : (List Nat)), ∀ (Y1 : Nat → Prop), (∀ i, Y1 i → H.size ≤ i ∧ ¬ Z' i) → ∀ (Ar1_0 : Option Addr) (nr1_0 cr1_0 : Nat), nr1_0 = r1.length → SlO (rdM u64L) 22 Z' Y1 H' Ar1_0 cr1_0 r1 → (∀ i, Y0 i → ¬ Y1 i) → K r0 r1 → KK (.tuple #[.slice Ar0_0 nr0_0 cr0_0, .slice Ar1_0 nr1_0 cr1_0]) H') →
    CallH P N.juntoref02_Divide [.int .u64 pv, .slice fA fn fc, .slice gA gn gc] H KK
def juntoref02_Divide.Q (p : Nat) (f : (List Nat)) (g : (List Nat)) (K : (List Nat) → (List Nat) → Prop) : Prop :=
  juntoref02_Trim.C f (fun (x : (List Nat)) =>
  juntoref02_Trim.C g (fun (x2 : (List Nat)) =>
  MakeOk 8 ((x.length : Nat) : Int) ∧ 0 ≤ (IntKind.i64.wrap (((x2.length : Nat) : Int) - 1)) ∧ (IntKind.i64.wrap (((x2.length : Nat) : Int) - 1)) < ((x2.length : Nat) : Int) ∧ ∃ x3 : Nat, x2[Int.toNat (IntKind.i64.wrap (((x2.length : Nat) : Int) - 1))]? = some x3 ∧ juntoref01_Inv.C p x3 (fun (x4 : Nat) =>
  LoopQ (τ := List Nat × List Nat) (x, (List.replicate x.length 0)) fun t nextQ =>
  cond (decide (((t.1.length : Nat) : Int) ≥ ((x2.length : Nat) : Int))) (0 ≤ (IntKind.i64.wrap (((t.1.length : Nat) : Int) - 1)) ∧ (IntKind.i64.wrap (((t.1.length : Nat) : Int) - 1)) < ((t.1.length : Nat) : Int) ∧ ∃ x5 : Nat, t.1[Int.toNat (IntKind.i64.wrap (((t.1.length : Nat) : Int) - 1))]? = some x5 ∧ juntoref01_Mul.C p x5 x4 (fun (x6 : Nat) =>
  0 ≤ (IntKind.i64.wrap (((t.1.length : Nat) : Int) - ((x2.length : Nat) : Int))) ∧ (IntKind.i64.wrap (((t.1.length : Nat) : Int) - ((x2.length : Nat) : Int))) < ((x.length : Nat) : Int) ∧ (MakeOk 8 (IntKind.i64.wrap (((t.1.length : Nat) : Int) - ((x2.length : Nat) : Int))) ∧ juntoref02_Scale.C p x2 x6 (fun (x7 : (List Nat)) =>
  AppOk 8 ((List.replicate (Int.toNat (IntKind.i64.wrap (((t.1.length : Nat) : Int) - ((x2.length : Nat) : Int)))) 0) ++ x7).length ∧ juntoref02_Sub.C p t.1 ((List.replicate (Int.toNat (IntKind.i64.wrap (((t.1.length : Nat) : Int) - ((x2.length : Nat) : Int)))) 0) ++ x7) (fun (x8 : (List Nat)) =>
  nextQ (x8, (List.set t.2 (Int.toNat (IntKind.i64.wrap (((t.1.length : Nat) : Int) - ((x2.length : Nat) : Int)))) x6))))) ∧ juntoref02_Scale.C p x2 x6 (fun (x7 : (List Nat)) =>
  MakeOk 8 (IntKind.i64.wrap (((t.1.length : Nat) : Int) - ((x2.length : Nat) : Int))) ∧ AppOk 8 ((List.replicate (Int.toNat (IntKind.i64.wrap (((t.1.length : Nat) : Int) - ((x2.length : Nat) : Int)))) 0) ++ x7).length ∧ juntoref02_Sub.C p t.1 ((List.replicate (Int.toNat (IntKind.i64.wrap (((t.1.length : Nat) : Int) - ((x2.length : Nat) : Int)))) 0) ++ x7) (fun (x8 : (List Nat)) =>
  nextQ (x8, (List.set t.2 (Int.toNat (IntKind.i64.wrap (((t.1.length : Nat) : Int) - ((x2.length : Nat) : Int)))) x6))))))
   (juntoref02_Trim.C t.2 (fun (x9 : (List Nat)) =>
  K x9 t.1)))))
theorem juntoref02_Divide.q {p : Nat} {f : (List Nat)} {g : (List Nat)} {K : (List Nat) → (List Nat) → Prop} (q : juntoref02_Divide.Q p f g K) : juntoref02_Divide.C p f g K := by
  intro Z H pv he fA fn fc hn f2 gA gn gc hn2 f3 KK hk
  cases he
  cases hn
  cases hn2
  apply juntoref02_Divide.ok
  unfold juntoref02_Divide.W
  unfold juntoref02_Divide.Q at q
  obtain ⟨σ, hz, hσ⟩ := tags Z
  have hs : Stp ([1, 2, 3, 4, 5, 6, 7, 8, 9, 10] : List Nat) σ H σ H := Stp.refl _ _ _
  replace f2 := f2.wide hz
  replace f3 := f3.wide hz
  clear hz
  refine q (Zt σ) H _ _ _ rfl f2 _ (fun Z2 H_ hE hO x Y hY A n c hn3 f4 q => ?_)
  obtain ⟨xσ, st, fz, fy⟩ := call1 hE hO σ 1 (fun _ h => h) hY
  replace f4 := f4.keep fz fy
  cases hn3
  replace f2 := f2.step st
  replace f3 := f3.step st
  replace hs := hs.trans st
  refine ⟨_, _, _, rfl, ?_⟩
  refine q (Zt xσ) H_ _ _ _ rfl f3 _ (fun Z3 H_2 hE2 hO2 x2 Y2 hY2 A2 n2 c2 hn4 f5 q => ?_)
  obtain ⟨xσ2, st2, fz2, fy2⟩ := call1 hE2 hO2 xσ 2 (fun _ h => h) hY2
  replace f5 := f5.keep fz2 fy2
  cases hn4
  replace f2 := f2.step st2
  replace f3 := f3.step st2
  replace f4 := f4.step st2
  replace hs := hs.trans st2
  refine ⟨_, _, _, rfl, ?_⟩
  obtain ⟨q2, q⟩ := q
  refine ⟨q2.1, Int.le_refl _, q2.w1, q2.w2, NewH.mk fun H_3 e => ?_⟩
  obtain ⟨xσ3, st3, f6⟩ := SlO.made (O := (rdM u64L)) xσ2 3 e (u64_zero) q2.len
  replace f2 := f2.step st3
  replace f3 := f3.step st3
  replace f4 := f4.step st3
  replace f5 := f5.step st3
  replace hs := hs.trans st3
  obtain ⟨h0, hi2, q⟩ := q
  obtain ⟨a, ha, hi⟩ := f5.addr h0 rfl hi2
  refine ⟨a, ha, hi.1, hi.2, ?_⟩
  obtain ⟨x3, hx, q⟩ := q
  have hc := f5.ldu ha h0 hx
  refine ⟨_, hc.val, ?_⟩
  refine q (Zt xσ3) H_3 _ rfl _ rfl _ (fun Z4 H_4 hE3 hO3 x4 v he2 q => ?_)
  obtain ⟨xσ4, st4⟩ := call0 hE3 xσ3
  cases he2
  replace f2 := f2.step st4
  replace f3 := f3.step st4
  replace f4 := f4.step st4
  replace f5 := f5.step st4
  replace f6 := f6.step st4
  replace hc := hc.step st4
  replace hs := hs.trans st4
  refine ⟨_, rfl, ?_⟩
  refine LoopI.ofQ q (fun t_ s_ hp_ => ∃ (σ_ : Nat → Nat) (A0_ : Option Addr) (n0_ c0_ : Nat), Stp [3, 4, 5, 6, 7, 8, 9] xσ4 H_4 σ_ hp_ ∧ (A0_, n0_, c0_) = s_ ∧ n0_ = t_.1.length ∧ SlO (rdM u64L) 22 (Zt σ_) (Yt σ_ 1) hp_ A0_ c0_ t_.1 ∧ t_.2.length = (List.replicate x.length 0).length ∧ SlO (rdM u64L) 22 (Zt σ_) (Yt σ_ 3) hp_ (some (Addr.mk H_2.size 0 none)) x.length t_.2) (fun h k => h _ _ k) ⟨_, _, _, _, Stp.refl _ _ _, rfl, rfl, f4, rfl, f6⟩ ?_
  rintro t _ _ H_5 next nextQ ⟨xσ5, A3, n3, c3, st5, rfl, rfl, f7, hl, f6⟩ q hnext
  try dsimp only at q ⊢
  replace f2 := f2.step st5
  replace f3 := f3.step st5
  replace f5 := f5.step st5
  replace hs := hs.trans st5
  have sl1 := st5
  refine condI (fun q => ?_) (fun q => ?_) q
  · obtain ⟨h02, hi4, q⟩ := q
    obtain ⟨a2, ha2, hi3⟩ := f7.addr h02 rfl hi4
    refine ⟨a2, ha2, hi3.1, hi3.2, ?_⟩
    obtain ⟨x5, hx2, q⟩ := q
    have hc2 := f7.ldu ha2 h02 hx2
    refine ⟨_, hc2.val, ?_⟩
    refine q (Zt xσ5) H_5 _ rfl _ rfl _ rfl _ (fun Z5 H_6 hE4 hO4 x6 v2 he3 q => ?_)
    obtain ⟨xσ6, st6⟩ := call0 hE4 xσ5
    cases he3
    replace f2 := f2.step st6
    replace f3 := f3.step st6
    replace f5 := f5.step st6
    replace f6 := f6.step st6
    replace f7 := f7.step st6
    replace hc2 := hc2.step st6
    replace hs := hs.trans st6
    replace sl1 := sl1.trans st6
    refine ⟨_, rfl, ?_⟩
    obtain ⟨h03, hi6, q⟩ := q
    obtain ⟨a3, ha3, hi5⟩ := f6.addr h03 ((rl_len _ _).trans hl.symm) hi6
    refine ⟨a3, ha3, hi5.1, hi5.2, ?_⟩
    have w := fun v hr => SlO.set1 (v := v) (y := x6) f6 rfl ha3 h03 (lt_of_n ((rl_len _ _).trans hl.symm) hi6) hr
    refine ⟨(w _ rfl).1, NewH.mk fun H_7 e2 => ?_⟩
    obtain ⟨st7, f6⟩ := (w _ rfl).2 H_7 e2
    replace f2 := f2.step st7
    replace f3 := f3.step st7
    replace f5 := f5.step st7
    replace f7 := f7.step st7
    replace hc2 := hc2.step st7
    replace hs := hs.trans st7
    replace sl1 := sl1.trans st7
    obtain ⟨q, qq⟩ := q
    refine ⟨?_, ?_⟩
    · obtain ⟨q3, q⟩ := q
      refine ⟨q3.1, Int.le_refl _, q3.w1, q3.w2, NewH.mk fun H_8 e3 => ?_⟩
      obtain ⟨xσ7, st8, f8⟩ := SlO.made (O := (rdM u64L)) xσ6 4 e3 (u64_zero) q3.len
      replace f2 := f2.step st8
      replace f3 := f3.step st8
      replace f5 := f5.step st8
      replace f6 := f6.step st8
      replace f7 := f7.step st8
      replace hc2 := hc2.step st8
      replace hs := hs.trans st8
      replace sl1 := sl1.trans st8
      refine q (fun i => xσ7 i = 0 ∨ xσ7 i = 2) H_8 _ rfl _ _ _ rfl (f5.read (fun i h => .inl h) (fun i h => .inr (h))) _ rfl _ (fun Z6 H_9 hE5 hO5 x7 Y3 hY3 A4 n4 c4 hn5 f9 q => ?_)
      obtain ⟨xσ8, st9, fy3⟩ := callB1 hE5 hO5 xσ7 5 hY3
      replace f9 := (SlO.anyZ (Z' := Zt xσ8) u64_flatL f9).keep (Fr.refl _ _) fy3
      cases hn5
      replace f2 := f2.step st9
      replace f3 := f3.step st9
      replace f5 := f5.step st9
      replace f6 := f6.step st9
      replace f7 := f7.step st9
      replace hc2 := hc2.step st9
      replace f8 := f8.step st9
      replace hs := hs.trans st9
      replace sl1 := sl1.trans st9
      refine ⟨_, _, _, rfl, ?_⟩
      obtain ⟨xσ10, st11, f9⟩ := SlO.freeze f9
      replace f2 := f2.step st11
      replace f3 := f3.step st11
      replace f5 := f5.step st11
      replace f6 := f6.step st11
      replace f7 := f7.step st11
      replace hc2 := hc2.step st11
      replace f8 := f8.step st11
      replace hs := hs.trans st11
      replace sl1 := sl1.trans st11
      obtain ⟨q4, q⟩ := q
      refine SlO.appF f8 f9 rfl rfl q4.l q4.r (rl_len _ _) rfl (fun A5 c5 H_10 xσ9 st10 f8_ => ?_)
      replace f8 := f8_
      replace f2 := f2.step st10
      replace f3 := f3.step st10
      replace f5 := f5.step st10
      replace f6 := f6.step st10
      replace f7 := f7.step st10
      replace hc2 := hc2.step st10
      replace f9 := f9.step st10
      replace hs := hs.trans st10
      replace sl1 := sl1.trans st10
      have f10 := f8; clear f8
      refine q (fun i => xσ9 i = 0 ∨ xσ9 i = 1 ∨ xσ9 i = 4) H_10 _ rfl _ _ _ rfl (f7.read (fun i h => .inl h) (fun i h => .inr (.inl h))) _ _ _ rfl (f10.read (fun i h => .inl h) (fun i h => .inr (.inr (h)))) _ (fun Z7 H_11 hE6 hO6 x8 Y4 hY4 A6 n5 c6 hn6 f11 q => ?_)
      obtain ⟨xσ11, st12, fy4⟩ := callB1 hE6 hO6 xσ9 6 hY4
      replace f11 := (SlO.anyZ (Z' := Zt xσ11) u64_flatL f11).keep (Fr.refl _ _) fy4
      cases hn6
      replace f2 := f2.step st12
      replace f3 := f3.step st12
      replace f5 := f5.step st12
      replace f6 := f6.step st12
      replace f7 := f7.step st12
      replace hc2 := hc2.step st12
      replace f9 := f9.step st12
      replace f10 := f10.step st12
      replace hs := hs.trans st12
      replace sl1 := sl1.trans st12
      refine ⟨_, _, _, rfl, ?_⟩
      obtain ⟨xσ12, st13, f11⟩ := SlO.retag f11 1
      replace f2 := f2.step st13
      replace f3 := f3.step st13
      replace f5 := f5.step st13
      replace f6 := f6.step st13
      replace f7 := f7.step st13
      replace hc2 := hc2.step st13
      replace f9 := f9.step st13
      replace f10 := f10.step st13
      replace hs := hs.trans st13
      replace sl1 := sl1.trans st13
      exact hnext (x8, (List.set t.2 (Int.toNat (IntKind.i64.wrap (((t.1.length : Nat) : Int) - ((x2.length : Nat) : Int)))) x6)) _ _ ⟨_, _, _, _, sl1, rfl, rfl, f11, (set_back ((rl_len _ _).trans hl.symm) (set_len ((rl_len _ _).trans hl.symm)) hl), f6⟩ q
    · replace q := qq
      clear qq
      refine q (fun i => xσ6 i = 0 ∨ xσ6 i = 2) H_7 _ rfl _ _ _ rfl (f5.read (fun i h => .inl h) (fun i h => .inr (h))) _ rfl _ (fun Z6 H_8 hE5 hO5 x7 Y3 hY3 A4 n4 c4 hn5 f8 q => ?_)
      obtain ⟨xσ7, st8, fy3⟩ := callB1 hE5 hO5 xσ6 7 hY3
      replace f8 := (SlO.anyZ (Z' := Zt xσ7) u64_flatL f8).keep (Fr.refl _ _) fy3
      cases hn5
      replace f2 := f2.step st8
      replace f3 := f3.step st8
      replace f5 := f5.step st8
      replace f6 := f6.step st8
      replace f7 := f7.step st8
      replace hc2 := hc2.step st8
      replace hs := hs.trans st8
      replace sl1 := sl1.trans st8
      refine ⟨_, _, _, rfl, ?_⟩
      obtain ⟨q3, q⟩ := q
      refine ⟨q3.1, Int.le_refl _, q3.w1, q3.w2, NewH.mk fun H_9 e3 => ?_⟩
      obtain ⟨xσ8, st9, f9⟩ := SlO.made (O := (rdM u64L)) xσ7 8 e3 (u64_zero) q3.len
      replace f2 := f2.step st9
      replace f3 := f3.step st9
      replace f5 := f5.step st9
      replace f6 := f6.step st9
      replace f7 := f7.step st9
      replace hc2 := hc2.step st9
      replace f8 := f8.step st9
      replace hs := hs.trans st9
      replace sl1 := sl1.trans st9
      obtain ⟨xσ10, st11, f8⟩ := SlO.freeze f8
      replace f2 := f2.step st11
      replace f3 := f3.step st11
      replace f5 := f5.step st11
      replace f6 := f6.step st11
      replace f7 := f7.step st11
      replace hc2 := hc2.step st11
      replace f9 := f9.step st11
      replace hs := hs.trans st11
      replace sl1 := sl1.trans st11
      obtain ⟨q4, q⟩ := q
      refine SlO.appF f9 f8 rfl rfl q4.l q4.r (rl_len _ _) rfl (fun A5 c5 H_10 xσ9 st10 f9_ => ?_)
      replace f9 := f9_
      replace f2 := f2.step st10
      replace f3 := f3.step st10
      replace f5 := f5.step st10
      replace f6 := f6.step st10
      replace f7 := f7.step st10
      replace hc2 := hc2.step st10
      replace f8 := f8.step st10
      replace hs := hs.trans st10
      replace sl1 := sl1.trans st10
      have f10 := f9; clear f9
      refine q (fun i => xσ9 i = 0 ∨ xσ9 i = 1 ∨ xσ9 i = 8) H_10 _ rfl _ _ _ rfl (f7.read (fun i h => .inl h) (fun i h => .inr (.inl h))) _ _ _ rfl (f10.read (fun i h => .inl h) (fun i h => .inr (.inr (h)))) _ (fun Z7 H_11 hE6 hO6 x8 Y4 hY4 A6 n5 c6 hn6 f11 q => ?_)
      obtain ⟨xσ11, st12, fy4⟩ := callB1 hE6 hO6 xσ9 9 hY4
      replace f11 := (SlO.anyZ (Z' := Zt xσ11) u64_flatL f11).keep (Fr.refl _ _) fy4
      cases hn6
      replace f2 := f2.step st12
      replace f3 := f3.step st12
      replace f5 := f5.step st12
      replace f6 := f6.step st12
      replace f7 := f7.step st12
      replace hc2 := hc2.step st12
      replace f8 := f8.step st12
      replace f10 := f10.step st12
      replace hs := hs.trans st12
      replace sl1 := sl1.trans st12
      refine ⟨_, _, _, rfl, ?_⟩
      obtain ⟨xσ12, st13, f11⟩ := SlO.retag f11 1
      replace f2 := f2.step st13
      replace f3 := f3.step st13
      replace f5 := f5.step st13
      replace f6 := f6.step st13
      replace f7 := f7.step st13
      replace hc2 := hc2.step st13
      replace f8 := f8.step st13
      replace f10 := f10.step st13
      replace hs := hs.trans st13
      replace sl1 := sl1.trans st13
      exact hnext (x8, (List.set t.2 (Int.toNat (IntKind.i64.wrap (((t.1.length : Nat) : Int) - ((x2.length : Nat) : Int)))) x6)) _ _ ⟨_, _, _, _, sl1, rfl, rfl, f11, (set_back ((rl_len _ _).trans hl.symm) (set_len ((rl_len _ _).trans hl.symm)) hl), f6⟩ q
  · refine q (fun i => xσ5 i = 0 ∨ xσ5 i = 3) H_5 _ _ _ ((rl_len _ _).trans hl.symm) (f6.read (fun i h => .inl h) (fun i h => .inr (h))) _ (fun Z8 H_12 hE7 hO7 x9 Y5 hY5 A7 n6 c7 hn7 f12 q => ?_)
    obtain ⟨xσ13, st14, fy5⟩ := callB1 hE7 hO7 xσ5 10 hY5
    replace f12 := (SlO.anyZ (Z' := Zt xσ13) u64_flatL f12).keep (Fr.refl _ _) fy5
    cases hn7
    replace f2 := f2.step st14
    replace f3 := f3.step st14
    replace f5 := f5.step st14
    replace f6 := f6.step st14
    replace f7 := f7.step st14
    replace hs := hs.trans st14
    refine ⟨_, _, _, rfl, ?_⟩
    exact hk (Zt xσ13) _ (hs.ext hσ) (hs.old hσ) _ (Yt xσ13 10) (hs.fresh hσ) _ _ _ rfl f12 _ (Yt xσ13 1) (hs.fresh hσ) _ _ _ rfl f7 Yt.apart q
def juntoref02_Places.C (l : (List TPoint)) (K : (List Nat) → Prop) : Prop :=
  ∀ (Z : Nat → Prop) (H : Heap), ∀ (lA : Option Addr) (ln lc : Nat), ln = l.length → SlF TPoint.L Z H lA lc l → ∀ KK : Value → Heap → Prop,
    (∀ (Z' : Nat → Prop) (H' : Heap), Ext H H' → Old Z H Z' → ∀ (r0 : (List Nat)), ∀ (Y0 : Nat → Prop), (∀ i, Y0 i → H.size ≤ i ∧ ¬ Z' i) → ∀ (Ar0_0 : Option Addr) (nr0_0 cr0_0 : Nat), nr0_0 = r0.length → SlO (rdM u64L) 22 Z' Y0 H' Ar0_0 cr0_0 r0 → K r0 → KK (.slice Ar0_0 nr0_0 cr0_0) H') →
    CallH P N.juntoref02_Places [.slice lA ln lc] H KK
def juntoref02_Places.Q (l : (List TPoint)) (K : (List Nat) → Prop) : Prop :=
  LoopQ (τ := List Nat × Int) (([] : List Nat), 0) fun t nextQ =>
  cond (decide (t.2 < ((l.length : Nat) : Int))) (0 ≤ t.2 ∧ ∃ x : TPoint, l[Int.toNat t.2]? = some x ∧ AppOk 8 (t.1 ++ ([x.X] : List Nat)).length ∧ nextQ ((t.1 ++ ([x.X] : List Nat)), IntKind.i64.wrap (t.2 + 1)))
   (K t.1)
theorem juntoref02_Places.q {l : (List TPoint)} {K : (List Nat) → Prop} (q : juntoref02_Places.Q l K) : juntoref02_Places.C l K := by
  intro Z H lA ln lc hn f KK hk
  cases hn
  apply juntoref02_Places.ok
  unfold juntoref02_Places.W
  unfold juntoref02_Places.Q at q
  obtain ⟨σ, hz, hσ⟩ := tags Z
  have hs : Stp ([1, 2, 3] : List Nat) σ H σ H := Stp.refl _ _ _
  replace f := f.wide hz
  clear hz
  have f2 := SlO.nil (rdM u64L) 22 (Zt σ) (Yt σ 1) H
  refine LoopI.ofQ q (fun t_ s_ hp_ => ∃ (σ_ : Nat → Nat) (A0_ : Option Addr) (n0_ c0_ : Nat), Stp [1, 2, 3] σ H σ_ hp_ ∧ ((A0_, n0_, c0_), t_.2) = s_ ∧ n0_ = t_.1.length ∧ SlO (rdM u64L) 22 (Zt σ_) (Yt σ_ 1) hp_ A0_ c0_ t_.1) (fun h k => h _ _ k) ⟨_, _, _, _, Stp.refl _ _ _, rfl, rfl, f2⟩ ?_
  rintro t _ _ H_ next nextQ ⟨xσ, A, n, c, st, rfl, rfl, f3⟩ q hnext
  try dsimp only at q ⊢
  replace f := f.step st
  replace hs := hs.trans st
  have sl0 := st
  refine condI (fun q => ?_) (fun q => ?_) q
  · obtain ⟨h0, x, hx, q⟩ := q
    obtain ⟨a, ha, hi⟩ := f.addr h0 hx rfl
    refine ⟨a, ha, hi.1, hi.2, ?_⟩
    obtain ⟨cs, hr, hc⟩ := f.ldN (k := 2) rfl ha h0 hx
    cases hr
    have hc2 := hc 0 _ rfl
    have hc3 := hc 1 _ rfl
    refine ⟨_, _, hc2.val, hc3.val, ?_⟩
    refine NewH.mk fun H_2 e => ?_
    obtain ⟨xσ2, st2, b⟩ := BoxF.new xσ 2 e
    replace f := f.step st2
    replace f3 := f3.step st2
    replace hc2 := hc2.step st2
    replace hc3 := hc3.step st2
    replace hs := hs.trans st2
    replace sl0 := sl0.trans st2
    refine ⟨b.mayN 0 2 (show (2 : Nat) ≤ 2 by decide), NewH.mk fun H_3 e2 => ?_⟩
    obtain ⟨st3, b⟩ := b.wroteN 0 (vs := [_, _]) (show (2 : Nat) ≤ 2 by decide) e2
    simp only [List.take_zero, List.take_succ_cons, List.drop_zero, List.drop_succ_cons, List.drop_nil, List.length_cons, List.length_nil, List.cons_append, List.nil_append, List.append_nil, Nat.zero_add, Nat.reduceAdd] at b
    replace f := f.step st3
    replace f3 := f3.step st3
    replace hc2 := hc2.step st3
    replace hc3 := hc3.step st3
    replace hs := hs.trans st3
    replace sl0 := sl0.trans st3
    refine ⟨_, b.cell0, ?_⟩
    refine NewH.mk fun H_4 e3 => ?_
    obtain ⟨xσ3, st4, f4⟩ := SlO.lit (E := u64L) xσ2 3 (xs := [x.X]) (l := [[_]]) e3 rfl (.cons rfl .nil) (show (1 : Nat) ≤ 17592186044416 by decide)
    replace f := f.step st4
    replace f3 := f3.step st4
    replace hc2 := hc2.step st4
    replace hc3 := hc3.step st4
    replace b := b.step st4
    replace hs := hs.trans st4
    replace sl0 := sl0.trans st4
    obtain ⟨xσ5, st6, f4⟩ := SlO.freeze f4
    replace f := f.step st6
    replace f3 := f3.step st6
    replace hc2 := hc2.step st6
    replace hc3 := hc3.step st6
    replace b := b.step st6
    replace hs := hs.trans st6
    replace sl0 := sl0.trans st6
    obtain ⟨q2, q⟩ := q
    refine SlO.appF f3 f4 rfl rfl q2.l q2.r rfl rfl (fun A2 c2 H_5 xσ4 st5 f3_ => ?_)
    replace f3 := f3_
    replace f := f.step st5
    replace hc2 := hc2.step st5
    replace hc3 := hc3.step st5
    replace b := b.step st5
    replace f4 := f4.step st5
    replace hs := hs.trans st5
    replace sl0 := sl0.trans st5
    have f5 := f3; clear f3
    exact hnext ((t.1 ++ ([x.X] : List Nat)), IntKind.i64.wrap (t.2 + 1)) _ _ ⟨_, _, _, _, sl0, rfl, rfl, f5⟩ q
  · exact hk (Zt xσ) _ (hs.ext hσ) (hs.old hσ) _ (Yt xσ 1) (hs.fresh hσ) _ _ _ rfl f3 q
def juntoref02_unit.C (p : Nat) (xs : (List Nat)) (i : Int) (K : (List Nat) → Prop) : Prop :=
  ∀ (Z : Nat → Prop) (H : Heap), ∀ (pv : Int), pv = (p : Int) → ∀ (xsA : Option Addr) (xsn xsc : Nat), xsn = xs.length → SlF u64L Z H xsA xsc xs → ∀ KK : Value → Heap → Prop,
    (∀ (Z' : Nat → Prop) (H' : Heap), Ext H H' → Old Z H Z' → ∀ (r0 : (List Nat)), ∀ (Y0 : Nat → Prop), (∀ i, Y0 i → H.size ≤ i ∧ ¬ Z' i) → ∀ (Ar0_0 : Option Addr) (nr0_0 cr0_0 : Nat), nr0_0 = r0.length → SlO (rdM u64L) 22 Z' Y0 H' Ar0_0 cr0_0 r0 → K r0 → KK (.slice Ar0_0 nr0_0 cr0_0) H') →
    CallH P N.juntoref02_unit [.int .u64 pv, .slice xsA xsn xsc, .int .i64 i] H KK
def juntoref02_unit.Q (p : Nat) (xs : (List Nat)) (i : Int) (K : (List Nat) → Prop) : Prop :=
  LoopQ (τ := List Nat × Int) ([1], 0) fun t nextQ =>
  cond (decide (t.2 < ((xs.length : Nat) : Int))) (0 ≤ t.2 ∧ ∃ x : Nat, xs[Int.toNat t.2]? = some x ∧ cond (t.2 != i) (0 ≤ i ∧ ∃ x2 : Nat, xs[Int.toNat i]? = some x2 ∧ juntoref01_Sub.C p 0 x (fun (x3 : Nat) =>
  juntoref02_Mul.C p t.1 ([x3, 1]) (fun (x4 : (List Nat)) =>
  juntoref01_Sub.C p x2 x (fun (x5 : Nat) =>
  juntoref01_Inv.C p x5 (fun (x6 : Nat) =>
  juntoref02_Scale.C p x4 x6 (fun (x7 : (List Nat)) =>
  nextQ (x7, IntKind.i64.wrap (t.2 + 1))))))))
   (nextQ (t.1, IntKind.i64.wrap (t.2 + 1))))
   (K t.1)
theorem juntoref02_unit.q {p : Nat} {xs : (List Nat)} {i : Int} {K : (List Nat) → Prop} (q : juntoref02_unit.Q p xs i K) : juntoref02_unit.C p xs i K := by
  intro Z H pv he xsA xsn xsc hn f KK hk
  cases he
  cases hn
  apply juntoref02_unit.ok
  unfold juntoref02_unit.W
  unfold juntoref02_unit.Q at q
  obtain ⟨σ, hz, hσ⟩ := tags Z
  have hs : Stp ([1, 2, 3, 4] : List Nat) σ H σ H := Stp.refl _ _ _
  replace f := f.wide hz
  clear hz
  refine NewH.mk fun H_ e => ?_
  obtain ⟨xσ, st, f2⟩ := SlO.lit (E := u64L) σ 1 (xs := [1]) (l := [[_]]) e rfl (.cons rfl .nil) (show (1 : Nat) ≤ 17592186044416 by decide)
  replace f := f.step st
  replace hs := hs.trans st
  refine LoopI.ofQ q (fun t_ s_ hp_ => ∃ (σ_ : Nat → Nat) (A0_ : Option Addr) (n0_ c0_ : Nat), Stp [2, 3, 4] xσ H_ σ_ hp_ ∧ ((A0_, n0_, c0_), t_.2) = s_ ∧ n0_ = t_.1.length ∧ SlO (rdM u64L) 22 (Zt σ_) (Yt σ_ 1) hp_ A0_ c0_ t_.1) (fun h k => h _ _ k) ⟨_, _, _, _, Stp.refl _ _ _, rfl, rfl, f2⟩ ?_
  rintro t _ _ H_2 next nextQ ⟨xσ2, A, n, c, st2, rfl, rfl, f3⟩ q hnext
  try dsimp only at q ⊢
  replace f := f.step st2
  replace hs := hs.trans st2
  have sl0 := st2
  refine condI (fun q => ?_) (fun q => ?_) q
  · obtain ⟨h0, x, hx, q⟩ := q
    obtain ⟨a, ha, hi⟩ := f.addr h0 hx rfl
    refine ⟨a, ha, hi.1, hi.2, ?_⟩
    have hc := f.ldu ha h0 hx
    refine ⟨_, hc.val, ?_⟩
    refine condI (fun q => ?_) (fun q => ?_) q
    · obtain ⟨h02, x2, hx2, q⟩ := q
      obtain ⟨a2, ha2, hi2⟩ := f.addr h02 hx2 rfl
      refine ⟨a2, ha2, hi2.1, hi2.2, ?_⟩
      have hc2 := f.ldu ha2 h02 hx2
      refine ⟨_, hc2.val, ?_⟩
      refine q (Zt xσ2) H_2 _ rfl _ rfl _ rfl _ (fun Z2 H_3 hE hO x3 v he2 q => ?_)
      obtain ⟨xσ3, st3⟩ := call0 hE xσ2
      cases he2
      replace f := f.step st3
      replace f3 := f3.step st3
      replace hc := hc.step st3
      replace hc2 := hc2.step st3
      replace hs := hs.trans st3
      replace sl0 := sl0.trans st3
      refine ⟨_, rfl, ?_⟩
      refine ⟨hc2.val, ?_⟩
      refine NewH.mk fun H_4 e2 => ?_
      obtain ⟨xσ4, st4, f4⟩ := SlO.lit (E := u64L) xσ3 2 (xs := [x3, 1]) (l := [[_], [_]]) e2 rfl (.cons rfl (.cons rfl .nil)) (show (2 : Nat) ≤ 17592186044416 by decide)
      replace f := f.step st4
      replace f3 := f3.step st4
      replace hc := hc.step st4
      replace hc2 := hc2.step st4
      replace hs := hs.trans st4
      replace sl0 := sl0.trans st4
      refine ⟨hc2.val, ?_⟩
      refine q (fun i => xσ4 i = 0 ∨ xσ4 i = 1 ∨ xσ4 i = 2) H_4 _ rfl _ _ _ rfl (f3.read (fun i h => .inl h) (fun i h => .inr (.inl h))) _ _ _ rfl (f4.read (fun i h => .inl h) (fun i h => .inr (.inr (h)))) _ (fun Z3 H_5 hE2 hO2 x4 Y hY A2 n2 c2 hn2 f5 q => ?_)
      obtain ⟨xσ5, st5, fy⟩ := callB1 hE2 hO2 xσ4 3 hY
      replace f5 := (SlO.anyZ (Z' := Zt xσ5) u64_flatL f5).keep (Fr.refl _ _) fy
      cases hn2
      replace f := f.step st5
      replace f3 := f3.step st5
      replace hc := hc.step st5
      replace hc2 := hc2.step st5
      replace f4 := f4.step st5
      replace hs := hs.trans st5
      replace sl0 := sl0.trans st5
      refine ⟨_, _, _, rfl, ?_⟩
      refine ⟨hc2.val, ?_⟩
      refine q (Zt xσ5) H_5 _ rfl _ rfl _ rfl _ (fun Z4 H_6 hE3 hO3 x5 v2 he3 q => ?_)
      obtain ⟨xσ6, st6⟩ := call0 hE3 xσ5
      cases he3
      replace f := f.step st6
      replace f3 := f3.step st6
      replace hc := hc.step st6
      replace hc2 := hc2.step st6
      replace f4 := f4.step st6
      replace f5 := f5.step st6
      replace hs := hs.trans st6
      replace sl0 := sl0.trans st6
      refine ⟨_, rfl, ?_⟩
      refine q (Zt xσ6) H_6 _ rfl _ rfl _ (fun Z5 H_7 hE4 hO4 x6 v3 he4 q => ?_)
      obtain ⟨xσ7, st7⟩ := call0 hE4 xσ6
      cases he4
      replace f := f.step st7
      replace f3 := f3.step st7
      replace hc := hc.step st7
      replace hc2 := hc2.step st7
      replace f4 := f4.step st7
      replace f5 := f5.step st7
      replace hs := hs.trans st7
      replace sl0 := sl0.trans st7
      refine ⟨_, rfl, ?_⟩
      refine q (fun i => xσ7 i = 0 ∨ xσ7 i = 3) H_7 _ rfl _ _ _ rfl (f5.read (fun i h => .inl h) (fun i h => .inr (h))) _ rfl _ (fun Z6 H_8 hE5 hO5 x7 Y2 hY2 A3 n3 c3 hn3 f6 q => ?_)
      obtain ⟨xσ8, st8, fy2⟩ := callB1 hE5 hO5 xσ7 4 hY2
      replace f6 := (SlO.anyZ (Z' := Zt xσ8) u64_flatL f6).keep (Fr.refl _ _) fy2
      cases hn3
      replace f := f.step st8
      replace f3 := f3.step st8
      replace hc := hc.step st8
      replace hc2 := hc2.step st8
      replace f4 := f4.step st8
      replace f5 := f5.step st8
      replace hs := hs.trans st8
      replace sl0 := sl0.trans st8
      refine ⟨_, _, _, rfl, ?_⟩
      obtain ⟨xσ9, st9, f6⟩ := SlO.retag f6 1
      replace f := f.step st9
      replace f3 := f3.step st9
      replace hc := hc.step st9
      replace hc2 := hc2.step st9
      replace f4 := f4.step st9
      replace f5 := f5.step st9
      replace hs := hs.trans st9
      replace sl0 := sl0.trans st9
      exact hnext (x7, IntKind.i64.wrap (t.2 + 1)) _ _ ⟨_, _, _, _, sl0, rfl, rfl, f6⟩ q
    · exact hnext (t.1, IntKind.i64.wrap (t.2 + 1)) _ _ ⟨_, _, _, _, sl0, rfl, rfl, f3⟩ q
  · exact hk (Zt xσ2) _ (hs.ext hσ) (hs.old hσ) _ (Yt xσ2 1) (hs.fresh hσ) _ _ _ rfl f3 q
def juntoref02_Through.C (p : Nat) (l : (List TPoint)) (K : (List Nat) → Prop) : Prop :=
  ∀ (Z : Nat → Prop) (H : Heap), ∀ (pv : Int), pv = (p : Int) → ∀ (lA : Option Addr) (ln lc : Nat), ln = l.length → SlF TPoint.L Z H lA lc l → ∀ KK : Value → Heap → Prop,
    (∀ (Z' : Nat → Prop) (H' : Heap), Ext H H' → Old Z H Z' → ∀ (r0 : (List Nat)), ∀ (Y0 : Nat → Prop), (∀ i, Y0 i → H.size ≤ i ∧ ¬ Z' i) → ∀ (Ar0_0 : Option Addr) (nr0_0 cr0_0 : Nat), nr0_0 = r0.length → SlO (rdM u64L) 22 Z' Y0 H' Ar0_0 cr0_0 r0 → K r0 → KK (.slice Ar0_0 nr0_0 cr0_0) H') →
    CallH P N.juntoref02_Through [.int .u64 pv, .slice lA ln lc] H KK
def juntoref02_Through.Q (p : Nat) (l : (List TPoint)) (K : (List Nat) → Prop) : Prop :=
  LoopQ (τ := List Nat × Int) (([] : List Nat), 0) fun t nextQ =>
  cond (decide (t.2 < ((l.length : Nat) : Int))) (0 ≤ t.2 ∧ ∃ x : TPoint, l[Int.toNat t.2]? = some x ∧ juntoref02_Places.C l (fun (x2 : (List Nat)) =>
  juntoref02_unit.C p x2 t.2 (fun (x3 : (List Nat)) =>
  juntoref02_Scale.C p x3 x.Y (fun (x4 : (List Nat)) =>
  juntoref02_Add.C p t.1 x4 (fun (x5 : (List Nat)) =>
  nextQ (x5, IntKind.i64.wrap (t.2 + 1)))))))
   (K t.1)
theorem juntoref02_Through.q {p : Nat} {l : (List TPoint)} {K : (List Nat) → Prop} (q : juntoref02_Through.Q p l K) : juntoref02_Through.C p l K := by
  intro Z H pv he lA ln lc hn f KK hk
  cases he
  cases hn
  apply juntoref02_Through.ok
  unfold juntoref02_Through.W
  unfold juntoref02_Through.Q at q
  obtain ⟨σ, hz, hσ⟩ := tags Z
  have hs : Stp ([1, 2, 3, 4, 5, 6] : List Nat) σ H σ H := Stp.refl _ _ _
  replace f := f.wide hz
  clear hz
  have f2 := SlO.nil (rdM u64L) 22 (Zt σ) (Yt σ 1) H
  refine LoopI.ofQ q (fun t_ s_ hp_ => ∃ (σ_ : Nat → Nat) (A0_ : Option Addr) (n0_ c0_ : Nat), Stp [2, 3, 4, 5, 6] σ H σ_ hp_ ∧ ((A0_, n0_, c0_), t_.2) = s_ ∧ n0_ = t_.1.length ∧ SlO (rdM u64L) 22 (Zt σ_) (Yt σ_ 1) hp_ A0_ c0_ t_.1) (fun h k => h _ _ k) ⟨_, _, _, _, Stp.refl _ _ _, rfl, rfl, f2⟩ ?_
  rintro t _ _ H_ next nextQ ⟨xσ, A, n, c, st, rfl, rfl, f3⟩ q hnext
  try dsimp only at q ⊢
  replace f := f.step st
  replace hs := hs.trans st
  have sl0 := st
  refine condI (fun q => ?_) (fun q => ?_) q
  · obtain ⟨h0, x, hx, q⟩ := q
    obtain ⟨a, ha, hi⟩ := f.addr h0 hx rfl
    refine ⟨a, ha, hi.1, hi.2, ?_⟩
    obtain ⟨cs, hr, hc⟩ := f.ldN (k := 2) rfl ha h0 hx
    cases hr
    have hc2 := hc 0 _ rfl
    have hc3 := hc 1 _ rfl
    refine ⟨_, _, hc2.val, hc3.val, ?_⟩
    refine NewH.mk fun H_2 e => ?_
    obtain ⟨xσ2, st2, b⟩ := BoxF.new xσ 2 e
    replace f := f.step st2
    replace f3 := f3.step st2
    replace hc2 := hc2.step st2
    replace hc3 := hc3.step st2
    replace hs := hs.trans st2
    replace sl0 := sl0.trans st2
    refine ⟨b.mayN 0 2 (show (2 : Nat) ≤ 2 by decide), NewH.mk fun H_3 e2 => ?_⟩
    obtain ⟨st3, b⟩ := b.wroteN 0 (vs := [_, _]) (show (2 : Nat) ≤ 2 by decide) e2
    simp only [List.take_zero, List.take_succ_cons, List.drop_zero, List.drop_succ_cons, List.drop_nil, List.length_cons, List.length_nil, List.cons_append, List.nil_append, List.append_nil, Nat.zero_add, Nat.reduceAdd] at b
    replace f := f.step st3
    replace f3 := f3.step st3
    replace hc2 := hc2.step st3
    replace hc3 := hc3.step st3
    replace hs := hs.trans st3
    replace sl0 := sl0.trans st3
    refine ⟨_, b.cell 1 rfl, ?_⟩
    refine q (Zt xσ2) H_3 _ _ _ rfl f _ (fun Z2 H_4 hE hO x2 Y hY A2 n2 c2 hn2 f4 q => ?_)
    obtain ⟨xσ3, st4, fz, fy⟩ := call1 hE hO xσ2 3 (fun _ h => h) hY
    replace f4 := f4.keep fz fy
    cases hn2
    replace f := f.step st4
    replace f3 := f3.step st4
    replace hc2 := hc2.step st4
    replace hc3 := hc3.step st4
    replace b := b.step st4
    replace hs := hs.trans st4
    replace sl0 := sl0.trans st4
    refine ⟨_, _, _, rfl, ?_⟩
    refine ⟨(b.cell 1 rfl), ?_⟩
    refine q (fun i => xσ3 i = 0 ∨ xσ3 i = 3) H_4 _ rfl _ _ _ rfl (f4.read (fun i h => .inl h) (fun i h => .inr (h))) _ (fun Z3 H_5 hE2 hO2 x3 Y2 hY2 A3 n3 c3 hn3 f5 q => ?_)
    obtain ⟨xσ4, st5, fy2⟩ := callB1 hE2 hO2 xσ3 4 hY2
    replace f5 := (SlO.anyZ (Z' := Zt xσ4) u64_flatL f5).keep (Fr.refl _ _) fy2
    cases hn3
    replace f := f.step st5
    replace f3 := f3.step st5
    replace hc2 := hc2.step st5
    replace hc3 := hc3.step st5
    replace b := b.step st5
    replace f4 := f4.step st5
    replace hs := hs.trans st5
    replace sl0 := sl0.trans st5
    refine ⟨_, _, _, rfl, ?_⟩
    refine ⟨(b.cell 1 rfl), ?_⟩
    refine q (fun i => xσ4 i = 0 ∨ xσ4 i = 4) H_5 _ rfl _ _ _ rfl (f5.read (fun i h => .inl h) (fun i h => .inr (h))) _ rfl _ (fun Z4 H_6 hE3 hO3 x4 Y3 hY3 A4 n4 c4 hn4 f6 q => ?_)
    obtain ⟨xσ5, st6, fy3⟩ := callB1 hE3 hO3 xσ4 5 hY3
    replace f6 := (SlO.anyZ (Z' := Zt xσ5) u64_flatL f6).keep (Fr.refl _ _) fy3
    cases hn4
    replace f := f.step st6
    replace f3 := f3.step st6
    replace hc2 := hc2.step st6
    replace hc3 := hc3.step st6
    replace b := b.step st6
    replace f4 := f4.step st6
    replace f5 := f5.step st6
    replace hs := hs.trans st6
    replace sl0 := sl0.trans st6
    refine ⟨_, _, _, rfl, ?_⟩
    refine q (fun i => xσ5 i = 0 ∨ xσ5 i = 1 ∨ xσ5 i = 5) H_6 _ rfl _ _ _ rfl (f3.read (fun i h => .inl h) (fun i h => .inr (.inl h))) _ _ _ rfl (f6.read (fun i h => .inl h) (fun i h => .inr (.inr (h)))) _ (fun Z5 H_7 hE4 hO4 x5 Y4 hY4 A5 n5 c5 hn5 f7 q => ?_)
    obtain ⟨xσ6, st7, fy4⟩ := callB1 hE4 hO4 xσ5 6 hY4
    replace f7 := (SlO.anyZ (Z' := Zt xσ6) u64_flatL f7).keep (Fr.refl _ _) fy4
    cases hn5
    replace f := f.step st7
    replace f3 := f3.step st7
    replace hc2 := hc2.step st7
    replace hc3 := hc3.step st7
    replace b := b.step st7
    replace f4 := f4.step st7
    replace f5 := f5.step st7
    replace f6 := f6.step st7
    replace hs := hs.trans st7
    replace sl0 := sl0.trans st7
    refine ⟨_, _, _, rfl, ?_⟩
    obtain ⟨xσ7, st8, f7⟩ := SlO.retag f7 1
    replace f := f.step st8
    replace f3 := f3.step st8
    replace hc2 := hc2.step st8
    replace hc3 := hc3.step st8
    replace b := b.step st8
    replace f4 := f4.step st8
    replace f5 := f5.step st8
    replace f6 := f6.step st8
    replace hs := hs.trans st8
    replace sl0 := sl0.trans st8
    exact hnext (x5, IntKind.i64.wrap (t.2 + 1)) _ _ ⟨_, _, _, _, sl0, rfl, rfl, f7⟩ q
  · exact hk (Zt xσ) _ (hs.ext hσ) (hs.old hσ) _ (Yt xσ 1) (hs.fresh hσ) _ _ _ rfl f3 q
end Go.Proofs.Ytlhcaangdenoaaa.Sh
