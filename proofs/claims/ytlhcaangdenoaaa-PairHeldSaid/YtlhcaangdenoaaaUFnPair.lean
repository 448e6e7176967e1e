import Derived.Test.YtlhcaangdenoaaaUTypes
import Derived.Test.YtlhcaangdenoaaaUFnField
import Derived.Test.YtlhcaangdenoaaaUFnPoly
import Derived.Test.YtlhcaangdenoaaaUFnSlices
namespace Go.Lf
end Go.Lf
namespace Go.Sx
end Go.Sx
set_option linter.unusedVariables false
set_option linter.unusedSimpArgs false
set_option maxRecDepth 100000
namespace Go.Proofs.Ytlhcaangdenoaaa.Sh
open Go.Sx
def pair_Check.A : Ann where
  loops := fun i => match i with
    | 28684 => [(33, .int .i64)]
    | 57366 => [(46, .int .i64)]
    | 69653 => [(53, .int .i64)]
    | _ => []
  plans := fun i => match i with
    | _ => .stop
def pair_Check.W (p : Int) (t : Int) (fA : Option Addr) (fn fc : Nat) (H : Heap) (R : Value → Heap → Prop) : Prop :=
  NewH (H.push (.cells #[.int .i64 t] 3 (0, 0))) fun H_ =>
  ∃ x : Int, cellH H_ (Addr.mk H.size 0 none) = some (.int .i64 x) ∧ CallH P N.pair_ground [.int .u64 p, .int .i64 x] H_ fun v H_2 =>
  ∃ r : Int, v = .int .i64 r ∧ cond (r != 0) (R (.int .i64 r) H_2)
   (∃ x2 : Int, cellH H_2 (Addr.mk H.size 0 none) = some (.int .i64 x2) ∧ cond (((fn : Nat) : Int) != (IntKind.i64.wrap (x2 + 1))) (R (.int .i64 4) H_2) (CallH P N.slices_ContainsFunc_uint64uint64 [.slice fA fn fc, .func (.func 78) #[] #[.pointer (some (Addr.mk H.size 0 none))]] H_2 fun v2 H_3 =>
  ∃ r2 : Bool, v2 = .bool r2 ∧ cond r2 (R (.int .i64 4) H_3)
   (LoopI (σ := Int) (fun κ => κ 0 H_3) fun s z H_4 next =>
  cond (decide (s < ((fn : Nat) : Int))) (∃ a : Addr, fA = some a ∧ 0 ≤ s ∧ s < ((fn : Nat) : Int) ∧ ∃ (xA : Option Addr) (xn xc : Nat), cellH H_4 (a.add (Int.toNat s)) = some (.slice xA xn xc) ∧ CallH P N.field_Below [.int .u64 p, .slice xA xn xc] H_4 fun v3 H_5 =>
  ∃ r3 : Int, v3 = .int .i64 r3 ∧ cond (r3 != 0) (R (.int .i64 r3) H_5)
   (next (IntKind.i64.wrap (s + 1)) H_5))
   (LoopI (σ := Int) (fun κ => κ 0 H_4) fun s2 z2 H_6 next2 =>
  cond (decide (s2 < ((fn : Nat) : Int))) (∃ a2 : Addr, fA = some a2 ∧ 0 ≤ s2 ∧ s2 < ((fn : Nat) : Int) ∧ ∃ (xA2 : Option Addr) (xn2 xc2 : Nat), cellH H_6 (a2.add (Int.toNat s2)) = some (.slice xA2 xn2 xc2) ∧ LoopI (σ := Int) (fun κ => κ 0 H_6) fun s3 z3 H_7 next3 =>
  cond (decide (s3 < ((xn2 : Nat) : Int))) (∃ a3 : Addr, xA2 = some a3 ∧ 0 ≤ s3 ∧ s3 < ((xn2 : Nat) : Int) ∧ ∃ x3 : Int, cellH H_7 (a3.add (Int.toNat s3)) = some (.int .u64 x3) ∧ ∃ a4 : Addr, fA = some a4 ∧ 0 ≤ s3 ∧ s3 < ((fn : Nat) : Int) ∧ ∃ (xA3 : Option Addr) (xn3 xc3 : Nat), cellH H_7 (a4.add (Int.toNat s3)) = some (.slice xA3 xn3 xc3) ∧ ∃ a5 : Addr, xA3 = some a5 ∧ 0 ≤ s2 ∧ s2 < ((xn3 : Nat) : Int) ∧ ∃ x4 : Int, cellH H_7 (a5.add (Int.toNat s2)) = some (.int .u64 x4) ∧ cond (x4 != x3) (R (.int .i64 4) H_7)
   (next3 (IntKind.i64.wrap (s3 + 1)) H_7))
   (next2 (IntKind.i64.wrap (s2 + 1)) H_7))
   (R (.int .i64 0) H_6)))))
theorem pair_Check.ok (p : Int) (t : Int) (fA : Option Addr) (fn fc : Nat) (H : Heap) (R : Value → Heap → Prop) (h : pair_Check.W p t fA fn fc H R) : CallH P N.pair_Check ([.int .u64 p, .int .i64 t, .slice fA fn fc] : List Value) H R := by
  have e : pair_Check.W p t fA fn fc H R = sxFn P T Sh.R nf pair_Check.A Try.f24.results.toList (bodyOf Try.f24) (([(.int .u64 p : Value), (.int .i64 t : Value), (.slice fA fn fc : Value)] : List Value) ++ List.replicate (69 - ([(.int .u64 p : Value), (.int .i64 t : Value), (.slice fA fn fc : Value)] : List Value).length) undef) H R := by kernel_rfl
  exact call_of_sx fits bodies mixed Try.func24 (c := bodyOf Try.f24) (by kernel_rfl) Try.ntmps24 pair_Check.A (by kernel_rfl) (e.mp h)
def pair_Size.A : Ann where
  loops := fun i => match i with
    | _ => []
  plans := fun i => match i with
    | _ => .stop
def pair_Size.W (t : Int) (H : Heap) (R : Value → Heap → Prop) : Prop :=
  cond (decide (t < 0)) (R (.int .i64 0) H) (cond (decide (t > 3)) (R (.int .i64 0) H)
   ((2 : Int) ≠ 0 ∧ R (.int .i64 (IntKind.i64.wrap ((IntKind.i64.wrap (Int.tdiv (IntKind.i64.wrap ((IntKind.i64.wrap (t + 1)) * (IntKind.i64.wrap (t + 2)))) 2)) - 1))) H))
theorem pair_Size.ok (t : Int) (H : Heap) (R : Value → Heap → Prop) (h : pair_Size.W t H R) : CallH P N.pair_Size ([.int .i64 t] : List Value) H R := by
  have e : pair_Size.W t H R = sxFn P T Sh.R nf pair_Size.A Try.f26.results.toList (bodyOf Try.f26) (([(.int .i64 t : Value)] : List Value) ++ List.replicate (16 - ([(.int .i64 t : Value)] : List Value).length) undef) H R := by kernel_rfl
  exact call_of_sx fits bodies mixed Try.func26 (c := bodyOf Try.f26) (by kernel_rfl) Try.ntmps26 pair_Size.A (by kernel_rfl) (e.mp h)
def pair_Make.A : Ann where
  loops := fun i => match i with
    | _ => []
  plans := fun i => match i with
    | _ => .stop
def pair_Make.W (p : Int) (secret : Int) (t : Int) (tapeA : Option Addr) (tapen tapec : Nat) (H : Heap) (R : Value → Heap → Prop) : Prop :=
  CallH P N.pair_ground [.int .u64 p, .int .i64 t] H fun v H_ =>
  ∃ r : Int, v = .int .i64 r ∧ cond (r != 0) (R (.tuple #[.slice none 0 0, .slice none 0 0, .int .i64 r]) H_)
   (cond (decide (secret ≥ p)) (R (.tuple #[.slice none 0 0, .slice none 0 0, .int .i64 2]) H_)
   (CallH P N.pair_Size [.int .i64 t] H_ fun v2 H_2 =>
  ∃ r2 : Int, v2 = .int .i64 r2 ∧ CallH P N.field_Take [.int .u64 p, .slice tapeA tapen tapec, .int .i64 r2] H_2 fun v3 H_3 =>
  ∃ (r0A : Option Addr) (r0n r0c : Nat), ∃ (r1A : Option Addr) (r1n r1c : Nat), v3 = .tuple #[.slice r0A r0n r0c, .slice r1A r1n r1c] ∧ CallH P N.pair_Of [.int .u64 secret, .int .i64 t, .slice r0A r0n r0c] H_3 fun v4 H_4 =>
  ∃ (rA : Option Addr) (rn rc : Nat), v4 = .slice rA rn rc ∧ R (.tuple #[.slice rA rn rc, .slice r1A r1n r1c, .int .i64 0]) H_4))
theorem pair_Make.ok (p : Int) (secret : Int) (t : Int) (tapeA : Option Addr) (tapen tapec : Nat) (H : Heap) (R : Value → Heap → Prop) (h : pair_Make.W p secret t tapeA tapen tapec H R) : CallH P N.pair_Make ([.int .u64 p, .int .u64 secret, .int .i64 t, .slice tapeA tapen tapec] : List Value) H R := by
  have e : pair_Make.W p secret t tapeA tapen tapec H R = sxFn P T Sh.R nf pair_Make.A Try.f29.results.toList (bodyOf Try.f29) (([(.int .u64 p : Value), (.int .u64 secret : Value), (.int .i64 t : Value), (.slice tapeA tapen tapec : Value)] : List Value) ++ List.replicate (36 - ([(.int .u64 p : Value), (.int .u64 secret : Value), (.int .i64 t : Value), (.slice tapeA tapen tapec : Value)] : List Value).length) undef) H R := by kernel_rfl
  exact call_of_sx fits bodies mixed Try.func29 (c := bodyOf Try.f29) (by kernel_rfl) Try.ntmps29 pair_Make.A (by kernel_rfl) (e.mp h)
def pair_At.A : Ann where
  loops := fun i => match i with
    | _ => []
  plans := fun i => match i with
    | _ => .stop
def pair_At.W (p : Int) (t : Int) (fA : Option Addr) (fn fc : Nat) (x : Int) (y : Int) (H : Heap) (R : Value → Heap → Prop) : Prop :=
  CallH P N.pair_Row [.int .u64 p, .int .i64 t, .slice fA fn fc, .int .u64 x] H fun v H_ =>
  ∃ (r0A : Option Addr) (r0n r0c : Nat), ∃ r1 : Int, v = .tuple #[.slice r0A r0n r0c, .int .i64 r1] ∧ cond (r1 != 0) (R (.tuple #[.int .u64 0, .int .i64 r1]) H_)
   (cond (decide (y ≥ p)) (R (.tuple #[.int .u64 0, .int .i64 2]) H_)
   (CallH P N.poly_At [.int .u64 p, .slice r0A r0n r0c, .int .u64 y] H_ fun v2 H_2 =>
  ∃ r : Int, v2 = .int .u64 r ∧ R (.tuple #[.int .u64 r, .int .i64 0]) H_2))
theorem pair_At.ok (p : Int) (t : Int) (fA : Option Addr) (fn fc : Nat) (x : Int) (y : Int) (H : Heap) (R : Value → Heap → Prop) (h : pair_At.W p t fA fn fc x y H R) : CallH P N.pair_At ([.int .u64 p, .int .i64 t, .slice fA fn fc, .int .u64 x, .int .u64 y] : List Value) H R := by
  have e : pair_At.W p t fA fn fc x y H R = sxFn P T Sh.R nf pair_At.A Try.f34.results.toList (bodyOf Try.f34) (([(.int .u64 p : Value), (.int .i64 t : Value), (.slice fA fn fc : Value), (.int .u64 x : Value), (.int .u64 y : Value)] : List Value) ++ List.replicate (32 - ([(.int .u64 p : Value), (.int .i64 t : Value), (.slice fA fn fc : Value), (.int .u64 x : Value), (.int .u64 y : Value)] : List Value).length) undef) H R := by kernel_rfl
  exact call_of_sx fits bodies mixed Try.func34 (c := bodyOf Try.f34) (by kernel_rfl) Try.ntmps34 pair_At.A (by kernel_rfl) (e.mp h)
def pair_Row.A : Ann where
  loops := fun i => match i with
    | _ => []
  plans := fun i => match i with
    | _ => .stop
def pair_Row.W (p : Int) (t : Int) (fA : Option Addr) (fn fc : Nat) (x : Int) (H : Heap) (R : Value → Heap → Prop) : Prop :=
  CallH P N.pair_Check [.int .u64 p, .int .i64 t, .slice fA fn fc] H fun v H_ =>
  ∃ r : Int, v = .int .i64 r ∧ cond (r != 0) (R (.tuple #[.slice none 0 0, .int .i64 r]) H_)
   (cond (decide (x ≥ p)) (R (.tuple #[.slice none 0 0, .int .i64 2]) H_)
   (CallH P N.pair_RowOf [.int .u64 p, .slice fA fn fc, .int .u64 x] H_ fun v2 H_2 =>
  ∃ (rA : Option Addr) (rn rc : Nat), v2 = .slice rA rn rc ∧ R (.tuple #[.slice rA rn rc, .int .i64 0]) H_2))
theorem pair_Row.ok (p : Int) (t : Int) (fA : Option Addr) (fn fc : Nat) (x : Int) (H : Heap) (R : Value → Heap → Prop) (h : pair_Row.W p t fA fn fc x H R) : CallH P N.pair_Row ([.int .u64 p, .int .i64 t, .slice fA fn fc, .int .u64 x] : List Value) H R := by
  have e : pair_Row.W p t fA fn fc x H R = sxFn P T Sh.R nf pair_Row.A Try.f35.results.toList (bodyOf Try.f35) (([(.int .u64 p : Value), (.int .i64 t : Value), (.slice fA fn fc : Value), (.int .u64 x : Value)] : List Value) ++ List.replicate (25 - ([(.int .u64 p : Value), (.int .i64 t : Value), (.slice fA fn fc : Value), (.int .u64 x : Value)] : List Value).length) undef) H R := by kernel_rfl
  exact call_of_sx fits bodies mixed Try.func35 (c := bodyOf Try.f35) (by kernel_rfl) Try.ntmps35 pair_Row.A (by kernel_rfl) (e.mp h)
def pair_Join.A : Ann where
  loops := fun i => match i with
    | 53265 => [(45, .int .i64)]
    | _ => []
  plans := fun i => match i with
    | 15 => .first 0 (.first 1 (.first 2 (.first 4 (.first 5 (.first 6 (.read 7 (.alt 3 [] (.alt 8 [7] (.alt 9 [] (.first 10 (.done)) (.stop)) (.stop)) (.stop))))))))
    | _ => .stop
def pair_Join.W (p : Int) (t : Int) (xsA : Option Addr) (xsn xsc : Nat) (lA : Option Addr) (ln lc : Nat) (H : Heap) (R : Value → Heap → Prop) : Prop :=
  CallH P N.pair_ground [.int .u64 p, .int .i64 t] H fun v H_ =>
  ∃ r : Int, v = .int .i64 r ∧ cond (r != 0) (R (.tuple #[.slice none 0 0, .int .i64 r]) H_)
   (CallH P N.pair_rows [.int .u64 p, .slice xsA xsn xsc, .slice lA ln lc] H_ fun v2 H_2 =>
  ∃ r2 : Int, v2 = .int .i64 r2 ∧ cond (r2 != 0) (R (.tuple #[.slice none 0 0, .int .i64 r2]) H_2)
   (cond (decide (((xsn : Nat) : Int) < (IntKind.i64.wrap (t + 1)))) (R (.tuple #[.slice none 0 0, .int .i64 11]) H_2)
   (CallH P N.pair_Glue [.int .u64 p, .int .i64 t, .slice xsA xsn xsc, .slice lA ln lc] H_2 fun v3 H_3 =>
  ∃ (rA : Option Addr) (rn rc : Nat), v3 = .slice rA rn rc ∧ CallH P N.pair_Check [.int .u64 p, .int .i64 t, .slice rA rn rc] H_3 fun v4 H_4 =>
  ∃ r3 : Int, v4 = .int .i64 r3 ∧ cond (r3 != 0) (R (.tuple #[.slice none 0 0, .int .i64 12]) H_4)
   (LoopI (σ := Int) (fun κ => κ 0 H_4) fun s z H_5 next =>
  cond (decide (s < ((xsn : Nat) : Int))) (∃ a : Addr, xsA = some a ∧ 0 ≤ s ∧ s < ((xsn : Nat) : Int) ∧ ∃ x : Int, cellH H_5 (a.add (Int.toNat s)) = some (.int .u64 x) ∧ ∃ a2 : Addr, lA = some a2 ∧ 0 ≤ s ∧ s < ((ln : Nat) : Int) ∧ ∃ (xA : Option Addr) (xn xc : Nat), cellH H_5 (a2.add (Int.toNat s)) = some (.slice xA xn xc) ∧ CallH P N.pair_RowOf [.int .u64 p, .slice rA rn rc, .int .u64 x] H_5 fun v5 H_6 =>
  ∃ (rA2 : Option Addr) (rn2 rc2 : Nat), v5 = .slice rA2 rn2 rc2 ∧ cellH H_6 (a2.add (Int.toNat s)) = some (.slice xA xn xc) ∧ CallH P N.poly_Short [.slice xA xn xc] H_6 fun v6 H_7 =>
  ∃ (rA3 : Option Addr) (rn3 rc3 : Nat), v6 = .slice rA3 rn3 rc3 ∧ CallH P N.slices_Equal_uint64uint64 [.slice rA2 rn2 rc2, .slice rA3 rn3 rc3] H_7 fun v7 H_8 =>
  ∃ r4 : Bool, v7 = .bool r4 ∧ cond (!r4) (R (.tuple #[.slice none 0 0, .int .i64 12]) H_8)
   (next (IntKind.i64.wrap (s + 1)) H_8))
   (R (.tuple #[.slice rA rn rc, .int .i64 0]) H_5)))))
theorem pair_Join.ok (p : Int) (t : Int) (xsA : Option Addr) (xsn xsc : Nat) (lA : Option Addr) (ln lc : Nat) (H : Heap) (R : Value → Heap → Prop) (h : pair_Join.W p t xsA xsn xsc lA ln lc H R) : CallH P N.pair_Join ([.int .u64 p, .int .i64 t, .slice xsA xsn xsc, .slice lA ln lc] : List Value) H R := by
  have e : pair_Join.W p t xsA xsn xsc lA ln lc H R = sxFn P T Sh.R nf pair_Join.A Try.f70.results.toList (bodyOf Try.f70) (([(.int .u64 p : Value), (.int .i64 t : Value), (.slice xsA xsn xsc : Value), (.slice lA ln lc : Value)] : List Value) ++ List.replicate (63 - ([(.int .u64 p : Value), (.int .i64 t : Value), (.slice xsA xsn xsc : Value), (.slice lA ln lc : Value)] : List Value).length) undef) H R := by kernel_rfl
  exact call_of_sx fits bodies mixed Try.func70 (c := bodyOf Try.f70) (by kernel_rfl) Try.ntmps70 pair_Join.A (by kernel_rfl) (e.mp h)
def pair_Quarrels.A : Ann where
  loops := fun i => match i with
    | 32784 => [(9, .slice), (24, .int .i64)]
    | 45071 => [(9, .slice), (28, .int .i64)]
    | _ => []
  plans := fun i => match i with
    | 13 => .first 0 (.first 1 (.first 2 (.first 3 (.first 5 (.first 6 (.first 7 (.first 10 (.first 11 (.first 12 (.first 13 (.first 15 (.first 16 (.first 17 (.read 4 (.read 8 (.read 14 (.read 18 (.alt 9 [4, 8] (.alt 19 [14, 18] (.first 20 (.done)) (.stop)) (.stop)))))))))))))))))))
    | _ => .stop
def pair_Quarrels.W (p : Int) (xsA : Option Addr) (xsn xsc : Nat) (lA : Option Addr) (ln lc : Nat) (H : Heap) (R : Value → Heap → Prop) : Prop :=
  CallH P N.field_Is [.int .u64 p] H fun v H_ =>
  ∃ r : Bool, v = .bool r ∧ cond (!r) (R (.tuple #[.slice none 0 0, .int .i64 2]) H_)
   (CallH P N.pair_rows [.int .u64 p, .slice xsA xsn xsc, .slice lA ln lc] H_ fun v2 H_2 =>
  ∃ r2 : Int, v2 = .int .i64 r2 ∧ cond (r2 != 0) (R (.tuple #[.slice none 0 0, .int .i64 r2]) H_2)
   (LoopI (σ := (Option Addr × Nat × Nat) × Int) (fun κ => κ ((none, 0, 0), 0) H_2) fun s z H_3 next =>
  cond (decide (s.2 < ((xsn : Nat) : Int))) (LoopI (σ := (Option Addr × Nat × Nat) × Int) (fun κ => κ ((s.1.1, s.1.2.1, s.1.2.2), 0) H_3) fun s2 z2 H_4 next2 =>
  cond (decide (s2.2 < s.2)) (∃ a : Addr, lA = some a ∧ 0 ≤ s2.2 ∧ s2.2 < ((ln : Nat) : Int) ∧ ∃ a2 : Addr, xsA = some a2 ∧ 0 ≤ s.2 ∧ s.2 < ((xsn : Nat) : Int) ∧ ∃ a3 : Addr, lA = some a3 ∧ 0 ≤ s.2 ∧ s.2 < ((ln : Nat) : Int) ∧ ∃ a4 : Addr, xsA = some a4 ∧ 0 ≤ s2.2 ∧ s2.2 < ((xsn : Nat) : Int) ∧ ∃ (xA : Option Addr) (xn xc : Nat), cellH H_4 (a.add (Int.toNat s2.2)) = some (.slice xA xn xc) ∧ ∃ x : Int, cellH H_4 (a2.add (Int.toNat s.2)) = some (.int .u64 x) ∧ ∃ (xA2 : Option Addr) (xn2 xc2 : Nat), cellH H_4 (a3.add (Int.toNat s.2)) = some (.slice xA2 xn2 xc2) ∧ ∃ x2 : Int, cellH H_4 (a4.add (Int.toNat s2.2)) = some (.int .u64 x2) ∧ CallH P N.poly_At [.int .u64 p, .slice xA xn xc, .int .u64 x] H_4 fun v3 H_5 =>
  ∃ r3 : Int, v3 = .int .u64 r3 ∧ cellH H_5 (a4.add (Int.toNat s2.2)) = some (.int .u64 x2) ∧ cellH H_5 (a3.add (Int.toNat s.2)) = some (.slice xA2 xn2 xc2) ∧ CallH P N.poly_At [.int .u64 p, .slice xA2 xn2 xc2, .int .u64 x2] H_5 fun v4 H_6 =>
  ∃ r4 : Int, v4 = .int .u64 r4 ∧ cond (r3 != r4) (NewH (H_6.push (.cells #[.int .i64 s2.2, .int .i64 s.2] 81 (0, 0))) fun H_7 =>
  AppendV 81 2 16 [.int .i64 0, .int .i64 0] H_7 s2.1.1 s2.1.2.1 s2.1.2.2 (some (Addr.mk H_6.size 0 none)) 1 fun vA vn vc H_8 =>
  next2 ((vA, vn, vc), IntKind.i64.wrap (s2.2 + 1)) H_8)
   (next2 ((s2.1.1, s2.1.2.1, s2.1.2.2), IntKind.i64.wrap (s2.2 + 1)) H_6))
   (next ((s2.1.1, s2.1.2.1, s2.1.2.2), IntKind.i64.wrap (s.2 + 1)) H_4))
   (CallH P N.slices_SortFunc_2int2int [.slice s.1.1 s.1.2.1 s.1.2.2, .func (.func 107) #[] #[]] H_3 fun v6 H_9 =>
  v6 = .tuple #[] ∧ R (.tuple #[.slice s.1.1 s.1.2.1 s.1.2.2, .int .i64 0]) H_9)))
theorem pair_Quarrels.ok (p : Int) (xsA : Option Addr) (xsn xsc : Nat) (lA : Option Addr) (ln lc : Nat) (H : Heap) (R : Value → Heap → Prop) (h : pair_Quarrels.W p xsA xsn xsc lA ln lc H R) : CallH P N.pair_Quarrels ([.int .u64 p, .slice xsA xsn xsc, .slice lA ln lc] : List Value) H R := by
  have e : pair_Quarrels.W p xsA xsn xsc lA ln lc H R = sxFn P T Sh.R nf pair_Quarrels.A Try.f73.results.toList (bodyOf Try.f73) (([(.int .u64 p : Value), (.slice xsA xsn xsc : Value), (.slice lA ln lc : Value)] : List Value) ++ List.replicate (63 - ([(.int .u64 p : Value), (.slice xsA xsn xsc : Value), (.slice lA ln lc : Value)] : List Value).length) undef) H R := by kernel_rfl
  exact call_of_sx fits bodies mixed Try.func73 (c := bodyOf Try.f73) (by kernel_rfl) Try.ntmps73 pair_Quarrels.A (by kernel_rfl) (e.mp h)
def pair_ground.A : Ann where
  loops := fun i => match i with
    | _ => []
  plans := fun i => match i with
    | _ => .stop
def pair_ground.W (p : Int) (t : Int) (H : Heap) (R : Value → Heap → Prop) : Prop :=
  CallH P N.field_Is [.int .u64 p] H fun v H_ =>
  ∃ r : Bool, v = .bool r ∧ cond (!r) (R (.int .i64 2) H_) (cond (decide (t < 0)) (R (.int .i64 2) H_) (cond (decide (t > 3)) (R (.int .i64 2) H_)
   (R (.int .i64 0) H_)))
theorem pair_ground.ok (p : Int) (t : Int) (H : Heap) (R : Value → Heap → Prop) (h : pair_ground.W p t H R) : CallH P N.pair_ground ([.int .u64 p, .int .i64 t] : List Value) H R := by
  have e : pair_ground.W p t H R = sxFn P T Sh.R nf pair_ground.A Try.f76.results.toList (bodyOf Try.f76) (([(.int .u64 p : Value), (.int .i64 t : Value)] : List Value) ++ List.replicate (16 - ([(.int .u64 p : Value), (.int .i64 t : Value)] : List Value).length) undef) H R := by kernel_rfl
  exact call_of_sx fits bodies mixed Try.func76 (c := bodyOf Try.f76) (by kernel_rfl) Try.ntmps76 pair_ground.A (by kernel_rfl) (e.mp h)
def pair_Check_1.A : Ann where
  loops := fun i => match i with
    | _ => []
  plans := fun i => match i with
    | _ => .stop
def pair_Check_1.W (rA : Option Addr) (rn rc : Nat) (c0 : Addr) (H : Heap) (R : Value → Heap → Prop) : Prop :=
  ∃ x : Int, cellH H c0 = some (.int .i64 x) ∧ R (.bool (((rn : Nat) : Int) != (IntKind.i64.wrap (x + 1)))) H
theorem pair_Check_1.ok (rA : Option Addr) (rn rc : Nat) (c0 : Addr) (H : Heap) (R : Value → Heap → Prop) (h : pair_Check_1.W rA rn rc c0 H R) : CallH P N.pair_Check_1 ([.slice rA rn rc, .pointer (some c0)] : List Value) H R := by
  have e : pair_Check_1.W rA rn rc c0 H R = sxFn P T Sh.R nf pair_Check_1.A Try.f78.results.toList (bodyOf Try.f78) (([(.slice rA rn rc : Value), (.pointer (some c0) : Value)] : List Value) ++ List.replicate (9 - ([(.slice rA rn rc : Value), (.pointer (some c0) : Value)] : List Value).length) undef) H R := by kernel_rfl
  exact call_of_sx fits bodies mixed Try.func78 (c := bodyOf Try.f78) (by kernel_rfl) Try.ntmps78 pair_Check_1.A (by kernel_rfl) (e.mp h)
def pair_Of.A : Ann where
  loops := fun i => match i with
    | 12294 => [(16, .int .i64)]
    | 36880 => [(2, .slice), (32, .int .i64)]
    | 49165 => [(2, .slice), (10, .int .i64)]
    | _ => []
  plans := fun i => match i with
    | 14 => .first 0 (.first 1 (.first 2 (.first 4 (.first 5 (.first 6 (.first 7 (.first 9 (.first 10 (.first 11 (.first 13 (.first 14 (.read 3 (.read 8 (.read 12 (.read 15 (.first 16 (.alt 17 [3, 8, 12, 15] (.first 18 (.alt 19 [] (.done) (.stop))) (.stop))))))))))))))))))
    | _ => .stop
def pair_Of.W (secret : Int) (t : Int) (lA : Option Addr) (ln lc : Nat) (H : Heap) (R : Value → Heap → Prop) : Prop :=
  0 ≤ (IntKind.i64.wrap (t + 1)) ∧ (IntKind.i64.wrap (t + 1)) ≤ (IntKind.i64.wrap (t + 1)) ∧ (IntKind.i64.wrap (t + 1)) * 24 ≤ 2 ^ 48 ∧ (IntKind.i64.wrap (t + 1)) < 2 ^ 62 ∧ NewH (H.push (.cells (repl (Int.toNat (IntKind.i64.wrap (t + 1))) [.slice none 0 0]).toArray 30 (0, 0))) fun H_ =>
  LoopI (σ := Int) (fun κ => κ 0 H_) fun s z H_2 next =>
  cond (decide (s < ((Int.toNat (IntKind.i64.wrap (t + 1)) : Nat) : Int))) (0 ≤ (IntKind.i64.wrap (t + 1)) ∧ (IntKind.i64.wrap (t + 1)) ≤ (IntKind.i64.wrap (t + 1)) ∧ (IntKind.i64.wrap (t + 1)) * 8 ≤ 2 ^ 48 ∧ (IntKind.i64.wrap (t + 1)) < 2 ^ 62 ∧ NewH (H_2.push (.cells (repl (Int.toNat (IntKind.i64.wrap (t + 1))) [.int .u64 0]).toArray 22 (0, 0))) fun H_3 =>
  ∃ a : Addr, (some (Addr.mk H.size 0 none) : Option Addr) = some a ∧ 0 ≤ s ∧ s < ((Int.toNat (IntKind.i64.wrap (t + 1)) : Nat) : Int) ∧ MayWrite H_3 (a.add (Int.toNat s)) 1 ∧ NewH (setH H_3 (a.add (Int.toNat s)) (.slice (some (Addr.mk H_2.size 0 none)) (Int.toNat (IntKind.i64.wrap (t + 1))) (Int.toNat (IntKind.i64.wrap (t + 1))))) fun H_4 =>
  next (IntKind.i64.wrap (s + 1)) H_4)
   (NewH (H_2.push (.cells #[.int .u64 secret] 22 (0, 0))) fun H_5 =>
  AppendV 22 1 8 [.int .u64 0] H_5 (some (Addr.mk H_2.size 0 none)) 1 1 lA ln fun vA vn vc H_6 =>
  LoopI (σ := (Option Addr × Nat × Nat) × Int) (fun κ => κ ((vA, vn, vc), 0) H_6) fun s2 z2 H_7 next2 =>
  cond (decide (s2.2 < ((Int.toNat (IntKind.i64.wrap (t + 1)) : Nat) : Int))) (LoopI (σ := (Option Addr × Nat × Nat) × Int) (fun κ => κ ((s2.1.1, s2.1.2.1, s2.1.2.2), s2.2) H_7) fun s3 z3 H_8 next3 =>
  cond (decide (s3.2 ≤ t)) (∃ a2 : Addr, (some (Addr.mk H.size 0 none) : Option Addr) = some a2 ∧ 0 ≤ s2.2 ∧ s2.2 < ((Int.toNat (IntKind.i64.wrap (t + 1)) : Nat) : Int) ∧ ∃ a3 : Addr, (some (Addr.mk H.size 0 none) : Option Addr) = some a3 ∧ 0 ≤ s3.2 ∧ s3.2 < ((Int.toNat (IntKind.i64.wrap (t + 1)) : Nat) : Int) ∧ ∃ a4 : Addr, s3.1.1 = some a4 ∧ 0 ≤ (0 : Int) ∧ (0 : Int) < ((s3.1.2.1 : Nat) : Int) ∧ ∃ a5 : Addr, s3.1.1 = some a5 ∧ 0 ≤ (0 : Int) ∧ (0 : Int) < ((s3.1.2.1 : Nat) : Int) ∧ ∃ (xA : Option Addr) (xn xc : Nat), cellH H_8 (a2.add (Int.toNat s2.2)) = some (.slice xA xn xc) ∧ ∃ (xA2 : Option Addr) (xn2 xc2 : Nat), cellH H_8 (a3.add (Int.toNat s3.2)) = some (.slice xA2 xn2 xc2) ∧ ∃ x : Int, cellH H_8 (a4.add 0) = some (.int .u64 x) ∧ ∃ x2 : Int, cellH H_8 (a5.add 0) = some (.int .u64 x2) ∧ ∃ a6 : Addr, xA = some a6 ∧ 0 ≤ s3.2 ∧ s3.2 < ((xn : Nat) : Int) ∧ MayWrite H_8 (a6.add (Int.toNat s3.2)) 1 ∧ NewH (setH H_8 (a6.add (Int.toNat s3.2)) (.int .u64 x)) fun H_9 =>
  ∃ a7 : Addr, xA2 = some a7 ∧ 0 ≤ s2.2 ∧ s2.2 < ((xn2 : Nat) : Int) ∧ MayWrite H_9 (a7.add (Int.toNat s2.2)) 1 ∧ NewH (setH H_9 (a7.add (Int.toNat s2.2)) (.int .u64 x2)) fun H_10 =>
  0 ≤ (1 : Int) ∧ (1 : Int) ≤ ((s3.1.2.1 : Nat) : Int) ∧ next3 (((SubA s3.1.1 s3.1.2.2 1 1 : Option Addr), s3.1.2.1 - 1, s3.1.2.2 - 1), IntKind.i64.wrap (s3.2 + 1)) H_10)
   (next2 ((s3.1.1, s3.1.2.1, s3.1.2.2), IntKind.i64.wrap (s2.2 + 1)) H_8))
   (R (.slice (some (Addr.mk H.size 0 none)) (Int.toNat (IntKind.i64.wrap (t + 1))) (Int.toNat (IntKind.i64.wrap (t + 1)))) H_7))
theorem pair_Of.ok (secret : Int) (t : Int) (lA : Option Addr) (ln lc : Nat) (H : Heap) (R : Value → Heap → Prop) (h : pair_Of.W secret t lA ln lc H R) : CallH P N.pair_Of ([.int .u64 secret, .int .i64 t, .slice lA ln lc] : List Value) H R := by
  have e : pair_Of.W secret t lA ln lc H R = sxFn P T Sh.R nf pair_Of.A Try.f82.results.toList (bodyOf Try.f82) (([(.int .u64 secret : Value), (.int .i64 t : Value), (.slice lA ln lc : Value)] : List Value) ++ List.replicate (63 - ([(.int .u64 secret : Value), (.int .i64 t : Value), (.slice lA ln lc : Value)] : List Value).length) undef) H R := by kernel_rfl
  exact call_of_sx fits bodies mixed Try.func82 (c := bodyOf Try.f82) (by kernel_rfl) Try.ntmps82 pair_Of.A (by kernel_rfl) (e.mp h)
def pair_RowOf.A : Ann where
  loops := fun i => match i with
    | 12294 => [(14, .int .i64)]
    | _ => []
  plans := fun i => match i with
    | _ => .stop
def pair_RowOf.W (p : Int) (fA : Option Addr) (fn fc : Nat) (x : Int) (H : Heap) (R : Value → Heap → Prop) : Prop :=
  0 ≤ ((fn : Nat) : Int) ∧ ((fn : Nat) : Int) ≤ ((fn : Nat) : Int) ∧ ((fn : Nat) : Int) * 8 ≤ 2 ^ 48 ∧ ((fn : Nat) : Int) < 2 ^ 62 ∧ NewH (H.push (.cells (repl (Int.toNat ((fn : Nat) : Int)) [.int .u64 0]).toArray 22 (0, 0))) fun H_ =>
  LoopI (σ := Int) (fun κ => κ 0 H_) fun s z H_2 next =>
  cond (decide (s < ((fn : Nat) : Int))) (∃ a : Addr, fA = some a ∧ 0 ≤ s ∧ s < ((fn : Nat) : Int) ∧ ∃ (xA : Option Addr) (xn xc : Nat), cellH H_2 (a.add (Int.toNat s)) = some (.slice xA xn xc) ∧ CallH P N.poly_At [.int .u64 p, .slice xA xn xc, .int .u64 x] H_2 fun v H_3 =>
  ∃ r : Int, v = .int .u64 r ∧ ∃ a2 : Addr, (some (Addr.mk H.size 0 none) : Option Addr) = some a2 ∧ 0 ≤ s ∧ s < ((Int.toNat ((fn : Nat) : Int) : Nat) : Int) ∧ MayWrite H_3 (a2.add (Int.toNat s)) 1 ∧ NewH (setH H_3 (a2.add (Int.toNat s)) (.int .u64 r)) fun H_4 =>
  next (IntKind.i64.wrap (s + 1)) H_4)
   (CallH P N.poly_Short [.slice (some (Addr.mk H.size 0 none)) (Int.toNat ((fn : Nat) : Int)) (Int.toNat ((fn : Nat) : Int))] H_2 fun v2 H_5 =>
  ∃ (rA : Option Addr) (rn rc : Nat), v2 = .slice rA rn rc ∧ R (.slice rA rn rc) H_5)
theorem pair_RowOf.ok (p : Int) (fA : Option Addr) (fn fc : Nat) (x : Int) (H : Heap) (R : Value → Heap → Prop) (h : pair_RowOf.W p fA fn fc x H R) : CallH P N.pair_RowOf ([.int .u64 p, .slice fA fn fc, .int .u64 x] : List Value) H R := by
  have e : pair_RowOf.W p fA fn fc x H R = sxFn P T Sh.R nf pair_RowOf.A Try.f85.results.toList (bodyOf Try.f85) (([(.int .u64 p : Value), (.slice fA fn fc : Value), (.int .u64 x : Value)] : List Value) ++ List.replicate (30 - ([(.int .u64 p : Value), (.slice fA fn fc : Value), (.int .u64 x : Value)] : List Value).length) undef) H R := by kernel_rfl
  exact call_of_sx fits bodies mixed Try.func85 (c := bodyOf Try.f85) (by kernel_rfl) Try.ntmps85 pair_RowOf.A (by kernel_rfl) (e.mp h)
def pair_rows.A : Ann where
  loops := fun i => match i with
    | 24586 => [(27, .int .i64)]
    | _ => []
  plans := fun i => match i with
    | _ => .stop
def pair_rows.W (p : Int) (xsA : Option Addr) (xsn xsc : Nat) (lA : Option Addr) (ln lc : Nat) (H : Heap) (R : Value → Heap → Prop) : Prop :=
  cond (decide (((xsn : Nat) : Int) > 13)) (R (.int .i64 3) H)
   (cond (((ln : Nat) : Int) != ((xsn : Nat) : Int)) (R (.int .i64 2) H) (CallH P N.field_Below [.int .u64 p, .slice xsA xsn xsc] H fun v H_ =>
  ∃ r : Int, v = .int .i64 r ∧ cond (r != 0) (R (.int .i64 2) H_)
   (LoopI (σ := Int) (fun κ => κ 0 H_) fun s z H_2 next =>
  cond (decide (s < ((xsn : Nat) : Int))) (∃ a : Addr, xsA = some a ∧ 0 ≤ s ∧ s < ((xsn : Nat) : Int) ∧ ∃ x : Int, cellH H_2 (a.add (Int.toNat s)) = some (.int .u64 x) ∧ 0 ≤ s ∧ s ≤ ((xsc : Nat) : Int) ∧ CallH P N.slices_Contains_uint64uint64 [.slice xsA (Int.toNat s) xsc, .int .u64 x] H_2 fun v2 H_3 =>
  ∃ r2 : Bool, v2 = .bool r2 ∧ cond r2 (R (.int .i64 6) H_3)
   (next (IntKind.i64.wrap (s + 1)) H_3))
   (CallH P N.poly_Is [.int .u64 p, .slice lA ln lc] H_2 fun v3 H_4 =>
  ∃ r3 : Int, v3 = .int .i64 r3 ∧ R (.int .i64 r3) H_4))))
theorem pair_rows.ok (p : Int) (xsA : Option Addr) (xsn xsc : Nat) (lA : Option Addr) (ln lc : Nat) (H : Heap) (R : Value → Heap → Prop) (h : pair_rows.W p xsA xsn xsc lA ln lc H R) : CallH P N.pair_rows ([.int .u64 p, .slice xsA xsn xsc, .slice lA ln lc] : List Value) H R := by
  have e : pair_rows.W p xsA xsn xsc lA ln lc H R = sxFn P T Sh.R nf pair_rows.A Try.f100.results.toList (bodyOf Try.f100) (([(.int .u64 p : Value), (.slice xsA xsn xsc : Value), (.slice lA ln lc : Value)] : List Value) ++ List.replicate (41 - ([(.int .u64 p : Value), (.slice xsA xsn xsc : Value), (.slice lA ln lc : Value)] : List Value).length) undef) H R := by kernel_rfl
  exact call_of_sx fits bodies mixed Try.func100 (c := bodyOf Try.f100) (by kernel_rfl) Try.ntmps100 pair_rows.A (by kernel_rfl) (e.mp h)
def pair_Glue.A : Ann where
  loops := fun i => match i with
    | 12294 => [(23, .int .i64)]
    | 32792 => [(35, .int .i64)]
    | 49170 => [(12, .slice), (43, .int .i64)]
    | 81943 => [(73, .int .i64)]
    | _ => []
  plans := fun i => match i with
    | _ => .stop
def pair_Glue.W (p : Int) (t : Int) (xsA : Option Addr) (xsn xsc : Nat) (lA : Option Addr) (ln lc : Nat) (H : Heap) (R : Value → Heap → Prop) : Prop :=
  0 ≤ (IntKind.i64.wrap (t + 1)) ∧ (IntKind.i64.wrap (t + 1)) ≤ (IntKind.i64.wrap (t + 1)) ∧ (IntKind.i64.wrap (t + 1)) * 24 ≤ 2 ^ 48 ∧ (IntKind.i64.wrap (t + 1)) < 2 ^ 62 ∧ NewH (H.push (.cells (repl (Int.toNat (IntKind.i64.wrap (t + 1))) [.slice none 0 0]).toArray 30 (0, 0))) fun H_ =>
  LoopI (σ := Int) (fun κ => κ 0 H_) fun s z H_2 next =>
  cond (decide (s < ((Int.toNat (IntKind.i64.wrap (t + 1)) : Nat) : Int))) (0 ≤ (IntKind.i64.wrap (t + 1)) ∧ (IntKind.i64.wrap (t + 1)) ≤ (IntKind.i64.wrap (t + 1)) ∧ (IntKind.i64.wrap (t + 1)) * 8 ≤ 2 ^ 48 ∧ (IntKind.i64.wrap (t + 1)) < 2 ^ 62 ∧ NewH (H_2.push (.cells (repl (Int.toNat (IntKind.i64.wrap (t + 1))) [.int .u64 0]).toArray 22 (0, 0))) fun H_3 =>
  ∃ a : Addr, (some (Addr.mk H.size 0 none) : Option Addr) = some a ∧ 0 ≤ s ∧ s < ((Int.toNat (IntKind.i64.wrap (t + 1)) : Nat) : Int) ∧ MayWrite H_3 (a.add (Int.toNat s)) 1 ∧ NewH (setH H_3 (a.add (Int.toNat s)) (.slice (some (Addr.mk H_2.size 0 none)) (Int.toNat (IntKind.i64.wrap (t + 1))) (Int.toNat (IntKind.i64.wrap (t + 1))))) fun H_4 =>
  next (IntKind.i64.wrap (s + 1)) H_4)
   (LoopI (σ := Int) (fun κ => κ 0 H_2) fun s2 z2 H_5 next2 =>
  cond (decide (s2 < (IntKind.i64.wrap (t + 1)))) (0 ≤ (IntKind.i64.wrap (t + 1)) ∧ (IntKind.i64.wrap (t + 1)) ≤ ((xsc : Nat) : Int) ∧ LoopI (σ := (Option Addr × Nat × Nat) × Int) (fun κ => κ ((none, 0, 0), 0) H_5) fun s3 z3 H_6 next3 =>
  cond (decide (s3.2 < ((Int.toNat (IntKind.i64.wrap (t + 1)) : Nat) : Int))) (∃ a2 : Addr, xsA = some a2 ∧ 0 ≤ s3.2 ∧ s3.2 < ((Int.toNat (IntKind.i64.wrap (t + 1)) : Nat) : Int) ∧ ∃ x : Int, cellH H_6 (a2.add (Int.toNat s3.2)) = some (.int .u64 x) ∧ ∃ a3 : Addr, lA = some a3 ∧ 0 ≤ s3.2 ∧ s3.2 < ((ln : Nat) : Int) ∧ ∃ (xA : Option Addr) (xn xc : Nat), cellH H_6 (a3.add (Int.toNat s3.2)) = some (.slice xA xn xc) ∧ cond (decide (s2 < ((xn : Nat) : Int))) (∃ a4 : Addr, lA = some a4 ∧ 0 ≤ s3.2 ∧ s3.2 < ((ln : Nat) : Int) ∧ ∃ (xA2 : Option Addr) (xn2 xc2 : Nat), cellH H_6 (a4.add (Int.toNat s3.2)) = some (.slice xA2 xn2 xc2) ∧ ∃ a5 : Addr, xA2 = some a5 ∧ 0 ≤ s2 ∧ s2 < ((xn2 : Nat) : Int) ∧ ∃ x2 : Int, cellH H_6 (a5.add (Int.toNat s2)) = some (.int .u64 x2) ∧ NewH (H_6.push (.cells #[.int .u64 x, .int .u64 x2] 103 (0, 0))) fun H_7 =>
  AppendV 103 2 16 [.int .u64 0, .int .u64 0] H_7 s3.1.1 s3.1.2.1 s3.1.2.2 (some (Addr.mk H_6.size 0 none)) 1 fun vA vn vc H_8 =>
  next3 ((vA, vn, vc), IntKind.i64.wrap (s3.2 + 1)) H_8)
   (NewH (H_6.push (.cells #[.int .u64 x, .int .u64 0] 103 (0, 0))) fun H_9 =>
  AppendV 103 2 16 [.int .u64 0, .int .u64 0] H_9 s3.1.1 s3.1.2.1 s3.1.2.2 (some (Addr.mk H_6.size 0 none)) 1 fun vA2 vn2 vc2 H_10 =>
  next3 ((vA2, vn2, vc2), IntKind.i64.wrap (s3.2 + 1)) H_10))
   (CallH P N.poly_Fit [.int .u64 p, .slice s3.1.1 s3.1.2.1 s3.1.2.2] H_6 fun v3 H_11 =>
  ∃ (rA : Option Addr) (rn rc : Nat), v3 = .slice rA rn rc ∧ LoopI (σ := Int) (fun κ => κ 0 H_11) fun s4 z4 H_12 next4 =>
  cond (decide (s4 < ((rn : Nat) : Int))) (∃ a6 : Addr, rA = some a6 ∧ 0 ≤ s4 ∧ s4 < ((rn : Nat) : Int) ∧ ∃ x3 : Int, cellH H_12 (a6.add (Int.toNat s4)) = some (.int .u64 x3) ∧ ∃ a7 : Addr, (some (Addr.mk H.size 0 none) : Option Addr) = some a7 ∧ 0 ≤ s4 ∧ s4 < ((Int.toNat (IntKind.i64.wrap (t + 1)) : Nat) : Int) ∧ ∃ (xA3 : Option Addr) (xn3 xc3 : Nat), cellH H_12 (a7.add (Int.toNat s4)) = some (.slice xA3 xn3 xc3) ∧ ∃ a8 : Addr, xA3 = some a8 ∧ 0 ≤ s2 ∧ s2 < ((xn3 : Nat) : Int) ∧ MayWrite H_12 (a8.add (Int.toNat s2)) 1 ∧ NewH (setH H_12 (a8.add (Int.toNat s2)) (.int .u64 x3)) fun H_13 =>
  next4 (IntKind.i64.wrap (s4 + 1)) H_13)
   (next2 (IntKind.i64.wrap (s2 + 1)) H_12)))
   (R (.slice (some (Addr.mk H.size 0 none)) (Int.toNat (IntKind.i64.wrap (t + 1))) (Int.toNat (IntKind.i64.wrap (t + 1)))) H_5))
theorem pair_Glue.ok (p : Int) (t : Int) (xsA : Option Addr) (xsn xsc : Nat) (lA : Option Addr) (ln lc : Nat) (H : Heap) (R : Value → Heap → Prop) (h : pair_Glue.W p t xsA xsn xsc lA ln lc H R) : CallH P N.pair_Glue ([.int .u64 p, .int .i64 t, .slice xsA xsn xsc, .slice lA ln lc] : List Value) H R := by
  have e : pair_Glue.W p t xsA xsn xsc lA ln lc H R = sxFn P T Sh.R nf pair_Glue.A Try.f101.results.toList (bodyOf Try.f101) (([(.int .u64 p : Value), (.int .i64 t : Value), (.slice xsA xsn xsc : Value), (.slice lA ln lc : Value)] : List Value) ++ List.replicate (88 - ([(.int .u64 p : Value), (.int .i64 t : Value), (.slice xsA xsn xsc : Value), (.slice lA ln lc : Value)] : List Value).length) undef) H R := by kernel_rfl
  exact call_of_sx fits bodies mixed Try.func101 (c := bodyOf Try.f101) (by kernel_rfl) Try.ntmps101 pair_Glue.A (by kernel_rfl) (e.mp h)
end Go.Proofs.Ytlhcaangdenoaaa.Sh
namespace Go.Proofs.Ytlhcaangdenoaaa.Sh
open Go.Sx Go.Lf
def pair_ground.C (p : Nat) (t : Int) (K : Int → Prop) : Prop :=
  ∀ (Z : Nat → Prop) (H : Heap), ∀ (pv : Int), pv = (p : Int) → ∀ KK : Value → Heap → Prop,
    (∀ (Z' : Nat → Prop) (H' : Heap), Ext H H' → Old Z H Z' → ∀ (r0 : Int), K r0 → KK (.int .i64 r0) H') →
    CallH P N.pair_ground [.int .u64 pv, .int .i64 t] H KK
def pair_ground.Q (p : Nat) (t : Int) (K : Int → Prop) : Prop :=
  field_Is.C p (fun (x : Bool) =>
  cond (!x) (K 2)
   (cond (decide (t < 0)) (K 2)
   (cond (decide (t > 3)) (K 2)
   (K 0))))
theorem pair_ground.q {p : Nat} {t : Int} {K : Int → Prop} (q : pair_ground.Q p t K) : pair_ground.C p t K := by
  intro Z H pv he KK hk
  cases he
  apply pair_ground.ok
  unfold pair_ground.W
  unfold pair_ground.Q at q
  obtain ⟨σ, hz, hσ⟩ := tags Z
  have hs : Stp ([] : List Nat) σ H σ H := Stp.refl _ _ _
  clear hz
  refine q (Zt σ) H _ rfl _ (fun Z2 H_ hE hO x q => ?_)
  obtain ⟨xσ, st⟩ := call0 hE σ
  replace hs := hs.trans st
  refine ⟨_, rfl, ?_⟩
  refine condI (fun q => ?_) (fun q => ?_) q
  · exact hk (Zt xσ) _ (hs.ext hσ) (hs.old hσ) _ q
  · refine condI (fun q => ?_) (fun q => ?_) q
    · exact hk (Zt xσ) _ (hs.ext hσ) (hs.old hσ) _ q
    · refine condI (fun q => ?_) (fun q => ?_) q
      · exact hk (Zt xσ) _ (hs.ext hσ) (hs.old hσ) _ q
      · exact hk (Zt xσ) _ (hs.ext hσ) (hs.old hσ) _ q
def pair_Check_1.C (r : (List Nat)) (c0 : Int) (K : Bool → Prop) : Prop :=
  ∀ (Z : Nat → Prop) (H : Heap), ∀ (rA : Option Addr) (rn rc : Nat), rn = r.length → SlF u64L Z H rA rc r → ∀ (c0P : Addr), PtF i64L Z H c0P c0 → ∀ KK : Value → Heap → Prop,
    (∀ (Z' : Nat → Prop) (H' : Heap), Ext H H' → Old Z H Z' → ∀ (r0 : Bool), K r0 → KK (.bool r0) H') →
    CallH P N.pair_Check_1 [.slice rA rn rc, .pointer (some c0P)] H KK
def pair_Check_1.Q (r : (List Nat)) (c0 : Int) (K : Bool → Prop) : Prop :=
  K (((r.length : Nat) : Int) != (IntKind.i64.wrap (c0 + 1)))
theorem pair_Check_1.q {r : (List Nat)} {c0 : Int} {K : Bool → Prop} (q : pair_Check_1.Q r c0 K) : pair_Check_1.C r c0 K := by
  intro Z H rA rn rc hn f c0P f2 KK hk
  cases hn
  apply pair_Check_1.ok
  unfold pair_Check_1.W
  unfold pair_Check_1.Q at q
  obtain ⟨σ, hz, hσ⟩ := tags Z
  have hs : Stp ([] : List Nat) σ H σ H := Stp.refl _ _ _
  replace f := f.wide hz
  replace f2 := f2.wide hz
  clear hz
  obtain ⟨v, hc, hr⟩ := PtF.ld1 f2 rfl
  cases hr
  refine ⟨_, hc.val, ?_⟩
  exact hk (Zt σ) _ (hs.ext hσ) (hs.old hσ) _ q
def pair_Check.C (p : Nat) (t : Int) (f : (List (List Nat))) (K : Int → Prop) : Prop :=
  ∀ (Z : Nat → Prop) (H : Heap), ∀ (pv : Int), pv = (p : Int) → ∀ (fA : Option Addr) (fn fc : Nat), fn = f.length → SlF (slL u64L) Z H fA fc f → ∀ KK : Value → Heap → Prop,
    (∀ (Z' : Nat → Prop) (H' : Heap), Ext H H' → Old Z H Z' → ∀ (r0 : Int), K r0 → KK (.int .i64 r0) H') →
    CallH P N.pair_Check [.int .u64 pv, .int .i64 t, .slice fA fn fc] H KK
def pair_Check.Q (p : Nat) (t : Int) (f : (List (List Nat))) (K : Int → Prop) : Prop :=
  pair_ground.C p t (fun (x : Int) =>
  cond (x != 0) (K x)
   (cond (((f.length : Nat) : Int) != (IntKind.i64.wrap (t + 1))) (K 4)
   (slices_ContainsFunc_uint64uint64.C f (fun x0_ K_ => pair_Check_1.C x0_ t K_) (fun (x2 : Bool) =>
  cond x2 (K 4)
   (LoopQ (τ := Int) 0 fun t2 nextQ =>
  cond (decide (t2 < ((f.length : Nat) : Int))) (0 ≤ t2 ∧ ∃ x3 : (List Nat), f[Int.toNat t2]? = some x3 ∧ field_Below.C p x3 (fun (x4 : Int) =>
  cond (x4 != 0) (K x4)
   (nextQ (IntKind.i64.wrap (t2 + 1)))))
   (LoopQ (τ := Int) 0 fun t3 nextQ2 =>
  cond (decide (t3 < ((f.length : Nat) : Int))) (0 ≤ t3 ∧ ∃ x5 : (List Nat), f[Int.toNat t3]? = some x5 ∧ LoopQ (τ := Int) 0 fun t4 nextQ3 =>
  cond (decide (t4 < ((x5.length : Nat) : Int))) (0 ≤ t4 ∧ ∃ x6 : Nat, x5[Int.toNat t4]? = some x6 ∧ 0 ≤ t4 ∧ ∃ x7 : (List Nat), f[Int.toNat t4]? = some x7 ∧ 0 ≤ t3 ∧ ∃ x8 : Nat, x7[Int.toNat t3]? = some x8 ∧ cond ((x8 : Int) != (x6 : Int)) (K 4)
   (nextQ3 (IntKind.i64.wrap (t4 + 1))))
   (nextQ2 (IntKind.i64.wrap (t3 + 1))))
   (K 0)))))))
theorem pair_Check.q {p : Nat} {t : Int} {f : (List (List Nat))} {K : Int → Prop} (q : pair_Check.Q p t f K) : pair_Check.C p t f K := by
  intro Z H pv he fA fn fc hn f2 KK hk
  cases he
  cases hn
  apply pair_Check.ok
  unfold pair_Check.W
  unfold pair_Check.Q at q
  obtain ⟨σ, hz, hσ⟩ := tags Z
  have hs : Stp ([] : List Nat) σ H σ H := Stp.refl _ _ _
  replace f2 := f2.wide hz
  clear hz
  refine NewH.mk fun H_ e => ?_
  obtain ⟨xσ, st, b⟩ := BoxF.new σ 0 e
  replace f2 := f2.step st
  replace hs := hs.trans st
  refine ⟨_, b.cell0, ?_⟩
  refine q (Zt xσ) H_ _ rfl _ (fun Z2 H_2 hE hO x q => ?_)
  obtain ⟨xσ2, st2⟩ := call0 hE xσ
  replace f2 := f2.step st2
  replace b := b.step st2
  replace hs := hs.trans st2
  refine ⟨_, rfl, ?_⟩
  refine condI (fun q => ?_) (fun q => ?_) q
  · exact hk (Zt xσ2) _ (hs.ext hσ) (hs.old hσ) _ q
  · refine ⟨_, b.cell0, ?_⟩
    refine condI (fun q => ?_) (fun q => ?_) q
    · exact hk (Zt xσ2) _ (hs.ext hσ) (hs.old hσ) _ q
    · refine q (Zt xσ2) H_2 _ _ _ rfl f2 (78) (#[]) (#[.pointer (some (Addr.mk H.size 0 none))]) ⟨rfl, fun Z_ H_ fr_ x0_ K_ q_ a0_ a1_ a2_ a3_ a4_ KK_ hk_ => q_ Z_ H_ a0_ a1_ a2_ a3_ a4_ _ ((BoxF.pt (E := i64L) b rfl).keep fr_) KK_ hk_⟩ _ (fun Z3 H_3 hE2 hO2 x2 q => ?_)
      obtain ⟨xσ3, st3⟩ := call0 hE2 xσ2
      replace f2 := f2.step st3
      replace b := b.step st3
      replace hs := hs.trans st3
      refine ⟨_, rfl, ?_⟩
      refine condI (fun q => ?_) (fun q => ?_) q
      · exact hk (Zt xσ3) _ (hs.ext hσ) (hs.old hσ) _ q
      · refine LoopI.ofQ q (fun t_ s_ hp_ => ∃ (σ_ : Nat → Nat), Stp [] xσ3 H_3 σ_ hp_ ∧ t_ = s_) (fun h k => h _ _ k) ⟨_, Stp.refl _ _ _, rfl⟩ ?_
        rintro t2 _ _ H_4 next nextQ ⟨xσ4, st4, rfl⟩ q hnext
        try dsimp only at q ⊢
        replace f2 := f2.step st4
        replace b := b.step st4
        replace hs := hs.trans st4
        have sl0 := st4
        refine condI (fun q => ?_) (fun q => ?_) q
        · obtain ⟨h0, x3, hx, q⟩ := q
          obtain ⟨a, ha, hi⟩ := f2.addr h0 hx rfl
          refine ⟨a, ha, hi.1, hi.2, ?_⟩
          obtain ⟨A, c, hc, f3⟩ := f2.lds ha h0 hx
          refine ⟨_, _, _, hc.val, ?_⟩
          refine q (Zt xσ4) H_4 _ rfl _ _ _ rfl f3 _ (fun Z4 H_5 hE3 hO3 x4 q => ?_)
          obtain ⟨xσ5, st5⟩ := call0 hE3 xσ4
          replace f2 := f2.step st5
          replace b := b.step st5
          replace hc := hc.step st5
          replace f3 := f3.step st5
          replace hs := hs.trans st5
          replace sl0 := sl0.trans st5
          refine ⟨_, rfl, ?_⟩
          refine condI (fun q => ?_) (fun q => ?_) q
          · exact hk (Zt xσ5) _ (hs.ext hσ) (hs.old hσ) _ q
          · exact hnext (IntKind.i64.wrap (t2 + 1)) _ _ ⟨_, sl0, rfl⟩ q
        · refine LoopI.ofQ q (fun t_ s_ hp_ => ∃ (σ_ : Nat → Nat), Stp [] xσ4 H_4 σ_ hp_ ∧ t_ = s_) (fun h k => h _ _ k) ⟨_, Stp.refl _ _ _, rfl⟩ ?_
          rintro t3 _ _ H_6 next2 nextQ2 ⟨xσ6, st6, rfl⟩ q hnext2
          try dsimp only at q ⊢
          replace f2 := f2.step st6
          replace b := b.step st6
          replace hs := hs.trans st6
          have sl1 := st6
          refine condI (fun q => ?_) (fun q => ?_) q
          · obtain ⟨h02, x5, hx2, q⟩ := q
            obtain ⟨a2, ha2, hi2⟩ := f2.addr h02 hx2 rfl
            refine ⟨a2, ha2, hi2.1, hi2.2, ?_⟩
            obtain ⟨A2, c2, hc2, f4⟩ := f2.lds ha2 h02 hx2
            refine ⟨_, _, _, hc2.val, ?_⟩
            refine LoopI.ofQ q (fun t_ s_ hp_ => ∃ (σ_ : Nat → Nat), Stp [] xσ6 H_6 σ_ hp_ ∧ t_ = s_) (fun h k => h _ _ k) ⟨_, Stp.refl _ _ _, rfl⟩ ?_
            rintro t4 _ _ H_7 next3 nextQ3 ⟨xσ7, st7, rfl⟩ q hnext3
            try dsimp only at q ⊢
            replace f2 := f2.step st7
            replace b := b.step st7
            replace hc2 := hc2.step st7
            replace f4 := f4.step st7
            replace hs := hs.trans st7
            replace sl1 := sl1.trans st7
            have sl2 := st7
            refine condI (fun q => ?_) (fun q => ?_) q
            · obtain ⟨h03, x6, hx3, q⟩ := q
              obtain ⟨a3, ha3, hi3⟩ := f4.addr h03 hx3 rfl
              refine ⟨a3, ha3, hi3.1, hi3.2, ?_⟩
              have hc3 := f4.ldu ha3 h03 hx3
              refine ⟨_, hc3.val, ?_⟩
              obtain ⟨h04, x7, hx4, q⟩ := q
              obtain ⟨a4, ha4, hi4⟩ := f2.addr h04 hx4 rfl
              refine ⟨a4, ha4, hi4.1, hi4.2, ?_⟩
              obtain ⟨A3, c3, hc4, f5⟩ := f2.lds ha4 h04 hx4
              refine ⟨_, _, _, hc4.val, ?_⟩
              obtain ⟨h05, x8, hx5, q⟩ := q
              obtain ⟨a5, ha5, hi5⟩ := f5.addr h05 hx5 rfl
              refine ⟨a5, ha5, hi5.1, hi5.2, ?_⟩
              have hc5 := f5.ldu ha5 h05 hx5
              refine ⟨_, hc5.val, ?_⟩
              refine condI (fun q => ?_) (fun q => ?_) q
              · exact hk (Zt xσ7) _ (hs.ext hσ) (hs.old hσ) _ q
              · exact hnext3 (IntKind.i64.wrap (t4 + 1)) _ _ ⟨_, sl2, rfl⟩ q
            · exact hnext2 (IntKind.i64.wrap (t3 + 1)) _ _ ⟨_, sl1, rfl⟩ q
          · exact hk (Zt xσ6) _ (hs.ext hσ) (hs.old hσ) _ q
def pair_Size.C (t : Int) (K : Int → Prop) : Prop :=
  ∀ (Z : Nat → Prop) (H : Heap), ∀ KK : Value → Heap → Prop,
    (∀ (Z' : Nat → Prop) (H' : Heap), Ext H H' → Old Z H Z' → ∀ (r0 : Int), K r0 → KK (.int .i64 r0) H') →
    CallH P N.pair_Size [.int .i64 t] H KK
def pair_Size.Q (t : Int) (K : Int → Prop) : Prop :=
  cond (decide (t < 0)) (K 0)
   (cond (decide (t > 3)) (K 0)
   ((2 : Int) ≠ 0 ∧ K (IntKind.i64.wrap ((IntKind.i64.wrap (Int.tdiv (IntKind.i64.wrap ((IntKind.i64.wrap (t + 1)) * (IntKind.i64.wrap (t + 2)))) 2)) - 1))))
theorem pair_Size.q {t : Int} {K : Int → Prop} (q : pair_Size.Q t K) : pair_Size.C t K := by
  intro Z H  KK hk
  apply pair_Size.ok
  unfold pair_Size.W
  unfold pair_Size.Q at q
  obtain ⟨σ, hz, hσ⟩ := tags Z
  have hs : Stp ([] : List Nat) σ H σ H := Stp.refl _ _ _
  clear hz
  refine condI (fun q => ?_) (fun q => ?_) q
  · exact hk (Zt σ) _ (hs.ext hσ) (hs.old hσ) _ q
  · refine condI (fun q => ?_) (fun q => ?_) q
    · exact hk (Zt σ) _ (hs.ext hσ) (hs.old hσ) _ q
    · obtain ⟨q2, q⟩ := q
      refine ⟨q2, ?_⟩
      exact hk (Zt σ) _ (hs.ext hσ) (hs.old hσ) _ q
def pair_Of.C (secret : Nat) (t : Int) (l : (List Nat)) (K : (List (List Nat)) → Prop) : Prop :=
  ∀ (Z : Nat → Prop) (H : Heap), ∀ (secretv : Int), secretv = (secret : Int) → ∀ (lA : Option Addr) (ln lc : Nat), ln = l.length → SlF u64L Z H lA lc l → ∀ KK : Value → Heap → Prop,
    (∀ (Z' : Nat → Prop) (H' : Heap), Ext H H' → Old Z H Z' → ∀ (r0 : (List (List Nat))), ∀ (Y0 : Nat → Prop), (∀ i, Y0 i → H.size ≤ i ∧ ¬ Z' i) → ∀ (Ar0_0 : Option Addr) (nr0_0 cr0_0 : Nat), nr0_0 = r0.length → SlO (slM (rdM u64L) 22) 30 Z' Y0 H' Ar0_0 cr0_0 r0 → K r0 → KK (.slice Ar0_0 nr0_0 cr0_0) H') →
    CallH P N.pair_Of [.int .u64 secretv, .int .i64 t, .slice lA ln lc] H KK
def pair_Of.Q (secret : Nat) (t : Int) (l : (List Nat)) (K : (List (List Nat)) → Prop) : Prop :=
  MakeOk 24 (IntKind.i64.wrap (t + 1)) ∧ LoopQ (τ := Int × List (List Nat)) (0, (List.replicate (Int.toNat (IntKind.i64.wrap (t + 1))) [])) fun t2 nextQ =>
  cond (decide (t2.1 < ((Int.toNat (IntKind.i64.wrap (t + 1)) : Nat) : Int))) (MakeOk 8 (IntKind.i64.wrap (t + 1)) ∧ 0 ≤ t2.1 ∧ t2.1 < ((Int.toNat (IntKind.i64.wrap (t + 1)) : Nat) : Int) ∧ nextQ (IntKind.i64.wrap (t2.1 + 1), (List.set t2.2 (Int.toNat t2.1) (List.replicate (Int.toNat (IntKind.i64.wrap (t + 1))) 0))))
   (AppOk 8 ([secret] ++ l).length ∧ LoopQ (τ := List Nat × Int × List (List Nat)) (([secret] ++ l), 0, t2.2) fun t3 nextQ2 =>
  cond (decide (t3.2.1 < ((Int.toNat (IntKind.i64.wrap (t + 1)) : Nat) : Int))) (LoopQ (τ := List Nat × Int × List (List Nat)) (t3.1, t3.2.1, t3.2.2) fun t4 nextQ3 =>
  cond (decide (t4.2.1 ≤ t)) (0 ≤ t3.2.1 ∧ t3.2.1 < ((Int.toNat (IntKind.i64.wrap (t + 1)) : Nat) : Int) ∧ 0 ≤ t4.2.1 ∧ t4.2.1 < ((Int.toNat (IntKind.i64.wrap (t + 1)) : Nat) : Int) ∧ 0 ≤ (0 : Int) ∧ ∃ x : Nat, t4.1[0]? = some x ∧ 0 ≤ (0 : Int) ∧ ∃ x2 : Nat, t4.1[0]? = some x2 ∧ ∃ x3 : (List Nat), t4.2.2[Int.toNat t3.2.1]? = some x3 ∧ ∃ x4 : (List Nat), t4.2.2[Int.toNat t4.2.1]? = some x4 ∧ 0 ≤ t4.2.1 ∧ t4.2.1 < ((x3.length : Nat) : Int) ∧ 0 ≤ t3.2.1 ∧ t3.2.1 < ((x4.length : Nat) : Int) ∧ ∃ row : (List Nat), (List.set t4.2.2 (Int.toNat t3.2.1) (List.set x3 (Int.toNat t4.2.1) x))[Int.toNat t4.2.1]? = some row ∧ t3.2.1 < (row.length : Int) ∧ 0 ≤ (1 : Int) ∧ (1 : Int) ≤ ((t4.1.length : Nat) : Int) ∧ nextQ3 ((List.drop 1 t4.1), IntKind.i64.wrap (t4.2.1 + 1), (List.set (List.set t4.2.2 (Int.toNat t3.2.1) (List.set x3 (Int.toNat t4.2.1) x)) (Int.toNat t4.2.1) (List.set row (Int.toNat t3.2.1) x2))))
   (nextQ2 (t4.1, IntKind.i64.wrap (t3.2.1 + 1), t4.2.2)))
   (K t3.2.2))
theorem pair_Of.q {secret : Nat} {t : Int} {l : (List Nat)} {K : (List (List Nat)) → Prop} (q : pair_Of.Q secret t l K) : pair_Of.C secret t l K := by
  intro Z H secretv he lA ln lc hn f KK hk
  cases he
  cases hn
  apply pair_Of.ok
  unfold pair_Of.W
  unfold pair_Of.Q at q
  obtain ⟨σ, hz, hσ⟩ := tags Z
  have hs : Stp ([1, 2, 3] : List Nat) σ H σ H := Stp.refl _ _ _
  replace f := f.wide hz
  clear hz
  obtain ⟨q2, q⟩ := q
  refine ⟨q2.1, Int.le_refl _, q2.w1, q2.w2, NewH.mk fun H_ e => ?_⟩
  obtain ⟨xσ, st, f2⟩ := SlO.made (O := (slM (rdM u64L) 22)) σ 1 e (slM_zero _ _) q2.len
  replace f := f.step st
  replace hs := hs.trans st
  refine LoopI.ofQ q (fun t_ s_ hp_ => ∃ (σ_ : Nat → Nat), Stp [1, 2] xσ H_ σ_ hp_ ∧ t_.1 = s_ ∧ t_.2.length = (List.replicate (Int.toNat (IntKind.i64.wrap (t + 1))) []).length ∧ SlO (slM (rdM u64L) 22) 30 (Zt σ_) (Yt σ_ 1) hp_ (some (Addr.mk H.size 0 none)) (Int.toNat (IntKind.i64.wrap (t + 1))) t_.2) (fun h k => h _ _ k) ⟨_, Stp.refl _ _ _, rfl, rfl, f2⟩ ?_
  rintro t2 _ _ H_2 next nextQ ⟨xσ2, st2, rfl, hl, f2⟩ q hnext
  try dsimp only at q ⊢
  replace f := f.step st2
  replace hs := hs.trans st2
  have sl10 := st2
  refine condI (fun q => ?_) (fun q => ?_) q
  · obtain ⟨q3, q⟩ := q
    refine ⟨q3.1, Int.le_refl _, q3.w1, q3.w2, NewH.mk fun H_3 e2 => ?_⟩
    obtain ⟨xσ3, st3, f3⟩ := SlO.made (O := (rdM u64L)) xσ2 2 e2 (u64_zero) q3.len
    replace f := f.step st3
    replace f2 := f2.step st3
    replace hs := hs.trans st3
    replace sl10 := sl10.trans st3
    obtain ⟨h0, hi2, q⟩ := q
    obtain ⟨a, ha, hi⟩ := f2.addr h0 ((rl_len _ _).trans hl.symm) hi2
    refine ⟨a, ha, hi.1, hi.2, ?_⟩
    have w := SlO.put f2 ha h0 (lt_of_n ((rl_len _ _).trans hl.symm) hi2) (rl_len _ _) f3
    refine ⟨w.1, NewH.mk fun H_4 e3 => ?_⟩
    obtain ⟨xσ4, st4, f2⟩ := w.2 H_4 e3
    replace f := f.step st4
    replace hs := hs.trans st4
    replace sl10 := sl10.trans st4
    exact hnext (IntKind.i64.wrap (t2.1 + 1), (List.set t2.2 (Int.toNat t2.1) (List.replicate (Int.toNat (IntKind.i64.wrap (t + 1))) 0))) _ _ ⟨_, sl10, rfl, (set_back ((rl_len _ _).trans hl.symm) (set_len ((rl_len _ _).trans hl.symm)) hl), f2⟩ q
  · refine NewH.mk fun H_5 e4 => ?_
    obtain ⟨xσ5, st5, f4⟩ := SlO.lit (E := u64L) xσ2 3 (xs := [secret]) (l := [[_]]) e4 rfl (.cons rfl .nil) (show (1 : Nat) ≤ 17592186044416 by decide)
    replace f := f.step st5
    replace f2 := f2.step st5
    replace hs := hs.trans st5
    obtain ⟨q4, q⟩ := q
    refine SlO.appF f4 f rfl rfl q4.l q4.r rfl rfl (fun A c H_6 xσ6 st6 f4_ => ?_)
    replace f4 := f4_
    replace f := f.step st6
    replace f2 := f2.step st6
    replace hs := hs.trans st6
    have f5 := f4; clear f4
    obtain ⟨xσ7, st7, f5⟩ := SlO.freeze f5
    replace f := f.step st7
    replace f2 := f2.step st7
    replace hs := hs.trans st7
    refine LoopI.ofQ q (fun t_ s_ hp_ => ∃ (σ_ : Nat → Nat) (A0_ : Option Addr) (n0_ c0_ : Nat), Stp [1] xσ7 H_6 σ_ hp_ ∧ ((A0_, n0_, c0_), t_.2.1) = s_ ∧ n0_ = t_.1.length ∧ SlF u64L (Zt σ_) hp_ A0_ c0_ t_.1 ∧ t_.2.2.length = t2.2.length ∧ SlO (slM (rdM u64L) 22) 30 (Zt σ_) (Yt σ_ 1) hp_ (some (Addr.mk H.size 0 none)) (Int.toNat (IntKind.i64.wrap (t + 1))) t_.2.2) (fun h k => h _ _ k) ⟨_, _, _, _, Stp.refl _ _ _, rfl, rfl, f5, rfl, f2⟩ ?_
    rintro t3 _ _ H_7 next2 nextQ2 ⟨xσ8, A2, n, c2, st8, rfl, rfl, f6, hl2, f2⟩ q hnext2
    try dsimp only at q ⊢
    replace f := f.step st8
    replace f5 := f5.step st8
    replace hs := hs.trans st8
    have sl17 := st8
    refine condI (fun q => ?_) (fun q => ?_) q
    · refine LoopI.ofQ q (fun t_ s_ hp_ => ∃ (σ_ : Nat → Nat) (A0_ : Option Addr) (n0_ c0_ : Nat), Stp [1] xσ8 H_7 σ_ hp_ ∧ ((A0_, n0_, c0_), t_.2.1) = s_ ∧ n0_ = t_.1.length ∧ SlF u64L (Zt σ_) hp_ A0_ c0_ t_.1 ∧ t_.2.2.length = t3.2.2.length ∧ SlO (slM (rdM u64L) 22) 30 (Zt σ_) (Yt σ_ 1) hp_ (some (Addr.mk H.size 0 none)) (Int.toNat (IntKind.i64.wrap (t + 1))) t_.2.2) (fun h k => h _ _ k) ⟨_, _, _, _, Stp.refl _ _ _, rfl, rfl, f6, rfl, f2⟩ ?_
      rintro t4 _ _ H_8 next3 nextQ3 ⟨xσ9, A3, n2, c3, st9, rfl, rfl, f7, hl3, f2⟩ q hnext3
      try dsimp only at q ⊢
      replace f := f.step st9
      replace f5 := f5.step st9
      replace f6 := f6.step st9
      replace hs := hs.trans st9
      replace sl17 := sl17.trans st9
      have sl19 := st9
      refine condI (fun q => ?_) (fun q => ?_) q
      · obtain ⟨h02, hi4, q⟩ := q
        obtain ⟨a2, ha2, hi3⟩ := f2.addr h02 ((((rl_len _ _).trans hl.symm).trans hl2.symm).trans hl3.symm) hi4
        refine ⟨a2, ha2, hi3.1, hi3.2, ?_⟩
        obtain ⟨h03, hi6, q⟩ := q
        obtain ⟨a3, ha3, hi5⟩ := f2.addr h03 ((((rl_len _ _).trans hl.symm).trans hl2.symm).trans hl3.symm) hi6
        refine ⟨a3, ha3, hi5.1, hi5.2, ?_⟩
        obtain ⟨h04, x, hx, q⟩ := q
        obtain ⟨a4, ha4, hi7⟩ := f7.addr h04 hx rfl
        refine ⟨a4, ha4, hi7.1, hi7.2, ?_⟩
        obtain ⟨h05, x2, hx2, q⟩ := q
        obtain ⟨a5, ha5, hi8⟩ := f7.addr h05 hx2 rfl
        refine ⟨a5, ha5, hi8.1, hi8.2, ?_⟩
        obtain ⟨x3, hx3, q⟩ := q
        obtain ⟨A4, c4, Y, hc, hY, f8, bk⟩ := f2.row ha2 h02 hx3
        have g := SlO.rowF f8 (fun b hb => (hY b hb).1)
        refine ⟨_, _, _, hc.val, ?_⟩
        obtain ⟨x4, hx4, q⟩ := q
        obtain ⟨A5, c5, Y2, hc2, hY2, f9, bk2⟩ := f2.row ha3 h03 hx4
        have g2 := SlO.rowF f9 (fun b hb => (hY2 b hb).1)
        refine ⟨_, _, _, hc2.val, ?_⟩
        have hc3 := f7.ldu ha4 h04 hx
        refine ⟨_, hc3.val, ?_⟩
        have hc4 := f7.ldu ha5 h05 hx2
        refine ⟨_, hc4.val, ?_⟩
        obtain ⟨h06, hi10, q⟩ := q
        obtain ⟨a6, ha6, hi9⟩ := SlF.addr g h06 (List.getElem?_eq_getElem (idx_lt rfl h06 hi10)) rfl
        refine ⟨a6, ha6, hi9.1, hi9.2, ?_⟩
        have w2 := fun v hr => SlO.set2 (v := v) (y := x) f2 rfl ha2 h02 hx3 hc ha6 h06 (lt_of_n rfl hi10) hr
        refine ⟨(w2 _ rfl).1, NewH.mk fun H_9 e5 => ?_⟩
        obtain ⟨st10, f2, hh⟩ := (w2 _ rfl).2 H_9 e5
        replace hc := hh _ _ hc
        replace hc2 := by have ea := Option.some.inj (ha3.symm.trans ha2); subst ea; exact hh _ _ hc2
        replace f := f.step st10
        replace f5 := f5.step st10
        replace f6 := f6.step st10
        replace f7 := f7.step st10
        replace hc3 := hc3.step st10
        replace hc4 := hc4.step st10
        replace hs := hs.trans st10
        replace sl17 := sl17.trans st10
        replace sl19 := sl19.trans st10
        obtain ⟨h07, hi12, q⟩ := q
        obtain ⟨a7, ha7, hi11⟩ := SlF.addr g2 h07 (List.getElem?_eq_getElem (idx_lt rfl h07 hi12)) rfl
        refine ⟨a7, ha7, hi11.1, hi11.2, ?_⟩
        obtain ⟨row, hx5, q⟩ := q
        obtain ⟨hl4, q⟩ := q
        have w3 := fun v hr => SlO.set2 (v := v) (y := x2) f2 rfl ha3 h03 hx5 hc2 ha7 h07 hl4 hr
        refine ⟨(w3 _ rfl).1, NewH.mk fun H_10 e6 => ?_⟩
        obtain ⟨st11, f2, hh2⟩ := (w3 _ rfl).2 H_10 e6
        replace hc := by have ea := Option.some.inj (ha2.symm.trans ha3); subst ea; exact hh2 _ _ hc
        replace hc2 := hh2 _ _ hc2
        replace f := f.step st11
        replace f5 := f5.step st11
        replace f6 := f6.step st11
        replace f7 := f7.step st11
        replace hc3 := hc3.step st11
        replace hc4 := hc4.step st11
        replace hs := hs.trans st11
        replace sl17 := sl17.trans st11
        replace sl19 := sl19.trans st11
        obtain ⟨q5, q6, q⟩ := q
        have f10 := f7.from (l := 1) (k := 1) (upto_le rfl q6) rfl
        refine ⟨q5, q6, ?_⟩
        exact hnext3 ((List.drop 1 t4.1), IntKind.i64.wrap (t4.2.1 + 1), (List.set (List.set t4.2.2 (Int.toNat t3.2.1) (List.set x3 (Int.toNat t4.2.1) x)) (Int.toNat t4.2.1) (List.set row (Int.toNat t3.2.1) x2))) _ _ ⟨_, _, _, _, sl19, rfl, (drop_len rfl), f10, (set_back ((((rl_len _ _).trans hl.symm).trans hl2.symm).trans hl3.symm) (set_len (set_len ((((rl_len _ _).trans hl.symm).trans hl2.symm).trans hl3.symm))) hl3), f2⟩ q
      · exact hnext2 (t4.1, IntKind.i64.wrap (t3.2.1 + 1), t4.2.2) _ _ ⟨_, _, _, _, sl17, rfl, rfl, f7, (set_back (((rl_len _ _).trans hl.symm).trans hl2.symm) ((((rl_len _ _).trans hl.symm).trans hl2.symm).trans hl3.symm) hl2), f2⟩ q
    · exact hk (Zt xσ8) _ (hs.ext hσ) (hs.old hσ) _ (Yt xσ8 1) (hs.fresh hσ) _ _ _ (((rl_len _ _).trans hl.symm).trans hl2.symm) f2 q
def pair_Make.C (p : Nat) (secret : Nat) (t : Int) (tape : (List Nat)) (K : (List (List Nat)) → (List Nat) → Int → Prop) : Prop :=
  ∀ (Z : Nat → Prop) (H : Heap), ∀ (pv : Int), pv = (p : Int) → ∀ (secretv : Int), secretv = (secret : Int) → ∀ (tapeA : Option Addr) (tapen tapec : Nat), tapen = tape.length → SlF u64L Z H tapeA tapec tape → ∀ KK : Value → Heap → Prop,
    (∀ (Z' : Nat → Prop) (H' : Heap), Ext H H' → Old Z H Z' → ∀ (r0 : (List (List Nat))), ∀ (Y0 : Nat → Prop), (∀ i, Y0 i → H.size ≤ i ∧ ¬ Z' i) → ∀ (Ar0_0 : Option Addr) (nr0_0 cr0_0 : Nat), nr0_0 = r0.length → SlO (slM (rdM u64L) 22) 30 Z' Y0 H' Ar0_0 cr0_0 r0 → ∀ (r1 : (List Nat)), ∀ (Y1 : Nat → Prop), (∀ i, Y1 i → H.size ≤ i ∧ ¬ Z' i) → ∀ (Ar1_0 : Option Addr) (nr1_0 cr1_0 : Nat), nr1_0 = r1.length → SlO (rdM u64L) 22 Z' Y1 H' Ar1_0 cr1_0 r1 → ∀ (r2 : Int), (∀ i, Y0 i → ¬ Y1 i) → K r0 r1 r2 → KK (.tuple #[.slice Ar0_0 nr0_0 cr0_0, .slice Ar1_0 nr1_0 cr1_0, .int .i64 r2]) H') →
    CallH P N.pair_Make [.int .u64 pv, .int .u64 secretv, .int .i64 t, .slice tapeA tapen tapec] H KK
def pair_Make.Q (p : Nat) (secret : Nat) (t : Int) (tape : (List Nat)) (K : (List (List Nat)) → (List Nat) → Int → Prop) : Prop :=
  pair_ground.C p t (fun (x : Int) =>
  cond (x != 0) (K ([]) ([]) x)
   (cond (decide ((secret : Int) ≥ (p : Int))) (K ([]) ([]) 2)
   (pair_Size.C t (fun (x2 : Int) =>
  field_Take.C p tape x2 (fun (r : (List Nat)) (r2 : (List Nat)) =>
  pair_Of.C secret t r (fun (x3 : (List (List Nat))) =>
  K x3 r2 0))))))
theorem pair_Make.q {p : Nat} {secret : Nat} {t : Int} {tape : (List Nat)} {K : (List (List Nat)) → (List Nat) → Int → Prop} (q : pair_Make.Q p secret t tape K) : pair_Make.C p secret t tape K := by
  intro Z H pv he secretv he2 tapeA tapen tapec hn f KK hk
  cases he
  cases he2
  cases hn
  apply pair_Make.ok
  unfold pair_Make.W
  unfold pair_Make.Q at q
  obtain ⟨σ, hz, hσ⟩ := tags Z
  have hs : Stp ([1, 2, 3] : List Nat) σ H σ H := Stp.refl _ _ _
  replace f := f.wide hz
  clear hz
  refine q (Zt σ) H _ rfl _ (fun Z2 H_ hE hO x q => ?_)
  obtain ⟨xσ, st⟩ := call0 hE σ
  replace f := f.step st
  replace hs := hs.trans st
  refine ⟨_, rfl, ?_⟩
  refine condI (fun q => ?_) (fun q => ?_) q
  · exact hk (Zt xσ) _ (hs.ext hσ) (hs.old hσ) _ (fun _ => False) (fun _ h => h.elim) _ _ _ rfl (SlO.nil _ _ _ _ _) _ (fun _ => False) (fun _ h => h.elim) _ _ _ rfl (SlO.nil _ _ _ _ _) _ (fun _ h => h.elim) q
  · refine condI (fun q => ?_) (fun q => ?_) q
    · exact hk (Zt xσ) _ (hs.ext hσ) (hs.old hσ) _ (fun _ => False) (fun _ h => h.elim) _ _ _ rfl (SlO.nil _ _ _ _ _) _ (fun _ => False) (fun _ h => h.elim) _ _ _ rfl (SlO.nil _ _ _ _ _) _ (fun _ h => h.elim) q
    · refine q (Zt xσ) H_  _ (fun Z3 H_2 hE2 hO2 x2 q => ?_)
      obtain ⟨xσ2, st2⟩ := call0 hE2 xσ
      replace f := f.step st2
      replace hs := hs.trans st2
      refine ⟨_, rfl, ?_⟩
      refine q (Zt xσ2) H_2 _ rfl _ _ _ rfl f _ (fun Z4 H_3 hE3 hO3 r Y hY A n c hn2 f2 r2 Y2 hY2 A2 n2 c2 hn3 f3 hY3 q => ?_)
      obtain ⟨xσ3, st3, fz3, fy, fy2⟩ := call2 hE3 hO3 xσ2 1 2 (fun _ h => h) hY hY2 hY3
      replace f2 := f2.keep fz3 fy
      replace f3 := f3.keep fz3 fy2
      cases hn2
      cases hn3
      replace f := f.step st3
      replace hs := hs.trans st3
      refine ⟨_, _, _, _, _, _, rfl, ?_⟩
      obtain ⟨xσ4, st4, f2⟩ := SlO.freeze f2
      replace f := f.step st4
      replace f3 := f3.step st4
      replace hs := hs.trans st4
      refine q (Zt xσ4) H_3 _ rfl _ _ _ rfl f2 _ (fun Z5 H_4 hE4 hO4 x3 Y3 hY4 A3 n3 c3 hn4 f4 q => ?_)
      obtain ⟨xσ5, st5, fz4, fy3⟩ := call1 hE4 hO4 xσ4 3 (fun _ h => h) hY4
      replace f4 := f4.keep fz4 fy3
      cases hn4
      replace f := f.step st5
      replace f2 := f2.step st5
      replace f3 := f3.step st5
      replace hs := hs.trans st5
      refine ⟨_, _, _, rfl, ?_⟩
      exact hk (Zt xσ5) _ (hs.ext hσ) (hs.old hσ) _ (Yt xσ5 3) (hs.fresh hσ) _ _ _ rfl f4 _ (Yt xσ5 2) (hs.fresh hσ) _ _ _ rfl f3 _ Yt.apart q
def pair_RowOf.C (p : Nat) (f : (List (List Nat))) (x : Nat) (K : (List Nat) → Prop) : Prop :=
  ∀ (Z : Nat → Prop) (H : Heap), ∀ (pv : Int), pv = (p : Int) → ∀ (fA : Option Addr) (fn fc : Nat), fn = f.length → SlF (slL u64L) Z H fA fc f → ∀ (xv : Int), xv = (x : Int) → ∀ KK : Value → Heap → Prop,
    (∀ (Z' : Nat → Prop) (H' : Heap), Ext H H' → Old Z H Z' → ∀ (r0 : (List Nat)), ∀ (Y0 : Nat → Prop), (∀ i, Y0 i → H.size ≤ i ∧ ¬ Z' i) → ∀ (Ar0_0 : Option Addr) (nr0_0 cr0_0 : Nat), nr0_0 = r0.length → SlO (rdM u64L) 22 Z' Y0 H' Ar0_0 cr0_0 r0 → K r0 → KK (.slice Ar0_0 nr0_0 cr0_0) H') →
    CallH P N.pair_RowOf [.int .u64 pv, .slice fA fn fc, .int .u64 xv] H KK
def pair_RowOf.Q (p : Nat) (f : (List (List Nat))) (x : Nat) (K : (List Nat) → Prop) : Prop :=
  MakeOk 8 ((f.length : Nat) : Int) ∧ LoopQ (τ := Int × List Nat) (0, (List.replicate f.length 0)) fun t nextQ =>
  cond (decide (t.1 < ((f.length : Nat) : Int))) (0 ≤ t.1 ∧ ∃ x2 : (List Nat), f[Int.toNat t.1]? = some x2 ∧ poly_At.C p x2 x (fun (x3 : Nat) =>
  0 ≤ t.1 ∧ t.1 < ((f.length : Nat) : Int) ∧ nextQ (IntKind.i64.wrap (t.1 + 1), (List.set t.2 (Int.toNat t.1) x3))))
   (poly_Short.C t.2 (fun (x4 : (List Nat)) =>
  K x4))
theorem pair_RowOf.q {p : Nat} {f : (List (List Nat))} {x : Nat} {K : (List Nat) → Prop} (q : pair_RowOf.Q p f x K) : pair_RowOf.C p f x K := by
  intro Z H pv he fA fn fc hn f2 xv he2 KK hk
  cases he
  cases hn
  cases he2
  apply pair_RowOf.ok
  unfold pair_RowOf.W
  unfold pair_RowOf.Q at q
  obtain ⟨σ, hz, hσ⟩ := tags Z
  have hs : Stp ([1, 2] : List Nat) σ H σ H := Stp.refl _ _ _
  replace f2 := f2.wide hz
  clear hz
  obtain ⟨q2, q⟩ := q
  refine ⟨q2.1, Int.le_refl _, q2.w1, q2.w2, NewH.mk fun H_ e => ?_⟩
  obtain ⟨xσ, st, f3⟩ := SlO.made (O := (rdM u64L)) σ 1 e (u64_zero) q2.len
  replace f2 := f2.step st
  replace hs := hs.trans st
  refine LoopI.ofQ q (fun t_ s_ hp_ => ∃ (σ_ : Nat → Nat), Stp [1] xσ H_ σ_ hp_ ∧ t_.1 = s_ ∧ t_.2.length = (List.replicate f.length 0).length ∧ SlO (rdM u64L) 22 (Zt σ_) (Yt σ_ 1) hp_ (some (Addr.mk H.size 0 none)) f.length t_.2) (fun h k => h _ _ k) ⟨_, Stp.refl _ _ _, rfl, rfl, f3⟩ ?_
  rintro t _ _ H_2 next nextQ ⟨xσ2, st2, rfl, hl, f3⟩ q hnext
  try dsimp only at q ⊢
  replace f2 := f2.step st2
  replace hs := hs.trans st2
  have sl1 := st2
  refine condI (fun q => ?_) (fun q => ?_) q
  · obtain ⟨h0, x2, hx, q⟩ := q
    obtain ⟨a, ha, hi⟩ := f2.addr h0 hx rfl
    refine ⟨a, ha, hi.1, hi.2, ?_⟩
    obtain ⟨A, c, hc, f4⟩ := f2.lds ha h0 hx
    refine ⟨_, _, _, hc.val, ?_⟩
    refine q (Zt xσ2) H_2 _ rfl _ _ _ rfl f4 _ rfl _ (fun Z2 H_3 hE hO x3 v he3 q => ?_)
    obtain ⟨xσ3, st3⟩ := call0 hE xσ2
    cases he3
    replace f2 := f2.step st3
    replace f3 := f3.step st3
    replace hc := hc.step st3
    replace f4 := f4.step st3
    replace hs := hs.trans st3
    replace sl1 := sl1.trans st3
    refine ⟨_, rfl, ?_⟩
    obtain ⟨h02, hi3, q⟩ := q
    obtain ⟨a2, ha2, hi2⟩ := f3.addr h02 ((rl_len _ _).trans hl.symm) hi3
    refine ⟨a2, ha2, hi2.1, hi2.2, ?_⟩
    have w := fun v hr => SlO.set1 (v := v) (y := x3) f3 rfl ha2 h02 (lt_of_n ((rl_len _ _).trans hl.symm) hi3) hr
    refine ⟨(w _ rfl).1, NewH.mk fun H_4 e2 => ?_⟩
    obtain ⟨st4, f3⟩ := (w _ rfl).2 H_4 e2
    replace f2 := f2.step st4
    replace hc := hc.step st4
    replace f4 := f4.step st4
    replace hs := hs.trans st4
    replace sl1 := sl1.trans st4
    exact hnext (IntKind.i64.wrap (t.1 + 1), (List.set t.2 (Int.toNat t.1) x3)) _ _ ⟨_, sl1, rfl, (set_back ((rl_len _ _).trans hl.symm) (set_len ((rl_len _ _).trans hl.symm)) hl), f3⟩ q
  · refine q (fun i => xσ2 i = 0 ∨ xσ2 i = 1) H_2 _ _ _ ((rl_len _ _).trans hl.symm) (f3.read (fun i h => .inl h) (fun i h => .inr (h))) _ (fun Z3 H_5 hE2 hO2 x4 Y hY A2 n c2 hn2 f5 q => ?_)
    obtain ⟨xσ4, st5, fy⟩ := callB1 hE2 hO2 xσ2 2 hY
    replace f5 := (SlO.anyZ (Z' := Zt xσ4) u64_flatL f5).keep (Fr.refl _ _) fy
    cases hn2
    replace f2 := f2.step st5
    replace f3 := f3.step st5
    replace hs := hs.trans st5
    refine ⟨_, _, _, rfl, ?_⟩
    exact hk (Zt xσ4) _ (hs.ext hσ) (hs.old hσ) _ (Yt xσ4 2) (hs.fresh hσ) _ _ _ rfl f5 q
def pair_Row.C (p : Nat) (t : Int) (f : (List (List Nat))) (x : Nat) (K : (List Nat) → Int → Prop) : Prop :=
  ∀ (Z : Nat → Prop) (H : Heap), ∀ (pv : Int), pv = (p : Int) → ∀ (fA : Option Addr) (fn fc : Nat), fn = f.length → SlF (slL u64L) Z H fA fc f → ∀ (xv : Int), xv = (x : Int) → ∀ KK : Value → Heap → Prop,
    (∀ (Z' : Nat → Prop) (H' : Heap), Ext H H' → Old Z H Z' → ∀ (r0 : (List Nat)), ∀ (Y0 : Nat → Prop), (∀ i, Y0 i → H.size ≤ i ∧ ¬ Z' i) → ∀ (Ar0_0 : Option Addr) (nr0_0 cr0_0 : Nat), nr0_0 = r0.length → SlO (rdM u64L) 22 Z' Y0 H' Ar0_0 cr0_0 r0 → ∀ (r1 : Int), K r0 r1 → KK (.tuple #[.slice Ar0_0 nr0_0 cr0_0, .int .i64 r1]) H') →
    CallH P N.pair_Row [.int .u64 pv, .int .i64 t, .slice fA fn fc, .int .u64 xv] H KK
def pair_Row.Q (p : Nat) (t : Int) (f : (List (List Nat))) (x : Nat) (K : (List Nat) → Int → Prop) : Prop :=
  pair_Check.C p t f (fun (x2 : Int) =>
  cond (x2 != 0) (K ([]) x2)
   (cond (decide ((x : Int) ≥ (p : Int))) (K ([]) 2)
   (pair_RowOf.C p f x (fun (x3 : (List Nat)) =>
  K x3 0))))
theorem pair_Row.q {p : Nat} {t : Int} {f : (List (List Nat))} {x : Nat} {K : (List Nat) → Int → Prop} (q : pair_Row.Q p t f x K) : pair_Row.C p t f x K := by
  intro Z H pv he fA fn fc hn f2 xv he2 KK hk
  cases he
  cases hn
  cases he2
  apply pair_Row.ok
  unfold pair_Row.W
  unfold pair_Row.Q at q
  obtain ⟨σ, hz, hσ⟩ := tags Z
  have hs : Stp ([1] : List Nat) σ H σ H := Stp.refl _ _ _
  replace f2 := f2.wide hz
  clear hz
  refine q (Zt σ) H _ rfl _ _ _ rfl f2 _ (fun Z2 H_ hE hO x2 q => ?_)
  obtain ⟨xσ, st⟩ := call0 hE σ
  replace f2 := f2.step st
  replace hs := hs.trans st
  refine ⟨_, rfl, ?_⟩
  refine condI (fun q => ?_) (fun q => ?_) q
  · exact hk (Zt xσ) _ (hs.ext hσ) (hs.old hσ) _ (fun _ => False) (fun _ h => h.elim) _ _ _ rfl (SlO.nil _ _ _ _ _) _ q
  · refine condI (fun q => ?_) (fun q => ?_) q
    · exact hk (Zt xσ) _ (hs.ext hσ) (hs.old hσ) _ (fun _ => False) (fun _ h => h.elim) _ _ _ rfl (SlO.nil _ _ _ _ _) _ q
    · refine q (Zt xσ) H_ _ rfl _ _ _ rfl f2 _ rfl _ (fun Z3 H_2 hE2 hO2 x3 Y hY A n c hn2 f3 q => ?_)
      obtain ⟨xσ2, st2, fz2, fy⟩ := call1 hE2 hO2 xσ 1 (fun _ h => h) hY
      replace f3 := f3.keep fz2 fy
      cases hn2
      replace f2 := f2.step st2
      replace hs := hs.trans st2
      refine ⟨_, _, _, rfl, ?_⟩
      exact hk (Zt xσ2) _ (hs.ext hσ) (hs.old hσ) _ (Yt xσ2 1) (hs.fresh hσ) _ _ _ rfl f3 _ q
def pair_At.C (p : Nat) (t : Int) (f : (List (List Nat))) (x : Nat) (y : Nat) (K : Nat → Int → Prop) : Prop :=
  ∀ (Z : Nat → Prop) (H : Heap), ∀ (pv : Int), pv = (p : Int) → ∀ (fA : Option Addr) (fn fc : Nat), fn = f.length → SlF (slL u64L) Z H fA fc f → ∀ (xv : Int), xv = (x : Int) → ∀ (yv : Int), yv = (y : Int) → ∀ KK : Value → Heap → Prop,
    (∀ (Z' : Nat → Prop) (H' : Heap), Ext H H' → Old Z H Z' → ∀ (r0 : Nat), ∀ (r0v0 : Int), r0v0 = (r0 : Int) → ∀ (r1 : Int), K r0 r1 → KK (.tuple #[.int .u64 r0v0, .int .i64 r1]) H') →
    CallH P N.pair_At [.int .u64 pv, .int .i64 t, .slice fA fn fc, .int .u64 xv, .int .u64 yv] H KK
def pair_At.Q (p : Nat) (t : Int) (f : (List (List Nat))) (x : Nat) (y : Nat) (K : Nat → Int → Prop) : Prop :=
  pair_Row.C p t f x (fun (r : (List Nat)) (r2 : Int) =>
  cond (r2 != 0) (K 0 r2)
   (cond (decide ((y : Int) ≥ (p : Int))) (K 0 2)
   (poly_At.C p r y (fun (x2 : Nat) =>
  K x2 0))))
theorem pair_At.q {p : Nat} {t : Int} {f : (List (List Nat))} {x : Nat} {y : Nat} {K : Nat → Int → Prop} (q : pair_At.Q p t f x y K) : pair_At.C p t f x y K := by
  intro Z H pv he fA fn fc hn f2 xv he2 yv he3 KK hk
  cases he
  cases hn
  cases he2
  cases he3
  apply pair_At.ok
  unfold pair_At.W
  unfold pair_At.Q at q
  obtain ⟨σ, hz, hσ⟩ := tags Z
  have hs : Stp ([1] : List Nat) σ H σ H := Stp.refl _ _ _
  replace f2 := f2.wide hz
  clear hz
  refine q (Zt σ) H _ rfl _ _ _ rfl f2 _ rfl _ (fun Z2 H_ hE hO r Y hY A n c hn2 f3 r2 q => ?_)
  obtain ⟨xσ, st, fz, fy⟩ := call1 hE hO σ 1 (fun _ h => h) hY
  replace f3 := f3.keep fz fy
  cases hn2
  replace f2 := f2.step st
  replace hs := hs.trans st
  refine ⟨_, _, _, _, rfl, ?_⟩
  refine condI (fun q => ?_) (fun q => ?_) q
  · exact hk (Zt xσ) _ (hs.ext hσ) (hs.old hσ) _ _ rfl _ q
  · refine condI (fun q => ?_) (fun q => ?_) q
    · exact hk (Zt xσ) _ (hs.ext hσ) (hs.old hσ) _ _ rfl _ q
    · refine q (fun i => xσ i = 0 ∨ xσ i = 1) H_ _ rfl _ _ _ rfl (f3.read (fun i h => .inl h) (fun i h => .inr (h))) _ rfl _ (fun Z3 H_2 hE2 hO2 x2 v he4 q => ?_)
      obtain ⟨xσ2, st2⟩ := call0 hE2 xσ
      cases he4
      replace f2 := f2.step st2
      replace f3 := f3.step st2
      replace hs := hs.trans st2
      refine ⟨_, rfl, ?_⟩
      exact hk (Zt xσ2) _ (hs.ext hσ) (hs.old hσ) _ _ rfl _ q
def pair_rows.C (p : Nat) (xs : (List Nat)) (l : (List (List Nat))) (K : Int → Prop) : Prop :=
  ∀ (Z : Nat → Prop) (H : Heap), ∀ (pv : Int), pv = (p : Int) → ∀ (xsA : Option Addr) (xsn xsc : Nat), xsn = xs.length → SlF u64L Z H xsA xsc xs → ∀ (lA : Option Addr) (ln lc : Nat), ln = l.length → SlF (slL u64L) Z H lA lc l → ∀ KK : Value → Heap → Prop,
    (∀ (Z' : Nat → Prop) (H' : Heap), Ext H H' → Old Z H Z' → ∀ (r0 : Int), K r0 → KK (.int .i64 r0) H') →
    CallH P N.pair_rows [.int .u64 pv, .slice xsA xsn xsc, .slice lA ln lc] H KK
def pair_rows.Q (p : Nat) (xs : (List Nat)) (l : (List (List Nat))) (K : Int → Prop) : Prop :=
  cond (decide (((xs.length : Nat) : Int) > 13)) (K 3)
   (cond (((l.length : Nat) : Int) != ((xs.length : Nat) : Int)) (K 2)
   (field_Below.C p xs (fun (x : Int) =>
  cond (x != 0) (K 2)
   (LoopQ (τ := Int) 0 fun t nextQ =>
  cond (decide (t < ((xs.length : Nat) : Int))) (0 ≤ t ∧ ∃ x2 : Nat, xs[Int.toNat t]? = some x2 ∧ 0 ≤ t ∧ t ≤ ((xs.length : Nat) : Int) ∧ slices_Contains_uint64uint64.C (List.take (Int.toNat t) xs) x2 (fun (x3 : Bool) =>
  cond x3 (K 6)
   (nextQ (IntKind.i64.wrap (t + 1)))))
   (poly_Is.C p l (fun (x4 : Int) =>
  K x4))))))
theorem pair_rows.q {p : Nat} {xs : (List Nat)} {l : (List (List Nat))} {K : Int → Prop} (q : pair_rows.Q p xs l K) : pair_rows.C p xs l K := by
  intro Z H pv he xsA xsn xsc hn f lA ln lc hn2 f2 KK hk
  cases he
  cases hn
  cases hn2
  apply pair_rows.ok
  unfold pair_rows.W
  unfold pair_rows.Q at q
  obtain ⟨σ, hz, hσ⟩ := tags Z
  have hs : Stp ([] : List Nat) σ H σ H := Stp.refl _ _ _
  replace f := f.wide hz
  replace f2 := f2.wide hz
  clear hz
  refine condI (fun q => ?_) (fun q => ?_) q
  · exact hk (Zt σ) _ (hs.ext hσ) (hs.old hσ) _ q
  · refine condI (fun q => ?_) (fun q => ?_) q
    · exact hk (Zt σ) _ (hs.ext hσ) (hs.old hσ) _ q
    · refine q (Zt σ) H _ rfl _ _ _ rfl f _ (fun Z2 H_ hE hO x q => ?_)
      obtain ⟨xσ, st⟩ := call0 hE σ
      replace f := f.step st
      replace f2 := f2.step st
      replace hs := hs.trans st
      refine ⟨_, rfl, ?_⟩
      refine condI (fun q => ?_) (fun q => ?_) q
      · exact hk (Zt xσ) _ (hs.ext hσ) (hs.old hσ) _ q
      · refine LoopI.ofQ q (fun t_ s_ hp_ => ∃ (σ_ : Nat → Nat), Stp [] xσ H_ σ_ hp_ ∧ t_ = s_) (fun h k => h _ _ k) ⟨_, Stp.refl _ _ _, rfl⟩ ?_
        rintro t _ _ H_2 next nextQ ⟨xσ2, st2, rfl⟩ q hnext
        try dsimp only at q ⊢
        replace f := f.step st2
        replace f2 := f2.step st2
        replace hs := hs.trans st2
        have sl0 := st2
        refine condI (fun q => ?_) (fun q => ?_) q
        · obtain ⟨h0, x2, hx, q⟩ := q
          obtain ⟨a, ha, hi⟩ := f.addr h0 hx rfl
          refine ⟨a, ha, hi.1, hi.2, ?_⟩
          have hc := f.ldu ha h0 hx
          refine ⟨_, hc.val, ?_⟩
          obtain ⟨q2, q3, q⟩ := q
          have f3 := f.upto (u := Int.toNat t) (upto_le rfl q3)
          refine ⟨q2, cap_le rfl f.cap q3, ?_⟩
          refine q (Zt xσ2) H_2 _ _ _ (take_len rfl q3) f3 _ rfl _ (fun Z3 H_3 hE2 hO2 x3 q => ?_)
          obtain ⟨xσ3, st3⟩ := call0 hE2 xσ2
          replace f := f.step st3
          replace f2 := f2.step st3
          replace hc := hc.step st3
          replace f3 := f3.step st3
          replace hs := hs.trans st3
          replace sl0 := sl0.trans st3
          refine ⟨_, rfl, ?_⟩
          refine condI (fun q => ?_) (fun q => ?_) q
          · exact hk (Zt xσ3) _ (hs.ext hσ) (hs.old hσ) _ q
          · exact hnext (IntKind.i64.wrap (t + 1)) _ _ ⟨_, sl0, rfl⟩ q
        · refine q (Zt xσ2) H_2 _ rfl _ _ _ rfl f2 _ (fun Z4 H_4 hE3 hO3 x4 q => ?_)
          obtain ⟨xσ4, st4⟩ := call0 hE3 xσ2
          replace f := f.step st4
          replace f2 := f2.step st4
          replace hs := hs.trans st4
          refine ⟨_, rfl, ?_⟩
          exact hk (Zt xσ4) _ (hs.ext hσ) (hs.old hσ) _ q
def pair_Glue.C (p : Nat) (t : Int) (xs : (List Nat)) (l : (List (List Nat))) (K : (List (List Nat)) → Prop) : Prop :=
  ∀ (Z : Nat → Prop) (H : Heap), ∀ (pv : Int), pv = (p : Int) → ∀ (xsA : Option Addr) (xsn xsc : Nat), xsn = xs.length → SlF u64L Z H xsA xsc xs → ∀ (lA : Option Addr) (ln lc : Nat), ln = l.length → SlF (slL u64L) Z H lA lc l → ∀ KK : Value → Heap → Prop,
    (∀ (Z' : Nat → Prop) (H' : Heap), Ext H H' → Old Z H Z' → ∀ (r0 : (List (List Nat))), ∀ (Y0 : Nat → Prop), (∀ i, Y0 i → H.size ≤ i ∧ ¬ Z' i) → ∀ (Ar0_0 : Option Addr) (nr0_0 cr0_0 : Nat), nr0_0 = r0.length → SlO (slM (rdM u64L) 22) 30 Z' Y0 H' Ar0_0 cr0_0 r0 → K r0 → KK (.slice Ar0_0 nr0_0 cr0_0) H') →
    CallH P N.pair_Glue [.int .u64 pv, .int .i64 t, .slice xsA xsn xsc, .slice lA ln lc] H KK
def pair_Glue.Q (p : Nat) (t : Int) (xs : (List Nat)) (l : (List (List Nat))) (K : (List (List Nat)) → Prop) : Prop :=
  MakeOk 24 (IntKind.i64.wrap (t + 1)) ∧ LoopQ (τ := Int × List (List Nat)) (0, (List.replicate (Int.toNat (IntKind.i64.wrap (t + 1))) [])) fun t2 nextQ =>
  cond (decide (t2.1 < ((Int.toNat (IntKind.i64.wrap (t + 1)) : Nat) : Int))) (MakeOk 8 (IntKind.i64.wrap (t + 1)) ∧ 0 ≤ t2.1 ∧ t2.1 < ((Int.toNat (IntKind.i64.wrap (t + 1)) : Nat) : Int) ∧ nextQ (IntKind.i64.wrap (t2.1 + 1), (List.set t2.2 (Int.toNat t2.1) (List.replicate (Int.toNat (IntKind.i64.wrap (t + 1))) 0))))
   (LoopQ (τ := Int × List (List Nat)) (0, t2.2) fun t3 nextQ2 =>
  cond (decide (t3.1 < (IntKind.i64.wrap (t + 1)))) (0 ≤ (IntKind.i64.wrap (t + 1)) ∧ (IntKind.i64.wrap (t + 1)) ≤ ((xs.length : Nat) : Int) ∧ LoopQ (τ := List TPoint × Int) (([] : List TPoint), 0) fun t4 nextQ3 =>
  cond (decide (t4.2 < ((Int.toNat (IntKind.i64.wrap (t + 1)) : Nat) : Int))) (0 ≤ t4.2 ∧ ∃ x : Nat, (List.take (Int.toNat (IntKind.i64.wrap (t + 1))) xs)[Int.toNat t4.2]? = some x ∧ 0 ≤ t4.2 ∧ ∃ x2 : (List Nat), l[Int.toNat t4.2]? = some x2 ∧ cond (decide (t3.1 < ((x2.length : Nat) : Int))) (0 ≤ t4.2 ∧ ∃ x3 : (List Nat), l[Int.toNat t4.2]? = some x3 ∧ 0 ≤ t3.1 ∧ ∃ x4 : Nat, x3[Int.toNat t3.1]? = some x4 ∧ AppOk 16 (t4.1 ++ ([(⟨x, x4⟩ : TPoint)] : List TPoint)).length ∧ nextQ3 ((t4.1 ++ ([(⟨x, x4⟩ : TPoint)] : List TPoint)), IntKind.i64.wrap (t4.2 + 1)))
   (AppOk 16 (t4.1 ++ ([(⟨x, 0⟩ : TPoint)] : List TPoint)).length ∧ nextQ3 ((t4.1 ++ ([(⟨x, 0⟩ : TPoint)] : List TPoint)), IntKind.i64.wrap (t4.2 + 1))))
   (poly_Fit.C p t4.1 (fun (x5 : (List Nat)) =>
  LoopQ (τ := Int × List (List Nat)) (0, t3.2) fun t5 nextQ4 =>
  cond (decide (t5.1 < ((x5.length : Nat) : Int))) (0 ≤ t5.1 ∧ t5.1 < ((x5.length : Nat) : Int) ∧ ∃ x6 : Nat, x5[Int.toNat t5.1]? = some x6 ∧ 0 ≤ t5.1 ∧ t5.1 < ((Int.toNat (IntKind.i64.wrap (t + 1)) : Nat) : Int) ∧ ∃ x7 : (List Nat), t5.2[Int.toNat t5.1]? = some x7 ∧ 0 ≤ t3.1 ∧ t3.1 < ((x7.length : Nat) : Int) ∧ nextQ4 (IntKind.i64.wrap (t5.1 + 1), (List.set t5.2 (Int.toNat t5.1) (List.set x7 (Int.toNat t3.1) x6))))
   (nextQ2 (IntKind.i64.wrap (t3.1 + 1), t5.2)))))
   (K t3.2))
theorem pair_Glue.q {p : Nat} {t : Int} {xs : (List Nat)} {l : (List (List Nat))} {K : (List (List Nat)) → Prop} (q : pair_Glue.Q p t xs l K) : pair_Glue.C p t xs l K := by
  intro Z H pv he xsA xsn xsc hn f lA ln lc hn2 f2 KK hk
  cases he
  cases hn
  cases hn2
  apply pair_Glue.ok
  unfold pair_Glue.W
  unfold pair_Glue.Q at q
  obtain ⟨σ, hz, hσ⟩ := tags Z
  have hs : Stp ([1, 2, 3, 4, 5, 6] : List Nat) σ H σ H := Stp.refl _ _ _
  replace f := f.wide hz
  replace f2 := f2.wide hz
  clear hz
  obtain ⟨q2, q⟩ := q
  refine ⟨q2.1, Int.le_refl _, q2.w1, q2.w2, NewH.mk fun H_ e => ?_⟩
  obtain ⟨xσ, st, f3⟩ := SlO.made (O := (slM (rdM u64L) 22)) σ 1 e (slM_zero _ _) q2.len
  replace f := f.step st
  replace f2 := f2.step st
  replace hs := hs.trans st
  refine LoopI.ofQ q (fun t_ s_ hp_ => ∃ (σ_ : Nat → Nat), Stp [1, 2] xσ H_ σ_ hp_ ∧ t_.1 = s_ ∧ t_.2.length = (List.replicate (Int.toNat (IntKind.i64.wrap (t + 1))) []).length ∧ SlO (slM (rdM u64L) 22) 30 (Zt σ_) (Yt σ_ 1) hp_ (some (Addr.mk H.size 0 none)) (Int.toNat (IntKind.i64.wrap (t + 1))) t_.2) (fun h k => h _ _ k) ⟨_, Stp.refl _ _ _, rfl, rfl, f3⟩ ?_
  rintro t2 _ _ H_2 next nextQ ⟨xσ2, st2, rfl, hl, f3⟩ q hnext
  try dsimp only at q ⊢
  replace f := f.step st2
  replace f2 := f2.step st2
  replace hs := hs.trans st2
  have sl9 := st2
  refine condI (fun q => ?_) (fun q => ?_) q
  · obtain ⟨q3, q⟩ := q
    refine ⟨q3.1, Int.le_refl _, q3.w1, q3.w2, NewH.mk fun H_3 e2 => ?_⟩
    obtain ⟨xσ3, st3, f4⟩ := SlO.made (O := (rdM u64L)) xσ2 2 e2 (u64_zero) q3.len
    replace f := f.step st3
    replace f2 := f2.step st3
    replace f3 := f3.step st3
    replace hs := hs.trans st3
    replace sl9 := sl9.trans st3
    obtain ⟨h0, hi2, q⟩ := q
    obtain ⟨a, ha, hi⟩ := f3.addr h0 ((rl_len _ _).trans hl.symm) hi2
    refine ⟨a, ha, hi.1, hi.2, ?_⟩
    have w := SlO.put f3 ha h0 (lt_of_n ((rl_len _ _).trans hl.symm) hi2) (rl_len _ _) f4
    refine ⟨w.1, NewH.mk fun H_4 e3 => ?_⟩
    obtain ⟨xσ4, st4, f3⟩ := w.2 H_4 e3
    replace f := f.step st4
    replace f2 := f2.step st4
    replace hs := hs.trans st4
    replace sl9 := sl9.trans st4
    exact hnext (IntKind.i64.wrap (t2.1 + 1), (List.set t2.2 (Int.toNat t2.1) (List.replicate (Int.toNat (IntKind.i64.wrap (t + 1))) 0))) _ _ ⟨_, sl9, rfl, (set_back ((rl_len _ _).trans hl.symm) (set_len ((rl_len _ _).trans hl.symm)) hl), f3⟩ q
  · refine LoopI.ofQ q (fun t_ s_ hp_ => ∃ (σ_ : Nat → Nat), Stp [1, 3, 4, 5, 6] xσ2 H_2 σ_ hp_ ∧ t_.1 = s_ ∧ t_.2.length = t2.2.length ∧ SlO (slM (rdM u64L) 22) 30 (Zt σ_) (Yt σ_ 1) hp_ (some (Addr.mk H.size 0 none)) (Int.toNat (IntKind.i64.wrap (t + 1))) t_.2) (fun h k => h _ _ k) ⟨_, Stp.refl _ _ _, rfl, rfl, f3⟩ ?_
    rintro t3 _ _ H_5 next2 nextQ2 ⟨xσ5, st5, rfl, hl2, f3⟩ q hnext2
    try dsimp only at q ⊢
    replace f := f.step st5
    replace f2 := f2.step st5
    replace hs := hs.trans st5
    have sl14 := st5
    refine condI (fun q => ?_) (fun q => ?_) q
    · obtain ⟨q4, q5, q⟩ := q
      have f5 := f.upto (u := Int.toNat (IntKind.i64.wrap (t + 1))) (upto_le rfl q5)
      refine ⟨q4, cap_le rfl f.cap q5, ?_⟩
      have f6 := SlO.nil (rdM TPoint.L) 103 (Zt xσ5) (Yt xσ5 3) H_5
      refine LoopI.ofQ q (fun t_ s_ hp_ => ∃ (σ_ : Nat → Nat) (A0_ : Option Addr) (n0_ c0_ : Nat), Stp [3, 4, 5] xσ5 H_5 σ_ hp_ ∧ ((A0_, n0_, c0_), t_.2) = s_ ∧ n0_ = t_.1.length ∧ SlO (rdM TPoint.L) 103 (Zt σ_) (Yt σ_ 3) hp_ A0_ c0_ t_.1) (fun h k => h _ _ k) ⟨_, _, _, _, Stp.refl _ _ _, rfl, rfl, f6⟩ ?_
      rintro t4 _ _ H_6 next3 nextQ3 ⟨xσ6, A, n, c, st6, rfl, rfl, f7⟩ q hnext3
      try dsimp only at q ⊢
      replace f := f.step st6
      replace f2 := f2.step st6
      replace f3 := f3.step st6
      replace f5 := f5.step st6
      replace hs := hs.trans st6
      replace sl14 := sl14.trans st6
      have sl15 := st6
      refine condI (fun q => ?_) (fun q => ?_) q
      · obtain ⟨h02, x, hx, q⟩ := q
        obtain ⟨a2, ha2, hi3⟩ := f5.addr h02 hx (take_len rfl q5)
        refine ⟨a2, ha2, hi3.1, hi3.2, ?_⟩
        have hc := f5.ldu ha2 h02 hx
        refine ⟨_, hc.val, ?_⟩
        obtain ⟨h03, x2, hx2, q⟩ := q
        obtain ⟨a3, ha3, hi4⟩ := f2.addr h03 hx2 rfl
        refine ⟨a3, ha3, hi4.1, hi4.2, ?_⟩
        obtain ⟨A2, c2, hc2, f8⟩ := f2.lds ha3 h03 hx2
        refine ⟨_, _, _, hc2.val, ?_⟩
        refine condI (fun q => ?_) (fun q => ?_) q
        · obtain ⟨h04, x3, hx3, q⟩ := q
          obtain ⟨a4, ha4, hi5⟩ := f2.addr h04 hx3 rfl
          refine ⟨a4, ha4, hi5.1, hi5.2, ?_⟩
          obtain ⟨A3, c3, hc3, f9⟩ := f2.lds ha4 h04 hx3
          refine ⟨_, _, _, hc3.val, ?_⟩
          obtain ⟨h05, x4, hx4, q⟩ := q
          obtain ⟨a5, ha5, hi6⟩ := f9.addr h05 hx4 rfl
          refine ⟨a5, ha5, hi6.1, hi6.2, ?_⟩
          have hc4 := f9.ldu ha5 h05 hx4
          refine ⟨_, hc4.val, ?_⟩
          refine NewH.mk fun H_7 e4 => ?_
          obtain ⟨xσ7, st7, f10⟩ := SlO.lit (E := TPoint.L) xσ6 4 (xs := [(⟨x, x4⟩ : TPoint)]) (l := [[_, _]]) e4 rfl (.cons rfl .nil) (show (1 : Nat) ≤ 17592186044416 by decide)
          replace f := f.step st7
          replace f2 := f2.step st7
          replace f3 := f3.step st7
          replace f5 := f5.step st7
          replace f7 := f7.step st7
          replace hc := hc.step st7
          replace hc2 := hc2.step st7
          replace f8 := f8.step st7
          replace hc3 := hc3.step st7
          replace f9 := f9.step st7
          replace hc4 := hc4.step st7
          replace hs := hs.trans st7
          replace sl14 := sl14.trans st7
          replace sl15 := sl15.trans st7
          obtain ⟨xσ9, st9, f10⟩ := SlO.freeze f10
          replace f := f.step st9
          replace f2 := f2.step st9
          replace f3 := f3.step st9
          replace f5 := f5.step st9
          replace f7 := f7.step st9
          replace hc := hc.step st9
          replace hc2 := hc2.step st9
          replace f8 := f8.step st9
          replace hc3 := hc3.step st9
          replace f9 := f9.step st9
          replace hc4 := hc4.step st9
          replace hs := hs.trans st9
          replace sl14 := sl14.trans st9
          replace sl15 := sl15.trans st9
          obtain ⟨q6, q⟩ := q
          refine SlO.appF f7 f10 rfl rfl q6.l q6.r rfl rfl (fun A4 c4 H_8 xσ8 st8 f7_ => ?_)
          replace f7 := f7_
          replace f := f.step st8
          replace f2 := f2.step st8
          replace f3 := f3.step st8
          replace f5 := f5.step st8
          replace hc := hc.step st8
          replace hc2 := hc2.step st8
          replace f8 := f8.step st8
          replace hc3 := hc3.step st8
          replace f9 := f9.step st8
          replace hc4 := hc4.step st8
          replace f10 := f10.step st8
          replace hs := hs.trans st8
          replace sl14 := sl14.trans st8
          replace sl15 := sl15.trans st8
          have f11 := f7; clear f7
          exact hnext3 ((t4.1 ++ ([(⟨x, x4⟩ : TPoint)] : List TPoint)), IntKind.i64.wrap (t4.2 + 1)) _ _ ⟨_, _, _, _, sl15, rfl, rfl, f11⟩ q
        · refine NewH.mk fun H_9 e5 => ?_
          obtain ⟨xσ10, st10, f12⟩ := SlO.lit (E := TPoint.L) xσ6 5 (xs := [(⟨x, 0⟩ : TPoint)]) (l := [[_, _]]) e5 rfl (.cons rfl .nil) (show (1 : Nat) ≤ 17592186044416 by decide)
          replace f := f.step st10
          replace f2 := f2.step st10
          replace f3 := f3.step st10
          replace f5 := f5.step st10
          replace f7 := f7.step st10
          replace hc := hc.step st10
          replace hc2 := hc2.step st10
          replace f8 := f8.step st10
          replace hs := hs.trans st10
          replace sl14 := sl14.trans st10
          replace sl15 := sl15.trans st10
          obtain ⟨xσ12, st12, f12⟩ := SlO.freeze f12
          replace f := f.step st12
          replace f2 := f2.step st12
          replace f3 := f3.step st12
          replace f5 := f5.step st12
          replace f7 := f7.step st12
          replace hc := hc.step st12
          replace hc2 := hc2.step st12
          replace f8 := f8.step st12
          replace hs := hs.trans st12
          replace sl14 := sl14.trans st12
          replace sl15 := sl15.trans st12
          obtain ⟨q7, q⟩ := q
          refine SlO.appF f7 f12 rfl rfl q7.l q7.r rfl rfl (fun A5 c5 H_10 xσ11 st11 f7_ => ?_)
          replace f7 := f7_
          replace f := f.step st11
          replace f2 := f2.step st11
          replace f3 := f3.step st11
          replace f5 := f5.step st11
          replace hc := hc.step st11
          replace hc2 := hc2.step st11
          replace f8 := f8.step st11
          replace f12 := f12.step st11
          replace hs := hs.trans st11
          replace sl14 := sl14.trans st11
          replace sl15 := sl15.trans st11
          have f13 := f7; clear f7
          exact hnext3 ((t4.1 ++ ([(⟨x, 0⟩ : TPoint)] : List TPoint)), IntKind.i64.wrap (t4.2 + 1)) _ _ ⟨_, _, _, _, sl15, rfl, rfl, f13⟩ q
      · refine q (fun i => xσ6 i = 0 ∨ xσ6 i = 3) H_6 _ rfl _ _ _ rfl (f7.read (fun i h => .inl h) (fun i h => .inr (h))) _ (fun Z2 H_11 hE hO x5 Y hY A6 n2 c6 hn3 f14 q => ?_)
        obtain ⟨xσ13, st13, fy⟩ := callB1 hE hO xσ6 6 hY
        replace f14 := (SlO.anyZ (Z' := Zt xσ13) u64_flatL f14).keep (Fr.refl _ _) fy
        cases hn3
        replace f := f.step st13
        replace f2 := f2.step st13
        replace f3 := f3.step st13
        replace f5 := f5.step st13
        replace f7 := f7.step st13
        replace hs := hs.trans st13
        replace sl14 := sl14.trans st13
        refine ⟨_, _, _, rfl, ?_⟩
        refine LoopI.ofQ q (fun t_ s_ hp_ => ∃ (σ_ : Nat → Nat), Stp [1] xσ13 H_11 σ_ hp_ ∧ t_.1 = s_ ∧ t_.2.length = t3.2.length ∧ SlO (slM (rdM u64L) 22) 30 (Zt σ_) (Yt σ_ 1) hp_ (some (Addr.mk H.size 0 none)) (Int.toNat (IntKind.i64.wrap (t + 1))) t_.2) (fun h k => h _ _ k) ⟨_, Stp.refl _ _ _, rfl, rfl, f3⟩ ?_
        rintro t5 _ _ H_12 next4 nextQ4 ⟨xσ14, st14, rfl, hl3, f3⟩ q hnext4
        try dsimp only at q ⊢
        replace f := f.step st14
        replace f2 := f2.step st14
        replace f5 := f5.step st14
        replace f7 := f7.step st14
        replace f14 := f14.step st14
        replace hs := hs.trans st14
        replace sl14 := sl14.trans st14
        have sl17 := st14
        refine condI (fun q => ?_) (fun q => ?_) q
        · obtain ⟨h06, hi8, q⟩ := q
          obtain ⟨a6, ha6, hi7⟩ := f14.addr h06 rfl hi8
          refine ⟨a6, ha6, hi7.1, hi7.2, ?_⟩
          obtain ⟨x6, hx5, q⟩ := q
          have hc5 := f14.ldu ha6 h06 hx5
          refine ⟨_, hc5.val, ?_⟩
          obtain ⟨h07, hi10, q⟩ := q
          obtain ⟨a7, ha7, hi9⟩ := f3.addr h07 ((((rl_len _ _).trans hl.symm).trans hl2.symm).trans hl3.symm) hi10
          refine ⟨a7, ha7, hi9.1, hi9.2, ?_⟩
          obtain ⟨x7, hx6, q⟩ := q
          obtain ⟨A7, c7, Y2, hc6, hY2, f15, bk⟩ := f3.row ha7 h07 hx6
          have g := SlO.rowF f15 (fun b hb => (hY2 b hb).1)
          refine ⟨_, _, _, hc6.val, ?_⟩
          obtain ⟨h08, hi12, q⟩ := q
          obtain ⟨a8, ha8, hi11⟩ := SlF.addr g h08 (List.getElem?_eq_getElem (idx_lt rfl h08 hi12)) rfl
          refine ⟨a8, ha8, hi11.1, hi11.2, ?_⟩
          have w2 := fun v hr => SlO.set2 (v := v) (y := x6) f3 rfl ha7 h07 hx6 hc6 ha8 h08 (lt_of_n rfl hi12) hr
          refine ⟨(w2 _ rfl).1, NewH.mk fun H_13 e6 => ?_⟩
          obtain ⟨st15, f3, hh⟩ := (w2 _ rfl).2 H_13 e6
          replace hc6 := hh _ _ hc6
          replace f := f.step st15
          replace f2 := f2.step st15
          replace f5 := f5.step st15
          replace f7 := f7.step st15
          replace f14 := f14.step st15
          replace hc5 := hc5.step st15
          replace hs := hs.trans st15
          replace sl14 := sl14.trans st15
          replace sl17 := sl17.trans st15
          exact hnext4 (IntKind.i64.wrap (t5.1 + 1), (List.set t5.2 (Int.toNat t5.1) (List.set x7 (Int.toNat t3.1) x6))) _ _ ⟨_, sl17, rfl, (set_back ((((rl_len _ _).trans hl.symm).trans hl2.symm).trans hl3.symm) (set_len ((((rl_len _ _).trans hl.symm).trans hl2.symm).trans hl3.symm)) hl3), f3⟩ q
        · exact hnext2 (IntKind.i64.wrap (t3.1 + 1), t5.2) _ _ ⟨_, sl14, rfl, (set_back (((rl_len _ _).trans hl.symm).trans hl2.symm) ((((rl_len _ _).trans hl.symm).trans hl2.symm).trans hl3.symm) hl2), f3⟩ q
    · exact hk (Zt xσ5) _ (hs.ext hσ) (hs.old hσ) _ (Yt xσ5 1) (hs.fresh hσ) _ _ _ (((rl_len _ _).trans hl.symm).trans hl2.symm) f3 q
def pair_Join.C (p : Nat) (t : Int) (xs : (List Nat)) (l : (List (List Nat))) (K : (List (List Nat)) → Int → Prop) : Prop :=
  ∀ (Z : Nat → Prop) (H : Heap), ∀ (pv : Int), pv = (p : Int) → ∀ (xsA : Option Addr) (xsn xsc : Nat), xsn = xs.length → SlF u64L Z H xsA xsc xs → ∀ (lA : Option Addr) (ln lc : Nat), ln = l.length → SlF (slL u64L) Z H lA lc l → ∀ KK : Value → Heap → Prop,
    (∀ (Z' : Nat → Prop) (H' : Heap), Ext H H' → Old Z H Z' → ∀ (r0 : (List (List Nat))), ∀ (Ar0_0 : Option Addr) (nr0_0 cr0_0 : Nat), nr0_0 = r0.length → SlF (slL u64L) Z' H' Ar0_0 cr0_0 r0 → ∀ (r1 : Int), K r0 r1 → KK (.tuple #[.slice Ar0_0 nr0_0 cr0_0, .int .i64 r1]) H') →
    CallH P N.pair_Join [.int .u64 pv, .int .i64 t, .slice xsA xsn xsc, .slice lA ln lc] H KK
def pair_Join.Q (p : Nat) (t : Int) (xs : (List Nat)) (l : (List (List Nat))) (K : (List (List Nat)) → Int → Prop) : Prop :=
  pair_ground.C p t (fun (x : Int) =>
  cond (x != 0) (K ([]) x)
   (pair_rows.C p xs l (fun (x2 : Int) =>
  cond (x2 != 0) (K ([]) x2)
   (cond (decide (((xs.length : Nat) : Int) < (IntKind.i64.wrap (t + 1)))) (K ([]) 11)
   (pair_Glue.C p t xs l (fun (x3 : (List (List Nat))) =>
  pair_Check.C p t x3 (fun (x4 : Int) =>
  cond (x4 != 0) (K ([]) 12)
   (LoopQ (τ := Int) 0 fun t2 nextQ =>
  cond (decide (t2 < ((xs.length : Nat) : Int))) (0 ≤ t2 ∧ ∃ x5 : Nat, xs[Int.toNat t2]? = some x5 ∧ 0 ≤ t2 ∧ ∃ x6 : (List Nat), l[Int.toNat t2]? = some x6 ∧ pair_RowOf.C p x3 x5 (fun (x7 : (List Nat)) =>
  poly_Short.C x6 (fun (x8 : (List Nat)) =>
  slices_Equal_uint64uint64.C x7 x8 (fun (x9 : Bool) =>
  cond (!x9) (K ([]) 12)
   (nextQ (IntKind.i64.wrap (t2 + 1)))))))
   (K x3 0)))))))))
theorem pair_Join.q {p : Nat} {t : Int} {xs : (List Nat)} {l : (List (List Nat))} {K : (List (List Nat)) → Int → Prop} (q : pair_Join.Q p t xs l K) : pair_Join.C p t xs l K := by
  intro Z H pv he xsA xsn xsc hn f lA ln lc hn2 f2 KK hk
  cases he
  cases hn
  cases hn2
  apply pair_Join.ok
  unfold pair_Join.W
  unfold pair_Join.Q at q
  obtain ⟨σ, hz, hσ⟩ := tags Z
  have hs : Stp ([1, 2, 3] : List Nat) σ H σ H := Stp.refl _ _ _
  replace f := f.wide hz
  replace f2 := f2.wide hz
  clear hz
  refine q (Zt σ) H _ rfl _ (fun Z2 H_ hE hO x q => ?_)
  obtain ⟨xσ, st⟩ := call0 hE σ
  replace f := f.step st
  replace f2 := f2.step st
  replace hs := hs.trans st
  refine ⟨_, rfl, ?_⟩
  refine condI (fun q => ?_) (fun q => ?_) q
  · exact hk (Zt xσ) _ (hs.ext hσ) (hs.old hσ) _ _ _ _ rfl (SlF.nil _ _ _ _ _) _ q
  · refine q (Zt xσ) H_ _ rfl _ _ _ rfl f _ _ _ rfl f2 _ (fun Z3 H_2 hE2 hO2 x2 q => ?_)
    obtain ⟨xσ2, st2⟩ := call0 hE2 xσ
    replace f := f.step st2
    replace f2 := f2.step st2
    replace hs := hs.trans st2
    refine ⟨_, rfl, ?_⟩
    refine condI (fun q => ?_) (fun q => ?_) q
    · exact hk (Zt xσ2) _ (hs.ext hσ) (hs.old hσ) _ _ _ _ rfl (SlF.nil _ _ _ _ _) _ q
    · refine condI (fun q => ?_) (fun q => ?_) q
      · exact hk (Zt xσ2) _ (hs.ext hσ) (hs.old hσ) _ _ _ _ rfl (SlF.nil _ _ _ _ _) _ q
      · refine q (Zt xσ2) H_2 _ rfl _ _ _ rfl f _ _ _ rfl f2 _ (fun Z4 H_3 hE3 hO3 x3 Y hY A n c hn3 f3 q => ?_)
        obtain ⟨xσ3, st3, fz3, fy⟩ := call1 hE3 hO3 xσ2 1 (fun _ h => h) hY
        replace f3 := f3.keep fz3 fy
        cases hn3
        replace f := f.step st3
        replace f2 := f2.step st3
        replace hs := hs.trans st3
        refine ⟨_, _, _, rfl, ?_⟩
        refine q (fun i => xσ3 i = 0 ∨ xσ3 i = 1) H_3 _ rfl _ _ _ rfl (f3.read (fun i h => .inl h) (fun i h => .inr (h))) _ (fun Z5 H_4 hE4 hO4 x4 q => ?_)
        obtain ⟨xσ4, st4⟩ := call0 hE4 xσ3
        replace f := f.step st4
        replace f2 := f2.step st4
        replace f3 := f3.step st4
        replace hs := hs.trans st4
        refine ⟨_, rfl, ?_⟩
        refine condI (fun q => ?_) (fun q => ?_) q
        · exact hk (Zt xσ4) _ (hs.ext hσ) (hs.old hσ) _ _ _ _ rfl (SlF.nil _ _ _ _ _) _ q
        · refine LoopI.ofQ q (fun t_ s_ hp_ => ∃ (σ_ : Nat → Nat), Stp [2, 3] xσ4 H_4 σ_ hp_ ∧ t_ = s_) (fun h k => h _ _ k) ⟨_, Stp.refl _ _ _, rfl⟩ ?_
          rintro t2 _ _ H_5 next nextQ ⟨xσ5, st5, rfl⟩ q hnext
          try dsimp only at q ⊢
          replace f := f.step st5
          replace f2 := f2.step st5
          replace f3 := f3.step st5
          replace hs := hs.trans st5
          have sl0 := st5
          refine condI (fun q => ?_) (fun q => ?_) q
          · obtain ⟨h0, x5, hx, q⟩ := q
            obtain ⟨a, ha, hi⟩ := f.addr h0 hx rfl
            refine ⟨a, ha, hi.1, hi.2, ?_⟩
            have hc := f.ldu ha h0 hx
            refine ⟨_, hc.val, ?_⟩
            obtain ⟨h02, x6, hx2, q⟩ := q
            obtain ⟨a2, ha2, hi2⟩ := f2.addr h02 hx2 rfl
            refine ⟨a2, ha2, hi2.1, hi2.2, ?_⟩
            obtain ⟨A2, c2, hc2, f4⟩ := f2.lds ha2 h02 hx2
            refine ⟨_, _, _, hc2.val, ?_⟩
            refine q (fun i => xσ5 i = 0 ∨ xσ5 i = 1) H_5 _ rfl _ _ _ rfl (f3.read (fun i h => .inl h) (fun i h => .inr (h))) _ rfl _ (fun Z6 H_6 hE5 hO5 x7 Y2 hY2 A3 n2 c3 hn4 f5 q => ?_)
            obtain ⟨xσ6, st6, fy2⟩ := callB1 hE5 hO5 xσ5 2 hY2
            replace f5 := (SlO.anyZ (Z' := Zt xσ6) u64_flatL f5).keep (Fr.refl _ _) fy2
            cases hn4
            replace f := f.step st6
            replace f2 := f2.step st6
            replace f3 := f3.step st6
            replace hc := hc.step st6
            replace hc2 := hc2.step st6
            replace f4 := f4.step st6
            replace hs := hs.trans st6
            replace sl0 := sl0.trans st6
            refine ⟨_, _, _, rfl, ?_⟩
            refine ⟨hc2.val, ?_⟩
            refine q (Zt xσ6) H_6 _ _ _ rfl f4 _ (fun Z7 H_7 hE6 hO6 x8 Y3 hY3 A4 n3 c4 hn5 f6 q => ?_)
            obtain ⟨xσ7, st7, fz6, fy3⟩ := call1 hE6 hO6 xσ6 3 (fun _ h => h) hY3
            replace f6 := f6.keep fz6 fy3
            cases hn5
            replace f := f.step st7
            replace f2 := f2.step st7
            replace f3 := f3.step st7
            replace hc := hc.step st7
            replace hc2 := hc2.step st7
            replace f4 := f4.step st7
            replace f5 := f5.step st7
            replace hs := hs.trans st7
            replace sl0 := sl0.trans st7
            refine ⟨_, _, _, rfl, ?_⟩
            refine q (fun i => xσ7 i = 0 ∨ xσ7 i = 2 ∨ xσ7 i = 3) H_7 _ _ _ rfl (f5.read (fun i h => .inl h) (fun i h => .inr (.inl h))) _ _ _ rfl (f6.read (fun i h => .inl h) (fun i h => .inr (.inr (h)))) _ (fun Z8 H_8 hE7 hO7 x9 q => ?_)
            obtain ⟨xσ8, st8⟩ := call0 hE7 xσ7
            replace f := f.step st8
            replace f2 := f2.step st8
            replace f3 := f3.step st8
            replace hc := hc.step st8
            replace hc2 := hc2.step st8
            replace f4 := f4.step st8
            replace f5 := f5.step st8
            replace f6 := f6.step st8
            replace hs := hs.trans st8
            replace sl0 := sl0.trans st8
            refine ⟨_, rfl, ?_⟩
            refine condI (fun q => ?_) (fun q => ?_) q
            · exact hk (Zt xσ8) _ (hs.ext hσ) (hs.old hσ) _ _ _ _ rfl (SlF.nil _ _ _ _ _) _ q
            · exact hnext (IntKind.i64.wrap (t2 + 1)) _ _ ⟨_, sl0, rfl⟩ q
          · obtain ⟨xσ9, st9, f3⟩ := SlO.freeze f3
            replace f := f.step st9
            replace f2 := f2.step st9
            replace hs := hs.trans st9
            exact hk (Zt xσ9) _ (hs.ext hσ) (hs.old hσ) _ _ _ _ rfl f3 _ q
def pair_Quarrels.C (p : Nat) (xs : (List Nat)) (l : (List (List Nat))) (K : (List (Int × Int)) → Int → Prop) : Prop :=
  ∀ (Z : Nat → Prop) (H : Heap), ∀ (pv : Int), pv = (p : Int) → ∀ (xsA : Option Addr) (xsn xsc : Nat), xsn = xs.length → SlF u64L Z H xsA xsc xs → ∀ (lA : Option Addr) (ln lc : Nat), ln = l.length → SlF (slL u64L) Z H lA lc l → ∀ KK : Value → Heap → Prop,
    (∀ (Z' : Nat → Prop) (H' : Heap), Ext H H' → Old Z H Z' → ∀ (r0 : (List (Int × Int))), ∀ (Y0 : Nat → Prop), (∀ i, Y0 i → H.size ≤ i ∧ ¬ Z' i) → ∀ (Ar0_0 : Option Addr) (nr0_0 cr0_0 : Nat), nr0_0 = r0.length → SlO (rdM Arr2_3.L) 81 Z' Y0 H' Ar0_0 cr0_0 r0 → ∀ (r1 : Int), K r0 r1 → KK (.tuple #[.slice Ar0_0 nr0_0 cr0_0, .int .i64 r1]) H') →
    CallH P N.pair_Quarrels [.int .u64 pv, .slice xsA xsn xsc, .slice lA ln lc] H KK
def pair_Quarrels.Q (p : Nat) (xs : (List Nat)) (l : (List (List Nat))) (K : (List (Int × Int)) → Int → Prop) : Prop :=
  field_Is.C p (fun (x : Bool) =>
  cond (!x) (K ([]) 2)
   (pair_rows.C p xs l (fun (x2 : Int) =>
  cond (x2 != 0) (K ([]) x2)
   (LoopQ (τ := List (Int × Int) × Int) (([] : List (Int × Int)), 0) fun t nextQ =>
  cond (decide (t.2 < ((xs.length : Nat) : Int))) (LoopQ (τ := List (Int × Int) × Int) (t.1, 0) fun t2 nextQ2 =>
  cond (decide (t2.2 < t.2)) (0 ≤ t2.2 ∧ ∃ x3 : (List Nat), l[Int.toNat t2.2]? = some x3 ∧ 0 ≤ t.2 ∧ ∃ x4 : Nat, xs[Int.toNat t.2]? = some x4 ∧ 0 ≤ t.2 ∧ ∃ x5 : (List Nat), l[Int.toNat t.2]? = some x5 ∧ 0 ≤ t2.2 ∧ ∃ x6 : Nat, xs[Int.toNat t2.2]? = some x6 ∧ poly_At.C p x3 x4 (fun (x7 : Nat) =>
  poly_At.C p x5 x6 (fun (x8 : Nat) =>
  cond ((x7 : Int) != (x8 : Int)) (AppOk 16 (t2.1 ++ ([(t2.2, t.2)] : List (Int × Int))).length ∧ nextQ2 ((t2.1 ++ ([(t2.2, t.2)] : List (Int × Int))), IntKind.i64.wrap (t2.2 + 1)))
   (nextQ2 (t2.1, IntKind.i64.wrap (t2.2 + 1))))))
   (nextQ (t2.1, IntKind.i64.wrap (t.2 + 1))))
   (slices_SortFunc_2int2int.C t.1 (fun (o : List (Int × Int)) =>
  K o 0))))))
theorem pair_Quarrels.q {p : Nat} {xs : (List Nat)} {l : (List (List Nat))} {K : (List (Int × Int)) → Int → Prop} (q : pair_Quarrels.Q p xs l K) : pair_Quarrels.C p xs l K := by
  intro Z H pv he xsA xsn xsc hn f lA ln lc hn2 f2 KK hk
  cases he
  cases hn
  cases hn2
  apply pair_Quarrels.ok
  unfold pair_Quarrels.W
  unfold pair_Quarrels.Q at q
  obtain ⟨σ, hz, hσ⟩ := tags Z
  have hs : Stp ([1, 2] : List Nat) σ H σ H := Stp.refl _ _ _
  replace f := f.wide hz
  replace f2 := f2.wide hz
  clear hz
  refine q (Zt σ) H _ rfl _ (fun Z2 H_ hE hO x q => ?_)
  obtain ⟨xσ, st⟩ := call0 hE σ
  replace f := f.step st
  replace f2 := f2.step st
  replace hs := hs.trans st
  refine ⟨_, rfl, ?_⟩
  refine condI (fun q => ?_) (fun q => ?_) q
  · exact hk (Zt xσ) _ (hs.ext hσ) (hs.old hσ) _ (fun _ => False) (fun _ h => h.elim) _ _ _ rfl (SlO.nil _ _ _ _ _) _ q
  · refine q (Zt xσ) H_ _ rfl _ _ _ rfl f _ _ _ rfl f2 _ (fun Z3 H_2 hE2 hO2 x2 q => ?_)
    obtain ⟨xσ2, st2⟩ := call0 hE2 xσ
    replace f := f.step st2
    replace f2 := f2.step st2
    replace hs := hs.trans st2
    refine ⟨_, rfl, ?_⟩
    refine condI (fun q => ?_) (fun q => ?_) q
    · exact hk (Zt xσ2) _ (hs.ext hσ) (hs.old hσ) _ (fun _ => False) (fun _ h => h.elim) _ _ _ rfl (SlO.nil _ _ _ _ _) _ q
    · have f3 := SlO.nil (rdM Arr2_3.L) 81 (Zt xσ2) (Yt xσ2 1) H_2
      refine LoopI.ofQ q (fun t_ s_ hp_ => ∃ (σ_ : Nat → Nat) (A0_ : Option Addr) (n0_ c0_ : Nat), Stp [1, 2] xσ2 H_2 σ_ hp_ ∧ ((A0_, n0_, c0_), t_.2) = s_ ∧ n0_ = t_.1.length ∧ SlO (rdM Arr2_3.L) 81 (Zt σ_) (Yt σ_ 1) hp_ A0_ c0_ t_.1) (fun h k => h _ _ k) ⟨_, _, _, _, Stp.refl _ _ _, rfl, rfl, f3⟩ ?_
      rintro t _ _ H_3 next nextQ ⟨xσ3, A, n, c, st3, rfl, rfl, f4⟩ q hnext
      try dsimp only at q ⊢
      replace f := f.step st3
      replace f2 := f2.step st3
      replace hs := hs.trans st3
      have sl0 := st3
      refine condI (fun q => ?_) (fun q => ?_) q
      · refine LoopI.ofQ q (fun t_ s_ hp_ => ∃ (σ_ : Nat → Nat) (A0_ : Option Addr) (n0_ c0_ : Nat), Stp [1, 2] xσ3 H_3 σ_ hp_ ∧ ((A0_, n0_, c0_), t_.2) = s_ ∧ n0_ = t_.1.length ∧ SlO (rdM Arr2_3.L) 81 (Zt σ_) (Yt σ_ 1) hp_ A0_ c0_ t_.1) (fun h k => h _ _ k) ⟨_, _, _, _, Stp.refl _ _ _, rfl, rfl, f4⟩ ?_
        rintro t2 _ _ H_4 next2 nextQ2 ⟨xσ4, A2, n2, c2, st4, rfl, rfl, f5⟩ q hnext2
        try dsimp only at q ⊢
        replace f := f.step st4
        replace f2 := f2.step st4
        replace hs := hs.trans st4
        replace sl0 := sl0.trans st4
        have sl1 := st4
        refine condI (fun q => ?_) (fun q => ?_) q
        · obtain ⟨h0, x3, hx, q⟩ := q
          obtain ⟨a, ha, hi⟩ := f2.addr h0 hx rfl
          refine ⟨a, ha, hi.1, hi.2, ?_⟩
          obtain ⟨h02, x4, hx2, q⟩ := q
          obtain ⟨a2, ha2, hi2⟩ := f.addr h02 hx2 rfl
          refine ⟨a2, ha2, hi2.1, hi2.2, ?_⟩
          obtain ⟨h03, x5, hx3, q⟩ := q
          obtain ⟨a3, ha3, hi3⟩ := f2.addr h03 hx3 rfl
          refine ⟨a3, ha3, hi3.1, hi3.2, ?_⟩
          obtain ⟨h04, x6, hx4, q⟩ := q
          obtain ⟨a4, ha4, hi4⟩ := f.addr h04 hx4 rfl
          refine ⟨a4, ha4, hi4.1, hi4.2, ?_⟩
          obtain ⟨A3, c3, hc, f6⟩ := f2.lds ha h0 hx
          refine ⟨_, _, _, hc.val, ?_⟩
          have hc2 := f.ldu ha2 h02 hx2
          refine ⟨_, hc2.val, ?_⟩
          obtain ⟨A4, c4, hc3, f7⟩ := f2.lds ha3 h03 hx3
          refine ⟨_, _, _, hc3.val, ?_⟩
          have hc4 := f.ldu ha4 h04 hx4
          refine ⟨_, hc4.val, ?_⟩
          refine q (Zt xσ4) H_4 _ rfl _ _ _ rfl f6 _ rfl _ (fun Z4 H_5 hE3 hO3 x7 v he2 q => ?_)
          obtain ⟨xσ5, st5⟩ := call0 hE3 xσ4
          cases he2
          replace f := f.step st5
          replace f2 := f2.step st5
          replace f5 := f5.step st5
          replace hc := hc.step st5
          replace f6 := f6.step st5
          replace hc2 := hc2.step st5
          replace hc3 := hc3.step st5
          replace f7 := f7.step st5
          replace hc4 := hc4.step st5
          replace hs := hs.trans st5
          replace sl0 := sl0.trans st5
          replace sl1 := sl1.trans st5
          refine ⟨_, rfl, ?_⟩
          refine ⟨hc4.val, hc3.val, ?_⟩
          refine q (Zt xσ5) H_5 _ rfl _ _ _ rfl f7 _ rfl _ (fun Z5 H_6 hE4 hO4 x8 v2 he3 q => ?_)
          obtain ⟨xσ6, st6⟩ := call0 hE4 xσ5
          cases he3
          replace f := f.step st6
          replace f2 := f2.step st6
          replace f5 := f5.step st6
          replace hc := hc.step st6
          replace f6 := f6.step st6
          replace hc2 := hc2.step st6
          replace hc3 := hc3.step st6
          replace f7 := f7.step st6
          replace hc4 := hc4.step st6
          replace hs := hs.trans st6
          replace sl0 := sl0.trans st6
          replace sl1 := sl1.trans st6
          refine ⟨_, rfl, ?_⟩
          refine condI (fun q => ?_) (fun q => ?_) q
          · refine NewH.mk fun H_7 e => ?_
            obtain ⟨xσ7, st7, f8⟩ := SlO.lit (E := Arr2_3.L) xσ6 2 (xs := [(t2.2, t.2)]) (l := [[_, _]]) e rfl (.cons rfl .nil) (show (1 : Nat) ≤ 17592186044416 by decide)
            replace f := f.step st7
            replace f2 := f2.step st7
            replace f5 := f5.step st7
            replace hc := hc.step st7
            replace f6 := f6.step st7
            replace hc2 := hc2.step st7
            replace hc3 := hc3.step st7
            replace f7 := f7.step st7
            replace hc4 := hc4.step st7
            replace hs := hs.trans st7
            replace sl0 := sl0.trans st7
            replace sl1 := sl1.trans st7
            obtain ⟨xσ9, st9, f8⟩ := SlO.freeze f8
            replace f := f.step st9
            replace f2 := f2.step st9
            replace f5 := f5.step st9
            replace hc := hc.step st9
            replace f6 := f6.step st9
            replace hc2 := hc2.step st9
            replace hc3 := hc3.step st9
            replace f7 := f7.step st9
            replace hc4 := hc4.step st9
            replace hs := hs.trans st9
            replace sl0 := sl0.trans st9
            replace sl1 := sl1.trans st9
            obtain ⟨q2, q⟩ := q
            refine SlO.appF f5 f8 rfl rfl q2.l q2.r rfl rfl (fun A5 c5 H_8 xσ8 st8 f5_ => ?_)
            replace f5 := f5_
            replace f := f.step st8
            replace f2 := f2.step st8
            replace hc := hc.step st8
            replace f6 := f6.step st8
            replace hc2 := hc2.step st8
            replace hc3 := hc3.step st8
            replace f7 := f7.step st8
            replace hc4 := hc4.step st8
            replace f8 := f8.step st8
            replace hs := hs.trans st8
            replace sl0 := sl0.trans st8
            replace sl1 := sl1.trans st8
            have f9 := f5; clear f5
            exact hnext2 ((t2.1 ++ ([(t2.2, t.2)] : List (Int × Int))), IntKind.i64.wrap (t2.2 + 1)) _ _ ⟨_, _, _, _, sl1, rfl, rfl, f9⟩ q
          · exact hnext2 (t2.1, IntKind.i64.wrap (t2.2 + 1)) _ _ ⟨_, _, _, _, sl1, rfl, rfl, f5⟩ q
        · exact hnext (t2.1, IntKind.i64.wrap (t.2 + 1)) _ _ ⟨_, _, _, _, sl0, rfl, rfl, f5⟩ q
      · refine q (Zt xσ3) (ren [1] xσ3) H_3 (ren_z _ _) _ _ _ rfl (SlO.keep f4 (Fr.refl _ _) (Fr.wide (ren_y (js := [1]) (j := 1) (m := 1) (by decide) (by decide)) _)) _ (fun Z6 xτ H_9 hT hO5 hd o hl f10 q => ?_)
        obtain ⟨xσ10, st10, fz5, fy⟩ := callT hT hO5 hd [1]
        replace f10 := SlO.keep f10 fz5 (Fr.wide (fy 0 1 rfl) _)
        replace f := f.step st10
        replace f2 := f2.step st10
        replace hs := hs.trans st10
        refine ⟨rfl, ?_⟩
        exact hk (Zt xσ10) _ (hs.ext hσ) (hs.old hσ) _ (Yt xσ10 1) (hs.fresh hσ) _ _ _ ((rfl : _ = _).trans hl.symm) f10 _ q
end Go.Proofs.Ytlhcaangdenoaaa.Sh
