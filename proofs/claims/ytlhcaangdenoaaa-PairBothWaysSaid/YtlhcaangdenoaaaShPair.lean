import Derived.Test.YtlhcaangdenoaaaShBase
set_option linter.unusedVariables false
set_option maxRecDepth 100000
namespace Go.Proofs.Ytlhcaangdenoaaa.Sh
open Go.Sx

/-! pair_Check -/
def pair_Check.A : Ann where
  loops := fun i => match i with
    | 28684 => [(33, .int .i64)]
    | 57366 => [(46, .int .i64)]
    | 69653 => [(53, .int .i64)]
    | _ => []
  plans := fun i => match i with
    | _ => .stop
def pair_Check.W (p : Int) (t : Int) (fA : Option Addr) (fn fc : Nat) (H : Heap) (R : Value → Heap → Prop) : Prop :=
  NewH (H.push (.cells #[.int .i64 t] 3 (0, 0))) fun H_ =>
  ∃ x : Int, cellH H_ (Addr.mk H.size 0 none) = some (.int .i64 x) ∧ CallH P N.pair_ground [.int .u64 p, .int .i64 x] H_ fun v H_2 =>
  ∃ r : Int, v = .int .i64 r ∧ cond (r != 0) (R (.int .i64 r) H_2)
   (∃ x2 : Int, cellH H_2 (Addr.mk H.size 0 none) = some (.int .i64 x2) ∧ cond (((fn : Nat) : Int) != (IntKind.i64.wrap (x2 + 1))) (R (.int .i64 4) H_2) (CallH P N.slices_ContainsFunc_uint64uint64 [.slice fA fn fc, .func (.func 78) #[] #[.pointer (some (Addr.mk H.size 0 none))]] H_2 fun v2 H_3 =>
  ∃ r2 : Bool, v2 = .bool r2 ∧ cond r2 (R (.int .i64 4) H_3)
   (LoopI (σ := Int) (fun κ => κ 0 H_3) fun s z H_4 next =>
  cond (decide (s < ((fn : Nat) : Int))) (∃ a : Addr, fA = some a ∧ 0 ≤ s ∧ s < ((fn : Nat) : Int) ∧ ∃ (xA : Option Addr) (xn xc : Nat), cellH H_4 (a.add (Int.toNat s)) = some (.slice xA xn xc) ∧ CallH P N.field_Below [.int .u64 p, .slice xA xn xc] H_4 fun v3 H_5 =>
  ∃ r3 : Int, v3 = .int .i64 r3 ∧ cond (r3 != 0) (R (.int .i64 r3) H_5)
   (next (IntKind.i64.wrap (s + 1)) H_5))
   (LoopI (σ := Int) (fun κ => κ 0 H_4) fun s2 z2 H_6 next2 =>
  cond (decide (s2 < ((fn : Nat) : Int))) (∃ a2 : Addr, fA = some a2 ∧ 0 ≤ s2 ∧ s2 < ((fn : Nat) : Int) ∧ ∃ (xA2 : Option Addr) (xn2 xc2 : Nat), cellH H_6 (a2.add (Int.toNat s2)) = some (.slice xA2 xn2 xc2) ∧ LoopI (σ := Int) (fun κ => κ 0 H_6) fun s3 z3 H_7 next3 =>
  cond (decide (s3 < ((xn2 : Nat) : Int))) (∃ a3 : Addr, xA2 = some a3 ∧ 0 ≤ s3 ∧ s3 < ((xn2 : Nat) : Int) ∧ ∃ x3 : Int, cellH H_7 (a3.add (Int.toNat s3)) = some (.int .u64 x3) ∧ ∃ a4 : Addr, fA = some a4 ∧ 0 ≤ s3 ∧ s3 < ((fn : Nat) : Int) ∧ ∃ (xA3 : Option Addr) (xn3 xc3 : Nat), cellH H_7 (a4.add (Int.toNat s3)) = some (.slice xA3 xn3 xc3) ∧ ∃ a5 : Addr, xA3 = some a5 ∧ 0 ≤ s2 ∧ s2 < ((xn3 : Nat) : Int) ∧ ∃ x4 : Int, cellH H_7 (a5.add (Int.toNat s2)) = some (.int .u64 x4) ∧ cond (x4 != x3) (R (.int .i64 4) H_7)
   (next3 (IntKind.i64.wrap (s3 + 1)) H_7))
   (next2 (IntKind.i64.wrap (s2 + 1)) H_7))
   (R (.int .i64 0) H_6)))))
theorem pair_Check.ok (p : Int) (t : Int) (fA : Option Addr) (fn fc : Nat) (H : Heap) (R : Value → Heap → Prop) (h : pair_Check.W p t fA fn fc H R) : CallH P N.pair_Check ([.int .u64 p, .int .i64 t, .slice fA fn fc] : List Value) H R := by
  have e : pair_Check.W p t fA fn fc H R = sxFn P T Sh.R nf pair_Check.A Try.f24.results.toList (bodyOf Try.f24) (([(.int .u64 p : Value), (.int .i64 t : Value), (.slice fA fn fc : Value)] : List Value) ++ List.replicate (69 - ([(.int .u64 p : Value), (.int .i64 t : Value), (.slice fA fn fc : Value)] : List Value).length) undef) H R := by kernel_rfl
  exact call_of_sx fits bodies mixed Try.func24 (c := bodyOf Try.f24) (by kernel_rfl) Try.ntmps24 pair_Check.A (by kernel_rfl) (e.mp h)

/-! pair_Size -/
def pair_Size.A : Ann where
  loops := fun i => match i with
    | _ => []
  plans := fun i => match i with
    | _ => .stop
def pair_Size.W (t : Int) (H : Heap) (R : Value → Heap → Prop) : Prop :=
  cond (decide (t < 0)) (R (.int .i64 0) H) (cond (decide (t > 3)) (R (.int .i64 0) H)
   ((2 : Int) ≠ 0 ∧ R (.int .i64 (IntKind.i64.wrap ((IntKind.i64.wrap (Int.tdiv (IntKind.i64.wrap ((IntKind.i64.wrap (t + 1)) * (IntKind.i64.wrap (t + 2)))) 2)) - 1))) H))
theorem pair_Size.ok (t : Int) (H : Heap) (R : Value → Heap → Prop) (h : pair_Size.W t H R) : CallH P N.pair_Size ([.int .i64 t] : List Value) H R := by
  have e : pair_Size.W t H R = sxFn P T Sh.R nf pair_Size.A Try.f26.results.toList (bodyOf Try.f26) (([(.int .i64 t : Value)] : List Value) ++ List.replicate (16 - ([(.int .i64 t : Value)] : List Value).length) undef) H R := by kernel_rfl
  exact call_of_sx fits bodies mixed Try.func26 (c := bodyOf Try.f26) (by kernel_rfl) Try.ntmps26 pair_Size.A (by kernel_rfl) (e.mp h)

/-! pair_Make -/
def pair_Make.A : Ann where
  loops := fun i => match i with
    | _ => []
  plans := fun i => match i with
    | _ => .stop
def pair_Make.W (p : Int) (secret : Int) (t : Int) (tapeA : Option Addr) (tapen tapec : Nat) (H : Heap) (R : Value → Heap → Prop) : Prop :=
  CallH P N.pair_ground [.int .u64 p, .int .i64 t] H fun v H_ =>
  ∃ r : Int, v = .int .i64 r ∧ cond (r != 0) (R (.tuple #[.slice none 0 0, .slice none 0 0, .int .i64 r]) H_)
   (cond (decide (secret ≥ p)) (R (.tuple #[.slice none 0 0, .slice none 0 0, .int .i64 2]) H_)
   (CallH P N.pair_Size [.int .i64 t] H_ fun v2 H_2 =>
  ∃ r2 : Int, v2 = .int .i64 r2 ∧ CallH P N.field_Take [.int .u64 p, .slice tapeA tapen tapec, .int .i64 r2] H_2 fun v3 H_3 =>
  ∃ (r0A : Option Addr) (r0n r0c : Nat), ∃ (r1A : Option Addr) (r1n r1c : Nat), v3 = .tuple #[.slice r0A r0n r0c, .slice r1A r1n r1c] ∧ CallH P N.pair_Of [.int .u64 secret, .int .i64 t, .slice r0A r0n r0c] H_3 fun v4 H_4 =>
  ∃ (rA : Option Addr) (rn rc : Nat), v4 = .slice rA rn rc ∧ R (.tuple #[.slice rA rn rc, .slice r1A r1n r1c, .int .i64 0]) H_4))
theorem pair_Make.ok (p : Int) (secret : Int) (t : Int) (tapeA : Option Addr) (tapen tapec : Nat) (H : Heap) (R : Value → Heap → Prop) (h : pair_Make.W p secret t tapeA tapen tapec H R) : CallH P N.pair_Make ([.int .u64 p, .int .u64 secret, .int .i64 t, .slice tapeA tapen tapec] : List Value) H R := by
  have e : pair_Make.W p secret t tapeA tapen tapec H R = sxFn P T Sh.R nf pair_Make.A Try.f29.results.toList (bodyOf Try.f29) (([(.int .u64 p : Value), (.int .u64 secret : Value), (.int .i64 t : Value), (.slice tapeA tapen tapec : Value)] : List Value) ++ List.replicate (36 - ([(.int .u64 p : Value), (.int .u64 secret : Value), (.int .i64 t : Value), (.slice tapeA tapen tapec : Value)] : List Value).length) undef) H R := by kernel_rfl
  exact call_of_sx fits bodies mixed Try.func29 (c := bodyOf Try.f29) (by kernel_rfl) Try.ntmps29 pair_Make.A (by kernel_rfl) (e.mp h)

/-! pair_At -/
def pair_At.A : Ann where
  loops := fun i => match i with
    | _ => []
  plans := fun i => match i with
    | _ => .stop
def pair_At.W (p : Int) (t : Int) (fA : Option Addr) (fn fc : Nat) (x : Int) (y : Int) (H : Heap) (R : Value → Heap → Prop) : Prop :=
  CallH P N.pair_Row [.int .u64 p, .int .i64 t, .slice fA fn fc, .int .u64 x] H fun v H_ =>
  ∃ (r0A : Option Addr) (r0n r0c : Nat), ∃ r1 : Int, v = .tuple #[.slice r0A r0n r0c, .int .i64 r1] ∧ cond (r1 != 0) (R (.tuple #[.int .u64 0, .int .i64 r1]) H_)
   (cond (decide (y ≥ p)) (R (.tuple #[.int .u64 0, .int .i64 2]) H_)
   (CallH P N.poly_At [.int .u64 p, .slice r0A r0n r0c, .int .u64 y] H_ fun v2 H_2 =>
  ∃ r : Int, v2 = .int .u64 r ∧ R (.tuple #[.int .u64 r, .int .i64 0]) H_2))
theorem pair_At.ok (p : Int) (t : Int) (fA : Option Addr) (fn fc : Nat) (x : Int) (y : Int) (H : Heap) (R : Value → Heap → Prop) (h : pair_At.W p t fA fn fc x y H R) : CallH P N.pair_At ([.int .u64 p, .int .i64 t, .slice fA fn fc, .int .u64 x, .int .u64 y] : List Value) H R := by
  have e : pair_At.W p t fA fn fc x y H R = sxFn P T Sh.R nf pair_At.A Try.f34.results.toList (bodyOf Try.f34) (([(.int .u64 p : Value), (.int .i64 t : Value), (.slice fA fn fc : Value), (.int .u64 x : Value), (.int .u64 y : Value)] : List Value) ++ List.replicate (32 - ([(.int .u64 p : Value), (.int .i64 t : Value), (.slice fA fn fc : Value), (.int .u64 x : Value), (.int .u64 y : Value)] : List Value).length) undef) H R := by kernel_rfl
  exact call_of_sx fits bodies mixed Try.func34 (c := bodyOf Try.f34) (by kernel_rfl) Try.ntmps34 pair_At.A (by kernel_rfl) (e.mp h)

/-! pair_Row -/
def pair_Row.A : Ann where
  loops := fun i => match i with
    | _ => []
  plans := fun i => match i with
    | _ => .stop
def pair_Row.W (p : Int) (t : Int) (fA : Option Addr) (fn fc : Nat) (x : Int) (H : Heap) (R : Value → Heap → Prop) : Prop :=
  CallH P N.pair_Check [.int .u64 p, .int .i64 t, .slice fA fn fc] H fun v H_ =>
  ∃ r : Int, v = .int .i64 r ∧ cond (r != 0) (R (.tuple #[.slice none 0 0, .int .i64 r]) H_)
   (cond (decide (x ≥ p)) (R (.tuple #[.slice none 0 0, .int .i64 2]) H_)
   (CallH P N.pair_RowOf [.int .u64 p, .slice fA fn fc, .int .u64 x] H_ fun v2 H_2 =>
  ∃ (rA : Option Addr) (rn rc : Nat), v2 = .slice rA rn rc ∧ R (.tuple #[.slice rA rn rc, .int .i64 0]) H_2))
theorem pair_Row.ok (p : Int) (t : Int) (fA : Option Addr) (fn fc : Nat) (x : Int) (H : Heap) (R : Value → Heap → Prop) (h : pair_Row.W p t fA fn fc x H R) : CallH P N.pair_Row ([.int .u64 p, .int .i64 t, .slice fA fn fc, .int .u64 x] : List Value) H R := by
  have e : pair_Row.W p t fA fn fc x H R = sxFn P T Sh.R nf pair_Row.A Try.f35.results.toList (bodyOf Try.f35) (([(.int .u64 p : Value), (.int .i64 t : Value), (.slice fA fn fc : Value), (.int .u64 x : Value)] : List Value) ++ List.replicate (25 - ([(.int .u64 p : Value), (.int .i64 t : Value), (.slice fA fn fc : Value), (.int .u64 x : Value)] : List Value).length) undef) H R := by kernel_rfl
  exact call_of_sx fits bodies mixed Try.func35 (c := bodyOf Try.f35) (by kernel_rfl) Try.ntmps35 pair_Row.A (by kernel_rfl) (e.mp h)

/-! pair_Tape -/
def pair_Tape.A : Ann where
  loops := fun i => match i with
    | 24585 => [(10, .slice), (22, .int .i64)]
    | _ => []
  plans := fun i => match i with
    | 10 => .first 0 (.first 1 (.first 3 (.first 4 (.read 2 (.first 5 (.first 6 (.first 7 (.done))))))))
    | _ => .stop
def pair_Tape.W (p : Int) (t : Int) (fA : Option Addr) (fn fc : Nat) (H : Heap) (R : Value → Heap → Prop) : Prop :=
  CallH P N.pair_Check [.int .u64 p, .int .i64 t, .slice fA fn fc] H fun v H_ =>
  ∃ r : Int, v = .int .i64 r ∧ cond (r != 0) (R (.tuple #[.int .u64 0, .slice none 0 0, .int .i64 r]) H_)
   (LoopI (σ := (Option Addr × Nat × Nat) × Int) (fun κ => κ ((none, 0, 0), 0) H_) fun s z H_2 next =>
  cond (decide (s.2 < ((fn : Nat) : Int))) (∃ a : Addr, fA = some a ∧ 0 ≤ s.2 ∧ s.2 < ((fn : Nat) : Int) ∧ ∃ (xA : Option Addr) (xn xc : Nat), cellH H_2 (a.add (Int.toNat s.2)) = some (.slice xA xn xc) ∧ 0 ≤ s.2 ∧ s.2 ≤ ((xn : Nat) : Int) ∧ AppendV 22 1 8 [.int .u64 0] H_2 s.1.1 s.1.2.1 s.1.2.2 (SubA xA xc (Int.toNat s.2) 1) (xn - (Int.toNat s.2)) fun vA vn vc H_3 =>
  next ((vA, vn, vc), IntKind.i64.wrap (s.2 + 1)) H_3)
   (∃ a2 : Addr, s.1.1 = some a2 ∧ 0 ≤ (0 : Int) ∧ (0 : Int) < ((s.1.2.1 : Nat) : Int) ∧ 0 ≤ (1 : Int) ∧ (1 : Int) ≤ ((s.1.2.1 : Nat) : Int) ∧ ∃ x : Int, cellH H_2 (a2.add 0) = some (.int .u64 x) ∧ R (.tuple #[.int .u64 x, .slice (SubA s.1.1 s.1.2.2 1 1) (s.1.2.1 - 1) (s.1.2.2 - 1), .int .i64 0]) H_2))
theorem pair_Tape.ok (p : Int) (t : Int) (fA : Option Addr) (fn fc : Nat) (H : Heap) (R : Value → Heap → Prop) (h : pair_Tape.W p t fA fn fc H R) : CallH P N.pair_Tape ([.int .u64 p, .int .i64 t, .slice fA fn fc] : List Value) H R := by
  have e : pair_Tape.W p t fA fn fc H R = sxFn P T Sh.R nf pair_Tape.A Try.f43.results.toList (bodyOf Try.f43) (([(.int .u64 p : Value), (.int .i64 t : Value), (.slice fA fn fc : Value)] : List Value) ++ List.replicate (38 - ([(.int .u64 p : Value), (.int .i64 t : Value), (.slice fA fn fc : Value)] : List Value).length) undef) H R := by kernel_rfl
  exact call_of_sx fits bodies mixed Try.func43 (c := bodyOf Try.f43) (by kernel_rfl) Try.ntmps43 pair_Tape.A (by kernel_rfl) (e.mp h)

/-! pair_Add -/
def pair_Add.A : Ann where
  loops := fun i => match i with
    | 8199 => [(16, .int .i64)]
    | _ => []
  plans := fun i => match i with
    | _ => .stop
def pair_Add.W (p : Int) (t : Int) (fA : Option Addr) (fn fc : Nat) (gA : Option Addr) (gn gc : Nat) (H : Heap) (R : Value → Heap → Prop) : Prop :=
  NewH (H.push (.cells #[.slice gA gn gc] 23 (0, 0))) fun H_ =>
  ∃ (xA : Option Addr) (xn xc : Nat), cellH H_ (Addr.mk H.size 0 none) = some (.slice xA xn xc) ∧ LoopI (σ := Int) (fun κ => κ 0 H_) fun s z H_2 next =>
  cond (decide (s < 2)) (0 ≤ s ∧ s < (2 : Int) ∧ ∃ (xA2 : Option Addr) (xn2 xc2 : Nat),  ([.slice fA fn fc, .slice xA xn xc] : List Value)[Int.toNat s]? = some (.slice xA2 xn2 xc2) ∧ CallH P N.pair_Check [.int .u64 p, .int .i64 t, .slice xA2 xn2 xc2] H_2 fun v H_3 =>
  ∃ r : Int, v = .int .i64 r ∧ cond (r != 0) (R (.tuple #[.slice none 0 0, .int .i64 r]) H_3)
   (next (IntKind.i64.wrap (s + 1)) H_3))
   (CallH P N.pair_Plus [.int .u64 p, .slice fA fn fc, .func (.func 90) #[] #[.pointer (some (Addr.mk H.size 0 none))]] H_2 fun v2 H_4 =>
  ∃ (rA : Option Addr) (rn rc : Nat), v2 = .slice rA rn rc ∧ R (.tuple #[.slice rA rn rc, .int .i64 0]) H_4)
theorem pair_Add.ok (p : Int) (t : Int) (fA : Option Addr) (fn fc : Nat) (gA : Option Addr) (gn gc : Nat) (H : Heap) (R : Value → Heap → Prop) (h : pair_Add.W p t fA fn fc gA gn gc H R) : CallH P N.pair_Add ([.int .u64 p, .int .i64 t, .slice fA fn fc, .slice gA gn gc] : List Value) H R := by
  have e : pair_Add.W p t fA fn fc gA gn gc H R = sxFn P T Sh.R nf pair_Add.A Try.f45.results.toList (bodyOf Try.f45) (([(.int .u64 p : Value), (.int .i64 t : Value), (.slice fA fn fc : Value), (.slice gA gn gc : Value)] : List Value) ++ List.replicate (31 - ([(.int .u64 p : Value), (.int .i64 t : Value), (.slice fA fn fc : Value), (.slice gA gn gc : Value)] : List Value).length) undef) H R := by kernel_rfl
  exact call_of_sx fits bodies mixed Try.func45 (c := bodyOf Try.f45) (by kernel_rfl) Try.ntmps45 pair_Add.A (by kernel_rfl) (e.mp h)

/-! pair_Lift -/
def pair_Lift.A : Ann where
  loops := fun i => match i with
    | _ => []
  plans := fun i => match i with
    | _ => .stop
def pair_Lift.W (p : Int) (t : Int) (fA : Option Addr) (fn fc : Nat) (k : Int) (zA : Option Addr) (zn zc : Nat) (H : Heap) (R : Value → Heap → Prop) : Prop :=
  CallH P N.pair_Check [.int .u64 p, .int .i64 t, .slice fA fn fc] H fun v H_ =>
  ∃ r : Int, v = .int .i64 r ∧ cond (r != 0) (R (.tuple #[.slice none 0 0, .int .i64 r]) H_)
   (cond (decide (k ≥ p)) (R (.tuple #[.slice none 0 0, .int .i64 2]) H_)
   (cond (decide (((zn : Nat) : Int) > (IntKind.i64.wrap (t + 1)))) (R (.tuple #[.slice none 0 0, .int .i64 3]) H_)
   (CallH P N.field_Below [.int .u64 p, .slice zA zn zc] H_ fun v2 H_2 =>
  ∃ r2 : Int, v2 = .int .i64 r2 ∧ cond (r2 != 0) (R (.tuple #[.slice none 0 0, .int .i64 2]) H_2)
   (CallH P N.pair_Raise [.int .u64 p, .slice fA fn fc, .int .u64 k, .slice zA zn zc] H_2 fun v3 H_3 =>
  ∃ (rA : Option Addr) (rn rc : Nat), v3 = .slice rA rn rc ∧ R (.tuple #[.slice rA rn rc, .int .i64 0]) H_3))))
theorem pair_Lift.ok (p : Int) (t : Int) (fA : Option Addr) (fn fc : Nat) (k : Int) (zA : Option Addr) (zn zc : Nat) (H : Heap) (R : Value → Heap → Prop) (h : pair_Lift.W p t fA fn fc k zA zn zc H R) : CallH P N.pair_Lift ([.int .u64 p, .int .i64 t, .slice fA fn fc, .int .u64 k, .slice zA zn zc] : List Value) H R := by
  have e : pair_Lift.W p t fA fn fc k zA zn zc H R = sxFn P T Sh.R nf pair_Lift.A Try.f47.results.toList (bodyOf Try.f47) (([(.int .u64 p : Value), (.int .i64 t : Value), (.slice fA fn fc : Value), (.int .u64 k : Value), (.slice zA zn zc : Value)] : List Value) ++ List.replicate (40 - ([(.int .u64 p : Value), (.int .i64 t : Value), (.slice fA fn fc : Value), (.int .u64 k : Value), (.slice zA zn zc : Value)] : List Value).length) undef) H R := by kernel_rfl
  exact call_of_sx fits bodies mixed Try.func47 (c := bodyOf Try.f47) (by kernel_rfl) Try.ntmps47 pair_Lift.A (by kernel_rfl) (e.mp h)

/-! pair_Join -/
def pair_Join.A : Ann where
  loops := fun i => match i with
    | 53265 => [(45, .int .i64)]
    | _ => []
  plans := fun i => match i with
    | 15 => .first 0 (.first 1 (.first 2 (.first 4 (.first 5 (.first 6 (.read 7 (.alt 3 [] (.alt 8 [7] (.alt 9 [] (.first 10 (.done)) (.stop)) (.stop)) (.stop))))))))
    | _ => .stop
def pair_Join.W (p : Int) (t : Int) (xsA : Option Addr) (xsn xsc : Nat) (lA : Option Addr) (ln lc : Nat) (H : Heap) (R : Value → Heap → Prop) : Prop :=
  CallH P N.pair_ground [.int .u64 p, .int .i64 t] H fun v H_ =>
  ∃ r : Int, v = .int .i64 r ∧ cond (r != 0) (R (.tuple #[.slice none 0 0, .int .i64 r]) H_)
   (CallH P N.pair_rows [.int .u64 p, .slice xsA xsn xsc, .slice lA ln lc] H_ fun v2 H_2 =>
  ∃ r2 : Int, v2 = .int .i64 r2 ∧ cond (r2 != 0) (R (.tuple #[.slice none 0 0, .int .i64 r2]) H_2)
   (cond (decide (((xsn : Nat) : Int) < (IntKind.i64.wrap (t + 1)))) (R (.tuple #[.slice none 0 0, .int .i64 11]) H_2)
   (CallH P N.pair_Glue [.int .u64 p, .int .i64 t, .slice xsA xsn xsc, .slice lA ln lc] H_2 fun v3 H_3 =>
  ∃ (rA : Option Addr) (rn rc : Nat), v3 = .slice rA rn rc ∧ CallH P N.pair_Check [.int .u64 p, .int .i64 t, .slice rA rn rc] H_3 fun v4 H_4 =>
  ∃ r3 : Int, v4 = .int .i64 r3 ∧ cond (r3 != 0) (R (.tuple #[.slice none 0 0, .int .i64 12]) H_4)
   (LoopI (σ := Int) (fun κ => κ 0 H_4) fun s z H_5 next =>
  cond (decide (s < ((xsn : Nat) : Int))) (∃ a : Addr, xsA = some a ∧ 0 ≤ s ∧ s < ((xsn : Nat) : Int) ∧ ∃ x : Int, cellH H_5 (a.add (Int.toNat s)) = some (.int .u64 x) ∧ ∃ a2 : Addr, lA = some a2 ∧ 0 ≤ s ∧ s < ((ln : Nat) : Int) ∧ ∃ (xA : Option Addr) (xn xc : Nat), cellH H_5 (a2.add (Int.toNat s)) = some (.slice xA xn xc) ∧ CallH P N.pair_RowOf [.int .u64 p, .slice rA rn rc, .int .u64 x] H_5 fun v5 H_6 =>
  ∃ (rA2 : Option Addr) (rn2 rc2 : Nat), v5 = .slice rA2 rn2 rc2 ∧ cellH H_6 (a2.add (Int.toNat s)) = some (.slice xA xn xc) ∧ CallH P N.poly_Short [.slice xA xn xc] H_6 fun v6 H_7 =>
  ∃ (rA3 : Option Addr) (rn3 rc3 : Nat), v6 = .slice rA3 rn3 rc3 ∧ CallH P N.slices_Equal_uint64uint64 [.slice rA2 rn2 rc2, .slice rA3 rn3 rc3] H_7 fun v7 H_8 =>
  ∃ r4 : Bool, v7 = .bool r4 ∧ cond (!r4) (R (.tuple #[.slice none 0 0, .int .i64 12]) H_8)
   (next (IntKind.i64.wrap (s + 1)) H_8))
   (R (.tuple #[.slice rA rn rc, .int .i64 0]) H_5)))))
theorem pair_Join.ok (p : Int) (t : Int) (xsA : Option Addr) (xsn xsc : Nat) (lA : Option Addr) (ln lc : Nat) (H : Heap) (R : Value → Heap → Prop) (h : pair_Join.W p t xsA xsn xsc lA ln lc H R) : CallH P N.pair_Join ([.int .u64 p, .int .i64 t, .slice xsA xsn xsc, .slice lA ln lc] : List Value) H R := by
  have e : pair_Join.W p t xsA xsn xsc lA ln lc H R = sxFn P T Sh.R nf pair_Join.A Try.f70.results.toList (bodyOf Try.f70) (([(.int .u64 p : Value), (.int .i64 t : Value), (.slice xsA xsn xsc : Value), (.slice lA ln lc : Value)] : List Value) ++ List.replicate (63 - ([(.int .u64 p : Value), (.int .i64 t : Value), (.slice xsA xsn xsc : Value), (.slice lA ln lc : Value)] : List Value).length) undef) H R := by kernel_rfl
  exact call_of_sx fits bodies mixed Try.func70 (c := bodyOf Try.f70) (by kernel_rfl) Try.ntmps70 pair_Join.A (by kernel_rfl) (e.mp h)

/-! pair_Quarrels -/
def pair_Quarrels.A : Ann where
  loops := fun i => match i with
    | 32784 => [(9, .slice), (24, .int .i64)]
    | 45071 => [(9, .slice), (28, .int .i64)]
    | _ => []
  plans := fun i => match i with
    | 13 => .first 0 (.first 1 (.first 2 (.first 3 (.first 5 (.first 6 (.first 7 (.first 10 (.first 11 (.first 12 (.first 13 (.first 15 (.first 16 (.first 17 (.read 4 (.read 8 (.read 14 (.read 18 (.alt 9 [4, 8] (.alt 19 [14, 18] (.first 20 (.done)) (.stop)) (.stop)))))))))))))))))))
    | _ => .stop
def pair_Quarrels.W (p : Int) (xsA : Option Addr) (xsn xsc : Nat) (lA : Option Addr) (ln lc : Nat) (H : Heap) (R : Value → Heap → Prop) : Prop :=
  CallH P N.field_Is [.int .u64 p] H fun v H_ =>
  ∃ r : Bool, v = .bool r ∧ cond (!r) (R (.tuple #[.slice none 0 0, .int .i64 2]) H_)
   (CallH P N.pair_rows [.int .u64 p, .slice xsA xsn xsc, .slice lA ln lc] H_ fun v2 H_2 =>
  ∃ r2 : Int, v2 = .int .i64 r2 ∧ cond (r2 != 0) (R (.tuple #[.slice none 0 0, .int .i64 r2]) H_2)
   (LoopI (σ := (Option Addr × Nat × Nat) × Int) (fun κ => κ ((none, 0, 0), 0) H_2) fun s z H_3 next =>
  cond (decide (s.2 < ((xsn : Nat) : Int))) (LoopI (σ := (Option Addr × Nat × Nat) × Int) (fun κ => κ ((s.1.1, s.1.2.1, s.1.2.2), 0) H_3) fun s2 z2 H_4 next2 =>
  cond (decide (s2.2 < s.2)) (∃ a : Addr, lA = some a ∧ 0 ≤ s2.2 ∧ s2.2 < ((ln : Nat) : Int) ∧ ∃ a2 : Addr, xsA = some a2 ∧ 0 ≤ s.2 ∧ s.2 < ((xsn : Nat) : Int) ∧ ∃ a3 : Addr, lA = some a3 ∧ 0 ≤ s.2 ∧ s.2 < ((ln : Nat) : Int) ∧ ∃ a4 : Addr, xsA = some a4 ∧ 0 ≤ s2.2 ∧ s2.2 < ((xsn : Nat) : Int) ∧ ∃ (xA : Option Addr) (xn xc : Nat), cellH H_4 (a.add (Int.toNat s2.2)) = some (.slice xA xn xc) ∧ ∃ x : Int, cellH H_4 (a2.add (Int.toNat s.2)) = some (.int .u64 x) ∧ ∃ (xA2 : Option Addr) (xn2 xc2 : Nat), cellH H_4 (a3.add (Int.toNat s.2)) = some (.slice xA2 xn2 xc2) ∧ ∃ x2 : Int, cellH H_4 (a4.add (Int.toNat s2.2)) = some (.int .u64 x2) ∧ CallH P N.poly_At [.int .u64 p, .slice xA xn xc, .int .u64 x] H_4 fun v3 H_5 =>
  ∃ r3 : Int, v3 = .int .u64 r3 ∧ cellH H_5 (a4.add (Int.toNat s2.2)) = some (.int .u64 x2) ∧ cellH H_5 (a3.add (Int.toNat s.2)) = some (.slice xA2 xn2 xc2) ∧ CallH P N.poly_At [.int .u64 p, .slice xA2 xn2 xc2, .int .u64 x2] H_5 fun v4 H_6 =>
  ∃ r4 : Int, v4 = .int .u64 r4 ∧ cond (r3 != r4) (NewH (H_6.push (.cells #[.int .i64 s2.2, .int .i64 s.2] 81 (0, 0))) fun H_7 =>
  AppendV 81 2 16 [.int .i64 0, .int .i64 0] H_7 s2.1.1 s2.1.2.1 s2.1.2.2 (some (Addr.mk H_6.size 0 none)) 1 fun vA vn vc H_8 =>
  next2 ((vA, vn, vc), IntKind.i64.wrap (s2.2 + 1)) H_8)
   (next2 ((s2.1.1, s2.1.2.1, s2.1.2.2), IntKind.i64.wrap (s2.2 + 1)) H_6))
   (next ((s2.1.1, s2.1.2.1, s2.1.2.2), IntKind.i64.wrap (s.2 + 1)) H_4))
   (CallH P N.slices_SortFunc_2int2int [.slice s.1.1 s.1.2.1 s.1.2.2, .func (.func 107) #[] #[]] H_3 fun v6 H_9 =>
  v6 = .tuple #[] ∧ R (.tuple #[.slice s.1.1 s.1.2.1 s.1.2.2, .int .i64 0]) H_9)))
theorem pair_Quarrels.ok (p : Int) (xsA : Option Addr) (xsn xsc : Nat) (lA : Option Addr) (ln lc : Nat) (H : Heap) (R : Value → Heap → Prop) (h : pair_Quarrels.W p xsA xsn xsc lA ln lc H R) : CallH P N.pair_Quarrels ([.int .u64 p, .slice xsA xsn xsc, .slice lA ln lc] : List Value) H R := by
  have e : pair_Quarrels.W p xsA xsn xsc lA ln lc H R = sxFn P T Sh.R nf pair_Quarrels.A Try.f73.results.toList (bodyOf Try.f73) (([(.int .u64 p : Value), (.slice xsA xsn xsc : Value), (.slice lA ln lc : Value)] : List Value) ++ List.replicate (63 - ([(.int .u64 p : Value), (.slice xsA xsn xsc : Value), (.slice lA ln lc : Value)] : List Value).length) undef) H R := by kernel_rfl
  exact call_of_sx fits bodies mixed Try.func73 (c := bodyOf Try.f73) (by kernel_rfl) Try.ntmps73 pair_Quarrels.A (by kernel_rfl) (e.mp h)

/-! pair_ground -/
def pair_ground.A : Ann where
  loops := fun i => match i with
    | _ => []
  plans := fun i => match i with
    | _ => .stop
def pair_ground.W (p : Int) (t : Int) (H : Heap) (R : Value → Heap → Prop) : Prop :=
  CallH P N.field_Is [.int .u64 p] H fun v H_ =>
  ∃ r : Bool, v = .bool r ∧ cond (!r) (R (.int .i64 2) H_) (cond (decide (t < 0)) (R (.int .i64 2) H_) (cond (decide (t > 3)) (R (.int .i64 2) H_)
   (R (.int .i64 0) H_)))
theorem pair_ground.ok (p : Int) (t : Int) (H : Heap) (R : Value → Heap → Prop) (h : pair_ground.W p t H R) : CallH P N.pair_ground ([.int .u64 p, .int .i64 t] : List Value) H R := by
  have e : pair_ground.W p t H R = sxFn P T Sh.R nf pair_ground.A Try.f76.results.toList (bodyOf Try.f76) (([(.int .u64 p : Value), (.int .i64 t : Value)] : List Value) ++ List.replicate (16 - ([(.int .u64 p : Value), (.int .i64 t : Value)] : List Value).length) undef) H R := by kernel_rfl
  exact call_of_sx fits bodies mixed Try.func76 (c := bodyOf Try.f76) (by kernel_rfl) Try.ntmps76 pair_ground.A (by kernel_rfl) (e.mp h)

/-! pair_Check_1 -/
def pair_Check_1.A : Ann where
  loops := fun i => match i with
    | _ => []
  plans := fun i => match i with
    | _ => .stop
def pair_Check_1.W (rA : Option Addr) (rn rc : Nat) (c0 : Addr) (H : Heap) (R : Value → Heap → Prop) : Prop :=
  ∃ x : Int, cellH H c0 = some (.int .i64 x) ∧ R (.bool (((rn : Nat) : Int) != (IntKind.i64.wrap (x + 1)))) H
theorem pair_Check_1.ok (rA : Option Addr) (rn rc : Nat) (c0 : Addr) (H : Heap) (R : Value → Heap → Prop) (h : pair_Check_1.W rA rn rc c0 H R) : CallH P N.pair_Check_1 ([.slice rA rn rc, .pointer (some c0)] : List Value) H R := by
  have e : pair_Check_1.W rA rn rc c0 H R = sxFn P T Sh.R nf pair_Check_1.A Try.f78.results.toList (bodyOf Try.f78) (([(.slice rA rn rc : Value), (.pointer (some c0) : Value)] : List Value) ++ List.replicate (9 - ([(.slice rA rn rc : Value), (.pointer (some c0) : Value)] : List Value).length) undef) H R := by kernel_rfl
  exact call_of_sx fits bodies mixed Try.func78 (c := bodyOf Try.f78) (by kernel_rfl) Try.ntmps78 pair_Check_1.A (by kernel_rfl) (e.mp h)

/-! pair_Of -/
def pair_Of.A : Ann where
  loops := fun i => match i with
    | 12294 => [(16, .int .i64)]
    | 36880 => [(2, .slice), (32, .int .i64)]
    | 49165 => [(2, .slice), (10, .int .i64)]
    | _ => []
  plans := fun i => match i with
    | 14 => .first 0 (.first 1 (.first 2 (.first 4 (.first 5 (.first 6 (.first 7 (.first 9 (.first 10 (.first 11 (.first 13 (.first 14 (.read 3 (.read 8 (.read 12 (.read 15 (.first 16 (.alt 17 [3, 8, 12, 15] (.first 18 (.alt 19 [] (.done) (.stop))) (.stop))))))))))))))))))
    | _ => .stop
def pair_Of.W (secret : Int) (t : Int) (lA : Option Addr) (ln lc : Nat) (H : Heap) (R : Value → Heap → Prop) : Prop :=
  0 ≤ (IntKind.i64.wrap (t + 1)) ∧ (IntKind.i64.wrap (t + 1)) ≤ (IntKind.i64.wrap (t + 1)) ∧ (IntKind.i64.wrap (t + 1)) * 24 ≤ 2 ^ 48 ∧ (IntKind.i64.wrap (t + 1)) < 2 ^ 62 ∧ NewH (H.push (.cells (repl (Int.toNat (IntKind.i64.wrap (t + 1))) [.slice none 0 0]).toArray 30 (0, 0))) fun H_ =>
  LoopI (σ := Int) (fun κ => κ 0 H_) fun s z H_2 next =>
  cond (decide (s < ((Int.toNat (IntKind.i64.wrap (t + 1)) : Nat) : Int))) (0 ≤ (IntKind.i64.wrap (t + 1)) ∧ (IntKind.i64.wrap (t + 1)) ≤ (IntKind.i64.wrap (t + 1)) ∧ (IntKind.i64.wrap (t + 1)) * 8 ≤ 2 ^ 48 ∧ (IntKind.i64.wrap (t + 1)) < 2 ^ 62 ∧ NewH (H_2.push (.cells (repl (Int.toNat (IntKind.i64.wrap (t + 1))) [.int .u64 0]).toArray 22 (0, 0))) fun H_3 =>
  ∃ a : Addr, (some (Addr.mk H.size 0 none) : Option Addr) = some a ∧ 0 ≤ s ∧ s < ((Int.toNat (IntKind.i64.wrap (t + 1)) : Nat) : Int) ∧ MayWrite H_3 (a.add (Int.toNat s)) 1 ∧ NewH (setH H_3 (a.add (Int.toNat s)) (.slice (some (Addr.mk H_2.size 0 none)) (Int.toNat (IntKind.i64.wrap (t + 1))) (Int.toNat (IntKind.i64.wrap (t + 1))))) fun H_4 =>
  next (IntKind.i64.wrap (s + 1)) H_4)
   (NewH (H_2.push (.cells #[.int .u64 secret] 22 (0, 0))) fun H_5 =>
  AppendV 22 1 8 [.int .u64 0] H_5 (some (Addr.mk H_2.size 0 none)) 1 1 lA ln fun vA vn vc H_6 =>
  LoopI (σ := (Option Addr × Nat × Nat) × Int) (fun κ => κ ((vA, vn, vc), 0) H_6) fun s2 z2 H_7 next2 =>
  cond (decide (s2.2 < ((Int.toNat (IntKind.i64.wrap (t + 1)) : Nat) : Int))) (LoopI (σ := (Option Addr × Nat × Nat) × Int) (fun κ => κ ((s2.1.1, s2.1.2.1, s2.1.2.2), s2.2) H_7) fun s3 z3 H_8 next3 =>
  cond (decide (s3.2 ≤ t)) (∃ a2 : Addr, (some (Addr.mk H.size 0 none) : Option Addr) = some a2 ∧ 0 ≤ s2.2 ∧ s2.2 < ((Int.toNat (IntKind.i64.wrap (t + 1)) : Nat) : Int) ∧ ∃ a3 : Addr, (some (Addr.mk H.size 0 none) : Option Addr) = some a3 ∧ 0 ≤ s3.2 ∧ s3.2 < ((Int.toNat (IntKind.i64.wrap (t + 1)) : Nat) : Int) ∧ ∃ a4 : Addr, s3.1.1 = some a4 ∧ 0 ≤ (0 : Int) ∧ (0 : Int) < ((s3.1.2.1 : Nat) : Int) ∧ ∃ a5 : Addr, s3.1.1 = some a5 ∧ 0 ≤ (0 : Int) ∧ (0 : Int) < ((s3.1.2.1 : Nat) : Int) ∧ ∃ (xA : Option Addr) (xn xc : Nat), cellH H_8 (a2.add (Int.toNat s2.2)) = some (.slice xA xn xc) ∧ ∃ (xA2 : Option Addr) (xn2 xc2 : Nat), cellH H_8 (a3.add (Int.toNat s3.2)) = some (.slice xA2 xn2 xc2) ∧ ∃ x : Int, cellH H_8 (a4.add 0) = some (.int .u64 x) ∧ ∃ x2 : Int, cellH H_8 (a5.add 0) = some (.int .u64 x2) ∧ ∃ a6 : Addr, xA = some a6 ∧ 0 ≤ s3.2 ∧ s3.2 < ((xn : Nat) : Int) ∧ MayWrite H_8 (a6.add (Int.toNat s3.2)) 1 ∧ NewH (setH H_8 (a6.add (Int.toNat s3.2)) (.int .u64 x)) fun H_9 =>
  ∃ a7 : Addr, xA2 = some a7 ∧ 0 ≤ s2.2 ∧ s2.2 < ((xn2 : Nat) : Int) ∧ MayWrite H_9 (a7.add (Int.toNat s2.2)) 1 ∧ NewH (setH H_9 (a7.add (Int.toNat s2.2)) (.int .u64 x2)) fun H_10 =>
  0 ≤ (1 : Int) ∧ (1 : Int) ≤ ((s3.1.2.1 : Nat) : Int) ∧ next3 (((SubA s3.1.1 s3.1.2.2 1 1 : Option Addr), s3.1.2.1 - 1, s3.1.2.2 - 1), IntKind.i64.wrap (s3.2 + 1)) H_10)
   (next2 ((s3.1.1, s3.1.2.1, s3.1.2.2), IntKind.i64.wrap (s2.2 + 1)) H_8))
   (R (.slice (some (Addr.mk H.size 0 none)) (Int.toNat (IntKind.i64.wrap (t + 1))) (Int.toNat (IntKind.i64.wrap (t + 1)))) H_7))
theorem pair_Of.ok (secret : Int) (t : Int) (lA : Option Addr) (ln lc : Nat) (H : Heap) (R : Value → Heap → Prop) (h : pair_Of.W secret t lA ln lc H R) : CallH P N.pair_Of ([.int .u64 secret, .int .i64 t, .slice lA ln lc] : List Value) H R := by
  have e : pair_Of.W secret t lA ln lc H R = sxFn P T Sh.R nf pair_Of.A Try.f82.results.toList (bodyOf Try.f82) (([(.int .u64 secret : Value), (.int .i64 t : Value), (.slice lA ln lc : Value)] : List Value) ++ List.replicate (63 - ([(.int .u64 secret : Value), (.int .i64 t : Value), (.slice lA ln lc : Value)] : List Value).length) undef) H R := by kernel_rfl
  exact call_of_sx fits bodies mixed Try.func82 (c := bodyOf Try.f82) (by kernel_rfl) Try.ntmps82 pair_Of.A (by kernel_rfl) (e.mp h)

/-! pair_RowOf -/
def pair_RowOf.A : Ann where
  loops := fun i => match i with
    | 12294 => [(14, .int .i64)]
    | _ => []
  plans := fun i => match i with
    | _ => .stop
def pair_RowOf.W (p : Int) (fA : Option Addr) (fn fc : Nat) (x : Int) (H : Heap) (R : Value → Heap → Prop) : Prop :=
  0 ≤ ((fn : Nat) : Int) ∧ ((fn : Nat) : Int) ≤ ((fn : Nat) : Int) ∧ ((fn : Nat) : Int) * 8 ≤ 2 ^ 48 ∧ ((fn : Nat) : Int) < 2 ^ 62 ∧ NewH (H.push (.cells (repl (Int.toNat ((fn : Nat) : Int)) [.int .u64 0]).toArray 22 (0, 0))) fun H_ =>
  LoopI (σ := Int) (fun κ => κ 0 H_) fun s z H_2 next =>
  cond (decide (s < ((fn : Nat) : Int))) (∃ a : Addr, fA = some a ∧ 0 ≤ s ∧ s < ((fn : Nat) : Int) ∧ ∃ (xA : Option Addr) (xn xc : Nat), cellH H_2 (a.add (Int.toNat s)) = some (.slice xA xn xc) ∧ CallH P N.poly_At [.int .u64 p, .slice xA xn xc, .int .u64 x] H_2 fun v H_3 =>
  ∃ r : Int, v = .int .u64 r ∧ ∃ a2 : Addr, (some (Addr.mk H.size 0 none) : Option Addr) = some a2 ∧ 0 ≤ s ∧ s < ((Int.toNat ((fn : Nat) : Int) : Nat) : Int) ∧ MayWrite H_3 (a2.add (Int.toNat s)) 1 ∧ NewH (setH H_3 (a2.add (Int.toNat s)) (.int .u64 r)) fun H_4 =>
  next (IntKind.i64.wrap (s + 1)) H_4)
   (CallH P N.poly_Short [.slice (some (Addr.mk H.size 0 none)) (Int.toNat ((fn : Nat) : Int)) (Int.toNat ((fn : Nat) : Int))] H_2 fun v2 H_5 =>
  ∃ (rA : Option Addr) (rn rc : Nat), v2 = .slice rA rn rc ∧ R (.slice rA rn rc) H_5)
theorem pair_RowOf.ok (p : Int) (fA : Option Addr) (fn fc : Nat) (x : Int) (H : Heap) (R : Value → Heap → Prop) (h : pair_RowOf.W p fA fn fc x H R) : CallH P N.pair_RowOf ([.int .u64 p, .slice fA fn fc, .int .u64 x] : List Value) H R := by
  have e : pair_RowOf.W p fA fn fc x H R = sxFn P T Sh.R nf pair_RowOf.A Try.f85.results.toList (bodyOf Try.f85) (([(.int .u64 p : Value), (.slice fA fn fc : Value), (.int .u64 x : Value)] : List Value) ++ List.replicate (30 - ([(.int .u64 p : Value), (.slice fA fn fc : Value), (.int .u64 x : Value)] : List Value).length) undef) H R := by kernel_rfl
  exact call_of_sx fits bodies mixed Try.func85 (c := bodyOf Try.f85) (by kernel_rfl) Try.ntmps85 pair_RowOf.A (by kernel_rfl) (e.mp h)

/-! pair_Plus -/
def pair_Plus.A : Ann where
  loops := fun i => match i with
    | 12299 => [(17, .int .i64)]
    | 28682 => [(30, .int .i64)]
    | _ => []
  plans := fun i => match i with
    | 9 => .first 0 (.first 1 (.first 2 (.first 4 (.first 5 (.first 6 (.first 7 (.first 8 (.first 9 (.read 3 (.alt 10 [] (.alt 11 [] (.first 12 (.alt 13 [3] (.done) (.stop))) (.stop)) (.stop)))))))))))
    | _ => .stop
def pair_Plus.W (p : Int) (fA : Option Addr) (fn fc : Nat) (moref : Nat) (morea moreb : Array Value) (H : Heap) (R : Value → Heap → Prop) : Prop :=
  0 ≤ ((fn : Nat) : Int) ∧ ((fn : Nat) : Int) ≤ ((fn : Nat) : Int) ∧ ((fn : Nat) : Int) * 24 ≤ 2 ^ 48 ∧ ((fn : Nat) : Int) < 2 ^ 62 ∧ NewH (H.push (.cells (repl (Int.toNat ((fn : Nat) : Int)) [.slice none 0 0]).toArray 30 (0, 0))) fun H_ =>
  LoopI (σ := Int) (fun κ => κ 0 H_) fun s z H_2 next =>
  cond (decide (s < ((fn : Nat) : Int))) (∃ a : Addr, fA = some a ∧ 0 ≤ s ∧ s < ((fn : Nat) : Int) ∧ ∃ (xA : Option Addr) (xn xc : Nat), cellH H_2 (a.add (Int.toNat s)) = some (.slice xA xn xc) ∧ 0 ≤ ((xn : Nat) : Int) ∧ ((xn : Nat) : Int) ≤ ((xn : Nat) : Int) ∧ ((xn : Nat) : Int) * 8 ≤ 2 ^ 48 ∧ ((xn : Nat) : Int) < 2 ^ 62 ∧ NewH (H_2.push (.cells (repl (Int.toNat ((xn : Nat) : Int)) [.int .u64 0]).toArray 22 (0, 0))) fun H_3 =>
  ∃ a2 : Addr, (some (Addr.mk H.size 0 none) : Option Addr) = some a2 ∧ 0 ≤ s ∧ s < ((Int.toNat ((fn : Nat) : Int) : Nat) : Int) ∧ MayWrite H_3 (a2.add (Int.toNat s)) 1 ∧ NewH (setH H_3 (a2.add (Int.toNat s)) (.slice (some (Addr.mk H_2.size 0 none)) (Int.toNat ((xn : Nat) : Int)) (Int.toNat ((xn : Nat) : Int)))) fun H_4 =>
  LoopI (σ := Int) (fun κ => κ 0 H_4) fun s2 z2 H_5 next2 =>
  cond (decide (s2 < ((xn : Nat) : Int))) (∃ a3 : Addr, xA = some a3 ∧ 0 ≤ s2 ∧ s2 < ((xn : Nat) : Int) ∧ ∃ x : Int, cellH H_5 (a3.add (Int.toNat s2)) = some (.int .u64 x) ∧ ∃ a4 : Addr, (some (Addr.mk H.size 0 none) : Option Addr) = some a4 ∧ 0 ≤ s ∧ s < ((Int.toNat ((fn : Nat) : Int) : Nat) : Int) ∧ ∃ (xA2 : Option Addr) (xn2 xc2 : Nat), cellH H_5 (a4.add (Int.toNat s)) = some (.slice xA2 xn2 xc2) ∧ cond (hasB nf moref) (CallH P moref (morea.toList ++ [.int .i64 s, .int .i64 s2] ++ moreb.toList) H_5 fun v H_6 =>
  ∃ r : Int, v = .int .u64 r ∧ cellH H_6 (a4.add (Int.toNat s)) = some (.slice xA2 xn2 xc2) ∧ CallH P N.field_Plus [.int .u64 p, .int .u64 x, .int .u64 r] H_6 fun v2 H_7 =>
  ∃ r2 : Int, v2 = .int .u64 r2 ∧ cellH H_7 (a4.add (Int.toNat s)) = some (.slice xA2 xn2 xc2) ∧ ∃ a5 : Addr, xA2 = some a5 ∧ 0 ≤ s2 ∧ s2 < ((xn2 : Nat) : Int) ∧ MayWrite H_7 (a5.add (Int.toNat s2)) 1 ∧ NewH (setH H_7 (a5.add (Int.toNat s2)) (.int .u64 r2)) fun H_8 =>
  next2 (IntKind.i64.wrap (s2 + 1)) H_8) False)
   (next (IntKind.i64.wrap (s + 1)) H_5))
   (R (.slice (some (Addr.mk H.size 0 none)) (Int.toNat ((fn : Nat) : Int)) (Int.toNat ((fn : Nat) : Int))) H_2)
theorem pair_Plus.ok (p : Int) (fA : Option Addr) (fn fc : Nat) (moref : Nat) (morea moreb : Array Value) (H : Heap) (R : Value → Heap → Prop) (h : pair_Plus.W p fA fn fc moref morea moreb H R) : CallH P N.pair_Plus ([.int .u64 p, .slice fA fn fc, .func (.func moref) morea moreb] : List Value) H R := by
  have e : pair_Plus.W p fA fn fc moref morea moreb H R = sxFn P T Sh.R nf pair_Plus.A Try.f89.results.toList (bodyOf Try.f89) (([(.int .u64 p : Value), (.slice fA fn fc : Value), (.func (.func moref) morea moreb : Value)] : List Value) ++ List.replicate (51 - ([(.int .u64 p : Value), (.slice fA fn fc : Value), (.func (.func moref) morea moreb : Value)] : List Value).length) undef) H R := by kernel_rfl
  exact call_of_sx fits bodies mixed Try.func89 (c := bodyOf Try.f89) (by kernel_rfl) Try.ntmps89 pair_Plus.A (by kernel_rfl) (e.mp h)

/-! pair_Add_1 -/
def pair_Add_1.A : Ann where
  loops := fun i => match i with
    | _ => []
  plans := fun i => match i with
    | _ => .stop
def pair_Add_1.W (i : Int) (k : Int) (c0 : Addr) (H : Heap) (R : Value → Heap → Prop) : Prop :=
  ∃ (xA : Option Addr) (xn xc : Nat), cellH H c0 = some (.slice xA xn xc) ∧ ∃ a : Addr, xA = some a ∧ 0 ≤ i ∧ i < ((xn : Nat) : Int) ∧ ∃ (xA2 : Option Addr) (xn2 xc2 : Nat), cellH H (a.add (Int.toNat i)) = some (.slice xA2 xn2 xc2) ∧ ∃ a2 : Addr, xA2 = some a2 ∧ 0 ≤ k ∧ k < ((xn2 : Nat) : Int) ∧ ∃ x : Int, cellH H (a2.add (Int.toNat k)) = some (.int .u64 x) ∧ R (.int .u64 x) H
theorem pair_Add_1.ok (i : Int) (k : Int) (c0 : Addr) (H : Heap) (R : Value → Heap → Prop) (h : pair_Add_1.W i k c0 H R) : CallH P N.pair_Add_1 ([.int .i64 i, .int .i64 k, .pointer (some c0)] : List Value) H R := by
  have e : pair_Add_1.W i k c0 H R = sxFn P T Sh.R nf pair_Add_1.A Try.f90.results.toList (bodyOf Try.f90) (([(.int .i64 i : Value), (.int .i64 k : Value), (.pointer (some c0) : Value)] : List Value) ++ List.replicate (13 - ([(.int .i64 i : Value), (.int .i64 k : Value), (.pointer (some c0) : Value)] : List Value).length) undef) H R := by kernel_rfl
  exact call_of_sx fits bodies mixed Try.func90 (c := bodyOf Try.f90) (by kernel_rfl) Try.ntmps90 pair_Add_1.A (by kernel_rfl) (e.mp h)

/-! pair_Raise -/
def pair_Raise.A : Ann where
  loops := fun i => match i with
    | _ => []
  plans := fun i => match i with
    | _ => .stop
def pair_Raise.W (p : Int) (fA : Option Addr) (fn fc : Nat) (k : Int) (zA : Option Addr) (zn zc : Nat) (H : Heap) (R : Value → Heap → Prop) : Prop :=
  NewH (H.push (.cells #[.int .u64 p] 22 (0, 0))) fun H_ =>
  NewH (H_.push (.cells #[.int .u64 k] 22 (0, 0))) fun H_2 =>
  NewH (H_2.push (.cells #[.slice zA zn zc] 30 (0, 0))) fun H_3 =>
  NewH (H_3.push (.cells #[.nilFunc] 150 (0, 0))) fun H_4 =>
  MayWrite H_4 (Addr.mk H_3.size 0 none) 1 ∧ NewH (setH H_4 (Addr.mk H_3.size 0 none) (.func (.func 113) #[] #[.pointer (some (Addr.mk H_2.size 0 none))])) fun H_5 =>
  ∃ x : Int, cellH H_5 (Addr.mk H.size 0 none) = some (.int .u64 x) ∧ CallH P N.pair_Plus [.int .u64 x, .slice fA fn fc, .func (.func 114) #[] #[.pointer (some (Addr.mk H.size 0 none)), .pointer (some (Addr.mk H_.size 0 none)), .pointer (some (Addr.mk H_3.size 0 none))]] H_5 fun v H_6 =>
  ∃ (rA : Option Addr) (rn rc : Nat), v = .slice rA rn rc ∧ R (.slice rA rn rc) H_6
theorem pair_Raise.ok (p : Int) (fA : Option Addr) (fn fc : Nat) (k : Int) (zA : Option Addr) (zn zc : Nat) (H : Heap) (R : Value → Heap → Prop) (h : pair_Raise.W p fA fn fc k zA zn zc H R) : CallH P N.pair_Raise ([.int .u64 p, .slice fA fn fc, .int .u64 k, .slice zA zn zc] : List Value) H R := by
  have e : pair_Raise.W p fA fn fc k zA zn zc H R = sxFn P T Sh.R nf pair_Raise.A Try.f91.results.toList (bodyOf Try.f91) (([(.int .u64 p : Value), (.slice fA fn fc : Value), (.int .u64 k : Value), (.slice zA zn zc : Value)] : List Value) ++ List.replicate (15 - ([(.int .u64 p : Value), (.slice fA fn fc : Value), (.int .u64 k : Value), (.slice zA zn zc : Value)] : List Value).length) undef) H R := by kernel_rfl
  exact call_of_sx fits bodies mixed Try.func91 (c := bodyOf Try.f91) (by kernel_rfl) Try.ntmps91 pair_Raise.A (by kernel_rfl) (e.mp h)

/-! pair_rows -/
def pair_rows.A : Ann where
  loops := fun i => match i with
    | 24586 => [(27, .int .i64)]
    | _ => []
  plans := fun i => match i with
    | _ => .stop
def pair_rows.W (p : Int) (xsA : Option Addr) (xsn xsc : Nat) (lA : Option Addr) (ln lc : Nat) (H : Heap) (R : Value → Heap → Prop) : Prop :=
  cond (decide (((xsn : Nat) : Int) > 13)) (R (.int .i64 3) H)
   (cond (((ln : Nat) : Int) != ((xsn : Nat) : Int)) (R (.int .i64 2) H) (CallH P N.field_Below [.int .u64 p, .slice xsA xsn xsc] H fun v H_ =>
  ∃ r : Int, v = .int .i64 r ∧ cond (r != 0) (R (.int .i64 2) H_)
   (LoopI (σ := Int) (fun κ => κ 0 H_) fun s z H_2 next =>
  cond (decide (s < ((xsn : Nat) : Int))) (∃ a : Addr, xsA = some a ∧ 0 ≤ s ∧ s < ((xsn : Nat) : Int) ∧ ∃ x : Int, cellH H_2 (a.add (Int.toNat s)) = some (.int .u64 x) ∧ 0 ≤ s ∧ s ≤ ((xsc : Nat) : Int) ∧ CallH P N.slices_Contains_uint64uint64 [.slice xsA (Int.toNat s) xsc, .int .u64 x] H_2 fun v2 H_3 =>
  ∃ r2 : Bool, v2 = .bool r2 ∧ cond r2 (R (.int .i64 6) H_3)
   (next (IntKind.i64.wrap (s + 1)) H_3))
   (CallH P N.poly_Is [.int .u64 p, .slice lA ln lc] H_2 fun v3 H_4 =>
  ∃ r3 : Int, v3 = .int .i64 r3 ∧ R (.int .i64 r3) H_4))))
theorem pair_rows.ok (p : Int) (xsA : Option Addr) (xsn xsc : Nat) (lA : Option Addr) (ln lc : Nat) (H : Heap) (R : Value → Heap → Prop) (h : pair_rows.W p xsA xsn xsc lA ln lc H R) : CallH P N.pair_rows ([.int .u64 p, .slice xsA xsn xsc, .slice lA ln lc] : List Value) H R := by
  have e : pair_rows.W p xsA xsn xsc lA ln lc H R = sxFn P T Sh.R nf pair_rows.A Try.f100.results.toList (bodyOf Try.f100) (([(.int .u64 p : Value), (.slice xsA xsn xsc : Value), (.slice lA ln lc : Value)] : List Value) ++ List.replicate (41 - ([(.int .u64 p : Value), (.slice xsA xsn xsc : Value), (.slice lA ln lc : Value)] : List Value).length) undef) H R := by kernel_rfl
  exact call_of_sx fits bodies mixed Try.func100 (c := bodyOf Try.f100) (by kernel_rfl) Try.ntmps100 pair_rows.A (by kernel_rfl) (e.mp h)

/-! pair_Glue -/
def pair_Glue.A : Ann where
  loops := fun i => match i with
    | 12294 => [(23, .int .i64)]
    | 32792 => [(35, .int .i64)]
    | 49170 => [(12, .slice), (43, .int .i64)]
    | 81943 => [(73, .int .i64)]
    | _ => []
  plans := fun i => match i with
    | _ => .stop
def pair_Glue.W (p : Int) (t : Int) (xsA : Option Addr) (xsn xsc : Nat) (lA : Option Addr) (ln lc : Nat) (H : Heap) (R : Value → Heap → Prop) : Prop :=
  0 ≤ (IntKind.i64.wrap (t + 1)) ∧ (IntKind.i64.wrap (t + 1)) ≤ (IntKind.i64.wrap (t + 1)) ∧ (IntKind.i64.wrap (t + 1)) * 24 ≤ 2 ^ 48 ∧ (IntKind.i64.wrap (t + 1)) < 2 ^ 62 ∧ NewH (H.push (.cells (repl (Int.toNat (IntKind.i64.wrap (t + 1))) [.slice none 0 0]).toArray 30 (0, 0))) fun H_ =>
  LoopI (σ := Int) (fun κ => κ 0 H_) fun s z H_2 next =>
  cond (decide (s < ((Int.toNat (IntKind.i64.wrap (t + 1)) : Nat) : Int))) (0 ≤ (IntKind.i64.wrap (t + 1)) ∧ (IntKind.i64.wrap (t + 1)) ≤ (IntKind.i64.wrap (t + 1)) ∧ (IntKind.i64.wrap (t + 1)) * 8 ≤ 2 ^ 48 ∧ (IntKind.i64.wrap (t + 1)) < 2 ^ 62 ∧ NewH (H_2.push (.cells (repl (Int.toNat (IntKind.i64.wrap (t + 1))) [.int .u64 0]).toArray 22 (0, 0))) fun H_3 =>
  ∃ a : Addr, (some (Addr.mk H.size 0 none) : Option Addr) = some a ∧ 0 ≤ s ∧ s < ((Int.toNat (IntKind.i64.wrap (t + 1)) : Nat) : Int) ∧ MayWrite H_3 (a.add (Int.toNat s)) 1 ∧ NewH (setH H_3 (a.add (Int.toNat s)) (.slice (some (Addr.mk H_2.size 0 none)) (Int.toNat (IntKind.i64.wrap (t + 1))) (Int.toNat (IntKind.i64.wrap (t + 1))))) fun H_4 =>
  next (IntKind.i64.wrap (s + 1)) H_4)
   (LoopI (σ := Int) (fun κ => κ 0 H_2) fun s2 z2 H_5 next2 =>
  cond (decide (s2 < (IntKind.i64.wrap (t + 1)))) (0 ≤ (IntKind.i64.wrap (t + 1)) ∧ (IntKind.i64.wrap (t + 1)) ≤ ((xsc : Nat) : Int) ∧ LoopI (σ := (Option Addr × Nat × Nat) × Int) (fun κ => κ ((none, 0, 0), 0) H_5) fun s3 z3 H_6 next3 =>
  cond (decide (s3.2 < ((Int.toNat (IntKind.i64.wrap (t + 1)) : Nat) : Int))) (∃ a2 : Addr, xsA = some a2 ∧ 0 ≤ s3.2 ∧ s3.2 < ((Int.toNat (IntKind.i64.wrap (t + 1)) : Nat) : Int) ∧ ∃ x : Int, cellH H_6 (a2.add (Int.toNat s3.2)) = some (.int .u64 x) ∧ ∃ a3 : Addr, lA = some a3 ∧ 0 ≤ s3.2 ∧ s3.2 < ((ln : Nat) : Int) ∧ ∃ (xA : Option Addr) (xn xc : Nat), cellH H_6 (a3.add (Int.toNat s3.2)) = some (.slice xA xn xc) ∧ cond (decide (s2 < ((xn : Nat) : Int))) (∃ a4 : Addr, lA = some a4 ∧ 0 ≤ s3.2 ∧ s3.2 < ((ln : Nat) : Int) ∧ ∃ (xA2 : Option Addr) (xn2 xc2 : Nat), cellH H_6 (a4.add (Int.toNat s3.2)) = some (.slice xA2 xn2 xc2) ∧ ∃ a5 : Addr, xA2 = some a5 ∧ 0 ≤ s2 ∧ s2 < ((xn2 : Nat) : Int) ∧ ∃ x2 : Int, cellH H_6 (a5.add (Int.toNat s2)) = some (.int .u64 x2) ∧ NewH (H_6.push (.cells #[.int .u64 x, .int .u64 x2] 103 (0, 0))) fun H_7 =>
  AppendV 103 2 16 [.int .u64 0, .int .u64 0] H_7 s3.1.1 s3.1.2.1 s3.1.2.2 (some (Addr.mk H_6.size 0 none)) 1 fun vA vn vc H_8 =>
  next3 ((vA, vn, vc), IntKind.i64.wrap (s3.2 + 1)) H_8)
   (NewH (H_6.push (.cells #[.int .u64 x, .int .u64 0] 103 (0, 0))) fun H_9 =>
  AppendV 103 2 16 [.int .u64 0, .int .u64 0] H_9 s3.1.1 s3.1.2.1 s3.1.2.2 (some (Addr.mk H_6.size 0 none)) 1 fun vA2 vn2 vc2 H_10 =>
  next3 ((vA2, vn2, vc2), IntKind.i64.wrap (s3.2 + 1)) H_10))
   (CallH P N.poly_Fit [.int .u64 p, .slice s3.1.1 s3.1.2.1 s3.1.2.2] H_6 fun v3 H_11 =>
  ∃ (rA : Option Addr) (rn rc : Nat), v3 = .slice rA rn rc ∧ LoopI (σ := Int) (fun κ => κ 0 H_11) fun s4 z4 H_12 next4 =>
  cond (decide (s4 < ((rn : Nat) : Int))) (∃ a6 : Addr, rA = some a6 ∧ 0 ≤ s4 ∧ s4 < ((rn : Nat) : Int) ∧ ∃ x3 : Int, cellH H_12 (a6.add (Int.toNat s4)) = some (.int .u64 x3) ∧ ∃ a7 : Addr, (some (Addr.mk H.size 0 none) : Option Addr) = some a7 ∧ 0 ≤ s4 ∧ s4 < ((Int.toNat (IntKind.i64.wrap (t + 1)) : Nat) : Int) ∧ ∃ (xA3 : Option Addr) (xn3 xc3 : Nat), cellH H_12 (a7.add (Int.toNat s4)) = some (.slice xA3 xn3 xc3) ∧ ∃ a8 : Addr, xA3 = some a8 ∧ 0 ≤ s2 ∧ s2 < ((xn3 : Nat) : Int) ∧ MayWrite H_12 (a8.add (Int.toNat s2)) 1 ∧ NewH (setH H_12 (a8.add (Int.toNat s2)) (.int .u64 x3)) fun H_13 =>
  next4 (IntKind.i64.wrap (s4 + 1)) H_13)
   (next2 (IntKind.i64.wrap (s2 + 1)) H_12)))
   (R (.slice (some (Addr.mk H.size 0 none)) (Int.toNat (IntKind.i64.wrap (t + 1))) (Int.toNat (IntKind.i64.wrap (t + 1)))) H_5))
theorem pair_Glue.ok (p : Int) (t : Int) (xsA : Option Addr) (xsn xsc : Nat) (lA : Option Addr) (ln lc : Nat) (H : Heap) (R : Value → Heap → Prop) (h : pair_Glue.W p t xsA xsn xsc lA ln lc H R) : CallH P N.pair_Glue ([.int .u64 p, .int .i64 t, .slice xsA xsn xsc, .slice lA ln lc] : List Value) H R := by
  have e : pair_Glue.W p t xsA xsn xsc lA ln lc H R = sxFn P T Sh.R nf pair_Glue.A Try.f101.results.toList (bodyOf Try.f101) (([(.int .u64 p : Value), (.int .i64 t : Value), (.slice xsA xsn xsc : Value), (.slice lA ln lc : Value)] : List Value) ++ List.replicate (88 - ([(.int .u64 p : Value), (.int .i64 t : Value), (.slice xsA xsn xsc : Value), (.slice lA ln lc : Value)] : List Value).length) undef) H R := by kernel_rfl
  exact call_of_sx fits bodies mixed Try.func101 (c := bodyOf Try.f101) (by kernel_rfl) Try.ntmps101 pair_Glue.A (by kernel_rfl) (e.mp h)

/-! pair_Quarrels_1 -/
def pair_Quarrels_1.A : Ann where
  loops := fun i => match i with
    | _ => []
  plans := fun i => match i with
    | 1 => .first 0 (.first 1 (.alt 2 [] (.first 3 (.done)) (.stop)))
    | _ => .stop
def pair_Quarrels_1.W (a_0 : Int) (a_1 : Int) (b_0 : Int) (b_1 : Int) (H : Heap) (R : Value → Heap → Prop) : Prop :=
  NewH (H.push (.cells #[.int .i64 a_0, .int .i64 a_1] 81 (0, 0))) fun H_ =>
  NewH (H_.push (.cells #[.int .i64 b_0, .int .i64 b_1] 81 (0, 0))) fun H_2 =>
  CallH P N.slices_Compare_intint [.slice (some (Addr.mk H.size 0 none)) 2 2, .slice (some (Addr.mk H_.size 0 none)) 2 2] H_2 fun v H_3 =>
  ∃ r : Int, v = .int .i64 r ∧ R (.int .i64 r) H_3
theorem pair_Quarrels_1.ok (a_0 : Int) (a_1 : Int) (b_0 : Int) (b_1 : Int) (H : Heap) (R : Value → Heap → Prop) (h : pair_Quarrels_1.W a_0 a_1 b_0 b_1 H R) : CallH P N.pair_Quarrels_1 ([.agg #[.int .i64 a_0, .int .i64 a_1], .agg #[.int .i64 b_0, .int .i64 b_1]] : List Value) H R := by
  have e : pair_Quarrels_1.W a_0 a_1 b_0 b_1 H R = sxFn P T Sh.R nf pair_Quarrels_1.A Try.f107.results.toList (bodyOf Try.f107) (([(.agg #[.int .i64 a_0, .int .i64 a_1] : Value), (.agg #[.int .i64 b_0, .int .i64 b_1] : Value)] : List Value) ++ List.replicate (8 - ([(.agg #[.int .i64 a_0, .int .i64 a_1] : Value), (.agg #[.int .i64 b_0, .int .i64 b_1] : Value)] : List Value).length) undef) H R := by kernel_rfl
  exact call_of_sx fits bodies mixed Try.func107 (c := bodyOf Try.f107) (by kernel_rfl) Try.ntmps107 pair_Quarrels_1.A (by kernel_rfl) (e.mp h)

/-! pair_Raise_1 -/
def pair_Raise_1.A : Ann where
  loops := fun i => match i with
    | _ => []
  plans := fun i => match i with
    | _ => .stop
def pair_Raise_1.W (i : Int) (c0 : Addr) (H : Heap) (R : Value → Heap → Prop) : Prop :=
  ∃ (xA : Option Addr) (xn xc : Nat), cellH H c0 = some (.slice xA xn xc) ∧ cond (decide (i < ((xn : Nat) : Int))) (∃ (xA2 : Option Addr) (xn2 xc2 : Nat), cellH H c0 = some (.slice xA2 xn2 xc2) ∧ ∃ a : Addr, xA2 = some a ∧ 0 ≤ i ∧ i < ((xn2 : Nat) : Int) ∧ ∃ x : Int, cellH H (a.add (Int.toNat i)) = some (.int .u64 x) ∧ R (.int .u64 x) H)
   (R (.int .u64 0) H)
theorem pair_Raise_1.ok (i : Int) (c0 : Addr) (H : Heap) (R : Value → Heap → Prop) (h : pair_Raise_1.W i c0 H R) : CallH P N.pair_Raise_1 ([.int .i64 i, .pointer (some c0)] : List Value) H R := by
  have e : pair_Raise_1.W i c0 H R = sxFn P T Sh.R nf pair_Raise_1.A Try.f113.results.toList (bodyOf Try.f113) (([(.int .i64 i : Value), (.pointer (some c0) : Value)] : List Value) ++ List.replicate (12 - ([(.int .i64 i : Value), (.pointer (some c0) : Value)] : List Value).length) undef) H R := by kernel_rfl
  exact call_of_sx fits bodies mixed Try.func113 (c := bodyOf Try.f113) (by kernel_rfl) Try.ntmps113 pair_Raise_1.A (by kernel_rfl) (e.mp h)

/-! pair_Raise_2 -/
def pair_Raise_2.A : Ann where
  loops := fun i => match i with
    | _ => []
  plans := fun i => match i with
    | 1 => .first 4 (.first 7 (.read 0 (.read 1 (.read 2 (.read 3 (.read 6 (.alt 5 [3] (.alt 8 [6] (.alt 9 [2] (.alt 10 [0, 1] (.first 11 (.done)) (.stop)) (.stop)) (.stop)) (.stop))))))))
    | _ => .stop
def pair_Raise_2.W (i : Int) (j : Int) (c0 : Addr) (c1 : Addr) (c2 : Addr) (H : Heap) (R : Value → Heap → Prop) : Prop :=
  ∃ x : Int, cellH H c0 = some (.int .u64 x) ∧ ∃ x2 : Int, cellH H c1 = some (.int .u64 x2) ∧ ∃ x3 : Int, cellH H c0 = some (.int .u64 x3) ∧ ∃ (xf : Nat) (xa xb : Array Value), cellH H c2 = some (.func (.func xf) xa xb) ∧ ∃ (xf2 : Nat) (xa2 xb2 : Array Value), cellH H c2 = some (.func (.func xf2) xa2 xb2) ∧ cond (hasB nf xf) (CallH P xf (xa.toList ++ [.int .i64 i] ++ xb.toList) H fun v H_ =>
  ∃ r : Int, v = .int .u64 r ∧ cellH H_ c2 = some (.func (.func xf2) xa2 xb2) ∧ cellH H_ c0 = some (.int .u64 x3) ∧ cellH H_ c1 = some (.int .u64 x2) ∧ cellH H_ c0 = some (.int .u64 x) ∧ cond (hasB nf xf2) (CallH P xf2 (xa2.toList ++ [.int .i64 j] ++ xb2.toList) H_ fun v2 H_2 =>
  ∃ r2 : Int, v2 = .int .u64 r2 ∧ cellH H_2 c0 = some (.int .u64 x3) ∧ cellH H_2 c1 = some (.int .u64 x2) ∧ cellH H_2 c0 = some (.int .u64 x) ∧ CallH P N.field_Times [.int .u64 x3, .int .u64 r, .int .u64 r2] H_2 fun v3 H_3 =>
  ∃ r3 : Int, v3 = .int .u64 r3 ∧ cellH H_3 c1 = some (.int .u64 x2) ∧ cellH H_3 c0 = some (.int .u64 x) ∧ CallH P N.field_Times [.int .u64 x, .int .u64 x2, .int .u64 r3] H_3 fun v4 H_4 =>
  ∃ r4 : Int, v4 = .int .u64 r4 ∧ R (.int .u64 r4) H_4) False) False
theorem pair_Raise_2.ok (i : Int) (j : Int) (c0 : Addr) (c1 : Addr) (c2 : Addr) (H : Heap) (R : Value → Heap → Prop) (h : pair_Raise_2.W i j c0 c1 c2 H R) : CallH P N.pair_Raise_2 ([.int .i64 i, .int .i64 j, .pointer (some c0), .pointer (some c1), .pointer (some c2)] : List Value) H R := by
  have e : pair_Raise_2.W i j c0 c1 c2 H R = sxFn P T Sh.R nf pair_Raise_2.A Try.f114.results.toList (bodyOf Try.f114) (([(.int .i64 i : Value), (.int .i64 j : Value), (.pointer (some c0) : Value), (.pointer (some c1) : Value), (.pointer (some c2) : Value)] : List Value) ++ List.replicate (19 - ([(.int .i64 i : Value), (.int .i64 j : Value), (.pointer (some c0) : Value), (.pointer (some c1) : Value), (.pointer (some c2) : Value)] : List Value).length) undef) H R := by kernel_rfl
  exact call_of_sx fits bodies mixed Try.func114 (c := bodyOf Try.f114) (by kernel_rfl) Try.ntmps114 pair_Raise_2.A (by kernel_rfl) (e.mp h)

end Go.Proofs.Ytlhcaangdenoaaa.Sh
