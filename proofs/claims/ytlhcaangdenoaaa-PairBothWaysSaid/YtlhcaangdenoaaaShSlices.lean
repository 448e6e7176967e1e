import Derived.Test.YtlhcaangdenoaaaShBase
set_option linter.unusedVariables false
set_option maxRecDepth 100000
namespace Go.Proofs.Ytlhcaangdenoaaa.Sh
open Go.Sx

/-! slices_ContainsFunc_uint64uint64 -/
def slices_ContainsFunc_uint64uint64.A : Ann where
  loops := fun i => match i with
    | _ => []
  plans := fun i => match i with
    | _ => .stop
def slices_ContainsFunc_uint64uint64.W (sA : Option Addr) (sn sc : Nat) (ff : Nat) (fa fb : Array Value) (H : Heap) (R : Value → Heap → Prop) : Prop :=
  CallH P N.slices_IndexFunc_uint64uint64 [.slice sA sn sc, .func (.func ff) fa fb] H fun v H_ =>
  ∃ r : Int, v = .int .i64 r ∧ R (.bool (decide (r ≥ 0))) H_
theorem slices_ContainsFunc_uint64uint64.ok (sA : Option Addr) (sn sc : Nat) (ff : Nat) (fa fb : Array Value) (H : Heap) (R : Value → Heap → Prop) (h : slices_ContainsFunc_uint64uint64.W sA sn sc ff fa fb H R) : CallH P N.slices_ContainsFunc_uint64uint64 ([.slice sA sn sc, .func (.func ff) fa fb] : List Value) H R := by
  have e : slices_ContainsFunc_uint64uint64.W sA sn sc ff fa fb H R = sxFn P T Sh.R nf slices_ContainsFunc_uint64uint64.A Try.f77.results.toList (bodyOf Try.f77) (([(.slice sA sn sc : Value), (.func (.func ff) fa fb : Value)] : List Value) ++ List.replicate (9 - ([(.slice sA sn sc : Value), (.func (.func ff) fa fb : Value)] : List Value).length) undef) H R := by kernel_rfl
  exact call_of_sx fits bodies mixed Try.func77 (c := bodyOf Try.f77) (by kernel_rfl) Try.ntmps77 slices_ContainsFunc_uint64uint64.A (by kernel_rfl) (e.mp h)

/-! slices_Equal_uint64uint64 -/
def slices_Equal_uint64uint64.A : Ann where
  loops := fun i => match i with
    | 16392 => [(13, .int .i64)]
    | _ => []
  plans := fun i => match i with
    | 6 => .first 0 (.first 1 (.first 2 (.first 4 (.first 5 (.first 6 (.read 3 (.read 7 (.first 8 (.done)))))))))
    | _ => .stop
def slices_Equal_uint64uint64.W (s1A : Option Addr) (s1n s1c : Nat) (s2A : Option Addr) (s2n s2c : Nat) (H : Heap) (R : Value → Heap → Prop) : Prop :=
  cond (((s1n : Nat) : Int) != ((s2n : Nat) : Int)) (R (.bool false) H)
   (LoopI (σ := Int) (fun κ => κ 0 H) fun s z H_ next =>
  cond (decide (s < ((s1n : Nat) : Int))) (∃ a : Addr, s1A = some a ∧ 0 ≤ s ∧ s < ((s1n : Nat) : Int) ∧ ∃ a2 : Addr, s2A = some a2 ∧ 0 ≤ s ∧ s < ((s2n : Nat) : Int) ∧ ∃ x : Int, cellH H_ (a.add (Int.toNat s)) = some (.int .u64 x) ∧ ∃ x2 : Int, cellH H_ (a2.add (Int.toNat s)) = some (.int .u64 x2) ∧ cond (x != x2) (R (.bool false) H_)
   (next (IntKind.i64.wrap (s + 1)) H_))
   (R (.bool true) H_))
theorem slices_Equal_uint64uint64.ok (s1A : Option Addr) (s1n s1c : Nat) (s2A : Option Addr) (s2n s2c : Nat) (H : Heap) (R : Value → Heap → Prop) (h : slices_Equal_uint64uint64.W s1A s1n s1c s2A s2n s2c H R) : CallH P N.slices_Equal_uint64uint64 ([.slice s1A s1n s1c, .slice s2A s2n s2c] : List Value) H R := by
  have e : slices_Equal_uint64uint64.W s1A s1n s1c s2A s2n s2c H R = sxFn P T Sh.R nf slices_Equal_uint64uint64.A Try.f102.results.toList (bodyOf Try.f102) (([(.slice s1A s1n s1c : Value), (.slice s2A s2n s2c : Value)] : List Value) ++ List.replicate (26 - ([(.slice s1A s1n s1c : Value), (.slice s2A s2n s2c : Value)] : List Value).length) undef) H R := by kernel_rfl
  exact call_of_sx fits bodies mixed Try.func102 (c := bodyOf Try.f102) (by kernel_rfl) Try.ntmps102 slices_Equal_uint64uint64.A (by kernel_rfl) (e.mp h)

/-! slices_Compare_intint -/
def slices_Compare_intint.A : Ann where
  loops := fun i => match i with
    | 8202 => [(11, .int .i64)]
    | _ => []
  plans := fun i => match i with
    | _ => .stop
def slices_Compare_intint.W (s1A : Option Addr) (s1n s1c : Nat) (s2A : Option Addr) (s2n s2c : Nat) (H : Heap) (R : Value → Heap → Prop) : Prop :=
  LoopI (σ := Int) (fun κ => κ 0 H) fun s z H_ next =>
  cond (decide (s < ((s1n : Nat) : Int))) (∃ a : Addr, s1A = some a ∧ 0 ≤ s ∧ s < ((s1n : Nat) : Int) ∧ ∃ x : Int, cellH H_ (a.add (Int.toNat s)) = some (.int .i64 x) ∧ cond (decide (s ≥ ((s2n : Nat) : Int))) (R (.int .i64 1) H_)
   (∃ a2 : Addr, s2A = some a2 ∧ 0 ≤ s ∧ s < ((s2n : Nat) : Int) ∧ ∃ x2 : Int, cellH H_ (a2.add (Int.toNat s)) = some (.int .i64 x2) ∧ CallH P N.cmp_Compare_int [.int .i64 x, .int .i64 x2] H_ fun v H_2 =>
  ∃ r : Int, v = .int .i64 r ∧ cond (r != 0) (R (.int .i64 r) H_2)
   (next (IntKind.i64.wrap (s + 1)) H_2)))
   (cond (decide (((s1n : Nat) : Int) < ((s2n : Nat) : Int))) (R (.int .i64 (-1)) H_)
   (R (.int .i64 0) H_))
theorem slices_Compare_intint.ok (s1A : Option Addr) (s1n s1c : Nat) (s2A : Option Addr) (s2n s2c : Nat) (H : Heap) (R : Value → Heap → Prop) (h : slices_Compare_intint.W s1A s1n s1c s2A s2n s2c H R) : CallH P N.slices_Compare_intint ([.slice s1A s1n s1c, .slice s2A s2n s2c] : List Value) H R := by
  have e : slices_Compare_intint.W s1A s1n s1c s2A s2n s2c H R = sxFn P T Sh.R nf slices_Compare_intint.A Try.f108.results.toList (bodyOf Try.f108) (([(.slice s1A s1n s1c : Value), (.slice s2A s2n s2c : Value)] : List Value) ++ List.replicate (36 - ([(.slice s1A s1n s1c : Value), (.slice s2A s2n s2c : Value)] : List Value).length) undef) H R := by kernel_rfl
  exact call_of_sx fits bodies mixed Try.func108 (c := bodyOf Try.f108) (by kernel_rfl) Try.ntmps108 slices_Compare_intint.A (by kernel_rfl) (e.mp h)

/-! slices_IndexFunc_uint64uint64 -/
def slices_IndexFunc_uint64uint64.A : Ann where
  loops := fun i => match i with
    | 8198 => [(8, .int .i64)]
    | _ => []
  plans := fun i => match i with
    | _ => .stop
def slices_IndexFunc_uint64uint64.W (sA : Option Addr) (sn sc : Nat) (ff : Nat) (fa fb : Array Value) (H : Heap) (R : Value → Heap → Prop) : Prop :=
  LoopI (σ := Int) (fun κ => κ 0 H) fun s z H_ next =>
  cond (decide (s < ((sn : Nat) : Int))) (∃ a : Addr, sA = some a ∧ 0 ≤ s ∧ s < ((sn : Nat) : Int) ∧ ∃ (xA : Option Addr) (xn xc : Nat), cellH H_ (a.add (Int.toNat s)) = some (.slice xA xn xc) ∧ cond (hasB nf ff) (CallH P ff (fa.toList ++ [.slice xA xn xc] ++ fb.toList) H_ fun v H_2 =>
  ∃ r : Bool, v = .bool r ∧ cond r (R (.int .i64 s) H_2)
   (next (IntKind.i64.wrap (s + 1)) H_2)) False)
   (R (.int .i64 (-1)) H_)
theorem slices_IndexFunc_uint64uint64.ok (sA : Option Addr) (sn sc : Nat) (ff : Nat) (fa fb : Array Value) (H : Heap) (R : Value → Heap → Prop) (h : slices_IndexFunc_uint64uint64.W sA sn sc ff fa fb H R) : CallH P N.slices_IndexFunc_uint64uint64 ([.slice sA sn sc, .func (.func ff) fa fb] : List Value) H R := by
  have e : slices_IndexFunc_uint64uint64.W sA sn sc ff fa fb H R = sxFn P T Sh.R nf slices_IndexFunc_uint64uint64.A Try.f109.results.toList (bodyOf Try.f109) (([(.slice sA sn sc : Value), (.func (.func ff) fa fb : Value)] : List Value) ++ List.replicate (19 - ([(.slice sA sn sc : Value), (.func (.func ff) fa fb : Value)] : List Value).length) undef) H R := by kernel_rfl
  exact call_of_sx fits bodies mixed Try.func109 (c := bodyOf Try.f109) (by kernel_rfl) Try.ntmps109 slices_IndexFunc_uint64uint64.A (by kernel_rfl) (e.mp h)

/-! slices_Backward_uint64uint64 -/
def slices_Backward_uint64uint64.A : Ann where
  loops := fun i => match i with
    | _ => []
  plans := fun i => match i with
    | _ => .stop
def slices_Backward_uint64uint64.W (sA : Option Addr) (sn sc : Nat) (H : Heap) (R : Value → Heap → Prop) : Prop :=
  NewH (H.push (.cells #[.slice sA sn sc] 30 (0, 0))) fun H_ =>
  R (.func (.func 133) #[] #[.pointer (some (Addr.mk H.size 0 none))]) H_
theorem slices_Backward_uint64uint64.ok (sA : Option Addr) (sn sc : Nat) (H : Heap) (R : Value → Heap → Prop) (h : slices_Backward_uint64uint64.W sA sn sc H R) : CallH P N.slices_Backward_uint64uint64 ([.slice sA sn sc] : List Value) H R := by
  have e : slices_Backward_uint64uint64.W sA sn sc H R = sxFn P T Sh.R nf slices_Backward_uint64uint64.A Try.f110.results.toList (bodyOf Try.f110) (([(.slice sA sn sc : Value)] : List Value) ++ List.replicate (4 - ([(.slice sA sn sc : Value)] : List Value).length) undef) H R := by kernel_rfl
  exact call_of_sx fits bodies mixed Try.func110 (c := bodyOf Try.f110) (by kernel_rfl) Try.ntmps110 slices_Backward_uint64uint64.A (by kernel_rfl) (e.mp h)

/-! slices_Clone_uint64uint64 -/
def slices_Clone_uint64uint64.A : Ann where
  loops := fun i => match i with
    | _ => []
  plans := fun i => match i with
    | _ => .stop
def slices_Clone_uint64uint64.W (sA : Option Addr) (sn sc : Nat) (H : Heap) (R : Value → Heap → Prop) : Prop :=
  cond (Option.isNone sA) (R (.slice none 0 0) H)
   (NewH (H.push (.cells #[] 22 (0, 0))) fun H_ =>
  AppendV 22 1 8 [.int .u64 0] H_ (some (Addr.mk H.size 0 none)) 0 0 sA sn fun vA vn vc H_2 =>
  R (.slice vA vn vc) H_2)
theorem slices_Clone_uint64uint64.ok (sA : Option Addr) (sn sc : Nat) (H : Heap) (R : Value → Heap → Prop) (h : slices_Clone_uint64uint64.W sA sn sc H R) : CallH P N.slices_Clone_uint64uint64 ([.slice sA sn sc] : List Value) H R := by
  have e : slices_Clone_uint64uint64.W sA sn sc H R = sxFn P T Sh.R nf slices_Clone_uint64uint64.A Try.f117.results.toList (bodyOf Try.f117) (([(.slice sA sn sc : Value)] : List Value) ++ List.replicate (8 - ([(.slice sA sn sc : Value)] : List Value).length) undef) H R := by kernel_rfl
  exact call_of_sx fits bodies mixed Try.func117 (c := bodyOf Try.f117) (by kernel_rfl) Try.ntmps117 slices_Clone_uint64uint64.A (by kernel_rfl) (e.mp h)

/-! slices_Contains_uint64uint64 -/
def slices_Contains_uint64uint64.A : Ann where
  loops := fun i => match i with
    | _ => []
  plans := fun i => match i with
    | _ => .stop
def slices_Contains_uint64uint64.W (sA : Option Addr) (sn sc : Nat) (v : Int) (H : Heap) (R : Value → Heap → Prop) : Prop :=
  CallH P N.slices_Index_uint64uint64 [.slice sA sn sc, .int .u64 v] H fun v2 H_ =>
  ∃ r : Int, v2 = .int .i64 r ∧ R (.bool (decide (r ≥ 0))) H_
theorem slices_Contains_uint64uint64.ok (sA : Option Addr) (sn sc : Nat) (v : Int) (H : Heap) (R : Value → Heap → Prop) (h : slices_Contains_uint64uint64.W sA sn sc v H R) : CallH P N.slices_Contains_uint64uint64 ([.slice sA sn sc, .int .u64 v] : List Value) H R := by
  have e : slices_Contains_uint64uint64.W sA sn sc v H R = sxFn P T Sh.R nf slices_Contains_uint64uint64.A Try.f124.results.toList (bodyOf Try.f124) (([(.slice sA sn sc : Value), (.int .u64 v : Value)] : List Value) ++ List.replicate (9 - ([(.slice sA sn sc : Value), (.int .u64 v : Value)] : List Value).length) undef) H R := by kernel_rfl
  exact call_of_sx fits bodies mixed Try.func124 (c := bodyOf Try.f124) (by kernel_rfl) Try.ntmps124 slices_Contains_uint64uint64.A (by kernel_rfl) (e.mp h)

/-! slices_Backward_uint64uint64_1 -/
def slices_Backward_uint64uint64_1.A : Ann where
  loops := fun i => match i with
    | 4098 => [(3, .int .i64)]
    | _ => []
  plans := fun i => match i with
    | _ => .stop
def slices_Backward_uint64uint64_1.W (yieldf : Nat) (yielda yieldb : Array Value) (c0 : Addr) (H : Heap) (R : Value → Heap → Prop) : Prop :=
  ∃ (xA : Option Addr) (xn xc : Nat), cellH H c0 = some (.slice xA xn xc) ∧ LoopI (σ := Int) (fun κ => κ (IntKind.i64.wrap (((xn : Nat) : Int) - 1)) H) fun s z H_ next =>
  cond (decide (s ≥ 0)) (∃ (xA2 : Option Addr) (xn2 xc2 : Nat), cellH H_ c0 = some (.slice xA2 xn2 xc2) ∧ ∃ a : Addr, xA2 = some a ∧ 0 ≤ s ∧ s < ((xn2 : Nat) : Int) ∧ ∃ x : Int, cellH H_ (a.add (Int.toNat s)) = some (.int .u64 x) ∧ cond (hasB nf yieldf) (CallH P yieldf (yielda.toList ++ [.int .i64 s, .int .u64 x] ++ yieldb.toList) H_ fun v H_2 =>
  ∃ r : Bool, v = .bool r ∧ cond (!r) (R (.tuple #[]) H_2)
   (next (IntKind.i64.wrap (s - 1)) H_2)) False)
   (R (.tuple #[]) H_)
theorem slices_Backward_uint64uint64_1.ok (yieldf : Nat) (yielda yieldb : Array Value) (c0 : Addr) (H : Heap) (R : Value → Heap → Prop) (h : slices_Backward_uint64uint64_1.W yieldf yielda yieldb c0 H R) : CallH P N.slices_Backward_uint64uint64_1 ([.func (.func yieldf) yielda yieldb, .pointer (some c0)] : List Value) H R := by
  have e : slices_Backward_uint64uint64_1.W yieldf yielda yieldb c0 H R = sxFn P T Sh.R nf slices_Backward_uint64uint64_1.A Try.f133.results.toList (bodyOf Try.f133) (([(.func (.func yieldf) yielda yieldb : Value), (.pointer (some c0) : Value)] : List Value) ++ List.replicate (19 - ([(.func (.func yieldf) yielda yieldb : Value), (.pointer (some c0) : Value)] : List Value).length) undef) H R := by kernel_rfl
  exact call_of_sx fits bodies mixed Try.func133 (c := bodyOf Try.f133) (by kernel_rfl) Try.ntmps133 slices_Backward_uint64uint64_1.A (by kernel_rfl) (e.mp h)

/-! slices_Index_uint64uint64 -/
def slices_Index_uint64uint64.A : Ann where
  loops := fun i => match i with
    | 8198 => [(8, .int .i64)]
    | _ => []
  plans := fun i => match i with
    | _ => .stop
def slices_Index_uint64uint64.W (sA : Option Addr) (sn sc : Nat) (v : Int) (H : Heap) (R : Value → Heap → Prop) : Prop :=
  LoopI (σ := Int) (fun κ => κ 0 H) fun s z H_ next =>
  cond (decide (s < ((sn : Nat) : Int))) (∃ a : Addr, sA = some a ∧ 0 ≤ s ∧ s < ((sn : Nat) : Int) ∧ ∃ x : Int, cellH H_ (a.add (Int.toNat s)) = some (.int .u64 x) ∧ cond (v == x) (R (.int .i64 s) H_)
   (next (IntKind.i64.wrap (s + 1)) H_))
   (R (.int .i64 (-1)) H_)
theorem slices_Index_uint64uint64.ok (sA : Option Addr) (sn sc : Nat) (v : Int) (H : Heap) (R : Value → Heap → Prop) (h : slices_Index_uint64uint64.W sA sn sc v H R) : CallH P N.slices_Index_uint64uint64 ([.slice sA sn sc, .int .u64 v] : List Value) H R := by
  have e : slices_Index_uint64uint64.W sA sn sc v H R = sxFn P T Sh.R nf slices_Index_uint64uint64.A Try.f140.results.toList (bodyOf Try.f140) (([(.slice sA sn sc : Value), (.int .u64 v : Value)] : List Value) ++ List.replicate (19 - ([(.slice sA sn sc : Value), (.int .u64 v : Value)] : List Value).length) undef) H R := by kernel_rfl
  exact call_of_sx fits bodies mixed Try.func140 (c := bodyOf Try.f140) (by kernel_rfl) Try.ntmps140 slices_Index_uint64uint64.A (by kernel_rfl) (e.mp h)

end Go.Proofs.Ytlhcaangdenoaaa.Sh
