import Derived.Test.YtlhcaangdenoaaaShBase
set_option linter.unusedVariables false
set_option maxRecDepth 100000
namespace Go.Proofs.Ytlhcaangdenoaaa.Sh
open Go.Sx

/-! juntolaw06_alive -/
def juntolaw06_alive.A : Ann where
  loops := fun i => match i with
    | _ => []
  plans := fun i => match i with
    | _ => .stop
def juntolaw06_alive.W  (H : Heap) (R : Value → Heap → Prop) : Prop :=
  NewH (H.push (.cells #[.int .u64 2, .int .u64 5] 22 (0, 0))) fun H_ =>
  CallH P N.pair_Make [.int .u64 7, .int .u64 3, .int .i64 1, .slice (some (Addr.mk H.size 0 none)) 2 2] H_ fun v H_2 =>
  ∃ (r0A : Option Addr) (r0n r0c : Nat), ∃ (r1A : Option Addr) (r1n r1c : Nat), ∃ r2 : Int, v = .tuple #[.slice r0A r0n r0c, .slice r1A r1n r1c, .int .i64 r2] ∧ CallH P N.pair_Row [.int .u64 7, .int .i64 1, .slice r0A r0n r0c, .int .u64 1] H_2 fun v2 H_3 =>
  ∃ (r0A2 : Option Addr) (r0n2 r0c2 : Nat), ∃ r1 : Int, v2 = .tuple #[.slice r0A2 r0n2 r0c2, .int .i64 r1] ∧ CallH P N.pair_At [.int .u64 7, .int .i64 1, .slice r0A r0n r0c, .int .u64 1, .int .u64 2] H_3 fun v3 H_4 =>
  ∃ r0 : Int, ∃ r12 : Int, v3 = .tuple #[.int .u64 r0, .int .i64 r12] ∧ cond (r2 == 0) (NewH (H_4.push (.cells #[.int .u64 3, .int .u64 2] 22 (0, 0))) fun H_5 =>
  NewH (H_5.push (.cells #[.int .u64 2, .int .u64 5] 22 (0, 0))) fun H_6 =>
  NewH (H_6.push (.cells #[.slice (some (Addr.mk H_4.size 0 none)) 2 2, .slice (some (Addr.mk H_5.size 0 none)) 2 2] 30 (0, 0))) fun H_7 =>
  CallH P N.juntoref06_Same [.slice r0A r0n r0c, .slice (some (Addr.mk H_6.size 0 none)) 2 2] H_7 fun v4 H_8 =>
  ∃ r : Bool, v4 = .bool r ∧ cond r (cond (((r1n : Nat) : Int) == 0) (cond (r1 == 0) (NewH (H_8.push (.cells #[.int .u64 5] 22 (0, 0))) fun H_9 =>
  CallH P N.juntoref01_Same [.slice r0A2 r0n2 r0c2, .slice (some (Addr.mk H_8.size 0 none)) 1 1] H_9 fun v5 H_10 =>
  ∃ r3 : Bool, v5 = .bool r3 ∧ cond r3 (cond (r12 == 0) (cond (r0 == 5) (CallH P N.pair_Size [.int .i64 3] H_10 fun v6 H_11 =>
  ∃ r4 : Int, v6 = .int .i64 r4 ∧ R (.bool (r4 == 9)) H_11) (R (.bool false) H_10)) (R (.bool false) H_10)) (R (.bool false) H_10)) (R (.bool false) H_8)) (R (.bool false) H_8)) (R (.bool false) H_8)) (R (.bool false) H_4)
theorem juntolaw06_alive.ok  (H : Heap) (R : Value → Heap → Prop) (h : juntolaw06_alive.W  H R) : CallH P N.juntolaw06_alive ([] : List Value) H R := by
  have e : juntolaw06_alive.W  H R = sxFn P T Sh.R nf juntolaw06_alive.A Try.f28.results.toList (bodyOf Try.f28) (([] : List Value) ++ List.replicate (59 - ([] : List Value).length) undef) H R := by kernel_rfl
  exact call_of_sx fits bodies mixed Try.func28 (c := bodyOf Try.f28) (by kernel_rfl) Try.ntmps28 juntolaw06_alive.A (by kernel_rfl) (e.mp h)

/-! juntolaw06_is -/
def juntolaw06_is.A : Ann where
  loops := fun i => match i with
    | _ => []
  plans := fun i => match i with
    | _ => .stop
def juntolaw06_is.W (fA : Option Addr) (fn fc : Nat) (e : Int) (wantA : Option Addr) (wantn wantc : Nat) (bad : Int) (H : Heap) (R : Value → Heap → Prop) : Prop :=
  cond (bad != 0) (cond (e == bad) (R (.bool (((fn : Nat) : Int) == 0)) H) (R (.bool false) H))
   (cond (e == 0) (CallH P N.juntoref06_Same [.slice fA fn fc, .slice wantA wantn wantc] H fun v H_ =>
  ∃ r : Bool, v = .bool r ∧ R (.bool r) H_) (R (.bool false) H))
theorem juntolaw06_is.ok (fA : Option Addr) (fn fc : Nat) (e : Int) (wantA : Option Addr) (wantn wantc : Nat) (bad : Int) (H : Heap) (R : Value → Heap → Prop) (h : juntolaw06_is.W fA fn fc e wantA wantn wantc bad H R) : CallH P N.juntolaw06_is ([.slice fA fn fc, .int .i64 e, .slice wantA wantn wantc, .int .i64 bad] : List Value) H R := by
  have e : juntolaw06_is.W fA fn fc e wantA wantn wantc bad H R = sxFn P T Sh.R nf juntolaw06_is.A Try.f31.results.toList (bodyOf Try.f31) (([(.slice fA fn fc : Value), (.int .i64 e : Value), (.slice wantA wantn wantc : Value), (.int .i64 bad : Value)] : List Value) ++ List.replicate (26 - ([(.slice fA fn fc : Value), (.int .i64 e : Value), (.slice wantA wantn wantc : Value), (.int .i64 bad : Value)] : List Value).length) undef) H R := by kernel_rfl
  exact call_of_sx fits bodies mixed Try.func31 (c := bodyOf Try.f31) (by kernel_rfl) Try.ntmps31 juntolaw06_is.A (by kernel_rfl) (e.mp h)

/-! juntolaw06_number -/
def juntolaw06_number.A : Ann where
  loops := fun i => match i with
    | _ => []
  plans := fun i => match i with
    | _ => .stop
def juntolaw06_number.W (a : Int) (e : Int) (want : Int) (bad : Int) (H : Heap) (R : Value → Heap → Prop) : Prop :=
  cond (e == bad) (cond (bad != 0) (cond (a == 0) (R (.bool true) H) (cond (bad == 0) (R (.bool (a == want)) H) (R (.bool false) H))) (cond (bad == 0) (R (.bool (a == want)) H) (R (.bool false) H))) (R (.bool false) H)
theorem juntolaw06_number.ok (a : Int) (e : Int) (want : Int) (bad : Int) (H : Heap) (R : Value → Heap → Prop) (h : juntolaw06_number.W a e want bad H R) : CallH P N.juntolaw06_number ([.int .u64 a, .int .i64 e, .int .u64 want, .int .i64 bad] : List Value) H R := by
  have e : juntolaw06_number.W a e want bad H R = sxFn P T Sh.R nf juntolaw06_number.A Try.f36.results.toList (bodyOf Try.f36) (([(.int .u64 a : Value), (.int .i64 e : Value), (.int .u64 want : Value), (.int .i64 bad : Value)] : List Value) ++ List.replicate (29 - ([(.int .u64 a : Value), (.int .i64 e : Value), (.int .u64 want : Value), (.int .i64 bad : Value)] : List Value).length) undef) H R := by kernel_rfl
  exact call_of_sx fits bodies mixed Try.func36 (c := bodyOf Try.f36) (by kernel_rfl) Try.ntmps36 juntolaw06_number.A (by kernel_rfl) (e.mp h)

/-! juntolaw06_list -/
def juntolaw06_list.A : Ann where
  loops := fun i => match i with
    | _ => []
  plans := fun i => match i with
    | _ => .stop
def juntolaw06_list.W (lA : Option Addr) (ln lc : Nat) (e : Int) (wantA : Option Addr) (wantn wantc : Nat) (bad : Int) (H : Heap) (R : Value → Heap → Prop) : Prop :=
  cond (bad != 0) (cond (e == bad) (R (.bool (((ln : Nat) : Int) == 0)) H) (R (.bool false) H))
   (cond (e == 0) (CallH P N.juntoref01_Same [.slice lA ln lc, .slice wantA wantn wantc] H fun v H_ =>
  ∃ r : Bool, v = .bool r ∧ R (.bool r) H_) (R (.bool false) H))
theorem juntolaw06_list.ok (lA : Option Addr) (ln lc : Nat) (e : Int) (wantA : Option Addr) (wantn wantc : Nat) (bad : Int) (H : Heap) (R : Value → Heap → Prop) (h : juntolaw06_list.W lA ln lc e wantA wantn wantc bad H R) : CallH P N.juntolaw06_list ([.slice lA ln lc, .int .i64 e, .slice wantA wantn wantc, .int .i64 bad] : List Value) H R := by
  have e : juntolaw06_list.W lA ln lc e wantA wantn wantc bad H R = sxFn P T Sh.R nf juntolaw06_list.A Try.f37.results.toList (bodyOf Try.f37) (([(.slice lA ln lc : Value), (.int .i64 e : Value), (.slice wantA wantn wantc : Value), (.int .i64 bad : Value)] : List Value) ++ List.replicate (26 - ([(.slice lA ln lc : Value), (.int .i64 e : Value), (.slice wantA wantn wantc : Value), (.int .i64 bad : Value)] : List Value).length) undef) H R := by kernel_rfl
  exact call_of_sx fits bodies mixed Try.func37 (c := bodyOf Try.f37) (by kernel_rfl) Try.ntmps37 juntolaw06_list.A (by kernel_rfl) (e.mp h)

/-! juntolaw06_lift -/
def juntolaw06_lift.A : Ann where
  loops := fun i => match i with
    | _ => []
  plans := fun i => match i with
    | _ => .stop
def juntolaw06_lift.W (p : Int) (t : Int) (z_0 : Int) (z_1A : Option Addr) (z_1n z_1c : Nat) (H : Heap) (R : Value → Heap → Prop) : Prop :=
  NewH (H.push (.cells #[.int .u64 z_0, .slice z_1A z_1n z_1c] 69 (0, 0))) fun H_ =>
  ∃ x : Int, cellH H_ (Addr.mk H.size 0 none) = some (.int .u64 x) ∧ cond (decide (x ≥ p)) (R (.int .i64 2) H_)
   (∃ (xA : Option Addr) (xn xc : Nat), cellH H_ (((Addr.mk H.size 0 none)).add 1) = some (.slice xA xn xc) ∧ cond (decide (((xn : Nat) : Int) > (IntKind.i64.wrap (t + 1)))) (R (.int .i64 3) H_)
   (∃ (xA2 : Option Addr) (xn2 xc2 : Nat), cellH H_ (((Addr.mk H.size 0 none)).add 1) = some (.slice xA2 xn2 xc2) ∧ CallH P N.juntoref01_Within [.int .u64 p, .slice xA2 xn2 xc2] H_ fun v H_2 =>
  ∃ r : Int, v = .int .i64 r ∧ R (.int .i64 r) H_2))
theorem juntolaw06_lift.ok (p : Int) (t : Int) (z_0 : Int) (z_1A : Option Addr) (z_1n z_1c : Nat) (H : Heap) (R : Value → Heap → Prop) (h : juntolaw06_lift.W p t z_0 z_1A z_1n z_1c H R) : CallH P N.juntolaw06_lift ([.int .u64 p, .int .i64 t, .agg #[.int .u64 z_0, .slice z_1A z_1n z_1c]] : List Value) H R := by
  have e : juntolaw06_lift.W p t z_0 z_1A z_1n z_1c H R = sxFn P T Sh.R nf juntolaw06_lift.A Try.f48.results.toList (bodyOf Try.f48) (([(.int .u64 p : Value), (.int .i64 t : Value), (.agg #[.int .u64 z_0, .slice z_1A z_1n z_1c] : Value)] : List Value) ++ List.replicate (21 - ([(.int .u64 p : Value), (.int .i64 t : Value), (.agg #[.int .u64 z_0, .slice z_1A z_1n z_1c] : Value)] : List Value).length) undef) H R := by kernel_rfl
  exact call_of_sx fits bodies mixed Try.func48 (c := bodyOf Try.f48) (by kernel_rfl) Try.ntmps48 juntolaw06_lift.A (by kernel_rfl) (e.mp h)

end Go.Proofs.Ytlhcaangdenoaaa.Sh
