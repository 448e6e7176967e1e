import Derived.Test.YtlhcaangdenoaaaTypes
import Derived.Test.YtlhcaangdenoaaaFnJuntoref01
import Derived.Test.YtlhcaangdenoaaaFnJuntoref06
import Derived.Test.YtlhcaangdenoaaaFnPair
set_option linter.unusedVariables false
set_option linter.unusedSimpArgs false
set_option maxRecDepth 100000
namespace Go.Proofs.Ytlhcaangdenoaaa.Sh
open Go.Sx

/-! juntolaw06_alive -/
def juntolaw06_alive.A : Ann where
  loops := fun i => match i with
    | _ => []
  plans := fun i => match i with
    | _ => .stop
def juntolaw06_alive.W  (H : Heap) (R : Value → Heap → Prop) : Prop :=
  NewH (H.push (.cells #[.int .u64 2, .int .u64 5] 22 (0, 0))) fun H_ =>
  CallH P N.pair_Make [.int .u64 7, .int .u64 3, .int .i64 1, .slice (some (Addr.mk H.size 0 none)) 2 2] H_ fun v H_2 =>
  ∃ (r0A : Option Addr) (r0n r0c : Nat), ∃ (r1A : Option Addr) (r1n r1c : Nat), ∃ r2 : Int, v = .tuple #[.slice r0A r0n r0c, .slice r1A r1n r1c, .int .i64 r2] ∧ CallH P N.pair_Row [.int .u64 7, .int .i64 1, .slice r0A r0n r0c, .int .u64 1] H_2 fun v2 H_3 =>
  ∃ (r0A2 : Option Addr) (r0n2 r0c2 : Nat), ∃ r1 : Int, v2 = .tuple #[.slice r0A2 r0n2 r0c2, .int .i64 r1] ∧ CallH P N.pair_At [.int .u64 7, .int .i64 1, .slice r0A r0n r0c, .int .u64 1, .int .u64 2] H_3 fun v3 H_4 =>
  ∃ r0 : Int, ∃ r12 : Int, v3 = .tuple #[.int .u64 r0, .int .i64 r12] ∧ cond (r2 == 0) (NewH (H_4.push (.cells #[.int .u64 3, .int .u64 2] 22 (0, 0))) fun H_5 =>
  NewH (H_5.push (.cells #[.int .u64 2, .int .u64 5] 22 (0, 0))) fun H_6 =>
  NewH (H_6.push (.cells #[.slice (some (Addr.mk H_4.size 0 none)) 2 2, .slice (some (Addr.mk H_5.size 0 none)) 2 2] 30 (0, 0))) fun H_7 =>
  CallH P N.juntoref06_Same [.slice r0A r0n r0c, .slice (some (Addr.mk H_6.size 0 none)) 2 2] H_7 fun v4 H_8 =>
  ∃ r : Bool, v4 = .bool r ∧ cond r (cond (((r1n : Nat) : Int) == 0) (cond (r1 == 0) (NewH (H_8.push (.cells #[.int .u64 5] 22 (0, 0))) fun H_9 =>
  CallH P N.juntoref01_Same [.slice r0A2 r0n2 r0c2, .slice (some (Addr.mk H_8.size 0 none)) 1 1] H_9 fun v5 H_10 =>
  ∃ r3 : Bool, v5 = .bool r3 ∧ cond r3 (cond (r12 == 0) (cond (r0 == 5) (CallH P N.pair_Size [.int .i64 3] H_10 fun v6 H_11 =>
  ∃ r4 : Int, v6 = .int .i64 r4 ∧ R (.bool (r4 == 9)) H_11) (R (.bool false) H_10)) (R (.bool false) H_10)) (R (.bool false) H_10)) (R (.bool false) H_8)) (R (.bool false) H_8)) (R (.bool false) H_8)) (R (.bool false) H_4)
theorem juntolaw06_alive.ok  (H : Heap) (R : Value → Heap → Prop) (h : juntolaw06_alive.W  H R) : CallH P N.juntolaw06_alive ([] : List Value) H R := by
  have e : juntolaw06_alive.W  H R = sxFn P T Sh.R nf juntolaw06_alive.A Try.f28.results.toList (bodyOf Try.f28) (([] : List Value) ++ List.replicate (59 - ([] : List Value).length) undef) H R := by kernel_rfl
  exact call_of_sx fits bodies mixed Try.func28 (c := bodyOf Try.f28) (by kernel_rfl) Try.ntmps28 juntolaw06_alive.A (by kernel_rfl) (e.mp h)

/-! juntolaw06_is -/
def juntolaw06_is.A : Ann where
  loops := fun i => match i with
    | _ => []
  plans := fun i => match i with
    | _ => .stop
def juntolaw06_is.W (fA : Option Addr) (fn fc : Nat) (e : Int) (wantA : Option Addr) (wantn wantc : Nat) (bad : Int) (H : Heap) (R : Value → Heap → Prop) : Prop :=
  cond (bad != 0) (cond (e == bad) (R (.bool (((fn : Nat) : Int) == 0)) H) (R (.bool false) H))
   (cond (e == 0) (CallH P N.juntoref06_Same [.slice fA fn fc, .slice wantA wantn wantc] H fun v H_ =>
  ∃ r : Bool, v = .bool r ∧ R (.bool r) H_) (R (.bool false) H))
theorem juntolaw06_is.ok (fA : Option Addr) (fn fc : Nat) (e : Int) (wantA : Option Addr) (wantn wantc : Nat) (bad : Int) (H : Heap) (R : Value → Heap → Prop) (h : juntolaw06_is.W fA fn fc e wantA wantn wantc bad H R) : CallH P N.juntolaw06_is ([.slice fA fn fc, .int .i64 e, .slice wantA wantn wantc, .int .i64 bad] : List Value) H R := by
  have e : juntolaw06_is.W fA fn fc e wantA wantn wantc bad H R = sxFn P T Sh.R nf juntolaw06_is.A Try.f31.results.toList (bodyOf Try.f31) (([(.slice fA fn fc : Value), (.int .i64 e : Value), (.slice wantA wantn wantc : Value), (.int .i64 bad : Value)] : List Value) ++ List.replicate (26 - ([(.slice fA fn fc : Value), (.int .i64 e : Value), (.slice wantA wantn wantc : Value), (.int .i64 bad : Value)] : List Value).length) undef) H R := by kernel_rfl
  exact call_of_sx fits bodies mixed Try.func31 (c := bodyOf Try.f31) (by kernel_rfl) Try.ntmps31 juntolaw06_is.A (by kernel_rfl) (e.mp h)

/-! juntolaw06_number -/
def juntolaw06_number.A : Ann where
  loops := fun i => match i with
    | _ => []
  plans := fun i => match i with
    | _ => .stop
def juntolaw06_number.W (a : Int) (e : Int) (want : Int) (bad : Int) (H : Heap) (R : Value → Heap → Prop) : Prop :=
  cond (e == bad) (cond (bad != 0) (cond (a == 0) (R (.bool true) H) (cond (bad == 0) (R (.bool (a == want)) H) (R (.bool false) H))) (cond (bad == 0) (R (.bool (a == want)) H) (R (.bool false) H))) (R (.bool false) H)
theorem juntolaw06_number.ok (a : Int) (e : Int) (want : Int) (bad : Int) (H : Heap) (R : Value → Heap → Prop) (h : juntolaw06_number.W a e want bad H R) : CallH P N.juntolaw06_number ([.int .u64 a, .int .i64 e, .int .u64 want, .int .i64 bad] : List Value) H R := by
  have e : juntolaw06_number.W a e want bad H R = sxFn P T Sh.R nf juntolaw06_number.A Try.f36.results.toList (bodyOf Try.f36) (([(.int .u64 a : Value), (.int .i64 e : Value), (.int .u64 want : Value), (.int .i64 bad : Value)] : List Value) ++ List.replicate (29 - ([(.int .u64 a : Value), (.int .i64 e : Value), (.int .u64 want : Value), (.int .i64 bad : Value)] : List Value).length) undef) H R := by kernel_rfl
  exact call_of_sx fits bodies mixed Try.func36 (c := bodyOf Try.f36) (by kernel_rfl) Try.ntmps36 juntolaw06_number.A (by kernel_rfl) (e.mp h)

/-! juntolaw06_list -/
def juntolaw06_list.A : Ann where
  loops := fun i => match i with
    | _ => []
  plans := fun i => match i with
    | _ => .stop
def juntolaw06_list.W (lA : Option Addr) (ln lc : Nat) (e : Int) (wantA : Option Addr) (wantn wantc : Nat) (bad : Int) (H : Heap) (R : Value → Heap → Prop) : Prop :=
  cond (bad != 0) (cond (e == bad) (R (.bool (((ln : Nat) : Int) == 0)) H) (R (.bool false) H))
   (cond (e == 0) (CallH P N.juntoref01_Same [.slice lA ln lc, .slice wantA wantn wantc] H fun v H_ =>
  ∃ r : Bool, v = .bool r ∧ R (.bool r) H_) (R (.bool false) H))
theorem juntolaw06_list.ok (lA : Option Addr) (ln lc : Nat) (e : Int) (wantA : Option Addr) (wantn wantc : Nat) (bad : Int) (H : Heap) (R : Value → Heap → Prop) (h : juntolaw06_list.W lA ln lc e wantA wantn wantc bad H R) : CallH P N.juntolaw06_list ([.slice lA ln lc, .int .i64 e, .slice wantA wantn wantc, .int .i64 bad] : List Value) H R := by
  have e : juntolaw06_list.W lA ln lc e wantA wantn wantc bad H R = sxFn P T Sh.R nf juntolaw06_list.A Try.f37.results.toList (bodyOf Try.f37) (([(.slice lA ln lc : Value), (.int .i64 e : Value), (.slice wantA wantn wantc : Value), (.int .i64 bad : Value)] : List Value) ++ List.replicate (26 - ([(.slice lA ln lc : Value), (.int .i64 e : Value), (.slice wantA wantn wantc : Value), (.int .i64 bad : Value)] : List Value).length) undef) H R := by kernel_rfl
  exact call_of_sx fits bodies mixed Try.func37 (c := bodyOf Try.f37) (by kernel_rfl) Try.ntmps37 juntolaw06_list.A (by kernel_rfl) (e.mp h)

/-! juntolaw06_lift -/
def juntolaw06_lift.A : Ann where
  loops := fun i => match i with
    | _ => []
  plans := fun i => match i with
    | _ => .stop
def juntolaw06_lift.W (p : Int) (t : Int) (z_0 : Int) (z_1A : Option Addr) (z_1n z_1c : Nat) (H : Heap) (R : Value → Heap → Prop) : Prop :=
  NewH (H.push (.cells #[.int .u64 z_0, .slice z_1A z_1n z_1c] 69 (0, 0))) fun H_ =>
  ∃ x : Int, cellH H_ (Addr.mk H.size 0 none) = some (.int .u64 x) ∧ cond (decide (x ≥ p)) (R (.int .i64 2) H_)
   (∃ (xA : Option Addr) (xn xc : Nat), cellH H_ (((Addr.mk H.size 0 none)).add 1) = some (.slice xA xn xc) ∧ cond (decide (((xn : Nat) : Int) > (IntKind.i64.wrap (t + 1)))) (R (.int .i64 3) H_)
   (∃ (xA2 : Option Addr) (xn2 xc2 : Nat), cellH H_ (((Addr.mk H.size 0 none)).add 1) = some (.slice xA2 xn2 xc2) ∧ CallH P N.juntoref01_Within [.int .u64 p, .slice xA2 xn2 xc2] H_ fun v H_2 =>
  ∃ r : Int, v = .int .i64 r ∧ R (.int .i64 r) H_2))
theorem juntolaw06_lift.ok (p : Int) (t : Int) (z_0 : Int) (z_1A : Option Addr) (z_1n z_1c : Nat) (H : Heap) (R : Value → Heap → Prop) (h : juntolaw06_lift.W p t z_0 z_1A z_1n z_1c H R) : CallH P N.juntolaw06_lift ([.int .u64 p, .int .i64 t, .agg #[.int .u64 z_0, .slice z_1A z_1n z_1c]] : List Value) H R := by
  have e : juntolaw06_lift.W p t z_0 z_1A z_1n z_1c H R = sxFn P T Sh.R nf juntolaw06_lift.A Try.f48.results.toList (bodyOf Try.f48) (([(.int .u64 p : Value), (.int .i64 t : Value), (.agg #[.int .u64 z_0, .slice z_1A z_1n z_1c] : Value)] : List Value) ++ List.replicate (21 - ([(.int .u64 p : Value), (.int .i64 t : Value), (.agg #[.int .u64 z_0, .slice z_1A z_1n z_1c] : Value)] : List Value).length) undef) H R := by kernel_rfl
  exact call_of_sx fits bodies mixed Try.func48 (c := bodyOf Try.f48) (by kernel_rfl) Try.ntmps48 juntolaw06_lift.A (by kernel_rfl) (e.mp h)

end Go.Proofs.Ytlhcaangdenoaaa.Sh

namespace Go.Proofs.Ytlhcaangdenoaaa.Sh
open Go.Sx Go.Lf

/-! juntolaw06_alive -/
def juntolaw06_alive.C  (K : Bool → Prop) : Prop :=
  ∀ (Z : Nat → Prop) (H : Heap), ∀ KK : Value → Heap → Prop,
    (∀ (Z' : Nat → Prop) (H' : Heap), Ext H H' → Old Z H Z' → ∀ (r0 : Bool), K r0 → KK (.bool r0) H') →
    CallH P N.juntolaw06_alive [] H KK
def juntolaw06_alive.Q  (K : Bool → Prop) : Prop :=
  pair_Make.C 7 3 1 ([2, 5]) (fun (r : (List (List Nat))) (r2 : (List Nat)) (r3 : Int) =>
  pair_Row.C 7 1 r 1 (fun (r4 : (List Nat)) (r5 : Int) =>
  pair_At.C 7 1 r 1 2 (fun (r6 : Nat) (r7 : Int) =>
  cond (r3 == 0) (juntoref06_Same.C r ([[3, 2], [2, 5]]) (fun (x : Bool) =>
  cond x (cond (((r2.length : Nat) : Int) == 0) (cond (r5 == 0) (juntoref01_Same.C r4 ([5]) (fun (x2 : Bool) =>
  cond x2 (cond (r7 == 0) (cond ((r6 : Int) == 5) (pair_Size.C 3 (fun (x3 : Int) =>
  K (x3 == 9)))
   (K false))
   (K false))
   (K false)))
   (K false))
   (K false))
   (K false)))
   (K false))))
theorem juntolaw06_alive.q  {K : Bool → Prop} (q : juntolaw06_alive.Q  K) : juntolaw06_alive.C  K := by
  intro Z H  KK hk
  apply juntolaw06_alive.ok
  unfold juntolaw06_alive.W
  unfold juntolaw06_alive.Q at q
  obtain ⟨σ, hz, hσ⟩ := tags Z
  have hs : Stp ([1, 2, 3, 4, 5, 6, 7, 8] : List Nat) σ H σ H := Stp.refl _ _ _
  clear hz
  refine NewH.mk fun H_ e => ?_
  obtain ⟨xσ, st, f⟩ := SlO.lit (E := u64L) σ 1 (xs := [2, 5]) (l := [[_], [_]]) e rfl (.cons rfl (.cons rfl .nil)) (show (2 : Nat) ≤ 17592186044416 by decide)
  replace hs := hs.trans st
  obtain ⟨xσ2, st2, f⟩ := SlO.freeze f
  replace hs := hs.trans st2
  refine q (Zt xσ2) H_ _ rfl _ rfl _ _ _ rfl f _ (fun Z2 H_2 hE hO r Y hY A n c hn f2 r2 Y2 hY2 A2 n2 c2 hn2 f3 r3 hY3 q => ?_)
  obtain ⟨xσ3, st3, fz, fy, fy2⟩ := call2 hE hO xσ2 2 3 (fun _ h => h) hY hY2 hY3
  replace f2 := f2.keep fz fy
  replace f3 := f3.keep fz fy2
  cases hn
  cases hn2
  replace f := f.step st3
  replace hs := hs.trans st3
  refine ⟨_, _, _, _, _, _, _, rfl, ?_⟩
  refine q (fun i => xσ3 i = 0 ∨ xσ3 i = 2) H_2 _ rfl _ _ _ rfl (f2.read (fun i h => .inl h) (fun i h => .inr (h))) _ rfl _ (fun Z3 H_3 hE2 hO2 r4 Y3 hY4 A3 n3 c3 hn3 f4 r5 q => ?_)
  obtain ⟨xσ4, st4, fy3⟩ := callB1 hE2 hO2 xσ3 4 hY4
  replace f4 := (SlO.anyZ (Z' := Zt xσ4) u64_flatL f4).keep (Fr.refl _ _) fy3
  cases hn3
  replace f := f.step st4
  replace f2 := f2.step st4
  replace f3 := f3.step st4
  replace hs := hs.trans st4
  refine ⟨_, _, _, _, rfl, ?_⟩
  refine q (fun i => xσ4 i = 0 ∨ xσ4 i = 2) H_3 _ rfl _ _ _ rfl (f2.read (fun i h => .inl h) (fun i h => .inr (h))) _ rfl _ rfl _ (fun Z4 H_4 hE3 hO3 r6 v he r7 q => ?_)
  obtain ⟨xσ5, st5⟩ := call0 hE3 xσ4
  cases he
  replace f := f.step st5
  replace f2 := f2.step st5
  replace f3 := f3.step st5
  replace f4 := f4.step st5
  replace hs := hs.trans st5
  refine ⟨_, _, rfl, ?_⟩
  refine condI (fun q => ?_) (fun q => ?_) q
  · refine NewH.mk fun H_5 e2 => ?_
    obtain ⟨xσ6, st6, f5⟩ := SlO.lit (E := u64L) xσ5 5 (xs := [3, 2]) (l := [[_], [_]]) e2 rfl (.cons rfl (.cons rfl .nil)) (show (2 : Nat) ≤ 17592186044416 by decide)
    replace f := f.step st6
    replace f2 := f2.step st6
    replace f3 := f3.step st6
    replace f4 := f4.step st6
    replace hs := hs.trans st6
    refine NewH.mk fun H_6 e3 => ?_
    obtain ⟨xσ7, st7, f6⟩ := SlO.lit (E := u64L) xσ6 6 (xs := [2, 5]) (l := [[_], [_]]) e3 rfl (.cons rfl (.cons rfl .nil)) (show (2 : Nat) ≤ 17592186044416 by decide)
    replace f := f.step st7
    replace f2 := f2.step st7
    replace f3 := f3.step st7
    replace f4 := f4.step st7
    replace f5 := f5.step st7
    replace hs := hs.trans st7
    obtain ⟨xσ8, st8, f5⟩ := SlO.freeze f5
    replace f := f.step st8
    replace f2 := f2.step st8
    replace f3 := f3.step st8
    replace f4 := f4.step st8
    replace f6 := f6.step st8
    replace hs := hs.trans st8
    obtain ⟨xσ9, st9, f6⟩ := SlO.freeze f6
    replace f := f.step st9
    replace f2 := f2.step st9
    replace f3 := f3.step st9
    replace f4 := f4.step st9
    replace f5 := f5.step st9
    replace hs := hs.trans st9
    refine NewH.mk fun H_7 e4 => ?_
    obtain ⟨xσ10, st10, f7⟩ := SlO.lit (E := (slL u64L)) xσ9 7 (xs := [[3, 2], [2, 5]]) (l := [[_], [_]]) e4 rfl (.cons (slL_rep rfl f5) (.cons (slL_rep rfl f6) .nil)) (show (2 : Nat) ≤ 17592186044416 by decide)
    replace f := f.step st10
    replace f2 := f2.step st10
    replace f3 := f3.step st10
    replace f4 := f4.step st10
    replace f5 := f5.step st10
    replace f6 := f6.step st10
    replace hs := hs.trans st10
    refine q (fun i => xσ10 i = 0 ∨ xσ10 i = 2 ∨ xσ10 i = 7) H_7 _ _ _ rfl (f2.read (fun i h => .inl h) (fun i h => .inr (.inl h))) _ _ _ rfl (f7.read (fun i h => .inl h) (fun i h => .inr (.inr (h)))) _ (fun Z5 H_8 hE4 hO4 x q => ?_)
    obtain ⟨xσ11, st11⟩ := call0 hE4 xσ10
    replace f := f.step st11
    replace f2 := f2.step st11
    replace f3 := f3.step st11
    replace f4 := f4.step st11
    replace f5 := f5.step st11
    replace f6 := f6.step st11
    replace f7 := f7.step st11
    replace hs := hs.trans st11
    refine ⟨_, rfl, ?_⟩
    refine condI (fun q => ?_) (fun q => ?_) q
    · refine condI (fun q => ?_) (fun q => ?_) q
      · refine condI (fun q => ?_) (fun q => ?_) q
        · refine NewH.mk fun H_9 e5 => ?_
          obtain ⟨xσ12, st12, f8⟩ := SlO.lit (E := u64L) xσ11 8 (xs := [5]) (l := [[_]]) e5 rfl (.cons rfl .nil) (show (1 : Nat) ≤ 17592186044416 by decide)
          replace f := f.step st12
          replace f2 := f2.step st12
          replace f3 := f3.step st12
          replace f4 := f4.step st12
          replace f5 := f5.step st12
          replace f6 := f6.step st12
          replace f7 := f7.step st12
          replace hs := hs.trans st12
          refine q (fun i => xσ12 i = 0 ∨ xσ12 i = 4 ∨ xσ12 i = 8) H_9 _ _ _ rfl (f4.read (fun i h => .inl h) (fun i h => .inr (.inl h))) _ _ _ rfl (f8.read (fun i h => .inl h) (fun i h => .inr (.inr (h)))) _ (fun Z6 H_10 hE5 hO5 x2 q => ?_)
          obtain ⟨xσ13, st13⟩ := call0 hE5 xσ12
          replace f := f.step st13
          replace f2 := f2.step st13
          replace f3 := f3.step st13
          replace f4 := f4.step st13
          replace f5 := f5.step st13
          replace f6 := f6.step st13
          replace f7 := f7.step st13
          replace f8 := f8.step st13
          replace hs := hs.trans st13
          refine ⟨_, rfl, ?_⟩
          refine condI (fun q => ?_) (fun q => ?_) q
          · refine condI (fun q => ?_) (fun q => ?_) q
            · refine condI (fun q => ?_) (fun q => ?_) q
              · refine q (Zt xσ13) H_10  _ (fun Z7 H_11 hE6 hO6 x3 q => ?_)
                obtain ⟨xσ14, st14⟩ := call0 hE6 xσ13
                replace f := f.step st14
                replace f2 := f2.step st14
                replace f3 := f3.step st14
                replace f4 := f4.step st14
                replace f5 := f5.step st14
                replace f6 := f6.step st14
                replace f7 := f7.step st14
                replace f8 := f8.step st14
                replace hs := hs.trans st14
                refine ⟨_, rfl, ?_⟩
                exact hk (Zt xσ14) _ (hs.ext hσ) (hs.old hσ) _ q
              · exact hk (Zt xσ13) _ (hs.ext hσ) (hs.old hσ) _ q
            · exact hk (Zt xσ13) _ (hs.ext hσ) (hs.old hσ) _ q
          · exact hk (Zt xσ13) _ (hs.ext hσ) (hs.old hσ) _ q
        · exact hk (Zt xσ11) _ (hs.ext hσ) (hs.old hσ) _ q
      · exact hk (Zt xσ11) _ (hs.ext hσ) (hs.old hσ) _ q
    · exact hk (Zt xσ11) _ (hs.ext hσ) (hs.old hσ) _ q
  · exact hk (Zt xσ5) _ (hs.ext hσ) (hs.old hσ) _ q

/-! juntolaw06_is -/
def juntolaw06_is.C (f : (List (List Nat))) (e : Int) (want : (List (List Nat))) (bad : Int) (K : Bool → Prop) : Prop :=
  ∀ (Z : Nat → Prop) (H : Heap), ∀ (fA : Option Addr) (fn fc : Nat), fn = f.length → SlF (slL u64L) Z H fA fc f → ∀ (wantA : Option Addr) (wantn wantc : Nat), wantn = want.length → SlF (slL u64L) Z H wantA wantc want → ∀ KK : Value → Heap → Prop,
    (∀ (Z' : Nat → Prop) (H' : Heap), Ext H H' → Old Z H Z' → ∀ (r0 : Bool), K r0 → KK (.bool r0) H') →
    CallH P N.juntolaw06_is [.slice fA fn fc, .int .i64 e, .slice wantA wantn wantc, .int .i64 bad] H KK
def juntolaw06_is.Q (f : (List (List Nat))) (e : Int) (want : (List (List Nat))) (bad : Int) (K : Bool → Prop) : Prop :=
  cond (bad != 0) (cond (e == bad) (K (((f.length : Nat) : Int) == 0))
   (K false))
   (cond (e == 0) (juntoref06_Same.C f want (fun (x : Bool) =>
  K x))
   (K false))
theorem juntolaw06_is.q {f : (List (List Nat))} {e : Int} {want : (List (List Nat))} {bad : Int} {K : Bool → Prop} (q : juntolaw06_is.Q f e want bad K) : juntolaw06_is.C f e want bad K := by
  intro Z H fA fn fc hn f2 wantA wantn wantc hn2 f3 KK hk
  cases hn
  cases hn2
  apply juntolaw06_is.ok
  unfold juntolaw06_is.W
  unfold juntolaw06_is.Q at q
  obtain ⟨σ, hz, hσ⟩ := tags Z
  have hs : Stp ([] : List Nat) σ H σ H := Stp.refl _ _ _
  replace f2 := f2.wide hz
  replace f3 := f3.wide hz
  clear hz
  refine condI (fun q => ?_) (fun q => ?_) q
  · refine condI (fun q => ?_) (fun q => ?_) q
    · exact hk (Zt σ) _ (hs.ext hσ) (hs.old hσ) _ q
    · exact hk (Zt σ) _ (hs.ext hσ) (hs.old hσ) _ q
  · refine condI (fun q => ?_) (fun q => ?_) q
    · refine q (Zt σ) H _ _ _ rfl f2 _ _ _ rfl f3 _ (fun Z2 H_ hE hO x q => ?_)
      obtain ⟨xσ, st⟩ := call0 hE σ
      replace f2 := f2.step st
      replace f3 := f3.step st
      replace hs := hs.trans st
      refine ⟨_, rfl, ?_⟩
      exact hk (Zt xσ) _ (hs.ext hσ) (hs.old hσ) _ q
    · exact hk (Zt σ) _ (hs.ext hσ) (hs.old hσ) _ q

/-! juntolaw06_number -/
def juntolaw06_number.C (a : Nat) (e : Int) (want : Nat) (bad : Int) (K : Bool → Prop) : Prop :=
  ∀ (Z : Nat → Prop) (H : Heap), ∀ (av : Int), av = (a : Int) → ∀ (wantv : Int), wantv = (want : Int) → ∀ KK : Value → Heap → Prop,
    (∀ (Z' : Nat → Prop) (H' : Heap), Ext H H' → Old Z H Z' → ∀ (r0 : Bool), K r0 → KK (.bool r0) H') →
    CallH P N.juntolaw06_number [.int .u64 av, .int .i64 e, .int .u64 wantv, .int .i64 bad] H KK
def juntolaw06_number.Q (a : Nat) (e : Int) (want : Nat) (bad : Int) (K : Bool → Prop) : Prop :=
  cond (e == bad) (cond (bad != 0) (cond ((a : Int) == 0) (K true)
   (cond (bad == 0) (K ((a : Int) == (want : Int)))
   (K false)))
   (cond (bad == 0) (K ((a : Int) == (want : Int)))
   (K false)))
   (K false)
theorem juntolaw06_number.q {a : Nat} {e : Int} {want : Nat} {bad : Int} {K : Bool → Prop} (q : juntolaw06_number.Q a e want bad K) : juntolaw06_number.C a e want bad K := by
  intro Z H av he wantv he2 KK hk
  cases he
  cases he2
  apply juntolaw06_number.ok
  unfold juntolaw06_number.W
  unfold juntolaw06_number.Q at q
  obtain ⟨σ, hz, hσ⟩ := tags Z
  have hs : Stp ([] : List Nat) σ H σ H := Stp.refl _ _ _
  clear hz
  refine condI (fun q => ?_) (fun q => ?_) q
  · refine condI (fun q => ?_) (fun q => ?_) q
    · refine condI (fun q => ?_) (fun q => ?_) q
      · exact hk (Zt σ) _ (hs.ext hσ) (hs.old hσ) _ q
      · refine condI (fun q => ?_) (fun q => ?_) q
        · exact hk (Zt σ) _ (hs.ext hσ) (hs.old hσ) _ q
        · exact hk (Zt σ) _ (hs.ext hσ) (hs.old hσ) _ q
    · refine condI (fun q => ?_) (fun q => ?_) q
      · exact hk (Zt σ) _ (hs.ext hσ) (hs.old hσ) _ q
      · exact hk (Zt σ) _ (hs.ext hσ) (hs.old hσ) _ q
  · exact hk (Zt σ) _ (hs.ext hσ) (hs.old hσ) _ q

/-! juntolaw06_list -/
def juntolaw06_list.C (l : (List Nat)) (e : Int) (want : (List Nat)) (bad : Int) (K : Bool → Prop) : Prop :=
  ∀ (Z : Nat → Prop) (H : Heap), ∀ (lA : Option Addr) (ln lc : Nat), ln = l.length → SlF u64L Z H lA lc l → ∀ (wantA : Option Addr) (wantn wantc : Nat), wantn = want.length → SlF u64L Z H wantA wantc want → ∀ KK : Value → Heap → Prop,
    (∀ (Z' : Nat → Prop) (H' : Heap), Ext H H' → Old Z H Z' → ∀ (r0 : Bool), K r0 → KK (.bool r0) H') →
    CallH P N.juntolaw06_list [.slice lA ln lc, .int .i64 e, .slice wantA wantn wantc, .int .i64 bad] H KK
def juntolaw06_list.Q (l : (List Nat)) (e : Int) (want : (List Nat)) (bad : Int) (K : Bool → Prop) : Prop :=
  cond (bad != 0) (cond (e == bad) (K (((l.length : Nat) : Int) == 0))
   (K false))
   (cond (e == 0) (juntoref01_Same.C l want (fun (x : Bool) =>
  K x))
   (K false))
theorem juntolaw06_list.q {l : (List Nat)} {e : Int} {want : (List Nat)} {bad : Int} {K : Bool → Prop} (q : juntolaw06_list.Q l e want bad K) : juntolaw06_list.C l e want bad K := by
  intro Z H lA ln lc hn f wantA wantn wantc hn2 f2 KK hk
  cases hn
  cases hn2
  apply juntolaw06_list.ok
  unfold juntolaw06_list.W
  unfold juntolaw06_list.Q at q
  obtain ⟨σ, hz, hσ⟩ := tags Z
  have hs : Stp ([] : List Nat) σ H σ H := Stp.refl _ _ _
  replace f := f.wide hz
  replace f2 := f2.wide hz
  clear hz
  refine condI (fun q => ?_) (fun q => ?_) q
  · refine condI (fun q => ?_) (fun q => ?_) q
    · exact hk (Zt σ) _ (hs.ext hσ) (hs.old hσ) _ q
    · exact hk (Zt σ) _ (hs.ext hσ) (hs.old hσ) _ q
  · refine condI (fun q => ?_) (fun q => ?_) q
    · refine q (Zt σ) H _ _ _ rfl f _ _ _ rfl f2 _ (fun Z2 H_ hE hO x q => ?_)
      obtain ⟨xσ, st⟩ := call0 hE σ
      replace f := f.step st
      replace f2 := f2.step st
      replace hs := hs.trans st
      refine ⟨_, rfl, ?_⟩
      exact hk (Zt xσ) _ (hs.ext hσ) (hs.old hσ) _ q
    · exact hk (Zt σ) _ (hs.ext hσ) (hs.old hσ) _ q

/-! juntolaw06_lift -/
def juntolaw06_lift.C (p : Nat) (t : Int) (z : TLifted) (K : Int → Prop) : Prop :=
  ∀ (Z : Nat → Prop) (H : Heap), ∀ (pv : Int), pv = (p : Int) → ∀ (zv : Int), zv = (z.K : Int) → ∀ (zA : Option Addr) (zn zc : Nat), zn = z.Z.length → SlF u64L Z H zA zc z.Z → ∀ KK : Value → Heap → Prop,
    (∀ (Z' : Nat → Prop) (H' : Heap), Ext H H' → Old Z H Z' → ∀ (r0 : Int), K r0 → KK (.int .i64 r0) H') →
    CallH P N.juntolaw06_lift [.int .u64 pv, .int .i64 t, .agg #[.int .u64 zv, .slice zA zn zc]] H KK
def juntolaw06_lift.Q (p : Nat) (t : Int) (z : TLifted) (K : Int → Prop) : Prop :=
  cond (decide ((z.K : Int) ≥ (p : Int))) (K 2)
   (cond (decide (((z.Z.length : Nat) : Int) > (IntKind.i64.wrap (t + 1)))) (K 3)
   (juntoref01_Within.C p z.Z (fun (x : Int) =>
  K x)))
theorem juntolaw06_lift.q {p : Nat} {t : Int} {z : TLifted} {K : Int → Prop} (q : juntolaw06_lift.Q p t z K) : juntolaw06_lift.C p t z K := by
  intro Z H pv he zv he2 zA zn zc hn f KK hk
  cases he
  cases he2
  cases hn
  apply juntolaw06_lift.ok
  unfold juntolaw06_lift.W
  unfold juntolaw06_lift.Q at q
  obtain ⟨σ, hz, hσ⟩ := tags Z
  have hs : Stp ([] : List Nat) σ H σ H := Stp.refl _ _ _
  replace f := f.wide hz
  clear hz
  refine NewH.mk fun H_ e => ?_
  obtain ⟨xσ, st, b⟩ := BoxF.new σ 0 e
  replace f := f.step st
  replace hs := hs.trans st
  refine ⟨_, b.cell0, ?_⟩
  refine condI (fun q => ?_) (fun q => ?_) q
  · exact hk (Zt xσ) _ (hs.ext hσ) (hs.old hσ) _ q
  · refine ⟨_, _, _, b.cell 1 rfl, ?_⟩
    refine condI (fun q => ?_) (fun q => ?_) q
    · exact hk (Zt xσ) _ (hs.ext hσ) (hs.old hσ) _ q
    · refine ⟨_, _, _, b.cell 1 rfl, ?_⟩
      refine q (Zt xσ) H_ _ rfl _ _ _ rfl f _ (fun Z2 H_2 hE hO x q => ?_)
      obtain ⟨xσ2, st2⟩ := call0 hE xσ
      replace f := f.step st2
      replace b := b.step st2
      replace hs := hs.trans st2
      refine ⟨_, rfl, ?_⟩
      exact hk (Zt xσ2) _ (hs.ext hσ) (hs.old hσ) _ q

end Go.Proofs.Ytlhcaangdenoaaa.Sh
