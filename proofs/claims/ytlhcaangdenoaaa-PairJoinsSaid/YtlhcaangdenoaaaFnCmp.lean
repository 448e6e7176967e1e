import Derived.Test.YtlhcaangdenoaaaTypes
set_option linter.unusedVariables false
set_option linter.unusedSimpArgs false
set_option maxRecDepth 100000
namespace Go.Proofs.Ytlhcaangdenoaaa.Sh
open Go.Sx

/-! cmp_Compare_int -/
def cmp_Compare_int.A : Ann where
  loops := fun i => match i with
    | _ => []
  plans := fun i => match i with
    | _ => .stop
def cmp_Compare_int.W (x : Int) (y : Int) (H : Heap) (R : Value → Heap → Prop) : Prop :=
  CallH P N.cmp_isNaN_int [.int .i64 x] H fun v H_ =>
  ∃ r : Bool, v = .bool r ∧ CallH P N.cmp_isNaN_int [.int .i64 y] H_ fun v2 H_2 =>
  ∃ r2 : Bool, v2 = .bool r2 ∧ cond r (cond r2 (R (.int .i64 0) H_2)
   (R (.int .i64 (-1)) H_2))
   (cond r2 (R (.int .i64 1) H_2)
   (cond (decide (x < y)) (R (.int .i64 (-1)) H_2)
   (cond (decide (x > y)) (R (.int .i64 1) H_2)
   (R (.int .i64 0) H_2))))
theorem cmp_Compare_int.ok (x : Int) (y : Int) (H : Heap) (R : Value → Heap → Prop) (h : cmp_Compare_int.W x y H R) : CallH P N.cmp_Compare_int ([.int .i64 x, .int .i64 y] : List Value) H R := by
  have e : cmp_Compare_int.W x y H R = sxFn P T Sh.R nf cmp_Compare_int.A Try.f132.results.toList (bodyOf Try.f132) (([(.int .i64 x : Value), (.int .i64 y : Value)] : List Value) ++ List.replicate (20 - ([(.int .i64 x : Value), (.int .i64 y : Value)] : List Value).length) undef) H R := by kernel_rfl
  exact call_of_sx fits bodies mixed Try.func132 (c := bodyOf Try.f132) (by kernel_rfl) Try.ntmps132 cmp_Compare_int.A (by kernel_rfl) (e.mp h)

/-! cmp_isNaN_int -/
def cmp_isNaN_int.A : Ann where
  loops := fun i => match i with
    | _ => []
  plans := fun i => match i with
    | _ => .stop
def cmp_isNaN_int.W (x : Int) (H : Heap) (R : Value → Heap → Prop) : Prop :=
  R (.bool (x != x)) H
theorem cmp_isNaN_int.ok (x : Int) (H : Heap) (R : Value → Heap → Prop) (h : cmp_isNaN_int.W x H R) : CallH P N.cmp_isNaN_int ([.int .i64 x] : List Value) H R := by
  have e : cmp_isNaN_int.W x H R = sxFn P T Sh.R nf cmp_isNaN_int.A Try.f154.results.toList (bodyOf Try.f154) (([(.int .i64 x : Value)] : List Value) ++ List.replicate (6 - ([(.int .i64 x : Value)] : List Value).length) undef) H R := by kernel_rfl
  exact call_of_sx fits bodies mixed Try.func154 (c := bodyOf Try.f154) (by kernel_rfl) Try.ntmps154 cmp_isNaN_int.A (by kernel_rfl) (e.mp h)

end Go.Proofs.Ytlhcaangdenoaaa.Sh

namespace Go.Proofs.Ytlhcaangdenoaaa.Sh
open Go.Sx Go.Lf

/-! cmp_isNaN_int -/
def cmp_isNaN_int.C (x : Int) (K : Bool → Prop) : Prop :=
  ∀ (Z : Nat → Prop) (H : Heap), ∀ KK : Value → Heap → Prop,
    (∀ (Z' : Nat → Prop) (H' : Heap), Ext H H' → Old Z H Z' → ∀ (r0 : Bool), K r0 → KK (.bool r0) H') →
    CallH P N.cmp_isNaN_int [.int .i64 x] H KK
def cmp_isNaN_int.Q (x : Int) (K : Bool → Prop) : Prop :=
  K (x != x)
theorem cmp_isNaN_int.q {x : Int} {K : Bool → Prop} (q : cmp_isNaN_int.Q x K) : cmp_isNaN_int.C x K := by
  intro Z H  KK hk
  apply cmp_isNaN_int.ok
  unfold cmp_isNaN_int.W
  unfold cmp_isNaN_int.Q at q
  obtain ⟨σ, hz, hσ⟩ := tags Z
  have hs : Stp ([] : List Nat) σ H σ H := Stp.refl _ _ _
  clear hz
  exact hk (Zt σ) _ (hs.ext hσ) (hs.old hσ) _ q

/-! cmp_Compare_int -/
def cmp_Compare_int.C (x : Int) (y : Int) (K : Int → Prop) : Prop :=
  ∀ (Z : Nat → Prop) (H : Heap), ∀ KK : Value → Heap → Prop,
    (∀ (Z' : Nat → Prop) (H' : Heap), Ext H H' → Old Z H Z' → ∀ (r0 : Int), K r0 → KK (.int .i64 r0) H') →
    CallH P N.cmp_Compare_int [.int .i64 x, .int .i64 y] H KK
def cmp_Compare_int.Q (x : Int) (y : Int) (K : Int → Prop) : Prop :=
  cmp_isNaN_int.C x (fun (x2 : Bool) =>
  cmp_isNaN_int.C y (fun (x3 : Bool) =>
  cond x2 (cond x3 (K 0)
   (K (-1)))
   (cond x3 (K 1)
   (cond (decide (x < y)) (K (-1))
   (cond (decide (x > y)) (K 1)
   (K 0))))))
theorem cmp_Compare_int.q {x : Int} {y : Int} {K : Int → Prop} (q : cmp_Compare_int.Q x y K) : cmp_Compare_int.C x y K := by
  intro Z H  KK hk
  apply cmp_Compare_int.ok
  unfold cmp_Compare_int.W
  unfold cmp_Compare_int.Q at q
  obtain ⟨σ, hz, hσ⟩ := tags Z
  have hs : Stp ([] : List Nat) σ H σ H := Stp.refl _ _ _
  clear hz
  refine q (Zt σ) H  _ (fun Z2 H_ hE hO x2 q => ?_)
  obtain ⟨xσ, st⟩ := call0 hE σ
  replace hs := hs.trans st
  refine ⟨_, rfl, ?_⟩
  refine q (Zt xσ) H_  _ (fun Z3 H_2 hE2 hO2 x3 q => ?_)
  obtain ⟨xσ2, st2⟩ := call0 hE2 xσ
  replace hs := hs.trans st2
  refine ⟨_, rfl, ?_⟩
  refine condI (fun q => ?_) (fun q => ?_) q
  · refine condI (fun q => ?_) (fun q => ?_) q
    · exact hk (Zt xσ2) _ (hs.ext hσ) (hs.old hσ) _ q
    · exact hk (Zt xσ2) _ (hs.ext hσ) (hs.old hσ) _ q
  · refine condI (fun q => ?_) (fun q => ?_) q
    · exact hk (Zt xσ2) _ (hs.ext hσ) (hs.old hσ) _ q
    · refine condI (fun q => ?_) (fun q => ?_) q
      · exact hk (Zt xσ2) _ (hs.ext hσ) (hs.old hσ) _ q
      · refine condI (fun q => ?_) (fun q => ?_) q
        · exact hk (Zt xσ2) _ (hs.ext hσ) (hs.old hσ) _ q
        · exact hk (Zt xσ2) _ (hs.ext hσ) (hs.old hσ) _ q

end Go.Proofs.Ytlhcaangdenoaaa.Sh
