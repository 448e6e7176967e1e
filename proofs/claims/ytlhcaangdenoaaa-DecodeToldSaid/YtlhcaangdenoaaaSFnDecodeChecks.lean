import Derived.Test.YtlhcaangdenoaaaSTypes
import Derived.Test.YtlhcaangdenoaaaSFnJuntolaw05
import Derived.Test.YtlhcaangdenoaaaSFnJuntoref05
namespace Go.Lf
end Go.Lf
namespace Go.Sx
end Go.Sx
set_option linter.unusedVariables false
set_option linter.unusedSimpArgs false
set_option maxRecDepth 100000
namespace Go.Proofs.Ytlhcaangdenoaaa.Sh
open Go.Sx
def juntolaw05_DecodeChecks.A : Ann where
  loops := fun i => match i with
    | _ => []
  plans := fun i => match i with
    | _ => .stop
def juntolaw05_DecodeChecks.W (p : Int) (d : Int) (lA : Option Addr) (ln lc : Nat) (H : Heap) (R : Value → Heap → Prop) : Prop :=
  CallH P N.decode_Check [.int .u64 p, .int .i64 d, .slice lA ln lc] H fun v H_ =>
  ∃ r : Int, v = .int .i64 r ∧ CallH P N.juntoref05_Check [.int .u64 p, .int .i64 d, .slice lA ln lc] H_ fun v2 H_2 =>
  ∃ r2 : Int, v2 = .int .i64 r2 ∧ cond (r == r2) (CallH P N.juntolaw05_alive [] H_2 fun v3 H_3 =>
  ∃ r3 : Bool, v3 = .bool r3 ∧ R (.bool r3) H_3) (R (.bool false) H_2)
theorem juntolaw05_DecodeChecks.ok (p : Int) (d : Int) (lA : Option Addr) (ln lc : Nat) (H : Heap) (R : Value → Heap → Prop) (h : juntolaw05_DecodeChecks.W p d lA ln lc H R) : CallH P N.juntolaw05_DecodeChecks ([.int .u64 p, .int .i64 d, .slice lA ln lc] : List Value) H R := by
  have e : juntolaw05_DecodeChecks.W p d lA ln lc H R = sxFn P T Sh.R nf juntolaw05_DecodeChecks.A Try.f12.results.toList (bodyOf Try.f12) (([(.int .u64 p : Value), (.int .i64 d : Value), (.slice lA ln lc : Value)] : List Value) ++ List.replicate (19 - ([(.int .u64 p : Value), (.int .i64 d : Value), (.slice lA ln lc : Value)] : List Value).length) undef) H R := by kernel_rfl
  exact call_of_sx fits bodies mixed Try.func12 (c := bodyOf Try.f12) (by kernel_rfl) Try.ntmps12 juntolaw05_DecodeChecks.A (by kernel_rfl) (e.mp h)
end Go.Proofs.Ytlhcaangdenoaaa.Sh
namespace Go.Proofs.Ytlhcaangdenoaaa.Sh
open Go.Sx Go.Lf
def juntolaw05_DecodeChecks.C (p : Nat) (d : Int) (l : (List TPoint)) (K : Bool → Prop) : Prop :=
  ∀ (Z : Nat → Prop) (H : Heap), ∀ (pv : Int), pv = (p : Int) → ∀ (lA : Option Addr) (ln lc : Nat), ln = l.length → SlF TPoint.L Z H lA lc l → ∀ KK : Value → Heap → Prop,
    (∀ (Z' : Nat → Prop) (H' : Heap), Ext H H' → Old Z H Z' → ∀ (r0 : Bool), K r0 → KK (.bool r0) H') →
    CallH P N.juntolaw05_DecodeChecks [.int .u64 pv, .int .i64 d, .slice lA ln lc] H KK
def juntolaw05_DecodeChecks.Q (p : Nat) (d : Int) (l : (List TPoint)) (K : Bool → Prop) : Prop :=
  decode_Check.C p d l (fun (x : Int) =>
  juntoref05_Check.C p d l (fun (x2 : Int) =>
  cond (x == x2) (juntolaw05_alive.C (fun (x3 : Bool) =>
  K x3))
   (K false)))
theorem juntolaw05_DecodeChecks.q {p : Nat} {d : Int} {l : (List TPoint)} {K : Bool → Prop} (q : juntolaw05_DecodeChecks.Q p d l K) : juntolaw05_DecodeChecks.C p d l K := by
  intro Z H pv he lA ln lc hn f KK hk
  cases he
  cases hn
  apply juntolaw05_DecodeChecks.ok
  unfold juntolaw05_DecodeChecks.W
  unfold juntolaw05_DecodeChecks.Q at q
  obtain ⟨σ, hz, hσ⟩ := tags Z
  have hs : Stp ([] : List Nat) σ H σ H := Stp.refl _ _ _
  replace f := f.wide hz
  clear hz
  refine q (Zt σ) H _ rfl _ _ _ rfl f _ (fun Z2 H_ hE hO x q => ?_)
  obtain ⟨xσ, st⟩ := call0 hE σ
  replace f := f.step st
  replace hs := hs.trans st
  refine ⟨_, rfl, ?_⟩
  refine q (Zt xσ) H_ _ rfl _ _ _ rfl f _ (fun Z3 H_2 hE2 hO2 x2 q => ?_)
  obtain ⟨xσ2, st2⟩ := call0 hE2 xσ
  replace f := f.step st2
  replace hs := hs.trans st2
  refine ⟨_, rfl, ?_⟩
  refine condI (fun q => ?_) (fun q => ?_) q
  · refine q (Zt xσ2) H_2  _ (fun Z4 H_3 hE3 hO3 x3 q => ?_)
    obtain ⟨xσ3, st3⟩ := call0 hE3 xσ2
    replace f := f.step st3
    replace hs := hs.trans st3
    refine ⟨_, rfl, ?_⟩
    exact hk (Zt xσ3) _ (hs.ext hσ) (hs.old hσ) _ q
  · exact hk (Zt xσ2) _ (hs.ext hσ) (hs.old hσ) _ q
end Go.Proofs.Ytlhcaangdenoaaa.Sh
