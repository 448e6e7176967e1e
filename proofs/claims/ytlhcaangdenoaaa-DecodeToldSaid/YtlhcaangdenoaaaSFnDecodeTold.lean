import Derived.Test.YtlhcaangdenoaaaSTypes
import Derived.Test.YtlhcaangdenoaaaSFnDecode
import Derived.Test.YtlhcaangdenoaaaSFnJuntolaw05
import Derived.Test.YtlhcaangdenoaaaSFnJuntoref05
namespace Go.Lf
end Go.Lf
namespace Go.Sx
end Go.Sx
set_option linter.unusedVariables false
set_option linter.unusedSimpArgs false
set_option maxRecDepth 100000
namespace Go.Proofs.Ytlhcaangdenoaaa.Sh
open Go.Sx
def juntolaw05_DecodeTold.A : Ann where
  loops := fun i => match i with
    | _ => []
  plans := fun i => match i with
    | _ => .stop
def juntolaw05_DecodeTold.W (p : Int) (d : Int) (lA : Option Addr) (ln lc : Nat) (H : Heap) (R : Value → Heap → Prop) : Prop :=
  CallH P N.decode_Best [.int .u64 p, .int .i64 d, .slice lA ln lc] H fun v H_ =>
  ∃ (r0A : Option Addr) (r0n r0c : Nat), ∃ (r1A : Option Addr) (r1n r1c : Nat), ∃ r2 : Int, v = .tuple #[.slice r0A r0n r0c, .slice r1A r1n r1c, .int .i64 r2] ∧ cond (r2 != 0) (cond (((r0n : Nat) : Int) == 0) (cond (((r1n : Nat) : Int) == 0) (CallH P N.juntolaw05_alive [] H_ fun v2 H_2 =>
  ∃ r : Bool, v2 = .bool r ∧ R (.bool r) H_2) (R (.bool false) H_)) (R (.bool false) H_))
   (cond (decide (((r0n : Nat) : Int) ≤ (IntKind.i64.wrap (d + 1)))) (CallH P N.juntoref05_Most [.int .i64 ((ln : Nat) : Int), .int .i64 d] H_ fun v3 H_3 =>
  ∃ r3 : Int, v3 = .int .i64 r3 ∧ cond (decide (((r1n : Nat) : Int) ≤ r3)) (CallH P N.juntoref05_Off [.int .u64 p, .slice r0A r0n r0c, .slice lA ln lc] H_3 fun v4 H_4 =>
  ∃ (rA : Option Addr) (rn rc : Nat), v4 = .slice rA rn rc ∧ CallH P N.juntolaw05_ints [.slice r1A r1n r1c, .slice rA rn rc] H_4 fun v5 H_5 =>
  ∃ r4 : Bool, v5 = .bool r4 ∧ cond r4 (CallH P N.juntolaw05_alive [] H_5 fun v6 H_6 =>
  ∃ r5 : Bool, v6 = .bool r5 ∧ R (.bool r5) H_6) (R (.bool false) H_5)) (R (.bool false) H_3)) (R (.bool false) H_))
theorem juntolaw05_DecodeTold.ok (p : Int) (d : Int) (lA : Option Addr) (ln lc : Nat) (H : Heap) (R : Value → Heap → Prop) (h : juntolaw05_DecodeTold.W p d lA ln lc H R) : CallH P N.juntolaw05_DecodeTold ([.int .u64 p, .int .i64 d, .slice lA ln lc] : List Value) H R := by
  have e : juntolaw05_DecodeTold.W p d lA ln lc H R = sxFn P T Sh.R nf juntolaw05_DecodeTold.A Try.f19.results.toList (bodyOf Try.f19) (([(.int .u64 p : Value), (.int .i64 d : Value), (.slice lA ln lc : Value)] : List Value) ++ List.replicate (56 - ([(.int .u64 p : Value), (.int .i64 d : Value), (.slice lA ln lc : Value)] : List Value).length) undef) H R := by kernel_rfl
  exact call_of_sx fits bodies mixed Try.func19 (c := bodyOf Try.f19) (by kernel_rfl) Try.ntmps19 juntolaw05_DecodeTold.A (by kernel_rfl) (e.mp h)
end Go.Proofs.Ytlhcaangdenoaaa.Sh
namespace Go.Proofs.Ytlhcaangdenoaaa.Sh
open Go.Sx Go.Lf
def juntolaw05_DecodeTold.C (p : Nat) (d : Int) (l : (List TPoint)) (K : Bool → Prop) : Prop :=
  ∀ (Z : Nat → Prop) (H : Heap), ∀ (pv : Int), pv = (p : Int) → ∀ (lA : Option Addr) (ln lc : Nat), ln = l.length → SlF TPoint.L Z H lA lc l → ∀ KK : Value → Heap → Prop,
    (∀ (Z' : Nat → Prop) (H' : Heap), Ext H H' → Old Z H Z' → ∀ (r0 : Bool), K r0 → KK (.bool r0) H') →
    CallH P N.juntolaw05_DecodeTold [.int .u64 pv, .int .i64 d, .slice lA ln lc] H KK
def juntolaw05_DecodeTold.Q (p : Nat) (d : Int) (l : (List TPoint)) (K : Bool → Prop) : Prop :=
  decode_Best.C p d l (fun (r : (List Nat)) (r2 : (List Int)) (r3 : Int) =>
  cond (r3 != 0) (cond (((r.length : Nat) : Int) == 0) (cond (((r2.length : Nat) : Int) == 0) (juntolaw05_alive.C (fun (x : Bool) =>
  K x))
   (K false))
   (K false))
   (cond (decide (((r.length : Nat) : Int) ≤ (IntKind.i64.wrap (d + 1)))) (juntoref05_Most.C ((l.length : Nat) : Int) d (fun (x2 : Int) =>
  cond (decide (((r2.length : Nat) : Int) ≤ x2)) (juntoref05_Off.C p r l (fun (x3 : (List Int)) =>
  juntolaw05_ints.C r2 x3 (fun (x4 : Bool) =>
  cond x4 (juntolaw05_alive.C (fun (x5 : Bool) =>
  K x5))
   (K false))))
   (K false)))
   (K false)))
theorem juntolaw05_DecodeTold.q {p : Nat} {d : Int} {l : (List TPoint)} {K : Bool → Prop} (q : juntolaw05_DecodeTold.Q p d l K) : juntolaw05_DecodeTold.C p d l K := by
  intro Z H pv he lA ln lc hn f KK hk
  cases he
  cases hn
  apply juntolaw05_DecodeTold.ok
  unfold juntolaw05_DecodeTold.W
  unfold juntolaw05_DecodeTold.Q at q
  obtain ⟨σ, hz, hσ⟩ := tags Z
  have hs : Stp ([1, 2, 3] : List Nat) σ H σ H := Stp.refl _ _ _
  replace f := f.wide hz
  clear hz
  refine q (Zt σ) H _ rfl _ _ _ rfl f _ (fun Z2 H_ hE hO r Y hY A n c hn2 f2 r2 Y2 hY2 A2 n2 c2 hn3 f3 r3 hY3 q => ?_)
  obtain ⟨xσ, st, fz, fy, fy2⟩ := call2 hE hO σ 1 2 (fun _ h => h) hY hY2 hY3
  replace f2 := f2.keep fz fy
  replace f3 := f3.keep fz fy2
  cases hn2
  cases hn3
  replace f := f.step st
  replace hs := hs.trans st
  refine ⟨_, _, _, _, _, _, _, rfl, ?_⟩
  refine condI (fun q => ?_) (fun q => ?_) q
  · refine condI (fun q => ?_) (fun q => ?_) q
    · refine condI (fun q => ?_) (fun q => ?_) q
      · refine q (Zt xσ) H_  _ (fun Z3 H_2 hE2 hO2 x q => ?_)
        obtain ⟨xσ2, st2⟩ := call0 hE2 xσ
        replace f := f.step st2
        replace f2 := f2.step st2
        replace f3 := f3.step st2
        replace hs := hs.trans st2
        refine ⟨_, rfl, ?_⟩
        exact hk (Zt xσ2) _ (hs.ext hσ) (hs.old hσ) _ q
      · exact hk (Zt xσ) _ (hs.ext hσ) (hs.old hσ) _ q
    · exact hk (Zt xσ) _ (hs.ext hσ) (hs.old hσ) _ q
  · refine condI (fun q => ?_) (fun q => ?_) q
    · refine q (Zt xσ) H_  _ (fun Z4 H_3 hE3 hO3 x2 q => ?_)
      obtain ⟨xσ3, st3⟩ := call0 hE3 xσ
      replace f := f.step st3
      replace f2 := f2.step st3
      replace f3 := f3.step st3
      replace hs := hs.trans st3
      refine ⟨_, rfl, ?_⟩
      refine condI (fun q => ?_) (fun q => ?_) q
      · refine q (fun i => xσ3 i = 0 ∨ xσ3 i = 1) H_3 _ rfl _ _ _ rfl (f2.read (fun i h => .inl h) (fun i h => .inr (h))) _ _ _ rfl (f.wide (fun i h => .inl h)) _ (fun Z5 H_4 hE4 hO4 x3 Y3 hY4 A3 n3 c3 hn4 f4 q => ?_)
        obtain ⟨xσ4, st4, fy3⟩ := callB1 hE4 hO4 xσ3 3 hY4
        replace f4 := (SlO.anyZ (Z' := Zt xσ4) i64_flatL f4).keep (Fr.refl _ _) fy3
        cases hn4
        replace f := f.step st4
        replace f2 := f2.step st4
        replace f3 := f3.step st4
        replace hs := hs.trans st4
        refine ⟨_, _, _, rfl, ?_⟩
        refine q (fun i => xσ4 i = 0 ∨ xσ4 i = 2 ∨ xσ4 i = 3) H_4 _ _ _ rfl (f3.read (fun i h => .inl h) (fun i h => .inr (.inl h))) _ _ _ rfl (f4.read (fun i h => .inl h) (fun i h => .inr (.inr (h)))) _ (fun Z6 H_5 hE5 hO5 x4 q => ?_)
        obtain ⟨xσ5, st5⟩ := call0 hE5 xσ4
        replace f := f.step st5
        replace f2 := f2.step st5
        replace f3 := f3.step st5
        replace f4 := f4.step st5
        replace hs := hs.trans st5
        refine ⟨_, rfl, ?_⟩
        refine condI (fun q => ?_) (fun q => ?_) q
        · refine q (Zt xσ5) H_5  _ (fun Z7 H_6 hE6 hO6 x5 q => ?_)
          obtain ⟨xσ6, st6⟩ := call0 hE6 xσ5
          replace f := f.step st6
          replace f2 := f2.step st6
          replace f3 := f3.step st6
          replace f4 := f4.step st6
          replace hs := hs.trans st6
          refine ⟨_, rfl, ?_⟩
          exact hk (Zt xσ6) _ (hs.ext hσ) (hs.old hσ) _ q
        · exact hk (Zt xσ5) _ (hs.ext hσ) (hs.old hσ) _ q
      · exact hk (Zt xσ3) _ (hs.ext hσ) (hs.old hσ) _ q
    · exact hk (Zt xσ) _ (hs.ext hσ) (hs.old hσ) _ q
end Go.Proofs.Ytlhcaangdenoaaa.Sh
