import Derived.Test.YtlhcaangdenoaaaLfTypes
import Derived.Test.YtlhcaangdenoaaaShPairSums
import Derived.Test.YtlhcaangdenoaaaLfJuntolaw06
import Derived.Test.YtlhcaangdenoaaaLfJuntoref06
import Derived.Test.YtlhcaangdenoaaaLfPair
set_option linter.unusedVariables false
set_option maxRecDepth 100000
namespace Go.Proofs.Ytlhcaangdenoaaa.Sh
open Go.Sx Go.Lf

/-! juntolaw06_PairSums -/
def juntolaw06_PairSums.C (p : Nat) (q2 : TShape) (g : (List (List Nat))) (K : Bool → Prop) : Prop :=
  ∀ (Z : Nat → Prop) (H : Heap), ∀ (pv : Int), pv = (p : Int) → ∀ (qA : Option Addr) (qn qc : Nat), qn = q2.F.length → SlF (slL u64L) Z H qA qc q2.F → ∀ (gA : Option Addr) (gn gc : Nat), gn = g.length → SlF (slL u64L) Z H gA gc g → ∀ KK : Value → Heap → Prop,
    (∀ (Z' : Nat → Prop) (H' : Heap), Ext H H' → Old Z H Z' → ∀ (r0 : Bool), K r0 → KK (.bool r0) H') →
    CallH P N.juntolaw06_PairSums [.int .u64 pv, .agg #[.int .i64 q2.T_, .slice qA qn qc], .slice gA gn gc] H KK
def juntolaw06_PairSums.Q (p : Nat) (q2 : TShape) (g : (List (List Nat))) (K : Bool → Prop) : Prop :=
  pair_Add.C p q2.T_ q2.F g (fun (r : (List (List Nat))) (r2 : Int) =>
  juntoref06_Check.C p q2.T_ ([q2.F, g]) (fun (x : Int) =>
  cond (x != 0) (juntolaw06_is.C r r2 ([]) x (fun (x2 : Bool) =>
  cond x2 (juntolaw06_alive.C (fun (x3 : Bool) =>
  K x3))
   (K false)))
   (juntoref06_Add.C p q2.F g (fun (x4 : (List (List Nat))) =>
  juntolaw06_is.C r r2 x4 0 (fun (x5 : Bool) =>
  K x5)))))
theorem juntolaw06_PairSums.q {p : Nat} {q2 : TShape} {g : (List (List Nat))} {K : Bool → Prop} (q : juntolaw06_PairSums.Q p q2 g K) : juntolaw06_PairSums.C p q2 g K := by
  intro Z H pv he qA qn qc hn f gA gn gc hn2 f2 KK hk
  cases he
  cases hn
  cases hn2
  apply juntolaw06_PairSums.ok
  unfold juntolaw06_PairSums.W
  unfold juntolaw06_PairSums.Q at q
  obtain ⟨σ, hz, hσ⟩ := tags Z
  have hs : Stp ([1, 2] : List Nat) σ H σ H := Stp.refl _ _ _
  replace f := f.wide hz
  replace f2 := f2.wide hz
  clear hz
  refine NewH.mk fun H_ e => ?_
  obtain ⟨xσ, st, b⟩ := BoxF.new σ 0 e
  replace f := f.step st
  replace f2 := f2.step st
  replace hs := hs.trans st
  refine ⟨_, b.cell0, ?_⟩
  refine ⟨_, _, _, b.cell 1 rfl, ?_⟩
  refine q (Zt xσ) H_ _ rfl _ _ _ rfl f _ _ _ rfl f2 _ (fun Z2 H_2 hE hO r A n c hn3 f3 r2 q => ?_)
  obtain ⟨xσ2, st2, fz⟩ := callZ hE hO xσ (fun _ h => h)
  replace f3 := f3.keep fz
  cases hn3
  replace f := f.step st2
  replace f2 := f2.step st2
  replace b := b.step st2
  replace hs := hs.trans st2
  refine ⟨_, _, _, _, rfl, ?_⟩
  refine ⟨_, b.cell0, ?_⟩
  refine ⟨_, _, _, b.cell 1 rfl, ?_⟩
  refine NewH.mk fun H_3 e2 => ?_
  obtain ⟨xσ3, st3, f4⟩ := SlO.lit (E := (slL (slL u64L))) xσ2 1 (xs := [q2.F, g]) (l := [[_], [_]]) e2 rfl (.cons (slL_rep rfl f) (.cons (slL_rep rfl f2) .nil)) (show (2 : Nat) ≤ 17592186044416 by decide)
  replace f := f.step st3
  replace f2 := f2.step st3
  replace b := b.step st3
  replace f3 := f3.step st3
  replace hs := hs.trans st3
  refine q (fun i => xσ3 i = 0 ∨ xσ3 i = 1) H_3 _ rfl _ _ _ rfl (f4.read (fun i h => .inl h) (fun i h => .inr (h))) _ (fun Z3 H_4 hE2 hO2 x q => ?_)
  obtain ⟨xσ4, st4⟩ := call0 hE2 xσ3
  replace f := f.step st4
  replace f2 := f2.step st4
  replace b := b.step st4
  replace f3 := f3.step st4
  replace f4 := f4.step st4
  replace hs := hs.trans st4
  refine ⟨_, rfl, ?_⟩
  refine condI (fun q => ?_) (fun q => ?_) q
  · refine q (Zt xσ4) H_4 _ _ _ rfl f3 _ _ _ rfl (SlF.nil _ _ _ _ _) _ (fun Z4 H_5 hE3 hO3 x2 q => ?_)
    obtain ⟨xσ5, st5⟩ := call0 hE3 xσ4
    replace f := f.step st5
    replace f2 := f2.step st5
    replace b := b.step st5
    replace f3 := f3.step st5
    replace f4 := f4.step st5
    replace hs := hs.trans st5
    refine ⟨_, rfl, ?_⟩
    refine condI (fun q => ?_) (fun q => ?_) q
    · refine q (Zt xσ5) H_5  _ (fun Z5 H_6 hE4 hO4 x3 q => ?_)
      obtain ⟨xσ6, st6⟩ := call0 hE4 xσ5
      replace f := f.step st6
      replace f2 := f2.step st6
      replace b := b.step st6
      replace f3 := f3.step st6
      replace f4 := f4.step st6
      replace hs := hs.trans st6
      refine ⟨_, rfl, ?_⟩
      exact hk (Zt xσ6) _ (hs.ext hσ) (hs.old hσ) _ q
    · exact hk (Zt xσ5) _ (hs.ext hσ) (hs.old hσ) _ q
  · refine ⟨_, _, _, b.cell 1 rfl, ?_⟩
    refine q (Zt xσ4) H_4 _ rfl _ _ _ rfl f _ _ _ rfl f2 _ (fun Z6 H_7 hE5 hO5 x4 Y hY A2 n2 c2 hn4 f5 q => ?_)
    obtain ⟨xσ7, st7, fz5, fy⟩ := call1 hE5 hO5 xσ4 2 (fun _ h => h) hY
    replace f5 := f5.keep fz5 fy
    cases hn4
    replace f := f.step st7
    replace f2 := f2.step st7
    replace b := b.step st7
    replace f3 := f3.step st7
    replace f4 := f4.step st7
    replace hs := hs.trans st7
    refine ⟨_, _, _, rfl, ?_⟩
    refine q (fun i => xσ7 i = 0 ∨ xσ7 i = 2) H_7 _ _ _ rfl (f3.wide (fun i h => .inl h)) _ _ _ rfl (f5.read (fun i h => .inl h) (fun i h => .inr (h))) _ (fun Z7 H_8 hE6 hO6 x5 q => ?_)
    obtain ⟨xσ8, st8⟩ := call0 hE6 xσ7
    replace f := f.step st8
    replace f2 := f2.step st8
    replace b := b.step st8
    replace f3 := f3.step st8
    replace f4 := f4.step st8
    replace f5 := f5.step st8
    replace hs := hs.trans st8
    refine ⟨_, rfl, ?_⟩
    exact hk (Zt xσ8) _ (hs.ext hσ) (hs.old hσ) _ q

end Go.Proofs.Ytlhcaangdenoaaa.Sh
