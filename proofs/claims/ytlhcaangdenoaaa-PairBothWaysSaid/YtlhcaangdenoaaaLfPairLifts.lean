import Derived.Test.YtlhcaangdenoaaaLfTypes
import Derived.Test.YtlhcaangdenoaaaShPairLifts
import Derived.Test.YtlhcaangdenoaaaLfJuntolaw06
import Derived.Test.YtlhcaangdenoaaaLfJuntoref06
import Derived.Test.YtlhcaangdenoaaaLfPair
set_option linter.unusedVariables false
set_option maxRecDepth 100000
namespace Go.Proofs.Ytlhcaangdenoaaa.Sh
open Go.Sx Go.Lf

/-! juntolaw06_PairLifts -/
def juntolaw06_PairLifts.C (p : Nat) (q2 : TShape) (z : TLifted) (K : Bool → Prop) : Prop :=
  ∀ (Z : Nat → Prop) (H : Heap), ∀ (pv : Int), pv = (p : Int) → ∀ (qA : Option Addr) (qn qc : Nat), qn = q2.F.length → SlF (slL u64L) Z H qA qc q2.F → ∀ (zv : Int), zv = (z.K : Int) → ∀ (zA : Option Addr) (zn zc : Nat), zn = z.Z.length → SlF u64L Z H zA zc z.Z → ∀ KK : Value → Heap → Prop,
    (∀ (Z' : Nat → Prop) (H' : Heap), Ext H H' → Old Z H Z' → ∀ (r0 : Bool), K r0 → KK (.bool r0) H') →
    CallH P N.juntolaw06_PairLifts [.int .u64 pv, .agg #[.int .i64 q2.T_, .slice qA qn qc], .agg #[.int .u64 zv, .slice zA zn zc]] H KK
def juntolaw06_PairLifts.Q (p : Nat) (q2 : TShape) (z : TLifted) (K : Bool → Prop) : Prop :=
  pair_Lift.C p q2.T_ q2.F z.K z.Z (fun (r : (List (List Nat))) (r2 : Int) =>
  juntoref06_Check.C p q2.T_ ([q2.F]) (fun (x : Int) =>
  cond (x == 0) (juntolaw06_lift.C p q2.T_ z (fun (x2 : Int) =>
  cond (x2 != 0) (juntolaw06_is.C r r2 ([]) x2 (fun (x3 : Bool) =>
  cond x3 (juntolaw06_alive.C (fun (x4 : Bool) =>
  K x4))
   (K false)))
   (juntoref06_Lift.C p q2.F z.K z.Z (fun (x5 : (List (List Nat))) =>
  juntolaw06_is.C r r2 x5 0 (fun (x6 : Bool) =>
  cond x6 (juntolaw06_alive.C (fun (x7 : Bool) =>
  K x7))
   (K false))))))
   (cond (x != 0) (juntolaw06_is.C r r2 ([]) x (fun (x8 : Bool) =>
  cond x8 (juntolaw06_alive.C (fun (x9 : Bool) =>
  K x9))
   (K false)))
   (juntoref06_Lift.C p q2.F z.K z.Z (fun (x10 : (List (List Nat))) =>
  juntolaw06_is.C r r2 x10 0 (fun (x11 : Bool) =>
  cond x11 (juntolaw06_alive.C (fun (x12 : Bool) =>
  K x12))
   (K false)))))))
theorem juntolaw06_PairLifts.q {p : Nat} {q2 : TShape} {z : TLifted} {K : Bool → Prop} (q : juntolaw06_PairLifts.Q p q2 z K) : juntolaw06_PairLifts.C p q2 z K := by
  intro Z H pv he qA qn qc hn f zv he2 zA zn zc hn2 f2 KK hk
  cases he
  cases hn
  cases he2
  cases hn2
  apply juntolaw06_PairLifts.ok
  unfold juntolaw06_PairLifts.W
  unfold juntolaw06_PairLifts.Q at q
  obtain ⟨σ, hz, hσ⟩ := tags Z
  have hs : Stp ([1, 2, 3] : List Nat) σ H σ H := Stp.refl _ _ _
  replace f := f.wide hz
  replace f2 := f2.wide hz
  clear hz
  refine NewH.mk fun H_ e => ?_
  obtain ⟨xσ, st, b⟩ := BoxF.new σ 0 e
  replace f := f.step st
  replace f2 := f2.step st
  replace hs := hs.trans st
  refine NewH.mk fun H_2 e2 => ?_
  obtain ⟨xσ2, st2, b2⟩ := BoxF.new xσ 0 e2
  replace f := f.step st2
  replace f2 := f2.step st2
  replace b := b.step st2
  replace hs := hs.trans st2
  refine ⟨_, b.cell0, ?_⟩
  refine ⟨_, _, _, b.cell 1 rfl, ?_⟩
  refine ⟨_, b2.cell0, ?_⟩
  refine ⟨_, _, _, b2.cell 1 rfl, ?_⟩
  refine q (Zt xσ2) H_2 _ rfl _ _ _ rfl f _ rfl _ _ _ rfl f2 _ (fun Z2 H_3 hE hO r A n c hn3 f3 r2 q => ?_)
  obtain ⟨xσ3, st3, fz⟩ := callZ hE hO xσ2 (fun _ h => h)
  replace f3 := f3.keep fz
  cases hn3
  replace f := f.step st3
  replace f2 := f2.step st3
  replace b := b.step st3
  replace b2 := b2.step st3
  replace hs := hs.trans st3
  refine ⟨_, _, _, _, rfl, ?_⟩
  refine ⟨_, b.cell0, ?_⟩
  refine ⟨_, _, _, b.cell 1 rfl, ?_⟩
  refine NewH.mk fun H_4 e3 => ?_
  obtain ⟨xσ4, st4, f4⟩ := SlO.lit (E := (slL (slL u64L))) xσ3 1 (xs := [q2.F]) (l := [[_]]) e3 rfl (.cons (slL_rep rfl f) .nil) (show (1 : Nat) ≤ 17592186044416 by decide)
  replace f := f.step st4
  replace f2 := f2.step st4
  replace b := b.step st4
  replace b2 := b2.step st4
  replace f3 := f3.step st4
  replace hs := hs.trans st4
  refine q (fun i => xσ4 i = 0 ∨ xσ4 i = 1) H_4 _ rfl _ _ _ rfl (f4.read (fun i h => .inl h) (fun i h => .inr (h))) _ (fun Z3 H_5 hE2 hO2 x q => ?_)
  obtain ⟨xσ5, st5⟩ := call0 hE2 xσ4
  replace f := f.step st5
  replace f2 := f2.step st5
  replace b := b.step st5
  replace b2 := b2.step st5
  replace f3 := f3.step st5
  replace f4 := f4.step st5
  replace hs := hs.trans st5
  refine ⟨_, rfl, ?_⟩
  refine condI (fun q => ?_) (fun q => ?_) q
  · refine ⟨_, b.cell0, ?_⟩
    refine ⟨_, _, _, _, b2.cell0, b2.cell 1 rfl, ?_⟩
    refine q (Zt xσ5) H_5 _ rfl _ rfl _ _ _ rfl f2 _ (fun Z4 H_6 hE3 hO3 x2 q => ?_)
    obtain ⟨xσ6, st6⟩ := call0 hE3 xσ5
    replace f := f.step st6
    replace f2 := f2.step st6
    replace b := b.step st6
    replace b2 := b2.step st6
    replace f3 := f3.step st6
    replace f4 := f4.step st6
    replace hs := hs.trans st6
    refine ⟨_, rfl, ?_⟩
    refine condI (fun q => ?_) (fun q => ?_) q
    · refine q (Zt xσ6) H_6 _ _ _ rfl f3 _ _ _ rfl (SlF.nil _ _ _ _ _) _ (fun Z5 H_7 hE4 hO4 x3 q => ?_)
      obtain ⟨xσ7, st7⟩ := call0 hE4 xσ6
      replace f := f.step st7
      replace f2 := f2.step st7
      replace b := b.step st7
      replace b2 := b2.step st7
      replace f3 := f3.step st7
      replace f4 := f4.step st7
      replace hs := hs.trans st7
      refine ⟨_, rfl, ?_⟩
      refine condI (fun q => ?_) (fun q => ?_) q
      · refine q (Zt xσ7) H_7  _ (fun Z6 H_8 hE5 hO5 x4 q => ?_)
        obtain ⟨xσ8, st8⟩ := call0 hE5 xσ7
        replace f := f.step st8
        replace f2 := f2.step st8
        replace b := b.step st8
        replace b2 := b2.step st8
        replace f3 := f3.step st8
        replace f4 := f4.step st8
        replace hs := hs.trans st8
        refine ⟨_, rfl, ?_⟩
        exact hk (Zt xσ8) _ (hs.ext hσ) (hs.old hσ) _ q
      · exact hk (Zt xσ7) _ (hs.ext hσ) (hs.old hσ) _ q
    · refine ⟨_, _, _, b.cell 1 rfl, ?_⟩
      refine ⟨_, b2.cell0, ?_⟩
      refine ⟨_, _, _, b2.cell 1 rfl, ?_⟩
      refine q (Zt xσ6) H_6 _ rfl _ _ _ rfl f _ rfl _ _ _ rfl f2 _ (fun Z7 H_9 hE6 hO6 x5 Y hY A2 n2 c2 hn4 f5 q => ?_)
      obtain ⟨xσ9, st9, fz6, fy⟩ := call1 hE6 hO6 xσ6 2 (fun _ h => h) hY
      replace f5 := f5.keep fz6 fy
      cases hn4
      replace f := f.step st9
      replace f2 := f2.step st9
      replace b := b.step st9
      replace b2 := b2.step st9
      replace f3 := f3.step st9
      replace f4 := f4.step st9
      replace hs := hs.trans st9
      refine ⟨_, _, _, rfl, ?_⟩
      refine q (fun i => xσ9 i = 0 ∨ xσ9 i = 2) H_9 _ _ _ rfl (f3.wide (fun i h => .inl h)) _ _ _ rfl (f5.read (fun i h => .inl h) (fun i h => .inr (h))) _ (fun Z8 H_10 hE7 hO7 x6 q => ?_)
      obtain ⟨xσ10, st10⟩ := call0 hE7 xσ9
      replace f := f.step st10
      replace f2 := f2.step st10
      replace b := b.step st10
      replace b2 := b2.step st10
      replace f3 := f3.step st10
      replace f4 := f4.step st10
      replace f5 := f5.step st10
      replace hs := hs.trans st10
      refine ⟨_, rfl, ?_⟩
      refine condI (fun q => ?_) (fun q => ?_) q
      · refine q (Zt xσ10) H_10  _ (fun Z9 H_11 hE8 hO8 x7 q => ?_)
        obtain ⟨xσ11, st11⟩ := call0 hE8 xσ10
        replace f := f.step st11
        replace f2 := f2.step st11
        replace b := b.step st11
        replace b2 := b2.step st11
        replace f3 := f3.step st11
        replace f4 := f4.step st11
        replace f5 := f5.step st11
        replace hs := hs.trans st11
        refine ⟨_, rfl, ?_⟩
        exact hk (Zt xσ11) _ (hs.ext hσ) (hs.old hσ) _ q
      · exact hk (Zt xσ10) _ (hs.ext hσ) (hs.old hσ) _ q
  · refine condI (fun q => ?_) (fun q => ?_) q
    · refine q (Zt xσ5) H_5 _ _ _ rfl f3 _ _ _ rfl (SlF.nil _ _ _ _ _) _ (fun Z10 H_12 hE9 hO9 x8 q => ?_)
      obtain ⟨xσ12, st12⟩ := call0 hE9 xσ5
      replace f := f.step st12
      replace f2 := f2.step st12
      replace b := b.step st12
      replace b2 := b2.step st12
      replace f3 := f3.step st12
      replace f4 := f4.step st12
      replace hs := hs.trans st12
      refine ⟨_, rfl, ?_⟩
      refine condI (fun q => ?_) (fun q => ?_) q
      · refine q (Zt xσ12) H_12  _ (fun Z11 H_13 hE10 hO10 x9 q => ?_)
        obtain ⟨xσ13, st13⟩ := call0 hE10 xσ12
        replace f := f.step st13
        replace f2 := f2.step st13
        replace b := b.step st13
        replace b2 := b2.step st13
        replace f3 := f3.step st13
        replace f4 := f4.step st13
        replace hs := hs.trans st13
        refine ⟨_, rfl, ?_⟩
        exact hk (Zt xσ13) _ (hs.ext hσ) (hs.old hσ) _ q
      · exact hk (Zt xσ12) _ (hs.ext hσ) (hs.old hσ) _ q
    · refine ⟨_, _, _, b.cell 1 rfl, ?_⟩
      refine ⟨_, b2.cell0, ?_⟩
      refine ⟨_, _, _, b2.cell 1 rfl, ?_⟩
      refine q (Zt xσ5) H_5 _ rfl _ _ _ rfl f _ rfl _ _ _ rfl f2 _ (fun Z12 H_14 hE11 hO11 x10 Y2 hY2 A3 n3 c3 hn5 f6 q => ?_)
      obtain ⟨xσ14, st14, fz11, fy2⟩ := call1 hE11 hO11 xσ5 3 (fun _ h => h) hY2
      replace f6 := f6.keep fz11 fy2
      cases hn5
      replace f := f.step st14
      replace f2 := f2.step st14
      replace b := b.step st14
      replace b2 := b2.step st14
      replace f3 := f3.step st14
      replace f4 := f4.step st14
      replace hs := hs.trans st14
      refine ⟨_, _, _, rfl, ?_⟩
      refine q (fun i => xσ14 i = 0 ∨ xσ14 i = 3) H_14 _ _ _ rfl (f3.wide (fun i h => .inl h)) _ _ _ rfl (f6.read (fun i h => .inl h) (fun i h => .inr (h))) _ (fun Z13 H_15 hE12 hO12 x11 q => ?_)
      obtain ⟨xσ15, st15⟩ := call0 hE12 xσ14
      replace f := f.step st15
      replace f2 := f2.step st15
      replace b := b.step st15
      replace b2 := b2.step st15
      replace f3 := f3.step st15
      replace f4 := f4.step st15
      replace f6 := f6.step st15
      replace hs := hs.trans st15
      refine ⟨_, rfl, ?_⟩
      refine condI (fun q => ?_) (fun q => ?_) q
      · refine q (Zt xσ15) H_15  _ (fun Z14 H_16 hE13 hO13 x12 q => ?_)
        obtain ⟨xσ16, st16⟩ := call0 hE13 xσ15
        replace f := f.step st16
        replace f2 := f2.step st16
        replace b := b.step st16
        replace b2 := b2.step st16
        replace f3 := f3.step st16
        replace f4 := f4.step st16
        replace f6 := f6.step st16
        replace hs := hs.trans st16
        refine ⟨_, rfl, ?_⟩
        exact hk (Zt xσ16) _ (hs.ext hσ) (hs.old hσ) _ q
      · exact hk (Zt xσ15) _ (hs.ext hσ) (hs.old hσ) _ q

end Go.Proofs.Ytlhcaangdenoaaa.Sh
