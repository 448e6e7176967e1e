import Derived.Test.YtlhcaangdenoaaaLfTypes
import Derived.Test.YtlhcaangdenoaaaShPairBothWays
import Derived.Test.YtlhcaangdenoaaaLfJuntolaw06
import Derived.Test.YtlhcaangdenoaaaLfJuntoref02
import Derived.Test.YtlhcaangdenoaaaLfPair
set_option linter.unusedVariables false
set_option maxRecDepth 100000
namespace Go.Proofs.Ytlhcaangdenoaaa.Sh
open Go.Sx Go.Lf

/-! juntolaw06_PairBothWays -/
def juntolaw06_PairBothWays.C (p : Nat) (q2 : TSecret) (at_ : (Nat × Nat)) (K : Bool → Prop) : Prop :=
  ∀ (Z : Nat → Prop) (H : Heap), ∀ (pv : Int), pv = (p : Int) → ∀ (qv : Int), qv = (q2.Value : Int) → ∀ (qA : Option Addr) (qn qc : Nat), qn = q2.Tape.length → SlF u64L Z H qA qc q2.Tape → ∀ (atv : Int), atv = (at_.1 : Int) → ∀ (atv2 : Int), atv2 = (at_.2 : Int) → ∀ KK : Value → Heap → Prop,
    (∀ (Z' : Nat → Prop) (H' : Heap), Ext H H' → Old Z H Z' → ∀ (r0 : Bool), K r0 → KK (.bool r0) H') →
    CallH P N.juntolaw06_PairBothWays [.int .u64 pv, .agg #[.int .u64 qv, .int .i64 q2.T_, .slice qA qn qc], .agg #[.int .u64 atv, .int .u64 atv2]] H KK
def juntolaw06_PairBothWays.Q (p : Nat) (q2 : TSecret) (at_ : (Nat × Nat)) (K : Bool → Prop) : Prop :=
  pair_Make.C p q2.Value q2.T_ q2.Tape (fun (r : (List (List Nat))) (r2 : (List Nat)) (r3 : Int) =>
  cond (r3 != 0) (juntolaw06_alive.C (fun (x : Bool) =>
  K x))
   (cond (decide ((at_.1 : Int) ≥ (p : Int))) (juntolaw06_alive.C (fun (x2 : Bool) =>
  K x2))
   (cond (decide ((at_.2 : Int) ≥ (p : Int))) (juntolaw06_alive.C (fun (x3 : Bool) =>
  K x3))
   (pair_At.C p q2.T_ r at_.1 at_.2 (fun (r4 : Nat) (r5 : Int) =>
  pair_At.C p q2.T_ r at_.2 at_.1 (fun (r6 : Nat) (r7 : Int) =>
  pair_Row.C p q2.T_ r at_.1 (fun (r8 : (List Nat)) (r9 : Int) =>
  pair_Row.C p q2.T_ r at_.2 (fun (r10 : (List Nat)) (r11 : Int) =>
  cond ((r4 : Int) == (r6 : Int)) (juntoref02_Eval.C p r8 at_.2 (fun (x4 : Nat) =>
  cond ((r4 : Int) == (x4 : Int)) (juntoref02_Eval.C p r10 at_.1 (fun (x5 : Nat) =>
  cond ((r4 : Int) == (x5 : Int)) (juntolaw06_alive.C (fun (x6 : Bool) =>
  K x6))
   (K false)))
   (K false)))
   (K false)))))))))
theorem juntolaw06_PairBothWays.q {p : Nat} {q2 : TSecret} {at_ : (Nat × Nat)} {K : Bool → Prop} (q : juntolaw06_PairBothWays.Q p q2 at_ K) : juntolaw06_PairBothWays.C p q2 at_ K := by
  intro Z H pv he qv he2 qA qn qc hn f atv he3 atv2 he4 KK hk
  cases he
  cases he2
  cases hn
  cases he3
  cases he4
  apply juntolaw06_PairBothWays.ok
  unfold juntolaw06_PairBothWays.W
  unfold juntolaw06_PairBothWays.Q at q
  obtain ⟨σ, hz, hσ⟩ := tags Z
  have hs : Stp ([1, 2, 3, 4] : List Nat) σ H σ H := Stp.refl _ _ _
  replace f := f.wide hz
  clear hz
  refine NewH.mk fun H_ e => ?_
  obtain ⟨xσ, st, b⟩ := BoxF.new σ 0 e
  replace f := f.step st
  replace hs := hs.trans st
  refine NewH.mk fun H_2 e2 => ?_
  obtain ⟨xσ2, st2, b2⟩ := BoxF.new xσ 0 e2
  replace f := f.step st2
  replace b := b.step st2
  replace hs := hs.trans st2
  refine ⟨by decide, by decide, ?_⟩
  refine ⟨by decide, by decide, ?_⟩
  refine ⟨_, b2.cell0, ?_⟩
  refine ⟨_, b2.cell 1 rfl, ?_⟩
  refine ⟨_, b.cell0, ?_⟩
  refine ⟨_, b.cell 1 rfl, ?_⟩
  refine ⟨_, _, _, b.cell 2 rfl, ?_⟩
  refine q (Zt xσ2) H_2 _ rfl _ rfl _ _ _ rfl f _ (fun Z2 H_3 hE hO r Y hY A n c hn2 f2 r2 Y2 hY2 A2 n2 c2 hn3 f3 r3 hY3 q => ?_)
  obtain ⟨xσ3, st3, fz, fy, fy2⟩ := call2 hE hO xσ2 1 2 (fun _ h => h) hY hY2 hY3
  replace f2 := f2.keep fz fy
  replace f3 := f3.keep fz fy2
  cases hn2
  cases hn3
  replace f := f.step st3
  replace b := b.step st3
  replace b2 := b2.step st3
  replace hs := hs.trans st3
  refine ⟨_, _, _, _, _, _, _, rfl, ?_⟩
  refine condI (fun q => ?_) (fun q => ?_) q
  · refine q (Zt xσ3) H_3  _ (fun Z3 H_4 hE2 hO2 x q => ?_)
    obtain ⟨xσ4, st4⟩ := call0 hE2 xσ3
    replace f := f.step st4
    replace b := b.step st4
    replace b2 := b2.step st4
    replace f2 := f2.step st4
    replace f3 := f3.step st4
    replace hs := hs.trans st4
    refine ⟨_, rfl, ?_⟩
    exact hk (Zt xσ4) _ (hs.ext hσ) (hs.old hσ) _ q
  · refine condI (fun q => ?_) (fun q => ?_) q
    · refine q (Zt xσ3) H_3  _ (fun Z4 H_5 hE3 hO3 x2 q => ?_)
      obtain ⟨xσ5, st5⟩ := call0 hE3 xσ3
      replace f := f.step st5
      replace b := b.step st5
      replace b2 := b2.step st5
      replace f2 := f2.step st5
      replace f3 := f3.step st5
      replace hs := hs.trans st5
      refine ⟨_, rfl, ?_⟩
      exact hk (Zt xσ5) _ (hs.ext hσ) (hs.old hσ) _ q
    · refine condI (fun q => ?_) (fun q => ?_) q
      · refine q (Zt xσ3) H_3  _ (fun Z5 H_6 hE4 hO4 x3 q => ?_)
        obtain ⟨xσ6, st6⟩ := call0 hE4 xσ3
        replace f := f.step st6
        replace b := b.step st6
        replace b2 := b2.step st6
        replace f2 := f2.step st6
        replace f3 := f3.step st6
        replace hs := hs.trans st6
        refine ⟨_, rfl, ?_⟩
        exact hk (Zt xσ6) _ (hs.ext hσ) (hs.old hσ) _ q
      · refine ⟨_, b.cell 1 rfl, ?_⟩
        refine q (fun i => xσ3 i = 0 ∨ xσ3 i = 1) H_3 _ rfl _ _ _ rfl (f2.read (fun i h => .inl h) (fun i h => .inr (h))) _ rfl _ rfl _ (fun Z6 H_7 hE5 hO5 r4 v he5 r5 q => ?_)
        obtain ⟨xσ7, st7⟩ := call0 hE5 xσ3
        cases he5
        replace f := f.step st7
        replace b := b.step st7
        replace b2 := b2.step st7
        replace f2 := f2.step st7
        replace f3 := f3.step st7
        replace hs := hs.trans st7
        refine ⟨_, _, rfl, ?_⟩
        refine ⟨_, b.cell 1 rfl, ?_⟩
        refine q (fun i => xσ7 i = 0 ∨ xσ7 i = 1) H_7 _ rfl _ _ _ rfl (f2.read (fun i h => .inl h) (fun i h => .inr (h))) _ rfl _ rfl _ (fun Z7 H_8 hE6 hO6 r6 v2 he6 r7 q => ?_)
        obtain ⟨xσ8, st8⟩ := call0 hE6 xσ7
        cases he6
        replace f := f.step st8
        replace b := b.step st8
        replace b2 := b2.step st8
        replace f2 := f2.step st8
        replace f3 := f3.step st8
        replace hs := hs.trans st8
        refine ⟨_, _, rfl, ?_⟩
        refine ⟨_, b.cell 1 rfl, ?_⟩
        refine q (fun i => xσ8 i = 0 ∨ xσ8 i = 1) H_8 _ rfl _ _ _ rfl (f2.read (fun i h => .inl h) (fun i h => .inr (h))) _ rfl _ (fun Z8 H_9 hE7 hO7 r8 Y3 hY4 A3 n3 c3 hn4 f4 r9 q => ?_)
        obtain ⟨xσ9, st9, fy3⟩ := callB1 hE7 hO7 xσ8 3 hY4
        replace f4 := (SlO.anyZ (Z' := Zt xσ9) u64_flatL f4).keep (Fr.refl _ _) fy3
        cases hn4
        replace f := f.step st9
        replace b := b.step st9
        replace b2 := b2.step st9
        replace f2 := f2.step st9
        replace f3 := f3.step st9
        replace hs := hs.trans st9
        refine ⟨_, _, _, _, rfl, ?_⟩
        refine ⟨_, b.cell 1 rfl, ?_⟩
        refine q (fun i => xσ9 i = 0 ∨ xσ9 i = 1) H_9 _ rfl _ _ _ rfl (f2.read (fun i h => .inl h) (fun i h => .inr (h))) _ rfl _ (fun Z9 H_10 hE8 hO8 r10 Y4 hY5 A4 n4 c4 hn5 f5 r11 q => ?_)
        obtain ⟨xσ10, st10, fy4⟩ := callB1 hE8 hO8 xσ9 4 hY5
        replace f5 := (SlO.anyZ (Z' := Zt xσ10) u64_flatL f5).keep (Fr.refl _ _) fy4
        cases hn5
        replace f := f.step st10
        replace b := b.step st10
        replace b2 := b2.step st10
        replace f2 := f2.step st10
        replace f3 := f3.step st10
        replace f4 := f4.step st10
        replace hs := hs.trans st10
        refine ⟨_, _, _, _, rfl, ?_⟩
        refine condI (fun q => ?_) (fun q => ?_) q
        · refine q (fun i => xσ10 i = 0 ∨ xσ10 i = 3) H_10 _ rfl _ _ _ rfl (f4.read (fun i h => .inl h) (fun i h => .inr (h))) _ rfl _ (fun Z10 H_11 hE9 hO9 x4 v3 he7 q => ?_)
          obtain ⟨xσ11, st11⟩ := call0 hE9 xσ10
          cases he7
          replace f := f.step st11
          replace b := b.step st11
          replace b2 := b2.step st11
          replace f2 := f2.step st11
          replace f3 := f3.step st11
          replace f4 := f4.step st11
          replace f5 := f5.step st11
          replace hs := hs.trans st11
          refine ⟨_, rfl, ?_⟩
          refine condI (fun q => ?_) (fun q => ?_) q
          · refine q (fun i => xσ11 i = 0 ∨ xσ11 i = 4) H_11 _ rfl _ _ _ rfl (f5.read (fun i h => .inl h) (fun i h => .inr (h))) _ rfl _ (fun Z11 H_12 hE10 hO10 x5 v4 he8 q => ?_)
            obtain ⟨xσ12, st12⟩ := call0 hE10 xσ11
            cases he8
            replace f := f.step st12
            replace b := b.step st12
            replace b2 := b2.step st12
            replace f2 := f2.step st12
            replace f3 := f3.step st12
            replace f4 := f4.step st12
            replace f5 := f5.step st12
            replace hs := hs.trans st12
            refine ⟨_, rfl, ?_⟩
            refine condI (fun q => ?_) (fun q => ?_) q
            · refine q (Zt xσ12) H_12  _ (fun Z12 H_13 hE11 hO11 x6 q => ?_)
              obtain ⟨xσ13, st13⟩ := call0 hE11 xσ12
              replace f := f.step st13
              replace b := b.step st13
              replace b2 := b2.step st13
              replace f2 := f2.step st13
              replace f3 := f3.step st13
              replace f4 := f4.step st13
              replace f5 := f5.step st13
              replace hs := hs.trans st13
              refine ⟨_, rfl, ?_⟩
              exact hk (Zt xσ13) _ (hs.ext hσ) (hs.old hσ) _ q
            · exact hk (Zt xσ12) _ (hs.ext hσ) (hs.old hσ) _ q
          · exact hk (Zt xσ11) _ (hs.ext hσ) (hs.old hσ) _ q
        · exact hk (Zt xσ10) _ (hs.ext hσ) (hs.old hσ) _ q

end Go.Proofs.Ytlhcaangdenoaaa.Sh
