import Derived.Test.YtlhcaangdenoaaaLfTypes
import Derived.Test.YtlhcaangdenoaaaShPairTapes
import Derived.Test.YtlhcaangdenoaaaLfJuntolaw06
import Derived.Test.YtlhcaangdenoaaaLfJuntoref06
import Derived.Test.YtlhcaangdenoaaaLfPair
set_option linter.unusedVariables false
set_option maxRecDepth 100000
namespace Go.Proofs.Ytlhcaangdenoaaa.Sh
open Go.Sx Go.Lf

/-! juntolaw06_PairTapes -/
def juntolaw06_PairTapes.C (p : Nat) (t : Int) (f : (List (List Nat))) (K : Bool → Prop) : Prop :=
  ∀ (Z : Nat → Prop) (H : Heap), ∀ (pv : Int), pv = (p : Int) → ∀ (fA : Option Addr) (fn fc : Nat), fn = f.length → SlF (slL u64L) Z H fA fc f → ∀ KK : Value → Heap → Prop,
    (∀ (Z' : Nat → Prop) (H' : Heap), Ext H H' → Old Z H Z' → ∀ (r0 : Bool), K r0 → KK (.bool r0) H') →
    CallH P N.juntolaw06_PairTapes [.int .u64 pv, .int .i64 t, .slice fA fn fc] H KK
def juntolaw06_PairTapes.Q (p : Nat) (t : Int) (f : (List (List Nat))) (K : Bool → Prop) : Prop :=
  pair_Tape.C p t f (fun (r : Nat) (r2 : (List Nat)) (r3 : Int) =>
  juntoref06_Check.C p t ([f]) (fun (x : Int) =>
  cond (x != 0) (cond ((r : Int) == 0) (juntolaw06_list.C r2 r3 ([]) x (fun (x2 : Bool) =>
  cond x2 (juntolaw06_alive.C (fun (x3 : Bool) =>
  K x3))
   (K false)))
   (K false))
   (juntoref06_Tape.C f (fun (r4 : Nat) (r5 : (List Nat)) =>
  pair_Make.C p r t r2 (fun (r6 : (List (List Nat))) (r7 : (List Nat)) (r8 : Int) =>
  cond ((r : Int) == (r4 : Int)) (juntolaw06_list.C r2 r3 r5 0 (fun (x4 : Bool) =>
  cond x4 (juntolaw06_is.C r6 r8 f 0 (fun (x5 : Bool) =>
  cond x5 (cond (((r7.length : Nat) : Int) == 0) (juntolaw06_alive.C (fun (x6 : Bool) =>
  K x6))
   (K false))
   (K false)))
   (K false)))
   (K false))))))
theorem juntolaw06_PairTapes.q {p : Nat} {t : Int} {f : (List (List Nat))} {K : Bool → Prop} (q : juntolaw06_PairTapes.Q p t f K) : juntolaw06_PairTapes.C p t f K := by
  intro Z H pv he fA fn fc hn f2 KK hk
  cases he
  cases hn
  apply juntolaw06_PairTapes.ok
  unfold juntolaw06_PairTapes.W
  unfold juntolaw06_PairTapes.Q at q
  obtain ⟨σ, hz, hσ⟩ := tags Z
  have hs : Stp ([1, 2, 3] : List Nat) σ H σ H := Stp.refl _ _ _
  replace f2 := f2.wide hz
  clear hz
  refine q (Zt σ) H _ rfl _ _ _ rfl f2 _ (fun Z2 H_ hE hO r v he2 r2 A n c hn2 f3 r3 q => ?_)
  obtain ⟨xσ, st, fz⟩ := callZ hE hO σ (fun _ h => h)
  replace f3 := f3.keep fz
  cases he2
  cases hn2
  replace f2 := f2.step st
  replace hs := hs.trans st
  refine ⟨_, _, _, _, _, rfl, ?_⟩
  refine NewH.mk fun H_2 e => ?_
  obtain ⟨xσ2, st2, f4⟩ := SlO.lit (E := (slL (slL u64L))) xσ 1 (xs := [f]) (l := [[_]]) e rfl (.cons (slL_rep rfl f2) .nil) (show (1 : Nat) ≤ 17592186044416 by decide)
  replace f2 := f2.step st2
  replace f3 := f3.step st2
  replace hs := hs.trans st2
  refine q (fun i => xσ2 i = 0 ∨ xσ2 i = 1) H_2 _ rfl _ _ _ rfl (f4.read (fun i h => .inl h) (fun i h => .inr (h))) _ (fun Z3 H_3 hE2 hO2 x q => ?_)
  obtain ⟨xσ3, st3⟩ := call0 hE2 xσ2
  replace f2 := f2.step st3
  replace f3 := f3.step st3
  replace f4 := f4.step st3
  replace hs := hs.trans st3
  refine ⟨_, rfl, ?_⟩
  refine condI (fun q => ?_) (fun q => ?_) q
  · refine condI (fun q => ?_) (fun q => ?_) q
    · refine q (Zt xσ3) H_3 _ _ _ rfl f3 _ _ _ rfl (SlF.nil _ _ _ _ _) _ (fun Z4 H_4 hE3 hO3 x2 q => ?_)
      obtain ⟨xσ4, st4⟩ := call0 hE3 xσ3
      replace f2 := f2.step st4
      replace f3 := f3.step st4
      replace f4 := f4.step st4
      replace hs := hs.trans st4
      refine ⟨_, rfl, ?_⟩
      refine condI (fun q => ?_) (fun q => ?_) q
      · refine q (Zt xσ4) H_4  _ (fun Z5 H_5 hE4 hO4 x3 q => ?_)
        obtain ⟨xσ5, st5⟩ := call0 hE4 xσ4
        replace f2 := f2.step st5
        replace f3 := f3.step st5
        replace f4 := f4.step st5
        replace hs := hs.trans st5
        refine ⟨_, rfl, ?_⟩
        exact hk (Zt xσ5) _ (hs.ext hσ) (hs.old hσ) _ q
      · exact hk (Zt xσ4) _ (hs.ext hσ) (hs.old hσ) _ q
    · exact hk (Zt xσ3) _ (hs.ext hσ) (hs.old hσ) _ q
  · refine q (Zt xσ3) H_3 _ _ _ rfl f2 _ (fun Z6 H_6 hE5 hO5 r4 v2 he3 r5 A2 n2 c2 hn3 f5 q => ?_)
    obtain ⟨xσ6, st6, fz5⟩ := callZ hE5 hO5 xσ3 (fun _ h => h)
    replace f5 := f5.keep fz5
    cases he3
    cases hn3
    replace f2 := f2.step st6
    replace f3 := f3.step st6
    replace f4 := f4.step st6
    replace hs := hs.trans st6
    refine ⟨_, _, _, _, rfl, ?_⟩
    refine q (Zt xσ6) H_6 _ rfl _ rfl _ _ _ rfl f3 _ (fun Z7 H_7 hE6 hO6 r6 Y hY A3 n3 c3 hn4 f6 r7 Y2 hY2 A4 n4 c4 hn5 f7 r8 hY3 q => ?_)
    obtain ⟨xσ7, st7, fz6, fy, fy2⟩ := call2 hE6 hO6 xσ6 2 3 (fun _ h => h) hY hY2 hY3
    replace f6 := f6.keep fz6 fy
    replace f7 := f7.keep fz6 fy2
    cases hn4
    cases hn5
    replace f2 := f2.step st7
    replace f3 := f3.step st7
    replace f4 := f4.step st7
    replace f5 := f5.step st7
    replace hs := hs.trans st7
    refine ⟨_, _, _, _, _, _, _, rfl, ?_⟩
    refine condI (fun q => ?_) (fun q => ?_) q
    · refine q (Zt xσ7) H_7 _ _ _ rfl f3 _ _ _ rfl f5 _ (fun Z8 H_8 hE7 hO7 x4 q => ?_)
      obtain ⟨xσ8, st8⟩ := call0 hE7 xσ7
      replace f2 := f2.step st8
      replace f3 := f3.step st8
      replace f4 := f4.step st8
      replace f5 := f5.step st8
      replace f6 := f6.step st8
      replace f7 := f7.step st8
      replace hs := hs.trans st8
      refine ⟨_, rfl, ?_⟩
      refine condI (fun q => ?_) (fun q => ?_) q
      · refine q (fun i => xσ8 i = 0 ∨ xσ8 i = 2) H_8 _ _ _ rfl (f6.read (fun i h => .inl h) (fun i h => .inr (h))) _ _ _ rfl (f2.wide (fun i h => .inl h)) _ (fun Z9 H_9 hE8 hO8 x5 q => ?_)
        obtain ⟨xσ9, st9⟩ := call0 hE8 xσ8
        replace f2 := f2.step st9
        replace f3 := f3.step st9
        replace f4 := f4.step st9
        replace f5 := f5.step st9
        replace f6 := f6.step st9
        replace f7 := f7.step st9
        replace hs := hs.trans st9
        refine ⟨_, rfl, ?_⟩
        refine condI (fun q => ?_) (fun q => ?_) q
        · refine condI (fun q => ?_) (fun q => ?_) q
          · refine q (Zt xσ9) H_9  _ (fun Z10 H_10 hE9 hO9 x6 q => ?_)
            obtain ⟨xσ10, st10⟩ := call0 hE9 xσ9
            replace f2 := f2.step st10
            replace f3 := f3.step st10
            replace f4 := f4.step st10
            replace f5 := f5.step st10
            replace f6 := f6.step st10
            replace f7 := f7.step st10
            replace hs := hs.trans st10
            refine ⟨_, rfl, ?_⟩
            exact hk (Zt xσ10) _ (hs.ext hσ) (hs.old hσ) _ q
          · exact hk (Zt xσ9) _ (hs.ext hσ) (hs.old hσ) _ q
        · exact hk (Zt xσ9) _ (hs.ext hσ) (hs.old hσ) _ q
      · exact hk (Zt xσ8) _ (hs.ext hσ) (hs.old hσ) _ q
    · exact hk (Zt xσ7) _ (hs.ext hσ) (hs.old hσ) _ q

end Go.Proofs.Ytlhcaangdenoaaa.Sh
