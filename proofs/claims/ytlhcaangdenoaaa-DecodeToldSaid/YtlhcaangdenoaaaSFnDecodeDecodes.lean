import Derived.Test.YtlhcaangdenoaaaSTypes
import Derived.Test.YtlhcaangdenoaaaSFnDecode
import Derived.Test.YtlhcaangdenoaaaSFnJuntolaw05
import Derived.Test.YtlhcaangdenoaaaSFnJuntoref05
namespace Go.Lf
end Go.Lf
namespace Go.Sx
end Go.Sx
set_option linter.unusedVariables false
set_option linter.unusedSimpArgs false
set_option maxRecDepth 100000
namespace Go.Proofs.Ytlhcaangdenoaaa.Sh
open Go.Sx
def juntolaw05_DecodeDecodes.A : Ann where
  loops := fun i => match i with
    | _ => []
  plans := fun i => match i with
    | 1 => .first 0 (.first 2 (.read 1 (.first 4 (.read 3 (.first 5 (.done))))))
    | _ => .stop
def juntolaw05_DecodeDecodes.W (p : Int) (q_0 : Int) (q_1 : Int) (lA : Option Addr) (ln lc : Nat) (H : Heap) (R : Value → Heap → Prop) : Prop :=
  NewH (H.push (.cells #[.int .i64 q_0, .int .i64 q_1] 81 (0, 0))) fun H_ =>
  0 ≤ (0 : Int) ∧ (0 : Int) < (2 : Int) ∧ 0 ≤ (1 : Int) ∧ (1 : Int) < (2 : Int) ∧ ∃ x : Int, cellH H_ ((Addr.mk H.size 0 none).add 0) = some (.int .i64 x) ∧ ∃ x2 : Int, cellH H_ ((Addr.mk H.size 0 none).add 1) = some (.int .i64 x2) ∧ CallH P N.decode_Decode [.int .u64 p, .int .i64 x, .int .i64 x2, .slice lA ln lc] H_ fun v H_2 =>
  ∃ (r0A : Option Addr) (r0n r0c : Nat), ∃ (r1A : Option Addr) (r1n r1c : Nat), ∃ r2 : Int, v = .tuple #[.slice r0A r0n r0c, .slice r1A r1n r1c, .int .i64 r2] ∧ NewH (H_2.push (.cells #[.slice none 0 0, .slice none 0 0, .int .i64 0] 86 (0, 0))) fun H_3 =>
  MayWrite H_3 (Addr.mk H_2.size 0 none) 3 ∧ NewH (setH (setH (setH H_3 (Addr.mk H_2.size 0 none) (.slice r0A r0n r0c)) (((Addr.mk H_2.size 0 none)).add 1) (.slice r1A r1n r1c)) (((Addr.mk H_2.size 0 none)).add 2) (.int .i64 r2)) fun H_4 =>
  CallH P N.juntoref05_Check [.int .u64 p, .int .i64 x, .slice lA ln lc] H_4 fun v2 H_5 =>
  ∃ r : Int, v2 = .int .i64 r ∧ cond (r != 0) (∃ (x0A : Option Addr) (x0n x0c : Nat), ∃ (x1A : Option Addr) (x1n x1c : Nat), ∃ x22 : Int, cellH H_5 (Addr.mk H_2.size 0 none) = some (.slice x0A x0n x0c) ∧ cellH H_5 (((Addr.mk H_2.size 0 none)).add 1) = some (.slice x1A x1n x1c) ∧ cellH H_5 (((Addr.mk H_2.size 0 none)).add 2) = some (.int .i64 x22) ∧ CallH P N.juntolaw05_told_bad [.agg #[.slice x0A x0n x0c, .slice x1A x1n x1c, .int .i64 x22], .int .i64 r] H_5 fun v3 H_6 =>
  ∃ r3 : Bool, v3 = .bool r3 ∧ cond r3 (CallH P N.juntolaw05_alive [] H_6 fun v4 H_7 =>
  ∃ r4 : Bool, v4 = .bool r4 ∧ R (.bool r4) H_7) (R (.bool false) H_6))
   (cond (decide (x2 < 0)) (∃ (x0A2 : Option Addr) (x0n2 x0c2 : Nat), ∃ (x1A2 : Option Addr) (x1n2 x1c2 : Nat), ∃ x23 : Int, cellH H_5 (Addr.mk H_2.size 0 none) = some (.slice x0A2 x0n2 x0c2) ∧ cellH H_5 (((Addr.mk H_2.size 0 none)).add 1) = some (.slice x1A2 x1n2 x1c2) ∧ cellH H_5 (((Addr.mk H_2.size 0 none)).add 2) = some (.int .i64 x23) ∧ CallH P N.juntolaw05_told_bad [.agg #[.slice x0A2 x0n2 x0c2, .slice x1A2 x1n2 x1c2, .int .i64 x23], .int .i64 2] H_5 fun v5 H_8 =>
  ∃ r5 : Bool, v5 = .bool r5 ∧ cond r5 (CallH P N.juntolaw05_alive [] H_8 fun v6 H_9 =>
  ∃ r6 : Bool, v6 = .bool r6 ∧ R (.bool r6) H_9) (R (.bool false) H_8))
   (CallH P N.juntolaw05_few [.int .i64 x, .int .i64 x2, .slice lA ln lc] H_5 fun v7 H_10 =>
  ∃ r7 : Bool, v7 = .bool r7 ∧ cond r7 (∃ (x0A3 : Option Addr) (x0n3 x0c3 : Nat), ∃ (x1A3 : Option Addr) (x1n3 x1c3 : Nat), ∃ x24 : Int, cellH H_10 (Addr.mk H_2.size 0 none) = some (.slice x0A3 x0n3 x0c3) ∧ cellH H_10 (((Addr.mk H_2.size 0 none)).add 1) = some (.slice x1A3 x1n3 x1c3) ∧ cellH H_10 (((Addr.mk H_2.size 0 none)).add 2) = some (.int .i64 x24) ∧ CallH P N.juntolaw05_told_bad [.agg #[.slice x0A3 x0n3 x0c3, .slice x1A3 x1n3 x1c3, .int .i64 x24], .int .i64 11] H_10 fun v8 H_11 =>
  ∃ r8 : Bool, v8 = .bool r8 ∧ cond r8 (CallH P N.juntolaw05_alive [] H_11 fun v9 H_12 =>
  ∃ r9 : Bool, v9 = .bool r9 ∧ R (.bool r9) H_12) (R (.bool false) H_11))
   (∃ (x0A4 : Option Addr) (x0n4 x0c4 : Nat), ∃ (x1A4 : Option Addr) (x1n4 x1c4 : Nat), ∃ x25 : Int, cellH H_10 (Addr.mk H_2.size 0 none) = some (.slice x0A4 x0n4 x0c4) ∧ cellH H_10 (((Addr.mk H_2.size 0 none)).add 1) = some (.slice x1A4 x1n4 x1c4) ∧ cellH H_10 (((Addr.mk H_2.size 0 none)).add 2) = some (.int .i64 x25) ∧ CallH P N.juntolaw05_told_is [.agg #[.slice x0A4 x0n4 x0c4, .slice x1A4 x1n4 x1c4, .int .i64 x25], .int .u64 p, .int .i64 x, .int .i64 x2, .slice lA ln lc] H_10 fun v10 H_13 =>
  ∃ r10 : Bool, v10 = .bool r10 ∧ cond r10 (CallH P N.juntolaw05_alive [] H_13 fun v11 H_14 =>
  ∃ r11 : Bool, v11 = .bool r11 ∧ R (.bool r11) H_14) (R (.bool false) H_13))))
theorem juntolaw05_DecodeDecodes.ok (p : Int) (q_0 : Int) (q_1 : Int) (lA : Option Addr) (ln lc : Nat) (H : Heap) (R : Value → Heap → Prop) (h : juntolaw05_DecodeDecodes.W p q_0 q_1 lA ln lc H R) : CallH P N.juntolaw05_DecodeDecodes ([.int .u64 p, .agg #[.int .i64 q_0, .int .i64 q_1], .slice lA ln lc] : List Value) H R := by
  have e : juntolaw05_DecodeDecodes.W p q_0 q_1 lA ln lc H R = sxFn P T Sh.R nf juntolaw05_DecodeDecodes.A Try.f14.results.toList (bodyOf Try.f14) (([(.int .u64 p : Value), (.agg #[.int .i64 q_0, .int .i64 q_1] : Value), (.slice lA ln lc : Value)] : List Value) ++ List.replicate (61 - ([(.int .u64 p : Value), (.agg #[.int .i64 q_0, .int .i64 q_1] : Value), (.slice lA ln lc : Value)] : List Value).length) undef) H R := by kernel_rfl
  exact call_of_sx fits bodies mixed Try.func14 (c := bodyOf Try.f14) (by kernel_rfl) Try.ntmps14 juntolaw05_DecodeDecodes.A (by kernel_rfl) (e.mp h)
end Go.Proofs.Ytlhcaangdenoaaa.Sh
namespace Go.Proofs.Ytlhcaangdenoaaa.Sh
open Go.Sx Go.Lf
def juntolaw05_DecodeDecodes.C (p : Nat) (q2 : (Int × Int)) (l : (List TPoint)) (K : Bool → Prop) : Prop :=
  ∀ (Z : Nat → Prop) (H : Heap), ∀ (pv : Int), pv = (p : Int) → ∀ (lA : Option Addr) (ln lc : Nat), ln = l.length → SlF TPoint.L Z H lA lc l → ∀ KK : Value → Heap → Prop,
    (∀ (Z' : Nat → Prop) (H' : Heap), Ext H H' → Old Z H Z' → ∀ (r0 : Bool), K r0 → KK (.bool r0) H') →
    CallH P N.juntolaw05_DecodeDecodes [.int .u64 pv, .agg #[.int .i64 q2.1, .int .i64 q2.2], .slice lA ln lc] H KK
def juntolaw05_DecodeDecodes.Q (p : Nat) (q2 : (Int × Int)) (l : (List TPoint)) (K : Bool → Prop) : Prop :=
  decode_Decode.C p q2.1 q2.2 l (fun (r : (List Nat)) (r2 : (List Int)) (r3 : Int) =>
  juntoref05_Check.C p q2.1 l (fun (x : Int) =>
  cond (x != 0) (juntolaw05_told_bad.C (⟨r, r2, r3⟩ : TTold) x (fun (x2 : Bool) =>
  cond x2 (juntolaw05_alive.C (fun (x3 : Bool) =>
  K x3))
   (K false)))
   (cond (decide (q2.2 < 0)) (juntolaw05_told_bad.C (⟨r, r2, r3⟩ : TTold) 2 (fun (x4 : Bool) =>
  cond x4 (juntolaw05_alive.C (fun (x5 : Bool) =>
  K x5))
   (K false)))
   (juntolaw05_few.C q2.1 q2.2 l (fun (x6 : Bool) =>
  cond x6 (juntolaw05_told_bad.C (⟨r, r2, r3⟩ : TTold) 11 (fun (x7 : Bool) =>
  cond x7 (juntolaw05_alive.C (fun (x8 : Bool) =>
  K x8))
   (K false)))
   (juntolaw05_told_is.C (⟨r, r2, r3⟩ : TTold) p q2.1 q2.2 l (fun (x9 : Bool) =>
  cond x9 (juntolaw05_alive.C (fun (x10 : Bool) =>
  K x10))
   (K false))))))))
theorem juntolaw05_DecodeDecodes.q {p : Nat} {q2 : (Int × Int)} {l : (List TPoint)} {K : Bool → Prop} (q : juntolaw05_DecodeDecodes.Q p q2 l K) : juntolaw05_DecodeDecodes.C p q2 l K := by
  intro Z H pv he lA ln lc hn f KK hk
  cases he
  cases hn
  apply juntolaw05_DecodeDecodes.ok
  unfold juntolaw05_DecodeDecodes.W
  unfold juntolaw05_DecodeDecodes.Q at q
  obtain ⟨σ, hz, hσ⟩ := tags Z
  have hs : Stp ([1, 2, 3] : List Nat) σ H σ H := Stp.refl _ _ _
  replace f := f.wide hz
  clear hz
  refine NewH.mk fun H_ e => ?_
  obtain ⟨xσ, st, b⟩ := BoxF.new σ 0 e
  replace f := f.step st
  replace hs := hs.trans st
  refine ⟨by decide, by decide, ?_⟩
  refine ⟨by decide, by decide, ?_⟩
  refine ⟨_, b.cell0, ?_⟩
  refine ⟨_, b.cell 1 rfl, ?_⟩
  refine q (Zt xσ) H_ _ rfl _ _ _ rfl f _ (fun Z2 H_2 hE hO r Y hY A n c hn2 f2 r2 Y2 hY2 A2 n2 c2 hn3 f3 r3 hY3 q => ?_)
  obtain ⟨xσ2, st2, fz, fy, fy2⟩ := call2 hE hO xσ 1 2 (fun _ h => h) hY hY2 hY3
  replace f2 := f2.keep fz fy
  replace f3 := f3.keep fz fy2
  cases hn2
  cases hn3
  replace f := f.step st2
  replace b := b.step st2
  replace hs := hs.trans st2
  refine ⟨_, _, _, _, _, _, _, rfl, ?_⟩
  refine NewH.mk fun H_3 e2 => ?_
  obtain ⟨xσ3, st3, b2⟩ := BoxF.new xσ2 3 e2
  replace f := f.step st3
  replace b := b.step st3
  replace f2 := f2.step st3
  replace f3 := f3.step st3
  replace hs := hs.trans st3
  obtain ⟨xσ4, st4, f2⟩ := SlO.freeze f2
  replace f := f.step st4
  replace b := b.step st4
  replace f3 := f3.step st4
  replace b2 := b2.step st4
  replace hs := hs.trans st4
  obtain ⟨xσ5, st5, f3⟩ := SlO.freeze f3
  replace f := f.step st5
  replace b := b.step st5
  replace f2 := f2.step st5
  replace b2 := b2.step st5
  replace hs := hs.trans st5
  refine ⟨b2.mayN 0 3 (show (3 : Nat) ≤ 3 by decide), NewH.mk fun H_4 e3 => ?_⟩
  obtain ⟨st6, b2⟩ := b2.wroteN 0 (vs := [_, _, _]) (show (3 : Nat) ≤ 3 by decide) e3
  simp only [List.take_zero, List.take_succ_cons, List.drop_zero, List.drop_succ_cons, List.drop_nil, List.length_cons, List.length_nil, List.cons_append, List.nil_append, List.append_nil, Nat.zero_add, Nat.reduceAdd] at b2
  replace f := f.step st6
  replace b := b.step st6
  replace f2 := f2.step st6
  replace f3 := f3.step st6
  replace hs := hs.trans st6
  refine q (Zt xσ5) H_4 _ rfl _ _ _ rfl f _ (fun Z3 H_5 hE2 hO2 x q => ?_)
  obtain ⟨xσ6, st7⟩ := call0 hE2 xσ5
  replace f := f.step st7
  replace b := b.step st7
  replace f2 := f2.step st7
  replace f3 := f3.step st7
  replace b2 := b2.step st7
  replace hs := hs.trans st7
  refine ⟨_, rfl, ?_⟩
  refine condI (fun q => ?_) (fun q => ?_) q
  · refine ⟨_, _, _, _, _, _, _, b2.cell0, b2.cell 1 rfl, b2.cell 2 rfl, ?_⟩
    refine q (Zt xσ6) H_5 _ _ _ rfl f2 _ _ _ rfl f3 _ (fun Z4 H_6 hE3 hO3 x2 q => ?_)
    obtain ⟨xσ7, st8⟩ := call0 hE3 xσ6
    replace f := f.step st8
    replace b := b.step st8
    replace f2 := f2.step st8
    replace f3 := f3.step st8
    replace b2 := b2.step st8
    replace hs := hs.trans st8
    refine ⟨_, rfl, ?_⟩
    refine condI (fun q => ?_) (fun q => ?_) q
    · refine q (Zt xσ7) H_6  _ (fun Z5 H_7 hE4 hO4 x3 q => ?_)
      obtain ⟨xσ8, st9⟩ := call0 hE4 xσ7
      replace f := f.step st9
      replace b := b.step st9
      replace f2 := f2.step st9
      replace f3 := f3.step st9
      replace b2 := b2.step st9
      replace hs := hs.trans st9
      refine ⟨_, rfl, ?_⟩
      exact hk (Zt xσ8) _ (hs.ext hσ) (hs.old hσ) _ q
    · exact hk (Zt xσ7) _ (hs.ext hσ) (hs.old hσ) _ q
  · refine condI (fun q => ?_) (fun q => ?_) q
    · refine ⟨_, _, _, _, _, _, _, b2.cell0, b2.cell 1 rfl, b2.cell 2 rfl, ?_⟩
      refine q (Zt xσ6) H_5 _ _ _ rfl f2 _ _ _ rfl f3 _ (fun Z6 H_8 hE5 hO5 x4 q => ?_)
      obtain ⟨xσ9, st10⟩ := call0 hE5 xσ6
      replace f := f.step st10
      replace b := b.step st10
      replace f2 := f2.step st10
      replace f3 := f3.step st10
      replace b2 := b2.step st10
      replace hs := hs.trans st10
      refine ⟨_, rfl, ?_⟩
      refine condI (fun q => ?_) (fun q => ?_) q
      · refine q (Zt xσ9) H_8  _ (fun Z7 H_9 hE6 hO6 x5 q => ?_)
        obtain ⟨xσ10, st11⟩ := call0 hE6 xσ9
        replace f := f.step st11
        replace b := b.step st11
        replace f2 := f2.step st11
        replace f3 := f3.step st11
        replace b2 := b2.step st11
        replace hs := hs.trans st11
        refine ⟨_, rfl, ?_⟩
        exact hk (Zt xσ10) _ (hs.ext hσ) (hs.old hσ) _ q
      · exact hk (Zt xσ9) _ (hs.ext hσ) (hs.old hσ) _ q
    · refine q (Zt xσ6) H_5 _ _ _ rfl f _ (fun Z8 H_10 hE7 hO7 x6 q => ?_)
      obtain ⟨xσ11, st12⟩ := call0 hE7 xσ6
      replace f := f.step st12
      replace b := b.step st12
      replace f2 := f2.step st12
      replace f3 := f3.step st12
      replace b2 := b2.step st12
      replace hs := hs.trans st12
      refine ⟨_, rfl, ?_⟩
      refine condI (fun q => ?_) (fun q => ?_) q
      · refine ⟨_, _, _, _, _, _, _, b2.cell0, b2.cell 1 rfl, b2.cell 2 rfl, ?_⟩
        refine q (Zt xσ11) H_10 _ _ _ rfl f2 _ _ _ rfl f3 _ (fun Z9 H_11 hE8 hO8 x7 q => ?_)
        obtain ⟨xσ12, st13⟩ := call0 hE8 xσ11
        replace f := f.step st13
        replace b := b.step st13
        replace f2 := f2.step st13
        replace f3 := f3.step st13
        replace b2 := b2.step st13
        replace hs := hs.trans st13
        refine ⟨_, rfl, ?_⟩
        refine condI (fun q => ?_) (fun q => ?_) q
        · refine q (Zt xσ12) H_11  _ (fun Z10 H_12 hE9 hO9 x8 q => ?_)
          obtain ⟨xσ13, st14⟩ := call0 hE9 xσ12
          replace f := f.step st14
          replace b := b.step st14
          replace f2 := f2.step st14
          replace f3 := f3.step st14
          replace b2 := b2.step st14
          replace hs := hs.trans st14
          refine ⟨_, rfl, ?_⟩
          exact hk (Zt xσ13) _ (hs.ext hσ) (hs.old hσ) _ q
        · exact hk (Zt xσ12) _ (hs.ext hσ) (hs.old hσ) _ q
      · refine ⟨_, _, _, _, _, _, _, b2.cell0, b2.cell 1 rfl, b2.cell 2 rfl, ?_⟩
        refine q (Zt xσ11) H_10 _ _ _ rfl f2 _ _ _ rfl f3 _ rfl _ _ _ rfl f _ (fun Z11 H_13 hE10 hO10 x9 q => ?_)
        obtain ⟨xσ14, st15⟩ := call0 hE10 xσ11
        replace f := f.step st15
        replace b := b.step st15
        replace f2 := f2.step st15
        replace f3 := f3.step st15
        replace b2 := b2.step st15
        replace hs := hs.trans st15
        refine ⟨_, rfl, ?_⟩
        refine condI (fun q => ?_) (fun q => ?_) q
        · refine q (Zt xσ14) H_13  _ (fun Z12 H_14 hE11 hO11 x10 q => ?_)
          obtain ⟨xσ15, st16⟩ := call0 hE11 xσ14
          replace f := f.step st16
          replace b := b.step st16
          replace f2 := f2.step st16
          replace f3 := f3.step st16
          replace b2 := b2.step st16
          replace hs := hs.trans st16
          refine ⟨_, rfl, ?_⟩
          exact hk (Zt xσ15) _ (hs.ext hσ) (hs.old hσ) _ q
        · exact hk (Zt xσ14) _ (hs.ext hσ) (hs.old hσ) _ q
end Go.Proofs.Ytlhcaangdenoaaa.Sh
