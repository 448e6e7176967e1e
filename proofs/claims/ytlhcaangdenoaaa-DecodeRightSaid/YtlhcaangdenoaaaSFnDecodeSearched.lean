import Derived.Test.YtlhcaangdenoaaaSTypes
import Derived.Test.YtlhcaangdenoaaaSFnDecode
import Derived.Test.YtlhcaangdenoaaaSFnJuntolaw05
import Derived.Test.YtlhcaangdenoaaaSFnJuntoref01
import Derived.Test.YtlhcaangdenoaaaSFnJuntoref05
namespace Go.Lf
end Go.Lf
namespace Go.Sx
end Go.Sx
set_option linter.unusedVariables false
set_option linter.unusedSimpArgs false
set_option maxRecDepth 100000
namespace Go.Proofs.Ytlhcaangdenoaaa.Sh
open Go.Sx
def juntolaw05_DecodeSearched.A : Ann where
  loops := fun i => match i with
    | _ => []
  plans := fun i => match i with
    | 1 => .first 0 (.first 2 (.read 1 (.first 4 (.read 3 (.first 5 (.done))))))
    | _ => .stop
def juntolaw05_DecodeSearched.W (p : Int) (q_0 : Int) (q_1 : Int) (lA : Option Addr) (ln lc : Nat) (H : Heap) (R : Value → Heap → Prop) : Prop :=
  NewH (H.push (.cells #[.int .i64 q_0, .int .i64 q_1] 81 (0, 0))) fun H_ =>
  0 ≤ (0 : Int) ∧ (0 : Int) < (2 : Int) ∧ 0 ≤ (1 : Int) ∧ (1 : Int) < (2 : Int) ∧ ∃ x : Int, cellH H_ ((Addr.mk H.size 0 none).add 0) = some (.int .i64 x) ∧ ∃ x2 : Int, cellH H_ ((Addr.mk H.size 0 none).add 1) = some (.int .i64 x2) ∧ CallH P N.juntoref05_Check [.int .u64 p, .int .i64 x, .slice lA ln lc] H_ fun v H_2 =>
  ∃ r : Int, v = .int .i64 r ∧ cond (r != 0) (CallH P N.juntolaw05_alive [] H_2 fun v2 H_3 =>
  ∃ r2 : Bool, v2 = .bool r2 ∧ R (.bool r2) H_3) (cond (decide (((ln : Nat) : Int) > 9)) (CallH P N.juntolaw05_alive [] H_2 fun v3 H_4 =>
  ∃ r3 : Bool, v3 = .bool r3 ∧ R (.bool r3) H_4) (cond (decide (x2 < 0)) (CallH P N.juntolaw05_alive [] H_2 fun v4 H_5 =>
  ∃ r4 : Bool, v4 = .bool r4 ∧ R (.bool r4) H_5) (CallH P N.juntolaw05_few [.int .i64 x, .int .i64 x2, .slice lA ln lc] H_2 fun v5 H_6 =>
  ∃ r5 : Bool, v5 = .bool r5 ∧ cond r5 (CallH P N.juntolaw05_alive [] H_6 fun v6 H_7 =>
  ∃ r6 : Bool, v6 = .bool r6 ∧ R (.bool r6) H_7)
   (CallH P N.decode_Decode [.int .u64 p, .int .i64 x, .int .i64 x2, .slice lA ln lc] H_6 fun v7 H_8 =>
  ∃ (r0A : Option Addr) (r0n r0c : Nat), ∃ (r1A : Option Addr) (r1n r1c : Nat), ∃ r22 : Int, v7 = .tuple #[.slice r0A r0n r0c, .slice r1A r1n r1c, .int .i64 r22] ∧ CallH P N.juntoref05_Search [.int .u64 p, .int .i64 x, .int .i64 x2, .slice lA ln lc] H_8 fun v8 H_9 =>
  ∃ (r0A2 : Option Addr) (r0n2 r0c2 : Nat), ∃ r1 : Bool, v8 = .tuple #[.slice r0A2 r0n2 r0c2, .bool r1] ∧ cond (!r1) (CallH P N.juntolaw05_told_bad [.agg #[.slice r0A r0n r0c, .slice r1A r1n r1c, .int .i64 r22], .int .i64 12] H_9 fun v9 H_10 =>
  ∃ r7 : Bool, v9 = .bool r7 ∧ cond r7 (CallH P N.juntolaw05_alive [] H_10 fun v10 H_11 =>
  ∃ r8 : Bool, v10 = .bool r8 ∧ R (.bool r8) H_11) (R (.bool false) H_10))
   (cond (r22 == 0) (CallH P N.juntoref01_Same [.slice r0A r0n r0c, .slice r0A2 r0n2 r0c2] H_9 fun v11 H_12 =>
  ∃ r9 : Bool, v11 = .bool r9 ∧ cond r9 (CallH P N.juntoref05_Off [.int .u64 p, .slice r0A2 r0n2 r0c2, .slice lA ln lc] H_12 fun v12 H_13 =>
  ∃ (rA : Option Addr) (rn rc : Nat), v12 = .slice rA rn rc ∧ CallH P N.juntolaw05_ints [.slice r1A r1n r1c, .slice rA rn rc] H_13 fun v13 H_14 =>
  ∃ r10 : Bool, v13 = .bool r10 ∧ R (.bool r10) H_14) (R (.bool false) H_12)) (R (.bool false) H_9))))))
theorem juntolaw05_DecodeSearched.ok (p : Int) (q_0 : Int) (q_1 : Int) (lA : Option Addr) (ln lc : Nat) (H : Heap) (R : Value → Heap → Prop) (h : juntolaw05_DecodeSearched.W p q_0 q_1 lA ln lc H R) : CallH P N.juntolaw05_DecodeSearched ([.int .u64 p, .agg #[.int .i64 q_0, .int .i64 q_1], .slice lA ln lc] : List Value) H R := by
  have e : juntolaw05_DecodeSearched.W p q_0 q_1 lA ln lc H R = sxFn P T Sh.R nf juntolaw05_DecodeSearched.A Try.f16.results.toList (bodyOf Try.f16) (([(.int .u64 p : Value), (.agg #[.int .i64 q_0, .int .i64 q_1] : Value), (.slice lA ln lc : Value)] : List Value) ++ List.replicate (81 - ([(.int .u64 p : Value), (.agg #[.int .i64 q_0, .int .i64 q_1] : Value), (.slice lA ln lc : Value)] : List Value).length) undef) H R := by kernel_rfl
  exact call_of_sx fits bodies mixed Try.func16 (c := bodyOf Try.f16) (by kernel_rfl) Try.ntmps16 juntolaw05_DecodeSearched.A (by kernel_rfl) (e.mp h)
end Go.Proofs.Ytlhcaangdenoaaa.Sh
namespace Go.Proofs.Ytlhcaangdenoaaa.Sh
open Go.Sx Go.Lf
def juntolaw05_DecodeSearched.C (p : Nat) (q2 : (Int × Int)) (l : (List TPoint)) (K : Bool → Prop) : Prop :=
  ∀ (Z : Nat → Prop) (H : Heap), ∀ (pv : Int), pv = (p : Int) → ∀ (lA : Option Addr) (ln lc : Nat), ln = l.length → SlF TPoint.L Z H lA lc l → ∀ KK : Value → Heap → Prop,
    (∀ (Z' : Nat → Prop) (H' : Heap), Ext H H' → Old Z H Z' → ∀ (r0 : Bool), K r0 → KK (.bool r0) H') →
    CallH P N.juntolaw05_DecodeSearched [.int .u64 pv, .agg #[.int .i64 q2.1, .int .i64 q2.2], .slice lA ln lc] H KK
def juntolaw05_DecodeSearched.Q (p : Nat) (q2 : (Int × Int)) (l : (List TPoint)) (K : Bool → Prop) : Prop :=
  juntoref05_Check.C p q2.1 l (fun (x : Int) =>
  cond (x != 0) (juntolaw05_alive.C (fun (x2 : Bool) =>
  K x2))
   (cond (decide (((l.length : Nat) : Int) > 9)) (juntolaw05_alive.C (fun (x3 : Bool) =>
  K x3))
   (cond (decide (q2.2 < 0)) (juntolaw05_alive.C (fun (x4 : Bool) =>
  K x4))
   (juntolaw05_few.C q2.1 q2.2 l (fun (x5 : Bool) =>
  cond x5 (juntolaw05_alive.C (fun (x6 : Bool) =>
  K x6))
   (decode_Decode.C p q2.1 q2.2 l (fun (r : (List Nat)) (r2 : (List Int)) (r3 : Int) =>
  juntoref05_Search.C p q2.1 q2.2 l (fun (r4 : (List Nat)) (r5 : Bool) =>
  cond (!r5) (juntolaw05_told_bad.C (⟨r, r2, r3⟩ : TTold) 12 (fun (x7 : Bool) =>
  cond x7 (juntolaw05_alive.C (fun (x8 : Bool) =>
  K x8))
   (K false)))
   (cond (r3 == 0) (juntoref01_Same.C r r4 (fun (x9 : Bool) =>
  cond x9 (juntoref05_Off.C p r4 l (fun (x10 : (List Int)) =>
  juntolaw05_ints.C r2 x10 (fun (x11 : Bool) =>
  K x11)))
   (K false)))
   (K false))))))))))
theorem juntolaw05_DecodeSearched.q {p : Nat} {q2 : (Int × Int)} {l : (List TPoint)} {K : Bool → Prop} (q : juntolaw05_DecodeSearched.Q p q2 l K) : juntolaw05_DecodeSearched.C p q2 l K := by
  intro Z H pv he lA ln lc hn f KK hk
  cases he
  cases hn
  apply juntolaw05_DecodeSearched.ok
  unfold juntolaw05_DecodeSearched.W
  unfold juntolaw05_DecodeSearched.Q at q
  obtain ⟨σ, hz, hσ⟩ := tags Z
  have hs : Stp ([1, 2, 3, 4] : List Nat) σ H σ H := Stp.refl _ _ _
  replace f := f.wide hz
  clear hz
  refine NewH.mk fun H_ e => ?_
  obtain ⟨xσ, st, b⟩ := BoxF.new σ 0 e
  replace f := f.step st
  replace hs := hs.trans st
  refine ⟨by decide, by decide, ?_⟩
  refine ⟨by decide, by decide, ?_⟩
  refine ⟨_, b.cell0, ?_⟩
  refine ⟨_, b.cell 1 rfl, ?_⟩
  refine q (Zt xσ) H_ _ rfl _ _ _ rfl f _ (fun Z2 H_2 hE hO x q => ?_)
  obtain ⟨xσ2, st2⟩ := call0 hE xσ
  replace f := f.step st2
  replace b := b.step st2
  replace hs := hs.trans st2
  refine ⟨_, rfl, ?_⟩
  refine condI (fun q => ?_) (fun q => ?_) q
  · refine q (Zt xσ2) H_2  _ (fun Z3 H_3 hE2 hO2 x2 q => ?_)
    obtain ⟨xσ3, st3⟩ := call0 hE2 xσ2
    replace f := f.step st3
    replace b := b.step st3
    replace hs := hs.trans st3
    refine ⟨_, rfl, ?_⟩
    exact hk (Zt xσ3) _ (hs.ext hσ) (hs.old hσ) _ q
  · refine condI (fun q => ?_) (fun q => ?_) q
    · refine q (Zt xσ2) H_2  _ (fun Z4 H_4 hE3 hO3 x3 q => ?_)
      obtain ⟨xσ4, st4⟩ := call0 hE3 xσ2
      replace f := f.step st4
      replace b := b.step st4
      replace hs := hs.trans st4
      refine ⟨_, rfl, ?_⟩
      exact hk (Zt xσ4) _ (hs.ext hσ) (hs.old hσ) _ q
    · refine condI (fun q => ?_) (fun q => ?_) q
      · refine q (Zt xσ2) H_2  _ (fun Z5 H_5 hE4 hO4 x4 q => ?_)
        obtain ⟨xσ5, st5⟩ := call0 hE4 xσ2
        replace f := f.step st5
        replace b := b.step st5
        replace hs := hs.trans st5
        refine ⟨_, rfl, ?_⟩
        exact hk (Zt xσ5) _ (hs.ext hσ) (hs.old hσ) _ q
      · refine q (Zt xσ2) H_2 _ _ _ rfl f _ (fun Z6 H_6 hE5 hO5 x5 q => ?_)
        obtain ⟨xσ6, st6⟩ := call0 hE5 xσ2
        replace f := f.step st6
        replace b := b.step st6
        replace hs := hs.trans st6
        refine ⟨_, rfl, ?_⟩
        refine condI (fun q => ?_) (fun q => ?_) q
        · refine q (Zt xσ6) H_6  _ (fun Z7 H_7 hE6 hO6 x6 q => ?_)
          obtain ⟨xσ7, st7⟩ := call0 hE6 xσ6
          replace f := f.step st7
          replace b := b.step st7
          replace hs := hs.trans st7
          refine ⟨_, rfl, ?_⟩
          exact hk (Zt xσ7) _ (hs.ext hσ) (hs.old hσ) _ q
        · refine q (Zt xσ6) H_6 _ rfl _ _ _ rfl f _ (fun Z8 H_8 hE7 hO7 r Y hY A n c hn2 f2 r2 Y2 hY2 A2 n2 c2 hn3 f3 r3 hY3 q => ?_)
          obtain ⟨xσ8, st8, fz7, fy, fy2⟩ := call2 hE7 hO7 xσ6 1 2 (fun _ h => h) hY hY2 hY3
          replace f2 := f2.keep fz7 fy
          replace f3 := f3.keep fz7 fy2
          cases hn2
          cases hn3
          replace f := f.step st8
          replace b := b.step st8
          replace hs := hs.trans st8
          refine ⟨_, _, _, _, _, _, _, rfl, ?_⟩
          refine q (Zt xσ8) H_8 _ rfl _ _ _ rfl f _ (fun Z9 H_9 hE8 hO8 r4 Y3 hY4 A3 n3 c3 hn4 f4 r5 q => ?_)
          obtain ⟨xσ9, st9, fz8, fy3⟩ := call1 hE8 hO8 xσ8 3 (fun _ h => h) hY4
          replace f4 := f4.keep fz8 fy3
          cases hn4
          replace f := f.step st9
          replace b := b.step st9
          replace f2 := f2.step st9
          replace f3 := f3.step st9
          replace hs := hs.trans st9
          refine ⟨_, _, _, _, rfl, ?_⟩
          refine condI (fun q => ?_) (fun q => ?_) q
          · refine q (fun i => xσ9 i = 0 ∨ xσ9 i = 1 ∨ xσ9 i = 2) H_9 _ _ _ rfl (f2.read (fun i h => .inl h) (fun i h => .inr (.inl h))) _ _ _ rfl (f3.read (fun i h => .inl h) (fun i h => .inr (.inr (h)))) _ (fun Z10 H_10 hE9 hO9 x7 q => ?_)
            obtain ⟨xσ10, st10⟩ := call0 hE9 xσ9
            replace f := f.step st10
            replace b := b.step st10
            replace f2 := f2.step st10
            replace f3 := f3.step st10
            replace f4 := f4.step st10
            replace hs := hs.trans st10
            refine ⟨_, rfl, ?_⟩
            refine condI (fun q => ?_) (fun q => ?_) q
            · refine q (Zt xσ10) H_10  _ (fun Z11 H_11 hE10 hO10 x8 q => ?_)
              obtain ⟨xσ11, st11⟩ := call0 hE10 xσ10
              replace f := f.step st11
              replace b := b.step st11
              replace f2 := f2.step st11
              replace f3 := f3.step st11
              replace f4 := f4.step st11
              replace hs := hs.trans st11
              refine ⟨_, rfl, ?_⟩
              exact hk (Zt xσ11) _ (hs.ext hσ) (hs.old hσ) _ q
            · exact hk (Zt xσ10) _ (hs.ext hσ) (hs.old hσ) _ q
          · refine condI (fun q => ?_) (fun q => ?_) q
            · refine q (fun i => xσ9 i = 0 ∨ xσ9 i = 1 ∨ xσ9 i = 3) H_9 _ _ _ rfl (f2.read (fun i h => .inl h) (fun i h => .inr (.inl h))) _ _ _ rfl (f4.read (fun i h => .inl h) (fun i h => .inr (.inr (h)))) _ (fun Z12 H_12 hE11 hO11 x9 q => ?_)
              obtain ⟨xσ12, st12⟩ := call0 hE11 xσ9
              replace f := f.step st12
              replace b := b.step st12
              replace f2 := f2.step st12
              replace f3 := f3.step st12
              replace f4 := f4.step st12
              replace hs := hs.trans st12
              refine ⟨_, rfl, ?_⟩
              refine condI (fun q => ?_) (fun q => ?_) q
              · refine q (fun i => xσ12 i = 0 ∨ xσ12 i = 3) H_12 _ rfl _ _ _ rfl (f4.read (fun i h => .inl h) (fun i h => .inr (h))) _ _ _ rfl (f.wide (fun i h => .inl h)) _ (fun Z13 H_13 hE12 hO12 x10 Y4 hY5 A4 n4 c4 hn5 f5 q => ?_)
                obtain ⟨xσ13, st13, fy4⟩ := callB1 hE12 hO12 xσ12 4 hY5
                replace f5 := (SlO.anyZ (Z' := Zt xσ13) i64_flatL f5).keep (Fr.refl _ _) fy4
                cases hn5
                replace f := f.step st13
                replace b := b.step st13
                replace f2 := f2.step st13
                replace f3 := f3.step st13
                replace f4 := f4.step st13
                replace hs := hs.trans st13
                refine ⟨_, _, _, rfl, ?_⟩
                refine q (fun i => xσ13 i = 0 ∨ xσ13 i = 2 ∨ xσ13 i = 4) H_13 _ _ _ rfl (f3.read (fun i h => .inl h) (fun i h => .inr (.inl h))) _ _ _ rfl (f5.read (fun i h => .inl h) (fun i h => .inr (.inr (h)))) _ (fun Z14 H_14 hE13 hO13 x11 q => ?_)
                obtain ⟨xσ14, st14⟩ := call0 hE13 xσ13
                replace f := f.step st14
                replace b := b.step st14
                replace f2 := f2.step st14
                replace f3 := f3.step st14
                replace f4 := f4.step st14
                replace f5 := f5.step st14
                replace hs := hs.trans st14
                refine ⟨_, rfl, ?_⟩
                exact hk (Zt xσ14) _ (hs.ext hσ) (hs.old hσ) _ q
              · exact hk (Zt xσ12) _ (hs.ext hσ) (hs.old hσ) _ q
            · exact hk (Zt xσ9) _ (hs.ext hσ) (hs.old hσ) _ q
end Go.Proofs.Ytlhcaangdenoaaa.Sh
