import Derived.Test.YtlhcaangdenoaaaSTypes
import Derived.Test.YtlhcaangdenoaaaSFnDecode
import Derived.Test.YtlhcaangdenoaaaSFnJuntolaw05
import Derived.Test.YtlhcaangdenoaaaSFnJuntoref01
namespace Go.Lf
end Go.Lf
namespace Go.Sx
end Go.Sx
set_option linter.unusedVariables false
set_option linter.unusedSimpArgs false
set_option maxRecDepth 100000
namespace Go.Proofs.Ytlhcaangdenoaaa.Sh
open Go.Sx
def juntolaw05_DecodeOne.A : Ann where
  loops := fun i => match i with
    | _ => []
  plans := fun i => match i with
    | 1 => .first 0 (.first 2 (.first 4 (.read 1 (.first 6 (.read 3 (.first 7 (.read 5 (.first 8 (.done)))))))))
    | _ => .stop
def juntolaw05_DecodeOne.W (p : Int) (q_0 : Int) (q_1 : Int) (q_2 : Int) (lA : Option Addr) (ln lc : Nat) (H : Heap) (R : Value → Heap → Prop) : Prop :=
  NewH (H.push (.cells #[.int .i64 q_0, .int .i64 q_1, .int .i64 q_2] 96 (0, 0))) fun H_ =>
  0 ≤ (0 : Int) ∧ (0 : Int) < (3 : Int) ∧ 0 ≤ (1 : Int) ∧ (1 : Int) < (3 : Int) ∧ 0 ≤ (2 : Int) ∧ (2 : Int) < (3 : Int) ∧ ∃ x : Int, cellH H_ ((Addr.mk H.size 0 none).add 0) = some (.int .i64 x) ∧ ∃ x2 : Int, cellH H_ ((Addr.mk H.size 0 none).add 1) = some (.int .i64 x2) ∧ ∃ x3 : Int, cellH H_ ((Addr.mk H.size 0 none).add 2) = some (.int .i64 x3) ∧ cond (decide (x2 > x3)) (CallH P N.juntolaw05_alive [] H_ fun v H_2 =>
  ∃ r : Bool, v = .bool r ∧ R (.bool r) H_2)
   (CallH P N.decode_Decode [.int .u64 p, .int .i64 x, .int .i64 x2, .slice lA ln lc] H_ fun v2 H_3 =>
  ∃ (r0A : Option Addr) (r0n r0c : Nat), ∃ (r1A : Option Addr) (r1n r1c : Nat), ∃ r2 : Int, v2 = .tuple #[.slice r0A r0n r0c, .slice r1A r1n r1c, .int .i64 r2] ∧ CallH P N.decode_Decode [.int .u64 p, .int .i64 x, .int .i64 x3, .slice lA ln lc] H_3 fun v3 H_4 =>
  ∃ (r0A2 : Option Addr) (r0n2 r0c2 : Nat), ∃ (r1A2 : Option Addr) (r1n2 r1c2 : Nat), ∃ r22 : Int, v3 = .tuple #[.slice r0A2 r0n2 r0c2, .slice r1A2 r1n2 r1c2, .int .i64 r22] ∧ cond (r2 != 0) (cond (r2 != 12) (CallH P N.juntolaw05_alive [] H_4 fun v4 H_5 =>
  ∃ r3 : Bool, v4 = .bool r3 ∧ R (.bool r3) H_5) (cond (r22 != 0) (CallH P N.juntolaw05_alive [] H_4 fun v5 H_6 =>
  ∃ r4 : Bool, v5 = .bool r4 ∧ R (.bool r4) H_6) (cond (decide (((r1n2 : Nat) : Int) > x2)) (CallH P N.juntolaw05_alive [] H_4 fun v6 H_7 =>
  ∃ r5 : Bool, v6 = .bool r5 ∧ R (.bool r5) H_7) (R (.bool false) H_4)))) (cond (r22 != 0) (cond (r2 != 12) (CallH P N.juntolaw05_alive [] H_4 fun v7 H_8 =>
  ∃ r6 : Bool, v7 = .bool r6 ∧ R (.bool r6) H_8) (cond (r22 != 0) (CallH P N.juntolaw05_alive [] H_4 fun v8 H_9 =>
  ∃ r7 : Bool, v8 = .bool r7 ∧ R (.bool r7) H_9) (cond (decide (((r1n2 : Nat) : Int) > x2)) (CallH P N.juntolaw05_alive [] H_4 fun v9 H_10 =>
  ∃ r8 : Bool, v9 = .bool r8 ∧ R (.bool r8) H_10) (R (.bool false) H_4)))) (CallH P N.juntoref01_Same [.slice r0A r0n r0c, .slice r0A2 r0n2 r0c2] H_4 fun v10 H_11 =>
  ∃ r9 : Bool, v10 = .bool r9 ∧ cond r9 (CallH P N.juntolaw05_ints [.slice r1A r1n r1c, .slice r1A2 r1n2 r1c2] H_11 fun v11 H_12 =>
  ∃ r10 : Bool, v11 = .bool r10 ∧ cond r10 (cond (r2 != 12) (CallH P N.juntolaw05_alive [] H_12 fun v12 H_13 =>
  ∃ r11 : Bool, v12 = .bool r11 ∧ R (.bool r11) H_13) (cond (r22 != 0) (CallH P N.juntolaw05_alive [] H_12 fun v13 H_14 =>
  ∃ r12 : Bool, v13 = .bool r12 ∧ R (.bool r12) H_14) (cond (decide (((r1n2 : Nat) : Int) > x2)) (CallH P N.juntolaw05_alive [] H_12 fun v14 H_15 =>
  ∃ r13 : Bool, v14 = .bool r13 ∧ R (.bool r13) H_15) (R (.bool false) H_12)))) (R (.bool false) H_12)) (R (.bool false) H_11))))
theorem juntolaw05_DecodeOne.ok (p : Int) (q_0 : Int) (q_1 : Int) (q_2 : Int) (lA : Option Addr) (ln lc : Nat) (H : Heap) (R : Value → Heap → Prop) (h : juntolaw05_DecodeOne.W p q_0 q_1 q_2 lA ln lc H R) : CallH P N.juntolaw05_DecodeOne ([.int .u64 p, .agg #[.int .i64 q_0, .int .i64 q_1, .int .i64 q_2], .slice lA ln lc] : List Value) H R := by
  have e : juntolaw05_DecodeOne.W p q_0 q_1 q_2 lA ln lc H R = sxFn P T Sh.R nf juntolaw05_DecodeOne.A Try.f17.results.toList (bodyOf Try.f17) (([(.int .u64 p : Value), (.agg #[.int .i64 q_0, .int .i64 q_1, .int .i64 q_2] : Value), (.slice lA ln lc : Value)] : List Value) ++ List.replicate (77 - ([(.int .u64 p : Value), (.agg #[.int .i64 q_0, .int .i64 q_1, .int .i64 q_2] : Value), (.slice lA ln lc : Value)] : List Value).length) undef) H R := by kernel_rfl
  exact call_of_sx fits bodies mixed Try.func17 (c := bodyOf Try.f17) (by kernel_rfl) Try.ntmps17 juntolaw05_DecodeOne.A (by kernel_rfl) (e.mp h)
end Go.Proofs.Ytlhcaangdenoaaa.Sh
namespace Go.Proofs.Ytlhcaangdenoaaa.Sh
open Go.Sx Go.Lf
def juntolaw05_DecodeOne.C (p : Nat) (q2 : (Int × Int × Int)) (l : (List TPoint)) (K : Bool → Prop) : Prop :=
  ∀ (Z : Nat → Prop) (H : Heap), ∀ (pv : Int), pv = (p : Int) → ∀ (lA : Option Addr) (ln lc : Nat), ln = l.length → SlF TPoint.L Z H lA lc l → ∀ KK : Value → Heap → Prop,
    (∀ (Z' : Nat → Prop) (H' : Heap), Ext H H' → Old Z H Z' → ∀ (r0 : Bool), K r0 → KK (.bool r0) H') →
    CallH P N.juntolaw05_DecodeOne [.int .u64 pv, .agg #[.int .i64 q2.1, .int .i64 q2.2.1, .int .i64 q2.2.2], .slice lA ln lc] H KK
def juntolaw05_DecodeOne.Q (p : Nat) (q2 : (Int × Int × Int)) (l : (List TPoint)) (K : Bool → Prop) : Prop :=
  cond (decide (q2.2.1 > q2.2.2)) (juntolaw05_alive.C (fun (x : Bool) =>
  K x))
   (decode_Decode.C p q2.1 q2.2.1 l (fun (r : (List Nat)) (r2 : (List Int)) (r3 : Int) =>
  decode_Decode.C p q2.1 q2.2.2 l (fun (r4 : (List Nat)) (r5 : (List Int)) (r6 : Int) =>
  cond (r3 != 0) (cond (r3 != 12) (juntolaw05_alive.C (fun (x2 : Bool) =>
  K x2))
   (cond (r6 != 0) (juntolaw05_alive.C (fun (x3 : Bool) =>
  K x3))
   (cond (decide (((r5.length : Nat) : Int) > q2.2.1)) (juntolaw05_alive.C (fun (x4 : Bool) =>
  K x4))
   (K false))))
   (cond (r6 != 0) (cond (r3 != 12) (juntolaw05_alive.C (fun (x5 : Bool) =>
  K x5))
   (cond (r6 != 0) (juntolaw05_alive.C (fun (x6 : Bool) =>
  K x6))
   (cond (decide (((r5.length : Nat) : Int) > q2.2.1)) (juntolaw05_alive.C (fun (x7 : Bool) =>
  K x7))
   (K false))))
   (juntoref01_Same.C r r4 (fun (x8 : Bool) =>
  cond x8 (juntolaw05_ints.C r2 r5 (fun (x9 : Bool) =>
  cond x9 (cond (r3 != 12) (juntolaw05_alive.C (fun (x10 : Bool) =>
  K x10))
   (cond (r6 != 0) (juntolaw05_alive.C (fun (x11 : Bool) =>
  K x11))
   (cond (decide (((r5.length : Nat) : Int) > q2.2.1)) (juntolaw05_alive.C (fun (x12 : Bool) =>
  K x12))
   (K false))))
   (K false)))
   (K false)))))))
theorem juntolaw05_DecodeOne.q {p : Nat} {q2 : (Int × Int × Int)} {l : (List TPoint)} {K : Bool → Prop} (q : juntolaw05_DecodeOne.Q p q2 l K) : juntolaw05_DecodeOne.C p q2 l K := by
  intro Z H pv he lA ln lc hn f KK hk
  cases he
  cases hn
  apply juntolaw05_DecodeOne.ok
  unfold juntolaw05_DecodeOne.W
  unfold juntolaw05_DecodeOne.Q at q
  obtain ⟨σ, hz, hσ⟩ := tags Z
  have hs : Stp ([1, 2, 3, 4] : List Nat) σ H σ H := Stp.refl _ _ _
  replace f := f.wide hz
  clear hz
  refine NewH.mk fun H_ e => ?_
  obtain ⟨xσ, st, b⟩ := BoxF.new σ 0 e
  replace f := f.step st
  replace hs := hs.trans st
  refine ⟨by decide, by decide, ?_⟩
  refine ⟨by decide, by decide, ?_⟩
  refine ⟨by decide, by decide, ?_⟩
  refine ⟨_, b.cell0, ?_⟩
  refine ⟨_, b.cell 1 rfl, ?_⟩
  refine ⟨_, b.cell 2 rfl, ?_⟩
  refine condI (fun q => ?_) (fun q => ?_) q
  · refine q (Zt xσ) H_  _ (fun Z2 H_2 hE hO x q => ?_)
    obtain ⟨xσ2, st2⟩ := call0 hE xσ
    replace f := f.step st2
    replace b := b.step st2
    replace hs := hs.trans st2
    refine ⟨_, rfl, ?_⟩
    exact hk (Zt xσ2) _ (hs.ext hσ) (hs.old hσ) _ q
  · refine q (Zt xσ) H_ _ rfl _ _ _ rfl f _ (fun Z3 H_3 hE2 hO2 r Y hY A n c hn2 f2 r2 Y2 hY2 A2 n2 c2 hn3 f3 r3 hY3 q => ?_)
    obtain ⟨xσ3, st3, fz2, fy, fy2⟩ := call2 hE2 hO2 xσ 1 2 (fun _ h => h) hY hY2 hY3
    replace f2 := f2.keep fz2 fy
    replace f3 := f3.keep fz2 fy2
    cases hn2
    cases hn3
    replace f := f.step st3
    replace b := b.step st3
    replace hs := hs.trans st3
    refine ⟨_, _, _, _, _, _, _, rfl, ?_⟩
    refine q (Zt xσ3) H_3 _ rfl _ _ _ rfl f _ (fun Z4 H_4 hE3 hO3 r4 Y3 hY4 A3 n3 c3 hn4 f4 r5 Y4 hY5 A4 n4 c4 hn5 f5 r6 hY6 q => ?_)
    obtain ⟨xσ4, st4, fz3, fy3, fy4⟩ := call2 hE3 hO3 xσ3 3 4 (fun _ h => h) hY4 hY5 hY6
    replace f4 := f4.keep fz3 fy3
    replace f5 := f5.keep fz3 fy4
    cases hn4
    cases hn5
    replace f := f.step st4
    replace b := b.step st4
    replace f2 := f2.step st4
    replace f3 := f3.step st4
    replace hs := hs.trans st4
    refine ⟨_, _, _, _, _, _, _, rfl, ?_⟩
    refine condI (fun q => ?_) (fun q => ?_) q
    · refine condI (fun q => ?_) (fun q => ?_) q
      · refine q (Zt xσ4) H_4  _ (fun Z5 H_5 hE4 hO4 x2 q => ?_)
        obtain ⟨xσ5, st5⟩ := call0 hE4 xσ4
        replace f := f.step st5
        replace b := b.step st5
        replace f2 := f2.step st5
        replace f3 := f3.step st5
        replace f4 := f4.step st5
        replace f5 := f5.step st5
        replace hs := hs.trans st5
        refine ⟨_, rfl, ?_⟩
        exact hk (Zt xσ5) _ (hs.ext hσ) (hs.old hσ) _ q
      · refine condI (fun q => ?_) (fun q => ?_) q
        · refine q (Zt xσ4) H_4  _ (fun Z6 H_6 hE5 hO5 x3 q => ?_)
          obtain ⟨xσ6, st6⟩ := call0 hE5 xσ4
          replace f := f.step st6
          replace b := b.step st6
          replace f2 := f2.step st6
          replace f3 := f3.step st6
          replace f4 := f4.step st6
          replace f5 := f5.step st6
          replace hs := hs.trans st6
          refine ⟨_, rfl, ?_⟩
          exact hk (Zt xσ6) _ (hs.ext hσ) (hs.old hσ) _ q
        · refine condI (fun q => ?_) (fun q => ?_) q
          · refine q (Zt xσ4) H_4  _ (fun Z7 H_7 hE6 hO6 x4 q => ?_)
            obtain ⟨xσ7, st7⟩ := call0 hE6 xσ4
            replace f := f.step st7
            replace b := b.step st7
            replace f2 := f2.step st7
            replace f3 := f3.step st7
            replace f4 := f4.step st7
            replace f5 := f5.step st7
            replace hs := hs.trans st7
            refine ⟨_, rfl, ?_⟩
            exact hk (Zt xσ7) _ (hs.ext hσ) (hs.old hσ) _ q
          · exact hk (Zt xσ4) _ (hs.ext hσ) (hs.old hσ) _ q
    · refine condI (fun q => ?_) (fun q => ?_) q
      · refine condI (fun q => ?_) (fun q => ?_) q
        · refine q (Zt xσ4) H_4  _ (fun Z8 H_8 hE7 hO7 x5 q => ?_)
          obtain ⟨xσ8, st8⟩ := call0 hE7 xσ4
          replace f := f.step st8
          replace b := b.step st8
          replace f2 := f2.step st8
          replace f3 := f3.step st8
          replace f4 := f4.step st8
          replace f5 := f5.step st8
          replace hs := hs.trans st8
          refine ⟨_, rfl, ?_⟩
          exact hk (Zt xσ8) _ (hs.ext hσ) (hs.old hσ) _ q
        · refine condI (fun q => ?_) (fun q => ?_) q
          · refine q (Zt xσ4) H_4  _ (fun Z9 H_9 hE8 hO8 x6 q => ?_)
            obtain ⟨xσ9, st9⟩ := call0 hE8 xσ4
            replace f := f.step st9
            replace b := b.step st9
            replace f2 := f2.step st9
            replace f3 := f3.step st9
            replace f4 := f4.step st9
            replace f5 := f5.step st9
            replace hs := hs.trans st9
            refine ⟨_, rfl, ?_⟩
            exact hk (Zt xσ9) _ (hs.ext hσ) (hs.old hσ) _ q
          · refine condI (fun q => ?_) (fun q => ?_) q
            · refine q (Zt xσ4) H_4  _ (fun Z10 H_10 hE9 hO9 x7 q => ?_)
              obtain ⟨xσ10, st10⟩ := call0 hE9 xσ4
              replace f := f.step st10
              replace b := b.step st10
              replace f2 := f2.step st10
              replace f3 := f3.step st10
              replace f4 := f4.step st10
              replace f5 := f5.step st10
              replace hs := hs.trans st10
              refine ⟨_, rfl, ?_⟩
              exact hk (Zt xσ10) _ (hs.ext hσ) (hs.old hσ) _ q
            · exact hk (Zt xσ4) _ (hs.ext hσ) (hs.old hσ) _ q
      · refine q (fun i => xσ4 i = 0 ∨ xσ4 i = 1 ∨ xσ4 i = 3) H_4 _ _ _ rfl (f2.read (fun i h => .inl h) (fun i h => .inr (.inl h))) _ _ _ rfl (f4.read (fun i h => .inl h) (fun i h => .inr (.inr (h)))) _ (fun Z11 H_11 hE10 hO10 x8 q => ?_)
        obtain ⟨xσ11, st11⟩ := call0 hE10 xσ4
        replace f := f.step st11
        replace b := b.step st11
        replace f2 := f2.step st11
        replace f3 := f3.step st11
        replace f4 := f4.step st11
        replace f5 := f5.step st11
        replace hs := hs.trans st11
        refine ⟨_, rfl, ?_⟩
        refine condI (fun q => ?_) (fun q => ?_) q
        · refine q (fun i => xσ11 i = 0 ∨ xσ11 i = 2 ∨ xσ11 i = 4) H_11 _ _ _ rfl (f3.read (fun i h => .inl h) (fun i h => .inr (.inl h))) _ _ _ rfl (f5.read (fun i h => .inl h) (fun i h => .inr (.inr (h)))) _ (fun Z12 H_12 hE11 hO11 x9 q => ?_)
          obtain ⟨xσ12, st12⟩ := call0 hE11 xσ11
          replace f := f.step st12
          replace b := b.step st12
          replace f2 := f2.step st12
          replace f3 := f3.step st12
          replace f4 := f4.step st12
          replace f5 := f5.step st12
          replace hs := hs.trans st12
          refine ⟨_, rfl, ?_⟩
          refine condI (fun q => ?_) (fun q => ?_) q
          · refine condI (fun q => ?_) (fun q => ?_) q
            · refine q (Zt xσ12) H_12  _ (fun Z13 H_13 hE12 hO12 x10 q => ?_)
              obtain ⟨xσ13, st13⟩ := call0 hE12 xσ12
              replace f := f.step st13
              replace b := b.step st13
              replace f2 := f2.step st13
              replace f3 := f3.step st13
              replace f4 := f4.step st13
              replace f5 := f5.step st13
              replace hs := hs.trans st13
              refine ⟨_, rfl, ?_⟩
              exact hk (Zt xσ13) _ (hs.ext hσ) (hs.old hσ) _ q
            · refine condI (fun q => ?_) (fun q => ?_) q
              · refine q (Zt xσ12) H_12  _ (fun Z14 H_14 hE13 hO13 x11 q => ?_)
                obtain ⟨xσ14, st14⟩ := call0 hE13 xσ12
                replace f := f.step st14
                replace b := b.step st14
                replace f2 := f2.step st14
                replace f3 := f3.step st14
                replace f4 := f4.step st14
                replace f5 := f5.step st14
                replace hs := hs.trans st14
                refine ⟨_, rfl, ?_⟩
                exact hk (Zt xσ14) _ (hs.ext hσ) (hs.old hσ) _ q
              · refine condI (fun q => ?_) (fun q => ?_) q
                · refine q (Zt xσ12) H_12  _ (fun Z15 H_15 hE14 hO14 x12 q => ?_)
                  obtain ⟨xσ15, st15⟩ := call0 hE14 xσ12
                  replace f := f.step st15
                  replace b := b.step st15
                  replace f2 := f2.step st15
                  replace f3 := f3.step st15
                  replace f4 := f4.step st15
                  replace f5 := f5.step st15
                  replace hs := hs.trans st15
                  refine ⟨_, rfl, ?_⟩
                  exact hk (Zt xσ15) _ (hs.ext hσ) (hs.old hσ) _ q
                · exact hk (Zt xσ12) _ (hs.ext hσ) (hs.old hσ) _ q
          · exact hk (Zt xσ12) _ (hs.ext hσ) (hs.old hσ) _ q
        · exact hk (Zt xσ11) _ (hs.ext hσ) (hs.old hσ) _ q
end Go.Proofs.Ytlhcaangdenoaaa.Sh
