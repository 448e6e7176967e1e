import Derived.Test.YtlhcaangdenoaaaUTypes
import Derived.Test.YtlhcaangdenoaaaUFnJuntoref01
import Derived.Test.YtlhcaangdenoaaaUFnJuntoref06
import Derived.Test.YtlhcaangdenoaaaUFnPair
namespace Go.Lf
end Go.Lf
namespace Go.Sx
end Go.Sx
set_option linter.unusedVariables false
set_option linter.unusedSimpArgs false
set_option maxRecDepth 100000
namespace Go.Proofs.Ytlhcaangdenoaaa.Sh
open Go.Sx
def juntolaw06_alive.A : Ann where
  loops := fun i => match i with
    | _ => []
  plans := fun i => match i with
    | _ => .stop
def juntolaw06_alive.W  (H : Heap) (R : Value → Heap → Prop) : Prop :=
  NewH (H.push (.cells #[.int .u64 2, .int .u64 5] 22 (0, 0))) fun H_ =>
  CallH P N.pair_Make [.int .u64 7, .int .u64 3, .int .i64 1, .slice (some (Addr.mk H.size 0 none)) 2 2] H_ fun v H_2 =>
  ∃ (r0A : Option Addr) (r0n r0c : Nat), ∃ (r1A : Option Addr) (r1n r1c : Nat), ∃ r2 : Int, v = .tuple #[.slice r0A r0n r0c, .slice r1A r1n r1c, .int .i64 r2] ∧ CallH P N.pair_Row [.int .u64 7, .int .i64 1, .slice r0A r0n r0c, .int .u64 1] H_2 fun v2 H_3 =>
  ∃ (r0A2 : Option Addr) (r0n2 r0c2 : Nat), ∃ r1 : Int, v2 = .tuple #[.slice r0A2 r0n2 r0c2, .int .i64 r1] ∧ CallH P N.pair_At [.int .u64 7, .int .i64 1, .slice r0A r0n r0c, .int .u64 1, .int .u64 2] H_3 fun v3 H_4 =>
  ∃ r0 : Int, ∃ r12 : Int, v3 = .tuple #[.int .u64 r0, .int .i64 r12] ∧ cond (r2 == 0) (NewH (H_4.push (.cells #[.int .u64 3, .int .u64 2] 22 (0, 0))) fun H_5 =>
  NewH (H_5.push (.cells #[.int .u64 2, .int .u64 5] 22 (0, 0))) fun H_6 =>
  NewH (H_6.push (.cells #[.slice (some (Addr.mk H_4.size 0 none)) 2 2, .slice (some (Addr.mk H_5.size 0 none)) 2 2] 30 (0, 0))) fun H_7 =>
  CallH P N.juntoref06_Same [.slice r0A r0n r0c, .slice (some (Addr.mk H_6.size 0 none)) 2 2] H_7 fun v4 H_8 =>
  ∃ r : Bool, v4 = .bool r ∧ cond r (cond (((r1n : Nat) : Int) == 0) (cond (r1 == 0) (NewH (H_8.push (.cells #[.int .u64 5] 22 (0, 0))) fun H_9 =>
  CallH P N.juntoref01_Same [.slice r0A2 r0n2 r0c2, .slice (some (Addr.mk H_8.size 0 none)) 1 1] H_9 fun v5 H_10 =>
  ∃ r3 : Bool, v5 = .bool r3 ∧ cond r3 (cond (r12 == 0) (cond (r0 == 5) (CallH P N.pair_Size [.int .i64 3] H_10 fun v6 H_11 =>
  ∃ r4 : Int, v6 = .int .i64 r4 ∧ R (.bool (r4 == 9)) H_11) (R (.bool false) H_10)) (R (.bool false) H_10)) (R (.bool false) H_10)) (R (.bool false) H_8)) (R (.bool false) H_8)) (R (.bool false) H_8)) (R (.bool false) H_4)
theorem juntolaw06_alive.ok  (H : Heap) (R : Value → Heap → Prop) (h : juntolaw06_alive.W  H R) : CallH P N.juntolaw06_alive ([] : List Value) H R := by
  have e : juntolaw06_alive.W  H R = sxFn P T Sh.R nf juntolaw06_alive.A Try.f28.results.toList (bodyOf Try.f28) (([] : List Value) ++ List.replicate (59 - ([] : List Value).length) undef) H R := by kernel_rfl
  exact call_of_sx fits bodies mixed Try.func28 (c := bodyOf Try.f28) (by kernel_rfl) Try.ntmps28 juntolaw06_alive.A (by kernel_rfl) (e.mp h)
end Go.Proofs.Ytlhcaangdenoaaa.Sh
namespace Go.Proofs.Ytlhcaangdenoaaa.Sh
open Go.Sx Go.Lf
def juntolaw06_alive.C  (K : Bool → Prop) : Prop :=
  ∀ (Z : Nat → Prop) (H : Heap), ∀ KK : Value → Heap → Prop,
    (∀ (Z' : Nat → Prop) (H' : Heap), Ext H H' → Old Z H Z' → ∀ (r0 : Bool), K r0 → KK (.bool r0) H') →
    CallH P N.juntolaw06_alive [] H KK
def juntolaw06_alive.Q  (K : Bool → Prop) : Prop :=
  pair_Make.C 7 3 1 ([2, 5]) (fun (r : (List (List Nat))) (r2 : (List Nat)) (r3 : Int) =>
  pair_Row.C 7 1 r 1 (fun (r4 : (List Nat)) (r5 : Int) =>
  pair_At.C 7 1 r 1 2 (fun (r6 : Nat) (r7 : Int) =>
  cond (r3 == 0) (juntoref06_Same.C r ([[3, 2], [2, 5]]) (fun (x : Bool) =>
  cond x (cond (((r2.length : Nat) : Int) == 0) (cond (r5 == 0) (juntoref01_Same.C r4 ([5]) (fun (x2 : Bool) =>
  cond x2 (cond (r7 == 0) (cond ((r6 : Int) == 5) (pair_Size.C 3 (fun (x3 : Int) =>
  K (x3 == 9)))
   (K false))
   (K false))
   (K false)))
   (K false))
   (K false))
   (K false)))
   (K false))))
theorem juntolaw06_alive.q  {K : Bool → Prop} (q : juntolaw06_alive.Q  K) : juntolaw06_alive.C  K := by
  intro Z H  KK hk
  apply juntolaw06_alive.ok
  unfold juntolaw06_alive.W
  unfold juntolaw06_alive.Q at q
  obtain ⟨σ, hz, hσ⟩ := tags Z
  have hs : Stp ([1, 2, 3, 4, 5, 6, 7, 8] : List Nat) σ H σ H := Stp.refl _ _ _
  clear hz
  refine NewH.mk fun H_ e => ?_
  obtain ⟨xσ, st, f⟩ := SlO.lit (E := u64L) σ 1 (xs := [2, 5]) (l := [[_], [_]]) e rfl (.cons rfl (.cons rfl .nil)) (show (2 : Nat) ≤ 17592186044416 by decide)
  replace hs := hs.trans st
  obtain ⟨xσ2, st2, f⟩ := SlO.freeze f
  replace hs := hs.trans st2
  refine q (Zt xσ2) H_ _ rfl _ rfl _ _ _ rfl f _ (fun Z2 H_2 hE hO r Y hY A n c hn f2 r2 Y2 hY2 A2 n2 c2 hn2 f3 r3 hY3 q => ?_)
  obtain ⟨xσ3, st3, fz, fy, fy2⟩ := call2 hE hO xσ2 2 3 (fun _ h => h) hY hY2 hY3
  replace f2 := f2.keep fz fy
  replace f3 := f3.keep fz fy2
  cases hn
  cases hn2
  replace f := f.step st3
  replace hs := hs.trans st3
  refine ⟨_, _, _, _, _, _, _, rfl, ?_⟩
  refine q (fun i => xσ3 i = 0 ∨ xσ3 i = 2) H_2 _ rfl _ _ _ rfl (f2.read (fun i h => .inl h) (fun i h => .inr (h))) _ rfl _ (fun Z3 H_3 hE2 hO2 r4 Y3 hY4 A3 n3 c3 hn3 f4 r5 q => ?_)
  obtain ⟨xσ4, st4, fy3⟩ := callB1 hE2 hO2 xσ3 4 hY4
  replace f4 := (SlO.anyZ (Z' := Zt xσ4) u64_flatL f4).keep (Fr.refl _ _) fy3
  cases hn3
  replace f := f.step st4
  replace f2 := f2.step st4
  replace f3 := f3.step st4
  replace hs := hs.trans st4
  refine ⟨_, _, _, _, rfl, ?_⟩
  refine q (fun i => xσ4 i = 0 ∨ xσ4 i = 2) H_3 _ rfl _ _ _ rfl (f2.read (fun i h => .inl h) (fun i h => .inr (h))) _ rfl _ rfl _ (fun Z4 H_4 hE3 hO3 r6 v he r7 q => ?_)
  obtain ⟨xσ5, st5⟩ := call0 hE3 xσ4
  cases he
  replace f := f.step st5
  replace f2 := f2.step st5
  replace f3 := f3.step st5
  replace f4 := f4.step st5
  replace hs := hs.trans st5
  refine ⟨_, _, rfl, ?_⟩
  refine condI (fun q => ?_) (fun q => ?_) q
  · refine NewH.mk fun H_5 e2 => ?_
    obtain ⟨xσ6, st6, f5⟩ := SlO.lit (E := u64L) xσ5 5 (xs := [3, 2]) (l := [[_], [_]]) e2 rfl (.cons rfl (.cons rfl .nil)) (show (2 : Nat) ≤ 17592186044416 by decide)
    replace f := f.step st6
    replace f2 := f2.step st6
    replace f3 := f3.step st6
    replace f4 := f4.step st6
    replace hs := hs.trans st6
    refine NewH.mk fun H_6 e3 => ?_
    obtain ⟨xσ7, st7, f6⟩ := SlO.lit (E := u64L) xσ6 6 (xs := [2, 5]) (l := [[_], [_]]) e3 rfl (.cons rfl (.cons rfl .nil)) (show (2 : Nat) ≤ 17592186044416 by decide)
    replace f := f.step st7
    replace f2 := f2.step st7
    replace f3 := f3.step st7
    replace f4 := f4.step st7
    replace f5 := f5.step st7
    replace hs := hs.trans st7
    obtain ⟨xσ8, st8, f5⟩ := SlO.freeze f5
    replace f := f.step st8
    replace f2 := f2.step st8
    replace f3 := f3.step st8
    replace f4 := f4.step st8
    replace f6 := f6.step st8
    replace hs := hs.trans st8
    obtain ⟨xσ9, st9, f6⟩ := SlO.freeze f6
    replace f := f.step st9
    replace f2 := f2.step st9
    replace f3 := f3.step st9
    replace f4 := f4.step st9
    replace f5 := f5.step st9
    replace hs := hs.trans st9
    refine NewH.mk fun H_7 e4 => ?_
    obtain ⟨xσ10, st10, f7⟩ := SlO.lit (E := (slL u64L)) xσ9 7 (xs := [[3, 2], [2, 5]]) (l := [[_], [_]]) e4 rfl (.cons (slL_rep rfl f5) (.cons (slL_rep rfl f6) .nil)) (show (2 : Nat) ≤ 17592186044416 by decide)
    replace f := f.step st10
    replace f2 := f2.step st10
    replace f3 := f3.step st10
    replace f4 := f4.step st10
    replace f5 := f5.step st10
    replace f6 := f6.step st10
    replace hs := hs.trans st10
    refine q (fun i => xσ10 i = 0 ∨ xσ10 i = 2 ∨ xσ10 i = 7) H_7 _ _ _ rfl (f2.read (fun i h => .inl h) (fun i h => .inr (.inl h))) _ _ _ rfl (f7.read (fun i h => .inl h) (fun i h => .inr (.inr (h)))) _ (fun Z5 H_8 hE4 hO4 x q => ?_)
    obtain ⟨xσ11, st11⟩ := call0 hE4 xσ10
    replace f := f.step st11
    replace f2 := f2.step st11
    replace f3 := f3.step st11
    replace f4 := f4.step st11
    replace f5 := f5.step st11
    replace f6 := f6.step st11
    replace f7 := f7.step st11
    replace hs := hs.trans st11
    refine ⟨_, rfl, ?_⟩
    refine condI (fun q => ?_) (fun q => ?_) q
    · refine condI (fun q => ?_) (fun q => ?_) q
      · refine condI (fun q => ?_) (fun q => ?_) q
        · refine NewH.mk fun H_9 e5 => ?_
          obtain ⟨xσ12, st12, f8⟩ := SlO.lit (E := u64L) xσ11 8 (xs := [5]) (l := [[_]]) e5 rfl (.cons rfl .nil) (show (1 : Nat) ≤ 17592186044416 by decide)
          replace f := f.step st12
          replace f2 := f2.step st12
          replace f3 := f3.step st12
          replace f4 := f4.step st12
          replace f5 := f5.step st12
          replace f6 := f6.step st12
          replace f7 := f7.step st12
          replace hs := hs.trans st12
          refine q (fun i => xσ12 i = 0 ∨ xσ12 i = 4 ∨ xσ12 i = 8) H_9 _ _ _ rfl (f4.read (fun i h => .inl h) (fun i h => .inr (.inl h))) _ _ _ rfl (f8.read (fun i h => .inl h) (fun i h => .inr (.inr (h)))) _ (fun Z6 H_10 hE5 hO5 x2 q => ?_)
          obtain ⟨xσ13, st13⟩ := call0 hE5 xσ12
          replace f := f.step st13
          replace f2 := f2.step st13
          replace f3 := f3.step st13
          replace f4 := f4.step st13
          replace f5 := f5.step st13
          replace f6 := f6.step st13
          replace f7 := f7.step st13
          replace f8 := f8.step st13
          replace hs := hs.trans st13
          refine ⟨_, rfl, ?_⟩
          refine condI (fun q => ?_) (fun q => ?_) q
          · refine condI (fun q => ?_) (fun q => ?_) q
            · refine condI (fun q => ?_) (fun q => ?_) q
              · refine q (Zt xσ13) H_10  _ (fun Z7 H_11 hE6 hO6 x3 q => ?_)
                obtain ⟨xσ14, st14⟩ := call0 hE6 xσ13
                replace f := f.step st14
                replace f2 := f2.step st14
                replace f3 := f3.step st14
                replace f4 := f4.step st14
                replace f5 := f5.step st14
                replace f6 := f6.step st14
                replace f7 := f7.step st14
                replace f8 := f8.step st14
                replace hs := hs.trans st14
                refine ⟨_, rfl, ?_⟩
                exact hk (Zt xσ14) _ (hs.ext hσ) (hs.old hσ) _ q
              · exact hk (Zt xσ13) _ (hs.ext hσ) (hs.old hσ) _ q
            · exact hk (Zt xσ13) _ (hs.ext hσ) (hs.old hσ) _ q
          · exact hk (Zt xσ13) _ (hs.ext hσ) (hs.old hσ) _ q
        · exact hk (Zt xσ11) _ (hs.ext hσ) (hs.old hσ) _ q
      · exact hk (Zt xσ11) _ (hs.ext hσ) (hs.old hσ) _ q
    · exact hk (Zt xσ11) _ (hs.ext hσ) (hs.old hσ) _ q
  · exact hk (Zt xσ5) _ (hs.ext hσ) (hs.old hσ) _ q
end Go.Proofs.Ytlhcaangdenoaaa.Sh
