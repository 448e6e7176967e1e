import Derived.Test.YtlhcaangdenoaaaSTypes
import Derived.Test.YtlhcaangdenoaaaSFnDecode
import Derived.Test.YtlhcaangdenoaaaSFnJuntolaw05
import Derived.Test.YtlhcaangdenoaaaSFnJuntoref05
namespace Go.Lf
end Go.Lf
namespace Go.Sx
end Go.Sx
set_option linter.unusedVariables false
set_option linter.unusedSimpArgs false
set_option maxRecDepth 100000
namespace Go.Proofs.Ytlhcaangdenoaaa.Sh
open Go.Sx
def juntolaw05_DecodeBest.A : Ann where
  loops := fun i => match i with
    | _ => []
  plans := fun i => match i with
    | 8 => .first 1 (.first 2 (.first 3 (.first 4 (.first 5 (.first 7 (.read 0 (.alt 6 [] (.alt 8 [0] (.first 9 (.done)) (.stop)) (.stop))))))))
    | _ => .stop
def juntolaw05_DecodeBest.W (p : Int) (d : Int) (lA : Option Addr) (ln lc : Nat) (H : Heap) (R : Value → Heap → Prop) : Prop :=
  CallH P N.decode_Best [.int .u64 p, .int .i64 d, .slice lA ln lc] H fun v H_ =>
  ∃ (r0A : Option Addr) (r0n r0c : Nat), ∃ (r1A : Option Addr) (r1n r1c : Nat), ∃ r2 : Int, v = .tuple #[.slice r0A r0n r0c, .slice r1A r1n r1c, .int .i64 r2] ∧ NewH (H_.push (.cells #[.slice none 0 0, .slice none 0 0, .int .i64 0] 86 (0, 0))) fun H_2 =>
  MayWrite H_2 (Addr.mk H_.size 0 none) 3 ∧ NewH (setH (setH (setH H_2 (Addr.mk H_.size 0 none) (.slice r0A r0n r0c)) (((Addr.mk H_.size 0 none)).add 1) (.slice r1A r1n r1c)) (((Addr.mk H_.size 0 none)).add 2) (.int .i64 r2)) fun H_3 =>
  CallH P N.juntoref05_Check [.int .u64 p, .int .i64 d, .slice lA ln lc] H_3 fun v2 H_4 =>
  ∃ r : Int, v2 = .int .i64 r ∧ cond (r == 0) (CallH P N.juntoref05_Most [.int .i64 ((ln : Nat) : Int), .int .i64 d] H_4 fun v3 H_5 =>
  ∃ r3 : Int, v3 = .int .i64 r3 ∧ cond (decide (r3 < 0)) (cond (11 != 0) (∃ (x0A : Option Addr) (x0n x0c : Nat), ∃ (x1A : Option Addr) (x1n x1c : Nat), ∃ x2 : Int, cellH H_5 (Addr.mk H_.size 0 none) = some (.slice x0A x0n x0c) ∧ cellH H_5 (((Addr.mk H_.size 0 none)).add 1) = some (.slice x1A x1n x1c) ∧ cellH H_5 (((Addr.mk H_.size 0 none)).add 2) = some (.int .i64 x2) ∧ CallH P N.juntolaw05_told_bad [.agg #[.slice x0A x0n x0c, .slice x1A x1n x1c, .int .i64 x2], .int .i64 11] H_5 fun v4 H_6 =>
  ∃ r4 : Bool, v4 = .bool r4 ∧ cond r4 (CallH P N.juntolaw05_alive [] H_6 fun v5 H_7 =>
  ∃ r5 : Bool, v5 = .bool r5 ∧ R (.bool r5) H_7) (R (.bool false) H_6))
   (∃ (x0A2 : Option Addr) (x0n2 x0c2 : Nat), ∃ (x1A2 : Option Addr) (x1n2 x1c2 : Nat), ∃ x22 : Int, cellH H_5 (Addr.mk H_.size 0 none) = some (.slice x0A2 x0n2 x0c2) ∧ cellH H_5 (((Addr.mk H_.size 0 none)).add 1) = some (.slice x1A2 x1n2 x1c2) ∧ cellH H_5 (((Addr.mk H_.size 0 none)).add 2) = some (.int .i64 x22) ∧ CallH P N.juntoref05_Most [.int .i64 ((ln : Nat) : Int), .int .i64 d] H_5 fun v6 H_8 =>
  ∃ r6 : Int, v6 = .int .i64 r6 ∧ cellH H_8 (Addr.mk H_.size 0 none) = some (.slice x0A2 x0n2 x0c2) ∧ cellH H_8 (((Addr.mk H_.size 0 none)).add 1) = some (.slice x1A2 x1n2 x1c2) ∧ cellH H_8 (((Addr.mk H_.size 0 none)).add 2) = some (.int .i64 x22) ∧ CallH P N.juntolaw05_told_is [.agg #[.slice x0A2 x0n2 x0c2, .slice x1A2 x1n2 x1c2, .int .i64 x22], .int .u64 p, .int .i64 d, .int .i64 r6, .slice lA ln lc] H_8 fun v7 H_9 =>
  ∃ r7 : Bool, v7 = .bool r7 ∧ R (.bool r7) H_9))
   (cond (r != 0) (∃ (x0A3 : Option Addr) (x0n3 x0c3 : Nat), ∃ (x1A3 : Option Addr) (x1n3 x1c3 : Nat), ∃ x23 : Int, cellH H_5 (Addr.mk H_.size 0 none) = some (.slice x0A3 x0n3 x0c3) ∧ cellH H_5 (((Addr.mk H_.size 0 none)).add 1) = some (.slice x1A3 x1n3 x1c3) ∧ cellH H_5 (((Addr.mk H_.size 0 none)).add 2) = some (.int .i64 x23) ∧ CallH P N.juntolaw05_told_bad [.agg #[.slice x0A3 x0n3 x0c3, .slice x1A3 x1n3 x1c3, .int .i64 x23], .int .i64 r] H_5 fun v8 H_10 =>
  ∃ r8 : Bool, v8 = .bool r8 ∧ cond r8 (CallH P N.juntolaw05_alive [] H_10 fun v9 H_11 =>
  ∃ r9 : Bool, v9 = .bool r9 ∧ R (.bool r9) H_11) (R (.bool false) H_10))
   (∃ (x0A4 : Option Addr) (x0n4 x0c4 : Nat), ∃ (x1A4 : Option Addr) (x1n4 x1c4 : Nat), ∃ x24 : Int, cellH H_5 (Addr.mk H_.size 0 none) = some (.slice x0A4 x0n4 x0c4) ∧ cellH H_5 (((Addr.mk H_.size 0 none)).add 1) = some (.slice x1A4 x1n4 x1c4) ∧ cellH H_5 (((Addr.mk H_.size 0 none)).add 2) = some (.int .i64 x24) ∧ CallH P N.juntoref05_Most [.int .i64 ((ln : Nat) : Int), .int .i64 d] H_5 fun v10 H_12 =>
  ∃ r10 : Int, v10 = .int .i64 r10 ∧ cellH H_12 (Addr.mk H_.size 0 none) = some (.slice x0A4 x0n4 x0c4) ∧ cellH H_12 (((Addr.mk H_.size 0 none)).add 1) = some (.slice x1A4 x1n4 x1c4) ∧ cellH H_12 (((Addr.mk H_.size 0 none)).add 2) = some (.int .i64 x24) ∧ CallH P N.juntolaw05_told_is [.agg #[.slice x0A4 x0n4 x0c4, .slice x1A4 x1n4 x1c4, .int .i64 x24], .int .u64 p, .int .i64 d, .int .i64 r10, .slice lA ln lc] H_12 fun v11 H_13 =>
  ∃ r11 : Bool, v11 = .bool r11 ∧ R (.bool r11) H_13))) (cond (r != 0) (∃ (x0A5 : Option Addr) (x0n5 x0c5 : Nat), ∃ (x1A5 : Option Addr) (x1n5 x1c5 : Nat), ∃ x25 : Int, cellH H_4 (Addr.mk H_.size 0 none) = some (.slice x0A5 x0n5 x0c5) ∧ cellH H_4 (((Addr.mk H_.size 0 none)).add 1) = some (.slice x1A5 x1n5 x1c5) ∧ cellH H_4 (((Addr.mk H_.size 0 none)).add 2) = some (.int .i64 x25) ∧ CallH P N.juntolaw05_told_bad [.agg #[.slice x0A5 x0n5 x0c5, .slice x1A5 x1n5 x1c5, .int .i64 x25], .int .i64 r] H_4 fun v12 H_14 =>
  ∃ r12 : Bool, v12 = .bool r12 ∧ cond r12 (CallH P N.juntolaw05_alive [] H_14 fun v13 H_15 =>
  ∃ r13 : Bool, v13 = .bool r13 ∧ R (.bool r13) H_15) (R (.bool false) H_14))
   (∃ (x0A6 : Option Addr) (x0n6 x0c6 : Nat), ∃ (x1A6 : Option Addr) (x1n6 x1c6 : Nat), ∃ x26 : Int, cellH H_4 (Addr.mk H_.size 0 none) = some (.slice x0A6 x0n6 x0c6) ∧ cellH H_4 (((Addr.mk H_.size 0 none)).add 1) = some (.slice x1A6 x1n6 x1c6) ∧ cellH H_4 (((Addr.mk H_.size 0 none)).add 2) = some (.int .i64 x26) ∧ CallH P N.juntoref05_Most [.int .i64 ((ln : Nat) : Int), .int .i64 d] H_4 fun v14 H_16 =>
  ∃ r14 : Int, v14 = .int .i64 r14 ∧ cellH H_16 (Addr.mk H_.size 0 none) = some (.slice x0A6 x0n6 x0c6) ∧ cellH H_16 (((Addr.mk H_.size 0 none)).add 1) = some (.slice x1A6 x1n6 x1c6) ∧ cellH H_16 (((Addr.mk H_.size 0 none)).add 2) = some (.int .i64 x26) ∧ CallH P N.juntolaw05_told_is [.agg #[.slice x0A6 x0n6 x0c6, .slice x1A6 x1n6 x1c6, .int .i64 x26], .int .u64 p, .int .i64 d, .int .i64 r14, .slice lA ln lc] H_16 fun v15 H_17 =>
  ∃ r15 : Bool, v15 = .bool r15 ∧ R (.bool r15) H_17))
theorem juntolaw05_DecodeBest.ok (p : Int) (d : Int) (lA : Option Addr) (ln lc : Nat) (H : Heap) (R : Value → Heap → Prop) (h : juntolaw05_DecodeBest.W p d lA ln lc H R) : CallH P N.juntolaw05_DecodeBest ([.int .u64 p, .int .i64 d, .slice lA ln lc] : List Value) H R := by
  have e : juntolaw05_DecodeBest.W p d lA ln lc H R = sxFn P T Sh.R nf juntolaw05_DecodeBest.A Try.f15.results.toList (bodyOf Try.f15) (([(.int .u64 p : Value), (.int .i64 d : Value), (.slice lA ln lc : Value)] : List Value) ++ List.replicate (54 - ([(.int .u64 p : Value), (.int .i64 d : Value), (.slice lA ln lc : Value)] : List Value).length) undef) H R := by kernel_rfl
  exact call_of_sx fits bodies mixed Try.func15 (c := bodyOf Try.f15) (by kernel_rfl) Try.ntmps15 juntolaw05_DecodeBest.A (by kernel_rfl) (e.mp h)
end Go.Proofs.Ytlhcaangdenoaaa.Sh
namespace Go.Proofs.Ytlhcaangdenoaaa.Sh
open Go.Sx Go.Lf
def juntolaw05_DecodeBest.C (p : Nat) (d : Int) (l : (List TPoint)) (K : Bool → Prop) : Prop :=
  ∀ (Z : Nat → Prop) (H : Heap), ∀ (pv : Int), pv = (p : Int) → ∀ (lA : Option Addr) (ln lc : Nat), ln = l.length → SlF TPoint.L Z H lA lc l → ∀ KK : Value → Heap → Prop,
    (∀ (Z' : Nat → Prop) (H' : Heap), Ext H H' → Old Z H Z' → ∀ (r0 : Bool), K r0 → KK (.bool r0) H') →
    CallH P N.juntolaw05_DecodeBest [.int .u64 pv, .int .i64 d, .slice lA ln lc] H KK
def juntolaw05_DecodeBest.Q (p : Nat) (d : Int) (l : (List TPoint)) (K : Bool → Prop) : Prop :=
  decode_Best.C p d l (fun (r : (List Nat)) (r2 : (List Int)) (r3 : Int) =>
  juntoref05_Check.C p d l (fun (x : Int) =>
  cond (x == 0) (juntoref05_Most.C ((l.length : Nat) : Int) d (fun (x2 : Int) =>
  cond (decide (x2 < 0)) (cond (11 != 0) (juntolaw05_told_bad.C (⟨r, r2, r3⟩ : TTold) 11 (fun (x3 : Bool) =>
  cond x3 (juntolaw05_alive.C (fun (x4 : Bool) =>
  K x4))
   (K false)))
   (juntoref05_Most.C ((l.length : Nat) : Int) d (fun (x5 : Int) =>
  juntolaw05_told_is.C (⟨r, r2, r3⟩ : TTold) p d x5 l (fun (x6 : Bool) =>
  K x6))))
   (cond (x != 0) (juntolaw05_told_bad.C (⟨r, r2, r3⟩ : TTold) x (fun (x7 : Bool) =>
  cond x7 (juntolaw05_alive.C (fun (x8 : Bool) =>
  K x8))
   (K false)))
   (juntoref05_Most.C ((l.length : Nat) : Int) d (fun (x9 : Int) =>
  juntolaw05_told_is.C (⟨r, r2, r3⟩ : TTold) p d x9 l (fun (x10 : Bool) =>
  K x10))))))
   (cond (x != 0) (juntolaw05_told_bad.C (⟨r, r2, r3⟩ : TTold) x (fun (x11 : Bool) =>
  cond x11 (juntolaw05_alive.C (fun (x12 : Bool) =>
  K x12))
   (K false)))
   (juntoref05_Most.C ((l.length : Nat) : Int) d (fun (x13 : Int) =>
  juntolaw05_told_is.C (⟨r, r2, r3⟩ : TTold) p d x13 l (fun (x14 : Bool) =>
  K x14))))))
theorem juntolaw05_DecodeBest.q {p : Nat} {d : Int} {l : (List TPoint)} {K : Bool → Prop} (q : juntolaw05_DecodeBest.Q p d l K) : juntolaw05_DecodeBest.C p d l K := by
  intro Z H pv he lA ln lc hn f KK hk
  cases he
  cases hn
  apply juntolaw05_DecodeBest.ok
  unfold juntolaw05_DecodeBest.W
  unfold juntolaw05_DecodeBest.Q at q
  obtain ⟨σ, hz, hσ⟩ := tags Z
  have hs : Stp ([1, 2, 3] : List Nat) σ H σ H := Stp.refl _ _ _
  replace f := f.wide hz
  clear hz
  refine q (Zt σ) H _ rfl _ _ _ rfl f _ (fun Z2 H_ hE hO r Y hY A n c hn2 f2 r2 Y2 hY2 A2 n2 c2 hn3 f3 r3 hY3 q => ?_)
  obtain ⟨xσ, st, fz, fy, fy2⟩ := call2 hE hO σ 1 2 (fun _ h => h) hY hY2 hY3
  replace f2 := f2.keep fz fy
  replace f3 := f3.keep fz fy2
  cases hn2
  cases hn3
  replace f := f.step st
  replace hs := hs.trans st
  refine ⟨_, _, _, _, _, _, _, rfl, ?_⟩
  refine NewH.mk fun H_2 e => ?_
  obtain ⟨xσ2, st2, b⟩ := BoxF.new xσ 3 e
  replace f := f.step st2
  replace f2 := f2.step st2
  replace f3 := f3.step st2
  replace hs := hs.trans st2
  obtain ⟨xσ3, st3, f2⟩ := SlO.freeze f2
  replace f := f.step st3
  replace f3 := f3.step st3
  replace b := b.step st3
  replace hs := hs.trans st3
  obtain ⟨xσ4, st4, f3⟩ := SlO.freeze f3
  replace f := f.step st4
  replace f2 := f2.step st4
  replace b := b.step st4
  replace hs := hs.trans st4
  refine ⟨b.mayN 0 3 (show (3 : Nat) ≤ 3 by decide), NewH.mk fun H_3 e2 => ?_⟩
  obtain ⟨st5, b⟩ := b.wroteN 0 (vs := [_, _, _]) (show (3 : Nat) ≤ 3 by decide) e2
  simp only [List.take_zero, List.take_succ_cons, List.drop_zero, List.drop_succ_cons, List.drop_nil, List.length_cons, List.length_nil, List.cons_append, List.nil_append, List.append_nil, Nat.zero_add, Nat.reduceAdd] at b
  replace f := f.step st5
  replace f2 := f2.step st5
  replace f3 := f3.step st5
  replace hs := hs.trans st5
  refine q (Zt xσ4) H_3 _ rfl _ _ _ rfl f _ (fun Z3 H_4 hE2 hO2 x q => ?_)
  obtain ⟨xσ5, st6⟩ := call0 hE2 xσ4
  replace f := f.step st6
  replace f2 := f2.step st6
  replace f3 := f3.step st6
  replace b := b.step st6
  replace hs := hs.trans st6
  refine ⟨_, rfl, ?_⟩
  refine condI (fun q => ?_) (fun q => ?_) q
  · refine q (Zt xσ5) H_4  _ (fun Z4 H_5 hE3 hO3 x2 q => ?_)
    obtain ⟨xσ6, st7⟩ := call0 hE3 xσ5
    replace f := f.step st7
    replace f2 := f2.step st7
    replace f3 := f3.step st7
    replace b := b.step st7
    replace hs := hs.trans st7
    refine ⟨_, rfl, ?_⟩
    refine condI (fun q => ?_) (fun q => ?_) q
    · refine condI (fun q => ?_) (fun q => ?_) q
      · refine ⟨_, _, _, _, _, _, _, b.cell0, b.cell 1 rfl, b.cell 2 rfl, ?_⟩
        refine q (Zt xσ6) H_5 _ _ _ rfl f2 _ _ _ rfl f3 _ (fun Z5 H_6 hE4 hO4 x3 q => ?_)
        obtain ⟨xσ7, st8⟩ := call0 hE4 xσ6
        replace f := f.step st8
        replace f2 := f2.step st8
        replace f3 := f3.step st8
        replace b := b.step st8
        replace hs := hs.trans st8
        refine ⟨_, rfl, ?_⟩
        refine condI (fun q => ?_) (fun q => ?_) q
        · refine q (Zt xσ7) H_6  _ (fun Z6 H_7 hE5 hO5 x4 q => ?_)
          obtain ⟨xσ8, st9⟩ := call0 hE5 xσ7
          replace f := f.step st9
          replace f2 := f2.step st9
          replace f3 := f3.step st9
          replace b := b.step st9
          replace hs := hs.trans st9
          refine ⟨_, rfl, ?_⟩
          exact hk (Zt xσ8) _ (hs.ext hσ) (hs.old hσ) _ q
        · exact hk (Zt xσ7) _ (hs.ext hσ) (hs.old hσ) _ q
      · refine ⟨_, _, _, _, _, _, _, b.cell0, b.cell 1 rfl, b.cell 2 rfl, ?_⟩
        refine q (Zt xσ6) H_5  _ (fun Z7 H_8 hE6 hO6 x5 q => ?_)
        obtain ⟨xσ9, st10⟩ := call0 hE6 xσ6
        replace f := f.step st10
        replace f2 := f2.step st10
        replace f3 := f3.step st10
        replace b := b.step st10
        replace hs := hs.trans st10
        refine ⟨_, rfl, ?_⟩
        refine ⟨b.cell0, (b.cell 1 rfl), (b.cell 2 rfl), ?_⟩
        refine q (Zt xσ9) H_8 _ _ _ rfl f2 _ _ _ rfl f3 _ rfl _ _ _ rfl f _ (fun Z8 H_9 hE7 hO7 x6 q => ?_)
        obtain ⟨xσ10, st11⟩ := call0 hE7 xσ9
        replace f := f.step st11
        replace f2 := f2.step st11
        replace f3 := f3.step st11
        replace b := b.step st11
        replace hs := hs.trans st11
        refine ⟨_, rfl, ?_⟩
        exact hk (Zt xσ10) _ (hs.ext hσ) (hs.old hσ) _ q
    · refine condI (fun q => ?_) (fun q => ?_) q
      · refine ⟨_, _, _, _, _, _, _, b.cell0, b.cell 1 rfl, b.cell 2 rfl, ?_⟩
        refine q (Zt xσ6) H_5 _ _ _ rfl f2 _ _ _ rfl f3 _ (fun Z9 H_10 hE8 hO8 x7 q => ?_)
        obtain ⟨xσ11, st12⟩ := call0 hE8 xσ6
        replace f := f.step st12
        replace f2 := f2.step st12
        replace f3 := f3.step st12
        replace b := b.step st12
        replace hs := hs.trans st12
        refine ⟨_, rfl, ?_⟩
        refine condI (fun q => ?_) (fun q => ?_) q
        · refine q (Zt xσ11) H_10  _ (fun Z10 H_11 hE9 hO9 x8 q => ?_)
          obtain ⟨xσ12, st13⟩ := call0 hE9 xσ11
          replace f := f.step st13
          replace f2 := f2.step st13
          replace f3 := f3.step st13
          replace b := b.step st13
          replace hs := hs.trans st13
          refine ⟨_, rfl, ?_⟩
          exact hk (Zt xσ12) _ (hs.ext hσ) (hs.old hσ) _ q
        · exact hk (Zt xσ11) _ (hs.ext hσ) (hs.old hσ) _ q
      · refine ⟨_, _, _, _, _, _, _, b.cell0, b.cell 1 rfl, b.cell 2 rfl, ?_⟩
        refine q (Zt xσ6) H_5  _ (fun Z11 H_12 hE10 hO10 x9 q => ?_)
        obtain ⟨xσ13, st14⟩ := call0 hE10 xσ6
        replace f := f.step st14
        replace f2 := f2.step st14
        replace f3 := f3.step st14
        replace b := b.step st14
        replace hs := hs.trans st14
        refine ⟨_, rfl, ?_⟩
        refine ⟨b.cell0, (b.cell 1 rfl), (b.cell 2 rfl), ?_⟩
        refine q (Zt xσ13) H_12 _ _ _ rfl f2 _ _ _ rfl f3 _ rfl _ _ _ rfl f _ (fun Z12 H_13 hE11 hO11 x10 q => ?_)
        obtain ⟨xσ14, st15⟩ := call0 hE11 xσ13
        replace f := f.step st15
        replace f2 := f2.step st15
        replace f3 := f3.step st15
        replace b := b.step st15
        replace hs := hs.trans st15
        refine ⟨_, rfl, ?_⟩
        exact hk (Zt xσ14) _ (hs.ext hσ) (hs.old hσ) _ q
  · refine condI (fun q => ?_) (fun q => ?_) q
    · refine ⟨_, _, _, _, _, _, _, b.cell0, b.cell 1 rfl, b.cell 2 rfl, ?_⟩
      refine q (Zt xσ5) H_4 _ _ _ rfl f2 _ _ _ rfl f3 _ (fun Z13 H_14 hE12 hO12 x11 q => ?_)
      obtain ⟨xσ15, st16⟩ := call0 hE12 xσ5
      replace f := f.step st16
      replace f2 := f2.step st16
      replace f3 := f3.step st16
      replace b := b.step st16
      replace hs := hs.trans st16
      refine ⟨_, rfl, ?_⟩
      refine condI (fun q => ?_) (fun q => ?_) q
      · refine q (Zt xσ15) H_14  _ (fun Z14 H_15 hE13 hO13 x12 q => ?_)
        obtain ⟨xσ16, st17⟩ := call0 hE13 xσ15
        replace f := f.step st17
        replace f2 := f2.step st17
        replace f3 := f3.step st17
        replace b := b.step st17
        replace hs := hs.trans st17
        refine ⟨_, rfl, ?_⟩
        exact hk (Zt xσ16) _ (hs.ext hσ) (hs.old hσ) _ q
      · exact hk (Zt xσ15) _ (hs.ext hσ) (hs.old hσ) _ q
    · refine ⟨_, _, _, _, _, _, _, b.cell0, b.cell 1 rfl, b.cell 2 rfl, ?_⟩
      refine q (Zt xσ5) H_4  _ (fun Z15 H_16 hE14 hO14 x13 q => ?_)
      obtain ⟨xσ17, st18⟩ := call0 hE14 xσ5
      replace f := f.step st18
      replace f2 := f2.step st18
      replace f3 := f3.step st18
      replace b := b.step st18
      replace hs := hs.trans st18
      refine ⟨_, rfl, ?_⟩
      refine ⟨b.cell0, (b.cell 1 rfl), (b.cell 2 rfl), ?_⟩
      refine q (Zt xσ17) H_16 _ _ _ rfl f2 _ _ _ rfl f3 _ rfl _ _ _ rfl f _ (fun Z16 H_17 hE15 hO15 x14 q => ?_)
      obtain ⟨xσ18, st19⟩ := call0 hE15 xσ17
      replace f := f.step st19
      replace f2 := f2.step st19
      replace f3 := f3.step st19
      replace b := b.step st19
      replace hs := hs.trans st19
      refine ⟨_, rfl, ?_⟩
      exact hk (Zt xσ18) _ (hs.ext hσ) (hs.old hσ) _ q
end Go.Proofs.Ytlhcaangdenoaaa.Sh
