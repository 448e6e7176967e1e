import Derived.Test.YtlhcaangdenoaaaSTypes
import Derived.Test.YtlhcaangdenoaaaSFnField
namespace Go.Lf
end Go.Lf
namespace Go.Sx
end Go.Sx
set_option linter.unusedVariables false
set_option linter.unusedSimpArgs false
set_option maxRecDepth 100000
namespace Go.Proofs.Ytlhcaangdenoaaa.Sh
open Go.Sx
def poly_Short.A : Ann where
  loops := fun i => match i with
    | 8195 => [(3, .int .i64)]
    | _ => []
  plans := fun i => match i with
    | _ => .stop
def poly_Short.W (fA : Option Addr) (fn fc : Nat) (H : Heap) (R : Value → Heap → Prop) : Prop :=
  LoopI (σ := Int) (fun κ => κ ((fn : Nat) : Int) H) fun s z H_ next =>
  cond (decide (s > 0)) (∃ a : Addr, fA = some a ∧ 0 ≤ (IntKind.i64.wrap (s - 1)) ∧ (IntKind.i64.wrap (s - 1)) < ((fn : Nat) : Int) ∧ ∃ x : Int, cellH H_ (a.add (Int.toNat (IntKind.i64.wrap (s - 1)))) = some (.int .u64 x) ∧ cond (x == 0) (next (IntKind.i64.wrap (s - 1)) H_)
   (0 ≤ s ∧ s ≤ ((fc : Nat) : Int) ∧ CallH P N.slices_Clone_uint64uint64 [.slice fA (Int.toNat s) fc] H_ fun v H_2 =>
  ∃ (rA : Option Addr) (rn rc : Nat), v = .slice rA rn rc ∧ R (.slice rA rn rc) H_2)) (0 ≤ s ∧ s ≤ ((fc : Nat) : Int) ∧ CallH P N.slices_Clone_uint64uint64 [.slice fA (Int.toNat s) fc] H_ fun v2 H_3 =>
  ∃ (rA2 : Option Addr) (rn2 rc2 : Nat), v2 = .slice rA2 rn2 rc2 ∧ R (.slice rA2 rn2 rc2) H_3)
theorem poly_Short.ok (fA : Option Addr) (fn fc : Nat) (H : Heap) (R : Value → Heap → Prop) (h : poly_Short.W fA fn fc H R) : CallH P N.poly_Short ([.slice fA fn fc] : List Value) H R := by
  have e : poly_Short.W fA fn fc H R = sxFn P T Sh.R nf poly_Short.A Try.f103.results.toList (bodyOf Try.f103) (([(.slice fA fn fc : Value)] : List Value) ++ List.replicate (22 - ([(.slice fA fn fc : Value)] : List Value).length) undef) H R := by kernel_rfl
  exact call_of_sx fits bodies mixed Try.func103 (c := bodyOf Try.f103) (by kernel_rfl) Try.ntmps103 poly_Short.A (by kernel_rfl) (e.mp h)
def poly_Over.A : Ann where
  loops := fun i => match i with
    | 28680 => [(11, .int .i64)]
    | 49167 => [(64, .int .i64)]
    | _ => []
  plans := fun i => match i with
    | 14 => .first 0 (.first 1 (.first 2 (.first 3 (.first 4 (.first 5 (.first 6 (.first 7 (.first 8 (.first 9 (.first 11 (.first 12 (.first 13 (.read 10 (.alt 14 [] (.alt 15 [10] (.first 16 (.alt 17 [] (.done) (.stop))) (.stop)) (.stop)))))))))))))))
    | _ => .stop
def poly_Over.W (p : Int) (fA : Option Addr) (fn fc : Nat) (gA : Option Addr) (gn gc : Nat) (H : Heap) (R : Value → Heap → Prop) : Prop :=
  CallH P N.poly_Short [.slice fA fn fc] H fun v H_ =>
  ∃ (rA : Option Addr) (rn rc : Nat), v = .slice rA rn rc ∧ CallH P N.poly_Short [.slice gA gn gc] H_ fun v2 H_2 =>
  ∃ (rA2 : Option Addr) (rn2 rc2 : Nat), v2 = .slice rA2 rn2 rc2 ∧ cond (decide (((rn : Nat) : Int) < ((rn2 : Nat) : Int))) (R (.tuple #[.slice none 0 0, .slice rA rn rc]) H_2)
   (0 ≤ (IntKind.i64.wrap ((IntKind.i64.wrap (((rn : Nat) : Int) - ((rn2 : Nat) : Int))) + 1)) ∧ (IntKind.i64.wrap ((IntKind.i64.wrap (((rn : Nat) : Int) - ((rn2 : Nat) : Int))) + 1)) ≤ (IntKind.i64.wrap ((IntKind.i64.wrap (((rn : Nat) : Int) - ((rn2 : Nat) : Int))) + 1)) ∧ (IntKind.i64.wrap ((IntKind.i64.wrap (((rn : Nat) : Int) - ((rn2 : Nat) : Int))) + 1)) * 8 ≤ 2 ^ 48 ∧ (IntKind.i64.wrap ((IntKind.i64.wrap (((rn : Nat) : Int) - ((rn2 : Nat) : Int))) + 1)) < 2 ^ 62 ∧ NewH (H_2.push (.cells (repl (Int.toNat (IntKind.i64.wrap ((IntKind.i64.wrap (((rn : Nat) : Int) - ((rn2 : Nat) : Int))) + 1))) [.int .u64 0]).toArray 22 (0, 0))) fun H_3 =>
  ∃ a : Addr, rA2 = some a ∧ 0 ≤ (IntKind.i64.wrap (((rn2 : Nat) : Int) - 1)) ∧ (IntKind.i64.wrap (((rn2 : Nat) : Int) - 1)) < ((rn2 : Nat) : Int) ∧ ∃ x : Int, cellH H_3 (a.add (Int.toNat (IntKind.i64.wrap (((rn2 : Nat) : Int) - 1)))) = some (.int .u64 x) ∧ CallH P N.field_Over [.int .u64 p, .int .u64 x] H_3 fun v3 H_4 =>
  ∃ r : Int, v3 = .int .u64 r ∧ LoopI (σ := Int) (fun κ => κ (IntKind.i64.wrap (((Int.toNat (IntKind.i64.wrap ((IntKind.i64.wrap (((rn : Nat) : Int) - ((rn2 : Nat) : Int))) + 1)) : Nat) : Int) - 1)) H_4) fun s z H_5 next =>
  cond (decide (s ≥ 0)) (∃ a2 : Addr, rA = some a2 ∧ 0 ≤ (IntKind.i64.wrap ((IntKind.i64.wrap (s + ((rn2 : Nat) : Int))) - 1)) ∧ (IntKind.i64.wrap ((IntKind.i64.wrap (s + ((rn2 : Nat) : Int))) - 1)) < ((rn : Nat) : Int) ∧ ∃ x2 : Int, cellH H_5 (a2.add (Int.toNat (IntKind.i64.wrap ((IntKind.i64.wrap (s + ((rn2 : Nat) : Int))) - 1)))) = some (.int .u64 x2) ∧ CallH P N.field_Times [.int .u64 p, .int .u64 x2, .int .u64 r] H_5 fun v4 H_6 =>
  ∃ r2 : Int, v4 = .int .u64 r2 ∧ ∃ a3 : Addr, (some (Addr.mk H_2.size 0 none) : Option Addr) = some a3 ∧ 0 ≤ s ∧ s < ((Int.toNat (IntKind.i64.wrap ((IntKind.i64.wrap (((rn : Nat) : Int) - ((rn2 : Nat) : Int))) + 1)) : Nat) : Int) ∧ MayWrite H_6 (a3.add (Int.toNat s)) 1 ∧ NewH (setH H_6 (a3.add (Int.toNat s)) (.int .u64 r2)) fun H_7 =>
  LoopI (σ := Int) (fun κ => κ 0 H_7) fun s2 z2 H_8 next2 =>
  cond (decide (s2 < ((rn2 : Nat) : Int))) (∃ a4 : Addr, rA2 = some a4 ∧ 0 ≤ s2 ∧ s2 < ((rn2 : Nat) : Int) ∧ ∃ x3 : Int, cellH H_8 (a4.add (Int.toNat s2)) = some (.int .u64 x3) ∧ ∃ a5 : Addr, rA = some a5 ∧ 0 ≤ (IntKind.i64.wrap (s + s2)) ∧ (IntKind.i64.wrap (s + s2)) < ((rn : Nat) : Int) ∧ ∃ x4 : Int, cellH H_8 (a5.add (Int.toNat (IntKind.i64.wrap (s + s2)))) = some (.int .u64 x4) ∧ CallH P N.field_Times [.int .u64 p, .int .u64 r2, .int .u64 x3] H_8 fun v5 H_9 =>
  ∃ r3 : Int, v5 = .int .u64 r3 ∧ cellH H_9 (a5.add (Int.toNat (IntKind.i64.wrap (s + s2)))) = some (.int .u64 x4) ∧ CallH P N.field_Minus [.int .u64 p, .int .u64 x4, .int .u64 r3] H_9 fun v6 H_10 =>
  ∃ r4 : Int, v6 = .int .u64 r4 ∧ ∃ a6 : Addr, rA = some a6 ∧ 0 ≤ (IntKind.i64.wrap (s + s2)) ∧ (IntKind.i64.wrap (s + s2)) < ((rn : Nat) : Int) ∧ MayWrite H_10 (a6.add (Int.toNat (IntKind.i64.wrap (s + s2)))) 1 ∧ NewH (setH H_10 (a6.add (Int.toNat (IntKind.i64.wrap (s + s2)))) (.int .u64 r4)) fun H_11 =>
  next2 (IntKind.i64.wrap (s2 + 1)) H_11)
   (next (IntKind.i64.wrap (s - 1)) H_8))
   (CallH P N.poly_Short [.slice (some (Addr.mk H_2.size 0 none)) (Int.toNat (IntKind.i64.wrap ((IntKind.i64.wrap (((rn : Nat) : Int) - ((rn2 : Nat) : Int))) + 1))) (Int.toNat (IntKind.i64.wrap ((IntKind.i64.wrap (((rn : Nat) : Int) - ((rn2 : Nat) : Int))) + 1)))] H_5 fun v7 H_12 =>
  ∃ (rA3 : Option Addr) (rn3 rc3 : Nat), v7 = .slice rA3 rn3 rc3 ∧ CallH P N.poly_Short [.slice rA rn rc] H_12 fun v8 H_13 =>
  ∃ (rA4 : Option Addr) (rn4 rc4 : Nat), v8 = .slice rA4 rn4 rc4 ∧ R (.tuple #[.slice rA3 rn3 rc3, .slice rA4 rn4 rc4]) H_13))
theorem poly_Over.ok (p : Int) (fA : Option Addr) (fn fc : Nat) (gA : Option Addr) (gn gc : Nat) (H : Heap) (R : Value → Heap → Prop) (h : poly_Over.W p fA fn fc gA gn gc H R) : CallH P N.poly_Over ([.int .u64 p, .slice fA fn fc, .slice gA gn gc] : List Value) H R := by
  have e : poly_Over.W p fA fn fc gA gn gc H R = sxFn P T Sh.R nf poly_Over.A Try.f118.results.toList (bodyOf Try.f118) (([(.int .u64 p : Value), (.slice fA fn fc : Value), (.slice gA gn gc : Value)] : List Value) ++ List.replicate (91 - ([(.int .u64 p : Value), (.slice fA fn fc : Value), (.slice gA gn gc : Value)] : List Value).length) undef) H R := by kernel_rfl
  exact call_of_sx fits bodies mixed Try.func118 (c := bodyOf Try.f118) (by kernel_rfl) Try.ntmps118 poly_Over.A (by kernel_rfl) (e.mp h)
end Go.Proofs.Ytlhcaangdenoaaa.Sh
namespace Go.Proofs.Ytlhcaangdenoaaa.Sh
open Go.Sx Go.Lf
def poly_Short.C (f : (List Nat)) (K : (List Nat) → Prop) : Prop :=
  ∀ (Z : Nat → Prop) (H : Heap), ∀ (fA : Option Addr) (fn fc : Nat), fn = f.length → SlF u64L Z H fA fc f → ∀ KK : Value → Heap → Prop,
    (∀ (Z' : Nat → Prop) (H' : Heap), Ext H H' → Old Z H Z' → ∀ (r0 : (List Nat)), ∀ (Y0 : Nat → Prop), (∀ i, Y0 i → H.size ≤ i ∧ ¬ Z' i) → ∀ (Ar0_0 : Option Addr) (nr0_0 cr0_0 : Nat), nr0_0 = r0.length → SlO (rdM u64L) 22 Z' Y0 H' Ar0_0 cr0_0 r0 → K r0 → KK (.slice Ar0_0 nr0_0 cr0_0) H') →
    CallH P N.poly_Short [.slice fA fn fc] H KK
def poly_Short.Q (f : (List Nat)) (K : (List Nat) → Prop) : Prop :=
  LoopQ (τ := Int) ((f.length : Nat) : Int) fun t nextQ =>
  cond (decide (t > 0)) (0 ≤ (IntKind.i64.wrap (t - 1)) ∧ ∃ x : Nat, f[Int.toNat (IntKind.i64.wrap (t - 1))]? = some x ∧ cond ((x : Int) == 0) (nextQ (IntKind.i64.wrap (t - 1)))
   (0 ≤ t ∧ t ≤ ((f.length : Nat) : Int) ∧ slices_Clone_uint64uint64.C (List.take (Int.toNat t) f) (fun (x2 : (List Nat)) =>
  K x2)))
   (0 ≤ t ∧ t ≤ ((f.length : Nat) : Int) ∧ slices_Clone_uint64uint64.C (List.take (Int.toNat t) f) (fun (x3 : (List Nat)) =>
  K x3))
theorem poly_Short.q {f : (List Nat)} {K : (List Nat) → Prop} (q : poly_Short.Q f K) : poly_Short.C f K := by
  intro Z H fA fn fc hn f2 KK hk
  cases hn
  apply poly_Short.ok
  unfold poly_Short.W
  unfold poly_Short.Q at q
  obtain ⟨σ, hz, hσ⟩ := tags Z
  have hs : Stp ([1, 2] : List Nat) σ H σ H := Stp.refl _ _ _
  replace f2 := f2.wide hz
  clear hz
  refine LoopI.ofQ q (fun t_ s_ hp_ => ∃ (σ_ : Nat → Nat), Stp [] σ H σ_ hp_ ∧ t_ = s_) (fun h k => h _ _ k) ⟨_, Stp.refl _ _ _, rfl⟩ ?_
  rintro t _ _ H_ next nextQ ⟨xσ, st, rfl⟩ q hnext
  try dsimp only at q ⊢
  replace f2 := f2.step st
  replace hs := hs.trans st
  have sl0 := st
  refine condI (fun q => ?_) (fun q => ?_) q
  · obtain ⟨h0, x, hx, q⟩ := q
    obtain ⟨a, ha, hi⟩ := f2.addr h0 hx rfl
    refine ⟨a, ha, hi.1, hi.2, ?_⟩
    have hc := f2.ldu ha h0 hx
    refine ⟨_, hc.val, ?_⟩
    refine condI (fun q => ?_) (fun q => ?_) q
    · exact hnext (IntKind.i64.wrap (t - 1)) _ _ ⟨_, sl0, rfl⟩ q
    · obtain ⟨q2, q3, q⟩ := q
      have f3 := f2.upto (u := Int.toNat t) (upto_le rfl q3)
      refine ⟨q2, cap_le rfl f2.cap q3, ?_⟩
      refine q (Zt xσ) H_ _ _ _ (take_len rfl q3) f3 _ (fun Z2 H_2 hE hO x2 Y hY A n c hn2 f4 q => ?_)
      obtain ⟨xσ2, st2, fz, fy⟩ := call1 hE hO xσ 1 (fun _ h => h) hY
      replace f4 := f4.keep fz fy
      cases hn2
      replace f2 := f2.step st2
      replace hc := hc.step st2
      replace f3 := f3.step st2
      replace hs := hs.trans st2
      refine ⟨_, _, _, rfl, ?_⟩
      exact hk (Zt xσ2) _ (hs.ext hσ) (hs.old hσ) _ (Yt xσ2 1) (hs.fresh hσ) _ _ _ rfl f4 q
  · obtain ⟨q4, q5, q⟩ := q
    have f5 := f2.upto (u := Int.toNat t) (upto_le rfl q5)
    refine ⟨q4, cap_le rfl f2.cap q5, ?_⟩
    refine q (Zt xσ) H_ _ _ _ (take_len rfl q5) f5 _ (fun Z3 H_3 hE2 hO2 x3 Y2 hY2 A2 n2 c2 hn3 f6 q => ?_)
    obtain ⟨xσ3, st3, fz2, fy2⟩ := call1 hE2 hO2 xσ 2 (fun _ h => h) hY2
    replace f6 := f6.keep fz2 fy2
    cases hn3
    replace f2 := f2.step st3
    replace f5 := f5.step st3
    replace hs := hs.trans st3
    refine ⟨_, _, _, rfl, ?_⟩
    exact hk (Zt xσ3) _ (hs.ext hσ) (hs.old hσ) _ (Yt xσ3 2) (hs.fresh hσ) _ _ _ rfl f6 q
def poly_Over.C (p : Nat) (f : (List Nat)) (g : (List Nat)) (K : (List Nat) → (List Nat) → Prop) : Prop :=
  ∀ (Z : Nat → Prop) (H : Heap), ∀ (pv : Int), pv = (p : Int) → ∀ (fA : Option Addr) (fn fc : Nat), fn = f.length → SlF u64L Z H fA fc f → ∀ (gA : Option Addr) (gn gc : Nat), gn = g.length → SlF u64L Z H gA gc g → ∀ KK : Value → Heap → Prop,
    (∀ (Z' : Nat → Prop) (H' : Heap), Ext H H' → Old Z H Z' → ∀ (r0 : (List Nat)), ∀ (Y0 : Nat → Prop), (∀ i, Y0 i → H.size ≤ i ∧ ¬ Z' i) → ∀ (Ar0_0 : Option Addr) (nr0_0 cr0_0 : Nat), nr0_0 = r0.length → SlO (rdM u64L) 22 Z' Y0 H' Ar0_0 cr0_0 r0 → ∀ (r1 : (List Nat)), ∀ (Y1 : Nat → Prop), (∀ i, Y1 i → H.size ≤ i ∧ ¬ Z' i) → ∀ (Ar1_0 : Option Addr) (nr1_0 cr1_0 : Nat), nr1_0 = r1.length → SlO (rdM u64L) 22 Z' Y1 H' Ar1_0 cr1_0 r1 → (∀ i, Y0 i → ¬ Y1 i) → K r0 r1 → KK (.tuple #[.slice Ar0_0 nr0_0 cr0_0, .slice Ar1_0 nr1_0 cr1_0]) H') →
    CallH P N.poly_Over [.int .u64 pv, .slice fA fn fc, .slice gA gn gc] H KK
def poly_Over.Q (p : Nat) (f : (List Nat)) (g : (List Nat)) (K : (List Nat) → (List Nat) → Prop) : Prop :=
  poly_Short.C f (fun (x : (List Nat)) =>
  poly_Short.C g (fun (x2 : (List Nat)) =>
  cond (decide (((x.length : Nat) : Int) < ((x2.length : Nat) : Int))) (K ([]) x)
   (MakeOk 8 (IntKind.i64.wrap ((IntKind.i64.wrap (((x.length : Nat) : Int) - ((x2.length : Nat) : Int))) + 1)) ∧ 0 ≤ (IntKind.i64.wrap (((x2.length : Nat) : Int) - 1)) ∧ (IntKind.i64.wrap (((x2.length : Nat) : Int) - 1)) < ((x2.length : Nat) : Int) ∧ ∃ x3 : Nat, x2[Int.toNat (IntKind.i64.wrap (((x2.length : Nat) : Int) - 1))]? = some x3 ∧ field_Over.C p x3 (fun (x4 : Nat) =>
  LoopQ (τ := Int × List Nat × List Nat) (IntKind.i64.wrap (((Int.toNat (IntKind.i64.wrap ((IntKind.i64.wrap (((x.length : Nat) : Int) - ((x2.length : Nat) : Int))) + 1)) : Nat) : Int) - 1), x, (List.replicate (Int.toNat (IntKind.i64.wrap ((IntKind.i64.wrap (((x.length : Nat) : Int) - ((x2.length : Nat) : Int))) + 1))) 0)) fun t nextQ =>
  cond (decide (t.1 ≥ 0)) (0 ≤ (IntKind.i64.wrap ((IntKind.i64.wrap (t.1 + ((x2.length : Nat) : Int))) - 1)) ∧ (IntKind.i64.wrap ((IntKind.i64.wrap (t.1 + ((x2.length : Nat) : Int))) - 1)) < ((x.length : Nat) : Int) ∧ ∃ x5 : Nat, t.2.1[Int.toNat (IntKind.i64.wrap ((IntKind.i64.wrap (t.1 + ((x2.length : Nat) : Int))) - 1))]? = some x5 ∧ field_Times.C p x5 x4 (fun (x6 : Nat) =>
  0 ≤ t.1 ∧ t.1 < ((Int.toNat (IntKind.i64.wrap ((IntKind.i64.wrap (((x.length : Nat) : Int) - ((x2.length : Nat) : Int))) + 1)) : Nat) : Int) ∧ LoopQ (τ := Int × List Nat) (0, t.2.1) fun t2 nextQ2 =>
  cond (decide (t2.1 < ((x2.length : Nat) : Int))) (0 ≤ t2.1 ∧ t2.1 < ((x2.length : Nat) : Int) ∧ ∃ x7 : Nat, x2[Int.toNat t2.1]? = some x7 ∧ 0 ≤ (IntKind.i64.wrap (t.1 + t2.1)) ∧ (IntKind.i64.wrap (t.1 + t2.1)) < ((x.length : Nat) : Int) ∧ ∃ x8 : Nat, t2.2[Int.toNat (IntKind.i64.wrap (t.1 + t2.1))]? = some x8 ∧ field_Times.C p x6 x7 (fun (x9 : Nat) =>
  field_Minus.C p x8 x9 (fun (x10 : Nat) =>
  0 ≤ (IntKind.i64.wrap (t.1 + t2.1)) ∧ (IntKind.i64.wrap (t.1 + t2.1)) < ((x.length : Nat) : Int) ∧ nextQ2 (IntKind.i64.wrap (t2.1 + 1), (List.set t2.2 (Int.toNat (IntKind.i64.wrap (t.1 + t2.1))) x10)))))
   (nextQ (IntKind.i64.wrap (t.1 - 1), t2.2, (List.set t.2.2 (Int.toNat t.1) x6)))))
   (poly_Short.C t.2.2 (fun (x11 : (List Nat)) =>
  poly_Short.C t.2.1 (fun (x12 : (List Nat)) =>
  K x11 x12)))))))
theorem poly_Over.q {p : Nat} {f : (List Nat)} {g : (List Nat)} {K : (List Nat) → (List Nat) → Prop} (q : poly_Over.Q p f g K) : poly_Over.C p f g K := by
  intro Z H pv he fA fn fc hn f2 gA gn gc hn2 f3 KK hk
  cases he
  cases hn
  cases hn2
  apply poly_Over.ok
  unfold poly_Over.W
  unfold poly_Over.Q at q
  obtain ⟨σ, hz, hσ⟩ := tags Z
  have hs : Stp ([1, 2, 3, 4, 5] : List Nat) σ H σ H := Stp.refl _ _ _
  replace f2 := f2.wide hz
  replace f3 := f3.wide hz
  clear hz
  refine q (Zt σ) H _ _ _ rfl f2 _ (fun Z2 H_ hE hO x Y hY A n c hn3 f4 q => ?_)
  obtain ⟨xσ, st, fz, fy⟩ := call1 hE hO σ 1 (fun _ h => h) hY
  replace f4 := f4.keep fz fy
  cases hn3
  replace f2 := f2.step st
  replace f3 := f3.step st
  replace hs := hs.trans st
  refine ⟨_, _, _, rfl, ?_⟩
  refine q (Zt xσ) H_ _ _ _ rfl f3 _ (fun Z3 H_2 hE2 hO2 x2 Y2 hY2 A2 n2 c2 hn4 f5 q => ?_)
  obtain ⟨xσ2, st2, fz2, fy2⟩ := call1 hE2 hO2 xσ 2 (fun _ h => h) hY2
  replace f5 := f5.keep fz2 fy2
  cases hn4
  replace f2 := f2.step st2
  replace f3 := f3.step st2
  replace f4 := f4.step st2
  replace hs := hs.trans st2
  refine ⟨_, _, _, rfl, ?_⟩
  refine condI (fun q => ?_) (fun q => ?_) q
  · exact hk (Zt xσ2) _ (hs.ext hσ) (hs.old hσ) _ (fun _ => False) (fun _ h => h.elim) _ _ _ rfl (SlO.nil _ _ _ _ _) _ (Yt xσ2 1) (hs.fresh hσ) _ _ _ rfl f4 (fun _ h => h.elim) q
  · obtain ⟨q2, q⟩ := q
    refine ⟨q2.1, Int.le_refl _, q2.w1, q2.w2, NewH.mk fun H_3 e => ?_⟩
    obtain ⟨xσ3, st3, f6⟩ := SlO.made (O := (rdM u64L)) xσ2 3 e (u64_zero) q2.len
    replace f2 := f2.step st3
    replace f3 := f3.step st3
    replace f4 := f4.step st3
    replace f5 := f5.step st3
    replace hs := hs.trans st3
    obtain ⟨h0, hi2, q⟩ := q
    obtain ⟨a, ha, hi⟩ := f5.addr h0 rfl hi2
    refine ⟨a, ha, hi.1, hi.2, ?_⟩
    obtain ⟨x3, hx, q⟩ := q
    have hc := f5.ldu ha h0 hx
    refine ⟨_, hc.val, ?_⟩
    refine q (Zt xσ3) H_3 _ rfl _ rfl _ (fun Z4 H_4 hE3 hO3 x4 v he2 q => ?_)
    obtain ⟨xσ4, st4⟩ := call0 hE3 xσ3
    cases he2
    replace f2 := f2.step st4
    replace f3 := f3.step st4
    replace f4 := f4.step st4
    replace f5 := f5.step st4
    replace f6 := f6.step st4
    replace hc := hc.step st4
    replace hs := hs.trans st4
    refine ⟨_, rfl, ?_⟩
    refine LoopI.ofQ q (fun t_ s_ hp_ => ∃ (σ_ : Nat → Nat), Stp [1, 3] xσ4 H_4 σ_ hp_ ∧ t_.1 = s_ ∧ t_.2.1.length = x.length ∧ SlO (rdM u64L) 22 (Zt σ_) (Yt σ_ 1) hp_ A c t_.2.1 ∧ t_.2.2.length = (List.replicate (Int.toNat (IntKind.i64.wrap ((IntKind.i64.wrap (((x.length : Nat) : Int) - ((x2.length : Nat) : Int))) + 1))) 0).length ∧ SlO (rdM u64L) 22 (Zt σ_) (Yt σ_ 3) hp_ (some (Addr.mk H_2.size 0 none)) (Int.toNat (IntKind.i64.wrap ((IntKind.i64.wrap (((x.length : Nat) : Int) - ((x2.length : Nat) : Int))) + 1))) t_.2.2) (fun h k => h _ _ k) ⟨_, Stp.refl _ _ _, rfl, rfl, f4, rfl, f6⟩ ?_
    rintro t _ _ H_5 next nextQ ⟨xσ5, st5, rfl, hl, f4, hl2, f6⟩ q hnext
    try dsimp only at q ⊢
    replace f2 := f2.step st5
    replace f3 := f3.step st5
    replace f5 := f5.step st5
    replace hs := hs.trans st5
    have sl3 := st5
    refine condI (fun q => ?_) (fun q => ?_) q
    · obtain ⟨h02, hi4, q⟩ := q
      obtain ⟨a2, ha2, hi3⟩ := f4.addr h02 ((rfl : _ = _).trans hl.symm) hi4
      refine ⟨a2, ha2, hi3.1, hi3.2, ?_⟩
      obtain ⟨x5, hx2, q⟩ := q
      have hc2 := f4.ldu ha2 h02 hx2
      refine ⟨_, hc2.val, ?_⟩
      refine q (Zt xσ5) H_5 _ rfl _ rfl _ rfl _ (fun Z5 H_6 hE4 hO4 x6 v2 he3 q => ?_)
      obtain ⟨xσ6, st6⟩ := call0 hE4 xσ5
      cases he3
      replace f2 := f2.step st6
      replace f3 := f3.step st6
      replace f4 := f4.step st6
      replace f5 := f5.step st6
      replace f6 := f6.step st6
      replace hc2 := hc2.step st6
      replace hs := hs.trans st6
      replace sl3 := sl3.trans st6
      refine ⟨_, rfl, ?_⟩
      obtain ⟨h03, hi6, q⟩ := q
      obtain ⟨a3, ha3, hi5⟩ := f6.addr h03 ((rl_len _ _).trans hl2.symm) hi6
      refine ⟨a3, ha3, hi5.1, hi5.2, ?_⟩
      have w := fun v hr => SlO.set1 (v := v) (y := x6) f6 rfl ha3 h03 (lt_of_n ((rl_len _ _).trans hl2.symm) hi6) hr
      refine ⟨(w _ rfl).1, NewH.mk fun H_7 e2 => ?_⟩
      obtain ⟨st7, f6⟩ := (w _ rfl).2 H_7 e2
      replace f2 := f2.step st7
      replace f3 := f3.step st7
      replace f4 := f4.step st7
      replace f5 := f5.step st7
      replace hc2 := hc2.step st7
      replace hs := hs.trans st7
      replace sl3 := sl3.trans st7
      refine LoopI.ofQ q (fun t_ s_ hp_ => ∃ (σ_ : Nat → Nat), Stp [1] xσ6 H_7 σ_ hp_ ∧ t_.1 = s_ ∧ t_.2.length = t.2.1.length ∧ SlO (rdM u64L) 22 (Zt σ_) (Yt σ_ 1) hp_ A c t_.2) (fun h k => h _ _ k) ⟨_, Stp.refl _ _ _, rfl, rfl, f4⟩ ?_
      rintro t2 _ _ H_8 next2 nextQ2 ⟨xσ7, st8, rfl, hl3, f4⟩ q hnext2
      try dsimp only at q ⊢
      replace f2 := f2.step st8
      replace f3 := f3.step st8
      replace f5 := f5.step st8
      replace f6 := f6.step st8
      replace hs := hs.trans st8
      replace sl3 := sl3.trans st8
      have sl5 := st8
      refine condI (fun q => ?_) (fun q => ?_) q
      · obtain ⟨h04, hi8, q⟩ := q
        obtain ⟨a4, ha4, hi7⟩ := f5.addr h04 rfl hi8
        refine ⟨a4, ha4, hi7.1, hi7.2, ?_⟩
        obtain ⟨x7, hx3, q⟩ := q
        have hc3 := f5.ldu ha4 h04 hx3
        refine ⟨_, hc3.val, ?_⟩
        obtain ⟨h05, hi10, q⟩ := q
        obtain ⟨a5, ha5, hi9⟩ := f4.addr h05 (((rfl : _ = _).trans hl.symm).trans hl3.symm) hi10
        refine ⟨a5, ha5, hi9.1, hi9.2, ?_⟩
        obtain ⟨x8, hx4, q⟩ := q
        have hc4 := f4.ldu ha5 h05 hx4
        refine ⟨_, hc4.val, ?_⟩
        refine q (Zt xσ7) H_8 _ rfl _ rfl _ rfl _ (fun Z6 H_9 hE5 hO5 x9 v3 he4 q => ?_)
        obtain ⟨xσ8, st9⟩ := call0 hE5 xσ7
        cases he4
        replace f2 := f2.step st9
        replace f3 := f3.step st9
        replace f4 := f4.step st9
        replace f5 := f5.step st9
        replace f6 := f6.step st9
        replace hc3 := hc3.step st9
        replace hc4 := hc4.step st9
        replace hs := hs.trans st9
        replace sl3 := sl3.trans st9
        replace sl5 := sl5.trans st9
        refine ⟨_, rfl, ?_⟩
        refine ⟨hc4.val, ?_⟩
        refine q (Zt xσ8) H_9 _ rfl _ rfl _ rfl _ (fun Z7 H_10 hE6 hO6 x10 v4 he5 q => ?_)
        obtain ⟨xσ9, st10⟩ := call0 hE6 xσ8
        cases he5
        replace f2 := f2.step st10
        replace f3 := f3.step st10
        replace f4 := f4.step st10
        replace f5 := f5.step st10
        replace f6 := f6.step st10
        replace hc3 := hc3.step st10
        replace hc4 := hc4.step st10
        replace hs := hs.trans st10
        replace sl3 := sl3.trans st10
        replace sl5 := sl5.trans st10
        refine ⟨_, rfl, ?_⟩
        obtain ⟨h06, hi12, q⟩ := q
        obtain ⟨a6, ha6, hi11⟩ := f4.addr h06 (((rfl : _ = _).trans hl.symm).trans hl3.symm) hi12
        refine ⟨a6, ha6, hi11.1, hi11.2, ?_⟩
        have w2 := fun v hr => SlO.set1 (v := v) (y := x10) f4 rfl ha6 h06 (lt_of_n (((rfl : _ = _).trans hl.symm).trans hl3.symm) hi12) hr
        refine ⟨(w2 _ rfl).1, NewH.mk fun H_11 e3 => ?_⟩
        obtain ⟨st11, f4⟩ := (w2 _ rfl).2 H_11 e3
        replace f2 := f2.step st11
        replace f3 := f3.step st11
        replace f5 := f5.step st11
        replace f6 := f6.step st11
        replace hc3 := hc3.step st11
        replace hs := hs.trans st11
        replace sl3 := sl3.trans st11
        replace sl5 := sl5.trans st11
        exact hnext2 (IntKind.i64.wrap (t2.1 + 1), (List.set t2.2 (Int.toNat (IntKind.i64.wrap (t.1 + t2.1))) x10)) _ _ ⟨_, sl5, rfl, (set_back (((rfl : _ = _).trans hl.symm).trans hl3.symm) (set_len (((rfl : _ = _).trans hl.symm).trans hl3.symm)) hl3), f4⟩ q
      · exact hnext (IntKind.i64.wrap (t.1 - 1), t2.2, (List.set t.2.2 (Int.toNat t.1) x6)) _ _ ⟨_, sl3, rfl, (set_back ((rfl : _ = _).trans hl.symm) (((rfl : _ = _).trans hl.symm).trans hl3.symm) hl), f4, (set_back ((rl_len _ _).trans hl2.symm) (set_len ((rl_len _ _).trans hl2.symm)) hl2), f6⟩ q
    · refine q (fun i => xσ5 i = 0 ∨ xσ5 i = 3) H_5 _ _ _ ((rl_len _ _).trans hl2.symm) (f6.read (fun i h => .inl h) (fun i h => .inr (h))) _ (fun Z8 H_12 hE7 hO7 x11 Y3 hY3 A3 n3 c3 hn5 f7 q => ?_)
      obtain ⟨xσ10, st12, fy3⟩ := callB1 hE7 hO7 xσ5 4 hY3
      replace f7 := (SlO.anyZ (Z' := Zt xσ10) u64_flatL f7).keep (Fr.refl _ _) fy3
      cases hn5
      replace f2 := f2.step st12
      replace f3 := f3.step st12
      replace f4 := f4.step st12
      replace f5 := f5.step st12
      replace f6 := f6.step st12
      replace hs := hs.trans st12
      refine ⟨_, _, _, rfl, ?_⟩
      refine q (fun i => xσ10 i = 0 ∨ xσ10 i = 1) H_12 _ _ _ ((rfl : _ = _).trans hl.symm) (f4.read (fun i h => .inl h) (fun i h => .inr (h))) _ (fun Z9 H_13 hE8 hO8 x12 Y4 hY4 A4 n4 c4 hn6 f8 q => ?_)
      obtain ⟨xσ11, st13, fy4⟩ := callB1 hE8 hO8 xσ10 5 hY4
      replace f8 := (SlO.anyZ (Z' := Zt xσ11) u64_flatL f8).keep (Fr.refl _ _) fy4
      cases hn6
      replace f2 := f2.step st13
      replace f3 := f3.step st13
      replace f4 := f4.step st13
      replace f5 := f5.step st13
      replace f6 := f6.step st13
      replace f7 := f7.step st13
      replace hs := hs.trans st13
      refine ⟨_, _, _, rfl, ?_⟩
      exact hk (Zt xσ11) _ (hs.ext hσ) (hs.old hσ) _ (Yt xσ11 4) (hs.fresh hσ) _ _ _ rfl f7 _ (Yt xσ11 5) (hs.fresh hσ) _ _ _ rfl f8 Yt.apart q
end Go.Proofs.Ytlhcaangdenoaaa.Sh
