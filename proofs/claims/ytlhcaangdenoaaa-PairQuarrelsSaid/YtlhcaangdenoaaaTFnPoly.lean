import Derived.Test.YtlhcaangdenoaaaTTypes
import Derived.Test.YtlhcaangdenoaaaTFnField
namespace Go.Lf
end Go.Lf
namespace Go.Sx
end Go.Sx
set_option linter.unusedVariables false
set_option linter.unusedSimpArgs false
set_option maxRecDepth 100000
namespace Go.Proofs.Ytlhcaangdenoaaa.Sh
open Go.Sx
def poly_Short.A : Ann where
  loops := fun i => match i with
    | 8195 => [(3, .int .i64)]
    | _ => []
  plans := fun i => match i with
    | _ => .stop
def poly_Short.W (fA : Option Addr) (fn fc : Nat) (H : Heap) (R : Value → Heap → Prop) : Prop :=
  LoopI (σ := Int) (fun κ => κ ((fn : Nat) : Int) H) fun s z H_ next =>
  cond (decide (s > 0)) (∃ a : Addr, fA = some a ∧ 0 ≤ (IntKind.i64.wrap (s - 1)) ∧ (IntKind.i64.wrap (s - 1)) < ((fn : Nat) : Int) ∧ ∃ x : Int, cellH H_ (a.add (Int.toNat (IntKind.i64.wrap (s - 1)))) = some (.int .u64 x) ∧ cond (x == 0) (next (IntKind.i64.wrap (s - 1)) H_)
   (0 ≤ s ∧ s ≤ ((fc : Nat) : Int) ∧ CallH P N.slices_Clone_uint64uint64 [.slice fA (Int.toNat s) fc] H_ fun v H_2 =>
  ∃ (rA : Option Addr) (rn rc : Nat), v = .slice rA rn rc ∧ R (.slice rA rn rc) H_2)) (0 ≤ s ∧ s ≤ ((fc : Nat) : Int) ∧ CallH P N.slices_Clone_uint64uint64 [.slice fA (Int.toNat s) fc] H_ fun v2 H_3 =>
  ∃ (rA2 : Option Addr) (rn2 rc2 : Nat), v2 = .slice rA2 rn2 rc2 ∧ R (.slice rA2 rn2 rc2) H_3)
theorem poly_Short.ok (fA : Option Addr) (fn fc : Nat) (H : Heap) (R : Value → Heap → Prop) (h : poly_Short.W fA fn fc H R) : CallH P N.poly_Short ([.slice fA fn fc] : List Value) H R := by
  have e : poly_Short.W fA fn fc H R = sxFn P T Sh.R nf poly_Short.A Try.f103.results.toList (bodyOf Try.f103) (([(.slice fA fn fc : Value)] : List Value) ++ List.replicate (22 - ([(.slice fA fn fc : Value)] : List Value).length) undef) H R := by kernel_rfl
  exact call_of_sx fits bodies mixed Try.func103 (c := bodyOf Try.f103) (by kernel_rfl) Try.ntmps103 poly_Short.A (by kernel_rfl) (e.mp h)
def poly_Is.A : Ann where
  loops := fun i => match i with
    | 16395 => [(13, .int .i64)]
    | _ => []
  plans := fun i => match i with
    | _ => .stop
def poly_Is.W (p : Int) (lA : Option Addr) (ln lc : Nat) (H : Heap) (R : Value → Heap → Prop) : Prop :=
  CallH P N.field_Is [.int .u64 p] H fun v H_ =>
  ∃ r : Bool, v = .bool r ∧ cond (!r) (R (.int .i64 2) H_)
   (LoopI (σ := Int) (fun κ => κ 0 H_) fun s z H_2 next =>
  cond (decide (s < ((ln : Nat) : Int))) (∃ a : Addr, lA = some a ∧ 0 ≤ s ∧ s < ((ln : Nat) : Int) ∧ ∃ (xA : Option Addr) (xn xc : Nat), cellH H_2 (a.add (Int.toNat s)) = some (.slice xA xn xc) ∧ cond (decide (((xn : Nat) : Int) > 201)) (R (.int .i64 3) H_2)
   (CallH P N.field_Below [.int .u64 p, .slice xA xn xc] H_2 fun v2 H_3 =>
  ∃ r2 : Int, v2 = .int .i64 r2 ∧ cond (r2 != 0) (R (.int .i64 r2) H_3)
   (next (IntKind.i64.wrap (s + 1)) H_3)))
   (R (.int .i64 0) H_2))
theorem poly_Is.ok (p : Int) (lA : Option Addr) (ln lc : Nat) (H : Heap) (R : Value → Heap → Prop) (h : poly_Is.W p lA ln lc H R) : CallH P N.poly_Is ([.int .u64 p, .slice lA ln lc] : List Value) H R := by
  have e : poly_Is.W p lA ln lc H R = sxFn P T Sh.R nf poly_Is.A Try.f125.results.toList (bodyOf Try.f125) (([(.int .u64 p : Value), (.slice lA ln lc : Value)] : List Value) ++ List.replicate (27 - ([(.int .u64 p : Value), (.slice lA ln lc : Value)] : List Value).length) undef) H R := by kernel_rfl
  exact call_of_sx fits bodies mixed Try.func125 (c := bodyOf Try.f125) (by kernel_rfl) Try.ntmps125 poly_Is.A (by kernel_rfl) (e.mp h)
end Go.Proofs.Ytlhcaangdenoaaa.Sh
namespace Go.Proofs.Ytlhcaangdenoaaa.Sh
open Go.Sx Go.Lf
def poly_Short.C (f : (List Nat)) (K : (List Nat) → Prop) : Prop :=
  ∀ (Z : Nat → Prop) (H : Heap), ∀ (fA : Option Addr) (fn fc : Nat), fn = f.length → SlF u64L Z H fA fc f → ∀ KK : Value → Heap → Prop,
    (∀ (Z' : Nat → Prop) (H' : Heap), Ext H H' → Old Z H Z' → ∀ (r0 : (List Nat)), ∀ (Y0 : Nat → Prop), (∀ i, Y0 i → H.size ≤ i ∧ ¬ Z' i) → ∀ (Ar0_0 : Option Addr) (nr0_0 cr0_0 : Nat), nr0_0 = r0.length → SlO (rdM u64L) 22 Z' Y0 H' Ar0_0 cr0_0 r0 → K r0 → KK (.slice Ar0_0 nr0_0 cr0_0) H') →
    CallH P N.poly_Short [.slice fA fn fc] H KK
def poly_Short.Q (f : (List Nat)) (K : (List Nat) → Prop) : Prop :=
  LoopQ (τ := Int) ((f.length : Nat) : Int) fun t nextQ =>
  cond (decide (t > 0)) (0 ≤ (IntKind.i64.wrap (t - 1)) ∧ ∃ x : Nat, f[Int.toNat (IntKind.i64.wrap (t - 1))]? = some x ∧ cond ((x : Int) == 0) (nextQ (IntKind.i64.wrap (t - 1)))
   (0 ≤ t ∧ t ≤ ((f.length : Nat) : Int) ∧ slices_Clone_uint64uint64.C (List.take (Int.toNat t) f) (fun (x2 : (List Nat)) =>
  K x2)))
   (0 ≤ t ∧ t ≤ ((f.length : Nat) : Int) ∧ slices_Clone_uint64uint64.C (List.take (Int.toNat t) f) (fun (x3 : (List Nat)) =>
  K x3))
theorem poly_Short.q {f : (List Nat)} {K : (List Nat) → Prop} (q : poly_Short.Q f K) : poly_Short.C f K := by
  intro Z H fA fn fc hn f2 KK hk
  cases hn
  apply poly_Short.ok
  unfold poly_Short.W
  unfold poly_Short.Q at q
  obtain ⟨σ, hz, hσ⟩ := tags Z
  have hs : Stp ([1, 2] : List Nat) σ H σ H := Stp.refl _ _ _
  replace f2 := f2.wide hz
  clear hz
  refine LoopI.ofQ q (fun t_ s_ hp_ => ∃ (σ_ : Nat → Nat), Stp [] σ H σ_ hp_ ∧ t_ = s_) (fun h k => h _ _ k) ⟨_, Stp.refl _ _ _, rfl⟩ ?_
  rintro t _ _ H_ next nextQ ⟨xσ, st, rfl⟩ q hnext
  try dsimp only at q ⊢
  replace f2 := f2.step st
  replace hs := hs.trans st
  have sl0 := st
  refine condI (fun q => ?_) (fun q => ?_) q
  · obtain ⟨h0, x, hx, q⟩ := q
    obtain ⟨a, ha, hi⟩ := f2.addr h0 hx rfl
    refine ⟨a, ha, hi.1, hi.2, ?_⟩
    have hc := f2.ldu ha h0 hx
    refine ⟨_, hc.val, ?_⟩
    refine condI (fun q => ?_) (fun q => ?_) q
    · exact hnext (IntKind.i64.wrap (t - 1)) _ _ ⟨_, sl0, rfl⟩ q
    · obtain ⟨q2, q3, q⟩ := q
      have f3 := f2.upto (u := Int.toNat t) (upto_le rfl q3)
      refine ⟨q2, cap_le rfl f2.cap q3, ?_⟩
      refine q (Zt xσ) H_ _ _ _ (take_len rfl q3) f3 _ (fun Z2 H_2 hE hO x2 Y hY A n c hn2 f4 q => ?_)
      obtain ⟨xσ2, st2, fz, fy⟩ := call1 hE hO xσ 1 (fun _ h => h) hY
      replace f4 := f4.keep fz fy
      cases hn2
      replace f2 := f2.step st2
      replace hc := hc.step st2
      replace f3 := f3.step st2
      replace hs := hs.trans st2
      refine ⟨_, _, _, rfl, ?_⟩
      exact hk (Zt xσ2) _ (hs.ext hσ) (hs.old hσ) _ (Yt xσ2 1) (hs.fresh hσ) _ _ _ rfl f4 q
  · obtain ⟨q4, q5, q⟩ := q
    have f5 := f2.upto (u := Int.toNat t) (upto_le rfl q5)
    refine ⟨q4, cap_le rfl f2.cap q5, ?_⟩
    refine q (Zt xσ) H_ _ _ _ (take_len rfl q5) f5 _ (fun Z3 H_3 hE2 hO2 x3 Y2 hY2 A2 n2 c2 hn3 f6 q => ?_)
    obtain ⟨xσ3, st3, fz2, fy2⟩ := call1 hE2 hO2 xσ 2 (fun _ h => h) hY2
    replace f6 := f6.keep fz2 fy2
    cases hn3
    replace f2 := f2.step st3
    replace f5 := f5.step st3
    replace hs := hs.trans st3
    refine ⟨_, _, _, rfl, ?_⟩
    exact hk (Zt xσ3) _ (hs.ext hσ) (hs.old hσ) _ (Yt xσ3 2) (hs.fresh hσ) _ _ _ rfl f6 q
def poly_Is.C (p : Nat) (l : (List (List Nat))) (K : Int → Prop) : Prop :=
  ∀ (Z : Nat → Prop) (H : Heap), ∀ (pv : Int), pv = (p : Int) → ∀ (lA : Option Addr) (ln lc : Nat), ln = l.length → SlF (slL u64L) Z H lA lc l → ∀ KK : Value → Heap → Prop,
    (∀ (Z' : Nat → Prop) (H' : Heap), Ext H H' → Old Z H Z' → ∀ (r0 : Int), K r0 → KK (.int .i64 r0) H') →
    CallH P N.poly_Is [.int .u64 pv, .slice lA ln lc] H KK
def poly_Is.Q (p : Nat) (l : (List (List Nat))) (K : Int → Prop) : Prop :=
  field_Is.C p (fun (x : Bool) =>
  cond (!x) (K 2)
   (LoopQ (τ := Int) 0 fun t nextQ =>
  cond (decide (t < ((l.length : Nat) : Int))) (0 ≤ t ∧ ∃ x2 : (List Nat), l[Int.toNat t]? = some x2 ∧ cond (decide (((x2.length : Nat) : Int) > 201)) (K 3)
   (field_Below.C p x2 (fun (x3 : Int) =>
  cond (x3 != 0) (K x3)
   (nextQ (IntKind.i64.wrap (t + 1))))))
   (K 0)))
theorem poly_Is.q {p : Nat} {l : (List (List Nat))} {K : Int → Prop} (q : poly_Is.Q p l K) : poly_Is.C p l K := by
  intro Z H pv he lA ln lc hn f KK hk
  cases he
  cases hn
  apply poly_Is.ok
  unfold poly_Is.W
  unfold poly_Is.Q at q
  obtain ⟨σ, hz, hσ⟩ := tags Z
  have hs : Stp ([] : List Nat) σ H σ H := Stp.refl _ _ _
  replace f := f.wide hz
  clear hz
  refine q (Zt σ) H _ rfl _ (fun Z2 H_ hE hO x q => ?_)
  obtain ⟨xσ, st⟩ := call0 hE σ
  replace f := f.step st
  replace hs := hs.trans st
  refine ⟨_, rfl, ?_⟩
  refine condI (fun q => ?_) (fun q => ?_) q
  · exact hk (Zt xσ) _ (hs.ext hσ) (hs.old hσ) _ q
  · refine LoopI.ofQ q (fun t_ s_ hp_ => ∃ (σ_ : Nat → Nat), Stp [] xσ H_ σ_ hp_ ∧ t_ = s_) (fun h k => h _ _ k) ⟨_, Stp.refl _ _ _, rfl⟩ ?_
    rintro t _ _ H_2 next nextQ ⟨xσ2, st2, rfl⟩ q hnext
    try dsimp only at q ⊢
    replace f := f.step st2
    replace hs := hs.trans st2
    have sl0 := st2
    refine condI (fun q => ?_) (fun q => ?_) q
    · obtain ⟨h0, x2, hx, q⟩ := q
      obtain ⟨a, ha, hi⟩ := f.addr h0 hx rfl
      refine ⟨a, ha, hi.1, hi.2, ?_⟩
      obtain ⟨A, c, hc, f2⟩ := f.lds ha h0 hx
      refine ⟨_, _, _, hc.val, ?_⟩
      refine condI (fun q => ?_) (fun q => ?_) q
      · exact hk (Zt xσ2) _ (hs.ext hσ) (hs.old hσ) _ q
      · refine q (Zt xσ2) H_2 _ rfl _ _ _ rfl f2 _ (fun Z3 H_3 hE2 hO2 x3 q => ?_)
        obtain ⟨xσ3, st3⟩ := call0 hE2 xσ2
        replace f := f.step st3
        replace hc := hc.step st3
        replace f2 := f2.step st3
        replace hs := hs.trans st3
        replace sl0 := sl0.trans st3
        refine ⟨_, rfl, ?_⟩
        refine condI (fun q => ?_) (fun q => ?_) q
        · exact hk (Zt xσ3) _ (hs.ext hσ) (hs.old hσ) _ q
        · exact hnext (IntKind.i64.wrap (t + 1)) _ _ ⟨_, sl0, rfl⟩ q
    · exact hk (Zt xσ2) _ (hs.ext hσ) (hs.old hσ) _ q
end Go.Proofs.Ytlhcaangdenoaaa.Sh
