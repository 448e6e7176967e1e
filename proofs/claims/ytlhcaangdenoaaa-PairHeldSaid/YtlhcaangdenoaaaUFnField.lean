import Derived.Test.YtlhcaangdenoaaaUTypes
namespace Go.Lf
end Go.Lf
namespace Go.Sx
end Go.Sx
set_option linter.unusedVariables false
set_option linter.unusedSimpArgs false
set_option maxRecDepth 100000
namespace Go.Proofs.Ytlhcaangdenoaaa.Sh
open Go.Sx
def field_Below.A : Ann where
  loops := fun i => match i with
    | 8198 => [(9, .int .i64)]
    | _ => []
  plans := fun i => match i with
    | _ => .stop
def field_Below.W (p : Int) (lA : Option Addr) (ln lc : Nat) (H : Heap) (R : Value → Heap → Prop) : Prop :=
  LoopI (σ := Int) (fun κ => κ 0 H) fun s z H_ next =>
  cond (decide (s < ((ln : Nat) : Int))) (∃ a : Addr, lA = some a ∧ 0 ≤ s ∧ s < ((ln : Nat) : Int) ∧ ∃ x : Int, cellH H_ (a.add (Int.toNat s)) = some (.int .u64 x) ∧ cond (decide (x ≥ p)) (R (.int .i64 2) H_)
   (next (IntKind.i64.wrap (s + 1)) H_))
   (R (.int .i64 0) H_)
theorem field_Below.ok (p : Int) (lA : Option Addr) (ln lc : Nat) (H : Heap) (R : Value → Heap → Prop) (h : field_Below.W p lA ln lc H R) : CallH P N.field_Below ([.int .u64 p, .slice lA ln lc] : List Value) H R := by
  have e : field_Below.W p lA ln lc H R = sxFn P T Sh.R nf field_Below.A Try.f79.results.toList (bodyOf Try.f79) (([(.int .u64 p : Value), (.slice lA ln lc : Value)] : List Value) ++ List.replicate (17 - ([(.int .u64 p : Value), (.slice lA ln lc : Value)] : List Value).length) undef) H R := by kernel_rfl
  exact call_of_sx fits bodies mixed Try.func79 (c := bodyOf Try.f79) (by kernel_rfl) Try.ntmps79 field_Below.A (by kernel_rfl) (e.mp h)
def field_Take.A : Ann where
  loops := fun i => match i with
    | 12295 => [(14, .int .i64)]
    | _ => []
  plans := fun i => match i with
    | _ => .stop
def field_Take.W (p : Int) (tapeA : Option Addr) (tapen tapec : Nat) (n : Int) (H : Heap) (R : Value → Heap → Prop) : Prop :=
  0 ≤ n ∧ n ≤ n ∧ n * 8 ≤ 2 ^ 48 ∧ n < 2 ^ 62 ∧ NewH (H.push (.cells (repl (Int.toNat n) [.int .u64 0]).toArray 22 (0, 0))) fun H_ =>
  LoopI (σ := Int) (fun κ => κ 0 H_) fun s z H_2 next =>
  cond (decide (s < ((Int.toNat n : Nat) : Int))) (cond (decide (s < ((tapen : Nat) : Int))) (∃ a : Addr, tapeA = some a ∧ 0 ≤ s ∧ s < ((tapen : Nat) : Int) ∧ ∃ x : Int, cellH H_2 (a.add (Int.toNat s)) = some (.int .u64 x) ∧ p ≠ 0 ∧ ∃ a2 : Addr, (some (Addr.mk H.size 0 none) : Option Addr) = some a2 ∧ 0 ≤ s ∧ s < ((Int.toNat n : Nat) : Int) ∧ MayWrite H_2 (a2.add (Int.toNat s)) 1 ∧ NewH (setH H_2 (a2.add (Int.toNat s)) (.int .u64 (Int.tmod x p))) fun H_3 =>
  next (IntKind.i64.wrap (s + 1)) H_3)
   (next (IntKind.i64.wrap (s + 1)) H_2))
   (NewH (H_2.push (.cells #[] 22 (0, 0))) fun H_4 =>
  0 ≤ (if ((tapen : Nat) : Int) < n then ((tapen : Nat) : Int) else n) ∧ (if ((tapen : Nat) : Int) < n then ((tapen : Nat) : Int) else n) ≤ ((tapen : Nat) : Int) ∧ AppendV 22 1 8 [.int .u64 0] H_4 (some (Addr.mk H_2.size 0 none)) 0 0 (SubA tapeA tapec (Int.toNat (if ((tapen : Nat) : Int) < n then ((tapen : Nat) : Int) else n)) 1) (tapen - (Int.toNat (if ((tapen : Nat) : Int) < n then ((tapen : Nat) : Int) else n))) fun vA vn vc H_5 =>
  R (.tuple #[.slice (some (Addr.mk H.size 0 none)) (Int.toNat n) (Int.toNat n), .slice vA vn vc]) H_5)
theorem field_Take.ok (p : Int) (tapeA : Option Addr) (tapen tapec : Nat) (n : Int) (H : Heap) (R : Value → Heap → Prop) (h : field_Take.W p tapeA tapen tapec n H R) : CallH P N.field_Take ([.int .u64 p, .slice tapeA tapen tapec, .int .i64 n] : List Value) H R := by
  have e : field_Take.W p tapeA tapen tapec n H R = sxFn P T Sh.R nf field_Take.A Try.f81.results.toList (bodyOf Try.f81) (([(.int .u64 p : Value), (.slice tapeA tapen tapec : Value), (.int .i64 n : Value)] : List Value) ++ List.replicate (40 - ([(.int .u64 p : Value), (.slice tapeA tapen tapec : Value), (.int .i64 n : Value)] : List Value).length) undef) H R := by kernel_rfl
  exact call_of_sx fits bodies mixed Try.func81 (c := bodyOf Try.f81) (by kernel_rfl) Try.ntmps81 field_Take.A (by kernel_rfl) (e.mp h)
def field_Is.A : Ann where
  loops := fun i => match i with
    | 16389 => [(3, .int .u64)]
    | _ => []
  plans := fun i => match i with
    | _ => .stop
def field_Is.W (p : Int) (H : Heap) (R : Value → Heap → Prop) : Prop :=
  cond (decide (p < 3)) (R (.bool false) H) (cond (decide (p > 65537)) (R (.bool false) H) ((2 : Int) ≠ 0 ∧ cond ((Int.tmod p 2) == 0) (R (.bool false) H)
   (LoopI (σ := Int) (fun κ => κ 3 H) fun s z H_ next =>
  cond (decide ((IntKind.u64.wrap (s * s)) ≤ p)) (s ≠ 0 ∧ cond ((Int.tmod p s) == 0) (R (.bool false) H_)
   (next (IntKind.u64.wrap (s + 2)) H_))
   (R (.bool true) H_))))
theorem field_Is.ok (p : Int) (H : Heap) (R : Value → Heap → Prop) (h : field_Is.W p H R) : CallH P N.field_Is ([.int .u64 p] : List Value) H R := by
  have e : field_Is.W p H R = sxFn P T Sh.R nf field_Is.A Try.f94.results.toList (bodyOf Try.f94) (([(.int .u64 p : Value)] : List Value) ++ List.replicate (26 - ([(.int .u64 p : Value)] : List Value).length) undef) H R := by kernel_rfl
  exact call_of_sx fits bodies mixed Try.func94 (c := bodyOf Try.f94) (by kernel_rfl) Try.ntmps94 field_Is.A (by kernel_rfl) (e.mp h)
def field_Plus.A : Ann where
  loops := fun i => match i with
    | _ => []
  plans := fun i => match i with
    | _ => .stop
def field_Plus.W (p : Int) (a : Int) (b : Int) (H : Heap) (R : Value → Heap → Prop) : Prop :=
  cond (decide ((IntKind.u64.wrap (a + b)) ≥ p)) (R (.int .u64 (IntKind.u64.wrap ((IntKind.u64.wrap (a + b)) - p))) H)
   (R (.int .u64 (IntKind.u64.wrap (a + b))) H)
theorem field_Plus.ok (p : Int) (a : Int) (b : Int) (H : Heap) (R : Value → Heap → Prop) (h : field_Plus.W p a b H R) : CallH P N.field_Plus ([.int .u64 p, .int .u64 a, .int .u64 b] : List Value) H R := by
  have e : field_Plus.W p a b H R = sxFn P T Sh.R nf field_Plus.A Try.f111.results.toList (bodyOf Try.f111) (([(.int .u64 p : Value), (.int .u64 a : Value), (.int .u64 b : Value)] : List Value) ++ List.replicate (17 - ([(.int .u64 p : Value), (.int .u64 a : Value), (.int .u64 b : Value)] : List Value).length) undef) H R := by kernel_rfl
  exact call_of_sx fits bodies mixed Try.func111 (c := bodyOf Try.f111) (by kernel_rfl) Try.ntmps111 field_Plus.A (by kernel_rfl) (e.mp h)
def field_Times.A : Ann where
  loops := fun i => match i with
    | _ => []
  plans := fun i => match i with
    | _ => .stop
def field_Times.W (p : Int) (a : Int) (b : Int) (H : Heap) (R : Value → Heap → Prop) : Prop :=
  CallH P N.field_mul [.int .u64 p, .int .u64 a, .int .u64 b] H fun v H_ =>
  ∃ r : Int, v = .int .u64 r ∧ R (.int .u64 r) H_
theorem field_Times.ok (p : Int) (a : Int) (b : Int) (H : Heap) (R : Value → Heap → Prop) (h : field_Times.W p a b H R) : CallH P N.field_Times ([.int .u64 p, .int .u64 a, .int .u64 b] : List Value) H R := by
  have e : field_Times.W p a b H R = sxFn P T Sh.R nf field_Times.A Try.f112.results.toList (bodyOf Try.f112) (([(.int .u64 p : Value), (.int .u64 a : Value), (.int .u64 b : Value)] : List Value) ++ List.replicate (11 - ([(.int .u64 p : Value), (.int .u64 a : Value), (.int .u64 b : Value)] : List Value).length) undef) H R := by kernel_rfl
  exact call_of_sx fits bodies mixed Try.func112 (c := bodyOf Try.f112) (by kernel_rfl) Try.ntmps112 field_Times.A (by kernel_rfl) (e.mp h)
def field_Minus.A : Ann where
  loops := fun i => match i with
    | _ => []
  plans := fun i => match i with
    | _ => .stop
def field_Minus.W (p : Int) (a : Int) (b : Int) (H : Heap) (R : Value → Heap → Prop) : Prop :=
  p ≠ 0 ∧ CallH P N.field_Plus [.int .u64 p, .int .u64 a, .int .u64 (Int.tmod (IntKind.u64.wrap (p - b)) p)] H fun v H_ =>
  ∃ r : Int, v = .int .u64 r ∧ R (.int .u64 r) H_
theorem field_Minus.ok (p : Int) (a : Int) (b : Int) (H : Heap) (R : Value → Heap → Prop) (h : field_Minus.W p a b H R) : CallH P N.field_Minus ([.int .u64 p, .int .u64 a, .int .u64 b] : List Value) H R := by
  have e : field_Minus.W p a b H R = sxFn P T Sh.R nf field_Minus.A Try.f115.results.toList (bodyOf Try.f115) (([(.int .u64 p : Value), (.int .u64 a : Value), (.int .u64 b : Value)] : List Value) ++ List.replicate (15 - ([(.int .u64 p : Value), (.int .u64 a : Value), (.int .u64 b : Value)] : List Value).length) undef) H R := by kernel_rfl
  exact call_of_sx fits bodies mixed Try.func115 (c := bodyOf Try.f115) (by kernel_rfl) Try.ntmps115 field_Minus.A (by kernel_rfl) (e.mp h)
def field_mul.A : Ann where
  loops := fun i => match i with
    | _ => []
  plans := fun i => match i with
    | _ => .stop
def field_mul.W (p : Int) (a : Int) (b : Int) (H : Heap) (R : Value → Heap → Prop) : Prop :=
  p ≠ 0 ∧ R (.int .u64 (Int.tmod (IntKind.u64.wrap (a * b)) p)) H
theorem field_mul.ok (p : Int) (a : Int) (b : Int) (H : Heap) (R : Value → Heap → Prop) (h : field_mul.W p a b H R) : CallH P N.field_mul ([.int .u64 p, .int .u64 a, .int .u64 b] : List Value) H R := by
  have e : field_mul.W p a b H R = sxFn P T Sh.R nf field_mul.A Try.f134.results.toList (bodyOf Try.f134) (([(.int .u64 p : Value), (.int .u64 a : Value), (.int .u64 b : Value)] : List Value) ++ List.replicate (12 - ([(.int .u64 p : Value), (.int .u64 a : Value), (.int .u64 b : Value)] : List Value).length) undef) H R := by kernel_rfl
  exact call_of_sx fits bodies mixed Try.func134 (c := bodyOf Try.f134) (by kernel_rfl) Try.ntmps134 field_mul.A (by kernel_rfl) (e.mp h)
def field_Over.A : Ann where
  loops := fun i => match i with
    | _ => []
  plans := fun i => match i with
    | _ => .stop
def field_Over.W (p : Int) (a : Int) (H : Heap) (R : Value → Heap → Prop) : Prop :=
  CallH P N.field_pow [.int .u64 p, .int .u64 a, .int .u64 (IntKind.u64.wrap (p - 2))] H fun v H_ =>
  ∃ r : Int, v = .int .u64 r ∧ R (.int .u64 r) H_
theorem field_Over.ok (p : Int) (a : Int) (H : Heap) (R : Value → Heap → Prop) (h : field_Over.W p a H R) : CallH P N.field_Over ([.int .u64 p, .int .u64 a] : List Value) H R := by
  have e : field_Over.W p a H R = sxFn P T Sh.R nf field_Over.A Try.f137.results.toList (bodyOf Try.f137) (([(.int .u64 p : Value), (.int .u64 a : Value)] : List Value) ++ List.replicate (10 - ([(.int .u64 p : Value), (.int .u64 a : Value)] : List Value).length) undef) H R := by kernel_rfl
  exact call_of_sx fits bodies mixed Try.func137 (c := bodyOf Try.f137) (by kernel_rfl) Try.ntmps137 field_Over.A (by kernel_rfl) (e.mp h)
def field_pow.A : Ann where
  loops := fun i => match i with
    | 8195 => [(1, .int .u64), (2, .int .u64), (7, .int .u64)]
    | _ => []
  plans := fun i => match i with
    | _ => .stop
def field_pow.W (p : Int) (a : Int) (e : Int) (H : Heap) (R : Value → Heap → Prop) : Prop :=
  p ≠ 0 ∧ LoopI (σ := Int × Int × Int) (fun κ => κ (a, e, Int.tmod 1 p) H) fun s z H_ next =>
  cond (decide (s.2.1 > 0)) (cond ((bitsOf .and .u64 s.2.1 1) == 1) (CallH P N.field_mul [.int .u64 p, .int .u64 s.2.2, .int .u64 s.1] H_ fun v H_2 =>
  ∃ r : Int, v = .int .u64 r ∧ CallH P N.field_mul [.int .u64 p, .int .u64 s.1, .int .u64 s.1] H_2 fun v2 H_3 =>
  ∃ r2 : Int, v2 = .int .u64 r2 ∧ 0 ≤ (1 : Int) ∧ next (r2, Int.fdiv s.2.1 (2 ^ (min (Int.toNat 1) 64)), r) H_3)
   (CallH P N.field_mul [.int .u64 p, .int .u64 s.1, .int .u64 s.1] H_ fun v3 H_4 =>
  ∃ r3 : Int, v3 = .int .u64 r3 ∧ 0 ≤ (1 : Int) ∧ next (r3, Int.fdiv s.2.1 (2 ^ (min (Int.toNat 1) 64)), s.2.2) H_4))
   (R (.int .u64 s.2.2) H_)
theorem field_pow.ok (p : Int) (a : Int) (e : Int) (H : Heap) (R : Value → Heap → Prop) (h : field_pow.W p a e H R) : CallH P N.field_pow ([.int .u64 p, .int .u64 a, .int .u64 e] : List Value) H R := by
  have e : field_pow.W p a e H R = sxFn P T Sh.R nf field_pow.A Try.f157.results.toList (bodyOf Try.f157) (([(.int .u64 p : Value), (.int .u64 a : Value), (.int .u64 e : Value)] : List Value) ++ List.replicate (26 - ([(.int .u64 p : Value), (.int .u64 a : Value), (.int .u64 e : Value)] : List Value).length) undef) H R := by kernel_rfl
  exact call_of_sx fits bodies mixed Try.func157 (c := bodyOf Try.f157) (by kernel_rfl) Try.ntmps157 field_pow.A (by kernel_rfl) (e.mp h)
end Go.Proofs.Ytlhcaangdenoaaa.Sh
namespace Go.Proofs.Ytlhcaangdenoaaa.Sh
open Go.Sx Go.Lf
def field_Is.C (p : Nat) (K : Bool → Prop) : Prop :=
  ∀ (Z : Nat → Prop) (H : Heap), ∀ (pv : Int), pv = (p : Int) → ∀ KK : Value → Heap → Prop,
    (∀ (Z' : Nat → Prop) (H' : Heap), Ext H H' → Old Z H Z' → ∀ (r0 : Bool), K r0 → KK (.bool r0) H') →
    CallH P N.field_Is [.int .u64 pv] H KK
def field_Is.Q (p : Nat) (K : Bool → Prop) : Prop :=
  cond (decide ((p : Int) < 3)) (K false)
   (cond (decide ((p : Int) > 65537)) (K false)
   ((2 : Int) ≠ 0 ∧ cond ((Int.tmod (p : Int) 2) == 0) (K false)
   (LoopQ (τ := Nat) 3 fun t nextQ =>
  cond (decide ((IntKind.u64.wrap ((t : Int) * (t : Int))) ≤ (p : Int))) ((t : Int) ≠ 0 ∧ cond ((Int.tmod (p : Int) (t : Int)) == 0) (K false)
   (nextQ ((IntKind.u64.wrap ((t : Int) + 2)).toNat)))
   (K true))))
theorem field_Is.q {p : Nat} {K : Bool → Prop} (q : field_Is.Q p K) : field_Is.C p K := by
  intro Z H pv he KK hk
  cases he
  apply field_Is.ok
  unfold field_Is.W
  unfold field_Is.Q at q
  obtain ⟨σ, hz, hσ⟩ := tags Z
  have hs : Stp ([] : List Nat) σ H σ H := Stp.refl _ _ _
  clear hz
  refine condI (fun q => ?_) (fun q => ?_) q
  · exact hk (Zt σ) _ (hs.ext hσ) (hs.old hσ) _ q
  · refine condI (fun q => ?_) (fun q => ?_) q
    · exact hk (Zt σ) _ (hs.ext hσ) (hs.old hσ) _ q
    · obtain ⟨q3, q⟩ := q
      refine ⟨q3, ?_⟩
      refine condI (fun q => ?_) (fun q => ?_) q
      · exact hk (Zt σ) _ (hs.ext hσ) (hs.old hσ) _ q
      · refine LoopI.ofQ q (fun t_ s_ hp_ => ∃ (σ_ : Nat → Nat) (x0_ : Int), Stp [] σ H σ_ hp_ ∧ x0_ = s_ ∧ x0_ = ((t_ : Nat) : Int)) (fun h k => h _ _ k) ⟨_, _, Stp.refl _ _ _, rfl, rfl⟩ ?_
        rintro t _ _ H_ next nextQ ⟨xσ, x, st, rfl, rfl⟩ q hnext
        try dsimp only at q ⊢
        replace hs := hs.trans st
        have sl0 := st
        refine condI (fun q => ?_) (fun q => ?_) q
        · obtain ⟨q2, q⟩ := q
          refine ⟨q2, ?_⟩
          refine condI (fun q => ?_) (fun q => ?_) q
          · exact hk (Zt xσ) _ (hs.ext hσ) (hs.old hσ) _ q
          · exact hnext ((IntKind.u64.wrap ((t : Int) + 2)).toNat) _ _ ⟨_, _, sl0, rfl, (natEq (nnw _))⟩ q
        · exact hk (Zt xσ) _ (hs.ext hσ) (hs.old hσ) _ q
def field_Below.C (p : Nat) (l : (List Nat)) (K : Int → Prop) : Prop :=
  ∀ (Z : Nat → Prop) (H : Heap), ∀ (pv : Int), pv = (p : Int) → ∀ (lA : Option Addr) (ln lc : Nat), ln = l.length → SlF u64L Z H lA lc l → ∀ KK : Value → Heap → Prop,
    (∀ (Z' : Nat → Prop) (H' : Heap), Ext H H' → Old Z H Z' → ∀ (r0 : Int), K r0 → KK (.int .i64 r0) H') →
    CallH P N.field_Below [.int .u64 pv, .slice lA ln lc] H KK
def field_Below.Q (p : Nat) (l : (List Nat)) (K : Int → Prop) : Prop :=
  LoopQ (τ := Int) 0 fun t nextQ =>
  cond (decide (t < ((l.length : Nat) : Int))) (0 ≤ t ∧ ∃ x : Nat, l[Int.toNat t]? = some x ∧ cond (decide ((x : Int) ≥ (p : Int))) (K 2)
   (nextQ (IntKind.i64.wrap (t + 1))))
   (K 0)
theorem field_Below.q {p : Nat} {l : (List Nat)} {K : Int → Prop} (q : field_Below.Q p l K) : field_Below.C p l K := by
  intro Z H pv he lA ln lc hn f KK hk
  cases he
  cases hn
  apply field_Below.ok
  unfold field_Below.W
  unfold field_Below.Q at q
  obtain ⟨σ, hz, hσ⟩ := tags Z
  have hs : Stp ([] : List Nat) σ H σ H := Stp.refl _ _ _
  replace f := f.wide hz
  clear hz
  refine LoopI.ofQ q (fun t_ s_ hp_ => ∃ (σ_ : Nat → Nat), Stp [] σ H σ_ hp_ ∧ t_ = s_) (fun h k => h _ _ k) ⟨_, Stp.refl _ _ _, rfl⟩ ?_
  rintro t _ _ H_ next nextQ ⟨xσ, st, rfl⟩ q hnext
  try dsimp only at q ⊢
  replace f := f.step st
  replace hs := hs.trans st
  have sl0 := st
  refine condI (fun q => ?_) (fun q => ?_) q
  · obtain ⟨h0, x, hx, q⟩ := q
    obtain ⟨a, ha, hi⟩ := f.addr h0 hx rfl
    refine ⟨a, ha, hi.1, hi.2, ?_⟩
    have hc := f.ldu ha h0 hx
    refine ⟨_, hc.val, ?_⟩
    refine condI (fun q => ?_) (fun q => ?_) q
    · exact hk (Zt xσ) _ (hs.ext hσ) (hs.old hσ) _ q
    · exact hnext (IntKind.i64.wrap (t + 1)) _ _ ⟨_, sl0, rfl⟩ q
  · exact hk (Zt xσ) _ (hs.ext hσ) (hs.old hσ) _ q
def field_Take.C (p : Nat) (tape : (List Nat)) (n : Int) (K : (List Nat) → (List Nat) → Prop) : Prop :=
  ∀ (Z : Nat → Prop) (H : Heap), ∀ (pv : Int), pv = (p : Int) → ∀ (tapeA : Option Addr) (tapen tapec : Nat), tapen = tape.length → SlF u64L Z H tapeA tapec tape → ∀ KK : Value → Heap → Prop,
    (∀ (Z' : Nat → Prop) (H' : Heap), Ext H H' → Old Z H Z' → ∀ (r0 : (List Nat)), ∀ (Y0 : Nat → Prop), (∀ i, Y0 i → H.size ≤ i ∧ ¬ Z' i) → ∀ (Ar0_0 : Option Addr) (nr0_0 cr0_0 : Nat), nr0_0 = r0.length → SlO (rdM u64L) 22 Z' Y0 H' Ar0_0 cr0_0 r0 → ∀ (r1 : (List Nat)), ∀ (Y1 : Nat → Prop), (∀ i, Y1 i → H.size ≤ i ∧ ¬ Z' i) → ∀ (Ar1_0 : Option Addr) (nr1_0 cr1_0 : Nat), nr1_0 = r1.length → SlO (rdM u64L) 22 Z' Y1 H' Ar1_0 cr1_0 r1 → (∀ i, Y0 i → ¬ Y1 i) → K r0 r1 → KK (.tuple #[.slice Ar0_0 nr0_0 cr0_0, .slice Ar1_0 nr1_0 cr1_0]) H') →
    CallH P N.field_Take [.int .u64 pv, .slice tapeA tapen tapec, .int .i64 n] H KK
def field_Take.Q (p : Nat) (tape : (List Nat)) (n : Int) (K : (List Nat) → (List Nat) → Prop) : Prop :=
  MakeOk 8 n ∧ LoopQ (τ := Int × List Nat) (0, (List.replicate (Int.toNat n) 0)) fun t nextQ =>
  cond (decide (t.1 < ((Int.toNat n : Nat) : Int))) (cond (decide (t.1 < ((tape.length : Nat) : Int))) (0 ≤ t.1 ∧ ∃ x : Nat, tape[Int.toNat t.1]? = some x ∧ (p : Int) ≠ 0 ∧ 0 ≤ t.1 ∧ t.1 < ((Int.toNat n : Nat) : Int) ∧ nextQ (IntKind.i64.wrap (t.1 + 1), (List.set t.2 (Int.toNat t.1) ((Int.tmod (x : Int) (p : Int)).toNat))))
   (nextQ (IntKind.i64.wrap (t.1 + 1), t.2)))
   (0 ≤ (if ((tape.length : Nat) : Int) < n then ((tape.length : Nat) : Int) else n) ∧ (if ((tape.length : Nat) : Int) < n then ((tape.length : Nat) : Int) else n) ≤ ((tape.length : Nat) : Int) ∧ AppOk 8 ([] ++ (List.drop (Int.toNat (if ((tape.length : Nat) : Int) < n then ((tape.length : Nat) : Int) else n)) tape)).length ∧ K t.2 (List.drop (Int.toNat (if ((tape.length : Nat) : Int) < n then ((tape.length : Nat) : Int) else n)) tape))
theorem field_Take.q {p : Nat} {tape : (List Nat)} {n : Int} {K : (List Nat) → (List Nat) → Prop} (q : field_Take.Q p tape n K) : field_Take.C p tape n K := by
  intro Z H pv he tapeA tapen tapec hn f KK hk
  cases he
  cases hn
  apply field_Take.ok
  unfold field_Take.W
  unfold field_Take.Q at q
  obtain ⟨σ, hz, hσ⟩ := tags Z
  have hs : Stp ([1, 2] : List Nat) σ H σ H := Stp.refl _ _ _
  replace f := f.wide hz
  clear hz
  obtain ⟨q2, q⟩ := q
  refine ⟨q2.1, Int.le_refl _, q2.w1, q2.w2, NewH.mk fun H_ e => ?_⟩
  obtain ⟨xσ, st, f2⟩ := SlO.made (O := (rdM u64L)) σ 1 e (u64_zero) q2.len
  replace f := f.step st
  replace hs := hs.trans st
  refine LoopI.ofQ q (fun t_ s_ hp_ => ∃ (σ_ : Nat → Nat), Stp [1] xσ H_ σ_ hp_ ∧ t_.1 = s_ ∧ t_.2.length = (List.replicate (Int.toNat n) 0).length ∧ SlO (rdM u64L) 22 (Zt σ_) (Yt σ_ 1) hp_ (some (Addr.mk H.size 0 none)) (Int.toNat n) t_.2) (fun h k => h _ _ k) ⟨_, Stp.refl _ _ _, rfl, rfl, f2⟩ ?_
  rintro t _ _ H_2 next nextQ ⟨xσ2, st2, rfl, hl, f2⟩ q hnext
  try dsimp only at q ⊢
  replace f := f.step st2
  replace hs := hs.trans st2
  have sl1 := st2
  refine condI (fun q => ?_) (fun q => ?_) q
  · refine condI (fun q => ?_) (fun q => ?_) q
    · obtain ⟨h0, x, hx, q⟩ := q
      obtain ⟨a, ha, hi⟩ := f.addr h0 hx rfl
      refine ⟨a, ha, hi.1, hi.2, ?_⟩
      have hc := f.ldu ha h0 hx
      refine ⟨_, hc.val, ?_⟩
      obtain ⟨q3, q⟩ := q
      refine ⟨q3, ?_⟩
      obtain ⟨h02, hi3, q⟩ := q
      obtain ⟨a2, ha2, hi2⟩ := f2.addr h02 ((rl_len _ _).trans hl.symm) hi3
      refine ⟨a2, ha2, hi2.1, hi2.2, ?_⟩
      have w := fun v hr => SlO.set1 (v := v) (y := (Int.tmod (x : Int) (p : Int)).toNat) f2 rfl ha2 h02 (lt_of_n ((rl_len _ _).trans hl.symm) hi3) hr
      refine ⟨(w _ (u64_rep (nnr (nnc _) _))).1, NewH.mk fun H_3 e2 => ?_⟩
      obtain ⟨st3, f2⟩ := (w _ (u64_rep (nnr (nnc _) _))).2 H_3 e2
      replace f := f.step st3
      replace hc := hc.step st3
      replace hs := hs.trans st3
      replace sl1 := sl1.trans st3
      exact hnext (IntKind.i64.wrap (t.1 + 1), (List.set t.2 (Int.toNat t.1) ((Int.tmod (x : Int) (p : Int)).toNat))) _ _ ⟨_, sl1, rfl, (set_back ((rl_len _ _).trans hl.symm) (set_len ((rl_len _ _).trans hl.symm)) hl), f2⟩ q
    · exact hnext (IntKind.i64.wrap (t.1 + 1), t.2) _ _ ⟨_, sl1, rfl, hl, f2⟩ q
  · refine NewH.mk fun H_4 e3 => ?_
    obtain ⟨xσ3, st4, f3⟩ := SlO.lit (E := u64L) xσ2 2 (xs := []) (l := []) e3 rfl .nil (show (0 : Nat) ≤ 17592186044416 by decide)
    replace f := f.step st4
    replace f2 := f2.step st4
    replace hs := hs.trans st4
    obtain ⟨q4, q5, q⟩ := q
    have f4 := f.from (l := Int.toNat (if ((tape.length : Nat) : Int) < n then ((tape.length : Nat) : Int) else n)) (k := 1) (upto_le rfl q5) rfl
    refine ⟨q4, q5, ?_⟩
    obtain ⟨q6, q⟩ := q
    refine SlO.appF f3 f4 rfl rfl q6.l q6.r rfl (drop_len rfl) (fun A c H_5 xσ4 st5 f3_ => ?_)
    replace f3 := f3_
    replace f := f.step st5
    replace f2 := f2.step st5
    replace f4 := f4.step st5
    replace hs := hs.trans st5
    have f5 := SlO.nilapp f3; clear f3
    exact hk (Zt xσ4) _ (hs.ext hσ) (hs.old hσ) _ (Yt xσ4 1) (hs.fresh hσ) _ _ _ ((rl_len _ _).trans hl.symm) f2 _ (Yt xσ4 2) (hs.fresh hσ) _ _ _ rfl f5 Yt.apart q
def field_mul.C (p : Nat) (a : Nat) (b : Nat) (K : Nat → Prop) : Prop :=
  ∀ (Z : Nat → Prop) (H : Heap), ∀ (pv : Int), pv = (p : Int) → ∀ (av : Int), av = (a : Int) → ∀ (bv : Int), bv = (b : Int) → ∀ KK : Value → Heap → Prop,
    (∀ (Z' : Nat → Prop) (H' : Heap), Ext H H' → Old Z H Z' → ∀ (r0 : Nat), ∀ (r0v0 : Int), r0v0 = (r0 : Int) → K r0 → KK (.int .u64 r0v0) H') →
    CallH P N.field_mul [.int .u64 pv, .int .u64 av, .int .u64 bv] H KK
def field_mul.Q (p : Nat) (a : Nat) (b : Nat) (K : Nat → Prop) : Prop :=
  (p : Int) ≠ 0 ∧ K ((Int.tmod (IntKind.u64.wrap ((a : Int) * (b : Int))) (p : Int)).toNat)
theorem field_mul.q {p : Nat} {a : Nat} {b : Nat} {K : Nat → Prop} (q : field_mul.Q p a b K) : field_mul.C p a b K := by
  intro Z H pv he av he2 bv he3 KK hk
  cases he
  cases he2
  cases he3
  apply field_mul.ok
  unfold field_mul.W
  unfold field_mul.Q at q
  obtain ⟨σ, hz, hσ⟩ := tags Z
  have hs : Stp ([] : List Nat) σ H σ H := Stp.refl _ _ _
  clear hz
  obtain ⟨q2, q⟩ := q
  refine ⟨q2, ?_⟩
  exact hk (Zt σ) _ (hs.ext hσ) (hs.old hσ) _ _ (natEq (nnr (nnw _) _)) q
def field_Times.C (p : Nat) (a : Nat) (b : Nat) (K : Nat → Prop) : Prop :=
  ∀ (Z : Nat → Prop) (H : Heap), ∀ (pv : Int), pv = (p : Int) → ∀ (av : Int), av = (a : Int) → ∀ (bv : Int), bv = (b : Int) → ∀ KK : Value → Heap → Prop,
    (∀ (Z' : Nat → Prop) (H' : Heap), Ext H H' → Old Z H Z' → ∀ (r0 : Nat), ∀ (r0v0 : Int), r0v0 = (r0 : Int) → K r0 → KK (.int .u64 r0v0) H') →
    CallH P N.field_Times [.int .u64 pv, .int .u64 av, .int .u64 bv] H KK
def field_Times.Q (p : Nat) (a : Nat) (b : Nat) (K : Nat → Prop) : Prop :=
  field_mul.C p a b (fun (x : Nat) =>
  K x)
theorem field_Times.q {p : Nat} {a : Nat} {b : Nat} {K : Nat → Prop} (q : field_Times.Q p a b K) : field_Times.C p a b K := by
  intro Z H pv he av he2 bv he3 KK hk
  cases he
  cases he2
  cases he3
  apply field_Times.ok
  unfold field_Times.W
  unfold field_Times.Q at q
  obtain ⟨σ, hz, hσ⟩ := tags Z
  have hs : Stp ([] : List Nat) σ H σ H := Stp.refl _ _ _
  clear hz
  refine q (Zt σ) H _ rfl _ rfl _ rfl _ (fun Z2 H_ hE hO x v he4 q => ?_)
  obtain ⟨xσ, st⟩ := call0 hE σ
  cases he4
  replace hs := hs.trans st
  refine ⟨_, rfl, ?_⟩
  exact hk (Zt xσ) _ (hs.ext hσ) (hs.old hσ) _ _ rfl q
def field_Plus.C (p : Nat) (a : Nat) (b : Nat) (K : Nat → Prop) : Prop :=
  ∀ (Z : Nat → Prop) (H : Heap), ∀ (pv : Int), pv = (p : Int) → ∀ (av : Int), av = (a : Int) → ∀ (bv : Int), bv = (b : Int) → ∀ KK : Value → Heap → Prop,
    (∀ (Z' : Nat → Prop) (H' : Heap), Ext H H' → Old Z H Z' → ∀ (r0 : Nat), ∀ (r0v0 : Int), r0v0 = (r0 : Int) → K r0 → KK (.int .u64 r0v0) H') →
    CallH P N.field_Plus [.int .u64 pv, .int .u64 av, .int .u64 bv] H KK
def field_Plus.Q (p : Nat) (a : Nat) (b : Nat) (K : Nat → Prop) : Prop :=
  cond (decide ((IntKind.u64.wrap ((a : Int) + (b : Int))) ≥ (p : Int))) (K ((IntKind.u64.wrap ((IntKind.u64.wrap ((a : Int) + (b : Int))) - (p : Int))).toNat))
   (K ((IntKind.u64.wrap ((a : Int) + (b : Int))).toNat))
theorem field_Plus.q {p : Nat} {a : Nat} {b : Nat} {K : Nat → Prop} (q : field_Plus.Q p a b K) : field_Plus.C p a b K := by
  intro Z H pv he av he2 bv he3 KK hk
  cases he
  cases he2
  cases he3
  apply field_Plus.ok
  unfold field_Plus.W
  unfold field_Plus.Q at q
  obtain ⟨σ, hz, hσ⟩ := tags Z
  have hs : Stp ([] : List Nat) σ H σ H := Stp.refl _ _ _
  clear hz
  refine condI (fun q => ?_) (fun q => ?_) q
  · exact hk (Zt σ) _ (hs.ext hσ) (hs.old hσ) _ _ (natEq (nnw _)) q
  · exact hk (Zt σ) _ (hs.ext hσ) (hs.old hσ) _ _ (natEq (nnw _)) q
def field_Minus.C (p : Nat) (a : Nat) (b : Nat) (K : Nat → Prop) : Prop :=
  ∀ (Z : Nat → Prop) (H : Heap), ∀ (pv : Int), pv = (p : Int) → ∀ (av : Int), av = (a : Int) → ∀ (bv : Int), bv = (b : Int) → ∀ KK : Value → Heap → Prop,
    (∀ (Z' : Nat → Prop) (H' : Heap), Ext H H' → Old Z H Z' → ∀ (r0 : Nat), ∀ (r0v0 : Int), r0v0 = (r0 : Int) → K r0 → KK (.int .u64 r0v0) H') →
    CallH P N.field_Minus [.int .u64 pv, .int .u64 av, .int .u64 bv] H KK
def field_Minus.Q (p : Nat) (a : Nat) (b : Nat) (K : Nat → Prop) : Prop :=
  (p : Int) ≠ 0 ∧ field_Plus.C p a ((Int.tmod (IntKind.u64.wrap ((p : Int) - (b : Int))) (p : Int)).toNat) (fun (x : Nat) =>
  K x)
theorem field_Minus.q {p : Nat} {a : Nat} {b : Nat} {K : Nat → Prop} (q : field_Minus.Q p a b K) : field_Minus.C p a b K := by
  intro Z H pv he av he2 bv he3 KK hk
  cases he
  cases he2
  cases he3
  apply field_Minus.ok
  unfold field_Minus.W
  unfold field_Minus.Q at q
  obtain ⟨σ, hz, hσ⟩ := tags Z
  have hs : Stp ([] : List Nat) σ H σ H := Stp.refl _ _ _
  clear hz
  obtain ⟨q2, q⟩ := q
  refine ⟨q2, ?_⟩
  refine q (Zt σ) H _ rfl _ rfl _ (natEq (nnr (nnw _) _)) _ (fun Z2 H_ hE hO x v he4 q => ?_)
  obtain ⟨xσ, st⟩ := call0 hE σ
  cases he4
  replace hs := hs.trans st
  refine ⟨_, rfl, ?_⟩
  exact hk (Zt xσ) _ (hs.ext hσ) (hs.old hσ) _ _ rfl q
def field_pow.C (p : Nat) (a : Nat) (e : Nat) (K : Nat → Prop) : Prop :=
  ∀ (Z : Nat → Prop) (H : Heap), ∀ (pv : Int), pv = (p : Int) → ∀ (av : Int), av = (a : Int) → ∀ (ev : Int), ev = (e : Int) → ∀ KK : Value → Heap → Prop,
    (∀ (Z' : Nat → Prop) (H' : Heap), Ext H H' → Old Z H Z' → ∀ (r0 : Nat), ∀ (r0v0 : Int), r0v0 = (r0 : Int) → K r0 → KK (.int .u64 r0v0) H') →
    CallH P N.field_pow [.int .u64 pv, .int .u64 av, .int .u64 ev] H KK
def field_pow.Q (p : Nat) (a : Nat) (e : Nat) (K : Nat → Prop) : Prop :=
  (p : Int) ≠ 0 ∧ LoopQ (τ := Nat × Nat × Nat) (a, e, (Int.tmod 1 (p : Int)).toNat) fun t nextQ =>
  cond (decide ((t.2.1 : Int) > 0)) (cond ((bitsOf .and .u64 (t.2.1 : Int) 1) == 1) (field_mul.C p t.2.2 t.1 (fun (x4 : Nat) =>
  field_mul.C p t.1 t.1 (fun (x5 : Nat) =>
  0 ≤ (1 : Int) ∧ nextQ (x5, (Int.fdiv (t.2.1 : Int) (2 ^ (min (Int.toNat 1) 64))).toNat, x4))))
   (field_mul.C p t.1 t.1 (fun (x6 : Nat) =>
  0 ≤ (1 : Int) ∧ nextQ (x6, (Int.fdiv (t.2.1 : Int) (2 ^ (min (Int.toNat 1) 64))).toNat, t.2.2))))
   (K t.2.2)
theorem field_pow.q {p : Nat} {a : Nat} {e : Nat} {K : Nat → Prop} (q : field_pow.Q p a e K) : field_pow.C p a e K := by
  intro Z H pv he av he2 ev he3 KK hk
  cases he
  cases he2
  cases he3
  apply field_pow.ok
  unfold field_pow.W
  unfold field_pow.Q at q
  obtain ⟨σ, hz, hσ⟩ := tags Z
  have hs : Stp ([] : List Nat) σ H σ H := Stp.refl _ _ _
  clear hz
  obtain ⟨q4, q⟩ := q
  refine ⟨q4, ?_⟩
  refine LoopI.ofQ q (fun t_ s_ hp_ => ∃ (σ_ : Nat → Nat) (x0_ : Int) (x1_ : Int) (x2_ : Int), Stp [] σ H σ_ hp_ ∧ (x0_, x1_, x2_) = s_ ∧ x0_ = ((t_.1 : Nat) : Int) ∧ x1_ = ((t_.2.1 : Nat) : Int) ∧ x2_ = ((t_.2.2 : Nat) : Int)) (fun h k => h _ _ k) ⟨_, _, _, _, Stp.refl _ _ _, rfl, rfl, rfl, (natEq (nnr (by decide) _))⟩ ?_
  rintro t _ _ H_ next nextQ ⟨xσ, x, x2, x3, st, rfl, rfl, rfl, rfl⟩ q hnext
  try dsimp only at q ⊢
  replace hs := hs.trans st
  have sl0 := st
  refine condI (fun q => ?_) (fun q => ?_) q
  · refine condI (fun q => ?_) (fun q => ?_) q
    · refine q (Zt xσ) H_ _ rfl _ rfl _ rfl _ (fun Z2 H_2 hE hO x4 v he4 q => ?_)
      obtain ⟨xσ2, st2⟩ := call0 hE xσ
      cases he4
      replace hs := hs.trans st2
      replace sl0 := sl0.trans st2
      refine ⟨_, rfl, ?_⟩
      refine q (Zt xσ2) H_2 _ rfl _ rfl _ rfl _ (fun Z3 H_3 hE2 hO2 x5 v2 he5 q => ?_)
      obtain ⟨xσ3, st3⟩ := call0 hE2 xσ2
      cases he5
      replace hs := hs.trans st3
      replace sl0 := sl0.trans st3
      refine ⟨_, rfl, ?_⟩
      obtain ⟨q2, q⟩ := q
      refine ⟨q2, ?_⟩
      exact hnext (x5, (Int.fdiv (t.2.1 : Int) (2 ^ (min (Int.toNat 1) 64))).toNat, x4) _ _ ⟨_, _, _, _, sl0, rfl, rfl, (natEq (nnshr (nnc _) _)), rfl⟩ q
    · refine q (Zt xσ) H_ _ rfl _ rfl _ rfl _ (fun Z4 H_4 hE3 hO3 x6 v3 he6 q => ?_)
      obtain ⟨xσ4, st4⟩ := call0 hE3 xσ
      cases he6
      replace hs := hs.trans st4
      replace sl0 := sl0.trans st4
      refine ⟨_, rfl, ?_⟩
      obtain ⟨q3, q⟩ := q
      refine ⟨q3, ?_⟩
      exact hnext (x6, (Int.fdiv (t.2.1 : Int) (2 ^ (min (Int.toNat 1) 64))).toNat, t.2.2) _ _ ⟨_, _, _, _, sl0, rfl, rfl, (natEq (nnshr (nnc _) _)), rfl⟩ q
  · exact hk (Zt xσ) _ (hs.ext hσ) (hs.old hσ) _ _ rfl q
def field_Over.C (p : Nat) (a : Nat) (K : Nat → Prop) : Prop :=
  ∀ (Z : Nat → Prop) (H : Heap), ∀ (pv : Int), pv = (p : Int) → ∀ (av : Int), av = (a : Int) → ∀ KK : Value → Heap → Prop,
    (∀ (Z' : Nat → Prop) (H' : Heap), Ext H H' → Old Z H Z' → ∀ (r0 : Nat), ∀ (r0v0 : Int), r0v0 = (r0 : Int) → K r0 → KK (.int .u64 r0v0) H') →
    CallH P N.field_Over [.int .u64 pv, .int .u64 av] H KK
def field_Over.Q (p : Nat) (a : Nat) (K : Nat → Prop) : Prop :=
  field_pow.C p a ((IntKind.u64.wrap ((p : Int) - 2)).toNat) (fun (x : Nat) =>
  K x)
theorem field_Over.q {p : Nat} {a : Nat} {K : Nat → Prop} (q : field_Over.Q p a K) : field_Over.C p a K := by
  intro Z H pv he av he2 KK hk
  cases he
  cases he2
  apply field_Over.ok
  unfold field_Over.W
  unfold field_Over.Q at q
  obtain ⟨σ, hz, hσ⟩ := tags Z
  have hs : Stp ([] : List Nat) σ H σ H := Stp.refl _ _ _
  clear hz
  refine q (Zt σ) H _ rfl _ rfl _ (natEq (nnw _)) _ (fun Z2 H_ hE hO x v he3 q => ?_)
  obtain ⟨xσ, st⟩ := call0 hE σ
  cases he3
  replace hs := hs.trans st
  refine ⟨_, rfl, ?_⟩
  exact hk (Zt xσ) _ (hs.ext hσ) (hs.old hσ) _ _ rfl q
end Go.Proofs.Ytlhcaangdenoaaa.Sh
