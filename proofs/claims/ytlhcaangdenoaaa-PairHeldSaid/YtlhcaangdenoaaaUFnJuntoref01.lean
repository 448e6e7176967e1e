import Derived.Test.YtlhcaangdenoaaaUTypes
namespace Go.Lf
end Go.Lf
namespace Go.Sx
end Go.Sx
set_option linter.unusedVariables false
set_option linter.unusedSimpArgs false
set_option maxRecDepth 100000
namespace Go.Proofs.Ytlhcaangdenoaaa.Sh
open Go.Sx
def juntoref01_Same.A : Ann where
  loops := fun i => match i with
    | 16392 => [(13, .int .i64)]
    | _ => []
  plans := fun i => match i with
    | 6 => .first 0 (.first 1 (.first 2 (.first 4 (.first 5 (.first 6 (.read 3 (.read 7 (.first 8 (.done)))))))))
    | _ => .stop
def juntoref01_Same.W (aA : Option Addr) (an ac : Nat) (bA : Option Addr) (bn bc : Nat) (H : Heap) (R : Value → Heap → Prop) : Prop :=
  cond (((an : Nat) : Int) != ((bn : Nat) : Int)) (R (.bool false) H)
   (LoopI (σ := Int) (fun κ => κ 0 H) fun s z H_ next =>
  cond (decide (s < ((an : Nat) : Int))) (∃ a : Addr, aA = some a ∧ 0 ≤ s ∧ s < ((an : Nat) : Int) ∧ ∃ a2 : Addr, bA = some a2 ∧ 0 ≤ s ∧ s < ((bn : Nat) : Int) ∧ ∃ x : Int, cellH H_ (a.add (Int.toNat s)) = some (.int .u64 x) ∧ ∃ x2 : Int, cellH H_ (a2.add (Int.toNat s)) = some (.int .u64 x2) ∧ cond (x != x2) (R (.bool false) H_)
   (next (IntKind.i64.wrap (s + 1)) H_))
   (R (.bool true) H_))
theorem juntoref01_Same.ok (aA : Option Addr) (an ac : Nat) (bA : Option Addr) (bn bc : Nat) (H : Heap) (R : Value → Heap → Prop) (h : juntoref01_Same.W aA an ac bA bn bc H R) : CallH P N.juntoref01_Same ([.slice aA an ac, .slice bA bn bc] : List Value) H R := by
  have e : juntoref01_Same.W aA an ac bA bn bc H R = sxFn P T Sh.R nf juntoref01_Same.A Try.f33.results.toList (bodyOf Try.f33) (([(.slice aA an ac : Value), (.slice bA bn bc : Value)] : List Value) ++ List.replicate (26 - ([(.slice aA an ac : Value), (.slice bA bn bc : Value)] : List Value).length) undef) H R := by kernel_rfl
  exact call_of_sx fits bodies mixed Try.func33 (c := bodyOf Try.f33) (by kernel_rfl) Try.ntmps33 juntoref01_Same.A (by kernel_rfl) (e.mp h)
def juntoref01_Within.A : Ann where
  loops := fun i => match i with
    | 8198 => [(9, .int .i64)]
    | _ => []
  plans := fun i => match i with
    | _ => .stop
def juntoref01_Within.W (p : Int) (lA : Option Addr) (ln lc : Nat) (H : Heap) (R : Value → Heap → Prop) : Prop :=
  LoopI (σ := Int) (fun κ => κ 0 H) fun s z H_ next =>
  cond (decide (s < ((ln : Nat) : Int))) (∃ a : Addr, lA = some a ∧ 0 ≤ s ∧ s < ((ln : Nat) : Int) ∧ ∃ x : Int, cellH H_ (a.add (Int.toNat s)) = some (.int .u64 x) ∧ cond (decide (x ≥ p)) (R (.int .i64 2) H_)
   (next (IntKind.i64.wrap (s + 1)) H_))
   (R (.int .i64 0) H_)
theorem juntoref01_Within.ok (p : Int) (lA : Option Addr) (ln lc : Nat) (H : Heap) (R : Value → Heap → Prop) (h : juntoref01_Within.W p lA ln lc H R) : CallH P N.juntoref01_Within ([.int .u64 p, .slice lA ln lc] : List Value) H R := by
  have e : juntoref01_Within.W p lA ln lc H R = sxFn P T Sh.R nf juntoref01_Within.A Try.f39.results.toList (bodyOf Try.f39) (([(.int .u64 p : Value), (.slice lA ln lc : Value)] : List Value) ++ List.replicate (17 - ([(.int .u64 p : Value), (.slice lA ln lc : Value)] : List Value).length) undef) H R := by kernel_rfl
  exact call_of_sx fits bodies mixed Try.func39 (c := bodyOf Try.f39) (by kernel_rfl) Try.ntmps39 juntoref01_Within.A (by kernel_rfl) (e.mp h)
def juntoref01_Is.A : Ann where
  loops := fun i => match i with
    | 16389 => [(3, .int .u64)]
    | _ => []
  plans := fun i => match i with
    | _ => .stop
def juntoref01_Is.W (p : Int) (H : Heap) (R : Value → Heap → Prop) : Prop :=
  cond (decide (p < 3)) (R (.bool false) H) (cond (decide (p > 65537)) (R (.bool false) H)
   (LoopI (σ := Int) (fun κ => κ 2 H) fun s z H_ next =>
  cond (decide ((IntKind.u64.wrap (s * s)) ≤ p)) (s ≠ 0 ∧ cond ((Int.tmod p s) == 0) (R (.bool false) H_)
   (next (IntKind.u64.wrap (s + 1)) H_))
   (R (.bool true) H_)))
theorem juntoref01_Is.ok (p : Int) (H : Heap) (R : Value → Heap → Prop) (h : juntoref01_Is.W p H R) : CallH P N.juntoref01_Is ([.int .u64 p] : List Value) H R := by
  have e : juntoref01_Is.W p H R = sxFn P T Sh.R nf juntoref01_Is.A Try.f65.results.toList (bodyOf Try.f65) (([(.int .u64 p : Value)] : List Value) ++ List.replicate (21 - ([(.int .u64 p : Value)] : List Value).length) undef) H R := by kernel_rfl
  exact call_of_sx fits bodies mixed Try.func65 (c := bodyOf Try.f65) (by kernel_rfl) Try.ntmps65 juntoref01_Is.A (by kernel_rfl) (e.mp h)
end Go.Proofs.Ytlhcaangdenoaaa.Sh
namespace Go.Proofs.Ytlhcaangdenoaaa.Sh
open Go.Sx Go.Lf
def juntoref01_Is.C (p : Nat) (K : Bool → Prop) : Prop :=
  ∀ (Z : Nat → Prop) (H : Heap), ∀ (pv : Int), pv = (p : Int) → ∀ KK : Value → Heap → Prop,
    (∀ (Z' : Nat → Prop) (H' : Heap), Ext H H' → Old Z H Z' → ∀ (r0 : Bool), K r0 → KK (.bool r0) H') →
    CallH P N.juntoref01_Is [.int .u64 pv] H KK
def juntoref01_Is.Q (p : Nat) (K : Bool → Prop) : Prop :=
  cond (decide ((p : Int) < 3)) (K false)
   (cond (decide ((p : Int) > 65537)) (K false)
   (LoopQ (τ := Nat) 2 fun t nextQ =>
  cond (decide ((IntKind.u64.wrap ((t : Int) * (t : Int))) ≤ (p : Int))) ((t : Int) ≠ 0 ∧ cond ((Int.tmod (p : Int) (t : Int)) == 0) (K false)
   (nextQ ((IntKind.u64.wrap ((t : Int) + 1)).toNat)))
   (K true)))
theorem juntoref01_Is.q {p : Nat} {K : Bool → Prop} (q : juntoref01_Is.Q p K) : juntoref01_Is.C p K := by
  intro Z H pv he KK hk
  cases he
  apply juntoref01_Is.ok
  unfold juntoref01_Is.W
  unfold juntoref01_Is.Q at q
  obtain ⟨σ, hz, hσ⟩ := tags Z
  have hs : Stp ([] : List Nat) σ H σ H := Stp.refl _ _ _
  clear hz
  refine condI (fun q => ?_) (fun q => ?_) q
  · exact hk (Zt σ) _ (hs.ext hσ) (hs.old hσ) _ q
  · refine condI (fun q => ?_) (fun q => ?_) q
    · exact hk (Zt σ) _ (hs.ext hσ) (hs.old hσ) _ q
    · refine LoopI.ofQ q (fun t_ s_ hp_ => ∃ (σ_ : Nat → Nat) (x0_ : Int), Stp [] σ H σ_ hp_ ∧ x0_ = s_ ∧ x0_ = ((t_ : Nat) : Int)) (fun h k => h _ _ k) ⟨_, _, Stp.refl _ _ _, rfl, rfl⟩ ?_
      rintro t _ _ H_ next nextQ ⟨xσ, x, st, rfl, rfl⟩ q hnext
      try dsimp only at q ⊢
      replace hs := hs.trans st
      have sl0 := st
      refine condI (fun q => ?_) (fun q => ?_) q
      · obtain ⟨q2, q⟩ := q
        refine ⟨q2, ?_⟩
        refine condI (fun q => ?_) (fun q => ?_) q
        · exact hk (Zt xσ) _ (hs.ext hσ) (hs.old hσ) _ q
        · exact hnext ((IntKind.u64.wrap ((t : Int) + 1)).toNat) _ _ ⟨_, _, sl0, rfl, (natEq (nnw _))⟩ q
      · exact hk (Zt xσ) _ (hs.ext hσ) (hs.old hσ) _ q
def juntoref01_Within.C (p : Nat) (l : (List Nat)) (K : Int → Prop) : Prop :=
  ∀ (Z : Nat → Prop) (H : Heap), ∀ (pv : Int), pv = (p : Int) → ∀ (lA : Option Addr) (ln lc : Nat), ln = l.length → SlF u64L Z H lA lc l → ∀ KK : Value → Heap → Prop,
    (∀ (Z' : Nat → Prop) (H' : Heap), Ext H H' → Old Z H Z' → ∀ (r0 : Int), K r0 → KK (.int .i64 r0) H') →
    CallH P N.juntoref01_Within [.int .u64 pv, .slice lA ln lc] H KK
def juntoref01_Within.Q (p : Nat) (l : (List Nat)) (K : Int → Prop) : Prop :=
  LoopQ (τ := Int) 0 fun t nextQ =>
  cond (decide (t < ((l.length : Nat) : Int))) (0 ≤ t ∧ ∃ x : Nat, l[Int.toNat t]? = some x ∧ cond (decide ((x : Int) ≥ (p : Int))) (K 2)
   (nextQ (IntKind.i64.wrap (t + 1))))
   (K 0)
theorem juntoref01_Within.q {p : Nat} {l : (List Nat)} {K : Int → Prop} (q : juntoref01_Within.Q p l K) : juntoref01_Within.C p l K := by
  intro Z H pv he lA ln lc hn f KK hk
  cases he
  cases hn
  apply juntoref01_Within.ok
  unfold juntoref01_Within.W
  unfold juntoref01_Within.Q at q
  obtain ⟨σ, hz, hσ⟩ := tags Z
  have hs : Stp ([] : List Nat) σ H σ H := Stp.refl _ _ _
  replace f := f.wide hz
  clear hz
  refine LoopI.ofQ q (fun t_ s_ hp_ => ∃ (σ_ : Nat → Nat), Stp [] σ H σ_ hp_ ∧ t_ = s_) (fun h k => h _ _ k) ⟨_, Stp.refl _ _ _, rfl⟩ ?_
  rintro t _ _ H_ next nextQ ⟨xσ, st, rfl⟩ q hnext
  try dsimp only at q ⊢
  replace f := f.step st
  replace hs := hs.trans st
  have sl0 := st
  refine condI (fun q => ?_) (fun q => ?_) q
  · obtain ⟨h0, x, hx, q⟩ := q
    obtain ⟨a, ha, hi⟩ := f.addr h0 hx rfl
    refine ⟨a, ha, hi.1, hi.2, ?_⟩
    have hc := f.ldu ha h0 hx
    refine ⟨_, hc.val, ?_⟩
    refine condI (fun q => ?_) (fun q => ?_) q
    · exact hk (Zt xσ) _ (hs.ext hσ) (hs.old hσ) _ q
    · exact hnext (IntKind.i64.wrap (t + 1)) _ _ ⟨_, sl0, rfl⟩ q
  · exact hk (Zt xσ) _ (hs.ext hσ) (hs.old hσ) _ q
def juntoref01_Same.C (a : (List Nat)) (b : (List Nat)) (K : Bool → Prop) : Prop :=
  ∀ (Z : Nat → Prop) (H : Heap), ∀ (aA : Option Addr) (an ac : Nat), an = a.length → SlF u64L Z H aA ac a → ∀ (bA : Option Addr) (bn bc : Nat), bn = b.length → SlF u64L Z H bA bc b → ∀ KK : Value → Heap → Prop,
    (∀ (Z' : Nat → Prop) (H' : Heap), Ext H H' → Old Z H Z' → ∀ (r0 : Bool), K r0 → KK (.bool r0) H') →
    CallH P N.juntoref01_Same [.slice aA an ac, .slice bA bn bc] H KK
def juntoref01_Same.Q (a : (List Nat)) (b : (List Nat)) (K : Bool → Prop) : Prop :=
  cond (((a.length : Nat) : Int) != ((b.length : Nat) : Int)) (K false)
   (LoopQ (τ := Int) 0 fun t nextQ =>
  cond (decide (t < ((a.length : Nat) : Int))) (0 ≤ t ∧ ∃ x : Nat, a[Int.toNat t]? = some x ∧ 0 ≤ t ∧ ∃ x2 : Nat, b[Int.toNat t]? = some x2 ∧ cond ((x : Int) != (x2 : Int)) (K false)
   (nextQ (IntKind.i64.wrap (t + 1))))
   (K true))
theorem juntoref01_Same.q {a : (List Nat)} {b : (List Nat)} {K : Bool → Prop} (q : juntoref01_Same.Q a b K) : juntoref01_Same.C a b K := by
  intro Z H aA an ac hn f bA bn bc hn2 f2 KK hk
  cases hn
  cases hn2
  apply juntoref01_Same.ok
  unfold juntoref01_Same.W
  unfold juntoref01_Same.Q at q
  obtain ⟨σ, hz, hσ⟩ := tags Z
  have hs : Stp ([] : List Nat) σ H σ H := Stp.refl _ _ _
  replace f := f.wide hz
  replace f2 := f2.wide hz
  clear hz
  refine condI (fun q => ?_) (fun q => ?_) q
  · exact hk (Zt σ) _ (hs.ext hσ) (hs.old hσ) _ q
  · refine LoopI.ofQ q (fun t_ s_ hp_ => ∃ (σ_ : Nat → Nat), Stp [] σ H σ_ hp_ ∧ t_ = s_) (fun h k => h _ _ k) ⟨_, Stp.refl _ _ _, rfl⟩ ?_
    rintro t _ _ H_ next nextQ ⟨xσ, st, rfl⟩ q hnext
    try dsimp only at q ⊢
    replace f := f.step st
    replace f2 := f2.step st
    replace hs := hs.trans st
    have sl0 := st
    refine condI (fun q => ?_) (fun q => ?_) q
    · obtain ⟨h0, x, hx, q⟩ := q
      obtain ⟨a2, ha, hi⟩ := f.addr h0 hx rfl
      refine ⟨a2, ha, hi.1, hi.2, ?_⟩
      obtain ⟨h02, x2, hx2, q⟩ := q
      obtain ⟨a3, ha2, hi2⟩ := f2.addr h02 hx2 rfl
      refine ⟨a3, ha2, hi2.1, hi2.2, ?_⟩
      have hc := f.ldu ha h0 hx
      refine ⟨_, hc.val, ?_⟩
      have hc2 := f2.ldu ha2 h02 hx2
      refine ⟨_, hc2.val, ?_⟩
      refine condI (fun q => ?_) (fun q => ?_) q
      · exact hk (Zt xσ) _ (hs.ext hσ) (hs.old hσ) _ q
      · exact hnext (IntKind.i64.wrap (t + 1)) _ _ ⟨_, sl0, rfl⟩ q
    · exact hk (Zt xσ) _ (hs.ext hσ) (hs.old hσ) _ q
end Go.Proofs.Ytlhcaangdenoaaa.Sh
