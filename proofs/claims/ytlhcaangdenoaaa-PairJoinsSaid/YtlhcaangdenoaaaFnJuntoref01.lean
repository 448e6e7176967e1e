import Derived.Test.YtlhcaangdenoaaaTypes
set_option linter.unusedVariables false
set_option linter.unusedSimpArgs false
set_option maxRecDepth 100000
namespace Go.Proofs.Ytlhcaangdenoaaa.Sh
open Go.Sx

/-! juntoref01_Same -/
def juntoref01_Same.A : Ann where
  loops := fun i => match i with
    | 16392 => [(13, .int .i64)]
    | _ => []
  plans := fun i => match i with
    | 6 => .first 0 (.first 1 (.first 2 (.first 4 (.first 5 (.first 6 (.read 3 (.read 7 (.first 8 (.done)))))))))
    | _ => .stop
def juntoref01_Same.W (aA : Option Addr) (an ac : Nat) (bA : Option Addr) (bn bc : Nat) (H : Heap) (R : Value → Heap → Prop) : Prop :=
  cond (((an : Nat) : Int) != ((bn : Nat) : Int)) (R (.bool false) H)
   (LoopI (σ := Int) (fun κ => κ 0 H) fun s z H_ next =>
  cond (decide (s < ((an : Nat) : Int))) (∃ a : Addr, aA = some a ∧ 0 ≤ s ∧ s < ((an : Nat) : Int) ∧ ∃ a2 : Addr, bA = some a2 ∧ 0 ≤ s ∧ s < ((bn : Nat) : Int) ∧ ∃ x : Int, cellH H_ (a.add (Int.toNat s)) = some (.int .u64 x) ∧ ∃ x2 : Int, cellH H_ (a2.add (Int.toNat s)) = some (.int .u64 x2) ∧ cond (x != x2) (R (.bool false) H_)
   (next (IntKind.i64.wrap (s + 1)) H_))
   (R (.bool true) H_))
theorem juntoref01_Same.ok (aA : Option Addr) (an ac : Nat) (bA : Option Addr) (bn bc : Nat) (H : Heap) (R : Value → Heap → Prop) (h : juntoref01_Same.W aA an ac bA bn bc H R) : CallH P N.juntoref01_Same ([.slice aA an ac, .slice bA bn bc] : List Value) H R := by
  have e : juntoref01_Same.W aA an ac bA bn bc H R = sxFn P T Sh.R nf juntoref01_Same.A Try.f33.results.toList (bodyOf Try.f33) (([(.slice aA an ac : Value), (.slice bA bn bc : Value)] : List Value) ++ List.replicate (26 - ([(.slice aA an ac : Value), (.slice bA bn bc : Value)] : List Value).length) undef) H R := by kernel_rfl
  exact call_of_sx fits bodies mixed Try.func33 (c := bodyOf Try.f33) (by kernel_rfl) Try.ntmps33 juntoref01_Same.A (by kernel_rfl) (e.mp h)

/-! juntoref01_Within -/
def juntoref01_Within.A : Ann where
  loops := fun i => match i with
    | 8198 => [(9, .int .i64)]
    | _ => []
  plans := fun i => match i with
    | _ => .stop
def juntoref01_Within.W (p : Int) (lA : Option Addr) (ln lc : Nat) (H : Heap) (R : Value → Heap → Prop) : Prop :=
  LoopI (σ := Int) (fun κ => κ 0 H) fun s z H_ next =>
  cond (decide (s < ((ln : Nat) : Int))) (∃ a : Addr, lA = some a ∧ 0 ≤ s ∧ s < ((ln : Nat) : Int) ∧ ∃ x : Int, cellH H_ (a.add (Int.toNat s)) = some (.int .u64 x) ∧ cond (decide (x ≥ p)) (R (.int .i64 2) H_)
   (next (IntKind.i64.wrap (s + 1)) H_))
   (R (.int .i64 0) H_)
theorem juntoref01_Within.ok (p : Int) (lA : Option Addr) (ln lc : Nat) (H : Heap) (R : Value → Heap → Prop) (h : juntoref01_Within.W p lA ln lc H R) : CallH P N.juntoref01_Within ([.int .u64 p, .slice lA ln lc] : List Value) H R := by
  have e : juntoref01_Within.W p lA ln lc H R = sxFn P T Sh.R nf juntoref01_Within.A Try.f39.results.toList (bodyOf Try.f39) (([(.int .u64 p : Value), (.slice lA ln lc : Value)] : List Value) ++ List.replicate (17 - ([(.int .u64 p : Value), (.slice lA ln lc : Value)] : List Value).length) undef) H R := by kernel_rfl
  exact call_of_sx fits bodies mixed Try.func39 (c := bodyOf Try.f39) (by kernel_rfl) Try.ntmps39 juntoref01_Within.A (by kernel_rfl) (e.mp h)

/-! juntoref01_Sub -/
def juntoref01_Sub.A : Ann where
  loops := fun i => match i with
    | _ => []
  plans := fun i => match i with
    | _ => .stop
def juntoref01_Sub.W (p : Int) (a : Int) (b : Int) (H : Heap) (R : Value → Heap → Prop) : Prop :=
  p ≠ 0 ∧ R (.int .u64 (Int.tmod (IntKind.u64.wrap ((IntKind.u64.wrap (a + p)) - b)) p)) H
theorem juntoref01_Sub.ok (p : Int) (a : Int) (b : Int) (H : Heap) (R : Value → Heap → Prop) (h : juntoref01_Sub.W p a b H R) : CallH P N.juntoref01_Sub ([.int .u64 p, .int .u64 a, .int .u64 b] : List Value) H R := by
  have e : juntoref01_Sub.W p a b H R = sxFn P T Sh.R nf juntoref01_Sub.A Try.f51.results.toList (bodyOf Try.f51) (([(.int .u64 p : Value), (.int .u64 a : Value), (.int .u64 b : Value)] : List Value) ++ List.replicate (14 - ([(.int .u64 p : Value), (.int .u64 a : Value), (.int .u64 b : Value)] : List Value).length) undef) H R := by kernel_rfl
  exact call_of_sx fits bodies mixed Try.func51 (c := bodyOf Try.f51) (by kernel_rfl) Try.ntmps51 juntoref01_Sub.A (by kernel_rfl) (e.mp h)

/-! juntoref01_Is -/
def juntoref01_Is.A : Ann where
  loops := fun i => match i with
    | 16389 => [(3, .int .u64)]
    | _ => []
  plans := fun i => match i with
    | _ => .stop
def juntoref01_Is.W (p : Int) (H : Heap) (R : Value → Heap → Prop) : Prop :=
  cond (decide (p < 3)) (R (.bool false) H) (cond (decide (p > 65537)) (R (.bool false) H)
   (LoopI (σ := Int) (fun κ => κ 2 H) fun s z H_ next =>
  cond (decide ((IntKind.u64.wrap (s * s)) ≤ p)) (s ≠ 0 ∧ cond ((Int.tmod p s) == 0) (R (.bool false) H_)
   (next (IntKind.u64.wrap (s + 1)) H_))
   (R (.bool true) H_)))
theorem juntoref01_Is.ok (p : Int) (H : Heap) (R : Value → Heap → Prop) (h : juntoref01_Is.W p H R) : CallH P N.juntoref01_Is ([.int .u64 p] : List Value) H R := by
  have e : juntoref01_Is.W p H R = sxFn P T Sh.R nf juntoref01_Is.A Try.f65.results.toList (bodyOf Try.f65) (([(.int .u64 p : Value)] : List Value) ++ List.replicate (21 - ([(.int .u64 p : Value)] : List Value).length) undef) H R := by kernel_rfl
  exact call_of_sx fits bodies mixed Try.func65 (c := bodyOf Try.f65) (by kernel_rfl) Try.ntmps65 juntoref01_Is.A (by kernel_rfl) (e.mp h)

/-! juntoref01_Draw -/
def juntoref01_Draw.A : Ann where
  loops := fun i => match i with
    | 12292 => [(9, .int .i64)]
    | _ => []
  plans := fun i => match i with
    | _ => .stop
def juntoref01_Draw.W (p : Int) (tapeA : Option Addr) (tapen tapec : Nat) (n : Int) (H : Heap) (R : Value → Heap → Prop) : Prop :=
  0 ≤ n ∧ n ≤ n ∧ n * 8 ≤ 2 ^ 48 ∧ n < 2 ^ 62 ∧ NewH (H.push (.cells (repl (Int.toNat n) [.int .u64 0]).toArray 22 (0, 0))) fun H_ =>
  LoopI (σ := Int) (fun κ => κ 0 H_) fun s z H_2 next =>
  cond (decide (s < n)) (cond (decide (s < ((tapen : Nat) : Int))) (∃ a : Addr, tapeA = some a ∧ 0 ≤ s ∧ s < ((tapen : Nat) : Int) ∧ ∃ x : Int, cellH H_2 (a.add (Int.toNat s)) = some (.int .u64 x) ∧ p ≠ 0 ∧ ∃ a2 : Addr, (some (Addr.mk H.size 0 none) : Option Addr) = some a2 ∧ 0 ≤ s ∧ s < ((Int.toNat n : Nat) : Int) ∧ MayWrite H_2 (a2.add (Int.toNat s)) 1 ∧ NewH (setH H_2 (a2.add (Int.toNat s)) (.int .u64 (Int.tmod x p))) fun H_3 =>
  next (IntKind.i64.wrap (s + 1)) H_3)
   (NewH (H_2.push (.cells #[] 22 (0, 0))) fun H_4 =>
  0 ≤ (if ((tapen : Nat) : Int) < n then ((tapen : Nat) : Int) else n) ∧ (if ((tapen : Nat) : Int) < n then ((tapen : Nat) : Int) else n) ≤ ((tapen : Nat) : Int) ∧ AppendV 22 1 8 [.int .u64 0] H_4 (some (Addr.mk H_2.size 0 none)) 0 0 (SubA tapeA tapec (Int.toNat (if ((tapen : Nat) : Int) < n then ((tapen : Nat) : Int) else n)) 1) (tapen - (Int.toNat (if ((tapen : Nat) : Int) < n then ((tapen : Nat) : Int) else n))) fun vA vn vc H_5 =>
  R (.tuple #[.slice (some (Addr.mk H.size 0 none)) (Int.toNat n) (Int.toNat n), .slice vA vn vc]) H_5)) (NewH (H_2.push (.cells #[] 22 (0, 0))) fun H_6 =>
  0 ≤ (if ((tapen : Nat) : Int) < n then ((tapen : Nat) : Int) else n) ∧ (if ((tapen : Nat) : Int) < n then ((tapen : Nat) : Int) else n) ≤ ((tapen : Nat) : Int) ∧ AppendV 22 1 8 [.int .u64 0] H_6 (some (Addr.mk H_2.size 0 none)) 0 0 (SubA tapeA tapec (Int.toNat (if ((tapen : Nat) : Int) < n then ((tapen : Nat) : Int) else n)) 1) (tapen - (Int.toNat (if ((tapen : Nat) : Int) < n then ((tapen : Nat) : Int) else n))) fun vA2 vn2 vc2 H_7 =>
  R (.tuple #[.slice (some (Addr.mk H.size 0 none)) (Int.toNat n) (Int.toNat n), .slice vA2 vn2 vc2]) H_7)
theorem juntoref01_Draw.ok (p : Int) (tapeA : Option Addr) (tapen tapec : Nat) (n : Int) (H : Heap) (R : Value → Heap → Prop) (h : juntoref01_Draw.W p tapeA tapen tapec n H R) : CallH P N.juntoref01_Draw ([.int .u64 p, .slice tapeA tapen tapec, .int .i64 n] : List Value) H R := by
  have e : juntoref01_Draw.W p tapeA tapen tapec n H R = sxFn P T Sh.R nf juntoref01_Draw.A Try.f83.results.toList (bodyOf Try.f83) (([(.int .u64 p : Value), (.slice tapeA tapen tapec : Value), (.int .i64 n : Value)] : List Value) ++ List.replicate (41 - ([(.int .u64 p : Value), (.slice tapeA tapen tapec : Value), (.int .i64 n : Value)] : List Value).length) undef) H R := by kernel_rfl
  exact call_of_sx fits bodies mixed Try.func83 (c := bodyOf Try.f83) (by kernel_rfl) Try.ntmps83 juntoref01_Draw.A (by kernel_rfl) (e.mp h)

/-! juntoref01_Add -/
def juntoref01_Add.A : Ann where
  loops := fun i => match i with
    | _ => []
  plans := fun i => match i with
    | _ => .stop
def juntoref01_Add.W (p : Int) (a : Int) (b : Int) (H : Heap) (R : Value → Heap → Prop) : Prop :=
  p ≠ 0 ∧ R (.int .u64 (Int.tmod (IntKind.u64.wrap (a + b)) p)) H
theorem juntoref01_Add.ok (p : Int) (a : Int) (b : Int) (H : Heap) (R : Value → Heap → Prop) (h : juntoref01_Add.W p a b H R) : CallH P N.juntoref01_Add ([.int .u64 p, .int .u64 a, .int .u64 b] : List Value) H R := by
  have e : juntoref01_Add.W p a b H R = sxFn P T Sh.R nf juntoref01_Add.A Try.f86.results.toList (bodyOf Try.f86) (([(.int .u64 p : Value), (.int .u64 a : Value), (.int .u64 b : Value)] : List Value) ++ List.replicate (12 - ([(.int .u64 p : Value), (.int .u64 a : Value), (.int .u64 b : Value)] : List Value).length) undef) H R := by kernel_rfl
  exact call_of_sx fits bodies mixed Try.func86 (c := bodyOf Try.f86) (by kernel_rfl) Try.ntmps86 juntoref01_Add.A (by kernel_rfl) (e.mp h)

/-! juntoref01_Mul -/
def juntoref01_Mul.A : Ann where
  loops := fun i => match i with
    | _ => []
  plans := fun i => match i with
    | _ => .stop
def juntoref01_Mul.W (p : Int) (a : Int) (b : Int) (H : Heap) (R : Value → Heap → Prop) : Prop :=
  p ≠ 0 ∧ R (.int .u64 (Int.tmod (IntKind.u64.wrap (a * b)) p)) H
theorem juntoref01_Mul.ok (p : Int) (a : Int) (b : Int) (H : Heap) (R : Value → Heap → Prop) (h : juntoref01_Mul.W p a b H R) : CallH P N.juntoref01_Mul ([.int .u64 p, .int .u64 a, .int .u64 b] : List Value) H R := by
  have e : juntoref01_Mul.W p a b H R = sxFn P T Sh.R nf juntoref01_Mul.A Try.f87.results.toList (bodyOf Try.f87) (([(.int .u64 p : Value), (.int .u64 a : Value), (.int .u64 b : Value)] : List Value) ++ List.replicate (12 - ([(.int .u64 p : Value), (.int .u64 a : Value), (.int .u64 b : Value)] : List Value).length) undef) H R := by kernel_rfl
  exact call_of_sx fits bodies mixed Try.func87 (c := bodyOf Try.f87) (by kernel_rfl) Try.ntmps87 juntoref01_Mul.A (by kernel_rfl) (e.mp h)

/-! juntoref01_Pow -/
def juntoref01_Pow.A : Ann where
  loops := fun i => match i with
    | _ => []
  plans := fun i => match i with
    | _ => .stop
def juntoref01_Pow.W (p : Int) (a : Int) (e : Int) (H : Heap) (R : Value → Heap → Prop) : Prop :=
  cond (e == 0) (R (.int .u64 1) H)
   ((2 : Int) ≠ 0 ∧ CallH P N.juntoref01_Pow [.int .u64 p, .int .u64 a, .int .u64 (IntKind.u64.wrap (Int.tdiv e 2))] H fun v H_ =>
  ∃ r : Int, v = .int .u64 r ∧ CallH P N.juntoref01_Mul [.int .u64 p, .int .u64 r, .int .u64 r] H_ fun v2 H_2 =>
  ∃ r2 : Int, v2 = .int .u64 r2 ∧ (2 : Int) ≠ 0 ∧ cond ((Int.tmod e 2) == 1) (CallH P N.juntoref01_Mul [.int .u64 p, .int .u64 r2, .int .u64 a] H_2 fun v3 H_3 =>
  ∃ r3 : Int, v3 = .int .u64 r3 ∧ R (.int .u64 r3) H_3)
   (R (.int .u64 r2) H_2))
theorem juntoref01_Pow.ok (p : Int) (a : Int) (e : Int) (H : Heap) (R : Value → Heap → Prop) (h : juntoref01_Pow.W p a e H R) : CallH P N.juntoref01_Pow ([.int .u64 p, .int .u64 a, .int .u64 e] : List Value) H R := by
  have e : juntoref01_Pow.W p a e H R = sxFn P T Sh.R nf juntoref01_Pow.A Try.f88.results.toList (bodyOf Try.f88) (([(.int .u64 p : Value), (.int .u64 a : Value), (.int .u64 e : Value)] : List Value) ++ List.replicate (27 - ([(.int .u64 p : Value), (.int .u64 a : Value), (.int .u64 e : Value)] : List Value).length) undef) H R := by kernel_rfl
  exact call_of_sx fits bodies mixed Try.func88 (c := bodyOf Try.f88) (by kernel_rfl) Try.ntmps88 juntoref01_Pow.A (by kernel_rfl) (e.mp h)

/-! juntoref01_Inv -/
def juntoref01_Inv.A : Ann where
  loops := fun i => match i with
    | _ => []
  plans := fun i => match i with
    | _ => .stop
def juntoref01_Inv.W (p : Int) (a : Int) (H : Heap) (R : Value → Heap → Prop) : Prop :=
  CallH P N.juntoref01_Pow [.int .u64 p, .int .u64 a, .int .u64 (IntKind.u64.wrap (p - 2))] H fun v H_ =>
  ∃ r : Int, v = .int .u64 r ∧ R (.int .u64 r) H_
theorem juntoref01_Inv.ok (p : Int) (a : Int) (H : Heap) (R : Value → Heap → Prop) (h : juntoref01_Inv.W p a H R) : CallH P N.juntoref01_Inv ([.int .u64 p, .int .u64 a] : List Value) H R := by
  have e : juntoref01_Inv.W p a H R = sxFn P T Sh.R nf juntoref01_Inv.A Try.f93.results.toList (bodyOf Try.f93) (([(.int .u64 p : Value), (.int .u64 a : Value)] : List Value) ++ List.replicate (10 - ([(.int .u64 p : Value), (.int .u64 a : Value)] : List Value).length) undef) H R := by kernel_rfl
  exact call_of_sx fits bodies mixed Try.func93 (c := bodyOf Try.f93) (by kernel_rfl) Try.ntmps93 juntoref01_Inv.A (by kernel_rfl) (e.mp h)

end Go.Proofs.Ytlhcaangdenoaaa.Sh

namespace Go.Proofs.Ytlhcaangdenoaaa.Sh
open Go.Sx Go.Lf

/-! juntoref01_Is -/
def juntoref01_Is.C (p : Nat) (K : Bool → Prop) : Prop :=
  ∀ (Z : Nat → Prop) (H : Heap), ∀ (pv : Int), pv = (p : Int) → ∀ KK : Value → Heap → Prop,
    (∀ (Z' : Nat → Prop) (H' : Heap), Ext H H' → Old Z H Z' → ∀ (r0 : Bool), K r0 → KK (.bool r0) H') →
    CallH P N.juntoref01_Is [.int .u64 pv] H KK
def juntoref01_Is.Q (p : Nat) (K : Bool → Prop) : Prop :=
  cond (decide ((p : Int) < 3)) (K false)
   (cond (decide ((p : Int) > 65537)) (K false)
   (LoopQ (τ := Nat) 2 fun t nextQ =>
  cond (decide ((IntKind.u64.wrap ((t : Int) * (t : Int))) ≤ (p : Int))) ((t : Int) ≠ 0 ∧ cond ((Int.tmod (p : Int) (t : Int)) == 0) (K false)
   (nextQ ((IntKind.u64.wrap ((t : Int) + 1)).toNat)))
   (K true)))
theorem juntoref01_Is.q {p : Nat} {K : Bool → Prop} (q : juntoref01_Is.Q p K) : juntoref01_Is.C p K := by
  intro Z H pv he KK hk
  cases he
  apply juntoref01_Is.ok
  unfold juntoref01_Is.W
  unfold juntoref01_Is.Q at q
  obtain ⟨σ, hz, hσ⟩ := tags Z
  have hs : Stp ([] : List Nat) σ H σ H := Stp.refl _ _ _
  clear hz
  refine condI (fun q => ?_) (fun q => ?_) q
  · exact hk (Zt σ) _ (hs.ext hσ) (hs.old hσ) _ q
  · refine condI (fun q => ?_) (fun q => ?_) q
    · exact hk (Zt σ) _ (hs.ext hσ) (hs.old hσ) _ q
    · refine LoopI.ofQ q (fun t_ s_ hp_ => ∃ (σ_ : Nat → Nat) (x0_ : Int), Stp [] σ H σ_ hp_ ∧ x0_ = s_ ∧ x0_ = ((t_ : Nat) : Int)) (fun h k => h _ _ k) ⟨_, _, Stp.refl _ _ _, rfl, rfl⟩ ?_
      rintro t _ _ H_ next nextQ ⟨xσ, x, st, rfl, rfl⟩ q hnext
      try dsimp only at q ⊢
      replace hs := hs.trans st
      have sl0 := st
      refine condI (fun q => ?_) (fun q => ?_) q
      · obtain ⟨q2, q⟩ := q
        refine ⟨q2, ?_⟩
        refine condI (fun q => ?_) (fun q => ?_) q
        · exact hk (Zt xσ) _ (hs.ext hσ) (hs.old hσ) _ q
        · exact hnext ((IntKind.u64.wrap ((t : Int) + 1)).toNat) _ _ ⟨_, _, sl0, rfl, (natEq (nnw _))⟩ q
      · exact hk (Zt xσ) _ (hs.ext hσ) (hs.old hσ) _ q

/-! juntoref01_Within -/
def juntoref01_Within.C (p : Nat) (l : (List Nat)) (K : Int → Prop) : Prop :=
  ∀ (Z : Nat → Prop) (H : Heap), ∀ (pv : Int), pv = (p : Int) → ∀ (lA : Option Addr) (ln lc : Nat), ln = l.length → SlF u64L Z H lA lc l → ∀ KK : Value → Heap → Prop,
    (∀ (Z' : Nat → Prop) (H' : Heap), Ext H H' → Old Z H Z' → ∀ (r0 : Int), K r0 → KK (.int .i64 r0) H') →
    CallH P N.juntoref01_Within [.int .u64 pv, .slice lA ln lc] H KK
def juntoref01_Within.Q (p : Nat) (l : (List Nat)) (K : Int → Prop) : Prop :=
  LoopQ (τ := Int) 0 fun t nextQ =>
  cond (decide (t < ((l.length : Nat) : Int))) (0 ≤ t ∧ ∃ x : Nat, l[Int.toNat t]? = some x ∧ cond (decide ((x : Int) ≥ (p : Int))) (K 2)
   (nextQ (IntKind.i64.wrap (t + 1))))
   (K 0)
theorem juntoref01_Within.q {p : Nat} {l : (List Nat)} {K : Int → Prop} (q : juntoref01_Within.Q p l K) : juntoref01_Within.C p l K := by
  intro Z H pv he lA ln lc hn f KK hk
  cases he
  cases hn
  apply juntoref01_Within.ok
  unfold juntoref01_Within.W
  unfold juntoref01_Within.Q at q
  obtain ⟨σ, hz, hσ⟩ := tags Z
  have hs : Stp ([] : List Nat) σ H σ H := Stp.refl _ _ _
  replace f := f.wide hz
  clear hz
  refine LoopI.ofQ q (fun t_ s_ hp_ => ∃ (σ_ : Nat → Nat), Stp [] σ H σ_ hp_ ∧ t_ = s_) (fun h k => h _ _ k) ⟨_, Stp.refl _ _ _, rfl⟩ ?_
  rintro t _ _ H_ next nextQ ⟨xσ, st, rfl⟩ q hnext
  try dsimp only at q ⊢
  replace f := f.step st
  replace hs := hs.trans st
  have sl0 := st
  refine condI (fun q => ?_) (fun q => ?_) q
  · obtain ⟨h0, x, hx, q⟩ := q
    obtain ⟨a, ha, hi⟩ := f.addr h0 hx rfl
    refine ⟨a, ha, hi.1, hi.2, ?_⟩
    have hc := f.ldu ha h0 hx
    refine ⟨_, hc.val, ?_⟩
    refine condI (fun q => ?_) (fun q => ?_) q
    · exact hk (Zt xσ) _ (hs.ext hσ) (hs.old hσ) _ q
    · exact hnext (IntKind.i64.wrap (t + 1)) _ _ ⟨_, sl0, rfl⟩ q
  · exact hk (Zt xσ) _ (hs.ext hσ) (hs.old hσ) _ q

/-! juntoref01_Same -/
def juntoref01_Same.C (a : (List Nat)) (b : (List Nat)) (K : Bool → Prop) : Prop :=
  ∀ (Z : Nat → Prop) (H : Heap), ∀ (aA : Option Addr) (an ac : Nat), an = a.length → SlF u64L Z H aA ac a → ∀ (bA : Option Addr) (bn bc : Nat), bn = b.length → SlF u64L Z H bA bc b → ∀ KK : Value → Heap → Prop,
    (∀ (Z' : Nat → Prop) (H' : Heap), Ext H H' → Old Z H Z' → ∀ (r0 : Bool), K r0 → KK (.bool r0) H') →
    CallH P N.juntoref01_Same [.slice aA an ac, .slice bA bn bc] H KK
def juntoref01_Same.Q (a : (List Nat)) (b : (List Nat)) (K : Bool → Prop) : Prop :=
  cond (((a.length : Nat) : Int) != ((b.length : Nat) : Int)) (K false)
   (LoopQ (τ := Int) 0 fun t nextQ =>
  cond (decide (t < ((a.length : Nat) : Int))) (0 ≤ t ∧ ∃ x : Nat, a[Int.toNat t]? = some x ∧ 0 ≤ t ∧ ∃ x2 : Nat, b[Int.toNat t]? = some x2 ∧ cond ((x : Int) != (x2 : Int)) (K false)
   (nextQ (IntKind.i64.wrap (t + 1))))
   (K true))
theorem juntoref01_Same.q {a : (List Nat)} {b : (List Nat)} {K : Bool → Prop} (q : juntoref01_Same.Q a b K) : juntoref01_Same.C a b K := by
  intro Z H aA an ac hn f bA bn bc hn2 f2 KK hk
  cases hn
  cases hn2
  apply juntoref01_Same.ok
  unfold juntoref01_Same.W
  unfold juntoref01_Same.Q at q
  obtain ⟨σ, hz, hσ⟩ := tags Z
  have hs : Stp ([] : List Nat) σ H σ H := Stp.refl _ _ _
  replace f := f.wide hz
  replace f2 := f2.wide hz
  clear hz
  refine condI (fun q => ?_) (fun q => ?_) q
  · exact hk (Zt σ) _ (hs.ext hσ) (hs.old hσ) _ q
  · refine LoopI.ofQ q (fun t_ s_ hp_ => ∃ (σ_ : Nat → Nat), Stp [] σ H σ_ hp_ ∧ t_ = s_) (fun h k => h _ _ k) ⟨_, Stp.refl _ _ _, rfl⟩ ?_
    rintro t _ _ H_ next nextQ ⟨xσ, st, rfl⟩ q hnext
    try dsimp only at q ⊢
    replace f := f.step st
    replace f2 := f2.step st
    replace hs := hs.trans st
    have sl0 := st
    refine condI (fun q => ?_) (fun q => ?_) q
    · obtain ⟨h0, x, hx, q⟩ := q
      obtain ⟨a2, ha, hi⟩ := f.addr h0 hx rfl
      refine ⟨a2, ha, hi.1, hi.2, ?_⟩
      obtain ⟨h02, x2, hx2, q⟩ := q
      obtain ⟨a3, ha2, hi2⟩ := f2.addr h02 hx2 rfl
      refine ⟨a3, ha2, hi2.1, hi2.2, ?_⟩
      have hc := f.ldu ha h0 hx
      refine ⟨_, hc.val, ?_⟩
      have hc2 := f2.ldu ha2 h02 hx2
      refine ⟨_, hc2.val, ?_⟩
      refine condI (fun q => ?_) (fun q => ?_) q
      · exact hk (Zt xσ) _ (hs.ext hσ) (hs.old hσ) _ q
      · exact hnext (IntKind.i64.wrap (t + 1)) _ _ ⟨_, sl0, rfl⟩ q
    · exact hk (Zt xσ) _ (hs.ext hσ) (hs.old hσ) _ q

/-! juntoref01_Draw -/
def juntoref01_Draw.C (p : Nat) (tape : (List Nat)) (n : Int) (K : (List Nat) → (List Nat) → Prop) : Prop :=
  ∀ (Z : Nat → Prop) (H : Heap), ∀ (pv : Int), pv = (p : Int) → ∀ (tapeA : Option Addr) (tapen tapec : Nat), tapen = tape.length → SlF u64L Z H tapeA tapec tape → ∀ KK : Value → Heap → Prop,
    (∀ (Z' : Nat → Prop) (H' : Heap), Ext H H' → Old Z H Z' → ∀ (r0 : (List Nat)), ∀ (Y0 : Nat → Prop), (∀ i, Y0 i → H.size ≤ i ∧ ¬ Z' i) → ∀ (Ar0_0 : Option Addr) (nr0_0 cr0_0 : Nat), nr0_0 = r0.length → SlO (rdM u64L) 22 Z' Y0 H' Ar0_0 cr0_0 r0 → ∀ (r1 : (List Nat)), ∀ (Y1 : Nat → Prop), (∀ i, Y1 i → H.size ≤ i ∧ ¬ Z' i) → ∀ (Ar1_0 : Option Addr) (nr1_0 cr1_0 : Nat), nr1_0 = r1.length → SlO (rdM u64L) 22 Z' Y1 H' Ar1_0 cr1_0 r1 → (∀ i, Y0 i → ¬ Y1 i) → K r0 r1 → KK (.tuple #[.slice Ar0_0 nr0_0 cr0_0, .slice Ar1_0 nr1_0 cr1_0]) H') →
    CallH P N.juntoref01_Draw [.int .u64 pv, .slice tapeA tapen tapec, .int .i64 n] H KK
def juntoref01_Draw.Q (p : Nat) (tape : (List Nat)) (n : Int) (K : (List Nat) → (List Nat) → Prop) : Prop :=
  MakeOk 8 n ∧ LoopQ (τ := Int × List Nat) (0, (List.replicate (Int.toNat n) 0)) fun t nextQ =>
  cond (decide (t.1 < n)) (cond (decide (t.1 < ((tape.length : Nat) : Int))) (0 ≤ t.1 ∧ ∃ x : Nat, tape[Int.toNat t.1]? = some x ∧ (p : Int) ≠ 0 ∧ 0 ≤ t.1 ∧ t.1 < ((Int.toNat n : Nat) : Int) ∧ nextQ (IntKind.i64.wrap (t.1 + 1), (List.set t.2 (Int.toNat t.1) ((Int.tmod (x : Int) (p : Int)).toNat))))
   (0 ≤ (if ((tape.length : Nat) : Int) < n then ((tape.length : Nat) : Int) else n) ∧ (if ((tape.length : Nat) : Int) < n then ((tape.length : Nat) : Int) else n) ≤ ((tape.length : Nat) : Int) ∧ AppOk 8 ([] ++ (List.drop (Int.toNat (if ((tape.length : Nat) : Int) < n then ((tape.length : Nat) : Int) else n)) tape)).length ∧ K t.2 (List.drop (Int.toNat (if ((tape.length : Nat) : Int) < n then ((tape.length : Nat) : Int) else n)) tape)))
   (0 ≤ (if ((tape.length : Nat) : Int) < n then ((tape.length : Nat) : Int) else n) ∧ (if ((tape.length : Nat) : Int) < n then ((tape.length : Nat) : Int) else n) ≤ ((tape.length : Nat) : Int) ∧ AppOk 8 ([] ++ (List.drop (Int.toNat (if ((tape.length : Nat) : Int) < n then ((tape.length : Nat) : Int) else n)) tape)).length ∧ K t.2 (List.drop (Int.toNat (if ((tape.length : Nat) : Int) < n then ((tape.length : Nat) : Int) else n)) tape))
theorem juntoref01_Draw.q {p : Nat} {tape : (List Nat)} {n : Int} {K : (List Nat) → (List Nat) → Prop} (q : juntoref01_Draw.Q p tape n K) : juntoref01_Draw.C p tape n K := by
  intro Z H pv he tapeA tapen tapec hn f KK hk
  cases he
  cases hn
  apply juntoref01_Draw.ok
  unfold juntoref01_Draw.W
  unfold juntoref01_Draw.Q at q
  obtain ⟨σ, hz, hσ⟩ := tags Z
  have hs : Stp ([1, 2, 3] : List Nat) σ H σ H := Stp.refl _ _ _
  replace f := f.wide hz
  clear hz
  obtain ⟨q2, q⟩ := q
  refine ⟨q2.1, Int.le_refl _, q2.w1, q2.w2, NewH.mk fun H_ e => ?_⟩
  obtain ⟨xσ, st, f2⟩ := SlO.made (O := (rdM u64L)) σ 1 e (u64_zero) q2.len
  replace f := f.step st
  replace hs := hs.trans st
  refine LoopI.ofQ q (fun t_ s_ hp_ => ∃ (σ_ : Nat → Nat), Stp [1] xσ H_ σ_ hp_ ∧ t_.1 = s_ ∧ t_.2.length = (List.replicate (Int.toNat n) 0).length ∧ SlO (rdM u64L) 22 (Zt σ_) (Yt σ_ 1) hp_ (some (Addr.mk H.size 0 none)) (Int.toNat n) t_.2) (fun h k => h _ _ k) ⟨_, Stp.refl _ _ _, rfl, rfl, f2⟩ ?_
  rintro t _ _ H_2 next nextQ ⟨xσ2, st2, rfl, hl, f2⟩ q hnext
  try dsimp only at q ⊢
  replace f := f.step st2
  replace hs := hs.trans st2
  have sl1 := st2
  refine condI (fun q => ?_) (fun q => ?_) q
  · refine condI (fun q => ?_) (fun q => ?_) q
    · obtain ⟨h0, x, hx, q⟩ := q
      obtain ⟨a, ha, hi⟩ := f.addr h0 hx rfl
      refine ⟨a, ha, hi.1, hi.2, ?_⟩
      have hc := f.ldu ha h0 hx
      refine ⟨_, hc.val, ?_⟩
      obtain ⟨q3, q⟩ := q
      refine ⟨q3, ?_⟩
      obtain ⟨h02, hi3, q⟩ := q
      obtain ⟨a2, ha2, hi2⟩ := f2.addr h02 ((rl_len _ _).trans hl.symm) hi3
      refine ⟨a2, ha2, hi2.1, hi2.2, ?_⟩
      have w := fun v hr => SlO.set1 (v := v) (y := (Int.tmod (x : Int) (p : Int)).toNat) f2 rfl ha2 h02 (lt_of_n ((rl_len _ _).trans hl.symm) hi3) hr
      refine ⟨(w _ (u64_rep (nnr (nnc _) _))).1, NewH.mk fun H_3 e2 => ?_⟩
      obtain ⟨st3, f2⟩ := (w _ (u64_rep (nnr (nnc _) _))).2 H_3 e2
      replace f := f.step st3
      replace hc := hc.step st3
      replace hs := hs.trans st3
      replace sl1 := sl1.trans st3
      exact hnext (IntKind.i64.wrap (t.1 + 1), (List.set t.2 (Int.toNat t.1) ((Int.tmod (x : Int) (p : Int)).toNat))) _ _ ⟨_, sl1, rfl, (set_back ((rl_len _ _).trans hl.symm) (set_len ((rl_len _ _).trans hl.symm)) hl), f2⟩ q
    · refine NewH.mk fun H_4 e3 => ?_
      obtain ⟨xσ3, st4, f3⟩ := SlO.lit (E := u64L) xσ2 2 (xs := []) (l := []) e3 rfl .nil (show (0 : Nat) ≤ 17592186044416 by decide)
      replace f := f.step st4
      replace f2 := f2.step st4
      replace hs := hs.trans st4
      obtain ⟨q4, q5, q⟩ := q
      have f4 := f.from (l := Int.toNat (if ((tape.length : Nat) : Int) < n then ((tape.length : Nat) : Int) else n)) (k := 1) (upto_le rfl q5) rfl
      refine ⟨q4, q5, ?_⟩
      obtain ⟨q6, q⟩ := q
      refine SlO.appF f3 f4 rfl rfl q6.l q6.r rfl (drop_len rfl) (fun A c H_5 xσ4 st5 f3_ => ?_)
      replace f3 := f3_
      replace f := f.step st5
      replace f2 := f2.step st5
      replace f4 := f4.step st5
      replace hs := hs.trans st5
      have f5 := SlO.nilapp f3; clear f3
      exact hk (Zt xσ4) _ (hs.ext hσ) (hs.old hσ) _ (Yt xσ4 1) (hs.fresh hσ) _ _ _ ((rl_len _ _).trans hl.symm) f2 _ (Yt xσ4 2) (hs.fresh hσ) _ _ _ rfl f5 Yt.apart q
  · refine NewH.mk fun H_6 e4 => ?_
    obtain ⟨xσ5, st6, f6⟩ := SlO.lit (E := u64L) xσ2 3 (xs := []) (l := []) e4 rfl .nil (show (0 : Nat) ≤ 17592186044416 by decide)
    replace f := f.step st6
    replace f2 := f2.step st6
    replace hs := hs.trans st6
    obtain ⟨q7, q8, q⟩ := q
    have f7 := f.from (l := Int.toNat (if ((tape.length : Nat) : Int) < n then ((tape.length : Nat) : Int) else n)) (k := 1) (upto_le rfl q8) rfl
    refine ⟨q7, q8, ?_⟩
    obtain ⟨q9, q⟩ := q
    refine SlO.appF f6 f7 rfl rfl q9.l q9.r rfl (drop_len rfl) (fun A2 c2 H_7 xσ6 st7 f6_ => ?_)
    replace f6 := f6_
    replace f := f.step st7
    replace f2 := f2.step st7
    replace f7 := f7.step st7
    replace hs := hs.trans st7
    have f8 := SlO.nilapp f6; clear f6
    exact hk (Zt xσ6) _ (hs.ext hσ) (hs.old hσ) _ (Yt xσ6 1) (hs.fresh hσ) _ _ _ ((rl_len _ _).trans hl.symm) f2 _ (Yt xσ6 3) (hs.fresh hσ) _ _ _ rfl f8 Yt.apart q

/-! juntoref01_Mul -/
def juntoref01_Mul.C (p : Nat) (a : Nat) (b : Nat) (K : Nat → Prop) : Prop :=
  ∀ (Z : Nat → Prop) (H : Heap), ∀ (pv : Int), pv = (p : Int) → ∀ (av : Int), av = (a : Int) → ∀ (bv : Int), bv = (b : Int) → ∀ KK : Value → Heap → Prop,
    (∀ (Z' : Nat → Prop) (H' : Heap), Ext H H' → Old Z H Z' → ∀ (r0 : Nat), ∀ (r0v0 : Int), r0v0 = (r0 : Int) → K r0 → KK (.int .u64 r0v0) H') →
    CallH P N.juntoref01_Mul [.int .u64 pv, .int .u64 av, .int .u64 bv] H KK
def juntoref01_Mul.Q (p : Nat) (a : Nat) (b : Nat) (K : Nat → Prop) : Prop :=
  (p : Int) ≠ 0 ∧ K ((Int.tmod (IntKind.u64.wrap ((a : Int) * (b : Int))) (p : Int)).toNat)
theorem juntoref01_Mul.q {p : Nat} {a : Nat} {b : Nat} {K : Nat → Prop} (q : juntoref01_Mul.Q p a b K) : juntoref01_Mul.C p a b K := by
  intro Z H pv he av he2 bv he3 KK hk
  cases he
  cases he2
  cases he3
  apply juntoref01_Mul.ok
  unfold juntoref01_Mul.W
  unfold juntoref01_Mul.Q at q
  obtain ⟨σ, hz, hσ⟩ := tags Z
  have hs : Stp ([] : List Nat) σ H σ H := Stp.refl _ _ _
  clear hz
  obtain ⟨q2, q⟩ := q
  refine ⟨q2, ?_⟩
  exact hk (Zt σ) _ (hs.ext hσ) (hs.old hσ) _ _ (natEq (nnr (nnw _) _)) q

/-! juntoref01_Pow -/
def juntoref01_Pow.C (p : Nat) (a : Nat) (e : Nat) (K : Nat → Prop) : Prop :=
  ∀ (Z : Nat → Prop) (H : Heap), ∀ (pv : Int), pv = (p : Int) → ∀ (av : Int), av = (a : Int) → ∀ (ev : Int), ev = (e : Int) → ∀ KK : Value → Heap → Prop,
    (∀ (Z' : Nat → Prop) (H' : Heap), Ext H H' → Old Z H Z' → ∀ (r0 : Nat), ∀ (r0v0 : Int), r0v0 = (r0 : Int) → K r0 → KK (.int .u64 r0v0) H') →
    CallH P N.juntoref01_Pow [.int .u64 pv, .int .u64 av, .int .u64 ev] H KK
def juntoref01_Pow.Q (p : Nat) (a : Nat) (e : Nat) (K : Nat → Prop) : Prop :=
  cond ((e : Int) == 0) (K 1)
   ((2 : Int) ≠ 0 ∧ juntoref01_Pow.C p a ((IntKind.u64.wrap (Int.tdiv (e : Int) 2)).toNat) (fun (x : Nat) =>
  juntoref01_Mul.C p x x (fun (x2 : Nat) =>
  (2 : Int) ≠ 0 ∧ cond ((Int.tmod (e : Int) 2) == 1) (juntoref01_Mul.C p x2 a (fun (x3 : Nat) =>
  K x3))
   (K x2))))
theorem juntoref01_Pow.q {p : Nat} {a : Nat} {e : Nat} {K : Nat → Prop} (q : juntoref01_Pow.Q p a e K) : juntoref01_Pow.C p a e K := by
  intro Z H pv he av he2 ev he3 KK hk
  cases he
  cases he2
  cases he3
  apply juntoref01_Pow.ok
  unfold juntoref01_Pow.W
  unfold juntoref01_Pow.Q at q
  obtain ⟨σ, hz, hσ⟩ := tags Z
  have hs : Stp ([] : List Nat) σ H σ H := Stp.refl _ _ _
  clear hz
  refine condI (fun q => ?_) (fun q => ?_) q
  · exact hk (Zt σ) _ (hs.ext hσ) (hs.old hσ) _ _ rfl q
  · obtain ⟨q3, q⟩ := q
    refine ⟨q3, ?_⟩
    refine q (Zt σ) H _ rfl _ rfl _ (natEq (nnw _)) _ (fun Z2 H_ hE hO x v he4 q => ?_)
    obtain ⟨xσ, st⟩ := call0 hE σ
    cases he4
    replace hs := hs.trans st
    refine ⟨_, rfl, ?_⟩
    refine q (Zt xσ) H_ _ rfl _ rfl _ rfl _ (fun Z3 H_2 hE2 hO2 x2 v2 he5 q => ?_)
    obtain ⟨xσ2, st2⟩ := call0 hE2 xσ
    cases he5
    replace hs := hs.trans st2
    refine ⟨_, rfl, ?_⟩
    obtain ⟨q2, q⟩ := q
    refine ⟨q2, ?_⟩
    refine condI (fun q => ?_) (fun q => ?_) q
    · refine q (Zt xσ2) H_2 _ rfl _ rfl _ rfl _ (fun Z4 H_3 hE3 hO3 x3 v3 he6 q => ?_)
      obtain ⟨xσ3, st3⟩ := call0 hE3 xσ2
      cases he6
      replace hs := hs.trans st3
      refine ⟨_, rfl, ?_⟩
      exact hk (Zt xσ3) _ (hs.ext hσ) (hs.old hσ) _ _ rfl q
    · exact hk (Zt xσ2) _ (hs.ext hσ) (hs.old hσ) _ _ rfl q

/-! juntoref01_Add -/
def juntoref01_Add.C (p : Nat) (a : Nat) (b : Nat) (K : Nat → Prop) : Prop :=
  ∀ (Z : Nat → Prop) (H : Heap), ∀ (pv : Int), pv = (p : Int) → ∀ (av : Int), av = (a : Int) → ∀ (bv : Int), bv = (b : Int) → ∀ KK : Value → Heap → Prop,
    (∀ (Z' : Nat → Prop) (H' : Heap), Ext H H' → Old Z H Z' → ∀ (r0 : Nat), ∀ (r0v0 : Int), r0v0 = (r0 : Int) → K r0 → KK (.int .u64 r0v0) H') →
    CallH P N.juntoref01_Add [.int .u64 pv, .int .u64 av, .int .u64 bv] H KK
def juntoref01_Add.Q (p : Nat) (a : Nat) (b : Nat) (K : Nat → Prop) : Prop :=
  (p : Int) ≠ 0 ∧ K ((Int.tmod (IntKind.u64.wrap ((a : Int) + (b : Int))) (p : Int)).toNat)
theorem juntoref01_Add.q {p : Nat} {a : Nat} {b : Nat} {K : Nat → Prop} (q : juntoref01_Add.Q p a b K) : juntoref01_Add.C p a b K := by
  intro Z H pv he av he2 bv he3 KK hk
  cases he
  cases he2
  cases he3
  apply juntoref01_Add.ok
  unfold juntoref01_Add.W
  unfold juntoref01_Add.Q at q
  obtain ⟨σ, hz, hσ⟩ := tags Z
  have hs : Stp ([] : List Nat) σ H σ H := Stp.refl _ _ _
  clear hz
  obtain ⟨q2, q⟩ := q
  refine ⟨q2, ?_⟩
  exact hk (Zt σ) _ (hs.ext hσ) (hs.old hσ) _ _ (natEq (nnr (nnw _) _)) q

/-! juntoref01_Inv -/
def juntoref01_Inv.C (p : Nat) (a : Nat) (K : Nat → Prop) : Prop :=
  ∀ (Z : Nat → Prop) (H : Heap), ∀ (pv : Int), pv = (p : Int) → ∀ (av : Int), av = (a : Int) → ∀ KK : Value → Heap → Prop,
    (∀ (Z' : Nat → Prop) (H' : Heap), Ext H H' → Old Z H Z' → ∀ (r0 : Nat), ∀ (r0v0 : Int), r0v0 = (r0 : Int) → K r0 → KK (.int .u64 r0v0) H') →
    CallH P N.juntoref01_Inv [.int .u64 pv, .int .u64 av] H KK
def juntoref01_Inv.Q (p : Nat) (a : Nat) (K : Nat → Prop) : Prop :=
  juntoref01_Pow.C p a ((IntKind.u64.wrap ((p : Int) - 2)).toNat) (fun (x : Nat) =>
  K x)
theorem juntoref01_Inv.q {p : Nat} {a : Nat} {K : Nat → Prop} (q : juntoref01_Inv.Q p a K) : juntoref01_Inv.C p a K := by
  intro Z H pv he av he2 KK hk
  cases he
  cases he2
  apply juntoref01_Inv.ok
  unfold juntoref01_Inv.W
  unfold juntoref01_Inv.Q at q
  obtain ⟨σ, hz, hσ⟩ := tags Z
  have hs : Stp ([] : List Nat) σ H σ H := Stp.refl _ _ _
  clear hz
  refine q (Zt σ) H _ rfl _ rfl _ (natEq (nnw _)) _ (fun Z2 H_ hE hO x v he3 q => ?_)
  obtain ⟨xσ, st⟩ := call0 hE σ
  cases he3
  replace hs := hs.trans st
  refine ⟨_, rfl, ?_⟩
  exact hk (Zt xσ) _ (hs.ext hσ) (hs.old hσ) _ _ rfl q

/-! juntoref01_Sub -/
def juntoref01_Sub.C (p : Nat) (a : Nat) (b : Nat) (K : Nat → Prop) : Prop :=
  ∀ (Z : Nat → Prop) (H : Heap), ∀ (pv : Int), pv = (p : Int) → ∀ (av : Int), av = (a : Int) → ∀ (bv : Int), bv = (b : Int) → ∀ KK : Value → Heap → Prop,
    (∀ (Z' : Nat → Prop) (H' : Heap), Ext H H' → Old Z H Z' → ∀ (r0 : Nat), ∀ (r0v0 : Int), r0v0 = (r0 : Int) → K r0 → KK (.int .u64 r0v0) H') →
    CallH P N.juntoref01_Sub [.int .u64 pv, .int .u64 av, .int .u64 bv] H KK
def juntoref01_Sub.Q (p : Nat) (a : Nat) (b : Nat) (K : Nat → Prop) : Prop :=
  (p : Int) ≠ 0 ∧ K ((Int.tmod (IntKind.u64.wrap ((IntKind.u64.wrap ((a : Int) + (p : Int))) - (b : Int))) (p : Int)).toNat)
theorem juntoref01_Sub.q {p : Nat} {a : Nat} {b : Nat} {K : Nat → Prop} (q : juntoref01_Sub.Q p a b K) : juntoref01_Sub.C p a b K := by
  intro Z H pv he av he2 bv he3 KK hk
  cases he
  cases he2
  cases he3
  apply juntoref01_Sub.ok
  unfold juntoref01_Sub.W
  unfold juntoref01_Sub.Q at q
  obtain ⟨σ, hz, hσ⟩ := tags Z
  have hs : Stp ([] : List Nat) σ H σ H := Stp.refl _ _ _
  clear hz
  obtain ⟨q2, q⟩ := q
  refine ⟨q2, ?_⟩
  exact hk (Zt σ) _ (hs.ext hσ) (hs.old hσ) _ _ (natEq (nnr (nnw _) _)) q

end Go.Proofs.Ytlhcaangdenoaaa.Sh
