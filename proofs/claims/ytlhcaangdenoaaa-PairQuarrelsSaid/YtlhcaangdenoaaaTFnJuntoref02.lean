import Derived.Test.YtlhcaangdenoaaaTTypes
import Derived.Test.YtlhcaangdenoaaaTFnJuntoref01
namespace Go.Lf
end Go.Lf
namespace Go.Sx
end Go.Sx
set_option linter.unusedVariables false
set_option linter.unusedSimpArgs false
set_option maxRecDepth 100000
namespace Go.Proofs.Ytlhcaangdenoaaa.Sh
open Go.Sx
def juntoref02_Eval.A : Ann where
  loops := fun i => match i with
    | 12295 => [(7, .int .u64), (8, .int .u64), (13, .int .i64)]
    | _ => []
  plans := fun i => match i with
    | _ => .stop
def juntoref02_Eval.W (p : Int) (fA : Option Addr) (fn fc : Nat) (x : Int) (H : Heap) (R : Value → Heap → Prop) : Prop :=
  LoopI (σ := Int × Int × Int) (fun κ => κ (0, 1, 0) H) fun s z H_ next =>
  cond (decide (s.2.2 < ((fn : Nat) : Int))) (∃ a : Addr, fA = some a ∧ 0 ≤ s.2.2 ∧ s.2.2 < ((fn : Nat) : Int) ∧ ∃ x2 : Int, cellH H_ (a.add (Int.toNat s.2.2)) = some (.int .u64 x2) ∧ CallH P N.juntoref01_Mul [.int .u64 p, .int .u64 x2, .int .u64 s.2.1] H_ fun v H_2 =>
  ∃ r : Int, v = .int .u64 r ∧ CallH P N.juntoref01_Add [.int .u64 p, .int .u64 s.1, .int .u64 r] H_2 fun v2 H_3 =>
  ∃ r2 : Int, v2 = .int .u64 r2 ∧ CallH P N.juntoref01_Mul [.int .u64 p, .int .u64 s.2.1, .int .u64 x] H_3 fun v3 H_4 =>
  ∃ r3 : Int, v3 = .int .u64 r3 ∧ next (r2, r3, IntKind.i64.wrap (s.2.2 + 1)) H_4)
   (R (.int .u64 s.1) H_)
theorem juntoref02_Eval.ok (p : Int) (fA : Option Addr) (fn fc : Nat) (x : Int) (H : Heap) (R : Value → Heap → Prop) (h : juntoref02_Eval.W p fA fn fc x H R) : CallH P N.juntoref02_Eval ([.int .u64 p, .slice fA fn fc, .int .u64 x] : List Value) H R := by
  have e : juntoref02_Eval.W p fA fn fc x H R = sxFn P T Sh.R nf juntoref02_Eval.A Try.f41.results.toList (bodyOf Try.f41) (([(.int .u64 p : Value), (.slice fA fn fc : Value), (.int .u64 x : Value)] : List Value) ++ List.replicate (30 - ([(.int .u64 p : Value), (.slice fA fn fc : Value), (.int .u64 x : Value)] : List Value).length) undef) H R := by kernel_rfl
  exact call_of_sx fits bodies mixed Try.func41 (c := bodyOf Try.f41) (by kernel_rfl) Try.ntmps41 juntoref02_Eval.A (by kernel_rfl) (e.mp h)
def juntoref02_Twice.A : Ann where
  loops := fun i => match i with
    | 8201 => [(7, .int .i64)]
    | 20486 => [(4, .int .i64)]
    | _ => []
  plans := fun i => match i with
    | 7 => .first 0 (.first 1 (.first 2 (.first 4 (.first 5 (.first 6 (.read 3 (.read 7 (.first 8 (.done)))))))))
    | _ => .stop
def juntoref02_Twice.W (lA : Option Addr) (ln lc : Nat) (H : Heap) (R : Value → Heap → Prop) : Prop :=
  LoopI (σ := Int) (fun κ => κ 0 H) fun s z H_ next =>
  cond (decide (s < ((ln : Nat) : Int))) (LoopI (σ := Int) (fun κ => κ 0 H_) fun s2 z2 H_2 next2 =>
  cond (decide (s2 < s)) (∃ a : Addr, lA = some a ∧ 0 ≤ s ∧ s < ((ln : Nat) : Int) ∧ ∃ a2 : Addr, lA = some a2 ∧ 0 ≤ s2 ∧ s2 < ((ln : Nat) : Int) ∧ ∃ x : Int, cellH H_2 (a.add (Int.toNat s)) = some (.int .u64 x) ∧ ∃ x2 : Int, cellH H_2 (a2.add (Int.toNat s2)) = some (.int .u64 x2) ∧ cond (x == x2) (R (.bool true) H_2)
   (next2 (IntKind.i64.wrap (s2 + 1)) H_2))
   (next (IntKind.i64.wrap (s + 1)) H_2))
   (R (.bool false) H_)
theorem juntoref02_Twice.ok (lA : Option Addr) (ln lc : Nat) (H : Heap) (R : Value → Heap → Prop) (h : juntoref02_Twice.W lA ln lc H R) : CallH P N.juntoref02_Twice ([.slice lA ln lc] : List Value) H R := by
  have e : juntoref02_Twice.W lA ln lc H R = sxFn P T Sh.R nf juntoref02_Twice.A Try.f42.results.toList (bodyOf Try.f42) (([(.slice lA ln lc : Value)] : List Value) ++ List.replicate (25 - ([(.slice lA ln lc : Value)] : List Value).length) undef) H R := by kernel_rfl
  exact call_of_sx fits bodies mixed Try.func42 (c := bodyOf Try.f42) (by kernel_rfl) Try.ntmps42 juntoref02_Twice.A (by kernel_rfl) (e.mp h)
def juntoref02_Within.A : Ann where
  loops := fun i => match i with
    | _ => []
  plans := fun i => match i with
    | _ => .stop
def juntoref02_Within.W (p : Int) (fA : Option Addr) (fn fc : Nat) (H : Heap) (R : Value → Heap → Prop) : Prop :=
  cond (decide (((fn : Nat) : Int) > 201)) (R (.int .i64 3) H)
   (CallH P N.juntoref01_Within [.int .u64 p, .slice fA fn fc] H fun v H_ =>
  ∃ r : Int, v = .int .i64 r ∧ R (.int .i64 r) H_)
theorem juntoref02_Within.ok (p : Int) (fA : Option Addr) (fn fc : Nat) (H : Heap) (R : Value → Heap → Prop) (h : juntoref02_Within.W p fA fn fc H R) : CallH P N.juntoref02_Within ([.int .u64 p, .slice fA fn fc] : List Value) H R := by
  have e : juntoref02_Within.W p fA fn fc H R = sxFn P T Sh.R nf juntoref02_Within.A Try.f104.results.toList (bodyOf Try.f104) (([(.int .u64 p : Value), (.slice fA fn fc : Value)] : List Value) ++ List.replicate (11 - ([(.int .u64 p : Value), (.slice fA fn fc : Value)] : List Value).length) undef) H R := by kernel_rfl
  exact call_of_sx fits bodies mixed Try.func104 (c := bodyOf Try.f104) (by kernel_rfl) Try.ntmps104 juntoref02_Within.A (by kernel_rfl) (e.mp h)
end Go.Proofs.Ytlhcaangdenoaaa.Sh
namespace Go.Proofs.Ytlhcaangdenoaaa.Sh
open Go.Sx Go.Lf
def juntoref02_Eval.C (p : Nat) (f : (List Nat)) (x : Nat) (K : Nat → Prop) : Prop :=
  ∀ (Z : Nat → Prop) (H : Heap), ∀ (pv : Int), pv = (p : Int) → ∀ (fA : Option Addr) (fn fc : Nat), fn = f.length → SlF u64L Z H fA fc f → ∀ (xv : Int), xv = (x : Int) → ∀ KK : Value → Heap → Prop,
    (∀ (Z' : Nat → Prop) (H' : Heap), Ext H H' → Old Z H Z' → ∀ (r0 : Nat), ∀ (r0v0 : Int), r0v0 = (r0 : Int) → K r0 → KK (.int .u64 r0v0) H') →
    CallH P N.juntoref02_Eval [.int .u64 pv, .slice fA fn fc, .int .u64 xv] H KK
def juntoref02_Eval.Q (p : Nat) (f : (List Nat)) (x : Nat) (K : Nat → Prop) : Prop :=
  LoopQ (τ := Nat × Nat × Int) (0, 1, 0) fun t nextQ =>
  cond (decide (t.2.2 < ((f.length : Nat) : Int))) (0 ≤ t.2.2 ∧ ∃ x4 : Nat, f[Int.toNat t.2.2]? = some x4 ∧ juntoref01_Mul.C p x4 t.2.1 (fun (x5 : Nat) =>
  juntoref01_Add.C p t.1 x5 (fun (x6 : Nat) =>
  juntoref01_Mul.C p t.2.1 x (fun (x7 : Nat) =>
  nextQ (x6, x7, IntKind.i64.wrap (t.2.2 + 1))))))
   (K t.1)
theorem juntoref02_Eval.q {p : Nat} {f : (List Nat)} {x : Nat} {K : Nat → Prop} (q : juntoref02_Eval.Q p f x K) : juntoref02_Eval.C p f x K := by
  intro Z H pv he fA fn fc hn f2 xv he2 KK hk
  cases he
  cases hn
  cases he2
  apply juntoref02_Eval.ok
  unfold juntoref02_Eval.W
  unfold juntoref02_Eval.Q at q
  obtain ⟨σ, hz, hσ⟩ := tags Z
  have hs : Stp ([] : List Nat) σ H σ H := Stp.refl _ _ _
  replace f2 := f2.wide hz
  clear hz
  refine LoopI.ofQ q (fun t_ s_ hp_ => ∃ (σ_ : Nat → Nat) (x0_ : Int) (x1_ : Int), Stp [] σ H σ_ hp_ ∧ (x0_, x1_, t_.2.2) = s_ ∧ x0_ = ((t_.1 : Nat) : Int) ∧ x1_ = ((t_.2.1 : Nat) : Int)) (fun h k => h _ _ k) ⟨_, _, _, Stp.refl _ _ _, rfl, rfl, rfl⟩ ?_
  rintro t _ _ H_ next nextQ ⟨xσ, x2, x3, st, rfl, rfl, rfl⟩ q hnext
  try dsimp only at q ⊢
  replace f2 := f2.step st
  replace hs := hs.trans st
  have sl0 := st
  refine condI (fun q => ?_) (fun q => ?_) q
  · obtain ⟨h0, x4, hx, q⟩ := q
    obtain ⟨a, ha, hi⟩ := f2.addr h0 hx rfl
    refine ⟨a, ha, hi.1, hi.2, ?_⟩
    have hc := f2.ldu ha h0 hx
    refine ⟨_, hc.val, ?_⟩
    refine q (Zt xσ) H_ _ rfl _ rfl _ rfl _ (fun Z2 H_2 hE hO x5 v he3 q => ?_)
    obtain ⟨xσ2, st2⟩ := call0 hE xσ
    cases he3
    replace f2 := f2.step st2
    replace hc := hc.step st2
    replace hs := hs.trans st2
    replace sl0 := sl0.trans st2
    refine ⟨_, rfl, ?_⟩
    refine q (Zt xσ2) H_2 _ rfl _ rfl _ rfl _ (fun Z3 H_3 hE2 hO2 x6 v2 he4 q => ?_)
    obtain ⟨xσ3, st3⟩ := call0 hE2 xσ2
    cases he4
    replace f2 := f2.step st3
    replace hc := hc.step st3
    replace hs := hs.trans st3
    replace sl0 := sl0.trans st3
    refine ⟨_, rfl, ?_⟩
    refine q (Zt xσ3) H_3 _ rfl _ rfl _ rfl _ (fun Z4 H_4 hE3 hO3 x7 v3 he5 q => ?_)
    obtain ⟨xσ4, st4⟩ := call0 hE3 xσ3
    cases he5
    replace f2 := f2.step st4
    replace hc := hc.step st4
    replace hs := hs.trans st4
    replace sl0 := sl0.trans st4
    refine ⟨_, rfl, ?_⟩
    exact hnext (x6, x7, IntKind.i64.wrap (t.2.2 + 1)) _ _ ⟨_, _, _, sl0, rfl, rfl, rfl⟩ q
  · exact hk (Zt xσ) _ (hs.ext hσ) (hs.old hσ) _ _ rfl q
def juntoref02_Twice.C (l : (List Nat)) (K : Bool → Prop) : Prop :=
  ∀ (Z : Nat → Prop) (H : Heap), ∀ (lA : Option Addr) (ln lc : Nat), ln = l.length → SlF u64L Z H lA lc l → ∀ KK : Value → Heap → Prop,
    (∀ (Z' : Nat → Prop) (H' : Heap), Ext H H' → Old Z H Z' → ∀ (r0 : Bool), K r0 → KK (.bool r0) H') →
    CallH P N.juntoref02_Twice [.slice lA ln lc] H KK
def juntoref02_Twice.Q (l : (List Nat)) (K : Bool → Prop) : Prop :=
  LoopQ (τ := Int) 0 fun t nextQ =>
  cond (decide (t < ((l.length : Nat) : Int))) (LoopQ (τ := Int) 0 fun t2 nextQ2 =>
  cond (decide (t2 < t)) (0 ≤ t ∧ ∃ x : Nat, l[Int.toNat t]? = some x ∧ 0 ≤ t2 ∧ ∃ x2 : Nat, l[Int.toNat t2]? = some x2 ∧ cond ((x : Int) == (x2 : Int)) (K true)
   (nextQ2 (IntKind.i64.wrap (t2 + 1))))
   (nextQ (IntKind.i64.wrap (t + 1))))
   (K false)
theorem juntoref02_Twice.q {l : (List Nat)} {K : Bool → Prop} (q : juntoref02_Twice.Q l K) : juntoref02_Twice.C l K := by
  intro Z H lA ln lc hn f KK hk
  cases hn
  apply juntoref02_Twice.ok
  unfold juntoref02_Twice.W
  unfold juntoref02_Twice.Q at q
  obtain ⟨σ, hz, hσ⟩ := tags Z
  have hs : Stp ([] : List Nat) σ H σ H := Stp.refl _ _ _
  replace f := f.wide hz
  clear hz
  refine LoopI.ofQ q (fun t_ s_ hp_ => ∃ (σ_ : Nat → Nat), Stp [] σ H σ_ hp_ ∧ t_ = s_) (fun h k => h _ _ k) ⟨_, Stp.refl _ _ _, rfl⟩ ?_
  rintro t _ _ H_ next nextQ ⟨xσ, st, rfl⟩ q hnext
  try dsimp only at q ⊢
  replace f := f.step st
  replace hs := hs.trans st
  have sl0 := st
  refine condI (fun q => ?_) (fun q => ?_) q
  · refine LoopI.ofQ q (fun t_ s_ hp_ => ∃ (σ_ : Nat → Nat), Stp [] xσ H_ σ_ hp_ ∧ t_ = s_) (fun h k => h _ _ k) ⟨_, Stp.refl _ _ _, rfl⟩ ?_
    rintro t2 _ _ H_2 next2 nextQ2 ⟨xσ2, st2, rfl⟩ q hnext2
    try dsimp only at q ⊢
    replace f := f.step st2
    replace hs := hs.trans st2
    replace sl0 := sl0.trans st2
    have sl1 := st2
    refine condI (fun q => ?_) (fun q => ?_) q
    · obtain ⟨h0, x, hx, q⟩ := q
      obtain ⟨a, ha, hi⟩ := f.addr h0 hx rfl
      refine ⟨a, ha, hi.1, hi.2, ?_⟩
      obtain ⟨h02, x2, hx2, q⟩ := q
      obtain ⟨a2, ha2, hi2⟩ := f.addr h02 hx2 rfl
      refine ⟨a2, ha2, hi2.1, hi2.2, ?_⟩
      have hc := f.ldu ha h0 hx
      refine ⟨_, hc.val, ?_⟩
      have hc2 := f.ldu ha2 h02 hx2
      refine ⟨_, hc2.val, ?_⟩
      refine condI (fun q => ?_) (fun q => ?_) q
      · exact hk (Zt xσ2) _ (hs.ext hσ) (hs.old hσ) _ q
      · exact hnext2 (IntKind.i64.wrap (t2 + 1)) _ _ ⟨_, sl1, rfl⟩ q
    · exact hnext (IntKind.i64.wrap (t + 1)) _ _ ⟨_, sl0, rfl⟩ q
  · exact hk (Zt xσ) _ (hs.ext hσ) (hs.old hσ) _ q
def juntoref02_Within.C (p : Nat) (f : (List Nat)) (K : Int → Prop) : Prop :=
  ∀ (Z : Nat → Prop) (H : Heap), ∀ (pv : Int), pv = (p : Int) → ∀ (fA : Option Addr) (fn fc : Nat), fn = f.length → SlF u64L Z H fA fc f → ∀ KK : Value → Heap → Prop,
    (∀ (Z' : Nat → Prop) (H' : Heap), Ext H H' → Old Z H Z' → ∀ (r0 : Int), K r0 → KK (.int .i64 r0) H') →
    CallH P N.juntoref02_Within [.int .u64 pv, .slice fA fn fc] H KK
def juntoref02_Within.Q (p : Nat) (f : (List Nat)) (K : Int → Prop) : Prop :=
  cond (decide (((f.length : Nat) : Int) > 201)) (K 3)
   (juntoref01_Within.C p f (fun (x : Int) =>
  K x))
theorem juntoref02_Within.q {p : Nat} {f : (List Nat)} {K : Int → Prop} (q : juntoref02_Within.Q p f K) : juntoref02_Within.C p f K := by
  intro Z H pv he fA fn fc hn f2 KK hk
  cases he
  cases hn
  apply juntoref02_Within.ok
  unfold juntoref02_Within.W
  unfold juntoref02_Within.Q at q
  obtain ⟨σ, hz, hσ⟩ := tags Z
  have hs : Stp ([] : List Nat) σ H σ H := Stp.refl _ _ _
  replace f2 := f2.wide hz
  clear hz
  refine condI (fun q => ?_) (fun q => ?_) q
  · exact hk (Zt σ) _ (hs.ext hσ) (hs.old hσ) _ q
  · refine q (Zt σ) H _ rfl _ _ _ rfl f2 _ (fun Z2 H_ hE hO x q => ?_)
    obtain ⟨xσ, st⟩ := call0 hE σ
    replace f2 := f2.step st
    replace hs := hs.trans st
    refine ⟨_, rfl, ?_⟩
    exact hk (Zt xσ) _ (hs.ext hσ) (hs.old hσ) _ q
end Go.Proofs.Ytlhcaangdenoaaa.Sh
