import Derived.Test.YtlhcaangdenoaaaUTypes
namespace Go.Lf
end Go.Lf
namespace Go.Sx
end Go.Sx
set_option linter.unusedVariables false
set_option linter.unusedSimpArgs false
set_option maxRecDepth 100000
namespace Go.Proofs.Ytlhcaangdenoaaa.Sh
open Go.Sx
def slices_ContainsFunc_uint64uint64.A : Ann where
  loops := fun i => match i with
    | _ => []
  plans := fun i => match i with
    | _ => .stop
def slices_ContainsFunc_uint64uint64.W (sA : Option Addr) (sn sc : Nat) (ff : Nat) (fa fb : Array Value) (H : Heap) (R : Value → Heap → Prop) : Prop :=
  CallH P N.slices_IndexFunc_uint64uint64 [.slice sA sn sc, .func (.func ff) fa fb] H fun v H_ =>
  ∃ r : Int, v = .int .i64 r ∧ R (.bool (decide (r ≥ 0))) H_
theorem slices_ContainsFunc_uint64uint64.ok (sA : Option Addr) (sn sc : Nat) (ff : Nat) (fa fb : Array Value) (H : Heap) (R : Value → Heap → Prop) (h : slices_ContainsFunc_uint64uint64.W sA sn sc ff fa fb H R) : CallH P N.slices_ContainsFunc_uint64uint64 ([.slice sA sn sc, .func (.func ff) fa fb] : List Value) H R := by
  have e : slices_ContainsFunc_uint64uint64.W sA sn sc ff fa fb H R = sxFn P T Sh.R nf slices_ContainsFunc_uint64uint64.A Try.f77.results.toList (bodyOf Try.f77) (([(.slice sA sn sc : Value), (.func (.func ff) fa fb : Value)] : List Value) ++ List.replicate (9 - ([(.slice sA sn sc : Value), (.func (.func ff) fa fb : Value)] : List Value).length) undef) H R := by kernel_rfl
  exact call_of_sx fits bodies mixed Try.func77 (c := bodyOf Try.f77) (by kernel_rfl) Try.ntmps77 slices_ContainsFunc_uint64uint64.A (by kernel_rfl) (e.mp h)
def slices_Equal_uint64uint64.A : Ann where
  loops := fun i => match i with
    | 16392 => [(13, .int .i64)]
    | _ => []
  plans := fun i => match i with
    | 6 => .first 0 (.first 1 (.first 2 (.first 4 (.first 5 (.first 6 (.read 3 (.read 7 (.first 8 (.done)))))))))
    | _ => .stop
def slices_Equal_uint64uint64.W (s1A : Option Addr) (s1n s1c : Nat) (s2A : Option Addr) (s2n s2c : Nat) (H : Heap) (R : Value → Heap → Prop) : Prop :=
  cond (((s1n : Nat) : Int) != ((s2n : Nat) : Int)) (R (.bool false) H)
   (LoopI (σ := Int) (fun κ => κ 0 H) fun s z H_ next =>
  cond (decide (s < ((s1n : Nat) : Int))) (∃ a : Addr, s1A = some a ∧ 0 ≤ s ∧ s < ((s1n : Nat) : Int) ∧ ∃ a2 : Addr, s2A = some a2 ∧ 0 ≤ s ∧ s < ((s2n : Nat) : Int) ∧ ∃ x : Int, cellH H_ (a.add (Int.toNat s)) = some (.int .u64 x) ∧ ∃ x2 : Int, cellH H_ (a2.add (Int.toNat s)) = some (.int .u64 x2) ∧ cond (x != x2) (R (.bool false) H_)
   (next (IntKind.i64.wrap (s + 1)) H_))
   (R (.bool true) H_))
theorem slices_Equal_uint64uint64.ok (s1A : Option Addr) (s1n s1c : Nat) (s2A : Option Addr) (s2n s2c : Nat) (H : Heap) (R : Value → Heap → Prop) (h : slices_Equal_uint64uint64.W s1A s1n s1c s2A s2n s2c H R) : CallH P N.slices_Equal_uint64uint64 ([.slice s1A s1n s1c, .slice s2A s2n s2c] : List Value) H R := by
  have e : slices_Equal_uint64uint64.W s1A s1n s1c s2A s2n s2c H R = sxFn P T Sh.R nf slices_Equal_uint64uint64.A Try.f102.results.toList (bodyOf Try.f102) (([(.slice s1A s1n s1c : Value), (.slice s2A s2n s2c : Value)] : List Value) ++ List.replicate (26 - ([(.slice s1A s1n s1c : Value), (.slice s2A s2n s2c : Value)] : List Value).length) undef) H R := by kernel_rfl
  exact call_of_sx fits bodies mixed Try.func102 (c := bodyOf Try.f102) (by kernel_rfl) Try.ntmps102 slices_Equal_uint64uint64.A (by kernel_rfl) (e.mp h)
def slices_IndexFunc_uint64uint64.A : Ann where
  loops := fun i => match i with
    | 8198 => [(8, .int .i64)]
    | _ => []
  plans := fun i => match i with
    | _ => .stop
def slices_IndexFunc_uint64uint64.W (sA : Option Addr) (sn sc : Nat) (ff : Nat) (fa fb : Array Value) (H : Heap) (R : Value → Heap → Prop) : Prop :=
  LoopI (σ := Int) (fun κ => κ 0 H) fun s z H_ next =>
  cond (decide (s < ((sn : Nat) : Int))) (∃ a : Addr, sA = some a ∧ 0 ≤ s ∧ s < ((sn : Nat) : Int) ∧ ∃ (xA : Option Addr) (xn xc : Nat), cellH H_ (a.add (Int.toNat s)) = some (.slice xA xn xc) ∧ cond (hasB nf ff) (CallH P ff (fa.toList ++ [.slice xA xn xc] ++ fb.toList) H_ fun v H_2 =>
  ∃ r : Bool, v = .bool r ∧ cond r (R (.int .i64 s) H_2)
   (next (IntKind.i64.wrap (s + 1)) H_2)) False)
   (R (.int .i64 (-1)) H_)
theorem slices_IndexFunc_uint64uint64.ok (sA : Option Addr) (sn sc : Nat) (ff : Nat) (fa fb : Array Value) (H : Heap) (R : Value → Heap → Prop) (h : slices_IndexFunc_uint64uint64.W sA sn sc ff fa fb H R) : CallH P N.slices_IndexFunc_uint64uint64 ([.slice sA sn sc, .func (.func ff) fa fb] : List Value) H R := by
  have e : slices_IndexFunc_uint64uint64.W sA sn sc ff fa fb H R = sxFn P T Sh.R nf slices_IndexFunc_uint64uint64.A Try.f109.results.toList (bodyOf Try.f109) (([(.slice sA sn sc : Value), (.func (.func ff) fa fb : Value)] : List Value) ++ List.replicate (19 - ([(.slice sA sn sc : Value), (.func (.func ff) fa fb : Value)] : List Value).length) undef) H R := by kernel_rfl
  exact call_of_sx fits bodies mixed Try.func109 (c := bodyOf Try.f109) (by kernel_rfl) Try.ntmps109 slices_IndexFunc_uint64uint64.A (by kernel_rfl) (e.mp h)
def slices_Clone_uint64uint64.A : Ann where
  loops := fun i => match i with
    | _ => []
  plans := fun i => match i with
    | _ => .stop
def slices_Clone_uint64uint64.W (sA : Option Addr) (sn sc : Nat) (H : Heap) (R : Value → Heap → Prop) : Prop :=
  cond (Option.isNone sA) (R (.slice none 0 0) H)
   (NewH (H.push (.cells #[] 22 (0, 0))) fun H_ =>
  AppendV 22 1 8 [.int .u64 0] H_ (some (Addr.mk H.size 0 none)) 0 0 sA sn fun vA vn vc H_2 =>
  R (.slice vA vn vc) H_2)
theorem slices_Clone_uint64uint64.ok (sA : Option Addr) (sn sc : Nat) (H : Heap) (R : Value → Heap → Prop) (h : slices_Clone_uint64uint64.W sA sn sc H R) : CallH P N.slices_Clone_uint64uint64 ([.slice sA sn sc] : List Value) H R := by
  have e : slices_Clone_uint64uint64.W sA sn sc H R = sxFn P T Sh.R nf slices_Clone_uint64uint64.A Try.f117.results.toList (bodyOf Try.f117) (([(.slice sA sn sc : Value)] : List Value) ++ List.replicate (8 - ([(.slice sA sn sc : Value)] : List Value).length) undef) H R := by kernel_rfl
  exact call_of_sx fits bodies mixed Try.func117 (c := bodyOf Try.f117) (by kernel_rfl) Try.ntmps117 slices_Clone_uint64uint64.A (by kernel_rfl) (e.mp h)
def slices_Contains_uint64uint64.A : Ann where
  loops := fun i => match i with
    | _ => []
  plans := fun i => match i with
    | _ => .stop
def slices_Contains_uint64uint64.W (sA : Option Addr) (sn sc : Nat) (v : Int) (H : Heap) (R : Value → Heap → Prop) : Prop :=
  CallH P N.slices_Index_uint64uint64 [.slice sA sn sc, .int .u64 v] H fun v2 H_ =>
  ∃ r : Int, v2 = .int .i64 r ∧ R (.bool (decide (r ≥ 0))) H_
theorem slices_Contains_uint64uint64.ok (sA : Option Addr) (sn sc : Nat) (v : Int) (H : Heap) (R : Value → Heap → Prop) (h : slices_Contains_uint64uint64.W sA sn sc v H R) : CallH P N.slices_Contains_uint64uint64 ([.slice sA sn sc, .int .u64 v] : List Value) H R := by
  have e : slices_Contains_uint64uint64.W sA sn sc v H R = sxFn P T Sh.R nf slices_Contains_uint64uint64.A Try.f124.results.toList (bodyOf Try.f124) (([(.slice sA sn sc : Value), (.int .u64 v : Value)] : List Value) ++ List.replicate (9 - ([(.slice sA sn sc : Value), (.int .u64 v : Value)] : List Value).length) undef) H R := by kernel_rfl
  exact call_of_sx fits bodies mixed Try.func124 (c := bodyOf Try.f124) (by kernel_rfl) Try.ntmps124 slices_Contains_uint64uint64.A (by kernel_rfl) (e.mp h)
def slices_Index_uint64uint64.A : Ann where
  loops := fun i => match i with
    | 8198 => [(8, .int .i64)]
    | _ => []
  plans := fun i => match i with
    | _ => .stop
def slices_Index_uint64uint64.W (sA : Option Addr) (sn sc : Nat) (v : Int) (H : Heap) (R : Value → Heap → Prop) : Prop :=
  LoopI (σ := Int) (fun κ => κ 0 H) fun s z H_ next =>
  cond (decide (s < ((sn : Nat) : Int))) (∃ a : Addr, sA = some a ∧ 0 ≤ s ∧ s < ((sn : Nat) : Int) ∧ ∃ x : Int, cellH H_ (a.add (Int.toNat s)) = some (.int .u64 x) ∧ cond (v == x) (R (.int .i64 s) H_)
   (next (IntKind.i64.wrap (s + 1)) H_))
   (R (.int .i64 (-1)) H_)
theorem slices_Index_uint64uint64.ok (sA : Option Addr) (sn sc : Nat) (v : Int) (H : Heap) (R : Value → Heap → Prop) (h : slices_Index_uint64uint64.W sA sn sc v H R) : CallH P N.slices_Index_uint64uint64 ([.slice sA sn sc, .int .u64 v] : List Value) H R := by
  have e : slices_Index_uint64uint64.W sA sn sc v H R = sxFn P T Sh.R nf slices_Index_uint64uint64.A Try.f140.results.toList (bodyOf Try.f140) (([(.slice sA sn sc : Value), (.int .u64 v : Value)] : List Value) ++ List.replicate (19 - ([(.slice sA sn sc : Value), (.int .u64 v : Value)] : List Value).length) undef) H R := by kernel_rfl
  exact call_of_sx fits bodies mixed Try.func140 (c := bodyOf Try.f140) (by kernel_rfl) Try.ntmps140 slices_Index_uint64uint64.A (by kernel_rfl) (e.mp h)
end Go.Proofs.Ytlhcaangdenoaaa.Sh
namespace Go.Proofs.Ytlhcaangdenoaaa.Sh
open Go.Sx Go.Lf
def slices_IndexFunc_uint64uint64.C (s : (List (List Nat))) (f2 : ((List Nat) → (Bool → Prop) → Prop)) (K : Int → Prop) : Prop :=
  ∀ (Z : Nat → Prop) (H : Heap), ∀ (sA : Option Addr) (sn sc : Nat), sn = s.length → SlF (slL u64L) Z H sA sc s → ∀ (fF : Nat) (fa fb : Array Value), Fn58.F Z H fF fa fb f2 → ∀ KK : Value → Heap → Prop,
    (∀ (Z' : Nat → Prop) (H' : Heap), Ext H H' → Old Z H Z' → ∀ (r0 : Int), K r0 → KK (.int .i64 r0) H') →
    CallH P N.slices_IndexFunc_uint64uint64 [.slice sA sn sc, .func (.func fF) fa fb] H KK
def slices_IndexFunc_uint64uint64.Q (s : (List (List Nat))) (f2 : ((List Nat) → (Bool → Prop) → Prop)) (K : Int → Prop) : Prop :=
  LoopQ (τ := Int) 0 fun t nextQ =>
  cond (decide (t < ((s.length : Nat) : Int))) (0 ≤ t ∧ ∃ x : (List Nat), s[Int.toNat t]? = some x ∧ f2 x (fun (x2 : Bool) =>
  cond x2 (K t)
   (nextQ (IntKind.i64.wrap (t + 1)))))
   (K (-1))
theorem slices_IndexFunc_uint64uint64.q {s : (List (List Nat))} {f2 : ((List Nat) → (Bool → Prop) → Prop)} {K : Int → Prop} (q : slices_IndexFunc_uint64uint64.Q s f2 K) : slices_IndexFunc_uint64uint64.C s f2 K := by
  intro Z H sA sn sc hn f fF fa fb f3 KK hk
  cases hn
  apply slices_IndexFunc_uint64uint64.ok
  unfold slices_IndexFunc_uint64uint64.W
  unfold slices_IndexFunc_uint64uint64.Q at q
  obtain ⟨σ, hz, hσ⟩ := tags Z
  have hs : Stp ([] : List Nat) σ H σ H := Stp.refl _ _ _
  replace f := f.wide hz
  replace f3 := f3.wide hz
  clear hz
  refine LoopI.ofQ q (fun t_ s_ hp_ => ∃ (σ_ : Nat → Nat), Stp [] σ H σ_ hp_ ∧ t_ = s_) (fun h k => h _ _ k) ⟨_, Stp.refl _ _ _, rfl⟩ ?_
  rintro t _ _ H_ next nextQ ⟨xσ, st, rfl⟩ q hnext
  try dsimp only at q ⊢
  replace f := f.step st
  replace f3 := f3.step st
  replace hs := hs.trans st
  have sl0 := st
  refine condI (fun q => ?_) (fun q => ?_) q
  · obtain ⟨h0, x, hx, q⟩ := q
    obtain ⟨a, ha, hi⟩ := f.addr h0 hx rfl
    refine ⟨a, ha, hi.1, hi.2, ?_⟩
    obtain ⟨A, c, hc, f4⟩ := f.lds ha h0 hx
    refine ⟨_, _, _, hc.val, ?_⟩
    refine ct f3.1 ?_
    refine f3.2 (Zt xσ) H_ (Fr.refl _ _) _ _ q _ _ _ rfl f4 _ (fun Z2 H_2 hE hO x2 q => ?_)
    obtain ⟨xσ2, st2⟩ := call0 hE xσ
    replace f := f.step st2
    replace f3 := f3.step st2
    replace hc := hc.step st2
    replace f4 := f4.step st2
    replace hs := hs.trans st2
    replace sl0 := sl0.trans st2
    refine ⟨_, rfl, ?_⟩
    refine condI (fun q => ?_) (fun q => ?_) q
    · exact hk (Zt xσ2) _ (hs.ext hσ) (hs.old hσ) _ q
    · exact hnext (IntKind.i64.wrap (t + 1)) _ _ ⟨_, sl0, rfl⟩ q
  · exact hk (Zt xσ) _ (hs.ext hσ) (hs.old hσ) _ q
def slices_ContainsFunc_uint64uint64.C (s : (List (List Nat))) (f2 : ((List Nat) → (Bool → Prop) → Prop)) (K : Bool → Prop) : Prop :=
  ∀ (Z : Nat → Prop) (H : Heap), ∀ (sA : Option Addr) (sn sc : Nat), sn = s.length → SlF (slL u64L) Z H sA sc s → ∀ (fF : Nat) (fa fb : Array Value), Fn58.F Z H fF fa fb f2 → ∀ KK : Value → Heap → Prop,
    (∀ (Z' : Nat → Prop) (H' : Heap), Ext H H' → Old Z H Z' → ∀ (r0 : Bool), K r0 → KK (.bool r0) H') →
    CallH P N.slices_ContainsFunc_uint64uint64 [.slice sA sn sc, .func (.func fF) fa fb] H KK
def slices_ContainsFunc_uint64uint64.Q (s : (List (List Nat))) (f2 : ((List Nat) → (Bool → Prop) → Prop)) (K : Bool → Prop) : Prop :=
  slices_IndexFunc_uint64uint64.C s f2 (fun (x : Int) =>
  K (decide (x ≥ 0)))
theorem slices_ContainsFunc_uint64uint64.q {s : (List (List Nat))} {f2 : ((List Nat) → (Bool → Prop) → Prop)} {K : Bool → Prop} (q : slices_ContainsFunc_uint64uint64.Q s f2 K) : slices_ContainsFunc_uint64uint64.C s f2 K := by
  intro Z H sA sn sc hn f fF fa fb f3 KK hk
  cases hn
  apply slices_ContainsFunc_uint64uint64.ok
  unfold slices_ContainsFunc_uint64uint64.W
  unfold slices_ContainsFunc_uint64uint64.Q at q
  obtain ⟨σ, hz, hσ⟩ := tags Z
  have hs : Stp ([] : List Nat) σ H σ H := Stp.refl _ _ _
  replace f := f.wide hz
  replace f3 := f3.wide hz
  clear hz
  refine q (Zt σ) H _ _ _ rfl f _ _ _ f3 _ (fun Z2 H_ hE hO x q => ?_)
  obtain ⟨xσ, st⟩ := call0 hE σ
  replace f := f.step st
  replace f3 := f3.step st
  replace hs := hs.trans st
  refine ⟨_, rfl, ?_⟩
  exact hk (Zt xσ) _ (hs.ext hσ) (hs.old hσ) _ q
def slices_Index_uint64uint64.C (s : (List Nat)) (v : Nat) (K : Int → Prop) : Prop :=
  ∀ (Z : Nat → Prop) (H : Heap), ∀ (sA : Option Addr) (sn sc : Nat), sn = s.length → SlF u64L Z H sA sc s → ∀ (vv : Int), vv = (v : Int) → ∀ KK : Value → Heap → Prop,
    (∀ (Z' : Nat → Prop) (H' : Heap), Ext H H' → Old Z H Z' → ∀ (r0 : Int), K r0 → KK (.int .i64 r0) H') →
    CallH P N.slices_Index_uint64uint64 [.slice sA sn sc, .int .u64 vv] H KK
def slices_Index_uint64uint64.Q (s : (List Nat)) (v : Nat) (K : Int → Prop) : Prop :=
  LoopQ (τ := Int) 0 fun t nextQ =>
  cond (decide (t < ((s.length : Nat) : Int))) (0 ≤ t ∧ ∃ x : Nat, s[Int.toNat t]? = some x ∧ cond ((v : Int) == (x : Int)) (K t)
   (nextQ (IntKind.i64.wrap (t + 1))))
   (K (-1))
theorem slices_Index_uint64uint64.q {s : (List Nat)} {v : Nat} {K : Int → Prop} (q : slices_Index_uint64uint64.Q s v K) : slices_Index_uint64uint64.C s v K := by
  intro Z H sA sn sc hn f vv he KK hk
  cases hn
  cases he
  apply slices_Index_uint64uint64.ok
  unfold slices_Index_uint64uint64.W
  unfold slices_Index_uint64uint64.Q at q
  obtain ⟨σ, hz, hσ⟩ := tags Z
  have hs : Stp ([] : List Nat) σ H σ H := Stp.refl _ _ _
  replace f := f.wide hz
  clear hz
  refine LoopI.ofQ q (fun t_ s_ hp_ => ∃ (σ_ : Nat → Nat), Stp [] σ H σ_ hp_ ∧ t_ = s_) (fun h k => h _ _ k) ⟨_, Stp.refl _ _ _, rfl⟩ ?_
  rintro t _ _ H_ next nextQ ⟨xσ, st, rfl⟩ q hnext
  try dsimp only at q ⊢
  replace f := f.step st
  replace hs := hs.trans st
  have sl0 := st
  refine condI (fun q => ?_) (fun q => ?_) q
  · obtain ⟨h0, x, hx, q⟩ := q
    obtain ⟨a, ha, hi⟩ := f.addr h0 hx rfl
    refine ⟨a, ha, hi.1, hi.2, ?_⟩
    have hc := f.ldu ha h0 hx
    refine ⟨_, hc.val, ?_⟩
    refine condI (fun q => ?_) (fun q => ?_) q
    · exact hk (Zt xσ) _ (hs.ext hσ) (hs.old hσ) _ q
    · exact hnext (IntKind.i64.wrap (t + 1)) _ _ ⟨_, sl0, rfl⟩ q
  · exact hk (Zt xσ) _ (hs.ext hσ) (hs.old hσ) _ q
def slices_Contains_uint64uint64.C (s : (List Nat)) (v : Nat) (K : Bool → Prop) : Prop :=
  ∀ (Z : Nat → Prop) (H : Heap), ∀ (sA : Option Addr) (sn sc : Nat), sn = s.length → SlF u64L Z H sA sc s → ∀ (vv : Int), vv = (v : Int) → ∀ KK : Value → Heap → Prop,
    (∀ (Z' : Nat → Prop) (H' : Heap), Ext H H' → Old Z H Z' → ∀ (r0 : Bool), K r0 → KK (.bool r0) H') →
    CallH P N.slices_Contains_uint64uint64 [.slice sA sn sc, .int .u64 vv] H KK
def slices_Contains_uint64uint64.Q (s : (List Nat)) (v : Nat) (K : Bool → Prop) : Prop :=
  slices_Index_uint64uint64.C s v (fun (x : Int) =>
  K (decide (x ≥ 0)))
theorem slices_Contains_uint64uint64.q {s : (List Nat)} {v : Nat} {K : Bool → Prop} (q : slices_Contains_uint64uint64.Q s v K) : slices_Contains_uint64uint64.C s v K := by
  intro Z H sA sn sc hn f vv he KK hk
  cases hn
  cases he
  apply slices_Contains_uint64uint64.ok
  unfold slices_Contains_uint64uint64.W
  unfold slices_Contains_uint64uint64.Q at q
  obtain ⟨σ, hz, hσ⟩ := tags Z
  have hs : Stp ([] : List Nat) σ H σ H := Stp.refl _ _ _
  replace f := f.wide hz
  clear hz
  refine q (Zt σ) H _ _ _ rfl f _ rfl _ (fun Z2 H_ hE hO x q => ?_)
  obtain ⟨xσ, st⟩ := call0 hE σ
  replace f := f.step st
  replace hs := hs.trans st
  refine ⟨_, rfl, ?_⟩
  exact hk (Zt xσ) _ (hs.ext hσ) (hs.old hσ) _ q
def slices_Equal_uint64uint64.C (s1 : (List Nat)) (s2 : (List Nat)) (K : Bool → Prop) : Prop :=
  ∀ (Z : Nat → Prop) (H : Heap), ∀ (s1A : Option Addr) (s1n s1c : Nat), s1n = s1.length → SlF u64L Z H s1A s1c s1 → ∀ (s2A : Option Addr) (s2n s2c : Nat), s2n = s2.length → SlF u64L Z H s2A s2c s2 → ∀ KK : Value → Heap → Prop,
    (∀ (Z' : Nat → Prop) (H' : Heap), Ext H H' → Old Z H Z' → ∀ (r0 : Bool), K r0 → KK (.bool r0) H') →
    CallH P N.slices_Equal_uint64uint64 [.slice s1A s1n s1c, .slice s2A s2n s2c] H KK
def slices_Equal_uint64uint64.Q (s1 : (List Nat)) (s2 : (List Nat)) (K : Bool → Prop) : Prop :=
  cond (((s1.length : Nat) : Int) != ((s2.length : Nat) : Int)) (K false)
   (LoopQ (τ := Int) 0 fun t nextQ =>
  cond (decide (t < ((s1.length : Nat) : Int))) (0 ≤ t ∧ ∃ x : Nat, s1[Int.toNat t]? = some x ∧ 0 ≤ t ∧ ∃ x2 : Nat, s2[Int.toNat t]? = some x2 ∧ cond ((x : Int) != (x2 : Int)) (K false)
   (nextQ (IntKind.i64.wrap (t + 1))))
   (K true))
theorem slices_Equal_uint64uint64.q {s1 : (List Nat)} {s2 : (List Nat)} {K : Bool → Prop} (q : slices_Equal_uint64uint64.Q s1 s2 K) : slices_Equal_uint64uint64.C s1 s2 K := by
  intro Z H s1A s1n s1c hn f s2A s2n s2c hn2 f2 KK hk
  cases hn
  cases hn2
  apply slices_Equal_uint64uint64.ok
  unfold slices_Equal_uint64uint64.W
  unfold slices_Equal_uint64uint64.Q at q
  obtain ⟨σ, hz, hσ⟩ := tags Z
  have hs : Stp ([] : List Nat) σ H σ H := Stp.refl _ _ _
  replace f := f.wide hz
  replace f2 := f2.wide hz
  clear hz
  refine condI (fun q => ?_) (fun q => ?_) q
  · exact hk (Zt σ) _ (hs.ext hσ) (hs.old hσ) _ q
  · refine LoopI.ofQ q (fun t_ s_ hp_ => ∃ (σ_ : Nat → Nat), Stp [] σ H σ_ hp_ ∧ t_ = s_) (fun h k => h _ _ k) ⟨_, Stp.refl _ _ _, rfl⟩ ?_
    rintro t _ _ H_ next nextQ ⟨xσ, st, rfl⟩ q hnext
    try dsimp only at q ⊢
    replace f := f.step st
    replace f2 := f2.step st
    replace hs := hs.trans st
    have sl0 := st
    refine condI (fun q => ?_) (fun q => ?_) q
    · obtain ⟨h0, x, hx, q⟩ := q
      obtain ⟨a, ha, hi⟩ := f.addr h0 hx rfl
      refine ⟨a, ha, hi.1, hi.2, ?_⟩
      obtain ⟨h02, x2, hx2, q⟩ := q
      obtain ⟨a2, ha2, hi2⟩ := f2.addr h02 hx2 rfl
      refine ⟨a2, ha2, hi2.1, hi2.2, ?_⟩
      have hc := f.ldu ha h0 hx
      refine ⟨_, hc.val, ?_⟩
      have hc2 := f2.ldu ha2 h02 hx2
      refine ⟨_, hc2.val, ?_⟩
      refine condI (fun q => ?_) (fun q => ?_) q
      · exact hk (Zt xσ) _ (hs.ext hσ) (hs.old hσ) _ q
      · exact hnext (IntKind.i64.wrap (t + 1)) _ _ ⟨_, sl0, rfl⟩ q
    · exact hk (Zt xσ) _ (hs.ext hσ) (hs.old hσ) _ q
end Go.Proofs.Ytlhcaangdenoaaa.Sh
