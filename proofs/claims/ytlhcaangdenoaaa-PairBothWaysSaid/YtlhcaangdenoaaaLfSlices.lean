import Derived.Test.YtlhcaangdenoaaaLfTypes
import Derived.Test.YtlhcaangdenoaaaShSlices
import Derived.Test.YtlhcaangdenoaaaLfCmp
set_option linter.unusedVariables false
set_option maxRecDepth 100000
namespace Go.Proofs.Ytlhcaangdenoaaa.Sh
open Go.Sx Go.Lf

/-! slices_IndexFunc_uint64uint64 -/
def slices_IndexFunc_uint64uint64.C (s : (List (List Nat))) (f2 : ((List Nat) → (Bool → Prop) → Prop)) (K : Int → Prop) : Prop :=
  ∀ (Z : Nat → Prop) (H : Heap), ∀ (sA : Option Addr) (sn sc : Nat), sn = s.length → SlF (slL u64L) Z H sA sc s → ∀ (fF : Nat) (fa fb : Array Value), Fn58.F Z H fF fa fb f2 → ∀ KK : Value → Heap → Prop,
    (∀ (Z' : Nat → Prop) (H' : Heap), Ext H H' → Old Z H Z' → ∀ (r0 : Int), K r0 → KK (.int .i64 r0) H') →
    CallH P N.slices_IndexFunc_uint64uint64 [.slice sA sn sc, .func (.func fF) fa fb] H KK
def slices_IndexFunc_uint64uint64.Q (s : (List (List Nat))) (f2 : ((List Nat) → (Bool → Prop) → Prop)) (K : Int → Prop) : Prop :=
  LoopQ (τ := Int) 0 fun t nextQ =>
  cond (decide (t < ((s.length : Nat) : Int))) (0 ≤ t ∧ ∃ x : (List Nat), s[Int.toNat t]? = some x ∧ f2 x (fun (x2 : Bool) =>
  cond x2 (K t)
   (nextQ (IntKind.i64.wrap (t + 1)))))
   (K (-1))
theorem slices_IndexFunc_uint64uint64.q {s : (List (List Nat))} {f2 : ((List Nat) → (Bool → Prop) → Prop)} {K : Int → Prop} (q : slices_IndexFunc_uint64uint64.Q s f2 K) : slices_IndexFunc_uint64uint64.C s f2 K := by
  intro Z H sA sn sc hn f fF fa fb f3 KK hk
  cases hn
  apply slices_IndexFunc_uint64uint64.ok
  unfold slices_IndexFunc_uint64uint64.W
  unfold slices_IndexFunc_uint64uint64.Q at q
  obtain ⟨σ, hz, hσ⟩ := tags Z
  have hs : Stp ([] : List Nat) σ H σ H := Stp.refl _ _ _
  replace f := f.wide hz
  replace f3 := f3.wide hz
  clear hz
  refine LoopI.ofQ q (fun t_ s_ hp_ => ∃ (σ_ : Nat → Nat), Stp [] σ H σ_ hp_ ∧ t_ = s_) (fun h k => h _ _ k) ⟨_, Stp.refl _ _ _, rfl⟩ ?_
  rintro t _ _ H_ next nextQ ⟨xσ, st, rfl⟩ q hnext
  try dsimp only at q ⊢
  replace f := f.step st
  replace f3 := f3.step st
  replace hs := hs.trans st
  have sl0 := st
  refine condI (fun q => ?_) (fun q => ?_) q
  · obtain ⟨h0, x, hx, q⟩ := q
    obtain ⟨a, ha, hi⟩ := f.addr h0 hx rfl
    refine ⟨a, ha, hi.1, hi.2, ?_⟩
    obtain ⟨A, c, hc, f4⟩ := f.lds ha h0 hx
    refine ⟨_, _, _, hc.val, ?_⟩
    refine ct f3.1 ?_
    refine f3.2 (Zt xσ) H_ (Fr.refl _ _) _ _ q _ _ _ rfl f4 _ (fun Z2 H_2 hE hO x2 q => ?_)
    obtain ⟨xσ2, st2⟩ := call0 hE xσ
    replace f := f.step st2
    replace f3 := f3.step st2
    replace hc := hc.step st2
    replace f4 := f4.step st2
    replace hs := hs.trans st2
    replace sl0 := sl0.trans st2
    refine ⟨_, rfl, ?_⟩
    refine condI (fun q => ?_) (fun q => ?_) q
    · exact hk (Zt xσ2) _ (hs.ext hσ) (hs.old hσ) _ q
    · exact hnext (IntKind.i64.wrap (t + 1)) _ _ ⟨_, sl0, rfl⟩ q
  · exact hk (Zt xσ) _ (hs.ext hσ) (hs.old hσ) _ q

/-! slices_ContainsFunc_uint64uint64 -/
def slices_ContainsFunc_uint64uint64.C (s : (List (List Nat))) (f2 : ((List Nat) → (Bool → Prop) → Prop)) (K : Bool → Prop) : Prop :=
  ∀ (Z : Nat → Prop) (H : Heap), ∀ (sA : Option Addr) (sn sc : Nat), sn = s.length → SlF (slL u64L) Z H sA sc s → ∀ (fF : Nat) (fa fb : Array Value), Fn58.F Z H fF fa fb f2 → ∀ KK : Value → Heap → Prop,
    (∀ (Z' : Nat → Prop) (H' : Heap), Ext H H' → Old Z H Z' → ∀ (r0 : Bool), K r0 → KK (.bool r0) H') →
    CallH P N.slices_ContainsFunc_uint64uint64 [.slice sA sn sc, .func (.func fF) fa fb] H KK
def slices_ContainsFunc_uint64uint64.Q (s : (List (List Nat))) (f2 : ((List Nat) → (Bool → Prop) → Prop)) (K : Bool → Prop) : Prop :=
  slices_IndexFunc_uint64uint64.C s f2 (fun (x : Int) =>
  K (decide (x ≥ 0)))
theorem slices_ContainsFunc_uint64uint64.q {s : (List (List Nat))} {f2 : ((List Nat) → (Bool → Prop) → Prop)} {K : Bool → Prop} (q : slices_ContainsFunc_uint64uint64.Q s f2 K) : slices_ContainsFunc_uint64uint64.C s f2 K := by
  intro Z H sA sn sc hn f fF fa fb f3 KK hk
  cases hn
  apply slices_ContainsFunc_uint64uint64.ok
  unfold slices_ContainsFunc_uint64uint64.W
  unfold slices_ContainsFunc_uint64uint64.Q at q
  obtain ⟨σ, hz, hσ⟩ := tags Z
  have hs : Stp ([] : List Nat) σ H σ H := Stp.refl _ _ _
  replace f := f.wide hz
  replace f3 := f3.wide hz
  clear hz
  refine q (Zt σ) H _ _ _ rfl f _ _ _ f3 _ (fun Z2 H_ hE hO x q => ?_)
  obtain ⟨xσ, st⟩ := call0 hE σ
  replace f := f.step st
  replace f3 := f3.step st
  replace hs := hs.trans st
  refine ⟨_, rfl, ?_⟩
  exact hk (Zt xσ) _ (hs.ext hσ) (hs.old hσ) _ q

/-! slices_Backward_uint64uint64_1 -/
def slices_Backward_uint64uint64_1.C (yield : (Int → Nat → (Bool → Prop) → Prop)) (c0 : (List Nat)) (K : Unit → Prop) : Prop :=
  ∀ (Z : Nat → Prop) (H : Heap), ∀ (yieldF : Nat) (yielda yieldb : Array Value), Fn162.F Z H yieldF yielda yieldb yield → ∀ (c0P : Addr), PtF (slL u64L) Z H c0P c0 → ∀ KK : Value → Heap → Prop,
    (∀ (Z' : Nat → Prop) (H' : Heap), Ext H H' → Old Z H Z' → K () → KK (.tuple #[]) H') →
    CallH P N.slices_Backward_uint64uint64_1 [.func (.func yieldF) yielda yieldb, .pointer (some c0P)] H KK
def slices_Backward_uint64uint64_1.Q (yield : (Int → Nat → (Bool → Prop) → Prop)) (c0 : (List Nat)) (K : Unit → Prop) : Prop :=
  LoopQ (τ := Int) (IntKind.i64.wrap (((c0.length : Nat) : Int) - 1)) fun t nextQ =>
  cond (decide (t ≥ 0)) (0 ≤ t ∧ ∃ x : Nat, c0[Int.toNat t]? = some x ∧ yield t x (fun (x2 : Bool) =>
  cond (!x2) (K ())
   (nextQ (IntKind.i64.wrap (t - 1)))))
   (K ())
theorem slices_Backward_uint64uint64_1.q {yield : (Int → Nat → (Bool → Prop) → Prop)} {c0 : (List Nat)} {K : Unit → Prop} (q : slices_Backward_uint64uint64_1.Q yield c0 K) : slices_Backward_uint64uint64_1.C yield c0 K := by
  intro Z H yieldF yielda yieldb f c0P f2 KK hk
  apply slices_Backward_uint64uint64_1.ok
  unfold slices_Backward_uint64uint64_1.W
  unfold slices_Backward_uint64uint64_1.Q at q
  obtain ⟨σ, hz, hσ⟩ := tags Z
  have hs : Stp ([] : List Nat) σ H σ H := Stp.refl _ _ _
  replace f := f.wide hz
  replace f2 := f2.wide hz
  clear hz
  obtain ⟨v, hc, hr⟩ := PtF.ld1 f2 rfl
  obtain ⟨A, c, e, f3⟩ := hr
  cases e
  refine ⟨_, _, _, hc.val, ?_⟩
  refine LoopI.ofQ q (fun t_ s_ hp_ => ∃ (σ_ : Nat → Nat), Stp [] σ H σ_ hp_ ∧ t_ = s_) (fun h k => h _ _ k) ⟨_, Stp.refl _ _ _, rfl⟩ ?_
  rintro t _ _ H_ next nextQ ⟨xσ, st, rfl⟩ q hnext
  try dsimp only at q ⊢
  replace f := f.step st
  replace f2 := f2.step st
  replace f3 := f3.step st
  replace hc := hc.step st
  replace hs := hs.trans st
  have sl0 := st
  refine condI (fun q => ?_) (fun q => ?_) q
  · obtain ⟨v2, hc2, hr2⟩ := PtF.ld1 f2 rfl
    obtain ⟨A2, c2, e2, f4⟩ := hr2
    cases e2
    refine ⟨_, _, _, hc2.val, ?_⟩
    obtain ⟨h0, x, hx, q⟩ := q
    obtain ⟨a, ha, hi⟩ := f4.addr h0 hx rfl
    refine ⟨a, ha, hi.1, hi.2, ?_⟩
    have hc3 := f4.ldu ha h0 hx
    refine ⟨_, hc3.val, ?_⟩
    refine ct f.1 ?_
    refine f.2 (Zt xσ) H_ (Fr.refl _ _) _ _ _ q _ rfl _ (fun Z2 H_2 hE hO x2 q => ?_)
    obtain ⟨xσ2, st2⟩ := call0 hE xσ
    replace f := f.step st2
    replace f2 := f2.step st2
    replace f3 := f3.step st2
    replace hc := hc.step st2
    replace f4 := f4.step st2
    replace hc2 := hc2.step st2
    replace hc3 := hc3.step st2
    replace hs := hs.trans st2
    replace sl0 := sl0.trans st2
    refine ⟨_, rfl, ?_⟩
    refine condI (fun q => ?_) (fun q => ?_) q
    · exact hk (Zt xσ2) _ (hs.ext hσ) (hs.old hσ)  q
    · exact hnext (IntKind.i64.wrap (t - 1)) _ _ ⟨_, sl0, rfl⟩ q
  · exact hk (Zt xσ) _ (hs.ext hσ) (hs.old hσ)  q

/-! slices_Index_uint64uint64 -/
def slices_Index_uint64uint64.C (s : (List Nat)) (v : Nat) (K : Int → Prop) : Prop :=
  ∀ (Z : Nat → Prop) (H : Heap), ∀ (sA : Option Addr) (sn sc : Nat), sn = s.length → SlF u64L Z H sA sc s → ∀ (vv : Int), vv = (v : Int) → ∀ KK : Value → Heap → Prop,
    (∀ (Z' : Nat → Prop) (H' : Heap), Ext H H' → Old Z H Z' → ∀ (r0 : Int), K r0 → KK (.int .i64 r0) H') →
    CallH P N.slices_Index_uint64uint64 [.slice sA sn sc, .int .u64 vv] H KK
def slices_Index_uint64uint64.Q (s : (List Nat)) (v : Nat) (K : Int → Prop) : Prop :=
  LoopQ (τ := Int) 0 fun t nextQ =>
  cond (decide (t < ((s.length : Nat) : Int))) (0 ≤ t ∧ ∃ x : Nat, s[Int.toNat t]? = some x ∧ cond ((v : Int) == (x : Int)) (K t)
   (nextQ (IntKind.i64.wrap (t + 1))))
   (K (-1))
theorem slices_Index_uint64uint64.q {s : (List Nat)} {v : Nat} {K : Int → Prop} (q : slices_Index_uint64uint64.Q s v K) : slices_Index_uint64uint64.C s v K := by
  intro Z H sA sn sc hn f vv he KK hk
  cases hn
  cases he
  apply slices_Index_uint64uint64.ok
  unfold slices_Index_uint64uint64.W
  unfold slices_Index_uint64uint64.Q at q
  obtain ⟨σ, hz, hσ⟩ := tags Z
  have hs : Stp ([] : List Nat) σ H σ H := Stp.refl _ _ _
  replace f := f.wide hz
  clear hz
  refine LoopI.ofQ q (fun t_ s_ hp_ => ∃ (σ_ : Nat → Nat), Stp [] σ H σ_ hp_ ∧ t_ = s_) (fun h k => h _ _ k) ⟨_, Stp.refl _ _ _, rfl⟩ ?_
  rintro t _ _ H_ next nextQ ⟨xσ, st, rfl⟩ q hnext
  try dsimp only at q ⊢
  replace f := f.step st
  replace hs := hs.trans st
  have sl0 := st
  refine condI (fun q => ?_) (fun q => ?_) q
  · obtain ⟨h0, x, hx, q⟩ := q
    obtain ⟨a, ha, hi⟩ := f.addr h0 hx rfl
    refine ⟨a, ha, hi.1, hi.2, ?_⟩
    have hc := f.ldu ha h0 hx
    refine ⟨_, hc.val, ?_⟩
    refine condI (fun q => ?_) (fun q => ?_) q
    · exact hk (Zt xσ) _ (hs.ext hσ) (hs.old hσ) _ q
    · exact hnext (IntKind.i64.wrap (t + 1)) _ _ ⟨_, sl0, rfl⟩ q
  · exact hk (Zt xσ) _ (hs.ext hσ) (hs.old hσ) _ q

/-! slices_Contains_uint64uint64 -/
def slices_Contains_uint64uint64.C (s : (List Nat)) (v : Nat) (K : Bool → Prop) : Prop :=
  ∀ (Z : Nat → Prop) (H : Heap), ∀ (sA : Option Addr) (sn sc : Nat), sn = s.length → SlF u64L Z H sA sc s → ∀ (vv : Int), vv = (v : Int) → ∀ KK : Value → Heap → Prop,
    (∀ (Z' : Nat → Prop) (H' : Heap), Ext H H' → Old Z H Z' → ∀ (r0 : Bool), K r0 → KK (.bool r0) H') →
    CallH P N.slices_Contains_uint64uint64 [.slice sA sn sc, .int .u64 vv] H KK
def slices_Contains_uint64uint64.Q (s : (List Nat)) (v : Nat) (K : Bool → Prop) : Prop :=
  slices_Index_uint64uint64.C s v (fun (x : Int) =>
  K (decide (x ≥ 0)))
theorem slices_Contains_uint64uint64.q {s : (List Nat)} {v : Nat} {K : Bool → Prop} (q : slices_Contains_uint64uint64.Q s v K) : slices_Contains_uint64uint64.C s v K := by
  intro Z H sA sn sc hn f vv he KK hk
  cases hn
  cases he
  apply slices_Contains_uint64uint64.ok
  unfold slices_Contains_uint64uint64.W
  unfold slices_Contains_uint64uint64.Q at q
  obtain ⟨σ, hz, hσ⟩ := tags Z
  have hs : Stp ([] : List Nat) σ H σ H := Stp.refl _ _ _
  replace f := f.wide hz
  clear hz
  refine q (Zt σ) H _ _ _ rfl f _ rfl _ (fun Z2 H_ hE hO x q => ?_)
  obtain ⟨xσ, st⟩ := call0 hE σ
  replace f := f.step st
  replace hs := hs.trans st
  refine ⟨_, rfl, ?_⟩
  exact hk (Zt xσ) _ (hs.ext hσ) (hs.old hσ) _ q

/-! slices_Equal_uint64uint64 -/
def slices_Equal_uint64uint64.C (s1 : (List Nat)) (s2 : (List Nat)) (K : Bool → Prop) : Prop :=
  ∀ (Z : Nat → Prop) (H : Heap), ∀ (s1A : Option Addr) (s1n s1c : Nat), s1n = s1.length → SlF u64L Z H s1A s1c s1 → ∀ (s2A : Option Addr) (s2n s2c : Nat), s2n = s2.length → SlF u64L Z H s2A s2c s2 → ∀ KK : Value → Heap → Prop,
    (∀ (Z' : Nat → Prop) (H' : Heap), Ext H H' → Old Z H Z' → ∀ (r0 : Bool), K r0 → KK (.bool r0) H') →
    CallH P N.slices_Equal_uint64uint64 [.slice s1A s1n s1c, .slice s2A s2n s2c] H KK
def slices_Equal_uint64uint64.Q (s1 : (List Nat)) (s2 : (List Nat)) (K : Bool → Prop) : Prop :=
  cond (((s1.length : Nat) : Int) != ((s2.length : Nat) : Int)) (K false)
   (LoopQ (τ := Int) 0 fun t nextQ =>
  cond (decide (t < ((s1.length : Nat) : Int))) (0 ≤ t ∧ ∃ x : Nat, s1[Int.toNat t]? = some x ∧ 0 ≤ t ∧ ∃ x2 : Nat, s2[Int.toNat t]? = some x2 ∧ cond ((x : Int) != (x2 : Int)) (K false)
   (nextQ (IntKind.i64.wrap (t + 1))))
   (K true))
theorem slices_Equal_uint64uint64.q {s1 : (List Nat)} {s2 : (List Nat)} {K : Bool → Prop} (q : slices_Equal_uint64uint64.Q s1 s2 K) : slices_Equal_uint64uint64.C s1 s2 K := by
  intro Z H s1A s1n s1c hn f s2A s2n s2c hn2 f2 KK hk
  cases hn
  cases hn2
  apply slices_Equal_uint64uint64.ok
  unfold slices_Equal_uint64uint64.W
  unfold slices_Equal_uint64uint64.Q at q
  obtain ⟨σ, hz, hσ⟩ := tags Z
  have hs : Stp ([] : List Nat) σ H σ H := Stp.refl _ _ _
  replace f := f.wide hz
  replace f2 := f2.wide hz
  clear hz
  refine condI (fun q => ?_) (fun q => ?_) q
  · exact hk (Zt σ) _ (hs.ext hσ) (hs.old hσ) _ q
  · refine LoopI.ofQ q (fun t_ s_ hp_ => ∃ (σ_ : Nat → Nat), Stp [] σ H σ_ hp_ ∧ t_ = s_) (fun h k => h _ _ k) ⟨_, Stp.refl _ _ _, rfl⟩ ?_
    rintro t _ _ H_ next nextQ ⟨xσ, st, rfl⟩ q hnext
    try dsimp only at q ⊢
    replace f := f.step st
    replace f2 := f2.step st
    replace hs := hs.trans st
    have sl0 := st
    refine condI (fun q => ?_) (fun q => ?_) q
    · obtain ⟨h0, x, hx, q⟩ := q
      obtain ⟨a, ha, hi⟩ := f.addr h0 hx rfl
      refine ⟨a, ha, hi.1, hi.2, ?_⟩
      obtain ⟨h02, x2, hx2, q⟩ := q
      obtain ⟨a2, ha2, hi2⟩ := f2.addr h02 hx2 rfl
      refine ⟨a2, ha2, hi2.1, hi2.2, ?_⟩
      have hc := f.ldu ha h0 hx
      refine ⟨_, hc.val, ?_⟩
      have hc2 := f2.ldu ha2 h02 hx2
      refine ⟨_, hc2.val, ?_⟩
      refine condI (fun q => ?_) (fun q => ?_) q
      · exact hk (Zt xσ) _ (hs.ext hσ) (hs.old hσ) _ q
      · exact hnext (IntKind.i64.wrap (t + 1)) _ _ ⟨_, sl0, rfl⟩ q
    · exact hk (Zt xσ) _ (hs.ext hσ) (hs.old hσ) _ q

/-! slices_Compare_intint -/
def slices_Compare_intint.C (s1 : (List Int)) (s2 : (List Int)) (K : Int → Prop) : Prop :=
  ∀ (Z : Nat → Prop) (H : Heap), ∀ (s1A : Option Addr) (s1n s1c : Nat), s1n = s1.length → SlF i64L Z H s1A s1c s1 → ∀ (s2A : Option Addr) (s2n s2c : Nat), s2n = s2.length → SlF i64L Z H s2A s2c s2 → ∀ KK : Value → Heap → Prop,
    (∀ (Z' : Nat → Prop) (H' : Heap), Ext H H' → Old Z H Z' → ∀ (r0 : Int), K r0 → KK (.int .i64 r0) H') →
    CallH P N.slices_Compare_intint [.slice s1A s1n s1c, .slice s2A s2n s2c] H KK
def slices_Compare_intint.Q (s1 : (List Int)) (s2 : (List Int)) (K : Int → Prop) : Prop :=
  LoopQ (τ := Int) 0 fun t nextQ =>
  cond (decide (t < ((s1.length : Nat) : Int))) (0 ≤ t ∧ ∃ x : Int, s1[Int.toNat t]? = some x ∧ cond (decide (t ≥ ((s2.length : Nat) : Int))) (K 1)
   (0 ≤ t ∧ ∃ x2 : Int, s2[Int.toNat t]? = some x2 ∧ cmp_Compare_int.C x x2 (fun (x3 : Int) =>
  cond (x3 != 0) (K x3)
   (nextQ (IntKind.i64.wrap (t + 1))))))
   (cond (decide (((s1.length : Nat) : Int) < ((s2.length : Nat) : Int))) (K (-1))
   (K 0))
theorem slices_Compare_intint.q {s1 : (List Int)} {s2 : (List Int)} {K : Int → Prop} (q : slices_Compare_intint.Q s1 s2 K) : slices_Compare_intint.C s1 s2 K := by
  intro Z H s1A s1n s1c hn f s2A s2n s2c hn2 f2 KK hk
  cases hn
  cases hn2
  apply slices_Compare_intint.ok
  unfold slices_Compare_intint.W
  unfold slices_Compare_intint.Q at q
  obtain ⟨σ, hz, hσ⟩ := tags Z
  have hs : Stp ([] : List Nat) σ H σ H := Stp.refl _ _ _
  replace f := f.wide hz
  replace f2 := f2.wide hz
  clear hz
  refine LoopI.ofQ q (fun t_ s_ hp_ => ∃ (σ_ : Nat → Nat), Stp [] σ H σ_ hp_ ∧ t_ = s_) (fun h k => h _ _ k) ⟨_, Stp.refl _ _ _, rfl⟩ ?_
  rintro t _ _ H_ next nextQ ⟨xσ, st, rfl⟩ q hnext
  try dsimp only at q ⊢
  replace f := f.step st
  replace f2 := f2.step st
  replace hs := hs.trans st
  have sl0 := st
  refine condI (fun q => ?_) (fun q => ?_) q
  · obtain ⟨h0, x, hx, q⟩ := q
    obtain ⟨a, ha, hi⟩ := f.addr h0 hx rfl
    refine ⟨a, ha, hi.1, hi.2, ?_⟩
    have hc := f.ldi ha h0 hx
    refine ⟨_, hc.val, ?_⟩
    refine condI (fun q => ?_) (fun q => ?_) q
    · exact hk (Zt xσ) _ (hs.ext hσ) (hs.old hσ) _ q
    · obtain ⟨h02, x2, hx2, q⟩ := q
      obtain ⟨a2, ha2, hi2⟩ := f2.addr h02 hx2 rfl
      refine ⟨a2, ha2, hi2.1, hi2.2, ?_⟩
      have hc2 := f2.ldi ha2 h02 hx2
      refine ⟨_, hc2.val, ?_⟩
      refine q (Zt xσ) H_  _ (fun Z2 H_2 hE hO x3 q => ?_)
      obtain ⟨xσ2, st2⟩ := call0 hE xσ
      replace f := f.step st2
      replace f2 := f2.step st2
      replace hc := hc.step st2
      replace hc2 := hc2.step st2
      replace hs := hs.trans st2
      replace sl0 := sl0.trans st2
      refine ⟨_, rfl, ?_⟩
      refine condI (fun q => ?_) (fun q => ?_) q
      · exact hk (Zt xσ2) _ (hs.ext hσ) (hs.old hσ) _ q
      · exact hnext (IntKind.i64.wrap (t + 1)) _ _ ⟨_, sl0, rfl⟩ q
  · refine condI (fun q => ?_) (fun q => ?_) q
    · exact hk (Zt xσ) _ (hs.ext hσ) (hs.old hσ) _ q
    · exact hk (Zt xσ) _ (hs.ext hσ) (hs.old hσ) _ q

end Go.Proofs.Ytlhcaangdenoaaa.Sh
