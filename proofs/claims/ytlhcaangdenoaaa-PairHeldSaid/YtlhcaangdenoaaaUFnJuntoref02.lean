import Derived.Test.YtlhcaangdenoaaaUTypes
import Derived.Test.YtlhcaangdenoaaaUFnJuntoref01
namespace Go.Lf
end Go.Lf
namespace Go.Sx
end Go.Sx
set_option linter.unusedVariables false
set_option linter.unusedSimpArgs false
set_option maxRecDepth 100000
namespace Go.Proofs.Ytlhcaangdenoaaa.Sh
open Go.Sx
def juntoref02_Twice.A : Ann where
  loops := fun i => match i with
    | 8201 => [(7, .int .i64)]
    | 20486 => [(4, .int .i64)]
    | _ => []
  plans := fun i => match i with
    | 7 => .first 0 (.first 1 (.first 2 (.first 4 (.first 5 (.first 6 (.read 3 (.read 7 (.first 8 (.done)))))))))
    | _ => .stop
def juntoref02_Twice.W (lA : Option Addr) (ln lc : Nat) (H : Heap) (R : Value → Heap → Prop) : Prop :=
  LoopI (σ := Int) (fun κ => κ 0 H) fun s z H_ next =>
  cond (decide (s < ((ln : Nat) : Int))) (LoopI (σ := Int) (fun κ => κ 0 H_) fun s2 z2 H_2 next2 =>
  cond (decide (s2 < s)) (∃ a : Addr, lA = some a ∧ 0 ≤ s ∧ s < ((ln : Nat) : Int) ∧ ∃ a2 : Addr, lA = some a2 ∧ 0 ≤ s2 ∧ s2 < ((ln : Nat) : Int) ∧ ∃ x : Int, cellH H_2 (a.add (Int.toNat s)) = some (.int .u64 x) ∧ ∃ x2 : Int, cellH H_2 (a2.add (Int.toNat s2)) = some (.int .u64 x2) ∧ cond (x == x2) (R (.bool true) H_2)
   (next2 (IntKind.i64.wrap (s2 + 1)) H_2))
   (next (IntKind.i64.wrap (s + 1)) H_2))
   (R (.bool false) H_)
theorem juntoref02_Twice.ok (lA : Option Addr) (ln lc : Nat) (H : Heap) (R : Value → Heap → Prop) (h : juntoref02_Twice.W lA ln lc H R) : CallH P N.juntoref02_Twice ([.slice lA ln lc] : List Value) H R := by
  have e : juntoref02_Twice.W lA ln lc H R = sxFn P T Sh.R nf juntoref02_Twice.A Try.f42.results.toList (bodyOf Try.f42) (([(.slice lA ln lc : Value)] : List Value) ++ List.replicate (25 - ([(.slice lA ln lc : Value)] : List Value).length) undef) H R := by kernel_rfl
  exact call_of_sx fits bodies mixed Try.func42 (c := bodyOf Try.f42) (by kernel_rfl) Try.ntmps42 juntoref02_Twice.A (by kernel_rfl) (e.mp h)
def juntoref02_Trim.A : Ann where
  loops := fun i => match i with
    | 8195 => [(3, .int .i64)]
    | _ => []
  plans := fun i => match i with
    | _ => .stop
def juntoref02_Trim.W (fA : Option Addr) (fn fc : Nat) (H : Heap) (R : Value → Heap → Prop) : Prop :=
  LoopI (σ := Int) (fun κ => κ ((fn : Nat) : Int) H) fun s z H_ next =>
  cond (decide (s > 0)) (∃ a : Addr, fA = some a ∧ 0 ≤ (IntKind.i64.wrap (s - 1)) ∧ (IntKind.i64.wrap (s - 1)) < ((fn : Nat) : Int) ∧ ∃ x : Int, cellH H_ (a.add (Int.toNat (IntKind.i64.wrap (s - 1)))) = some (.int .u64 x) ∧ cond (x == 0) (next (IntKind.i64.wrap (s - 1)) H_)
   (NewH (H_.push (.cells #[] 22 (0, 0))) fun H_2 =>
  0 ≤ s ∧ s ≤ ((fc : Nat) : Int) ∧ AppendV 22 1 8 [.int .u64 0] H_2 (some (Addr.mk H_.size 0 none)) 0 0 fA (Int.toNat s) fun vA vn vc H_3 =>
  R (.slice vA vn vc) H_3)) (NewH (H_.push (.cells #[] 22 (0, 0))) fun H_4 =>
  0 ≤ s ∧ s ≤ ((fc : Nat) : Int) ∧ AppendV 22 1 8 [.int .u64 0] H_4 (some (Addr.mk H_.size 0 none)) 0 0 fA (Int.toNat s) fun vA2 vn2 vc2 H_5 =>
  R (.slice vA2 vn2 vc2) H_5)
theorem juntoref02_Trim.ok (fA : Option Addr) (fn fc : Nat) (H : Heap) (R : Value → Heap → Prop) (h : juntoref02_Trim.W fA fn fc H R) : CallH P N.juntoref02_Trim ([.slice fA fn fc] : List Value) H R := by
  have e : juntoref02_Trim.W fA fn fc H R = sxFn P T Sh.R nf juntoref02_Trim.A Try.f66.results.toList (bodyOf Try.f66) (([(.slice fA fn fc : Value)] : List Value) ++ List.replicate (23 - ([(.slice fA fn fc : Value)] : List Value).length) undef) H R := by kernel_rfl
  exact call_of_sx fits bodies mixed Try.func66 (c := bodyOf Try.f66) (by kernel_rfl) Try.ntmps66 juntoref02_Trim.A (by kernel_rfl) (e.mp h)
def juntoref02_Within.A : Ann where
  loops := fun i => match i with
    | _ => []
  plans := fun i => match i with
    | _ => .stop
def juntoref02_Within.W (p : Int) (fA : Option Addr) (fn fc : Nat) (H : Heap) (R : Value → Heap → Prop) : Prop :=
  cond (decide (((fn : Nat) : Int) > 201)) (R (.int .i64 3) H)
   (CallH P N.juntoref01_Within [.int .u64 p, .slice fA fn fc] H fun v H_ =>
  ∃ r : Int, v = .int .i64 r ∧ R (.int .i64 r) H_)
theorem juntoref02_Within.ok (p : Int) (fA : Option Addr) (fn fc : Nat) (H : Heap) (R : Value → Heap → Prop) (h : juntoref02_Within.W p fA fn fc H R) : CallH P N.juntoref02_Within ([.int .u64 p, .slice fA fn fc] : List Value) H R := by
  have e : juntoref02_Within.W p fA fn fc H R = sxFn P T Sh.R nf juntoref02_Within.A Try.f104.results.toList (bodyOf Try.f104) (([(.int .u64 p : Value), (.slice fA fn fc : Value)] : List Value) ++ List.replicate (11 - ([(.int .u64 p : Value), (.slice fA fn fc : Value)] : List Value).length) undef) H R := by kernel_rfl
  exact call_of_sx fits bodies mixed Try.func104 (c := bodyOf Try.f104) (by kernel_rfl) Try.ntmps104 juntoref02_Within.A (by kernel_rfl) (e.mp h)
end Go.Proofs.Ytlhcaangdenoaaa.Sh
namespace Go.Proofs.Ytlhcaangdenoaaa.Sh
open Go.Sx Go.Lf
def juntoref02_Trim.C (f : (List Nat)) (K : (List Nat) → Prop) : Prop :=
  ∀ (Z : Nat → Prop) (H : Heap), ∀ (fA : Option Addr) (fn fc : Nat), fn = f.length → SlF u64L Z H fA fc f → ∀ KK : Value → Heap → Prop,
    (∀ (Z' : Nat → Prop) (H' : Heap), Ext H H' → Old Z H Z' → ∀ (r0 : (List Nat)), ∀ (Y0 : Nat → Prop), (∀ i, Y0 i → H.size ≤ i ∧ ¬ Z' i) → ∀ (Ar0_0 : Option Addr) (nr0_0 cr0_0 : Nat), nr0_0 = r0.length → SlO (rdM u64L) 22 Z' Y0 H' Ar0_0 cr0_0 r0 → K r0 → KK (.slice Ar0_0 nr0_0 cr0_0) H') →
    CallH P N.juntoref02_Trim [.slice fA fn fc] H KK
def juntoref02_Trim.Q (f : (List Nat)) (K : (List Nat) → Prop) : Prop :=
  LoopQ (τ := Int) ((f.length : Nat) : Int) fun t nextQ =>
  cond (decide (t > 0)) (0 ≤ (IntKind.i64.wrap (t - 1)) ∧ ∃ x : Nat, f[Int.toNat (IntKind.i64.wrap (t - 1))]? = some x ∧ cond ((x : Int) == 0) (nextQ (IntKind.i64.wrap (t - 1)))
   (0 ≤ t ∧ t ≤ ((f.length : Nat) : Int) ∧ AppOk 8 ([] ++ (List.take (Int.toNat t) f)).length ∧ K (List.take (Int.toNat t) f)))
   (0 ≤ t ∧ t ≤ ((f.length : Nat) : Int) ∧ AppOk 8 ([] ++ (List.take (Int.toNat t) f)).length ∧ K (List.take (Int.toNat t) f))
theorem juntoref02_Trim.q {f : (List Nat)} {K : (List Nat) → Prop} (q : juntoref02_Trim.Q f K) : juntoref02_Trim.C f K := by
  intro Z H fA fn fc hn f2 KK hk
  cases hn
  apply juntoref02_Trim.ok
  unfold juntoref02_Trim.W
  unfold juntoref02_Trim.Q at q
  obtain ⟨σ, hz, hσ⟩ := tags Z
  have hs : Stp ([1, 2] : List Nat) σ H σ H := Stp.refl _ _ _
  replace f2 := f2.wide hz
  clear hz
  refine LoopI.ofQ q (fun t_ s_ hp_ => ∃ (σ_ : Nat → Nat), Stp [] σ H σ_ hp_ ∧ t_ = s_) (fun h k => h _ _ k) ⟨_, Stp.refl _ _ _, rfl⟩ ?_
  rintro t _ _ H_ next nextQ ⟨xσ, st, rfl⟩ q hnext
  try dsimp only at q ⊢
  replace f2 := f2.step st
  replace hs := hs.trans st
  have sl0 := st
  refine condI (fun q => ?_) (fun q => ?_) q
  · obtain ⟨h0, x, hx, q⟩ := q
    obtain ⟨a, ha, hi⟩ := f2.addr h0 hx rfl
    refine ⟨a, ha, hi.1, hi.2, ?_⟩
    have hc := f2.ldu ha h0 hx
    refine ⟨_, hc.val, ?_⟩
    refine condI (fun q => ?_) (fun q => ?_) q
    · exact hnext (IntKind.i64.wrap (t - 1)) _ _ ⟨_, sl0, rfl⟩ q
    · refine NewH.mk fun H_2 e => ?_
      obtain ⟨xσ2, st2, f3⟩ := SlO.lit (E := u64L) xσ 1 (xs := []) (l := []) e rfl .nil (show (0 : Nat) ≤ 17592186044416 by decide)
      replace f2 := f2.step st2
      replace hc := hc.step st2
      replace hs := hs.trans st2
      obtain ⟨q2, q3, q⟩ := q
      have f4 := f2.upto (u := Int.toNat t) (upto_le rfl q3)
      refine ⟨q2, cap_le rfl f2.cap q3, ?_⟩
      obtain ⟨q4, q⟩ := q
      refine SlO.appF f3 f4 rfl rfl q4.l q4.r rfl (take_len rfl q3) (fun A c H_3 xσ3 st3 f3_ => ?_)
      replace f3 := f3_
      replace f2 := f2.step st3
      replace hc := hc.step st3
      replace f4 := f4.step st3
      replace hs := hs.trans st3
      have f5 := SlO.nilapp f3; clear f3
      exact hk (Zt xσ3) _ (hs.ext hσ) (hs.old hσ) _ (Yt xσ3 1) (hs.fresh hσ) _ _ _ rfl f5 q
  · refine NewH.mk fun H_4 e2 => ?_
    obtain ⟨xσ4, st4, f6⟩ := SlO.lit (E := u64L) xσ 2 (xs := []) (l := []) e2 rfl .nil (show (0 : Nat) ≤ 17592186044416 by decide)
    replace f2 := f2.step st4
    replace hs := hs.trans st4
    obtain ⟨q5, q6, q⟩ := q
    have f7 := f2.upto (u := Int.toNat t) (upto_le rfl q6)
    refine ⟨q5, cap_le rfl f2.cap q6, ?_⟩
    obtain ⟨q7, q⟩ := q
    refine SlO.appF f6 f7 rfl rfl q7.l q7.r rfl (take_len rfl q6) (fun A2 c2 H_5 xσ5 st5 f6_ => ?_)
    replace f6 := f6_
    replace f2 := f2.step st5
    replace f7 := f7.step st5
    replace hs := hs.trans st5
    have f8 := SlO.nilapp f6; clear f6
    exact hk (Zt xσ5) _ (hs.ext hσ) (hs.old hσ) _ (Yt xσ5 2) (hs.fresh hσ) _ _ _ rfl f8 q
def juntoref02_Twice.C (l : (List Nat)) (K : Bool → Prop) : Prop :=
  ∀ (Z : Nat → Prop) (H : Heap), ∀ (lA : Option Addr) (ln lc : Nat), ln = l.length → SlF u64L Z H lA lc l → ∀ KK : Value → Heap → Prop,
    (∀ (Z' : Nat → Prop) (H' : Heap), Ext H H' → Old Z H Z' → ∀ (r0 : Bool), K r0 → KK (.bool r0) H') →
    CallH P N.juntoref02_Twice [.slice lA ln lc] H KK
def juntoref02_Twice.Q (l : (List Nat)) (K : Bool → Prop) : Prop :=
  LoopQ (τ := Int) 0 fun t nextQ =>
  cond (decide (t < ((l.length : Nat) : Int))) (LoopQ (τ := Int) 0 fun t2 nextQ2 =>
  cond (decide (t2 < t)) (0 ≤ t ∧ ∃ x : Nat, l[Int.toNat t]? = some x ∧ 0 ≤ t2 ∧ ∃ x2 : Nat, l[Int.toNat t2]? = some x2 ∧ cond ((x : Int) == (x2 : Int)) (K true)
   (nextQ2 (IntKind.i64.wrap (t2 + 1))))
   (nextQ (IntKind.i64.wrap (t + 1))))
   (K false)
theorem juntoref02_Twice.q {l : (List Nat)} {K : Bool → Prop} (q : juntoref02_Twice.Q l K) : juntoref02_Twice.C l K := by
  intro Z H lA ln lc hn f KK hk
  cases hn
  apply juntoref02_Twice.ok
  unfold juntoref02_Twice.W
  unfold juntoref02_Twice.Q at q
  obtain ⟨σ, hz, hσ⟩ := tags Z
  have hs : Stp ([] : List Nat) σ H σ H := Stp.refl _ _ _
  replace f := f.wide hz
  clear hz
  refine LoopI.ofQ q (fun t_ s_ hp_ => ∃ (σ_ : Nat → Nat), Stp [] σ H σ_ hp_ ∧ t_ = s_) (fun h k => h _ _ k) ⟨_, Stp.refl _ _ _, rfl⟩ ?_
  rintro t _ _ H_ next nextQ ⟨xσ, st, rfl⟩ q hnext
  try dsimp only at q ⊢
  replace f := f.step st
  replace hs := hs.trans st
  have sl0 := st
  refine condI (fun q => ?_) (fun q => ?_) q
  · refine LoopI.ofQ q (fun t_ s_ hp_ => ∃ (σ_ : Nat → Nat), Stp [] xσ H_ σ_ hp_ ∧ t_ = s_) (fun h k => h _ _ k) ⟨_, Stp.refl _ _ _, rfl⟩ ?_
    rintro t2 _ _ H_2 next2 nextQ2 ⟨xσ2, st2, rfl⟩ q hnext2
    try dsimp only at q ⊢
    replace f := f.step st2
    replace hs := hs.trans st2
    replace sl0 := sl0.trans st2
    have sl1 := st2
    refine condI (fun q => ?_) (fun q => ?_) q
    · obtain ⟨h0, x, hx, q⟩ := q
      obtain ⟨a, ha, hi⟩ := f.addr h0 hx rfl
      refine ⟨a, ha, hi.1, hi.2, ?_⟩
      obtain ⟨h02, x2, hx2, q⟩ := q
      obtain ⟨a2, ha2, hi2⟩ := f.addr h02 hx2 rfl
      refine ⟨a2, ha2, hi2.1, hi2.2, ?_⟩
      have hc := f.ldu ha h0 hx
      refine ⟨_, hc.val, ?_⟩
      have hc2 := f.ldu ha2 h02 hx2
      refine ⟨_, hc2.val, ?_⟩
      refine condI (fun q => ?_) (fun q => ?_) q
      · exact hk (Zt xσ2) _ (hs.ext hσ) (hs.old hσ) _ q
      · exact hnext2 (IntKind.i64.wrap (t2 + 1)) _ _ ⟨_, sl1, rfl⟩ q
    · exact hnext (IntKind.i64.wrap (t + 1)) _ _ ⟨_, sl0, rfl⟩ q
  · exact hk (Zt xσ) _ (hs.ext hσ) (hs.old hσ) _ q
def juntoref02_Within.C (p : Nat) (f : (List Nat)) (K : Int → Prop) : Prop :=
  ∀ (Z : Nat → Prop) (H : Heap), ∀ (pv : Int), pv = (p : Int) → ∀ (fA : Option Addr) (fn fc : Nat), fn = f.length → SlF u64L Z H fA fc f → ∀ KK : Value → Heap → Prop,
    (∀ (Z' : Nat → Prop) (H' : Heap), Ext H H' → Old Z H Z' → ∀ (r0 : Int), K r0 → KK (.int .i64 r0) H') →
    CallH P N.juntoref02_Within [.int .u64 pv, .slice fA fn fc] H KK
def juntoref02_Within.Q (p : Nat) (f : (List Nat)) (K : Int → Prop) : Prop :=
  cond (decide (((f.length : Nat) : Int) > 201)) (K 3)
   (juntoref01_Within.C p f (fun (x : Int) =>
  K x))
theorem juntoref02_Within.q {p : Nat} {f : (List Nat)} {K : Int → Prop} (q : juntoref02_Within.Q p f K) : juntoref02_Within.C p f K := by
  intro Z H pv he fA fn fc hn f2 KK hk
  cases he
  cases hn
  apply juntoref02_Within.ok
  unfold juntoref02_Within.W
  unfold juntoref02_Within.Q at q
  obtain ⟨σ, hz, hσ⟩ := tags Z
  have hs : Stp ([] : List Nat) σ H σ H := Stp.refl _ _ _
  replace f2 := f2.wide hz
  clear hz
  refine condI (fun q => ?_) (fun q => ?_) q
  · exact hk (Zt σ) _ (hs.ext hσ) (hs.old hσ) _ q
  · refine q (Zt σ) H _ rfl _ _ _ rfl f2 _ (fun Z2 H_ hE hO x q => ?_)
    obtain ⟨xσ, st⟩ := call0 hE σ
    replace f2 := f2.step st
    replace hs := hs.trans st
    refine ⟨_, rfl, ?_⟩
    exact hk (Zt xσ) _ (hs.ext hσ) (hs.old hσ) _ q
end Go.Proofs.Ytlhcaangdenoaaa.Sh
