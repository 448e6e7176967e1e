import Derived.Test.YtajdpkinlnaidaaSE
namespace Go.Lf
end Go.Lf
namespace Go.Proofs.Ytajdpkinlnaidaa.Back
end Go.Proofs.Ytajdpkinlnaidaa.Back
namespace Go.Proofs.Ytajdpkinlnaidaa.Pl
end Go.Proofs.Ytajdpkinlnaidaa.Pl
namespace Go.Proofs.Ytajdpkinlnaidaa.Sh
end Go.Proofs.Ytajdpkinlnaidaa.Sh
namespace Go.Proofs.Ytajdpkinlnaidaa.Sp
end Go.Proofs.Ytajdpkinlnaidaa.Sp
namespace Go.Sx
end Go.Sx
section
set_option linter.unusedVariables false
set_option linter.unusedSimpArgs false
set_option maxRecDepth 100000
set_option maxHeartbeats 8000000
namespace Go.Proofs.Ytajdpkinlnaidaa.Sh
open Go.Sx
def juntoref17_Is.A : Ann where
  loops := fun i => match i with
    | 8198 => [(9, .int .i64)]
    | _ => []
  plans := fun i => match i with
    | _ => .stop
def juntoref17_Is.W (lA : Option Addr) (ln lc : Nat) (party : Int) (H : Heap) (R : Value → Heap → Prop) : Prop :=
  LoopI (σ := Int) (fun κ => κ 0 H) fun s z H_ next =>
  cond (decide (s < ((ln : Nat) : Int))) (∃ a : Addr, lA = some a ∧ 0 ≤ s ∧ s < ((ln : Nat) : Int) ∧ ∃ x : Int, cellH H_ (a.add (Int.toNat s)) = some (.int .i64 x) ∧ cond (x == party) (R (.bool true) H_)
   (next (IntKind.i64.wrap (s + 1)) H_))
   (R (.bool false) H_)
theorem juntoref17_Is.ok (lA : Option Addr) (ln lc : Nat) (party : Int) (H : Heap) (R : Value → Heap → Prop) (h : juntoref17_Is.W lA ln lc party H R) : CallH P N.juntoref17_Is ([.slice lA ln lc, .int .i64 party] : List Value) H R := by
  have e : juntoref17_Is.W lA ln lc party H R = sxFn P T Sh.R nf juntoref17_Is.A Try.f14.results.toList (bodyOf Try.f14) (([(.slice lA ln lc : Value), (.int .i64 party : Value)] : List Value) ++ List.replicate (17 - ([(.slice lA ln lc : Value), (.int .i64 party : Value)] : List Value).length) undef) H R := by kernel_rfl
  exact call_of_sx fits bodies mixed Try.func14 (c := bodyOf Try.f14) (by kernel_rfl) Try.ntmps14 juntoref17_Is.A (by kernel_rfl) (e.mp h)
def juntoref17_SameInts.A : Ann where
  loops := fun i => match i with
    | 16392 => [(13, .int .i64)]
    | _ => []
  plans := fun i => match i with
    | 6 => .first 0 (.first 1 (.first 2 (.first 4 (.first 5 (.first 6 (.read 3 (.read 7 (.first 8 (.done)))))))))
    | _ => .stop
def juntoref17_SameInts.W (aA : Option Addr) (an ac : Nat) (bA : Option Addr) (bn bc : Nat) (H : Heap) (R : Value → Heap → Prop) : Prop :=
  cond (((an : Nat) : Int) != ((bn : Nat) : Int)) (R (.bool false) H)
   (LoopI (σ := Int) (fun κ => κ 0 H) fun s z H_ next =>
  cond (decide (s < ((an : Nat) : Int))) (∃ a : Addr, aA = some a ∧ 0 ≤ s ∧ s < ((an : Nat) : Int) ∧ ∃ a2 : Addr, bA = some a2 ∧ 0 ≤ s ∧ s < ((bn : Nat) : Int) ∧ ∃ x : Int, cellH H_ (a.add (Int.toNat s)) = some (.int .i64 x) ∧ ∃ x2 : Int, cellH H_ (a2.add (Int.toNat s)) = some (.int .i64 x2) ∧ cond (x != x2) (R (.bool false) H_)
   (next (IntKind.i64.wrap (s + 1)) H_))
   (R (.bool true) H_))
theorem juntoref17_SameInts.ok (aA : Option Addr) (an ac : Nat) (bA : Option Addr) (bn bc : Nat) (H : Heap) (R : Value → Heap → Prop) (h : juntoref17_SameInts.W aA an ac bA bn bc H R) : CallH P N.juntoref17_SameInts ([.slice aA an ac, .slice bA bn bc] : List Value) H R := by
  have e : juntoref17_SameInts.W aA an ac bA bn bc H R = sxFn P T Sh.R nf juntoref17_SameInts.A Try.f24.results.toList (bodyOf Try.f24) (([(.slice aA an ac : Value), (.slice bA bn bc : Value)] : List Value) ++ List.replicate (26 - ([(.slice aA an ac : Value), (.slice bA bn bc : Value)] : List Value).length) undef) H R := by kernel_rfl
  exact call_of_sx fits bodies mixed Try.func24 (c := bodyOf Try.f24) (by kernel_rfl) Try.ntmps24 juntoref17_SameInts.A (by kernel_rfl) (e.mp h)
def juntoref17_Read.A : Ann where
  loops := fun i => match i with
    | 12295 => [(13, .int .i64)]
    | _ => []
  plans := fun i => match i with
    | _ => .stop
def juntoref17_Read.W (p : Int) (dataA : Option Addr) (datan datac : Nat) (n : Int) (H : Heap) (R : Value → Heap → Prop) : Prop :=
  0 ≤ n ∧ n ≤ n ∧ n * 8 ≤ 2 ^ 48 ∧ n < 2 ^ 62 ∧ NewH (H.push (.cells (repl (Int.toNat n) [.int .u64 0]).toArray 22 (0, 0))) fun H_ =>
  LoopI (σ := Int) (fun κ => κ 0 H_) fun s z H_2 next =>
  cond (decide (s < ((Int.toNat n : Nat) : Int))) (cond (decide (s < ((datan : Nat) : Int))) (∃ a : Addr, dataA = some a ∧ 0 ≤ s ∧ s < ((datan : Nat) : Int) ∧ ∃ x : Int, cellH H_2 (a.add (Int.toNat s)) = some (.int .u64 x) ∧ p ≠ 0 ∧ ∃ a2 : Addr, (some (Addr.mk H.size 0 none) : Option Addr) = some a2 ∧ 0 ≤ s ∧ s < ((Int.toNat n : Nat) : Int) ∧ MayWrite H_2 (a2.add (Int.toNat s)) 1 ∧ NewH (setH H_2 (a2.add (Int.toNat s)) (.int .u64 (Int.tmod x p))) fun H_3 =>
  next (IntKind.i64.wrap (s + 1)) H_3)
   (next (IntKind.i64.wrap (s + 1)) H_2))
   (R (.slice (some (Addr.mk H.size 0 none)) (Int.toNat n) (Int.toNat n)) H_2)
theorem juntoref17_Read.ok (p : Int) (dataA : Option Addr) (datan datac : Nat) (n : Int) (H : Heap) (R : Value → Heap → Prop) (h : juntoref17_Read.W p dataA datan datac n H R) : CallH P N.juntoref17_Read ([.int .u64 p, .slice dataA datan datac, .int .i64 n] : List Value) H R := by
  have e : juntoref17_Read.W p dataA datan datac n H R = sxFn P T Sh.R nf juntoref17_Read.A Try.f29.results.toList (bodyOf Try.f29) (([(.int .u64 p : Value), (.slice dataA datan datac : Value), (.int .i64 n : Value)] : List Value) ++ List.replicate (31 - ([(.int .u64 p : Value), (.slice dataA datan datac : Value), (.int .i64 n : Value)] : List Value).length) undef) H R := by kernel_rfl
  exact call_of_sx fits bodies mixed Try.func29 (c := bodyOf Try.f29) (by kernel_rfl) Try.ntmps29 juntoref17_Read.A (by kernel_rfl) (e.mp h)
end Go.Proofs.Ytajdpkinlnaidaa.Sh
namespace Go.Proofs.Ytajdpkinlnaidaa.Sh
open Go.Sx Go.Lf
def juntoref17_SameInts.C (a : (List Int)) (b : (List Int)) (K : Bool → Prop) : Prop :=
  ∀ (Z : Nat → Prop) (H : Heap), ∀ (aA : Option Addr) (an ac : Nat), an = a.length → SlF i64L Z H aA ac a → ∀ (bA : Option Addr) (bn bc : Nat), bn = b.length → SlF i64L Z H bA bc b → ∀ KK : Value → Heap → Prop,
    (∀ (Z' : Nat → Prop) (H' : Heap), Ext H H' → Old Z H Z' → ∀ (r0 : Bool), K r0 → KK (.bool r0) H') →
    CallH P N.juntoref17_SameInts [.slice aA an ac, .slice bA bn bc] H KK
def juntoref17_SameInts.Q (a : (List Int)) (b : (List Int)) (K : Bool → Prop) : Prop :=
  cond (((a.length : Nat) : Int) != ((b.length : Nat) : Int)) (K false)
   (LoopQ (τ := Int) 0 fun t nextQ =>
  cond (decide (t < ((a.length : Nat) : Int))) (0 ≤ t ∧ ∃ x : Int, a[Int.toNat t]? = some x ∧ 0 ≤ t ∧ ∃ x2 : Int, b[Int.toNat t]? = some x2 ∧ cond (x != x2) (K false)
   (nextQ (IntKind.i64.wrap (t + 1))))
   (K true))
theorem juntoref17_SameInts.q {a : (List Int)} {b : (List Int)} {K : Bool → Prop} (q : juntoref17_SameInts.Q a b K) : juntoref17_SameInts.C a b K := by
  intro Z H aA an ac hn f bA bn bc hn2 f2 KK hk
  cases hn
  cases hn2
  apply juntoref17_SameInts.ok
  unfold juntoref17_SameInts.W
  unfold juntoref17_SameInts.Q at q
  obtain ⟨σ, hz, hσ⟩ := tags Z
  have hs : Stp ([] : List Nat) σ H σ H := Stp.refl _ _ _
  replace f := f.wide hz
  replace f2 := f2.wide hz
  clear hz
  refine condI (fun q => ?_) (fun q => ?_) q
  · exact hk (Zt σ) _ (hs.ext hσ) (hs.old hσ) _ q
  · refine LoopI.ofQ q (fun t_ s_ hp_ => ∃ (σ_ : Nat → Nat), Stp [] σ H σ_ hp_ ∧ t_ = s_) (fun h k => h _ _ k) ⟨_, Stp.refl _ _ _, rfl⟩ ?_
    rintro t _ _ H_ next nextQ ⟨xσ, st, rfl⟩ q hnext
    try dsimp only at q ⊢
    have sl0 := st
    refine condI (fun q => ?_) (fun q => ?_) q
    · obtain ⟨h0, x, hx, q⟩ := q
      replace f := f.step st
      obtain ⟨a2, ha, hi⟩ := f.addr h0 hx rfl
      refine ⟨a2, ha, hi.1, hi.2, ?_⟩
      obtain ⟨h02, x2, hx2, q⟩ := q
      replace f2 := f2.step st
      obtain ⟨a3, ha2, hi2⟩ := f2.addr h02 hx2 rfl
      refine ⟨a3, ha2, hi2.1, hi2.2, ?_⟩
      have hc := f.ldi ha h0 hx
      refine ⟨_, hc.val, ?_⟩
      have hc2 := f2.ldi ha2 h02 hx2
      refine ⟨_, hc2.val, ?_⟩
      refine condI (fun q => ?_) (fun q => ?_) q
      · replace hs := hs.trans st
        exact hk (Zt xσ) _ (hs.ext hσ) (hs.old hσ) _ q
      · exact hnext (IntKind.i64.wrap (t + 1)) _ _ ⟨_, sl0, rfl⟩ q
    · replace hs := hs.trans st
      exact hk (Zt xσ) _ (hs.ext hσ) (hs.old hσ) _ q
def juntoref17_Is.C (l : (List Int)) (party : Int) (K : Bool → Prop) : Prop :=
  ∀ (Z : Nat → Prop) (H : Heap), ∀ (lA : Option Addr) (ln lc : Nat), ln = l.length → SlF i64L Z H lA lc l → ∀ KK : Value → Heap → Prop,
    (∀ (Z' : Nat → Prop) (H' : Heap), Ext H H' → Old Z H Z' → ∀ (r0 : Bool), K r0 → KK (.bool r0) H') →
    CallH P N.juntoref17_Is [.slice lA ln lc, .int .i64 party] H KK
def juntoref17_Is.Q (l : (List Int)) (party : Int) (K : Bool → Prop) : Prop :=
  LoopQ (τ := Int) 0 fun t nextQ =>
  cond (decide (t < ((l.length : Nat) : Int))) (0 ≤ t ∧ ∃ x : Int, l[Int.toNat t]? = some x ∧ cond (x == party) (K true)
   (nextQ (IntKind.i64.wrap (t + 1))))
   (K false)
theorem juntoref17_Is.q {l : (List Int)} {party : Int} {K : Bool → Prop} (q : juntoref17_Is.Q l party K) : juntoref17_Is.C l party K := by
  intro Z H lA ln lc hn f KK hk
  cases hn
  apply juntoref17_Is.ok
  unfold juntoref17_Is.W
  unfold juntoref17_Is.Q at q
  obtain ⟨σ, hz, hσ⟩ := tags Z
  have hs : Stp ([] : List Nat) σ H σ H := Stp.refl _ _ _
  replace f := f.wide hz
  clear hz
  refine LoopI.ofQ q (fun t_ s_ hp_ => ∃ (σ_ : Nat → Nat), Stp [] σ H σ_ hp_ ∧ t_ = s_) (fun h k => h _ _ k) ⟨_, Stp.refl _ _ _, rfl⟩ ?_
  rintro t _ _ H_ next nextQ ⟨xσ, st, rfl⟩ q hnext
  try dsimp only at q ⊢
  have sl0 := st
  refine condI (fun q => ?_) (fun q => ?_) q
  · obtain ⟨h0, x, hx, q⟩ := q
    replace f := f.step st
    obtain ⟨a, ha, hi⟩ := f.addr h0 hx rfl
    refine ⟨a, ha, hi.1, hi.2, ?_⟩
    have hc := f.ldi ha h0 hx
    refine ⟨_, hc.val, ?_⟩
    refine condI (fun q => ?_) (fun q => ?_) q
    · replace hs := hs.trans st
      exact hk (Zt xσ) _ (hs.ext hσ) (hs.old hσ) _ q
    · exact hnext (IntKind.i64.wrap (t + 1)) _ _ ⟨_, sl0, rfl⟩ q
  · replace hs := hs.trans st
    exact hk (Zt xσ) _ (hs.ext hσ) (hs.old hσ) _ q
def juntoref17_Read.C (p : Nat) (data : (List Nat)) (n : Int) (K : (List Nat) → Prop) : Prop :=
  ∀ (Z : Nat → Prop) (H : Heap), ∀ (pv : Int), pv = (p : Int) → ∀ (dataA : Option Addr) (datan datac : Nat), datan = data.length → SlF u64L Z H dataA datac data → ∀ KK : Value → Heap → Prop,
    (∀ (Z' : Nat → Prop) (H' : Heap), Ext H H' → Old Z H Z' → ∀ (r0 : (List Nat)), ∀ (Y0 : Nat → Prop), (∀ i, Y0 i → H.size ≤ i ∧ ¬ Z' i) → ∀ (Ar0_0 : Option Addr) (nr0_0 cr0_0 : Nat), nr0_0 = r0.length → SlO (rdM u64L) 22 Z' Y0 H' Ar0_0 cr0_0 r0 → K r0 → KK (.slice Ar0_0 nr0_0 cr0_0) H') →
    CallH P N.juntoref17_Read [.int .u64 pv, .slice dataA datan datac, .int .i64 n] H KK
def juntoref17_Read.Q (p : Nat) (data : (List Nat)) (n : Int) (K : (List Nat) → Prop) : Prop :=
  MakeOk 8 n ∧ LoopQ (τ := Int × List Nat) (0, (List.replicate (Int.toNat n) 0)) fun t nextQ =>
  cond (decide (t.1 < ((Int.toNat n : Nat) : Int))) (cond (decide (t.1 < ((data.length : Nat) : Int))) (0 ≤ t.1 ∧ ∃ x : Nat, data[Int.toNat t.1]? = some x ∧ (p : Int) ≠ 0 ∧ 0 ≤ t.1 ∧ t.1 < ((Int.toNat n : Nat) : Int) ∧ nextQ (IntKind.i64.wrap (t.1 + 1), (List.set t.2 (Int.toNat t.1) ((Int.tmod (x : Int) (p : Int)).toNat))))
   (nextQ (IntKind.i64.wrap (t.1 + 1), t.2)))
   (K t.2)
theorem juntoref17_Read.q {p : Nat} {data : (List Nat)} {n : Int} {K : (List Nat) → Prop} (q : juntoref17_Read.Q p data n K) : juntoref17_Read.C p data n K := by
  intro Z H pv he dataA datan datac hn f KK hk
  cases he
  cases hn
  apply juntoref17_Read.ok
  unfold juntoref17_Read.W
  unfold juntoref17_Read.Q at q
  obtain ⟨σ, hz, hσ⟩ := tags Z
  have hs : Stp ([1] : List Nat) σ H σ H := Stp.refl _ _ _
  replace f := f.wide hz
  clear hz
  obtain ⟨q2, q⟩ := q
  refine ⟨q2.1, Int.le_refl _, q2.w1, q2.w2, NewH.mk fun H_ e => ?_⟩
  obtain ⟨xσ, st, f2⟩ := SlO.made (O := (rdM u64L)) σ 1 e (u64_zero) q2.len
  refine LoopI.ofQ q (fun t_ s_ hp_ => ∃ (σ_ : Nat → Nat), Stp [1] xσ H_ σ_ hp_ ∧ t_.1 = s_ ∧ t_.2.length = (List.replicate (Int.toNat n) 0).length ∧ SlO (rdM u64L) 22 (Zt σ_) (Yt σ_ 1) hp_ (some (Addr.mk H.size 0 none)) (Int.toNat n) t_.2) (fun h k => h _ _ k) ⟨_, Stp.refl _ _ _, rfl, rfl, f2⟩ ?_
  rintro t _ _ H_2 next nextQ ⟨xσ2, st2, rfl, hl, f2⟩ q hnext
  try dsimp only at q ⊢
  have sl1 := st2
  refine condI (fun q => ?_) (fun q => ?_) q
  · refine condI (fun q => ?_) (fun q => ?_) q
    · obtain ⟨h0, x, hx, q⟩ := q
      replace f := f.step (st.then st2)
      obtain ⟨a, ha, hi⟩ := f.addr h0 hx rfl
      refine ⟨a, ha, hi.1, hi.2, ?_⟩
      have hc := f.ldu ha h0 hx
      refine ⟨_, hc.val, ?_⟩
      obtain ⟨q3, q⟩ := q
      refine ⟨q3, ?_⟩
      obtain ⟨h02, hi3, q⟩ := q
      obtain ⟨a2, ha2, hi2⟩ := f2.addr h02 ((rl_len _ _).trans hl.symm) hi3
      refine ⟨a2, ha2, hi2.1, hi2.2, ?_⟩
      have w := fun v hr => SlO.set1 (v := v) (y := (Int.tmod (x : Int) (p : Int)).toNat) f2 rfl ha2 h02 (lt_of_n ((rl_len _ _).trans hl.symm) hi3) hr
      refine ⟨(w _ (u64_rep (nnr (nnc _) _))).1, NewH.mk fun H_3 e2 => ?_⟩
      obtain ⟨st3, f2⟩ := (w _ (u64_rep (nnr (nnc _) _))).2 H_3 e2
      replace sl1 := sl1.trans st3
      exact hnext (IntKind.i64.wrap (t.1 + 1), (List.set t.2 (Int.toNat t.1) ((Int.tmod (x : Int) (p : Int)).toNat))) _ _ ⟨_, sl1, rfl, (set_back ((rl_len _ _).trans hl.symm) (set_len ((rl_len _ _).trans hl.symm)) hl), f2⟩ q
    · exact hnext (IntKind.i64.wrap (t.1 + 1), t.2) _ _ ⟨_, sl1, rfl, hl, f2⟩ q
  · replace hs := hs.trans (st.then st2)
    exact hk (Zt xσ2) _ (hs.ext hσ) (hs.old hσ) _ (Yt xσ2 1) (hs.fresh hσ) _ _ _ ((rl_len _ _).trans hl.symm) f2 q
end Go.Proofs.Ytajdpkinlnaidaa.Sh
end
section
set_option linter.unusedVariables false
set_option linter.unusedSimpArgs false
set_option maxRecDepth 100000
set_option maxHeartbeats 8000000
namespace Go.Proofs.Ytajdpkinlnaidaa.Sh
open Go.Sx
def juntoref20_Line.A : Ann where
  loops := fun i => match i with
    | 12295 => [(10, .slice), (15, .int .i64)]
    | _ => []
  plans := fun i => match i with
    | _ => .stop
def juntoref20_Asked.A : Ann where
  loops := fun i => match i with
    | 12295 => [(5, .slice), (10, .int .i64)]
    | _ => []
  plans := fun i => match i with
    | _ => .stop
def juntoref20_Asked.W (lA : Option Addr) (ln lc : Nat) (party : Int) (H : Heap) (R : Value → Heap → Prop) : Prop :=
  LoopI (σ := (Option Addr × Nat × Nat) × Int) (fun κ => κ ((none, 0, 0), 0) H) fun s z H_ next =>
  cond (decide (s.2 < ((ln : Nat) : Int))) (∃ a : Addr, lA = some a ∧ 0 ≤ s.2 ∧ s.2 < ((ln : Nat) : Int) ∧ ∃ (x0A : Option Addr) (x0n x0c : Nat), ∃ (x1A : Option Addr) (x1n x1c : Nat), cellH H_ (a.add ((Int.toNat s.2) * 2)) = some (.slice x0A x0n x0c) ∧ cellH H_ ((a.add ((Int.toNat s.2) * 2)).add 1) = some (.slice x1A x1n x1c) ∧ NewH (H_.push (.cells #[.slice none 0 0, .slice none 0 0] 39 (0, 0))) fun H_2 =>
  MayWrite H_2 (Addr.mk H_.size 0 none) 2 ∧ NewH (setH (setH H_2 (Addr.mk H_.size 0 none) (.slice x0A x0n x0c)) (((Addr.mk H_.size 0 none)).add 1) (.slice x1A x1n x1c)) fun H_3 =>
  cond (party == 0) (∃ (xA : Option Addr) (xn xc : Nat), cellH H_3 (Addr.mk H_.size 0 none) = some (.slice xA xn xc) ∧ cond (((xn : Nat) : Int) == 0) (NewH (H_3.push (.cells #[.int .i64 s.2] 3 (0, 0))) fun H_4 =>
  AppendV 3 1 8 [.int .i64 0] H_4 s.1.1 s.1.2.1 s.1.2.2 (some (Addr.mk H_3.size 0 none)) 1 fun vA vn vc H_5 =>
  next ((vA, vn, vc), IntKind.i64.wrap (s.2 + 1)) H_5) (cond (decide (party > 0)) (∃ (xA2 : Option Addr) (xn2 xc2 : Nat), cellH H_3 (Addr.mk H_.size 0 none) = some (.slice xA2 xn2 xc2) ∧ CallH P N.juntoref17_Is [.slice xA2 xn2 xc2, .int .i64 party] H_3 fun v2 H_6 =>
  ∃ r : Bool, v2 = .bool r ∧ cond r (NewH (H_6.push (.cells #[.int .i64 s.2] 3 (0, 0))) fun H_7 =>
  AppendV 3 1 8 [.int .i64 0] H_7 s.1.1 s.1.2.1 s.1.2.2 (some (Addr.mk H_6.size 0 none)) 1 fun vA2 vn2 vc2 H_8 =>
  next ((vA2, vn2, vc2), IntKind.i64.wrap (s.2 + 1)) H_8)
   (next ((s.1.1, s.1.2.1, s.1.2.2), IntKind.i64.wrap (s.2 + 1)) H_6)) (next ((s.1.1, s.1.2.1, s.1.2.2), IntKind.i64.wrap (s.2 + 1)) H_3))) (cond (decide (party > 0)) (∃ (xA3 : Option Addr) (xn3 xc3 : Nat), cellH H_3 (Addr.mk H_.size 0 none) = some (.slice xA3 xn3 xc3) ∧ CallH P N.juntoref17_Is [.slice xA3 xn3 xc3, .int .i64 party] H_3 fun v4 H_9 =>
  ∃ r2 : Bool, v4 = .bool r2 ∧ cond r2 (NewH (H_9.push (.cells #[.int .i64 s.2] 3 (0, 0))) fun H_10 =>
  AppendV 3 1 8 [.int .i64 0] H_10 s.1.1 s.1.2.1 s.1.2.2 (some (Addr.mk H_9.size 0 none)) 1 fun vA3 vn3 vc3 H_11 =>
  next ((vA3, vn3, vc3), IntKind.i64.wrap (s.2 + 1)) H_11)
   (next ((s.1.1, s.1.2.1, s.1.2.2), IntKind.i64.wrap (s.2 + 1)) H_9)) (next ((s.1.1, s.1.2.1, s.1.2.2), IntKind.i64.wrap (s.2 + 1)) H_3)))
   (R (.slice s.1.1 s.1.2.1 s.1.2.2) H_)
theorem juntoref20_Asked.ok (lA : Option Addr) (ln lc : Nat) (party : Int) (H : Heap) (R : Value → Heap → Prop) (h : juntoref20_Asked.W lA ln lc party H R) : CallH P N.juntoref20_Asked ([.slice lA ln lc, .int .i64 party] : List Value) H R := by
  have e : juntoref20_Asked.W lA ln lc party H R = sxFn P T Sh.R nf juntoref20_Asked.A Try.f28.results.toList (bodyOf Try.f28) (([(.slice lA ln lc : Value), (.int .i64 party : Value)] : List Value) ++ List.replicate (39 - ([(.slice lA ln lc : Value), (.int .i64 party : Value)] : List Value).length) undef) H R := by kernel_rfl
  exact call_of_sx fits bodies mixed Try.func28 (c := bodyOf Try.f28) (by kernel_rfl) Try.ntmps28 juntoref20_Asked.A (by kernel_rfl) (e.mp h)
end Go.Proofs.Ytajdpkinlnaidaa.Sh
namespace Go.Proofs.Ytajdpkinlnaidaa.Sh
open Go.Sx Go.Lf
def juntoref20_Asked.C (l : (List TSecret)) (party : Int) (K : (List Int) → Prop) : Prop :=
  ∀ (Z : Nat → Prop) (H : Heap), ∀ (lA : Option Addr) (ln lc : Nat), ln = l.length → SlF TSecret.L Z H lA lc l → ∀ KK : Value → Heap → Prop,
    (∀ (Z' : Nat → Prop) (H' : Heap), Ext H H' → Old Z H Z' → ∀ (r0 : (List Int)), ∀ (Y0 : Nat → Prop), (∀ i, Y0 i → H.size ≤ i ∧ ¬ Z' i) → ∀ (Ar0_0 : Option Addr) (nr0_0 cr0_0 : Nat), nr0_0 = r0.length → SlO (rdM i64L) 3 Z' Y0 H' Ar0_0 cr0_0 r0 → K r0 → KK (.slice Ar0_0 nr0_0 cr0_0) H') →
    CallH P N.juntoref20_Asked [.slice lA ln lc, .int .i64 party] H KK
def juntoref20_Asked.Q (l : (List TSecret)) (party : Int) (K : (List Int) → Prop) : Prop :=
  LoopQ (τ := List Int × Int) (([] : List Int), 0) fun t nextQ =>
  cond (decide (t.2 < ((l.length : Nat) : Int))) (0 ≤ t.2 ∧ ∃ x : TSecret, l[Int.toNat t.2]? = some x ∧ cond (party == 0) (cond (((x.To.length : Nat) : Int) == 0) (AppOk 8 (t.1 ++ ([t.2] : List Int)).length ∧ nextQ ((t.1 ++ ([t.2] : List Int)), IntKind.i64.wrap (t.2 + 1)))
   (cond (decide (party > 0)) (juntoref17_Is.C x.To party (fun (x2 : Bool) =>
  cond x2 (AppOk 8 (t.1 ++ ([t.2] : List Int)).length ∧ nextQ ((t.1 ++ ([t.2] : List Int)), IntKind.i64.wrap (t.2 + 1)))
   (nextQ (t.1, IntKind.i64.wrap (t.2 + 1)))))
   (nextQ (t.1, IntKind.i64.wrap (t.2 + 1)))))
   (cond (decide (party > 0)) (juntoref17_Is.C x.To party (fun (x3 : Bool) =>
  cond x3 (AppOk 8 (t.1 ++ ([t.2] : List Int)).length ∧ nextQ ((t.1 ++ ([t.2] : List Int)), IntKind.i64.wrap (t.2 + 1)))
   (nextQ (t.1, IntKind.i64.wrap (t.2 + 1)))))
   (nextQ (t.1, IntKind.i64.wrap (t.2 + 1)))))
   (K t.1)
theorem juntoref20_Asked.q {l : (List TSecret)} {party : Int} {K : (List Int) → Prop} (q : juntoref20_Asked.Q l party K) : juntoref20_Asked.C l party K := by
  intro Z H lA ln lc hn f KK hk
  cases hn
  apply juntoref20_Asked.ok
  unfold juntoref20_Asked.W
  unfold juntoref20_Asked.Q at q
  obtain ⟨σ, hz, hσ⟩ := tags Z
  have hs : Stp ([1, 2, 3, 4, 5] : List Nat) σ H σ H := Stp.refl _ _ _
  replace f := f.wide hz
  clear hz
  have f2 := SlO.nil (rdM i64L) 3 (Zt σ) (Yt σ 1) H
  refine LoopI.ofQ q (fun t_ s_ hp_ => ∃ (σ_ : Nat → Nat) (A0_ : Option Addr) (n0_ c0_ : Nat), Stp [1, 2, 3, 4, 5] σ H σ_ hp_ ∧ ((A0_, n0_, c0_), t_.2) = s_ ∧ n0_ = t_.1.length ∧ SlO (rdM i64L) 3 (Zt σ_) (Yt σ_ 1) hp_ A0_ c0_ t_.1) (fun h k => h _ _ k) ⟨_, _, _, _, Stp.refl _ _ _, rfl, rfl, f2⟩ ?_
  rintro t _ _ H_ next nextQ ⟨xσ, A, n, c, st, rfl, rfl, f3⟩ q hnext
  try dsimp only at q ⊢
  have sl0 := st
  refine condI (fun q => ?_) (fun q => ?_) q
  · obtain ⟨h0, x, hx, q⟩ := q
    replace f := f.step st
    obtain ⟨a, ha, hi⟩ := f.addr h0 hx rfl
    refine ⟨a, ha, hi.1, hi.2, ?_⟩
    obtain ⟨cs, hr, hc⟩ := f.ldN (k := 2) rfl ha h0 hx
    obtain ⟨A2, c2, A3, c3, rfl, f4, f5⟩ := hr
    have hc2 := hc 0 _ rfl
    have hc3 := hc 1 _ rfl
    refine ⟨_, _, _, _, _, _, hc2.val, hc3.val, ?_⟩
    refine NewH.mk fun H_2 e => ?_
    obtain ⟨xσ2, st2, b⟩ := BoxF.new xσ 2 e
    refine ⟨b.mayN 0 2 (show (2 : Nat) ≤ 2 by decide), NewH.mk fun H_3 e2 => ?_⟩
    obtain ⟨st3, b⟩ := b.wr2 (by simp) e2
    simp only [List.take_zero, List.take_succ_cons, List.drop_zero, List.drop_succ_cons, List.drop_nil, List.length_cons, List.length_nil, List.cons_append, List.nil_append, List.append_nil, Nat.zero_add, Nat.reduceAdd] at b
    refine condI (fun q => ?_) (fun q => ?_) q
    · refine ⟨_, _, _, b.cell0, ?_⟩
      refine condI (fun q => ?_) (fun q => ?_) q
      · refine NewH.mk fun H_4 e3 => ?_
        obtain ⟨xσ3, st4, f6⟩ := SlO.lit (E := i64L) xσ2 3 (xs := [t.2]) (l := [[_]]) e3 rfl (.cons rfl .nil) (show (1 : Nat) ≤ 17592186044416 by decide)
        obtain ⟨xσ5, st6, f6⟩ := SlO.freeze f6
        obtain ⟨q2, q⟩ := q
        replace f3 := f3.step (st2.then (st3.then (st4.then st6)))
        refine SlO.appF f3 f6 rfl rfl q2.l q2.r rfl rfl (fun A4 c4 H_5 xσ4 st5 f3_ => ?_)
        replace f3 := f3_
        have f7 := f3; clear f3
        replace sl0 := sl0.trans (st2.then (st3.then (st4.then (st6.then st5))))
        exact hnext ((t.1 ++ ([t.2] : List Int)), IntKind.i64.wrap (t.2 + 1)) _ _ ⟨_, _, _, _, sl0, rfl, rfl, f7⟩ q
      · refine condI (fun q => ?_) (fun q => ?_) q
        · refine ⟨_, _, _, b.cell0, ?_⟩
          replace f4 := f4.step (st2.then st3)
          refine q (Zt xσ2) H_3 _ _ _ rfl f4 _ (fun Z2 H_6 hE hO x2 q => ?_)
          obtain ⟨xσ6, st7⟩ := call0 hE xσ2
          refine ⟨_, rfl, ?_⟩
          refine condI (fun q => ?_) (fun q => ?_) q
          · refine NewH.mk fun H_7 e4 => ?_
            obtain ⟨xσ7, st8, f8⟩ := SlO.lit (E := i64L) xσ6 4 (xs := [t.2]) (l := [[_]]) e4 rfl (.cons rfl .nil) (show (1 : Nat) ≤ 17592186044416 by decide)
            obtain ⟨xσ9, st10, f8⟩ := SlO.freeze f8
            obtain ⟨q3, q⟩ := q
            replace f3 := f3.step (st2.then (st3.then (st7.then (st8.then st10))))
            refine SlO.appF f3 f8 rfl rfl q3.l q3.r rfl rfl (fun A5 c5 H_8 xσ8 st9 f3_ => ?_)
            replace f3 := f3_
            have f9 := f3; clear f3
            replace sl0 := sl0.trans (st2.then (st3.then (st7.then (st8.then (st10.then st9)))))
            exact hnext ((t.1 ++ ([t.2] : List Int)), IntKind.i64.wrap (t.2 + 1)) _ _ ⟨_, _, _, _, sl0, rfl, rfl, f9⟩ q
          · have c_0 := st2.then (st3.then st7)
            replace sl0 := sl0.trans c_0
            replace f3 := f3.step c_0
            exact hnext (t.1, IntKind.i64.wrap (t.2 + 1)) _ _ ⟨_, _, _, _, sl0, rfl, rfl, f3⟩ q
        · have c_1 := st2.then st3
          replace sl0 := sl0.trans c_1
          replace f3 := f3.step c_1
          exact hnext (t.1, IntKind.i64.wrap (t.2 + 1)) _ _ ⟨_, _, _, _, sl0, rfl, rfl, f3⟩ q
    · refine condI (fun q => ?_) (fun q => ?_) q
      · refine ⟨_, _, _, b.cell0, ?_⟩
        replace f4 := f4.step (st2.then st3)
        refine q (Zt xσ2) H_3 _ _ _ rfl f4 _ (fun Z3 H_9 hE2 hO2 x3 q => ?_)
        obtain ⟨xσ10, st11⟩ := call0 hE2 xσ2
        refine ⟨_, rfl, ?_⟩
        refine condI (fun q => ?_) (fun q => ?_) q
        · refine NewH.mk fun H_10 e5 => ?_
          obtain ⟨xσ11, st12, f10⟩ := SlO.lit (E := i64L) xσ10 5 (xs := [t.2]) (l := [[_]]) e5 rfl (.cons rfl .nil) (show (1 : Nat) ≤ 17592186044416 by decide)
          obtain ⟨xσ13, st14, f10⟩ := SlO.freeze f10
          obtain ⟨q4, q⟩ := q
          replace f3 := f3.step (st2.then (st3.then (st11.then (st12.then st14))))
          refine SlO.appF f3 f10 rfl rfl q4.l q4.r rfl rfl (fun A6 c6 H_11 xσ12 st13 f3_ => ?_)
          replace f3 := f3_
          have f11 := f3; clear f3
          replace sl0 := sl0.trans (st2.then (st3.then (st11.then (st12.then (st14.then st13)))))
          exact hnext ((t.1 ++ ([t.2] : List Int)), IntKind.i64.wrap (t.2 + 1)) _ _ ⟨_, _, _, _, sl0, rfl, rfl, f11⟩ q
        · have c_2 := st2.then (st3.then st11)
          replace sl0 := sl0.trans c_2
          replace f3 := f3.step c_2
          exact hnext (t.1, IntKind.i64.wrap (t.2 + 1)) _ _ ⟨_, _, _, _, sl0, rfl, rfl, f3⟩ q
      · have c_3 := st2.then st3
        replace sl0 := sl0.trans c_3
        replace f3 := f3.step c_3
        exact hnext (t.1, IntKind.i64.wrap (t.2 + 1)) _ _ ⟨_, _, _, _, sl0, rfl, rfl, f3⟩ q
  · replace hs := hs.trans st
    exact hk (Zt xσ) _ (hs.ext hσ) (hs.old hσ) _ (Yt xσ 1) (hs.fresh hσ) _ _ _ rfl f3 q
end Go.Proofs.Ytajdpkinlnaidaa.Sh
end
section
set_option linter.unusedVariables false
namespace Go.Proofs.Ytajdpkinlnaidaa.Pl
open Go.Sx Go.Lf Go.Proofs.Ytajdpkinlnaidaa.Sh Go.Proofs.Ytajdpkinlnaidaa.Sp
theorem actsC_of {n : Int} {c : List Int} : ∀ (l seen : List TAct), ((seen ++ l).map key3).Nodup → (∀ a ∈ l, ¬ badAct n c a ∧ a.Data.length ≤ 65536) → actsC n c seen l = 0
  | [], _, _, _ => rfl
  | a :: l, seen, hn, h => by
    have h0 : actC n c seen a = 0 := by
      obtain ⟨h1, h2⟩ := h a (by simp)
      rw [actC, if_neg h1, if_neg (by omega), if_neg]
      rintro ⟨b, hb, e⟩
      rw [List.map_append, List.nodup_append] at hn
      exact hn.2.2 _ (List.mem_map.2 ⟨b, hb, rfl⟩) _ (by simp) e
    simp only [actsC]
    rw [if_pos h0]
    exact actsC_of l _ (by simpa using hn) fun b hb => h b (by simp [hb])
theorem checkW_of {w : TWorld} (h : WOk w) (ha : w.Acts.length ≤ 65536) : checkW w = 0 := by
  have hc : corC w.Setup w.Corrupted = 0 := by rw [corC, if_pos ⟨h.set, h.cor, h.ris⟩]
  have h0 := h.r0; have h1 := h.r1; have h2 := h.tap
  unfold checkW
  rw [if_pos hc, if_neg (by omega), if_neg (by omega)]
  exact actsC_of _ _ (by simpa using h.key) h.act
theorem chkC_of {w : TWorld} {hs : List Int} {d : Nat} {s : TSecret} {f : List Nat} (h : SecOk w hs d s f) : chkC w hs d s = 0 := by
  unfold chkC
  rw [if_pos h.to, if_pos ⟨h.len, below_of h.lt⟩, if_pos ⟨f, h.line⟩]
theorem chkL_of {w : TWorld} {hs : List Int} {d : Nat} : ∀ {l : List TSecret}, (∀ s ∈ l, ∃ f, SecOk w hs d s f) → chkL w hs d l = 0
  | [], _ => rfl
  | s :: l, h => by
    obtain ⟨f, hf⟩ := h s (by simp)
    simp only [chkL]
    rw [if_pos (chkC_of hf)]
    exact chkL_of fun x hx => h x (by simp [hx])
theorem allC_of {w : TWorld} {hs : List Int} {d n tt : Nat} {l : List TSecret} {F : Nat → List Nat} (h : AllOk w hs d n tt l F) (ha : w.Acts.length ≤ 65536) : allC w hs d l = 0 := by
  have h1 := h.len; have h2 := h.et; have h3 := h.ded; have h4 := h.lel; have h5 := h.rnd
  have hc := checkW_of h.wok ha
  have hl : chkL w hs ((d : Nat) : Int).toNat l = 0 := chkL_of fun s hs0 => by
    obtain ⟨i, hi⟩ := List.mem_iff_getElem?.1 hs0
    exact ⟨_, h.sec i s hi⟩
  unfold allC
  rw [if_neg (by rw [hc]; simp), if_neg (by simp only [Classical.not_not]; exact ⟨h.ris, by omega⟩), if_neg (by omega), if_neg (by omega), if_neg (by rw [hl]; simp), if_neg (by omega)]
theorem line_uniq {w : TWorld} {hs : List Int} {d tt : Nat} {sh : List Nat} (hw : WOk w) (ht : w.Setup.T_ = tt) (hr : risA w.Setup.N 0 hs = true) (hl : 4 * tt + 1 ≤ hs.length) (hd : d ≤ 2 * tt) (hsh : ∀ y ∈ sh, y < w.Setup.P) {f g : List Nat} (hf : LineP w hs d sh f) (hg : LineP w hs d sh g) : f = g := by
  have h1 := hon_len (c := w.Corrupted) hr
  have h2 := hw.cor
  exact Dec.uniq hw.set.1 (hon_pts hw.set hr hsh) (by rw [ptsL_len]; omega) hf hg
theorem juntoref17_Is_c {l : List Int} {x : Int} (hl : l.length < 4611686018427387904) {K : Bool → Prop} (k : K (decide (x ∈ l))) : juntoref17_Is.C l x K := by
  refine juntoref17_Is.q ?_
  refine LoopQ.range l.length (fun k => ∀ j, j < k → l[j]? ≠ some x) (fun j hj => by omega) hl ?_ ?_
  · intro i next hk hI hn
    obtain ⟨y, hy⟩ := get_some hk
    refine ctd (by omega) ⟨by omega, y, hy, cnE (fun h => ?_) (fun h => hn fun j hj => ?_)⟩
    · rw [decide_eq_true (by rw [← h]; exact mem_get hy)] at k; exact k
    · rcases Nat.lt_or_ge j i with h' | h'
      · exact hI j h'
      · obtain rfl : j = i := by omega
        rw [hy]; exact fun e => h (by cases e; rfl)
  · intro next hI
    refine cfd (by omega) ?_
    rw [decide_eq_false (fun hm => by obtain ⟨j, hj⟩ := List.mem_iff_getElem?.1 hm; exact hI j (lt_get hj) hj)] at k
    exact k
theorem juntoref17_SameInts_c {x y : List Int} (hl : x.length < 4611686018427387904) {K : Bool → Prop} (k : K (decide (x = y))) : juntoref17_SameInts.C x y K := by
  apply juntoref17_SameInts.q
  unfold juntoref17_SameInts.Q
  by_cases hlen : x.length = y.length
  · refine cf (bne_f (by omega)) ?_
    refine LoopQ.range x.length (fun k => ∀ j, j < k → x[j]? = y[j]?) (fun j hj => by omega) hl ?_ ?_
    · intro n next hk hI hn
      obtain ⟨u, hu⟩ := get_some hk
      obtain ⟨v, hv⟩ := get_some (show n < y.length by omega)
      refine ctd (by omega) ⟨by omega, u, hu, by omega, v, hv, cnN (fun h => ?_) (fun h => hn fun j hj => ?_)⟩
      · rw [decide_eq_false (fun e => h (by rw [e, hv] at hu; cases hu; rfl))] at k; exact k
      · rcases Nat.lt_or_ge j n with h' | h'
        · exact hI j h'
        · obtain rfl : j = n := by omega
          rw [hu, hv, h]
    · intro next hI
      refine cfd (by omega) ?_
      rw [decide_eq_true] at k
      · exact k
      · apply List.ext_getElem?
        intro j
        rcases Nat.lt_or_ge j x.length with h' | h'
        · exact hI j h'
        · rw [List.getElem?_eq_none h', List.getElem?_eq_none (by omega)]
  · refine ct (bne_t (by omega)) ?_
    rw [decide_eq_false (fun h => hlen (by rw [h]))] at k; exact k
theorem juntoref20_Asked_c {l : List TSecret} {party : Nat} (hl : l.length ≤ 100000) (ht : ∀ x ∈ l, x.To.length < 4611686018427387904) {K : List Int → Prop} (k : K (ints (ofL l party))) : juntoref20_Asked.C l party K := by
  refine juntoref20_Asked.q ?_
  refine LoopQ.rangeL l.length (fun j s => s = ints ((List.range j).filter fun i => asked party (secAt l i))) rfl (by omega) ?_ ?_
  · rintro j _ next hj rfl hn
    obtain ⟨x, hx⟩ := get_some hj
    refine ctd (by dsimp only; omega) ⟨by dsimp only; omega, x, hx, ?_⟩
    have hlen : ((List.range j).filter fun i => asked party (secAt l i)).length ≤ j := by exact Nat.le_trans (List.length_filter_le _ _) (by simp)
    have yes : asked party x = true → AppOk 8 (ints ((List.range j).filter fun i => asked party (secAt l i)) ++ ([(j : Int)] : List Int)).length ∧ next (ints ((List.range j).filter fun i => asked party (secAt l i)) ++ ([(j : Int)] : List Int), IntKind.i64.wrap ((j : Int) + 1)) := fun h => by
      refine ⟨AppOk.big (by rw [List.length_append, ints_len, List.length_singleton]; omega), hn _ ?_⟩
      rw [rng_step, secAt_get hx, if_pos h, ints_snoc]
    have no : asked party x = false → next (ints ((List.range j).filter fun i => asked party (secAt l i)), IntKind.i64.wrap ((j : Int) + 1)) := fun h => by
      refine hn _ ?_
      rw [rng_step, secAt_get hx, h]; simp
    refine cnE (fun h0 => ?_) (fun h0 => ?_)
    · have h0' : party = 0 := by omega
      refine cnE (fun h1 => yes ?_) (fun h1 => cfd (by omega) (no ?_))
      · unfold asked; rw [if_pos h0']; simp; exact List.eq_nil_of_length_eq_zero (by omega)
      · unfold asked; rw [if_pos h0']; simp; intro e; rw [e] at h1; simp at h1
    · have h0' : party ≠ 0 := by omega
      refine ctd (by omega) (juntoref17_Is_c (ht x (mem_get hx)) (cnB (fun h1 => yes ?_) (fun h1 => no ?_)))
      · unfold asked; rw [if_neg h0']; exact h1
      · unfold asked; rw [if_neg h0']; exact h1
  · rintro _ next rfl
    exact cfd (by dsimp only; omega) k
theorem juntoref17_Read_c {p : Nat} {data : List Nat} {n : Nat} (hp : 0 < p) (hn : n ≤ 1000000) {K : List Nat → Prop} (k : K (takeN p data n)) : juntoref17_Read.C p data n K := by
  refine juntoref17_Read.q ⟨MakeOk.big (by omega) (by omega), ?_⟩
  rw [toNat_c, ← takeK_zero p data n]
  refine LoopQ.rangeS n (fun k s => s = takeK p data n k) rfl (by omega) ?_ ?_
  · rintro j _ next hj rfl hnext
    refine ctd (by dsimp only; omega) ?_
    by_cases h : j < data.length
    · obtain ⟨x, hx⟩ := get_some h
      refine ctd (by dsimp only; omega) ⟨by dsimp only; omega, x, hx, by omega, by dsimp only; omega, by dsimp only; omega, hnext _ ?_⟩
      dsimp only
      rw [tmod_nat, toNat_c, toNat_c, takeK_set _ _ _ _ _ hx]
    · refine cfd (by dsimp only; omega) (hnext _ ?_)
      dsimp only
      rw [takeK_all _ _ _ _ (.inr (by omega)), takeK_all _ _ _ _ (.inr (by omega))]
  · rintro _ next rfl
    refine cfd (by dsimp only; omega) ?_
    dsimp only
    rw [takeK_all _ _ _ _ (.inl (Nat.le_refl _))]; exact k
theorem inc_eq : ∀ (A B : List Nat), A.Pairwise (· < ·) → B.Pairwise (· < ·) → (∀ x, x ∈ A ↔ x ∈ B) → A = B
  | [], [], _, _, _ => rfl
  | [], b :: B, _, _, h => by have := (h b).2 (by simp); simp at this
  | a :: A, [], _, _, h => by have := (h a).1 (by simp); simp at this
  | a :: A, b :: B, hA, hB, h => by
    rw [List.pairwise_cons] at hA hB
    have e : a = b := by
      have h1 := (h a).1 (by simp)
      have h2 := (h b).2 (by simp)
      rcases List.mem_cons.1 h1 with h1 | h1
      · exact h1
      · rcases List.mem_cons.1 h2 with h2 | h2
        · exact h2.symm
        · have := hB.1 a h1; have := hA.1 b h2; omega
    subst e
    congr 1
    refine inc_eq A B hA.2 hB.2 fun x => ?_
    constructor
    · intro hx
      rcases List.mem_cons.1 ((h x).1 (by simp [hx])) with e | e
      · subst e; have := hA.1 _ hx; omega
      · exact e
    · intro hx
      rcases List.mem_cons.1 ((h x).2 (by simp [hx])) with e | e
      · subst e; have := hB.1 _ hx; omega
      · exact e
theorem ris_pair {n : Int} : ∀ {l : List Int} {a : Int}, 0 ≤ a → risA n a l = true → (l.map Int.toNat).Pairwise (· < ·)
  | [], _, _, _ => by simp
  | x :: l, a, ha, h => by
    have h0 := h
    simp only [risA, Bool.and_eq_true, decide_eq_true_eq] at h
    rw [List.map_cons, List.pairwise_cons]
    refine ⟨fun y hy => ?_, ris_pair (by omega) h.2⟩
    obtain ⟨z, hz, rfl⟩ := List.mem_map.1 hy
    have := ris_mem h.2 z hz; omega
theorem recips {n : Nat} {s : TSecret} (h : risA n 0 s.To = true) : ((List.range (n + 1)).filter fun q => asked q s) = if s.To = [] then [0] else s.To.map Int.toNat := by
  have hs : ((List.range (n + 1)).filter fun q => asked q s).Pairwise (· < ·) := List.pairwise_lt_range.filter _
  by_cases h0 : s.To = []
  · rw [if_pos h0]
    refine inc_eq _ _ hs (by simp) fun x => ?_
    rw [List.mem_filter, List.mem_range, List.mem_singleton]
    unfold asked
    rw [h0]
    by_cases hx : x = 0
    · subst hx; simp
    · rw [if_neg hx]; simp [hx]
  · rw [if_neg h0]
    refine inc_eq _ _ hs (ris_pair (by decide) h) fun x => ?_
    rw [List.mem_filter, List.mem_range]
    unfold asked
    by_cases hx : x = 0
    · subst hx
      rw [if_pos rfl]
      constructor
      · intro hh; simp at hh; exact absurd hh h0
      · intro hm
        obtain ⟨z, hz, e⟩ := List.mem_map.1 hm
        have := ris_mem h z hz; omega
    · rw [if_neg hx]
      constructor
      · rintro ⟨_, h2⟩
        exact List.mem_map.2 ⟨x, by simpa using h2, by omega⟩
      · intro hm
        obtain ⟨z, hz, e⟩ := List.mem_map.1 hm
        have := ris_mem h z hz
        have ez : z = (x : Int) := by omega
        subst ez
        exact ⟨by omega, by simpa using hz⟩
end Go.Proofs.Ytajdpkinlnaidaa.Pl
end
section
set_option linter.unusedVariables false
set_option linter.unusedSimpArgs false
namespace Go.Proofs.Ytajdpkinlnaidaa.Pl
open Go.Sx Go.Lf Go.Proofs.Ytajdpkinlnaidaa.Sh Go.Proofs.Ytajdpkinlnaidaa.Sp
theorem isP11 : isP 11 := ⟨by decide, by decide, fun d h2 hd => by
  have : d = 2 ∨ d = 3 := by
    rcases Nat.lt_or_ge d 4 with h | h
    · omega
    · have := Nat.mul_le_mul h h; omega
  rcases this with rfl | rfl <;> decide⟩
end Go.Proofs.Ytajdpkinlnaidaa.Pl
end
section
set_option linter.unusedVariables false
set_option linter.unusedSimpArgs false
set_option maxRecDepth 100000
set_option maxHeartbeats 8000000
namespace Go.Proofs.Ytajdpkinlnaidaa.Sh
open Go.Sx
def juntolaw20_alive.A : Ann where
  loops := fun i => match i with
    | _ => []
  plans := fun i => match i with
    | _ => .stop
def juntolaw20_alive.W  (H : Heap) (R : Value → Heap → Prop) : Prop :=
  NewH (H.push (.cells #[.int .i64 4] 3 (0, 0))) fun H_ =>
  0 ≤ (5 : Int) ∧ (5 : Int) ≤ (5 : Int) ∧ (5 : Int) * 24 ≤ 2 ^ 48 ∧ (5 : Int) < 2 ^ 62 ∧ NewH (H_.push (.cells (repl 5 [.slice none 0 0]).toArray 37 (0, 0))) fun H_2 =>
  NewH (H_2.push (.cells #[.int .u64 0] 22 (0, 0))) fun H_3 =>
  NewH (H_3.push (.cells #[.int .i64 1, .int .i64 4, .int .i64 0, .bool false, .slice (some (Addr.mk H_2.size 0 none)) 1 1] 67 (0, 0))) fun H_4 =>
  NewH (H_4.push (.cells #[.int .u64 0, .int .i64 0, .int .i64 0, .slice none 0 0, .slice none 0 0, .slice none 0 0, .int .i64 0, .slice none 0 0] 30 (0, 0))) fun H_5 =>
  MayWrite H_5 (Addr.mk H_4.size 0 none) 8 ∧ NewH (setH (setH (setH (setH (setH (setH (setH (setH H_5 (Addr.mk H_4.size 0 none) (.int .u64 11)) (((Addr.mk H_4.size 0 none)).add 1) (.int .i64 5)) (((Addr.mk H_4.size 0 none)).add 2) (.int .i64 1)) (((Addr.mk H_4.size 0 none)).add 3) (.slice (some (Addr.mk H.size 0 none)) 1 1)) (((Addr.mk H_4.size 0 none)).add 4) (.slice (some (Addr.mk H_3.size 0 none)) 1 1)) (((Addr.mk H_4.size 0 none)).add 5) (.slice (some (Addr.mk H_.size 0 none)) 5 5)) (((Addr.mk H_4.size 0 none)).add 6) (.int .i64 0)) (((Addr.mk H_4.size 0 none)).add 7) (.slice none 0 0)) fun H_6 =>
  ∃ x0 : Int, ∃ x1 : Int, ∃ x2 : Int, ∃ (x3A : Option Addr) (x3n x3c : Nat), ∃ (x4A : Option Addr) (x4n x4c : Nat), ∃ (x5A : Option Addr) (x5n x5c : Nat), ∃ x6 : Int, ∃ (x7A : Option Addr) (x7n x7c : Nat), cellH H_6 (Addr.mk H_4.size 0 none) = some (.int .u64 x0) ∧ cellH H_6 (((Addr.mk H_4.size 0 none)).add 1) = some (.int .i64 x1) ∧ cellH H_6 (((Addr.mk H_4.size 0 none)).add 2) = some (.int .i64 x2) ∧ cellH H_6 (((Addr.mk H_4.size 0 none)).add 3) = some (.slice x3A x3n x3c) ∧ cellH H_6 (((Addr.mk H_4.size 0 none)).add 4) = some (.slice x4A x4n x4c) ∧ cellH H_6 (((Addr.mk H_4.size 0 none)).add 5) = some (.slice x5A x5n x5c) ∧ cellH H_6 (((Addr.mk H_4.size 0 none)).add 6) = some (.int .i64 x6) ∧ cellH H_6 (((Addr.mk H_4.size 0 none)).add 7) = some (.slice x7A x7n x7c) ∧ NewH (H_6.push (.cells #[.int .i64 1, .int .i64 2, .int .i64 3, .int .i64 4, .int .i64 5] 3 (0, 0))) fun H_7 =>
  NewH (H_7.push (.cells #[.int .u64 7, .int .u64 10, .int .u64 2, .int .u64 5, .int .u64 8] 22 (0, 0))) fun H_8 =>
  NewH (H_8.push (.cells #[.slice none 0 0, .slice (some (Addr.mk H_7.size 0 none)) 5 5] 39 (0, 0))) fun H_9 =>
  CallH P N.open_All [.agg #[.int .u64 x0, .int .i64 x1, .int .i64 x2, .slice x3A x3n x3c, .slice x4A x4n x4c, .slice x5A x5n x5c, .int .i64 x6, .slice x7A x7n x7c], .slice (some (Addr.mk H_6.size 0 none)) 5 5, .int .i64 1, .slice (some (Addr.mk H_8.size 0 none)) 1 1] H_9 fun v H_10 =>
  ∃ (r0A : Option Addr) (r0n r0c : Nat), ∃ r10 : Int, ∃ r11 : Int, ∃ r12 : Int, ∃ (r13A : Option Addr) (r13n r13c : Nat), ∃ (r14A : Option Addr) (r14n r14c : Nat), ∃ (r15A : Option Addr) (r15n r15c : Nat), ∃ r16 : Int, ∃ (r17A : Option Addr) (r17n r17c : Nat), ∃ r2 : Int, v = .tuple #[.slice r0A r0n r0c, .agg #[.int .u64 r10, .int .i64 r11, .int .i64 r12, .slice r13A r13n r13c, .slice r14A r14n r14c, .slice r15A r15n r15c, .int .i64 r16, .slice r17A r17n r17c], .int .i64 r2] ∧ NewH (H_10.push (.cells #[.int .u64 0, .int .i64 0, .int .i64 0, .slice none 0 0, .slice none 0 0, .slice none 0 0, .int .i64 0, .slice none 0 0] 30 (0, 0))) fun H_11 =>
  MayWrite H_11 (Addr.mk H_10.size 0 none) 8 ∧ NewH (setH (setH (setH (setH (setH (setH (setH (setH H_11 (Addr.mk H_10.size 0 none) (.int .u64 r10)) (((Addr.mk H_10.size 0 none)).add 1) (.int .i64 r11)) (((Addr.mk H_10.size 0 none)).add 2) (.int .i64 r12)) (((Addr.mk H_10.size 0 none)).add 3) (.slice r13A r13n r13c)) (((Addr.mk H_10.size 0 none)).add 4) (.slice r14A r14n r14c)) (((Addr.mk H_10.size 0 none)).add 5) (.slice r15A r15n r15c)) (((Addr.mk H_10.size 0 none)).add 6) (.int .i64 r16)) (((Addr.mk H_10.size 0 none)).add 7) (.slice r17A r17n r17c)) fun H_12 =>
  cond (r2 == 0) (∃ x : Int, cellH H_12 (((Addr.mk H_10.size 0 none)).add 6) = some (.int .i64 x) ∧ cond (x == 1) (cond (((r0n : Nat) : Int) == 1) (∃ a : Addr, r0A = some a ∧ 0 ≤ (0 : Int) ∧ (0 : Int) < ((r0n : Nat) : Int) ∧ ∃ (xA : Option Addr) (xn xc : Nat), cellH H_12 (a.add 0) = some (.slice xA xn xc) ∧ cond (((xn : Nat) : Int) == 1) (∃ a2 : Addr, r0A = some a2 ∧ 0 ≤ (0 : Int) ∧ (0 : Int) < ((r0n : Nat) : Int) ∧ ∃ (xA2 : Option Addr) (xn2 xc2 : Nat), cellH H_12 (a2.add 0) = some (.slice xA2 xn2 xc2) ∧ ∃ a3 : Addr, xA2 = some a3 ∧ 0 ≤ (0 : Int) ∧ (0 : Int) < ((xn2 : Nat) : Int) ∧ ∃ x3 : Int, cellH H_12 (a3.add (0 * 3)) = some (.int .u64 x3) ∧ cond (x3 == 4) (∃ a4 : Addr, r0A = some a4 ∧ 0 ≤ (0 : Int) ∧ (0 : Int) < ((r0n : Nat) : Int) ∧ ∃ (xA3 : Option Addr) (xn3 xc3 : Nat), cellH H_12 (a4.add 0) = some (.slice xA3 xn3 xc3) ∧ ∃ a5 : Addr, xA3 = some a5 ∧ 0 ≤ (0 : Int) ∧ (0 : Int) < ((xn3 : Nat) : Int) ∧ ∃ (xA4 : Option Addr) (xn4 xc4 : Nat), cellH H_12 ((a5.add (0 * 3)).add 1) = some (.slice xA4 xn4 xc4) ∧ NewH (H_12.push (.cells #[.int .u64 4, .int .u64 3] 22 (0, 0))) fun H_13 =>
  CallH P N.juntoref01_Same [.slice xA4 xn4 xc4, .slice (some (Addr.mk H_12.size 0 none)) 2 2] H_13 fun v2 H_14 =>
  ∃ r : Bool, v2 = .bool r ∧ cond r (∃ a6 : Addr, r0A = some a6 ∧ 0 ≤ (0 : Int) ∧ (0 : Int) < ((r0n : Nat) : Int) ∧ ∃ (xA5 : Option Addr) (xn5 xc5 : Nat), cellH H_14 (a6.add 0) = some (.slice xA5 xn5 xc5) ∧ ∃ a7 : Addr, xA5 = some a7 ∧ 0 ≤ (0 : Int) ∧ (0 : Int) < ((xn5 : Nat) : Int) ∧ ∃ (xA6 : Option Addr) (xn6 xc6 : Nat), cellH H_14 ((a7.add (0 * 3)).add 2) = some (.slice xA6 xn6 xc6) ∧ NewH (H_14.push (.cells #[.int .i64 4] 3 (0, 0))) fun H_15 =>
  CallH P N.juntoref17_SameInts [.slice xA6 xn6 xc6, .slice (some (Addr.mk H_14.size 0 none)) 1 1] H_15 fun v3 H_16 =>
  ∃ r3 : Bool, v3 = .bool r3 ∧ R (.bool r3) H_16) (R (.bool false) H_14)) (R (.bool false) H_12)) (R (.bool false) H_12)) (R (.bool false) H_12)) (R (.bool false) H_12)) (R (.bool false) H_12)
theorem juntolaw20_alive.ok  (H : Heap) (R : Value → Heap → Prop) (h : juntolaw20_alive.W  H R) : CallH P N.juntolaw20_alive ([] : List Value) H R := by
  have e : juntolaw20_alive.W  H R = sxFn P T Sh.R nf juntolaw20_alive.A Try.f7.results.toList (bodyOf Try.f7) (([] : List Value) ++ List.replicate (70 - ([] : List Value).length) undef) H R := by kernel_rfl
  exact call_of_sx fits bodies mixed Try.func7 (c := bodyOf Try.f7) (by kernel_rfl) Try.ntmps7 juntolaw20_alive.A (by kernel_rfl) (e.mp h)
def juntolaw20_right.A : Ann where
  loops := fun i => match i with
    | 12310 => [(30, .int .i64)]
    | 28683 => [(18, .slice), (37, .int .i64)]
    | 57362 => [(21, .int .u64), (64, .int .i64)]
    | _ => []
  plans := fun i => match i with
    | _ => .stop
def juntolaw20_right.W (w_0 : Int) (w_1 : Int) (w_2 : Int) (w_3A : Option Addr) (w_3n w_3c : Nat) (w_4A : Option Addr) (w_4n w_4c : Nat) (w_5A : Option Addr) (w_5n w_5c : Nat) (w_6 : Int) (w_7A : Option Addr) (w_7n w_7c : Nat) (sentA : Option Addr) (sentn sentc : Nat) (holdersA : Option Addr) (holdersn holdersc : Nat) (lA : Option Addr) (ln lc : Nat) (s : Int) (to_ : Int) (y_0 : Int) (y_1A : Option Addr) (y_1n y_1c : Nat) (y_2A : Option Addr) (y_2n y_2c : Nat) (H : Heap) (R : Value → Heap → Prop) : Prop :=
  NewH (H.push (.cells #[.int .u64 w_0, .int .i64 w_1, .int .i64 w_2, .slice w_3A w_3n w_3c, .slice w_4A w_4n w_4c, .slice w_5A w_5n w_5c, .int .i64 w_6, .slice w_7A w_7n w_7c] 30 (0, 0))) fun H_ =>
  NewH (H_.push (.cells #[.int .u64 y_0, .slice y_1A y_1n y_1c, .slice y_2A y_2n y_2c] 44 (0, 0))) fun H_2 =>
  CallH P N.juntoref20_Asked [.slice lA ln lc, .int .i64 to_] H_2 fun v H_3 =>
  ∃ (rA : Option Addr) (rn rc : Nat), v = .slice rA rn rc ∧ LoopI (σ := Int) (fun κ => κ 0 H_3) fun s2 z H_4 next =>
  cond (decide (s2 < ((holdersn : Nat) : Int))) (∃ a : Addr, holdersA = some a ∧ 0 ≤ s2 ∧ s2 < ((holdersn : Nat) : Int) ∧ ∃ x : Int, cellH H_4 (a.add (Int.toNat s2)) = some (.int .i64 x) ∧ LoopI (σ := (Option Addr × Nat × Nat) × Int) (fun κ => κ ((none, 0, 0), 0) H_4) fun s3 z2 H_5 next2 =>
  cond (decide (s3.2 < ((sentn : Nat) : Int))) (∃ a2 : Addr, sentA = some a2 ∧ 0 ≤ s3.2 ∧ s3.2 < ((sentn : Nat) : Int) ∧ ∃ x0 : Int, ∃ x1 : Int, ∃ x2 : Int, ∃ (x3A : Option Addr) (x3n x3c : Nat), cellH H_5 (a2.add ((Int.toNat s3.2) * 4)) = some (.int .i64 x0) ∧ cellH H_5 ((a2.add ((Int.toNat s3.2) * 4)).add 1) = some (.int .i64 x1) ∧ cellH H_5 ((a2.add ((Int.toNat s3.2) * 4)).add 2) = some (.int .i64 x2) ∧ cellH H_5 ((a2.add ((Int.toNat s3.2) * 4)).add 3) = some (.slice x3A x3n x3c) ∧ NewH (H_5.push (.cells #[.int .i64 0, .int .i64 0, .int .i64 0, .slice none 0 0] 76 (0, 0))) fun H_6 =>
  MayWrite H_6 (Addr.mk H_5.size 0 none) 4 ∧ NewH (setH (setH (setH (setH H_6 (Addr.mk H_5.size 0 none) (.int .i64 x0)) (((Addr.mk H_5.size 0 none)).add 1) (.int .i64 x1)) (((Addr.mk H_5.size 0 none)).add 2) (.int .i64 x2)) (((Addr.mk H_5.size 0 none)).add 3) (.slice x3A x3n x3c)) fun H_7 =>
  ∃ x3 : Int, cellH H_7 (((Addr.mk H_5.size 0 none)).add 1) = some (.int .i64 x3) ∧ cond (x3 == x) (∃ x4 : Int, cellH H_7 (((Addr.mk H_5.size 0 none)).add 2) = some (.int .i64 x4) ∧ cond (x4 == to_) (∃ (xA : Option Addr) (xn xc : Nat), cellH H_7 (((Addr.mk H_5.size 0 none)).add 3) = some (.slice xA xn xc) ∧ next2 ((xA, xn, xc), IntKind.i64.wrap (s3.2 + 1)) H_7)
   (next2 ((s3.1.1, s3.1.2.1, s3.1.2.2), IntKind.i64.wrap (s3.2 + 1)) H_7)) (next2 ((s3.1.1, s3.1.2.1, s3.1.2.2), IntKind.i64.wrap (s3.2 + 1)) H_7))
   (∃ a3 : Addr, lA = some a3 ∧ 0 ≤ s ∧ s < ((ln : Nat) : Int) ∧ ∃ (xA2 : Option Addr) (xn2 xc2 : Nat), cellH H_5 ((a3.add ((Int.toNat s) * 2)).add 1) = some (.slice xA2 xn2 xc2) ∧ ∃ a4 : Addr, xA2 = some a4 ∧ 0 ≤ s2 ∧ s2 < ((xn2 : Nat) : Int) ∧ ∃ x5 : Int, cellH H_5 (a4.add (Int.toNat s2)) = some (.int .u64 x5) ∧ LoopI (σ := Int × Int) (fun κ => κ (x5, 0) H_5) fun s4 z3 H_8 next3 =>
  cond (decide (s4.2 < ((rn : Nat) : Int))) (∃ a5 : Addr, rA = some a5 ∧ 0 ≤ s4.2 ∧ s4.2 < ((rn : Nat) : Int) ∧ ∃ x6 : Int, cellH H_8 (a5.add (Int.toNat s4.2)) = some (.int .i64 x6) ∧ cond (x6 == s) (cond (x != to_) (∃ x7 : Int, cellH H_8 (Addr.mk H.size 0 none) = some (.int .u64 x7) ∧ CallH P N.juntoref17_Read [.int .u64 x7, .slice s3.1.1 s3.1.2.1 s3.1.2.2, .int .i64 ((rn : Nat) : Int)] H_8 fun v2 H_9 =>
  ∃ (rA2 : Option Addr) (rn2 rc2 : Nat), v2 = .slice rA2 rn2 rc2 ∧ ∃ a6 : Addr, rA2 = some a6 ∧ 0 ≤ s4.2 ∧ s4.2 < ((rn2 : Nat) : Int) ∧ ∃ x8 : Int, cellH H_9 (a6.add (Int.toNat s4.2)) = some (.int .u64 x8) ∧ next3 (x8, IntKind.i64.wrap (s4.2 + 1)) H_9)
   (next3 (s4.1, IntKind.i64.wrap (s4.2 + 1)) H_8)) (next3 (s4.1, IntKind.i64.wrap (s4.2 + 1)) H_8))
   (∃ x9 : Int, cellH H_8 (Addr.mk H.size 0 none) = some (.int .u64 x9) ∧ ∃ (xA3 : Option Addr) (xn3 xc3 : Nat), cellH H_8 (((Addr.mk H_.size 0 none)).add 1) = some (.slice xA3 xn3 xc3) ∧ CallH P N.juntoref02_Eval [.int .u64 x9, .slice xA3 xn3 xc3, .int .u64 (IntKind.u64.wrap x)] H_8 fun v3 H_10 =>
  ∃ r : Int, v3 = .int .u64 r ∧ ∃ (xA4 : Option Addr) (xn4 xc4 : Nat), cellH H_10 (((Addr.mk H_.size 0 none)).add 2) = some (.slice xA4 xn4 xc4) ∧ CallH P N.juntoref17_Is [.slice xA4 xn4 xc4, .int .i64 x] H_10 fun v4 H_11 =>
  ∃ r2 : Bool, v4 = .bool r2 ∧ cond ((s4.1 != r) != r2) (R (.bool false) H_11) (cond (s4.1 != r) (∃ (xA5 : Option Addr) (xn5 xc5 : Nat), cellH H_11 (((Addr.mk H.size 0 none)).add 3) = some (.slice xA5 xn5 xc5) ∧ CallH P N.juntoref17_Is [.slice xA5 xn5 xc5, .int .i64 x] H_11 fun v5 H_12 =>
  ∃ r3 : Bool, v5 = .bool r3 ∧ cond (!r3) (R (.bool false) H_12)
   (next (IntKind.i64.wrap (s2 + 1)) H_12)) (next (IntKind.i64.wrap (s2 + 1)) H_11)))))
   (R (.bool true) H_4)
theorem juntolaw20_right.ok (w_0 : Int) (w_1 : Int) (w_2 : Int) (w_3A : Option Addr) (w_3n w_3c : Nat) (w_4A : Option Addr) (w_4n w_4c : Nat) (w_5A : Option Addr) (w_5n w_5c : Nat) (w_6 : Int) (w_7A : Option Addr) (w_7n w_7c : Nat) (sentA : Option Addr) (sentn sentc : Nat) (holdersA : Option Addr) (holdersn holdersc : Nat) (lA : Option Addr) (ln lc : Nat) (s : Int) (to_ : Int) (y_0 : Int) (y_1A : Option Addr) (y_1n y_1c : Nat) (y_2A : Option Addr) (y_2n y_2c : Nat) (H : Heap) (R : Value → Heap → Prop) (h : juntolaw20_right.W w_0 w_1 w_2 w_3A w_3n w_3c w_4A w_4n w_4c w_5A w_5n w_5c w_6 w_7A w_7n w_7c sentA sentn sentc holdersA holdersn holdersc lA ln lc s to_ y_0 y_1A y_1n y_1c y_2A y_2n y_2c H R) : CallH P N.juntolaw20_right ([.agg #[.int .u64 w_0, .int .i64 w_1, .int .i64 w_2, .slice w_3A w_3n w_3c, .slice w_4A w_4n w_4c, .slice w_5A w_5n w_5c, .int .i64 w_6, .slice w_7A w_7n w_7c], .slice sentA sentn sentc, .slice holdersA holdersn holdersc, .slice lA ln lc, .int .i64 s, .int .i64 to_, .agg #[.int .u64 y_0, .slice y_1A y_1n y_1c, .slice y_2A y_2n y_2c]] : List Value) H R := by
  have e : juntolaw20_right.W w_0 w_1 w_2 w_3A w_3n w_3c w_4A w_4n w_4c w_5A w_5n w_5c w_6 w_7A w_7n w_7c sentA sentn sentc holdersA holdersn holdersc lA ln lc s to_ y_0 y_1A y_1n y_1c y_2A y_2n y_2c H R = sxFn P T Sh.R nf juntolaw20_right.A Try.f11.results.toList (bodyOf Try.f11) (([(.agg #[.int .u64 w_0, .int .i64 w_1, .int .i64 w_2, .slice w_3A w_3n w_3c, .slice w_4A w_4n w_4c, .slice w_5A w_5n w_5c, .int .i64 w_6, .slice w_7A w_7n w_7c] : Value), (.slice sentA sentn sentc : Value), (.slice holdersA holdersn holdersc : Value), (.slice lA ln lc : Value), (.int .i64 s : Value), (.int .i64 to_ : Value), (.agg #[.int .u64 y_0, .slice y_1A y_1n y_1c, .slice y_2A y_2n y_2c] : Value)] : List Value) ++ List.replicate (115 - ([(.agg #[.int .u64 w_0, .int .i64 w_1, .int .i64 w_2, .slice w_3A w_3n w_3c, .slice w_4A w_4n w_4c, .slice w_5A w_5n w_5c, .int .i64 w_6, .slice w_7A w_7n w_7c] : Value), (.slice sentA sentn sentc : Value), (.slice holdersA holdersn holdersc : Value), (.slice lA ln lc : Value), (.int .i64 s : Value), (.int .i64 to_ : Value), (.agg #[.int .u64 y_0, .slice y_1A y_1n y_1c, .slice y_2A y_2n y_2c] : Value)] : List Value).length) undef) H R := by kernel_rfl
  exact call_of_sx fits bodies mixed Try.func11 (c := bodyOf Try.f11) (by kernel_rfl) Try.ntmps11 juntolaw20_right.A (by kernel_rfl) (e.mp h)
end Go.Proofs.Ytajdpkinlnaidaa.Sh
namespace Go.Proofs.Ytajdpkinlnaidaa.Sh
open Go.Sx Go.Lf
def juntolaw20_alive.C  (K : Bool → Prop) : Prop :=
  ∀ (Z : Nat → Prop) (H : Heap), ∀ KK : Value → Heap → Prop,
    (∀ (Z' : Nat → Prop) (H' : Heap), Ext H H' → Old Z H Z' → ∀ (r0 : Bool), K r0 → KK (.bool r0) H') →
    CallH P N.juntolaw20_alive [] H KK
def juntolaw20_alive.Q  (K : Bool → Prop) : Prop :=
  MakeOk 24 (5 : Int) ∧ open_All.C (⟨(⟨11, 5, 1⟩ : TSetup), [4], [(⟨1, 4, 0, false, [0]⟩ : TAct)], (List.replicate 5 []), 0, []⟩ : TWorld) ([1, 2, 3, 4, 5]) 1 ([(⟨[], [7, 10, 2, 5, 8]⟩ : TSecret)]) (fun (r : (List (List TOpened))) (r2 : TWorld) (r3 : Int) =>
  cond (r3 == 0) (cond (r2.Round == 1) (cond (((r.length : Nat) : Int) == 1) (0 ≤ (0 : Int) ∧ (0 : Int) < ((r.length : Nat) : Int) ∧ ∃ x : (List TOpened), r[0]? = some x ∧ cond (((x.length : Nat) : Int) == 1) (0 ≤ (0 : Int) ∧ (0 : Int) < ((r.length : Nat) : Int) ∧ ∃ x2 : (List TOpened), r[0]? = some x2 ∧ 0 ≤ (0 : Int) ∧ ∃ x3 : TOpened, x2[0]? = some x3 ∧ cond ((x3.Value : Int) == 4) (0 ≤ (0 : Int) ∧ (0 : Int) < ((r.length : Nat) : Int) ∧ ∃ x4 : (List TOpened), r[0]? = some x4 ∧ 0 ≤ (0 : Int) ∧ ∃ x5 : TOpened, x4[0]? = some x5 ∧ juntoref01_Same.C x5.Poly ([4, 3]) (fun (x6 : Bool) =>
  cond x6 (0 ≤ (0 : Int) ∧ (0 : Int) < ((r.length : Nat) : Int) ∧ ∃ x7 : (List TOpened), r[0]? = some x7 ∧ 0 ≤ (0 : Int) ∧ ∃ x8 : TOpened, x7[0]? = some x8 ∧ juntoref17_SameInts.C x8.Wrong ([4]) (fun (x9 : Bool) =>
  K x9))
   (K false)))
   (K false))
   (K false))
   (K false))
   (K false))
   (K false))
theorem juntolaw20_alive.q  {K : Bool → Prop} (q : juntolaw20_alive.Q  K) : juntolaw20_alive.C  K := by
  intro Z H  KK hk
  apply juntolaw20_alive.ok
  unfold juntolaw20_alive.W
  unfold juntolaw20_alive.Q at q
  obtain ⟨σ, hz, hσ⟩ := tags Z
  have hs : Stp ([1, 2, 3, 4, 5, 6, 7, 8, 9, 10, 11, 12] : List Nat) σ H σ H := Stp.refl _ _ _
  clear hz
  refine NewH.mk fun H_ e => ?_
  obtain ⟨xσ, st, f⟩ := SlO.lit (E := i64L) σ 1 (xs := [4]) (l := [[_]]) e rfl (.cons rfl .nil) (show (1 : Nat) ≤ 17592186044416 by decide)
  obtain ⟨q2, q⟩ := q
  refine ⟨q2.1, Int.le_refl _, q2.w1, q2.w2, NewH.mk fun H_2 e2 => ?_⟩
  obtain ⟨xσ2, st2, f2⟩ := SlO.made (O := (rdM (slL u64L))) xσ 2 e2 (slL_zero _) q2.len
  refine NewH.mk fun H_3 e3 => ?_
  obtain ⟨xσ3, st3, f3⟩ := SlO.lit (E := u64L) xσ2 3 (xs := [0]) (l := [[_]]) e3 rfl (.cons rfl .nil) (show (1 : Nat) ≤ 17592186044416 by decide)
  obtain ⟨xσ4, st4, f3⟩ := SlO.freeze f3
  refine NewH.mk fun H_4 e4 => ?_
  obtain ⟨xσ5, st5, f4⟩ := SlO.lit (E := TAct.L) xσ4 4 (xs := [(⟨1, 4, 0, false, [0]⟩ : TAct)]) (l := [[_, _, _, _, _]]) e4 rfl (.cons (show (TAct.L).rep _ _ (⟨1, 4, 0, false, [0]⟩ : TAct) _ from ⟨_, _, rfl, f3⟩) .nil) (show (1 : Nat) ≤ 17592186044416 by decide)
  refine NewH.mk fun H_5 e5 => ?_
  obtain ⟨xσ6, st6, b⟩ := BoxF.new xσ5 5 e5
  replace f := f.step (st2.then (st3.then (st4.then (st5.then st6))))
  obtain ⟨xσ7, st7, f⟩ := SlO.freeze f
  replace b := b.step st7
  refine ⟨b.mayN 0 8 (show (8 : Nat) ≤ 8 by decide), NewH.mk fun H_6 e6 => ?_⟩
  obtain ⟨st8, b⟩ := b.wr8 (by simp) e6
  simp only [List.take_zero, List.take_succ_cons, List.drop_zero, List.drop_succ_cons, List.drop_nil, List.length_cons, List.length_nil, List.cons_append, List.nil_append, List.append_nil, Nat.zero_add, Nat.reduceAdd] at b
  refine ⟨_, _, _, _, _, _, _, _, _, _, _, _, _, _, _, _, b.cell0, b.cell 1 rfl, b.cell 2 rfl, b.cell 3 rfl, b.cell 4 rfl, b.cell 5 rfl, b.cell 6 rfl, b.cell 7 rfl, ?_⟩
  refine NewH.mk fun H_7 e7 => ?_
  obtain ⟨xσ8, st9, f5⟩ := SlO.lit (E := i64L) xσ7 6 (xs := [1, 2, 3, 4, 5]) (l := [[_], [_], [_], [_], [_]]) e7 rfl (.cons rfl (.cons rfl (.cons rfl (.cons rfl (.cons rfl .nil))))) (show (5 : Nat) ≤ 17592186044416 by decide)
  refine NewH.mk fun H_8 e8 => ?_
  obtain ⟨xσ9, st10, f6⟩ := SlO.lit (E := u64L) xσ8 7 (xs := [7, 10, 2, 5, 8]) (l := [[_], [_], [_], [_], [_]]) e8 rfl (.cons rfl (.cons rfl (.cons rfl (.cons rfl (.cons rfl .nil))))) (show (5 : Nat) ≤ 17592186044416 by decide)
  obtain ⟨xσ10, st11, f6⟩ := SlO.freeze f6
  refine NewH.mk fun H_9 e9 => ?_
  obtain ⟨xσ11, st12, f7⟩ := SlO.lit (E := TSecret.L) xσ10 8 (xs := [(⟨[], [7, 10, 2, 5, 8]⟩ : TSecret)]) (l := [[_, _]]) e9 rfl (.cons (show (TSecret.L).rep _ _ (⟨[], [7, 10, 2, 5, 8]⟩ : TSecret) _ from ⟨_, _, _, _, rfl, (SlF.nil _ _ _ _ _), f6⟩) .nil) (show (1 : Nat) ≤ 17592186044416 by decide)
  replace f4 := f4.step (st6.then (st7.then (st8.then (st9.then (st10.then (st11.then st12))))))
  obtain ⟨xσ12, st13, f4⟩ := SlO.freeze f4
  replace f2 := f2.step (st3.then (st4.then (st5.then (st6.then (st7.then (st8.then (st9.then (st10.then (st11.then (st12.then st13))))))))))
  obtain ⟨xσ13, st14, f2⟩ := SlO.freeze f2
  replace f5 := f5.step (st10.then (st11.then (st12.then (st13.then st14))))
  obtain ⟨xσ14, st15, f5⟩ := SlO.freeze f5
  replace f7 := f7.step (st13.then (st14.then st15))
  obtain ⟨xσ15, st16, f7⟩ := SlO.freeze f7
  replace f := f.step (st8.then (st9.then (st10.then (st11.then (st12.then (st13.then (st14.then (st15.then st16))))))))
  replace f4 := f4.step (st14.then (st15.then st16))
  replace f2 := f2.step (st15.then st16)
  replace f5 := f5.step st16
  refine q (Zt xσ15) H_9 _ rfl _ _ _ rfl f _ _ _ rfl f4 _ _ _ (rl_len _ _) f2 _ _ _ rfl (SlF.nil _ _ _ _ _) _ _ _ rfl f5 _ _ _ rfl f7 _ (fun Z2 H_10 hE hO r Y hY A n c hn f8 r2 v he A2 n2 c2 hn2 f9 A3 n3 c3 hn3 f10 A4 n4 c4 hn4 f11 A5 n5 c5 hn5 f12 r3 q => ?_)
  obtain ⟨xσ16, st17, fz, fy⟩ := call1 hE hO xσ15 9 (fun _ h => h) hY
  replace f8 := f8.keep fz fy
  replace f9 := f9.keep fz
  replace f10 := f10.keep fz
  replace f11 := f11.keep fz
  replace f12 := f12.keep fz
  cases hn
  cases he
  cases hn2
  cases hn3
  cases hn4
  cases hn5
  refine ⟨_, _, _, _, _, _, _, _, _, _, _, _, _, _, _, _, _, _, _, _, rfl, ?_⟩
  refine NewH.mk fun H_11 e10 => ?_
  obtain ⟨xσ17, st18, b2⟩ := BoxF.new xσ16 10 e10
  refine ⟨b2.mayN 0 8 (show (8 : Nat) ≤ 8 by decide), NewH.mk fun H_12 e11 => ?_⟩
  obtain ⟨st19, b2⟩ := b2.wr8 (by simp) e11
  simp only [List.take_zero, List.take_succ_cons, List.drop_zero, List.drop_succ_cons, List.drop_nil, List.length_cons, List.length_nil, List.cons_append, List.nil_append, List.append_nil, Nat.zero_add, Nat.reduceAdd] at b2
  refine condI (fun q => ?_) (fun q => ?_) q
  · refine ⟨_, b2.cell 6 rfl, ?_⟩
    refine condI (fun q => ?_) (fun q => ?_) q
    · refine condI (fun q => ?_) (fun q => ?_) q
      · obtain ⟨h0, hi2, q⟩ := q
        replace f8 := f8.step (st18.then st19)
        obtain ⟨a, ha, hi⟩ := f8.addr h0 rfl hi2
        refine ⟨a, ha, hi.1, hi.2, ?_⟩
        obtain ⟨x, hx, q⟩ := q
        obtain ⟨A6, c6, hc, f13⟩ := f8.lds ha h0 hx
        refine ⟨_, _, _, hc.val, ?_⟩
        refine condI (fun q => ?_) (fun q => ?_) q
        · obtain ⟨h02, hi4, q⟩ := q
          obtain ⟨a2, ha2, hi3⟩ := f8.addr h02 rfl hi4
          refine ⟨a2, ha2, hi3.1, hi3.2, ?_⟩
          obtain ⟨x2, hx2, q⟩ := q
          obtain ⟨A7, c7, hc2, f14⟩ := f8.lds ha2 h02 hx2
          refine ⟨_, _, _, hc2.val, ?_⟩
          obtain ⟨h03, x3, hx3, q⟩ := q
          obtain ⟨a3, ha3, hi5⟩ := f14.addr h03 hx3 rfl
          refine ⟨a3, ha3, hi5.1, hi5.2, ?_⟩
          obtain ⟨cs, hr, hc3⟩ := f14.ldN (k := 3) rfl ha3 h03 hx3
          obtain ⟨A8, c8, A9, c9, rfl, f15, f16⟩ := hr
          have hc4 := hc3 0 _ rfl
          refine ⟨_, hc4.val, ?_⟩
          refine condI (fun q => ?_) (fun q => ?_) q
          · obtain ⟨h04, hi7, q⟩ := q
            obtain ⟨a4, ha4, hi6⟩ := f8.addr h04 rfl hi7
            refine ⟨a4, ha4, hi6.1, hi6.2, ?_⟩
            obtain ⟨x4, hx4, q⟩ := q
            obtain ⟨A10, c10, hc5, f17⟩ := f8.lds ha4 h04 hx4
            refine ⟨_, _, _, hc5.val, ?_⟩
            obtain ⟨h05, x5, hx5, q⟩ := q
            obtain ⟨a5, ha5, hi8⟩ := f17.addr h05 hx5 rfl
            refine ⟨a5, ha5, hi8.1, hi8.2, ?_⟩
            obtain ⟨cs2, hr2, hc6⟩ := f17.ldN (k := 3) rfl ha5 h05 hx5
            obtain ⟨A11, c11, A12, c12, rfl, f18, f19⟩ := hr2
            have hc7 := hc6 1 _ rfl
            refine ⟨_, _, _, hc7.val, ?_⟩
            refine NewH.mk fun H_13 e12 => ?_
            obtain ⟨xσ18, st20, f20⟩ := SlO.lit (E := u64L) xσ17 11 (xs := [4, 3]) (l := [[_], [_]]) e12 rfl (.cons rfl (.cons rfl .nil)) (show (2 : Nat) ≤ 17592186044416 by decide)
            replace f18 := f18.step st20
            refine q (fun i => xσ18 i = 0 ∨ xσ18 i = 11) H_13 _ _ _ rfl (f18.wide (fun i h => .inl h)) _ _ _ rfl (f20.read (fun i h => .inl h) (fun i h => .inr (h))) _ (fun Z3 H_14 hE2 hO2 x6 q => ?_)
            obtain ⟨xσ19, st21⟩ := call0 hE2 xσ18
            refine ⟨_, rfl, ?_⟩
            refine condI (fun q => ?_) (fun q => ?_) q
            · obtain ⟨h06, hi10, q⟩ := q
              replace f8 := f8.step (st20.then st21)
              obtain ⟨a6, ha6, hi9⟩ := f8.addr h06 rfl hi10
              refine ⟨a6, ha6, hi9.1, hi9.2, ?_⟩
              obtain ⟨x7, hx6, q⟩ := q
              obtain ⟨A13, c13, hc8, f21⟩ := f8.lds ha6 h06 hx6
              refine ⟨_, _, _, hc8.val, ?_⟩
              obtain ⟨h07, x8, hx7, q⟩ := q
              obtain ⟨a7, ha7, hi11⟩ := f21.addr h07 hx7 rfl
              refine ⟨a7, ha7, hi11.1, hi11.2, ?_⟩
              obtain ⟨cs3, hr3, hc9⟩ := f21.ldN (k := 3) rfl ha7 h07 hx7
              obtain ⟨A14, c14, A15, c15, rfl, f22, f23⟩ := hr3
              have hc10 := hc9 2 _ rfl
              refine ⟨_, _, _, hc10.val, ?_⟩
              refine NewH.mk fun H_15 e13 => ?_
              obtain ⟨xσ20, st22, f24⟩ := SlO.lit (E := i64L) xσ19 12 (xs := [4]) (l := [[_]]) e13 rfl (.cons rfl .nil) (show (1 : Nat) ≤ 17592186044416 by decide)
              replace f23 := f23.step st22
              refine q (fun i => xσ20 i = 0 ∨ xσ20 i = 12) H_15 _ _ _ rfl (f23.wide (fun i h => .inl h)) _ _ _ rfl (f24.read (fun i h => .inl h) (fun i h => .inr (h))) _ (fun Z4 H_16 hE3 hO3 x9 q => ?_)
              obtain ⟨xσ21, st23⟩ := call0 hE3 xσ20
              refine ⟨_, rfl, ?_⟩
              replace hs := hs.trans (st.then (st2.then (st3.then (st4.then (st5.then (st6.then (st7.then (st8.then (st9.then (st10.then (st11.then (st12.then (st13.then (st14.then (st15.then (st16.then (st17.then (st18.then (st19.then (st20.then (st21.then (st22.then st23))))))))))))))))))))))
              exact hk (Zt xσ21) _ (hs.ext hσ) (hs.old hσ) _ q
            · replace hs := hs.trans (st.then (st2.then (st3.then (st4.then (st5.then (st6.then (st7.then (st8.then (st9.then (st10.then (st11.then (st12.then (st13.then (st14.then (st15.then (st16.then (st17.then (st18.then (st19.then (st20.then st21))))))))))))))))))))
              exact hk (Zt xσ19) _ (hs.ext hσ) (hs.old hσ) _ q
          · replace hs := hs.trans (st.then (st2.then (st3.then (st4.then (st5.then (st6.then (st7.then (st8.then (st9.then (st10.then (st11.then (st12.then (st13.then (st14.then (st15.then (st16.then (st17.then (st18.then st19))))))))))))))))))
            exact hk (Zt xσ17) _ (hs.ext hσ) (hs.old hσ) _ q
        · replace hs := hs.trans (st.then (st2.then (st3.then (st4.then (st5.then (st6.then (st7.then (st8.then (st9.then (st10.then (st11.then (st12.then (st13.then (st14.then (st15.then (st16.then (st17.then (st18.then st19))))))))))))))))))
          exact hk (Zt xσ17) _ (hs.ext hσ) (hs.old hσ) _ q
      · replace hs := hs.trans (st.then (st2.then (st3.then (st4.then (st5.then (st6.then (st7.then (st8.then (st9.then (st10.then (st11.then (st12.then (st13.then (st14.then (st15.then (st16.then (st17.then (st18.then st19))))))))))))))))))
        exact hk (Zt xσ17) _ (hs.ext hσ) (hs.old hσ) _ q
    · replace hs := hs.trans (st.then (st2.then (st3.then (st4.then (st5.then (st6.then (st7.then (st8.then (st9.then (st10.then (st11.then (st12.then (st13.then (st14.then (st15.then (st16.then (st17.then (st18.then st19))))))))))))))))))
      exact hk (Zt xσ17) _ (hs.ext hσ) (hs.old hσ) _ q
  · replace hs := hs.trans (st.then (st2.then (st3.then (st4.then (st5.then (st6.then (st7.then (st8.then (st9.then (st10.then (st11.then (st12.then (st13.then (st14.then (st15.then (st16.then (st17.then (st18.then st19))))))))))))))))))
    exact hk (Zt xσ17) _ (hs.ext hσ) (hs.old hσ) _ q
def juntolaw20_right.C (w : TWorld) (sent : (List TSent)) (holders : (List Int)) (l : (List TSecret)) (s : Int) (to_ : Int) (y : TOpened) (K : Bool → Prop) : Prop :=
  ∀ (Z : Nat → Prop) (H : Heap), ∀ (wv : Int), wv = (w.Setup.P : Int) → ∀ (wA : Option Addr) (wn wc : Nat), wn = w.Corrupted.length → SlF i64L Z H wA wc w.Corrupted → ∀ (wA2 : Option Addr) (wn2 wc2 : Nat), wn2 = w.Acts.length → SlF TAct.L Z H wA2 wc2 w.Acts → ∀ (wA3 : Option Addr) (wn3 wc3 : Nat), wn3 = w.Tapes.length → SlF (slL u64L) Z H wA3 wc3 w.Tapes → ∀ (wA4 : Option Addr) (wn4 wc4 : Nat), wn4 = w.Sent.length → SlF TSent.L Z H wA4 wc4 w.Sent → ∀ (sentA : Option Addr) (sentn sentc : Nat), sentn = sent.length → SlF TSent.L Z H sentA sentc sent → ∀ (holdersA : Option Addr) (holdersn holdersc : Nat), holdersn = holders.length → SlF i64L Z H holdersA holdersc holders → ∀ (lA : Option Addr) (ln lc : Nat), ln = l.length → SlF TSecret.L Z H lA lc l → ∀ (yv : Int), yv = (y.Value : Int) → ∀ (yA : Option Addr) (yn yc : Nat), yn = y.Poly.length → SlF u64L Z H yA yc y.Poly → ∀ (yA2 : Option Addr) (yn2 yc2 : Nat), yn2 = y.Wrong.length → SlF i64L Z H yA2 yc2 y.Wrong → ∀ KK : Value → Heap → Prop,
    (∀ (Z' : Nat → Prop) (H' : Heap), Ext H H' → Old Z H Z' → ∀ (r0 : Bool), K r0 → KK (.bool r0) H') →
    CallH P N.juntolaw20_right [.agg #[.int .u64 wv, .int .i64 w.Setup.N, .int .i64 w.Setup.T_, .slice wA wn wc, .slice wA2 wn2 wc2, .slice wA3 wn3 wc3, .int .i64 w.Round, .slice wA4 wn4 wc4], .slice sentA sentn sentc, .slice holdersA holdersn holdersc, .slice lA ln lc, .int .i64 s, .int .i64 to_, .agg #[.int .u64 yv, .slice yA yn yc, .slice yA2 yn2 yc2]] H KK
def juntolaw20_right.Q (w : TWorld) (sent : (List TSent)) (holders : (List Int)) (l : (List TSecret)) (s : Int) (to_ : Int) (y : TOpened) (K : Bool → Prop) : Prop :=
  juntoref20_Asked.C l to_ (fun (x : (List Int)) =>
  LoopQ (τ := Int) 0 fun t nextQ =>
  cond (decide (t < ((holders.length : Nat) : Int))) (0 ≤ t ∧ ∃ x2 : Int, holders[Int.toNat t]? = some x2 ∧ LoopQ (τ := List Nat × Int) (([] : List Nat), 0) fun t2 nextQ2 =>
  cond (decide (t2.2 < ((sent.length : Nat) : Int))) (0 ≤ t2.2 ∧ ∃ x3 : TSent, sent[Int.toNat t2.2]? = some x3 ∧ cond (x3.From == x2) (cond (x3.To == to_) (nextQ2 (x3.Data, IntKind.i64.wrap (t2.2 + 1)))
   (nextQ2 (t2.1, IntKind.i64.wrap (t2.2 + 1))))
   (nextQ2 (t2.1, IntKind.i64.wrap (t2.2 + 1))))
   (0 ≤ s ∧ ∃ x4 : TSecret, l[Int.toNat s]? = some x4 ∧ 0 ≤ t ∧ ∃ x5 : Nat, x4.Shares[Int.toNat t]? = some x5 ∧ LoopQ (τ := Nat × Int) (x5, 0) fun t3 nextQ3 =>
  cond (decide (t3.2 < ((x.length : Nat) : Int))) (0 ≤ t3.2 ∧ t3.2 < ((x.length : Nat) : Int) ∧ ∃ x7 : Int, x[Int.toNat t3.2]? = some x7 ∧ cond (x7 == s) (cond (x2 != to_) (juntoref17_Read.C w.Setup.P t2.1 ((x.length : Nat) : Int) (fun (x8 : (List Nat)) =>
  0 ≤ t3.2 ∧ t3.2 < ((x8.length : Nat) : Int) ∧ ∃ x9 : Nat, x8[Int.toNat t3.2]? = some x9 ∧ nextQ3 (x9, IntKind.i64.wrap (t3.2 + 1))))
   (nextQ3 (t3.1, IntKind.i64.wrap (t3.2 + 1))))
   (nextQ3 (t3.1, IntKind.i64.wrap (t3.2 + 1))))
   (juntoref02_Eval.C w.Setup.P y.Poly ((IntKind.u64.wrap x2).toNat) (fun (x10 : Nat) =>
  juntoref17_Is.C y.Wrong x2 (fun (x11 : Bool) =>
  cond (((t3.1 : Int) != (x10 : Int)) != x11) (K false)
   (cond ((t3.1 : Int) != (x10 : Int)) (juntoref17_Is.C w.Corrupted x2 (fun (x12 : Bool) =>
  cond (!x12) (K false)
   (nextQ (IntKind.i64.wrap (t + 1)))))
   (nextQ (IntKind.i64.wrap (t + 1)))))))))
   (K true))
theorem juntolaw20_right.q {w : TWorld} {sent : (List TSent)} {holders : (List Int)} {l : (List TSecret)} {s : Int} {to_ : Int} {y : TOpened} {K : Bool → Prop} (q : juntolaw20_right.Q w sent holders l s to_ y K) : juntolaw20_right.C w sent holders l s to_ y K := by
  intro Z H wv he wA wn wc hn f wA2 wn2 wc2 hn2 f2 wA3 wn3 wc3 hn3 f3 wA4 wn4 wc4 hn4 f4 sentA sentn sentc hn5 f5 holdersA holdersn holdersc hn6 f6 lA ln lc hn7 f7 yv he2 yA yn yc hn8 f8 yA2 yn2 yc2 hn9 f9 KK hk
  cases he
  cases hn
  cases hn2
  cases hn3
  cases hn4
  cases hn5
  cases hn6
  cases hn7
  cases he2
  cases hn8
  cases hn9
  apply juntolaw20_right.ok
  unfold juntolaw20_right.W
  unfold juntolaw20_right.Q at q
  obtain ⟨σ, hz, hσ⟩ := tags Z
  have hs : Stp ([1, 2, 3] : List Nat) σ H σ H := Stp.refl _ _ _
  replace f := f.wide hz
  replace f2 := f2.wide hz
  replace f3 := f3.wide hz
  replace f4 := f4.wide hz
  replace f5 := f5.wide hz
  replace f6 := f6.wide hz
  replace f7 := f7.wide hz
  replace f8 := f8.wide hz
  replace f9 := f9.wide hz
  clear hz
  refine NewH.mk fun H_ e => ?_
  obtain ⟨xσ, st, b⟩ := BoxF.new σ 0 e
  refine NewH.mk fun H_2 e2 => ?_
  obtain ⟨xσ2, st2, b2⟩ := BoxF.new xσ 0 e2
  replace f7 := f7.step (st.then st2)
  refine q (Zt xσ2) H_2 _ _ _ rfl f7 _ (fun Z2 H_3 hE hO x Y hY A n c hn10 f10 q => ?_)
  obtain ⟨xσ3, st3, fz, fy⟩ := call1 hE hO xσ2 1 (fun _ h => h) hY
  replace f10 := f10.keep fz fy
  cases hn10
  refine ⟨_, _, _, rfl, ?_⟩
  refine LoopI.ofQ q (fun t_ s_ hp_ => ∃ (σ_ : Nat → Nat), Stp [2, 3] xσ3 H_3 σ_ hp_ ∧ t_ = s_) (fun h k => h _ _ k) ⟨_, Stp.refl _ _ _, rfl⟩ ?_
  rintro t _ _ H_4 next nextQ ⟨xσ4, st4, rfl⟩ q hnext
  try dsimp only at q ⊢
  have sl0 := st4
  refine condI (fun q => ?_) (fun q => ?_) q
  · obtain ⟨h0, x2, hx, q⟩ := q
    replace f6 := f6.step (st.then (st2.then (st3.then st4)))
    obtain ⟨a, ha, hi⟩ := f6.addr h0 hx rfl
    refine ⟨a, ha, hi.1, hi.2, ?_⟩
    have hc := f6.ldi ha h0 hx
    refine ⟨_, hc.val, ?_⟩
    have f11 := SlF.nil u64L (Zt xσ4) H_4 none 0
    refine LoopI.ofQ q (fun t_ s_ hp_ => ∃ (σ_ : Nat → Nat) (A0_ : Option Addr) (n0_ c0_ : Nat), Stp [2] xσ4 H_4 σ_ hp_ ∧ ((A0_, n0_, c0_), t_.2) = s_ ∧ n0_ = t_.1.length ∧ SlF u64L (Zt σ_) hp_ A0_ c0_ t_.1) (fun h k => h _ _ k) ⟨_, _, _, _, Stp.refl _ _ _, rfl, rfl, f11⟩ ?_
    rintro t2 _ _ H_5 next2 nextQ2 ⟨xσ5, A2, n2, c2, st5, rfl, rfl, f12⟩ q hnext2
    try dsimp only at q ⊢
    have sl2 := st5
    refine condI (fun q => ?_) (fun q => ?_) q
    · obtain ⟨h02, x3, hx2, q⟩ := q
      replace f5 := f5.step (st.then (st2.then (st3.then (st4.then st5))))
      obtain ⟨a2, ha2, hi2⟩ := f5.addr h02 hx2 rfl
      refine ⟨a2, ha2, hi2.1, hi2.2, ?_⟩
      obtain ⟨cs, hr, hc2⟩ := f5.ldN (k := 4) rfl ha2 h02 hx2
      obtain ⟨A3, c3, rfl, f13⟩ := hr
      have hc3 := hc2 0 _ rfl
      have hc4 := hc2 1 _ rfl
      have hc5 := hc2 2 _ rfl
      have hc6 := hc2 3 _ rfl
      refine ⟨_, _, _, _, _, _, hc3.val, hc4.val, hc5.val, hc6.val, ?_⟩
      refine NewH.mk fun H_6 e3 => ?_
      obtain ⟨xσ6, st6, b3⟩ := BoxF.new xσ5 2 e3
      refine ⟨b3.mayN 0 4 (show (4 : Nat) ≤ 4 by decide), NewH.mk fun H_7 e4 => ?_⟩
      obtain ⟨st7, b3⟩ := b3.wr4 (by simp) e4
      simp only [List.take_zero, List.take_succ_cons, List.drop_zero, List.drop_succ_cons, List.drop_nil, List.length_cons, List.length_nil, List.cons_append, List.nil_append, List.append_nil, Nat.zero_add, Nat.reduceAdd] at b3
      refine ⟨_, b3.cell 1 rfl, ?_⟩
      refine condI (fun q => ?_) (fun q => ?_) q
      · refine ⟨_, b3.cell 2 rfl, ?_⟩
        refine condI (fun q => ?_) (fun q => ?_) q
        · refine ⟨_, _, _, b3.cell 3 rfl, ?_⟩
          have c_0 := st6.then st7
          replace sl2 := sl2.trans c_0
          replace f13 := f13.step c_0
          exact hnext2 (x3.Data, IntKind.i64.wrap (t2.2 + 1)) _ _ ⟨_, _, _, _, sl2, rfl, rfl, f13⟩ q
        · have c_1 := st6.then st7
          replace sl2 := sl2.trans c_1
          replace f12 := f12.step c_1
          exact hnext2 (t2.1, IntKind.i64.wrap (t2.2 + 1)) _ _ ⟨_, _, _, _, sl2, rfl, rfl, f12⟩ q
      · have c_2 := st6.then st7
        replace sl2 := sl2.trans c_2
        replace f12 := f12.step c_2
        exact hnext2 (t2.1, IntKind.i64.wrap (t2.2 + 1)) _ _ ⟨_, _, _, _, sl2, rfl, rfl, f12⟩ q
    · obtain ⟨h03, x4, hx3, q⟩ := q
      replace f7 := f7.step (st3.then (st4.then st5))
      obtain ⟨a3, ha3, hi3⟩ := f7.addr h03 hx3 rfl
      refine ⟨a3, ha3, hi3.1, hi3.2, ?_⟩
      obtain ⟨cs2, hr2, hc7⟩ := f7.ldN (k := 2) rfl ha3 h03 hx3
      obtain ⟨A4, c4, A5, c5, rfl, f14, f15⟩ := hr2
      have hc8 := hc7 1 _ rfl
      refine ⟨_, _, _, hc8.val, ?_⟩
      obtain ⟨h04, x5, hx4, q⟩ := q
      obtain ⟨a4, ha4, hi4⟩ := f15.addr h04 hx4 rfl
      refine ⟨a4, ha4, hi4.1, hi4.2, ?_⟩
      have hc9 := f15.ldu ha4 h04 hx4
      refine ⟨_, hc9.val, ?_⟩
      refine LoopI.ofQ q (fun t_ s_ hp_ => ∃ (σ_ : Nat → Nat) (x0_ : Int), Stp [3] xσ5 H_5 σ_ hp_ ∧ (x0_, t_.2) = s_ ∧ x0_ = ((t_.1 : Nat) : Int)) (fun h k => h _ _ k) ⟨_, _, Stp.refl _ _ _, rfl, rfl⟩ ?_
      rintro t3 _ _ H_8 next3 nextQ3 ⟨xσ7, x6, st8, rfl, rfl⟩ q hnext3
      try dsimp only at q ⊢
      have sl3 := st8
      refine condI (fun q => ?_) (fun q => ?_) q
      · obtain ⟨h05, hi6, q⟩ := q
        replace f10 := f10.step (st4.then (st5.then st8))
        obtain ⟨a5, ha5, hi5⟩ := f10.addr h05 rfl hi6
        refine ⟨a5, ha5, hi5.1, hi5.2, ?_⟩
        obtain ⟨x7, hx5, q⟩ := q
        have hc10 := f10.ldi ha5 h05 hx5
        refine ⟨_, hc10.val, ?_⟩
        refine condI (fun q => ?_) (fun q => ?_) q
        · refine condI (fun q => ?_) (fun q => ?_) q
          · replace b := b.step (st2.then (st3.then (st4.then (st5.then st8))))
            refine ⟨_, b.cell0, ?_⟩
            replace f12 := f12.step st8
            refine q (Zt xσ7) H_8 _ rfl _ _ _ rfl f12 _ (fun Z3 H_9 hE2 hO2 x8 Y2 hY2 A6 n3 c6 hn11 f16 q => ?_)
            obtain ⟨xσ8, st9, fz2, fy2⟩ := call1 hE2 hO2 xσ7 3 (fun _ h => h) hY2
            replace f16 := f16.keep fz2 fy2
            cases hn11
            refine ⟨_, _, _, rfl, ?_⟩
            obtain ⟨h06, hi8, q⟩ := q
            obtain ⟨a6, ha6, hi7⟩ := f16.addr h06 rfl hi8
            refine ⟨a6, ha6, hi7.1, hi7.2, ?_⟩
            obtain ⟨x9, hx6, q⟩ := q
            have hc11 := f16.ldu ha6 h06 hx6
            refine ⟨_, hc11.val, ?_⟩
            replace sl3 := sl3.trans st9
            exact hnext3 (x9, IntKind.i64.wrap (t3.2 + 1)) _ _ ⟨_, _, sl3, rfl, rfl⟩ q
          · exact hnext3 (t3.1, IntKind.i64.wrap (t3.2 + 1)) _ _ ⟨_, _, sl3, rfl, rfl⟩ q
        · exact hnext3 (t3.1, IntKind.i64.wrap (t3.2 + 1)) _ _ ⟨_, _, sl3, rfl, rfl⟩ q
      · replace b := b.step (st2.then (st3.then (st4.then (st5.then st8))))
        refine ⟨_, b.cell0, ?_⟩
        replace b2 := b2.step (st3.then (st4.then (st5.then st8)))
        refine ⟨_, _, _, b2.cell 1 rfl, ?_⟩
        replace f8 := f8.step (st.then (st2.then (st3.then (st4.then (st5.then st8)))))
        refine q (Zt xσ7) H_8 _ rfl _ _ _ rfl f8 _ (natEq (nnw _)) _ (fun Z4 H_10 hE3 hO3 x10 v he3 q => ?_)
        obtain ⟨xσ9, st10⟩ := call0 hE3 xσ7
        cases he3
        refine ⟨_, rfl, ?_⟩
        replace b2 := b2.step st10
        refine ⟨_, _, _, b2.cell 2 rfl, ?_⟩
        replace f9 := f9.step (st.then (st2.then (st3.then (st4.then (st5.then (st8.then st10))))))
        refine q (Zt xσ9) H_10 _ _ _ rfl f9 _ (fun Z5 H_11 hE4 hO4 x11 q => ?_)
        obtain ⟨xσ10, st11⟩ := call0 hE4 xσ9
        refine ⟨_, rfl, ?_⟩
        refine condI (fun q => ?_) (fun q => ?_) q
        · replace hs := hs.trans (st.then (st2.then (st3.then (st4.then (st5.then (st8.then (st10.then st11)))))))
          exact hk (Zt xσ10) _ (hs.ext hσ) (hs.old hσ) _ q
        · refine condI (fun q => ?_) (fun q => ?_) q
          · replace b := b.step (st10.then st11)
            refine ⟨_, _, _, b.cell 3 rfl, ?_⟩
            replace f := f.step (st.then (st2.then (st3.then (st4.then (st5.then (st8.then (st10.then st11)))))))
            refine q (Zt xσ10) H_11 _ _ _ rfl f _ (fun Z6 H_12 hE5 hO5 x12 q => ?_)
            obtain ⟨xσ11, st12⟩ := call0 hE5 xσ10
            refine ⟨_, rfl, ?_⟩
            refine condI (fun q => ?_) (fun q => ?_) q
            · replace hs := hs.trans (st.then (st2.then (st3.then (st4.then (st5.then (st8.then (st10.then (st11.then st12))))))))
              exact hk (Zt xσ11) _ (hs.ext hσ) (hs.old hσ) _ q
            · replace sl0 := sl0.trans (st5.then (st8.then (st10.then (st11.then st12))))
              exact hnext (IntKind.i64.wrap (t + 1)) _ _ ⟨_, sl0, rfl⟩ q
          · replace sl0 := sl0.trans (st5.then (st8.then (st10.then st11)))
            exact hnext (IntKind.i64.wrap (t + 1)) _ _ ⟨_, sl0, rfl⟩ q
  · replace hs := hs.trans (st.then (st2.then (st3.then st4)))
    exact hk (Zt xσ4) _ (hs.ext hσ) (hs.old hσ) _ q
end Go.Proofs.Ytajdpkinlnaidaa.Sh
end
section
set_option linter.unusedVariables false
set_option linter.unusedSimpArgs false
set_option maxRecDepth 100000
set_option maxHeartbeats 8000000
namespace Go.Proofs.Ytajdpkinlnaidaa.Sh
open Go.Sx
def juntolaw20_OpenBlame.A : Ann where
  loops := fun i => match i with
    | 36884 => [(48, .int .i64)]
    | 49171 => [(58, .int .i64)]
    | _ => []
  plans := fun i => match i with
    | 17 => .first 1 (.first 3 (.first 7 (.first 8 (.first 9 (.first 10 (.read 0 (.read 2 (.read 4 (.first 5 (.first 6 (.read 11 (.alt 12 [0, 2, 4, 11] (.first 13 (.done)) (.stop)))))))))))))
    | _ => .stop
def juntolaw20_OpenBlame.W (w_0 : Int) (w_1 : Int) (w_2 : Int) (w_3A : Option Addr) (w_3n w_3c : Nat) (w_4A : Option Addr) (w_4n w_4c : Nat) (w_5A : Option Addr) (w_5n w_5c : Nat) (w_6 : Int) (w_7A : Option Addr) (w_7n w_7c : Nat) (holdersA : Option Addr) (holdersn holdersc : Nat) (d : Int) (lA : Option Addr) (ln lc : Nat) (H : Heap) (R : Value → Heap → Prop) : Prop :=
  NewH (H.push (.cells #[.int .u64 w_0, .int .i64 w_1, .int .i64 w_2, .slice w_3A w_3n w_3c, .slice w_4A w_4n w_4c, .slice w_5A w_5n w_5c, .int .i64 w_6, .slice w_7A w_7n w_7c] 30 (0, 0))) fun H_ =>
  cond (decide (((ln : Nat) : Int) > 60)) (R (.bool true) H_)
   (∃ x0 : Int, ∃ x1 : Int, ∃ x2 : Int, ∃ (x3A : Option Addr) (x3n x3c : Nat), ∃ (x4A : Option Addr) (x4n x4c : Nat), ∃ (x5A : Option Addr) (x5n x5c : Nat), ∃ x6 : Int, ∃ (x7A : Option Addr) (x7n x7c : Nat), cellH H_ (Addr.mk H.size 0 none) = some (.int .u64 x0) ∧ cellH H_ (((Addr.mk H.size 0 none)).add 1) = some (.int .i64 x1) ∧ cellH H_ (((Addr.mk H.size 0 none)).add 2) = some (.int .i64 x2) ∧ cellH H_ (((Addr.mk H.size 0 none)).add 3) = some (.slice x3A x3n x3c) ∧ cellH H_ (((Addr.mk H.size 0 none)).add 4) = some (.slice x4A x4n x4c) ∧ cellH H_ (((Addr.mk H.size 0 none)).add 5) = some (.slice x5A x5n x5c) ∧ cellH H_ (((Addr.mk H.size 0 none)).add 6) = some (.int .i64 x6) ∧ cellH H_ (((Addr.mk H.size 0 none)).add 7) = some (.slice x7A x7n x7c) ∧ CallH P N.open_All [.agg #[.int .u64 x0, .int .i64 x1, .int .i64 x2, .slice x3A x3n x3c, .slice x4A x4n x4c, .slice x5A x5n x5c, .int .i64 x6, .slice x7A x7n x7c], .slice holdersA holdersn holdersc, .int .i64 d, .slice lA ln lc] H_ fun v H_2 =>
  ∃ (r0A : Option Addr) (r0n r0c : Nat), ∃ r10 : Int, ∃ r11 : Int, ∃ r12 : Int, ∃ (r13A : Option Addr) (r13n r13c : Nat), ∃ (r14A : Option Addr) (r14n r14c : Nat), ∃ (r15A : Option Addr) (r15n r15c : Nat), ∃ r16 : Int, ∃ (r17A : Option Addr) (r17n r17c : Nat), ∃ r2 : Int, v = .tuple #[.slice r0A r0n r0c, .agg #[.int .u64 r10, .int .i64 r11, .int .i64 r12, .slice r13A r13n r13c, .slice r14A r14n r14c, .slice r15A r15n r15c, .int .i64 r16, .slice r17A r17n r17c], .int .i64 r2] ∧ NewH (H_2.push (.cells #[.int .u64 0, .int .i64 0, .int .i64 0, .slice none 0 0, .slice none 0 0, .slice none 0 0, .int .i64 0, .slice none 0 0] 30 (0, 0))) fun H_3 =>
  MayWrite H_3 (Addr.mk H_2.size 0 none) 8 ∧ NewH (setH (setH (setH (setH (setH (setH (setH (setH H_3 (Addr.mk H_2.size 0 none) (.int .u64 r10)) (((Addr.mk H_2.size 0 none)).add 1) (.int .i64 r11)) (((Addr.mk H_2.size 0 none)).add 2) (.int .i64 r12)) (((Addr.mk H_2.size 0 none)).add 3) (.slice r13A r13n r13c)) (((Addr.mk H_2.size 0 none)).add 4) (.slice r14A r14n r14c)) (((Addr.mk H_2.size 0 none)).add 5) (.slice r15A r15n r15c)) (((Addr.mk H_2.size 0 none)).add 6) (.int .i64 r16)) (((Addr.mk H_2.size 0 none)).add 7) (.slice r17A r17n r17c)) fun H_4 =>
  cond (r2 != 0) (CallH P N.juntolaw20_alive [] H_4 fun v2 H_5 =>
  ∃ r : Bool, v2 = .bool r ∧ R (.bool r) H_5)
   (cond (((r0n : Nat) : Int) != ((ln : Nat) : Int)) (R (.bool false) H_4) (∃ (xA : Option Addr) (xn xc : Nat), cellH H_4 (((Addr.mk H_2.size 0 none)).add 7) = some (.slice xA xn xc) ∧ ∃ (xA2 : Option Addr) (xn2 xc2 : Nat), cellH H_4 (((Addr.mk H.size 0 none)).add 7) = some (.slice xA2 xn2 xc2) ∧ cond (decide (((xn : Nat) : Int) < ((xn2 : Nat) : Int))) (R (.bool false) H_4)
   (LoopI (σ := Int) (fun κ => κ 0 H_4) fun s z H_6 next =>
  cond (decide (s < ((ln : Nat) : Int))) (∃ a : Addr, lA = some a ∧ 0 ≤ s ∧ s < ((ln : Nat) : Int) ∧ ∃ (x0A : Option Addr) (x0n x0c : Nat), ∃ (x1A : Option Addr) (x1n x1c : Nat), cellH H_6 (a.add ((Int.toNat s) * 2)) = some (.slice x0A x0n x0c) ∧ cellH H_6 ((a.add ((Int.toNat s) * 2)).add 1) = some (.slice x1A x1n x1c) ∧ NewH (H_6.push (.cells #[.slice none 0 0, .slice none 0 0] 39 (0, 0))) fun H_7 =>
  MayWrite H_7 (Addr.mk H_6.size 0 none) 2 ∧ NewH (setH (setH H_7 (Addr.mk H_6.size 0 none) (.slice x0A x0n x0c)) (((Addr.mk H_6.size 0 none)).add 1) (.slice x1A x1n x1c)) fun H_8 =>
  ∃ a2 : Addr, r0A = some a2 ∧ 0 ≤ s ∧ s < ((r0n : Nat) : Int) ∧ ∃ (xA3 : Option Addr) (xn3 xc3 : Nat), cellH H_8 (a2.add (Int.toNat s)) = some (.slice xA3 xn3 xc3) ∧ LoopI (σ := Int) (fun κ => κ 0 H_8) fun s2 z2 H_9 next2 =>
  cond (decide (s2 < ((xn3 : Nat) : Int))) (∃ a3 : Addr, xA3 = some a3 ∧ 0 ≤ s2 ∧ s2 < ((xn3 : Nat) : Int) ∧ ∃ x02 : Int, ∃ (x1A2 : Option Addr) (x1n2 x1c2 : Nat), ∃ (x2A : Option Addr) (x2n x2c : Nat), cellH H_9 (a3.add ((Int.toNat s2) * 3)) = some (.int .u64 x02) ∧ cellH H_9 ((a3.add ((Int.toNat s2) * 3)).add 1) = some (.slice x1A2 x1n2 x1c2) ∧ cellH H_9 ((a3.add ((Int.toNat s2) * 3)).add 2) = some (.slice x2A x2n x2c) ∧ NewH (H_9.push (.cells #[.int .u64 0, .slice none 0 0, .slice none 0 0] 44 (0, 0))) fun H_10 =>
  MayWrite H_10 (Addr.mk H_9.size 0 none) 3 ∧ NewH (setH (setH (setH H_10 (Addr.mk H_9.size 0 none) (.int .u64 x02)) (((Addr.mk H_9.size 0 none)).add 1) (.slice x1A2 x1n2 x1c2)) (((Addr.mk H_9.size 0 none)).add 2) (.slice x2A x2n x2c)) fun H_11 =>
  ∃ (xA4 : Option Addr) (xn4 xc4 : Nat), cellH H_11 (Addr.mk H_6.size 0 none) = some (.slice xA4 xn4 xc4) ∧ cond (decide (((xn4 : Nat) : Int) > 0)) (∃ (xA5 : Option Addr) (xn5 xc5 : Nat), cellH H_11 (Addr.mk H_6.size 0 none) = some (.slice xA5 xn5 xc5) ∧ ∃ a4 : Addr, xA5 = some a4 ∧ 0 ≤ s2 ∧ s2 < ((xn5 : Nat) : Int) ∧ ∃ x : Int, cellH H_11 (a4.add (Int.toNat s2)) = some (.int .i64 x) ∧ ∃ x03 : Int, ∃ x12 : Int, ∃ x22 : Int, ∃ (x3A2 : Option Addr) (x3n2 x3c2 : Nat), ∃ (x4A2 : Option Addr) (x4n2 x4c2 : Nat), ∃ (x5A2 : Option Addr) (x5n2 x5c2 : Nat), ∃ x62 : Int, ∃ (x7A2 : Option Addr) (x7n2 x7c2 : Nat), cellH H_11 (Addr.mk H.size 0 none) = some (.int .u64 x03) ∧ cellH H_11 (((Addr.mk H.size 0 none)).add 1) = some (.int .i64 x12) ∧ cellH H_11 (((Addr.mk H.size 0 none)).add 2) = some (.int .i64 x22) ∧ cellH H_11 (((Addr.mk H.size 0 none)).add 3) = some (.slice x3A2 x3n2 x3c2) ∧ cellH H_11 (((Addr.mk H.size 0 none)).add 4) = some (.slice x4A2 x4n2 x4c2) ∧ cellH H_11 (((Addr.mk H.size 0 none)).add 5) = some (.slice x5A2 x5n2 x5c2) ∧ cellH H_11 (((Addr.mk H.size 0 none)).add 6) = some (.int .i64 x62) ∧ cellH H_11 (((Addr.mk H.size 0 none)).add 7) = some (.slice x7A2 x7n2 x7c2) ∧ ∃ (xA6 : Option Addr) (xn6 xc6 : Nat), cellH H_11 (((Addr.mk H_2.size 0 none)).add 7) = some (.slice xA6 xn6 xc6) ∧ ∃ (xA7 : Option Addr) (xn7 xc7 : Nat), cellH H_11 (((Addr.mk H.size 0 none)).add 7) = some (.slice xA7 xn7 xc7) ∧ 0 ≤ ((xn7 : Nat) : Int) ∧ ((xn7 : Nat) : Int) ≤ ((xn6 : Nat) : Int) ∧ ∃ x04 : Int, ∃ (x1A3 : Option Addr) (x1n3 x1c3 : Nat), ∃ (x2A2 : Option Addr) (x2n2 x2c2 : Nat), cellH H_11 (Addr.mk H_9.size 0 none) = some (.int .u64 x04) ∧ cellH H_11 (((Addr.mk H_9.size 0 none)).add 1) = some (.slice x1A3 x1n3 x1c3) ∧ cellH H_11 (((Addr.mk H_9.size 0 none)).add 2) = some (.slice x2A2 x2n2 x2c2) ∧ CallH P N.juntolaw20_right [.agg #[.int .u64 x03, .int .i64 x12, .int .i64 x22, .slice x3A2 x3n2 x3c2, .slice x4A2 x4n2 x4c2, .slice x5A2 x5n2 x5c2, .int .i64 x62, .slice x7A2 x7n2 x7c2], .slice (SubA xA6 xc6 (Int.toNat ((xn7 : Nat) : Int)) 4) (xn6 - (Int.toNat ((xn7 : Nat) : Int))) (xc6 - (Int.toNat ((xn7 : Nat) : Int))), .slice holdersA holdersn holdersc, .slice lA ln lc, .int .i64 s, .int .i64 x, .agg #[.int .u64 x04, .slice x1A3 x1n3 x1c3, .slice x2A2 x2n2 x2c2]] H_11 fun v3 H_12 =>
  ∃ r3 : Bool, v3 = .bool r3 ∧ cond (!r3) (R (.bool false) H_12)
   (next2 (IntKind.i64.wrap (s2 + 1)) H_12))
   (∃ x05 : Int, ∃ x13 : Int, ∃ x23 : Int, ∃ (x3A3 : Option Addr) (x3n3 x3c3 : Nat), ∃ (x4A3 : Option Addr) (x4n3 x4c3 : Nat), ∃ (x5A3 : Option Addr) (x5n3 x5c3 : Nat), ∃ x63 : Int, ∃ (x7A3 : Option Addr) (x7n3 x7c3 : Nat), cellH H_11 (Addr.mk H.size 0 none) = some (.int .u64 x05) ∧ cellH H_11 (((Addr.mk H.size 0 none)).add 1) = some (.int .i64 x13) ∧ cellH H_11 (((Addr.mk H.size 0 none)).add 2) = some (.int .i64 x23) ∧ cellH H_11 (((Addr.mk H.size 0 none)).add 3) = some (.slice x3A3 x3n3 x3c3) ∧ cellH H_11 (((Addr.mk H.size 0 none)).add 4) = some (.slice x4A3 x4n3 x4c3) ∧ cellH H_11 (((Addr.mk H.size 0 none)).add 5) = some (.slice x5A3 x5n3 x5c3) ∧ cellH H_11 (((Addr.mk H.size 0 none)).add 6) = some (.int .i64 x63) ∧ cellH H_11 (((Addr.mk H.size 0 none)).add 7) = some (.slice x7A3 x7n3 x7c3) ∧ ∃ (xA8 : Option Addr) (xn8 xc8 : Nat), cellH H_11 (((Addr.mk H_2.size 0 none)).add 7) = some (.slice xA8 xn8 xc8) ∧ ∃ (xA9 : Option Addr) (xn9 xc9 : Nat), cellH H_11 (((Addr.mk H.size 0 none)).add 7) = some (.slice xA9 xn9 xc9) ∧ 0 ≤ ((xn9 : Nat) : Int) ∧ ((xn9 : Nat) : Int) ≤ ((xn8 : Nat) : Int) ∧ ∃ x06 : Int, ∃ (x1A4 : Option Addr) (x1n4 x1c4 : Nat), ∃ (x2A3 : Option Addr) (x2n3 x2c3 : Nat), cellH H_11 (Addr.mk H_9.size 0 none) = some (.int .u64 x06) ∧ cellH H_11 (((Addr.mk H_9.size 0 none)).add 1) = some (.slice x1A4 x1n4 x1c4) ∧ cellH H_11 (((Addr.mk H_9.size 0 none)).add 2) = some (.slice x2A3 x2n3 x2c3) ∧ CallH P N.juntolaw20_right [.agg #[.int .u64 x05, .int .i64 x13, .int .i64 x23, .slice x3A3 x3n3 x3c3, .slice x4A3 x4n3 x4c3, .slice x5A3 x5n3 x5c3, .int .i64 x63, .slice x7A3 x7n3 x7c3], .slice (SubA xA8 xc8 (Int.toNat ((xn9 : Nat) : Int)) 4) (xn8 - (Int.toNat ((xn9 : Nat) : Int))) (xc8 - (Int.toNat ((xn9 : Nat) : Int))), .slice holdersA holdersn holdersc, .slice lA ln lc, .int .i64 s, .int .i64 0, .agg #[.int .u64 x06, .slice x1A4 x1n4 x1c4, .slice x2A3 x2n3 x2c3]] H_11 fun v4 H_13 =>
  ∃ r4 : Bool, v4 = .bool r4 ∧ cond (!r4) (R (.bool false) H_13)
   (next2 (IntKind.i64.wrap (s2 + 1)) H_13)))
   (next (IntKind.i64.wrap (s + 1)) H_9))
   (CallH P N.juntolaw20_alive [] H_6 fun v5 H_14 =>
  ∃ r5 : Bool, v5 = .bool r5 ∧ R (.bool r5) H_14)))))
theorem juntolaw20_OpenBlame.ok (w_0 : Int) (w_1 : Int) (w_2 : Int) (w_3A : Option Addr) (w_3n w_3c : Nat) (w_4A : Option Addr) (w_4n w_4c : Nat) (w_5A : Option Addr) (w_5n w_5c : Nat) (w_6 : Int) (w_7A : Option Addr) (w_7n w_7c : Nat) (holdersA : Option Addr) (holdersn holdersc : Nat) (d : Int) (lA : Option Addr) (ln lc : Nat) (H : Heap) (R : Value → Heap → Prop) (h : juntolaw20_OpenBlame.W w_0 w_1 w_2 w_3A w_3n w_3c w_4A w_4n w_4c w_5A w_5n w_5c w_6 w_7A w_7n w_7c holdersA holdersn holdersc d lA ln lc H R) : CallH P N.juntolaw20_OpenBlame ([.agg #[.int .u64 w_0, .int .i64 w_1, .int .i64 w_2, .slice w_3A w_3n w_3c, .slice w_4A w_4n w_4c, .slice w_5A w_5n w_5c, .int .i64 w_6, .slice w_7A w_7n w_7c], .slice holdersA holdersn holdersc, .int .i64 d, .slice lA ln lc] : List Value) H R := by
  have e : juntolaw20_OpenBlame.W w_0 w_1 w_2 w_3A w_3n w_3c w_4A w_4n w_4c w_5A w_5n w_5c w_6 w_7A w_7n w_7c holdersA holdersn holdersc d lA ln lc H R = sxFn P T Sh.R nf juntolaw20_OpenBlame.A Try.f4.results.toList (bodyOf Try.f4) (([(.agg #[.int .u64 w_0, .int .i64 w_1, .int .i64 w_2, .slice w_3A w_3n w_3c, .slice w_4A w_4n w_4c, .slice w_5A w_5n w_5c, .int .i64 w_6, .slice w_7A w_7n w_7c] : Value), (.slice holdersA holdersn holdersc : Value), (.int .i64 d : Value), (.slice lA ln lc : Value)] : List Value) ++ List.replicate (89 - ([(.agg #[.int .u64 w_0, .int .i64 w_1, .int .i64 w_2, .slice w_3A w_3n w_3c, .slice w_4A w_4n w_4c, .slice w_5A w_5n w_5c, .int .i64 w_6, .slice w_7A w_7n w_7c] : Value), (.slice holdersA holdersn holdersc : Value), (.int .i64 d : Value), (.slice lA ln lc : Value)] : List Value).length) undef) H R := by kernel_rfl
  exact call_of_sx fits bodies mixed Try.func4 (c := bodyOf Try.f4) (by kernel_rfl) Try.ntmps4 juntolaw20_OpenBlame.A (by kernel_rfl) (e.mp h)
end Go.Proofs.Ytajdpkinlnaidaa.Sh
namespace Go.Proofs.Ytajdpkinlnaidaa.Sh
open Go.Sx Go.Lf
def juntolaw20_OpenBlame.C (w : TWorld) (holders : (List Int)) (d : Int) (l : (List TSecret)) (K : Bool → Prop) : Prop :=
  ∀ (Z : Nat → Prop) (H : Heap), ∀ (wv : Int), wv = (w.Setup.P : Int) → ∀ (wA : Option Addr) (wn wc : Nat), wn = w.Corrupted.length → SlF i64L Z H wA wc w.Corrupted → ∀ (wA2 : Option Addr) (wn2 wc2 : Nat), wn2 = w.Acts.length → SlF TAct.L Z H wA2 wc2 w.Acts → ∀ (wA3 : Option Addr) (wn3 wc3 : Nat), wn3 = w.Tapes.length → SlF (slL u64L) Z H wA3 wc3 w.Tapes → ∀ (wA4 : Option Addr) (wn4 wc4 : Nat), wn4 = w.Sent.length → SlF TSent.L Z H wA4 wc4 w.Sent → ∀ (holdersA : Option Addr) (holdersn holdersc : Nat), holdersn = holders.length → SlF i64L Z H holdersA holdersc holders → ∀ (lA : Option Addr) (ln lc : Nat), ln = l.length → SlF TSecret.L Z H lA lc l → ∀ KK : Value → Heap → Prop,
    (∀ (Z' : Nat → Prop) (H' : Heap), Ext H H' → Old Z H Z' → ∀ (r0 : Bool), K r0 → KK (.bool r0) H') →
    CallH P N.juntolaw20_OpenBlame [.agg #[.int .u64 wv, .int .i64 w.Setup.N, .int .i64 w.Setup.T_, .slice wA wn wc, .slice wA2 wn2 wc2, .slice wA3 wn3 wc3, .int .i64 w.Round, .slice wA4 wn4 wc4], .slice holdersA holdersn holdersc, .int .i64 d, .slice lA ln lc] H KK
def juntolaw20_OpenBlame.Q (w : TWorld) (holders : (List Int)) (d : Int) (l : (List TSecret)) (K : Bool → Prop) : Prop :=
  cond (decide (((l.length : Nat) : Int) > 60)) (K true)
   (open_All.C w holders d l (fun (r : (List (List TOpened))) (r2 : TWorld) (r3 : Int) =>
  cond (r3 != 0) (juntolaw20_alive.C (fun (x : Bool) =>
  K x))
   (cond (((r.length : Nat) : Int) != ((l.length : Nat) : Int)) (K false)
   (cond (decide (((r2.Sent.length : Nat) : Int) < ((w.Sent.length : Nat) : Int))) (K false)
   (LoopQ (τ := Int) 0 fun t nextQ =>
  cond (decide (t < ((l.length : Nat) : Int))) (0 ≤ t ∧ ∃ x2 : TSecret, l[Int.toNat t]? = some x2 ∧ 0 ≤ t ∧ t < ((r.length : Nat) : Int) ∧ ∃ x3 : (List TOpened), r[Int.toNat t]? = some x3 ∧ LoopQ (τ := Int) 0 fun t2 nextQ2 =>
  cond (decide (t2 < ((x3.length : Nat) : Int))) (0 ≤ t2 ∧ ∃ x4 : TOpened, x3[Int.toNat t2]? = some x4 ∧ cond (decide (((x2.To.length : Nat) : Int) > 0)) (0 ≤ t2 ∧ ∃ x5 : Int, x2.To[Int.toNat t2]? = some x5 ∧ 0 ≤ ((w.Sent.length : Nat) : Int) ∧ ((w.Sent.length : Nat) : Int) ≤ ((r2.Sent.length : Nat) : Int) ∧ juntolaw20_right.C w (List.drop w.Sent.length r2.Sent) holders l t x5 x4 (fun (x6 : Bool) =>
  cond (!x6) (K false)
   (nextQ2 (IntKind.i64.wrap (t2 + 1)))))
   (0 ≤ ((w.Sent.length : Nat) : Int) ∧ ((w.Sent.length : Nat) : Int) ≤ ((r2.Sent.length : Nat) : Int) ∧ juntolaw20_right.C w (List.drop w.Sent.length r2.Sent) holders l t 0 x4 (fun (x7 : Bool) =>
  cond (!x7) (K false)
   (nextQ2 (IntKind.i64.wrap (t2 + 1))))))
   (nextQ (IntKind.i64.wrap (t + 1))))
   (juntolaw20_alive.C (fun (x8 : Bool) =>
  K x8)))))))
theorem juntolaw20_OpenBlame.q {w : TWorld} {holders : (List Int)} {d : Int} {l : (List TSecret)} {K : Bool → Prop} (q : juntolaw20_OpenBlame.Q w holders d l K) : juntolaw20_OpenBlame.C w holders d l K := by
  intro Z H wv he wA wn wc hn f wA2 wn2 wc2 hn2 f2 wA3 wn3 wc3 hn3 f3 wA4 wn4 wc4 hn4 f4 holdersA holdersn holdersc hn5 f5 lA ln lc hn6 f6 KK hk
  cases he
  cases hn
  cases hn2
  cases hn3
  cases hn4
  cases hn5
  cases hn6
  apply juntolaw20_OpenBlame.ok
  unfold juntolaw20_OpenBlame.W
  unfold juntolaw20_OpenBlame.Q at q
  obtain ⟨σ, hz, hσ⟩ := tags Z
  have hs : Stp ([1, 2, 3, 4] : List Nat) σ H σ H := Stp.refl _ _ _
  replace f := f.wide hz
  replace f2 := f2.wide hz
  replace f3 := f3.wide hz
  replace f4 := f4.wide hz
  replace f5 := f5.wide hz
  replace f6 := f6.wide hz
  clear hz
  refine NewH.mk fun H_ e => ?_
  obtain ⟨xσ, st, b⟩ := BoxF.new σ 0 e
  refine condI (fun q => ?_) (fun q => ?_) q
  · replace hs := hs.trans st
    exact hk (Zt xσ) _ (hs.ext hσ) (hs.old hσ) _ q
  · refine ⟨_, _, _, _, _, _, _, _, _, _, _, _, _, _, _, _, b.cell0, b.cell 1 rfl, b.cell 2 rfl, b.cell 3 rfl, b.cell 4 rfl, b.cell 5 rfl, b.cell 6 rfl, b.cell 7 rfl, ?_⟩
    replace f := f.step st
    replace f2 := f2.step st
    replace f3 := f3.step st
    replace f4 := f4.step st
    replace f5 := f5.step st
    replace f6 := f6.step st
    refine q (Zt xσ) H_ _ rfl _ _ _ rfl f _ _ _ rfl f2 _ _ _ rfl f3 _ _ _ rfl f4 _ _ _ rfl f5 _ _ _ rfl f6 _ (fun Z2 H_2 hE hO r Y hY A n c hn7 f7 r2 v he2 A2 n2 c2 hn8 f8 A3 n3 c3 hn9 f9 A4 n4 c4 hn10 f10 A5 n5 c5 hn11 f11 r3 q => ?_)
    obtain ⟨xσ2, st2, fz, fy⟩ := call1 hE hO xσ 1 (fun _ h => h) hY
    replace f7 := f7.keep fz fy
    replace f8 := f8.keep fz
    replace f9 := f9.keep fz
    replace f10 := f10.keep fz
    replace f11 := f11.keep fz
    cases hn7
    cases he2
    cases hn8
    cases hn9
    cases hn10
    cases hn11
    refine ⟨_, _, _, _, _, _, _, _, _, _, _, _, _, _, _, _, _, _, _, _, rfl, ?_⟩
    refine NewH.mk fun H_3 e2 => ?_
    obtain ⟨xσ3, st3, b2⟩ := BoxF.new xσ2 2 e2
    refine ⟨b2.mayN 0 8 (show (8 : Nat) ≤ 8 by decide), NewH.mk fun H_4 e3 => ?_⟩
    obtain ⟨st4, b2⟩ := b2.wr8 (by simp) e3
    simp only [List.take_zero, List.take_succ_cons, List.drop_zero, List.drop_succ_cons, List.drop_nil, List.length_cons, List.length_nil, List.cons_append, List.nil_append, List.append_nil, Nat.zero_add, Nat.reduceAdd] at b2
    refine condI (fun q => ?_) (fun q => ?_) q
    · refine q (Zt xσ3) H_4  _ (fun Z3 H_5 hE2 hO2 x q => ?_)
      obtain ⟨xσ4, st5⟩ := call0 hE2 xσ3
      refine ⟨_, rfl, ?_⟩
      replace hs := hs.trans (st.then (st2.then (st3.then (st4.then st5))))
      exact hk (Zt xσ4) _ (hs.ext hσ) (hs.old hσ) _ q
    · refine condI (fun q => ?_) (fun q => ?_) q
      · replace hs := hs.trans (st.then (st2.then (st3.then st4)))
        exact hk (Zt xσ3) _ (hs.ext hσ) (hs.old hσ) _ q
      · refine ⟨_, _, _, b2.cell 7 rfl, ?_⟩
        replace b := b.step (st2.then (st3.then st4))
        refine ⟨_, _, _, b.cell 7 rfl, ?_⟩
        refine condI (fun q => ?_) (fun q => ?_) q
        · replace hs := hs.trans (st.then (st2.then (st3.then st4)))
          exact hk (Zt xσ3) _ (hs.ext hσ) (hs.old hσ) _ q
        · refine LoopI.ofQ q (fun t_ s_ hp_ => ∃ (σ_ : Nat → Nat), Stp [3, 4] xσ3 H_4 σ_ hp_ ∧ t_ = s_) (fun h k => h _ _ k) ⟨_, Stp.refl _ _ _, rfl⟩ ?_
          rintro t _ _ H_6 next nextQ ⟨xσ5, st6, rfl⟩ q hnext
          try dsimp only at q ⊢
          have sl0 := st6
          refine condI (fun q => ?_) (fun q => ?_) q
          · obtain ⟨h0, x2, hx, q⟩ := q
            replace f6 := f6.step (st2.then (st3.then (st4.then st6)))
            obtain ⟨a, ha, hi⟩ := f6.addr h0 hx rfl
            refine ⟨a, ha, hi.1, hi.2, ?_⟩
            obtain ⟨cs, hr, hc⟩ := f6.ldN (k := 2) rfl ha h0 hx
            obtain ⟨A6, c6, A7, c7, rfl, f12, f13⟩ := hr
            have hc2 := hc 0 _ rfl
            have hc3 := hc 1 _ rfl
            refine ⟨_, _, _, _, _, _, hc2.val, hc3.val, ?_⟩
            refine NewH.mk fun H_7 e4 => ?_
            obtain ⟨xσ6, st7, b3⟩ := BoxF.new xσ5 3 e4
            refine ⟨b3.mayN 0 2 (show (2 : Nat) ≤ 2 by decide), NewH.mk fun H_8 e5 => ?_⟩
            obtain ⟨st8, b3⟩ := b3.wr2 (by simp) e5
            simp only [List.take_zero, List.take_succ_cons, List.drop_zero, List.drop_succ_cons, List.drop_nil, List.length_cons, List.length_nil, List.cons_append, List.nil_append, List.append_nil, Nat.zero_add, Nat.reduceAdd] at b3
            obtain ⟨h02, hi3, q⟩ := q
            replace f7 := f7.step (st3.then (st4.then (st6.then (st7.then st8))))
            obtain ⟨a2, ha2, hi2⟩ := f7.addr h02 rfl hi3
            refine ⟨a2, ha2, hi2.1, hi2.2, ?_⟩
            obtain ⟨x3, hx2, q⟩ := q
            obtain ⟨A8, c8, hc4, f14⟩ := f7.lds ha2 h02 hx2
            refine ⟨_, _, _, hc4.val, ?_⟩
            refine LoopI.ofQ q (fun t_ s_ hp_ => ∃ (σ_ : Nat → Nat), Stp [4] xσ6 H_8 σ_ hp_ ∧ t_ = s_) (fun h k => h _ _ k) ⟨_, Stp.refl _ _ _, rfl⟩ ?_
            rintro t2 _ _ H_9 next2 nextQ2 ⟨xσ7, st9, rfl⟩ q hnext2
            try dsimp only at q ⊢
            have sl1 := st9
            refine condI (fun q => ?_) (fun q => ?_) q
            · obtain ⟨h03, x4, hx3, q⟩ := q
              replace f14 := f14.step st9
              obtain ⟨a3, ha3, hi4⟩ := f14.addr h03 hx3 rfl
              refine ⟨a3, ha3, hi4.1, hi4.2, ?_⟩
              obtain ⟨cs2, hr2, hc5⟩ := f14.ldN (k := 3) rfl ha3 h03 hx3
              obtain ⟨A9, c9, A10, c10, rfl, f15, f16⟩ := hr2
              have hc6 := hc5 0 _ rfl
              have hc7 := hc5 1 _ rfl
              have hc8 := hc5 2 _ rfl
              refine ⟨_, _, _, _, _, _, _, hc6.val, hc7.val, hc8.val, ?_⟩
              refine NewH.mk fun H_10 e6 => ?_
              obtain ⟨xσ8, st10, b4⟩ := BoxF.new xσ7 4 e6
              refine ⟨b4.mayN 0 3 (show (3 : Nat) ≤ 3 by decide), NewH.mk fun H_11 e7 => ?_⟩
              obtain ⟨st11, b4⟩ := b4.wr3 (by simp) e7
              simp only [List.take_zero, List.take_succ_cons, List.drop_zero, List.drop_succ_cons, List.drop_nil, List.length_cons, List.length_nil, List.cons_append, List.nil_append, List.append_nil, Nat.zero_add, Nat.reduceAdd] at b4
              replace b3 := b3.step (st9.then (st10.then st11))
              refine ⟨_, _, _, b3.cell0, ?_⟩
              refine condI (fun q => ?_) (fun q => ?_) q
              · refine ⟨_, _, _, b3.cell0, ?_⟩
                obtain ⟨h04, x5, hx4, q⟩ := q
                replace f12 := f12.step (st7.then (st8.then (st9.then (st10.then st11))))
                obtain ⟨a4, ha4, hi5⟩ := f12.addr h04 hx4 rfl
                refine ⟨a4, ha4, hi5.1, hi5.2, ?_⟩
                have hc9 := f12.ldi ha4 h04 hx4
                refine ⟨_, hc9.val, ?_⟩
                replace b := b.step (st6.then (st7.then (st8.then (st9.then (st10.then st11)))))
                refine ⟨_, _, _, _, _, _, _, _, _, _, _, _, _, _, _, _, b.cell0, b.cell 1 rfl, b.cell 2 rfl, b.cell 3 rfl, b.cell 4 rfl, b.cell 5 rfl, b.cell 6 rfl, b.cell 7 rfl, ?_⟩
                replace b2 := b2.step (st6.then (st7.then (st8.then (st9.then (st10.then st11)))))
                refine ⟨_, _, _, b2.cell 7 rfl, ?_⟩
                refine ⟨_, _, _, b.cell 7 rfl, ?_⟩
                obtain ⟨q2, q3, q⟩ := q
                replace f11 := f11.step (st3.then (st4.then (st6.then (st7.then (st8.then (st9.then (st10.then st11)))))))
                have f17 := f11.from (l := w.Sent.length) (k := 4) (upto_le rfl q3) rfl
                refine ⟨q2, q3, ?_⟩
                refine ⟨_, _, _, _, _, _, _, b4.cell0, b4.cell 1 rfl, b4.cell 2 rfl, ?_⟩
                have c_0 := st2.then (st3.then (st4.then (st6.then (st7.then (st8.then (st9.then (st10.then st11)))))))
                replace f := f.step c_0
                replace f2 := f2.step c_0
                replace f3 := f3.step c_0
                replace f4 := f4.step c_0
                replace f5 := f5.step c_0
                replace f6 := f6.step (st7.then (st8.then (st9.then (st10.then st11))))
                have c_1 := st10.then st11
                replace f15 := f15.step c_1
                replace f16 := f16.step c_1
                refine q (Zt xσ8) H_11 _ rfl _ _ _ rfl f _ _ _ rfl f2 _ _ _ rfl f3 _ _ _ rfl f4 _ _ _ (drop_len rfl) f17 _ _ _ rfl f5 _ _ _ rfl f6 _ rfl _ _ _ rfl f15 _ _ _ rfl f16 _ (fun Z4 H_12 hE3 hO3 x6 q => ?_)
                obtain ⟨xσ9, st12⟩ := call0 hE3 xσ8
                refine ⟨_, rfl, ?_⟩
                refine condI (fun q => ?_) (fun q => ?_) q
                · replace hs := hs.trans (st.then (st2.then (st3.then (st4.then (st6.then (st7.then (st8.then (st9.then (st10.then (st11.then st12))))))))))
                  exact hk (Zt xσ9) _ (hs.ext hσ) (hs.old hσ) _ q
                · replace sl1 := sl1.trans (st10.then (st11.then st12))
                  exact hnext2 (IntKind.i64.wrap (t2 + 1)) _ _ ⟨_, sl1, rfl⟩ q
              · replace b := b.step (st6.then (st7.then (st8.then (st9.then (st10.then st11)))))
                refine ⟨_, _, _, _, _, _, _, _, _, _, _, _, _, _, _, _, b.cell0, b.cell 1 rfl, b.cell 2 rfl, b.cell 3 rfl, b.cell 4 rfl, b.cell 5 rfl, b.cell 6 rfl, b.cell 7 rfl, ?_⟩
                replace b2 := b2.step (st6.then (st7.then (st8.then (st9.then (st10.then st11)))))
                refine ⟨_, _, _, b2.cell 7 rfl, ?_⟩
                refine ⟨_, _, _, b.cell 7 rfl, ?_⟩
                obtain ⟨q4, q5, q⟩ := q
                replace f11 := f11.step (st3.then (st4.then (st6.then (st7.then (st8.then (st9.then (st10.then st11)))))))
                have f18 := f11.from (l := w.Sent.length) (k := 4) (upto_le rfl q5) rfl
                refine ⟨q4, q5, ?_⟩
                refine ⟨_, _, _, _, _, _, _, b4.cell0, b4.cell 1 rfl, b4.cell 2 rfl, ?_⟩
                have c_2 := st2.then (st3.then (st4.then (st6.then (st7.then (st8.then (st9.then (st10.then st11)))))))
                replace f := f.step c_2
                replace f2 := f2.step c_2
                replace f3 := f3.step c_2
                replace f4 := f4.step c_2
                replace f5 := f5.step c_2
                replace f6 := f6.step (st7.then (st8.then (st9.then (st10.then st11))))
                have c_3 := st10.then st11
                replace f15 := f15.step c_3
                replace f16 := f16.step c_3
                refine q (Zt xσ8) H_11 _ rfl _ _ _ rfl f _ _ _ rfl f2 _ _ _ rfl f3 _ _ _ rfl f4 _ _ _ (drop_len rfl) f18 _ _ _ rfl f5 _ _ _ rfl f6 _ rfl _ _ _ rfl f15 _ _ _ rfl f16 _ (fun Z5 H_13 hE4 hO4 x7 q => ?_)
                obtain ⟨xσ10, st13⟩ := call0 hE4 xσ8
                refine ⟨_, rfl, ?_⟩
                refine condI (fun q => ?_) (fun q => ?_) q
                · replace hs := hs.trans (st.then (st2.then (st3.then (st4.then (st6.then (st7.then (st8.then (st9.then (st10.then (st11.then st13))))))))))
                  exact hk (Zt xσ10) _ (hs.ext hσ) (hs.old hσ) _ q
                · replace sl1 := sl1.trans (st10.then (st11.then st13))
                  exact hnext2 (IntKind.i64.wrap (t2 + 1)) _ _ ⟨_, sl1, rfl⟩ q
            · replace sl0 := sl0.trans (st7.then (st8.then st9))
              exact hnext (IntKind.i64.wrap (t + 1)) _ _ ⟨_, sl0, rfl⟩ q
          · refine q (Zt xσ5) H_6  _ (fun Z6 H_14 hE5 hO5 x8 q => ?_)
            obtain ⟨xσ11, st14⟩ := call0 hE5 xσ5
            refine ⟨_, rfl, ?_⟩
            replace hs := hs.trans (st.then (st2.then (st3.then (st4.then (st6.then st14)))))
            exact hk (Zt xσ11) _ (hs.ext hσ) (hs.old hσ) _ q
end Go.Proofs.Ytajdpkinlnaidaa.Sh
end
section
set_option linter.unusedVariables false
namespace Go.Proofs.Ytajdpkinlnaidaa.Pl
open Go.Sx Go.Lf Go.Proofs.Ytajdpkinlnaidaa.Sh Go.Proofs.Ytajdpkinlnaidaa.Sp
def exW : TWorld := ⟨⟨11, 5, 1⟩, [4], [⟨1, 4, 0, false, [0]⟩], List.replicate 5 [], 0, []⟩
def exL : List TSecret := [⟨[], [7, 10, 2, 5, 8]⟩]
theorem exW_ok : WOk exW where
  set := ⟨isP11, by decide, by decide, by decide, by decide, by decide⟩
  cor := by decide
  ris := by decide
  tap := by decide
  r0 := by decide
  r1 := by decide
  act := fun a ha => by
    rw [List.mem_singleton.1 ha]
    refine ⟨?_, by decide⟩
    rintro (h | h | h | h | h)
    · exact h (by decide)
    all_goals exact absurd h (by decide)
  key := by decide
theorem exL_line : LineP exW [1, 2, 3, 4, 5] 1 [7, 10, 2, 5, 8] [4, 3] := dec0.2 ⟨by decide, by decide, by decide, by decide⟩
theorem ex_all : AllOk exW [1, 2, 3, 4, 5] 1 5 1 exL fun _ => [4, 3] where
  wok := exW_ok
  en := rfl
  et := rfl
  ris := by decide
  len := by decide
  ded := by decide
  lel := by decide
  rnd := by decide
  sec := fun i s h => by
    have hs := mem_get h
    rw [List.mem_singleton.1 hs]
    exact ⟨by decide, by decide, by decide, exL_line⟩
theorem ex_outs : opens (outsOf exW [1, 2, 3, 4, 5] 5 exL fun _ => [4, 3]) = [[⟨4, [4, 3], [4]⟩]] := by kernel_rfl
theorem alive20_c {K : Bool → Prop} (k : K true) : juntolaw20_alive.C K := by
  refine juntolaw20_alive.q ⟨MakeOk.big (by decide) (by decide), ?_⟩
  have h0 := allC_of ex_all (by decide)
  refine open_All_c (w := exW) (l := exL) ⟨by decide, by decide, by decide, by decide⟩ (by decide) (by decide) (by decide) (fun h => absurd h0 h) fun e n tt F he hA _ => ?_
  obtain rfl : e = 1 := by omega
  have hn : n = 5 := by have : (5 : Int) = n := hA.en; omega
  subst hn
  have hF : F 0 = [4, 3] := line_uniq exW_ok rfl (by decide) (by decide) (by decide) (by decide) (hA.sec 0 _ rfl).line exL_line
  have ho : outsOf exW [1, 2, 3, 4, 5] 5 exL F = outsOf exW [1, 2, 3, 4, 5] 5 exL fun _ => [4, 3] := by
    unfold outsOf gots
    refine tab_ext fun i hi => ?_
    have : i = 0 := by simp [exL] at hi; exact hi
    subst this
    unfold gotQ
    rw [hF]
  rw [ho, ex_outs]
  refine ct rfl (ct rfl (ct rfl ⟨by decide, by decide, _, rfl, ct rfl ⟨by decide, by decide, _, rfl, by decide, _, rfl, ct rfl ⟨by decide, by decide, _, rfl, by decide, _, rfl, juntoref01_Same_c (by decide) (ct rfl ⟨by decide, by decide, _, rfl, by decide, _, rfl, juntoref17_SameInts_c (by decide) ?_⟩)⟩⟩⟩))
  exact k
theorem gots_get {p : Nat} {l : List TSecret} {hs : List Int} {C : List (List (List Nat))} {Hd : List (List Nat)} {F : Nat → List Nat} {n i : Nat} (hi : i < l.length) : (opens (gots p l hs C Hd F n))[i]? = some (((List.range n).filter fun q => asked q (secAt l i)).map fun q => (gotQ p l hs C Hd F q i).Opened) := by
  unfold opens gots
  rw [List.getElem?_map, tab_get _ hi]
  simp
def scan (h t : Int) (s : List TSent) (d : List Nat) : List Nat := s.foldl (fun d x => if x.From = h ∧ x.To = t then x.Data else d) d
theorem scan_append (h t : Int) (a b : List TSent) (d : List Nat) : scan h t (a ++ b) d = scan h t b (scan h t a d) := List.foldl_append ..
theorem scan_one (h t r f g : Int) (e d : List Nat) : scan h t (one r f g e) d = if f = h ∧ g = t ∧ f ≠ g ∧ e ≠ [] then e else d := by
  unfold one
  by_cases h1 : f = g ∨ e = []
  · rw [if_pos h1, if_neg (by rintro ⟨_, _, h2, h3⟩; rcases h1 with h1 | h1; exact h2 h1; exact h3 h1)]; rfl
  · rw [if_neg h1]
    have h2 : f ≠ g ∧ e ≠ [] := ⟨fun e => h1 (.inl e), fun e => h1 (.inr e)⟩
    by_cases h3 : f = h ∧ g = t
    · rw [if_pos ⟨h3.1, h3.2, h2⟩]; simp [scan, h3]
    · rw [if_neg (fun hh => h3 ⟨hh.1, hh.2.1⟩)]; simp [scan, h3]
theorem scan_flat_not {h t : Int} {g : Nat → List TSent} : ∀ (n : Nat) (d : List Nat), (∀ i, i < n → ∀ d, scan h t (g i) d = d) → scan h t (flat n g) d = d
  | 0, d, _ => rfl
  | n + 1, d, hh => by rw [flat_succ, scan_append, scan_flat_not n d fun i hi => hh i (by omega)]; exact hh n (by omega) d
theorem scan_flat_at {h t : Int} {g : Nat → List TSent} {b : Nat} : ∀ (n : Nat) (d : List Nat), b < n → (∀ i, i < n → i ≠ b → ∀ d, scan h t (g i) d = d) → scan h t (flat n g) d = scan h t (g b) d
  | n + 1, d, hb, hh => by
    rw [flat_succ, scan_append]
    by_cases e : b = n
    · subst e
      rw [scan_flat_not b d fun i hi => hh i (by omega) (by omega)]
    · rw [scan_flat_at n d (by omega) fun i hi => hh i (by omega), hh n (by omega) (fun e2 => e e2.symm)]
theorem scan_sent {w : TWorld} {priv : List (List (List Nat))} {said : List (List Nat)} {n a q : Nat} (hn : w.Setup.N = n) (ha : a < n) (hq : q ≤ n) (hne : (a : Int) + 1 ≠ q) :
    scan ((a : Int) + 1) q (sentF w priv said n n) [] = inPay (cames w priv) (heards w said) q ((a : Int) + 1) := by
  unfold sentF
  have hrow : ∀ i, i < n → i ≠ a → ∀ d, scan ((a : Int) + 1) q (sentRow w priv said i n) d = d := fun i hi hia d => by
    unfold sentRow
    rw [scan_append, scan_one, if_neg (by rintro ⟨h1, _⟩; omega)]
    exact scan_flat_not n d fun j hj d => by rw [scan_one, if_neg (by rintro ⟨h1, _⟩; omega)]
  rw [scan_flat_at n [] ha hrow]
  unfold sentRow inPay
  rw [scan_append, scan_one, show ((a : Int) + 1).toNat - 1 = a by omega]
  by_cases h0 : q = 0
  · subst h0
    rw [if_pos rfl, scan_flat_not n _ fun j hj d => by rw [scan_one, if_neg (by rintro ⟨_, h1, _⟩; omega)], heards_pay hn ha]
    by_cases he : heardF w said a = []
    · rw [if_neg (fun h => h.2.2.2 he), he]
    · rw [if_pos ⟨rfl, rfl, by omega, he⟩]
  · obtain ⟨b, rfl⟩ : ∃ b, q = b + 1 := ⟨q - 1, by omega⟩
    rw [if_neg (by rintro ⟨_, h1, _⟩; omega), if_neg h0, show b + 1 - 1 = b by omega, cames_pay hn (by omega) ha]
    rw [scan_flat_at (b := b) n [] (by omega) fun i hi hib d => by rw [scan_one, if_neg (by rintro ⟨_, h1, _⟩; omega)]]
    rw [scan_one]
    by_cases he : cameF w priv b a = []
    · rw [if_neg (fun h => h.2.2.2 he), he]
    · rw [if_pos ⟨rfl, by omega, by omega, he⟩]
section
variable {w : TWorld} {hs : List Int} {d n tt : Nat} {l : List TSecret} {F : Nat → List Nat}
theorem own_R (hw : WOk w) (hn : w.Setup.N = n) (hr : risA w.Setup.N 0 hs = true) (hsh : ∀ s ∈ l, ∀ y ∈ s.Shares, y < w.Setup.P) {c q i : Nat} (hc : c < hs.length) (he : ih hs c = q) (hi : i ∈ ofL l q) :
    zat (inR w.Setup.P l (cames w (privL l hs n)) (heards w (saidL l hs n)) q (ih hs c)) ((ofL l q).idxOf i) = zat (secAt l i).Shares c := by
  have hp3 := hw.set.1.1
  have hm := ih_mem hc
  have hxr := ris_mem hr _ hm
  obtain ⟨b, rfl⟩ : ∃ b, q = b + 1 := ⟨q - 1, by omega⟩
  have hbn : b < n := by omega
  have hfull : full l hs (b + 1) b = (ofL l (b + 1)).map (shr l hs b) := by unfold full; rw [if_pos (by rw [show (b : Int) + 1 = ih hs c by omega]; exact hm)]
  have hpay : inPay (cames w (privL l hs n)) (heards w (saidL l hs n)) (b + 1) (ih hs c) = (ofL l (b + 1)).map (shr l hs b) := by
    unfold inPay
    rw [if_neg (by omega), show (ih hs c).toNat - 1 = b by omega, show b + 1 - 1 = b by omega, cames_pay hn hbn hbn, cameF, privL_pay hbn hbn, hfull]
    unfold actOf
    cases h : hasAct w.Acts (w.Round + 1) ((b : Int) + 1) ((b : Int) + 1) with
    | none => rfl
    | some a =>
      obtain ⟨h1, h2⟩ := hasAct_some h
      simp only [key3, Prod.mk.injEq] at h2
      exact absurd (.inr (.inr (.inr (.inl (by omega))))) (hw.act a h1).1
  unfold inR
  rw [hpay, takeN_self (by rw [List.length_map]) (fun y hy => by
    obtain ⟨j, hj, rfl⟩ := List.mem_map.1 hy
    obtain ⟨s, hs0⟩ := get_some (ofL_mem.1 hj).1
    unfold shr; rw [secAt_get hs0]
    exact zat_lt (by omega) (hsh s (mem_get hs0)) _)]
  have hlt := List.idxOf_lt_length_iff.2 hi
  have hget : (ofL l (b + 1))[(ofL l (b + 1)).idxOf i]? = some i := by rw [List.getElem?_eq_getElem hlt, List.getElem_idxOf]
  rw [zat_get (x := shr l hs b i) (by rw [List.getElem?_map, hget]; rfl)]
  unfold shr
  obtain ⟨x, hx⟩ := get_some hc
  rw [show (b : Int) + 1 = x by rw [← ih_get hx]; omega, idx_of hr hx]
theorem off_at {p : Nat} {f sh : List Nat} {c : Nat} (hc : c < hs.length) : offB p f (ptsOf hs sh) c = decide (evalH p f (ih hs c).toNat ≠ zat sh c) := by
  have hpt : (ptsOf hs sh)[c]? = some ⟨(ih hs c).toNat, zat sh c⟩ := tab_get _ hc
  unfold offB; rw [px_get hpt, py_get hpt]
theorem right_c (hA : AllOk w hs d n tt l F) (hcl : w.Corrupted.length ≤ 4000000) {i q : Nat} (hq : q ≤ n) (hi : i ∈ ofL l q) {K : Bool → Prop} (k : K true) :
    juntolaw20_right.C w (sentF w (privL l hs n) (saidL l hs n) n n) hs l i q (gotQ w.Setup.P l hs (cames w (privL l hs n)) (heards w (saidL l hs n)) F q i).Opened K := by
  have hw := hA.wok
  have hset := hw.set
  obtain ⟨hp, hN1, hN2, _, _, hNP⟩ := id hset
  have hp3 := hp.1
  have hpp := hp.2.1
  have hr := hA.ris
  have h13 := hs13 hN2 hr
  have hn := hA.en
  have hil := (ofL_mem.1 hi).1
  have hll := hA.lel
  obtain ⟨s, hs0⟩ := get_some hil
  have hsec := hA.sec i s hs0
  have hsh : ∀ s ∈ l, ∀ y ∈ s.Shares, y < w.Setup.P := fun s hs1 => by
    obtain ⟨j, hj⟩ := List.mem_iff_getElem?.1 hs1
    exact (hA.sec j s hj).lt
  obtain ⟨f1, f2, f3, f4⟩ := dec0.1 hsec.line
  have hto : ∀ x ∈ l, x.To.length < 4611686018427387904 := fun x hx => by
    obtain ⟨j, hj⟩ := List.mem_iff_getElem?.1 hx
    have := hs13 hN2 (hA.sec j x hj).to; omega
  have hofl := ofL_len l q
  have hsl : (sentF w (privL l hs n) (saidL l hs n) n n).length ≤ 10000 := by
    have := flat_le (n := n) (m := n + 1) (g := fun b => sentRow w (privL l hs n) (saidL l hs n) b n) fun b => sentRow_le w _ _ b n
    have h2 : n * (n + 1) ≤ 13 * 14 := Nat.mul_le_mul (by omega) (by omega)
    unfold sentF; omega
  have hded := hA.ded; have het := hA.et
  refine juntolaw20_right.q (juntoref20_Asked_c (party := q) (by omega) hto ?_)
  refine LoopQ.range hs.length (fun _ => True) trivial (by omega) ?_ (fun next _ => cfd (by omega) k)
  intro c next hc _ hnx
  obtain ⟨x, hx⟩ := get_some hc
  have hxr := ris_mem hr x (mem_get hx)
  have hihx := ih_get hx
  obtain ⟨a, rfl⟩ : ∃ a : Nat, x = (a : Int) + 1 := ⟨x.toNat - 1, by omega⟩
  refine ctd (by omega) ⟨by omega, (a : Int) + 1, hx, ?_⟩
  refine LoopQ.rangeL (sentF w (privL l hs n) (saidL l hs n) n n).length (fun j e => e = scan ((a : Int) + 1) q ((sentF w (privL l hs n) (saidL l hs n) n n).take j) []) rfl (by omega) ?_ ?_
  · rintro j _ next2 hj rfl hn2
    obtain ⟨m, hm⟩ := get_some hj
    have hst : ∀ e, (if m.From = (a : Int) + 1 ∧ m.To = q then m.Data else scan ((a : Int) + 1) q ((sentF w (privL l hs n) (saidL l hs n) n n).take j) []) = e → e = scan ((a : Int) + 1) q ((sentF w (privL l hs n) (saidL l hs n) n n).take (j + 1)) [] := fun e he => by
      rw [take_snoc hm, scan_append, ← he]; rfl
    refine ctd (by dsimp only; omega) ⟨by dsimp only; omega, m, hm, cnE (fun h1 => cnE (fun h2 => hn2 _ (hst _ (by rw [if_pos ⟨h1, h2⟩]))) (fun h2 => hn2 _ (hst _ (by rw [if_neg fun h => h2 h.2])))) (fun h1 => hn2 _ (hst _ (by rw [if_neg fun h => h1 h.1])))⟩
  rintro _ next2 rfl
  refine cfd (by dsimp only; omega) ⟨by omega, s, hs0, by omega, ?_⟩
  obtain ⟨y, hy⟩ := get_some (show c < s.Shares.length by rw [hsec.len]; exact hc)
  refine ⟨y, hy, ?_⟩
  dsimp only
  rw [List.take_of_length_le (Nat.le_refl _)]
  have hyz : y = zat (secAt l i).Shares c := by rw [secAt_get hs0, zat_get hy]
  have hfin : ∀ z, z = zat (recv w.Setup.P l hs (cames w (privL l hs n)) (heards w (saidL l hs n)) q ((ofL l q).idxOf i)) c →
      juntoref02_Eval.C w.Setup.P (F i) ((IntKind.u64.wrap ((a : Int) + 1)).toNat) (fun (x10 : Nat) =>
      juntoref17_Is.C (gotQ w.Setup.P l hs (cames w (privL l hs n)) (heards w (saidL l hs n)) F q i).Opened.Wrong ((a : Int) + 1) (fun (x11 : Bool) =>
      cond (((z : Int) != (x10 : Int)) != x11) (K false)
       (cond ((z : Int) != (x10 : Int)) (juntoref17_Is.C w.Corrupted ((a : Int) + 1) (fun (x12 : Bool) =>
      cond (!x12) (K false)
       (next (IntKind.i64.wrap ((c : Int) + 1)))))
       (next (IntKind.i64.wrap ((c : Int) + 1)))))) := fun z hz => by
    rw [wu64 (by omega) (by omega)]
    refine juntoref02_Eval_c (by omega) hpp (by omega) f1 (by omega) ?_
    have hoffl : (offL w.Setup.P (F i) (ptsOf hs (recv w.Setup.P l hs (cames w (privL l hs n)) (heards w (saidL l hs n)) q ((ofL l q).idxOf i)))).length ≤ 13 := by
      unfold offL
      refine Nat.le_trans (List.length_filter_le _ _) ?_
      rw [List.length_range]; unfold ptsOf; rw [tab_len]; exact h13
    refine juntoref17_Is_c (by show ((offL _ _ _).map _).length < _; rw [List.length_map]; omega) ?_
    have hoff := off_at (p := w.Setup.P) (f := F i) (sh := recv w.Setup.P l hs (cames w (privL l hs n)) (heards w (saidL l hs n)) q ((ofL l q).idxOf i)) hc
    rw [hihx, ← hz] at hoff
    have hmem : ((a : Int) + 1 ∈ (gotQ w.Setup.P l hs (cames w (privL l hs n)) (heards w (saidL l hs n)) F q i).Opened.Wrong) ↔ evalH w.Setup.P (F i) ((a : Int) + 1).toNat ≠ z := by
      show (a : Int) + 1 ∈ (offL w.Setup.P (F i) (ptsOf hs (recv w.Setup.P l hs (cames w (privL l hs n)) (heards w (saidL l hs n)) q ((ofL l q).idxOf i)))).map (ih hs) ↔ _
      constructor
      · intro hm
        obtain ⟨c', hc', e⟩ := List.mem_map.1 hm
        unfold offL at hc'
        obtain ⟨h1, h2⟩ := List.mem_filter.1 hc'
        have h3 : c' < hs.length := by have := List.mem_range.1 h1; unfold ptsOf at this; rwa [tab_len] at this
        have h4 : c' = c := ih_inj hr h3 hc (by rw [e, hihx])
        subst h4
        rw [hoff] at h2; simpa using h2
      · intro h
        refine List.mem_map.2 ⟨c, ?_, hihx⟩
        unfold offL
        rw [List.mem_filter, hoff, List.mem_range]
        exact ⟨by unfold ptsOf; rw [tab_len]; exact hc, by simpa using h⟩
    by_cases hne : evalH w.Setup.P (F i) ((a : Int) + 1).toNat = z
    · rw [decide_eq_false (fun hm => hmem.1 hm hne), bne_f (show (z : Int) = _ by omega)]
      exact cf rfl (cf rfl (hnx trivial))
    · rw [decide_eq_true (hmem.2 hne), bne_t (show (z : Int) ≠ _ by omega)]
      refine cf rfl (ct rfl (juntoref17_Is_c (by omega) ?_))
      have hcor : (a : Int) + 1 ∈ w.Corrupted := Classical.byContradiction fun hcn => hne (by
        have e1 : z = zat (secAt l i).Shares c := by
          rw [hz]; unfold recv; rw [zat_get (tab_get _ hc)]
          exact honest_R hw hn hr hsh hc (by rw [hihx]; exact hcn) hq hi
        have e2 := f4 ⟨(ih hs c).toNat, zat s.Shares c⟩ (List.mem_map.2 ⟨c, by unfold hon; rw [List.mem_filter, List.mem_range]; exact ⟨hc, by rw [hihx]; simpa using hcn⟩, rfl⟩)
        dsimp only at e2
        rw [hihx] at e2
        rw [e2, e1, secAt_get hs0])
      rw [decide_eq_true hcor]
      exact cf rfl (hnx trivial)
  rw [ints_len]
  have hrecv : zat (recv w.Setup.P l hs (cames w (privL l hs n)) (heards w (saidL l hs n)) q ((ofL l q).idxOf i)) c = zat (inR w.Setup.P l (cames w (privL l hs n)) (heards w (saidL l hs n)) q ((a : Int) + 1)) ((ofL l q).idxOf i) := by
    unfold recv; rw [zat_get (tab_get _ hc), hihx]
  refine LoopQ.rangeL (ofL l q).length (fun j z => z = if (ofL l q).idxOf i < j ∧ (a : Int) + 1 ≠ q then zat (inR w.Setup.P l (cames w (privL l hs n)) (heards w (saidL l hs n)) q ((a : Int) + 1)) ((ofL l q).idxOf i) else y) (by rw [if_neg (by omega)]) (by omega) ?_ ?_
  · rintro j _ next3 hj rfl hn3
    obtain ⟨i', hi'⟩ := get_some hj
    refine ctd (by dsimp only; omega) ⟨by dsimp only; omega, by dsimp only; omega, (i' : Int), by unfold ints; rw [List.getElem?_map, toNat_c, hi']; rfl, cnE (fun h1 => ?_) (fun h1 => ?_)⟩
    · obtain rfl : i' = i := by omega
      have hix := idx_nat (ofL_nodup l q) hi'
      refine cnN (fun h2 => juntoref17_Read_c (by omega) (by omega) ⟨by dsimp only; omega, by dsimp only; rw [takeN_len]; omega, ?_⟩) (fun h2 => hn3 _ ?_)
      · obtain ⟨v, hv⟩ := get_some (show j < (takeN w.Setup.P (scan ((a : Int) + 1) q (sentF w (privL l hs n) (saidL l hs n) n n) []) (ofL l q).length).length by rw [takeN_len]; exact hj)
        refine ⟨v, hv, hn3 _ ?_⟩
        rw [if_pos ⟨by omega, h2⟩, hix]
        unfold inR
        rw [← scan_sent hn (by omega) hq h2, zat_get hv]
      · rw [if_neg (by rintro ⟨_, h3⟩; exact h3 h2), if_neg (by rintro ⟨_, h3⟩; exact h3 h2)]
    · refine hn3 _ ?_
      have hne : (ofL l q).idxOf i ≠ j := fun e => h1 (by
        have hlt := List.idxOf_lt_length_iff.2 hi
        have : (ofL l q)[(ofL l q).idxOf i]? = some i := by rw [List.getElem?_eq_getElem hlt, List.getElem_idxOf]
        rw [e, hi'] at this; cases this; rfl)
      by_cases h2 : (ofL l q).idxOf i < j ∧ (a : Int) + 1 ≠ q
      · rw [if_pos h2, if_pos ⟨by omega, h2.2⟩]
      · rw [if_neg h2, if_neg (by omega)]
  · rintro _ next3 rfl
    refine cfd (by dsimp only; omega) ?_
    have hlt := List.idxOf_lt_length_iff.2 hi
    refine hfin _ ?_
    rw [hrecv]
    by_cases h2 : (a : Int) + 1 = q
    · rw [if_neg (by rintro ⟨_, h3⟩; exact h3 h2), hyz, ← hihx]
      exact (own_R hw hn hr hsh hc (by rw [hihx]; exact h2) hi).symm
    · rw [if_pos ⟨hlt, h2⟩]
end
theorem OpenBlame_c {w : TWorld} {hs : List Int} {d : Int} {l : List TSecret} (hW : SmW w) (hh : hs.length ≤ 4000000) (hl : l.length ≤ 4000000) (hto : ∀ x ∈ l, x.To.length ≤ 4000000) : juntolaw20_OpenBlame.C w hs d l fun b => b = true := by
  refine juntolaw20_OpenBlame.q (cnd (fun _ => rfl) fun h60 => ?_)
  refine open_All_c hW hh hl hto (fun h => ct (bne_t h) (alive20_c rfl)) fun e n tt F he hA _ => cf rfl ?_
  subst he
  have hlen : (opens (outsOf w hs n l F)).length = l.length := by unfold opens outsOf gots; rw [List.length_map, tab_len]
  have hset := hA.wok.set
  have hN2 := hset.2.2.1
  have hen := hA.en
  have hNn : w.Setup.N.toNat = n := by omega
  have hsent : (nextW w (privL l hs n) (saidL l hs n)).Sent = w.Sent ++ sentF w (privL l hs n) (saidL l hs n) n n := by unfold nextW withSent; rw [hNn]
  have hdrop : List.drop w.Sent.length (nextW w (privL l hs n) (saidL l hs n)).Sent = sentF w (privL l hs n) (saidL l hs n) n n := by rw [hsent]; simp
  have hsl : w.Sent.length ≤ (nextW w (privL l hs n) (saidL l hs n)).Sent.length := by rw [hsent]; simp
  have hWc := hW.cor
  rw [hdrop]
  refine cf (bne_f (by omega)) (cfd (by omega) (LoopQ.range l.length (fun _ => True) trivial (by omega) ?_ ?_))
  · intro i next hi _ hn
    obtain ⟨s, hs0⟩ := get_some hi
    have hsec := hA.sec i s hs0
    have hget := gots_get (p := w.Setup.P) (hs := hs) (C := cames w (privL l hs n)) (Hd := heards w (saidL l hs n)) (F := F) (n := n + 1) hi
    rw [secAt_get hs0, recips (by have := hsec.to; rwa [hA.en] at this)] at hget
    have hto13 := hs13 hN2 hsec.to
    have hrl : ((if s.To = [] then [0] else s.To.map Int.toNat).map fun q => (gotQ w.Setup.P l hs (cames w (privL l hs n)) (heards w (saidL l hs n)) F q i).Opened).length ≤ 14 := by rw [List.length_map]; split <;> simp; omega
    generalize hG : ((if s.To = [] then [0] else s.To.map Int.toNat).map fun q => (gotQ w.Setup.P l hs (cames w (privL l hs n)) (heards w (saidL l hs n)) F q i).Opened) = G at hget hrl
    refine ctd (by omega) ⟨by omega, s, hs0, by omega, by omega, _, hget, ?_⟩
    refine LoopQ.range G.length (fun _ => True) trivial (by omega) ?_ ?_
    · intro m next2 hm _ hn2
      obtain ⟨x, hx⟩ := get_some hm
      have hx0 := hx
      rw [← hG, List.getElem?_map] at hx
      obtain ⟨q, hq, rfl⟩ := Option.map_eq_some_iff.1 hx
      refine ctd (by omega) ⟨by omega, _, hx0, ?_⟩
      by_cases h0 : s.To = []
      · rw [if_pos h0] at hq
        have hq0 : q = 0 := by
          have := mem_get hq
          simpa using this
        subst hq0
        refine cfd (by rw [h0]; simp) ⟨by omega, by omega, ?_⟩
        exact right_c (q := 0) hA hWc (Nat.zero_le _) (ofL_mem.2 ⟨hi, by rw [secAt_get hs0]; unfold asked; rw [if_pos rfl, h0]; rfl⟩) (cf rfl (hn2 trivial))
      · rw [if_neg h0, List.getElem?_map] at hq
        obtain ⟨z, hz, rfl⟩ := Option.map_eq_some_iff.1 hq
        have hzr := ris_mem hsec.to z (mem_get hz)
        refine ctd (by have := List.length_pos_iff.2 h0; omega) ⟨by omega, z, hz, by omega, by omega, ?_⟩
        have ez : ((z.toNat : Nat) : Int) = z := by omega
        have hr := right_c (q := z.toNat) (K := fun x6 => cond (!x6) ((fun b => b = true) false) (next2 (IntKind.i64.wrap ((m : Int) + 1)))) hA hWc (by omega) (ofL_mem.2 ⟨hi, by rw [secAt_get hs0]; unfold asked; rw [if_neg (by omega), ez]; exact decide_eq_true (mem_get hz)⟩) (cf rfl (hn2 trivial))
        rw [ez] at hr
        exact hr
    · intro next2 _
      exact cfd (by omega) (hn trivial)
  · intro next _
    exact cfd (by omega) (alive20_c rfl)
end Go.Proofs.Ytajdpkinlnaidaa.Pl
namespace Go.Proofs.Ytajdpkinlnaidaa.Pl
open Go.Sx Go.Lf Go.Proofs.Ytajdpkinlnaidaa.Sh Go.Proofs.Ytajdpkinlnaidaa.Sp
theorem smW_of {w : TWorld} (h : TWorld.L.sm 1048576 w) : SmW w :=
  ⟨Nat.le_trans h.1.1 (by decide), Nat.le_trans h.2.1.1 (by decide), Nat.le_trans h.2.2.1.1 (by decide), Nat.le_trans h.2.2.2.1 (by decide)⟩
theorem sm_len {α : Type} {E : Rl α} {xs : List α} (h : (slL E).sm 1048576 xs) : xs.length ≤ 4000000 := Nat.le_trans h.1 (by decide)
theorem sm_to {l : List TSecret} (h : (slL TSecret.L).sm 1048576 l) (x : TSecret) (hx : x ∈ l) : x.To.length ≤ 4000000 := Nat.le_trans (h.2 x hx).1.1 (by decide)
end Go.Proofs.Ytajdpkinlnaidaa.Pl
end
