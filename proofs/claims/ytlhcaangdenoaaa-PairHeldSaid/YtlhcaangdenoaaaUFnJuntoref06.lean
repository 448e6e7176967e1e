import Derived.Test.YtlhcaangdenoaaaUTypes
import Derived.Test.YtlhcaangdenoaaaUFnJuntoref01
import Derived.Test.YtlhcaangdenoaaaUFnJuntoref02
namespace Go.Lf
end Go.Lf
namespace Go.Sx
end Go.Sx
set_option linter.unusedVariables false
set_option linter.unusedSimpArgs false
set_option maxRecDepth 100000
namespace Go.Proofs.Ytlhcaangdenoaaa.Sh
open Go.Sx
def juntoref06_Bounds.A : Ann where
  loops := fun i => match i with
    | _ => []
  plans := fun i => match i with
    | _ => .stop
def juntoref06_Bounds.W (p : Int) (t : Int) (H : Heap) (R : Value → Heap → Prop) : Prop :=
  CallH P N.juntoref01_Is [.int .u64 p] H fun v H_ =>
  ∃ r : Bool, v = .bool r ∧ cond (!r) (R (.int .i64 2) H_) (cond (decide (t < 0)) (R (.int .i64 2) H_) (cond (decide (t > 3)) (R (.int .i64 2) H_)
   (R (.int .i64 0) H_)))
theorem juntoref06_Bounds.ok (p : Int) (t : Int) (H : Heap) (R : Value → Heap → Prop) (h : juntoref06_Bounds.W p t H R) : CallH P N.juntoref06_Bounds ([.int .u64 p, .int .i64 t] : List Value) H R := by
  have e : juntoref06_Bounds.W p t H R = sxFn P T Sh.R nf juntoref06_Bounds.A Try.f30.results.toList (bodyOf Try.f30) (([(.int .u64 p : Value), (.int .i64 t : Value)] : List Value) ++ List.replicate (16 - ([(.int .u64 p : Value), (.int .i64 t : Value)] : List Value).length) undef) H R := by kernel_rfl
  exact call_of_sx fits bodies mixed Try.func30 (c := bodyOf Try.f30) (by kernel_rfl) Try.ntmps30 juntoref06_Bounds.A (by kernel_rfl) (e.mp h)
def juntoref06_Rows.A : Ann where
  loops := fun i => match i with
    | 32781 => [(28, .int .i64)]
    | _ => []
  plans := fun i => match i with
    | _ => .stop
def juntoref06_Rows.W (p : Int) (xsA : Option Addr) (xsn xsc : Nat) (rowsA : Option Addr) (rowsn rowsc : Nat) (H : Heap) (R : Value → Heap → Prop) : Prop :=
  cond (decide (((xsn : Nat) : Int) > 13)) (R (.int .i64 3) H)
   (cond (((rowsn : Nat) : Int) != ((xsn : Nat) : Int)) (R (.int .i64 2) H) (CallH P N.juntoref01_Within [.int .u64 p, .slice xsA xsn xsc] H fun v H_ =>
  ∃ r : Int, v = .int .i64 r ∧ cond (r != 0) (R (.int .i64 2) H_)
   (CallH P N.juntoref02_Twice [.slice xsA xsn xsc] H_ fun v2 H_2 =>
  ∃ r2 : Bool, v2 = .bool r2 ∧ cond r2 (R (.int .i64 6) H_2)
   (LoopI (σ := Int) (fun κ => κ 0 H_2) fun s z H_3 next =>
  cond (decide (s < ((rowsn : Nat) : Int))) (∃ a : Addr, rowsA = some a ∧ 0 ≤ s ∧ s < ((rowsn : Nat) : Int) ∧ ∃ (xA : Option Addr) (xn xc : Nat), cellH H_3 (a.add (Int.toNat s)) = some (.slice xA xn xc) ∧ CallH P N.juntoref02_Within [.int .u64 p, .slice xA xn xc] H_3 fun v3 H_4 =>
  ∃ r3 : Int, v3 = .int .i64 r3 ∧ cond (r3 != 0) (R (.int .i64 r3) H_4)
   (next (IntKind.i64.wrap (s + 1)) H_4))
   (R (.int .i64 0) H_3)))))
theorem juntoref06_Rows.ok (p : Int) (xsA : Option Addr) (xsn xsc : Nat) (rowsA : Option Addr) (rowsn rowsc : Nat) (H : Heap) (R : Value → Heap → Prop) (h : juntoref06_Rows.W p xsA xsn xsc rowsA rowsn rowsc H R) : CallH P N.juntoref06_Rows ([.int .u64 p, .slice xsA xsn xsc, .slice rowsA rowsn rowsc] : List Value) H R := by
  have e : juntoref06_Rows.W p xsA xsn xsc rowsA rowsn rowsc H R = sxFn P T Sh.R nf juntoref06_Rows.A Try.f71.results.toList (bodyOf Try.f71) (([(.int .u64 p : Value), (.slice xsA xsn xsc : Value), (.slice rowsA rowsn rowsc : Value)] : List Value) ++ List.replicate (39 - ([(.int .u64 p : Value), (.slice xsA xsn xsc : Value), (.slice rowsA rowsn rowsc : Value)] : List Value).length) undef) H R := by kernel_rfl
  exact call_of_sx fits bodies mixed Try.func71 (c := bodyOf Try.f71) (by kernel_rfl) Try.ntmps71 juntoref06_Rows.A (by kernel_rfl) (e.mp h)
def juntoref06_Same.A : Ann where
  loops := fun i => match i with
    | 16392 => [(13, .int .i64)]
    | _ => []
  plans := fun i => match i with
    | 6 => .first 0 (.first 1 (.first 2 (.first 4 (.first 5 (.first 6 (.read 3 (.read 7 (.alt 8 [3, 7] (.first 9 (.done)) (.stop)))))))))
    | _ => .stop
def juntoref06_Same.W (fA : Option Addr) (fn fc : Nat) (gA : Option Addr) (gn gc : Nat) (H : Heap) (R : Value → Heap → Prop) : Prop :=
  cond (((fn : Nat) : Int) != ((gn : Nat) : Int)) (R (.bool false) H)
   (LoopI (σ := Int) (fun κ => κ 0 H) fun s z H_ next =>
  cond (decide (s < ((fn : Nat) : Int))) (∃ a : Addr, fA = some a ∧ 0 ≤ s ∧ s < ((fn : Nat) : Int) ∧ ∃ a2 : Addr, gA = some a2 ∧ 0 ≤ s ∧ s < ((gn : Nat) : Int) ∧ ∃ (xA : Option Addr) (xn xc : Nat), cellH H_ (a.add (Int.toNat s)) = some (.slice xA xn xc) ∧ ∃ (xA2 : Option Addr) (xn2 xc2 : Nat), cellH H_ (a2.add (Int.toNat s)) = some (.slice xA2 xn2 xc2) ∧ CallH P N.juntoref01_Same [.slice xA xn xc, .slice xA2 xn2 xc2] H_ fun v H_2 =>
  ∃ r : Bool, v = .bool r ∧ cond (!r) (R (.bool false) H_2)
   (next (IntKind.i64.wrap (s + 1)) H_2))
   (R (.bool true) H_))
theorem juntoref06_Same.ok (fA : Option Addr) (fn fc : Nat) (gA : Option Addr) (gn gc : Nat) (H : Heap) (R : Value → Heap → Prop) (h : juntoref06_Same.W fA fn fc gA gn gc H R) : CallH P N.juntoref06_Same ([.slice fA fn fc, .slice gA gn gc] : List Value) H R := by
  have e : juntoref06_Same.W fA fn fc gA gn gc H R = sxFn P T Sh.R nf juntoref06_Same.A Try.f75.results.toList (bodyOf Try.f75) (([(.slice fA fn fc : Value), (.slice gA gn gc : Value)] : List Value) ++ List.replicate (27 - ([(.slice fA fn fc : Value), (.slice gA gn gc : Value)] : List Value).length) undef) H R := by kernel_rfl
  exact call_of_sx fits bodies mixed Try.func75 (c := bodyOf Try.f75) (by kernel_rfl) Try.ntmps75 juntoref06_Same.A (by kernel_rfl) (e.mp h)
end Go.Proofs.Ytlhcaangdenoaaa.Sh
namespace Go.Proofs.Ytlhcaangdenoaaa.Sh
open Go.Sx Go.Lf
def juntoref06_Bounds.C (p : Nat) (t : Int) (K : Int → Prop) : Prop :=
  ∀ (Z : Nat → Prop) (H : Heap), ∀ (pv : Int), pv = (p : Int) → ∀ KK : Value → Heap → Prop,
    (∀ (Z' : Nat → Prop) (H' : Heap), Ext H H' → Old Z H Z' → ∀ (r0 : Int), K r0 → KK (.int .i64 r0) H') →
    CallH P N.juntoref06_Bounds [.int .u64 pv, .int .i64 t] H KK
def juntoref06_Bounds.Q (p : Nat) (t : Int) (K : Int → Prop) : Prop :=
  juntoref01_Is.C p (fun (x : Bool) =>
  cond (!x) (K 2)
   (cond (decide (t < 0)) (K 2)
   (cond (decide (t > 3)) (K 2)
   (K 0))))
theorem juntoref06_Bounds.q {p : Nat} {t : Int} {K : Int → Prop} (q : juntoref06_Bounds.Q p t K) : juntoref06_Bounds.C p t K := by
  intro Z H pv he KK hk
  cases he
  apply juntoref06_Bounds.ok
  unfold juntoref06_Bounds.W
  unfold juntoref06_Bounds.Q at q
  obtain ⟨σ, hz, hσ⟩ := tags Z
  have hs : Stp ([] : List Nat) σ H σ H := Stp.refl _ _ _
  clear hz
  refine q (Zt σ) H _ rfl _ (fun Z2 H_ hE hO x q => ?_)
  obtain ⟨xσ, st⟩ := call0 hE σ
  replace hs := hs.trans st
  refine ⟨_, rfl, ?_⟩
  refine condI (fun q => ?_) (fun q => ?_) q
  · exact hk (Zt xσ) _ (hs.ext hσ) (hs.old hσ) _ q
  · refine condI (fun q => ?_) (fun q => ?_) q
    · exact hk (Zt xσ) _ (hs.ext hσ) (hs.old hσ) _ q
    · refine condI (fun q => ?_) (fun q => ?_) q
      · exact hk (Zt xσ) _ (hs.ext hσ) (hs.old hσ) _ q
      · exact hk (Zt xσ) _ (hs.ext hσ) (hs.old hσ) _ q
def juntoref06_Same.C (f : (List (List Nat))) (g : (List (List Nat))) (K : Bool → Prop) : Prop :=
  ∀ (Z : Nat → Prop) (H : Heap), ∀ (fA : Option Addr) (fn fc : Nat), fn = f.length → SlF (slL u64L) Z H fA fc f → ∀ (gA : Option Addr) (gn gc : Nat), gn = g.length → SlF (slL u64L) Z H gA gc g → ∀ KK : Value → Heap → Prop,
    (∀ (Z' : Nat → Prop) (H' : Heap), Ext H H' → Old Z H Z' → ∀ (r0 : Bool), K r0 → KK (.bool r0) H') →
    CallH P N.juntoref06_Same [.slice fA fn fc, .slice gA gn gc] H KK
def juntoref06_Same.Q (f : (List (List Nat))) (g : (List (List Nat))) (K : Bool → Prop) : Prop :=
  cond (((f.length : Nat) : Int) != ((g.length : Nat) : Int)) (K false)
   (LoopQ (τ := Int) 0 fun t nextQ =>
  cond (decide (t < ((f.length : Nat) : Int))) (0 ≤ t ∧ ∃ x : (List Nat), f[Int.toNat t]? = some x ∧ 0 ≤ t ∧ ∃ x2 : (List Nat), g[Int.toNat t]? = some x2 ∧ juntoref01_Same.C x x2 (fun (x3 : Bool) =>
  cond (!x3) (K false)
   (nextQ (IntKind.i64.wrap (t + 1)))))
   (K true))
theorem juntoref06_Same.q {f : (List (List Nat))} {g : (List (List Nat))} {K : Bool → Prop} (q : juntoref06_Same.Q f g K) : juntoref06_Same.C f g K := by
  intro Z H fA fn fc hn f2 gA gn gc hn2 f3 KK hk
  cases hn
  cases hn2
  apply juntoref06_Same.ok
  unfold juntoref06_Same.W
  unfold juntoref06_Same.Q at q
  obtain ⟨σ, hz, hσ⟩ := tags Z
  have hs : Stp ([] : List Nat) σ H σ H := Stp.refl _ _ _
  replace f2 := f2.wide hz
  replace f3 := f3.wide hz
  clear hz
  refine condI (fun q => ?_) (fun q => ?_) q
  · exact hk (Zt σ) _ (hs.ext hσ) (hs.old hσ) _ q
  · refine LoopI.ofQ q (fun t_ s_ hp_ => ∃ (σ_ : Nat → Nat), Stp [] σ H σ_ hp_ ∧ t_ = s_) (fun h k => h _ _ k) ⟨_, Stp.refl _ _ _, rfl⟩ ?_
    rintro t _ _ H_ next nextQ ⟨xσ, st, rfl⟩ q hnext
    try dsimp only at q ⊢
    replace f2 := f2.step st
    replace f3 := f3.step st
    replace hs := hs.trans st
    have sl0 := st
    refine condI (fun q => ?_) (fun q => ?_) q
    · obtain ⟨h0, x, hx, q⟩ := q
      obtain ⟨a, ha, hi⟩ := f2.addr h0 hx rfl
      refine ⟨a, ha, hi.1, hi.2, ?_⟩
      obtain ⟨h02, x2, hx2, q⟩ := q
      obtain ⟨a2, ha2, hi2⟩ := f3.addr h02 hx2 rfl
      refine ⟨a2, ha2, hi2.1, hi2.2, ?_⟩
      obtain ⟨A, c, hc, f4⟩ := f2.lds ha h0 hx
      refine ⟨_, _, _, hc.val, ?_⟩
      obtain ⟨A2, c2, hc2, f5⟩ := f3.lds ha2 h02 hx2
      refine ⟨_, _, _, hc2.val, ?_⟩
      refine q (Zt xσ) H_ _ _ _ rfl f4 _ _ _ rfl f5 _ (fun Z2 H_2 hE hO x3 q => ?_)
      obtain ⟨xσ2, st2⟩ := call0 hE xσ
      replace f2 := f2.step st2
      replace f3 := f3.step st2
      replace hc := hc.step st2
      replace f4 := f4.step st2
      replace hc2 := hc2.step st2
      replace f5 := f5.step st2
      replace hs := hs.trans st2
      replace sl0 := sl0.trans st2
      refine ⟨_, rfl, ?_⟩
      refine condI (fun q => ?_) (fun q => ?_) q
      · exact hk (Zt xσ2) _ (hs.ext hσ) (hs.old hσ) _ q
      · exact hnext (IntKind.i64.wrap (t + 1)) _ _ ⟨_, sl0, rfl⟩ q
    · exact hk (Zt xσ) _ (hs.ext hσ) (hs.old hσ) _ q
def juntoref06_Rows.C (p : Nat) (xs : (List Nat)) (rows : (List (List Nat))) (K : Int → Prop) : Prop :=
  ∀ (Z : Nat → Prop) (H : Heap), ∀ (pv : Int), pv = (p : Int) → ∀ (xsA : Option Addr) (xsn xsc : Nat), xsn = xs.length → SlF u64L Z H xsA xsc xs → ∀ (rowsA : Option Addr) (rowsn rowsc : Nat), rowsn = rows.length → SlF (slL u64L) Z H rowsA rowsc rows → ∀ KK : Value → Heap → Prop,
    (∀ (Z' : Nat → Prop) (H' : Heap), Ext H H' → Old Z H Z' → ∀ (r0 : Int), K r0 → KK (.int .i64 r0) H') →
    CallH P N.juntoref06_Rows [.int .u64 pv, .slice xsA xsn xsc, .slice rowsA rowsn rowsc] H KK
def juntoref06_Rows.Q (p : Nat) (xs : (List Nat)) (rows : (List (List Nat))) (K : Int → Prop) : Prop :=
  cond (decide (((xs.length : Nat) : Int) > 13)) (K 3)
   (cond (((rows.length : Nat) : Int) != ((xs.length : Nat) : Int)) (K 2)
   (juntoref01_Within.C p xs (fun (x : Int) =>
  cond (x != 0) (K 2)
   (juntoref02_Twice.C xs (fun (x2 : Bool) =>
  cond x2 (K 6)
   (LoopQ (τ := Int) 0 fun t nextQ =>
  cond (decide (t < ((rows.length : Nat) : Int))) (0 ≤ t ∧ ∃ x3 : (List Nat), rows[Int.toNat t]? = some x3 ∧ juntoref02_Within.C p x3 (fun (x4 : Int) =>
  cond (x4 != 0) (K x4)
   (nextQ (IntKind.i64.wrap (t + 1)))))
   (K 0)))))))
theorem juntoref06_Rows.q {p : Nat} {xs : (List Nat)} {rows : (List (List Nat))} {K : Int → Prop} (q : juntoref06_Rows.Q p xs rows K) : juntoref06_Rows.C p xs rows K := by
  intro Z H pv he xsA xsn xsc hn f rowsA rowsn rowsc hn2 f2 KK hk
  cases he
  cases hn
  cases hn2
  apply juntoref06_Rows.ok
  unfold juntoref06_Rows.W
  unfold juntoref06_Rows.Q at q
  obtain ⟨σ, hz, hσ⟩ := tags Z
  have hs : Stp ([] : List Nat) σ H σ H := Stp.refl _ _ _
  replace f := f.wide hz
  replace f2 := f2.wide hz
  clear hz
  refine condI (fun q => ?_) (fun q => ?_) q
  · exact hk (Zt σ) _ (hs.ext hσ) (hs.old hσ) _ q
  · refine condI (fun q => ?_) (fun q => ?_) q
    · exact hk (Zt σ) _ (hs.ext hσ) (hs.old hσ) _ q
    · refine q (Zt σ) H _ rfl _ _ _ rfl f _ (fun Z2 H_ hE hO x q => ?_)
      obtain ⟨xσ, st⟩ := call0 hE σ
      replace f := f.step st
      replace f2 := f2.step st
      replace hs := hs.trans st
      refine ⟨_, rfl, ?_⟩
      refine condI (fun q => ?_) (fun q => ?_) q
      · exact hk (Zt xσ) _ (hs.ext hσ) (hs.old hσ) _ q
      · refine q (Zt xσ) H_ _ _ _ rfl f _ (fun Z3 H_2 hE2 hO2 x2 q => ?_)
        obtain ⟨xσ2, st2⟩ := call0 hE2 xσ
        replace f := f.step st2
        replace f2 := f2.step st2
        replace hs := hs.trans st2
        refine ⟨_, rfl, ?_⟩
        refine condI (fun q => ?_) (fun q => ?_) q
        · exact hk (Zt xσ2) _ (hs.ext hσ) (hs.old hσ) _ q
        · refine LoopI.ofQ q (fun t_ s_ hp_ => ∃ (σ_ : Nat → Nat), Stp [] xσ2 H_2 σ_ hp_ ∧ t_ = s_) (fun h k => h _ _ k) ⟨_, Stp.refl _ _ _, rfl⟩ ?_
          rintro t _ _ H_3 next nextQ ⟨xσ3, st3, rfl⟩ q hnext
          try dsimp only at q ⊢
          replace f := f.step st3
          replace f2 := f2.step st3
          replace hs := hs.trans st3
          have sl0 := st3
          refine condI (fun q => ?_) (fun q => ?_) q
          · obtain ⟨h0, x3, hx, q⟩ := q
            obtain ⟨a, ha, hi⟩ := f2.addr h0 hx rfl
            refine ⟨a, ha, hi.1, hi.2, ?_⟩
            obtain ⟨A, c, hc, f3⟩ := f2.lds ha h0 hx
            refine ⟨_, _, _, hc.val, ?_⟩
            refine q (Zt xσ3) H_3 _ rfl _ _ _ rfl f3 _ (fun Z4 H_4 hE3 hO3 x4 q => ?_)
            obtain ⟨xσ4, st4⟩ := call0 hE3 xσ3
            replace f := f.step st4
            replace f2 := f2.step st4
            replace hc := hc.step st4
            replace f3 := f3.step st4
            replace hs := hs.trans st4
            replace sl0 := sl0.trans st4
            refine ⟨_, rfl, ?_⟩
            refine condI (fun q => ?_) (fun q => ?_) q
            · exact hk (Zt xσ4) _ (hs.ext hσ) (hs.old hσ) _ q
            · exact hnext (IntKind.i64.wrap (t + 1)) _ _ ⟨_, sl0, rfl⟩ q
          · exact hk (Zt xσ3) _ (hs.ext hσ) (hs.old hσ) _ q
end Go.Proofs.Ytlhcaangdenoaaa.Sh
