import Derived.Test.YtlhcaangdenoaaaTTypes
import Derived.Test.YtlhcaangdenoaaaTFnJuntolaw06
import Derived.Test.YtlhcaangdenoaaaTFnJuntoref06
import Derived.Test.YtlhcaangdenoaaaTFnPair
namespace Go.Lf
end Go.Lf
namespace Go.Sx
end Go.Sx
set_option linter.unusedVariables false
set_option linter.unusedSimpArgs false
set_option maxRecDepth 100000
namespace Go.Proofs.Ytlhcaangdenoaaa.Sh
open Go.Sx
def juntolaw06_PairQuarrels.A : Ann where
  loops := fun i => match i with
    | 45071 => [(55, .int .i64)]
    | _ => []
  plans := fun i => match i with
    | 13 => .first 0 (.first 1 (.first 2 (.first 4 (.first 5 (.first 6 (.read 3 (.read 7 (.first 8 (.done)))))))))
    | _ => .stop
def juntolaw06_PairQuarrels.W (p : Int) (xsA : Option Addr) (xsn xsc : Nat) (rowsA : Option Addr) (rowsn rowsc : Nat) (H : Heap) (R : Value → Heap → Prop) : Prop :=
  CallH P N.pair_Quarrels [.int .u64 p, .slice xsA xsn xsc, .slice rowsA rowsn rowsc] H fun v H_ =>
  ∃ (r0A : Option Addr) (r0n r0c : Nat), ∃ r1 : Int, v = .tuple #[.slice r0A r0n r0c, .int .i64 r1] ∧ CallH P N.juntoref06_Bounds [.int .u64 p, .int .i64 0] H_ fun v2 H_2 =>
  ∃ r : Int, v2 = .int .i64 r ∧ cond (r == 0) (CallH P N.juntoref06_Rows [.int .u64 p, .slice xsA xsn xsc, .slice rowsA rowsn rowsc] H_2 fun v3 H_3 =>
  ∃ r2 : Int, v3 = .int .i64 r2 ∧ cond (r2 != 0) (cond (((r0n : Nat) : Int) == 0) (cond (r1 == r2) (CallH P N.juntolaw06_alive [] H_3 fun v4 H_4 =>
  ∃ r3 : Bool, v4 = .bool r3 ∧ R (.bool r3) H_4) (R (.bool false) H_3)) (R (.bool false) H_3))
   (CallH P N.juntoref06_Quarrels [.int .u64 p, .slice xsA xsn xsc, .slice rowsA rowsn rowsc] H_3 fun v5 H_5 =>
  ∃ (rA : Option Addr) (rn rc : Nat), v5 = .slice rA rn rc ∧ cond (r1 != 0) (R (.bool false) H_5) (cond (((r0n : Nat) : Int) != ((rn : Nat) : Int)) (R (.bool false) H_5)
   (LoopI (σ := Int) (fun κ => κ 0 H_5) fun s z H_6 next =>
  cond (decide (s < ((r0n : Nat) : Int))) (∃ a : Addr, r0A = some a ∧ 0 ≤ s ∧ s < ((r0n : Nat) : Int) ∧ ∃ a2 : Addr, rA = some a2 ∧ 0 ≤ s ∧ s < ((rn : Nat) : Int) ∧ ∃ x0 : Int, ∃ x1 : Int, cellH H_6 (a.add ((Int.toNat s) * 2)) = some (.int .i64 x0) ∧ cellH H_6 ((a.add ((Int.toNat s) * 2)).add 1) = some (.int .i64 x1) ∧ ∃ x02 : Int, ∃ x12 : Int, cellH H_6 (a2.add ((Int.toNat s) * 2)) = some (.int .i64 x02) ∧ cellH H_6 ((a2.add ((Int.toNat s) * 2)).add 1) = some (.int .i64 x12) ∧ ∃ b : Bool, EqAgg P .neq 81 (.agg #[.int .i64 x0, .int .i64 x1]) (.agg #[.int .i64 x02, .int .i64 x12]) b ∧ cond b (R (.bool false) H_6)
   (next (IntKind.i64.wrap (s + 1)) H_6))
   (CallH P N.juntolaw06_alive [] H_6 fun v6 H_7 =>
  ∃ r4 : Bool, v6 = .bool r4 ∧ R (.bool r4) H_7)))))
   (cond (r != 0) (cond (((r0n : Nat) : Int) == 0) (cond (r1 == r) (CallH P N.juntolaw06_alive [] H_2 fun v7 H_8 =>
  ∃ r5 : Bool, v7 = .bool r5 ∧ R (.bool r5) H_8) (R (.bool false) H_2)) (R (.bool false) H_2))
   (CallH P N.juntoref06_Quarrels [.int .u64 p, .slice xsA xsn xsc, .slice rowsA rowsn rowsc] H_2 fun v8 H_9 =>
  ∃ (rA2 : Option Addr) (rn2 rc2 : Nat), v8 = .slice rA2 rn2 rc2 ∧ cond (r1 != 0) (R (.bool false) H_9) (cond (((r0n : Nat) : Int) != ((rn2 : Nat) : Int)) (R (.bool false) H_9)
   (LoopI (σ := Int) (fun κ => κ 0 H_9) fun s2 z2 H_10 next2 =>
  cond (decide (s2 < ((r0n : Nat) : Int))) (∃ a3 : Addr, r0A = some a3 ∧ 0 ≤ s2 ∧ s2 < ((r0n : Nat) : Int) ∧ ∃ a4 : Addr, rA2 = some a4 ∧ 0 ≤ s2 ∧ s2 < ((rn2 : Nat) : Int) ∧ ∃ x03 : Int, ∃ x13 : Int, cellH H_10 (a3.add ((Int.toNat s2) * 2)) = some (.int .i64 x03) ∧ cellH H_10 ((a3.add ((Int.toNat s2) * 2)).add 1) = some (.int .i64 x13) ∧ ∃ x04 : Int, ∃ x14 : Int, cellH H_10 (a4.add ((Int.toNat s2) * 2)) = some (.int .i64 x04) ∧ cellH H_10 ((a4.add ((Int.toNat s2) * 2)).add 1) = some (.int .i64 x14) ∧ ∃ b2 : Bool, EqAgg P .neq 81 (.agg #[.int .i64 x03, .int .i64 x13]) (.agg #[.int .i64 x04, .int .i64 x14]) b2 ∧ cond b2 (R (.bool false) H_10)
   (next2 (IntKind.i64.wrap (s2 + 1)) H_10))
   (CallH P N.juntolaw06_alive [] H_10 fun v9 H_11 =>
  ∃ r6 : Bool, v9 = .bool r6 ∧ R (.bool r6) H_11)))))
theorem juntolaw06_PairQuarrels.ok (p : Int) (xsA : Option Addr) (xsn xsc : Nat) (rowsA : Option Addr) (rowsn rowsc : Nat) (H : Heap) (R : Value → Heap → Prop) (h : juntolaw06_PairQuarrels.W p xsA xsn xsc rowsA rowsn rowsc H R) : CallH P N.juntolaw06_PairQuarrels ([.int .u64 p, .slice xsA xsn xsc, .slice rowsA rowsn rowsc] : List Value) H R := by
  have e : juntolaw06_PairQuarrels.W p xsA xsn xsc rowsA rowsn rowsc H R = sxFn P T Sh.R nf juntolaw06_PairQuarrels.A Try.f22.results.toList (bodyOf Try.f22) (([(.int .u64 p : Value), (.slice xsA xsn xsc : Value), (.slice rowsA rowsn rowsc : Value)] : List Value) ++ List.replicate (69 - ([(.int .u64 p : Value), (.slice xsA xsn xsc : Value), (.slice rowsA rowsn rowsc : Value)] : List Value).length) undef) H R := by kernel_rfl
  exact call_of_sx fits bodies mixed Try.func22 (c := bodyOf Try.f22) (by kernel_rfl) Try.ntmps22 juntolaw06_PairQuarrels.A (by kernel_rfl) (e.mp h)
end Go.Proofs.Ytlhcaangdenoaaa.Sh
namespace Go.Proofs.Ytlhcaangdenoaaa.Sh
open Go.Sx Go.Lf
def juntolaw06_PairQuarrels.C (p : Nat) (xs : (List Nat)) (rows : (List (List Nat))) (K : Bool → Prop) : Prop :=
  ∀ (Z : Nat → Prop) (H : Heap), ∀ (pv : Int), pv = (p : Int) → ∀ (xsA : Option Addr) (xsn xsc : Nat), xsn = xs.length → SlF u64L Z H xsA xsc xs → ∀ (rowsA : Option Addr) (rowsn rowsc : Nat), rowsn = rows.length → SlF (slL u64L) Z H rowsA rowsc rows → ∀ KK : Value → Heap → Prop,
    (∀ (Z' : Nat → Prop) (H' : Heap), Ext H H' → Old Z H Z' → ∀ (r0 : Bool), K r0 → KK (.bool r0) H') →
    CallH P N.juntolaw06_PairQuarrels [.int .u64 pv, .slice xsA xsn xsc, .slice rowsA rowsn rowsc] H KK
def juntolaw06_PairQuarrels.Q (p : Nat) (xs : (List Nat)) (rows : (List (List Nat))) (K : Bool → Prop) : Prop :=
  pair_Quarrels.C p xs rows (fun (r : (List (Int × Int))) (r2 : Int) =>
  juntoref06_Bounds.C p 0 (fun (x : Int) =>
  cond (x == 0) (juntoref06_Rows.C p xs rows (fun (x2 : Int) =>
  cond (x2 != 0) (cond (((r.length : Nat) : Int) == 0) (cond (r2 == x2) (juntolaw06_alive.C (fun (x3 : Bool) =>
  K x3))
   (K false))
   (K false))
   (juntoref06_Quarrels.C p xs rows (fun (x4 : (List (Int × Int))) =>
  cond (r2 != 0) (K false)
   (cond (((r.length : Nat) : Int) != ((x4.length : Nat) : Int)) (K false)
   (LoopQ (τ := Int) 0 fun t nextQ =>
  cond (decide (t < ((r.length : Nat) : Int))) (0 ≤ t ∧ t < ((r.length : Nat) : Int) ∧ 0 ≤ t ∧ t < ((x4.length : Nat) : Int) ∧ ∃ x5 : (Int × Int), r[Int.toNat t]? = some x5 ∧ ∃ x6 : (Int × Int), x4[Int.toNat t]? = some x6 ∧ cond (!(x5.1 == x6.1 && x5.2 == x6.2)) (K false)
   (nextQ (IntKind.i64.wrap (t + 1))))
   (juntolaw06_alive.C (fun (x7 : Bool) =>
  K x7))))))))
   (cond (x != 0) (cond (((r.length : Nat) : Int) == 0) (cond (r2 == x) (juntolaw06_alive.C (fun (x8 : Bool) =>
  K x8))
   (K false))
   (K false))
   (juntoref06_Quarrels.C p xs rows (fun (x9 : (List (Int × Int))) =>
  cond (r2 != 0) (K false)
   (cond (((r.length : Nat) : Int) != ((x9.length : Nat) : Int)) (K false)
   (LoopQ (τ := Int) 0 fun t2 nextQ2 =>
  cond (decide (t2 < ((r.length : Nat) : Int))) (0 ≤ t2 ∧ t2 < ((r.length : Nat) : Int) ∧ 0 ≤ t2 ∧ t2 < ((x9.length : Nat) : Int) ∧ ∃ x10 : (Int × Int), r[Int.toNat t2]? = some x10 ∧ ∃ x11 : (Int × Int), x9[Int.toNat t2]? = some x11 ∧ cond (!(x10.1 == x11.1 && x10.2 == x11.2)) (K false)
   (nextQ2 (IntKind.i64.wrap (t2 + 1))))
   (juntolaw06_alive.C (fun (x12 : Bool) =>
  K x12)))))))))
theorem juntolaw06_PairQuarrels.q {p : Nat} {xs : (List Nat)} {rows : (List (List Nat))} {K : Bool → Prop} (q : juntolaw06_PairQuarrels.Q p xs rows K) : juntolaw06_PairQuarrels.C p xs rows K := by
  intro Z H pv he xsA xsn xsc hn f rowsA rowsn rowsc hn2 f2 KK hk
  cases he
  cases hn
  cases hn2
  apply juntolaw06_PairQuarrels.ok
  unfold juntolaw06_PairQuarrels.W
  unfold juntolaw06_PairQuarrels.Q at q
  obtain ⟨σ, hz, hσ⟩ := tags Z
  have hs : Stp ([1, 2, 3] : List Nat) σ H σ H := Stp.refl _ _ _
  replace f := f.wide hz
  replace f2 := f2.wide hz
  clear hz
  refine q (Zt σ) H _ rfl _ _ _ rfl f _ _ _ rfl f2 _ (fun Z2 H_ hE hO r Y hY A n c hn3 f3 r2 q => ?_)
  obtain ⟨xσ, st, fz, fy⟩ := call1 hE hO σ 1 (fun _ h => h) hY
  replace f3 := f3.keep fz fy
  cases hn3
  replace f := f.step st
  replace f2 := f2.step st
  replace hs := hs.trans st
  refine ⟨_, _, _, _, rfl, ?_⟩
  refine q (Zt xσ) H_ _ rfl _ (fun Z3 H_2 hE2 hO2 x q => ?_)
  obtain ⟨xσ2, st2⟩ := call0 hE2 xσ
  replace f := f.step st2
  replace f2 := f2.step st2
  replace f3 := f3.step st2
  replace hs := hs.trans st2
  refine ⟨_, rfl, ?_⟩
  refine condI (fun q => ?_) (fun q => ?_) q
  · refine q (Zt xσ2) H_2 _ rfl _ _ _ rfl f _ _ _ rfl f2 _ (fun Z4 H_3 hE3 hO3 x2 q => ?_)
    obtain ⟨xσ3, st3⟩ := call0 hE3 xσ2
    replace f := f.step st3
    replace f2 := f2.step st3
    replace f3 := f3.step st3
    replace hs := hs.trans st3
    refine ⟨_, rfl, ?_⟩
    refine condI (fun q => ?_) (fun q => ?_) q
    · refine condI (fun q => ?_) (fun q => ?_) q
      · refine condI (fun q => ?_) (fun q => ?_) q
        · refine q (Zt xσ3) H_3  _ (fun Z5 H_4 hE4 hO4 x3 q => ?_)
          obtain ⟨xσ4, st4⟩ := call0 hE4 xσ3
          replace f := f.step st4
          replace f2 := f2.step st4
          replace f3 := f3.step st4
          replace hs := hs.trans st4
          refine ⟨_, rfl, ?_⟩
          exact hk (Zt xσ4) _ (hs.ext hσ) (hs.old hσ) _ q
        · exact hk (Zt xσ3) _ (hs.ext hσ) (hs.old hσ) _ q
      · exact hk (Zt xσ3) _ (hs.ext hσ) (hs.old hσ) _ q
    · refine q (Zt xσ3) H_3 _ rfl _ _ _ rfl f _ _ _ rfl f2 _ (fun Z6 H_5 hE5 hO5 x4 Y2 hY2 A2 n2 c2 hn4 f4 q => ?_)
      obtain ⟨xσ5, st5, fz5, fy2⟩ := call1 hE5 hO5 xσ3 2 (fun _ h => h) hY2
      replace f4 := f4.keep fz5 fy2
      cases hn4
      replace f := f.step st5
      replace f2 := f2.step st5
      replace f3 := f3.step st5
      replace hs := hs.trans st5
      refine ⟨_, _, _, rfl, ?_⟩
      refine condI (fun q => ?_) (fun q => ?_) q
      · exact hk (Zt xσ5) _ (hs.ext hσ) (hs.old hσ) _ q
      · refine condI (fun q => ?_) (fun q => ?_) q
        · exact hk (Zt xσ5) _ (hs.ext hσ) (hs.old hσ) _ q
        · refine LoopI.ofQ q (fun t_ s_ hp_ => ∃ (σ_ : Nat → Nat), Stp [] xσ5 H_5 σ_ hp_ ∧ t_ = s_) (fun h k => h _ _ k) ⟨_, Stp.refl _ _ _, rfl⟩ ?_
          rintro t _ _ H_6 next nextQ ⟨xσ6, st6, rfl⟩ q hnext
          try dsimp only at q ⊢
          replace f := f.step st6
          replace f2 := f2.step st6
          replace f3 := f3.step st6
          replace f4 := f4.step st6
          replace hs := hs.trans st6
          have sl0 := st6
          refine condI (fun q => ?_) (fun q => ?_) q
          · obtain ⟨h0, hi2, q⟩ := q
            obtain ⟨a, ha, hi⟩ := f3.addr h0 rfl hi2
            refine ⟨a, ha, hi.1, hi.2, ?_⟩
            obtain ⟨h02, hi4, q⟩ := q
            obtain ⟨a2, ha2, hi3⟩ := f4.addr h02 rfl hi4
            refine ⟨a2, ha2, hi3.1, hi3.2, ?_⟩
            obtain ⟨x5, hx, q⟩ := q
            obtain ⟨cs, hr, hc⟩ := f3.ldN (k := 2) rfl ha h0 hx
            cases hr
            have hc2 := hc 0 _ rfl
            have hc3 := hc 1 _ rfl
            refine ⟨_, _, hc2.val, hc3.val, ?_⟩
            obtain ⟨x6, hx2, q⟩ := q
            obtain ⟨cs2, hr2, hc4⟩ := f4.ldN (k := 2) rfl ha2 h02 hx2
            cases hr2
            have hc5 := hc4 0 _ rfl
            have hc6 := hc4 1 _ rfl
            refine ⟨_, _, hc5.val, hc6.val, ?_⟩
            refine ⟨_, (agg81 _ _ _ _).2, ?_⟩
            refine condI (fun q => ?_) (fun q => ?_) q
            · exact hk (Zt xσ6) _ (hs.ext hσ) (hs.old hσ) _ q
            · exact hnext (IntKind.i64.wrap (t + 1)) _ _ ⟨_, sl0, rfl⟩ q
          · refine q (Zt xσ6) H_6  _ (fun Z7 H_7 hE6 hO6 x7 q => ?_)
            obtain ⟨xσ7, st7⟩ := call0 hE6 xσ6
            replace f := f.step st7
            replace f2 := f2.step st7
            replace f3 := f3.step st7
            replace f4 := f4.step st7
            replace hs := hs.trans st7
            refine ⟨_, rfl, ?_⟩
            exact hk (Zt xσ7) _ (hs.ext hσ) (hs.old hσ) _ q
  · refine condI (fun q => ?_) (fun q => ?_) q
    · refine condI (fun q => ?_) (fun q => ?_) q
      · refine condI (fun q => ?_) (fun q => ?_) q
        · refine q (Zt xσ2) H_2  _ (fun Z8 H_8 hE7 hO7 x8 q => ?_)
          obtain ⟨xσ8, st8⟩ := call0 hE7 xσ2
          replace f := f.step st8
          replace f2 := f2.step st8
          replace f3 := f3.step st8
          replace hs := hs.trans st8
          refine ⟨_, rfl, ?_⟩
          exact hk (Zt xσ8) _ (hs.ext hσ) (hs.old hσ) _ q
        · exact hk (Zt xσ2) _ (hs.ext hσ) (hs.old hσ) _ q
      · exact hk (Zt xσ2) _ (hs.ext hσ) (hs.old hσ) _ q
    · refine q (Zt xσ2) H_2 _ rfl _ _ _ rfl f _ _ _ rfl f2 _ (fun Z9 H_9 hE8 hO8 x9 Y3 hY3 A3 n3 c3 hn5 f5 q => ?_)
      obtain ⟨xσ9, st9, fz8, fy3⟩ := call1 hE8 hO8 xσ2 3 (fun _ h => h) hY3
      replace f5 := f5.keep fz8 fy3
      cases hn5
      replace f := f.step st9
      replace f2 := f2.step st9
      replace f3 := f3.step st9
      replace hs := hs.trans st9
      refine ⟨_, _, _, rfl, ?_⟩
      refine condI (fun q => ?_) (fun q => ?_) q
      · exact hk (Zt xσ9) _ (hs.ext hσ) (hs.old hσ) _ q
      · refine condI (fun q => ?_) (fun q => ?_) q
        · exact hk (Zt xσ9) _ (hs.ext hσ) (hs.old hσ) _ q
        · refine LoopI.ofQ q (fun t_ s_ hp_ => ∃ (σ_ : Nat → Nat), Stp [] xσ9 H_9 σ_ hp_ ∧ t_ = s_) (fun h k => h _ _ k) ⟨_, Stp.refl _ _ _, rfl⟩ ?_
          rintro t2 _ _ H_10 next2 nextQ2 ⟨xσ10, st10, rfl⟩ q hnext2
          try dsimp only at q ⊢
          replace f := f.step st10
          replace f2 := f2.step st10
          replace f3 := f3.step st10
          replace f5 := f5.step st10
          replace hs := hs.trans st10
          have sl1 := st10
          refine condI (fun q => ?_) (fun q => ?_) q
          · obtain ⟨h03, hi6, q⟩ := q
            obtain ⟨a3, ha3, hi5⟩ := f3.addr h03 rfl hi6
            refine ⟨a3, ha3, hi5.1, hi5.2, ?_⟩
            obtain ⟨h04, hi8, q⟩ := q
            obtain ⟨a4, ha4, hi7⟩ := f5.addr h04 rfl hi8
            refine ⟨a4, ha4, hi7.1, hi7.2, ?_⟩
            obtain ⟨x10, hx3, q⟩ := q
            obtain ⟨cs3, hr3, hc7⟩ := f3.ldN (k := 2) rfl ha3 h03 hx3
            cases hr3
            have hc8 := hc7 0 _ rfl
            have hc9 := hc7 1 _ rfl
            refine ⟨_, _, hc8.val, hc9.val, ?_⟩
            obtain ⟨x11, hx4, q⟩ := q
            obtain ⟨cs4, hr4, hc10⟩ := f5.ldN (k := 2) rfl ha4 h04 hx4
            cases hr4
            have hc11 := hc10 0 _ rfl
            have hc12 := hc10 1 _ rfl
            refine ⟨_, _, hc11.val, hc12.val, ?_⟩
            refine ⟨_, (agg81 _ _ _ _).2, ?_⟩
            refine condI (fun q => ?_) (fun q => ?_) q
            · exact hk (Zt xσ10) _ (hs.ext hσ) (hs.old hσ) _ q
            · exact hnext2 (IntKind.i64.wrap (t2 + 1)) _ _ ⟨_, sl1, rfl⟩ q
          · refine q (Zt xσ10) H_10  _ (fun Z10 H_11 hE9 hO9 x12 q => ?_)
            obtain ⟨xσ11, st11⟩ := call0 hE9 xσ10
            replace f := f.step st11
            replace f2 := f2.step st11
            replace f3 := f3.step st11
            replace f5 := f5.step st11
            replace hs := hs.trans st11
            refine ⟨_, rfl, ?_⟩
            exact hk (Zt xσ11) _ (hs.ext hσ) (hs.old hσ) _ q
end Go.Proofs.Ytlhcaangdenoaaa.Sh
