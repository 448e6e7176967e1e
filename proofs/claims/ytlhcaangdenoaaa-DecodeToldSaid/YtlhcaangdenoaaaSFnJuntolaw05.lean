import Derived.Test.YtlhcaangdenoaaaSTypes
import Derived.Test.YtlhcaangdenoaaaSFnDecode
import Derived.Test.YtlhcaangdenoaaaSFnJuntoref01
import Derived.Test.YtlhcaangdenoaaaSFnJuntoref05
namespace Go.Lf
end Go.Lf
namespace Go.Sx
end Go.Sx
set_option linter.unusedVariables false
set_option linter.unusedSimpArgs false
set_option maxRecDepth 100000
namespace Go.Proofs.Ytlhcaangdenoaaa.Sh
open Go.Sx
def juntolaw05_alive.A : Ann where
  loops := fun i => match i with
    | _ => []
  plans := fun i => match i with
    | _ => .stop
def juntolaw05_alive.W  (H : Heap) (R : Value → Heap → Prop) : Prop :=
  NewH (H.push (.cells #[.int .u64 1, .int .u64 7, .int .u64 2, .int .u64 10, .int .u64 3, .int .u64 2, .int .u64 4, .int .u64 0, .int .u64 5, .int .u64 8] 103 (0, 0))) fun H_ =>
  CallH P N.decode_Best [.int .u64 11, .int .i64 1, .slice (some (Addr.mk H.size 0 none)) 5 5] H_ fun v H_2 =>
  ∃ (r0A : Option Addr) (r0n r0c : Nat), ∃ (r1A : Option Addr) (r1n r1c : Nat), ∃ r2 : Int, v = .tuple #[.slice r0A r0n r0c, .slice r1A r1n r1c, .int .i64 r2] ∧ cond (r2 == 0) (NewH (H_2.push (.cells #[.int .u64 4, .int .u64 3] 22 (0, 0))) fun H_3 =>
  CallH P N.juntoref01_Same [.slice r0A r0n r0c, .slice (some (Addr.mk H_2.size 0 none)) 2 2] H_3 fun v2 H_4 =>
  ∃ r : Bool, v2 = .bool r ∧ cond r (NewH (H_4.push (.cells #[.int .i64 3] 3 (0, 0))) fun H_5 =>
  CallH P N.juntolaw05_ints [.slice r1A r1n r1c, .slice (some (Addr.mk H_4.size 0 none)) 1 1] H_5 fun v3 H_6 =>
  ∃ r3 : Bool, v3 = .bool r3 ∧ cond r3 (CallH P N.decode_Most [.int .i64 5, .int .i64 1] H_6 fun v4 H_7 =>
  ∃ r4 : Int, v4 = .int .i64 r4 ∧ R (.bool (r4 == 1)) H_7) (R (.bool false) H_6)) (R (.bool false) H_4)) (R (.bool false) H_2)
theorem juntolaw05_alive.ok  (H : Heap) (R : Value → Heap → Prop) (h : juntolaw05_alive.W  H R) : CallH P N.juntolaw05_alive ([] : List Value) H R := by
  have e : juntolaw05_alive.W  H R = sxFn P T Sh.R nf juntolaw05_alive.A Try.f54.results.toList (bodyOf Try.f54) (([] : List Value) ++ List.replicate (33 - ([] : List Value).length) undef) H R := by kernel_rfl
  exact call_of_sx fits bodies mixed Try.func54 (c := bodyOf Try.f54) (by kernel_rfl) Try.ntmps54 juntolaw05_alive.A (by kernel_rfl) (e.mp h)
def juntolaw05_few.A : Ann where
  loops := fun i => match i with
    | _ => []
  plans := fun i => match i with
    | _ => .stop
def juntolaw05_few.W (d : Int) (wrong : Int) (lA : Option Addr) (ln lc : Nat) (H : Heap) (R : Value → Heap → Prop) : Prop :=
  cond (decide (wrong > ((ln : Nat) : Int))) (R (.bool true) H) (R (.bool (decide (((ln : Nat) : Int) < (IntKind.i64.wrap ((IntKind.i64.wrap (d + 1)) + (IntKind.i64.wrap (2 * wrong))))))) H)
theorem juntolaw05_few.ok (d : Int) (wrong : Int) (lA : Option Addr) (ln lc : Nat) (H : Heap) (R : Value → Heap → Prop) (h : juntolaw05_few.W d wrong lA ln lc H R) : CallH P N.juntolaw05_few ([.int .i64 d, .int .i64 wrong, .slice lA ln lc] : List Value) H R := by
  have e : juntolaw05_few.W d wrong lA ln lc H R = sxFn P T Sh.R nf juntolaw05_few.A Try.f58.results.toList (bodyOf Try.f58) (([(.int .i64 d : Value), (.int .i64 wrong : Value), (.slice lA ln lc : Value)] : List Value) ++ List.replicate (21 - ([(.int .i64 d : Value), (.int .i64 wrong : Value), (.slice lA ln lc : Value)] : List Value).length) undef) H R := by kernel_rfl
  exact call_of_sx fits bodies mixed Try.func58 (c := bodyOf Try.f58) (by kernel_rfl) Try.ntmps58 juntolaw05_few.A (by kernel_rfl) (e.mp h)
def juntolaw05_told_is.A : Ann where
  loops := fun i => match i with
    | _ => []
  plans := fun i => match i with
    | 4 => .first 0 (.read 1 (.first 2 (.first 3 (.first 4 (.first 6 (.read 5 (.alt 7 [1, 5] (.first 8 (.first 9 (.first 10 (.first 12 (.first 13 (.first 14 (.read 11 (.alt 15 [] (.alt 16 [11] (.first 17 (.first 18 (.done))) (.stop)) (.stop))))))))) (.stop))))))))
    | _ => .stop
def juntolaw05_told_is.W (t_0A : Option Addr) (t_0n t_0c : Nat) (t_1A : Option Addr) (t_1n t_1c : Nat) (t_2 : Int) (p : Int) (d : Int) (wrong : Int) (lA : Option Addr) (ln lc : Nat) (H : Heap) (R : Value → Heap → Prop) : Prop :=
  NewH (H.push (.cells #[.slice t_0A t_0n t_0c, .slice t_1A t_1n t_1c, .int .i64 t_2] 86 (0, 0))) fun H_ =>
  CallH P N.juntoref05_Decode [.int .u64 p, .int .i64 d, .int .i64 wrong, .slice lA ln lc] H_ fun v H_2 =>
  ∃ (r0A : Option Addr) (r0n r0c : Nat), ∃ r1 : Bool, v = .tuple #[.slice r0A r0n r0c, .bool r1] ∧ cond (!r1) (∃ (x0A : Option Addr) (x0n x0c : Nat), ∃ (x1A : Option Addr) (x1n x1c : Nat), ∃ x2 : Int, cellH H_2 (Addr.mk H.size 0 none) = some (.slice x0A x0n x0c) ∧ cellH H_2 (((Addr.mk H.size 0 none)).add 1) = some (.slice x1A x1n x1c) ∧ cellH H_2 (((Addr.mk H.size 0 none)).add 2) = some (.int .i64 x2) ∧ CallH P N.juntolaw05_told_bad [.agg #[.slice x0A x0n x0c, .slice x1A x1n x1c, .int .i64 x2], .int .i64 12] H_2 fun v2 H_3 =>
  ∃ r : Bool, v2 = .bool r ∧ R (.bool r) H_3)
   (∃ x : Int, cellH H_2 (((Addr.mk H.size 0 none)).add 2) = some (.int .i64 x) ∧ cond (x == 0) (∃ (xA : Option Addr) (xn xc : Nat), cellH H_2 (Addr.mk H.size 0 none) = some (.slice xA xn xc) ∧ CallH P N.juntoref01_Same [.slice xA xn xc, .slice r0A r0n r0c] H_2 fun v3 H_4 =>
  ∃ r2 : Bool, v3 = .bool r2 ∧ cond r2 (∃ (xA2 : Option Addr) (xn2 xc2 : Nat), cellH H_4 (((Addr.mk H.size 0 none)).add 1) = some (.slice xA2 xn2 xc2) ∧ CallH P N.juntoref05_Off [.int .u64 p, .slice r0A r0n r0c, .slice lA ln lc] H_4 fun v4 H_5 =>
  ∃ (rA : Option Addr) (rn rc : Nat), v4 = .slice rA rn rc ∧ cellH H_5 (((Addr.mk H.size 0 none)).add 1) = some (.slice xA2 xn2 xc2) ∧ CallH P N.juntolaw05_ints [.slice xA2 xn2 xc2, .slice rA rn rc] H_5 fun v5 H_6 =>
  ∃ r3 : Bool, v5 = .bool r3 ∧ R (.bool r3) H_6) (R (.bool false) H_4)) (R (.bool false) H_2))
theorem juntolaw05_told_is.ok (t_0A : Option Addr) (t_0n t_0c : Nat) (t_1A : Option Addr) (t_1n t_1c : Nat) (t_2 : Int) (p : Int) (d : Int) (wrong : Int) (lA : Option Addr) (ln lc : Nat) (H : Heap) (R : Value → Heap → Prop) (h : juntolaw05_told_is.W t_0A t_0n t_0c t_1A t_1n t_1c t_2 p d wrong lA ln lc H R) : CallH P N.juntolaw05_told_is ([.agg #[.slice t_0A t_0n t_0c, .slice t_1A t_1n t_1c, .int .i64 t_2], .int .u64 p, .int .i64 d, .int .i64 wrong, .slice lA ln lc] : List Value) H R := by
  have e : juntolaw05_told_is.W t_0A t_0n t_0c t_1A t_1n t_1c t_2 p d wrong lA ln lc H R = sxFn P T Sh.R nf juntolaw05_told_is.A Try.f59.results.toList (bodyOf Try.f59) (([(.agg #[.slice t_0A t_0n t_0c, .slice t_1A t_1n t_1c, .int .i64 t_2] : Value), (.int .u64 p : Value), (.int .i64 d : Value), (.int .i64 wrong : Value), (.slice lA ln lc : Value)] : List Value) ++ List.replicate (43 - ([(.agg #[.slice t_0A t_0n t_0c, .slice t_1A t_1n t_1c, .int .i64 t_2] : Value), (.int .u64 p : Value), (.int .i64 d : Value), (.int .i64 wrong : Value), (.slice lA ln lc : Value)] : List Value).length) undef) H R := by kernel_rfl
  exact call_of_sx fits bodies mixed Try.func59 (c := bodyOf Try.f59) (by kernel_rfl) Try.ntmps59 juntolaw05_told_is.A (by kernel_rfl) (e.mp h)
def juntolaw05_told_bad.A : Ann where
  loops := fun i => match i with
    | _ => []
  plans := fun i => match i with
    | _ => .stop
def juntolaw05_told_bad.W (t_0A : Option Addr) (t_0n t_0c : Nat) (t_1A : Option Addr) (t_1n t_1c : Nat) (t_2 : Int) (e : Int) (H : Heap) (R : Value → Heap → Prop) : Prop :=
  NewH (H.push (.cells #[.slice t_0A t_0n t_0c, .slice t_1A t_1n t_1c, .int .i64 t_2] 86 (0, 0))) fun H_ =>
  ∃ x : Int, cellH H_ (((Addr.mk H.size 0 none)).add 2) = some (.int .i64 x) ∧ cond (x == e) (∃ (xA : Option Addr) (xn xc : Nat), cellH H_ (Addr.mk H.size 0 none) = some (.slice xA xn xc) ∧ cond (((xn : Nat) : Int) == 0) (∃ (xA2 : Option Addr) (xn2 xc2 : Nat), cellH H_ (((Addr.mk H.size 0 none)).add 1) = some (.slice xA2 xn2 xc2) ∧ R (.bool (((xn2 : Nat) : Int) == 0)) H_) (R (.bool false) H_)) (R (.bool false) H_)
theorem juntolaw05_told_bad.ok (t_0A : Option Addr) (t_0n t_0c : Nat) (t_1A : Option Addr) (t_1n t_1c : Nat) (t_2 : Int) (e : Int) (H : Heap) (R : Value → Heap → Prop) (h : juntolaw05_told_bad.W t_0A t_0n t_0c t_1A t_1n t_1c t_2 e H R) : CallH P N.juntolaw05_told_bad ([.agg #[.slice t_0A t_0n t_0c, .slice t_1A t_1n t_1c, .int .i64 t_2], .int .i64 e] : List Value) H R := by
  have e : juntolaw05_told_bad.W t_0A t_0n t_0c t_1A t_1n t_1c t_2 e H R = sxFn P T Sh.R nf juntolaw05_told_bad.A Try.f60.results.toList (bodyOf Try.f60) (([(.agg #[.slice t_0A t_0n t_0c, .slice t_1A t_1n t_1c, .int .i64 t_2] : Value), (.int .i64 e : Value)] : List Value) ++ List.replicate (21 - ([(.agg #[.slice t_0A t_0n t_0c, .slice t_1A t_1n t_1c, .int .i64 t_2] : Value), (.int .i64 e : Value)] : List Value).length) undef) H R := by kernel_rfl
  exact call_of_sx fits bodies mixed Try.func60 (c := bodyOf Try.f60) (by kernel_rfl) Try.ntmps60 juntolaw05_told_bad.A (by kernel_rfl) (e.mp h)
def juntolaw05_ints.A : Ann where
  loops := fun i => match i with
    | 16392 => [(13, .int .i64)]
    | _ => []
  plans := fun i => match i with
    | 6 => .first 0 (.first 1 (.first 2 (.first 4 (.first 5 (.first 6 (.read 3 (.read 7 (.first 8 (.done)))))))))
    | _ => .stop
def juntolaw05_ints.W (aA : Option Addr) (an ac : Nat) (bA : Option Addr) (bn bc : Nat) (H : Heap) (R : Value → Heap → Prop) : Prop :=
  cond (((an : Nat) : Int) != ((bn : Nat) : Int)) (R (.bool false) H)
   (LoopI (σ := Int) (fun κ => κ 0 H) fun s z H_ next =>
  cond (decide (s < ((an : Nat) : Int))) (∃ a : Addr, aA = some a ∧ 0 ≤ s ∧ s < ((an : Nat) : Int) ∧ ∃ a2 : Addr, bA = some a2 ∧ 0 ≤ s ∧ s < ((bn : Nat) : Int) ∧ ∃ x : Int, cellH H_ (a.add (Int.toNat s)) = some (.int .i64 x) ∧ ∃ x2 : Int, cellH H_ (a2.add (Int.toNat s)) = some (.int .i64 x2) ∧ cond (x != x2) (R (.bool false) H_)
   (next (IntKind.i64.wrap (s + 1)) H_))
   (R (.bool true) H_))
theorem juntolaw05_ints.ok (aA : Option Addr) (an ac : Nat) (bA : Option Addr) (bn bc : Nat) (H : Heap) (R : Value → Heap → Prop) (h : juntolaw05_ints.W aA an ac bA bn bc H R) : CallH P N.juntolaw05_ints ([.slice aA an ac, .slice bA bn bc] : List Value) H R := by
  have e : juntolaw05_ints.W aA an ac bA bn bc H R = sxFn P T Sh.R nf juntolaw05_ints.A Try.f63.results.toList (bodyOf Try.f63) (([(.slice aA an ac : Value), (.slice bA bn bc : Value)] : List Value) ++ List.replicate (26 - ([(.slice aA an ac : Value), (.slice bA bn bc : Value)] : List Value).length) undef) H R := by kernel_rfl
  exact call_of_sx fits bodies mixed Try.func63 (c := bodyOf Try.f63) (by kernel_rfl) Try.ntmps63 juntolaw05_ints.A (by kernel_rfl) (e.mp h)
end Go.Proofs.Ytlhcaangdenoaaa.Sh
namespace Go.Proofs.Ytlhcaangdenoaaa.Sh
open Go.Sx Go.Lf
def juntolaw05_ints.C (a : (List Int)) (b : (List Int)) (K : Bool → Prop) : Prop :=
  ∀ (Z : Nat → Prop) (H : Heap), ∀ (aA : Option Addr) (an ac : Nat), an = a.length → SlF i64L Z H aA ac a → ∀ (bA : Option Addr) (bn bc : Nat), bn = b.length → SlF i64L Z H bA bc b → ∀ KK : Value → Heap → Prop,
    (∀ (Z' : Nat → Prop) (H' : Heap), Ext H H' → Old Z H Z' → ∀ (r0 : Bool), K r0 → KK (.bool r0) H') →
    CallH P N.juntolaw05_ints [.slice aA an ac, .slice bA bn bc] H KK
def juntolaw05_ints.Q (a : (List Int)) (b : (List Int)) (K : Bool → Prop) : Prop :=
  cond (((a.length : Nat) : Int) != ((b.length : Nat) : Int)) (K false)
   (LoopQ (τ := Int) 0 fun t nextQ =>
  cond (decide (t < ((a.length : Nat) : Int))) (0 ≤ t ∧ ∃ x : Int, a[Int.toNat t]? = some x ∧ 0 ≤ t ∧ ∃ x2 : Int, b[Int.toNat t]? = some x2 ∧ cond (x != x2) (K false)
   (nextQ (IntKind.i64.wrap (t + 1))))
   (K true))
theorem juntolaw05_ints.q {a : (List Int)} {b : (List Int)} {K : Bool → Prop} (q : juntolaw05_ints.Q a b K) : juntolaw05_ints.C a b K := by
  intro Z H aA an ac hn f bA bn bc hn2 f2 KK hk
  cases hn
  cases hn2
  apply juntolaw05_ints.ok
  unfold juntolaw05_ints.W
  unfold juntolaw05_ints.Q at q
  obtain ⟨σ, hz, hσ⟩ := tags Z
  have hs : Stp ([] : List Nat) σ H σ H := Stp.refl _ _ _
  replace f := f.wide hz
  replace f2 := f2.wide hz
  clear hz
  refine condI (fun q => ?_) (fun q => ?_) q
  · exact hk (Zt σ) _ (hs.ext hσ) (hs.old hσ) _ q
  · refine LoopI.ofQ q (fun t_ s_ hp_ => ∃ (σ_ : Nat → Nat), Stp [] σ H σ_ hp_ ∧ t_ = s_) (fun h k => h _ _ k) ⟨_, Stp.refl _ _ _, rfl⟩ ?_
    rintro t _ _ H_ next nextQ ⟨xσ, st, rfl⟩ q hnext
    try dsimp only at q ⊢
    replace f := f.step st
    replace f2 := f2.step st
    replace hs := hs.trans st
    have sl0 := st
    refine condI (fun q => ?_) (fun q => ?_) q
    · obtain ⟨h0, x, hx, q⟩ := q
      obtain ⟨a2, ha, hi⟩ := f.addr h0 hx rfl
      refine ⟨a2, ha, hi.1, hi.2, ?_⟩
      obtain ⟨h02, x2, hx2, q⟩ := q
      obtain ⟨a3, ha2, hi2⟩ := f2.addr h02 hx2 rfl
      refine ⟨a3, ha2, hi2.1, hi2.2, ?_⟩
      have hc := f.ldi ha h0 hx
      refine ⟨_, hc.val, ?_⟩
      have hc2 := f2.ldi ha2 h02 hx2
      refine ⟨_, hc2.val, ?_⟩
      refine condI (fun q => ?_) (fun q => ?_) q
      · exact hk (Zt xσ) _ (hs.ext hσ) (hs.old hσ) _ q
      · exact hnext (IntKind.i64.wrap (t + 1)) _ _ ⟨_, sl0, rfl⟩ q
    · exact hk (Zt xσ) _ (hs.ext hσ) (hs.old hσ) _ q
def juntolaw05_alive.C  (K : Bool → Prop) : Prop :=
  ∀ (Z : Nat → Prop) (H : Heap), ∀ KK : Value → Heap → Prop,
    (∀ (Z' : Nat → Prop) (H' : Heap), Ext H H' → Old Z H Z' → ∀ (r0 : Bool), K r0 → KK (.bool r0) H') →
    CallH P N.juntolaw05_alive [] H KK
def juntolaw05_alive.Q  (K : Bool → Prop) : Prop :=
  decode_Best.C 11 1 ([(⟨1, 7⟩ : TPoint), (⟨2, 10⟩ : TPoint), (⟨3, 2⟩ : TPoint), (⟨4, 0⟩ : TPoint), (⟨5, 8⟩ : TPoint)]) (fun (r : (List Nat)) (r2 : (List Int)) (r3 : Int) =>
  cond (r3 == 0) (juntoref01_Same.C r ([4, 3]) (fun (x : Bool) =>
  cond x (juntolaw05_ints.C r2 ([3]) (fun (x2 : Bool) =>
  cond x2 (decode_Most.C 5 1 (fun (x3 : Int) =>
  K (x3 == 1)))
   (K false)))
   (K false)))
   (K false))
theorem juntolaw05_alive.q  {K : Bool → Prop} (q : juntolaw05_alive.Q  K) : juntolaw05_alive.C  K := by
  intro Z H  KK hk
  apply juntolaw05_alive.ok
  unfold juntolaw05_alive.W
  unfold juntolaw05_alive.Q at q
  obtain ⟨σ, hz, hσ⟩ := tags Z
  have hs : Stp ([1, 2, 3, 4, 5] : List Nat) σ H σ H := Stp.refl _ _ _
  clear hz
  refine NewH.mk fun H_ e => ?_
  obtain ⟨xσ, st, f⟩ := SlO.lit (E := TPoint.L) σ 1 (xs := [(⟨1, 7⟩ : TPoint), (⟨2, 10⟩ : TPoint), (⟨3, 2⟩ : TPoint), (⟨4, 0⟩ : TPoint), (⟨5, 8⟩ : TPoint)]) (l := [[_, _], [_, _], [_, _], [_, _], [_, _]]) e rfl (.cons rfl (.cons rfl (.cons rfl (.cons rfl (.cons rfl .nil))))) (show (5 : Nat) ≤ 17592186044416 by decide)
  replace hs := hs.trans st
  refine q (fun i => xσ i = 0 ∨ xσ i = 1) H_ _ rfl _ _ _ rfl (f.read (fun i h => .inl h) (fun i h => .inr (h))) _ (fun Z2 H_2 hE hO r Y hY A n c hn f2 r2 Y2 hY2 A2 n2 c2 hn2 f3 r3 hY3 q => ?_)
  obtain ⟨xσ2, st2, fy, fy2⟩ := callB2 hE hO xσ 2 3 hY hY2 hY3
  replace f2 := (SlO.anyZ (Z' := Zt xσ2) u64_flatL f2).keep (Fr.refl _ _) fy
  replace f3 := (SlO.anyZ (Z' := Zt xσ2) i64_flatL f3).keep (Fr.refl _ _) fy2
  cases hn
  cases hn2
  replace f := f.step st2
  replace hs := hs.trans st2
  refine ⟨_, _, _, _, _, _, _, rfl, ?_⟩
  refine condI (fun q => ?_) (fun q => ?_) q
  · refine NewH.mk fun H_3 e2 => ?_
    obtain ⟨xσ3, st3, f4⟩ := SlO.lit (E := u64L) xσ2 4 (xs := [4, 3]) (l := [[_], [_]]) e2 rfl (.cons rfl (.cons rfl .nil)) (show (2 : Nat) ≤ 17592186044416 by decide)
    replace f := f.step st3
    replace f2 := f2.step st3
    replace f3 := f3.step st3
    replace hs := hs.trans st3
    refine q (fun i => xσ3 i = 0 ∨ xσ3 i = 2 ∨ xσ3 i = 4) H_3 _ _ _ rfl (f2.read (fun i h => .inl h) (fun i h => .inr (.inl h))) _ _ _ rfl (f4.read (fun i h => .inl h) (fun i h => .inr (.inr (h)))) _ (fun Z3 H_4 hE2 hO2 x q => ?_)
    obtain ⟨xσ4, st4⟩ := call0 hE2 xσ3
    replace f := f.step st4
    replace f2 := f2.step st4
    replace f3 := f3.step st4
    replace f4 := f4.step st4
    replace hs := hs.trans st4
    refine ⟨_, rfl, ?_⟩
    refine condI (fun q => ?_) (fun q => ?_) q
    · refine NewH.mk fun H_5 e3 => ?_
      obtain ⟨xσ5, st5, f5⟩ := SlO.lit (E := i64L) xσ4 5 (xs := [3]) (l := [[_]]) e3 rfl (.cons rfl .nil) (show (1 : Nat) ≤ 17592186044416 by decide)
      replace f := f.step st5
      replace f2 := f2.step st5
      replace f3 := f3.step st5
      replace f4 := f4.step st5
      replace hs := hs.trans st5
      refine q (fun i => xσ5 i = 0 ∨ xσ5 i = 3 ∨ xσ5 i = 5) H_5 _ _ _ rfl (f3.read (fun i h => .inl h) (fun i h => .inr (.inl h))) _ _ _ rfl (f5.read (fun i h => .inl h) (fun i h => .inr (.inr (h)))) _ (fun Z4 H_6 hE3 hO3 x2 q => ?_)
      obtain ⟨xσ6, st6⟩ := call0 hE3 xσ5
      replace f := f.step st6
      replace f2 := f2.step st6
      replace f3 := f3.step st6
      replace f4 := f4.step st6
      replace f5 := f5.step st6
      replace hs := hs.trans st6
      refine ⟨_, rfl, ?_⟩
      refine condI (fun q => ?_) (fun q => ?_) q
      · refine q (Zt xσ6) H_6  _ (fun Z5 H_7 hE4 hO4 x3 q => ?_)
        obtain ⟨xσ7, st7⟩ := call0 hE4 xσ6
        replace f := f.step st7
        replace f2 := f2.step st7
        replace f3 := f3.step st7
        replace f4 := f4.step st7
        replace f5 := f5.step st7
        replace hs := hs.trans st7
        refine ⟨_, rfl, ?_⟩
        exact hk (Zt xσ7) _ (hs.ext hσ) (hs.old hσ) _ q
      · exact hk (Zt xσ6) _ (hs.ext hσ) (hs.old hσ) _ q
    · exact hk (Zt xσ4) _ (hs.ext hσ) (hs.old hσ) _ q
  · exact hk (Zt xσ2) _ (hs.ext hσ) (hs.old hσ) _ q
def juntolaw05_few.C (d : Int) (wrong : Int) (l : (List TPoint)) (K : Bool → Prop) : Prop :=
  ∀ (Z : Nat → Prop) (H : Heap), ∀ (lA : Option Addr) (ln lc : Nat), ln = l.length → SlF TPoint.L Z H lA lc l → ∀ KK : Value → Heap → Prop,
    (∀ (Z' : Nat → Prop) (H' : Heap), Ext H H' → Old Z H Z' → ∀ (r0 : Bool), K r0 → KK (.bool r0) H') →
    CallH P N.juntolaw05_few [.int .i64 d, .int .i64 wrong, .slice lA ln lc] H KK
def juntolaw05_few.Q (d : Int) (wrong : Int) (l : (List TPoint)) (K : Bool → Prop) : Prop :=
  cond (decide (wrong > ((l.length : Nat) : Int))) (K true)
   (K (decide (((l.length : Nat) : Int) < (IntKind.i64.wrap ((IntKind.i64.wrap (d + 1)) + (IntKind.i64.wrap (2 * wrong)))))))
theorem juntolaw05_few.q {d : Int} {wrong : Int} {l : (List TPoint)} {K : Bool → Prop} (q : juntolaw05_few.Q d wrong l K) : juntolaw05_few.C d wrong l K := by
  intro Z H lA ln lc hn f KK hk
  cases hn
  apply juntolaw05_few.ok
  unfold juntolaw05_few.W
  unfold juntolaw05_few.Q at q
  obtain ⟨σ, hz, hσ⟩ := tags Z
  have hs : Stp ([] : List Nat) σ H σ H := Stp.refl _ _ _
  replace f := f.wide hz
  clear hz
  refine condI (fun q => ?_) (fun q => ?_) q
  · exact hk (Zt σ) _ (hs.ext hσ) (hs.old hσ) _ q
  · exact hk (Zt σ) _ (hs.ext hσ) (hs.old hσ) _ q
def juntolaw05_told_bad.C (t : TTold) (e : Int) (K : Bool → Prop) : Prop :=
  ∀ (Z : Nat → Prop) (H : Heap), ∀ (tA : Option Addr) (tn tc : Nat), tn = t.f.length → SlF u64L Z H tA tc t.f → ∀ (tA2 : Option Addr) (tn2 tc2 : Nat), tn2 = t.at_.length → SlF i64L Z H tA2 tc2 t.at_ → ∀ KK : Value → Heap → Prop,
    (∀ (Z' : Nat → Prop) (H' : Heap), Ext H H' → Old Z H Z' → ∀ (r0 : Bool), K r0 → KK (.bool r0) H') →
    CallH P N.juntolaw05_told_bad [.agg #[.slice tA tn tc, .slice tA2 tn2 tc2, .int .i64 t.e], .int .i64 e] H KK
def juntolaw05_told_bad.Q (t : TTold) (e : Int) (K : Bool → Prop) : Prop :=
  cond (t.e == e) (cond (((t.f.length : Nat) : Int) == 0) (K (((t.at_.length : Nat) : Int) == 0))
   (K false))
   (K false)
theorem juntolaw05_told_bad.q {t : TTold} {e : Int} {K : Bool → Prop} (q : juntolaw05_told_bad.Q t e K) : juntolaw05_told_bad.C t e K := by
  intro Z H tA tn tc hn f tA2 tn2 tc2 hn2 f2 KK hk
  cases hn
  cases hn2
  apply juntolaw05_told_bad.ok
  unfold juntolaw05_told_bad.W
  unfold juntolaw05_told_bad.Q at q
  obtain ⟨σ, hz, hσ⟩ := tags Z
  have hs : Stp ([] : List Nat) σ H σ H := Stp.refl _ _ _
  replace f := f.wide hz
  replace f2 := f2.wide hz
  clear hz
  refine NewH.mk fun H_ e2 => ?_
  obtain ⟨xσ, st, b⟩ := BoxF.new σ 0 e2
  replace f := f.step st
  replace f2 := f2.step st
  replace hs := hs.trans st
  refine ⟨_, b.cell 2 rfl, ?_⟩
  refine condI (fun q => ?_) (fun q => ?_) q
  · refine ⟨_, _, _, b.cell0, ?_⟩
    refine condI (fun q => ?_) (fun q => ?_) q
    · refine ⟨_, _, _, b.cell 1 rfl, ?_⟩
      exact hk (Zt xσ) _ (hs.ext hσ) (hs.old hσ) _ q
    · exact hk (Zt xσ) _ (hs.ext hσ) (hs.old hσ) _ q
  · exact hk (Zt xσ) _ (hs.ext hσ) (hs.old hσ) _ q
def juntolaw05_told_is.C (t : TTold) (p : Nat) (d : Int) (wrong : Int) (l : (List TPoint)) (K : Bool → Prop) : Prop :=
  ∀ (Z : Nat → Prop) (H : Heap), ∀ (tA : Option Addr) (tn tc : Nat), tn = t.f.length → SlF u64L Z H tA tc t.f → ∀ (tA2 : Option Addr) (tn2 tc2 : Nat), tn2 = t.at_.length → SlF i64L Z H tA2 tc2 t.at_ → ∀ (pv : Int), pv = (p : Int) → ∀ (lA : Option Addr) (ln lc : Nat), ln = l.length → SlF TPoint.L Z H lA lc l → ∀ KK : Value → Heap → Prop,
    (∀ (Z' : Nat → Prop) (H' : Heap), Ext H H' → Old Z H Z' → ∀ (r0 : Bool), K r0 → KK (.bool r0) H') →
    CallH P N.juntolaw05_told_is [.agg #[.slice tA tn tc, .slice tA2 tn2 tc2, .int .i64 t.e], .int .u64 pv, .int .i64 d, .int .i64 wrong, .slice lA ln lc] H KK
def juntolaw05_told_is.Q (t : TTold) (p : Nat) (d : Int) (wrong : Int) (l : (List TPoint)) (K : Bool → Prop) : Prop :=
  juntoref05_Decode.C p d wrong l (fun (r : (List Nat)) (r2 : Bool) =>
  cond (!r2) (juntolaw05_told_bad.C t 12 (fun (x : Bool) =>
  K x))
   (cond (t.e == 0) (juntoref01_Same.C t.f r (fun (x2 : Bool) =>
  cond x2 (juntoref05_Off.C p r l (fun (x3 : (List Int)) =>
  juntolaw05_ints.C t.at_ x3 (fun (x4 : Bool) =>
  K x4)))
   (K false)))
   (K false)))
theorem juntolaw05_told_is.q {t : TTold} {p : Nat} {d : Int} {wrong : Int} {l : (List TPoint)} {K : Bool → Prop} (q : juntolaw05_told_is.Q t p d wrong l K) : juntolaw05_told_is.C t p d wrong l K := by
  intro Z H tA tn tc hn f tA2 tn2 tc2 hn2 f2 pv he lA ln lc hn3 f3 KK hk
  cases hn
  cases hn2
  cases he
  cases hn3
  apply juntolaw05_told_is.ok
  unfold juntolaw05_told_is.W
  unfold juntolaw05_told_is.Q at q
  obtain ⟨σ, hz, hσ⟩ := tags Z
  have hs : Stp ([1, 2] : List Nat) σ H σ H := Stp.refl _ _ _
  replace f := f.wide hz
  replace f2 := f2.wide hz
  replace f3 := f3.wide hz
  clear hz
  refine NewH.mk fun H_ e => ?_
  obtain ⟨xσ, st, b⟩ := BoxF.new σ 0 e
  replace f := f.step st
  replace f2 := f2.step st
  replace f3 := f3.step st
  replace hs := hs.trans st
  refine q (Zt xσ) H_ _ rfl _ _ _ rfl f3 _ (fun Z2 H_2 hE hO r Y hY A n c hn4 f4 r2 q => ?_)
  obtain ⟨xσ2, st2, fz, fy⟩ := call1 hE hO xσ 1 (fun _ h => h) hY
  replace f4 := f4.keep fz fy
  cases hn4
  replace f := f.step st2
  replace f2 := f2.step st2
  replace f3 := f3.step st2
  replace b := b.step st2
  replace hs := hs.trans st2
  refine ⟨_, _, _, _, rfl, ?_⟩
  refine condI (fun q => ?_) (fun q => ?_) q
  · refine ⟨_, _, _, _, _, _, _, b.cell0, b.cell 1 rfl, b.cell 2 rfl, ?_⟩
    refine q (Zt xσ2) H_2 _ _ _ rfl f _ _ _ rfl f2 _ (fun Z3 H_3 hE2 hO2 x q => ?_)
    obtain ⟨xσ3, st3⟩ := call0 hE2 xσ2
    replace f := f.step st3
    replace f2 := f2.step st3
    replace f3 := f3.step st3
    replace b := b.step st3
    replace f4 := f4.step st3
    replace hs := hs.trans st3
    refine ⟨_, rfl, ?_⟩
    exact hk (Zt xσ3) _ (hs.ext hσ) (hs.old hσ) _ q
  · refine ⟨_, b.cell 2 rfl, ?_⟩
    refine condI (fun q => ?_) (fun q => ?_) q
    · refine ⟨_, _, _, b.cell0, ?_⟩
      refine q (fun i => xσ2 i = 0 ∨ xσ2 i = 1) H_2 _ _ _ rfl (f.wide (fun i h => .inl h)) _ _ _ rfl (f4.read (fun i h => .inl h) (fun i h => .inr (h))) _ (fun Z4 H_4 hE3 hO3 x2 q => ?_)
      obtain ⟨xσ4, st4⟩ := call0 hE3 xσ2
      replace f := f.step st4
      replace f2 := f2.step st4
      replace f3 := f3.step st4
      replace b := b.step st4
      replace f4 := f4.step st4
      replace hs := hs.trans st4
      refine ⟨_, rfl, ?_⟩
      refine condI (fun q => ?_) (fun q => ?_) q
      · refine ⟨_, _, _, b.cell 1 rfl, ?_⟩
        refine q (fun i => xσ4 i = 0 ∨ xσ4 i = 1) H_4 _ rfl _ _ _ rfl (f4.read (fun i h => .inl h) (fun i h => .inr (h))) _ _ _ rfl (f3.wide (fun i h => .inl h)) _ (fun Z5 H_5 hE4 hO4 x3 Y2 hY2 A2 n2 c2 hn5 f5 q => ?_)
        obtain ⟨xσ5, st5, fy2⟩ := callB1 hE4 hO4 xσ4 2 hY2
        replace f5 := (SlO.anyZ (Z' := Zt xσ5) i64_flatL f5).keep (Fr.refl _ _) fy2
        cases hn5
        replace f := f.step st5
        replace f2 := f2.step st5
        replace f3 := f3.step st5
        replace b := b.step st5
        replace f4 := f4.step st5
        replace hs := hs.trans st5
        refine ⟨_, _, _, rfl, ?_⟩
        refine ⟨(b.cell 1 rfl), ?_⟩
        refine q (fun i => xσ5 i = 0 ∨ xσ5 i = 2) H_5 _ _ _ rfl (f2.wide (fun i h => .inl h)) _ _ _ rfl (f5.read (fun i h => .inl h) (fun i h => .inr (h))) _ (fun Z6 H_6 hE5 hO5 x4 q => ?_)
        obtain ⟨xσ6, st6⟩ := call0 hE5 xσ5
        replace f := f.step st6
        replace f2 := f2.step st6
        replace f3 := f3.step st6
        replace b := b.step st6
        replace f4 := f4.step st6
        replace f5 := f5.step st6
        replace hs := hs.trans st6
        refine ⟨_, rfl, ?_⟩
        exact hk (Zt xσ6) _ (hs.ext hσ) (hs.old hσ) _ q
      · exact hk (Zt xσ4) _ (hs.ext hσ) (hs.old hσ) _ q
    · exact hk (Zt xσ2) _ (hs.ext hσ) (hs.old hσ) _ q
end Go.Proofs.Ytlhcaangdenoaaa.Sh
