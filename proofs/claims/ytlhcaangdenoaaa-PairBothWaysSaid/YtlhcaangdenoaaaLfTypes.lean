import Derived.Test.YtlhcaangdenoaaaLfRun
import Derived.Test.YtlhcaangdenoaaaShBase
set_option linter.unusedVariables false
namespace Go.Proofs.Ytlhcaangdenoaaa.Sh
open Go.Sx Go.Lf

def Fn58.F (Z : Nat → Prop) (H : Heap) (ff : Nat) (fa fb : Array Value) (φ : ((List Nat) → (Bool → Prop) → Prop)) : Prop :=
  hasB nf ff = true ∧ ∀ (Z1 : Nat → Prop) (H1 : Heap), Fr Z H Z1 H1 → ∀ (x0 : (List Nat)) (K : Bool → Prop), φ x0 K → ∀ (A0_0 : Option Addr) (n0_0 c0_0 : Nat), n0_0 = x0.length → SlF u64L Z1 H1 A0_0 c0_0 x0 → ∀ KK : Value → Heap → Prop,
    (∀ (Z' : Nat → Prop) (H' : Heap), Ext H1 H' → Old Z1 H1 Z' → ∀ (r0 : Bool), K r0 → KK (.bool r0) H') →
    CallH P ff (fa.toList ++ ([.slice A0_0 n0_0 c0_0] : List Value) ++ fb.toList) H1 KK
theorem Fn58.F.keep {Z Z2 : Nat → Prop} {H H2 : Heap} {ff : Nat} {fa fb : Array Value} {φ : ((List Nat) → (Bool → Prop) → Prop)} (h : Fn58.F Z H ff fa fb φ) (hf : Fr Z H Z2 H2) : Fn58.F Z2 H2 ff fa fb φ :=
  ⟨h.1, fun Z1 H1 k => h.2 Z1 H1 (hf.trans k)⟩
theorem Fn58.F.wide {Z Z2 : Nat → Prop} {H : Heap} {ff : Nat} {fa fb : Array Value} {φ : ((List Nat) → (Bool → Prop) → Prop)} (h : Fn58.F Z H ff fa fb φ) (hz : ∀ i, Z i → Z2 i) : Fn58.F Z2 H ff fa fb φ := h.keep (Fr.wide hz H)
theorem Fn58.F.step {m : List Nat} {σ σ2 : Nat → Nat} {H H2 : Heap} {ff : Nat} {fa fb : Array Value} {φ : ((List Nat) → (Bool → Prop) → Prop)} (h : Fn58.F (Zt σ) H ff fa fb φ) (hs : Stp m σ H σ2 H2) (hm : 0 ∉ m := by decide) : Fn58.F (Zt σ2) H2 ff fa fb φ := h.keep (hs.z hm)
def Fn58.L : Rl ((List Nat) → (Bool → Prop) → Prop) where
  sz := 1
  rep := fun Z H φ cs => ∃ (ff : Nat) (fa fb : Array Value), cs = [.func (.func ff) fa fb] ∧ Fn58.F Z H ff fa fb φ
  len := fun ⟨_, _, _, e, _⟩ => by rw [e]; rfl
  flat := fun ⟨_, _, _, e, _⟩ => by rw [e]; rfl
  keep := fun hf ⟨a, b, c, e, h⟩ => ⟨a, b, c, e, h.keep hf⟩
def Fn162.F (Z : Nat → Prop) (H : Heap) (ff : Nat) (fa fb : Array Value) (φ : (Int → Nat → (Bool → Prop) → Prop)) : Prop :=
  hasB nf ff = true ∧ ∀ (Z1 : Nat → Prop) (H1 : Heap), Fr Z H Z1 H1 → ∀ (x0 : Int) (x1 : Nat) (K : Bool → Prop), φ x0 x1 K → ∀ (v1_0 : Int), v1_0 = (x1 : Int) → ∀ KK : Value → Heap → Prop,
    (∀ (Z' : Nat → Prop) (H' : Heap), Ext H1 H' → Old Z1 H1 Z' → ∀ (r0 : Bool), K r0 → KK (.bool r0) H') →
    CallH P ff (fa.toList ++ ([.int .i64 x0, .int .u64 v1_0] : List Value) ++ fb.toList) H1 KK
theorem Fn162.F.keep {Z Z2 : Nat → Prop} {H H2 : Heap} {ff : Nat} {fa fb : Array Value} {φ : (Int → Nat → (Bool → Prop) → Prop)} (h : Fn162.F Z H ff fa fb φ) (hf : Fr Z H Z2 H2) : Fn162.F Z2 H2 ff fa fb φ :=
  ⟨h.1, fun Z1 H1 k => h.2 Z1 H1 (hf.trans k)⟩
theorem Fn162.F.wide {Z Z2 : Nat → Prop} {H : Heap} {ff : Nat} {fa fb : Array Value} {φ : (Int → Nat → (Bool → Prop) → Prop)} (h : Fn162.F Z H ff fa fb φ) (hz : ∀ i, Z i → Z2 i) : Fn162.F Z2 H ff fa fb φ := h.keep (Fr.wide hz H)
theorem Fn162.F.step {m : List Nat} {σ σ2 : Nat → Nat} {H H2 : Heap} {ff : Nat} {fa fb : Array Value} {φ : (Int → Nat → (Bool → Prop) → Prop)} (h : Fn162.F (Zt σ) H ff fa fb φ) (hs : Stp m σ H σ2 H2) (hm : 0 ∉ m := by decide) : Fn162.F (Zt σ2) H2 ff fa fb φ := h.keep (hs.z hm)
def Fn162.L : Rl (Int → Nat → (Bool → Prop) → Prop) where
  sz := 1
  rep := fun Z H φ cs => ∃ (ff : Nat) (fa fb : Array Value), cs = [.func (.func ff) fa fb] ∧ Fn162.F Z H ff fa fb φ
  len := fun ⟨_, _, _, e, _⟩ => by rw [e]; rfl
  flat := fun ⟨_, _, _, e, _⟩ => by rw [e]; rfl
  keep := fun hf ⟨a, b, c, e, h⟩ => ⟨a, b, c, e, h.keep hf⟩
structure TSecret where
  Value : Nat
  T_ : Int
  Tape : (List Nat)
def TSecret.L : Rl TSecret where
  sz := 3
  rep := fun Z H x cs => ∃ (A2 : Option Addr) (c2 : Nat), cs = [.int .u64 (x.Value : Int), .int .i64 x.T_, .slice A2 x.Tape.length c2] ∧ SlF u64L Z H A2 c2 x.Tape
  len := fun ⟨A2, c2, e, h2⟩ => by rw [e]; rfl
  flat := fun ⟨A2, c2, e, h2⟩ => by rw [e]; rfl
  keep := fun hf ⟨A2, c2, e, h2⟩ => ⟨A2, c2, e, h2.keep hf⟩
theorem TSecret.zero (Z Y : Nat → Prop) (H : Heap) : (rdM TSecret.L).rep Z Y H (⟨0, 0, []⟩ : TSecret) [.int .u64 0, .int .i64 0, .slice none 0 0] := ⟨none, 0, rfl, SlF.nil _ _ _ _ _⟩
structure TShape where
  T_ : Int
  F : (List (List Nat))
def TShape.L : Rl TShape where
  sz := 2
  rep := fun Z H x cs => ∃ (A1 : Option Addr) (c1 : Nat), cs = [.int .i64 x.T_, .slice A1 x.F.length c1] ∧ SlF (slL u64L) Z H A1 c1 x.F
  len := fun ⟨A1, c1, e, h1⟩ => by rw [e]; rfl
  flat := fun ⟨A1, c1, e, h1⟩ => by rw [e]; rfl
  keep := fun hf ⟨A1, c1, e, h1⟩ => ⟨A1, c1, e, h1.keep hf⟩
theorem TShape.zero (Z Y : Nat → Prop) (H : Heap) : (rdM TShape.L).rep Z Y H (⟨0, []⟩ : TShape) [.int .i64 0, .slice none 0 0] := ⟨none, 0, rfl, SlF.nil _ _ _ _ _⟩
structure TRows where
  T_ : Int
  Xs : (List Nat)
  Rows : (List (List Nat))
def TRows.L : Rl TRows where
  sz := 3
  rep := fun Z H x cs => ∃ (A1 : Option Addr) (c1 : Nat) (A2 : Option Addr) (c2 : Nat), cs = [.int .i64 x.T_, .slice A1 x.Xs.length c1, .slice A2 x.Rows.length c2] ∧ SlF u64L Z H A1 c1 x.Xs ∧ SlF (slL u64L) Z H A2 c2 x.Rows
  len := fun ⟨A1, c1, A2, c2, e, h1, h2⟩ => by rw [e]; rfl
  flat := fun ⟨A1, c1, A2, c2, e, h1, h2⟩ => by rw [e]; rfl
  keep := fun hf ⟨A1, c1, A2, c2, e, h1, h2⟩ => ⟨A1, c1, A2, c2, e, h1.keep hf, h2.keep hf⟩
theorem TRows.zero (Z Y : Nat → Prop) (H : Heap) : (rdM TRows.L).rep Z Y H (⟨0, [], []⟩ : TRows) [.int .i64 0, .slice none 0 0, .slice none 0 0] := ⟨none, 0, none, 0, rfl, SlF.nil _ _ _ _ _, SlF.nil _ _ _ _ _⟩
def Fn131.F (Z : Nat → Prop) (H : Heap) (ff : Nat) (fa fb : Array Value) (φ : (Int → Int → (Nat → Prop) → Prop)) : Prop :=
  hasB nf ff = true ∧ ∀ (Z1 : Nat → Prop) (H1 : Heap), Fr Z H Z1 H1 → ∀ (x0 : Int) (x1 : Int) (K : Nat → Prop), φ x0 x1 K → ∀ KK : Value → Heap → Prop,
    (∀ (Z' : Nat → Prop) (H' : Heap), Ext H1 H' → Old Z1 H1 Z' → ∀ (r0 : Nat), ∀ (r0v0 : Int), r0v0 = (r0 : Int) → K r0 → KK (.int .u64 r0v0) H') →
    CallH P ff (fa.toList ++ ([.int .i64 x0, .int .i64 x1] : List Value) ++ fb.toList) H1 KK
theorem Fn131.F.keep {Z Z2 : Nat → Prop} {H H2 : Heap} {ff : Nat} {fa fb : Array Value} {φ : (Int → Int → (Nat → Prop) → Prop)} (h : Fn131.F Z H ff fa fb φ) (hf : Fr Z H Z2 H2) : Fn131.F Z2 H2 ff fa fb φ :=
  ⟨h.1, fun Z1 H1 k => h.2 Z1 H1 (hf.trans k)⟩
theorem Fn131.F.wide {Z Z2 : Nat → Prop} {H : Heap} {ff : Nat} {fa fb : Array Value} {φ : (Int → Int → (Nat → Prop) → Prop)} (h : Fn131.F Z H ff fa fb φ) (hz : ∀ i, Z i → Z2 i) : Fn131.F Z2 H ff fa fb φ := h.keep (Fr.wide hz H)
theorem Fn131.F.step {m : List Nat} {σ σ2 : Nat → Nat} {H H2 : Heap} {ff : Nat} {fa fb : Array Value} {φ : (Int → Int → (Nat → Prop) → Prop)} (h : Fn131.F (Zt σ) H ff fa fb φ) (hs : Stp m σ H σ2 H2) (hm : 0 ∉ m := by decide) : Fn131.F (Zt σ2) H2 ff fa fb φ := h.keep (hs.z hm)
def Fn131.L : Rl (Int → Int → (Nat → Prop) → Prop) where
  sz := 1
  rep := fun Z H φ cs => ∃ (ff : Nat) (fa fb : Array Value), cs = [.func (.func ff) fa fb] ∧ Fn131.F Z H ff fa fb φ
  len := fun ⟨_, _, _, e, _⟩ => by rw [e]; rfl
  flat := fun ⟨_, _, _, e, _⟩ => by rw [e]; rfl
  keep := fun hf ⟨a, b, c, e, h⟩ => ⟨a, b, c, e, h.keep hf⟩
def Fn150.F (Z : Nat → Prop) (H : Heap) (ff : Nat) (fa fb : Array Value) (φ : (Int → (Nat → Prop) → Prop)) : Prop :=
  hasB nf ff = true ∧ ∀ (Z1 : Nat → Prop) (H1 : Heap), Fr Z H Z1 H1 → ∀ (x0 : Int) (K : Nat → Prop), φ x0 K → ∀ KK : Value → Heap → Prop,
    (∀ (Z' : Nat → Prop) (H' : Heap), Ext H1 H' → Old Z1 H1 Z' → ∀ (r0 : Nat), ∀ (r0v0 : Int), r0v0 = (r0 : Int) → K r0 → KK (.int .u64 r0v0) H') →
    CallH P ff (fa.toList ++ ([.int .i64 x0] : List Value) ++ fb.toList) H1 KK
theorem Fn150.F.keep {Z Z2 : Nat → Prop} {H H2 : Heap} {ff : Nat} {fa fb : Array Value} {φ : (Int → (Nat → Prop) → Prop)} (h : Fn150.F Z H ff fa fb φ) (hf : Fr Z H Z2 H2) : Fn150.F Z2 H2 ff fa fb φ :=
  ⟨h.1, fun Z1 H1 k => h.2 Z1 H1 (hf.trans k)⟩
theorem Fn150.F.wide {Z Z2 : Nat → Prop} {H : Heap} {ff : Nat} {fa fb : Array Value} {φ : (Int → (Nat → Prop) → Prop)} (h : Fn150.F Z H ff fa fb φ) (hz : ∀ i, Z i → Z2 i) : Fn150.F Z2 H ff fa fb φ := h.keep (Fr.wide hz H)
theorem Fn150.F.step {m : List Nat} {σ σ2 : Nat → Nat} {H H2 : Heap} {ff : Nat} {fa fb : Array Value} {φ : (Int → (Nat → Prop) → Prop)} (h : Fn150.F (Zt σ) H ff fa fb φ) (hs : Stp m σ H σ2 H2) (hm : 0 ∉ m := by decide) : Fn150.F (Zt σ2) H2 ff fa fb φ := h.keep (hs.z hm)
def Fn150.L : Rl (Int → (Nat → Prop) → Prop) where
  sz := 1
  rep := fun Z H φ cs => ∃ (ff : Nat) (fa fb : Array Value), cs = [.func (.func ff) fa fb] ∧ Fn150.F Z H ff fa fb φ
  len := fun ⟨_, _, _, e, _⟩ => by rw [e]; rfl
  flat := fun ⟨_, _, _, e, _⟩ => by rw [e]; rfl
  keep := fun hf ⟨a, b, c, e, h⟩ => ⟨a, b, c, e, h.keep hf⟩
structure TLifted where
  K : Nat
  Z : (List Nat)
def TLifted.L : Rl TLifted where
  sz := 2
  rep := fun Z H x cs => ∃ (A1 : Option Addr) (c1 : Nat), cs = [.int .u64 (x.K : Int), .slice A1 x.Z.length c1] ∧ SlF u64L Z H A1 c1 x.Z
  len := fun ⟨A1, c1, e, h1⟩ => by rw [e]; rfl
  flat := fun ⟨A1, c1, e, h1⟩ => by rw [e]; rfl
  keep := fun hf ⟨A1, c1, e, h1⟩ => ⟨A1, c1, e, h1.keep hf⟩
theorem TLifted.zero (Z Y : Nat → Prop) (H : Heap) : (rdM TLifted.L).rep Z Y H (⟨0, []⟩ : TLifted) [.int .u64 0, .slice none 0 0] := ⟨none, 0, rfl, SlF.nil _ _ _ _ _⟩
structure TPoint where
  X : Nat
  Y : Nat
def TPoint.L : Rl TPoint where
  sz := 2
  rep := fun Z H x cs => cs = [.int .u64 (x.X : Int), .int .u64 (x.Y : Int)]
  len := fun e => by rw [e]; rfl
  flat := fun e => by rw [e]; rfl
  keep := fun _ e => e
theorem TPoint.flatL : FlatL TPoint.L := ⟨fun h => h⟩
theorem TPoint.zero (Z Y : Nat → Prop) (H : Heap) : (rdM TPoint.L).rep Z Y H (⟨0, 0⟩ : TPoint) [.int .u64 0, .int .u64 0] := rfl
structure TTold where
  f : (List Nat)
  at_ : (List Int)
  e : Int
def TTold.L : Rl TTold where
  sz := 3
  rep := fun Z H x cs => ∃ (A0 : Option Addr) (c0 : Nat) (A1 : Option Addr) (c1 : Nat), cs = [.slice A0 x.f.length c0, .slice A1 x.at_.length c1, .int .i64 x.e] ∧ SlF u64L Z H A0 c0 x.f ∧ SlF i64L Z H A1 c1 x.at_
  len := fun ⟨A0, c0, A1, c1, e, h0, h1⟩ => by rw [e]; rfl
  flat := fun ⟨A0, c0, A1, c1, e, h0, h1⟩ => by rw [e]; rfl
  keep := fun hf ⟨A0, c0, A1, c1, e, h0, h1⟩ => ⟨A0, c0, A1, c1, e, h0.keep hf, h1.keep hf⟩
theorem TTold.zero (Z Y : Nat → Prop) (H : Heap) : (rdM TTold.L).rep Z Y H (⟨[], [], 0⟩ : TTold) [.slice none 0 0, .slice none 0 0, .int .i64 0] := ⟨none, 0, none, 0, rfl, SlF.nil _ _ _ _ _, SlF.nil _ _ _ _ _⟩
structure TSpoilt where
  F : (List Nat)
  Xs : (List Nat)
  At : (List Int)
  Values : (List Nat)
def TSpoilt.L : Rl TSpoilt where
  sz := 4
  rep := fun Z H x cs => ∃ (A0 : Option Addr) (c0 : Nat) (A1 : Option Addr) (c1 : Nat) (A2 : Option Addr) (c2 : Nat) (A3 : Option Addr) (c3 : Nat), cs = [.slice A0 x.F.length c0, .slice A1 x.Xs.length c1, .slice A2 x.At.length c2, .slice A3 x.Values.length c3] ∧ SlF u64L Z H A0 c0 x.F ∧ SlF u64L Z H A1 c1 x.Xs ∧ SlF i64L Z H A2 c2 x.At ∧ SlF u64L Z H A3 c3 x.Values
  len := fun ⟨A0, c0, A1, c1, A2, c2, A3, c3, e, h0, h1, h2, h3⟩ => by rw [e]; rfl
  flat := fun ⟨A0, c0, A1, c1, A2, c2, A3, c3, e, h0, h1, h2, h3⟩ => by rw [e]; rfl
  keep := fun hf ⟨A0, c0, A1, c1, A2, c2, A3, c3, e, h0, h1, h2, h3⟩ => ⟨A0, c0, A1, c1, A2, c2, A3, c3, e, h0.keep hf, h1.keep hf, h2.keep hf, h3.keep hf⟩
theorem TSpoilt.zero (Z Y : Nat → Prop) (H : Heap) : (rdM TSpoilt.L).rep Z Y H (⟨[], [], [], []⟩ : TSpoilt) [.slice none 0 0, .slice none 0 0, .slice none 0 0, .slice none 0 0] := ⟨none, 0, none, 0, none, 0, none, 0, rfl, SlF.nil _ _ _ _ _, SlF.nil _ _ _ _ _, SlF.nil _ _ _ _ _, SlF.nil _ _ _ _ _⟩
structure TSome where
  Points : (List TPoint)
  There : (List Bool)
def TSome.L : Rl TSome where
  sz := 2
  rep := fun Z H x cs => ∃ (A0 : Option Addr) (c0 : Nat) (A1 : Option Addr) (c1 : Nat), cs = [.slice A0 x.Points.length c0, .slice A1 x.There.length c1] ∧ SlF TPoint.L Z H A0 c0 x.Points ∧ SlF boolL Z H A1 c1 x.There
  len := fun ⟨A0, c0, A1, c1, e, h0, h1⟩ => by rw [e]; rfl
  flat := fun ⟨A0, c0, A1, c1, e, h0, h1⟩ => by rw [e]; rfl
  keep := fun hf ⟨A0, c0, A1, c1, e, h0, h1⟩ => ⟨A0, c0, A1, c1, e, h0.keep hf, h1.keep hf⟩
theorem TSome.zero (Z Y : Nat → Prop) (H : Heap) : (rdM TSome.L).rep Z Y H (⟨[], []⟩ : TSome) [.slice none 0 0, .slice none 0 0] := ⟨none, 0, none, 0, rfl, SlF.nil _ _ _ _ _, SlF.nil _ _ _ _ _⟩
def Fn75.F (Z : Nat → Prop) (H : Heap) (ff : Nat) (fa fb : Array Value) (φ : (Nat → Nat → Nat → (Nat → Prop) → Prop)) : Prop :=
  hasB nf ff = true ∧ ∀ (Z1 : Nat → Prop) (H1 : Heap), Fr Z H Z1 H1 → ∀ (x0 : Nat) (x1 : Nat) (x2 : Nat) (K : Nat → Prop), φ x0 x1 x2 K → ∀ (v0_0 : Int), v0_0 = (x0 : Int) → ∀ (v1_0 : Int), v1_0 = (x1 : Int) → ∀ (v2_0 : Int), v2_0 = (x2 : Int) → ∀ KK : Value → Heap → Prop,
    (∀ (Z' : Nat → Prop) (H' : Heap), Ext H1 H' → Old Z1 H1 Z' → ∀ (r0 : Nat), ∀ (r0v0 : Int), r0v0 = (r0 : Int) → K r0 → KK (.int .u64 r0v0) H') →
    CallH P ff (fa.toList ++ ([.int .u64 v0_0, .int .u64 v1_0, .int .u64 v2_0] : List Value) ++ fb.toList) H1 KK
theorem Fn75.F.keep {Z Z2 : Nat → Prop} {H H2 : Heap} {ff : Nat} {fa fb : Array Value} {φ : (Nat → Nat → Nat → (Nat → Prop) → Prop)} (h : Fn75.F Z H ff fa fb φ) (hf : Fr Z H Z2 H2) : Fn75.F Z2 H2 ff fa fb φ :=
  ⟨h.1, fun Z1 H1 k => h.2 Z1 H1 (hf.trans k)⟩
theorem Fn75.F.wide {Z Z2 : Nat → Prop} {H : Heap} {ff : Nat} {fa fb : Array Value} {φ : (Nat → Nat → Nat → (Nat → Prop) → Prop)} (h : Fn75.F Z H ff fa fb φ) (hz : ∀ i, Z i → Z2 i) : Fn75.F Z2 H ff fa fb φ := h.keep (Fr.wide hz H)
theorem Fn75.F.step {m : List Nat} {σ σ2 : Nat → Nat} {H H2 : Heap} {ff : Nat} {fa fb : Array Value} {φ : (Nat → Nat → Nat → (Nat → Prop) → Prop)} (h : Fn75.F (Zt σ) H ff fa fb φ) (hs : Stp m σ H σ2 H2) (hm : 0 ∉ m := by decide) : Fn75.F (Zt σ2) H2 ff fa fb φ := h.keep (hs.z hm)
def Fn75.L : Rl (Nat → Nat → Nat → (Nat → Prop) → Prop) where
  sz := 1
  rep := fun Z H φ cs => ∃ (ff : Nat) (fa fb : Array Value), cs = [.func (.func ff) fa fb] ∧ Fn75.F Z H ff fa fb φ
  len := fun ⟨_, _, _, e, _⟩ => by rw [e]; rfl
  flat := fun ⟨_, _, _, e, _⟩ => by rw [e]; rfl
  keep := fun hf ⟨a, b, c, e, h⟩ => ⟨a, b, c, e, h.keep hf⟩
def Arr2_3.L : Rl (Int × Int) where
  sz := 2
  rep := fun Z H x cs => cs = [.int .i64 x.1, .int .i64 x.2]
  len := fun e => by rw [e]; rfl
  flat := fun e => by rw [e]; rfl
  keep := fun _ e => e
theorem Arr2_3.flatL : FlatL Arr2_3.L := ⟨fun h => h⟩
def Fn145.F (Z : Nat → Prop) (H : Heap) (ff : Nat) (fa fb : Array Value) (φ : ((Int × Int) → (Int × Int) → (Int → Prop) → Prop)) : Prop :=
  hasB nf ff = true ∧ ∀ (Z1 : Nat → Prop) (H1 : Heap), Fr Z H Z1 H1 → ∀ (x0 : (Int × Int)) (x1 : (Int × Int)) (K : Int → Prop), φ x0 x1 K → ∀ KK : Value → Heap → Prop,
    (∀ (Z' : Nat → Prop) (H' : Heap), Ext H1 H' → Old Z1 H1 Z' → ∀ (r0 : Int), K r0 → KK (.int .i64 r0) H') →
    CallH P ff (fa.toList ++ ([.agg #[.int .i64 x0.1, .int .i64 x0.2], .agg #[.int .i64 x1.1, .int .i64 x1.2]] : List Value) ++ fb.toList) H1 KK
theorem Fn145.F.keep {Z Z2 : Nat → Prop} {H H2 : Heap} {ff : Nat} {fa fb : Array Value} {φ : ((Int × Int) → (Int × Int) → (Int → Prop) → Prop)} (h : Fn145.F Z H ff fa fb φ) (hf : Fr Z H Z2 H2) : Fn145.F Z2 H2 ff fa fb φ :=
  ⟨h.1, fun Z1 H1 k => h.2 Z1 H1 (hf.trans k)⟩
theorem Fn145.F.wide {Z Z2 : Nat → Prop} {H : Heap} {ff : Nat} {fa fb : Array Value} {φ : ((Int × Int) → (Int × Int) → (Int → Prop) → Prop)} (h : Fn145.F Z H ff fa fb φ) (hz : ∀ i, Z i → Z2 i) : Fn145.F Z2 H ff fa fb φ := h.keep (Fr.wide hz H)
theorem Fn145.F.step {m : List Nat} {σ σ2 : Nat → Nat} {H H2 : Heap} {ff : Nat} {fa fb : Array Value} {φ : ((Int × Int) → (Int × Int) → (Int → Prop) → Prop)} (h : Fn145.F (Zt σ) H ff fa fb φ) (hs : Stp m σ H σ2 H2) (hm : 0 ∉ m := by decide) : Fn145.F (Zt σ2) H2 ff fa fb φ := h.keep (hs.z hm)
def Fn145.L : Rl ((Int × Int) → (Int × Int) → (Int → Prop) → Prop) where
  sz := 1
  rep := fun Z H φ cs => ∃ (ff : Nat) (fa fb : Array Value), cs = [.func (.func ff) fa fb] ∧ Fn145.F Z H ff fa fb φ
  len := fun ⟨_, _, _, e, _⟩ => by rw [e]; rfl
  flat := fun ⟨_, _, _, e, _⟩ => by rw [e]; rfl
  keep := fun hf ⟨a, b, c, e, h⟩ => ⟨a, b, c, e, h.keep hf⟩
def Arr2_22.L : Rl (Nat × Nat) where
  sz := 2
  rep := fun Z H x cs => cs = [.int .u64 (x.1 : Int), .int .u64 (x.2 : Int)]
  len := fun e => by rw [e]; rfl
  flat := fun e => by rw [e]; rfl
  keep := fun _ e => e
theorem Arr2_22.flatL : FlatL Arr2_22.L := ⟨fun h => h⟩
/-! poly_At -/
def poly_At.C (p : Nat) (f : (List Nat)) (x : Nat) (K : Nat → Prop) : Prop :=
  ∀ (Z : Nat → Prop) (H : Heap), ∀ (pv : Int), pv = (p : Int) → ∀ (fA : Option Addr) (fn fc : Nat), fn = f.length → SlF u64L Z H fA fc f → ∀ (xv : Int), xv = (x : Int) → ∀ KK : Value → Heap → Prop,
    (∀ (Z' : Nat → Prop) (H' : Heap), Ext H H' → Old Z H Z' → ∀ (r0 : Nat), ∀ (r0v0 : Int), r0v0 = (r0 : Int) → K r0 → KK (.int .u64 r0v0) H') →
    CallH P N.poly_At [.int .u64 pv, .slice fA fn fc, .int .u64 xv] H KK

/-! slices_Clone_uint64uint64 -/
def slices_Clone_uint64uint64.C (s : (List Nat)) (K : (List Nat) → Prop) : Prop :=
  ∀ (Z : Nat → Prop) (H : Heap), ∀ (sA : Option Addr) (sn sc : Nat), sn = s.length → SlF u64L Z H sA sc s → ∀ KK : Value → Heap → Prop,
    (∀ (Z' : Nat → Prop) (H' : Heap), Ext H H' → Old Z H Z' → ∀ (r0 : (List Nat)), ∀ (Y0 : Nat → Prop), (∀ i, Y0 i → H.size ≤ i ∧ ¬ Z' i) → ∀ (Ar0_0 : Option Addr) (nr0_0 cr0_0 : Nat), nr0_0 = r0.length → SlO (rdM u64L) 22 Z' Y0 H' Ar0_0 cr0_0 r0 → K r0 → KK (.slice Ar0_0 nr0_0 cr0_0) H') →
    CallH P N.slices_Clone_uint64uint64 [.slice sA sn sc] H KK

end Go.Proofs.Ytlhcaangdenoaaa.Sh
