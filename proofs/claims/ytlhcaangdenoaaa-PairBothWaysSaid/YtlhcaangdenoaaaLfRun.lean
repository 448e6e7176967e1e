import Derived.Test.YtlhcaangdenoaaaLfApp
set_option linter.unusedVariables false
namespace Go.Lf
open Go.Sx

/-! ### The words of the lifted form, and how each comes to the form over memory -/
def LoopQ {τ : Type} (t0 : τ) (step : τ → (τ → Prop) → Prop) : Prop :=
  ∃ I : Nat → τ → Prop, (∃ n, I n t0) ∧ ∀ n t, I n t → step t fun t' => ∃ n', n' < n ∧ I n' t'
theorem LoopI.ofQ {τ σ : Type} {t0 : τ} {stepQ : τ → (τ → Prop) → Prop} {init : (σ → Heap → Prop) → Prop} {step : σ → (Nat → Value) → Heap → (σ → Heap → Prop) → Prop}
    (q : LoopQ t0 stepQ) (R : τ → σ → Heap → Prop) (hm : ∀ {κ κ' : σ → Heap → Prop}, (∀ s H, κ s H → κ' s H) → init κ → init κ') (h0 : init (R t0))
    (hs : ∀ (t : τ) (s : σ) (z : Nat → Value) (H : Heap) (next : σ → Heap → Prop) (nextQ : τ → Prop), R t s H → stepQ t nextQ → (∀ t' s' H', R t' s' H' → nextQ t' → next s' H') → step s z H next) : LoopI init step := by
  obtain ⟨I, ⟨n, hI⟩, hstep⟩ := q
  refine ⟨fun n s H => ∃ t, I n t ∧ R t s H, ⟨n, hm (fun s H h => ⟨t0, hI, h⟩) h0⟩, ?_⟩
  rintro n s z H ⟨t, hIt, hR⟩
  exact hs t s z H _ _ hR (hstep n t hIt) fun t' s' H' hR' ⟨n', hlt, hI'⟩ => ⟨n', hlt, t', hI', hR'⟩
theorem condI {c : Bool} {A B A' B' : Prop} (h1 : A' → A) (h2 : B' → B) (q : cond c A' B') : cond c A B := by
  cases c
  · exact h2 q
  · exact h1 q
/-- make of so many, each of so many bytes -/
def MakeOk (b : Nat) (l : Int) : Prop := 0 ≤ l ∧ l * (b : Int) ≤ 140737488355328 ∧ l ≤ 17592186044416
theorem MakeOk.w1 {b : Nat} {l : Int} (h : MakeOk b l) : l * (b : Int) ≤ 2 ^ 48 := by have := h.2.1; omega
theorem MakeOk.w2 {b : Nat} {l : Int} (h : MakeOk b l) : l < 2 ^ 62 := by have := h.2.2; omega
theorem MakeOk.len {b : Nat} {l : Int} (h : MakeOk b l) : l.toNat ≤ 17592186044416 := by have := h.2.2; omega
/-- append that comes to so many, each of so many bytes -/
def AppOk (b : Nat) (n : Nat) : Prop := n * b ≤ 140737488355328 ∧ n ≤ 17592186044416
theorem AppOk.l {α : Type} {b : Nat} {xs ys : List α} (h : AppOk b (xs ++ ys).length) : (xs.length + ys.length) * b ≤ 140737488355328 := by have := h.1; rwa [List.length_append] at this
theorem AppOk.r {α : Type} {b : Nat} {xs ys : List α} (h : AppOk b (xs ++ ys).length) : xs.length + ys.length ≤ 17592186044416 := by have := h.2; rwa [List.length_append] at this
theorem AppOk.of {b n : Nat} (h : n ≤ 1000000) (hb : b ≤ 1000 := by decide) : AppOk b n := by
  have := Nat.mul_le_mul h hb
  constructor <;> omega
theorem MakeOk.of {b : Nat} {l : Int} (h0 : 0 ≤ l) (h : l ≤ 1000000) (hb : b ≤ 1000 := by decide) : MakeOk b l := by
  obtain ⟨n, rfl⟩ := Int.eq_ofNat_of_zero_le h0
  have := Nat.mul_le_mul (show n ≤ 1000000 by omega) hb
  refine ⟨h0, ?_, by omega⟩
  have e : (n : Int) * (b : Int) = ((n * b : Nat) : Int) := by simp
  rw [e]; omega

/-! Numbers -/
theorem nnc (x : Nat) : 0 ≤ (x : Int) := Int.natCast_nonneg x
theorem nnw (x : Int) : 0 ≤ IntKind.u64.wrap x := by rw [IntKind.wrap_u64]; omega
theorem nnr {x : Int} (h : 0 ≤ x) (y : Int) : 0 ≤ Int.tmod x y := Int.tmod_nonneg y h
theorem nnif {c : Prop} [Decidable c] {x y : Int} (h1 : 0 ≤ x) (h2 : 0 ≤ y) : 0 ≤ (if c then x else y) := by split <;> assumption
theorem nnshr {x : Int} (h : 0 ≤ x) (k : Nat) : 0 ≤ Int.fdiv x (2 ^ k) := Int.fdiv_nonneg h (Int.pow_nonneg (by decide))
theorem nnbits (op : BinOp) (x y : Int) : 0 ≤ bitsOf op .u64 x y := by
  unfold bitsOf; cases op <;> exact nnw _
theorem natEq {x : Int} (h : 0 ≤ x) : x = ((x.toNat : Nat) : Int) := (Int.toNat_of_nonneg h).symm
theorem u64_rep {Z : Nat → Prop} {H : Heap} {x : Int} (h : 0 ≤ x) : u64L.rep Z H x.toNat [.int .u64 x] := by
  show [Value.int .u64 x] = [.int .u64 ((x.toNat : Nat) : Int)]
  rw [← natEq h]
theorem slL_rep {α : Type} {E : Rl α} {Z : Nat → Prop} {H : Heap} {A : Option Addr} {n c : Nat} {xs : List α} (hn : n = xs.length) (h : SlF E Z H A c xs) : (slL E).rep Z H xs [.slice A n c] := by
  subst hn; exact ⟨A, c, rfl, h⟩
theorem rl_len {α : Type} (m : Nat) (x : α) : m = (List.replicate m x).length := List.length_replicate.symm
theorem set_len {α : Type} {n i : Nat} {xs : List α} {y : α} (h : n = xs.length) : n = (xs.set i y).length := by rw [List.length_set]; exact h
theorem take_len {α : Type} {n : Nat} {i : Int} {xs : List α} (hn : n = xs.length) (h : i ≤ (n : Int)) : i.toNat = (xs.take i.toNat).length := by simp; omega
theorem drop_len {α : Type} {n i : Nat} {xs : List α} (hn : n = xs.length) : n - i = (xs.drop i).length := by simp; omega
theorem sub_len {α : Type} {n l u : Nat} {xs : List α} (hn : n = xs.length) (h : u ≤ n) : u - l = ((xs.take u).drop l).length := by simp; omega
theorem upto_le {n m : Nat} {i : Int} (hn : n = m) (h : i ≤ (n : Int)) : i.toNat ≤ m := by omega
theorem cap_le {n m c : Nat} {i : Int} (hn : n = m) (hc : m ≤ c) (h : i ≤ (n : Int)) : i ≤ (c : Int) := by omega
theorem lt_of_n {n m : Nat} {i : Int} (hn : n = m) (h : i < (n : Int)) : i < (m : Int) := by omega
theorem lt_of_x {α : Type} {i : Int} {xs : List α} {x : α} (h0 : 0 ≤ i) (h : xs[i.toNat]? = some x) : i < (xs.length : Int) := by have := (List.getElem?_eq_some_iff.1 h).1; omega
theorem some_of_n {α : Type} {n : Nat} {i : Int} {xs : List α} (hn : n = xs.length) (h0 : 0 ≤ i) (h : i < (n : Int)) : ∃ x, xs[i.toNat]? = some x := ⟨_, List.getElem?_eq_getElem (by omega)⟩

/-! Calls -/
theorem call0 {H H1 : Heap} (hE : Ext H H1) (σ : Nat → Nat) : ∃ σ1, Stp [] σ H σ1 H1 := ⟨_, Go.Lf.Ext.stp hE σ 998⟩
/-- What comes back: memory to be read (Z'), and new memory of two owners. -/
theorem call2 {H H1 : Heap} {Zc Z' Y1 Y2 : Nat → Prop} (hE : Ext H H1) (hO : Old Zc H Z') (σ : Nat → Nat) (t1 t2 : Nat) (hZ : ∀ i, Zc i → σ i = 0) (h1 : ∀ i, Y1 i → H.size ≤ i ∧ ¬ Z' i) (h2 : ∀ i, Y2 i → H.size ≤ i ∧ ¬ Z' i) (h12 : ∀ i, Y1 i → ¬ Y2 i) :
    ∃ σ1, Stp [] σ H σ1 H1 ∧ Fr Z' H1 (Zt σ1) H1 ∧ Fr Y1 H1 (Yt σ1 t1) H1 ∧ Fr Y2 H1 (Yt σ1 t2) H1 := by
  classical
  refine ⟨fun i => if i < H.size then σ i else if Y1 i then t1 else if Y2 i then t2 else if Z' i then 0 else 998, ⟨hE.size, fun i hi _ => ⟨by simp [hi], hE.get i hi⟩⟩, fun i hz _ => ⟨?_, rfl⟩, fun i hy _ => ⟨?_, rfl⟩, fun i hy _ => ⟨?_, rfl⟩⟩
  · by_cases hi : i < H.size
    · simp [Zt, hi, hZ i (hO i hz hi)]
    · have e1 : ¬ Y1 i := fun h => (h1 i h).2 hz
      have e2 : ¬ Y2 i := fun h => (h2 i h).2 hz
      simp [Zt, hi, e1, e2, hz]
  · have := (h1 i hy).1
    simp [Yt, Nat.not_lt.2 this, hy]
  · have := (h2 i hy).1
    have e1 : ¬ Y1 i := fun h => h12 i h hy
    simp [Yt, Nat.not_lt.2 this, hy, e1]
theorem call1 {H H1 : Heap} {Zc Z' Y1 : Nat → Prop} (hE : Ext H H1) (hO : Old Zc H Z') (σ : Nat → Nat) (t1 : Nat) (hZ : ∀ i, Zc i → σ i = 0) (h1 : ∀ i, Y1 i → H.size ≤ i ∧ ¬ Z' i) :
    ∃ σ1, Stp [] σ H σ1 H1 ∧ Fr Z' H1 (Zt σ1) H1 ∧ Fr Y1 H1 (Yt σ1 t1) H1 := by
  obtain ⟨σ1, a, b, c, _⟩ := call2 hE hO σ t1 0 hZ h1 (Y2 := fun _ => False) (fun _ h => h.elim) (fun _ _ h => h)
  exact ⟨σ1, a, b, c⟩
theorem callZ {H H1 : Heap} {Zc Z' : Nat → Prop} (hE : Ext H H1) (hO : Old Zc H Z') (σ : Nat → Nat) (hZ : ∀ i, Zc i → σ i = 0) : ∃ σ1, Stp [] σ H σ1 H1 ∧ Fr Z' H1 (Zt σ1) H1 := by
  obtain ⟨σ1, a, b, _, _⟩ := call2 hE hO σ 0 0 hZ (Y1 := fun _ => False) (fun _ h => h.elim) (Y2 := fun _ => False) (fun _ h => h.elim) (fun _ _ h => h)
  exact ⟨σ1, a, b⟩
/-- New memory of elements that hang on no other: whatever was lent to the call. -/
structure FlatL {α : Type} (E : Rl α) : Prop where
  any : ∀ {Z Z' H H' x cs}, E.rep Z H x cs → E.rep Z' H' x cs
theorem u64_flatL : FlatL u64L := ⟨fun h => h⟩
theorem i64_flatL : FlatL i64L := ⟨fun h => h⟩
theorem bool_flatL : FlatL boolL := ⟨fun h => h⟩
theorem SlO.anyZ {α : Type} {E : Rl α} {e : Nat} {Z Z' Y : Nat → Prop} {H : Heap} {A : Option Addr} {c : Nat} {xs : List α} (fl : FlatL E) (h : SlO (rdM E) e Z Y H A c xs) : SlO (rdM E) e Z' Y H A c xs :=
  ⟨h.cap, h.lt, h.blk.imp id fun ⟨g, cells, Ys, h1, h2, h3, h4, h5, h6, h7⟩ => ⟨g, cells, Ys, h1, h2, h3, h4, h5, h6, fun i x hx => by
    obtain ⟨cs, hr, hc⟩ := h7 i x hx; exact ⟨cs, fl.any hr, hc⟩⟩⟩
theorem callB1 {H H1 : Heap} {Zc Z' Y1 : Nat → Prop} (hE : Ext H H1) (hO : Old Zc H Z') (σ : Nat → Nat) (t1 : Nat) (h1 : ∀ i, Y1 i → H.size ≤ i ∧ ¬ Z' i) :
    ∃ σ1, Stp [] σ H σ1 H1 ∧ Fr Y1 H1 (Yt σ1 t1) H1 := by
  classical
  refine ⟨fun i => if i < H.size then σ i else if Y1 i then t1 else 998, ⟨hE.size, fun i hi _ => ⟨by simp [hi], hE.get i hi⟩⟩, fun i hy _ => ⟨?_, rfl⟩⟩
  have := (h1 i hy).1
  simp [Yt, Nat.not_lt.2 this, hy]
theorem callB2 {H H1 : Heap} {Zc Z' Y1 Y2 : Nat → Prop} (hE : Ext H H1) (hO : Old Zc H Z') (σ : Nat → Nat) (t1 t2 : Nat) (h1 : ∀ i, Y1 i → H.size ≤ i ∧ ¬ Z' i) (h2 : ∀ i, Y2 i → H.size ≤ i ∧ ¬ Z' i) (h12 : ∀ i, Y1 i → ¬ Y2 i) :
    ∃ σ1, Stp [] σ H σ1 H1 ∧ Fr Y1 H1 (Yt σ1 t1) H1 ∧ Fr Y2 H1 (Yt σ1 t2) H1 := by
  classical
  refine ⟨fun i => if i < H.size then σ i else if Y1 i then t1 else if Y2 i then t2 else 998, ⟨hE.size, fun i hi _ => ⟨by simp [hi], hE.get i hi⟩⟩, fun i hy _ => ⟨?_, rfl⟩, fun i hy _ => ⟨?_, rfl⟩⟩
  · have := (h1 i hy).1
    simp [Yt, Nat.not_lt.2 this, hy]
  · have := (h2 i hy).1
    have e1 : ¬ Y1 i := fun h => h12 i h hy
    simp [Yt, Nat.not_lt.2 this, hy, e1]
theorem Yt.apart {σ : Nat → Nat} {j k : Nat} (h : j ≠ k := by decide) : ∀ i, Yt σ j i → ¬ Yt σ k i := fun i a b => h ((show σ i = j from a).symm.trans b)
theorem SlO.nilapp {α : Type} {O : Mr α} {e : Nat} {Z Y : Nat → Prop} {H : Heap} {A : Option Addr} {c : Nat} {ys : List α} (h : SlO O e Z Y H A c ([] ++ ys)) : SlO O e Z Y H A c ys := h
theorem idx_lt {α : Type} {n : Nat} {i : Int} {xs : List α} (hn : n = xs.length) (h0 : 0 ≤ i) (h : i < (n : Int)) : i.toNat < xs.length := by omega
theorem set_back {α β : Type} {n a : Nat} {xs : List α} {ys : List β} (h1 : n = ys.length) (h2 : n = xs.length) (h3 : ys.length = a) : xs.length = a := by omega
/-! Rows of own rows -/
section
variable {α : Type} {O : Mr α} {E : Rl α} {e e2 j : Nat} {σ : Nat → Nat} {H H1 : Heap} {A : Option Addr} {c : Nat} {xs : List (List α)} {a : Addr}
theorem SlO.rowF {Y : Nat → Prop} {A' : Option Addr} {c' : Nat} {x : List α} (h : SlO O e (Zt σ) Y H A' c' x) (hY : ∀ b, Y b → σ b = j) : SlF O.rd (fun i => σ i = 0 ∨ σ i = j) H A' c' x :=
  h.read (fun _ h => .inl h) (fun b hb => .inr (hY b hb))
theorem SlO.row_ldu {xs : List (List Nat)} (h : SlO (slM (rdM u64L) e2) e (Zt σ) (Yt σ j) H A c xs) (ha : A = some a) {i : Int} (h0 : 0 ≤ i) {x : List Nat} (hx : xs[i.toNat]? = some x)
    {A' : Option Addr} {n' c' : Nat} (hh : CelF j σ H (a.add i.toNat) (.slice A' n' c')) {a' : Addr} (ha' : A' = some a') {l : Int} (l0 : 0 ≤ l) {y : Nat} (hy : x[l.toNat]? = some y) : CelF j σ H (a'.add l.toNat) (.int .u64 (y : Int)) := by
  obtain ⟨A2, c2, Yi, hc, hYi, hrow, _⟩ := h.row ha h0 hx
  have hc := hc.val
  rw [hh.val] at hc; cases hc
  obtain ⟨g, cs, Y2, hA, hg, _, _, _, hr0, hcs, _, _⟩ := hrow.lens l0 hy
  rw [ha'] at hA; cases hA
  cases hr0
  exact ⟨by rw [add_block]; exact (hYi g hg).1, by have := hcs 0 _ rfl; simpa [rdM, u64L] using this⟩
theorem SlO.row_lent {Z : Nat → Prop} (h : SlO (slM O e2) e (Zt σ) (Yt σ j) H A c xs) (ha : A = some a) {i : Int} (h0 : 0 ≤ i) {x : List α} (hx : xs[i.toNat]? = some x)
    {A' : Option Addr} {n' c' : Nat} (hh : CelF j σ H (a.add i.toNat) (.slice A' n' c')) (z1 : ∀ i, Zt σ i → Z i) (z2 : ∀ i, Yt σ j i → Z i) : SlF O.rd Z H A' c' x := by
  obtain ⟨A2, c2, Yi, hc, hYi, hrow, _⟩ := h.row ha h0 hx
  have hc := hc.val
  rw [hh.val] at hc; cases hc
  exact hrow.read z1 (fun b hb => z2 b (hYi b hb).1)
theorem SlO.litO {y : List α} {n : Nat} {cells : Array Value} (eq : H1 = H.push (.cells cells e (0, 0))) (hn : n = y.length) (h : SlO O e2 (Zt σ) (Yt σ j) H A c y) (hc : cells = #[.slice A n c] := by rfl) :
    ∃ σ1, Stp [] σ H σ1 H1 ∧ SlO (slM O e2) e (Zt σ1) (Yt σ1 j) H1 (some (Addr.mk H.size 0 none)) 1 [y] := by
  subst eq; subst hn; subst hc
  have st := Stp.push σ H (.cells #[.slice A y.length c] e (0, 0)) j
  refine ⟨_, st, Nat.le_refl _, by simp, .inr ⟨H.size, _, fun i b => i = 0 ∧ σ b = j ∧ b < H.size, rfl, nt_new (Nat.le_refl _), get_push_new H _, rfl, fun i b hb => ⟨by show nt σ H.size j b = j; rw [nt_old hb.2.2]; exact hb.2.1, by omega⟩, fun i l b hi hl => by rw [hi.1, hl.1], fun i x hx => ?_⟩⟩
  cases i with
  | zero =>
    cases hx
    refine ⟨[.slice A y.length c], ⟨A, c, rfl, h.keep (st.z (by simp)) (fun b hb hl => ⟨⟨rfl, hb, hl⟩, (Ext.push H _).get b hl⟩)⟩, fun q v hq => ?_⟩
    cases q with
    | zero => simpa using hq
    | succ q => simp at hq
  | succ i => simp at hx
theorem SlO.retag {j : Nat} {xs : List α} (h : SlO O e (Zt σ) (Yt σ j) H A c xs) (k : Nat) (hj : j ≠ 0 := by decide) (hk : k ≠ 0 := by decide) : ∃ σ1, Stp [j] σ H σ1 H ∧ SlO O e (Zt σ1) (Yt σ1 k) H A c xs :=
  ⟨rt σ j k, Stp.retag σ H j k, h.keep (fun b hb _ => ⟨by have hb' : σ b = 0 := hb; simp [Zt, rt, hb', Ne.symm hj], rfl⟩) (fun b hb _ => ⟨by have hb' : σ b = j := hb; simp [Yt, rt, hb'], rfl⟩)⟩
end
theorem repl_getE {m : Nat} {zs : List Value} {q : Nat} (hq : q < m * zs.length) : ∃ i j v, i < m ∧ zs[j]? = some v ∧ q = i * zs.length + j ∧ (repl m zs)[q]? = some v := by
  have hz : 0 < zs.length := by rcases Nat.eq_zero_or_pos zs.length with h | h; rw [h] at hq; omega; exact h
  have hm := Nat.mod_lt q hz
  have e := Nat.div_add_mod q zs.length
  refine ⟨q / zs.length, q % zs.length, zs[q % zs.length], (Nat.div_lt_iff_lt_mul hz).2 hq, List.getElem?_eq_getElem hm, by rw [Nat.mul_comm]; exact e.symm, ?_⟩
  have := repl_get m zs (q / zs.length) (q % zs.length) _ ((Nat.div_lt_iff_lt_mul hz).2 hq) (List.getElem?_eq_getElem hm)
  rw [show q / zs.length * zs.length + q % zs.length = q by rw [Nat.mul_comm]; exact e] at this
  exact this
section
variable {α : Type} {E : Rl α} {e j : Nat} {σ : Nat → Nat} {H : Heap} {A : Option Addr} {c : Nat} {xs : List α}
/-- append of so many zeros. -/
theorem SlO.appZ (h : SlO (rdM E) e (Zt σ) (Yt σ j) H A c xs) {x : α} {zs : List Value} (hzr : ∀ Z Y H, (rdM E).rep Z Y H x zs) {k bytes : Nat} (hk : E.sz = k) {l : Int}
    (hb : (xs.length + (List.replicate l.toNat x).length) * bytes ≤ 140737488355328) (hlen : xs.length + (List.replicate l.toNat x).length ≤ 17592186044416) {n : Nat} (hn : n = xs.length) {K : Option Addr → Nat → Nat → Heap → Prop}
    (kont : ∀ A' c' H' σ', Stp [j] σ H σ' H' → SlO (rdM E) e (Zt σ') (Yt σ' j) H' A' c' (xs ++ List.replicate l.toNat x) → K A' (xs ++ List.replicate l.toNat x).length c' H') (hj : j ≠ 0 := by decide) :
    AppendT e k bytes zs H A n c l.toNat (repl l.toNat zs) K := by
  subst hn
  have hlz : zs.length = k := by rw [← hk]; exact E.len (hzr (fun _ => True) (fun _ => True) H)
  have hall : (repl l.toNat zs).all isCell = true := by
    rw [List.all_eq_true]
    intro v hv
    have hf := E.flat (hzr (fun _ => True) (fun _ => True) H)
    rw [List.all_eq_true] at hf
    obtain ⟨q, hq⟩ := List.mem_iff_getElem?.1 hv
    have hql := (List.getElem?_eq_some_iff.1 hq).1
    rw [repl_len] at hql
    obtain ⟨i, j, v', _, hz, _, hr⟩ := repl_getE hql
    rw [hr] at hq; cases hq
    exact hf _ (List.mem_of_getElem? hz)
  have hlen2 : (List.replicate l.toNat x).length = l.toNat := List.length_replicate
  have := h.appT (O := rdM E) (ys := List.replicate l.toNat x) (Y := fun _ _ => False) (new := repl l.toNat zs) (K := K) hj hk (by rw [repl_len, hlz]; simp) hall (fun i y hy => by
    obtain ⟨hi, hy⟩ := List.getElem?_eq_some_iff.1 hy
    simp at hi hy
    subst hy
    exact ⟨zs, hzr _ _ _, fun j v hj => by rw [← hlz]; exact repl_get _ zs i j v (by omega) hj⟩) (fun _ _ h => h.elim) (fun _ _ _ h => h.elim) hlz hb hlen fun A' c' H' Y' h1 h2 h3 h4 h5 => by
    obtain ⟨σ1, st, hz1, hy1⟩ := growth (j := j) (js := fun x => x = j) (m := [j]) (fun b hb hl => by rcases h1 b hb hl with q | ⟨_, q⟩; exact q; exact q.elim) h2 h3 (fun x hx => by simpa using hx) (by simp) (by simpa using Ne.symm hj)
    exact kont A' c' H' σ1 st (h5.keep hz1 hy1)
  rw [hlen2] at this
  exact this
end
section
variable {j : Nat} {σ : Nat → Nat} {H H1 : Heap} {g t : Nat} {cs : List Value}
theorem BoxF.wroteN {vs : List Value} (h : BoxF j σ H g cs t) (i : Nat) (hi : i + vs.length ≤ cs.length) (e : H1 = setsH H ((Addr.mk g 0 none).add i) 0 vs) : Stp [j] σ H σ H1 ∧ BoxF j σ H1 g (cs.take i ++ vs ++ cs.drop (i + vs.length)) t := by
  subst e
  rw [add_mk]
  obtain ⟨cells', hb', hs', hget⟩ := setsH_blk vs H g i 0 _ t h.blk (by simpa using hi)
  refine ⟨⟨by rw [setsH_size]; exact Nat.le_refl _, fun b hb hn => ⟨rfl, setsH_get_ne _ _ _ _ _ (fun q : b = g => hn (by rw [q, h.tag]; simp))⟩⟩, ?_, h.tag⟩
  rw [hb']
  have : cells' = (cs.take i ++ vs ++ cs.drop (i + vs.length)).toArray := by
    apply Array.ext_getElem?
    intro q
    rw [hget q]
    simp only [Nat.add_zero, List.getElem?_toArray]
    rw [List.append_assoc]
    by_cases h1 : q < i
    · rw [if_neg (by omega), List.getElem?_append_left (by simp; omega), List.getElem?_take_of_lt h1]
    · rw [List.getElem?_append_right (by simp; omega)]
      have hl : (List.take i cs).length = i := by simp; omega
      rw [hl]
      by_cases h2 : q < i + vs.length
      · rw [if_pos (by omega), List.getElem?_append_left (by omega)]
      · rw [if_neg (by omega), List.getElem?_append_right (by omega), List.getElem?_drop]
        congr 1; omega
  rw [this]
theorem BoxF.mayN (h : BoxF j σ H g cs t) (i n : Nat) (hi : i + n ≤ cs.length) : MayWrite H ((Addr.mk g 0 none).add i) n := by
  rw [add_mk]; exact mayWrite_blk h.blk (by simpa using hi)
end
def copyL {α : Type} (d s : List α) : List α := s.take d.length ++ d.drop s.length
theorem copyL_len {α : Type} (d s : List α) : (copyL d s).length = d.length := by simp [copyL]; omega
section
variable {α : Type} {E : Rl α} {e j : Nat} {σ : Nat → Nat} {H H1 : Heap} {A : Option Addr} {c : Nat} {xs : List α}
/-- copy into own memory. -/
theorem SlO.copyF {ys : List α} (h : SlO (rdM E) e (Zt σ) (Yt σ j) H A c xs) {B : Option Addr} {cB : Nat} (hB : SlF E (Zt σ) H B cB ys) {k : Nat} (hk : E.sz = k) {n m : Nat} (hn : n = xs.length) (hm : m = ys.length) {K : Int → Heap → Prop}
    (kont : ∀ H' σ', Stp [j] σ H σ' H' → SlO (rdM E) e (Zt σ') (Yt σ' j) H' A c (copyL xs ys) → K ((min m n : Nat) : Int) H') (hj : j ≠ 0 := by decide) : CopyV k H A n B m K := by
  subst hn; subst hm
  obtain ⟨vs, hl, hr, hc, hv⟩ := hB.reads hk hB.none_nil
  have hcap := h.cap
  have hmin : min ys.length xs.length * k ≤ vs.length := by rw [hl]; exact Nat.mul_le_mul_right k (Nat.min_le_left _ _)
  have hnl : (vs.take (min ys.length xs.length * k)).length = min ys.length xs.length * k := by simp; omega
  refine ⟨vs.take (min ys.length xs.length * k), hnl, ?_, ?_, ?_⟩
  · cases B with
    | none => have hr' : vs = [] := hr; rw [hr']; exact List.take_nil
    | some b => intro q hq; rw [hnl] at hq; rw [List.getElem_take]; exact hr q (by omega)
  · rw [List.all_eq_true] at hc ⊢; exact fun v hv => hc v (List.mem_of_mem_take hv)
  rcases h.blk with ⟨rfl, rfl⟩ | ⟨g, cells, Ys, rfl, hg, hbk, hs, h1, h2, h3⟩
  · simp only
    have hxs : xs = [] := List.eq_nil_of_length_eq_zero (by omega)
    subst hxs
    exact kont H σ (Stp.refl _ _ _) (by have : copyL ([] : List α) ys = [] := by simp [copyL]
                                        rw [this]; exact SlO.nil _ _ _ _ _)
  · simp only
    have hs' : cells.size = c * k := by rw [hs]; show c * E.sz = _; rw [hk]
    have hle : min ys.length xs.length * k ≤ cells.size := by rw [hs']; exact Nat.mul_le_mul_right k (by omega)
    obtain ⟨cells', hb', hz', hget⟩ := setsH_blk (vs.take (min ys.length xs.length * k)) H g 0 0 cells e hbk (by rw [hnl]; omega)
    refine ⟨mayWrite_blk hbk (by rw [hnl]; omega), ?_⟩
    have hgj : σ g = j := hg
    have hne : ∀ b, b ≠ g → (setsH H (Addr.mk g 0 none) 0 (vs.take (min ys.length xs.length * k)))[b]? = H[b]? := fun b hb => setsH_get_ne _ _ _ _ _ hb
    have st : Stp [j] σ H σ (setsH H (Addr.mk g 0 none) 0 (vs.take (min ys.length xs.length * k))) := ⟨by rw [setsH_size]; exact Nat.le_refl _, fun b hb hn => ⟨rfl, hne b (fun q => hn (by rw [q, hgj]; simp))⟩⟩
    refine kont _ σ st ⟨by rw [copyL_len]; exact hcap, by rw [copyL_len]; exact h.lt, .inr ⟨g, cells', fun _ _ => False, rfl, hg, hb', by rw [hz', hs], fun _ _ h => h.elim, fun _ _ _ h => h.elim, fun i x hx => ?_⟩⟩
    have hz0 : 0 ∉ [j] := by simpa using Ne.symm hj
    have hrd : (rdM E).rd.sz = k := hk
    by_cases hi : i < min ys.length xs.length
    · have hx' : ys[i]? = some x := by
        unfold copyL at hx
        rw [List.getElem?_append_left (by simp; omega), List.getElem?_take_of_lt (by omega)] at hx
        exact hx
      obtain ⟨cs, hrp, hcs⟩ := hv i x hx'
      have hcl := E.len hrp
      refine ⟨cs, E.keep (st.z hz0) hrp, fun q v hq => ?_⟩
      have hql := (List.getElem?_eq_some_iff.1 hq).1
      have hb2 := Nat.mul_le_mul_right k (show i + 1 ≤ min ys.length xs.length by omega)
      rw [Nat.add_mul, Nat.one_mul] at hb2
      rw [hrd, hget, if_pos (by rw [hnl]; omega), List.getElem?_take_of_lt (by omega), ← hcs q v hq]; congr 1
    · have hx' : xs[i]? = some x := by
        unfold copyL at hx
        by_cases hle2 : xs.length ≤ ys.length
        · have := (List.getElem?_eq_some_iff.1 hx).1
          simp at this
          omega
        · rw [List.getElem?_append_right (by simp; omega), List.getElem?_drop] at hx
          rw [← hx]; congr 1; simp; omega
      obtain ⟨cs, hrp, hcs⟩ := h3 i x hx'
      have hcl := E.len hrp
      refine ⟨cs, E.keep (st.z hz0) hrp, fun q v hq => ?_⟩
      have hb2 := Nat.mul_le_mul_right k (show min ys.length xs.length ≤ i by omega)
      rw [hget, if_neg (by rw [hnl, hrd]; omega)]
      exact hcs q v hq
end
theorem BoxF.sl {α : Type} {E : Rl α} {σ : Nat → Nat} {H : Heap} {g t : Nat} {cs : List Value} {xs : List α} {l : List (List Value)} (h : BoxF 0 σ H g cs t) (hc : cs = l.flatten) (he : Each (E.rep (Zt σ) H) xs l) (hlen : xs.length ≤ 17592186044416) :
    SlF E (Zt σ) H (some (Addr.mk g 0 none)) xs.length xs := by
  have hl : ∀ cs ∈ l, cs.length = E.sz := he.all (fun x cs hr => E.len hr)
  refine ⟨Nat.le_refl _, hlen, fun i x hx => ?_⟩
  obtain ⟨cs', hcs, hr⟩ := he.get i x hx
  refine ⟨_, cs', rfl, hr, fun j v hj => ⟨h.tag, h.cell _ ?_⟩⟩
  rw [hc]; exact flat_get l hl i j cs' v hcs hj
theorem Each.get1 {α : Type} {R : α → List Value → Prop} : ∀ {xs : List α} {vs : List Value}, Each R xs (vs.map fun v => [v]) → ∀ {i : Nat} {x : α}, xs[i]? = some x → ∃ v, vs[i]? = some v ∧ R x [v]
  | _, [], h, i, x, hx => by cases h; simp at hx
  | _, v :: vs, h, i, x, hx => by
    cases h with
    | cons hr h =>
      cases i with
      | zero => simp at hx; subst hx; exact ⟨v, rfl, hr⟩
      | succ i => exact Each.get1 h (by simpa using hx)
theorem BoxF.freeze {j : Nat} {σ : Nat → Nat} {H : Heap} {g t : Nat} {cs : List Value} (h : BoxF j σ H g cs t) : ∃ σ', Stp [j] σ H σ' H ∧ BoxF 0 σ' H g cs t :=
  ⟨rt σ j 0, Stp.retag σ H j 0, h.blk, by simp [rt, h.tag]⟩
end Go.Lf
