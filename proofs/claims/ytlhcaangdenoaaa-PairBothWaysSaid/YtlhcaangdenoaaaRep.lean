import Derived.Test.YtlhcaangdenoaaaSxFn
import Derived.Laws.Bits64
set_option linter.unusedVariables false
namespace Go.Sx

/-! ### Small words -/
theorem ct {c : Bool} {A B : Prop} (h : c = true) (a : A) : cond c A B := by rw [h]; exact a
theorem cf {c : Bool} {A B : Prop} (h : c = false) (b : B) : cond c A B := by rw [h]; exact b
theorem ctd {p : Prop} [Decidable p] {A B : Prop} (h : p) (a : A) : cond (decide p) A B := ct (decide_eq_true h) a
theorem cfd {p : Prop} [Decidable p] {A B : Prop} (h : ¬ p) (b : B) : cond (decide p) A B := cf (decide_eq_false h) b
theorem wu64 {x : Int} (h0 : 0 ≤ x) (h1 : x < 18446744073709551616) : IntKind.u64.wrap x = x := by rw [IntKind.wrap_u64]; omega
theorem wi64 {x : Int} (h0 : -9223372036854775808 ≤ x) (h1 : x < 9223372036854775808) : IntKind.i64.wrap x = x := by rw [IntKind.wrap_i64]; omega
theorem wsucc {k : Nat} (h : k < 9223372036854775807) : IntKind.i64.wrap ((k : Int) + 1) = ((k + 1 : Nat) : Int) := by rw [wi64 (by omega) (by omega)]; omega
theorem tmod_nat (a b : Nat) : Int.tmod (a : Int) (b : Int) = ((a % b : Nat) : Int) := rfl
theorem beq_t {a b : Int} (h : a = b) : (a == b) = true := by simp [h]
theorem beq_f {a b : Int} (h : a ≠ b) : (a == b) = false := by simp [h]
theorem bne_t {a b : Int} (h : a ≠ b) : (a != b) = true := by simp [h]
theorem bne_f {a b : Int} (h : a = b) : (a != b) = false := by simp [h]

/-! ### Loops over a counter -/
theorem LoopI.range {step : Int → (Nat → Value) → Heap → (Int → Heap → Prop) → Prop} {H0 : Heap} (N : Nat) (Inv : Nat → Heap → Prop) (h0 : Inv 0 H0)
    (hs : ∀ (k : Nat) (H : Heap) (z : Nat → Value) (next : Int → Heap → Prop), k ≤ N → Inv k H → (k < N → ∀ H', Inv (k + 1) H' → next ((k + 1 : Nat) : Int) H') → step (k : Int) z H next) :
    LoopI (σ := Int) (fun κ => κ 0 H0) step := by
  refine ⟨fun n s H => ∃ k : Nat, s = k ∧ k ≤ N ∧ n = N - k ∧ Inv k H, ⟨N, 0, rfl, Nat.zero_le _, rfl, h0⟩, ?_⟩
  rintro n s z H ⟨k, rfl, hk, rfl, hI⟩
  exact hs k H z _ hk hI fun hlt H' hI' => ⟨N - (k + 1), by omega, k + 1, rfl, by omega, rfl, hI'⟩
/-- With more state beside the counter; the counter may lie anywhere in it. -/
theorem LoopI.upto {σ : Type} {init : (σ → Heap → Prop) → Prop} {step : σ → (Nat → Value) → Heap → (σ → Heap → Prop) → Prop} (N : Nat) (Inv : Nat → σ → Heap → Prop) (h0 : init (Inv 0))
    (hm : ∀ {κ κ' : σ → Heap → Prop}, (∀ s H, κ s H → κ' s H) → init κ → init κ')
    (hs : ∀ (k : Nat) (s : σ) (H : Heap) (z : Nat → Value) (next : σ → Heap → Prop), k ≤ N → Inv k s H → (k < N → ∀ s' H', Inv (k + 1) s' H' → next s' H') → step s z H next) : LoopI init step := by
  refine ⟨fun n s H => ∃ k : Nat, k ≤ N ∧ n = N - k ∧ Inv k s H, ⟨N, hm (fun s H h => ⟨0, Nat.zero_le _, rfl, h⟩) h0⟩, ?_⟩
  rintro n s z H ⟨k, hk, rfl, hI⟩
  exact hs k s H z _ hk hI fun hlt s' H' hI' => ⟨N - (k + 1), by omega, k + 1, by omega, rfl, hI'⟩
/-- A measure that each round lowers. -/
theorem LoopI.down {σ : Type} {init : (σ → Heap → Prop) → Prop} {step : σ → (Nat → Value) → Heap → (σ → Heap → Prop) → Prop} (Inv : σ → Heap → Prop) (μ : σ → Nat)
    (h0 : ∃ n, init fun s H => n = μ s ∧ Inv s H)
    (hs : ∀ (s : σ) (H : Heap) (z : Nat → Value) (next : σ → Heap → Prop), Inv s H → (∀ s' H', μ s' < μ s → Inv s' H' → next s' H') → step s z H next) : LoopI init step := by
  refine ⟨fun n s H => n = μ s ∧ Inv s H, h0, ?_⟩
  rintro n s z H ⟨rfl, hI⟩
  exact hs s H z _ hI fun s' H' hlt hI' => ⟨μ s', hlt, rfl, hI'⟩

/-! ### Heaps -/
structure Ext (H H' : Heap) : Prop where
  size : H.size ≤ H'.size
  get : ∀ i, i < H.size → H'[i]? = H[i]?
theorem Ext.refl (H : Heap) : Ext H H := ⟨Nat.le_refl _, fun _ _ => rfl⟩
theorem Ext.trans {a b c : Heap} (h : Ext a b) (k : Ext b c) : Ext a c :=
  ⟨Nat.le_trans h.size k.size, fun i hi => (k.get i (Nat.lt_of_lt_of_le hi h.size)).trans (h.get i hi)⟩
theorem Ext.push (H : Heap) (o : Obj) : Ext H (H.push o) := ⟨by simp, fun i hi => by rw [Array.getElem?_push_lt hi]; simp [hi]⟩
theorem get_push_new (H : Heap) (o : Obj) : (H.push o)[H.size]? = some o := by simp
theorem lt_of_get {H : Heap} {g : Nat} {o : Obj} (h : H[g]? = some o) : g < H.size := (Array.getElem?_eq_some_iff.1 h).1
theorem lt_of_cell {H : Heap} {a : Addr} {v : Value} (h : cellH H a = some v) : a.block < H.size := by
  unfold cellH at h
  split at h
  · rename_i hb; exact lt_of_get hb
  · cases h
theorem cell_of_get {H H' : Heap} {a : Addr} (h : H'[a.block]? = H[a.block]?) : cellH H' a = cellH H a := by unfold cellH; rw [h]
theorem add_block (a : Addr) (i : Nat) : (a.add i).block = a.block := by unfold Addr.add; split <;> rfl
theorem add_mk (g i : Nat) : (Addr.mk g 0 none).add i = ⟨g, i, none⟩ := by unfold Addr.add; split <;> simp_all
theorem add_zero (a : Addr) : a.add 0 = a := rfl
theorem cell_blk {H : Heap} {g : Nat} {cs : Array Value} {t : Nat} (h : H[g]? = some (.cells cs t (0, 0))) (i : Nat) : cellH H ⟨g, i, none⟩ = cs[i]? := by simp [cellH, h]
theorem Ext.cell {H H' : Heap} (h : Ext H H') {a : Addr} {v : Value} (hc : cellH H a = some v) : cellH H' a = some v := (cell_of_get (h.get _ (lt_of_cell hc))).trans hc
theorem mayWrite_blk {H : Heap} {g n i : Nat} {cs : Array Value} {t : Nat} (h : H[g]? = some (.cells cs t (0, 0))) (hi : i + n ≤ cs.size) : MayWrite H ⟨g, i, none⟩ n := ⟨cs, t, h, rfl, hi⟩

/-- What lies in blocks of S is as it was. -/
def On (S : Nat → Prop) (H H' : Heap) : Prop := ∀ i, S i → i < H.size → H'[i]? = H[i]?
theorem Ext.on {H H' : Heap} (h : Ext H H') (S : Nat → Prop) : On S H H' := fun i _ hi => h.get i hi
def All : Nat → Prop := fun _ => True
def Since (H : Heap) : Nat → Prop := fun i => H.size ≤ i
def No (S : Nat → Prop) (g : Nat) : Nat → Prop := fun i => S i ∧ i ≠ g
/-- Everything but the block g is as it was. -/
structure But (g : Option Nat) (H H' : Heap) : Prop where
  size : H.size ≤ H'.size
  get : ∀ i, i < H.size → g ≠ some i → H'[i]? = H[i]?
theorem But.refl (g : Option Nat) (H : Heap) : But g H H := ⟨Nat.le_refl _, fun _ _ _ => rfl⟩
theorem But.trans {g : Option Nat} {a b c : Heap} (h : But g a b) (k : But g b c) : But g a c :=
  ⟨Nat.le_trans h.size k.size, fun i hi hg => (k.get i (Nat.lt_of_lt_of_le hi h.size) hg).trans (h.get i hi hg)⟩
theorem Ext.but {H H' : Heap} (h : Ext H H') (g : Option Nat) : But g H H' := ⟨h.size, fun i hi _ => h.get i hi⟩
theorem But.setH (H : Heap) (a : Addr) (v : Value) : But (some a.block) H (Go.Sx.setH H a v) := ⟨by rw [setH_size]; exact Nat.le_refl _, fun i _ hg => setH_get_ne H a v i (fun e => hg (by rw [e]))⟩
theorem But.ext {g : Option Nat} {H0 H H' : Heap} (h : But g H H') (h0 : Ext H0 H) (hg : ∀ i, g = some i → H0.size ≤ i) : Ext H0 H' :=
  ⟨Nat.le_trans h0.size h.size, fun i hi => (h.get i (Nat.lt_of_lt_of_le hi h0.size) (fun e => by have := hg i e; omega)).trans (h0.get i hi)⟩
theorem But.on {g : Option Nat} {H H' : Heap} (h : But g H H') {S : Nat → Prop} (hg : ∀ i, g = some i → ¬ S i) : On S H H' :=
  fun i hb hi => h.get i hi (fun e => hg i e hb)

/-! ### What values stand for -/
abbrev Rel (α : Type) := (Nat → Prop) → Heap → α → Value → Prop
structure Good {α : Type} (E : Rel α) : Prop where
  keep : ∀ {S H H' x v}, On S H H' → E S H x v → E S H' x v
  wider : ∀ {S S' : Nat → Prop} {H x v}, (∀ i, S i → S' i) → E S H x v → E S' H x v
  cell : ∀ {S H x v}, E S H x v → isCell v = true
/-- A slice that is read: its cells lie in blocks of S. -/
structure Sl {α : Type} (E : Rel α) (S : Nat → Prop) (H : Heap) (A : Option Addr) (n c : Nat) (xs : List α) : Prop where
  len : n = xs.length
  cap : n ≤ c
  lt : n ≤ 17592186044416
  get : ∀ (i : Nat) (x : α), xs[i]? = some x → ∃ a v, A = some a ∧ S a.block ∧ cellH H (a.add i) = some v ∧ E S H x v
def slR {α : Type} (E : Rel α) : Rel (List α) := fun S H xs v => ∃ A n c, v = .slice A n c ∧ Sl E S H A n c xs
section
variable {α : Type} {E : Rel α} {S S' : Nat → Prop} {H H' : Heap} {A : Option Addr} {n c e : Nat} {xs : List α}
theorem Sl.keep (g : Good E) (hf : On S H H') (h : Sl E S H A n c xs) : Sl E S H' A n c xs :=
  ⟨h.len, h.cap, h.lt, fun i x hx => by
    obtain ⟨a, v, ha, hb, hc, he⟩ := h.get i x hx
    have hlt := lt_of_cell hc
    rw [add_block] at hlt
    exact ⟨a, v, ha, hb, (cell_of_get (by rw [add_block]; exact hf _ hb hlt)).trans hc, g.keep hf he⟩⟩
theorem Sl.wider (g : Good E) (hb : ∀ i, S i → S' i) (h : Sl E S H A n c xs) : Sl E S' H A n c xs :=
  ⟨h.len, h.cap, h.lt, fun i x hx => by
    obtain ⟨a, v, ha, hb1, hc, he⟩ := h.get i x hx
    exact ⟨a, v, ha, hb _ hb1, hc, g.wider hb he⟩⟩
theorem Sl.all (g : Good E) (h : Sl E S H A n c xs) : Sl E All H A n c xs := h.wider g fun _ _ => trivial
theorem Sl.ext (g : Good E) (he : Ext H H') (h : Sl E S H A n c xs) : Sl E S H' A n c xs := h.keep g (he.on S)
theorem slR_good (g : Good E) : Good (slR E) where
  keep := fun hf ⟨A, n, c, e, h⟩ => ⟨A, n, c, e, h.keep g hf⟩
  wider := fun hb ⟨A, n, c, e, h⟩ => ⟨A, n, c, e, h.wider g hb⟩
  cell := fun ⟨A, n, c, e, _⟩ => by rw [e]; rfl
end
def u64R : Rel Nat := fun _ _ x v => v = .int .u64 (x : Int)
def intR : Rel Int := fun _ _ x v => v = .int .i64 x
def boolR : Rel Bool := fun _ _ x v => v = .bool x
theorem u64_good : Good u64R := ⟨fun _ h => h, fun _ h => h, fun h => by rw [h]; rfl⟩
theorem int_good : Good intR := ⟨fun _ h => h, fun _ h => h, fun h => by rw [h]; rfl⟩
theorem bool_good : Good boolR := ⟨fun _ h => h, fun _ h => h, fun h => by rw [h]; rfl⟩
section
variable {α : Type} {E : Rel α} {S S' : Nat → Prop} {H H' : Heap} {A : Option Addr} {n c e : Nat} {xs : List α}
theorem Sl.nil (E : Rel α) (S : Nat → Prop) (H : Heap) (A : Option Addr) (c : Nat) : Sl E S H A 0 c [] := ⟨rfl, Nat.zero_le _, by omega, fun i x h => by simp at h⟩
theorem Sl.u64 {xs : List Nat} (h : Sl u64R S H A n c xs) {i : Nat} (hi : i < n) : ∃ a, A = some a ∧ ∃ x, xs[i]? = some x ∧ cellH H (a.add i) = some (.int .u64 (x : Int)) := by
  obtain ⟨x, hx⟩ : ∃ x, xs[i]? = some x := ⟨_, List.getElem?_eq_getElem (by rw [← h.len]; exact hi)⟩
  obtain ⟨a, v, ha, hb, hc, he⟩ := h.get i x hx
  exact ⟨a, ha, x, hx, by rw [hc, he]⟩
theorem Sl.el (h : Sl E S H A n c xs) {i : Nat} (hi : i < n) : ∃ a x v, A = some a ∧ xs[i]? = some x ∧ cellH H (a.add i) = some v ∧ E S H x v := by
  obtain ⟨x, hx⟩ : ∃ x, xs[i]? = some x := ⟨_, List.getElem?_eq_getElem (by rw [← h.len]; exact hi)⟩
  obtain ⟨a, v, ha, hb, hc, he⟩ := h.get i x hx
  exact ⟨a, x, v, ha, hx, hc, he⟩
/-- The cells of a slice of one-cell elements, as a list. -/
theorem Sl.reads (g : Good E) (h : Sl E S H A n c xs) :
    ∃ vs : List Value, vs.length = n ∧ ReadsC H A vs ∧ vs.all isCell = true ∧ ∀ (i : Nat) (x : α), xs[i]? = some x → ∃ v, vs[i]? = some v ∧ E S H x v := by
  cases A with
  | none =>
    have hx : xs = [] := by
      cases xs with
      | nil => rfl
      | cons x l => obtain ⟨a, v, ha, _⟩ := h.get 0 x rfl; cases ha
    subst hx
    exact ⟨[], by rw [h.len]; rfl, rfl, rfl, fun i x hx => by simp at hx⟩
  | some a =>
    refine ⟨(List.range n).map fun i => (cellH H (a.add i)).getD undef, by simp, ?_, ?_, ?_⟩
    · intro j hj
      simp at hj
      obtain ⟨a', x, v, ha, hx, hc, he⟩ := h.el hj
      cases ha
      simp [hc]
    · rw [List.all_eq_true]
      intro v hv
      obtain ⟨j, hj, rfl⟩ := List.mem_map.1 hv
      obtain ⟨a', x, v, ha, hx, hc, he⟩ := h.el (List.mem_range.1 hj)
      cases ha
      rw [hc]; exact g.cell he
    · intro i x hx
      obtain ⟨a', v, ha, hb, hc, he⟩ := h.get i x hx
      cases ha
      have hi : i < n := by rw [h.len]; exact (List.getElem?_eq_some_iff.1 hx).1
      exact ⟨v, by simp [hi, hc], he⟩

/-- A slice of the call's own, of one-cell elements: it may be written. Its block is none that the elements lean on. -/
structure Owns (E : Rel α) (e : Nat) (S : Nat → Prop) (H : Heap) (A : Option Addr) (n c : Nat) (xs : List α) : Prop where
  len : n = xs.length
  cap : n ≤ c
  lt : n ≤ 17592186044416
  blk : (A = none ∧ c = 0) ∨ ∃ g cs, A = some ⟨g, 0, none⟩ ∧ S g ∧ H[g]? = some (.cells cs e (0, 0)) ∧ cs.size = c ∧ ∀ (i : Nat) (x : α), xs[i]? = some x → ∃ v, cs[i]? = some v ∧ E (No S g) H x v
theorem Owns.sl (g : Good E) (h : Owns E e S H A n c xs) : Sl E S H A n c xs :=
  ⟨h.len, h.cap, h.lt, fun i x hx => by
    rcases h.blk with ⟨hA, hc⟩ | ⟨i', cs, hA, hb, hg, hs, hv⟩
    · have hcap := h.cap
      have hlen := h.len
      have := (List.getElem?_eq_some_iff.1 hx).1
      omega
    · obtain ⟨v, hv1, hv2⟩ := hv i x hx
      exact ⟨_, v, hA, hb, by rw [add_mk, cell_blk hg]; exact hv1, g.wider (fun _ h => h.1) hv2⟩⟩
theorem Owns.nil (E : Rel α) (e : Nat) (S : Nat → Prop) (H : Heap) : Owns E e S H none 0 0 [] := ⟨rfl, Nat.le_refl _, by omega, .inl ⟨rfl, rfl⟩⟩
theorem Owns.keep (g : Good E) (hf : On S H H') (h : Owns E e S H A n c xs) : Owns E e S H' A n c xs :=
  ⟨h.len, h.cap, h.lt, h.blk.imp id fun ⟨i, cs, hA, hb, hg, hs, hv⟩ => ⟨i, cs, hA, hb, (hf i hb (lt_of_get hg)).trans hg, hs, fun j x hx => by
    obtain ⟨v, h1, h2⟩ := hv j x hx; exact ⟨v, h1, g.keep (fun k hk hl => hf k hk.1 hl) h2⟩⟩⟩
theorem Owns.ext (g : Good E) (he : Ext H H') (h : Owns E e S H A n c xs) : Owns E e S H' A n c xs := h.keep g (he.on S)
theorem Owns.wider (g : Good E) (hb : ∀ i, S i → S' i) (h : Owns E e S H A n c xs) : Owns E e S' H A n c xs :=
  ⟨h.len, h.cap, h.lt, h.blk.imp id fun ⟨i, cs, hA, hb1, hg, hs, hv⟩ => ⟨i, cs, hA, hb _ hb1, hg, hs, fun j x hx => by
    obtain ⟨v, h1, h2⟩ := hv j x hx; exact ⟨v, h1, g.wider (fun k hk => ⟨hb _ hk.1, hk.2⟩) h2⟩⟩⟩
def blkOf (A : Option Addr) : Option Nat := A.map (·.block)

/-! ### make, store, append -/
theorem repl_one (m : Nat) (z : Value) : repl m [z] = List.replicate m z := by
  induction m with
  | zero => rfl
  | succ m ih => rw [repl_succ, ih, List.replicate_succ]; rfl
theorem Owns.made (g : Good E) {x : α} {z : Value} {m : Nat} (hz : ∀ S H, E S H x z) (hm : m ≤ 17592186044416) (hS : S H.size) :
    Owns E e S (H.push (.cells (repl m [z]).toArray e (0, 0))) (some (Addr.mk H.size 0 none)) m m (List.replicate m x) :=
  ⟨by simp, Nat.le_refl _, hm, .inr ⟨H.size, _, rfl, hS, get_push_new H _, by simp [repl_one], fun i y hy => by
    obtain ⟨hi, hy⟩ := List.getElem?_eq_some_iff.1 hy
    simp at hi hy
    subst hy
    exact ⟨z, by simp [repl_one, hi], hz _ _⟩⟩⟩
theorem setsH_size : ∀ (vs : List Value) (H : Heap) (a : Addr) (i : Nat), (setsH H a i vs).size = H.size
  | [], _, _, _ => rfl
  | v :: vs, H, a, i => by rw [setsH, setsH_size vs, setH_size]
theorem setsH_get_ne : ∀ (vs : List Value) (H : Heap) (a : Addr) (i b : Nat), b ≠ a.block → (setsH H a i vs)[b]? = H[b]?
  | [], _, _, _, _, _ => rfl
  | v :: vs, H, a, i, b, h => by rw [setsH, setsH_get_ne vs _ a _ b h, setH_get_ne _ _ _ _ (by rw [add_block]; exact h)]
theorem setsH_blk : ∀ (vs : List Value) (H : Heap) (g o i : Nat) (cs : Array Value) (t : Nat), H[g]? = some (.cells cs t (0, 0)) → o + i + vs.length ≤ cs.size →
    ∃ cs' : Array Value, (setsH H ⟨g, o, none⟩ i vs)[g]? = some (.cells cs' t (0, 0)) ∧ cs'.size = cs.size ∧ ∀ j, cs'[j]? = if o + i ≤ j ∧ j < o + i + vs.length then vs[j - (o + i)]? else cs[j]?
  | [], H, g, o, i, cs, t, h, hl => ⟨cs, h, rfl, fun j => by rw [if_neg]; simp⟩
  | v :: vs, H, g, o, i, cs, t, h, hl => by
    simp only [List.length_cons] at hl
    have ha : (Addr.mk g o none).add i = ⟨g, o + i, none⟩ := by unfold Addr.add; split <;> simp_all
    have h1 : (setH H ((Addr.mk g o none).add i) v)[g]? = some (.cells (cs.setIfInBounds (o + i) v) t (0, 0)) := by rw [ha]; exact setH_get_eq h v
    obtain ⟨cs', hb, hs, hget⟩ := setsH_blk vs _ g o (i + 1) _ t h1 (by simp; omega)
    refine ⟨cs', hb, by rw [hs]; simp, fun j => ?_⟩
    rw [hget j, Array.getElem?_setIfInBounds]
    simp only [List.length_cons]
    by_cases hj : j = o + i
    · subst hj
      rw [if_neg (by omega), if_pos rfl, if_pos (by omega), if_pos (by omega)]
      simp
    · by_cases hj2 : o + (i + 1) ≤ j ∧ j < o + (i + 1) + vs.length
      · rw [if_pos hj2, if_pos (by omega), show j - (o + i) = (j - (o + (i + 1))) + 1 from by omega]
        simp
      · rw [if_neg hj2, if_neg (by omega), if_neg (by omega)]

/-- What an append to an own slice may turn: its own block, and new ones. -/
structure Grew (A : Option Addr) (A' : Option Addr) (H H' : Heap) : Prop where
  but : But (blkOf A) H H'
  at_ : blkOf A' = blkOf A ∨ ∃ g, blkOf A' = some g ∧ H.size ≤ g ∧ g < H'.size
theorem Owns.appendT (g : Good E) (h : Owns E e S H A n c xs) {m bytes : Nat} {z : Value} {vs : List Value} {ys : List α} (hl : vs.length = m) (hy : m = ys.length) (hc : vs.all isCell = true)
    (hv : ∀ (i : Nat) (y : α), ys[i]? = some y → ∃ v, vs[i]? = some v ∧ ∀ H' A', Grew A A' H H' → ∀ g', blkOf A' = some g' → E (No S g') H' y v)
    (hx : ∀ (H' : Heap) (A' : Option Addr) (g' : Nat) (x : α) (v : Value), Grew A A' H H' → blkOf A' = some g' → (∃ g0, blkOf A = some g0 ∧ E (No S g0) H x v) → E (No S g') H' x v)
    (hS : ∀ i, H.size ≤ i → S i) (hb : (n + m) * bytes ≤ 140737488355328) (hn : n + m ≤ 17592186044416) {K : Option Addr → Nat → Nat → Heap → Prop}
    (k : ∀ A' c' H', Owns E e S H' A' (n + m) c' (xs ++ ys) → Grew A A' H H' → K A' (n + m) c' H') : AppendT e 1 bytes [z] H A n c m vs K := by
  have hlen := h.len
  have hcap := h.cap
  refine ⟨hc, fun hroom => ?_, fun hno => ⟨?_, by omega, ?_⟩⟩
  · rcases h.blk with ⟨rfl, rfl⟩ | ⟨i, cs, rfl, hSi, hg, hs, hvx⟩
    · simp only
      have hm : m = 0 := by omega
      have hys : ys = [] := List.eq_nil_of_length_eq_zero (by omega)
      subst hys
      refine k none 0 H ?_ ⟨But.refl _ _, .inl rfl⟩
      have hxs : xs = [] := List.eq_nil_of_length_eq_zero (by omega)
      subst hxs
      exact ⟨by simp; omega, by omega, by omega, .inl ⟨rfl, rfl⟩⟩
    · simp only
      have ha : (Addr.mk i 0 none).add (n * 1) = ⟨i, n, none⟩ := by rw [Nat.mul_one]; exact add_mk i n
      rw [ha]
      refine ⟨mayWrite_blk hg (by omega), k _ _ _ ?_ ?_⟩
      · obtain ⟨cs', hb', hs', hget⟩ := setsH_blk vs H i n 0 cs e hg (by omega)
        have hgrew : Grew (some (Addr.mk i 0 none)) (some (Addr.mk i 0 none)) H (setsH H ⟨i, n, none⟩ 0 vs) :=
          ⟨⟨by rw [setsH_size]; exact Nat.le_refl _, fun j _ hj => setsH_get_ne _ _ _ _ _ (fun e => hj (by rw [e]; rfl))⟩, .inl rfl⟩
        refine ⟨by simp; omega, hroom, hn, .inr ⟨i, cs', rfl, hSi, hb', by omega, fun j w hw => ?_⟩⟩
        by_cases hj : j < xs.length
        · rw [List.getElem?_append_left hj] at hw
          obtain ⟨v, h1, h2⟩ := hvx j w hw
          exact ⟨v, by rw [hget j, if_neg (by omega)]; exact h1, hx _ _ _ _ _ hgrew rfl ⟨i, rfl, h2⟩⟩
        · rw [List.getElem?_append_right (by omega)] at hw
          obtain ⟨v, h1, h2⟩ := hv _ w hw
          have := (List.getElem?_eq_some_iff.1 h1).1
          exact ⟨v, by rw [hget j, if_pos (by omega), ← h1]; congr 1; omega, h2 _ _ hgrew _ rfl⟩
      · exact ⟨⟨by rw [setsH_size]; exact Nat.le_refl _, fun j _ hj => setsH_get_ne _ _ _ _ _ (fun e => hj (by rw [e]; rfl))⟩, .inl rfl⟩
  · exact growslice_fits hno hb
  · obtain ⟨old, hol, hor, hoc, hov⟩ : ∃ old : List Value, old.length = n * 1 ∧ ReadsC H A old ∧ old.all isCell = true ∧ ∀ (i : Nat) (x : α), xs[i]? = some x → ∃ v, old[i]? = some v ∧ ∃ g0, blkOf A = some g0 ∧ E (No S g0) H x v := by
      rcases h.blk with ⟨rfl, rfl⟩ | ⟨i, cs, rfl, hSi, hg, hs, hvx⟩
      · have hxs : xs = [] := List.eq_nil_of_length_eq_zero (by omega)
        subst hxs
        exact ⟨[], by simp; omega, rfl, rfl, fun i x hx => by simp at hx⟩
      · refine ⟨cs.toList.take n, by simp; omega, fun j hj => ?_, ?_, fun j x hx => ?_⟩
        · simp at hj
          have hj2 : j < cs.size := by omega
          rw [add_mk, cell_blk hg]
          simp [List.getElem_take, hj2]
        · rw [List.all_eq_true]
          intro v hv'
          obtain ⟨j, hj⟩ := List.mem_iff_getElem?.1 hv'
          have hjn : j < n := by have := (List.getElem?_eq_some_iff.1 hj).1; simp at this; omega
          obtain ⟨x, hx'⟩ : ∃ x, xs[j]? = some x := ⟨_, List.getElem?_eq_getElem (by omega)⟩
          obtain ⟨v', h1, h2⟩ := hvx j x hx'
          rw [List.getElem?_take_of_lt hjn, Array.getElem?_toList, h1] at hj
          cases hj
          exact g.cell h2
        · have hjn : j < n := by have := (List.getElem?_eq_some_iff.1 hx).1; omega
          obtain ⟨v, h1, h2⟩ := hvx j x hx
          exact ⟨v, by rw [List.getElem?_take_of_lt hjn, Array.getElem?_toList, h1], i, rfl, h2⟩
    refine ⟨old, hol, hor, fun c' hc' => ?_⟩
    have hgrew : Grew A (some (Addr.mk H.size 0 none)) H (H.push (.cells (old ++ vs ++ repl (c' - (n + m)) [z]).toArray e (0, 0))) :=
      ⟨⟨by simp, fun j hj _ => (Ext.push H _).get j hj⟩, .inr ⟨H.size, rfl, Nat.le_refl _, by simp⟩⟩
    refine k _ _ _ ⟨by simp; omega, hc', hn, .inr ⟨H.size, _, rfl, hS _ (Nat.le_refl _), get_push_new H _, by simp [repl_one]; omega, fun j w hw => ?_⟩⟩ hgrew
    by_cases hj : j < xs.length
    · rw [List.getElem?_append_left hj] at hw
      obtain ⟨v, h1, h2⟩ := hov j w hw
      have hjo := (List.getElem?_eq_some_iff.1 h1).1
      refine ⟨v, ?_, hx _ _ _ _ _ hgrew rfl h2⟩
      rw [List.getElem?_toArray, List.append_assoc, List.getElem?_append_left hjo]; exact h1
    · rw [List.getElem?_append_right (by omega)] at hw
      obtain ⟨v, h1, h2⟩ := hv _ w hw
      have hjv := (List.getElem?_eq_some_iff.1 h1).1
      refine ⟨v, ?_, h2 _ _ hgrew _ rfl⟩
      rw [List.getElem?_toArray, List.append_assoc, List.getElem?_append_right (by omega), List.getElem?_append_left (by omega), ← h1]
      congr 1
      omega

/-- What a value stands for hangs on no memory. -/
structure Flat (E : Rel α) : Prop where
  get : ∀ {S S' : Nat → Prop} {H H' : Heap} {x : α} {v : Value}, E S H x v → E S' H' x v
theorem Owns.append (fl : Flat E) (g : Good E) (h : Owns E e S H A n c xs) {m bytes c2 : Nat} {B : Option Addr} {z : Value} {ys : List α} (hy : Sl E S' H B m c2 ys)
    (hS : ∀ i, H.size ≤ i → S i) (hb : (n + m) * bytes ≤ 140737488355328) (hn : n + m ≤ 17592186044416) {K : Option Addr → Nat → Nat → Heap → Prop}
    (k : ∀ A' c' H', Owns E e S H' A' (n + m) c' (xs ++ ys) → Grew A A' H H' → K A' (n + m) c' H') : AppendV e 1 bytes [z] H A n c B m K := by
  obtain ⟨vs, hl, hr, hc, hv⟩ := hy.reads g
  refine ⟨vs, by omega, hr, h.appendT g hl hy.len hc (fun i y hi => ?_) (fun H' A' g' x v _ _ ⟨g0, _, hx⟩ => fl.get hx) hS hb hn k⟩
  obtain ⟨v, h1, h2⟩ := hv i y hi
  exact ⟨v, h1, fun _ _ _ _ _ => fl.get h2⟩
theorem Owns.set (fl : Flat E) (h : Owns E e S H A n c xs) {i : Nat} (hi : i < n) {x : α} {v : Value} (hv : E All H x v) :
    ∃ a, A = some a ∧ MayWrite H (a.add i) 1 ∧ Owns E e S (setH H (a.add i) v) A n c (xs.set i x) ∧ But (blkOf A) H (setH H (a.add i) v) := by
  have hcap := h.cap
  rcases h.blk with ⟨rfl, rfl⟩ | ⟨i', cs, rfl, hSi, hg, hs, hvx⟩
  · omega
  · refine ⟨_, rfl, ?_, ⟨by simp; exact h.len, h.cap, h.lt, .inr ⟨i', cs.setIfInBounds i v, rfl, hSi, ?_, by simp; exact hs, fun j y hy => ?_⟩⟩, ?_⟩
    · rw [add_mk]; exact mayWrite_blk hg (by omega)
    · rw [add_mk]; exact setH_get_eq hg v
    · rw [List.getElem?_set] at hy
      rw [Array.getElem?_setIfInBounds]
      by_cases hj : i = j
      · subst hj
        rw [if_pos rfl, if_pos (by rw [← h.len]; exact hi)] at hy
        cases hy
        exact ⟨v, by rw [if_pos rfl, if_pos (by omega)], fl.get hv⟩
      · rw [if_neg hj] at hy
        obtain ⟨u, h1, h2⟩ := hvx j y hy
        exact ⟨u, by rw [if_neg hj]; exact h1, fl.get h2⟩
    · have := But.setH H ((Addr.mk i' 0 none).add i) v
      rw [add_block] at this
      exact this
theorem Owns.u64 {xs : List Nat} (h : Owns u64R e S H A n c xs) {i : Nat} (hi : i < n) : ∃ a, A = some a ∧ ∃ x, xs[i]? = some x ∧ cellH H (a.add i) = some (.int .u64 (x : Int)) := (h.sl u64_good).u64 hi
theorem u64_flat : Flat u64R := ⟨fun h => h⟩
theorem int_flat : Flat intR := ⟨fun h => h⟩
theorem bool_flat : Flat boolR := ⟨fun h => h⟩
end
/-! ### Copies -/
theorem Sl.sub {α : Type} {E : Rel α} {S : Nat → Prop} {H : Heap} {A : Option Addr} {n c : Nat} {xs : List α} (h : Sl E S H A n c xs) {l u : Nat} (hl : l ≤ u) (hu : u ≤ n) : Sl E S H (SubA A c l 1) (u - l) (c - l) ((xs.take u).drop l) := by
  have hlen := h.len
  have hcap := h.cap
  have hlt := h.lt
  refine ⟨by simp; omega, by omega, by omega, fun i x hx => ?_⟩
  rw [List.getElem?_drop] at hx
  have hi : l + i < u := by
    have := (List.getElem?_eq_some_iff.1 hx).1
    simp at this; omega
  rw [List.getElem?_take_of_lt hi] at hx
  obtain ⟨a, v, ha, hb, hc, he⟩ := h.get _ x hx
  subst ha
  refine ⟨a.add l, v, ?_, by rw [add_block]; exact hb, ?_, he⟩
  · unfold SubA
    rw [if_neg (by omega)]
    simp [scale]
  · rw [← hc, show (a.add l).add i = a.add (l + i) from ?_]
    by_cases h1 : l = 0
    · subst h1; simp [add_zero]
    · by_cases h2 : i = 0
      · subst h2; simp [add_zero]
      · simp [Addr.add, h1, h2, Nat.add_assoc]
theorem Owns.empty {α : Type} (E : Rel α) (e : Nat) (S : Nat → Prop) (H : Heap) (hS : S H.size) : Owns E e S (H.push (.cells #[] e (0, 0))) (some (Addr.mk H.size 0 none)) 0 0 [] :=
  ⟨rfl, Nat.le_refl _, by omega, .inr ⟨H.size, #[], rfl, hS, get_push_new H _, rfl, fun i x hx => by simp at hx⟩⟩
/-- A literal list of words. -/
theorem Owns.lit {α : Type} {E : Rel α} {e : Nat} {S : Nat → Prop} {H : Heap} {xs : List α} {vs : List Value} (hS : S H.size) (hl : vs.length = xs.length) (hn : xs.length ≤ 17592186044416)
    (hv : ∀ (i : Nat) (x : α), xs[i]? = some x → ∃ v, vs[i]? = some v ∧ E (No S H.size) (H.push (.cells vs.toArray e (0, 0))) x v) :
    Owns E e S (H.push (.cells vs.toArray e (0, 0))) (some (Addr.mk H.size 0 none)) xs.length xs.length xs :=
  ⟨rfl, Nat.le_refl _, hn, .inr ⟨H.size, _, rfl, hS, get_push_new H _, by simp [hl], fun i x hx => by
    obtain ⟨v, h1, h2⟩ := hv i x hx
    exact ⟨v, by simpa using h1, h2⟩⟩⟩
theorem Owns.words {S : Nat → Prop} {H : Heap} (xs : List Nat) (hS : S H.size) (hn : xs.length ≤ 17592186044416) :
    Owns u64R 22 S (H.push (.cells (xs.map fun (x : Nat) => Value.int .u64 (x : Int)).toArray 22 (0, 0))) (some (Addr.mk H.size 0 none)) xs.length xs.length xs :=
  Owns.lit hS (by simp) hn fun i x hx => ⟨_, by simp [hx], rfl⟩
theorem since_new (H : Heap) {H' : Heap} (h : H.size ≤ H'.size) : Since H H'.size := h

theorem Sl.cut {α : Type} {E : Rel α} {S : Nat → Prop} {H : Heap} {A : Option Addr} {n c : Nat} {xs : List α} (h : Sl E S H A n c xs) {u : Nat} (hu : u ≤ n) : Sl E S H A u c (xs.take u) := by
  have hlen := h.len
  have hcap := h.cap
  have hlt := h.lt
  refine ⟨by simp; omega, by omega, by omega, fun i x hx => ?_⟩
  have hi : i < u := by have := (List.getElem?_eq_some_iff.1 hx).1; simp at this; omega
  rw [List.getElem?_take_of_lt hi] at hx
  exact h.get _ x hx
theorem NewH.in {H : Heap} {K : Heap → Prop} (h : K H) : NewH H K := h
end Go.Sx
