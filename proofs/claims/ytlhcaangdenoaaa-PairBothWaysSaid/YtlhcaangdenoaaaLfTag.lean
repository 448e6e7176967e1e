import Derived.Test.YtlhcaangdenoaaaLfCore
set_option linter.unusedVariables false
namespace Go.Lf
open Go.Sx

/-! ### Tags: 0 is memory that is never written again; each other number is an owner -/
def Zt (σ : Nat → Nat) : Nat → Prop := fun i => σ i = 0
def Yt (σ : Nat → Nat) (j : Nat) : Nat → Prop := fun i => σ i = j
/-- A step that turns the blocks of the owners m alone. -/
structure Stp (m : List Nat) (σ : Nat → Nat) (H : Heap) (σ' : Nat → Nat) (H' : Heap) : Prop where
  size : H.size ≤ H'.size
  get : ∀ i, i < H.size → σ i ∉ m → σ' i = σ i ∧ H'[i]? = H[i]?
section
variable {m m' : List Nat} {σ σ' σ2 : Nat → Nat} {H H' H2 : Heap} {j : Nat}
theorem Stp.refl (m : List Nat) (σ : Nat → Nat) (H : Heap) : Stp m σ H σ H := ⟨Nat.le_refl _, fun _ _ _ => ⟨rfl, rfl⟩⟩
theorem Stp.trans (h : Stp m σ H σ' H') (k : Stp m' σ' H' σ2 H2) (hm : ∀ x ∈ m', x ∈ m := by decide) : Stp m σ H σ2 H2 :=
  ⟨Nat.le_trans h.size k.size, fun i hi hn => by
    obtain ⟨h1, h2⟩ := h.get i hi hn
    obtain ⟨k1, k2⟩ := k.get i (Nat.lt_of_lt_of_le hi h.size) (fun hh => hn (by rw [← h1]; exact hm _ hh))
    exact ⟨k1.trans h1, k2.trans h2⟩⟩
theorem Stp.mono (h : Stp m' σ H σ' H') (hm : ∀ x ∈ m', x ∈ m := by decide) : Stp m σ H σ' H' := ⟨h.size, fun i hi hn => h.get i hi fun hh => hn (hm _ hh)⟩
theorem Stp.y (h : Stp m σ H σ' H') (hj : j ∉ m) : Fr (Yt σ j) H (Yt σ' j) H' := fun i hi hl => by
  have hi' : σ i = j := hi
  obtain ⟨h1, h2⟩ := h.get i hl (by rw [hi']; exact hj)
  exact ⟨h1.trans hi', h2⟩
theorem Stp.z (h : Stp m σ H σ' H') (hm : 0 ∉ m) : Fr (Zt σ) H (Zt σ') H' := h.y hm
/-- What a function that is called hands back of old memory was memory to be read. -/
def Old (Z : Nat → Prop) (H : Heap) (Z' : Nat → Prop) : Prop := ∀ i, Z' i → i < H.size → Z i
theorem tags (Z : Nat → Prop) : ∃ σ : Nat → Nat, (∀ i, Z i → Zt σ i) ∧ ∀ i, (σ i = 0 ∧ Z i) ∨ σ i = 999 := by
  classical
  refine ⟨fun i => if Z i then 0 else 999, fun i h => by simp [Zt, h], fun i => ?_⟩
  by_cases h : Z i <;> simp [h]
theorem Stp.ext {Z : Nat → Prop} (h : Stp m σ H σ' H') (hσ : ∀ i, (σ i = 0 ∧ Z i) ∨ σ i = 999) (h0 : 0 ∉ m := by decide) (h9 : 999 ∉ m := by decide) : Ext H H' :=
  ⟨h.size, fun i hi => (h.get i hi (by rcases hσ i with ⟨e, _⟩ | e <;> rw [e] <;> assumption)).2⟩
theorem Stp.old {Z : Nat → Prop} (h : Stp m σ H σ' H') (hσ : ∀ i, (σ i = 0 ∧ Z i) ∨ σ i = 999) (h0 : 0 ∉ m := by decide) (h9 : 999 ∉ m := by decide) : Old Z H (Zt σ') := fun i hz hi => by
  rcases hσ i with ⟨e, hz'⟩ | e
  · exact hz'
  · have := (h.get i hi (by rw [e]; assumption)).1
    have hz' : σ' i = 0 := hz
    omega
/-- Memory of an owner j of its own is new. -/
theorem Stp.fresh {Z : Nat → Prop} (h : Stp m σ H σ' H') (hσ : ∀ i, (σ i = 0 ∧ Z i) ∨ σ i = 999) (hj : j ≠ 0 := by decide) (hj9 : j ≠ 999 := by decide) (h0 : 0 ∉ m := by decide) (h9 : 999 ∉ m := by decide) :
    ∀ i, Yt σ' j i → H.size ≤ i ∧ ¬ Zt σ' i := fun i hy => by
  have hy' : σ' i = j := hy
  refine ⟨?_, fun hz => hj (hy'.symm.trans hz)⟩
  rcases Nat.lt_or_ge i H.size with hi | hi
  · rcases hσ i with ⟨e, _⟩ | e
    · have := (h.get i hi (by rw [e]; exact h0)).1; omega
    · have := (h.get i hi (by rw [e]; exact h9)).1; omega
  · exact hi
section
variable {α : Type} {O : Mr α} {E : Rl α} {e : Nat} {A : Option Addr} {c : Nat} {xs : List α}
theorem SlF.step (h : SlF E (Zt σ) H A c xs) (hs : Stp m σ H σ' H') (hm : 0 ∉ m := by decide) : SlF E (Zt σ') H' A c xs := h.keep (hs.z hm)
theorem SlO.step (h : SlO O e (Zt σ) (Yt σ j) H A c xs) (hs : Stp m σ H σ' H') (hm : 0 ∉ m := by decide) (hj : j ∉ m := by decide) : SlO O e (Zt σ') (Yt σ' j) H' A c xs := h.keep (hs.z hm) (hs.y hj)
end
/-! New blocks and turned owners -/
def nt (σ : Nat → Nat) (n k : Nat) : Nat → Nat := fun i => if i < n then σ i else k
def rt (σ : Nat → Nat) (j k : Nat) : Nat → Nat := fun i => if σ i = j then k else σ i
theorem nt_old {n k i : Nat} (h : i < n) : nt σ n k i = σ i := by simp [nt, h]
theorem nt_new {n k i : Nat} (h : n ≤ i) : nt σ n k i = k := by simp [nt, Nat.not_lt.2 h]
theorem Stp.push (σ : Nat → Nat) (H : Heap) (o : Obj) (k : Nat) : Stp [] σ H (nt σ H.size k) (H.push o) :=
  ⟨(Ext.push H o).size, fun i hi _ => ⟨nt_old hi, (Ext.push H o).get i hi⟩⟩
theorem Stp.retag (σ : Nat → Nat) (H : Heap) (j k : Nat) : Stp [j] σ H (rt σ j k) H :=
  ⟨Nat.le_refl _, fun i hi hn => ⟨by simp at hn; simp [rt, hn], rfl⟩⟩
theorem Ext.stp (h : Ext H H') (σ : Nat → Nat) (k : Nat) : Stp [] σ H (nt σ H.size k) H' := ⟨h.size, fun i hi _ => ⟨nt_old hi, h.get i hi⟩⟩

end
/-- A cell, in memory of an owner. -/
structure CelF (j : Nat) (σ : Nat → Nat) (H : Heap) (a : Addr) (v : Value) : Prop where
  tag : σ a.block = j
  val : cellH H a = some v
theorem CelF.step {m : List Nat} {j : Nat} {σ σ' : Nat → Nat} {H H' : Heap} {a : Addr} {v : Value} (h : CelF j σ H a v) (hs : Stp m σ H σ' H') (hj : j ∉ m := by decide) : CelF j σ' H' a v :=
  ⟨(hs.get _ (lt_of_cell h.val) (by rw [h.tag]; exact hj)).1.trans h.tag, (cell_of_get (hs.get _ (lt_of_cell h.val) (by rw [h.tag]; exact hj)).2).trans h.val⟩
section
variable {m m' : List Nat} {σ σ' σ2 : Nat → Nat} {H H' H2 : Heap} {j : Nat}
/-! A variable that lies in memory -/
structure BoxF (j : Nat) (σ : Nat → Nat) (H : Heap) (g : Nat) (cs : List Value) (t : Nat) : Prop where
  blk : H[g]? = some (.cells cs.toArray t (0, 0))
  tag : σ g = j
theorem BoxF.step {g t : Nat} {cs : List Value} (h : BoxF j σ H g cs t) (hs : Stp m σ H σ' H') (hj : j ∉ m := by decide) : BoxF j σ' H' g cs t := by
  obtain ⟨h1, h2⟩ := hs.get g (lt_of_get h.blk) (by rw [h.tag]; exact hj)
  exact ⟨h2.trans h.blk, h1.trans h.tag⟩
theorem BoxF.new (σ : Nat → Nat) {H H1 : Heap} {cs : Array Value} {t : Nat} (k : Nat) (e : H1 = H.push (.cells cs t (0, 0))) : ∃ σ1, Stp [] σ H σ1 H1 ∧ BoxF k σ1 H1 H.size cs.toList t := by
  subst e; exact ⟨_, Stp.push σ H _ k, get_push_new H _, nt_new (Nat.le_refl _)⟩
theorem BoxF.cell {g t : Nat} {cs : List Value} (h : BoxF j σ H g cs t) (i : Nat) {v : Value} (hv : cs[i]? = some v) : cellH H ((Addr.mk g 0 none).add i) = some v := by
  rw [add_mk, cell_blk h.blk]; simpa using hv
theorem BoxF.cell0 {g t : Nat} {v : Value} {cs : List Value} (h : BoxF j σ H g (v :: cs) t) : cellH H (Addr.mk g 0 none) = some v := by
  rw [cell_blk h.blk]; simp
theorem BoxF.write {g t : Nat} {cs : List Value} (h : BoxF j σ H g cs t) (i : Nat) (v : Value) (hi : i < cs.length) :
    MayWrite H ((Addr.mk g 0 none).add i) 1 ∧ ∀ H1, H1 = setH H ((Addr.mk g 0 none).add i) v → Stp [j] σ H σ H1 ∧ BoxF j σ H1 g (cs.set i v) t := by
  rw [add_mk]
  refine ⟨mayWrite_blk h.blk (by simp; omega), ?_⟩
  rintro H1 rfl
  refine ⟨⟨by rw [setH_size]; exact Nat.le_refl _, fun k hk hn => ⟨rfl, setH_get_ne _ _ _ _ (fun q : k = g => hn (by rw [q, h.tag]; simp))⟩⟩, ?_, h.tag⟩
  have := setH_get_eq (i := i) h.blk v
  rw [this]; simp
end
section
variable {m m' : List Nat} {σ σ' : Nat → Nat} {H H1 : Heap} {j g t : Nat} {cs : List Value}
theorem BoxF.cel {v : Value} (h : BoxF j σ H g cs t) (i : Nat) (hv : cs[i]? = some v) : CelF j σ H ((Addr.mk g 0 none).add i) v := ⟨by rw [add_block]; exact h.tag, h.cell i hv⟩
theorem BoxF.may (h : BoxF j σ H g cs t) (i : Nat) (hi : i < cs.length) : MayWrite H ((Addr.mk g 0 none).add i) 1 := (h.write i undef hi).1
theorem BoxF.wrote {v : Value} (h : BoxF j σ H g cs t) (i : Nat) (hi : i < cs.length) (e : H1 = setH H ((Addr.mk g 0 none).add i) v) : Stp [j] σ H σ H1 ∧ BoxF j σ H1 g (cs.set i v) t := (h.write i v hi).2 H1 e
end
/-- A pointer to what is never written again. -/
structure PtF {α : Type} (E : Rl α) (Z : Nat → Prop) (H : Heap) (a : Addr) (x : α) : Prop where
  get : ∃ cs, E.rep Z H x cs ∧ ∀ (j : Nat) (v : Value), cs[j]? = some v → Z a.block ∧ cellH H (a.add j) = some v
theorem PtF.keep {α : Type} {E : Rl α} {Z Z' : Nat → Prop} {H H' : Heap} {a : Addr} {x : α} (h : PtF E Z H a x) (hf : Fr Z H Z' H') : PtF E Z' H' a x := by
  obtain ⟨cs, hr, hc⟩ := h.get
  refine ⟨cs, E.keep hf hr, fun j v hj => ?_⟩
  obtain ⟨hz, hv⟩ := hc j v hj
  have hlt := lt_of_cell hv
  rw [add_block] at hlt
  exact ⟨(hf _ hz hlt).1, hf.cell (by rw [add_block]; exact hz) hv⟩
theorem PtF.wide {α : Type} {E : Rl α} {Z Z' : Nat → Prop} {H : Heap} {a : Addr} {x : α} (h : PtF E Z H a x) (hz : ∀ i, Z i → Z' i) : PtF E Z' H a x := h.keep (Fr.wide hz H)
theorem PtF.step {α : Type} {E : Rl α} {m : List Nat} {σ σ' : Nat → Nat} {H H' : Heap} {a : Addr} {x : α} (h : PtF E (Zt σ) H a x) (hs : Stp m σ H σ' H') (hm : 0 ∉ m := by decide) : PtF E (Zt σ') H' a x := h.keep (hs.z hm)
theorem BoxF.pt {α : Type} {E : Rl α} {σ : Nat → Nat} {H : Heap} {g t : Nat} {cs : List Value} {x : α} (h : BoxF 0 σ H g cs t) (hr : E.rep (Zt σ) H x cs) : PtF E (Zt σ) H (Addr.mk g 0 none) x :=
  ⟨cs, hr, fun j v hj => ⟨h.tag, h.cell j hj⟩⟩
theorem PtF.ldN {α : Type} {E : Rl α} {σ : Nat → Nat} {H : Heap} {a : Addr} {x : α} (h : PtF E (Zt σ) H a x) : ∃ cs, E.rep (Zt σ) H x cs ∧ ∀ (j : Nat) (v : Value), cs[j]? = some v → CelF 0 σ H (a.add j) v := by
  obtain ⟨cs, hr, hc⟩ := h.get
  exact ⟨cs, hr, fun j v hj => ⟨by rw [add_block]; exact (hc j v hj).1, (hc j v hj).2⟩⟩
theorem PtF.ld1 {α : Type} {E : Rl α} {σ : Nat → Nat} {H : Heap} {a : Addr} {x : α} (h : PtF E (Zt σ) H a x) (hs : E.sz = 1) : ∃ v, CelF 0 σ H a v ∧ E.rep (Zt σ) H x [v] := by
  obtain ⟨cs, hr, hc⟩ := h.ldN
  have hl := E.len hr
  rw [hs] at hl
  match cs, hl with
  | [v], _ => exact ⟨v, hc 0 v rfl, hr⟩

/-! ### Own slices by tags -/
section
variable {α : Type} {O : Mr α} {E : Rl α} {e j k : Nat} {σ σ' : Nat → Nat} {H H' : Heap} {A : Option Addr} {c : Nat} {xs : List α} {a : Addr}
theorem SlF.addr {Z : Nat → Prop} (h : SlF E Z H A c xs) {i : Int} (h0 : 0 ≤ i) {x : α} (hx : xs[i.toNat]? = some x) {n : Nat} (hn : n = xs.length) : ∃ a, A = some a ∧ 0 ≤ i ∧ i < (n : Int) := by
  obtain ⟨a, _, ha, _⟩ := h.get _ x hx
  have hlt := (List.getElem?_eq_some_iff.1 hx).1
  exact ⟨a, ha, h0, by omega⟩
theorem SlF.ldN {k : Nat} (h : SlF E (Zt σ) H A c xs) (hs : E.sz = k) (ha : A = some a) {i : Int} (h0 : 0 ≤ i) {x : α} (hx : xs[i.toNat]? = some x) :
    ∃ cs, E.rep (Zt σ) H x cs ∧ ∀ (j : Nat) (v : Value), cs[j]? = some v → CelF 0 σ H ((a.add (i.toNat * k)).add j) v := by
  obtain ⟨a', cs, ha', hr, hc⟩ := h.get _ x hx
  rw [ha] at ha'; cases ha'
  refine ⟨cs, hr, fun j v hj => ?_⟩
  obtain ⟨hz, hv⟩ := hc j v hj
  rw [hs, ← add_add] at hv
  exact ⟨by rw [add_block, add_block]; exact hz, hv⟩
theorem SlF.ld1 (h : SlF E (Zt σ) H A c xs) (hs : E.sz = 1) (ha : A = some a) {i : Int} (h0 : 0 ≤ i) {x : α} (hx : xs[i.toNat]? = some x) : ∃ v, CelF 0 σ H (a.add i.toNat) v ∧ E.rep (Zt σ) H x [v] := by
  obtain ⟨cs, hr, hc⟩ := h.ldN hs ha h0 hx
  have hl := E.len hr
  rw [hs] at hl
  match cs, hl with
  | [v], _ => exact ⟨v, by simpa [add_zero] using hc 0 v rfl, hr⟩
theorem SlF.ldu {xs : List Nat} (h : SlF u64L (Zt σ) H A c xs) (ha : A = some a) {i : Int} (h0 : 0 ≤ i) {x : Nat} (hx : xs[i.toNat]? = some x) : CelF 0 σ H (a.add i.toNat) (.int .u64 (x : Int)) := by
  obtain ⟨v, hc, hr⟩ := h.ld1 rfl ha h0 hx; cases hr; exact hc
theorem SlF.ldi {xs : List Int} (h : SlF i64L (Zt σ) H A c xs) (ha : A = some a) {i : Int} (h0 : 0 ≤ i) {x : Int} (hx : xs[i.toNat]? = some x) : CelF 0 σ H (a.add i.toNat) (.int .i64 x) := by
  obtain ⟨v, hc, hr⟩ := h.ld1 rfl ha h0 hx; cases hr; exact hc
theorem SlF.ldb {xs : List Bool} (h : SlF boolL (Zt σ) H A c xs) (ha : A = some a) {i : Int} (h0 : 0 ≤ i) {x : Bool} (hx : xs[i.toNat]? = some x) : CelF 0 σ H (a.add i.toNat) (.bool x) := by
  obtain ⟨v, hc, hr⟩ := h.ld1 rfl ha h0 hx; cases hr; exact hc
theorem SlF.lds {xs : List (List α)} (h : SlF (slL E) (Zt σ) H A c xs) (ha : A = some a) {i : Int} (h0 : 0 ≤ i) {x : List α} (hx : xs[i.toNat]? = some x) :
    ∃ A' c', CelF 0 σ H (a.add i.toNat) (.slice A' x.length c') ∧ SlF E (Zt σ) H A' c' x := by
  obtain ⟨v, hc, A', c', e, hr⟩ := h.ld1 rfl ha h0 hx; cases e; exact ⟨A', c', hc, hr⟩
/-- Own memory, read in place. -/
theorem SlO.seen (h : SlO O e (Zt σ) (Yt σ j) H A c xs) : SlF O.rd (fun i => σ i = 0 ∨ σ i = j) H A c xs := h.read (fun _ h => .inl h) (fun _ h => .inr h)
theorem SlO.addr (h : SlO O e (Zt σ) (Yt σ j) H A c xs) {i : Int} (h0 : 0 ≤ i) {n : Nat} (hn : n = xs.length) (hi : i < (n : Int)) : ∃ a, A = some a ∧ 0 ≤ i ∧ i < (n : Int) :=
  (h.seen.addr h0 (List.getElem?_eq_getElem (show i.toNat < xs.length by omega)) hn)
/-- Never written again, from now on. -/
theorem SlO.freeze (h : SlO O e (Zt σ) (Yt σ j) H A c xs) : ∃ σ', Stp [j] σ H σ' H ∧ SlF O.rd (Zt σ') H A c xs :=
  ⟨rt σ j 0, Stp.retag σ H j 0, h.read (fun i hi => by have hi' : σ i = 0 := hi; simp [Zt, rt, hi']) (fun i hi => by have hi' : σ i = j := hi; simp [Zt, rt, hi'])⟩
theorem SlO.ldN {k : Nat} (h : SlO (rdM E) e (Zt σ) (Yt σ j) H A c xs) (hs : E.sz = k) (ha : A = some a) {i : Int} (h0 : 0 ≤ i) {x : α} (hx : xs[i.toNat]? = some x) :
    ∃ cs, E.rep (Zt σ) H x cs ∧ ∀ (q : Nat) (v : Value), cs[q]? = some v → CelF j σ H ((a.add (i.toNat * k)).add q) v := by
  obtain ⟨g, cs, Yi, hA, hg, _, _, _, hr, hc, _, _⟩ := h.lens h0 hx
  rw [ha] at hA; cases hA
  have hs' : (rdM E).rd.sz = k := hs
  refine ⟨cs, hr, fun q v hq => ?_⟩
  have := hc q v hq
  rw [hs', ← add_add] at this
  exact ⟨by rw [add_block, add_block]; exact hg, this⟩
theorem SlO.ld1 (h : SlO (rdM E) e (Zt σ) (Yt σ j) H A c xs) (hs : E.sz = 1) (ha : A = some a) {i : Int} (h0 : 0 ≤ i) {x : α} (hx : xs[i.toNat]? = some x) : ∃ v, CelF j σ H (a.add i.toNat) v ∧ E.rep (Zt σ) H x [v] := by
  obtain ⟨cs, hr, hc⟩ := h.ldN hs ha h0 hx
  have hl := E.len hr
  rw [hs] at hl
  match cs, hl with
  | [v], _ => exact ⟨v, by simpa [add_zero] using hc 0 v rfl, hr⟩
theorem SlO.ldu {xs : List Nat} (h : SlO (rdM u64L) e (Zt σ) (Yt σ j) H A c xs) (ha : A = some a) {i : Int} (h0 : 0 ≤ i) {x : Nat} (hx : xs[i.toNat]? = some x) : CelF j σ H (a.add i.toNat) (.int .u64 (x : Int)) := by
  obtain ⟨v, hc, hr⟩ := h.ld1 rfl ha h0 hx; cases hr; exact hc
theorem SlO.ldi {xs : List Int} (h : SlO (rdM i64L) e (Zt σ) (Yt σ j) H A c xs) (ha : A = some a) {i : Int} (h0 : 0 ≤ i) {x : Int} (hx : xs[i.toNat]? = some x) : CelF j σ H (a.add i.toNat) (.int .i64 x) := by
  obtain ⟨v, hc, hr⟩ := h.ld1 rfl ha h0 hx; cases hr; exact hc
theorem SlO.ldb {xs : List Bool} (h : SlO (rdM boolL) e (Zt σ) (Yt σ j) H A c xs) (ha : A = some a) {i : Int} (h0 : 0 ≤ i) {x : Bool} (hx : xs[i.toNat]? = some x) : CelF j σ H (a.add i.toNat) (.bool x) := by
  obtain ⟨v, hc, hr⟩ := h.ld1 rfl ha h0 hx; cases hr; exact hc
theorem SlO.lds {xs : List (List α)} (h : SlO (rdM (slL E)) e (Zt σ) (Yt σ j) H A c xs) (ha : A = some a) {i : Int} (h0 : 0 ≤ i) {x : List α} (hx : xs[i.toNat]? = some x) :
    ∃ A' c', CelF j σ H (a.add i.toNat) (.slice A' x.length c') ∧ SlF E (Zt σ) H A' c' x := by
  obtain ⟨v, hc, A', c', e, hr⟩ := h.ld1 rfl ha h0 hx; cases e; exact ⟨A', c', hc, hr⟩
/-- An element of one cell is written. -/
theorem SlO.set1 (h : SlO (rdM E) e (Zt σ) (Yt σ j) H A c xs) (hs : E.sz = 1) (ha : A = some a) {i : Int} (h0 : 0 ≤ i) (hi : i < (xs.length : Int)) {y : α} {v : Value} (hr : E.rep (Zt σ) H y [v]) (hj : j ≠ 0 := by decide) :
    MayWrite H (a.add i.toNat) 1 ∧ ∀ H1, H1 = setH H (a.add i.toNat) v → Stp [j] σ H σ H1 ∧ SlO (rdM E) e (Zt σ) (Yt σ j) H1 A c (xs.set i.toNat y) := by
  obtain ⟨g, cs, Yi, hA, hg, hgl, _, hYi, hr0, hc, _, hw⟩ := h.lens h0 (List.getElem?_eq_getElem (show i.toNat < xs.length by omega))
  have hl := E.len hr0
  rw [ha] at hA; cases hA
  have hs' : (rdM E).rd.sz = 1 := hs
  rw [hs'] at hw
  have hgz : ¬ Zt σ g := fun q => hj ((show σ g = j from hg).symm.trans q)
  have st : Stp [j] σ H σ (setH H ((Addr.mk g 0 none).add i.toNat) v) := ⟨by rw [setH_size]; exact Nat.le_refl _, fun b hb hn => ⟨rfl, setH_get_ne _ _ _ _ (by rw [add_mk]; exact fun q : b = g => hn (by rw [q, show σ g = j from hg]; simp))⟩⟩
  have := hw (Z' := Zt σ) (Y' := Yt σ j) (Yi' := fun _ => False) (x' := y) (cs' := [v]) (o := 0) (vs := [v]) (Fr.refl _ _) (Fr.refl _ _) hgz (fun _ h => h.elim)
    (by simp only [Nat.mul_one, Nat.add_zero]; exact E.keep (st.z (by simpa using Ne.symm hj)) hr) (by simp) (fun k => by
      rw [hs] at hl
      by_cases hk : k = 0
      · subst hk; simp
      · rw [if_neg (by simp; omega), List.getElem?_eq_none (by simp; omega), List.getElem?_eq_none (by omega)])
  simp only [Nat.mul_one, Nat.add_zero] at this
  refine ⟨this.1, ?_⟩
  rintro H1 rfl
  exact ⟨st, this.2⟩
end
end Go.Lf
