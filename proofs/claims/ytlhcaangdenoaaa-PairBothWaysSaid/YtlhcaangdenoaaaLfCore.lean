import Derived.Test.YtlhcaangdenoaaaRep
set_option linter.unusedVariables false
namespace Go.Lf
open Go.Sx

/-! ### Frames -/
/-- What lies in blocks of Z stays, as part of Z'. -/
def Fr (Z : Nat → Prop) (H : Heap) (Z' : Nat → Prop) (H' : Heap) : Prop := ∀ i, Z i → i < H.size → Z' i ∧ H'[i]? = H[i]?
section
variable {Z Z' Z2 Y Y' : Nat → Prop} {H H' H2 : Heap} {a : Addr} {v : Value}
theorem Fr.refl (Z : Nat → Prop) (H : Heap) : Fr Z H Z H := fun i h _ => ⟨h, rfl⟩
theorem Fr.lt (h : Fr Z H Z' H') {i : Nat} (hz : Z i) (hi : i < H.size) : i < H'.size := by
  have := (h i hz hi).2
  rw [Array.getElem?_eq_getElem hi] at this
  exact (Array.getElem?_eq_some_iff.1 this).1
theorem Fr.trans (h : Fr Z H Z' H') (k : Fr Z' H' Z2 H2) : Fr Z H Z2 H2 := fun i hz hi => by
  obtain ⟨h1, h2⟩ := h i hz hi
  obtain ⟨k1, k2⟩ := k i h1 (h.lt hz hi)
  exact ⟨k1, k2.trans h2⟩
theorem Fr.wide (hz : ∀ i, Z i → Z' i) (H : Heap) : Fr Z H Z' H := fun i h _ => ⟨hz i h, rfl⟩
theorem Fr.cell (h : Fr Z H Z' H') (hz : Z a.block) (hc : cellH H a = some v) : cellH H' a = some v :=
  (cell_of_get (h _ hz (lt_of_cell hc)).2).trans hc
theorem Fr.blk (h : Fr Z H Z' H') {g : Nat} {o : Obj} (hz : Z g) (hc : H[g]? = some o) : H'[g]? = some o := ((h g hz (lt_of_get hc)).2).trans hc
theorem Fr.in (h : Fr Z H Z' H') {g : Nat} {o : Obj} (hz : Z g) (hc : H[g]? = some o) : Z' g := (h g hz (lt_of_get hc)).1
end
theorem add_add (a : Addr) (i j : Nat) : (a.add i).add j = a.add (i + j) := by
  by_cases h1 : i = 0
  · subst h1; simp [add_zero]
  · by_cases h2 : j = 0
    · subst h2; simp [add_zero]
    · simp [Addr.add, h1, h2, Nat.add_assoc]

/-! ### What cells stand for, in memory that is never written again -/
structure Rl (α : Type) where
  sz : Nat
  rep : (Nat → Prop) → Heap → α → List Value → Prop
  len : ∀ {Z H x cs}, rep Z H x cs → cs.length = sz
  flat : ∀ {Z H x cs}, rep Z H x cs → cs.all isCell = true
  keep : ∀ {Z Z' : Nat → Prop} {H H' x cs}, Fr Z H Z' H' → rep Z H x cs → rep Z' H' x cs
def u64L : Rl Nat := ⟨1, fun _ _ x cs => cs = [.int .u64 (x : Int)], fun h => by rw [h]; rfl, fun h => by rw [h]; rfl, fun _ h => h⟩
def i64L : Rl Int := ⟨1, fun _ _ x cs => cs = [.int .i64 x], fun h => by rw [h]; rfl, fun h => by rw [h]; rfl, fun _ h => h⟩
def boolL : Rl Bool := ⟨1, fun _ _ x cs => cs = [.bool x], fun h => by rw [h]; rfl, fun h => by rw [h]; rfl, fun _ h => h⟩
structure SlF {α : Type} (E : Rl α) (Z : Nat → Prop) (H : Heap) (A : Option Addr) (c : Nat) (xs : List α) : Prop where
  cap : xs.length ≤ c
  lt : xs.length ≤ 17592186044416
  get : ∀ (i : Nat) (x : α), xs[i]? = some x → ∃ a cs, A = some a ∧ E.rep Z H x cs ∧ ∀ (j : Nat) (v : Value), cs[j]? = some v → Z a.block ∧ cellH H (a.add (i * E.sz + j)) = some v
section
variable {α : Type} {E : Rl α} {Z Z' Y Y' : Nat → Prop} {H H' : Heap} {A : Option Addr} {c : Nat} {xs : List α}
theorem SlF.keep (h : SlF E Z H A c xs) (hf : Fr Z H Z' H') : SlF E Z' H' A c xs :=
  ⟨h.cap, h.lt, fun i x hx => by
    obtain ⟨a, cs, ha, hr, hc⟩ := h.get i x hx
    refine ⟨a, cs, ha, E.keep hf hr, fun j v hj => ?_⟩
    obtain ⟨hz, hv⟩ := hc j v hj
    have hlt := lt_of_cell hv
    rw [add_block] at hlt
    exact ⟨(hf _ hz hlt).1, hf.cell (by rw [add_block]; exact hz) hv⟩⟩
theorem SlF.wide (h : SlF E Z H A c xs) (hz : ∀ i, Z i → Z' i) : SlF E Z' H A c xs := h.keep (Fr.wide hz H)
theorem SlF.nil (E : Rl α) (Z : Nat → Prop) (H : Heap) (A : Option Addr) (c : Nat) : SlF E Z H A c [] := ⟨Nat.zero_le _, by simp, fun i x h => by simp at h⟩
theorem SlF.at1 (h : SlF E Z H A c xs) (hs : E.sz = 1) {i : Int} (h0 : 0 ≤ i) {x : α} (hx : xs[i.toNat]? = some x) :
    ∃ a v, A = some a ∧ i < (xs.length : Int) ∧ cellH H (a.add i.toNat) = some v ∧ E.rep Z H x [v] := by
  obtain ⟨a, cs, ha, hr, hc⟩ := h.get _ x hx
  have hlen := E.len hr
  rw [hs] at hlen hc
  match cs, hlen with
  | [v], _ =>
    have := (hc 0 v rfl).2
    rw [Nat.mul_one, Nat.add_zero] at this
    have hlt := (List.getElem?_eq_some_iff.1 hx).1
    exact ⟨a, v, ha, by omega, this, hr⟩
theorem SlF.atN {k : Nat} (h : SlF E Z H A c xs) (hs : E.sz = k) {i : Int} (h0 : 0 ≤ i) {x : α} (hx : xs[i.toNat]? = some x) :
    ∃ a cs, A = some a ∧ i < (xs.length : Int) ∧ E.rep Z H x cs ∧ ∀ (j : Nat) (v : Value), cs[j]? = some v → cellH H ((a.add (i.toNat * k)).add j) = some v := by
  obtain ⟨a, cs, ha, hr, hc⟩ := h.get _ x hx
  have hlt := (List.getElem?_eq_some_iff.1 hx).1
  exact ⟨a, cs, ha, by omega, hr, fun j v hj => by rw [add_add, ← hs]; exact (hc j v hj).2⟩
end
theorem SlF.u64 {Z : Nat → Prop} {H : Heap} {A : Option Addr} {c : Nat} {xs : List Nat} (h : SlF u64L Z H A c xs) {i : Int} (h0 : 0 ≤ i) {x : Nat} (hx : xs[i.toNat]? = some x) :
    ∃ a, A = some a ∧ i < (xs.length : Int) ∧ cellH H (a.add i.toNat) = some (.int .u64 (x : Int)) := by
  obtain ⟨a, v, ha, hi, hc, hr⟩ := h.at1 rfl h0 hx
  cases hr; exact ⟨a, ha, hi, hc⟩
theorem SlF.i64 {Z : Nat → Prop} {H : Heap} {A : Option Addr} {c : Nat} {xs : List Int} (h : SlF i64L Z H A c xs) {i : Int} (h0 : 0 ≤ i) {x : Int} (hx : xs[i.toNat]? = some x) :
    ∃ a, A = some a ∧ i < (xs.length : Int) ∧ cellH H (a.add i.toNat) = some (.int .i64 x) := by
  obtain ⟨a, v, ha, hi, hc, hr⟩ := h.at1 rfl h0 hx
  cases hr; exact ⟨a, ha, hi, hc⟩
theorem SlF.bool {Z : Nat → Prop} {H : Heap} {A : Option Addr} {c : Nat} {xs : List Bool} (h : SlF boolL Z H A c xs) {i : Int} (h0 : 0 ≤ i) {x : Bool} (hx : xs[i.toNat]? = some x) :
    ∃ a, A = some a ∧ i < (xs.length : Int) ∧ cellH H (a.add i.toNat) = some (.bool x) := by
  obtain ⟨a, v, ha, hi, hc, hr⟩ := h.at1 rfl h0 hx
  cases hr; exact ⟨a, ha, hi, hc⟩
def slL {α : Type} (E : Rl α) : Rl (List α) where
  sz := 1
  rep := fun Z H xs cs => ∃ A c, cs = [.slice A xs.length c] ∧ SlF E Z H A c xs
  len := fun ⟨A, c, e, _⟩ => by rw [e]; rfl
  flat := fun ⟨A, c, e, _⟩ => by rw [e]; rfl
  keep := fun hf ⟨A, c, e, h⟩ => ⟨A, c, e, h.keep hf⟩
theorem SlF.row {α : Type} {E : Rl α} {Z : Nat → Prop} {H : Heap} {A : Option Addr} {c : Nat} {xs : List (List α)} (h : SlF (slL E) Z H A c xs) {i : Int} (h0 : 0 ≤ i) {x : List α} (hx : xs[i.toNat]? = some x) :
    ∃ a A' c', A = some a ∧ i < (xs.length : Int) ∧ cellH H (a.add i.toNat) = some (.slice A' x.length c') ∧ SlF E Z H A' c' x := by
  obtain ⟨a, v, ha, hi, hc, A', c', e, hr⟩ := h.at1 rfl h0 hx
  cases e; exact ⟨a, A', c', ha, hi, hc, hr⟩

/-! ### What cells stand for, of memory that is owned -/
structure Mr (α : Type) where
  rd : Rl α
  rep : (Nat → Prop) → (Nat → Prop) → Heap → α → List Value → Prop
  keep : ∀ {Z Z' Y Y' : Nat → Prop} {H H' x cs}, Fr Z H Z' H' → Fr Y H Y' H' → rep Z Y H x cs → rep Z' Y' H' x cs
  read : ∀ {Z Y Z' : Nat → Prop} {H x cs}, (∀ i, Z i → Z' i) → (∀ i, Y i → Z' i) → rep Z Y H x cs → rd.rep Z' H x cs
def rdM {α : Type} (E : Rl α) : Mr α := ⟨E, fun Z _ H x cs => E.rep Z H x cs, fun h _ r => E.keep h r, fun h _ r => E.keep (Fr.wide h _) r⟩
theorem Mr.len {α : Type} (O : Mr α) {Z Y : Nat → Prop} {H x cs} (h : O.rep Z Y H x cs) : cs.length = O.rd.sz := O.rd.len (O.read (Z' := fun i => Z i ∨ Y i) (fun _ h => .inl h) (fun _ h => .inr h) h)
theorem Mr.flat {α : Type} (O : Mr α) {Z Y : Nat → Prop} {H x cs} (h : O.rep Z Y H x cs) : cs.all isCell = true := O.rd.flat (O.read (Z' := fun i => Z i ∨ Y i) (fun _ h => .inl h) (fun _ h => .inr h) h)
structure SlO {α : Type} (O : Mr α) (e : Nat) (Z Y : Nat → Prop) (H : Heap) (A : Option Addr) (c : Nat) (xs : List α) : Prop where
  cap : xs.length ≤ c
  lt : xs.length ≤ 17592186044416
  blk : (A = none ∧ c = 0) ∨ ∃ (g : Nat) (cells : Array Value) (Ys : Nat → Nat → Prop), A = some ⟨g, 0, none⟩ ∧ Y g ∧ H[g]? = some (.cells cells e (0, 0)) ∧ cells.size = c * O.rd.sz ∧
    (∀ i b, Ys i b → Y b ∧ b ≠ g) ∧ (∀ i j b, Ys i b → Ys j b → i = j) ∧
    ∀ i x, xs[i]? = some x → ∃ cs, O.rep Z (Ys i) H x cs ∧ ∀ (j : Nat) (v : Value), cs[j]? = some v → cells[i * O.rd.sz + j]? = some v
section
variable {α : Type} {O : Mr α} {E : Rl α} {e : Nat} {Z Z' Y Y' : Nat → Prop} {H H' : Heap} {A : Option Addr} {c : Nat} {xs : List α}
theorem SlO.keep (h : SlO O e Z Y H A c xs) (hz : Fr Z H Z' H') (hy : Fr Y H Y' H') : SlO O e Z' Y' H' A c xs :=
  ⟨h.cap, h.lt, h.blk.imp id fun ⟨g, cells, Ys, hA, hg, hb, hs, h1, h2, h3⟩ => by
    refine ⟨g, cells, fun i b => Ys i b ∧ b < H.size, hA, hy.in hg hb, hy.blk hg hb, hs, fun i b ⟨hi, hl⟩ => ⟨(hy b (h1 i b hi).1 hl).1, (h1 i b hi).2⟩, fun i j b hi hj => h2 i j b hi.1 hj.1, fun i x hx => ?_⟩
    obtain ⟨cs, hr, hc⟩ := h3 i x hx
    exact ⟨cs, O.keep hz (fun b hb hl => ⟨⟨hb, hl⟩, (hy b (h1 i b hb).1 hl).2⟩) hr, hc⟩⟩
theorem SlO.nil (O : Mr α) (e : Nat) (Z Y : Nat → Prop) (H : Heap) : SlO O e Z Y H none 0 [] := ⟨Nat.zero_le _, by simp, .inl ⟨rfl, rfl⟩⟩
theorem SlO.read (h : SlO O e Z Y H A c xs) (hz : ∀ i, Z i → Z' i) (hy : ∀ i, Y i → Z' i) : SlF O.rd Z' H A c xs :=
  ⟨h.cap, h.lt, fun i x hx => by
    have hi := (List.getElem?_eq_some_iff.1 hx).1
    rcases h.blk with ⟨rfl, rfl⟩ | ⟨g, cells, Ys, hA, hg, hb, hs, h1, h2, h3⟩
    · have := h.cap; omega
    · obtain ⟨cs, hr, hc⟩ := h3 i x hx
      exact ⟨_, cs, hA, O.read hz (fun b hb => hy _ (h1 i b hb).1) hr, fun j v hj => ⟨hy _ hg, by rw [add_mk, cell_blk hb]; exact hc j v hj⟩⟩⟩
/-- One element: where it lies, and what becomes of the whole when it turns. -/
theorem SlO.lens (h : SlO O e Z Y H A c xs) {i : Int} (h0 : 0 ≤ i) {x : α} (hx : xs[i.toNat]? = some x) :
    ∃ (g : Nat) (cs : List Value) (Yi : Nat → Prop), A = some ⟨g, 0, none⟩ ∧ Y g ∧ g < H.size ∧ i < (xs.length : Int) ∧ (∀ b, Yi b → Y b ∧ b ≠ g) ∧ O.rep Z Yi H x cs ∧
      (∀ (j : Nat) (v : Value), cs[j]? = some v → cellH H ((Addr.mk g 0 none).add (i.toNat * O.rd.sz + j)) = some v) ∧
      -- the element's own memory turns, its cells stay
      (∀ {H' : Heap} {Z' Y' Yi' : Nat → Prop} {x' : α}, Fr Z H Z' H' → (∀ b, Y b → ¬ Yi b → b < H.size → Y' b ∧ H'[b]? = H[b]?) → (∀ b, Yi' b → Y' b ∧ (b < H.size → Yi b)) → O.rep Z' Yi' H' x' cs → SlO O e Z' Y' H' A c (xs.set i.toNat x')) ∧
      -- its cells are written
      (∀ {Z' Y' Yi' : Nat → Prop} {H1 : Heap} {x' : α} {cs' : List Value} {o : Nat} {vs : List Value}, Fr Z H Z' H1 → Fr Y H Y' H1 → ¬ Z' g → (∀ b, Yi' b → Y' b ∧ (b < H.size → ¬ Y b ∨ Yi b) ∧ b ≠ g) → O.rep Z' Yi' (setsH H1 ((Addr.mk g 0 none).add (i.toNat * O.rd.sz + o)) 0 vs) x' cs' →
        o + vs.length ≤ O.rd.sz → (∀ (j : Nat), cs'[j]? = if o ≤ j ∧ j < o + vs.length then vs[j - o]? else cs[j]?) → MayWrite H1 ((Addr.mk g 0 none).add (i.toNat * O.rd.sz + o)) vs.length ∧
        SlO O e Z' Y' (setsH H1 ((Addr.mk g 0 none).add (i.toNat * O.rd.sz + o)) 0 vs) A c (xs.set i.toNat x')) := by
  have hi := (List.getElem?_eq_some_iff.1 hx).1
  have hcap := h.cap
  rcases h.blk with ⟨rfl, rfl⟩ | ⟨g, cells, Ys, hA, hg, hb, hs, h1, h2, h3⟩
  · omega
  obtain ⟨cs, hr, hc⟩ := h3 _ x hx
  refine ⟨g, cs, Ys i.toNat, hA, hg, lt_of_get hb, by omega, h1 _, hr, fun j v hj => by rw [add_mk, cell_blk hb]; exact hc j v hj, ?_, ?_⟩
  · intro H' Z' Y' Yi' x' hz hy hyi hr'
    have hgy : ¬ Ys i.toNat g := fun hh => (h1 _ _ hh).2 rfl
    refine ⟨by simpa using hcap, by simpa using h.lt, .inr ⟨g, cells, fun k b => if k = i.toNat then Yi' b ∧ b ≠ g else Ys k b ∧ b < H.size, hA, (hy g hg hgy (lt_of_get hb)).1, (hy g hg hgy (lt_of_get hb)).2.trans hb, hs, ?_, ?_, ?_⟩⟩
    · intro k b hk
      by_cases hki : k = i.toNat
      · simp only [hki, if_true] at hk
        exact ⟨(hyi b hk.1).1, hk.2⟩
      · simp only [hki, if_false] at hk
        exact ⟨(hy b (h1 k b hk.1).1 (fun hh => hki (h2 _ _ _ hk.1 hh)) hk.2).1, (h1 k b hk.1).2⟩
    · intro k l b hk hl
      by_cases hki : k = i.toNat <;> by_cases hli : l = i.toNat
      · rw [hki, hli]
      · simp only [hki, if_true] at hk
        simp only [hli, if_false] at hl
        exact absurd (h2 _ _ _ hl.1 ((hyi b hk.1).2 hl.2)) hli
      · simp only [hki, if_false] at hk
        simp only [hli, if_true] at hl
        exact absurd (h2 _ _ _ hk.1 ((hyi b hl.1).2 hk.2)) hki
      · simp only [hki, if_false] at hk
        simp only [hli, if_false] at hl
        exact h2 _ _ _ hk.1 hl.1
    · intro k y hy'
      rw [List.getElem?_set] at hy'
      by_cases hki : i.toNat = k
      · subst hki
        rw [if_pos rfl, if_pos hi] at hy'
        cases hy'
        exact ⟨cs, by simp only [if_true]; refine O.keep (Fr.refl _ _) ?_ hr'; exact fun b hbi _ => ⟨⟨hbi, fun hbg => by rw [hbg] at hbi; exact hgy ((hyi _ hbi).2 (lt_of_get hb))⟩, rfl⟩, hc⟩
      · rw [if_neg hki] at hy'
        obtain ⟨cs2, hr2, hc2⟩ := h3 k y hy'
        refine ⟨cs2, ?_, hc2⟩
        simp only [Ne.symm hki, if_false]
        exact O.keep hz (fun b hbk hbl => ⟨⟨hbk, hbl⟩, (hy b (h1 k b hbk).1 (fun hh => hki (h2 _ _ _ hh hbk)) hbl).2⟩) hr2
  · intro Z' Y' Yi' H1 x' cs' o vs hz hy hgz hyi hr' hov hcs'
    have hcl := O.len hr
    have hb1 := hy.blk hg hb
    have hmul : i.toNat * O.rd.sz + O.rd.sz ≤ c * O.rd.sz := by
      have := Nat.mul_le_mul_right O.rd.sz (show i.toNat + 1 ≤ c by omega)
      rw [Nat.add_mul, Nat.one_mul] at this; exact this
    have ha : (Addr.mk g 0 none).add (i.toNat * O.rd.sz + o) = ⟨g, i.toNat * O.rd.sz + o, none⟩ := add_mk _ _
    rw [ha] at hr' ⊢
    obtain ⟨cells', hb', hs', hget⟩ := setsH_blk vs H1 g (i.toNat * O.rd.sz + o) 0 cells e hb1 (by omega)
    refine ⟨mayWrite_blk hb1 (by omega), by simpa using hcap, by simpa using h.lt, .inr ⟨g, cells', fun k b => if k = i.toNat then Yi' b else Ys k b ∧ b < H.size, hA, hy.in hg hb, hb', by omega, ?_, ?_, ?_⟩⟩
    · intro k b hk
      by_cases hki : k = i.toNat
      · simp only [hki, if_true] at hk
        exact ⟨(hyi b hk).1, (hyi b hk).2.2⟩
      · simp only [hki, if_false] at hk
        exact ⟨(hy b (h1 k b hk.1).1 hk.2).1, (h1 k b hk.1).2⟩
    · intro k l b hk hl
      by_cases hki : k = i.toNat <;> by_cases hli : l = i.toNat
      · rw [hki, hli]
      · simp only [hki, if_true] at hk
        simp only [hli, if_false] at hl
        rcases (hyi b hk).2.1 hl.2 with hh | hh
        · exact absurd (h1 _ _ hl.1).1 hh
        · exact absurd (h2 _ _ _ hl.1 hh) hli
      · simp only [hki, if_false] at hk
        simp only [hli, if_true] at hl
        rcases (hyi b hl).2.1 hk.2 with hh | hh
        · exact absurd (h1 _ _ hk.1).1 hh
        · exact absurd (h2 _ _ _ hk.1 hh) hki
      · simp only [hki, if_false] at hk
        simp only [hli, if_false] at hl
        exact h2 _ _ _ hk.1 hl.1
    · intro k y hy'
      rw [List.getElem?_set] at hy'
      by_cases hki : i.toNat = k
      · subst hki
        rw [if_pos rfl, if_pos hi] at hy'
        cases hy'
        refine ⟨cs', by simpa using hr', fun j v hj => ?_⟩
        rw [hcs' j] at hj
        rw [hget]
        by_cases hjo : o ≤ j ∧ j < o + vs.length
        · rw [if_pos hjo] at hj
          rw [if_pos (by omega), ← hj]
          congr 1; omega
        · rw [if_neg hjo] at hj
          rw [if_neg (by omega)]
          exact hc j v hj
      · rw [if_neg hki] at hy'
        obtain ⟨cs2, hr2, hc2⟩ := h3 k y hy'
        have hl2 := O.len hr2
        have hkn := (List.getElem?_eq_some_iff.1 hy').1
        refine ⟨cs2, ?_, fun j v hj => ?_⟩
        · simp only [Ne.symm hki, if_false]
          refine O.keep (fun b hb hbl => ⟨(hz b hb hbl).1, ?_⟩) (fun b hbk hbl => ⟨⟨hbk, hbl⟩, ?_⟩) hr2
          · rw [setsH_get_ne _ _ _ _ _ (fun q : b = g => hgz (q ▸ (hz b hb hbl).1))]; exact (hz b hb hbl).2
          · rw [setsH_get_ne _ _ _ _ _ (show b ≠ g from (h1 k b hbk).2)]; exact (hy b (h1 k b hbk).1 hbl).2
        · have hjl := (List.getElem?_eq_some_iff.1 hj).1
          rw [hget, if_neg]
          · exact hc2 j v hj
          · rintro ⟨q1, q2⟩
            rcases Nat.lt_or_gt_of_ne hki with hlt | hgt
            · have := Nat.mul_le_mul_right O.rd.sz (show i.toNat + 1 ≤ k by omega)
              rw [Nat.add_mul, Nat.one_mul] at this; omega
            · have := Nat.mul_le_mul_right O.rd.sz (show k + 1 ≤ i.toNat by omega)
              rw [Nat.add_mul, Nat.one_mul] at this; omega
end
end Go.Lf
