import Derived.Test.YtlhcaangdenoaaaRep
set_option linter.unusedVariables false
namespace Go.Sx
/-- A list of rows of a call's own: block g holds the rows' slices, block b the cells of one row. -/
structure Mat {α : Type} (enc : α → Value) (te eo : Nat) (S : Nat → Prop) (H : Heap) (g m : Nat) (bs : List Nat) (M : List (List α)) (rest : List Value) : Prop where
  outer : H[g]? = some (.cells ((bs.map fun b => Value.slice (some (Addr.mk b 0 none)) m m) ++ rest).toArray eo (0, 0))
  sg : S g
  len : bs.length = M.length
  row : ∀ (i b : Nat) (xs : List α), bs[i]? = some b → M[i]? = some xs → H[b]? = some (.cells (xs.map enc).toArray te (0, 0)) ∧ xs.length = m ∧ S b ∧ b ≠ g
  inj : ∀ (i j b : Nat), bs[i]? = some b → bs[j]? = some b → i = j
def set2 {α : Type} (M : List (List α)) (i k : Nat) (x : α) : List (List α) := M.set i ((M[i]?.getD []).set k x)
section
variable {α : Type} {enc : α → Value} {te eo : Nat} {S S' : Nat → Prop} {H H' : Heap} {g m : Nat} {bs : List Nat} {M : List (List α)} {rest : List Value}
theorem Mat.keep (h : Mat enc te eo S H g m bs M rest) (hf : On S H H') : Mat enc te eo S H' g m bs M rest :=
  ⟨(hf g h.sg (lt_of_get h.outer)).trans h.outer, h.sg, h.len, fun i b xs hb hx => by
    obtain ⟨h1, h2, h3, h4⟩ := h.row i b xs hb hx
    exact ⟨(hf b h3 (lt_of_get h1)).trans h1, h2, h3, h4⟩, h.inj⟩
theorem Mat.ext (h : Mat enc te eo S H g m bs M rest) (hf : Ext H H') : Mat enc te eo S H' g m bs M rest := h.keep (hf.on S)
theorem Mat.wider (h : Mat enc te eo S H g m bs M rest) (hS : ∀ i, S i → S' i) : Mat enc te eo S' H g m bs M rest :=
  ⟨h.outer, hS _ h.sg, h.len, fun i b xs hb hx => by
    obtain ⟨h1, h2, h3, h4⟩ := h.row i b xs hb hx
    exact ⟨h1, h2, hS _ h3, h4⟩, h.inj⟩
theorem Mat.blk (h : Mat enc te eo S H g m bs M rest) {i : Nat} (hi : i < M.length) :
    ∃ b xs, bs[i]? = some b ∧ M[i]? = some xs ∧ xs.length = m ∧ S b ∧ b ≠ g ∧ H[b]? = some (.cells (xs.map enc).toArray te (0, 0)) ∧ cellH H ((Addr.mk g 0 none).add i) = some (.slice (some (Addr.mk b 0 none)) m m) := by
  have hib : i < bs.length := by rw [h.len]; exact hi
  obtain ⟨h1, h2, h3, h4⟩ := h.row i _ _ (List.getElem?_eq_getElem hib) (List.getElem?_eq_getElem hi)
  refine ⟨_, _, List.getElem?_eq_getElem hib, List.getElem?_eq_getElem hi, h2, h3, h4, h1, ?_⟩
  rw [add_mk, cell_blk h.outer, List.getElem?_toArray, List.getElem?_append_left (by simpa using hib)]
  simp [hib]
theorem Mat.set (h : Mat enc te eo S H g m bs M rest) {i k b : Nat} (hb : bs[i]? = some b) (hk : k < m) (x : α) :
    MayWrite H ((Addr.mk b 0 none).add k) 1 ∧ Mat enc te eo S (setH H ((Addr.mk b 0 none).add k) (enc x)) g m bs (set2 M i k x) rest := by
  have hi : i < M.length := by rw [← h.len]; exact (List.getElem?_eq_some_iff.1 hb).1
  obtain ⟨b', xs, hb', hxs, hlen, hSb, hbg, hcell, _⟩ := h.blk hi
  rw [hb] at hb'; cases hb'
  refine ⟨by rw [add_mk]; exact mayWrite_blk hcell (by simp; omega), ?_⟩
  have e : set2 M i k x = M.set i (xs.set k x) := by simp [set2, hxs]
  rw [e]
  refine ⟨?_, h.sg, by simp [h.len], fun j c ys hc hy => ?_, h.inj⟩
  · rw [add_mk, setH_get_ne _ _ _ _ (fun q => hbg q.symm)]; exact h.outer
  · rw [List.getElem?_set] at hy
    by_cases hj : i = j
    · subst hj
      rw [hb] at hc; cases hc
      rw [if_pos rfl, if_pos hi] at hy
      cases hy
      refine ⟨?_, by simp [hlen], hSb, hbg⟩
      rw [add_mk]
      have := setH_get_eq (i := k) hcell (enc x)
      rw [this]
      simp [List.setIfInBounds_toArray, List.map_set]
    · rw [if_neg hj] at hy
      obtain ⟨h1, h2, h3, h4⟩ := h.row j c ys hc hy
      refine ⟨?_, h2, h3, h4⟩
      rw [add_mk, setH_get_ne _ _ _ _ (fun q => hj (h.inj i j c (by rw [hb, q]) hc))]
      exact h1
/-- The rows made so far, and a new one. -/
theorem Mat.row_new {z : Value} (h : Mat enc te eo S H g m bs M (z :: rest)) (xs : List α) (hx : xs.length = m) (hS : S H.size) :
    MayWrite (H.push (.cells (xs.map enc).toArray te (0, 0))) ((Addr.mk g 0 none).add bs.length) 1 ∧
    Mat enc te eo S (setH (H.push (.cells (xs.map enc).toArray te (0, 0))) ((Addr.mk g 0 none).add bs.length) (.slice (some (Addr.mk H.size 0 none)) m m)) g m (bs ++ [H.size]) (M ++ [xs]) rest := by
  have hE := Ext.push H (.cells (xs.map enc).toArray te (0, 0))
  have hg := lt_of_get h.outer
  have ho := (hE.get g hg).trans h.outer
  refine ⟨by rw [add_mk]; exact mayWrite_blk ho (by simp), ?_, h.sg, by simp [h.len], fun i b ys hb hy => ?_, fun i j b hi hj => ?_⟩
  · rw [add_mk]
    have := setH_get_eq (i := bs.length) ho (.slice (some (Addr.mk H.size 0 none)) m m)
    rw [this]
    simp
  · rw [add_mk]
    by_cases hi : i < bs.length
    · rw [List.getElem?_append_left hi] at hb
      rw [List.getElem?_append_left (by rw [← h.len]; exact hi)] at hy
      obtain ⟨h1, h2, h3, h4⟩ := h.row i b ys hb hy
      exact ⟨by rw [setH_get_ne _ _ _ _ h4, hE.get _ (lt_of_get h1)]; exact h1, h2, h3, h4⟩
    · have hlt := (List.getElem?_eq_some_iff.1 hb).1
      simp at hlt
      obtain rfl : i = bs.length := by omega
      rw [List.getElem?_append_right (Nat.le_refl _)] at hb
      rw [List.getElem?_append_right (by rw [h.len]; exact Nat.le_refl _), h.len] at hy
      simp at hb hy
      subst hb; subst hy
      have hne : H.size ≠ g := by omega
      exact ⟨by rw [setH_get_ne _ _ _ _ hne]; exact get_push_new H _, hx, hS, hne⟩
  · have hold : ∀ i b, bs[i]? = some b → b < H.size := fun i b hb => by
      have hi : i < M.length := by rw [← h.len]; exact (List.getElem?_eq_some_iff.1 hb).1
      obtain ⟨b', ys, hb', hys, _, _, _, hc, _⟩ := h.blk hi
      rw [hb] at hb'; cases hb'
      exact lt_of_get hc
    by_cases h1 : i < bs.length <;> by_cases h2 : j < bs.length
    · rw [List.getElem?_append_left h1] at hi
      rw [List.getElem?_append_left h2] at hj
      exact h.inj i j b hi hj
    · rw [List.getElem?_append_left h1] at hi
      rw [List.getElem?_append_right (by omega)] at hj
      have := (List.getElem?_eq_some_iff.1 hj)
      simp at this
      have := hold _ _ hi
      omega
    · rw [List.getElem?_append_left h2] at hj
      rw [List.getElem?_append_right (by omega)] at hi
      have := (List.getElem?_eq_some_iff.1 hi)
      simp at this
      have := hold _ _ hj
      omega
    · rw [List.getElem?_append_right (by omega)] at hi hj
      have := (List.getElem?_eq_some_iff.1 hi).1
      have := (List.getElem?_eq_some_iff.1 hj).1
      simp at *
      omega
theorem Mat.start (n : Nat) (z : Value) (hS : S H.size) : Mat enc te eo S (H.push (.cells (repl n [z]).toArray eo (0, 0))) H.size m [] [] (List.replicate n z) :=
  ⟨by rw [get_push_new, repl_one]; rfl, hS, rfl, fun i b xs hb => by simp at hb, fun i j b hb => by simp at hb⟩
theorem Mat.sl {E : Rel α} (hE : ∀ S H x, E S H x (enc x)) (h : Mat enc te eo S H g m bs M []) (hn : M.length ≤ 17592186044416) (hm : m ≤ 17592186044416) : Sl (slR E) S H (some (Addr.mk g 0 none)) M.length M.length M :=
  ⟨rfl, Nat.le_refl _, hn, fun i xs hx => by
    have hi := (List.getElem?_eq_some_iff.1 hx).1
    obtain ⟨b, xs', hb, hxs, hlen, hSb, hbg, hcell, hc⟩ := h.blk hi
    rw [hx] at hxs; cases hxs
    refine ⟨_, _, rfl, h.sg, hc, _, _, _, rfl, by omega, Nat.le_refl _, hm, fun k x hk => ?_⟩
    refine ⟨_, enc x, rfl, hSb, ?_, hE _ _ _⟩
    rw [add_mk, cell_blk hcell]
    simp [hk]⟩
theorem Mat.inside (h : Mat enc te eo S H g m bs M rest) : Mat enc te eo (fun i => S i ∧ i < H.size) H g m bs M rest :=
  ⟨h.outer, ⟨h.sg, lt_of_get h.outer⟩, h.len, fun i b xs hb hx => by
    obtain ⟨h1, h2, h3, h4⟩ := h.row i b xs hb hx
    exact ⟨h1, h2, ⟨h3, lt_of_get h1⟩, h4⟩, h.inj⟩
theorem Sl.inside {A : Option Addr} {n c : Nat} {xs : List Nat} (h : Sl u64R S H A n c xs) : Sl u64R (fun i => S i ∧ i < H.size) H A n c xs :=
  ⟨h.len, h.cap, h.lt, fun i x hx => by
    obtain ⟨a, v, ha, hb, hc, he⟩ := h.get i x hx
    have := lt_of_cell hc
    rw [add_block] at this
    exact ⟨a, v, ha, ⟨hb, this⟩, hc, he⟩⟩
theorem Ext.set {H0 : Heap} (h : Ext H0 H) {a : Addr} (ha : H0.size ≤ a.block) (v : Value) : Ext H0 (setH H a v) := (But.setH H a v).ext h (fun i hi => by cases hi; exact ha)
theorem On.set (H : Heap) {a : Addr} (ha : ¬ S a.block) (v : Value) : On S H (setH H a v) := (But.setH H a v).on (fun i hi => by cases hi; exact ha)
end
end Go.Sx
