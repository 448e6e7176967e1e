import Derived.Test.YtlhcaangdenoaaaTQI
import Derived.Test.YtlhcaangdenoaaaTTypes
import Derived.Test.YtlhcaangdenoaaaTFnJuntolaw06
import Derived.Test.YtlhcaangdenoaaaTFnJuntoref06
import Derived.Test.YtlhcaangdenoaaaTFnPair
namespace Go.Lf
end Go.Lf
namespace Go.Proofs.Ytlhcaangdenoaaa.Sh
end Go.Proofs.Ytlhcaangdenoaaa.Sh
namespace Go.Proofs.Ytlhcaangdenoaaa.Sp
end Go.Proofs.Ytlhcaangdenoaaa.Sp
namespace Go.Sx
end Go.Sx
set_option linter.unusedVariables false
set_option linter.unusedSimpArgs false
namespace Go.Proofs.Ytlhcaangdenoaaa.Pl
open Go.Sx Go.Lf Go.Proofs.Ytlhcaangdenoaaa.Sh Go.Proofs.Ytlhcaangdenoaaa.Sp
theorem slices_Contains_c {s : List Nat} {v : Nat} (hl : s.length < 4611686018427387904) {K : Bool → Prop} (k : K (decide (v ∈ s))) : slices_Contains_uint64uint64.C s v K := by
  refine slices_Contains_uint64uint64.q (slices_Index_uint64uint64.q ?_)
  refine LoopQ.range s.length (fun k => ∀ j, j < k → s[j]? ≠ some v) (fun j hj => by omega) hl ?_ ?_
  · intro n next hn hI hnx
    obtain ⟨x, hx⟩ := get_some hn
    refine ctd (by omega) ⟨by omega, x, hx, ?_⟩
    by_cases hv : v = x
    · subst hv
      refine ct (beq_t rfl) ?_
      rw [decide_eq_true (mem_get hx)] at k
      rw [decide_eq_true (by omega)]; exact k
    · refine cf (beq_f (by omega)) (hnx fun j hj => ?_)
      rcases Nat.lt_or_ge j n with h' | h'
      · exact hI j h'
      · obtain rfl : j = n := by omega
        rw [hx]; intro h; cases h; exact hv rfl
  · intro next hI
    refine cfd (by omega) ?_
    rw [decide_eq_false (fun h => by obtain ⟨j, hj⟩ := List.mem_iff_getElem?.1 h; exact hI j (lt_get hj) hj)] at k
    rw [decide_eq_false (by omega)]; exact k
def rowC (p : Nat) (f : List Nat) : Int := if 201 < f.length then 3 else codeB (below p f)
def isC (p : Nat) : List (List Nat) → Int
  | [] => 0
  | f :: l => if rowC p f = 0 then isC p l else rowC p f
theorem isC_drop {p : Nat} {l : List (List Nat)} {i : Nat} {f : List Nat} (h : l[i]? = some f) : isC p (l.drop i) = if rowC p f = 0 then isC p (l.drop (i + 1)) else rowC p f := by
  obtain ⟨hi, rfl⟩ := List.getElem?_eq_some_iff.1 h
  rw [List.drop_eq_getElem_cons hi, isC]
theorem isC_zero {p : Nat} : ∀ {l : List (List Nat)}, isC p l = 0 → ∀ f ∈ l, rowC p f = 0
  | [], _, f, hf => by cases hf
  | g :: l, h, f, hf => by
    unfold isC at h
    by_cases h0 : rowC p g = 0
    · rw [if_pos h0] at h
      rcases List.mem_cons.1 hf with rfl | hf
      · exact h0
      · exact isC_zero h f hf
    · rw [if_neg h0] at h; exact (h0 h).elim
theorem poly_Is_c {p : Nat} (hp : isP p) {l : List (List Nat)} (hl : Sz l) {K : Int → Prop} (k : K (isC p l)) : poly_Is.C p l K := by
  refine poly_Is.q (field_Is_c ?_)
  rw [prm_t hp]
  refine cf rfl (LoopQ.range l.length (fun i => isC p l = isC p (l.drop i)) rfl (by have := hl.1; omega) ?_ ?_)
  · intro i next hi hI hnx
    obtain ⟨f, hf⟩ := get_some hi
    rw [isC_drop hf] at hI
    have hfl := hl.2 f (mem_get hf)
    refine ctd (by omega) ⟨by omega, f, hf, ?_⟩
    by_cases h2 : 201 < f.length
    · have e : rowC p f = 3 := by unfold rowC; rw [if_pos h2]
      rw [e, if_neg (by decide)] at hI
      rw [hI] at k
      exact ctd (by omega) k
    · have e : rowC p f = codeB (below p f) := by unfold rowC; rw [if_neg h2]
      refine cfd (by omega) (field_Below_c (by omega) ?_)
      rw [← e]
      by_cases h0 : rowC p f = 0
      · rw [if_pos h0] at hI
        exact cf (bne_f h0) (hnx hI)
      · rw [if_neg h0] at hI
        rw [hI] at k
        exact ct (bne_t h0) k
  · intro next hI
    rw [List.drop_length] at hI
    rw [hI] at k
    exact cfd (by omega) k
open Classical in
noncomputable def rowsC (p : Nat) (xs : List Nat) (l : List (List Nat)) : Int :=
  if 13 < xs.length then 3 else if l.length ≠ xs.length then 2 else if below p xs = false then 2 else if xs.Nodup then isC p l else 6
structure RowsOk (p : Nat) (xs : List Nat) (l : List (List Nat)) : Prop where
  few : xs.length ≤ 13
  len : l.length = xs.length
  lt : ∀ x ∈ xs, x < p
  nd : xs.Nodup
  short : ∀ r ∈ l, r.length ≤ 201
  bel : ∀ r ∈ l, ∀ a ∈ r, a < p
theorem rows_ok {p : Nat} {xs : List Nat} {l : List (List Nat)} (h : rowsC p xs l = 0) : RowsOk p xs l := by
  unfold rowsC at h
  by_cases h1 : 13 < xs.length
  · rw [if_pos h1] at h; exact absurd h (by decide)
  rw [if_neg h1] at h
  by_cases h2 : l.length ≠ xs.length
  · rw [if_pos h2] at h; exact absurd h (by decide)
  rw [if_neg h2] at h
  by_cases h3 : below p xs = false
  · rw [if_pos h3] at h; exact absurd h (by decide)
  rw [if_neg h3] at h
  by_cases h4 : xs.Nodup
  · rw [if_pos h4] at h
    have hr := isC_zero h
    have hr2 : ∀ r ∈ l, r.length ≤ 201 ∧ ∀ a ∈ r, a < p := fun r hr' => by
      have := hr r hr'
      unfold rowC at this
      by_cases h5 : 201 < r.length
      · rw [if_pos h5] at this; exact absurd this (by decide)
      · rw [if_neg h5] at this
        rcases codeB_cases p r with hb | ⟨_, hb⟩
        · rw [hb] at this; exact absurd this (by decide)
        · exact ⟨by omega, hb⟩
    exact ⟨by omega, by omega, fun x hx => below_lt (by simpa using h3) hx, h4, fun r h => (hr2 r h).1, fun r h => (hr2 r h).2⟩
  · rw [if_neg h4] at h; exact absurd h (by decide)
theorem below_code {p : Nat} {xs : List Nat} : (below p xs = false ∧ codeB (below p xs) = 2) ∨ (below p xs ≠ false ∧ codeB (below p xs) = 0) := by
  cases h : below p xs with
  | true => exact .inr ⟨by simp, rfl⟩
  | false => exact .inl ⟨rfl, rfl⟩
theorem pair_rows_c {p : Nat} (hp : isP p) {xs : List Nat} {l : List (List Nat)} (hX : xs.length ≤ 17592186044416) (hl : Sz l) {K : Int → Prop} (k : K (rowsC p xs l)) : pair_rows.C p xs l K := by
  apply pair_rows.q
  unfold pair_rows.Q
  unfold rowsC at k
  by_cases h1 : 13 < xs.length
  · rw [if_pos h1] at k; exact ctd (by omega) k
  rw [if_neg h1] at k
  refine cfd (by omega) ?_
  by_cases h2 : l.length ≠ xs.length
  · rw [if_pos h2] at k; exact ct (bne_t (by omega)) k
  rw [if_neg h2] at k
  refine cf (bne_f (by omega)) (field_Below_c (by omega) ?_)
  rcases below_code (p := p) (xs := xs) with ⟨h3, e⟩ | ⟨h3, e⟩
  · rw [if_pos h3] at k; rw [e]; exact ct rfl k
  rw [if_neg h3] at k
  rw [e]
  refine cf rfl ?_
  refine LoopQ.range xs.length (fun n => ∀ (i j x : Nat), i < n → j < i → xs[i]? = some x → xs[j]? ≠ some x) (fun i j x hi => by omega) (by omega) ?_ ?_
  · intro n next hn hI hnx
    obtain ⟨x, hx⟩ := get_some hn
    refine ctd (by omega) ⟨by omega, x, hx, by omega, by omega, slices_Contains_c (by simp; omega) ?_⟩
    rw [toNat_c]
    by_cases hm : x ∈ xs.take n
    · rw [decide_eq_true hm]
      rw [if_neg (fun hnd => by
        obtain ⟨j, hj⟩ := List.mem_iff_getElem?.1 hm
        have hjn : j < n := by have := lt_get hj; simp at this; omega
        rw [List.getElem?_take_of_lt hjn] at hj
        exact nodup_iff.1 hnd n j x hjn hx hj)] at k
      exact ct rfl k
    · rw [decide_eq_false hm]
      refine cf rfl (hnx fun i j y hi hj hy => ?_)
      rcases Nat.lt_or_ge i n with h' | h'
      · exact hI i j y h' hj hy
      · obtain rfl : i = n := by omega
        rw [hx] at hy; cases hy
        intro h
        exact hm (mem_get (by rw [List.getElem?_take_of_lt hj]; exact h))
  · intro next hI
    rw [if_pos (nodup_iff.2 fun i j x hj hx => hI i j x (lt_get hx) hj hx)] at k
    exact cfd (by omega) (poly_Is_c hp hl k)
theorem juntoref06_Rows_c {p : Nat} {xs : List Nat} {l : List (List Nat)} (hX : xs.length ≤ 17592186044416) (hl : Sz l) {K : Int → Prop} (k : K (rowsC p xs l)) : juntoref06_Rows.C p xs l K := by
  apply juntoref06_Rows.q
  unfold juntoref06_Rows.Q
  unfold rowsC at k
  by_cases h1 : 13 < xs.length
  · rw [if_pos h1] at k; exact ctd (by omega) k
  rw [if_neg h1] at k
  refine cfd (by omega) ?_
  by_cases h2 : l.length ≠ xs.length
  · rw [if_pos h2] at k; exact ct (bne_t (by omega)) k
  rw [if_neg h2] at k
  refine cf (bne_f (by omega)) (juntoref01_Within_c (by omega) ?_)
  rcases below_code (p := p) (xs := xs) with ⟨h3, e⟩ | ⟨h3, e⟩
  · rw [if_pos h3] at k; rw [e]; exact ct rfl k
  rw [if_neg h3] at k
  rw [e]
  refine cf rfl (juntoref02_Twice_c (by omega) ?_)
  by_cases h4 : xs.Nodup
  · rw [if_pos h4] at k
    rw [decide_eq_false (fun h => h h4)]
    refine cf rfl (LoopQ.range l.length (fun i => isC p l = isC p (l.drop i)) rfl (by have := hl.1; omega) ?_ ?_)
    · intro i next hi hI hnx
      obtain ⟨f, hf⟩ := get_some hi
      rw [isC_drop hf] at hI
      have hfl := hl.2 f (mem_get hf)
      refine ctd (by omega) ⟨by omega, f, hf, juntoref02_Within.q ?_⟩
      unfold juntoref02_Within.Q
      by_cases h2 : 201 < f.length
      · have e : rowC p f = 3 := by unfold rowC; rw [if_pos h2]
        rw [e, if_neg (by decide)] at hI
        rw [hI] at k
        exact ctd (by omega) (ct rfl k)
      · have e : rowC p f = codeB (below p f) := by unfold rowC; rw [if_neg h2]
        refine cfd (by omega) (juntoref01_Within_c (by omega) ?_)
        rw [← e]
        by_cases h0 : rowC p f = 0
        · rw [if_pos h0] at hI
          exact cf (bne_f h0) (hnx hI)
        · rw [if_neg h0] at hI
          rw [hI] at k
          exact ct (bne_t h0) k
    · intro next hI
      rw [List.drop_length] at hI
      rw [hI] at k
      exact cfd (by omega) k
  · rw [if_neg h4] at k
    rw [decide_eq_true h4]
    exact ct rfl k
end Go.Proofs.Ytlhcaangdenoaaa.Pl
