import Derived.Test.YtlhcaangdenoaaaUQ1
import Derived.Test.YtlhcaangdenoaaaUFnPair
import Derived.Test.YtlhcaangdenoaaaUFnJuntoref06
import Derived.Test.YtlhcaangdenoaaaUFnJuntolaw06
namespace Go.Lf
end Go.Lf
namespace Go.Proofs.Ytlhcaangdenoaaa.Sh
end Go.Proofs.Ytlhcaangdenoaaa.Sh
namespace Go.Proofs.Ytlhcaangdenoaaa.Sp
end Go.Proofs.Ytlhcaangdenoaaa.Sp
namespace Go.Sx
end Go.Sx
set_option linter.unusedVariables false
namespace Go.Proofs.Ytlhcaangdenoaaa.Pl
open Go.Sx Go.Lf Go.Proofs.Ytlhcaangdenoaaa.Sh Go.Proofs.Ytlhcaangdenoaaa.Sp
def isP (p : Nat) : Prop := 3 ≤ p ∧ p ≤ 65537 ∧ ∀ d, 2 ≤ d → d * d ≤ p → p % d ≠ 0
open Classical in
noncomputable def prm (p : Nat) : Bool := decide (isP p)
theorem prm_t {p : Nat} (h : isP p) : prm p = true := by unfold prm; simp [h]
theorem prm_f {p : Nat} (h : ¬ isP p) : prm p = false := by unfold prm; simp [h]
theorem prm_iff {p : Nat} : prm p = true ↔ isP p := by unfold prm; simp
theorem sq_lt {s p : Nat} (h : s * s ≤ p) (hp : p ≤ 65537) : s ≤ 256 := by
  rcases Nat.lt_or_ge 256 s with h' | h'
  · have := Nat.mul_le_mul h' h'; omega
  · exact h'
theorem sq_small {s : Nat} (h : s ≤ 258) : s * s < 18446744073709551616 := by
  have := Nat.mul_le_mul h h; omega
theorem field_Is_c {p : Nat} {K : Bool → Prop} (k : K (prm p)) : field_Is.C p K := by
  apply field_Is.q
  unfold field_Is.Q
  by_cases h1 : p < 3
  · rw [prm_f (fun h => by have := h.1; omega)] at k; exact ctd (by omega) k
  refine cfd (by omega) ?_
  by_cases h2 : 65537 < p
  · rw [prm_f (fun h => by have := h.2.1; omega)] at k; exact ctd (by omega) k
  refine cfd (by omega) ⟨by omega, ?_⟩
  rw [show Int.tmod (p : Int) 2 = ((p % 2 : Nat) : Int) from rfl]
  by_cases h3 : p % 2 = 0
  · rw [prm_f (fun h => h.2.2 2 (by omega) (by omega) h3)] at k; exact ct (beq_t (by omega)) k
  refine cf (beq_f (by omega)) ?_
  refine LoopQ.down (fun s => 3 ≤ s ∧ s ≤ 258 ∧ s % 2 = 1 ∧ ∀ d, 2 ≤ d → d < s → d * d ≤ p → p % d ≠ 0) (fun s => 1000 - s) ⟨by omega, by omega, by omega, fun d h2 h3' h4 => by rw [show d = 2 by omega]; exact h3⟩ ?_
  rintro s next ⟨hs1, hs2, hs3, hd⟩ hn
  rw [show (s : Int) * s = ((s * s : Nat) : Int) by simp, uw (sq_small hs2)]
  by_cases hle : s * s ≤ p
  · refine ctd (by omega) ⟨by omega, ?_⟩
    rw [tmod_nat]
    have hs := sq_lt hle (by omega)
    by_cases hz : p % s = 0
    · rw [prm_f (fun h => h.2.2 s (by omega) hle hz)] at k; exact ct (beq_t (by omega)) k
    · refine cf (beq_f (by omega)) ?_
      rw [show (s : Int) + 2 = ((s + 2 : Nat) : Int) by omega, uw (by omega), toNat_c]
      refine hn _ (by omega) ⟨by omega, by omega, by omega, fun d h2 hlt hdd => ?_⟩
      rcases Nat.lt_or_ge d s with h' | h'
      · exact hd d h2 h' hdd
      · rcases Nat.eq_or_lt_of_le h' with rfl | h''
        · exact hz
        · have : d = s + 1 := by omega
          subst this
          intro hh
          have h5 : (2 : Nat) ∣ p := Nat.dvd_trans (by omega) (Nat.dvd_of_mod_eq_zero hh)
          omega
  · refine cfd (by omega) ?_
    rw [prm_t ⟨by omega, by omega, fun d h2 hdd => hd d h2 (by
      rcases Nat.lt_or_ge d s with h' | h'
      · exact h'
      · have := Nat.mul_le_mul h' h'; omega) hdd⟩] at k
    exact k
theorem juntoref01_Is_c {p : Nat} {K : Bool → Prop} (k : K (prm p)) : juntoref01_Is.C p K := by
  apply juntoref01_Is.q
  unfold juntoref01_Is.Q
  by_cases h1 : p < 3
  · rw [prm_f (fun h => by have := h.1; omega)] at k; exact ctd (by omega) k
  refine cfd (by omega) ?_
  by_cases h2 : 65537 < p
  · rw [prm_f (fun h => by have := h.2.1; omega)] at k; exact ctd (by omega) k
  refine cfd (by omega) ?_
  refine LoopQ.down (fun s => 2 ≤ s ∧ s ≤ 258 ∧ ∀ d, 2 ≤ d → d < s → d * d ≤ p → p % d ≠ 0) (fun s => 1000 - s) ⟨by omega, by omega, fun d h2 h3' h4 => by omega⟩ ?_
  rintro s next ⟨hs1, hs2, hd⟩ hn
  rw [show (s : Int) * s = ((s * s : Nat) : Int) by simp, uw (sq_small hs2)]
  by_cases hle : s * s ≤ p
  · refine ctd (by omega) ⟨by omega, ?_⟩
    rw [tmod_nat]
    have hs := sq_lt hle (by omega)
    by_cases hz : p % s = 0
    · rw [prm_f (fun h => h.2.2 s (by omega) hle hz)] at k; exact ct (beq_t (by omega)) k
    · refine cf (beq_f (by omega)) ?_
      rw [show (s : Int) + 1 = ((s + 1 : Nat) : Int) by omega, uw (by omega), toNat_c]
      refine hn _ (by omega) ⟨by omega, by omega, fun d h2 hlt hdd => ?_⟩
      rcases Nat.lt_or_ge d s with h' | h'
      · exact hd d h2 h' hdd
      · obtain rfl : d = s := by omega
        exact hz
  · refine cfd (by omega) ?_
    rw [prm_t ⟨by omega, by omega, fun d h2 hdd => hd d h2 (by
      rcases Nat.lt_or_ge d s with h' | h'
      · exact h'
      · have := Nat.mul_le_mul h' h'; omega) hdd⟩] at k
    exact k
def tab {α : Type} (n : Nat) (g : Nat → α) : List α := (List.range n).map g
def mat (n : Nat) (g : Nat → Nat → Nat) : List (List Nat) := tab n fun i => tab n (g i)
theorem tab_len {α : Type} (n : Nat) (g : Nat → α) : (tab n g).length = n := by simp [tab]
theorem tab_get {α : Type} {n i : Nat} (g : Nat → α) (h : i < n) : (tab n g)[i]? = some (g i) := by simp [tab, h]
theorem tab_get_inv {α : Type} {n i : Nat} {g : Nat → α} {x : α} (h : (tab n g)[i]? = some x) : i < n ∧ x = g i := by
  have hl := lt_get h
  rw [tab_len] at hl
  rw [tab_get g hl] at h; cases h; exact ⟨hl, rfl⟩
theorem tab_ext {α : Type} {n : Nat} {g g' : Nat → α} (h : ∀ i, i < n → g i = g' i) : tab n g = tab n g' := by
  unfold tab; exact List.map_congr_left fun i hi => h i (List.mem_range.1 hi)
theorem tab_of {α : Type} {n : Nat} {l : List α} {g : Nat → α} (hl : l.length = n) (h : ∀ i x, l[i]? = some x → x = g i) : l = tab n g := by
  apply List.ext_getElem?
  intro i
  rcases Nat.lt_or_ge i n with hi | hi
  · obtain ⟨x, hx⟩ := get_some (show i < l.length by omega)
    rw [hx, tab_get g hi, h i x hx]
  · rw [List.getElem?_eq_none (by omega), List.getElem?_eq_none (by rw [tab_len]; omega)]
theorem tab_set {α : Type} {n k : Nat} (g : Nat → α) (v : α) : (tab n g).set k v = tab n fun i => if i = k then v else g i := by
  refine tab_of (by simp [tab_len]) fun i x hx => ?_
  rw [List.getElem?_set] at hx
  by_cases h : k = i
  · subst h
    rw [if_pos rfl] at hx
    split at hx
    · cases hx; simp
    · cases hx
  · rw [if_neg h] at hx
    rw [(tab_get_inv hx).2, if_neg (fun q => h q.symm)]
theorem tab_rep {α : Type} (n : Nat) (v : α) : List.replicate n v = tab n fun _ => v := tab_of (by simp) fun i x hx => by
  obtain ⟨hi, hx⟩ := List.getElem?_eq_some_iff.1 hx
  simp at hx; exact hx.symm
theorem tab_snoc {α : Type} (n : Nat) (g : Nat → α) : tab n g ++ [g n] = tab (n + 1) g := by simp [tab, List.range_succ]
theorem tab_mem {α : Type} {n : Nat} {g : Nat → α} {x : α} (h : x ∈ tab n g) : ∃ i, i < n ∧ x = g i := by
  obtain ⟨i, hi⟩ := List.mem_iff_getElem?.1 h
  exact ⟨i, tab_get_inv hi⟩
theorem mat_set {n i k : Nat} (g : Nat → Nat → Nat) (v : Nat) : (mat n g).set i ((tab n (g i)).set k v) = mat n fun a b => if a = i ∧ b = k then v else g a b := by
  unfold mat
  rw [tab_set, tab_set]
  refine tab_ext fun a ha => ?_
  by_cases h : a = i
  · subst h
    rw [if_pos rfl]
    exact tab_ext fun b hb => by simp
  · rw [if_neg h]
    exact tab_ext fun b hb => by simp [h]
def at2 (F : List (List Nat)) (i k : Nat) : Nat := (F[i]?.getD [])[k]?.getD 0
theorem at2_eq {F : List (List Nat)} {i k x : Nat} {r : List Nat} (h : F[i]? = some r) (hx : r[k]? = some x) : at2 F i k = x := by simp [at2, h, hx]
theorem at2_mat {n i k : Nat} (g : Nat → Nat → Nat) (hi : i < n) (hk : k < n) : at2 (mat n g) i k = g i k := at2_eq (tab_get _ hi) (tab_get _ hk)
structure Pr (p d : Nat) (F : List (List Nat)) : Prop where
  len : F.length = d + 1
  row : ∀ r ∈ F, r.length = d + 1
  bel : ∀ r ∈ F, below p r = true
  sym : ∀ i k, i < d + 1 → k < d + 1 → at2 F i k = at2 F k i
theorem Pr.mat {p d : Nat} {F : List (List Nat)} (h : Pr p d F) : F = mat (d + 1) (at2 F) :=
  tab_of h.len fun i r hr => tab_of (h.row r (mem_get hr)) fun k x hx => (at2_eq hr hx).symm
theorem below_lt {p : Nat} {l : List Nat} (h : below p l = true) {x : Nat} (hx : x ∈ l) : x < p := by
  unfold below at h; rw [List.all_eq_true] at h; simpa using h x hx
theorem below_of {p : Nat} {l : List Nat} (h : ∀ x ∈ l, x < p) : below p l = true := by
  unfold below; rw [List.all_eq_true]; intro x hx; simpa using h x hx
theorem Pr.lt {p d : Nat} {F : List (List Nat)} (h : Pr p d F) {i k : Nat} (hi : i < d + 1) (hk : k < d + 1) : at2 F i k < p := by
  obtain ⟨r, hr⟩ := get_some (show i < F.length by rw [h.len]; exact hi)
  obtain ⟨x, hx⟩ := get_some (show k < r.length by rw [h.row r (mem_get hr)]; exact hk)
  rw [at2_eq hr hx]; exact below_lt (h.bel r (mem_get hr)) (mem_get hx)
theorem Pr.of_mat {p d : Nat} {g : Nat → Nat → Nat} (hl : ∀ i k, i < d + 1 → k < d + 1 → g i k < p) (hs : ∀ i k, i < d + 1 → k < d + 1 → g i k = g k i) : Pr p d (Pl.mat (d + 1) g) where
  len := tab_len _ _
  row := fun r hr => by obtain ⟨i, hi, rfl⟩ := tab_mem hr; exact tab_len _ _
  bel := fun r hr => by
    obtain ⟨i, hi, rfl⟩ := tab_mem hr
    exact below_of fun x hx => by obtain ⟨k, hk, rfl⟩ := tab_mem hx; exact hl i k hi hk
  sym := fun i k hi hk => by rw [at2_mat g hi hk, at2_mat g hk hi]; exact hs i k hi hk
open Classical in
noncomputable def groundC (p : Nat) (t : Int) : Int := if isP p ∧ 0 ≤ t ∧ t ≤ 3 then 0 else 2
open Classical in
noncomputable def formC (p d : Nat) (F : List (List Nat)) : Int :=
  if F.length ≠ d + 1 ∨ ∃ r ∈ F, r.length ≠ d + 1 then 4 else if ∃ r ∈ F, below p r = false then 2 else if ∀ i k, i < d + 1 → k < d + 1 → at2 F i k = at2 F k i then 0 else 4
noncomputable def checkC (p : Nat) (t : Int) (F : List (List Nat)) : Int := if groundC p t = 0 then formC p t.toNat F else groundC p t
theorem ground_cases (p : Nat) (t : Int) : groundC p t = 2 ∨ (groundC p t = 0 ∧ isP p ∧ ∃ d : Nat, t = d ∧ d ≤ 3) := by
  unfold groundC
  by_cases h : isP p ∧ 0 ≤ t ∧ t ≤ 3
  · rw [if_pos h]; exact .inr ⟨rfl, h.1, t.toNat, by omega, by omega⟩
  · rw [if_neg h]; exact .inl rfl
theorem form_cases (p d : Nat) (F : List (List Nat)) : formC p d F ≠ 0 ∨ (formC p d F = 0 ∧ Pr p d F) := by
  unfold formC
  split
  · exact .inl (by decide)
  · rename_i h1
    split
    · exact .inl (by decide)
    · rename_i h2
      split
      · rename_i h3
        refine .inr ⟨rfl, ?_, ?_, ?_, h3⟩
        · exact Classical.byContradiction fun h => h1 (.inl h)
        · exact fun r hr => Classical.byContradiction fun h => h1 (.inr ⟨r, hr, h⟩)
        · exact fun r hr => by
            cases hb : below p r with
            | true => rfl
            | false => exact (h2 ⟨r, hr, hb⟩).elim
      · exact .inl (by decide)
theorem form_ok {p d : Nat} {F : List (List Nat)} (h : Pr p d F) : formC p d F = 0 := by
  unfold formC
  rw [if_neg (by rintro (h1 | ⟨r, hr, h1⟩); exact h1 h.len; exact h1 (h.row r hr)), if_neg (by rintro ⟨r, hr, h1⟩; rw [h.bel r hr] at h1; cases h1), if_pos h.sym]
theorem check_ok {p d : Nat} {F : List (List Nat)} (hp : isP p) (hd : d ≤ 3) (h : Pr p d F) : checkC p d F = 0 := by
  have hg : groundC p d = 0 := by unfold groundC; rw [if_pos ⟨hp, by omega, by omega⟩]
  unfold checkC; rw [if_pos hg]; exact form_ok h
theorem check_cases (p : Nat) (t : Int) (F : List (List Nat)) : checkC p t F ≠ 0 ∨ (checkC p t F = 0 ∧ isP p ∧ ∃ d : Nat, t = d ∧ d ≤ 3 ∧ Pr p d F) := by
  rcases ground_cases p t with hg | ⟨hg, hp, d, rfl, hd⟩
  · exact .inl (by simp [checkC, hg])
  · have e : checkC p d F = formC p d F := by unfold checkC; rw [if_pos hg]; rfl
    rw [e]
    rcases form_cases p d F with h | ⟨h, hp'⟩
    · exact .inl h
    · exact .inr ⟨h, hp, d, rfl, hd, hp'⟩
section
variable {p : Nat} {t : Int}
theorem pair_ground_c {K : Int → Prop} (k : K (groundC p t)) : pair_ground.C p t K := by
  refine pair_ground.q (field_Is_c ?_)
  unfold groundC at k
  by_cases hp : isP p
  · rw [prm_t hp]
    refine cf rfl ?_
    by_cases h1 : t < 0
    · rw [if_neg (fun h => by omega)] at k; exact ctd h1 k
    · refine cfd h1 ?_
      by_cases h2 : t > 3
      · rw [if_neg (fun h => by omega)] at k; exact ctd h2 k
      · rw [if_pos ⟨hp, by omega, by omega⟩] at k; exact cfd h2 k
  · rw [prm_f hp]
    rw [if_neg (fun h => hp h.1)] at k
    exact ct rfl k
theorem juntoref06_Bounds_c {K : Int → Prop} (k : K (groundC p t)) : juntoref06_Bounds.C p t K := by
  refine juntoref06_Bounds.q (juntoref01_Is_c ?_)
  unfold groundC at k
  by_cases hp : isP p
  · rw [prm_t hp]
    refine cf rfl ?_
    by_cases h1 : t < 0
    · rw [if_neg (fun h => by omega)] at k; exact ctd h1 k
    · refine cfd h1 ?_
      by_cases h2 : t > 3
      · rw [if_neg (fun h => by omega)] at k; exact ctd h2 k
      · rw [if_pos ⟨hp, by omega, by omega⟩] at k; exact cfd h2 k
  · rw [prm_f hp]
    rw [if_neg (fun h => hp h.1)] at k
    exact ct rfl k
def Sz (F : List (List Nat)) : Prop := F.length ≤ 17592186044416 ∧ ∀ r ∈ F, r.length ≤ 17592186044416
theorem lens_c {d : Nat} (hd : d ≤ 3) {F : List (List Nat)} (hF : Sz F) {K : Bool → Prop} (k : K (decide (∃ r ∈ F, r.length ≠ d + 1))) : slices_ContainsFunc_uint64uint64.C F (fun x K_ => pair_Check_1.C x d K_) K := by
  refine slices_ContainsFunc_uint64uint64.q (slices_IndexFunc_uint64uint64.q ?_)
  have h1 := hF.1
  refine LoopQ.range F.length (fun i => ∀ j r, j < i → F[j]? = some r → r.length = d + 1) (fun j x hj => by omega) (by omega) ?_ ?_
  · intro i next hi hI hn
    obtain ⟨x, hx⟩ := get_some hi
    refine ctd (by omega) ⟨by omega, x, hx, pair_Check_1.q ?_⟩
    have hxl := hF.2 x (mem_get hx)
    unfold pair_Check_1.Q
    rw [wsucc (k := d) (by omega)]
    by_cases h : x.length = d + 1
    · refine cf (bne_f (by omega)) (hn fun j r hj hr => ?_)
      rcases Nat.lt_or_ge j i with h' | h'
      · exact hI j r h' hr
      · obtain rfl : j = i := by omega
        rw [hx] at hr; cases hr; exact h
    · refine ct (bne_t (by omega)) ?_
      rw [decide_eq_true ⟨x, mem_get hx, h⟩] at k
      rw [decide_eq_true (by omega)]; exact k
  · intro next hI
    refine cfd (by omega) ?_
    rw [decide_eq_false (by
      rintro ⟨r, hr, h⟩
      obtain ⟨j, hj⟩ := List.mem_iff_getElem?.1 hr
      exact h (hI j r (lt_get hj) hj))] at k
    exact k
theorem pair_Check_c {F : List (List Nat)} (hF : Sz F) {K : Int → Prop} (k : K (checkC p t F)) : pair_Check.C p t F K := by
  refine pair_Check.q (pair_ground_c ?_)
  unfold checkC at k
  rcases ground_cases p t with hg | ⟨hg, hp, d, rfl, hd⟩
  · rw [hg] at k ⊢; exact ct rfl k
  rw [hg, if_pos rfl] at k
  rw [hg]
  have h1 := hF.1
  refine cf rfl ?_
  rw [wsucc (by omega)]
  rw [toNat_c] at k
  unfold formC at k
  by_cases hn : F.length = d + 1
  rotate_left
  · rw [if_pos (.inl hn)] at k; exact ct (bne_t (by omega)) k
  refine cf (bne_f (by omega)) (lens_c hd hF ?_)
  by_cases hr : ∃ r ∈ F, r.length ≠ d + 1
  · rw [decide_eq_true hr]; rw [if_pos (.inr hr)] at k; exact ct rfl k
  rw [decide_eq_false hr]
  refine cf rfl ?_
  rw [if_neg (by rintro (h | h); exact h hn; exact hr h)] at k
  have hrow : ∀ r ∈ F, r.length = d + 1 := fun r hr' => Classical.byContradiction fun hh => hr ⟨r, hr', hh⟩
  refine LoopQ.range F.length (fun i => ∀ j r, j < i → F[j]? = some r → below p r = true) (fun j x hj => by omega) (by omega) ?_ ?_
  · intro i next hi hI hnx
    obtain ⟨x, hx⟩ := get_some hi
    refine ctd (by omega) ⟨by omega, x, hx, field_Below_c (by have := hF.2 x (mem_get hx); omega) ?_⟩
    by_cases hb : below p x = true
    · rw [hb]
      refine cf rfl (hnx fun j r hj hr => ?_)
      rcases Nat.lt_or_ge j i with h' | h'
      · exact hI j r h' hr
      · obtain rfl : j = i := by omega
        rw [hx] at hr; cases hr; exact hb
    · simp at hb
      rw [if_pos ⟨x, mem_get hx, hb⟩] at k
      rw [hb]; exact ct rfl k
  intro next hI
  refine cfd (by omega) ?_
  rw [if_neg (by
    rintro ⟨r, hr, hb⟩
    obtain ⟨j, hj⟩ := List.mem_iff_getElem?.1 hr
    have := hI j r (lt_get hj) hj
    rw [hb] at this; cases this)] at k
  clear hI
  refine LoopQ.range F.length (fun i => ∀ a b, a < i → b < d + 1 → at2 F a b = at2 F b a) (fun a b ha => by omega) (by omega) ?_ ?_
  · intro i next hi hI hnx
    obtain ⟨x, hx⟩ := get_some hi
    refine ctd (by omega) ⟨by omega, x, hx, ?_⟩
    have hxl := hrow x (mem_get hx)
    refine LoopQ.range x.length (fun j => ∀ b, b < j → at2 F i b = at2 F b i) (fun b hb => by omega) (by omega) ?_ ?_
    · intro j next2 hj hJ hnx2
      obtain ⟨u, hu⟩ := get_some hj
      obtain ⟨y, hy⟩ := get_some (show j < F.length by omega)
      obtain ⟨v, hv⟩ := get_some (show i < y.length by rw [hrow y (mem_get hy)]; omega)
      refine ctd (by omega) ⟨by omega, u, hu, by omega, y, hy, by omega, v, hv, ?_⟩
      by_cases huv : v = u
      · refine cf (bne_f (by omega)) (hnx2 fun b hb => ?_)
        rcases Nat.lt_or_ge b j with h' | h'
        · exact hJ b h'
        · obtain rfl : b = j := by omega
          rw [at2_eq hx hu, at2_eq hy hv, huv]
      · refine ct (bne_t (by omega)) ?_
        rw [if_neg (fun h => huv (by have := h i j (by omega) (by omega); rw [at2_eq hx hu, at2_eq hy hv] at this; exact this.symm))] at k
        exact k
    · intro next2 hJ
      refine cfd (by omega) (hnx fun a b ha hb => ?_)
      rcases Nat.lt_or_ge a i with h' | h'
      · exact hI a b h' hb
      · obtain rfl : a = i := by omega
        exact hJ b (by omega)
  · intro next hI
    refine cfd (by omega) ?_
    rw [if_pos (fun a b ha hb => hI a b (by omega) hb)] at k
    exact k
end
end Go.Proofs.Ytlhcaangdenoaaa.Pl
