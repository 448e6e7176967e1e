import Derived.Test.YtlhcaangdenoaaaSQ1
import Derived.Test.YtlhcaangdenoaaaSTypes
import Derived.Test.YtlhcaangdenoaaaSFnField
import Derived.Test.YtlhcaangdenoaaaSFnPoly
import Derived.Test.YtlhcaangdenoaaaSFnSlices
import Derived.Test.YtlhcaangdenoaaaSFnJuntoref01
import Derived.Test.YtlhcaangdenoaaaSFnJuntoref02
namespace Go.Lf
end Go.Lf
namespace Go.Proofs.Ytlhcaangdenoaaa.Sh
end Go.Proofs.Ytlhcaangdenoaaa.Sh
namespace Go.Proofs.Ytlhcaangdenoaaa.Sp
end Go.Proofs.Ytlhcaangdenoaaa.Sp
namespace Go.Sx
end Go.Sx
set_option linter.unusedVariables false
namespace Go.Proofs.Ytlhcaangdenoaaa.Pl
open Go.Sx Go.Lf Go.Proofs.Ytlhcaangdenoaaa.Sh Go.Proofs.Ytlhcaangdenoaaa.Sp
def isP (p : Nat) : Prop := 3 ≤ p ∧ p ≤ 65537 ∧ ∀ d, 2 ≤ d → d * d ≤ p → p % d ≠ 0
open Classical in
noncomputable def prm (p : Nat) : Bool := decide (isP p)
theorem prm_t {p : Nat} (h : isP p) : prm p = true := by unfold prm; simp [h]
theorem prm_f {p : Nat} (h : ¬ isP p) : prm p = false := by unfold prm; simp [h]
theorem sq_lt {s p : Nat} (h : s * s ≤ p) (hp : p ≤ 65537) : s ≤ 256 := by
  rcases Nat.lt_or_ge 256 s with h' | h'
  · have := Nat.mul_le_mul h' h'; omega
  · exact h'
theorem sq_small {s : Nat} (h : s ≤ 258) : s * s < 18446744073709551616 := by
  have := Nat.mul_le_mul h h; omega
theorem field_Is_c {p : Nat} {K : Bool → Prop} (k : K (prm p)) : field_Is.C p K := by
  apply field_Is.q
  unfold field_Is.Q
  by_cases h1 : p < 3
  · rw [prm_f (fun h => by have := h.1; omega)] at k; exact ctd (by omega) k
  refine cfd (by omega) ?_
  by_cases h2 : 65537 < p
  · rw [prm_f (fun h => by have := h.2.1; omega)] at k; exact ctd (by omega) k
  refine cfd (by omega) ⟨by omega, ?_⟩
  rw [show Int.tmod (p : Int) 2 = ((p % 2 : Nat) : Int) from rfl]
  by_cases h3 : p % 2 = 0
  · rw [prm_f (fun h => h.2.2 2 (by omega) (by omega) h3)] at k; exact ct (beq_t (by omega)) k
  refine cf (beq_f (by omega)) ?_
  refine LoopQ.down (fun s => 3 ≤ s ∧ s ≤ 258 ∧ s % 2 = 1 ∧ ∀ d, 2 ≤ d → d < s → d * d ≤ p → p % d ≠ 0) (fun s => 1000 - s) ⟨by omega, by omega, by omega, fun d h2 h3' h4 => by rw [show d = 2 by omega]; exact h3⟩ ?_
  rintro s next ⟨hs1, hs2, hs3, hd⟩ hn
  rw [show (s : Int) * s = ((s * s : Nat) : Int) by simp, uw (sq_small hs2)]
  by_cases hle : s * s ≤ p
  · refine ctd (by omega) ⟨by omega, ?_⟩
    rw [tmod_nat]
    have hs := sq_lt hle (by omega)
    by_cases hz : p % s = 0
    · rw [prm_f (fun h => h.2.2 s (by omega) hle hz)] at k; exact ct (beq_t (by omega)) k
    · refine cf (beq_f (by omega)) ?_
      rw [show (s : Int) + 2 = ((s + 2 : Nat) : Int) by omega, uw (by omega), toNat_c]
      refine hn _ (by omega) ⟨by omega, by omega, by omega, fun d h2 hlt hdd => ?_⟩
      rcases Nat.lt_or_ge d s with h' | h'
      · exact hd d h2 h' hdd
      · rcases Nat.eq_or_lt_of_le h' with rfl | h''
        · exact hz
        · have : d = s + 1 := by omega
          subst this
          intro hh
          have h5 : (2 : Nat) ∣ p := Nat.dvd_trans (by omega) (Nat.dvd_of_mod_eq_zero hh)
          omega
  · refine cfd (by omega) ?_
    rw [prm_t ⟨by omega, by omega, fun d h2 hdd => hd d h2 (by
      rcases Nat.lt_or_ge d s with h' | h'
      · exact h'
      · have := Nat.mul_le_mul h' h'; omega) hdd⟩] at k
    exact k
theorem juntoref01_Is_c {p : Nat} {K : Bool → Prop} (k : K (prm p)) : juntoref01_Is.C p K := by
  apply juntoref01_Is.q
  unfold juntoref01_Is.Q
  by_cases h1 : p < 3
  · rw [prm_f (fun h => by have := h.1; omega)] at k; exact ctd (by omega) k
  refine cfd (by omega) ?_
  by_cases h2 : 65537 < p
  · rw [prm_f (fun h => by have := h.2.1; omega)] at k; exact ctd (by omega) k
  refine cfd (by omega) ?_
  refine LoopQ.down (fun s => 2 ≤ s ∧ s ≤ 258 ∧ ∀ d, 2 ≤ d → d < s → d * d ≤ p → p % d ≠ 0) (fun s => 1000 - s) ⟨by omega, by omega, fun d h2 h3' h4 => by omega⟩ ?_
  rintro s next ⟨hs1, hs2, hd⟩ hn
  rw [show (s : Int) * s = ((s * s : Nat) : Int) by simp, uw (sq_small hs2)]
  by_cases hle : s * s ≤ p
  · refine ctd (by omega) ⟨by omega, ?_⟩
    rw [tmod_nat]
    have hs := sq_lt hle (by omega)
    by_cases hz : p % s = 0
    · rw [prm_f (fun h => h.2.2 s (by omega) hle hz)] at k; exact ct (beq_t (by omega)) k
    · refine cf (beq_f (by omega)) ?_
      rw [show (s : Int) + 1 = ((s + 1 : Nat) : Int) by omega, uw (by omega), toNat_c]
      refine hn _ (by omega) ⟨by omega, by omega, fun d h2 hlt hdd => ?_⟩
      rcases Nat.lt_or_ge d s with h' | h'
      · exact hd d h2 h' hdd
      · obtain rfl : d = s := by omega
        exact hz
  · refine cfd (by omega) ?_
    rw [prm_t ⟨by omega, by omega, fun d h2 hdd => hd d h2 (by
      rcases Nat.lt_or_ge d s with h' | h'
      · exact h'
      · have := Nat.mul_le_mul h' h'; omega) hdd⟩] at k
    exact k
def tab {α : Type} (n : Nat) (g : Nat → α) : List α := (List.range n).map g
def mat (n : Nat) (g : Nat → Nat → Nat) : List (List Nat) := tab n fun i => tab n (g i)
theorem tab_len {α : Type} (n : Nat) (g : Nat → α) : (tab n g).length = n := by simp [tab]
theorem tab_get {α : Type} {n i : Nat} (g : Nat → α) (h : i < n) : (tab n g)[i]? = some (g i) := by simp [tab, h]
theorem tab_get_inv {α : Type} {n i : Nat} {g : Nat → α} {x : α} (h : (tab n g)[i]? = some x) : i < n ∧ x = g i := by
  have hl := lt_get h
  rw [tab_len] at hl
  rw [tab_get g hl] at h; cases h; exact ⟨hl, rfl⟩
theorem tab_ext {α : Type} {n : Nat} {g g' : Nat → α} (h : ∀ i, i < n → g i = g' i) : tab n g = tab n g' := by
  unfold tab; exact List.map_congr_left fun i hi => h i (List.mem_range.1 hi)
theorem tab_of {α : Type} {n : Nat} {l : List α} {g : Nat → α} (hl : l.length = n) (h : ∀ i x, l[i]? = some x → x = g i) : l = tab n g := by
  apply List.ext_getElem?
  intro i
  rcases Nat.lt_or_ge i n with hi | hi
  · obtain ⟨x, hx⟩ := get_some (show i < l.length by omega)
    rw [hx, tab_get g hi, h i x hx]
  · rw [List.getElem?_eq_none (by omega), List.getElem?_eq_none (by rw [tab_len]; omega)]
theorem tab_set {α : Type} {n k : Nat} (g : Nat → α) (v : α) : (tab n g).set k v = tab n fun i => if i = k then v else g i := by
  refine tab_of (by simp [tab_len]) fun i x hx => ?_
  rw [List.getElem?_set] at hx
  by_cases h : k = i
  · subst h
    rw [if_pos rfl] at hx
    split at hx
    · cases hx; simp
    · cases hx
  · rw [if_neg h] at hx
    rw [(tab_get_inv hx).2, if_neg (fun q => h q.symm)]
theorem tab_rep {α : Type} (n : Nat) (v : α) : List.replicate n v = tab n fun _ => v := tab_of (by simp) fun i x hx => by
  obtain ⟨hi, hx⟩ := List.getElem?_eq_some_iff.1 hx
  simp at hx; exact hx.symm
theorem tab_snoc {α : Type} (n : Nat) (g : Nat → α) : tab n g ++ [g n] = tab (n + 1) g := by simp [tab, List.range_succ]
theorem tab_mem {α : Type} {n : Nat} {g : Nat → α} {x : α} (h : x ∈ tab n g) : ∃ i, i < n ∧ x = g i := by
  obtain ⟨i, hi⟩ := List.mem_iff_getElem?.1 h
  exact ⟨i, tab_get_inv hi⟩
def at2 (F : List (List Nat)) (i k : Nat) : Nat := (F[i]?.getD [])[k]?.getD 0
theorem at2_eq {F : List (List Nat)} {i k x : Nat} {r : List Nat} (h : F[i]? = some r) (hx : r[k]? = some x) : at2 F i k = x := by simp [at2, h, hx]
structure Pr (p d : Nat) (F : List (List Nat)) : Prop where
  len : F.length = d + 1
  row : ∀ r ∈ F, r.length = d + 1
  bel : ∀ r ∈ F, below p r = true
  sym : ∀ i k, i < d + 1 → k < d + 1 → at2 F i k = at2 F k i
theorem below_lt {p : Nat} {l : List Nat} (h : below p l = true) {x : Nat} (hx : x ∈ l) : x < p := by
  unfold below at h; rw [List.all_eq_true] at h; simpa using h x hx
theorem below_of {p : Nat} {l : List Nat} (h : ∀ x ∈ l, x < p) : below p l = true := by
  unfold below; rw [List.all_eq_true]; intro x hx; simpa using h x hx
theorem Pr.lt {p d : Nat} {F : List (List Nat)} (h : Pr p d F) {i k : Nat} (hi : i < d + 1) (hk : k < d + 1) : at2 F i k < p := by
  obtain ⟨r, hr⟩ := get_some (show i < F.length by rw [h.len]; exact hi)
  obtain ⟨x, hx⟩ := get_some (show k < r.length by rw [h.row r (mem_get hr)]; exact hk)
  rw [at2_eq hr hx]; exact below_lt (h.bel r (mem_get hr)) (mem_get hx)
section
variable {p : Nat} {t : Int}
def Sz (F : List (List Nat)) : Prop := F.length ≤ 17592186044416 ∧ ∀ r ∈ F, r.length ≤ 17592186044416
end
end Go.Proofs.Ytlhcaangdenoaaa.Pl
