import Derived.Test.YtlhcaangdenoaaaShField
import Derived.Test.YtlhcaangdenoaaaShJuntoref01
import Derived.Test.YtlhcaangdenoaaaShSlices
import Derived.Test.YtlhcaangdenoaaaShPoly
import Derived.Test.YtlhcaangdenoaaaField
set_option linter.unusedVariables false
namespace Go.Proofs.Ytlhcaangdenoaaa.Sp
open Go.Sx Go.Proofs.Ytlhcaangdenoaaa.Sh

/-! ### Primes -/
def isP (p : Nat) : Prop := 3 ≤ p ∧ p ≤ 65537 ∧ ∀ d, 2 ≤ d → d * d ≤ p → p % d ≠ 0
open Classical in
noncomputable def prm (p : Nat) : Bool := decide (isP p)
theorem prm_t {p : Nat} (h : isP p) : prm p = true := by unfold prm; simp [h]
theorem prm_f {p : Nat} (h : ¬ isP p) : prm p = false := by unfold prm; simp [h]
theorem prm_iff {p : Nat} : prm p = true ↔ isP p := by unfold prm; simp

theorem sq_lt {s p : Nat} (h : s * s ≤ p) (hp : p ≤ 65537) : s ≤ 256 := by
  rcases Nat.lt_or_ge s 257 with h' | h'
  · omega
  · have : 257 * 257 ≤ s * s := Nat.mul_le_mul h' h'
    omega
theorem sq_small {s : Nat} (h : s ≤ 258) : s * s < 18446744073709551616 := by
  have : s * s ≤ 258 * 258 := Nat.mul_le_mul h h
  omega

theorem field_Is_sp {p : Nat} {H : Heap} {K : Value → Heap → Prop} (h : K (.bool (prm p)) H) : CallH P N.field_Is [.int .u64 p] H K := by
  apply field_Is.ok
  unfold field_Is.W
  by_cases h3 : p < 3
  · rw [prm_f (fun hp => by have := hp.1; omega)] at h
    exact ctd (by omega) h
  refine cfd (by omega) ?_
  by_cases hmax : p > 65537
  · rw [prm_f (fun hp => by have := hp.2.1; omega)] at h
    exact ctd (by omega) h
  refine cfd (by omega) ⟨by omega, ?_⟩
  have e2 : Int.tmod (p : Int) 2 = ((p % 2 : Nat) : Int) := rfl
  rw [e2]
  by_cases hev : p % 2 = 0
  · rw [prm_f (fun hp => hp.2.2 2 (by omega) (by omega) hev)] at h
    exact ct (by simp; omega) h
  refine cf (by simp; omega) ?_
  refine LoopI.down (fun s H' => H' = H ∧ ∃ n : Nat, s = n ∧ 3 ≤ n ∧ n ≤ 258 ∧ n % 2 = 1 ∧ ∀ d, 2 ≤ d → d < n → d * d ≤ p → p % d ≠ 0) (fun s => 300 - s.toNat)
    ⟨_, rfl, rfl, 3, rfl, by omega, by omega, by omega, fun d h2 hd _ => by (obtain rfl : d = 2 := by omega); exact hev⟩ ?_
  rintro s H' z next ⟨rfl, n, rfl, hn3, hn, hodd, hI⟩ hnext
  have e1 : (n : Int) * n = ((n * n : Nat) : Int) := by simp
  rw [e1, wu64 (by omega) (by have := sq_small hn; omega)]
  by_cases hsq : n * n ≤ p
  · refine ctd (by omega) ⟨by omega, ?_⟩
    rw [tmod_nat]
    have hn256 := sq_lt hsq (by omega)
    by_cases hd : p % n = 0
    · rw [prm_f (fun hp => hp.2.2 n (by omega) hsq hd)] at h
      exact ct (by simp; omega) h
    · refine cf (by simp; omega) ?_
      rw [wu64 (by omega) (by omega)]
      refine hnext _ _ (by omega) ⟨rfl, n + 2, by omega, by omega, by omega, by omega, fun d h2 hdn hdp => ?_⟩
      rcases Nat.lt_or_ge d n with h' | h'
      · exact hI d h2 h' hdp
      · rcases Nat.eq_or_lt_of_le h' with h'' | h''
        · subst h''; exact hd
        · obtain rfl : d = n + 1 := by omega
          intro h0
          have hdv : (n + 1) ∣ p := Nat.dvd_of_mod_eq_zero h0
          have h2v : 2 ∣ p := Nat.dvd_trans (Nat.dvd_of_mod_eq_zero (by omega)) hdv
          omega
  · refine cfd (by omega) ?_
    rw [prm_t ⟨by omega, by omega, fun d h2 hdp => ?_⟩] at h
    · exact h
    · rcases Nat.lt_or_ge d n with h' | h'
      · exact hI d h2 h' hdp
      · have : n * n ≤ d * d := Nat.mul_le_mul h' h'
        omega

theorem juntoref01_Is_sp {p : Nat} {H : Heap} {K : Value → Heap → Prop} (h : K (.bool (prm p)) H) : CallH P N.juntoref01_Is [.int .u64 p] H K := by
  apply juntoref01_Is.ok
  unfold juntoref01_Is.W
  by_cases h3 : p < 3
  · rw [prm_f (fun hp => by have := hp.1; omega)] at h
    exact ctd (by omega) h
  refine cfd (by omega) ?_
  by_cases hmax : p > 65537
  · rw [prm_f (fun hp => by have := hp.2.1; omega)] at h
    exact ctd (by omega) h
  refine cfd (by omega) ?_
  refine LoopI.down (fun s H' => H' = H ∧ ∃ n : Nat, s = n ∧ 2 ≤ n ∧ n ≤ 258 ∧ ∀ d, 2 ≤ d → d < n → d * d ≤ p → p % d ≠ 0) (fun s => 300 - s.toNat)
    ⟨_, rfl, rfl, 2, rfl, by omega, by omega, fun d h2 hd _ => by omega⟩ ?_
  rintro s H' z next ⟨rfl, n, rfl, hn3, hn, hI⟩ hnext
  have e1 : (n : Int) * n = ((n * n : Nat) : Int) := by simp
  rw [e1, wu64 (by omega) (by have := sq_small hn; omega)]
  by_cases hsq : n * n ≤ p
  · refine ctd (by omega) ⟨by omega, ?_⟩
    rw [tmod_nat]
    have hn256 := sq_lt hsq (by omega)
    by_cases hd : p % n = 0
    · rw [prm_f (fun hp => hp.2.2 n (by omega) hsq hd)] at h
      exact ct (by simp; omega) h
    · refine cf (by simp; omega) ?_
      rw [wu64 (by omega) (by omega)]
      refine hnext _ _ (by omega) ⟨rfl, n + 1, by omega, by omega, by omega, fun d h2 hdn hdp => ?_⟩
      rcases Nat.lt_or_ge d n with h' | h'
      · exact hI d h2 h' hdp
      · obtain rfl : d = n := by omega
        exact hd
  · refine cfd (by omega) ?_
    rw [prm_t ⟨by omega, by omega, fun d h2 hdp => ?_⟩] at h
    · exact h
    · rcases Nat.lt_or_ge d n with h' | h'
      · exact hI d h2 h' hdp
      · have : n * n ≤ d * d := Nat.mul_le_mul h' h'
        omega

/-! ### Comparing -/
theorem juntoref01_Within_sp {p : Nat} {A : Option Addr} {n c : Nat} {S : Nat → Prop} {xs : List Nat} {H : Heap} (hl : Sl u64R S H A n c xs) {K : Value → Heap → Prop} (h : K (.int .i64 (codeB (below p xs))) H) :
    CallH P N.juntoref01_Within [.int .u64 p, .slice A n c] H K := by
  apply juntoref01_Within.ok
  have hn := hl.lt
  refine LoopI.range n (fun k H' => H' = H ∧ ∀ j x, j < k → xs[j]? = some x → x < p) ⟨rfl, fun j x hj => by omega⟩ ?_
  rintro k H' z next hk ⟨rfl, hI⟩ hnext
  by_cases hlt : k < n
  · refine ctd (by omega) ?_
    obtain ⟨a, ha, x, hx, hc⟩ := hl.u64 hlt
    refine ⟨a, ha, by omega, by omega, x, by simpa using hc, ?_⟩
    by_cases hxp : p ≤ x
    · refine ctd (by omega) ?_
      have : below p xs = false := by
        unfold below
        rw [List.all_eq_false]
        exact ⟨x, List.mem_of_getElem? hx, by simp; omega⟩
      rw [this] at h; exact h
    · refine cfd (by omega) ?_
      rw [wsucc (by omega)]
      refine hnext hlt _ ⟨rfl, fun j y hj hy => ?_⟩
      rcases Nat.lt_or_ge j k with h' | h'
      · exact hI j y h' hy
      · obtain rfl : j = k := by omega
        rw [hx] at hy; cases hy; omega
  · refine cfd (by omega) ?_
    have : below p xs = true := by
      unfold below
      rw [List.all_eq_true]
      intro x hx
      obtain ⟨j, hj⟩ := List.mem_iff_getElem?.1 hx
      have := (List.getElem?_eq_some_iff.1 hj).1
      have hln := hl.len
      simp [hI j x (by omega) hj]
    rw [this] at h; exact h

theorem juntoref01_Same_sp {A B : Option Addr} {n c m d : Nat} {S S' : Nat → Prop} {xs ys : List Nat} {H : Heap} (hx : Sl u64R S H A n c xs) (hy : Sl u64R S' H B m d ys) {K : Value → Heap → Prop} (h : K (.bool (decide (xs = ys))) H) :
    CallH P N.juntoref01_Same [.slice A n c, .slice B m d] H K := by
  apply juntoref01_Same.ok
  unfold juntoref01_Same.W
  have hn := hx.lt
  have hlx := hx.len
  have hly := hy.len
  by_cases hnm : n = m
  · refine cf (bne_f (by omega)) ?_
    refine LoopI.range n (fun k H' => H' = H ∧ ∀ j, j < k → xs[j]? = ys[j]?) ⟨rfl, fun j hj => by omega⟩ ?_
    rintro k H' z next hk ⟨rfl, hI⟩ hnext
    by_cases hlt : k < n
    · refine ctd (by omega) ?_
      obtain ⟨a, ha, x, hx1, hc⟩ := hx.u64 hlt
      obtain ⟨b, hb, y, hy1, hd⟩ := hy.u64 (i := k) (by omega)
      refine ⟨a, ha, by omega, by omega, b, hb, by omega, by omega, x, by simpa using hc, y, by simpa using hd, ?_⟩
      by_cases hxy : x = y
      · refine cf (bne_f (by omega)) ?_
        rw [wsucc (by omega)]
        refine hnext hlt _ ⟨rfl, fun j hj => ?_⟩
        rcases Nat.lt_or_ge j k with h' | h'
        · exact hI j h'
        · obtain rfl : j = k := by omega
          rw [hx1, hy1, hxy]
      · refine ct (bne_t (by omega)) ?_
        rw [decide_eq_false (fun e => by rw [e, hy1] at hx1; cases hx1; exact hxy rfl)] at h
        exact h
    · refine cfd (by omega) ?_
      rw [decide_eq_true (List.ext_getElem? fun i => ?_)] at h
      · exact h
      · rcases Nat.lt_or_ge i k with h' | h'
        · exact hI i h'
        · rw [List.getElem?_eq_none (by omega), List.getElem?_eq_none (by omega)]
  · refine ct (bne_t (by omega)) ?_
    rw [decide_eq_false (fun e => by rw [e] at hlx; omega)] at h
    exact h

end Go.Proofs.Ytlhcaangdenoaaa.Sp
