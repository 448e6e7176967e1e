import Derived.Test.YtlhcaangdenoaaaShField
import Derived.Test.YtlhcaangdenoaaaRep
set_option linter.unusedVariables false
namespace Go.Proofs.Ytlhcaangdenoaaa.Sp
open Go.Sx Go.Proofs.Ytlhcaangdenoaaa.Sh

/-! ### The field: plain words -/
def fmul (p a b : Nat) : Nat := a * b % p
def fadd (p a b : Nat) : Nat := (a + b) % p
def fsub (p a b : Nat) : Nat := (a + (p - b)) % p

theorem mul_lt {p a b : Nat} (hp : p ≤ 65537) (ha : a < p) (hb : b < p) : a * b < 18446744073709551616 := by
  have : a * b ≤ 65537 * 65537 := Nat.mul_le_mul (by omega) (by omega)
  omega
theorem field_mul_sp {p a b : Nat} (hp : 0 < p) (hab : a * b < 18446744073709551616) {H : Heap} {K : Value → Heap → Prop} (h : K (.int .u64 (fmul p a b : Nat)) H) :
    CallH P N.field_mul [.int .u64 p, .int .u64 a, .int .u64 b] H K := by
  apply field_mul.ok
  refine ⟨by omega, ?_⟩
  have e : (a : Int) * (b : Int) = ((a * b : Nat) : Int) := by simp
  rw [e, wu64 (by omega) (by omega), tmod_nat]
  exact h
theorem field_Times_sp {p a b : Nat} (hp0 : 0 < p) (hp : p ≤ 65537) (ha : a < p) (hb : b < p) {H : Heap} {K : Value → Heap → Prop} (h : K (.int .u64 (fmul p a b : Nat)) H) :
    CallH P N.field_Times [.int .u64 p, .int .u64 a, .int .u64 b] H K := by
  apply field_Times.ok
  exact field_mul_sp hp0 (mul_lt hp ha hb) ⟨_, rfl, h⟩
theorem field_Plus_sp {p a b : Nat} (hp : p ≤ 65537) (ha : a < p) (hb : b < p) {H : Heap} {K : Value → Heap → Prop} (h : K (.int .u64 (fadd p a b : Nat)) H) :
    CallH P N.field_Plus [.int .u64 p, .int .u64 a, .int .u64 b] H K := by
  apply field_Plus.ok
  unfold field_Plus.W
  rw [wu64 (x := (a : Int) + b) (by omega) (by omega)]
  by_cases hc : p ≤ a + b
  · refine ctd (by omega) ?_
    rw [wu64 (by omega) (by omega)]
    have e : (a : Int) + b - p = ((fadd p a b : Nat) : Int) := by
      unfold fadd; rw [Nat.mod_eq_sub_mod hc, Nat.mod_eq_of_lt (by omega)]; omega
    rw [e]; exact h
  · refine cfd (by omega) ?_
    have e : (a : Int) + b = ((fadd p a b : Nat) : Int) := by unfold fadd; rw [Nat.mod_eq_of_lt (by omega)]; omega
    rw [e]; exact h
theorem field_Minus_sp {p a b : Nat} (hp : p ≤ 65537) (ha : a < p) (hb : b < p) {H : Heap} {K : Value → Heap → Prop} (h : K (.int .u64 (fsub p a b : Nat)) H) :
    CallH P N.field_Minus [.int .u64 p, .int .u64 a, .int .u64 b] H K := by
  apply field_Minus.ok
  refine ⟨by omega, ?_⟩
  have e : (p : Int) - b = ((p - b : Nat) : Int) := by omega
  rw [e, wu64 (by omega) (by omega), tmod_nat]
  refine field_Plus_sp hp ha (Nat.mod_lt _ (by omega)) ⟨_, rfl, ?_⟩
  have e2 : fadd p a ((p - b) % p) = fsub p a b := by unfold fadd fsub; simp
  rw [e2]; exact h
theorem fmul_lt {p : Nat} (hp : 0 < p) (a b : Nat) : fmul p a b < p := Nat.mod_lt _ hp
theorem fadd_lt {p : Nat} (hp : 0 < p) (a b : Nat) : fadd p a b < p := Nat.mod_lt _ hp
theorem fsub_lt {p : Nat} (hp : 0 < p) (a b : Nat) : fsub p a b < p := Nat.mod_lt _ hp

/-! ### Below -/
def below (p : Nat) (l : List Nat) : Bool := l.all fun a => decide (a < p)
def codeB (b : Bool) : Int := if b then 0 else 2
theorem field_Below_sp {p : Nat} {A : Option Addr} {n c : Nat} {S : Nat → Prop} {xs : List Nat} {H : Heap} (hl : Sl u64R S H A n c xs) {K : Value → Heap → Prop} (h : K (.int .i64 (codeB (below p xs))) H) :
    CallH P N.field_Below [.int .u64 p, .slice A n c] H K := by
  apply field_Below.ok
  have hn := hl.lt
  refine LoopI.range n (fun k H' => H' = H ∧ ∀ j x, j < k → xs[j]? = some x → x < p) ⟨rfl, fun j x hj => by omega⟩ ?_
  rintro k H' z next hk ⟨rfl, hI⟩ hnext
  by_cases hlt : k < n
  · refine ctd (by omega) ?_
    obtain ⟨a, ha, x, hx, hc⟩ := hl.u64 hlt
    refine ⟨a, ha, by omega, by omega, x, by simpa using hc, ?_⟩
    by_cases hxp : p ≤ x
    · refine ctd (by omega) ?_
      have : below p xs = false := by
        unfold below
        rw [List.all_eq_false]
        exact ⟨x, List.mem_of_getElem? hx, by simp; omega⟩
      rw [this] at h; exact h
    · refine cfd (by omega) ?_
      rw [wsucc (by omega)]
      refine hnext hlt _ ⟨rfl, fun j y hj hy => ?_⟩
      rcases Nat.lt_or_ge j k with h' | h'
      · exact hI j y h' hy
      · obtain rfl : j = k := by omega
        rw [hx] at hy; cases hy; omega
  · refine cfd (by omega) ?_
    have : below p xs = true := by
      unfold below
      rw [List.all_eq_true]
      intro x hx
      obtain ⟨j, hj⟩ := List.mem_iff_getElem?.1 hx
      have := (List.getElem?_eq_some_iff.1 hj).1
      have hln := hl.len
      simp [hI j x (by omega) hj]
    rw [this] at h; exact h
end Go.Proofs.Ytlhcaangdenoaaa.Sp
