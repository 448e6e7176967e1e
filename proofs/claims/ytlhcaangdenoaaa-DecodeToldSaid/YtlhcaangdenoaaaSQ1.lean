import Derived.Test.YtlhcaangdenoaaaSHand
import Derived.Test.YtlhcaangdenoaaaSFnField
import Derived.Test.YtlhcaangdenoaaaSFnJuntoref01
namespace Go.Lf
end Go.Lf
namespace Go.Proofs.Ytlhcaangdenoaaa.Sh
end Go.Proofs.Ytlhcaangdenoaaa.Sh
namespace Go.Proofs.Ytlhcaangdenoaaa.Sp
end Go.Proofs.Ytlhcaangdenoaaa.Sp
namespace Go.Sx
end Go.Sx
set_option linter.unusedVariables false
namespace Go.Lf
open Go.Sx
theorem LoopQ.upto {τ : Type} {t0 : τ} {step : τ → (τ → Prop) → Prop} (N : Nat) (Inv : Nat → τ → Prop) (h0 : Inv 0 t0) (hs : ∀ (k : Nat) (t : τ) (next : τ → Prop), k ≤ N → Inv k t → (k < N → ∀ t', Inv (k + 1) t' → next t') → step t next) : LoopQ t0 step := by
  refine ⟨fun n t => ∃ k : Nat, k ≤ N ∧ n = N - k ∧ Inv k t, ⟨N, 0, Nat.zero_le _, rfl, h0⟩, ?_⟩
  rintro n t ⟨k, hk, rfl, hI⟩
  exact hs k t _ hk hI fun hlt t' hI' => ⟨N - (k + 1), by omega, k + 1, by omega, rfl, hI'⟩
theorem LoopQ.down {τ : Type} {t0 : τ} {step : τ → (τ → Prop) → Prop} (Inv : τ → Prop) (μ : τ → Nat) (h0 : Inv t0) (hs : ∀ (t : τ) (next : τ → Prop), Inv t → (∀ t', μ t' < μ t → Inv t' → next t') → step t next) : LoopQ t0 step := by
  refine ⟨fun n t => n = μ t ∧ Inv t, ⟨_, rfl, h0⟩, ?_⟩
  rintro n t ⟨rfl, hI⟩
  exact hs t _ hI fun t' hlt hI' => ⟨μ t', hlt, rfl, hI'⟩
theorem LoopQ.range {step : Int → (Int → Prop) → Prop} (N : Nat) (Inv : Nat → Prop) (h0 : Inv 0) (hN : N < 4611686018427387904) (hs : ∀ (k : Nat) (next : Int → Prop), k < N → Inv k → (Inv (k + 1) → next (IntKind.i64.wrap ((k : Int) + 1))) → step (k : Int) next)
    (he : ∀ next : Int → Prop, Inv N → step (N : Int) next) : LoopQ 0 step := by
  refine LoopQ.upto N (fun k t => t = k ∧ Inv k) ⟨rfl, h0⟩ ?_
  rintro k t next hk ⟨rfl, hI⟩ hn
  by_cases h : k < N
  · exact hs k next h hI fun hI' => hn h _ ⟨wsucc (by omega), hI'⟩
  · obtain rfl : k = N := by omega
    exact he next hI
theorem LoopQ.rangeS {S : Type} {s0 : S} {step : Int × S → (Int × S → Prop) → Prop} (N : Nat) (Inv : Nat → S → Prop) (h0 : Inv 0 s0) (hN : N < 4611686018427387904) (hs : ∀ (k : Nat) (s : S) (next : Int × S → Prop), k < N → Inv k s → (∀ s', Inv (k + 1) s' → next (IntKind.i64.wrap ((k : Int) + 1), s')) → step ((k : Int), s) next)
    (he : ∀ (s : S) (next : Int × S → Prop), Inv N s → step ((N : Int), s) next) : LoopQ ((0 : Int), s0) step := by
  refine LoopQ.upto N (fun k t => t.1 = k ∧ Inv k t.2) ⟨rfl, h0⟩ ?_
  rintro k ⟨t, s⟩ next hk ⟨rfl, hI⟩ hn
  by_cases h : k < N
  · exact hs k s next h hI fun s' hI' => hn h _ ⟨wsucc (by omega), hI'⟩
  · obtain rfl : k = N := by omega
    exact he s next hI
theorem get_some {α : Type} {l : List α} {k : Nat} (h : k < l.length) : ∃ x, l[k]? = some x := ⟨_, List.getElem?_eq_getElem h⟩
theorem lt_get {α : Type} {l : List α} {k : Nat} {x : α} (h : l[k]? = some x) : k < l.length := (List.getElem?_eq_some_iff.1 h).1
theorem mem_get {α : Type} {l : List α} {k : Nat} {x : α} (h : l[k]? = some x) : x ∈ l := List.mem_of_getElem? h
theorem uw {x : Nat} (h : x < 18446744073709551616) : IntKind.u64.wrap (x : Int) = x := wu64 (by omega) (by omega)
theorem toNat_c (x : Nat) : ((x : Int)).toNat = x := rfl
theorem and_one {e : Nat} (h : e < 18446744073709551616) : bitsOf .and .u64 (e : Int) 1 = ((e % 2 : Nat) : Int) := by
  unfold bitsOf
  have e1 : (BitVec.ofInt IntKind.u64.bits (e : Int) &&& BitVec.ofInt IntKind.u64.bits 1).toNat = e % 2 := by
    have : (BitVec.ofInt IntKind.u64.bits (e : Int)).toNat = e := by
      rw [BitVec.toNat_ofInt]; show (((e : Int) % ((2 ^ 64 : Nat) : Int))).toNat = e; omega
    rw [BitVec.toNat_and, this]
    show e &&& 1 = e % 2
    exact Nat.and_one_is_mod e
  simp only [e1]
  exact wu64 (by omega) (by omega)
theorem shr_one (e : Nat) : (Int.fdiv (e : Int) (2 ^ (min (Int.toNat 1) 64))).toNat = e / 2 := by
  have : (2 : Int) ^ (min (Int.toNat 1) 64) = 2 := rfl
  rw [this]
  have h2 : Int.fdiv (e : Int) 2 = ((e / 2 : Nat) : Int) := by rw [Int.fdiv_eq_ediv_of_nonneg _ (by decide)]; rfl
  rw [h2]; rfl
end Go.Lf
namespace Go.Proofs.Ytlhcaangdenoaaa.Pl
open Go.Sx Go.Lf Go.Proofs.Ytlhcaangdenoaaa.Sh Go.Proofs.Ytlhcaangdenoaaa.Sp
section
variable {p a b e : Nat}
theorem field_mul_c (hp : 0 < p) (h : a * b < 18446744073709551616) {K : Nat → Prop} (k : K (fmul p a b)) : field_mul.C p a b K := by
  refine field_mul.q ⟨by omega, ?_⟩
  rw [show (a : Int) * b = ((a * b : Nat) : Int) by simp, uw h, tmod_nat]; exact k
theorem field_Times_c (hp0 : 0 < p) (hp : p ≤ 65537) (ha : a < p) (hb : b < p) {K : Nat → Prop} (k : K (fmul p a b)) : field_Times.C p a b K :=
  field_Times.q (field_mul_c hp0 (mul_lt hp ha hb) k)
theorem field_Plus_c (hp : p ≤ 65537) (ha : a < p) (hb : b < p) {K : Nat → Prop} (k : K (fadd p a b)) : field_Plus.C p a b K := by
  apply field_Plus.q
  unfold field_Plus.Q
  rw [show (a : Int) + b = ((a + b : Nat) : Int) by simp, uw (by omega)]
  by_cases hc : p ≤ a + b
  · refine ctd (by omega) ?_
    rw [show ((a + b : Nat) : Int) - p = ((a + b - p : Nat) : Int) by omega, uw (by omega)]
    have : fadd p a b = a + b - p := by unfold fadd; rw [Nat.mod_eq_sub_mod hc, Nat.mod_eq_of_lt (by omega)]
    rw [this] at k; exact k
  · refine cfd (by omega) ?_
    have : fadd p a b = a + b := by unfold fadd; rw [Nat.mod_eq_of_lt (by omega)]
    rw [this] at k; exact k
theorem field_Minus_c (hp0 : 0 < p) (hp : p ≤ 65537) (ha : a < p) (hb : b < p) {K : Nat → Prop} (k : K (fsub p a b)) : field_Minus.C p a b K := by
  refine field_Minus.q ⟨by omega, ?_⟩
  rw [show (p : Int) - b = ((p - b : Nat) : Int) by omega, uw (by omega), tmod_nat, toNat_c]
  refine field_Plus_c hp ha (Nat.mod_lt _ hp0) ?_
  have : fadd p a ((p - b) % p) = fsub p a b := by unfold fadd fsub; simp
  rw [this]; exact k
def fpow (p a e : Nat) : Nat := a ^ e % p
theorem fpow_lt (hp : 0 < p) (a e : Nat) : fpow p a e < p := Nat.mod_lt _ hp
def finv (p a : Nat) : Nat := fpow p a (p - 2)
theorem finv_lt (hp : 0 < p) (a : Nat) : finv p a < p := fpow_lt hp _ _
theorem field_pow_c (hp0 : 1 < p) (hp : p ≤ 65537) (ha : a < p) (he : e < 18446744073709551616) {K : Nat → Prop} (k : K (fpow p a e)) : field_pow.C p a e K := by
  refine field_pow.q ⟨by omega, ?_⟩
  have e1 : Int.tmod 1 (p : Int) = ((1 % p : Nat) : Int) := rfl
  rw [e1, toNat_c, Nat.mod_eq_of_lt hp0]
  refine LoopQ.down (fun t => t.1 < p ∧ t.2.1 < 18446744073709551616 ∧ t.2.2 < p ∧ t.2.2 * t.1 ^ t.2.1 % p = a ^ e % p) (fun t => t.2.1) ⟨ha, he, hp0, by simp⟩ ?_
  rintro ⟨x, n, r⟩ next ⟨hx, hn, hr, hi⟩ hnext
  dsimp only at *
  by_cases h0 : n = 0
  · subst h0
    refine cfd (by omega) ?_
    have : fpow p a e = r := by unfold fpow; rw [← hi]; simp [Nat.mod_eq_of_lt hr]
    rw [this] at k; exact k
  refine ctd (by omega) ?_
  rw [and_one hn, shr_one]
  have hh : x ^ n = x ^ (n % 2) * (x * x) ^ (n / 2) := by
    rw [← Nat.pow_two, ← Nat.pow_mul, ← Nat.pow_add]; congr 1; omega
  have hpm : ∀ y m, (y % p) ^ m % p = y ^ m % p := fun y m => (Nat.pow_mod y m p).symm
  rcases Nat.mod_two_eq_zero_or_one n with h | h
  · rw [h] at hh ⊢
    refine cf rfl (field_mul_c (by omega) (mul_lt hp hx hx) ⟨by decide, hnext _ (by dsimp only; omega) ⟨fmul_lt (by omega) _ _, by dsimp only; omega, hr, ?_⟩⟩)
    dsimp only
    rw [← hi, hh, Nat.pow_zero, Nat.one_mul, Nat.mul_mod, fmul, hpm, ← Nat.mul_mod]
  · rw [h] at hh ⊢
    refine ct rfl (field_mul_c (by omega) (mul_lt hp hr hx) (field_mul_c (by omega) (mul_lt hp hx hx) ⟨by decide, hnext _ (by dsimp only; omega) ⟨fmul_lt (by omega) _ _, by dsimp only; omega, fmul_lt (by omega) _ _, ?_⟩⟩))
    dsimp only
    rw [← hi, hh, Nat.pow_one, ← Nat.mul_assoc, Nat.mul_mod, fmul, fmul, hpm, Nat.mod_mod, ← Nat.mul_mod]
theorem field_Over_c (hp0 : 2 < p) (hp : p ≤ 65537) (ha : a < p) {K : Nat → Prop} (k : K (finv p a)) : field_Over.C p a K := by
  apply field_Over.q
  unfold field_Over.Q
  rw [show (p : Int) - 2 = ((p - 2 : Nat) : Int) by omega, uw (by omega), toNat_c]
  exact field_pow_c (by omega) hp ha (by omega) k
theorem field_Below_c {l : List Nat} (hl : l.length < 4611686018427387904) {K : Int → Prop} (k : K (codeB (below p l))) : field_Below.C p l K := by
  apply field_Below.q
  refine LoopQ.range l.length (fun k => ∀ j x, j < k → l[j]? = some x → x < p) (fun j x hj => by omega) hl ?_ ?_
  · intro i next hk hI hn
    obtain ⟨x, hx⟩ := get_some hk
    refine ctd (by omega) ⟨by omega, x, hx, ?_⟩
    by_cases hxp : p ≤ x
    · refine ctd (by omega) ?_
      have : below p l = false := by unfold below; rw [List.all_eq_false]; exact ⟨x, mem_get hx, by simp; omega⟩
      rw [this] at k; exact k
    · refine cfd (by omega) (hn fun j y hj hy => ?_)
      rcases Nat.lt_or_ge j i with h' | h'
      · exact hI j y h' hy
      · obtain rfl : j = i := by omega
        rw [hx] at hy; cases hy; omega
  · intro next hI
    refine cfd (by omega) ?_
    have : below p l = true := by
      unfold below; rw [List.all_eq_true]; intro x hx
      obtain ⟨j, hj⟩ := List.mem_iff_getElem?.1 hx
      simp [hI j x (lt_get hj) hj]
    rw [this] at k; exact k
theorem juntoref01_Within_c {l : List Nat} (hl : l.length < 4611686018427387904) {K : Int → Prop} (k : K (codeB (below p l))) : juntoref01_Within.C p l K := by
  apply juntoref01_Within.q
  refine LoopQ.range l.length (fun k => ∀ j x, j < k → l[j]? = some x → x < p) (fun j x hj => by omega) hl ?_ ?_
  · intro i next hk hI hn
    obtain ⟨x, hx⟩ := get_some hk
    refine ctd (by omega) ⟨by omega, x, hx, ?_⟩
    by_cases hxp : p ≤ x
    · refine ctd (by omega) ?_
      have : below p l = false := by unfold below; rw [List.all_eq_false]; exact ⟨x, mem_get hx, by simp; omega⟩
      rw [this] at k; exact k
    · refine cfd (by omega) (hn fun j y hj hy => ?_)
      rcases Nat.lt_or_ge j i with h' | h'
      · exact hI j y h' hy
      · obtain rfl : j = i := by omega
        rw [hx] at hy; cases hy; omega
  · intro next hI
    refine cfd (by omega) ?_
    have : below p l = true := by
      unfold below; rw [List.all_eq_true]; intro x hx
      obtain ⟨j, hj⟩ := List.mem_iff_getElem?.1 hx
      simp [hI j x (lt_get hj) hj]
    rw [this] at k; exact k
theorem juntoref01_Same_c {x y : List Nat} (hl : x.length < 4611686018427387904) {K : Bool → Prop} (k : K (decide (x = y))) : juntoref01_Same.C x y K := by
  apply juntoref01_Same.q
  unfold juntoref01_Same.Q
  by_cases hlen : x.length = y.length
  · refine cf (bne_f (by omega)) ?_
    refine LoopQ.range x.length (fun k => ∀ j, j < k → x[j]? = y[j]?) (fun j hj => by omega) hl ?_ ?_
    · intro n next hk hI hn
      obtain ⟨u, hu⟩ := get_some hk
      obtain ⟨v, hv⟩ := get_some (show n < y.length by omega)
      refine ctd (by omega) ⟨by omega, u, hu, by omega, v, hv, ?_⟩
      by_cases huv : u = v
      · refine cf (bne_f (by omega)) (hn fun j hj => ?_)
        rcases Nat.lt_or_ge j n with h' | h'
        · exact hI j h'
        · obtain rfl : j = n := by omega
          rw [hu, hv, huv]
      · refine ct (bne_t (by omega)) ?_
        rw [decide_eq_false (fun h => huv (by rw [h, hv] at hu; cases hu; rfl))] at k; exact k
    · intro next hI
      refine cfd (by omega) ?_
      rw [decide_eq_true] at k
      · exact k
      · apply List.ext_getElem?
        intro j
        rcases Nat.lt_or_ge j x.length with h' | h'
        · exact hI j h'
        · rw [List.getElem?_eq_none h', List.getElem?_eq_none (by omega)]
  · refine ct (bne_t (by omega)) ?_
    rw [decide_eq_false (fun h => hlen (by rw [h]))] at k; exact k
def takeN (p : Nat) (tape : List Nat) (n : Nat) : List Nat := (List.range n).map fun i => ((tape[i]?).map (· % p)).getD 0
theorem juntoref01_Mul_c (hp0 : 0 < p) (hp : p ≤ 65537) (ha : a < p) (hb : b < p) {K : Nat → Prop} (k : K (fmul p a b)) : juntoref01_Mul.C p a b K := by
  refine juntoref01_Mul.q ⟨by omega, ?_⟩
  rw [show (a : Int) * b = ((a * b : Nat) : Int) by simp, uw (mul_lt hp ha hb), tmod_nat]; exact k
theorem juntoref01_Add_c (hp0 : 0 < p) (hp : p ≤ 65537) (ha : a < p) (hb : b < p) {K : Nat → Prop} (k : K (fadd p a b)) : juntoref01_Add.C p a b K := by
  refine juntoref01_Add.q ⟨by omega, ?_⟩
  rw [show (a : Int) + b = ((a + b : Nat) : Int) by simp, uw (by omega), tmod_nat]; exact k
theorem juntoref01_Sub_c (hp0 : 0 < p) (hp : p ≤ 65537) (ha : a < p) (hb : b < p) {K : Nat → Prop} (k : K (fsub p a b)) : juntoref01_Sub.C p a b K := by
  refine juntoref01_Sub.q ⟨by omega, ?_⟩
  rw [show (a : Int) + p = ((a + p : Nat) : Int) by simp, uw (by omega), show ((a + p : Nat) : Int) - b = ((a + (p - b) : Nat) : Int) by omega, uw (by omega), tmod_nat]; exact k
theorem juntoref01_Pow_c (hp0 : 1 < p) (hp : p ≤ 65537) (ha : a < p) : ∀ (e : Nat), e < 18446744073709551616 → ∀ {K : Nat → Prop}, K (fpow p a e) → juntoref01_Pow.C p a e K := by
  intro e
  induction e using Nat.strongRecOn with
  | ind e ih =>
    intro he K k
    apply juntoref01_Pow.q
    unfold juntoref01_Pow.Q
    by_cases h0 : e = 0
    · subst h0
      refine ct rfl ?_
      have : fpow p a 0 = 1 := by unfold fpow; rw [Nat.pow_zero, Nat.mod_eq_of_lt hp0]
      rw [this] at k; exact k
    refine cf (beq_f (by omega)) ⟨by omega, ?_⟩
    rw [show Int.tdiv (e : Int) 2 = ((e / 2 : Nat) : Int) from rfl, uw (by omega), toNat_c]
    refine ih (e / 2) (by omega) (by omega) (juntoref01_Mul_c (by omega) hp (fpow_lt (by omega) _ _) (fpow_lt (by omega) _ _) ⟨by omega, ?_⟩)
    have hsq : fmul p (fpow p a (e / 2)) (fpow p a (e / 2)) = fpow p a (e / 2 + e / 2) := by unfold fmul fpow; rw [← Nat.mul_mod, Nat.pow_add]
    rw [hsq, show Int.tmod (e : Int) 2 = ((e % 2 : Nat) : Int) from rfl]
    by_cases hodd : e % 2 = 1
    · refine ct (beq_t (by omega)) (juntoref01_Mul_c (by omega) hp (fpow_lt (by omega) _ _) ha ?_)
      have : fmul p (fpow p a (e / 2 + e / 2)) a = fpow p a e := by
        unfold fmul fpow
        rw [Nat.mod_mul_mod, ← Nat.pow_succ, show (e / 2 + e / 2).succ = e by omega]
      rw [this]; exact k
    · refine cf (beq_f (by omega)) ?_
      rw [show e / 2 + e / 2 = e by omega]; exact k
theorem juntoref01_Inv_c (hp0 : 2 < p) (hp : p ≤ 65537) (ha : a < p) {K : Nat → Prop} (k : K (finv p a)) : juntoref01_Inv.C p a K := by
  apply juntoref01_Inv.q
  unfold juntoref01_Inv.Q
  rw [show (p : Int) - 2 = ((p - 2 : Nat) : Int) by omega, uw (by omega), toNat_c]
  exact juntoref01_Pow_c (by omega) hp ha _ (by omega) k
end
end Go.Proofs.Ytlhcaangdenoaaa.Pl
