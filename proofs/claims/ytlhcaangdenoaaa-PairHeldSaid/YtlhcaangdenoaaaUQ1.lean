import Derived.Test.YtlhcaangdenoaaaUHand
import Derived.Test.YtlhcaangdenoaaaUFnField
import Derived.Test.YtlhcaangdenoaaaUFnJuntoref01
namespace Go.Lf
end Go.Lf
namespace Go.Proofs.Ytlhcaangdenoaaa.Sh
end Go.Proofs.Ytlhcaangdenoaaa.Sh
namespace Go.Proofs.Ytlhcaangdenoaaa.Sp
end Go.Proofs.Ytlhcaangdenoaaa.Sp
namespace Go.Sx
end Go.Sx
set_option linter.unusedVariables false
namespace Go.Lf
open Go.Sx
theorem LoopQ.upto {τ : Type} {t0 : τ} {step : τ → (τ → Prop) → Prop} (N : Nat) (Inv : Nat → τ → Prop) (h0 : Inv 0 t0) (hs : ∀ (k : Nat) (t : τ) (next : τ → Prop), k ≤ N → Inv k t → (k < N → ∀ t', Inv (k + 1) t' → next t') → step t next) : LoopQ t0 step := by
  refine ⟨fun n t => ∃ k : Nat, k ≤ N ∧ n = N - k ∧ Inv k t, ⟨N, 0, Nat.zero_le _, rfl, h0⟩, ?_⟩
  rintro n t ⟨k, hk, rfl, hI⟩
  exact hs k t _ hk hI fun hlt t' hI' => ⟨N - (k + 1), by omega, k + 1, by omega, rfl, hI'⟩
theorem LoopQ.down {τ : Type} {t0 : τ} {step : τ → (τ → Prop) → Prop} (Inv : τ → Prop) (μ : τ → Nat) (h0 : Inv t0) (hs : ∀ (t : τ) (next : τ → Prop), Inv t → (∀ t', μ t' < μ t → Inv t' → next t') → step t next) : LoopQ t0 step := by
  refine ⟨fun n t => n = μ t ∧ Inv t, ⟨_, rfl, h0⟩, ?_⟩
  rintro n t ⟨rfl, hI⟩
  exact hs t _ hI fun t' hlt hI' => ⟨μ t', hlt, rfl, hI'⟩
theorem LoopQ.range {step : Int → (Int → Prop) → Prop} (N : Nat) (Inv : Nat → Prop) (h0 : Inv 0) (hN : N < 4611686018427387904) (hs : ∀ (k : Nat) (next : Int → Prop), k < N → Inv k → (Inv (k + 1) → next (IntKind.i64.wrap ((k : Int) + 1))) → step (k : Int) next)
    (he : ∀ next : Int → Prop, Inv N → step (N : Int) next) : LoopQ 0 step := by
  refine LoopQ.upto N (fun k t => t = k ∧ Inv k) ⟨rfl, h0⟩ ?_
  rintro k t next hk ⟨rfl, hI⟩ hn
  by_cases h : k < N
  · exact hs k next h hI fun hI' => hn h _ ⟨wsucc (by omega), hI'⟩
  · obtain rfl : k = N := by omega
    exact he next hI
theorem LoopQ.rangeS {S : Type} {s0 : S} {step : Int × S → (Int × S → Prop) → Prop} (N : Nat) (Inv : Nat → S → Prop) (h0 : Inv 0 s0) (hN : N < 4611686018427387904) (hs : ∀ (k : Nat) (s : S) (next : Int × S → Prop), k < N → Inv k s → (∀ s', Inv (k + 1) s' → next (IntKind.i64.wrap ((k : Int) + 1), s')) → step ((k : Int), s) next)
    (he : ∀ (s : S) (next : Int × S → Prop), Inv N s → step ((N : Int), s) next) : LoopQ ((0 : Int), s0) step := by
  refine LoopQ.upto N (fun k t => t.1 = k ∧ Inv k t.2) ⟨rfl, h0⟩ ?_
  rintro k ⟨t, s⟩ next hk ⟨rfl, hI⟩ hn
  by_cases h : k < N
  · exact hs k s next h hI fun s' hI' => hn h _ ⟨wsucc (by omega), hI'⟩
  · obtain rfl : k = N := by omega
    exact he s next hI
theorem get_some {α : Type} {l : List α} {k : Nat} (h : k < l.length) : ∃ x, l[k]? = some x := ⟨_, List.getElem?_eq_getElem h⟩
theorem lt_get {α : Type} {l : List α} {k : Nat} {x : α} (h : l[k]? = some x) : k < l.length := (List.getElem?_eq_some_iff.1 h).1
theorem mem_get {α : Type} {l : List α} {k : Nat} {x : α} (h : l[k]? = some x) : x ∈ l := List.mem_of_getElem? h
theorem uw {x : Nat} (h : x < 18446744073709551616) : IntKind.u64.wrap (x : Int) = x := wu64 (by omega) (by omega)
theorem toNat_c (x : Nat) : ((x : Int)).toNat = x := rfl
theorem and_one {e : Nat} (h : e < 18446744073709551616) : bitsOf .and .u64 (e : Int) 1 = ((e % 2 : Nat) : Int) := by
  unfold bitsOf
  have e1 : (BitVec.ofInt IntKind.u64.bits (e : Int) &&& BitVec.ofInt IntKind.u64.bits 1).toNat = e % 2 := by
    have : (BitVec.ofInt IntKind.u64.bits (e : Int)).toNat = e := by
      rw [BitVec.toNat_ofInt]; show (((e : Int) % ((2 ^ 64 : Nat) : Int))).toNat = e; omega
    rw [BitVec.toNat_and, this]
    show e &&& 1 = e % 2
    exact Nat.and_one_is_mod e
  simp only [e1]
  exact wu64 (by omega) (by omega)
theorem shr_one (e : Nat) : (Int.fdiv (e : Int) (2 ^ (min (Int.toNat 1) 64))).toNat = e / 2 := by
  have : (2 : Int) ^ (min (Int.toNat 1) 64) = 2 := rfl
  rw [this]
  have h2 : Int.fdiv (e : Int) 2 = ((e / 2 : Nat) : Int) := by rw [Int.fdiv_eq_ediv_of_nonneg _ (by decide)]; rfl
  rw [h2]; rfl
end Go.Lf
namespace Go.Proofs.Ytlhcaangdenoaaa.Pl
open Go.Sx Go.Lf Go.Proofs.Ytlhcaangdenoaaa.Sh Go.Proofs.Ytlhcaangdenoaaa.Sp
section
variable {p a b e : Nat}
theorem field_mul_c (hp : 0 < p) (h : a * b < 18446744073709551616) {K : Nat → Prop} (k : K (fmul p a b)) : field_mul.C p a b K := by
  refine field_mul.q ⟨by omega, ?_⟩
  rw [show (a : Int) * b = ((a * b : Nat) : Int) by simp, uw h, tmod_nat]; exact k
theorem field_Times_c (hp0 : 0 < p) (hp : p ≤ 65537) (ha : a < p) (hb : b < p) {K : Nat → Prop} (k : K (fmul p a b)) : field_Times.C p a b K :=
  field_Times.q (field_mul_c hp0 (mul_lt hp ha hb) k)
theorem field_Plus_c (hp : p ≤ 65537) (ha : a < p) (hb : b < p) {K : Nat → Prop} (k : K (fadd p a b)) : field_Plus.C p a b K := by
  apply field_Plus.q
  unfold field_Plus.Q
  rw [show (a : Int) + b = ((a + b : Nat) : Int) by simp, uw (by omega)]
  by_cases hc : p ≤ a + b
  · refine ctd (by omega) ?_
    rw [show ((a + b : Nat) : Int) - p = ((a + b - p : Nat) : Int) by omega, uw (by omega)]
    have : fadd p a b = a + b - p := by unfold fadd; rw [Nat.mod_eq_sub_mod hc, Nat.mod_eq_of_lt (by omega)]
    rw [this] at k; exact k
  · refine cfd (by omega) ?_
    have : fadd p a b = a + b := by unfold fadd; rw [Nat.mod_eq_of_lt (by omega)]
    rw [this] at k; exact k
theorem field_Minus_c (hp0 : 0 < p) (hp : p ≤ 65537) (ha : a < p) (hb : b < p) {K : Nat → Prop} (k : K (fsub p a b)) : field_Minus.C p a b K := by
  refine field_Minus.q ⟨by omega, ?_⟩
  rw [show (p : Int) - b = ((p - b : Nat) : Int) by omega, uw (by omega), tmod_nat, toNat_c]
  refine field_Plus_c hp ha (Nat.mod_lt _ hp0) ?_
  have : fadd p a ((p - b) % p) = fsub p a b := by unfold fadd fsub; simp
  rw [this]; exact k
def fpow (p a e : Nat) : Nat := a ^ e % p
theorem fpow_lt (hp : 0 < p) (a e : Nat) : fpow p a e < p := Nat.mod_lt _ hp
def finv (p a : Nat) : Nat := fpow p a (p - 2)
theorem finv_lt (hp : 0 < p) (a : Nat) : finv p a < p := fpow_lt hp _ _
theorem field_pow_c (hp0 : 1 < p) (hp : p ≤ 65537) (ha : a < p) (he : e < 18446744073709551616) {K : Nat → Prop} (k : K (fpow p a e)) : field_pow.C p a e K := by
  refine field_pow.q ⟨by omega, ?_⟩
  have e1 : Int.tmod 1 (p : Int) = ((1 % p : Nat) : Int) := rfl
  rw [e1, toNat_c, Nat.mod_eq_of_lt hp0]
  refine LoopQ.down (fun t => t.1 < p ∧ t.2.1 < 18446744073709551616 ∧ t.2.2 < p ∧ t.2.2 * t.1 ^ t.2.1 % p = a ^ e % p) (fun t => t.2.1) ⟨ha, he, hp0, by simp⟩ ?_
  rintro ⟨x, n, r⟩ next ⟨hx, hn, hr, hi⟩ hnext
  dsimp only at *
  by_cases h0 : n = 0
  · subst h0
    refine cfd (by omega) ?_
    have : fpow p a e = r := by unfold fpow; rw [← hi]; simp [Nat.mod_eq_of_lt hr]
    rw [this] at k; exact k
  refine ctd (by omega) ?_
  rw [and_one hn, shr_one]
  have hh : x ^ n = x ^ (n % 2) * (x * x) ^ (n / 2) := by
    rw [← Nat.pow_two, ← Nat.pow_mul, ← Nat.pow_add]; congr 1; omega
  have hpm : ∀ y m, (y % p) ^ m % p = y ^ m % p := fun y m => (Nat.pow_mod y m p).symm
  rcases Nat.mod_two_eq_zero_or_one n with h | h
  · rw [h] at hh ⊢
    refine cf rfl (field_mul_c (by omega) (mul_lt hp hx hx) ⟨by decide, hnext _ (by dsimp only; omega) ⟨fmul_lt (by omega) _ _, by dsimp only; omega, hr, ?_⟩⟩)
    dsimp only
    rw [← hi, hh, Nat.pow_zero, Nat.one_mul, Nat.mul_mod, fmul, hpm, ← Nat.mul_mod]
  · rw [h] at hh ⊢
    refine ct rfl (field_mul_c (by omega) (mul_lt hp hr hx) (field_mul_c (by omega) (mul_lt hp hx hx) ⟨by decide, hnext _ (by dsimp only; omega) ⟨fmul_lt (by omega) _ _, by dsimp only; omega, fmul_lt (by omega) _ _, ?_⟩⟩))
    dsimp only
    rw [← hi, hh, Nat.pow_one, ← Nat.mul_assoc, Nat.mul_mod, fmul, fmul, hpm, Nat.mod_mod, ← Nat.mul_mod]
theorem field_Over_c (hp0 : 2 < p) (hp : p ≤ 65537) (ha : a < p) {K : Nat → Prop} (k : K (finv p a)) : field_Over.C p a K := by
  apply field_Over.q
  unfold field_Over.Q
  rw [show (p : Int) - 2 = ((p - 2 : Nat) : Int) by omega, uw (by omega), toNat_c]
  exact field_pow_c (by omega) hp ha (by omega) k
theorem field_Below_c {l : List Nat} (hl : l.length < 4611686018427387904) {K : Int → Prop} (k : K (codeB (below p l))) : field_Below.C p l K := by
  apply field_Below.q
  refine LoopQ.range l.length (fun k => ∀ j x, j < k → l[j]? = some x → x < p) (fun j x hj => by omega) hl ?_ ?_
  · intro i next hk hI hn
    obtain ⟨x, hx⟩ := get_some hk
    refine ctd (by omega) ⟨by omega, x, hx, ?_⟩
    by_cases hxp : p ≤ x
    · refine ctd (by omega) ?_
      have : below p l = false := by unfold below; rw [List.all_eq_false]; exact ⟨x, mem_get hx, by simp; omega⟩
      rw [this] at k; exact k
    · refine cfd (by omega) (hn fun j y hj hy => ?_)
      rcases Nat.lt_or_ge j i with h' | h'
      · exact hI j y h' hy
      · obtain rfl : j = i := by omega
        rw [hx] at hy; cases hy; omega
  · intro next hI
    refine cfd (by omega) ?_
    have : below p l = true := by
      unfold below; rw [List.all_eq_true]; intro x hx
      obtain ⟨j, hj⟩ := List.mem_iff_getElem?.1 hx
      simp [hI j x (lt_get hj) hj]
    rw [this] at k; exact k
theorem juntoref01_Within_c {l : List Nat} (hl : l.length < 4611686018427387904) {K : Int → Prop} (k : K (codeB (below p l))) : juntoref01_Within.C p l K := by
  apply juntoref01_Within.q
  refine LoopQ.range l.length (fun k => ∀ j x, j < k → l[j]? = some x → x < p) (fun j x hj => by omega) hl ?_ ?_
  · intro i next hk hI hn
    obtain ⟨x, hx⟩ := get_some hk
    refine ctd (by omega) ⟨by omega, x, hx, ?_⟩
    by_cases hxp : p ≤ x
    · refine ctd (by omega) ?_
      have : below p l = false := by unfold below; rw [List.all_eq_false]; exact ⟨x, mem_get hx, by simp; omega⟩
      rw [this] at k; exact k
    · refine cfd (by omega) (hn fun j y hj hy => ?_)
      rcases Nat.lt_or_ge j i with h' | h'
      · exact hI j y h' hy
      · obtain rfl : j = i := by omega
        rw [hx] at hy; cases hy; omega
  · intro next hI
    refine cfd (by omega) ?_
    have : below p l = true := by
      unfold below; rw [List.all_eq_true]; intro x hx
      obtain ⟨j, hj⟩ := List.mem_iff_getElem?.1 hx
      simp [hI j x (lt_get hj) hj]
    rw [this] at k; exact k
theorem juntoref01_Same_c {x y : List Nat} (hl : x.length < 4611686018427387904) {K : Bool → Prop} (k : K (decide (x = y))) : juntoref01_Same.C x y K := by
  apply juntoref01_Same.q
  unfold juntoref01_Same.Q
  by_cases hlen : x.length = y.length
  · refine cf (bne_f (by omega)) ?_
    refine LoopQ.range x.length (fun k => ∀ j, j < k → x[j]? = y[j]?) (fun j hj => by omega) hl ?_ ?_
    · intro n next hk hI hn
      obtain ⟨u, hu⟩ := get_some hk
      obtain ⟨v, hv⟩ := get_some (show n < y.length by omega)
      refine ctd (by omega) ⟨by omega, u, hu, by omega, v, hv, ?_⟩
      by_cases huv : u = v
      · refine cf (bne_f (by omega)) (hn fun j hj => ?_)
        rcases Nat.lt_or_ge j n with h' | h'
        · exact hI j h'
        · obtain rfl : j = n := by omega
          rw [hu, hv, huv]
      · refine ct (bne_t (by omega)) ?_
        rw [decide_eq_false (fun h => huv (by rw [h, hv] at hu; cases hu; rfl))] at k; exact k
    · intro next hI
      refine cfd (by omega) ?_
      rw [decide_eq_true] at k
      · exact k
      · apply List.ext_getElem?
        intro j
        rcases Nat.lt_or_ge j x.length with h' | h'
        · exact hI j h'
        · rw [List.getElem?_eq_none h', List.getElem?_eq_none (by omega)]
  · refine ct (bne_t (by omega)) ?_
    rw [decide_eq_false (fun h => hlen (by rw [h]))] at k; exact k
def takeN (p : Nat) (tape : List Nat) (n : Nat) : List Nat := (List.range n).map fun i => ((tape[i]?).map (· % p)).getD 0
def takeK (p : Nat) (tape : List Nat) (n k : Nat) : List Nat := (List.range n).map fun i => if i < k then ((tape[i]?).map (· % p)).getD 0 else 0
theorem takeN_len (p : Nat) (tape : List Nat) (n : Nat) : (takeN p tape n).length = n := by simp [takeN]
theorem takeK_zero (p : Nat) (tape : List Nat) (n : Nat) : takeK p tape n 0 = List.replicate n 0 := by
  apply List.ext_getElem?; intro i
  simp only [takeK, List.getElem?_map, List.getElem?_replicate]
  by_cases h : i < n <;> simp [h]
theorem takeK_all (p : Nat) (tape : List Nat) (n k : Nat) (h : n ≤ k ∨ tape.length ≤ k) : takeK p tape n k = takeN p tape n := by
  apply List.ext_getElem?; intro i
  simp only [takeK, takeN, List.getElem?_map]
  by_cases hi : i < n
  · simp only [List.getElem?_range hi, Option.map_some]
    by_cases hk : i < k
    · simp [hk]
    · simp [hk, List.getElem?_eq_none (show tape.length ≤ i by omega)]
  · simp [hi]
theorem takeK_set (p : Nat) (tape : List Nat) (n k : Nat) (x : Nat) (hx : tape[k]? = some x) : (takeK p tape n k).set k (x % p) = takeK p tape n (k + 1) := by
  apply List.ext_getElem?; intro i
  rw [List.getElem?_set]
  simp only [takeK, List.getElem?_map, List.length_map, List.length_range]
  by_cases hi : k = i
  · subst hi
    by_cases hn : k < n <;> simp [hn, hx]
  · by_cases hn : i < n
    · simp only [hi, if_false, List.getElem?_range hn, Option.map_some]
      by_cases h1 : i < k
      · simp [h1, show i < k + 1 by omega]
      · simp [h1, show ¬ i < k + 1 by omega]
    · simp [hi, hn]
theorem minI (m n : Nat) : (if ((m : Nat) : Int) < (n : Int) then ((m : Nat) : Int) else (n : Int)) = ((min n m : Nat) : Int) := by split <;> omega
theorem drop_min (n : Nat) (tape : List Nat) : List.drop (min n tape.length) tape = tape.drop n := by
  rcases Nat.le_total n tape.length with h | h
  · rw [Nat.min_eq_left h]
  · rw [Nat.min_eq_right h, List.drop_of_length_le (Nat.le_refl _), List.drop_of_length_le h]
theorem field_Take_c {tape : List Nat} {n : Nat} (hp : 0 < p) (hn : n ≤ 1000000) (ht : tape.length ≤ 17592186044416) {K : List Nat → List Nat → Prop} (k : K (takeN p tape n) (tape.drop n)) : field_Take.C p tape n K := by
  refine field_Take.q ⟨MakeOk.of (by omega) (by omega), ?_⟩
  rw [toNat_c, ← takeK_zero p tape n]
  refine LoopQ.rangeS n (fun k s => s = takeK p tape n k) rfl (by omega) ?_ ?_
  · rintro j _ next hj rfl hnext
    refine ctd (by dsimp only; omega) ?_
    by_cases h : j < tape.length
    · obtain ⟨x, hx⟩ := get_some h
      refine ctd (by dsimp only; omega) ⟨by dsimp only; omega, x, hx, by omega, by dsimp only; omega, by dsimp only; omega, ?_⟩
      refine hnext _ ?_
      rw [← takeK_set _ _ _ _ _ hx]; rfl
    · refine cfd (by dsimp only; omega) (hnext _ ?_)
      dsimp only
      rw [takeK_all _ _ _ _ (.inr (by omega)), takeK_all _ _ _ _ (.inr (by omega))]
  · rintro _ next rfl
    refine cfd (by dsimp only; omega) ?_
    dsimp only
    rw [minI, toNat_c, drop_min, takeK_all _ _ _ _ (.inl (Nat.le_refl _))]
    refine ⟨by omega, by omega, ?_, k⟩
    constructor <;> simp <;> omega
end
end Go.Proofs.Ytlhcaangdenoaaa.Pl
