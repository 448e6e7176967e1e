import Derived.Test.YtlhcaangdenoaaaFin
import Derived.Test.YtlhcaangdenoaaaShJuntoref02
set_option linter.unusedVariables false
namespace Go.Proofs.Ytlhcaangdenoaaa.Sp
open Go.Sx Go.Proofs.Ytlhcaangdenoaaa.Sh

theorem below_get {p : Nat} {f : List Nat} (h : below p f = true) {i c : Nat} (hc : f[i]? = some c) : c < p := by
  unfold below at h
  rw [List.all_eq_true] at h
  simpa using h c (List.mem_of_getElem? hc)
theorem juntoref02_Eval_sp {p x : Nat} (hp1 : 1 < p) (hp : p ≤ 65537) (hx : x < p) {A : Option Addr} {n c : Nat} {S : Nat → Prop} {f : List Nat} {H : Heap} (hf : Sl u64R S H A n c f) (hb : below p f = true) {K : Value → Heap → Prop}
    (k : K (.int .u64 (evalH p f x : Nat)) H) : CallH P N.juntoref02_Eval [.int .u64 p, .slice A n c, .int .u64 x] H K := by
  haveI : NeZero p := ⟨by omega⟩
  apply juntoref02_Eval.ok
  have hl := hf.len
  have hlt := hf.lt
  refine LoopI.upto n (fun k (s : Int × Int × Int) H' => H' = H ∧ s.2.2 = k ∧ ∃ a y : Nat, s.1 = a ∧ s.2.1 = y ∧ a < p ∧ y < p ∧ cz p a + cz p y * pv p (f.drop k) (cz p x) = pv p f (cz p x))
    ⟨rfl, rfl, 0, 1, rfl, rfl, by omega, hp1, by rw [cz_zero, cz_one, List.drop_zero]; grind⟩ (fun h k => h _ _ k) ?_
  rintro k1 ⟨s1, s2, s3⟩ H1 z next hk ⟨rfl, h3, a, y, h1, h2, ha, hy, hI⟩ hnext
  dsimp only at h1 h2 h3
  subst h1 h2 h3
  by_cases hlt : k1 < n
  · refine ctd (by ((try dsimp only); omega)) ?_
    obtain ⟨b, hb1, v, hv, hc⟩ := hf.u64 hlt
    have hvp := below_get hb hv
    refine ⟨b, hb1, by ((try dsimp only); omega), by ((try dsimp only); omega), v, hc, ?_⟩
    refine juntoref01_Mul_sp (by omega) hp hvp hy ⟨_, rfl, ?_⟩
    refine juntoref01_Add_sp (by omega) hp ha (fmul_lt (by omega) _ _) ⟨_, rfl, ?_⟩
    refine juntoref01_Mul_sp (by omega) hp hy hx ⟨_, rfl, ?_⟩
    dsimp only
    rw [wsucc (by omega)]
    refine hnext hlt _ _ ⟨rfl, rfl, _, _, rfl, rfl, fadd_lt (by omega) _ _, fmul_lt (by omega) _ _, ?_⟩
    rw [pv_drop f (cz p x) hv] at hI
    rw [cz_fadd, cz_fmul, cz_fmul, ← hI]
    grind
  · refine cfd (by ((try dsimp only); omega)) ?_
    obtain rfl : k1 = n := by omega
    rw [List.drop_of_length_le (by omega), pv_nil] at hI
    have : a = evalH p f x := cz_inj ha (evalH_lt (by omega) f x) (by rw [pv_evalH, ← hI]; grind)
    subst this; exact k

theorem juntoref02_Trim_sp {A : Option Addr} {n c : Nat} {S : Nat → Prop} {xs : List Nat} {H : Heap} (h : Sl u64R S H A n c xs) {K : Value → Heap → Prop}
    (k : ∀ A' n' c' H', Ext H H' → Owns u64R 22 (Since H) H' A' n' c' (short xs) → K (.slice A' n' c') H') : CallH P N.juntoref02_Trim [.slice A n c] H K := by
  apply juntoref02_Trim.ok
  have hl := h.len
  have hlt := h.lt
  have hcap := h.cap
  refine LoopI.down (fun s H' => H' = H ∧ ∃ m : Nat, s = m ∧ m ≤ n ∧ ∀ j x, m ≤ j → xs[j]? = some x → x = 0) (fun s => s.toNat)
    ⟨_, rfl, rfl, n, rfl, Nat.le_refl _, fun j x hj hx => by have := (List.getElem?_eq_some_iff.1 hx).1; omega⟩ ?_
  rintro s H' z next ⟨rfl, m, rfl, hm, hI⟩ hnext
  have fin : (m = 0 ∨ ∃ x, xs[m - 1]? = some x ∧ x ≠ 0) → NewH (H'.push (.cells #[] 22 (0, 0))) fun H_2 =>
      0 ≤ (m : Int) ∧ (m : Int) ≤ ((c : Nat) : Int) ∧ AppendV 22 1 8 [.int .u64 0] H_2 (some (Addr.mk H'.size 0 none)) 0 0 A (Int.toNat (m : Int)) fun vA vn vc H_3 => K (.slice vA vn vc) H_3 := by
    intro hz
    refine NewH.in ⟨by omega, by omega, ?_⟩
    have hE := Ext.push H' (.cells #[] 22 (0, 0))
    refine (Owns.empty u64R 22 (Since H') H' (Nat.le_refl _)).append u64_flat u64_good ((h.cut hm).ext u64_good hE) (fun i hi => Nat.le_trans hE.size hi) (by omega) (by omega) ?_
    intro A' c' H1 hO' hG
    have hE4 : Ext H' H1 := hG.but.ext hE (fun i hi => by cases hi; exact Nat.le_refl _)
    rw [List.nil_append, ← short_take xs m hI hz (by omega)] at hO'
    exact k _ _ _ _ hE4 hO'
  by_cases h0 : 0 < m
  · refine ctd (by omega) ?_
    have e1 : IntKind.i64.wrap ((m : Int) - 1) = ((m - 1 : Nat) : Int) := by rw [wi64 (by omega) (by omega)]; omega
    rw [e1]
    obtain ⟨a, ha, x, hx, hc⟩ := h.u64 (i := m - 1) (by omega)
    refine ⟨a, ha, by omega, by omega, x, hc, ?_⟩
    by_cases hx0 : x = 0
    · subst hx0
      refine ct (beq_t rfl) ?_
      refine hnext _ _ (by omega) ⟨rfl, m - 1, rfl, by omega, fun j y hj hy => ?_⟩
      rcases Nat.lt_or_ge j m with h' | h'
      · obtain rfl : j = m - 1 := by omega
        rw [hx] at hy; cases hy; rfl
      · exact hI j y h' hy
    · exact cf (beq_f (by omega)) (fin (.inr ⟨x, hx, hx0⟩))
  · exact cfd (by omega) (fin (.inl (by omega)))

/-! ### The reference's row: by columns -/
/-- Column k. -/
def col (F : List (List Nat)) (k : Nat) : List Nat := F.map fun r => (r[k]?).getD 0
theorem col_get {F : List (List Nat)} {k i : Nat} {r : List Nat} (h : F[i]? = some r) : (col F k)[i]? = some ((r[k]?).getD 0) := by simp [col, h]
def rowR (p : Nat) (F : List (List Nat)) (x : Nat) : List Nat := short ((List.range F.length).map fun k => evalH p (col F k) x)

theorem juntoref06_Row_sp {p x : Nat} (hp1 : 1 < p) (hp : p ≤ 65537) (hx : x < p) {A : Option Addr} {n c : Nat} {S : Nat → Prop} {F : List (List Nat)} {H : Heap} (hF : Sl (slR u64R) S H A n c F)
    (hr : ∀ r ∈ F, r.length = n) (hb : ∀ r ∈ F, below p r = true) {K : Value → Heap → Prop}
    (k : ∀ A' n' c' H', Ext H H' → Owns u64R 22 (Since H) H' A' n' c' (rowR p F x) → K (.slice A' n' c') H') : CallH P N.juntoref06_Row [.int .u64 p, .slice A n c, .int .u64 x] H K := by
  haveI : NeZero p := ⟨by omega⟩
  apply juntoref06_Row.ok
  unfold juntoref06_Row.W
  have hl := hF.len
  have hlt := hF.lt
  rw [show Int.toNat ((n : Nat) : Int) = n from rfl]
  refine ⟨by omega, by omega, by omega, by omega, NewH.in ?_⟩
  refine LoopI.range n (fun k H1 => Owns u64R 22 (Since H) H1 (some (Addr.mk H.size 0 none)) n n (((List.range k).map fun k => evalH p (col F k) x) ++ List.replicate (n - k) 0) ∧ Ext H H1) ⟨?_, Ext.push _ _⟩ ?_
  · simp only [List.range_zero, List.map_nil, List.nil_append, Nat.sub_zero]
    exact Owns.made u64_good (fun _ _ => rfl) (by omega) (Nat.le_refl _)
  rintro k1 H1 z next hk ⟨hO, hE⟩ hnext
  by_cases hlt1 : k1 < n
  · refine ctd (by omega) ?_
    refine LoopI.range n (fun i H2 => ∃ a : Nat, a < p ∧ cz p a + cz p x ^ i * pv p ((col F k1).drop i) (cz p x) = pv p (col F k1) (cz p x) ∧
      Owns u64R 22 (Since H) H2 (some (Addr.mk H.size 0 none)) n n (((List.range k1).map fun k => evalH p (col F k) x) ++ a :: List.replicate (n - (k1 + 1)) 0) ∧ Ext H H2) ⟨0, by omega, ?_, ?_, hE⟩ ?_
    · rw [cz_zero, List.drop_zero]; grind
    · rw [show n - k1 = (n - (k1 + 1)) + 1 by omega, List.replicate_succ] at hO
      exact hO
    rintro i H2 z2 next2 hi ⟨a, ha, hI, hO2, hE2⟩ hnext2
    by_cases hlt2 : i < n
    · refine ctd (by omega) ?_
      obtain ⟨b, hb1, A1, n1, c1, xs, hx1, hc, hs1⟩ := (hF.ext (slR_good u64_good) hE2).row hlt2
      have hn1 : n1 = n := by have := hs1.len; have := hr xs (List.mem_of_getElem? hx1); omega
      obtain ⟨b3, hb3, v, hv, hc3⟩ := hs1.u64 (i := k1) (by omega)
      have hvp := below_get (hb xs (List.mem_of_getElem? hx1)) hv
      have hlen : ((List.range k1).map fun k => evalH p (col F k) x).length = k1 := by simp
      obtain ⟨b0, hb0, u, hu, hc0⟩ := hO2.u64 (i := k1) hlt1
      rw [List.getElem?_append_right (by omega), hlen, Nat.sub_self] at hu
      cases hu
      cases hb0
      refine ⟨_, rfl, by omega, by omega, b, hb1, by omega, by omega, _, hc0, _, _, _, hc, b3, hb3, by omega, by omega, _, hc3, ?_⟩
      rw [wu64 (x := (i : Int)) (by omega) (by omega)]
      refine juntoref01_Pow_sp hp1 hp hx i (by omega) ⟨_, rfl, hc3, hc, hc0, ?_⟩
      refine juntoref01_Mul_sp (by omega) hp hvp (fpow_lt (by omega) _ _) ⟨_, rfl, hc, hc0, ?_⟩
      refine juntoref01_Add_sp (by omega) hp ha (fmul_lt (by omega) _ _) ⟨_, rfl, hc, _, rfl, by omega, by omega, ?_⟩
      obtain ⟨b4, hb4, hw, hO3, hB3⟩ := hO2.set u64_flat (i := k1) hlt1 (x := fadd p a (fmul p v (fpow p x i))) (v := .int .u64 ((fadd p a (fmul p v (fpow p x i)) : Nat) : Int)) rfl
      cases hb4
      refine ⟨hw, NewH.in ?_⟩
      rw [wsucc (by omega)]
      refine hnext2 hlt2 _ ⟨fadd p a (fmul p v (fpow p x i)), fadd_lt (by omega) _ _, ?_, ?_, hB3.ext hE2 (fun i hi => by cases hi; exact Nat.le_refl _)⟩
      · have hcol := col_get (k := k1) hx1
        rw [hv] at hcol
        rw [pv_drop (col F k1) (cz p x) hcol] at hI
        rw [cz_fadd, cz_fmul, cz_fpow, ← hI]
        simp only [Option.getD_some]
        grind
      · rw [List.set_append, if_neg (by omega), hlen, Nat.sub_self, List.set_cons_zero] at hO3
        exact hO3
    · refine cfd (by omega) ?_
      obtain rfl : i = n := by omega
      rw [wsucc (by omega)]
      refine hnext hlt1 _ ⟨?_, hE2⟩
      rw [List.drop_of_length_le (by simp [col]; omega), pv_nil] at hI
      have : a = evalH p (col F k1) x := cz_inj ha (evalH_lt (by omega) _ x) (by rw [pv_evalH, ← hI]; grind)
      subst this
      rw [List.range_succ, List.map_append, List.append_assoc]
      exact hO2
  · refine cfd (by omega) ?_
    obtain rfl : k1 = n := by omega
    simp only [Nat.sub_self, List.replicate_zero, List.append_nil] at hO
    refine juntoref02_Trim_sp (hO.sl u64_good) fun A' n' c' H2 hE2 hO2 => ⟨_, _, _, rfl, ?_⟩
    have e : rowR p F x = short ((List.range k1).map fun k => evalH p (col F k) x) := by unfold rowR; rw [hl]
    rw [← e] at hO2
    exact k _ _ _ _ (hE.trans hE2) (hO2.wider u64_good fun i hi => Nat.le_trans hE.size hi)
theorem rowR_below {p x : Nat} (hp : 0 < p) (F : List (List Nat)) : below p (rowR p F x) = true := by
  unfold below rowR
  rw [List.all_eq_true]
  intro a ha
  have := short_mem ha
  rw [List.mem_map] at this
  obtain ⟨r, _, rfl⟩ := this
  exact decide_eq_true (evalH_lt hp _ x)
theorem juntoref06_At_sp {p x y : Nat} (hp1 : 1 < p) (hp : p ≤ 65537) (hx : x < p) (hy : y < p) {A : Option Addr} {n c : Nat} {S : Nat → Prop} {F : List (List Nat)} {H : Heap} (hF : Sl (slR u64R) S H A n c F)
    (hr : ∀ r ∈ F, r.length = n) (hb : ∀ r ∈ F, below p r = true) {K : Value → Heap → Prop}
    (k : ∀ H', Ext H H' → K (.int .u64 (evalH p (rowR p F x) y : Nat)) H') : CallH P N.juntoref06_At [.int .u64 p, .slice A n c, .int .u64 x, .int .u64 y] H K := by
  apply juntoref06_At.ok
  refine juntoref06_Row_sp hp1 hp hx hF hr hb fun A' n' c' H1 hE hO => ⟨_, _, _, rfl, ?_⟩
  exact juntoref02_Eval_sp hp1 hp hy (hO.sl u64_good) (rowR_below (by omega) F) ⟨_, rfl, k _ hE⟩
/-- Of a symmetric matrix the rows and the columns are the same. -/
theorem row_symm {p n x : Nat} {F : List (List Nat)} (hl : F.length = n) (hr : ∀ r ∈ F, r.length = n) (hs : symm n F) : rowR p F x = rowOf p F x := by
  unfold rowR rowOf
  congr 1
  apply List.ext_getElem?
  intro i
  simp only [List.getElem?_map]
  by_cases hi : i < n
  · rw [List.getElem?_range (by omega), List.getElem?_eq_getElem (by omega)]
    simp only [Option.map_some]
    congr 2
    apply List.ext_getElem?
    intro k
    have hri : (F[i]'(by omega)).length = n := hr _ (List.getElem_mem _)
    by_cases hk : k < n
    · have h1 : F[k]? = some (F[k]'(by omega)) := List.getElem?_eq_getElem (by omega)
      have hrk : (F[k]'(by omega)).length = n := hr _ (List.getElem_mem _)
      rw [col_get h1, List.getElem?_eq_getElem (by omega), List.getElem?_eq_getElem (by omega)]
      have := hs i k hi hk
      simp [at2, List.getElem?_eq_getElem (show i < F.length by omega), List.getElem?_eq_getElem (show k < F.length by omega)] at this
      rw [List.getElem?_eq_getElem (by omega), List.getElem?_eq_getElem (by omega)] at this
      simpa using this.symm
    · rw [List.getElem?_eq_none (by simp [col]; omega), List.getElem?_eq_none (by omega)]
  · rw [List.getElem?_eq_none (by simp; omega), List.getElem?_eq_none (by omega)]
    rfl
end Go.Proofs.Ytlhcaangdenoaaa.Sp
