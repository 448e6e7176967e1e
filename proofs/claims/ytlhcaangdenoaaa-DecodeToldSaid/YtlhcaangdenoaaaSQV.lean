import Derived.Test.YtlhcaangdenoaaaSQE
namespace Go.Lf
end Go.Lf
namespace Go.Proofs.Ytlhcaangdenoaaa.Sh
end Go.Proofs.Ytlhcaangdenoaaa.Sh
namespace Go.Proofs.Ytlhcaangdenoaaa.Sp
end Go.Proofs.Ytlhcaangdenoaaa.Sp
namespace Go.Sx
end Go.Sx
set_option linter.unusedVariables false
set_option linter.unusedSimpArgs false
namespace Go.Proofs.Ytlhcaangdenoaaa.Pl
open Go.Sx Go.Lf Go.Proofs.Ytlhcaangdenoaaa.Sh Go.Proofs.Ytlhcaangdenoaaa.Sp
def dvS (p : Nat) (g : List Nat) (c k : Nat) (F : Nat → Nat) : Nat → Nat := fun j => if k ≤ j ∧ j - k < g.length then fsub p (F j) (fmul p c (zat g (j - k))) else F j
def dvC (p : Nat) (g : List Nat) (hd k : Nat) (F : Nat → Nat) : Nat := fmul p (F (k + g.length - 1)) hd
def dvR (p : Nat) (g : List Nat) (hd : Nat) : Nat → (Nat → Nat) → Nat → Nat
  | 0, F => F
  | k + 1, F => dvR p g hd k (dvS p g (dvC p g hd k F) k F)
def dvQ (p : Nat) (g : List Nat) (hd : Nat) : Nat → (Nat → Nat) → Nat → Nat
  | 0, F, _ => 0
  | k + 1, F, j => if j = k then dvC p g hd k F else dvQ p g hd k (dvS p g (dvC p g hd k F) k F) j
theorem dvS_lt {p : Nat} (hp : 0 < p) {g : List Nat} {c k : Nat} {F : Nat → Nat} (hF : ∀ j, F j < p) (j : Nat) : dvS p g c k F j < p := by
  unfold dvS; split
  · exact fsub_lt hp _ _
  · exact hF _
theorem dvR_lt {p : Nat} (hp : 0 < p) {g : List Nat} {hd : Nat} : ∀ k {F : Nat → Nat}, (∀ j, F j < p) → ∀ j, dvR p g hd k F j < p
  | 0, F, hF, j => hF j
  | k + 1, F, hF, j => dvR_lt hp k (fun i => dvS_lt hp hF i) j
theorem dvQ_lt {p : Nat} (hp : 0 < p) {g : List Nat} {hd : Nat} : ∀ k {F : Nat → Nat} (j), dvQ p g hd k F j < p
  | 0, F, j => hp
  | k + 1, F, j => by
    unfold dvQ; split
    · exact fmul_lt hp _ _
    · exact dvQ_lt hp k j
theorem dvS_zero {p : Nat} {g : List Nat} {k : Nat} {F : Nat → Nat} (hF : ∀ j, F j < p) : dvS p g 0 k F = F := by
  funext j
  unfold dvS; split
  · have : fmul p 0 (zat g (j - k)) = 0 := by unfold fmul; rw [Nat.zero_mul, Nat.zero_mod]
    rw [this]; unfold fsub; rw [Nat.sub_zero, Nat.add_mod_right, Nat.mod_eq_of_lt (hF j)]
  · rfl
theorem dv_skip {p : Nat} (hp : 0 < p) {g : List Nat} {hd k : Nat} {F : Nat → Nat} (hF : ∀ j, F j < p) (h0 : F (k + g.length - 1) = 0) : dvR p g hd (k + 1) F = dvR p g hd k F ∧ ∀ j, dvQ p g hd (k + 1) F j = if j = k then 0 else dvQ p g hd k F j := by
  have hc : dvC p g hd k F = 0 := by unfold dvC fmul; rw [h0, Nat.zero_mul, Nat.zero_mod]
  constructor
  · rw [dvR, hc, dvS_zero hF]
  · intro j; rw [dvQ, hc, dvS_zero hF]
theorem dv_skips {p : Nat} (hp : 0 < p) {g : List Nat} {hd s : Nat} {F : Nat → Nat} (hF : ∀ j, F j < p) : ∀ k, s ≤ k → (∀ j, s ≤ j → j < k → F (j + g.length - 1) = 0) → dvR p g hd k F = dvR p g hd s F ∧ ∀ j, dvQ p g hd k F j = if s ≤ j then (if j < k then 0 else dvQ p g hd s F j) else dvQ p g hd s F j
  | 0, h, _ => by
    obtain rfl : s = 0 := by omega
    exact ⟨rfl, fun j => by simp⟩
  | k + 1, h, hz => by
    by_cases hs : s = k + 1
    · subst hs; refine ⟨rfl, fun j => ?_⟩
      by_cases h1 : k + 1 ≤ j
      · rw [if_pos h1, if_neg (by omega)]
      · rw [if_neg h1]
    obtain ⟨h1, h2⟩ := dv_skip hp (g := g) (hd := hd) (k := k) hF (hz k (by omega) (by omega))
    obtain ⟨h3, h4⟩ := dv_skips hp (hd := hd) hF k (by omega) fun j a b => hz j a (by omega)
    refine ⟨h1.trans h3, fun j => ?_⟩
    rw [h2, h4]
    by_cases hj : j = k
    · subst hj; rw [if_pos rfl, if_pos (by omega), if_pos (by omega)]
    · rw [if_neg hj]
      by_cases h5 : s ≤ j
      · rw [if_pos h5, if_pos h5]
        by_cases h6 : j < k
        · rw [if_pos h6, if_pos (by omega)]
        · rw [if_neg h6, if_neg (by omega)]
      · rw [if_neg h5, if_neg h5]
theorem dvQ_high {p : Nat} {g : List Nat} {hd : Nat} : ∀ k {F : Nat → Nat} {j : Nat}, k ≤ j → dvQ p g hd k F j = 0
  | 0, F, j, _ => rfl
  | k + 1, F, j, h => by rw [dvQ, if_neg (by omega)]; exact dvQ_high k (by omega)
theorem dvS_head {p : Nat} (hp : isP p) {g : List Nat} {hd k : Nat} {F : Nat → Nat} (hF : ∀ j, F j < p) (hg : 0 < g.length) (hgp : ∀ x ∈ g, x < p) (hd1 : fmul p (zat g (g.length - 1)) hd = 1) : dvS p g (dvC p g hd k F) k F (k + g.length - 1) = 0 := by
  have hp3 := hp.1
  haveI : NeZero p := ⟨by omega⟩
  unfold dvS
  rw [if_pos (by omega)]
  refine cz_inj (fsub_lt (by omega) _ _) (by omega) ?_
  rw [cz_fsub (Nat.le_of_lt (fmul_lt (by omega) _ _)), cz_fmul]
  unfold dvC
  rw [cz_fmul, cz_zero, show k + g.length - 1 - k = g.length - 1 by omega]
  have := congrArg (cz p) hd1
  rw [cz_fmul, cz_one] at this
  grind
theorem dvS_above {p : Nat} {g : List Nat} {c k j : Nat} {F : Nat → Nat} (h : k + g.length ≤ j) : dvS p g c k F j = F j := by unfold dvS; rw [if_neg (by omega)]
theorem dv_prod {p : Nat} [NeZero p] (hp : isP p) {f g : List Nat} {hd : Nat} (hf : ∀ x ∈ f, x < p) (hg : 0 < g.length) (hd1 : fmul p (zat g (g.length - 1)) hd = 1) : ∀ k {F : Nat → Nat}, (∀ j, cz p (F j) = S (fun a => cz p (cterm p f g a j)) k) → (∀ j, cz p (dvR p g hd k F j) = 0) ∧ ∀ j, j < k → dvQ p g hd k F j = zat f j
  | 0, F, h => ⟨fun j => by rw [dvR, h]; rfl, fun j hj => by omega⟩
  | k + 1, F, h => by
    have hp3 := hp.1
    have hz : S (fun a => cz p (cterm p f g a (k + g.length - 1))) k = 0 := by
      rw [S_ext (g' := fun _ => 0) fun a ha => by unfold cterm; rw [if_neg (by omega), cz_zero], S_zero]
    have hk : ∀ j, cz p (F j) = S (fun a => cz p (cterm p f g a j)) k + cz p (cterm p f g k j) := fun j => h j
    have hg1 := congrArg (cz p) hd1
    rw [cz_fmul, cz_one] at hg1
    have hc : dvC p g hd k F = zat f k := by
      refine cz_inj (fmul_lt (by omega) _ _) (zat_lt (by omega) hf k) ?_
      unfold dvC
      have e : cterm p f g k (k + g.length - 1) = fmul p (zat f k) (zat g (g.length - 1)) := by
        unfold cterm; rw [if_pos (by omega), show k + g.length - 1 - k = g.length - 1 by omega]; rfl
      rw [cz_fmul, hk, hz, e, cz_fmul]; grind
    have hs : ∀ j, cz p (dvS p g (dvC p g hd k F) k F j) = S (fun a => cz p (cterm p f g a j)) k := fun j => by
      unfold dvS
      have hkj := hk j
      unfold cterm at hkj
      by_cases h1 : k ≤ j ∧ j - k < g.length
      · rw [if_pos h1, cz_fsub (Nat.le_of_lt (fmul_lt (by omega) _ _)), cz_fmul, hc]
        rw [if_pos h1, cz_fmul] at hkj
        have e1 : (f[k]?.getD 0) = zat f k := rfl
        have e2 : (g[j - k]?.getD 0) = zat g (j - k) := rfl
        rw [e1, e2] at hkj
        show _ = S (fun a => cz p (if a ≤ j ∧ j - a < g.length then fmul p (f[a]?.getD 0) (g[j - a]?.getD 0) else 0)) k
        grind
      · rw [if_neg h1]
        rw [if_neg h1, cz_zero] at hkj
        rw [hkj]
        show _ = S (fun a => cz p (if a ≤ j ∧ j - a < g.length then fmul p (f[a]?.getD 0) (g[j - a]?.getD 0) else 0)) k
        grind
    obtain ⟨i1, i2⟩ := dv_prod hp hf hg hd1 k hs
    refine ⟨i1, fun j hj => ?_⟩
    rw [dvQ]
    by_cases hjk : j = k
    · rw [if_pos hjk, hc, hjk]
    · rw [if_neg hjk]; exact i2 j (by omega)
theorem lt_short {f : List Nat} {j : Nat} (h : zat f j ≠ 0) : j < (short f).length := by
  obtain ⟨m, hm⟩ := short_split f
  rcases Nat.lt_or_ge j (short f).length with h1 | h1
  · exact h1
  · refine (h ?_).elim
    unfold zat
    rw [hm, List.getElem?_append_right h1, List.getElem?_replicate]
    split <;> rfl
theorem zat_short (f : List Nat) (j : Nat) : zat (short f) j = zat f j := by
  obtain ⟨m, hm⟩ := short_split f
  unfold zat
  conv => rhs; rw [hm]
  rcases Nat.lt_or_ge j (short f).length with h1 | h1
  · rw [List.getElem?_append_left h1]
  · rw [List.getElem?_append_right h1, List.getElem?_replicate, List.getElem?_eq_none h1]
    split <;> rfl
theorem short_last {f : List Nat} (h : 0 < (short f).length) : zat (short f) ((short f).length - 1) ≠ 0 := by
  intro h0
  have h1 := lt_get (List.getElem?_eq_getElem (show (short f).length - 1 < (short f).length by omega))
  have e : short f = (short f).take ((short f).length - 1) ++ List.replicate 1 0 := by
    apply List.ext_getElem?
    intro i
    rcases Nat.lt_or_ge i ((short f).length - 1) with h2 | h2
    · rw [List.getElem?_append_left (by simp; omega), List.getElem?_take_of_lt h2]
    · rw [List.getElem?_append_right (by simp; omega), List.getElem?_replicate]
      simp only [List.length_take, Nat.min_eq_left (Nat.sub_le _ _)]
      by_cases hi : i = (short f).length - 1
      · subst hi
        rw [if_pos (by omega), List.getElem?_eq_getElem h1]
        unfold zat at h0
        rw [List.getElem?_eq_getElem h1] at h0
        simpa using h0
      · rw [if_neg (by omega), List.getElem?_eq_none (by omega)]
  have h3 := congrArg short e
  rw [short_short, short_zeros] at h3
  have := short_len ((short f).take ((short f).length - 1))
  rw [← h3] at this
  simp at this
  omega
theorem tab_zatf {f : List Nat} {n : Nat} (h : f.length = n) : tab n (zat f) = f := by rw [tab_zat f (by omega), h, Nat.sub_self]; simp
theorem short_ext {f g : List Nat} (h : ∀ j, zat f j = zat g j) : short f = short g := by
  have e : tab (f.length + g.length) (zat f) = tab (f.length + g.length) (zat g) := tab_ext fun j _ => h j
  rw [tab_zat f (by omega), tab_zat g (by omega)] at e
  have := congrArg short e
  rw [short_zeros, short_zeros] at this
  exact this
theorem zat_tab {n j : Nat} {g : Nat → Nat} : zat (tab n g) j = if j < n then g j else 0 := by
  by_cases h : j < n
  · rw [if_pos h, zat_get (tab_get g h)]
  · rw [if_neg h, zat_none (by rw [tab_len]; omega)]
theorem mulP_long {p : Nat} (hp : isP p) {f g : List Nat} (hf : ∀ x ∈ f, x < p) (hg : ∀ x ∈ g, x < p) (hf0 : 0 < f.length) (hf1 : short f = f) (hg0 : 0 < g.length) (hg1 : zat g (g.length - 1) ≠ 0) : (mulP p f g).length = f.length + g.length - 1 := by
  have hp3 := hp.1
  haveI : NeZero p := ⟨by omega⟩
  have h1 := mulP_len (p := p) (by omega) f g
  have hl : zat f (f.length - 1) ≠ 0 := by have := short_last (f := f) (by rw [hf1]; exact hf0); rw [hf1] at this; exact this
  have : f.length + g.length - 2 < (mulP p f g).length := by
    unfold mulP
    refine lt_short ?_
    rw [zat_tab, if_pos (by omega)]
    intro h0
    have e : cz p (cv p f g (f.length + g.length - 2)) = cz p (zat f (f.length - 1)) * cz p (zat g (g.length - 1)) := by
      unfold cv
      rw [S_psum]
      obtain ⟨n, hn⟩ : ∃ n, f.length = n + 1 := ⟨f.length - 1, by omega⟩
      rw [hn, S, S_ext (g' := fun _ => 0) fun a ha => by unfold cterm; rw [if_neg (by omega), cz_zero], S_zero]
      unfold cterm
      rw [if_pos (by omega), cz_fmul, show n + 1 + g.length - 2 - n = g.length - 1 by omega]
      show (0 : Fin p) + cz p (zat f n) * _ = _
      rw [show n + 1 - 1 = n by omega]
      show (0 : Fin p) + cz p (zat f n) * cz p (zat g (g.length - 1)) = _
      grind
    rw [h0, cz_zero] at e
    rcases fin_mul hp e.symm with h2 | h2
    · exact cz_ne (zat_lt (by omega) hf _) hl h2
    · exact cz_ne (zat_lt (by omega) hg _) hg1 h2
  omega
end Go.Proofs.Ytlhcaangdenoaaa.Pl
