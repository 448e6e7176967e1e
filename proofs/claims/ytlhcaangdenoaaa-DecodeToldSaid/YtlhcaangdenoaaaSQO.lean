import Derived.Test.YtlhcaangdenoaaaSQB
namespace Go.Lf
end Go.Lf
namespace Go.Proofs.Ytlhcaangdenoaaa.Sh
end Go.Proofs.Ytlhcaangdenoaaa.Sh
namespace Go.Proofs.Ytlhcaangdenoaaa.Sp
end Go.Proofs.Ytlhcaangdenoaaa.Sp
namespace Go.Sx
end Go.Sx
set_option linter.unusedVariables false
set_option linter.unusedSimpArgs false
namespace Go.Proofs.Ytlhcaangdenoaaa.Pl
open Go.Sx Go.Lf Go.Proofs.Ytlhcaangdenoaaa.Sh Go.Proofs.Ytlhcaangdenoaaa.Sp
theorem subw {a b : Nat} (h : b ≤ a) (ha : a < 4611686018427387904) : IntKind.i64.wrap ((a : Int) - (b : Int)) = ((a - b : Nat) : Int) := by rw [wi64 (by omega) (by omega)]; omega
theorem addw {a b : Nat} (h : a + b < 4611686018427387904) : IntKind.i64.wrap ((a : Int) + (b : Int)) = ((a + b : Nat) : Int) := by rw [wi64 (by omega) (by omega)]; omega
theorem subw1 {a : Nat} (h : 1 ≤ a) (ha : a < 4611686018427387904) : IntKind.i64.wrap ((a : Int) - 1) = ((a - 1 : Nat) : Int) := subw (b := 1) h ha
theorem addw1 {a : Nat} (h : a < 4611686018427387904) : IntKind.i64.wrap ((a : Int) + 1) = ((a + 1 : Nat) : Int) := wsucc (by omega)
theorem short_lt {p : Nat} {f : List Nat} (h : ∀ x ∈ f, x < p) : ∀ x ∈ short f, x < p := fun x hx => h x (short_mem hx)
theorem poly_Over_c {p : Nat} (hp : isP p) {f g : List Nat} (hf : ∀ x ∈ f, x < p) (hg : ∀ x ∈ g, x < p) (hfl : f.length ≤ 100000) (hgl : g.length ≤ 100000) (hg0 : 0 < (short g).length) {K : List Nat → List Nat → Prop} (k : K (divQ p f g) (divR p f g)) : poly_Over.C p f g K := by
  have hp3 := hp.1
  have hpp := hp.2.1
  refine poly_Over.q (poly_Short_c (by omega) (poly_Short_c (by omega) ?_))
  have hal := short_len f
  have hbl := short_len g
  have ha := short_lt hf
  have hb := short_lt hg
  unfold divQ divR dvK at k
  generalize short f = a at *
  generalize short g = b at *
  by_cases h0 : a.length < b.length
  · rw [if_pos h0, if_pos h0] at k
    exact ctd (by omega) k
  rw [if_neg h0, if_neg h0] at k
  refine cfd (by omega) ?_
  obtain ⟨y, hy⟩ := get_some (show b.length - 1 < b.length by omega)
  rw [subw (by omega) (by omega), addw1 (by omega), subw1 (by omega) (by omega), toNat_c]
  rw [zat_get hy] at k
  have hyp := hb y (mem_get hy)
  have hhd := finv_lt (p := p) (by omega) y
  have hL : a.length - b.length + 1 + b.length = a.length + 1 := by omega
  refine ⟨MakeOk.of (by omega) (by omega), by omega, by omega, y, hy, field_Over_c (by omega) hpp hyp ?_⟩
  generalize a.length - b.length + 1 = n at *
  generalize finv p y = hd at *
  rw [subw1 (by omega) (by omega), tab_rep]
  refine LoopQ.upto n (fun m t => ∃ F : Nat → Nat, (∀ j, F j < p) ∧ t = ((n : Int) - 1 - m, tab a.length F, tab n fun j => if n - m ≤ j then dvQ p b hd n (zat a) j else 0) ∧ dvR p b hd (n - m) F = dvR p b hd n (zat a) ∧ ∀ j, j < n - m → dvQ p b hd (n - m) F j = dvQ p b hd n (zat a) j) ⟨zat a, zat_lt (by omega) ha, ?_, rfl, fun j _ => rfl⟩ ?_
  · refine Prod.ext_iff.2 ⟨by dsimp only; omega, Prod.ext_iff.2 ⟨(tab_zatf rfl).symm, ?_⟩⟩
    exact tab_ext fun j hj => by rw [if_neg (by omega)]
  rintro m _ next hm ⟨F, hF, rfl, hR, hQ⟩ hnx
  dsimp only
  by_cases hmn : m < n
  · obtain ⟨q, hq⟩ : ∃ q, n - m = q + 1 := ⟨n - m - 1, by omega⟩
    rw [hq] at hR hQ
    have e1 : (n : Int) - 1 - m = (q : Int) := by omega
    rw [e1, addw (by omega), subw1 (by omega) (by omega)]
    refine ctd (by omega) ⟨by omega, by omega, _, tab_get F (show q + b.length - 1 < a.length by omega), field_Times_c (by omega) hpp (hF _) hhd ⟨by omega, by omega, ?_⟩⟩
    refine LoopQ.rangeS b.length (fun i s => s = tab a.length fun j => if q ≤ j ∧ j - q < i then dvS p b (dvC p b hd q F) q F j else F j) (tab_ext fun j _ => by rw [if_neg (by omega)]) (by omega) ?_ ?_
    · rintro i _ next2 hi rfl hnx2
      dsimp only
      obtain ⟨z, hz⟩ := get_some hi
      have g1 := tab_get (n := a.length) (i := q + i) (fun j => if q ≤ j ∧ j - q < i then dvS p b (dvC p b hd q F) q F j else F j) (by omega)
      rw [if_neg (by omega)] at g1
      rw [addw (by omega)]
      refine ctd (by omega) ⟨by omega, by omega, z, hz, by omega, by omega, _, g1, field_Times_c (by omega) hpp (fmul_lt (by omega) _ _) (hb z (mem_get hz)) (field_Minus_c (by omega) hpp (hF _) (fmul_lt (by omega) _ _) ⟨by omega, by omega, hnx2 _ ?_⟩)⟩
      simp only [toNat_c]
      rw [tab_set]
      refine tab_ext fun j _ => ?_
      by_cases hj : j = q + i
      · subst hj
        rw [if_pos rfl, if_pos (by omega)]
        unfold dvS
        rw [if_pos (by omega), show q + i - q = i by omega, zat_get hz]; rfl
      · rw [if_neg hj]
        by_cases h2 : q ≤ j ∧ j - q < i
        · rw [if_pos h2, if_pos (by omega)]
        · rw [if_neg h2, if_neg (by omega)]
    · rintro _ next2 rfl
      refine cfd (by dsimp only; omega) (hnx hmn _ ⟨dvS p b (dvC p b hd q F) q F, dvS_lt (by omega) hF, ?_, ?_, ?_⟩)
      · dsimp only
        refine Prod.ext_iff.2 ⟨by dsimp only; rw [wi64 (by omega) (by omega)]; omega, Prod.ext_iff.2 ⟨?_, ?_⟩⟩
        · refine tab_ext fun j _ => ?_
          by_cases h2 : q ≤ j ∧ j - q < b.length
          · rw [if_pos h2]
          · rw [if_neg h2]; unfold dvS; rw [if_neg h2]
        · simp only [toNat_c]
          rw [tab_set]
          refine tab_ext fun j _ => ?_
          by_cases hj : j = q
          · subst hj
            rw [if_pos rfl, if_pos (by omega), ← hQ j (by omega), dvQ, if_pos rfl]; rfl
          · rw [if_neg hj, hq]
            by_cases h2 : q + 1 ≤ j
            · rw [if_pos h2, if_pos (by omega)]
            · rw [if_neg h2, if_neg (by omega)]
      · rw [show n - (m + 1) = q by omega, ← hR]; rfl
      · intro j hj
        rw [show n - (m + 1) = q by omega] at hj ⊢
        rw [← hQ j (by omega), dvQ, if_neg (by omega)]
  · obtain rfl : m = n := by omega
    rw [Nat.sub_self] at hR
    refine cfd (by omega) (poly_Short_c (by rw [tab_len]; omega) (poly_Short_c (by rw [tab_len]; omega) ?_))
    have e1 : (tab m fun j => if m - m ≤ j then dvQ p b hd m (zat a) j else 0) = tab m (dvQ p b hd m (zat a)) := tab_ext fun j _ => by rw [if_pos (by omega)]
    have e2 : F = dvR p b hd m (zat a) := hR
    rw [e1, e2]; exact k
theorem zat_addP {p : Nat} (hp : 0 < p) {f g : List Nat} (j : Nat) : zat (addP p f g) j = fadd p (zat f j) (zat g j) := by
  unfold addP
  rw [zat_short, zat_tab]
  have := mx_le f.length g.length
  by_cases h : j < mx f.length g.length
  · rw [if_pos h]
  · rw [if_neg h, zat_none (f := f) (by omega), zat_none (f := g) (by omega)]; unfold fadd; simp
theorem zat_scaleP {p c : Nat} (f : List Nat) (j : Nat) : zat (scaleP p f c) j = fmul p (zat f j) c := by
  unfold scaleP
  rw [zat_short, zat_tab]
  by_cases h : j < f.length
  · rw [if_pos h]
  · rw [if_neg h, zat_none (by omega)]; unfold fmul; simp
theorem zat_shift (s : Nat) (X : List Nat) (j : Nat) : zat (List.replicate s 0 ++ X) j = if s ≤ j then zat X (j - s) else 0 := by
  unfold zat
  by_cases h : s ≤ j
  · rw [if_pos h, List.getElem?_append_right (by simpa using h)]; simp
  · rw [if_neg h, List.getElem?_append_left (by simp; omega), List.getElem?_replicate, if_pos (by omega)]; rfl
theorem short_le {f : List Nat} {n : Nat} (h : ∀ j, n ≤ j → zat f j = 0) : (short f).length ≤ n := by
  rcases Nat.lt_or_ge n (short f).length with h1 | h1
  · have := short_last (f := f) (by omega)
    rw [zat_short, h _ (by omega)] at this
    exact (this rfl).elim
  · exact h1
theorem fsub_neg {p a b : Nat} (hp : 1 < p) (ha : a < p) (hb : b < p) : fadd p a (fmul p b (p - 1)) = fsub p a b := by
  haveI : NeZero p := ⟨by omega⟩
  refine cz_inj (fadd_lt (by omega) _ _) (fsub_lt (by omega) _ _) ?_
  have h1 : cz p (p - 1) = -1 := by
    have : cz p (p - 1) + cz p 1 = 0 := by rw [← cz_add, Nat.sub_add_cancel (by omega), cz_self]
    rw [cz_one] at this; grind
  rw [cz_fadd, cz_fmul, cz_fsub (Nat.le_of_lt hb), h1]; grind
theorem juntoref02_Sub_c {p : Nat} (hp0 : 0 < p) (hp : p ≤ 65537) {f g : List Nat} (hf : ∀ x ∈ f, x < p) (hg : ∀ x ∈ g, x < p) (hfl : f.length ≤ 100000) (hgl : g.length ≤ 100000) {K : List Nat → Prop} (k : K (addP p f (scaleP p g (p - 1)))) : juntoref02_Sub.C p f g K := by
  apply juntoref02_Sub.q
  unfold juntoref02_Sub.Q
  rw [show (p : Int) - 1 = ((p - 1 : Nat) : Int) by omega, uw (by omega), toNat_c]
  have := scaleP_len p (p - 1) g
  exact juntoref02_Scale_c hp0 hp hg (by omega) hgl (juntoref02_Add_c hp0 hp hf (fun a ha => scaleP_lt hp0 ha) hfl (by omega) k)
theorem juntoref02_Divide_c {p : Nat} (hp : isP p) {f g : List Nat} (hf : ∀ x ∈ f, x < p) (hg : ∀ x ∈ g, x < p) (hfl : f.length ≤ 10000) (hgl : g.length ≤ 10000) (hg0 : 0 < (short g).length) {K : List Nat → List Nat → Prop} (k : K (divQ p f g) (divR p f g)) : juntoref02_Divide.C p f g K := by
  have hp3 := hp.1
  have hpp := hp.2.1
  refine juntoref02_Divide.q (juntoref02_Trim_c (by omega) (juntoref02_Trim_c (by omega) ?_))
  have hal := short_len f
  have hbl := short_len g
  have ha := short_lt hf
  have hb := short_lt hg
  have hat := short_short f
  have hbt := short_short g
  have hlast := short_last hg0
  unfold divQ divR dvK at k
  generalize short f = a at *
  generalize short g = b at *
  obtain ⟨y, hy⟩ := get_some (show b.length - 1 < b.length by omega)
  rw [subw1 (by omega) (by omega)]
  have hyp := hb y (mem_get hy)
  have hhd := finv_lt (p := p) (by omega) y
  rw [zat_get hy] at k hlast
  refine ⟨MakeOk.of (by omega) (by omega), by omega, by omega, y, hy, juntoref01_Inv_c (by omega) hpp hyp ?_⟩
  by_cases h0 : a.length < b.length
  · rw [if_pos h0, if_pos h0] at k
    refine LoopQ.upto 0 (fun _ t => t = (a, List.replicate a.length 0)) rfl ?_
    rintro m _ next hm rfl hnx
    refine cfd (by dsimp only; omega) (juntoref02_Trim_c (by simp; omega) ?_)
    have := short_zeros [] a.length
    rw [List.nil_append] at this
    dsimp only
    rw [this]; exact k
  rw [if_neg h0, if_neg h0] at k
  have hd1 : fmul p (zat b (b.length - 1)) (finv p y) = 1 := by
    haveI : NeZero p := ⟨by omega⟩
    refine cz_inj (fmul_lt (by omega) _ _) (by omega) ?_
    rw [cz_fmul, zat_get hy, cz_one]
    exact fin_finv hp (cz_ne hyp hlast)
  have hL : a.length - b.length + 1 + b.length = a.length + 1 := by omega
  generalize a.length - b.length + 1 = n at *
  generalize finv p y = hd at *
  refine LoopQ.down (fun t => (∀ x ∈ t.1, x < p) ∧ short t.1 = t.1 ∧ t.1.length ≤ a.length ∧ ∃ k, k ≤ n ∧ t.1.length ≤ k + b.length - 1 ∧ dvR p b hd k (zat t.1) = dvR p b hd n (zat a) ∧ (∀ j, j < k → dvQ p b hd k (zat t.1) j = dvQ p b hd n (zat a) j) ∧ t.2 = tab a.length fun j => if k ≤ j then dvQ p b hd n (zat a) j else 0) (fun t => t.1.length) ⟨ha, hat, Nat.le_refl _, n, Nat.le_refl _, by dsimp only; omega, rfl, fun j _ => rfl, ?_⟩ ?_
  · dsimp only
    rw [tab_rep]
    refine tab_ext fun j hj => ?_
    by_cases h2 : n ≤ j
    · rw [if_pos h2, dvQ_high n h2]
    · rw [if_neg h2]
  rintro ⟨u, _⟩ next ⟨hu, hut, hul, q, hqn, huq, hR, hQ, rfl⟩ hnx
  dsimp only at *
  have hz0 : ∀ j, u.length ≤ j → zat u j = 0 := fun j hj => zat_none hj
  by_cases hlen : b.length ≤ u.length
  · obtain ⟨s, hs⟩ : ∃ s, u.length = s + b.length := ⟨u.length - b.length, by omega⟩
    obtain ⟨x, hx⟩ := get_some (show u.length - 1 < u.length by omega)
    have hxp := hu x (mem_get hx)
    obtain ⟨hk1, hk2⟩ := dv_skips (p := p) (by omega) (g := b) (hd := hd) (s := s + 1) (F := zat u) (fun j => zat_lt (by omega) hu j) q (by omega) fun j h1 h2 => hz0 _ (by omega)
    have hc : fmul p x hd = dvC p b hd s (zat u) := by
      unfold dvC; rw [show s + b.length - 1 = u.length - 1 by omega, zat_get hx]
    have hcl := fmul_lt (p := p) (by omega) x hd
    have hnew : ∀ j, zat (addP p u (scaleP p (List.replicate s 0 ++ scaleP p b (fmul p x hd)) (p - 1))) j = dvS p b (dvC p b hd s (zat u)) s (zat u) j := fun j => by
      have hzl : ∀ i, zat (List.replicate s 0 ++ scaleP p b (fmul p x hd)) i < p := fun i => by
        rw [zat_shift]; split
        · rw [zat_scaleP]; exact fmul_lt (by omega) _ _
        · omega
      rw [zat_addP (by omega), zat_scaleP, fsub_neg (by omega) (zat_lt (by omega) hu j) (hzl j), zat_shift, ← hc]
      unfold dvS
      have hz : ∀ v, v < p → fsub p v 0 = v := fun v hv => by unfold fsub; rw [Nat.sub_zero, Nat.add_mod_right, Nat.mod_eq_of_lt hv]
      by_cases h2 : s ≤ j
      · rw [if_pos h2, zat_scaleP]
        by_cases h3 : j - s < b.length
        · rw [if_pos ⟨h2, h3⟩]; congr 1; unfold fmul; rw [Nat.mul_comm]
        · rw [if_neg (by omega), zat_none (f := b) (by omega)]
          have : fmul p 0 (fmul p x hd) = 0 := by unfold fmul; simp
          rw [this, hz _ (zat_lt (by omega) hu j)]
      · rw [if_neg h2, if_neg (by omega), hz _ (zat_lt (by omega) hu j)]
    have hfun := funext hnew
    have hnl : (addP p u (scaleP p (List.replicate s 0 ++ scaleP p b (fmul p x hd)) (p - 1))).length ≤ s + b.length - 1 := by
      have : short (addP p u (scaleP p (List.replicate s 0 ++ scaleP p b (fmul p x hd)) (p - 1))) = addP p u (scaleP p (List.replicate s 0 ++ scaleP p b (fmul p x hd)) (p - 1)) := short_short _
      rw [← this]
      refine short_le fun j hj => ?_
      rw [hnew]
      by_cases hj2 : j = s + b.length - 1
      · rw [hj2]; exact dvS_head hp (fun i => zat_lt (by omega) hu i) hg0 hb hd1
      · rw [dvS_above (by omega)]; exact hz0 _ (by omega)
    have hsb := scaleP_len p (fmul p x hd) b
    have hzz : ∀ i ∈ List.replicate s 0 ++ scaleP p b (fmul p x hd), i < p := fun i hi => by
      rcases List.mem_append.1 hi with h | h
      · have := (List.mem_replicate.1 h).2; omega
      · exact scaleP_lt (by omega) h
    have hstep : next (addP p u (scaleP p (List.replicate s 0 ++ scaleP p b (fmul p x hd)) (p - 1)), (tab a.length fun j => if q ≤ j then dvQ p b hd n (zat a) j else 0).set s (fmul p x hd)) := by
      refine hnx _ (by dsimp only; omega) ⟨fun i hi => addP_lt (by omega) hi, short_short _, by dsimp only; omega, s, by omega, hnl, ?_, ?_, ?_⟩
      · dsimp only; rw [hfun, ← hR, hk1]; rfl
      · intro j hj
        dsimp only
        rw [hfun, ← hQ j (by omega), hk2, if_neg (by omega), dvQ, if_neg (by omega)]
      · dsimp only
        rw [tab_set]
        refine tab_ext fun j hj => ?_
        by_cases h2 : j = s
        · subst h2
          rw [if_pos rfl, if_pos (Nat.le_refl _), ← hQ j (by omega), hk2, if_neg (by omega), dvQ, if_pos rfl, hc]
        · rw [if_neg h2]
          by_cases h3 : s ≤ j
          · rw [if_pos h3]
            by_cases h4 : q ≤ j
            · rw [if_pos h4]
            · rw [if_neg h4, ← hQ j (by omega), hk2, if_pos (by omega), if_pos (by omega)]
          · rw [if_neg h3, if_neg (by omega)]
    rw [subw1 (by omega) (by omega), subw (by omega) (by omega), show u.length - b.length = s by omega]
    refine ctd (by omega) ⟨by omega, by omega, x, hx, juntoref01_Mul_c (by omega) hpp hxp hhd ⟨by omega, by omega, ?_, ?_⟩⟩
    · refine ⟨MakeOk.of (by omega) (by omega), juntoref02_Scale_c (by omega) hpp hb hcl (by omega) ⟨AppOk.of (by simp; omega), juntoref02_Sub_c (by omega) hpp hu hzz (by omega) (by simp; omega) hstep⟩⟩
    · exact juntoref02_Scale_c (by omega) hpp hb hcl (by omega) ⟨MakeOk.of (by omega) (by omega), AppOk.of (by simp; omega), juntoref02_Sub_c (by omega) hpp hu hzz (by omega) (by simp; omega) hstep⟩
  · refine cfd (by omega) (juntoref02_Trim_c (by rw [tab_len]; omega) ?_)
    obtain ⟨hk1, hk2⟩ := dv_skips (p := p) (by omega) (g := b) (hd := hd) (s := 0) (F := zat u) (fun j => zat_lt (by omega) hu j) q (by omega) fun j h1 h2 => hz0 _ (by omega)
    have e1 : short (tab a.length fun j => if q ≤ j then dvQ p b hd n (zat a) j else 0) = short (tab n (dvQ p b hd n (zat a))) := short_ext fun j => by
      rw [zat_tab, zat_tab]
      by_cases hj : j < n
      · rw [if_pos hj, if_pos (by omega)]
        by_cases h2 : q ≤ j
        · rw [if_pos h2]
        · rw [if_neg h2, ← hQ j (by omega), hk2, if_pos (by omega), if_pos (by omega)]
      · rw [if_neg hj, dvQ_high n (by omega)]; simp
    have e2 : u = short (tab a.length (dvR p b hd n (zat a))) := by
      rw [← hut]
      refine short_ext fun j => ?_
      rw [zat_tab, ← hR, hk1]
      by_cases hj : j < a.length
      · rw [if_pos hj]; rfl
      · rw [if_neg hj]; exact hz0 _ (by omega)
    rw [e1]; rw [← e2] at k; exact k
end Go.Proofs.Ytlhcaangdenoaaa.Pl
