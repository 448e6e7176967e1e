import Derived.Test.YtlhcaangdenoaaaSQV
import Derived.Test.YtlhcaangdenoaaaSQJ
namespace Go.Lf
end Go.Lf
namespace Go.Proofs.Ytlhcaangdenoaaa.Sh
end Go.Proofs.Ytlhcaangdenoaaa.Sh
namespace Go.Proofs.Ytlhcaangdenoaaa.Sp
end Go.Proofs.Ytlhcaangdenoaaa.Sp
namespace Go.Sx
end Go.Sx
set_option linter.unusedVariables false
set_option linter.unusedSimpArgs false
namespace Go.Proofs.Ytlhcaangdenoaaa.Pl
open Go.Sx Go.Lf Go.Proofs.Ytlhcaangdenoaaa.Sh Go.Proofs.Ytlhcaangdenoaaa.Sp
def offB (p : Nat) (f : List Nat) (l : List TPoint) (i : Nat) : Bool := decide (evalH p f (px l i) ≠ py l i)
def offL (p : Nat) (f : List Nat) (l : List TPoint) : List Nat := (List.range l.length).filter (offB p f l)
structure Dec (p d w : Nat) (l : List TPoint) (f : List Nat) : Prop where
  lt : ∀ a ∈ f, a < p
  len : f.length ≤ d + 1
  tidy : short f = f
  off : (offL p f l).length ≤ w
theorem Dec.mono {p d w w' : Nat} {l : List TPoint} {f : List Nat} (h : Dec p d w l f) (hw : w ≤ w') : Dec p d w' l f := ⟨h.lt, h.len, h.tidy, Nat.le_trans h.off hw⟩
theorem eq_roots {p m : Nat} (hp : isP p) [NeZero p] {f g : List Nat} (hf : ∀ a ∈ f, a < p) (hg : ∀ a ∈ g, a < p) (hfl : f.length ≤ m) (hgl : g.length ≤ m) {xs : List Nat} (hn : xs.Nodup) (hx : ∀ x ∈ xs, x < p) (hl : m ≤ xs.length) (h : ∀ x ∈ xs, pv p f (cz p x) = pv p g (cz p x)) : short f = short g := by
  have hp3 := hp.1
  have hz := roots_zero hp (xs.map (cz p)) (tab m fun i => cz p (zat f i) - cz p (zat g i)) (cz_nodup hn hx) (by rw [tab_len]; simp; omega) (fun x hx => by
    obtain ⟨q, hq, rfl⟩ := List.mem_map.1 hx
    rw [pe_tab]
    have e3 : S (fun i => (cz p (zat f i) - cz p (zat g i)) * cz p q ^ i) m = S (fun i => cz p (zat f i) * cz p q ^ i + (-1 : Fin p) * (cz p (zat g i) * cz p q ^ i)) m := S_ext fun i _ => by grind
    rw [e3, S_add, S_mul, pv_zat f hfl, pv_zat g hgl, h q hq]; grind)
  have hi : ∀ i, i < m → zat f i = zat g i := fun i hi => cz_inj (zat_lt (by omega) hf i) (zat_lt (by omega) hg i) (by
    have := hz _ (mem_get (tab_get (fun i => cz p (zat f i) - cz p (zat g i)) hi)); grind)
  have e := tab_ext (n := m) hi
  rw [tab_zat f hfl, tab_zat g hgl] at e
  have := congrArg short e
  rw [short_zeros, short_zeros] at this
  exact this
theorem cnt3 (a b : Nat → Bool) (L : List Nat) : L.length ≤ (L.filter fun i => !a i && !b i).length + (L.filter a).length + (L.filter b).length := by
  induction L with
  | nil => simp
  | cons x L ih =>
    simp only [List.filter_cons, List.length_cons]
    cases a x <;> cases b x <;> simp <;> omega
theorem off_false {p : Nat} [NeZero p] (hp : 0 < p) {f : List Nat} {l : List TPoint} {i : Nat} (h : offB p f l i = false) : pv p f (cz p (px l i)) = cz p (py l i) := by
  unfold offB at h
  rw [decide_eq_false_iff_not, Classical.not_not] at h
  rw [← pv_evalH, h]
theorem px_nodup {p : Nat} {l : List TPoint} (hl : Pts p l) (c : Nat → Bool) : (((List.range l.length).filter c).map (px l)).Nodup := by
  refine nodup_map (List.nodup_range.filter _) fun a ha b hb h => ?_
  have h1 := List.mem_range.1 (List.mem_filter.1 ha).1
  have h2 := List.mem_range.1 (List.mem_filter.1 hb).1
  obtain ⟨u, hu⟩ := get_some h1
  obtain ⟨v, hv⟩ := get_some h2
  rw [px_get hu, px_get hv] at h
  rcases Nat.lt_trichotomy a b with hab | hab | hab
  · exact (nodup_iff.1 hl.2 b a v.X hab (by rw [List.getElem?_map, hv]; rfl) (by rw [List.getElem?_map, hu]; simp [h])).elim
  · exact hab
  · exact (nodup_iff.1 hl.2 a b u.X hab (by rw [List.getElem?_map, hu]; rfl) (by rw [List.getElem?_map, hv]; simp [h])).elim
theorem Dec.uniq {p d w : Nat} (hp : isP p) {l : List TPoint} (hl : Pts p l) (hn : d + 1 + 2 * w ≤ l.length) {f g : List Nat} (hf : Dec p d w l f) (hg : Dec p d w l g) : f = g := by
  have hp3 := hp.1
  haveI : NeZero p := ⟨by omega⟩
  have hc := cnt3 (offB p f l) (offB p g l) (List.range l.length)
  have h1 := hf.off
  have h2 := hg.off
  unfold offL at h1 h2
  rw [List.length_range] at hc
  have := eq_roots (m := d + 1) hp hf.lt hg.lt hf.len hg.len (px_nodup hl fun i => !offB p f l i && !offB p g l i) (fun x hx => by
    obtain ⟨i, _, rfl⟩ := List.mem_map.1 hx; exact px_lt (by omega) hl i) (by rw [List.length_map]; omega) (fun x hx => by
    obtain ⟨i, hi, rfl⟩ := List.mem_map.1 hx
    have := (List.mem_filter.1 hi).2
    simp at this
    rw [off_false (by omega) this.1, off_false (by omega) this.2])
  rwa [hf.tidy, hg.tidy] at this
def mlin (p z : Nat) : Nat → List Nat → List Nat
  | a, [] => [a]
  | a, c :: f => fsub p a (fmul p z c) :: mlin p z c f
theorem mlin_eval {p z : Nat} [NeZero p] (hp : 0 < p) (x : Fin p) : ∀ (f : List Nat) (a : Nat), pv p (mlin p z a f) x = cz p a + pv p f x * (x - cz p z)
  | [], a => by rw [mlin, pv_cons, pv_nil]; grind
  | c :: f, a => by rw [mlin, pv_cons, mlin_eval hp x f c, pv_cons, cz_fsub (Nat.le_of_lt (fmul_lt hp _ _)), cz_fmul]; grind
theorem mlin_monic {p z : Nat} (hp : 0 < p) : ∀ (E : List Nat) (a : Nat), a < p → (∀ x ∈ E, x < p) → ∃ E', mlin p z a (E ++ [1]) = E' ++ [1] ∧ E'.length = E.length + 1 ∧ ∀ x ∈ E', x < p
  | [], a, ha, _ => ⟨[fsub p a (fmul p z 1)], rfl, rfl, fun x hx => by rw [List.mem_singleton.1 hx]; exact fsub_lt hp _ _⟩
  | c :: E, a, ha, hE => by
    obtain ⟨E', h1, h2, h3⟩ := mlin_monic (z := z) hp E c (hE c (List.mem_cons_self ..)) fun x hx => hE x (List.mem_cons_of_mem _ hx)
    refine ⟨fsub p a (fmul p z c) :: E', by rw [List.cons_append, mlin, h1]; rfl, by simp [h2], fun x hx => ?_⟩
    rcases List.mem_cons.1 hx with rfl | hx
    · exact fsub_lt hp _ _
    · exact h3 x hx
theorem monic_roots {p : Nat} [NeZero p] (hp : 0 < p) : ∀ (zs : List Nat), ∃ E : List Nat, E.length = zs.length ∧ (∀ x ∈ E, x < p) ∧ ∀ z ∈ zs, pv p (E ++ [1]) (cz p z) = 0
  | [] => ⟨[], rfl, fun x hx => (by cases hx), fun z hz => (by cases hz)⟩
  | z :: zs => by
    obtain ⟨E, h1, h2, h3⟩ := monic_roots hp zs
    obtain ⟨E', h4, h5, h6⟩ := mlin_monic (z := z) hp E 0 hp h2
    refine ⟨E', by rw [h5, h1]; rfl, h6, fun y hy => ?_⟩
    rw [← h4, mlin_eval hp, cz_zero]
    rcases List.mem_cons.1 hy with rfl | hy
    · grind
    · rw [h3 y hy]; grind
def rowA (p D : Nat) (l : List TPoint) (i k : Nat) : Nat := if k < D then fpow p (px l i) k else fsub p 0 (fmul p (py l i) (fpow p (px l i) (k - D)))
def rowB (p w : Nat) (l : List TPoint) (i : Nat) : Nat := fmul p (py l i) (fpow p (px l i) w)
theorem rowA_lt {p : Nat} (hp : 0 < p) (D : Nat) (l : List TPoint) (i k : Nat) : rowA p D l i k < p := by
  unfold rowA; split
  · exact fpow_lt hp _ _
  · exact fsub_lt hp _ _
theorem rowB_lt {p : Nat} (hp : 0 < p) (w : Nat) (l : List TPoint) (i : Nat) : rowB p w l i < p := fmul_lt hp _ _
section
variable {p : Nat} [NeZero p]
theorem S_split (g : Nat → Fin p) (a : Nat) : ∀ b, S g (a + b) = S g a + S (fun k => g (a + k)) b
  | 0 => by show S g a = S g a + 0; grind
  | b + 1 => by rw [← Nat.add_assoc, S, S_split g a b, S]; grind
theorem dev_row (hp : 0 < p) (D w : Nat) (l : List TPoint) (x : Nat → Fin p) (i : Nat) : dev (czM p (augM (D + w) (rowA p D l) (rowB p w l))) (D + w) x i =
    S (fun k => x k * cz p (px l i) ^ k) D - cz p (py l i) * (S (fun k => x (D + k) * cz p (px l i) ^ k) w + cz p (px l i) ^ w) := by
  unfold dev czM
  have e1 : S (fun k => cz p (augM (D + w) (rowA p D l) (rowB p w l) i k) * x k) (D + w) = S (fun k => cz p (rowA p D l i k) * x k) (D + w) := S_ext fun k hk => by unfold augM; rw [if_pos hk]
  have e2 : augM (D + w) (rowA p D l) (rowB p w l) i (D + w) = rowB p w l i := by unfold augM; rw [if_neg (by omega)]
  rw [e1, e2, S_split]
  have e3 : S (fun k => cz p (rowA p D l i k) * x k) D = S (fun k => x k * cz p (px l i) ^ k) D := S_ext fun k hk => by
    unfold rowA; rw [if_pos hk, cz_fpow]; grind
  have e4 : S (fun k => cz p (rowA p D l i (D + k)) * x (D + k)) w = S (fun k => (- cz p (py l i)) * (x (D + k) * cz p (px l i) ^ k)) w := S_ext fun k hk => by
    unfold rowA
    rw [if_neg (by omega), cz_fsub (Nat.le_of_lt (fmul_lt hp _ _)), cz_fmul, cz_fpow, cz_zero, show D + k - D = k by omega]; grind
  rw [e3, e4, S_mul]
  unfold rowB
  rw [cz_fmul, cz_fpow]; grind
theorem offs_sol {d w : Nat} (hp : isP p) {l : List TPoint} (hl : Pts p l) {f : List Nat} (hf : Dec p d w l f) : ∃ x, Solves p l.length (d + w + 1 + w) (augM (d + w + 1 + w) (rowA p (d + w + 1) l) (rowB p w l)) x := by
  have hp3 := hp.1
  obtain ⟨E, h1, h2, h3⟩ := monic_roots (p := p) (by omega) ((offL p f l).map (px l) ++ List.replicate (w - (offL p f l).length) 0)
  have hE : E.length = w := by rw [h1]; simp; have := hf.off; omega
  have hE1 : ∀ x ∈ E ++ [1], x < p := fun x hx => by
    rcases List.mem_append.1 hx with hx | hx
    · exact h2 x hx
    · rw [List.mem_singleton.1 hx]; omega
  have hQ := mulP_len (p := p) (by omega) f (E ++ [1])
  have hfl := hf.len
  simp only [List.length_append, List.length_singleton, hE] at hQ
  refine ⟨fun k => if k < d + w + 1 then cz p (zat (mulP p f (E ++ [1])) k) else cz p (zat E (k - (d + w + 1))), fun i hi => ?_⟩
  rw [dev_row (by omega)]
  have e1 : S (fun k => (if k < d + w + 1 then cz p (zat (mulP p f (E ++ [1])) k) else cz p (zat E (k - (d + w + 1)))) * cz p (px l i) ^ k) (d + w + 1) = pv p (mulP p f (E ++ [1])) (cz p (px l i)) := by
    rw [← pv_zat _ (show (mulP p f (E ++ [1])).length ≤ d + w + 1 by omega)]
    exact S_ext fun k hk => by rw [if_pos hk]
  have e2 : S (fun k => (if d + w + 1 + k < d + w + 1 then cz p (zat (mulP p f (E ++ [1])) (d + w + 1 + k)) else cz p (zat E (d + w + 1 + k - (d + w + 1)))) * cz p (px l i) ^ k) w + cz p (px l i) ^ w = pv p (E ++ [1]) (cz p (px l i)) := by
    rw [pv_append, ← pv_zat E (Nat.le_of_eq hE), hE, pv_cons, pv_nil, cz_one]
    have : S (fun k => (if d + w + 1 + k < d + w + 1 then cz p (zat (mulP p f (E ++ [1])) (d + w + 1 + k)) else cz p (zat E (d + w + 1 + k - (d + w + 1)))) * cz p (px l i) ^ k) w = S (fun k => cz p (zat E k) * cz p (px l i) ^ k) w := S_ext fun k hk => by rw [if_neg (by omega), show d + w + 1 + k - (d + w + 1) = k by omega]
    rw [this]; grind
  rw [e1, e2, mulP_eval (by omega)]
  cases h : offB p f l i with
  | false => rw [off_false (by omega) h]; grind
  | true =>
    have hz : pv p (E ++ [1]) (cz p (px l i)) = 0 := h3 _ (List.mem_append_left _ (List.mem_map.2 ⟨i, List.mem_filter.2 ⟨List.mem_range.2 hi, h⟩, rfl⟩))
    rw [hz]; grind
theorem pv_take {V : List Nat} {D : Nat} (x : Fin p) : S (fun k => cz p (zat V k) * x ^ k) D = pv p (V.take D) x := by
  rw [← pv_zat (V.take D) (n := D) (by simp; omega)]
  exact S_ext fun k hk => by unfold zat; rw [List.getElem?_take_of_lt hk]
theorem sol_prod {d w : Nat} (hp : isP p) {l : List TPoint} (hl : Pts p l) (hn : d + 1 + 2 * w ≤ l.length) {f : List Nat} (hf : Dec p d w l f) {V : List Nat} (hV : V.length = d + w + 1 + w) (hVp : ∀ a ∈ V, a < p)
    (hs : Solves p l.length (d + w + 1 + w) (augM (d + w + 1 + w) (rowA p (d + w + 1) l) (rowB p w l)) fun k => cz p (zat V k)) : short (V.take (d + w + 1)) = mulP p f (V.drop (d + w + 1) ++ [1]) := by
  have hp3 := hp.1
  have hc := cnt3 (offB p f l) (offB p f l) (List.range l.length)
  have h1 := hf.off
  have hfl := hf.len
  have hm := mulP_len (p := p) (by omega) f (V.drop (d + w + 1) ++ [1])
  simp only [List.length_append, List.length_drop, List.length_singleton, hV] at hm
  have hcnt : l.length - w ≤ ((List.range l.length).filter fun i => !offB p f l i).length := by
    have : ∀ (a : Nat → Bool) (L : List Nat), L.length ≤ (L.filter fun i => !a i).length + (L.filter a).length := fun a L => by
      induction L with
      | nil => simp
      | cons x L ih => simp only [List.filter_cons, List.length_cons]; cases a x <;> simp <;> omega
    have := this (offB p f l) (List.range l.length)
    rw [List.length_range] at this
    unfold offL at h1
    omega
  have := eq_roots (m := d + w + 1) (f := V.take (d + w + 1)) (g := mulP p f (V.drop (d + w + 1) ++ [1])) hp (fun a ha => hVp a (List.mem_of_mem_take ha)) (fun a ha => mulP_lt (by omega) ha) (by simp; omega) (by omega) (px_nodup hl fun i => !offB p f l i) (fun x hx => by
    obtain ⟨i, _, rfl⟩ := List.mem_map.1 hx; exact px_lt (by omega) hl i) (by rw [List.length_map]; omega) (fun x hx => by
    obtain ⟨i, hi, rfl⟩ := List.mem_map.1 hx
    have hi2 := List.mem_filter.1 hi
    have hr : offB p f l i = false := by simpa using hi2.2
    have := hs i (List.mem_range.1 hi2.1)
    rw [dev_row (by omega)] at this
    have e2 : S (fun k => cz p (zat V (d + w + 1 + k)) * cz p (px l i) ^ k) w + cz p (px l i) ^ w = pv p (V.drop (d + w + 1) ++ [1]) (cz p (px l i)) := by
      rw [pv_append, ← pv_zat (V.drop (d + w + 1)) (n := w) (by simp [hV]), pv_cons, pv_nil, cz_one, List.length_drop, hV, show d + w + 1 + w - (d + w + 1) = w by omega]
      have : S (fun k => cz p (zat (V.drop (d + w + 1)) k) * cz p (px l i) ^ k) w = S (fun k => cz p (zat V (d + w + 1 + k)) * cz p (px l i) ^ k) w := S_ext fun k hk => by unfold zat; rw [List.getElem?_drop]
      rw [this]; grind
    rw [pv_take, e2] at this
    rw [mulP_eval (by omega), off_false (by omega) hr]; grind)
  rw [this]
  exact short_short _
end
def dvK (f g : List Nat) : Nat := (short f).length - (short g).length + 1
def divQ (p : Nat) (f g : List Nat) : List Nat := if (short f).length < (short g).length then [] else short (tab (dvK f g) (dvQ p (short g) (finv p (zat (short g) ((short g).length - 1))) (dvK f g) (zat (short f))))
def divR (p : Nat) (f g : List Nat) : List Nat := if (short f).length < (short g).length then short f else short (tab (short f).length (dvR p (short g) (finv p (zat (short g) ((short g).length - 1))) (dvK f g) (zat (short f))))
theorem short_monic (E : List Nat) : short (E ++ [1]) = E ++ [1] := by
  unfold short
  rw [List.reverse_append, List.reverse_singleton, List.singleton_append, List.dropWhile_cons]
  simp
theorem finv_one {p : Nat} (hp : 2 < p) : finv p 1 = 1 := by unfold finv fpow; rw [Nat.one_pow, Nat.mod_eq_of_lt (by omega)]
theorem div_prod {p : Nat} (hp : isP p) {a f E : List Nat} (hf : ∀ x ∈ f, x < p) (hf1 : short f = f) (hE : ∀ x ∈ E, x < p) (ha : short a = mulP p f (E ++ [1])) : divQ p a (E ++ [1]) = f ∧ divR p a (E ++ [1]) = [] := by
  have hp3 := hp.1
  haveI : NeZero p := ⟨by omega⟩
  have hl : zat (E ++ [1]) ((E ++ [1]).length - 1) = 1 := by unfold zat; simp
  have hE1 : ∀ x ∈ E ++ [1], x < p := fun x hx => by
    rcases List.mem_append.1 hx with hx | hx
    · exact hE x hx
    · rw [List.mem_singleton.1 hx]; omega
  unfold divQ divR dvK
  rw [ha, short_monic, hl, finv_one (by omega)]
  by_cases h0 : f.length = 0
  · obtain rfl := List.eq_nil_of_length_eq_zero h0
    rw [mulP_nil]
    rw [if_pos (by simp), if_pos (by simp)]; exact ⟨rfl, rfl⟩
  have hlen := mulP_long hp hf hE1 (by omega) hf1 (by simp) (by rw [hl]; decide)
  have hgl : (E ++ [1]).length = E.length + 1 := by simp
  have hK : (mulP p f (E ++ [1])).length - (E ++ [1] : List Nat).length + 1 = f.length := by omega
  rw [if_neg (by omega), if_neg (by omega), hK]
  have hzs : ∀ j, cz p (zat (mulP p f (E ++ [1])) j) = S (fun a => cz p (cterm p f (E ++ [1]) a j)) f.length := fun j => by
    have hcv : cz p (cv p f (E ++ [1]) j) = S (fun a => cz p (cterm p f (E ++ [1]) a j)) f.length := by unfold cv; rw [S_psum]
    rw [← hcv]
    unfold mulP
    rw [zat_short, zat_tab]
    by_cases hj : j < f.length + (E ++ [1]).length
    · rw [if_pos hj]
    · rw [if_neg hj, cv_high (by omega) (by omega)]
  obtain ⟨h1, h2⟩ := dv_prod hp hf (g := E ++ [1]) (hd := 1) (by simp) (by rw [hl]; unfold fmul; rw [Nat.mod_eq_of_lt (by omega)]) f.length hzs
  constructor
  · rw [tab_ext h2, tab_zatf rfl, hf1]
  · have : ∀ j, j < (mulP p f (E ++ [1])).length → dvR p (E ++ [1]) 1 f.length (zat (mulP p f (E ++ [1]))) j = 0 := fun j _ => cz_inj (dvR_lt (by omega) _ (fun i => zat_lt (by omega) (fun x hx => mulP_lt (by omega) hx) i) j) (by omega) (by rw [h1, cz_zero])
    rw [tab_ext this, ← tab_rep]
    have := short_zeros [] (mulP p f (E ++ [1])).length
    rw [List.nil_append] at this
    rw [this]; rfl
end Go.Proofs.Ytlhcaangdenoaaa.Pl
