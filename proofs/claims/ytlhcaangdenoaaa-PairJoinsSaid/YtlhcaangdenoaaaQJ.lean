import Derived.Test.YtlhcaangdenoaaaQI
set_option linter.unusedVariables false
set_option linter.unusedSimpArgs false
namespace Go.Proofs.Ytlhcaangdenoaaa.Pl
open Go.Sx Go.Lf Go.Proofs.Ytlhcaangdenoaaa.Sh Go.Proofs.Ytlhcaangdenoaaa.Sp

/-! ### Newton's way -/
def px (l : List TPoint) (i : Nat) : Nat := ((l[i]?).map (·.X)).getD 0
def py (l : List TPoint) (i : Nat) : Nat := ((l[i]?).map (·.Y)).getD 0
theorem px_get {l : List TPoint} {i : Nat} {q : TPoint} (h : l[i]? = some q) : px l i = q.X := by unfold px; rw [h]; rfl
theorem py_get {l : List TPoint} {i : Nat} {q : TPoint} (h : l[i]? = some q) : py l i = q.Y := by unfold py; rw [h]; rfl
def ddT (p : Nat) (l : List TPoint) : Nat → Nat → Nat
  | 0, i => py l i
  | s + 1, i => if s + 1 ≤ i then fmul p (fsub p (ddT p l s i) (ddT p l s (i - 1))) (finv p (fsub p (px l i) (px l (i - (s + 1))))) else ddT p l s i
theorem px_lt {p : Nat} (hp : 0 < p) {l : List TPoint} (hl : Pts p l) (i : Nat) : px l i < p := by
  unfold px
  cases h : l[i]? with
  | none => exact hp
  | some q => exact (hl.1 q (mem_get h)).1
theorem py_lt {p : Nat} (hp : 0 < p) {l : List TPoint} (hl : Pts p l) (i : Nat) : py l i < p := by
  unfold py
  cases h : l[i]? with
  | none => exact hp
  | some q => exact (hl.1 q (mem_get h)).2
theorem ddT_lt {p : Nat} (hp : 0 < p) {l : List TPoint} (hl : Pts p l) : ∀ s i, ddT p l s i < p
  | 0, i => py_lt hp hl i
  | s + 1, i => by
    unfold ddT; split
    · exact fmul_lt hp _ _
    · exact ddT_lt hp hl s i
theorem ddT_stop {p : Nat} {l : List TPoint} {i : Nat} : ∀ s, i ≤ s → ddT p l s i = ddT p l i i
  | 0, h => by obtain rfl : i = 0 := by omega
               rfl
  | s + 1, h => by
    rcases Nat.eq_or_lt_of_le h with rfl | h'
    · rfl
    · rw [ddT, if_neg (by omega), ddT_stop s (by omega)]
theorem px_ne {p : Nat} [NeZero p] (hp : 0 < p) {l : List TPoint} (hl : Pts p l) {i j : Nat} (hj : j < i) (hi : i < l.length) : cz p (px l i) - cz p (px l j) ≠ 0 := by
  intro h
  have e := cz_inj (p := p) (px_lt hp hl i) (px_lt hp hl j) (by grind)
  obtain ⟨a, ha⟩ := get_some hi
  obtain ⟨b, hb⟩ := get_some (show j < l.length by omega)
  rw [px_get ha, px_get hb] at e
  exact nodup_iff.1 hl.2 i j a.X hj (by rw [List.getElem?_map, ha]; rfl) (by rw [List.getElem?_map, hb]; simp [e])
theorem ddT_step {p : Nat} [NeZero p] (hp : isP p) {l : List TPoint} (hl : Pts p l) {s i : Nat} (h : s + 1 ≤ i) (hi : i < l.length) :
    cz p (ddT p l (s + 1) i) * (cz p (px l i) - cz p (px l (i - (s + 1)))) = cz p (ddT p l s i) - cz p (ddT p l s (i - 1)) := by
  have hp3 := hp.1
  have hne := px_ne (p := p) (by omega) hl (show i - (s + 1) < i by omega) hi
  have hx := px_lt (p := p) (by omega) hl (i - (s + 1))
  have hy := ddT_lt (p := p) (by omega) hl s (i - 1)
  rw [ddT, if_pos h, cz_fmul, cz_fsub (Nat.le_of_lt hy)]
  have := fin_finv hp (a := fsub p (px l i) (px l (i - (s + 1)))) (by rw [cz_fsub (Nat.le_of_lt hx)]; exact hne)
  rw [cz_fsub (Nat.le_of_lt hx)] at this
  grind
section
variable {p : Nat} [NeZero p]
def nwV (X D : Nat → Fin p) (n : Nat) : Nat → Fin p → Fin p
  | 0, _ => 0
  | m + 1, z => nwV X D n m z * (z - X (n - 1 - m)) + D (n - 1 - m)
theorem newton (X : Nat → Fin p) (T : Nat → Nat → Fin p) {n : Nat} (hn : n ≤ 4) (hT : ∀ s i, s + 1 ≤ i → i < n → T (s + 1) i * (X i - X (i - (s + 1))) = T s i - T s (i - 1)) {i : Nat} (hi : i < n) : nwV X (fun i => T i i) n n (X i) = T 0 i := by
  have : n = 1 ∨ n = 2 ∨ n = 3 ∨ n = 4 := by omega
  rcases this with rfl | rfl | rfl | rfl
  · obtain rfl : i = 0 := by omega
    simp only [nwV]; grind
  · have h1 := hT 0 1 (by omega) (by omega)
    simp only [Nat.zero_add, Nat.sub_self] at h1
    have : i = 0 ∨ i = 1 := by omega
    rcases this with rfl | rfl <;> simp only [nwV, Nat.reduceSub] at * <;> grind
  · have h1 := hT 0 1 (by omega) (by omega)
    have h2 := hT 0 2 (by omega) (by omega)
    have h3 := hT 1 2 (by omega) (by omega)
    simp only [Nat.reduceAdd, Nat.reduceSub] at h1 h2 h3
    have : i = 0 ∨ i = 1 ∨ i = 2 := by omega
    rcases this with rfl | rfl | rfl <;> simp only [nwV, Nat.reduceSub] at * <;> grind
  · have h1 := hT 0 1 (by omega) (by omega)
    have h2 := hT 0 2 (by omega) (by omega)
    have h3 := hT 1 2 (by omega) (by omega)
    have h4 := hT 0 3 (by omega) (by omega)
    have h5 := hT 1 3 (by omega) (by omega)
    have h6 := hT 2 3 (by omega) (by omega)
    simp only [Nat.reduceAdd, Nat.reduceSub] at h1 h2 h3 h4 h5 h6
    have : i = 0 ∨ i = 1 ∨ i = 2 ∨ i = 3 := by omega
    clear hT
    rcases this with rfl | rfl | rfl | rfl <;> simp only [nwV, Nat.reduceSub] at *
    · generalize X 0 = x0 at *
      grind
    · clear h2 h3 h4 h5 h6
      generalize X 0 = x0 at *
      generalize X 1 = x1 at *
      grind
    · clear h4 h5 h6
      generalize X 0 = x0 at *
      generalize X 1 = x1 at *
      generalize X 2 = x2 at *
      grind
    · generalize X 0 = x0 at *
      generalize X 1 = x1 at *
      generalize X 2 = x2 at *
      generalize X 3 = x3 at *
      generalize T 0 0 = a0 at *
      generalize T 0 1 = a1 at *
      generalize T 0 2 = a2 at *
      generalize T 0 3 = a3 at *
      generalize T 1 1 = b1 at *
      generalize T 1 2 = b2 at *
      generalize T 1 3 = b3 at *
      generalize T 2 2 = c2 at *
      generalize T 2 3 = c3 at *
      generalize T 3 3 = d3 at *
      have e1 : ((((0 * (x3 - x3) + d3) * (x3 - x2) + c2) * (x3 - x1) + b1) * (x3 - x0) + a0) = (d3 * (x3 - x0)) * ((x3 - x2) * (x3 - x1)) + c2 * (x3 - x1) * (x3 - x0) + b1 * (x3 - x0) + a0 := by grind
      rw [e1, h6]
      have e2 : (c3 - c2) * ((x3 - x2) * (x3 - x1)) = (c3 * (x3 - x1)) * (x3 - x2) - c2 * ((x3 - x2) * (x3 - x1)) := by grind
      rw [e2, h5]
      grind
end
theorem pred_wi {n : Nat} (h0 : 0 < n) (h : n < 4611686018427387904) : IntKind.i64.wrap ((n : Int) - 1) = ((n - 1 : Nat) : Int) := by rw [wi64 (by omega) (by omega)]; omega
theorem poly_Fit_c {p : Nat} (hp : isP p) {l : List TPoint} (hl : Pts p l) (h1 : 1 ≤ l.length) (h4 : l.length ≤ 4) {K : List Nat → Prop} (k : ∀ f, Interp p l f → K f) : poly_Fit.C p l K := by
  have hp3 := hp.1
  have hpp := hp.2.1
  haveI : NeZero p := ⟨by omega⟩
  refine poly_Fit.q ⟨MakeOk.of (by omega) (by omega), ?_⟩
  rw [tab_rep]
  refine LoopQ.rangeS l.length (fun i s => s = tab l.length fun a => if a < i then ddT p l 0 a else 0) (tab_ext fun a _ => by simp) (by omega) ?_ ?_
  · rintro i _ next hi rfl hnx
    dsimp only
    obtain ⟨q, hq⟩ := get_some hi
    refine ctd (by omega) ⟨by omega, q, hq, by omega, by omega, hnx _ ?_⟩
    simp only [toNat_c]
    rw [tab_set]
    refine tab_ext fun a ha => ?_
    by_cases hai : a = i
    · subst hai; rw [if_pos rfl, if_pos (by omega), ddT, py_get hq]
    · rw [if_neg hai]
      by_cases hlt : a < i
      · rw [if_pos hlt, if_pos (by omega)]
      · rw [if_neg hlt, if_neg (by omega)]
  rintro _ next rfl
  dsimp only
  rw [tab_ext (g' := ddT p l 0) fun a ha => by rw [if_pos ha], pred_wi (by omega) (by omega)]
  refine cfd (by omega) ?_
  refine LoopQ.upto (l.length - 1) (fun s t => t = (((s + 1 : Nat) : Int), tab l.length (ddT p l s))) rfl ?_
  rintro s _ next2 hs rfl hnx2
  dsimp only
  by_cases hlast : s < l.length - 1
  · refine ctd (by omega) ?_
    refine LoopQ.upto (l.length - (s + 1)) (fun m t => t = (((l.length - 1 - m : Nat) : Int), tab l.length fun a => if l.length - 1 - m < a then ddT p l (s + 1) a else ddT p l s a)) ?_ ?_
    · congr 1
      exact tab_ext fun a ha => by rw [if_neg (by omega)]
    rintro m _ next3 hm rfl hnx3
    dsimp only
    by_cases hml : m < l.length - (s + 1)
    · generalize hb : l.length - 1 - m = b at *
      have hbl : b < l.length := by omega
      obtain ⟨q, hq⟩ := get_some hbl
      obtain ⟨r, hr⟩ := get_some (show b - (s + 1) < l.length by omega)
      have g1 := tab_get (n := l.length) (i := b) (fun a => if b < a then ddT p l (s + 1) a else ddT p l s a) hbl
      have g2 := tab_get (n := l.length) (i := b - 1) (fun a => if b < a then ddT p l (s + 1) a else ddT p l s a) (by omega)
      rw [if_neg (by omega)] at g1 g2
      have hqx := (hl.1 q (mem_get hq)).1
      have hrx := (hl.1 r (mem_get hr)).1
      rw [show (b : Int) - ((s + 1 : Nat) : Int) = ((b - (s + 1) : Nat) : Int) by omega, wi64 (x := ((b - (s + 1) : Nat) : Int)) (by omega) (by omega), pred_wi (by omega) (by omega)]
      refine ctd (by omega) ⟨by omega, q, hq, by omega, r, hr, field_Minus_c (by omega) hpp hqx hrx ⟨by omega, by omega, by omega, by omega, _, g1, _, g2, field_Minus_c (by omega) hpp (ddT_lt (by omega) hl _ _) (ddT_lt (by omega) hl _ _) (field_Over_c (by omega) hpp (fsub_lt (by omega) _ _) (field_Times_c (by omega) hpp (fsub_lt (by omega) _ _) (finv_lt (by omega) _) ⟨by omega, by omega, hnx3 hml _ ?_⟩))⟩⟩
      refine Prod.ext_iff.2 ⟨by dsimp only; omega, ?_⟩
      simp only [toNat_c]
      rw [tab_set]
      refine tab_ext fun a ha => ?_
      by_cases hab : a = b
      · subst hab
        rw [if_pos rfl, if_pos (by omega), ddT, if_pos (by omega), px_get hq, px_get hr]
      · rw [if_neg hab]
        by_cases hlt : b < a
        · rw [if_pos hlt, if_pos (by omega)]
        · rw [if_neg hlt, if_neg (by omega)]
    · refine cfd (by omega) (hnx2 hlast _ ?_)
      rw [wsucc (by omega)]
      congr 1
      refine tab_ext fun a ha => ?_
      by_cases hlt : l.length - 1 - m < a
      · rw [if_pos hlt]
      · rw [if_neg hlt, ddT, if_neg (by omega)]
  refine cfd (by omega) ?_
  obtain rfl : s = l.length - 1 := by omega
  let X := fun i => cz p (px l i)
  let T := fun s i => cz p (ddT p l s i)
  refine LoopQ.upto l.length (fun m t => t.2 = (l.length : Int) - 1 - m ∧ (∀ a ∈ t.1, a < p) ∧ t.1.length ≤ m ∧ ∀ z : Fin p, pv p t.1 z = nwV X (fun i => T i i) l.length m z) ⟨by dsimp only; omega, fun a ha => (by cases ha), Nat.le_refl _, fun z => rfl⟩ ?_
  rintro m ⟨f, t⟩ next4 hm ⟨ht, hf1, hf2, hf3⟩ hnx4
  dsimp only at *
  by_cases hml : m < l.length
  · obtain rfl : t = ((l.length - 1 - m : Nat) : Int) := by omega
    generalize hb : l.length - 1 - m = b at *
    obtain ⟨q, hq⟩ := get_some (show b < l.length by omega)
    have hqx := (hl.1 q (mem_get hq)).1
    have hd := ddT_lt (p := p) (by omega) hl (l.length - 1) b
    have hlin : ∀ a ∈ [fsub p 0 q.X, 1], a < p := by
      intro a ha; simp at ha; rcases ha with rfl | rfl
      · exact fsub_lt (by omega) _ _
      · omega
    have hml2 := mulP_len (p := p) (by omega) f [fsub p 0 q.X, 1]
    simp only [List.length_cons, List.length_nil] at hml2
    refine ctd (by omega) ⟨by omega, q, hq, field_Minus_c (by omega) hpp (by omega) hqx (poly_Times_c (by omega) hpp hf1 hlin (by omega) (by simp) (by simp) ⟨by omega, by omega, _, tab_get _ (show b < l.length by omega), poly_Plus_c (by omega) hpp (fun a ha => mulP_lt (by omega) ha) (fun a ha => ?_) (by omega) (by simp) (hnx4 hml _ ⟨?_, ?_, ?_, ?_⟩)⟩)⟩
    · rw [List.mem_singleton.1 ha]; simp only [toNat_c]; exact hd
    · dsimp only; rw [wi64 (by omega) (by omega)]; omega
    · exact fun a ha => addP_lt (by omega) ha
    · have := addP_len p (mulP p f [fsub p 0 q.X, 1]) [ddT p l (l.length - 1) b]
      have h2 := mx_lub (a := (mulP p f [fsub p 0 q.X, 1]).length) (b := [ddT p l (l.length - 1) b].length) (c := m + 1) (by omega) (by simp)
      simp only [toNat_c]; omega
    · intro z
      simp only [toNat_c]
      rw [pv_addP, mulP_eval (by omega), hf3, pv_lin (Nat.le_of_lt hqx), pv_cons, pv_nil, nwV, hb]
      show _ = _ * (z - cz p (px l b)) + cz p (ddT p l b b)
      rw [px_get hq, ddT_stop (p := p) (l := l) (i := b) (l.length - 1) (by omega)]
      grind
  · obtain rfl : m = l.length := by omega
    refine cfd (by omega) (poly_Short_c (by omega) (k _ ⟨fun a ha => hf1 a (short_mem ha), ?_, short_short _, ?_⟩))
    · have := short_len f; omega
    · intro _ q hq
      obtain ⟨i, hi⟩ := List.mem_iff_getElem?.1 hq
      have := newton X T (n := l.length) h4 (fun s i h1 h2 => ddT_step hp hl h1 h2) (lt_get hi)
      have h5 : pv p (short f) (cz p (px l i)) = cz p (py l i) := by rw [pv_short, hf3]; exact this
      rw [px_get hi, py_get hi] at h5
      exact h5
/-! ### Lagrange's way -/
theorem juntoref02_Places_c {l : List TPoint} (h4 : l.length ≤ 4) {K : List Nat → Prop} (k : K (l.map (·.X))) : juntoref02_Places.C l K := by
  apply juntoref02_Places.q
  refine LoopQ.upto l.length (fun i t => t = ((l.take i).map (·.X), (i : Int))) rfl ?_
  rintro i _ next hi rfl hnx
  dsimp only
  by_cases h : i < l.length
  · obtain ⟨q, hq⟩ := get_some h
    refine ctd (by omega) ⟨by omega, q, hq, AppOk.of (by simp; omega), hnx h _ ?_⟩
    rw [wsucc (by omega), List.take_add_one, hq]; simp
  · obtain rfl : i = l.length := by omega
    refine cfd (by omega) ?_
    rw [List.take_length]; exact k
theorem juntoref02_unit_c {p : Nat} [NeZero p] (hp : isP p) {xs : List Nat} (hx : ∀ x ∈ xs, x < p) (hn : xs.Nodup) (h4 : xs.length ≤ 4) {i : Nat} (hi : i < xs.length) {K : List Nat → Prop}
    (k : ∀ f, (∀ a ∈ f, a < p) → f.length ≤ xs.length → (∀ m x, xs[m]? = some x → pv p f (cz p x) = if m = i then 1 else 0) → K f) : juntoref02_unit.C p xs i K := by
  have hp3 := hp.1
  have hpp := hp.2.1
  apply juntoref02_unit.q
  obtain ⟨xi, hxi⟩ := get_some hi
  have hxip := hx xi (mem_get hxi)
  refine LoopQ.upto xs.length (fun j t => t.2 = (j : Int) ∧ (∀ a ∈ t.1, a < p) ∧ t.1.length ≤ j + (if j ≤ i then 1 else 0) ∧ pv p t.1 (cz p xi) = 1 ∧ ∀ m x, m < j → m ≠ i → xs[m]? = some x → pv p t.1 (cz p x) = 0) ⟨rfl, fun a ha => by simp at ha; omega, by simp, by rw [pv_cons, pv_nil, cz_one]; grind, fun m x hm => by omega⟩ ?_
  rintro j ⟨f, t⟩ next hj ⟨ht, hf1, hf2, hf3, hf4⟩ hnx
  dsimp only at *
  subst ht
  by_cases h : j < xs.length
  · obtain ⟨x, hxj⟩ := get_some h
    have hxp := hx x (mem_get hxj)
    refine ctd (by omega) ⟨by omega, x, hxj, ?_⟩
    by_cases hji : j = i
    · subst hji
      refine cf (bne_f (by omega)) (hnx h _ ⟨wsucc (by omega), hf1, ?_, hf3, fun m y hm hmi hy => hf4 m y (by omega) hmi hy⟩)
      dsimp only
      rw [if_pos (by omega)] at hf2
      omega
    · have hlin : ∀ a ∈ [fsub p 0 x, 1], a < p := by
        intro a ha; simp at ha; rcases ha with rfl | rfl
        · exact fsub_lt (by omega) _ _
        · omega
      have hfl : f.length ≤ 10 := by split at hf2 <;> omega
      have hml2 := mulP_len (p := p) (by omega) f [fsub p 0 x, 1]
      simp only [List.length_cons, List.length_nil] at hml2
      have hev : ∀ z : Fin p, pv p (scaleP p (mulP p f [fsub p 0 x, 1]) (finv p (fsub p xi x))) z = pv p f z * (z - cz p x) * cz p (finv p (fsub p xi x)) := fun z => by
        rw [pv_scaleP, mulP_eval (by omega), pv_lin (Nat.le_of_lt hxp)]
      refine ct (bne_t (by omega)) ⟨by omega, xi, hxi, juntoref01_Sub_c (by omega) hpp (by omega) hxp (juntoref02_Mul_c (by omega) hpp hf1 hlin (by omega) (by simp) (juntoref01_Sub_c (by omega) hpp hxip hxp (juntoref01_Inv_c (by omega) hpp (fsub_lt (by omega) _ _) (juntoref02_Scale_c (by omega) hpp (fun a ha => mulP_lt (by omega) ha) (finv_lt (by omega) _) (by omega) (hnx h _ ⟨wsucc (by omega), ?_, ?_, ?_, ?_⟩)))))⟩
      · exact fun a ha => scaleP_lt (by omega) ha
      · have := scaleP_len p (finv p (fsub p xi x)) (mulP p f [fsub p 0 x, 1])
        dsimp only
        have hh : (if j ≤ i then 1 else 0) = (if j + 1 ≤ i then 1 else 0) := by
          by_cases hh : j ≤ i
          · rw [if_pos hh, if_pos (by omega)]
          · rw [if_neg hh, if_neg (by omega)]
        rw [hh] at hf2
        omega
      · dsimp only
        rw [hev, hf3]
        have hne : cz p (fsub p xi x) ≠ 0 := by
          rw [cz_fsub (Nat.le_of_lt hxp)]
          intro h0
          have e := cz_inj (p := p) hxip hxp (by grind)
          subst e
          rcases Nat.lt_or_ge i j with hlt | hge
          · exact nodup_iff.1 hn j i xi hlt hxj hxi
          · exact nodup_iff.1 hn i j xi (by omega) hxi hxj
        have := fin_finv hp hne
        rw [cz_fsub (Nat.le_of_lt hxp)] at this
        grind
      · intro m y hm hmi hy
        dsimp only
        rw [hev]
        rcases Nat.lt_or_ge m j with h' | h'
        · rw [hf4 m y h' hmi hy]; grind
        · obtain rfl : m = j := by omega
          rw [hxj] at hy; cases hy; grind
  · obtain rfl : j = xs.length := by omega
    refine cfd (by omega) (k f hf1 ?_ ?_)
    · rw [if_neg (by omega)] at hf2; omega
    · intro m x hm
      by_cases hmi : m = i
      · subst hmi; rw [hxi] at hm; cases hm; rw [if_pos rfl, hf3]
      · rw [if_neg hmi, hf4 m x (lt_get hm) hmi hm]
theorem juntoref02_Through_c {p : Nat} (hp : isP p) {l : List TPoint} (hl : Pts p l) (h4 : l.length ≤ 4) {K : List Nat → Prop} (k : ∀ f, Interp p l f → K f) : juntoref02_Through.C p l K := by
  have hp3 := hp.1
  have hpp := hp.2.1
  haveI : NeZero p := ⟨by omega⟩
  apply juntoref02_Through.q
  refine LoopQ.upto l.length (fun i t => t.2 = (i : Int) ∧ (∀ a ∈ t.1, a < p) ∧ t.1.length ≤ l.length ∧ short t.1 = t.1 ∧ ∀ m q, l[m]? = some q → pv p t.1 (cz p q.X) = if m < i then cz p q.Y else 0) ⟨rfl, fun a ha => (by cases ha), Nat.zero_le _, rfl, fun m q _ => by rw [if_neg (by omega)]; rfl⟩ ?_
  rintro i ⟨f, t⟩ next hi ⟨ht, hf1, hf2, hf3, hf4⟩ hnx
  dsimp only at *
  subst ht
  by_cases h : i < l.length
  · obtain ⟨q, hq⟩ := get_some h
    have hqx := (hl.1 q (mem_get hq)).2
    refine ctd (by omega) ⟨by omega, q, hq, juntoref02_Places_c h4 (juntoref02_unit_c hp (fun x hx => by
      obtain ⟨r, hr, rfl⟩ := List.mem_map.1 hx; exact (hl.1 r hr).1) hl.2 (by simp; omega) (by simp; omega) ?_)⟩
    intro u hu1 hu2 hu3
    rw [List.length_map] at hu2
    have hsl := scaleP_len p q.Y u
    refine juntoref02_Scale_c (by omega) hpp hu1 hqx (by omega) (juntoref02_Add_c (by omega) hpp hf1 (fun a ha => scaleP_lt (by omega) ha) (by omega) (by omega) (hnx h _ ⟨wsucc (by omega), ?_, ?_, ?_, ?_⟩))
    · exact fun a ha => addP_lt (by omega) ha
    · have := addP_len p f (scaleP p u q.Y)
      have h2 := mx_lub (a := f.length) (b := (scaleP p u q.Y).length) (c := l.length) hf2 (by omega)
      dsimp only; omega
    · exact short_short _
    · intro m r hr
      dsimp only
      rw [pv_addP, pv_scaleP, hf4 m r hr, hu3 m r.X (by rw [List.getElem?_map, hr]; rfl)]
      by_cases hmi : m = i
      · subst hmi; rw [hq] at hr; cases hr
        rw [if_neg (by omega), if_pos rfl, if_pos (by omega)]; grind
      · rw [if_neg hmi]
        by_cases hlt : m < i
        · rw [if_pos hlt, if_pos (by omega)]; grind
        · rw [if_neg hlt, if_neg (by omega)]; grind
  · obtain rfl : i = l.length := by omega
    refine cfd (by omega) (k f ⟨hf1, hf2, hf3, ?_⟩)
    intro _ q hq
    obtain ⟨m, hm⟩ := List.mem_iff_getElem?.1 hq
    rw [hf4 m q hm, if_pos (lt_get hm)]
end Go.Proofs.Ytlhcaangdenoaaa.Pl
