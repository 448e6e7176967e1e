import Derived.Test.YtlhcaangdenoaaaUQI
namespace Go.Lf
end Go.Lf
namespace Go.Proofs.Ytlhcaangdenoaaa.Sh
end Go.Proofs.Ytlhcaangdenoaaa.Sh
namespace Go.Proofs.Ytlhcaangdenoaaa.Sp
end Go.Proofs.Ytlhcaangdenoaaa.Sp
namespace Go.Sx
end Go.Sx
set_option linter.unusedVariables false
set_option linter.unusedSimpArgs false
namespace Go.Proofs.Ytlhcaangdenoaaa.Pl
open Go.Sx Go.Lf Go.Proofs.Ytlhcaangdenoaaa.Sh Go.Proofs.Ytlhcaangdenoaaa.Sp
def px (l : List TPoint) (i : Nat) : Nat := ((l[i]?).map (·.X)).getD 0
def py (l : List TPoint) (i : Nat) : Nat := ((l[i]?).map (·.Y)).getD 0
theorem px_get {l : List TPoint} {i : Nat} {q : TPoint} (h : l[i]? = some q) : px l i = q.X := by unfold px; rw [h]; rfl
theorem py_get {l : List TPoint} {i : Nat} {q : TPoint} (h : l[i]? = some q) : py l i = q.Y := by unfold py; rw [h]; rfl
def ddT (p : Nat) (l : List TPoint) : Nat → Nat → Nat
  | 0, i => py l i
  | s + 1, i => if s + 1 ≤ i then fmul p (fsub p (ddT p l s i) (ddT p l s (i - 1))) (finv p (fsub p (px l i) (px l (i - (s + 1))))) else ddT p l s i
theorem px_lt {p : Nat} (hp : 0 < p) {l : List TPoint} (hl : Pts p l) (i : Nat) : px l i < p := by
  unfold px
  cases h : l[i]? with
  | none => exact hp
  | some q => exact (hl.1 q (mem_get h)).1
theorem py_lt {p : Nat} (hp : 0 < p) {l : List TPoint} (hl : Pts p l) (i : Nat) : py l i < p := by
  unfold py
  cases h : l[i]? with
  | none => exact hp
  | some q => exact (hl.1 q (mem_get h)).2
theorem ddT_lt {p : Nat} (hp : 0 < p) {l : List TPoint} (hl : Pts p l) : ∀ s i, ddT p l s i < p
  | 0, i => py_lt hp hl i
  | s + 1, i => by
    unfold ddT; split
    · exact fmul_lt hp _ _
    · exact ddT_lt hp hl s i
theorem ddT_stop {p : Nat} {l : List TPoint} {i : Nat} : ∀ s, i ≤ s → ddT p l s i = ddT p l i i
  | 0, h => by obtain rfl : i = 0 := by omega
               rfl
  | s + 1, h => by
    rcases Nat.eq_or_lt_of_le h with rfl | h'
    · rfl
    · rw [ddT, if_neg (by omega), ddT_stop s (by omega)]
theorem px_ne {p : Nat} [NeZero p] (hp : 0 < p) {l : List TPoint} (hl : Pts p l) {i j : Nat} (hj : j < i) (hi : i < l.length) : cz p (px l i) - cz p (px l j) ≠ 0 := by
  intro h
  have e := cz_inj (p := p) (px_lt hp hl i) (px_lt hp hl j) (by grind)
  obtain ⟨a, ha⟩ := get_some hi
  obtain ⟨b, hb⟩ := get_some (show j < l.length by omega)
  rw [px_get ha, px_get hb] at e
  exact nodup_iff.1 hl.2 i j a.X hj (by rw [List.getElem?_map, ha]; rfl) (by rw [List.getElem?_map, hb]; simp [e])
theorem ddT_step {p : Nat} [NeZero p] (hp : isP p) {l : List TPoint} (hl : Pts p l) {s i : Nat} (h : s + 1 ≤ i) (hi : i < l.length) :
    cz p (ddT p l (s + 1) i) * (cz p (px l i) - cz p (px l (i - (s + 1)))) = cz p (ddT p l s i) - cz p (ddT p l s (i - 1)) := by
  have hp3 := hp.1
  have hne := px_ne (p := p) (by omega) hl (show i - (s + 1) < i by omega) hi
  have hx := px_lt (p := p) (by omega) hl (i - (s + 1))
  have hy := ddT_lt (p := p) (by omega) hl s (i - 1)
  rw [ddT, if_pos h, cz_fmul, cz_fsub (Nat.le_of_lt hy)]
  have := fin_finv hp (a := fsub p (px l i) (px l (i - (s + 1)))) (by rw [cz_fsub (Nat.le_of_lt hx)]; exact hne)
  rw [cz_fsub (Nat.le_of_lt hx)] at this
  grind
section
variable {p : Nat} [NeZero p]
def nwV (X D : Nat → Fin p) (n : Nat) : Nat → Fin p → Fin p
  | 0, _ => 0
  | m + 1, z => nwV X D n m z * (z - X (n - 1 - m)) + D (n - 1 - m)
def nwW (X : Nat → Fin p) (z : Fin p) (a : Nat) : Nat → Fin p
  | 0 => 1
  | k + 1 => nwW X z a k * (z - X (a + k))
def nwP (X : Nat → Fin p) (T : Nat → Nat → Fin p) (z : Fin p) (a : Nat) : Nat → Fin p
  | 0 => T 0 a
  | m + 1 => nwP X T z a m + T (m + 1) (a + m + 1) * nwW X z a (m + 1)
theorem nwW_first (X : Nat → Fin p) (z : Fin p) (a : Nat) : ∀ k, nwW X z a (k + 1) = (z - X a) * nwW X z (a + 1) k
  | 0 => by simp only [nwW, Nat.add_zero]; grind
  | k + 1 => by rw [nwW, nwW_first X z a k, nwW, show a + (k + 1) = a + 1 + k by omega]; grind
theorem nwP_diff (X : Nat → Fin p) (T : Nat → Nat → Fin p) {n : Nat} (hT : ∀ s i, s + 1 ≤ i → i < n → T (s + 1) i * (X i - X (i - (s + 1))) = T s i - T s (i - 1)) (z : Fin p) (a : Nat) : ∀ m, a + m + 1 < n → nwP X T z (a + 1) m - nwP X T z a m = (T m (a + m + 1) - T m (a + m)) * nwW X z (a + 1) m
  | 0, h => by simp only [nwP, nwW, Nat.add_zero]; grind
  | m + 1, h => by
    have ih := nwP_diff X T hT z a m (by omega)
    have h1 := hT m (a + m + 1) (by omega) (by omega)
    rw [show a + m + 1 - (m + 1) = a by omega, show a + m + 1 - 1 = a + m by omega] at h1
    have h2 := nwW_first X z a m
    have h3 : nwW X z (a + 1) (m + 1) = nwW X z (a + 1) m * (z - X (a + m + 1)) := by rw [nwW, show a + 1 + m = a + m + 1 by omega]
    rw [nwP, nwP, show a + 1 + m + 1 = a + (m + 1) + 1 by omega, h2, h3, show a + (m + 1) = a + m + 1 by omega]
    generalize nwW X z (a + 1) m = W at *
    generalize nwP X T z (a + 1) m = P1 at *
    generalize nwP X T z a m = P0 at *
    generalize T (m + 1) (a + m + 1) = t1 at *
    generalize T (m + 1) (a + m + 1 + 1) = t2 at *
    generalize T m (a + m + 1) = t3 at *
    generalize T m (a + m) = t4 at *
    have e : P1 = P0 + (t3 - t4) * W := by grind
    rw [e, ← h1]
    generalize X (a + m + 1) = x1 at *
    generalize X a = x0 at *
    clear h1 h2 h3 ih e
    grind
theorem nwP_at (hp : isP p) (X : Nat → Fin p) (T : Nat → Nat → Fin p) {n : Nat} (hT : ∀ s i, s + 1 ≤ i → i < n → T (s + 1) i * (X i - X (i - (s + 1))) = T s i - T s (i - 1)) (hX : ∀ i j, j < i → i < n → X i - X j ≠ 0) : ∀ m a j, a + m < n → j ≤ m → nwP X T (X (a + j)) a m = T 0 (a + j)
  | 0, a, j, h, hj => by
    obtain rfl : j = 0 := by omega
    rfl
  | m + 1, a, j, h, hj => by
    have hne := hX (a + m + 1) a (by omega) (by omega)
    have hd := nwP_diff X T hT (X (a + j)) a m (by omega)
    have h1 := hT m (a + m + 1) (by omega) (by omega)
    rw [show a + m + 1 - (m + 1) = a by omega, show a + m + 1 - 1 = a + m by omega] at h1
    have h2 := nwW_first X (X (a + j)) a m
    have key : nwP X T (X (a + j)) a (m + 1) * (X (a + m + 1) - X a) = (X (a + j) - X a) * nwP X T (X (a + j)) (a + 1) m - (X (a + j) - X (a + m + 1)) * nwP X T (X (a + j)) a m := by
      rw [nwP, h2]
      generalize nwW X (X (a + j)) (a + 1) m = W at *
      generalize nwP X T (X (a + j)) (a + 1) m = P1 at *
      generalize nwP X T (X (a + j)) a m = P0 at *
      generalize T (m + 1) (a + m + 1) = t1 at *
      generalize T m (a + m + 1) = t3 at *
      generalize T m (a + m) = t4 at *
      generalize X (a + m + 1) = x1 at *
      generalize X a = x0 at *
      generalize X (a + j) = z at *
      have e : P1 = P0 + (t3 - t4) * W := by grind
      rw [e, ← h1]
      clear h1 h2 hd hne e
      grind
    have fin : ∀ v, (X (a + j) - X a) * nwP X T (X (a + j)) (a + 1) m - (X (a + j) - X (a + m + 1)) * nwP X T (X (a + j)) a m = v * (X (a + m + 1) - X a) → nwP X T (X (a + j)) a (m + 1) = v := fun v hv => by
      rw [hv] at key
      refine fin_cancel hp hne ?_
      grind
    refine fin _ ?_
    by_cases hj0 : j = 0
    · subst hj0
      have := nwP_at hp X T hT hX m a 0 (by omega) (by omega)
      rw [Nat.add_zero] at this ⊢
      rw [this]; grind
    · have i1 := nwP_at hp X T hT hX m (a + 1) (j - 1) (by omega) (by omega)
      rw [show a + 1 + (j - 1) = a + j by omega] at i1
      rw [i1]
      by_cases hjm : j = m + 1
      · subst hjm
        rw [← Nat.add_assoc]; grind
      · rw [nwP_at hp X T hT hX m a j (by omega) (by omega)]; grind
def nwS (X : Nat → Fin p) (D : Nat → Fin p) (z : Fin p) : Nat → Fin p
  | 0 => 0
  | m + 1 => nwS X D z m + D m * nwW X z 0 m
theorem nwS_P (X : Nat → Fin p) (T : Nat → Nat → Fin p) (z : Fin p) : ∀ m, nwS X (fun i => T i i) z (m + 1) = nwP X T z 0 m
  | 0 => by simp only [nwS, nwP, nwW]; grind
  | m + 1 => by rw [nwS, nwS_P X T z m, nwP, Nat.zero_add]
theorem nwV_S (X D : Nat → Fin p) (n : Nat) (z : Fin p) : ∀ m, m ≤ n → nwS X D z (n - m) + nwV X D n m z * nwW X z 0 (n - m) = nwS X D z n
  | 0, _ => by simp only [nwV, Nat.sub_zero]; grind
  | m + 1, h => by
    have ih := nwV_S X D n z m (by omega)
    obtain ⟨q, hq⟩ : ∃ q, n - m = q + 1 := ⟨n - m - 1, by omega⟩
    rw [hq, nwS, nwW, Nat.zero_add] at ih
    rw [show n - (m + 1) = q by omega, nwV, show n - 1 - m = q by omega, ← ih]; grind
theorem newton (hp : isP p) (X : Nat → Fin p) (T : Nat → Nat → Fin p) {n : Nat} (hT : ∀ s i, s + 1 ≤ i → i < n → T (s + 1) i * (X i - X (i - (s + 1))) = T s i - T s (i - 1)) (hX : ∀ i j, j < i → i < n → X i - X j ≠ 0) {i : Nat} (hi : i < n) : nwV X (fun i => T i i) n n (X i) = T 0 i := by
  have h := nwV_S X (fun i => T i i) n (X i) n (Nat.le_refl _)
  rw [Nat.sub_self] at h
  obtain ⟨m, rfl⟩ : ∃ m, n = m + 1 := ⟨n - 1, by omega⟩
  rw [nwS_P] at h
  have h2 := nwP_at hp X T hT hX m 0 i (by omega) (by omega)
  rw [Nat.zero_add] at h2
  rw [h2] at h
  simp only [nwS, nwW] at h
  grind
end
theorem pred_wi {n : Nat} (h0 : 0 < n) (h : n < 4611686018427387904) : IntKind.i64.wrap ((n : Int) - 1) = ((n - 1 : Nat) : Int) := by rw [wi64 (by omega) (by omega)]; omega
theorem poly_Fit_c {p : Nat} (hp : isP p) {l : List TPoint} (hl : Pts p l) (h1 : 1 ≤ l.length) (h4 : l.length ≤ 1000) {K : List Nat → Prop} (k : ∀ f, Interp p l f → K f) : poly_Fit.C p l K := by
  have hp3 := hp.1
  have hpp := hp.2.1
  haveI : NeZero p := ⟨by omega⟩
  refine poly_Fit.q ⟨MakeOk.of (by omega) (by omega), ?_⟩
  rw [tab_rep]
  refine LoopQ.rangeS l.length (fun i s => s = tab l.length fun a => if a < i then ddT p l 0 a else 0) (tab_ext fun a _ => by simp) (by omega) ?_ ?_
  · rintro i _ next hi rfl hnx
    dsimp only
    obtain ⟨q, hq⟩ := get_some hi
    refine ctd (by omega) ⟨by omega, q, hq, by omega, by omega, hnx _ ?_⟩
    simp only [toNat_c]
    rw [tab_set]
    refine tab_ext fun a ha => ?_
    by_cases hai : a = i
    · subst hai; rw [if_pos rfl, if_pos (by omega), ddT, py_get hq]
    · rw [if_neg hai]
      by_cases hlt : a < i
      · rw [if_pos hlt, if_pos (by omega)]
      · rw [if_neg hlt, if_neg (by omega)]
  rintro _ next rfl
  dsimp only
  rw [tab_ext (g' := ddT p l 0) fun a ha => by rw [if_pos ha], pred_wi (by omega) (by omega)]
  refine cfd (by omega) ?_
  refine LoopQ.upto (l.length - 1) (fun s t => t = (((s + 1 : Nat) : Int), tab l.length (ddT p l s))) rfl ?_
  rintro s _ next2 hs rfl hnx2
  dsimp only
  by_cases hlast : s < l.length - 1
  · refine ctd (by omega) ?_
    refine LoopQ.upto (l.length - (s + 1)) (fun m t => t = (((l.length - 1 - m : Nat) : Int), tab l.length fun a => if l.length - 1 - m < a then ddT p l (s + 1) a else ddT p l s a)) ?_ ?_
    · congr 1
      exact tab_ext fun a ha => by rw [if_neg (by omega)]
    rintro m _ next3 hm rfl hnx3
    dsimp only
    by_cases hml : m < l.length - (s + 1)
    · generalize hb : l.length - 1 - m = b at *
      have hbl : b < l.length := by omega
      obtain ⟨q, hq⟩ := get_some hbl
      obtain ⟨r, hr⟩ := get_some (show b - (s + 1) < l.length by omega)
      have g1 := tab_get (n := l.length) (i := b) (fun a => if b < a then ddT p l (s + 1) a else ddT p l s a) hbl
      have g2 := tab_get (n := l.length) (i := b - 1) (fun a => if b < a then ddT p l (s + 1) a else ddT p l s a) (by omega)
      rw [if_neg (by omega)] at g1 g2
      have hqx := (hl.1 q (mem_get hq)).1
      have hrx := (hl.1 r (mem_get hr)).1
      rw [show (b : Int) - ((s + 1 : Nat) : Int) = ((b - (s + 1) : Nat) : Int) by omega, wi64 (x := ((b - (s + 1) : Nat) : Int)) (by omega) (by omega), pred_wi (by omega) (by omega)]
      refine ctd (by omega) ⟨by omega, q, hq, by omega, r, hr, field_Minus_c (by omega) hpp hqx hrx ⟨by omega, by omega, by omega, by omega, _, g1, _, g2, field_Minus_c (by omega) hpp (ddT_lt (by omega) hl _ _) (ddT_lt (by omega) hl _ _) (field_Over_c (by omega) hpp (fsub_lt (by omega) _ _) (field_Times_c (by omega) hpp (fsub_lt (by omega) _ _) (finv_lt (by omega) _) ⟨by omega, by omega, hnx3 hml _ ?_⟩))⟩⟩
      refine Prod.ext_iff.2 ⟨by dsimp only; omega, ?_⟩
      simp only [toNat_c]
      rw [tab_set]
      refine tab_ext fun a ha => ?_
      by_cases hab : a = b
      · subst hab
        rw [if_pos rfl, if_pos (by omega), ddT, if_pos (by omega), px_get hq, px_get hr]
      · rw [if_neg hab]
        by_cases hlt : b < a
        · rw [if_pos hlt, if_pos (by omega)]
        · rw [if_neg hlt, if_neg (by omega)]
    · refine cfd (by omega) (hnx2 hlast _ ?_)
      rw [wsucc (by omega)]
      congr 1
      refine tab_ext fun a ha => ?_
      by_cases hlt : l.length - 1 - m < a
      · rw [if_pos hlt]
      · rw [if_neg hlt, ddT, if_neg (by omega)]
  refine cfd (by omega) ?_
  obtain rfl : s = l.length - 1 := by omega
  let X := fun i => cz p (px l i)
  let T := fun s i => cz p (ddT p l s i)
  refine LoopQ.upto l.length (fun m t => t.2 = (l.length : Int) - 1 - m ∧ (∀ a ∈ t.1, a < p) ∧ t.1.length ≤ m ∧ ∀ z : Fin p, pv p t.1 z = nwV X (fun i => T i i) l.length m z) ⟨by dsimp only; omega, fun a ha => (by cases ha), Nat.le_refl _, fun z => rfl⟩ ?_
  rintro m ⟨f, t⟩ next4 hm ⟨ht, hf1, hf2, hf3⟩ hnx4
  dsimp only at *
  by_cases hml : m < l.length
  · obtain rfl : t = ((l.length - 1 - m : Nat) : Int) := by omega
    generalize hb : l.length - 1 - m = b at *
    obtain ⟨q, hq⟩ := get_some (show b < l.length by omega)
    have hqx := (hl.1 q (mem_get hq)).1
    have hd := ddT_lt (p := p) (by omega) hl (l.length - 1) b
    have hlin : ∀ a ∈ [fsub p 0 q.X, 1], a < p := by
      intro a ha; simp at ha; rcases ha with rfl | rfl
      · exact fsub_lt (by omega) _ _
      · omega
    have hml2 := mulP_len (p := p) (by omega) f [fsub p 0 q.X, 1]
    simp only [List.length_cons, List.length_nil] at hml2
    refine ctd (by omega) ⟨by omega, q, hq, field_Minus_c (by omega) hpp (by omega) hqx (poly_Times_c (by omega) hpp hf1 hlin (by omega) (by simp) (by simp) ⟨by omega, by omega, _, tab_get _ (show b < l.length by omega), poly_Plus_c (by omega) hpp (fun a ha => mulP_lt (by omega) ha) (fun a ha => ?_) (by omega) (by simp) (hnx4 hml _ ⟨?_, ?_, ?_, ?_⟩)⟩)⟩
    · rw [List.mem_singleton.1 ha]; simp only [toNat_c]; exact hd
    · dsimp only; rw [wi64 (by omega) (by omega)]; omega
    · exact fun a ha => addP_lt (by omega) ha
    · have := addP_len p (mulP p f [fsub p 0 q.X, 1]) [ddT p l (l.length - 1) b]
      have h2 := mx_lub (a := (mulP p f [fsub p 0 q.X, 1]).length) (b := [ddT p l (l.length - 1) b].length) (c := m + 1) (by omega) (by simp)
      simp only [toNat_c]; omega
    · intro z
      simp only [toNat_c]
      rw [pv_addP, mulP_eval (by omega), hf3, pv_lin (Nat.le_of_lt hqx), pv_cons, pv_nil, nwV, hb]
      show _ = _ * (z - cz p (px l b)) + cz p (ddT p l b b)
      rw [px_get hq, ddT_stop (p := p) (l := l) (i := b) (l.length - 1) (by omega)]
      grind
  · obtain rfl : m = l.length := by omega
    refine cfd (by omega) (poly_Short_c (by omega) (k _ ⟨fun a ha => hf1 a (short_mem ha), ?_, short_short _, ?_⟩))
    · have := short_len f; omega
    · intro _ q hq
      obtain ⟨i, hi⟩ := List.mem_iff_getElem?.1 hq
      have := newton hp X T (n := l.length) (fun s i h1 h2 => ddT_step hp hl h1 h2) (fun i j h1 h2 => px_ne (by omega) hl h1 h2) (lt_get hi)
      have h5 : pv p (short f) (cz p (px l i)) = cz p (py l i) := by rw [pv_short, hf3]; exact this
      rw [px_get hi, py_get hi] at h5
      exact h5
end Go.Proofs.Ytlhcaangdenoaaa.Pl
