import Derived.Test.YtlhcaangdenoaaaQ6b
import Derived.Test.YtlhcaangdenoaaaQ2
set_option linter.unusedVariables false
set_option linter.unusedSimpArgs false
namespace Go.Proofs.Ytlhcaangdenoaaa.Pl
open Go.Sx Go.Lf Go.Proofs.Ytlhcaangdenoaaa.Sh Go.Proofs.Ytlhcaangdenoaaa.Sp

/-! ### Rows -/
theorem sz_of {Z : Nat → Prop} {H : Heap} {A : Option Addr} {c : Nat} {F : List (List Nat)} (h : SlF (slL u64L) Z H A c F) : Sz F :=
  ⟨h.lt, fun r hr => by
    obtain ⟨i, hi⟩ := List.mem_iff_getElem?.1 hr
    obtain ⟨a, cs, _, ⟨A', c', _, hs⟩, _⟩ := h.get i r hi
    exact hs.lt⟩

def rowV (p n : Nat) (g : Nat → Nat → Nat) (x : Nat) : List Nat := tab n fun k => psum p (fun i => fmul p (g k i) (fpow p x i)) n
def rowOf (p d : Nat) (F : List (List Nat)) (x : Nat) : List Nat := short (rowV p (d + 1) (at2 F) x)
theorem rowV_lt {p n : Nat} (hp : 0 < p) {g : Nat → Nat → Nat} {x a : Nat} (h : a ∈ rowV p n g x) : a < p := by
  obtain ⟨k, _, rfl⟩ := tab_mem h; exact psum_lt hp _ _
theorem rowOf_lt {p d : Nat} (hp : 0 < p) {F : List (List Nat)} {x a : Nat} (h : a ∈ rowOf p d F x) : a < p := rowV_lt hp (short_mem h)
theorem rowOf_len (p d : Nat) (F : List (List Nat)) (x : Nat) : (rowOf p d F x).length ≤ d + 1 := by
  have := short_len (rowV p (d + 1) (at2 F) x)
  rw [rowV, tab_len] at this; exact this
theorem row_eval {p d : Nat} (hp : 1 < p) {F : List (List Nat)} (h : Pr p d F) {r : List Nat} {k : Nat} (hr : F[k]? = some r) (x : Nat) : evalH p r x = psum p (fun i => fmul p (at2 F k i) (fpow p x i)) (d + 1) := by
  rw [← psum_eval hp, h.row r (mem_get hr)]
  refine psum_ext fun i hi => ?_
  obtain ⟨y, hy⟩ := get_some (show i < r.length by rw [h.row r (mem_get hr)]; exact hi)
  rw [at2_eq hr hy, hy]; rfl
theorem pair_RowOf_c {p d x : Nat} (hp0 : 1 < p) (hp : p ≤ 65537) (hd : d ≤ 3) (hx : x < p) {F : List (List Nat)} (h : Pr p d F) {K : List Nat → Prop} (k : K (rowOf p d F x)) : pair_RowOf.C p F x K := by
  refine pair_RowOf.q ⟨MakeOk.of (by omega) (by rw [h.len]; omega), ?_⟩
  rw [h.len, tab_rep]
  refine LoopQ.rangeS (d + 1) (fun i s => s = tab (d + 1) fun a => if a < i then psum p (fun i => fmul p (at2 F a i) (fpow p x i)) (d + 1) else 0) (tab_ext fun a _ => by simp) (by omega) ?_ ?_
  · rintro i _ next hi rfl hnx
    dsimp only
    obtain ⟨r, hr⟩ := get_some (show i < F.length by rw [h.len]; exact hi)
    refine ctd (by omega) ⟨by omega, r, hr, poly_At_c (by omega) hp hx (h.bel r (mem_get hr)) ⟨by omega, by omega, hnx _ ?_⟩⟩
    simp only [toNat_c]
    rw [tab_set, row_eval hp0 h hr]
    refine tab_ext fun a ha => ?_
    by_cases hai : a = i
    · subst hai; rw [if_pos rfl, if_pos (by omega)]
    · rw [if_neg hai]
      by_cases hlt : a < i
      · rw [if_pos hlt, if_pos (by omega)]
      · rw [if_neg hlt, if_neg (by omega)]
  · rintro _ next rfl
    refine cfd (by dsimp only; omega) (poly_Short_c (by simp [tab_len]; omega) ?_)
    have : (tab (d + 1) fun a => if a < d + 1 then psum p (fun i => fmul p (at2 F a i) (fpow p x i)) (d + 1) else 0) = rowV p (d + 1) (at2 F) x := tab_ext fun a ha => by rw [if_pos ha]
    dsimp only; rw [this]; exact k
theorem pair_Row_c {p x : Nat} {t : Int} {F : List (List Nat)} (hF : Sz F) {K : List Nat → Int → Prop} (kbad : ∀ e : Int, (checkC p t F ≠ 0 ∧ e = checkC p t F) ∨ (checkC p t F = 0 ∧ p ≤ x ∧ e = 2) → K [] e)
    (k : ∀ d : Nat, t = d → d ≤ 3 → isP p → Pr p d F → x < p → K (rowOf p d F x) 0) : pair_Row.C p t F x K := by
  refine pair_Row.q (pair_Check_c hF ?_)
  rcases check_cases p t F with h | ⟨h, hp, d, rfl, hd, hpr⟩
  · exact ct (bne_t h) (kbad _ (.inl ⟨h, rfl⟩))
  rw [h]
  refine cf rfl ?_
  by_cases hx : p ≤ x
  · exact ctd (by omega) (kbad _ (.inr ⟨h, hx, rfl⟩))
  · exact cfd (by omega) (pair_RowOf_c (by have := hp.1; omega) hp.2.1 hd (by omega) hpr (k d rfl hd hp hpr (by omega)))
theorem pair_At_c {p x y : Nat} {t : Int} {F : List (List Nat)} (hF : Sz F) {K : Nat → Int → Prop} (kbad : ∀ e : Int, (checkC p t F ≠ 0 ∧ e = checkC p t F) ∨ (checkC p t F = 0 ∧ (p ≤ x ∨ p ≤ y) ∧ e = 2) → K 0 e)
    (k : ∀ d : Nat, t = d → d ≤ 3 → isP p → Pr p d F → x < p → y < p → K (evalH p (rowOf p d F x) y) 0) : pair_At.C p t F x y K := by
  refine pair_At.q (pair_Row_c hF ?_ ?_)
  · rintro e (⟨h, rfl⟩ | ⟨h, hx, rfl⟩)
    · exact ct (bne_t h) (kbad _ (.inl ⟨h, rfl⟩))
    · exact ct rfl (kbad _ (.inr ⟨h, .inl hx, rfl⟩))
  · intro d ht hd hp hpr hx
    refine cf rfl ?_
    by_cases hy : p ≤ y
    · subst ht; exact ctd (by omega) (kbad _ (.inr ⟨check_ok hp hd hpr, .inr hy, rfl⟩))
    · have hp1 := hp.1
      exact cfd (by omega) (poly_At_c (by omega) hp.2.1 (by omega) (below_of fun a ha => rowOf_lt (by omega) ha) (k d ht hd hp hpr hx (by omega)))
/-- The reference's row. -/
theorem juntoref06_Row_c {p d x : Nat} (hp0 : 1 < p) (hp : p ≤ 65537) (hd : d ≤ 3) (hx : x < p) {F : List (List Nat)} (h : Pr p d F) {K : List Nat → Prop} (k : K (rowOf p d F x)) : juntoref06_Row.C p F x K := by
  refine juntoref06_Row.q ⟨MakeOk.of (by omega) (by rw [h.len]; omega), ?_⟩
  rw [h.len, tab_rep]
  refine LoopQ.rangeS (d + 1) (fun i s => s = tab (d + 1) fun a => if a < i then psum p (fun i => fmul p (at2 F a i) (fpow p x i)) (d + 1) else 0) (tab_ext fun a _ => by simp) (by omega) ?_ ?_
  · rintro i _ next hi rfl hnx
    dsimp only
    refine ctd (by omega) ?_
    refine LoopQ.rangeS (d + 1) (fun j s => s = tab (d + 1) fun a => if a = i then psum p (fun i => fmul p (at2 F a i) (fpow p x i)) j else if a < i then psum p (fun i => fmul p (at2 F a i) (fpow p x i)) (d + 1) else 0) ?_ (by omega) ?_ ?_
    · refine tab_ext fun a ha => ?_
      by_cases hai : a = i
      · subst hai; rw [if_neg (by omega), if_pos rfl]; rfl
      · rw [if_neg hai]
    · rintro j _ next2 hj rfl hnx2
      dsimp only
      obtain ⟨r, hr⟩ := get_some (show j < F.length by rw [h.len]; exact hj)
      obtain ⟨c, hc⟩ := get_some (show i < r.length by rw [h.row r (mem_get hr)]; exact hi)
      have hg := tab_get (n := d + 1) (i := i) (fun a => if a = i then psum p (fun i => fmul p (at2 F a i) (fpow p x i)) j else if a < i then psum p (fun i => fmul p (at2 F a i) (fpow p x i)) (d + 1) else 0) hi
      simp only [if_true] at hg
      refine ctd (by omega) ⟨by omega, by omega, by omega, r, hr, _, hg, by omega, c, hc, ?_⟩
      rw [show IntKind.u64.wrap (j : Int) = j from uw (by omega), toNat_c]
      refine juntoref01_Pow_c hp0 hp hx j (by omega) (juntoref01_Mul_c (by omega) hp (below_lt (h.bel r (mem_get hr)) (mem_get hc)) (fpow_lt (by omega) _ _) (juntoref01_Add_c (by omega) hp (psum_lt (by omega) _ _) (fmul_lt (by omega) _ _) ⟨by omega, by omega, hnx2 _ ?_⟩))
      simp only [toNat_c]
      rw [tab_set]
      refine tab_ext fun a ha => ?_
      by_cases hai : a = i
      · subst hai
        rw [if_pos rfl, if_pos rfl, psum, h.sym a j hi hj, at2_eq hr hc]
      · rw [if_neg hai, if_neg hai, if_neg hai]
    · rintro _ next2 rfl
      refine cfd (by dsimp only; omega) (hnx _ ?_)
      refine tab_ext fun a ha => ?_
      by_cases hai : a = i
      · subst hai; rw [if_pos rfl, if_pos (by omega)]
      · rw [if_neg hai]
        by_cases hlt : a < i
        · rw [if_pos hlt, if_pos (by omega)]
        · rw [if_neg hlt, if_neg (by omega)]
  · rintro _ next rfl
    refine cfd (by dsimp only; omega) (juntoref02_Trim_c (by simp [tab_len]; omega) ?_)
    have : (tab (d + 1) fun a => if a < d + 1 then psum p (fun i => fmul p (at2 F a i) (fpow p x i)) (d + 1) else 0) = rowV p (d + 1) (at2 F) x := tab_ext fun a ha => by rw [if_pos ha]
    dsimp only; rw [this]; exact k

/-! ### Lifts -/
def zat (z : List Nat) (i : Nat) : Nat := (z[i]?).getD 0
theorem zat_lt {p : Nat} (hp : 0 < p) {z : List Nat} (h : ∀ x ∈ z, x < p) (i : Nat) : zat z i < p := by
  unfold zat
  cases hx : z[i]? with
  | none => exact hp
  | some y => exact h y (mem_get hx)
def liftG (p k : Nat) (z : List Nat) (i j : Nat) : Nat := fmul p k (fmul p (zat z i) (zat z j))
def liftM (p d k : Nat) (z : List Nat) (F : List (List Nat)) : List (List Nat) := mat (d + 1) fun i j => fadd p (at2 F i j) (liftG p k z i j)
theorem raise1_c {z : List Nat} (i : Nat) {K : Nat → Prop} (k : K (zat z i)) : pair_Raise_1.C i z K := by
  apply pair_Raise_1.q
  unfold pair_Raise_1.Q
  by_cases h : i < z.length
  · obtain ⟨x, hx⟩ := get_some h
    refine ctd (by omega) ⟨by omega, x, hx, ?_⟩
    unfold zat at k; rw [hx] at k; exact k
  · refine cfd (by omega) ?_
    unfold zat at k; rw [List.getElem?_eq_none (by omega)] at k; exact k
theorem pair_Raise_c {p d k : Nat} (hp0 : 0 < p) (hp : p ≤ 65537) (hd : d ≤ 3) (hk : k < p) {z : List Nat} (hz : ∀ x ∈ z, x < p) {F : List (List Nat)} (h : Pr p d F) {K : List (List Nat) → Prop} (k' : K (liftM p d k z F)) : pair_Raise.C p F k z K := by
  refine pair_Raise.q (pair_Plus_c (m := liftG p k z) hp0 hp hd h (fun _ _ => fmul_lt hp0 _ _) ?_ k')
  intro i j K' hi hj k2
  exact pair_Raise_2.q (raise1_c i (raise1_c j (field_Times_c hp0 hp (zat_lt hp0 hz _) (zat_lt hp0 hz _) (field_Times_c hp0 hp hk (fmul_lt hp0 _ _) k2))))
open Classical in
noncomputable def liftC (p : Nat) (t : Int) (k : Nat) (z : List Nat) : Int := if p ≤ k then 2 else if (t + 1 : Int) < z.length then 3 else codeB (below p z)
theorem codeB_cases (p : Nat) (z : List Nat) : codeB (below p z) = 2 ∨ (codeB (below p z) = 0 ∧ ∀ x ∈ z, x < p) := by
  cases h : below p z with
  | true => exact .inr ⟨rfl, fun x hx => below_lt h hx⟩
  | false => exact .inl rfl
theorem pair_Lift_c {p k : Nat} {t : Int} {z : List Nat} {F : List (List Nat)} (hF : Sz F) (hzl : z.length ≤ 17592186044416) {K : List (List Nat) → Int → Prop}
    (kbad : ∀ e : Int, (checkC p t F ≠ 0 ∧ e = checkC p t F) ∨ (checkC p t F = 0 ∧ liftC p t k z ≠ 0 ∧ e = liftC p t k z) → K [] e)
    (k' : ∀ d : Nat, t = d → d ≤ 3 → isP p → Pr p d F → checkC p t F = 0 → liftC p t k z = 0 → k < p → z.length ≤ d + 1 → (∀ x ∈ z, x < p) → K (liftM p d k z F) 0) : pair_Lift.C p t F k z K := by
  refine pair_Lift.q (pair_Check_c hF ?_)
  rcases check_cases p t F with h | ⟨h, hp, d, rfl, hd, hpr⟩
  · exact ct (bne_t h) (kbad _ (.inl ⟨h, rfl⟩))
  rw [h]
  refine cf rfl ?_
  by_cases hk : p ≤ k
  · have e : liftC p d k z = 2 := by unfold liftC; rw [if_pos hk]
    exact ctd (by omega) (kbad _ (.inr ⟨h, by rw [e]; decide, e.symm⟩))
  refine cfd (by omega) ?_
  rw [wsucc (k := d) (by omega)]
  by_cases hl : d + 1 < z.length
  · have e : liftC p d k z = 3 := by unfold liftC; rw [if_neg hk, if_pos (by omega)]
    exact ctd (by omega) (kbad _ (.inr ⟨h, by rw [e]; decide, e.symm⟩))
  refine cfd (by omega) (field_Below_c (by omega) ?_)
  have e : liftC p d k z = codeB (below p z) := by unfold liftC; rw [if_neg hk, if_neg (by omega)]
  rcases codeB_cases p z with hb | ⟨hb, hz⟩
  · rw [hb] at e ⊢
    exact ct rfl (kbad _ (.inr ⟨h, by rw [e]; decide, e.symm⟩))
  · rw [hb] at e ⊢
    exact cf rfl (pair_Raise_c (by have := hp.1; omega) hp.2.1 hd (by omega) hz hpr (k' d rfl hd hp hpr h e (by omega) (by omega) hz))
theorem juntoref06_Lift_c {p d k : Nat} (hp0 : 0 < p) (hp : p ≤ 65537) (hd : d ≤ 3) (hk : k < p) {z : List Nat} (hz : ∀ x ∈ z, x < p) (hzl : z.length ≤ d + 1) {F : List (List Nat)} (h : Pr p d F) {K : List (List Nat) → Prop} (k' : K (liftM p d k z F)) : juntoref06_Lift.C p F k z K := by
  refine juntoref06_Lift.q ⟨AppOk.of (by simp; omega), MakeOk.of (by omega) (by rw [h.len]; omega), ?_⟩
  rw [h.len]
  refine ⟨AppOk.of (by simp; omega), ?_⟩
  have hzg : ∀ i, i < d + 1 → (z ++ List.replicate (d + 1) 0)[i]? = some (zat z i) := fun i hi => by
    unfold zat
    by_cases hl : i < z.length
    · rw [List.getElem?_append_left hl]; obtain ⟨x, hx⟩ := get_some hl; rw [hx]; rfl
    · rw [List.getElem?_append_right (by omega), List.getElem?_eq_none (l := z) (by omega), List.getElem?_replicate, if_pos (by omega)]; rfl
  have hzn : (z ++ List.replicate (d + 1) 0).length = z.length + (d + 1) := by simp
  generalize z ++ List.replicate (d + 1) 0 = z' at *
  refine rows_loop (n := d + 1) (g := liftG p k z) (by omega) ?_ ?_
  · intro i next hi hn
    dsimp only
    refine ctd (by omega) (row_loop (n := d + 1) (g := liftG p k z i) (by omega) ?_ ?_)
    · intro j next2 hj hn2
      dsimp only
      exact ctd (by omega) ⟨by omega, by omega, by omega, by omega, _, hzg i hi, _, hzg j hj, juntoref01_Mul_c hp0 hp (zat_lt hp0 hz _) (zat_lt hp0 hz _) (juntoref01_Mul_c hp0 hp hk (fmul_lt hp0 _ _) hn2)⟩
    · intro next2
      dsimp only
      have ha : AppOk 24 (tab i (fun a => tab (d + 1) (liftG p k z a)) ++ [tab (d + 1) (liftG p k z i)]).length := AppOk.of (by simp [tab_len]; omega)
      exact cfd (by omega) ⟨ha, hn ha⟩
  · intro next
    exact cfd (by dsimp only; omega) (juntoref06_Add_c hp0 hp hd h.mat (fun i j hi hj => h.lt hi hj) (fun i j _ _ => fmul_lt hp0 _ _) k')

/-! ### The statements' own words -/
theorem is_bad {F W : List (List Nat)} {e bad : Int} {K : Bool → Prop} (hb : bad ≠ 0) (he : e = bad) (hF : F = []) (k : K true) : juntolaw06_is.C F e W bad K := by
  subst he; subst hF
  exact juntolaw06_is.q (ct (bne_t hb) (ct (beq_t rfl) k))
theorem is_ok {F W : List (List Nat)} (hF : Sz F) (h : F = W) {K : Bool → Prop} (k : K true) : juntolaw06_is.C F 0 W 0 K :=
  juntolaw06_is.q (cf rfl (ct rfl (juntoref06_Same_c hF (by rw [decide_eq_true h]; exact k))))
theorem list_bad {F W : List Nat} {e bad : Int} {K : Bool → Prop} (hb : bad ≠ 0) (he : e = bad) (hF : F = []) (k : K true) : juntolaw06_list.C F e W bad K := by
  subst he; subst hF
  exact juntolaw06_list.q (ct (bne_t hb) (ct (beq_t rfl) k))
theorem list_ok {F W : List Nat} (hF : F.length < 4611686018427387904) (h : F = W) {K : Bool → Prop} (k : K true) : juntolaw06_list.C F 0 W 0 K :=
  juntolaw06_list.q (cf rfl (ct rfl (juntoref01_Same_c hF (by rw [decide_eq_true h]; exact k))))
theorem isP7 : isP 7 := ⟨by decide, by decide, fun d h2 hd => by
  have : d = 2 := by
    rcases Nat.lt_or_ge d 3 with h | h
    · omega
    · have := Nat.mul_le_mul h h; omega
  subst this; decide⟩
theorem mk7 : mk 7 3 1 [2, 5] = [[3, 2], [2, 5]] := by decide
theorem sz_small {F : List (List Nat)} (h : F.length ≤ 4) (h2 : ∀ r ∈ F, r.length ≤ 4) : Sz F := ⟨by omega, fun r hr => by have := h2 r hr; omega⟩
theorem alive_c {K : Bool → Prop} (k : K true) : juntolaw06_alive.C K := by
  refine juntolaw06_alive.q (pair_Make_c (by decide) ?_ ?_)
  · rintro (h | h)
    · exact (h (by unfold groundC; rw [if_pos ⟨isP7, by decide, by decide⟩])).elim
    · exact absurd h (by decide)
  · intro d hd hd3 hp hg hs
    obtain rfl : d = 1 := by omega
    have hpr : Pr 7 1 (mk 7 3 1 [2, 5]) := mk_pr (by decide) (by decide)
    rw [mk7] at hpr ⊢
    have hck : checkC 7 1 [[3, 2], [2, 5]] = 0 := check_ok (d := 1) isP7 (by decide) hpr
    have hsz : Sz [[3, 2], [2, 5]] := hpr.sz (by decide)
    refine pair_Row_c hsz ?_ ?_
    · rintro e (⟨h, _⟩ | ⟨_, h, _⟩)
      · exact (h hck).elim
      · exact absurd h (by decide)
    intro d' hd' _ _ _ _
    obtain rfl : d' = 1 := by omega
    refine pair_At_c hsz ?_ ?_
    · rintro e (⟨h, _⟩ | ⟨_, h | h, _⟩)
      · exact (h hck).elim
      · exact absurd h (by decide)
      · exact absurd h (by decide)
    intro d' hd' _ _ _ _ _
    obtain rfl : d' = 1 := by omega
    have er : rowOf 7 1 [[3, 2], [2, 5]] 1 = [5] := by decide
    rw [er]
    refine ct rfl (juntoref06_Same_c hsz ?_)
    rw [decide_eq_true rfl]
    refine ct rfl (ct rfl (ct rfl (juntoref01_Same_c (by decide) ?_)))
    rw [decide_eq_true rfl]
    refine ct rfl (ct rfl (ct (by decide) (pair_Size_c ?_)))
    rw [show (3 : Int) = ((3 : Nat) : Int) from rfl, sizeC_of (by decide)]
    exact k
theorem lift_c {p : Nat} {t : Int} {z : TLifted} (h0 : 0 ≤ t) (h3 : t ≤ 3) (hz : z.Z.length ≤ 17592186044416) {K : Int → Prop} (k : K (liftC p t z.K z.Z)) : juntolaw06_lift.C p t z K := by
  apply juntolaw06_lift.q
  unfold juntolaw06_lift.Q
  unfold liftC at k
  rw [wi64 (by omega) (by omega)]
  by_cases h1 : p ≤ z.K
  · rw [if_pos h1] at k; exact ctd (by omega) k
  rw [if_neg h1] at k
  refine cfd (by omega) ?_
  by_cases h2 : t + 1 < z.Z.length
  · rw [if_pos h2] at k; exact ctd (by omega) k
  rw [if_neg h2] at k
  exact cfd (by omega) (juntoref01_Within_c (by omega) k)
end Go.Proofs.Ytlhcaangdenoaaa.Pl
