import Derived.Test.YtlhcaangdenoaaaUQ6b
import Derived.Test.YtlhcaangdenoaaaUQ2
namespace Go.Lf
end Go.Lf
namespace Go.Proofs.Ytlhcaangdenoaaa.Sh
end Go.Proofs.Ytlhcaangdenoaaa.Sh
namespace Go.Proofs.Ytlhcaangdenoaaa.Sp
end Go.Proofs.Ytlhcaangdenoaaa.Sp
namespace Go.Sx
end Go.Sx
set_option linter.unusedVariables false
set_option linter.unusedSimpArgs false
namespace Go.Proofs.Ytlhcaangdenoaaa.Pl
open Go.Sx Go.Lf Go.Proofs.Ytlhcaangdenoaaa.Sh Go.Proofs.Ytlhcaangdenoaaa.Sp
theorem sz_of {Z : Nat → Prop} {H : Heap} {A : Option Addr} {c : Nat} {F : List (List Nat)} (h : SlF (slL u64L) Z H A c F) : Sz F :=
  ⟨h.lt, fun r hr => by
    obtain ⟨i, hi⟩ := List.mem_iff_getElem?.1 hr
    obtain ⟨a, cs, _, ⟨A', c', _, hs⟩, _⟩ := h.get i r hi
    exact hs.lt⟩
def rowV (p n : Nat) (g : Nat → Nat → Nat) (x : Nat) : List Nat := tab n fun k => psum p (fun i => fmul p (g k i) (fpow p x i)) n
def rowOf (p d : Nat) (F : List (List Nat)) (x : Nat) : List Nat := short (rowV p (d + 1) (at2 F) x)
theorem rowV_lt {p n : Nat} (hp : 0 < p) {g : Nat → Nat → Nat} {x a : Nat} (h : a ∈ rowV p n g x) : a < p := by
  obtain ⟨k, _, rfl⟩ := tab_mem h; exact psum_lt hp _ _
theorem rowOf_lt {p d : Nat} (hp : 0 < p) {F : List (List Nat)} {x a : Nat} (h : a ∈ rowOf p d F x) : a < p := rowV_lt hp (short_mem h)
theorem rowOf_len (p d : Nat) (F : List (List Nat)) (x : Nat) : (rowOf p d F x).length ≤ d + 1 := by
  have := short_len (rowV p (d + 1) (at2 F) x)
  rw [rowV, tab_len] at this; exact this
theorem row_eval {p d : Nat} (hp : 1 < p) {F : List (List Nat)} (h : Pr p d F) {r : List Nat} {k : Nat} (hr : F[k]? = some r) (x : Nat) : evalH p r x = psum p (fun i => fmul p (at2 F k i) (fpow p x i)) (d + 1) := by
  rw [← psum_eval hp, h.row r (mem_get hr)]
  refine psum_ext fun i hi => ?_
  obtain ⟨y, hy⟩ := get_some (show i < r.length by rw [h.row r (mem_get hr)]; exact hi)
  rw [at2_eq hr hy, hy]; rfl
theorem pair_RowOf_c {p d x : Nat} (hp0 : 1 < p) (hp : p ≤ 65537) (hd : d ≤ 3) (hx : x < p) {F : List (List Nat)} (h : Pr p d F) {K : List Nat → Prop} (k : K (rowOf p d F x)) : pair_RowOf.C p F x K := by
  refine pair_RowOf.q ⟨MakeOk.of (by omega) (by rw [h.len]; omega), ?_⟩
  rw [h.len, tab_rep]
  refine LoopQ.rangeS (d + 1) (fun i s => s = tab (d + 1) fun a => if a < i then psum p (fun i => fmul p (at2 F a i) (fpow p x i)) (d + 1) else 0) (tab_ext fun a _ => by simp) (by omega) ?_ ?_
  · rintro i _ next hi rfl hnx
    dsimp only
    obtain ⟨r, hr⟩ := get_some (show i < F.length by rw [h.len]; exact hi)
    refine ctd (by omega) ⟨by omega, r, hr, poly_At_c (by omega) hp hx (h.bel r (mem_get hr)) ⟨by omega, by omega, hnx _ ?_⟩⟩
    simp only [toNat_c]
    rw [tab_set, row_eval hp0 h hr]
    refine tab_ext fun a ha => ?_
    by_cases hai : a = i
    · subst hai; rw [if_pos rfl, if_pos (by omega)]
    · rw [if_neg hai]
      by_cases hlt : a < i
      · rw [if_pos hlt, if_pos (by omega)]
      · rw [if_neg hlt, if_neg (by omega)]
  · rintro _ next rfl
    refine cfd (by dsimp only; omega) (poly_Short_c (by simp [tab_len]; omega) ?_)
    have : (tab (d + 1) fun a => if a < d + 1 then psum p (fun i => fmul p (at2 F a i) (fpow p x i)) (d + 1) else 0) = rowV p (d + 1) (at2 F) x := tab_ext fun a ha => by rw [if_pos ha]
    dsimp only; rw [this]; exact k
theorem pair_Row_c {p x : Nat} {t : Int} {F : List (List Nat)} (hF : Sz F) {K : List Nat → Int → Prop} (kbad : ∀ e : Int, (checkC p t F ≠ 0 ∧ e = checkC p t F) ∨ (checkC p t F = 0 ∧ p ≤ x ∧ e = 2) → K [] e)
    (k : ∀ d : Nat, t = d → d ≤ 3 → isP p → Pr p d F → x < p → K (rowOf p d F x) 0) : pair_Row.C p t F x K := by
  refine pair_Row.q (pair_Check_c hF ?_)
  rcases check_cases p t F with h | ⟨h, hp, d, rfl, hd, hpr⟩
  · exact ct (bne_t h) (kbad _ (.inl ⟨h, rfl⟩))
  rw [h]
  refine cf rfl ?_
  by_cases hx : p ≤ x
  · exact ctd (by omega) (kbad _ (.inr ⟨h, hx, rfl⟩))
  · exact cfd (by omega) (pair_RowOf_c (by have := hp.1; omega) hp.2.1 hd (by omega) hpr (k d rfl hd hp hpr (by omega)))
theorem pair_At_c {p x y : Nat} {t : Int} {F : List (List Nat)} (hF : Sz F) {K : Nat → Int → Prop} (kbad : ∀ e : Int, (checkC p t F ≠ 0 ∧ e = checkC p t F) ∨ (checkC p t F = 0 ∧ (p ≤ x ∨ p ≤ y) ∧ e = 2) → K 0 e)
    (k : ∀ d : Nat, t = d → d ≤ 3 → isP p → Pr p d F → x < p → y < p → K (evalH p (rowOf p d F x) y) 0) : pair_At.C p t F x y K := by
  refine pair_At.q (pair_Row_c hF ?_ ?_)
  · rintro e (⟨h, rfl⟩ | ⟨h, hx, rfl⟩)
    · exact ct (bne_t h) (kbad _ (.inl ⟨h, rfl⟩))
    · exact ct rfl (kbad _ (.inr ⟨h, .inl hx, rfl⟩))
  · intro d ht hd hp hpr hx
    refine cf rfl ?_
    by_cases hy : p ≤ y
    · subst ht; exact ctd (by omega) (kbad _ (.inr ⟨check_ok hp hd hpr, .inr hy, rfl⟩))
    · have hp1 := hp.1
      exact cfd (by omega) (poly_At_c (by omega) hp.2.1 (by omega) (below_of fun a ha => rowOf_lt (by omega) ha) (k d ht hd hp hpr hx (by omega)))
def zat (z : List Nat) (i : Nat) : Nat := (z[i]?).getD 0
theorem zat_lt {p : Nat} (hp : 0 < p) {z : List Nat} (h : ∀ x ∈ z, x < p) (i : Nat) : zat z i < p := by
  unfold zat
  cases hx : z[i]? with
  | none => exact hp
  | some y => exact h y (mem_get hx)
theorem codeB_cases (p : Nat) (z : List Nat) : codeB (below p z) = 2 ∨ (codeB (below p z) = 0 ∧ ∀ x ∈ z, x < p) := by
  cases h : below p z with
  | true => exact .inr ⟨rfl, fun x hx => below_lt h hx⟩
  | false => exact .inl rfl
theorem isP7 : isP 7 := ⟨by decide, by decide, fun d h2 hd => by
  have : d = 2 := by
    rcases Nat.lt_or_ge d 3 with h | h
    · omega
    · have := Nat.mul_le_mul h h; omega
  subst this; decide⟩
theorem mk7 : mk 7 3 1 [2, 5] = [[3, 2], [2, 5]] := by decide
theorem alive_c {K : Bool → Prop} (k : K true) : juntolaw06_alive.C K := by
  refine juntolaw06_alive.q (pair_Make_c (by decide) ?_ ?_)
  · rintro (h | h)
    · exact (h (by unfold groundC; rw [if_pos ⟨isP7, by decide, by decide⟩])).elim
    · exact absurd h (by decide)
  · intro d hd hd3 hp hg hs
    obtain rfl : d = 1 := by omega
    have hpr : Pr 7 1 (mk 7 3 1 [2, 5]) := mk_pr (by decide) (by decide)
    rw [mk7] at hpr ⊢
    have hck : checkC 7 1 [[3, 2], [2, 5]] = 0 := check_ok (d := 1) isP7 (by decide) hpr
    have hsz : Sz [[3, 2], [2, 5]] := hpr.sz (by decide)
    refine pair_Row_c hsz ?_ ?_
    · rintro e (⟨h, _⟩ | ⟨_, h, _⟩)
      · exact (h hck).elim
      · exact absurd h (by decide)
    intro d' hd' _ _ _ _
    obtain rfl : d' = 1 := by omega
    refine pair_At_c hsz ?_ ?_
    · rintro e (⟨h, _⟩ | ⟨_, h | h, _⟩)
      · exact (h hck).elim
      · exact absurd h (by decide)
      · exact absurd h (by decide)
    intro d' hd' _ _ _ _ _
    obtain rfl : d' = 1 := by omega
    have er : rowOf 7 1 [[3, 2], [2, 5]] 1 = [5] := by decide
    rw [er]
    refine ct rfl (juntoref06_Same_c hsz ?_)
    rw [decide_eq_true rfl]
    refine ct rfl (ct rfl (ct rfl (juntoref01_Same_c (by decide) ?_)))
    rw [decide_eq_true rfl]
    refine ct rfl (ct rfl (ct (by decide) (pair_Size_c ?_)))
    rw [show (3 : Int) = ((3 : Nat) : Int) from rfl, sizeC_of (by decide)]
    exact k
end Go.Proofs.Ytlhcaangdenoaaa.Pl
