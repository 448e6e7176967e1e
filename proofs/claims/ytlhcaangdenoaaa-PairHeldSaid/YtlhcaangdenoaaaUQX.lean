import Derived.Test.YtlhcaangdenoaaaUQ6g
import Derived.Test.YtlhcaangdenoaaaUHandS
import Derived.Test.YtlhcaangdenoaaaUTypes
import Derived.Test.YtlhcaangdenoaaaUFnJuntolaw06
import Derived.Test.YtlhcaangdenoaaaUFnJuntoref06
import Derived.Test.YtlhcaangdenoaaaUFnPair
namespace Go.Lf
end Go.Lf
namespace Go.Proofs.Ytlhcaangdenoaaa.Sh
end Go.Proofs.Ytlhcaangdenoaaa.Sh
namespace Go.Proofs.Ytlhcaangdenoaaa.Sp
end Go.Proofs.Ytlhcaangdenoaaa.Sp
namespace Go.Proofs.Ytlhcaangdenoaaa.Srt
end Go.Proofs.Ytlhcaangdenoaaa.Srt
namespace Go.Sx
end Go.Sx
set_option linter.unusedVariables false
set_option linter.unusedSimpArgs false
namespace Go.Proofs.Ytlhcaangdenoaaa.Pl
open Go.Sx Go.Lf Go.Proofs.Ytlhcaangdenoaaa.Sh Go.Proofs.Ytlhcaangdenoaaa.Sp Go.Proofs.Ytlhcaangdenoaaa.Srt
def lat (l : List (List Nat)) (i : Nat) : List Nat := l[i]?.getD []
def bad (p : Nat) (xs : List Nat) (l : List (List Nat)) (i k : Nat) : Prop := evalH p (lat l i) (zat xs k) ≠ evalH p (lat l k) (zat xs i)
def RA (a b : Int × Int) : Prop := a.2 < b.2 ∨ (a.2 = b.2 ∧ a.1 < b.1)
def RB (a b : Int × Int) : Prop := a.1 < b.1 ∨ (a.1 = b.1 ∧ a.2 < b.2)
def pr (i k : Nat) : Int × Int := ((i : Int), (k : Int))
structure Qs (p : Nat) (xs : List Nat) (l : List (List Nat)) (R : Int × Int → Int × Int → Prop) (S : Nat → Nat → Prop) (n : Nat) (out : List (Int × Int)) : Prop where
  st : out.Pairwise R
  mem : ∀ a, a ∈ out ↔ ∃ i k, a = pr i k ∧ S i k ∧ bad p xs l i k
  len : out.length ≤ n
section
variable {p : Nat} {xs : List Nat} {l : List (List Nat)} {R : Int × Int → Int × Int → Prop} {S S' : Nat → Nat → Prop} {n m : Nat} {out : List (Int × Int)}
theorem Qs.nil (h : ∀ i k, ¬ S i k) : Qs p xs l R S 0 [] := ⟨.nil, fun a => ⟨(fun h => nomatch h), fun ⟨i, k, _, hs, _⟩ => (h i k hs).elim⟩, Nat.le_refl _⟩
theorem Qs.same (h : Qs p xs l R S n out) (hs : ∀ i k, bad p xs l i k → (S i k ↔ S' i k)) (hn : n ≤ m) : Qs p xs l R S' m out :=
  ⟨h.st, fun a => (h.mem a).trans ⟨fun ⟨i, k, e, s, b⟩ => ⟨i, k, e, (hs i k b).1 s, b⟩, fun ⟨i, k, e, s, b⟩ => ⟨i, k, e, (hs i k b).2 s, b⟩⟩, Nat.le_trans h.len hn⟩
theorem Qs.snoc (h : Qs p xs l R S n out) {i k : Nat} (hb : bad p xs l i k) (hR : ∀ a b, S a b → R (pr a b) (pr i k)) (hs : ∀ a b, S' a b ↔ S a b ∨ (a = i ∧ b = k)) (hn : n + 1 ≤ m) : Qs p xs l R S' m (out ++ [pr i k]) := by
  refine ⟨List.pairwise_append.2 ⟨h.st, List.pairwise_singleton _ _, fun a ha b hb' => ?_⟩, fun a => ?_, by have := h.len; simp; omega⟩
  · obtain ⟨i', k', rfl, hs', _⟩ := (h.mem a).1 ha
    rw [List.mem_singleton.1 hb']
    exact hR _ _ hs'
  · rw [List.mem_append, h.mem a, List.mem_singleton]
    constructor
    · rintro (⟨i', k', e, s, b⟩ | rfl)
      · exact ⟨i', k', e, (hs _ _).2 (.inl s), b⟩
      · exact ⟨i, k, rfl, (hs _ _).2 (.inr ⟨rfl, rfl⟩), hb⟩
    · rintro ⟨i', k', e, s, b⟩
      rcases (hs _ _).1 s with s | ⟨rfl, rfl⟩
      · exact .inl ⟨i', k', e, s, b⟩
      · exact .inr e
end
theorem sorted_ext {α : Type} {R : α → α → Prop} (has : ∀ a b, R a b → ¬ R b a) : ∀ {l m : List α}, l.Pairwise R → m.Pairwise R → (∀ a, a ∈ l ↔ a ∈ m) → l = m
  | [], [], _, _, _ => rfl
  | [], b :: m, _, _, h => nomatch (h b).2 (.head _)
  | a :: l, [], _, _, h => nomatch (h a).1 (.head _)
  | a :: l, b :: m, hl, hm, h => by
    obtain ⟨h1, h2⟩ := List.pairwise_cons.1 hl
    obtain ⟨h3, h4⟩ := List.pairwise_cons.1 hm
    have hir : ∀ x, ¬ R x x := fun x hx => has x x hx hx
    have e : a = b := by
      rcases List.mem_cons.1 ((h a).1 (.head _)) with e | e
      · exact e
      · rcases List.mem_cons.1 ((h b).2 (.head _)) with e' | e'
        · exact e'.symm
        · exact (has _ _ (h1 b e') (h3 a e)).elim
    subst e
    congr 1
    refine sorted_ext has h2 h4 fun x => ⟨fun hx => ?_, fun hx => ?_⟩
    · rcases List.mem_cons.1 ((h x).1 (.tail _ hx)) with e | e
      · exact (hir _ (e ▸ h1 x hx)).elim
      · exact e
    · rcases List.mem_cons.1 ((h x).2 (.tail _ hx)) with e | e
      · exact (hir _ (e ▸ h3 x hx)).elim
      · exact e
theorem RB_as (a b : Int × Int) (h : RB a b) : ¬ RB b a := by unfold RB at *; omega
theorem RA_ne (a b : Int × Int) (h : RA a b) : a ≠ b := by rintro rfl; unfold RA at h; omega
theorem sort2_mem (l : List (Int × Int)) (a : Int × Int) : a ∈ sort2 l ↔ a ∈ l := List.mem_mergeSort
theorem sort2_strict {l : List (Int × Int)} (h : l.Nodup) : (sort2 l).Pairwise RB := by
  have hp : (sort2 l).Perm l := List.mergeSort_perm _ _
  have hn : (sort2 l).Nodup := hp.nodup_iff.2 h
  have hs : (sort2 l).Pairwise fun a b => (!(Go.Proofs.ltOf lex2) b a) = true := List.pairwise_mergeSort (fun a b c h1 h2 => by
    simp only [lt2, Bool.not_eq_true', decide_eq_false_iff_not] at *; omega) (fun a b => by
    simp only [lt2, Bool.or_eq_true, Bool.not_eq_true', decide_eq_false_iff_not]; omega) l
  refine (hs.and hn).imp fun {a b} ⟨h1, h2⟩ => ?_
  simp only [lt2, Bool.not_eq_true', decide_eq_false_iff_not] at h1
  unfold RB
  have : ¬ (a.1 = b.1 ∧ a.2 = b.2) := fun ⟨e, f⟩ => h2 (Prod.ext e f)
  omega
def Quar (p : Nat) (xs : List Nat) (l : List (List Nat)) (out : List (Int × Int)) : Prop := Qs p xs l RB (fun i k => i < k ∧ k < xs.length) 169 out
theorem Quar.uniq {p : Nat} {xs : List Nat} {l : List (List Nat)} {a b : List (Int × Int)} (h : Quar p xs l a) (k : Quar p xs l b) : a = b :=
  sorted_ext RB_as h.st k.st fun x => (h.mem x).trans (k.mem x).symm
theorem bad_iff {p : Nat} {xs : List Nat} {l : List (List Nat)} {i k x y : Nat} {f g : List Nat} (hf : l[i]? = some f) (hg : l[k]? = some g) (hx : xs[i]? = some x) (hy : xs[k]? = some y) : bad p xs l i k ↔ evalH p f y ≠ evalH p g x := by
  unfold bad lat; rw [hf, hg, zat_get hx, zat_get hy]; rfl
theorem pquar_c {p : Nat} {xs : List Nat} {l : List (List Nat)} (hX : xs.length ≤ 17592186044416) (hl : Sz l) {K : List (Int × Int) → Int → Prop}
    (k1 : prm p = false → K [] 2) (k2 : prm p = true → rowsC p xs l ≠ 0 → K [] (rowsC p xs l)) (k3 : isP p → rowsC p xs l = 0 → ∀ out, Quar p xs l out → K out 0) : pair_Quarrels.C p xs l K := by
  refine pair_Quarrels.q (field_Is_c ?_)
  cases hpr : prm p with
  | false => exact ct rfl (k1 hpr)
  | true =>
    have hp : isP p := prm_iff.1 hpr
    have hp3 := hp.1
    refine cf rfl (pair_rows_c hp hX hl ?_)
    by_cases hr : ¬ rowsC p xs l = 0
    · exact ct (bne_t hr) (k2 hpr hr)
    replace hr := Classical.not_not.1 hr
    have h := rows_ok hr
    have hfew := h.few
    refine cf (bne_f hr) ?_
    refine LoopQ.upto xs.length (fun i t => t.2 = (i : Int) ∧ Qs p xs l RA (fun a b => a < b ∧ b < i) (i * 13) t.1) ⟨rfl, Qs.nil fun i k => by omega⟩ ?_
    rintro i ⟨out, _⟩ next hi ⟨rfl, hQ⟩ hnx
    dsimp only at hQ ⊢
    by_cases hlt : i < xs.length
    · obtain ⟨x, hx⟩ := get_some hlt
      obtain ⟨f, hf⟩ := get_some (show i < l.length by rw [h.len]; exact hlt)
      refine ctd (by omega) ?_
      refine LoopQ.upto i (fun j t => t.2 = (j : Int) ∧ Qs p xs l RA (fun a b => a < b ∧ (b < i ∨ (b = i ∧ a < j))) (i * 13 + j) t.1) ⟨rfl, hQ.same (fun a b _ => by omega) (by omega)⟩ ?_
      rintro j ⟨out2, _⟩ next2 hj ⟨rfl, hQ2⟩ hnx2
      dsimp only at hQ2 ⊢
      by_cases hj2 : j < i
      · obtain ⟨y, hy⟩ := get_some (show j < xs.length by omega)
        obtain ⟨g, hg⟩ := get_some (show j < l.length by rw [h.len]; omega)
        have hbi := bad_iff (p := p) hg hf hy hx
        refine ctd (by omega) ⟨by omega, g, by rw [toNat_c]; exact hg, by omega, x, by rw [toNat_c]; exact hx, by omega, f, by rw [toNat_c]; exact hf, by omega, y, by rw [toNat_c]; exact hy, ?_⟩
        refine poly_At_c (by omega) hp.2.1 (h.lt x (mem_get hx)) (below_of (h.bel g (mem_get hg))) (poly_At_c (by omega) hp.2.1 (h.lt y (mem_get hy)) (below_of (h.bel f (mem_get hf))) ?_)
        by_cases hb : bad p xs l j i
        · have hne := hbi.1 hb
          refine ct (bne_t (by omega)) ⟨AppOk.of (by have := hQ2.len; simp; omega), hnx2 (by omega) _ ⟨wsucc (by omega), ?_⟩⟩
          exact hQ2.snoc hb (fun a b hab => by unfold RA pr; omega) (fun a b => by omega) (by omega)
        · have he : evalH p g x = evalH p f y := Classical.not_not.1 fun hne => hb (hbi.2 hne)
          refine cf (bne_f (by omega)) (hnx2 (by omega) _ ⟨wsucc (by omega), ?_⟩)
          refine hQ2.same (fun a b hab => ?_) (by omega)
          by_cases e : a = j ∧ b = i
          · obtain ⟨rfl, rfl⟩ := e; exact (hb hab).elim
          · omega
      · refine cfd (by omega) (hnx hlt _ ⟨wsucc (by omega), hQ2.same (fun a b hab => by omega) (by omega)⟩)
    · refine cfd (by omega) (slices_SortFunc_c (k3 hp hr _ ⟨sort2_strict (hQ.st.imp fun {a b} h => RA_ne a b h), fun a => ?_, ?_⟩))
      · rw [sort2_mem, hQ.mem]
        exact ⟨fun ⟨i', k', e, s, b⟩ => ⟨i', k', e, by omega, b⟩, fun ⟨i', k', e, s, b⟩ => ⟨i', k', e, by omega, b⟩⟩
      · rw [sort2_length]; have := hQ.len; have : i ≤ 13 := by omega
        omega
end Go.Proofs.Ytlhcaangdenoaaa.Pl
