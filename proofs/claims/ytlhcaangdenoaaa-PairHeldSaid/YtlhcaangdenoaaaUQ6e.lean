import Derived.Test.YtlhcaangdenoaaaUQ6c
import Derived.Test.YtlhcaangdenoaaaUQA
import Derived.Test.YtlhcaangdenoaaaUTypes
import Derived.Test.YtlhcaangdenoaaaUFnJuntolaw06
import Derived.Test.YtlhcaangdenoaaaUFnJuntoref01
import Derived.Test.YtlhcaangdenoaaaUFnJuntoref02
import Derived.Test.YtlhcaangdenoaaaUFnJuntoref06
import Derived.Test.YtlhcaangdenoaaaUFnPair
namespace Go.Lf
end Go.Lf
namespace Go.Proofs.Ytlhcaangdenoaaa.Sh
end Go.Proofs.Ytlhcaangdenoaaa.Sh
namespace Go.Proofs.Ytlhcaangdenoaaa.Sp
end Go.Proofs.Ytlhcaangdenoaaa.Sp
namespace Go.Sx
end Go.Sx
set_option linter.unusedVariables false
set_option linter.unusedSimpArgs false
namespace Go.Proofs.Ytlhcaangdenoaaa.Pl
open Go.Sx Go.Lf Go.Proofs.Ytlhcaangdenoaaa.Sh Go.Proofs.Ytlhcaangdenoaaa.Sp
theorem nodup_iff {l : List Nat} : l.Nodup ↔ ∀ (i j x : Nat), j < i → l[i]? = some x → l[j]? ≠ some x := by
  rw [List.Nodup, List.pairwise_iff_getElem]
  constructor
  · intro h i j x hji hi hj
    obtain ⟨h1, e1⟩ := List.getElem?_eq_some_iff.1 hi
    obtain ⟨h2, e2⟩ := List.getElem?_eq_some_iff.1 hj
    exact h j i h2 h1 hji (e2.trans e1.symm)
  · intro h i j hi hj hij he
    exact h j i _ hij (List.getElem?_eq_getElem hj) (by rw [List.getElem?_eq_getElem hi, he])
theorem juntoref02_Twice_c {l : List Nat} (hl : l.length < 4611686018427387904) {K : Bool → Prop} (k : K (decide (¬ l.Nodup))) : juntoref02_Twice.C l K := by
  apply juntoref02_Twice.q
  refine LoopQ.range l.length (fun n => ∀ (i j x : Nat), i < n → j < i → l[i]? = some x → l[j]? ≠ some x) (fun i j x hi => by omega) hl ?_ ?_
  · intro n next hn hI hnx
    refine ctd (by omega) ?_
    obtain ⟨x, hx⟩ := get_some hn
    refine LoopQ.range n (fun m => ∀ j, j < m → l[j]? ≠ some x) (fun j hj => by omega) (by omega) ?_ ?_
    · intro m next2 hm hJ hnx2
      obtain ⟨y, hy⟩ := get_some (show m < l.length by omega)
      refine ctd (by omega) ⟨by omega, x, hx, by omega, y, hy, ?_⟩
      by_cases hxy : x = y
      · subst hxy
        refine ct (beq_t rfl) ?_
        rw [decide_eq_true (show ¬ l.Nodup from fun h => nodup_iff.1 h n m x hm hx hy)] at k; exact k
      · refine cf (beq_f (by omega)) (hnx2 fun j hj => ?_)
        rcases Nat.lt_or_ge j m with h' | h'
        · exact hJ j h'
        · obtain rfl : j = m := by omega
          rw [hy]; intro h; cases h; exact hxy rfl
    · intro next2 hJ
      refine cfd (by omega) (hnx fun i j y hi hj hy => ?_)
      rcases Nat.lt_or_ge i n with h' | h'
      · exact hI i j y h' hj hy
      · obtain rfl : i = n := by omega
        rw [hx] at hy; cases hy; exact hJ j hj
  · intro next hI
    refine cfd (by omega) ?_
    rw [decide_eq_false (show ¬ ¬ l.Nodup from fun h => h (nodup_iff.2 fun i j x hj hx => hI i j x (lt_get hx) hj hx))] at k; exact k
section
variable {p : Nat} [NeZero p]
theorem cz_nodup {l : List Nat} (h : l.Nodup) (hl : ∀ x ∈ l, x < p) : (l.map (cz p)).Nodup := nodup_map h fun a ha b hb he => cz_inj (hl a ha) (hl b hb) he
omit [NeZero p] in
theorem rowV_eval (n : Nat) (g : Nat → Nat → Nat) (x k : Nat) (hk : k < n) : ∃ v, (rowV p n g x)[k]? = some v ∧ v = psum p (fun i => fmul p (g k i) (fpow p x i)) n := ⟨_, tab_get _ hk, rfl⟩
theorem psum_S (g : Nat → Nat) (x n : Nat) : cz p (psum p (fun i => fmul p (g i) (fpow p x i)) n) = S (fun i => cz p (g i) * cz p x ^ i) n := by
  rw [S_psum]; exact S_ext fun i _ => by rw [cz_fmul, cz_fpow]
theorem pe_tab (g : Nat → Fin p) (x : Fin p) (n : Nat) : pe (tab n g) x = S (fun i => g i * x ^ i) n := by
  have key : ∀ (l : List (Fin p)) (c : Fin p), pe (l ++ [c]) x = pe l x + c * x ^ l.length := by
    intro l c
    induction l with
    | nil => show (0 : Fin p) * x + c = 0 + c * x ^ 0; grind
    | cons a l ih => rw [List.cons_append, pe_cons, pe_cons, ih, List.length_cons]; grind
  induction n with
  | zero => rfl
  | succ n ih => rw [← tab_snoc, key, ih, S, tab_len]
end
theorem short_inj {f g : List Nat} (hl : f.length = g.length) (h : short f = short g) : f = g := by
  obtain ⟨m, hm⟩ := short_split f
  obtain ⟨n, hn⟩ := short_split g
  have h1 := congrArg List.length hm
  have h2 := congrArg List.length hn
  simp at h1 h2
  rw [h] at h1
  rw [hm, hn, h, show m = n by omega]
end Go.Proofs.Ytlhcaangdenoaaa.Pl
