import Derived.Test.YtlhcaangdenoaaaUQA
namespace Go.Lf
end Go.Lf
namespace Go.Proofs.Ytlhcaangdenoaaa.Sh
end Go.Proofs.Ytlhcaangdenoaaa.Sh
namespace Go.Proofs.Ytlhcaangdenoaaa.Sp
end Go.Proofs.Ytlhcaangdenoaaa.Sp
namespace Go.Sx
end Go.Sx
set_option linter.unusedVariables false
set_option linter.unusedSimpArgs false
namespace Go.Proofs.Ytlhcaangdenoaaa.Pl
open Go.Sx Go.Lf Go.Proofs.Ytlhcaangdenoaaa.Sh Go.Proofs.Ytlhcaangdenoaaa.Sp
def cterm (p : Nat) (f g : List Nat) (a m : Nat) : Nat := if a ≤ m ∧ m - a < g.length then fmul p (f[a]?.getD 0) (g[m - a]?.getD 0) else 0
def cvP (p : Nat) (f g : List Nat) (i j m : Nat) : Nat := if i ≤ m ∧ m < i + j then fadd p (psum p (fun a => cterm p f g a m) i) (fmul p (f[i]?.getD 0) (g[m - i]?.getD 0)) else psum p (fun a => cterm p f g a m) i
def cv (p : Nat) (f g : List Nat) (m : Nat) : Nat := psum p (fun a => cterm p f g a m) f.length
theorem fadd_zero {p a : Nat} (h : a < p) : fadd p a 0 = a := by unfold fadd; rw [Nat.add_zero, Nat.mod_eq_of_lt h]
theorem cvP_row {p : Nat} (hp : 0 < p) (f g : List Nat) (i N : Nat) : tab N (cvP p f g i g.length) = tab N (cvP p f g (i + 1) 0) :=
  tab_ext fun m _ => by
    unfold cvP
    rw [if_neg (show ¬ (i + 1 ≤ m ∧ m < i + 1 + 0) by omega), psum]
    by_cases h : i ≤ m ∧ m < i + g.length
    · rw [if_pos h, cterm, if_pos (by omega)]
    · rw [if_neg h, cterm, if_neg (by omega), fadd_zero (psum_lt hp _ _)]
theorem cvP_zero (p : Nat) (f g : List Nat) (N : Nat) : List.replicate N 0 = tab N (cvP p f g 0 0) := by
  rw [tab_rep]; exact tab_ext fun m _ => by unfold cvP; rw [if_neg (by omega)]; rfl
theorem cvP_all (p : Nat) (f g : List Nat) (N : Nat) : tab N (cvP p f g f.length 0) = tab N (cv p f g) := tab_ext fun m _ => by unfold cvP; rw [if_neg (by omega)]; rfl
theorem cvP_lt {p : Nat} (hp : 0 < p) (f g : List Nat) (i j m : Nat) : cvP p f g i j m < p := by
  unfold cvP; split
  · exact fadd_lt hp _ _
  · exact psum_lt hp _ _
theorem cvP_step {p : Nat} {f g : List Nat} {i j x y : Nat} (hx : f[i]? = some x) (hy : g[j]? = some y) (N : Nat) : (tab N (cvP p f g i j)).set (i + j) (fadd p (cvP p f g i j (i + j)) (fmul p x y)) = tab N (cvP p f g i (j + 1)) := by
  rw [tab_set]
  refine tab_ext fun m _ => ?_
  by_cases h : m = i + j
  · subst h
    rw [if_pos rfl]
    unfold cvP
    rw [if_neg (by omega), if_pos (by omega), show i + j - i = j by omega, hx, hy]; rfl
  · rw [if_neg h]
    unfold cvP
    by_cases h2 : i ≤ m ∧ m < i + j
    · rw [if_pos h2, if_pos (by omega)]
    · rw [if_neg h2, if_neg (by omega)]
def mulP (p : Nat) (f g : List Nat) : List Nat := short (tab (f.length + g.length) (cv p f g))
theorem cv_lt {p : Nat} (hp : 0 < p) (f g : List Nat) (m : Nat) : cv p f g m < p := psum_lt hp _ _
theorem short_zeros (f : List Nat) (n : Nat) : short (f ++ List.replicate n 0) = short f := by
  unfold short
  rw [List.reverse_append, List.reverse_replicate]
  congr 1
  induction n with
  | zero => simp
  | succ n ih => rw [List.replicate_succ, List.cons_append, List.dropWhile_cons]; simp [ih]
theorem cv_high {p : Nat} (hp : 0 < p) {f g : List Nat} {m : Nat} (h : f.length + g.length ≤ m + 1) : cv p f g m = 0 := by
  unfold cv
  have : ∀ k, k ≤ f.length → psum p (fun a => cterm p f g a m) k = 0 := by
    intro k
    induction k with
    | zero => intro _; rfl
    | succ k ih => intro hk; rw [psum, ih (by omega)]; simp only [cterm]; rw [if_neg (by omega)]; simp [fadd]
  exact this _ (Nat.le_refl _)
theorem mulP_eq {p : Nat} (hp : 0 < p) (f g : List Nat) {N : Nat} (h : f.length + g.length ≤ N + 1) (hN : N ≤ f.length + g.length) : short (tab N (cv p f g)) = mulP p f g := by
  unfold mulP
  have : N = f.length + g.length ∨ N + 1 = f.length + g.length := by omega
  rcases this with rfl | e
  · rfl
  · rw [← e, ← tab_snoc, cv_high hp (by omega)]
    exact (short_zeros _ 1).symm
theorem mulP_lt {p : Nat} (hp : 0 < p) {f g : List Nat} {a : Nat} (h : a ∈ mulP p f g) : a < p := by
  obtain ⟨i, _, rfl⟩ := tab_mem (short_mem h); exact cv_lt hp _ _ _
theorem mulP_len {p : Nat} (hp : 0 < p) (f g : List Nat) : (mulP p f g).length ≤ f.length + g.length - 1 := by
  by_cases h : f.length + g.length = 0
  · have := short_len (tab (f.length + g.length) (cv p f g))
    rw [tab_len] at this; unfold mulP; omega
  · rw [← mulP_eq hp f g (N := f.length + g.length - 1) (by omega) (by omega)]
    have := short_len (tab (f.length + g.length - 1) (cv p f g))
    rw [tab_len] at this; exact this
theorem mulP_eval {p : Nat} [NeZero p] (hp : 0 < p) (f g : List Nat) (x : Fin p) : pv p (mulP p f g) x = pv p f x * pv p g x := by
  unfold mulP
  have hsh : ∀ l, pv p (short l) x = pv p l x := fun l => by
    obtain ⟨m, hm⟩ := short_split l
    conv => rhs; rw [hm]
    rw [pv_append, pv_zeros]; grind
  rw [hsh, pv_tab]
  have hc : ∀ m, cz p (cv p f g m) = S (fun a => cz p (cterm p f g a m)) f.length := fun m => S_psum _ _
  have swap : ∀ (h : Nat → Nat → Fin p) (a b : Nat), S (fun m => S (fun k => h k m) a) b = S (fun k => S (fun m => h k m) b) a := by
    intro h a b
    induction b with
    | zero => exact (S_zero a).symm
    | succ b ih =>
      have : (fun k => S (fun m => h k m) (b + 1)) = fun k => S (fun m => h k m) b + h k b := by funext k; rfl
      rw [S, ih, this, S_add]
  have e1 : S (fun m => cz p (cv p f g m) * x ^ m) (f.length + g.length) = S (fun m => S (fun a => cz p (cterm p f g a m) * x ^ m) f.length) (f.length + g.length) :=
    S_ext fun m _ => by
      rw [hc]
      have : (fun a => cz p (cterm p f g a m) * x ^ m) = fun a => x ^ m * cz p (cterm p f g a m) := by funext a; grind
      rw [this, S_mul]; grind
  rw [e1, swap, pv_S f]
  have e2 : ∀ a, a < f.length → S (fun m => cz p (cterm p f g a m) * x ^ m) (f.length + g.length) = (cz p (f[a]?.getD 0) * x ^ a) * pv p g x := by
    intro a ha
    have e3 : (fun m => cz p (cterm p f g a m) * x ^ m) = fun m => if a ≤ m ∧ m - a < g.length then (fun k => (cz p (f[a]?.getD 0) * x ^ a) * (cz p (g[k]?.getD 0) * x ^ k)) (m - a) else 0 := by
      funext m
      unfold cterm
      by_cases h : a ≤ m ∧ m - a < g.length
      · rw [if_pos h, if_pos h, cz_fmul]
        have : x ^ m = x ^ a * x ^ (m - a) := by rw [← Lean.Grind.Semiring.pow_add]; congr 1; omega
        rw [this]; grind
      · rw [if_neg h, if_neg h, cz_zero]; grind
    rw [e3, S_shift (fun k => (cz p (f[a]?.getD 0) * x ^ a) * (cz p (g[k]?.getD 0) * x ^ k)) a g.length _ (by omega), S_mul, pv_S g]
  rw [S_ext e2]
  have e4 : (fun i : Nat => cz p (f[i]?.getD 0) * x ^ i * pv p g x) = fun i => pv p g x * (cz p (f[i]?.getD 0) * x ^ i) := by funext i; grind
  rw [e4, S_mul]; grind
end Go.Proofs.Ytlhcaangdenoaaa.Pl
