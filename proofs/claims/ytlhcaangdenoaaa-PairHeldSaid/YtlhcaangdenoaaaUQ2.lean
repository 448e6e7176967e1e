import Derived.Test.YtlhcaangdenoaaaUQ1
import Derived.Test.YtlhcaangdenoaaaUFnPoly
import Derived.Test.YtlhcaangdenoaaaUFnJuntoref02
namespace Go.Lf
end Go.Lf
namespace Go.Proofs.Ytlhcaangdenoaaa.Sh
end Go.Proofs.Ytlhcaangdenoaaa.Sh
namespace Go.Proofs.Ytlhcaangdenoaaa.Sp
end Go.Proofs.Ytlhcaangdenoaaa.Sp
namespace Go.Sx
end Go.Sx
set_option linter.unusedVariables false
set_option linter.unusedSimpArgs false
namespace Go.Proofs.Ytlhcaangdenoaaa.Pl
open Go.Sx Go.Lf Go.Proofs.Ytlhcaangdenoaaa.Sh Go.Proofs.Ytlhcaangdenoaaa.Sp
section
variable {p : Nat} [NeZero p]
def cz (p : Nat) [NeZero p] (x : Nat) : Fin p := Fin.ofNat p x
theorem cz_mod (x : Nat) : cz p (x % p) = cz p x := by apply Fin.ext; simp [cz, Fin.ofNat]
theorem cz_mul (a b : Nat) : cz p (a * b) = cz p a * cz p b := by apply Fin.ext; simp [cz, Fin.ofNat, Fin.mul_def, Nat.mul_mod]
theorem cz_add (a b : Nat) : cz p (a + b) = cz p a + cz p b := by apply Fin.ext; simp [cz, Fin.ofNat, Fin.add_def, Nat.add_mod]
theorem cz_fmul (a b : Nat) : cz p (fmul p a b) = cz p a * cz p b := by unfold fmul; rw [cz_mod, cz_mul]
theorem cz_fadd (a b : Nat) : cz p (fadd p a b) = cz p a + cz p b := by unfold fadd; rw [cz_mod, cz_add]
theorem cz_zero : cz p 0 = 0 := rfl
theorem cz_one : cz p 1 = 1 := rfl
theorem cz_self : cz p p = 0 := by apply Fin.ext; simp [cz, Fin.ofNat]
theorem cz_pow (a e : Nat) : cz p (a ^ e) = cz p a ^ e := by
  induction e with
  | zero => simp [cz_one]
  | succ e ih => rw [Nat.pow_succ, cz_mul, ih]; grind
theorem cz_inj {a b : Nat} (ha : a < p) (hb : b < p) (h : cz p a = cz p b) : a = b := by
  have := congrArg Fin.val h
  simp [cz, Fin.ofNat, Nat.mod_eq_of_lt ha, Nat.mod_eq_of_lt hb] at this
  exact this
theorem cz_val (x : Fin p) : cz p x.val = x := by apply Fin.ext; simp [cz, Fin.ofNat, Nat.mod_eq_of_lt x.isLt]
theorem cz_fsub {a b : Nat} (hb : b ≤ p) : cz p (fsub p a b) = cz p a - cz p b := by
  have h : cz p (p - b) + cz p b = 0 := by rw [← cz_add, Nat.sub_add_cancel hb, cz_self]
  unfold fsub; rw [cz_mod, cz_add]; grind
theorem cz_fpow (a e : Nat) : cz p (fpow p a e) = cz p a ^ e := by unfold fpow; rw [cz_mod, cz_pow]
def pv (p : Nat) [NeZero p] (f : List Nat) (x : Fin p) : Fin p := f.foldr (fun c v => v * x + cz p c) 0
theorem pv_cons (c : Nat) (f : List Nat) (x : Fin p) : pv p (c :: f) x = pv p f x * x + cz p c := rfl
theorem pv_nil (x : Fin p) : pv p [] x = 0 := rfl
theorem pv_evalH (f : List Nat) (x : Nat) : cz p (evalH p f x) = pv p f (cz p x) := by
  induction f with
  | nil => rfl
  | cons c f ih => rw [pv_cons, ← ih, evalH, List.foldr_cons, cz_fadd, cz_fmul]; rfl
theorem pv_append (f g : List Nat) (x : Fin p) : pv p (f ++ g) x = pv p f x + pv p g x * x ^ f.length := by
  induction f with
  | nil => simp [pv_nil]; grind
  | cons c f ih => rw [List.cons_append, pv_cons, pv_cons, ih, List.length_cons]; grind
theorem pv_zeros (n : Nat) (x : Fin p) : pv p (List.replicate n 0) x = 0 := by
  induction n with
  | zero => rfl
  | succ n ih => rw [List.replicate_succ, pv_cons, ih, cz_zero]; grind
end
def psum (p : Nat) (g : Nat → Nat) : Nat → Nat
  | 0 => 0
  | m + 1 => fadd p (psum p g m) (g m)
theorem psum_lt {p : Nat} (hp : 0 < p) (g : Nat → Nat) (m : Nat) : psum p g m < p := by
  cases m with
  | zero => exact hp
  | succ m => exact fadd_lt hp _ _
theorem psum_ext {p : Nat} {g g' : Nat → Nat} {m : Nat} (h : ∀ i, i < m → g i = g' i) : psum p g m = psum p g' m := by
  induction m with
  | zero => rfl
  | succ m ih => rw [psum, psum, ih fun i hi => h i (by omega), h m (by omega)]
theorem psum_eval {p : Nat} (hp : 1 < p) (f : List Nat) (x : Nat) : psum p (fun i => fmul p (f[i]?.getD 0) (fpow p x i)) f.length = evalH p f x := by
  haveI : NeZero p := ⟨by omega⟩
  have key : ∀ m, m ≤ f.length → cz p (psum p (fun i => fmul p (f[i]?.getD 0) (fpow p x i)) m) = pv p (f.take m) (cz p x) := by
    intro m
    induction m with
    | zero => intro _; simp [psum, pv_nil, cz_zero]
    | succ m ih =>
      intro hm
      obtain ⟨c, hc⟩ := get_some (show m < f.length by omega)
      rw [psum, cz_fadd, ih (by omega), List.take_add_one, hc, pv_append, cz_fmul, cz_fpow]
      simp only [hc, Option.getD_some, Option.toList, pv_cons, pv_nil, List.length_take, Nat.min_eq_left (show m ≤ f.length by omega)]
      grind
  refine cz_inj (psum_lt (by omega) _ _) (evalH_lt (by omega) _ _) ?_
  rw [key _ (Nat.le_refl _), List.take_length, pv_evalH]
def short (f : List Nat) : List Nat := (f.reverse.dropWhile (· == 0)).reverse
theorem short_take (f : List Nat) (n : Nat) (h0 : ∀ j x, n ≤ j → f[j]? = some x → x = 0) (hn : n = 0 ∨ ∃ x, f[n - 1]? = some x ∧ x ≠ 0) (hlen : n ≤ f.length) : short f = f.take n := by
  have e : f = f.take n ++ List.replicate (f.length - n) 0 := by
    apply List.ext_getElem?
    intro i
    rcases Nat.lt_or_ge i n with h | h
    · rw [List.getElem?_append_left (by simp; omega), List.getElem?_take_of_lt h]
    · rw [List.getElem?_append_right (by simp; omega), List.getElem?_replicate]
      simp only [List.length_take, Nat.min_eq_left hlen]
      rcases Nat.lt_or_ge i f.length with h' | h'
      · rw [if_pos (by omega), List.getElem?_eq_getElem h', h0 i _ h (List.getElem?_eq_getElem h')]
      · rw [if_neg (by omega), List.getElem?_eq_none h']
  have hrep : ∀ (m : Nat) (l : List Nat), ((List.replicate m 0) ++ l).dropWhile (· == 0) = l.dropWhile (· == 0) := by
    intro m l
    induction m with
    | zero => simp
    | succ m ih => rw [List.replicate_succ, List.cons_append, List.dropWhile_cons]; simp [ih]
  unfold short
  conv => lhs; rw [e]
  rw [List.reverse_append, List.reverse_replicate, hrep]
  rcases hn with rfl | ⟨x, hx, hx0⟩
  · simp
  · by_cases hz : n = 0
    · subst hz; simp
    obtain ⟨hi, rfl⟩ := List.getElem?_eq_some_iff.1 hx
    have e2 : f.take n = f.take (n - 1) ++ [f[n - 1]] := by
      conv => lhs; rw [show n = (n - 1) + 1 by omega]
      rw [List.take_add_one, List.getElem?_eq_getElem hi]; rfl
    rw [e2, List.reverse_append, List.reverse_singleton, List.singleton_append, List.dropWhile_cons]
    have hb : (f[n - 1] == 0) = false := by simpa using hx0
    simp [hb]
theorem short_loop {f : List Nat} (hf : f.length < 4611686018427387904) {step : Int → (Int → Prop) → Prop}
    (h0 : ∀ (n x : Nat) (next : Int → Prop), n < f.length → f[n]? = some x → x = 0 → next (n : Int) → step ((n + 1 : Nat) : Int) next)
    (h1 : ∀ (n x : Nat) (next : Int → Prop), n < f.length → f[n]? = some x → x ≠ 0 → short f = f.take (n + 1) → step ((n + 1 : Nat) : Int) next)
    (h2 : ∀ next : Int → Prop, short f = f.take 0 → step 0 next) : LoopQ ((f.length : Nat) : Int) step := by
  refine LoopQ.down (fun t => ∃ n : Nat, t = n ∧ n ≤ f.length ∧ ∀ j x, n ≤ j → f[j]? = some x → x = 0) (fun t => t.toNat) ⟨_, rfl, Nat.le_refl _, fun j x hj hx => by have := lt_get hx; omega⟩ ?_
  rintro _ next ⟨n, rfl, hn, hI⟩ hnx
  cases n with
  | zero => exact h2 next (short_take f 0 hI (.inl rfl) (Nat.zero_le _))
  | succ n =>
    obtain ⟨x, hx⟩ := get_some (show n < f.length by omega)
    by_cases hx0 : x = 0
    · refine h0 n x next (by omega) hx hx0 (hnx _ (by simp) ⟨n, rfl, by omega, fun j y hj hy => ?_⟩)
      rcases Nat.lt_or_ge n j with h' | h'
      · exact hI j y h' hy
      · obtain rfl : j = n := by omega
        rw [hx] at hy; cases hy; exact hx0
    · exact h1 n x next (by omega) hx hx0 (short_take f (n + 1) hI (.inr ⟨x, hx, hx0⟩) hn)
theorem pred_w {n : Nat} (h : n < 4611686018427387904) : IntKind.i64.wrap (((n + 1 : Nat) : Int) - 1) = n := by rw [wi64 (by omega) (by omega)]; omega
theorem short_len (f : List Nat) : (short f).length ≤ f.length := by
  unfold short
  rw [List.length_reverse]
  have := (List.dropWhile_sublist (· == 0) (l := f.reverse)).length_le
  simpa using this
theorem poly_Short_c {f : List Nat} (hf : f.length < 4611686018427387904) {K : List Nat → Prop} (k : K (short f)) : poly_Short.C f K := by
  apply poly_Short.q
  refine short_loop hf ?_ ?_ ?_
  · intro n x next hn hx h0 hnx
    subst h0
    rw [pred_w (by omega)]
    exact ctd (by omega) ⟨by omega, 0, hx, ct rfl hnx⟩
  · intro n x next hn hx h0 hs
    rw [pred_w (by omega)]
    refine ctd (by omega) ⟨by omega, x, hx, cf (beq_f (by omega)) ⟨by omega, by omega, slices_Clone_c ?_⟩⟩
    rw [toNat_c, ← hs]; exact k
  · intro next hs
    refine cfd (by omega) ⟨by omega, by omega, slices_Clone_c ?_⟩
    rw [show Int.toNat 0 = 0 from rfl, ← hs]; exact k
theorem juntoref02_Trim_c {f : List Nat} (hf : f.length ≤ 17592186044416) {K : List Nat → Prop} (k : K (short f)) : juntoref02_Trim.C f K := by
  apply juntoref02_Trim.q
  have ha : ∀ n, AppOk 8 ([] ++ List.take n f).length := fun n => by constructor <;> simp <;> omega
  refine short_loop (by omega) ?_ ?_ ?_
  · intro n x next hn hx h0 hnx
    subst h0
    rw [pred_w (by omega)]
    exact ctd (by omega) ⟨by omega, 0, hx, ct rfl hnx⟩
  · intro n x next hn hx h0 hs
    rw [pred_w (by omega)]
    refine ctd (by omega) ⟨by omega, x, hx, cf (beq_f (by omega)) ⟨by omega, by omega, ha _, ?_⟩⟩
    rw [toNat_c, ← hs]; exact k
  · intro next hs
    refine cfd (by omega) ⟨by omega, by omega, ha _, ?_⟩
    rw [show Int.toNat 0 = 0 from rfl, ← hs]; exact k
theorem short_mem {f : List Nat} {a : Nat} (h : a ∈ short f) : a ∈ f := by
  unfold short at h
  rw [List.mem_reverse] at h
  exact List.mem_reverse.1 ((List.dropWhile_sublist (· == 0)).mem h)
theorem short_split (f : List Nat) : ∃ m, f = short f ++ List.replicate m 0 := by
  have h : ∀ l : List Nat, ∃ m, l = List.replicate m 0 ++ l.dropWhile (· == 0) := by
    intro l
    induction l with
    | nil => exact ⟨0, rfl⟩
    | cons a l ih =>
      by_cases ha : a = 0
      · obtain ⟨m, hm⟩ := ih
        refine ⟨m + 1, ?_⟩
        subst ha
        rw [List.dropWhile_cons, List.replicate_succ]
        simp only [beq_self_eq_true, if_true, List.cons_append]
        rw [← hm]
      · refine ⟨0, ?_⟩
        rw [List.dropWhile_cons]
        have : (a == 0) = false := by simpa using ha
        simp [this]
  obtain ⟨m, hm⟩ := h f.reverse
  refine ⟨m, ?_⟩
  have := congrArg List.reverse hm
  rw [List.reverse_reverse, List.reverse_append, List.reverse_replicate] at this
  exact this
end Go.Proofs.Ytlhcaangdenoaaa.Pl
