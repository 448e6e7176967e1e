import Derived.Test.YtlhcaangdenoaaaTQ2
import Derived.Test.YtlhcaangdenoaaaTQ6
namespace Go.Lf
end Go.Lf
namespace Go.Proofs.Ytlhcaangdenoaaa.Sh
end Go.Proofs.Ytlhcaangdenoaaa.Sh
namespace Go.Proofs.Ytlhcaangdenoaaa.Sp
end Go.Proofs.Ytlhcaangdenoaaa.Sp
namespace Go.Sx
end Go.Sx
set_option linter.unusedVariables false
set_option linter.unusedSimpArgs false
namespace Go.Proofs.Ytlhcaangdenoaaa.Pl
open Go.Sx Go.Lf Go.Proofs.Ytlhcaangdenoaaa.Sh Go.Proofs.Ytlhcaangdenoaaa.Sp
theorem isP.dvd {p d : Nat} (hp : isP p) (hd : d ∣ p) : d = 1 ∨ d = p := by
  obtain ⟨e, he⟩ := hd
  have hp3 := hp.1
  have d0 : d ≠ 0 := by rintro rfl; omega
  have e0 : e ≠ 0 := by rintro rfl; omega
  by_cases d1 : d = 1
  · exact .inl d1
  by_cases e1 : e = 1
  · exact .inr (by rw [he, e1, Nat.mul_one])
  exfalso
  rcases Nat.le_total d e with h | h
  · exact hp.2.2 d (by omega) (by rw [he]; exact Nat.mul_le_mul_left d h) (by rw [he]; exact Nat.mul_mod_right d e)
  · exact hp.2.2 e (by omega) (by rw [he]; exact Nat.mul_le_mul_right e h) (by rw [he]; exact Nat.mul_mod_left d e)
theorem isP.cop {p a : Nat} (hp : isP p) (ha : ¬ p ∣ a) : Nat.Coprime p a := by
  have hg : Nat.gcd p a ∣ p := Nat.gcd_dvd_left p a
  rcases hp.dvd hg with h | h
  · exact h
  · exact (ha (by rw [← h]; exact Nat.gcd_dvd_right p a)).elim
theorem isP.mul {p a b : Nat} (hp : isP p) (h : p ∣ a * b) : p ∣ a ∨ p ∣ b := by
  by_cases ha : p ∣ a
  · exact .inl ha
  · exact .inr ((hp.cop ha).dvd_of_dvd_mul_left h)
section
variable {p : Nat} [NeZero p]
theorem cz_eq_zero {a : Nat} : cz p a = 0 ↔ p ∣ a := by
  constructor
  · intro h
    have := congrArg Fin.val h
    simp [cz, Fin.ofNat] at this
    exact Nat.dvd_of_mod_eq_zero this
  · intro h
    apply Fin.ext
    simp [cz, Fin.ofNat, Nat.mod_eq_zero_of_dvd h]
theorem fin_mul (hp : isP p) {a b : Fin p} (h : a * b = 0) : a = 0 ∨ b = 0 := by
  rw [← cz_val a, ← cz_val b, ← cz_mul, cz_eq_zero] at h
  rcases hp.mul h with h | h
  · left; rw [← cz_val a]; exact cz_eq_zero.2 h
  · right; rw [← cz_val b]; exact cz_eq_zero.2 h
theorem nodup_map {α β : Type} {f : α → β} {l : List α} (h : l.Nodup) (hf : ∀ a ∈ l, ∀ b ∈ l, f a = f b → a = b) : (l.map f).Nodup := by
  induction l with
  | nil => simp
  | cons a l ih =>
    rw [List.map_cons, List.nodup_cons]
    rw [List.nodup_cons] at h
    refine ⟨fun hm => ?_, ih h.2 fun x hx y hy => hf x (List.mem_cons_of_mem _ hx) y (List.mem_cons_of_mem _ hy)⟩
    obtain ⟨b, hb, he⟩ := List.mem_map.1 hm
    have := hf b (List.mem_cons_of_mem _ hb) a (List.mem_cons_self ..) he
    subst this
    exact h.1 hb
def pe (l : List (Fin p)) (x : Fin p) : Fin p := l.foldr (fun c v => v * x + c) 0
theorem pe_cons (c : Fin p) (l : List (Fin p)) (x : Fin p) : pe (c :: l) x = pe l x * x + c := rfl
def sdiv : List (Fin p) → Fin p → List (Fin p)
  | [], _ => []
  | [_], _ => []
  | _ :: d :: h, r => pe (d :: h) r :: sdiv (d :: h) r
theorem sdiv_len (l : List (Fin p)) (r : Fin p) : (sdiv l r).length = l.length - 1 := by
  induction l with
  | nil => rfl
  | cons c l ih =>
    cases l with
    | nil => rfl
    | cons d h => rw [sdiv, List.length_cons, ih]; simp
theorem sdiv_eval (l : List (Fin p)) (r x : Fin p) : pe l x = (x - r) * pe (sdiv l r) x + pe l r := by
  induction l with
  | nil => show (0 : Fin p) = (x - r) * 0 + 0; grind
  | cons c l ih =>
    cases l with
    | nil => show (0 : Fin p) * x + c = (x - r) * 0 + (0 * r + c); grind
    | cons d h => rw [sdiv, pe_cons c (d :: h) x, pe_cons _ (sdiv (d :: h) r) x, pe_cons c (d :: h) r, ih]; grind
theorem sdiv_zero (l : List (Fin p)) (r : Fin p) (h : ∀ c ∈ sdiv l r, c = 0) : ∀ c ∈ l.tail, c = 0 := by
  induction l with
  | nil => intro c hc; cases hc
  | cons a l ih =>
    cases l with
    | nil => intro c hc; cases hc
    | cons d g =>
      intro c hc
      rw [List.tail_cons] at hc
      rw [sdiv] at h
      have ht := ih fun c hc => h c (List.mem_cons_of_mem _ hc)
      rw [List.tail_cons] at ht
      have h0 := h _ (List.mem_cons_self ..)
      have hz : ∀ l : List (Fin p), (∀ c ∈ l, c = 0) → pe l r = 0 := by
        intro l hl
        induction l with
        | nil => rfl
        | cons a l ih2 => rw [pe_cons, ih2 fun c hc => hl c (List.mem_cons_of_mem _ hc), hl a (List.mem_cons_self ..)]; grind
      rw [pe_cons, hz g ht] at h0
      rcases List.mem_cons.1 hc with rfl | hc
      · grind
      · exact ht c hc
theorem pe_zero {l : List (Fin p)} (h : ∀ c ∈ l, c = 0) (x : Fin p) : pe l x = 0 := by
  induction l with
  | nil => rfl
  | cons a l ih => rw [pe_cons, ih fun c hc => h c (List.mem_cons_of_mem _ hc), h a (List.mem_cons_self ..)]; grind
theorem roots_zero (hp : isP p) : ∀ (xs l : List (Fin p)), xs.Nodup → l.length ≤ xs.length → (∀ x ∈ xs, pe l x = 0) → ∀ c ∈ l, c = 0
  | [], l, _, hl, _ => by
    have : l = [] := List.eq_nil_of_length_eq_zero (by simpa using hl)
    subst this; intro c hc; cases hc
  | r :: xs, l, hn, hl, h => by
    rw [List.nodup_cons] at hn
    have h1 : ∀ c ∈ sdiv l r, c = 0 := roots_zero hp xs (sdiv l r) hn.2 (by rw [sdiv_len]; simp at hl; omega) fun x hx => by
      have hx0 := h x (List.mem_cons_of_mem _ hx)
      rw [sdiv_eval l r x, h r (List.mem_cons_self ..)] at hx0
      have : (x - r) * pe (sdiv l r) x = 0 := by grind
      rcases fin_mul hp this with h2 | h2
      · have : x = r := by grind
        subst this; exact (hn.1 hx).elim
      · exact h2
    have h2 := sdiv_zero l r h1
    have h3 := h r (List.mem_cons_self ..)
    cases l with
    | nil => intro c hc; cases hc
    | cons a l =>
      rw [List.tail_cons] at h2
      rw [pe_cons, pe_zero h2] at h3
      intro c hc
      rcases List.mem_cons.1 hc with rfl | hc
      · grind
      · exact h2 c hc
def S (g : Nat → Fin p) : Nat → Fin p
  | 0 => 0
  | m + 1 => S g m + g m
theorem S_ext {g g' : Nat → Fin p} {m : Nat} (h : ∀ i, i < m → g i = g' i) : S g m = S g' m := by
  induction m with
  | zero => rfl
  | succ m ih => rw [S, S, ih fun i hi => h i (by omega), h m (by omega)]
theorem S_add (g h : Nat → Fin p) (m : Nat) : S (fun i => g i + h i) m = S g m + S h m := by
  induction m with
  | zero => show (0 : Fin p) = 0 + 0; grind
  | succ m ih => rw [S, S, S, ih]; grind
theorem S_mul (c : Fin p) (g : Nat → Fin p) (m : Nat) : S (fun i => c * g i) m = c * S g m := by
  induction m with
  | zero => show (0 : Fin p) = c * 0; grind
  | succ m ih => rw [S, S, ih]; grind
theorem pv_tab (g : Nat → Nat) (x : Fin p) (n : Nat) : pv p (tab n g) x = S (fun i => cz p (g i) * x ^ i) n := by
  induction n with
  | zero => rfl
  | succ n ih =>
    rw [← tab_snoc, pv_append, ih, S, pv_cons, pv_nil, tab_len]; grind
theorem pv_S (f : List Nat) (x : Fin p) : pv p f x = S (fun i => cz p (f[i]?.getD 0) * x ^ i) f.length := by
  rw [← pv_tab]
  congr 1
  exact tab_of rfl fun i y hy => by rw [hy]; rfl
end
end Go.Proofs.Ytlhcaangdenoaaa.Pl
