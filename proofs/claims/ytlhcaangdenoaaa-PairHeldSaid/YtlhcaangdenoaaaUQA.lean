import Derived.Test.YtlhcaangdenoaaaUQ2
import Derived.Test.YtlhcaangdenoaaaUQ6
namespace Go.Lf
end Go.Lf
namespace Go.Proofs.Ytlhcaangdenoaaa.Sh
end Go.Proofs.Ytlhcaangdenoaaa.Sh
namespace Go.Proofs.Ytlhcaangdenoaaa.Sp
end Go.Proofs.Ytlhcaangdenoaaa.Sp
namespace Go.Sx
end Go.Sx
set_option linter.unusedVariables false
set_option linter.unusedSimpArgs false
namespace Go.Proofs.Ytlhcaangdenoaaa.Pl
open Go.Sx Go.Lf Go.Proofs.Ytlhcaangdenoaaa.Sh Go.Proofs.Ytlhcaangdenoaaa.Sp
theorem isP.dvd {p d : Nat} (hp : isP p) (hd : d ∣ p) : d = 1 ∨ d = p := by
  obtain ⟨e, he⟩ := hd
  have hp3 := hp.1
  have d0 : d ≠ 0 := by rintro rfl; omega
  have e0 : e ≠ 0 := by rintro rfl; omega
  by_cases d1 : d = 1
  · exact .inl d1
  by_cases e1 : e = 1
  · exact .inr (by rw [he, e1, Nat.mul_one])
  exfalso
  rcases Nat.le_total d e with h | h
  · exact hp.2.2 d (by omega) (by rw [he]; exact Nat.mul_le_mul_left d h) (by rw [he]; exact Nat.mul_mod_right d e)
  · exact hp.2.2 e (by omega) (by rw [he]; exact Nat.mul_le_mul_right e h) (by rw [he]; exact Nat.mul_mod_left d e)
theorem isP.cop {p a : Nat} (hp : isP p) (ha : ¬ p ∣ a) : Nat.Coprime p a := by
  have hg : Nat.gcd p a ∣ p := Nat.gcd_dvd_left p a
  rcases hp.dvd hg with h | h
  · exact h
  · exact (ha (by rw [← h]; exact Nat.gcd_dvd_right p a)).elim
theorem isP.mul {p a b : Nat} (hp : isP p) (h : p ∣ a * b) : p ∣ a ∨ p ∣ b := by
  by_cases ha : p ∣ a
  · exact .inl ha
  · exact .inr ((hp.cop ha).dvd_of_dvd_mul_left h)
section
variable {p : Nat} [NeZero p]
theorem cz_eq_zero {a : Nat} : cz p a = 0 ↔ p ∣ a := by
  constructor
  · intro h
    have := congrArg Fin.val h
    simp [cz, Fin.ofNat] at this
    exact Nat.dvd_of_mod_eq_zero this
  · intro h
    apply Fin.ext
    simp [cz, Fin.ofNat, Nat.mod_eq_zero_of_dvd h]
theorem fin_mul (hp : isP p) {a b : Fin p} (h : a * b = 0) : a = 0 ∨ b = 0 := by
  rw [← cz_val a, ← cz_val b, ← cz_mul, cz_eq_zero] at h
  rcases hp.mul h with h | h
  · left; rw [← cz_val a]; exact cz_eq_zero.2 h
  · right; rw [← cz_val b]; exact cz_eq_zero.2 h
theorem fin_cancel (hp : isP p) {a b c : Fin p} (ha : a ≠ 0) (h : a * b = a * c) : b = c := by
  have : a * (b - c) = 0 := by grind
  rcases fin_mul hp this with h' | h'
  · exact (ha h').elim
  · grind
theorem bez : ∀ (a b : Nat), ∃ u v : Int, u * a + v * b = Nat.gcd a b := by
  intro a b
  induction a, b using Nat.gcd.induction with
  | H0 b => exact ⟨0, 1, by simp⟩
  | H1 a b ha ih =>
    obtain ⟨u, v, h⟩ := ih
    refine ⟨v - u * (b / a : Nat), u, ?_⟩
    rw [Nat.gcd_rec a b, ← h]
    have e : ((b % a : Nat) : Int) = (b : Int) - (a : Int) * ((b / a : Nat) : Int) := by
      have := Nat.div_add_mod b a
      have h2 : ((a * (b / a) + b % a : Nat) : Int) = (b : Int) := by rw [this]
      rw [Int.natCast_add, Int.natCast_mul] at h2
      omega
    rw [e]
    grind
theorem fin_inv (hp : isP p) {a : Fin p} (ha : a ≠ 0) : ∃ b, a * b = 1 := by
  have hc : Nat.gcd a.val p = 1 := by
    have : Nat.Coprime p a.val := hp.cop fun h => ha (by rw [← cz_val a]; exact cz_eq_zero.2 h)
    exact this.symm
  obtain ⟨u, v, h⟩ := bez a.val p
  rw [hc] at h
  have hp3 := hp.1
  refine ⟨cz p (u % p).toNat, ?_⟩
  have hu : ((u % p).toNat : Int) = u % p := Int.toNat_of_nonneg (Int.emod_nonneg _ (by omega))
  rw [← cz_val a, ← cz_mul, ← cz_one]
  apply Fin.ext
  have e : ((a.val * (u % p).toNat : Nat) : Int) % (p : Int) = 1 % (p : Int) := by
    rw [Int.natCast_mul, hu, Int.mul_emod, Int.emod_emod_of_dvd _ (Int.dvd_refl _), ← Int.mul_emod]
    have : (a.val : Int) * u = 1 - v * p := by have h1 : ((1 : Nat) : Int) = 1 := rfl; rw [h1] at h; grind
    rw [this, Int.sub_emod, Int.mul_emod_left]; simp
  have e2 : (a.val * (u % p).toNat) % p = 1 % p := by
    have h1 : ((a.val * (u % p).toNat % p : Nat) : Int) = ((1 % p : Nat) : Int) := by rw [Int.natCast_emod, e]; rfl
    exact Int.ofNat.inj h1
  simpa [cz, Fin.ofNat] using e2
def lprod (l : List (Fin p)) : Fin p := l.foldr (· * ·) 1
theorem lprod_perm {l l' : List (Fin p)} (h : l.Perm l') : lprod l = lprod l' := by
  induction h with
  | nil => rfl
  | cons x _ ih => simp only [lprod, List.foldr_cons] at *; rw [ih]
  | swap x y l => simp only [lprod, List.foldr_cons]; grind
  | trans _ _ h1 h2 => rw [h1, h2]
theorem lprod_map (a : Fin p) (l : List (Fin p)) : lprod (l.map (a * ·)) = a ^ l.length * lprod l := by
  induction l with
  | nil => simp [lprod]; grind
  | cons x l ih => simp only [lprod, List.map_cons, List.foldr_cons, List.length_cons] at *; rw [ih]; grind
theorem lprod_ne (hp : isP p) {l : List (Fin p)} (h : ∀ x ∈ l, x ≠ 0) : lprod l ≠ 0 := by
  induction l with
  | nil =>
    intro h1
    have := congrArg Fin.val h1
    have hp3 := hp.1
    have h2 : (1 : Fin p).val = 1 % p := rfl
    simp only [lprod, List.foldr_nil] at this
    rw [h2, Nat.mod_eq_of_lt (by omega)] at this
    simp at this
  | cons x l ih =>
    intro h1
    simp only [lprod, List.foldr_cons] at h1
    rcases fin_mul hp h1 with h2 | h2
    · exact h x (List.mem_cons_self ..) h2
    · exact ih (fun y hy => h y (List.mem_cons_of_mem _ hy)) h2
def units (p : Nat) [NeZero p] : List (Fin p) := (List.range (p - 1)).map fun i => cz p (i + 1)
theorem units_mem (hp : isP p) (x : Fin p) : x ∈ units p ↔ x ≠ 0 := by
  have hp3 := hp.1
  unfold units
  rw [List.mem_map]
  constructor
  · rintro ⟨i, hi, rfl⟩ h
    have := List.mem_range.1 hi
    have h2 := cz_inj (p := p) (a := i + 1) (b := 0) (by omega) (by omega) (by rw [h, cz_zero])
    omega
  · intro h
    have hv : x.val ≠ 0 := fun h0 => h (by apply Fin.ext; rw [h0]; rfl)
    refine ⟨x.val - 1, List.mem_range.2 (by have := x.isLt; omega), ?_⟩
    rw [show x.val - 1 + 1 = x.val by omega, cz_val]
theorem nodup_map {α β : Type} {f : α → β} {l : List α} (h : l.Nodup) (hf : ∀ a ∈ l, ∀ b ∈ l, f a = f b → a = b) : (l.map f).Nodup := by
  induction l with
  | nil => simp
  | cons a l ih =>
    rw [List.map_cons, List.nodup_cons]
    rw [List.nodup_cons] at h
    refine ⟨fun hm => ?_, ih h.2 fun x hx y hy => hf x (List.mem_cons_of_mem _ hx) y (List.mem_cons_of_mem _ hy)⟩
    obtain ⟨b, hb, he⟩ := List.mem_map.1 hm
    have := hf b (List.mem_cons_of_mem _ hb) a (List.mem_cons_self ..) he
    subst this
    exact h.1 hb
theorem units_nodup (hp : isP p) : (units p).Nodup := by
  have hp3 := hp.1
  refine nodup_map List.nodup_range fun a ha b hb h => ?_
  have h1 := List.mem_range.1 ha
  have h2 := List.mem_range.1 hb
  have := cz_inj (p := p) (a := a + 1) (b := b + 1) (by omega) (by omega) h
  omega
theorem fermat (hp : isP p) {a : Fin p} (ha : a ≠ 0) : a ^ (p - 1) = 1 := by
  have hperm : ((units p).map (a * ·)).Perm (units p) := by
    rw [List.perm_ext_iff_of_nodup (nodup_map (units_nodup hp) fun x _ y _ h => fin_cancel hp ha h) (units_nodup hp)]
    intro x
    rw [units_mem hp]
    constructor
    · intro h
      obtain ⟨y, hy, rfl⟩ := List.mem_map.1 h
      intro h0
      rcases fin_mul hp h0 with h1 | h1
      · exact ha h1
      · exact (units_mem hp y).1 hy h1
    · intro h
      obtain ⟨b, hb⟩ := fin_inv hp ha
      refine List.mem_map.2 ⟨b * x, (units_mem hp _).2 fun h0 => ?_, by grind⟩
      have : x = a * (b * x) := by grind
      rw [h0] at this
      exact h (by rw [this]; grind)
  have h1 := lprod_perm hperm
  rw [lprod_map] at h1
  have hl : (units p).length = p - 1 := by simp [units]
  rw [hl] at h1
  have hne := lprod_ne hp (l := units p) fun x hx => (units_mem hp x).1 hx
  refine fin_cancel hp hne ?_
  grind
theorem fin_finv (hp : isP p) {a : Nat} (ha : cz p a ≠ 0) : cz p a * cz p (finv p a) = 1 := by
  have hp3 := hp.1
  unfold finv
  rw [cz_fpow, ← fermat hp ha, show p - 1 = (p - 2) + 1 by omega, Lean.Grind.Semiring.pow_succ]
  grind
def pe (l : List (Fin p)) (x : Fin p) : Fin p := l.foldr (fun c v => v * x + c) 0
theorem pe_cons (c : Fin p) (l : List (Fin p)) (x : Fin p) : pe (c :: l) x = pe l x * x + c := rfl
def sdiv : List (Fin p) → Fin p → List (Fin p)
  | [], _ => []
  | [_], _ => []
  | _ :: d :: h, r => pe (d :: h) r :: sdiv (d :: h) r
theorem sdiv_len (l : List (Fin p)) (r : Fin p) : (sdiv l r).length = l.length - 1 := by
  induction l with
  | nil => rfl
  | cons c l ih =>
    cases l with
    | nil => rfl
    | cons d h => rw [sdiv, List.length_cons, ih]; simp
theorem sdiv_eval (l : List (Fin p)) (r x : Fin p) : pe l x = (x - r) * pe (sdiv l r) x + pe l r := by
  induction l with
  | nil => show (0 : Fin p) = (x - r) * 0 + 0; grind
  | cons c l ih =>
    cases l with
    | nil => show (0 : Fin p) * x + c = (x - r) * 0 + (0 * r + c); grind
    | cons d h => rw [sdiv, pe_cons c (d :: h) x, pe_cons _ (sdiv (d :: h) r) x, pe_cons c (d :: h) r, ih]; grind
theorem sdiv_zero (l : List (Fin p)) (r : Fin p) (h : ∀ c ∈ sdiv l r, c = 0) : ∀ c ∈ l.tail, c = 0 := by
  induction l with
  | nil => intro c hc; cases hc
  | cons a l ih =>
    cases l with
    | nil => intro c hc; cases hc
    | cons d g =>
      intro c hc
      rw [List.tail_cons] at hc
      rw [sdiv] at h
      have ht := ih fun c hc => h c (List.mem_cons_of_mem _ hc)
      rw [List.tail_cons] at ht
      have h0 := h _ (List.mem_cons_self ..)
      have hz : ∀ l : List (Fin p), (∀ c ∈ l, c = 0) → pe l r = 0 := by
        intro l hl
        induction l with
        | nil => rfl
        | cons a l ih2 => rw [pe_cons, ih2 fun c hc => hl c (List.mem_cons_of_mem _ hc), hl a (List.mem_cons_self ..)]; grind
      rw [pe_cons, hz g ht] at h0
      rcases List.mem_cons.1 hc with rfl | hc
      · grind
      · exact ht c hc
theorem pe_zero {l : List (Fin p)} (h : ∀ c ∈ l, c = 0) (x : Fin p) : pe l x = 0 := by
  induction l with
  | nil => rfl
  | cons a l ih => rw [pe_cons, ih fun c hc => h c (List.mem_cons_of_mem _ hc), h a (List.mem_cons_self ..)]; grind
theorem roots_zero (hp : isP p) : ∀ (xs l : List (Fin p)), xs.Nodup → l.length ≤ xs.length → (∀ x ∈ xs, pe l x = 0) → ∀ c ∈ l, c = 0
  | [], l, _, hl, _ => by
    have : l = [] := List.eq_nil_of_length_eq_zero (by simpa using hl)
    subst this; intro c hc; cases hc
  | r :: xs, l, hn, hl, h => by
    rw [List.nodup_cons] at hn
    have h1 : ∀ c ∈ sdiv l r, c = 0 := roots_zero hp xs (sdiv l r) hn.2 (by rw [sdiv_len]; simp at hl; omega) fun x hx => by
      have hx0 := h x (List.mem_cons_of_mem _ hx)
      rw [sdiv_eval l r x, h r (List.mem_cons_self ..)] at hx0
      have : (x - r) * pe (sdiv l r) x = 0 := by grind
      rcases fin_mul hp this with h2 | h2
      · have : x = r := by grind
        subst this; exact (hn.1 hx).elim
      · exact h2
    have h2 := sdiv_zero l r h1
    have h3 := h r (List.mem_cons_self ..)
    cases l with
    | nil => intro c hc; cases hc
    | cons a l =>
      rw [List.tail_cons] at h2
      rw [pe_cons, pe_zero h2] at h3
      intro c hc
      rcases List.mem_cons.1 hc with rfl | hc
      · grind
      · exact h2 c hc
def S (g : Nat → Fin p) : Nat → Fin p
  | 0 => 0
  | m + 1 => S g m + g m
theorem S_ext {g g' : Nat → Fin p} {m : Nat} (h : ∀ i, i < m → g i = g' i) : S g m = S g' m := by
  induction m with
  | zero => rfl
  | succ m ih => rw [S, S, ih fun i hi => h i (by omega), h m (by omega)]
theorem S_add (g h : Nat → Fin p) (m : Nat) : S (fun i => g i + h i) m = S g m + S h m := by
  induction m with
  | zero => show (0 : Fin p) = 0 + 0; grind
  | succ m ih => rw [S, S, S, ih]; grind
theorem S_mul (c : Fin p) (g : Nat → Fin p) (m : Nat) : S (fun i => c * g i) m = c * S g m := by
  induction m with
  | zero => show (0 : Fin p) = c * 0; grind
  | succ m ih => rw [S, S, ih]; grind
theorem S_zero (m : Nat) : S (fun _ => (0 : Fin p)) m = 0 := by
  induction m with
  | zero => rfl
  | succ m ih => rw [S, ih]; grind
theorem S_psum (g : Nat → Nat) (m : Nat) : cz p (psum p g m) = S (fun i => cz p (g i)) m := by
  induction m with
  | zero => rfl
  | succ m ih => rw [psum, cz_fadd, ih]; rfl
theorem S_shift (g : Nat → Fin p) (a n N : Nat) (hN : a + n ≤ N) : S (fun m => if a ≤ m ∧ m - a < n then g (m - a) else 0) N = S g n := by
  induction N with
  | zero =>
    obtain rfl : n = 0 := by omega
    rfl
  | succ N ih =>
    by_cases h : a + n ≤ N
    · rw [S, ih h, if_neg (by omega)]; grind
    · have e : N + 1 = a + n := by omega
      rw [e]
      cases n with
      | zero =>
        have hz : ∀ m, S (fun m => if a ≤ m ∧ m - a < 0 then g (m - a) else 0) m = 0 := fun m => by
          have : (fun m => if a ≤ m ∧ m - a < 0 then g (m - a) else 0) = fun _ => (0 : Fin p) := by funext m; rw [if_neg (by omega)]
          rw [this, S_zero]
        exact hz _
      | succ n =>
        clear ih h hN e
        have key : ∀ k, k ≤ n + 1 → S (fun m => if a ≤ m ∧ m - a < n + 1 then g (m - a) else 0) (a + k) = S g k := by
          intro k
          induction k with
          | zero =>
            intro _
            have : ∀ m, m ≤ a → S (fun m => if a ≤ m ∧ m - a < n + 1 then g (m - a) else 0) m = 0 := by
              intro m
              induction m with
              | zero => intro _; rfl
              | succ m ih => intro hm; rw [S, ih (by omega), if_neg (by omega)]; grind
            exact this a (Nat.le_refl _)
          | succ k ih =>
            intro hk
            rw [← Nat.add_assoc, S, ih (by omega), if_pos (by omega), S, show a + k - a = k by omega]
        exact key (n + 1) (Nat.le_refl _)
theorem pv_tab (g : Nat → Nat) (x : Fin p) (n : Nat) : pv p (tab n g) x = S (fun i => cz p (g i) * x ^ i) n := by
  induction n with
  | zero => rfl
  | succ n ih =>
    rw [← tab_snoc, pv_append, ih, S, pv_cons, pv_nil, tab_len]; grind
theorem pv_S (f : List Nat) (x : Fin p) : pv p f x = S (fun i => cz p (f[i]?.getD 0) * x ^ i) f.length := by
  rw [← pv_tab]
  congr 1
  exact tab_of rfl fun i y hy => by rw [hy]; rfl
end
end Go.Proofs.Ytlhcaangdenoaaa.Pl
