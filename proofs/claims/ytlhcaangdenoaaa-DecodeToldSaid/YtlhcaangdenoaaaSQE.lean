import Derived.Test.YtlhcaangdenoaaaSQR
import Derived.Test.YtlhcaangdenoaaaSQI
namespace Go.Lf
end Go.Lf
namespace Go.Proofs.Ytlhcaangdenoaaa.Sh
end Go.Proofs.Ytlhcaangdenoaaa.Sh
namespace Go.Proofs.Ytlhcaangdenoaaa.Sp
end Go.Proofs.Ytlhcaangdenoaaa.Sp
namespace Go.Sx
end Go.Sx
set_option linter.unusedVariables false
set_option linter.unusedSimpArgs false
namespace Go.Proofs.Ytlhcaangdenoaaa.Pl
open Go.Sx Go.Lf Go.Proofs.Ytlhcaangdenoaaa.Sh Go.Proofs.Ytlhcaangdenoaaa.Sp
section
variable {p : Nat} [NeZero p]
def dev (M : Nat → Nat → Fin p) (w : Nat) (x : Nat → Fin p) (i : Nat) : Fin p := S (fun k => M i k * x k) w - M i w
def czM (p : Nat) [NeZero p] (M : Nat → Nat → Nat) : Nat → Nat → Fin p := fun i k => cz p (M i k)
def Solves (p : Nat) [NeZero p] (n w : Nat) (M : Nat → Nat → Nat) (x : Nat → Fin p) : Prop := ∀ i, i < n → dev (czM p M) w x i = 0
theorem piv_no {n : Nat} {M : Nat → Nat → Nat} {top c : Nat} (h : piv n M top c = none) : ∀ j, top ≤ j → j < n → M j c = 0 := by
  intro j h1 h2
  unfold piv at h
  rw [List.find?_range_eq_none] at h
  have := h j h2
  simp [h1] at this
  exact this
theorem piv_ne {n : Nat} {M : Nat → Nat → Nat} {top c i : Nat} (h : piv n M top c = some i) : M i c ≠ 0 := by
  unfold piv at h
  rw [List.find?_range_eq_some] at h
  obtain ⟨h1, h2, _⟩ := h
  simp at h1
  exact h1.2
theorem cz_ne {a : Nat} (h : a < p) (h0 : a ≠ 0) : cz p a ≠ 0 := fun h1 => h0 (cz_inj h (by omega) (by rw [h1, cz_zero]))
theorem one_ne (hp : isP p) : (1 : Fin p) ≠ 0 := by
  have hp3 := hp.1
  exact fun h => by have := cz_inj (p := p) (a := 1) (b := 0) (by omega) (by omega) (by rw [cz_one, cz_zero, h]); omega
theorem cz_pivM {M : Nat → Nat → Nat} {top c i : Nat} (hp : 0 < p) (a k : Nat) : cz p (pivM p M top c i a k) =
    if a = top then cz p (swapM M top i top k) * cz p (finv p (swapM M top i top c)) else cz p (swapM M top i a k) - cz p (swapM M top i a c) * (cz p (swapM M top i top k) * cz p (finv p (swapM M top i top c))) := by
  unfold pivM elimM
  by_cases h : a = top
  · rw [if_pos h, if_pos h]; unfold scaleM; rw [if_pos h, cz_fmul, h]
  · rw [if_neg h, if_neg h, cz_fsub (Nat.le_of_lt (fmul_lt hp _ _)), cz_fmul]
    unfold scaleM
    rw [if_neg h, if_neg h, if_pos rfl, cz_fmul]
theorem dev_lin {M N : Nat → Nat → Fin p} {w : Nat} {x : Nat → Fin p} {a b d : Nat} {u v : Fin p} (h : ∀ k, N a k = u * M b k + v * M d k) : dev N w x a = u * dev M w x b + v * dev M w x d := by
  unfold dev
  have e : (fun k => N a k * x k) = fun k => u * (M b k * x k) + v * (M d k * x k) := by funext k; rw [h]; grind
  rw [e, S_add, S_mul, S_mul, h]; grind
theorem solves_swap {n w : Nat} {M : Nat → Nat → Nat} {x : Nat → Fin p} {a b : Nat} (ha : a < n) (hb : b < n) : Solves p n w (swapM M a b) x ↔ Solves p n w M x := by
  have e : ∀ i, dev (czM p (swapM M a b)) w x i = dev (czM p M) w x (if i = a then b else if i = b then a else i) := fun i => rfl
  constructor
  · intro h i hi
    have := h (if i = a then b else if i = b then a else i) (by split; omega; split <;> omega)
    rw [e] at this
    by_cases h1 : i = a
    · subst h1
      rw [if_pos rfl] at this
      by_cases h2 : b = i
      · subst h2; simpa using this
      · simpa [h2] using this
    · by_cases h2 : i = b
      · subst h2; simpa [h1] using this
      · simpa [h1, h2] using this
  · intro h i hi
    rw [e]; exact h _ (by split; omega; split <;> omega)
theorem solves_piv {n w : Nat} {M : Nat → Nat → Nat} {x : Nat → Fin p} {top c i : Nat} (hp : isP p) (hM : ∀ i k, M i k < p) (ht : top < n) (hi : i < n) (hne : M i c ≠ 0) : Solves p n w (pivM p M top c i) x ↔ Solves p n w M x := by
  have hp3 := hp.1
  rw [← solves_swap (M := M) ht hi]
  have hc : cz p (swapM M top i top c) ≠ 0 := cz_ne (hM _ _) (by simpa [swapM] using hne)
  have huv := fin_finv hp hc
  have hrow := cz_pivM (p := p) (M := M) (top := top) (c := c) (i := i) (by omega)
  generalize cz p (finv p (swapM M top i top c)) = v at *
  generalize swapM M top i = T at *
  have e1 : dev (czM p (pivM p M top c i)) w x top = v * dev (czM p T) w x top := by
    rw [dev_lin (M := czM p T) (b := top) (d := top) (u := v) (v := 0) fun k => by unfold czM; rw [hrow, if_pos rfl]; grind]; grind
  have e2 : ∀ a, a ≠ top → dev (czM p (pivM p M top c i)) w x a = dev (czM p T) w x a - cz p (T a c) * v * dev (czM p T) w x top := fun a ha => by
    rw [dev_lin (M := czM p T) (b := a) (d := top) (u := 1) (v := - (cz p (T a c) * v)) fun k => by unfold czM; rw [hrow, if_neg ha]; grind]; grind
  constructor
  · intro h
    have h1 : dev (czM p T) w x top = 0 := by
      have h2 := h top ht
      rw [e1] at h2
      have : cz p (T top c) * (v * dev (czM p T) w x top) = 0 := by rw [h2]; grind
      grind
    intro a ha
    by_cases hat : a = top
    · rw [hat]; exact h1
    · have h2 := h a ha
      rw [e2 a hat, h1] at h2; grind
  · intro h a ha
    by_cases hat : a = top
    · rw [hat, e1, h top ht]; grind
    · rw [e2 a hat, h a ha, h top ht]; grind
structure ElInv (p : Nat) [NeZero p] (n w : Nat) (M : Nat → Nat → Nat) (s : El) (c : Nat) : Prop where
  lead : ∀ x ∈ s.lead, x < c
  one : ∀ (i x j : Nat), s.lead[i]? = some x → j < n → cz p (s.M j x) = if j = i then 1 else 0
  zero : ∀ i k, s.lead.length ≤ i → i < n → k < c → cz p (s.M i k) = 0
  sol : ∀ x, Solves p n w M x ↔ Solves p n w s.M x
theorem run_inv {n : Nat} {M : Nat → Nat → Nat} (hp : isP p) (hM : ∀ i k, M i k < p) (w : Nat) : ∀ c, ElInv p n w M (El.run p n M c) c
  | 0 => ⟨fun x hx => (by cases hx), fun i x j h => (by cases h), fun i k _ _ h => by omega, fun x => Iff.rfl⟩
  | c + 1 => by
    have ih := run_inv (n := n) hp hM w c
    have hp3 := hp.1
    have hlt := run_lt (n := n) (show 0 < p by omega) hM c
    have hlen := run_leadn p n M c
    rw [El.run, El.step]
    generalize El.run p n M c = s at *
    cases h : piv n s.M s.lead.length c with
    | none =>
      refine ⟨fun x hx => Nat.lt_succ_of_lt (ih.lead x hx), ih.one, fun i k h1 h2 h3 => ?_, ih.sol⟩
      by_cases hk : k = c
      · rw [hk, piv_no h i h1 h2, cz_zero]
      · exact ih.zero i k h1 h2 (by omega)
    | some i =>
      have hi := piv_lt h
      have hne := piv_ne h
      have htop : s.lead.length < n := by omega
      have hc : cz p (swapM s.M s.lead.length i s.lead.length c) ≠ 0 := cz_ne (hlt _ _) (by simpa [swapM] using hne)
      have huv := fin_finv hp hc
      have hrow := cz_pivM (p := p) (M := s.M) (top := s.lead.length) (c := c) (i := i) (by omega)
      have hsw : ∀ j, j < n → ∃ j', j' < n ∧ (∀ k, swapM s.M s.lead.length i j k = s.M j' k) ∧ (j < s.lead.length → j' = j) ∧ (s.lead.length ≤ j → s.lead.length ≤ j') := fun j hj =>
        ⟨if j = s.lead.length then i else if j = i then s.lead.length else j, by split; omega; split <;> omega, fun k => rfl, fun h => by rw [if_neg (by omega), if_neg (by omega)], fun h => by split; omega; split <;> omega⟩
      generalize cz p (finv p (swapM s.M s.lead.length i s.lead.length c)) = v at *
      have hone : ∀ (a x j : Nat), s.lead[a]? = some x → j < n → cz p (swapM s.M s.lead.length i j x) = if j = a then 1 else 0 := fun a x j ha hj => by
        obtain ⟨j', h1, h2, h3, h4⟩ := hsw j hj
        rw [h2, ih.one a x j' ha h1]
        have := lt_get ha
        by_cases hj2 : j < s.lead.length
        · rw [h3 hj2]
        · have := h4 (by omega)
          rw [if_neg (by omega), if_neg (by omega)]
      have hzero : ∀ j k, s.lead.length ≤ j → j < n → k < c → cz p (swapM s.M s.lead.length i j k) = 0 := fun j k h1 h2 h3 => by
        obtain ⟨j', h5, h6, _, h7⟩ := hsw j h2
        rw [h6]; exact ih.zero j' k (h7 h1) h5 h3
      have hnew : ∀ j, j < n → cz p (pivM p s.M s.lead.length c i j c) = if j = s.lead.length then 1 else 0 := fun j hj => by
        rw [hrow]
        by_cases hjt : j = s.lead.length
        · rw [if_pos hjt, if_pos hjt]; exact huv
        · rw [if_neg hjt, if_neg hjt, huv]; grind
      refine ⟨fun x hx => ?_, fun a x j ha hj => ?_, fun j k h1 h2 h3 => ?_, fun x => (ih.sol x).trans (solves_piv hp hlt htop hi.2 hne).symm⟩
      · rcases List.mem_append.1 hx with hx | hx
        · exact Nat.lt_succ_of_lt (ih.lead x hx)
        · simp at hx; omega
      · dsimp only at ha ⊢
        rcases Nat.lt_or_ge a s.lead.length with hal | hal
        · rw [List.getElem?_append_left hal] at ha
          rw [hrow]
          have ht := hone a x s.lead.length ha htop
          rw [if_neg (by omega)] at ht
          rw [ht, hone a x j ha hj]
          by_cases hjt : j = s.lead.length
          · rw [if_pos hjt, if_neg (by omega)]; grind
          · rw [if_neg hjt]; grind
        · rw [List.getElem?_append_right hal] at ha
          have hz : a - s.lead.length = 0 := by have := lt_get ha; simp at this; omega
          rw [hz] at ha
          cases ha
          obtain rfl : a = s.lead.length := by omega
          exact hnew j hj
      · dsimp only at h1 ⊢
        rw [List.length_append, List.length_singleton] at h1
        by_cases hk : k = c
        · rw [hk, hnew j h2, if_neg (by omega)]
        · rw [hrow, if_neg (by omega), hzero j k (by omega) h2 (by omega), hzero s.lead.length k (Nat.le_refl _) htop (by omega)]; grind
theorem S_one {g : Nat → Fin p} {k w : Nat} (hk : k < w) : S (fun j => if j = k then g j else 0) w = g k := by
  have : (fun j => if j = k then g j else (0 : Fin p)) = fun m => if k ≤ m ∧ m - k < 1 then (fun q => g (q + k)) (m - k) else 0 := by
    funext j
    by_cases h : j = k
    · subst h; rw [if_pos rfl, if_pos (by omega)]; simp
    · rw [if_neg h, if_neg (by omega)]
  rw [this, S_shift (fun q => g (q + k)) k 1 w (by omega)]
  show (0 : Fin p) + g (0 + k) = g k
  rw [Nat.zero_add]; grind
theorem zat_set {f : List Nat} {x v k : Nat} (hx : x < f.length) : zat (f.set x v) k = if k = x then v else zat f k := by
  unfold zat
  rw [List.getElem?_set]
  by_cases h : x = k
  · subst h; simp [hx]
  · simp [h, Ne.symm h]
theorem solV_ok {n w : Nat} {M : Nat → Nat → Nat} {s : El} (hp : isP p) (h : ElInv p n w M s w) (hl : s.lead.length ≤ n) : ∀ j, j ≤ s.lead.length →
    (∀ (b x : Nat), j ≤ b → s.lead[b]? = some x → zat (solV s w j) x = 0) ∧ ∀ a, a < n → S (fun k => cz p (s.M a k) * cz p (zat (solV s w j) k)) w = if a < j then cz p (s.M a w) else 0
  | 0, _ => by
    have hz : ∀ k, zat (solV s w 0) k = 0 := fun k => by
      unfold solV zat
      rw [List.getElem?_replicate]; split <;> rfl
    refine ⟨fun b x _ _ => hz x, fun a ha => ?_⟩
    have : (fun k => cz p (s.M a k) * cz p (zat (solV s w 0) k)) = fun _ => (0 : Fin p) := by funext k; rw [hz, cz_zero]; grind
    rw [this, S_zero]; rfl
  | j + 1, hj => by
    obtain ⟨ih1, ih2⟩ := solV_ok hp h hl j (by omega)
    obtain ⟨x, hx⟩ := get_some (show j < s.lead.length by omega)
    have hxw := h.lead x (mem_get hx)
    have hx0 := ih1 j x (Nat.le_refl _) hx
    have hzs : ∀ k, zat (solV s w (j + 1)) k = if k = x then s.M j w else zat (solV s w j) k := fun k => by
      rw [solV, hx]; exact zat_set (by rw [solV_len]; exact hxw)
    constructor
    · intro b y hb hy
      rw [hzs]
      have hne : y ≠ x := by
        rintro rfl
        have h1 := h.one j y j hx (by omega)
        have h2 := h.one b y j hy (by omega)
        rw [if_pos rfl] at h1
        rw [h1, if_neg (by omega)] at h2
        exact one_ne hp h2
      rw [if_neg hne]; exact ih1 b y (by omega) hy
    · intro a ha
      have e : (fun k => cz p (s.M a k) * cz p (zat (solV s w (j + 1)) k)) = fun k => cz p (s.M a k) * cz p (zat (solV s w j) k) + (if k = x then (fun k => cz p (s.M a k) * cz p (s.M j w)) k else 0) := by
        funext k
        rw [hzs]
        by_cases hk : k = x
        · rw [if_pos hk, if_pos hk, hk, hx0, cz_zero]; grind
        · rw [if_neg hk, if_neg hk]; grind
      rw [e, S_add, ih2 a ha, S_one hxw, h.one j x a hx ha]
      by_cases haj : a = j
      · subst haj; rw [if_pos rfl, if_neg (by omega), if_pos (by omega)]; grind
      · rw [if_neg haj]
        by_cases h3 : a < j
        · rw [if_pos h3, if_pos (by omega)]; grind
        · rw [if_neg h3, if_neg (by omega)]; grind
theorem sol_some {n w : Nat} {M : Nat → Nat → Nat} (hp : isP p) (hM : ∀ i k, M i k < p) {x : Nat → Fin p} (h : Solves p n w M x) : SolOk (El.run p n M w) n w := by
  have hp3 := hp.1
  have hi := run_inv (n := n) hp hM w w
  have hlt := run_lt (n := n) (show 0 < p by omega) hM w
  generalize El.run p n M w = s at *
  intro i h1 h2
  have := (hi.sol x).1 h i h2
  unfold dev at this
  have e : S (fun k => czM p s.M i k * x k) w = 0 := by
    rw [S_ext (g' := fun _ => 0) fun k hk => by show cz p (s.M i k) * x k = 0; rw [hi.zero i k h1 h2 hk]; grind, S_zero]
  rw [e] at this
  refine cz_inj (hlt _ _) (by omega) ?_
  rw [cz_zero]
  have : czM p s.M i w = 0 := by grind
  exact this
theorem sol_solves {n w : Nat} {M : Nat → Nat → Nat} (hp : isP p) (hM : ∀ i k, M i k < p) (h : SolOk (El.run p n M w) n w) : Solves p n w M fun k => cz p (zat (solV (El.run p n M w) w (El.run p n M w).lead.length) k) := by
  have hi := run_inv (n := n) hp hM w w
  have hl := run_leadn p n M w
  rw [hi.sol]
  generalize El.run p n M w = s at *
  intro a ha
  have := (solV_ok hp hi hl s.lead.length (Nat.le_refl _)).2 a ha
  unfold dev czM
  rw [this]
  by_cases hal : a < s.lead.length
  · rw [if_pos hal]; grind
  · rw [if_neg hal, h a (by omega) ha, cz_zero]; grind
omit [NeZero p] in
theorem solV_lt {s : El} {w : Nat} (hp : 0 < p) (hs : ∀ i k, s.M i k < p) : ∀ j, ∀ a ∈ solV s w j, a < p
  | 0, a, ha => by unfold solV at ha; have := (List.mem_replicate.1 ha).2; omega
  | j + 1, a, ha => by
    rw [solV] at ha
    rcases List.mem_or_eq_of_mem_set ha with h | h
    · exact solV_lt hp hs j a h
    · rw [h]; exact hs _ _
end
end Go.Proofs.Ytlhcaangdenoaaa.Pl
