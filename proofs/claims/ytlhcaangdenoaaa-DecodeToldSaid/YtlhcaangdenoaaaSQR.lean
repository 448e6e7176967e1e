import Derived.Test.YtlhcaangdenoaaaSQN
import Derived.Test.YtlhcaangdenoaaaSHand
namespace Go.Lf
end Go.Lf
namespace Go.Proofs.Ytlhcaangdenoaaa.Sh
end Go.Proofs.Ytlhcaangdenoaaa.Sh
namespace Go.Proofs.Ytlhcaangdenoaaa.Sp
end Go.Proofs.Ytlhcaangdenoaaa.Sp
namespace Go.Sx
end Go.Sx
set_option linter.unusedVariables false
set_option linter.unusedSimpArgs false
namespace Go.Proofs.Ytlhcaangdenoaaa.Pl
open Go.Sx Go.Lf Go.Proofs.Ytlhcaangdenoaaa.Sh Go.Proofs.Ytlhcaangdenoaaa.Sp
def augM (w : Nat) (A : Nat → Nat → Nat) (b : Nat → Nat) : Nat → Nat → Nat := fun i k => if k < w then A i k else b i
theorem aug_row (w : Nat) (A : Nat → Nat → Nat) (b : Nat → Nat) (i : Nat) : tab w (A i) ++ [b i] = tab (w + 1) (augM w A b i) := by
  rw [← tab_snoc]
  have : tab w (A i) = tab w (augM w A b i) := tab_ext fun k hk => by unfold augM; rw [if_pos hk]
  rw [this]
  simp [augM]
theorem augM_lt {p w : Nat} {A : Nat → Nat → Nat} {b : Nat → Nat} (hA : ∀ i k, A i k < p) (hb : ∀ i, b i < p) (i k : Nat) : augM w A b i k < p := by
  unfold augM; split
  · exact hA i k
  · exact hb i
theorem run_lead_lt (p n : Nat) (M : Nat → Nat → Nat) : ∀ c, ∀ x ∈ (El.run p n M c).lead, x < c
  | 0, x, hx => by cases hx
  | c + 1, x, hx => by
    have ih := run_lead_lt p n M c
    rw [El.run, El.step] at hx
    cases h : piv n (El.run p n M c).M (El.run p n M c).lead.length c with
    | none => rw [h] at hx; have := ih x hx; omega
    | some i =>
      rw [h] at hx
      rcases List.mem_append.1 hx with hx | hx
      · have := ih x hx; omega
      · simp at hx; omega
def solV (s : El) (w : Nat) : Nat → List Nat
  | 0 => List.replicate w 0
  | i + 1 => (solV s w i).set (s.lead[i]?.getD 0) (s.M i w)
theorem solV_len (s : El) (w : Nat) : ∀ i, (solV s w i).length = w
  | 0 => by simp [solV]
  | i + 1 => by rw [solV, List.length_set, solV_len s w i]
def SolOk (s : El) (n w : Nat) : Prop := ∀ i, s.lead.length ≤ i → i < n → s.M i w = 0
theorem sol_loop {n w : Nat} {s : El} {Kbad : Prop} (hn : n ≤ 500) (hl : s.lead.length ≤ n) (kbad : ¬ SolOk s n w → Kbad) {step : Int × List Nat → (Int × List Nat → Prop) → Prop}
    (h1 : ∀ (i x : Nat) (t : List Nat) (next : Int × List Nat → Prop), i < n → i < s.lead.length → t.length = w → s.lead[i]? = some x → next (IntKind.i64.wrap ((i : Int) + 1), t.set x (s.M i w)) → step ((i : Int), t) next)
    (h2 : ∀ (i : Nat) (t : List Nat) (next : Int × List Nat → Prop), i < n → ¬ i < s.lead.length → s.M i w ≠ 0 → Kbad → step ((i : Int), t) next)
    (h3 : ∀ (i : Nat) (t : List Nat) (next : Int × List Nat → Prop), i < n → ¬ i < s.lead.length → s.M i w = 0 → next (IntKind.i64.wrap ((i : Int) + 1), t) → step ((i : Int), t) next)
    (he : SolOk s n w → ∀ next, step ((n : Int), solV s w s.lead.length) next) : LoopQ ((0 : Int), List.replicate w 0) step := by
  refine LoopQ.rangeS n (fun i t => t = solV s w (min i s.lead.length) ∧ ∀ j, s.lead.length ≤ j → j < i → s.M j w = 0) ⟨by simp [solV], fun j h1 h2 => by omega⟩ (by omega) ?_ ?_
  · rintro i _ next hi ⟨rfl, hz⟩ hnx
    by_cases hil : i < s.lead.length
    · obtain ⟨x, hx⟩ := get_some hil
      refine h1 i x _ next hi hil (solV_len _ _ _) hx (hnx _ ⟨?_, fun j a b => by omega⟩)
      rw [show min i s.lead.length = i by omega, show min (i + 1) s.lead.length = i + 1 by omega, solV, hx]; rfl
    · by_cases h0 : s.M i w = 0
      · refine h3 i _ next hi hil h0 (hnx _ ⟨by rw [show min i s.lead.length = s.lead.length by omega, show min (i + 1) s.lead.length = s.lead.length by omega], fun j a b => ?_⟩)
        by_cases hj : j < i
        · exact hz j a hj
        · obtain rfl : j = i := by omega
          exact h0
      · exact h2 i _ next hi hil h0 (kbad fun h => h0 (h i (by omega) hi))
  · rintro _ next ⟨rfl, hz⟩
    rw [show min n s.lead.length = s.lead.length by omega]
    exact he (fun i a b => hz i a b) next
theorem ints_get {l : List Nat} {i x : Nat} (h : l[i]? = some x) : (ints l)[i]? = some (x : Int) := by simp [ints, h]
theorem matrix_own_c {p n w : Nat} {A : Nat → Nat → Nat} (hn : n ≤ 500) (hw : w ≤ 500) {K : TGrid → Prop} (k : K ⟨p, mat2 n w A, 1, []⟩) : matrix_own.C p (mat2 n w A) K := by
  apply matrix_own.q
  refine LoopQ.upto n (fun i t => t = ((i : Int), (⟨p, tab i (fun a => tab w (A a)), 1, []⟩ : TGrid))) rfl ?_
  rintro i _ next hi rfl hnx
  dsimp only
  rw [mat2_len]
  by_cases h : i < n
  · refine ctd (by omega) ⟨by omega, _, mat2_get _ h, slices_Clone_c ⟨AppOk.of (by simp [tab_len]; omega), hnx h _ ?_⟩⟩
    simp only [toNat_c]
    rw [tab_snoc (g := fun a => tab w (A a)), wsucc (by omega)]
  · obtain rfl : i = n := by omega
    exact cfd (by omega) k
theorem aug_loop {n w : Nat} {A : Nat → Nat → Nat} {b : Nat → Nat} (hn : n ≤ 500) {step : Int × List (List Nat) → (Int × List (List Nat) → Prop) → Prop}
    (hs : ∀ (i : Nat) (R : List (List Nat)) (next : Int × List (List Nat) → Prop), i < n → R.length = n → R[i]? = some (tab w (A i)) → next (IntKind.i64.wrap ((i : Int) + 1), R.set i (tab w (A i) ++ [b i])) → step ((i : Int), R) next)
    (he : ∀ next, step ((n : Int), mat2 n (w + 1) (augM w A b)) next) : LoopQ ((0 : Int), mat2 n w A) step := by
  refine LoopQ.rangeS n (fun i R => R = tab n fun a => if a < i then tab (w + 1) (augM w A b a) else tab w (A a)) (tab_ext fun a _ => by simp) (by omega) ?_ ?_
  · rintro i _ next hi rfl hnx
    refine hs i _ next hi (tab_len _ _) (by rw [tab_get _ hi]; simp) (hnx _ ?_)
    rw [tab_set, aug_row]
    refine tab_ext fun a _ => ?_
    by_cases h : a = i
    · subst h; rw [if_pos rfl, if_pos (by omega)]
    · rw [if_neg h]
      by_cases h2 : a < i
      · rw [if_pos h2, if_pos (by omega)]
      · rw [if_neg h2, if_neg (by omega)]
  · rintro _ next rfl
    have : (tab n fun a => if a < n then tab (w + 1) (augM w A b a) else tab w (A a)) = mat2 n (w + 1) (augM w A b) := tab_ext fun a ha => by rw [if_pos ha]
    rw [this]; exact he next
noncomputable def solS (p n w : Nat) (A : Nat → Nat → Nat) (b : Nat → Nat) : El := El.run p n (augM w A b) w
theorem matrix_Answer_c {p n w : Nat} {A : Nat → Nat → Nat} {b : Nat → Nat} (hp0 : 2 < p) (hp : p ≤ 65537) (hn1 : 1 ≤ n) (hn : n ≤ 400) (hw : w ≤ 400) (hA : ∀ i k, A i k < p) (hb : ∀ i, b i < p) {K : List Nat → Bool → Prop}
    (k0 : ¬ SolOk (solS p n w A b) n w → K [] false) (k1 : SolOk (solS p n w A b) n w → K (solV (solS p n w A b) w (solS p n w A b).lead.length) true) : matrix_Answer.C p (mat2 n w A) (tab n b) K := by
  refine matrix_Answer.q ⟨by omega, _, mat2_get A (show 0 < n by omega), matrix_own_c (by omega) (by omega) ?_⟩
  dsimp only
  rw [mat2_len]
  refine aug_loop (b := b) (by omega) ?_ ?_
  · intro i R next hi hR hRi hnx
    dsimp only
    exact ctd (by omega) ⟨by omega, _, tab_get _ hi, by omega, by omega, _, hRi, AppOk.of (by simp [tab_len]; omega), by omega, by omega, hnx⟩
  intro next
  refine cfd (by dsimp only; omega) ?_
  simp only [tab_len]
  refine grid_reduce_c hp0 hp (by omega) (by omega) (augM_lt hA hb) (by omega) (by omega) fun det' => ⟨MakeOk.of (by omega) (by omega), ?_⟩
  have hl := run_leadn p n (augM w A b) w
  have hlt := run_lead_lt p n (augM w A b) w
  unfold solS at k0 k1
  generalize El.run p n (augM w A b) w = s at *
  dsimp only
  rw [mat2_len, ints_len]
  refine sol_loop (Kbad := K [] false) (by omega) hl k0 ?_ ?_ ?_ ?_
  · intro i x t next2 hi hil ht hx hnx
    dsimp only
    have hxw := hlt x (mem_get hx)
    refine ctd (by omega) ⟨by omega, by omega, _, mat2_get _ hi, ctd (by omega) ⟨by omega, by rw [tab_len]; omega, by omega, by omega, _, ints_get hx, _, tab_get _ (show w < w + 1 by omega), by omega, by omega, hnx⟩⟩
  · intro i t next2 hi hil h0 hk
    dsimp only
    refine ctd (by omega) ⟨by omega, by omega, _, mat2_get _ hi, cfd (by omega) ⟨by omega, by rw [tab_len]; omega, _, tab_get _ (show w < w + 1 by omega), ct (bne_t (by simp only [toNat_c]; omega)) hk⟩⟩
  · intro i t next2 hi hil h0 hnx
    dsimp only
    refine ctd (by omega) ⟨by omega, by omega, _, mat2_get _ hi, cfd (by omega) ⟨by omega, by rw [tab_len]; omega, _, tab_get _ (show w < w + 1 by omega), cf (bne_f (by simp only [toNat_c]; omega)) hnx⟩⟩
  · intro hok next2
    exact cfd (by dsimp only; omega) (k1 hok)
theorem juntoref03_beside_c {n w : Nat} {A : Nat → Nat → Nat} {b : Nat → Nat} (hn : n ≤ 500) (hw : w ≤ 500) {K : List (List Nat) → Prop} (k : K (mat2 n (w + 1) (augM w A b))) : juntoref03_beside.C (mat2 n w A) (tab n fun i => [b i]) K := by
  apply juntoref03_beside.q
  refine LoopQ.upto n (fun i t => t = (tab i (fun a => tab (w + 1) (augM w A b a)), (i : Int))) rfl ?_
  rintro i _ next hi rfl hnx
  dsimp only
  rw [mat2_len]
  by_cases h : i < n
  · refine ctd (by omega) ⟨by omega, _, mat2_get _ h, by omega, _, tab_get _ h, AppOk.of (by simp [tab_len]; omega), AppOk.of (by simp [tab_len]; omega), AppOk.of (by simp [tab_len]; omega), hnx h _ ?_⟩
    simp only [toNat_c]
    rw [aug_row, tab_snoc (g := fun a => tab (w + 1) (augM w A b a)), wsucc (by omega)]
  · obtain rfl : i = n := by omega
    exact cfd (by omega) k
theorem juntoref03_Solve_c {p n w : Nat} {A : Nat → Nat → Nat} {b : Nat → Nat} (hp0 : 2 < p) (hp : p ≤ 65537) (hn1 : 1 ≤ n) (hn : n ≤ 400) (hw : w ≤ 400) (hA : ∀ i k, A i k < p) (hb : ∀ i, b i < p) {K : List Nat → Bool → Prop}
    (k0 : ¬ SolOk (solS p n w A b) n w → K [] false) (k1 : SolOk (solS p n w A b) n w → K (solV (solS p n w A b) w (solS p n w A b).lead.length) true) : juntoref03_Solve.C p (mat2 n w A) (tab n b) K := by
  apply juntoref03_Solve.q
  refine LoopQ.upto n (fun i t => t = (tab i (fun a => [b a]), (i : Int))) rfl ?_
  rintro i _ next hi rfl hnx
  dsimp only
  rw [tab_len]
  by_cases h : i < n
  · refine ctd (by omega) ⟨by omega, _, tab_get _ h, AppOk.of (by simp [tab_len]; omega), hnx h _ ?_⟩
    simp only [toNat_c]
    rw [tab_snoc (g := fun a => [b a]), wsucc (by omega)]
  obtain rfl : i = n := by omega
  refine cfd (by omega) ⟨by omega, _, mat2_get A (show 0 < i by omega), juntoref03_beside_c (by omega) (by omega) ?_⟩
  rw [tab_len]
  refine juntoref03_Reduce_c hp0 hp (by omega) (by omega) (by omega) (augM_lt hA hb) ⟨MakeOk.of (by omega) (by omega), ?_⟩
  have hl := run_leadn p i (augM w A b) w
  have hlt := run_lead_lt p i (augM w A b) w
  unfold solS at k0 k1
  generalize El.run p i (augM w A b) w = s at *
  rw [mat2_len, ints_len]
  refine sol_loop (Kbad := K [] false) (by omega) hl k0 ?_ ?_ ?_ ?_
  · intro j x t next2 hi hil ht hx hnx
    dsimp only
    have hxw := hlt x (mem_get hx)
    refine ctd (by omega) ⟨by omega, by omega, _, mat2_get _ hi, ctd (by omega) ⟨by omega, by omega, by omega, by rw [tab_len]; omega, _, ints_get hx, _, tab_get _ (show w < w + 1 by omega), by omega, by omega, hnx⟩⟩
  · intro j t next2 hi hil h0 hk
    dsimp only
    refine ctd (by omega) ⟨by omega, by omega, _, mat2_get _ hi, cfd (by omega) ⟨by omega, by rw [tab_len]; omega, _, tab_get _ (show w < w + 1 by omega), ct (bne_t (by simp only [toNat_c]; omega)) hk⟩⟩
  · intro j t next2 hi hil h0 hnx
    dsimp only
    refine ctd (by omega) ⟨by omega, by omega, _, mat2_get _ hi, cfd (by omega) ⟨by omega, by rw [tab_len]; omega, _, tab_get _ (show w < w + 1 by omega), cf (bne_f (by simp only [toNat_c]; omega)) hnx⟩⟩
  · intro hok next2
    exact cfd (by dsimp only; omega) (k1 hok)
end Go.Proofs.Ytlhcaangdenoaaa.Pl
