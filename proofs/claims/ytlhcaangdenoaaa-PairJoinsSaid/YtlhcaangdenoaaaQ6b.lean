import Derived.Test.YtlhcaangdenoaaaQ6
set_option linter.unusedVariables false
namespace Go.Proofs.Ytlhcaangdenoaaa.Pl
open Go.Sx Go.Lf Go.Proofs.Ytlhcaangdenoaaa.Sh Go.Proofs.Ytlhcaangdenoaaa.Sp

/-! ### Sizes, and the pair that numbers make -/
def sizeN (d : Nat) : Nat := (d + 1) * (d + 2) / 2 - 1
theorem sizeN_le {d : Nat} (hd : d ≤ 3) : sizeN d ≤ 9 := by
  have : d = 0 ∨ d = 1 ∨ d = 2 ∨ d = 3 := by omega
  rcases this with rfl | rfl | rfl | rfl <;> decide
noncomputable def sizeC (t : Int) : Int := if t < 0 ∨ 3 < t then 0 else (sizeN t.toNat : Nat)
theorem sizeC_of {d : Nat} (hd : d ≤ 3) : sizeC d = (sizeN d : Nat) := by unfold sizeC; rw [if_neg (by omega), toNat_c]
theorem size_key {t : Int} (h0 : ¬ t < 0) (h3 : ¬ t > 3) : IntKind.i64.wrap ((IntKind.i64.wrap (Int.tdiv (IntKind.i64.wrap ((IntKind.i64.wrap (t + 1)) * (IntKind.i64.wrap (t + 2)))) 2)) - 1) = sizeC t := by
  have : t = 0 ∨ t = 1 ∨ t = 2 ∨ t = 3 := by omega
  rcases this with rfl | rfl | rfl | rfl <;> decide +kernel
theorem pair_Size_c {t : Int} {K : Int → Prop} (k : K (sizeC t)) : pair_Size.C t K := by
  apply pair_Size.q
  unfold pair_Size.Q
  by_cases h0 : t < 0
  · unfold sizeC at k; rw [if_pos (.inl h0)] at k; exact ctd h0 k
  refine cfd h0 ?_
  by_cases h3 : t > 3
  · unfold sizeC at k; rw [if_pos (.inr h3)] at k; exact ctd h3 k
  refine cfd h3 ⟨by decide, ?_⟩
  rw [size_key h0 h3]; exact k
theorem juntoref06_Size_c {t : Int} {K : Int → Prop} (k : K (sizeC t)) : juntoref06_Size.C t K := by
  apply juntoref06_Size.q
  unfold juntoref06_Size.Q
  by_cases h0 : t < 0
  · unfold sizeC at k; rw [if_pos (.inl h0)] at k; exact ctd h0 k
  refine cfd h0 ?_
  by_cases h3 : t > 3
  · unfold sizeC at k; rw [if_pos (.inr h3)] at k; exact ctd h3 k
  refine cfd h3 ⟨by decide, ?_⟩
  rw [size_key h0 h3]; exact k
def off (n : Nat) : Nat → Nat
  | 0 => 0
  | i + 1 => off n i + (n - i)
def ix (n i k : Nat) : Nat := off n i + (k - i)
def mkG (n : Nat) (L : List Nat) (a b : Nat) : Nat := L.getD (ix n (min a b) (max a b)) 0
def mkM (n : Nat) (L : List Nat) : List (List Nat) := mat n (mkG n L)
def mkP (n : Nat) (L : List Nat) (i j a b : Nat) : Nat := if min a b < i ∨ (min a b = i ∧ max a b < i + j) then mkG n L a b else 0
theorem off_lt : ∀ n, n < 5 → ∀ i, i < n → ∀ j, j < n - i → off n i + j < n * (n + 1) / 2 := by decide
theorem mkP_zero (n : Nat) (L : List Nat) : mat n (mkP n L 0 0) = mat n fun _ _ => 0 :=
  tab_ext fun a ha => tab_ext fun b hb => by unfold mkP; rw [if_neg (by omega)]
theorem mkP_all (n : Nat) (L : List Nat) : mat n (mkP n L n 0) = mkM n L :=
  tab_ext fun a ha => tab_ext fun b hb => by unfold mkP; rw [if_pos (by omega)]
theorem mkP_row (n : Nat) (L : List Nat) {i : Nat} (hi : i < n) : mat n (mkP n L i (n - i)) = mat n (mkP n L (i + 1) 0) :=
  tab_ext fun a ha => tab_ext fun b hb => by
    unfold mkP
    by_cases h : min a b < i + 1 ∨ min a b = i + 1 ∧ max a b < i + 1 + 0
    · rw [if_pos h, if_pos (by omega)]
    · rw [if_neg h, if_neg (by omega)]
theorem mkP_step {n i j x : Nat} {L : List Nat} (hi : i < n) (hj : i + j < n) (hx : L[off n i + j]? = some x) :
    mat n (fun a b => if a = i + j ∧ b = i then x else if a = i ∧ b = i + j then x else mkP n L i j a b) = mat n (mkP n L i (j + 1)) :=
  tab_ext fun a ha => tab_ext fun b hb => by
    have key : min a b = i → max a b = i + j → mkG n L a b = x := fun h1 h2 => by
      unfold mkG ix; rw [h1, h2, show i + j - i = j by omega, List.getD_eq_getElem?_getD, hx]; rfl
    unfold mkP
    dsimp only
    by_cases h1 : a = i + j ∧ b = i
    · rw [if_pos h1, if_pos (by omega), key (by omega) (by omega)]
    · rw [if_neg h1]
      by_cases h2 : a = i ∧ b = i + j
      · rw [if_pos h2, if_pos (by omega), key (by omega) (by omega)]
      · rw [if_neg h2]
        by_cases h3 : min a b < i ∨ min a b = i ∧ max a b < i + j
        · rw [if_pos h3, if_pos (by omega)]
        · rw [if_neg h3, if_neg (by omega)]
/-- The rows made, so far. -/
theorem rows_c {n : Nat} {next : Nat → List (List Nat)} : (List.replicate n ([] : List Nat)) = tab n fun i => if i < 0 then List.replicate n 0 else [] := by rw [tab_rep]; exact tab_ext fun i _ => by simp
theorem rows_set {n k : Nat} : (tab n fun i => if i < k then List.replicate n 0 else []).set k (List.replicate n 0) = tab n fun i => if i < k + 1 then List.replicate n 0 else [] := by
  rw [tab_set]
  refine tab_ext fun i hi => ?_
  by_cases h : i = k
  · subst h; simp
  · rw [if_neg h]
    by_cases h2 : i < k
    · rw [if_pos h2, if_pos (by omega)]
    · rw [if_neg h2, if_neg (by omega)]
theorem rows_all (n : Nat) : (tab n fun i => if i < n then List.replicate n 0 else []) = mat n fun _ _ => 0 :=
  tab_ext fun i hi => by rw [if_pos hi, tab_rep]
theorem drop_get {α : Type} {l : List α} {k : Nat} {x : α} (h : l[k]? = some x) : (l.drop k)[0]? = some x := by rw [List.getElem?_drop]; exact h
theorem pair_Of_c {secret d : Nat} {l : List Nat} (hd : d ≤ 3) (hn : l.length = sizeN d) {K : List (List Nat) → Prop} (k : K (mkM (d + 1) (secret :: l))) : pair_Of.C secret d l K := by
  have hsz := sizeN_le hd
  have hL : (secret :: l).length = (d + 1) * (d + 1 + 1) / 2 := by
    have : d = 0 ∨ d = 1 ∨ d = 2 ∨ d = 3 := by omega
    rcases this with rfl | rfl | rfl | rfl <;> simp [hn, sizeN]
  apply pair_Of.q
  unfold pair_Of.Q
  rw [wsucc (k := d) (by omega), toNat_c]
  refine ⟨MakeOk.of (by omega) (by omega), ?_⟩
  rw [rows_c (next := fun _ => [])]
  refine LoopQ.rangeS (d + 1) (fun k s => s = tab (d + 1) fun i => if i < k then List.replicate (d + 1) 0 else []) rfl (by omega) ?_ ?_
  · rintro j _ next hj rfl hnx
    refine ctd (by dsimp only; omega) ⟨MakeOk.of (by omega) (by omega), by dsimp only; omega, by dsimp only; omega, hnx _ rows_set⟩
  rintro _ next rfl
  refine cfd (by dsimp only; omega) ⟨AppOk.of (by simp; omega), ?_⟩
  rw [show [secret] ++ l = secret :: l from rfl]
  dsimp only
  rw [rows_all, ← mkP_zero (d + 1) (secret :: l)]
  generalize hLL : secret :: l = L at *
  clear next
  refine LoopQ.upto (d + 1) (fun i t => t.2.1 = i ∧ t.1 = L.drop (off (d + 1) i) ∧ t.2.2 = mat (d + 1) (mkP (d + 1) L i 0)) ⟨rfl, rfl, rfl⟩ ?_
  rintro i ⟨_, _, _⟩ next hi ⟨rfl, rfl, rfl⟩ hnx
  dsimp only
  by_cases hlt : i < d + 1
  rotate_left
  · obtain rfl : i = d + 1 := by omega
    rw [mkP_all]
    exact cfd (by omega) k
  refine ctd (by omega) ?_
  refine LoopQ.upto (d + 1 - i) (fun j t => t.2.1 = ((i + j : Nat) : Int) ∧ t.1 = L.drop (off (d + 1) i + j) ∧ t.2.2 = mat (d + 1) (mkP (d + 1) L i j)) ⟨rfl, rfl, rfl⟩ ?_
  rintro j ⟨_, _, _⟩ next2 hj ⟨rfl, rfl, rfl⟩ hnx2
  dsimp only
  by_cases hjl : j < d + 1 - i
  · obtain ⟨x, hx⟩ := get_some (show off (d + 1) i + j < L.length by rw [hL]; exact off_lt (d + 1) (by omega) i hlt j hjl)
    refine ctd (by omega) ⟨by omega, by omega, by omega, by omega, by decide, x, drop_get hx, by decide, x, drop_get hx, _, tab_get _ hlt, _, tab_get _ (show i + j < d + 1 by omega), by omega, by rw [tab_len]; omega, by omega, by rw [tab_len]; omega, ?_⟩
    simp only [toNat_c]
    rw [mat_set]
    refine ⟨_, tab_get _ (show i + j < d + 1 by omega), by rw [tab_len]; omega, by decide, ?_, ?_⟩
    · have := lt_get hx; simp; omega
    rw [mat_set (fun a b => if a = i ∧ b = i + j then x else mkP (d + 1) L i j a b), mkP_step hlt (by omega) hx]
    refine hnx2 hjl _ ⟨wsucc (k := i + j) (by omega), ?_, rfl⟩
    dsimp only; rw [List.drop_drop]; congr 1
  · refine cfd (by omega) ?_
    obtain rfl : j = d + 1 - i := by omega
    rw [mkP_row _ _ hlt]
    exact hnx hlt _ ⟨wsucc (k := i) (by omega), rfl, rfl⟩
noncomputable def mk (p secret d : Nat) (tape : List Nat) : List (List Nat) := mkM (d + 1) (secret :: takeN p tape (sizeN d))
theorem pair_Make_c {p secret : Nat} {t : Int} {tape : List Nat} (ht : tape.length ≤ 17592186044416) {K : List (List Nat) → List Nat → Int → Prop}
    (kbad : (groundC p t ≠ 0 ∨ p ≤ secret) → K [] [] 2) (k : ∀ d : Nat, t = d → d ≤ 3 → isP p → groundC p t = 0 → secret < p → K (mk p secret d tape) (tape.drop (sizeN d)) 0) : pair_Make.C p secret t tape K := by
  refine pair_Make.q (pair_ground_c ?_)
  rcases ground_cases p t with hg | ⟨hg, hp, d, rfl, hd⟩
  · rw [hg]; exact ct rfl (kbad (.inl (by rw [hg]; decide)))
  rw [hg]
  refine cf rfl ?_
  by_cases hs : p ≤ secret
  · exact ctd (by omega) (kbad (.inr hs))
  refine cfd (by omega) (pair_Size_c ?_)
  have hsz := sizeN_le hd
  rw [sizeC_of hd]
  exact field_Take_c (by have := hp.1; omega) (by omega) ht (pair_Of_c hd (takeN_len _ _ _) (k d rfl hd hp hg (by omega)))
theorem juntoref06_Make_c {p secret d : Nat} {tape : List Nat} (hp : 0 < p) (hd : d ≤ 3) (ht : tape.length ≤ 17592186044416) {K : List (List Nat) → List Nat → Prop} (k : K (mk p secret d tape) (tape.drop (sizeN d))) : juntoref06_Make.C p secret d tape K := by
  refine juntoref06_Make.q (juntoref06_Size_c ?_)
  have hsz := sizeN_le hd
  rw [sizeC_of hd]
  refine juntoref01_Draw_c hp (by omega) ht ?_
  unfold mk at k
  have hn : (takeN p tape (sizeN d)).length = sizeN d := takeN_len _ _ _
  generalize takeN p tape (sizeN d) = l at *
  have hL : (secret :: l).length = (d + 1) * (d + 1 + 1) / 2 := by
    have : d = 0 ∨ d = 1 ∨ d = 2 ∨ d = 3 := by omega
    rcases this with rfl | rfl | rfl | rfl <;> simp [hn, sizeN]
  have hL10 : (secret :: l).length ≤ 10 := by simp [hn]; omega
  rw [wsucc (k := d) (by omega), toNat_c, show [secret] ++ l = secret :: l from rfl]
  refine ⟨AppOk.of (by simp; omega), MakeOk.of (by omega) (by omega), ?_⟩
  rw [rows_c (next := fun _ => [])]
  refine LoopQ.rangeS (d + 1) (fun k s => s = tab (d + 1) fun i => if i < k then List.replicate (d + 1) 0 else []) rfl (by omega) ?_ ?_
  · rintro j _ next hj rfl hnx
    refine ctd (by dsimp only; omega) ⟨MakeOk.of (by omega) (by omega), by dsimp only; omega, by dsimp only; omega, hnx _ rows_set⟩
  rintro _ next rfl
  refine cfd (by dsimp only; omega) ?_
  dsimp only
  rw [rows_all, ← mkP_zero (d + 1) (secret :: l)]
  generalize hLL : secret :: l = L at *
  clear next
  refine LoopQ.upto (d + 1) (fun i t => t.2.1 = i ∧ t.1 = ((off (d + 1) i : Nat) : Int) ∧ t.2.2 = mat (d + 1) (mkP (d + 1) L i 0)) ⟨rfl, rfl, rfl⟩ ?_
  rintro i ⟨_, _, _⟩ next hi ⟨rfl, rfl, rfl⟩ hnx
  dsimp only
  by_cases hlt : i < d + 1
  rotate_left
  · obtain rfl : i = d + 1 := by omega
    rw [mkP_all]
    exact cfd (by omega) k
  refine ctd (by omega) ?_
  refine LoopQ.upto (d + 1 - i) (fun j t => t.2.1 = ((i + j : Nat) : Int) ∧ t.1 = ((off (d + 1) i + j : Nat) : Int) ∧ t.2.2 = mat (d + 1) (mkP (d + 1) L i j)) ⟨rfl, rfl, rfl⟩ ?_
  rintro j ⟨_, _, _⟩ next2 hj ⟨rfl, rfl, rfl⟩ hnx2
  dsimp only
  by_cases hjl : j < d + 1 - i
  · obtain ⟨x, hx⟩ := get_some (show off (d + 1) i + j < L.length by rw [hL]; exact off_lt (d + 1) (by omega) i hlt j hjl)
    have hxl := lt_get hx
    refine ctd (by omega) ⟨by omega, by omega, by omega, by omega, by omega, by omega, by omega, by omega, _, tab_get _ hlt, _, tab_get _ (show i + j < d + 1 by omega), x, hx, x, hx, by omega, by rw [tab_len]; omega, by omega, by rw [tab_len]; omega, ?_⟩
    simp only [toNat_c]
    rw [mat_set]
    refine ⟨_, tab_get _ (show i + j < d + 1 by omega), by rw [tab_len]; omega, ?_⟩
    rw [mat_set (fun a b => if a = i ∧ b = i + j then x else mkP (d + 1) L i j a b), mkP_step hlt (by omega) hx]
    exact hnx2 hjl _ ⟨wsucc (k := i + j) (by omega), wsucc (k := off (d + 1) i + j) (by omega), rfl⟩
  · refine cfd (by omega) ?_
    obtain rfl : j = d + 1 - i := by omega
    rw [mkP_row _ _ hlt]
    exact hnx hlt _ ⟨wsucc (k := i) (by omega), rfl, rfl⟩
/-! What is made is a pair -/
theorem takeN_lt {p n : Nat} {tape : List Nat} (hp : 0 < p) {x : Nat} (h : x ∈ takeN p tape n) : x < p := by
  unfold takeN at h
  obtain ⟨i, _, rfl⟩ := List.mem_map.1 h
  cases tape[i]? with
  | none => exact hp
  | some y => exact Nat.mod_lt _ hp
theorem getD_lt {p : Nat} (hp : 0 < p) {L : List Nat} (h : ∀ x ∈ L, x < p) (i : Nat) : L.getD i 0 < p := by
  rw [List.getD_eq_getElem?_getD]
  cases hx : L[i]? with
  | none => exact hp
  | some y => exact h y (mem_get hx)
theorem mkM_pr {p d : Nat} (hp : 0 < p) {L : List Nat} (h : ∀ x ∈ L, x < p) : Pr p d (mkM (d + 1) L) :=
  Pr.of_mat (fun i k _ _ => getD_lt hp h _) (fun i k _ _ => by unfold mkG; rw [Nat.min_comm, Nat.max_comm])
theorem mk_pr {p secret d : Nat} {tape : List Nat} (hp : 0 < p) (hs : secret < p) : Pr p d (mk p secret d tape) :=
  mkM_pr hp fun x hx => by
    rcases List.mem_cons.1 hx with rfl | hx
    · exact hs
    · exact takeN_lt hp hx
theorem Pr.sz {p d : Nat} {F : List (List Nat)} (hd : d ≤ 3) (h : Pr p d F) : Sz F := ⟨by rw [h.len]; omega, fun r hr => by rw [h.row r hr]; omega⟩

/-! ### The numbers of a pair -/
def upper (F : List (List Nat)) (n : Nat) : List Nat := ((List.range n).map fun i => ((F[i]?).getD []).drop i).flatten
theorem upper_succ (F : List (List Nat)) (n : Nat) : upper F (n + 1) = upper F n ++ ((F[n]?).getD []).drop n := by simp [upper, List.range_succ]
theorem upper_mat (d : Nat) (hd : d ≤ 3) {F : List (List Nat)} {p : Nat} (h : Pr p d F) : mkM (d + 1) (upper F (d + 1)) = F ∧ (upper F (d + 1)).length = sizeN d + 1 ∧ ∀ x ∈ upper F (d + 1), x < p := by
  have hm := h.mat
  have hs := h.sym
  have hl := fun i k => @Pr.lt p d F h i k
  generalize at2 F = g at *
  subst hm
  have : d = 0 ∨ d = 1 ∨ d = 2 ∨ d = 3 := by omega
  rcases this with rfl | rfl | rfl | rfl
  · refine ⟨?_, rfl, ?_⟩
    · simp [upper, mkM, Pl.mat, tab, List.range_succ, mkG, ix, off]
    · intro x hx; simp [upper, Pl.mat, tab, List.range_succ] at hx; subst hx; exact hl 0 0 (by omega) (by omega)
  · refine ⟨?_, rfl, ?_⟩
    · simp [upper, mkM, Pl.mat, tab, List.range_succ, mkG, ix, off, hs 1 0 (by omega) (by omega)]
    · intro x hx; simp [upper, Pl.mat, tab, List.range_succ] at hx
      rcases hx with rfl | rfl | rfl <;> exact hl _ _ (by omega) (by omega)
  · refine ⟨?_, rfl, ?_⟩
    · simp [upper, mkM, Pl.mat, tab, List.range_succ, mkG, ix, off, hs 1 0 (by omega) (by omega), hs 2 0 (by omega) (by omega), hs 2 1 (by omega) (by omega)]
    · intro x hx; simp [upper, Pl.mat, tab, List.range_succ] at hx
      rcases hx with rfl | rfl | rfl | rfl | rfl | rfl <;> exact hl _ _ (by omega) (by omega)
  · refine ⟨?_, rfl, ?_⟩
    · simp [upper, mkM, Pl.mat, tab, List.range_succ, mkG, ix, off, hs 1 0 (by omega) (by omega), hs 2 0 (by omega) (by omega), hs 2 1 (by omega) (by omega), hs 3 0 (by omega) (by omega), hs 3 1 (by omega) (by omega), hs 3 2 (by omega) (by omega)]
    · intro x hx; simp [upper, Pl.mat, tab, List.range_succ] at hx
      rcases hx with rfl | rfl | rfl | rfl | rfl | rfl | rfl | rfl | rfl | rfl <;> exact hl _ _ (by omega) (by omega)
theorem upper_len {p d : Nat} {F : List (List Nat)} (h : Pr p d F) (i : Nat) (hi : i ≤ d + 1) : (upper F i).length ≤ i * (d + 1) := by
  induction i with
  | zero => simp [upper]
  | succ i ih =>
    obtain ⟨r, hr⟩ := get_some (show i < F.length by rw [h.len]; omega)
    have := h.row r (mem_get hr)
    rw [upper_succ, hr, List.length_append, Nat.add_mul]
    have := ih (by omega)
    simp; omega
theorem tape_loop {p d : Nat} (hd : d ≤ 3) {F : List (List Nat)} (h : Pr p d F) {step : List Nat × Int → (List Nat × Int → Prop) → Prop}
    (hs : ∀ (i : Nat) (r : List Nat) (next : List Nat × Int → Prop), F[i]? = some r → i < F.length → i ≤ r.length → AppOk 8 (upper F i ++ r.drop i).length → next (upper F i ++ r.drop i, IntKind.i64.wrap ((i : Int) + 1)) → step (upper F i, (i : Int)) next)
    (he : ∀ next, step (upper F (d + 1), ((d + 1 : Nat) : Int)) next) : LoopQ (([] : List Nat), (0 : Int)) step := by
  refine LoopQ.upto (d + 1) (fun i t => t = (upper F i, (i : Int))) rfl ?_
  rintro i _ next hi rfl hnx
  by_cases hlt : i < d + 1
  · obtain ⟨r, hr⟩ := get_some (show i < F.length by rw [h.len]; omega)
    have hrl := h.row r (mem_get hr)
    have hul := upper_len h i (by omega)
    have hb : i * (d + 1) ≤ 3 * 4 := Nat.mul_le_mul (by omega) (by omega)
    refine hs i r next hr (lt_get hr) (by omega) (AppOk.of (by simp; omega)) (hnx hlt _ ?_)
    rw [upper_succ, hr, wsucc (by omega)]; rfl
  · obtain rfl : i = d + 1 := by omega
    exact he next
theorem head_of {l : List Nat} {n : Nat} (h : l.length = n + 1) : ∃ x, l[0]? = some x := get_some (by omega)
theorem juntoref06_Tape_c {p d : Nat} (hd : d ≤ 3) {F : List (List Nat)} (h : Pr p d F) {K : Nat → List Nat → Prop} (k : ∀ x, (upper F (d + 1))[0]? = some x → K x ((upper F (d + 1)).drop 1)) : juntoref06_Tape.C F K := by
  apply juntoref06_Tape.q
  refine tape_loop hd h ?_ ?_
  · intro i r next hr hl hle ha hn
    exact ctd (by dsimp only; omega) ⟨by dsimp only; omega, r, hr, by dsimp only; omega, by dsimp only; omega, ha, hn⟩
  · intro next
    obtain ⟨hm, hl, _⟩ := upper_mat d hd h
    obtain ⟨x, hx⟩ := head_of hl
    refine cfd (by dsimp only; rw [h.len]; omega) ⟨by decide, by dsimp only; omega, by decide, by dsimp only; omega, x, hx, k x hx⟩
theorem pair_Tape_c {p : Nat} {t : Int} {F : List (List Nat)} (hF : Sz F) {K : Nat → List Nat → Int → Prop} (kbad : checkC p t F ≠ 0 → K 0 [] (checkC p t F))
    (k : ∀ (d : Nat) x, t = d → d ≤ 3 → isP p → Pr p d F → (upper F (d + 1))[0]? = some x → K x ((upper F (d + 1)).drop 1) 0) : pair_Tape.C p t F K := by
  refine pair_Tape.q (pair_Check_c hF ?_)
  rcases check_cases p t F with h | ⟨h, hp, d, rfl, hd, hpr⟩
  · exact ct (bne_t h) (kbad h)
  rw [h]
  refine cf rfl (tape_loop hd hpr ?_ ?_)
  · intro i r next hr hl hle ha hn
    exact ctd (by dsimp only; omega) ⟨by dsimp only; omega, r, hr, by dsimp only; omega, by dsimp only; omega, ha, hn⟩
  · intro next
    obtain ⟨hm, hl, _⟩ := upper_mat d hd hpr
    obtain ⟨x, hx⟩ := head_of hl
    refine cfd (by dsimp only; rw [hpr.len]; omega) ⟨by decide, by dsimp only; omega, by decide, by dsimp only; omega, x, hx, k d x rfl hd hp hpr hx⟩

/-! ### Sums -/
theorem pair_Plus_c {p d : Nat} (hp0 : 0 < p) (hp : p ≤ 65537) (hd : d ≤ 3) {F : List (List Nat)} (h : Pr p d F) {more : Int → Int → (Nat → Prop) → Prop} {m : Nat → Nat → Nat} (hml : ∀ i k, m i k < p)
    (hm : ∀ (i k : Nat) (K : Nat → Prop), i < d + 1 → k < d + 1 → K (m i k) → more i k K) {K : List (List Nat) → Prop} (k : K (mat (d + 1) fun i k => fadd p (at2 F i k) (m i k))) : pair_Plus.C p F more K := by
  refine pair_Plus.q ⟨MakeOk.of (by omega) (by rw [h.len]; omega), ?_⟩
  rw [h.len, tab_rep]
  refine LoopQ.rangeS (d + 1) (fun i s => s = tab (d + 1) fun a => if a < i then tab (d + 1) fun b => fadd p (at2 F a b) (m a b) else []) (tab_ext fun a _ => by simp) (by omega) ?_ ?_
  · rintro i _ next hi rfl hnx
    dsimp only
    obtain ⟨r, hr⟩ := get_some (show i < F.length by rw [h.len]; exact hi)
    have hrl := h.row r (mem_get hr)
    refine ctd (by omega) ⟨by omega, r, hr, MakeOk.of (by omega) (by omega), by omega, by omega, ?_⟩
    rw [toNat_c, hrl, tab_rep, tab_set]
    refine LoopQ.rangeS (d + 1) (fun j s => s = tab (d + 1) fun a => if a = i then (tab (d + 1) fun b => if b < j then fadd p (at2 F a b) (m a b) else 0) else if a < i then tab (d + 1) fun b => fadd p (at2 F a b) (m a b) else []) (tab_ext fun a _ => by simp) (by omega) ?_ ?_
    · rintro j _ next2 hj rfl hnx2
      dsimp only
      obtain ⟨x, hx⟩ := get_some (show j < r.length by omega)
      have hrow := tab_get (n := d + 1) (i := i) (fun a => if a = i then (tab (d + 1) fun b => if b < j then fadd p (at2 F a b) (m a b) else 0) else if a < i then tab (d + 1) fun b => fadd p (at2 F a b) (m a b) else []) hi
      simp only [if_true] at hrow
      refine ctd (by omega) ⟨by omega, x, hx, by omega, by omega, _, hrow, hm i j _ hi hj ?_⟩
      refine field_Plus_c hp (below_lt (h.bel r (mem_get hr)) (mem_get hx)) (hml _ _) ⟨by omega, by rw [tab_len]; omega, hnx2 _ ?_⟩
      simp only [toNat_c]
      rw [tab_set, tab_set]
      refine tab_ext fun a ha => ?_
      by_cases hai : a = i
      · subst hai
        simp only [if_true]
        refine tab_ext fun b hb => ?_
        by_cases hbj : b = j
        · subst hbj; rw [if_pos rfl, if_pos (by omega), at2_eq hr hx]
        · rw [if_neg hbj]
          by_cases hlt : b < j
          · rw [if_pos hlt, if_pos (by omega)]
          · rw [if_neg hlt, if_neg (by omega)]
      · simp only [hai, if_false]
    · rintro _ next2 rfl
      refine cfd (by dsimp only; omega) (hnx _ ?_)
      refine tab_ext fun a ha => ?_
      by_cases hai : a = i
      · subst hai
        rw [if_pos rfl, if_pos (by omega)]
        exact tab_ext fun b hb => by rw [if_pos hb]
      · rw [if_neg hai]
        by_cases hlt : a < i
        · rw [if_pos hlt, if_pos (by omega)]
        · rw [if_neg hlt, if_neg (by omega)]
  · rintro _ next rfl
    refine cfd (by dsimp only; omega) ?_
    have : (tab (d + 1) fun a => if a < d + 1 then tab (d + 1) fun b => fadd p (at2 F a b) (m a b) else []) = mat (d + 1) fun i k => fadd p (at2 F i k) (m i k) := tab_ext fun a ha => by rw [if_pos ha]
    dsimp only; rw [this]; exact k
theorem pair_Add_c {p : Nat} {t : Int} {F G : List (List Nat)} (hF : Sz F) (hG : Sz G) {K : List (List Nat) → Int → Prop} (kbad : checkL p t [F, G] ≠ 0 → K [] (checkL p t [F, G]))
    (k : ∀ d : Nat, t = d → d ≤ 3 → isP p → Pr p d F → Pr p d G → K (mat (d + 1) fun i k => fadd p (at2 F i k) (at2 G i k)) 0) : pair_Add.C p t F G K := by
  apply pair_Add.q
  rw [checkL_two] at kbad
  refine LoopQ.range 2 (fun i => (0 < i → checkC p t F = 0) ∧ (1 < i → checkC p t G = 0)) ⟨fun h => by omega, fun h => by omega⟩ (by omega) ?_ ?_
  · intro i next hi hI hnx
    have : i = 0 ∨ i = 1 := by omega
    rcases this with rfl | rfl
    · refine ctd (by omega) ⟨by omega, F, rfl, pair_Check_c hF ?_⟩
      by_cases h : checkC p t F = 0
      · rw [h]; exact cf rfl (hnx ⟨fun _ => h, fun h => by omega⟩)
      · rw [if_neg h] at kbad; exact ct (bne_t h) (kbad h)
    · refine ctd (by omega) ⟨by omega, G, rfl, pair_Check_c hG ?_⟩
      have h0 := hI.1 (by omega)
      rw [if_pos h0] at kbad
      by_cases h : checkC p t G = 0
      · rw [h]; exact cf rfl (hnx ⟨fun _ => h0, fun _ => h⟩)
      · exact ct (bne_t h) (kbad h)
  · intro next hI
    refine cfd (by omega) ?_
    rcases check_cases p t F with h | ⟨_, hp, d, rfl, hd, hpr⟩
    · exact (h (hI.1 (by omega))).elim
    rcases check_cases p d G with h | ⟨_, _, d', he, _, hpr'⟩
    · exact (h (hI.2 (by omega))).elim
    obtain rfl : d = d' := by omega
    refine pair_Plus_c (m := fun i k => if i < d + 1 ∧ k < d + 1 then at2 G i k else 0) (by have := hp.1; omega) hp.2.1 hd hpr (fun i k => by split; exact hpr'.lt (by omega) (by omega); have := hp.1; omega) ?_ ?_
    · intro i j K' hi hj hk
      obtain ⟨r, hr⟩ := get_some (show i < G.length by rw [hpr'.len]; exact hi)
      obtain ⟨x, hx⟩ := get_some (show j < r.length by rw [hpr'.row r (mem_get hr)]; exact hj)
      refine pair_Add_1.q ⟨by omega, r, hr, by omega, x, hx, ?_⟩
      rw [if_pos ⟨hi, hj⟩, at2_eq hr hx] at hk; exact hk
    · have : (mat (d + 1) fun i k => fadd p (at2 F i k) (if i < d + 1 ∧ k < d + 1 then at2 G i k else 0)) = mat (d + 1) fun i k => fadd p (at2 F i k) (at2 G i k) := tab_ext fun i hi => tab_ext fun k hk => by simp [hi, hk]
      rw [this]; exact k d rfl hd hp hpr hpr'
/-- The reference's rows, number by number. -/
theorem rows_loop {n : Nat} (hn : n ≤ 4) {g : Nat → Nat → Nat} {step : List (List Nat) × Int → (List (List Nat) × Int → Prop) → Prop}
    (hs : ∀ (i : Nat) (next : List (List Nat) × Int → Prop), i < n → (AppOk 24 (tab i (fun a => tab n (g a)) ++ [tab n (g i)]).length → next (tab i (fun a => tab n (g a)) ++ [tab n (g i)], IntKind.i64.wrap ((i : Int) + 1))) → step (tab i (fun a => tab n (g a)), (i : Int)) next)
    (he : ∀ next, step (mat n g, ((n : Nat) : Int)) next) : LoopQ (([] : List (List Nat)), (0 : Int)) step := by
  refine LoopQ.upto n (fun i t => t = (tab i (fun a => tab n (g a)), (i : Int))) rfl ?_
  rintro i _ next hi rfl hnx
  by_cases hlt : i < n
  · refine hs i next hlt fun _ => hnx hlt _ ?_
    rw [tab_snoc, wsucc (by omega)]
  · obtain rfl : i = n := by omega
    exact he next
theorem row_loop {n : Nat} (hn : n ≤ 4) {g : Nat → Nat} {step : List Nat × Int → (List Nat × Int → Prop) → Prop}
    (hs : ∀ (i : Nat) (next : List Nat × Int → Prop), i < n → (AppOk 8 (tab i g ++ [g i]).length ∧ next (tab i g ++ [g i], IntKind.i64.wrap ((i : Int) + 1))) → step (tab i g, (i : Int)) next)
    (he : ∀ next, step (tab n g, ((n : Nat) : Int)) next) : LoopQ (([] : List Nat), (0 : Int)) step := by
  refine LoopQ.upto n (fun i t => t = (tab i g, (i : Int))) rfl ?_
  rintro i _ next hi rfl hnx
  by_cases hlt : i < n
  · refine hs i next hlt ⟨AppOk.of (by simp [tab_len]; omega), hnx hlt _ ?_⟩
    rw [tab_snoc, wsucc (by omega)]
  · obtain rfl : i = n := by omega
    exact he next
theorem juntoref06_Add_c {p d : Nat} (hp0 : 0 < p) (hp : p ≤ 65537) (hd : d ≤ 3) {F : List (List Nat)} {g h : Nat → Nat → Nat} (hF : F = mat (d + 1) g) (hg : ∀ i k, i < d + 1 → k < d + 1 → g i k < p) (hh : ∀ i k, i < d + 1 → k < d + 1 → h i k < p)
    {K : List (List Nat) → Prop} (k : K (mat (d + 1) fun i k => fadd p (g i k) (h i k))) : juntoref06_Add.C p F (mat (d + 1) h) K := by
  subst hF
  apply juntoref06_Add.q
  unfold juntoref06_Add.Q
  rw [show (mat (d + 1) g).length = d + 1 from tab_len _ _]
  refine rows_loop (n := d + 1) (g := fun i k => fadd p (g i k) (h i k)) (by omega) ?_ ?_
  · intro i next hi hn
    dsimp only
    refine ctd (by omega) (row_loop (n := d + 1) (g := fun k => fadd p (g i k) (h i k)) (by omega) ?_ ?_)
    · intro j next2 hj hn2
      dsimp only
      exact ctd (by omega) ⟨by omega, _, tab_get _ hi, by omega, _, tab_get _ hi, by omega, _, tab_get _ hj, by omega, _, tab_get _ hj, juntoref01_Add_c hp0 hp (hg i j hi hj) (hh i j hi hj) hn2⟩
    · intro next2
      dsimp only
      have ha : AppOk 24 (tab i (fun a => tab (d + 1) fun k => fadd p (g a k) (h a k)) ++ [tab (d + 1) fun k => fadd p (g i k) (h i k)]).length := AppOk.of (by simp [tab_len]; omega)
      exact cfd (by omega) ⟨ha, hn ha⟩
  · intro next
    exact cfd (by dsimp only; omega) k
theorem juntoref06_Same_c {F G : List (List Nat)} (hF : Sz F) {K : Bool → Prop} (k : K (decide (F = G))) : juntoref06_Same.C F G K := by
  apply juntoref06_Same.q
  unfold juntoref06_Same.Q
  have h1 := hF.1
  by_cases hlen : F.length = G.length
  · refine cf (bne_f (by omega)) ?_
    refine LoopQ.range F.length (fun k => ∀ j, j < k → F[j]? = G[j]?) (fun j hj => by omega) (by omega) ?_ ?_
    · intro n next hk hI hn
      obtain ⟨u, hu⟩ := get_some hk
      obtain ⟨v, hv⟩ := get_some (show n < G.length by omega)
      refine ctd (by omega) ⟨by omega, u, hu, by omega, v, hv, juntoref01_Same_c (by have := hF.2 u (mem_get hu); omega) ?_⟩
      by_cases huv : u = v
      · rw [decide_eq_true huv]
        refine cf rfl (hn fun j hj => ?_)
        rcases Nat.lt_or_ge j n with h' | h'
        · exact hI j h'
        · obtain rfl : j = n := by omega
          rw [hu, hv, huv]
      · rw [decide_eq_false huv]
        rw [decide_eq_false (fun h => huv (by rw [h, hv] at hu; cases hu; rfl))] at k; exact ct rfl k
    · intro next hI
      refine cfd (by omega) ?_
      rw [decide_eq_true] at k
      · exact k
      · apply List.ext_getElem?
        intro j
        rcases Nat.lt_or_ge j F.length with h' | h'
        · exact hI j h'
        · rw [List.getElem?_eq_none h', List.getElem?_eq_none (by omega)]
  · refine ct (bne_t (by omega)) ?_
    rw [decide_eq_false (fun h => hlen (by rw [h]))] at k; exact k
end Go.Proofs.Ytlhcaangdenoaaa.Pl
