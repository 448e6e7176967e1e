import Derived.Test.YtlhcaangdenoaaaUQ6
namespace Go.Lf
end Go.Lf
namespace Go.Proofs.Ytlhcaangdenoaaa.Sh
end Go.Proofs.Ytlhcaangdenoaaa.Sh
namespace Go.Proofs.Ytlhcaangdenoaaa.Sp
end Go.Proofs.Ytlhcaangdenoaaa.Sp
namespace Go.Sx
end Go.Sx
set_option linter.unusedVariables false
namespace Go.Proofs.Ytlhcaangdenoaaa.Pl
open Go.Sx Go.Lf Go.Proofs.Ytlhcaangdenoaaa.Sh Go.Proofs.Ytlhcaangdenoaaa.Sp
def sizeN (d : Nat) : Nat := (d + 1) * (d + 2) / 2 - 1
theorem sizeN_le {d : Nat} (hd : d ≤ 3) : sizeN d ≤ 9 := by
  have : d = 0 ∨ d = 1 ∨ d = 2 ∨ d = 3 := by omega
  rcases this with rfl | rfl | rfl | rfl <;> decide
noncomputable def sizeC (t : Int) : Int := if t < 0 ∨ 3 < t then 0 else (sizeN t.toNat : Nat)
theorem sizeC_of {d : Nat} (hd : d ≤ 3) : sizeC d = (sizeN d : Nat) := by unfold sizeC; rw [if_neg (by omega), toNat_c]
theorem size_key {t : Int} (h0 : ¬ t < 0) (h3 : ¬ t > 3) : IntKind.i64.wrap ((IntKind.i64.wrap (Int.tdiv (IntKind.i64.wrap ((IntKind.i64.wrap (t + 1)) * (IntKind.i64.wrap (t + 2)))) 2)) - 1) = sizeC t := by
  have : t = 0 ∨ t = 1 ∨ t = 2 ∨ t = 3 := by omega
  rcases this with rfl | rfl | rfl | rfl <;> decide +kernel
theorem pair_Size_c {t : Int} {K : Int → Prop} (k : K (sizeC t)) : pair_Size.C t K := by
  apply pair_Size.q
  unfold pair_Size.Q
  by_cases h0 : t < 0
  · unfold sizeC at k; rw [if_pos (.inl h0)] at k; exact ctd h0 k
  refine cfd h0 ?_
  by_cases h3 : t > 3
  · unfold sizeC at k; rw [if_pos (.inr h3)] at k; exact ctd h3 k
  refine cfd h3 ⟨by decide, ?_⟩
  rw [size_key h0 h3]; exact k
def off (n : Nat) : Nat → Nat
  | 0 => 0
  | i + 1 => off n i + (n - i)
def ix (n i k : Nat) : Nat := off n i + (k - i)
def mkG (n : Nat) (L : List Nat) (a b : Nat) : Nat := L.getD (ix n (min a b) (max a b)) 0
def mkM (n : Nat) (L : List Nat) : List (List Nat) := mat n (mkG n L)
def mkP (n : Nat) (L : List Nat) (i j a b : Nat) : Nat := if min a b < i ∨ (min a b = i ∧ max a b < i + j) then mkG n L a b else 0
theorem off_lt : ∀ n, n < 5 → ∀ i, i < n → ∀ j, j < n - i → off n i + j < n * (n + 1) / 2 := by decide
theorem mkP_zero (n : Nat) (L : List Nat) : mat n (mkP n L 0 0) = mat n fun _ _ => 0 :=
  tab_ext fun a ha => tab_ext fun b hb => by unfold mkP; rw [if_neg (by omega)]
theorem mkP_all (n : Nat) (L : List Nat) : mat n (mkP n L n 0) = mkM n L :=
  tab_ext fun a ha => tab_ext fun b hb => by unfold mkP; rw [if_pos (by omega)]
theorem mkP_row (n : Nat) (L : List Nat) {i : Nat} (hi : i < n) : mat n (mkP n L i (n - i)) = mat n (mkP n L (i + 1) 0) :=
  tab_ext fun a ha => tab_ext fun b hb => by
    unfold mkP
    by_cases h : min a b < i + 1 ∨ min a b = i + 1 ∧ max a b < i + 1 + 0
    · rw [if_pos h, if_pos (by omega)]
    · rw [if_neg h, if_neg (by omega)]
theorem mkP_step {n i j x : Nat} {L : List Nat} (hi : i < n) (hj : i + j < n) (hx : L[off n i + j]? = some x) :
    mat n (fun a b => if a = i + j ∧ b = i then x else if a = i ∧ b = i + j then x else mkP n L i j a b) = mat n (mkP n L i (j + 1)) :=
  tab_ext fun a ha => tab_ext fun b hb => by
    have key : min a b = i → max a b = i + j → mkG n L a b = x := fun h1 h2 => by
      unfold mkG ix; rw [h1, h2, show i + j - i = j by omega, List.getD_eq_getElem?_getD, hx]; rfl
    unfold mkP
    dsimp only
    by_cases h1 : a = i + j ∧ b = i
    · rw [if_pos h1, if_pos (by omega), key (by omega) (by omega)]
    · rw [if_neg h1]
      by_cases h2 : a = i ∧ b = i + j
      · rw [if_pos h2, if_pos (by omega), key (by omega) (by omega)]
      · rw [if_neg h2]
        by_cases h3 : min a b < i ∨ min a b = i ∧ max a b < i + j
        · rw [if_pos h3, if_pos (by omega)]
        · rw [if_neg h3, if_neg (by omega)]
theorem rows_c {n : Nat} {next : Nat → List (List Nat)} : (List.replicate n ([] : List Nat)) = tab n fun i => if i < 0 then List.replicate n 0 else [] := by rw [tab_rep]; exact tab_ext fun i _ => by simp
theorem rows_set {n k : Nat} : (tab n fun i => if i < k then List.replicate n 0 else []).set k (List.replicate n 0) = tab n fun i => if i < k + 1 then List.replicate n 0 else [] := by
  rw [tab_set]
  refine tab_ext fun i hi => ?_
  by_cases h : i = k
  · subst h; simp
  · rw [if_neg h]
    by_cases h2 : i < k
    · rw [if_pos h2, if_pos (by omega)]
    · rw [if_neg h2, if_neg (by omega)]
theorem rows_all (n : Nat) : (tab n fun i => if i < n then List.replicate n 0 else []) = mat n fun _ _ => 0 :=
  tab_ext fun i hi => by rw [if_pos hi, tab_rep]
theorem drop_get {α : Type} {l : List α} {k : Nat} {x : α} (h : l[k]? = some x) : (l.drop k)[0]? = some x := by rw [List.getElem?_drop]; exact h
theorem pair_Of_c {secret d : Nat} {l : List Nat} (hd : d ≤ 3) (hn : l.length = sizeN d) {K : List (List Nat) → Prop} (k : K (mkM (d + 1) (secret :: l))) : pair_Of.C secret d l K := by
  have hsz := sizeN_le hd
  have hL : (secret :: l).length = (d + 1) * (d + 1 + 1) / 2 := by
    have : d = 0 ∨ d = 1 ∨ d = 2 ∨ d = 3 := by omega
    rcases this with rfl | rfl | rfl | rfl <;> simp [hn, sizeN]
  apply pair_Of.q
  unfold pair_Of.Q
  rw [wsucc (k := d) (by omega), toNat_c]
  refine ⟨MakeOk.of (by omega) (by omega), ?_⟩
  rw [rows_c (next := fun _ => [])]
  refine LoopQ.rangeS (d + 1) (fun k s => s = tab (d + 1) fun i => if i < k then List.replicate (d + 1) 0 else []) rfl (by omega) ?_ ?_
  · rintro j _ next hj rfl hnx
    refine ctd (by dsimp only; omega) ⟨MakeOk.of (by omega) (by omega), by dsimp only; omega, by dsimp only; omega, hnx _ rows_set⟩
  rintro _ next rfl
  refine cfd (by dsimp only; omega) ⟨AppOk.of (by simp; omega), ?_⟩
  rw [show [secret] ++ l = secret :: l from rfl]
  dsimp only
  rw [rows_all, ← mkP_zero (d + 1) (secret :: l)]
  generalize hLL : secret :: l = L at *
  clear next
  refine LoopQ.upto (d + 1) (fun i t => t.2.1 = i ∧ t.1 = L.drop (off (d + 1) i) ∧ t.2.2 = mat (d + 1) (mkP (d + 1) L i 0)) ⟨rfl, rfl, rfl⟩ ?_
  rintro i ⟨_, _, _⟩ next hi ⟨rfl, rfl, rfl⟩ hnx
  dsimp only
  by_cases hlt : i < d + 1
  rotate_left
  · obtain rfl : i = d + 1 := by omega
    rw [mkP_all]
    exact cfd (by omega) k
  refine ctd (by omega) ?_
  refine LoopQ.upto (d + 1 - i) (fun j t => t.2.1 = ((i + j : Nat) : Int) ∧ t.1 = L.drop (off (d + 1) i + j) ∧ t.2.2 = mat (d + 1) (mkP (d + 1) L i j)) ⟨rfl, rfl, rfl⟩ ?_
  rintro j ⟨_, _, _⟩ next2 hj ⟨rfl, rfl, rfl⟩ hnx2
  dsimp only
  by_cases hjl : j < d + 1 - i
  · obtain ⟨x, hx⟩ := get_some (show off (d + 1) i + j < L.length by rw [hL]; exact off_lt (d + 1) (by omega) i hlt j hjl)
    refine ctd (by omega) ⟨by omega, by omega, by omega, by omega, by decide, x, drop_get hx, by decide, x, drop_get hx, _, tab_get _ hlt, _, tab_get _ (show i + j < d + 1 by omega), by omega, by rw [tab_len]; omega, by omega, by rw [tab_len]; omega, ?_⟩
    simp only [toNat_c]
    rw [mat_set]
    refine ⟨_, tab_get _ (show i + j < d + 1 by omega), by rw [tab_len]; omega, by decide, ?_, ?_⟩
    · have := lt_get hx; simp; omega
    rw [mat_set (fun a b => if a = i ∧ b = i + j then x else mkP (d + 1) L i j a b), mkP_step hlt (by omega) hx]
    refine hnx2 hjl _ ⟨wsucc (k := i + j) (by omega), ?_, rfl⟩
    dsimp only; rw [List.drop_drop]; congr 1
  · refine cfd (by omega) ?_
    obtain rfl : j = d + 1 - i := by omega
    rw [mkP_row _ _ hlt]
    exact hnx hlt _ ⟨wsucc (k := i) (by omega), rfl, rfl⟩
noncomputable def mk (p secret d : Nat) (tape : List Nat) : List (List Nat) := mkM (d + 1) (secret :: takeN p tape (sizeN d))
theorem pair_Make_c {p secret : Nat} {t : Int} {tape : List Nat} (ht : tape.length ≤ 17592186044416) {K : List (List Nat) → List Nat → Int → Prop}
    (kbad : (groundC p t ≠ 0 ∨ p ≤ secret) → K [] [] 2) (k : ∀ d : Nat, t = d → d ≤ 3 → isP p → groundC p t = 0 → secret < p → K (mk p secret d tape) (tape.drop (sizeN d)) 0) : pair_Make.C p secret t tape K := by
  refine pair_Make.q (pair_ground_c ?_)
  rcases ground_cases p t with hg | ⟨hg, hp, d, rfl, hd⟩
  · rw [hg]; exact ct rfl (kbad (.inl (by rw [hg]; decide)))
  rw [hg]
  refine cf rfl ?_
  by_cases hs : p ≤ secret
  · exact ctd (by omega) (kbad (.inr hs))
  refine cfd (by omega) (pair_Size_c ?_)
  have hsz := sizeN_le hd
  rw [sizeC_of hd]
  exact field_Take_c (by have := hp.1; omega) (by omega) ht (pair_Of_c hd (takeN_len _ _ _) (k d rfl hd hp hg (by omega)))
theorem takeN_lt {p n : Nat} {tape : List Nat} (hp : 0 < p) {x : Nat} (h : x ∈ takeN p tape n) : x < p := by
  unfold takeN at h
  obtain ⟨i, _, rfl⟩ := List.mem_map.1 h
  cases tape[i]? with
  | none => exact hp
  | some y => exact Nat.mod_lt _ hp
theorem getD_lt {p : Nat} (hp : 0 < p) {L : List Nat} (h : ∀ x ∈ L, x < p) (i : Nat) : L.getD i 0 < p := by
  rw [List.getD_eq_getElem?_getD]
  cases hx : L[i]? with
  | none => exact hp
  | some y => exact h y (mem_get hx)
theorem mkM_pr {p d : Nat} (hp : 0 < p) {L : List Nat} (h : ∀ x ∈ L, x < p) : Pr p d (mkM (d + 1) L) :=
  Pr.of_mat (fun i k _ _ => getD_lt hp h _) (fun i k _ _ => by unfold mkG; rw [Nat.min_comm, Nat.max_comm])
theorem mk_pr {p secret d : Nat} {tape : List Nat} (hp : 0 < p) (hs : secret < p) : Pr p d (mk p secret d tape) :=
  mkM_pr hp fun x hx => by
    rcases List.mem_cons.1 hx with rfl | hx
    · exact hs
    · exact takeN_lt hp hx
theorem Pr.sz {p d : Nat} {F : List (List Nat)} (hd : d ≤ 3) (h : Pr p d F) : Sz F := ⟨by rw [h.len]; omega, fun r hr => by rw [h.row r hr]; omega⟩
theorem juntoref06_Same_c {F G : List (List Nat)} (hF : Sz F) {K : Bool → Prop} (k : K (decide (F = G))) : juntoref06_Same.C F G K := by
  apply juntoref06_Same.q
  unfold juntoref06_Same.Q
  have h1 := hF.1
  by_cases hlen : F.length = G.length
  · refine cf (bne_f (by omega)) ?_
    refine LoopQ.range F.length (fun k => ∀ j, j < k → F[j]? = G[j]?) (fun j hj => by omega) (by omega) ?_ ?_
    · intro n next hk hI hn
      obtain ⟨u, hu⟩ := get_some hk
      obtain ⟨v, hv⟩ := get_some (show n < G.length by omega)
      refine ctd (by omega) ⟨by omega, u, hu, by omega, v, hv, juntoref01_Same_c (by have := hF.2 u (mem_get hu); omega) ?_⟩
      by_cases huv : u = v
      · rw [decide_eq_true huv]
        refine cf rfl (hn fun j hj => ?_)
        rcases Nat.lt_or_ge j n with h' | h'
        · exact hI j h'
        · obtain rfl : j = n := by omega
          rw [hu, hv, huv]
      · rw [decide_eq_false huv]
        rw [decide_eq_false (fun h => huv (by rw [h, hv] at hu; cases hu; rfl))] at k; exact ct rfl k
    · intro next hI
      refine cfd (by omega) ?_
      rw [decide_eq_true] at k
      · exact k
      · apply List.ext_getElem?
        intro j
        rcases Nat.lt_or_ge j F.length with h' | h'
        · exact hI j h'
        · rw [List.getElem?_eq_none h', List.getElem?_eq_none (by omega)]
  · refine ct (bne_t (by omega)) ?_
    rw [decide_eq_false (fun h => hlen (by rw [h]))] at k; exact k
end Go.Proofs.Ytlhcaangdenoaaa.Pl
