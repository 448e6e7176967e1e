import Derived.Test.YtlhcaangdenoaaaSQM
import Derived.Test.YtlhcaangdenoaaaSFnMatrix
namespace Go.Lf
end Go.Lf
namespace Go.Proofs.Ytlhcaangdenoaaa.Sh
end Go.Proofs.Ytlhcaangdenoaaa.Sh
namespace Go.Proofs.Ytlhcaangdenoaaa.Sp
end Go.Proofs.Ytlhcaangdenoaaa.Sp
namespace Go.Sx
end Go.Sx
set_option linter.unusedVariables false
set_option linter.unusedSimpArgs false
namespace Go.Proofs.Ytlhcaangdenoaaa.Pl
open Go.Sx Go.Lf Go.Proofs.Ytlhcaangdenoaaa.Sh Go.Proofs.Ytlhcaangdenoaaa.Sp
theorem add_neg {p a b x : Nat} (hp : 0 < p) (ha : a < p) (hb : b < p) (hx : x < p) : fadd p a (fmul p b (fsub p 0 x)) = fsub p a (fmul p x b) := by
  haveI : NeZero p := ⟨by omega⟩
  refine cz_inj (fadd_lt hp _ _) (fsub_lt hp _ _) ?_
  rw [cz_fadd, cz_fmul, cz_fsub (Nat.le_of_lt hx), cz_fsub (Nat.le_of_lt (fmul_lt hp _ _)), cz_fmul, cz_zero]; grind
def addJ (p : Nat) (M : Nat → Nat → Nat) (to_ from_ k j : Nat) : Nat → Nat → Nat := fun a b => if a = to_ ∧ b < j then fadd p (M a b) (fmul p (M from_ b) k) else M a b
def addM (p : Nat) (M : Nat → Nat → Nat) (to_ from_ k : Nat) : Nat → Nat → Nat := fun a b => if a = to_ then fadd p (M a b) (fmul p (M from_ b) k) else M a b
theorem grid_add_c {p n w det to_ from_ k : Nat} {lead : List Int} {M : Nat → Nat → Nat} (hp0 : 0 < p) (hp : p ≤ 65537) (hn : n ≤ 500) (hw : w ≤ 500) (hM : ∀ i k, M i k < p) (ht : to_ < n) (hf : from_ < n) (hne : to_ ≠ from_) (hk : k < p) {K : TGrid → Prop}
    (kk : K ⟨p, mat2 n w (addM p M to_ from_ k), det, lead⟩) : matrix_grid_add.C ⟨p, mat2 n w M, det, lead⟩ to_ from_ k K := by
  apply matrix_grid_add.q
  unfold matrix_grid_add.Q
  dsimp only
  rw [mat2_len]
  refine ⟨by omega, by omega, _, mat2_get _ hf, ?_⟩
  rw [tab_len]
  refine LoopQ.rangeS w (fun j t => t = mat2 n w (addJ p M to_ from_ k j)) (mat2_ext fun a b _ _ => by simp [addJ]) (by omega) ?_ ?_
  · rintro j _ next hj rfl hnx
    dsimp only
    have gf : (tab w (addJ p M to_ from_ k j from_))[j]? = some (M from_ j) := by rw [tab_get _ hj]; simp [addJ, Ne.symm hne]
    have gt : (tab w (addJ p M to_ from_ k j to_))[j]? = some (M to_ j) := by rw [tab_get _ hj]; simp [addJ]
    refine ctd (by omega) ⟨by omega, by omega, _, mat2_get _ hf, _, gf, by omega, by omega, _, mat2_get _ ht, by omega, by omega, _, mat2_get _ ht, by omega, by rw [tab_len]; omega, _, gt, field_Times_c hp0 hp (hM _ _) hk (field_Plus_c hp (hM _ _) (fmul_lt hp0 _ _) ⟨by omega, by rw [tab_len]; omega, hnx _ ?_⟩)⟩
    simp only [toNat_c]
    rw [mat2_cell]
    refine mat2_ext fun a b _ _ => ?_
    unfold addJ
    by_cases h : a = to_ ∧ b = j
    · rw [if_pos h, if_pos (by omega), h.1, h.2]
    · rw [if_neg h]
      by_cases h2 : a = to_ ∧ b < j
      · rw [if_pos h2, if_pos (by omega)]
      · rw [if_neg h2, if_neg (by omega)]
  · rintro _ next rfl
    refine cfd (by dsimp only; omega) ?_
    dsimp only
    rw [mat2_ext (M' := addM p M to_ from_ k) fun a b _ hb => by
      unfold addJ addM
      by_cases h : a = to_
      · rw [if_pos ⟨h, hb⟩, if_pos h]
      · rw [if_neg (fun h2 => h h2.1), if_neg h]]
    exact kk
theorem swap_set2 {n w top i : Nat} {M : Nat → Nat → Nat} : ((mat2 n w M).set i (tab w (M top))).set top (tab w (M i)) = mat2 n w (swapM M top i) := by
  rw [mat2_row, mat2_row]
  refine mat2_ext fun a k _ _ => ?_
  unfold swapM
  by_cases h : a = top
  · simp [h]
  · rw [if_neg h]
    by_cases h2 : a = i
    · subst h2; simp [h]
    · simp [h, h2]
theorem swap_self {M : Nat → Nat → Nat} (top : Nat) : swapM M top top = M := by
  funext a
  unfold swapM
  by_cases h : a = top
  · subst h; simp
  · simp [h]
theorem scale_loop {p n w top one : Nat} {S : Nat → Nat → Nat} (hw : w ≤ 500) {step : Int × List (List Nat) → (Int × List (List Nat) → Prop) → Prop}
    (hs : ∀ (j : Nat) (N : Nat → Nat → Nat) (next : Int × List (List Nat) → Prop), j < w → N top j = S top j → next (IntKind.i64.wrap ((j : Int) + 1), (mat2 n w N).set top ((tab w (N top)).set j (fmul p (S top j) one))) → step ((j : Int), mat2 n w N) next)
    (he : ∀ next, step ((w : Int), mat2 n w (scaleM p S top one)) next) : LoopQ ((0 : Int), mat2 n w S) step := by
  refine LoopQ.rangeS w (fun j t => t = mat2 n w (scaleJ p S top one j)) (mat2_ext fun a b _ _ => by simp [scaleJ]) (by omega) ?_ ?_
  · rintro j _ next hj rfl hnx
    refine hs j _ next hj (by simp [scaleJ]) (hnx _ ?_)
    rw [mat2_cell]
    refine mat2_ext fun a b _ _ => ?_
    unfold scaleJ
    by_cases h : a = top ∧ b = j
    · rw [if_pos h, if_pos (by omega), h.1, h.2]
    · rw [if_neg h]
      by_cases h2 : a = top ∧ b < j
      · rw [if_pos h2, if_pos (by omega)]
      · rw [if_neg h2, if_neg (by omega)]
  · rintro _ next rfl
    rw [mat2_ext (M' := scaleM p S top one) fun a b _ hb => by
      unfold scaleM scaleJ
      by_cases h : a = top
      · rw [if_pos ⟨h, hb⟩, if_pos h]
      · rw [if_neg (fun h2 => h h2.1), if_neg h]]
    exact he next
theorem grid_lift_c {p n w det top c : Nat} {lead : List Int} {M : Nat → Nat → Nat} (hp0 : 2 < p) (hp : p ≤ 65537) (hn : n ≤ 500) (hw : w ≤ 500) (hM : ∀ i k, M i k < p) (hd : det < p) (hc : c < w) {K : Bool → TGrid → Prop}
    (k0 : piv n M top c = none → K false ⟨p, mat2 n w M, det, lead⟩) (k1 : ∀ i det', piv n M top c = some i → det' < p → K true ⟨p, mat2 n w (scaleM p (swapM M top i) top (finv p (swapM M top i top c))), det', lead⟩) :
    matrix_grid_lift.C ⟨p, mat2 n w M, det, lead⟩ top c K := by
  apply matrix_grid_lift.q
  refine LoopQ.upto (n - top) (fun m t => t = (((top + m : Nat) : Int), (⟨p, mat2 n w M, det, lead⟩ : TGrid)) ∧ ∀ j, top ≤ j → j < top + m → M j c = 0) ⟨rfl, fun j h1 h2 => by omega⟩ ?_
  rintro m _ next hm ⟨rfl, hz⟩ hnx
  generalize hi : top + m = i at *
  dsimp only
  rw [mat2_len]
  by_cases hin : i < n
  · refine ctd (by omega) ⟨by omega, by omega, _, mat2_get _ hin, by omega, by rw [tab_len]; omega, _, tab_get _ hc, ?_⟩
    by_cases h0 : M i c = 0
    · refine ct (beq_t (by simp only [toNat_c]; omega)) (hnx (by omega) _ ⟨by rw [wsucc (by omega)]; congr 1; omega, fun j h1 h2 => ?_⟩)
      by_cases hj : j < i
      · exact hz j h1 hj
      · obtain rfl : j = i := by omega
        exact h0
    · have hpiv := piv_some hin (by omega) h0 hz
      have htop : top < n := by omega
      refine cf (beq_f (by simp only [toNat_c]; omega)) ?_
      by_cases hit : i = top
      · refine cf (bne_f (by omega)) (field_Times_c (by omega) hp hd (hM _ _) (field_Over_c (by omega) hp (hM _ _) ⟨by omega, by omega, _, mat2_get _ htop, ?_⟩))
        simp only [toNat_c]
        have k2 := fun det' => k1 i det' hpiv
        subst hit
        rw [swap_self] at k2
        refine scale_loop (p := p) (top := i) (one := finv p (M i c)) hw ?_ ?_
        · intro j N next2 hj hN hn2
          dsimp only
          have g : (tab w (N i))[j]? = some (M i j) := by rw [tab_get _ hj, hN]
          exact ctd (by rw [tab_len]; omega) ⟨by omega, by rw [tab_len]; omega, _, mat2_get _ hin, _, g, by omega, by omega, _, mat2_get _ hin, field_Times_c (by omega) hp (hM _ _) (finv_lt (by omega) _) ⟨by omega, by rw [tab_len]; omega, hn2⟩⟩
        · intro next2
          exact cfd (by dsimp only; rw [tab_len]; omega) (k2 _ (fmul_lt (by omega) _ _))
      · refine ct (bne_t (by omega)) ⟨by omega, by omega, _, mat2_get _ htop, by omega, by omega, _, mat2_get _ hin, by omega, by omega, by omega, by omega, field_Minus_c (by omega) hp (by omega) hd (field_Times_c (by omega) hp (fsub_lt (by omega) _ _) (hM _ _) (field_Over_c (by omega) hp (hM _ _) ⟨by omega, by omega, ?_⟩))⟩
        simp only [toNat_c]
        rw [swap_set2]
        have k2 := fun det' => k1 i det' hpiv
        have e : swapM M top i top c = M i c := by simp [swapM]
        have hS : ∀ a b, swapM M top i a b < p := fun a b => hM _ _
        rw [e] at k2
        have hone := finv_lt (p := p) (by omega) (M i c)
        generalize finv p (M i c) = one at *
        generalize swapM M top i = S at *
        refine ⟨_, mat2_get _ htop, ?_⟩
        rw [tab_len]
        refine scale_loop (p := p) (top := top) (one := one) hw ?_ ?_
        · intro j N next2 hj hN hn2
          dsimp only
          have g : (tab w (N top))[j]? = some (S top j) := by rw [tab_get _ hj, hN]
          exact ctd (by omega) ⟨by omega, by omega, _, mat2_get _ htop, _, g, by omega, by omega, _, mat2_get _ htop, field_Times_c (by omega) hp (hS _ _) hone ⟨by omega, by rw [tab_len]; omega, hn2⟩⟩
        · intro next2
          exact cfd (by dsimp only; omega) (k2 _ (fmul_lt (by omega) _ _))
  · exact cfd (by omega) (k0 (piv_none fun j h1 h2 => hz j h1 (by omega)))
theorem piv_full {n : Nat} {M : Nat → Nat → Nat} {top c : Nat} (h : n ≤ top) : piv n M top c = none := piv_none fun j h1 h2 => by omega
theorem run_full {p n : Nat} {M : Nat → Nat → Nat} {c : Nat} (h : n ≤ (El.run p n M c).lead.length) : ∀ m, El.run p n M (c + m) = El.run p n M c
  | 0 => rfl
  | m + 1 => by
    rw [← Nat.add_assoc, El.run, run_full h m, El.step, piv_full h]
theorem piv_lt {n : Nat} {M : Nat → Nat → Nat} {top c i : Nat} (h : piv n M top c = some i) : top ≤ i ∧ i < n := by
  unfold piv at h
  rw [List.find?_range_eq_some] at h
  obtain ⟨h1, h2, _⟩ := h
  simp at h1 h2
  exact ⟨h1.1, h2⟩
theorem run_leadn (p n : Nat) (M : Nat → Nat → Nat) : ∀ c, (El.run p n M c).lead.length ≤ n
  | 0 => Nat.zero_le _
  | c + 1 => by
    have ih := run_leadn p n M c
    rw [El.run, El.step]
    cases h : piv n (El.run p n M c).M (El.run p n M c).lead.length c with
    | none => exact ih
    | some i => have := piv_lt h; simp; omega
theorem grid_reduce_c {p n w det cols : Nat} {M : Nat → Nat → Nat} (hp0 : 2 < p) (hp : p ≤ 65537) (hn : n ≤ 500) (hw : w ≤ 500) (hM : ∀ i k, M i k < p) (hd : det < p) (hc : cols ≤ w) {K : TGrid → Prop}
    (k : ∀ det', K ⟨p, mat2 n w (El.run p n M cols).M, det', ints (El.run p n M cols).lead⟩) : matrix_grid_reduce.C ⟨p, mat2 n w M, det, []⟩ cols K := by
  apply matrix_grid_reduce.q
  refine LoopQ.upto cols (fun c t => ∃ det', det' < p ∧ t = ((c : Int), (⟨p, mat2 n w (El.run p n M c).M, det', ints (El.run p n M c).lead⟩ : TGrid))) ⟨det, hd, rfl⟩ ?_
  rintro c _ next hcc ⟨det', hd', rfl⟩ hnx
  dsimp only
  rw [ints_len, mat2_len]
  by_cases hlast : c < cols
  · refine ctd (by omega) ?_
    by_cases hfull : n ≤ (El.run p n M c).lead.length
    · refine cfd (by omega) ?_
      have e := run_full hfull (cols - c)
      rw [show c + (cols - c) = cols by omega] at e
      rw [e] at k; exact k _
    refine ctd (by omega) ?_
    have hlen := run_len p n M c
    have hlt := run_lt (n := n) (show 0 < p by omega) hM c
    have hstep : El.run p n M (c + 1) = (El.run p n M c).step p n c := rfl
    rw [hstep] at hnx
    clear hstep k
    generalize El.run p n M c = s at *
    refine grid_lift_c hp0 hp hn hw hlt hd' (by omega) ?_ ?_
    · intro hpiv
      refine ct rfl (hnx hlast _ ⟨det', hd', ?_⟩)
      unfold El.step; rw [hpiv, wsucc (by omega)]
    · intro i det2 hpiv hd2
      refine cf rfl ?_
      have hnx3 : next (IntKind.i64.wrap ((c : Int) + 1), (⟨p, mat2 n w (pivM p s.M s.lead.length c i), det2, ints s.lead ++ [(c : Int)]⟩ : TGrid)) := by
        refine hnx hlast _ ⟨det2, hd2, ?_⟩
        unfold El.step; rw [hpiv, wsucc (by omega)]
        simp [ints]
      have hS : ∀ a b, swapM s.M s.lead.length i a b < p := fun a b => hlt _ _
      unfold pivM at hnx3
      have hil := ints_len s.lead
      have htop : s.lead.length < n := by omega
      generalize swapM s.M s.lead.length i = S at *
      generalize s.lead.length = top at *
      generalize finv p (S top c) = one at *
      have hT : ∀ a b, scaleM p S top one a b < p := fun a b => by
        unfold scaleM; split
        · exact fmul_lt (by omega) _ _
        · exact hS _ _
      generalize scaleM p S top one = T at *
      dsimp only
      rw [mat2_len]
      refine LoopQ.rangeS n (fun j t => t = (⟨p, mat2 n w fun a b => if a < j then elimM p T top c a b else T a b, det2, ints s.lead⟩ : TGrid)) (by congr 1) (by omega) ?_ ?_
      · rintro j _ next4 hj rfl hnx4
        dsimp only
        rw [mat2_len]
        refine ctd (by omega) ?_
        by_cases hjt : j = top
        · subst hjt
          refine cf (bne_f rfl) (hnx4 _ (by
            congr 1
            refine mat2_ext fun a b _ _ => ?_
            by_cases ha : a < j
            · rw [if_pos ha, if_pos (by omega)]
            · rw [if_neg ha]
              by_cases ha2 : a < j + 1
              · obtain rfl : a = j := by omega
                rw [if_pos ha2]; simp [elimM]
              · rw [if_neg ha2]))
        · have hE : ∀ a b, (fun a b => if a < j then elimM p T top c a b else T a b) a b < p := fun a b => by
            dsimp only
            split
            · unfold elimM; split
              · exact hT _ _
              · exact fsub_lt (by omega) _ _
            · exact hT _ _
          have g1 := mat2_get (n := n) (w := w) (fun a b => if a < j then elimM p T top c a b else T a b) hj
          simp only [Nat.lt_irrefl, if_false] at g1
          refine ct (bne_t (by omega)) ⟨by omega, by omega, _, g1, by omega, by rw [tab_len]; omega, _, tab_get _ (show c < w by omega), field_Minus_c (by omega) hp (by omega) (hT _ _) (grid_add_c (by omega) hp hn hw hE hj htop hjt (fsub_lt (by omega) _ _) (hnx4 _ ?_))⟩
          simp only [toNat_c]
          congr 1
          refine mat2_ext fun a b _ _ => ?_
          unfold addM
          by_cases ha : a = j
          · subst ha
            rw [if_pos rfl]
            have : (if top < a then elimM p T top c top b else T top b) = T top b := by split <;> simp [elimM]
            show fadd p (if a < a then elimM p T top c a b else T a b) (fmul p (if top < a then elimM p T top c top b else T top b) (fsub p 0 (T a c))) = (if a < a + 1 then elimM p T top c a b else T a b)
            rw [this, if_neg (Nat.lt_irrefl a), if_pos (Nat.lt_succ_self a), elimM, if_neg hjt]
            exact add_neg (by omega) (hT _ _) (hT _ _) (hT _ _)
          · rw [if_neg ha]
            dsimp only
            by_cases h2 : a < j
            · rw [if_pos h2, if_pos (by omega)]
            · rw [if_neg h2, if_neg (by omega)]
      rintro _ next4 rfl
      refine cfd (by omega) ⟨AppOk.of (by rw [List.length_append, hil]; simp; omega), ?_⟩
      rw [mat2_ext (M' := elimM p T top c) fun a b ha _ => by rw [if_pos ha]]
      exact hnx3
  · obtain rfl : c = cols := by omega
    exact cfd (by omega) (k _)
end Go.Proofs.Ytlhcaangdenoaaa.Pl
