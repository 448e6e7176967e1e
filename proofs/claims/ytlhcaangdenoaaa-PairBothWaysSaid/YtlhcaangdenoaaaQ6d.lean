import Derived.Test.YtlhcaangdenoaaaQ6c
import Derived.Test.YtlhcaangdenoaaaLfPairTapes
import Derived.Test.YtlhcaangdenoaaaLfPairSums
import Derived.Test.YtlhcaangdenoaaaLfPairLifts
import Derived.Test.YtlhcaangdenoaaaLfPairBothWays
set_option linter.unusedVariables false
set_option linter.unusedSimpArgs false
namespace Go.Proofs.Ytlhcaangdenoaaa.Pl
open Go.Sx Go.Lf Go.Proofs.Ytlhcaangdenoaaa.Sh Go.Proofs.Ytlhcaangdenoaaa.Sp

theorem sz_of {Z : Nat → Prop} {H : Heap} {A : Option Addr} {c : Nat} {F : List (List Nat)} (h : SlF (slL u64L) Z H A c F) : Sz F :=
  ⟨h.lt, fun r hr => by
    obtain ⟨i, hi⟩ := List.mem_iff_getElem?.1 hr
    obtain ⟨a, cs, _, ⟨A', c', _, hs⟩, _⟩ := h.get i r hi
    exact hs.lt⟩
theorem sz_nil : Sz [] := ⟨by simp, fun r h => by cases h⟩
theorem PairTapes_c {p : Nat} {t : Int} {F : List (List Nat)} (hF : Sz F) : juntolaw06_PairTapes.C p t F fun b => b = true := by
  refine juntolaw06_PairTapes.q (pair_Tape_c hF ?_ ?_)
  · intro hbad
    refine juntoref06_Check_c (by simp) (by simpa using hF) ?_
    rw [checkL_one]
    refine ct (bne_t hbad) (ct rfl (list_bad hbad rfl rfl (ct rfl (alive_c rfl))))
  · intro d x ht hd hp hpr hx
    subst ht
    refine juntoref06_Check_c (by simp) (by simpa using hF) ?_
    rw [checkL_one, check_ok hp hd hpr]
    refine cf rfl (juntoref06_Tape_c hd hpr ?_)
    intro x' hx'
    rw [hx] at hx'; cases hx'
    obtain ⟨hm, hl, hlt⟩ := upper_mat d hd hpr
    have hsz := sizeN_le hd
    have hg : groundC p d = 0 := by unfold groundC; rw [if_pos ⟨hp, by omega, by omega⟩]
    refine pair_Make_c (by simp; omega) ?_ ?_
    · rintro (h | h)
      · exact (h hg).elim
      · exact absurd (hlt x (mem_get hx)) (by omega)
    · intro d' hd' _ _ _ _
      obtain rfl : d = d' := by omega
      have hn : ((upper F (d + 1)).drop 1).length = sizeN d := by simp; omega
      have e1 : mk p x d ((upper F (d + 1)).drop 1) = F := by
        unfold mk
        have : takeN p ((upper F (d + 1)).drop 1) (sizeN d) = (upper F (d + 1)).drop 1 := by
          symm
          refine tab_of hn fun i y hy => ?_
          rw [hy]
          have := hlt y (List.mem_of_mem_drop (mem_get hy))
          simp [Nat.mod_eq_of_lt this]
        rw [this]
        have e2 : x :: (upper F (d + 1)).drop 1 = upper F (d + 1) := by
          cases hu : upper F (d + 1) with
          | nil => rw [hu] at hx; simp at hx
          | cons a l => rw [hu] at hx; simp at hx; simp [hx]
        rw [e2]; exact hm
      rw [e1, List.drop_of_length_le (Nat.le_of_eq hn)]
      exact ct (beq_t rfl) (list_ok (by omega) rfl (ct rfl (is_ok hF rfl (ct rfl (ct rfl (alive_c rfl))))))
theorem PairSums_c {p : Nat} {q : TShape} {G : List (List Nat)} (hF : Sz q.F) (hG : Sz G) : juntolaw06_PairSums.C p q G fun b => b = true := by
  refine juntolaw06_PairSums.q (pair_Add_c hF hG ?_ ?_)
  · intro hbad
    refine juntoref06_Check_c (by simp) (by simpa using ⟨hF, hG⟩) ?_
    exact ct (bne_t hbad) (is_bad hbad rfl rfl (ct rfl (alive_c rfl)))
  · intro d ht hd hp hpr hpr'
    refine juntoref06_Check_c (by simp) (by simpa using ⟨hF, hG⟩) ?_
    have hp1 := hp.1
    rw [checkL_two, ht, check_ok hp hd hpr, if_pos rfl, check_ok hp hd hpr']
    have e := juntoref06_Add_c (p := p) (d := d) (by omega) hp.2.1 hd hpr.mat (fun i k hi hk => hpr.lt hi hk) (fun i k hi hk => hpr'.lt hi hk) (K := fun x4 => juntolaw06_is.C (mat (d + 1) fun i k => fadd p (at2 q.F i k) (at2 G i k)) 0 x4 0 fun b => b = true)
      (is_ok ⟨by simp [mat, tab_len]; omega, fun r hr => by obtain ⟨i, _, rfl⟩ := tab_mem hr; rw [tab_len]; omega⟩ rfl rfl)
    rw [← hpr'.mat] at e
    exact cf rfl e
theorem PairLifts_c {p : Nat} {q : TShape} {z : TLifted} (hF : Sz q.F) (hz : z.Z.length ≤ 17592186044416) : juntolaw06_PairLifts.C p q z fun b => b = true := by
  refine juntolaw06_PairLifts.q (pair_Lift_c hF hz ?_ ?_)
  · rintro e (⟨hbad, rfl⟩ | ⟨h0, hbad, rfl⟩)
    · refine juntoref06_Check_c (by simp) (by simpa using hF) ?_
      rw [checkL_one]
      exact cf (beq_f hbad) (ct (bne_t hbad) (is_bad hbad rfl rfl (ct rfl (alive_c rfl))))
    · refine juntoref06_Check_c (by simp) (by simpa using hF) ?_
      rw [checkL_one, h0]
      rcases check_cases p q.T_ q.F with h | ⟨_, hp, d, ht, hd, hpr⟩
      · exact (h h0).elim
      exact ct rfl (lift_c (by omega) (by omega) hz (ct (bne_t hbad) (is_bad hbad rfl rfl (ct rfl (alive_c rfl)))))
  · intro d ht hd hp hpr h0 hl hk hzl hzb
    have hp1 := hp.1
    refine juntoref06_Check_c (by simp) (by simpa using hF) ?_
    rw [checkL_one, h0]
    refine ct rfl (lift_c (by omega) (by omega) hz ?_)
    rw [hl]
    exact cf rfl (juntoref06_Lift_c (by omega) hp.2.1 hd hk hzb hzl hpr (is_ok ⟨by simp [liftM, mat, tab_len]; omega, fun r hr => by obtain ⟨i, _, rfl⟩ := tab_mem hr; rw [tab_len]; omega⟩ rfl (ct rfl (alive_c rfl))))

/-! ### A pair is the same both ways -/
theorem cz_psum {p : Nat} [NeZero p] (g : Nat → Nat) : ∀ m, cz p (psum p g m) = (List.range m).foldr (fun i v => cz p (g i) + v) 0
  | 0 => rfl
  | m + 1 => by
    rw [psum, cz_fadd, cz_psum g m, List.range_succ, List.foldr_append]
    simp only [List.foldr_cons, List.foldr_nil]
    have : ∀ (l : List Nat) (a : Fin p), l.foldr (fun i v => cz p (g i) + v) (a + 0) = l.foldr (fun i v => cz p (g i) + v) 0 + a := by
      intro l a
      induction l with
      | nil => simp
      | cons x l ih => rw [List.foldr_cons, List.foldr_cons, ih]; grind
    rw [this]
theorem both_ways {p d : Nat} (hp : 1 < p) (hd : d ≤ 3) {F : List (List Nat)} (h : Pr p d F) (x y : Nat) : evalH p (rowOf p d F x) y = evalH p (rowOf p d F y) x := by
  haveI : NeZero p := ⟨by omega⟩
  unfold rowOf
  rw [evalH_short hp, evalH_short hp]
  refine cz_inj (evalH_lt (by omega) _ _) (evalH_lt (by omega) _ _) ?_
  rw [pv_evalH, pv_evalH]
  have hs := h.sym
  have : d = 0 ∨ d = 1 ∨ d = 2 ∨ d = 3 := by omega
  unfold rowV tab
  rcases this with rfl | rfl | rfl | rfl
  · simp [List.range_succ, pv_cons, pv_nil, psum, cz_fadd, cz_fmul, cz_fpow, cz_zero]; grind
  · simp [List.range_succ, pv_cons, pv_nil, psum, cz_fadd, cz_fmul, cz_fpow, cz_zero, hs 1 0 (by omega) (by omega)]; grind
  · simp [List.range_succ, pv_cons, pv_nil, psum, cz_fadd, cz_fmul, cz_fpow, cz_zero, hs 1 0 (by omega) (by omega), hs 2 0 (by omega) (by omega), hs 2 1 (by omega) (by omega)]; grind
  · simp [List.range_succ, pv_cons, pv_nil, psum, cz_fadd, cz_fmul, cz_fpow, cz_zero, hs 1 0 (by omega) (by omega), hs 2 0 (by omega) (by omega), hs 2 1 (by omega) (by omega), hs 3 0 (by omega) (by omega), hs 3 1 (by omega) (by omega), hs 3 2 (by omega) (by omega)]; grind
theorem PairBothWays_c {p : Nat} {q : TSecret} {a : Nat × Nat} (hT : q.Tape.length ≤ 17592186044416) : juntolaw06_PairBothWays.C p q a fun b => b = true := by
  refine juntolaw06_PairBothWays.q (pair_Make_c hT ?_ ?_)
  · intro _; exact ct rfl (alive_c rfl)
  · intro d ht hd hp hg hs
    have hp1 := hp.1
    have hpr : Pr p d (mk p q.Value d q.Tape) := mk_pr (by omega) hs
    refine cf rfl ?_
    by_cases hx : p ≤ a.1
    · exact ctd (by omega) (alive_c rfl)
    refine cfd (by omega) ?_
    by_cases hy : p ≤ a.2
    · exact ctd (by omega) (alive_c rfl)
    refine cfd (by omega) ?_
    have hsz := hpr.sz hd
    have hck := check_ok hp hd hpr
    rw [ht]
    have hrow : ∀ (x : Nat) (K : List Nat → Int → Prop), x < p → K (rowOf p d (mk p q.Value d q.Tape) x) 0 → pair_Row.C p d (mk p q.Value d q.Tape) x K := fun x K hx k => by
      refine pair_Row_c hsz ?_ ?_
      · rintro e (⟨h, _⟩ | ⟨_, h, _⟩)
        · exact (h hck).elim
        · omega
      · intro d' hd' _ _ _ _
        obtain rfl : d = d' := by omega
        exact k
    have hat : ∀ (x y : Nat) (K : Nat → Int → Prop), x < p → y < p → K (evalH p (rowOf p d (mk p q.Value d q.Tape) x) y) 0 → pair_At.C p d (mk p q.Value d q.Tape) x y K := fun x y K hx hy k => by
      refine pair_At_c hsz ?_ ?_
      · rintro e (⟨h, _⟩ | ⟨_, h | h, _⟩)
        · exact (h hck).elim
        · omega
        · omega
      · intro d' hd' _ _ _ _ _
        obtain rfl : d = d' := by omega
        exact k
    have hb := both_ways (by omega) hd hpr a.1 a.2
    have hev : ∀ (x y : Nat) (K : Nat → Prop), y < p → K (evalH p (rowOf p d (mk p q.Value d q.Tape) x) y) → juntoref02_Eval.C p (rowOf p d (mk p q.Value d q.Tape) x) y K := fun x y K hy k =>
      juntoref02_Eval_c (by omega) hp.2.1 hy (fun a ha => rowOf_lt (by omega) ha) (by have := rowOf_len p d (mk p q.Value d q.Tape) x; omega) k
    refine hat _ _ _ (by omega) (by omega) (hat _ _ _ (by omega) (by omega) (hrow _ _ (by omega) (hrow _ _ (by omega) ?_)))
    refine ct (beq_t (by rw [hb])) (hev _ _ _ (by omega) (ct (beq_t rfl) (hev _ _ _ (by omega) (ct (beq_t (by rw [hb])) (alive_c rfl)))))
end Go.Proofs.Ytlhcaangdenoaaa.Pl
