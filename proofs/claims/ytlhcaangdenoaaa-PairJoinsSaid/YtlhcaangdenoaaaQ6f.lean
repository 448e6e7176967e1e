import Derived.Test.YtlhcaangdenoaaaQ6e
import Derived.Test.YtlhcaangdenoaaaQP
import Derived.Test.YtlhcaangdenoaaaFnPairNothing
set_option linter.unusedVariables false
set_option linter.unusedSimpArgs false
namespace Go.Proofs.Ytlhcaangdenoaaa.Pl
open Go.Sx Go.Lf Go.Proofs.Ytlhcaangdenoaaa.Sh Go.Proofs.Ytlhcaangdenoaaa.Sp

theorem fmul_comm (p a b : Nat) : fmul p a b = fmul p b a := by unfold fmul; rw [Nat.mul_comm]
theorem liftM_pr {p d k : Nat} (hp : 0 < p) (z : List Nat) {F : List (List Nat)} (h : Pr p d F) : Pr p d (liftM p d k z F) :=
  Pr.of_mat (fun i j _ _ => fadd_lt hp _ _) (fun i j hi hj => by rw [h.sym i j hi hj]; unfold liftG; rw [fmul_comm p (zat z i)])
section
variable {p : Nat} [NeZero p]
theorem cz_lift (d k : Nat) (z : List Nat) (F : List (List Nat)) {i j : Nat} (hi : i < d + 1) (hj : j < d + 1) : cz p (at2 (liftM p d k z F) i j) = cz p (at2 F i j) + cz p k * (cz p (zat z i) * cz p (zat z j)) := by
  unfold liftM; rw [at2_mat _ hi hj, cz_fadd]; unfold liftG; rw [cz_fmul, cz_fmul]
theorem pv_zat (z : List Nat) {n : Nat} (h : z.length ≤ n) (x : Fin p) : S (fun i => cz p (zat z i) * x ^ i) n = pv p z x := by
  rw [pv_S]
  have : ∀ m, z.length ≤ m → S (fun i => cz p (zat z i) * x ^ i) m = S (fun i => cz p (z[i]?.getD 0) * x ^ i) z.length := by
    intro m hm
    induction m with
    | zero => have : z.length = 0 := by omega
              rw [this]; rfl
    | succ m ih =>
      rcases Nat.eq_or_lt_of_le hm with h' | h'
      · rw [← h']; rfl
      · rw [S, ih (by omega)]
        unfold zat
        rw [List.getElem?_eq_none (by omega)]
        simp only [Option.getD_none, cz_zero]; grind
  exact this n h
end
theorem lift_row {p d k x : Nat} (hp : 1 < p) {z : List Nat} (hz : z.length ≤ d + 1) {F : List (List Nat)} (h0 : ∀ [NeZero p], pv p z (cz p x) = 0) : rowOf p d (liftM p d k z F) x = rowOf p d F x := by
  haveI : NeZero p := ⟨by omega⟩
  unfold rowOf rowV
  congr 1
  refine tab_ext fun a ha => cz_inj (psum_lt (by omega) _ _) (psum_lt (by omega) _ _) ?_
  rw [psum_S, psum_S]
  have : S (fun i => cz p (at2 (liftM p d k z F) a i) * cz p x ^ i) (d + 1) = S (fun i => cz p (at2 F a i) * cz p x ^ i + (cz p k * cz p (zat z a)) * (cz p (zat z i) * cz p x ^ i)) (d + 1) :=
    S_ext fun i hi => by rw [cz_lift _ _ _ _ ha hi]; grind
  rw [this, S_add, S_mul, pv_zat z hz, h0]; grind
theorem pv_head {p : Nat} [NeZero p] (z : List Nat) : pv p z 0 = cz p (zat z 0) := by
  cases z with
  | nil => rfl
  | cons a l => rw [pv_cons]; show _ = cz p a; grind
theorem liftC_ok {p d k : Nat} {z : List Nat} (hk : k < p) (hz : z.length ≤ d + 1) (hzp : ∀ x ∈ z, x < p) : liftC p d k z = 0 := by
  unfold liftC
  rw [if_neg (by omega), if_neg (by omega), below_of hzp]; rfl
theorem lift_do {p d k : Nat} (hp : isP p) (hd : d ≤ 3) {z : List Nat} {F : List (List Nat)} (hF : Pr p d F) (hk : k < p) (hz : z.length ≤ d + 1) (hzp : ∀ x ∈ z, x < p) {K : List (List Nat) → Int → Prop} (k' : K (liftM p d k z F) 0) : pair_Lift.C p d F k z K := by
  refine pair_Lift_c (hF.sz hd) (by omega) ?_ ?_
  · rintro e (⟨h, _⟩ | ⟨_, h, _⟩)
    · exact (h (check_ok hp hd hF)).elim
    · exact (h (liftC_ok hk hz hzp)).elim
  · intro d' hd' _ _ _ _ _ _ _ _
    obtain rfl : d = d' := by omega
    exact k'
theorem PairNothing_c {p : Nat} {q : TSecret} {r : TRows} (hT : q.Tape.length ≤ 17592186044416) (hX : r.Xs.length ≤ 17592186044416) (hR : Sz r.Rows) : juntolaw06_PairNothing.C p q r fun b => b = true := by
  refine juntolaw06_PairNothing.q (pair_Make_c hT ?_ ?_)
  · intro _; exact ct rfl (alive_c rfl)
  intro d ht hd hp hg hs
  have hp3 := hp.1
  haveI : NeZero p := ⟨by omega⟩
  have hF : Pr p d (mk p q.Value d q.Tape) := mk_pr (by omega) hs
  have h00 : at2 (mk p q.Value d q.Tape) 0 0 = q.Value := at2_mat _ (by omega) (by omega)
  refine cf rfl ?_
  rw [ht]
  generalize mk p q.Value d q.Tape = F at *
  by_cases hxl : d < r.Xs.length
  · exact ctd (by omega) (alive_c rfl)
  refine cfd (by omega) (juntoref01_Within_c (by omega) ?_)
  rcases codeB_cases p r.Xs with hb | ⟨hb, hXp⟩
  · rw [hb]; exact ct rfl (alive_c rfl)
  rw [hb]
  refine cf rfl (juntoref02_Twice_c (by omega) ?_)
  by_cases hnd : r.Xs.Nodup
  rotate_left
  · rw [decide_eq_true hnd]; exact ct rfl (alive_c rfl)
  rw [decide_eq_false (show ¬ ¬ r.Xs.Nodup from fun h => h hnd)]
  refine cf rfl ?_
  by_cases hr1 : r.Rows.length = 1
  rotate_left
  · exact ct (bne_t (by omega)) (alive_c rfl)
  obtain ⟨m, hm⟩ := get_some (show 0 < r.Rows.length by omega)
  refine cf (bne_f (by omega)) ⟨by decide, m, hm, ?_⟩
  by_cases hm1 : m.length = 1
  rotate_left
  · exact ct (bne_t (by omega)) (alive_c rfl)
  obtain ⟨s, hsm⟩ := get_some (show 0 < m.length by omega)
  refine cf (bne_f (by omega)) ⟨by decide, m, hm, by decide, s, hsm, ?_⟩
  by_cases hsp : p ≤ s
  · exact ctd (by omega) (alive_c rfl)
  refine cfd (by omega) ?_
  refine LoopQ.range r.Xs.length (fun i => ∀ j x, j < i → r.Xs[j]? = some x → x ≠ 0) (fun j x hj => by omega) (by omega) ?_ ?_
  · intro i next hi hI hnx
    obtain ⟨x, hx⟩ := get_some hi
    refine ctd (by omega) ⟨by omega, x, hx, ?_⟩
    by_cases hx0 : x = 0
    · exact ct (beq_t (by omega)) (alive_c rfl)
    · refine cf (beq_f (by omega)) (hnx fun j y hj hy => ?_)
      rcases Nat.lt_or_ge j i with h' | h'
      · exact hI j y h' hy
      · obtain rfl : j = i := by omega
        rw [hx] at hy; cases hy; exact hx0
  intro next hI
  have hne : ∀ x ∈ r.Xs, x ≠ 0 := fun x hx => by
    obtain ⟨j, hj⟩ := List.mem_iff_getElem?.1 hx
    exact hI j x (lt_get hj) hj
  refine cfd (by omega) ⟨by decide, m, hm, by decide, s, hsm, juntoref02_Away_c (by omega) hp.2.1 hXp (by omega) ?_⟩
  obtain ⟨hzl, hzp⟩ := awayP_ok (p := p) (by omega) r.Xs
  obtain ⟨hz0, hzx⟩ := awayP_eval hp r.Xs
  generalize awayP p r.Xs = z at *
  have hk := fsub_lt (p := p) (by omega) s q.Value
  refine juntoref01_Sub_c (by omega) hp.2.1 (by omega) hs (lift_do hp hd hF hk (by omega) hzp ?_)
  have hG : Pr p d (liftM p d (fsub p s q.Value) z F) := liftM_pr (by omega) z hF
  have hz1 : cz p (zat z 0) = 1 := by rw [← pv_head, hz0]
  have hG0 : at2 (liftM p d (fsub p s q.Value) z F) 0 0 = s := by
    refine cz_inj (p := p) (hG.lt (by omega) (by omega)) (by omega) ?_
    rw [cz_lift _ _ _ _ (by omega) (by omega), h00, hz1, cz_fsub (by omega)]; grind
  have hrow : ∀ x ∈ r.Xs, rowOf p d (liftM p d (fsub p s q.Value) z F) x = rowOf p d F x := fun x hx =>
    lift_row (by omega) (by omega) (fun {_} => hzx x hx (hne x hx) (hXp x hx))
  have hback : liftM p d (fsub p q.Value s) z (liftM p d (fsub p s q.Value) z F) = F := by
    conv => rhs; rw [hF.mat]
    conv => lhs; unfold liftM
    refine tab_ext fun i hi => tab_ext fun j hj => cz_inj (p := p) (fadd_lt (by omega) _ _) (hF.lt hi hj) ?_
    have e := cz_lift (p := p) d (fsub p s q.Value) z F hi hj
    unfold liftM at e
    rw [cz_fadd, e]
    unfold liftG
    rw [cz_fmul, cz_fmul, cz_fsub (by omega), cz_fsub (by omega)]; grind
  generalize hGG : liftM p d (fsub p s q.Value) z F = G at *
  refine pair_Tape_c (hG.sz hd) (fun h => (h (check_ok hp hd hG)).elim) ?_
  intro d' x hd' _ _ _ hx
  obtain rfl : d = d' := by omega
  obtain ⟨hum, hul, hup⟩ := upper_mat d hd hG
  have hxs : x = s := by
    rw [← hG0]
    have e : at2 (mkM (d + 1) (upper G (d + 1))) 0 0 = at2 G 0 0 := by rw [hum]
    rw [← e]
    have e2 : at2 (mkM (d + 1) (upper G (d + 1))) 0 0 = (upper G (d + 1)).getD 0 0 := at2_mat _ (by omega) (by omega)
    rw [e2, List.getD_eq_getElem?_getD, hx]; rfl
  subst hxs
  have hsz := sizeN_le hd
  refine cf rfl (cf rfl (cf (bne_f rfl) (juntoref06_Size_c ?_)))
  rw [sizeC_of hd]
  have hnt : ((upper G (d + 1)).drop 1).length = sizeN d := by simp; omega
  refine cf (bne_f (by rw [hnt])) (juntoref01_Within_c (by omega) ?_)
  rw [below_of fun a ha => hup a (List.mem_of_mem_drop ha)]
  refine cf rfl ?_
  have hrw : ∀ (F : List (List Nat)) (x : Nat) (K : List Nat → Int → Prop), Pr p d F → x < p → K (rowOf p d F x) 0 → pair_Row.C p d F x K := fun F x K hF hx k => by
    refine pair_Row_c (hF.sz hd) ?_ ?_
    · rintro e (⟨h, _⟩ | ⟨_, h, _⟩)
      · exact (h (check_ok hp hd hF)).elim
      · omega
    · intro d' hd' _ _ _ _
      obtain rfl : d = d' := by omega
      exact k
  refine LoopQ.range r.Xs.length (fun _ => True) trivial (by omega) ?_ ?_
  · intro i next hi _ hnx
    obtain ⟨y, hy⟩ := get_some hi
    have hyp := hXp y (mem_get hy)
    refine ctd (by omega) ⟨by omega, y, hy, hrw _ _ _ hF hyp (hrw _ _ _ hG hyp (juntoref01_Same_c (by have := rowOf_len p d F y; omega) ?_))⟩
    rw [decide_eq_true (hrow y (mem_get hy)).symm]
    exact cf rfl (hnx trivial)
  · intro next _
    refine cfd (by omega) (juntoref01_Sub_c (by omega) hp.2.1 hs (by omega) (lift_do hp hd hG (fsub_lt (by omega) _ _) (by omega) hzp ?_))
    rw [hback]
    exact is_ok (hF.sz hd) rfl (ct rfl (alive_c rfl))
end Go.Proofs.Ytlhcaangdenoaaa.Pl
