import Derived.Test.YtlhcaangdenoaaaQ6c
import Derived.Test.YtlhcaangdenoaaaQA
import Derived.Test.YtlhcaangdenoaaaFnPairOnly
set_option linter.unusedVariables false
set_option linter.unusedSimpArgs false
namespace Go.Proofs.Ytlhcaangdenoaaa.Pl
open Go.Sx Go.Lf Go.Proofs.Ytlhcaangdenoaaa.Sh Go.Proofs.Ytlhcaangdenoaaa.Sp

theorem nodup_iff {l : List Nat} : l.Nodup ↔ ∀ (i j x : Nat), j < i → l[i]? = some x → l[j]? ≠ some x := by
  rw [List.Nodup, List.pairwise_iff_getElem]
  constructor
  · intro h i j x hji hi hj
    obtain ⟨h1, e1⟩ := List.getElem?_eq_some_iff.1 hi
    obtain ⟨h2, e2⟩ := List.getElem?_eq_some_iff.1 hj
    exact h j i h2 h1 hji (e2.trans e1.symm)
  · intro h i j hi hj hij he
    exact h j i _ hij (List.getElem?_eq_getElem hj) (by rw [List.getElem?_eq_getElem hi, he])
theorem juntoref02_Twice_c {l : List Nat} (hl : l.length < 4611686018427387904) {K : Bool → Prop} (k : K (decide (¬ l.Nodup))) : juntoref02_Twice.C l K := by
  apply juntoref02_Twice.q
  refine LoopQ.range l.length (fun n => ∀ (i j x : Nat), i < n → j < i → l[i]? = some x → l[j]? ≠ some x) (fun i j x hi => by omega) hl ?_ ?_
  · intro n next hn hI hnx
    refine ctd (by omega) ?_
    obtain ⟨x, hx⟩ := get_some hn
    refine LoopQ.range n (fun m => ∀ j, j < m → l[j]? ≠ some x) (fun j hj => by omega) (by omega) ?_ ?_
    · intro m next2 hm hJ hnx2
      obtain ⟨y, hy⟩ := get_some (show m < l.length by omega)
      refine ctd (by omega) ⟨by omega, x, hx, by omega, y, hy, ?_⟩
      by_cases hxy : x = y
      · subst hxy
        refine ct (beq_t rfl) ?_
        rw [decide_eq_true (show ¬ l.Nodup from fun h => nodup_iff.1 h n m x hm hx hy)] at k; exact k
      · refine cf (beq_f (by omega)) (hnx2 fun j hj => ?_)
        rcases Nat.lt_or_ge j m with h' | h'
        · exact hJ j h'
        · obtain rfl : j = m := by omega
          rw [hy]; intro h; cases h; exact hxy rfl
    · intro next2 hJ
      refine cfd (by omega) (hnx fun i j y hi hj hy => ?_)
      rcases Nat.lt_or_ge i n with h' | h'
      · exact hI i j y h' hj hy
      · obtain rfl : i = n := by omega
        rw [hx] at hy; cases hy; exact hJ j hj
  · intro next hI
    refine cfd (by omega) ?_
    rw [decide_eq_false (show ¬ ¬ l.Nodup from fun h => h (nodup_iff.2 fun i j x hj hx => hI i j x (lt_get hx) hj hx))] at k; exact k
/-! ### Rows tell the pair -/
section
variable {p : Nat} [NeZero p]
theorem cz_nodup {l : List Nat} (h : l.Nodup) (hl : ∀ x ∈ l, x < p) : (l.map (cz p)).Nodup := nodup_map h fun a ha b hb he => cz_inj (hl a ha) (hl b hb) he
omit [NeZero p] in
theorem rowV_eval (n : Nat) (g : Nat → Nat → Nat) (x k : Nat) (hk : k < n) : ∃ v, (rowV p n g x)[k]? = some v ∧ v = psum p (fun i => fmul p (g k i) (fpow p x i)) n := ⟨_, tab_get _ hk, rfl⟩
theorem psum_S (g : Nat → Nat) (x n : Nat) : cz p (psum p (fun i => fmul p (g i) (fpow p x i)) n) = S (fun i => cz p (g i) * cz p x ^ i) n := by
  rw [S_psum]; exact S_ext fun i _ => by rw [cz_fmul, cz_fpow]
theorem pe_tab (g : Nat → Fin p) (x : Fin p) (n : Nat) : pe (tab n g) x = S (fun i => g i * x ^ i) n := by
  have key : ∀ (l : List (Fin p)) (c : Fin p), pe (l ++ [c]) x = pe l x + c * x ^ l.length := by
    intro l c
    induction l with
    | nil => show (0 : Fin p) * x + c = 0 + c * x ^ 0; grind
    | cons a l ih => rw [List.cons_append, pe_cons, pe_cons, ih, List.length_cons]; grind
  induction n with
  | zero => rfl
  | succ n ih => rw [← tab_snoc, key, ih, S, tab_len]
end
theorem short_inj {f g : List Nat} (hl : f.length = g.length) (h : short f = short g) : f = g := by
  obtain ⟨m, hm⟩ := short_split f
  obtain ⟨n, hn⟩ := short_split g
  have h1 := congrArg List.length hm
  have h2 := congrArg List.length hn
  simp at h1 h2
  rw [h] at h1
  rw [hm, hn, h, show m = n by omega]
theorem rows_tell {p d : Nat} (hp : isP p) {F G : List (List Nat)} (hF : Pr p d F) (hG : Pr p d G) {xs : List Nat} (hn : (0 :: xs).Nodup) (hx : ∀ x ∈ xs, x < p) (hl : xs.length = d) (h0 : at2 F 0 0 = at2 G 0 0)
    (h : ∀ x ∈ xs, rowOf p d F x = rowOf p d G x) : ∀ i k, i < d + 1 → k < d + 1 → at2 F i k = at2 G i k := by
  have hp3 := hp.1
  haveI : NeZero p := ⟨by omega⟩
  let D := fun k => tab (d + 1) fun i => cz p (at2 F k i) - cz p (at2 G k i)
  have hroot : ∀ k, k < d + 1 → ∀ x ∈ xs, pe (D k) (cz p x) = 0 := by
    intro k hk x hxm
    have e := short_inj (by simp [rowV, tab_len]) (h x hxm)
    obtain ⟨v, hv, hve⟩ := rowV_eval (p := p) (d + 1) (at2 F) x k hk
    obtain ⟨w, hw, hwe⟩ := rowV_eval (p := p) (d + 1) (at2 G) x k hk
    rw [e, hw] at hv; cases hv
    have e2 := congrArg (cz p) (hve.symm.trans hwe)
    rw [psum_S, psum_S] at e2
    rw [pe_tab]
    have e3 : S (fun i => (cz p (at2 F k i) - cz p (at2 G k i)) * cz p x ^ i) (d + 1) = S (fun i => cz p (at2 F k i) * cz p x ^ i + (-1 : Fin p) * (cz p (at2 G k i) * cz p x ^ i)) (d + 1) := S_ext fun i _ => by grind
    rw [e3, S_add, S_mul, e2]; grind
  have hlen : ∀ k, (D k).length = d + 1 := fun k => tab_len _ _
  have hxn : ((0 :: xs).map (cz p)).Nodup := cz_nodup hn fun x hx' => by
    rcases List.mem_cons.1 hx' with rfl | h'
    · omega
    · exact hx x h'
  have all : ∀ k, k < d + 1 → pe (D k) 0 = 0 → ∀ i, i < d + 1 → cz p (at2 F k i) = cz p (at2 G k i) := by
    intro k hk hz i hi
    have := roots_zero hp ((0 :: xs).map (cz p)) (D k) hxn (by rw [hlen]; simp; omega) (fun x hx' => by
      rw [List.map_cons] at hx'
      rcases List.mem_cons.1 hx' with rfl | h'
      · exact hz
      · obtain ⟨y, hy, rfl⟩ := List.mem_map.1 h'
        exact hroot k hk y hy) _ (mem_get (tab_get _ hi))
    grind
  have pe0 : ∀ k, pe (D k) 0 = cz p (at2 F k 0) - cz p (at2 G k 0) := by
    intro k
    have : D k = (cz p (at2 F k 0) - cz p (at2 G k 0)) :: (List.range d).map (fun i => cz p (at2 F k (i + 1)) - cz p (at2 G k (i + 1))) := by
      show tab (d + 1) _ = _
      simp [tab, List.range_succ_eq_map, Function.comp_def]
    rw [this, pe_cons]; grind
  have row0 := all 0 (by omega) (by rw [pe0, h0]; grind)
  intro i k hi hk
  have hz : pe (D i) 0 = 0 := by
    rw [pe0, hF.sym i 0 hi (by omega), hG.sym i 0 hi (by omega), row0 i hi]; grind
  exact cz_inj (hF.lt hi hk) (hG.lt hi hk) (all i hi hz k hk)
theorem upper_mk {d : Nat} (hd : d ≤ 3) {L : List Nat} (hl : L.length = sizeN d + 1) : upper (mkM (d + 1) L) (d + 1) = L := by
  have : d = 0 ∨ d = 1 ∨ d = 2 ∨ d = 3 := by omega
  rcases this with rfl | rfl | rfl | rfl
  · match L, hl with
    | [a], _ => rfl
  · match L, hl with
    | [a, b, c], _ => rfl
  · match L, hl with
    | [a, b, c, e, f, g], _ => rfl
  · match L, hl with
    | [a, b, c, e, f, g, h, i, j, k], _ => rfl
theorem takeN_self {p : Nat} {l : List Nat} {n : Nat} (hl : l.length = n) (h : ∀ x ∈ l, x < p) : takeN p l n = l := by
  symm
  refine tab_of hl fun i y hy => ?_
  rw [hy]
  simp [Nat.mod_eq_of_lt (h y (mem_get hy))]
theorem mk_inj {p s d : Nat} (hd : d ≤ 3) {l m : List Nat} (hl : l.length = sizeN d) (hm : m.length = sizeN d) (hlp : ∀ x ∈ l, x < p) (hmp : ∀ x ∈ m, x < p) (h : mk p s d l = mk p s d m) : l = m := by
  unfold mk at h
  rw [takeN_self hl hlp, takeN_self hm hmp] at h
  have h1 := upper_mk hd (L := s :: l) (by simp [hl])
  have h2 := upper_mk hd (L := s :: m) (by simp [hm])
  rw [h, h2] at h1
  cases h1; rfl
open Classical in
theorem PairOnly_c {p : Nat} {q : TSecret} {r : TRows} (hT : q.Tape.length ≤ 17592186044416) (hX : r.Xs.length ≤ 17592186044416) (hR : Sz r.Rows) : juntolaw06_PairOnly.C p q r fun b => b = true := by
  refine juntolaw06_PairOnly.q (juntoref06_Bounds_c ?_)
  rcases ground_cases p q.T_ with hg | ⟨hg, hp, d, ht, hd⟩
  · rw [hg]; exact ct rfl (alive_c rfl)
  rw [hg]
  refine cf rfl ?_
  by_cases hs : p ≤ q.Value
  · exact ctd (by omega) (alive_c rfl)
  refine cfd (by omega) (juntoref06_Size_c ?_)
  rw [ht, sizeC_of hd]
  by_cases hn1 : q.Tape.length = sizeN d
  rotate_left
  · exact ct (bne_t (by omega)) (alive_c rfl)
  refine cf (bne_f (by omega)) (juntoref01_Within_c (by omega) ?_)
  rcases codeB_cases p q.Tape with hb | ⟨hb, hTp⟩
  · rw [hb]; exact ct rfl (alive_c rfl)
  rw [hb]
  refine cf rfl ?_
  by_cases hr1 : r.Rows.length = 1
  rotate_left
  · exact ct (bne_t (by omega)) (alive_c rfl)
  obtain ⟨m, hm⟩ := get_some (show 0 < r.Rows.length by omega)
  refine cf (bne_f (by omega)) ⟨by decide, m, hm, juntoref06_Size_c ?_⟩
  rw [sizeC_of hd]
  by_cases hn2 : m.length = sizeN d
  rotate_left
  · exact ct (bne_t (by omega)) (alive_c rfl)
  refine cf (bne_f (by omega)) ⟨by decide, m, hm, juntoref01_Within_c (by have := sizeN_le hd; omega) ?_⟩
  rcases codeB_cases p m with hb | ⟨hb, hMp⟩
  · rw [hb]; exact ct rfl (alive_c rfl)
  rw [hb]
  refine cf rfl ?_
  by_cases hxl : r.Xs.length = d
  rotate_left
  · exact ct (bne_t (by omega)) (alive_c rfl)
  refine cf (bne_f (by omega)) (juntoref01_Within_c (by omega) ?_)
  rcases codeB_cases p r.Xs with hb | ⟨hb, hXp⟩
  · rw [hb]; exact ct rfl (alive_c rfl)
  rw [hb]
  refine cf rfl ⟨AppOk.of (by simp; omega), ?_⟩
  rw [show [0] ++ r.Xs = 0 :: r.Xs from rfl]
  refine juntoref02_Twice_c (by simp; omega) ?_
  by_cases hnd : (0 :: r.Xs).Nodup
  rotate_left
  · rw [decide_eq_true hnd]; exact ct rfl (alive_c rfl)
  rw [decide_eq_false (fun h => h hnd)]
  refine cf rfl ?_
  have hp3 := hp.1
  have hg0 : groundC p d = 0 := by rw [← ht]; exact hg
  have hmake : ∀ (tape : List Nat) (K : List (List Nat) → List Nat → Int → Prop), tape.length ≤ 17592186044416 → K (mk p q.Value d tape) (tape.drop (sizeN d)) 0 → pair_Make.C p q.Value d tape K := fun tape K htl k => by
    refine pair_Make_c htl ?_ ?_
    · rintro (h | h)
      · exact (h hg0).elim
      · omega
    · intro d' hd' _ _ _ _
      obtain rfl : d = d' := by omega
      exact k
  have hsz := sizeN_le hd
  refine hmake _ _ hT ⟨by decide, m, hm, hmake _ _ (by omega) ?_⟩
  have hF : Pr p d (mk p q.Value d q.Tape) := mk_pr (by omega) (by omega)
  have hG : Pr p d (mk p q.Value d m) := mk_pr (by omega) (by omega)
  have hrow : ∀ (F : List (List Nat)) (x : Nat) (K : List Nat → Int → Prop), Pr p d F → x < p → K (rowOf p d F x) 0 → pair_Row.C p d F x K := fun F x K hF hx k => by
    refine pair_Row_c (hF.sz hd) ?_ ?_
    · rintro e (⟨h, _⟩ | ⟨_, h, _⟩)
      · exact (h (check_ok hp hd hF)).elim
      · omega
    · intro d' hd' _ _ _ _
      obtain rfl : d = d' := by omega
      exact k
  refine LoopQ.upto r.Xs.length (fun i t => t = (decide (∀ j x, j < i → r.Xs[j]? = some x → rowOf p d (mk p q.Value d q.Tape) x = rowOf p d (mk p q.Value d m) x), (i : Int))) (by simp) ?_
  rintro i _ next hi rfl hnx
  dsimp only
  by_cases hlt : i < r.Xs.length
  · obtain ⟨x, hx⟩ := get_some hlt
    have hxp := hXp x (mem_get hx)
    refine ctd (by omega) ⟨by omega, x, hx, hrow _ _ _ hF hxp (hrow _ _ _ hG hxp ?_)⟩
    have hstep : ∀ b : Bool, (b = true ↔ rowOf p d (mk p q.Value d q.Tape) x = rowOf p d (mk p q.Value d m) x) → (∀ j x, j < i → r.Xs[j]? = some x → rowOf p d (mk p q.Value d q.Tape) x = rowOf p d (mk p q.Value d m) x) → next (b, IntKind.i64.wrap ((i : Int) + 1)) := by
      intro b hb hall
      refine hnx hlt _ ?_
      rw [wsucc (by omega)]
      congr 1
      cases b with
      | true =>
        symm; rw [decide_eq_true_eq]
        intro j y hj hy
        rcases Nat.lt_or_ge j i with h' | h'
        · exact hall j y h' hy
        · obtain rfl : j = i := by omega
          rw [hx] at hy; cases hy; exact hb.1 rfl
      | false =>
        symm; rw [decide_eq_false_iff_not]
        intro h
        have := hb.2 (h i x (by omega) hx)
        cases this
    by_cases hall : ∀ j x, j < i → r.Xs[j]? = some x → rowOf p d (mk p q.Value d q.Tape) x = rowOf p d (mk p q.Value d m) x
    · refine ctd hall (ct rfl (ct rfl (juntoref01_Same_c (by have := rowOf_len p d (mk p q.Value d q.Tape) x; omega) (hstep _ (by simp) hall))))
    · refine cfd hall (hnx hlt _ ?_)
      rw [wsucc (by omega), decide_eq_false (fun h => hall fun j y hj hy => h j y (by omega) hy)]
  · obtain rfl : i = r.Xs.length := by omega
    refine cfd (by omega) (ct rfl (ct rfl ⟨by decide, m, hm, juntoref01_Same_c (by omega) ?_⟩))
    have key : (decide (∀ j x, j < r.Xs.length → r.Xs[j]? = some x → rowOf p d (mk p q.Value d q.Tape) x = rowOf p d (mk p q.Value d m) x)) = decide (q.Tape = m) := by
      rw [decide_eq_decide]
      constructor
      · intro h
        have h00 : ∀ tape, at2 (mk p q.Value d tape) 0 0 = q.Value := fun tape => at2_mat _ (by omega) (by omega)
        have := rows_tell hp hF hG hnd hXp hxl (by rw [h00, h00]) fun x hx => by
          obtain ⟨j, hj⟩ := List.mem_iff_getElem?.1 hx
          exact h j x (lt_get hj) hj
        refine mk_inj (s := q.Value) hd hn1 hn2 hTp hMp ?_
        rw [hF.mat, hG.mat]
        exact tab_ext fun i hi => tab_ext fun k hk => this i k hi hk
      · intro h j x _ _; rw [h]
    rw [key]
    exact ct (by simp) (alive_c rfl)
end Go.Proofs.Ytlhcaangdenoaaa.Pl
