import Derived.Test.YtlhcaangdenoaaaSQA
import Derived.Test.YtlhcaangdenoaaaSFnJuntoref03
namespace Go.Lf
end Go.Lf
namespace Go.Proofs.Ytlhcaangdenoaaa.Sh
end Go.Proofs.Ytlhcaangdenoaaa.Sh
namespace Go.Proofs.Ytlhcaangdenoaaa.Sp
end Go.Proofs.Ytlhcaangdenoaaa.Sp
namespace Go.Sx
end Go.Sx
set_option linter.unusedVariables false
set_option linter.unusedSimpArgs false
namespace Go.Proofs.Ytlhcaangdenoaaa.Pl
open Go.Sx Go.Lf Go.Proofs.Ytlhcaangdenoaaa.Sh Go.Proofs.Ytlhcaangdenoaaa.Sp
def mat2 (n w : Nat) (M : Nat → Nat → Nat) : List (List Nat) := tab n fun i => tab w (M i)
theorem mat2_len (n w : Nat) (M : Nat → Nat → Nat) : (mat2 n w M).length = n := tab_len _ _
theorem mat2_get {n w i : Nat} (M : Nat → Nat → Nat) (h : i < n) : (mat2 n w M)[i]? = some (tab w (M i)) := tab_get _ h
theorem mat2_ext {n w : Nat} {M M' : Nat → Nat → Nat} (h : ∀ i k, i < n → k < w → M i k = M' i k) : mat2 n w M = mat2 n w M' := tab_ext fun i hi => tab_ext fun k hk => h i k hi hk
theorem mat2_row {n w i : Nat} (M : Nat → Nat → Nat) (g : Nat → Nat) : (mat2 n w M).set i (tab w g) = mat2 n w fun a k => if a = i then g k else M a k := by
  unfold mat2
  rw [tab_set]
  refine tab_ext fun a _ => ?_
  by_cases h : a = i
  · simp [h]
  · simp [h]
theorem mat2_cell {n w i k : Nat} (M : Nat → Nat → Nat) (v : Nat) : (mat2 n w M).set i ((tab w (M i)).set k v) = mat2 n w fun a b => if a = i ∧ b = k then v else M a b := by
  rw [tab_set, mat2_row]
  refine mat2_ext fun a b _ _ => ?_
  by_cases h : a = i
  · subst h; by_cases h2 : b = k <;> simp [h2]
  · simp [h]
def piv (n : Nat) (M : Nat → Nat → Nat) (top c : Nat) : Option Nat := (List.range n).find? fun i => decide (top ≤ i) && decide (M i c ≠ 0)
theorem piv_some {n : Nat} {M : Nat → Nat → Nat} {top c i : Nat} (hi : i < n) (ht : top ≤ i) (hne : M i c ≠ 0) (hz : ∀ j, top ≤ j → j < i → M j c = 0) : piv n M top c = some i := by
  unfold piv
  rw [List.find?_range_eq_some]
  refine ⟨by simp [ht, hne], by simp [hi], fun j hj => ?_⟩
  by_cases h : top ≤ j
  · simp [h, hz j h hj]
  · simp [h]
theorem piv_none {n : Nat} {M : Nat → Nat → Nat} {top c : Nat} (hz : ∀ j, top ≤ j → j < n → M j c = 0) : piv n M top c = none := by
  unfold piv
  rw [List.find?_range_eq_none]
  intro j hj
  by_cases h : top ≤ j
  · simp [h, hz j h hj]
  · simp [h]
def swapM (M : Nat → Nat → Nat) (a b : Nat) : Nat → Nat → Nat := fun i => M (if i = a then b else if i = b then a else i)
def scaleM (p : Nat) (M : Nat → Nat → Nat) (top one : Nat) : Nat → Nat → Nat := fun i k => if i = top then fmul p (M i k) one else M i k
def scaleJ (p : Nat) (M : Nat → Nat → Nat) (top one j : Nat) : Nat → Nat → Nat := fun i k => if i = top ∧ k < j then fmul p (M i k) one else M i k
def elimM (p : Nat) (M : Nat → Nat → Nat) (top c : Nat) : Nat → Nat → Nat := fun i k => if i = top then M i k else fsub p (M i k) (fmul p (M i c) (M top k))
def pivM (p : Nat) (M : Nat → Nat → Nat) (top c at_ : Nat) : Nat → Nat → Nat :=
  elimM p (scaleM p (swapM M top at_) top (finv p (swapM M top at_ top c))) top c
structure El where
  M : Nat → Nat → Nat
  lead : List Nat
def El.step (p n : Nat) (s : El) (c : Nat) : El := match piv n s.M s.lead.length c with
  | none => s
  | some i => ⟨pivM p s.M s.lead.length c i, s.lead ++ [c]⟩
def El.run (p n : Nat) (M : Nat → Nat → Nat) : Nat → El
  | 0 => ⟨M, []⟩
  | c + 1 => (El.run p n M c).step p n c
def ints (l : List Nat) : List Int := l.map fun (k : Nat) => (k : Int)
theorem ints_len (l : List Nat) : (ints l).length = l.length := by simp [ints]
theorem step_len (p n : Nat) (s : El) (c : Nat) : (s.step p n c).lead.length ≤ s.lead.length + 1 := by
  unfold El.step; split <;> simp
theorem run_len (p n : Nat) (M : Nat → Nat → Nat) : ∀ c, (El.run p n M c).lead.length ≤ c
  | 0 => Nat.le_refl _
  | c + 1 => Nat.le_trans (step_len p n _ c) (by have := run_len p n M c; omega)
theorem run_lt {p n : Nat} (hp : 0 < p) {M : Nat → Nat → Nat} (h : ∀ i k, M i k < p) : ∀ c i k, (El.run p n M c).M i k < p
  | 0, i, k => h i k
  | c + 1, i, k => by
    have ih := run_lt (n := n) hp h c
    unfold El.run El.step
    split
    · exact ih i k
    · unfold pivM elimM
      dsimp only
      split
      · rename_i hi
        subst hi
        unfold scaleM; rw [if_pos rfl]; exact fmul_lt hp _ _
      · exact fsub_lt hp _ _
theorem juntoref03_copied_c {n w : Nat} {M : Nat → Nat → Nat} (hn : n ≤ 1000) (hw : w ≤ 1000) {K : List (List Nat) → Prop} (k : K (mat2 n w M)) : juntoref03_copied.C (mat2 n w M) K := by
  apply juntoref03_copied.q
  refine LoopQ.upto n (fun i t => t = (tab i (fun a => tab w (M a)), (i : Int))) rfl ?_
  rintro i _ next hi rfl hnx
  dsimp only
  by_cases h : i < n
  · refine ctd (by rw [mat2_len]; omega) ⟨by omega, _, mat2_get M h, AppOk.of (by simp [tab_len]; omega), AppOk.of (by simp [tab_len]; omega), hnx h _ ?_⟩
    simp only [toNat_c]
    rw [tab_snoc (g := fun a => tab w (M a)), wsucc (by omega)]
  · obtain rfl : i = n := by omega
    exact cfd (by rw [mat2_len]; omega) k
theorem juntoref03_less_c {p k w : Nat} {f g : Nat → Nat} (hp0 : 0 < p) (hp : p ≤ 65537) (hw : w ≤ 1000) (hk : k < p) (hf : ∀ i, f i < p) (hg : ∀ i, g i < p) {K : List Nat → Prop} (kk : K (tab w fun j => fsub p (f j) (fmul p k (g j)))) : juntoref03_less.C p (tab w f) (tab w g) k K := by
  apply juntoref03_less.q
  unfold juntoref03_less.Q
  rw [tab_len]
  refine LoopQ.rangeS w (fun i s => s = tab w fun a => if a < i then fsub p (f a) (fmul p k (g a)) else f a) (tab_ext fun a _ => by simp) (by omega) ?_ ?_
  · rintro i _ next hi rfl hnx
    dsimp only
    have h1 := tab_get (n := w) (i := i) (fun a => if a < i then fsub p (f a) (fmul p k (g a)) else f a) hi
    rw [if_neg (by omega)] at h1
    refine ctd (by omega) ⟨by omega, by omega, by omega, _, tab_get _ hi, _, h1, juntoref01_Mul_c hp0 hp hk (hg i) (juntoref01_Sub_c hp0 hp (hf i) (fmul_lt hp0 _ _) ⟨by omega, by omega, hnx _ ?_⟩)⟩
    simp only [toNat_c]
    rw [tab_set]
    refine tab_ext fun a ha => ?_
    by_cases hai : a = i
    · subst hai; rw [if_pos rfl, if_pos (by omega)]
    · rw [if_neg hai]
      by_cases hlt : a < i
      · rw [if_pos hlt, if_pos (by omega)]
      · rw [if_neg hlt, if_neg (by omega)]
  · rintro _ next rfl
    refine cfd (by dsimp only; omega) ?_
    dsimp only
    rw [tab_ext (g' := fun j => fsub p (f j) (fmul p k (g j))) fun a ha => by rw [if_pos ha]]; exact kk
theorem swap_set {n w top i : Nat} {M : Nat → Nat → Nat} : ((mat2 n w M).set top (tab w (M i))).set i (tab w (M top)) = mat2 n w (swapM M top i) := by
  rw [mat2_row, mat2_row]
  refine mat2_ext fun a k _ _ => ?_
  unfold swapM
  by_cases h : a = i
  · subst h
    by_cases h2 : a = top
    · subst h2; simp
    · simp [h2]
  · rw [if_neg h]
    by_cases h2 : a = top
    · simp [h2]
    · simp [h, h2]
theorem juntoref03_Reduce_c {p n w cols : Nat} {M : Nat → Nat → Nat} (hp0 : 2 < p) (hp : p ≤ 65537) (hn : n ≤ 500) (hw : w ≤ 500) (hc : cols ≤ w) (hM : ∀ i k, M i k < p) {K : List (List Nat) → List Int → Prop}
    (k : K (mat2 n w (El.run p n M cols).M) (ints (El.run p n M cols).lead)) : juntoref03_Reduce.C p (mat2 n w M) cols K := by
  refine juntoref03_Reduce.q (juntoref03_copied_c (by omega) (by omega) ?_)
  rw [mat2_len]
  refine LoopQ.upto cols (fun c t => t = (ints (El.run p n M c).lead, (c : Int), mat2 n w (El.run p n M c).M)) rfl ?_
  rintro c _ next hcc rfl hnx
  dsimp only
  by_cases hlast : c < cols
  · refine ctd (by omega) ?_
    have hlen := run_len p n M c
    have hlt := run_lt (n := n) (show 0 < p by omega) hM c
    have hstep : El.run p n M (c + 1) = (El.run p n M c).step p n c := rfl
    rw [hstep] at hnx
    generalize El.run p n M c = s at *
    rw [ints_len]
    have hnone : piv n s.M s.lead.length c = none → next (ints s.lead, IntKind.i64.wrap ((c : Int) + 1), mat2 n w s.M) := fun h => by
      refine hnx hlast _ ?_
      unfold El.step; rw [h, wsucc (by omega)]
    refine LoopQ.upto (n - s.lead.length) (fun m t => t = ((s.lead.length + m : Nat) : Int) ∧ ∀ j, s.lead.length ≤ j → j < s.lead.length + m → s.M j c = 0) ⟨rfl, fun j h1 h2 => by omega⟩ ?_
    rintro m _ next2 hm ⟨rfl, hz⟩ hnx2
    generalize hi : s.lead.length + m = i at *
    by_cases hin : i < n
    · refine ctd (by omega) ⟨by omega, by omega, _, mat2_get _ hin, by omega, by rw [tab_len]; omega, _, tab_get _ (show c < w by omega), ?_⟩
      by_cases h0 : s.M i c = 0
      · refine ct (beq_t (by simp only [toNat_c]; omega)) (hnx2 (by omega) _ ⟨by rw [wsucc (by omega)]; omega, fun j h1 h2 => ?_⟩)
        by_cases hj : j < i
        · exact hz j h1 hj
        · obtain rfl : j = i := by omega
          exact h0
      · have hpiv := piv_some hin (by omega) h0 hz
        have htop : s.lead.length < n := by omega
        refine cf (beq_f (by simp only [toNat_c]; omega)) (cfd (by omega) ⟨by omega, by omega, by omega, by omega, _, mat2_get _ hin, _, mat2_get _ htop, by omega, by omega, by omega, by omega, by omega, by omega, ?_⟩)
        simp only [toNat_c]
        rw [swap_set]
        have hS : ∀ a b, swapM s.M s.lead.length i a b < p := fun a b => hlt _ _
        have hnx3 : next (ints s.lead ++ [(c : Int)], IntKind.i64.wrap ((c : Int) + 1), mat2 n w (pivM p s.M s.lead.length c i)) := by
          refine hnx hlast _ ?_
          unfold El.step; rw [hpiv, wsucc (by omega)]
          simp [ints]
        unfold pivM at hnx3
        generalize swapM s.M s.lead.length i = S at *
        have hil := ints_len s.lead
        generalize s.lead.length = top at *
        refine ⟨_, mat2_get _ htop, by omega, by rw [tab_len]; omega, _, tab_get _ (show c < w by omega), juntoref01_Inv_c (by omega) hp (hS _ _) ⟨by omega, by omega, _, mat2_get _ htop, ?_⟩⟩
        rw [tab_len]
        have hone := finv_lt (p := p) (by omega) (S top c)
        generalize finv p (S top c) = one at *
        refine LoopQ.rangeS w (fun j t => t = mat2 n w (scaleJ p S top one j)) (mat2_ext fun a b _ _ => by simp [scaleJ]) (by omega) ?_ ?_
        · rintro j _ next3 hj rfl hnx4
          dsimp only
          have g1 := mat2_get (n := n) (w := w) (scaleJ p S top one j) htop
          have g2 : (tab w (scaleJ p S top one j top))[j]? = some (S top j) := by rw [tab_get _ hj]; simp [scaleJ]
          refine ctd (by omega) ⟨by omega, by omega, by omega, by omega, _, g1, _, g1, by omega, by rw [tab_len]; omega, _, g2, juntoref01_Mul_c (by omega) hp (hS _ _) hone ⟨by omega, by rw [tab_len]; omega, hnx4 _ ?_⟩⟩
          simp only [toNat_c]
          rw [mat2_cell]
          refine mat2_ext fun a b _ _ => ?_
          unfold scaleJ
          by_cases h : a = top ∧ b = j
          · rw [if_pos h, if_pos (by omega), h.1, h.2]
          · rw [if_neg h]
            by_cases h2 : a = top ∧ b < j
            · rw [if_pos h2, if_pos (by omega)]
            · rw [if_neg h2, if_neg (by omega)]
        rintro _ next3 rfl
        refine cfd (by dsimp only; omega) ?_
        dsimp only
        rw [mat2_ext (M' := scaleM p S top one) fun a b _ hb => by
          unfold scaleM scaleJ
          by_cases h : a = top
          · rw [if_pos ⟨h, hb⟩, if_pos h]
          · rw [if_neg (fun h2 => h h2.1), if_neg h]]
        have hT : ∀ a b, scaleM p S top one a b < p := fun a b => by
          unfold scaleM; split
          · exact fmul_lt (by omega) _ _
          · exact hS _ _
        generalize scaleM p S top one = T at *
        refine LoopQ.rangeS n (fun j t => t = mat2 n w fun a b => if a < j then elimM p T top c a b else T a b) (mat2_ext fun a b _ _ => by simp) (by omega) ?_ ?_
        · rintro j _ next4 hj rfl hnx4
          dsimp only
          have htopr : ∀ b, (if top < j then elimM p T top c top b else T top b) = T top b := fun b => by split <;> simp [elimM]
          refine ctd (by omega) ?_
          by_cases hjt : j = top
          · subst hjt
            refine cf (bne_f rfl) (hnx4 _ (mat2_ext fun a b _ _ => ?_))
            by_cases ha : a < j
            · rw [if_pos ha, if_pos (by omega)]
            · rw [if_neg ha]
              by_cases ha2 : a < j + 1
              · obtain rfl : a = j := by omega
                rw [if_pos ha2]; simp [elimM]
              · rw [if_neg ha2]
          · have g1 := mat2_get (n := n) (w := w) (fun a b => if a < j then elimM p T top c a b else T a b) hj
            have g2 := mat2_get (n := n) (w := w) (fun a b => if a < j then elimM p T top c a b else T a b) htop
            simp only [Nat.lt_irrefl, if_false] at g1
            have e2 : (fun k => if top < j then elimM p T top c top k else T top k) = T top := funext htopr
            rw [e2] at g2
            refine ct (bne_t (by omega)) ⟨by omega, by omega, by omega, by omega, by omega, by omega, _, g1, _, g2, _, g1, by omega, by rw [tab_len]; omega, _, tab_get _ (show c < w by omega), hjt, juntoref03_less_c (by omega) hp (by omega) (hT _ _) (hT _) (hT _) (hnx4 _ ?_)⟩
            simp only [toNat_c]
            rw [mat2_row]
            refine mat2_ext fun a b _ _ => ?_
            by_cases ha : a = j
            · subst ha
              rw [if_pos rfl, if_pos (by omega), elimM, if_neg hjt]
            · rw [if_neg ha]
              by_cases h2 : a < j
              · rw [if_pos h2, if_pos (by omega)]
              · rw [if_neg h2, if_neg (by omega)]
        rintro _ next4 rfl
        refine cfd (by dsimp only; omega) ⟨AppOk.of (by rw [List.length_append, hil]; simp; omega), ?_⟩
        dsimp only
        rw [mat2_ext (M' := elimM p T top c) fun a b ha _ => by rw [if_pos ha]]
        exact hnx3
    · refine cfd (by omega) (ctd (by omega) (hnone (piv_none fun j h1 h2 => hz j h1 (by omega))))
  · obtain rfl : c = cols := by omega
    exact cfd (by omega) k
end Go.Proofs.Ytlhcaangdenoaaa.Pl
