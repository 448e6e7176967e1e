import Derived.Test.YtlhcaangdenoaaaPairOf
set_option linter.unusedVariables false
namespace Go.Proofs.Ytlhcaangdenoaaa.Sp
open Go.Sx Go.Proofs.Ytlhcaangdenoaaa.Sh

def mk (p secret t : Nat) (tape : List Nat) : List (List Nat) := fill (secret :: takeN p tape ((t + 1) * (t + 2) / 2 - 1)) (t + 1)
def rest (t : Nat) (tape : List Nat) : List Nat := tape.drop ((t + 1) * (t + 2) / 2 - 1)
theorem size_nat {t : Nat} (ht : t ≤ 3) : size t = (((t + 1) * (t + 2) / 2 - 1 : Nat) : Int) := by
  have : t = 0 ∨ t = 1 ∨ t = 2 ∨ t = 3 := by omega
  rcases this with rfl | rfl | rfl | rfl <;> decide
theorem size_le {t : Nat} (ht : t ≤ 3) : 1 ≤ (t + 1) * (t + 2) / 2 ∧ (t + 1) * (t + 2) / 2 ≤ 10 := by
  have : t = 0 ∨ t = 1 ∨ t = 2 ∨ t = 3 := by omega
  rcases this with rfl | rfl | rfl | rfl <;> decide

theorem pair_Make_sp {p secret : Nat} {t : Int} {A : Option Addr} {n c : Nat} {S0 : Nat → Prop} {tape : List Nat} {H : Heap} (hl : Sl u64R S0 H A n c tape) {K : Value → Heap → Prop}
    (kbad : (ground p t ≠ 0 ∨ p ≤ secret) → K (.tuple #[.slice none 0 0, .slice none 0 0, .int .i64 2]) H)
    (k : ∀ (d : Nat) g bs A2 n2 c2 H', t = d → d ≤ 3 → isP p → ground p t = 0 → secret < p → Ext H H' → Mat wd 22 30 (Since H) H' g (d + 1) bs (mk p secret d tape) [] → bs.length = d + 1 → Owns u64R 22 (Since H) H' A2 n2 c2 (rest d tape) →
      K (.tuple #[.slice (some (Addr.mk g 0 none)) (d + 1) (d + 1), .slice A2 n2 c2, .int .i64 0]) H') :
    CallH P N.pair_Make [.int .u64 p, .int .u64 secret, .int .i64 t, .slice A n c] H K := by
  apply pair_Make.ok
  refine pair_ground_sp ⟨_, rfl, ?_⟩
  rcases ground_cases p t with hg | ⟨hg, hp, d, rfl, hd⟩
  · rw [hg]
    exact kbad (.inl (by omega))
  have hg' := hg
  rw [hg]
  refine cf rfl ?_
  by_cases hs : p ≤ secret
  · exact ctd (by omega) (kbad (.inr hs))
  refine cfd (by omega) (pair_Size_sp ⟨_, rfl, ?_⟩)
  rw [size_nat hd]
  have hq := size_le hd
  refine field_Take_sp (by have := hp.1; omega) hl (by omega) fun A1 c1 A2 n2 c2 H1 hE1 hO1 hO2 => ⟨_, _, _, _, _, _, rfl, ?_⟩
  refine pair_Of_sp hd (hO1.sl u64_good) (by rw [takeN_len]; omega) fun g bs H2 hE2 hM hb => ⟨_, _, _, rfl, ?_⟩
  exact k d g bs A2 n2 c2 H2 rfl hd hp hg' (by omega) (hE1.trans hE2) (hM.wider fun i hi => Nat.le_trans hE1.size hi) hb (hO2.ext u64_good hE2)

theorem juntoref06_Make_sp {p secret t : Nat} (ht : t ≤ 3) (hp : 0 < p) {A : Option Addr} {n c : Nat} {S0 : Nat → Prop} {tape : List Nat} {H : Heap} (hl : Sl u64R S0 H A n c tape) {K : Value → Heap → Prop}
    (k : ∀ g bs A2 n2 c2 H', Ext H H' → Mat wd 22 30 (Since H) H' g (t + 1) bs (mk p secret t tape) [] → bs.length = t + 1 → Owns u64R 22 (Since H) H' A2 n2 c2 (rest t tape) →
      K (.tuple #[.slice (some (Addr.mk g 0 none)) (t + 1) (t + 1), .slice A2 n2 c2]) H') :
    CallH P N.juntoref06_Make [.int .u64 p, .int .u64 secret, .int .i64 t, .slice A n c] H K := by
  apply juntoref06_Make.ok
  refine juntoref06_Size_sp ⟨_, rfl, ?_⟩
  have hq := size_le ht
  rw [size_nat ht]
  refine juntoref01_Draw_sp hp hl (by omega) fun A1 c1 A2 n2 c2 H0 hE0 hO1 hO2 => ⟨_, _, _, _, _, _, rfl, NewH.in ?_⟩
  have hEp := Ext.push H0 (.cells #[.int .u64 secret] 22 (0, 0))
  have hO : Owns u64R 22 (Since H0) (H0.push (.cells #[.int .u64 secret] 22 (0, 0))) (some (Addr.mk H0.size 0 none)) 1 1 [secret] := Owns.words (S := Since H0) [secret] (Nat.le_refl _) (by simp)
  refine hO.append u64_flat u64_good ((hO1.ext u64_good hEp).sl u64_good) (fun i hi => Nat.le_trans hEp.size hi) (by omega) (by omega) ?_
  intro A3 c3 H1 hO3 hG
  have hE1 : Ext H0 H1 := hG.but.ext hEp (fun i hi => by cases hi; exact Nat.le_refl _)
  have hEH1 := hE0.trans hE1
  have hs3 := (hO3.sl u64_good).inside
  have hmk : mk p secret t tape = fill (secret :: takeN p tape ((t + 1) * (t + 2) / 2 - 1)) (t + 1) := rfl
  have hLlen : (secret :: takeN p tape ((t + 1) * (t + 2) / 2 - 1)).length = (t + 1) * (t + 2) / 2 := by simp [takeN_len]; omega
  have hO2 := hO2.ext u64_good hE1
  rw [hmk] at k
  clear hG hO hEp hO3
  generalize hL : secret :: takeN p tape ((t + 1) * (t + 2) / 2 - 1) = L at *
  rw [show [secret] ++ takeN p tape ((t + 1) * (t + 2) / 2 - 1) = L from by rw [← hL]; rfl] at hs3
  have hw : IntKind.i64.wrap ((t : Int) + 1) = ((t + 1 : Nat) : Int) := wsucc (by omega)
  rw [hw]
  rw [show Int.toNat ((t + 1 : Nat) : Int) = t + 1 from rfl]
  refine ⟨by omega, by omega, by omega, by omega, NewH.in ?_⟩
  refine LoopI.range (t + 1) (fun k H2 => ∃ bs, bs.length = k ∧ Mat wd 22 30 (Since H1) H2 H1.size (t + 1) bs (List.replicate k (List.replicate (t + 1) 0)) (List.replicate (t + 1 - k) (.slice none 0 0)) ∧ Ext H1 H2)
    ⟨[], rfl, Mat.start _ _ (Nat.le_refl _), Ext.push _ _⟩ ?_
  rintro k1 H2 z next hk ⟨bs, hbs, hM, hE⟩ hnext
  by_cases hlt : k1 < t + 1
  · refine ctd (by omega) ⟨by omega, by omega, by omega, by omega, NewH.in ?_⟩
    have hr : List.replicate (t + 1 - k1) (Value.slice none 0 0) = .slice none 0 0 :: List.replicate (t - k1) (.slice none 0 0) := by rw [show t + 1 - k1 = (t - k1) + 1 by omega, List.replicate_succ]
    rw [hr] at hM
    obtain ⟨w1, m1⟩ := hM.row_new (List.replicate (t + 1) 0) (by simp) hE.size
    have e0 : (repl (t + 1) [Value.int .u64 0]).toArray = ((List.replicate (t + 1) 0).map wd).toArray := by rw [repl_one]; simp [wd]
    rw [e0]
    refine ⟨_, rfl, by omega, by omega, by rw [← hbs]; exact w1, NewH.in ?_⟩
    rw [wsucc (by omega)]
    refine hnext hlt _ ⟨bs ++ [H2.size], by simp [hbs], ?_, ?_⟩
    · rw [hbs] at m1
      rw [show t + 1 - (k1 + 1) = t - k1 by omega]
      rw [← List.replicate_succ'] at m1
      exact m1
    · exact (hE.trans (Ext.push H2 _)).set (by rw [add_block]; exact Nat.le_refl _) _
  · refine cfd (by omega) ?_
    obtain rfl : k1 = t + 1 := by omega
    simp only [Nat.sub_self, List.replicate_zero] at hM
    have hs4 := hs3.ext u64_good hE
    refine LoopI.upto (t + 1) (fun i (s : Int × Int) H' => s.1 = (((fillN L (t + 1) i).2 : Nat) : Int) ∧ s.2 = i ∧ Sl u64R (fun i => Since H0 i ∧ i < H1.size) H' A3 (1 + ((t + 1) * (t + 2) / 2 - 1)) c3 L ∧
      Mat wd 22 30 (Since H1) H' H1.size (t + 1) bs (fillN L (t + 1) i).1 [] ∧ Ext H1 H') ⟨rfl, rfl, hs4, hM, hE⟩ (fun h k => h _ _ k) ?_
    rintro i ⟨s1, s2⟩ H3 z3 next3 hi ⟨h1, h2, hs5, hM3, hE3⟩ hnext3
    dsimp only at h1 h2
    subst h1 h2
    by_cases hit : i < t + 1
    · refine ctd (by ((try dsimp only); omega)) ?_
      refine LoopI.upto (t + 1 - i) (fun j (s : Int × Int) H' => s.1 = (((fillJ L (t + 1) i j).2 : Nat) : Int) ∧ s.2 = ((i + j : Nat) : Int) ∧ Sl u64R (fun i => Since H0 i ∧ i < H1.size) H' A3 (1 + ((t + 1) * (t + 2) / 2 - 1)) c3 L ∧
        Mat wd 22 30 (Since H1) H' H1.size (t + 1) bs (fillJ L (t + 1) i j).1 [] ∧ Ext H1 H') ⟨rfl, rfl, hs5, hM3, hE3⟩ (fun h k => h _ _ k) ?_
      rintro j ⟨s3, s4⟩ H4 z4 next4 hj ⟨h1, h2, hs6, hM4, hE4⟩ hnext4
      dsimp only at h1 h2
      subst h1 h2
      by_cases hjt : j < t + 1 - i
      · refine ctd (by ((try dsimp only); omega)) ?_
        have hat : (fillJ L (t + 1) i j).2 < L.length := by
          rw [fillJ_at, fillN_at, hLlen]
          exact off_lt (t + 1) (by omega) i hit j hjt
        obtain ⟨a4, ha4, x, hx, hcx⟩ := hs6.u64 (i := (fillJ L (t + 1) i j).2) (by omega)
        obtain ⟨b1, b2, r1, r2, w1, w2, hS1, hS2, m⟩ := fill_round hbs hit hjt hM4 hx
        refine ⟨_, rfl, by ((try dsimp only); omega), by ((try dsimp only); omega), _, rfl, by ((try dsimp only); omega), by ((try dsimp only); omega), a4, ha4, by ((try dsimp only); omega), by ((try dsimp only); omega), a4, ha4, by ((try dsimp only); omega), by ((try dsimp only); omega), _, _, _, r1, _, _, _, r2, _, hcx, _, hcx, _, rfl, by ((try dsimp only); omega), by ((try dsimp only); omega), w1, NewH.in ⟨_, rfl, by ((try dsimp only); omega), by ((try dsimp only); omega), w2, NewH.in ?_⟩⟩
        dsimp only
        rw [wsucc (by omega), wsucc (by omega)]
        refine hnext4 hjt _ _ ⟨by rw [fillJ_succ]; rfl, rfl, ?_, m, (hE4.set (by rw [add_block]; exact hS1) _).set (by rw [add_block]; exact hS2) _⟩
        exact (hs6.keep u64_good (On.set H4 (a := (Addr.mk b1 0 none).add (i + j)) (by rw [add_block]; unfold Since at *; ((try dsimp only); omega)) (wd x))).keep u64_good
          (On.set (setH H4 ((Addr.mk b1 0 none).add (i + j)) (wd x)) (a := (Addr.mk b2 0 none).add i) (by rw [add_block]; unfold Since at *; ((try dsimp only); omega)) (wd x))
      · refine cfd (by ((try dsimp only); omega)) ?_
        obtain rfl : j = t + 1 - i := by omega
        dsimp only
        rw [wsucc (by omega)]
        rw [← fillN_succ] at hM4
        exact hnext3 hit _ _ ⟨by rw [← fillN_succ], rfl, hs6, hM4, hE4⟩
    · refine cfd (by ((try dsimp only); omega)) ?_
      obtain rfl : i = t + 1 := by omega
      exact k _ _ _ _ _ _ (hEH1.trans hE3) (hM3.wider fun i hi => Nat.le_trans hEH1.size hi) hbs (hO2.ext u64_good hE3)

/-! ### The same -/
theorem juntoref06_Same_sp {A B : Option Addr} {n c m d : Nat} {S S' : Nat → Prop} {F G : List (List Nat)} {H : Heap} (hF : Sl (slR u64R) S H A n c F) (hG : Sl (slR u64R) S' H B m d G) {K : Value → Heap → Prop} (h : K (.bool (decide (F = G))) H) :
    CallH P N.juntoref06_Same [.slice A n c, .slice B m d] H K := by
  apply juntoref06_Same.ok
  unfold juntoref06_Same.W
  have hn := hF.lt
  have hlx := hF.len
  have hly := hG.len
  by_cases hnm : n = m
  · refine cf (bne_f (by omega)) ?_
    refine LoopI.range n (fun k H' => H' = H ∧ ∀ j, j < k → F[j]? = G[j]?) ⟨rfl, fun j hj => by omega⟩ ?_
    rintro k H' z next hk ⟨rfl, hI⟩ hnext
    by_cases hlt : k < n
    · refine ctd (by omega) ?_
      obtain ⟨a, ha, A1, n1, c1, xs, hx1, hc, hs1⟩ := hF.row hlt
      obtain ⟨b, hb, A2, n2, c2, ys, hy1, hd, hs2⟩ := hG.row (i := k) (by omega)
      refine ⟨a, ha, by omega, by omega, b, hb, by omega, by omega, _, _, _, hc, _, _, _, hd, ?_⟩
      refine juntoref01_Same_sp hs1 hs2 ⟨_, rfl, ?_⟩
      by_cases hxy : xs = ys
      · rw [decide_eq_true hxy]
        refine cf rfl ?_
        rw [wsucc (by omega)]
        refine hnext hlt _ ⟨rfl, fun j hj => ?_⟩
        rcases Nat.lt_or_ge j k with h' | h'
        · exact hI j h'
        · obtain rfl : j = k := by omega
          rw [hx1, hy1, hxy]
      · rw [decide_eq_false hxy]
        refine ct rfl ?_
        rw [decide_eq_false (fun e => by rw [e, hy1] at hx1; cases hx1; exact hxy rfl)] at h
        exact h
    · refine cfd (by omega) ?_
      rw [decide_eq_true (List.ext_getElem? fun i => ?_)] at h
      · exact h
      · rcases Nat.lt_or_ge i k with h' | h'
        · exact hI i h'
        · rw [List.getElem?_eq_none (by omega), List.getElem?_eq_none (by omega)]
  · refine ct (bne_t (by omega)) ?_
    rw [decide_eq_false (fun e => by rw [e] at hlx; omega)] at h
    exact h
end Go.Proofs.Ytlhcaangdenoaaa.Sp
