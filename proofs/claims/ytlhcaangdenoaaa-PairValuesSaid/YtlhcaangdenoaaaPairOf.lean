import Derived.Test.YtlhcaangdenoaaaPair
import Derived.Test.YtlhcaangdenoaaaMat
set_option linter.unusedVariables false
namespace Go.Proofs.Ytlhcaangdenoaaa.Sp
open Go.Sx Go.Proofs.Ytlhcaangdenoaaa.Sh
def wd (x : Nat) : Value := .int .u64 (x : Int)
theorem wd_u64 (S : Nat → Prop) (H : Heap) (x : Nat) : u64R S H x (wd x) := rfl

/-! ### The rows that a secret and numbers make -/
def cellStep (L : List Nat) (i : Nat) (s : List (List Nat) × Nat) (j : Nat) : List (List Nat) × Nat :=
  (set2 (set2 s.1 i (i + j) (L[s.2]?.getD 0)) (i + j) i (L[s.2]?.getD 0), s.2 + 1)
def fillN (L : List Nat) (n i : Nat) : List (List Nat) × Nat := (List.range i).foldl (fun s i => (List.range (n - i)).foldl (cellStep L i) s) (List.replicate n (List.replicate n 0), 0)
def fillJ (L : List Nat) (n i j : Nat) : List (List Nat) × Nat := (List.range j).foldl (cellStep L i) (fillN L n i)
def fill (L : List Nat) (n : Nat) : List (List Nat) := (fillN L n n).1
theorem fillJ_succ (L : List Nat) (n i j : Nat) : fillJ L n i (j + 1) = cellStep L i (fillJ L n i j) j := by simp [fillJ, List.range_succ]
theorem fillJ_zero (L : List Nat) (n i : Nat) : fillJ L n i 0 = fillN L n i := rfl
theorem fillN_succ (L : List Nat) (n i : Nat) : fillN L n (i + 1) = fillJ L n i (n - i) := by simp [fillN, fillJ, List.range_succ]
theorem fillJ_at (L : List Nat) (n i j : Nat) : (fillJ L n i j).2 = (fillN L n i).2 + j := by
  induction j with
  | zero => rfl
  | succ j ih => rw [fillJ_succ]; simp [cellStep, ih]; omega
def off (n : Nat) : Nat → Nat
  | 0 => 0
  | i + 1 => off n i + (n - i)
theorem fillN_at (L : List Nat) (n i : Nat) : (fillN L n i).2 = off n i := by
  induction i with
  | zero => rfl
  | succ i ih => rw [fillN_succ, fillJ_at, ih]; rfl
theorem off_lt : ∀ n, n < 5 → ∀ i, i < n → ∀ j, j < n - i → off n i + j < n * (n + 1) / 2 := by decide

theorem fill_round {L : List Nat} {n i j g : Nat} {bs : List Nat} {S : Nat → Prop} {H : Heap} (hb : bs.length = n) (hi : i < n) (hj : j < n - i)
    (hM : Mat wd 22 30 S H g n bs (fillJ L n i j).1 []) {x : Nat} (hx : L[(fillJ L n i j).2]? = some x) :
    ∃ b1 b2, cellH H ((Addr.mk g 0 none).add i) = some (.slice (some (Addr.mk b1 0 none)) n n) ∧ cellH H ((Addr.mk g 0 none).add (i + j)) = some (.slice (some (Addr.mk b2 0 none)) n n) ∧
      MayWrite H ((Addr.mk b1 0 none).add (i + j)) 1 ∧ MayWrite (setH H ((Addr.mk b1 0 none).add (i + j)) (wd x)) ((Addr.mk b2 0 none).add i) 1 ∧ S b1 ∧ S b2 ∧
      Mat wd 22 30 S (setH (setH H ((Addr.mk b1 0 none).add (i + j)) (wd x)) ((Addr.mk b2 0 none).add i) (wd x)) g n bs (fillJ L n i (j + 1)).1 [] := by
  have hl : (fillJ L n i j).1.length = n := by rw [← hM.len, hb]
  obtain ⟨b1, xs, hb1, hxs, hlen, hS1, hne1, hc1, hr1⟩ := hM.blk (i := i) (by omega)
  obtain ⟨b2, ys, hb2, hys, hlen2, hS2, hne2, hc2, hr2⟩ := hM.blk (i := i + j) (by omega)
  obtain ⟨w1, m1⟩ := hM.set hb1 (k := i + j) (by omega) x
  obtain ⟨w2, m2⟩ := m1.set hb2 (k := i) (by omega) x
  refine ⟨b1, b2, hr1, hr2, w1, w2, hS1, hS2, ?_⟩
  rw [fillJ_succ]
  simpa [cellStep, hx] using m2

theorem pair_Of_sp {secret t : Nat} (ht : t ≤ 3) {A : Option Addr} {n c : Nat} {S0 : Nat → Prop} {l : List Nat} {H : Heap} (hl : Sl u64R S0 H A n c l) (hn : l.length + 1 = (t + 1) * (t + 2) / 2) {K : Value → Heap → Prop}
    (k : ∀ g bs H', Ext H H' → Mat wd 22 30 (Since H) H' g (t + 1) bs (fill (secret :: l) (t + 1)) [] → bs.length = t + 1 → K (.slice (some (Addr.mk g 0 none)) (t + 1) (t + 1)) H') :
    CallH P N.pair_Of [.int .u64 secret, .int .i64 t, .slice A n c] H K := by
  apply pair_Of.ok
  unfold pair_Of.W
  have hw : IntKind.i64.wrap ((t : Int) + 1) = ((t + 1 : Nat) : Int) := wsucc (by omega)
  rw [hw]
  rw [show Int.toNat ((t + 1 : Nat) : Int) = t + 1 from rfl]
  have hq : (t + 1) * (t + 2) / 2 ≤ 10 := by
    have : t = 0 ∨ t = 1 ∨ t = 2 ∨ t = 3 := by omega
    rcases this with rfl | rfl | rfl | rfl <;> decide
  refine ⟨by omega, by omega, by omega, by omega, NewH.in ?_⟩
  refine LoopI.range (t + 1) (fun k H1 => ∃ bs, bs.length = k ∧ Mat wd 22 30 (Since H) H1 H.size (t + 1) bs (List.replicate k (List.replicate (t + 1) 0)) (List.replicate (t + 1 - k) (.slice none 0 0)) ∧ Ext H H1)
    ⟨[], rfl, Mat.start _ _ (Nat.le_refl _), Ext.push _ _⟩ ?_
  rintro k1 H1 z next hk ⟨bs, hbs, hM, hE⟩ hnext
  by_cases hlt : k1 < t + 1
  · refine ctd (by omega) ⟨by omega, by omega, by omega, by omega, NewH.in ?_⟩
    have hr : List.replicate (t + 1 - k1) (Value.slice none 0 0) = .slice none 0 0 :: List.replicate (t - k1) (.slice none 0 0) := by rw [show t + 1 - k1 = (t - k1) + 1 by omega, List.replicate_succ]
    rw [hr] at hM
    obtain ⟨w1, m1⟩ := hM.row_new (List.replicate (t + 1) 0) (by simp) hE.size
    have e0 : (repl (t + 1) [Value.int .u64 0]).toArray = ((List.replicate (t + 1) 0).map wd).toArray := by rw [repl_one]; simp [wd]
    rw [e0]
    refine ⟨_, rfl, by omega, by omega, by rw [← hbs]; exact w1, NewH.in ?_⟩
    rw [wsucc (by omega)]
    refine hnext hlt _ ⟨bs ++ [H1.size], by simp [hbs], ?_, ?_⟩
    · rw [hbs] at m1
      rw [show t + 1 - (k1 + 1) = t - k1 by omega]
      rw [← List.replicate_succ'] at m1
      exact m1
    · exact (hE.trans (Ext.push H1 _)).set (by rw [add_block]; exact Nat.le_refl _) _
  · refine cfd (by omega) (NewH.in ?_)
    obtain rfl : k1 = t + 1 := by omega
    simp only [Nat.sub_self, List.replicate_zero] at hM
    have hM0 := hM.inside
    have hEp := Ext.push H1 (.cells #[.int .u64 secret] 22 (0, 0))
    have hO : Owns u64R 22 (Since H1) (H1.push (.cells #[.int .u64 secret] 22 (0, 0))) (some (Addr.mk H1.size 0 none)) 1 1 [secret] := Owns.words (S := Since H1) [secret] (Nat.le_refl _) (by simp)
    have hlt' := hl.lt
    have hlen := hl.len
    refine hO.append u64_flat u64_good ((hl.ext u64_good hE).ext u64_good hEp) (fun i hi => Nat.le_trans hEp.size hi) (by omega) (by omega) ?_
    intro A2 c2 H2 hO2 hG
    have hE2 : Ext H1 H2 := hG.but.ext hEp (fun i hi => by cases hi; exact Nat.le_refl _)
    have hM2 := hM0.ext hE2
    have hs2 := hO2.sl u64_good
    have hEE := hE.trans hE2
    have hLlen : (secret :: l).length = (t + 1) * (t + 2) / 2 := by simpa using hn
    clear hO2 hG hO hEp hM hnext
    generalize hL : secret :: l = L at *
    rw [show [secret] ++ l = L from by rw [← hL]; rfl] at hs2
    refine LoopI.upto (t + 1) (fun i (s : (Option Addr × Nat × Nat) × Int) H' => s.2 = i ∧ Sl u64R (Since H1) H' s.1.1 s.1.2.1 s.1.2.2 (L.drop (fillN L (t + 1) i).2) ∧
      Mat wd 22 30 (fun i => Since H i ∧ i < H1.size) H' H.size (t + 1) bs (fillN L (t + 1) i).1 [] ∧ Ext H H') ⟨rfl, by simpa [fillN] using hs2, hM2, hEE⟩ (fun h k => h _ _ k) ?_
    rintro i ⟨⟨A3, n3, c3⟩, s2⟩ H3 z3 next3 hi ⟨rfl, hs3, hM3, hE3⟩ hnext3
    by_cases hit : i < t + 1
    · refine ctd (by ((try dsimp only); omega)) ?_
      refine LoopI.upto (t + 1 - i) (fun j (s : (Option Addr × Nat × Nat) × Int) H' => s.2 = ((i + j : Nat) : Int) ∧ Sl u64R (Since H1) H' s.1.1 s.1.2.1 s.1.2.2 (L.drop (fillJ L (t + 1) i j).2) ∧
        Mat wd 22 30 (fun i => Since H i ∧ i < H1.size) H' H.size (t + 1) bs (fillJ L (t + 1) i j).1 [] ∧ Ext H H') ⟨rfl, hs3, hM3, hE3⟩ (fun h k => h _ _ k) ?_
      rintro j ⟨⟨A4, n4, c4⟩, s4⟩ H4 z4 next4 hj ⟨rfl, hs4, hM4, hE4⟩ hnext4
      by_cases hjt : j < t + 1 - i
      · refine ctd (by ((try dsimp only); omega)) ?_
        have hat : (fillJ L (t + 1) i j).2 < L.length := by
          rw [fillJ_at, fillN_at, hLlen]
          exact off_lt (t + 1) (by omega) i hit j hjt
        obtain ⟨x, hx⟩ : ∃ x, L[(fillJ L (t + 1) i j).2]? = some x := ⟨_, List.getElem?_eq_getElem hat⟩
        have hn4 : 0 < n4 := by have := hs4.len; simp at this; omega
        obtain ⟨a4, ha4, y, hy, hcy⟩ := hs4.u64 hn4
        rw [List.getElem?_drop, Nat.add_zero, hx] at hy
        cases hy
        obtain ⟨b1, b2, r1, r2, w1, w2, hS1, hS2, m⟩ := fill_round hbs hit hjt hM4 hx
        refine ⟨_, rfl, by ((try dsimp only); omega), by ((try dsimp only); omega), _, rfl, by ((try dsimp only); omega), by ((try dsimp only); omega), a4, ha4, by ((try dsimp only); omega), by ((try dsimp only); omega), a4, ha4, by ((try dsimp only); omega), by ((try dsimp only); omega), _, _, _, r1, _, _, _, r2, _, hcy, _, hcy, _, rfl, by ((try dsimp only); omega), by ((try dsimp only); omega), w1, NewH.in ⟨_, rfl, by ((try dsimp only); omega), by ((try dsimp only); omega), w2, NewH.in ⟨by ((try dsimp only); omega), by ((try dsimp only); omega), ?_⟩⟩⟩
        rw [wsucc (by omega)]
        refine hnext4 hjt _ _ ⟨rfl, ?_, m, (hE4.set (by rw [add_block]; exact hS1.1) _).set (by rw [add_block]; exact hS2.1) _⟩
        have := (hs4.keep u64_good (On.set H4 (a := (Addr.mk b1 0 none).add (i + j)) (by rw [add_block]; have := hS1.2; unfold Since; ((try dsimp only); omega)) (wd x))).keep u64_good
          (On.set (setH H4 ((Addr.mk b1 0 none).add (i + j)) (wd x)) (a := (Addr.mk b2 0 none).add i) (by rw [add_block]; have := hS2.2; unfold Since; ((try dsimp only); omega)) (wd x))
        have := this.sub (l := 1) (u := n4) (by omega) (Nat.le_refl _)
        rw [List.take_of_length_le (Nat.le_of_eq hs4.len.symm), List.drop_drop] at this
        rw [fillJ_succ]
        exact this
      · refine cfd (by ((try dsimp only); omega)) ?_
        obtain rfl : j = t + 1 - i := by omega
        rw [wsucc (by omega)]
        rw [← fillN_succ] at hs4 hM4
        exact hnext3 hit _ _ ⟨rfl, hs4, hM4, hE4⟩
    · refine cfd (by ((try dsimp only); omega)) ?_
      obtain rfl : i = t + 1 := by omega
      exact k _ _ _ hE3 (hM3.wider fun i hi => hi.1) hbs
end Go.Proofs.Ytlhcaangdenoaaa.Sp
