import Derived.Test.YtlhcaangdenoaaaRow06
import Derived.Test.YtlhcaangdenoaaaMakes06
import Derived.Test.YtlhcaangdenoaaaShPairValues
set_option linter.unusedVariables false
namespace Go.Proofs.Ytlhcaangdenoaaa.Sp
open Go.Sx Go.Proofs.Ytlhcaangdenoaaa.Sh

theorem number06 {a e want bad : Int} {H : Heap} {K : Value → Heap → Prop} (he : e = bad) (h : bad ≠ 0 ∧ a = 0 ∨ bad = 0 ∧ a = want) (k : K (.bool true) H) :
    CallH P N.juntolaw06_number [.int .u64 a, .int .i64 e, .int .u64 want, .int .i64 bad] H K := by
  subst he
  apply juntolaw06_number.ok
  refine ct (beq_t rfl) ?_
  rcases h with ⟨h1, h2⟩ | ⟨h1, h2⟩
  · exact ct (bne_t h1) (ct (beq_t h2) k)
  · subst h1; subst h2
    refine cf rfl (ct rfl ?_)
    rw [beq_t rfl]; exact k
theorem list06_bad {A B : Option Addr} {n c m d : Nat} {e bad : Int} {H : Heap} {K : Value → Heap → Prop} (hb : bad ≠ 0) (he : e = bad) (hn : n = 0) (k : K (.bool true) H) :
    CallH P N.juntolaw06_list [.slice A n c, .int .i64 e, .slice B m d, .int .i64 bad] H K := by
  subst he; subst hn
  apply juntolaw06_list.ok
  exact ct (bne_t hb) (ct (beq_t rfl) k)
theorem list06_ok {A B : Option Addr} {n c m d : Nat} {S S' : Nat → Prop} {xs ys : List Nat} {H : Heap} {K : Value → Heap → Prop} (hx : Sl u64R S H A n c xs) (hy : Sl u64R S' H B m d ys) (hxy : xs = ys) (k : K (.bool true) H) :
    CallH P N.juntolaw06_list [.slice A n c, .int .i64 0, .slice B m d, .int .i64 0] H K := by
  apply juntolaw06_list.ok
  refine cf rfl (ct rfl (juntoref01_Same_sp hx hy ⟨_, rfl, ?_⟩))
  rw [decide_eq_true hxy]; exact k
theorem one_word {S : Nat → Prop} (H : Heap) (y : Nat) (hS : S H.size) : Sl u64R S (H.push (.cells #[.int .u64 (y : Int)] 22 (0, 0))) (some (Addr.mk H.size 0 none)) 1 1 [y] :=
  (Owns.words (S := S) [y] hS (by simp)).sl u64_good
theorem below_one (p y : Nat) : codeB (below p [y]) = if y < p then 0 else 2 := by
  unfold below codeB
  by_cases h : y < p <;> simp [h]

theorem pair_At_y {p x y : Nat} {t : Int} {A : Option Addr} {n c : Nat} {S : Nat → Prop} {F : List (List Nat)} {H : Heap} (hF : Sl (slR u64R) S H A n c F) (hc : checkC p t F = 0) (hx : x < p) {K : Value → Heap → Prop}
    (k : ∀ H' (v : Nat) (e : Int), e = codeB (below p [y]) → (e ≠ 0 ∧ v = 0 ∨ e = 0 ∧ y < p ∧ v = evalH p (rowOf p F x) y) → Ext H H' → K (.tuple #[.int .u64 (v : Int), .int .i64 e]) H') : CallH P N.pair_At [.int .u64 p, .int .i64 t, .slice A n c, .int .u64 x, .int .u64 y] H K := by
  refine pair_At_sp hF (fun H2 hE2 hbad => ?_) (fun H2 _ _ hy hE2 => k H2 _ 0 (by rw [below_one, if_pos hy]) (.inr ⟨rfl, hy, rfl⟩) hE2)
  have hy : p ≤ y := by rcases hbad with h | ⟨_, h | h⟩ <;> omega
  rw [if_neg (by simp [hc])]
  exact k H2 0 2 (by rw [below_one, if_neg (by omega)]) (.inl ⟨by omega, rfl⟩) hE2
theorem PairValues_spR {p x y : Nat} {t : Int} {A : Option Addr} {n c : Nat} {F : List (List Nat)} {H : Heap} (_ : p < 18446744073709551616) (_ : -9223372036854775808 ≤ t ∧ t < 9223372036854775808) (hF' : Sl (slR w64R) All H A n c F) (_ : x < 18446744073709551616) (_ : y < 18446744073709551616)
    {K : Value → Heap → Prop} (k : ∀ H', Ext H H' → K (.bool true) H') : CallH P N.juntolaw06_PairValues [.int .u64 p, .agg #[.int .i64 t, .slice A n c], .agg #[.int .u64 x, .int .u64 y]] H K := by
  apply juntolaw06_PairValues.ok
  refine NewH.in (NewH.in ?_)
  have hE0 := Ext.push H (.cells #[.int .i64 t, .slice A n c] 42 (0, 0))
  have g0 := cell_blk (get_push_new H (.cells #[.int .i64 t, .slice A n c] 42 (0, 0))) 0
  have g1 := cell_blk (get_push_new H (.cells #[.int .i64 t, .slice A n c] 42 (0, 0))) 1
  rw [show (#[Value.int .i64 t, .slice A n c])[0]? = some (.int .i64 t) from rfl] at g0
  rw [show (#[Value.int .i64 t, .slice A n c])[1]? = some (.slice A n c) from rfl] at g1
  rw [← add_mk] at g1
  have hF0 := hF'.uu.ext (slR_good u64_good) hE0
  generalize H.push (.cells #[.int .i64 t, .slice A n c] 42 (0, 0)) = H0 at *
  have hE1 := Ext.push H0 (.cells #[.int .u64 (x : Int), .int .u64 (y : Int)] 43 (0, 0))
  have a0 := cell_blk (get_push_new H0 (.cells #[.int .u64 (x : Int), .int .u64 (y : Int)] 43 (0, 0))) 0
  have a1 := cell_blk (get_push_new H0 (.cells #[.int .u64 (x : Int), .int .u64 (y : Int)] 43 (0, 0))) 1
  rw [show (#[Value.int .u64 (x : Int), .int .u64 (y : Int)])[0]? = some (.int .u64 (x : Int)) from rfl] at a0
  rw [show (#[Value.int .u64 (x : Int), .int .u64 (y : Int)])[1]? = some (.int .u64 (y : Int)) from rfl] at a1
  rw [← add_mk] at a1
  have g0 := hE1.cell g0
  have g1 := hE1.cell g1
  have hF := hF0.ext (slR_good u64_good) hE1
  have hEE := hE0.trans hE1
  clear hF0 hE0 hE1
  generalize H0.push (.cells #[.int .u64 (x : Int), .int .u64 (y : Int)] 43 (0, 0)) = H1 at *
  refine ⟨by omega, by omega, by omega, by omega, _, a0, _, a1, _, g0, _, _, _, g1, ?_⟩
  -- what the two calls hand back, as the reference's check tells it
  have check : ∀ (H2 : Heap) (K' : Value → Heap → Prop), Ext H1 H2 → (∀ H3, Ext H2 H3 → K' (.int .i64 (checkC p t F)) H3) →
      CallH P N.juntoref06_Check [.int .u64 p, .int .i64 t, .slice (some (Addr.mk H2.size 0 none)) 1 1] (H2.push (.cells #[.slice A n c] 23 (0, 0))) K' := by
    intro H2 K' hE2 h
    refine juntoref06_Check_sp (sl_one (hF.ext (slR_good u64_good) hE2)) ?_
    rw [checkL_one]
    exact h _ (Ext.push H2 _)
  rcases checkC_cases p t F with hc | ⟨hc, hp, d, rfl, hd, h1, h2, h3, h4⟩
  · refine pair_At_sp hF (fun H2 hE2 hbad => ⟨_, _, rfl, _, hE2.cell g0, _, _, _, hE2.cell g1, ?_⟩) (fun H2 h0 => (hc h0).elim)
    refine pair_Row_sp (hF.ext (slR_good u64_good) hE2) (fun H3 hE3 hbad3 => ⟨_, _, _, _, rfl, _, (hE2.trans hE3).cell g0, _, _, _, (hE2.trans hE3).cell g1, NewH.in ?_⟩) (fun _ _ _ H3 h0 => (hc h0).elim)
    rw [if_pos hc]
    refine check H3 _ (hE2.trans hE3) fun H4 hE4 => ⟨_, rfl, ct (bne_t hc) ?_⟩
    refine number06 rfl (.inl ⟨hc, rfl⟩) ⟨_, rfl, ct rfl ?_⟩
    refine list06_bad hc rfl rfl ⟨_, rfl, ct rfl ?_⟩
    exact alive06 fun H5 hE5 => ⟨_, rfl, k _ ((hEE.trans ((hE2.trans hE3).trans hE4)).trans hE5)⟩
  have hn : n = d + 1 := by rw [← h1]; exact hF.len
  have hp0 : 1 < p := by have := hp.1; omega
  by_cases hx : p ≤ x
  · refine pair_At_sp hF (fun H2 hE2 hbad => ⟨_, _, rfl, _, hE2.cell g0, _, _, _, hE2.cell g1, ?_⟩) (fun H2 _ h0 => by omega)
    refine pair_Row_sp (hF.ext (slR_good u64_good) hE2) (fun H3 hE3 hbad3 => ⟨_, _, _, _, rfl, _, (hE2.trans hE3).cell g0, _, _, _, (hE2.trans hE3).cell g1, NewH.in ?_⟩) (fun _ _ _ H3 _ h0 => by omega)
    rw [if_neg (by simp [hc])]
    refine check H3 _ (hE2.trans hE3) fun H4 hE4 => ⟨_, rfl, ?_⟩
    rw [hc]
    refine cf rfl (ctd (by omega) ?_)
    refine number06 rfl (.inl ⟨by omega, rfl⟩) ⟨_, rfl, ct rfl ?_⟩
    exact list06_bad (by omega) rfl rfl ⟨_, rfl, k _ (hEE.trans ((hE2.trans hE3).trans hE4))⟩
  have hrow : ∀ r ∈ F, r.length = n := fun r hr => by rw [h2 r hr, hn]
  have rs : rowR p F x = rowOf p F x := row_symm h1 h2 h4
  refine pair_At_y hF hc (by omega) fun H2 v e he hv hE2 => ⟨_, _, rfl, _, hE2.cell g0, _, _, _, hE2.cell g1, ?_⟩
  refine pair_Row_sp (hF.ext (slR_good u64_good) hE2) (fun H3 hE3 hbad3 => by exfalso; rcases hbad3 with h | h <;> omega) (fun A3 n3 c3 H3 _ _ hE3 hO3 => ⟨_, _, _, _, rfl, _, (hE2.trans hE3).cell g0, _, _, _, (hE2.trans hE3).cell g1, NewH.in ?_⟩)
  refine check H3 _ (hE2.trans hE3) fun H4 hE4 => ⟨_, rfl, ?_⟩
  rw [hc]
  have hE14 := (hE2.trans hE3).trans hE4
  have hF4 := hF.ext (slR_good u64_good) hE14
  have hO4 := (hO3.ext u64_good hE4).sl u64_good
  have hym : y % p < p := Nat.mod_lt _ (by omega)
  have hnum : ∀ b : Int, b = e → (b ≠ 0 ∧ ((v : Nat) : Int) = 0 ∨ b = 0 ∧ ((v : Nat) : Int) = ((evalH p (rowR p F x) (y % p) : Nat) : Int)) := by
    rintro b rfl
    rcases hv with ⟨h, h'⟩ | ⟨h, h', h''⟩
    · exact .inl ⟨h, by omega⟩
    · refine .inr ⟨h, ?_⟩
      rw [rs, Nat.mod_eq_of_lt h', h'']
  refine cf rfl (cfd (by omega) ⟨by omega, _, _, _, hE14.cell g1, ?_, NewH.in ?_⟩)
  · rw [tmod_nat]
    refine juntoref06_At_sp hp0 hp.2.1 (by omega) hym hF4 hrow h3 fun H5 hE5 => ⟨_, rfl, NewH.in ?_⟩
    have hE6 := Ext.push H5 (.cells #[.int .u64 (y : Int)] 22 (0, 0))
    refine juntoref01_Within_sp (one_word (S := All) H5 y trivial) ⟨_, rfl, ?_⟩
    rw [← he]
    refine number06 rfl (hnum _ rfl) ⟨_, rfl, ct rfl ⟨_, _, _, (hE14.trans (hE5.trans hE6)).cell g1, ?_⟩⟩
    refine juntoref06_Row_sp hp0 hp.2.1 (by omega) (hF4.ext (slR_good u64_good) (hE5.trans hE6)) hrow h3 fun A7 n7 c7 H7 hE7 hO7 => ⟨_, _, _, rfl, ?_⟩
    have hEa := (hE5.trans hE6).trans hE7
    exact list06_ok (hO4.ext u64_good hEa) (hO7.sl u64_good) rs.symm ⟨_, rfl, k _ ((hEE.trans hE14).trans hEa)⟩
  · rw [tmod_nat]
    have hE6 := Ext.push H4 (.cells #[.int .u64 (y : Int)] 22 (0, 0))
    have hw := one_word (S := All) H4 y trivial
    refine ⟨(hE14.trans hE6).cell g1, ?_⟩
    generalize H4.push (.cells #[.int .u64 (y : Int)] 22 (0, 0)) = H6 at *
    refine juntoref06_At_sp hp0 hp.2.1 (by omega) hym (hF4.ext (slR_good u64_good) hE6) hrow h3 fun H5 hE5 => ⟨_, rfl, ?_⟩
    refine juntoref01_Within_sp (hw.ext u64_good hE5) ⟨_, rfl, ?_⟩
    rw [← he]
    refine number06 rfl (hnum _ rfl) ⟨_, rfl, ct rfl ⟨_, _, _, (hE14.trans (hE6.trans hE5)).cell g1, ?_⟩⟩
    refine juntoref06_Row_sp hp0 hp.2.1 (by omega) (hF4.ext (slR_good u64_good) (hE6.trans hE5)) hrow h3 fun A7 n7 c7 H7 hE7 hO7 => ⟨_, _, _, rfl, ?_⟩
    have hEa := (hE6.trans hE5).trans hE7
    exact list06_ok (hO4.ext u64_good hEa) (hO7.sl u64_good) rs.symm ⟨_, rfl, k _ ((hEE.trans hE14).trans hEa)⟩
end Go.Proofs.Ytlhcaangdenoaaa.Sp
