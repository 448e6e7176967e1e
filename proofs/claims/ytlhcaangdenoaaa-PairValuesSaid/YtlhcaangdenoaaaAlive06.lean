import Derived.Test.YtlhcaangdenoaaaAt
import Derived.Test.YtlhcaangdenoaaaOpen
import Derived.Test.YtlhcaangdenoaaaShJuntolaw06
import Derived.Test.YtlhcaangdenoaaaShPairChecks
set_option linter.unusedVariables false
namespace Go.Proofs.Ytlhcaangdenoaaa.Sp
open Go.Sx Go.Proofs.Ytlhcaangdenoaaa.Sh

theorem isP7 : isP 7 := ⟨by omega, by omega, fun d h1 h2 => by
  have : d < 3 := Classical.byContradiction fun h => by
    have : 3 * 3 ≤ d * d := Nat.mul_le_mul (by omega) (by omega)
    omega
  obtain rfl : d = 2 := by omega
  decide⟩
theorem checkC_ok {p d : Nat} {F : List (List Nat)} (hp : isP p) (hd : d ≤ 3) (h1 : F.length = d + 1) (h2 : ∀ r ∈ F, r.length = d + 1) (h3 : ∀ r ∈ F, below p r = true) (h4 : symm (d + 1) F) : checkC p d F = 0 := by
  unfold checkC ground
  rw [if_pos (show (if prm p = true ∧ (0 : Int) ≤ (d : Int) ∧ (d : Int) ≤ 3 then (0 : Int) else 2) = 0 from if_pos ⟨prm_t hp, by omega, by omega⟩), Int.toNat_natCast]
  unfold formC
  rw [if_neg (by rintro (h | ⟨r, hr, h⟩); exact h h1; exact h (h2 r hr)), if_neg (by rintro ⟨r, hr, h⟩; rw [h3 r hr] at h; cases h), if_pos h4]

/-- Rows that a literal makes. -/
theorem rows_lit {S : Nat → Prop} {H : Heap} {vs : List Value} {F : List (List Nat)} (hS : S H.size) (hl : vs.length = F.length) (hn : F.length ≤ 17592186044416)
    (hv : ∀ (i : Nat) (xs : List Nat), F[i]? = some xs → ∃ v, vs[i]? = some v ∧ slR u64R S H xs v) :
    Sl (slR u64R) S (H.push (.cells vs.toArray 30 (0, 0))) (some (Addr.mk H.size 0 none)) F.length F.length F :=
  ⟨rfl, Nat.le_refl _, hn, fun i x hx => by
    obtain ⟨v, h1, A, n, c, e, h2⟩ := hv i x hx
    exact ⟨_, v, rfl, hS, by rw [add_mk, cell_blk (get_push_new H _)]; simpa using h1, A, n, c, e, h2.ext u64_good (Ext.push _ _)⟩⟩

theorem alive06 {H : Heap} {K : Value → Heap → Prop} (k : ∀ H', Ext H H' → K (.bool true) H') : CallH P N.juntolaw06_alive [] H K := by
  apply juntolaw06_alive.ok
  unfold juntolaw06_alive.W
  refine NewH.in ?_
  have hE0 := Ext.push H (.cells #[.int .u64 2, .int .u64 5] 22 (0, 0))
  have hO0 : Owns u64R 22 (Since H) (H.push (.cells #[.int .u64 2, .int .u64 5] 22 (0, 0))) (some (Addr.mk H.size 0 none)) 2 2 [2, 5] := Owns.words [2, 5] (Nat.le_refl _) (by simp)
  refine pair_Make_sp (p := 7) (secret := 3) (t := 1) (hO0.sl u64_good) (fun hbad => ?_) (fun d g bs A2 n2 c2 H2 ht hd hp hg hs hE hM hb hO => ?_)
  · exfalso
    rcases hbad with h | h
    · apply h; unfold ground; rw [if_pos ⟨prm_t isP7, by omega, by omega⟩]
    · omega
  obtain rfl : d = 1 := by omega
  refine ⟨_, _, _, _, _, _, _, rfl, ?_⟩
  have e1 : mk 7 3 1 [2, 5] = [[3, 2], [2, 5]] := by decide
  have e2 : rest 1 [2, 5] = [] := by decide
  rw [e1] at hM
  rw [e2] at hO
  have hF := hM.sl wd_u64 (by simp) (by omega)
  have hc : checkC 7 1 [[3, 2], [2, 5]] = 0 := checkC_ok (d := 1) isP7 (by omega) rfl (by decide) (by decide) (by
    intro i k hi hk
    have h1 : i = 0 ∨ i = 1 := by omega
    have h2 : k = 0 ∨ k = 1 := by omega
    rcases h1 with rfl | rfl <;> rcases h2 with rfl | rfl <;> rfl)
  refine pair_Row_sp (p := 7) (x := 1) (t := 1) hF (fun H3 hE3 hbad => ?_) (fun A3 n3 c3 H3 _ _ hE3 hO3 => ⟨_, _, _, _, rfl, ?_⟩)
  · exfalso; rcases hbad with h | h <;> omega
  have e3 : rowOf 7 [[3, 2], [2, 5]] 1 = [5] := by decide
  rw [e3] at hO3
  refine pair_At_sp (p := 7) (x := 1) (y := 2) (t := 1) (hF.ext (slR_good u64_good) hE3) (fun H4 hE4 hbad => ?_) (fun H4 _ _ _ hE4 => ⟨_, _, rfl, ?_⟩)
  · exfalso; rcases hbad with h | h <;> omega
  have e4 : evalH 7 (rowOf 7 [[3, 2], [2, 5]] 1) 2 = 5 := by decide
  rw [e4]
  refine ct rfl (NewH.in (NewH.in (NewH.in ?_)))
  have hE5 := Ext.push H4 (.cells #[.int .u64 3, .int .u64 2] 22 (0, 0))
  have hO5 : Owns u64R 22 (Since H4) (H4.push (.cells #[.int .u64 3, .int .u64 2] 22 (0, 0))) (some (Addr.mk H4.size 0 none)) 2 2 [3, 2] := Owns.words [3, 2] (Nat.le_refl _) (by simp)
  generalize H4.push (.cells #[.int .u64 3, .int .u64 2] 22 (0, 0)) = H5 at *
  have hE6 := Ext.push H5 (.cells #[.int .u64 2, .int .u64 5] 22 (0, 0))
  have hO6 : Owns u64R 22 (Since H4) (H5.push (.cells #[.int .u64 2, .int .u64 5] 22 (0, 0))) (some (Addr.mk H5.size 0 none)) 2 2 [2, 5] := Owns.words [2, 5] hE5.size (by simp)
  generalize H5.push (.cells #[.int .u64 2, .int .u64 5] 22 (0, 0)) = H6 at *
  have hE7 := Ext.push H6 (.cells #[.slice (some (Addr.mk H4.size 0 none)) 2 2, .slice (some (Addr.mk H5.size 0 none)) 2 2] 30 (0, 0))
  have hL : Sl (slR u64R) (Since H4) (H6.push (.cells #[.slice (some (Addr.mk H4.size 0 none)) 2 2, .slice (some (Addr.mk H5.size 0 none)) 2 2] 30 (0, 0))) (some (Addr.mk H6.size 0 none)) 2 2 [[3, 2], [2, 5]] :=
    rows_lit (vs := [.slice (some (Addr.mk H4.size 0 none)) 2 2, .slice (some (Addr.mk H5.size 0 none)) 2 2]) (F := [[3, 2], [2, 5]]) (Nat.le_trans hE5.size hE6.size) rfl (by simp) (fun i xs hx => by
      match i, hx with
      | 0, hx => cases hx; exact ⟨_, rfl, _, _, _, rfl, (hO5.ext u64_good hE6).sl u64_good⟩
      | 1, hx => cases hx; exact ⟨_, rfl, _, _, _, rfl, hO6.sl u64_good⟩
      | i + 2, hx => simp at hx)
  have hEE := (hE4.trans hE5).trans (hE6.trans hE7)
  refine juntoref06_Same_sp ((hF.ext (slR_good u64_good) hE3).ext (slR_good u64_good) hEE) hL ⟨_, rfl, ?_⟩
  refine ct (by decide) (ct ?_ (ct rfl (NewH.in ?_)))
  · have := hO.len; simp at this; subst this; rfl
  generalize H6.push (.cells #[.slice (some (Addr.mk H4.size 0 none)) 2 2, .slice (some (Addr.mk H5.size 0 none)) 2 2] 30 (0, 0)) = H7 at *
  have hE8 := Ext.push H7 (.cells #[.int .u64 5] 22 (0, 0))
  have hO8 : Owns u64R 22 (Since H7) (H7.push (.cells #[.int .u64 5] 22 (0, 0))) (some (Addr.mk H7.size 0 none)) 1 1 [5] := Owns.words [5] (Nat.le_refl _) (by simp)
  refine juntoref01_Same_sp ((hO3.ext u64_good (hEE.trans hE8)).sl u64_good) (hO8.sl u64_good) ⟨_, rfl, ?_⟩
  refine ct (by decide) (ct rfl (ct rfl (pair_Size_sp ⟨_, rfl, ?_⟩)))
  exact k _ (((hE0.trans hE).trans hE3).trans (hEE.trans hE8))

theorem sl_one {S : Nat → Prop} {H : Heap} {A : Option Addr} {n c e : Nat} {F : List (List Nat)} (hF : Sl (slR u64R) S H A n c F) : Sl (slR (slR u64R)) All (H.push (.cells #[.slice A n c] e (0, 0))) (some (Addr.mk H.size 0 none)) 1 1 [F] :=
  ⟨rfl, Nat.le_refl _, by omega, fun i x hx => by
    match i, hx with
    | 0, hx => cases hx; exact ⟨_, _, rfl, trivial, by rw [add_mk, cell_blk (get_push_new H _)]; rfl, _, _, _, rfl, (hF.all (slR_good u64_good)).ext (slR_good u64_good) (Ext.push _ _)⟩
    | i + 1, hx => simp at hx⟩
theorem checkL_one (p : Nat) (t : Int) (F : List (List Nat)) : checkL p t [F] = checkC p t F := by
  unfold checkL checkC
  split
  · simp only [firstC]
    split
    · rfl
    · rename_i h; simp at h; rw [h]
  · rfl
theorem PairChecks_sp {p : Nat} {t : Int} {A : Option Addr} {n c : Nat} {F : List (List Nat)} {H : Heap} (hF : Sl (slR u64R) All H A n c F) {K : Value → Heap → Prop}
    (k : ∀ H', Ext H H' → K (.bool true) H') : CallH P N.juntolaw06_PairChecks [.int .u64 p, .int .i64 t, .slice A n c] H K := by
  apply juntolaw06_PairChecks.ok
  refine pair_Check_sp hF fun H1 hE1 => ⟨_, rfl, NewH.in ?_⟩
  have hE2 := Ext.push H1 (.cells #[.slice A n c] 23 (0, 0))
  refine juntoref06_Check_sp (sl_one (hF.ext (slR_good u64_good) hE1)) ⟨_, rfl, ?_⟩
  rw [checkL_one]
  refine ct (beq_t rfl) (pair_Size_sp ⟨_, rfl, juntoref06_Size_sp ⟨_, rfl, ct (beq_t rfl) ?_⟩⟩)
  exact alive06 fun H3 hE3 => ⟨_, rfl, k _ ((hE1.trans hE2).trans hE3)⟩
theorem PairChecks_spR {p : Nat} {t : Int} {A : Option Addr} {n c : Nat} {F : List (List Nat)} {H : Heap} (_ : p < 18446744073709551616) (_ : -9223372036854775808 ≤ t ∧ t < 9223372036854775808) (hF : Sl (slR w64R) All H A n c F) {K : Value → Heap → Prop}
    (k : ∀ H', Ext H H' → K (.bool true) H') : CallH P N.juntolaw06_PairChecks [.int .u64 p, .int .i64 t, .slice A n c] H K := PairChecks_sp hF.uu k
end Go.Proofs.Ytlhcaangdenoaaa.Sp
