import Derived.Test.YtlhcaangdenoaaaShPair
import Derived.Test.YtlhcaangdenoaaaShJuntoref06
import Derived.Test.YtlhcaangdenoaaaTake
set_option linter.unusedVariables false
namespace Go.Sx
theorem Sl.row {α : Type} {E : Rel α} {S : Nat → Prop} {H : Heap} {A : Option Addr} {n c : Nat} {F : List (List α)} (h : Sl (slR E) S H A n c F) {i : Nat} (hi : i < n) :
    ∃ a, A = some a ∧ ∃ (A' : Option Addr) (n' c' : Nat) (xs : List α), F[i]? = some xs ∧ cellH H (a.add i) = some (.slice A' n' c') ∧ Sl E S H A' n' c' xs := by
  obtain ⟨a, xs, v, ha, hx, hc, A', n', c', rfl, hs⟩ := h.el hi
  exact ⟨a, ha, A', n', c', xs, hx, hc, hs⟩
end Go.Sx
namespace Go.Proofs.Ytlhcaangdenoaaa.Sp
open Go.Sx Go.Proofs.Ytlhcaangdenoaaa.Sh
open Classical

noncomputable def ground (p : Nat) (t : Int) : Int := if prm p = true ∧ 0 ≤ t ∧ t ≤ 3 then 0 else 2
theorem pair_ground_sp {p : Nat} {t : Int} {H : Heap} {K : Value → Heap → Prop} (h : K (.int .i64 (ground p t)) H) : CallH P N.pair_ground [.int .u64 p, .int .i64 t] H K := by
  apply pair_ground.ok
  refine field_Is_sp ⟨_, rfl, ?_⟩
  unfold ground at h
  by_cases hp : prm p = true
  · rw [hp]
    refine cf rfl ?_
    by_cases h0 : t < 0
    · rw [if_neg (by omega)] at h; exact ctd h0 h
    refine cfd h0 ?_
    by_cases h3 : t > 3
    · rw [if_neg (by omega)] at h; exact ctd h3 h
    rw [if_pos ⟨hp, by omega, by omega⟩] at h; exact cfd h3 h
  · rw [if_neg (fun h => hp h.1)] at h
    exact ct (by simp at hp; rw [hp]; rfl) h
theorem juntoref06_Bounds_sp {p : Nat} {t : Int} {H : Heap} {K : Value → Heap → Prop} (h : K (.int .i64 (ground p t)) H) : CallH P N.juntoref06_Bounds [.int .u64 p, .int .i64 t] H K := by
  apply juntoref06_Bounds.ok
  refine juntoref01_Is_sp ⟨_, rfl, ?_⟩
  unfold ground at h
  by_cases hp : prm p = true
  · rw [hp]
    refine cf rfl ?_
    by_cases h0 : t < 0
    · rw [if_neg (by omega)] at h; exact ctd h0 h
    refine cfd h0 ?_
    by_cases h3 : t > 3
    · rw [if_neg (by omega)] at h; exact ctd h3 h
    rw [if_pos ⟨hp, by omega, by omega⟩] at h; exact cfd h3 h
  · rw [if_neg (fun h => hp h.1)] at h
    exact ct (by simp at hp; rw [hp]; rfl) h
theorem ground_cases (p : Nat) (t : Int) : ground p t = 2 ∨ (ground p t = 0 ∧ isP p ∧ ∃ d : Nat, t = d ∧ d ≤ 3) := by
  unfold ground
  split
  · rename_i h; exact .inr ⟨rfl, prm_iff.1 h.1, t.toNat, by omega, by omega⟩
  · exact .inl rfl

/-! ### Size -/
def size (t : Int) : Int := if t < 0 ∨ t > 3 then 0 else (t + 1) * (t + 2) / 2 - 1
theorem size_words {t : Int} (h0 : ¬ t < 0) (h3 : ¬ t > 3) : IntKind.i64.wrap ((IntKind.i64.wrap (Int.tdiv (IntKind.i64.wrap ((IntKind.i64.wrap (t + 1)) * (IntKind.i64.wrap (t + 2)))) 2)) - 1) = size t := by
  have : t = 0 ∨ t = 1 ∨ t = 2 ∨ t = 3 := by omega
  rcases this with rfl | rfl | rfl | rfl <;> decide
theorem pair_Size_sp {t : Int} {H : Heap} {K : Value → Heap → Prop} (h : K (.int .i64 (size t)) H) : CallH P N.pair_Size [.int .i64 t] H K := by
  apply pair_Size.ok
  unfold pair_Size.W
  by_cases h0 : t < 0
  · rw [size, if_pos (.inl h0)] at h; exact ctd h0 h
  refine cfd h0 ?_
  by_cases h3 : t > 3
  · rw [size, if_pos (.inr h3)] at h; exact ctd h3 h
  refine cfd h3 ⟨by omega, ?_⟩
  rw [size_words h0 h3]; exact h
theorem juntoref06_Size_sp {t : Int} {H : Heap} {K : Value → Heap → Prop} (h : K (.int .i64 (size t)) H) : CallH P N.juntoref06_Size [.int .i64 t] H K := by
  apply juntoref06_Size.ok
  unfold juntoref06_Size.W
  by_cases h0 : t < 0
  · rw [size, if_pos (.inl h0)] at h; exact ctd h0 h
  refine cfd h0 ?_
  by_cases h3 : t > 3
  · rw [size, if_pos (.inr h3)] at h; exact ctd h3 h
  refine cfd h3 ⟨by omega, ?_⟩
  rw [size_words h0 h3]; exact h

/-! ### Check -/
def at2 (F : List (List Nat)) (i k : Nat) : Nat := ((F[i]?.getD [])[k]?).getD 0
def badLen (n : Nat) (F : List (List Nat)) : Prop := F.length ≠ n ∨ ∃ r ∈ F, r.length ≠ n
def symm (n : Nat) (F : List (List Nat)) : Prop := ∀ i k, i < n → k < n → at2 F i k = at2 F k i
noncomputable def formC (p n : Nat) (F : List (List Nat)) : Int :=
  if badLen n F then 4 else if ∃ r ∈ F, below p r = false then 2 else if symm n F then 0 else 4
noncomputable def checkC (p : Nat) (t : Int) (F : List (List Nat)) : Int := if ground p t = 0 then formC p (t.toNat + 1) F else 2

theorem at2_eq {F : List (List Nat)} {i k : Nat} {xs : List Nat} {x : Nat} (h : F[i]? = some xs) (hx : xs[k]? = some x) : at2 F i k = x := by simp [at2, h, hx]

theorem juntoref06_form_sp {p t : Nat} (ht : t ≤ 3) {A : Option Addr} {n c : Nat} {S : Nat → Prop} {F : List (List Nat)} {H : Heap} (hF : Sl (slR u64R) S H A n c F) {K : Value → Heap → Prop} (h : K (.int .i64 (formC p (t + 1) F)) H) :
    CallH P N.juntoref06_form [.int .u64 p, .int .i64 t, .slice A n c] H K := by
  apply juntoref06_form.ok
  unfold juntoref06_form.W
  have hl := hF.len
  have hlt := hF.lt
  have hw : IntKind.i64.wrap ((t : Int) + 1) = ((t + 1 : Nat) : Int) := wsucc (by omega)
  rw [hw]
  by_cases hn : n = t + 1
  · refine cf (bne_f (by omega)) ?_
    refine LoopI.range n (fun k H' => H' = H ∧ ∀ j r, j < k → F[j]? = some r → r.length = t + 1) ⟨rfl, fun j x hj => by omega⟩ ?_
    rintro k H' z next hk ⟨rfl, hI⟩ hnext
    by_cases hlt : k < n
    · refine ctd (by omega) ?_
      obtain ⟨a, ha, A', n', c', xs, hx, hc, hs⟩ := hF.row hlt
      refine ⟨a, ha, by omega, by omega, A', n', c', hc, ?_⟩
      have hxl := hs.len
      by_cases hnn : n' = t + 1
      · refine cf (bne_f (by omega)) ?_
        rw [wsucc (by omega)]
        refine hnext hlt _ ⟨rfl, fun j r hj hr => ?_⟩
        rcases Nat.lt_or_ge j k with h' | h'
        · exact hI j r h' hr
        · obtain rfl : j = k := by omega
          rw [hx] at hr; cases hr; omega
      · refine ct (bne_t (by omega)) ?_
        rw [formC, if_pos (.inr ⟨xs, List.mem_of_getElem? hx, by omega⟩)] at h
        exact h
    refine cfd (by omega) ?_
    have hrow : ∀ r ∈ F, r.length = t + 1 := fun r hr => by
      obtain ⟨j, hj⟩ := List.mem_iff_getElem?.1 hr
      exact hI j r (by have := (List.getElem?_eq_some_iff.1 hj).1; omega) hj
    have hgood : ¬ badLen (t + 1) F := by
      rintro (hb | ⟨r, hr, hb⟩)
      · omega
      · exact hb (hrow r hr)
    rw [formC, if_neg hgood] at h
    clear hnext hI
    refine LoopI.range n (fun k H1 => H1 = H' ∧ ∀ j r, j < k → F[j]? = some r → below p r = true) ⟨rfl, fun j x hj => by omega⟩ ?_
    rintro k2 H2 z2 next2 hk2 ⟨rfl, hI⟩ hnext
    by_cases hlt2 : k2 < n
    · refine ctd (by omega) ?_
      obtain ⟨a, ha, A', n', c', xs, hx, hc, hs⟩ := hF.row hlt2
      refine ⟨a, ha, by omega, by omega, A', n', c', hc, ?_⟩
      refine juntoref01_Within_sp hs ⟨_, rfl, ?_⟩
      by_cases hb : below p xs = true
      · rw [hb]
        refine cf rfl ?_
        rw [wsucc (by omega)]
        refine hnext hlt2 _ ⟨rfl, fun j r hj hr => ?_⟩
        rcases Nat.lt_or_ge j k2 with h' | h'
        · exact hI j r h' hr
        · obtain rfl : j = k2 := by omega
          rw [hx] at hr; cases hr; exact hb
      · simp at hb
        rw [if_pos ⟨xs, List.mem_of_getElem? hx, hb⟩] at h
        rw [hb]; exact h
    refine cfd (by omega) ?_
    have hall : ¬ ∃ r ∈ F, below p r = false := by
      rintro ⟨r, hr, hb⟩
      obtain ⟨j, hj⟩ := List.mem_iff_getElem?.1 hr
      have := hI j r (by have := (List.getElem?_eq_some_iff.1 hj).1; omega) hj
      rw [hb] at this; cases this
    rw [if_neg hall] at h
    clear hnext hI
    refine LoopI.range n (fun k H1 => H1 = H2 ∧ ∀ i j, i < k → j < n → at2 F i j = at2 F j i) ⟨rfl, fun i j hj => by omega⟩ ?_
    rintro k3 H3 z3 next3 hk3 ⟨rfl, hI⟩ hnext
    by_cases hlt3 : k3 < n
    · refine ctd (by omega) ?_
      refine LoopI.range n (fun k H1 => H1 = H3 ∧ ∀ j, j < k → at2 F k3 j = at2 F j k3) ⟨rfl, fun j hj => by omega⟩ ?_
      rintro k4 H4 z4 next4 hk4 ⟨rfl, hJ⟩ hnext4
      by_cases hlt4 : k4 < n
      · refine ctd (by omega) ?_
        obtain ⟨a, ha, A1, n1, c1, xs, hx, hc, hs⟩ := hF.row hlt3
        obtain ⟨b, hb, A2, n2, c2, ys, hy, hd, hr⟩ := hF.row hlt4
        have hn1 : n1 = n := by have := hs.len; have := hrow xs (List.mem_of_getElem? hx); omega
        have hn2 : n2 = n := by have := hr.len; have := hrow ys (List.mem_of_getElem? hy); omega
        obtain ⟨a5, ha5, x, hx5, hc5⟩ := hs.u64 (i := k4) (by omega)
        obtain ⟨a6, ha6, y, hy6, hc6⟩ := hr.u64 (i := k3) (by omega)
        refine ⟨a, ha, by omega, by omega, b, hb, by omega, by omega, A1, n1, c1, hc, a5, ha5, by omega, by omega, x, hc5, A2, n2, c2, hd, a6, ha6, by omega, by omega, y, hc6, ?_⟩
        by_cases hxy : x = y
        · refine cf (bne_f (by omega)) ?_
          rw [wsucc (by omega)]
          refine hnext4 hlt4 _ ⟨rfl, fun j hj => ?_⟩
          rcases Nat.lt_or_ge j k4 with h' | h'
          · exact hJ j h'
          · obtain rfl : j = k4 := by omega
            rw [at2_eq hx hx5, at2_eq hy hy6, hxy]
        · refine ct (bne_t (by omega)) ?_
          rw [if_neg (fun hsym : symm _ F => by have := hsym k3 k4 (by omega) (by omega); rw [at2_eq hx hx5, at2_eq hy hy6] at this; exact hxy this)] at h
          exact h
      refine cfd (by omega) ?_
      rw [wsucc (by omega)]
      refine hnext hlt3 _ ⟨rfl, fun i j hi hj => ?_⟩
      rcases Nat.lt_or_ge i k3 with h' | h'
      · exact hI i j h' hj
      · obtain rfl : i = k3 := by omega
        exact hJ j (by omega)
    refine cfd (by omega) ?_
    rw [if_pos (show symm _ F from fun i j hi hj => hI i j (by omega) (by omega))] at h
    exact h
  · refine ct (bne_t (by omega)) ?_
    rw [formC, if_pos (.inl (by omega))] at h
    exact h

/-- The first of the codes that is not 0. -/
noncomputable def firstC (p n : Nat) : List (List (List Nat)) → Int
  | [] => 0
  | F :: l => if formC p n F ≠ 0 then formC p n F else firstC p n l
noncomputable def checkL (p : Nat) (t : Int) (l : List (List (List Nat))) : Int := if ground p t = 0 then firstC p (t.toNat + 1) l else 2
theorem firstC_drop {p n : Nat} {l : List (List (List Nat))} {k : Nat} {F : List (List Nat)} (h : l[k]? = some F) : firstC p n (l.drop k) = if formC p n F ≠ 0 then formC p n F else firstC p n (l.drop (k + 1)) := by
  obtain ⟨hk, rfl⟩ := List.getElem?_eq_some_iff.1 h
  rw [List.drop_eq_getElem_cons hk]; rfl
theorem juntoref06_Check_sp {p : Nat} {t : Int} {A : Option Addr} {n c : Nat} {S : Nat → Prop} {l : List (List (List Nat))} {H : Heap} (hl : Sl (slR (slR u64R)) S H A n c l) {K : Value → Heap → Prop} (h : K (.int .i64 (checkL p t l)) H) :
    CallH P N.juntoref06_Check [.int .u64 p, .int .i64 t, .slice A n c] H K := by
  apply juntoref06_Check.ok
  refine juntoref06_Bounds_sp ⟨_, rfl, ?_⟩
  have hln := hl.len
  have hlt := hl.lt
  unfold checkL at h
  rcases ground_cases p t with hg | ⟨hg, hp, d, rfl, hd⟩
  · rw [hg, if_neg (by omega)] at h
    rw [hg]; exact h
  · rw [hg, if_pos rfl] at h
    rw [hg]
    refine cf rfl ?_
    simp only [Int.toNat_natCast] at h
    refine LoopI.range n (fun k H' => H' = H ∧ firstC p (d + 1) l = firstC p (d + 1) (l.drop k)) ⟨rfl, rfl⟩ ?_
    rintro k H' z next hk ⟨rfl, hI⟩ hnext
    by_cases hlt : k < n
    · refine ctd (by omega) ?_
      obtain ⟨a, ha, A', n', c', F, hx, hc, hs⟩ := hl.row hlt
      refine ⟨a, ha, by omega, by omega, A', n', c', hc, ?_⟩
      refine juntoref06_form_sp hd hs ⟨_, rfl, ?_⟩
      rw [firstC_drop hx] at hI
      by_cases h0 : formC p (d + 1) F = 0
      · rw [if_neg (by omega)] at hI
        refine cf (bne_f h0) ?_
        rw [wsucc (by omega)]
        exact hnext hlt _ ⟨rfl, hI⟩
      · rw [if_pos h0] at hI
        refine ct (bne_t h0) ?_
        rw [hI] at h; exact h
    · refine cfd (by omega) ?_
      rw [hI, List.drop_of_length_le (by omega)] at h
      exact h

theorem pair_Check_1_sp {A : Option Addr} {n c : Nat} {c0 : Addr} {t : Nat} (ht : t ≤ 3) (hn : n ≤ 17592186044416) {H : Heap} (h0 : cellH H c0 = some (.int .i64 t)) {K : Value → Heap → Prop} (h : K (.bool (decide (n ≠ t + 1))) H) :
    CallH P N.pair_Check_1 [.slice A n c, .pointer (some c0)] H K := by
  apply pair_Check_1.ok
  refine ⟨_, h0, ?_⟩
  rw [wsucc (by omega)]
  have : (((n : Nat) : Int) != ((t + 1 : Nat) : Int)) = decide (n ≠ t + 1) := by
    by_cases hh : n = t + 1
    · subst hh; simp
    · rw [bne_t (by omega), decide_eq_true hh]
  rw [this]; exact h
theorem pair_Lens_sp {A : Option Addr} {n c : Nat} {c0 : Addr} {t : Nat} (ht : t ≤ 3) {S : Nat → Prop} {F : List (List Nat)} {H : Heap} (hF : Sl (slR u64R) S H A n c F) (h0 : cellH H c0 = some (.int .i64 t)) {K : Value → Heap → Prop}
    (h : K (.bool (decide (∃ r ∈ F, r.length ≠ t + 1))) H) : CallH P N.slices_ContainsFunc_uint64uint64 [.slice A n c, .func (.func N.pair_Check_1) #[] #[.pointer (some c0)]] H K := by
  apply slices_ContainsFunc_uint64uint64.ok
  have hl := hF.len
  have hlt := hF.lt
  suffices hs : CallH P N.slices_IndexFunc_uint64uint64 [.slice A n c, .func (.func N.pair_Check_1) #[] #[.pointer (some c0)]] H fun v H_ => ∃ r : Int, v = .int .i64 r ∧ K (.bool (decide (r ≥ 0))) H_ from hs
  apply slices_IndexFunc_uint64uint64.ok
  refine LoopI.range n (fun k H' => H' = H ∧ ∀ j r, j < k → F[j]? = some r → r.length = t + 1) ⟨rfl, fun j x hj => by omega⟩ ?_
  rintro k H' z next hk ⟨rfl, hI⟩ hnext
  by_cases hltk : k < n
  · refine ctd (by omega) ?_
    obtain ⟨a, ha, A', n', c', xs, hx, hc, hs⟩ := hF.row hltk
    refine ⟨a, ha, by omega, by omega, A', n', c', hc, ?_⟩
    have hxl := hs.len
    refine ct rfl ?_
    refine pair_Check_1_sp ht hs.lt h0 ⟨_, rfl, ?_⟩
    by_cases hnn : n' = t + 1
    · refine cfd (by simpa using hnn) ?_
      rw [wsucc (by omega)]
      refine hnext hltk _ ⟨rfl, fun j r hj hr => ?_⟩
      rcases Nat.lt_or_ge j k with h' | h'
      · exact hI j r h' hr
      · obtain rfl : j = k := by omega
        rw [hx] at hr; cases hr; omega
    · refine ctd hnn ⟨_, rfl, ?_⟩
      rw [decide_eq_true ⟨xs, List.mem_of_getElem? hx, by omega⟩] at h
      rw [decide_eq_true (by omega)]
      exact h
  · refine cfd (by omega) ⟨_, rfl, ?_⟩
    rw [decide_eq_false (fun ⟨r, hr, hb⟩ => hb (by
      obtain ⟨j, hj⟩ := List.mem_iff_getElem?.1 hr
      exact hI j r (by have := (List.getElem?_eq_some_iff.1 hj).1; omega) hj))] at h
    exact h
theorem pair_Check_sp {p : Nat} {t : Int} {A : Option Addr} {n c : Nat} {S : Nat → Prop} {F : List (List Nat)} {H : Heap} (hF : Sl (slR u64R) S H A n c F) {K : Value → Heap → Prop}
    (k : ∀ H', Ext H H' → K (.int .i64 (checkC p t F)) H') : CallH P N.pair_Check [.int .u64 p, .int .i64 t, .slice A n c] H K := by
  apply pair_Check.ok
  have hE := Ext.push H (.cells #[.int .i64 t] 3 (0, 0))
  have h := k _ hE
  have hF := hF.ext (slR_good u64_good) hE
  clear k
  have hcell : cellH (H.push (.cells #[.int .i64 t] 3 (0, 0))) (Addr.mk H.size 0 none) = some (.int .i64 t) := by rw [cell_blk (get_push_new H _)]; rfl
  refine NewH.in ?_
  generalize H.push (.cells #[.int .i64 t] 3 (0, 0)) = H0 at *
  refine ⟨t, hcell, pair_ground_sp ⟨_, rfl, ?_⟩⟩
  have hl := hF.len
  have hlt := hF.lt
  unfold checkC at h
  rcases ground_cases p t with hg | ⟨hg, hp, d, rfl, hd⟩
  · rw [hg, if_neg (by omega)] at h
    rw [hg]; exact h
  rw [hg, if_pos rfl] at h
  rw [hg]
  refine cf rfl ⟨_, hcell, ?_⟩
  simp only [Int.toNat_natCast] at h
  rw [wsucc (by omega)]
  by_cases hn : n = d + 1
  rotate_left
  · refine ct (bne_t (by omega)) ?_
    rw [formC, if_pos (.inl (by omega))] at h
    exact h
  refine cf (bne_f (by omega)) ?_
  refine pair_Lens_sp hd hF hcell ⟨_, rfl, ?_⟩
  by_cases hr : ∃ r ∈ F, r.length ≠ d + 1
  · rw [decide_eq_true hr]
    rw [formC, if_pos (.inr hr)] at h
    exact h
  rw [decide_eq_false hr]
  refine cf rfl ?_
  have hrow : ∀ r ∈ F, r.length = d + 1 := fun r hr' => Classical.byContradiction fun hh => hr ⟨r, hr', hh⟩
  rw [formC, if_neg (by rintro (hb | hb) <;> first | exact hr hb | omega)] at h
  refine LoopI.range n (fun k H1 => H1 = H0 ∧ ∀ j r, j < k → F[j]? = some r → below p r = true) ⟨rfl, fun j x hj => by omega⟩ ?_
  rintro k2 H2 z2 next2 hk2 ⟨rfl, hI⟩ hnext
  by_cases hlt2 : k2 < n
  · refine ctd (by omega) ?_
    obtain ⟨a, ha, A', n', c', xs, hx, hc, hs⟩ := hF.row hlt2
    refine ⟨a, ha, by omega, by omega, A', n', c', hc, ?_⟩
    refine field_Below_sp hs ⟨_, rfl, ?_⟩
    by_cases hb : below p xs = true
    · rw [hb]
      refine cf rfl ?_
      rw [wsucc (by omega)]
      refine hnext hlt2 _ ⟨rfl, fun j r hj hr => ?_⟩
      rcases Nat.lt_or_ge j k2 with h' | h'
      · exact hI j r h' hr
      · obtain rfl : j = k2 := by omega
        rw [hx] at hr; cases hr; exact hb
    · simp at hb
      rw [if_pos ⟨xs, List.mem_of_getElem? hx, hb⟩] at h
      rw [hb]; exact h
  refine cfd (by omega) ?_
  have hall : ¬ ∃ r ∈ F, below p r = false := by
    rintro ⟨r, hr, hb⟩
    obtain ⟨j, hj⟩ := List.mem_iff_getElem?.1 hr
    have := hI j r (by have := (List.getElem?_eq_some_iff.1 hj).1; omega) hj
    rw [hb] at this; cases this
  rw [if_neg hall] at h
  clear hnext hI
  refine LoopI.range n (fun k H1 => H1 = H2 ∧ ∀ i j, i < k → j < n → at2 F i j = at2 F j i) ⟨rfl, fun i j hj => by omega⟩ ?_
  rintro k3 H3 z3 next3 hk3 ⟨rfl, hI⟩ hnext
  by_cases hlt3 : k3 < n
  · refine ctd (by omega) ?_
    obtain ⟨a, ha, A1, n1, c1, xs, hx, hc, hs⟩ := hF.row hlt3
    refine ⟨a, ha, by omega, by omega, A1, n1, c1, hc, ?_⟩
    have hn1 : n1 = n := by have := hs.len; have := hrow xs (List.mem_of_getElem? hx); omega
    refine LoopI.range n1 (fun k H1 => H1 = H3 ∧ ∀ j, j < k → at2 F k3 j = at2 F j k3) ⟨rfl, fun j hj => by omega⟩ ?_
    rintro k4 H4 z4 next4 hk4 ⟨rfl, hJ⟩ hnext4
    by_cases hlt4 : k4 < n1
    · refine ctd (by omega) ?_
      obtain ⟨b, hb, A2, n2, c2, ys, hy, hd, hr⟩ := hF.row (i := k4) (by omega)
      have hn2 : n2 = n := by have := hr.len; have := hrow ys (List.mem_of_getElem? hy); omega
      obtain ⟨a5, ha5, x, hx5, hc5⟩ := hs.u64 (i := k4) (by omega)
      obtain ⟨a6, ha6, y, hy6, hc6⟩ := hr.u64 (i := k3) (by omega)
      refine ⟨a5, ha5, by omega, by omega, x, hc5, b, hb, by omega, by omega, A2, n2, c2, hd, a6, ha6, by omega, by omega, y, hc6, ?_⟩
      by_cases hxy : x = y
      · refine cf (bne_f (by omega)) ?_
        rw [wsucc (by omega)]
        refine hnext4 hlt4 _ ⟨rfl, fun j hj => ?_⟩
        rcases Nat.lt_or_ge j k4 with h' | h'
        · exact hJ j h'
        · obtain rfl : j = k4 := by omega
          rw [at2_eq hx hx5, at2_eq hy hy6, hxy]
      · refine ct (bne_t (by omega)) ?_
        rw [if_neg (fun hsym : symm _ F => by have := hsym k3 k4 (by omega) (by omega); rw [at2_eq hx hx5, at2_eq hy hy6] at this; exact hxy this)] at h
        exact h
    refine cfd (by omega) ?_
    rw [wsucc (by omega)]
    refine hnext hlt3 _ ⟨rfl, fun i j hi hj => ?_⟩
    rcases Nat.lt_or_ge i k3 with h' | h'
    · exact hI i j h' hj
    · obtain rfl : i = k3 := by omega
      exact hJ j (by omega)
  refine cfd (by omega) ?_
  rw [if_pos (show symm _ F from fun i j hi hj => hI i j (by omega) (by omega))] at h
  exact h
end Go.Proofs.Ytlhcaangdenoaaa.Sp
