import Derived.Test.YtlhcaangdenoaaaBack
import Derived.Test.YtlhcaangdenoaaaPairMake
set_option linter.unusedVariables false
namespace Go.Proofs.Ytlhcaangdenoaaa.Sp
open Go.Sx Go.Proofs.Ytlhcaangdenoaaa.Sh Go.Proofs.Ytlhcaangdenoaaa.Back

/-- Horner's rule. -/
def evalH (p : Nat) (xs : List Nat) (x : Nat) : Nat := xs.foldr (fun c v => fadd p (fmul p v x) c) 0
theorem evalH_lt {p : Nat} (hp : 0 < p) (xs : List Nat) (x : Nat) : evalH p xs x < p := by
  cases xs with
  | nil => exact hp
  | cons c l => exact fadd_lt hp _ _
theorem step_nat {p v x c : Nat} (hp : p ≤ 65537) (hv : v < p) (hx : x < p) (hc : c < p) : stepI p x v c = ((fadd p (fmul p v x) c : Nat) : Int) := by
  have hp0 : 0 < p := by omega
  have hm : v * x < 18446744073709551616 := mul_lt hp hv hx
  have e1 : timesI p v x = ((fmul p v x : Nat) : Int) := by
    unfold timesI
    rw [show (v : Int) * x = ((v * x : Nat) : Int) by simp, wu64 (by omega) (by omega), tmod_nat]; rfl
  have ht := fmul_lt hp0 v x
  unfold stepI
  rw [e1]
  generalize fmul p v x = t at *
  unfold plusI
  rw [wu64 (x := (t : Int) + c) (by omega) (by omega)]
  by_cases h : p ≤ t + c
  · rw [if_pos (by omega), wu64 (by omega) (by omega)]
    unfold fadd
    rw [Nat.mod_eq_sub_mod h, Nat.mod_eq_of_lt (by omega)]; omega
  · rw [if_neg (by omega)]
    unfold fadd
    rw [Nat.mod_eq_of_lt (by omega)]; omega
theorem down_snd (zs : List Int) : (down zs zs.length).map (·.2) = zs.reverse := by
  apply List.ext_getElem?
  intro i
  simp only [down, List.map_map, List.getElem?_map]
  by_cases h : i < zs.length
  · rw [List.getElem?_range h, List.getElem?_reverse h]
    simp only [Option.map_some, Function.comp]
    rw [List.getElem?_eq_getElem (show zs.length - 1 - i < zs.length by omega)]
    rfl
  · rw [List.getElem?_eq_none (by simp; omega), List.getElem?_eq_none (by simp; omega)]
    rfl
theorem horn_eval {p x : Nat} (hp0 : 0 < p) (hp : p ≤ 65537) (hx : x < p) (xs : List Nat) (hb : below p xs = true) : hornI p x (down (xs.map Int.ofNat) (xs.map Int.ofNat).length) = ((evalH p xs x : Nat) : Int) := by
  have e : hornI p x (down (xs.map Int.ofNat) (xs.map Int.ofNat).length) = ((down (xs.map Int.ofNat) (xs.map Int.ofNat).length).map (·.2)).foldl (fun v c => stepI p x v c) 0 := by
    unfold hornI; rw [List.foldl_map]
  rw [e, down_snd, List.foldl_reverse]
  clear e
  induction xs with
  | nil => rfl
  | cons c l ih =>
    simp only [List.map_cons, List.foldr_cons]
    unfold below at hb
    simp at hb
    rw [ih (by unfold below; simp; exact hb.2)]
    exact step_nat hp (evalH_lt hp0 l x) hx hb.1

theorem words_of_sl {S : Nat → Prop} {H : Heap} {A : Option Addr} {n c : Nat} {xs : List Nat} (h : Sl u64R S H A n c xs) (w : World) (hw : w.heap = H) : Words w.heap.size w (.slice A n c) (xs.map Int.ofNat) := by
  subst hw
  have hl := h.len
  cases n with
  | zero => exact .inl ⟨A, c, rfl, by rw [List.eq_nil_of_length_eq_zero hl.symm]; rfl⟩
  | succ n =>
    right
    obtain ⟨⟨b, off, sp⟩, ha, x, hx, hc⟩ := h.u64 (i := 0) (by omega)
    have hb := lt_of_cell hc
    rw [add_zero] at hb hc
    have hsp : sp = none := by
      cases sp with
      | none => rfl
      | some s => unfold cellH at hc; split at hc <;> simp at hc
    subst hsp
    refine ⟨b, off, c, by simp [ha, hl], hb, fun j hj => ?_⟩
    simp at hj
    obtain ⟨a2, ha2, y, hy, hc2⟩ := h.u64 (i := j) (by omega)
    rw [ha] at ha2; cases ha2
    rw [cellH_eq, show (⟨b, off + j, none⟩ : Addr) = (Addr.mk b off none).add j by unfold Addr.add; split <;> simp_all, hc2]
    simp [hy]
theorem poly_At_sp {p x : Nat} (hp0 : 0 < p) (hp : p ≤ 65537) (hx : x < p) {A : Option Addr} {n c : Nat} {S : Nat → Prop} {xs : List Nat} {H : Heap} (h : Sl u64R S H A n c xs) (hb : below p xs = true) {K : Value → Heap → Prop}
    (k : ∀ H', Ext H H' → K (.int .u64 (evalH p xs x : Nat)) H') : CallH P N.poly_At [.int .u64 p, .slice A n c, .int .u64 x] H K := by
  intro w hw
  refine (callsIn_wide (n := 3)).1 ?_
  refine (At_in Fence.wide 3 rfl (by omega) (p : Int) (x : Int) (by omega) A n c (xs.map Int.ofNat) (by simp; rw [← h.len]; exact h.lt) w (words_of_sl h w hw)).mono ?_
  rintro e W' ⟨rfl, hB⟩
  refine ⟨_, rfl, ⟨hB.os, hB.tape, hB.output⟩, ?_⟩
  rw [horn_eval hp0 hp hx xs hb]
  subst hw
  exact k _ ⟨hB.size, fun i hi => hB.block i hi⟩

/-! ### RowOf, Row, At -/
def rowOf (p : Nat) (F : List (List Nat)) (x : Nat) : List Nat := short (F.map fun r => evalH p r x)
theorem below_of {p : Nat} {F : List (List Nat)} (h : ∀ r ∈ F, below p r = true) {i : Nat} {xs : List Nat} (hx : F[i]? = some xs) : below p xs = true := h xs (List.mem_of_getElem? hx)
theorem pair_RowOf_sp {p x : Nat} (hp0 : 0 < p) (hp : p ≤ 65537) (hx : x < p) {A : Option Addr} {n c : Nat} {S : Nat → Prop} {F : List (List Nat)} {H : Heap} (hF : Sl (slR u64R) S H A n c F) (hb : ∀ r ∈ F, below p r = true) {K : Value → Heap → Prop}
    (k : ∀ A' n' c' H', Ext H H' → Owns u64R 22 (Since H) H' A' n' c' (rowOf p F x) → K (.slice A' n' c') H') : CallH P N.pair_RowOf [.int .u64 p, .slice A n c, .int .u64 x] H K := by
  apply pair_RowOf.ok
  unfold pair_RowOf.W
  have hl := hF.len
  have hlt := hF.lt
  rw [show Int.toNat ((n : Nat) : Int) = n from rfl]
  refine ⟨by omega, by omega, by omega, by omega, NewH.in ?_⟩
  refine LoopI.range n (fun k H1 => Owns u64R 22 (Since H) H1 (some (Addr.mk H.size 0 none)) n n (((F.take k).map fun r => evalH p r x) ++ List.replicate (n - k) 0) ∧ Ext H H1) ⟨?_, Ext.push _ _⟩ ?_
  · simp only [List.take_zero, List.map_nil, List.nil_append, Nat.sub_zero]
    exact Owns.made u64_good (fun _ _ => rfl) (by omega) (Nat.le_refl _)
  rintro k1 H1 z next hk ⟨hO, hE⟩ hnext
  by_cases hlt : k1 < n
  · refine ctd (by omega) ?_
    obtain ⟨a, ha, A1, n1, c1, xs, hx1, hc, hs1⟩ := (hF.ext (slR_good u64_good) hE).row hlt
    refine ⟨a, ha, by omega, by omega, _, _, _, hc, ?_⟩
    refine poly_At_sp hp0 hp hx hs1 (below_of hb hx1) fun H2 hE2 => ⟨_, rfl, ?_⟩
    obtain ⟨b, hb1, hw, hO2, hB2⟩ := (hO.ext u64_good hE2).set u64_flat (i := k1) hlt (x := evalH p xs x) (v := .int .u64 ((evalH p xs x : Nat) : Int)) rfl
    refine ⟨b, hb1, by omega, by omega, hw, NewH.in ?_⟩
    rw [wsucc (by omega)]
    refine hnext hlt _ ⟨?_, hB2.ext (hE.trans hE2) (fun i hi => by cases hi; exact Nat.le_refl _)⟩
    have e : (((F.take k1).map fun r => evalH p r x) ++ List.replicate (n - k1) 0).set k1 (evalH p xs x) = ((F.take (k1 + 1)).map fun r => evalH p r x) ++ List.replicate (n - (k1 + 1)) 0 := by
      have hlen : ((F.take k1).map fun r => evalH p r x).length = k1 := by simp; omega
      rw [List.set_append, if_neg (by omega), hlen, Nat.sub_self, show n - k1 = (n - (k1 + 1)) + 1 by omega, List.replicate_succ, List.set_cons_zero, List.take_add_one, hx1]
      simp
    rw [e] at hO2
    exact hO2
  · refine cfd (by omega) ?_
    obtain rfl : k1 = n := by omega
    have e : ((F.take k1).map fun r => evalH p r x) ++ List.replicate (k1 - k1) 0 = F.map fun r => evalH p r x := by rw [hl]; simp
    rw [e] at hO
    refine poly_Short_sp (hO.sl u64_good) fun A' n' c' H2 hE2 hO2 => ⟨_, _, _, rfl, ?_⟩
    exact k _ _ _ _ (hE.trans hE2) (hO2.wider u64_good fun i hi => Nat.le_trans hE.size hi)

theorem checkC_cases (p : Nat) (t : Int) (F : List (List Nat)) : checkC p t F ≠ 0 ∨ (checkC p t F = 0 ∧ isP p ∧ ∃ d : Nat, t = d ∧ d ≤ 3 ∧ F.length = d + 1 ∧ (∀ r ∈ F, r.length = d + 1) ∧ (∀ r ∈ F, below p r = true) ∧ symm (d + 1) F) := by
  unfold checkC
  rcases ground_cases p t with hg | ⟨hg, hp, d, rfl, hd⟩
  · left; rw [hg]; simp
  rw [if_pos hg]
  unfold formC
  by_cases h1 : badLen (d + 1) F
  · left
    rw [Int.toNat_natCast, if_pos h1]; omega
  rw [Int.toNat_natCast, if_neg h1]
  by_cases h2 : ∃ r ∈ F, below p r = false
  · left; rw [if_pos h2]; omega
  rw [if_neg h2]
  by_cases h3 : symm (d + 1) F
  · right
    rw [if_pos h3]
    refine ⟨rfl, hp, d, rfl, hd, Classical.byContradiction fun h => h1 (.inl h), fun r hr => Classical.byContradiction fun h => h1 (.inr ⟨r, hr, h⟩), fun r hr => ?_, h3⟩
    cases hb : below p r with
    | true => rfl
    | false => exact (h2 ⟨r, hr, hb⟩).elim
  · left; rw [if_neg h3]; omega
theorem pair_Row_sp {p x : Nat} {t : Int} {A : Option Addr} {n c : Nat} {S : Nat → Prop} {F : List (List Nat)} {H : Heap} (hF : Sl (slR u64R) S H A n c F) {K : Value → Heap → Prop}
    (kbad : ∀ H', Ext H H' → (checkC p t F ≠ 0 ∨ (checkC p t F = 0 ∧ p ≤ x)) → K (.tuple #[.slice none 0 0, .int .i64 (if checkC p t F ≠ 0 then checkC p t F else 2)]) H')
    (k : ∀ A' n' c' H', checkC p t F = 0 → x < p → Ext H H' → Owns u64R 22 (Since H) H' A' n' c' (rowOf p F x) → K (.tuple #[.slice A' n' c', .int .i64 0]) H') : CallH P N.pair_Row [.int .u64 p, .int .i64 t, .slice A n c, .int .u64 x] H K := by
  apply pair_Row.ok
  refine pair_Check_sp hF fun H1 hE => ⟨_, rfl, ?_⟩
  rcases checkC_cases p t F with hc | ⟨hc, hp, d, rfl, hd, h1, h2, h3, h4⟩
  · refine ct (bne_t hc) ?_
    have := kbad H1 hE (.inl hc)
    rw [if_pos hc] at this; exact this
  have hc' := hc
  rw [hc]
  refine cf rfl ?_
  by_cases hx : p ≤ x
  · refine ctd (by omega) ?_
    have := kbad H1 hE (.inr ⟨hc, hx⟩)
    rw [if_neg (by simp [hc])] at this; exact this
  refine cfd (by omega) ?_
  refine pair_RowOf_sp (by omega) hp.2.1 (by omega) (hF.ext (slR_good u64_good) hE) h3 fun A' n' c' H2 hE2 hO => ⟨_, _, _, rfl, ?_⟩
  exact k _ _ _ _ hc' (by omega) (hE.trans hE2) (hO.wider u64_good fun i hi => Nat.le_trans hE.size hi)
theorem short_mem {f : List Nat} {a : Nat} (h : a ∈ short f) : a ∈ f := by
  unfold short at h
  rw [List.mem_reverse] at h
  have := (List.dropWhile_sublist (· == 0)).subset h
  simpa using this
theorem rowOf_below {p x : Nat} (hp : 0 < p) (F : List (List Nat)) : below p (rowOf p F x) = true := by
  unfold below rowOf
  rw [List.all_eq_true]
  intro a ha
  have := short_mem ha
  rw [List.mem_map] at this
  obtain ⟨r, _, rfl⟩ := this
  exact decide_eq_true (evalH_lt hp r x)
theorem pair_At_sp {p x y : Nat} {t : Int} {A : Option Addr} {n c : Nat} {S : Nat → Prop} {F : List (List Nat)} {H : Heap} (hF : Sl (slR u64R) S H A n c F) {K : Value → Heap → Prop}
    (kbad : ∀ H', Ext H H' → (checkC p t F ≠ 0 ∨ (checkC p t F = 0 ∧ (p ≤ x ∨ p ≤ y))) → K (.tuple #[.int .u64 0, .int .i64 (if checkC p t F ≠ 0 then checkC p t F else 2)]) H')
    (k : ∀ H', checkC p t F = 0 → x < p → y < p → Ext H H' → K (.tuple #[.int .u64 (evalH p (rowOf p F x) y : Nat), .int .i64 0]) H') : CallH P N.pair_At [.int .u64 p, .int .i64 t, .slice A n c, .int .u64 x, .int .u64 y] H K := by
  apply pair_At.ok
  refine pair_Row_sp hF (fun H1 hE hbad => ⟨_, _, _, _, rfl, ?_⟩) (fun A' n' c' H1 hc hx hE hO => ⟨_, _, _, _, rfl, ?_⟩)
  · have hne : (if checkC p t F ≠ 0 then checkC p t F else 2) ≠ 0 := by split <;> omega
    exact ct (bne_t hne) (kbad H1 hE (hbad.imp id fun h => ⟨h.1, .inl h.2⟩))
  · refine cf rfl ?_
    rcases checkC_cases p t F with hc0 | ⟨_, hp, d, rfl, hd, h1, h2, h3, h4⟩
    · exact (hc0 hc).elim
    by_cases hy : p ≤ y
    · refine ctd (by omega) ?_
      have := kbad H1 hE (.inr ⟨hc, .inr hy⟩)
      rw [if_neg (by simp [hc])] at this; exact this
    refine cfd (by omega) ?_
    exact poly_At_sp (by omega) hp.2.1 (by omega) (hO.sl u64_good) (rowOf_below (by omega) F) fun H2 hE2 => ⟨_, rfl, k _ hc hx (by omega) (hE.trans hE2)⟩
end Go.Proofs.Ytlhcaangdenoaaa.Sp
