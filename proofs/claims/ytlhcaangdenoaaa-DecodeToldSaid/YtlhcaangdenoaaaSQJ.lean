import Derived.Test.YtlhcaangdenoaaaSQI
namespace Go.Lf
end Go.Lf
namespace Go.Proofs.Ytlhcaangdenoaaa.Sh
end Go.Proofs.Ytlhcaangdenoaaa.Sh
namespace Go.Proofs.Ytlhcaangdenoaaa.Sp
end Go.Proofs.Ytlhcaangdenoaaa.Sp
namespace Go.Sx
end Go.Sx
set_option linter.unusedVariables false
set_option linter.unusedSimpArgs false
namespace Go.Proofs.Ytlhcaangdenoaaa.Pl
open Go.Sx Go.Lf Go.Proofs.Ytlhcaangdenoaaa.Sh Go.Proofs.Ytlhcaangdenoaaa.Sp
def px (l : List TPoint) (i : Nat) : Nat := ((l[i]?).map (·.X)).getD 0
def py (l : List TPoint) (i : Nat) : Nat := ((l[i]?).map (·.Y)).getD 0
theorem px_get {l : List TPoint} {i : Nat} {q : TPoint} (h : l[i]? = some q) : px l i = q.X := by unfold px; rw [h]; rfl
theorem py_get {l : List TPoint} {i : Nat} {q : TPoint} (h : l[i]? = some q) : py l i = q.Y := by unfold py; rw [h]; rfl
theorem px_lt {p : Nat} (hp : 0 < p) {l : List TPoint} (hl : Pts p l) (i : Nat) : px l i < p := by
  unfold px
  cases h : l[i]? with
  | none => exact hp
  | some q => exact (hl.1 q (mem_get h)).1
section
variable {p : Nat} [NeZero p]
end
theorem juntoref02_Places_c {l : List TPoint} (h4 : l.length ≤ 100) {K : List Nat → Prop} (k : K (l.map (·.X))) : juntoref02_Places.C l K := by
  apply juntoref02_Places.q
  refine LoopQ.upto l.length (fun i t => t = ((l.take i).map (·.X), (i : Int))) rfl ?_
  rintro i _ next hi rfl hnx
  dsimp only
  by_cases h : i < l.length
  · obtain ⟨q, hq⟩ := get_some h
    refine ctd (by omega) ⟨by omega, q, hq, AppOk.of (by simp; omega), hnx h _ ?_⟩
    rw [wsucc (by omega), List.take_add_one, hq]; simp
  · obtain rfl : i = l.length := by omega
    refine cfd (by omega) ?_
    rw [List.take_length]; exact k
theorem juntoref02_unit_c {p : Nat} [NeZero p] (hp : isP p) {xs : List Nat} (hx : ∀ x ∈ xs, x < p) (hn : xs.Nodup) (h4 : xs.length ≤ 100) {i : Nat} (hi : i < xs.length) {K : List Nat → Prop}
    (k : ∀ f, (∀ a ∈ f, a < p) → f.length ≤ xs.length → (∀ m x, xs[m]? = some x → pv p f (cz p x) = if m = i then 1 else 0) → K f) : juntoref02_unit.C p xs i K := by
  have hp3 := hp.1
  have hpp := hp.2.1
  apply juntoref02_unit.q
  obtain ⟨xi, hxi⟩ := get_some hi
  have hxip := hx xi (mem_get hxi)
  refine LoopQ.upto xs.length (fun j t => t.2 = (j : Int) ∧ (∀ a ∈ t.1, a < p) ∧ t.1.length ≤ j + (if j ≤ i then 1 else 0) ∧ pv p t.1 (cz p xi) = 1 ∧ ∀ m x, m < j → m ≠ i → xs[m]? = some x → pv p t.1 (cz p x) = 0) ⟨rfl, fun a ha => by simp at ha; omega, by simp, by rw [pv_cons, pv_nil, cz_one]; grind, fun m x hm => by omega⟩ ?_
  rintro j ⟨f, t⟩ next hj ⟨ht, hf1, hf2, hf3, hf4⟩ hnx
  dsimp only at *
  subst ht
  by_cases h : j < xs.length
  · obtain ⟨x, hxj⟩ := get_some h
    have hxp := hx x (mem_get hxj)
    refine ctd (by omega) ⟨by omega, x, hxj, ?_⟩
    by_cases hji : j = i
    · subst hji
      refine cf (bne_f (by omega)) (hnx h _ ⟨wsucc (by omega), hf1, ?_, hf3, fun m y hm hmi hy => hf4 m y (by omega) hmi hy⟩)
      dsimp only
      rw [if_pos (by omega)] at hf2
      omega
    · have hlin : ∀ a ∈ [fsub p 0 x, 1], a < p := by
        intro a ha; simp at ha; rcases ha with rfl | rfl
        · exact fsub_lt (by omega) _ _
        · omega
      have hfl : f.length ≤ 1000 := by split at hf2 <;> omega
      have hml2 := mulP_len (p := p) (by omega) f [fsub p 0 x, 1]
      simp only [List.length_cons, List.length_nil] at hml2
      have hev : ∀ z : Fin p, pv p (scaleP p (mulP p f [fsub p 0 x, 1]) (finv p (fsub p xi x))) z = pv p f z * (z - cz p x) * cz p (finv p (fsub p xi x)) := fun z => by
        rw [pv_scaleP, mulP_eval (by omega), pv_lin (Nat.le_of_lt hxp)]
      refine ct (bne_t (by omega)) ⟨by omega, xi, hxi, juntoref01_Sub_c (by omega) hpp (by omega) hxp (juntoref02_Mul_c (by omega) hpp hf1 hlin (by omega) (by simp) (juntoref01_Sub_c (by omega) hpp hxip hxp (juntoref01_Inv_c (by omega) hpp (fsub_lt (by omega) _ _) (juntoref02_Scale_c (by omega) hpp (fun a ha => mulP_lt (by omega) ha) (finv_lt (by omega) _) (by omega) (hnx h _ ⟨wsucc (by omega), ?_, ?_, ?_, ?_⟩)))))⟩
      · exact fun a ha => scaleP_lt (by omega) ha
      · have := scaleP_len p (finv p (fsub p xi x)) (mulP p f [fsub p 0 x, 1])
        dsimp only
        have hh : (if j ≤ i then 1 else 0) = (if j + 1 ≤ i then 1 else 0) := by
          by_cases hh : j ≤ i
          · rw [if_pos hh, if_pos (by omega)]
          · rw [if_neg hh, if_neg (by omega)]
        rw [hh] at hf2
        omega
      · dsimp only
        rw [hev, hf3]
        have hne : cz p (fsub p xi x) ≠ 0 := by
          rw [cz_fsub (Nat.le_of_lt hxp)]
          intro h0
          have e := cz_inj (p := p) hxip hxp (by grind)
          subst e
          rcases Nat.lt_or_ge i j with hlt | hge
          · exact nodup_iff.1 hn j i xi hlt hxj hxi
          · exact nodup_iff.1 hn i j xi (by omega) hxi hxj
        have := fin_finv hp hne
        rw [cz_fsub (Nat.le_of_lt hxp)] at this
        grind
      · intro m y hm hmi hy
        dsimp only
        rw [hev]
        rcases Nat.lt_or_ge m j with h' | h'
        · rw [hf4 m y h' hmi hy]; grind
        · obtain rfl : m = j := by omega
          rw [hxj] at hy; cases hy; grind
  · obtain rfl : j = xs.length := by omega
    refine cfd (by omega) (k f hf1 ?_ ?_)
    · rw [if_neg (by omega)] at hf2; omega
    · intro m x hm
      by_cases hmi : m = i
      · subst hmi; rw [hxi] at hm; cases hm; rw [if_pos rfl, hf3]
      · rw [if_neg hmi, hf4 m x (lt_get hm) hmi hm]
theorem juntoref02_Through_c {p : Nat} (hp : isP p) {l : List TPoint} (hl : Pts p l) (h4 : l.length ≤ 100) {K : List Nat → Prop} (k : ∀ f, Interp p l f → K f) : juntoref02_Through.C p l K := by
  have hp3 := hp.1
  have hpp := hp.2.1
  haveI : NeZero p := ⟨by omega⟩
  apply juntoref02_Through.q
  refine LoopQ.upto l.length (fun i t => t.2 = (i : Int) ∧ (∀ a ∈ t.1, a < p) ∧ t.1.length ≤ l.length ∧ short t.1 = t.1 ∧ ∀ m q, l[m]? = some q → pv p t.1 (cz p q.X) = if m < i then cz p q.Y else 0) ⟨rfl, fun a ha => (by cases ha), Nat.zero_le _, rfl, fun m q _ => by rw [if_neg (by omega)]; rfl⟩ ?_
  rintro i ⟨f, t⟩ next hi ⟨ht, hf1, hf2, hf3, hf4⟩ hnx
  dsimp only at *
  subst ht
  by_cases h : i < l.length
  · obtain ⟨q, hq⟩ := get_some h
    have hqx := (hl.1 q (mem_get hq)).2
    refine ctd (by omega) ⟨by omega, q, hq, juntoref02_Places_c h4 (juntoref02_unit_c hp (fun x hx => by
      obtain ⟨r, hr, rfl⟩ := List.mem_map.1 hx; exact (hl.1 r hr).1) hl.2 (by simp; omega) (by simp; omega) ?_)⟩
    intro u hu1 hu2 hu3
    rw [List.length_map] at hu2
    have hsl := scaleP_len p q.Y u
    refine juntoref02_Scale_c (by omega) hpp hu1 hqx (by omega) (juntoref02_Add_c (by omega) hpp hf1 (fun a ha => scaleP_lt (by omega) ha) (by omega) (by omega) (hnx h _ ⟨wsucc (by omega), ?_, ?_, ?_, ?_⟩))
    · exact fun a ha => addP_lt (by omega) ha
    · have := addP_len p f (scaleP p u q.Y)
      have h2 := mx_lub (a := f.length) (b := (scaleP p u q.Y).length) (c := l.length) hf2 (by omega)
      dsimp only; omega
    · exact short_short _
    · intro m r hr
      dsimp only
      rw [pv_addP, pv_scaleP, hf4 m r hr, hu3 m r.X (by rw [List.getElem?_map, hr]; rfl)]
      by_cases hmi : m = i
      · subst hmi; rw [hq] at hr; cases hr
        rw [if_neg (by omega), if_pos rfl, if_pos (by omega)]; grind
      · rw [if_neg hmi]
        by_cases hlt : m < i
        · rw [if_pos hlt, if_pos (by omega)]; grind
        · rw [if_neg hlt, if_neg (by omega)]; grind
  · obtain rfl : i = l.length := by omega
    refine cfd (by omega) (k f ⟨hf1, hf2, hf3, ?_⟩)
    intro _ q hq
    obtain ⟨m, hm⟩ := List.mem_iff_getElem?.1 hq
    rw [hf4 m q hm, if_pos (lt_get hm)]
end Go.Proofs.Ytlhcaangdenoaaa.Pl
