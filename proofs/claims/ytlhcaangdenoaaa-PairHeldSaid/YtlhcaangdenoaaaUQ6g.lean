import Derived.Test.YtlhcaangdenoaaaUQJ
import Derived.Test.YtlhcaangdenoaaaUTypes
import Derived.Test.YtlhcaangdenoaaaUFnJuntolaw06
import Derived.Test.YtlhcaangdenoaaaUFnJuntoref06
import Derived.Test.YtlhcaangdenoaaaUFnPair
namespace Go.Lf
end Go.Lf
namespace Go.Proofs.Ytlhcaangdenoaaa.Sh
end Go.Proofs.Ytlhcaangdenoaaa.Sh
namespace Go.Proofs.Ytlhcaangdenoaaa.Sp
end Go.Proofs.Ytlhcaangdenoaaa.Sp
namespace Go.Sx
end Go.Sx
set_option linter.unusedVariables false
set_option linter.unusedSimpArgs false
namespace Go.Proofs.Ytlhcaangdenoaaa.Pl
open Go.Sx Go.Lf Go.Proofs.Ytlhcaangdenoaaa.Sh Go.Proofs.Ytlhcaangdenoaaa.Sp
theorem slices_Contains_c {s : List Nat} {v : Nat} (hl : s.length < 4611686018427387904) {K : Bool → Prop} (k : K (decide (v ∈ s))) : slices_Contains_uint64uint64.C s v K := by
  refine slices_Contains_uint64uint64.q (slices_Index_uint64uint64.q ?_)
  refine LoopQ.range s.length (fun k => ∀ j, j < k → s[j]? ≠ some v) (fun j hj => by omega) hl ?_ ?_
  · intro n next hn hI hnx
    obtain ⟨x, hx⟩ := get_some hn
    refine ctd (by omega) ⟨by omega, x, hx, ?_⟩
    by_cases hv : v = x
    · subst hv
      refine ct (beq_t rfl) ?_
      rw [decide_eq_true (mem_get hx)] at k
      rw [decide_eq_true (by omega)]; exact k
    · refine cf (beq_f (by omega)) (hnx fun j hj => ?_)
      rcases Nat.lt_or_ge j n with h' | h'
      · exact hI j h'
      · obtain rfl : j = n := by omega
        rw [hx]; intro h; cases h; exact hv rfl
  · intro next hI
    refine cfd (by omega) ?_
    rw [decide_eq_false (fun h => by obtain ⟨j, hj⟩ := List.mem_iff_getElem?.1 h; exact hI j (lt_get hj) hj)] at k
    rw [decide_eq_false (by omega)]; exact k
theorem slices_Equal_c {x y : List Nat} (hl : x.length < 4611686018427387904) {K : Bool → Prop} (k : K (decide (x = y))) : slices_Equal_uint64uint64.C x y K := by
  apply slices_Equal_uint64uint64.q
  unfold slices_Equal_uint64uint64.Q
  by_cases hlen : x.length = y.length
  · refine cf (bne_f (by omega)) ?_
    refine LoopQ.range x.length (fun k => ∀ j, j < k → x[j]? = y[j]?) (fun j hj => by omega) hl ?_ ?_
    · intro n next hk hI hn
      obtain ⟨u, hu⟩ := get_some hk
      obtain ⟨v, hv⟩ := get_some (show n < y.length by omega)
      refine ctd (by omega) ⟨by omega, u, hu, by omega, v, hv, ?_⟩
      by_cases huv : u = v
      · refine cf (bne_f (by omega)) (hn fun j hj => ?_)
        rcases Nat.lt_or_ge j n with h' | h'
        · exact hI j h'
        · obtain rfl : j = n := by omega
          rw [hu, hv, huv]
      · refine ct (bne_t (by omega)) ?_
        rw [decide_eq_false (fun h => huv (by rw [h, hv] at hu; cases hu; rfl))] at k; exact k
    · intro next hI
      refine cfd (by omega) ?_
      rw [decide_eq_true] at k
      · exact k
      · apply List.ext_getElem?
        intro j
        rcases Nat.lt_or_ge j x.length with h' | h'
        · exact hI j h'
        · rw [List.getElem?_eq_none h', List.getElem?_eq_none (by omega)]
  · refine ct (bne_t (by omega)) ?_
    rw [decide_eq_false (fun h => hlen (by rw [h]))] at k; exact k
def rowC (p : Nat) (f : List Nat) : Int := if 201 < f.length then 3 else codeB (below p f)
def isC (p : Nat) : List (List Nat) → Int
  | [] => 0
  | f :: l => if rowC p f = 0 then isC p l else rowC p f
theorem isC_drop {p : Nat} {l : List (List Nat)} {i : Nat} {f : List Nat} (h : l[i]? = some f) : isC p (l.drop i) = if rowC p f = 0 then isC p (l.drop (i + 1)) else rowC p f := by
  obtain ⟨hi, rfl⟩ := List.getElem?_eq_some_iff.1 h
  rw [List.drop_eq_getElem_cons hi, isC]
theorem isC_zero {p : Nat} : ∀ {l : List (List Nat)}, isC p l = 0 → ∀ f ∈ l, rowC p f = 0
  | [], _, f, hf => by cases hf
  | g :: l, h, f, hf => by
    unfold isC at h
    by_cases h0 : rowC p g = 0
    · rw [if_pos h0] at h
      rcases List.mem_cons.1 hf with rfl | hf
      · exact h0
      · exact isC_zero h f hf
    · rw [if_neg h0] at h; exact (h0 h).elim
theorem poly_Is_c {p : Nat} (hp : isP p) {l : List (List Nat)} (hl : Sz l) {K : Int → Prop} (k : K (isC p l)) : poly_Is.C p l K := by
  refine poly_Is.q (field_Is_c ?_)
  rw [prm_t hp]
  refine cf rfl (LoopQ.range l.length (fun i => isC p l = isC p (l.drop i)) rfl (by have := hl.1; omega) ?_ ?_)
  · intro i next hi hI hnx
    obtain ⟨f, hf⟩ := get_some hi
    rw [isC_drop hf] at hI
    have hfl := hl.2 f (mem_get hf)
    refine ctd (by omega) ⟨by omega, f, hf, ?_⟩
    by_cases h2 : 201 < f.length
    · have e : rowC p f = 3 := by unfold rowC; rw [if_pos h2]
      rw [e, if_neg (by decide)] at hI
      rw [hI] at k
      exact ctd (by omega) k
    · have e : rowC p f = codeB (below p f) := by unfold rowC; rw [if_neg h2]
      refine cfd (by omega) (field_Below_c (by omega) ?_)
      rw [← e]
      by_cases h0 : rowC p f = 0
      · rw [if_pos h0] at hI
        exact cf (bne_f h0) (hnx hI)
      · rw [if_neg h0] at hI
        rw [hI] at k
        exact ct (bne_t h0) k
  · intro next hI
    rw [List.drop_length] at hI
    rw [hI] at k
    exact cfd (by omega) k
open Classical in
noncomputable def rowsC (p : Nat) (xs : List Nat) (l : List (List Nat)) : Int :=
  if 13 < xs.length then 3 else if l.length ≠ xs.length then 2 else if below p xs = false then 2 else if xs.Nodup then isC p l else 6
structure RowsOk (p : Nat) (xs : List Nat) (l : List (List Nat)) : Prop where
  few : xs.length ≤ 13
  len : l.length = xs.length
  lt : ∀ x ∈ xs, x < p
  nd : xs.Nodup
  short : ∀ r ∈ l, r.length ≤ 201
  bel : ∀ r ∈ l, ∀ a ∈ r, a < p
theorem rows_ok {p : Nat} {xs : List Nat} {l : List (List Nat)} (h : rowsC p xs l = 0) : RowsOk p xs l := by
  unfold rowsC at h
  by_cases h1 : 13 < xs.length
  · rw [if_pos h1] at h; exact absurd h (by decide)
  rw [if_neg h1] at h
  by_cases h2 : l.length ≠ xs.length
  · rw [if_pos h2] at h; exact absurd h (by decide)
  rw [if_neg h2] at h
  by_cases h3 : below p xs = false
  · rw [if_pos h3] at h; exact absurd h (by decide)
  rw [if_neg h3] at h
  by_cases h4 : xs.Nodup
  · rw [if_pos h4] at h
    have hr := isC_zero h
    have hr2 : ∀ r ∈ l, r.length ≤ 201 ∧ ∀ a ∈ r, a < p := fun r hr' => by
      have := hr r hr'
      unfold rowC at this
      by_cases h5 : 201 < r.length
      · rw [if_pos h5] at this; exact absurd this (by decide)
      · rw [if_neg h5] at this
        rcases codeB_cases p r with hb | ⟨_, hb⟩
        · rw [hb] at this; exact absurd this (by decide)
        · exact ⟨by omega, hb⟩
    exact ⟨by omega, by omega, fun x hx => below_lt (by simpa using h3) hx, h4, fun r h => (hr2 r h).1, fun r h => (hr2 r h).2⟩
  · rw [if_neg h4] at h; exact absurd h (by decide)
theorem below_code {p : Nat} {xs : List Nat} : (below p xs = false ∧ codeB (below p xs) = 2) ∨ (below p xs ≠ false ∧ codeB (below p xs) = 0) := by
  cases h : below p xs with
  | true => exact .inr ⟨by simp, rfl⟩
  | false => exact .inl ⟨rfl, rfl⟩
theorem pair_rows_c {p : Nat} (hp : isP p) {xs : List Nat} {l : List (List Nat)} (hX : xs.length ≤ 17592186044416) (hl : Sz l) {K : Int → Prop} (k : K (rowsC p xs l)) : pair_rows.C p xs l K := by
  apply pair_rows.q
  unfold pair_rows.Q
  unfold rowsC at k
  by_cases h1 : 13 < xs.length
  · rw [if_pos h1] at k; exact ctd (by omega) k
  rw [if_neg h1] at k
  refine cfd (by omega) ?_
  by_cases h2 : l.length ≠ xs.length
  · rw [if_pos h2] at k; exact ct (bne_t (by omega)) k
  rw [if_neg h2] at k
  refine cf (bne_f (by omega)) (field_Below_c (by omega) ?_)
  rcases below_code (p := p) (xs := xs) with ⟨h3, e⟩ | ⟨h3, e⟩
  · rw [if_pos h3] at k; rw [e]; exact ct rfl k
  rw [if_neg h3] at k
  rw [e]
  refine cf rfl ?_
  refine LoopQ.range xs.length (fun n => ∀ (i j x : Nat), i < n → j < i → xs[i]? = some x → xs[j]? ≠ some x) (fun i j x hi => by omega) (by omega) ?_ ?_
  · intro n next hn hI hnx
    obtain ⟨x, hx⟩ := get_some hn
    refine ctd (by omega) ⟨by omega, x, hx, by omega, by omega, slices_Contains_c (by simp; omega) ?_⟩
    rw [toNat_c]
    by_cases hm : x ∈ xs.take n
    · rw [decide_eq_true hm]
      rw [if_neg (fun hnd => by
        obtain ⟨j, hj⟩ := List.mem_iff_getElem?.1 hm
        have hjn : j < n := by have := lt_get hj; simp at this; omega
        rw [List.getElem?_take_of_lt hjn] at hj
        exact nodup_iff.1 hnd n j x hjn hx hj)] at k
      exact ct rfl k
    · rw [decide_eq_false hm]
      refine cf rfl (hnx fun i j y hi hj hy => ?_)
      rcases Nat.lt_or_ge i n with h' | h'
      · exact hI i j y h' hj hy
      · obtain rfl : i = n := by omega
        rw [hx] at hy; cases hy
        intro h
        exact hm (mem_get (by rw [List.getElem?_take_of_lt hj]; exact h))
  · intro next hI
    rw [if_pos (nodup_iff.2 fun i j x hj hx => hI i j x (lt_get hx) hj hx)] at k
    exact cfd (by omega) (poly_Is_c hp hl k)
theorem juntoref06_Rows_c {p : Nat} {xs : List Nat} {l : List (List Nat)} (hX : xs.length ≤ 17592186044416) (hl : Sz l) {K : Int → Prop} (k : K (rowsC p xs l)) : juntoref06_Rows.C p xs l K := by
  apply juntoref06_Rows.q
  unfold juntoref06_Rows.Q
  unfold rowsC at k
  by_cases h1 : 13 < xs.length
  · rw [if_pos h1] at k; exact ctd (by omega) k
  rw [if_neg h1] at k
  refine cfd (by omega) ?_
  by_cases h2 : l.length ≠ xs.length
  · rw [if_pos h2] at k; exact ct (bne_t (by omega)) k
  rw [if_neg h2] at k
  refine cf (bne_f (by omega)) (juntoref01_Within_c (by omega) ?_)
  rcases below_code (p := p) (xs := xs) with ⟨h3, e⟩ | ⟨h3, e⟩
  · rw [if_pos h3] at k; rw [e]; exact ct rfl k
  rw [if_neg h3] at k
  rw [e]
  refine cf rfl (juntoref02_Twice_c (by omega) ?_)
  by_cases h4 : xs.Nodup
  · rw [if_pos h4] at k
    rw [decide_eq_false (fun h => h h4)]
    refine cf rfl (LoopQ.range l.length (fun i => isC p l = isC p (l.drop i)) rfl (by have := hl.1; omega) ?_ ?_)
    · intro i next hi hI hnx
      obtain ⟨f, hf⟩ := get_some hi
      rw [isC_drop hf] at hI
      have hfl := hl.2 f (mem_get hf)
      refine ctd (by omega) ⟨by omega, f, hf, juntoref02_Within.q ?_⟩
      unfold juntoref02_Within.Q
      by_cases h2 : 201 < f.length
      · have e : rowC p f = 3 := by unfold rowC; rw [if_pos h2]
        rw [e, if_neg (by decide)] at hI
        rw [hI] at k
        exact ctd (by omega) (ct rfl k)
      · have e : rowC p f = codeB (below p f) := by unfold rowC; rw [if_neg h2]
        refine cfd (by omega) (juntoref01_Within_c (by omega) ?_)
        rw [← e]
        by_cases h0 : rowC p f = 0
        · rw [if_pos h0] at hI
          exact cf (bne_f h0) (hnx hI)
        · rw [if_neg h0] at hI
          rw [hI] at k
          exact ct (bne_t h0) k
    · intro next hI
      rw [List.drop_length] at hI
      rw [hI] at k
      exact cfd (by omega) k
  · rw [if_neg h4] at k
    rw [decide_eq_true h4]
    exact ct rfl k
def ptAt (xs : List Nat) (l : List (List Nat)) (k i : Nat) : TPoint := ⟨zat xs i, at2 l i k⟩
def ptsOf (d : Nat) (xs : List Nat) (l : List (List Nat)) (k : Nat) : List TPoint := tab (d + 1) (ptAt xs l k)
theorem ptsOf_ok {p d : Nat} (hp : 0 < p) {xs : List Nat} {l : List (List Nat)} (h : RowsOk p xs l) (hd : d + 1 ≤ xs.length) (k : Nat) : Pts p (ptsOf d xs l k) := by
  constructor
  · intro q hq
    obtain ⟨i, hi, rfl⟩ := tab_mem hq
    refine ⟨zat_lt hp h.lt _, ?_⟩
    show at2 l i k < p
    obtain ⟨r, hr⟩ := get_some (show i < l.length by rw [h.len]; omega)
    unfold at2
    rw [hr]
    exact zat_lt hp (h.bel r (mem_get hr)) k
  · have e : (ptsOf d xs l k).map (·.X) = xs.take (d + 1) := by
      symm
      have : (ptsOf d xs l k).map (·.X) = tab (d + 1) (zat xs) := by simp [ptsOf, tab, ptAt, Function.comp_def]
      rw [this]
      refine tab_of (by simp; omega) fun i x hx => ?_
      have hi : i < d + 1 := by have := lt_get hx; simp at this; omega
      rw [List.getElem?_take_of_lt hi] at hx
      exact (zat_get hx).symm
    rw [e]
    exact h.nd.sublist (List.take_sublist ..)
noncomputable def glueV (p d : Nat) (xs : List Nat) (l : List (List Nat)) (k : Nat) : Nat → Nat := zat (fitP p (ptsOf d xs l k))
noncomputable def glueF (p d : Nat) (xs : List Nat) (l : List (List Nat)) : List (List Nat) := mat (d + 1) fun i k => glueV p d xs l k i
def colG (v : Nat → Nat → Nat) (k a b : Nat) : Nat := if b < k then v b a else 0
def colH (v : Nat → Nat → Nat) (k i a b : Nat) : Nat := if b < k ∨ (b = k ∧ a < i) then v b a else 0
theorem col_loop {n k : Nat} (hn : n ≤ 4) (hk : k < n) {f : List Nat} (hf : f.length ≤ n) {v : Nat → Nat → Nat} (hv : v k = zat f) {step : Int × List (List Nat) → (Int × List (List Nat) → Prop) → Prop}
    (hs : ∀ (i x : Nat) (g : Nat → Nat → Nat) (next : Int × List (List Nat) → Prop), i < f.length → f[i]? = some x → next (IntKind.i64.wrap ((i : Int) + 1), (mat n g).set i ((tab n (g i)).set k x)) → step ((i : Int), mat n g) next)
    (he : ∀ next, step ((f.length : Int), mat n (colG v (k + 1))) next) : LoopQ ((0 : Int), mat n (colG v k)) step := by
  refine LoopQ.rangeS f.length (fun i s => s = mat n (colH v k i)) ?_ (by omega) ?_ ?_
  · exact tab_ext fun a _ => tab_ext fun b _ => by unfold colG colH; by_cases h : b < k <;> simp [h]
  · rintro i _ next hi rfl hnx
    obtain ⟨x, hx⟩ := get_some hi
    refine hs i x _ next hi hx (hnx _ ?_)
    rw [mat_set]
    refine tab_ext fun a _ => tab_ext fun b _ => ?_
    unfold colH
    dsimp only
    by_cases h : a = i ∧ b = k
    · rw [if_pos h, if_pos (by omega), h.1, h.2, hv, zat_get hx]
    · rw [if_neg h]
      by_cases h2 : b < k ∨ (b = k ∧ a < i)
      · rw [if_pos h2, if_pos (by omega)]
      · rw [if_neg h2, if_neg (by omega)]
  · rintro _ next rfl
    have : mat n (colH v k f.length) = mat n (colG v (k + 1)) := tab_ext fun a _ => tab_ext fun b _ => by
      unfold colH colG
      by_cases h : b < k ∨ (b = k ∧ a < f.length)
      · rw [if_pos h, if_pos (by omega)]
      · rw [if_neg h]
        by_cases h2 : b < k + 1
        · obtain rfl : b = k := by omega
          rw [if_pos h2, hv, zat_none (by omega)]
        · rw [if_neg h2]
    rw [this]
    exact he next
theorem colG_zero (n : Nat) (v : Nat → Nat → Nat) : mat n (fun _ _ => 0) = mat n (colG v 0) := tab_ext fun a _ => tab_ext fun b _ => by unfold colG; rw [if_neg (by omega)]
theorem colG_all (p d : Nat) (xs : List Nat) (l : List (List Nat)) : mat (d + 1) (colG (glueV p d xs l) (d + 1)) = glueF p d xs l := tab_ext fun a _ => tab_ext fun b hb => by unfold colG; rw [if_pos hb]
theorem pair_Glue_c {p d : Nat} (hp : isP p) (hd : d ≤ 3) {xs : List Nat} {l : List (List Nat)} (h : RowsOk p xs l) (hl : d + 1 ≤ xs.length) {K : List (List Nat) → Prop} (k : K (glueF p d xs l)) : pair_Glue.C p d xs l K := by
  have hp3 := hp.1
  have hfew := h.few
  apply pair_Glue.q
  unfold pair_Glue.Q
  rw [wsucc (k := d) (by omega), toNat_c]
  refine ⟨MakeOk.of (by omega) (by omega), ?_⟩
  rw [rows_c (next := fun _ => [])]
  refine LoopQ.rangeS (d + 1) (fun k s => s = tab (d + 1) fun i => if i < k then List.replicate (d + 1) 0 else []) rfl (by omega) ?_ ?_
  · rintro j _ next hj rfl hnx
    refine ctd (by dsimp only; omega) ⟨MakeOk.of (by omega) (by omega), by dsimp only; omega, by dsimp only; omega, hnx _ rows_set⟩
  rintro _ next rfl
  refine cfd (by dsimp only; omega) ?_
  dsimp only
  rw [rows_all, colG_zero _ (glueV p d xs l)]
  refine LoopQ.rangeS (d + 1) (fun k s => s = mat (d + 1) (colG (glueV p d xs l) k)) rfl (by omega) ?_ ?_
  · rintro c _ next2 hc rfl hnx2
    dsimp only
    refine ctd (by omega) ⟨by omega, by omega, ?_⟩
    refine LoopQ.upto (d + 1) (fun i t => t = (tab i (ptAt xs l c), (i : Int))) rfl ?_
    rintro i _ next3 hi rfl hnx3
    dsimp only
    by_cases hlt : i < d + 1
    · obtain ⟨x, hx⟩ := get_some (show i < xs.length by omega)
      obtain ⟨r, hr⟩ := get_some (show i < l.length by rw [h.len]; omega)
      refine ctd (by omega) ⟨by omega, x, by rw [toNat_c, List.getElem?_take_of_lt hlt]; exact hx, by omega, r, hr, ?_⟩
      by_cases hcr : c < r.length
      · obtain ⟨y, hy⟩ := get_some hcr
        have e : (⟨x, y⟩ : TPoint) = ptAt xs l c i := by unfold ptAt; rw [zat_get hx, at2_eq hr hy]
        refine ctd (by omega) ⟨by omega, r, hr, by omega, y, hy, AppOk.of (by simp [tab_len]; omega), hnx3 hlt _ ?_⟩
        rw [e, tab_snoc, wsucc (by omega)]
      · have e : (⟨x, 0⟩ : TPoint) = ptAt xs l c i := by unfold ptAt at2; rw [zat_get hx, hr, Option.getD_some, List.getElem?_eq_none (by omega)]; rfl
        refine cfd (by omega) ⟨AppOk.of (by simp [tab_len]; omega), hnx3 hlt _ ?_⟩
        rw [e, tab_snoc, wsucc (by omega)]
    · obtain rfl : i = d + 1 := by omega
      have hpts := ptsOf_ok (p := p) (by omega) h hl c
      have hn : (ptsOf d xs l c).length = d + 1 := tab_len _ _
      refine cfd (by omega) (poly_Fit_c hp (l := ptsOf d xs l c) hpts (by omega) (by omega) fun f hf => ?_)
      have hfl := hf.2.1
      rw [hn] at hfl
      refine col_loop (n := d + 1) (k := c) (f := f) (v := glueV p d xs l) (by omega) hc hfl (by unfold glueV; rw [fitP_of hp hpts hf]) ?_ ?_
      · intro i x g next4 hi hx hn4
        dsimp only
        simp only [toNat_c]
        exact ctd (by omega) ⟨by omega, by omega, x, hx, by omega, by omega, _, tab_get _ (by omega), by omega, by rw [tab_len]; omega, hn4⟩
      · intro next4
        exact cfd (by dsimp only; omega) (hnx2 _ rfl)
  · rintro _ next2 rfl
    refine cfd (by dsimp only; omega) ?_
    dsimp only
    rw [colG_all]; exact k
def JoinOk (p d : Nat) (xs : List Nat) (l : List (List Nat)) (F : List (List Nat)) : Prop := Pr p d F ∧ ∀ (i x : Nat) (r : List Nat), xs[i]? = some x → l[i]? = some r → rowOf p d F x = short r
theorem glue_sz (p : Nat) {d : Nat} (hd : d ≤ 3) (xs : List Nat) (l : List (List Nat)) : Sz (glueF p d xs l) := ⟨by unfold glueF mat; rw [tab_len]; omega, fun r hr => by obtain ⟨i, _, rfl⟩ := tab_mem hr; rw [tab_len]; omega⟩
theorem pair_Join_c {p : Nat} {t : Int} {xs : List Nat} {l : List (List Nat)} (hX : xs.length ≤ 17592186044416) (hR : Sz l) {K : List (List Nat) → Int → Prop}
    (k1 : groundC p t ≠ 0 → K [] (groundC p t)) (k2 : groundC p t = 0 → rowsC p xs l ≠ 0 → K [] (rowsC p xs l))
    (k3 : ∀ d : Nat, t = d → d ≤ 3 → groundC p t = 0 → rowsC p xs l = 0 → xs.length < d + 1 → K [] 11)
    (k4 : ∀ d : Nat, t = d → d ≤ 3 → isP p → groundC p t = 0 → rowsC p xs l = 0 → d + 1 ≤ xs.length → ¬ JoinOk p d xs l (glueF p d xs l) → K [] 12)
    (k5 : ∀ d : Nat, t = d → d ≤ 3 → isP p → groundC p t = 0 → rowsC p xs l = 0 → d + 1 ≤ xs.length → JoinOk p d xs l (glueF p d xs l) → K (glueF p d xs l) 0) : pair_Join.C p t xs l K := by
  refine pair_Join.q (pair_ground_c ?_)
  rcases ground_cases p t with h0 | ⟨h0, hp, d, rfl, hd⟩
  · have : groundC p t ≠ 0 := by rw [h0]; decide
    exact ct (bne_t this) (k1 this)
  have hp3 := hp.1
  refine cf (bne_f h0) (pair_rows_c hp hX hR ?_)
  by_cases hr : ¬ rowsC p xs l = 0
  · exact ct (bne_t hr) (k2 h0 hr)
  replace hr := Classical.not_not.1 hr
  have hok := rows_ok hr
  refine cf (bne_f hr) ?_
  rw [wsucc (k := d) (by omega)]
  by_cases hlen : xs.length < d + 1
  · exact ctd (by omega) (k3 d rfl hd h0 hr hlen)
  refine cfd (by omega) (pair_Glue_c hp hd hok (by omega) (pair_Check_c (glue_sz p hd xs l) ?_))
  by_cases hP : ¬ Pr p d (glueF p d xs l)
  · have : checkC p d (glueF p d xs l) ≠ 0 := fun h => by
      rcases check_cases p d (glueF p d xs l) with h' | ⟨_, _, d', hd', _, h'⟩
      · exact h' h
      · obtain rfl : d = d' := by omega
        exact hP h'
    exact ct (bne_t this) (k4 d rfl hd hp h0 hr (by omega) fun h => hP h.1)
  replace hP := Classical.not_not.1 hP
  refine cf (bne_f (check_ok hp hd hP)) ?_
  refine LoopQ.range xs.length (fun n => ∀ (i x : Nat) (r : List Nat), i < n → xs[i]? = some x → l[i]? = some r → rowOf p d (glueF p d xs l) x = short r) (fun i x r hi => by omega) (by omega) ?_ ?_
  · intro n next hn hI hnx
    obtain ⟨x, hx⟩ := get_some hn
    obtain ⟨r, hr'⟩ := get_some (show n < l.length by rw [hok.len]; exact hn)
    have hrl := hok.short r (mem_get hr')
    refine ctd (by omega) ⟨by omega, x, hx, by omega, r, hr', pair_RowOf_c (by omega) hp.2.1 hd (hok.lt x (mem_get hx)) hP (poly_Short_c (by omega) (slices_Equal_c (by have := rowOf_len p d (glueF p d xs l) x; omega) ?_))⟩
    by_cases he : rowOf p d (glueF p d xs l) x = short r
    · rw [decide_eq_true he]
      refine cf rfl (hnx fun i y s hi hy hs => ?_)
      rcases Nat.lt_or_ge i n with h' | h'
      · exact hI i y s h' hy hs
      · obtain rfl : i = n := by omega
        rw [hx] at hy; cases hy; rw [hr'] at hs; cases hs; exact he
    · rw [decide_eq_false he]
      exact ct rfl (k4 d rfl hd hp h0 hr (by omega) fun h => he (h.2 n x r hx hr'))
  · intro next hI
    exact cfd (by omega) (k5 d rfl hd hp h0 hr (by omega) ⟨hP, fun i x r hx hr => hI i x r (lt_get hx) hx hr⟩)
end Go.Proofs.Ytlhcaangdenoaaa.Pl
