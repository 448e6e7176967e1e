import Derived.Test.YtlhcaangdenoaaaSQT
import Derived.Test.YtlhcaangdenoaaaSFnDecodeRight
import Derived.Test.YtlhcaangdenoaaaSFnDecodeSearched
namespace Go.Lf
end Go.Lf
namespace Go.Proofs.Ytlhcaangdenoaaa.Sh
end Go.Proofs.Ytlhcaangdenoaaa.Sh
namespace Go.Proofs.Ytlhcaangdenoaaa.Sp
end Go.Proofs.Ytlhcaangdenoaaa.Sp
namespace Go.Sx
end Go.Sx
set_option linter.unusedVariables false
set_option linter.unusedSimpArgs false
namespace Go.Proofs.Ytlhcaangdenoaaa.Pl
open Go.Sx Go.Lf Go.Proofs.Ytlhcaangdenoaaa.Sh Go.Proofs.Ytlhcaangdenoaaa.Sp
theorem cnt_one (a b : Nat → Bool) (k : Nat) (h : ∀ i, i ≠ k → a i = b i) : ∀ n, ((List.range n).filter a).length ≤ ((List.range n).filter b).length + (if k < n then 1 else 0)
  | 0 => by simp
  | n + 1 => by
    have ih := cnt_one a b k h n
    rw [List.range_succ, List.filter_append, List.filter_append, List.length_append, List.length_append]
    simp only [List.filter_cons, List.filter_nil]
    by_cases hn : n = k
    · subst hn
      rw [show (if n < n then 1 else 0) = 0 from if_neg (by omega)] at ih
      rw [show (if n < n + 1 then 1 else 0) = 1 from if_pos (by omega)]
      have : (if a n = true then [n] else []).length ≤ 1 := by split <;> simp
      omega
    · rw [h n hn]
      have e : (if k < n + 1 then 1 else 0) = (if k < n then 1 else 0) := by
        by_cases hk : k < n
        · rw [if_pos hk, if_pos (by omega)]
        · rw [if_neg hk, if_neg (by omega)]
      omega
theorem px_set {l : List TPoint} {k i : Nat} {y : TPoint} (h : i ≠ k) : px (l.set k y) i = px l i := by unfold px; rw [List.getElem?_set, if_neg (Ne.symm h)]
theorem py_set {l : List TPoint} {k i : Nat} {y : TPoint} (h : i ≠ k) : py (l.set k y) i = py l i := by unfold py; rw [List.getElem?_set, if_neg (Ne.symm h)]
theorem off_set (p : Nat) (f : List Nat) (l : List TPoint) (k : Nat) (y : TPoint) : (offL p f (l.set k y)).length ≤ (offL p f l).length + 1 := by
  have := cnt_one (offB p f (l.set k y)) (offB p f l) k (fun i hi => by unfold offB; rw [px_set hi, py_set hi]) l.length
  unfold offL
  rw [List.length_set]
  split at this <;> omega
theorem off_short {p : Nat} (hp : 1 < p) (f : List Nat) (l : List TPoint) : offL p (short f) l = offL p f l := by
  unfold offL
  congr 1
  funext i
  unfold offB
  rw [evalH_short hp]
theorem off_none {p : Nat} {f : List Nat} {l : List TPoint} (h : ∀ q ∈ l, evalH p f q.X = q.Y) : offL p f l = [] := by
  unfold offL
  rw [List.filter_eq_nil_iff]
  intro i hi
  obtain ⟨q, hq⟩ := get_some (List.mem_range.1 hi)
  unfold offB
  rw [px_get hq, py_get hq, h q (mem_get hq)]
  simp
theorem DecodeRight_c {p : Nat} {d : Int} {q : TSpoilt} (hF : q.F.length ≤ 17592186044416) (hX : q.Xs.length ≤ 17592186044416) (hA : q.At.length ≤ 17592186044416) (hV : q.Values.length ≤ 17592186044416) : juntolaw05_DecodeRight.C p d q fun b => b = true := by
  refine juntolaw05_DecodeRight.q (juntoref01_Is_c ?_)
  by_cases hp : ¬ isP p
  · rw [prm_f hp]; exact ct rfl (alive05_c rfl)
  replace hp := Classical.not_not.1 hp
  rw [prm_t hp]
  refine cf rfl ?_
  by_cases h1 : d < 0
  · exact ctd h1 (alive05_c rfl)
  refine cfd h1 ?_
  by_cases h2 : d > 63
  · exact ctd h2 (alive05_c rfl)
  refine cfd h2 ?_
  by_cases h3 : 64 < q.Xs.length
  · exact ctd (by omega) (alive05_c rfl)
  refine cfd (by omega) (juntoref01_Within_c (by omega) ?_)
  rcases codeB_cases p q.Xs with hb | ⟨hb, hXp⟩
  · rw [hb]; exact ct rfl (alive05_c rfl)
  rw [hb]
  refine cf rfl (juntoref02_Twice_c (by omega) ?_)
  by_cases hnd : q.Xs.Nodup
  rotate_left
  · rw [decide_eq_true hnd]; exact ct rfl (alive05_c rfl)
  rw [decide_eq_false (fun h => h hnd)]
  refine cf rfl (juntoref01_Within_c (by omega) ?_)
  rcases codeB_cases p q.F with hb | ⟨hb, hFp⟩
  · rw [hb]; exact ct rfl (alive05_c rfl)
  rw [hb]
  obtain ⟨dn, rfl⟩ := Int.eq_ofNat_of_zero_le (show 0 ≤ d by omega)
  refine cf rfl (juntoref02_Trim_c hF ?_)
  rw [addw1 (by omega)]
  by_cases hlen : (short q.F).length ≤ dn + 1
  rotate_left
  · exact ctd (by omega) (alive05_c rfl)
  refine cfd (by omega) (juntoref01_Within_c (by omega) ?_)
  rcases codeB_cases p q.Values with hb | ⟨hb, hVp⟩
  · rw [hb]; exact ct rfl (alive05_c rfl)
  rw [hb]
  refine cf rfl ?_
  by_cases hAV : q.At.length = q.Values.length
  rotate_left
  · exact ct (bne_t (by omega)) (alive05_c rfl)
  refine cf (bne_f (by omega)) (juntoref05_Most_c ?_)
  by_cases hm : (q.At.length : Int) > mostC q.Xs.length dn
  · exact ctd hm (alive05_c rfl)
  refine cfd hm ?_
  have hp3 := hp.1
  have hpp := hp.2.1
  refine LoopQ.upto q.Xs.length (fun i t => t = ((q.Xs.take i).map (fun x => (⟨x, evalH p q.F x⟩ : TPoint)), (i : Int))) rfl ?_
  rintro i _ next hi rfl hnx
  dsimp only
  by_cases hil : i < q.Xs.length
  · obtain ⟨x, hx⟩ := get_some hil
    refine ctd (by omega) ⟨by omega, x, hx, juntoref02_Eval_c (by omega) hpp (hXp x (mem_get hx)) hFp (by omega) ⟨AppOk.of (by simp; omega), hnx hil _ ?_⟩⟩
    rw [List.take_add_one, hx, wsucc (by omega)]
    simp
  obtain rfl : i = q.Xs.length := by omega
  refine cfd (by omega) ?_
  rw [List.take_length]
  refine LoopQ.rangeS q.At.length (fun i l => l.map (·.X) = q.Xs ∧ (∀ r ∈ l, r.Y < p) ∧ (offL p q.F l).length ≤ i) ⟨by simp [List.map_map, Function.comp_def], fun r hr => ?_, ?_⟩ (by omega) ?_ ?_
  · obtain ⟨x, _, rfl⟩ := List.mem_map.1 hr
    exact evalH_lt (by omega) _ _
  · rw [off_none]
    · simp
    · intro r hr
      obtain ⟨x, _, rfl⟩ := List.mem_map.1 hr
      rfl
  · rintro k l next2 hk ⟨hlX, hlY, hlo⟩ hnx2
    dsimp only
    have hll : l.length = q.Xs.length := by rw [← hlX, List.length_map]
    obtain ⟨a, ha⟩ := get_some hk
    obtain ⟨v, hv⟩ := get_some (show k < q.Values.length by omega)
    refine ctd (by omega) ⟨by omega, a, ha, ?_⟩
    by_cases ha0 : a < 0
    · exact ctd ha0 (alive05_c rfl)
    refine cfd ha0 ?_
    rw [List.length_map]
    by_cases hal : a ≥ (q.Xs.length : Int)
    · exact ctd hal (alive05_c rfl)
    obtain ⟨an, rfl⟩ := Int.eq_ofNat_of_zero_le (show 0 ≤ a by omega)
    obtain ⟨r, hr⟩ := get_some (show an < l.length by omega)
    refine cfd hal ⟨by omega, v, hv, by omega, by omega, r, hr, hnx2 _ ⟨?_, fun s hs => ?_, ?_⟩⟩
    · simp only [toNat_c]
      rw [← hlX, List.map_set]
      apply List.ext_getElem?
      intro j
      rw [List.getElem?_set]
      by_cases hj : an = j
      · subst hj; rw [if_pos rfl, if_pos (by simp; omega), List.getElem?_map, hr]; rfl
      · rw [if_neg hj]
    · rcases List.mem_or_eq_of_mem_set hs with h | h
      · exact hlY s h
      · rw [h]; exact hVp v (mem_get hv)
    · have := off_set p q.F l an ⟨r.X, v⟩
      simp only [toNat_c]; omega
  · rintro l next2 ⟨hlX, hlY, hlo⟩
    have hll : l.length = q.Xs.length := by rw [← hlX, List.length_map]
    have hlow : Low p l := fun r hr => ⟨hXp r.X (by rw [← hlX]; exact List.mem_map.2 ⟨r, hr, rfl⟩), hlY r hr⟩
    have hP : Pts p l := ⟨hlow, by rw [hlX]; exact hnd⟩
    have hc : checkD p (dn : Int) l = 0 := by
      unfold checkD
      rw [if_pos ⟨hp, by omega, by omega⟩, if_neg (by omega), if_pos hlow, if_pos (by rw [hlX]; exact hnd)]
    refine cfd (by dsimp only; omega) (decode_Best_c (by dsimp only; omega) fun f a e _ h => ?_)
    dsimp only at *
    have hm0 : ¬ mostC l.length dn < 0 := by rw [hll]; omega
    replace h := h (.inr hm0)
    obtain ⟨wn, hw⟩ := Int.eq_ofNat_of_zero_le (show 0 ≤ mostC l.length dn by omega)
    have hn := mostC_ge (n := l.length) (d := dn) (w := wn) (by omega) (by omega)
    have hdec : Dec p dn wn l (short q.F) := ⟨fun a ha => hFp a (short_mem ha), hlen, short_short _, by rw [off_short (by omega)]; rw [hll] at hw; omega⟩
    cases h with
    | check h => exact (h hc).elim
    | neg h h2 => exact (hm0 h2).elim
    | few h h2 h3 => omega
    | bad h d2 w2 hd hw2 hn2 hno =>
      obtain rfl : dn = d2 := by omega
      obtain rfl : wn = w2 := by omega
      exact (hno _ hdec).elim
    | ok h d2 w2 hd hw2 hn2 f hf =>
      obtain rfl : dn = d2 := by omega
      obtain rfl : wn = w2 := by omega
      obtain rfl := hf.uniq hp hP hn hdec
      have hol := rng_len (offB p (short q.F) l) l.length
      refine ct rfl (juntoref02_Trim_c hF (juntoref01_Same_c (by omega) ?_))
      rw [decide_eq_true rfl]
      refine ct rfl (juntoref05_Off_c (by omega) hpp hFp hF (fun r hr => (hlow r hr).1) (by omega) (juntolaw05_ints_c (by rw [ints_len]; unfold offL; omega) ?_))
      rw [off_short (by omega), decide_eq_true rfl]
      exact ct rfl (alive05_c rfl)
def rightB (p : Nat) (f : List Nat) (q : TPoint) : Bool := decide (evalH p f q.X = q.Y)
theorem right_cnt (p : Nat) (f : List Nat) (l : List TPoint) : ∀ i, i ≤ l.length → ((List.range i).filter (offB p f l)).length + ((l.take i).filter (rightB p f)).length = i
  | 0, _ => by simp
  | i + 1, h => by
    have ih := right_cnt p f l i (by omega)
    obtain ⟨q, hq⟩ := get_some (show i < l.length by omega)
    rw [offL_step, List.take_add_one, hq, List.filter_append, List.length_append, List.length_append]
    have : offB p f l i = !rightB p f q := by unfold offB rightB; rw [px_get hq, py_get hq]; simp
    rw [this]
    simp only [Option.toList, List.filter_cons, List.filter_nil]
    cases rightB p f q <;> simp <;> omega
theorem sub_cons {α : Type} {c : List α} {y : α} : ∀ {m : List α}, (y :: c).Sublist m → ∃ j, m[j]? = some y ∧ c.Sublist (m.drop (j + 1))
  | [], h => by cases h
  | z :: m, h => by
    cases h with
    | cons _ h =>
      obtain ⟨j, h1, h2⟩ := sub_cons h
      exact ⟨j + 1, by simpa using h1, by simpa using h2⟩
    | cons_cons _ h => exact ⟨0, rfl, by simpa using h⟩
def goodC (p w : Nat) (l c : List TPoint) : Prop := (offL p (fitP p c) l).length ≤ w
theorem pts_sub {p : Nat} {l c : List TPoint} (hl : Pts p l) (hs : c.Sublist l) : Pts p c := ⟨fun q hq => hl.1 q (hs.mem hq), hl.2.sublist (hs.map _)⟩
theorem search_c {p d w : Nat} {l : List TPoint} (hp : isP p) (hP : Pts p l) (hll : l.length ≤ 9) (hd : d ≤ 63) : ∀ (m from_ : Nat) (chosen : List TPoint), l.length - from_ ≤ m → from_ ≤ l.length → chosen.Sublist (l.take from_) → chosen.length ≤ d + 1 → ∀ {K : List Nat → Bool → Prop},
    (∀ f, Dec p d w l f → K f true) → ((∀ c, c.Sublist (l.drop from_) → chosen.length + c.length = d + 1 → ¬ goodC p w l (chosen ++ c)) → ∀ f, K f false) → juntoref05_search.C p d w l from_ chosen K := by
  intro m
  have hp3 := hp.1
  have hpp := hp.2.1
  haveI : NeZero p := ⟨by omega⟩
  induction m with
  | zero =>
    intro from_ chosen hm hf hs hc K k1 k0
    have hsl := hs.trans (List.take_sublist _ _)
    have hcl := hsl.length_le
    have hfr : from_ = l.length := by omega
    subst hfr
    apply juntoref05_search.q
    unfold juntoref05_search.Q
    rw [addw1 (by omega)]
    by_cases h : chosen.length = d + 1
    · refine ct (beq_t (by omega)) (juntoref02_Through_c hp (pts_sub hP hsl) (by omega) fun f hf => ?_)
      obtain ⟨f1, f2, f3, f4⟩ := id hf
      refine juntoref05_Off_c (by omega) hpp f1 (by omega) (fun q hq => (hP.1 q hq).1) (by omega) ?_
      rw [ints_len]
      by_cases ho : (offL p f l).length ≤ w
      · rw [decide_eq_true (by omega)]; exact k1 f ⟨f1, by omega, f3, ho⟩
      · rw [decide_eq_false (by omega)]
        refine k0 (fun c hc hcl => ?_) _
        have : c = [] := List.eq_nil_of_length_eq_zero (by omega)
        subst this
        unfold goodC
        rw [List.append_nil, fitP_of hp (pts_sub hP hsl) hf]; exact ho
    · refine cf (beq_f (by omega)) (LoopQ.upto 0 (fun _ t => t = (l.length : Int)) rfl ?_)
      rintro _ t next _ rfl _
      refine cfd (by omega) (k0 (fun c hc hcl => ?_) _)
      rw [List.drop_of_length_le (Nat.le_refl _)] at hc
      have : c = [] := List.eq_nil_of_sublist_nil hc
      subst this
      simp at hcl
      omega
  | succ m ih =>
    intro from_ chosen hm hf hs hc K k1 k0
    have hsl := hs.trans (List.take_sublist _ _)
    have hcl := hsl.length_le
    apply juntoref05_search.q
    unfold juntoref05_search.Q
    rw [addw1 (by omega)]
    by_cases h : chosen.length = d + 1
    · refine ct (beq_t (by omega)) (juntoref02_Through_c hp (pts_sub hP hsl) (by omega) fun f hf => ?_)
      obtain ⟨f1, f2, f3, f4⟩ := id hf
      refine juntoref05_Off_c (by omega) hpp f1 (by omega) (fun q hq => (hP.1 q hq).1) (by omega) ?_
      rw [ints_len]
      by_cases ho : (offL p f l).length ≤ w
      · rw [decide_eq_true (by omega)]; exact k1 f ⟨f1, by omega, f3, ho⟩
      · rw [decide_eq_false (by omega)]
        refine k0 (fun c hc hcl => ?_) _
        have : c = [] := List.eq_nil_of_length_eq_zero (by omega)
        subst this
        unfold goodC
        rw [List.append_nil, fitP_of hp (pts_sub hP hsl) hf]; exact ho
    · refine cf (beq_f (by omega)) (LoopQ.upto (l.length - from_) (fun k t => t = ((from_ + k : Nat) : Int) ∧ ∀ (j : Nat) (x : TPoint) (c : List TPoint), from_ ≤ j → j < from_ + k → l[j]? = some x → c.Sublist (l.drop (j + 1)) → chosen.length + (c.length + 1) = d + 1 → ¬ goodC p w l (chosen ++ x :: c)) ⟨rfl, fun j x c h1 h2 => by omega⟩ ?_)
      rintro k _ next hk ⟨rfl, hI⟩ hnx
      by_cases hkl : k < l.length - from_
      · obtain ⟨x, hx⟩ := get_some (show from_ + k < l.length by omega)
        refine ctd (by omega) ⟨by omega, x, hx, AppOk.of (by simp; omega), AppOk.of (by simp; omega), ?_⟩
        rw [addw1 (by omega)]
        refine ih (from_ + k + 1) (chosen ++ [x]) (by omega) (by omega) ?_ (by simp; omega) ?_ ?_
        · rw [List.take_add_one, hx]
          refine List.Sublist.append (hs.trans ?_) (List.Sublist.refl _)
          exact List.take_sublist_take_left (by omega)
        · intro f hf
          exact ct rfl (k1 f hf)
        · intro hno f
          refine cf rfl (hnx hkl _ ⟨by omega, fun j y c h1 h2 h3 h4 h5 => ?_⟩)
          by_cases hj : j < from_ + k
          · exact hI j y c h1 hj h3 h4 h5
          · obtain rfl : j = from_ + k := by omega
            rw [hx] at h3; cases h3
            have := hno c h4 (by simp; omega)
            rwa [List.append_assoc, List.singleton_append] at this
      · refine cfd (by omega) (k0 (fun c hc hcl2 => ?_) _)
        cases c with
        | nil => simp at hcl2; omega
        | cons y c =>
          obtain ⟨j, h1, h2⟩ := sub_cons hc
          rw [List.getElem?_drop] at h1
          rw [List.drop_drop] at h2
          have hjl := lt_get h1
          refine hI (from_ + j) y c (by omega) (by omega) h1 ?_ (by simpa using hcl2)
          rw [Nat.add_assoc]; exact h2
theorem search_some {p d w : Nat} {l : List TPoint} (hp : isP p) (hP : Pts p l) (hn : d + 1 + 2 * w ≤ l.length) {f : List Nat} (hf : Dec p d w l f) : ∃ c, c.Sublist l ∧ c.length = d + 1 ∧ goodC p w l c := by
  have hp3 := hp.1
  have h1 := right_cnt p f l l.length (Nat.le_refl _)
  have h2 := hf.off
  unfold offL at h2
  rw [List.take_length] at h1
  have hs : ((l.filter (rightB p f)).take (d + 1)).Sublist l := (List.take_sublist _ _).trans List.filter_sublist
  have hl : ((l.filter (rightB p f)).take (d + 1)).length = d + 1 := by simp; omega
  refine ⟨_, hs, hl, ?_⟩
  unfold goodC
  rw [fitP_of hp (pts_sub hP hs) (f := f) ⟨hf.lt, by rw [hl]; exact hf.len, hf.tidy, fun q hq => ?_⟩]
  · exact hf.off
  · have := (List.mem_filter.1 (List.mem_of_mem_take hq)).2
    unfold rightB at this
    rw [← pv_evalH, of_decide_eq_true this]
theorem DecodeSearched_c {p : Nat} {q : Int × Int} {l : List TPoint} (hl : l.length ≤ 17592186044416) : juntolaw05_DecodeSearched.C p q l fun b => b = true := by
  obtain ⟨d, w⟩ := q
  refine juntolaw05_DecodeSearched.q (juntoref05_Check_c hl ?_)
  dsimp only
  by_cases h0 : checkD p d l = 0
  rotate_left
  · exact ct (bne_t h0) (alive05_c rfl)
  obtain ⟨hp, hP, hll, dn, rfl, hdl⟩ := checkD_ok h0
  refine cf (bne_f h0) ?_
  by_cases h9 : 9 < l.length
  · exact ctd (by omega) (alive05_c rfl)
  refine cfd (by omega) ?_
  by_cases hw : w < 0
  · exact ctd hw (alive05_c rfl)
  refine cfd hw ?_
  obtain ⟨wn, rfl⟩ := Int.eq_ofNat_of_zero_le (show 0 ≤ w by omega)
  refine few_c hdl hll ?_
  by_cases hn : dn + 1 + 2 * wn ≤ l.length
  rotate_left
  · rw [decide_eq_true hn]; exact ct rfl (alive05_c rfl)
  rw [decide_eq_false (fun h => h hn)]
  have hp3 := hp.1
  refine cf rfl (decode_Decode_c hl fun f a e h => juntoref05_Search.q (search_c hp hP (by omega) hdl l.length 0 [] (by omega) (by omega) (List.nil_sublist _) (by simp) ?_ ?_))
  · intro g hg
    refine cf rfl ?_
    cases h with
    | check h => exact (h h0).elim
    | neg h hw => omega
    | few h hw hm => exact (mostC_few (by omega) hm hn).elim
    | ok h d2 w2 hd hw2 hn2 f hf =>
      obtain rfl : dn = d2 := by omega
      obtain rfl : wn = w2 := by omega
      obtain rfl := hf.uniq hp hP hn hg
      have hfl := hf.len
      have hol := rng_len (offB p f l) l.length
      refine ct rfl (juntoref01_Same_c (by omega) ?_)
      rw [decide_eq_true rfl]
      refine ct rfl (juntoref05_Off_c (by omega) hp.2.1 hf.lt (by omega) (fun q hq => (hP.1 q hq).1) (by omega) (juntolaw05_ints_c (by rw [ints_len]; unfold offL; omega) ?_))
      exact decide_eq_true rfl
    | bad h d2 w2 hd hw2 hn2 hno =>
      obtain rfl : dn = d2 := by omega
      obtain rfl : wn = w2 := by omega
      exact (hno g hg).elim
  · intro hno g
    refine ct rfl ?_
    cases h with
    | check h => exact (h h0).elim
    | neg h hw => omega
    | few h hw hm => exact (mostC_few (by omega) hm hn).elim
    | ok h d2 w2 hd hw2 hn2 f hf =>
      obtain rfl : dn = d2 := by omega
      obtain rfl : wn = w2 := by omega
      obtain ⟨c, h1, h2, h3⟩ := search_some hp hP hn hf
      exact (hno c (by simpa using h1) (by simpa using h2) (by simpa using h3)).elim
    | bad h d2 w2 hd hw2 hn2 hno => exact told_bad_c rfl rfl rfl (ct rfl (alive05_c rfl))
end Go.Proofs.Ytlhcaangdenoaaa.Pl
