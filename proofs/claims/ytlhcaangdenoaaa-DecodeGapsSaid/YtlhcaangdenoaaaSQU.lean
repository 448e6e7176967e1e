import Derived.Test.YtlhcaangdenoaaaSQT
import Derived.Test.YtlhcaangdenoaaaSFnDecodeGaps
import Derived.Test.YtlhcaangdenoaaaSFnDecodeSearched
namespace Go.Lf
end Go.Lf
namespace Go.Proofs.Ytlhcaangdenoaaa.Sh
end Go.Proofs.Ytlhcaangdenoaaa.Sh
namespace Go.Proofs.Ytlhcaangdenoaaa.Sp
end Go.Proofs.Ytlhcaangdenoaaa.Sp
namespace Go.Sx
end Go.Sx
set_option linter.unusedVariables false
set_option linter.unusedSimpArgs false
namespace Go.Proofs.Ytlhcaangdenoaaa.Pl
open Go.Sx Go.Lf Go.Proofs.Ytlhcaangdenoaaa.Sh Go.Proofs.Ytlhcaangdenoaaa.Sp
def thr (there : List Bool) (i : Nat) : Bool := there[i]?.getD false
def gI (there : List Bool) (i : Nat) : List Nat := (List.range i).filter (thr there)
def pt (l : List TPoint) (i : Nat) : TPoint := l[i]?.getD ⟨0, 0⟩
def gP (l : List TPoint) (there : List Bool) (i : Nat) : List TPoint := (gI there i).map (pt l)
theorem gI_step (there : List Bool) (i : Nat) : gI there (i + 1) = gI there i ++ (if thr there i then [i] else []) := by
  unfold gI
  rw [List.range_succ, List.filter_append]
  congr 1
  rw [List.filter_cons]
  split <;> rfl
theorem gP_step (l : List TPoint) (there : List Bool) (i : Nat) : gP l there (i + 1) = gP l there i ++ (if thr there i then [pt l i] else []) := by
  unfold gP
  rw [gI_step, List.map_append]
  congr 1
  split <;> rfl
theorem gP_len (l : List TPoint) (there : List Bool) (i : Nat) : (gP l there i).length = (gI there i).length := by simp [gP]
theorem gP_sub (l : List TPoint) (there : List Bool) : ∀ i, i ≤ l.length → (gP l there i).Sublist (l.take i)
  | 0, _ => by simp [gP, gI]
  | i + 1, h => by
    obtain ⟨q, hq⟩ := get_some (show i < l.length by omega)
    have hp : pt l i = q := by unfold pt; rw [hq]; rfl
    rw [gP_step, List.take_add_one, hq, hp]
    refine List.Sublist.append (gP_sub l there i (by omega)) ?_
    split
    · exact List.Sublist.refl _
    · exact List.nil_sublist _
theorem check_sub {p : Nat} {d : Int} {l m : List TPoint} (h : checkD p d l = 0) (hs : m.Sublist l) : checkD p d m = 0 := by
  obtain ⟨hp, hP, hll, dn, rfl, hdl⟩ := checkD_ok h
  have hlen := hs.length_le
  unfold checkD
  rw [if_pos ⟨hp, by omega, by omega⟩, if_neg (by omega), if_pos (show Low p m from fun q hq => hP.1 q (hs.mem hq)), if_pos (hP.2.sublist (hs.map _))]
theorem some_loop {l : List TPoint} {there : List Bool} (hl : l.length ≤ 64) (ht : there.length = l.length) {step : List TPoint × List Int × Int → (List TPoint × List Int × Int → Prop) → Prop}
    (hs : ∀ (i : Nat) (q : TPoint) (b : Bool) (s : List TPoint) (a : List Int) (next : List TPoint × List Int × Int → Prop), i < l.length → l[i]? = some q → there[i]? = some b → s.length ≤ 64 → a.length ≤ 64 → (b = true → next (s ++ [q], a ++ [(i : Int)], IntKind.i64.wrap ((i : Int) + 1))) → (b = false → next (s, a, IntKind.i64.wrap ((i : Int) + 1))) → step (s, a, (i : Int)) next)
    (he : ∀ next, step (gP l there l.length, ints (gI there l.length), (l.length : Int)) next) : LoopQ (([] : List TPoint), ([] : List Int), (0 : Int)) step := by
  refine LoopQ.upto l.length (fun i t => t = (gP l there i, ints (gI there i), (i : Int))) rfl ?_
  rintro i _ next hi rfl hnx
  by_cases h : i < l.length
  · obtain ⟨q, hq⟩ := get_some h
    obtain ⟨b, hb⟩ := get_some (show i < there.length by omega)
    have hpt : pt l i = q := by unfold pt; rw [hq]; rfl
    have hth : thr there i = b := by unfold thr; rw [hb]; rfl
    have hgl := rng_len (thr there) i
    refine hs i q b _ _ next h hq hb (by rw [gP_len]; unfold gI; omega) (by rw [ints_len]; unfold gI; omega) (fun e => hnx h _ ?_) (fun e => hnx h _ ?_)
    · rw [gP_step, gI_step, hth, hpt, e, if_pos rfl, if_pos rfl, ints_snoc, wsucc (by omega)]
    · rw [gP_step, gI_step, hth, e, if_neg (by decide), if_neg (by decide), List.append_nil, List.append_nil, wsucc (by omega)]
  · obtain rfl : i = l.length := by omega
    exact he next
theorem juntoref05_There_c {l : List TPoint} {there : List Bool} (hl : l.length ≤ 64) (ht : there.length = l.length) {K : List TPoint → List Int → Prop} (k : K (gP l there l.length) (ints (gI there l.length))) : juntoref05_There.C l there K := by
  apply juntoref05_There.q
  refine some_loop hl ht ?_ ?_
  · intro i q b s a next hi hq hb hsl hal h1 h2
    dsimp only
    refine ctd (by omega) ⟨by omega, q, hq, by omega, b, hb, ?_⟩
    cases b with
    | true => exact ct rfl ⟨AppOk.of (by simp; omega), AppOk.of (by simp; omega), h1 rfl⟩
    | false => exact cf rfl (h2 rfl)
  · intro next
    exact cfd (by dsimp only; omega) k
def gAt (l : List TPoint) (there : List Bool) (k : Nat) : Nat := (gI there l.length)[k]?.getD 0
def gOff (p : Nat) (f : List Nat) (l : List TPoint) (there : List Bool) : List Int := ints ((offL p f (gP l there l.length)).map (gAt l there))
theorem gAt_get {l : List TPoint} {there : List Bool} {k : Nat} (h : k < (gI there l.length).length) : (ints (gI there l.length))[k]? = some ((gAt l there k : Nat) : Int) := by
  obtain ⟨x, hx⟩ := get_some h
  rw [ints_get hx]; unfold gAt; rw [hx]; rfl
theorem off_mem {p : Nat} {f : List Nat} {l : List TPoint} {k : Nat} (h : k ∈ offL p f l) : k < l.length := List.mem_range.1 (List.mem_filter.1 h).1
theorem decode_Gaps_c {p : Nat} {d : Int} {l : List TPoint} {there : List Bool} (hl : l.length ≤ 17592186044416) {K : List Nat → List Int → Int → Prop}
    (k0 : checkD p d l ≠ 0 → K [] [] (checkD p d l)) (k1 : checkD p d l = 0 → there.length ≠ l.length → K [] [] 2)
    (k2 : checkD p d l = 0 → there.length = l.length → mostC (gP l there l.length).length d < 0 → K [] [] 11)
    (k3 : checkD p d l = 0 → there.length = l.length → ∀ (dn wn : Nat) f, d = dn → mostC (gP l there l.length).length d = wn → dn + 1 + 2 * wn ≤ (gP l there l.length).length → Dec p dn wn (gP l there l.length) f → K f (gOff p f l there) 0)
    (k4 : checkD p d l = 0 → there.length = l.length → ∀ (dn wn : Nat), d = dn → mostC (gP l there l.length).length d = wn → dn + 1 + 2 * wn ≤ (gP l there l.length).length → (∀ f, ¬ Dec p dn wn (gP l there l.length) f) → K [] [] 12) : decode_Gaps.C p d l there K := by
  refine decode_Gaps.q (decode_Check_c hl ?_)
  by_cases h0 : checkD p d l = 0
  rotate_left
  · exact ct (bne_t h0) (k0 h0)
  refine cf (bne_f h0) ?_
  by_cases ht : there.length = l.length
  rotate_left
  · exact ct (bne_t (by omega)) (k1 h0 ht)
  refine cf (bne_f (by omega)) ?_
  obtain ⟨hp, hP, hll, dn, rfl, hdl⟩ := checkD_ok h0
  have hsub := gP_sub l there l.length (Nat.le_refl _)
  rw [List.take_length] at hsub
  have hgl := hsub.length_le
  have hgc := check_sub h0 hsub
  have triv : ∀ (f : List Nat) (e : Int), K f [] e → LoopQ (τ := Int × List Int) (0, ([] : List Int)) fun t2 nextQ2 =>
      cond (decide (t2.1 < ((([] : List Int).length : Nat) : Int))) (0 ≤ t2.1 ∧ t2.1 < ((([] : List Int).length : Nat) : Int) ∧ ∃ x4 : Int, t2.2[Int.toNat t2.1]? = some x4 ∧ 0 ≤ x4 ∧ x4 < (((ints (gI there l.length)).length : Nat) : Int) ∧ ∃ x5 : Int, (ints (gI there l.length))[Int.toNat x4]? = some x5 ∧ 0 ≤ t2.1 ∧ t2.1 < ((([] : List Int).length : Nat) : Int) ∧ nextQ2 (IntKind.i64.wrap (t2.1 + 1), (List.set t2.2 (Int.toNat t2.1) x5))) (K f t2.2 e) := fun f e h =>
    LoopQ.upto 0 (fun _ t => t = (0, [])) rfl fun _ t next _ ht _ => by subst ht; exact cfd (by simp) h
  refine some_loop hll ht ?_ ?_
  · intro i q b s a next hi hq hb hsl hal h1 h2
    dsimp only
    refine ctd (by omega) ⟨by omega, q, hq, by omega, b, hb, ?_⟩
    cases b with
    | true => exact ct rfl ⟨AppOk.of (by simp; omega), AppOk.of (by simp; omega), h1 rfl⟩
    | false => exact cf rfl (h2 rfl)
  intro next
  refine cfd (by dsimp only; omega) (decode_Best_c (by dsimp only; omega) fun f a e hf h => ?_)
  dsimp only at hf h ⊢
  by_cases hm : mostC (gP l there l.length).length dn < 0
  · obtain ⟨rfl, rfl, rfl⟩ := hf hgc hm
    exact triv _ _ (k2 h0 ht hm)
  replace h := h (.inr hm)
  obtain ⟨wn, hw⟩ := Int.eq_ofNat_of_zero_le (show 0 ≤ mostC (gP l there l.length).length dn by omega)
  have hn := mostC_ge (n := (gP l there l.length).length) (d := dn) (w := wn) (by omega) (by omega)
  cases h with
  | check h => exact (h hgc).elim
  | neg h h2 => exact (hm h2).elim
  | few h h2 h3 => omega
  | bad h d2 w2 hd hw2 hn2 hno =>
    obtain rfl : dn = d2 := by omega
    exact triv _ _ (k4 h0 ht dn w2 rfl hw2 hn2 hno)
  | ok h d2 w2 hd hw2 hn2 f hf =>
    obtain rfl : dn = d2 := by omega
    have k := k3 h0 ht dn w2 f rfl hw2 hn2 hf
    unfold gOff at k
    have hlt : ∀ x ∈ offL p f (gP l there l.length), x < (gI there l.length).length := fun x hx => by have := off_mem hx; rwa [gP_len] at this
    have hol := rng_len (offB p f (gP l there l.length)) (gP l there l.length).length
    have hol2 : (offL p f (gP l there l.length)).length ≤ 64 := by unfold offL; omega
    generalize offL p f (gP l there l.length) = o at *
    rw [ints_len]
    refine LoopQ.rangeS o.length (fun i s => s = ints ((o.take i).map (gAt l there) ++ o.drop i)) (by simp) (by omega) ?_ ?_
    · rintro i _ next2 hi rfl hnx2
      dsimp only
      obtain ⟨x, hx⟩ := get_some hi
      have hxl := hlt x (mem_get hx)
      have g1 : (ints ((o.take i).map (gAt l there) ++ o.drop i))[i]? = some (x : Int) := by
        refine ints_get ?_
        rw [List.getElem?_append_right (by simp; omega)]
        simp only [List.length_map, List.length_take, Nat.min_eq_left (Nat.le_of_lt hi), Nat.sub_self, List.getElem?_drop, Nat.add_zero]
        exact hx
      refine ctd (by omega) ⟨by omega, by omega, _, g1, by omega, by rw [ints_len]; omega, _, gAt_get hxl, by omega, by omega, hnx2 _ ?_⟩
      simp only [toNat_c]
      unfold ints
      rw [← List.map_set]
      congr 1
      apply List.ext_getElem?
      intro j
      rw [List.getElem?_set]
      simp only [List.length_append, List.length_map, List.length_take, List.length_drop]
      rcases Nat.lt_trichotomy j i with h1 | h1 | h1
      · rw [if_neg (by omega), List.getElem?_append_left (by simp; omega), List.getElem?_append_left (by simp; omega), List.getElem?_map, List.getElem?_map, List.getElem?_take_of_lt h1, List.getElem?_take_of_lt (by omega)]
      · subst h1
        rw [if_pos rfl, if_pos (by omega), List.getElem?_append_left (by simp; omega), List.getElem?_map, List.getElem?_take_of_lt (by omega), hx]; rfl
      · rw [if_neg (by omega), List.getElem?_append_right (by simp; omega), List.getElem?_append_right (by simp; omega), List.getElem?_drop, List.getElem?_drop]
        simp only [List.length_map, List.length_take]
        congr 1; omega
    · rintro _ next2 rfl
      refine cfd (by dsimp only; omega) ?_
      dsimp only
      rw [List.take_length, List.drop_of_length_le (Nat.le_refl _), List.append_nil]; exact k
theorem DecodeGaps_c {p : Nat} {d : Int} {q : TSome} (hl : q.Points.length ≤ 17592186044416) : juntolaw05_DecodeGaps.C p d q fun b => b = true := by
  refine juntolaw05_DecodeGaps.q (decode_Gaps_c hl ?_ ?_ ?_ ?_ ?_)
  · intro h0
    exact juntoref05_Check_c hl (cf (beq_f h0) (ct (bne_t h0) (told_bad_c rfl rfl rfl (ct rfl (alive05_c rfl)))))
  · intro h0 ht
    exact juntoref05_Check_c hl (ct (beq_t h0) (ct (bne_t (by omega)) (ct rfl (told_bad_c rfl rfl rfl (ct rfl (alive05_c rfl))))))
  · intro h0 ht hm
    obtain ⟨hp, hP, hll, dn, rfl, hdl⟩ := checkD_ok h0
    exact juntoref05_Check_c hl (ct (beq_t h0) (cf (bne_f (by omega)) (cf (bne_f h0) (juntoref05_There_c hll ht (juntoref05_Most_c (ctd hm (told_bad_c rfl rfl rfl (ct rfl (alive05_c rfl)))))))))
  · intro h0 ht dn wn f hd hw hn hf
    obtain ⟨hp, hP, hll, _, _, _⟩ := checkD_ok h0
    have hp3 := hp.1
    have hsub := gP_sub q.Points q.There q.Points.length (Nat.le_refl _)
    rw [List.take_length] at hsub
    have hgl := hsub.length_le
    obtain ⟨_, hgP, _, _⟩ := checkD_ok (check_sub h0 hsub)
    have hfl := hf.len
    refine juntoref05_Check_c hl (ct (beq_t h0) (cf (bne_f (by omega)) (cf (bne_f h0) (juntoref05_There_c hll ht (juntoref05_Most_c ?_)))))
    rw [hw]
    subst hd
    refine cfd (by omega) (juntoref05_Decode_c hp hgP (by omega) hn (fun g hg => ?_) fun hno => (hno f hf).elim)
    obtain rfl := hf.uniq hp hgP hn hg
    have hlt : ∀ x ∈ offL p f (gP q.Points q.There q.Points.length), x < (gI q.There q.Points.length).length := fun x hx => by have := off_mem hx; rwa [gP_len] at this
    have hol := rng_len (offB p f (gP q.Points q.There q.Points.length)) (gP q.Points q.There q.Points.length).length
    have hol2 : (offL p f (gP q.Points q.There q.Points.length)).length ≤ 64 := by unfold offL; omega
    refine cf rfl (juntoref05_Off_c (by omega) hp.2.1 hf.lt (by omega) (fun r hr => (hgP.1 r hr).1) (by omega) ?_)
    unfold gOff
    generalize offL p f (gP q.Points q.There q.Points.length) = o at *
    rw [ints_len]
    refine LoopQ.upto o.length (fun i t => t = (ints ((o.take i).map (gAt q.Points q.There)), (i : Int))) rfl ?_
    rintro i _ next2 hi rfl hnx2
    dsimp only
    by_cases h : i < o.length
    · obtain ⟨x, hx⟩ := get_some h
      have hxl := hlt x (mem_get hx)
      refine ctd (by omega) ⟨by omega, by omega, _, ints_get hx, by omega, by rw [ints_len]; omega, _, gAt_get hxl, AppOk.of (by rw [List.length_append, ints_len]; simp; omega), hnx2 h _ ?_⟩
      rw [List.take_add_one, hx, wsucc (by omega)]
      simp [ints]
    · obtain rfl : i = o.length := by omega
      refine cfd (by omega) (ct rfl (juntoref01_Same_c (by omega) ?_))
      rw [decide_eq_true rfl, List.take_length]
      refine ct rfl (juntolaw05_ints_c (by rw [ints_len]; simp; omega) ?_)
      exact decide_eq_true rfl
  · intro h0 ht dn wn hd hw hn hno
    obtain ⟨hp, hP, hll, _, _, _⟩ := checkD_ok h0
    have hsub := gP_sub q.Points q.There q.Points.length (Nat.le_refl _)
    rw [List.take_length] at hsub
    have hgl := hsub.length_le
    obtain ⟨_, hgP, _, _⟩ := checkD_ok (check_sub h0 hsub)
    refine juntoref05_Check_c hl (ct (beq_t h0) (cf (bne_f (by omega)) (cf (bne_f h0) (juntoref05_There_c hll ht (juntoref05_Most_c ?_)))))
    rw [hw]
    subst hd
    refine cfd (by omega) (juntoref05_Decode_c hp hgP (by omega) hn (fun g hg => (hno g hg).elim) fun _ => ?_)
    exact ct rfl (told_bad_c rfl rfl rfl (ct rfl (alive05_c rfl)))
end Go.Proofs.Ytlhcaangdenoaaa.Pl
