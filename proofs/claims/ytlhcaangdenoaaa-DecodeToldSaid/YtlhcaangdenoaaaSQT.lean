import Derived.Test.YtlhcaangdenoaaaSQS
import Derived.Test.YtlhcaangdenoaaaSFnDecodeChecks
import Derived.Test.YtlhcaangdenoaaaSFnDecodeMost
import Derived.Test.YtlhcaangdenoaaaSFnDecodeDecodes
import Derived.Test.YtlhcaangdenoaaaSFnDecodeBest
import Derived.Test.YtlhcaangdenoaaaSFnDecodeTold
import Derived.Test.YtlhcaangdenoaaaSFnDecodeOne
namespace Go.Lf
end Go.Lf
namespace Go.Proofs.Ytlhcaangdenoaaa.Sh
end Go.Proofs.Ytlhcaangdenoaaa.Sh
namespace Go.Proofs.Ytlhcaangdenoaaa.Sp
end Go.Proofs.Ytlhcaangdenoaaa.Sp
namespace Go.Sx
end Go.Sx
set_option linter.unusedVariables false
set_option linter.unusedSimpArgs false
namespace Go.Proofs.Ytlhcaangdenoaaa.Pl
open Go.Sx Go.Lf Go.Proofs.Ytlhcaangdenoaaa.Sh Go.Proofs.Ytlhcaangdenoaaa.Sp
def mostC (n d : Int) : Int := if d < 0 ∨ n < 0 ∨ d ≥ n then -1 else IntKind.i64.wrap (Int.tdiv (IntKind.i64.wrap (IntKind.i64.wrap (n - d) - 1)) 2)
theorem decode_Most_c {n d : Int} {K : Int → Prop} (k : K (mostC n d)) : decode_Most.C n d K := by
  apply decode_Most.q
  unfold decode_Most.Q
  unfold mostC at k
  by_cases h1 : d < 0
  · rw [if_pos (.inl h1)] at k; exact ctd h1 k
  refine cfd h1 ?_
  by_cases h2 : n < 0
  · rw [if_pos (.inr (.inl h2))] at k; exact ctd h2 k
  refine cfd h2 ?_
  by_cases h3 : d ≥ n
  · rw [if_pos (.inr (.inr h3))] at k; exact ctd h3 k
  rw [if_neg (by omega)] at k
  exact cfd h3 ⟨by decide, k⟩
theorem juntoref05_Most_c {n d : Int} {K : Int → Prop} (k : K (mostC n d)) : juntoref05_Most.C n d K := by
  apply juntoref05_Most.q
  unfold juntoref05_Most.Q
  unfold mostC at k
  by_cases h2 : n < 0
  · rw [if_pos (.inr (.inl h2))] at k; exact ctd h2 k
  refine cfd h2 ?_
  by_cases h1 : d < 0
  · rw [if_pos (.inl h1)] at k; exact ctd h1 k
  refine cfd h1 ?_
  by_cases h3 : d ≥ n
  · rw [if_pos (.inr (.inr h3))] at k; exact ctd h3 k
  rw [if_neg (by omega)] at k
  exact cfd h3 ⟨by decide, k⟩
theorem mostC_hi {n d : Nat} (h : n ≤ d) : mostC n d = -1 := by unfold mostC; rw [if_pos (by omega)]
theorem mostC_lo {n d : Nat} (h : d < n) (hn : n ≤ 100000) : mostC n d = ((n - d - 1) / 2 : Nat) := by
  unfold mostC
  rw [if_neg (by omega), subw (by omega) (by omega), subw1 (by omega) (by omega)]
  rw [show Int.tdiv ((n - d - 1 : Nat) : Int) 2 = (((n - d - 1) / 2 : Nat) : Int) from rfl, wi64 (by omega) (by omega)]
theorem mostC_ge {n d w : Nat} (hn : n ≤ 100000) (h : ¬ mostC n d < (w : Int)) : d + 1 + 2 * w ≤ n := by
  by_cases h1 : d < n
  · rw [mostC_lo h1 hn] at h; omega
  · rw [mostC_hi (by omega)] at h; omega
theorem mostC_few {n d w : Nat} (hn : n ≤ 100000) (h : mostC n d < (w : Int)) : ¬ d + 1 + 2 * w ≤ n := by
  by_cases h1 : d < n
  · rw [mostC_lo h1 hn] at h; omega
  · omega
open Classical in
theorem juntoref02_Points_c {p : Nat} {l : List TPoint} (hl : l.length ≤ 17592186044416) {K : Int → Prop} (k : K (if 64 < l.length then 3 else if Low p l then if (l.map (·.X)).Nodup then 0 else 6 else 2)) : juntoref02_Points.C p l 64 K := by
  apply juntoref02_Points.q
  unfold juntoref02_Points.Q
  by_cases h : 64 < l.length
  · rw [if_pos h] at k; exact ctd (by omega) k
  rw [if_neg h] at k
  refine cfd (by omega) ?_
  refine LoopQ.upto l.length (fun i t => t = ((l.take i).map (·.X), (i : Int)) ∧ ∀ q ∈ l.take i, q.X < p ∧ q.Y < p) ⟨rfl, fun q hq => by simp at hq⟩ ?_
  rintro i _ next hi ⟨rfl, hlow⟩ hnx
  dsimp only
  by_cases h2 : i < l.length
  · obtain ⟨q, hq⟩ := get_some h2
    refine ctd (by omega) ⟨by omega, q, hq, ?_⟩
    by_cases hx : p ≤ q.X
    · rw [if_neg (fun h => by have := (h q (mem_get hq)).1; omega)] at k
      exact ctd (by omega) k
    refine cfd (by omega) ?_
    by_cases hy : p ≤ q.Y
    · rw [if_neg (fun h => by have := (h q (mem_get hq)).2; omega)] at k
      exact ctd (by omega) k
    refine cfd (by omega) ⟨AppOk.of (by simp; omega), hnx h2 _ ⟨?_, fun r hr => ?_⟩⟩
    · rw [List.take_add_one, hq, wsucc (by omega)]; simp
    · rw [List.take_add_one, hq] at hr
      rcases List.mem_append.1 hr with hr | hr
      · exact hlow r hr
      · simp at hr; subst hr; omega
  · obtain rfl : i = l.length := by omega
    rw [List.take_length] at hlow ⊢
    rw [if_pos (show Low p l from hlow)] at k
    refine cfd (by omega) (juntoref02_Twice_c (by simp; omega) ?_)
    by_cases hn : (l.map (·.X)).Nodup
    · rw [if_pos hn] at k
      rw [decide_eq_false (fun h => h hn)]; exact k
    · rw [if_neg hn] at k
      rw [decide_eq_true hn]; exact k
open Classical in
theorem juntoref05_Check_c {p : Nat} {d : Int} {l : List TPoint} (hl : l.length ≤ 17592186044416) {K : Int → Prop} (k : K (checkD p d l)) : juntoref05_Check.C p d l K := by
  refine juntoref05_Check.q (juntoref01_Is_c ?_)
  unfold checkD at k
  by_cases hp : ¬ isP p
  · rw [if_neg (fun h => hp h.1)] at k
    rw [prm_f hp]
    exact ct rfl k
  replace hp := Classical.not_not.1 hp
  rw [prm_t hp]
  refine cf rfl ?_
  by_cases h1 : d < 0
  · rw [if_neg (fun h => by omega)] at k; exact ctd h1 k
  refine cfd h1 ?_
  by_cases h2 : d > 63
  · rw [if_neg (fun h => by omega)] at k; exact ctd h2 k
  refine cfd h2 ?_
  rw [if_pos ⟨hp, by omega, by omega⟩] at k
  exact juntoref02_Points_c hl k
inductive DecO (p : Nat) (d w : Int) (l : List TPoint) : List Nat → List Int → Int → Prop
  | check (h : checkD p d l ≠ 0) : DecO p d w l [] [] (checkD p d l)
  | neg (h : checkD p d l = 0) (hw : w < 0) : DecO p d w l [] [] 2
  | few (h : checkD p d l = 0) (hw : 0 ≤ w) (hm : mostC l.length d < w) : DecO p d w l [] [] 11
  | ok (h : checkD p d l = 0) (dn wn : Nat) (hd : d = dn) (hw : w = wn) (hn : dn + 1 + 2 * wn ≤ l.length) (f : List Nat) (hf : Dec p dn wn l f) : DecO p d w l f (ints (offL p f l)) 0
  | bad (h : checkD p d l = 0) (dn wn : Nat) (hd : d = dn) (hw : w = wn) (hn : dn + 1 + 2 * wn ≤ l.length) (hf : ∀ f, ¬ Dec p dn wn l f) : DecO p d w l [] [] 12
theorem decode_Decode_c {p : Nat} {d w : Int} {l : List TPoint} (hl : l.length ≤ 17592186044416) {K : List Nat → List Int → Int → Prop} (k : ∀ f a e, DecO p d w l f a e → K f a e) : decode_Decode.C p d w l K := by
  refine decode_Decode.q (decode_Check_c hl ?_)
  by_cases h0 : checkD p d l = 0
  rotate_left
  · exact ct (bne_t h0) (k _ _ _ (.check h0))
  refine cf (bne_f h0) (decode_Most_c ?_)
  obtain ⟨hp, hP, hll, dn, hd, hdl⟩ := checkD_ok h0
  by_cases h1 : w < 0
  · exact ctd h1 (k _ _ _ (.neg h0 h1))
  refine cfd h1 ?_
  by_cases h2 : w > mostC l.length d
  · exact ctd h2 (k _ _ _ (.few h0 (by omega) h2))
  refine cfd h2 ?_
  obtain ⟨wn, rfl⟩ := Int.eq_ofNat_of_zero_le (show 0 ≤ w by omega)
  subst hd
  have hn := mostC_ge (w := wn) (by omega) (by omega : ¬ mostC l.length dn < (wn : Int))
  refine decode_Find_c hp hP hll hn ?_ ?_
  · intro f hf
    exact cf rfl (k _ _ _ (.ok h0 dn wn rfl rfl hn f hf))
  · intro hno f a
    exact ct rfl (k _ _ _ (.bad h0 dn wn rfl rfl hn hno))
theorem decode_Best_c {p : Nat} {d : Int} {l : List TPoint} (hl : l.length ≤ 17592186044416) {K : List Nat → List Int → Int → Prop} (k : ∀ f a e, (checkD p d l = 0 → mostC l.length d < 0 → f = [] ∧ a = [] ∧ e = 11) → (checkD p d l ≠ 0 ∨ ¬ mostC l.length d < 0 → DecO p d (mostC l.length d) l f a e) → K f a e) : decode_Best.C p d l K := by
  refine decode_Best.q (decode_Check_c hl ?_)
  by_cases h0 : checkD p d l = 0
  rotate_left
  · exact ct (bne_t h0) (k _ _ _ (fun h => (h0 h).elim) fun _ => .check h0)
  refine cf (bne_f h0) (decode_Most_c ?_)
  by_cases h1 : mostC l.length d < 0
  · refine ctd h1 (k _ _ _ (fun _ _ => ⟨rfl, rfl, rfl⟩) ?_)
    rintro (h | h)
    · exact (h h0).elim
    · exact (h h1).elim
  · exact cfd h1 (decode_Decode_c hl fun f a e h => k f a e (fun _ h => (h1 h).elim) fun _ => h)
theorem isP11 : isP 11 := ⟨by decide, by decide, fun d h2 hd => by
  have : d = 2 ∨ d = 3 := by
    rcases Nat.lt_or_ge d 4 with h | h
    · omega
    · have := Nat.mul_le_mul h h; omega
  rcases this with rfl | rfl <;> decide⟩
def exl : List TPoint := [⟨1, 7⟩, ⟨2, 10⟩, ⟨3, 2⟩, ⟨4, 0⟩, ⟨5, 8⟩]
theorem exl_off : offL 11 [4, 3] exl = [3] := by decide
theorem exl_dec : Dec 11 1 1 exl [4, 3] := ⟨by decide, by decide, by decide, by rw [exl_off]; decide⟩
open Classical in
theorem exl_check : checkD 11 1 exl = 0 := by
  unfold checkD
  rw [if_pos ⟨isP11, by decide, by decide⟩, if_neg (by decide), if_pos (show Low 11 exl by unfold Low exl; decide), if_pos (by decide)]
theorem exl_most : mostC exl.length 1 = 1 := by decide
theorem juntolaw05_ints_c {a b : List Int} (ha : a.length ≤ 17592186044416) {K : Bool → Prop} (k : K (decide (a = b))) : juntolaw05_ints.C a b K := by
  apply juntolaw05_ints.q
  unfold juntolaw05_ints.Q
  by_cases hlen : a.length = b.length
  · refine cf (bne_f (by omega)) ?_
    refine LoopQ.range a.length (fun k => ∀ j, j < k → a[j]? = b[j]?) (fun j hj => by omega) (by omega) ?_ ?_
    · intro n next hk hI hn
      obtain ⟨u, hu⟩ := get_some hk
      obtain ⟨v, hv⟩ := get_some (show n < b.length by omega)
      refine ctd (by omega) ⟨by omega, u, hu, by omega, v, hv, ?_⟩
      by_cases huv : u = v
      · refine cf (bne_f huv) (hn fun j hj => ?_)
        rcases Nat.lt_or_ge j n with h' | h'
        · exact hI j h'
        · obtain rfl : j = n := by omega
          rw [hu, hv, huv]
      · refine ct (bne_t huv) ?_
        rw [decide_eq_false (fun h => huv (by rw [h, hv] at hu; cases hu; rfl))] at k; exact k
    · intro next hI
      refine cfd (by omega) ?_
      rw [decide_eq_true] at k
      · exact k
      · apply List.ext_getElem?
        intro j
        rcases Nat.lt_or_ge j a.length with h' | h'
        · exact hI j h'
        · rw [List.getElem?_eq_none h', List.getElem?_eq_none (by omega)]
  · refine ct (bne_t (by omega)) ?_
    rw [decide_eq_false (fun h => hlen (by rw [h]))] at k; exact k
theorem alive05_c {K : Bool → Prop} (k : K true) : juntolaw05_alive.C K := by
  refine juntolaw05_alive.q ?_
  show decode_Best.C 11 1 exl _
  refine decode_Best_c (by decide) fun f a e _ h => ?_
  replace h := h (.inr (by rw [exl_most]; decide))
  rw [exl_most] at h
  cases h with
  | check h => exact (h exl_check).elim
  | neg h hw => exact absurd hw (by decide)
  | few h hw hm => rw [exl_most] at hm; exact absurd hm (by decide)
  | ok h dn wn hd hw hn f hf =>
    obtain rfl : dn = 1 := by omega
    obtain rfl : wn = 1 := by omega
    obtain ⟨hp, hP, _⟩ := checkD_ok exl_check
    obtain rfl := hf.uniq hp hP hn exl_dec
    rw [exl_off]
    refine ct rfl (juntoref01_Same_c (by decide) (ct (by decide) (juntolaw05_ints_c (by decide) (ct (by decide) (decode_Most_c ?_)))))
    exact k
  | bad h dn wn hd hw hn hf =>
    obtain rfl : dn = 1 := by omega
    obtain rfl : wn = 1 := by omega
    exact (hf _ exl_dec).elim
theorem told_bad_c {f : List Nat} {a : List Int} {e e' : Int} {K : Bool → Prop} (hf : f = []) (ha : a = []) (he : e = e') (k : K true) : juntolaw05_told_bad.C ⟨f, a, e⟩ e' K := by
  subst hf; subst ha; subst he
  exact juntolaw05_told_bad.q (ct (beq_t rfl) (ct rfl k))
theorem told_is_c {p d w : Nat} {l : List TPoint} {f : List Nat} {a : List Int} {e : Int} (hp : isP p) (hP : Pts p l) (hll : l.length ≤ 64) (hdl : d ≤ 63) (hn : d + 1 + 2 * w ≤ l.length) (h : DecO p d w l f a e) (h0 : checkD p d l = 0) {K : Bool → Prop} (k : K true) : juntolaw05_told_is.C ⟨f, a, e⟩ p d w l K := by
  have hp3 := hp.1
  refine juntolaw05_told_is.q (juntoref05_Decode_c hp hP hll hn ?_ ?_)
  · intro g hg
    refine cf rfl ?_
    cases h with
    | check h => exact (h h0).elim
    | neg h hw => omega
    | few h hw hm => exact (mostC_few (by omega) hm hn).elim
    | ok h dn wn hd hw hn' f hf =>
      obtain rfl : d = dn := by omega
      obtain rfl : w = wn := by omega
      obtain rfl := hf.uniq hp hP hn hg
      have hfl := hf.len
      have ho := rng_len (offB p f l) l.length
      refine ct rfl (juntoref01_Same_c (by dsimp only; omega) (ct (by simp) (juntoref05_Off_c (by omega) hp.2.1 hf.lt (by omega) (fun q hq => (hP.1 q hq).1) (by omega) (juntolaw05_ints_c ?_ ?_))))
      · dsimp only; rw [ints_len]; unfold offL; omega
      · rw [decide_eq_true rfl]; exact k
    | bad h dn wn hd hw hn' hf =>
      obtain rfl : d = dn := by omega
      obtain rfl : w = wn := by omega
      exact (hf g hg).elim
  · intro hno
    refine ct rfl ?_
    cases h with
    | check h => exact (h h0).elim
    | neg h hw => omega
    | few h hw hm => exact (mostC_few (by omega) hm hn).elim
    | ok h dn wn hd hw hn' f hf =>
      obtain rfl : d = dn := by omega
      obtain rfl : w = wn := by omega
      exact (hno f hf).elim
    | bad h dn wn hd hw hn' hf => exact told_bad_c rfl rfl rfl k
theorem DecodeChecks_c {p : Nat} {d : Int} {l : List TPoint} (hl : l.length ≤ 17592186044416) : juntolaw05_DecodeChecks.C p d l fun b => b = true :=
  juntolaw05_DecodeChecks.q (decode_Check_c hl (juntoref05_Check_c hl (ct (beq_t rfl) (alive05_c rfl))))
theorem DecodeMost_c {n d : Int} : juntolaw05_DecodeMost.C n d fun b => b = true :=
  juntolaw05_DecodeMost.q (decode_Most_c (juntoref05_Most_c (ct (beq_t rfl) (alive05_c rfl))))
theorem few_c {d w : Nat} {l : List TPoint} (hd : d ≤ 63) (hn : l.length ≤ 64) {K : Bool → Prop} (k : K (decide (¬ d + 1 + 2 * w ≤ l.length))) : juntolaw05_few.C d w l K := by
  apply juntolaw05_few.q
  unfold juntolaw05_few.Q
  by_cases h : w ≤ l.length
  · refine cfd (by omega) ?_
    rw [addw1 (by omega), wi64 (x := 2 * (w : Int)) (by omega) (by omega), wi64 (by omega) (by omega)]
    have : (decide (((l.length : Nat) : Int) < ((d + 1 : Nat) : Int) + 2 * (w : Int))) = decide (¬ d + 1 + 2 * w ≤ l.length) := by rw [decide_eq_decide]; omega
    rw [this]; exact k
  · refine ctd (by omega) ?_
    rw [decide_eq_true (by omega)] at k; exact k
theorem DecodeDecodes_c {p : Nat} {q : Int × Int} {l : List TPoint} (hl : l.length ≤ 17592186044416) : juntolaw05_DecodeDecodes.C p q l fun b => b = true := by
  obtain ⟨d, w⟩ := q
  refine juntolaw05_DecodeDecodes.q (decode_Decode_c hl fun f a e h => juntoref05_Check_c hl ?_)
  dsimp only at *
  by_cases h0 : checkD p d l = 0
  rotate_left
  · refine ct (bne_t h0) ?_
    cases h with
    | check h => exact told_bad_c rfl rfl rfl (ct rfl (alive05_c rfl))
    | neg h => exact (h0 h).elim
    | few h => exact (h0 h).elim
    | ok h => exact (h0 h).elim
    | bad h => exact (h0 h).elim
  refine cf (bne_f h0) ?_
  obtain ⟨hp, hP, hll, dn, rfl, hdl⟩ := checkD_ok h0
  by_cases hw : w < 0
  · refine ctd hw ?_
    cases h with
    | check h => exact (h h0).elim
    | neg h => exact told_bad_c rfl rfl rfl (ct rfl (alive05_c rfl))
    | few h h2 => omega
    | ok h _ _ _ _ => omega
    | bad h _ _ _ _ => omega
  refine cfd hw ?_
  obtain ⟨wn, rfl⟩ := Int.eq_ofNat_of_zero_le (show 0 ≤ w by omega)
  refine few_c hdl hll ?_
  by_cases hn : dn + 1 + 2 * wn ≤ l.length
  · rw [decide_eq_false (fun h => h hn)]
    exact cf rfl (told_is_c hp hP hll hdl hn h h0 (ct rfl (alive05_c rfl)))
  · rw [decide_eq_true hn]
    refine ct rfl ?_
    cases h with
    | check h => exact (h h0).elim
    | neg h h2 => omega
    | few h h2 => exact told_bad_c rfl rfl rfl (ct rfl (alive05_c rfl))
    | ok h _ _ _ _ => omega
    | bad h _ _ _ _ => omega
theorem DecodeBest_c {p : Nat} {d : Int} {l : List TPoint} (hl : l.length ≤ 17592186044416) : juntolaw05_DecodeBest.C p d l fun b => b = true := by
  refine juntolaw05_DecodeBest.q (decode_Best_c hl fun f a e hf h => juntoref05_Check_c hl ?_)
  by_cases h0 : checkD p d l = 0
  rotate_left
  · refine cf (beq_f h0) (ct (bne_t h0) ?_)
    replace h := h (.inl h0)
    cases h with
    | check h => exact told_bad_c rfl rfl rfl (ct rfl (alive05_c rfl))
    | neg h => exact (h0 h).elim
    | few h => exact (h0 h).elim
    | ok h => exact (h0 h).elim
    | bad h => exact (h0 h).elim
  obtain ⟨hp, hP, hll, dn, rfl, hdl⟩ := checkD_ok h0
  refine ct (beq_t h0) (juntoref05_Most_c ?_)
  by_cases hm : mostC l.length dn < 0
  · obtain ⟨rfl, rfl, rfl⟩ := hf h0 hm
    exact ctd hm (ct rfl (told_bad_c rfl rfl rfl (ct rfl (alive05_c rfl))))
  · refine cfd hm (cf (bne_f h0) (juntoref05_Most_c ?_))
    replace h := h (.inr hm)
    obtain ⟨wn, hw⟩ := Int.eq_ofNat_of_zero_le (show 0 ≤ mostC l.length dn by omega)
    have hn := mostC_ge (n := l.length) (d := dn) (w := wn) (by omega) (by omega)
    rw [hw] at h ⊢
    exact told_is_c hp hP hll hdl hn h h0 rfl
theorem DecodeTold_c {p : Nat} {d : Int} {l : List TPoint} (hl : l.length ≤ 17592186044416) : juntolaw05_DecodeTold.C p d l fun b => b = true := by
  refine juntolaw05_DecodeTold.q (decode_Best_c hl fun f a e hf h => ?_)
  by_cases h0 : checkD p d l = 0
  rotate_left
  · replace h := h (.inl h0)
    cases h with
    | check h => exact ct (bne_t h0) (ct rfl (ct rfl (alive05_c rfl)))
    | neg h => exact (h0 h).elim
    | few h => exact (h0 h).elim
    | ok h => exact (h0 h).elim
    | bad h => exact (h0 h).elim
  obtain ⟨hp, hP, hll, dn, rfl, hdl⟩ := checkD_ok h0
  by_cases hm : mostC l.length dn < 0
  · obtain ⟨rfl, rfl, rfl⟩ := hf h0 hm
    exact ct rfl (ct rfl (ct rfl (alive05_c rfl)))
  have hp3 := hp.1
  replace h := h (.inr hm)
  cases h with
  | check h => exact (h h0).elim
  | neg h h2 => exact (hm h2).elim
  | few h h2 h3 => omega
  | bad h => exact ct rfl (ct rfl (ct rfl (alive05_c rfl)))
  | ok h d2 wn hd hw hn f hf =>
    obtain rfl : dn = d2 := by omega
    have hfl := hf.len
    have hfo := hf.off
    refine cf rfl ?_
    rw [addw1 (by omega)]
    refine ctd (by omega) (juntoref05_Most_c ?_)
    rw [hw, ints_len]
    refine ctd (by omega) (juntoref05_Off_c (by omega) hp.2.1 hf.lt (by omega) (fun q hq => (hP.1 q hq).1) (by omega) (juntolaw05_ints_c (by rw [ints_len]; omega) ?_))
    rw [decide_eq_true rfl]
    exact ct rfl (alive05_c rfl)
theorem DecodeOne_c {p : Nat} {q : Int × Int × Int} {l : List TPoint} (hl : l.length ≤ 17592186044416) : juntolaw05_DecodeOne.C p q l fun b => b = true := by
  obtain ⟨d, u, v⟩ := q
  refine juntolaw05_DecodeOne.q ?_
  unfold juntolaw05_DecodeOne.Q
  dsimp only
  by_cases huv : u > v
  · exact ctd huv (alive05_c rfl)
  refine cfd huv (decode_Decode_c hl fun f a e h => decode_Decode_c hl fun g b e' h' => ?_)
  have far : e' ≠ 0 → ∀ {A B : Prop}, A → cond (e' != 0) A B := fun h _ _ a => ct (bne_t h) a
  by_cases he' : e' = 0
  rotate_left
  · by_cases he : e = 0
    · refine cf (bne_f he) (far he' ?_)
      exact ct (bne_t (by omega)) (alive05_c rfl)
    · refine ct (bne_t he) ?_
      by_cases h12 : e = 12
      · exact cf (bne_f h12) (far he' (alive05_c rfl))
      · exact ct (bne_t h12) (alive05_c rfl)
  cases h' with
  | check h => exact (h he').elim
  | neg => cases he'
  | few => cases he'
  | bad => cases he'
  | ok h0 dn vn hd hv hn g hg =>
    subst hd; subst hv
    obtain ⟨hp, hP, hll, _⟩ := checkD_ok h0
    cases h with
    | check h => exact (h h0).elim
    | neg => exact ct rfl (ct rfl (alive05_c rfl))
    | few => exact ct rfl (ct rfl (alive05_c rfl))
    | bad h0 d2 un hd hu hn' hno =>
      obtain rfl : dn = d2 := by omega
      subst hu
      refine ct rfl (cf rfl (cf rfl (ctd ?_ (alive05_c rfl))))
      rw [ints_len]
      have : ¬ (offL p g l).length ≤ un := fun h => hno g ⟨hg.lt, hg.len, hg.tidy, h⟩
      omega
    | ok h0 d2 un hd hu hn' f hf =>
      obtain rfl : dn = d2 := by omega
      subst hu
      obtain rfl := (hf.mono (show un ≤ vn by omega)).uniq hp hP hn hg
      have hfl := hf.len
      have hfo := hf.off
      refine cf rfl (cf rfl (juntoref01_Same_c (by omega) ?_))
      rw [decide_eq_true rfl]
      refine ct rfl (juntolaw05_ints_c (by rw [ints_len]; omega) ?_)
      rw [decide_eq_true rfl]
      exact ct rfl (ct rfl (alive05_c rfl))
end Go.Proofs.Ytlhcaangdenoaaa.Pl
