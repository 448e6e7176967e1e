import Derived.Test.YtlhcaangdenoaaaSQP
import Derived.Test.YtlhcaangdenoaaaSQ6f
namespace Go.Lf
end Go.Lf
namespace Go.Proofs.Ytlhcaangdenoaaa.Sh
end Go.Proofs.Ytlhcaangdenoaaa.Sh
namespace Go.Proofs.Ytlhcaangdenoaaa.Sp
end Go.Proofs.Ytlhcaangdenoaaa.Sp
namespace Go.Sx
end Go.Sx
set_option linter.unusedVariables false
set_option linter.unusedSimpArgs false
namespace Go.Proofs.Ytlhcaangdenoaaa.Pl
open Go.Sx Go.Lf Go.Proofs.Ytlhcaangdenoaaa.Sh Go.Proofs.Ytlhcaangdenoaaa.Sp
theorem mulP_nil (p : Nat) (g : List Nat) : mulP p [] g = [] := by
  unfold mulP
  have : tab (([] : List Nat).length + g.length) (cv p [] g) = [] ++ List.replicate (([] : List Nat).length + g.length) 0 := by
    rw [tab_rep]; exact tab_ext fun i _ => rfl
  rw [this, short_zeros]; rfl
def mx (a b : Nat) : Nat := if b > a then b else a
def addP (p : Nat) (f g : List Nat) : List Nat := short (tab (mx f.length g.length) fun i => fadd p (zat f i) (zat g i))
theorem mx_int (a b : Nat) : (if (b : Int) > (a : Int) then (b : Int) else (a : Int)) = ((mx a b : Nat) : Int) := by
  unfold mx; split <;> split <;> omega
theorem mx_le (a b : Nat) : a ≤ mx a b ∧ b ≤ mx a b := by unfold mx; split <;> omega
theorem mx_lub {a b c : Nat} (h : a ≤ c) (h2 : b ≤ c) : mx a b ≤ c := by unfold mx; split <;> omega
theorem zat_get {f : List Nat} {i x : Nat} (h : f[i]? = some x) : zat f i = x := by unfold zat; rw [h]; rfl
theorem zat_none {f : List Nat} {i : Nat} (h : f.length ≤ i) : zat f i = 0 := by unfold zat; rw [List.getElem?_eq_none h]; rfl
theorem juntoref02_at_c {f : List Nat} (i : Nat) {K : Nat → Prop} (k : K (zat f i)) : juntoref02_at.C f i K := by
  apply juntoref02_at.q
  unfold juntoref02_at.Q
  by_cases h : i < f.length
  · obtain ⟨x, hx⟩ := get_some h
    rw [zat_get hx] at k
    exact ctd (by omega) ⟨by omega, x, hx, k⟩
  · rw [zat_none (by omega)] at k
    exact cfd (by omega) k
theorem juntoref02_Add_c {p : Nat} (hp0 : 0 < p) (hp : p ≤ 65537) {f g : List Nat} (hf : ∀ x ∈ f, x < p) (hg : ∀ x ∈ g, x < p) (hfl : f.length ≤ 100000) (hgl : g.length ≤ 100000) {K : List Nat → Prop} (k : K (addP p f g)) : juntoref02_Add.C p f g K := by
  apply juntoref02_Add.q
  unfold juntoref02_Add.Q
  rw [mx_int, toNat_c]
  have h1 := mx_le f.length g.length
  have h2 : mx f.length g.length ≤ 100000 := mx_lub hfl hgl
  refine ⟨MakeOk.of (by omega) (by omega), ?_⟩
  rw [tab_rep]
  unfold addP at k
  generalize mx f.length g.length = n at *
  refine LoopQ.rangeS n (fun i s => s = tab n fun a => if a < i then fadd p (zat f a) (zat g a) else 0) (tab_ext fun a _ => by simp) (by omega) ?_ ?_
  · rintro i _ next hi rfl hnx
    dsimp only
    refine ctd (by omega) (juntoref02_at_c i (juntoref02_at_c i (juntoref01_Add_c hp0 hp (zat_lt hp0 hf _) (zat_lt hp0 hg _) ⟨by omega, by omega, hnx _ ?_⟩)))
    simp only [toNat_c]
    rw [tab_set]
    refine tab_ext fun a ha => ?_
    by_cases hai : a = i
    · subst hai; rw [if_pos rfl, if_pos (by omega)]
    · rw [if_neg hai]
      by_cases hlt : a < i
      · rw [if_pos hlt, if_pos (by omega)]
      · rw [if_neg hlt, if_neg (by omega)]
  · rintro _ next rfl
    refine cfd (by dsimp only; omega) (juntoref02_Trim_c (by simp [tab_len]; omega) ?_)
    dsimp only
    rw [tab_ext (g' := fun i => fadd p (zat f i) (zat g i)) fun a ha => by rw [if_pos ha]]; exact k
def scaleP (p : Nat) (f : List Nat) (c : Nat) : List Nat := short (tab f.length fun i => fmul p (zat f i) c)
theorem juntoref02_Scale_c {p c : Nat} (hp0 : 0 < p) (hp : p ≤ 65537) {f : List Nat} (hf : ∀ x ∈ f, x < p) (hc : c < p) (hfl : f.length ≤ 100000) {K : List Nat → Prop} (k : K (scaleP p f c)) : juntoref02_Scale.C p f c K := by
  refine juntoref02_Scale.q ⟨MakeOk.of (by omega) (by omega), ?_⟩
  rw [tab_rep]
  refine LoopQ.rangeS f.length (fun i s => s = tab f.length fun a => if a < i then fmul p (zat f a) c else 0) (tab_ext fun a _ => by simp) (by omega) ?_ ?_
  · rintro i _ next hi rfl hnx
    dsimp only
    obtain ⟨x, hx⟩ := get_some hi
    refine ctd (by omega) ⟨by omega, x, hx, juntoref01_Mul_c hp0 hp (hf x (mem_get hx)) hc ⟨by omega, by omega, hnx _ ?_⟩⟩
    simp only [toNat_c]
    rw [tab_set]
    refine tab_ext fun a ha => ?_
    by_cases hai : a = i
    · subst hai; rw [if_pos rfl, if_pos (by omega), zat_get hx]
    · rw [if_neg hai]
      by_cases hlt : a < i
      · rw [if_pos hlt, if_pos (by omega)]
      · rw [if_neg hlt, if_neg (by omega)]
  · rintro _ next rfl
    refine cfd (by dsimp only; omega) (juntoref02_Trim_c (by simp [tab_len]; omega) ?_)
    dsimp only
    rw [tab_ext (g' := fun i => fmul p (zat f i) c) fun a ha => by rw [if_pos ha]]; exact k
theorem addP_lt {p : Nat} (hp : 0 < p) {f g : List Nat} {a : Nat} (h : a ∈ addP p f g) : a < p := by obtain ⟨i, _, rfl⟩ := tab_mem (short_mem h); exact fadd_lt hp _ _
theorem addP_len (p : Nat) (f g : List Nat) : (addP p f g).length ≤ mx f.length g.length := by
  have := short_len (tab (mx f.length g.length) fun i => fadd p (zat f i) (zat g i)); rw [tab_len] at this; exact this
theorem scaleP_lt {p c : Nat} (hp : 0 < p) {f : List Nat} {a : Nat} (h : a ∈ scaleP p f c) : a < p := by obtain ⟨i, _, rfl⟩ := tab_mem (short_mem h); exact fmul_lt hp _ _
theorem scaleP_len (p c : Nat) (f : List Nat) : (scaleP p f c).length ≤ f.length := by
  have := short_len (tab f.length fun i => fmul p (zat f i) c); rw [tab_len] at this; exact this
theorem short_short (f : List Nat) : short (short f) = short f := by
  unfold short
  rw [List.reverse_reverse]
  congr 1
  generalize f.reverse = l
  induction l with
  | nil => rfl
  | cons a l ih =>
    rw [List.dropWhile_cons]
    by_cases h : (a == 0) = true
    · rw [if_pos h]; exact ih
    · rw [if_neg h, List.dropWhile_cons, if_neg h]
section
variable {p : Nat} [NeZero p]
theorem pv_short (f : List Nat) (x : Fin p) : pv p (short f) x = pv p f x := by
  obtain ⟨m, hm⟩ := short_split f
  conv => rhs; rw [hm]
  rw [pv_append, pv_zeros]; grind
theorem pv_addP (f g : List Nat) (x : Fin p) : pv p (addP p f g) x = pv p f x + pv p g x := by
  unfold addP
  have h := mx_le f.length g.length
  rw [pv_short, pv_tab, ← pv_zat f h.1, ← pv_zat g h.2, ← S_add]
  exact S_ext fun i _ => by rw [cz_fadd]; grind
theorem pv_scaleP (f : List Nat) (c : Nat) (x : Fin p) : pv p (scaleP p f c) x = pv p f x * cz p c := by
  unfold scaleP
  rw [pv_short, pv_tab, ← pv_zat f (Nat.le_refl _)]
  have : S (fun i => cz p (fmul p (zat f i) c) * x ^ i) f.length = S (fun i => cz p c * (cz p (zat f i) * x ^ i)) f.length := S_ext fun i _ => by rw [cz_fmul]; grind
  rw [this, S_mul]; grind
theorem pv_lin {x : Nat} (hx : x ≤ p) (z : Fin p) : pv p [fsub p 0 x, 1] z = z - cz p x := by
  rw [pv_cons, pv_cons, pv_nil, cz_fsub hx, cz_zero, cz_one]; grind
end
def Interp (p : Nat) (l : List TPoint) (f : List Nat) : Prop := (∀ a ∈ f, a < p) ∧ f.length ≤ l.length ∧ short f = f ∧ ∀ [NeZero p], ∀ q ∈ l, pv p f (cz p q.X) = cz p q.Y
def Pts (p : Nat) (l : List TPoint) : Prop := (∀ q ∈ l, q.X < p ∧ q.Y < p) ∧ (l.map (·.X)).Nodup
theorem tab_zat (f : List Nat) {n : Nat} (h : f.length ≤ n) : tab n (zat f) = f ++ List.replicate (n - f.length) 0 := by
  symm
  refine tab_of (by simp; omega) fun i x hx => ?_
  rcases Nat.lt_or_ge i f.length with h' | h'
  · rw [List.getElem?_append_left h'] at hx; exact (zat_get hx).symm
  · rw [zat_none h']
    rw [List.getElem?_append_right h'] at hx
    have := mem_get hx
    simp at this
    exact this.2
theorem Interp.uniq {p : Nat} (hp : isP p) {l : List TPoint} (hl : Pts p l) {f g : List Nat} (hf : Interp p l f) (hg : Interp p l g) : f = g := by
  have hp3 := hp.1
  haveI : NeZero p := ⟨by omega⟩
  obtain ⟨f1, f2, f3, f4⟩ := hf
  obtain ⟨g1, g2, g3, g4⟩ := hg
  have hz := roots_zero hp ((l.map (·.X)).map (cz p)) (tab l.length fun i => cz p (zat f i) - cz p (zat g i)) (cz_nodup hl.2 fun x hx => by
    obtain ⟨q, hq, rfl⟩ := List.mem_map.1 hx; exact (hl.1 q hq).1) (by rw [tab_len]; simp) (fun x hx => by
    obtain ⟨y, hy, rfl⟩ := List.mem_map.1 hx
    obtain ⟨q, hq, rfl⟩ := List.mem_map.1 hy
    rw [pe_tab]
    have e3 : S (fun i => (cz p (zat f i) - cz p (zat g i)) * cz p q.X ^ i) l.length = S (fun i => cz p (zat f i) * cz p q.X ^ i + (-1 : Fin p) * (cz p (zat g i) * cz p q.X ^ i)) l.length := S_ext fun i _ => by grind
    rw [e3, S_add, S_mul, pv_zat f f2, pv_zat g g2, f4 q hq, g4 q hq]; grind)
  have hi : ∀ i, i < l.length → zat f i = zat g i := fun i hi => cz_inj (zat_lt (by omega) f1 i) (zat_lt (by omega) g1 i) (by
    have := hz _ (mem_get (tab_get (fun i => cz p (zat f i) - cz p (zat g i)) hi)); grind)
  have e := tab_ext (n := l.length) hi
  rw [tab_zat f f2, tab_zat g g2] at e
  have := congrArg short e
  rw [short_zeros, short_zeros, f3, g3] at this
  exact this
open Classical in
noncomputable def fitP (p : Nat) (l : List TPoint) : List Nat := if h : ∃ f, Interp p l f then h.choose else []
theorem fitP_of {p : Nat} (hp : isP p) {l : List TPoint} (hl : Pts p l) {f : List Nat} (h : Interp p l f) : fitP p l = f := by
  unfold fitP
  rw [dif_pos ⟨f, h⟩]
  exact (Exists.choose_spec (⟨f, h⟩ : ∃ f, Interp p l f)).uniq hp hl h
end Go.Proofs.Ytlhcaangdenoaaa.Pl
