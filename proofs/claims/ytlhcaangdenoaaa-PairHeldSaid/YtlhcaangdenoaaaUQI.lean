import Derived.Test.YtlhcaangdenoaaaUQP
import Derived.Test.YtlhcaangdenoaaaUQ6f
namespace Go.Lf
end Go.Lf
namespace Go.Proofs.Ytlhcaangdenoaaa.Sh
end Go.Proofs.Ytlhcaangdenoaaa.Sh
namespace Go.Proofs.Ytlhcaangdenoaaa.Sp
end Go.Proofs.Ytlhcaangdenoaaa.Sp
namespace Go.Sx
end Go.Sx
set_option linter.unusedVariables false
set_option linter.unusedSimpArgs false
namespace Go.Proofs.Ytlhcaangdenoaaa.Pl
open Go.Sx Go.Lf Go.Proofs.Ytlhcaangdenoaaa.Sh Go.Proofs.Ytlhcaangdenoaaa.Sp
theorem mulP_nil (p : Nat) (g : List Nat) : mulP p [] g = [] := by
  unfold mulP
  have : tab (([] : List Nat).length + g.length) (cv p [] g) = [] ++ List.replicate (([] : List Nat).length + g.length) 0 := by
    rw [tab_rep]; exact tab_ext fun i _ => rfl
  rw [this, short_zeros]; rfl
theorem poly_Times_c {p : Nat} (hp0 : 0 < p) (hp : p ≤ 65537) {f g : List Nat} (hf : ∀ x ∈ f, x < p) (hg : ∀ x ∈ g, x < p) (hfl : f.length ≤ 100000) (hgl : g.length ≤ 100000) (hg0 : 0 < g.length) {K : List Nat → Prop} (k : K (mulP p f g)) : poly_Times.C p f g K := by
  apply poly_Times.q
  unfold poly_Times.Q
  by_cases h0 : f.length = 0
  · obtain rfl := List.eq_nil_of_length_eq_zero h0
    rw [mulP_nil] at k
    exact ct rfl k
  refine cf (beq_f (by omega)) (cf (beq_f (by omega)) ?_)
  rw [show ((f.length : Nat) : Int) + ((g.length : Nat) : Int) = ((f.length + g.length : Nat) : Int) by omega, wi64 (x := ((f.length + g.length : Nat) : Int)) (by omega) (by omega), show ((f.length + g.length : Nat) : Int) - 1 = ((f.length + g.length - 1 : Nat) : Int) by omega, wi64 (by omega) (by omega), toNat_c]
  refine ⟨MakeOk.of (by omega) (by omega), ?_⟩
  rw [cvP_zero p f g]
  refine LoopQ.rangeS f.length (fun i s => s = tab (f.length + g.length - 1) (cvP p f g i 0)) rfl (by omega) ?_ ?_
  · rintro i _ next hi rfl hnx
    dsimp only
    obtain ⟨x, hx⟩ := get_some hi
    refine ctd (by omega) ⟨by omega, x, hx, LoopQ.rangeS g.length (fun j s => s = tab (f.length + g.length - 1) (cvP p f g i j)) rfl (by omega) ?_ ?_⟩
    · rintro j _ next2 hj rfl hnx2
      dsimp only
      obtain ⟨y, hy⟩ := get_some hj
      rw [show (i : Int) + (j : Int) = ((i + j : Nat) : Int) by omega, wi64 (by omega) (by omega)]
      refine ctd (by omega) ⟨by omega, y, hy, by omega, by omega, _, tab_get _ (show i + j < f.length + g.length - 1 by omega), ?_⟩
      refine field_Times_c hp0 hp (hf x (mem_get hx)) (hg y (mem_get hy)) (field_Plus_c hp (cvP_lt hp0 _ _ _ _ _) (fmul_lt hp0 _ _) ⟨by omega, by omega, hnx2 _ ?_⟩)
      simp only [toNat_c]
      exact cvP_step hx hy _
    · rintro _ next2 rfl
      refine cfd (by dsimp only; omega) (hnx _ ?_)
      exact cvP_row hp0 f g i _
  · rintro _ next rfl
    refine cfd (by dsimp only; omega) (poly_Short_c (by simp [tab_len]; omega) ?_)
    dsimp only
    rw [cvP_all, mulP_eq hp0 f g (by omega) (by omega)]; exact k
def mx (a b : Nat) : Nat := if b > a then b else a
def addP (p : Nat) (f g : List Nat) : List Nat := short (tab (mx f.length g.length) fun i => fadd p (zat f i) (zat g i))
theorem mx_int (a b : Nat) : (if (b : Int) > (a : Int) then (b : Int) else (a : Int)) = ((mx a b : Nat) : Int) := by
  unfold mx; split <;> split <;> omega
theorem mx_le (a b : Nat) : a ≤ mx a b ∧ b ≤ mx a b := by unfold mx; split <;> omega
theorem mx_lub {a b c : Nat} (h : a ≤ c) (h2 : b ≤ c) : mx a b ≤ c := by unfold mx; split <;> omega
theorem zat_get {f : List Nat} {i x : Nat} (h : f[i]? = some x) : zat f i = x := by unfold zat; rw [h]; rfl
theorem zat_none {f : List Nat} {i : Nat} (h : f.length ≤ i) : zat f i = 0 := by unfold zat; rw [List.getElem?_eq_none h]; rfl
theorem copy_zat (f : List Nat) {n : Nat} (h : f.length ≤ n) : copyL (List.replicate n 0) f = tab n (zat f) := by
  unfold copyL
  refine tab_of (by simp; omega) fun i x hx => ?_
  rcases Nat.lt_or_ge i f.length with h' | h'
  · rw [List.getElem?_append_left (by simp; omega), List.getElem?_take_of_lt (by simp; omega)] at hx
    exact (zat_get hx).symm
  · rw [zat_none h']
    rw [List.getElem?_append_right (by simp; omega)] at hx
    have := mem_get hx
    simp at this
    exact this.2
theorem poly_Plus_c {p : Nat} (hp0 : 0 < p) (hp : p ≤ 65537) {f g : List Nat} (hf : ∀ x ∈ f, x < p) (hg : ∀ x ∈ g, x < p) (hfl : f.length ≤ 100000) (hgl : g.length ≤ 100000) {K : List Nat → Prop} (k : K (addP p f g)) : poly_Plus.C p f g K := by
  refine poly_Plus.q (poly_each.q ?_)
  unfold poly_each.Q
  rw [mx_int, toNat_c]
  have h1 := mx_le f.length g.length
  have h2 : mx f.length g.length ≤ 100000 := mx_lub hfl hgl
  refine ⟨MakeOk.of (by omega) (by omega), ?_⟩
  rw [copy_zat f h1.1]
  unfold addP at k
  generalize mx f.length g.length = n at *
  refine LoopQ.rangeS n (fun i s => s = tab n fun a => if a < i then fadd p (zat f a) (zat g a) else zat f a) (tab_ext fun a _ => by simp) (by omega) ?_ ?_
  · rintro i _ next hi rfl hnx
    dsimp only
    have hg1 := tab_get (n := n) (i := i) (fun a => if a < i then fadd p (zat f a) (zat g a) else zat f a) hi
    rw [if_neg (by omega)] at hg1
    refine ctd (by omega) ?_
    have fin : (tab n fun a => if a < i then fadd p (zat f a) (zat g a) else zat f a).set i (fadd p (zat f i) (zat g i)) = tab n fun a => if a < i + 1 then fadd p (zat f a) (zat g a) else zat f a := by
      rw [tab_set]
      refine tab_ext fun a ha => ?_
      by_cases hai : a = i
      · subst hai; rw [if_pos rfl, if_pos (by omega)]
      · rw [if_neg hai]
        by_cases hlt : a < i
        · rw [if_pos hlt, if_pos (by omega)]
        · rw [if_neg hlt, if_neg (by omega)]
    by_cases hgi : i < g.length
    · obtain ⟨y, hy⟩ := get_some hgi
      refine ctd (by omega) ⟨by omega, y, hy, by omega, by omega, _, hg1, field_Plus_c hp (zat_lt hp0 hf _) (hg y (mem_get hy)) ⟨by omega, by omega, hnx _ ?_⟩⟩
      simp only [toNat_c]
      rw [← zat_get hy]; exact fin
    · refine cfd (by omega) ⟨by omega, by omega, _, hg1, field_Plus_c hp (zat_lt hp0 hf _) hp0 ⟨by omega, by omega, hnx _ ?_⟩⟩
      simp only [toNat_c]
      rw [← zat_none (f := g) (i := i) (by omega)]; exact fin
  · rintro _ next rfl
    refine cfd (by dsimp only; omega) (poly_Short_c (by simp [tab_len]; omega) ?_)
    dsimp only
    rw [tab_ext (g' := fun i => fadd p (zat f i) (zat g i)) fun a ha => by rw [if_pos ha]]; exact k
def scaleP (p : Nat) (f : List Nat) (c : Nat) : List Nat := short (tab f.length fun i => fmul p (zat f i) c)
theorem addP_lt {p : Nat} (hp : 0 < p) {f g : List Nat} {a : Nat} (h : a ∈ addP p f g) : a < p := by obtain ⟨i, _, rfl⟩ := tab_mem (short_mem h); exact fadd_lt hp _ _
theorem addP_len (p : Nat) (f g : List Nat) : (addP p f g).length ≤ mx f.length g.length := by
  have := short_len (tab (mx f.length g.length) fun i => fadd p (zat f i) (zat g i)); rw [tab_len] at this; exact this
theorem scaleP_len (p c : Nat) (f : List Nat) : (scaleP p f c).length ≤ f.length := by
  have := short_len (tab f.length fun i => fmul p (zat f i) c); rw [tab_len] at this; exact this
theorem short_short (f : List Nat) : short (short f) = short f := by
  unfold short
  rw [List.reverse_reverse]
  congr 1
  generalize f.reverse = l
  induction l with
  | nil => rfl
  | cons a l ih =>
    rw [List.dropWhile_cons]
    by_cases h : (a == 0) = true
    · rw [if_pos h]; exact ih
    · rw [if_neg h, List.dropWhile_cons, if_neg h]
section
variable {p : Nat} [NeZero p]
theorem pv_short (f : List Nat) (x : Fin p) : pv p (short f) x = pv p f x := by
  obtain ⟨m, hm⟩ := short_split f
  conv => rhs; rw [hm]
  rw [pv_append, pv_zeros]; grind
theorem pv_addP (f g : List Nat) (x : Fin p) : pv p (addP p f g) x = pv p f x + pv p g x := by
  unfold addP
  have h := mx_le f.length g.length
  rw [pv_short, pv_tab, ← pv_zat f h.1, ← pv_zat g h.2, ← S_add]
  exact S_ext fun i _ => by rw [cz_fadd]; grind
theorem pv_scaleP (f : List Nat) (c : Nat) (x : Fin p) : pv p (scaleP p f c) x = pv p f x * cz p c := by
  unfold scaleP
  rw [pv_short, pv_tab, ← pv_zat f (Nat.le_refl _)]
  have : S (fun i => cz p (fmul p (zat f i) c) * x ^ i) f.length = S (fun i => cz p c * (cz p (zat f i) * x ^ i)) f.length := S_ext fun i _ => by rw [cz_fmul]; grind
  rw [this, S_mul]; grind
theorem pv_lin {x : Nat} (hx : x ≤ p) (z : Fin p) : pv p [fsub p 0 x, 1] z = z - cz p x := by
  rw [pv_cons, pv_cons, pv_nil, cz_fsub hx, cz_zero, cz_one]; grind
end
def Interp (p : Nat) (l : List TPoint) (f : List Nat) : Prop := (∀ a ∈ f, a < p) ∧ f.length ≤ l.length ∧ short f = f ∧ ∀ [NeZero p], ∀ q ∈ l, pv p f (cz p q.X) = cz p q.Y
def Pts (p : Nat) (l : List TPoint) : Prop := (∀ q ∈ l, q.X < p ∧ q.Y < p) ∧ (l.map (·.X)).Nodup
theorem tab_zat (f : List Nat) {n : Nat} (h : f.length ≤ n) : tab n (zat f) = f ++ List.replicate (n - f.length) 0 := by
  symm
  refine tab_of (by simp; omega) fun i x hx => ?_
  rcases Nat.lt_or_ge i f.length with h' | h'
  · rw [List.getElem?_append_left h'] at hx; exact (zat_get hx).symm
  · rw [zat_none h']
    rw [List.getElem?_append_right h'] at hx
    have := mem_get hx
    simp at this
    exact this.2
theorem Interp.uniq {p : Nat} (hp : isP p) {l : List TPoint} (hl : Pts p l) {f g : List Nat} (hf : Interp p l f) (hg : Interp p l g) : f = g := by
  have hp3 := hp.1
  haveI : NeZero p := ⟨by omega⟩
  obtain ⟨f1, f2, f3, f4⟩ := hf
  obtain ⟨g1, g2, g3, g4⟩ := hg
  have hz := roots_zero hp ((l.map (·.X)).map (cz p)) (tab l.length fun i => cz p (zat f i) - cz p (zat g i)) (cz_nodup hl.2 fun x hx => by
    obtain ⟨q, hq, rfl⟩ := List.mem_map.1 hx; exact (hl.1 q hq).1) (by rw [tab_len]; simp) (fun x hx => by
    obtain ⟨y, hy, rfl⟩ := List.mem_map.1 hx
    obtain ⟨q, hq, rfl⟩ := List.mem_map.1 hy
    rw [pe_tab]
    have e3 : S (fun i => (cz p (zat f i) - cz p (zat g i)) * cz p q.X ^ i) l.length = S (fun i => cz p (zat f i) * cz p q.X ^ i + (-1 : Fin p) * (cz p (zat g i) * cz p q.X ^ i)) l.length := S_ext fun i _ => by grind
    rw [e3, S_add, S_mul, pv_zat f f2, pv_zat g g2, f4 q hq, g4 q hq]; grind)
  have hi : ∀ i, i < l.length → zat f i = zat g i := fun i hi => cz_inj (zat_lt (by omega) f1 i) (zat_lt (by omega) g1 i) (by
    have := hz _ (mem_get (tab_get (fun i => cz p (zat f i) - cz p (zat g i)) hi)); grind)
  have e := tab_ext (n := l.length) hi
  rw [tab_zat f f2, tab_zat g g2] at e
  have := congrArg short e
  rw [short_zeros, short_zeros, f3, g3] at this
  exact this
open Classical in
noncomputable def fitP (p : Nat) (l : List TPoint) : List Nat := if h : ∃ f, Interp p l f then h.choose else []
theorem fitP_of {p : Nat} (hp : isP p) {l : List TPoint} (hl : Pts p l) {f : List Nat} (h : Interp p l f) : fitP p l = f := by
  unfold fitP
  rw [dif_pos ⟨f, h⟩]
  exact (Exists.choose_spec (⟨f, h⟩ : ∃ f, Interp p l f)).uniq hp hl h
end Go.Proofs.Ytlhcaangdenoaaa.Pl
