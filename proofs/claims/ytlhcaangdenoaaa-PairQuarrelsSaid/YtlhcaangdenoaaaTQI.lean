import Derived.Test.YtlhcaangdenoaaaTQP
import Derived.Test.YtlhcaangdenoaaaTQ6f
namespace Go.Lf
end Go.Lf
namespace Go.Proofs.Ytlhcaangdenoaaa.Sh
end Go.Proofs.Ytlhcaangdenoaaa.Sh
namespace Go.Proofs.Ytlhcaangdenoaaa.Sp
end Go.Proofs.Ytlhcaangdenoaaa.Sp
namespace Go.Sx
end Go.Sx
set_option linter.unusedVariables false
set_option linter.unusedSimpArgs false
namespace Go.Proofs.Ytlhcaangdenoaaa.Pl
open Go.Sx Go.Lf Go.Proofs.Ytlhcaangdenoaaa.Sh Go.Proofs.Ytlhcaangdenoaaa.Sp
def mx (a b : Nat) : Nat := if b > a then b else a
theorem zat_get {f : List Nat} {i x : Nat} (h : f[i]? = some x) : zat f i = x := by unfold zat; rw [h]; rfl
theorem zat_none {f : List Nat} {i : Nat} (h : f.length ≤ i) : zat f i = 0 := by unfold zat; rw [List.getElem?_eq_none h]; rfl
section
variable {p : Nat} [NeZero p]
end
def Interp (p : Nat) (l : List TPoint) (f : List Nat) : Prop := (∀ a ∈ f, a < p) ∧ f.length ≤ l.length ∧ short f = f ∧ ∀ [NeZero p], ∀ q ∈ l, pv p f (cz p q.X) = cz p q.Y
def Pts (p : Nat) (l : List TPoint) : Prop := (∀ q ∈ l, q.X < p ∧ q.Y < p) ∧ (l.map (·.X)).Nodup
theorem tab_zat (f : List Nat) {n : Nat} (h : f.length ≤ n) : tab n (zat f) = f ++ List.replicate (n - f.length) 0 := by
  symm
  refine tab_of (by simp; omega) fun i x hx => ?_
  rcases Nat.lt_or_ge i f.length with h' | h'
  · rw [List.getElem?_append_left h'] at hx; exact (zat_get hx).symm
  · rw [zat_none h']
    rw [List.getElem?_append_right h'] at hx
    have := mem_get hx
    simp at this
    exact this.2
theorem Interp.uniq {p : Nat} (hp : isP p) {l : List TPoint} (hl : Pts p l) {f g : List Nat} (hf : Interp p l f) (hg : Interp p l g) : f = g := by
  have hp3 := hp.1
  haveI : NeZero p := ⟨by omega⟩
  obtain ⟨f1, f2, f3, f4⟩ := hf
  obtain ⟨g1, g2, g3, g4⟩ := hg
  have hz := roots_zero hp ((l.map (·.X)).map (cz p)) (tab l.length fun i => cz p (zat f i) - cz p (zat g i)) (cz_nodup hl.2 fun x hx => by
    obtain ⟨q, hq, rfl⟩ := List.mem_map.1 hx; exact (hl.1 q hq).1) (by rw [tab_len]; simp) (fun x hx => by
    obtain ⟨y, hy, rfl⟩ := List.mem_map.1 hx
    obtain ⟨q, hq, rfl⟩ := List.mem_map.1 hy
    rw [pe_tab]
    have e3 : S (fun i => (cz p (zat f i) - cz p (zat g i)) * cz p q.X ^ i) l.length = S (fun i => cz p (zat f i) * cz p q.X ^ i + (-1 : Fin p) * (cz p (zat g i) * cz p q.X ^ i)) l.length := S_ext fun i _ => by grind
    rw [e3, S_add, S_mul, pv_zat f f2, pv_zat g g2, f4 q hq, g4 q hq]; grind)
  have hi : ∀ i, i < l.length → zat f i = zat g i := fun i hi => cz_inj (zat_lt (by omega) f1 i) (zat_lt (by omega) g1 i) (by
    have := hz _ (mem_get (tab_get (fun i => cz p (zat f i) - cz p (zat g i)) hi)); grind)
  have e := tab_ext (n := l.length) hi
  rw [tab_zat f f2, tab_zat g g2] at e
  have := congrArg short e
  rw [short_zeros, short_zeros, f3, g3] at this
  exact this
end Go.Proofs.Ytlhcaangdenoaaa.Pl
