import Derived.Test.YtlhcaangdenoaaaMat
import Derived.Deep.Slices
import Derived.SizedLaws
import Derived.WalkKit
import Derived.ProofKit
import Derived.OpenShut
import Derived.ShutString
import Derived.ChangeOld
import Derived.Below
import Derived.Carry
set_option linter.unusedVariables false
namespace Go.Sx
open Go.Deep Go.WideShapes Go.ChangeShapes
/-! ### From the readings of a row to what values stand for -/
def w64R : Rel Nat := fun _ _ x v => v = .int .u64 (x : Int) ∧ x < 18446744073709551616
def i64R : Rel Int := fun _ _ x v => v = .int .i64 x ∧ -9223372036854775808 ≤ x ∧ x < 9223372036854775808
theorem w64_good : Good w64R := ⟨fun _ h => h, fun _ h => h, fun h => by rw [h.1]; rfl⟩
theorem i64_good : Good i64R := ⟨fun _ h => h, fun _ h => h, fun h => by rw [h.1]; rfl⟩
theorem Sl.imp {α : Type} {E E' : Rel α} {S : Nat → Prop} {H : Heap} {A : Option Addr} {n c : Nat} {xs : List α} (hE : ∀ x v, E S H x v → E' S H x v) (h : Sl E S H A n c xs) : Sl E' S H A n c xs :=
  ⟨h.len, h.cap, h.lt, fun i x hx => by
    obtain ⟨a, v, h1, h2, h3, h4⟩ := h.get i x hx
    exact ⟨a, v, h1, h2, h3, hE _ _ h4⟩⟩
theorem w64_u64 {S : Nat → Prop} {H : Heap} {x : Nat} {v : Value} (h : w64R S H x v) : u64R S H x v := h.1
theorem slR_imp {α : Type} {E E' : Rel α} (hE : ∀ {S H x v}, E S H x v → E' S H x v) {S : Nat → Prop} {H : Heap} {x : List α} {v : Value} (h : slR E S H x v) : slR E' S H x v := by
  obtain ⟨A, n, c, e, hs⟩ := h
  exact ⟨A, n, c, e, hs.imp fun _ _ => hE⟩
theorem Sl.u {S : Nat → Prop} {H : Heap} {A : Option Addr} {n c : Nat} {xs : List Nat} (h : Sl w64R S H A n c xs) : Sl u64R S H A n c xs := h.imp fun _ _ => w64_u64
theorem Sl.uu {S : Nat → Prop} {H : Heap} {A : Option Addr} {n c : Nat} {xs : List (List Nat)} (h : Sl (slR w64R) S H A n c xs) : Sl (slR u64R) S H A n c xs := h.imp fun _ _ => slR_imp w64_u64
theorem Sl.each {α : Type} {E : Rel α} {S : Nat → Prop} {H : Heap} {A : Option Addr} {n c : Nat} {xs : List α} (h : Sl E S H A n c xs) {x : α} (hx : x ∈ xs) : ∃ v, E S H x v := by
  obtain ⟨i, hi⟩ := List.mem_iff_getElem?.1 hx
  obtain ⟨a, v, _, _, _, he⟩ := h.get i x hi
  exact ⟨v, he⟩

def okW (P : Program) (t : TypeId) {I : Type} (d : DataW I) : Prop := (d.weights P t).all (· ≤ reachBytes) = true
/-- What is read at the type t, one cell, stands for something. -/
def Opens (P : Program) (t : TypeId) {α : Type} (E : Rel α) : Prop :=
  ∀ (I : Type) (enc : TypeId × Value → I) (w : World) (held : Bool) (fuel : Nat) (cs : List Value) (x : DataW I × List MemPlace), DataW.trod enc P w 0 (fun _ => true) held fuel t cs = some x → okW P t x.1 → ∃ y v, cs = [v] ∧ E All w.heap y v
variable {P : Program} {t e : TypeId}
theorem wf_u64 {n : Int} (h : (Lit.int .u64 n).wf = true) : 0 ≤ n ∧ n < 18446744073709551616 := by
  simp [Lit.wf, IntKind.min, IntKind.max, IntKind.signed, IntKind.bits] at h; omega
theorem wf_i64 {n : Int} (h : (Lit.int .i64 n).wf = true) : -9223372036854775808 ≤ n ∧ n < 9223372036854775808 := by
  simp [Lit.wf, IntKind.min, IntKind.max, IntKind.signed, IntKind.bits] at h; omega
theorem opens_u64 (ht : P.underlying t = some (.int .u64)) : Opens P t w64R := by
  intro I enc w held fuel cs x h _
  obtain ⟨n, rfl, _, hw⟩ := DataW.trod_int ht h
  have := wf_u64 hw
  exact ⟨n.toNat, _, rfl, by rw [show ((n.toNat : Nat) : Int) = n by omega], by omega⟩
theorem opens_int (ht : P.underlying t = some (.int .i64)) : Opens P t i64R := by
  intro I enc w held fuel cs x h _
  obtain ⟨n, rfl, _, hw⟩ := DataW.trod_int ht h
  have := wf_i64 hw
  exact ⟨n, _, rfl, rfl, this⟩
theorem weightsAll_mem {I : Type} {d : DataW I} : ∀ {l : List (DataW I)}, d ∈ l → (DataW.weightsAll P e l).all (· ≤ reachBytes) = true → okW P e d
  | a :: l, hm, h => by
    simp only [DataW.weightsAll, List.all_append, Bool.and_eq_true] at h
    rcases List.mem_cons.1 hm with rfl | hm
    · exact h.1
    · exact weightsAll_mem hm h.2
theorem weightsEach_get {I : Type} {ts : List TypeId} {ds : List (DataW I)} (h : (DataW.weightsEach P ts ds).all (· ≤ reachBytes) = true) {j : Nat} {d : DataW I} (ht : ts[j]? = some t) (hd : ds[j]? = some d) : okW P t d := by
  induction ts generalizing ds j with
  | nil => simp at ht
  | cons a ts ih =>
    cases ds with
    | nil => simp at hd
    | cons b ds =>
      simp only [DataW.weightsEach, List.all_append, Bool.and_eq_true] at h
      cases j with
      | zero => simp at ht hd; subst ht; subst hd; exact h.1
      | succ j => exact ih h.2 (by simpa using ht) (by simpa using hd)
theorem opens_slice {α : Type} {E : Rel α} (ht : P.underlying t = some (.slice e)) (ce : P.cellsOf e = 1) (hb : 8 ≤ P.bytesOf e) (he : Opens P e E) : Opens P t (slR E) := by
  intro I enc w held fuel cs x h hw
  rcases open_slice1 ht ce h with ⟨rfl, rfl⟩ | ⟨a, len, cap, m, n, V, D, Pl, rfl, hb0, hl, hm, hmm, rfl, hx⟩
  · exact ⟨[], _, rfl, none, 0, 0, rfl, Sl.nil _ _ _ _ _⟩
  simp only [if_true] at hmm
  subst hmm
  unfold okW at hw
  simp only [DataW.weights, ht, List.all_cons, List.all_append, Bool.and_eq_true, List.length_map, List.length_range, decide_eq_true_eq] at hw
  obtain ⟨hsz, hel, _⟩ := hw
  have hcap : m * 8 ≤ 140737488351232 := by
    have h1 : (len + (m - len)) * P.bytesOf e ≤ 140737488351232 := hsz
    rw [show len + (m - len) = m by omega] at h1
    exact Nat.le_trans (Nat.mul_le_mul_left m hb) h1
  have each : ∀ i, i < len → ∃ y, E All w.heap y (V i) := fun i hi => by
    obtain ⟨y, v, hv, hy⟩ := he I enc w held n [V i] (D i, Pl i) (hx i (by omega)).2 (weightsAll_mem (List.mem_map.2 ⟨i, List.mem_range.2 hi, rfl⟩) hel)
    cases hv
    exact ⟨y, hy⟩
  obtain ⟨xs, hxl, hxs⟩ : ∃ xs : List α, xs.length = len ∧ ∀ (i : Nat) (y : α), xs[i]? = some y → E All w.heap y (V i) := by
    have : ∀ k, k ≤ len → ∃ xs : List α, xs.length = k ∧ ∀ (i : Nat) (y : α), xs[i]? = some y → E All w.heap y (V i) := by
      intro k
      induction k with
      | zero => exact fun _ => ⟨[], rfl, fun i y h => by simp at h⟩
      | succ k ih =>
        intro hk
        obtain ⟨xs, h1, h2⟩ := ih (by omega)
        obtain ⟨y, hy⟩ := each k (by omega)
        refine ⟨xs ++ [y], by simp [h1], fun i z hz => ?_⟩
        rcases Nat.lt_or_ge i k with h' | h'
        · rw [List.getElem?_append_left (by omega)] at hz; exact h2 i z hz
        · have hi := (List.getElem?_eq_some_iff.1 hz).1
          simp at hi
          obtain rfl : i = k := by omega
          rw [List.getElem?_append_right (by omega), h1] at hz
          simp at hz
          subst hz; exact hy
    exact this len (Nat.le_refl _)
  refine ⟨xs, _, rfl, some a, len, m, rfl, hxl.symm, hl, by omega, fun i y hy => ?_⟩
  have hi := (List.getElem?_eq_some_iff.1 hy).1
  exact ⟨a, V i, rfl, trivial, (hx i (by omega)).1, hxs i y hy⟩

section
variable {I : Type} {enc : TypeId × Value → I} {w : World} {held : Bool} {v : Value} {d : DataW I} {ps : List MemPlace} {r : Reach} {b0 : Nat}
/-! Arguments. -/
theorem arg_u64 (ht : P.underlying t = some (.int .u64)) (hval : Value.okWide P w r b0 t v) (hd : DataW.Trod enc P w 0 (fun _ => true) held t v d ps) : ∃ x : Nat, v = .int .u64 (x : Int) ∧ x < 18446744073709551616 := by
  obtain ⟨n, rfl, _, _, hw⟩ := open_int ht hval hd
  have := wf_u64 hw
  exact ⟨n.toNat, by rw [show ((n.toNat : Nat) : Int) = n by omega], by omega⟩
theorem arg_int (ht : P.underlying t = some (.int .i64)) (hval : Value.okWide P w r b0 t v) (hd : DataW.Trod enc P w 0 (fun _ => true) held t v d ps) : ∃ x : Int, v = .int .i64 x ∧ -9223372036854775808 ≤ x ∧ x < 9223372036854775808 := by
  obtain ⟨n, rfl, _, _, hw⟩ := open_int ht hval hd
  exact ⟨n, rfl, wf_i64 hw⟩
theorem arg_slice {α : Type} {E : Rel α} (ht : P.underlying t = some (.slice e)) (ho : Opens P t (slR E)) (hval : Value.okWide P w r b0 t v) (hd : DataW.Trod enc P w 0 (fun _ => true) held t v d ps) (hw : okW P t d) :
    ∃ A n c xs, v = .slice A n c ∧ Sl E All w.heap A n c xs := by
  obtain ⟨a, len, cap, rfl⟩ := okWide_slice ht hval
  obtain ⟨fuel, hf⟩ := hd
  obtain ⟨y, u, hu, A, n, c, hv, hs⟩ := ho I enc w held fuel _ (d, ps) hf hw
  simp [Value.cells] at hu
  subst hu
  cases hv
  exact ⟨_, _, _, y, rfl, hs⟩
/-- A struct: each of its fields is read. -/
theorem arg_struct {fs : Array Field} (ht : P.underlying t = some (.struct fs)) (hval : Value.okWide P w r b0 t v) (hd : DataW.Trod enc P w 0 (fun _ => true) held t v d ps) (hw : okW P t d) :
    ∃ cs : Array Value, v = .agg cs ∧ cs.size = P.cellsOf t ∧ ∀ (i : Nat) (f : Field), fs[i]? = some f → ∃ fuel x, DataW.trod enc P w 0 (fun _ => true) held fuel f.type ((cs.toList.drop f.offset).take (P.cellsOf f.type)) = some x ∧ okW P f.type x.1 := by
  obtain ⟨cs, rfl, hcs⟩ := okWide_struct ht hval
  obtain ⟨fuel, hf⟩ := hd
  obtain ⟨xs, n, _, hx, hl, hlen, hel⟩ := DataW.trod_struct ht hf
  obtain ⟨rfl, _⟩ := Prod.mk.inj hx
  refine ⟨cs, rfl, hcs, fun i f hi => ?_⟩
  have hil : i < xs.length := by rw [hlen]; exact (Array.getElem?_eq_some_iff.1 hi).1
  refine ⟨n, xs[i], by rw [← List.getElem?_eq_getElem hil]; exact hel i f hi, ?_⟩
  unfold okW at hw
  simp only [DataW.weights, ht] at hw
  exact weightsEach_get hw (by rw [List.getElem?_map, Array.getElem?_toList, hi]; rfl) (by rw [List.getElem?_map, List.getElem?_eq_getElem hil]; rfl)
/-- An array: each of its elements is read. -/
theorem arg_array {m : Nat} (ht : P.underlying t = some (.array m e)) (hval : Value.okWide P w r b0 t v) (hd : DataW.Trod enc P w 0 (fun _ => true) held t v d ps) (hw : okW P t d) :
    ∃ cs : Array Value, v = .agg cs ∧ cs.size = P.cellsOf t ∧ ∀ (i : Nat), i < m → ∃ fuel x, DataW.trod enc P w 0 (fun _ => true) held fuel e ((cs.toList.drop (i * P.cellsOf e)).take (P.cellsOf e)) = some x ∧ okW P e x.1 := by
  simp only [Value.okWide, ht] at hval
  obtain ⟨cs, rfl, hcs, _⟩ := hval
  obtain ⟨fuel, hf⟩ := hd
  obtain ⟨xs, n, _, hx, hl, hlen, hel⟩ := DataW.trod_array ht hf
  obtain ⟨rfl, _⟩ := Prod.mk.inj hx
  refine ⟨cs, rfl, hcs, fun i hi => ?_⟩
  have hil : i < xs.length := by omega
  refine ⟨n, xs[i], by rw [← List.getElem?_eq_getElem hil]; exact hel i hi, ?_⟩
  unfold okW at hw
  simp only [DataW.weights, ht] at hw
  exact weightsAll_mem (List.mem_map.2 ⟨xs[i], List.getElem_mem _, rfl⟩) hw
end
end Go.Sx
