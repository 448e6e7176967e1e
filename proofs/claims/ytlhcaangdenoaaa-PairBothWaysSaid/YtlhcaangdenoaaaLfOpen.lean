import Derived.Test.YtlhcaangdenoaaaLfRun
import Derived.Deep.Slices
import Derived.SizedLaws
import Derived.WalkKit
import Derived.ProofKit
import Derived.OpenShut
import Derived.ShutString
import Derived.ChangeOld
import Derived.Below
import Derived.Carry
set_option linter.unusedVariables false
namespace Go.Lf
open Go.Sx Go.Deep Go.WideShapes Go.ChangeShapes

/-! ### From the readings of a row to plain values -/
def okW (P : Program) (t : TypeId) {I : Type} (d : DataW I) : Prop := (d.weights P t).all (· ≤ reachBytes) = true
/-- What is read at the type t stands for something. -/
def OpensL (P : Program) (t : TypeId) {α : Type} (E : Rl α) : Prop :=
  ∀ (I : Type) (enc : TypeId × Value → I) (w : World) (held : Bool) (fuel : Nat) (cs : List Value) (x : DataW I × List MemPlace), DataW.trod enc P w 0 (fun _ => true) held fuel t cs = some x → okW P t x.1 → ∃ y, E.rep All w.heap y cs
variable {P : Program} {t e : TypeId}
theorem wf_u64 {n : Int} (h : (Lit.int .u64 n).wf = true) : 0 ≤ n ∧ n < 18446744073709551616 := by
  simp [Lit.wf, IntKind.min, IntKind.max, IntKind.signed, IntKind.bits] at h; omega
theorem wf_i64 {n : Int} (h : (Lit.int .i64 n).wf = true) : -9223372036854775808 ≤ n ∧ n < 9223372036854775808 := by
  simp [Lit.wf, IntKind.min, IntKind.max, IntKind.signed, IntKind.bits] at h; omega
theorem opens_u64 (ht : P.underlying t = some (.int .u64)) : OpensL P t u64L := by
  intro I enc w held fuel cs x h _
  obtain ⟨n, rfl, _, hw⟩ := DataW.trod_int ht h
  have := wf_u64 hw
  exact ⟨n.toNat, by show [Value.int .u64 n] = _; rw [show ((n.toNat : Nat) : Int) = n by omega]⟩
theorem opens_i64 (ht : P.underlying t = some (.int .i64)) : OpensL P t i64L := by
  intro I enc w held fuel cs x h _
  obtain ⟨n, rfl, _, hw⟩ := DataW.trod_int ht h
  exact ⟨n, rfl⟩
theorem opens_bool (ht : P.underlying t = some .bool) : OpensL P t boolL := by
  intro I enc w held fuel cs x h _
  obtain ⟨n, rfl, _⟩ := DataW.trod_bool ht h
  exact ⟨n, rfl⟩
theorem weightsAll_mem {I : Type} {d : DataW I} : ∀ {l : List (DataW I)}, d ∈ l → (DataW.weightsAll P e l).all (· ≤ reachBytes) = true → okW P e d
  | a :: l, hm, h => by
    simp only [DataW.weightsAll, List.all_append, Bool.and_eq_true] at h
    rcases List.mem_cons.1 hm with rfl | hm
    · exact h.1
    · exact weightsAll_mem hm h.2
theorem weightsEach_get {I : Type} {ts : List TypeId} {ds : List (DataW I)} (h : (DataW.weightsEach P ts ds).all (· ≤ reachBytes) = true) {j : Nat} {d : DataW I} (ht : ts[j]? = some t) (hd : ds[j]? = some d) : okW P t d := by
  induction ts generalizing ds j with
  | nil => simp at ht
  | cons a ts ih =>
    cases ds with
    | nil => simp at hd
    | cons b ds =>
      simp only [DataW.weightsEach, List.all_append, Bool.and_eq_true] at h
      cases j with
      | zero => simp at ht hd; subst ht; subst hd; exact h.1
      | succ j => exact ih h.2 (by simpa using ht) (by simpa using hd)
theorem opens_slice {α : Type} {E : Rl α} (ht : P.underlying t = some (.slice e)) (ce : P.cellsOf e = E.sz) (hb : 8 ≤ P.bytesOf e) (he : OpensL P e E) : OpensL P t (slL E) := by
  intro I enc w held fuel cs x h hw
  rcases open_slice ht h with ⟨rfl, rfl⟩ | ⟨a, len, cap, m, n, D, Pl, rfl, hb0, hl, hm, hmm, rfl, hx⟩
  · exact ⟨[], none, 0, rfl, SlF.nil _ _ _ _ _⟩
  simp only [if_true] at hmm
  subst hmm
  unfold okW at hw
  simp only [DataW.weights, ht, List.all_cons, List.all_append, Bool.and_eq_true, List.length_map, List.length_range, decide_eq_true_eq] at hw
  obtain ⟨hsz, hel, _⟩ := hw
  have hcap : m * 8 ≤ 140737488351232 := by
    have h1 : (len + (m - len)) * P.bytesOf e ≤ 140737488351232 := hsz
    rw [show len + (m - len) = m by omega] at h1
    exact Nat.le_trans (Nat.mul_le_mul_left m hb) h1
  have each : ∀ i, i < len → ∃ y cs, E.rep All w.heap y cs ∧ ∀ (j : Nat) (v : Value), cs[j]? = some v → cellH w.heap (a.add (i * E.sz + j)) = some v := fun i hi => by
    obtain ⟨cs', h1, h2⟩ := hx i (by omega)
    obtain ⟨y, hy⟩ := he I enc w held n cs' (D i, Pl i) h2 (weightsAll_mem (List.mem_map.2 ⟨i, List.mem_range.2 hi, rfl⟩) hel)
    obtain ⟨_, hlen, hc⟩ := World.cells?_some h1
    refine ⟨y, cs', hy, fun j v hj => ?_⟩
    have hjl := (List.getElem?_eq_some_iff.1 hj).1
    have := hc j (by omega)
    rw [hj, cellH_eq, add_add, ce] at this
    exact this
  obtain ⟨xs, hxl, hxs⟩ : ∃ xs : List α, xs.length = len ∧ ∀ (i : Nat) (y : α), xs[i]? = some y → ∃ cs, E.rep All w.heap y cs ∧ ∀ (j : Nat) (v : Value), cs[j]? = some v → cellH w.heap (a.add (i * E.sz + j)) = some v := by
    have : ∀ k, k ≤ len → ∃ xs : List α, xs.length = k ∧ ∀ (i : Nat) (y : α), xs[i]? = some y → ∃ cs, E.rep All w.heap y cs ∧ ∀ (j : Nat) (v : Value), cs[j]? = some v → cellH w.heap (a.add (i * E.sz + j)) = some v := by
      intro k
      induction k with
      | zero => exact fun _ => ⟨[], rfl, fun i y h => by simp at h⟩
      | succ k ih =>
        intro hk
        obtain ⟨xs, h1, h2⟩ := ih (by omega)
        obtain ⟨y, hy⟩ := each k (by omega)
        refine ⟨xs ++ [y], by simp [h1], fun i z hz => ?_⟩
        rcases Nat.lt_or_ge i k with h' | h'
        · rw [List.getElem?_append_left (by omega)] at hz; exact h2 i z hz
        · have hi := (List.getElem?_eq_some_iff.1 hz).1
          simp at hi
          obtain rfl : i = k := by omega
          rw [List.getElem?_append_right (by omega), h1] at hz
          simp at hz
          subst hz; exact hy
    exact this len (Nat.le_refl _)
  refine ⟨xs, some a, m, by rw [hxl], by omega, by omega, fun i y hy => ?_⟩
  obtain ⟨cs', hr, hc⟩ := hxs i y hy
  exact ⟨a, cs', rfl, hr, fun j v hj => ⟨trivial, hc j v hj⟩⟩
/-- A struct's fields, each read. -/
theorem open_struct {fs : Array Field} (ht : P.underlying t = some (.struct fs)) {I : Type} {enc : TypeId × Value → I} {w : World} {held : Bool} {fuel : Nat} {cs : List Value} {x : DataW I × List MemPlace} (h : DataW.trod enc P w 0 (fun _ => true) held fuel t cs = some x) (hw : okW P t x.1) :
    cs.length = P.cellsOf t ∧ ∀ (i : Nat) (f : Field) {α : Type} {E : Rl α} {k o : Nat}, fs[i]? = some f → OpensL P f.type E → P.cellsOf f.type = k → f.offset = o → ∃ y, E.rep All w.heap y ((cs.drop o).take k) := by
  obtain ⟨xs, n, _, rfl, hl, hlen, hel⟩ := DataW.trod_struct ht h
  refine ⟨hl, fun i f α E k o hi hE hk ho => ?_⟩
  subst hk; subst ho
  have hil : i < xs.length := by rw [hlen]; exact (Array.getElem?_eq_some_iff.1 hi).1
  have h1 := hel i f hi
  rw [List.getElem?_eq_getElem hil] at h1
  refine hE I enc w held n _ _ h1 ?_
  unfold okW at hw
  simp only [DataW.weights, ht] at hw
  exact weightsEach_get hw (by rw [List.getElem?_map, Array.getElem?_toList, hi]; rfl) (by rw [List.getElem?_map, List.getElem?_eq_getElem hil]; rfl)
theorem open_array {m : Nat} (ht : P.underlying t = some (.array m e)) {I : Type} {enc : TypeId × Value → I} {w : World} {held : Bool} {fuel : Nat} {cs : List Value} {x : DataW I × List MemPlace} (h : DataW.trod enc P w 0 (fun _ => true) held fuel t cs = some x) (hw : okW P t x.1) :
    cs.length = P.cellsOf t ∧ ∀ (i : Nat) {α : Type} {E : Rl α} {k : Nat}, i < m → OpensL P e E → P.cellsOf e = k → ∃ y, E.rep All w.heap y ((cs.drop (i * k)).take k) := by
  obtain ⟨xs, n, _, rfl, hl, hlen, hel⟩ := DataW.trod_array ht h
  refine ⟨hl, fun i α E k hi hE hk => ?_⟩
  subst hk
  have hil : i < xs.length := by omega
  have h1 := hel i hi
  rw [List.getElem?_eq_getElem hil] at h1
  refine hE I enc w held n _ _ h1 ?_
  unfold okW at hw
  simp only [DataW.weights, ht] at hw
  exact weightsAll_mem (List.mem_map.2 ⟨xs[i], List.getElem_mem _, rfl⟩) hw
section
variable {I : Type} {enc : TypeId × Value → I} {w : World} {held : Bool} {v : Value} {d : DataW I} {ps : List MemPlace} {r : Reach} {b0 : Nat}
/-- An argument: its cells stand for something. -/
theorem argL {α : Type} {E : Rl α} (ho : OpensL P t E) (hd : DataW.Trod enc P w 0 (fun _ => true) held t v d ps) (hw : okW P t d) : ∃ y, E.rep All w.heap y v.cells.toList := by
  obtain ⟨fuel, hf⟩ := hd
  exact ho I enc w held fuel _ (d, ps) hf hw
theorem arg_u64L (ht : P.underlying t = some (.int .u64)) (hval : Value.okWide P w r b0 t v) (hd : DataW.Trod enc P w 0 (fun _ => true) held t v d ps) : ∃ x : Nat, v = .int .u64 (x : Int) ∧ x < 18446744073709551616 := by
  obtain ⟨n, rfl, _, _, hw⟩ := open_int ht hval hd
  have := wf_u64 hw
  exact ⟨n.toNat, by rw [show ((n.toNat : Nat) : Int) = n by omega], by omega⟩
theorem arg_i64L (ht : P.underlying t = some (.int .i64)) (hval : Value.okWide P w r b0 t v) (hd : DataW.Trod enc P w 0 (fun _ => true) held t v d ps) : ∃ x : Int, v = .int .i64 x ∧ -9223372036854775808 ≤ x ∧ x < 9223372036854775808 := by
  obtain ⟨n, rfl, _, _, hw⟩ := open_int ht hval hd
  exact ⟨n, rfl, wf_i64 hw⟩
theorem arg_sliceL {α : Type} {E : Rl α} (ht : P.underlying t = some (.slice e)) (ho : OpensL P t (slL E)) (hval : Value.okWide P w r b0 t v) (hd : DataW.Trod enc P w 0 (fun _ => true) held t v d ps) (hw : okW P t d) :
    ∃ A c xs, v = .slice A xs.length c ∧ SlF E All w.heap A c xs := by
  obtain ⟨a, len, cap, rfl⟩ := okWide_slice ht hval
  obtain ⟨y, A, c, hv, hs⟩ := argL ho hd hw
  simp [Value.cells] at hv
  obtain ⟨rfl, rfl, rfl⟩ := hv
  exact ⟨_, _, y, rfl, hs⟩
theorem arg_structL {α : Type} {E : Rl α} {fs : Array Field} (ht : P.underlying t = some (.struct fs)) (ho : OpensL P t E) (hval : Value.okWide P w r b0 t v) (hd : DataW.Trod enc P w 0 (fun _ => true) held t v d ps) (hw : okW P t d) :
    ∃ (y : α) (cs : List Value), v = .agg cs.toArray ∧ E.rep All w.heap y cs := by
  obtain ⟨cs, rfl, hcs⟩ := okWide_struct ht hval
  obtain ⟨y, hy⟩ := argL ho hd hw
  exact ⟨y, cs.toList, by simp, hy⟩
theorem arg_arrayL {α : Type} {E : Rl α} {m : Nat} (ht : P.underlying t = some (.array m e)) (ho : OpensL P t E) (hval : Value.okWide P w r b0 t v) (hd : DataW.Trod enc P w 0 (fun _ => true) held t v d ps) (hw : okW P t d) :
    ∃ (y : α) (cs : List Value), v = .agg cs.toArray ∧ E.rep All w.heap y cs := by
  simp only [Value.okWide, ht] at hval
  obtain ⟨cs, rfl, hcs, _⟩ := hval
  obtain ⟨y, hy⟩ := argL ho hd hw
  exact ⟨y, cs.toList, by simp, hy⟩
theorem list_0 {l : List Value} (h : l.length = 0) : l = [] := List.eq_nil_of_length_eq_zero h
theorem list_s {l : List Value} {n : Nat} (h : l.length = n + 1) : ∃ a l', l = a :: l' ∧ l'.length = n := by
  cases l with
  | nil => simp at h
  | cons a l => exact ⟨a, l, rfl, by simpa using h⟩
end
end Go.Lf
