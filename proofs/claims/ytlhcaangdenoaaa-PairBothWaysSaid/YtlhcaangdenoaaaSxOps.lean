import Derived.Test.YtlhcaangdenoaaaSxCore
import Derived.Laws.Sem
import Derived.Laws.World
import Derived.Laws.Cells
import Derived.Laws.Slices
import Derived.Laws.Append
import Derived.Laws.AppendOwn
import Derived.Laws.CopyRow
import Derived.Laws.MakeOwn
set_option linter.unusedVariables false
set_option linter.unusedSimpArgs false
namespace Go.Sx

def Sh.isAgg : Sh → Bool
  | .one _ => false
  | .agg _ => true

/-- What the table says of a type holds of the program. -/
def FitsK (P : Program) (T : Nat → TI) (t : Nat) : Kind → Prop
  | .int k => P.underlying t = some (.int k)
  | .bool => P.underlying t = some .bool
  | .str => P.underlying t = some .string
  | .slice e => P.underlying t = some (.slice e) ∧ (T e).known = true
  | .ptr => ∃ e, P.underlying t = some (.pointer e)
  | .map => ∃ k e, P.underlying t = some (.map k e)
  | .func => ∃ a b c, P.underlying t = some (.func a b c)
  | .struct fs => ∃ F : Array Field, P.underlying t = some (.struct F) ∧ fs = F.toList.map (fun f => (f.offset, (T f.type).sh)) ∧ (F.toList.all fun f => (T f.type).known && !Nat.beq (T f.type).size 0) = true
  | .array n e => P.underlying t = some (.array n e) ∧ (T e).known = true
  | .other => True
def Kind.isAgg : Kind → Bool
  | .struct _ => true
  | .array _ _ => true
  | _ => false
def Fits (P : Program) (T : Nat → TI) (t : Nat) (i : TI) : Prop :=
  FitsK P T t i.kind ∧ i.kind.isAgg = i.sh.isAgg ∧ i.zero.length = i.size ∧
  (P.info? t).map (fun j => (j.zero.map (·.cells.toList), j.size, j.bytes)) = some (some i.zero, i.size, i.bytes)
theorem TI.known_ne {i : TI} (h : i.known = true) : i.kind ≠ .other := fun hn => by simp [TI.known, hn] at h
theorem TI.known_of {i : TI} (h : i.kind ≠ .other) : i.known = true := by
  unfold TI.known; split
  · rename_i hk; exact absurd hk h
  · rfl
theorem fields_of {T : Nat → TI} {F : Array Field} (h : (F.toList.all fun f => (T f.type).known && !Nat.beq (T f.type).size 0) = true) : ∀ f ∈ F.toList, (T f.type).kind ≠ .other ∧ (T f.type).size ≠ 0 := by
  intro f hf
  have := List.all_eq_true.1 h f hf
  simp only [Bool.and_eq_true, Bool.not_eq_true'] at this
  exact ⟨TI.known_ne this.1, fun h0 => by rw [h0] at this; simp at this⟩
def AllFit (P : Program) (T : Nat → TI) : Prop := ∀ t, (T t).kind ≠ .other → Fits P T t (T t)

section
variable {P : Program} {T : Nat → TI} (hT : AllFit P T)
include hT

theorem run_info {t : Nat} (h : (T t).kind ≠ .other) (w : World) : ∃ j : TypeInfo, P.info? t = some j ∧ j.size = (T t).size ∧ j.bytes = (T t).bytes ∧ (∃ z, j.zero = some z ∧ z.cells.toList = (T t).zero) := by
  have hf := (hT t h).2.2.2
  cases hi : P.info? t with
  | none => rw [hi] at hf; simp at hf
  | some j =>
    rw [hi] at hf
    simp only [Option.map_some, Option.some.injEq, Prod.mk.injEq] at hf
    obtain ⟨hz, h1, h2⟩ := hf
    cases hz' : j.zero with
    | none => rw [hz'] at hz; simp at hz
    | some z => rw [hz'] at hz; simp only [Option.map_some, Option.some.injEq] at hz; exact ⟨j, rfl, h1, h2, z, hz', hz⟩
theorem run_sizeOf' {t : Nat} (h : (T t).kind ≠ .other) (w : World) : (sizeOf t).run P w = .ok (T t).size w := by
  obtain ⟨j, hi, hs, -⟩ := run_info hT h w
  simp [sizeOf, typeInfo, hi, hs]
theorem run_typeInfo' {t : Nat} (h : (T t).kind ≠ .other) (w : World) : ∃ j : TypeInfo, (typeInfo t).run P w = .ok j w ∧ j.size = (T t).size ∧ j.bytes = (T t).bytes ∧ (∃ z, j.zero = some z ∧ z.cells.toList = (T t).zero) := by
  obtain ⟨j, hi, hs, hb, z, hz, hc⟩ := run_info hT h w
  exact ⟨j, by simp [typeInfo, hi], hs, hb, z, hz, hc⟩
theorem run_zero' {t : Nat} (h : (T t).kind ≠ .other) (w : World) : ∃ z, (zeroValue t).run P w = .ok z w ∧ z.cells.toList = (T t).zero := by
  obtain ⟨j, hi, hs, hb, z, hz, hc⟩ := run_info hT h w
  exact ⟨z, by simp [zeroValue, typeInfo, hi, hz], hc⟩
omit hT in
theorem run_und {t : Nat} {d : TypeDesc} (h : P.underlying t = some d) (w : World) : (underlying t).run P w = .ok d w := by
  simp [underlying, h]
theorem run_isAgg' {t : Nat} (h : (T t).kind ≠ .other) (w : World) : (isAgg t).run P w = .ok (T t).sh.isAgg w := by
  have hk := (hT t h).1
  have ha := (hT t h).2.1
  rw [← ha]
  revert hk h
  cases (T t).kind <;> intro h hk <;> simp only [FitsK] at hk
  case other => exact absurd rfl h
  case slice => simp [isAgg, underlying, hk.1, Kind.isAgg]
  case array => simp [isAgg, underlying, hk.1, Kind.isAgg]
  case ptr => obtain ⟨e, hk⟩ := hk; simp [isAgg, underlying, hk, Kind.isAgg]
  case map => obtain ⟨e, k, hk⟩ := hk; simp [isAgg, underlying, hk, Kind.isAgg]
  case func => obtain ⟨e, k, b, hk⟩ := hk; simp [isAgg, underlying, hk, Kind.isAgg]
  case struct => obtain ⟨F, hk, -⟩ := hk; simp [isAgg, underlying, hk, Kind.isAgg]
  all_goals simp [isAgg, underlying, hk, Kind.isAgg]
end

theorem Addr.add_add {a : Addr} {i j : Nat} (h : a.spot = none) : (a.add i).add j = a.add (i + j) := by
  unfold Addr.add
  split <;> split <;> split <;> simp_all <;> omega

/-! ### Loads -/
theorem CellsAre.cells {w : World} {a : Addr} : ∀ {vs : List Value} {j : Nat} {R : Prop}, CellsAre w.heap a j vs R → (∀ i v, vs[i]? = some v → w.cell? (a.add (j + i)) = some v) ∧ R
  | [], _, _, h => ⟨fun i v hv => by simp at hv, h⟩
  | v :: vs, j, R, h => by
    obtain ⟨h0, h⟩ := h
    obtain ⟨h1, hR⟩ := CellsAre.cells h
    refine ⟨fun i u hu => ?_, hR⟩
    cases i with
    | zero => simp at hu; subst hu; exact h0
    | succ i => have := h1 i u (by simpa using hu); rwa [show j + (i + 1) = j + 1 + i from by omega]
theorem CellsAre.mk {H : Heap} {a : Addr} : ∀ {vs : List Value} {j : Nat} {R : Prop}, (∀ i v, vs[i]? = some v → cellH H (a.add (j + i)) = some v) → R → CellsAre H a j vs R
  | [], _, _, _, h => h
  | v :: vs, j, R, h, hR => ⟨h 0 v rfl, CellsAre.mk (fun i u hu => by have := h (i + 1) u (by simpa using hu); rwa [show j + (i + 1) = j + 1 + i from by omega] at this) hR⟩
theorem CellsAre.imp {H : Heap} {a : Addr} : ∀ {vs : List Value} {j : Nat} {R R' : Prop}, CellsAre H a j vs R → (R → R') → CellsAre H a j vs R'
  | [], _, _, _, h, k => k h
  | _ :: _, _, _, _, ⟨h0, h⟩, k => ⟨h0, h.imp k⟩

theorem load_sound {P : Program} {T : Nat → TI} (hT : AllFit P T) {t : Nat} (ht : (T t).kind ≠ .other) {a : Addr} {w : World} {κ : Value → Prop} (h : LoadH (T t).sh w.heap a κ) :
    ∃ v, κ v ∧ StillP (T t).sh a v w.heap True ∧ ∀ w' : World, StillP (T t).sh a v w'.heap True → (Instr.loadAt t (.pointer (some a))).run P w' = .ok v w' := by
  have hagg := fun w' => run_isAgg' hT ht w'
  have hsz := fun w' => run_sizeOf' hT ht w'
  unfold LoadH at h
  unfold StillP
  cases hs : (T t).sh with
  | one s =>
    rw [hs] at h hagg
    obtain ⟨v, hc, hk⟩ := TyEx.out h
    refine ⟨v, hk, ⟨hc, trivial⟩, fun w' hw => ?_⟩
    have hc' : w'.cell? a = some v := hw.1
    simp [Instr.loadAt, Instr.sureAddr, loadVar, hagg w', Sh.isAgg, hc']
  | agg l =>
    rw [hs] at h hagg
    obtain ⟨vs, hl, hc⟩ := TyExL.out h
    have hR := (CellsAre.cells (w := w) hc).2
    refine ⟨_, hR, ?_, fun w' hw => ?_⟩
    · simp only [hl, if_true]; exact hc.imp (fun _ => trivial)
    · simp only [hl, if_true] at hw
      have hcells := (CellsAre.cells (w := w') hw).1
      have hl' : (T t).size = vs.length := by rw [TI.size, hs]; exact hl.symm
      have := run_loadCells_list (P := P) (w := w') a vs (fun j v hj => by have := hcells j v hj; rwa [Nat.zero_add] at this)
      simp [Instr.loadAt, Instr.sureAddr, loadVar, hagg w', Sh.isAgg, hsz w', hl', this]

/-! ### Stores -/
theorem isCell_one {v : Value} (h : isCell v = true) : v.oneCell' = true := by cases v <;> simp_all [isCell, Value.oneCell']
theorem cells_of_all {vs : List Value} (h : vs.all isCell = true) : ∀ v ∈ vs, v.oneCell' = true := fun v hv => isCell_one (List.all_eq_true.1 h v hv)

theorem Addr.add_off (a : Addr) (j : Nat) (h : a.spot = none) : a.add j = ⟨a.block, a.off + j, none⟩ := by
  unfold Addr.add
  split
  · cases a; simp_all
  · rfl
theorem setH_get_ne (H : Heap) (a : Addr) (v : Value) (b : Nat) (h : b ≠ a.block) : (setH H a v)[b]? = H[b]? := by
  simp [setH, Array.getElem?_modify, Ne.symm h]
theorem setH_get_eq {H : Heap} {g i : Nat} {cs : Array Value} {t : Nat} {fr : Nat × Nat} (h : H[g]? = some (.cells cs t fr)) (v : Value) :
    (setH H ⟨g, i, none⟩ v)[g]? = some (.cells (cs.setIfInBounds i v) t fr) := by
  simp [setH, Array.getElem?_modify, h]
theorem setH_size (H : Heap) (a : Addr) (v : Value) : (setH H a v).size = H.size := by simp [setH]

theorem stores_sound {P : Program} : ∀ (vs : List Value) (i : Nat) (w : World) (a : Addr) (cs : Array Value) (t : Nat), a.spot = none → w.heap[a.block]? = some (.cells cs t (0, 0)) → a.off + i + vs.length ≤ cs.size → vs.all isCell = true →
    ∃ w', (storeCells a vs i).run P w = .ok () w' ∧ Same w w' ∧ w'.heap = setsH w.heap a i vs
  | [], i, w, a, cs, t, _, _, _, _ => ⟨w, rfl, Same.refl w, rfl⟩
  | v :: vs, i, w, a, cs, t, hs, hb, hl, hc => by
    simp only [List.all_cons, Bool.and_eq_true] at hc
    simp only [List.length_cons] at hl
    have ha := Addr.add_off a i hs
    have hcell : w.cell? (a.add i) = some (cs[a.off + i]'(by omega)) := by
      rw [ha]; simp [World.cell?, hb]
    have hfr : w.frozen? (a.add i) = false := by rw [ha]; simp [World.frozen?, hb]
    have hb' : (w.setCell (a.add i) v).heap[a.block]? = some (.cells (cs.setIfInBounds (a.off + i) v) t (0, 0)) := by
      rw [ha]; exact setH_get_eq (H := w.heap) hb v
    obtain ⟨w', hr, hsm, hh⟩ := stores_sound (P := P) vs (i + 1) (w.setCell (a.add i) v) a _ t hs hb' (by simp; omega) hc.2
    refine ⟨w', ?_, ⟨hsm.os, hsm.tape, hsm.output⟩, hh⟩
    simp [storeCells, run_store P w (a.add i) v .plain (isCell_one hc.1), hcell, hfr, hr]

theorem mayWrite_stores {P : Program} {vs : List Value} {w : World} {a : Addr} (h : MayWrite w.heap a vs.length) (hc : vs.all isCell = true) :
    ∃ w', (storeCells a vs).run P w = .ok () w' ∧ Same w w' ∧ w'.heap = setsH w.heap a 0 vs := by
  obtain ⟨cs, t, hb, hs, hl⟩ := h
  exact stores_sound vs 0 w a cs t hs hb (by omega) hc

theorem store_sound {P : Program} {T : Nat → TI} (hT : AllFit P T) {t : Nat} (ht : (T t).kind ≠ .other) {a : Addr} {v : Value} {w : World} {κ : Heap → Prop} (h : StoreH (T t).size w.heap a v.cells.toList κ) :
    ∃ w', (Instr.storeAt t (.pointer (some a)) v).run P w = .ok () w' ∧ Same w w' ∧ κ w'.heap := by
  unfold StoreH at h
  cases hb : (Nat.beq v.cells.toList.length (T t).size && v.cells.toList.all isCell) <;> rw [hb] at h
  · exact h.elim
  simp only [Bool.and_eq_true] at hb
  have hn := Nat.eq_of_beq_eq_true hb.1
  have hc := hb.2
  obtain ⟨hm, hk⟩ := h
  rw [← hn] at hm
  obtain ⟨w', hr, hs, hh⟩ := mayWrite_stores (P := P) hm hc
  refine ⟨w', ?_, hs, hh ▸ hk⟩
  have hsz := run_sizeOf' hT ht w
  rw [Array.length_toList] at hn
  simp [Instr.storeAt, Instr.sureAddr, storeVar, hsz, hn, hr]

/-! ### What an operation of the model comes to -/
def OpOK (P : Program) (s : Sem Next) (w : World) (K : Value → Heap → Prop) : Prop :=
  (∃ v w', s.run P w = .ok (.value v) w' ∧ Same w w' ∧ K v w'.heap) ∨
  (∃ w', s.run P w = .ok .skip w' ∧ Same w w' ∧ K undef w'.heap) ∨
  (∃ f args w', s.run P w = .ok (.enter f args) w' ∧ Same w w' ∧ CallH P f args.toList w'.heap K)
theorem OpOK.val {P : Program} {s : Sem Value} {w : World} {K : Value → Heap → Prop} (h : ∃ v w', s.run P w = .ok v w' ∧ Same w w' ∧ K v w'.heap) :
    OpOK P (do pure (.value (← s))) w K := by
  obtain ⟨v, w', hr, hs, hk⟩ := h
  exact .inl ⟨v, w', by simp [hr], hs, hk⟩
theorem OpOK.pureV {P : Program} {s : Sem Value} {w : World} {K : Value → Heap → Prop} {v : Value} (hr : s.run P w = .ok v w) (hk : K v w.heap) :
    OpOK P (do pure (.value (← s))) w K := OpOK.val ⟨v, w, hr, Same.refl w, hk⟩
theorem OpOK.unit {P : Program} {s : Sem Unit} {w : World} {K : Value → Heap → Prop} (h : ∃ w', s.run P w = .ok () w' ∧ Same w w' ∧ K undef w'.heap) :
    OpOK P (do s; pure .skip) w K := by
  obtain ⟨w', hr, hs, hk⟩ := h
  exact .inr (.inl ⟨w', by simp [hr], hs, hk⟩)
theorem OpOK.now {P : Program} {w : World} {K : Value → Heap → Prop} {v : Value} (hk : K v w.heap) : OpOK P (pure (.value v)) w K :=
  .inl ⟨v, w, rfl, Same.refl w, hk⟩

theorem Same.alloc (w : World) (H : Heap) : Same w { w with heap := H } := ⟨rfl, rfl, rfl⟩
theorem Same.drew (w : World) : Same w { w with drawn := w.drawn + 1 } := ⟨rfl, rfl, rfl⟩

/-! ### Arithmetic and comparisons -/
theorem run_equal_bool {P : Program} {t : Nat} (hu : P.underlying t = some .bool) (a b : Bool) (w : World) : (Op.equal t (.bool a) (.bool b)).run P w = .ok (a == b) w := by
  rw [Op.equal, show Op.maxDepth = 9999 + 1 from rfl, Op.equalIn]
  simp only [Sem.run_bind, run_und hu, Result.andThen_ok, Sem.run_pure]
theorem run_equal_slice_nil {P : Program} {t e : Nat} (hu : P.underlying t = some (.slice e)) (A : Option Addr) (n c m d : Nat) (w : World) : (Op.equal t (.slice A n c) (.slice none m d)).run P w = .ok A.isNone w := by
  rw [Op.equal, show Op.maxDepth = 9999 + 1 from rfl, Op.equalIn]
  cases A <;> simp only [Sem.run_bind, run_und hu, Result.andThen_ok, Sem.run_pure, Option.isNone]
theorem bin_eql_bool (t : Nat) (a b : Bool) : binOp .eql t (.bool a) (.bool b) = (do pure (.bool (← Op.equal t (.bool a) (.bool b)))) := rfl
theorem bin_neq_bool (t : Nat) (a b : Bool) : binOp .neq t (.bool a) (.bool b) = (do pure (.bool (!(← Op.equal t (.bool a) (.bool b))))) := rfl
theorem bin_eql_slice (t : Nat) (A B : Option Addr) (n c m d : Nat) : binOp .eql t (.slice A n c) (.slice B m d) = (do pure (.bool (← Op.equal t (.slice A n c) (.slice B m d)))) := rfl
theorem bin_neq_slice (t : Nat) (A B : Option Addr) (n c m d : Nat) : binOp .neq t (.slice A n c) (.slice B m d) = (do pure (.bool (!(← Op.equal t (.slice A n c) (.slice B m d))))) := rfl
theorem cond_dec {p q : Prop} [Decidable p] (h : cond (decide p) q False) : p ∧ q := by
  by_cases hp : p
  · rw [decide_eq_true hp] at h; exact ⟨hp, h⟩
  · rw [decide_eq_false hp] at h; exact h.elim
theorem bin_sound {P : Program} {T : Nat → TI} (hT : AllFit P T) {op : BinOp} {t : Nat} {x y : Operand} {a b : Value} {H : Heap} {K : Value → Heap → Prop}
    (h : BinH P op t (T t) H x y a b K) : ∃ v, (∀ w, (do eqGuard op t x y a b; binOp op t a b : Sem Value).run P w = .ok v w) ∧ K v H := by
  unfold BinH at h
  split at h
  · rename_i k a k' b
    have hg : ∀ w, (eqGuard op t x y (.int k a) (.int k' b)).run P w = .ok () w := by intro w; unfold eqGuard; split <;> rfl
    cases op
    case shl => obtain ⟨h0, h⟩ := h; exact ⟨_, fun w => by simp [hg, binOp, Op.shift, Int.not_lt.2 h0], h⟩
    case shr => obtain ⟨h0, h⟩ := h; exact ⟨_, fun w => by simp [hg, binOp, Op.shift, Int.not_lt.2 h0], h⟩
    case quo => obtain ⟨e, h0, h2⟩ := cond_dec h; subst e; exact ⟨_, fun w => by simp [hg, binOp, Op.intDiv, h0], h2⟩
    case rem => obtain ⟨e, h0, h2⟩ := cond_dec h; subst e; exact ⟨_, fun w => by simp [hg, binOp, Op.intDiv, h0], h2⟩
    all_goals (obtain ⟨e, h2⟩ := cond_dec h; subst e; exact ⟨_, fun w => by simp [hg, binOp, Op.intArith, Op.intCmp, Op.intBits, bitsOf], h2⟩)
  · rename_i a b
    have hg : ∀ w, (eqGuard op t x y (.bool a) (.bool b)).run P w = .ok () w := by intro w; unfold eqGuard; split <;> rfl
    split at h
    · rename_i hk
      have hu := (hT t (by rw [hk]; simp)).1; rw [hk] at hu
      exact ⟨_, fun w => by simp only [Sem.run_bind, hg, Result.andThen_ok, bin_eql_bool, run_equal_bool hu, Sem.run_pure], h⟩
    · rename_i hk
      have hu := (hT t (by rw [hk]; simp)).1; rw [hk] at hu
      exact ⟨.bool (!(a == b)), fun w => by simp only [Sem.run_bind, hg, Result.andThen_ok, bin_neq_bool, run_equal_bool hu, Sem.run_pure], h⟩
    · exact h.elim
  · rename_i A n c
    have hg : ∀ w, (eqGuard op t x y (.slice A n c) (.slice none 0 0)).run P w = .ok () w := by intro w; unfold eqGuard; split <;> rfl
    split at h
    · rename_i hk
      have hu := (hT t (by rw [hk]; simp)).1; rw [hk] at hu
      exact ⟨_, fun w => by simp only [Sem.run_bind, hg, Result.andThen_ok, bin_eql_slice, run_equal_slice_nil hu.1, Sem.run_pure], h⟩
    · rename_i hk
      have hu := (hT t (by rw [hk]; simp)).1; rw [hk] at hu
      exact ⟨_, fun w => by simp only [Sem.run_bind, hg, Result.andThen_ok, bin_neq_slice, run_equal_slice_nil hu.1, Sem.run_pure], h⟩
    · exact h.elim
  · exact h

/-! ### Slices, indices, makes -/
theorem bounds_sound {P : Program} {b : Bool} {n c : Nat} {lo hi : Option Value} {l h : Int} (hl : (lo = none ∧ l = 0) ∨ ∃ k, lo = some (.int k l)) (hh : (hi = none ∧ h = n) ∨ (h ≤ (c : Int) ∧ ∃ k, hi = some (.int k h))) (h0 : 0 ≤ l) (h1 : l ≤ h) (w : World) :
    (Instr.sliceBounds b n c lo hi none).run P w = .ok (l.toNat, h.toNat, c) w := by
  have e0 : 0 ≤ h := by omega
  rcases hl with ⟨rfl, rfl⟩ | ⟨k, rfl⟩ <;> rcases hh with ⟨rfl, rfl⟩ | ⟨h2, k', rfl⟩ <;>
    simp [Instr.sliceBounds, Instr.sliceBound, asIntOf, h0, h1, e0, *] <;> (intro hx; exfalso; omega)

theorem slice_cases {sz : Nat} {A : Option Addr} {n c : Nat} {lo hi : Option Value} {κ : Value → Prop} (h : SliceH sz A n c lo hi κ) :
    ∃ l h' : Int, ((lo = none ∧ l = 0) ∨ ∃ k, lo = some (.int k l)) ∧ ((hi = none ∧ h' = n) ∨ (h' ≤ (c : Int) ∧ ∃ k, hi = some (.int k h'))) ∧ 0 ≤ l ∧ l ≤ h' ∧
      κ (.slice (if c = l.toNat then A else A.map (·.add (l.toNat * sz))) (h'.toNat - l.toNat) (c - l.toNat)) := by
  have add0 : ∀ A : Option Addr, A.map (·.add (0 * sz)) = A := fun A => by cases A <;> simp [Addr.add]
  unfold SliceH at h
  split at h
  · exact ⟨0, n, .inl ⟨rfl, rfl⟩, .inl ⟨rfl, rfl⟩, by omega, by omega, by
      have : (if c = (0 : Int).toNat then A else A.map (·.add ((0 : Int).toNat * sz))) = A := by split; rfl; exact add0 A
      rw [this]; exact h⟩
  · rename_i k h'
    obtain ⟨h0, h1, h⟩ := h
    exact ⟨0, h', .inl ⟨rfl, rfl⟩, .inr ⟨h1, k, rfl⟩, by omega, by omega, by
      have : (if c = (0 : Int).toNat then A else A.map (·.add ((0 : Int).toNat * sz))) = A := by split; rfl; exact add0 A
      rw [this]; exact h⟩
  · rename_i k l
    obtain ⟨h0, h1, h⟩ := h
    exact ⟨l, n, .inr ⟨k, rfl⟩, .inl ⟨rfl, rfl⟩, h0, h1, by simpa [SubA, scale_eq] using h⟩
  · rename_i k l k' h'
    obtain ⟨h0, h1, h2, h⟩ := h
    exact ⟨l, h', .inr ⟨k, rfl⟩, .inr ⟨h2, k', rfl⟩, h0, h1, by simpa [SubA, scale_eq] using h⟩
  · exact h.elim

theorem slice_sound {P : Program} {T : Nat → TI} (hT : AllFit P T) {t e : Nat} (hk : (T t).kind = .slice e) {A : Option Addr} {n c : Nat} {lo hi : Option Value} {κ : Value → Prop}
    (h : SliceH (T e).size A n c lo hi κ) : ∃ v, (∀ w : World, (Instr.sliceAt t (.slice A n c) lo hi none).run P w = .ok v w) ∧ κ v := by
  have hu := (hT t (by rw [hk]; simp)).1; rw [hk] at hu
  have hs := fun w => run_sizeOf' hT (TI.known_ne hu.2) w
  obtain ⟨l, h', hl, hh, h0, h1, h⟩ := slice_cases h
  refine ⟨_, fun w => ?_, h⟩
  simp [Instr.sliceAt, Instr.slice, run_und hu.1, bounds_sound hl hh h0 h1, hs w]
theorem slice_arr_sound {P : Program} {T : Nat → TI} (hT : AllFit P T) {t m e : Nat} (hk : (T t).kind = .array m e) {a : Addr} {lo hi : Option Value} {κ : Value → Prop}
    (h : SliceH (T e).size (some a) m m lo hi κ) : ∃ v, (∀ w : World, (Instr.sliceAt t (.pointer (some a)) lo hi none).run P w = .ok v w) ∧ κ v := by
  have hu := (hT t (by rw [hk]; simp)).1; rw [hk] at hu
  have hs := fun w => run_sizeOf' hT (TI.known_ne hu.2) w
  obtain ⟨l, h', hl, hh, h0, h1, h⟩ := slice_cases h
  refine ⟨_, fun w => ?_, h⟩
  simp [Instr.sliceAt, run_und hu.1, bounds_sound hl hh h0 h1, hs w, Instr.sureAddr]
  split <;> rfl

theorem index_sound {P : Program} {T : Nat → TI} (hT : AllFit P T) {t e : Nat} (hk : (T t).kind = .slice e) {a : Addr} {n c : Nat} {k : IntKind} {i : Int} (h0 : 0 ≤ i) (h1 : i < (n : Int)) (w : World) :
    (Instr.indexAt t (.slice (some a) n c) (.int k i)).run P w = .ok (.pointer (some (a.add (scale i.toNat (T e).size)))) w := by
  have hu := (hT t (by rw [hk]; simp)).1; rw [hk] at hu
  have hs := fun w => run_sizeOf' hT (TI.known_ne hu.2) w
  simp [Instr.indexAt, asIntOf, run_und hu.1, h0, h1, hs w, scale_eq]
theorem index_arr_sound {P : Program} {T : Nat → TI} (hT : AllFit P T) {t m e : Nat} (hk : (T t).kind = .array m e) {a : Addr} {k : IntKind} {i : Int} (h0 : 0 ≤ i) (h1 : i < (m : Int)) (w : World) :
    (Instr.indexAt t (.pointer (some a)) (.int k i)).run P w = .ok (.pointer (some (a.add (scale i.toNat (T e).size)))) w := by
  have hu := (hT t (by rw [hk]; simp)).1; rw [hk] at hu
  have hs := fun w => run_sizeOf' hT (TI.known_ne hu.2) w
  simp [Instr.indexAt, asIntOf, run_und hu.1, h0, h1, hs w, Instr.sureAddr, scale_eq]

theorem repl_succ (m : Nat) (z : List Value) : repl (m + 1) z = z ++ repl m z := by simp [repl, List.replicate_succ]
theorem repl_zero (z : List Value) : repl 0 z = [] := rfl
theorem repl_length (m : Nat) (z : List Value) : (repl m z).length = m * z.length := by simp [repl, List.length_flatten]
theorem repl_get (z : List Value) : ∀ (m i : Nat), i < m * z.length → (repl m z)[i]? = z[i % z.length]?
  | 0, i, h => by simp at h
  | m + 1, i, h => by
    rw [repl_succ]
    by_cases hi : i < z.length
    · rw [List.getElem?_append_left hi, Nat.mod_eq_of_lt hi]
    · have hm : (m + 1) * z.length = m * z.length + z.length := Nat.succ_mul _ _
      rw [List.getElem?_append_right (by omega), repl_get z m (i - z.length) (by omega), ← Nat.mod_eq_sub_mod (by omega)]
theorem zero_repeat (z : Array Value) (m : Nat) : (Array.range (m * z.size)).map (fun i => z[i % z.size]!) = (repl m z.toList).toArray := by
  apply Array.ext
  · simp [repl_length]
  · intro i h1 h2
    simp at h1
    have hz : 0 < z.size := by
      rcases Nat.eq_zero_or_pos z.size with h | h
      · simp [h] at h1
      · exact h
    have hlt := Nat.mod_lt i hz
    have hg := repl_get z.toList m i (by simpa using h1)
    simp only [Array.getElem_map, Array.getElem_range, List.getElem_toArray]
    rw [getElem!_pos z _ hlt]
    have h2' : i < (repl m z.toList).length := by simpa using h2
    rw [List.getElem?_eq_getElem h2', Array.length_toList, List.getElem?_eq_getElem (by simpa using hlt)] at hg
    simpa using (Option.some.inj hg).symm

theorem make_sound {P : Program} {T : Nat → TI} (hT : AllFit P T) {t e : Nat} (hk : (T t).kind = .slice e) {kl kc : IntKind} {n m : Int} (h0 : 0 ≤ n) (h1 : n ≤ m) (h2 : m * ((T e).bytes : Int) ≤ 2 ^ 48) (h3 : m < 2 ^ 62) (w : World) :
    (Instr.makeSlice t (.int kl n) (.int kc m)).run P w = .ok (.slice (some ⟨w.heap.size, 0, none⟩) n.toNat m.toNat) { w with heap := w.heap.push (.cells (repl m.toNat (T e).zero).toArray e (0, 0)) } := by
  have hu := (hT t (by rw [hk]; simp)).1; rw [hk] at hu
  obtain ⟨j, hi, hs, hb, z, hz, hc⟩ := run_info hT (TI.known_ne hu.2) w
  have hzl := (hT e (TI.known_ne hu.2)).2.2.1
  have hsz : z.cells.size = j.size := by rw [hs, ← hzl, ← hc, Array.length_toList]
  have := run_make (P := P) w t e j z hu.1 hi hz kl kc n m h0 h1 (by rw [hb, Int.mul_comm]; omega) (by omega)
  rw [this]
  have hm : madeCells z.cells (m.toNat * j.size) = (repl m.toNat (T e).zero).toArray := by
    rw [← hsz, ← hc]; exact zero_repeat z.cells m.toNat
  rw [hm]; rfl

/-! ### append and copy -/
theorem firstCells_sound {P : Program} {sz m : Nat} {B : Option Addr} {l c : Nat} {new : List Value} {w : World} (hl : new.length = m * sz) (h : ReadsC w.heap B new) :
    (Builtin.firstCells sz m (.slice B l c)).run P w = .ok new.toArray w := by
  cases B with
  | none => simp only [ReadsC] at h; subst h; simp [Builtin.firstCells]
  | some b =>
    simp only [ReadsC] at h
    exact run_firstCells_some (P := P) (w := w) sz m b l c new hl (fun j v hj => by
      obtain ⟨hj', rfl⟩ := List.getElem?_eq_some_iff.1 hj
      exact h j hj')

theorem zeroCells_repl (z : Array Value) (n : Nat) : Builtin.zeroCells z n = (repl n z.toList).toArray := zero_repeat z n

theorem heap_of_same {w w' : World} {H : Heap} (h : w' = { w with heap := H }) : w'.heap = H := by rw [h]

set_option maxHeartbeats 1000000 in
theorem append_sound {P : Program} {T : Nat → TI} (hT : AllFit P T) {t u ty e e' : Nat} (hk : (T t).kind = .slice e) (hku : (T u).kind = .slice e') {A B : Option Addr} {n c m l : Nat} {w : World} {K : Value → Heap → Prop}
    (h : AppendV e (T e).size (T e).bytes (T e).zero w.heap A n c B m fun A n c H' => K (.slice A n c) H') :
    ∃ v w', (Builtin.append_ #[t, u] ty #[.slice A n c, .slice B m l]).run P w = .ok v w' ∧ Same w w' ∧ K v w'.heap := by
  have hu := (hT t (by rw [hk]; simp)).1; rw [hk] at hu
  have huu := (hT u (by rw [hku]; simp)).1; rw [hku] at huu
  obtain ⟨j, hi, hs, hb, z, hz, hc⟩ := run_info hT (TI.known_ne hu.2) w
  have hzl := (hT e (TI.known_ne hu.2)).2.2.1
  obtain ⟨new, hnl, hnr, hcell, hfit, hgrow⟩ := h
  have hf := firstCells_sound (P := P) (l := m) (c := l) hnl hnr
  by_cases hroom : n + m ≤ c
  · have h1 := hfit hroom
    cases A with
    | none =>
      refine ⟨_, w, ?_, Same.refl w, h1⟩
      simp [Builtin.append_, run_und hu.1, run_und huu.1, sizeOf, typeInfo, hi, Builtin.lenOf, hroom, hs, hf]
    | some a =>
      obtain ⟨hm, hk'⟩ := h1
      obtain ⟨w', hr, hsm, hh⟩ := mayWrite_stores (P := P) hm hcell
      refine ⟨_, w', ?_, hsm, by rw [hh]; exact hk'⟩
      simp [Builtin.append_, run_und hu.1, run_und huu.1, sizeOf, typeInfo, hi, Builtin.lenOf, hroom, hs, hf, hr]
  · obtain ⟨h48, h62, old, hol, hor, hkk⟩ := hgrow (by omega)
    have h63' : ¬ (9223372036854775807 < ((n : Int) + (m : Int))) := by omega
    have h48' : ¬ (281474976710656 < Builtin.nextslicecap (n + m) c * (T e).bytes) := by omega
    have hge := grownCap_ge w (n + m) c e
    have hnr' : ReadsC w.drew.heap B new := hnr
    have hor' : ReadsC w.drew.heap A old := hor
    have hf1 := firstCells_sound (P := P) (l := m) (c := l) hnl hnr'
    have hf2 := firstCells_sound (P := P) (l := n) (c := c) hol hor'
    refine ⟨_, w.drew.alloc (.cells (old ++ new ++ repl (grownCap w (n + m) c e - (n + m)) (T e).zero).toArray e (0, 0)), ?_, ⟨rfl, rfl, rfl⟩, hkk _ hge⟩
    simp [Builtin.append_, run_und hu.1, run_und huu.1, sizeOf, typeInfo, zeroValue, hi, hz, Builtin.lenOf, hroom, hs, hb, h63', h48', Question.forced, hf1, hf2, newRow, grownCap, zeroCells_repl, hc]

set_option maxHeartbeats 1000000 in
theorem append_make_sound {P : Program} {T : Nat → TI} (hT : AllFit P T) {t u ty e : Nat} (hk : (T t).kind = .slice e) (hku : (T u).kind = .int .i64) {A : Option Addr} {n c : Nat} {k : IntKind} {i : Int} {w : World} {K : Value → Heap → Prop}
    (h0 : 0 ≤ i) (h1 : i * ((T e).bytes : Int) ≤ 2 ^ 48) (h2 : i < 2 ^ 62)
    (h : AppendT e (T e).size (T e).bytes (T e).zero w.heap A n c i.toNat (repl i.toNat (T e).zero) fun A n c H' => K (.slice A n c) H') :
    ∃ v w', (Builtin.append_ #[t, u] ty #[.slice A n c, .int k i]).run P w = .ok v w' ∧ Same w w' ∧ K v w'.heap := by
  have hu := (hT t (by rw [hk]; simp)).1; rw [hk] at hu
  have huu : P.underlying u = some (.int .i64) := by have := (hT u (by rw [hku]; simp)).1; rwa [hku] at this
  obtain ⟨j, hi, hs, hb, z, hz, hc⟩ := run_info hT (TI.known_ne hu.2) w
  have hzl := (hT e (TI.known_ne hu.2)).2.2.1
  obtain ⟨hcell, hfit, hgrow⟩ := h
  have wi : IntKind.i64.wrap i = i := by rw [IntKind.wrap_i64]; omega
  have n0 : ¬ i < 0 := by omega
  have n1 : ¬ (281474976710656 < i * ((T e).bytes : Int)) := by omega
  have hz0 : i.toNat * (T e).size = 0 → repl i.toNat (T e).zero = [] := fun h => List.eq_nil_of_length_eq_zero (by rw [repl_length, hzl]; exact h)
  by_cases hroom : n + i.toNat ≤ c
  · have h1 := hfit hroom
    cases A with
    | none =>
      refine ⟨_, w, ?_, Same.refl w, h1⟩
      by_cases hn : i.toNat * (T e).size = 0
      · simp [Builtin.append_, run_und hu.1, run_und huu, sizeOf, typeInfo, hi, asInt, asIntOf, wi, n0, n1, hb, hroom, hs, hn]
      · simp [Builtin.append_, run_und hu.1, run_und huu, sizeOf, typeInfo, zeroValue, hz, hi, asInt, asIntOf, wi, n0, n1, hb, hroom, hs, hn]
    | some a =>
      obtain ⟨hm, hk'⟩ := h1
      obtain ⟨w', hr, hsm, hh⟩ := mayWrite_stores (P := P) hm hcell
      refine ⟨_, w', ?_, hsm, by rw [hh]; exact hk'⟩
      by_cases hn : i.toNat * (T e).size = 0
      · rw [hz0 hn] at hr
        simp [Builtin.append_, run_und hu.1, run_und huu, sizeOf, typeInfo, hi, asInt, asIntOf, wi, n0, n1, hb, hroom, hs, hn, hr]
      · simp [Builtin.append_, run_und hu.1, run_und huu, sizeOf, typeInfo, zeroValue, hz, hi, asInt, asIntOf, wi, n0, n1, hb, hroom, hs, hn, hr, zeroCells_repl, hc]
  · obtain ⟨h48, h62, old, hol, hor, hkk⟩ := hgrow (by omega)
    have h63' : ¬ (9223372036854775807 < ((n : Int) + (i.toNat : Int))) := by omega
    have h48' : ¬ (281474976710656 < Builtin.nextslicecap (n + i.toNat) c * (T e).bytes) := by omega
    have hge := grownCap_ge w (n + i.toNat) c e
    have hor' : ReadsC w.drew.heap A old := hor
    have hf2 := firstCells_sound (P := P) (l := n) (c := c) hol hor'
    refine ⟨_, w.drew.alloc (.cells (old ++ repl i.toNat (T e).zero ++ repl (grownCap w (n + i.toNat) c e - (n + i.toNat)) (T e).zero).toArray e (0, 0)), ?_, ⟨rfl, rfl, rfl⟩, hkk _ hge⟩
    have h63'' : ¬ (9223372036854775807 < ((n : Int) + max i 0)) := by omega
    by_cases hn : i.toNat * (T e).size = 0
    · rw [hz0 hn]
      simp [Builtin.append_, run_und hu.1, run_und huu, sizeOf, typeInfo, zeroValue, hi, hz, asInt, asIntOf, wi, n0, n1, hroom, hs, hb, h63', h63'', h48', Question.forced, hf2, newRow, grownCap, zeroCells_repl, hc, hn]
    · simp [Builtin.append_, run_und hu.1, run_und huu, sizeOf, typeInfo, zeroValue, hi, hz, asInt, asIntOf, wi, n0, n1, hroom, hs, hb, h63', h63'', h48', Question.forced, hf2, newRow, grownCap, zeroCells_repl, hc, hn]

theorem copy_sound {P : Program} {T : Nat → TI} (hT : AllFit P T) {t ty e : Nat} (hk : (T t).kind = .slice e) {A B : Option Addr} {n c m l : Nat} {w : World} {K : Value → Heap → Prop}
    (h : CopyV (T e).size w.heap A n B m fun m H' => K (.int .i64 m) H') (rest : List Nat) :
    ∃ v w', (Builtin.copy_ (t :: rest).toArray ty #[.slice A n c, .slice B m l]).run P w = .ok v w' ∧ Same w w' ∧ K v w'.heap := by
  have hu := (hT t (by rw [hk]; simp)).1; rw [hk] at hu
  obtain ⟨j, hi, hs, hb, z, hz, hc⟩ := run_info hT (TI.known_ne hu.2) w
  obtain ⟨new, hnl, hnr, hcell, h⟩ := h
  have hf := firstCells_sound (P := P) (l := m) (c := l) hnl hnr
  have hmin : Nat.min m n = min m n := rfl
  cases A with
  | none =>
    refine ⟨_, w, ?_, Same.refl w, h⟩
    simp [Builtin.copy_, run_und hu.1, sizeOf, typeInfo, hi, Builtin.lenOf, hs, hf, hmin, goInt]
  | some a =>
    obtain ⟨hm, hk'⟩ := h
    obtain ⟨w', hr, hsm, hh⟩ := mayWrite_stores (P := P) hm hcell
    refine ⟨_, w', ?_, hsm, by rw [hh]; exact hk'⟩
    simp [Builtin.copy_, run_und hu.1, sizeOf, typeInfo, hi, Builtin.lenOf, hs, hf, hmin, goInt, hr]

/-! ### Literals -/
theorem setRange_length : ∀ (vs cs : List Value) (off : Nat), (setRange cs off vs).length = cs.length
  | [], cs, off => rfl
  | v :: vs, cs, off => by rw [setRange, setRange_length vs, List.length_set]
theorem fold_setRange (off : Nat) : ∀ (vs : List Value) (k : Nat) (cells : List Value),
    (vs.zipIdx k).foldl (fun (cs : Array Value) (p : Value × Nat) => cs.setIfInBounds (off + p.2) p.1) cells.toArray = (setRange cells (off + k) vs).toArray
  | [], k, cells => rfl
  | v :: vs, k, cells => by
    rw [List.zipIdx_cons, List.foldl_cons, setRange, List.setIfInBounds_toArray, fold_setRange off vs (k + 1)]
    rfl
theorem fill_sound (f : Nat → Option (Nat × Nat)) : ∀ (parts : List (Nat × Value)) (cells cs : List Value), fillL f cells parts = some cs → Instr.fill f cells.toArray parts = some cs.toArray
  | [], cells, cs, h => by simp only [fillL, Option.some.injEq] at h; subst h; rfl
  | (i, v) :: rest, cells, cs, h => by
    unfold fillL at h
    unfold Instr.fill
    split at h
    · cases h
    · rename_i off size hf
      rw [hf]
      split at h
      · rename_i hs
        have h1 : v.cells.size = size := by rw [← Array.length_toList]; exact hs.1
        have := fill_sound f rest _ cs h
        have hfold : Array.foldl (fun (cs : Array Value) (x : Value × Nat) => cs.setIfInBounds (off + x.2) x.1) cells.toArray v.cells.zipIdx = (setRange cells off v.cells.toList).toArray := by
          have h2 := fold_setRange off v.cells.toList 0 cells
          rw [Nat.add_zero] at h2
          rw [← h2, ← Array.foldl_toList, Array.toList_zipIdx]
        simp only [h1, ne_eq, not_true_eq_false, decide_false, Bool.false_or, List.size_toArray, gt_iff_lt, decide_eq_true_eq, Nat.not_lt.2 hs.2, Bool.false_eq_true, if_false]
        rw [hfold, this]
      · cases h

theorem build_sound {P : Program} {T : Nat → TI} (hT : AllFit P T) {t : Nat} {fs : List (Nat × Sh)} (hk : (T t).kind = .struct fs) {parts : List (Nat × Value)} {cs : List Value}
    (h : fillL (fun i => (fs[i]?).map fun f => (f.1, f.2.size)) (T t).zero parts = some cs) (w : World) :
    (Instr.build t parts.toArray).run P w = .ok (.agg cs.toArray) w := by
  have hne : (T t).kind ≠ .other := by rw [hk]; simp
  have hu := (hT t hne).1; rw [hk] at hu
  obtain ⟨F, hF, rfl, hall'⟩ := hu
  have hall := fields_of hall'
  obtain ⟨z, hz, hzc⟩ := run_zero' hT hne w
  have hmap : ∀ (l : List Field) (w : World), (∀ f ∈ l, (T f.type).kind ≠ .other ∧ (T f.type).size ≠ 0) →
      (l.mapM fun f => (do pure (f.offset, ← sizeOf f.type) : Sem (Nat × Nat))).run P w = .ok (l.map fun f => (f.offset, (T f.type).sh.size)) w := by
    intro l
    induction l with
    | nil => intro w _; rfl
    | cons f l ih =>
      intro w hl
      have h1 := run_sizeOf' hT (hl f (List.mem_cons_self ..)).1 w
      have h2 := ih w fun g hg => hl g (List.mem_cons_of_mem _ hg)
      simp only [List.mapM_cons, Sem.run_bind, h1, Result.andThen_ok, Sem.run_pure, h2, List.map_cons, TI.size]
  have hm := hmap F.toList w hall
  have hfs : ∀ i : Nat, ((F.toList.map fun f => (f.offset, (T f.type).sh.size)).toArray)[i]? = ((F.toList.map (fun f => (f.offset, (T f.type).sh)))[i]?).map fun (f : Nat × Sh) => (f.1, f.2.size) := by
    intro i; simp [List.getElem?_map, Function.comp_def]
  have hfill := fill_sound _ _ _ _ h
  have hmA : (F.mapM fun f => (do pure (f.offset, ← sizeOf f.type) : Sem (Nat × Nat))).run P w = .ok (F.toList.map fun f => (f.offset, (T f.type).sh.size)).toArray w := by
    rw [Array.mapM_eq_mapM_toList, Sem.run_map, hm]; rfl
  have hzt : z.cells = (T t).zero.toArray := by rw [← hzc]
  simp only [Instr.build, Sem.run_bind, hz, Result.andThen_ok, run_und hF, hmA, List.toList_toArray]
  rw [hzt]
  have hfs' : (fun x => (F.toList.map fun (f : Field) => (f.offset, (T f.type).sh.size)).toArray[x]?) = (fun i => ((F.toList.map (fun (f : Field) => (f.offset, (T f.type).sh)))[i]?).map fun (f : Nat × Sh) => (f.1, f.2.size)) := funext hfs
  rw [hfs', hfill]
  rfl

theorem build_arr_sound {P : Program} {T : Nat → TI} (hT : AllFit P T) {t n e : Nat} (hk : (T t).kind = .array n e) {parts : List (Nat × Value)} {cs : List Value}
    (h : fillL (fun i => some (i * (T e).size, (T e).size)) (T t).zero parts = some cs) (w : World) :
    (Instr.build t parts.toArray).run P w = .ok (.agg cs.toArray) w := by
  have hne : (T t).kind ≠ .other := by rw [hk]; simp
  have hu := (hT t hne).1; rw [hk] at hu
  obtain ⟨z, hz, hzc⟩ := run_zero' hT hne w
  have hfill := fill_sound _ _ _ _ h
  have hzt : z.cells = (T t).zero.toArray := by rw [← hzc]
  have hs := run_sizeOf' hT (TI.known_ne hu.2) w
  simp only [Instr.build, Sem.run_bind, hz, Result.andThen_ok, run_und hu.1, hs, List.toList_toArray]
  rw [hzt, hfill]
  rfl

theorem buildSlice_sound {P : Program} {T : Nat → TI} (hT : AllFit P T) {t len e : Nat} (hk : (T t).kind = .slice e) {parts : List (Nat × Value)} {cs : List Value}
    (h : fillL (fun i => some (i * (T e).size, (T e).size)) (repl len (T e).zero) parts = some cs) (hl : len * (T e).size ≤ 2 ^ 24) (w : World) :
    (Instr.buildSlice t len parts.toArray).run P w = .ok (.slice (some ⟨w.heap.size, 0, none⟩) len len) { w with heap := w.heap.push (.cells cs.toArray e (0, 0)) } := by
  have hu := (hT t (by rw [hk]; simp)).1; rw [hk] at hu
  obtain ⟨z, hz, hzc⟩ := run_zero' hT (TI.known_ne hu.2) w
  have hzl := (hT e (TI.known_ne hu.2)).2.2.1
  have hs := run_sizeOf' hT (TI.known_ne hu.2) w
  have hfill := fill_sound _ _ _ _ h
  have hzs : z.cells.size = (T e).size := by rw [← hzl, ← hzc, Array.length_toList]
  have hn : ¬ (16777216 < len * (T e).size) := by omega
  have hz' : (Array.range (len * (T e).size)).map (fun i => z.cells[i % z.cells.size]!) = (repl len (T e).zero).toArray := by
    rw [← hzs, ← hzc]; exact zero_repeat z.cells len
  by_cases h0 : len * (T e).size = 0
  · have hr : repl len (T e).zero = [] := List.eq_nil_of_length_eq_zero (by rw [repl_length, hzl]; exact h0)
    rw [hr] at hfill
    have hfill' : Instr.fill (fun i => some (i * (T e).size, (T e).size)) #[] parts = some cs.toArray := hfill
    have hr0 : (Array.range 0).map (fun _ : Nat => (default : Value)) = #[] := by simp
    simp [Instr.buildSlice, run_und hu.1, hs, h0]
    rw [hr0, hfill']
    rfl
  · simp [Instr.buildSlice, run_und hu.1, hs, hn, h0, hz, newRow]
    rw [hz', hfill]
    rfl
end Go.Sx

