import Derived.Test.YtlhcaangdenoaaaSxOps
set_option linter.unusedVariables false
set_option linter.unusedSimpArgs false
namespace Go.Sx

/-- The first nf functions have bodies of their own. -/
def Bodies (P : Program) (nf : Nat) : Prop := ∀ f, hasB nf f = true → ∃ fn, P.funcs[f]? = some fn ∧ fn.body.isNone = false ∧ (fn.name == "runtime.NumGoroutine") = false
def bodiesB (P : Program) (nf : Nat) : Bool := (List.range nf).all fun f => !Nat.blt 1 f || match P.funcs[f]? with
  | some fn => !fn.body.isNone && !(fn.name == "runtime.NumGoroutine")
  | none => false
theorem Bodies.of {P : Program} {nf : Nat} (h : bodiesB P nf = true) : Bodies P nf := by
  intro f hf
  simp only [hasB, Bool.and_eq_true] at hf
  have hlt : f < nf := by simpa [Nat.blt_eq] using hf.2
  have := List.all_eq_true.1 h f (List.mem_range.2 hlt)
  rw [hf.1] at this
  cases hfn : P.funcs[f]? with
  | none => rw [hfn] at this; simp at this
  | some fn => rw [hfn] at this; simp at this; exact ⟨fn, rfl, by simpa using this.1, by simpa using this.2⟩

theorem callFunc_sound {P : Program} {nf f : Nat} (hB : Bodies P nf) (hf : hasB nf f = true) (args : Array Value) (w : World) :
    (callFunc f args).run P w = .ok (.enter f args) w := by
  obtain ⟨fn, h1, h2, h3⟩ := hB f hf
  have h3' : ¬ fn.name = "runtime.NumGoroutine" := by simpa using h3
  have h2' : ¬ fn.body = none := by intro h; simp [h] at h2
  simp [callFunc, h1, h2', h3']

theorem TyRes.imp {l : List Sh} {v : Value} {H : Heap} {K : Value → Heap → Prop} (h : TyRes l fun v' => v = v' ∧ K v' H) : K v H := by
  obtain ⟨v', rfl, h⟩ := TyRes.out h; exact h

theorem cond_true {b : Bool} {q : Prop} (h : cond b q False) : b = true ∧ q := by cases b; exact h.elim; exact ⟨rfl, h⟩
theorem callV_sound {P : Program} {nf : Nat} (hB : Bodies P nf) {v : Value} {args : List Value} {w : World} {K : Value → Heap → Prop}
    (h : CallV P nf v args w.heap K) : OpOK P (do let d ← Deferred.ofValue v args.toArray; invoke d.target d.args) w K := by
  unfold CallV at h
  split at h
  · rename_i f first cap
    obtain ⟨hf, h⟩ := cond_true h
    refine .inr (.inr ⟨f, first ++ args.toArray ++ cap, w, ?_, Same.refl w, ?_⟩)
    · simp [Deferred.ofValue, invoke, callFunc_sound hB hf]
    · simpa using h
  · exact h.elim

theorem len_sound {P : Program} {T : Nat → TI} (hT : AllFit P T) {t ty n e : Nat} (hk : (T t).kind = .slice e) (rest : List Nat) (A : Option Addr) (c : Nat) (w : World) :
    (Builtin.len_ (t :: rest).toArray ty #[.slice A n c]).run P w = .ok (.int .i64 n) w := by
  have hu := (hT t (by rw [hk]; simp)).1; rw [hk] at hu
  simp [Builtin.len_, run_und hu.1, goInt]

set_option maxHeartbeats 1000000 in
theorem builtin_sound {P : Program} {T : Nat → TI} (hT : AllFit P T) {b : Builtin} {ts : List Nat} {args : List Value} {ty : Nat} {consts : Array Bool} {w : World} {K : Value → Heap → Prop}
    (h : sxBuiltin P T b ts args w.heap K) : OpOK P (builtin b ts.toArray ty consts args.toArray) w K := by
  unfold sxBuiltin at h
  split at h
  · split at h
    · split at h
      · rename_i hk
        exact OpOK.pureV (len_sound hT hk _ _ _ w) h
      · exact h.elim
    · exact h.elim
  · split at h
    · split at h
      · rename_i t rest _ hk
        obtain ⟨es, clock, hr, h⟩ := h
        have hu := (hT t (by rw [hk]; simp)).1; rw [hk] at hu
        obtain ⟨k, e, hu⟩ := hu
        exact OpOK.pureV (v := .int .i64 es.size) (by simp [Builtin.len_, run_und hu, goInt, getObj, Sem.run, hr]) h
      · exact h.elim
    · exact h.elim
  · split at h
    · split at h
      · rename_i t rest _ hk
        have hu := (hT t (by rw [hk]; simp)).1; rw [hk] at hu
        exact OpOK.pureV (v := .int .i64 _) (by simp [Builtin.len_, run_und hu, goInt]) h
      · exact h.elim
    · exact h.elim
  · exact OpOK.pureV (by simp [Builtin.min_, Builtin.min2]) h
  · exact OpOK.pureV (by simp [Builtin.max_, Builtin.max2]) h
  · split at h
    · split at h
      · rename_i t u _ e hk
        split at h
        · rename_i hku
          exact OpOK.val (append_sound hT hk hku h)
        · rename_i hku
          obtain ⟨h0, h1, h2, h⟩ := h
          exact OpOK.val (append_make_sound hT hk hku h0 h1 h2 h)
        · exact h.elim
      · exact h.elim
    · exact h.elim
  · split at h
    · split at h
      · rename_i t rest _ e hk
        exact OpOK.val (copy_sound hT hk h rest)
      · exact h.elim
    · exact h.elim
  · exact h.elim

theorem fieldAddr_sound {P : Program} {T : Nat → TI} (hT : AllFit P T) {s : Nat} {fs : List (Nat × Sh)} (hk : (T s).kind = .struct fs) {f off : Nat} {sh : Sh} (hf : fs[f]? = some (off, sh)) (a : Addr) (w : World) :
    (Instr.fieldAt s (.pointer (some a)) f).run P w = .ok (.pointer (some (a.add off))) w := by
  have hu := (hT s (by rw [hk]; simp)).1; rw [hk] at hu
  obtain ⟨F, hF, rfl, hall'⟩ := hu
  have hall := fields_of hall'
  rw [List.getElem?_map] at hf
  cases hFf : F.toList[f]? with
  | none => rw [hFf] at hf; simp at hf
  | some fd =>
    rw [hFf] at hf
    simp only [Option.map_some, Option.some.injEq, Prod.mk.injEq] at hf
    obtain ⟨rfl, rfl⟩ := hf
    have hmem := hall fd (List.mem_of_getElem? hFf)
    have hs := run_sizeOf' hT hmem.1 w
    have hFf' : F[f]? = some fd := by rwa [Array.getElem?_toList] at hFf
    simp [Instr.fieldAt, run_und hF, hFf', Instr.sureAddr, fieldPlace, hs, hmem.2]

def FieldIs (sh : Sh) (off : Nat) (cs : Array Value) (v : Value) : Prop :=
  match sh with
  | .one _ => cs.toList[off]? = some v
  | .agg l => v = .agg ((cs.toList.drop off).take l.length).toArray
theorem field_sound {P : Program} {T : Nat → TI} (hT : AllFit P T) {s : Nat} {fs : List (Nat × Sh)} (hk : (T s).kind = .struct fs) {f off : Nat} {sh : Sh} (hf : fs[f]? = some (off, sh)) (cs : Array Value) {v : Value}
    (hv : FieldIs sh off cs v) (w : World) :
    (Instr.field s (.agg cs) f).run P w = .ok v w := by
  have hu := (hT s (by rw [hk]; simp)).1; rw [hk] at hu
  obtain ⟨F, hF, rfl, hall'⟩ := hu
  have hall := fields_of hall'
  rw [List.getElem?_map] at hf
  cases hFf : F.toList[f]? with
  | none => rw [hFf] at hf; simp at hf
  | some fd =>
    rw [hFf] at hf
    simp only [Option.map_some, Option.some.injEq, Prod.mk.injEq] at hf
    obtain ⟨rfl, rfl⟩ := hf
    have hmem := hall fd (List.mem_of_getElem? hFf)
    have hs := run_sizeOf' hT hmem.1 w
    have ha := run_isAgg' hT hmem.1 w
    have hFf' : F[f]? = some fd := by rwa [Array.getElem?_toList] at hFf
    simp only [Instr.field, Sem.run_bind, run_und hF, Result.andThen_ok, hFf', asAgg, Sem.run_pure, part, ha]
    cases hsh : (T fd.type).sh with
    | one s1 =>
      rw [hsh] at hv
      simp only [FieldIs] at hv
      simp only [Sh.isAgg, Bool.false_eq_true, if_false]
      rw [Array.getElem?_toList] at hv
      rw [hv]; rfl
    | agg l =>
      rw [hsh] at hv
      simp only [FieldIs] at hv
      have hsz : (T fd.type).size = l.length := by rw [TI.size, hsh]; rfl
      simp only [Sh.isAgg, if_true, Sem.run_bind, hs, Result.andThen_ok, Sem.run_pure, hv, hsz]
      congr 2
      apply Array.ext'
      simp [Array.toList_extract, List.drop_take]

theorem index_val_sound {P : Program} {T : Nat → TI} (hT : AllFit P T) {t n e : Nat} (hk : (T t).kind = .array n e) {s : S1} (hs1 : (T e).sh = .one s) {cs : Array Value} {k : IntKind} {i : Int} {v : Value}
    (h0 : 0 ≤ i) (h1 : i < (n : Int)) (hv : cs.toList[i.toNat]? = some v) (w : World) : (Instr.index t (.agg cs) (.int k i)).run P w = .ok v w := by
  have hu := (hT t (by rw [hk]; simp)).1; rw [hk] at hu
  have hs := run_sizeOf' hT (TI.known_ne hu.2) w
  have ha := run_isAgg' hT (TI.known_ne hu.2) w
  have hsz : (T e).size = 1 := by rw [TI.size, hs1]; rfl
  rw [Array.getElem?_toList] at hv
  simp [Instr.index, asIntOf, run_und hu.1, h0, h1, hs, hsz, part, ha, hs1, Sh.isAgg, hv]

theorem map_ops (ρ : Operand → Value) (l : Array Operand) : l.map ρ = (l.toList.map ρ).toArray := by apply Array.ext'; simp
theorem map_parts (ρ : Operand → Value) (l : Array (Nat × Operand)) : l.map (fun (i, x) => (i, ρ x)) = (l.toList.map fun p => (p.1, ρ p.2)).toArray := by apply Array.ext'; simp

set_option maxHeartbeats 1000000 in
theorem call_sound {P : Program} {T : Nat → TI} {R : Nat → List Sh} {nf : Nat} (hT : AllFit P T) (hB : Bodies P nf) {ty : Nat} {ρ : Operand → Value} {w : World} {c : Call} {K : Value → Heap → Prop}
    (h : sxCall P T R nf ty ρ w.heap c K) (hρ : ∀ f, ρ (.func f) = .func (.func f) #[] #[]) : OpOK P (do let d ← resolve ρ c ty; invoke d.target d.args) w K := by
  unfold sxCall at h
  split at h
  · rename_i b hb
    simp only [resolve, hb, pure_bind]
    simp only [invoke]
    rw [map_ops]
    exact builtin_sound (ts := c.argTypes.toList) hT h
  · rename_i f hb
    simp only [resolve, hb]
    obtain ⟨hf, h⟩ := cond_true h
    rw [map_ops]
    refine callV_sound hB (K := K) ?_
    rw [hρ]
    unfold CallV
    simp only [hf, cond]
    simpa using h.mono fun v H' hv => hv.imp
  · rename_i x _ hb
    simp only [resolve, hb]
    rw [map_ops]
    refine callV_sound hB (K := K) ?_
    unfold CallV at h ⊢
    split at h
    · obtain ⟨hf, h⟩ := cond_true h
      simp only [hf, cond]
      exact h.mono fun v H' hv => hv.imp
    · exact h.elim
  · exact h.elim

theorem pv {P : Program} {s : Sem Value} {κ : Value → Prop} {v : Value} (hr : ∀ w : World, s.run P w = .ok v w) (hk : κ v) :
    ∃ v, κ v ∧ ∀ w : World, (do pure (.value (← s)) : Sem Next).run P w = .ok (.value v) w := ⟨v, hk, fun w => by simp [hr w]⟩

/-- What reads no memory. -/
def pureOp (T : Nat → TI) : Op → Bool
  | .move _ | .assign _ | .pick .. | .nilCheck _ | .unOp .. | .convert .. | .makeFunc .. | .slice .. | .fieldAddr .. | .field .. | .indexAddr .. | .index .. | .extract .. | .build .. | .binOp .. => true
  | .call { callee := .builtin .len, argTypes, .. } => match argTypes.toList with
    | t :: _ => match (T t).kind with
      | .slice _ => true
      | .str => true
      | _ => false
    | _ => false
  | .call { callee := .builtin .min, .. } => true
  | .call { callee := .builtin .max, .. } => true
  | _ => false

theorem pureBuiltin_sound {P : Program} {T : Nat → TI} (hT : AllFit P T) {b : Builtin} {ts : List Nat} {args : List Value} {ty : Nat} {consts : Array Bool} {H : Heap} {K : Value → Heap → Prop}
    (hb : b = .min ∨ b = .max ∨ (b = .len ∧ ∃ t rest, ts = t :: rest ∧ ((∃ e, (T t).kind = .slice e) ∨ (T t).kind = .str)))
    (h : sxBuiltin P T b ts args H K) : ∃ v, K v H ∧ ∀ w, (builtin b ts.toArray ty consts args.toArray).run P w = .ok (.value v) w := by
  unfold sxBuiltin at h
  split at h
  · split at h
    · split at h
      · rename_i hk
        exact pv (len_sound hT hk _ _ _) h
      · exact h.elim
    · exact h.elim
  · rcases hb with hb | hb | ⟨hb, t, rest, rfl, hk⟩ <;> try (cases hb; done)
    rcases hk with ⟨e, hk⟩ | hk <;> simp [hk] at h
  · split at h
    · split at h
      · rename_i t rest _ hk
        have hu := (hT t (by rw [hk]; simp)).1; rw [hk] at hu
        exact pv (v := .int .i64 _) (fun w => by simp [Builtin.len_, run_und hu, goInt]) h
      · exact h.elim
    · exact h.elim
  · exact pv (fun w => by simp [Builtin.min_, Builtin.min2]) h
  · exact pv (fun w => by simp [Builtin.max_, Builtin.max2]) h
  · rcases hb with hb | hb | ⟨hb, _⟩ <;> cases hb
  · rcases hb with hb | hb | ⟨hb, _⟩ <;> cases hb
  · exact h.elim

set_option maxHeartbeats 2000000 in
theorem pure_sound {P : Program} {T : Nat → TI} {R : Nat → List Sh} {nf : Nat} (hT : AllFit P T) (hB : Bodies P nf) {o : Oper} {ρ : Operand → Value} {H : Heap} {K : Value → Heap → Prop}
    (hp : pureOp T o.op = true) (h : sxOp P T R nf o.type ρ H K o.op) : ∃ v, K v H ∧ ∀ w, (execOp ρ o).run P w = .ok (.value v) w := by
  obtain ⟨dst, op, ty, pos, after, guard⟩ := o
  simp only at h hp
  have known : ∀ {t : Nat}, (T t).known = true → (T t).kind ≠ .other := fun {t} hk hn => by simp [TI.known, hn] at hk
  cases op <;> simp only [sxOp] at h <;> try (first | exact h.elim | (cases hp; done))
  case move x => exact ⟨_, h, fun w => rfl⟩
  case assign x => exact ⟨_, h, fun w => rfl⟩
  case pick c a b =>
    split at h
    · rename_i t x y hc ha hb
      refine ⟨_, h, fun w => ?_⟩
      cases t <;> simp [execOp, hc, ha, hb, asBool]
    · rename_i t hc _
      cases t
      · exact ⟨_, h, fun w => by simp [execOp, hc, asBool]⟩
      · exact ⟨_, h, fun w => by simp [execOp, hc, asBool]⟩
    · exact h.elim
  case build t parts =>
    simp only [execOp]
    rw [map_parts]
    split at h
    · rename_i fs hk
      split at h
      · rename_i cs hf
        exact pv (build_sound hT hk hf) h
      · exact h.elim
    · rename_i n e hk
      split at h
      · rename_i cs hf
        exact pv (build_arr_sound hT hk hf) h
      · exact h.elim
    · exact h.elim
  case nilCheck x =>
    simp only [execOp]
    split at h
    · rename_i a ha; rw [ha]; exact ⟨_, h, fun w => rfl⟩
    · rename_i f a b ha; rw [ha]; exact ⟨_, h, fun w => rfl⟩
    · exact h.elim
  case binOp op t x y yt => exact (by obtain ⟨v, hr, hv⟩ := bin_sound hT h; exact pv hr hv)
  case unOp op t x =>
    simp only [execOp]
    split at h
    · rename_i b hb; rw [hb]; exact pv (fun w => by simp [Op.unary]) h
    · rename_i k n hb; rw [hb]; exact pv (v := .int k (k.wrap (0 - n))) (fun w => by simp [Op.unary, Op.intArith]) h
    · exact h.elim
  case convert s d x =>
    simp only [execOp]
    split at h
    · rename_i k1 k k2 n hs hd hx
      have hu := (hT d (by rw [hd]; simp)).1; rw [hd] at hu
      have hu1 := (hT s (by rw [hs]; simp)).1; rw [hs] at hu1
      rw [hx]
      exact pv (fun w => by simp [convert, run_und hu, run_und hu1, Conv.intToInt]) h
    · exact h.elim
  case makeFunc fn first cap =>
    simp only [execOp]
    rw [map_ops, map_ops]
    exact pv (fun w => rfl) h
  case slice t x lo hi mx =>
    cases mx <;> simp only at h
    · simp only [execOp]
      split at h
      · rename_i e A n c hk hx
        obtain ⟨v, hr, hv⟩ := slice_sound hT hk h
        rw [hx]
        exact pv hr hv
      · rename_i n e a hk hx
        obtain ⟨v, hr, hv⟩ := slice_arr_sound hT hk h
        rw [hx]
        exact pv hr hv
      · exact h.elim
  case fieldAddr s x f =>
    simp only [execOp]
    split at h
    · rename_i fs a hk hx
      split at h
      · rename_i off sh hf
        rw [hx]
        exact pv (fieldAddr_sound hT hk hf a) h
      · exact h.elim
    · exact h.elim
  case field s x f =>
    simp only [execOp]
    split at h
    · rename_i fs cs hk hx
      split at h
      · rename_i off s1 hf
        split at h
        · rename_i v hv
          rw [hx]
          exact pv (field_sound hT hk hf cs (v := v) hv) h
        · exact h.elim
      · rename_i off l hf
        rw [hx]
        exact pv (field_sound hT hk hf cs (v := _) rfl) h
      · exact h.elim
    · exact h.elim
  case indexAddr t x i =>
    simp only [execOp]
    split at h
    · rename_i e A n c k i' hk hx hi
      obtain ⟨a, rfl, h0, h1, h⟩ := h
      rw [hx, hi]
      exact pv (index_sound hT hk h0 h1) h
    · rename_i n e a k i' hk hx hi
      obtain ⟨h0, h1, h⟩ := h
      rw [hx, hi]
      exact pv (index_arr_sound hT hk h0 h1) h
    · exact h.elim
  case index t x i =>
    simp only [execOp]
    split at h
    · rename_i n e cs k i' hk hx hi
      split at h
      · rename_i s1 hs1
        obtain ⟨h0, h1, h⟩ := h
        obtain ⟨v, hv, h⟩ := TyEx.out h
        rw [hx, hi]
        exact pv (index_val_sound hT hk hs1 h0 h1 hv) h
      · exact h.elim
    · exact h.elim
  case extract x i =>
    simp only [execOp]
    split at h
    · rename_i vs hx
      split at h
      · rename_i v hv
        rw [hx]
        rw [Array.getElem?_toList] at hv
        exact pv (fun w => by simp [Instr.extract, hv]) h
      · exact h.elim
    · exact h.elim
  case call c =>
    obtain ⟨callee, args, argTypes⟩ := c
    cases callee <;> try (cases hp; done)
    rename_i b
    have hb : b = .min ∨ b = .max ∨ (b = .len ∧ ∃ t rest, argTypes.toList = t :: rest ∧ ((∃ e, (T t).kind = .slice e) ∨ (T t).kind = .str)) := by
      cases b <;> try (cases hp; done)
      · refine .inr (.inr ⟨rfl, ?_⟩)
        simp only [pureOp] at hp
        split at hp
        · rename_i t rest ht
          refine ⟨t, rest, ht, ?_⟩
          split at hp
          · rename_i e hk; exact .inl ⟨e, hk⟩
          · rename_i hk; exact .inr hk
          · cases hp
        · cases hp
      · exact .inr (.inl rfl)
      · exact .inl rfl
    simp only [sxCall] at h
    simp only [execOp, resolve, pure_bind]
    simp only [invoke]
    rw [map_ops]
    exact pureBuiltin_sound (ts := argTypes.toList) hT hb h

set_option maxHeartbeats 2000000 in
theorem op_sound {P : Program} {T : Nat → TI} {R : Nat → List Sh} {nf : Nat} (hT : AllFit P T) (hB : Bodies P nf) {o : Oper} {ρ : Operand → Value} {w : World} {K : Value → Heap → Prop}
    (h : sxOp P T R nf o.type ρ w.heap K o.op) (hρ : ∀ f, ρ (.func f) = .func (.func f) #[] #[]) : OpOK P (execOp ρ o) w K := by
  obtain ⟨dst, op, ty, pos, after, guard⟩ := o
  simp only at h
  have known : ∀ {t : Nat}, (T t).known = true → (T t).kind ≠ .other := fun {t} hk hn => by simp [TI.known, hn] at hk
  by_cases hp : pureOp T op = true
  · obtain ⟨v, hv, hr⟩ := pure_sound (o := ⟨dst, op, ty, pos, after, guard⟩) hT hB hp h
    exact .inl ⟨v, w, hr w, Same.refl w, hv⟩
  cases op <;> try (exact absurd rfl hp)
  all_goals simp only [sxOp] at h
  all_goals try exact h.elim
  case alloc e =>
    cases hk : (T e).known <;> rw [hk] at h
    · exact h.elim
    · obtain ⟨z, hz, hzc⟩ := run_zero' hT (known hk) w
      refine OpOK.val ⟨_, { w with heap := w.heap.push (.cells (T e).zero.toArray e (0, 0)) }, ?_, ⟨rfl, rfl, rfl⟩, h⟩
      have hzt : z.cells = (T e).zero.toArray := by rw [← hzc]
      simp [Instr.alloc, hz, newVar, newRow, hzt]
  case box e x => exact OpOK.val ⟨_, { w with heap := w.heap.push (.cells (ρ x).cells e (0, 0)) }, by simp [Instr.box, newVar, newRow], ⟨rfl, rfl, rfl⟩, h⟩
  case buildSlice t len parts =>
    simp only [execOp]
    rw [map_parts]
    split at h
    · rename_i e hk
      split at h
      · rename_i cs hf
        obtain ⟨hl, h⟩ := cond_true h
        have hl := Nat.le_of_ble_eq_true hl
        exact OpOK.val ⟨_, _, buildSlice_sound hT hk hf hl w, ⟨rfl, rfl, rfl⟩, h⟩
      · exact h.elim
    · exact h.elim
  case load t x =>
    simp only [execOp]
    split at h
    · rename_i a ha
      cases hk : (T t).known <;> rw [hk] at h
      · exact h.elim
      · obtain ⟨v, hv, hst, hr⟩ := load_sound hT (known hk) h
        rw [ha]
        exact OpOK.pureV (hr w hst) hv
    · exact h.elim
  case store t x y =>
    simp only [execOp]
    split at h
    · rename_i a ha
      cases hk : (T t).known <;> rw [hk] at h
      · exact h.elim
      · rw [ha]
        exact OpOK.unit (store_sound hT (known hk) h)
    · exact h.elim
  case makeMap t r =>
    cases r <;> simp only at h
    exact OpOK.val ⟨_, { w with heap := w.heap.push (.map #[] 0) }, by simp [Instr.makeMap], ⟨rfl, rfl, rfl⟩, h⟩
  case makeSlice t l c =>
    simp only [execOp]
    split at h
    · rename_i e kl n kc m hk hl hc
      obtain ⟨h0, h1, h2, h3, h⟩ := h
      rw [hl, hc]
      exact OpOK.val ⟨_, _, make_sound hT hk h0 h1 h2 h3 w, ⟨rfl, rfl, rfl⟩, h⟩
    · exact h.elim
  case lookup t m k ok => exact OpOK.val (by obtain ⟨v, w', hr, hs, hk⟩ := h w rfl; exact ⟨v, w', hr, hs, hk.imp⟩)
  case mapUpdate t m k v => exact OpOK.unit (h w rfl)
  case insert t m k v => exact OpOK.unit (h w rfl)
  case mapEntry t m k => exact OpOK.val (by obtain ⟨v, w', hr, hs, hk⟩ := h w rfl; exact ⟨v, w', hr, hs, hk.imp⟩)
  case entryStore t m s v => exact OpOK.unit (h w rfl)
  case call c => exact call_sound hT hB h hρ
end Go.Sx
