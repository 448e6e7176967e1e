import Derived.Test.YtlhcaangdenoaaaSxCode
set_option linter.unusedVariables false
set_option linter.unusedSimpArgs false
namespace Go.Sx

section
variable {P : Program} {T : Nat → TI} {R : Nat → List Sh} {nf : Nat} {A : Ann}

/-! ### One operation -/
theorem wp_of_ok {o : Oper} {a : Act} {w : World} {K : Value → Heap → Prop} {next : Act → World → Prop} {Q : Exit → Act → World → Prop}
    (h : OpOK P (execOp a.eval o) w K) (hn : ∀ v w', Same w w' → K v w'.heap → next (a.put o.dst v) w') : o.wp P a w next Q := by
  unfold Oper.wp
  rcases h with ⟨v, w', hr, hs, hk⟩ | ⟨w', hr, hs, hk⟩ | ⟨f, args, w', hr, hs, hk⟩
  · rw [hr]; exact hn v w' hs hk
  · rw [hr]; exact hn undef w' hs hk
  · rw [hr]
    refine (hk w' rfl).mono ?_
    rintro e w'' ⟨v, rfl, hs', hv⟩
    exact hn v w'' (hs.trans hs') hv

def act (τ : List Value) : Act := ⟨τ.toArray, []⟩
theorem act_put (τ : List Value) (d : Option Tmp) (v : Value) : (act τ).put d v = act (putL τ d v) := putL_eq τ d v
theorem act_eval (τ : List Value) : (act τ).eval = evL τ := evL_fun τ

theorem set_same {τ : List Value} {d : Nat} {v : Value} (h : τ[d]? = some v) : τ.set d v = τ := by
  apply List.ext_getElem?
  intro i
  rw [List.getElem?_set]
  split
  · rename_i hi; subst hi
    split
    · exact h.symm
    · rename_i hl; rw [List.getElem?_eq_none (by omega)] at h; cases h
  · rfl

theorem guarded_cases {ops : Array Oper} {τ : List Value} {o : Oper} {run skip : List Value → Prop} (h : guarded ops.toList τ o run skip) :
    (Region.wanted o (yielded ops (act τ).tmps) = true ∧ run τ) ∨ (Region.wanted o (yielded ops (act τ).tmps) = false ∧ skip τ) := by
  unfold guarded at h
  unfold Region.wanted
  split at h
  · rename_i hg; rw [hg]; exact .inl ⟨rfl, h⟩
  · rename_i j want hg
    rw [hg]
    split at h
    · exact h.elim
    · rename_i d hd
      rw [Array.getElem?_toList] at hd
      split at h
      · rename_i b hb
        have hb' : τ[d]? = some (.bool b) := by
          cases hq : τ[d]? with
          | none => simp [List.getD, hq, undef] at hb
          | some v => simp [List.getD, hq] at hb; rw [hb]
        have hy : yielded ops (act τ).tmps j = some b := by
          simp [yielded, hd, act, hb']
        simp only [hy]
        cases want <;> cases b <;> simp only [cond] at h <;> (rw [set_same hb'] at h) <;> simp_all
      · rename_i vs hb
        have hy : yielded ops (act τ).tmps j = none := by
          simp only [yielded, hd, act, Option.bind_some]
          cases hq : τ[d]? with
          | none => simp [hq]
          | some v => simp [List.getD, hq] at hb; simp [hq, hb]
        simp only [hy]
        exact .inr ⟨by cases want <;> rfl, h⟩
      · exact h.elim

/-! ### A region in the order of the text -/
def Agree (D : List Tmp) (τb τ : List Value) : Prop := τ.length = τb.length ∧ ∀ n, n ∉ D → τ[n]? = τb[n]?
theorem Agree.refl (D : List Tmp) (τ : List Value) : Agree D τ τ := ⟨rfl, fun _ _ => rfl⟩
theorem Agree.trans {D : List Tmp} {a b c : List Value} (h : Agree D a b) (k : Agree D b c) : Agree D a c := ⟨k.1.trans h.1, fun n hn => (k.2 n hn).trans (h.2 n hn)⟩
theorem Agree.mono {D D' : List Tmp} {a b : List Value} (h : Agree D a b) (hd : ∀ t ∈ D, t ∈ D') : Agree D' a b := ⟨h.1, fun n hn => h.2 n fun hm => hn (hd n hm)⟩
theorem Agree.put {D : List Tmp} {τb τ : List Value} (h : Agree D τb τ) {d : Option Tmp} (hd : ∀ t, d = some t → t ∈ D) (v : Value) : Agree D τb (putL τ d v) := by
  cases d with
  | none => exact h
  | some t =>
    refine ⟨by rw [putL, List.length_set]; exact h.1, fun n hn => ?_⟩
    rw [putL, List.getElem?_set_ne (fun e => hn (by subst e; exact hd _ rfl))]
    exact h.2 n hn

def Post (w0 : World) (τb : List Value) (D : List Tmp) (K : Kont) (a : Act) (w : World) : Prop :=
  ∃ τ, a = act τ ∧ Same w0 w ∧ Agree D τb τ ∧ K τ w.heap

theorem mem_dsts {ops : List Oper} {o : Oper} (h : o ∈ ops) : ∀ t, o.dst = some t → t ∈ dsts ops := fun t ht => List.mem_filterMap.2 ⟨o, h, ht⟩

theorem ops_sound (hT : AllFit P T) (hB : Bodies P nf) {w0 : World} {τb : List Value} {D : List Tmp} {ops : Array Oper} {K : Kont} {Q : Exit → Act → World → Prop}
    (hQ : ∀ a w, Post w0 τb D K a w → Q .normal a w) : ∀ (l : List Oper), (∀ o ∈ l, ∀ t, o.dst = some t → t ∈ D) → ∀ (τ : List Value) (w : World), Same w0 w → Agree D τb τ →
      sxOps P T R nf ops.toList l K τ w.heap → wpList P ops Q l (act τ) w
  | [], _, τ, w, hs, ha, h => wpList_nil (hQ _ _ ⟨τ, rfl, hs, ha, h⟩)
  | o :: rest, hd, τ, w, hs, ha, h => by
    have ih := ops_sound (ops := ops) hT hB hQ rest (fun o ho => hd o (List.mem_cons_of_mem _ ho))
    have hdo := hd o (List.mem_cons_self ..)
    refine wpList_step fun K' hK' => ?_
    rw [sxOps] at h
    rcases guarded_cases h with ⟨hw, h⟩ | ⟨hw, h⟩
    · rw [if_pos hw]
      rw [← act_eval] at h
      refine wp_of_ok (op_sound hT hB h (fun f => rfl)) fun v w' hsw hk => hK' _ _ ?_
      rw [act_put]
      exact ih _ _ (hs.trans hsw) (ha.put hdo v) hk
    · rw [if_neg (by simp [hw])]
      refine hK' _ _ ?_
      rw [act_put]
      exact ih _ _ hs (ha.put hdo undef) h

/-! ### A region that draws its order -/
abbrev Held := List (Nat × (Heap → Prop → Prop))
def before1 (ops : Array Oper) (j i : Nat) : Bool := match ops[i]? with
  | some o => o.after.any fun e => Region.binds .any e && e.on == j
  | none => false
def heldAfter (ops : Array Oper) (held : Held) (i : Nat) : Held := held.filter fun p => !before1 ops p.1 i
def HeldAt (held : Held) (H : Heap) : Prop := ∀ p ∈ held, p.2 H True

def wpAnyC (P : Program) (ops : Array Oper) (Q : Exit → Act → World → Prop) : Held → Nat → Array Bool → Act → World → Prop
  | _, 0, listed, a, w => Region.ready .any ops listed = [] ∧ Q .normal a w
  | held, fuel + 1, listed, a, w =>
    (Region.ready .any ops listed = [] → Q .normal a w) ∧
    ∀ i ∈ Region.ready .any ops listed, wpOp P ops Q i (fun a' w' => HeldAt (heldAfter ops held i) w'.heap ∧ wpAnyC P ops Q (heldAfter ops held i) fuel (listed.setIfInBounds i true) a' w') a w

variable {ops : Array Oper} {Q : Exit → Act → World → Prop}

theorem wpAny_of_C : ∀ (fuel : Nat) (held : Held) (listed : Array Bool) (a : Act) (w : World), wpAnyC P ops Q held fuel listed a w → wpAny P .any ops Q fuel listed a w
  | 0, _, _, _, _, h => h
  | fuel + 1, held, _, _, _, h => ⟨h.1, fun i hi => wpOp_mono (fun a' w' h' => wpAny_of_C fuel _ _ a' w' h'.2) (h.2 i hi)⟩

theorem heldAfter_sub {held held' : Held} (h : ∀ p ∈ held', p ∈ held) (i : Nat) : ∀ p ∈ heldAfter ops held' i, p ∈ heldAfter ops held i := by
  intro p hp
  simp only [heldAfter, List.mem_filter] at hp ⊢
  exact ⟨h p hp.1, hp.2⟩
theorem wpAnyC_mono : ∀ (fuel : Nat) {held held' : Held} (_ : ∀ p ∈ held', p ∈ held) (listed : Array Bool) (a : Act) (w : World), wpAnyC P ops Q held fuel listed a w → wpAnyC P ops Q held' fuel listed a w
  | 0, _, _, _, _, _, _, h => h
  | fuel + 1, held, held', hsub, _, _, _, h =>
    ⟨h.1, fun i hi => wpOp_mono (fun a' w' h' => ⟨fun p hp => h'.1 p (heldAfter_sub hsub i p hp), wpAnyC_mono fuel (heldAfter_sub hsub i) _ a' w' h'.2⟩) (h.2 i hi)⟩

theorem wpAnyC_first {i : Nat} {oi : Oper} {v : Value} {C : Heap → Prop → Prop} (hi : ops[i]? = some oi) (hsel : ∀ (j : Nat) (o : Oper) cs b, ops[j]? = some o → o.op ≠ .select cs b)
    (hQ : ∀ c a w, Q (.panic c) (a.put oi.dst v) w → Q (.panic c) a w) :
    ∀ (fuel : Nat) (held : Held) (listed : Array Bool) (a : Act) (w : World),
      ((i, C) ∈ held ∨ ∀ H, C H True) → HeldAt held w.heap → C w.heap True →
      (∀ j oj, ops[j]? = some oj → j ≠ i → listed.getD j true = false → (∀ e ∈ oj.after, Region.binds .any e = true → e.on ≠ i) → oi.apart ops oj = true) →
      i ∈ Region.ready .any ops listed → YieldsIf P ops (fun w => C w.heap True) oi v a →
      wpAnyC P ops Q held fuel (listed.setIfInBounds i true) (a.put oi.dst v) w → wpAnyC P ops Q held (fuel + 1) listed a w := by
  intro fuel
  induction fuel with
  | zero =>
    intro held listed a w hm hh hc _ hr hy H
    refine ⟨fun h => (by rw [h] at hr; cases hr), fun j hj => ?_⟩
    by_cases hji : j = i
    · subst hji
      exact hy.wpOp hi hc ⟨fun p hp => hh p (List.mem_filter.1 hp).1, H⟩
    · have := ready_mono hj hji
      rw [H.1] at this
      cases this
  | succ fuel ih =>
    intro held listed a w hm hh hc hfree hr hy H
    refine ⟨fun h => (by rw [h] at hr; cases hr), fun j hj => ?_⟩
    by_cases hji : j = i
    · subst hji
      exact hy.wpOp hi hc ⟨fun p hp => hh p (List.mem_filter.1 hp).1, wpAnyC_mono _ (fun p hp => (List.mem_filter.1 hp).1) _ _ _ H⟩
    · have h1 := H.2 j (ready_mono hj hji)
      obtain ⟨hjun, oj, hoj, hall⟩ := mem_ready.1 hj
      have hnot : ∀ e ∈ oj.after, Region.binds .any e = true → e.on ≠ i := fun e he hb heq => by
        have h1 := hall e he hb
        have h0 := (mem_ready.1 hr).1
        rw [heq] at h1
        rcases Nat.lt_or_ge i listed.size with h' | h'
        · simp [h'] at h0 h1; rw [h0] at h1; cases h1
        · simp [Array.getElem?_eq_none h'] at h1
      have hb1 : before1 ops i j = false := by
        unfold before1
        rw [hoj]
        cases hx : oj.after.any fun e => Region.binds .any e && e.on == i with
        | false => simp [hx]
        | true =>
          obtain ⟨e, he, hb⟩ := Array.any_eq_true'.1 hx
          simp only [Bool.and_eq_true, beq_iff_eq] at hb
          exact absurd hb.2 (hnot e he hb.1)
      have h2 := wpOp_putIf hoj (hfree j oj hoj hji hjun hnot) (fun cs b => hsel i oi cs b hi) (fun cs b => hsel j oj cs b hoj) hQ hy h1
      have hfree' : ∀ k ok, ops[k]? = some ok → k ≠ i → (listed.setIfInBounds j true).getD k true = false →
          (∀ e ∈ ok.after, Region.binds .any e = true → e.on ≠ i) → oi.apart ops ok = true := fun k ok hk hki hun hno => by
        refine hfree k ok hk hki ?_ hno
        by_cases hjk : j = k
        · subst hjk; exact hjun
        · rw [getD_set_ne true hjk] at hun; exact hun
      refine wpOp_mono (fun a' w' h3 => ⟨h3.2.1, ?_⟩) h2
      have hm' : (i, C) ∈ heldAfter ops held j ∨ ∀ H, C H True := hm.imp (fun hm => List.mem_filter.2 ⟨hm, by simp [hb1]⟩) id
      have hc' : C w'.heap True := hm'.elim (fun hm => h3.2.1 _ hm) (fun h => h _)
      refine ih (heldAfter ops held j) (listed.setIfInBounds j true) a' w' hm' h3.2.1 hc' hfree' (ready_mono hr (Ne.symm hji)) h3.1 ?_
      rw [Array.setIfInBounds_comm _ _ hji]
      exact h3.2.2

def planAlts : Plan → List Nat
  | .alt i _ _ rest => i :: planAlts rest
  | _ => []
def isLoad : Op → Bool
  | .load .. => true
  | _ => false
/-- The plan serves the region: m says whether we are behind a first alternative. -/
def planChk (T : Nat → TI) (ops : Array Oper) : Bool → Plan → Array Bool → Bool
  | m, .stop, _ => m
  | m, .done, l => !m && (Region.ready .any ops l).isEmpty
  | m, .first i p, l => !m && ((ops[i]?).map fun o => pureOp T o.op).getD false && Region.free .any ops l i && (Region.ready .any ops l).contains i && planChk T ops false p (l.setIfInBounds i true)
  | m, .read i p, l => !m && ((ops[i]?).map fun o => isLoad o.op).getD false && Region.free .any ops l i && (Region.ready .any ops l).contains i && planChk T ops false p (l.setIfInBounds i true)
  | m, .alt i drop p rest, l => (m || (!(Region.ready .any ops l).isEmpty && (Region.ready .any ops l).all fun j => (i :: planAlts rest).contains j)) && drop.all (fun j => before1 ops j i) &&
      planChk T ops false p (l.setIfInBounds i true) && planChk T ops true rest l
def regionChk (T : Nat → TI) (ops : Array Oper) (p : Plan) : Bool := Region.noSelect ops && planChk T ops false p (Array.replicate ops.size false)

theorem StillP.out {s : Sh} {a : Addr} {v : Value} {H : Heap} {R : Prop} (h : StillP s a v H R) : StillP s a v H True ∧ R := by
  unfold StillP at *
  split at h
  · exact ⟨⟨h.1, trivial⟩, h.2⟩
  · split at h
    · exact ⟨by rename_i hl; simp only [hl, if_true]; exact h.imp (fun _ => trivial), (CellsAre.cells (w := { (default : World) with heap := H }) h).2⟩
    · exact h.elim
  · exact h.elim

def GoodHeld (held : Held) : Prop := ∀ p ∈ held, ∀ H R, p.2 H R → p.2 H True ∧ R
theorem heldAll_out {drop : List Nat} {H : Heap} {R : Prop} : ∀ {held : Held}, GoodHeld held → heldAll drop H R held → HeldAt (dropHeld drop held) H ∧ R
  | [], _, h => ⟨fun p hp => by simp [dropHeld] at hp, h⟩
  | (j, C) :: l, hg, h => by
    have hgl : GoodHeld l := fun p hp => hg p (List.mem_cons_of_mem _ hp)
    rw [heldAll] at h
    cases hd : drop.contains j <;> rw [hd] at h
    · obtain ⟨h1, h2⟩ := hg _ (List.mem_cons_self ..) H _ h
      obtain ⟨h3, h4⟩ := heldAll_out hgl h2
      refine ⟨fun p hp => ?_, h4⟩
      simp only [dropHeld, List.filter_cons, hd, Bool.not_false, if_true, List.mem_cons] at hp
      rcases hp with rfl | hp
      · exact h1
      · exact h3 p hp
    · obtain ⟨h3, h4⟩ := heldAll_out hgl h
      refine ⟨fun p hp => ?_, h4⟩
      simp only [dropHeld, List.filter_cons, hd, Bool.not_true, Bool.false_eq_true, if_false] at hp
      exact h3 p hp

theorem count_set {l : Array Bool} {i : Nat} (h : l.getD i true = false) : (l.setIfInBounds i true).toList.count false + 1 = l.toList.count false := by
  have hlt : i < l.size := by
    rcases Nat.lt_or_ge i l.size with h' | h'
    · exact h'
    · simp [Array.getElem?_eq_none h'] at h
  have hget : l.toList[i]'(by simpa using hlt) = false := by simpa [hlt] using h
  rw [Array.toList_setIfInBounds, List.count_set (by simpa using hlt)]
  have : 0 < l.toList.count false := List.count_pos_iff.2 (by rw [← hget]; exact List.getElem_mem _)
  have h2 : (if l.toList[i]'(by simpa using hlt) == false then 1 else 0) = 1 := by rw [hget]; rfl
  have h3 : (if true == false then 1 else 0) = 0 := rfl
  omega

theorem plan_sound (hT : AllFit P T) (hB : Bodies P nf) {w0 : World} {τb : List Value} {D : List Tmp} {K : Kont}
    (hsel : Region.noSelect ops = true) (hd : ∀ o ∈ ops.toList, ∀ t, o.dst = some t → t ∈ D)
    (hQ : ∀ a w, Post w0 τb D K a w → Q .normal a w) (hQp : ∀ c a w d v, Q (.panic c) (Act.put a d v) w → Q (.panic c) a w) :
    ∀ (p : Plan) (m : Bool) (held : Held) (listed : Array Bool) (τ : List Value) (w : World) (fuel : Nat), GoodHeld held → HeldAt held w.heap → Same w0 w → Agree D τb τ → planChk T ops m p listed = true →
      listed.toList.count false ≤ fuel → sxPlan P T R nf ops.toList K p held τ w.heap →
      (m = false → wpAnyC P ops Q held fuel listed (act τ) w) ∧
      (∀ i ∈ planAlts p, i ∈ Region.ready .any ops listed → ∀ fuel', fuel = fuel' + 1 →
        wpOp P ops Q i (fun a' w' => HeldAt (heldAfter ops held i) w'.heap ∧ wpAnyC P ops Q (heldAfter ops held i) fuel' (listed.setIfInBounds i true) a' w') (act τ) w) := by
  intro p
  induction p with
  | stop => intro m held listed τ w fuel _ _ _ _ hc _ _; simp only [planChk] at hc; exact ⟨fun h => (by rw [h] at hc; cases hc), fun i hi => by simp [planAlts] at hi⟩
  | done =>
    intro m held listed τ w fuel _ _ hs ha hc _ h
    simp only [planChk, Bool.and_eq_true, List.isEmpty_iff] at hc
    refine ⟨fun _ => ?_, fun i hi => by simp [planAlts] at hi⟩
    have hq : Q .normal (act τ) w := hQ _ _ ⟨τ, rfl, hs, ha, h⟩
    cases fuel with
    | zero => exact ⟨hc.2, hq⟩
    | succ n => exact ⟨fun _ => hq, fun i hi => by rw [hc.2] at hi; cases hi⟩
  | first i p ih =>
    intro m held listed τ w fuel hg hh hs ha hc hf h
    simp only [planChk, Bool.and_eq_true, List.contains_iff_mem] at hc
    obtain ⟨⟨⟨⟨hm, hp⟩, hfr⟩, hr⟩, hc⟩ := hc
    refine ⟨fun _ => ?_, fun i hi => by simp [planAlts] at hi⟩
    simp only [sxPlan] at h
    cases hi : ops[i]? with
    | none => rw [hi] at hp; simp at hp
    | some o =>
      rw [hi] at hp
      simp only [Option.map_some, Option.getD_some] at hp
      have hi' : ops.toList[i]? = some o := by rw [Array.getElem?_toList]; exact hi
      rw [hi'] at h
      simp only at h
      have hdo := hd o (List.mem_of_getElem? hi')
      have hcnt := count_set (mem_ready.1 hr).1
      obtain ⟨n, rfl⟩ : ∃ n, fuel = n + 1 := ⟨fuel - 1, by omega⟩
      have fin : ∀ v, YieldsIf P ops (fun _ => True) o v (act τ) → sxPlan P T R nf ops.toList K p held (putL τ o.dst v) w.heap → wpAnyC P ops Q held (n + 1) listed (act τ) w := fun v hy hk => by
        refine wpAnyC_first (C := fun _ _ => True) hi (Region.noSelect_spec hsel) (fun c a w => hQp c a w _ _) n held listed _ w (.inr fun _ => trivial) hh trivial (Region.free_spec hi hfr) hr hy ?_
        rw [act_put]
        exact (ih false held _ _ w n hg hh hs (ha.put hdo v) hc (by omega) hk).1 rfl
      rcases guarded_cases h with ⟨hw, h⟩ | ⟨hw, h⟩
      · obtain ⟨v, hv, hrun⟩ := pure_sound hT hB hp h
        exact fin v (.inl ⟨hw, fun w' _ => by rw [act_eval]; exact hrun w'⟩) hv
      · exact fin undef (.inr ⟨hw, rfl⟩) h
  | read i p ih =>
    intro m held listed τ w fuel hg hh hs ha hc hf h
    simp only [planChk, Bool.and_eq_true, List.contains_iff_mem] at hc
    obtain ⟨⟨⟨⟨hm, hp⟩, hfr⟩, hr⟩, hc⟩ := hc
    refine ⟨fun _ => ?_, fun i hi => by simp [planAlts] at hi⟩
    simp only [sxPlan] at h
    cases hi : ops[i]? with
    | none => rw [hi] at hp; simp at hp
    | some o =>
      have hi' : ops.toList[i]? = some o := by rw [Array.getElem?_toList]; exact hi
      rw [hi'] at h
      simp only at h
      have hdo := hd o (List.mem_of_getElem? hi')
      have hcnt := count_set (mem_ready.1 hr).1
      obtain ⟨n, rfl⟩ : ∃ n, fuel = n + 1 := ⟨fuel - 1, by omega⟩
      rcases guarded_cases h with ⟨hw, h⟩ | ⟨hw, h⟩
      · split at h
        · rename_i t x hop
          split at h
          · rename_i a ha'
            obtain ⟨hkn, h⟩ := cond_true h
            have hkn' : (T t).kind ≠ .other := fun hn => by simp [TI.known, hn] at hkn
            obtain ⟨v, hv, hst, hrun⟩ := load_sound hT hkn' h
            have hg' : GoodHeld ((i, fun H' R => StillP (T t).sh a v H' R) :: held) := fun p hp => by
              rcases List.mem_cons.1 hp with rfl | hp
              · exact fun H R h => StillP.out h
              · exact hg p hp
            have hh' : HeldAt ((i, fun H' R => StillP (T t).sh a v H' R) :: held) w.heap := fun p hp => by
              rcases List.mem_cons.1 hp with rfl | hp
              · exact hst
              · exact hh p hp
            refine wpAnyC_mono _ (held := (i, fun H' R => StillP (T t).sh a v H' R) :: held) (fun p hp => List.mem_cons_of_mem _ hp) _ _ _ ?_
            refine wpAnyC_first (C := fun H' R => StillP (T t).sh a v H' R) (v := v) hi (Region.noSelect_spec hsel) (fun c a w => hQp c a w _ _) n _ listed _ w (.inl (List.mem_cons_self ..)) hh' hst (Region.free_spec hi hfr) hr (.inl ⟨hw, fun w' hw' => ?_⟩) ?_
            · rw [act_eval]
              simp only [execOp, hop, ha']
              simp [hrun w' hw']
            · rw [act_put]
              exact (ih false _ _ _ w n hg' hh' hs (ha.put hdo v) hc (by omega) hv).1 rfl
          · exact h.elim
        · exact h.elim
      · refine wpAnyC_first (C := fun _ _ => True) (v := undef) hi (Region.noSelect_spec hsel) (fun c a w => hQp c a w _ _) n held listed _ w (.inr fun _ => trivial) hh trivial (Region.free_spec hi hfr) hr (.inr ⟨hw, rfl⟩) ?_
        rw [act_put]
        exact (ih false held _ _ w n hg hh hs (ha.put hdo undef) hc (by omega) h).1 rfl
  | alt i drop p rest ih ihr =>
    intro m held listed τ w fuel hg hh hs ha hc hf h
    simp only [planChk, Bool.and_eq_true] at hc
    obtain ⟨⟨⟨hm, hdr⟩, hc⟩, hcr⟩ := hc
    simp only [sxPlan] at h
    cases hi : ops.toList[i]? with
    | none => rw [hi] at h; exact h.elim
    | some o =>
      rw [hi] at h
      have h2 : (guarded ops.toList τ o
          (fun τ => sxOp P T R nf o.type (evL τ) w.heap (fun v H' => heldAll drop H' (sxPlan P T R nf ops.toList K p (dropHeld drop held) (putL τ o.dst v) H') held) o.op)
          (fun τ => sxPlan P T R nf ops.toList K p (dropHeld drop held) (putL τ o.dst undef) w.heap)) ∧ sxPlan P T R nf ops.toList K rest held τ w.heap := by
        cases rest <;> first | exact h | exact ⟨h, trivial⟩
      clear h
      obtain ⟨h, hrest⟩ := h2
      have hi' : ops[i]? = some o := by rwa [Array.getElem?_toList] at hi
      have hdo := hd o (List.mem_of_getElem? hi)
      have hsub : ∀ p ∈ heldAfter ops held i, p ∈ dropHeld drop held := by
        intro p hp
        simp only [heldAfter, dropHeld, List.mem_filter] at hp ⊢
        refine ⟨hp.1, ?_⟩
        cases hdc : drop.contains p.1 with
        | false => rfl
        | true =>
          have := List.all_eq_true.1 hdr p.1 (by simpa using hdc)
          rw [this] at hp
          simp at hp
      have alts : ∀ j ∈ planAlts (.alt i drop p rest), j ∈ Region.ready .any ops listed → ∀ fuel', fuel = fuel' + 1 →
          wpOp P ops Q j (fun a' w' => HeldAt (heldAfter ops held j) w'.heap ∧ wpAnyC P ops Q (heldAfter ops held j) fuel' (listed.setIfInBounds j true) a' w') (act τ) w := by
        intro j hj hr fuel' hfu
        simp only [planAlts, List.mem_cons] at hj
        by_cases hji : j = i
        · subst hji
          have hcnt := count_set (mem_ready.1 hr).1
          unfold wpOp
          simp only [hi']
          rcases guarded_cases h with ⟨hw, h⟩ | ⟨hw, h⟩
          · rw [if_pos hw]
            rw [← act_eval] at h
            refine .inl (wp_of_ok (op_sound hT hB h (fun f => rfl)) fun v w' hsw hk => ?_)
            obtain ⟨hk1, hk2⟩ := heldAll_out hg hk
            refine ⟨fun p hp => hk1 p (hsub p hp), ?_⟩
            rw [act_put]
            refine wpAnyC_mono _ hsub _ _ _ ?_
            exact (ih false (dropHeld drop held) _ _ w' fuel' (fun p hp => hg p (List.mem_filter.1 hp).1) hk1 (hs.trans hsw) (ha.put hdo v) hc (by omega) hk2).1 rfl
          · rw [if_neg (by simp [hw])]
            refine ⟨fun p hp => hh p (List.mem_filter.1 hp).1, ?_⟩
            rw [act_put]
            refine wpAnyC_mono _ hsub _ _ _ ?_
            exact (ih false (dropHeld drop held) _ _ w fuel' (fun p hp => hg p (List.mem_filter.1 hp).1) (fun p hp => hh p (List.mem_filter.1 hp).1) hs (ha.put hdo undef) hc (by omega) h).1 rfl
        · exact (ihr true held listed τ w fuel hg hh hs ha hcr hf hrest).2 j (hj.resolve_left hji) hr fuel' hfu
      refine ⟨fun hmf => ?_, alts⟩
      rw [hmf] at hm
      simp only [Bool.false_or, Bool.and_eq_true, List.all_eq_true] at hm
      obtain ⟨hne, hm⟩ := hm
      have hne' : Region.ready .any ops listed ≠ [] := by intro h0; rw [h0] at hne; simp at hne
      cases fuel with
      | zero =>
        obtain ⟨j, js, hq⟩ := List.exists_cons_of_ne_nil hne'
        have hj : j ∈ Region.ready .any ops listed := by rw [hq]; exact List.mem_cons_self ..
        have := count_set (mem_ready.1 hj).1
        omega
      | succ n => exact ⟨fun h0 => absurd h0 hne', fun j hj => alts j (by have := hm j hj; simpa [planAlts] using this) hj n rfl⟩
end
end Go.Sx
