import Derived.Test.YtlhcaangdenoaaaSxRun
import Derived.Deep.LoopGhost
set_option linter.unusedVariables false
set_option linter.unusedSimpArgs false
namespace Go.Sx
section
variable {P : Program} {T : Nat → TI} {R : Nat → List Sh} {nf : Nat} {A : Ann}

def codeChk (T : Nat → TI) (A : Ann) : Code → Bool
  | .region id ops true => regionChk T ops (A.plans id)
  | .seq a b => codeChk T A a && codeChk T A b
  | .cond _ a b => codeChk T A a && codeChk T A b
  | .block _ b => codeChk T A b
  | .loop b => codeChk T A b && (A.loops (loopKey b)).all fun p => (wr b).contains p.1
  | _ => true

def QS (w0 : World) (τb : List Value) (D : List Tmp) (Kn : Kont) (E : Nat → Kont) (Rt : Kont) : Exit → Act → World → Prop
  | .normal, a, w => Post w0 τb D Kn a w
  | .exit id, a, w => Post w0 τb D (E id) a w
  | .ret, a, w => Post w0 τb D Rt a w
  | _, _, _ => False

theorem set_getD (τ : List Value) (n : Nat) : τ.set n (τ.getD n undef) = τ := by
  rcases Nat.lt_or_ge n τ.length with h | h
  · exact set_same (by simp [List.getD, h])
  · exact List.set_eq_of_length_le h
theorem junk_length (z : Nat → Value) : ∀ (W : List Nat) (τ : List Value), (junk z W τ).length = τ.length
  | [], _ => rfl
  | n :: W, τ => by rw [junk, junk_length z W, List.length_set]
theorem junk_get (z : Nat → Value) : ∀ (W : List Nat) (τ : List Value) (n : Nat), (junk z W τ)[n]? = if n ∈ W ∧ n < τ.length then some (z n) else τ[n]?
  | [], τ, n => by simp [junk]
  | m :: W, τ, n => by
    rw [junk, junk_get z W (τ.set m (z m)) n, List.length_set, List.getElem?_set]
    by_cases h1 : n ∈ W ∧ n < τ.length
    · rw [if_pos h1, if_pos ⟨List.mem_cons_of_mem _ h1.1, h1.2⟩]
    · rw [if_neg h1]
      by_cases hm : m = n
      · subst hm
        by_cases hl : m < τ.length
        · rw [if_pos rfl, if_pos hl, if_pos ⟨List.mem_cons_self .., hl⟩]
        · rw [if_pos rfl, if_neg hl, if_neg (fun h => hl h.2)]
          rw [List.getElem?_eq_none (by omega)]
      · rw [if_neg hm, if_neg]
        rintro ⟨h2, h3⟩
        rcases List.mem_cons.1 h2 with h2 | h2
        · exact hm h2.symm
        · exact h1 ⟨h2, h3⟩
theorem junk_self (τ : List Value) : ∀ W : List Nat, junk (fun n => τ.getD n undef) W τ = τ := by
  intro W
  induction W with
  | nil => rfl
  | cons n W ih => rw [junk, set_getD]; exact ih

theorem projL_spec : ∀ {l : List (Nat × S1)} {τ : List Value} {κ : LTy l → Prop}, projL l τ κ → ∃ s, κ s ∧ embL l s τ = τ
  | [], τ, κ, h => ⟨(), h, rfl⟩
  | [(n, s)], τ, κ, h => by
    obtain ⟨x, hx, hk⟩ := S1.proj_spec h
    exact ⟨x, hk, by show τ.set n (s.emb x) = τ; rw [← hx]; exact set_getD τ n⟩
  | (n, s) :: a :: l, τ, κ, h => by
    obtain ⟨x, hx, hk⟩ := S1.proj_spec h
    obtain ⟨y, hy, he⟩ := projL_spec hk
    exact ⟨(x, y), hy, by show embL (a :: l) y (τ.set n (s.emb x)) = τ; rw [← hx, set_getD]; exact he⟩
theorem embL_agree : ∀ {l : List (Nat × S1)} (s : LTy l) (W : List Nat) (τ : List Value), (∀ p ∈ l, p.1 ∈ W) → Agree W τ (embL l s τ)
  | [], _, W, τ, _ => Agree.refl W τ
  | [(n, s)], x, W, τ, h => by
    have := (Agree.refl W τ).put (d := some n) (fun t ht => by cases ht; exact h _ (List.mem_cons_self ..)) (s.emb x)
    exact this
  | (n, s) :: a :: l, x, W, τ, h => by
    have h1 := (Agree.refl W τ).put (d := some n) (fun t ht => by cases ht; exact h _ (List.mem_cons_self ..)) (s.emb x.1)
    exact h1.trans (embL_agree x.2 W _ fun p hp => h p (List.mem_cons_of_mem _ hp))
theorem junk_agree (z : Nat → Value) (W : List Nat) (τ : List Value) : Agree W τ (junk z W τ) :=
  ⟨junk_length z W τ, fun n hn => by rw [junk_get, if_neg (fun h => hn h.1)]⟩
theorem junk_of_agree {W : List Nat} {τ τ' : List Value} (h : Agree W τ τ') : junk (fun n => τ'.getD n undef) W τ = τ' := by
  apply List.ext_getElem?
  intro n
  rw [junk_get]
  split
  · rename_i hn
    have : n < τ'.length := by rw [h.1]; exact hn.2
    simp [List.getD, this]
  · rename_i hn
    by_cases hw : n ∈ W
    · have hl : τ.length ≤ n := by
        rcases Nat.lt_or_ge n τ.length with h' | h'
        · exact absurd ⟨hw, h'⟩ hn
        · exact h'
      rw [List.getElem?_eq_none hl, List.getElem?_eq_none (by rw [h.1]; exact hl)]
    · exact (h.2 n hw).symm

theorem Post.imp {w0 : World} {τb : List Value} {D : List Tmp} {K K' : Kont} {a : Act} {w : World} (h : Post w0 τb D K a w) (hk : ∀ τ H, K τ H → K' τ H) : Post w0 τb D K' a w := by
  obtain ⟨τ, h1, h2, h3, h4⟩ := h; exact ⟨τ, h1, h2, h3, hk _ _ h4⟩

theorem sx_sound (hT : AllFit P T) (hB : Bodies P nf) (hm : P.follows .mixedOrders = true) : ∀ (c : Code) (Kn : Kont) (E : Nat → Kont) (Rt : Kont) (w0 : World) (τb : List Value) (D : List Tmp) (τ : List Value) (w : World),
    (∀ t ∈ wr c, t ∈ D) → codeChk T A c = true → Same w0 w → Agree D τb τ → sx P T R nf A c Kn E Rt τ w.heap → c.wp P (QS w0 τb D Kn E Rt) (act τ) w := by
  intro c
  induction c with
  | skip => intro Kn E Rt w0 τb D τ w _ _ hs ha h; exact wp_skip ⟨τ, rfl, hs, ha, h⟩
  | label l => intro Kn E Rt w0 τb D τ w _ _ hs ha h; exact wp_label ⟨τ, rfl, hs, ha, h⟩
  | exit id => intro Kn E Rt w0 τb D τ w _ _ hs ha h; exact wp_exit ⟨τ, rfl, hs, ha, h⟩
  | ret => intro Kn E Rt w0 τb D τ w _ _ hs ha h; exact wp_ret ⟨τ, rfl, hs, ha, h⟩
  | goto l => intro Kn E Rt w0 τb D τ w _ _ hs ha h; exact h.elim
  | refuse l => intro Kn E Rt w0 τb D τ w _ _ hs ha h; exact h.elim
  | scope b _ => intro Kn E Rt w0 τb D τ w _ _ hs ha h; exact h.elim
  | rangeFunc f ps as b _ _ => intro Kn E Rt w0 τb D τ w _ _ hs ha h; exact h.elim
  | region id ops draw =>
    intro Kn E Rt w0 τb D τ w hd hc hs ha h
    have hdo : ∀ o ∈ ops.toList, ∀ t, o.dst = some t → t ∈ D := fun o ho t ht => hd t (mem_dsts ho t ht)
    cases draw with
    | false => exact wp_region_list (ops_sound hT hB (fun a w h => h) ops.toList hdo τ w hs ha h)
    | true =>
      simp only [codeChk, regionChk, Bool.and_eq_true] at hc
      refine wp_region_any hm (wpAny_of_C _ [] _ _ _ ?_)
      have hf : (Array.replicate ops.size false).toList.count false ≤ ops.size := by simp
      exact (plan_sound (w0 := w0) (τb := τb) (D := D) (K := Kn) (Q := QS w0 τb D Kn E Rt) hT hB hc.1 hdo (fun a w h => h) (fun c a w d v h => h.elim) (A.plans id) false [] _ τ { w with drawn := w.drawn + 1 } ops.size
        (fun p hp => by simp at hp) (fun p hp => by simp at hp) (hs.trans ⟨rfl, rfl, rfl⟩) ha hc.2 hf h).1 rfl
  | seq a b iha ihb =>
    intro Kn E Rt w0 τb D τ w hd hc hs ha h
    simp only [codeChk, Bool.and_eq_true] at hc
    refine wp_seq (wp_mono (iha (sx P T R nf A b Kn E Rt) E Rt w0 τb D τ w (fun t ht => hd t (List.mem_append_left _ ht)) hc.1 hs ha h) ?_)
    intro e a' w' hq
    cases e with
    | normal =>
      obtain ⟨τ', rfl, hs', ha', h'⟩ := hq
      exact ihb Kn E Rt w0 τb D τ' w' (fun t ht => hd t (List.mem_append_right _ ht)) hc.2 hs' ha' h'
    | exit id => exact hq
    | ret => exact hq
    | goto l => exact hq
    | panic ch => exact hq
    | outgrown => exact hq
  | cond x a b iha ihb =>
    intro Kn E Rt w0 τb D τ w hd hc hs ha h
    simp only [codeChk, Bool.and_eq_true] at hc
    simp only [sx] at h
    split at h
    · rename_i t ht
      have ht' : (act τ).eval x = .bool t := by rw [act_eval]; exact ht
      cases t with
      | true => exact wp_cond_true ht' (iha Kn E Rt w0 τb D τ w (fun t ht => hd t (List.mem_append_left _ ht)) hc.1 hs ha h)
      | false => exact wp_cond_false ht' (ihb Kn E Rt w0 τb D τ w (fun t ht => hd t (List.mem_append_right _ ht)) hc.2 hs ha h)
    · exact h.elim
  | block id b ih =>
    intro Kn E Rt w0 τb D τ w hd hc hs ha h
    refine wp_block (wp_mono (ih Kn (fun j => cond (Nat.beq j id) Kn (E j)) Rt w0 τb D τ w hd hc hs ha h) ?_)
    intro e a' w' hq
    cases e with
    | normal => exact hq
    | exit j =>
      simp only [QS] at hq
      simp only [Exit.inBlock]
      by_cases hj : j = id
      · subst hj
        rw [if_pos rfl]
        simpa [QS] using hq
      · rw [if_neg hj]
        have hb : Nat.beq j id = false := by
          cases hb : Nat.beq j id with
          | false => rfl
          | true => exact absurd (Nat.eq_of_beq_eq_true hb) hj
        rw [hb] at hq
        exact hq
    | ret => exact hq
    | goto l => exact hq
    | panic ch => exact hq
    | outgrown => exact hq
  | loop b ih =>
    intro Kn E Rt w0 τb D τ w hd hc hs ha h
    simp only [codeChk, Bool.and_eq_true, List.all_eq_true] at hc
    obtain ⟨hcb, hcl⟩ := hc
    have hl : ∀ p ∈ A.loops (loopKey b), p.1 ∈ wr b := fun p hp => by simpa using hcl p hp
    obtain ⟨I, ⟨n0, hinit⟩, hstep⟩ := h
    refine wp_loop_ghost (fun n a w => ∃ s z, a = act (embL (A.loops (loopKey b)) s (junk z (wr b) τ)) ∧ Same w0 w ∧ I n s w.heap) n0 ?_ ?_
    · obtain ⟨s, hI, he⟩ := projL_spec hinit
      exact ⟨s, fun n => τ.getD n undef, by rw [junk_self, he], hs, hI⟩
    · rintro n a w' ⟨s, z, rfl, hs', hI⟩
      have hag : Agree (wr b) τ (embL (A.loops (loopKey b)) s (junk z (wr b) τ)) := (junk_agree z (wr b) τ).trans (embL_agree s (wr b) _ hl)
      have hbody := ih _ E Rt w0 (embL (A.loops (loopKey b)) s (junk z (wr b) τ)) (wr b) _ w' (fun t ht => ht) hcb hs' (Agree.refl _ _) (hstep n s z w'.heap hI)
      refine wp_mono hbody ?_
      intro e a' w'' hq
      cases e with
      | normal =>
        obtain ⟨τ', rfl, hs'', ha'', h'⟩ := hq
        obtain ⟨s', ⟨n', hn, hI'⟩, he⟩ := projL_spec h'
        exact ⟨n', hn, s', fun n => τ'.getD n undef, by rw [junk_of_agree (hag.trans ha''), he], hs'', hI'⟩
      | exit id => obtain ⟨τ', h1, h2, h3, h4⟩ := hq; exact ⟨τ', h1, h2, ha.trans ((hag.trans h3).mono hd), h4⟩
      | ret => obtain ⟨τ', h1, h2, h3, h4⟩ := hq; exact ⟨τ', h1, h2, ha.trans ((hag.trans h3).mono hd), h4⟩
      | goto l => exact hq
      | panic ch => exact hq
      | outgrown => exact hq

def resOne (tmps : Array Value) : ResultVar → Sem Value
  | .tmp t => pure (tmps.getD t undef)
  | .cell a t => do loadVar t (← asAddr (tmps.getD a undef))
theorem res_sound (hT : AllFit P T) : ∀ (rs : List ResultVar) (τ : List Value) (w : World) (κ : List Value → Prop), resL T rs τ w.heap κ →
    ∃ vs, κ vs ∧ (rs.mapM (resOne τ.toArray)).run P w = .ok vs w
  | [], _, _, _, h => ⟨[], h, rfl⟩
  | .tmp t :: l, τ, w, κ, h => by
    obtain ⟨vs, hk, hr⟩ := res_sound hT l τ w _ h
    exact ⟨_, hk, by simp only [List.mapM_cons, Sem.run_bind, hr, resOne, Sem.run_pure, Result.andThen_ok]; simp [List.getD]⟩
  | .cell a t :: l, τ, w, κ, h => by
    simp only [resL] at h
    split at h
    · rename_i ad hd
      obtain ⟨hkn, h⟩ := cond_true h
      have hkn' : (T t).kind ≠ .other := fun hn => by simp [TI.known, hn] at hkn
      obtain ⟨v, hv, hst, hrun⟩ := load_sound hT hkn' h
      obtain ⟨vs, hk, hr⟩ := res_sound hT l τ w _ hv
      have hl : (loadVar t ad).run P w = .ok v w := by have := hrun w hst; simpa [Instr.loadAt, Instr.sureAddr] using this
      have hd' : τ.toArray.getD a undef = .pointer (some ad) := by simpa [List.getD] using hd
      exact ⟨_, hk, by simp only [List.mapM_cons, Sem.run_bind, resOne, hd', asAddr, Sem.run_pure, Result.andThen_ok, hl, hr]⟩
    · exact h.elim

theorem call_of_sx (hT : AllFit P T) (hB : Bodies P nf) (hm : P.follows .mixedOrders = true) {f : FuncId} {fn : Func} {c : Code} {args : List Value} {H : Heap} {K : Value → Heap → Prop} {n : Nat}
    (hf : P.funcs[f]? = some fn) (hb : fn.body = some c) (hn : fn.ntmps = n) (A : Ann) (hc : codeChk T A c = true)
    (h : sxFn P T R nf A fn.results.toList c (args ++ List.replicate (n - args.length) undef) H K) : CallH P f args H K := by
  subst hn
  intro w hw
  subst hw
  refine calls_of_wp hf hb ?_
  have hfr : ({ tmps := args.toArray ++ Array.replicate (fn.ntmps - args.toArray.size) undef, defers := [] } : Act) = act (args ++ List.replicate (fn.ntmps - args.length) undef) := by
    simp [act]
  rw [hfr]
  refine wp_mono (sx_sound hT hB hm c _ _ _ w _ (wr c) _ w (fun t ht => ht) hc (Same.refl w) (Agree.refl _ _) h) ?_
  have fin : ∀ (a : Act) (w' : World), Post w (args ++ List.replicate (fn.ntmps - args.length) undef) (wr c) (fun τ H => resL T fn.results.toList τ H fun vs => K (one vs) H) a w' →
      a.defers = [] ∧ ∃ v, (results fn a.tmps).run P w' = .ok v w' ∧ (∃ v', Ending.returned v = .returned v' ∧ Same w w' ∧ K v' w'.heap) := by
    rintro a w' ⟨τ, rfl, hs, ha, hr⟩
    refine ⟨rfl, ?_⟩
    obtain ⟨vs, hk, hrun⟩ := res_sound (P := P) hT _ _ _ _ hr
    refine ⟨one vs, ?_, _, rfl, hs, hk⟩
    unfold results
    simp only [Sem.run_bind]
    rw [Array.mapM_eq_mapM_toList, Sem.run_map]
    simp only [act]
    have : ∀ (f g : ResultVar → Sem Value), f = g → (fn.results.toList.mapM f).run P w' = (fn.results.toList.mapM g).run P w' := fun f g h => by rw [h]
    rw [this _ (resOne τ.toArray) (by funext x; cases x <;> rfl), hrun]
    simp only [Result.andThen_ok, Sem.run_pure]
    congr 1
    match vs with
    | [] => rfl
    | [v] => rfl
    | a :: b :: l => simp [one]
  intro e a w' hq
  cases e with
  | normal => exact fin a w' hq
  | ret => exact fin a w' hq
  | exit id => obtain ⟨_, _, _, _, h⟩ := hq; exact h.elim
  | goto l => exact hq
  | panic ch => exact hq.elim
  | outgrown => exact hq.elim

/-! ### A table of types -/
def otherTI : TI := ⟨.other, .one .any, [], 0⟩
def lookTI : List (Nat × TI) → Nat → TI
  | [], _ => otherTI
  | (a, i) :: l, t => cond (Nat.beq a t) i (lookTI l t)
theorem lookTI_mem : ∀ {tab : List (Nat × TI)} {t : Nat}, (lookTI tab t).kind ≠ .other → (t, lookTI tab t) ∈ tab
  | [], _, h => absurd rfl h
  | (a, i) :: l, t, h => by
    rw [lookTI] at h ⊢
    cases hb : Nat.beq a t with
    | true =>
      have := Nat.eq_of_beq_eq_true hb
      subst this
      exact List.mem_cons_self ..
    | false =>
      rw [hb] at h
      exact List.mem_cons_of_mem _ (lookTI_mem h)
theorem fits_lookTI {P : Program} {tab : List (Nat × TI)} (h : ∀ p ∈ tab, Fits P (lookTI tab) p.1 p.2) : AllFit P (lookTI tab) := fun t ht => h _ (lookTI_mem ht)
def bodyOf (fn : Func) : Code := match fn.body with
  | some c => c
  | none => .skip
end
end Go.Sx
