import Derived.Test.YtlhcaangdenoaaaLfTag
set_option linter.unusedVariables false
namespace Go.Lf
open Go.Sx

/-! ### make, literals, append, sub-slices -/
theorem repl_len (m : Nat) (zs : List Value) : (repl m zs).length = m * zs.length := by simp [repl]
theorem repl_get (m : Nat) (zs : List Value) : ∀ (i j : Nat) (v : Value), i < m → zs[j]? = some v → (repl m zs)[i * zs.length + j]? = some v := by
  induction m with
  | zero => intro i j v h; omega
  | succ m ih =>
    intro i j v hi hv
    have hj := (List.getElem?_eq_some_iff.1 hv).1
    rw [repl_succ]
    cases i with
    | zero => rw [Nat.zero_mul, Nat.zero_add, List.getElem?_append_left hj]; exact hv
    | succ i =>
      rw [Nat.add_mul, Nat.one_mul, List.getElem?_append_right (by omega), show i * zs.length + zs.length + j - zs.length = i * zs.length + j by omega]
      exact ih i j v (by omega) hv
section
variable {α : Type} {O : Mr α} {E : Rl α} {e j : Nat} {σ : Nat → Nat} {H H1 : Heap} {A : Option Addr} {c : Nat} {xs : List α}
theorem SlO.made (σ : Nat → Nat) (k : Nat) {m : Nat} {zs : List Value} {x : α} (eq : H1 = H.push (.cells (repl m zs).toArray e (0, 0))) (hz : ∀ Z Y H, O.rep Z Y H x zs) (hm : m ≤ 17592186044416) :
    ∃ σ1, Stp [] σ H σ1 H1 ∧ SlO O e (Zt σ1) (Yt σ1 k) H1 (some (Addr.mk H.size 0 none)) m (List.replicate m x) := by
  subst eq
  refine ⟨_, Stp.push σ H _ k, by simp, by simpa using hm, .inr ⟨H.size, _, fun _ _ => False, rfl, nt_new (Nat.le_refl _), get_push_new H _, ?_, fun _ _ h => h.elim, fun _ _ _ h => h.elim, fun i y hy => ?_⟩⟩
  · have := O.len (hz (fun _ => True) (fun _ => True) H); simp [repl_len, this]
  · obtain ⟨hi, hy⟩ := List.getElem?_eq_some_iff.1 hy
    simp at hi hy
    subst hy
    have hl := O.len (hz (fun _ => True) (fun _ => True) H)
    exact ⟨zs, hz _ _ _, fun j v hj => by rw [← hl]; simpa using repl_get m zs i j v hi hj⟩
/-- The cells of a list of elements, one after the other. -/
theorem flat_get {sz : Nat} : ∀ (l : List (List Value)), (∀ cs ∈ l, cs.length = sz) → ∀ (i j : Nat) (cs : List Value) (v : Value), l[i]? = some cs → cs[j]? = some v → l.flatten[i * sz + j]? = some v
  | a :: l, h, i, j, cs, v, hi, hj => by
    have ha := h a (List.mem_cons_self ..)
    have hjl := (List.getElem?_eq_some_iff.1 hj).1
    rw [List.flatten_cons]
    cases i with
    | zero =>
      simp at hi; subst hi
      rw [Nat.zero_mul, Nat.zero_add, List.getElem?_append_left hjl]; exact hj
    | succ i =>
      rw [Nat.add_mul, Nat.one_mul, List.getElem?_append_right (by omega), show i * sz + sz + j - a.length = i * sz + j by omega]
      exact flat_get l (fun cs hc => h cs (List.mem_cons_of_mem _ hc)) i j cs v (by simpa using hi) hj
/-- A list of elements, told one by one. -/
inductive Each {α : Type} (R : α → List Value → Prop) : List α → List (List Value) → Prop where
  | nil : Each R [] []
  | cons {x : α} {cs : List Value} {xs : List α} {l : List (List Value)} : R x cs → Each R xs l → Each R (x :: xs) (cs :: l)
theorem Each.len {R : α → List Value → Prop} : ∀ {xs : List α} {l : List (List Value)}, Each R xs l → l.length = xs.length
  | _, _, .nil => rfl
  | _, _, .cons _ h => by simp [h.len]
theorem Each.get {R : α → List Value → Prop} : ∀ {xs : List α} {l : List (List Value)}, Each R xs l → ∀ (i : Nat) (x : α), xs[i]? = some x → ∃ cs, l[i]? = some cs ∧ R x cs
  | _, _, .nil, i, x, h => by simp at h
  | _, _, .cons hr h, i, x, hx => by
    cases i with
    | zero => simp at hx; subst hx; exact ⟨_, rfl, hr⟩
    | succ i => exact h.get i x (by simpa using hx)
theorem Each.all {R : α → List Value → Prop} {p : List Value → Prop} (hp : ∀ x cs, R x cs → p cs) : ∀ {xs : List α} {l : List (List Value)}, Each R xs l → ∀ cs ∈ l, p cs
  | _, _, .nil, cs, h => by cases h
  | _, _, .cons hr h, cs, hc => by
    rcases List.mem_cons.1 hc with rfl | hc
    · exact hp _ _ hr
    · exact h.all hp cs hc
theorem flat_len {sz : Nat} : ∀ (l : List (List Value)), (∀ cs ∈ l, cs.length = sz) → l.flatten.length = l.length * sz
  | [], _ => by simp
  | a :: l, h => by rw [List.flatten_cons, List.length_append, flat_len l (fun cs hc => h cs (List.mem_cons_of_mem _ hc)), h a (List.mem_cons_self ..), List.length_cons, Nat.add_mul, Nat.one_mul, Nat.add_comm]
/-- A literal slice, of elements that are read. -/
theorem SlO.lit (σ : Nat → Nat) (k : Nat) {xs : List α} {l : List (List Value)} {cells : Array Value} (eq : H1 = H.push (.cells cells e (0, 0))) (hc : cells = l.flatten.toArray) (h : Each (E.rep (Zt σ) H) xs l) (hlen : xs.length ≤ 17592186044416) :
    ∃ σ1, Stp [] σ H σ1 H1 ∧ SlO (rdM E) e (Zt σ1) (Yt σ1 k) H1 (some (Addr.mk H.size 0 none)) xs.length xs := by
  subst eq; subst hc
  have hl : ∀ cs ∈ l, cs.length = E.sz := h.all (fun x cs hr => E.len hr)
  refine ⟨_, Stp.push σ H _ k, Nat.le_refl _, hlen, .inr ⟨H.size, _, fun _ _ => False, rfl, nt_new (Nat.le_refl _), get_push_new H _, ?_, fun _ _ h => h.elim, fun _ _ _ h => h.elim, fun i y hy => ?_⟩⟩
  · rw [List.size_toArray, flat_len l hl, h.len]; rfl
  · obtain ⟨cs, hcs, hr⟩ := h.get i y hy
    exact ⟨cs, E.keep ((Stp.push σ H _ k).z (by simp)) hr, fun j v hj => by rw [List.getElem?_toArray]; exact flat_get l hl i j cs v hcs hj⟩
theorem SlF.sub {Z : Nat → Prop} (h : SlF E Z H A c xs) {l u : Nat} (hl : l ≤ u) (hu : u ≤ xs.length) {k : Nat} (hk : E.sz = k) : SlF E Z H (SubA A c l k) (c - l) ((xs.take u).drop l) := by
  have hcap := h.cap
  have hlt := h.lt
  refine ⟨by simp; omega, by simp; omega, fun i x hx => ?_⟩
  rw [List.getElem?_drop] at hx
  have hi : l + i < u := by
    have := (List.getElem?_eq_some_iff.1 hx).1
    simp at this; omega
  rw [List.getElem?_take_of_lt hi] at hx
  obtain ⟨a, cs, ha, hr, hc⟩ := h.get _ x hx
  subst ha
  refine ⟨a.add (scale l k), cs, ?_, hr, fun j v hj => ?_⟩
  · unfold SubA; rw [if_neg (by omega)]; rfl
  · obtain ⟨hz, hv⟩ := hc j v hj
    refine ⟨by rw [add_block]; exact hz, ?_⟩
    rw [add_add, scale_eq, ← hk, ← hv]; congr 2; rw [Nat.add_mul]; omega
theorem SlF.upto {Z : Nat → Prop} (h : SlF E Z H A c xs) {u : Nat} (hu : u ≤ xs.length) : SlF E Z H A c (xs.take u) := by
  have hcap := h.cap
  have hlt := h.lt
  refine ⟨by simp; omega, by simp; omega, fun i x hx => ?_⟩
  have hi : i < u := by have := (List.getElem?_eq_some_iff.1 hx).1; simp at this; omega
  rw [List.getElem?_take_of_lt hi] at hx
  exact h.get _ x hx
theorem SlF.from {Z : Nat → Prop} (h : SlF E Z H A c xs) {l : Nat} (hl : l ≤ xs.length) {k : Nat} (hk : E.sz = k) : SlF E Z H (SubA A c l k) (c - l) (xs.drop l) := by
  have := h.sub (l := l) (u := xs.length) hl (Nat.le_refl _) hk
  rwa [List.take_length] at this

/-- append, of elements from elsewhere. -/
theorem SlO.appT {ys : List α} {Y : Nat → Nat → Prop} (h : SlO O e (Zt σ) (Yt σ j) H A c xs) (hj : j ≠ 0) {new : List Value} {k bytes : Nat} {zero : List Value}
    (hk : O.rd.sz = k) (hl : new.length = ys.length * k) (hc : new.all isCell = true)
    (hy : ∀ (i : Nat) (y : α), ys[i]? = some y → ∃ cs, O.rep (Zt σ) (Y i) H y cs ∧ ∀ (j : Nat) (v : Value), cs[j]? = some v → new[i * k + j]? = some v)
    (hY1 : ∀ i b, Y i b → σ b ≠ j ∧ σ b ≠ 0) (hY2 : ∀ i l b, Y i b → Y l b → i = l) (hz : zero.length = k) (hb : (xs.length + ys.length) * bytes ≤ 140737488355328) (hlen : xs.length + ys.length ≤ 17592186044416)
    {K : Option Addr → Nat → Nat → Heap → Prop}
    (kont : ∀ A' c' H' Y', (∀ b, Y' b → b < H.size → σ b = j ∨ ∃ i, Y i b) → H.size ≤ H'.size → (∀ b, b < H.size → σ b ≠ j → H'[b]? = H[b]?) → (∀ b, Y' b → b < H'.size) → SlO O e (fun b => Zt σ b ∧ b < H.size) Y' H' A' c' (xs ++ ys) → K A' (xs ++ ys).length c' H') :
    AppendT e k bytes zero H A xs.length c ys.length new K := by
  have hcap := h.cap
  refine ⟨hc, fun hroom => ?_, fun hno => ⟨growslice_fits hno hb, by omega, ?_⟩⟩
  · rcases h.blk with ⟨rfl, rfl⟩ | ⟨g, cells, Ys, rfl, hg, hbk, hs, h1, h2, h3⟩
    · simp only
      have hys : ys = [] := List.eq_nil_of_length_eq_zero (by omega)
      have hxs : xs = [] := List.eq_nil_of_length_eq_zero (by omega)
      subst hys; subst hxs
      have := kont none 0 H (fun _ => False) (fun _ h => h.elim) (Nat.le_refl _) (fun _ _ _ => rfl) (fun _ h => h.elim) (SlO.nil _ _ _ _ _)
      simpa using this
    · simp only
      have ha : (Addr.mk g 0 none).add (xs.length * k) = ⟨g, xs.length * k, none⟩ := add_mk g _
      rw [ha]
      have hsz : xs.length * k + ys.length * k ≤ cells.size := by
        rw [hs, hk, ← Nat.add_mul]; exact Nat.mul_le_mul_right k hroom
      obtain ⟨cells', hb', hs', hget⟩ := setsH_blk new H g (xs.length * k) 0 cells e hbk (by omega)
      have hne : ∀ b, σ b ≠ j → (setsH H ⟨g, xs.length * k, none⟩ 0 new)[b]? = H[b]? := fun b hb => setsH_get_ne _ _ _ _ _ (fun q : b = g => hb (q ▸ hg))
      have hsize : (setsH H ⟨g, xs.length * k, none⟩ 0 new).size = H.size := setsH_size _ _ _ _
      refine ⟨mayWrite_blk hbk (by omega), ?_⟩
      rw [← List.length_append]
      refine kont _ _ _ (fun b => (σ b = j ∨ ∃ i, Y i b) ∧ b < H.size) (fun b hb _ => hb.1) (Nat.le_of_eq hsize.symm) (fun b _ hb => hne b hb) (fun b hb => by rw [hsize]; exact hb.2) ⟨by simpa using hroom, by simpa using hlen, .inr ⟨g, cells', fun i b => if i < xs.length then Ys i b ∧ b < H.size else Y (i - xs.length) b ∧ b < H.size, rfl, ⟨.inl hg, lt_of_get hbk⟩, hb', by rw [hs', hs], ?_, ?_, ?_⟩⟩
      · intro i b hi
        by_cases hlt : i < xs.length
        · simp only [hlt, if_true] at hi
          exact ⟨⟨.inl (h1 i b hi.1).1, hi.2⟩, (h1 i b hi.1).2⟩
        · simp only [hlt, if_false] at hi
          exact ⟨⟨.inr ⟨_, hi.1⟩, hi.2⟩, fun q => (hY1 _ _ hi.1).1 (q ▸ hg)⟩
      · intro i l b hi hl
        by_cases h1i : i < xs.length <;> by_cases h1l : l < xs.length
        · simp only [h1i, h1l, if_true] at hi hl; exact h2 _ _ _ hi.1 hl.1
        · simp only [h1i, h1l, if_true, if_false] at hi hl; exact absurd (h1 _ _ hi.1).1 (hY1 _ _ hl.1).1
        · simp only [h1i, h1l, if_true, if_false] at hi hl; exact absurd (h1 _ _ hl.1).1 (hY1 _ _ hi.1).1
        · simp only [h1i, h1l, if_false] at hi hl; have := hY2 _ _ _ hi.1 hl.1; omega
      · intro i x hx
        have frz : Fr (Zt σ) H (fun b => Zt σ b ∧ b < H.size) (setsH H ⟨g, xs.length * k, none⟩ 0 new) := fun b hb hbl => ⟨⟨hb, hbl⟩, hne b (fun q => hj (q.symm.trans hb))⟩
        by_cases hlt : i < xs.length
        · rw [List.getElem?_append_left hlt] at hx
          obtain ⟨cs, hrp, hcs⟩ := h3 i x hx
          have hl2 := O.len hrp
          refine ⟨cs, by simp only [hlt, if_true]; exact O.keep frz (fun b hb hbl => ⟨⟨hb, hbl⟩, setsH_get_ne _ _ _ _ _ (show b ≠ g from (h1 i b hb).2)⟩) hrp, fun q v hq => ?_⟩
          have hql := (List.getElem?_eq_some_iff.1 hq).1
          have := Nat.mul_le_mul_right k (show i + 1 ≤ xs.length by omega)
          rw [Nat.add_mul, Nat.one_mul] at this
          rw [hget, if_neg (by rw [hk] at hl2 ⊢; omega)]; exact hcs q v hq
        · rw [List.getElem?_append_right (by omega)] at hx
          obtain ⟨cs, hrp, hcs⟩ := hy _ x hx
          have hl2 := O.len hrp
          have hiy := (List.getElem?_eq_some_iff.1 hx).1
          refine ⟨cs, by simp only [hlt, if_false]; exact O.keep frz (fun b hb hbl => ⟨⟨hb, hbl⟩, hne b (hY1 _ _ hb).1⟩) hrp, fun q v hq => ?_⟩
          have hql := (List.getElem?_eq_some_iff.1 hq).1
          have e1 : i * k = xs.length * k + (i - xs.length) * k := by rw [← Nat.add_mul]; congr 1; omega
          have := Nat.mul_le_mul_right k (show (i - xs.length) + 1 ≤ ys.length by omega)
          rw [Nat.add_mul, Nat.one_mul] at this
          rw [hk] at hl2 ⊢
          rw [hget, if_pos (by omega), ← hcs q v hq]
          congr 1; omega
  · obtain ⟨old, Ys, hol, hor, h1, h2, h3⟩ : ∃ (old : List Value) (Ys : Nat → Nat → Prop), old.length = xs.length * k ∧ ReadsC H A old ∧ (∀ i b, Ys i b → σ b = j) ∧ (∀ i l b, Ys i b → Ys l b → i = l) ∧
        ∀ i x, xs[i]? = some x → ∃ cs, O.rep (Zt σ) (Ys i) H x cs ∧ ∀ (q : Nat) (v : Value), cs[q]? = some v → old[i * k + q]? = some v := by
      rcases h.blk with ⟨rfl, rfl⟩ | ⟨g, cells, Ys, rfl, hg, hbk, hs, h1, h2, h3⟩
      · have hxs : xs = [] := List.eq_nil_of_length_eq_zero (by omega)
        subst hxs
        exact ⟨[], fun _ _ => False, by simp, rfl, fun _ _ h => h.elim, fun _ _ _ h => h.elim, fun i x hx => by simp at hx⟩
      · have hle : xs.length * k ≤ cells.size := by rw [hs, hk]; exact Nat.mul_le_mul_right k hcap
        refine ⟨cells.toList.take (xs.length * k), Ys, by simp; omega, fun q hq => ?_, fun i b hb => (h1 i b hb).1, h2, fun i x hx => ?_⟩
        · simp at hq
          have hq2 : q < cells.size := by omega
          rw [add_mk, cell_blk hbk]
          simp [hq2]
        · obtain ⟨cs, hrp, hcs⟩ := h3 i x hx
          have hl2 := O.len hrp
          have hi := (List.getElem?_eq_some_iff.1 hx).1
          refine ⟨cs, hrp, fun q v hq => ?_⟩
          have hql := (List.getElem?_eq_some_iff.1 hq).1
          have := Nat.mul_le_mul_right k (show i + 1 ≤ xs.length by omega)
          rw [Nat.add_mul, Nat.one_mul] at this
          rw [List.getElem?_take_of_lt (by omega), ← hk]; simpa using hcs q v hq
    refine ⟨old, hol, hor, fun c' hc' => ?_⟩
    have E2 := Ext.push H (.cells (old ++ new ++ repl (c' - (xs.length + ys.length)) zero).toArray e (0, 0))
    have frz : ∀ Z : Nat → Prop, Fr Z H (fun b => Z b ∧ b < H.size) (H.push (.cells (old ++ new ++ repl (c' - (xs.length + ys.length)) zero).toArray e (0, 0))) := fun Z b hb hbl => ⟨⟨hb, hbl⟩, E2.get b hbl⟩
    have hcells : (old ++ new ++ repl (c' - (xs.length + ys.length)) zero).length = c' * k := by
      rw [List.length_append, List.length_append, repl_len, hol, hl, hz, ← Nat.add_mul, ← Nat.add_mul]; congr 1; omega
    rw [← List.length_append]
    rw [← List.length_append] at hc' E2 frz hcells
    refine kont _ _ _ (fun b => ((σ b = j ∨ ∃ i, Y i b) ∧ b < H.size) ∨ b = H.size) (fun b hb hlt => by rcases hb with hb | hb; exact hb.1; omega) E2.size (fun b hb _ => E2.get b hb) (fun b hb => by rcases hb with hb | hb; exact Nat.lt_of_lt_of_le hb.2 E2.size; rw [hb]; simp)
      ⟨hc', by simpa using hlen, .inr ⟨H.size, _, fun i b => if i < xs.length then Ys i b ∧ b < H.size else Y (i - xs.length) b ∧ b < H.size, rfl, .inr rfl, get_push_new H _, by rw [List.size_toArray, hcells, hk], ?_, ?_, ?_⟩⟩
    · intro i b hi
      by_cases hlt : i < xs.length
      · simp only [hlt, if_true] at hi
        exact ⟨.inl ⟨.inl (h1 i b hi.1), hi.2⟩, by omega⟩
      · simp only [hlt, if_false] at hi
        exact ⟨.inl ⟨.inr ⟨_, hi.1⟩, hi.2⟩, by omega⟩
    · intro i l b hi hl
      by_cases h1i : i < xs.length <;> by_cases h1l : l < xs.length
      · simp only [h1i, h1l, if_true] at hi hl; exact h2 _ _ _ hi.1 hl.1
      · simp only [h1i, h1l, if_true, if_false] at hi hl; exact absurd (h1 _ _ hi.1) (hY1 _ _ hl.1).1
      · simp only [h1i, h1l, if_true, if_false] at hi hl; exact absurd (h1 _ _ hl.1) (hY1 _ _ hi.1).1
      · simp only [h1i, h1l, if_false] at hi hl; have := hY2 _ _ _ hi.1 hl.1; omega
    · intro i x hx
      by_cases hlt : i < xs.length
      · rw [List.getElem?_append_left hlt] at hx
        obtain ⟨cs, hrp, hcs⟩ := h3 i x hx
        have hl2 := O.len hrp
        refine ⟨cs, by simp only [hlt, if_true]; exact O.keep (frz _) (fun b hb hbl => ⟨⟨hb, hbl⟩, E2.get b hbl⟩) hrp, fun q v hq => ?_⟩
        have hql := (List.getElem?_eq_some_iff.1 hq).1
        have := Nat.mul_le_mul_right k (show i + 1 ≤ xs.length by omega)
        rw [Nat.add_mul, Nat.one_mul] at this
        rw [hk] at hl2 ⊢
        rw [List.getElem?_toArray, List.append_assoc, List.getElem?_append_left (by omega)]; exact hcs q v hq
      · rw [List.getElem?_append_right (by omega)] at hx
        obtain ⟨cs, hrp, hcs⟩ := hy _ x hx
        have hl2 := O.len hrp
        have hiy := (List.getElem?_eq_some_iff.1 hx).1
        refine ⟨cs, by simp only [hlt, if_false]; exact O.keep (frz _) (fun b hb hbl => ⟨⟨hb, hbl⟩, E2.get b hbl⟩) hrp, fun q v hq => ?_⟩
        have hql := (List.getElem?_eq_some_iff.1 hq).1
        have e1 : i * k = xs.length * k + (i - xs.length) * k := by rw [← Nat.add_mul]; congr 1; omega
        have := Nat.mul_le_mul_right k (show (i - xs.length) + 1 ≤ ys.length by omega)
        rw [Nat.add_mul, Nat.one_mul] at this
        rw [hk] at hl2 ⊢
        rw [List.getElem?_toArray, List.append_assoc, List.getElem?_append_right (by omega), List.getElem?_append_left (by omega), ← hcs q v hq]
        congr 1; omega
/-- The cells of a slice that is read, as a list. -/
theorem SlF.reads {Z : Nat → Prop} {k : Nat} (h : SlF E Z H A c xs) (hk : E.sz = k) (hA : A = none → xs = []) :
    ∃ vs : List Value, vs.length = xs.length * k ∧ ReadsC H A vs ∧ vs.all isCell = true ∧ ∀ (i : Nat) (x : α), xs[i]? = some x → ∃ cs, E.rep Z H x cs ∧ ∀ (j : Nat) (v : Value), cs[j]? = some v → vs[i * k + j]? = some v := by
  cases A with
  | none =>
    obtain rfl := hA rfl
    exact ⟨[], by simp, rfl, rfl, fun i x hx => by simp at hx⟩
  | some a =>
    have get : ∀ q, q < xs.length * k → ∃ v, cellH H (a.add q) = some v ∧ isCell v = true := by
      intro q hq
      have hk0 : 0 < k := by rcases Nat.eq_zero_or_pos k with h0 | h0; rw [h0] at hq; omega; exact h0
      have hqi : q / k < xs.length := (Nat.div_lt_iff_lt_mul hk0).2 hq
      obtain ⟨a', cs, ha', hr, hc⟩ := h.get (q / k) _ (List.getElem?_eq_getElem hqi)
      cases ha'
      have hl := E.len hr
      have hm := Nat.mod_lt q hk0
      rw [hk] at hl hc
      have hv := (hc (q % k) _ (List.getElem?_eq_getElem (show q % k < cs.length by omega))).2
      rw [show q / k * k + q % k = q by rw [Nat.mul_comm]; exact Nat.div_add_mod q k] at hv
      exact ⟨_, hv, by have hf := E.flat hr; rw [List.all_eq_true] at hf; exact hf _ (List.getElem_mem _)⟩
    refine ⟨(List.range (xs.length * k)).map fun q => (cellH H (a.add q)).getD undef, by simp, ?_, ?_, ?_⟩
    · intro q hq
      simp at hq
      obtain ⟨v, hv, _⟩ := get q hq
      simp [hv]
    · rw [List.all_eq_true]
      intro v hv
      obtain ⟨q, hq, rfl⟩ := List.mem_map.1 hv
      obtain ⟨v, hv, hf⟩ := get q (List.mem_range.1 hq)
      rw [hv]; exact hf
    · intro i x hx
      obtain ⟨a', cs, ha', hr, hc⟩ := h.get i x hx
      cases ha'
      have hl := E.len hr
      have hi := (List.getElem?_eq_some_iff.1 hx).1
      refine ⟨cs, hr, fun q v hq => ?_⟩
      have hql := (List.getElem?_eq_some_iff.1 hq).1
      have := Nat.mul_le_mul_right k (show i + 1 ≤ xs.length by omega)
      rw [Nat.add_mul, Nat.one_mul] at this
      have hv := (hc q v hq).2
      rw [hk] at hv hl
      have hb : i * k + q < xs.length * k := by omega
      simp [hb, hv]
theorem SlF.none_nil {Z : Nat → Prop} (h : SlF E Z H A c xs) (hA : A = none) : xs = [] := by
  cases xs with
  | nil => rfl
  | cons x l => obtain ⟨a, cs, ha, _⟩ := h.get 0 x rfl; rw [hA] at ha; cases ha
theorem growth {σ : Nat → Nat} {H H' : Heap} {Y' : Nat → Prop} {js : Nat → Prop} (hY' : ∀ b, Y' b → b < H.size → js (σ b)) (hs : H.size ≤ H'.size) (hg : ∀ b, b < H.size → σ b ≠ j → H'[b]? = H[b]?) {m : List Nat} (hm : ∀ x, x ∉ m → ¬ js x) (hj : j ∈ m) (h0 : 0 ∉ m) :
    ∃ σ1, Stp m σ H σ1 H' ∧ Fr (fun b => Zt σ b ∧ b < H.size) H' (Zt σ1) H' ∧ Fr Y' H' (Yt σ1 j) H' := by
  classical
  refine ⟨fun i => if i < H.size then (if Y' i then j else σ i) else j, ⟨hs, fun i hi hn => ⟨?_, hg i hi (fun q => hn (q ▸ hj))⟩⟩, fun i hz _ => ⟨?_, rfl⟩, fun i hy _ => ⟨?_, rfl⟩⟩
  · simp only [hi, if_true]
    rw [if_neg (fun hy => hm _ hn (hY' i hy hi))]
  · have hz' : σ i = 0 := hz.1
    simp only [Zt, hz.2, if_true]
    rw [if_neg (fun hy => hm 0 h0 (by rw [← hz']; exact hY' i hy hz.2))]; exact hz'
  · by_cases hi : i < H.size <;> simp [Yt, hi, hy]
/-- append of a slice that is read. -/
theorem SlO.appF {ys : List α} (h : SlO (rdM E) e (Zt σ) (Yt σ j) H A c xs) {B : Option Addr} {cB : Nat} (hB : SlF E (Zt σ) H B cB ys) {k bytes : Nat} {zero : List Value} (hk : E.sz = k) (hz : zero.length = k)
    (hb : (xs.length + ys.length) * bytes ≤ 140737488355328) (hlen : xs.length + ys.length ≤ 17592186044416) {n m : Nat} (hn : n = xs.length) (hm : m = ys.length) {K : Option Addr → Nat → Nat → Heap → Prop}
    (kont : ∀ A' c' H' σ', Stp [j] σ H σ' H' → SlO (rdM E) e (Zt σ') (Yt σ' j) H' A' c' (xs ++ ys) → K A' (xs ++ ys).length c' H') (hj : j ≠ 0 := by decide) :
    AppendV e k bytes zero H A n c B m K := by
  subst hn; subst hm
  obtain ⟨vs, hl, hr, hc, hv⟩ := hB.reads hk hB.none_nil
  refine ⟨vs, hl, hr, h.appT (O := rdM E) (Y := fun _ _ => False) hj hk hl hc (fun i y hy => hv i y hy) (fun _ _ h => h.elim) (fun _ _ _ h => h.elim) hz hb hlen fun A' c' H' Y' h1 h2 h3 h4 h5 => ?_⟩
  obtain ⟨σ1, st, hz1, hy1⟩ := growth (j := j) (js := fun x => x = j) (m := [j]) (fun b hb hl => by rcases h1 b hb hl with q | ⟨_, q⟩; exact q; exact q.elim) h2 h3 (fun x hx => by simpa using hx) (by simp) (by simpa using Ne.symm hj)
  exact kont A' c' H' σ1 st (h5.keep hz1 hy1)
/-- append of own memory (j2), whose elements are handed over. -/
theorem SlO.appO {ys : List α} {j2 e2 : Nat} (h : SlO O e (Zt σ) (Yt σ j) H A c xs) {B : Option Addr} {cB : Nat} (hB : SlO O e2 (Zt σ) (Yt σ j2) H B cB ys) {k bytes : Nat} {zero : List Value} (hk : O.rd.sz = k) (hz : zero.length = k)
    (hb : (xs.length + ys.length) * bytes ≤ 140737488355328) (hlen : xs.length + ys.length ≤ 17592186044416) {n m : Nat} (hn : n = xs.length) (hm : m = ys.length) {K : Option Addr → Nat → Nat → Heap → Prop}
    (kont : ∀ A' c' H' σ', Stp [j, j2] σ H σ' H' → SlO O e (Zt σ') (Yt σ' j) H' A' c' (xs ++ ys) → K A' (xs ++ ys).length c' H') (hj : j ≠ 0 := by decide) (hj2 : j2 ≠ 0 := by decide) (hjj : j2 ≠ j := by decide) :
    AppendV e k bytes zero H A n c B m K := by
  subst hn; subst hm
  obtain ⟨vs, hl, hr, hc, _⟩ := hB.seen.reads hk hB.seen.none_nil
  obtain ⟨Ys, hY1, hY2, hY3⟩ : ∃ Ys : Nat → Nat → Prop, (∀ i b, Ys i b → σ b = j2) ∧ (∀ i l b, Ys i b → Ys l b → i = l) ∧ ∀ (i : Nat) (y : α), ys[i]? = some y → ∃ cs, O.rep (Zt σ) (Ys i) H y cs ∧ ∀ (q : Nat) (v : Value), cs[q]? = some v → vs[i * k + q]? = some v := by
    rcases hB.blk with ⟨rfl, hc0⟩ | ⟨g, cells, Ys, rfl, hg, hbk, hs, h1, h2, h3⟩
    · have hys : ys = [] := List.eq_nil_of_length_eq_zero (by have := hB.cap; omega)
      subst hys
      exact ⟨fun _ _ => False, fun _ _ h => h.elim, fun _ _ _ h => h.elim, fun i y hy => by simp at hy⟩
    · refine ⟨Ys, fun i b hb => (h1 i b hb).1, h2, fun i y hy => ?_⟩
      obtain ⟨cs, hrp, hcs⟩ := h3 i y hy
      have hl2 := O.len hrp
      have hi := (List.getElem?_eq_some_iff.1 hy).1
      refine ⟨cs, hrp, fun q v hq => ?_⟩
      have hql := (List.getElem?_eq_some_iff.1 hq).1
      have := Nat.mul_le_mul_right k (show i + 1 ≤ ys.length by omega)
      rw [Nat.add_mul, Nat.one_mul] at this
      have hlt : i * k + q < vs.length := by rw [hl]; omega
      have h5 := hr (i * k + q) hlt
      rw [add_mk, cell_blk hbk] at h5
      rw [hk] at hcs
      rw [hcs q v hq] at h5
      rw [List.getElem?_eq_getElem hlt, h5]
  refine ⟨vs, hl, hr, h.appT (Y := Ys) hj hk hl hc hY3 (fun i b hb => by rw [hY1 i b hb]; exact ⟨hjj, hj2⟩) hY2 hz hb hlen fun A' c' H' Y' h1 h2 h3 h4 h5 => ?_⟩
  obtain ⟨σ1, st, hz1, hy1⟩ := growth (j := j) (js := fun x => x = j ∨ x = j2) (m := [j, j2]) (fun b hb hl => by rcases h1 b hb hl with q | ⟨_, q⟩; exact .inl q; exact .inr (hY1 _ _ q)) h2 h3 (fun x hx => by simp at hx; omega) (by simp) (by simp; omega)
  exact kont A' c' H' σ1 st (h5.keep hz1 hy1)

/-! ### Own memory in own memory -/
def slM {α : Type} (O : Mr α) (e : Nat) : Mr (List α) where
  rd := slL O.rd
  rep := fun Z Y H xs cs => ∃ A c, cs = [.slice A xs.length c] ∧ SlO O e Z Y H A c xs
  keep := fun hz hy ⟨A, c, q, h⟩ => ⟨A, c, q, h.keep hz hy⟩
  read := fun hz hy ⟨A, c, q, h⟩ => ⟨A, c, q, h.read hz hy⟩
theorem slM_zero {α : Type} (O : Mr α) (e : Nat) (Z Y : Nat → Prop) (H : Heap) : (slM O e).rep Z Y H [] [.slice none 0 0] := ⟨none, 0, rfl, SlO.nil _ _ _ _ _⟩
theorem slL_zero {α : Type} (E : Rl α) (Z Y : Nat → Prop) (H : Heap) : (rdM (slL E)).rep Z Y H [] [.slice none 0 0] := ⟨none, 0, rfl, SlF.nil _ _ _ _ _⟩
theorem u64_zero (Z Y : Nat → Prop) (H : Heap) : (rdM u64L).rep Z Y H 0 [.int .u64 0] := rfl
theorem i64_zero (Z Y : Nat → Prop) (H : Heap) : (rdM i64L).rep Z Y H 0 [.int .i64 0] := rfl
theorem bool_zero (Z Y : Nat → Prop) (H : Heap) : (rdM boolL).rep Z Y H false [.bool false] := rfl
end
section
variable {α : Type} {O : Mr α} {E : Rl α} {e e2 j : Nat} {σ : Nat → Nat} {H H1 : Heap} {A : Option Addr} {c : Nat} {xs : List (List α)} {a : Addr}
/-- A row of own rows: where it lies, as own memory. -/
theorem SlO.row (h : SlO (slM O e2) e (Zt σ) (Yt σ j) H A c xs) (ha : A = some a) {i : Int} (h0 : 0 ≤ i) {x : List α} (hx : xs[i.toNat]? = some x) :
    ∃ A' c' Yi, CelF j σ H (a.add i.toNat) (.slice A' x.length c') ∧ (∀ b, Yi b → σ b = j ∧ b ≠ a.block) ∧ SlO O e2 (Zt σ) Yi H A' c' x ∧
      ∀ {H1 : Heap} {σ1 : Nat → Nat} {x' : List α}, Fr (Zt σ) H (Zt σ1) H1 → (∀ b, b < H.size → σ b = j → ¬ Yi b → σ1 b = j ∧ H1[b]? = H[b]?) → x'.length = x.length → SlO O e2 (Zt σ1) (fun b => Yi b ∧ σ1 b = j) H1 A' c' x' → SlO (slM O e2) e (Zt σ1) (Yt σ1 j) H1 A c (xs.set i.toNat x') := by
  obtain ⟨g, cs, Yi, hA, hg, hgl, _, hYi, hr0, hc, hl, _⟩ := h.lens h0 hx
  rw [ha] at hA; cases hA
  obtain ⟨A', c', rfl, hs⟩ := hr0
  refine ⟨A', c', Yi, ⟨by rw [add_block]; exact hg, by have := hc 0 _ rfl; rw [Nat.add_zero, show (slM O e2).rd.sz = 1 from rfl, Nat.mul_one] at this; exact this⟩, fun b hb => hYi b hb, hs, ?_⟩
  intro H1 σ1 x' hz hy hxl hs'
  exact hl hz (fun b hb hnb hbl => hy b hbl hb hnb) (fun b hb => ⟨hb.2, fun _ => hb.1⟩) ⟨A', c', by rw [hxl], hs'⟩
/-- A cell of a row of own rows is written. -/
theorem SlO.set2 {xs : List (List α)} (h : SlO (slM (rdM E) e2) e (Zt σ) (Yt σ j) H A c xs) (hs : E.sz = 1) (ha : A = some a) {i : Int} (h0 : 0 ≤ i) {x : List α} (hx : xs[i.toNat]? = some x)
    {A' : Option Addr} {n' c' : Nat} (hh : CelF j σ H (a.add i.toNat) (.slice A' n' c')) {a' : Addr} (ha' : A' = some a') {l : Int} (l0 : 0 ≤ l) (hl : l < (x.length : Int)) {y : α} {v : Value} (hr : E.rep (Zt σ) H y [v]) (hj : j ≠ 0 := by decide) :
    MayWrite H (a'.add l.toNat) 1 ∧ ∀ H1, H1 = setH H (a'.add l.toNat) v → Stp [j] σ H σ H1 ∧ SlO (slM (rdM E) e2) e (Zt σ) (Yt σ j) H1 A c (xs.set i.toNat (x.set l.toNat y)) ∧ ∀ q u, CelF j σ H (a.add q) u → CelF j σ H1 (a.add q) u := by
  obtain ⟨A2, c2, Yi, hc, hYi, hrow, back⟩ := h.row ha h0 hx
  have hc := hc.val
  rw [hh.val] at hc; cases hc
  obtain ⟨g, cs, Y2, hA, hg, hgl, _, _, hr0, _, _, hw⟩ := hrow.lens l0 (List.getElem?_eq_getElem (show l.toNat < x.length by omega))
  rw [ha'] at hA; cases hA
  have hlen := E.len hr0
  have hs' : (rdM E).rd.sz = 1 := hs
  rw [hs'] at hw
  have hgj : σ g = j := (hYi g hg).1
  have hgz : ¬ Zt σ g := fun q => hj (hgj.symm.trans q)
  have st : Stp [j] σ H σ (setH H ((Addr.mk g 0 none).add l.toNat) v) := ⟨by rw [setH_size]; exact Nat.le_refl _, fun b hb hn => ⟨rfl, setH_get_ne _ _ _ _ (by rw [add_mk]; exact fun q : b = g => hn (by rw [q, hgj]; simp))⟩⟩
  have := hw (Z' := Zt σ) (Y' := fun b => Yi b ∧ σ b = j) (Yi' := fun _ => False) (x' := y) (cs' := [v]) (o := 0) (vs := [v]) (Fr.refl _ _) (Fr.wide (fun b hb => ⟨hb, (hYi b hb).1⟩) _) hgz (fun _ h => h.elim)
    (by simp only [Nat.mul_one, Nat.add_zero]; exact E.keep (st.z (by simpa using Ne.symm hj)) hr) (by simp) (fun k => by
      rw [hs] at hlen
      by_cases hk : k = 0
      · subst hk; simp
      · rw [if_neg (by simp; omega), List.getElem?_eq_none (by simp; omega), List.getElem?_eq_none (by omega)])
  simp only [Nat.mul_one, Nat.add_zero] at this
  refine ⟨this.1, ?_⟩
  rintro H1 rfl
  refine ⟨st, back (st.z (by simpa using Ne.symm hj)) (fun b hb hbj hnb => ⟨hbj, ?_⟩) (by simp) this.2, fun q u hq => ⟨hq.tag, ?_⟩⟩
  · rw [setH_get_ne]; rw [add_mk]; exact fun q : b = g => hnb (q ▸ hg)
  · rw [← hq.val]; refine cell_of_get (setH_get_ne _ _ _ _ ?_); rw [add_block, add_mk]; exact fun w => (hYi g hg).2 w.symm
/-- An own row is put into own rows. -/
theorem SlO.put {j2 : Nat} (h : SlO (slM O e2) e (Zt σ) (Yt σ j) H A c xs) (ha : A = some a) {i : Int} (h0 : 0 ≤ i) (hi : i < (xs.length : Int)) {A' : Option Addr} {c' n' : Nat} {y : List α} (hn : n' = y.length) (hy : SlO O e2 (Zt σ) (Yt σ j2) H A' c' y) (hj : j ≠ 0 := by decide) (hj2 : j2 ≠ 0 := by decide) (hjj : j2 ≠ j := by decide) :
    MayWrite H (a.add i.toNat) 1 ∧ ∀ H1, H1 = setH H (a.add i.toNat) (.slice A' n' c') → ∃ σ1, Stp [j, j2] σ H σ1 H1 ∧ SlO (slM O e2) e (Zt σ1) (Yt σ1 j) H1 A c (xs.set i.toNat y) := by
  subst hn
  obtain ⟨g, cs, Yi, hA, hg, hgl, _, hYi, hr0, hc, _, hw⟩ := h.lens h0 (List.getElem?_eq_getElem (show i.toNat < xs.length by omega))
  rw [ha] at hA; cases hA
  have hlen := (slM O e2).len hr0
  have hs' : (slM O e2).rd.sz = 1 := rfl
  rw [hs'] at hw hlen
  have hgj : σ g = j := hg
  have e1 : Fr (Zt σ) H (Zt (rt σ j2 j)) H := fun b hb _ => ⟨by have hb' : σ b = 0 := hb; simp [Zt, rt, hb', Ne.symm hj2], rfl⟩
  have e2' : Fr (Yt σ j) H (Yt (rt σ j2 j)  j) H := fun b hb _ => ⟨by have hb' : σ b = j := hb; simp [Yt, rt, hb'], rfl⟩
  have hgz : ¬ Zt (rt σ j2 j) g := fun q => by simp [Zt, rt, hgj, Ne.symm hjj] at q; exact hj q
  have hne : ∀ b, b ≠ g → (setH H ((Addr.mk g 0 none).add i.toNat) (.slice A' y.length c'))[b]? = H[b]? := fun b hb => setH_get_ne _ _ _ _ (by rw [add_mk]; exact hb)
  have := hw (Z' := Zt (rt σ j2 j)) (Y' := Yt (rt σ j2 j) j) (Yi' := fun b => Yt σ j2 b ∧ b < H.size) (x' := y) (cs' := [.slice A' y.length c']) (o := 0) (vs := [.slice A' y.length c']) e1 e2' hgz
    (fun b hb => ⟨by have hb' : σ b = j2 := hb.1; simp [Yt, rt, hb'], fun _ => .inl (fun q => by have hb' : σ b = j2 := hb.1; have q' : σ b = j := q; omega), fun q => by have hb' : σ b = j2 := hb.1; rw [q, hgj] at hb'; exact hjj hb'.symm⟩)
    (by
      simp only [Nat.mul_one, Nat.add_zero]
      exact ⟨A', c', rfl, hy.keep (fun b hb hbl => ⟨(e1 b hb hbl).1, hne b (fun q => by have hb' : σ b = 0 := hb; rw [q, hgj] at hb'; exact hj hb')⟩) (fun b hb hbl => ⟨⟨hb, hbl⟩, hne b (fun q => by have hb' : σ b = j2 := hb; rw [q, hgj] at hb'; exact hjj hb'.symm)⟩)⟩) (by simp) (fun k => by
      by_cases hk : k = 0
      · subst hk; simp
      · rw [if_neg (by simp; omega), List.getElem?_eq_none (by simp; omega), List.getElem?_eq_none (by omega)])
  simp only [Nat.mul_one, Nat.add_zero] at this
  refine ⟨this.1, ?_⟩
  rintro H1 rfl
  exact ⟨rt σ j2 j, ⟨by rw [setH_size]; exact Nat.le_refl _, fun b hb hn => ⟨by simp at hn; simp [rt, hn.2], hne b (fun q => hn (by rw [q, hgj]; simp))⟩⟩, this.2⟩
end
end Go.Lf
