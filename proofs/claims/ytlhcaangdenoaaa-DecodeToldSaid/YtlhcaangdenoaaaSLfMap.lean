import Derived.Test.YtlhcaangdenoaaaSBase
import Derived.MapKept
namespace Go.Sx
end Go.Sx
set_option linter.unusedVariables false
namespace Go.Lf
open Go.Sx
def keysOf (ks : List Nat) : List Value := ks.map fun (k : Nat) => Value.int .u64 (k : Int)
structure MapF (j : Nat) (σ : Nat → Nat) (H : Heap) (g : Nat) (ks : List Nat) : Prop where
  blk : ∃ (es : Array MapEntry) (ck : Nat), H[g]? = some (.map es ck) ∧ es.toList.map (·.key) = keysOf ks
  tag : σ g = j
def mput (ks : List Nat) (k : Nat) : List Nat := if k ∈ ks then ks else ks ++ [k]
section
variable {m : List Nat} {σ σ' : Nat → Nat} {H H1 H' : Heap} {j g : Nat} {ks : List Nat}
theorem MapF.new (σ : Nat → Nat) {H H1 : Heap} (k : Nat) (e : H1 = H.push (.map #[] 0)) : ∃ σ1, Stp [] σ H σ1 H1 ∧ MapF k σ1 H1 H.size [] := by
  subst e; exact ⟨_, Stp.push σ H _ k, ⟨#[], 0, get_push_new H _, rfl⟩, nt_new (Nat.le_refl _)⟩
theorem MapF.step (h : MapF j σ H g ks) (hs : Stp m σ H σ' H') (hj : j ∉ m := by decide) : MapF j σ' H' g ks := by
  obtain ⟨es, ck, hb, hk⟩ := h.blk
  obtain ⟨h1, h2⟩ := hs.get g (lt_of_get hb) (by rw [h.tag]; exact hj)
  exact ⟨⟨es, ck, h2.trans hb, hk⟩, h1.trans h.tag⟩
theorem MapF.len (h : MapF j σ H g ks) : ∃ (es : Array MapEntry) (ck : Nat), H[g]? = some (.map es ck) ∧ es.size = ks.length := by
  obtain ⟨es, ck, hb, hk⟩ := h.blk
  have := congrArg List.length hk
  simp [keysOf] at this
  exact ⟨es, ck, hb, this⟩
theorem find_keys (k : Nat) : ∀ (es : List MapEntry) (ks : List Nat) (i : Nat), es.map (·.key) = keysOf ks →
    (k ∉ ks ∧ Instr.findNow (.int .u64) (.int .u64 (k : Int)) es i = some none) ∨
    (k ∈ ks ∧ ∃ a v e, Instr.findNow (.int .u64) (.int .u64 (k : Int)) es i = some (some (i + a, v)) ∧ es[a]? = some e ∧ e.key = .int .u64 (k : Int))
  | [], [], _, _ => .inl ⟨by simp, rfl⟩
  | [], _ :: _, _, h => by simp [keysOf] at h
  | _ :: _, [], _, h => by simp [keysOf] at h
  | e :: es, x :: ks, i, h => by
    simp only [keysOf, List.map_cons, List.cons.injEq] at h
    obtain ⟨h1, h2⟩ := h
    unfold Instr.findNow
    rw [h1]
    simp only [Instr.sameNow, if_true]
    by_cases hx : k = x
    · subst hx
      right
      exact ⟨List.mem_cons_self .., 0, e.val, e, by simp, rfl, h1⟩
    · have hb : ((k : Int) == (x : Int)) = false := by simp; omega
      rw [hb]
      rcases find_keys k es ks (i + 1) h2 with ⟨h3, h4⟩ | ⟨h3, a, v, e', h4, h5, h6⟩
      · exact .inl ⟨by simp [hx, h3], h4⟩
      · exact .inr ⟨List.mem_cons_of_mem _ h3, a + 1, v, e', by simp only [h4]; congr 3; omega, h5, h6⟩
theorem Stp.set {P : Program} {o o' : Obj} (σ : Nat → Nat) {H : Heap} {g : Nat} (hb : H[g]? = some o) : Stp [σ g] σ H σ (H.setIfInBounds g o') :=
  ⟨by simp, fun i hi hn => ⟨rfl, by
    have : i ≠ g := fun h => hn (by rw [h]; simp)
    simp [Ne.symm this]⟩⟩
theorem MapF.put {P : Program} {t kt et : TypeId} {k : Nat} {v : Value} {K : Heap → Prop} (h : MapF j σ H g ks) (ht : P.underlying t = some (.map kt et)) (hk : P.underlying kt = some (.int .u64))
    (kk : ∀ H1, Stp [j] σ H σ H1 → MapF j σ H1 g (mput ks k) → K H1) : SemU P (Instr.mapUpdate t (.map (some g)) (.int .u64 (k : Int)) v) H K := by
  intro w hw
  subst hw
  obtain ⟨es, ck, hb, hks⟩ := h.blk
  have htag := h.tag
  have hlt := lt_of_get hb
  have hc : (Instr.checkKey false 10000 kt (.int .u64 (k : Int))).run P w = .ok () w := MapKept.run_checkKey (k := .int .u64 (k : Int)) hk (by simp [MapKept.IsKey]) false 9999
  rcases find_keys k es.toList ks 0 hks with ⟨h1, h2⟩ | ⟨h1, a, v', e, h2, h3, h4⟩
  · refine ⟨{ w with heap := w.heap.setIfInBounds g (.map (es.push { key := .int .u64 (k : Int), val := v, born := ck }) (ck + 1)) }, ?_, ⟨rfl, rfl, rfl⟩, ?_⟩
    · simp [Instr.mapUpdate, run_underlying ht, MapKept.run_getObj_map hb, hc, MapKept.run_findKey hk h2, MapKept.run_setObj_map _ hb, Result.andThen]
    · refine kk _ (by rw [← htag]; exact Stp.set (P := P) σ hb) ⟨⟨_, _, (MapKept.heap_set hb).1, ?_⟩, htag⟩
      unfold mput
      rw [if_neg h1]
      simp [keysOf] at hks ⊢
      exact hks
  · have hj : es[a]? = some e := by simpa using h3
    refine ⟨{ w with heap := w.heap.setIfInBounds g (.map (es.modify a fun e => { e with key := .int .u64 (k : Int), val := v }) ck) }, ?_, ⟨rfl, rfl, rfl⟩, ?_⟩
    · rw [Nat.zero_add] at h2
      have hst : (Instr.keyThatStays (.int .u64 (k : Int)) (.int .u64 (k : Int))).run P w = .ok (.int .u64 (k : Int)) w := MapKept.run_keyThatStays (d := .int .u64) (by simp [MapKept.IsKey])
      simp [Instr.mapUpdate, run_underlying ht, MapKept.run_getObj_map hb, hc, MapKept.run_findKey hk h2, hj, h4, hst, MapKept.run_setObj_map _ hb, Result.andThen]
    · refine kk _ (by rw [← htag]; exact Stp.set (P := P) σ hb) ⟨⟨_, _, (MapKept.heap_set hb).1, ?_⟩, htag⟩
      unfold mput
      rw [if_pos h1, ← hks]
      apply List.ext_getElem?
      intro i
      simp only [List.getElem?_map, Array.getElem?_toList, Array.getElem?_modify]
      by_cases hai : a = i
      · subst hai; simp [hj, h4]
      · simp [hai]
end
end Go.Lf
