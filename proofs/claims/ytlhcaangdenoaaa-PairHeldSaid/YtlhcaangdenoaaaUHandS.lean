import Derived.Test.YtlhcaangdenoaaaUSortC
import Derived.Test.YtlhcaangdenoaaaUTypes
namespace Go.Lf
end Go.Lf
namespace Go.Proofs
end Go.Proofs
namespace Go.Proofs.Ytlhcaangdenoaaa.Sh
end Go.Proofs.Ytlhcaangdenoaaa.Sh
namespace Go.Sort
end Go.Sort
namespace Go.Sx
end Go.Sx
set_option linter.unusedVariables false
namespace Go.Proofs.Ytlhcaangdenoaaa.Srt
open Go Go.Sx Go.Proofs.Ytlhcaangdenoaaa.Sh Go.Lf
open Go.Sort (HoldsK putRowK flatK)
open Go.Proofs (sortWorldK)
theorem sort2_length (l : List (Int × Int)) : (sort2 l).length = l.length := List.length_mergeSort l
open Go.Sort (putCells putRow mapBlock onCells flatK size_flatK get_flatK Holds) in
theorem flat_even (d : Array (Int × Int)) (i : Nat) (x : Int × Int) (h : d[i]? = some x) : (flatK enc2 2 d)[i * 2]? = some (.int .i64 x.1) ∧ (flatK enc2 2 d)[i * 2 + 1]? = some (.int .i64 x.2) := by
  obtain ⟨hi, hx⟩ := Array.getElem?_eq_some_iff.1 h
  have e : d[i]! = x := by rw [getElem!_pos d i hi, hx]
  have e1 : (flatK enc2 2 d)[i * 2]! = .int .i64 x.1 := by
    rw [get_flatK enc2 2 d _ (by omega), Nat.mul_div_cancel _ (by decide), Nat.mul_mod_left, e]; rfl
  have e2 : (flatK enc2 2 d)[i * 2 + 1]! = .int .i64 x.2 := by
    rw [get_flatK enc2 2 d _ (by omega), show (i * 2 + 1) / 2 = i by omega, show (i * 2 + 1) % 2 = 1 by omega, e]; rfl
  have s := size_flatK enc2 2 d
  rw [getElem!_pos _ _ (by omega)] at e1 e2
  rw [Array.getElem?_eq_getElem (by omega), Array.getElem?_eq_getElem (by omega), e1, e2]
  exact ⟨rfl, rfl⟩
open Go.Sort (putCells putRow mapBlock onCells flatK size_flatK get_flatK Holds ahead grow) in
theorem sorted_heap {w : World} {g m : Nat} {d : Array (Int × Int)} {os : Array Obj} {cells : Array Value} {e : TypeId} {fr : Nat × Nat} (hb : w.heap[g]? = some (.cells cells e fr)) (hs : d.size * 2 ≤ cells.size) :
    Same w (sortWorldK enc2 2 w g 0 m d os) ∧ w.heap.size ≤ (sortWorldK enc2 2 w g 0 m d os).heap.size ∧ (∀ i, i < w.heap.size → i ≠ g → (sortWorldK enc2 2 w g 0 m d os).heap[i]? = w.heap[i]?) ∧
      ∃ c2 : Array Value, (sortWorldK enc2 2 w g 0 m d os).heap[g]? = some (.cells c2 e fr) ∧ c2.size = cells.size ∧ ∀ i x, d[i]? = some x → c2[i * 2]? = some (.int .i64 x.1) ∧ c2[i * 2 + 1]? = some (.int .i64 x.2) := by
  have hg := lt_of_get hb
  unfold sortWorldK putRowK putRow mapBlock grow
  refine ⟨⟨rfl, rfl, rfl⟩, by simp, fun i hi hne => ?_, putCells id 0 (flatK enc2 2 d) cells, ?_, by simp [putCells], fun i x hx => ?_⟩
  · show ((w.heap.modify g _) ++ os)[i]? = _
    rw [Array.getElem?_append, if_pos (by simpa using hi), Array.getElem?_modify, if_neg (fun h => hne h.symm)]
  · show ((w.heap.modify g _) ++ os)[g]? = _
    rw [Array.getElem?_append, if_pos (by simpa using hg), Array.getElem?_modify, if_pos rfl, hb]
    rfl
  · obtain ⟨h1, h2⟩ := flat_even d i x hx
    have hi := (Array.getElem?_eq_some_iff.1 hx).1
    have s := size_flatK enc2 2 d
    have key : ∀ (j : Nat) (v : Value), (flatK enc2 2 d)[j]? = some v → (putCells id 0 (flatK enc2 2 d) cells)[j]? = some v := fun j v hv => by
      obtain ⟨hj, hv'⟩ := Array.getElem?_eq_some_iff.1 hv
      unfold putCells
      rw [Array.getElem?_mapIdx, Array.getElem?_eq_getElem (show j < cells.size by omega)]
      simp only [Option.map_some, Nat.zero_le, Nat.zero_add, true_and, Nat.sub_zero, if_pos hj, id]
      rw [getElem!_pos (flatK enc2 2 d) j hj, hv']
    exact ⟨key _ _ h1, key _ _ h2⟩
theorem slices_SortFunc_c {l : List (Int × Int)} {K : List (Int × Int) → Prop} (k : K (sort2 l)) : slices_SortFunc_2int2int.C l K := by
  intro Z τ H hτ A n c hn hF KK hk
  subst hn
  have hlt := hF.lt
  have hcap := hF.cap
  rcases hF.blk with ⟨rfl, rfl⟩ | ⟨g, cells, Ys, rfl, hY, hb, hs, h1, h2, h3⟩
  · obtain rfl := List.eq_nil_of_length_eq_zero (show l.length = 0 by omega)
    intro w hw
    refine (sort_none none 0 w).mono ?_
    rintro e w' ⟨rfl, rfl⟩
    subst hw
    have k' : K [] := by simpa [sort2] using k
    exact ⟨_, rfl, Same.refl _, hk Z τ _ ⟨Nat.le_refl _, fun i hi h => ⟨h, rfl⟩⟩ (fun i h _ => .inl h) hτ [] rfl (SlO.nil _ _ _ _ _) k'⟩
  · intro w hw
    subst hw
    have hg : g < w.heap.size := lt_of_get hb
    have hc : ∀ i x, l[i]? = some x → cells[i * 2]? = some (.int .i64 x.1) ∧ cells[i * 2 + 1]? = some (.int .i64 x.2) := fun i x hx => by
      obtain ⟨cs, hr, hcs⟩ := h3 i x hx
      obtain rfl : cs = [.int .i64 x.1, .int .i64 x.2] := hr
      exact ⟨hcs 0 _ rfl, hcs 1 _ rfl⟩
    have hH : HoldsK enc2 2 w g 0 l.toArray := by
      intro j hj
      have s := Go.Sort.size_flatK enc2 2 l.toArray
      have hj2 : j < l.length * 2 := by simpa [s] using hj
      obtain ⟨x, hx⟩ : ∃ x, l[j / 2]? = some x := ⟨_, List.getElem?_eq_getElem (show j / 2 < l.length by omega)⟩
      obtain ⟨f1, f2⟩ := flat_even l.toArray (j / 2) x (by simpa using hx)
      obtain ⟨c1, c2⟩ := hc _ _ hx
      have hcell : ∀ v, cells[j]? = some v → w.cell? ⟨g, 0 + j, none⟩ = some v := fun v hv => by unfold World.cell?; rw [Nat.zero_add, hb]; exact hv
      refine ⟨?_, by unfold World.frozen?; rw [hb]; simp⟩
      rw [getElem!_pos _ j hj]
      rcases Nat.mod_two_eq_zero_or_one j with h | h
      · have ej : j = j / 2 * 2 := by omega
        rw [← ej] at f1 c1
        rw [Array.getElem?_eq_getElem hj] at f1
        rw [Option.some.inj f1]; exact hcell _ c1
      · have ej : j = j / 2 * 2 + 1 := by omega
        rw [← ej] at f2 c2
        rw [Array.getElem?_eq_getElem hj] at f2
        rw [Option.some.inj f2]; exact hcell _ c2
    have := sort_calls g 0 c l.toArray w hH hg (by simp; omega)
    simp only [List.size_toArray] at this
    refine this.mono ?_
    rintro e w' ⟨rfl, m, os, rfl⟩
    have hs' : cells.size = c * 2 := hs
    have hl2 : (sort2 l).length = l.length := sort2_length l
    obtain ⟨hsame, hsz, hoth, c2, hb2, hs2, hc2⟩ := sorted_heap (m := m) (os := os) (d := (sort2 l).toArray) hb (by simp; omega)
    have hτ1 : τ g = 1 := hY
    refine ⟨_, rfl, hsame, hk Z τ _ ⟨hsz, fun i hi h => ⟨h, hoth i hi (fun hh => by subst hh; omega)⟩⟩ (fun i h _ => .inl h) hτ (sort2 l) hl2 ?_ k⟩
    refine ⟨by omega, by omega, .inr ⟨g, c2, fun _ _ => False, rfl, hY, hb2, hs2.trans hs, fun _ _ h => h.elim, fun _ _ _ h => h.elim, fun i x hx => ⟨_, rfl, fun j v hv => ?_⟩⟩⟩
    obtain ⟨q1, q2⟩ := hc2 i x (by simpa using hx)
    match j, hv with
    | 0, hv => cases hv; exact q1
    | 1, hv => cases hv; exact q2
end Go.Proofs.Ytlhcaangdenoaaa.Srt
