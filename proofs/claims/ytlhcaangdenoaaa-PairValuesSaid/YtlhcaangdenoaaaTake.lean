import Derived.Test.YtlhcaangdenoaaaRef
set_option linter.unusedVariables false
namespace Go.Proofs.Ytlhcaangdenoaaa.Sp
open Go.Sx Go.Proofs.Ytlhcaangdenoaaa.Sh

/-! ### The tape -/
def takeK (p : Nat) (tape : List Nat) (n k : Nat) : List Nat := (List.range n).map fun i => if i < k then ((tape[i]?).map (· % p)).getD 0 else 0
def takeN (p : Nat) (tape : List Nat) (n : Nat) : List Nat := (List.range n).map fun i => ((tape[i]?).map (· % p)).getD 0
theorem takeK_zero (p : Nat) (tape : List Nat) (n : Nat) : takeK p tape n 0 = List.replicate n 0 := by
  apply List.ext_getElem?; intro i
  simp only [takeK, List.getElem?_map, List.getElem?_replicate]
  by_cases h : i < n <;> simp [h]
theorem takeK_all (p : Nat) (tape : List Nat) (n k : Nat) (h : n ≤ k ∨ tape.length ≤ k) : takeK p tape n k = takeN p tape n := by
  apply List.ext_getElem?; intro i
  simp only [takeK, takeN, List.getElem?_map]
  by_cases hi : i < n
  · simp only [List.getElem?_range hi, Option.map_some]
    by_cases hk : i < k
    · simp [hk]
    · simp [hk, List.getElem?_eq_none (show tape.length ≤ i by omega)]
  · simp [hi]
theorem takeK_set (p : Nat) (tape : List Nat) (n k : Nat) (x : Nat) (hx : tape[k]? = some x) : (takeK p tape n k).set k (x % p) = takeK p tape n (k + 1) := by
  apply List.ext_getElem?; intro i
  rw [List.getElem?_set]
  simp only [takeK, List.getElem?_map, List.length_map, List.length_range]
  by_cases hi : k = i
  · subst hi
    by_cases hn : k < n <;> simp [hn, hx]
  · by_cases hn : i < n
    · simp only [hi, if_false, List.getElem?_range hn, Option.map_some]
      by_cases h1 : i < k
      · simp [h1, show i < k + 1 by omega]
      · simp [h1, show ¬ i < k + 1 by omega]
    · simp [hi, hn]
theorem takeN_len (p : Nat) (tape : List Nat) (n : Nat) : (takeN p tape n).length = n := by simp [takeN]

theorem rest_sl {S : Nat → Prop} {H : Heap} {A : Option Addr} {m c : Nat} {tape : List Nat} (h : Sl u64R S H A m c tape) (n : Nat) :
    Sl u64R S H (SubA A c (min n m) 1) (m - min n m) (c - min n m) (tape.drop n) := by
  have := Sl.sub h (l := min n m) (u := m) (by omega) (Nat.le_refl _)
  rw [show (tape.take m).drop (min n m) = tape.drop n from ?_] at this
  · exact this
  · have hlen := h.len
    rw [hlen, List.take_length]
    rcases Nat.le_total n tape.length with h1 | h1
    · rw [Nat.min_eq_left h1]
    · rw [Nat.min_eq_right h1, List.drop_of_length_le (Nat.le_refl _), List.drop_of_length_le h1]

theorem field_Take_sp {p : Nat} {A : Option Addr} {m c n : Nat} {S : Nat → Prop} {tape : List Nat} {H : Heap} (hp : 0 < p) (ht : Sl u64R S H A m c tape) (hn : n ≤ 65536) {K : Value → Heap → Prop}
    (k : ∀ A1 c1 A2 n2 c2 H', Ext H H' → Owns u64R 22 (Since H) H' A1 n c1 (takeN p tape n) → Owns u64R 22 (Since H) H' A2 n2 c2 (tape.drop n) → K (.tuple #[.slice A1 n c1, .slice A2 n2 c2]) H') :
    CallH P N.field_Take [.int .u64 p, .slice A m c, .int .i64 n] H K := by
  apply field_Take.ok
  have hml := ht.lt
  have hmt := ht.len
  refine ⟨by omega, by omega, by omega, by omega, NewH.in ?_⟩
  refine LoopI.range n (fun k H' => Owns u64R 22 (Since H) H' (some (Addr.mk H.size 0 none)) n n (takeK p tape n k) ∧ Ext H H') ⟨?_, Ext.push _ _⟩ ?_
  · rw [takeK_zero]
    exact Owns.made u64_good (fun _ _ => rfl) (by omega) (Nat.le_refl _)
  rintro k' H1 z next hk ⟨hO, hE⟩ hnext
  simp only [Int.toNat_natCast]
  by_cases hlt : k' < n
  · refine ctd (by omega) ?_
    by_cases hkm : k' < m
    · refine ctd (by omega) ?_
      obtain ⟨a, ha, x, hx, hc⟩ := (ht.ext u64_good hE).u64 hkm
      refine ⟨a, ha, by omega, by omega, x, hc, by omega, ?_⟩
      obtain ⟨b, hb, hw, hO2, hB2⟩ := hO.set u64_flat (i := k') hlt (x := x % p) (v := .int .u64 ((x % p : Nat) : Int)) rfl
      refine ⟨b, hb, by omega, by omega, hw, ?_⟩
      rw [tmod_nat, wsucc (by omega)]
      refine hnext hlt _ ⟨?_, hB2.ext hE (fun i hi => by cases hi; exact Nat.le_refl _)⟩
      rw [takeK_set _ _ _ _ _ hx] at hO2
      exact hO2
    · refine cfd (by omega) ?_
      rw [wsucc (by omega)]
      refine hnext hlt _ ⟨?_, hE⟩
      rw [takeK_all _ _ _ _ (.inr (by omega))] at hO ⊢
      exact hO
  · refine cfd (by omega) ?_
    obtain rfl : k' = n := by omega
    rw [takeK_all _ _ _ _ (.inl (Nat.le_refl _))] at hO
    have emin : (if ((m : Nat) : Int) < (k' : Int) then ((m : Nat) : Int) else (k' : Int)) = ((min k' m : Nat) : Int) := by split <;> omega
    rw [emin]
    refine ⟨by omega, by omega, ?_⟩
    have hE3 := hE.trans (Ext.push H1 (.cells #[] 22 (0, 0)))
    refine (Owns.empty u64R 22 (Since H) H1 hE.size).append u64_flat u64_good (rest_sl (ht.ext u64_good hE3) k') (fun i hi => Nat.le_trans hE3.size hi) (by omega) (by omega) ?_
    intro A' c' H' hO' hG
    have hE4 : Ext H1 H' := hG.but.ext (Ext.push H1 _) (fun i hi => by cases hi; exact Nat.le_refl _)
    rw [Nat.zero_add] at hO' ⊢
    exact k _ _ _ _ _ _ (hE.trans hE4) (hO.ext u64_good hE4) hO'

theorem juntoref01_Draw_sp {p : Nat} {A : Option Addr} {m c n : Nat} {S : Nat → Prop} {tape : List Nat} {H : Heap} (hp : 0 < p) (ht : Sl u64R S H A m c tape) (hn : n ≤ 65536) {K : Value → Heap → Prop}
    (k : ∀ A1 c1 A2 n2 c2 H', Ext H H' → Owns u64R 22 (Since H) H' A1 n c1 (takeN p tape n) → Owns u64R 22 (Since H) H' A2 n2 c2 (tape.drop n) → K (.tuple #[.slice A1 n c1, .slice A2 n2 c2]) H') :
    CallH P N.juntoref01_Draw [.int .u64 p, .slice A m c, .int .i64 n] H K := by
  apply juntoref01_Draw.ok
  have hml := ht.lt
  have hmt := ht.len
  refine ⟨by omega, by omega, by omega, by omega, NewH.in ?_⟩
  have done : ∀ H1, Owns u64R 22 (Since H) H1 (some (Addr.mk H.size 0 none)) n n (takeN p tape n) → Ext H H1 → NewH (H1.push (.cells #[] 22 (0, 0))) fun H_4 =>
      0 ≤ (if ((m : Nat) : Int) < (n : Int) then ((m : Nat) : Int) else (n : Int)) ∧ (if ((m : Nat) : Int) < (n : Int) then ((m : Nat) : Int) else (n : Int)) ≤ ((m : Nat) : Int) ∧
        AppendV 22 1 8 [.int .u64 0] H_4 (some (Addr.mk H1.size 0 none)) 0 0 (SubA A c (Int.toNat (if ((m : Nat) : Int) < (n : Int) then ((m : Nat) : Int) else (n : Int))) 1) (m - (Int.toNat (if ((m : Nat) : Int) < (n : Int) then ((m : Nat) : Int) else (n : Int)))) fun vA vn vc H_5 =>
        K (.tuple #[.slice (some (Addr.mk H.size 0 none)) n n, .slice vA vn vc]) H_5 := by
    intro H1 hO hE
    have emin : (if ((m : Nat) : Int) < (n : Int) then ((m : Nat) : Int) else (n : Int)) = ((min n m : Nat) : Int) := by split <;> omega
    rw [emin]
    refine ⟨by omega, by omega, ?_⟩
    have hE3 := hE.trans (Ext.push H1 (.cells #[] 22 (0, 0)))
    refine (Owns.empty u64R 22 (Since H) H1 hE.size).append u64_flat u64_good (rest_sl (ht.ext u64_good hE3) n) (fun i hi => Nat.le_trans hE3.size hi) (by omega) (by omega) ?_
    intro A' c' H' hO' hG
    have hE4 : Ext H1 H' := hG.but.ext (Ext.push H1 _) (fun i hi => by cases hi; exact Nat.le_refl _)
    rw [Nat.zero_add] at hO' ⊢
    exact k _ _ _ _ _ _ (hE.trans hE4) (hO.ext u64_good hE4) hO'
  refine LoopI.range n (fun k H' => Owns u64R 22 (Since H) H' (some (Addr.mk H.size 0 none)) n n (takeK p tape n k) ∧ Ext H H') ⟨?_, Ext.push _ _⟩ ?_
  · rw [takeK_zero]
    exact Owns.made u64_good (fun _ _ => rfl) (by omega) (Nat.le_refl _)
  rintro k' H1 z next hk ⟨hO, hE⟩ hnext
  simp only [Int.toNat_natCast]
  by_cases hlt : k' < n
  · refine ctd (by omega) ?_
    by_cases hkm : k' < m
    · refine ctd (by omega) ?_
      obtain ⟨a, ha, x, hx, hc⟩ := (ht.ext u64_good hE).u64 hkm
      refine ⟨a, ha, by omega, by omega, x, hc, by omega, ?_⟩
      obtain ⟨b, hb, hw, hO2, hB2⟩ := hO.set u64_flat (i := k') hlt (x := x % p) (v := .int .u64 ((x % p : Nat) : Int)) rfl
      refine ⟨b, hb, by omega, by omega, hw, ?_⟩
      rw [tmod_nat, wsucc (by omega)]
      refine hnext hlt _ ⟨?_, hB2.ext hE (fun i hi => by cases hi; exact Nat.le_refl _)⟩
      rw [takeK_set _ _ _ _ _ hx] at hO2
      exact hO2
    · refine cfd (by omega) ?_
      rw [takeK_all _ _ _ _ (.inr (by omega))] at hO
      exact done H1 hO hE
  · refine cfd (by omega) ?_
    obtain rfl : k' = n := by omega
    rw [takeK_all _ _ _ _ (.inl (Nat.le_refl _))] at hO
    exact done H1 hO hE

/-! ### Short -/
def short (f : List Nat) : List Nat := (f.reverse.dropWhile (· == 0)).reverse
theorem slices_Clone_sp {A : Option Addr} {n c : Nat} {S : Nat → Prop} {xs : List Nat} {H : Heap} (h : Sl u64R S H A n c xs) {K : Value → Heap → Prop}
    (k : ∀ A' n' c' H', Ext H H' → Owns u64R 22 (Since H) H' A' n' c' xs → K (.slice A' n' c') H') : CallH P N.slices_Clone_uint64uint64 [.slice A n c] H K := by
  apply slices_Clone_uint64uint64.ok
  unfold slices_Clone_uint64uint64.W
  have hl := h.len
  have hlt := h.lt
  cases A with
  | none =>
    have hx : xs = [] := by
      cases xs with
      | nil => rfl
      | cons x l => obtain ⟨a, v, ha, _⟩ := h.get 0 x rfl; cases ha
    subst hx
    exact k _ _ _ _ (Ext.refl _) (Owns.nil _ _ _ _)
  | some a =>
    refine cf rfl ?_
    have hE := Ext.push H (.cells #[] 22 (0, 0))
    refine (Owns.empty u64R 22 (Since H) H (Nat.le_refl _)).append u64_flat u64_good (h.ext u64_good hE) (fun i hi => Nat.le_trans hE.size hi) (by omega) (by omega) ?_
    intro A' c' H' hO' hG
    have hE4 : Ext H H' := hG.but.ext hE (fun i hi => by cases hi; exact Nat.le_refl _)
    rw [Nat.zero_add] at hO' ⊢
    exact k _ _ _ _ hE4 hO'
theorem short_take (f : List Nat) (n : Nat) (h0 : ∀ j x, n ≤ j → f[j]? = some x → x = 0) (hn : n = 0 ∨ ∃ x, f[n - 1]? = some x ∧ x ≠ 0) (hlen : n ≤ f.length) : short f = f.take n := by
  have e : f = f.take n ++ List.replicate (f.length - n) 0 := by
    apply List.ext_getElem?
    intro i
    rcases Nat.lt_or_ge i n with h | h
    · rw [List.getElem?_append_left (by simp; omega), List.getElem?_take_of_lt h]
    · rw [List.getElem?_append_right (by simp; omega), List.getElem?_replicate]
      simp only [List.length_take, Nat.min_eq_left hlen]
      rcases Nat.lt_or_ge i f.length with h' | h'
      · rw [if_pos (by omega), List.getElem?_eq_getElem h', h0 i _ h (List.getElem?_eq_getElem h')]
      · rw [if_neg (by omega), List.getElem?_eq_none h']
  have hrep : ∀ (m : Nat) (l : List Nat), ((List.replicate m 0) ++ l).dropWhile (· == 0) = l.dropWhile (· == 0) := by
    intro m l
    induction m with
    | zero => simp
    | succ m ih => rw [List.replicate_succ, List.cons_append, List.dropWhile_cons]; simp [ih]
  unfold short
  conv => lhs; rw [e]
  rw [List.reverse_append, List.reverse_replicate, hrep]
  rcases hn with rfl | ⟨x, hx, hx0⟩
  · simp
  · by_cases hz : n = 0
    · subst hz; simp
    obtain ⟨hi, rfl⟩ := List.getElem?_eq_some_iff.1 hx
    have e2 : f.take n = f.take (n - 1) ++ [f[n - 1]] := by
      conv => lhs; rw [show n = (n - 1) + 1 by omega]
      rw [List.take_add_one, List.getElem?_eq_getElem hi]; rfl
    rw [e2, List.reverse_append]
    simp [hx0]
theorem poly_Short_sp {A : Option Addr} {n c : Nat} {S : Nat → Prop} {xs : List Nat} {H : Heap} (h : Sl u64R S H A n c xs) {K : Value → Heap → Prop}
    (k : ∀ A' n' c' H', Ext H H' → Owns u64R 22 (Since H) H' A' n' c' (short xs) → K (.slice A' n' c') H') : CallH P N.poly_Short [.slice A n c] H K := by
  apply poly_Short.ok
  have hl := h.len
  have hlt := h.lt
  have hcap := h.cap
  refine LoopI.down (fun s H' => H' = H ∧ ∃ m : Nat, s = m ∧ m ≤ n ∧ ∀ j x, m ≤ j → xs[j]? = some x → x = 0) (fun s => s.toNat)
    ⟨_, rfl, rfl, n, rfl, Nat.le_refl _, fun j x hj hx => by have := (List.getElem?_eq_some_iff.1 hx).1; omega⟩ ?_
  rintro s H' z next ⟨rfl, m, rfl, hm, hI⟩ hnext
  have fin : (m = 0 ∨ ∃ x, xs[m - 1]? = some x ∧ x ≠ 0) → ∀ (κ : Value → Heap → Prop), (∀ (v : Value) (Hz : Heap), (∃ rA rn rc, v = .slice rA rn rc ∧ K (.slice rA rn rc) Hz) → κ v Hz) → CallH P N.slices_Clone_uint64uint64 [.slice A m c] H' κ := by
    intro hz κ hκ
    refine slices_Clone_sp (h.cut hm) fun A' n' c' H1 hE hO => hκ _ _ ⟨A', n', c', rfl, ?_⟩
    rw [← short_take xs m hI hz (by omega)] at hO
    exact k _ _ _ _ hE hO
  by_cases h0 : 0 < m
  · refine ctd (by omega) ?_
    have e1 : IntKind.i64.wrap ((m : Int) - 1) = ((m - 1 : Nat) : Int) := by rw [wi64 (by omega) (by omega)]; omega
    rw [e1]
    obtain ⟨a, ha, x, hx, hc⟩ := h.u64 (i := m - 1) (by omega)
    refine ⟨a, ha, by omega, by omega, x, hc, ?_⟩
    by_cases hx0 : x = 0
    · subst hx0
      refine ct (beq_t rfl) ?_
      refine hnext _ _ (by omega) ⟨rfl, m - 1, rfl, by omega, fun j y hj hy => ?_⟩
      rcases Nat.lt_or_ge j m with h' | h'
      · obtain rfl : j = m - 1 := by omega
        rw [hx] at hy; cases hy; rfl
      · exact hI j y h' hy
    · refine cf (beq_f (by omega)) ⟨by omega, by omega, ?_⟩
      exact fin (.inr ⟨x, hx, hx0⟩) _ fun v Hz hv => hv
  · refine cfd (by omega) ⟨by omega, by omega, ?_⟩
    exact fin (.inl (by omega)) _ fun v Hz hv => hv
end Go.Proofs.Ytlhcaangdenoaaa.Sp
