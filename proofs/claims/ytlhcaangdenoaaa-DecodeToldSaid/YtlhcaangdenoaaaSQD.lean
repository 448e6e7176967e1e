import Derived.Test.YtlhcaangdenoaaaSHandD
import Derived.Test.YtlhcaangdenoaaaSQR
import Derived.Test.YtlhcaangdenoaaaSFnJuntoref05
import Derived.Test.YtlhcaangdenoaaaSQ6e
import Derived.Test.YtlhcaangdenoaaaSQJ
namespace Go.Lf
end Go.Lf
namespace Go.Proofs.Ytlhcaangdenoaaa.Sh
end Go.Proofs.Ytlhcaangdenoaaa.Sh
namespace Go.Proofs.Ytlhcaangdenoaaa.Sp
end Go.Proofs.Ytlhcaangdenoaaa.Sp
namespace Go.Sx
end Go.Sx
set_option linter.unusedVariables false
set_option linter.unusedSimpArgs false
namespace Go.Proofs.Ytlhcaangdenoaaa.Pl
open Go.Sx Go.Lf Go.Proofs.Ytlhcaangdenoaaa.Sh Go.Proofs.Ytlhcaangdenoaaa.Sp
def Low (p : Nat) (l : List TPoint) : Prop := ∀ q ∈ l, q.X < p ∧ q.Y < p
open Classical in
noncomputable def checkD (p : Nat) (d : Int) (l : List TPoint) : Int :=
  if isP p ∧ 0 ≤ d ∧ d ≤ 63 then if 64 < l.length then 3 else if Low p l then if (l.map (·.X)).Nodup then 0 else 6 else 2 else 2
theorem checkD_ok {p : Nat} {d : Int} {l : List TPoint} (h : checkD p d l = 0) : isP p ∧ Pts p l ∧ l.length ≤ 64 ∧ ∃ e : Nat, d = e ∧ e ≤ 63 := by
  unfold checkD at h
  by_cases h1 : isP p ∧ 0 ≤ d ∧ d ≤ 63
  · rw [if_pos h1] at h
    by_cases h2 : 64 < l.length
    · rw [if_pos h2] at h; exact absurd h (by decide)
    rw [if_neg h2] at h
    by_cases h3 : Low p l
    · rw [if_pos h3] at h
      by_cases h4 : (l.map (·.X)).Nodup
      · exact ⟨h1.1, ⟨h3, h4⟩, by omega, d.toNat, by omega, by omega⟩
      · rw [if_neg h4] at h; exact absurd h (by decide)
    · rw [if_neg h3] at h; exact absurd h (by decide)
  · rw [if_neg h1] at h; exact absurd h (by decide)
theorem nodup_snoc {l : List Nat} {x : Nat} : (l ++ [x]).Nodup ↔ l.Nodup ∧ x ∉ l := by
  rw [List.nodup_append]
  constructor
  · rintro ⟨h1, _, h3⟩
    exact ⟨h1, fun hx => h3 x hx x (by simp) rfl⟩
  · rintro ⟨h1, h2⟩
    exact ⟨h1, by simp, fun a ha b hb => by simp at hb; subst hb; intro h; subst h; exact h2 ha⟩
theorem decode_Check_c {p : Nat} {d : Int} {l : List TPoint} (hl : l.length ≤ 17592186044416) {K : Int → Prop} (k : K (checkD p d l)) : decode_Check.C p d l K := by
  refine decode_Check_q (field_Is_c ?_)
  unfold checkD at k
  by_cases hp : ¬ isP p
  · rw [if_neg (fun h => hp h.1)] at k
    rw [prm_f hp]
    exact ct rfl k
  replace hp := Classical.not_not.1 hp
  rw [prm_t hp]
  refine cf rfl ?_
  by_cases h1 : d < 0
  · rw [if_neg (fun h => by omega)] at k; exact ctd h1 k
  refine cfd h1 ?_
  by_cases h2 : d ≥ 64
  · rw [if_neg (fun h => by omega)] at k; exact ctd h2 k
  refine cfd h2 ?_
  rw [if_pos ⟨hp, by omega, by omega⟩] at k
  by_cases h3 : 64 < l.length
  · rw [if_pos h3] at k; exact ctd (by omega) k
  rw [if_neg h3] at k
  refine cfd (by omega) ?_
  refine LoopQ.upto l.length (fun i t => t.2 = (i : Int) ∧ (∀ q ∈ l.take i, q.X < p ∧ q.Y < p) ∧ (∀ x, x ∈ t.1 ↔ x ∈ (l.take i).map (·.X)) ∧ t.1.length ≤ i ∧ (t.1.length = i ↔ ((l.take i).map (·.X)).Nodup)) ⟨rfl, fun q hq => by simp at hq, fun x => by simp, Nat.le_refl _, by simp⟩ ?_
  rintro i ⟨ks, t⟩ next hi ⟨ht, hlow, hmem, hlen, hnd⟩ hnx
  dsimp only at *
  subst ht
  by_cases h : i < l.length
  · obtain ⟨q, hq⟩ := get_some h
    have htk : l.take (i + 1) = l.take i ++ [q] := by rw [List.take_add_one, hq]; rfl
    refine ctd (by omega) ⟨by omega, q, hq, field_Below_c (by simp) ?_⟩
    by_cases hb : q.X < p ∧ q.Y < p
    · have e : below p [q.X, q.Y] = true := below_of fun x hx => by simp at hx; omega
      rw [e]
      refine cf rfl (hnx h _ ⟨wsucc (by omega), fun r hr => ?_, fun x => ?_, ?_, ?_⟩)
      · rw [htk] at hr
        rcases List.mem_append.1 hr with hr | hr
        · exact hlow r hr
        · simp at hr; subst hr; exact hb
      · rw [htk, List.map_append, List.mem_append, ← hmem]
        unfold mput
        split
        · rename_i hm
          constructor
          · exact fun h => .inl h
          · rintro (h | h)
            · exact h
            · simp at h; subst h; exact hm
        · rw [List.mem_append]; simp
      · dsimp only; unfold mput; split <;> (try simp) <;> omega
      · dsimp only
        rw [htk, List.map_append, List.map_cons, List.map_nil, nodup_snoc, ← hmem, ← hnd]
        unfold mput
        split
        · rename_i hm
          constructor
          · intro h; omega
          · exact fun h => absurd hm h.2
        · rename_i hm
          rw [List.length_append, List.length_singleton]
          constructor
          · intro h; exact ⟨by omega, hm⟩
          · intro h; omega
    · have e : below p [q.X, q.Y] = false := by
        cases hc : below p [q.X, q.Y] with
        | false => rfl
        | true => exact absurd ⟨below_lt hc (by simp), below_lt hc (by simp)⟩ hb
      rw [e]
      rw [if_neg (fun h => hb (h q (mem_get hq)))] at k
      exact ct rfl k
  · obtain rfl : i = l.length := by omega
    rw [List.take_length] at hlow hnd
    rw [if_pos (show Low p l from hlow)] at k
    refine cfd (by omega) ?_
    by_cases hn : (l.map (·.X)).Nodup
    · rw [if_pos hn] at k
      have := hnd.2 hn
      exact cfd (by omega) k
    · rw [if_neg hn] at k
      have : ks.length ≠ l.length := fun h => hn (hnd.1 h)
      exact ctd (by omega) k
end Go.Proofs.Ytlhcaangdenoaaa.Pl
