import Derived.Test.YtlhcaangdenoaaaAlive06
import Derived.Test.YtlhcaangdenoaaaShPairMakes
set_option linter.unusedVariables false
namespace Go.Proofs.Ytlhcaangdenoaaa.Sp
open Go.Sx Go.Proofs.Ytlhcaangdenoaaa.Sh

theorem agg_2 {cs : Array Value} (h : cs.size = 2) : ∃ a b, cs = #[a, b] := by
  obtain ⟨l⟩ := cs
  match l, h with
  | [a, b], _ => exact ⟨a, b, rfl⟩
theorem agg_3 {cs : Array Value} (h : cs.size = 3) : ∃ a b c, cs = #[a, b, c] := by
  obtain ⟨l⟩ := cs
  match l, h with
  | [a, b, c], _ => exact ⟨a, b, c, rfl⟩
theorem is06_bad {A B : Option Addr} {n c m d : Nat} {e bad : Int} {H : Heap} {K : Value → Heap → Prop} (hb : bad ≠ 0) (he : e = bad) (hn : n = 0) (k : K (.bool true) H) :
    CallH P N.juntolaw06_is [.slice A n c, .int .i64 e, .slice B m d, .int .i64 bad] H K := by
  subst he; subst hn
  apply juntolaw06_is.ok
  exact ct (bne_t hb) (ct (beq_t rfl) k)
theorem is06_ok {A B : Option Addr} {n c m d : Nat} {S S' : Nat → Prop} {F G : List (List Nat)} {H : Heap} {K : Value → Heap → Prop} (hF : Sl (slR u64R) S H A n c F) (hG : Sl (slR u64R) S' H B m d G) (hFG : F = G) (k : K (.bool true) H) :
    CallH P N.juntolaw06_is [.slice A n c, .int .i64 0, .slice B m d, .int .i64 0] H K := by
  apply juntolaw06_is.ok
  refine cf rfl (ct rfl (juntoref06_Same_sp hF hG ⟨_, rfl, ?_⟩))
  rw [decide_eq_true hFG]; exact k
theorem PairMakes_spR {p secret : Nat} {t : Int} {A : Option Addr} {n c : Nat} {tape : List Nat} {H : Heap} (_ : p < 18446744073709551616) (_ : secret < 18446744073709551616) (_ : -9223372036854775808 ≤ t ∧ t < 9223372036854775808) (hT : Sl w64R All H A n c tape)
    {K : Value → Heap → Prop} (k : ∀ H', Ext H H' → K (.bool true) H') : CallH P N.juntolaw06_PairMakes [.int .u64 p, .agg #[.int .u64 secret, .int .i64 t, .slice A n c]] H K := by
  apply juntolaw06_PairMakes.ok
  refine NewH.in ?_
  have hE0 := Ext.push H (.cells #[.int .u64 secret, .int .i64 t, .slice A n c] 32 (0, 0))
  have g0 := cell_blk (get_push_new H (.cells #[.int .u64 secret, .int .i64 t, .slice A n c] 32 (0, 0))) 0
  have g1 := cell_blk (get_push_new H (.cells #[.int .u64 secret, .int .i64 t, .slice A n c] 32 (0, 0))) 1
  have g2 := cell_blk (get_push_new H (.cells #[.int .u64 secret, .int .i64 t, .slice A n c] 32 (0, 0))) 2
  rw [show (#[Value.int .u64 (secret : Int), .int .i64 t, .slice A n c])[0]? = some (.int .u64 (secret : Int)) from rfl] at g0
  rw [show (#[Value.int .u64 (secret : Int), .int .i64 t, .slice A n c])[1]? = some (.int .i64 t) from rfl] at g1
  rw [show (#[Value.int .u64 (secret : Int), .int .i64 t, .slice A n c])[2]? = some (.slice A n c) from rfl] at g2
  rw [← add_mk] at g1 g2
  have hT0 := hT.u.ext u64_good hE0
  generalize H.push (.cells #[.int .u64 secret, .int .i64 t, .slice A n c] 32 (0, 0)) = H0 at *
  refine ⟨_, g0, _, g1, _, _, _, g2, ?_⟩
  refine pair_Make_sp hT0 (fun hbad => ⟨_, _, _, _, _, _, _, rfl, _, g1, ?_⟩) (fun d g bs A2 n2 c2 H2 ht hd hp hg hs hE hM hb hO => ⟨_, _, _, _, _, _, _, rfl, _, hE.cell g1, ?_⟩)
  · refine juntoref06_Bounds_sp ⟨_, rfl, ?_⟩
    rcases ground_cases p t with hg | ⟨hg, hp, d, rfl, hd⟩
    · rw [hg]
      refine cf rfl (ct rfl ?_)
      exact is06_bad (by omega) rfl rfl ⟨_, rfl, ct rfl (ct rfl (alive06 fun H3 hE3 => ⟨_, rfl, k _ (hE0.trans hE3)⟩))⟩
    · rw [hg]
      have hs : p ≤ secret := hbad.elim (fun h => absurd hg h) id
      refine ct rfl ⟨_, g0, ctd (by omega) (ct rfl ?_)⟩
      exact is06_bad (by omega) rfl rfl ⟨_, rfl, ct rfl (ct rfl (alive06 fun H3 hE3 => ⟨_, rfl, k _ (hE0.trans hE3)⟩))⟩
  · subst ht
    refine juntoref06_Bounds_sp ⟨_, rfl, ?_⟩
    rw [hg]
    refine ct rfl ⟨_, hE.cell g0, cfd (by omega) (cf rfl ⟨_, hE.cell g0, _, hE.cell g1, _, _, _, hE.cell g2, ?_⟩)⟩
    refine juntoref06_Make_sp hd (by omega) (hT0.ext u64_good hE) fun g' bs' A3 n3 c3 H3 hE3 hM3 hb3 hO3 => ⟨_, _, _, _, _, _, rfl, ?_⟩
    have l1 : (mk p secret d tape).length = d + 1 := by rw [← hM.len]; exact hb
    have s1 := (hM.ext hE3).sl wd_u64 (by omega) (by omega)
    have s2 := hM3.sl wd_u64 (by omega) (by omega)
    rw [l1] at s1 s2
    refine is06_ok s1 s2 rfl ⟨_, rfl, ct rfl ?_⟩
    refine juntoref01_Same_sp ((hO.ext u64_good hE3).sl u64_good) (hO3.sl u64_good) ⟨_, rfl, ?_⟩
    rw [decide_eq_true rfl]
    exact k _ ((hE0.trans hE).trans hE3)
end Go.Proofs.Ytlhcaangdenoaaa.Sp
