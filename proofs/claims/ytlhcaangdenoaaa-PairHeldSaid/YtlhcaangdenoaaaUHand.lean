import Derived.Test.YtlhcaangdenoaaaUBk
import Derived.Test.YtlhcaangdenoaaaUFnSlices
namespace Go.Lf
end Go.Lf
namespace Go.Proofs.Ytlhcaangdenoaaa.Back
end Go.Proofs.Ytlhcaangdenoaaa.Back
namespace Go.Proofs.Ytlhcaangdenoaaa.Sh
end Go.Proofs.Ytlhcaangdenoaaa.Sh
namespace Go.Sx
end Go.Sx
set_option linter.unusedVariables false
namespace Go.Proofs.Ytlhcaangdenoaaa.Sp
open Go.Sx Go.Proofs.Ytlhcaangdenoaaa.Sh Go.Proofs.Ytlhcaangdenoaaa.Back Go.Lf
def evalH (p : Nat) (xs : List Nat) (x : Nat) : Nat := xs.foldr (fun c v => fadd p (fmul p v x) c) 0
theorem evalH_lt {p : Nat} (hp : 0 < p) (xs : List Nat) (x : Nat) : evalH p xs x < p := by
  cases xs with
  | nil => exact hp
  | cons c l => exact fadd_lt hp _ _
theorem step_nat {p v x c : Nat} (hp : p ≤ 65537) (hv : v < p) (hx : x < p) (hc : c < p) : stepI p x v c = ((fadd p (fmul p v x) c : Nat) : Int) := by
  have hp0 : 0 < p := by omega
  have hm : v * x < 18446744073709551616 := mul_lt hp hv hx
  have e1 : timesI p v x = ((fmul p v x : Nat) : Int) := by
    unfold timesI
    rw [show (v : Int) * x = ((v * x : Nat) : Int) by simp, wu64 (by omega) (by omega), tmod_nat]; rfl
  have ht := fmul_lt hp0 v x
  unfold stepI
  rw [e1]
  generalize fmul p v x = t at *
  unfold plusI
  rw [wu64 (x := (t : Int) + c) (by omega) (by omega)]
  by_cases h : p ≤ t + c
  · rw [if_pos (by omega), wu64 (by omega) (by omega)]
    unfold fadd
    rw [Nat.mod_eq_sub_mod h, Nat.mod_eq_of_lt (by omega)]; omega
  · rw [if_neg (by omega)]
    unfold fadd
    rw [Nat.mod_eq_of_lt (by omega)]; omega
theorem down_snd (zs : List Int) : (down zs zs.length).map (·.2) = zs.reverse := by
  apply List.ext_getElem?
  intro i
  simp only [down, List.map_map, List.getElem?_map]
  by_cases h : i < zs.length
  · rw [List.getElem?_range h, List.getElem?_reverse h]
    simp only [Option.map_some, Function.comp]
    rw [List.getElem?_eq_getElem (show zs.length - 1 - i < zs.length by omega)]
    rfl
  · rw [List.getElem?_eq_none (by simp; omega), List.getElem?_eq_none (by simp; omega)]
    rfl
theorem horn_eval {p x : Nat} (hp0 : 0 < p) (hp : p ≤ 65537) (hx : x < p) (xs : List Nat) (hb : below p xs = true) : hornI p x (down (xs.map Int.ofNat) (xs.map Int.ofNat).length) = ((evalH p xs x : Nat) : Int) := by
  have e : hornI p x (down (xs.map Int.ofNat) (xs.map Int.ofNat).length) = ((down (xs.map Int.ofNat) (xs.map Int.ofNat).length).map (·.2)).foldl (fun v c => stepI p x v c) 0 := by
    unfold hornI; rw [List.foldl_map]
  rw [e, down_snd, List.foldl_reverse]
  clear e
  induction xs with
  | nil => rfl
  | cons c l ih =>
    simp only [List.map_cons, List.foldr_cons]
    unfold below at hb
    simp at hb
    rw [ih (by unfold below; simp; exact hb.2)]
    exact step_nat hp (evalH_lt hp0 l x) hx hb.1
theorem words_of_sl {S : Nat → Prop} {H : Heap} {A : Option Addr} {n c : Nat} {xs : List Nat} (h : Sl u64R S H A n c xs) (w : World) (hw : w.heap = H) : Words w.heap.size w (.slice A n c) (xs.map Int.ofNat) := by
  subst hw
  have hl := h.len
  cases n with
  | zero => exact .inl ⟨A, c, rfl, by rw [List.eq_nil_of_length_eq_zero hl.symm]; rfl⟩
  | succ n =>
    right
    obtain ⟨⟨b, off, sp⟩, ha, x, hx, hc⟩ := h.u64 (i := 0) (by omega)
    have hb := lt_of_cell hc
    rw [add_zero] at hb hc
    have hsp : sp = none := by
      cases sp with
      | none => rfl
      | some s => unfold cellH at hc; split at hc <;> simp at hc
    subst hsp
    refine ⟨b, off, c, by simp [ha, hl], hb, fun j hj => ?_⟩
    simp at hj
    obtain ⟨a2, ha2, y, hy, hc2⟩ := h.u64 (i := j) (by omega)
    rw [ha] at ha2; cases ha2
    rw [cellH_eq, show (⟨b, off + j, none⟩ : Addr) = (Addr.mk b off none).add j by unfold Addr.add; split <;> simp_all, hc2]
    simp [hy]
theorem poly_At_sp {p x : Nat} (hp0 : 0 < p) (hp : p ≤ 65537) (hx : x < p) {A : Option Addr} {n c : Nat} {S : Nat → Prop} {xs : List Nat} {H : Heap} (h : Sl u64R S H A n c xs) (hb : below p xs = true) {K : Value → Heap → Prop}
    (k : ∀ H', Ext H H' → K (.int .u64 (evalH p xs x : Nat)) H') : CallH P N.poly_At [.int .u64 p, .slice A n c, .int .u64 x] H K := by
  intro w hw
  refine (callsIn_wide (n := 3)).1 ?_
  refine (At_in Fence.wide 3 rfl (by omega) (p : Int) (x : Int) (by omega) A n c (xs.map Int.ofNat) (by simp; rw [← h.len]; exact h.lt) w (words_of_sl h w hw)).mono ?_
  rintro e W' ⟨rfl, hB⟩
  refine ⟨_, rfl, ⟨hB.os, hB.tape, hB.output⟩, ?_⟩
  rw [horn_eval hp0 hp hx xs hb]
  subst hw
  exact k _ ⟨hB.size, fun i hi => hB.block i hi⟩
theorem sl_of {Z : Nat → Prop} {H : Heap} {A : Option Addr} {c : Nat} {xs : List Nat} (h : SlF u64L Z H A c xs) : Sl u64R Z H A xs.length c xs :=
  ⟨rfl, h.cap, h.lt, fun i x hx => by
    obtain ⟨a, cs, ha, hr, hc⟩ := h.get i x hx
    cases hr
    obtain ⟨hz, hv⟩ := hc 0 _ rfl
    exact ⟨a, _, ha, hz, by simpa [u64L] using hv, rfl⟩⟩
theorem old_refl (Z : Nat → Prop) (H : Heap) : Old Z H Z := fun _ h _ => h
theorem poly_At_c {p x : Nat} {f : List Nat} (hp0 : 0 < p) (hp : p ≤ 65537) (hx : x < p) (hb : below p f = true) {K : Nat → Prop} (k : K (evalH p f x)) : poly_At.C p f x K := by
  intro Z H pv he A n c hn hF xv hx' KK hk
  subst he; subst hn; subst hx'
  exact poly_At_sp hp0 hp hx (sl_of hF) hb fun H' hE => hk Z H' hE (old_refl _ _) _ _ rfl k
theorem slices_Clone_c {xs : List Nat} {K : List Nat → Prop} (k : K xs) : slices_Clone_uint64uint64.C xs K := by
  intro Z H A n c hn hF KK hk
  subst hn
  apply slices_Clone_uint64uint64.ok
  unfold slices_Clone_uint64uint64.W
  cases A with
  | none =>
    have hx := hF.none_nil rfl
    subst hx
    exact hk Z H (Ext.refl _) (old_refl _ _) _ (fun _ => False) (fun _ h => h.elim) _ _ _ rfl (SlO.nil _ _ _ _ _) k
  | some a =>
    refine cf rfl ?_
    obtain ⟨σ, hz, hσ⟩ := tags Z
    refine NewH.mk fun H1 e1 => ?_
    obtain ⟨σ1, st1, f1⟩ := SlO.lit (E := u64L) σ 1 (xs := []) (l := []) e1 rfl .nil (show (0 : Nat) ≤ 17592186044416 by decide)
    have hF1 := (hF.wide hz).step st1
    have hs := (Stp.refl [1] σ H).trans st1
    refine SlO.appF f1 hF1 rfl rfl ?_ ?_ rfl rfl (fun A2 c2 H2 σ2 st2 f2 => ?_)
    · have : xs.length ≤ 17592186044416 := hF.lt; simp; omega
    · have : xs.length ≤ 17592186044416 := hF.lt; simp; omega
    have hs := hs.trans st2
    exact hk (Zt σ2) _ (hs.ext hσ) (hs.old hσ) _ (Yt σ2 1) (hs.fresh hσ) _ _ _ rfl f2 k
end Go.Proofs.Ytlhcaangdenoaaa.Sp
