import Derived.Test.YtlhcaangdenoaaaAt
set_option linter.unusedVariables false
namespace Go.Proofs.Ytlhcaangdenoaaa.Sp
open Go.Sx Go.Proofs.Ytlhcaangdenoaaa.Sh

/-! ### Residues -/
section
variable {p : Nat} [NeZero p]
def cz (p : Nat) [NeZero p] (x : Nat) : Fin p := Fin.ofNat p x
theorem cz_mod (x : Nat) : cz p (x % p) = cz p x := by apply Fin.ext; simp [cz, Fin.ofNat]
theorem cz_mul (a b : Nat) : cz p (a * b) = cz p a * cz p b := by apply Fin.ext; simp [cz, Fin.ofNat, Fin.mul_def, Nat.mul_mod]
theorem cz_add (a b : Nat) : cz p (a + b) = cz p a + cz p b := by apply Fin.ext; simp [cz, Fin.ofNat, Fin.add_def, Nat.add_mod]
theorem cz_fmul (a b : Nat) : cz p (fmul p a b) = cz p a * cz p b := by unfold fmul; rw [cz_mod, cz_mul]
theorem cz_fadd (a b : Nat) : cz p (fadd p a b) = cz p a + cz p b := by unfold fadd; rw [cz_mod, cz_add]
theorem cz_zero : cz p 0 = 0 := rfl
theorem cz_one : cz p 1 = 1 := rfl
theorem cz_self : cz p p = 0 := by apply Fin.ext; simp [cz, Fin.ofNat]
theorem cz_pow (a e : Nat) : cz p (a ^ e) = cz p a ^ e := by
  induction e with
  | zero => simp [cz_one]
  | succ e ih => rw [Nat.pow_succ, cz_mul, ih]; grind
theorem cz_inj {a b : Nat} (ha : a < p) (hb : b < p) (h : cz p a = cz p b) : a = b := by
  have := congrArg Fin.val h
  simp [cz, Fin.ofNat, Nat.mod_eq_of_lt ha, Nat.mod_eq_of_lt hb] at this
  exact this
theorem cz_fsub {a b : Nat} (hb : b ≤ p) : cz p (fsub p a b) = cz p a - cz p b := by
  have h : cz p (p - b) + cz p b = 0 := by rw [← cz_add, Nat.sub_add_cancel hb, cz_self]
  unfold fsub; rw [cz_mod, cz_add]; grind
/-- The value of a polynomial. -/
def pv (p : Nat) [NeZero p] (f : List Nat) (x : Fin p) : Fin p := f.foldr (fun c v => v * x + cz p c) 0
theorem pv_cons (c : Nat) (f : List Nat) (x : Fin p) : pv p (c :: f) x = pv p f x * x + cz p c := rfl
theorem pv_nil (x : Fin p) : pv p [] x = 0 := rfl
theorem pv_evalH (f : List Nat) (x : Nat) : cz p (evalH p f x) = pv p f (cz p x) := by
  induction f with
  | nil => rfl
  | cons c f ih => rw [pv_cons, ← ih, evalH, List.foldr_cons, cz_fadd, cz_fmul]; rfl
theorem pv_drop (f : List Nat) (x : Fin p) {k c : Nat} (h : f[k]? = some c) : pv p (f.drop k) x = pv p (f.drop (k + 1)) x * x + cz p c := by
  obtain ⟨hk, rfl⟩ := List.getElem?_eq_some_iff.1 h
  rw [List.drop_eq_getElem_cons hk, pv_cons]
end

/-! ### The reference's arithmetic -/
theorem juntoref01_Mul_sp {p a b : Nat} (hp0 : 0 < p) (hp : p ≤ 65537) (ha : a < p) (hb : b < p) {H : Heap} {K : Value → Heap → Prop} (k : K (.int .u64 (fmul p a b : Nat)) H) : CallH P N.juntoref01_Mul [.int .u64 p, .int .u64 a, .int .u64 b] H K := by
  apply juntoref01_Mul.ok
  refine ⟨by omega, ?_⟩
  have := mul_lt hp ha hb
  rw [show (a : Int) * b = ((a * b : Nat) : Int) by simp, wu64 (by omega) (by omega), tmod_nat]
  exact k
theorem juntoref01_Add_sp {p a b : Nat} (hp0 : 0 < p) (hp : p ≤ 65537) (ha : a < p) (hb : b < p) {H : Heap} {K : Value → Heap → Prop} (k : K (.int .u64 (fadd p a b : Nat)) H) : CallH P N.juntoref01_Add [.int .u64 p, .int .u64 a, .int .u64 b] H K := by
  apply juntoref01_Add.ok
  refine ⟨by omega, ?_⟩
  rw [show (a : Int) + b = ((a + b : Nat) : Int) by simp, wu64 (by omega) (by omega), tmod_nat]
  exact k
theorem juntoref01_Sub_sp {p a b : Nat} (hp0 : 0 < p) (hp : p ≤ 65537) (ha : a < p) (hb : b < p) {H : Heap} {K : Value → Heap → Prop} (k : K (.int .u64 (fsub p a b : Nat)) H) : CallH P N.juntoref01_Sub [.int .u64 p, .int .u64 a, .int .u64 b] H K := by
  apply juntoref01_Sub.ok
  refine ⟨by omega, ?_⟩
  rw [wu64 (x := (a : Int) + p) (by omega) (by omega), show (a : Int) + p - b = ((a + (p - b) : Nat) : Int) by omega, wu64 (by omega) (by omega), tmod_nat]
  exact k
def fpow (p a e : Nat) : Nat := a ^ e % p
theorem fpow_lt {p : Nat} (hp : 0 < p) (a e : Nat) : fpow p a e < p := Nat.mod_lt _ hp
theorem juntoref01_Pow_sp {p a : Nat} (hp0 : 1 < p) (hp : p ≤ 65537) (ha : a < p) : ∀ (e : Nat), e < 18446744073709551616 → ∀ {H : Heap} {K : Value → Heap → Prop}, K (.int .u64 (fpow p a e : Nat)) H → CallH P N.juntoref01_Pow [.int .u64 p, .int .u64 a, .int .u64 e] H K := by
  intro e
  induction e using Nat.strongRecOn with
  | ind e ih =>
    intro he H K k
    apply juntoref01_Pow.ok
    unfold juntoref01_Pow.W
    by_cases h0 : e = 0
    · subst h0
      refine ct rfl ?_
      have : fpow p a 0 = 1 := by unfold fpow; rw [Nat.pow_zero, Nat.mod_eq_of_lt hp0]
      rw [this] at k; exact k
    refine cf (beq_f (by omega)) ⟨by omega, ?_⟩
    have e2 : Int.tdiv (e : Int) 2 = ((e / 2 : Nat) : Int) := rfl
    rw [e2, wu64 (by omega) (by omega)]
    refine ih (e / 2) (by omega) (by omega) ⟨_, rfl, ?_⟩
    refine juntoref01_Mul_sp (by omega) hp (fpow_lt (by omega) _ _) (fpow_lt (by omega) _ _) ⟨_, rfl, by omega, ?_⟩
    have hsq : fmul p (fpow p a (e / 2)) (fpow p a (e / 2)) = fpow p a (e / 2 + e / 2) := by unfold fmul fpow; rw [← Nat.mul_mod, Nat.pow_add]
    rw [hsq, show Int.tmod (e : Int) 2 = ((e % 2 : Nat) : Int) from rfl]
    by_cases hodd : e % 2 = 1
    · refine ct (beq_t (by omega)) ?_
      refine juntoref01_Mul_sp (by omega) hp (fpow_lt (by omega) _ _) ha ⟨_, rfl, ?_⟩
      have : fmul p (fpow p a (e / 2 + e / 2)) a = fpow p a e := by
        unfold fmul fpow
        rw [Nat.mod_mul_mod, ← Nat.pow_succ, show (e / 2 + e / 2).succ = e by omega]
      rw [this]; exact k
    · refine cf (beq_f (by omega)) ?_
      rw [show e / 2 + e / 2 = e by omega]; exact k
theorem cz_fpow {p : Nat} [NeZero p] (a e : Nat) : cz p (fpow p a e) = cz p a ^ e := by unfold fpow; rw [cz_mod, cz_pow]
end Go.Proofs.Ytlhcaangdenoaaa.Sp
