import Derived.Test.YtlhcaangdenoaaaSQ6b
import Derived.Test.YtlhcaangdenoaaaSQ2
namespace Go.Lf
end Go.Lf
namespace Go.Proofs.Ytlhcaangdenoaaa.Sh
end Go.Proofs.Ytlhcaangdenoaaa.Sh
namespace Go.Proofs.Ytlhcaangdenoaaa.Sp
end Go.Proofs.Ytlhcaangdenoaaa.Sp
namespace Go.Sx
end Go.Sx
set_option linter.unusedVariables false
set_option linter.unusedSimpArgs false
namespace Go.Proofs.Ytlhcaangdenoaaa.Pl
open Go.Sx Go.Lf Go.Proofs.Ytlhcaangdenoaaa.Sh Go.Proofs.Ytlhcaangdenoaaa.Sp
def zat (z : List Nat) (i : Nat) : Nat := (z[i]?).getD 0
theorem zat_lt {p : Nat} (hp : 0 < p) {z : List Nat} (h : ∀ x ∈ z, x < p) (i : Nat) : zat z i < p := by
  unfold zat
  cases hx : z[i]? with
  | none => exact hp
  | some y => exact h y (mem_get hx)
theorem codeB_cases (p : Nat) (z : List Nat) : codeB (below p z) = 2 ∨ (codeB (below p z) = 0 ∧ ∀ x ∈ z, x < p) := by
  cases h : below p z with
  | true => exact .inr ⟨rfl, fun x hx => below_lt h hx⟩
  | false => exact .inl rfl
end Go.Proofs.Ytlhcaangdenoaaa.Pl
