import Derived.Test.YtlhcaangdenoaaaUQ6e
import Derived.Test.YtlhcaangdenoaaaUQP
import Derived.Test.YtlhcaangdenoaaaUTypes
import Derived.Test.YtlhcaangdenoaaaUFnJuntolaw06
import Derived.Test.YtlhcaangdenoaaaUFnJuntoref01
import Derived.Test.YtlhcaangdenoaaaUFnJuntoref02
import Derived.Test.YtlhcaangdenoaaaUFnJuntoref06
import Derived.Test.YtlhcaangdenoaaaUFnPair
namespace Go.Lf
end Go.Lf
namespace Go.Proofs.Ytlhcaangdenoaaa.Sh
end Go.Proofs.Ytlhcaangdenoaaa.Sh
namespace Go.Proofs.Ytlhcaangdenoaaa.Sp
end Go.Proofs.Ytlhcaangdenoaaa.Sp
namespace Go.Sx
end Go.Sx
set_option linter.unusedVariables false
set_option linter.unusedSimpArgs false
namespace Go.Proofs.Ytlhcaangdenoaaa.Pl
open Go.Sx Go.Lf Go.Proofs.Ytlhcaangdenoaaa.Sh Go.Proofs.Ytlhcaangdenoaaa.Sp
section
variable {p : Nat} [NeZero p]
theorem pv_zat (z : List Nat) {n : Nat} (h : z.length ≤ n) (x : Fin p) : S (fun i => cz p (zat z i) * x ^ i) n = pv p z x := by
  rw [pv_S]
  have : ∀ m, z.length ≤ m → S (fun i => cz p (zat z i) * x ^ i) m = S (fun i => cz p (z[i]?.getD 0) * x ^ i) z.length := by
    intro m hm
    induction m with
    | zero => have : z.length = 0 := by omega
              rw [this]; rfl
    | succ m ih =>
      rcases Nat.eq_or_lt_of_le hm with h' | h'
      · rw [← h']; rfl
      · rw [S, ih (by omega)]
        unfold zat
        rw [List.getElem?_eq_none (by omega)]
        simp only [Option.getD_none, cz_zero]; grind
  exact this n h
end
end Go.Proofs.Ytlhcaangdenoaaa.Pl
