import Derived.Test.YtlhcaangdenoaaaTQA
namespace Go.Lf
end Go.Lf
namespace Go.Proofs.Ytlhcaangdenoaaa.Sh
end Go.Proofs.Ytlhcaangdenoaaa.Sh
namespace Go.Proofs.Ytlhcaangdenoaaa.Sp
end Go.Proofs.Ytlhcaangdenoaaa.Sp
namespace Go.Sx
end Go.Sx
set_option linter.unusedVariables false
set_option linter.unusedSimpArgs false
namespace Go.Proofs.Ytlhcaangdenoaaa.Pl
open Go.Sx Go.Lf Go.Proofs.Ytlhcaangdenoaaa.Sh Go.Proofs.Ytlhcaangdenoaaa.Sp
theorem short_zeros (f : List Nat) (n : Nat) : short (f ++ List.replicate n 0) = short f := by
  unfold short
  rw [List.reverse_append, List.reverse_replicate]
  congr 1
  induction n with
  | zero => simp
  | succ n ih => rw [List.replicate_succ, List.cons_append, List.dropWhile_cons]; simp [ih]
end Go.Proofs.Ytlhcaangdenoaaa.Pl
