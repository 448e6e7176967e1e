import Derived.Test.YtlhcaangdenoaaaSQ6
namespace Go.Lf
end Go.Lf
namespace Go.Proofs.Ytlhcaangdenoaaa.Sh
end Go.Proofs.Ytlhcaangdenoaaa.Sh
namespace Go.Proofs.Ytlhcaangdenoaaa.Sp
end Go.Proofs.Ytlhcaangdenoaaa.Sp
namespace Go.Sx
end Go.Sx
set_option linter.unusedVariables false
namespace Go.Proofs.Ytlhcaangdenoaaa.Pl
open Go.Sx Go.Lf Go.Proofs.Ytlhcaangdenoaaa.Sh Go.Proofs.Ytlhcaangdenoaaa.Sp
def sizeN (d : Nat) : Nat := (d + 1) * (d + 2) / 2 - 1
def off (n : Nat) : Nat → Nat
  | 0 => 0
  | i + 1 => off n i + (n - i)
def ix (n i k : Nat) : Nat := off n i + (k - i)
def mkG (n : Nat) (L : List Nat) (a b : Nat) : Nat := L.getD (ix n (min a b) (max a b)) 0
def mkM (n : Nat) (L : List Nat) : List (List Nat) := mat n (mkG n L)
noncomputable def mk (p secret d : Nat) (tape : List Nat) : List (List Nat) := mkM (d + 1) (secret :: takeN p tape (sizeN d))
theorem Pr.sz {p d : Nat} {F : List (List Nat)} (hd : d ≤ 3) (h : Pr p d F) : Sz F := ⟨by rw [h.len]; omega, fun r hr => by rw [h.row r hr]; omega⟩
end Go.Proofs.Ytlhcaangdenoaaa.Pl
