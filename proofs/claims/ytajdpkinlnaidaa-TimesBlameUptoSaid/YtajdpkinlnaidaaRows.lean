/-
  No cell of these rows narrows 'for every input' (looked for: loops, veiled, ifaces, maps, wideKeys, modest, calm, conditions, laid).
  DERIVED. THE GIVEN ROWS OF THIS SEAT. 3 by the template 'for every input the law returns true; each argument reads behind the call as it read before'; 0 by the template 'total and deterministic' (their statements: YtajdpkinlnaidaaTotals.lean).
  GIVEN WITH THE SEED: the statements are not yours to turn. If you find one false, say at which input.
  Laid BY PROGRAM, IN A SANDBOX (cutbox-rows.mjs): the forced cells as the released guide's own fill.sh prints them over the translation f52c1f1fec661c4d… (all of the seat's roots in one cut). By AI agents, Wed Nov 11 2026. No macro, syntax, notation, axiom, sorry.
-/
import Derived.Test.YtajdpkinlnaidaaChecked
import GoSem.Claim
import GoSem.ClaimJoined
import GoSem.ClaimMapViews
import Derived.JoinedTies
import Derived.KernelRfl
namespace Go.Proofs.Ytajdpkinlnaidaa
/- THE CELL 'sum', in the pinned program and in every row, IS THE sha256 OF THE DUMP (.gsa) THAT YtajdpkinlnaidaaProg.lean LOADS. Nothing in Lean hashes anything: it is a label: what it is worth is what the hold of that sum in a sandbox is worth. -/
noncomputable def Try.pinned : Pinned := { name := "ytajdpkinlnaidaa", sum := "f52c1f1fec661c4d9662e3b721d9d38b8f24d3f580388eba30922896afe2b6d3", checked := Try.checked }
namespace Rows
def none {H : Type} : Left H := { results := [], args := [] }

/-- 'juntolaw20.OpenTold': WHATEVER THE INPUT: true; the input reads as it did. -/
def openToldSpec : ChangeSpec := { name := "openTold", fn := fun _ => fun
  | [d1, d2, d3, d4] => { results := [.lit (.bool true)], args := [d1, d2, d3, d4] }
  | _ => none }
def openToldRow : OpenClaim := { program := "ytajdpkinlnaidaa", sum := "f52c1f1fec661c4d9662e3b721d9d38b8f24d3f580388eba30922896afe2b6d3", func := "junto/juntolaw20.OpenTold", spec := "openTold", unfollowed := true, recurses := true, plainKeys := false, apart := false }
def OpenToldSaid : Prop := openToldRow.holds Try.pinned (OpenSpec.ofChange openToldSpec)

/-- ITS FALSE NEIGHBOUR: 'it returns false'. Refute it at one input. -/
def openToldWrong : ChangeSpec := { name := "openTold", fn := fun _ => fun
  | [d1, d2, d3, d4] => { results := [.lit (.bool false)], args := [d1, d2, d3, d4] }
  | _ => none }
def OpenToldWrongFalsely : Prop := openToldRow.holds Try.pinned (OpenSpec.ofChange openToldWrong)

/-- 'juntolaw20.OpenBlame': WHATEVER THE INPUT: true; the input reads as it did. -/
def openBlameSpec : ChangeSpec := { name := "openBlame", fn := fun _ => fun
  | [d1, d2, d3, d4] => { results := [.lit (.bool true)], args := [d1, d2, d3, d4] }
  | _ => none }
def openBlameRow : OpenClaim := { program := "ytajdpkinlnaidaa", sum := "f52c1f1fec661c4d9662e3b721d9d38b8f24d3f580388eba30922896afe2b6d3", func := "junto/juntolaw20.OpenBlame", spec := "openBlame", unfollowed := true, recurses := true, plainKeys := false, apart := false }
def OpenBlameSaid : Prop := openBlameRow.holds Try.pinned (OpenSpec.ofChange openBlameSpec)

/-- ITS FALSE NEIGHBOUR: 'it returns false'. Refute it at one input. -/
def openBlameWrong : ChangeSpec := { name := "openBlame", fn := fun _ => fun
  | [d1, d2, d3, d4] => { results := [.lit (.bool false)], args := [d1, d2, d3, d4] }
  | _ => none }
def OpenBlameWrongFalsely : Prop := openBlameRow.holds Try.pinned (OpenSpec.ofChange openBlameWrong)

/-- 'juntolaw22.TimesBlame': WHATEVER THE INPUT: true; the input reads as it did. -/
def timesBlameSpec : ChangeSpec := { name := "timesBlame", fn := fun _ => fun
  | [d1, d2, d3, d4, d5] => { results := [.lit (.bool true)], args := [d1, d2, d3, d4, d5] }
  | _ => none }
def timesBlameRow : OpenClaim := { program := "ytajdpkinlnaidaa", sum := "f52c1f1fec661c4d9662e3b721d9d38b8f24d3f580388eba30922896afe2b6d3", func := "junto/juntolaw22.TimesBlame", spec := "timesBlame", unfollowed := true, recurses := true, plainKeys := false, apart := false }
def TimesBlameSaid : Prop := timesBlameRow.holds Try.pinned (OpenSpec.ofChange timesBlameSpec)

/-- ITS FALSE NEIGHBOUR: 'it returns false'. Refute it at one input. -/
def timesBlameWrong : ChangeSpec := { name := "timesBlame", fn := fun _ => fun
  | [d1, d2, d3, d4, d5] => { results := [.lit (.bool false)], args := [d1, d2, d3, d4, d5] }
  | _ => none }
def TimesBlameWrongFalsely : Prop := timesBlameRow.holds Try.pinned (OpenSpec.ofChange timesBlameWrong)

/- THE SECOND FORM. 'bulk': how many values and letters a reading holds, each counted each time it is reached (what is shared counts as often as it is met; a slice's spare places count too). A statement '..UptoSaid' is the law's where the arguments, and the package variables that the reading takes, are together of bulk at most 1048576: NARROWER than '..Said'. Prove '..Said' where nothing that the law and all that it calls make is longer than what came in: it says more and counts as full. Else prove '..UptoSaid'. A law counts once. -/
mutual
def uptoBulk {H : Type} : DataW H → Nat
  | .lit (.string bytes) => bytes.length + 1
  | .lit _ => 1
  | .nil => 1
  | .ptr d => uptoBulk d + 1
  | .slice elems spare => uptoBulkAll elems + uptoBulkAll spare + 1
  | .agg parts => uptoBulkAll parts + 1
  | .iface _ d => uptoBulk d + 1
  | .map entries => uptoBulkEntries entries + 1
  | .held _ => 1
def uptoBulkAll {H : Type} : List (DataW H) → Nat
  | [] => 0
  | d :: r => uptoBulk d + uptoBulkAll r
def uptoBulkEntries {H : Type} : List (Lit × DataW H) → Nat
  | [] => 0
  | x :: r => uptoBulkEntry x + uptoBulkEntries r
def uptoBulkEntry {H : Type} : Lit × DataW H → Nat
  | (.string bytes, d) => bytes.length + uptoBulk d + 1
  | (_, d) => uptoBulk d + 1
 end
def uptoSmall : (H : Type) → List (DataW H) → Bool := fun _ ds => decide (uptoBulkAll ds ≤ 1048576)
def OpenSpec.upto (s : _root_.Go.ChangeSpec) : _root_.Go.OpenSpec := { _root_.Go.OpenSpec.ofChange s with cond := some uptoSmall }

/-- 'juntolaw20.OpenTold', WHERE WHAT IT READS IS OF BULK AT MOST 1048576: true; the input reads as it did. -/
def openToldUptoRow : OpenClaim := { program := "ytajdpkinlnaidaa", sum := "f52c1f1fec661c4d9662e3b721d9d38b8f24d3f580388eba30922896afe2b6d3", func := "junto/juntolaw20.OpenTold", spec := "openTold", unfollowed := true, recurses := true, plainKeys := false, apart := false, narrowed := true }
def OpenToldUptoSaid : Prop := openToldUptoRow.holds Try.pinned (OpenSpec.upto openToldSpec)

/-- 'juntolaw20.OpenBlame', WHERE WHAT IT READS IS OF BULK AT MOST 1048576: true; the input reads as it did. -/
def openBlameUptoRow : OpenClaim := { program := "ytajdpkinlnaidaa", sum := "f52c1f1fec661c4d9662e3b721d9d38b8f24d3f580388eba30922896afe2b6d3", func := "junto/juntolaw20.OpenBlame", spec := "openBlame", unfollowed := true, recurses := true, plainKeys := false, apart := false, narrowed := true }
def OpenBlameUptoSaid : Prop := openBlameUptoRow.holds Try.pinned (OpenSpec.upto openBlameSpec)

/-- 'juntolaw22.TimesBlame', WHERE WHAT IT READS IS OF BULK AT MOST 1048576: true; the input reads as it did. -/
def timesBlameUptoRow : OpenClaim := { program := "ytajdpkinlnaidaa", sum := "f52c1f1fec661c4d9662e3b721d9d38b8f24d3f580388eba30922896afe2b6d3", func := "junto/juntolaw22.TimesBlame", spec := "timesBlame", unfollowed := true, recurses := true, plainKeys := false, apart := false, narrowed := true }
def TimesBlameUptoSaid : Prop := timesBlameUptoRow.holds Try.pinned (OpenSpec.upto timesBlameSpec)

end Rows
end Go.Proofs.Ytajdpkinlnaidaa
