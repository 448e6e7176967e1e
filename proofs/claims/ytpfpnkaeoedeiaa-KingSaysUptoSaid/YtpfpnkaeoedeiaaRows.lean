/-
  No cell of these rows narrows 'for every input' (looked for: loops, veiled, ifaces, maps, wideKeys, modest, calm, conditions, laid).
  DERIVED. THE GIVEN ROWS OF THIS SEAT. 5 by the template 'for every input the law returns true; each argument reads behind the call as it read before'; 0 by the template 'total and deterministic' (their statements: YtpfpnkaeoedeiaaTotals.lean).
  GIVEN WITH THE SEED: the statements are not yours to turn. If you find one false, say at which input.
  Laid BY PROGRAM, IN A SANDBOX (cutbox-rows.mjs): the forced cells as the released guide's own fill.sh prints them over the translation 3256e0a4f28bae4e… (all of the seat's roots in one cut). By AI agents, Wed Nov 11 2026. No macro, syntax, notation, axiom, sorry.
-/
import Derived.Test.YtpfpnkaeoedeiaaChecked
import GoSem.Claim
import GoSem.ClaimJoined
import GoSem.ClaimMapViews
import Derived.JoinedTies
import Derived.KernelRfl
namespace Go.Proofs.Ytpfpnkaeoedeiaa
/- THE CELL 'sum', in the pinned program and in every row, IS THE sha256 OF THE DUMP (.gsa) THAT YtpfpnkaeoedeiaaProg.lean LOADS. Nothing in Lean hashes anything: it is a label: what it is worth is what the hold of that sum in a sandbox is worth. -/
noncomputable def Try.pinned : Pinned := { name := "ytpfpnkaeoedeiaa", sum := "3256e0a4f28bae4ef19e4b8513522953bbe1b6582b767418f126a6fd739d9fea", checked := Try.checked }
namespace Rows
def none {H : Type} : Left H := { results := [], args := [] }

/-- 'juntolaw18.KingAgrees': WHATEVER THE INPUT: true; the input reads as it did. -/
def kingAgreesSpec : ChangeSpec := { name := "kingAgrees", fn := fun _ => fun
  | [d1, d2] => { results := [.lit (.bool true)], args := [d1, d2] }
  | _ => none }
def kingAgreesRow : OpenClaim := { program := "ytpfpnkaeoedeiaa", sum := "3256e0a4f28bae4ef19e4b8513522953bbe1b6582b767418f126a6fd739d9fea", func := "junto/juntolaw18.KingAgrees", spec := "kingAgrees", unfollowed := true, recurses := true, plainKeys := false, apart := false }
def KingAgreesSaid : Prop := kingAgreesRow.holds Try.pinned (OpenSpec.ofChange kingAgreesSpec)

/-- ITS FALSE NEIGHBOUR: 'it returns false'. Refute it at one input. -/
def kingAgreesWrong : ChangeSpec := { name := "kingAgrees", fn := fun _ => fun
  | [d1, d2] => { results := [.lit (.bool false)], args := [d1, d2] }
  | _ => none }
def KingAgreesWrongFalsely : Prop := kingAgreesRow.holds Try.pinned (OpenSpec.ofChange kingAgreesWrong)

/-- 'juntolaw18.KingOne': WHATEVER THE INPUT: true; the input reads as it did. -/
def kingOneSpec : ChangeSpec := { name := "kingOne", fn := fun _ => fun
  | [d1, d2] => { results := [.lit (.bool true)], args := [d1, d2] }
  | _ => none }
def kingOneRow : OpenClaim := { program := "ytpfpnkaeoedeiaa", sum := "3256e0a4f28bae4ef19e4b8513522953bbe1b6582b767418f126a6fd739d9fea", func := "junto/juntolaw18.KingOne", spec := "kingOne", unfollowed := true, recurses := true, plainKeys := false, apart := false }
def KingOneSaid : Prop := kingOneRow.holds Try.pinned (OpenSpec.ofChange kingOneSpec)

/-- ITS FALSE NEIGHBOUR: 'it returns false'. Refute it at one input. -/
def kingOneWrong : ChangeSpec := { name := "kingOne", fn := fun _ => fun
  | [d1, d2] => { results := [.lit (.bool false)], args := [d1, d2] }
  | _ => none }
def KingOneWrongFalsely : Prop := kingOneRow.holds Try.pinned (OpenSpec.ofChange kingOneWrong)

/-- 'juntolaw18.KingSays': WHATEVER THE INPUT: true; the input reads as it did. -/
def kingSaysSpec : ChangeSpec := { name := "kingSays", fn := fun _ => fun
  | [d1, d2, d3] => { results := [.lit (.bool true)], args := [d1, d2, d3] }
  | _ => none }
def kingSaysRow : OpenClaim := { program := "ytpfpnkaeoedeiaa", sum := "3256e0a4f28bae4ef19e4b8513522953bbe1b6582b767418f126a6fd739d9fea", func := "junto/juntolaw18.KingSays", spec := "kingSays", unfollowed := true, recurses := true, plainKeys := false, apart := false }
def KingSaysSaid : Prop := kingSaysRow.holds Try.pinned (OpenSpec.ofChange kingSaysSpec)

/-- ITS FALSE NEIGHBOUR: 'it returns false'. Refute it at one input. -/
def kingSaysWrong : ChangeSpec := { name := "kingSays", fn := fun _ => fun
  | [d1, d2, d3] => { results := [.lit (.bool false)], args := [d1, d2, d3] }
  | _ => none }
def KingSaysWrongFalsely : Prop := kingSaysRow.holds Try.pinned (OpenSpec.ofChange kingSaysWrong)

/-- 'juntolaw18.KingHeard': WHATEVER THE INPUT: true; the input reads as it did. -/
def kingHeardSpec : ChangeSpec := { name := "kingHeard", fn := fun _ => fun
  | [d1, d2, d3] => { results := [.lit (.bool true)], args := [d1, d2, d3] }
  | _ => none }
def kingHeardRow : OpenClaim := { program := "ytpfpnkaeoedeiaa", sum := "3256e0a4f28bae4ef19e4b8513522953bbe1b6582b767418f126a6fd739d9fea", func := "junto/juntolaw18.KingHeard", spec := "kingHeard", unfollowed := true, recurses := true, plainKeys := false, apart := false }
def KingHeardSaid : Prop := kingHeardRow.holds Try.pinned (OpenSpec.ofChange kingHeardSpec)

/-- ITS FALSE NEIGHBOUR: 'it returns false'. Refute it at one input. -/
def kingHeardWrong : ChangeSpec := { name := "kingHeard", fn := fun _ => fun
  | [d1, d2, d3] => { results := [.lit (.bool false)], args := [d1, d2, d3] }
  | _ => none }
def KingHeardWrongFalsely : Prop := kingHeardRow.holds Try.pinned (OpenSpec.ofChange kingHeardWrong)

/-- 'juntolaw18.KingRounds': WHATEVER THE INPUT: true; the input reads as it did. -/
def kingRoundsSpec : ChangeSpec := { name := "kingRounds", fn := fun _ => fun
  | [d1, d2, d3, d4] => { results := [.lit (.bool true)], args := [d1, d2, d3, d4] }
  | _ => none }
def kingRoundsRow : OpenClaim := { program := "ytpfpnkaeoedeiaa", sum := "3256e0a4f28bae4ef19e4b8513522953bbe1b6582b767418f126a6fd739d9fea", func := "junto/juntolaw18.KingRounds", spec := "kingRounds", unfollowed := true, recurses := true, plainKeys := false, apart := false }
def KingRoundsSaid : Prop := kingRoundsRow.holds Try.pinned (OpenSpec.ofChange kingRoundsSpec)

/-- ITS FALSE NEIGHBOUR: 'it returns false'. Refute it at one input. -/
def kingRoundsWrong : ChangeSpec := { name := "kingRounds", fn := fun _ => fun
  | [d1, d2, d3, d4] => { results := [.lit (.bool false)], args := [d1, d2, d3, d4] }
  | _ => none }
def KingRoundsWrongFalsely : Prop := kingRoundsRow.holds Try.pinned (OpenSpec.ofChange kingRoundsWrong)

/- THE SECOND FORM. 'bulk': how many values and letters a reading holds, each counted each time it is reached (what is shared counts as often as it is met; a slice's spare places count too). A statement '..UptoSaid' is the law's where the arguments, and the package variables that the reading takes, are together of bulk at most 1048576: NARROWER than '..Said'. Prove '..Said' where nothing that the law and all that it calls make is longer than what came in: it says more and counts as full. Else prove '..UptoSaid'. A law counts once. -/
mutual
def uptoBulk {H : Type} : DataW H → Nat
  | .lit (.string bytes) => bytes.length + 1
  | .lit _ => 1
  | .nil => 1
  | .ptr d => uptoBulk d + 1
  | .slice elems spare => uptoBulkAll elems + uptoBulkAll spare + 1
  | .agg parts => uptoBulkAll parts + 1
  | .iface _ d => uptoBulk d + 1
  | .map entries => uptoBulkEntries entries + 1
  | .held _ => 1
def uptoBulkAll {H : Type} : List (DataW H) → Nat
  | [] => 0
  | d :: r => uptoBulk d + uptoBulkAll r
def uptoBulkEntries {H : Type} : List (Lit × DataW H) → Nat
  | [] => 0
  | x :: r => uptoBulkEntry x + uptoBulkEntries r
def uptoBulkEntry {H : Type} : Lit × DataW H → Nat
  | (.string bytes, d) => bytes.length + uptoBulk d + 1
  | (_, d) => uptoBulk d + 1
 end
def uptoSmall : (H : Type) → List (DataW H) → Bool := fun _ ds => decide (uptoBulkAll ds ≤ 1048576)
def OpenSpec.upto (s : _root_.Go.ChangeSpec) : _root_.Go.OpenSpec := { _root_.Go.OpenSpec.ofChange s with cond := some uptoSmall }

/-- 'juntolaw18.KingAgrees', WHERE WHAT IT READS IS OF BULK AT MOST 1048576: true; the input reads as it did. -/
def kingAgreesUptoRow : OpenClaim := { program := "ytpfpnkaeoedeiaa", sum := "3256e0a4f28bae4ef19e4b8513522953bbe1b6582b767418f126a6fd739d9fea", func := "junto/juntolaw18.KingAgrees", spec := "kingAgrees", unfollowed := true, recurses := true, plainKeys := false, apart := false, narrowed := true }
def KingAgreesUptoSaid : Prop := kingAgreesUptoRow.holds Try.pinned (OpenSpec.upto kingAgreesSpec)

/-- 'juntolaw18.KingOne', WHERE WHAT IT READS IS OF BULK AT MOST 1048576: true; the input reads as it did. -/
def kingOneUptoRow : OpenClaim := { program := "ytpfpnkaeoedeiaa", sum := "3256e0a4f28bae4ef19e4b8513522953bbe1b6582b767418f126a6fd739d9fea", func := "junto/juntolaw18.KingOne", spec := "kingOne", unfollowed := true, recurses := true, plainKeys := false, apart := false, narrowed := true }
def KingOneUptoSaid : Prop := kingOneUptoRow.holds Try.pinned (OpenSpec.upto kingOneSpec)

/-- 'juntolaw18.KingSays', WHERE WHAT IT READS IS OF BULK AT MOST 1048576: true; the input reads as it did. -/
def kingSaysUptoRow : OpenClaim := { program := "ytpfpnkaeoedeiaa", sum := "3256e0a4f28bae4ef19e4b8513522953bbe1b6582b767418f126a6fd739d9fea", func := "junto/juntolaw18.KingSays", spec := "kingSays", unfollowed := true, recurses := true, plainKeys := false, apart := false, narrowed := true }
def KingSaysUptoSaid : Prop := kingSaysUptoRow.holds Try.pinned (OpenSpec.upto kingSaysSpec)

/-- 'juntolaw18.KingHeard', WHERE WHAT IT READS IS OF BULK AT MOST 1048576: true; the input reads as it did. -/
def kingHeardUptoRow : OpenClaim := { program := "ytpfpnkaeoedeiaa", sum := "3256e0a4f28bae4ef19e4b8513522953bbe1b6582b767418f126a6fd739d9fea", func := "junto/juntolaw18.KingHeard", spec := "kingHeard", unfollowed := true, recurses := true, plainKeys := false, apart := false, narrowed := true }
def KingHeardUptoSaid : Prop := kingHeardUptoRow.holds Try.pinned (OpenSpec.upto kingHeardSpec)

/-- 'juntolaw18.KingRounds', WHERE WHAT IT READS IS OF BULK AT MOST 1048576: true; the input reads as it did. -/
def kingRoundsUptoRow : OpenClaim := { program := "ytpfpnkaeoedeiaa", sum := "3256e0a4f28bae4ef19e4b8513522953bbe1b6582b767418f126a6fd739d9fea", func := "junto/juntolaw18.KingRounds", spec := "kingRounds", unfollowed := true, recurses := true, plainKeys := false, apart := false, narrowed := true }
def KingRoundsUptoSaid : Prop := kingRoundsUptoRow.holds Try.pinned (OpenSpec.upto kingRoundsSpec)

end Rows
end Go.Proofs.Ytpfpnkaeoedeiaa
