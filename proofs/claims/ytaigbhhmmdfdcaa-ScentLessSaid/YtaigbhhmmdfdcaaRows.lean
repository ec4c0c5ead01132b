/-
  No cell of these rows narrows 'for every input' (looked for: loops, veiled, ifaces, maps, wideKeys, modest, calm, conditions, laid).
  DERIVED. THE GIVEN ROWS OF THIS SEAT. 13 by the template 'for every input the law returns true; each argument reads behind the call as it read before'; 0 by the template 'total and deterministic' (their statements: YtaigbhhmmdfdcaaTotals.lean).
  GIVEN WITH THE SEED: the statements are not yours to turn. If you find one false, say at which input.
  Laid BY PROGRAM, IN A SANDBOX (cutbox-rows.mjs): the forced cells as the released guide's own fill.sh prints them over the translation f557fd9b1ed6a085… (all of the seat's roots in one cut). By AI agents, Wed Nov 11 2026. No macro, syntax, notation, axiom, sorry.
-/
import Derived.Test.YtaigbhhmmdfdcaaChecked
import GoSem.Claim
import GoSem.ClaimJoined
import GoSem.ClaimMapViews
import Derived.JoinedTies
import Derived.KernelRfl
namespace Go.Proofs.Ytaigbhhmmdfdcaa
/- THE CELL 'sum', in the pinned program and in every row, IS THE sha256 OF THE DUMP (.gsa) THAT YtaigbhhmmdfdcaaProg.lean LOADS. Nothing in Lean hashes anything: it is a label: what it is worth is what the hold of that sum in a sandbox is worth. -/
noncomputable def Try.pinned : Pinned := { name := "ytaigbhhmmdfdcaa", sum := "f557fd9b1ed6a08557de925b331e988cb994efb7a3c1b24fc64f2bdd5935b6fd", checked := Try.checked }
namespace Rows
def none {H : Type} : Left H := { results := [], args := [] }

/-- 'stearinlaw07.ScentChecks': WHATEVER THE INPUT: true; the input reads as it did. -/
def scentChecksSpec : ChangeSpec := { name := "scentChecks", fn := fun _ => fun
  | [d] => { results := [.lit (.bool true)], args := [d] }
  | _ => none }
def scentChecksRow : OpenClaim := { program := "ytaigbhhmmdfdcaa", sum := "f557fd9b1ed6a08557de925b331e988cb994efb7a3c1b24fc64f2bdd5935b6fd", func := "stearin/stearinlaw07.ScentChecks", spec := "scentChecks", unfollowed := true, recurses := true, apart := false }
def ScentChecksSaid : Prop := scentChecksRow.holds Try.pinned (OpenSpec.ofChange scentChecksSpec)

/-- ITS FALSE NEIGHBOUR: 'it returns false'. Refute it at one input. -/
def scentChecksWrong : ChangeSpec := { name := "scentChecks", fn := fun _ => fun
  | [d] => { results := [.lit (.bool false)], args := [d] }
  | _ => none }
def ScentChecksWrongFalsely : Prop := scentChecksRow.holds Try.pinned (OpenSpec.ofChange scentChecksWrong)

/-- 'stearinlaw07.ScentContents': WHATEVER THE INPUT: true; the input reads as it did. -/
def scentContentsSpec : ChangeSpec := { name := "scentContents", fn := fun _ => fun
  | [d1, d2] => { results := [.lit (.bool true)], args := [d1, d2] }
  | _ => none }
def scentContentsRow : OpenClaim := { program := "ytaigbhhmmdfdcaa", sum := "f557fd9b1ed6a08557de925b331e988cb994efb7a3c1b24fc64f2bdd5935b6fd", func := "stearin/stearinlaw07.ScentContents", spec := "scentContents", unfollowed := true, recurses := true, apart := false }
def ScentContentsSaid : Prop := scentContentsRow.holds Try.pinned (OpenSpec.ofChange scentContentsSpec)

/-- ITS FALSE NEIGHBOUR: 'it returns false'. Refute it at one input. -/
def scentContentsWrong : ChangeSpec := { name := "scentContents", fn := fun _ => fun
  | [d1, d2] => { results := [.lit (.bool false)], args := [d1, d2] }
  | _ => none }
def ScentContentsWrongFalsely : Prop := scentContentsRow.holds Try.pinned (OpenSpec.ofChange scentContentsWrong)

/-- 'stearinlaw07.ScentMade': WHATEVER THE INPUT: true; the input reads as it did. -/
def scentMadeSpec : ChangeSpec := { name := "scentMade", fn := fun _ => fun
  | [d1, d2, d3] => { results := [.lit (.bool true)], args := [d1, d2, d3] }
  | _ => none }
def scentMadeRow : OpenClaim := { program := "ytaigbhhmmdfdcaa", sum := "f557fd9b1ed6a08557de925b331e988cb994efb7a3c1b24fc64f2bdd5935b6fd", func := "stearin/stearinlaw07.ScentMade", spec := "scentMade", unfollowed := true, recurses := true, apart := false }
def ScentMadeSaid : Prop := scentMadeRow.holds Try.pinned (OpenSpec.ofChange scentMadeSpec)

/-- ITS FALSE NEIGHBOUR: 'it returns false'. Refute it at one input. -/
def scentMadeWrong : ChangeSpec := { name := "scentMade", fn := fun _ => fun
  | [d1, d2, d3] => { results := [.lit (.bool false)], args := [d1, d2, d3] }
  | _ => none }
def ScentMadeWrongFalsely : Prop := scentMadeRow.holds Try.pinned (OpenSpec.ofChange scentMadeWrong)

/-- 'stearinlaw07.ScentTakes': WHATEVER THE INPUT: true; the input reads as it did. -/
def scentTakesSpec : ChangeSpec := { name := "scentTakes", fn := fun _ => fun
  | [d1, d2, d3] => { results := [.lit (.bool true)], args := [d1, d2, d3] }
  | _ => none }
def scentTakesRow : OpenClaim := { program := "ytaigbhhmmdfdcaa", sum := "f557fd9b1ed6a08557de925b331e988cb994efb7a3c1b24fc64f2bdd5935b6fd", func := "stearin/stearinlaw07.ScentTakes", spec := "scentTakes", unfollowed := true, recurses := true, apart := false }
def ScentTakesSaid : Prop := scentTakesRow.holds Try.pinned (OpenSpec.ofChange scentTakesSpec)

/-- ITS FALSE NEIGHBOUR: 'it returns false'. Refute it at one input. -/
def scentTakesWrong : ChangeSpec := { name := "scentTakes", fn := fun _ => fun
  | [d1, d2, d3] => { results := [.lit (.bool false)], args := [d1, d2, d3] }
  | _ => none }
def ScentTakesWrongFalsely : Prop := scentTakesRow.holds Try.pinned (OpenSpec.ofChange scentTakesWrong)

/-- 'stearinlaw07.ScentKnown': WHATEVER THE INPUT: true; the input reads as it did. -/
def scentKnownSpec : ChangeSpec := { name := "scentKnown", fn := fun _ => fun
  | [] => { results := [.lit (.bool true)], args := [] }
  | _ => none }
def scentKnownRow : OpenClaim := { program := "ytaigbhhmmdfdcaa", sum := "f557fd9b1ed6a08557de925b331e988cb994efb7a3c1b24fc64f2bdd5935b6fd", func := "stearin/stearinlaw07.ScentKnown", spec := "scentKnown", unfollowed := true, recurses := true, apart := false }
def ScentKnownSaid : Prop := scentKnownRow.holds Try.pinned (OpenSpec.ofChange scentKnownSpec)

/-- ITS FALSE NEIGHBOUR: 'it returns false'. Refute it at one input. -/
def scentKnownWrong : ChangeSpec := { name := "scentKnown", fn := fun _ => fun
  | [] => { results := [.lit (.bool false)], args := [] }
  | _ => none }
def ScentKnownWrongFalsely : Prop := scentKnownRow.holds Try.pinned (OpenSpec.ofChange scentKnownWrong)

/-- 'stearinlaw07.ScentTruth': WHATEVER THE INPUT: true; the input reads as it did. -/
def scentTruthSpec : ChangeSpec := { name := "scentTruth", fn := fun _ => fun
  | [d1, d2, d3] => { results := [.lit (.bool true)], args := [d1, d2, d3] }
  | _ => none }
def scentTruthRow : OpenClaim := { program := "ytaigbhhmmdfdcaa", sum := "f557fd9b1ed6a08557de925b331e988cb994efb7a3c1b24fc64f2bdd5935b6fd", func := "stearin/stearinlaw07.ScentTruth", spec := "scentTruth", unfollowed := true, recurses := true, apart := false }
def ScentTruthSaid : Prop := scentTruthRow.holds Try.pinned (OpenSpec.ofChange scentTruthSpec)

/-- ITS FALSE NEIGHBOUR: 'it returns false'. Refute it at one input. -/
def scentTruthWrong : ChangeSpec := { name := "scentTruth", fn := fun _ => fun
  | [d1, d2, d3] => { results := [.lit (.bool false)], args := [d1, d2, d3] }
  | _ => none }
def ScentTruthWrongFalsely : Prop := scentTruthRow.holds Try.pinned (OpenSpec.ofChange scentTruthWrong)

/-- 'stearinlaw07.ScentLimits': WHATEVER THE INPUT: true; the input reads as it did. -/
def scentLimitsSpec : ChangeSpec := { name := "scentLimits", fn := fun _ => fun
  | [d1, d2, d3] => { results := [.lit (.bool true)], args := [d1, d2, d3] }
  | _ => none }
def scentLimitsRow : OpenClaim := { program := "ytaigbhhmmdfdcaa", sum := "f557fd9b1ed6a08557de925b331e988cb994efb7a3c1b24fc64f2bdd5935b6fd", func := "stearin/stearinlaw07.ScentLimits", spec := "scentLimits", unfollowed := true, recurses := true, apart := false }
def ScentLimitsSaid : Prop := scentLimitsRow.holds Try.pinned (OpenSpec.ofChange scentLimitsSpec)

/-- ITS FALSE NEIGHBOUR: 'it returns false'. Refute it at one input. -/
def scentLimitsWrong : ChangeSpec := { name := "scentLimits", fn := fun _ => fun
  | [d1, d2, d3] => { results := [.lit (.bool false)], args := [d1, d2, d3] }
  | _ => none }
def ScentLimitsWrongFalsely : Prop := scentLimitsRow.holds Try.pinned (OpenSpec.ofChange scentLimitsWrong)

/-- 'stearinlaw07.ScentBack': WHATEVER THE INPUT: true; the input reads as it did. -/
def scentBackSpec : ChangeSpec := { name := "scentBack", fn := fun _ => fun
  | [d1, d2, d3] => { results := [.lit (.bool true)], args := [d1, d2, d3] }
  | _ => none }
def scentBackRow : OpenClaim := { program := "ytaigbhhmmdfdcaa", sum := "f557fd9b1ed6a08557de925b331e988cb994efb7a3c1b24fc64f2bdd5935b6fd", func := "stearin/stearinlaw07.ScentBack", spec := "scentBack", unfollowed := true, recurses := true, apart := false }
def ScentBackSaid : Prop := scentBackRow.holds Try.pinned (OpenSpec.ofChange scentBackSpec)

/-- ITS FALSE NEIGHBOUR: 'it returns false'. Refute it at one input. -/
def scentBackWrong : ChangeSpec := { name := "scentBack", fn := fun _ => fun
  | [d1, d2, d3] => { results := [.lit (.bool false)], args := [d1, d2, d3] }
  | _ => none }
def ScentBackWrongFalsely : Prop := scentBackRow.holds Try.pinned (OpenSpec.ofChange scentBackWrong)

/-- 'stearinlaw07.ScentLeft': WHATEVER THE INPUT: true; the input reads as it did. -/
def scentLeftSpec : ChangeSpec := { name := "scentLeft", fn := fun _ => fun
  | [d1, d2] => { results := [.lit (.bool true)], args := [d1, d2] }
  | _ => none }
def scentLeftRow : OpenClaim := { program := "ytaigbhhmmdfdcaa", sum := "f557fd9b1ed6a08557de925b331e988cb994efb7a3c1b24fc64f2bdd5935b6fd", func := "stearin/stearinlaw07.ScentLeft", spec := "scentLeft", unfollowed := true, recurses := true, apart := false }
def ScentLeftSaid : Prop := scentLeftRow.holds Try.pinned (OpenSpec.ofChange scentLeftSpec)

/-- ITS FALSE NEIGHBOUR: 'it returns false'. Refute it at one input. -/
def scentLeftWrong : ChangeSpec := { name := "scentLeft", fn := fun _ => fun
  | [d1, d2] => { results := [.lit (.bool false)], args := [d1, d2] }
  | _ => none }
def ScentLeftWrongFalsely : Prop := scentLeftRow.holds Try.pinned (OpenSpec.ofChange scentLeftWrong)

/-- 'stearinlaw07.ScentAgain': WHATEVER THE INPUT: true; the input reads as it did. -/
def scentAgainSpec : ChangeSpec := { name := "scentAgain", fn := fun _ => fun
  | [d1, d2, d3] => { results := [.lit (.bool true)], args := [d1, d2, d3] }
  | _ => none }
def scentAgainRow : OpenClaim := { program := "ytaigbhhmmdfdcaa", sum := "f557fd9b1ed6a08557de925b331e988cb994efb7a3c1b24fc64f2bdd5935b6fd", func := "stearin/stearinlaw07.ScentAgain", spec := "scentAgain", unfollowed := true, recurses := true, apart := false }
def ScentAgainSaid : Prop := scentAgainRow.holds Try.pinned (OpenSpec.ofChange scentAgainSpec)

/-- ITS FALSE NEIGHBOUR: 'it returns false'. Refute it at one input. -/
def scentAgainWrong : ChangeSpec := { name := "scentAgain", fn := fun _ => fun
  | [d1, d2, d3] => { results := [.lit (.bool false)], args := [d1, d2, d3] }
  | _ => none }
def ScentAgainWrongFalsely : Prop := scentAgainRow.holds Try.pinned (OpenSpec.ofChange scentAgainWrong)

/-- 'stearinlaw07.ScentLight': WHATEVER THE INPUT: true; the input reads as it did. -/
def scentLightSpec : ChangeSpec := { name := "scentLight", fn := fun _ => fun
  | [d1, d2, d3] => { results := [.lit (.bool true)], args := [d1, d2, d3] }
  | _ => none }
def scentLightRow : OpenClaim := { program := "ytaigbhhmmdfdcaa", sum := "f557fd9b1ed6a08557de925b331e988cb994efb7a3c1b24fc64f2bdd5935b6fd", func := "stearin/stearinlaw07.ScentLight", spec := "scentLight", unfollowed := true, recurses := true, apart := false }
def ScentLightSaid : Prop := scentLightRow.holds Try.pinned (OpenSpec.ofChange scentLightSpec)

/-- ITS FALSE NEIGHBOUR: 'it returns false'. Refute it at one input. -/
def scentLightWrong : ChangeSpec := { name := "scentLight", fn := fun _ => fun
  | [d1, d2, d3] => { results := [.lit (.bool false)], args := [d1, d2, d3] }
  | _ => none }
def ScentLightWrongFalsely : Prop := scentLightRow.holds Try.pinned (OpenSpec.ofChange scentLightWrong)

/-- 'stearinlaw07.ScentLess': WHATEVER THE INPUT: true; the input reads as it did. -/
def scentLessSpec : ChangeSpec := { name := "scentLess", fn := fun _ => fun
  | [d1, d2, d3] => { results := [.lit (.bool true)], args := [d1, d2, d3] }
  | _ => none }
def scentLessRow : OpenClaim := { program := "ytaigbhhmmdfdcaa", sum := "f557fd9b1ed6a08557de925b331e988cb994efb7a3c1b24fc64f2bdd5935b6fd", func := "stearin/stearinlaw07.ScentLess", spec := "scentLess", unfollowed := true, recurses := true, apart := false }
def ScentLessSaid : Prop := scentLessRow.holds Try.pinned (OpenSpec.ofChange scentLessSpec)

/-- ITS FALSE NEIGHBOUR: 'it returns false'. Refute it at one input. -/
def scentLessWrong : ChangeSpec := { name := "scentLess", fn := fun _ => fun
  | [d1, d2, d3] => { results := [.lit (.bool false)], args := [d1, d2, d3] }
  | _ => none }
def ScentLessWrongFalsely : Prop := scentLessRow.holds Try.pinned (OpenSpec.ofChange scentLessWrong)

/-- 'stearinlaw07.ScentFirst': WHATEVER THE INPUT: true; the input reads as it did. -/
def scentFirstSpec : ChangeSpec := { name := "scentFirst", fn := fun _ => fun
  | [d1, d2, d3] => { results := [.lit (.bool true)], args := [d1, d2, d3] }
  | _ => none }
def scentFirstRow : OpenClaim := { program := "ytaigbhhmmdfdcaa", sum := "f557fd9b1ed6a08557de925b331e988cb994efb7a3c1b24fc64f2bdd5935b6fd", func := "stearin/stearinlaw07.ScentFirst", spec := "scentFirst", unfollowed := true, recurses := true, apart := false }
def ScentFirstSaid : Prop := scentFirstRow.holds Try.pinned (OpenSpec.ofChange scentFirstSpec)

/-- ITS FALSE NEIGHBOUR: 'it returns false'. Refute it at one input. -/
def scentFirstWrong : ChangeSpec := { name := "scentFirst", fn := fun _ => fun
  | [d1, d2, d3] => { results := [.lit (.bool false)], args := [d1, d2, d3] }
  | _ => none }
def ScentFirstWrongFalsely : Prop := scentFirstRow.holds Try.pinned (OpenSpec.ofChange scentFirstWrong)

/- THE SECOND FORM. 'bulk': how many values and letters a reading holds, each counted each time it is reached (what is shared counts as often as it is met; a slice's spare places count too). A statement '..UptoSaid' is the law's where the arguments, and the package variables that the reading takes, are together of bulk at most 1048576: NARROWER than '..Said'. Prove '..Said' where nothing that the law and all that it calls make is longer than what came in: it says more and counts as full. Else prove '..UptoSaid'. A law counts once. -/
mutual
def uptoBulk {H : Type} : DataW H → Nat
  | .lit (.string bytes) => bytes.length + 1
  | .lit _ => 1
  | .nil => 1
  | .ptr d => uptoBulk d + 1
  | .slice elems spare => uptoBulkAll elems + uptoBulkAll spare + 1
  | .agg parts => uptoBulkAll parts + 1
  | .iface _ d => uptoBulk d + 1
  | .map entries => uptoBulkEntries entries + 1
  | .held _ => 1
def uptoBulkAll {H : Type} : List (DataW H) → Nat
  | [] => 0
  | d :: r => uptoBulk d + uptoBulkAll r
def uptoBulkEntries {H : Type} : List (Lit × DataW H) → Nat
  | [] => 0
  | x :: r => uptoBulkEntry x + uptoBulkEntries r
def uptoBulkEntry {H : Type} : Lit × DataW H → Nat
  | (.string bytes, d) => bytes.length + uptoBulk d + 1
  | (_, d) => uptoBulk d + 1
 end
def uptoSmall : (H : Type) → List (DataW H) → Bool := fun _ ds => decide (uptoBulkAll ds ≤ 1048576)
def OpenSpec.upto (s : _root_.Go.ChangeSpec) : _root_.Go.OpenSpec := { _root_.Go.OpenSpec.ofChange s with cond := some uptoSmall }

/-- 'stearinlaw07.ScentChecks', WHERE WHAT IT READS IS OF BULK AT MOST 1048576: true; the input reads as it did. -/
def scentChecksUptoRow : OpenClaim := { program := "ytaigbhhmmdfdcaa", sum := "f557fd9b1ed6a08557de925b331e988cb994efb7a3c1b24fc64f2bdd5935b6fd", func := "stearin/stearinlaw07.ScentChecks", spec := "scentChecks", unfollowed := true, recurses := true, apart := false, narrowed := true }
def ScentChecksUptoSaid : Prop := scentChecksUptoRow.holds Try.pinned (OpenSpec.upto scentChecksSpec)

/-- 'stearinlaw07.ScentContents', WHERE WHAT IT READS IS OF BULK AT MOST 1048576: true; the input reads as it did. -/
def scentContentsUptoRow : OpenClaim := { program := "ytaigbhhmmdfdcaa", sum := "f557fd9b1ed6a08557de925b331e988cb994efb7a3c1b24fc64f2bdd5935b6fd", func := "stearin/stearinlaw07.ScentContents", spec := "scentContents", unfollowed := true, recurses := true, apart := false, narrowed := true }
def ScentContentsUptoSaid : Prop := scentContentsUptoRow.holds Try.pinned (OpenSpec.upto scentContentsSpec)

/-- 'stearinlaw07.ScentMade', WHERE WHAT IT READS IS OF BULK AT MOST 1048576: true; the input reads as it did. -/
def scentMadeUptoRow : OpenClaim := { program := "ytaigbhhmmdfdcaa", sum := "f557fd9b1ed6a08557de925b331e988cb994efb7a3c1b24fc64f2bdd5935b6fd", func := "stearin/stearinlaw07.ScentMade", spec := "scentMade", unfollowed := true, recurses := true, apart := false, narrowed := true }
def ScentMadeUptoSaid : Prop := scentMadeUptoRow.holds Try.pinned (OpenSpec.upto scentMadeSpec)

/-- 'stearinlaw07.ScentTakes', WHERE WHAT IT READS IS OF BULK AT MOST 1048576: true; the input reads as it did. -/
def scentTakesUptoRow : OpenClaim := { program := "ytaigbhhmmdfdcaa", sum := "f557fd9b1ed6a08557de925b331e988cb994efb7a3c1b24fc64f2bdd5935b6fd", func := "stearin/stearinlaw07.ScentTakes", spec := "scentTakes", unfollowed := true, recurses := true, apart := false, narrowed := true }
def ScentTakesUptoSaid : Prop := scentTakesUptoRow.holds Try.pinned (OpenSpec.upto scentTakesSpec)

/-- 'stearinlaw07.ScentKnown', WHERE WHAT IT READS IS OF BULK AT MOST 1048576: true; the input reads as it did. -/
def scentKnownUptoRow : OpenClaim := { program := "ytaigbhhmmdfdcaa", sum := "f557fd9b1ed6a08557de925b331e988cb994efb7a3c1b24fc64f2bdd5935b6fd", func := "stearin/stearinlaw07.ScentKnown", spec := "scentKnown", unfollowed := true, recurses := true, apart := false, narrowed := true }
def ScentKnownUptoSaid : Prop := scentKnownUptoRow.holds Try.pinned (OpenSpec.upto scentKnownSpec)

/-- 'stearinlaw07.ScentTruth', WHERE WHAT IT READS IS OF BULK AT MOST 1048576: true; the input reads as it did. -/
def scentTruthUptoRow : OpenClaim := { program := "ytaigbhhmmdfdcaa", sum := "f557fd9b1ed6a08557de925b331e988cb994efb7a3c1b24fc64f2bdd5935b6fd", func := "stearin/stearinlaw07.ScentTruth", spec := "scentTruth", unfollowed := true, recurses := true, apart := false, narrowed := true }
def ScentTruthUptoSaid : Prop := scentTruthUptoRow.holds Try.pinned (OpenSpec.upto scentTruthSpec)

/-- 'stearinlaw07.ScentLimits', WHERE WHAT IT READS IS OF BULK AT MOST 1048576: true; the input reads as it did. -/
def scentLimitsUptoRow : OpenClaim := { program := "ytaigbhhmmdfdcaa", sum := "f557fd9b1ed6a08557de925b331e988cb994efb7a3c1b24fc64f2bdd5935b6fd", func := "stearin/stearinlaw07.ScentLimits", spec := "scentLimits", unfollowed := true, recurses := true, apart := false, narrowed := true }
def ScentLimitsUptoSaid : Prop := scentLimitsUptoRow.holds Try.pinned (OpenSpec.upto scentLimitsSpec)

/-- 'stearinlaw07.ScentBack', WHERE WHAT IT READS IS OF BULK AT MOST 1048576: true; the input reads as it did. -/
def scentBackUptoRow : OpenClaim := { program := "ytaigbhhmmdfdcaa", sum := "f557fd9b1ed6a08557de925b331e988cb994efb7a3c1b24fc64f2bdd5935b6fd", func := "stearin/stearinlaw07.ScentBack", spec := "scentBack", unfollowed := true, recurses := true, apart := false, narrowed := true }
def ScentBackUptoSaid : Prop := scentBackUptoRow.holds Try.pinned (OpenSpec.upto scentBackSpec)

/-- 'stearinlaw07.ScentLeft', WHERE WHAT IT READS IS OF BULK AT MOST 1048576: true; the input reads as it did. -/
def scentLeftUptoRow : OpenClaim := { program := "ytaigbhhmmdfdcaa", sum := "f557fd9b1ed6a08557de925b331e988cb994efb7a3c1b24fc64f2bdd5935b6fd", func := "stearin/stearinlaw07.ScentLeft", spec := "scentLeft", unfollowed := true, recurses := true, apart := false, narrowed := true }
def ScentLeftUptoSaid : Prop := scentLeftUptoRow.holds Try.pinned (OpenSpec.upto scentLeftSpec)

/-- 'stearinlaw07.ScentAgain', WHERE WHAT IT READS IS OF BULK AT MOST 1048576: true; the input reads as it did. -/
def scentAgainUptoRow : OpenClaim := { program := "ytaigbhhmmdfdcaa", sum := "f557fd9b1ed6a08557de925b331e988cb994efb7a3c1b24fc64f2bdd5935b6fd", func := "stearin/stearinlaw07.ScentAgain", spec := "scentAgain", unfollowed := true, recurses := true, apart := false, narrowed := true }
def ScentAgainUptoSaid : Prop := scentAgainUptoRow.holds Try.pinned (OpenSpec.upto scentAgainSpec)

/-- 'stearinlaw07.ScentLight', WHERE WHAT IT READS IS OF BULK AT MOST 1048576: true; the input reads as it did. -/
def scentLightUptoRow : OpenClaim := { program := "ytaigbhhmmdfdcaa", sum := "f557fd9b1ed6a08557de925b331e988cb994efb7a3c1b24fc64f2bdd5935b6fd", func := "stearin/stearinlaw07.ScentLight", spec := "scentLight", unfollowed := true, recurses := true, apart := false, narrowed := true }
def ScentLightUptoSaid : Prop := scentLightUptoRow.holds Try.pinned (OpenSpec.upto scentLightSpec)

/-- 'stearinlaw07.ScentLess', WHERE WHAT IT READS IS OF BULK AT MOST 1048576: true; the input reads as it did. -/
def scentLessUptoRow : OpenClaim := { program := "ytaigbhhmmdfdcaa", sum := "f557fd9b1ed6a08557de925b331e988cb994efb7a3c1b24fc64f2bdd5935b6fd", func := "stearin/stearinlaw07.ScentLess", spec := "scentLess", unfollowed := true, recurses := true, apart := false, narrowed := true }
def ScentLessUptoSaid : Prop := scentLessUptoRow.holds Try.pinned (OpenSpec.upto scentLessSpec)

/-- 'stearinlaw07.ScentFirst', WHERE WHAT IT READS IS OF BULK AT MOST 1048576: true; the input reads as it did. -/
def scentFirstUptoRow : OpenClaim := { program := "ytaigbhhmmdfdcaa", sum := "f557fd9b1ed6a08557de925b331e988cb994efb7a3c1b24fc64f2bdd5935b6fd", func := "stearin/stearinlaw07.ScentFirst", spec := "scentFirst", unfollowed := true, recurses := true, apart := false, narrowed := true }
def ScentFirstUptoSaid : Prop := scentFirstUptoRow.holds Try.pinned (OpenSpec.upto scentFirstSpec)

end Rows
end Go.Proofs.Ytaigbhhmmdfdcaa
