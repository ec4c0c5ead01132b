/-
  No cell of these rows narrows 'for every input' (looked for: loops, veiled, ifaces, maps, wideKeys, modest, calm, conditions, laid).
  DERIVED. THE GIVEN ROWS OF THIS SEAT. 15 by the template 'for every input the law returns true; each argument reads behind the call as it read before'; 0 by the template 'total and deterministic' (their statements: YtafdagjdpnaddaaTotals.lean).
  GIVEN WITH THE SEED: the statements are not yours to turn. If you find one false, say at which input.
  Laid BY PROGRAM, IN A SANDBOX (cutbox-rows.mjs): the forced cells as the released guide's own fill.sh prints them over the translation 129a1bb6ee0718a3… (all of the seat's roots in one cut). By AI agents, Wed Nov 11 2026. No macro, syntax, notation, axiom, sorry.
-/
import Derived.Test.YtafdagjdpnaddaaChecked
import GoSem.Claim
import GoSem.ClaimJoined
import GoSem.ClaimMapViews
import Derived.JoinedTies
import Derived.KernelRfl
namespace Go.Proofs.Ytafdagjdpnaddaa
/- THE CELL 'sum', in the pinned program and in every row, IS THE sha256 OF THE DUMP (.gsa) THAT YtafdagjdpnaddaaProg.lean LOADS. Nothing in Lean hashes anything: it is a label: what it is worth is what the hold of that sum in a sandbox is worth. -/
noncomputable def Try.pinned : Pinned := { name := "ytafdagjdpnaddaa", sum := "129a1bb6ee0718a342654bf1b7601dde98fbdf71200802e5915d057292693a4e", checked := Try.checked }
namespace Rows
def none {H : Type} : Left H := { results := [], args := [] }

/-- 'stearinlaw05.MouldCools': WHATEVER THE INPUT: true; the input reads as it did. -/
def mouldCoolsSpec : ChangeSpec := { name := "mouldCools", fn := fun _ => fun
  | [d1, d2, d3] => { results := [.lit (.bool true)], args := [d1, d2, d3] }
  | _ => none }
def mouldCoolsRow : OpenClaim := { program := "ytafdagjdpnaddaa", sum := "129a1bb6ee0718a342654bf1b7601dde98fbdf71200802e5915d057292693a4e", func := "stearin/stearinlaw05.MouldCools", spec := "mouldCools", unfollowed := true, recurses := true, apart := false }
def MouldCoolsSaid : Prop := mouldCoolsRow.holds Try.pinned (OpenSpec.ofChange mouldCoolsSpec)

/-- ITS FALSE NEIGHBOUR: 'it returns false'. Refute it at one input. -/
def mouldCoolsWrong : ChangeSpec := { name := "mouldCools", fn := fun _ => fun
  | [d1, d2, d3] => { results := [.lit (.bool false)], args := [d1, d2, d3] }
  | _ => none }
def MouldCoolsWrongFalsely : Prop := mouldCoolsRow.holds Try.pinned (OpenSpec.ofChange mouldCoolsWrong)

/-- 'stearinlaw05.MouldSets': WHATEVER THE INPUT: true; the input reads as it did. -/
def mouldSetsSpec : ChangeSpec := { name := "mouldSets", fn := fun _ => fun
  | [d1, d2] => { results := [.lit (.bool true)], args := [d1, d2] }
  | _ => none }
def mouldSetsRow : OpenClaim := { program := "ytafdagjdpnaddaa", sum := "129a1bb6ee0718a342654bf1b7601dde98fbdf71200802e5915d057292693a4e", func := "stearin/stearinlaw05.MouldSets", spec := "mouldSets", unfollowed := true, recurses := true, apart := false }
def MouldSetsSaid : Prop := mouldSetsRow.holds Try.pinned (OpenSpec.ofChange mouldSetsSpec)

/-- ITS FALSE NEIGHBOUR: 'it returns false'. Refute it at one input. -/
def mouldSetsWrong : ChangeSpec := { name := "mouldSets", fn := fun _ => fun
  | [d1, d2] => { results := [.lit (.bool false)], args := [d1, d2] }
  | _ => none }
def MouldSetsWrongFalsely : Prop := mouldSetsRow.holds Try.pinned (OpenSpec.ofChange mouldSetsWrong)

/-- 'stearinlaw05.MouldHollows': WHATEVER THE INPUT: true; the input reads as it did. -/
def mouldHollowsSpec : ChangeSpec := { name := "mouldHollows", fn := fun _ => fun
  | [d1, d2] => { results := [.lit (.bool true)], args := [d1, d2] }
  | _ => none }
def mouldHollowsRow : OpenClaim := { program := "ytafdagjdpnaddaa", sum := "129a1bb6ee0718a342654bf1b7601dde98fbdf71200802e5915d057292693a4e", func := "stearin/stearinlaw05.MouldHollows", spec := "mouldHollows", unfollowed := true, recurses := true, apart := false }
def MouldHollowsSaid : Prop := mouldHollowsRow.holds Try.pinned (OpenSpec.ofChange mouldHollowsSpec)

/-- ITS FALSE NEIGHBOUR: 'it returns false'. Refute it at one input. -/
def mouldHollowsWrong : ChangeSpec := { name := "mouldHollows", fn := fun _ => fun
  | [d1, d2] => { results := [.lit (.bool false)], args := [d1, d2] }
  | _ => none }
def MouldHollowsWrongFalsely : Prop := mouldHollowsRow.holds Try.pinned (OpenSpec.ofChange mouldHollowsWrong)

/-- 'stearinlaw05.MouldKnown': WHATEVER THE INPUT: true; the input reads as it did. -/
def mouldKnownSpec : ChangeSpec := { name := "mouldKnown", fn := fun _ => fun
  | [] => { results := [.lit (.bool true)], args := [] }
  | _ => none }
def mouldKnownRow : OpenClaim := { program := "ytafdagjdpnaddaa", sum := "129a1bb6ee0718a342654bf1b7601dde98fbdf71200802e5915d057292693a4e", func := "stearin/stearinlaw05.MouldKnown", spec := "mouldKnown", unfollowed := true, recurses := true, apart := false }
def MouldKnownSaid : Prop := mouldKnownRow.holds Try.pinned (OpenSpec.ofChange mouldKnownSpec)

/-- ITS FALSE NEIGHBOUR: 'it returns false'. Refute it at one input. -/
def mouldKnownWrong : ChangeSpec := { name := "mouldKnown", fn := fun _ => fun
  | [] => { results := [.lit (.bool false)], args := [] }
  | _ => none }
def MouldKnownWrongFalsely : Prop := mouldKnownRow.holds Try.pinned (OpenSpec.ofChange mouldKnownWrong)

/-- 'stearinlaw05.MouldTrue': WHATEVER THE INPUT: true; the input reads as it did. -/
def mouldTrueSpec : ChangeSpec := { name := "mouldTrue", fn := fun _ => fun
  | [d1, d2, d3] => { results := [.lit (.bool true)], args := [d1, d2, d3] }
  | _ => none }
def mouldTrueRow : OpenClaim := { program := "ytafdagjdpnaddaa", sum := "129a1bb6ee0718a342654bf1b7601dde98fbdf71200802e5915d057292693a4e", func := "stearin/stearinlaw05.MouldTrue", spec := "mouldTrue", unfollowed := true, recurses := true, apart := false }
def MouldTrueSaid : Prop := mouldTrueRow.holds Try.pinned (OpenSpec.ofChange mouldTrueSpec)

/-- ITS FALSE NEIGHBOUR: 'it returns false'. Refute it at one input. -/
def mouldTrueWrong : ChangeSpec := { name := "mouldTrue", fn := fun _ => fun
  | [d1, d2, d3] => { results := [.lit (.bool false)], args := [d1, d2, d3] }
  | _ => none }
def MouldTrueWrongFalsely : Prop := mouldTrueRow.holds Try.pinned (OpenSpec.ofChange mouldTrueWrong)

/-- 'stearinlaw05.MouldReached': WHATEVER THE INPUT: true; the input reads as it did. -/
def mouldReachedSpec : ChangeSpec := { name := "mouldReached", fn := fun _ => fun
  | [d1, d2] => { results := [.lit (.bool true)], args := [d1, d2] }
  | _ => none }
def mouldReachedRow : OpenClaim := { program := "ytafdagjdpnaddaa", sum := "129a1bb6ee0718a342654bf1b7601dde98fbdf71200802e5915d057292693a4e", func := "stearin/stearinlaw05.MouldReached", spec := "mouldReached", unfollowed := true, recurses := true, apart := false }
def MouldReachedSaid : Prop := mouldReachedRow.holds Try.pinned (OpenSpec.ofChange mouldReachedSpec)

/-- ITS FALSE NEIGHBOUR: 'it returns false'. Refute it at one input. -/
def mouldReachedWrong : ChangeSpec := { name := "mouldReached", fn := fun _ => fun
  | [d1, d2] => { results := [.lit (.bool false)], args := [d1, d2] }
  | _ => none }
def MouldReachedWrongFalsely : Prop := mouldReachedRow.holds Try.pinned (OpenSpec.ofChange mouldReachedWrong)

/-- 'stearinlaw05.MouldEnd': WHATEVER THE INPUT: true; the input reads as it did. -/
def mouldEndSpec : ChangeSpec := { name := "mouldEnd", fn := fun _ => fun
  | [d1, d2, d3] => { results := [.lit (.bool true)], args := [d1, d2, d3] }
  | _ => none }
def mouldEndRow : OpenClaim := { program := "ytafdagjdpnaddaa", sum := "129a1bb6ee0718a342654bf1b7601dde98fbdf71200802e5915d057292693a4e", func := "stearin/stearinlaw05.MouldEnd", spec := "mouldEnd", unfollowed := true, recurses := true, apart := false }
def MouldEndSaid : Prop := mouldEndRow.holds Try.pinned (OpenSpec.ofChange mouldEndSpec)

/-- ITS FALSE NEIGHBOUR: 'it returns false'. Refute it at one input. -/
def mouldEndWrong : ChangeSpec := { name := "mouldEnd", fn := fun _ => fun
  | [d1, d2, d3] => { results := [.lit (.bool false)], args := [d1, d2, d3] }
  | _ => none }
def MouldEndWrongFalsely : Prop := mouldEndRow.holds Try.pinned (OpenSpec.ofChange mouldEndWrong)

/-- 'stearinlaw05.MouldEnds': WHATEVER THE INPUT: true; the input reads as it did. -/
def mouldEndsSpec : ChangeSpec := { name := "mouldEnds", fn := fun _ => fun
  | [d1, d2] => { results := [.lit (.bool true)], args := [d1, d2] }
  | _ => none }
def mouldEndsRow : OpenClaim := { program := "ytafdagjdpnaddaa", sum := "129a1bb6ee0718a342654bf1b7601dde98fbdf71200802e5915d057292693a4e", func := "stearin/stearinlaw05.MouldEnds", spec := "mouldEnds", unfollowed := true, recurses := true, apart := false }
def MouldEndsSaid : Prop := mouldEndsRow.holds Try.pinned (OpenSpec.ofChange mouldEndsSpec)

/-- ITS FALSE NEIGHBOUR: 'it returns false'. Refute it at one input. -/
def mouldEndsWrong : ChangeSpec := { name := "mouldEnds", fn := fun _ => fun
  | [d1, d2] => { results := [.lit (.bool false)], args := [d1, d2] }
  | _ => none }
def MouldEndsWrongFalsely : Prop := mouldEndsRow.holds Try.pinned (OpenSpec.ofChange mouldEndsWrong)

/-- 'stearinlaw05.MouldSound': WHATEVER THE INPUT: true; the input reads as it did. -/
def mouldSoundSpec : ChangeSpec := { name := "mouldSound", fn := fun _ => fun
  | [d1, d2] => { results := [.lit (.bool true)], args := [d1, d2] }
  | _ => none }
def mouldSoundRow : OpenClaim := { program := "ytafdagjdpnaddaa", sum := "129a1bb6ee0718a342654bf1b7601dde98fbdf71200802e5915d057292693a4e", func := "stearin/stearinlaw05.MouldSound", spec := "mouldSound", unfollowed := true, recurses := true, apart := false }
def MouldSoundSaid : Prop := mouldSoundRow.holds Try.pinned (OpenSpec.ofChange mouldSoundSpec)

/-- ITS FALSE NEIGHBOUR: 'it returns false'. Refute it at one input. -/
def mouldSoundWrong : ChangeSpec := { name := "mouldSound", fn := fun _ => fun
  | [d1, d2] => { results := [.lit (.bool false)], args := [d1, d2] }
  | _ => none }
def MouldSoundWrongFalsely : Prop := mouldSoundRow.holds Try.pinned (OpenSpec.ofChange mouldSoundWrong)

/-- 'stearinlaw05.MouldFewest': WHATEVER THE INPUT: true; the input reads as it did. -/
def mouldFewestSpec : ChangeSpec := { name := "mouldFewest", fn := fun _ => fun
  | [d1, d2] => { results := [.lit (.bool true)], args := [d1, d2] }
  | _ => none }
def mouldFewestRow : OpenClaim := { program := "ytafdagjdpnaddaa", sum := "129a1bb6ee0718a342654bf1b7601dde98fbdf71200802e5915d057292693a4e", func := "stearin/stearinlaw05.MouldFewest", spec := "mouldFewest", unfollowed := true, recurses := true, apart := false }
def MouldFewestSaid : Prop := mouldFewestRow.holds Try.pinned (OpenSpec.ofChange mouldFewestSpec)

/-- ITS FALSE NEIGHBOUR: 'it returns false'. Refute it at one input. -/
def mouldFewestWrong : ChangeSpec := { name := "mouldFewest", fn := fun _ => fun
  | [d1, d2] => { results := [.lit (.bool false)], args := [d1, d2] }
  | _ => none }
def MouldFewestWrongFalsely : Prop := mouldFewestRow.holds Try.pinned (OpenSpec.ofChange mouldFewestWrong)

/-- 'stearinlaw05.MouldWarmer': WHATEVER THE INPUT: true; the input reads as it did. -/
def mouldWarmerSpec : ChangeSpec := { name := "mouldWarmer", fn := fun _ => fun
  | [d1, d2, d3] => { results := [.lit (.bool true)], args := [d1, d2, d3] }
  | _ => none }
def mouldWarmerRow : OpenClaim := { program := "ytafdagjdpnaddaa", sum := "129a1bb6ee0718a342654bf1b7601dde98fbdf71200802e5915d057292693a4e", func := "stearin/stearinlaw05.MouldWarmer", spec := "mouldWarmer", unfollowed := true, recurses := true, apart := false }
def MouldWarmerSaid : Prop := mouldWarmerRow.holds Try.pinned (OpenSpec.ofChange mouldWarmerSpec)

/-- ITS FALSE NEIGHBOUR: 'it returns false'. Refute it at one input. -/
def mouldWarmerWrong : ChangeSpec := { name := "mouldWarmer", fn := fun _ => fun
  | [d1, d2, d3] => { results := [.lit (.bool false)], args := [d1, d2, d3] }
  | _ => none }
def MouldWarmerWrongFalsely : Prop := mouldWarmerRow.holds Try.pinned (OpenSpec.ofChange mouldWarmerWrong)

/-- 'stearinlaw05.MouldEven': WHATEVER THE INPUT: true; the input reads as it did. -/
def mouldEvenSpec : ChangeSpec := { name := "mouldEven", fn := fun _ => fun
  | [d1, d2, d3] => { results := [.lit (.bool true)], args := [d1, d2, d3] }
  | _ => none }
def mouldEvenRow : OpenClaim := { program := "ytafdagjdpnaddaa", sum := "129a1bb6ee0718a342654bf1b7601dde98fbdf71200802e5915d057292693a4e", func := "stearin/stearinlaw05.MouldEven", spec := "mouldEven", unfollowed := true, recurses := true, apart := false }
def MouldEvenSaid : Prop := mouldEvenRow.holds Try.pinned (OpenSpec.ofChange mouldEvenSpec)

/-- ITS FALSE NEIGHBOUR: 'it returns false'. Refute it at one input. -/
def mouldEvenWrong : ChangeSpec := { name := "mouldEven", fn := fun _ => fun
  | [d1, d2, d3] => { results := [.lit (.bool false)], args := [d1, d2, d3] }
  | _ => none }
def MouldEvenWrongFalsely : Prop := mouldEvenRow.holds Try.pinned (OpenSpec.ofChange mouldEvenWrong)

/-- 'stearinlaw05.MouldMore': WHATEVER THE INPUT: true; the input reads as it did. -/
def mouldMoreSpec : ChangeSpec := { name := "mouldMore", fn := fun _ => fun
  | [d1, d2, d3] => { results := [.lit (.bool true)], args := [d1, d2, d3] }
  | _ => none }
def mouldMoreRow : OpenClaim := { program := "ytafdagjdpnaddaa", sum := "129a1bb6ee0718a342654bf1b7601dde98fbdf71200802e5915d057292693a4e", func := "stearin/stearinlaw05.MouldMore", spec := "mouldMore", unfollowed := true, recurses := true, apart := false }
def MouldMoreSaid : Prop := mouldMoreRow.holds Try.pinned (OpenSpec.ofChange mouldMoreSpec)

/-- ITS FALSE NEIGHBOUR: 'it returns false'. Refute it at one input. -/
def mouldMoreWrong : ChangeSpec := { name := "mouldMore", fn := fun _ => fun
  | [d1, d2, d3] => { results := [.lit (.bool false)], args := [d1, d2, d3] }
  | _ => none }
def MouldMoreWrongFalsely : Prop := mouldMoreRow.holds Try.pinned (OpenSpec.ofChange mouldMoreWrong)

/-- 'stearinlaw05.MouldWider': WHATEVER THE INPUT: true; the input reads as it did. -/
def mouldWiderSpec : ChangeSpec := { name := "mouldWider", fn := fun _ => fun
  | [d1, d2, d3] => { results := [.lit (.bool true)], args := [d1, d2, d3] }
  | _ => none }
def mouldWiderRow : OpenClaim := { program := "ytafdagjdpnaddaa", sum := "129a1bb6ee0718a342654bf1b7601dde98fbdf71200802e5915d057292693a4e", func := "stearin/stearinlaw05.MouldWider", spec := "mouldWider", unfollowed := true, recurses := true, apart := false }
def MouldWiderSaid : Prop := mouldWiderRow.holds Try.pinned (OpenSpec.ofChange mouldWiderSpec)

/-- ITS FALSE NEIGHBOUR: 'it returns false'. Refute it at one input. -/
def mouldWiderWrong : ChangeSpec := { name := "mouldWider", fn := fun _ => fun
  | [d1, d2, d3] => { results := [.lit (.bool false)], args := [d1, d2, d3] }
  | _ => none }
def MouldWiderWrongFalsely : Prop := mouldWiderRow.holds Try.pinned (OpenSpec.ofChange mouldWiderWrong)

/-- 'stearinlaw05.MouldSkin': WHATEVER THE INPUT: true; the input reads as it did. -/
def mouldSkinSpec : ChangeSpec := { name := "mouldSkin", fn := fun _ => fun
  | [d1, d2] => { results := [.lit (.bool true)], args := [d1, d2] }
  | _ => none }
def mouldSkinRow : OpenClaim := { program := "ytafdagjdpnaddaa", sum := "129a1bb6ee0718a342654bf1b7601dde98fbdf71200802e5915d057292693a4e", func := "stearin/stearinlaw05.MouldSkin", spec := "mouldSkin", unfollowed := true, recurses := true, apart := false }
def MouldSkinSaid : Prop := mouldSkinRow.holds Try.pinned (OpenSpec.ofChange mouldSkinSpec)

/-- ITS FALSE NEIGHBOUR: 'it returns false'. Refute it at one input. -/
def mouldSkinWrong : ChangeSpec := { name := "mouldSkin", fn := fun _ => fun
  | [d1, d2] => { results := [.lit (.bool false)], args := [d1, d2] }
  | _ => none }
def MouldSkinWrongFalsely : Prop := mouldSkinRow.holds Try.pinned (OpenSpec.ofChange mouldSkinWrong)

/- THE SECOND FORM. 'bulk': how many values and letters a reading holds, each counted each time it is reached (what is shared counts as often as it is met; a slice's spare places count too). A statement '..UptoSaid' is the law's where the arguments, and the package variables that the reading takes, are together of bulk at most 1048576: NARROWER than '..Said'. Prove '..Said' where nothing that the law and all that it calls make is longer than what came in: it says more and counts as full. Else prove '..UptoSaid'. A law counts once. -/
mutual
def uptoBulk {H : Type} : DataW H → Nat
  | .lit (.string bytes) => bytes.length + 1
  | .lit _ => 1
  | .nil => 1
  | .ptr d => uptoBulk d + 1
  | .slice elems spare => uptoBulkAll elems + uptoBulkAll spare + 1
  | .agg parts => uptoBulkAll parts + 1
  | .iface _ d => uptoBulk d + 1
  | .map entries => uptoBulkEntries entries + 1
  | .held _ => 1
def uptoBulkAll {H : Type} : List (DataW H) → Nat
  | [] => 0
  | d :: r => uptoBulk d + uptoBulkAll r
def uptoBulkEntries {H : Type} : List (Lit × DataW H) → Nat
  | [] => 0
  | x :: r => uptoBulkEntry x + uptoBulkEntries r
def uptoBulkEntry {H : Type} : Lit × DataW H → Nat
  | (.string bytes, d) => bytes.length + uptoBulk d + 1
  | (_, d) => uptoBulk d + 1
 end
def uptoSmall : (H : Type) → List (DataW H) → Bool := fun _ ds => decide (uptoBulkAll ds ≤ 1048576)
def OpenSpec.upto (s : _root_.Go.ChangeSpec) : _root_.Go.OpenSpec := { _root_.Go.OpenSpec.ofChange s with cond := some uptoSmall }

/-- 'stearinlaw05.MouldCools', WHERE WHAT IT READS IS OF BULK AT MOST 1048576: true; the input reads as it did. -/
def mouldCoolsUptoRow : OpenClaim := { program := "ytafdagjdpnaddaa", sum := "129a1bb6ee0718a342654bf1b7601dde98fbdf71200802e5915d057292693a4e", func := "stearin/stearinlaw05.MouldCools", spec := "mouldCools", unfollowed := true, recurses := true, apart := false, narrowed := true }
def MouldCoolsUptoSaid : Prop := mouldCoolsUptoRow.holds Try.pinned (OpenSpec.upto mouldCoolsSpec)

/-- 'stearinlaw05.MouldSets', WHERE WHAT IT READS IS OF BULK AT MOST 1048576: true; the input reads as it did. -/
def mouldSetsUptoRow : OpenClaim := { program := "ytafdagjdpnaddaa", sum := "129a1bb6ee0718a342654bf1b7601dde98fbdf71200802e5915d057292693a4e", func := "stearin/stearinlaw05.MouldSets", spec := "mouldSets", unfollowed := true, recurses := true, apart := false, narrowed := true }
def MouldSetsUptoSaid : Prop := mouldSetsUptoRow.holds Try.pinned (OpenSpec.upto mouldSetsSpec)

/-- 'stearinlaw05.MouldHollows', WHERE WHAT IT READS IS OF BULK AT MOST 1048576: true; the input reads as it did. -/
def mouldHollowsUptoRow : OpenClaim := { program := "ytafdagjdpnaddaa", sum := "129a1bb6ee0718a342654bf1b7601dde98fbdf71200802e5915d057292693a4e", func := "stearin/stearinlaw05.MouldHollows", spec := "mouldHollows", unfollowed := true, recurses := true, apart := false, narrowed := true }
def MouldHollowsUptoSaid : Prop := mouldHollowsUptoRow.holds Try.pinned (OpenSpec.upto mouldHollowsSpec)

/-- 'stearinlaw05.MouldKnown', WHERE WHAT IT READS IS OF BULK AT MOST 1048576: true; the input reads as it did. -/
def mouldKnownUptoRow : OpenClaim := { program := "ytafdagjdpnaddaa", sum := "129a1bb6ee0718a342654bf1b7601dde98fbdf71200802e5915d057292693a4e", func := "stearin/stearinlaw05.MouldKnown", spec := "mouldKnown", unfollowed := true, recurses := true, apart := false, narrowed := true }
def MouldKnownUptoSaid : Prop := mouldKnownUptoRow.holds Try.pinned (OpenSpec.upto mouldKnownSpec)

/-- 'stearinlaw05.MouldTrue', WHERE WHAT IT READS IS OF BULK AT MOST 1048576: true; the input reads as it did. -/
def mouldTrueUptoRow : OpenClaim := { program := "ytafdagjdpnaddaa", sum := "129a1bb6ee0718a342654bf1b7601dde98fbdf71200802e5915d057292693a4e", func := "stearin/stearinlaw05.MouldTrue", spec := "mouldTrue", unfollowed := true, recurses := true, apart := false, narrowed := true }
def MouldTrueUptoSaid : Prop := mouldTrueUptoRow.holds Try.pinned (OpenSpec.upto mouldTrueSpec)

/-- 'stearinlaw05.MouldReached', WHERE WHAT IT READS IS OF BULK AT MOST 1048576: true; the input reads as it did. -/
def mouldReachedUptoRow : OpenClaim := { program := "ytafdagjdpnaddaa", sum := "129a1bb6ee0718a342654bf1b7601dde98fbdf71200802e5915d057292693a4e", func := "stearin/stearinlaw05.MouldReached", spec := "mouldReached", unfollowed := true, recurses := true, apart := false, narrowed := true }
def MouldReachedUptoSaid : Prop := mouldReachedUptoRow.holds Try.pinned (OpenSpec.upto mouldReachedSpec)

/-- 'stearinlaw05.MouldEnd', WHERE WHAT IT READS IS OF BULK AT MOST 1048576: true; the input reads as it did. -/
def mouldEndUptoRow : OpenClaim := { program := "ytafdagjdpnaddaa", sum := "129a1bb6ee0718a342654bf1b7601dde98fbdf71200802e5915d057292693a4e", func := "stearin/stearinlaw05.MouldEnd", spec := "mouldEnd", unfollowed := true, recurses := true, apart := false, narrowed := true }
def MouldEndUptoSaid : Prop := mouldEndUptoRow.holds Try.pinned (OpenSpec.upto mouldEndSpec)

/-- 'stearinlaw05.MouldEnds', WHERE WHAT IT READS IS OF BULK AT MOST 1048576: true; the input reads as it did. -/
def mouldEndsUptoRow : OpenClaim := { program := "ytafdagjdpnaddaa", sum := "129a1bb6ee0718a342654bf1b7601dde98fbdf71200802e5915d057292693a4e", func := "stearin/stearinlaw05.MouldEnds", spec := "mouldEnds", unfollowed := true, recurses := true, apart := false, narrowed := true }
def MouldEndsUptoSaid : Prop := mouldEndsUptoRow.holds Try.pinned (OpenSpec.upto mouldEndsSpec)

/-- 'stearinlaw05.MouldSound', WHERE WHAT IT READS IS OF BULK AT MOST 1048576: true; the input reads as it did. -/
def mouldSoundUptoRow : OpenClaim := { program := "ytafdagjdpnaddaa", sum := "129a1bb6ee0718a342654bf1b7601dde98fbdf71200802e5915d057292693a4e", func := "stearin/stearinlaw05.MouldSound", spec := "mouldSound", unfollowed := true, recurses := true, apart := false, narrowed := true }
def MouldSoundUptoSaid : Prop := mouldSoundUptoRow.holds Try.pinned (OpenSpec.upto mouldSoundSpec)

/-- 'stearinlaw05.MouldFewest', WHERE WHAT IT READS IS OF BULK AT MOST 1048576: true; the input reads as it did. -/
def mouldFewestUptoRow : OpenClaim := { program := "ytafdagjdpnaddaa", sum := "129a1bb6ee0718a342654bf1b7601dde98fbdf71200802e5915d057292693a4e", func := "stearin/stearinlaw05.MouldFewest", spec := "mouldFewest", unfollowed := true, recurses := true, apart := false, narrowed := true }
def MouldFewestUptoSaid : Prop := mouldFewestUptoRow.holds Try.pinned (OpenSpec.upto mouldFewestSpec)

/-- 'stearinlaw05.MouldWarmer', WHERE WHAT IT READS IS OF BULK AT MOST 1048576: true; the input reads as it did. -/
def mouldWarmerUptoRow : OpenClaim := { program := "ytafdagjdpnaddaa", sum := "129a1bb6ee0718a342654bf1b7601dde98fbdf71200802e5915d057292693a4e", func := "stearin/stearinlaw05.MouldWarmer", spec := "mouldWarmer", unfollowed := true, recurses := true, apart := false, narrowed := true }
def MouldWarmerUptoSaid : Prop := mouldWarmerUptoRow.holds Try.pinned (OpenSpec.upto mouldWarmerSpec)

/-- 'stearinlaw05.MouldEven', WHERE WHAT IT READS IS OF BULK AT MOST 1048576: true; the input reads as it did. -/
def mouldEvenUptoRow : OpenClaim := { program := "ytafdagjdpnaddaa", sum := "129a1bb6ee0718a342654bf1b7601dde98fbdf71200802e5915d057292693a4e", func := "stearin/stearinlaw05.MouldEven", spec := "mouldEven", unfollowed := true, recurses := true, apart := false, narrowed := true }
def MouldEvenUptoSaid : Prop := mouldEvenUptoRow.holds Try.pinned (OpenSpec.upto mouldEvenSpec)

/-- 'stearinlaw05.MouldMore', WHERE WHAT IT READS IS OF BULK AT MOST 1048576: true; the input reads as it did. -/
def mouldMoreUptoRow : OpenClaim := { program := "ytafdagjdpnaddaa", sum := "129a1bb6ee0718a342654bf1b7601dde98fbdf71200802e5915d057292693a4e", func := "stearin/stearinlaw05.MouldMore", spec := "mouldMore", unfollowed := true, recurses := true, apart := false, narrowed := true }
def MouldMoreUptoSaid : Prop := mouldMoreUptoRow.holds Try.pinned (OpenSpec.upto mouldMoreSpec)

/-- 'stearinlaw05.MouldWider', WHERE WHAT IT READS IS OF BULK AT MOST 1048576: true; the input reads as it did. -/
def mouldWiderUptoRow : OpenClaim := { program := "ytafdagjdpnaddaa", sum := "129a1bb6ee0718a342654bf1b7601dde98fbdf71200802e5915d057292693a4e", func := "stearin/stearinlaw05.MouldWider", spec := "mouldWider", unfollowed := true, recurses := true, apart := false, narrowed := true }
def MouldWiderUptoSaid : Prop := mouldWiderUptoRow.holds Try.pinned (OpenSpec.upto mouldWiderSpec)

/-- 'stearinlaw05.MouldSkin', WHERE WHAT IT READS IS OF BULK AT MOST 1048576: true; the input reads as it did. -/
def mouldSkinUptoRow : OpenClaim := { program := "ytafdagjdpnaddaa", sum := "129a1bb6ee0718a342654bf1b7601dde98fbdf71200802e5915d057292693a4e", func := "stearin/stearinlaw05.MouldSkin", spec := "mouldSkin", unfollowed := true, recurses := true, apart := false, narrowed := true }
def MouldSkinUptoSaid : Prop := mouldSkinUptoRow.holds Try.pinned (OpenSpec.upto mouldSkinSpec)

end Rows
end Go.Proofs.Ytafdagjdpnaddaa
