/-
  No cell of these rows narrows 'for every input' (looked for: loops, veiled, ifaces, maps, wideKeys, modest, calm, conditions, laid).
  DERIVED. THE GIVEN ROWS OF THIS SEAT. 11 by the template 'for every input the law returns true; each argument reads behind the call as it read before'; 0 by the template 'total and deterministic' (their statements: YtddapabmfecidaaTotals.lean).
  GIVEN WITH THE SEED: the statements are not yours to turn. If you find one false, say at which input.
  Laid BY PROGRAM, IN A SANDBOX (cutbox-rows.mjs): the forced cells as the released guide's own fill.sh prints them over the translation c10db48054497f66… (all of the seat's roots in one cut). By AI agents, Wed Nov 11 2026. No macro, syntax, notation, axiom, sorry.
-/
import Derived.Test.YtddapabmfecidaaChecked
import GoSem.Claim
import GoSem.ClaimJoined
import GoSem.ClaimMapViews
import Derived.JoinedTies
import Derived.KernelRfl
namespace Go.Proofs.Ytddapabmfecidaa
/- THE CELL 'sum', in the pinned program and in every row, IS THE sha256 OF THE DUMP (.gsa) THAT YtddapabmfecidaaProg.lean LOADS. Nothing in Lean hashes anything: it is a label: what it is worth is what the hold of that sum in a sandbox is worth. -/
noncomputable def Try.pinned : Pinned := { name := "ytddapabmfecidaa", sum := "c10db48054497f666d32f6dc881ce526da6dc5f19f9290850a7bc702e5042270", checked := Try.checked }
namespace Rows
def none {H : Type} : Left H := { results := [], args := [] }

/-- 'stearinlaw10.StoreKnown': WHATEVER THE INPUT: true; the input reads as it did. -/
def storeKnownSpec : ChangeSpec := { name := "storeKnown", fn := fun _ => fun
  | [] => { results := [.lit (.bool true)], args := [] }
  | _ => none }
def storeKnownRow : OpenClaim := { program := "ytddapabmfecidaa", sum := "c10db48054497f666d32f6dc881ce526da6dc5f19f9290850a7bc702e5042270", func := "stearin/stearinlaw10.StoreKnown", spec := "storeKnown", unfollowed := true, recurses := true, plainKeys := false, apart := false }
def StoreKnownSaid : Prop := storeKnownRow.holds Try.pinned (OpenSpec.ofChange storeKnownSpec)

/-- ITS FALSE NEIGHBOUR: 'it returns false'. Refute it at one input. -/
def storeKnownWrong : ChangeSpec := { name := "storeKnown", fn := fun _ => fun
  | [] => { results := [.lit (.bool false)], args := [] }
  | _ => none }
def StoreKnownWrongFalsely : Prop := storeKnownRow.holds Try.pinned (OpenSpec.ofChange storeKnownWrong)

/-- 'stearinlaw10.StoreTrue': WHATEVER THE INPUT: true; the input reads as it did. -/
def storeTrueSpec : ChangeSpec := { name := "storeTrue", fn := fun _ => fun
  | [d1, d2, d3] => { results := [.lit (.bool true)], args := [d1, d2, d3] }
  | _ => none }
def storeTrueRow : OpenClaim := { program := "ytddapabmfecidaa", sum := "c10db48054497f666d32f6dc881ce526da6dc5f19f9290850a7bc702e5042270", func := "stearin/stearinlaw10.StoreTrue", spec := "storeTrue", unfollowed := true, recurses := true, plainKeys := false, apart := false }
def StoreTrueSaid : Prop := storeTrueRow.holds Try.pinned (OpenSpec.ofChange storeTrueSpec)

/-- ITS FALSE NEIGHBOUR: 'it returns false'. Refute it at one input. -/
def storeTrueWrong : ChangeSpec := { name := "storeTrue", fn := fun _ => fun
  | [d1, d2, d3] => { results := [.lit (.bool false)], args := [d1, d2, d3] }
  | _ => none }
def StoreTrueWrongFalsely : Prop := storeTrueRow.holds Try.pinned (OpenSpec.ofChange storeTrueWrong)

/-- 'stearinlaw10.StoreReached': WHATEVER THE INPUT: true; the input reads as it did. -/
def storeReachedSpec : ChangeSpec := { name := "storeReached", fn := fun _ => fun
  | [d1, d2, d3] => { results := [.lit (.bool true)], args := [d1, d2, d3] }
  | _ => none }
def storeReachedRow : OpenClaim := { program := "ytddapabmfecidaa", sum := "c10db48054497f666d32f6dc881ce526da6dc5f19f9290850a7bc702e5042270", func := "stearin/stearinlaw10.StoreReached", spec := "storeReached", unfollowed := true, recurses := true, plainKeys := false, apart := false }
def StoreReachedSaid : Prop := storeReachedRow.holds Try.pinned (OpenSpec.ofChange storeReachedSpec)

/-- ITS FALSE NEIGHBOUR: 'it returns false'. Refute it at one input. -/
def storeReachedWrong : ChangeSpec := { name := "storeReached", fn := fun _ => fun
  | [d1, d2, d3] => { results := [.lit (.bool false)], args := [d1, d2, d3] }
  | _ => none }
def StoreReachedWrongFalsely : Prop := storeReachedRow.holds Try.pinned (OpenSpec.ofChange storeReachedWrong)

/-- 'stearinlaw10.StoreSeason': WHATEVER THE INPUT: true; the input reads as it did. -/
def storeSeasonSpec : ChangeSpec := { name := "storeSeason", fn := fun _ => fun
  | [d1, d2] => { results := [.lit (.bool true)], args := [d1, d2] }
  | _ => none }
def storeSeasonRow : OpenClaim := { program := "ytddapabmfecidaa", sum := "c10db48054497f666d32f6dc881ce526da6dc5f19f9290850a7bc702e5042270", func := "stearin/stearinlaw10.StoreSeason", spec := "storeSeason", unfollowed := true, recurses := true, plainKeys := false, apart := false }
def StoreSeasonSaid : Prop := storeSeasonRow.holds Try.pinned (OpenSpec.ofChange storeSeasonSpec)

/-- ITS FALSE NEIGHBOUR: 'it returns false'. Refute it at one input. -/
def storeSeasonWrong : ChangeSpec := { name := "storeSeason", fn := fun _ => fun
  | [d1, d2] => { results := [.lit (.bool false)], args := [d1, d2] }
  | _ => none }
def StoreSeasonWrongFalsely : Prop := storeSeasonRow.holds Try.pinned (OpenSpec.ofChange storeSeasonWrong)

/-- 'stearinlaw10.StoreKeeps': WHATEVER THE INPUT: true; the input reads as it did. -/
def storeKeepsSpec : ChangeSpec := { name := "storeKeeps", fn := fun _ => fun
  | [d1, d2, d3] => { results := [.lit (.bool true)], args := [d1, d2, d3] }
  | _ => none }
def storeKeepsRow : OpenClaim := { program := "ytddapabmfecidaa", sum := "c10db48054497f666d32f6dc881ce526da6dc5f19f9290850a7bc702e5042270", func := "stearin/stearinlaw10.StoreKeeps", spec := "storeKeeps", unfollowed := true, recurses := true, plainKeys := false, apart := false }
def StoreKeepsSaid : Prop := storeKeepsRow.holds Try.pinned (OpenSpec.ofChange storeKeepsSpec)

/-- ITS FALSE NEIGHBOUR: 'it returns false'. Refute it at one input. -/
def storeKeepsWrong : ChangeSpec := { name := "storeKeeps", fn := fun _ => fun
  | [d1, d2, d3] => { results := [.lit (.bool false)], args := [d1, d2, d3] }
  | _ => none }
def StoreKeepsWrongFalsely : Prop := storeKeepsRow.holds Try.pinned (OpenSpec.ofChange storeKeepsWrong)

/-- 'stearinlaw10.StoreCheapest': WHATEVER THE INPUT: true; the input reads as it did. -/
def storeCheapestSpec : ChangeSpec := { name := "storeCheapest", fn := fun _ => fun
  | [d1, d2] => { results := [.lit (.bool true)], args := [d1, d2] }
  | _ => none }
def storeCheapestRow : OpenClaim := { program := "ytddapabmfecidaa", sum := "c10db48054497f666d32f6dc881ce526da6dc5f19f9290850a7bc702e5042270", func := "stearin/stearinlaw10.StoreCheapest", spec := "storeCheapest", unfollowed := true, recurses := true, plainKeys := false, apart := false }
def StoreCheapestSaid : Prop := storeCheapestRow.holds Try.pinned (OpenSpec.ofChange storeCheapestSpec)

/-- ITS FALSE NEIGHBOUR: 'it returns false'. Refute it at one input. -/
def storeCheapestWrong : ChangeSpec := { name := "storeCheapest", fn := fun _ => fun
  | [d1, d2] => { results := [.lit (.bool false)], args := [d1, d2] }
  | _ => none }
def StoreCheapestWrongFalsely : Prop := storeCheapestRow.holds Try.pinned (OpenSpec.ofChange storeCheapestWrong)

/-- 'stearinlaw10.StoreOn': WHATEVER THE INPUT: true; the input reads as it did. -/
def storeOnSpec : ChangeSpec := { name := "storeOn", fn := fun _ => fun
  | [d1, d2, d3] => { results := [.lit (.bool true)], args := [d1, d2, d3] }
  | _ => none }
def storeOnRow : OpenClaim := { program := "ytddapabmfecidaa", sum := "c10db48054497f666d32f6dc881ce526da6dc5f19f9290850a7bc702e5042270", func := "stearin/stearinlaw10.StoreOn", spec := "storeOn", unfollowed := true, recurses := true, plainKeys := false, apart := false }
def StoreOnSaid : Prop := storeOnRow.holds Try.pinned (OpenSpec.ofChange storeOnSpec)

/-- ITS FALSE NEIGHBOUR: 'it returns false'. Refute it at one input. -/
def storeOnWrong : ChangeSpec := { name := "storeOn", fn := fun _ => fun
  | [d1, d2, d3] => { results := [.lit (.bool false)], args := [d1, d2, d3] }
  | _ => none }
def StoreOnWrongFalsely : Prop := storeOnRow.holds Try.pinned (OpenSpec.ofChange storeOnWrong)

/-- 'stearinlaw10.StoreBack': WHATEVER THE INPUT: true; the input reads as it did. -/
def storeBackSpec : ChangeSpec := { name := "storeBack", fn := fun _ => fun
  | [d1, d2] => { results := [.lit (.bool true)], args := [d1, d2] }
  | _ => none }
def storeBackRow : OpenClaim := { program := "ytddapabmfecidaa", sum := "c10db48054497f666d32f6dc881ce526da6dc5f19f9290850a7bc702e5042270", func := "stearin/stearinlaw10.StoreBack", spec := "storeBack", unfollowed := true, recurses := true, plainKeys := false, apart := false }
def StoreBackSaid : Prop := storeBackRow.holds Try.pinned (OpenSpec.ofChange storeBackSpec)

/-- ITS FALSE NEIGHBOUR: 'it returns false'. Refute it at one input. -/
def storeBackWrong : ChangeSpec := { name := "storeBack", fn := fun _ => fun
  | [d1, d2] => { results := [.lit (.bool false)], args := [d1, d2] }
  | _ => none }
def StoreBackWrongFalsely : Prop := storeBackRow.holds Try.pinned (OpenSpec.ofChange storeBackWrong)

/-- 'stearinlaw10.StoreWider': WHATEVER THE INPUT: true; the input reads as it did. -/
def storeWiderSpec : ChangeSpec := { name := "storeWider", fn := fun _ => fun
  | [d1, d2, d3] => { results := [.lit (.bool true)], args := [d1, d2, d3] }
  | _ => none }
def storeWiderRow : OpenClaim := { program := "ytddapabmfecidaa", sum := "c10db48054497f666d32f6dc881ce526da6dc5f19f9290850a7bc702e5042270", func := "stearin/stearinlaw10.StoreWider", spec := "storeWider", unfollowed := true, recurses := true, plainKeys := false, apart := false }
def StoreWiderSaid : Prop := storeWiderRow.holds Try.pinned (OpenSpec.ofChange storeWiderSpec)

/-- ITS FALSE NEIGHBOUR: 'it returns false'. Refute it at one input. -/
def storeWiderWrong : ChangeSpec := { name := "storeWider", fn := fun _ => fun
  | [d1, d2, d3] => { results := [.lit (.bool false)], args := [d1, d2, d3] }
  | _ => none }
def StoreWiderWrongFalsely : Prop := storeWiderRow.holds Try.pinned (OpenSpec.ofChange storeWiderWrong)

/-- 'stearinlaw10.StoreMilder': WHATEVER THE INPUT: true; the input reads as it did. -/
def storeMilderSpec : ChangeSpec := { name := "storeMilder", fn := fun _ => fun
  | [d1, d2, d3] => { results := [.lit (.bool true)], args := [d1, d2, d3] }
  | _ => none }
def storeMilderRow : OpenClaim := { program := "ytddapabmfecidaa", sum := "c10db48054497f666d32f6dc881ce526da6dc5f19f9290850a7bc702e5042270", func := "stearin/stearinlaw10.StoreMilder", spec := "storeMilder", unfollowed := true, recurses := true, plainKeys := false, apart := false }
def StoreMilderSaid : Prop := storeMilderRow.holds Try.pinned (OpenSpec.ofChange storeMilderSpec)

/-- ITS FALSE NEIGHBOUR: 'it returns false'. Refute it at one input. -/
def storeMilderWrong : ChangeSpec := { name := "storeMilder", fn := fun _ => fun
  | [d1, d2, d3] => { results := [.lit (.bool false)], args := [d1, d2, d3] }
  | _ => none }
def StoreMilderWrongFalsely : Prop := storeMilderRow.holds Try.pinned (OpenSpec.ofChange storeMilderWrong)

/-- 'stearinlaw10.StoreDearer': WHATEVER THE INPUT: true; the input reads as it did. -/
def storeDearerSpec : ChangeSpec := { name := "storeDearer", fn := fun _ => fun
  | [d1, d2] => { results := [.lit (.bool true)], args := [d1, d2] }
  | _ => none }
def storeDearerRow : OpenClaim := { program := "ytddapabmfecidaa", sum := "c10db48054497f666d32f6dc881ce526da6dc5f19f9290850a7bc702e5042270", func := "stearin/stearinlaw10.StoreDearer", spec := "storeDearer", unfollowed := true, recurses := true, plainKeys := false, apart := false }
def StoreDearerSaid : Prop := storeDearerRow.holds Try.pinned (OpenSpec.ofChange storeDearerSpec)

/-- ITS FALSE NEIGHBOUR: 'it returns false'. Refute it at one input. -/
def storeDearerWrong : ChangeSpec := { name := "storeDearer", fn := fun _ => fun
  | [d1, d2] => { results := [.lit (.bool false)], args := [d1, d2] }
  | _ => none }
def StoreDearerWrongFalsely : Prop := storeDearerRow.holds Try.pinned (OpenSpec.ofChange storeDearerWrong)

/- THE SECOND FORM. 'bulk': how many values and letters a reading holds, each counted each time it is reached (what is shared counts as often as it is met; a slice's spare places count too). A statement '..UptoSaid' is the law's where the arguments, and the package variables that the reading takes, are together of bulk at most 1048576: NARROWER than '..Said'. Prove '..Said' where nothing that the law and all that it calls make is longer than what came in: it says more and counts as full. Else prove '..UptoSaid'. A law counts once. -/
mutual
def uptoBulk {H : Type} : DataW H → Nat
  | .lit (.string bytes) => bytes.length + 1
  | .lit _ => 1
  | .nil => 1
  | .ptr d => uptoBulk d + 1
  | .slice elems spare => uptoBulkAll elems + uptoBulkAll spare + 1
  | .agg parts => uptoBulkAll parts + 1
  | .iface _ d => uptoBulk d + 1
  | .map entries => uptoBulkEntries entries + 1
  | .held _ => 1
def uptoBulkAll {H : Type} : List (DataW H) → Nat
  | [] => 0
  | d :: r => uptoBulk d + uptoBulkAll r
def uptoBulkEntries {H : Type} : List (Lit × DataW H) → Nat
  | [] => 0
  | x :: r => uptoBulkEntry x + uptoBulkEntries r
def uptoBulkEntry {H : Type} : Lit × DataW H → Nat
  | (.string bytes, d) => bytes.length + uptoBulk d + 1
  | (_, d) => uptoBulk d + 1
 end
def uptoSmall : (H : Type) → List (DataW H) → Bool := fun _ ds => decide (uptoBulkAll ds ≤ 1048576)
def OpenSpec.upto (s : _root_.Go.ChangeSpec) : _root_.Go.OpenSpec := { _root_.Go.OpenSpec.ofChange s with cond := some uptoSmall }

/-- 'stearinlaw10.StoreKnown', WHERE WHAT IT READS IS OF BULK AT MOST 1048576: true; the input reads as it did. -/
def storeKnownUptoRow : OpenClaim := { program := "ytddapabmfecidaa", sum := "c10db48054497f666d32f6dc881ce526da6dc5f19f9290850a7bc702e5042270", func := "stearin/stearinlaw10.StoreKnown", spec := "storeKnown", unfollowed := true, recurses := true, plainKeys := false, apart := false, narrowed := true }
def StoreKnownUptoSaid : Prop := storeKnownUptoRow.holds Try.pinned (OpenSpec.upto storeKnownSpec)

/-- 'stearinlaw10.StoreTrue', WHERE WHAT IT READS IS OF BULK AT MOST 1048576: true; the input reads as it did. -/
def storeTrueUptoRow : OpenClaim := { program := "ytddapabmfecidaa", sum := "c10db48054497f666d32f6dc881ce526da6dc5f19f9290850a7bc702e5042270", func := "stearin/stearinlaw10.StoreTrue", spec := "storeTrue", unfollowed := true, recurses := true, plainKeys := false, apart := false, narrowed := true }
def StoreTrueUptoSaid : Prop := storeTrueUptoRow.holds Try.pinned (OpenSpec.upto storeTrueSpec)

/-- 'stearinlaw10.StoreReached', WHERE WHAT IT READS IS OF BULK AT MOST 1048576: true; the input reads as it did. -/
def storeReachedUptoRow : OpenClaim := { program := "ytddapabmfecidaa", sum := "c10db48054497f666d32f6dc881ce526da6dc5f19f9290850a7bc702e5042270", func := "stearin/stearinlaw10.StoreReached", spec := "storeReached", unfollowed := true, recurses := true, plainKeys := false, apart := false, narrowed := true }
def StoreReachedUptoSaid : Prop := storeReachedUptoRow.holds Try.pinned (OpenSpec.upto storeReachedSpec)

/-- 'stearinlaw10.StoreSeason', WHERE WHAT IT READS IS OF BULK AT MOST 1048576: true; the input reads as it did. -/
def storeSeasonUptoRow : OpenClaim := { program := "ytddapabmfecidaa", sum := "c10db48054497f666d32f6dc881ce526da6dc5f19f9290850a7bc702e5042270", func := "stearin/stearinlaw10.StoreSeason", spec := "storeSeason", unfollowed := true, recurses := true, plainKeys := false, apart := false, narrowed := true }
def StoreSeasonUptoSaid : Prop := storeSeasonUptoRow.holds Try.pinned (OpenSpec.upto storeSeasonSpec)

/-- 'stearinlaw10.StoreKeeps', WHERE WHAT IT READS IS OF BULK AT MOST 1048576: true; the input reads as it did. -/
def storeKeepsUptoRow : OpenClaim := { program := "ytddapabmfecidaa", sum := "c10db48054497f666d32f6dc881ce526da6dc5f19f9290850a7bc702e5042270", func := "stearin/stearinlaw10.StoreKeeps", spec := "storeKeeps", unfollowed := true, recurses := true, plainKeys := false, apart := false, narrowed := true }
def StoreKeepsUptoSaid : Prop := storeKeepsUptoRow.holds Try.pinned (OpenSpec.upto storeKeepsSpec)

/-- 'stearinlaw10.StoreCheapest', WHERE WHAT IT READS IS OF BULK AT MOST 1048576: true; the input reads as it did. -/
def storeCheapestUptoRow : OpenClaim := { program := "ytddapabmfecidaa", sum := "c10db48054497f666d32f6dc881ce526da6dc5f19f9290850a7bc702e5042270", func := "stearin/stearinlaw10.StoreCheapest", spec := "storeCheapest", unfollowed := true, recurses := true, plainKeys := false, apart := false, narrowed := true }
def StoreCheapestUptoSaid : Prop := storeCheapestUptoRow.holds Try.pinned (OpenSpec.upto storeCheapestSpec)

/-- 'stearinlaw10.StoreOn', WHERE WHAT IT READS IS OF BULK AT MOST 1048576: true; the input reads as it did. -/
def storeOnUptoRow : OpenClaim := { program := "ytddapabmfecidaa", sum := "c10db48054497f666d32f6dc881ce526da6dc5f19f9290850a7bc702e5042270", func := "stearin/stearinlaw10.StoreOn", spec := "storeOn", unfollowed := true, recurses := true, plainKeys := false, apart := false, narrowed := true }
def StoreOnUptoSaid : Prop := storeOnUptoRow.holds Try.pinned (OpenSpec.upto storeOnSpec)

/-- 'stearinlaw10.StoreBack', WHERE WHAT IT READS IS OF BULK AT MOST 1048576: true; the input reads as it did. -/
def storeBackUptoRow : OpenClaim := { program := "ytddapabmfecidaa", sum := "c10db48054497f666d32f6dc881ce526da6dc5f19f9290850a7bc702e5042270", func := "stearin/stearinlaw10.StoreBack", spec := "storeBack", unfollowed := true, recurses := true, plainKeys := false, apart := false, narrowed := true }
def StoreBackUptoSaid : Prop := storeBackUptoRow.holds Try.pinned (OpenSpec.upto storeBackSpec)

/-- 'stearinlaw10.StoreWider', WHERE WHAT IT READS IS OF BULK AT MOST 1048576: true; the input reads as it did. -/
def storeWiderUptoRow : OpenClaim := { program := "ytddapabmfecidaa", sum := "c10db48054497f666d32f6dc881ce526da6dc5f19f9290850a7bc702e5042270", func := "stearin/stearinlaw10.StoreWider", spec := "storeWider", unfollowed := true, recurses := true, plainKeys := false, apart := false, narrowed := true }
def StoreWiderUptoSaid : Prop := storeWiderUptoRow.holds Try.pinned (OpenSpec.upto storeWiderSpec)

/-- 'stearinlaw10.StoreMilder', WHERE WHAT IT READS IS OF BULK AT MOST 1048576: true; the input reads as it did. -/
def storeMilderUptoRow : OpenClaim := { program := "ytddapabmfecidaa", sum := "c10db48054497f666d32f6dc881ce526da6dc5f19f9290850a7bc702e5042270", func := "stearin/stearinlaw10.StoreMilder", spec := "storeMilder", unfollowed := true, recurses := true, plainKeys := false, apart := false, narrowed := true }
def StoreMilderUptoSaid : Prop := storeMilderUptoRow.holds Try.pinned (OpenSpec.upto storeMilderSpec)

/-- 'stearinlaw10.StoreDearer', WHERE WHAT IT READS IS OF BULK AT MOST 1048576: true; the input reads as it did. -/
def storeDearerUptoRow : OpenClaim := { program := "ytddapabmfecidaa", sum := "c10db48054497f666d32f6dc881ce526da6dc5f19f9290850a7bc702e5042270", func := "stearin/stearinlaw10.StoreDearer", spec := "storeDearer", unfollowed := true, recurses := true, plainKeys := false, apart := false, narrowed := true }
def StoreDearerUptoSaid : Prop := storeDearerUptoRow.holds Try.pinned (OpenSpec.upto storeDearerSpec)

end Rows
end Go.Proofs.Ytddapabmfecidaa
