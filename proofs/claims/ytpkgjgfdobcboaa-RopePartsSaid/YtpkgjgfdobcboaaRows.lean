/-
  No cell of these rows narrows 'for every input' (looked for: loops, veiled, ifaces, maps, wideKeys, modest, calm, conditions, laid).
  DERIVED. THE GIVEN ROWS OF THIS SEAT. 20 by the template 'for every input the law returns true; each argument reads behind the call as it read before'; 0 by the template 'total and deterministic' (their statements: YtpkgjgfdobcboaaTotals.lean).
  GIVEN WITH THE SEED: the statements are not yours to turn. If you find one false, say at which input.
  Laid BY PROGRAM, IN A SANDBOX (cutbox-rows.mjs): the forced cells as the released guide's own fill.sh prints them over the translation 5c135cdd672d95d1… (all of the seat's roots in one cut). By AI agents, Wed Nov 11 2026. No macro, syntax, notation, axiom, sorry.
-/
import Derived.Test.YtpkgjgfdobcboaaChecked
import GoSem.Claim
import GoSem.ClaimJoined
import GoSem.ClaimMapViews
import Derived.JoinedTies
import Derived.KernelRfl
namespace Go.Proofs.Ytpkgjgfdobcboaa
/- THE CELL 'sum', in the pinned program and in every row, IS THE sha256 OF THE DUMP (.gsa) THAT YtpkgjgfdobcboaaProg.lean LOADS. Nothing in Lean hashes anything: it is a label: what it is worth is what the hold of that sum in a sandbox is worth. -/
noncomputable def Try.pinned : Pinned := { name := "ytpkgjgfdobcboaa", sum := "5c135cdd672d95d15d3ffaffdde8ed234ce6c4263cc06dc0465c176f9c307744", checked := Try.checked }
namespace Rows
def none {H : Type} : Left H := { results := [], args := [] }

/-- 'aqueductlaw04.RingLongs': WHATEVER THE INPUT: true; the input reads as it did. -/
def ringLongsSpec : ChangeSpec := { name := "ringLongs", fn := fun _ => fun
  | [d1, d2] => { results := [.lit (.bool true)], args := [d1, d2] }
  | _ => none }
def ringLongsRow : OpenClaim := { program := "ytpkgjgfdobcboaa", sum := "5c135cdd672d95d15d3ffaffdde8ed234ce6c4263cc06dc0465c176f9c307744", func := "aqueduct/aqueductlaw04.RingLongs", spec := "ringLongs", apart := false }
def RingLongsSaid : Prop := ringLongsRow.holds Try.pinned (OpenSpec.ofChange ringLongsSpec)

/-- ITS FALSE NEIGHBOUR: 'it returns false'. Refute it at one input. -/
def ringLongsWrong : ChangeSpec := { name := "ringLongs", fn := fun _ => fun
  | [d1, d2] => { results := [.lit (.bool false)], args := [d1, d2] }
  | _ => none }
def RingLongsWrongFalsely : Prop := ringLongsRow.holds Try.pinned (OpenSpec.ofChange ringLongsWrong)

/-- 'aqueductlaw04.RingPeeks': WHATEVER THE INPUT: true; the input reads as it did. -/
def ringPeeksSpec : ChangeSpec := { name := "ringPeeks", fn := fun _ => fun
  | [d1, d2, d3] => { results := [.lit (.bool true)], args := [d1, d2, d3] }
  | _ => none }
def ringPeeksRow : OpenClaim := { program := "ytpkgjgfdobcboaa", sum := "5c135cdd672d95d15d3ffaffdde8ed234ce6c4263cc06dc0465c176f9c307744", func := "aqueduct/aqueductlaw04.RingPeeks", spec := "ringPeeks", apart := false }
def RingPeeksSaid : Prop := ringPeeksRow.holds Try.pinned (OpenSpec.ofChange ringPeeksSpec)

/-- ITS FALSE NEIGHBOUR: 'it returns false'. Refute it at one input. -/
def ringPeeksWrong : ChangeSpec := { name := "ringPeeks", fn := fun _ => fun
  | [d1, d2, d3] => { results := [.lit (.bool false)], args := [d1, d2, d3] }
  | _ => none }
def RingPeeksWrongFalsely : Prop := ringPeeksRow.holds Try.pinned (OpenSpec.ofChange ringPeeksWrong)

/-- 'aqueductlaw04.RingHolds': WHATEVER THE INPUT: true; the input reads as it did. -/
def ringHoldsSpec : ChangeSpec := { name := "ringHolds", fn := fun _ => fun
  | [d1, d2, d3] => { results := [.lit (.bool true)], args := [d1, d2, d3] }
  | _ => none }
def ringHoldsRow : OpenClaim := { program := "ytpkgjgfdobcboaa", sum := "5c135cdd672d95d15d3ffaffdde8ed234ce6c4263cc06dc0465c176f9c307744", func := "aqueduct/aqueductlaw04.RingHolds", spec := "ringHolds", apart := false }
def RingHoldsSaid : Prop := ringHoldsRow.holds Try.pinned (OpenSpec.ofChange ringHoldsSpec)

/-- ITS FALSE NEIGHBOUR: 'it returns false'. Refute it at one input. -/
def ringHoldsWrong : ChangeSpec := { name := "ringHolds", fn := fun _ => fun
  | [d1, d2, d3] => { results := [.lit (.bool false)], args := [d1, d2, d3] }
  | _ => none }
def RingHoldsWrongFalsely : Prop := ringHoldsRow.holds Try.pinned (OpenSpec.ofChange ringHoldsWrong)

/-- 'aqueductlaw04.RingPlays': WHATEVER THE INPUT: true; the input reads as it did. -/
def ringPlaysSpec : ChangeSpec := { name := "ringPlays", fn := fun _ => fun
  | [d1, d2] => { results := [.lit (.bool true)], args := [d1, d2] }
  | _ => none }
def ringPlaysRow : OpenClaim := { program := "ytpkgjgfdobcboaa", sum := "5c135cdd672d95d15d3ffaffdde8ed234ce6c4263cc06dc0465c176f9c307744", func := "aqueduct/aqueductlaw04.RingPlays", spec := "ringPlays", apart := false }
def RingPlaysSaid : Prop := ringPlaysRow.holds Try.pinned (OpenSpec.ofChange ringPlaysSpec)

/-- ITS FALSE NEIGHBOUR: 'it returns false'. Refute it at one input. -/
def ringPlaysWrong : ChangeSpec := { name := "ringPlays", fn := fun _ => fun
  | [d1, d2] => { results := [.lit (.bool false)], args := [d1, d2] }
  | _ => none }
def RingPlaysWrongFalsely : Prop := ringPlaysRow.holds Try.pinned (OpenSpec.ofChange ringPlaysWrong)

/-- 'aqueductlaw04.RingNil': WHATEVER THE INPUT: true; the input reads as it did. -/
def ringNilSpec : ChangeSpec := { name := "ringNil", fn := fun _ => fun
  | [d1, d2, d3] => { results := [.lit (.bool true)], args := [d1, d2, d3] }
  | _ => none }
def ringNilRow : OpenClaim := { program := "ytpkgjgfdobcboaa", sum := "5c135cdd672d95d15d3ffaffdde8ed234ce6c4263cc06dc0465c176f9c307744", func := "aqueduct/aqueductlaw04.RingNil", spec := "ringNil", apart := false }
def RingNilSaid : Prop := ringNilRow.holds Try.pinned (OpenSpec.ofChange ringNilSpec)

/-- ITS FALSE NEIGHBOUR: 'it returns false'. Refute it at one input. -/
def ringNilWrong : ChangeSpec := { name := "ringNil", fn := fun _ => fun
  | [d1, d2, d3] => { results := [.lit (.bool false)], args := [d1, d2, d3] }
  | _ => none }
def RingNilWrongFalsely : Prop := ringNilRow.holds Try.pinned (OpenSpec.ofChange ringNilWrong)

/-- 'aqueductlaw05.RopeMakes': WHATEVER THE INPUT: true; the input reads as it did. -/
def ropeMakesSpec : ChangeSpec := { name := "ropeMakes", fn := fun _ => fun
  | [d] => { results := [.lit (.bool true)], args := [d] }
  | _ => none }
def ropeMakesRow : OpenClaim := { program := "ytpkgjgfdobcboaa", sum := "5c135cdd672d95d15d3ffaffdde8ed234ce6c4263cc06dc0465c176f9c307744", func := "aqueduct/aqueductlaw05.RopeMakes", spec := "ropeMakes", unfollowed := true, recurses := true, apart := false }
def RopeMakesSaid : Prop := ropeMakesRow.holds Try.pinned (OpenSpec.ofChange ropeMakesSpec)

/-- ITS FALSE NEIGHBOUR: 'it returns false'. Refute it at one input. -/
def ropeMakesWrong : ChangeSpec := { name := "ropeMakes", fn := fun _ => fun
  | [d] => { results := [.lit (.bool false)], args := [d] }
  | _ => none }
def RopeMakesWrongFalsely : Prop := ropeMakesRow.holds Try.pinned (OpenSpec.ofChange ropeMakesWrong)

/-- 'aqueductlaw05.RopeParts': WHATEVER THE INPUT: true; the input reads as it did. -/
def ropePartsSpec : ChangeSpec := { name := "ropeParts", fn := fun _ => fun
  | [d1, d2] => { results := [.lit (.bool true)], args := [d1, d2] }
  | _ => none }
def ropePartsRow : OpenClaim := { program := "ytpkgjgfdobcboaa", sum := "5c135cdd672d95d15d3ffaffdde8ed234ce6c4263cc06dc0465c176f9c307744", func := "aqueduct/aqueductlaw05.RopeParts", spec := "ropeParts", unfollowed := true, recurses := true, apart := false }
def RopePartsSaid : Prop := ropePartsRow.holds Try.pinned (OpenSpec.ofChange ropePartsSpec)

/-- ITS FALSE NEIGHBOUR: 'it returns false'. Refute it at one input. -/
def ropePartsWrong : ChangeSpec := { name := "ropeParts", fn := fun _ => fun
  | [d1, d2] => { results := [.lit (.bool false)], args := [d1, d2] }
  | _ => none }
def RopePartsWrongFalsely : Prop := ropePartsRow.holds Try.pinned (OpenSpec.ofChange ropePartsWrong)

/-- 'aqueductlaw05.RopeTakes': WHATEVER THE INPUT: true; the input reads as it did. -/
def ropeTakesSpec : ChangeSpec := { name := "ropeTakes", fn := fun _ => fun
  | [d1, d2] => { results := [.lit (.bool true)], args := [d1, d2] }
  | _ => none }
def ropeTakesRow : OpenClaim := { program := "ytpkgjgfdobcboaa", sum := "5c135cdd672d95d15d3ffaffdde8ed234ce6c4263cc06dc0465c176f9c307744", func := "aqueduct/aqueductlaw05.RopeTakes", spec := "ropeTakes", unfollowed := true, recurses := true, apart := false }
def RopeTakesSaid : Prop := ropeTakesRow.holds Try.pinned (OpenSpec.ofChange ropeTakesSpec)

/-- ITS FALSE NEIGHBOUR: 'it returns false'. Refute it at one input. -/
def ropeTakesWrong : ChangeSpec := { name := "ropeTakes", fn := fun _ => fun
  | [d1, d2] => { results := [.lit (.bool false)], args := [d1, d2] }
  | _ => none }
def RopeTakesWrongFalsely : Prop := ropeTakesRow.holds Try.pinned (OpenSpec.ofChange ropeTakesWrong)

/-- 'aqueductlaw05.RopeJoins': WHATEVER THE INPUT: true; the input reads as it did. -/
def ropeJoinsSpec : ChangeSpec := { name := "ropeJoins", fn := fun _ => fun
  | [d1, d2] => { results := [.lit (.bool true)], args := [d1, d2] }
  | _ => none }
def ropeJoinsRow : OpenClaim := { program := "ytpkgjgfdobcboaa", sum := "5c135cdd672d95d15d3ffaffdde8ed234ce6c4263cc06dc0465c176f9c307744", func := "aqueduct/aqueductlaw05.RopeJoins", spec := "ropeJoins", unfollowed := true, recurses := true, apart := false }
def RopeJoinsSaid : Prop := ropeJoinsRow.holds Try.pinned (OpenSpec.ofChange ropeJoinsSpec)

/-- ITS FALSE NEIGHBOUR: 'it returns false'. Refute it at one input. -/
def ropeJoinsWrong : ChangeSpec := { name := "ropeJoins", fn := fun _ => fun
  | [d1, d2] => { results := [.lit (.bool false)], args := [d1, d2] }
  | _ => none }
def RopeJoinsWrongFalsely : Prop := ropeJoinsRow.holds Try.pinned (OpenSpec.ofChange ropeJoinsWrong)

/-- 'aqueductlaw05.RopeHolds': WHATEVER THE INPUT: true; the input reads as it did. -/
def ropeHoldsSpec : ChangeSpec := { name := "ropeHolds", fn := fun _ => fun
  | [d1, d2, d3] => { results := [.lit (.bool true)], args := [d1, d2, d3] }
  | _ => none }
def ropeHoldsRow : OpenClaim := { program := "ytpkgjgfdobcboaa", sum := "5c135cdd672d95d15d3ffaffdde8ed234ce6c4263cc06dc0465c176f9c307744", func := "aqueduct/aqueductlaw05.RopeHolds", spec := "ropeHolds", unfollowed := true, recurses := true, apart := false }
def RopeHoldsSaid : Prop := ropeHoldsRow.holds Try.pinned (OpenSpec.ofChange ropeHoldsSpec)

/-- ITS FALSE NEIGHBOUR: 'it returns false'. Refute it at one input. -/
def ropeHoldsWrong : ChangeSpec := { name := "ropeHolds", fn := fun _ => fun
  | [d1, d2, d3] => { results := [.lit (.bool false)], args := [d1, d2, d3] }
  | _ => none }
def RopeHoldsWrongFalsely : Prop := ropeHoldsRow.holds Try.pinned (OpenSpec.ofChange ropeHoldsWrong)

/-- 'aqueductlaw12.MeetSplits': WHATEVER THE INPUT: true; the input reads as it did. -/
def meetSplitsSpec : ChangeSpec := { name := "meetSplits", fn := fun _ => fun
  | [d1, d2] => { results := [.lit (.bool true)], args := [d1, d2] }
  | _ => none }
def meetSplitsRow : OpenClaim := { program := "ytpkgjgfdobcboaa", sum := "5c135cdd672d95d15d3ffaffdde8ed234ce6c4263cc06dc0465c176f9c307744", func := "aqueduct/aqueductlaw12.MeetSplits", spec := "meetSplits", apart := false }
def MeetSplitsSaid : Prop := meetSplitsRow.holds Try.pinned (OpenSpec.ofChange meetSplitsSpec)

/-- ITS FALSE NEIGHBOUR: 'it returns false'. Refute it at one input. -/
def meetSplitsWrong : ChangeSpec := { name := "meetSplits", fn := fun _ => fun
  | [d1, d2] => { results := [.lit (.bool false)], args := [d1, d2] }
  | _ => none }
def MeetSplitsWrongFalsely : Prop := meetSplitsRow.holds Try.pinned (OpenSpec.ofChange meetSplitsWrong)

/-- 'aqueductlaw12.MeetHolds': WHATEVER THE INPUT: true; the input reads as it did. -/
def meetHoldsSpec : ChangeSpec := { name := "meetHolds", fn := fun _ => fun
  | [d] => { results := [.lit (.bool true)], args := [d] }
  | _ => none }
def meetHoldsRow : OpenClaim := { program := "ytpkgjgfdobcboaa", sum := "5c135cdd672d95d15d3ffaffdde8ed234ce6c4263cc06dc0465c176f9c307744", func := "aqueduct/aqueductlaw12.MeetHolds", spec := "meetHolds", apart := false }
def MeetHoldsSaid : Prop := meetHoldsRow.holds Try.pinned (OpenSpec.ofChange meetHoldsSpec)

/-- ITS FALSE NEIGHBOUR: 'it returns false'. Refute it at one input. -/
def meetHoldsWrong : ChangeSpec := { name := "meetHolds", fn := fun _ => fun
  | [d] => { results := [.lit (.bool false)], args := [d] }
  | _ => none }
def MeetHoldsWrongFalsely : Prop := meetHoldsRow.holds Try.pinned (OpenSpec.ofChange meetHoldsWrong)

/-- 'aqueductlaw12.MeetCloses': WHATEVER THE INPUT: true; the input reads as it did. -/
def meetClosesSpec : ChangeSpec := { name := "meetCloses", fn := fun _ => fun
  | [d1, d2, d3, d4, d5] => { results := [.lit (.bool true)], args := [d1, d2, d3, d4, d5] }
  | _ => none }
def meetClosesRow : OpenClaim := { program := "ytpkgjgfdobcboaa", sum := "5c135cdd672d95d15d3ffaffdde8ed234ce6c4263cc06dc0465c176f9c307744", func := "aqueduct/aqueductlaw12.MeetCloses", spec := "meetCloses", apart := false }
def MeetClosesSaid : Prop := meetClosesRow.holds Try.pinned (OpenSpec.ofChange meetClosesSpec)

/-- ITS FALSE NEIGHBOUR: 'it returns false'. Refute it at one input. -/
def meetClosesWrong : ChangeSpec := { name := "meetCloses", fn := fun _ => fun
  | [d1, d2, d3, d4, d5] => { results := [.lit (.bool false)], args := [d1, d2, d3, d4, d5] }
  | _ => none }
def MeetClosesWrongFalsely : Prop := meetClosesRow.holds Try.pinned (OpenSpec.ofChange meetClosesWrong)

/-- 'aqueductlaw12.MeetPlays': WHATEVER THE INPUT: true; the input reads as it did. -/
def meetPlaysSpec : ChangeSpec := { name := "meetPlays", fn := fun _ => fun
  | [d] => { results := [.lit (.bool true)], args := [d] }
  | _ => none }
def meetPlaysRow : OpenClaim := { program := "ytpkgjgfdobcboaa", sum := "5c135cdd672d95d15d3ffaffdde8ed234ce6c4263cc06dc0465c176f9c307744", func := "aqueduct/aqueductlaw12.MeetPlays", spec := "meetPlays", apart := false }
def MeetPlaysSaid : Prop := meetPlaysRow.holds Try.pinned (OpenSpec.ofChange meetPlaysSpec)

/-- ITS FALSE NEIGHBOUR: 'it returns false'. Refute it at one input. -/
def meetPlaysWrong : ChangeSpec := { name := "meetPlays", fn := fun _ => fun
  | [d] => { results := [.lit (.bool false)], args := [d] }
  | _ => none }
def MeetPlaysWrongFalsely : Prop := meetPlaysRow.holds Try.pinned (OpenSpec.ofChange meetPlaysWrong)

/-- 'aqueductlaw12.MeetNil': WHATEVER THE INPUT: true; the input reads as it did. -/
def meetNilSpec : ChangeSpec := { name := "meetNil", fn := fun _ => fun
  | [d1, d2] => { results := [.lit (.bool true)], args := [d1, d2] }
  | _ => none }
def meetNilRow : OpenClaim := { program := "ytpkgjgfdobcboaa", sum := "5c135cdd672d95d15d3ffaffdde8ed234ce6c4263cc06dc0465c176f9c307744", func := "aqueduct/aqueductlaw12.MeetNil", spec := "meetNil", apart := false }
def MeetNilSaid : Prop := meetNilRow.holds Try.pinned (OpenSpec.ofChange meetNilSpec)

/-- ITS FALSE NEIGHBOUR: 'it returns false'. Refute it at one input. -/
def meetNilWrong : ChangeSpec := { name := "meetNil", fn := fun _ => fun
  | [d1, d2] => { results := [.lit (.bool false)], args := [d1, d2] }
  | _ => none }
def MeetNilWrongFalsely : Prop := meetNilRow.holds Try.pinned (OpenSpec.ofChange meetNilWrong)

/-- 'aqueductlaw13.FlowSplits': WHATEVER THE INPUT: true; the input reads as it did. -/
def flowSplitsSpec : ChangeSpec := { name := "flowSplits", fn := fun _ => fun
  | [d1, d2] => { results := [.lit (.bool true)], args := [d1, d2] }
  | _ => none }
def flowSplitsRow : OpenClaim := { program := "ytpkgjgfdobcboaa", sum := "5c135cdd672d95d15d3ffaffdde8ed234ce6c4263cc06dc0465c176f9c307744", func := "aqueduct/aqueductlaw13.FlowSplits", spec := "flowSplits", unfollowed := true, recurses := true, apart := false }
def FlowSplitsSaid : Prop := flowSplitsRow.holds Try.pinned (OpenSpec.ofChange flowSplitsSpec)

/-- ITS FALSE NEIGHBOUR: 'it returns false'. Refute it at one input. -/
def flowSplitsWrong : ChangeSpec := { name := "flowSplits", fn := fun _ => fun
  | [d1, d2] => { results := [.lit (.bool false)], args := [d1, d2] }
  | _ => none }
def FlowSplitsWrongFalsely : Prop := flowSplitsRow.holds Try.pinned (OpenSpec.ofChange flowSplitsWrong)

/-- 'aqueductlaw13.FlowDrains': WHATEVER THE INPUT: true; the input reads as it did. -/
def flowDrainsSpec : ChangeSpec := { name := "flowDrains", fn := fun _ => fun
  | [d1, d2, d3, d4] => { results := [.lit (.bool true)], args := [d1, d2, d3, d4] }
  | _ => none }
def flowDrainsRow : OpenClaim := { program := "ytpkgjgfdobcboaa", sum := "5c135cdd672d95d15d3ffaffdde8ed234ce6c4263cc06dc0465c176f9c307744", func := "aqueduct/aqueductlaw13.FlowDrains", spec := "flowDrains", unfollowed := true, recurses := true, apart := false }
def FlowDrainsSaid : Prop := flowDrainsRow.holds Try.pinned (OpenSpec.ofChange flowDrainsSpec)

/-- ITS FALSE NEIGHBOUR: 'it returns false'. Refute it at one input. -/
def flowDrainsWrong : ChangeSpec := { name := "flowDrains", fn := fun _ => fun
  | [d1, d2, d3, d4] => { results := [.lit (.bool false)], args := [d1, d2, d3, d4] }
  | _ => none }
def FlowDrainsWrongFalsely : Prop := flowDrainsRow.holds Try.pinned (OpenSpec.ofChange flowDrainsWrong)

/-- 'aqueductlaw13.FlowHolds': WHATEVER THE INPUT: true; the input reads as it did. -/
def flowHoldsSpec : ChangeSpec := { name := "flowHolds", fn := fun _ => fun
  | [d1, d2] => { results := [.lit (.bool true)], args := [d1, d2] }
  | _ => none }
def flowHoldsRow : OpenClaim := { program := "ytpkgjgfdobcboaa", sum := "5c135cdd672d95d15d3ffaffdde8ed234ce6c4263cc06dc0465c176f9c307744", func := "aqueduct/aqueductlaw13.FlowHolds", spec := "flowHolds", unfollowed := true, recurses := true, apart := false }
def FlowHoldsSaid : Prop := flowHoldsRow.holds Try.pinned (OpenSpec.ofChange flowHoldsSpec)

/-- ITS FALSE NEIGHBOUR: 'it returns false'. Refute it at one input. -/
def flowHoldsWrong : ChangeSpec := { name := "flowHolds", fn := fun _ => fun
  | [d1, d2] => { results := [.lit (.bool false)], args := [d1, d2] }
  | _ => none }
def FlowHoldsWrongFalsely : Prop := flowHoldsRow.holds Try.pinned (OpenSpec.ofChange flowHoldsWrong)

/-- 'aqueductlaw13.FlowPlays': WHATEVER THE INPUT: true; the input reads as it did. -/
def flowPlaysSpec : ChangeSpec := { name := "flowPlays", fn := fun _ => fun
  | [d1, d2] => { results := [.lit (.bool true)], args := [d1, d2] }
  | _ => none }
def flowPlaysRow : OpenClaim := { program := "ytpkgjgfdobcboaa", sum := "5c135cdd672d95d15d3ffaffdde8ed234ce6c4263cc06dc0465c176f9c307744", func := "aqueduct/aqueductlaw13.FlowPlays", spec := "flowPlays", unfollowed := true, recurses := true, apart := false }
def FlowPlaysSaid : Prop := flowPlaysRow.holds Try.pinned (OpenSpec.ofChange flowPlaysSpec)

/-- ITS FALSE NEIGHBOUR: 'it returns false'. Refute it at one input. -/
def flowPlaysWrong : ChangeSpec := { name := "flowPlays", fn := fun _ => fun
  | [d1, d2] => { results := [.lit (.bool false)], args := [d1, d2] }
  | _ => none }
def FlowPlaysWrongFalsely : Prop := flowPlaysRow.holds Try.pinned (OpenSpec.ofChange flowPlaysWrong)

/-- 'aqueductlaw13.FlowNil': WHATEVER THE INPUT: true; the input reads as it did. -/
def flowNilSpec : ChangeSpec := { name := "flowNil", fn := fun _ => fun
  | [d1, d2] => { results := [.lit (.bool true)], args := [d1, d2] }
  | _ => none }
def flowNilRow : OpenClaim := { program := "ytpkgjgfdobcboaa", sum := "5c135cdd672d95d15d3ffaffdde8ed234ce6c4263cc06dc0465c176f9c307744", func := "aqueduct/aqueductlaw13.FlowNil", spec := "flowNil", unfollowed := true, recurses := true, apart := false }
def FlowNilSaid : Prop := flowNilRow.holds Try.pinned (OpenSpec.ofChange flowNilSpec)

/-- ITS FALSE NEIGHBOUR: 'it returns false'. Refute it at one input. -/
def flowNilWrong : ChangeSpec := { name := "flowNil", fn := fun _ => fun
  | [d1, d2] => { results := [.lit (.bool false)], args := [d1, d2] }
  | _ => none }
def FlowNilWrongFalsely : Prop := flowNilRow.holds Try.pinned (OpenSpec.ofChange flowNilWrong)

/- THE SECOND FORM. 'bulk': how many values and letters a reading holds, each counted each time it is reached (what is shared counts as often as it is met; a slice's spare places count too). A statement '..UptoSaid' is the law's where the arguments, and the package variables that the reading takes, are together of bulk at most 1048576: NARROWER than '..Said'. Prove '..Said' where nothing that the law and all that it calls make is longer than what came in: it says more and counts as full. Else prove '..UptoSaid'. A law counts once. -/
mutual
def uptoBulk {H : Type} : DataW H → Nat
  | .lit (.string bytes) => bytes.length + 1
  | .lit _ => 1
  | .nil => 1
  | .ptr d => uptoBulk d + 1
  | .slice elems spare => uptoBulkAll elems + uptoBulkAll spare + 1
  | .agg parts => uptoBulkAll parts + 1
  | .iface _ d => uptoBulk d + 1
  | .map entries => uptoBulkEntries entries + 1
  | .held _ => 1
def uptoBulkAll {H : Type} : List (DataW H) → Nat
  | [] => 0
  | d :: r => uptoBulk d + uptoBulkAll r
def uptoBulkEntries {H : Type} : List (Lit × DataW H) → Nat
  | [] => 0
  | x :: r => uptoBulkEntry x + uptoBulkEntries r
def uptoBulkEntry {H : Type} : Lit × DataW H → Nat
  | (.string bytes, d) => bytes.length + uptoBulk d + 1
  | (_, d) => uptoBulk d + 1
 end
def uptoSmall : (H : Type) → List (DataW H) → Bool := fun _ ds => decide (uptoBulkAll ds ≤ 1048576)
def OpenSpec.upto (s : _root_.Go.ChangeSpec) : _root_.Go.OpenSpec := { _root_.Go.OpenSpec.ofChange s with cond := some uptoSmall }

/-- 'aqueductlaw04.RingLongs', WHERE WHAT IT READS IS OF BULK AT MOST 1048576: true; the input reads as it did. -/
def ringLongsUptoRow : OpenClaim := { program := "ytpkgjgfdobcboaa", sum := "5c135cdd672d95d15d3ffaffdde8ed234ce6c4263cc06dc0465c176f9c307744", func := "aqueduct/aqueductlaw04.RingLongs", spec := "ringLongs", apart := false, narrowed := true }
def RingLongsUptoSaid : Prop := ringLongsUptoRow.holds Try.pinned (OpenSpec.upto ringLongsSpec)

/-- 'aqueductlaw04.RingPeeks', WHERE WHAT IT READS IS OF BULK AT MOST 1048576: true; the input reads as it did. -/
def ringPeeksUptoRow : OpenClaim := { program := "ytpkgjgfdobcboaa", sum := "5c135cdd672d95d15d3ffaffdde8ed234ce6c4263cc06dc0465c176f9c307744", func := "aqueduct/aqueductlaw04.RingPeeks", spec := "ringPeeks", apart := false, narrowed := true }
def RingPeeksUptoSaid : Prop := ringPeeksUptoRow.holds Try.pinned (OpenSpec.upto ringPeeksSpec)

/-- 'aqueductlaw04.RingHolds', WHERE WHAT IT READS IS OF BULK AT MOST 1048576: true; the input reads as it did. -/
def ringHoldsUptoRow : OpenClaim := { program := "ytpkgjgfdobcboaa", sum := "5c135cdd672d95d15d3ffaffdde8ed234ce6c4263cc06dc0465c176f9c307744", func := "aqueduct/aqueductlaw04.RingHolds", spec := "ringHolds", apart := false, narrowed := true }
def RingHoldsUptoSaid : Prop := ringHoldsUptoRow.holds Try.pinned (OpenSpec.upto ringHoldsSpec)

/-- 'aqueductlaw04.RingPlays', WHERE WHAT IT READS IS OF BULK AT MOST 1048576: true; the input reads as it did. -/
def ringPlaysUptoRow : OpenClaim := { program := "ytpkgjgfdobcboaa", sum := "5c135cdd672d95d15d3ffaffdde8ed234ce6c4263cc06dc0465c176f9c307744", func := "aqueduct/aqueductlaw04.RingPlays", spec := "ringPlays", apart := false, narrowed := true }
def RingPlaysUptoSaid : Prop := ringPlaysUptoRow.holds Try.pinned (OpenSpec.upto ringPlaysSpec)

/-- 'aqueductlaw04.RingNil', WHERE WHAT IT READS IS OF BULK AT MOST 1048576: true; the input reads as it did. -/
def ringNilUptoRow : OpenClaim := { program := "ytpkgjgfdobcboaa", sum := "5c135cdd672d95d15d3ffaffdde8ed234ce6c4263cc06dc0465c176f9c307744", func := "aqueduct/aqueductlaw04.RingNil", spec := "ringNil", apart := false, narrowed := true }
def RingNilUptoSaid : Prop := ringNilUptoRow.holds Try.pinned (OpenSpec.upto ringNilSpec)

/-- 'aqueductlaw05.RopeMakes', WHERE WHAT IT READS IS OF BULK AT MOST 1048576: true; the input reads as it did. -/
def ropeMakesUptoRow : OpenClaim := { program := "ytpkgjgfdobcboaa", sum := "5c135cdd672d95d15d3ffaffdde8ed234ce6c4263cc06dc0465c176f9c307744", func := "aqueduct/aqueductlaw05.RopeMakes", spec := "ropeMakes", unfollowed := true, recurses := true, apart := false, narrowed := true }
def RopeMakesUptoSaid : Prop := ropeMakesUptoRow.holds Try.pinned (OpenSpec.upto ropeMakesSpec)

/-- 'aqueductlaw05.RopeParts', WHERE WHAT IT READS IS OF BULK AT MOST 1048576: true; the input reads as it did. -/
def ropePartsUptoRow : OpenClaim := { program := "ytpkgjgfdobcboaa", sum := "5c135cdd672d95d15d3ffaffdde8ed234ce6c4263cc06dc0465c176f9c307744", func := "aqueduct/aqueductlaw05.RopeParts", spec := "ropeParts", unfollowed := true, recurses := true, apart := false, narrowed := true }
def RopePartsUptoSaid : Prop := ropePartsUptoRow.holds Try.pinned (OpenSpec.upto ropePartsSpec)

/-- 'aqueductlaw05.RopeTakes', WHERE WHAT IT READS IS OF BULK AT MOST 1048576: true; the input reads as it did. -/
def ropeTakesUptoRow : OpenClaim := { program := "ytpkgjgfdobcboaa", sum := "5c135cdd672d95d15d3ffaffdde8ed234ce6c4263cc06dc0465c176f9c307744", func := "aqueduct/aqueductlaw05.RopeTakes", spec := "ropeTakes", unfollowed := true, recurses := true, apart := false, narrowed := true }
def RopeTakesUptoSaid : Prop := ropeTakesUptoRow.holds Try.pinned (OpenSpec.upto ropeTakesSpec)

/-- 'aqueductlaw05.RopeJoins', WHERE WHAT IT READS IS OF BULK AT MOST 1048576: true; the input reads as it did. -/
def ropeJoinsUptoRow : OpenClaim := { program := "ytpkgjgfdobcboaa", sum := "5c135cdd672d95d15d3ffaffdde8ed234ce6c4263cc06dc0465c176f9c307744", func := "aqueduct/aqueductlaw05.RopeJoins", spec := "ropeJoins", unfollowed := true, recurses := true, apart := false, narrowed := true }
def RopeJoinsUptoSaid : Prop := ropeJoinsUptoRow.holds Try.pinned (OpenSpec.upto ropeJoinsSpec)

/-- 'aqueductlaw05.RopeHolds', WHERE WHAT IT READS IS OF BULK AT MOST 1048576: true; the input reads as it did. -/
def ropeHoldsUptoRow : OpenClaim := { program := "ytpkgjgfdobcboaa", sum := "5c135cdd672d95d15d3ffaffdde8ed234ce6c4263cc06dc0465c176f9c307744", func := "aqueduct/aqueductlaw05.RopeHolds", spec := "ropeHolds", unfollowed := true, recurses := true, apart := false, narrowed := true }
def RopeHoldsUptoSaid : Prop := ropeHoldsUptoRow.holds Try.pinned (OpenSpec.upto ropeHoldsSpec)

/-- 'aqueductlaw12.MeetSplits', WHERE WHAT IT READS IS OF BULK AT MOST 1048576: true; the input reads as it did. -/
def meetSplitsUptoRow : OpenClaim := { program := "ytpkgjgfdobcboaa", sum := "5c135cdd672d95d15d3ffaffdde8ed234ce6c4263cc06dc0465c176f9c307744", func := "aqueduct/aqueductlaw12.MeetSplits", spec := "meetSplits", apart := false, narrowed := true }
def MeetSplitsUptoSaid : Prop := meetSplitsUptoRow.holds Try.pinned (OpenSpec.upto meetSplitsSpec)

/-- 'aqueductlaw12.MeetHolds', WHERE WHAT IT READS IS OF BULK AT MOST 1048576: true; the input reads as it did. -/
def meetHoldsUptoRow : OpenClaim := { program := "ytpkgjgfdobcboaa", sum := "5c135cdd672d95d15d3ffaffdde8ed234ce6c4263cc06dc0465c176f9c307744", func := "aqueduct/aqueductlaw12.MeetHolds", spec := "meetHolds", apart := false, narrowed := true }
def MeetHoldsUptoSaid : Prop := meetHoldsUptoRow.holds Try.pinned (OpenSpec.upto meetHoldsSpec)

/-- 'aqueductlaw12.MeetCloses', WHERE WHAT IT READS IS OF BULK AT MOST 1048576: true; the input reads as it did. -/
def meetClosesUptoRow : OpenClaim := { program := "ytpkgjgfdobcboaa", sum := "5c135cdd672d95d15d3ffaffdde8ed234ce6c4263cc06dc0465c176f9c307744", func := "aqueduct/aqueductlaw12.MeetCloses", spec := "meetCloses", apart := false, narrowed := true }
def MeetClosesUptoSaid : Prop := meetClosesUptoRow.holds Try.pinned (OpenSpec.upto meetClosesSpec)

/-- 'aqueductlaw12.MeetPlays', WHERE WHAT IT READS IS OF BULK AT MOST 1048576: true; the input reads as it did. -/
def meetPlaysUptoRow : OpenClaim := { program := "ytpkgjgfdobcboaa", sum := "5c135cdd672d95d15d3ffaffdde8ed234ce6c4263cc06dc0465c176f9c307744", func := "aqueduct/aqueductlaw12.MeetPlays", spec := "meetPlays", apart := false, narrowed := true }
def MeetPlaysUptoSaid : Prop := meetPlaysUptoRow.holds Try.pinned (OpenSpec.upto meetPlaysSpec)

/-- 'aqueductlaw12.MeetNil', WHERE WHAT IT READS IS OF BULK AT MOST 1048576: true; the input reads as it did. -/
def meetNilUptoRow : OpenClaim := { program := "ytpkgjgfdobcboaa", sum := "5c135cdd672d95d15d3ffaffdde8ed234ce6c4263cc06dc0465c176f9c307744", func := "aqueduct/aqueductlaw12.MeetNil", spec := "meetNil", apart := false, narrowed := true }
def MeetNilUptoSaid : Prop := meetNilUptoRow.holds Try.pinned (OpenSpec.upto meetNilSpec)

/-- 'aqueductlaw13.FlowSplits', WHERE WHAT IT READS IS OF BULK AT MOST 1048576: true; the input reads as it did. -/
def flowSplitsUptoRow : OpenClaim := { program := "ytpkgjgfdobcboaa", sum := "5c135cdd672d95d15d3ffaffdde8ed234ce6c4263cc06dc0465c176f9c307744", func := "aqueduct/aqueductlaw13.FlowSplits", spec := "flowSplits", unfollowed := true, recurses := true, apart := false, narrowed := true }
def FlowSplitsUptoSaid : Prop := flowSplitsUptoRow.holds Try.pinned (OpenSpec.upto flowSplitsSpec)

/-- 'aqueductlaw13.FlowDrains', WHERE WHAT IT READS IS OF BULK AT MOST 1048576: true; the input reads as it did. -/
def flowDrainsUptoRow : OpenClaim := { program := "ytpkgjgfdobcboaa", sum := "5c135cdd672d95d15d3ffaffdde8ed234ce6c4263cc06dc0465c176f9c307744", func := "aqueduct/aqueductlaw13.FlowDrains", spec := "flowDrains", unfollowed := true, recurses := true, apart := false, narrowed := true }
def FlowDrainsUptoSaid : Prop := flowDrainsUptoRow.holds Try.pinned (OpenSpec.upto flowDrainsSpec)

/-- 'aqueductlaw13.FlowHolds', WHERE WHAT IT READS IS OF BULK AT MOST 1048576: true; the input reads as it did. -/
def flowHoldsUptoRow : OpenClaim := { program := "ytpkgjgfdobcboaa", sum := "5c135cdd672d95d15d3ffaffdde8ed234ce6c4263cc06dc0465c176f9c307744", func := "aqueduct/aqueductlaw13.FlowHolds", spec := "flowHolds", unfollowed := true, recurses := true, apart := false, narrowed := true }
def FlowHoldsUptoSaid : Prop := flowHoldsUptoRow.holds Try.pinned (OpenSpec.upto flowHoldsSpec)

/-- 'aqueductlaw13.FlowPlays', WHERE WHAT IT READS IS OF BULK AT MOST 1048576: true; the input reads as it did. -/
def flowPlaysUptoRow : OpenClaim := { program := "ytpkgjgfdobcboaa", sum := "5c135cdd672d95d15d3ffaffdde8ed234ce6c4263cc06dc0465c176f9c307744", func := "aqueduct/aqueductlaw13.FlowPlays", spec := "flowPlays", unfollowed := true, recurses := true, apart := false, narrowed := true }
def FlowPlaysUptoSaid : Prop := flowPlaysUptoRow.holds Try.pinned (OpenSpec.upto flowPlaysSpec)

/-- 'aqueductlaw13.FlowNil', WHERE WHAT IT READS IS OF BULK AT MOST 1048576: true; the input reads as it did. -/
def flowNilUptoRow : OpenClaim := { program := "ytpkgjgfdobcboaa", sum := "5c135cdd672d95d15d3ffaffdde8ed234ce6c4263cc06dc0465c176f9c307744", func := "aqueduct/aqueductlaw13.FlowNil", spec := "flowNil", unfollowed := true, recurses := true, apart := false, narrowed := true }
def FlowNilUptoSaid : Prop := flowNilUptoRow.holds Try.pinned (OpenSpec.upto flowNilSpec)

end Rows
end Go.Proofs.Ytpkgjgfdobcboaa
