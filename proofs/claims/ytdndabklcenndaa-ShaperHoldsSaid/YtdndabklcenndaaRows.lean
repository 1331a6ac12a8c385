/-
  No cell of these rows narrows 'for every input' (looked for: loops, veiled, ifaces, maps, wideKeys, modest, calm, conditions, laid).
  DERIVED. THE GIVEN ROWS OF THIS SEAT. 10 by the template 'for every input the law returns true; each argument reads behind the call as it read before'; 0 by the template 'total and deterministic' (their statements: YtdndabklcenndaaTotals.lean).
  GIVEN WITH THE SEED: the statements are not yours to turn. If you find one false, say at which input.
  Laid BY PROGRAM, IN A SANDBOX (cutbox-rows.mjs): the forced cells as the released guide's own fill.sh prints them over the translation 4d2f3b7ef55f7b05… (all of the seat's roots in one cut). By AI agents, Wed Nov 11 2026. No macro, syntax, notation, axiom, sorry.
-/
import Derived.Test.YtdndabklcenndaaChecked
import GoSem.Claim
import GoSem.ClaimJoined
import GoSem.ClaimMapViews
import Derived.JoinedTies
import Derived.KernelRfl
namespace Go.Proofs.Ytdndabklcenndaa
/- THE CELL 'sum', in the pinned program and in every row, IS THE sha256 OF THE DUMP (.gsa) THAT YtdndabklcenndaaProg.lean LOADS. Nothing in Lean hashes anything: it is a label: what it is worth is what the hold of that sum in a sandbox is worth. -/
noncomputable def Try.pinned : Pinned := { name := "ytdndabklcenndaa", sum := "4d2f3b7ef55f7b05400623e1c3a6fcd391579f66954387b2583b91e07c917ef2", checked := Try.checked }
namespace Rows
def none {H : Type} : Left H := { results := [], args := [] }

/-- 'aqueductlaw40.BucketFills': WHATEVER THE INPUT: true; the input reads as it did. -/
def bucketFillsSpec : ChangeSpec := { name := "bucketFills", fn := fun _ => fun
  | [d1, d2, d3, d4, d5] => { results := [.lit (.bool true)], args := [d1, d2, d3, d4, d5] }
  | _ => none }
def bucketFillsRow : OpenClaim := { program := "ytdndabklcenndaa", sum := "4d2f3b7ef55f7b05400623e1c3a6fcd391579f66954387b2583b91e07c917ef2", func := "aqueduct/aqueductlaw40.BucketFills", spec := "bucketFills", unfollowed := true, recurses := true, apart := false }
def BucketFillsSaid : Prop := bucketFillsRow.holds Try.pinned (OpenSpec.ofChange bucketFillsSpec)

/-- ITS FALSE NEIGHBOUR: 'it returns false'. Refute it at one input. -/
def bucketFillsWrong : ChangeSpec := { name := "bucketFills", fn := fun _ => fun
  | [d1, d2, d3, d4, d5] => { results := [.lit (.bool false)], args := [d1, d2, d3, d4, d5] }
  | _ => none }
def BucketFillsWrongFalsely : Prop := bucketFillsRow.holds Try.pinned (OpenSpec.ofChange bucketFillsWrong)

/-- 'aqueductlaw40.BucketHolds': WHATEVER THE INPUT: true; the input reads as it did. -/
def bucketHoldsSpec : ChangeSpec := { name := "bucketHolds", fn := fun _ => fun
  | [d1, d2, d3, d4, d5] => { results := [.lit (.bool true)], args := [d1, d2, d3, d4, d5] }
  | _ => none }
def bucketHoldsRow : OpenClaim := { program := "ytdndabklcenndaa", sum := "4d2f3b7ef55f7b05400623e1c3a6fcd391579f66954387b2583b91e07c917ef2", func := "aqueduct/aqueductlaw40.BucketHolds", spec := "bucketHolds", unfollowed := true, recurses := true, apart := false }
def BucketHoldsSaid : Prop := bucketHoldsRow.holds Try.pinned (OpenSpec.ofChange bucketHoldsSpec)

/-- ITS FALSE NEIGHBOUR: 'it returns false'. Refute it at one input. -/
def bucketHoldsWrong : ChangeSpec := { name := "bucketHolds", fn := fun _ => fun
  | [d1, d2, d3, d4, d5] => { results := [.lit (.bool false)], args := [d1, d2, d3, d4, d5] }
  | _ => none }
def BucketHoldsWrongFalsely : Prop := bucketHoldsRow.holds Try.pinned (OpenSpec.ofChange bucketHoldsWrong)

/-- 'aqueductlaw40.BucketStarts': WHATEVER THE INPUT: true; the input reads as it did. -/
def bucketStartsSpec : ChangeSpec := { name := "bucketStarts", fn := fun _ => fun
  | [d1, d2, d3, d4, d5] => { results := [.lit (.bool true)], args := [d1, d2, d3, d4, d5] }
  | _ => none }
def bucketStartsRow : OpenClaim := { program := "ytdndabklcenndaa", sum := "4d2f3b7ef55f7b05400623e1c3a6fcd391579f66954387b2583b91e07c917ef2", func := "aqueduct/aqueductlaw40.BucketStarts", spec := "bucketStarts", unfollowed := true, recurses := true, apart := false }
def BucketStartsSaid : Prop := bucketStartsRow.holds Try.pinned (OpenSpec.ofChange bucketStartsSpec)

/-- ITS FALSE NEIGHBOUR: 'it returns false'. Refute it at one input. -/
def bucketStartsWrong : ChangeSpec := { name := "bucketStarts", fn := fun _ => fun
  | [d1, d2, d3, d4, d5] => { results := [.lit (.bool false)], args := [d1, d2, d3, d4, d5] }
  | _ => none }
def BucketStartsWrongFalsely : Prop := bucketStartsRow.holds Try.pinned (OpenSpec.ofChange bucketStartsWrong)

/-- 'aqueductlaw40.BucketPlays': WHATEVER THE INPUT: true; the input reads as it did. -/
def bucketPlaysSpec : ChangeSpec := { name := "bucketPlays", fn := fun _ => fun
  | [d1, d2, d3, d4, d5] => { results := [.lit (.bool true)], args := [d1, d2, d3, d4, d5] }
  | _ => none }
def bucketPlaysRow : OpenClaim := { program := "ytdndabklcenndaa", sum := "4d2f3b7ef55f7b05400623e1c3a6fcd391579f66954387b2583b91e07c917ef2", func := "aqueduct/aqueductlaw40.BucketPlays", spec := "bucketPlays", unfollowed := true, recurses := true, apart := false }
def BucketPlaysSaid : Prop := bucketPlaysRow.holds Try.pinned (OpenSpec.ofChange bucketPlaysSpec)

/-- ITS FALSE NEIGHBOUR: 'it returns false'. Refute it at one input. -/
def bucketPlaysWrong : ChangeSpec := { name := "bucketPlays", fn := fun _ => fun
  | [d1, d2, d3, d4, d5] => { results := [.lit (.bool false)], args := [d1, d2, d3, d4, d5] }
  | _ => none }
def BucketPlaysWrongFalsely : Prop := bucketPlaysRow.holds Try.pinned (OpenSpec.ofChange bucketPlaysWrong)

/-- 'aqueductlaw40.BucketNone': WHATEVER THE INPUT: true; the input reads as it did. -/
def bucketNoneSpec : ChangeSpec := { name := "bucketNone", fn := fun _ => fun
  | [d1, d2] => { results := [.lit (.bool true)], args := [d1, d2] }
  | _ => none }
def bucketNoneRow : OpenClaim := { program := "ytdndabklcenndaa", sum := "4d2f3b7ef55f7b05400623e1c3a6fcd391579f66954387b2583b91e07c917ef2", func := "aqueduct/aqueductlaw40.BucketNone", spec := "bucketNone", unfollowed := true, recurses := true, apart := false }
def BucketNoneSaid : Prop := bucketNoneRow.holds Try.pinned (OpenSpec.ofChange bucketNoneSpec)

/-- ITS FALSE NEIGHBOUR: 'it returns false'. Refute it at one input. -/
def bucketNoneWrong : ChangeSpec := { name := "bucketNone", fn := fun _ => fun
  | [d1, d2] => { results := [.lit (.bool false)], args := [d1, d2] }
  | _ => none }
def BucketNoneWrongFalsely : Prop := bucketNoneRow.holds Try.pinned (OpenSpec.ofChange bucketNoneWrong)

/-- 'aqueductlaw41.ShaperStarts': WHATEVER THE INPUT: true; the input reads as it did. -/
def shaperStartsSpec : ChangeSpec := { name := "shaperStarts", fn := fun _ => fun
  | [d] => { results := [.lit (.bool true)], args := [d] }
  | _ => none }
def shaperStartsRow : OpenClaim := { program := "ytdndabklcenndaa", sum := "4d2f3b7ef55f7b05400623e1c3a6fcd391579f66954387b2583b91e07c917ef2", func := "aqueduct/aqueductlaw41.ShaperStarts", spec := "shaperStarts", unfollowed := true, recurses := true, apart := false }
def ShaperStartsSaid : Prop := shaperStartsRow.holds Try.pinned (OpenSpec.ofChange shaperStartsSpec)

/-- ITS FALSE NEIGHBOUR: 'it returns false'. Refute it at one input. -/
def shaperStartsWrong : ChangeSpec := { name := "shaperStarts", fn := fun _ => fun
  | [d] => { results := [.lit (.bool false)], args := [d] }
  | _ => none }
def ShaperStartsWrongFalsely : Prop := shaperStartsRow.holds Try.pinned (OpenSpec.ofChange shaperStartsWrong)

/-- 'aqueductlaw41.ShaperLongs': WHATEVER THE INPUT: true; the input reads as it did. -/
def shaperLongsSpec : ChangeSpec := { name := "shaperLongs", fn := fun _ => fun
  | [d] => { results := [.lit (.bool true)], args := [d] }
  | _ => none }
def shaperLongsRow : OpenClaim := { program := "ytdndabklcenndaa", sum := "4d2f3b7ef55f7b05400623e1c3a6fcd391579f66954387b2583b91e07c917ef2", func := "aqueduct/aqueductlaw41.ShaperLongs", spec := "shaperLongs", unfollowed := true, recurses := true, apart := false }
def ShaperLongsSaid : Prop := shaperLongsRow.holds Try.pinned (OpenSpec.ofChange shaperLongsSpec)

/-- ITS FALSE NEIGHBOUR: 'it returns false'. Refute it at one input. -/
def shaperLongsWrong : ChangeSpec := { name := "shaperLongs", fn := fun _ => fun
  | [d] => { results := [.lit (.bool false)], args := [d] }
  | _ => none }
def ShaperLongsWrongFalsely : Prop := shaperLongsRow.holds Try.pinned (OpenSpec.ofChange shaperLongsWrong)

/-- 'aqueductlaw41.ShaperHolds': WHATEVER THE INPUT: true; the input reads as it did. -/
def shaperHoldsSpec : ChangeSpec := { name := "shaperHolds", fn := fun _ => fun
  | [d1, d2] => { results := [.lit (.bool true)], args := [d1, d2] }
  | _ => none }
def shaperHoldsRow : OpenClaim := { program := "ytdndabklcenndaa", sum := "4d2f3b7ef55f7b05400623e1c3a6fcd391579f66954387b2583b91e07c917ef2", func := "aqueduct/aqueductlaw41.ShaperHolds", spec := "shaperHolds", unfollowed := true, recurses := true, apart := false }
def ShaperHoldsSaid : Prop := shaperHoldsRow.holds Try.pinned (OpenSpec.ofChange shaperHoldsSpec)

/-- ITS FALSE NEIGHBOUR: 'it returns false'. Refute it at one input. -/
def shaperHoldsWrong : ChangeSpec := { name := "shaperHolds", fn := fun _ => fun
  | [d1, d2] => { results := [.lit (.bool false)], args := [d1, d2] }
  | _ => none }
def ShaperHoldsWrongFalsely : Prop := shaperHoldsRow.holds Try.pinned (OpenSpec.ofChange shaperHoldsWrong)

/-- 'aqueductlaw41.ShaperPlays': WHATEVER THE INPUT: true; the input reads as it did. -/
def shaperPlaysSpec : ChangeSpec := { name := "shaperPlays", fn := fun _ => fun
  | [d1, d2] => { results := [.lit (.bool true)], args := [d1, d2] }
  | _ => none }
def shaperPlaysRow : OpenClaim := { program := "ytdndabklcenndaa", sum := "4d2f3b7ef55f7b05400623e1c3a6fcd391579f66954387b2583b91e07c917ef2", func := "aqueduct/aqueductlaw41.ShaperPlays", spec := "shaperPlays", unfollowed := true, recurses := true, apart := false }
def ShaperPlaysSaid : Prop := shaperPlaysRow.holds Try.pinned (OpenSpec.ofChange shaperPlaysSpec)

/-- ITS FALSE NEIGHBOUR: 'it returns false'. Refute it at one input. -/
def shaperPlaysWrong : ChangeSpec := { name := "shaperPlays", fn := fun _ => fun
  | [d1, d2] => { results := [.lit (.bool false)], args := [d1, d2] }
  | _ => none }
def ShaperPlaysWrongFalsely : Prop := shaperPlaysRow.holds Try.pinned (OpenSpec.ofChange shaperPlaysWrong)

/-- 'aqueductlaw41.ShaperNone': WHATEVER THE INPUT: true; the input reads as it did. -/
def shaperNoneSpec : ChangeSpec := { name := "shaperNone", fn := fun _ => fun
  | [d1, d2] => { results := [.lit (.bool true)], args := [d1, d2] }
  | _ => none }
def shaperNoneRow : OpenClaim := { program := "ytdndabklcenndaa", sum := "4d2f3b7ef55f7b05400623e1c3a6fcd391579f66954387b2583b91e07c917ef2", func := "aqueduct/aqueductlaw41.ShaperNone", spec := "shaperNone", unfollowed := true, recurses := true, apart := false }
def ShaperNoneSaid : Prop := shaperNoneRow.holds Try.pinned (OpenSpec.ofChange shaperNoneSpec)

/-- ITS FALSE NEIGHBOUR: 'it returns false'. Refute it at one input. -/
def shaperNoneWrong : ChangeSpec := { name := "shaperNone", fn := fun _ => fun
  | [d1, d2] => { results := [.lit (.bool false)], args := [d1, d2] }
  | _ => none }
def ShaperNoneWrongFalsely : Prop := shaperNoneRow.holds Try.pinned (OpenSpec.ofChange shaperNoneWrong)

/- THE SECOND FORM. 'bulk': how many values and letters a reading holds, each counted each time it is reached (what is shared counts as often as it is met; a slice's spare places count too). A statement '..UptoSaid' is the law's where the arguments, and the package variables that the reading takes, are together of bulk at most 1048576: NARROWER than '..Said'. Prove '..Said' where nothing that the law and all that it calls make is longer than what came in: it says more and counts as full. Else prove '..UptoSaid'. A law counts once. -/
mutual
def uptoBulk {H : Type} : DataW H → Nat
  | .lit (.string bytes) => bytes.length + 1
  | .lit _ => 1
  | .nil => 1
  | .ptr d => uptoBulk d + 1
  | .slice elems spare => uptoBulkAll elems + uptoBulkAll spare + 1
  | .agg parts => uptoBulkAll parts + 1
  | .iface _ d => uptoBulk d + 1
  | .map entries => uptoBulkEntries entries + 1
  | .held _ => 1
def uptoBulkAll {H : Type} : List (DataW H) → Nat
  | [] => 0
  | d :: r => uptoBulk d + uptoBulkAll r
def uptoBulkEntries {H : Type} : List (Lit × DataW H) → Nat
  | [] => 0
  | x :: r => uptoBulkEntry x + uptoBulkEntries r
def uptoBulkEntry {H : Type} : Lit × DataW H → Nat
  | (.string bytes, d) => bytes.length + uptoBulk d + 1
  | (_, d) => uptoBulk d + 1
 end
def uptoSmall : (H : Type) → List (DataW H) → Bool := fun _ ds => decide (uptoBulkAll ds ≤ 1048576)
def OpenSpec.upto (s : _root_.Go.ChangeSpec) : _root_.Go.OpenSpec := { _root_.Go.OpenSpec.ofChange s with cond := some uptoSmall }

/-- 'aqueductlaw40.BucketFills', WHERE WHAT IT READS IS OF BULK AT MOST 1048576: true; the input reads as it did. -/
def bucketFillsUptoRow : OpenClaim := { program := "ytdndabklcenndaa", sum := "4d2f3b7ef55f7b05400623e1c3a6fcd391579f66954387b2583b91e07c917ef2", func := "aqueduct/aqueductlaw40.BucketFills", spec := "bucketFills", unfollowed := true, recurses := true, apart := false, narrowed := true }
def BucketFillsUptoSaid : Prop := bucketFillsUptoRow.holds Try.pinned (OpenSpec.upto bucketFillsSpec)

/-- 'aqueductlaw40.BucketHolds', WHERE WHAT IT READS IS OF BULK AT MOST 1048576: true; the input reads as it did. -/
def bucketHoldsUptoRow : OpenClaim := { program := "ytdndabklcenndaa", sum := "4d2f3b7ef55f7b05400623e1c3a6fcd391579f66954387b2583b91e07c917ef2", func := "aqueduct/aqueductlaw40.BucketHolds", spec := "bucketHolds", unfollowed := true, recurses := true, apart := false, narrowed := true }
def BucketHoldsUptoSaid : Prop := bucketHoldsUptoRow.holds Try.pinned (OpenSpec.upto bucketHoldsSpec)

/-- 'aqueductlaw40.BucketStarts', WHERE WHAT IT READS IS OF BULK AT MOST 1048576: true; the input reads as it did. -/
def bucketStartsUptoRow : OpenClaim := { program := "ytdndabklcenndaa", sum := "4d2f3b7ef55f7b05400623e1c3a6fcd391579f66954387b2583b91e07c917ef2", func := "aqueduct/aqueductlaw40.BucketStarts", spec := "bucketStarts", unfollowed := true, recurses := true, apart := false, narrowed := true }
def BucketStartsUptoSaid : Prop := bucketStartsUptoRow.holds Try.pinned (OpenSpec.upto bucketStartsSpec)

/-- 'aqueductlaw40.BucketPlays', WHERE WHAT IT READS IS OF BULK AT MOST 1048576: true; the input reads as it did. -/
def bucketPlaysUptoRow : OpenClaim := { program := "ytdndabklcenndaa", sum := "4d2f3b7ef55f7b05400623e1c3a6fcd391579f66954387b2583b91e07c917ef2", func := "aqueduct/aqueductlaw40.BucketPlays", spec := "bucketPlays", unfollowed := true, recurses := true, apart := false, narrowed := true }
def BucketPlaysUptoSaid : Prop := bucketPlaysUptoRow.holds Try.pinned (OpenSpec.upto bucketPlaysSpec)

/-- 'aqueductlaw40.BucketNone', WHERE WHAT IT READS IS OF BULK AT MOST 1048576: true; the input reads as it did. -/
def bucketNoneUptoRow : OpenClaim := { program := "ytdndabklcenndaa", sum := "4d2f3b7ef55f7b05400623e1c3a6fcd391579f66954387b2583b91e07c917ef2", func := "aqueduct/aqueductlaw40.BucketNone", spec := "bucketNone", unfollowed := true, recurses := true, apart := false, narrowed := true }
def BucketNoneUptoSaid : Prop := bucketNoneUptoRow.holds Try.pinned (OpenSpec.upto bucketNoneSpec)

/-- 'aqueductlaw41.ShaperStarts', WHERE WHAT IT READS IS OF BULK AT MOST 1048576: true; the input reads as it did. -/
def shaperStartsUptoRow : OpenClaim := { program := "ytdndabklcenndaa", sum := "4d2f3b7ef55f7b05400623e1c3a6fcd391579f66954387b2583b91e07c917ef2", func := "aqueduct/aqueductlaw41.ShaperStarts", spec := "shaperStarts", unfollowed := true, recurses := true, apart := false, narrowed := true }
def ShaperStartsUptoSaid : Prop := shaperStartsUptoRow.holds Try.pinned (OpenSpec.upto shaperStartsSpec)

/-- 'aqueductlaw41.ShaperLongs', WHERE WHAT IT READS IS OF BULK AT MOST 1048576: true; the input reads as it did. -/
def shaperLongsUptoRow : OpenClaim := { program := "ytdndabklcenndaa", sum := "4d2f3b7ef55f7b05400623e1c3a6fcd391579f66954387b2583b91e07c917ef2", func := "aqueduct/aqueductlaw41.ShaperLongs", spec := "shaperLongs", unfollowed := true, recurses := true, apart := false, narrowed := true }
def ShaperLongsUptoSaid : Prop := shaperLongsUptoRow.holds Try.pinned (OpenSpec.upto shaperLongsSpec)

/-- 'aqueductlaw41.ShaperHolds', WHERE WHAT IT READS IS OF BULK AT MOST 1048576: true; the input reads as it did. -/
def shaperHoldsUptoRow : OpenClaim := { program := "ytdndabklcenndaa", sum := "4d2f3b7ef55f7b05400623e1c3a6fcd391579f66954387b2583b91e07c917ef2", func := "aqueduct/aqueductlaw41.ShaperHolds", spec := "shaperHolds", unfollowed := true, recurses := true, apart := false, narrowed := true }
def ShaperHoldsUptoSaid : Prop := shaperHoldsUptoRow.holds Try.pinned (OpenSpec.upto shaperHoldsSpec)

/-- 'aqueductlaw41.ShaperPlays', WHERE WHAT IT READS IS OF BULK AT MOST 1048576: true; the input reads as it did. -/
def shaperPlaysUptoRow : OpenClaim := { program := "ytdndabklcenndaa", sum := "4d2f3b7ef55f7b05400623e1c3a6fcd391579f66954387b2583b91e07c917ef2", func := "aqueduct/aqueductlaw41.ShaperPlays", spec := "shaperPlays", unfollowed := true, recurses := true, apart := false, narrowed := true }
def ShaperPlaysUptoSaid : Prop := shaperPlaysUptoRow.holds Try.pinned (OpenSpec.upto shaperPlaysSpec)

/-- 'aqueductlaw41.ShaperNone', WHERE WHAT IT READS IS OF BULK AT MOST 1048576: true; the input reads as it did. -/
def shaperNoneUptoRow : OpenClaim := { program := "ytdndabklcenndaa", sum := "4d2f3b7ef55f7b05400623e1c3a6fcd391579f66954387b2583b91e07c917ef2", func := "aqueduct/aqueductlaw41.ShaperNone", spec := "shaperNone", unfollowed := true, recurses := true, apart := false, narrowed := true }
def ShaperNoneUptoSaid : Prop := shaperNoneUptoRow.holds Try.pinned (OpenSpec.upto shaperNoneSpec)

end Rows
end Go.Proofs.Ytdndabklcenndaa
