/-
  No cell of these rows narrows 'for every input' (looked for: loops, veiled, ifaces, maps, wideKeys, modest, calm, conditions, laid).
  DERIVED. THE GIVEN ROWS OF THIS SEAT. 10 by the template 'for every input the law returns true; each argument reads behind the call as it read before'; 0 by the template 'total and deterministic' (their statements: YtodpkdbcdbdjfaaTotals.lean).
  GIVEN WITH THE SEED: the statements are not yours to turn. If you find one false, say at which input.
  Laid BY PROGRAM, IN A SANDBOX (cutbox-rows.mjs): the forced cells as the released guide's own fill.sh prints them over the translation 8449bb1e0025801c… (all of the seat's roots in one cut). By AI agents, Wed Nov 11 2026. No macro, syntax, notation, axiom, sorry.
-/
import Derived.Test.YtodpkdbcdbdjfaaChecked
import GoSem.Claim
import GoSem.ClaimJoined
import GoSem.ClaimMapViews
import Derived.JoinedTies
import Derived.KernelRfl
namespace Go.Proofs.Ytodpkdbcdbdjfaa
/- THE CELL 'sum', in the pinned program and in every row, IS THE sha256 OF THE DUMP (.gsa) THAT YtodpkdbcdbdjfaaProg.lean LOADS. Nothing in Lean hashes anything: it is a label: what it is worth is what the hold of that sum in a sandbox is worth. -/
noncomputable def Try.pinned : Pinned := { name := "ytodpkdbcdbdjfaa", sum := "8449bb1e0025801c17ff1451dfed241f94c256cce0b26bc62b348845a45933ea", checked := Try.checked }
namespace Rows
def none {H : Type} : Left H := { results := [], args := [] }

/-- 'aqueductlaw21.TransferRuns': WHATEVER THE INPUT: true; the input reads as it did. -/
def transferRunsSpec : ChangeSpec := { name := "transferRuns", fn := fun _ => fun
  | [d1, d2, d3, d4, d5, d6] => { results := [.lit (.bool true)], args := [d1, d2, d3, d4, d5, d6] }
  | _ => none }
def transferRunsRow : OpenClaim := { program := "ytodpkdbcdbdjfaa", sum := "8449bb1e0025801c17ff1451dfed241f94c256cce0b26bc62b348845a45933ea", func := "aqueduct/aqueductlaw21.TransferRuns", spec := "transferRuns", unfollowed := true, recurses := true, apart := false }
def TransferRunsSaid : Prop := transferRunsRow.holds Try.pinned (OpenSpec.ofChange transferRunsSpec)

/-- ITS FALSE NEIGHBOUR: 'it returns false'. Refute it at one input. -/
def transferRunsWrong : ChangeSpec := { name := "transferRuns", fn := fun _ => fun
  | [d1, d2, d3, d4, d5, d6] => { results := [.lit (.bool false)], args := [d1, d2, d3, d4, d5, d6] }
  | _ => none }
def TransferRunsWrongFalsely : Prop := transferRunsRow.holds Try.pinned (OpenSpec.ofChange transferRunsWrong)

/-- 'aqueductlaw21.TransferHolds': WHATEVER THE INPUT: true; the input reads as it did. -/
def transferHoldsSpec : ChangeSpec := { name := "transferHolds", fn := fun _ => fun
  | [d1, d2, d3] => { results := [.lit (.bool true)], args := [d1, d2, d3] }
  | _ => none }
def transferHoldsRow : OpenClaim := { program := "ytodpkdbcdbdjfaa", sum := "8449bb1e0025801c17ff1451dfed241f94c256cce0b26bc62b348845a45933ea", func := "aqueduct/aqueductlaw21.TransferHolds", spec := "transferHolds", unfollowed := true, recurses := true, apart := false }
def TransferHoldsSaid : Prop := transferHoldsRow.holds Try.pinned (OpenSpec.ofChange transferHoldsSpec)

/-- ITS FALSE NEIGHBOUR: 'it returns false'. Refute it at one input. -/
def transferHoldsWrong : ChangeSpec := { name := "transferHolds", fn := fun _ => fun
  | [d1, d2, d3] => { results := [.lit (.bool false)], args := [d1, d2, d3] }
  | _ => none }
def TransferHoldsWrongFalsely : Prop := transferHoldsRow.holds Try.pinned (OpenSpec.ofChange transferHoldsWrong)

/-- 'aqueductlaw21.TransferPlays': WHATEVER THE INPUT: true; the input reads as it did. -/
def transferPlaysSpec : ChangeSpec := { name := "transferPlays", fn := fun _ => fun
  | [d1, d2, d3] => { results := [.lit (.bool true)], args := [d1, d2, d3] }
  | _ => none }
def transferPlaysRow : OpenClaim := { program := "ytodpkdbcdbdjfaa", sum := "8449bb1e0025801c17ff1451dfed241f94c256cce0b26bc62b348845a45933ea", func := "aqueduct/aqueductlaw21.TransferPlays", spec := "transferPlays", unfollowed := true, recurses := true, apart := false }
def TransferPlaysSaid : Prop := transferPlaysRow.holds Try.pinned (OpenSpec.ofChange transferPlaysSpec)

/-- ITS FALSE NEIGHBOUR: 'it returns false'. Refute it at one input. -/
def transferPlaysWrong : ChangeSpec := { name := "transferPlays", fn := fun _ => fun
  | [d1, d2, d3] => { results := [.lit (.bool false)], args := [d1, d2, d3] }
  | _ => none }
def TransferPlaysWrongFalsely : Prop := transferPlaysRow.holds Try.pinned (OpenSpec.ofChange transferPlaysWrong)

/-- 'aqueductlaw21.TransferNone': WHATEVER THE INPUT: true; the input reads as it did. -/
def transferNoneSpec : ChangeSpec := { name := "transferNone", fn := fun _ => fun
  | [d1, d2] => { results := [.lit (.bool true)], args := [d1, d2] }
  | _ => none }
def transferNoneRow : OpenClaim := { program := "ytodpkdbcdbdjfaa", sum := "8449bb1e0025801c17ff1451dfed241f94c256cce0b26bc62b348845a45933ea", func := "aqueduct/aqueductlaw21.TransferNone", spec := "transferNone", unfollowed := true, recurses := true, apart := false }
def TransferNoneSaid : Prop := transferNoneRow.holds Try.pinned (OpenSpec.ofChange transferNoneSpec)

/-- ITS FALSE NEIGHBOUR: 'it returns false'. Refute it at one input. -/
def transferNoneWrong : ChangeSpec := { name := "transferNone", fn := fun _ => fun
  | [d1, d2] => { results := [.lit (.bool false)], args := [d1, d2] }
  | _ => none }
def TransferNoneWrongFalsely : Prop := transferNoneRow.holds Try.pinned (OpenSpec.ofChange transferNoneWrong)

/-- 'aqueductlaw21.TransferRestores': WHATEVER THE INPUT: true; the input reads as it did. -/
def transferRestoresSpec : ChangeSpec := { name := "transferRestores", fn := fun _ => fun
  | [d1, d2] => { results := [.lit (.bool true)], args := [d1, d2] }
  | _ => none }
def transferRestoresRow : OpenClaim := { program := "ytodpkdbcdbdjfaa", sum := "8449bb1e0025801c17ff1451dfed241f94c256cce0b26bc62b348845a45933ea", func := "aqueduct/aqueductlaw21.TransferRestores", spec := "transferRestores", unfollowed := true, recurses := true, apart := false }
def TransferRestoresSaid : Prop := transferRestoresRow.holds Try.pinned (OpenSpec.ofChange transferRestoresSpec)

/-- ITS FALSE NEIGHBOUR: 'it returns false'. Refute it at one input. -/
def transferRestoresWrong : ChangeSpec := { name := "transferRestores", fn := fun _ => fun
  | [d1, d2] => { results := [.lit (.bool false)], args := [d1, d2] }
  | _ => none }
def TransferRestoresWrongFalsely : Prop := transferRestoresRow.holds Try.pinned (OpenSpec.ofChange transferRestoresWrong)

/-- 'aqueductlaw22.SpliceAlone': WHATEVER THE INPUT: true; the input reads as it did. -/
def spliceAloneSpec : ChangeSpec := { name := "spliceAlone", fn := fun _ => fun
  | [d1, d2] => { results := [.lit (.bool true)], args := [d1, d2] }
  | _ => none }
def spliceAloneRow : OpenClaim := { program := "ytodpkdbcdbdjfaa", sum := "8449bb1e0025801c17ff1451dfed241f94c256cce0b26bc62b348845a45933ea", func := "aqueduct/aqueductlaw22.SpliceAlone", spec := "spliceAlone", unfollowed := true, recurses := true, apart := false }
def SpliceAloneSaid : Prop := spliceAloneRow.holds Try.pinned (OpenSpec.ofChange spliceAloneSpec)

/-- ITS FALSE NEIGHBOUR: 'it returns false'. Refute it at one input. -/
def spliceAloneWrong : ChangeSpec := { name := "spliceAlone", fn := fun _ => fun
  | [d1, d2] => { results := [.lit (.bool false)], args := [d1, d2] }
  | _ => none }
def SpliceAloneWrongFalsely : Prop := spliceAloneRow.holds Try.pinned (OpenSpec.ofChange spliceAloneWrong)

/-- 'aqueductlaw22.SpliceRuns': WHATEVER THE INPUT: true; the input reads as it did. -/
def spliceRunsSpec : ChangeSpec := { name := "spliceRuns", fn := fun _ => fun
  | [d1, d2, d3, d4, d5] => { results := [.lit (.bool true)], args := [d1, d2, d3, d4, d5] }
  | _ => none }
def spliceRunsRow : OpenClaim := { program := "ytodpkdbcdbdjfaa", sum := "8449bb1e0025801c17ff1451dfed241f94c256cce0b26bc62b348845a45933ea", func := "aqueduct/aqueductlaw22.SpliceRuns", spec := "spliceRuns", unfollowed := true, recurses := true, apart := false }
def SpliceRunsSaid : Prop := spliceRunsRow.holds Try.pinned (OpenSpec.ofChange spliceRunsSpec)

/-- ITS FALSE NEIGHBOUR: 'it returns false'. Refute it at one input. -/
def spliceRunsWrong : ChangeSpec := { name := "spliceRuns", fn := fun _ => fun
  | [d1, d2, d3, d4, d5] => { results := [.lit (.bool false)], args := [d1, d2, d3, d4, d5] }
  | _ => none }
def SpliceRunsWrongFalsely : Prop := spliceRunsRow.holds Try.pinned (OpenSpec.ofChange spliceRunsWrong)

/-- 'aqueductlaw22.SpliceHolds': WHATEVER THE INPUT: true; the input reads as it did. -/
def spliceHoldsSpec : ChangeSpec := { name := "spliceHolds", fn := fun _ => fun
  | [d1, d2] => { results := [.lit (.bool true)], args := [d1, d2] }
  | _ => none }
def spliceHoldsRow : OpenClaim := { program := "ytodpkdbcdbdjfaa", sum := "8449bb1e0025801c17ff1451dfed241f94c256cce0b26bc62b348845a45933ea", func := "aqueduct/aqueductlaw22.SpliceHolds", spec := "spliceHolds", unfollowed := true, recurses := true, apart := false }
def SpliceHoldsSaid : Prop := spliceHoldsRow.holds Try.pinned (OpenSpec.ofChange spliceHoldsSpec)

/-- ITS FALSE NEIGHBOUR: 'it returns false'. Refute it at one input. -/
def spliceHoldsWrong : ChangeSpec := { name := "spliceHolds", fn := fun _ => fun
  | [d1, d2] => { results := [.lit (.bool false)], args := [d1, d2] }
  | _ => none }
def SpliceHoldsWrongFalsely : Prop := spliceHoldsRow.holds Try.pinned (OpenSpec.ofChange spliceHoldsWrong)

/-- 'aqueductlaw22.SplicePlays': WHATEVER THE INPUT: true; the input reads as it did. -/
def splicePlaysSpec : ChangeSpec := { name := "splicePlays", fn := fun _ => fun
  | [d1, d2] => { results := [.lit (.bool true)], args := [d1, d2] }
  | _ => none }
def splicePlaysRow : OpenClaim := { program := "ytodpkdbcdbdjfaa", sum := "8449bb1e0025801c17ff1451dfed241f94c256cce0b26bc62b348845a45933ea", func := "aqueduct/aqueductlaw22.SplicePlays", spec := "splicePlays", unfollowed := true, recurses := true, apart := false }
def SplicePlaysSaid : Prop := splicePlaysRow.holds Try.pinned (OpenSpec.ofChange splicePlaysSpec)

/-- ITS FALSE NEIGHBOUR: 'it returns false'. Refute it at one input. -/
def splicePlaysWrong : ChangeSpec := { name := "splicePlays", fn := fun _ => fun
  | [d1, d2] => { results := [.lit (.bool false)], args := [d1, d2] }
  | _ => none }
def SplicePlaysWrongFalsely : Prop := splicePlaysRow.holds Try.pinned (OpenSpec.ofChange splicePlaysWrong)

/-- 'aqueductlaw22.SpliceNone': WHATEVER THE INPUT: true; the input reads as it did. -/
def spliceNoneSpec : ChangeSpec := { name := "spliceNone", fn := fun _ => fun
  | [d1, d2, d3] => { results := [.lit (.bool true)], args := [d1, d2, d3] }
  | _ => none }
def spliceNoneRow : OpenClaim := { program := "ytodpkdbcdbdjfaa", sum := "8449bb1e0025801c17ff1451dfed241f94c256cce0b26bc62b348845a45933ea", func := "aqueduct/aqueductlaw22.SpliceNone", spec := "spliceNone", unfollowed := true, recurses := true, apart := false }
def SpliceNoneSaid : Prop := spliceNoneRow.holds Try.pinned (OpenSpec.ofChange spliceNoneSpec)

/-- ITS FALSE NEIGHBOUR: 'it returns false'. Refute it at one input. -/
def spliceNoneWrong : ChangeSpec := { name := "spliceNone", fn := fun _ => fun
  | [d1, d2, d3] => { results := [.lit (.bool false)], args := [d1, d2, d3] }
  | _ => none }
def SpliceNoneWrongFalsely : Prop := spliceNoneRow.holds Try.pinned (OpenSpec.ofChange spliceNoneWrong)

/- THE SECOND FORM. 'bulk': how many values and letters a reading holds, each counted each time it is reached (what is shared counts as often as it is met; a slice's spare places count too). A statement '..UptoSaid' is the law's where the arguments, and the package variables that the reading takes, are together of bulk at most 1048576: NARROWER than '..Said'. Prove '..Said' where nothing that the law and all that it calls make is longer than what came in: it says more and counts as full. Else prove '..UptoSaid'. A law counts once. -/
mutual
def uptoBulk {H : Type} : DataW H → Nat
  | .lit (.string bytes) => bytes.length + 1
  | .lit _ => 1
  | .nil => 1
  | .ptr d => uptoBulk d + 1
  | .slice elems spare => uptoBulkAll elems + uptoBulkAll spare + 1
  | .agg parts => uptoBulkAll parts + 1
  | .iface _ d => uptoBulk d + 1
  | .map entries => uptoBulkEntries entries + 1
  | .held _ => 1
def uptoBulkAll {H : Type} : List (DataW H) → Nat
  | [] => 0
  | d :: r => uptoBulk d + uptoBulkAll r
def uptoBulkEntries {H : Type} : List (Lit × DataW H) → Nat
  | [] => 0
  | x :: r => uptoBulkEntry x + uptoBulkEntries r
def uptoBulkEntry {H : Type} : Lit × DataW H → Nat
  | (.string bytes, d) => bytes.length + uptoBulk d + 1
  | (_, d) => uptoBulk d + 1
 end
def uptoSmall : (H : Type) → List (DataW H) → Bool := fun _ ds => decide (uptoBulkAll ds ≤ 1048576)
def OpenSpec.upto (s : _root_.Go.ChangeSpec) : _root_.Go.OpenSpec := { _root_.Go.OpenSpec.ofChange s with cond := some uptoSmall }

/-- 'aqueductlaw21.TransferRuns', WHERE WHAT IT READS IS OF BULK AT MOST 1048576: true; the input reads as it did. -/
def transferRunsUptoRow : OpenClaim := { program := "ytodpkdbcdbdjfaa", sum := "8449bb1e0025801c17ff1451dfed241f94c256cce0b26bc62b348845a45933ea", func := "aqueduct/aqueductlaw21.TransferRuns", spec := "transferRuns", unfollowed := true, recurses := true, apart := false, narrowed := true }
def TransferRunsUptoSaid : Prop := transferRunsUptoRow.holds Try.pinned (OpenSpec.upto transferRunsSpec)

/-- 'aqueductlaw21.TransferHolds', WHERE WHAT IT READS IS OF BULK AT MOST 1048576: true; the input reads as it did. -/
def transferHoldsUptoRow : OpenClaim := { program := "ytodpkdbcdbdjfaa", sum := "8449bb1e0025801c17ff1451dfed241f94c256cce0b26bc62b348845a45933ea", func := "aqueduct/aqueductlaw21.TransferHolds", spec := "transferHolds", unfollowed := true, recurses := true, apart := false, narrowed := true }
def TransferHoldsUptoSaid : Prop := transferHoldsUptoRow.holds Try.pinned (OpenSpec.upto transferHoldsSpec)

/-- 'aqueductlaw21.TransferPlays', WHERE WHAT IT READS IS OF BULK AT MOST 1048576: true; the input reads as it did. -/
def transferPlaysUptoRow : OpenClaim := { program := "ytodpkdbcdbdjfaa", sum := "8449bb1e0025801c17ff1451dfed241f94c256cce0b26bc62b348845a45933ea", func := "aqueduct/aqueductlaw21.TransferPlays", spec := "transferPlays", unfollowed := true, recurses := true, apart := false, narrowed := true }
def TransferPlaysUptoSaid : Prop := transferPlaysUptoRow.holds Try.pinned (OpenSpec.upto transferPlaysSpec)

/-- 'aqueductlaw21.TransferNone', WHERE WHAT IT READS IS OF BULK AT MOST 1048576: true; the input reads as it did. -/
def transferNoneUptoRow : OpenClaim := { program := "ytodpkdbcdbdjfaa", sum := "8449bb1e0025801c17ff1451dfed241f94c256cce0b26bc62b348845a45933ea", func := "aqueduct/aqueductlaw21.TransferNone", spec := "transferNone", unfollowed := true, recurses := true, apart := false, narrowed := true }
def TransferNoneUptoSaid : Prop := transferNoneUptoRow.holds Try.pinned (OpenSpec.upto transferNoneSpec)

/-- 'aqueductlaw21.TransferRestores', WHERE WHAT IT READS IS OF BULK AT MOST 1048576: true; the input reads as it did. -/
def transferRestoresUptoRow : OpenClaim := { program := "ytodpkdbcdbdjfaa", sum := "8449bb1e0025801c17ff1451dfed241f94c256cce0b26bc62b348845a45933ea", func := "aqueduct/aqueductlaw21.TransferRestores", spec := "transferRestores", unfollowed := true, recurses := true, apart := false, narrowed := true }
def TransferRestoresUptoSaid : Prop := transferRestoresUptoRow.holds Try.pinned (OpenSpec.upto transferRestoresSpec)

/-- 'aqueductlaw22.SpliceAlone', WHERE WHAT IT READS IS OF BULK AT MOST 1048576: true; the input reads as it did. -/
def spliceAloneUptoRow : OpenClaim := { program := "ytodpkdbcdbdjfaa", sum := "8449bb1e0025801c17ff1451dfed241f94c256cce0b26bc62b348845a45933ea", func := "aqueduct/aqueductlaw22.SpliceAlone", spec := "spliceAlone", unfollowed := true, recurses := true, apart := false, narrowed := true }
def SpliceAloneUptoSaid : Prop := spliceAloneUptoRow.holds Try.pinned (OpenSpec.upto spliceAloneSpec)

/-- 'aqueductlaw22.SpliceRuns', WHERE WHAT IT READS IS OF BULK AT MOST 1048576: true; the input reads as it did. -/
def spliceRunsUptoRow : OpenClaim := { program := "ytodpkdbcdbdjfaa", sum := "8449bb1e0025801c17ff1451dfed241f94c256cce0b26bc62b348845a45933ea", func := "aqueduct/aqueductlaw22.SpliceRuns", spec := "spliceRuns", unfollowed := true, recurses := true, apart := false, narrowed := true }
def SpliceRunsUptoSaid : Prop := spliceRunsUptoRow.holds Try.pinned (OpenSpec.upto spliceRunsSpec)

/-- 'aqueductlaw22.SpliceHolds', WHERE WHAT IT READS IS OF BULK AT MOST 1048576: true; the input reads as it did. -/
def spliceHoldsUptoRow : OpenClaim := { program := "ytodpkdbcdbdjfaa", sum := "8449bb1e0025801c17ff1451dfed241f94c256cce0b26bc62b348845a45933ea", func := "aqueduct/aqueductlaw22.SpliceHolds", spec := "spliceHolds", unfollowed := true, recurses := true, apart := false, narrowed := true }
def SpliceHoldsUptoSaid : Prop := spliceHoldsUptoRow.holds Try.pinned (OpenSpec.upto spliceHoldsSpec)

/-- 'aqueductlaw22.SplicePlays', WHERE WHAT IT READS IS OF BULK AT MOST 1048576: true; the input reads as it did. -/
def splicePlaysUptoRow : OpenClaim := { program := "ytodpkdbcdbdjfaa", sum := "8449bb1e0025801c17ff1451dfed241f94c256cce0b26bc62b348845a45933ea", func := "aqueduct/aqueductlaw22.SplicePlays", spec := "splicePlays", unfollowed := true, recurses := true, apart := false, narrowed := true }
def SplicePlaysUptoSaid : Prop := splicePlaysUptoRow.holds Try.pinned (OpenSpec.upto splicePlaysSpec)

/-- 'aqueductlaw22.SpliceNone', WHERE WHAT IT READS IS OF BULK AT MOST 1048576: true; the input reads as it did. -/
def spliceNoneUptoRow : OpenClaim := { program := "ytodpkdbcdbdjfaa", sum := "8449bb1e0025801c17ff1451dfed241f94c256cce0b26bc62b348845a45933ea", func := "aqueduct/aqueductlaw22.SpliceNone", spec := "spliceNone", unfollowed := true, recurses := true, apart := false, narrowed := true }
def SpliceNoneUptoSaid : Prop := spliceNoneUptoRow.holds Try.pinned (OpenSpec.upto spliceNoneSpec)

end Rows
end Go.Proofs.Ytodpkdbcdbdjfaa
