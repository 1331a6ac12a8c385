/-
  No cell of these rows narrows 'for every input' (looked for: loops, veiled, ifaces, maps, wideKeys, modest, calm, conditions, laid).
  DERIVED. THE GIVEN ROWS OF THIS SEAT. 9 by the template 'for every input the law returns true; each argument reads behind the call as it read before'; 0 by the template 'total and deterministic' (their statements: YtdoamelhclnphaaTotals.lean).
  GIVEN WITH THE SEED: the statements are not yours to turn. If you find one false, say at which input.
  Laid BY PROGRAM, IN A SANDBOX (cutbox-rows.mjs): the forced cells as the released guide's own fill.sh prints them over the translation 4f2d0b50e6c92140… (all of the seat's roots in one cut). By AI agents, Wed Nov 11 2026. No macro, syntax, notation, axiom, sorry.
-/
import Derived.Test.YtdoamelhclnphaaChecked
import GoSem.Claim
import GoSem.ClaimJoined
import GoSem.ClaimMapViews
import Derived.JoinedTies
import Derived.KernelRfl
namespace Go.Proofs.Ytdoamelhclnphaa
/- THE CELL 'sum', in the pinned program and in every row, IS THE sha256 OF THE DUMP (.gsa) THAT YtdoamelhclnphaaProg.lean LOADS. Nothing in Lean hashes anything: it is a label: what it is worth is what the hold of that sum in a sandbox is worth. -/
noncomputable def Try.pinned : Pinned := { name := "ytdoamelhclnphaa", sum := "4f2d0b50e6c92140776f2856cafd6b9d51b4aa0e5d63e21cbbe54b9f5f0a177c", checked := Try.checked }
namespace Rows
def none {H : Type} : Left H := { results := [], args := [] }

/-- 'aqueductlaw15.DuplexNone': WHATEVER THE INPUT: true; the input reads as it did. -/
def duplexNoneSpec : ChangeSpec := { name := "duplexNone", fn := fun _ => fun
  | [d1, d2] => { results := [.lit (.bool true)], args := [d1, d2] }
  | _ => none }
def duplexNoneRow : OpenClaim := { program := "ytdoamelhclnphaa", sum := "4f2d0b50e6c92140776f2856cafd6b9d51b4aa0e5d63e21cbbe54b9f5f0a177c", func := "aqueduct/aqueductlaw15.DuplexNone", spec := "duplexNone", unfollowed := true, recurses := true, apart := false }
def DuplexNoneSaid : Prop := duplexNoneRow.holds Try.pinned (OpenSpec.ofChange duplexNoneSpec)

/-- ITS FALSE NEIGHBOUR: 'it returns false'. Refute it at one input. -/
def duplexNoneWrong : ChangeSpec := { name := "duplexNone", fn := fun _ => fun
  | [d1, d2] => { results := [.lit (.bool false)], args := [d1, d2] }
  | _ => none }
def DuplexNoneWrongFalsely : Prop := duplexNoneRow.holds Try.pinned (OpenSpec.ofChange duplexNoneWrong)

/-- 'aqueductlaw14.StreamHolds': WHATEVER THE INPUT: true; the input reads as it did. -/
def streamHoldsSpec : ChangeSpec := { name := "streamHolds", fn := fun _ => fun
  | [d1, d2] => { results := [.lit (.bool true)], args := [d1, d2] }
  | _ => none }
def streamHoldsRow : OpenClaim := { program := "ytdoamelhclnphaa", sum := "4f2d0b50e6c92140776f2856cafd6b9d51b4aa0e5d63e21cbbe54b9f5f0a177c", func := "aqueduct/aqueductlaw14.StreamHolds", spec := "streamHolds", unfollowed := true, recurses := true, apart := false }
def StreamHoldsSaid : Prop := streamHoldsRow.holds Try.pinned (OpenSpec.ofChange streamHoldsSpec)

/-- ITS FALSE NEIGHBOUR: 'it returns false'. Refute it at one input. -/
def streamHoldsWrong : ChangeSpec := { name := "streamHolds", fn := fun _ => fun
  | [d1, d2] => { results := [.lit (.bool false)], args := [d1, d2] }
  | _ => none }
def StreamHoldsWrongFalsely : Prop := streamHoldsRow.holds Try.pinned (OpenSpec.ofChange streamHoldsWrong)

/-- 'aqueductlaw14.StreamPlays': WHATEVER THE INPUT: true; the input reads as it did. -/
def streamPlaysSpec : ChangeSpec := { name := "streamPlays", fn := fun _ => fun
  | [d1, d2] => { results := [.lit (.bool true)], args := [d1, d2] }
  | _ => none }
def streamPlaysRow : OpenClaim := { program := "ytdoamelhclnphaa", sum := "4f2d0b50e6c92140776f2856cafd6b9d51b4aa0e5d63e21cbbe54b9f5f0a177c", func := "aqueduct/aqueductlaw14.StreamPlays", spec := "streamPlays", unfollowed := true, recurses := true, apart := false }
def StreamPlaysSaid : Prop := streamPlaysRow.holds Try.pinned (OpenSpec.ofChange streamPlaysSpec)

/-- ITS FALSE NEIGHBOUR: 'it returns false'. Refute it at one input. -/
def streamPlaysWrong : ChangeSpec := { name := "streamPlays", fn := fun _ => fun
  | [d1, d2] => { results := [.lit (.bool false)], args := [d1, d2] }
  | _ => none }
def StreamPlaysWrongFalsely : Prop := streamPlaysRow.holds Try.pinned (OpenSpec.ofChange streamPlaysWrong)

/-- 'aqueductlaw14.StreamNone': WHATEVER THE INPUT: true; the input reads as it did. -/
def streamNoneSpec : ChangeSpec := { name := "streamNone", fn := fun _ => fun
  | [d] => { results := [.lit (.bool true)], args := [d] }
  | _ => none }
def streamNoneRow : OpenClaim := { program := "ytdoamelhclnphaa", sum := "4f2d0b50e6c92140776f2856cafd6b9d51b4aa0e5d63e21cbbe54b9f5f0a177c", func := "aqueduct/aqueductlaw14.StreamNone", spec := "streamNone", unfollowed := true, recurses := true, apart := false }
def StreamNoneSaid : Prop := streamNoneRow.holds Try.pinned (OpenSpec.ofChange streamNoneSpec)

/-- ITS FALSE NEIGHBOUR: 'it returns false'. Refute it at one input. -/
def streamNoneWrong : ChangeSpec := { name := "streamNone", fn := fun _ => fun
  | [d] => { results := [.lit (.bool false)], args := [d] }
  | _ => none }
def StreamNoneWrongFalsely : Prop := streamNoneRow.holds Try.pinned (OpenSpec.ofChange streamNoneWrong)

/-- 'aqueductlaw14.StreamRestores': WHATEVER THE INPUT: true; the input reads as it did. -/
def streamRestoresSpec : ChangeSpec := { name := "streamRestores", fn := fun _ => fun
  | [d1, d2] => { results := [.lit (.bool true)], args := [d1, d2] }
  | _ => none }
def streamRestoresRow : OpenClaim := { program := "ytdoamelhclnphaa", sum := "4f2d0b50e6c92140776f2856cafd6b9d51b4aa0e5d63e21cbbe54b9f5f0a177c", func := "aqueduct/aqueductlaw14.StreamRestores", spec := "streamRestores", unfollowed := true, recurses := true, apart := false }
def StreamRestoresSaid : Prop := streamRestoresRow.holds Try.pinned (OpenSpec.ofChange streamRestoresSpec)

/-- ITS FALSE NEIGHBOUR: 'it returns false'. Refute it at one input. -/
def streamRestoresWrong : ChangeSpec := { name := "streamRestores", fn := fun _ => fun
  | [d1, d2] => { results := [.lit (.bool false)], args := [d1, d2] }
  | _ => none }
def StreamRestoresWrongFalsely : Prop := streamRestoresRow.holds Try.pinned (OpenSpec.ofChange streamRestoresWrong)

/-- 'aqueductlaw15.DuplexHolds': WHATEVER THE INPUT: true; the input reads as it did. -/
def duplexHoldsSpec : ChangeSpec := { name := "duplexHolds", fn := fun _ => fun
  | [d1, d2, d3] => { results := [.lit (.bool true)], args := [d1, d2, d3] }
  | _ => none }
def duplexHoldsRow : OpenClaim := { program := "ytdoamelhclnphaa", sum := "4f2d0b50e6c92140776f2856cafd6b9d51b4aa0e5d63e21cbbe54b9f5f0a177c", func := "aqueduct/aqueductlaw15.DuplexHolds", spec := "duplexHolds", unfollowed := true, recurses := true, apart := false }
def DuplexHoldsSaid : Prop := duplexHoldsRow.holds Try.pinned (OpenSpec.ofChange duplexHoldsSpec)

/-- ITS FALSE NEIGHBOUR: 'it returns false'. Refute it at one input. -/
def duplexHoldsWrong : ChangeSpec := { name := "duplexHolds", fn := fun _ => fun
  | [d1, d2, d3] => { results := [.lit (.bool false)], args := [d1, d2, d3] }
  | _ => none }
def DuplexHoldsWrongFalsely : Prop := duplexHoldsRow.holds Try.pinned (OpenSpec.ofChange duplexHoldsWrong)

/-- 'aqueductlaw15.DuplexSwaps': WHATEVER THE INPUT: true; the input reads as it did. -/
def duplexSwapsSpec : ChangeSpec := { name := "duplexSwaps", fn := fun _ => fun
  | [d1, d2, d3] => { results := [.lit (.bool true)], args := [d1, d2, d3] }
  | _ => none }
def duplexSwapsRow : OpenClaim := { program := "ytdoamelhclnphaa", sum := "4f2d0b50e6c92140776f2856cafd6b9d51b4aa0e5d63e21cbbe54b9f5f0a177c", func := "aqueduct/aqueductlaw15.DuplexSwaps", spec := "duplexSwaps", unfollowed := true, recurses := true, apart := false }
def DuplexSwapsSaid : Prop := duplexSwapsRow.holds Try.pinned (OpenSpec.ofChange duplexSwapsSpec)

/-- ITS FALSE NEIGHBOUR: 'it returns false'. Refute it at one input. -/
def duplexSwapsWrong : ChangeSpec := { name := "duplexSwaps", fn := fun _ => fun
  | [d1, d2, d3] => { results := [.lit (.bool false)], args := [d1, d2, d3] }
  | _ => none }
def DuplexSwapsWrongFalsely : Prop := duplexSwapsRow.holds Try.pinned (OpenSpec.ofChange duplexSwapsWrong)

/-- 'aqueductlaw14.StreamKinds': WHATEVER THE INPUT: true; the input reads as it did. -/
def streamKindsSpec : ChangeSpec := { name := "streamKinds", fn := fun _ => fun
  | [d1, d2, d3] => { results := [.lit (.bool true)], args := [d1, d2, d3] }
  | _ => none }
def streamKindsRow : OpenClaim := { program := "ytdoamelhclnphaa", sum := "4f2d0b50e6c92140776f2856cafd6b9d51b4aa0e5d63e21cbbe54b9f5f0a177c", func := "aqueduct/aqueductlaw14.StreamKinds", spec := "streamKinds", unfollowed := true, recurses := true, apart := false }
def StreamKindsSaid : Prop := streamKindsRow.holds Try.pinned (OpenSpec.ofChange streamKindsSpec)

/-- ITS FALSE NEIGHBOUR: 'it returns false'. Refute it at one input. -/
def streamKindsWrong : ChangeSpec := { name := "streamKinds", fn := fun _ => fun
  | [d1, d2, d3] => { results := [.lit (.bool false)], args := [d1, d2, d3] }
  | _ => none }
def StreamKindsWrongFalsely : Prop := streamKindsRow.holds Try.pinned (OpenSpec.ofChange streamKindsWrong)

/-- 'aqueductlaw15.DuplexPlays': WHATEVER THE INPUT: true; the input reads as it did. -/
def duplexPlaysSpec : ChangeSpec := { name := "duplexPlays", fn := fun _ => fun
  | [d1, d2, d3] => { results := [.lit (.bool true)], args := [d1, d2, d3] }
  | _ => none }
def duplexPlaysRow : OpenClaim := { program := "ytdoamelhclnphaa", sum := "4f2d0b50e6c92140776f2856cafd6b9d51b4aa0e5d63e21cbbe54b9f5f0a177c", func := "aqueduct/aqueductlaw15.DuplexPlays", spec := "duplexPlays", unfollowed := true, recurses := true, apart := false }
def DuplexPlaysSaid : Prop := duplexPlaysRow.holds Try.pinned (OpenSpec.ofChange duplexPlaysSpec)

/-- ITS FALSE NEIGHBOUR: 'it returns false'. Refute it at one input. -/
def duplexPlaysWrong : ChangeSpec := { name := "duplexPlays", fn := fun _ => fun
  | [d1, d2, d3] => { results := [.lit (.bool false)], args := [d1, d2, d3] }
  | _ => none }
def DuplexPlaysWrongFalsely : Prop := duplexPlaysRow.holds Try.pinned (OpenSpec.ofChange duplexPlaysWrong)

/- THE SECOND FORM. 'bulk': how many values and letters a reading holds, each counted each time it is reached (what is shared counts as often as it is met; a slice's spare places count too). A statement '..UptoSaid' is the law's where the arguments, and the package variables that the reading takes, are together of bulk at most 1048576: NARROWER than '..Said'. Prove '..Said' where nothing that the law and all that it calls make is longer than what came in: it says more and counts as full. Else prove '..UptoSaid'. A law counts once. -/
mutual
def uptoBulk {H : Type} : DataW H → Nat
  | .lit (.string bytes) => bytes.length + 1
  | .lit _ => 1
  | .nil => 1
  | .ptr d => uptoBulk d + 1
  | .slice elems spare => uptoBulkAll elems + uptoBulkAll spare + 1
  | .agg parts => uptoBulkAll parts + 1
  | .iface _ d => uptoBulk d + 1
  | .map entries => uptoBulkEntries entries + 1
  | .held _ => 1
def uptoBulkAll {H : Type} : List (DataW H) → Nat
  | [] => 0
  | d :: r => uptoBulk d + uptoBulkAll r
def uptoBulkEntries {H : Type} : List (Lit × DataW H) → Nat
  | [] => 0
  | x :: r => uptoBulkEntry x + uptoBulkEntries r
def uptoBulkEntry {H : Type} : Lit × DataW H → Nat
  | (.string bytes, d) => bytes.length + uptoBulk d + 1
  | (_, d) => uptoBulk d + 1
 end
def uptoSmall : (H : Type) → List (DataW H) → Bool := fun _ ds => decide (uptoBulkAll ds ≤ 1048576)
def OpenSpec.upto (s : _root_.Go.ChangeSpec) : _root_.Go.OpenSpec := { _root_.Go.OpenSpec.ofChange s with cond := some uptoSmall }

/-- 'aqueductlaw15.DuplexNone', WHERE WHAT IT READS IS OF BULK AT MOST 1048576: true; the input reads as it did. -/
def duplexNoneUptoRow : OpenClaim := { program := "ytdoamelhclnphaa", sum := "4f2d0b50e6c92140776f2856cafd6b9d51b4aa0e5d63e21cbbe54b9f5f0a177c", func := "aqueduct/aqueductlaw15.DuplexNone", spec := "duplexNone", unfollowed := true, recurses := true, apart := false, narrowed := true }
def DuplexNoneUptoSaid : Prop := duplexNoneUptoRow.holds Try.pinned (OpenSpec.upto duplexNoneSpec)

/-- 'aqueductlaw14.StreamHolds', WHERE WHAT IT READS IS OF BULK AT MOST 1048576: true; the input reads as it did. -/
def streamHoldsUptoRow : OpenClaim := { program := "ytdoamelhclnphaa", sum := "4f2d0b50e6c92140776f2856cafd6b9d51b4aa0e5d63e21cbbe54b9f5f0a177c", func := "aqueduct/aqueductlaw14.StreamHolds", spec := "streamHolds", unfollowed := true, recurses := true, apart := false, narrowed := true }
def StreamHoldsUptoSaid : Prop := streamHoldsUptoRow.holds Try.pinned (OpenSpec.upto streamHoldsSpec)

/-- 'aqueductlaw14.StreamPlays', WHERE WHAT IT READS IS OF BULK AT MOST 1048576: true; the input reads as it did. -/
def streamPlaysUptoRow : OpenClaim := { program := "ytdoamelhclnphaa", sum := "4f2d0b50e6c92140776f2856cafd6b9d51b4aa0e5d63e21cbbe54b9f5f0a177c", func := "aqueduct/aqueductlaw14.StreamPlays", spec := "streamPlays", unfollowed := true, recurses := true, apart := false, narrowed := true }
def StreamPlaysUptoSaid : Prop := streamPlaysUptoRow.holds Try.pinned (OpenSpec.upto streamPlaysSpec)

/-- 'aqueductlaw14.StreamNone', WHERE WHAT IT READS IS OF BULK AT MOST 1048576: true; the input reads as it did. -/
def streamNoneUptoRow : OpenClaim := { program := "ytdoamelhclnphaa", sum := "4f2d0b50e6c92140776f2856cafd6b9d51b4aa0e5d63e21cbbe54b9f5f0a177c", func := "aqueduct/aqueductlaw14.StreamNone", spec := "streamNone", unfollowed := true, recurses := true, apart := false, narrowed := true }
def StreamNoneUptoSaid : Prop := streamNoneUptoRow.holds Try.pinned (OpenSpec.upto streamNoneSpec)

/-- 'aqueductlaw14.StreamRestores', WHERE WHAT IT READS IS OF BULK AT MOST 1048576: true; the input reads as it did. -/
def streamRestoresUptoRow : OpenClaim := { program := "ytdoamelhclnphaa", sum := "4f2d0b50e6c92140776f2856cafd6b9d51b4aa0e5d63e21cbbe54b9f5f0a177c", func := "aqueduct/aqueductlaw14.StreamRestores", spec := "streamRestores", unfollowed := true, recurses := true, apart := false, narrowed := true }
def StreamRestoresUptoSaid : Prop := streamRestoresUptoRow.holds Try.pinned (OpenSpec.upto streamRestoresSpec)

/-- 'aqueductlaw15.DuplexHolds', WHERE WHAT IT READS IS OF BULK AT MOST 1048576: true; the input reads as it did. -/
def duplexHoldsUptoRow : OpenClaim := { program := "ytdoamelhclnphaa", sum := "4f2d0b50e6c92140776f2856cafd6b9d51b4aa0e5d63e21cbbe54b9f5f0a177c", func := "aqueduct/aqueductlaw15.DuplexHolds", spec := "duplexHolds", unfollowed := true, recurses := true, apart := false, narrowed := true }
def DuplexHoldsUptoSaid : Prop := duplexHoldsUptoRow.holds Try.pinned (OpenSpec.upto duplexHoldsSpec)

/-- 'aqueductlaw15.DuplexSwaps', WHERE WHAT IT READS IS OF BULK AT MOST 1048576: true; the input reads as it did. -/
def duplexSwapsUptoRow : OpenClaim := { program := "ytdoamelhclnphaa", sum := "4f2d0b50e6c92140776f2856cafd6b9d51b4aa0e5d63e21cbbe54b9f5f0a177c", func := "aqueduct/aqueductlaw15.DuplexSwaps", spec := "duplexSwaps", unfollowed := true, recurses := true, apart := false, narrowed := true }
def DuplexSwapsUptoSaid : Prop := duplexSwapsUptoRow.holds Try.pinned (OpenSpec.upto duplexSwapsSpec)

/-- 'aqueductlaw14.StreamKinds', WHERE WHAT IT READS IS OF BULK AT MOST 1048576: true; the input reads as it did. -/
def streamKindsUptoRow : OpenClaim := { program := "ytdoamelhclnphaa", sum := "4f2d0b50e6c92140776f2856cafd6b9d51b4aa0e5d63e21cbbe54b9f5f0a177c", func := "aqueduct/aqueductlaw14.StreamKinds", spec := "streamKinds", unfollowed := true, recurses := true, apart := false, narrowed := true }
def StreamKindsUptoSaid : Prop := streamKindsUptoRow.holds Try.pinned (OpenSpec.upto streamKindsSpec)

/-- 'aqueductlaw15.DuplexPlays', WHERE WHAT IT READS IS OF BULK AT MOST 1048576: true; the input reads as it did. -/
def duplexPlaysUptoRow : OpenClaim := { program := "ytdoamelhclnphaa", sum := "4f2d0b50e6c92140776f2856cafd6b9d51b4aa0e5d63e21cbbe54b9f5f0a177c", func := "aqueduct/aqueductlaw15.DuplexPlays", spec := "duplexPlays", unfollowed := true, recurses := true, apart := false, narrowed := true }
def DuplexPlaysUptoSaid : Prop := duplexPlaysUptoRow.holds Try.pinned (OpenSpec.upto duplexPlaysSpec)

end Rows
end Go.Proofs.Ytdoamelhclnphaa
