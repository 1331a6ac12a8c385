/-
  An argument that is a slice of structs of one-cell fields, opened to its cells; facts on cells.
-/
import Derived.Test.YtdoamelhclnphaaBase
import Derived.Test.YtdoamelhclnphaaProg
import Derived.ProofKit
import Derived.OpenShut
import Derived.ChangeOld
import Derived.Deep.Slices
import Derived.Deep.Fields
import Derived.ChangeSame
namespace Go.Proofs.Ytdoamelhclnphaa
open Go.ChangeShapes Go.WideShapes Go.Deep Go.RowKit

section
variable {H : Type} {enc : TypeId × Value → H} {P : Program} {w : World} {base : Nat} {spare : Nat → Bool} {held : Bool}
end

end Go.Proofs.Ytdoamelhclnphaa
