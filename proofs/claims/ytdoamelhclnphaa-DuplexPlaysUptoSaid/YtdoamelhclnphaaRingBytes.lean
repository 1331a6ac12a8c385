/-
  Bytes as lists over ring's texts: what the other packages' proofs need of them (for seats that hold ring and not its law).
-/
import Derived.Test.YtdoamelhclnphaaRingA
import Derived.Lib.ConvBytes
import Derived.Lib.BufferRead
import Derived.Laws.AppendOwn
namespace Go.Proofs.Ytdoamelhclnphaa
open Go.RowKit
set_option maxRecDepth 100000

def bi (l : List UInt8) : List Int := l.map fun b => (b.toNat : Int)
theorem bi_length (l : List UInt8) : (bi l).length = l.length := by simp [bi]
theorem bi_getD (l : List UInt8) (i : Nat) (h : i < l.length) : (bi l).getD i 0 = (l[i].toNat : Int) := by simp [bi, List.getD, h]

theorem Fr.bytesWorld (w : World) (e : TypeId) (s : ByteArray) : Fr [] w (Lib.bytesWorld w e s) :=
  ⟨rfl, rfl, rfl, by rw [Lib.bytesWorld_size]; omega, fun k hk _ => Lib.bytesWorld_at_old w e s k hk⟩
theorem Sl.bytesWorld (w : World) (e : TypeId) (l : List UInt8) : Sl (Lib.bytesWorld w e ⟨l.toArray⟩) (some ⟨w.heap.size, 0, none⟩) (bi l) := fun _ =>
  ⟨_, 0, rfl, by rw [Lib.bytesWorld_size]; omega, fun i hi => by
    rw [bi_length] at hi
    rw [bi_getD l i hi, Nat.zero_add, Lib.bytesWorld_cell w e _ i (by simpa [ByteArray.size] using hi)]
    simp [List.getD, hi]⟩

end Go.Proofs.Ytdoamelhclnphaa
