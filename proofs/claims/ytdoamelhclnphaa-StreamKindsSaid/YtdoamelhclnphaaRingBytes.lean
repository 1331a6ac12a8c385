/-
  Bytes as lists over ring's texts: what the other packages' proofs need of them (for seats that hold ring and not its law).
-/
import Derived.Test.YtdoamelhclnphaaRingA
import Derived.Lib.ConvBytes
import Derived.Lib.BufferRead
import Derived.Laws.AppendOwn
namespace Go.Proofs.Ytdoamelhclnphaa
open Go.RowKit
set_option maxRecDepth 100000

def bi (l : List UInt8) : List Int := l.map fun b => (b.toNat : Int)
theorem bi_length (l : List UInt8) : (bi l).length = l.length := by simp [bi]
theorem bi_getD (l : List UInt8) (i : Nat) (h : i < l.length) : (bi l).getD i 0 = (l[i].toNat : Int) := by simp [bi, List.getD, h]

theorem Fr.bytesWorld (w : World) (e : TypeId) (s : ByteArray) : Fr [] w (Lib.bytesWorld w e s) :=
  ⟨rfl, rfl, rfl, by rw [Lib.bytesWorld_size]; omega, fun k hk _ => Lib.bytesWorld_at_old w e s k hk⟩
theorem Sl.bytesWorld (w : World) (e : TypeId) (l : List UInt8) : Sl (Lib.bytesWorld w e ⟨l.toArray⟩) (some ⟨w.heap.size, 0, none⟩) (bi l) := fun _ =>
  ⟨_, 0, rfl, by rw [Lib.bytesWorld_size]; omega, fun i hi => by
    rw [bi_length] at hi
    rw [bi_getD l i hi, Nat.zero_add, Lib.bytesWorld_cell w e _ i (by simpa [ByteArray.size] using hi)]
    simp [List.getD, hi]⟩

theorem conv_new {w' : World} {l : List UInt8} {N : Nat} (h : RowB w' N (bi l)) :
    (convert 29 9 (.slice (some ⟨N, 0, none⟩) (bi l).length (bi l).length)).run Try.prog w' = .ok (.string ⟨l.toArray⟩) w' := by
  rw [show (bi l).length = l.length from bi_length l]
  refine run_convert_bytes_back (P := Try.prog) w' 29 9 5 ⟨N, 0, none⟩ l.length l Try.underlying29 Try.underlying5 Try.underlying9 ?_
  intro j hj
  have := h.cell (i := j) (by rw [bi_length]; exact hj)
  rw [bi_getD l j hj] at this
  rw [← this]
  by_cases h0 : j = 0
  · subst h0; rfl
  · simp [Addr.add, h0]

end Go.Proofs.Ytdoamelhclnphaa
