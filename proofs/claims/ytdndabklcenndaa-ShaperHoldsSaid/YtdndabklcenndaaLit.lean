/-
  A list of bytes that the text spells.
-/
import Derived.Test.YtdndabklcenndaaStr
namespace Go.Proofs.Ytdndabklcenndaa
open Go.RowKit

/-- The row bears the run-time's mark behind its last cell. -/
theorem lit_sl {w : World} {l : List UInt8} : Sl (w.alloc (.cells ((bi l).map (Value.int .u8)).toArray 5 (((bi l).map (Value.int .u8)).toArray.size, ((bi l).map (Value.int .u8)).toArray.size + 1))) (some ⟨w.heap.size, 0, none⟩) (bi l) := fun _ =>
  ⟨_, 0, rfl, by simp, fun i hi => by
    have hq : (w.alloc (.cells ((bi l).map (Value.int .u8)).toArray 5 (((bi l).map (Value.int .u8)).toArray.size, ((bi l).map (Value.int .u8)).toArray.size + 1))).heap[w.heap.size]? = _ := newA rfl
    rw [Nat.zero_add, cell_of hq]
    simp [List.getD, hi]⟩
end Go.Proofs.Ytdndabklcenndaa
