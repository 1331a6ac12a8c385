/-
  Law 15: a ConnState's value, further.
-/
import Derived.Test.YtdoamelhclnphaaCvB15
import Derived.Test.YtdoamelhclnphaaSubRow
import Derived.Test.YtdoamelhclnphaaRefH14
namespace Go.Proofs.Ytdoamelhclnphaa
open Go.RowKit
set_option maxRecDepth 100000

theorem Cv.there {w : World} {N : Nat → Prop} {v : Value} {s : DM} (h : Cv w N v s) : Cv w (fun x => N x ∧ x < w.heap.size) v s := by
  obtain ⟨u0, u1, u2, u3, e, h0, h1, h2, h3⟩ := h
  exact ⟨u0, u1, u2, u3, e, h0.there, h1.there, h2.there, h3.there⟩
theorem Cv.mono {w : World} {N N' : Nat → Prop} {v : Value} {s : DM} (h : Cv w N v s) (hN : ∀ x, N x → N' x) : Cv w N' v s := by
  obtain ⟨u0, u1, u2, u3, e, h0, h1, h2, h3⟩ := h
  exact ⟨u0, u1, u2, u3, e, h0.mono hN, h1.mono hN, h2.mono hN, h3.mono hN⟩
end Go.Proofs.Ytdoamelhclnphaa
