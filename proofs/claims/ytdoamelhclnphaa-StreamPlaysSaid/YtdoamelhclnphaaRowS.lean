/-
  A whole struct stored in a region that draws its order.
-/
import Derived.Test.YtdoamelhclnphaaSteps
import Derived.Laws.Rows
namespace Go.Proofs.Ytdoamelhclnphaa
open Go.RowKit

theorem setRow_fr' {w : World} {g : Nat} {cs : Array Value} : Fr [g] w (w.setRow g cs) :=
  ⟨rfl, rfl, rfl, by simp [World.setRow], fun k _ hn => by
    have hk : g ≠ k := fun e => hn (by simp [e])
    simp [World.setRow, Array.getElem?_modify, hk]⟩
section
variable {P : Program} {ops : Array Oper} {o : Oper} {a : Act} {w : World} {K : Act → World → Prop} {Q : Exit → Act → World → Prop} {E : Prop}
theorem step_store_row (hw : Region.wanted o (yielded ops a.tmps) = true) (ty : TypeId) (x y : Operand) (ho : o.op = .store ty x y)
    (g : Nat) (cells : Array Value) (hx : a.eval x = .pointer (some ⟨g, 0, none⟩)) (hy : a.eval y = .agg cells)
    (t : TypeId) (old : Array Value) (hg : w.heap[g]? = some (.cells old t (0, 0))) (hi : (P.info? ty).map (·.size) = some cells.size)
    (hold : old.size = cells.size) (h1 : cells.all (·.oneCell') = true)
    (h : ∀ w', Fr [g] w w' → w'.heap[g]? = some (.cells cells t (0, 0)) → K (a.put o.dst undef) w') :
    if Region.wanted o (yielded ops a.tmps) = true then Oper.wp P o a w K Q else E := by
  rw [if_pos hw]
  exact wp_store_row ty x y ho g cells hx hy t old hg hi hold h1 (h _ setRow_fr' (setRow_heap w g old cells t (0, 0) hg))
end
end Go.Proofs.Ytdoamelhclnphaa
