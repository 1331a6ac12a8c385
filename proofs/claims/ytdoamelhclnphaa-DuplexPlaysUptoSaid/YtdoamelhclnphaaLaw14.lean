/-
  Law 14: size, few; the reference's Join; a copy of some parts.
-/
import Derived.Test.YtdoamelhclnphaaActs14
namespace Go.Proofs.Ytdoamelhclnphaa
open Go.RowKit
set_option maxRecDepth 100000

def sumB (A : List A14) : Nat := (A.map fun x => tot x.ps).sum
def fewB14 (A : List A14) : Bool := (A.isEmpty || (decide (A.length ≤ 20) && A.all fun x => decide (x.ps.length ≤ 100))) && decide (sumB A ≤ 3000)
/-- The values of a slice of parts. -/
theorem PartsAt.vals {w : World} {N : Nat → Prop} {a : Option Addr} {P : Parts} (h : PartsAt w N a P) : ∃ vs : List Value, vs.length = P.length ∧ SlV w a vs ∧ (∀ u ∈ vs, u.oneCell' = true) ∧ ∀ (i : Nat) (p : List UInt8), P[i]? = some p → ∃ v, vs[i]? = some v ∧ PartV w N v p := by
  obtain ⟨vs, h1, h2, h3, h4⟩ := h
  refine ⟨vs, h1, h2, fun u hu => ?_, h4⟩
  obtain ⟨i, hi, rfl⟩ := List.getElem_of_mem hu
  obtain ⟨v, hv, a', c', rfl, _⟩ := h4 i P[i] (List.getElem?_eq_getElem (by omega))
  rw [List.getElem?_eq_getElem hi] at hv
  injection hv with hv
  rw [hv]
  rfl
/-- A copy of them, in a row of the call's own. -/
theorem PartsAt.copied {w w' : World} {N : Nat → Prop} {M : Nat} {v : Value} {vs : List Value} {P : Parts} {S : List Nat} (ho : Ow w' M 29 v vs) (hl : vs.length = P.length) (h : ∀ (i : Nat) (p : List UInt8), P[i]? = some p → ∃ u, vs[i]? = some u ∧ PartV w N u p) (hf : Fr S w w') (hS : ∀ x ∈ S, ¬ N x) :
    ∃ a cap, v = .slice a P.length cap ∧ P.length ≤ cap ∧ cap ≤ maxLen ∧ PartsAt w' (fun x => N x ∨ M ≤ x) a P :=
  PartsAt.of_own ho hl (fun i p hp => let ⟨u, hu, hq⟩ := h i p hp; ⟨u, hu, (hq.keep hf hS).mono fun _ => .inl⟩) (fun _ h => .inr h)
end Go.Proofs.Ytdoamelhclnphaa
