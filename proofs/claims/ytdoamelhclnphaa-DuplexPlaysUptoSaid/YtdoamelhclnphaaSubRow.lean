/-
  A struct stored into a part of a row.
-/
import Derived.Test.YtdoamelhclnphaaStB
namespace Go.Proofs.Ytdoamelhclnphaa
open Go.RowKit

def putRow (cur : Array Value) (j : Nat) (vs : List Value) : Array Value := (cur.toList.take j ++ vs ++ cur.toList.drop (j + vs.length)).toArray
section
variable {P : Program}
theorem run_storeCells_sub (g o : Nat) (t : TypeId) : ∀ (vs : List Value) (i : Nat) (cur : Array Value) (w : World), w.heap[g]? = some (.cells cur t (0, 0)) → o + i + vs.length ≤ cur.size → (∀ v ∈ vs, v.oneCell' = true) →
    (storeCells ⟨g, o, none⟩ vs i).run P w = .ok () (w.setRow g (putRow cur (o + i) vs))
  | [], i, cur, w, hg, hl, _ => by
    have e : putRow cur (o + i) [] = cur := by
      unfold putRow
      simp
    rw [e, setRow_self w g cur t (0, 0) hg]
    rfl
  | v :: rest, i, cur, w, hg, hl, h1 => by
    have hi : o + i < cur.size := by simp at hl; omega
    have hadd : (⟨g, o, none⟩ : Addr).add i = ⟨g, o + i, none⟩ := by unfold Addr.add; split <;> simp_all
    have hcell : w.cell? ⟨g, o + i, none⟩ = some cur[o + i] := by simp [World.cell?, hg, hi]
    have hfro : w.frozen? ⟨g, o + i, none⟩ = false := by simp [World.frozen?, hg]
    have hst : (Go.store ((⟨g, o, none⟩ : Addr).add i) v).run P w = .ok () (w.setRow g (cur.setIfInBounds (o + i) v)) := by
      rw [hadd, run_store P w _ v _ (h1 v (by simp)), hcell]
      simp [hfro, setCell_eq_setRow w g (o + i) cur t (0, 0) v hg]
    have ih := run_storeCells_sub g o t rest (i + 1) (cur.setIfInBounds (o + i) v) (w.setRow g (cur.setIfInBounds (o + i) v)) (setRow_heap w g cur _ t _ hg) (by simp at hl ⊢; omega) (fun x hx => h1 x (by simp [hx]))
    simp only [storeCells, Sem.run_bind, hst, Result.andThen_ok, ih, setRow_setRow]
    congr 2
    unfold putRow
    congr 1
    simp only [Array.toList_setIfInBounds, List.length_cons]
    rw [show o + (i + 1) = o + i + 1 from by omega]
    generalize o + i = j at *
    have hj : j < cur.toList.length := by simpa using hi
    rw [show (cur.toList.set j v).take (j + 1) = cur.toList.take j ++ [v] from by
      rw [List.take_succ_eq_append_getElem (by simpa using hj)]
      have e : (cur.toList.set j v).take j = cur.toList.take j := by
        apply List.ext_getElem?
        intro k
        simp only [List.getElem?_take]
        split
        · rw [List.getElem?_set_ne (by omega)]
        · rfl
      rw [e]
      simp]
    rw [show (cur.toList.set j v).drop (j + 1 + rest.length) = cur.toList.drop (j + (rest.length + 1)) from by
      rw [List.drop_set_of_lt (by omega)]
      congr 1
      omega]
    simp
theorem wp_store_sub {o : Oper} {a : Act} {w : World} {K : Act → World → Prop} {Q : Exit → Act → World → Prop} (ty : TypeId) (x y : Operand) (ho : o.op = .store ty x y)
    (g j : Nat) (cells : Array Value) (hx : a.eval x = .pointer (some ⟨g, j, none⟩)) (hy : a.eval y = .agg cells)
    (t : TypeId) (old : Array Value) (hg : w.heap[g]? = some (.cells old t (0, 0))) (hi : (P.info? ty).map (·.size) = some cells.size)
    (hold : j + cells.size ≤ old.size) (h1 : cells.all (·.oneCell') = true)
    (h : K (a.put o.dst undef) (w.setRow g (putRow old j cells.toList))) : o.wp P a w K Q := by
  have key : (storeVar ty ⟨g, j, none⟩ (.agg cells)).run P w = .ok () (w.setRow g (putRow old j cells.toList)) := by
    have := run_storeCells_sub (P := P) g j t cells.toList 0 old w hg (by simp; omega) (fun v hv => (Array.all_eq_true_iff_forall_mem.1 h1) v (by simpa using hv))
    cases hq : P.info? ty with
    | none => simp [hq] at hi
    | some i =>
      have hs : cells.size = i.size := by simp [hq] at hi; omega
      simp [storeVar, sizeOf, typeInfo, hq, Value.cells, hs, this]
  unfold Oper.wp execOp
  simp only [ho, hx, hy, Instr.storeAt, Instr.sureAddr, Sem.run_bind, Sem.run_pure, Result.andThen_ok, key]
  exact h
theorem wpl_store_sub {ops : Array Oper} {rest : List Oper} {o : Oper} {a : Act} {w : World} {Q : Exit → Act → World → Prop} (hgd : o.guard = none) (ty : TypeId) (x y : Operand) (ho : o.op = .store ty x y)
    (g j : Nat) (cells : Array Value) (hx : a.eval x = .pointer (some ⟨g, j, none⟩)) (hy : a.eval y = .agg cells)
    (t : TypeId) (old new : Array Value) (hg : w.heap[g]? = some (.cells old t (0, 0))) (hi : (P.info? ty).map (·.size) = some cells.size)
    (hold : j + cells.size ≤ old.size) (h1 : cells.all (·.oneCell') = true) (hnew : putRow old j cells.toList = new)
    (h : ∀ w', Fr [g] w w' → w'.heap[g]? = some (.cells new t (0, 0)) → wpList P ops Q rest (a.put o.dst undef) w') : wpList P ops Q (o :: rest) a w :=
  wpList_plain hgd fun _ hK => wp_store_sub ty x y ho g j cells hx hy t old hg hi hold h1 (hK _ _ (h _ setRow_fr' (hnew ▸ setRow_heap w g old _ t (0, 0) hg)))
end
end Go.Proofs.Ytdoamelhclnphaa
