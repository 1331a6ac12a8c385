/-
  Law 22: what lies in memory between two turns of SpliceRuns: the splice, two rows of bytes, four boxes.
-/
import Derived.Test.YtodpkdbcdbdjfaaSpHoldM
import Derived.Test.YtodpkdbcdbdjfaaSpRunL
namespace Go.Proofs.Ytodpkdbcdbdjfaa
open Go.RowKit
set_option maxRecDepth 100000

structure SRM (w0 wr : World) (Q : Nat) (N0 N1 : Nat → Prop) (b W b0 b1 : Nat) (s : SS) (u0 u1 : Value) (O0 O1 : List UInt8) : Prop where
  sp : Sp wr N0 N1 b W b0 b1 s
  lo : (w0.heap.size ≤ b ∧ b < Q) ∧ (w0.heap.size ≤ W ∧ W < Q) ∧ (w0.heap.size ≤ b0 ∧ b0 < Q) ∧ (w0.heap.size ≤ b1 ∧ b1 < Q)
  r0 : Ow wr (Q + 4) 5 u0 ((bi O0).map (Value.int .u8))
  r1 : Ow wr (Q + 4) 5 u1 ((bi O1).map (Value.int .u8))
  nr : ∀ x, (u0.ownBlock = some x ∨ u1.ownBlock = some x) → ¬ N0 x ∧ ¬ N1 x
  nq : ∀ x, Q ≤ x → x < Q + 4 → ¬ N0 x ∧ ¬ N1 x
  d0 : ∀ x, u0.ownBlock = some x → u1.ownBlock ≠ some x
  hq : Q + 4 ≤ wr.heap.size
section
variable {w0 wr : World} {Q : Nat} {N0 N1 : Nat → Prop} {b W b0 b1 : Nat} {s : SS} {u0 u1 : Value} {O0 O1 : List UInt8}
theorem SRM.keep0 (h : SRM w0 wr Q N0 N1 b W b0 b1 s u0 u1 O0 O1) {w' : World} (f : Fr [] wr w') : SRM w0 w' Q N0 N1 b W b0 b1 s u0 u1 O0 O1 :=
  ⟨h.sp.keep0 f, h.lo, h.r0.keep f (by simp), h.r1.keep f (by simp), h.nr, h.nq, h.d0, Nat.le_trans h.hq f.size⟩
theorem SRM.call (h : SRM w0 wr Q N0 N1 b W b0 b1 s u0 u1 O0 O1) {w' : World} {s' : SS} (f : Fr [b, W, b0, b1] wr w') (hs : Sp w' N0 N1 b W b0 b1 s') : SRM w0 w' Q N0 N1 b W b0 b1 s' u0 u1 O0 O1 := by
  have hl := h.lo
  have hn : ∀ x, Q + 4 ≤ x → x ∉ [b, W, b0, b1] := fun x hx hm => by simp at hm; omega
  exact ⟨hs, h.lo, h.r0.keep f (fun k e => hn k (h.r0.lt k e).1), h.r1.keep f (fun k e => hn k (h.r1.lt k e).1), h.nr, h.nq, h.d0, Nat.le_trans h.hq f.size⟩
theorem SRM.box (h : SRM w0 wr Q N0 N1 b W b0 b1 s u0 u1 O0 O1) {k i : Nat} (hk : k < 4) (v : Value) : SRM w0 (wr.setCell ⟨Q + k, i, none⟩ v) Q N0 N1 b W b0 b1 s u0 u1 O0 O1 := by
  have f : Fr [Q + k] wr (wr.setCell ⟨Q + k, i, none⟩ v) := (Fr.refl _ _).setCell (.inl (by simp)) _
  have hl := h.lo
  have hn : ∀ x, Q + 4 ≤ x → x ∉ [Q + k] := fun x hx hm => by simp at hm; omega
  have hq := h.nq (Q + k) (by omega) (by omega)
  exact ⟨h.sp.keep f (fun x hx => by simp at hx; subst hx; exact ⟨by omega, by omega, by omega, by omega, hq.1, hq.2⟩), h.lo, h.r0.keep f (fun k e => hn k (h.r0.lt k e).1), h.r1.keep f (fun k e => hn k (h.r1.lt k e).1), h.nr, h.nq, h.d0, Nat.le_trans h.hq f.size⟩

theorem SRM.push0 (h : SRM w0 wr Q N0 N1 b W b0 b1 s u0 u1 O0 O1) {w' : World} {v : Value} {q : List UInt8} (o : Ow w' (Q + 4) 5 v ((bi O0).map (Value.int .u8) ++ (bi q).map (Value.int .u8))) (f : Fr u0.ownBlock.toList wr w') (hb : v.ownBlock = u0.ownBlock ∨ v.ownBlock = some wr.heap.size) :
    ∃ M0 M1, SRM w0 w' Q M0 M1 b W b0 b1 s v u1 (O0 ++ q) O1 := by
  have hl := h.lo
  have hz := f.size
  have hq := h.hq
  have l0 := h.r0.lt
  have l1 := h.r1.lt
  have lv := o.lt
  have hv : ∀ x, v.ownBlock = some x → u0.ownBlock = some x ∨ x = wr.heap.size := fun x hx => by
    rcases hb with e | e
    · exact .inl (by rw [← e, hx])
    · rw [hx] at e; injection e with e; exact .inr e
  have hm : ∀ x, x ∈ u0.ownBlock.toList → u0.ownBlock = some x := fun x hx => by simpa using hx
  refine ⟨_, _, h.sp.outS f (fun x hx => ?_), h.lo, ?_, h.r1.keep f (fun x e hx => ?_), ?_, ?_, ?_, by omega⟩
  · have hx' := hm x hx
    have := (l0 x hx').1
    exact ⟨by omega, by omega, by omega, by omega, h.nr x (.inl hx')⟩
  · rw [bi_append, List.map_append]; exact o
  · exact h.d0 x (hm x hx) e
  · intro x hx
    have hx2 : ¬ N0 x ∧ ¬ N1 x ∨ x = wr.heap.size := by
      rcases hx with hx | hx
      · rcases hv x hx with k | k
        · exact .inl (h.nr x (.inl k))
        · exact .inr k
      · exact .inl (h.nr x (.inr hx))
    have hxl : x < w'.heap.size := by
      rcases hx with hx | hx
      · exact (lv x hx).2
      · have := (l1 x hx).2; omega
    rcases hx2 with ⟨a, c⟩ | a
    · exact ⟨fun hn => hn.elim (fun hh => a hh.1) (fun hh => by omega), fun hn => hn.elim (fun hh => c hh.1) (fun hh => by omega)⟩
    · exact ⟨fun hn => hn.elim (fun hh => by omega) (fun hh => by omega), fun hn => hn.elim (fun hh => by omega) (fun hh => by omega)⟩
  · intro x h1 h2
    obtain ⟨a, c⟩ := h.nq x h1 h2
    exact ⟨fun hn => hn.elim (fun hh => a hh.1) (fun hh => by omega), fun hn => hn.elim (fun hh => c hh.1) (fun hh => by omega)⟩
  · intro x hx
    rcases hv x hx with k | k
    · exact h.d0 x k
    · exact fun e => by have := (l1 x e).2; omega
theorem SRM.push1 (h : SRM w0 wr Q N0 N1 b W b0 b1 s u0 u1 O0 O1) {w' : World} {v : Value} {q : List UInt8} (o : Ow w' (Q + 4) 5 v ((bi O1).map (Value.int .u8) ++ (bi q).map (Value.int .u8))) (f : Fr u1.ownBlock.toList wr w') (hb : v.ownBlock = u1.ownBlock ∨ v.ownBlock = some wr.heap.size) :
    ∃ M0 M1, SRM w0 w' Q M0 M1 b W b0 b1 s u0 v O0 (O1 ++ q) := by
  have hl := h.lo
  have hz := f.size
  have hq := h.hq
  have l0 := h.r0.lt
  have l1 := h.r1.lt
  have lv := o.lt
  have hv : ∀ x, v.ownBlock = some x → u1.ownBlock = some x ∨ x = wr.heap.size := fun x hx => by
    rcases hb with e | e
    · exact .inl (by rw [← e, hx])
    · rw [hx] at e; injection e with e; exact .inr e
  have hm : ∀ x, x ∈ u1.ownBlock.toList → u1.ownBlock = some x := fun x hx => by simpa using hx
  refine ⟨_, _, h.sp.outS f (fun x hx => ?_), h.lo, h.r0.keep f (fun x e hx => ?_), ?_, ?_, ?_, ?_, by omega⟩
  · have hx' := hm x hx
    have := (l1 x hx').1
    exact ⟨by omega, by omega, by omega, by omega, h.nr x (.inr hx')⟩
  · exact h.d0 x e (hm x hx)
  · rw [bi_append, List.map_append]; exact o
  · intro x hx
    have hx2 : ¬ N0 x ∧ ¬ N1 x ∨ x = wr.heap.size := by
      rcases hx with hx | hx
      · exact .inl (h.nr x (.inl hx))
      · rcases hv x hx with k | k
        · exact .inl (h.nr x (.inr k))
        · exact .inr k
    have hxl : x < w'.heap.size := by
      rcases hx with hx | hx
      · have := (l0 x hx).2; omega
      · exact (lv x hx).2
    rcases hx2 with ⟨a, c⟩ | a
    · exact ⟨fun hn => hn.elim (fun hh => a hh.1) (fun hh => by omega), fun hn => hn.elim (fun hh => c hh.1) (fun hh => by omega)⟩
    · exact ⟨fun hn => hn.elim (fun hh => by omega) (fun hh => by omega), fun hn => hn.elim (fun hh => by omega) (fun hh => by omega)⟩
  · intro x h1 h2
    obtain ⟨a, c⟩ := h.nq x h1 h2
    exact ⟨fun hn => hn.elim (fun hh => a hh.1) (fun hh => by omega), fun hn => hn.elim (fun hh => c hh.1) (fun hh => by omega)⟩
  · intro x hx e
    rcases hv x e with k | k
    · exact h.d0 x hx k
    · have := (l0 x hx).2; omega
end
structure D4 (w : World) (Q : Nat) (i0 i1 : Value) (a0 a1 : Nat) (u0 u1 : Value) (s0 s1 : Nat) : Prop where
  q0 : w.heap[Q]? = some (.cells #[i0, i1] 85 (0, 0))
  q1 : w.heap[Q + 1]? = some (.cells #[.int .i64 a0, .int .i64 a1] 86 (0, 0))
  q2 : w.heap[Q + 2]? = some (.cells #[u0, u1] 85 (0, 0))
  q3 : w.heap[Q + 3]? = some (.cells #[.int .i64 s0, .int .i64 s1] 86 (0, 0))
section
variable {w : World} {Q : Nat} {i0 i1 u0 u1 : Value} {a0 a1 s0 s1 : Nat}
theorem D4.keep (h : D4 w Q i0 i1 a0 a1 u0 u1 s0 s1) {S : List Nat} {w' : World} (f : Fr S w w') (hS : ∀ x ∈ S, x < Q ∨ Q + 4 ≤ x) : D4 w' Q i0 i1 a0 a1 u0 u1 s0 s1 :=
  ⟨f.keep h.q0 (fun hm => by have := hS _ hm; omega), f.keep h.q1 (fun hm => by have := hS _ hm; omega), f.keep h.q2 (fun hm => by have := hS _ hm; omega), f.keep h.q3 (fun hm => by have := hS _ hm; omega)⟩
theorem D4.keep0 (h : D4 w Q i0 i1 a0 a1 u0 u1 s0 s1) {w' : World} (f : Fr [] w w') : D4 w' Q i0 i1 a0 a1 u0 u1 s0 s1 := h.keep f (by simp)
theorem D4.cells (h : D4 w Q i0 i1 a0 a1 u0 u1 s0 s1) : w.cell? ⟨Q, 0, none⟩ = some (i0) ∧ w.cell? ⟨Q, 1, none⟩ = some (i1) ∧ w.cell? ⟨Q + 1, 0, none⟩ = some (.int .i64 a0) ∧ w.cell? ⟨Q + 1, 1, none⟩ = some (.int .i64 a1) ∧ w.cell? ⟨Q + 2, 0, none⟩ = some (u0) ∧ w.cell? ⟨Q + 2, 1, none⟩ = some (u1) ∧ w.cell? ⟨Q + 3, 0, none⟩ = some (.int .i64 s0) ∧ w.cell? ⟨Q + 3, 1, none⟩ = some (.int .i64 s1) :=
  ⟨cell_of h.q0, cell_of h.q0, cell_of h.q1, cell_of h.q1, cell_of h.q2, cell_of h.q2, cell_of h.q3, cell_of h.q3⟩
theorem D4.free (h : D4 w Q i0 i1 a0 a1 u0 u1 s0 s1) (i : Nat) : w.frozen? ⟨Q, i, none⟩ = false ∧ w.frozen? ⟨Q + 1, i, none⟩ = false ∧ w.frozen? ⟨Q + 2, i, none⟩ = false ∧ w.frozen? ⟨Q + 3, i, none⟩ = false :=
  ⟨free_of h.q0, free_of h.q1, free_of h.q2, free_of h.q3⟩
theorem D4.set10 (h : D4 w Q i0 i1 a0 a1 u0 u1 s0 s1) (u : Nat) : D4 (w.setCell ⟨Q + 1, 0, none⟩ (.int .i64 u)) Q i0 i1 u a1 u0 u1 s0 s1 :=
  ⟨keepS h.q0 (by dsimp only; omega), by have := heap_setCell_eq (i := 0) (u := .int .i64 u) h.q1; simpa using this, keepS h.q2 (by dsimp only; omega), keepS h.q3 (by dsimp only; omega)⟩
theorem D4.set11 (h : D4 w Q i0 i1 a0 a1 u0 u1 s0 s1) (u : Nat) : D4 (w.setCell ⟨Q + 1, 1, none⟩ (.int .i64 u)) Q i0 i1 a0 u u0 u1 s0 s1 :=
  ⟨keepS h.q0 (by dsimp only; omega), by have := heap_setCell_eq (i := 1) (u := .int .i64 u) h.q1; simpa using this, keepS h.q2 (by dsimp only; omega), keepS h.q3 (by dsimp only; omega)⟩
theorem D4.set20 (h : D4 w Q i0 i1 a0 a1 u0 u1 s0 s1) (u : Value) : D4 (w.setCell ⟨Q + 2, 0, none⟩ (u)) Q i0 i1 a0 a1 u u1 s0 s1 :=
  ⟨keepS h.q0 (by dsimp only; omega), keepS h.q1 (by dsimp only; omega), by have := heap_setCell_eq (i := 0) (u := u) h.q2; simpa using this, keepS h.q3 (by dsimp only; omega)⟩
theorem D4.set21 (h : D4 w Q i0 i1 a0 a1 u0 u1 s0 s1) (u : Value) : D4 (w.setCell ⟨Q + 2, 1, none⟩ (u)) Q i0 i1 a0 a1 u0 u s0 s1 :=
  ⟨keepS h.q0 (by dsimp only; omega), keepS h.q1 (by dsimp only; omega), by have := heap_setCell_eq (i := 1) (u := u) h.q2; simpa using this, keepS h.q3 (by dsimp only; omega)⟩
theorem D4.set30 (h : D4 w Q i0 i1 a0 a1 u0 u1 s0 s1) (u : Nat) : D4 (w.setCell ⟨Q + 3, 0, none⟩ (.int .i64 u)) Q i0 i1 a0 a1 u0 u1 u s1 :=
  ⟨keepS h.q0 (by dsimp only; omega), keepS h.q1 (by dsimp only; omega), keepS h.q2 (by dsimp only; omega), by have := heap_setCell_eq (i := 0) (u := .int .i64 u) h.q3; simpa using this⟩
theorem D4.set31 (h : D4 w Q i0 i1 a0 a1 u0 u1 s0 s1) (u : Nat) : D4 (w.setCell ⟨Q + 3, 1, none⟩ (.int .i64 u)) Q i0 i1 a0 a1 u0 u1 s0 u :=
  ⟨keepS h.q0 (by dsimp only; omega), keepS h.q1 (by dsimp only; omega), keepS h.q2 (by dsimp only; omega), by have := heap_setCell_eq (i := 1) (u := .int .i64 u) h.q3; simpa using this⟩
end
end Go.Proofs.Ytodpkdbcdbdjfaa
