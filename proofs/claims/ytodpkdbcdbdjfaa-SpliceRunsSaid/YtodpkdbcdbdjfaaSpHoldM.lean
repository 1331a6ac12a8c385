/-
  Law 22: what lies in memory between two calls of SpliceHolds: the splice, four rows of bytes, two boxes; and the plain law of both sides.
-/
import Derived.Test.YtodpkdbcdbdjfaaSpU
import Derived.Test.YtodpkdbcdbdjfaaSpNew
import Derived.Test.YtodpkdbcdbdjfaaTrHold
namespace Go.Proofs.Ytodpkdbcdbdjfaa
open Go.RowKit
set_option maxRecDepth 100000

theorem Sp.outS {w w' : World} {N0 N1 : Nat → Prop} {b W b0 b1 : Nat} {s : SS} (h : Sp w N0 N1 b W b0 b1 s) {S : List Nat} (f : Fr S w w') (hS : ∀ x ∈ S, x ≠ b ∧ x ≠ W ∧ x ≠ b0 ∧ x ≠ b1 ∧ ¬ N0 x ∧ ¬ N1 x) : Sp w' (fun y => (N0 y ∧ y < w.heap.size) ∨ w'.heap.size ≤ y) (fun y => (N1 y ∧ y < w.heap.size) ∨ w'.heap.size ≤ y) b W b0 b1 s := by
  obtain ⟨l1, l2, l3, l4⟩ := h.lt
  have hz := f.size
  exact ⟨f.keep h.q (fun hm => (hS _ hm).1 rfl), f.keep h.y (fun hm => (hS _ hm).2.1 rfl), h.h0.out f (fun hm => (hS _ hm).2.2.1 rfl) (fun x hx => (hS x hx).2.2.2.2.1), h.h1.out f (fun hm => (hS _ hm).2.2.2.1 rfl) (fun x hx => (hS x hx).2.2.2.2.2),
    ⟨fun hn => hn.elim (fun hh => h.n0.1 hh.1) (fun hh => by omega), fun hn => hn.elim (fun hh => h.n0.2.1 hh.1) (fun hh => by omega), fun hn => hn.elim (fun hh => h.n0.2.2 hh.1) (fun hh => by omega)⟩,
    ⟨fun hn => hn.elim (fun hh => h.n1.1 hh.1) (fun hh => by omega), fun hn => hn.elim (fun hh => h.n1.2.1 hh.1) (fun hh => by omega), fun hn => hn.elim (fun hh => h.n1.2.2 hh.1) (fun hh => by omega)⟩, h.nd⟩
structure SHM (w0 wr : World) (Q : Nat) (N0 N1 : Nat → Prop) (b W b0 b1 : Nat) (s : SS) (p0 p1 u0 u1 : Value) (I0 I1 O0 O1 : List UInt8) : Prop where
  sp : Sp wr N0 N1 b W b0 b1 s
  lo : (w0.heap.size ≤ b ∧ b < Q) ∧ (w0.heap.size ≤ W ∧ W < Q) ∧ (w0.heap.size ≤ b0 ∧ b0 < Q) ∧ (w0.heap.size ≤ b1 ∧ b1 < Q)
  r0 : Ow wr (Q + 2) 5 p0 ((bi I0).map (Value.int .u8))
  r1 : Ow wr (Q + 2) 5 p1 ((bi I1).map (Value.int .u8))
  r2 : Ow wr (Q + 2) 5 u0 ((bi O0).map (Value.int .u8))
  r3 : Ow wr (Q + 2) 5 u1 ((bi O1).map (Value.int .u8))
  nr : ∀ x, (p0.ownBlock = some x ∨ p1.ownBlock = some x ∨ u0.ownBlock = some x ∨ u1.ownBlock = some x) → ¬ N0 x ∧ ¬ N1 x
  nq : ∀ x, Q ≤ x → x < Q + 2 → ¬ N0 x ∧ ¬ N1 x
  d0 : ∀ x, p0.ownBlock = some x → p1.ownBlock ≠ some x ∧ u0.ownBlock ≠ some x ∧ u1.ownBlock ≠ some x
  d1 : ∀ x, p1.ownBlock = some x → u0.ownBlock ≠ some x ∧ u1.ownBlock ≠ some x
  d2 : ∀ x, u0.ownBlock = some x → u1.ownBlock ≠ some x
  hq : Q + 2 ≤ wr.heap.size
section
variable {w0 wr : World} {Q : Nat} {N0 N1 : Nat → Prop} {b W b0 b1 : Nat} {s : SS} {p0 p1 u0 u1 : Value} {I0 I1 O0 O1 : List UInt8}
theorem SHM.keep0 (h : SHM w0 wr Q N0 N1 b W b0 b1 s p0 p1 u0 u1 I0 I1 O0 O1) {w' : World} (f : Fr [] wr w') : SHM w0 w' Q N0 N1 b W b0 b1 s p0 p1 u0 u1 I0 I1 O0 O1 :=
  ⟨h.sp.keep0 f, h.lo, h.r0.keep f (by simp), h.r1.keep f (by simp), h.r2.keep f (by simp), h.r3.keep f (by simp), h.nr, h.nq, h.d0, h.d1, h.d2, Nat.le_trans h.hq f.size⟩
theorem SHM.call (h : SHM w0 wr Q N0 N1 b W b0 b1 s p0 p1 u0 u1 I0 I1 O0 O1) {w' : World} {s' : SS} (f : Fr [b, W, b0, b1] wr w') (hs : Sp w' N0 N1 b W b0 b1 s') : SHM w0 w' Q N0 N1 b W b0 b1 s' p0 p1 u0 u1 I0 I1 O0 O1 := by
  have hl := h.lo
  have hn : ∀ x, Q + 2 ≤ x → x ∉ [b, W, b0, b1] := fun x hx hm => by simp at hm; omega
  exact ⟨hs, h.lo, h.r0.keep f (fun k e => hn k (h.r0.lt k e).1), h.r1.keep f (fun k e => hn k (h.r1.lt k e).1), h.r2.keep f (fun k e => hn k (h.r2.lt k e).1), h.r3.keep f (fun k e => hn k (h.r3.lt k e).1), h.nr, h.nq, h.d0, h.d1, h.d2, Nat.le_trans h.hq f.size⟩
theorem SHM.box (h : SHM w0 wr Q N0 N1 b W b0 b1 s p0 p1 u0 u1 I0 I1 O0 O1) {k i : Nat} (hk : k < 2) (v : Value) : SHM w0 (wr.setCell ⟨Q + k, i, none⟩ v) Q N0 N1 b W b0 b1 s p0 p1 u0 u1 I0 I1 O0 O1 := by
  have f : Fr [Q + k] wr (wr.setCell ⟨Q + k, i, none⟩ v) := (Fr.refl _ _).setCell (.inl (by simp)) _
  have hl := h.lo
  have hn : ∀ x, Q + 2 ≤ x → x ∉ [Q + k] := fun x hx hm => by simp at hm; omega
  have hq := h.nq (Q + k) (by omega) (by omega)
  exact ⟨h.sp.keep f (fun x hx => by simp at hx; subst hx; exact ⟨by omega, by omega, by omega, by omega, hq.1, hq.2⟩), h.lo, h.r0.keep f (fun k e => hn k (h.r0.lt k e).1), h.r1.keep f (fun k e => hn k (h.r1.lt k e).1), h.r2.keep f (fun k e => hn k (h.r2.lt k e).1), h.r3.keep f (fun k e => hn k (h.r3.lt k e).1), h.nr, h.nq, h.d0, h.d1, h.d2, Nat.le_trans h.hq f.size⟩

theorem SHM.push0 (h : SHM w0 wr Q N0 N1 b W b0 b1 s p0 p1 u0 u1 I0 I1 O0 O1) {w' : World} {v : Value} {q : List UInt8} (o : Ow w' (Q + 2) 5 v ((bi I0).map (Value.int .u8) ++ (bi q).map (Value.int .u8))) (f : Fr p0.ownBlock.toList wr w') (hb : v.ownBlock = p0.ownBlock ∨ v.ownBlock = some wr.heap.size) :
    ∃ M0 M1, SHM w0 w' Q M0 M1 b W b0 b1 s v p1 u0 u1 (I0 ++ q) I1 O0 O1 := by
  have hl := h.lo
  have hz := f.size
  have hq := h.hq
  have l0 := h.r0.lt
  have l1 := h.r1.lt
  have l2 := h.r2.lt
  have l3 := h.r3.lt
  have lv := o.lt
  have hv : ∀ x, v.ownBlock = some x → p0.ownBlock = some x ∨ x = wr.heap.size := fun x hx => by
    rcases hb with e | e
    · exact .inl (by rw [← e, hx])
    · rw [hx] at e; injection e with e; exact .inr e
  have hm : ∀ x, x ∈ p0.ownBlock.toList → p0.ownBlock = some x := fun x hx => by simpa using hx
  refine ⟨_, _, h.sp.outS f (fun x hx => ?_), h.lo, ?_, h.r1.keep f (fun x e hx => ?_), h.r2.keep f (fun x e hx => ?_), h.r3.keep f (fun x e hx => ?_), ?_, ?_, ?_, ?_, ?_, by omega⟩
  · have hx' := hm x hx
    have := (l0 x hx').1
    exact ⟨by omega, by omega, by omega, by omega, (h.nr x (.inl hx'))⟩
  · rw [bi_append, List.map_append]; exact o
  · exact (h.d0 x (hm x hx)).1 e
  · exact (h.d0 x (hm x hx)).2.1 e
  · exact (h.d0 x (hm x hx)).2.2 e
  · intro x hx
    have hx2 : ¬ N0 x ∧ ¬ N1 x ∨ x = wr.heap.size := by
      rcases hx with hx | hx | hx | hx
      · rcases hv x hx with k | k
        · exact .inl (h.nr x (.inl k))
        · exact .inr k
      · exact .inl (h.nr x (.inr (.inl hx)))
      · exact .inl (h.nr x (.inr (.inr (.inl hx))))
      · exact .inl (h.nr x (.inr (.inr (.inr hx))))
    have hxl : x < w'.heap.size := by
      rcases hx with hx | hx | hx | hx
      · exact (lv x hx).2
      · have := (l1 x hx).2; omega
      · have := (l2 x hx).2; omega
      · have := (l3 x hx).2; omega
    rcases hx2 with ⟨a, c⟩ | a
    · exact ⟨fun hn => hn.elim (fun hh => a hh.1) (fun hh => by omega), fun hn => hn.elim (fun hh => c hh.1) (fun hh => by omega)⟩
    · exact ⟨fun hn => hn.elim (fun hh => by omega) (fun hh => by omega), fun hn => hn.elim (fun hh => by omega) (fun hh => by omega)⟩
  · intro x h1 h2
    obtain ⟨a, c⟩ := h.nq x h1 h2
    exact ⟨fun hn => hn.elim (fun hh => a hh.1) (fun hh => by omega), fun hn => hn.elim (fun hh => c hh.1) (fun hh => by omega)⟩
  · intro x hx
    rcases hv x hx with k | k
    · exact h.d0 x k
    · exact ⟨fun e => by have := (l1 x e).2; omega, fun e => by have := (l2 x e).2; omega, fun e => by have := (l3 x e).2; omega⟩
  · intro x hx
    exact h.d1 x hx
  · intro x hx
    exact h.d2 x hx
theorem SHM.push1 (h : SHM w0 wr Q N0 N1 b W b0 b1 s p0 p1 u0 u1 I0 I1 O0 O1) {w' : World} {v : Value} {q : List UInt8} (o : Ow w' (Q + 2) 5 v ((bi I1).map (Value.int .u8) ++ (bi q).map (Value.int .u8))) (f : Fr p1.ownBlock.toList wr w') (hb : v.ownBlock = p1.ownBlock ∨ v.ownBlock = some wr.heap.size) :
    ∃ M0 M1, SHM w0 w' Q M0 M1 b W b0 b1 s p0 v u0 u1 I0 (I1 ++ q) O0 O1 := by
  have hl := h.lo
  have hz := f.size
  have hq := h.hq
  have l0 := h.r0.lt
  have l1 := h.r1.lt
  have l2 := h.r2.lt
  have l3 := h.r3.lt
  have lv := o.lt
  have hv : ∀ x, v.ownBlock = some x → p1.ownBlock = some x ∨ x = wr.heap.size := fun x hx => by
    rcases hb with e | e
    · exact .inl (by rw [← e, hx])
    · rw [hx] at e; injection e with e; exact .inr e
  have hm : ∀ x, x ∈ p1.ownBlock.toList → p1.ownBlock = some x := fun x hx => by simpa using hx
  refine ⟨_, _, h.sp.outS f (fun x hx => ?_), h.lo, h.r0.keep f (fun x e hx => ?_), ?_, h.r2.keep f (fun x e hx => ?_), h.r3.keep f (fun x e hx => ?_), ?_, ?_, ?_, ?_, ?_, by omega⟩
  · have hx' := hm x hx
    have := (l1 x hx').1
    exact ⟨by omega, by omega, by omega, by omega, (h.nr x (.inr (.inl hx')))⟩
  · exact (h.d0 x e).1 (hm x hx)
  · rw [bi_append, List.map_append]; exact o
  · exact (h.d1 x (hm x hx)).1 e
  · exact (h.d1 x (hm x hx)).2 e
  · intro x hx
    have hx2 : ¬ N0 x ∧ ¬ N1 x ∨ x = wr.heap.size := by
      rcases hx with hx | hx | hx | hx
      · exact .inl (h.nr x (.inl hx))
      · rcases hv x hx with k | k
        · exact .inl (h.nr x (.inr (.inl k)))
        · exact .inr k
      · exact .inl (h.nr x (.inr (.inr (.inl hx))))
      · exact .inl (h.nr x (.inr (.inr (.inr hx))))
    have hxl : x < w'.heap.size := by
      rcases hx with hx | hx | hx | hx
      · have := (l0 x hx).2; omega
      · exact (lv x hx).2
      · have := (l2 x hx).2; omega
      · have := (l3 x hx).2; omega
    rcases hx2 with ⟨a, c⟩ | a
    · exact ⟨fun hn => hn.elim (fun hh => a hh.1) (fun hh => by omega), fun hn => hn.elim (fun hh => c hh.1) (fun hh => by omega)⟩
    · exact ⟨fun hn => hn.elim (fun hh => by omega) (fun hh => by omega), fun hn => hn.elim (fun hh => by omega) (fun hh => by omega)⟩
  · intro x h1 h2
    obtain ⟨a, c⟩ := h.nq x h1 h2
    exact ⟨fun hn => hn.elim (fun hh => a hh.1) (fun hh => by omega), fun hn => hn.elim (fun hh => c hh.1) (fun hh => by omega)⟩
  · intro x hx
    refine ⟨?_, (h.d0 x hx).2.1, (h.d0 x hx).2.2⟩
    intro e
    rcases hv x e with k | k
    · exact (h.d0 x hx).1 k
    · have := (l0 x hx).2; omega
  · intro x hx
    rcases hv x hx with k | k
    · exact h.d1 x k
    · exact ⟨fun e => by have := (l2 x e).2; omega, fun e => by have := (l3 x e).2; omega⟩
  · intro x hx
    exact h.d2 x hx
theorem SHM.push2 (h : SHM w0 wr Q N0 N1 b W b0 b1 s p0 p1 u0 u1 I0 I1 O0 O1) {w' : World} {v : Value} {q : List UInt8} (o : Ow w' (Q + 2) 5 v ((bi O0).map (Value.int .u8) ++ (bi q).map (Value.int .u8))) (f : Fr u0.ownBlock.toList wr w') (hb : v.ownBlock = u0.ownBlock ∨ v.ownBlock = some wr.heap.size) :
    ∃ M0 M1, SHM w0 w' Q M0 M1 b W b0 b1 s p0 p1 v u1 I0 I1 (O0 ++ q) O1 := by
  have hl := h.lo
  have hz := f.size
  have hq := h.hq
  have l0 := h.r0.lt
  have l1 := h.r1.lt
  have l2 := h.r2.lt
  have l3 := h.r3.lt
  have lv := o.lt
  have hv : ∀ x, v.ownBlock = some x → u0.ownBlock = some x ∨ x = wr.heap.size := fun x hx => by
    rcases hb with e | e
    · exact .inl (by rw [← e, hx])
    · rw [hx] at e; injection e with e; exact .inr e
  have hm : ∀ x, x ∈ u0.ownBlock.toList → u0.ownBlock = some x := fun x hx => by simpa using hx
  refine ⟨_, _, h.sp.outS f (fun x hx => ?_), h.lo, h.r0.keep f (fun x e hx => ?_), h.r1.keep f (fun x e hx => ?_), ?_, h.r3.keep f (fun x e hx => ?_), ?_, ?_, ?_, ?_, ?_, by omega⟩
  · have hx' := hm x hx
    have := (l2 x hx').1
    exact ⟨by omega, by omega, by omega, by omega, (h.nr x (.inr (.inr (.inl hx'))))⟩
  · exact (h.d0 x e).2.1 (hm x hx)
  · exact (h.d1 x e).1 (hm x hx)
  · rw [bi_append, List.map_append]; exact o
  · exact h.d2 x (hm x hx) e
  · intro x hx
    have hx2 : ¬ N0 x ∧ ¬ N1 x ∨ x = wr.heap.size := by
      rcases hx with hx | hx | hx | hx
      · exact .inl (h.nr x (.inl hx))
      · exact .inl (h.nr x (.inr (.inl hx)))
      · rcases hv x hx with k | k
        · exact .inl (h.nr x (.inr (.inr (.inl k))))
        · exact .inr k
      · exact .inl (h.nr x (.inr (.inr (.inr hx))))
    have hxl : x < w'.heap.size := by
      rcases hx with hx | hx | hx | hx
      · have := (l0 x hx).2; omega
      · have := (l1 x hx).2; omega
      · exact (lv x hx).2
      · have := (l3 x hx).2; omega
    rcases hx2 with ⟨a, c⟩ | a
    · exact ⟨fun hn => hn.elim (fun hh => a hh.1) (fun hh => by omega), fun hn => hn.elim (fun hh => c hh.1) (fun hh => by omega)⟩
    · exact ⟨fun hn => hn.elim (fun hh => by omega) (fun hh => by omega), fun hn => hn.elim (fun hh => by omega) (fun hh => by omega)⟩
  · intro x h1 h2
    obtain ⟨a, c⟩ := h.nq x h1 h2
    exact ⟨fun hn => hn.elim (fun hh => a hh.1) (fun hh => by omega), fun hn => hn.elim (fun hh => c hh.1) (fun hh => by omega)⟩
  · intro x hx
    refine ⟨(h.d0 x hx).1, ?_, (h.d0 x hx).2.2⟩
    intro e
    rcases hv x e with k | k
    · exact (h.d0 x hx).2.1 k
    · have := (l0 x hx).2; omega
  · intro x hx
    refine ⟨?_, (h.d1 x hx).2⟩
    intro e
    rcases hv x e with k | k
    · exact (h.d1 x hx).1 k
    · have := (l1 x hx).2; omega
  · intro x hx
    rcases hv x hx with k | k
    · exact h.d2 x k
    · exact fun e => by have := (l3 x e).2; omega
theorem SHM.push3 (h : SHM w0 wr Q N0 N1 b W b0 b1 s p0 p1 u0 u1 I0 I1 O0 O1) {w' : World} {v : Value} {q : List UInt8} (o : Ow w' (Q + 2) 5 v ((bi O1).map (Value.int .u8) ++ (bi q).map (Value.int .u8))) (f : Fr u1.ownBlock.toList wr w') (hb : v.ownBlock = u1.ownBlock ∨ v.ownBlock = some wr.heap.size) :
    ∃ M0 M1, SHM w0 w' Q M0 M1 b W b0 b1 s p0 p1 u0 v I0 I1 O0 (O1 ++ q) := by
  have hl := h.lo
  have hz := f.size
  have hq := h.hq
  have l0 := h.r0.lt
  have l1 := h.r1.lt
  have l2 := h.r2.lt
  have l3 := h.r3.lt
  have lv := o.lt
  have hv : ∀ x, v.ownBlock = some x → u1.ownBlock = some x ∨ x = wr.heap.size := fun x hx => by
    rcases hb with e | e
    · exact .inl (by rw [← e, hx])
    · rw [hx] at e; injection e with e; exact .inr e
  have hm : ∀ x, x ∈ u1.ownBlock.toList → u1.ownBlock = some x := fun x hx => by simpa using hx
  refine ⟨_, _, h.sp.outS f (fun x hx => ?_), h.lo, h.r0.keep f (fun x e hx => ?_), h.r1.keep f (fun x e hx => ?_), h.r2.keep f (fun x e hx => ?_), ?_, ?_, ?_, ?_, ?_, ?_, by omega⟩
  · have hx' := hm x hx
    have := (l3 x hx').1
    exact ⟨by omega, by omega, by omega, by omega, (h.nr x (.inr (.inr (.inr hx'))))⟩
  · exact (h.d0 x e).2.2 (hm x hx)
  · exact (h.d1 x e).2 (hm x hx)
  · exact h.d2 x e (hm x hx)
  · rw [bi_append, List.map_append]; exact o
  · intro x hx
    have hx2 : ¬ N0 x ∧ ¬ N1 x ∨ x = wr.heap.size := by
      rcases hx with hx | hx | hx | hx
      · exact .inl (h.nr x (.inl hx))
      · exact .inl (h.nr x (.inr (.inl hx)))
      · exact .inl (h.nr x (.inr (.inr (.inl hx))))
      · rcases hv x hx with k | k
        · exact .inl (h.nr x (.inr (.inr (.inr k))))
        · exact .inr k
    have hxl : x < w'.heap.size := by
      rcases hx with hx | hx | hx | hx
      · have := (l0 x hx).2; omega
      · have := (l1 x hx).2; omega
      · have := (l2 x hx).2; omega
      · exact (lv x hx).2
    rcases hx2 with ⟨a, c⟩ | a
    · exact ⟨fun hn => hn.elim (fun hh => a hh.1) (fun hh => by omega), fun hn => hn.elim (fun hh => c hh.1) (fun hh => by omega)⟩
    · exact ⟨fun hn => hn.elim (fun hh => by omega) (fun hh => by omega), fun hn => hn.elim (fun hh => by omega) (fun hh => by omega)⟩
  · intro x h1 h2
    obtain ⟨a, c⟩ := h.nq x h1 h2
    exact ⟨fun hn => hn.elim (fun hh => a hh.1) (fun hh => by omega), fun hn => hn.elim (fun hh => c hh.1) (fun hh => by omega)⟩
  · intro x hx
    refine ⟨(h.d0 x hx).1, (h.d0 x hx).2.1, ?_⟩
    intro e
    rcases hv x e with k | k
    · exact (h.d0 x hx).2.2 k
    · have := (l0 x hx).2; omega
  · intro x hx
    refine ⟨(h.d1 x hx).1, ?_⟩
    intro e
    rcases hv x e with k | k
    · exact (h.d1 x hx).2 k
    · have := (l1 x hx).2; omega
  · intro x hx
    show v.ownBlock ≠ some x
    intro e
    rcases hv x e with k | k
    · exact h.d2 x hx k
    · have := (l2 x hx).2; omega
end
structure D2 (w : World) (Q : Nat) (p0 p1 u0 u1 : Value) : Prop where
  q0 : w.heap[Q]? = some (.cells #[p0, p1] 85 (0, 0))
  q1 : w.heap[Q + 1]? = some (.cells #[u0, u1] 85 (0, 0))
section
variable {w : World} {Q : Nat} {p0 p1 u0 u1 : Value}
theorem D2.keep (h : D2 w Q p0 p1 u0 u1) {S : List Nat} {w' : World} (f : Fr S w w') (hS : ∀ x ∈ S, x < Q ∨ Q + 2 ≤ x) : D2 w' Q p0 p1 u0 u1 := ⟨f.keep h.q0 (fun hm => by have := hS _ hm; omega), f.keep h.q1 (fun hm => by have := hS _ hm; omega)⟩
theorem D2.keep0 (h : D2 w Q p0 p1 u0 u1) {w' : World} (f : Fr [] w w') : D2 w' Q p0 p1 u0 u1 := h.keep f (by simp)
theorem D2.cells (h : D2 w Q p0 p1 u0 u1) : w.cell? ⟨Q, 0, none⟩ = some p0 ∧ w.cell? ⟨Q, 1, none⟩ = some p1 ∧ w.cell? ⟨Q + 1, 0, none⟩ = some u0 ∧ w.cell? ⟨Q + 1, 1, none⟩ = some u1 := ⟨cell_of h.q0, cell_of h.q0, cell_of h.q1, cell_of h.q1⟩
theorem D2.free (h : D2 w Q p0 p1 u0 u1) (i : Nat) : w.frozen? ⟨Q, i, none⟩ = false ∧ w.frozen? ⟨Q + 1, i, none⟩ = false := ⟨free_of h.q0, free_of h.q1⟩
theorem D2.set00 (h : D2 w Q p0 p1 u0 u1) (u : Value) : D2 (w.setCell ⟨Q, 0, none⟩ u) Q u p1 u0 u1 :=
  ⟨by have := heap_setCell_eq (i := 0) (u := u) h.q0; simpa using this, keepS h.q1 (by dsimp only; omega)⟩
theorem D2.set01 (h : D2 w Q p0 p1 u0 u1) (u : Value) : D2 (w.setCell ⟨Q, 1, none⟩ u) Q p0 u u0 u1 :=
  ⟨by have := heap_setCell_eq (i := 1) (u := u) h.q0; simpa using this, keepS h.q1 (by dsimp only; omega)⟩
theorem D2.set10 (h : D2 w Q p0 p1 u0 u1) (u : Value) : D2 (w.setCell ⟨Q + 1, 0, none⟩ u) Q p0 p1 u u1 :=
  ⟨keepS h.q0 (by dsimp only; omega), by have := heap_setCell_eq (i := 0) (u := u) h.q1; simpa using this⟩
theorem D2.set11 (h : D2 w Q p0 p1 u0 u1) (u : Value) : D2 (w.setCell ⟨Q + 1, 1, none⟩ u) Q p0 p1 u0 u :=
  ⟨keepS h.q0 (by dsimp only; omega), by have := heap_setCell_eq (i := 1) (u := u) h.q1; simpa using this⟩
end
/-- The plain law of both sides. -/
structure SHL (sg : Int) (s : SS) (I0 I1 O0 O1 : List UInt8) : Prop where
  inv : Inv22 s
  a0 : THI sg (-1) s.t0 I0 O0 true
  a1 : THI sg (-1) s.t1 I1 O1 true
theorem SHL.new (sg : Int) : SHL sg (newS sg) [] [] [] [] := by
  refine ⟨?_, ?_, ?_⟩
  · have h : ∀ i, (nextS (newT sg (-1)) false i).kind ≠ 4 := fun i => by
      have e : nextT (newT sg (-1)) = ⟨1, 0, sg, [], 0⟩ := by rw [nextT_read rfl rfl rfl (by simp [newT])]; rfl
      unfold nextS
      rw [e, if_pos rfl]
      simp
    unfold Inv22 noteF newS
    exact ⟨if_neg (fun hh => h 0 hh.1), if_neg (fun hh => h 1 hh.1)⟩
  · have h := THI.new sg (-1)
    exact ⟨h.sg, h.lm, h.io, h.rd, h.wr, fun hh => by simp at hh⟩
  · have h := THI.new sg (-1)
    exact ⟨h.sg, h.lm, h.io, h.rd, h.wr, fun hh => by simp at hh⟩
section
variable {sg : Int} {s : SS} {I0 I1 O0 O1 : List UInt8}
theorem SHL.got0 (h : SHL sg s I0 I1 O0 O1) {p : List UInt8} {er : Int} (hg : gotE s.t0 p er = 0) : SHL sg (gotS0 s p er) (I0 ++ p) I1 O0 O1 := by
  obtain ⟨_, h2⟩ := h.a0.got hg
  exact ⟨inv_0 h.inv _ _, h2, h.a1⟩
theorem SHL.gotNo0 (h : SHL sg s I0 I1 O0 O1) {p : List UInt8} {er : Int} (hg : gotE s.t0 p er ≠ 0) : gotS0 s p er = s := by
  unfold gotS0 note0
  rw [show gotT s.t0 p er = s.t0 from by unfold gotT; rw [if_neg hg]]
  dsimp only
  rw [h.inv.1]
theorem SHL.wrote0 (h : SHL sg s I0 I1 O0 O1) {n er : Int} (hg : wroteE s.t0 n er = 0) : (nextT s.t0).kind = 2 ∧ 0 ≤ n ∧ n ≤ (s.t0.s.length : Nat) ∧ SHL sg (wroteS0 s n er) I0 I1 (O0 ++ s.t0.s.take n.toNat) O1 := by
  obtain ⟨h1, _, h3, h4, h5⟩ := h.a0.wrote hg
  exact ⟨h1, h3, h4, inv_0 h.inv _ _, (by rw [Bool.true_or] at h5; exact h5), h.a1⟩
theorem SHL.wroteNo0 (h : SHL sg s I0 I1 O0 O1) {n er : Int} (hg : wroteE s.t0 n er ≠ 0) : wroteS0 s n er = s := by
  unfold wroteS0 note0
  rw [show wroteT s.t0 n er = s.t0 from by unfold wroteT; rw [if_neg hg]]
  dsimp only
  rw [h.inv.1]
theorem SHL.close0 (h : SHL sg s I0 I1 O0 O1) : SHL sg (closeS0 s) I0 I1 O0 O1 := ⟨inv_0 h.inv _ _, h.a0, h.a1⟩
/-- What the law asks of a side behind each call. -/
theorem SHL.tail0 (h : SHL sg s I0 I1 O0 O1) : O0.length ≤ I0.length ∧ I0.take O0.length = O0 ∧ ((nextS s.t0 s.c0 0).kind = 3 → I0.length = O0.length) := by
  have hio := h.a0.io
  have hl : I0.length = O0.length + s.t0.s.length := by rw [hio, List.length_append]
  refine ⟨by omega, by rw [hio, List.take_append_of_le_length (Nat.le_refl _), List.take_length], fun hk => ?_⟩
  have hs : s.t0.s = [] := by
    unfold nextS at hk
    by_cases h1 : (nextT s.t0).kind = 1
    · rw [if_pos h1] at hk; simp at hk
    rw [if_neg h1] at hk
    by_cases h2 : (nextT s.t0).kind = 2
    · rw [if_pos h2] at hk; simp at hk
    rw [if_neg h2] at hk
    by_cases h3 : s.t0.r = 13 ∧ s.t0.w = 0 ∧ s.c0 = false
    · by_cases hs : s.t0.s = []
      · exact hs
      · exact absurd (by rw [nextT_write h3.2.1 hs]) h2
    · rw [if_neg h3] at hk
      rcases nextT_cases s.t0 with ⟨_, e⟩ | ⟨_, _, e⟩ | ⟨_, _, _, e⟩ | ⟨_, _, _, _, e⟩ <;> rw [e] at hk <;> simp at hk
  rw [hl, hs]
  rfl
end
section
variable {sg : Int} {s : SS} {I0 I1 O0 O1 : List UInt8}
theorem SHL.got1 (h : SHL sg s I0 I1 O0 O1) {p : List UInt8} {er : Int} (hg : gotE s.t1 p er = 0) : SHL sg (gotS1 s p er) I0 (I1 ++ p) O0 O1 := by
  obtain ⟨_, h2⟩ := h.a1.got hg
  exact ⟨inv_1 h.inv _ _, h.a0, h2⟩
theorem SHL.gotNo1 (h : SHL sg s I0 I1 O0 O1) {p : List UInt8} {er : Int} (hg : gotE s.t1 p er ≠ 0) : gotS1 s p er = s := by
  unfold gotS1 note1
  rw [show gotT s.t1 p er = s.t1 from by unfold gotT; rw [if_neg hg]]
  dsimp only
  rw [h.inv.2]
theorem SHL.wrote1 (h : SHL sg s I0 I1 O0 O1) {n er : Int} (hg : wroteE s.t1 n er = 0) : (nextT s.t1).kind = 2 ∧ 0 ≤ n ∧ n ≤ (s.t1.s.length : Nat) ∧ SHL sg (wroteS1 s n er) I0 I1 O0 (O1 ++ s.t1.s.take n.toNat) := by
  obtain ⟨h1, _, h3, h4, h5⟩ := h.a1.wrote hg
  exact ⟨h1, h3, h4, inv_1 h.inv _ _, h.a0, (by rw [Bool.true_or] at h5; exact h5)⟩
theorem SHL.wroteNo1 (h : SHL sg s I0 I1 O0 O1) {n er : Int} (hg : wroteE s.t1 n er ≠ 0) : wroteS1 s n er = s := by
  unfold wroteS1 note1
  rw [show wroteT s.t1 n er = s.t1 from by unfold wroteT; rw [if_neg hg]]
  dsimp only
  rw [h.inv.2]
theorem SHL.close1 (h : SHL sg s I0 I1 O0 O1) : SHL sg (closeS1 s) I0 I1 O0 O1 := ⟨inv_1 h.inv _ _, h.a0, h.a1⟩
/-- What the law asks of a side behind each call. -/
theorem SHL.tail1 (h : SHL sg s I0 I1 O0 O1) : O1.length ≤ I1.length ∧ I1.take O1.length = O1 ∧ ((nextS s.t1 s.c1 1).kind = 3 → I1.length = O1.length) := by
  have hio := h.a1.io
  have hl : I1.length = O1.length + s.t1.s.length := by rw [hio, List.length_append]
  refine ⟨by omega, by rw [hio, List.take_append_of_le_length (Nat.le_refl _), List.take_length], fun hk => ?_⟩
  have hs : s.t1.s = [] := by
    unfold nextS at hk
    by_cases h1 : (nextT s.t1).kind = 1
    · rw [if_pos h1] at hk; simp at hk
    rw [if_neg h1] at hk
    by_cases h2 : (nextT s.t1).kind = 2
    · rw [if_pos h2] at hk; simp at hk
    rw [if_neg h2] at hk
    by_cases h3 : s.t1.r = 13 ∧ s.t1.w = 0 ∧ s.c1 = false
    · by_cases hs : s.t1.s = []
      · exact hs
      · exact absurd (by rw [nextT_write h3.2.1 hs]) h2
    · rw [if_neg h3] at hk
      rcases nextT_cases s.t1 with ⟨_, e⟩ | ⟨_, _, e⟩ | ⟨_, _, _, e⟩ | ⟨_, _, _, _, e⟩ <;> rw [e] at hk <;> simp at hk
  rw [hl, hs]
  rfl
end
end Go.Proofs.Ytodpkdbcdbdjfaa
