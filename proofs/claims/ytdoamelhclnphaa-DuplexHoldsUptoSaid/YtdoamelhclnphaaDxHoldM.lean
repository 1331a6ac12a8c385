/-
  Law 15: what lies in memory between two calls of DuplexHolds: the connection, four rows of bytes, six boxes.
-/
import Derived.Test.YtdoamelhclnphaaDxHoldL
import Derived.Test.YtdoamelhclnphaaDxClose
import Derived.Test.YtdoamelhclnphaaAppX
namespace Go.Proofs.Ytdoamelhclnphaa
open Go.RowKit
set_option maxRecDepth 100000

theorem PB.blk5 {w : World} {M : Nat} {v : Value} {l : List UInt8} (h : PB w M v l) : ∀ g, v.ownBlock = some g → M ≤ g ∧ g < w.heap.size := by
  intro g e
  rcases h with ⟨rfl, _⟩ | ⟨g', cap, rfl, _, h2, h3, _⟩
  · cases e
  · injection e with e
    subst e
    exact ⟨h2, h3⟩
structure DHM (w0 wr : World) (Q : Nat) (F : Nat → Prop) (dx : Nat) (s : DM) (b0 b1 r0 r1 : Value) (B0 B1 R0 R1 : List UInt8) : Prop where
  x : Dx wr F dx s
  fx : ∀ x, F x → w0.heap.size ≤ x ∧ (x < Q ∨ Q + 6 ≤ x)
  p0 : PB wr (Q + 6) b0 B0
  p1 : PB wr (Q + 6) b1 B1
  o0 : Ow wr (Q + 6) 5 r0 ((bi R0).map (Value.int .u8))
  o1 : Ow wr (Q + 6) 5 r1 ((bi R1).map (Value.int .u8))
  fb : ∀ x, F x → b0.ownBlock ≠ some x ∧ b1.ownBlock ≠ some x ∧ r0.ownBlock ≠ some x ∧ r1.ownBlock ≠ some x
  n0 : ∀ x, b0.ownBlock = some x → b1.ownBlock ≠ some x ∧ r0.ownBlock ≠ some x ∧ r1.ownBlock ≠ some x
  n1 : ∀ x, b1.ownBlock = some x → r0.ownBlock ≠ some x ∧ r1.ownBlock ≠ some x
  n2 : ∀ x, r0.ownBlock = some x → r1.ownBlock ≠ some x
  hw : w0.heap.size ≤ Q
  hq : Q + 6 ≤ wr.heap.size
section
variable {w0 wr : World} {Q : Nat} {F : Nat → Prop} {dx : Nat} {s : DM} {b0 b1 r0 r1 : Value} {B0 B1 R0 R1 : List UInt8}
theorem DHM.lts (h : DHM w0 wr Q F dx s b0 b1 r0 r1 B0 B1 R0 R1) : (∀ g, b0.ownBlock = some g → Q + 6 ≤ g ∧ g < wr.heap.size) ∧ (∀ g, b1.ownBlock = some g → Q + 6 ≤ g ∧ g < wr.heap.size) ∧ (∀ g, r0.ownBlock = some g → Q + 6 ≤ g ∧ g < wr.heap.size) ∧ (∀ g, r1.ownBlock = some g → Q + 6 ≤ g ∧ g < wr.heap.size) ∧ ∀ x, F x → x < wr.heap.size :=
  ⟨h.p0.blk5, h.p1.blk5, h.o0.lt, h.o1.lt, h.x.lt⟩
theorem DHM.keep (h : DHM w0 wr Q F dx s b0 b1 r0 r1 B0 B1 R0 R1) {S : List Nat} {w' : World} (f : Fr S wr w') (hS : ∀ x ∈ S, ¬ F x ∧ b0.ownBlock ≠ some x ∧ b1.ownBlock ≠ some x ∧ r0.ownBlock ≠ some x ∧ r1.ownBlock ≠ some x) : DHM w0 w' Q F dx s b0 b1 r0 r1 B0 B1 R0 R1 :=
  ⟨h.x.keep f (fun x hx => (hS x hx).1), h.fx, h.p0.keep f (fun g e hm => (hS g hm).2.1 e), h.p1.keep f (fun g e hm => (hS g hm).2.2.1 e), h.o0.keep f (fun g e hm => (hS g hm).2.2.2.1 e), h.o1.keep f (fun g e hm => (hS g hm).2.2.2.2 e), h.fb, h.n0, h.n1, h.n2, h.hw, Nat.le_trans h.hq f.size⟩
theorem DHM.keep0 (h : DHM w0 wr Q F dx s b0 b1 r0 r1 B0 B1 R0 R1) {w' : World} (f : Fr [] wr w') : DHM w0 w' Q F dx s b0 b1 r0 r1 B0 B1 R0 R1 := h.keep f (by simp)
theorem DHM.keepB (h : DHM w0 wr Q F dx s b0 b1 r0 r1 B0 B1 R0 R1) {S : List Nat} {w' : World} (f : Fr S wr w') (hS : ∀ x ∈ S, Q ≤ x ∧ x < Q + 6) : DHM w0 w' Q F dx s b0 b1 r0 r1 B0 B1 R0 R1 := by
  obtain ⟨l0, l1, l2, l3, _⟩ := h.lts
  refine h.keep f (fun x hx => ?_)
  have hb := hS x hx
  exact ⟨fun hf => by have := (h.fx x hf).2; omega, fun e => by have := l0 x e; omega, fun e => by have := l1 x e; omega, fun e => by have := l2 x e; omega, fun e => by have := l3 x e; omega⟩
theorem DHM.box (h : DHM w0 wr Q F dx s b0 b1 r0 r1 B0 B1 R0 R1) {k i : Nat} (hk : k < 6) (v : Value) : DHM w0 (wr.setCell ⟨Q + k, i, none⟩ v) Q F dx s b0 b1 r0 r1 B0 B1 R0 R1 :=
  h.keepB (S := [Q + k]) ((Fr.refl _ _).setCell (.inl (by simp)) _) (by simp; omega)
/-- Behind a call on the connection. -/
theorem DHM.call (h : DHM w0 wr Q F dx s b0 b1 r0 r1 B0 B1 R0 R1) {G : Nat → Prop} (hG : ∀ x, G x → wr.heap.size ≤ x) {s' : DM} {w' : World} (hp : DxQ wr F G dx s' w') :
    ∃ S F', Fr S wr w' ∧ (∀ x ∈ S, F x ∨ wr.heap.size ≤ x) ∧ DHM w0 w' Q F' dx s' b0 b1 r0 r1 B0 B1 R0 R1 := by
  obtain ⟨⟨S, hS, f⟩, F', hF', hx⟩ := hp
  obtain ⟨l0, l1, l2, l3, _⟩ := h.lts
  have hq := h.hq
  have hF2 : ∀ x, F' x → F x ∨ wr.heap.size ≤ x := fun x hx => by
    rcases hF' x hx with h | h | h
    · exact .inl h
    · exact .inr (hG x h)
    · exact .inr h
  refine ⟨S, F', f, hS, hx, fun x hx => ?_, h.p0.keep f (fun g e hm => ?_), h.p1.keep f (fun g e hm => ?_), h.o0.keep f (fun g e hm => ?_), h.o1.keep f (fun g e hm => ?_), fun x hx => ?_, h.n0, h.n1, h.n2, h.hw, Nat.le_trans hq f.size⟩
  · rcases hF2 x hx with k | k
    · exact h.fx x k
    · have := h.hw; exact ⟨by omega, by omega⟩
  · rcases hS g hm with k | k
    · exact (h.fb g k).1 e
    · have := l0 g e; omega
  · rcases hS g hm with k | k
    · exact (h.fb g k).2.1 e
    · have := l1 g e; omega
  · rcases hS g hm with k | k
    · exact (h.fb g k).2.2.1 e
    · have := l2 g e; omega
  · rcases hS g hm with k | k
    · exact (h.fb g k).2.2.2 e
    · have := l3 g e; omega
  · rcases hF2 x hx with k | k
    · exact h.fb x k
    · exact ⟨fun e => by have := l0 x e; omega, fun e => by have := l1 x e; omega, fun e => by have := l2 x e; omega, fun e => by have := l3 x e; omega⟩

theorem DHM.app0 (h : DHM w0 wr Q F dx s b0 b1 r0 r1 B0 B1 R0 R1) {w' : World} {v : Value} {out : List UInt8} (o : Ow w' (Q + 6) 5 v ((bi R0).map (Value.int .u8) ++ (bi out).map (Value.int .u8))) (f : Fr r0.ownBlock.toList wr w') (hb : v.ownBlock = r0.ownBlock ∨ v.ownBlock = some wr.heap.size) :
    DHM w0 w' Q F dx s b0 b1 v r1 B0 B1 (R0 ++ out) R1 := by
  obtain ⟨l0, l1, l2, l3, lf⟩ := h.lts
  have hv : ∀ x, v.ownBlock = some x → r0.ownBlock = some x ∨ x = wr.heap.size := fun x hx => by
    rcases hb with e | e
    · exact .inl (by rw [← e, hx])
    · rw [hx] at e; injection e with e; exact .inr e
  have hm : ∀ x, x ∈ r0.ownBlock.toList → r0.ownBlock = some x := fun x hx => by simpa using hx
  refine ⟨h.x.keep f (fun x hx hF => (h.fb x hF).2.2.1 (hm x hx)), h.fx, h.p0.keep f (fun g e hx => (h.n0 g e).2.1 (hm g hx)), h.p1.keep f (fun g e hx => (h.n1 g e).1 (hm g hx)), ?_, ?_, ?_, ?_, ?_, ?_, h.hw, Nat.le_trans h.hq f.size⟩
  · rw [bi_append, List.map_append]; exact o
  · exact h.o1.keep f (fun g e hx => h.n2 g (hm g hx) e)
  · intro x hx
    refine ⟨(h.fb x hx).1, (h.fb x hx).2.1, ?_, (h.fb x hx).2.2.2⟩
    intro e
    rcases hv x e with k | k
    · exact (h.fb x hx).2.2.1 k
    · have := lf x hx; omega
  · intro x hx
    refine ⟨(h.n0 x hx).1, ?_, (h.n0 x hx).2.2⟩
    intro e
    rcases hv x e with k | k
    · exact (h.n0 x hx).2.1 k
    · have := l0 x hx; omega
  · intro x hx
    refine ⟨?_, (h.n1 x hx).2⟩
    intro e
    rcases hv x e with k | k
    · exact (h.n1 x hx).1 k
    · have := l1 x hx; omega
  · intro x hx e
    rcases hv x hx with k | k
    · exact h.n2 x k e
    · have := l3 x e; omega
theorem DHM.app1 (h : DHM w0 wr Q F dx s b0 b1 r0 r1 B0 B1 R0 R1) {w' : World} {v : Value} {out : List UInt8} (o : Ow w' (Q + 6) 5 v ((bi R1).map (Value.int .u8) ++ (bi out).map (Value.int .u8))) (f : Fr r1.ownBlock.toList wr w') (hb : v.ownBlock = r1.ownBlock ∨ v.ownBlock = some wr.heap.size) :
    DHM w0 w' Q F dx s b0 b1 r0 v B0 B1 R0 (R1 ++ out) := by
  obtain ⟨l0, l1, l2, l3, lf⟩ := h.lts
  have hv : ∀ x, v.ownBlock = some x → r1.ownBlock = some x ∨ x = wr.heap.size := fun x hx => by
    rcases hb with e | e
    · exact .inl (by rw [← e, hx])
    · rw [hx] at e; injection e with e; exact .inr e
  have hm : ∀ x, x ∈ r1.ownBlock.toList → r1.ownBlock = some x := fun x hx => by simpa using hx
  refine ⟨h.x.keep f (fun x hx hF => (h.fb x hF).2.2.2 (hm x hx)), h.fx, h.p0.keep f (fun g e hx => (h.n0 g e).2.2 (hm g hx)), h.p1.keep f (fun g e hx => (h.n1 g e).2 (hm g hx)), ?_, ?_, ?_, ?_, ?_, ?_, h.hw, Nat.le_trans h.hq f.size⟩
  · exact h.o0.keep f (fun g e hx => h.n2 g e (hm g hx))
  · rw [bi_append, List.map_append]; exact o
  · intro x hx
    refine ⟨(h.fb x hx).1, (h.fb x hx).2.1, (h.fb x hx).2.2.1, ?_⟩
    intro e
    rcases hv x e with k | k
    · exact (h.fb x hx).2.2.2 k
    · have := lf x hx; omega
  · intro x hx
    refine ⟨(h.n0 x hx).1, (h.n0 x hx).2.1, ?_⟩
    intro e
    rcases hv x e with k | k
    · exact (h.n0 x hx).2.2 k
    · have := l0 x hx; omega
  · intro x hx
    refine ⟨(h.n1 x hx).1, ?_⟩
    intro e
    rcases hv x e with k | k
    · exact (h.n1 x hx).2 k
    · have := l1 x hx; omega
  · intro x hx e
    rcases hv x e with k | k
    · exact h.n2 x hx k
    · have := l2 x hx; omega
theorem DHM.grow0 {a : Option Addr} {bc : Nat} (h : DHM w0 wr Q F dx s (.slice a B0.length bc) b1 r0 r1 B0 B1 R0 R1) {w1 w' : World} {v : Value} {X : List UInt8} {g : Nat} (hg : g ≤ B0.length) (f1 : Fr [] wr w1) (f2 : Fr [] w1 w')
    (hor : ((bi X).map (Value.int .u8) = [] ∧ v = .slice a g g ∧ w' = w1) ∨ Ow w' w1.heap.size 5 v ((bi (B0.take g)).map (Value.int .u8) ++ (bi X).map (Value.int .u8))) :
    DHM w0 w' Q F dx s v b1 r0 r1 (B0.take g ++ X) B1 R0 R1 := by
  have f := f1.then0 f2
  have H := h.keep0 f
  obtain ⟨l0, l1, l2, l3, lf⟩ := h.lts
  have hz := f1.size
  have hp : PB w' (Q + 6) v (B0.take g ++ X) ∧ ∀ x, v.ownBlock = some x → (Value.slice a B0.length bc).ownBlock = some x ∨ wr.heap.size ≤ x := by
    rcases hor with ⟨hx, rfl, _⟩ | ow
    · have hX : X = [] := by
        have := congrArg List.length hx
        simpa [bi_length] using this
      subst hX
      rw [List.append_nil]
      have hob : (Value.slice a g g).ownBlock = (Value.slice a B0.length bc).ownBlock := by cases a <;> rfl
      refine ⟨H.p0.cut hg (Nat.le_refl _) (fun e => ?_), fun x e => .inl (hob ▸ e)⟩
      subst e
      rcases H.p0 with ⟨e, hl⟩ | ⟨_, _, e, _⟩
      · rw [hl] at hg
        simpa using hg
      · injection e with e; cases e
    · exact ⟨PB.ofOw (by rw [bi_append, List.map_append]; exact ow.mono (by have := h.hq; omega)), fun x e => .inr (by have := (ow.lt x e).1; omega)⟩
  obtain ⟨hp, hv⟩ := hp
  refine ⟨H.x, H.fx, hp, H.p1, H.o0, H.o1, ?_, ?_, ?_, H.n2, H.hw, H.hq⟩
  · intro x hx
    refine ⟨fun e => ?_, (H.fb x hx).2⟩
    rcases hv x e with k | k
    · exact (H.fb x hx).1 k
    · have := lf x hx; omega
  · intro x hx
    rcases hv x hx with k | k
    · exact H.n0 x k
    · exact ⟨fun e => by have := l1 x e; omega, fun e => by have := l2 x e; omega, fun e => by have := l3 x e; omega⟩
  · exact H.n1
theorem DHM.grow1 {a : Option Addr} {bc : Nat} (h : DHM w0 wr Q F dx s b0 (.slice a B1.length bc) r0 r1 B0 B1 R0 R1) {w1 w' : World} {v : Value} {X : List UInt8} {g : Nat} (hg : g ≤ B1.length) (f1 : Fr [] wr w1) (f2 : Fr [] w1 w')
    (hor : ((bi X).map (Value.int .u8) = [] ∧ v = .slice a g g ∧ w' = w1) ∨ Ow w' w1.heap.size 5 v ((bi (B1.take g)).map (Value.int .u8) ++ (bi X).map (Value.int .u8))) :
    DHM w0 w' Q F dx s b0 v r0 r1 B0 (B1.take g ++ X) R0 R1 := by
  have f := f1.then0 f2
  have H := h.keep0 f
  obtain ⟨l0, l1, l2, l3, lf⟩ := h.lts
  have hz := f1.size
  have hp : PB w' (Q + 6) v (B1.take g ++ X) ∧ ∀ x, v.ownBlock = some x → (Value.slice a B1.length bc).ownBlock = some x ∨ wr.heap.size ≤ x := by
    rcases hor with ⟨hx, rfl, _⟩ | ow
    · have hX : X = [] := by
        have := congrArg List.length hx
        simpa [bi_length] using this
      subst hX
      rw [List.append_nil]
      have hob : (Value.slice a g g).ownBlock = (Value.slice a B1.length bc).ownBlock := by cases a <;> rfl
      refine ⟨H.p1.cut hg (Nat.le_refl _) (fun e => ?_), fun x e => .inl (hob ▸ e)⟩
      subst e
      rcases H.p1 with ⟨e, hl⟩ | ⟨_, _, e, _⟩
      · rw [hl] at hg
        simpa using hg
      · injection e with e; cases e
    · exact ⟨PB.ofOw (by rw [bi_append, List.map_append]; exact ow.mono (by have := h.hq; omega)), fun x e => .inr (by have := (ow.lt x e).1; omega)⟩
  obtain ⟨hp, hv⟩ := hp
  refine ⟨H.x, H.fx, H.p0, hp, H.o0, H.o1, ?_, ?_, ?_, H.n2, H.hw, H.hq⟩
  · intro x hx
    refine ⟨(H.fb x hx).1, fun e => ?_, (H.fb x hx).2.2⟩
    rcases hv x e with k | k
    · exact (H.fb x hx).2.1 k
    · have := lf x hx; omega
  · intro x hx
    refine ⟨fun e => ?_, (H.n0 x hx).2⟩
    rcases hv x e with k | k
    · exact (H.n0 x hx).1 k
    · have := l0 x hx; omega
  · intro x hx
    rcases hv x hx with k | k
    · exact H.n1 x k
    · exact ⟨fun e => by have := l2 x e; omega, fun e => by have := l3 x e; omega⟩
end
/-- The six boxes. -/
structure D6 (w : World) (Q : Nat) (b0 b1 r0 r1 : Value) (f0 f1 : Int) (y0 y1 k0 k1 h0 h1 : Bool) : Prop where
  q0 : w.heap[Q]? = some (.cells #[b0, b1] 91 (0, 0))
  q1 : w.heap[Q + 1]? = some (.cells #[r0, r1] 91 (0, 0))
  q2 : w.heap[Q + 2]? = some (.cells #[.int .i64 f0, .int .i64 f1] 92 (0, 0))
  q3 : w.heap[Q + 3]? = some (.cells #[.bool y0, .bool y1] 25 (0, 0))
  q4 : w.heap[Q + 4]? = some (.cells #[.bool k0, .bool k1] 25 (0, 0))
  q5 : w.heap[Q + 5]? = some (.cells #[.bool h0, .bool h1] 25 (0, 0))
section
variable {w : World} {Q : Nat} {b0 b1 r0 r1 : Value} {f0 f1 : Int} {y0 y1 k0 k1 h0 h1 : Bool}
theorem D6.keep (h : D6 w Q b0 b1 r0 r1 f0 f1 y0 y1 k0 k1 h0 h1) {S : List Nat} {w' : World} (f : Fr S w w') (hS : ∀ x ∈ S, x < Q ∨ Q + 6 ≤ x) : D6 w' Q b0 b1 r0 r1 f0 f1 y0 y1 k0 k1 h0 h1 :=
  ⟨f.keep h.q0 (fun hm => by have := hS _ hm; omega), f.keep h.q1 (fun hm => by have := hS _ hm; omega), f.keep h.q2 (fun hm => by have := hS _ hm; omega), f.keep h.q3 (fun hm => by have := hS _ hm; omega), f.keep h.q4 (fun hm => by have := hS _ hm; omega), f.keep h.q5 (fun hm => by have := hS _ hm; omega)⟩
theorem D6.keep0 (h : D6 w Q b0 b1 r0 r1 f0 f1 y0 y1 k0 k1 h0 h1) {w' : World} (f : Fr [] w w') : D6 w' Q b0 b1 r0 r1 f0 f1 y0 y1 k0 k1 h0 h1 := h.keep f (by simp)
theorem D6.cells (h : D6 w Q b0 b1 r0 r1 f0 f1 y0 y1 k0 k1 h0 h1) : w.cell? ⟨Q, 0, none⟩ = some (b0) ∧ w.cell? ⟨Q, 1, none⟩ = some (b1) ∧ w.cell? ⟨Q + 1, 0, none⟩ = some (r0) ∧ w.cell? ⟨Q + 1, 1, none⟩ = some (r1) ∧ w.cell? ⟨Q + 2, 0, none⟩ = some (.int .i64 f0) ∧ w.cell? ⟨Q + 2, 1, none⟩ = some (.int .i64 f1) ∧ w.cell? ⟨Q + 3, 0, none⟩ = some (.bool y0) ∧ w.cell? ⟨Q + 3, 1, none⟩ = some (.bool y1) ∧ w.cell? ⟨Q + 4, 0, none⟩ = some (.bool k0) ∧ w.cell? ⟨Q + 4, 1, none⟩ = some (.bool k1) ∧ w.cell? ⟨Q + 5, 0, none⟩ = some (.bool h0) ∧ w.cell? ⟨Q + 5, 1, none⟩ = some (.bool h1) :=
  ⟨cell_of h.q0, cell_of h.q0, cell_of h.q1, cell_of h.q1, cell_of h.q2, cell_of h.q2, cell_of h.q3, cell_of h.q3, cell_of h.q4, cell_of h.q4, cell_of h.q5, cell_of h.q5⟩
theorem D6.free (h : D6 w Q b0 b1 r0 r1 f0 f1 y0 y1 k0 k1 h0 h1) (i : Nat) : w.frozen? ⟨Q, i, none⟩ = false ∧ w.frozen? ⟨Q + 1, i, none⟩ = false ∧ w.frozen? ⟨Q + 2, i, none⟩ = false ∧ w.frozen? ⟨Q + 3, i, none⟩ = false ∧ w.frozen? ⟨Q + 4, i, none⟩ = false ∧ w.frozen? ⟨Q + 5, i, none⟩ = false :=
  ⟨free_of h.q0, free_of h.q1, free_of h.q2, free_of h.q3, free_of h.q4, free_of h.q5⟩
theorem D6.set00 (h : D6 w Q b0 b1 r0 r1 f0 f1 y0 y1 k0 k1 h0 h1) (u : Value) : D6 (w.setCell ⟨Q, 0, none⟩ (u)) Q u b1 r0 r1 f0 f1 y0 y1 k0 k1 h0 h1 :=
  ⟨by have := heap_setCell_eq (i := 0) (u := u) h.q0; simpa using this, keepS h.q1 (by dsimp only; omega), keepS h.q2 (by dsimp only; omega), keepS h.q3 (by dsimp only; omega), keepS h.q4 (by dsimp only; omega), keepS h.q5 (by dsimp only; omega)⟩
theorem D6.set01 (h : D6 w Q b0 b1 r0 r1 f0 f1 y0 y1 k0 k1 h0 h1) (u : Value) : D6 (w.setCell ⟨Q, 1, none⟩ (u)) Q b0 u r0 r1 f0 f1 y0 y1 k0 k1 h0 h1 :=
  ⟨by have := heap_setCell_eq (i := 1) (u := u) h.q0; simpa using this, keepS h.q1 (by dsimp only; omega), keepS h.q2 (by dsimp only; omega), keepS h.q3 (by dsimp only; omega), keepS h.q4 (by dsimp only; omega), keepS h.q5 (by dsimp only; omega)⟩
theorem D6.set10 (h : D6 w Q b0 b1 r0 r1 f0 f1 y0 y1 k0 k1 h0 h1) (u : Value) : D6 (w.setCell ⟨Q + 1, 0, none⟩ (u)) Q b0 b1 u r1 f0 f1 y0 y1 k0 k1 h0 h1 :=
  ⟨keepS h.q0 (by dsimp only; omega), by have := heap_setCell_eq (i := 0) (u := u) h.q1; simpa using this, keepS h.q2 (by dsimp only; omega), keepS h.q3 (by dsimp only; omega), keepS h.q4 (by dsimp only; omega), keepS h.q5 (by dsimp only; omega)⟩
theorem D6.set11 (h : D6 w Q b0 b1 r0 r1 f0 f1 y0 y1 k0 k1 h0 h1) (u : Value) : D6 (w.setCell ⟨Q + 1, 1, none⟩ (u)) Q b0 b1 r0 u f0 f1 y0 y1 k0 k1 h0 h1 :=
  ⟨keepS h.q0 (by dsimp only; omega), by have := heap_setCell_eq (i := 1) (u := u) h.q1; simpa using this, keepS h.q2 (by dsimp only; omega), keepS h.q3 (by dsimp only; omega), keepS h.q4 (by dsimp only; omega), keepS h.q5 (by dsimp only; omega)⟩
theorem D6.set20 (h : D6 w Q b0 b1 r0 r1 f0 f1 y0 y1 k0 k1 h0 h1) (u : Int) : D6 (w.setCell ⟨Q + 2, 0, none⟩ (.int .i64 u)) Q b0 b1 r0 r1 u f1 y0 y1 k0 k1 h0 h1 :=
  ⟨keepS h.q0 (by dsimp only; omega), keepS h.q1 (by dsimp only; omega), by have := heap_setCell_eq (i := 0) (u := .int .i64 u) h.q2; simpa using this, keepS h.q3 (by dsimp only; omega), keepS h.q4 (by dsimp only; omega), keepS h.q5 (by dsimp only; omega)⟩
theorem D6.set21 (h : D6 w Q b0 b1 r0 r1 f0 f1 y0 y1 k0 k1 h0 h1) (u : Int) : D6 (w.setCell ⟨Q + 2, 1, none⟩ (.int .i64 u)) Q b0 b1 r0 r1 f0 u y0 y1 k0 k1 h0 h1 :=
  ⟨keepS h.q0 (by dsimp only; omega), keepS h.q1 (by dsimp only; omega), by have := heap_setCell_eq (i := 1) (u := .int .i64 u) h.q2; simpa using this, keepS h.q3 (by dsimp only; omega), keepS h.q4 (by dsimp only; omega), keepS h.q5 (by dsimp only; omega)⟩
theorem D6.set30 (h : D6 w Q b0 b1 r0 r1 f0 f1 y0 y1 k0 k1 h0 h1) (u : Bool) : D6 (w.setCell ⟨Q + 3, 0, none⟩ (.bool u)) Q b0 b1 r0 r1 f0 f1 u y1 k0 k1 h0 h1 :=
  ⟨keepS h.q0 (by dsimp only; omega), keepS h.q1 (by dsimp only; omega), keepS h.q2 (by dsimp only; omega), by have := heap_setCell_eq (i := 0) (u := .bool u) h.q3; simpa using this, keepS h.q4 (by dsimp only; omega), keepS h.q5 (by dsimp only; omega)⟩
theorem D6.set31 (h : D6 w Q b0 b1 r0 r1 f0 f1 y0 y1 k0 k1 h0 h1) (u : Bool) : D6 (w.setCell ⟨Q + 3, 1, none⟩ (.bool u)) Q b0 b1 r0 r1 f0 f1 y0 u k0 k1 h0 h1 :=
  ⟨keepS h.q0 (by dsimp only; omega), keepS h.q1 (by dsimp only; omega), keepS h.q2 (by dsimp only; omega), by have := heap_setCell_eq (i := 1) (u := .bool u) h.q3; simpa using this, keepS h.q4 (by dsimp only; omega), keepS h.q5 (by dsimp only; omega)⟩
theorem D6.set40 (h : D6 w Q b0 b1 r0 r1 f0 f1 y0 y1 k0 k1 h0 h1) (u : Bool) : D6 (w.setCell ⟨Q + 4, 0, none⟩ (.bool u)) Q b0 b1 r0 r1 f0 f1 y0 y1 u k1 h0 h1 :=
  ⟨keepS h.q0 (by dsimp only; omega), keepS h.q1 (by dsimp only; omega), keepS h.q2 (by dsimp only; omega), keepS h.q3 (by dsimp only; omega), by have := heap_setCell_eq (i := 0) (u := .bool u) h.q4; simpa using this, keepS h.q5 (by dsimp only; omega)⟩
theorem D6.set41 (h : D6 w Q b0 b1 r0 r1 f0 f1 y0 y1 k0 k1 h0 h1) (u : Bool) : D6 (w.setCell ⟨Q + 4, 1, none⟩ (.bool u)) Q b0 b1 r0 r1 f0 f1 y0 y1 k0 u h0 h1 :=
  ⟨keepS h.q0 (by dsimp only; omega), keepS h.q1 (by dsimp only; omega), keepS h.q2 (by dsimp only; omega), keepS h.q3 (by dsimp only; omega), by have := heap_setCell_eq (i := 1) (u := .bool u) h.q4; simpa using this, keepS h.q5 (by dsimp only; omega)⟩
theorem D6.set50 (h : D6 w Q b0 b1 r0 r1 f0 f1 y0 y1 k0 k1 h0 h1) (u : Bool) : D6 (w.setCell ⟨Q + 5, 0, none⟩ (.bool u)) Q b0 b1 r0 r1 f0 f1 y0 y1 k0 k1 u h1 :=
  ⟨keepS h.q0 (by dsimp only; omega), keepS h.q1 (by dsimp only; omega), keepS h.q2 (by dsimp only; omega), keepS h.q3 (by dsimp only; omega), keepS h.q4 (by dsimp only; omega), by have := heap_setCell_eq (i := 0) (u := .bool u) h.q5; simpa using this⟩
theorem D6.set51 (h : D6 w Q b0 b1 r0 r1 f0 f1 y0 y1 k0 k1 h0 h1) (u : Bool) : D6 (w.setCell ⟨Q + 5, 1, none⟩ (.bool u)) Q b0 b1 r0 r1 f0 f1 y0 y1 k0 k1 h0 u :=
  ⟨keepS h.q0 (by dsimp only; omega), keepS h.q1 (by dsimp only; omega), keepS h.q2 (by dsimp only; omega), keepS h.q3 (by dsimp only; omega), keepS h.q4 (by dsimp only; omega), by have := heap_setCell_eq (i := 1) (u := .bool u) h.q5; simpa using this⟩
end
end Go.Proofs.Ytdoamelhclnphaa
