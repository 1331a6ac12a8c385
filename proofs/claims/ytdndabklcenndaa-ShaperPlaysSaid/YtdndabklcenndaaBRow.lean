/-
  A row of bytes that may be written.
-/
import Derived.Test.YtdndabklcenndaaStepsTwo
namespace Go.Proofs.Ytdndabklcenndaa
open Go.RowKit

structure BRow (w : World) (g n : Nat) : Prop where
  lt : g < w.heap.size
  c : ∀ j, j < n → ∃ z : Int, w.cell? ⟨g, j, none⟩ = some (.int .u8 z)
  f : ∀ j, j < n → w.frozen? ⟨g, j, none⟩ = false
theorem BRow.at_ {w : World} {g n : Nat} (h : BRow w g n) {j : Nat} (hj : j < n) : ∃ z : Int, w.cell? ⟨g, j, none⟩ = some (.int .u8 z) ∧ w.frozen? ⟨g, j, none⟩ = false := by
  obtain ⟨z, hz⟩ := h.c j hj
  exact ⟨z, hz, h.f j hj⟩
theorem BRow.keep {w w' : World} {g n : Nat} (h : BRow w g n) {S : List Nat} (f : Fr S w w') (hn : g ∉ S) : BRow w' g n := by
  have hb := f.block g h.lt hn
  refine ⟨Nat.lt_of_lt_of_le h.lt f.size, fun j hj => ?_, fun j hj => ?_⟩
  · obtain ⟨z, hz⟩ := h.c j hj
    exact ⟨z, (World.cell?_of_block (w := w) hb).trans hz⟩
  · have := h.f j hj
    simp only [World.frozen?] at this ⊢
    rw [hb]
    exact this
theorem BRow.set {w : World} {g n : Nat} (h : BRow w g n) (b q : Nat) (z : Int) : BRow (w.setCell ⟨b, q, none⟩ (.int .u8 z)) g n := by
  refine ⟨by simpa [World.setCell] using h.lt, fun j hj => ?_, fun j hj => (World.frozen?_setCell _ _ _ _).trans (h.f j hj)⟩
  obtain ⟨y, hy⟩ := h.c j hj
  by_cases e : (⟨b, q, none⟩ : Addr) = ⟨g, j, none⟩
  · injection e with e1 e2
    subst e1 e2
    exact ⟨z, World.cell?_setCell_same _ _ _ hy⟩
  · exact ⟨y, (World.cell?_setCell_other _ _ _ _ e).trans hy⟩
theorem BRow.of_ow {w : World} {M : Nat} {e : TypeId} {g n c : Nat} {l : List UInt8} (h : Ow w M e (.slice (some ⟨g, 0, none⟩) n c) ((bi l).map (Value.int .u8))) (h0 : 0 < l.length) : BRow w g l.length := by
  obtain ⟨g', cap, hv, _, _, _, hlt, hc, hf⟩ := h.row (by simp [bi_length]; exact h0)
  injection hv with e1 _ _
  injection e1 with e1
  injection e1 with e1
  subst e1
  refine ⟨hlt, fun j hj => ⟨(bi l).getD j 0, ?_⟩, fun j _ => hf j⟩
  rw [hc j (by simp [bi_length]; exact hj)]
  simp [List.getD, bi_length, hj, List.getElem?_map, bi]
end Go.Proofs.Ytdndabklcenndaa
