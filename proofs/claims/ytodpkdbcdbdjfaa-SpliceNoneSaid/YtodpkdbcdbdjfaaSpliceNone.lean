/-
  Law 22: SpliceNone: nil and zero splices.
-/
import Derived.Test.YtodpkdbcdbdjfaaKnown22
import Derived.LoopN
namespace Go.Proofs.Ytodpkdbcdbdjfaa
open Go.RowKit
set_option maxRecDepth 100000

set_option maxHeartbeats 8000000 in
theorem spliceNone_walk (from_ n x : Int) (w : World) :
    Calls Try.prog 12 #[.int .i64 from_, .int .i64 n, .int .i64 x] w fun e w' => e = .returned (.bool true) ∧ Fr [] w w' := by
  have hcv := fun (w : World) (C : Array Value) (n c : Nat) => Lib.run_convert_bytes_const (P := Try.prog) w 22 5 C n c Try.underlying22 Try.underlying5
  go_enter Try.func12, Try.ntmps12
  go_wp2_with fail
  obtain ⟨w0, hW⟩ : ∃ W, W = (w.alloc (.cells #[.pointer none, .int .i64 0] 103)).alloc (.cells #[.pointer none, .pointer (some ⟨w.heap.size, 0, none⟩)] 68) := ⟨_, rfl⟩
  rw [← hW]
  have z : w0.heap[w.heap.size]? = some (.cells #[.pointer none, .int .i64 0] 103 (0, 0)) := by rw [hW]; exact keepA (newA rfl)
  have s : w0.heap[w.heap.size + 1]? = some (.cells #[.pointer none, .pointer (some ⟨w.heap.size, 0, none⟩)] 68 (0, 0)) := by rw [hW]; exact newA (by simp)
  have g : Fr [] w w0 := by rw [hW]; exact ((Fr.refl _ _).alloc _).alloc _
  clear hW
  generalize w.heap.size = B at z s ⊢
  have c0 : w0.cell? ⟨B + 1, 0, none⟩ = some (.pointer none) := cell_of s
  refine wp_loop_rounds 3 ?_
  rw [rounds_succ]
  go_wp2_with fail
  refine (wants22 (x := ⟨0, 0, 0, [], 0⟩) (next22_z (.inl rfl) from_) (Wr.plain _ _ _ _ _)).mono ?_
  rintro e w1 ⟨rfl, f⟩
  replace z : w1.heap[B]? = some (.cells #[.pointer none, .int .i64 0] 103 (0, 0)) := f.keep z (by simp)
  replace s : w1.heap[B + 1]? = some (.cells #[.pointer none, .pointer (some ⟨B, 0, none⟩)] 68 (0, 0)) := f.keep s (by simp)
  replace g : Fr [] w w1 := g.then0 f
  clear f
  go_wp2_with fail
  refine (sp_got_z (Zs.keep (.inl rfl) ((Fr.refl [] _).alloc _)) from_ _ _ _ _).mono ?_
  rintro e w2 ⟨rfl, f⟩
  replace f : Fr [] w1 w2 := ((Fr.refl [] w1).alloc _).then0 f
  replace z : w2.heap[B]? = some (.cells #[.pointer none, .int .i64 0] 103 (0, 0)) := f.keep z (by simp)
  replace s : w2.heap[B + 1]? = some (.cells #[.pointer none, .pointer (some ⟨B, 0, none⟩)] 68 (0, 0)) := f.keep s (by simp)
  replace g : Fr [] w w2 := g.then0 f
  clear f
  go_wp2_with fail
  refine (sp_wrote_z (.inl rfl) from_ _ _).mono ?_
  rintro e w3 ⟨rfl, f⟩
  replace z : w3.heap[B]? = some (.cells #[.pointer none, .int .i64 0] 103 (0, 0)) := f.keep z (by simp)
  replace s : w3.heap[B + 1]? = some (.cells #[.pointer none, .pointer (some ⟨B, 0, none⟩)] 68 (0, 0)) := f.keep s (by simp)
  replace g : Fr [] w w3 := g.then0 f
  clear f
  go_wp2_with fail
  refine (sp_close_z (.inl rfl) from_).mono ?_
  rintro e w4 ⟨rfl, f⟩
  replace z : w4.heap[B]? = some (.cells #[.pointer none, .int .i64 0] 103 (0, 0)) := f.keep z (by simp)
  replace s : w4.heap[B + 1]? = some (.cells #[.pointer none, .pointer (some ⟨B, 0, none⟩)] 68 (0, 0)) := f.keep s (by simp)
  replace g : Fr [] w w4 := g.then0 f
  clear f
  go_wp2_with fail
  refine (moved22 (sp_moved_z (.inl rfl) from_)).mono ?_
  rintro e w5 ⟨rfl, f⟩
  replace z : w5.heap[B]? = some (.cells #[.pointer none, .int .i64 0] 103 (0, 0)) := f.keep z (by simp)
  replace s : w5.heap[B + 1]? = some (.cells #[.pointer none, .pointer (some ⟨B, 0, none⟩)] 68 (0, 0)) := f.keep s (by simp)
  replace g : Fr [] w w5 := g.then0 f
  clear f
  go_wp2_with fail
  refine (done22 (sp_done_z (.inl rfl))).mono ?_
  rintro e w6 ⟨rfl, f⟩
  replace z : w6.heap[B]? = some (.cells #[.pointer none, .int .i64 0] 103 (0, 0)) := f.keep z (by simp)
  replace s : w6.heap[B + 1]? = some (.cells #[.pointer none, .pointer (some ⟨B, 0, none⟩)] 68 (0, 0)) := f.keep s (by simp)
  replace g : Fr [] w w6 := g.then0 f
  clear f
  go_wp2_with fail
  refine (sp_copy_z (.inl rfl)).mono ?_
  rintro e w7 ⟨rfl, f⟩
  replace z : w7.heap[B]? = some (.cells #[.pointer none, .int .i64 0] 103 (0, 0)) := f.keep z (by simp)
  replace s : w7.heap[B + 1]? = some (.cells #[.pointer none, .pointer (some ⟨B, 0, none⟩)] 68 (0, 0)) := f.keep s (by simp)
  replace g : Fr [] w w7 := g.then0 f
  clear f
  go_wp2_with fail
  have c1 : w7.cell? ⟨B + 1, 1, none⟩ = some (.pointer (some ⟨B, 0, none⟩)) := cell_of s
  rw [rounds_succ]
  go_wp2_with fail
  refine (wants22 (x := ⟨0, 0, 0, [], 0⟩) (next22_z (.inr ⟨B, rfl, z⟩) from_) (Wr.plain _ _ _ _ _)).mono ?_
  rintro e w8 ⟨rfl, f⟩
  replace z : w8.heap[B]? = some (.cells #[.pointer none, .int .i64 0] 103 (0, 0)) := f.keep z (by simp)
  replace s : w8.heap[B + 1]? = some (.cells #[.pointer none, .pointer (some ⟨B, 0, none⟩)] 68 (0, 0)) := f.keep s (by simp)
  replace g : Fr [] w w8 := g.then0 f
  clear f
  go_wp2_with fail
  refine (sp_got_z (Zs.keep (.inr ⟨B, rfl, z⟩) ((Fr.refl [] _).alloc _)) from_ _ _ _ _).mono ?_
  rintro e w9 ⟨rfl, f⟩
  replace f : Fr [] w8 w9 := ((Fr.refl [] w8).alloc _).then0 f
  replace z : w9.heap[B]? = some (.cells #[.pointer none, .int .i64 0] 103 (0, 0)) := f.keep z (by simp)
  replace s : w9.heap[B + 1]? = some (.cells #[.pointer none, .pointer (some ⟨B, 0, none⟩)] 68 (0, 0)) := f.keep s (by simp)
  replace g : Fr [] w w9 := g.then0 f
  clear f
  go_wp2_with fail
  refine (sp_wrote_z (.inr ⟨B, rfl, z⟩) from_ _ _).mono ?_
  rintro e w10 ⟨rfl, f⟩
  replace z : w10.heap[B]? = some (.cells #[.pointer none, .int .i64 0] 103 (0, 0)) := f.keep z (by simp)
  replace s : w10.heap[B + 1]? = some (.cells #[.pointer none, .pointer (some ⟨B, 0, none⟩)] 68 (0, 0)) := f.keep s (by simp)
  replace g : Fr [] w w10 := g.then0 f
  clear f
  go_wp2_with fail
  refine (sp_close_z (.inr ⟨B, rfl, z⟩) from_).mono ?_
  rintro e w11 ⟨rfl, f⟩
  replace z : w11.heap[B]? = some (.cells #[.pointer none, .int .i64 0] 103 (0, 0)) := f.keep z (by simp)
  replace s : w11.heap[B + 1]? = some (.cells #[.pointer none, .pointer (some ⟨B, 0, none⟩)] 68 (0, 0)) := f.keep s (by simp)
  replace g : Fr [] w w11 := g.then0 f
  clear f
  go_wp2_with fail
  refine (moved22 (sp_moved_z (.inr ⟨B, rfl, z⟩) from_)).mono ?_
  rintro e w12 ⟨rfl, f⟩
  replace z : w12.heap[B]? = some (.cells #[.pointer none, .int .i64 0] 103 (0, 0)) := f.keep z (by simp)
  replace s : w12.heap[B + 1]? = some (.cells #[.pointer none, .pointer (some ⟨B, 0, none⟩)] 68 (0, 0)) := f.keep s (by simp)
  replace g : Fr [] w w12 := g.then0 f
  clear f
  go_wp2_with fail
  refine (done22 (sp_done_z (.inr ⟨B, rfl, z⟩))).mono ?_
  rintro e w13 ⟨rfl, f⟩
  replace z : w13.heap[B]? = some (.cells #[.pointer none, .int .i64 0] 103 (0, 0)) := f.keep z (by simp)
  replace s : w13.heap[B + 1]? = some (.cells #[.pointer none, .pointer (some ⟨B, 0, none⟩)] 68 (0, 0)) := f.keep s (by simp)
  replace g : Fr [] w w13 := g.then0 f
  clear f
  go_wp2_with fail
  refine (sp_copy_z (.inr ⟨B, rfl, z⟩)).mono ?_
  rintro e w14 ⟨rfl, f⟩
  replace z : w14.heap[B]? = some (.cells #[.pointer none, .int .i64 0] 103 (0, 0)) := f.keep z (by simp)
  replace s : w14.heap[B + 1]? = some (.cells #[.pointer none, .pointer (some ⟨B, 0, none⟩)] 68 (0, 0)) := f.keep s (by simp)
  replace g : Fr [] w w14 := g.then0 f
  clear f
  go_wp2_with fail
  rw [rounds_succ]
  go_wp2_with fail
  refine (known22 _).mono ?_
  rintro e w99 ⟨rfl, f99⟩
  go_wp2_with fail
  go_ret
  exact ⟨rfl, g.then0 f99⟩
end Go.Proofs.Ytodpkdbcdbdjfaa
