/-
  Law 21: TransferNone: nil and zero transfers.
-/
import Derived.Test.YtodpkdbcdbdjfaaKnown21
import Derived.LoopN
namespace Go.Proofs.Ytodpkdbcdbdjfaa
open Go.RowKit
set_option maxRecDepth 100000

set_option maxHeartbeats 4000000 in
theorem transferNone_walk (n x : Int) (w : World) :
    Calls Try.prog 6 #[.int .i64 n, .int .i64 x] w fun e w' => e = .returned (.bool true) ∧ Fr [] w w' := by
  have hcv := fun (w : World) (C : Array Value) (n c : Nat) => Lib.run_convert_bytes_const (P := Try.prog) w 22 5 C n c Try.underlying22 Try.underlying5
  go_enter Try.func6, Try.ntmps6
  go_wp2_with fail
  obtain ⟨w0, hW⟩ : ∃ W, W = (w.alloc (.cells #[.slice none 0 0, .int .i64 0, .int .i64 0, .int .i64 0, .int .i64 0, .int .i64 0, .int .i64 0, .int .i64 0] 55)).alloc (.cells #[.pointer none, .pointer (some ⟨w.heap.size, 0, none⟩)] 27) := ⟨_, rfl⟩
  rw [← hW]
  have z : TrB w0 w.heap.size none 0 0 0 0 0 0 0 0 0 := by rw [hW]; exact keepA (newA rfl)
  have s : w0.heap[w.heap.size + 1]? = some (.cells #[.pointer none, .pointer (some ⟨w.heap.size, 0, none⟩)] 27 (0, 0)) := by rw [hW]; exact newA (by simp)
  have g : Fr [] w w0 := by rw [hW]; exact ((Fr.refl _ _).alloc _).alloc _
  clear hW
  generalize w.heap.size = B at z s ⊢
  have c0 : w0.cell? ⟨B + 1, 0, none⟩ = some (.pointer none) := cell_of s
  refine wp_loop_rounds 3 ?_
  rw [rounds_succ]
  go_wp2_with fail
  refine (wants_of (x := ⟨4, 0, 0, [], 0⟩) (fun w1 f => (tnext_z (Zt.keep (.inl rfl) f)).mono fun e w' ⟨he, hf⟩ => ⟨_, he, hf, Wv.plain _ _ _ _ _ _⟩) (Wr.plain _ _ _ _ _)).mono ?_
  rintro e w1 ⟨rfl, f⟩
  replace z : TrB w1 B none 0 0 0 0 0 0 0 0 0 := f.keep z (by simp)
  replace s : w1.heap[B + 1]? = some (.cells #[.pointer none, .pointer (some ⟨B, 0, none⟩)] 27 (0, 0)) := f.keep s (by simp)
  replace g : Fr [] w w1 := g.then0 f
  clear f
  go_wp2_with fail
  refine (tgot_z (Zt.keep (.inl rfl) ((Fr.refl [] _).alloc _)) _ _ _ _).mono ?_
  rintro e w2 ⟨rfl, hsame⟩
  subst hsame
  obtain ⟨w2, hW⟩ : ∃ W, W = w1.alloc (.cells #[.int .u8 97] 5 (1, 2)) := ⟨_, rfl⟩
  have f : Fr [] w1 w2 := by rw [hW]; exact (Fr.refl _ _).alloc _
  try rw [← hW]
  clear hW
  replace z : TrB w2 B none 0 0 0 0 0 0 0 0 0 := f.keep z (by simp)
  replace s : w2.heap[B + 1]? = some (.cells #[.pointer none, .pointer (some ⟨B, 0, none⟩)] 27 (0, 0)) := f.keep s (by simp)
  replace g : Fr [] w w2 := g.then0 f
  clear f
  go_wp2_with fail
  refine (twrote_z (.inl rfl) _ _).mono ?_
  rintro e w3 ⟨rfl, hsame⟩
  subst hsame
  go_wp2_with fail
  refine (moved_of ((tmoved_z (.inl rfl)).mono fun e w' ⟨he, hs⟩ => ⟨he, hs ▸ Fr.refl _ _⟩)).mono ?_
  rintro e w3 ⟨rfl, f⟩
  replace z : TrB w3 B none 0 0 0 0 0 0 0 0 0 := f.keep z (by simp)
  replace s : w3.heap[B + 1]? = some (.cells #[.pointer none, .pointer (some ⟨B, 0, none⟩)] 27 (0, 0)) := f.keep s (by simp)
  replace g : Fr [] w w3 := g.then0 f
  clear f
  go_wp2_with fail
  refine (tstage_z (.inl rfl)).mono ?_
  rintro e w4 ⟨rfl, hsame⟩
  subst hsame
  go_wp2_with fail
  refine (tcopy_z (.inl rfl)).mono ?_
  rintro e w4 ⟨rfl, hsame⟩
  subst hsame
  go_wp2_with fail
  have c1 : w3.cell? ⟨B + 1, 1, none⟩ = some (.pointer (some ⟨B, 0, none⟩)) := cell_of s
  rw [rounds_succ]
  go_wp2_with fail
  refine (wants_of (x := ⟨4, 0, 0, [], 0⟩) (fun w1 f => (tnext_z (Zt.keep (.inr ⟨B, rfl, z⟩) f)).mono fun e w' ⟨he, hf⟩ => ⟨_, he, hf, Wv.plain _ _ _ _ _ _⟩) (Wr.plain _ _ _ _ _)).mono ?_
  rintro e w4 ⟨rfl, f⟩
  replace z : TrB w4 B none 0 0 0 0 0 0 0 0 0 := f.keep z (by simp)
  replace s : w4.heap[B + 1]? = some (.cells #[.pointer none, .pointer (some ⟨B, 0, none⟩)] 27 (0, 0)) := f.keep s (by simp)
  replace g : Fr [] w w4 := g.then0 f
  clear f
  go_wp2_with fail
  refine (tgot_z (Zt.keep (.inr ⟨B, rfl, z⟩) ((Fr.refl [] _).alloc _)) _ _ _ _).mono ?_
  rintro e w5 ⟨rfl, hsame⟩
  subst hsame
  obtain ⟨w5, hW⟩ : ∃ W, W = w4.alloc (.cells #[.int .u8 97] 5 (1, 2)) := ⟨_, rfl⟩
  have f : Fr [] w4 w5 := by rw [hW]; exact (Fr.refl _ _).alloc _
  try rw [← hW]
  clear hW
  replace z : TrB w5 B none 0 0 0 0 0 0 0 0 0 := f.keep z (by simp)
  replace s : w5.heap[B + 1]? = some (.cells #[.pointer none, .pointer (some ⟨B, 0, none⟩)] 27 (0, 0)) := f.keep s (by simp)
  replace g : Fr [] w w5 := g.then0 f
  clear f
  go_wp2_with fail
  refine (twrote_z (.inr ⟨B, rfl, z⟩) _ _).mono ?_
  rintro e w6 ⟨rfl, hsame⟩
  subst hsame
  go_wp2_with fail
  refine (moved_of ((tmoved_z (.inr ⟨B, rfl, z⟩)).mono fun e w' ⟨he, hs⟩ => ⟨he, hs ▸ Fr.refl _ _⟩)).mono ?_
  rintro e w6 ⟨rfl, f⟩
  replace z : TrB w6 B none 0 0 0 0 0 0 0 0 0 := f.keep z (by simp)
  replace s : w6.heap[B + 1]? = some (.cells #[.pointer none, .pointer (some ⟨B, 0, none⟩)] 27 (0, 0)) := f.keep s (by simp)
  replace g : Fr [] w w6 := g.then0 f
  clear f
  go_wp2_with fail
  refine (tstage_z (.inr ⟨B, rfl, z⟩)).mono ?_
  rintro e w7 ⟨rfl, hsame⟩
  subst hsame
  go_wp2_with fail
  refine (tcopy_z (.inr ⟨B, rfl, z⟩)).mono ?_
  rintro e w7 ⟨rfl, hsame⟩
  subst hsame
  go_wp2_with fail
  rw [rounds_succ]
  go_wp2_with fail
  refine (known21 _).mono ?_
  rintro e w99 ⟨rfl, f99⟩
  go_wp2_with fail
  go_ret
  exact ⟨rfl, g.then0 f99⟩
end Go.Proofs.Ytodpkdbcdbdjfaa
