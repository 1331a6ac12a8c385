/-
  Law 41: ShaperNone: nil and zero shapers.
-/
import Derived.Test.YtdndabklcenndaaShKnown
import Derived.LoopN
namespace Go.Proofs.Ytdndabklcenndaa
open Go.RowKit
set_option maxRecDepth 100000

theorem sh_copy_nil (w : World) : Calls Try.prog 38 #[.pointer none] w fun e w' => e = .returned (.pointer none) ∧ w = w' := by
  go_enter Try.func38, Try.ntmps38
  go_wp2_with fail
  refine (sh_none_nil _).mono ?_
  rintro e w' ⟨rfl, rfl⟩
  go_wp2_with fail
  go_ret
  exact ⟨rfl, rfl⟩
theorem sh_copy_zero {w : World} {b : Nat} (h : w.cell? ⟨b, 0, none⟩ = some (.pointer none)) : Calls Try.prog 38 #[.pointer (some ⟨b, 0, none⟩)] w fun e w' => e = .returned (.pointer none) ∧ w = w' := by
  go_enter Try.func38, Try.ntmps38
  go_wp2_with fail
  refine (sh_none_zero h).mono ?_
  rintro e w' ⟨rfl, rfl⟩
  go_wp2_with fail
  go_ret
  exact ⟨rfl, rfl⟩

set_option maxHeartbeats 8000000 in
theorem shaperNone_walk (now n : Int) (w : World) :
    Calls Try.prog 12 #[.int .u64 now, .int .i64 n] w fun e w' => e = .returned (.bool true) ∧ Fr [] w w' := by
  go_enter Try.func12, Try.ntmps12
  go_wp2_with fail
  obtain ⟨W, hW⟩ : ∃ W, W = (w.alloc (Obj.cells #[.pointer none, .int .u64 0, .int .i64 0, .slice none 0 0, .bool false, .int .u64 0, .int .u64 0] 85)).alloc
    (Obj.cells #[Value.pointer none, Value.pointer (some ⟨w.heap.size, 0, none⟩)] 57) := ⟨_, rfl⟩
  rw [← hW]
  have z0 : W.cell? ⟨w.heap.size, 0, none⟩ = some (.pointer none) := by rw [hW]; exact cell_of (keepA (newA rfl))
  have s0 : W.heap[w.heap.size + 1]? = some (.cells #[.pointer none, .pointer (some ⟨w.heap.size, 0, none⟩)] 57 (0, 0)) := by rw [hW]; exact newA (by simp)
  have f0 : Fr [] w W := by rw [hW]; exact ((Fr.refl _ _).alloc _).alloc _
  clear hW
  generalize w.heap.size = B at z0 s0 ⊢
  have c0 : W.cell? ⟨B + 1, 0, none⟩ = some (.pointer none) := cell_of s0
  refine wp_loop_rounds 3 ?_
  rw [rounds_succ]
  go_wp2_with fail
  refine (sh_send_nil _ _ _ _ _).mono ?_
  rintro e w' ⟨rfl, rfl⟩
  go_wp2_with fail
  refine (sh_recv_nil _ _ _).mono ?_
  rintro e w' ⟨rfl, rfl⟩
  go_wp2_with fail
  refine (sh_ready_nil _ _).mono ?_
  rintro e w' ⟨rfl, rfl⟩
  go_wp2_with fail
  refine (sh_close_nil _ _).mono ?_
  rintro e w' ⟨rfl, rfl⟩
  go_wp2_with fail
  refine (sh_len_nil _).mono ?_
  rintro e w' ⟨rfl, rfl⟩
  go_wp2_with fail
  refine (sh_next_nil _).mono ?_
  rintro e w' ⟨rfl, rfl⟩
  go_wp2_with fail
  refine (sh_copy_nil _).mono ?_
  rintro e w' ⟨rfl, rfl⟩
  go_wp2_with fail
  clear c0
  have c1 : W.cell? ⟨B + 1, 1, none⟩ = some (.pointer (some ⟨B, 0, none⟩)) := cell_of s0
  rw [rounds_succ]
  go_wp2_with fail
  refine (sh_send_zero z0 _ _ _ _).mono ?_
  rintro e w' ⟨rfl, rfl⟩
  go_wp2_with fail
  refine (sh_recv_zero z0 _ _).mono ?_
  rintro e w' ⟨rfl, rfl⟩
  go_wp2_with fail
  refine (sh_ready_zero z0 _).mono ?_
  rintro e w' ⟨rfl, rfl⟩
  go_wp2_with fail
  refine (sh_close_zero z0 _).mono ?_
  rintro e w' ⟨rfl, rfl⟩
  go_wp2_with fail
  refine (sh_len_zero z0).mono ?_
  rintro e w' ⟨rfl, rfl⟩
  go_wp2_with fail
  refine (sh_next_zero z0).mono ?_
  rintro e w' ⟨rfl, rfl⟩
  go_wp2_with fail
  refine (sh_copy_zero z0).mono ?_
  rintro e w' ⟨rfl, rfl⟩
  go_wp2_with fail
  rw [rounds_succ]
  go_wp2_with fail
  refine (known41 _).mono ?_
  rintro e w10 ⟨rfl, f10⟩
  go_wp2_with fail
  go_ret
  exact ⟨rfl, f0.then0 f10⟩
end Go.Proofs.Ytdndabklcenndaa
