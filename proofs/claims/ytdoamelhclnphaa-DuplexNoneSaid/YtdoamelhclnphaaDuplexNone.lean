/-
  Law 15: DuplexNone: nil and zero connections.
-/
import Derived.Test.YtdoamelhclnphaaKnown15
import Derived.Test.YtdoamelhclnphaaCv15
import Derived.Lib.SlBytesConst
import Derived.LoopN
namespace Go.Proofs.Ytdoamelhclnphaa
open Go.RowKit
set_option maxRecDepth 100000

set_option maxHeartbeats 16000000 in
theorem duplexNone_walk (en n : Int) (w : World) :
    Calls Try.prog 3 #[.int .i64 en, .int .i64 n] w fun e w' => e = .returned (.bool true) ∧ Fr [] w w' := by
  go_enter Try.func3, Try.ntmps3
  go_wp2_with fail
  obtain ⟨w0, hW⟩ : ∃ W, W = (w.alloc (.cells #[.pointer none, .pointer none, .bool false, .bool false] 27)).alloc (.cells #[.pointer none, .pointer (some ⟨w.heap.size, 0, none⟩)] 22) := ⟨_, rfl⟩
  rw [← hW]
  have z : w0.heap[w.heap.size]? = some (.cells #[.pointer none, .pointer none, .bool false, .bool false] 27 (0, 0)) := by rw [hW]; exact keepA (newA rfl)
  have s : w0.heap[w.heap.size + 1]? = some (.cells #[.pointer none, .pointer (some ⟨w.heap.size, 0, none⟩)] 22 (0, 0)) := by rw [hW]; exact newA (by simp)
  have g : Fr [] w w0 := by rw [hW]; exact ((Fr.refl _ _).alloc _).alloc _
  clear hW
  generalize w.heap.size = B at z s ⊢
  have c0 : w0.cell? ⟨B + 1, 0, none⟩ = some (.pointer none) := cell_of s
  refine wp_loop_rounds 3 ?_
  rw [rounds_succ]
  go_wp2_with fail
  refine (zdx_read (show Zdx w0 none from .inl rfl) en n).mono ?_
  rintro e w' ⟨rfl, rfl⟩
  go_wp2_with fail
  refine (zdx_finish (show Zdx w0 none from .inl rfl) en).mono ?_
  rintro e w' ⟨rfl, rfl⟩
  go_wp2_with fail
  refine (zdx_cancel (show Zdx w0 none from .inl rfl) en).mono ?_
  rintro e w' ⟨rfl, rfl⟩
  go_wp2_with fail
  refine (begins15 (l := [97]) (want := 1) (P := fun w' => Fr [] w0 w') (by simp) fun w4 v Q f4 hr hq => ?_).mono ?_
  · obtain ⟨ra, rc, rfl, _⟩ := id hr
    refine (zdx_begin (((show Zdx w0 none from .inl rfl)).keep f4) en ra _ rc _).mono ?_
    rintro e w' ⟨rfl, f⟩
    exact ⟨rfl, f4.then0 f⟩
  rintro e w1 ⟨rfl, f⟩
  replace z : w1.heap[B]? = some (.cells #[.pointer none, .pointer none, .bool false, .bool false] 27 (0, 0)) := f.keep z (by simp)
  replace s : w1.heap[B + 1]? = some (.cells #[.pointer none, .pointer (some ⟨B, 0, none⟩)] 22 (0, 0)) := f.keep s (by simp)
  replace g : Fr [] w w1 := g.then0 f
  clear f
  go_wp2_with fail
  refine (at15 (n := 0) (d := false) (P := fun w' => w1 = w') (zdx_progress (show Zdx w1 none from .inl rfl) en)).mono ?_
  rintro e w' ⟨rfl, rfl⟩
  go_wp2_with fail
  refine (zdx_close (show Zdx w1 none from .inl rfl) en).mono ?_
  rintro e w' ⟨rfl, rfl⟩
  go_wp2_with fail
  refine (zdx_closeread (show Zdx w1 none from .inl rfl) en).mono ?_
  rintro e w' ⟨rfl, rfl⟩
  go_wp2_with fail
  refine (zdx_closewrite (show Zdx w1 none from .inl rfl) en).mono ?_
  rintro e w' ⟨rfl, rfl⟩
  go_wp2_with fail
  refine (zdx_closed (show Zdx w1 none from .inl rfl) en).mono ?_
  rintro e w' ⟨rfl, rfl⟩
  go_wp2_with fail
  refine (zdx_state (show Zdx w1 none from .inl rfl)).mono ?_
  rintro e w2 ⟨rfl, f⟩
  replace z : w2.heap[B]? = some (.cells #[.pointer none, .pointer none, .bool false, .bool false] 27 (0, 0)) := f.keep z (by simp)
  replace s : w2.heap[B + 1]? = some (.cells #[.pointer none, .pointer (some ⟨B, 0, none⟩)] 22 (0, 0)) := f.keep s (by simp)
  replace g : Fr [] w w2 := g.then0 f
  clear f
  go_wp2_with fail
  refine (same15 (Cv.zero _ (fun _ => False)) (Cv.zero _ (fun _ => False))).mono ?_
  rintro e w3 ⟨rfl, f⟩
  replace z : w3.heap[B]? = some (.cells #[.pointer none, .pointer none, .bool false, .bool false] 27 (0, 0)) := f.keep z (by simp)
  replace s : w3.heap[B + 1]? = some (.cells #[.pointer none, .pointer (some ⟨B, 0, none⟩)] 22 (0, 0)) := f.keep s (by simp)
  replace g : Fr [] w w3 := g.then0 f
  clear f
  go_wp2_with fail
  refine (zdx_copy (show Zdx w3 none from .inl rfl)).mono ?_
  rintro e w' ⟨rfl, rfl⟩
  go_wp2_with fail
  have c1 : w3.cell? ⟨B + 1, 1, none⟩ = some (.pointer (some ⟨B, 0, none⟩)) := cell_of s
  rw [rounds_succ]
  go_wp2_with fail
  refine (zdx_read (show Zdx w3 (some ⟨B, 0, none⟩) from .inr ⟨B, rfl, z⟩) en n).mono ?_
  rintro e w' ⟨rfl, rfl⟩
  go_wp2_with fail
  refine (zdx_finish (show Zdx w3 (some ⟨B, 0, none⟩) from .inr ⟨B, rfl, z⟩) en).mono ?_
  rintro e w' ⟨rfl, rfl⟩
  go_wp2_with fail
  refine (zdx_cancel (show Zdx w3 (some ⟨B, 0, none⟩) from .inr ⟨B, rfl, z⟩) en).mono ?_
  rintro e w' ⟨rfl, rfl⟩
  go_wp2_with fail
  refine (begins15 (l := [97]) (want := 1) (P := fun w' => Fr [] w3 w') (by simp) fun w4 v Q f4 hr hq => ?_).mono ?_
  · obtain ⟨ra, rc, rfl, _⟩ := id hr
    refine (zdx_begin (((show Zdx w3 (some ⟨B, 0, none⟩) from .inr ⟨B, rfl, z⟩)).keep f4) en ra _ rc _).mono ?_
    rintro e w' ⟨rfl, f⟩
    exact ⟨rfl, f4.then0 f⟩
  rintro e w4 ⟨rfl, f⟩
  replace z : w4.heap[B]? = some (.cells #[.pointer none, .pointer none, .bool false, .bool false] 27 (0, 0)) := f.keep z (by simp)
  replace s : w4.heap[B + 1]? = some (.cells #[.pointer none, .pointer (some ⟨B, 0, none⟩)] 22 (0, 0)) := f.keep s (by simp)
  replace g : Fr [] w w4 := g.then0 f
  clear f
  go_wp2_with fail
  refine (at15 (n := 0) (d := false) (P := fun w' => w4 = w') (zdx_progress (show Zdx w4 (some ⟨B, 0, none⟩) from .inr ⟨B, rfl, z⟩) en)).mono ?_
  rintro e w' ⟨rfl, rfl⟩
  go_wp2_with fail
  refine (zdx_close (show Zdx w4 (some ⟨B, 0, none⟩) from .inr ⟨B, rfl, z⟩) en).mono ?_
  rintro e w' ⟨rfl, rfl⟩
  go_wp2_with fail
  refine (zdx_closeread (show Zdx w4 (some ⟨B, 0, none⟩) from .inr ⟨B, rfl, z⟩) en).mono ?_
  rintro e w' ⟨rfl, rfl⟩
  go_wp2_with fail
  refine (zdx_closewrite (show Zdx w4 (some ⟨B, 0, none⟩) from .inr ⟨B, rfl, z⟩) en).mono ?_
  rintro e w' ⟨rfl, rfl⟩
  go_wp2_with fail
  refine (zdx_closed (show Zdx w4 (some ⟨B, 0, none⟩) from .inr ⟨B, rfl, z⟩) en).mono ?_
  rintro e w' ⟨rfl, rfl⟩
  go_wp2_with fail
  refine (zdx_state (show Zdx w4 (some ⟨B, 0, none⟩) from .inr ⟨B, rfl, z⟩)).mono ?_
  rintro e w5 ⟨rfl, f⟩
  replace z : w5.heap[B]? = some (.cells #[.pointer none, .pointer none, .bool false, .bool false] 27 (0, 0)) := f.keep z (by simp)
  replace s : w5.heap[B + 1]? = some (.cells #[.pointer none, .pointer (some ⟨B, 0, none⟩)] 22 (0, 0)) := f.keep s (by simp)
  replace g : Fr [] w w5 := g.then0 f
  clear f
  go_wp2_with fail
  refine (same15 (Cv.zero _ (fun _ => False)) (Cv.zero _ (fun _ => False))).mono ?_
  rintro e w6 ⟨rfl, f⟩
  replace z : w6.heap[B]? = some (.cells #[.pointer none, .pointer none, .bool false, .bool false] 27 (0, 0)) := f.keep z (by simp)
  replace s : w6.heap[B + 1]? = some (.cells #[.pointer none, .pointer (some ⟨B, 0, none⟩)] 22 (0, 0)) := f.keep s (by simp)
  replace g : Fr [] w w6 := g.then0 f
  clear f
  go_wp2_with fail
  refine (zdx_copy (show Zdx w6 (some ⟨B, 0, none⟩) from .inr ⟨B, rfl, z⟩)).mono ?_
  rintro e w' ⟨rfl, rfl⟩
  go_wp2_with fail
  rw [rounds_succ]
  go_wp2_with fail
  refine (known15 _).mono ?_
  rintro e w99 ⟨rfl, f99⟩
  go_wp2_with fail
  go_ret
  exact ⟨rfl, g.then0 f99⟩
end Go.Proofs.Ytdoamelhclnphaa
