/-
  BucketNone: for nil and zero buckets every call returns ErrNil.
-/
import Derived.Test.YtdndabklcenndaaBucketLaw
import Derived.LoopN
namespace Go.Proofs.Ytdndabklcenndaa
open Go.RowKit
set_option maxRecDepth 100000

theorem bucketNone_walk (now n : Int) (w : World) :
    Calls Try.prog 7 #[.int .u64 now, .int .i64 n] w fun e w' => e = .returned (.bool true) ∧ Fr [] w w' := by
  go_enter Try.func7, Try.ntmps7
  go_wp2_with fail
  obtain ⟨W, hW⟩ : ∃ W, W = (w.alloc (Obj.cells #[Value.int IntKind.i64 0, Value.int IntKind.i64 0, Value.int IntKind.i64 0, Value.int IntKind.i64 0, Value.int IntKind.u64 0] 51)).alloc
    (Obj.cells #[Value.pointer none, Value.pointer (some ⟨w.heap.size, 0, none⟩)] 27) := ⟨_, rfl⟩
  rw [← hW]
  have z0 : BkAt W w.heap.size 0 0 0 0 0 := by rw [hW]; exact keepA (newA rfl)
  have s0 : W.heap[w.heap.size + 1]? = some (.cells #[.pointer none, .pointer (some ⟨w.heap.size, 0, none⟩)] 27 (0, 0)) := by rw [hW]; exact newA (by simp)
  have f0 : Fr [] w W := by rw [hW]; exact ((Fr.refl _ _).alloc _).alloc _
  clear hW
  generalize w.heap.size = B at z0 s0 ⊢
  have c0 : W.cell? ⟨B + 1, 0, none⟩ = some (.pointer none) := cell_of s0
  refine wp_loop_rounds 3 ?_
  rw [rounds_succ]
  go_wp2_with fail
  refine (tokens_nil _ _).mono ?_
  rintro e w1 ⟨rfl, f1⟩
  go_wp2_with fail
  refine (wait_nil _ _ _).mono ?_
  rintro e w2 ⟨rfl, f2⟩
  go_wp2_with fail
  refine (take_nil _ _ _).mono ?_
  rintro e w3 ⟨rfl, f3⟩
  go_wp2_with fail
  refine (reserve_nil _ _ _).mono ?_
  rintro e w4 ⟨rfl, f4⟩
  go_wp2_with fail
  refine (copy_nil _).mono ?_
  rintro e w5 ⟨rfl, rfl⟩
  go_wp2_with fail
  have fr := (((f1.then0 f2).then0 f3).then0 f4)
  have z4 : BkAt w4 B 0 0 0 0 0 := fr.keep z0 (by simp)
  have s4 := fr.keep s0 (by simp)
  have g0 := f0.then0 fr
  clear f1 f2 f3 f4 fr z0 s0 f0 c0
  have c1 : w4.cell? ⟨B + 1, 1, none⟩ = some (.pointer (some ⟨B, 0, none⟩)) := cell_of s4
  rw [rounds_succ]
  go_wp2_with fail
  refine (tokens_zero z4 _).mono ?_
  rintro e w5 ⟨rfl, f5⟩
  have z5 : BkAt w5 B 0 0 0 0 0 := f5.keep z4 (by simp)
  go_wp2_with fail
  refine (wait_zero z5 _ _).mono ?_
  rintro e w6 ⟨rfl, f6⟩
  have z6 : BkAt w6 B 0 0 0 0 0 := f6.keep z5 (by simp)
  go_wp2_with fail
  refine (take_zero z6 _ _).mono ?_
  rintro e w7 ⟨rfl, f7⟩
  have z7 : BkAt w7 B 0 0 0 0 0 := f7.keep z6 (by simp)
  go_wp2_with fail
  refine (reserve_zero z7 _ _).mono ?_
  rintro e w8 ⟨rfl, f8⟩
  have z8 : BkAt w8 B 0 0 0 0 0 := f8.keep z7 (by simp)
  go_wp2_with fail
  refine (copy_zero z8).mono ?_
  rintro e w9 ⟨rfl, rfl⟩
  go_wp2_with fail
  have g1 := ((((g0.then0 f5).then0 f6).then0 f7).then0 f8)
  rw [rounds_succ]
  go_wp2_with fail
  refine (known_yes _).mono ?_
  rintro e w10 ⟨rfl, f10⟩
  go_wp2_with fail
  go_ret
  exact ⟨rfl, g1.then0 f10⟩
end Go.Proofs.Ytdndabklcenndaa
