/-
  BucketStarts, walked.
-/
import Derived.Test.YtdndabklcenndaaStepAny
namespace Go.Proofs.Ytdndabklcenndaa
open Go.RowKit
set_option maxRecDepth 100000

theorem lvl_now {r p u t : Int} : lvl r p u (u * p) t t = u * p := by
  unfold lvl
  rw [show t - t = 0 from by omega, Int.mul_zero]
  omega

theorem starts_no {r p u now n : Int} (w : World) (h : ¬ Val r p u now) :
    Calls Try.prog 5 #[.int .i64 r, .int .i64 p, .int .i64 u, .int .u64 now, .int .i64 n] w fun e w' => e = .returned (.bool true) ∧ Fr [] w w' := by
  have HV := Lib.hid h
  clear h
  go_enter Try.func5, Try.ntmps5
  go_wp2_with fail
  refine (new_no _ HV.out).mono ?_
  rintro e w' ⟨rfl, rfl⟩
  go_wp2_with fail
  refine (valid_no _ HV.out).mono ?_
  rintro e w' ⟨rfl, rfl⟩
  go_wp2_with fail
  refine (known_yes _).mono ?_
  rintro e w' ⟨rfl, hf⟩
  go_wp2_with fail
  go_ret
  exact ⟨rfl, hf⟩

theorem starts_yes {r p u now n : Int} (w : World) (h : Val r p u now) (h0 : 0 ≤ now) (h1 : now ≤ 18446744073709551615) :
    Calls Try.prog 5 #[.int .i64 r, .int .i64 p, .int .i64 u, .int .u64 now, .int .i64 n] w fun e w' => e = .returned (.bool true) ∧ Fr [] w w' := by
  have hi := h.inv h0 h1
  have hp := hi.p1
  obtain ⟨tp1, tp2⟩ := hi.top
  have HV := Lib.hid h
  clear h
  go_enter Try.func5, Try.ntmps5
  go_wp2_with fail
  refine (new_ok _ HV.out).mono ?_
  rintro e w1 ⟨rfl, f1, b1⟩
  generalize hB : w.heap.size = B at *
  have hs : w.heap.size ≤ B := by omega
  clear hB
  go_wp2_with fail
  refine (valid_yes _ HV.out).mono ?_
  rintro e w' ⟨rfl, rfl⟩
  go_wp2_with fail
  refine (tokens_yes b1 hi now (Int.le_refl _) (by have := hi.t2; omega) u (by rw [lvl_now, show max 0 (u * p) = u * p from by omega]; exact Int.mul_ediv_cancel u (by omega))).mono ?_
  rintro e w2 ⟨rfl, f2⟩
  have b2 : BkAt w2 B r p u (u * p) now := f2.keep b1 (by simp)
  have g2 := f1.then0 f2
  go_wp2_with fail
  refine (step_any b2 hi 2 now n h1).mono ?_
  rintro e w3 ⟨b', l, t, rfl, hinv, f3, b3, _⟩
  have g3 := g2.then1 f3 (.inr hs)
  go_wp2_with fail
  refine (known_yes _).mono ?_
  rintro e w4 ⟨rfl, f4⟩
  go_wp2_with fail
  go_ret
  exact ⟨rfl, (g3.alloc _).then0 f4⟩

theorem starts_walk {r p u now n : Int} (w : World) (h0 : 0 ≤ now) (h1 : now ≤ 18446744073709551615) :
    Calls Try.prog 5 #[.int .i64 r, .int .i64 p, .int .i64 u, .int .u64 now, .int .i64 n] w fun e w' => e = .returned (.bool true) ∧ Fr [] w w' := by
  by_cases h : Val r p u now
  · exact starts_yes w h h0 h1
  · exact starts_no w h
end Go.Proofs.Ytdndabklcenndaa
