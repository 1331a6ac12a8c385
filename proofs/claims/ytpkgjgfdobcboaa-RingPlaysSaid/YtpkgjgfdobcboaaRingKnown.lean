/-
  The chapter's examples over ring answer true.
-/
import Derived.Test.YtpkgjgfdobcboaaRingText
namespace Go.Proofs.Ytpkgjgfdobcboaa
open Go.RowKit
set_option maxRecDepth 100000

theorem known04_yes (w : World) :
    Calls Try.prog 23 #[] w fun e w' => e = .returned (.bool true) ∧ Fr [] w w' := by
  go_enter Try.func23, Try.ntmps23
  go_wp2_with fail
  refine (rg_new_bad 0 w (by omega)).mono ?_
  rintro e w' ⟨rfl, rfl⟩
  go_wp2_with fail
  refine (rg_new_bad 4097 w (by omega)).mono ?_
  rintro e w' ⟨rfl, rfl⟩
  go_wp2_with fail
  refine (rg_new 4 w (by omega) (by omega)).mono ?_
  rintro e w1 ⟨rfl, f1, h1⟩
  go_wp2_with fail
  refine (writes_ok h1 [97, 98, 99] (by simp) 3 rfl).mono ?_
  rintro e w2 ⟨rfl, f2, h2⟩
  replace h2 : Rg w2 (w.heap.size + 1) w.heap.size 4 [97, 98, 99] := h2
  replace f2 := f1.trans (U := []) f2 (by simp) (by simp)
  clear f1 h1
  go_wp2_with fail
  refine (writes_ok h2 [100, 101, 102, 103] (by simp) 1 rfl).mono ?_
  rintro e w3 ⟨rfl, f3, h3⟩
  replace h3 : Rg w3 (w.heap.size + 1) w.heap.size 4 [97, 98, 99, 100] := h3
  replace f3 := f2.trans (U := []) f3 (by simp) (by simp)
  clear f2 h2
  go_wp2_with fail
  refine (rg_len h3).mono ?_
  rintro e w' ⟨he, rfl⟩
  obtain rfl : e = .returned (.int .i64 4) := he
  go_wp2_with fail
  refine (rg_free h3).mono ?_
  rintro e w' ⟨he, rfl⟩
  obtain rfl : e = .returned (.int .i64 0) := he
  go_wp2_with fail
  refine (reads_ok h3 [97, 98] (most := 2) (by omega) rfl).mono ?_
  rintro e w4 ⟨rfl, f4, h4⟩
  replace h4 : Rg w4 (w.heap.size + 1) w.heap.size 4 [99, 100] := h4
  replace f4 := f3.trans (U := []) f4 (by simp) (by simp)
  clear f3 h3
  go_wp2_with fail
  refine (writes_ok h4 [120, 121] (by simp) 2 rfl).mono ?_
  rintro e w5 ⟨rfl, f5, h5⟩
  replace h5 : Rg w5 (w.heap.size + 1) w.heap.size 4 [99, 100, 120, 121] := h5
  replace f5 := f4.trans (U := []) f5 (by simp) (by simp)
  clear f4 h4
  go_wp2_with fail
  refine (peeks_ok h5 [100, 120] (off := 1) (most := 2) (by omega) (by omega) rfl).mono ?_
  rintro e w6 ⟨rfl, f6⟩
  replace h6 : Rg w6 (w.heap.size + 1) w.heap.size 4 [99, 100, 120, 121] := h5.keep f6 (by simp) (by simp)
  replace f6 := f5.then0 f6
  clear f5 h5
  go_wp2_with fail
  refine (peeks_ok h6 [] (off := 4) (most := 1) (by omega) (by omega) rfl).mono ?_
  rintro e w7 ⟨rfl, f7⟩
  replace h7 : Rg w7 (w.heap.size + 1) w.heap.size 4 [99, 100, 120, 121] := h6.keep f7 (by simp) (by simp)
  replace f7 := f6.then0 f7
  clear f6 h6
  go_wp2_with fail
  refine (rg_skip h7 (most := 3) (by omega)).mono ?_
  rintro e w8 ⟨he, f8, h8⟩
  obtain rfl : e = .returned (.tuple #[.int .i64 3, .int .i64 0]) := he
  replace h8 : Rg w8 (w.heap.size + 1) w.heap.size 4 [121] := h8
  replace f8 := f7.trans (U := []) f8 (by simp) (by simp)
  clear f7 h7
  go_wp2_with fail
  refine (reads_ok h8 [121] (most := 9) (by omega) rfl).mono ?_
  rintro e w9 ⟨rfl, f9, h9⟩
  replace h9 : Rg w9 (w.heap.size + 1) w.heap.size 4 [] := h9
  replace f9 := f8.trans (U := []) f9 (by simp) (by simp)
  clear f8 h8
  go_wp2_with fail
  refine (reads_ok h9 [] (most := 9) (by omega) rfl).mono ?_
  rintro e w10 ⟨rfl, f10, h10⟩
  replace h10 : Rg w10 (w.heap.size + 1) w.heap.size 4 [] := h10
  replace f10 := f9.trans (U := []) f10 (by simp) (by simp)
  clear f9 h9
  go_wp2_with fail
  refine (rg_read_bad h10 (most := -1) (by omega)).mono ?_
  rintro e w' ⟨rfl, rfl⟩
  go_wp2_with fail
  refine (rg_peek_bad h10 (off := -1) (most := 0) (by omega)).mono ?_
  rintro e w' ⟨rfl, rfl⟩
  go_wp2_with fail
  go_ret
  exact ⟨rfl, f10⟩
end Go.Proofs.Ytpkgjgfdobcboaa
