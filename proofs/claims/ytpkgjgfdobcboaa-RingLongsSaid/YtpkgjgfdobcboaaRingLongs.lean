/-
  RingLongs: Write takes lists of at most 65536 bytes.
-/
import Derived.Test.YtpkgjgfdobcboaaRingKnown
namespace Go.Proofs.Ytpkgjgfdobcboaa
open Go.RowKit
set_option maxRecDepth 100000

theorem ringLongs_walk (n c : Int) (w : World) :
    Calls Try.prog 3 #[.int .i64 n, .int .i64 c] w fun e w' => e = .returned (.bool true) ∧ Fr [] w w' := by
  by_cases h1 : n < 65530
  · go_enter Try.func3, Try.ntmps3
    go_wp2_with fail
    refine (known04_yes w).mono ?_
    rintro e w' ⟨rfl, f⟩
    go_wp2_with fail
    go_ret
    exact ⟨rfl, f⟩
  by_cases h2 : 65540 < n
  · go_enter Try.func3, Try.ntmps3
    go_wp2_with fail
    refine (known04_yes w).mono ?_
    rintro e w' ⟨rfl, f⟩
    go_wp2_with fail
    go_ret
    exact ⟨rfl, f⟩
  by_cases h3 : c < 1
  · go_enter Try.func3, Try.ntmps3
    go_wp2_with fail
    refine (known04_yes w).mono ?_
    rintro e w' ⟨rfl, f⟩
    go_wp2_with fail
    go_ret
    exact ⟨rfl, f⟩
  by_cases h4 : 4096 < c
  · go_enter Try.func3, Try.ntmps3
    go_wp2_with fail
    refine (known04_yes w).mono ?_
    rintro e w' ⟨rfl, f⟩
    go_wp2_with fail
    go_ret
    exact ⟨rfl, f⟩
  obtain ⟨n, rfl⟩ := Int.eq_ofNat_of_zero_le (a := n) (by omega)
  obtain ⟨c, rfl⟩ := Int.eq_ofNat_of_zero_le (a := c) (by omega)
  have HN := rg_new c w (by omega) (by omega)
  have hmk := run_make_row' (P := Try.prog) 29 5 (.int .u8 0) 1 Try.underlying29 (by kernel_rfl) rfl .i64 .i64 n (by omega) (by omega)
  have hc1 : 1 ≤ c := by omega
  have hc2 : c ≤ 4096 := by omega
  have hn1 : 65530 ≤ n := by omega
  have hn2 : n ≤ 65540 := by omega
  go_enter Try.func3, Try.ntmps3
  go_wp2_with fail
  refine HN.mono ?_
  rintro e w1 ⟨rfl, f1, q1⟩
  clear HN
  obtain ⟨_, _, _, _, hR, hD⟩ := q1.len_le
  by_cases h5 : 65536 < (n : Int)
  · have q2 : ∀ o, Rg (w1.alloc o) (w.heap.size + 1) w.heap.size c [] := fun o => q1.keep ((Fr.refl [] w1).alloc o) (by simp) (by simp)
    go_wp2_with fail
    refine (rg_write_long (h := q2 _) (by omega) (by unfold maxLen; omega)).mono ?_
    rintro e w' ⟨rfl, rfl⟩
    go_wp2_with fail
    refine (rg_len (q2 _)).mono ?_
    rintro e w' ⟨he, rfl⟩
    obtain rfl : e = .returned (.int .i64 0) := he
    go_wp2_with fail
    refine (known04_yes _).mono ?_
    rintro e w3 ⟨rfl, f3⟩
    go_wp2_with fail
    go_ret
    exact ⟨rfl, (f1.alloc _).then0 f3⟩
  · have hrow : RowB (w1.alloc (.cells (madeCells #[Value.int .u8 0] n) 5)) w1.heap.size (List.replicate n 0) := by
      unfold RowB
      rw [← madeCells_bytes]
      exact newA rfl
    have hmin : min n (c - ([] : List Int).length) = c := by simp; omega
    have q2 := q1.keep ((Fr.refl [] w1).alloc (.cells (madeCells #[Value.int .u8 0] n) 5)) (by simp) (by simp)
    have HW := rg_write q2 (ps := List.replicate n 0) (plen := n) (pcap := n) (by simp) (Nat.le_refl _) hrow.sl (by intro b o e; injection e with e; injection e with e1; omega) (by omega)
    rw [hmin] at HW
    have HW' := Lib.hid HW
    have f2 := f1.alloc (.cells (madeCells #[Value.int .u8 0] n) 5)
    clear HW hmin hrow q2 q1
    go_wp2_with fail
    refine HW'.out.mono ?_
    rintro e w3 ⟨rfl, f3, q3⟩
    clear HW'
    have g3 := f2.trans (U := []) f3 (by simp) (by simp)
    clear f1 f2 f3
    have hl : (([] : List Int) ++ (List.replicate n 0).take c).length = c := by simp; omega
    generalize ([] : List Int) ++ (List.replicate n 0).take c = q at q3 hl
    have HF := rg_free q3
    rw [hl, Int.sub_self] at HF
    have HF' := Lib.hid HF
    clear HF hl
    go_wp2_with fail
    refine HF'.out.mono ?_
    rintro e w' ⟨rfl, rfl⟩
    go_wp2_with fail
    refine (known04_yes _).mono ?_
    rintro e w4 ⟨rfl, f4⟩
    go_wp2_with fail
    go_ret
    exact ⟨rfl, g3.then0 f4⟩
end Go.Proofs.Ytpkgjgfdobcboaa
