/-
  BucketFills: after each tick the level has grown by rate parts, up to the capacity.
-/
import Derived.Test.YtdndabklcenndaaBucketLaw
namespace Go.Proofs.Ytdndabklcenndaa
open Go.RowKit
set_option maxRecDepth 100000

theorem lvl_zero {r p u l : Int} (h : l ≤ u * p) : lvl r p u l 0 0 = l := by
  unfold lvl
  rw [show (0 : Int) - 0 = 0 from rfl, Int.mul_zero]
  omega
theorem lvl_succ {r p u l i : Int} (hr : 1 ≤ r) : min (u * p) (lvl r p u l 0 i + r) = lvl r p u l 0 (i + 1) := by
  unfold lvl
  rw [Int.sub_zero, Int.sub_zero, Int.mul_add, Int.mul_one]
  omega

theorem fills_known (r p u n m : Int) (w : World) (h : ¬ Val r p u 0 ∨ n < 0 ∨ 1000000 < n ∨ 300 < m) :
    Calls Try.prog 3 #[.int .i64 r, .int .i64 p, .int .i64 u, .int .i64 n, .int .u16 m] w fun e w' => e = .returned (.bool true) ∧ Fr [] w w' := by
  by_cases hv : Val r p u 0
  · have HV := Lib.hid hv
    have h' : n < 0 ∨ 1000000 < n ∨ 300 < m := h.resolve_left (fun k => k hv)
    clear h hv
    by_cases h1 : n < 0
    · clear h'
      go_enter Try.func3, Try.ntmps3
      go_wp2_with (first | (go_at_call 13; refine (valid_yes _ HV.out).mono ?_; rintro e w' ⟨rfl, rfl⟩) | (go_at_call 14; refine (known_yes _).mono ?_; rintro e w' ⟨rfl, hf⟩))
      go_ret
      exact ⟨rfl, hf⟩
    · by_cases h2 : 1000000 < n
      · clear h'
        have h1' : 0 ≤ n := by omega
        clear h1
        go_enter Try.func3, Try.ntmps3
        go_wp2_with (first | (go_at_call 13; refine (valid_yes _ HV.out).mono ?_; rintro e w' ⟨rfl, rfl⟩) | (go_at_call 14; refine (known_yes _).mono ?_; rintro e w' ⟨rfl, hf⟩))
        go_ret
        exact ⟨rfl, hf⟩
      · have h3 : 300 < m := by omega
        have h1' : 0 ≤ n := by omega
        have h2' : n ≤ 1000000 := by omega
        clear h' h1 h2
        go_enter Try.func3, Try.ntmps3
        go_wp2_with (first | (go_at_call 13; refine (valid_yes _ HV.out).mono ?_; rintro e w' ⟨rfl, rfl⟩) | (go_at_call 14; refine (known_yes _).mono ?_; rintro e w' ⟨rfl, hf⟩))
        go_ret
        exact ⟨rfl, hf⟩
  · have HV := Lib.hid hv
    clear h hv
    go_enter Try.func3, Try.ntmps3
    go_wp2_with (first | (go_at_call 13; refine (valid_no _ HV.out).mono ?_; rintro e w' ⟨rfl, rfl⟩) | (go_at_call 14; refine (known_yes _).mono ?_; rintro e w' ⟨rfl, hf⟩))
    go_ret
    exact ⟨rfl, hf⟩

theorem fills_loop (r p u n m : Int) (w : World) (hv : Val r p u 0) (hn : 0 ≤ n) (hn2 : n ≤ 1000000) (hm0 : 0 ≤ m) (hm : m ≤ 300) :
    Calls Try.prog 3 #[.int .i64 r, .int .i64 p, .int .i64 u, .int .i64 n, .int .u16 m] w fun e w' => e = .returned (.bool true) ∧ Fr [] w w' := by
  have hi := hv.inv (Int.le_refl 0) (by omega)
  have hr := hi.r1
  have hr2 := hi.r2
  have hp := hi.p1
  have hp2 := hi.p2
  obtain ⟨tp1, tp2⟩ := hi.top
  obtain ⟨m1, m2⟩ := mul_bd hn hn2 (by omega : 0 ≤ p) hp2
  have hnp : n * p ≤ 1000000 * p := Int.mul_le_mul_of_nonneg_right hn2 (by omega)
  have hi2 : BkInv r p u (u * p - n * p) 0 := ⟨hi.r1, hi.r2, hi.p1, hi.p2, hi.u1, hi.u2, by omega, by omega, by omega, by omega⟩
  have l0 : lvl r p u (u * p) 0 0 = u * p := lvl_zero (Int.le_refl _)
  have HV := Lib.hid hv
  have L0 := Lib.hid l0
  clear hv l0
  go_enter Try.func3, Try.ntmps3
  go_wp2_with fail
  refine (valid_yes _ HV.out).mono ?_
  rintro e w' ⟨rfl, rfl⟩
  go_wp2_with fail
  refine (new_ok w HV.out).mono ?_
  rintro e w1 ⟨rfl, f1, b1⟩
  generalize hB : w.heap.size = B at *
  have hs : w.heap.size ≤ B := by omega
  clear hB
  go_wp2_with fail
  refine (reserve_yes b1 hi 0 n hn hn2 (by omega) (by omega) (by rw [L0.out]; omega)).mono ?_
  rintro e w2 ⟨rfl, f2, b2⟩
  have g2 := f1.then1 f2 (.inr hs)
  rw [L0.out] at b2
  clear f1 b1 f2
  generalize plusT 0 _ = x
  go_wp2_with fail
  go_loopw [15, 16] (fun l i wr => ∃ k : Nat, (k : Int) ≤ m + 1 ∧ i = .int .i64 k ∧ l = .int .i64 (lvl r p u (u * p - n * p) 0 k) ∧ Fr [] w wr ∧ BkAt wr B r p u (u * p - n * p) 0) (fun _ i _ => (m + 1 - intOf i).toNat)
  case atStart => exact ⟨0, by omega, rfl, by rw [show ((0 : Nat) : Int) = 0 from rfl, lvl_zero (by omega)], g2, b2⟩
  case round =>
    obtain ⟨k, hk, rfl, rfl, g, b⟩ := hrel
    clear g2 b2
    have hk0 : (0 : Int) ≤ (k : Int) := by omega
    obtain ⟨lb1, lb2⟩ := lvl_bd hi2 hk0
    have hsucc := lvl_succ (r := r) (p := p) (u := u) (l := u * p - n * p) (i := k) hr
    have HS := Lib.hid hsucc
    clear hsucc
    by_cases hlt : (k : Int) ≤ m
    · generalize hL : lvl r p u (u * p - n * p) 0 k = lv at *
      have HL := Lib.hid hL
      clear hL
      by_cases hpos : 0 < lv
      · go_wp2_with fail
        refine (tokens_yes b hi2 k (by omega) (by omega) (lv / p) (by rw [HL.out, show max 0 lv = lv from by omega])).mono ?_
        rintro e w3 ⟨rfl, f3⟩
        have b3 : BkAt w3 B r p u (u * p - n * p) 0 := f3.keep b (by simp)
        have g3 := g.then0 f3
        by_cases hmin : u * p ≤ lv + r
        · have e1 : lvl r p u (u * p - n * p) 0 ((k : Int) + 1) = u * p := by rw [← HS.out]; omega
          have E1 := Lib.hid e1
          clear e1
          go_wp2_with fail
          go_roundw
          case rel => exact ⟨k + 1, by omega, by go_num, by rw [show (((k + 1 : Nat) : Int)) = (k : Int) + 1 from by omega, E1.out], g3, b3⟩
          case measure => simp [intOf]; omega
        · have e1 : lvl r p u (u * p - n * p) 0 ((k : Int) + 1) = lv + r := by rw [← HS.out]; omega
          have E1 := Lib.hid e1
          have hmin' : lv + r < u * p := by omega
          clear e1
          go_wp2_with fail
          go_roundw
          case rel => exact ⟨k + 1, by omega, by go_num, by rw [show (((k + 1 : Nat) : Int)) = (k : Int) + 1 from by omega, E1.out], g3, b3⟩
          case measure => simp [intOf]; omega
      · have hneg : lv ≤ 0 := by omega
        clear hpos
        go_wp2_with fail
        refine (tokens_yes b hi2 k (by omega) (by omega) 0 (by rw [HL.out, show max 0 lv = 0 from by omega]; exact Int.zero_ediv p)).mono ?_
        rintro e w3 ⟨rfl, f3⟩
        have b3 : BkAt w3 B r p u (u * p - n * p) 0 := f3.keep b (by simp)
        have g3 := g.then0 f3
        by_cases hmin : u * p ≤ lv + r
        · have e1 : lvl r p u (u * p - n * p) 0 ((k : Int) + 1) = u * p := by rw [← HS.out]; omega
          have E1 := Lib.hid e1
          clear e1
          go_wp2_with fail
          go_roundw
          case rel => exact ⟨k + 1, by omega, by go_num, by rw [show (((k + 1 : Nat) : Int)) = (k : Int) + 1 from by omega, E1.out], g3, b3⟩
          case measure => simp [intOf]; omega
        · have e1 : lvl r p u (u * p - n * p) 0 ((k : Int) + 1) = lv + r := by rw [← HS.out]; omega
          have E1 := Lib.hid e1
          have hmin' : lv + r < u * p := by omega
          clear e1
          go_wp2_with fail
          go_roundw
          case rel => exact ⟨k + 1, by omega, by go_num, by rw [show (((k + 1 : Nat) : Int)) = (k : Int) + 1 from by omega, E1.out], g3, b3⟩
          case measure => simp [intOf]; omega
    · go_wp2_with fail
      refine (known_yes _).mono ?_
      rintro e w3 ⟨rfl, f3⟩
      go_wp2_with fail
      go_ret
      exact ⟨rfl, g.then0 f3⟩

theorem fills_walk (r p u n m : Int) (hm0 : 0 ≤ m) (w : World) :
    Calls Try.prog 3 #[.int .i64 r, .int .i64 p, .int .i64 u, .int .i64 n, .int .u16 m] w fun e w' => e = .returned (.bool true) ∧ Fr [] w w' := by
  by_cases h : ¬ Val r p u 0 ∨ n < 0 ∨ 1000000 < n ∨ 300 < m
  · exact fills_known r p u n m w h
  · exact fills_loop r p u n m w (Classical.byContradiction fun k => h (.inl k)) (by omega) (by omega) hm0 (by omega)
end Go.Proofs.Ytdndabklcenndaa
