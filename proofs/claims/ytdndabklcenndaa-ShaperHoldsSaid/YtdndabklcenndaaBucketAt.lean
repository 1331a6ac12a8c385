/-
  Contracts of the inner functions of package bucket: within, none, ticks, at.
-/
import Derived.Test.YtdndabklcenndaaBase
import Derived.Test.YtdndabklcenndaaBucketMath
import Derived.Test.YtdndabklcenndaaProg
import Derived.Deep.QuietTactic
import Derived.BigQuiet
import Derived.StillTailTactics
namespace Go.Proofs.Ytdndabklcenndaa
open Go.RowKit

/-- A bucket's block. -/
def BkAt (w : World) (b : Nat) (r p u l t : Int) : Prop :=
  w.heap[b]? = some (.cells #[.int .i64 r, .int .i64 p, .int .i64 u, .int .i64 l, .int .u64 t] 51 (0, 0))

theorem BkAt.cells {w : World} {b : Nat} {r p u l t : Int} (h : BkAt w b r p u l t) :
    w.cell? ⟨b, 0, none⟩ = some (.int .i64 r) ∧ w.cell? ⟨b, 1, none⟩ = some (.int .i64 p) ∧ w.cell? ⟨b, 2, none⟩ = some (.int .i64 u) ∧
    w.cell? ⟨b, 3, none⟩ = some (.int .i64 l) ∧ w.cell? ⟨b, 4, none⟩ = some (.int .u64 t) ∧ w.frozen? ⟨b, 3, none⟩ = false ∧ w.frozen? ⟨b, 4, none⟩ = false :=
  ⟨cell_of h, cell_of h, cell_of h, cell_of h, cell_of h, free_of h, free_of h⟩
theorem BkAt.drewN {w : World} {b : Nat} {r p u l t : Int} (h : BkAt w b r p u l t) (n : Nat) : BkAt (w.drewN n) b r p u l t := h
theorem BkAt.lt {w : World} {b : Nat} {r p u l t : Int} (h : BkAt w b r p u l t) : b < w.heap.size := lt_of_heap h

theorem within_yes (n lo hi : Int) (w : World) (h1 : lo ≤ n) (h2 : n ≤ hi) :
    Calls Try.prog 39 #[.int .i64 n, .int .i64 lo, .int .i64 hi] w fun e w' => e = .returned (.bool true) ∧ w = w' := by
  go_enter Try.func39, Try.ntmps39
  go_wp2
  go_ret
  exact ⟨by simp, rfl⟩
theorem within_no (n lo hi : Int) (w : World) (h1 : n < lo ∨ hi < n) :
    Calls Try.prog 39 #[.int .i64 n, .int .i64 lo, .int .i64 hi] w fun e w' => e = .returned (.bool false) ∧ w = w' := by
  by_cases h : n < lo
  · clear h1
    go_enter Try.func39, Try.ntmps39
    go_wp2
    go_ret
    exact ⟨rfl, rfl⟩
  · have h2 : hi < n := by omega
    have h3 : lo ≤ n := by omega
    clear h1 h
    go_enter Try.func39, Try.ntmps39
    go_wp2
    go_ret
    exact ⟨by simp [h2], rfl⟩

theorem none_nil (w : World) :
    Calls Try.prog 51 #[.pointer none] w fun e w' => e = .returned (.bool true) ∧ w = w' := by
  go_enter Try.func51, Try.ntmps51
  go_wp2
  go_ret
  exact ⟨rfl, rfl⟩
theorem none_zero {w : World} {b : Nat} (h : BkAt w b 0 0 0 0 0) :
    Calls Try.prog 51 #[.pointer (some ⟨b, 0, none⟩)] w fun e w' => e = .returned (.bool true) ∧ w = w' := by
  obtain ⟨h0, h1, h2, h3, h4, _, _⟩ := h.cells
  go_enter Try.func51, Try.ntmps51
  go_wp2
  go_ret
  exact ⟨rfl, rfl⟩
theorem none_at {w : World} {b : Nat} {r p u l t : Int} (h : BkAt w b r p u l t) (hr : 1 ≤ r) :
    Calls Try.prog 51 #[.pointer (some ⟨b, 0, none⟩)] w fun e w' => e = .returned (.bool false) ∧ w = w' := by
  obtain ⟨h0, h1, h2, h3, h4, _, _⟩ := h.cells
  go_enter Try.func51, Try.ntmps51
  go_wp2
  go_ret
  exact ⟨rfl, rfl⟩

theorem ticks_any {w : World} {b : Nat} {r p u l t : Int} (h : BkAt w b r p u l t) (hr : 1 ≤ r) (hr2 : r ≤ 1000000) (n : Int) (h0 : 0 ≤ n) (h1 : n ≤ 4000000000) :
    Calls Try.prog 43 #[.pointer (some ⟨b, 0, none⟩), .int .i64 n] w fun e w' => e = .returned (.int .i64 (tk r n)) ∧ ∃ k, w' = w.drewN k := by
  obtain ⟨c0, c1, c2, c3, c4, _, _⟩ := h.cells
  go_enter Try.func43, Try.ntmps43
  go_wp2
  go_quiet (fail)
  go_wp2
  go_ret
  exact ⟨rfl, _, rfl⟩

/-- 'at' of a nil or zero bucket. -/
theorem at_nil (w : World) (now n : Int) (f : Value) :
    Calls Try.prog 40 #[.pointer none, .int .u64 now, .int .i64 n, f] w fun e w' => e = .returned (.int .i64 1) ∧ w = w' := by
  go_enter Try.func40, Try.ntmps40
  go_wp2_with (go_at_call 51; refine (none_nil _).mono ?_; rintro e w' ⟨rfl, rfl⟩)
  go_ret
  exact ⟨rfl, rfl⟩
theorem at_zero {w : World} {b : Nat} (h : BkAt w b 0 0 0 0 0) (now n : Int) (f : Value) :
    Calls Try.prog 40 #[.pointer (some ⟨b, 0, none⟩), .int .u64 now, .int .i64 n, f] w fun e w' => e = .returned (.int .i64 1) ∧ w = w' := by
  go_enter Try.func40, Try.ntmps40
  go_wp2_with (go_at_call 51; refine (none_zero h).mono ?_; rintro e w' ⟨rfl, rfl⟩)
  go_ret
  exact ⟨rfl, rfl⟩
theorem at_arg {w : World} {b : Nat} {r p u l t : Int} (h : BkAt w b r p u l t) (hr : 1 ≤ r) (now n : Int) (f : Value) (hn : n < 0 ∨ 1000000 < n) :
    Calls Try.prog 40 #[.pointer (some ⟨b, 0, none⟩), .int .u64 now, .int .i64 n, f] w fun e w' => e = .returned (.int .i64 2) ∧ w = w' := by
  go_enter Try.func40, Try.ntmps40
  go_wp2_with (first | (go_at_call 51; refine (none_at h hr).mono ?_; rintro e w' ⟨rfl, rfl⟩) | (go_at_call 39; refine (within_no _ _ _ _ hn).mono ?_; rintro e w' ⟨rfl, rfl⟩))
  go_ret
  exact ⟨rfl, rfl⟩
theorem at_range {w : World} {b : Nat} {r p u l t : Int} (h : BkAt w b r p u l t) (hr : 1 ≤ r) (now n : Int) (f : Value) (hn : 0 ≤ n) (hn2 : n ≤ 1000000) (ht : now < t ∨ now = 18446744073709551615) :
    Calls Try.prog 40 #[.pointer (some ⟨b, 0, none⟩), .int .u64 now, .int .i64 n, f] w fun e w' => e = .returned (.int .i64 3) ∧ w = w' := by
  obtain ⟨c0, c1, c2, c3, c4, _, _⟩ := h.cells
  by_cases hlt : now < t
  · clear ht
    go_enter Try.func40, Try.ntmps40
    go_wp2_with (first | (go_at_call 51; refine (none_at h hr).mono ?_; rintro e w' ⟨rfl, rfl⟩) | (go_at_call 39; refine (within_yes _ _ _ _ hn hn2).mono ?_; rintro e w' ⟨rfl, rfl⟩))
    go_ret
    exact ⟨rfl, rfl⟩
  · have e : now = 18446744073709551615 := by omega
    subst e
    have hge : t ≤ 18446744073709551615 := by omega
    clear ht hlt
    go_enter Try.func40, Try.ntmps40
    go_wp2_with (first | (go_at_call 51; refine (none_at h hr).mono ?_; rintro e w' ⟨rfl, rfl⟩) | (go_at_call 39; refine (within_yes _ _ _ _ hn hn2).mono ?_; rintro e w' ⟨rfl, rfl⟩))
    go_ret
    exact ⟨rfl, rfl⟩

set_option maxRecDepth 100000 in
/-- 'at', where it calls the function: by the function's own contract at the level. -/
theorem at_ok {w : World} {b : Nat} {r p u l t : Int} (h : BkAt w b r p u l t) (hi : BkInv r p u l t) (now n : Int) (F : Nat) (cap : Array Value) (hn : 0 ≤ n) (hn2 : n ≤ 1000000) (ht : t ≤ now) (hnow : now < 18446744073709551615)
    (R : Int → World → Prop) (hF : ∀ (args : Array Value) (w : World), (callFunc F args).run Try.prog w = .ok (.enter F args) w)
    (hf : ∀ k, Calls Try.prog F (#[.int .i64 (lvl r p u l t now)] ++ cap) (w.drewN k) fun e w' => ∃ v, e = .returned (.int .i64 v) ∧ R v w') :
    Calls Try.prog 40 #[.pointer (some ⟨b, 0, none⟩), .int .u64 now, .int .i64 n, .func (.func F) #[] cap] w fun e w' => ∃ v, e = .returned (.int .i64 v) ∧ R v w' := by
  obtain ⟨c0, c1, c2, c3, c4, _, _⟩ := h.cells
  obtain ⟨tp1, tp2⟩ := hi.top
  obtain ⟨lb1, lb2⟩ := hi.lbd
  have hr := hi.r1
  have hr2 := hi.r2
  have hl2 := hi.l2
  have ht0 := hi.t1
  have hnow' : (now == 18446744073709551615) = false := by simp; omega
  have hd0 : 0 ≤ tk r (u * p - l) := tk_nonneg hr (by omega)
  have hd1 : tk r (u * p - l) ≤ 2000000000 := Int.le_trans (tk_bd hr (by omega)) (by omega)
  by_cases hA : tk r (u * p - l) ≤ now - t
  · have e := lvl_full hr hA
    rw [e] at hf
    have HF := Lib.hid hf
    clear hf e hi
    go_enter Try.func40, Try.ntmps40
    go_wp2_with (first | (go_at_call 51; refine (none_at h hr).mono ?_; rintro e w' ⟨rfl, rfl⟩) | (go_at_call 39; refine (within_yes _ _ _ _ hn hn2).mono ?_; rintro e w' ⟨rfl, rfl⟩))
    go_quiet (fail)
    go_wp2_with fail
    refine (ticks_any (h.drewN _) hr hr2 _ (by omega) (by omega)).mono ?_
    rintro e w' ⟨rfl, k, rfl⟩
    go_wp2_with fail
    refine (HF.out _).mono ?_
    rintro e w' ⟨v, rfl, hR⟩
    go_wp2_with fail
    go_ret
    exact ⟨v, rfl, hR⟩
  · have hA' : now - t < tk r (u * p - l) := by omega
    have e := lvl_part hr hA'
    have hb1 : 0 ≤ r * (now - t) := Int.mul_nonneg (by omega) (by omega)
    have hb2 : r * (now - t) < u * p - l := by
      have : ¬ u * p - l ≤ r * (now - t) := by rw [← tk_le hr]; omega
      omega
    rw [e] at hf
    have HF := Lib.hid hf
    clear hf e hi
    go_enter Try.func40, Try.ntmps40
    go_wp2_with (first | (go_at_call 51; refine (none_at h hr).mono ?_; rintro e w' ⟨rfl, rfl⟩) | (go_at_call 39; refine (within_yes _ _ _ _ hn hn2).mono ?_; rintro e w' ⟨rfl, rfl⟩))
    go_quiet (fail)
    go_wp2_with fail
    refine (ticks_any (h.drewN _) hr hr2 _ (by omega) (by omega)).mono ?_
    rintro e w' ⟨rfl, k, rfl⟩
    go_wp2_with fail
    obtain ⟨wx, hx⟩ : ∃ wx, wx = w.drewN (nq + k) := ⟨_, rfl⟩
    rw [← hx]
    have d0 : wx.cell? ⟨b, 0, none⟩ = some (.int .i64 r) := by rw [hx]; exact c0
    have d3 : wx.cell? ⟨b, 3, none⟩ = some (.int .i64 l) := by rw [hx]; exact c3
    have HX := Lib.hid hx
    clear hx
    go_still_tail 13, (by kernel_rfl)
    change wpList _ _ _ _ _ wx.drew
    go_wp2_with fail
    have hxx : wx.drew = w.drewN (nq + k + 1) := by rw [HX.out]; rfl
    rw [hxx]
    refine (HF.out _).mono ?_
    rintro e w' ⟨v, rfl, hR⟩
    go_wp2_with fail
    go_ret
    exact ⟨v, rfl, hR⟩
end Go.Proofs.Ytdndabklcenndaa
