/-
  The law package's wrong, grown, plus, ticks.
-/
import Derived.Test.YtdndabklcenndaaBucketLaw
namespace Go.Proofs.Ytdndabklcenndaa
open Go.RowKit
set_option maxRecDepth 100000

theorem wrong_bad (w : World) {r p u l t now n k : Int} (hk : Bad t now n k) :
    Calls Try.prog 47 #[.agg #[.int .i64 r, .int .i64 p, .int .i64 u, .int .i64 l, .int .u64 t], .int .u64 now, .int .i64 n] w fun e w' => e = .returned (.int .i64 k) ∧ Fr [] w w' := by
  rcases hk with ⟨hn, rfl⟩ | ⟨⟨h1, h2⟩, h3, rfl⟩
  · by_cases h : n < 0
    · clear hn
      go_enter Try.func47, Try.ntmps47
      go_wp2
      go_ret
      exact ⟨rfl, (Fr.refl _ _).alloc _⟩
    · have h' : 0 ≤ n := by omega
      have h'' : 1000000 < n := by omega
      clear hn h
      go_enter Try.func47, Try.ntmps47
      go_wp2
      go_ret
      exact ⟨rfl, (Fr.refl _ _).alloc _⟩
  · by_cases h : now < t
    · clear h3
      go_enter Try.func47, Try.ntmps47
      go_wp2
      go_ret
      exact ⟨rfl, (Fr.refl _ _).alloc _⟩
    · have e : now = 18446744073709551615 := by omega
      subst e
      have h' : t ≤ 18446744073709551615 := by omega
      clear h3 h
      go_enter Try.func47, Try.ntmps47
      go_wp2
      go_ret
      exact ⟨rfl, (Fr.refl _ _).alloc _⟩

theorem wrong_ok (w : World) {r p u l t now n : Int} (h1 : 0 ≤ n) (h2 : n ≤ 1000000) (h3 : t ≤ now) (h4 : now < 18446744073709551615) :
    Calls Try.prog 47 #[.agg #[.int .i64 r, .int .i64 p, .int .i64 u, .int .i64 l, .int .u64 t], .int .u64 now, .int .i64 n] w fun e w' => e = .returned (.int .i64 0) ∧ Fr [] w w' := by
  have h5 : (now == 18446744073709551615) = false := by simp; omega
  go_enter Try.func47, Try.ntmps47
  go_wp2
  go_ret
  exact ⟨rfl, (Fr.refl _ _).alloc _⟩

theorem grown_ok (w : World) {r p u l t now : Int} (hi : BkInv r p u l t) (h3 : t ≤ now) (h4 : now < 18446744073709551615) :
    Calls Try.prog 48 #[.agg #[.int .i64 r, .int .i64 p, .int .i64 u, .int .i64 l, .int .u64 t], .int .u64 now] w fun e w' => e = .returned (.int .i64 (lvl r p u l t now)) ∧ Fr [] w w' := by
  obtain ⟨tp1, tp2⟩ := hi.top
  obtain ⟨lb1, lb2⟩ := hi.lbd
  have hr := hi.r1
  have hr2 := hi.r2
  have ht0 := hi.t1
  by_cases hc : 2000000001 < now - t
  · have e : lvl r p u l t now = u * p := lvl_full hr (Int.le_trans (tk_bd hr (by have := hi.l2; omega)) (by omega))
    have E := Lib.hid e
    clear e hi
    have hm : u * p ≤ l + r * 2000000001 := by omega
    go_enter Try.func48, Try.ntmps48
    go_wp2
    go_ret
    exact ⟨by rw [E.out]; rfl, (Fr.refl _ _).alloc _⟩
  · have hc' : now - t ≤ 2000000001 := by omega
    have hc0 : 0 ≤ now - t := by omega
    clear hc
    obtain ⟨m1, m2⟩ := mul_bd (a := r) (b := now - t) (by omega) hr2 hc0 hc'
    by_cases hm : u * p ≤ l + r * (now - t)
    · have e : lvl r p u l t now = u * p := by unfold lvl; omega
      have E := Lib.hid e
      clear e hi
      go_enter Try.func48, Try.ntmps48
      go_wp2
      go_ret
      exact ⟨by rw [E.out]; rfl, (Fr.refl _ _).alloc _⟩
    · have e : lvl r p u l t now = l + r * (now - t) := by unfold lvl; omega
      have hm' : l + r * (now - t) < u * p := by omega
      have E := Lib.hid e
      clear e hi hm
      go_enter Try.func48, Try.ntmps48
      go_wp2
      go_ret
      exact ⟨by rw [E.out]; rfl, (Fr.refl _ _).alloc _⟩

theorem plus_ok (w : World) {t n : Int} (h0 : 0 ≤ t) (h1 : t ≤ 18446744073709551615) (h2 : 0 ≤ n) (h3 : n ≤ 9223372036854775807) :
    Calls Try.prog 49 #[.int .u64 t, .int .i64 n] w fun e w' => e = .returned (.int .u64 (plusT t n)) ∧ w = w' := by
  by_cases h : 18446744073709551615 - t < n
  · have e : plusT t n = 18446744073709551615 := by unfold plusT; rw [if_pos (by omega)]
    have E := Lib.hid e
    clear e
    go_enter Try.func49, Try.ntmps49
    go_wp2
    go_ret
    exact ⟨by rw [E.out]; rfl, rfl⟩
  · have e : plusT t n = t + n := by unfold plusT; split <;> omega
    have E := Lib.hid e
    have h' : n ≤ 18446744073709551615 - t := by omega
    clear e h
    go_enter Try.func49, Try.ntmps49
    go_wp2
    go_ret
    exact ⟨by rw [E.out]; rfl, rfl⟩

theorem tk_pos {r n : Int} (hr : 1 ≤ r) : tk r n = (n - 1) / r + 1 := by
  unfold tk
  rw [show n + r - 1 = (n - 1) + r from by omega, Int.add_ediv_of_dvd_right (Int.dvd_refl r), Int.ediv_self (by omega)]

theorem ticks_law (w : World) {r p u l t n : Int} (hr : 1 ≤ r) (hr2 : r ≤ 1000000) (h0 : -4000000000 ≤ n) (h1 : n ≤ 4000000000) :
    Calls Try.prog 50 #[.agg #[.int .i64 r, .int .i64 p, .int .i64 u, .int .i64 l, .int .u64 t], .int .i64 n] w fun e w' => e = .returned (.int .i64 (tk r (max 0 n))) ∧ Fr [] w w' := by
  by_cases h : n ≤ 0
  · have e : tk r (max 0 n) = 0 := by
      rw [show max 0 n = 0 from by omega]
      have := (tk_le (n := 0) (d := 0) hr).2 (by omega)
      have := tk_nonneg hr (Int.le_refl 0)
      omega
    have E := Lib.hid e
    clear e
    go_enter Try.func50, Try.ntmps50
    go_wp2
    go_ret
    exact ⟨by rw [E.out]; rfl, (Fr.refl _ _).alloc _⟩
  · have e : tk r (max 0 n) = (n - 1) / r + 1 := by rw [show max 0 n = n from by omega, tk_pos hr]
    have E := Lib.hid e
    have h' : 0 < n := by omega
    have d0 : 0 ≤ (n - 1) / r := Int.ediv_nonneg (by omega) (by omega)
    have d1 : (n - 1) / r ≤ 4000000000 := Int.le_trans (Int.ediv_le_self _ (by omega)) (by omega)
    clear e h
    go_enter Try.func50, Try.ntmps50
    go_wp2
    go_ret
    exact ⟨by rw [E.out]; rfl, (Fr.refl _ _).alloc _⟩

theorem BkInv.took {r p u l t now n : Int} (hi : BkInv r p u l t) (hn : 0 ≤ n) (ht : t ≤ now) (hnow : now < 18446744073709551615) (hv : n * p ≤ lvl r p u l t now) : BkInv r p u (lvl r p u l t now - n * p) now := by
  obtain ⟨a, b⟩ := lvl_bd hi ht
  have hp := hi.p1
  have h := Int.mul_nonneg hn (by omega : 0 ≤ p)
  exact ⟨hi.r1, hi.r2, hi.p1, hi.p2, hi.u1, hi.u2, by omega, by omega, by have := hi.t1; omega, hnow⟩
theorem BkInv.reserved {r p u l t now n : Int} (hi : BkInv r p u l t) (hn : 0 ≤ n) (ht : t ≤ now) (hnow : now < 18446744073709551615) (hv : -1000000 * p ≤ lvl r p u l t now - n * p) : BkInv r p u (lvl r p u l t now - n * p) now := by
  obtain ⟨a, b⟩ := lvl_bd hi ht
  have hp := hi.p1
  have h := Int.mul_nonneg hn (by omega : 0 ≤ p)
  exact ⟨hi.r1, hi.r2, hi.p1, hi.p2, hi.u1, hi.u2, by omega, by omega, by have := hi.t1; omega, hnow⟩

/-- Some time and some error. -/
def SomeRes (b : Nat) (w : World) (e : Ending) (w' : World) : Prop := ∃ x y : Int, e = .returned (.tuple #[.int .u64 x, .int .i64 y]) ∧ Fr [b] w w'
theorem reserve_any {w : World} {b : Nat} {r p u l t : Int} (h : BkAt w b r p u l t) (hi : BkInv r p u l t) (now n : Int) (hn : 0 ≤ n) (hn2 : n ≤ 1000000) (ht : t ≤ now) (hnow : now < 18446744073709551615) :
    Calls Try.prog 16 #[.pointer (some ⟨b, 0, none⟩), .int .u64 now, .int .i64 n] w (SomeRes b w) := by
  by_cases hv : -1000000 * p ≤ lvl r p u l t now - n * p
  · exact (reserve_yes h hi now n hn hn2 ht hnow hv).mono fun e w' ⟨he, hf, _⟩ => ⟨_, _, he, hf⟩
  · exact (reserve_no h hi now n hn hn2 ht hnow (by omega)).mono fun e w' ⟨he, hf⟩ => ⟨_, _, he, hf.mono (by simp)⟩
theorem tokens_at {w : World} {b : Nat} {r p u l t : Int} (h : BkAt w b r p u l t) (hi : BkInv r p u l t) (now : Int) (ht : t ≤ now) (hnow : now < 18446744073709551615) (x : Int) (hx : max 0 (lvl r p u l t now) / p = x) :
    Calls Try.prog 18 #[.pointer (some ⟨b, 0, none⟩), .int .u64 now] w fun e w' => e = .returned (.tuple #[.int .i64 x, .int .i64 0]) ∧ Fr [] w w' := by
  subst hx
  exact tokens_ok h hi now ht hnow
end Go.Proofs.Ytdndabklcenndaa
