/-
  Contracts of bucket.New, Copy, and of the law package's valid, tokens, takes.
-/
import Derived.Test.YtdndabklcenndaaBucketCalls
namespace Go.Proofs.Ytdndabklcenndaa
open Go.RowKit
set_option maxRecDepth 100000

def Val (r p u now : Int) : Prop := (1 ≤ r ∧ r ≤ 1000000) ∧ (1 ≤ p ∧ p ≤ 1000) ∧ (1 ≤ u ∧ u ≤ 1000000) ∧ now ≠ 18446744073709551615

theorem Val.inv {r p u now : Int} (h : Val r p u now) (h0 : 0 ≤ now) (h1 : now ≤ 18446744073709551615) : BkInv r p u (u * p) now := by
  obtain ⟨⟨a1, a2⟩, ⟨b1, b2⟩, ⟨c1, c2⟩, d⟩ := h
  have := Int.mul_nonneg (a := u) (b := p) (by omega) (by omega)
  exact ⟨a1, a2, b1, b2, c1, c2, by omega, Int.le_refl _, h0, by omega⟩

theorem new_ok {r p u now : Int} (w : World) (h : Val r p u now) :
    Calls Try.prog 15 #[.int .i64 r, .int .i64 p, .int .i64 u, .int .u64 now] w fun e w' =>
      e = .returned (.tuple #[.pointer (some ⟨w.heap.size, 0, none⟩), .int .i64 0]) ∧ Fr [] w w' ∧ BkAt w' w.heap.size r p u (u * p) now := by
  obtain ⟨⟨a1, a2⟩, ⟨b1, b2⟩, ⟨c1, c2⟩, d⟩ := h
  have d' : (now == 18446744073709551615) = false := by simp; omega
  obtain ⟨m1, m2⟩ := mul_bd (a := u) (b := p) (by omega) c2 (by omega) b2
  go_enter Try.func15, Try.ntmps15
  go_wp2_with (go_at_call 39; refine (within_yes _ _ _ _ (by omega) (by omega)).mono ?_; rintro e w' ⟨rfl, rfl⟩)
  go_ret2
  exact ⟨rfl, (Fr.refl _ _).alloc _, newA rfl⟩

theorem new_no {r p u now : Int} (w : World) (h : ¬ Val r p u now) :
    Calls Try.prog 15 #[.int .i64 r, .int .i64 p, .int .i64 u, .int .u64 now] w fun e w' =>
      e = .returned (.tuple #[.pointer none, .int .i64 2]) ∧ w = w' := by
  by_cases hr : 1 ≤ r ∧ r ≤ 1000000
  · by_cases hp : 1 ≤ p ∧ p ≤ 1000
    · by_cases hu : 1 ≤ u ∧ u ≤ 1000000
      · have hn : now = 18446744073709551615 := Classical.byContradiction fun hn => h ⟨hr, hp, hu, hn⟩
        subst hn
        clear h
        obtain ⟨a1, a2⟩ := hr
        obtain ⟨b1, b2⟩ := hp
        obtain ⟨c1, c2⟩ := hu
        go_enter Try.func15, Try.ntmps15
        go_wp2_with (go_at_call 39; refine (within_yes _ _ _ _ (by omega) (by omega)).mono ?_; rintro e w' ⟨rfl, rfl⟩)
        go_ret2
        exact ⟨rfl, rfl⟩
      · obtain ⟨a1, a2⟩ := hr
        obtain ⟨b1, b2⟩ := hp
        have hu' : u < 1 ∨ 1000000 < u := by omega
        clear h hu
        go_enter Try.func15, Try.ntmps15
        go_wp2_with fail
        refine (within_yes _ _ _ _ a1 a2).mono ?_
        rintro e w' ⟨rfl, rfl⟩
        go_wp2_with fail
        refine (within_yes _ _ _ _ b1 b2).mono ?_
        rintro e w' ⟨rfl, rfl⟩
        go_wp2_with fail
        refine (within_no _ _ _ _ hu').mono ?_
        rintro e w' ⟨rfl, rfl⟩
        go_wp2_with fail
        go_ret2
        exact ⟨rfl, rfl⟩
    · obtain ⟨a1, a2⟩ := hr
      have hp' : p < 1 ∨ 1000 < p := by omega
      clear h hp
      go_enter Try.func15, Try.ntmps15
      go_wp2_with fail
      refine (within_yes _ _ _ _ a1 a2).mono ?_
      rintro e w' ⟨rfl, rfl⟩
      go_wp2_with fail
      refine (within_no _ _ _ _ hp').mono ?_
      rintro e w' ⟨rfl, rfl⟩
      go_wp2_with fail
      go_ret2
      exact ⟨rfl, rfl⟩
  · have hr' : r < 1 ∨ 1000000 < r := by omega
    clear h hr
    go_enter Try.func15, Try.ntmps15
    go_wp2_with fail
    refine (within_no _ _ _ _ hr').mono ?_
    rintro e w' ⟨rfl, rfl⟩
    go_wp2_with fail
    go_ret2
    exact ⟨rfl, rfl⟩

theorem copy_nil (w : World) : Calls Try.prog 23 #[.pointer none] w fun e w' => e = .returned (.pointer none) ∧ w = w' := by
  go_enter Try.func23, Try.ntmps23
  go_wp2_with (go_at_call 51; refine (none_nil _).mono ?_; rintro e w' ⟨rfl, rfl⟩)
  go_ret
  exact ⟨rfl, rfl⟩
theorem copy_zero {w : World} {b : Nat} (h : BkAt w b 0 0 0 0 0) : Calls Try.prog 23 #[.pointer (some ⟨b, 0, none⟩)] w fun e w' => e = .returned (.pointer none) ∧ w = w' := by
  go_enter Try.func23, Try.ntmps23
  go_wp2_with (go_at_call 51; refine (none_zero h).mono ?_; rintro e w' ⟨rfl, rfl⟩)
  go_ret
  exact ⟨rfl, rfl⟩
theorem copy_ok {w : World} {b : Nat} {r p u l t : Int} (h : BkAt w b r p u l t) (hr : 1 ≤ r) :
    Calls Try.prog 23 #[.pointer (some ⟨b, 0, none⟩)] w fun e w' => e = .returned (.pointer (some ⟨w.heap.size, 0, none⟩)) ∧ Fr [] w w' ∧ BkAt w' w.heap.size r p u l t := by
  obtain ⟨c0, c1, c2, c3, c4, f3, f4⟩ := h.cells
  have hlt := h.lt
  go_enter Try.func23, Try.ntmps23
  go_wp2_with (go_at_call 51; refine (none_at h hr).mono ?_; rintro e w' ⟨rfl, rfl⟩)
  go_ret
  exact ⟨rfl, (Fr.refl _ _).alloc _, newA rfl⟩

/-- The error of a call with a time and a number of tokens. -/
def Bad (t now n k : Int) : Prop := (n < 0 ∨ 1000000 < n) ∧ k = 2 ∨ (0 ≤ n ∧ n ≤ 1000000) ∧ (now < t ∨ now = 18446744073709551615) ∧ k = 3

theorem at_bad {w : World} {b : Nat} {r p u l t : Int} (h : BkAt w b r p u l t) (hr : 1 ≤ r) {now n k : Int} (hk : Bad t now n k) (f : Value) :
    Calls Try.prog 40 #[.pointer (some ⟨b, 0, none⟩), .int .u64 now, .int .i64 n, f] w fun e w' => e = .returned (.int .i64 k) ∧ w = w' := by
  rcases hk with ⟨hn, rfl⟩ | ⟨⟨h1, h2⟩, h3, rfl⟩
  · exact at_arg h hr now n f hn
  · exact at_range h hr now n f h1 h2 h3
theorem tokens_bad {w : World} {b : Nat} {r p u l t : Int} (h : BkAt w b r p u l t) (hr : 1 ≤ r) {now k : Int} (hk : Bad t now 0 k) :
    Calls Try.prog 18 #[.pointer (some ⟨b, 0, none⟩), .int .u64 now] w fun e w' => e = .returned (.tuple #[.int .i64 0, .int .i64 k]) ∧ Fr [] w w' :=
  tokens_err fun _ f hb => at_bad (hb h) hr hk f
theorem tokens_nil (w : World) (now : Int) :
    Calls Try.prog 18 #[.pointer none, .int .u64 now] w fun e w' => e = .returned (.tuple #[.int .i64 0, .int .i64 1]) ∧ Fr [] w w' :=
  tokens_err fun W f _ => at_nil W now 0 f
theorem tokens_zero {w : World} {b : Nat} (h : BkAt w b 0 0 0 0 0) (now : Int) :
    Calls Try.prog 18 #[.pointer (some ⟨b, 0, none⟩), .int .u64 now] w fun e w' => e = .returned (.tuple #[.int .i64 0, .int .i64 1]) ∧ Fr [] w w' :=
  tokens_err fun _ f hb => at_zero (hb h) now 0 f

theorem wait_bad {w : World} {b : Nat} {r p u l t : Int} (h : BkAt w b r p u l t) (hr : 1 ≤ r) {now n k : Int} (hk : Bad t now n k) :
    Calls Try.prog 19 #[.pointer (some ⟨b, 0, none⟩), .int .u64 now, .int .i64 n] w fun e w' => e = .returned (.tuple #[.int .u64 0, .int .i64 k]) ∧ Fr [] w w' :=
  wait_err fun _ f hb => at_bad (hb h) hr hk f
theorem wait_nil (w : World) (now n : Int) :
    Calls Try.prog 19 #[.pointer none, .int .u64 now, .int .i64 n] w fun e w' => e = .returned (.tuple #[.int .u64 0, .int .i64 1]) ∧ Fr [] w w' :=
  wait_err fun W f _ => at_nil W now n f
theorem wait_zero {w : World} {b : Nat} (h : BkAt w b 0 0 0 0 0) (now n : Int) :
    Calls Try.prog 19 #[.pointer (some ⟨b, 0, none⟩), .int .u64 now, .int .i64 n] w fun e w' => e = .returned (.tuple #[.int .u64 0, .int .i64 1]) ∧ Fr [] w w' :=
  wait_err fun _ f hb => at_zero (hb h) now n f

theorem take_bad {w : World} {b : Nat} {r p u l t : Int} (h : BkAt w b r p u l t) (hr : 1 ≤ r) {now n k : Int} (hk : Bad t now n k) :
    Calls Try.prog 20 #[.pointer (some ⟨b, 0, none⟩), .int .u64 now, .int .i64 n] w fun e w' => e = .returned (.tuple #[.bool false, .int .i64 k]) ∧ Fr [] w w' :=
  take_err fun _ f hb => at_bad (hb h) hr hk f
theorem take_nil (w : World) (now n : Int) :
    Calls Try.prog 20 #[.pointer none, .int .u64 now, .int .i64 n] w fun e w' => e = .returned (.tuple #[.bool false, .int .i64 1]) ∧ Fr [] w w' :=
  take_err fun W f _ => at_nil W now n f
theorem take_zero {w : World} {b : Nat} (h : BkAt w b 0 0 0 0 0) (now n : Int) :
    Calls Try.prog 20 #[.pointer (some ⟨b, 0, none⟩), .int .u64 now, .int .i64 n] w fun e w' => e = .returned (.tuple #[.bool false, .int .i64 1]) ∧ Fr [] w w' :=
  take_err fun _ f hb => at_zero (hb h) now n f

theorem reserve_bad {w : World} {b : Nat} {r p u l t : Int} (h : BkAt w b r p u l t) (hr : 1 ≤ r) {now n k : Int} (hk : Bad t now n k) :
    Calls Try.prog 16 #[.pointer (some ⟨b, 0, none⟩), .int .u64 now, .int .i64 n] w fun e w' => e = .returned (.tuple #[.int .u64 0, .int .i64 k]) ∧ Fr [] w w' :=
  reserve_err fun _ f hb => at_bad (hb h) hr hk f
theorem reserve_nil (w : World) (now n : Int) :
    Calls Try.prog 16 #[.pointer none, .int .u64 now, .int .i64 n] w fun e w' => e = .returned (.tuple #[.int .u64 0, .int .i64 1]) ∧ Fr [] w w' :=
  reserve_err fun W f _ => at_nil W now n f
theorem reserve_zero {w : World} {b : Nat} (h : BkAt w b 0 0 0 0 0) (now n : Int) :
    Calls Try.prog 16 #[.pointer (some ⟨b, 0, none⟩), .int .u64 now, .int .i64 n] w fun e w' => e = .returned (.tuple #[.int .u64 0, .int .i64 1]) ∧ Fr [] w w' :=
  reserve_err fun _ f hb => at_zero (hb h) now n f
end Go.Proofs.Ytdndabklcenndaa
