/-
  Plain arithmetic of a bucket of tokens: its level at a time, and how many ticks it takes to grow.
-/
import Derived.Lib.Hide
namespace Go.Proofs.Ytdndabklcenndaa

/-- A bucket's level at a time that is not before its last one. -/
def lvl (r p u l t now : Int) : Int := min (u * p) (l + r * (now - t))
/-- How many ticks it takes to grow by n parts. -/
def tk (r n : Int) : Int := (n + r - 1) / r
/-- A time plus some ticks, saturating. -/
def plusT (t n : Int) : Int := if 18446744073709551615 - t ≤ n then 18446744073709551615 else t + n

structure BkInv (r p u l t : Int) : Prop where
  r1 : 1 ≤ r
  r2 : r ≤ 1000000
  p1 : 1 ≤ p
  p2 : p ≤ 1000
  u1 : 1 ≤ u
  u2 : u ≤ 1000000
  l1 : -(1000000 * p) ≤ l
  l2 : l ≤ u * p
  t1 : 0 ≤ t
  t2 : t < 18446744073709551615

theorem mul_bd {a b A B : Int} (h0 : 0 ≤ a) (h1 : a ≤ A) (h2 : 0 ≤ b) (h3 : b ≤ B) : 0 ≤ a * b ∧ a * b ≤ A * B :=
  ⟨Int.mul_nonneg h0 h2, Int.mul_le_mul h1 h3 h2 (Int.le_trans h0 h1)⟩

theorem BkInv.top {r p u l t : Int} (h : BkInv r p u l t) : 1 ≤ u * p ∧ u * p ≤ 1000000000 := by
  have h1 := mul_bd (a := u) (b := p) (A := 1000000) (B := 1000) (by have := h.u1; omega) h.u2 (by have := h.p1; omega) h.p2
  have h2 : 1 * 1 ≤ u * p := Int.mul_le_mul h.u1 h.p1 (by omega) (by have := h.u1; omega)
  omega
theorem BkInv.lbd {r p u l t : Int} (h : BkInv r p u l t) : -1000000000 ≤ l ∧ l ≤ 1000000000 := by
  have := h.top; have := h.l1; have := h.l2; have := h.p2; omega

theorem tk_le {r n d : Int} (hr : 1 ≤ r) : tk r n ≤ d ↔ n ≤ r * d := by
  unfold tk
  have hr0 : 0 < r := by omega
  have e : r * (d + 1) = r * d + r := by rw [Int.mul_add, Int.mul_one]
  have k : (n + r - 1) / r < d + 1 ↔ n + r - 1 < (d + 1) * r := Int.ediv_lt_iff_lt_mul hr0
  rw [Int.mul_comm] at k
  omega
theorem tk_nonneg {r n : Int} (hr : 1 ≤ r) (hn : 0 ≤ n) : 0 ≤ tk r n := Int.ediv_nonneg (by omega) (by omega)
theorem tk_bd {r n : Int} (hr : 1 ≤ r) (hn : 0 ≤ n) : tk r n ≤ n := by
  rw [tk_le hr]
  have := Int.mul_le_mul hr (Int.le_refl n) hn (by omega)
  omega
theorem tk_mono {r n m : Int} (hr : 1 ≤ r) (h : n ≤ m) : tk r n ≤ tk r m := Int.ediv_le_ediv (by omega) (by omega)

/-- Where enough time has passed the bucket is full. -/
theorem lvl_full {r p u l t now : Int} (hr : 1 ≤ r) (h : tk r (u * p - l) ≤ now - t) : lvl r p u l t now = u * p := by
  rw [tk_le hr] at h
  unfold lvl; omega
theorem lvl_part {r p u l t now : Int} (hr : 1 ≤ r) (h : now - t < tk r (u * p - l)) : lvl r p u l t now = l + r * (now - t) := by
  have : ¬ u * p - l ≤ r * (now - t) := by rw [← tk_le hr]; omega
  unfold lvl; omega
theorem lvl_bd {r p u l t now : Int} (h : BkInv r p u l t) (ht : t ≤ now) : l ≤ lvl r p u l t now ∧ lvl r p u l t now ≤ u * p := by
  have := Int.mul_nonneg (a := r) (b := now - t) (by have := h.r1; omega) (by omega)
  have := h.l2
  unfold lvl; omega
end Go.Proofs.Ytdndabklcenndaa
