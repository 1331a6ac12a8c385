/-
  The plain law of BucketHolds: what was taken is at most the first capacity and what has come since.
-/
import Derived.Test.YtdndabklcenndaaBucketMath
namespace Go.Proofs.Ytdndabklcenndaa

/-- After k calls: the bucket (level l at time t), the time now, the number of tokens that were taken. -/
structure HI (r p u l t nw tkn : Int) (k : Int) : Prop where
  l0 : 0 ≤ l
  l1 : l ≤ u * p
  t0 : 0 ≤ t
  t1 : t ≤ nw
  n1 : nw ≤ k * 100000
  k0 : 0 ≤ tkn
  k1 : tkn ≤ k * 1000000
  eq : tkn * p + l ≤ u * p + r * t

theorem HI.inv {r p u l t nw tkn k : Int} (h : HI r p u l t nw tkn k) (hi : BkInv r p u (u * p) 0) (hk : k ≤ 20) : BkInv r p u l t :=
  ⟨hi.r1, hi.r2, hi.p1, hi.p2, hi.u1, hi.u2, by have := h.l0; have := hi.p1; omega, h.l1, h.t0, by have := h.t1; have := h.n1; omega⟩

theorem HI.start {r p u : Int} (hi : BkInv r p u (u * p) 0) : HI r p u (u * p) 0 0 0 0 :=
  ⟨by have := hi.top; omega, Int.le_refl _, Int.le_refl _, Int.le_refl _, by omega, Int.le_refl _, by omega, by rw [Int.mul_zero, Int.zero_mul]; omega⟩

theorem HI.skip {r p u l t nw tkn k : Int} (h : HI r p u l t nw tkn k) : HI r p u l t nw tkn (k + 1) :=
  ⟨h.l0, h.l1, h.t0, h.t1, by have := h.n1; omega, h.k0, by have := h.k1; omega, h.eq⟩

theorem HI.no {r p u l t nw tkn k d : Int} (h : HI r p u l t nw tkn k) (d0 : 0 ≤ d) (d1 : d ≤ 100000) : HI r p u l t (nw + d) tkn (k + 1) :=
  ⟨h.l0, h.l1, h.t0, by have := h.t1; omega, by have := h.n1; omega, h.k0, by have := h.k1; omega, h.eq⟩

theorem HI.yes {r p u l t nw tkn k d n : Int} (h : HI r p u l t nw tkn k) (p0 : 0 ≤ p) (d0 : 0 ≤ d) (d1 : d ≤ 100000) (n0 : 0 ≤ n) (n1 : n ≤ 1000000) (hv : n * p ≤ lvl r p u l t (nw + d)) :
    HI r p u (lvl r p u l t (nw + d) - n * p) (nw + d) (nw + d) (tkn + n) (k + 1) := by
  obtain ⟨a, b, c, e, f, g, i, j⟩ := h
  refine ⟨by omega, ?_, by omega, Int.le_refl _, by omega, by omega, by omega, ?_⟩
  · have h1 : lvl r p u l t (nw + d) ≤ u * p := by unfold lvl; omega
    have h2 := Int.mul_nonneg n0 p0
    omega
  · rw [Int.add_mul]
    have h1 : lvl r p u l t (nw + d) ≤ l + r * (nw + d - t) := by unfold lvl; omega
    have h2 : r * (nw + d - t) = r * (nw + d) - r * t := Int.mul_sub ..
    omega

/-- The check of each round. -/
theorem HI.check {r p u l t nw tkn k : Int} (h : HI r p u l t nw tkn k) (hr : 0 ≤ r) (hp : 1 ≤ p) : tkn ≤ u + r * nw / p + 1 := by
  have h1 := h.eq
  have h2 := h.l0
  have h3 : r * t ≤ r * nw := Int.mul_le_mul_of_nonneg_left h.t1 hr
  have h4 : (tkn - u) * p ≤ r * nw := by rw [Int.sub_mul]; omega
  have h5 : tkn - u ≤ r * nw / p := (Int.le_ediv_iff_mul_le (by omega)).2 h4
  omega

/-- At the time that Wait returned there are enough, and a tick before it there are not. -/
theorem wait_reach {r p u l t now n : Int} (hi : BkInv r p u l t) (hn : n ≤ u) : n * p ≤ lvl r p u l t (now + tk r (max 0 (n * p - lvl r p u l t now))) := by
  have hnp : n * p ≤ u * p := Int.mul_le_mul_of_nonneg_right hn (by have := hi.p1; omega)
  have hr := hi.r1
  have h1 := (tk_le (r := r) (n := max 0 (n * p - lvl r p u l t now)) (d := tk r (max 0 (n * p - lvl r p u l t now))) hr).1 (Int.le_refl _)
  generalize tk r (max 0 (n * p - lvl r p u l t now)) = d at *
  have h2 : r * (now + d - t) = r * (now - t) + r * d := by rw [show now + d - t = (now - t) + d from by omega, Int.mul_add]
  unfold lvl at *
  omega
theorem wait_before {r p u l t now n : Int} (hi : BkInv r p u l t) (hn : n ≤ u) (h : 0 < tk r (max 0 (n * p - lvl r p u l t now))) :
    lvl r p u l t (now + tk r (max 0 (n * p - lvl r p u l t now)) - 1) < n * p := by
  have hr := hi.r1
  have hnp : n * p ≤ u * p := Int.mul_le_mul_of_nonneg_right hn (by have := hi.p1; omega)
  have h1 : ¬ max 0 (n * p - lvl r p u l t now) ≤ r * (tk r (max 0 (n * p - lvl r p u l t now)) - 1) := by
    rw [← tk_le hr]; omega
  have h0 : 0 ≤ r * (tk r (max 0 (n * p - lvl r p u l t now)) - 1) := Int.mul_nonneg (by omega) (by omega)
  generalize tk r (max 0 (n * p - lvl r p u l t now)) = d at *
  have h2 : r * (now + d - 1 - t) = r * (now - t) + r * (d - 1) := by rw [show now + d - 1 - t = (now - t) + (d - 1) from by omega, Int.mul_add]
  unfold lvl at *
  omega
end Go.Proofs.Ytdndabklcenndaa
