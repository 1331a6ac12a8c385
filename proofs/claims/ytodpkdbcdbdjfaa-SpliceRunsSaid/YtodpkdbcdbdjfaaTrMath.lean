/-
  Package transfer in plain words: what a transfer holds, what it wants, what it answers. No program in sight.
-/
import Derived.Test.YtodpkdbcdbdjfaaRopeTake
namespace Go.Proofs.Ytodpkdbcdbdjfaa
open Go.RowKit

/-- What a transfer holds: its stage and limit, how many bytes were read and written, the bytes between, the codes with which reading and writing ended. -/
structure TS where
  stage : Int
  limit : Int
  rd : Int
  wr : Int
  s : List UInt8
  r : Int
  w : Int
/-- What is wanted: the kind, the side, the number, the bytes, the error. -/
structure WT where
  kind : Int
  side : Int
  n : Int
  data : List UInt8
  err : Int

def eofT (r : Int) : Int := if r = 13 then 0 else r
def nextT (t : TS) : WT :=
  if t.w ≠ 0 then ⟨4, 0, t.wr, [], t.w⟩
  else if t.s ≠ [] then ⟨2, 0, 0, t.s, 0⟩
  else if t.r ≠ 0 ∨ t.rd = t.limit then ⟨4, 0, t.wr, [], eofT t.r⟩
  else ⟨1, 0, if t.limit = -1 then t.stage else min t.stage (t.limit - t.rd), [], 0⟩

def okS (stage limit : Int) : Bool := decide (1 ≤ stage ∧ stage ≤ 4096 ∧ -1 ≤ limit ∧ limit ≤ 1073741824)
def codeE (e : Int) : Bool := decide (1 ≤ e ∧ e ≤ 1000 ∧ e ≠ 16)
/-- Whether a number of bytes and a code say something that may be said. -/
def codeN (n e : Int) : Bool := if e = 0 then decide (0 < n) else codeE e

def checkT (t : TS) (kind n most e : Int) : Int :=
  if (nextT t).kind ≠ kind then 8 else if n < 0 ∨ most < n ∨ codeN n e = false then 2 else 0
def gotE (t : TS) (p : List UInt8) (e : Int) : Int := checkT t 1 p.length (nextT t).n e
def gotT (t : TS) (p : List UInt8) (e : Int) : TS := if gotE t p e = 0 then { t with rd := t.rd + p.length, s := p, r := e } else t
def wroteE (t : TS) (n e : Int) : Int := checkT t 2 n ((nextT t).data.length : Nat) e
def wroteT (t : TS) (n e : Int) : TS := if wroteE t n e = 0 then { t with wr := t.wr + n, s := t.s.drop n.toNat, w := e } else t
def newT (stage limit : Int) : TS := ⟨stage, limit, 0, 0, [], 0, 0⟩

/-- What is true of every transfer. -/
structure TOk (t : TS) : Prop where
  s1 : 1 ≤ t.stage
  s2 : t.stage ≤ 4096
  l1 : -1 ≤ t.limit
  l2 : t.limit ≤ 1073741824
  w0 : 0 ≤ t.wr
  sum : t.wr + t.s.length = t.rd
  few : t.s.length ≤ t.stage
  lr : t.limit = -1 ∨ t.rd ≤ t.limit
theorem TOk.r0 {t : TS} (h : TOk t) : 0 ≤ t.rd := by have := h.w0; have := h.sum; omega
theorem okS_iff {a b : Int} : okS a b = true ↔ 1 ≤ a ∧ a ≤ 4096 ∧ -1 ≤ b ∧ b ≤ 1073741824 := by unfold okS; rw [decide_eq_true_iff]
theorem newT_ok {a b : Int} (h : okS a b = true) : TOk (newT a b) := by
  obtain ⟨h1, h2, h3, h4⟩ := okS_iff.1 h
  exact ⟨h1, h2, h3, h4, Int.le_refl _, by simp [newT], by simp [newT]; omega, by simp [newT]; omega⟩

theorem nextT_fail {t : TS} (h : t.w ≠ 0) : nextT t = ⟨4, 0, t.wr, [], t.w⟩ := by unfold nextT; rw [if_pos h]
theorem nextT_write {t : TS} (h : t.w = 0) (h1 : t.s ≠ []) : nextT t = ⟨2, 0, 0, t.s, 0⟩ := by unfold nextT; rw [if_neg (by simp [h]), if_pos h1]
theorem nextT_done {t : TS} (h : t.w = 0) (h1 : t.s = []) (h2 : t.r ≠ 0 ∨ t.rd = t.limit) : nextT t = ⟨4, 0, t.wr, [], eofT t.r⟩ := by unfold nextT; rw [if_neg (by simp [h]), if_neg (by simp [h1]), if_pos h2]
theorem nextT_read {t : TS} (h : t.w = 0) (h1 : t.s = []) (h2 : t.r = 0) (h3 : t.rd ≠ t.limit) : nextT t = ⟨1, 0, if t.limit = -1 then t.stage else min t.stage (t.limit - t.rd), [], 0⟩ := by unfold nextT; rw [if_neg (by simp [h]), if_neg (by simp [h1]), if_neg (by simp [h2, h3])]
/-- Which of the four a transfer wants. -/
theorem nextT_cases (t : TS) : (t.w ≠ 0 ∧ nextT t = ⟨4, 0, t.wr, [], t.w⟩) ∨ (t.w = 0 ∧ t.s ≠ [] ∧ nextT t = ⟨2, 0, 0, t.s, 0⟩)
    ∨ (t.w = 0 ∧ t.s = [] ∧ (t.r ≠ 0 ∨ t.rd = t.limit) ∧ nextT t = ⟨4, 0, t.wr, [], eofT t.r⟩)
    ∨ (t.w = 0 ∧ t.s = [] ∧ t.r = 0 ∧ t.rd ≠ t.limit ∧ nextT t = ⟨1, 0, if t.limit = -1 then t.stage else min t.stage (t.limit - t.rd), [], 0⟩) := by
  by_cases h : t.w = 0
  · by_cases h1 : t.s = []
    · by_cases h2 : t.r = 0
      · by_cases h3 : t.rd = t.limit
        · exact .inr (.inr (.inl ⟨h, h1, .inr h3, nextT_done h h1 (.inr h3)⟩))
        · exact .inr (.inr (.inr ⟨h, h1, h2, h3, nextT_read h h1 h2 h3⟩))
      · exact .inr (.inr (.inl ⟨h, h1, .inl h2, nextT_done h h1 (.inl h2)⟩))
    · exact .inr (.inl ⟨h, h1, nextT_write h h1⟩)
  · exact .inl ⟨h, nextT_fail h⟩
theorem nextT_k1 {t : TS} (h : (nextT t).kind = 1) : t.w = 0 ∧ t.s = [] ∧ t.r = 0 ∧ t.rd ≠ t.limit ∧ nextT t = ⟨1, 0, if t.limit = -1 then t.stage else min t.stage (t.limit - t.rd), [], 0⟩ := by
  rcases nextT_cases t with ⟨_, e⟩ | ⟨_, _, e⟩ | ⟨_, _, _, e⟩ | ⟨a, b, c, d, e⟩
  · rw [e] at h; simp at h
  · rw [e] at h; simp at h
  · rw [e] at h; simp at h
  · exact ⟨a, b, c, d, e⟩
theorem nextT_k2 {t : TS} (h : (nextT t).kind = 2) : t.w = 0 ∧ t.s ≠ [] ∧ nextT t = ⟨2, 0, 0, t.s, 0⟩ := by
  rcases nextT_cases t with ⟨_, e⟩ | ⟨a, b, e⟩ | ⟨_, _, _, e⟩ | ⟨_, _, _, _, e⟩
  · rw [e] at h; simp at h
  · exact ⟨a, b, e⟩
  · rw [e] at h; simp at h
  · rw [e] at h; simp at h

theorem checkT_zero {t : TS} {k n m e : Int} (h : checkT t k n m e = 0) : (nextT t).kind = k ∧ 0 ≤ n ∧ n ≤ m ∧ codeN n e = true := by
  unfold checkT at h
  by_cases h1 : (nextT t).kind ≠ k
  · rw [if_pos h1] at h; simp at h
  · rw [if_neg h1] at h
    by_cases h2 : n < 0 ∨ m < n ∨ codeN n e = false
    · rw [if_pos h2] at h; simp at h
    · cases hc : codeN n e
      · exact absurd (.inr (.inr hc)) h2
      · exact ⟨Classical.not_not.1 h1, by omega, by omega, rfl⟩
theorem gotT_ok {t : TS} (h : TOk t) (p : List UInt8) (e : Int) : TOk (gotT t p e) := by
  unfold gotT
  split
  · rename_i hg
    obtain ⟨h1, _, h2, _⟩ := checkT_zero hg
    obtain ⟨_, hs, _, hl, hn⟩ := nextT_k1 h1
    rw [hn] at h2
    have h3 := h.sum
    have h4 := h.lr
    have hr := h.r0
    rw [hs] at h3
    dsimp only at h2
    simp at h3
    refine ⟨h.s1, h.s2, h.l1, h.l2, h.w0, by show t.wr + (p.length : Int) = t.rd + p.length; omega, ?_, ?_⟩
    · show (p.length : Int) ≤ t.stage
      split at h2 <;> omega
    · show t.limit = -1 ∨ t.rd + p.length ≤ t.limit
      split at h2 <;> omega
  · exact h
theorem wroteT_ok {t : TS} (h : TOk t) (n e : Int) : TOk (wroteT t n e) := by
  unfold wroteT
  split
  · rename_i hg
    obtain ⟨h1, h0, h2, _⟩ := checkT_zero hg
    obtain ⟨_, hs, hn⟩ := nextT_k2 h1
    rw [hn] at h2
    dsimp only at h2
    have h3 := h.sum
    have h4 := h.few
    have h5 := h.w0
    refine ⟨h.s1, h.s2, h.l1, h.l2, by show 0 ≤ t.wr + n; omega, ?_, ?_, h.lr⟩
    · show t.wr + n + ((t.s.drop n.toNat).length : Nat) = t.rd
      rw [List.length_drop]
      omega
    · show ((t.s.drop n.toNat).length : Nat) ≤ t.stage
      rw [List.length_drop]
      omega
  · exact h
end Go.Proofs.Ytodpkdbcdbdjfaa
