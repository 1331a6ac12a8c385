/-
  Law 14, StreamKinds: what a stream of layer 12, or one of layer 13, holds beside an open stream of layer 14. No program in sight.
-/
import Derived.Test.YtdoamelhclnphaaStHoldL
import Derived.Test.YtdoamelhclnphaaFlAt
namespace Go.Proofs.Ytdoamelhclnphaa
open Go.RowKit

/-- An open stream of a capacity. -/
structure OpK (c : Nat) (m : SM) : Prop where
  ok : SOk m
  cp : m.c = c
  w : m.w = 0
  r : m.r = 0
section
variable {c : Nat} {m : SM}
theorem OpK.new (hc : c ≤ 4096) : OpK c (newM c) := ⟨newM_ok (by omega) (by omega), rfl, rfl, rfl⟩
theorem OpK.idle (h : OpK c m) (hb : m.busy = false) : m.rest = [] := (h.ok.nb hb).1
theorem OpK.atEnd (h : OpK c m) (hb : m.busy = true) : atEndM m = m.rest.isEmpty := by
  unfold atEndM opM
  rw [hb, h.w, h.r]
  simp
theorem OpK.end_ (h : OpK c m) (hb : m.busy = true) (he : m.rest = []) : endM m = ⟨stopM m, m.acc, 0⟩ ∧ OpK c (stopM m) := by
  refine ⟨?_, stopM_ok h.ok, h.cp, h.w, h.r⟩
  unfold endM howM
  rw [if_neg (by rw [hb]; simp), if_neg (by rw [h.atEnd hb, he]; simp), if_pos he]
theorem OpK.room (h : OpK c m) : roomM m = c - m.q.length := by
  unfold roomM
  rw [h.cp]
  omega
theorem OpK.q_le (h : OpK c m) : m.q.length ≤ c := by
  have h1 := h.ok.q1
  rw [h.cp] at h1
  omega
theorem OpK.begin_ (h : OpK c m) (hb : m.busy = false) {x : List UInt8} (hx : x.length ≤ 65536) :
    (beginM m x).err = 0 ∧ OpK c (beginM m x).m ∧ (beginM m x).m.busy = true ∧ (beginM m x).m.q = m.q ++ x.take (c - m.q.length) ∧ (beginM m x).m.rest = x.drop (c - m.q.length) := by
  have hok := beginM_ok h.ok hx
  have e : beginM m x = ⟨pourM { m with busy := true, rest := x, acc := 0 }, 0⟩ := by
    unfold beginM fillM
    rw [if_neg (by simpa using h.w), if_neg (by simpa using h.r), if_neg (by rw [hb]; simp), if_pos ⟨rfl, h.w, h.r⟩]
  rw [e] at hok ⊢
  have hr : roomM { m with busy := true, rest := x, acc := 0 } = c - m.q.length := h.room
  refine ⟨rfl, ⟨hok, h.cp, h.w, h.r⟩, rfl, ?_, ?_⟩
  · unfold pourM
    rw [hr]
  · unfold pourM
    rw [hr]
/-- A read, with no capacity: layer 12 gives the same. -/
theorem OpK.read0 (h : OpK 0 m) {k : Int} (h1 : 1 ≤ k) (h2 : k ≤ 255) (tk : Nat) :
    OpK 0 (readM m k).m ∧ (readM m k).m.busy = m.busy ∧ (mTake ⟨0, 0, m.busy, m.rest, tk⟩ k).out = (readM m k).out ∧ (mTake ⟨0, 0, m.busy, m.rest, tk⟩ k).err = (readM m k).err ∧ ∃ tk', (mTake ⟨0, 0, m.busy, m.rest, tk⟩ k).m = ⟨0, 0, m.busy, (readM m k).m.rest, tk'⟩ := by
  have hok := readM_ok h.ok k
  have hq : m.q = [] := by have := h.q_le; exact List.length_eq_zero_iff.1 (by omega)
  by_cases hr : m.rest = []
  · have e1 : readM m k = ⟨m, [], 16⟩ := by
      unfold readM
      rw [if_neg (by omega), if_neg (by simpa using h.r), if_neg (by omega), if_neg (by simpa using hq), if_neg (fun hh => hh.2.2.2 hr), if_neg (by simpa using h.w)]
    have e2 : mTake ⟨0, 0, m.busy, m.rest, tk⟩ k = ⟨⟨0, 0, m.busy, m.rest, tk⟩, [], 16⟩ := by
      unfold mTake
      rw [if_neg (by omega), if_neg (by omega), if_neg (by simp), if_neg (by simp), if_pos hr]
    rw [e1, e2]
    exact ⟨h, rfl, rfl, rfl, tk, rfl⟩
  · have hb : m.busy = true := by
      cases hb : m.busy with
      | true => rfl
      | false => exact absurd (h.idle hb) hr
    have e1 : readM m k = ⟨{ m with rest := m.rest.drop k.toNat, acc := m.acc + (min k.toNat m.rest.length : Nat) }, m.rest.take k.toNat, 0⟩ := by
      unfold readM
      rw [if_neg (by omega), if_neg (by simpa using h.r), if_neg (by omega), if_neg (by simpa using hq), if_pos ⟨h.cp, hb, h.w, hr⟩]
    have e2 : mTake ⟨0, 0, m.busy, m.rest, tk⟩ k = ⟨⟨0, 0, m.busy, m.rest.drop k.toNat, tk + (m.rest.take k.toNat).length⟩, m.rest.take k.toNat, 0⟩ := by
      unfold mTake
      rw [if_neg (by omega), if_neg (by omega), if_neg (by simp), if_neg (by simp), if_neg hr]
    rw [e1] at hok ⊢
    rw [e2]
    exact ⟨⟨hok, h.cp, h.w, h.r⟩, rfl, rfl, rfl, _, rfl⟩
/-- A read, with a capacity: layer 13 gives the same, and what comes after it. -/
theorem OpK.read1 (h : OpK c m) (hc : 1 ≤ c) {k : Int} (h1 : 1 ≤ k) (h2 : k ≤ 255) :
    OpK c (readM m k).m ∧ (readM m k).m.busy = m.busy ∧ (fRead ⟨c, m.q, 0, 0⟩ k).out = (readM m k).out ∧ (fRead ⟨c, m.q, 0, 0⟩ k).err = (readM m k).err ∧
      ∃ s, (fRead ⟨c, m.q, 0, 0⟩ k).m = ⟨c, s, 0, 0⟩ ∧ s.length ≤ c ∧ (readM m k).m.q = s ++ m.rest.take (c - s.length) ∧ (readM m k).m.rest = m.rest.drop (c - s.length) := by
  have hok := readM_ok h.ok k
  have hql := h.q_le
  by_cases hq : m.q = []
  · have hrest : m.rest = [] := by
      cases hb : m.busy with
      | false => exact h.idle hb
      | true =>
        rcases h.ok.full hb h.w h.r with hh | hh
        · exact hh
        · rw [hq, h.cp] at hh
          simp at hh
          omega
    have e1 : readM m k = ⟨m, [], 16⟩ := by
      unfold readM
      rw [if_neg (by omega), if_neg (by simpa using h.r), if_neg (by omega), if_neg (by simpa using hq), if_neg (fun hh => hh.2.2.2 hrest), if_neg (by simpa using h.w)]
    have e2 : fRead ⟨c, m.q, 0, 0⟩ k = ⟨⟨c, m.q, 0, 0⟩, [], 16⟩ := by
      unfold fRead
      rw [if_neg (by omega), if_neg (by omega), if_neg (by simp), if_neg (by simpa using hq), if_neg (by simp)]
    rw [e1, e2]
    refine ⟨h, rfl, rfl, rfl, m.q, rfl, hql, ?_, ?_⟩
    · rw [hrest]; simp
    · rw [hrest]; simp
  · have e1 : readM m k = ⟨fillM { m with q := m.q.drop k.toNat }, m.q.take k.toNat, 0⟩ := by
      unfold readM
      rw [if_neg (by omega), if_neg (by simpa using h.r), if_neg (by omega), if_pos hq]
    have e2 : fRead ⟨c, m.q, 0, 0⟩ k = ⟨⟨c, m.q.drop k.toNat, 0, 0⟩, m.q.take k.toNat, 0⟩ := by
      unfold fRead
      rw [if_neg (by omega), if_neg (by omega), if_neg (by simp), if_pos hq]
    rw [e1] at hok ⊢
    rw [e2]
    have hr : roomM { m with q := m.q.drop k.toNat } = c - (m.q.drop k.toNat).length := by
      unfold roomM
      rw [h.cp]
      dsimp only
      omega
    refine ⟨⟨hok, (fill_c _).trans h.cp, (fill_w _).trans h.w, (fill_r _).trans h.r⟩, fill_busy _, rfl, rfl, m.q.drop k.toNat, rfl, ?_, ?_, ?_⟩
    · rw [List.length_drop]; omega
    · unfold fillM
      split
      · unfold pourM
        rw [hr]
      · rename_i hn
        have hb : m.busy = false := by
          cases hb : m.busy with
          | false => rfl
          | true => exact absurd ⟨hb, h.w, h.r⟩ hn
        rw [h.idle hb]
        simp
    · unfold fillM
      split
      · unfold pourM
        rw [hr]
      · rename_i hn
        have hb : m.busy = false := by
          cases hb : m.busy with
          | false => rfl
          | true => exact absurd ⟨hb, h.w, h.r⟩ hn
        rw [h.idle hb]
        simp
end
end Go.Proofs.Ytdoamelhclnphaa
