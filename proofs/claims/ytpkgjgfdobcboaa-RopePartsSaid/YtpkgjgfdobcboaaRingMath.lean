/-
  Plain lists: what a ring buffer holds, and what writing, skipping and looking make of it.
-/
import Derived.Test.YtpkgjgfdobcboaaBytes
namespace Go.Proofs.Ytpkgjgfdobcboaa

/-- The place of the i-th byte. -/
def idx (c f i : Nat) : Nat := if f + i < c then f + i else f + i - c
/-- The bytes that a ring holds: n of them from place f on. -/
def ringQ (bs : List Int) (f n : Nat) : List Int := (List.range n).map fun i => bs.getD (idx bs.length f i) 0

theorem ringQ_length (bs : List Int) (f n : Nat) : (ringQ bs f n).length = n := by simp [ringQ]
theorem ringQ_getD (bs : List Int) (f n i : Nat) (h : i < n) : (ringQ bs f n).getD i 0 = bs.getD (idx bs.length f i) 0 := by
  simp [ringQ, List.getD, h]

theorem ext_getD {L M : List Int} (hl : L.length = M.length) (h : ∀ i, i < L.length → L.getD i 0 = M.getD i 0) : L = M := by
  apply List.ext_getElem hl
  intro i h1 h2
  have := h i h1
  simpa [List.getD, h1, h2] using this

theorem getD_append (L M : List Int) (i : Nat) : (L ++ M).getD i 0 = if i < L.length then L.getD i 0 else M.getD (i - L.length) 0 := by
  simp only [List.getD, List.getElem?_append]
  split <;> rfl
theorem getD_take (L : List Int) (k i : Nat) (h : i < k) : (L.take k).getD i 0 = L.getD i 0 := by
  simp [List.getD, h]
theorem getD_drop (L : List Int) (k i : Nat) : (L.drop k).getD i 0 = L.getD (k + i) 0 := by
  simp [List.getD, List.getElem?_drop]

theorem mod_idx {c f i : Nat} (hf : f < c) (hi : i < c) : (f + i) % c = idx c f i := by
  unfold idx
  split
  · exact Nat.mod_eq_of_lt ‹_›
  · rw [Nat.mod_eq_sub_mod (by omega)]; exact Nat.mod_eq_of_lt (by omega)

theorem ringQ_write {bs X : List Int} {c f n k k1 k2 a : Nat} (hc : bs.length = c) (hf : f < c) (hX : X.length = k) (hk : n + k ≤ c) (hk12 : k1 + k2 = k) (ha : 0 < k → a = idx c f n) (h1 : a + k1 ≤ c) (h2 : 0 < k2 → a + k1 = c) :
    ringQ (splice (splice bs a (X.take k1)) 0 (X.drop k1)) f (n + k) = ringQ bs f n ++ X := by
  have e1 : (X.take k1).length = k1 := by simp; omega
  have e2 : (X.drop k1).length = k2 := by simp; omega
  have l1 : (splice bs a (X.take k1)).length = c := by rw [length_splice _ _ _ (by omega)]; exact hc
  have l2 : (splice (splice bs a (X.take k1)) 0 (X.drop k1)).length = c := by
    rw [length_splice _ _ _ (by rw [l1, e2]; omega)]; exact l1
  apply ext_getD
  · simp [ringQ_length, hX]
  · intro i hi
    rw [ringQ_length] at hi
    rw [ringQ_getD _ _ _ _ hi, l2, getD_append, ringQ_length, splice_getD _ _ _ _ (by rw [l1, e2]; omega), splice_getD _ _ _ _ (by rw [hc, e1]; omega), e1, e2]
    have hid : idx c f i = if f + i < c then f + i else f + i - c := rfl
    have hia : idx c f n = if f + n < c then f + n else f + n - c := rfl
    by_cases hin : i < n
    · rw [if_pos hin, ringQ_getD _ _ _ _ hin, hc]
      by_cases hk0 : 0 < k
      · have ha' := ha hk0
        rw [if_neg (by split at hid <;> split at hia <;> omega), if_neg (by split at hid <;> split at hia <;> omega)]
      · rw [if_neg (by omega), if_neg (by omega)]
    · rw [if_neg hin]
      have ha' := ha (by omega)
      by_cases hz : idx c f i < k2
      · rw [if_pos (by omega), getD_drop]
        congr 1
        have := h2 (by omega)
        split at hid <;> split at hia <;> omega
      · rw [if_neg (by omega), if_pos (by split at hid <;> split at hia <;> omega), getD_take _ _ _ (by split at hid <;> split at hia <;> omega)]
        congr 1
        split at hid <;> split at hia <;> omega

theorem ringQ_skip {bs : List Int} {c f n k k1 k2 a : Nat} (hc : bs.length = c) (hf : f < c) (hn : n ≤ c) (hk : k ≤ n) (hk12 : k1 + k2 = k) (ha : 0 < k → a = f) (h1 : a + k1 ≤ c) (h2 : 0 < k2 → a + k1 = c) :
    ringQ (splice (splice bs a (List.replicate k1 0)) 0 (List.replicate k2 0)) ((f + k) % c) (n - k) = (ringQ bs f n).drop k := by
  have e1 : (List.replicate k1 (0 : Int)).length = k1 := by simp
  have e2 : (List.replicate k2 (0 : Int)).length = k2 := by simp
  have l1 : (splice bs a (List.replicate k1 0)).length = c := by rw [length_splice _ _ _ (by omega)]; exact hc
  have l2 : (splice (splice bs a (List.replicate k1 0)) 0 (List.replicate k2 0)).length = c := by
    rw [length_splice _ _ _ (by rw [l1, e2]; omega)]; exact l1
  apply ext_getD
  · simp [ringQ_length]
  · intro i hi
    rw [ringQ_length] at hi
    rw [ringQ_getD _ _ _ _ hi, l2, getD_drop, ringQ_getD _ _ _ _ (by omega), hc, splice_getD _ _ _ _ (by rw [l1, e2]; omega), splice_getD _ _ _ _ (by rw [hc, e1]; omega), e1, e2]
    have hm : (f + k) % c = idx c f k := mod_idx hf (by omega)
    rw [hm]
    have h0 : idx c f k = if f + k < c then f + k else f + k - c := rfl
    have h3 : idx c (idx c f k) i = if idx c f k + i < c then idx c f k + i else idx c f k + i - c := rfl
    have h4 : idx c f (k + i) = if f + (k + i) < c then f + (k + i) else f + (k + i) - c := rfl
    have e : idx c (idx c f k) i = idx c f (k + i) := by split at h0 <;> split at h3 <;> split at h4 <;> omega
    rw [e]
    by_cases hk0 : 0 < k
    · have ha' := ha hk0
      rw [if_neg (by split at h4 <;> omega), if_neg (by split at h4 <;> omega)]
    · rw [if_neg (by omega), if_neg (by omega)]

/-- What is looked at: the places from the offset on. -/
theorem ringQ_peek {bs : List Int} {c f n off m k1 k2 a : Nat} (hc : bs.length = c) (hf : f < c) (hn : n ≤ c) (hm : off + m ≤ n) (hk12 : k1 + k2 = m) (ha : 0 < m → a = idx c f off) (h1 : a + k1 ≤ c) (h2 : 0 < k2 → a + k1 = c) :
    (bs.drop a).take k1 ++ bs.take k2 = ((ringQ bs f n).drop off).take m := by
  have l1 : ((bs.drop a).take k1).length = k1 := by simp; omega
  have l2 : (bs.take k2).length = k2 := by
    simp
    by_cases h : 0 < k2
    · have := h2 h; omega
    · omega
  apply ext_getD
  · simp [ringQ_length, l1]; omega
  · intro i hi
    rw [List.length_append, l1, l2] at hi
    rw [getD_append, l1, getD_take ((ringQ bs f n).drop off) m i (by omega), getD_drop (ringQ bs f n), ringQ_getD _ _ _ _ (by omega), hc]
    have ha' := ha (by omega)
    have h3 : idx c f off = if f + off < c then f + off else f + off - c := rfl
    have h4 : idx c f (off + i) = if f + (off + i) < c then f + (off + i) else f + (off + i) - c := rfl
    by_cases hi1 : i < k1
    · rw [if_pos hi1, getD_take _ _ _ hi1, getD_drop]
      congr 1
      split at h3 <;> split at h4 <;> omega
    · rw [if_neg hi1, getD_take _ _ _ (by omega)]
      have := h2 (by omega)
      congr 1
      split at h3 <;> split at h4 <;> omega
theorem splice_take {bs X : List Int} {a c : Nat} (hc : c ≤ bs.length) (h : a + X.length ≤ c) : (splice bs a X).take c = splice (bs.take c) a X := by
  apply ext_getD
  · rw [List.length_take, length_splice _ _ _ (by omega), length_splice _ _ _ (by rw [List.length_take]; omega), List.length_take]
  · intro i hi
    rw [List.length_take, length_splice _ _ _ (by omega)] at hi
    rw [getD_take _ _ _ (by omega), splice_getD _ _ _ _ (by omega), splice_getD _ _ _ _ (by rw [List.length_take]; omega)]
    split
    · rfl
    · exact (getD_take _ _ _ (by omega)).symm
end Go.Proofs.Ytpkgjgfdobcboaa
