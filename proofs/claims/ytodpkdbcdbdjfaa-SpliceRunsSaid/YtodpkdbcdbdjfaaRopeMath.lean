/-
  Plain lists of parts: what New keeps, and where Take cuts.
-/
import Derived.Test.YtodpkdbcdbdjfaaSteps
namespace Go.Proofs.Ytodpkdbcdbdjfaa

abbrev Parts := List (List UInt8)

/-- The first n bytes, and the rest, as parts. -/
def cutF : Parts → Nat → Parts
  | [], _ => []
  | p :: P, n => if n = 0 then [] else if p.length ≤ n then p :: cutF P (n - p.length) else [p.take n]
def cutR : Parts → Nat → Parts
  | [], _ => []
  | p :: P, n => if p.length ≤ n then cutR P (n - p.length) else p.drop n :: P

def Full (P : Parts) : Prop := ∀ p ∈ P, 0 < p.length

theorem Full.tail {p : List UInt8} {P : Parts} (h : Full (p :: P)) : Full P := fun q hq => h q (by simp [hq])
theorem Full.head {p : List UInt8} {P : Parts} (h : Full (p :: P)) : 0 < p.length := h p (by simp)
theorem Full.append {P Q : Parts} (h : Full P) (k : Full Q) : Full (P ++ Q) := fun p hp => (List.mem_append.1 hp).elim (h p) (k p)
theorem Full.take {P : Parts} (h : Full P) (n : Nat) : Full (P.take n) := fun p hp => h p (List.mem_of_mem_take hp)
theorem Full.drop {P : Parts} (h : Full P) (n : Nat) : Full (P.drop n) := fun p hp => h p (List.mem_of_mem_drop hp)

theorem cutF_flat : ∀ (P : Parts) (n : Nat), (cutF P n).flatten = P.flatten.take n
  | [], n => by simp [cutF]
  | p :: P, n => by
    unfold cutF
    by_cases h0 : n = 0
    · simp [h0]
    · rw [if_neg h0]
      by_cases h : p.length ≤ n
      · rw [if_pos h, List.flatten_cons, cutF_flat P, List.flatten_cons, List.take_append, List.take_of_length_le h]
      · rw [if_neg h]
        simp only [List.flatten_cons]
        rw [List.take_append_of_le_length (by omega)]
        simp
theorem cutR_flat : ∀ (P : Parts) (n : Nat), (cutR P n).flatten = P.flatten.drop n
  | [], n => by simp [cutR]
  | p :: P, n => by
    unfold cutR
    by_cases h : p.length ≤ n
    · rw [if_pos h, cutR_flat P, List.flatten_cons, List.drop_append, List.drop_eq_nil_of_le h, List.nil_append]
    · rw [if_neg h, List.flatten_cons, List.flatten_cons, List.drop_append_of_le_length (by omega)]
theorem cutF_full : ∀ (P : Parts) (n : Nat), Full P → Full (cutF P n)
  | [], n, _ => by simp [cutF, Full]
  | p :: P, n, h => by
    unfold cutF
    by_cases h0 : n = 0
    · simp [h0, Full]
    · rw [if_neg h0]
      by_cases h1 : p.length ≤ n
      · rw [if_pos h1]
        intro q hq
        rcases List.mem_cons.1 hq with rfl | hq
        · exact h.head
        · exact cutF_full P _ h.tail q hq
      · rw [if_neg h1]
        intro q hq
        rcases List.mem_singleton.1 hq with rfl
        simp; omega
theorem cutR_full : ∀ (P : Parts) (n : Nat), Full P → Full (cutR P n)
  | [], n, _ => by simp [cutR, Full]
  | p :: P, n, h => by
    unfold cutR
    by_cases h1 : p.length ≤ n
    · rw [if_pos h1]; exact cutR_full P _ h.tail
    · rw [if_neg h1]
      intro q hq
      rcases List.mem_cons.1 hq with rfl | hq
      · simp; omega
      · exact h.tail q hq
theorem cutF_length : ∀ (P : Parts) (n : Nat), (cutF P n).length ≤ P.length
  | [], n => by simp [cutF]
  | p :: P, n => by
    unfold cutF
    have := cutF_length P (n - p.length)
    split
    · simp
    · split <;> simp <;> omega
theorem cutR_length : ∀ (P : Parts) (n : Nat), (cutR P n).length ≤ P.length
  | [], n => by simp [cutR]
  | p :: P, n => by
    unfold cutR
    have := cutR_length P (n - p.length)
    split <;> simp <;> omega
/-- All of it. -/
theorem cutF_all : ∀ (P : Parts) (n : Nat), Full P → P.flatten.length ≤ n → cutF P n = P
  | [], n, _, _ => by simp [cutF]
  | p :: P, n, h, hn => by
    unfold cutF
    have hp := h.head
    rw [List.flatten_cons, List.length_append] at hn
    rw [if_neg (by omega), if_pos (by omega), cutF_all P _ h.tail (by omega)]
theorem cutR_all : ∀ (P : Parts) (n : Nat), P.flatten.length ≤ n → cutR P n = []
  | [], n, _ => by simp [cutR]
  | p :: P, n, hn => by
    unfold cutR
    rw [List.flatten_cons, List.length_append] at hn
    rw [if_pos (by omega), cutR_all P _ (by omega)]

/-- Where the loop of Take stands: i parts are behind, left bytes are wanted still. -/
theorem cut_at : ∀ (P : Parts) (n i left : Nat), i ≤ P.length → (P.take i).flatten.length + left = n → Full P →
    cutF P n = P.take i ++ cutF (P.drop i) left ∧ cutR P n = cutR (P.drop i) left
  | P, n, 0, left, _, h, _ => by
    have : left = n := by simpa using h
    subst this
    exact ⟨by simp, by simp⟩
  | [], n, i + 1, left, h, _, _ => by simp at h
  | p :: P, n, i + 1, left, hi, h, hf => by
    have hp := hf.head
    rw [List.take_succ_cons, List.flatten_cons, List.length_append] at h
    have ih := cut_at P (n - p.length) i left (by simpa using hi) (by omega) hf.tail
    constructor
    · rw [cutF, if_neg (by omega), if_pos (by omega), ih.1]; rfl
    · rw [cutR, if_pos (by omega), ih.2]; rfl
/-- Where the loop ends: the part at i is longer than what is wanted still. -/
theorem cut_end {P : Parts} {n i left : Nat} (hi : i < P.length) (h : (P.take i).flatten.length + left = n) (hf : Full P) (hl : left < P[i].length) :
    cutF P n = P.take i ++ (if left = 0 then [] else [P[i].take left]) ∧ cutR P n = (P[i].drop left) :: P.drop (i + 1) := by
  obtain ⟨h1, h2⟩ := cut_at P n i left (by omega) h hf
  rw [h1, h2, List.drop_eq_getElem_cons hi]
  constructor
  · rw [cutF]
    by_cases h0 : left = 0
    · rw [if_pos h0, if_pos h0]
    · rw [if_neg h0, if_neg (by omega), if_neg h0]
  · rw [cutR, if_neg (by omega)]

/-- What New makes of some parts: those that are not empty. -/
def own (P : Parts) : Parts := P.filter (fun p => decide (0 < p.length))
theorem own_full (P : Parts) : Full (own P) := fun p hp => by simpa using (List.mem_filter.1 hp).2
theorem own_flat : ∀ (P : Parts), (own P).flatten = P.flatten
  | [] => rfl
  | p :: P => by
    unfold own
    by_cases h : 0 < p.length
    · rw [List.filter_cons_of_pos (by simpa using h), List.flatten_cons, List.flatten_cons]
      exact congrArg (p ++ ·) (own_flat P)
    · obtain rfl : p = [] := List.eq_nil_of_length_eq_zero (by omega)
      rw [List.filter_cons_of_neg (by simp), List.flatten_cons, List.nil_append]
      exact own_flat P
/-- What New's loop has gathered behind k parts. -/
def gath (P : Parts) (k : Nat) : Parts := (own ((P.take k).map fun p => p.take 65537)).take 1025
theorem gath_zero (P : Parts) : gath P 0 = [] := rfl
theorem gath_succ {P : Parts} {k : Nat} (hk : k < P.length) : gath P (k + 1) = if 0 < (P[k].take 65537).length ∧ (gath P k).length ≤ 1024 then gath P k ++ [P[k].take 65537] else gath P k := by
  unfold gath
  rw [List.take_succ_eq_append_getElem hk, List.map_append, List.map_singleton]
  unfold own
  rw [List.filter_append]
  by_cases h0 : 0 < (P[k].take 65537).length
  · rw [List.filter_cons_of_pos (by simpa using h0), List.filter_nil, List.take_append]
    by_cases h1 : (List.take 1025 (List.filter (fun p => decide (0 < p.length)) (List.map (fun p => List.take 65537 p) (List.take k P)))).length ≤ 1024
    · rw [if_pos ⟨h0, h1⟩]
      rw [List.length_take] at h1
      congr 1
      exact List.take_of_length_le (by rw [List.length_singleton]; omega)
    · rw [if_neg (fun h => h1 h.2)]
      rw [List.length_take] at h1
      rw [show 1025 - (List.filter (fun p => decide (0 < p.length)) (List.map (fun p => List.take 65537 p) (List.take k P))).length = 0 from by omega]
      simp
  · rw [List.filter_cons_of_neg (by simpa using h0), List.filter_nil, List.append_nil, if_neg (fun h => h0 h.1)]
theorem gath_len (P : Parts) (k : Nat) : (gath P k).length ≤ 1025 := by unfold gath; rw [List.length_take]; omega
theorem gath_full (P : Parts) (k : Nat) : Full (gath P k) := (own_full _).take _
theorem gath_part (P : Parts) (k : Nat) : ∀ p ∈ gath P k, p.length ≤ 65537 := fun p hp => by
  have h1 := (List.mem_filter.1 (List.mem_of_mem_take hp)).1
  obtain ⟨q, _, rfl⟩ := List.mem_map.1 h1
  simp; omega

/-- The three ways that New ends. -/
theorem length_own_cut : ∀ (P : Parts), (own (P.map fun p => p.take 65537)).length = (own P).length
  | [] => rfl
  | p :: P => by
    have ih := length_own_cut P
    unfold own at ih ⊢
    rw [List.map_cons]
    by_cases h : 0 < p.length
    · have h' : 0 < (p.take 65537).length := by rw [List.length_take]; omega
      rw [List.filter_cons_of_pos (by simpa using h'), List.filter_cons_of_pos (by simpa using h), List.length_cons, List.length_cons, ih]
    · have h' : ¬ 0 < (p.take 65537).length := by rw [List.length_take]; omega
      rw [List.filter_cons_of_neg (by simpa using h'), List.filter_cons_of_neg (by simpa using h), ih]
theorem gath_many (P : Parts) : 1024 < (gath P P.length).length ↔ 1024 < (own P).length := by
  unfold gath
  rw [List.take_length, List.length_take, length_own_cut]
  omega
theorem flat_cut_le : ∀ (P : Parts), (P.map fun p => p.take 65537).flatten.length ≤ 65536 → P.map (fun p => p.take 65537) = P
  | [], _ => rfl
  | p :: P, h => by
    rw [List.map_cons, List.flatten_cons, List.length_append, List.length_take] at h
    rw [List.map_cons, flat_cut_le P (by omega), List.take_of_length_le (by omega)]
theorem flat_cut_len : ∀ (P : Parts), (P.map fun p => p.take 65537).flatten.length ≤ P.flatten.length
  | [] => by simp
  | p :: P => by
    have := flat_cut_len P
    rw [List.map_cons, List.flatten_cons, List.flatten_cons, List.length_append, List.length_append, List.length_take]
    omega
theorem gath_flat {P : Parts} (h : (own P).length ≤ 1024) : (gath P P.length).flatten.length ≤ 65536 ↔ P.flatten.length ≤ 65536 := by
  have e : gath P P.length = own (P.map fun p => p.take 65537) := by
    unfold gath
    rw [List.take_length, List.take_of_length_le (by rw [length_own_cut]; omega)]
  rw [e, own_flat]
  constructor
  · intro k
    rwa [flat_cut_le P k] at k
  · intro k
    exact Nat.le_trans (flat_cut_len P) k
theorem gath_own {P : Parts} (h : (own P).length ≤ 1024) (k : P.flatten.length ≤ 65536) : gath P P.length = own P := by
  have k' : (P.map fun p => p.take 65537).flatten.length ≤ 65536 := Nat.le_trans (flat_cut_len P) k
  unfold gath
  rw [List.take_length, flat_cut_le P k', List.take_of_length_le (by omega)]

/-- The number of bytes of all parts. -/
def tot (P : Parts) : Nat := P.flatten.length
theorem tot_eq (P : Parts) : tot P = P.flatten.length := rfl
theorem tot_take_succ {P : Parts} {k : Nat} (h : k < P.length) : tot (P.take (k + 1)) = tot (P.take k) + P[k].length := by
  unfold tot
  rw [List.take_succ_eq_append_getElem h, List.flatten_append, List.length_append]
  simp
theorem tot_take_le (P : Parts) (k : Nat) : tot (P.take k) ≤ tot P := by
  unfold tot
  conv => rhs; rw [← List.take_append_drop k P, List.flatten_append, List.length_append]
  omega
theorem tot_append (P Q : Parts) : tot (P ++ Q) = tot P + tot Q := by simp [tot]
theorem tot_cons (p : List UInt8) (Q : Parts) : tot (p :: Q) = p.length + tot Q := by simp [tot]
theorem flat_take_succ {P : Parts} {k : Nat} (h : k < P.length) : (P.take (k + 1)).flatten.length = (P.take k).flatten.length + P[k].length := by
  rw [List.take_succ_eq_append_getElem h, List.flatten_append, List.length_append]
  simp
theorem flat_take_le (P : Parts) (k : Nat) : (P.take k).flatten.length ≤ P.flatten.length := by
  conv => rhs; rw [← List.take_append_drop k P, List.flatten_append, List.length_append]
  omega
end Go.Proofs.Ytodpkdbcdbdjfaa
