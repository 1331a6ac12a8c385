/-
  The theorem of stage 14 in plain words: what was read, what lies in the buffer and what is left of a write are what was begun. No program in sight.
-/
import Derived.Test.YtdoamelhclnphaaStMath
namespace Go.Proofs.Ytdoamelhclnphaa

theorem fill_e (m : SM) : (fillM m).q ++ (fillM m).rest = m.q ++ m.rest := by
  unfold fillM
  split
  · unfold pourM
    dsimp only
    rw [List.append_assoc, List.take_append_drop]
  · rfl
theorem fill_n (m : SM) : (fillM m).acc - (fillM m).q.length = m.acc - m.q.length := by
  unfold fillM
  split
  · unfold pourM
    dsimp only
    rw [List.length_append, List.length_take]
    omega
  · rfl
theorem fill_c (m : SM) : (fillM m).c = m.c := by unfold fillM; split <;> rfl
theorem fill_r (m : SM) : (fillM m).r = m.r := by unfold fillM; split <;> rfl
theorem fill_w (m : SM) : (fillM m).w = m.w := by unfold fillM; split <;> rfl
theorem fill_busy (m : SM) : (fillM m).busy = m.busy := by unfold fillM; split <;> rfl

structure HS (c : Int) (m : SM) (begun read : List UInt8) (fr : Int) : Prop where
  ok : SOk m
  c : m.c = c
  r : m.r = 0
  e : begun = read ++ (m.q ++ m.rest)
  n : fr + m.acc = read.length + m.q.length

theorem HS.new {c : Int} (h0 : 0 ≤ c) (h1 : c ≤ 4096) : HS c (newM c) [] [] 0 := ⟨newM_ok h0 h1, rfl, rfl, rfl, rfl⟩
section
variable {c : Int} {m : SM} {begun read : List UInt8} {fr : Int}
theorem HS.len (h : HS c m begun read fr) : (begun.length : Int) = read.length + m.q.length + m.rest.length := by
  rw [h.e, List.length_append, List.length_append]; omega
/-- What the law asks behind each call. -/
theorem HS.tail (h : HS c m begun read fr) : 0 ≤ m.acc ∧ fr + m.acc ≤ begun.length ∧ (read.length : Int) ≤ fr + m.acc ∧ begun.take read.length = read ∧ fr + m.acc - read.length ≤ c := by
  have hl := h.len
  have hn := h.n
  have hq := h.ok.q1
  have hc := h.c
  refine ⟨h.ok.a0, by omega, by omega, ?_, by omega⟩
  rw [h.e, List.take_append_of_le_length (Nat.le_refl _), List.take_length]
theorem HS.fr0 (h : HS c m begun read fr) (hf : 0 ≤ fr) : fr.toNat ≤ begun.length := by
  have hl := h.len
  have hn := h.n
  have ha := h.ok.a0
  omega
theorem HS.idle (h : HS c m begun read fr) (hb : m.busy = false) : fr = begun.length := by
  obtain ⟨h1, h2⟩ := h.ok.nb hb
  have hl := h.len
  have hn := h.n
  rw [h1, List.length_nil] at hl
  omega
theorem HS.begin_ (h : HS c m begun read fr) (hw : m.w = 0) (hb : m.busy = false) {x : List UInt8} (hx : x.length ≤ 65536) :
    HS c (beginM m x).m (begun ++ x) read fr ∧ (beginM m x).err = 0 ∧ ((x.length : Int) ≤ c - (fr - read.length) → (beginM m x).m.acc = x.length ∧ atEndM (beginM m x).m = true) := by
  have hok := beginM_ok h.ok hx
  have he : beginM m x = ⟨fillM { m with busy := true, rest := x, acc := 0 }, 0⟩ := by
    unfold beginM
    rw [if_neg (by rw [hw]; simp), if_neg (by rw [h.r]; simp), if_neg (by rw [hb]; simp)]
  obtain ⟨h1, h2⟩ := h.ok.nb hb
  have hE := h.e
  have hN := h.n
  rw [h1, List.append_nil] at hE
  rw [h2] at hN
  rw [he] at hok ⊢
  refine ⟨⟨hok, (fill_c _).trans h.c, (fill_r _).trans h.r, ?_, ?_⟩, rfl, fun hk => ?_⟩
  · dsimp only
    rw [fill_e]
    dsimp only
    rw [hE, List.append_assoc]
  · dsimp only
    have := fill_n { m with busy := true, rest := x, acc := 0 }
    dsimp only at this
    omega
  · have hfull : fillM { m with busy := true, rest := x, acc := 0 } = pourM { m with busy := true, rest := x, acc := 0 } := by
      unfold fillM
      rw [if_pos ⟨rfl, hw, h.r⟩]
    have hc := h.c
    dsimp only
    rw [hfull]
    unfold pourM atEndM roomM
    dsimp only
    have hle : x.length ≤ (m.c - (m.q.length : Int)).toNat := by omega
    rw [List.drop_eq_nil_of_le hle]
    exact ⟨by omega, by simp⟩
theorem HS.stop (h : HS c m begun read fr) : HS c (stopM m) (begun.take (fr + m.acc).toNat) read (fr + m.acc) := by
  have hN := h.n
  refine ⟨stopM_ok h.ok, h.c, h.r, ?_, ?_⟩
  · unfold stopM
    dsimp only
    rw [h.e, hN, List.append_nil]
    have : ((read.length : Int) + m.q.length).toNat = (read ++ m.q).length := by rw [List.length_append]; omega
    rw [this, ← List.append_assoc, List.take_append_of_le_length (Nat.le_refl _), List.take_length]
  · unfold stopM
    dsimp only
    omega
theorem HS.read_ (h : HS c m begun read fr) (n : Int) : HS c (readM m n).m begun (read ++ (readM m n).out) fr ∧ ((readM m n).err ≠ 0 → (readM m n).out = []) ∧ ((readM m n).out.length : Int) ≤ max 0 n := by
  have hok := readM_ok h.ok n
  have same : ∀ k : Int, readM m n = ⟨m, [], k⟩ → HS c (readM m n).m begun (read ++ (readM m n).out) fr ∧ ((readM m n).err ≠ 0 → (readM m n).out = []) ∧ ((readM m n).out.length : Int) ≤ max 0 n := fun k e => by
    rw [e]
    refine ⟨⟨h.ok, h.c, h.r, by dsimp only; rw [List.append_nil]; exact h.e, by dsimp only; rw [List.append_nil]; exact h.n⟩, fun _ => rfl, by dsimp only; simp; omega⟩
  have hE := h.e
  have hN := h.n
  by_cases h1 : n < 0 ∨ 65536 < n
  · exact same 2 (by unfold readM; rw [if_pos h1])
  by_cases h2 : m.r ≠ 0
  · exact same 14 (by unfold readM; rw [if_neg h1, if_pos h2])
  by_cases h3 : n = 0
  · exact same 0 (by unfold readM; rw [if_neg h1, if_neg h2, if_pos h3])
  by_cases h4 : m.q ≠ []
  · have e : readM m n = ⟨fillM { m with q := m.q.drop n.toNat }, m.q.take n.toNat, 0⟩ := by unfold readM; rw [if_neg h1, if_neg h2, if_neg h3, if_pos h4]
    rw [e] at hok ⊢
    refine ⟨⟨hok, (fill_c _).trans h.c, (fill_r _).trans h.r, ?_, ?_⟩, fun hh => absurd rfl hh, ?_⟩
    · dsimp only
      rw [fill_e]
      dsimp only
      rw [hE, List.append_assoc, ← List.append_assoc (m.q.take n.toNat), List.take_append_drop]
    · dsimp only
      have := fill_n { m with q := m.q.drop n.toNat }
      dsimp only at this
      rw [List.length_drop] at this
      rw [List.length_append, List.length_take]
      omega
    · dsimp only
      rw [List.length_take]; omega
  by_cases h5 : m.c = 0 ∧ m.busy = true ∧ m.w = 0 ∧ m.rest ≠ []
  · have e : readM m n = ⟨{ m with rest := m.rest.drop n.toNat, acc := m.acc + (min n.toNat m.rest.length : Nat) }, m.rest.take n.toNat, 0⟩ := by unfold readM; rw [if_neg h1, if_neg h2, if_neg h3, if_neg h4, if_pos h5]
    have hq : m.q = [] := Classical.not_not.1 h4
    rw [e] at hok ⊢
    rw [hq] at hE hN
    refine ⟨⟨hok, h.c, h.r, ?_, ?_⟩, fun hh => absurd rfl hh, ?_⟩
    · dsimp only
      rw [hq, hE, List.nil_append, List.nil_append, List.append_assoc, List.take_append_drop]
    · dsimp only
      rw [hq, List.length_append, List.length_take]
      simp only [List.length_nil] at hN ⊢
      omega
    · dsimp only
      rw [List.length_take]; omega
  by_cases h6 : m.w ≠ 0
  · exact same m.w (by unfold readM; rw [if_neg h1, if_neg h2, if_neg h3, if_neg h4, if_neg h5, if_pos h6])
  · exact same 16 (by unfold readM; rw [if_neg h1, if_neg h2, if_neg h3, if_neg h4, if_neg h5, if_neg h6])
theorem HS.closew (h : HS c m begun read fr) (x : Int) : HS c (closewM m x).m begun read fr := by
  have hok := closewM_ok h.ok x
  unfold closewM at hok ⊢
  split
  · exact h
  · split
    · exact h
    · rename_i h1 h2
      rw [if_neg h1, if_neg h2] at hok
      exact ⟨hok, h.c, h.r, h.e, h.n⟩
end
end Go.Proofs.Ytdoamelhclnphaa
