/-
  The theorem of stage 15 in plain words: of each direction what was begun and what was read, and what was closed. No program in sight.
-/
import Derived.Test.YtdoamelhclnphaaStHoldL
namespace Go.Proofs.Ytdoamelhclnphaa

/-- One direction: what was begun, what was read of it, and where the last write begins. -/
structure HY (m : SM) (begun read : List UInt8) (fr : Int) : Prop where
  ok : SOk m
  w : m.w = 0 ∨ m.w = 13
  r : m.r = 0 ∨ m.r = 14
  f0 : 0 ≤ fr
  le : fr + m.acc ≤ begun.length
  rl : (read.length : Int) ≤ fr + m.acc
  p : begun.take read.length = read
  e : m.r = 0 → begun.take (fr + m.acc).toNat = read ++ m.q
  b : m.r = 0 → m.busy = true → begun = read ++ (m.q ++ m.rest)

theorem HY.new {c : Int} (h0 : 0 ≤ c) (h1 : c ≤ 4096) : HY (newM c) [] [] 0 := ⟨newM_ok h0 h1, .inl rfl, .inl rfl, Int.le_refl _, by simp [newM], by simp [newM], rfl, fun _ => by simp [newM], fun _ h => by simp [newM] at h⟩
section
variable {m : SM} {begun read x : List UInt8} {fr : Int}
theorem HY.n (h : HY m begun read fr) (hr : m.r = 0) : fr + m.acc = read.length + m.q.length := by
  have h1 := congrArg List.length (h.e hr)
  have h2 := h.le
  have h3 := h.f0
  have h4 := h.ok.a0
  rw [List.length_take, List.length_append] at h1
  omega
/-- What holds of a direction whose bytes are all there. -/
theorem HY.of (ok : SOk m) (w : m.w = 0 ∨ m.w = 13) (r : m.r = 0) (f0 : 0 ≤ fr) (n : fr + m.acc = read.length + m.q.length) (he : begun = read ++ (m.q ++ m.rest)) : HY m begun read fr := by
  have hl : (begun.length : Int) = read.length + m.q.length + m.rest.length := by rw [he, List.length_append, List.length_append]; omega
  refine ⟨ok, w, .inl r, f0, by omega, by omega, ?_, fun _ => ?_, fun _ _ => he⟩
  · rw [he, List.take_append_of_le_length (Nat.le_refl _), List.take_length]
  · have : (fr + m.acc).toNat = (read ++ m.q).length := by rw [List.length_append]; omega
    rw [this, he, ← List.append_assoc, List.take_append_of_le_length (Nat.le_refl _), List.take_length]
theorem HY.begin_ (h : HY m begun read fr) (he : (beginM m x).err = 0) (hx : x.length ≤ 65536) : HY (beginM m x).m (begun.take fr.toNat ++ x) read fr ∧ m.busy = false ∧ (beginM m x).m.busy = true := by
  have hok := beginM_ok h.ok hx
  unfold beginM at he
  by_cases hw : m.w ≠ 0
  · rw [if_pos hw] at he; simp at he
  by_cases hr : m.r ≠ 0
  · rw [if_neg hw, if_pos hr] at he; exact absurd he hr
  by_cases hb : m.busy = true
  · rw [if_neg hw, if_neg hr, if_pos hb] at he; simp at he
  have hE : beginM m x = ⟨fillM { m with busy := true, rest := x, acc := 0 }, 0⟩ := by
    unfold beginM
    rw [if_neg hw, if_neg hr, if_neg hb]
  have hw0 : m.w = 0 := Classical.not_not.1 hw
  have hr0 : m.r = 0 := Classical.not_not.1 hr
  have hb0 : m.busy = false := by simpa using hb
  obtain ⟨h1, h2⟩ := h.ok.nb hb0
  have hN := h.n hr0
  have hT := h.e hr0
  rw [h2, Int.add_zero] at hN hT
  rw [hE] at hok ⊢
  refine ⟨HY.of hok (.inl ((fill_w _).trans hw0)) ((fill_r _).trans hr0) h.f0 ?_ ?_, hb0, fill_busy _⟩
  · dsimp only
    have := fill_n { m with busy := true, rest := x, acc := 0 }
    dsimp only at this
    omega
  · dsimp only
    rw [fill_e]
    dsimp only
    rw [hT, List.append_assoc]
theorem HY.begin_no (h : HY m begun read fr) (he : (beginM m x).err ≠ 0) : (beginM m x).m = m ∧ ((beginM m x).err = 14 → m.w ≠ 0 ∨ m.r ≠ 0) := by
  unfold beginM at he ⊢
  by_cases hw : m.w ≠ 0
  · rw [if_pos hw]; exact ⟨rfl, fun _ => .inl hw⟩
  by_cases hr : m.r ≠ 0
  · rw [if_neg hw, if_pos hr]; exact ⟨rfl, fun _ => .inr hr⟩
  by_cases hb : m.busy = true
  · rw [if_neg hw, if_neg hr, if_pos hb]; exact ⟨rfl, fun h => by simp at h⟩
  rw [if_neg hw, if_neg hr, if_neg hb] at he
  exact absurd rfl he
theorem HY.stop (h : HY m begun read fr) : HY (stopM m) begun read (fr + m.acc) := by
  have ha := h.ok.a0
  have hf := h.f0
  exact ⟨stopM_ok h.ok, h.w, h.r, by omega, by unfold stopM; dsimp only; have := h.le; omega, by unfold stopM; dsimp only; have := h.rl; omega, h.p, fun hr => by unfold stopM; dsimp only; rw [Int.add_zero]; exact h.e hr, fun _ hb => by simp [stopM] at hb⟩
theorem HY.end_ (h : HY m begun read fr) : ((endM m).m = m ∧ (endM m).n = 0 ∧ ((endM m).err = 8 ∨ (endM m).err = 16)) ∨ m.busy = true ∧ (endM m).m = stopM m ∧ (endM m).n = m.acc ∧ ((endM m).err = 0 ∨ (endM m).err = 14 ∧ (m.w ≠ 0 ∨ m.r ≠ 0)) := by
  unfold endM
  by_cases h1 : m.busy = false
  · rw [if_pos h1]; exact .inl ⟨rfl, rfl, .inl rfl⟩
  by_cases h2 : atEndM m = false
  · rw [if_neg h1, if_pos h2]; exact .inl ⟨rfl, rfl, .inr rfl⟩
  rw [if_neg h1, if_neg h2]
  refine .inr ⟨by simpa using h1, rfl, rfl, ?_⟩
  dsimp only
  unfold howM
  by_cases h3 : m.rest = []
  · rw [if_pos h3]; exact .inl rfl
  rw [if_neg h3]
  by_cases h4 : m.w ≠ 0
  · rw [if_pos h4]; exact .inr ⟨rfl, .inl h4⟩
  rw [if_neg h4]
  rcases h.r with h5 | h5
  · exact .inl h5
  · exact .inr ⟨h5, .inr (by rw [h5]; simp)⟩
theorem HY.cancel_ (m : SM) : ((cancelM m).m = m ∧ (cancelM m).n = 0 ∧ ((cancelM m).err = 8 ∨ (cancelM m).err = 16)) ∨ m.busy = true ∧ (cancelM m).m = stopM m ∧ (cancelM m).n = m.acc ∧ ((cancelM m).err = 0 ∨ (cancelM m).err = 14 ∧ (m.w ≠ 0 ∨ m.r ≠ 0)) := by
  unfold cancelM
  by_cases h1 : m.busy = false
  · rw [if_pos h1]; exact .inl ⟨rfl, rfl, .inl rfl⟩
  rw [if_neg h1]
  exact .inr ⟨by simpa using h1, rfl, rfl, .inl rfl⟩
theorem HY.read_ (h : HY m begun read fr) (n : Int) : HY (readM m n).m begun (read ++ (readM m n).out) fr ∧ (readM m n).m.busy = m.busy ∧ (readM m n).m.w = m.w ∧ (readM m n).m.r = m.r ∧ ((readM m n).err = 13 → m.w ≠ 0 ∧ ((read ++ (readM m n).out).length : Int) = fr + (readM m n).m.acc) ∧ ((readM m n).err = 14 → m.r ≠ 0) := by
  have hok := readM_ok h.ok n
  have same : ∀ k : Int, readM m n = ⟨m, [], k⟩ → (k = 13 → m.w ≠ 0 ∧ (read.length : Int) = fr + m.acc) → (k = 14 → m.r ≠ 0) → HY (readM m n).m begun (read ++ (readM m n).out) fr ∧ (readM m n).m.busy = m.busy ∧ (readM m n).m.w = m.w ∧ (readM m n).m.r = m.r ∧ ((readM m n).err = 13 → m.w ≠ 0 ∧ ((read ++ (readM m n).out).length : Int) = fr + (readM m n).m.acc) ∧ ((readM m n).err = 14 → m.r ≠ 0) := fun k e h1 h2 => by
    rw [e]
    dsimp only
    rw [List.append_nil]
    exact ⟨h, rfl, rfl, rfl, h1, h2⟩
  by_cases h1 : n < 0 ∨ 65536 < n
  · exact same 2 (by unfold readM; rw [if_pos h1]) (by simp) (by simp)
  by_cases h2 : m.r ≠ 0
  · exact same 14 (by unfold readM; rw [if_neg h1, if_pos h2]) (by simp) (fun _ => h2)
  have hr0 : m.r = 0 := Classical.not_not.1 h2
  have hN := h.n hr0
  have hT := h.e hr0
  by_cases h3 : n = 0
  · exact same 0 (by unfold readM; rw [if_neg h1, if_neg h2, if_pos h3]) (by simp) (by simp)
  by_cases h4 : m.q ≠ []
  · have e : readM m n = ⟨fillM { m with q := m.q.drop n.toNat }, m.q.take n.toNat, 0⟩ := by unfold readM; rw [if_neg h1, if_neg h2, if_neg h3, if_pos h4]
    rw [e] at hok ⊢
    refine ⟨?_, fill_busy _, fill_w _, fill_r _, fun hh => absurd hh (by simp), fun hh => absurd hh (by simp)⟩
    dsimp only at hok ⊢
    by_cases hb : m.busy = true
    · refine HY.of hok (by rw [fill_w]; exact h.w) ((fill_r _).trans hr0) h.f0 ?_ ?_
      · have := fill_n { m with q := m.q.drop n.toNat }
        dsimp only at this
        rw [List.length_drop] at this
        rw [List.length_append, List.length_take]
        omega
      · rw [fill_e]
        dsimp only
        rw [h.b hr0 hb, List.append_assoc, ← List.append_assoc (m.q.take n.toNat), List.take_append_drop]
    · have hf : fillM { m with q := m.q.drop n.toNat } = { m with q := m.q.drop n.toNat } := by unfold fillM; rw [if_neg (by rintro ⟨h, _⟩; exact hb h)]
      rw [hf] at hok ⊢
      have hta : read ++ m.q.take n.toNat ++ m.q.drop n.toNat = read ++ m.q := by rw [List.append_assoc, List.take_append_drop]
      refine ⟨hok, h.w, h.r, h.f0, h.le, ?_, ?_, fun _ => ?_, fun _ hh => absurd hh hb⟩
      · dsimp only
        rw [List.length_append, List.length_take]
        omega
      · have hle : (read ++ m.q.take n.toNat).length ≤ (fr + m.acc).toNat := by rw [List.length_append, List.length_take]; omega
        have : begun.take (read ++ m.q.take n.toNat).length = (begun.take (fr + m.acc).toNat).take (read ++ m.q.take n.toNat).length := by rw [List.take_take, Nat.min_eq_left hle]
        rw [this, hT, ← hta, List.take_append_of_le_length (Nat.le_refl _), List.take_length]
      · dsimp only
        rw [hT, hta]
  have hq : m.q = [] := Classical.not_not.1 h4
  by_cases h5 : m.c = 0 ∧ m.busy = true ∧ m.w = 0 ∧ m.rest ≠ []
  · have e : readM m n = ⟨{ m with rest := m.rest.drop n.toNat, acc := m.acc + (min n.toNat m.rest.length : Nat) }, m.rest.take n.toNat, 0⟩ := by unfold readM; rw [if_neg h1, if_neg h2, if_neg h3, if_neg h4, if_pos h5]
    have hB := h.b hr0 h5.2.1
    rw [e] at hok ⊢
    refine ⟨?_, rfl, rfl, rfl, fun hh => absurd hh (by simp), fun hh => absurd hh (by simp)⟩
    rw [hq] at hN
    rw [hq, List.nil_append] at hB
    simp only [List.length_nil] at hN
    refine HY.of hok h.w hr0 h.f0 ?_ ?_
    · dsimp only
      rw [hq, List.length_append, List.length_take]
      simp only [List.length_nil]
      omega
    · dsimp only
      rw [hq, hB, List.nil_append, List.append_assoc, List.take_append_drop]
  by_cases h6 : m.w ≠ 0
  · refine same m.w (by unfold readM; rw [if_neg h1, if_neg h2, if_neg h3, if_neg h4, if_neg h5, if_pos h6]) (fun _ => ⟨h6, ?_⟩) (fun hh => ?_)
    · rw [hq] at hN
      simp only [List.length_nil] at hN
      omega
    · rcases h.w with h | h
      · exact absurd h h6
      · rw [hh] at h; simp at h
  · exact same 16 (by unfold readM; rw [if_neg h1, if_neg h2, if_neg h3, if_neg h4, if_neg h5, if_neg h6]) (by simp) (by simp)
theorem HY.closew (h : HY m begun read fr) : HY (closewM m 13).m begun read fr ∧ (closewM m 13).m.busy = m.busy ∧ (closewM m 13).m.r = m.r ∧ (closewM m 13).m.w = 13 ∧ ((closewM m 13).err = 0 ∨ (closewM m 13).err = 14 ∧ m.w ≠ 0) := by
  have hok := closewM_ok h.ok 13
  have hc : ¬ codeM 13 = false := by decide
  unfold closewM at hok ⊢
  rw [if_neg hc] at hok ⊢
  by_cases h1 : m.w ≠ 0
  · rw [if_pos h1]
    exact ⟨h, rfl, rfl, h.w.resolve_left h1, .inr ⟨rfl, h1⟩⟩
  rw [if_neg h1] at hok ⊢
  exact ⟨⟨hok, .inr rfl, h.r, h.f0, h.le, h.rl, h.p, h.e, h.b⟩, rfl, rfl, rfl, .inl rfl⟩
theorem HY.closer (h : HY m begun read fr) : HY (closerM m 14).m begun read fr ∧ (closerM m 14).m.busy = m.busy ∧ (closerM m 14).m.w = m.w ∧ (closerM m 14).m.r = 14 ∧ ((closerM m 14).err = 0 ∨ (closerM m 14).err = 14 ∧ m.r ≠ 0) := by
  have hok := closerM_ok h.ok 14
  have hc : ¬ codeM 14 = false := by decide
  unfold closerM at hok ⊢
  rw [if_neg hc] at hok ⊢
  by_cases h1 : m.r ≠ 0
  · rw [if_pos h1]
    exact ⟨h, rfl, rfl, h.r.resolve_left h1, .inr ⟨rfl, h1⟩⟩
  rw [if_neg h1] at hok ⊢
  exact ⟨⟨hok, h.w, .inr rfl, h.f0, h.le, h.rl, h.p, fun hh => absurd hh (by simp), fun hh => absurd hh (by simp)⟩, rfl, rfl, rfl, .inl rfl⟩
end
end Go.Proofs.Ytdoamelhclnphaa
