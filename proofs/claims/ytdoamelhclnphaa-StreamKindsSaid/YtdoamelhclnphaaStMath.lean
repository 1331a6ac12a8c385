/-
  Package stream in plain words: what a stream holds, what its calls make of it, and what is true of every stream. No program in sight.
-/
import Derived.Test.YtdoamelhclnphaaBase
namespace Go.Proofs.Ytdoamelhclnphaa

/-- A stream: its capacity, its buffer, whether a write is under way, the rest of it, how much of it was accepted, the errors of its ends. -/
structure SM where
  c : Int
  q : List UInt8
  busy : Bool
  rest : List UInt8
  acc : Int
  w : Int
  r : Int
def newM (c : Int) : SM := ⟨c, [], false, [], 0, 0, 0⟩
def roomM (m : SM) : Nat := (m.c - m.q.length).toNat
/-- The buffer takes what it has room for. -/
def pourM (m : SM) : SM := { m with q := m.q ++ m.rest.take (roomM m), rest := m.rest.drop (roomM m), acc := m.acc + (min (roomM m) m.rest.length : Nat) }
def fillM (m : SM) : SM := if m.busy = true ∧ m.w = 0 ∧ m.r = 0 then pourM m else m
structure SE where
  m : SM
  err : Int
structure SN where
  m : SM
  n : Int
  err : Int
structure SR where
  m : SM
  out : List UInt8
  err : Int
def beginM (m : SM) (x : List UInt8) : SE :=
  if m.w ≠ 0 then ⟨m, 14⟩ else if m.r ≠ 0 then ⟨m, m.r⟩ else if m.busy = true then ⟨m, 11⟩ else ⟨fillM { m with busy := true, rest := x, acc := 0 }, 0⟩
def opM (m : SM) : Bool := m.w == 0 && m.r == 0
def atEndM (m : SM) : Bool := m.busy && (m.rest.isEmpty || !opM m)
def howM (m : SM) : Int := if m.rest = [] then 0 else if m.w ≠ 0 then 14 else m.r
def stopM (m : SM) : SM := { m with busy := false, rest := [], acc := 0 }
def endM (m : SM) : SN := if m.busy = false then ⟨m, 0, 8⟩ else if atEndM m = false then ⟨m, 0, 16⟩ else ⟨stopM m, m.acc, howM m⟩
def cancelM (m : SM) : SN := if m.busy = false then ⟨m, 0, 8⟩ else ⟨stopM m, m.acc, 0⟩
def readM (m : SM) (n : Int) : SR :=
  if n < 0 ∨ 65536 < n then ⟨m, [], 2⟩ else if m.r ≠ 0 then ⟨m, [], 14⟩ else if n = 0 then ⟨m, [], 0⟩
  else if m.q ≠ [] then ⟨fillM { m with q := m.q.drop n.toNat }, m.q.take n.toNat, 0⟩
  else if m.c = 0 ∧ m.busy = true ∧ m.w = 0 ∧ m.rest ≠ [] then ⟨{ m with rest := m.rest.drop n.toNat, acc := m.acc + (min n.toNat m.rest.length : Nat) }, m.rest.take n.toNat, 0⟩
  else if m.w ≠ 0 then ⟨m, [], m.w⟩ else ⟨m, [], 16⟩
def codeM (x : Int) : Bool := decide (1 ≤ x ∧ x ≤ 1000)
def closewM (m : SM) (x : Int) : SE := if codeM x = false then ⟨m, 2⟩ else if m.w ≠ 0 then ⟨m, 14⟩ else ⟨{ m with w := x }, 0⟩
def closerM (m : SM) (x : Int) : SE := if codeM x = false then ⟨m, 2⟩ else if m.r ≠ 0 then ⟨m, 14⟩ else ⟨{ m with r := x, q := [] }, 0⟩

/-- What is true of every stream. -/
structure SOk (m : SM) : Prop where
  c0 : 0 ≤ m.c
  c1 : m.c ≤ 4096
  q1 : (m.q.length : Int) ≤ m.c
  w0 : 0 ≤ m.w
  w1 : m.w ≤ 1000
  r0 : 0 ≤ m.r
  r1 : m.r ≤ 1000
  rq : m.r ≠ 0 → m.q = []
  nb : m.busy = false → m.rest = [] ∧ m.acc = 0
  a0 : 0 ≤ m.acc
  sum : m.acc + m.rest.length ≤ 65536
  full : m.busy = true → m.w = 0 → m.r = 0 → m.rest = [] ∨ (m.q.length : Int) = m.c
def validM (m : SM) : Bool :=
  if m.c < 0 ∨ 4096 < m.c ∨ m.c < m.q.length ∨ m.w < 0 ∨ 1000 < m.w ∨ m.r < 0 ∨ 1000 < m.r then false
  else if m.r ≠ 0 ∧ 0 < m.q.length then false
  else if m.busy = false then decide (m.rest.length = 0 ∧ m.acc = 0)
  else if m.acc < 0 ∨ 65536 < m.acc ∨ 65536 < m.acc + m.rest.length then false
  else decide (¬ (m.w = 0 ∧ m.r = 0) ∨ m.rest.length = 0 ∨ (m.q.length : Int) = m.c)
theorem validM_iff (m : SM) : validM m = true ↔ SOk m := by
  unfold validM
  constructor
  · intro h
    split at h
    · simp at h
    · rename_i h1
      split at h
      · simp at h
      · rename_i h2
        have e0 : ∀ l : List UInt8, l.length = 0 → l = [] := fun l h => List.eq_nil_of_length_eq_zero h
        split at h
        · rename_i h3
          simp only [decide_eq_true_eq] at h
          exact ⟨by omega, by omega, by omega, by omega, by omega, by omega, by omega, fun hr => e0 _ (by omega), fun _ => ⟨e0 _ h.1, h.2⟩, by omega, by omega, fun hb => by rw [h3] at hb; cases hb⟩
        · rename_i h3
          split at h
          · simp at h
          · rename_i h4
            simp only [decide_eq_true_eq] at h
            refine ⟨by omega, by omega, by omega, by omega, by omega, by omega, by omega, fun hr => e0 _ (by omega), fun hb => absurd hb h3, by omega, by omega, fun _ hw hr => ?_⟩
            rcases h with h | h | h
            · exact absurd ⟨hw, hr⟩ h
            · exact .inl (e0 _ h)
            · exact .inr h
  · intro h
    obtain ⟨c0, c1, q1, w0, w1, r0, r1, rq, nb, a0, sum, full⟩ := h
    rw [if_neg (by omega), if_neg (fun hh => by have := rq hh.1; rw [this] at hh; simp at hh)]
    by_cases hb : m.busy = false
    · rw [if_pos hb]
      obtain ⟨h1, h2⟩ := nb hb
      simp [h1, h2]
    · rw [if_neg hb, if_neg (by omega), decide_eq_true_eq]
      by_cases hw : m.w = 0 ∧ m.r = 0
      · rcases full (by simpa using hb) hw.1 hw.2 with h | h
        · exact .inr (.inl (by rw [h]; rfl))
        · exact .inr (.inr h)
      · exact .inl hw

theorem newM_ok {c : Int} (h0 : 0 ≤ c) (h1 : c ≤ 4096) : SOk (newM c) := by
  unfold newM
  exact ⟨h0, h1, by simpa using h0, by simp, by simp, by simp, by simp, by simp, by simp, by simp, by simp, by simp⟩
theorem pourM_ok {m : SM} (c0 : 0 ≤ m.c) (c1 : m.c ≤ 4096) (q1 : (m.q.length : Int) ≤ m.c) (hw : m.w = 0) (hr : m.r = 0) (hb : m.busy = true) (a0 : 0 ≤ m.acc) (sum : m.acc + m.rest.length ≤ 65536) : SOk (pourM m) := by
  obtain ⟨c, q, busy, rest, acc, w, r⟩ := m
  dsimp only at *
  subst hw hr hb
  unfold pourM roomM
  refine ⟨c0, c1, ?_, by simp, by simp, by simp, by simp, by simp, by simp, ?_, ?_, ?_⟩
  · dsimp only
    rw [List.length_append, List.length_take]; omega
  · dsimp only; omega
  · dsimp only
    rw [List.length_drop]; omega
  · intro _ _ _
    dsimp only
    by_cases h : rest.length ≤ (c - q.length).toNat
    · exact .inl (List.drop_eq_nil_of_le h)
    · right
      rw [List.length_append, List.length_take]; omega
theorem fillM_ok {m : SM} (c0 : 0 ≤ m.c) (c1 : m.c ≤ 4096) (q1 : (m.q.length : Int) ≤ m.c) (w0 : 0 ≤ m.w) (w1 : m.w ≤ 1000) (r0 : 0 ≤ m.r) (r1 : m.r ≤ 1000) (rq : m.r ≠ 0 → m.q = []) (nb : m.busy = false → m.rest = [] ∧ m.acc = 0) (a0 : 0 ≤ m.acc) (sum : m.acc + m.rest.length ≤ 65536) : SOk (fillM m) := by
  unfold fillM
  split
  · rename_i h
    exact pourM_ok c0 c1 q1 h.2.1 h.2.2 h.1 a0 sum
  · rename_i h
    exact ⟨c0, c1, q1, w0, w1, r0, r1, rq, nb, a0, sum, fun a b c => absurd ⟨a, b, c⟩ h⟩
/-- A stream is full already. -/
theorem fillM_id {m : SM} (h : SOk m) : fillM m = m := by
  unfold fillM
  split
  · rename_i hh
    obtain ⟨c, q, busy, rest, acc, w, r⟩ := m
    dsimp only at *
    unfold pourM roomM
    dsimp only
    rcases h.full hh.1 hh.2.1 hh.2.2 with e | e
    · dsimp only at e
      subst e
      simp
    · dsimp only at e
      have : (c - (q.length : Int)).toNat = 0 := by omega
      rw [this]
      simp
  · rfl
theorem beginM_ok {m : SM} (h : SOk m) {x : List UInt8} (hx : x.length ≤ 65536) : SOk (beginM m x).m := by
  unfold beginM
  split
  · exact h
  · split
    · exact h
    · split
      · exact h
      · refine fillM_ok h.c0 h.c1 h.q1 h.w0 h.w1 h.r0 h.r1 h.rq (by simp) (by simp) ?_
        dsimp only; omega
theorem stopM_ok {m : SM} (h : SOk m) : SOk (stopM m) := by
  unfold stopM
  exact ⟨h.c0, h.c1, h.q1, h.w0, h.w1, h.r0, h.r1, h.rq, by simp, by simp, by simp, by simp⟩
theorem endM_ok {m : SM} (h : SOk m) : SOk (endM m).m := by
  unfold endM
  split
  · exact h
  · split
    · exact h
    · exact stopM_ok h
theorem cancelM_ok {m : SM} (h : SOk m) : SOk (cancelM m).m := by
  unfold cancelM
  split
  · exact h
  · exact stopM_ok h
theorem readM_ok {m : SM} (h : SOk m) (n : Int) : SOk (readM m n).m := by
  unfold readM
  split
  · exact h
  · split
    · exact h
    · split
      · exact h
      · split
        · refine fillM_ok h.c0 h.c1 ?_ h.w0 h.w1 h.r0 h.r1 ?_ h.nb h.a0 h.sum
          · dsimp only
            have := h.q1
            rw [List.length_drop]; omega
          · intro hr
            dsimp only at hr ⊢
            rw [h.rq hr]; simp
        · split
          · rename_i h1 h2 h3 h4 h5
            have hq := h.q1
            have hs := h.sum
            have ha := h.a0
            refine ⟨h.c0, h.c1, h.q1, h.w0, h.w1, h.r0, h.r1, h.rq, fun hb => ?_, ?_, ?_, fun _ _ _ => .inr ?_⟩
            · dsimp only at hb
              rw [h5.2.1] at hb; cases hb
            · dsimp only; omega
            · dsimp only
              rw [List.length_drop]; omega
            · dsimp only
              have := h5.1
              omega
          · split
            · exact h
            · exact h
theorem codeM_iff {x : Int} : codeM x = true ↔ 1 ≤ x ∧ x ≤ 1000 := by unfold codeM; simp
theorem closewM_ok {m : SM} (h : SOk m) (x : Int) : SOk (closewM m x).m := by
  unfold closewM
  split
  · exact h
  · rename_i hx
    split
    · exact h
    · have := codeM_iff.1 (by simpa using hx)
      exact ⟨h.c0, h.c1, h.q1, by dsimp only; omega, by dsimp only; omega, h.r0, h.r1, h.rq, h.nb, h.a0, h.sum, fun _ hw => by dsimp only at hw; omega⟩
theorem closerM_ok {m : SM} (h : SOk m) (x : Int) : SOk (closerM m x).m := by
  unfold closerM
  split
  · exact h
  · rename_i hx
    split
    · exact h
    · have := codeM_iff.1 (by simpa using hx)
      exact ⟨h.c0, h.c1, by have := h.c0; simpa using this, h.w0, h.w1, by dsimp only; omega, by dsimp only; omega, fun _ => rfl, h.nb, h.a0, h.sum, fun _ _ hr => by dsimp only at hr; omega⟩
end Go.Proofs.Ytdoamelhclnphaa
