/-
  The theorem of stage 14 in plain words: what was read, what lies in the buffer and what is left of a write are what was begun. No program in sight.
-/
import Derived.Test.YtdoamelhclnphaaStMath
namespace Go.Proofs.Ytdoamelhclnphaa

theorem fill_w (m : SM) : (fillM m).w = m.w := by unfold fillM; split <;> rfl
structure HS (c : Int) (m : SM) (begun read : List UInt8) (fr : Int) : Prop where
  ok : SOk m
  c : m.c = c
  r : m.r = 0
  e : begun = read ++ (m.q ++ m.rest)
  n : fr + m.acc = read.length + m.q.length

theorem HS.new {c : Int} (h0 : 0 ≤ c) (h1 : c ≤ 4096) : HS c (newM c) [] [] 0 := ⟨newM_ok h0 h1, rfl, rfl, rfl, rfl⟩
section
variable {c : Int} {m : SM} {begun read : List UInt8} {fr : Int}
theorem HS.len (h : HS c m begun read fr) : (begun.length : Int) = read.length + m.q.length + m.rest.length := by
  rw [h.e, List.length_append, List.length_append]; omega
/-- What the law asks behind each call. -/
theorem HS.tail (h : HS c m begun read fr) : 0 ≤ m.acc ∧ fr + m.acc ≤ begun.length ∧ (read.length : Int) ≤ fr + m.acc ∧ begun.take read.length = read ∧ fr + m.acc - read.length ≤ c := by
  have hl := h.len
  have hn := h.n
  have hq := h.ok.q1
  have hc := h.c
  refine ⟨h.ok.a0, by omega, by omega, ?_, by omega⟩
  rw [h.e, List.take_append_of_le_length (Nat.le_refl _), List.take_length]
theorem HS.fr0 (h : HS c m begun read fr) (hf : 0 ≤ fr) : fr.toNat ≤ begun.length := by
  have hl := h.len
  have hn := h.n
  have ha := h.ok.a0
  omega
theorem HS.stop (h : HS c m begun read fr) : HS c (stopM m) (begun.take (fr + m.acc).toNat) read (fr + m.acc) := by
  have hN := h.n
  refine ⟨stopM_ok h.ok, h.c, h.r, ?_, ?_⟩
  · unfold stopM
    dsimp only
    rw [h.e, hN, List.append_nil]
    have : ((read.length : Int) + m.q.length).toNat = (read ++ m.q).length := by rw [List.length_append]; omega
    rw [this, ← List.append_assoc, List.take_append_of_le_length (Nat.le_refl _), List.take_length]
  · unfold stopM
    dsimp only
    omega
end
end Go.Proofs.Ytdoamelhclnphaa
