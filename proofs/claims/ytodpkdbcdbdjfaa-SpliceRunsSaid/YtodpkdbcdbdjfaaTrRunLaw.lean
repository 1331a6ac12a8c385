/-
  A whole transfer in plain words: what is read and written, round by round. No program in sight.
-/
import Derived.Test.YtodpkdbcdbdjfaaTrLaw
namespace Go.Proofs.Ytodpkdbcdbdjfaa
open Go.RowKit

/-- What holds between two rounds: O was written, at_ bytes of D were read. -/
structure RI (sg lm : Int) (D : List UInt8) (en : Int) (t : TS) (O : List UInt8) (at_ n : Nat) : Prop where
  sg : t.stage = sg
  lm : t.limit = lm
  rd : t.rd = at_
  wr : t.wr = O.length
  io : D.take at_ = O ++ t.s
  le : at_ ≤ D.length
  w0 : t.w = 0
  r : t.r = 0 ∨ (t.r = en ∧ at_ = D.length)
  n : n ≤ at_ + O.length + (if t.r = 0 then 0 else 1)
theorem RI.new (sg lm : Int) (D : List UInt8) (en : Int) : RI sg lm D en (newT sg lm) [] 0 0 := ⟨rfl, rfl, rfl, rfl, rfl, Nat.zero_le _, rfl, .inl rfl, by simp [newT]⟩
section
variable {sg lm : Int} {D : List UInt8} {en : Int} {t : TS} {O : List UInt8} {at_ n : Nat}
theorem RI.olen (h : RI sg lm D en t O at_ n) : O.length + t.s.length = at_ := by
  have := congrArg List.length h.io
  rw [List.length_take, List.length_append] at this
  have := h.le
  omega
theorem RI.small (h : RI sg lm D en t O at_ n) (hd : D.length ≤ 400) : n < 2000 := by
  have h1 := h.n
  have h2 := h.olen
  have h3 := h.le
  split at h1 <;> omega
/-- What is wanted when bytes are to be read. -/
theorem RI.more (h : RI sg lm D en t O at_ n) (hok : TOk t) (hk : (nextT t).kind = 1) : 1 ≤ (nextT t).n ∧ (nextT t).n ≤ sg ∧ t.s = [] ∧ t.r = 0 := by
  obtain ⟨_, hs, hr, hl, hn⟩ := nextT_k1 hk
  rw [hn]
  have h1 := hok.lr
  have h2 := hok.s1
  have h3 := h.sg
  have h4 := hok.l1
  have h5 := h.rd
  refine ⟨?_, ?_, hs, hr⟩
  · dsimp only
    split <;> omega
  · dsimp only
    split <;> omega
theorem RI.read (h : RI sg lm D en t O at_ n) (hok : TOk t) (hen : codeE en = true) (hk : (nextT t).kind = 1) {s : Nat} {c : Int} (hs : at_ + s ≤ D.length) (hs2 : (s : Int) ≤ (nextT t).n) (hc : c = 0 ∨ (c = en ∧ at_ + s = D.length)) (h0 : s = 0 → c = en) :
    gotE t ((D.drop at_).take s) c = 0 ∧ RI sg lm D en (gotT t ((D.drop at_).take s) c) O (at_ + s) (n + 1) := by
  obtain ⟨hn1, hn2, hts, htr⟩ := h.more hok hk
  have hl : ((D.drop at_).take s).length = s := by rw [List.length_take, List.length_drop]; omega
  have hen0 : en ≠ 0 := by
    intro e
    subst e
    simp [codeE] at hen
  have hg : gotE t ((D.drop at_).take s) c = 0 := by
    unfold gotE checkT
    rw [if_neg (by simp [hk]), if_neg ?_]
    rw [hl]
    rintro (h1 | h1 | h1)
    · omega
    · omega
    · unfold codeN at h1
      by_cases hc0 : c = 0
      · rw [if_pos hc0] at h1
        have : ¬ (0 : Int) < s := by simpa using h1
        exact hen0 (by rw [← h0 (by omega)]; exact hc0)
      · rw [if_neg hc0] at h1
        rcases hc with rfl | ⟨rfl, _⟩
        · exact hc0 rfl
        · rw [hen] at h1; cases h1
  refine ⟨hg, ?_⟩
  rw [gotT_yes hg]
  have hio := h.io
  rw [hts, List.append_nil] at hio
  have hnn := h.n
  rw [htr, if_pos rfl] at hnn
  refine ⟨h.sg, h.lm, ?_, h.wr, ?_, hs, h.w0, ?_, ?_⟩
  · show t.rd + _ = _
    rw [h.rd, hl]
    omega
  · show D.take (at_ + s) = O ++ (D.drop at_).take s
    rw [List.take_add, hio]
  · show c = 0 ∨ _
    rcases hc with hc | ⟨hc, he⟩
    · exact .inl hc
    · exact .inr ⟨hc, he⟩
  · show n + 1 ≤ at_ + s + O.length + (if c = 0 then 0 else 1)
    by_cases hc0 : c = 0
    · rw [if_pos hc0]
      have : s ≠ 0 := fun e => hen0 (by rw [← h0 e]; exact hc0)
      omega
    · rw [if_neg hc0]
      omega
theorem RI.write (h : RI sg lm D en t O at_ n) (hk : (nextT t).kind = 2) {z : Nat} (hz : 1 ≤ z) (hz2 : z ≤ t.s.length) :
    (nextT t).data = t.s ∧ wroteE t z 0 = 0 ∧ RI sg lm D en (wroteT t z 0) (O ++ t.s.take z) at_ (n + 1) := by
  obtain ⟨_, hs, hn⟩ := nextT_k2 hk
  have hd : (nextT t).data = t.s := by rw [hn]
  have hg : wroteE t z 0 = 0 := by
    unfold wroteE checkT
    rw [if_neg (by simp [hk]), if_neg ?_]
    rw [hd]
    rintro (h1 | h1 | h1)
    · omega
    · omega
    · unfold codeN at h1
      rw [if_pos rfl] at h1
      have : ¬ (0 : Int) < z := by simpa using h1
      omega
  refine ⟨hd, hg, ?_⟩
  rw [wroteT_yes hg]
  have hnn := h.n
  refine ⟨h.sg, h.lm, h.rd, ?_, ?_, h.le, rfl, h.r, ?_⟩
  · show t.wr + z = _
    rw [h.wr, List.length_append, List.length_take]
    omega
  · show D.take at_ = O ++ t.s.take z ++ t.s.drop (z : Int).toNat
    rw [Int.toNat_natCast, List.append_assoc, List.take_append_drop, h.io]
  · show n + 1 ≤ at_ + (O ++ t.s.take z).length + (if t.r = 0 then 0 else 1)
    rw [List.length_append, List.length_take]
    split at hnn <;> rename_i hr
    · rw [if_pos hr]; omega
    · rw [if_neg hr]; omega
theorem RI.kind (h : RI sg lm D en t O at_ n) : (nextT t).kind = 1 ∨ (nextT t).kind = 2 ∨ (nextT t).kind = 4 := by
  rcases nextT_cases t with ⟨_, e⟩ | ⟨_, _, e⟩ | ⟨_, _, _, e⟩ | ⟨_, _, _, _, e⟩ <;> rw [e] <;> simp
/-- At the end. -/
theorem RI.done (h : RI sg lm D en t O at_ n) (hok : TOk t) (hk : (nextT t).kind = 4) :
    O = D.take at_ ∧ O.length = at_ ∧ (nextT t).n = at_ ∧ t.rd = at_ ∧ t.wr = at_ ∧ ((lm = -1 ∧ at_ = D.length) ∨ (0 ≤ lm ∧ (at_ : Int) = min (D.length : Int) lm)) ∧ ((nextT t).err = 0 ∨ ((nextT t).err = en ∧ en ≠ 13)) := by
  have hol := h.olen
  rcases nextT_cases t with ⟨hw, e⟩ | ⟨_, _, e⟩ | ⟨_, hs, hr, e⟩ | ⟨_, _, _, _, e⟩
  · exact absurd h.w0 hw
  · rw [e] at hk; simp at hk
  · rw [hs] at hol
    simp at hol
    have h1 := hok.lr
    have h2 := h.lm
    have h3 := h.rd
    have h4 := h.wr
    have h5 := h.le
    have h6 := h.r
    have hio := h.io
    have h7 := hok.l1
    rw [hs, List.append_nil] at hio
    rw [e]
    refine ⟨hio.symm, hol, by show t.wr = _; omega, h3, by omega, ?_, ?_⟩
    · rcases hr with hr | hr
      · have : at_ = D.length := (h6.resolve_left hr).2
        rcases h1 with h1 | h1
        · exact .inl ⟨by omega, this⟩
        · exact .inr ⟨by omega, by omega⟩
      · exact .inr ⟨by omega, by omega⟩
    · show eofT t.r = 0 ∨ _
      unfold eofT
      by_cases h13 : t.r = 13
      · rw [if_pos h13]; exact .inl rfl
      · rw [if_neg h13]
        rcases h6 with h6 | ⟨h6, _⟩
        · exact .inl h6
        · exact .inr ⟨h6, by rw [← h6]; exact h13⟩
  · rw [e] at hk; simp at hk
end
end Go.Proofs.Ytodpkdbcdbdjfaa
