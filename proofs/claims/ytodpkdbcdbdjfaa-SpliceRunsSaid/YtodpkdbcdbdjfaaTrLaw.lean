/-
  Transfers in plain words: what is read and written over a list of calls, and over a whole transfer. No program in sight.
-/
import Derived.Test.YtodpkdbcdbdjfaaActs21
namespace Go.Proofs.Ytodpkdbcdbdjfaa
open Go.RowKit

/-- What holds between two calls: all that was read, all that was written, whether a writing ended with a code. -/
structure THI (sg lm : Int) (t : TS) (I O : List UInt8) (fl : Bool) : Prop where
  sg : t.stage = sg
  lm : t.limit = lm
  io : I = O ++ t.s
  rd : t.rd = I.length
  wr : t.wr = O.length
  fl : fl = false → t.w = 0
theorem THI.new (sg lm : Int) : THI sg lm (newT sg lm) [] [] false := ⟨rfl, rfl, rfl, rfl, rfl, fun _ => rfl⟩
theorem THI.got {sg lm : Int} {t : TS} {I O : List UInt8} {fl : Bool} (h : THI sg lm t I O fl) {p : List UInt8} {e : Int} (hg : gotE t p e = 0) : (nextT t).kind = 1 ∧ THI sg lm (gotT t p e) (I ++ p) O fl := by
  obtain ⟨h1, _⟩ := checkT_zero hg
  obtain ⟨_, hs, _, _⟩ := nextT_k1 h1
  refine ⟨h1, ?_⟩
  unfold gotT
  rw [if_pos hg]
  have hio := h.io
  rw [hs, List.append_nil] at hio
  refine ⟨h.sg, h.lm, by rw [hio], ?_, h.wr, h.fl⟩
  show t.rd + p.length = _
  rw [h.rd, List.length_append]
  omega
theorem THI.wrote {sg lm : Int} {t : TS} {I O : List UInt8} {fl : Bool} (h : THI sg lm t I O fl) {n e : Int} (hg : wroteE t n e = 0) : (nextT t).kind = 2 ∧ (nextT t).data = t.s ∧ 0 ≤ n ∧ n ≤ (t.s.length : Nat) ∧ THI sg lm (wroteT t n e) I (O ++ t.s.take n.toNat) (fl || decide (e ≠ 0)) := by
  obtain ⟨h1, h0, h2, _⟩ := checkT_zero hg
  obtain ⟨_, _, hn⟩ := nextT_k2 h1
  have hd : (nextT t).data = t.s := by rw [hn]
  rw [hd] at h2
  refine ⟨h1, hd, h0, h2, ?_⟩
  unfold wroteT
  rw [if_pos hg]
  refine ⟨h.sg, h.lm, ?_, h.rd, ?_, ?_⟩
  · show I = O ++ t.s.take n.toNat ++ t.s.drop n.toNat
    rw [List.append_assoc, List.take_append_drop, h.io]
  · show t.wr + n = _
    rw [h.wr, List.length_append, List.length_take]
    omega
  · intro he
    show e = 0
    have := (Bool.or_eq_false_iff.1 he).2
    simpa using this
/-- What the law asks of a state. -/
structure THO (sg lm : Int) (t : TS) (I O : List UInt8) (fl : Bool) : Prop where
  len : (O.length : Int) ≤ I.length
  pre : I.take O.length = O
  rest : I.drop O.length = t.s
  few : (t.s.length : Int) ≤ sg
  lim : lm = -1 ∨ (I.length : Int) ≤ lm
  done : (nextT t).kind = 4 → (nextT t).n = O.length ∧ (fl = false → I.length = O.length)
theorem THI.ok {sg lm : Int} {t : TS} {I O : List UInt8} {fl : Bool} (h : THI sg lm t I O fl) (hok : TOk t) : THO sg lm t I O fl := by
  have hl : I.length = O.length + t.s.length := by rw [h.io, List.length_append]
  refine ⟨by omega, by rw [h.io]; exact List.take_left' rfl, by rw [h.io]; exact List.drop_left' rfl, by rw [← h.sg]; exact hok.few, by have := hok.lr; rw [h.lm, h.rd] at this; exact this, fun hk => ?_⟩
  rcases nextT_cases t with ⟨hw, e⟩ | ⟨_, _, e⟩ | ⟨_, hs, _, e⟩ | ⟨_, _, _, _, e⟩
  · rw [e]
    refine ⟨h.wr, fun hf => absurd (h.fl hf) hw⟩
  · rw [e] at hk; simp at hk
  · rw [e]
    refine ⟨h.wr, fun _ => ?_⟩
    rw [hl, hs]
    rfl
  · rw [e] at hk; simp at hk
theorem gotT_no {t : TS} {p : List UInt8} {e z : Int} (h : gotE t p e = z) (hz : z ≠ 0) : gotT t p e = t := by unfold gotT; rw [h, if_neg hz]
theorem gotT_yes {t : TS} {p : List UInt8} {e : Int} (h : gotE t p e = 0) : gotT t p e = { t with rd := t.rd + p.length, s := p, r := e } := by unfold gotT; rw [if_pos h]
theorem wroteT_no {t : TS} {n e z : Int} (h : wroteE t n e = z) (hz : z ≠ 0) : wroteT t n e = t := by unfold wroteT; rw [h, if_neg hz]
theorem wroteT_yes {t : TS} {n e : Int} (h : wroteE t n e = 0) : wroteT t n e = { t with wr := t.wr + n, s := t.s.drop n.toNat, w := e } := by unfold wroteT; rw [if_pos h]
end Go.Proofs.Ytodpkdbcdbdjfaa
