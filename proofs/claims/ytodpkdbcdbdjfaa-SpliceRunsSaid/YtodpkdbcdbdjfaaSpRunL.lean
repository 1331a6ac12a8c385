/-
  A whole splice in plain words: one side of it, turn by turn. No program in sight.
-/
import Derived.Test.YtodpkdbcdbdjfaaTrRunLaw
import Derived.Test.YtodpkdbcdbdjfaaSpU
namespace Go.Proofs.Ytodpkdbcdbdjfaa
open Go.RowKit

/-- One side: D is to be read, at_ bytes of it were read, O was written; it had n turns; it was shut sh times. -/
structure RS (sg : Int) (D : List UInt8) (t : TS) (c : Bool) (O : List UInt8) (at_ n sh : Nat) : Prop where
  ri : ∃ m, RI sg (-1) D 13 t O at_ m ∧ (c = false → n ≤ m)
  cl : c = true → t.r = 13 ∧ t.s = []
  sh : sh = if c = true then 1 else 0
theorem RS.new (sg : Int) (D : List UInt8) : RS sg D (newT sg (-1)) false [] 0 0 0 := ⟨⟨0, RI.new _ _ _ _, fun _ => Nat.le_refl _⟩, fun h => by simp at h, rfl⟩
section
variable {sg : Int} {D : List UInt8} {t : TS} {c : Bool} {O : List UInt8} {at_ n sh : Nat}
theorem RS.small (h : RS sg D t c O at_ n sh) (hD : D.length ≤ 200) (hc : c = false) : n ≤ 401 := by
  obtain ⟨m, hm, hn⟩ := h.ri
  have h1 := hm.n
  have h2 := hm.olen
  have h3 := hm.le
  have h4 := hn hc
  split at h1 <;> omega
/-- Which of the four this side wants. -/
theorem RS.kinds (h : RS sg D t c O at_ n sh) (hok : TOk t) (i : Int) :
    (c = false ∧ (nextT t).kind = 1 ∧ t.s = [] ∧ 1 ≤ t.stage ∧ nextS t c i = ⟨1, i, t.stage, [], 0⟩)
    ∨ (c = false ∧ (nextT t).kind = 2 ∧ t.s ≠ [] ∧ nextS t c i = ⟨2, 1 - i, 0, t.s, 0⟩)
    ∨ (c = false ∧ at_ = D.length ∧ t.r = 13 ∧ t.s = [] ∧ O = D ∧ nextS t c i = ⟨3, 1 - i, 0, [], 0⟩)
    ∨ (c = true ∧ O = D ∧ sh = 1 ∧ nextS t c i = ⟨4, 0, t.wr, [], 0⟩) := by
  obtain ⟨m, hm, hn⟩ := h.ri
  have hr0 := hok.r0
  have hl := hm.lm
  have hol := hm.olen
  have hio := hm.io
  have end_ : t.s = [] → t.r = 13 → at_ = D.length ∧ O = D := fun h1 h2 => by
    have ha : at_ = D.length := by
      rcases hm.r with h3 | h3
      · rw [h2] at h3; simp at h3
      · exact h3.2
    refine ⟨ha, ?_⟩
    rw [h1, List.append_nil, ha, List.take_length] at hio
    exact hio.symm
  rcases nextT_cases t with ⟨h1, _⟩ | ⟨h1, h2, e⟩ | ⟨h1, h2, h3, e⟩ | ⟨h1, h2, h3, h4, e⟩
  · exact absurd hm.w0 h1
  · have hc : c = false := by
      cases c with
      | false => rfl
      | true => exact absurd (h.cl rfl).2 h2
    refine .inr (.inl ⟨hc, by rw [e], h2, ?_⟩)
    unfold nextS
    rw [e, if_neg (by simp), if_pos rfl]
  · have hr : t.r = 13 := by
      rcases h3 with h3 | h3
      · rcases hm.r with h4 | h4
        · exact absurd h4 h3
        · exact h4.1
      · rw [hl] at h3; omega
    obtain ⟨ha, hO⟩ := end_ h2 hr
    cases c with
    | false =>
      refine .inr (.inr (.inl ⟨rfl, ha, hr, h2, hO, ?_⟩))
      unfold nextS
      rw [e, if_neg (by simp), if_neg (by simp), if_pos ⟨hr, h1, rfl⟩]
    | true =>
      refine .inr (.inr (.inr ⟨rfl, hO, h.sh, ?_⟩))
      unfold nextS
      rw [e, if_neg (by simp), if_neg (by simp), if_neg (fun hh => by simp at hh), hr]
      rfl
  · have hc : c = false := by
      cases c with
      | false => rfl
      | true => have := (h.cl rfl).1; rw [h3] at this; simp at this
    refine .inl ⟨hc, by rw [e], h2, hok.s1, ?_⟩
    unfold nextS
    rw [e, if_pos rfl, if_pos hl]
theorem RS.read (h : RS sg D t c O at_ n sh) (hok : TOk t) (hc : c = false) (hk : (nextT t).kind = 1) {s : Nat} {e : Int} (hs : at_ + s ≤ D.length) (hs2 : (s : Int) ≤ t.stage) (he : e = 0 ∨ (e = 13 ∧ at_ + s = D.length)) (h0 : s = 0 → e = 13) :
    gotE t ((D.drop at_).take s) e = 0 ∧ RS sg D (gotT t ((D.drop at_).take s) e) c O (at_ + s) (n + 1) sh := by
  obtain ⟨m, hm, hn⟩ := h.ri
  obtain ⟨_, _, _, _, hx⟩ := nextT_k1 hk
  have hn2 : (s : Int) ≤ (nextT t).n := by rw [hx]; dsimp only; rw [if_pos hm.lm]; exact hs2
  obtain ⟨h1, h2⟩ := hm.read hok (by decide) hk hs hn2 he h0
  exact ⟨h1, ⟨m + 1, h2, fun hh => by have := hn hh; omega⟩, fun hh => by rw [hc] at hh; simp at hh, h.sh⟩
theorem RS.write (h : RS sg D t c O at_ n sh) (hc : c = false) (hk : (nextT t).kind = 2) {z : Nat} (hz : 1 ≤ z) (hz2 : z ≤ t.s.length) :
    wroteE t z 0 = 0 ∧ RS sg D (wroteT t z 0) c (O ++ t.s.take z) at_ (n + 1) sh := by
  obtain ⟨m, hm, hn⟩ := h.ri
  obtain ⟨_, h1, h2⟩ := hm.write hk hz hz2
  exact ⟨h1, ⟨m + 1, h2, fun hh => by have := hn hh; omega⟩, fun hh => by rw [hc] at hh; simp at hh, h.sh⟩
theorem RS.close (h : RS sg D t false O at_ n sh) (hr : t.r = 13) (hs : t.s = []) : RS sg D t true O at_ (n + 1) (sh + 1) := by
  obtain ⟨m, hm, _⟩ := h.ri
  exact ⟨⟨m, hm, fun hh => by simp at hh⟩, fun _ => ⟨hr, hs⟩, by have := h.sh; simp at this; simp [this]⟩
theorem RS.skip (h : RS sg D t true O at_ n sh) : RS sg D t true O at_ (n + 1) sh := by
  obtain ⟨m, hm, _⟩ := h.ri
  exact ⟨⟨m, hm, fun hh => by simp at hh⟩, h.cl, h.sh⟩
theorem RS.at_le (h : RS sg D t c O at_ n sh) : at_ ≤ D.length := by obtain ⟨m, hm, _⟩ := h.ri; exact hm.le
theorem RS.stage (h : RS sg D t c O at_ n sh) : t.stage = sg := by obtain ⟨m, hm, _⟩ := h.ri; exact hm.sg
theorem RS.olen (h : RS sg D t c O at_ n sh) : O.length + t.s.length = at_ := by obtain ⟨m, hm, _⟩ := h.ri; exact hm.olen
theorem RS.rd (h : RS sg D t c O at_ n sh) : t.rd = at_ := by obtain ⟨m, hm, _⟩ := h.ri; exact hm.rd
end
/-- Nothing goes wrong. -/
theorem noteF_zero {x : WT} (h : x.kind = 4 → x.err = 0) : noteF 0 x = 0 := by
  unfold noteF
  split
  · rename_i hh; exact h hh.1
  · rfl
/-- Both sides of a run, at turn n. -/
structure RB22 (sg : Int) (D0 D1 : List UInt8) (s : SS) (O0 O1 : List UInt8) (a0 a1 s0 s1 n : Nat) : Prop where
  r0 : ∃ m, RS sg D0 s.t0 s.c0 O0 a0 m s0 ∧ (n + 5) / 6 ≤ m
  r1 : ∃ m, RS sg D1 s.t1 s.c1 O1 a1 m s1 ∧ (n + 2) / 6 ≤ m
  first : s.first = 0
theorem RB22.new (sg : Int) (D0 D1 : List UInt8) : RB22 sg D0 D1 (newS22 sg) [] [] 0 0 0 0 0 := ⟨⟨0, RS.new _ _, by omega⟩, ⟨0, RS.new _ _, by omega⟩, rfl⟩
section
variable {sg : Int} {D0 D1 : List UInt8} {s : SS} {O0 O1 : List UInt8} {a0 a1 s0 s1 n : Nat}
/-- A splice that is not done has not had many turns. -/
theorem RB22.few (h : RB22 sg D0 D1 s O0 O1 a0 a1 s0 s1 n) (h0 : D0.length ≤ 200) (h1 : D1.length ≤ 200) (hd : ¬ (s.c0 = true ∧ s.c1 = true)) : n ≤ 2411 := by
  obtain ⟨m0, g0, k0⟩ := h.r0
  obtain ⟨m1, g1, k1⟩ := h.r1
  rcases Bool.eq_false_or_eq_true s.c0 with e0 | e0
  · rcases Bool.eq_false_or_eq_true s.c1 with e1 | e1
    · exact absurd ⟨e0, e1⟩ hd
    · have := g1.small h1 e1; omega
  · have := g0.small h0 e0; omega
theorem RS.err0 {sg : Int} {D : List UInt8} {t : TS} {c : Bool} {O : List UInt8} {at_ n sh : Nat} (h : RS sg D t c O at_ n sh) (hok : TOk t) (i : Int) : (nextS t c i).kind = 4 → (nextS t c i).err = 0 := by
  rcases h.kinds hok i with ⟨_, _, _, _, hx⟩ | ⟨_, _, _, hx⟩ | ⟨_, _, _, _, _, hx⟩ | ⟨_, _, _, hx⟩ <;> rw [hx] <;> simp
/-- A turn of side 0. -/
theorem RB22.turn0 (h : RB22 sg D0 D1 s O0 O1 a0 a1 s0 s1 n) (hn : n % 6 ≠ 3) {s' : SS} {O' : List UInt8} {a' sh' : Nat} (ht : s'.t1 = s.t1) (hc : s'.c1 = s.c1) (hf : s'.first = noteF s.first (nextS s'.t0 s'.c0 0) ∨ s'.first = s.first) (hok : TOk s'.t0)
    (hr : ∀ m, RS sg D0 s.t0 s.c0 O0 a0 m s0 → RS sg D0 s'.t0 s'.c0 O' a' (m + 1) sh') : RB22 sg D0 D1 s' O' O1 a' a1 sh' s1 (n + 1) := by
  obtain ⟨m0, g0, k0⟩ := h.r0
  obtain ⟨m1, g1, k1⟩ := h.r1
  have g := hr m0 g0
  refine ⟨⟨m0 + 1, g, by omega⟩, ⟨m1, by rw [ht, hc]; exact g1, by omega⟩, ?_⟩
  rcases hf with hf | hf
  · rw [hf, h.first]
    exact noteF_zero (g.err0 hok 0)
  · rw [hf, h.first]
/-- A turn of side 1. -/
theorem RB22.turn1 (h : RB22 sg D0 D1 s O0 O1 a0 a1 s0 s1 n) (hn : n % 6 ≠ 0) {s' : SS} {O' : List UInt8} {a' sh' : Nat} (ht : s'.t0 = s.t0) (hc : s'.c0 = s.c0) (hf : s'.first = noteF s.first (nextS s'.t1 s'.c1 1) ∨ s'.first = s.first) (hok : TOk s'.t1)
    (hr : ∀ m, RS sg D1 s.t1 s.c1 O1 a1 m s1 → RS sg D1 s'.t1 s'.c1 O' a' (m + 1) sh') : RB22 sg D0 D1 s' O0 O' a0 a' s0 sh' (n + 1) := by
  obtain ⟨m0, g0, k0⟩ := h.r0
  obtain ⟨m1, g1, k1⟩ := h.r1
  have g := hr m1 g1
  refine ⟨⟨m0, by rw [ht, hc]; exact g0, by omega⟩, ⟨m1 + 1, g, by omega⟩, ?_⟩
  rcases hf with hf | hf
  · rw [hf, h.first]
    exact noteF_zero (g.err0 hok 1)
  · rw [hf, h.first]
end
end Go.Proofs.Ytodpkdbcdbdjfaa
