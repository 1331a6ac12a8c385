/-
  Package splice and its reference: Got, Wrote and Closed for any side, and what is true of every splice.
-/
import Derived.Test.YtodpkdbcdbdjfaaRef22c
namespace Go.Proofs.Ytodpkdbcdbdjfaa
open Go.RowKit
set_option maxRecDepth 100000

theorem noteF_idem (f : Int) (x : WT) : noteF (noteF f x) x = noteF f x := by
  by_cases h : x.kind = 4 ∧ f = 0
  · rw [noteF_yes h.1 h.2]
    by_cases h0 : x.err = 0
    · rw [noteF_yes h.1 h0]
    · exact noteF_no (fun hh => h0 hh.2)
  · rw [noteF_no h, noteF_no h]
theorem noteF_keep {f : Int} {x y : WT} (h : noteF f y = f) : noteF (noteF f x) y = noteF f x := by
  by_cases hx : x.kind = 4 ∧ f = 0
  · rw [noteF_yes hx.1 hx.2]
    by_cases h0 : x.err = 0
    · rw [h0, ← hx.2]
      exact h
    · exact noteF_no (fun hh => h0 hh.2)
  · rw [noteF_no hx]
    exact h
/-- The first error is known of both ways. -/
def Inv22 (s : SS) : Prop := noteF s.first (nextS s.t0 s.c0 0) = s.first ∧ noteF s.first (nextS s.t1 s.c1 1) = s.first
theorem noteR_0 {s : SS} (hI : Inv22 s) (t : TS) (c : Bool) : noteR { s with t0 := t, c0 := c } = note0 { s with t0 := t, c0 := c } := by
  unfold noteR note0
  dsimp only
  rw [noteF_keep hI.2]
theorem noteR_1 {s : SS} (hI : Inv22 s) (t : TS) (c : Bool) : noteR { s with t1 := t, c1 := c } = note1 { s with t1 := t, c1 := c } := by
  unfold noteR note1
  dsimp only
  rw [hI.1]
theorem inv_0 {s : SS} (hI : Inv22 s) (t : TS) (c : Bool) : Inv22 (note0 { s with t0 := t, c0 := c }) := by
  unfold Inv22 note0
  dsimp only
  exact ⟨noteF_idem _ _, noteF_keep hI.2⟩
theorem inv_1 {s : SS} (hI : Inv22 s) (t : TS) (c : Bool) : Inv22 (note1 { s with t1 := t, c1 := c }) := by
  unfold Inv22 note1
  dsimp only
  exact ⟨noteF_keep hI.1, noteF_idem _ _⟩
theorem note0_id {s : SS} (hI : Inv22 s) : note0 s = s := by
  unfold note0
  rw [hI.1]
theorem note1_id {s : SS} (hI : Inv22 s) : note1 s = s := by
  unfold note1
  rw [hI.2]
def newS22 (st : Int) : SS := ⟨newT st (-1), newT st (-1), false, false, 0⟩
theorem newS_inv {st : Int} (h : okS st (-1) = true) : Inv22 (newS22 st) := by
  obtain ⟨h1, h2, _, _⟩ := okS_iff.1 h
  have e : ∀ i, nextS (newT st (-1)) false i = ⟨1, i, st, [], 0⟩ := fun i => by simp [nextS, nextT, newT]
  unfold Inv22 newS22
  dsimp only
  rw [e, e]
  exact ⟨noteF_no (by simp), noteF_no (by simp)⟩

def gotU (s : SS) (i : Int) (p : List UInt8) (e : Int) : SS := if i = 0 then gotS0 s p e else if i = 1 then gotS1 s p e else s
def gotC (s : SS) (i : Int) (p : List UInt8) (e : Int) : Int := if i = 0 then gotE s.t0 p e else if i = 1 then gotE s.t1 p e else 2
def wroteU (s : SS) (i n e : Int) : SS := if i = 0 then wroteS0 s n e else if i = 1 then wroteS1 s n e else s
def wroteC (s : SS) (i n e : Int) : Int := if i = 0 then wroteE s.t0 n e else if i = 1 then wroteE s.t1 n e else 2
def closeU (s : SS) (i : Int) : SS := if i = 0 then closeS0 s else if i = 1 then closeS1 s else s
def closeC (s : SS) (i : Int) : Int := if i = 0 then closeE (nextS s.t0 s.c0 0) else if i = 1 then closeE (nextS s.t1 s.c1 1) else 2

theorem gotU_inv {s : SS} (hI : Inv22 s) (i : Int) (p : List UInt8) (e : Int) : Inv22 (gotU s i p e) := by
  unfold gotU
  split
  · exact inv_0 hI _ _
  · split
    · exact inv_1 hI _ _
    · exact hI
theorem wroteU_inv {s : SS} (hI : Inv22 s) (i n e : Int) : Inv22 (wroteU s i n e) := by
  unfold wroteU
  split
  · exact inv_0 hI _ _
  · split
    · exact inv_1 hI _ _
    · exact hI
theorem closeU_inv {s : SS} (hI : Inv22 s) (i : Int) : Inv22 (closeU s i) := by
  unfold closeU
  split
  · exact inv_0 hI _ _
  · split
    · exact inv_1 hI _ _
    · exact hI
theorem gotU_rd (s : SS) (i : Int) (p : List UInt8) (e : Int) : (gotU s i p e).t0.rd ≤ s.t0.rd + p.length ∧ (gotU s i p e).t1.rd ≤ s.t1.rd + p.length := by
  have h0 := gotT_rd s.t0 p e
  have h1 := gotT_rd s.t1 p e
  unfold gotU
  split
  · exact ⟨h0, by show s.t1.rd ≤ _; omega⟩
  · split
    · exact ⟨by show s.t0.rd ≤ _; omega, h1⟩
    · omega
theorem wroteU_rd (s : SS) (i n e : Int) : (wroteU s i n e).t0.rd ≤ s.t0.rd ∧ (wroteU s i n e).t1.rd ≤ s.t1.rd := by
  have h0 := wroteT_rd s.t0 n e
  have h1 := wroteT_rd s.t1 n e
  unfold wroteU
  split
  · exact ⟨by show (wroteT s.t0 n e).rd ≤ _; omega, Int.le_refl _⟩
  · split
    · exact ⟨Int.le_refl _, by show (wroteT s.t1 n e).rd ≤ _; omega⟩
    · exact ⟨Int.le_refl _, Int.le_refl _⟩
theorem closeU_rd (s : SS) (i : Int) : (closeU s i).t0.rd ≤ s.t0.rd ∧ (closeU s i).t1.rd ≤ s.t1.rd := by
  unfold closeU
  split
  · exact ⟨Int.le_refl _, Int.le_refl _⟩
  · split <;> exact ⟨Int.le_refl _, Int.le_refl _⟩

theorem ne_of {i k : Int} (h : ¬ i = k) : (i != k) = true ∧ (i == k) = false := ⟨by simpa using h, by simpa using h⟩
theorem sp_gotU {w : World} {N0 N1 : Nat → Prop} {b W b0 b1 : Nat} {s : SS} (h : Sp w N0 N1 b W b0 b1 s) (hr0 : s.t0.rd ≤ 4611686018427000000) (hr1 : s.t1.rd ≤ 4611686018427000000) {pa : Option Addr} {pc : Nat} {p : List UInt8} (hs : Sl w pa (bi p)) (hm : p.length ≤ 65536) (e : Int) (i : Int) :
    Calls Try.prog 33 #[.pointer (some ⟨b, 0, none⟩), .int .i64 i, .slice pa p.length pc, .int .i64 e] w fun x w' => x = .returned (.int .i64 (gotC s i p e)) ∧ Fr [b, W, b0, b1] w w' ∧ Sp w' N0 N1 b W b0 b1 (gotU s i p e) := by
  by_cases h0 : i = 0
  · subst h0
    exact sp_got0 h (by omega) hs hm e
  · by_cases h1 : i = 1
    · subst h1
      exact sp_got1 h (by omega) hs hm e
    · have e1 : gotC s i p e = 2 := by unfold gotC; rw [if_neg h0, if_neg h1]
      have e2 : gotU s i p e = s := by unfold gotU; rw [if_neg h0, if_neg h1]
      rw [e1, e2]
      exact (sp_got_bad h.q (ne_of h0).1 (ne_of h1).1 _ _ _ _).mono fun x w' ⟨hx, f⟩ => ⟨hx, f.mono (by simp), h.keep0 f⟩
theorem sp_wroteU {w : World} {N0 N1 : Nat → Prop} {b W b0 b1 : Nat} {s : SS} (h : Sp w N0 N1 b W b0 b1 s) (hr0 : s.t0.rd ≤ 4611686018427000000) (hr1 : s.t1.rd ≤ 4611686018427000000) (n e : Int) (i : Int) :
    Calls Try.prog 34 #[.pointer (some ⟨b, 0, none⟩), .int .i64 i, .int .i64 n, .int .i64 e] w fun x w' => x = .returned (.int .i64 (wroteC s i n e)) ∧ Fr [b, W, b0, b1] w w' ∧ Sp w' N0 N1 b W b0 b1 (wroteU s i n e) := by
  by_cases h0 : i = 0
  · subst h0
    exact sp_wrote0 h (by omega) n e
  · by_cases h1 : i = 1
    · subst h1
      exact sp_wrote1 h (by omega) n e
    · have e1 : wroteC s i n e = 2 := by unfold wroteC; rw [if_neg h0, if_neg h1]
      have e2 : wroteU s i n e = s := by unfold wroteU; rw [if_neg h0, if_neg h1]
      rw [e1, e2]
      exact (sp_wrote_bad h.q (ne_of h0).1 (ne_of h1).1 _ _).mono fun x w' ⟨hx, f⟩ => ⟨hx, f.mono (by simp), h.keep0 f⟩
theorem sp_closeU {w : World} {N0 N1 : Nat → Prop} {b W b0 b1 : Nat} {s : SS} (h : Sp w N0 N1 b W b0 b1 s) (hr0 : s.t0.rd ≤ 4611686018427000000) (hr1 : s.t1.rd ≤ 4611686018427000000)  (i : Int) :
    Calls Try.prog 35 #[.pointer (some ⟨b, 0, none⟩), .int .i64 i] w fun x w' => x = .returned (.int .i64 (closeC s i)) ∧ Fr [b, W, b0, b1] w w' ∧ Sp w' N0 N1 b W b0 b1 (closeU s i) := by
  by_cases h0 : i = 0
  · subst h0
    exact sp_close0 h (by omega)
  · by_cases h1 : i = 1
    · subst h1
      exact sp_close1 h (by omega)
    · have e1 : closeC s i = 2 := by unfold closeC; rw [if_neg h0, if_neg h1]
      have e2 : closeU s i = s := by unfold closeU; rw [if_neg h0, if_neg h1]
      rw [e1, e2]
      exact (sp_close_bad h.q (ne_of h0).1 (ne_of h1).1).mono fun x w' ⟨hx, f⟩ => ⟨hx, f.mono (by simp), h.keep0 f⟩
theorem rs_gotU {w : World} {N : Nat → Prop} {v : Value} {s : SS} (h : Rsp w N v s) (hI : Inv22 s) (ok0 : TOk s.t0) (ok1 : TOk s.t1) (hr0 : s.t0.rd ≤ 4611686018427000000) (hr1 : s.t1.rd ≤ 4611686018427000000) (hN : ∀ x, w.heap.size ≤ x → N x) {pa : Option Addr} {pc : Nat} {p : List UInt8} (hs : Sl w pa (bi p)) (hm : p.length ≤ 65536) (e : Int) (i : Int) :
    Calls Try.prog 72 #[v, .int .i64 i, .slice pa p.length pc, .int .i64 e] w fun x w' => ∃ u, x = .returned (.tuple #[u, .int .i64 (gotC s i p e)]) ∧ Fr [] w w' ∧ Rsp w' N u (gotU s i p e) := by
  by_cases h0 : i = 0
  · subst h0
    refine (rs_got0 h ok0 ok1 (by omega) (by omega) hN hs hm e).mono ?_
    rintro x w' ⟨u, hx, f, hu⟩
    exact ⟨u, hx, f, by have e := noteR_0 hI (gotT s.t0 p e) s.c0; rw [e] at hu; exact hu⟩
  · by_cases h1 : i = 1
    · subst h1
      refine (rs_got1 h ok0 ok1 (by omega) (by omega) hN hs hm e).mono ?_
      rintro x w' ⟨u, hx, f, hu⟩
      exact ⟨u, hx, f, by have e := noteR_1 hI (gotT s.t1 p e) s.c1; rw [e] at hu; exact hu⟩
    · have e1 : gotC s i p e = 2 := by unfold gotC; rw [if_neg h0, if_neg h1]
      have e2 : gotU s i p e = s := by unfold gotU; rw [if_neg h0, if_neg h1]
      rw [e1, e2]
      exact rs_got_bad h (ne_of h0).2 (ne_of h1).2 _ _ _ _
theorem rs_wroteU {w : World} {N : Nat → Prop} {v : Value} {s : SS} (h : Rsp w N v s) (hI : Inv22 s) (ok0 : TOk s.t0) (ok1 : TOk s.t1) (hr0 : s.t0.rd ≤ 4611686018427000000) (hr1 : s.t1.rd ≤ 4611686018427000000) (hN : ∀ x, w.heap.size ≤ x → N x) (n e : Int) (i : Int) :
    Calls Try.prog 73 #[v, .int .i64 i, .int .i64 n, .int .i64 e] w fun x w' => ∃ u, x = .returned (.tuple #[u, .int .i64 (wroteC s i n e)]) ∧ Fr [] w w' ∧ Rsp w' N u (wroteU s i n e) := by
  by_cases h0 : i = 0
  · subst h0
    refine (rs_wrote0 h ok0 ok1 (by omega) (by omega) hN n e).mono ?_
    rintro x w' ⟨u, hx, f, hu⟩
    exact ⟨u, hx, f, by have e := noteR_0 hI (wroteT s.t0 n e) s.c0; rw [e] at hu; exact hu⟩
  · by_cases h1 : i = 1
    · subst h1
      refine (rs_wrote1 h ok0 ok1 (by omega) (by omega) hN n e).mono ?_
      rintro x w' ⟨u, hx, f, hu⟩
      exact ⟨u, hx, f, by have e := noteR_1 hI (wroteT s.t1 n e) s.c1; rw [e] at hu; exact hu⟩
    · have e1 : wroteC s i n e = 2 := by unfold wroteC; rw [if_neg h0, if_neg h1]
      have e2 : wroteU s i n e = s := by unfold wroteU; rw [if_neg h0, if_neg h1]
      rw [e1, e2]
      exact rs_wrote_bad h (ne_of h0).2 (ne_of h1).2 _ _
theorem rs_closeU {w : World} {N : Nat → Prop} {v : Value} {s : SS} (h : Rsp w N v s) (hI : Inv22 s) (ok0 : TOk s.t0) (ok1 : TOk s.t1) (hr0 : s.t0.rd ≤ 4611686018427000000) (hr1 : s.t1.rd ≤ 4611686018427000000)  (i : Int) :
    Calls Try.prog 74 #[v, .int .i64 i] w fun x w' => ∃ u, x = .returned (.tuple #[u, .int .i64 (closeC s i)]) ∧ Fr [] w w' ∧ Rsp w' N u (closeU s i) := by
  by_cases h0 : i = 0
  · subst h0
    refine (rs_closed0 h ok0 ok1 (by omega) (by omega)).mono ?_
    rintro x w' ⟨u, hx, f, hu⟩
    exact ⟨u, hx, f, by
      have e : closeS0 s = if (nextS s.t0 s.c0 0).kind = 3 then noteR { s with c0 := true } else s := by
        unfold closeS0
        by_cases hk : (nextS s.t0 s.c0 0).kind = 3
        · rw [if_pos hk, decide_eq_true hk, Bool.or_true]
          exact (noteR_0 hI s.t0 true).symm
        · rw [if_neg hk, decide_eq_false hk, Bool.or_false]
          exact note0_id hI
      rw [← e] at hu
      exact hu⟩
  · by_cases h1 : i = 1
    · subst h1
      refine (rs_closed1 h ok0 ok1 (by omega) (by omega)).mono ?_
      rintro x w' ⟨u, hx, f, hu⟩
      exact ⟨u, hx, f, by
      have e : closeS1 s = if (nextS s.t1 s.c1 1).kind = 3 then noteR { s with c1 := true } else s := by
        unfold closeS1
        by_cases hk : (nextS s.t1 s.c1 1).kind = 3
        · rw [if_pos hk, decide_eq_true hk, Bool.or_true]
          exact (noteR_1 hI s.t1 true).symm
        · rw [if_neg hk, decide_eq_false hk, Bool.or_false]
          exact note1_id hI
      rw [← e] at hu
      exact hu⟩
    · have e1 : closeC s i = 2 := by unfold closeC; rw [if_neg h0, if_neg h1]
      have e2 : closeU s i = s := by unfold closeU; rw [if_neg h0, if_neg h1]
      rw [e1, e2]
      exact rs_close_bad h (ne_of h0).2 (ne_of h1).2
end Go.Proofs.Ytodpkdbcdbdjfaa
