/-
  Package splice: the contracts of Next, Moved, Done, Got, Wrote and Closed.
-/
import Derived.Test.YtodpkdbcdbdjfaaSp
namespace Go.Proofs.Ytodpkdbcdbdjfaa
open Go.RowKit
set_option maxRecDepth 100000

theorem Tr.empty {w : World} {N N' : Nat → Prop} {b : Nat} {t : TS} (h : Tr w N b t) (hs : t.s = []) (hN : ∀ x, w.heap.size ≤ x → N' x) (hb : ¬ N' b) : Tr w N' b t := by
  obtain ⟨a, cap, P, h1, h2, h3, h4, h5, h6⟩ := h
  have hP : P = [] := by
    have hf : Full P := by obtain ⟨_, _, _, _, _, _, hx, _⟩ := h2; exact hx
    cases P with
    | nil => rfl
    | cons p P =>
      have := hf p (by simp)
      rw [hs] at h3
      simp at h3
      rw [h3.1] at this
      simp at this
  subst hP
  obtain ⟨a', c', e, k1, k2, k3, k4⟩ := h2
  exact ⟨a, cap, [], h1, ⟨a', c', e, k1, k2, PartsAt.nil _ _ _, k4⟩, h3, hb, hN, h6⟩
/-- What Closed says. -/
def closeE (x : WT) : Int := if x.kind = 3 then 0 else 8
def gotS0 (s : SS) (p : List UInt8) (e : Int) : SS := note0 { s with t0 := gotT s.t0 p e }
def gotS1 (s : SS) (p : List UInt8) (e : Int) : SS := note1 { s with t1 := gotT s.t1 p e }
def wroteS0 (s : SS) (n e : Int) : SS := note0 { s with t0 := wroteT s.t0 n e }
def wroteS1 (s : SS) (n e : Int) : SS := note1 { s with t1 := wroteT s.t1 n e }
def closeS0 (s : SS) : SS := note0 { s with c0 := s.c0 || decide ((nextS s.t0 s.c0 0).kind = 3) }
def closeS1 (s : SS) : SS := note1 { s with c1 := s.c1 || decide ((nextS s.t1 s.c1 1).kind = 3) }
theorem gotT_w (t : TS) (p : List UInt8) (e : Int) : (gotT t p e).w = t.w := by unfold gotT; split <;> rfl
theorem gotT_r (t : TS) (p : List UInt8) (e : Int) : (gotT t p e).r = if gotE t p e = 0 then e else t.r := by unfold gotT; split <;> simp_all
theorem wroteT_r (t : TS) (n e : Int) : (wroteT t n e).r = t.r := by unfold wroteT; split <;> rfl
theorem wroteT_w (t : TS) (n e : Int) : (wroteT t n e).w = if wroteE t n e = 0 then e else t.w := by unfold wroteT; split <;> simp_all

set_option maxHeartbeats 2000000 in
theorem sp_next0 {w : World} {N0 N1 : Nat → Prop} {b W b0 b1 : Nat} {s : SS} (h : Sp w N0 N1 b W b0 b1 s) (hr : s.t0.rd ≤ 4611686018427387904) :
    Calls Try.prog 36 #[.pointer (some ⟨b, 0, none⟩), .int .i64 0] w fun e w' => ∃ v, e = .returned (.tuple #[v, .int .i64 0]) ∧ Fr [] w w' ∧ Wv w' w.heap.size v (nextS s.t0 s.c0 0) := by
  obtain ⟨w1, hw1, f1, hz, b0'⟩ : ∃ W, w.alloc (.cells #[.int .i64 0, .int .i64 0, .int .i64 0, .slice none 0 0, .int .i64 0] 32) = W ∧ Fr [] w W ∧ w.heap.size < W.heap.size ∧ WB W w.heap.size (.int .i64 0) (.int .i64 0) (.int .i64 0) (.slice none 0 0) (.int .i64 0) := ⟨_, rfl, (Fr.refl _ _).alloc _, by simp, newA rfl⟩
  have h' := h.keep0 f1
  have HCK := Lib.hid (sp_check_ok h'.q (i := 0) (by simp))
  have HW := Lib.hid (way_next (k := 0) h'.h0 hr (cell_of h'.y) (cell_of h'.y) (cell_of h'.y) (cell_of h'.y) (i := 0) (by omega) (by omega))
  have c0 : w1.cell? ⟨b, 0, none⟩ = some (.pointer (some ⟨W, 0, none⟩)) := cell_of h'.q
  have hW := h'.lt.2.1
  clear h h' hr
  generalize nextS s.t0 s.c0 0 = x at *
  obtain ⟨xk, xs, xn, xd, xe⟩ := x
  go_enter Try.func36, Try.ntmps36
  go_wp2_with fail
  refine HCK.out.mono ?_
  rintro e w' ⟨rfl, rfl⟩
  go_wp2_with fail
  refine HW.out.mono ?_
  rintro e w2 ⟨v, rfl, f2, u, rfl, ou⟩
  obtain ⟨ga, gc, rfl, _⟩ := ou.formB
  have b2 : WB w2 w.heap.size _ _ _ _ _ := f2.keep b0' (by simp)
  obtain ⟨x0, x1, x2, x3, x4, x5, x6, x7, x8, x9⟩ := b2.cells
  have HB := Lib.hid b2
  have HO := Lib.hid ou
  clear b2 ou b0' hw1
  dsimp only
  go_wp2_with fail
  obtain ⟨W3, hW3, g3, q3, wv⟩ := five_fin (w := w) (k := xk) (s := xs) (n := xn) (e := xe) (u := .slice ga xd.length gc) (l := xd) HB.out (f1.then0 f2) (Nat.le_refl _) HO.out hz
  rw [← hW3]
  obtain ⟨s0, s1, s2, s3, s4, _⟩ := q3.cells
  refine bodyPost_ret (v := .tuple #[.agg #[.int .i64 xk, .int .i64 xs, .int .i64 xn, .slice ga xd.length gc, .int .i64 xe], .int .i64 0]) (by simp [results, Try.results36, go_sem, s0, s1, s2, s3, s4]) rfl ?_
  exact ⟨_, rfl, g3, wv⟩

set_option maxHeartbeats 2000000 in
theorem sp_next1 {w : World} {N0 N1 : Nat → Prop} {b W b0 b1 : Nat} {s : SS} (h : Sp w N0 N1 b W b0 b1 s) (hr : s.t1.rd ≤ 4611686018427387904) :
    Calls Try.prog 36 #[.pointer (some ⟨b, 0, none⟩), .int .i64 1] w fun e w' => ∃ v, e = .returned (.tuple #[v, .int .i64 0]) ∧ Fr [] w w' ∧ Wv w' w.heap.size v (nextS s.t1 s.c1 1) := by
  obtain ⟨w1, hw1, f1, hz, b0'⟩ : ∃ W, w.alloc (.cells #[.int .i64 0, .int .i64 0, .int .i64 0, .slice none 0 0, .int .i64 0] 32) = W ∧ Fr [] w W ∧ w.heap.size < W.heap.size ∧ WB W w.heap.size (.int .i64 0) (.int .i64 0) (.int .i64 0) (.slice none 0 0) (.int .i64 0) := ⟨_, rfl, (Fr.refl _ _).alloc _, by simp, newA rfl⟩
  have h' := h.keep0 f1
  have HCK := Lib.hid (sp_check_ok h'.q (i := 1) (by simp))
  have HW := Lib.hid (way_next (k := 4) h'.h1 hr (cell_of h'.y) (cell_of h'.y) (cell_of h'.y) (cell_of h'.y) (i := 1) (by omega) (by omega))
  have c0 : w1.cell? ⟨b, 0, none⟩ = some (.pointer (some ⟨W, 0, none⟩)) := cell_of h'.q
  have hW := h'.lt.2.1
  clear h h' hr
  generalize nextS s.t1 s.c1 1 = x at *
  obtain ⟨xk, xs, xn, xd, xe⟩ := x
  go_enter Try.func36, Try.ntmps36
  go_wp2_with fail
  refine HCK.out.mono ?_
  rintro e w' ⟨rfl, rfl⟩
  go_wp2_with fail
  refine HW.out.mono ?_
  rintro e w2 ⟨v, rfl, f2, u, rfl, ou⟩
  obtain ⟨ga, gc, rfl, _⟩ := ou.formB
  have b2 : WB w2 w.heap.size _ _ _ _ _ := f2.keep b0' (by simp)
  obtain ⟨x0, x1, x2, x3, x4, x5, x6, x7, x8, x9⟩ := b2.cells
  have HB := Lib.hid b2
  have HO := Lib.hid ou
  clear b2 ou b0' hw1
  dsimp only
  go_wp2_with fail
  obtain ⟨W3, hW3, g3, q3, wv⟩ := five_fin (w := w) (k := xk) (s := xs) (n := xn) (e := xe) (u := .slice ga xd.length gc) (l := xd) HB.out (f1.then0 f2) (Nat.le_refl _) HO.out hz
  rw [← hW3]
  obtain ⟨s0, s1, s2, s3, s4, _⟩ := q3.cells
  refine bodyPost_ret (v := .tuple #[.agg #[.int .i64 xk, .int .i64 xs, .int .i64 xn, .slice ga xd.length gc, .int .i64 xe], .int .i64 0]) (by simp [results, Try.results36, go_sem, s0, s1, s2, s3, s4]) rfl ?_
  exact ⟨_, rfl, g3, wv⟩
theorem sp_next_bad {w : World} {b W : Nat} {f : Int} (h : w.heap[b]? = some (.cells #[.pointer (some ⟨W, 0, none⟩), .int .i64 f] 103 (0, 0))) {i : Int} (hi : (i != 0) = true) (hi1 : (i != 1) = true) :
    Calls Try.prog 36 #[.pointer (some ⟨b, 0, none⟩), .int .i64 i] w fun e w' => e = .returned (.tuple #[.agg #[.int .i64 0, .int .i64 0, .int .i64 0, .slice none 0 0, .int .i64 0], .int .i64 2]) ∧ Fr [] w w' := by
  obtain ⟨w1, hw1, f1, hz, b0'⟩ : ∃ W, w.alloc (.cells #[.int .i64 0, .int .i64 0, .int .i64 0, .slice none 0 0, .int .i64 0] 32) = W ∧ Fr [] w W ∧ w.heap.size < W.heap.size ∧ WB W w.heap.size (.int .i64 0) (.int .i64 0) (.int .i64 0) (.slice none 0 0) (.int .i64 0) := ⟨_, rfl, (Fr.refl _ _).alloc _, by simp, newA rfl⟩
  have HCK := Lib.hid (sp_check_bad (f1.keep h (by simp)) hi hi1)
  clear h
  obtain ⟨x0, x1, x2, x3, x4, x5, x6, x7, x8, x9⟩ := WB.cells b0'
  go_enter Try.func36, Try.ntmps36
  go_wp2_with fail
  refine HCK.out.mono ?_
  rintro e w' ⟨rfl, rfl⟩
  go_wp2_with fail
  obtain ⟨W3, hW3, g3, q3, wv⟩ := five_fin (w := w) (k := 0) (s := 0) (n := 0) (e := 0) (u := .slice none 0 0) (l := []) (M := w.heap.size + 1) b0' f1 (Nat.le_refl _) (Ow.nil _ _ _) (Nat.lt_succ_self _)
  rw [← hW3]
  obtain ⟨s0, s1, s2, s3, s4, _⟩ := q3.cells
  refine bodyPost_ret (v := .tuple #[.agg #[.int .i64 0, .int .i64 0, .int .i64 0, .slice none 0 0, .int .i64 0], .int .i64 2]) (by simp [results, Try.results36, go_sem, s0, s1, s2, s3, s4]) rfl ?_
  exact ⟨rfl, g3⟩
theorem sp_next_z {w : World} {r : Option Addr} (h : Zs w r) (i : Int) :
    Calls Try.prog 36 #[.pointer r, .int .i64 i] w fun e w' => e = .returned (.tuple #[.agg #[.int .i64 0, .int .i64 0, .int .i64 0, .slice none 0 0, .int .i64 0], .int .i64 1]) ∧ Fr [] w w' := by
  obtain ⟨w1, hw1, f1, hz, b0'⟩ : ∃ W, w.alloc (.cells #[.int .i64 0, .int .i64 0, .int .i64 0, .slice none 0 0, .int .i64 0] 32) = W ∧ Fr [] w W ∧ w.heap.size < W.heap.size ∧ WB W w.heap.size (.int .i64 0) (.int .i64 0) (.int .i64 0) (.slice none 0 0) (.int .i64 0) := ⟨_, rfl, (Fr.refl _ _).alloc _, by simp, newA rfl⟩
  have HCK := Lib.hid (sp_check_z (h.keep f1) i)
  clear h
  obtain ⟨x0, x1, x2, x3, x4, x5, x6, x7, x8, x9⟩ := WB.cells b0'
  go_enter Try.func36, Try.ntmps36
  go_wp2_with fail
  refine HCK.out.mono ?_
  rintro e w' ⟨rfl, rfl⟩
  go_wp2_with fail
  obtain ⟨W3, hW3, g3, q3, wv⟩ := five_fin (w := w) (k := 0) (s := 0) (n := 0) (e := 0) (u := .slice none 0 0) (l := []) (M := w.heap.size + 1) b0' f1 (Nat.le_refl _) (Ow.nil _ _ _) (Nat.lt_succ_self _)
  rw [← hW3]
  obtain ⟨s0, s1, s2, s3, s4, _⟩ := q3.cells
  refine bodyPost_ret (v := .tuple #[.agg #[.int .i64 0, .int .i64 0, .int .i64 0, .slice none 0 0, .int .i64 0], .int .i64 1]) (by simp [results, Try.results36, go_sem, s0, s1, s2, s3, s4]) rfl ?_
  exact ⟨rfl, g3⟩

theorem sp_moved0 {w : World} {N0 N1 : Nat → Prop} {b W b0 b1 : Nat} {s : SS} (h : Sp w N0 N1 b W b0 b1 s) :
    Calls Try.prog 69 #[.pointer (some ⟨b, 0, none⟩), .int .i64 0] w fun e w' => e = .returned (.tuple #[.int .i64 s.t0.wr, .int .i64 0]) ∧ Fr [] w w' := by
  have HCK := Lib.hid (sp_check_ok h.q (i := 0) (by simp))
  have HM := Lib.hid (tr_movedT h.h0)
  have c0 : w.cell? ⟨b, 0, none⟩ = some (.pointer (some ⟨W, 0, none⟩)) := cell_of h.q
  have c1 : w.cell? ⟨W, 0, none⟩ = some (.pointer (some ⟨b0, 0, none⟩)) := cell_of h.y
  clear h
  go_enter Try.func69, Try.ntmps69
  go_wp2_with fail
  refine HCK.out.mono ?_
  rintro e w' ⟨rfl, rfl⟩
  go_wp2_with fail
  refine HM.out.mono ?_
  rintro e w' ⟨rfl, f⟩
  go_wp2_with fail
  go_ret2
  exact ⟨rfl, f⟩

theorem sp_moved1 {w : World} {N0 N1 : Nat → Prop} {b W b0 b1 : Nat} {s : SS} (h : Sp w N0 N1 b W b0 b1 s) :
    Calls Try.prog 69 #[.pointer (some ⟨b, 0, none⟩), .int .i64 1] w fun e w' => e = .returned (.tuple #[.int .i64 s.t1.wr, .int .i64 0]) ∧ Fr [] w w' := by
  have HCK := Lib.hid (sp_check_ok h.q (i := 1) (by simp))
  have HM := Lib.hid (tr_movedT h.h1)
  have c0 : w.cell? ⟨b, 0, none⟩ = some (.pointer (some ⟨W, 0, none⟩)) := cell_of h.q
  have c1 : w.cell? ⟨W, 4, none⟩ = some (.pointer (some ⟨b1, 0, none⟩)) := cell_of h.y
  clear h
  go_enter Try.func69, Try.ntmps69
  go_wp2_with fail
  refine HCK.out.mono ?_
  rintro e w' ⟨rfl, rfl⟩
  go_wp2_with fail
  refine HM.out.mono ?_
  rintro e w' ⟨rfl, f⟩
  go_wp2_with fail
  go_ret2
  exact ⟨rfl, f⟩
theorem sp_moved_bad {w : World} {b W : Nat} {f : Int} (h : w.heap[b]? = some (.cells #[.pointer (some ⟨W, 0, none⟩), .int .i64 f] 103 (0, 0))) {i : Int} (hi : (i != 0) = true) (hi1 : (i != 1) = true) :
    Calls Try.prog 69 #[.pointer (some ⟨b, 0, none⟩), .int .i64 i] w fun e w' => e = .returned (.tuple #[.int .i64 0, .int .i64 2]) ∧ Fr [] w w' := by
  have HCK := Lib.hid (sp_check_bad h hi hi1)
  clear h
  go_enter Try.func69, Try.ntmps69
  go_wp2_with fail
  refine HCK.out.mono ?_
  rintro e w' ⟨rfl, rfl⟩
  go_wp2_with fail
  go_ret2
  exact ⟨rfl, Fr.refl _ _⟩
theorem sp_moved_z {w : World} {r : Option Addr} (h : Zs w r) (i : Int) :
    Calls Try.prog 69 #[.pointer r, .int .i64 i] w fun e w' => e = .returned (.tuple #[.int .i64 0, .int .i64 1]) ∧ Fr [] w w' := by
  have HCK := Lib.hid (sp_check_z h i)
  clear h
  go_enter Try.func69, Try.ntmps69
  go_wp2_with fail
  refine HCK.out.mono ?_
  rintro e w' ⟨rfl, rfl⟩
  go_wp2_with fail
  go_ret2
  exact ⟨rfl, Fr.refl _ _⟩

theorem sp_done_z {w : World} {r : Option Addr} (h : Zs w r) :
    Calls Try.prog 39 #[.pointer r] w fun e w' => e = .returned (.tuple #[.bool false, .int .i64 0]) ∧ Fr [] w w' := by
  have HCK := Lib.hid (sp_check_z h 0)
  clear h
  go_enter Try.func39, Try.ntmps39
  go_wp2_with fail
  refine HCK.out.mono ?_
  rintro e w' ⟨rfl, rfl⟩
  go_wp2_with fail
  go_ret2
  exact ⟨rfl, Fr.refl _ _⟩
set_option maxHeartbeats 2000000 in
theorem sp_done {w : World} {N0 N1 : Nat → Prop} {b W b0 b1 : Nat} {s : SS} (h : Sp w N0 N1 b W b0 b1 s) (hr0 : s.t0.rd ≤ 4611686018427387904) (hr1 : s.t1.rd ≤ 4611686018427387904) :
    Calls Try.prog 39 #[.pointer (some ⟨b, 0, none⟩)] w fun e w' => e = .returned (.tuple #[.bool (decide ((nextS s.t0 s.c0 0).kind = 4) && decide ((nextS s.t1 s.c1 1).kind = 4)), .int .i64 s.first]) ∧ Fr [] w w' := by
  have hfld : ∀ (x0 x1 x2 x3 x4 : Value) (w : World), (Instr.field 32 (.agg #[x0, x1, x2, x3, x4]) 0).run Try.prog w = .ok x0 w := fun _ _ _ _ _ _ => by kernel_rfl
  have HCK := Lib.hid (sp_check_ok h.q (i := 0) (by simp))
  have HW0 := Lib.hid fun w1 (f : Fr [] w w1) => (fun h' : Sp w1 N0 N1 b W b0 b1 s => way_next (k := 0) h'.h0 hr0 (cell_of h'.y) (cell_of h'.y) (cell_of h'.y) (cell_of h'.y) (i := 0) (by omega) (by omega)) (h.keep0 f)
  have HW1 := Lib.hid fun w1 (f : Fr [] w w1) => (fun h' : Sp w1 N0 N1 b W b0 b1 s => way_next (k := 4) h'.h1 hr1 (cell_of h'.y) (cell_of h'.y) (cell_of h'.y) (cell_of h'.y) (i := 1) (by omega) (by omega)) (h.keep0 f)
  have HC := Lib.hid fun w1 (f : Fr [] w w1) => (show w1.cell? ⟨b, 0, none⟩ = some (.pointer (some ⟨W, 0, none⟩)) ∧ w1.cell? ⟨b, 1, none⟩ = some (.int .i64 s.first) from ⟨cell_of (h.keep0 f).q, cell_of (h.keep0 f).q⟩)
  have hWl := h.lt.2.1
  clear h hr0 hr1
  generalize nextS s.t0 s.c0 0 = x at *
  generalize nextS s.t1 s.c1 1 = y at *
  generalize s.first = sf at *
  obtain ⟨xk, xs, xn, xd, xe⟩ := x
  obtain ⟨yk, ys, yn, yd, ye⟩ := y
  dsimp only
  go_enter Try.func39, Try.ntmps39
  go_wp2_with fail
  refine HCK.out.mono ?_
  rintro e w' ⟨rfl, rfl⟩
  clear HCK
  go_wp2_with fail
  go_loopw [8] (fun i wr => ∃ k : Nat, i = .int .i64 k ∧ k ≤ 2 ∧ Fr [] w wr ∧ (1 ≤ k → xk = 4) ∧ (2 ≤ k → yk = 4)) (fun i _ => 3 - (intOf i).toNat)
  case atStart => exact ⟨0, rfl, by omega, Fr.refl _ _, by omega, by omega⟩
  case round =>
    obtain ⟨k, rfl, hk, g, e1, e2⟩ := hrel
    obtain ⟨d0, d1⟩ := HC.out _ g
    have hWz : W < wr.heap.size := Nat.lt_of_lt_of_le hWl g.size
    rcases (show k = 0 ∨ k = 1 ∨ k = 2 from by omega) with rfl | rfl | rfl
    · clear e1 e2
      go_wp2_with fail
      refine (HW0.out _ g).mono ?_
      rintro e w1 ⟨v, rfl, f1, u, rfl, ou⟩
      obtain ⟨ga, gc, rfl, _⟩ := ou.formB
      have g1 := g.then0 f1
      clear d0 d1 ou
      obtain ⟨d0, d1⟩ := HC.out _ g1
      by_cases h4 : xk = 4
      · subst h4
        go_wp2_with fail
        go_roundw
        case rel => exact ⟨1, rfl, by omega, g1, by simp, by simp⟩
        case measure => simp [intOf]
      · have h4' : (xk != 4) = true := by simpa using h4
        have hd : decide (xk = 4) = false := by simpa using h4
        go_wp2_with fail
        go_region
        go_wp2_with fail
        go_ret2
        exact ⟨by simp [h4], g1.drew⟩
    · have h4 := e1 (by omega)
      subst h4
      clear e1 e2
      go_wp2_with fail
      refine (HW1.out _ g).mono ?_
      rintro e w1 ⟨v, rfl, f1, u, rfl, ou⟩
      obtain ⟨ga, gc, rfl, _⟩ := ou.formB
      have g1 := g.then0 f1
      clear d0 d1 ou
      obtain ⟨d0, d1⟩ := HC.out _ g1
      by_cases h4 : yk = 4
      · subst h4
        go_wp2_with fail
        go_roundw
        case rel => exact ⟨2, rfl, by omega, g1, by simp, by simp⟩
        case measure => simp [intOf]
      · have h4' : (yk != 4) = true := by simpa using h4
        have hd : decide (yk = 4) = false := by simpa using h4
        go_wp2_with fail
        go_region
        go_wp2_with fail
        go_ret2
        exact ⟨by simp [h4], g1.drew⟩
    · have h4 := e1 (by omega)
      have h5 := e2 (by omega)
      subst h4 h5
      go_wp2_with fail
      go_region
      go_wp2_with fail
      go_ret2
      exact ⟨rfl, g.drew⟩

set_option maxHeartbeats 4000000 in
theorem got_fn0 {w : World} {N0 N1 : Nat → Prop} {b W b0 b1 : Nat} {s : SS} (h : Sp w N0 N1 b W b0 b1 s) {B6 B7 : Nat} {x6 x7 : TypeId} {pa : Option Addr} {pc : Nat} {p : List UInt8} {e : Int} (p6 : w.heap[B6]? = some (.cells #[.slice pa p.length pc] x6 (0, 0))) (p7 : w.heap[B7]? = some (.cells #[.int .i64 e] x7 (0, 0))) (n6 : b0 ≠ B6) (n7 : b0 ≠ B7) (hs : Sl w pa (bi p)) (hm : p.length ≤ 65536) (hr : s.t0.rd ≤ 4611686018427387904) :
    Calls Try.prog 64 (#[.pointer (some ⟨W, 0, none⟩)] ++ #[.pointer (some ⟨B6, 0, none⟩), .pointer (some ⟨B7, 0, none⟩)]) w fun x w' => x = .returned (.int .i64 (gotE s.t0 p e)) ∧ Fr [W, b0] w w' ∧ Sp w' N0 N1 b W b0 b1 { s with t0 := gotT s.t0 p e } := by
  have fd : Fr [] w w.drew := (Fr.refl _ _).drew
  have HG := Lib.hid (tr_got (pcap := pc) (h.h0.keep0 fd) hr (sl_keep hs fd (by simp)) rfl hm e)
  have HH := Lib.hid h
  have hnd := h.nd
  have HS := Lib.hid fun w' (f : Fr [b0] w w') => (show w'.cell? ⟨W, 0, none⟩ = some (.pointer (some ⟨b0, 0, none⟩)) ∧ w'.cell? ⟨B6, 0, none⟩ = some (.slice pa p.length pc) ∧ w'.cell? ⟨B7, 0, none⟩ = some (.int .i64 e) from
    ⟨cell_of (f.keep h.y (by simp; omega)), cell_of (f.keep p6 (by simp; omega)), cell_of (f.keep p7 (by simp; omega))⟩)
  obtain ⟨d0, d6, d7⟩ := HS.out w.drew ((Fr.refl _ _).drew)
  have hWz := h.lt.2.1
  have HGT : Hid ((gotT s.t0 p e).w = s.t0.w ∧ (gotT s.t0 p e).r = if gotE s.t0 p e = 0 then e else s.t0.r) := Lib.hid ⟨gotT_w _ _ _, gotT_r _ _ _⟩
  clear h p6 p7 hs hm hr
  generalize gotE s.t0 p e = ge at *
  generalize gotT s.t0 p e = gt at *
  go_enter Try.func64, Try.ntmps64
  go_wp2_with fail
  go_region_held3 (fun w' => w'.cell? ⟨W, 0, none⟩ = some (.pointer (some ⟨b0, 0, none⟩)) ∧ w'.cell? ⟨B6, 0, none⟩ = some (.slice pa p.length pc) ∧ w'.cell? ⟨B7, 0, none⟩ = some (.int .i64 e))
    (first | (with_reducible exact ⟨d0, d6, d7⟩) | (with_reducible exact HS2))
    (first | (go_at_call 18; refine HG.out.mono ?_; rintro e1 w1 ⟨rfl, g1', hT⟩; have g1 : Fr [b0] w w1 := Fr.undrew (show Fr [b0] w.drew w1 from g1'); have HS2 := HS.out w1 g1))
  obtain ⟨d0, d6, d7⟩ := HS2
  have h := HH.out
  have hy := g1.keep h.y (by simp; omega)
  have hq := g1.keep h.q (by simp; omega)
  have ho := h.h1.keep g1 (by simp; omega) (by simp; exact h.n1.2.2)
  have hW1 := Nat.lt_of_lt_of_le hWz g1.size
  have fz : w1.frozen? ⟨W, 0 + 1, none⟩ = false := free_of hy
  have c1 : w1.cell? ⟨W, 0 + 1, none⟩ = some (.int .i64 s.t0.r) := cell_of hy
  simp only [Nat.reduceAdd, Nat.zero_add] at fz c1
  have HALL := Lib.hid (And.intro hy (And.intro hq (And.intro ho (And.intro hT g1))))
  clear hy hq ho hT h g1 g1'
  by_cases hg : ge = 0
  · subst hg
    go_wp2_with fail
    go_ret
    obtain ⟨hy, hq, ho, hT, g1⟩ := HALL.out
    obtain ⟨gw, gr⟩ := HGT.out
    replace gr := gr.trans (by simp : _ = e)
    have f2 : Fr [W] w1 (w1.setCell ⟨W, 0 + 1, none⟩ (.int .i64 e)) := (Fr.refl _ _).setCell (.inl (by simp)) _
    have hy2 := heap_setCell_eq (i := 0 + 1) (u := .int .i64 e) hy
    have h := HH.out
    simp only [Nat.reduceAdd, Nat.zero_add] at f2 hy2
    refine ⟨rfl, g1.trans f2 (fun _ h => .inl (List.mem_cons_of_mem _ h)) (fun x hx => .inl (by simp at hx; simp [hx])), f2.keep hq (by simp; omega), ?_, hT.keep f2 (by simp; omega) (by simp; exact h.n0.2.1), ho.keep f2 (by simp; omega) (by simp; exact h.n1.2.1), h.n0, h.n1, h.nd⟩
    dsimp only
    rw [gw, gr]
    simpa using hy2
  · have hg' : (ge == 0) = false := by simpa using hg
    go_wp2_with fail
    go_ret
    obtain ⟨hy, hq, ho, hT, g1⟩ := HALL.out
    obtain ⟨gw, gr⟩ := HGT.out
    replace gr := gr.trans (if_neg hg)
    have h := HH.out
    refine ⟨rfl, g1.mono (fun x hx => .inl (List.mem_cons_of_mem _ hx)), hq, ?_, hT, ho, h.n0, h.n1, h.nd⟩
    dsimp only
    rw [gw, gr]
    exact hy

set_option maxHeartbeats 4000000 in
theorem wrote_fn0 {w : World} {N0 N1 : Nat → Prop} {b W b0 b1 : Nat} {s : SS} (h : Sp w N0 N1 b W b0 b1 s) {B6 B7 : Nat} {x6 x7 : TypeId} {n e : Int} (p6 : w.heap[B6]? = some (.cells #[.int .i64 n] x6 (0, 0))) (p7 : w.heap[B7]? = some (.cells #[.int .i64 e] x7 (0, 0))) (n6 : b0 ≠ B6) (n7 : b0 ≠ B7) (hr : s.t0.rd ≤ 4611686018427387904) :
    Calls Try.prog 65 (#[.pointer (some ⟨W, 0, none⟩)] ++ #[.pointer (some ⟨B6, 0, none⟩), .pointer (some ⟨B7, 0, none⟩)]) w fun x w' => x = .returned (.int .i64 (wroteE s.t0 n e)) ∧ Fr [W, b0] w w' ∧ Sp w' N0 N1 b W b0 b1 { s with t0 := wroteT s.t0 n e } := by
  have fd : Fr [] w w.drew := (Fr.refl _ _).drew
  have HG := Lib.hid (tr_wrote (h.h0.keep0 fd) hr n e)
  have HH := Lib.hid h
  have hnd := h.nd
  have HS := Lib.hid fun w' (f : Fr [b0] w w') => (show w'.cell? ⟨W, 0, none⟩ = some (.pointer (some ⟨b0, 0, none⟩)) ∧ w'.cell? ⟨B6, 0, none⟩ = some (.int .i64 n) ∧ w'.cell? ⟨B7, 0, none⟩ = some (.int .i64 e) from
    ⟨cell_of (f.keep h.y (by simp; omega)), cell_of (f.keep p6 (by simp; omega)), cell_of (f.keep p7 (by simp; omega))⟩)
  obtain ⟨d0, d6, d7⟩ := HS.out w.drew ((Fr.refl _ _).drew)
  have hWz := h.lt.2.1
  have HGT : Hid ((wroteT s.t0 n e).r = s.t0.r ∧ (wroteT s.t0 n e).w = if wroteE s.t0 n e = 0 then e else s.t0.w) := Lib.hid ⟨wroteT_r _ _ _, wroteT_w _ _ _⟩
  clear h p6 p7 hr
  generalize wroteE s.t0 n e = ge at *
  generalize wroteT s.t0 n e = gt at *
  go_enter Try.func65, Try.ntmps65
  go_wp2_with fail
  go_region_held3 (fun w' => w'.cell? ⟨W, 0, none⟩ = some (.pointer (some ⟨b0, 0, none⟩)) ∧ w'.cell? ⟨B6, 0, none⟩ = some (.int .i64 n) ∧ w'.cell? ⟨B7, 0, none⟩ = some (.int .i64 e))
    (first | (with_reducible exact ⟨d0, d6, d7⟩) | (with_reducible exact HS2))
    (first | (go_at_call 19; refine HG.out.mono ?_; rintro e1 w1 ⟨rfl, g1', hT⟩; have g1 : Fr [b0] w w1 := Fr.undrew (show Fr [b0] w.drew w1 from g1'); have HS2 := HS.out w1 g1))
  obtain ⟨d0, d6, d7⟩ := HS2
  have h := HH.out
  have hy := g1.keep h.y (by simp; omega)
  have hq := g1.keep h.q (by simp; omega)
  have ho := h.h1.keep g1 (by simp; omega) (by simp; exact h.n1.2.2)
  have hW1 := Nat.lt_of_lt_of_le hWz g1.size
  have fz : w1.frozen? ⟨W, 0 + 2, none⟩ = false := free_of hy
  have c1 : w1.cell? ⟨W, 0 + 2, none⟩ = some (.int .i64 s.t0.w) := cell_of hy
  simp only [Nat.reduceAdd, Nat.zero_add] at fz c1
  have HALL := Lib.hid (And.intro hy (And.intro hq (And.intro ho (And.intro hT g1))))
  clear hy hq ho hT h g1 g1'
  by_cases hg : ge = 0
  · subst hg
    go_wp2_with fail
    go_ret
    obtain ⟨hy, hq, ho, hT, g1⟩ := HALL.out
    obtain ⟨gw, gr⟩ := HGT.out
    replace gr := gr.trans (by simp : _ = e)
    have f2 : Fr [W] w1 (w1.setCell ⟨W, 0 + 2, none⟩ (.int .i64 e)) := (Fr.refl _ _).setCell (.inl (by simp)) _
    have hy2 := heap_setCell_eq (i := 0 + 2) (u := .int .i64 e) hy
    have h := HH.out
    simp only [Nat.reduceAdd, Nat.zero_add] at f2 hy2
    refine ⟨rfl, g1.trans f2 (fun _ h => .inl (List.mem_cons_of_mem _ h)) (fun x hx => .inl (by simp at hx; simp [hx])), f2.keep hq (by simp; omega), ?_, hT.keep f2 (by simp; omega) (by simp; exact h.n0.2.1), ho.keep f2 (by simp; omega) (by simp; exact h.n1.2.1), h.n0, h.n1, h.nd⟩
    dsimp only
    rw [gw, gr]
    simpa using hy2
  · have hg' : (ge == 0) = false := by simpa using hg
    go_wp2_with fail
    go_ret
    obtain ⟨hy, hq, ho, hT, g1⟩ := HALL.out
    obtain ⟨gw, gr⟩ := HGT.out
    replace gr := gr.trans (if_neg hg)
    have h := HH.out
    refine ⟨rfl, g1.mono (fun x hx => .inl (List.mem_cons_of_mem _ hx)), hq, ?_, hT, ho, h.n0, h.n1, h.nd⟩
    dsimp only
    rw [gw, gr]
    exact hy

set_option maxHeartbeats 4000000 in
theorem close_fn0 {w : World} {N0 N1 : Nat → Prop} {b W b0 b1 : Nat} {s : SS} (h : Sp w N0 N1 b W b0 b1 s) {B3 : Nat} {x3 : TypeId} (p3 : w.heap[B3]? = some (.cells #[.int .i64 0] x3 (0, 0))) (hr : s.t0.rd ≤ 4611686018427387904) :
    Calls Try.prog 66 (#[.pointer (some ⟨W, 0, none⟩)] ++ #[.pointer (some ⟨B3, 0, none⟩)]) w fun x w' => x = .returned (.int .i64 (closeE (nextS s.t0 s.c0 0))) ∧ Fr [W] w w' ∧ Sp w' N0 N1 b W b0 b1 { s with c0 := s.c0 || decide ((nextS s.t0 s.c0 0).kind = 3) } := by
  have hfld : ∀ (x0 x1 x2 x3 x4 : Value) (w : World), (Instr.field 32 (.agg #[x0, x1, x2, x3, x4]) 0).run Try.prog w = .ok x0 w := fun _ _ _ _ _ _ => by kernel_rfl
  have HW := Lib.hid (way_next (k := 0) h.h0 hr (cell_of h.y) (cell_of h.y) (cell_of h.y) (cell_of h.y) (i := 0) (by omega) (by omega))
  have HH := Lib.hid h
  have hnd := h.nd
  have d3 : w.cell? ⟨B3, 0, none⟩ = some (.int .i64 0) := cell_of p3
  have hWz := h.lt.2.1
  clear h p3 hr
  generalize nextS s.t0 s.c0 0 = x at *
  obtain ⟨xk, xs, xn, xd, xe⟩ := x
  dsimp only
  go_enter Try.func66, Try.ntmps66
  go_wp2_with fail
  refine HW.out.mono ?_
  rintro e w1 ⟨v, rfl, f1, u, rfl, ou⟩
  obtain ⟨ga, gc, rfl, _⟩ := ou.formB
  have h1 := HH.out.keep0 f1
  have hy := h1.y
  have fz : w1.frozen? ⟨W, 0 + 3, none⟩ = false := free_of hy
  have c1 : w1.cell? ⟨W, 0 + 3, none⟩ = some (.bool s.c0) := cell_of hy
  simp only [Nat.reduceAdd, Nat.zero_add] at fz c1
  have H1 := Lib.hid h1
  clear h1 hy ou d3
  by_cases hg : xk = 3
  · subst hg
    go_wp2_with fail
    go_ret
    have h := H1.out
    have f2 : Fr [W] w1 (w1.setCell ⟨W, 0 + 3, none⟩ (.bool true)) := (Fr.refl _ _).setCell (.inl (by simp)) _
    have hy2 := heap_setCell_eq (i := 0 + 3) (u := .bool true) h.y
    simp only [Nat.reduceAdd, Nat.zero_add] at f2 hy2
    refine ⟨rfl, (f1.mono (T := [W]) (by simp)).then f2, f2.keep h.q (by simp; omega), ?_, h.h0.keep f2 (by simp; omega) (by simp; exact h.n0.2.1), h.h1.keep f2 (by simp; omega) (by simp; exact h.n1.2.1), h.n0, h.n1, h.nd⟩
    dsimp only
    simpa using hy2
  · have hg' : (xk != 3) = true := by simpa using hg
    go_wp2_with fail
    go_ret
    refine ⟨by unfold closeE; rw [if_neg hg]; rfl, f1.mono (by simp), ?_⟩
    have h := H1.out
    have e : (s.c0 || decide (xk = 3)) = s.c0 := by simp [hg]
    rw [e]
    exact h

set_option maxHeartbeats 4000000 in
theorem got_fn1 {w : World} {N0 N1 : Nat → Prop} {b W b0 b1 : Nat} {s : SS} (h : Sp w N0 N1 b W b0 b1 s) {B6 B7 : Nat} {x6 x7 : TypeId} {pa : Option Addr} {pc : Nat} {p : List UInt8} {e : Int} (p6 : w.heap[B6]? = some (.cells #[.slice pa p.length pc] x6 (0, 0))) (p7 : w.heap[B7]? = some (.cells #[.int .i64 e] x7 (0, 0))) (n6 : b1 ≠ B6) (n7 : b1 ≠ B7) (hs : Sl w pa (bi p)) (hm : p.length ≤ 65536) (hr : s.t1.rd ≤ 4611686018427387904) :
    Calls Try.prog 64 (#[.pointer (some ⟨W, 4, none⟩)] ++ #[.pointer (some ⟨B6, 0, none⟩), .pointer (some ⟨B7, 0, none⟩)]) w fun x w' => x = .returned (.int .i64 (gotE s.t1 p e)) ∧ Fr [W, b1] w w' ∧ Sp w' N0 N1 b W b0 b1 { s with t1 := gotT s.t1 p e } := by
  have fd : Fr [] w w.drew := (Fr.refl _ _).drew
  have HG := Lib.hid (tr_got (pcap := pc) (h.h1.keep0 fd) hr (sl_keep hs fd (by simp)) rfl hm e)
  have HH := Lib.hid h
  have hnd := h.nd
  have HS := Lib.hid fun w' (f : Fr [b1] w w') => (show w'.cell? ⟨W, 4, none⟩ = some (.pointer (some ⟨b1, 0, none⟩)) ∧ w'.cell? ⟨B6, 0, none⟩ = some (.slice pa p.length pc) ∧ w'.cell? ⟨B7, 0, none⟩ = some (.int .i64 e) from
    ⟨cell_of (f.keep h.y (by simp; omega)), cell_of (f.keep p6 (by simp; omega)), cell_of (f.keep p7 (by simp; omega))⟩)
  obtain ⟨d0, d6, d7⟩ := HS.out w.drew ((Fr.refl _ _).drew)
  have hWz := h.lt.2.1
  have HGT : Hid ((gotT s.t1 p e).w = s.t1.w ∧ (gotT s.t1 p e).r = if gotE s.t1 p e = 0 then e else s.t1.r) := Lib.hid ⟨gotT_w _ _ _, gotT_r _ _ _⟩
  clear h p6 p7 hs hm hr
  generalize gotE s.t1 p e = ge at *
  generalize gotT s.t1 p e = gt at *
  go_enter Try.func64, Try.ntmps64
  go_wp2_with fail
  go_region_held3 (fun w' => w'.cell? ⟨W, 4, none⟩ = some (.pointer (some ⟨b1, 0, none⟩)) ∧ w'.cell? ⟨B6, 0, none⟩ = some (.slice pa p.length pc) ∧ w'.cell? ⟨B7, 0, none⟩ = some (.int .i64 e))
    (first | (with_reducible exact ⟨d0, d6, d7⟩) | (with_reducible exact HS2))
    (first | (go_at_call 18; refine HG.out.mono ?_; rintro e1 w1 ⟨rfl, g1', hT⟩; have g1 : Fr [b1] w w1 := Fr.undrew (show Fr [b1] w.drew w1 from g1'); have HS2 := HS.out w1 g1))
  obtain ⟨d0, d6, d7⟩ := HS2
  have h := HH.out
  have hy := g1.keep h.y (by simp; omega)
  have hq := g1.keep h.q (by simp; omega)
  have ho := h.h0.keep g1 (by simp; omega) (by simp; exact h.n0.2.2)
  have hW1 := Nat.lt_of_lt_of_le hWz g1.size
  have fz : w1.frozen? ⟨W, 4 + 1, none⟩ = false := free_of hy
  have c1 : w1.cell? ⟨W, 4 + 1, none⟩ = some (.int .i64 s.t1.r) := cell_of hy
  simp only [Nat.reduceAdd, Nat.zero_add] at fz c1
  have HALL := Lib.hid (And.intro hy (And.intro hq (And.intro ho (And.intro hT g1))))
  clear hy hq ho hT h g1 g1'
  by_cases hg : ge = 0
  · subst hg
    go_wp2_with fail
    go_ret
    obtain ⟨hy, hq, ho, hT, g1⟩ := HALL.out
    obtain ⟨gw, gr⟩ := HGT.out
    replace gr := gr.trans (by simp : _ = e)
    have f2 : Fr [W] w1 (w1.setCell ⟨W, 4 + 1, none⟩ (.int .i64 e)) := (Fr.refl _ _).setCell (.inl (by simp)) _
    have hy2 := heap_setCell_eq (i := 4 + 1) (u := .int .i64 e) hy
    have h := HH.out
    simp only [Nat.reduceAdd, Nat.zero_add] at f2 hy2
    refine ⟨rfl, g1.trans f2 (fun _ h => .inl (List.mem_cons_of_mem _ h)) (fun x hx => .inl (by simp at hx; simp [hx])), f2.keep hq (by simp; omega), ?_, ho.keep f2 (by simp; omega) (by simp; exact h.n0.2.1), hT.keep f2 (by simp; omega) (by simp; exact h.n1.2.1), h.n0, h.n1, h.nd⟩
    dsimp only
    rw [gw, gr]
    simpa using hy2
  · have hg' : (ge == 0) = false := by simpa using hg
    go_wp2_with fail
    go_ret
    obtain ⟨hy, hq, ho, hT, g1⟩ := HALL.out
    obtain ⟨gw, gr⟩ := HGT.out
    replace gr := gr.trans (if_neg hg)
    have h := HH.out
    refine ⟨rfl, g1.mono (fun x hx => .inl (List.mem_cons_of_mem _ hx)), hq, ?_, ho, hT, h.n0, h.n1, h.nd⟩
    dsimp only
    rw [gw, gr]
    exact hy

set_option maxHeartbeats 4000000 in
theorem wrote_fn1 {w : World} {N0 N1 : Nat → Prop} {b W b0 b1 : Nat} {s : SS} (h : Sp w N0 N1 b W b0 b1 s) {B6 B7 : Nat} {x6 x7 : TypeId} {n e : Int} (p6 : w.heap[B6]? = some (.cells #[.int .i64 n] x6 (0, 0))) (p7 : w.heap[B7]? = some (.cells #[.int .i64 e] x7 (0, 0))) (n6 : b1 ≠ B6) (n7 : b1 ≠ B7) (hr : s.t1.rd ≤ 4611686018427387904) :
    Calls Try.prog 65 (#[.pointer (some ⟨W, 4, none⟩)] ++ #[.pointer (some ⟨B6, 0, none⟩), .pointer (some ⟨B7, 0, none⟩)]) w fun x w' => x = .returned (.int .i64 (wroteE s.t1 n e)) ∧ Fr [W, b1] w w' ∧ Sp w' N0 N1 b W b0 b1 { s with t1 := wroteT s.t1 n e } := by
  have fd : Fr [] w w.drew := (Fr.refl _ _).drew
  have HG := Lib.hid (tr_wrote (h.h1.keep0 fd) hr n e)
  have HH := Lib.hid h
  have hnd := h.nd
  have HS := Lib.hid fun w' (f : Fr [b1] w w') => (show w'.cell? ⟨W, 4, none⟩ = some (.pointer (some ⟨b1, 0, none⟩)) ∧ w'.cell? ⟨B6, 0, none⟩ = some (.int .i64 n) ∧ w'.cell? ⟨B7, 0, none⟩ = some (.int .i64 e) from
    ⟨cell_of (f.keep h.y (by simp; omega)), cell_of (f.keep p6 (by simp; omega)), cell_of (f.keep p7 (by simp; omega))⟩)
  obtain ⟨d0, d6, d7⟩ := HS.out w.drew ((Fr.refl _ _).drew)
  have hWz := h.lt.2.1
  have HGT : Hid ((wroteT s.t1 n e).r = s.t1.r ∧ (wroteT s.t1 n e).w = if wroteE s.t1 n e = 0 then e else s.t1.w) := Lib.hid ⟨wroteT_r _ _ _, wroteT_w _ _ _⟩
  clear h p6 p7 hr
  generalize wroteE s.t1 n e = ge at *
  generalize wroteT s.t1 n e = gt at *
  go_enter Try.func65, Try.ntmps65
  go_wp2_with fail
  go_region_held3 (fun w' => w'.cell? ⟨W, 4, none⟩ = some (.pointer (some ⟨b1, 0, none⟩)) ∧ w'.cell? ⟨B6, 0, none⟩ = some (.int .i64 n) ∧ w'.cell? ⟨B7, 0, none⟩ = some (.int .i64 e))
    (first | (with_reducible exact ⟨d0, d6, d7⟩) | (with_reducible exact HS2))
    (first | (go_at_call 19; refine HG.out.mono ?_; rintro e1 w1 ⟨rfl, g1', hT⟩; have g1 : Fr [b1] w w1 := Fr.undrew (show Fr [b1] w.drew w1 from g1'); have HS2 := HS.out w1 g1))
  obtain ⟨d0, d6, d7⟩ := HS2
  have h := HH.out
  have hy := g1.keep h.y (by simp; omega)
  have hq := g1.keep h.q (by simp; omega)
  have ho := h.h0.keep g1 (by simp; omega) (by simp; exact h.n0.2.2)
  have hW1 := Nat.lt_of_lt_of_le hWz g1.size
  have fz : w1.frozen? ⟨W, 4 + 2, none⟩ = false := free_of hy
  have c1 : w1.cell? ⟨W, 4 + 2, none⟩ = some (.int .i64 s.t1.w) := cell_of hy
  simp only [Nat.reduceAdd, Nat.zero_add] at fz c1
  have HALL := Lib.hid (And.intro hy (And.intro hq (And.intro ho (And.intro hT g1))))
  clear hy hq ho hT h g1 g1'
  by_cases hg : ge = 0
  · subst hg
    go_wp2_with fail
    go_ret
    obtain ⟨hy, hq, ho, hT, g1⟩ := HALL.out
    obtain ⟨gw, gr⟩ := HGT.out
    replace gr := gr.trans (by simp : _ = e)
    have f2 : Fr [W] w1 (w1.setCell ⟨W, 4 + 2, none⟩ (.int .i64 e)) := (Fr.refl _ _).setCell (.inl (by simp)) _
    have hy2 := heap_setCell_eq (i := 4 + 2) (u := .int .i64 e) hy
    have h := HH.out
    simp only [Nat.reduceAdd, Nat.zero_add] at f2 hy2
    refine ⟨rfl, g1.trans f2 (fun _ h => .inl (List.mem_cons_of_mem _ h)) (fun x hx => .inl (by simp at hx; simp [hx])), f2.keep hq (by simp; omega), ?_, ho.keep f2 (by simp; omega) (by simp; exact h.n0.2.1), hT.keep f2 (by simp; omega) (by simp; exact h.n1.2.1), h.n0, h.n1, h.nd⟩
    dsimp only
    rw [gw, gr]
    simpa using hy2
  · have hg' : (ge == 0) = false := by simpa using hg
    go_wp2_with fail
    go_ret
    obtain ⟨hy, hq, ho, hT, g1⟩ := HALL.out
    obtain ⟨gw, gr⟩ := HGT.out
    replace gr := gr.trans (if_neg hg)
    have h := HH.out
    refine ⟨rfl, g1.mono (fun x hx => .inl (List.mem_cons_of_mem _ hx)), hq, ?_, ho, hT, h.n0, h.n1, h.nd⟩
    dsimp only
    rw [gw, gr]
    exact hy

set_option maxHeartbeats 4000000 in
theorem close_fn1 {w : World} {N0 N1 : Nat → Prop} {b W b0 b1 : Nat} {s : SS} (h : Sp w N0 N1 b W b0 b1 s) {B3 : Nat} {x3 : TypeId} (p3 : w.heap[B3]? = some (.cells #[.int .i64 1] x3 (0, 0))) (hr : s.t1.rd ≤ 4611686018427387904) :
    Calls Try.prog 66 (#[.pointer (some ⟨W, 4, none⟩)] ++ #[.pointer (some ⟨B3, 0, none⟩)]) w fun x w' => x = .returned (.int .i64 (closeE (nextS s.t1 s.c1 1))) ∧ Fr [W] w w' ∧ Sp w' N0 N1 b W b0 b1 { s with c1 := s.c1 || decide ((nextS s.t1 s.c1 1).kind = 3) } := by
  have hfld : ∀ (x0 x1 x2 x3 x4 : Value) (w : World), (Instr.field 32 (.agg #[x0, x1, x2, x3, x4]) 0).run Try.prog w = .ok x0 w := fun _ _ _ _ _ _ => by kernel_rfl
  have HW := Lib.hid (way_next (k := 4) h.h1 hr (cell_of h.y) (cell_of h.y) (cell_of h.y) (cell_of h.y) (i := 1) (by omega) (by omega))
  have HH := Lib.hid h
  have hnd := h.nd
  have d3 : w.cell? ⟨B3, 0, none⟩ = some (.int .i64 1) := cell_of p3
  have hWz := h.lt.2.1
  clear h p3 hr
  generalize nextS s.t1 s.c1 1 = x at *
  obtain ⟨xk, xs, xn, xd, xe⟩ := x
  dsimp only
  go_enter Try.func66, Try.ntmps66
  go_wp2_with fail
  refine HW.out.mono ?_
  rintro e w1 ⟨v, rfl, f1, u, rfl, ou⟩
  obtain ⟨ga, gc, rfl, _⟩ := ou.formB
  have h1 := HH.out.keep0 f1
  have hy := h1.y
  have fz : w1.frozen? ⟨W, 4 + 3, none⟩ = false := free_of hy
  have c1 : w1.cell? ⟨W, 4 + 3, none⟩ = some (.bool s.c1) := cell_of hy
  simp only [Nat.reduceAdd, Nat.zero_add] at fz c1
  have H1 := Lib.hid h1
  clear h1 hy ou d3
  by_cases hg : xk = 3
  · subst hg
    go_wp2_with fail
    go_ret
    have h := H1.out
    have f2 : Fr [W] w1 (w1.setCell ⟨W, 4 + 3, none⟩ (.bool true)) := (Fr.refl _ _).setCell (.inl (by simp)) _
    have hy2 := heap_setCell_eq (i := 4 + 3) (u := .bool true) h.y
    simp only [Nat.reduceAdd, Nat.zero_add] at f2 hy2
    refine ⟨rfl, (f1.mono (T := [W]) (by simp)).then f2, f2.keep h.q (by simp; omega), ?_, h.h0.keep f2 (by simp; omega) (by simp; exact h.n0.2.1), h.h1.keep f2 (by simp; omega) (by simp; exact h.n1.2.1), h.n0, h.n1, h.nd⟩
    dsimp only
    simpa using hy2
  · have hg' : (xk != 3) = true := by simpa using hg
    go_wp2_with fail
    go_ret
    refine ⟨by unfold closeE; rw [if_neg hg]; rfl, f1.mono (by simp), ?_⟩
    have h := H1.out
    have e : (s.c1 || decide (xk = 3)) = s.c1 := by simp [hg]
    rw [e]
    exact h
theorem enter_got (args : Array Value) (w : World) : (callFunc 64 args).run Try.prog w = .ok (.enter 64 args) w := by kernel_rfl
theorem enter_wrote (args : Array Value) (w : World) : (callFunc 65 args).run Try.prog w = .ok (.enter 65 args) w := by kernel_rfl
theorem enter_close (args : Array Value) (w : World) : (callFunc 66 args).run Try.prog w = .ok (.enter 66 args) w := by kernel_rfl
theorem gotT_rd (t : TS) (p : List UInt8) (e : Int) : (gotT t p e).rd ≤ t.rd + p.length := by
  unfold gotT
  split
  · exact Int.le_refl _
  · omega
theorem wroteT_rd (t : TS) (n e : Int) : (wroteT t n e).rd = t.rd := by unfold wroteT; split <;> rfl

set_option maxHeartbeats 2000000 in
theorem sp_got0 {w : World} {N0 N1 : Nat → Prop} {b W b0 b1 : Nat} {s : SS} (h : Sp w N0 N1 b W b0 b1 s) (hr : s.t0.rd ≤ 4611686018427000000) {pa : Option Addr} {pc : Nat} {p : List UInt8} (hs : Sl w pa (bi p)) (hm : p.length ≤ 65536) (e : Int) :
    Calls Try.prog 33 #[.pointer (some ⟨b, 0, none⟩), .int .i64 0, .slice pa p.length pc, .int .i64 e] w fun x w' => x = .returned (.int .i64 (gotE s.t0 p e)) ∧ Fr [b, W, b0, b1] w w' ∧ Sp w' N0 N1 b W b0 b1 (gotS0 s p e) := by
  have hmf : ∀ (fn : Fn) (first cap : Array Value) (w : World), (Instr.makeFunc fn first cap).run Try.prog w = .ok (.func fn first cap) w := fun _ _ _ _ => rfl
  obtain ⟨hb, hW, hb0, hb1⟩ := h.lt
  obtain ⟨w1, hw1, f1, p6, p7⟩ : ∃ W1, ((w.alloc (.cells #[.slice pa p.length pc] 22)).alloc (.cells #[.int .i64 e] 23)) = W1 ∧ Fr [] w W1 ∧ W1.heap[w.heap.size]? = some (.cells #[.slice pa p.length pc] 22 (0, 0)) ∧ W1.heap[w.heap.size + 1]? = some (.cells #[.int .i64 e] 23 (0, 0)) := ⟨_, rfl, ((Fr.refl _ _).alloc _).alloc _, keepA (newA rfl), newA (by simp)⟩
  have hrd : (gotT s.t0 p e).rd ≤ 4611686018427387904 := by have := gotT_rd s.t0 p e; omega
  have HT := Lib.hid (sp_tell0 (h.keep0 f1) (F := 64) (caps := #[.pointer (some ⟨w.heap.size, 0, none⟩), .pointer (some ⟨w.heap.size + 1, 0, none⟩)]) (S := [W, b0]) enter_got (by simp) (s' := { s with t0 := gotT s.t0 p e }) hrd (fun w2 f2 => got_fn0 ((h.keep0 f1).keep0 f2) (f2.keep p6 (by simp)) (f2.keep p7 (by simp)) (by omega) (by omega) (sl_keep (sl_keep hs f1 (by simp)) f2 (by simp)) hm (by omega)))
  clear h p6 p7 hrd hr
  go_enter Try.func33, Try.ntmps33
  go_wp2_with fail
  refine HT.out.mono ?_
  rintro x w2 ⟨rfl, f2, h2⟩
  go_wp2_with fail
  go_ret
  exact ⟨rfl, (f1.mono (T := [b, W, b0, b1]) (by simp)).then f2, h2⟩

set_option maxHeartbeats 2000000 in
theorem sp_got1 {w : World} {N0 N1 : Nat → Prop} {b W b0 b1 : Nat} {s : SS} (h : Sp w N0 N1 b W b0 b1 s) (hr : s.t1.rd ≤ 4611686018427000000) {pa : Option Addr} {pc : Nat} {p : List UInt8} (hs : Sl w pa (bi p)) (hm : p.length ≤ 65536) (e : Int) :
    Calls Try.prog 33 #[.pointer (some ⟨b, 0, none⟩), .int .i64 1, .slice pa p.length pc, .int .i64 e] w fun x w' => x = .returned (.int .i64 (gotE s.t1 p e)) ∧ Fr [b, W, b0, b1] w w' ∧ Sp w' N0 N1 b W b0 b1 (gotS1 s p e) := by
  have hmf : ∀ (fn : Fn) (first cap : Array Value) (w : World), (Instr.makeFunc fn first cap).run Try.prog w = .ok (.func fn first cap) w := fun _ _ _ _ => rfl
  obtain ⟨hb, hW, hb0, hb1⟩ := h.lt
  obtain ⟨w1, hw1, f1, p6, p7⟩ : ∃ W1, ((w.alloc (.cells #[.slice pa p.length pc] 22)).alloc (.cells #[.int .i64 e] 23)) = W1 ∧ Fr [] w W1 ∧ W1.heap[w.heap.size]? = some (.cells #[.slice pa p.length pc] 22 (0, 0)) ∧ W1.heap[w.heap.size + 1]? = some (.cells #[.int .i64 e] 23 (0, 0)) := ⟨_, rfl, ((Fr.refl _ _).alloc _).alloc _, keepA (newA rfl), newA (by simp)⟩
  have hrd : (gotT s.t1 p e).rd ≤ 4611686018427387904 := by have := gotT_rd s.t1 p e; omega
  have HT := Lib.hid (sp_tell1 (h.keep0 f1) (F := 64) (caps := #[.pointer (some ⟨w.heap.size, 0, none⟩), .pointer (some ⟨w.heap.size + 1, 0, none⟩)]) (S := [W, b1]) enter_got (by simp) (s' := { s with t1 := gotT s.t1 p e }) hrd (fun w2 f2 => got_fn1 ((h.keep0 f1).keep0 f2) (f2.keep p6 (by simp)) (f2.keep p7 (by simp)) (by omega) (by omega) (sl_keep (sl_keep hs f1 (by simp)) f2 (by simp)) hm (by omega)))
  clear h p6 p7 hrd hr
  go_enter Try.func33, Try.ntmps33
  go_wp2_with fail
  refine HT.out.mono ?_
  rintro x w2 ⟨rfl, f2, h2⟩
  go_wp2_with fail
  go_ret
  exact ⟨rfl, (f1.mono (T := [b, W, b0, b1]) (by simp)).then f2, h2⟩

set_option maxHeartbeats 2000000 in
theorem sp_wrote0 {w : World} {N0 N1 : Nat → Prop} {b W b0 b1 : Nat} {s : SS} (h : Sp w N0 N1 b W b0 b1 s) (hr : s.t0.rd ≤ 4611686018427000000) (n e : Int) :
    Calls Try.prog 34 #[.pointer (some ⟨b, 0, none⟩), .int .i64 0, .int .i64 n, .int .i64 e] w fun x w' => x = .returned (.int .i64 (wroteE s.t0 n e)) ∧ Fr [b, W, b0, b1] w w' ∧ Sp w' N0 N1 b W b0 b1 (wroteS0 s n e) := by
  have hmf : ∀ (fn : Fn) (first cap : Array Value) (w : World), (Instr.makeFunc fn first cap).run Try.prog w = .ok (.func fn first cap) w := fun _ _ _ _ => rfl
  obtain ⟨hb, hW, hb0, hb1⟩ := h.lt
  obtain ⟨w1, hw1, f1, p6, p7⟩ : ∃ W1, ((w.alloc (.cells #[.int .i64 n] 3)).alloc (.cells #[.int .i64 e] 23)) = W1 ∧ Fr [] w W1 ∧ W1.heap[w.heap.size]? = some (.cells #[.int .i64 n] 3 (0, 0)) ∧ W1.heap[w.heap.size + 1]? = some (.cells #[.int .i64 e] 23 (0, 0)) := ⟨_, rfl, ((Fr.refl _ _).alloc _).alloc _, keepA (newA rfl), newA (by simp)⟩
  have hrd : (wroteT s.t0 n e).rd ≤ 4611686018427387904 := by have := wroteT_rd s.t0 n e; omega
  have HT := Lib.hid (sp_tell0 (h.keep0 f1) (F := 65) (caps := #[.pointer (some ⟨w.heap.size, 0, none⟩), .pointer (some ⟨w.heap.size + 1, 0, none⟩)]) (S := [W, b0]) enter_wrote (by simp) (s' := { s with t0 := wroteT s.t0 n e }) hrd (fun w2 f2 => wrote_fn0 ((h.keep0 f1).keep0 f2) (f2.keep p6 (by simp)) (f2.keep p7 (by simp)) (by omega) (by omega) (by omega)))
  clear h p6 p7 hrd hr
  go_enter Try.func34, Try.ntmps34
  go_wp2_with fail
  refine HT.out.mono ?_
  rintro x w2 ⟨rfl, f2, h2⟩
  go_wp2_with fail
  go_ret
  exact ⟨rfl, (f1.mono (T := [b, W, b0, b1]) (by simp)).then f2, h2⟩

set_option maxHeartbeats 2000000 in
theorem sp_wrote1 {w : World} {N0 N1 : Nat → Prop} {b W b0 b1 : Nat} {s : SS} (h : Sp w N0 N1 b W b0 b1 s) (hr : s.t1.rd ≤ 4611686018427000000) (n e : Int) :
    Calls Try.prog 34 #[.pointer (some ⟨b, 0, none⟩), .int .i64 1, .int .i64 n, .int .i64 e] w fun x w' => x = .returned (.int .i64 (wroteE s.t1 n e)) ∧ Fr [b, W, b0, b1] w w' ∧ Sp w' N0 N1 b W b0 b1 (wroteS1 s n e) := by
  have hmf : ∀ (fn : Fn) (first cap : Array Value) (w : World), (Instr.makeFunc fn first cap).run Try.prog w = .ok (.func fn first cap) w := fun _ _ _ _ => rfl
  obtain ⟨hb, hW, hb0, hb1⟩ := h.lt
  obtain ⟨w1, hw1, f1, p6, p7⟩ : ∃ W1, ((w.alloc (.cells #[.int .i64 n] 3)).alloc (.cells #[.int .i64 e] 23)) = W1 ∧ Fr [] w W1 ∧ W1.heap[w.heap.size]? = some (.cells #[.int .i64 n] 3 (0, 0)) ∧ W1.heap[w.heap.size + 1]? = some (.cells #[.int .i64 e] 23 (0, 0)) := ⟨_, rfl, ((Fr.refl _ _).alloc _).alloc _, keepA (newA rfl), newA (by simp)⟩
  have hrd : (wroteT s.t1 n e).rd ≤ 4611686018427387904 := by have := wroteT_rd s.t1 n e; omega
  have HT := Lib.hid (sp_tell1 (h.keep0 f1) (F := 65) (caps := #[.pointer (some ⟨w.heap.size, 0, none⟩), .pointer (some ⟨w.heap.size + 1, 0, none⟩)]) (S := [W, b1]) enter_wrote (by simp) (s' := { s with t1 := wroteT s.t1 n e }) hrd (fun w2 f2 => wrote_fn1 ((h.keep0 f1).keep0 f2) (f2.keep p6 (by simp)) (f2.keep p7 (by simp)) (by omega) (by omega) (by omega)))
  clear h p6 p7 hrd hr
  go_enter Try.func34, Try.ntmps34
  go_wp2_with fail
  refine HT.out.mono ?_
  rintro x w2 ⟨rfl, f2, h2⟩
  go_wp2_with fail
  go_ret
  exact ⟨rfl, (f1.mono (T := [b, W, b0, b1]) (by simp)).then f2, h2⟩
theorem sp_got_bad {w : World} {b W : Nat} {f : Int} (h : w.heap[b]? = some (.cells #[.pointer (some ⟨W, 0, none⟩), .int .i64 f] 103 (0, 0))) {i : Int} (hi : (i != 0) = true) (hi1 : (i != 1) = true) (pa : Option Addr) (pl pc : Nat) (e : Int) :
    Calls Try.prog 33 #[.pointer (some ⟨b, 0, none⟩), .int .i64 i, .slice pa pl pc, .int .i64 e] w fun x w' => x = .returned (.int .i64 2) ∧ Fr [] w w' := by
  have hmf : ∀ (fn : Fn) (first cap : Array Value) (w : World), (Instr.makeFunc fn first cap).run Try.prog w = .ok (.func fn first cap) w := fun _ _ _ _ => rfl
  obtain ⟨w1, hw1, f1⟩ : ∃ W1, ((w.alloc (.cells #[.slice pa pl pc] 22)).alloc (.cells #[.int .i64 e] 23)) = W1 ∧ Fr [] w W1 := ⟨_, rfl, ((Fr.refl _ _).alloc _).alloc _⟩
  have HT := fun v => Lib.hid (sp_tell_bad (f1.keep h (by simp)) hi hi1 v)
  clear h
  go_enter Try.func33, Try.ntmps33
  go_wp2_with fail
  refine (HT _).out.mono ?_
  rintro x w2 ⟨rfl, f2⟩
  go_wp2_with fail
  go_ret
  exact ⟨rfl, f1.then0 f2⟩
theorem sp_got_z {w : World} {r : Option Addr} (h : Zs w r) (i : Int) (pa : Option Addr) (pl pc : Nat) (e : Int) :
    Calls Try.prog 33 #[.pointer r, .int .i64 i, .slice pa pl pc, .int .i64 e] w fun x w' => x = .returned (.int .i64 1) ∧ Fr [] w w' := by
  have hmf : ∀ (fn : Fn) (first cap : Array Value) (w : World), (Instr.makeFunc fn first cap).run Try.prog w = .ok (.func fn first cap) w := fun _ _ _ _ => rfl
  obtain ⟨w1, hw1, f1⟩ : ∃ W1, ((w.alloc (.cells #[.slice pa pl pc] 22)).alloc (.cells #[.int .i64 e] 23)) = W1 ∧ Fr [] w W1 := ⟨_, rfl, ((Fr.refl _ _).alloc _).alloc _⟩
  have HT := fun v => Lib.hid (sp_tell_z (h.keep f1) i v)
  clear h
  go_enter Try.func33, Try.ntmps33
  go_wp2_with fail
  refine (HT _).out.mono ?_
  rintro x w2 ⟨rfl, f2⟩
  go_wp2_with fail
  go_ret
  exact ⟨rfl, f1.then0 f2⟩
theorem sp_wrote_bad {w : World} {b W : Nat} {f : Int} (h : w.heap[b]? = some (.cells #[.pointer (some ⟨W, 0, none⟩), .int .i64 f] 103 (0, 0))) {i : Int} (hi : (i != 0) = true) (hi1 : (i != 1) = true) (n e : Int) :
    Calls Try.prog 34 #[.pointer (some ⟨b, 0, none⟩), .int .i64 i, .int .i64 n, .int .i64 e] w fun x w' => x = .returned (.int .i64 2) ∧ Fr [] w w' := by
  have hmf : ∀ (fn : Fn) (first cap : Array Value) (w : World), (Instr.makeFunc fn first cap).run Try.prog w = .ok (.func fn first cap) w := fun _ _ _ _ => rfl
  obtain ⟨w1, hw1, f1⟩ : ∃ W1, ((w.alloc (.cells #[.int .i64 n] 3)).alloc (.cells #[.int .i64 e] 23)) = W1 ∧ Fr [] w W1 := ⟨_, rfl, ((Fr.refl _ _).alloc _).alloc _⟩
  have HT := fun v => Lib.hid (sp_tell_bad (f1.keep h (by simp)) hi hi1 v)
  clear h
  go_enter Try.func34, Try.ntmps34
  go_wp2_with fail
  refine (HT _).out.mono ?_
  rintro x w2 ⟨rfl, f2⟩
  go_wp2_with fail
  go_ret
  exact ⟨rfl, f1.then0 f2⟩
theorem sp_wrote_z {w : World} {r : Option Addr} (h : Zs w r) (i : Int) (n e : Int) :
    Calls Try.prog 34 #[.pointer r, .int .i64 i, .int .i64 n, .int .i64 e] w fun x w' => x = .returned (.int .i64 1) ∧ Fr [] w w' := by
  have hmf : ∀ (fn : Fn) (first cap : Array Value) (w : World), (Instr.makeFunc fn first cap).run Try.prog w = .ok (.func fn first cap) w := fun _ _ _ _ => rfl
  obtain ⟨w1, hw1, f1⟩ : ∃ W1, ((w.alloc (.cells #[.int .i64 n] 3)).alloc (.cells #[.int .i64 e] 23)) = W1 ∧ Fr [] w W1 := ⟨_, rfl, ((Fr.refl _ _).alloc _).alloc _⟩
  have HT := fun v => Lib.hid (sp_tell_z (h.keep f1) i v)
  clear h
  go_enter Try.func34, Try.ntmps34
  go_wp2_with fail
  refine (HT _).out.mono ?_
  rintro x w2 ⟨rfl, f2⟩
  go_wp2_with fail
  go_ret
  exact ⟨rfl, f1.then0 f2⟩

set_option maxHeartbeats 2000000 in
theorem sp_close0 {w : World} {N0 N1 : Nat → Prop} {b W b0 b1 : Nat} {s : SS} (h : Sp w N0 N1 b W b0 b1 s) (hr : s.t0.rd ≤ 4611686018427387904) :
    Calls Try.prog 35 #[.pointer (some ⟨b, 0, none⟩), .int .i64 0] w fun x w' => x = .returned (.int .i64 (closeE (nextS s.t0 s.c0 0))) ∧ Fr [b, W, b0, b1] w w' ∧ Sp w' N0 N1 b W b0 b1 (closeS0 s) := by
  have hmf : ∀ (fn : Fn) (first cap : Array Value) (w : World), (Instr.makeFunc fn first cap).run Try.prog w = .ok (.func fn first cap) w := fun _ _ _ _ => rfl
  obtain ⟨hb, hW, hb0, hb1⟩ := h.lt
  obtain ⟨w1, hw1, f1, p3⟩ : ∃ W1, (w.alloc (.cells #[.int .i64 0] 3)) = W1 ∧ Fr [] w W1 ∧ W1.heap[w.heap.size]? = some (.cells #[.int .i64 0] 3 (0, 0)) := ⟨_, rfl, (Fr.refl _ _).alloc _, newA rfl⟩
  have d3 : w1.cell? ⟨w.heap.size, 0, none⟩ = some (.int .i64 0) := cell_of p3
  have HT := Lib.hid (sp_tell0 (h.keep0 f1) (F := 66) (caps := #[.pointer (some ⟨w.heap.size, 0, none⟩)]) (S := [W]) enter_close (by simp) (s' := { s with c0 := s.c0 || decide ((nextS s.t0 s.c0 0).kind = 3) }) hr (fun w2 f2 => close_fn0 ((h.keep0 f1).keep0 f2) (f2.keep p3 (by simp)) hr))
  clear h p3 hr
  go_enter Try.func35, Try.ntmps35
  go_wp2_with fail
  refine HT.out.mono ?_
  rintro x w2 ⟨rfl, f2, h2⟩
  go_wp2_with fail
  go_ret
  exact ⟨rfl, (f1.mono (T := [b, W, b0, b1]) (by simp)).then f2, h2⟩

set_option maxHeartbeats 2000000 in
theorem sp_close1 {w : World} {N0 N1 : Nat → Prop} {b W b0 b1 : Nat} {s : SS} (h : Sp w N0 N1 b W b0 b1 s) (hr : s.t1.rd ≤ 4611686018427387904) :
    Calls Try.prog 35 #[.pointer (some ⟨b, 0, none⟩), .int .i64 1] w fun x w' => x = .returned (.int .i64 (closeE (nextS s.t1 s.c1 1))) ∧ Fr [b, W, b0, b1] w w' ∧ Sp w' N0 N1 b W b0 b1 (closeS1 s) := by
  have hmf : ∀ (fn : Fn) (first cap : Array Value) (w : World), (Instr.makeFunc fn first cap).run Try.prog w = .ok (.func fn first cap) w := fun _ _ _ _ => rfl
  obtain ⟨hb, hW, hb0, hb1⟩ := h.lt
  obtain ⟨w1, hw1, f1, p3⟩ : ∃ W1, (w.alloc (.cells #[.int .i64 1] 3)) = W1 ∧ Fr [] w W1 ∧ W1.heap[w.heap.size]? = some (.cells #[.int .i64 1] 3 (0, 0)) := ⟨_, rfl, (Fr.refl _ _).alloc _, newA rfl⟩
  have d3 : w1.cell? ⟨w.heap.size, 0, none⟩ = some (.int .i64 1) := cell_of p3
  have HT := Lib.hid (sp_tell1 (h.keep0 f1) (F := 66) (caps := #[.pointer (some ⟨w.heap.size, 0, none⟩)]) (S := [W]) enter_close (by simp) (s' := { s with c1 := s.c1 || decide ((nextS s.t1 s.c1 1).kind = 3) }) hr (fun w2 f2 => close_fn1 ((h.keep0 f1).keep0 f2) (f2.keep p3 (by simp)) hr))
  clear h p3 hr
  go_enter Try.func35, Try.ntmps35
  go_wp2_with fail
  refine HT.out.mono ?_
  rintro x w2 ⟨rfl, f2, h2⟩
  go_wp2_with fail
  go_ret
  exact ⟨rfl, (f1.mono (T := [b, W, b0, b1]) (by simp)).then f2, h2⟩
theorem sp_close_bad {w : World} {b W : Nat} {f : Int} (h : w.heap[b]? = some (.cells #[.pointer (some ⟨W, 0, none⟩), .int .i64 f] 103 (0, 0))) {i : Int} (hi : (i != 0) = true) (hi1 : (i != 1) = true) :
    Calls Try.prog 35 #[.pointer (some ⟨b, 0, none⟩), .int .i64 i] w fun x w' => x = .returned (.int .i64 2) ∧ Fr [] w w' := by
  have hmf : ∀ (fn : Fn) (first cap : Array Value) (w : World), (Instr.makeFunc fn first cap).run Try.prog w = .ok (.func fn first cap) w := fun _ _ _ _ => rfl
  obtain ⟨w1, hw1, f1, p3⟩ : ∃ W1, (w.alloc (.cells #[.int .i64 i] 3)) = W1 ∧ Fr [] w W1 ∧ W1.heap[w.heap.size]? = some (.cells #[.int .i64 i] 3 (0, 0)) := ⟨_, rfl, (Fr.refl _ _).alloc _, newA rfl⟩
  have d3 : w1.cell? ⟨w.heap.size, 0, none⟩ = some (.int .i64 i) := cell_of p3
  have HT := fun v => Lib.hid (sp_tell_bad (f1.keep h (by simp)) hi hi1 v)
  clear h p3
  go_enter Try.func35, Try.ntmps35
  go_wp2_with fail
  refine (HT _).out.mono ?_
  rintro x w2 ⟨rfl, f2⟩
  go_wp2_with fail
  go_ret
  exact ⟨rfl, f1.then0 f2⟩
theorem sp_close_z {w : World} {r : Option Addr} (h : Zs w r) (i : Int) :
    Calls Try.prog 35 #[.pointer r, .int .i64 i] w fun x w' => x = .returned (.int .i64 1) ∧ Fr [] w w' := by
  have hmf : ∀ (fn : Fn) (first cap : Array Value) (w : World), (Instr.makeFunc fn first cap).run Try.prog w = .ok (.func fn first cap) w := fun _ _ _ _ => rfl
  obtain ⟨w1, hw1, f1, p3⟩ : ∃ W1, (w.alloc (.cells #[.int .i64 i] 3)) = W1 ∧ Fr [] w W1 ∧ W1.heap[w.heap.size]? = some (.cells #[.int .i64 i] 3 (0, 0)) := ⟨_, rfl, (Fr.refl _ _).alloc _, newA rfl⟩
  have d3 : w1.cell? ⟨w.heap.size, 0, none⟩ = some (.int .i64 i) := cell_of p3
  have HT := fun v => Lib.hid (sp_tell_z (h.keep f1) i v)
  clear h p3
  go_enter Try.func35, Try.ntmps35
  go_wp2_with fail
  refine (HT _).out.mono ?_
  rintro x w2 ⟨rfl, f2⟩
  go_wp2_with fail
  go_ret
  exact ⟨rfl, f1.then0 f2⟩
end Go.Proofs.Ytodpkdbcdbdjfaa
