/-
  The reference of layer 14: open, AtEnd, How, Code, New.
-/
import Derived.Test.YtdoamelhclnphaaRefB14
namespace Go.Proofs.Ytdoamelhclnphaa
open Go.RowKit
set_option maxRecDepth 100000

set_option maxHeartbeats 1000000 in
theorem r_open {w : World} {N : Nat → Prop} {v : Value} {m : SM} (h : Sv w N v m) :
    Calls Try.prog 92 #[v] w fun e w' => e = .returned (.bool (opM m)) ∧ Fr [] w w' := by
  obtain ⟨u1, u2, rfl, hq, hr⟩ := h
  obtain ⟨a1, k1, rfl, _⟩ := id hq
  obtain ⟨a2, k2, rfl, _⟩ := id hr
  have HQ := Lib.hid (And.intro hq hr)
  clear hq hr
  obtain ⟨w0, hw0, f0, q0⟩ : ∃ W, w.alloc (.cells #[.int .i64 m.c, .slice a1 m.q.length k1, .bool m.busy, .slice a2 m.rest.length k2, .int .i64 m.acc, .int .i64 m.w, .int .i64 m.r] 41) = W ∧ Fr [] w W ∧ S7 W w.heap.size m.c a1 m.q.length k1 m.busy a2 m.rest.length k2 m.acc m.w m.r := ⟨_, rfl, (Fr.refl _ _).alloc _, newA rfl⟩
  obtain ⟨x0, x1, x2, x3, x4, x5, x6, p0, p1, p2, p3, p4, p5, p6⟩ := q0.cells
  have hz0 : w.heap.size < w0.heap.size := lt_of_heap q0
  have HF := Lib.hid f0
  have HB := Lib.hid q0
  clear q0 f0
  unfold opM
  go_enter Try.func92, Try.ntmps92
  go_wp2_with fail
  all_goals (go_ret; exact ⟨by simp_all, HF.out⟩)
set_option maxHeartbeats 1000000 in
theorem r_how {w : World} {N : Nat → Prop} {v : Value} {m : SM} (h : Sv w N v m) :
    Calls Try.prog 114 #[v] w fun e w' => e = .returned (.int .i64 (howM m)) ∧ Fr [] w w' := by
  obtain ⟨u1, u2, rfl, hq, hr⟩ := h
  obtain ⟨a1, k1, rfl, _⟩ := id hq
  obtain ⟨a2, k2, rfl, _⟩ := id hr
  have HQ := Lib.hid (And.intro hq hr)
  clear hq hr
  obtain ⟨w0, hw0, f0, q0⟩ : ∃ W, w.alloc (.cells #[.int .i64 m.c, .slice a1 m.q.length k1, .bool m.busy, .slice a2 m.rest.length k2, .int .i64 m.acc, .int .i64 m.w, .int .i64 m.r] 41) = W ∧ Fr [] w W ∧ S7 W w.heap.size m.c a1 m.q.length k1 m.busy a2 m.rest.length k2 m.acc m.w m.r := ⟨_, rfl, (Fr.refl _ _).alloc _, newA rfl⟩
  obtain ⟨x0, x1, x2, x3, x4, x5, x6, p0, p1, p2, p3, p4, p5, p6⟩ := q0.cells
  have hz0 : w.heap.size < w0.heap.size := lt_of_heap q0
  have HF := Lib.hid f0
  have HB := Lib.hid q0
  clear q0 f0
  have hnl : ((m.rest.length : Int) = 0) = (m.rest = []) := by simp
  unfold howM
  go_enter Try.func114, Try.ntmps114
  go_wp2_with fail
  all_goals (go_ret; exact ⟨by simp_all, HF.out⟩)
theorem r_code (w : World) (x : Int) :
    Calls Try.prog 115 #[.int .i64 x] w fun e w' => e = .returned (.bool (codeM x)) ∧ w = w' := by
  unfold codeM
  go_enter Try.func115, Try.ntmps115
  go_wp2_with fail
  all_goals (go_ret; exact ⟨by first | (simp_all; done) | (simp; omega) | (simp_all; omega), rfl⟩)
set_option maxHeartbeats 1000000 in
theorem r_atend {w : World} {N : Nat → Prop} {v : Value} {m : SM} (h : Sv w N v m) :
    Calls Try.prog 88 #[v] w fun e w' => e = .returned (.bool (atEndM m)) ∧ Fr [] w w' := by
  obtain ⟨u1, u2, rfl, hq, hr⟩ := h
  obtain ⟨a1, k1, rfl, _⟩ := id hq
  obtain ⟨a2, k2, rfl, _⟩ := id hr
  have HQ := Lib.hid (And.intro hq hr)
  clear hq hr
  by_cases hb : m.busy = false
  · have e : atEndM m = false := by unfold atEndM; rw [hb]; rfl
    rw [e, hb]
    obtain ⟨w0, hw0, f0, q0⟩ : ∃ W, w.alloc (.cells #[.int .i64 m.c, .slice a1 m.q.length k1, .bool false, .slice a2 m.rest.length k2, .int .i64 m.acc, .int .i64 m.w, .int .i64 m.r] 41) = W ∧ Fr [] w W ∧ S7 W w.heap.size m.c a1 m.q.length k1 false a2 m.rest.length k2 m.acc m.w m.r := ⟨_, rfl, (Fr.refl _ _).alloc _, newA rfl⟩
    obtain ⟨x0, x1, x2, x3, x4, x5, x6, p0, p1, p2, p3, p4, p5, p6⟩ := q0.cells
    have hz0 : w.heap.size < w0.heap.size := lt_of_heap q0
    have HF := Lib.hid f0
    have HB := Lib.hid q0
    clear q0 f0
    clear e hb
    go_enter Try.func88, Try.ntmps88
    go_wp2_with fail
    go_ret
    exact ⟨by simp_all, HF.out⟩
  · have hb' : m.busy = true := by simpa using hb
    clear hb
    by_cases hr : m.rest = []
    · have e : atEndM m = true := by unfold atEndM; rw [hb', hr]; rfl
      have hl : m.rest.length = 0 := by rw [hr]; rfl
      clear hr
      rw [e, hb', hl]
      obtain ⟨w0, hw0, f0, q0⟩ : ∃ W, w.alloc (.cells #[.int .i64 m.c, .slice a1 m.q.length k1, .bool true, .slice a2 0 k2, .int .i64 m.acc, .int .i64 m.w, .int .i64 m.r] 41) = W ∧ Fr [] w W ∧ S7 W w.heap.size m.c a1 m.q.length k1 true a2 0 k2 m.acc m.w m.r := ⟨_, rfl, (Fr.refl _ _).alloc _, newA rfl⟩
      obtain ⟨x0, x1, x2, x3, x4, x5, x6, p0, p1, p2, p3, p4, p5, p6⟩ := q0.cells
      have hz0 : w.heap.size < w0.heap.size := lt_of_heap q0
      have HF := Lib.hid f0
      have HB := Lib.hid q0
      clear q0 f0
      clear e hb' hl
      go_enter Try.func88, Try.ntmps88
      go_wp2_with fail
      go_ret
      exact ⟨by simp_all, HF.out⟩
    · have e : atEndM m = !opM m := by unfold atEndM; rw [hb']; cases hx : m.rest with | nil => exact absurd hx hr | cons a l => rfl
      have hl : ¬ (m.rest.length : Int) = 0 := by simpa using hr
      rw [e, hb']
      obtain ⟨w0, hw0, f0, q0⟩ : ∃ W, w.alloc (.cells #[.int .i64 m.c, .slice a1 m.q.length k1, .bool true, .slice a2 m.rest.length k2, .int .i64 m.acc, .int .i64 m.w, .int .i64 m.r] 41) = W ∧ Fr [] w W ∧ S7 W w.heap.size m.c a1 m.q.length k1 true a2 m.rest.length k2 m.acc m.w m.r := ⟨_, rfl, (Fr.refl _ _).alloc _, newA rfl⟩
      obtain ⟨x0, x1, x2, x3, x4, x5, x6, p0, p1, p2, p3, p4, p5, p6⟩ := q0.cells
      have hz0 : w.heap.size < w0.heap.size := lt_of_heap q0
      have HF := Lib.hid f0
      have HB := Lib.hid q0
      clear q0 f0
      have HO := Lib.hid (r_open (w := w0) (N := N) (v := .agg #[.int .i64 m.c, .slice a1 m.q.length k1, .bool true, .slice a2 m.rest.length k2, .int .i64 m.acc, .int .i64 m.w, .int .i64 m.r]) (m := m) ⟨_, _, by rw [hb'], HQ.out.1.keep HF.out (by simp), HQ.out.2.keep HF.out (by simp)⟩)
      clear e hb'
      go_enter Try.func88, Try.ntmps88
      go_wp2_with fail
      refine HO.out.mono ?_
      rintro e w2 ⟨rfl, f2⟩
      go_wp2_with fail
      go_ret
      exact ⟨by simp [hr], HF.out.then0 f2⟩

end Go.Proofs.Ytdoamelhclnphaa
