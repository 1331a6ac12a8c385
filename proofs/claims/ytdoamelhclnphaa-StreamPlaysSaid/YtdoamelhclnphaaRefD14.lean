/-
  The reference of layer 14: CloseWrite, CloseRead, End, New.
-/
import Derived.Test.YtdoamelhclnphaaRefC14
namespace Go.Proofs.Ytdoamelhclnphaa
open Go.RowKit
set_option maxRecDepth 100000

set_option maxHeartbeats 1000000 in
theorem r_closew {w : World} {N : Nat → Prop} {v : Value} {m : SM} (h : Sv w N v m) (x : Int) :
    Calls Try.prog 86 #[v, .int .i64 x] w fun e w' => ∃ v', e = .returned (.tuple #[v', .int .i64 (closewM m x).err]) ∧ Fr [] w w' ∧ Sv w' N v' (closewM m x).m := by
  obtain ⟨u1, u2, rfl, hq, hr⟩ := h
  obtain ⟨a1, k1, rfl, _⟩ := id hq
  obtain ⟨a2, k2, rfl, _⟩ := id hr
  have HQ := Lib.hid (And.intro hq hr)
  clear hq hr
  by_cases hx : codeM x = false
  · have e : closewM m x = ⟨m, 2⟩ := by unfold closewM; rw [if_pos hx]
    rw [e]
    clear e
    obtain ⟨w0, hw0, f0, q0, z0⟩ : ∃ W, (w.alloc (.cells #[.int .i64 m.c, .slice a1 m.q.length k1, .bool m.busy, .slice a2 m.rest.length k2, .int .i64 m.acc, .int .i64 m.w, .int .i64 m.r] 41)).alloc (.cells #[.int .i64 0, .slice none 0 0, .bool false, .slice none 0 0, .int .i64 0, .int .i64 0, .int .i64 0] 41) = W ∧ Fr [] w W ∧ S7 W w.heap.size m.c a1 m.q.length k1 m.busy a2 m.rest.length k2 m.acc m.w m.r ∧ S7 W (w.heap.size + 1) 0 none 0 0 false none 0 0 0 0 0 := ⟨_, rfl, ((Fr.refl _ _).alloc _).alloc _, keepA (newA rfl), newA (by simp)⟩
    obtain ⟨x0, x1, x2, x3, x4, x5, x6, p0, p1, p2, p3, p4, p5, p6⟩ := q0.cells
    have hz0 : w.heap.size + 1 < w0.heap.size := lt_of_heap z0
    have HZ := Lib.hid z0
    have HF := Lib.hid f0
    have HB := Lib.hid q0
    clear q0 z0 f0
    have HC := Lib.hid (r_code w0 x)
    rw [hx] at HC
    clear hx
    have HZS := Lib.hid (HZ.out)
    have HFS := Lib.hid (HF.out)
    go_enter Try.func86, Try.ntmps86
    go_wp2_with fail
    refine HC.out.mono ?_
    rintro e wc ⟨rfl, rfl⟩
    go_wp2_with (refine wpl_store rfl 41 _ _ rfl (w.heap.size + 1) #[.int .i64 m.c, .slice a1 m.q.length k1, .bool m.busy, .slice a2 m.rest.length k2, .int .i64 m.acc, .int .i64 m.w, .int .i64 m.r] (by rfl) (by rfl) _ _ HZS.out (by kernel_rfl) rfl (by simp [Value.oneCell']) ?_)
    intro wf ff qf
    obtain ⟨y0, y1, y2, y3, y4, y5, y6, _, _, _, _, _, _, _⟩ := S7.cells qf
    clear x0 x1 x2 x3 x4 x5 x6 p0 p1 p2 p3 p4 p5 p6
    go_wp2_with fail
    refine bodyPost_ret (v := .tuple #[.agg #[.int .i64 m.c, .slice a1 m.q.length k1, .bool m.busy, .slice a2 m.rest.length k2, .int .i64 m.acc, .int .i64 m.w, .int .i64 m.r], .int .i64 2]) (by simp [results, Try.results86, go_sem, y0, y1, y2, y3, y4, y5, y6]) rfl ?_
    have F : Fr [] w wf := Fr.trans (U := []) (S := []) HFS.out ff (by simp) (fun x hx => .inr (by simp at hx; omega))
    exact ⟨_, rfl, F, _, _, rfl, HQ.out.1.keep F (by simp), HQ.out.2.keep F (by simp)⟩
  · by_cases hw : m.w ≠ 0
    · have e : closewM m x = ⟨m, 14⟩ := by unfold closewM; rw [if_neg hx, if_pos hw]
      replace hx : codeM x = true := by simpa using hx
      rw [e]
      clear e
      obtain ⟨w0, hw0, f0, q0, z0⟩ : ∃ W, (w.alloc (.cells #[.int .i64 m.c, .slice a1 m.q.length k1, .bool m.busy, .slice a2 m.rest.length k2, .int .i64 m.acc, .int .i64 m.w, .int .i64 m.r] 41)).alloc (.cells #[.int .i64 0, .slice none 0 0, .bool false, .slice none 0 0, .int .i64 0, .int .i64 0, .int .i64 0] 41) = W ∧ Fr [] w W ∧ S7 W w.heap.size m.c a1 m.q.length k1 m.busy a2 m.rest.length k2 m.acc m.w m.r ∧ S7 W (w.heap.size + 1) 0 none 0 0 false none 0 0 0 0 0 := ⟨_, rfl, ((Fr.refl _ _).alloc _).alloc _, keepA (newA rfl), newA (by simp)⟩
      obtain ⟨x0, x1, x2, x3, x4, x5, x6, p0, p1, p2, p3, p4, p5, p6⟩ := q0.cells
      have hz0 : w.heap.size + 1 < w0.heap.size := lt_of_heap z0
      have HZ := Lib.hid z0
      have HF := Lib.hid f0
      have HB := Lib.hid q0
      clear q0 z0 f0
      have HC := Lib.hid (r_code w0 x)
      rw [hx] at HC
      clear hx
      have HZS := Lib.hid (HZ.out)
      have HFS := Lib.hid (HF.out)
      go_enter Try.func86, Try.ntmps86
      go_wp2_with fail
      refine HC.out.mono ?_
      rintro e wc ⟨rfl, rfl⟩
      go_wp2_with (refine wpl_store rfl 41 _ _ rfl (w.heap.size + 1) #[.int .i64 m.c, .slice a1 m.q.length k1, .bool m.busy, .slice a2 m.rest.length k2, .int .i64 m.acc, .int .i64 m.w, .int .i64 m.r] (by rfl) (by rfl) _ _ HZS.out (by kernel_rfl) rfl (by simp [Value.oneCell']) ?_)
      intro wf ff qf
      obtain ⟨y0, y1, y2, y3, y4, y5, y6, _, _, _, _, _, _, _⟩ := S7.cells qf
      clear x0 x1 x2 x3 x4 x5 x6 p0 p1 p2 p3 p4 p5 p6
      go_wp2_with fail
      refine bodyPost_ret (v := .tuple #[.agg #[.int .i64 m.c, .slice a1 m.q.length k1, .bool m.busy, .slice a2 m.rest.length k2, .int .i64 m.acc, .int .i64 m.w, .int .i64 m.r], .int .i64 14]) (by simp [results, Try.results86, go_sem, y0, y1, y2, y3, y4, y5, y6]) rfl ?_
      have F : Fr [] w wf := Fr.trans (U := []) (S := []) HFS.out ff (by simp) (fun x hx => .inr (by simp at hx; omega))
      exact ⟨_, rfl, F, _, _, rfl, HQ.out.1.keep F (by simp), HQ.out.2.keep F (by simp)⟩
    · have e : closewM m x = ⟨{ m with w := x }, 0⟩ := by unfold closewM; rw [if_neg hx, if_neg hw]
      replace hx : codeM x = true := by simpa using hx
      have hw' : m.w = 0 := by omega
      rw [e]
      clear e hw
      rw [hw']
      have H_hw' := Lib.hid hw'
      obtain ⟨w0, hw0, f0, q0, z0⟩ : ∃ W, (w.alloc (.cells #[.int .i64 m.c, .slice a1 m.q.length k1, .bool m.busy, .slice a2 m.rest.length k2, .int .i64 m.acc, .int .i64 0, .int .i64 m.r] 41)).alloc (.cells #[.int .i64 0, .slice none 0 0, .bool false, .slice none 0 0, .int .i64 0, .int .i64 0, .int .i64 0] 41) = W ∧ Fr [] w W ∧ S7 W w.heap.size m.c a1 m.q.length k1 m.busy a2 m.rest.length k2 m.acc 0 m.r ∧ S7 W (w.heap.size + 1) 0 none 0 0 false none 0 0 0 0 0 := ⟨_, rfl, ((Fr.refl _ _).alloc _).alloc _, keepA (newA rfl), newA (by simp)⟩
      obtain ⟨x0, x1, x2, x3, x4, x5, x6, p0, p1, p2, p3, p4, p5, p6⟩ := q0.cells
      have hz0 : w.heap.size + 1 < w0.heap.size := lt_of_heap z0
      have HZ := Lib.hid z0
      have HF := Lib.hid f0
      have HB := Lib.hid q0
      clear q0 z0 f0
      clear hw'
      have HC := Lib.hid (r_code w0 x)
      rw [hx] at HC
      clear hx
      obtain ⟨wn1, hwn1, fn1, qn1, zn1⟩ : ∃ W, w0.setCell ⟨w.heap.size, 5, none⟩ (.int .i64 x) = W ∧ Fr [] w W ∧ W.heap[w.heap.size]? = some (.cells #[.int .i64 m.c, .slice a1 m.q.length k1, .bool m.busy, .slice a2 m.rest.length k2, .int .i64 m.acc, .int .i64 x, .int .i64 m.r] 41 (0, 0)) ∧ S7 W (w.heap.size + 1) 0 none 0 0 false none 0 0 0 0 0 := ⟨_, rfl, Fr.setCell (p := ⟨w.heap.size, 5, none⟩) (HF.out) (.inr (Nat.le_refl _)) (.int .i64 x), (by have hx := heap_setCell_eq (i := 5) (u := .int .i64 x) (HB.out); simpa [S7] using hx), keepS (a := ⟨w.heap.size, 5, none⟩) (v := .int .i64 x) (HZ.out) (by dsimp only; omega)⟩
      have xn1_0 : wn1.cell? ⟨w.heap.size, 0, none⟩ = some (.int .i64 m.c) := cell_of qn1
      have xn1_1 : wn1.cell? ⟨w.heap.size, 1, none⟩ = some (.slice a1 m.q.length k1) := cell_of qn1
      have xn1_2 : wn1.cell? ⟨w.heap.size, 2, none⟩ = some (.bool m.busy) := cell_of qn1
      have xn1_3 : wn1.cell? ⟨w.heap.size, 3, none⟩ = some (.slice a2 m.rest.length k2) := cell_of qn1
      have xn1_4 : wn1.cell? ⟨w.heap.size, 4, none⟩ = some (.int .i64 m.acc) := cell_of qn1
      have xn1_5 : wn1.cell? ⟨w.heap.size, 5, none⟩ = some (.int .i64 x) := cell_of qn1
      have xn1_6 : wn1.cell? ⟨w.heap.size, 6, none⟩ = some (.int .i64 m.r) := cell_of qn1
      have pn1_0 : wn1.frozen? ⟨w.heap.size, 0, none⟩ = false := free_of qn1
      have pn1_1 : wn1.frozen? ⟨w.heap.size, 1, none⟩ = false := free_of qn1
      have pn1_2 : wn1.frozen? ⟨w.heap.size, 2, none⟩ = false := free_of qn1
      have pn1_3 : wn1.frozen? ⟨w.heap.size, 3, none⟩ = false := free_of qn1
      have pn1_4 : wn1.frozen? ⟨w.heap.size, 4, none⟩ = false := free_of qn1
      have pn1_5 : wn1.frozen? ⟨w.heap.size, 5, none⟩ = false := free_of qn1
      have pn1_6 : wn1.frozen? ⟨w.heap.size, 6, none⟩ = false := free_of qn1
      have HZS := Lib.hid (zn1)
      have HFS := Lib.hid (fn1)
      have HQN1 := Lib.hid (And.intro qn1 (And.intro zn1 fn1))
      clear qn1 zn1 fn1
      go_enter Try.func86, Try.ntmps86
      go_wp2_with fail
      refine HC.out.mono ?_
      rintro e wc ⟨rfl, rfl⟩
      go_wp2_with (refine wpl_store rfl 41 _ _ rfl (w.heap.size + 1) #[.int .i64 m.c, .slice a1 m.q.length k1, .bool m.busy, .slice a2 m.rest.length k2, .int .i64 m.acc, .int .i64 x, .int .i64 m.r] (by rfl) (by rfl) _ _ HZS.out (by kernel_rfl) rfl (by simp [Value.oneCell']) ?_)
      intro wf ff qf
      obtain ⟨y0, y1, y2, y3, y4, y5, y6, _, _, _, _, _, _, _⟩ := S7.cells qf
      clear x0 x1 x2 x3 x4 x5 x6 p0 p1 p2 p3 p4 p5 p6
      go_wp2_with fail
      refine bodyPost_ret (v := .tuple #[.agg #[.int .i64 m.c, .slice a1 m.q.length k1, .bool m.busy, .slice a2 m.rest.length k2, .int .i64 m.acc, .int .i64 x, .int .i64 m.r], .int .i64 0]) (by simp [results, Try.results86, go_sem, y0, y1, y2, y3, y4, y5, y6]) rfl ?_
      have F : Fr [] w wf := Fr.trans (U := []) (S := []) HFS.out ff (by simp) (fun x hx => .inr (by simp at hx; omega))
      exact ⟨_, rfl, F, _, _, (by first | rfl | rw [H_hw'.out]), HQ.out.1.keep F (by simp), HQ.out.2.keep F (by simp)⟩
set_option maxHeartbeats 1000000 in
theorem r_closer {w : World} {N : Nat → Prop} {v : Value} {m : SM} (h : Sv w N v m) (x : Int) :
    Calls Try.prog 87 #[v, .int .i64 x] w fun e w' => ∃ v', e = .returned (.tuple #[v', .int .i64 (closerM m x).err]) ∧ Fr [] w w' ∧ Sv w' N v' (closerM m x).m := by
  obtain ⟨u1, u2, rfl, hq, hr⟩ := h
  obtain ⟨a1, k1, rfl, _⟩ := id hq
  obtain ⟨a2, k2, rfl, _⟩ := id hr
  have HQ := Lib.hid (And.intro hq hr)
  clear hq hr
  by_cases hx : codeM x = false
  · have e : closerM m x = ⟨m, 2⟩ := by unfold closerM; rw [if_pos hx]
    rw [e]
    clear e
    obtain ⟨w0, hw0, f0, q0, z0⟩ : ∃ W, (w.alloc (.cells #[.int .i64 m.c, .slice a1 m.q.length k1, .bool m.busy, .slice a2 m.rest.length k2, .int .i64 m.acc, .int .i64 m.w, .int .i64 m.r] 41)).alloc (.cells #[.int .i64 0, .slice none 0 0, .bool false, .slice none 0 0, .int .i64 0, .int .i64 0, .int .i64 0] 41) = W ∧ Fr [] w W ∧ S7 W w.heap.size m.c a1 m.q.length k1 m.busy a2 m.rest.length k2 m.acc m.w m.r ∧ S7 W (w.heap.size + 1) 0 none 0 0 false none 0 0 0 0 0 := ⟨_, rfl, ((Fr.refl _ _).alloc _).alloc _, keepA (newA rfl), newA (by simp)⟩
    obtain ⟨x0, x1, x2, x3, x4, x5, x6, p0, p1, p2, p3, p4, p5, p6⟩ := q0.cells
    have hz0 : w.heap.size + 1 < w0.heap.size := lt_of_heap z0
    have HZ := Lib.hid z0
    have HF := Lib.hid f0
    have HB := Lib.hid q0
    clear q0 z0 f0
    have HC := Lib.hid (r_code w0 x)
    rw [hx] at HC
    clear hx
    have HZS := Lib.hid (HZ.out)
    have HFS := Lib.hid (HF.out)
    go_enter Try.func87, Try.ntmps87
    go_wp2_with fail
    refine HC.out.mono ?_
    rintro e wc ⟨rfl, rfl⟩
    go_wp2_with (refine wpl_store rfl 41 _ _ rfl (w.heap.size + 1) #[.int .i64 m.c, .slice a1 m.q.length k1, .bool m.busy, .slice a2 m.rest.length k2, .int .i64 m.acc, .int .i64 m.w, .int .i64 m.r] (by rfl) (by rfl) _ _ HZS.out (by kernel_rfl) rfl (by simp [Value.oneCell']) ?_)
    intro wf ff qf
    obtain ⟨y0, y1, y2, y3, y4, y5, y6, _, _, _, _, _, _, _⟩ := S7.cells qf
    clear x0 x1 x2 x3 x4 x5 x6 p0 p1 p2 p3 p4 p5 p6
    go_wp2_with fail
    refine bodyPost_ret (v := .tuple #[.agg #[.int .i64 m.c, .slice a1 m.q.length k1, .bool m.busy, .slice a2 m.rest.length k2, .int .i64 m.acc, .int .i64 m.w, .int .i64 m.r], .int .i64 2]) (by simp [results, Try.results87, go_sem, y0, y1, y2, y3, y4, y5, y6]) rfl ?_
    have F : Fr [] w wf := Fr.trans (U := []) (S := []) HFS.out ff (by simp) (fun x hx => .inr (by simp at hx; omega))
    exact ⟨_, rfl, F, _, _, rfl, HQ.out.1.keep F (by simp), HQ.out.2.keep F (by simp)⟩
  · by_cases hw : m.r ≠ 0
    · have e : closerM m x = ⟨m, 14⟩ := by unfold closerM; rw [if_neg hx, if_pos hw]
      replace hx : codeM x = true := by simpa using hx
      rw [e]
      clear e
      obtain ⟨w0, hw0, f0, q0, z0⟩ : ∃ W, (w.alloc (.cells #[.int .i64 m.c, .slice a1 m.q.length k1, .bool m.busy, .slice a2 m.rest.length k2, .int .i64 m.acc, .int .i64 m.w, .int .i64 m.r] 41)).alloc (.cells #[.int .i64 0, .slice none 0 0, .bool false, .slice none 0 0, .int .i64 0, .int .i64 0, .int .i64 0] 41) = W ∧ Fr [] w W ∧ S7 W w.heap.size m.c a1 m.q.length k1 m.busy a2 m.rest.length k2 m.acc m.w m.r ∧ S7 W (w.heap.size + 1) 0 none 0 0 false none 0 0 0 0 0 := ⟨_, rfl, ((Fr.refl _ _).alloc _).alloc _, keepA (newA rfl), newA (by simp)⟩
      obtain ⟨x0, x1, x2, x3, x4, x5, x6, p0, p1, p2, p3, p4, p5, p6⟩ := q0.cells
      have hz0 : w.heap.size + 1 < w0.heap.size := lt_of_heap z0
      have HZ := Lib.hid z0
      have HF := Lib.hid f0
      have HB := Lib.hid q0
      clear q0 z0 f0
      have HC := Lib.hid (r_code w0 x)
      rw [hx] at HC
      clear hx
      have HZS := Lib.hid (HZ.out)
      have HFS := Lib.hid (HF.out)
      go_enter Try.func87, Try.ntmps87
      go_wp2_with fail
      refine HC.out.mono ?_
      rintro e wc ⟨rfl, rfl⟩
      go_wp2_with (refine wpl_store rfl 41 _ _ rfl (w.heap.size + 1) #[.int .i64 m.c, .slice a1 m.q.length k1, .bool m.busy, .slice a2 m.rest.length k2, .int .i64 m.acc, .int .i64 m.w, .int .i64 m.r] (by rfl) (by rfl) _ _ HZS.out (by kernel_rfl) rfl (by simp [Value.oneCell']) ?_)
      intro wf ff qf
      obtain ⟨y0, y1, y2, y3, y4, y5, y6, _, _, _, _, _, _, _⟩ := S7.cells qf
      clear x0 x1 x2 x3 x4 x5 x6 p0 p1 p2 p3 p4 p5 p6
      go_wp2_with fail
      refine bodyPost_ret (v := .tuple #[.agg #[.int .i64 m.c, .slice a1 m.q.length k1, .bool m.busy, .slice a2 m.rest.length k2, .int .i64 m.acc, .int .i64 m.w, .int .i64 m.r], .int .i64 14]) (by simp [results, Try.results87, go_sem, y0, y1, y2, y3, y4, y5, y6]) rfl ?_
      have F : Fr [] w wf := Fr.trans (U := []) (S := []) HFS.out ff (by simp) (fun x hx => .inr (by simp at hx; omega))
      exact ⟨_, rfl, F, _, _, rfl, HQ.out.1.keep F (by simp), HQ.out.2.keep F (by simp)⟩
    · have e : closerM m x = ⟨{ m with r := x, q := [] }, 0⟩ := by unfold closerM; rw [if_neg hx, if_neg hw]
      replace hx : codeM x = true := by simpa using hx
      have hw' : m.r = 0 := by omega
      rw [e]
      clear e hw
      rw [hw']
      have H_hw' := Lib.hid hw'
      obtain ⟨w0, hw0, f0, q0, z0⟩ : ∃ W, (w.alloc (.cells #[.int .i64 m.c, .slice a1 m.q.length k1, .bool m.busy, .slice a2 m.rest.length k2, .int .i64 m.acc, .int .i64 m.w, .int .i64 0] 41)).alloc (.cells #[.int .i64 0, .slice none 0 0, .bool false, .slice none 0 0, .int .i64 0, .int .i64 0, .int .i64 0] 41) = W ∧ Fr [] w W ∧ S7 W w.heap.size m.c a1 m.q.length k1 m.busy a2 m.rest.length k2 m.acc m.w 0 ∧ S7 W (w.heap.size + 1) 0 none 0 0 false none 0 0 0 0 0 := ⟨_, rfl, ((Fr.refl _ _).alloc _).alloc _, keepA (newA rfl), newA (by simp)⟩
      obtain ⟨x0, x1, x2, x3, x4, x5, x6, p0, p1, p2, p3, p4, p5, p6⟩ := q0.cells
      have hz0 : w.heap.size + 1 < w0.heap.size := lt_of_heap z0
      have HZ := Lib.hid z0
      have HF := Lib.hid f0
      have HB := Lib.hid q0
      clear q0 z0 f0
      clear hw'
      have HC := Lib.hid (r_code w0 x)
      rw [hx] at HC
      clear hx
      obtain ⟨wn1, hwn1, fn1, qn1, zn1⟩ : ∃ W, w0.setCell ⟨w.heap.size, 6, none⟩ (.int .i64 x) = W ∧ Fr [] w W ∧ W.heap[w.heap.size]? = some (.cells #[.int .i64 m.c, .slice a1 m.q.length k1, .bool m.busy, .slice a2 m.rest.length k2, .int .i64 m.acc, .int .i64 m.w, .int .i64 x] 41 (0, 0)) ∧ S7 W (w.heap.size + 1) 0 none 0 0 false none 0 0 0 0 0 := ⟨_, rfl, Fr.setCell (p := ⟨w.heap.size, 6, none⟩) (HF.out) (.inr (Nat.le_refl _)) (.int .i64 x), (by have hx := heap_setCell_eq (i := 6) (u := .int .i64 x) (HB.out); simpa [S7] using hx), keepS (a := ⟨w.heap.size, 6, none⟩) (v := .int .i64 x) (HZ.out) (by dsimp only; omega)⟩
      have xn1_0 : wn1.cell? ⟨w.heap.size, 0, none⟩ = some (.int .i64 m.c) := cell_of qn1
      have xn1_1 : wn1.cell? ⟨w.heap.size, 1, none⟩ = some (.slice a1 m.q.length k1) := cell_of qn1
      have xn1_2 : wn1.cell? ⟨w.heap.size, 2, none⟩ = some (.bool m.busy) := cell_of qn1
      have xn1_3 : wn1.cell? ⟨w.heap.size, 3, none⟩ = some (.slice a2 m.rest.length k2) := cell_of qn1
      have xn1_4 : wn1.cell? ⟨w.heap.size, 4, none⟩ = some (.int .i64 m.acc) := cell_of qn1
      have xn1_5 : wn1.cell? ⟨w.heap.size, 5, none⟩ = some (.int .i64 m.w) := cell_of qn1
      have xn1_6 : wn1.cell? ⟨w.heap.size, 6, none⟩ = some (.int .i64 x) := cell_of qn1
      have pn1_0 : wn1.frozen? ⟨w.heap.size, 0, none⟩ = false := free_of qn1
      have pn1_1 : wn1.frozen? ⟨w.heap.size, 1, none⟩ = false := free_of qn1
      have pn1_2 : wn1.frozen? ⟨w.heap.size, 2, none⟩ = false := free_of qn1
      have pn1_3 : wn1.frozen? ⟨w.heap.size, 3, none⟩ = false := free_of qn1
      have pn1_4 : wn1.frozen? ⟨w.heap.size, 4, none⟩ = false := free_of qn1
      have pn1_5 : wn1.frozen? ⟨w.heap.size, 5, none⟩ = false := free_of qn1
      have pn1_6 : wn1.frozen? ⟨w.heap.size, 6, none⟩ = false := free_of qn1
      obtain ⟨wn2, hwn2, fn2, qn2, zn2⟩ : ∃ W, wn1.setCell ⟨w.heap.size, 1, none⟩ (.slice none 0 0) = W ∧ Fr [] w W ∧ W.heap[w.heap.size]? = some (.cells #[.int .i64 m.c, .slice none 0 0, .bool m.busy, .slice a2 m.rest.length k2, .int .i64 m.acc, .int .i64 m.w, .int .i64 x] 41 (0, 0)) ∧ S7 W (w.heap.size + 1) 0 none 0 0 false none 0 0 0 0 0 := ⟨_, rfl, Fr.setCell (p := ⟨w.heap.size, 1, none⟩) (fn1) (.inr (Nat.le_refl _)) (.slice none 0 0), (by have hx := heap_setCell_eq (i := 1) (u := .slice none 0 0) (qn1); simpa [S7] using hx), keepS (a := ⟨w.heap.size, 1, none⟩) (v := .slice none 0 0) (zn1) (by dsimp only; omega)⟩
      have xn2_0 : wn2.cell? ⟨w.heap.size, 0, none⟩ = some (.int .i64 m.c) := cell_of qn2
      have xn2_1 : wn2.cell? ⟨w.heap.size, 1, none⟩ = some (.slice none 0 0) := cell_of qn2
      have xn2_2 : wn2.cell? ⟨w.heap.size, 2, none⟩ = some (.bool m.busy) := cell_of qn2
      have xn2_3 : wn2.cell? ⟨w.heap.size, 3, none⟩ = some (.slice a2 m.rest.length k2) := cell_of qn2
      have xn2_4 : wn2.cell? ⟨w.heap.size, 4, none⟩ = some (.int .i64 m.acc) := cell_of qn2
      have xn2_5 : wn2.cell? ⟨w.heap.size, 5, none⟩ = some (.int .i64 m.w) := cell_of qn2
      have xn2_6 : wn2.cell? ⟨w.heap.size, 6, none⟩ = some (.int .i64 x) := cell_of qn2
      have pn2_0 : wn2.frozen? ⟨w.heap.size, 0, none⟩ = false := free_of qn2
      have pn2_1 : wn2.frozen? ⟨w.heap.size, 1, none⟩ = false := free_of qn2
      have pn2_2 : wn2.frozen? ⟨w.heap.size, 2, none⟩ = false := free_of qn2
      have pn2_3 : wn2.frozen? ⟨w.heap.size, 3, none⟩ = false := free_of qn2
      have pn2_4 : wn2.frozen? ⟨w.heap.size, 4, none⟩ = false := free_of qn2
      have pn2_5 : wn2.frozen? ⟨w.heap.size, 5, none⟩ = false := free_of qn2
      have pn2_6 : wn2.frozen? ⟨w.heap.size, 6, none⟩ = false := free_of qn2
      have HZS := Lib.hid (zn2)
      have HFS := Lib.hid (fn2)
      have HQN1 := Lib.hid (And.intro qn1 (And.intro zn1 fn1))
      clear qn1 zn1 fn1
      have HQN2 := Lib.hid (And.intro qn2 (And.intro zn2 fn2))
      clear qn2 zn2 fn2
      go_enter Try.func87, Try.ntmps87
      go_wp2_with fail
      refine HC.out.mono ?_
      rintro e wc ⟨rfl, rfl⟩
      go_wp2_with (refine wpl_store rfl 41 _ _ rfl (w.heap.size + 1) #[.int .i64 m.c, .slice none 0 0, .bool m.busy, .slice a2 m.rest.length k2, .int .i64 m.acc, .int .i64 m.w, .int .i64 x] (by rfl) (by rfl) _ _ HZS.out (by kernel_rfl) rfl (by simp [Value.oneCell']) ?_)
      intro wf ff qf
      obtain ⟨y0, y1, y2, y3, y4, y5, y6, _, _, _, _, _, _, _⟩ := S7.cells qf
      clear x0 x1 x2 x3 x4 x5 x6 p0 p1 p2 p3 p4 p5 p6
      go_wp2_with fail
      refine bodyPost_ret (v := .tuple #[.agg #[.int .i64 m.c, .slice none 0 0, .bool m.busy, .slice a2 m.rest.length k2, .int .i64 m.acc, .int .i64 m.w, .int .i64 x], .int .i64 0]) (by simp [results, Try.results87, go_sem, y0, y1, y2, y3, y4, y5, y6]) rfl ?_
      have F : Fr [] w wf := Fr.trans (U := []) (S := []) HFS.out ff (by simp) (fun x hx => .inr (by simp at hx; omega))
      exact ⟨_, rfl, F, _, _, (by first | rfl | rw [H_hw'.out]), PartV.nil _ _, HQ.out.2.keep F (by simp)⟩
set_option maxHeartbeats 1000000 in
theorem r_end {w : World} {N : Nat → Prop} {v : Value} {m : SM} (h : Sv w N v m) :
    Calls Try.prog 83 #[v] w fun e w' => ∃ v', e = .returned (.tuple #[v', .int .i64 (endM m).n, .int .i64 (endM m).err]) ∧ Fr [] w w' ∧ Sv w' N v' (endM m).m := by
  obtain ⟨u1, u2, rfl, hq, hr⟩ := h
  obtain ⟨a1, k1, rfl, _⟩ := id hq
  obtain ⟨a2, k2, rfl, _⟩ := id hr
  have HQ := Lib.hid (And.intro hq hr)
  clear hq hr
  by_cases hb : m.busy = false
  · have e : endM m = ⟨m, 0, 8⟩ := by unfold endM; rw [if_pos hb]
    rw [e]
    clear e
    rw [hb]
    have H_hb := Lib.hid hb
    obtain ⟨w0, hw0, f0, q0, z0⟩ : ∃ W, (w.alloc (.cells #[.int .i64 m.c, .slice a1 m.q.length k1, .bool false, .slice a2 m.rest.length k2, .int .i64 m.acc, .int .i64 m.w, .int .i64 m.r] 41)).alloc (.cells #[.int .i64 0, .slice none 0 0, .bool false, .slice none 0 0, .int .i64 0, .int .i64 0, .int .i64 0] 41) = W ∧ Fr [] w W ∧ S7 W w.heap.size m.c a1 m.q.length k1 false a2 m.rest.length k2 m.acc m.w m.r ∧ S7 W (w.heap.size + 1) 0 none 0 0 false none 0 0 0 0 0 := ⟨_, rfl, ((Fr.refl _ _).alloc _).alloc _, keepA (newA rfl), newA (by simp)⟩
    obtain ⟨x0, x1, x2, x3, x4, x5, x6, p0, p1, p2, p3, p4, p5, p6⟩ := q0.cells
    have hz0 : w.heap.size + 1 < w0.heap.size := lt_of_heap z0
    have HZ := Lib.hid z0
    have HF := Lib.hid f0
    have HB := Lib.hid q0
    clear q0 z0 f0
    clear hb
    have HZS := Lib.hid (HZ.out)
    have HFS := Lib.hid (HF.out)
    go_enter Try.func83, Try.ntmps83
    go_wp2_with (refine wpl_store rfl 41 _ _ rfl (w.heap.size + 1) #[.int .i64 m.c, .slice a1 m.q.length k1, .bool false, .slice a2 m.rest.length k2, .int .i64 m.acc, .int .i64 m.w, .int .i64 m.r] (by rfl) (by rfl) _ _ HZS.out (by kernel_rfl) rfl (by simp [Value.oneCell']) ?_)
    intro wf ff qf
    obtain ⟨y0, y1, y2, y3, y4, y5, y6, _, _, _, _, _, _, _⟩ := S7.cells qf
    clear x0 x1 x2 x3 x4 x5 x6 p0 p1 p2 p3 p4 p5 p6
    go_wp2_with fail
    refine bodyPost_ret (v := .tuple #[.agg #[.int .i64 m.c, .slice a1 m.q.length k1, .bool false, .slice a2 m.rest.length k2, .int .i64 m.acc, .int .i64 m.w, .int .i64 m.r], .int .i64 0, .int .i64 8]) (by simp [results, Try.results83, go_sem, y0, y1, y2, y3, y4, y5, y6]) rfl ?_
    have F : Fr [] w wf := Fr.trans (U := []) (S := []) HFS.out ff (by simp) (fun x hx => .inr (by simp at hx; omega))
    exact ⟨_, rfl, F, _, _, (by first | rfl | rw [H_hb.out]), HQ.out.1.keep F (by simp), HQ.out.2.keep F (by simp)⟩
  · have hb' : m.busy = true := by simpa using hb
    by_cases ha : atEndM m = false
    · have e : endM m = ⟨m, 0, 16⟩ := by unfold endM; rw [if_neg hb, if_pos ha]
      rw [e]
      clear e hb
      rw [hb']
      have H_hb' := Lib.hid hb'
      obtain ⟨w0, hw0, f0, q0, z0⟩ : ∃ W, (w.alloc (.cells #[.int .i64 m.c, .slice a1 m.q.length k1, .bool true, .slice a2 m.rest.length k2, .int .i64 m.acc, .int .i64 m.w, .int .i64 m.r] 41)).alloc (.cells #[.int .i64 0, .slice none 0 0, .bool false, .slice none 0 0, .int .i64 0, .int .i64 0, .int .i64 0] 41) = W ∧ Fr [] w W ∧ S7 W w.heap.size m.c a1 m.q.length k1 true a2 m.rest.length k2 m.acc m.w m.r ∧ S7 W (w.heap.size + 1) 0 none 0 0 false none 0 0 0 0 0 := ⟨_, rfl, ((Fr.refl _ _).alloc _).alloc _, keepA (newA rfl), newA (by simp)⟩
      obtain ⟨x0, x1, x2, x3, x4, x5, x6, p0, p1, p2, p3, p4, p5, p6⟩ := q0.cells
      have hz0 : w.heap.size + 1 < w0.heap.size := lt_of_heap z0
      have HZ := Lib.hid z0
      have HF := Lib.hid f0
      have HB := Lib.hid q0
      clear q0 z0 f0
      clear hb'
      have HC := Lib.hid (r_atend (w := w0) (N := N) (v := .agg #[.int .i64 m.c, .slice a1 m.q.length k1, .bool true, .slice a2 m.rest.length k2, .int .i64 m.acc, .int .i64 m.w, .int .i64 m.r]) (m := m) ⟨_, _, (by rw [H_hb'.out]), HQ.out.1.keep HF.out (by simp), HQ.out.2.keep HF.out (by simp)⟩)
      rw [ha] at HC
      clear ha
      have HZS := Lib.hid (HZ.out)
      have HFS := Lib.hid (HF.out)
      go_enter Try.func83, Try.ntmps83
      go_wp2_with fail
      refine HC.out.mono ?_
      rintro e w2 ⟨rfl, f2⟩
      have HB2 := Lib.hid (show S7 w2 w.heap.size m.c a1 m.q.length k1 true a2 m.rest.length k2 m.acc m.w m.r from f2.keep HB.out (by simp))
      have HZ2 := Lib.hid (show S7 w2 (w.heap.size + 1) 0 none 0 0 false none 0 0 0 0 0 from f2.keep HZ.out (by simp))
      have HF2 := Lib.hid (HF.out.then0 f2)
      clear x0 x1 x2 x3 x4 x5 x6 p0 p1 p2 p3 p4 p5 p6
      obtain ⟨x0, x1, x2, x3, x4, x5, x6, p0, p1, p2, p3, p4, p5, p6⟩ := HB2.out.cells
      have HZS := HZ2
      have HFS := HF2
      go_wp2_with (refine wpl_store rfl 41 _ _ rfl (w.heap.size + 1) #[.int .i64 m.c, .slice a1 m.q.length k1, .bool true, .slice a2 m.rest.length k2, .int .i64 m.acc, .int .i64 m.w, .int .i64 m.r] (by rfl) (by rfl) _ _ HZS.out (by kernel_rfl) rfl (by simp [Value.oneCell']) ?_)
      intro wf ff qf
      obtain ⟨y0, y1, y2, y3, y4, y5, y6, _, _, _, _, _, _, _⟩ := S7.cells qf
      clear x0 x1 x2 x3 x4 x5 x6 p0 p1 p2 p3 p4 p5 p6
      go_wp2_with fail
      refine bodyPost_ret (v := .tuple #[.agg #[.int .i64 m.c, .slice a1 m.q.length k1, .bool true, .slice a2 m.rest.length k2, .int .i64 m.acc, .int .i64 m.w, .int .i64 m.r], .int .i64 0, .int .i64 16]) (by simp [results, Try.results83, go_sem, y0, y1, y2, y3, y4, y5, y6]) rfl ?_
      have F : Fr [] w wf := Fr.trans (U := []) (S := []) HFS.out ff (by simp) (fun x hx => .inr (by simp at hx; omega))
      exact ⟨_, rfl, F, _, _, (by first | rfl | rw [H_hb'.out]), HQ.out.1.keep F (by simp), HQ.out.2.keep F (by simp)⟩
    · have e : endM m = ⟨stopM m, m.acc, howM m⟩ := by unfold endM; rw [if_neg hb, if_neg ha]
      replace ha : atEndM m = true := by simpa using ha
      rw [e]
      clear e hb
      rw [hb']
      have H_hb' := Lib.hid hb'
      obtain ⟨w0, hw0, f0, q0, z0⟩ : ∃ W, (w.alloc (.cells #[.int .i64 m.c, .slice a1 m.q.length k1, .bool true, .slice a2 m.rest.length k2, .int .i64 m.acc, .int .i64 m.w, .int .i64 m.r] 41)).alloc (.cells #[.int .i64 0, .slice none 0 0, .bool false, .slice none 0 0, .int .i64 0, .int .i64 0, .int .i64 0] 41) = W ∧ Fr [] w W ∧ S7 W w.heap.size m.c a1 m.q.length k1 true a2 m.rest.length k2 m.acc m.w m.r ∧ S7 W (w.heap.size + 1) 0 none 0 0 false none 0 0 0 0 0 := ⟨_, rfl, ((Fr.refl _ _).alloc _).alloc _, keepA (newA rfl), newA (by simp)⟩
      obtain ⟨x0, x1, x2, x3, x4, x5, x6, p0, p1, p2, p3, p4, p5, p6⟩ := q0.cells
      have hz0 : w.heap.size + 1 < w0.heap.size := lt_of_heap z0
      have HZ := Lib.hid z0
      have HF := Lib.hid f0
      have HB := Lib.hid q0
      clear q0 z0 f0
      clear hb'
      have HC := Lib.hid (r_atend (w := w0) (N := N) (v := .agg #[.int .i64 m.c, .slice a1 m.q.length k1, .bool true, .slice a2 m.rest.length k2, .int .i64 m.acc, .int .i64 m.w, .int .i64 m.r]) (m := m) ⟨_, _, (by rw [H_hb'.out]), HQ.out.1.keep HF.out (by simp), HQ.out.2.keep HF.out (by simp)⟩)
      rw [ha] at HC
      clear ha
      have HZS := Lib.hid (HZ.out)
      have HFS := Lib.hid (HF.out)
      go_enter Try.func83, Try.ntmps83
      go_wp2_with fail
      refine HC.out.mono ?_
      rintro e w2 ⟨rfl, f2⟩
      have HB2 := Lib.hid (show S7 w2 w.heap.size m.c a1 m.q.length k1 true a2 m.rest.length k2 m.acc m.w m.r from f2.keep HB.out (by simp))
      have HZ2 := Lib.hid (show S7 w2 (w.heap.size + 1) 0 none 0 0 false none 0 0 0 0 0 from f2.keep HZ.out (by simp))
      have HF2 := Lib.hid (HF.out.then0 f2)
      clear x0 x1 x2 x3 x4 x5 x6 p0 p1 p2 p3 p4 p5 p6
      obtain ⟨x0, x1, x2, x3, x4, x5, x6, p0, p1, p2, p3, p4, p5, p6⟩ := HB2.out.cells
      have HFA := Lib.hid fun (w' : World) (f : Fr [] w2 w') => (show w'.cell? ⟨w.heap.size, 0, none⟩ = some (.int .i64 m.c) ∧ w'.cell? ⟨w.heap.size, 1, none⟩ = some (.slice a1 m.q.length k1) ∧ w'.cell? ⟨w.heap.size, 2, none⟩ = some (.bool true) ∧ w'.cell? ⟨w.heap.size, 3, none⟩ = some (.slice a2 m.rest.length k2) ∧ w'.cell? ⟨w.heap.size, 4, none⟩ = some (.int .i64 m.acc) ∧ w'.cell? ⟨w.heap.size, 5, none⟩ = some (.int .i64 m.w) ∧ w'.cell? ⟨w.heap.size, 6, none⟩ = some (.int .i64 m.r) from (let q := S7.cells (show S7 w' w.heap.size m.c a1 m.q.length k1 true a2 m.rest.length k2 m.acc m.w m.r from f.keep HB2.out (by simp)); ⟨q.1, q.2.1, q.2.2.1, q.2.2.2.1, q.2.2.2.2.1, q.2.2.2.2.2.1, q.2.2.2.2.2.2.1⟩))
      have HHO := Lib.hid fun (w' : World) (f : Fr [] w2 w') => r_how (w := w') (N := N) (v := .agg #[.int .i64 m.c, .slice a1 m.q.length k1, .bool true, .slice a2 m.rest.length k2, .int .i64 m.acc, .int .i64 m.w, .int .i64 m.r]) (m := m) ⟨_, _, (by rw [H_hb'.out]), HQ.out.1.keep (HF2.out.then0 f) (by simp), HQ.out.2.keep (HF2.out.then0 f) (by simp)⟩
      have HEH := Lib.hid (Go.Proofs.enters_of Try.func114 (by kernel_rfl) rfl)
      go_wp2_with fail
      have fd : Fr [] w2 w2.drew := (Fr.refl _ _).drew
      refine wp_region_order [(0, true), (1, true), (2, true), (3, false), (4, true), (5, true)] (fun w' => Fr [] w2 w') (by kernel_rfl) (by kernel_rfl) fd ?_
      intro OPS HOPS
      have hops := HOPS.out
      try simp only [List.append_eq, List.cons_append, List.nil_append] at hops
      replace HOPS := Lib.hid hops
      clear hops
      refine walkO_take (o := _) (v := ?_) (by rw [HOPS.out]; simp only [List.getElem?_toArray, List.getElem?_cons_succ, List.getElem?_cons_zero]; exact rfl) (Or.inl ⟨rfl, ?_⟩) ?_
      rotate_left
      · (intro w hSw; have hSx := HFA.out _ hSw; (try dsimp only at hSx); clear hSw; go_simp) <;> (with_reducible rfl)
      simp only [Act.put, List.setIfInBounds_toArray, List.set_cons_zero, List.set_cons_succ]
      refine walkO_take (o := _) (v := ?_) (by rw [HOPS.out]; simp only [List.getElem?_toArray, List.getElem?_cons_succ, List.getElem?_cons_zero]; exact rfl) (Or.inl ⟨rfl, ?_⟩) ?_
      rotate_left
      · (intro w hSw; have hSx := HFA.out _ hSw; (try dsimp only at hSx); clear hSw; go_simp) <;> (with_reducible rfl)
      simp only [Act.put, List.setIfInBounds_toArray, List.set_cons_zero, List.set_cons_succ]
      refine walkO_take (o := _) (v := ?_) (by rw [HOPS.out]; simp only [List.getElem?_toArray, List.getElem?_cons_succ, List.getElem?_cons_zero]; exact rfl) (Or.inl ⟨rfl, ?_⟩) ?_
      rotate_left
      · (intro w hSw; have hSx := HFA.out _ hSw; (try dsimp only at hSx); clear hSw; go_simp) <;> (with_reducible rfl)
      simp only [Act.put, List.setIfInBounds_toArray, List.set_cons_zero, List.set_cons_succ]
      refine walkO_call (o := _) (by rw [HOPS.out]; simp only [List.getElem?_toArray, List.getElem?_cons_succ, List.getElem?_cons_zero]; exact rfl) (fun K HK => ?_)
      refine step_call rfl 114 #[(.tmp 17)] #[41] rfl HEH.out #[.agg #[.int .i64 m.c, .slice a1 m.q.length k1, .bool true, .slice a2 m.rest.length k2, .int .i64 m.acc, .int .i64 m.w, .int .i64 m.r]] (by simp [Act.eval]) (HHO.out _ fd) ?_
      rintro e w3 ⟨rfl, f3'⟩
      have g3 := fd.then0 f3'
      refine ⟨_, rfl, ?_⟩
      refine HK.out (fun w' => Fr [] w2 w') _ _ (fun _ h => h) (g3) ?_
      clear HK K
      simp only [Act.put, List.setIfInBounds_toArray, List.set_cons_zero, List.set_cons_succ]
      refine walkO_take (o := _) (v := ?_) (by rw [HOPS.out]; simp only [List.getElem?_toArray, List.getElem?_cons_succ, List.getElem?_cons_zero]; exact rfl) (Or.inl ⟨rfl, ?_⟩) ?_
      rotate_left
      · (intro w hSw; have hSx := HFA.out _ hSw; (try dsimp only at hSx); clear hSw; go_simp) <;> (with_reducible rfl)
      simp only [Act.put, List.setIfInBounds_toArray, List.set_cons_zero, List.set_cons_succ]
      refine walkO_take (o := _) (v := ?_) (by rw [HOPS.out]; simp only [List.getElem?_toArray, List.getElem?_cons_succ, List.getElem?_cons_zero]; exact rfl) (Or.inl ⟨rfl, ?_⟩) ?_
      rotate_left
      · (intro w hSw; have hSx := HFA.out _ hSw; (try dsimp only at hSx); clear hSw; go_simp) <;> (with_reducible rfl)
      simp only [Act.put, List.setIfInBounds_toArray, List.set_cons_zero, List.set_cons_succ]
      refine walkO_done ?_
      clear HOPS OPS
      have f3 := f2.then0 g3
      clear HFA HHO HEH g3 f3' fd
      have HB3 := Lib.hid (show S7 w3 w.heap.size m.c a1 m.q.length k1 true a2 m.rest.length k2 m.acc m.w m.r from f3.keep HB.out (by simp))
      have HZ3 := Lib.hid (show S7 w3 (w.heap.size + 1) 0 none 0 0 false none 0 0 0 0 0 from f3.keep HZ.out (by simp))
      have HF3 := Lib.hid (HF.out.then0 f3)
      clear x0 x1 x2 x3 x4 x5 x6 p0 p1 p2 p3 p4 p5 p6
      obtain ⟨x0, x1, x2, x3, x4, x5, x6, p0, p1, p2, p3, p4, p5, p6⟩ := HB3.out.cells
      obtain ⟨wn1, hwn1, fn1, qn1, zn1⟩ : ∃ W, w3.setCell ⟨w.heap.size, 2, none⟩ (.bool false) = W ∧ Fr [] w W ∧ W.heap[w.heap.size]? = some (.cells #[.int .i64 m.c, .slice a1 m.q.length k1, .bool false, .slice a2 m.rest.length k2, .int .i64 m.acc, .int .i64 m.w, .int .i64 m.r] 41 (0, 0)) ∧ S7 W (w.heap.size + 1) 0 none 0 0 false none 0 0 0 0 0 := ⟨_, rfl, Fr.setCell (p := ⟨w.heap.size, 2, none⟩) (HF3.out) (.inr (Nat.le_refl _)) (.bool false), (by have hx := heap_setCell_eq (i := 2) (u := .bool false) (HB3.out); simpa [S7] using hx), keepS (a := ⟨w.heap.size, 2, none⟩) (v := .bool false) (HZ3.out) (by dsimp only; omega)⟩
      have xn1_0 : wn1.cell? ⟨w.heap.size, 0, none⟩ = some (.int .i64 m.c) := cell_of qn1
      have xn1_1 : wn1.cell? ⟨w.heap.size, 1, none⟩ = some (.slice a1 m.q.length k1) := cell_of qn1
      have xn1_2 : wn1.cell? ⟨w.heap.size, 2, none⟩ = some (.bool false) := cell_of qn1
      have xn1_3 : wn1.cell? ⟨w.heap.size, 3, none⟩ = some (.slice a2 m.rest.length k2) := cell_of qn1
      have xn1_4 : wn1.cell? ⟨w.heap.size, 4, none⟩ = some (.int .i64 m.acc) := cell_of qn1
      have xn1_5 : wn1.cell? ⟨w.heap.size, 5, none⟩ = some (.int .i64 m.w) := cell_of qn1
      have xn1_6 : wn1.cell? ⟨w.heap.size, 6, none⟩ = some (.int .i64 m.r) := cell_of qn1
      have pn1_0 : wn1.frozen? ⟨w.heap.size, 0, none⟩ = false := free_of qn1
      have pn1_1 : wn1.frozen? ⟨w.heap.size, 1, none⟩ = false := free_of qn1
      have pn1_2 : wn1.frozen? ⟨w.heap.size, 2, none⟩ = false := free_of qn1
      have pn1_3 : wn1.frozen? ⟨w.heap.size, 3, none⟩ = false := free_of qn1
      have pn1_4 : wn1.frozen? ⟨w.heap.size, 4, none⟩ = false := free_of qn1
      have pn1_5 : wn1.frozen? ⟨w.heap.size, 5, none⟩ = false := free_of qn1
      have pn1_6 : wn1.frozen? ⟨w.heap.size, 6, none⟩ = false := free_of qn1
      obtain ⟨wn2, hwn2, fn2, qn2, zn2⟩ : ∃ W, wn1.setCell ⟨w.heap.size, 3, none⟩ (.slice none 0 0) = W ∧ Fr [] w W ∧ W.heap[w.heap.size]? = some (.cells #[.int .i64 m.c, .slice a1 m.q.length k1, .bool false, .slice none 0 0, .int .i64 m.acc, .int .i64 m.w, .int .i64 m.r] 41 (0, 0)) ∧ S7 W (w.heap.size + 1) 0 none 0 0 false none 0 0 0 0 0 := ⟨_, rfl, Fr.setCell (p := ⟨w.heap.size, 3, none⟩) (fn1) (.inr (Nat.le_refl _)) (.slice none 0 0), (by have hx := heap_setCell_eq (i := 3) (u := .slice none 0 0) (qn1); simpa [S7] using hx), keepS (a := ⟨w.heap.size, 3, none⟩) (v := .slice none 0 0) (zn1) (by dsimp only; omega)⟩
      have xn2_0 : wn2.cell? ⟨w.heap.size, 0, none⟩ = some (.int .i64 m.c) := cell_of qn2
      have xn2_1 : wn2.cell? ⟨w.heap.size, 1, none⟩ = some (.slice a1 m.q.length k1) := cell_of qn2
      have xn2_2 : wn2.cell? ⟨w.heap.size, 2, none⟩ = some (.bool false) := cell_of qn2
      have xn2_3 : wn2.cell? ⟨w.heap.size, 3, none⟩ = some (.slice none 0 0) := cell_of qn2
      have xn2_4 : wn2.cell? ⟨w.heap.size, 4, none⟩ = some (.int .i64 m.acc) := cell_of qn2
      have xn2_5 : wn2.cell? ⟨w.heap.size, 5, none⟩ = some (.int .i64 m.w) := cell_of qn2
      have xn2_6 : wn2.cell? ⟨w.heap.size, 6, none⟩ = some (.int .i64 m.r) := cell_of qn2
      have pn2_0 : wn2.frozen? ⟨w.heap.size, 0, none⟩ = false := free_of qn2
      have pn2_1 : wn2.frozen? ⟨w.heap.size, 1, none⟩ = false := free_of qn2
      have pn2_2 : wn2.frozen? ⟨w.heap.size, 2, none⟩ = false := free_of qn2
      have pn2_3 : wn2.frozen? ⟨w.heap.size, 3, none⟩ = false := free_of qn2
      have pn2_4 : wn2.frozen? ⟨w.heap.size, 4, none⟩ = false := free_of qn2
      have pn2_5 : wn2.frozen? ⟨w.heap.size, 5, none⟩ = false := free_of qn2
      have pn2_6 : wn2.frozen? ⟨w.heap.size, 6, none⟩ = false := free_of qn2
      obtain ⟨wn3, hwn3, fn3, qn3, zn3⟩ : ∃ W, wn2.setCell ⟨w.heap.size, 4, none⟩ (.int .i64 0) = W ∧ Fr [] w W ∧ W.heap[w.heap.size]? = some (.cells #[.int .i64 m.c, .slice a1 m.q.length k1, .bool false, .slice none 0 0, .int .i64 0, .int .i64 m.w, .int .i64 m.r] 41 (0, 0)) ∧ S7 W (w.heap.size + 1) 0 none 0 0 false none 0 0 0 0 0 := ⟨_, rfl, Fr.setCell (p := ⟨w.heap.size, 4, none⟩) (fn2) (.inr (Nat.le_refl _)) (.int .i64 0), (by have hx := heap_setCell_eq (i := 4) (u := .int .i64 0) (qn2); simpa [S7] using hx), keepS (a := ⟨w.heap.size, 4, none⟩) (v := .int .i64 0) (zn2) (by dsimp only; omega)⟩
      have xn3_0 : wn3.cell? ⟨w.heap.size, 0, none⟩ = some (.int .i64 m.c) := cell_of qn3
      have xn3_1 : wn3.cell? ⟨w.heap.size, 1, none⟩ = some (.slice a1 m.q.length k1) := cell_of qn3
      have xn3_2 : wn3.cell? ⟨w.heap.size, 2, none⟩ = some (.bool false) := cell_of qn3
      have xn3_3 : wn3.cell? ⟨w.heap.size, 3, none⟩ = some (.slice none 0 0) := cell_of qn3
      have xn3_4 : wn3.cell? ⟨w.heap.size, 4, none⟩ = some (.int .i64 0) := cell_of qn3
      have xn3_5 : wn3.cell? ⟨w.heap.size, 5, none⟩ = some (.int .i64 m.w) := cell_of qn3
      have xn3_6 : wn3.cell? ⟨w.heap.size, 6, none⟩ = some (.int .i64 m.r) := cell_of qn3
      have pn3_0 : wn3.frozen? ⟨w.heap.size, 0, none⟩ = false := free_of qn3
      have pn3_1 : wn3.frozen? ⟨w.heap.size, 1, none⟩ = false := free_of qn3
      have pn3_2 : wn3.frozen? ⟨w.heap.size, 2, none⟩ = false := free_of qn3
      have pn3_3 : wn3.frozen? ⟨w.heap.size, 3, none⟩ = false := free_of qn3
      have pn3_4 : wn3.frozen? ⟨w.heap.size, 4, none⟩ = false := free_of qn3
      have pn3_5 : wn3.frozen? ⟨w.heap.size, 5, none⟩ = false := free_of qn3
      have pn3_6 : wn3.frozen? ⟨w.heap.size, 6, none⟩ = false := free_of qn3
      have HZS := Lib.hid (zn3)
      have HFS := Lib.hid (fn3)
      have HQN1 := Lib.hid (And.intro qn1 (And.intro zn1 fn1))
      clear qn1 zn1 fn1
      have HQN2 := Lib.hid (And.intro qn2 (And.intro zn2 fn2))
      clear qn2 zn2 fn2
      have HQN3 := Lib.hid (And.intro qn3 (And.intro zn3 fn3))
      clear qn3 zn3 fn3
      go_wp2_with (refine wpl_store rfl 41 _ _ rfl (w.heap.size + 1) #[.int .i64 m.c, .slice a1 m.q.length k1, .bool false, .slice none 0 0, .int .i64 0, .int .i64 m.w, .int .i64 m.r] (by rfl) (by rfl) _ _ HZS.out (by kernel_rfl) rfl (by simp [Value.oneCell']) ?_)
      intro wf ff qf
      obtain ⟨y0, y1, y2, y3, y4, y5, y6, _, _, _, _, _, _, _⟩ := S7.cells qf
      clear x0 x1 x2 x3 x4 x5 x6 p0 p1 p2 p3 p4 p5 p6
      go_wp2_with fail
      refine bodyPost_ret (v := .tuple #[.agg #[.int .i64 m.c, .slice a1 m.q.length k1, .bool false, .slice none 0 0, .int .i64 0, .int .i64 m.w, .int .i64 m.r], .int .i64 m.acc, .int .i64 (howM m)]) (by simp [results, Try.results83, go_sem, y0, y1, y2, y3, y4, y5, y6]) rfl ?_
      have F : Fr [] w wf := Fr.trans (U := []) (S := []) HFS.out ff (by simp) (fun x hx => .inr (by simp at hx; omega))
      exact ⟨_, rfl, F, _, _, (by first | rfl | rw [H_hb'.out]), HQ.out.1.keep F (by simp), PartV.nil _ _⟩
set_option maxHeartbeats 1000000 in
theorem r_new (w : World) (c : Int) (h0 : 0 ≤ c) (h1 : c ≤ 4096) :
    Calls Try.prog 37 #[.int .i64 c] w fun e w' => ∃ v', e = .returned (.tuple #[v', .int .i64 0]) ∧ Fr [] w w' ∧ Sv w' (fun _ => False) v' (newM c) := by
  obtain ⟨w0, hw0, f0, z0⟩ : ∃ W, w.alloc (.cells #[.int .i64 0, .slice none 0 0, .bool false, .slice none 0 0, .int .i64 0, .int .i64 0, .int .i64 0] 41) = W ∧ Fr [] w W ∧ S7 W w.heap.size 0 none 0 0 false none 0 0 0 0 0 := ⟨_, rfl, (Fr.refl _ _).alloc _, newA rfl⟩
  obtain ⟨x0, x1, x2, x3, x4, x5, x6, p0, p1, p2, p3, p4, p5, p6⟩ := z0.cells
  have HZS := Lib.hid z0
  have HFS := Lib.hid f0
  clear z0 f0
  go_enter Try.func37, Try.ntmps37
  go_wp2_with (refine wpl_store rfl 41 _ _ rfl w.heap.size #[.int .i64 c, .slice none 0 0, .bool false, .slice none 0 0, .int .i64 0, .int .i64 0, .int .i64 0] (by rfl) (by rfl) _ _ HZS.out (by kernel_rfl) rfl (by simp [Value.oneCell']) ?_)
  intro wf ff qf
  obtain ⟨y0, y1, y2, y3, y4, y5, y6, _, _, _, _, _, _, _⟩ := S7.cells qf
  clear x0 x1 x2 x3 x4 x5 x6 p0 p1 p2 p3 p4 p5 p6
  go_wp2_with fail
  refine bodyPost_ret (v := .tuple #[.agg #[.int .i64 c, .slice none 0 0, .bool false, .slice none 0 0, .int .i64 0, .int .i64 0, .int .i64 0], .int .i64 0]) (by simp [results, Try.results37, go_sem, y0, y1, y2, y3, y4, y5, y6]) rfl ?_
  have F : Fr [] w wf := Fr.trans (U := []) (S := []) HFS.out ff (by simp) (fun x hx => .inr (by simp at hx; omega))
  exact ⟨_, rfl, F, _, _, rfl, PartV.nil _ _, PartV.nil _ _⟩
set_option maxHeartbeats 1000000 in
theorem r_newbad (w : World) (c : Int) (h : c < 0 ∨ 4096 < c) :
    Calls Try.prog 37 #[.int .i64 c] w fun e w' => ∃ v', e = .returned (.tuple #[v', .int .i64 2]) ∧ Fr [] w w' ∧ Sv w' (fun _ => False) v' (newM 0) := by
  rcases h with h | h
  · obtain ⟨w0, hw0, f0, z0⟩ : ∃ W, w.alloc (.cells #[.int .i64 0, .slice none 0 0, .bool false, .slice none 0 0, .int .i64 0, .int .i64 0, .int .i64 0] 41) = W ∧ Fr [] w W ∧ S7 W w.heap.size 0 none 0 0 false none 0 0 0 0 0 := ⟨_, rfl, (Fr.refl _ _).alloc _, newA rfl⟩
    obtain ⟨x0, x1, x2, x3, x4, x5, x6, p0, p1, p2, p3, p4, p5, p6⟩ := z0.cells
    have HZS := Lib.hid z0
    have HFS := Lib.hid f0
    clear z0 f0
    go_enter Try.func37, Try.ntmps37
    go_wp2_with (refine wpl_store rfl 41 _ _ rfl w.heap.size #[.int .i64 0, .slice none 0 0, .bool false, .slice none 0 0, .int .i64 0, .int .i64 0, .int .i64 0] (by rfl) (by rfl) _ _ HZS.out (by kernel_rfl) rfl (by simp [Value.oneCell']) ?_)
    intro wf ff qf
    obtain ⟨y0, y1, y2, y3, y4, y5, y6, _, _, _, _, _, _, _⟩ := S7.cells qf
    clear x0 x1 x2 x3 x4 x5 x6 p0 p1 p2 p3 p4 p5 p6
    go_wp2_with fail
    refine bodyPost_ret (v := .tuple #[.agg #[.int .i64 0, .slice none 0 0, .bool false, .slice none 0 0, .int .i64 0, .int .i64 0, .int .i64 0], .int .i64 2]) (by simp [results, Try.results37, go_sem, y0, y1, y2, y3, y4, y5, y6]) rfl ?_
    have F : Fr [] w wf := Fr.trans (U := []) (S := []) HFS.out ff (by simp) (fun x hx => .inr (by simp at hx; omega))
    exact ⟨_, rfl, F, _, _, rfl, PartV.nil _ _, PartV.nil _ _⟩
  · obtain ⟨w0, hw0, f0, z0⟩ : ∃ W, w.alloc (.cells #[.int .i64 0, .slice none 0 0, .bool false, .slice none 0 0, .int .i64 0, .int .i64 0, .int .i64 0] 41) = W ∧ Fr [] w W ∧ S7 W w.heap.size 0 none 0 0 false none 0 0 0 0 0 := ⟨_, rfl, (Fr.refl _ _).alloc _, newA rfl⟩
    obtain ⟨x0, x1, x2, x3, x4, x5, x6, p0, p1, p2, p3, p4, p5, p6⟩ := z0.cells
    have HZS := Lib.hid z0
    have HFS := Lib.hid f0
    clear z0 f0
    go_enter Try.func37, Try.ntmps37
    go_wp2_with (refine wpl_store rfl 41 _ _ rfl w.heap.size #[.int .i64 0, .slice none 0 0, .bool false, .slice none 0 0, .int .i64 0, .int .i64 0, .int .i64 0] (by rfl) (by rfl) _ _ HZS.out (by kernel_rfl) rfl (by simp [Value.oneCell']) ?_)
    intro wf ff qf
    obtain ⟨y0, y1, y2, y3, y4, y5, y6, _, _, _, _, _, _, _⟩ := S7.cells qf
    clear x0 x1 x2 x3 x4 x5 x6 p0 p1 p2 p3 p4 p5 p6
    go_wp2_with fail
    refine bodyPost_ret (v := .tuple #[.agg #[.int .i64 0, .slice none 0 0, .bool false, .slice none 0 0, .int .i64 0, .int .i64 0, .int .i64 0], .int .i64 2]) (by simp [results, Try.results37, go_sem, y0, y1, y2, y3, y4, y5, y6]) rfl ?_
    have F : Fr [] w wf := Fr.trans (U := []) (S := []) HFS.out ff (by simp) (fun x hx => .inr (by simp at hx; omega))
    exact ⟨_, rfl, F, _, _, rfl, PartV.nil _ _, PartV.nil _ _⟩

end Go.Proofs.Ytdoamelhclnphaa
