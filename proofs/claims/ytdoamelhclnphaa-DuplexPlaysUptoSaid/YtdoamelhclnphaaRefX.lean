/-
  The reference of layer 15: Cancel, Finish.
-/
import Derived.Test.YtdoamelhclnphaaCvC15
namespace Go.Proofs.Ytdoamelhclnphaa
open Go.RowKit
set_option maxRecDepth 100000

set_option maxHeartbeats 8000000 in
theorem r15_cancel0 {w : World} {N : Nat → Prop} {v : Value} {s : DM} (h : Cv w N v s) :
    Calls Try.prog 105 #[v, .int .i64 0] w fun e w' => ∃ v', e = .returned (.tuple #[v', .int .i64 (cancelM s.m0).n, .int .i64 (cancelM s.m0).err]) ∧ Fr [] w w' ∧ Cv w' (fun x => N x ∨ w.heap.size ≤ x) v' { s with m0 := (cancelM s.m0).m } := by
  replace h := h.there
  obtain ⟨u0, u1, u2, u3, rfl, p0, p1, p2, p3⟩ := h
  obtain ⟨a0, k0, rfl, _⟩ := id p0
  obtain ⟨a1, k1, rfl, _⟩ := id p1
  obtain ⟨a2, k2, rfl, _⟩ := id p2
  obtain ⟨a3, k3, rfl, _⟩ := id p3
  obtain ⟨w0, hw0, f0, qa, qb⟩ : ∃ W, (w.alloc (.cells #[.int .i64 s.m0.c, .slice a0 s.m0.q.length k0, .bool s.m0.busy, .slice a1 s.m0.rest.length k1, .int .i64 s.m0.acc, .int .i64 s.m0.w, .int .i64 s.m0.r, .int .i64 s.m1.c, .slice a2 s.m1.q.length k2, .bool s.m1.busy, .slice a3 s.m1.rest.length k3, .int .i64 s.m1.acc, .int .i64 s.m1.w, .int .i64 s.m1.r, .bool s.x0, .bool s.x1] 44)).alloc (.cells #[.int .i64 0, .slice none 0 0, .bool false, .slice none 0 0, .int .i64 0, .int .i64 0, .int .i64 0, .int .i64 0, .slice none 0 0, .bool false, .slice none 0 0, .int .i64 0, .int .i64 0, .int .i64 0, .bool false, .bool false] 44) = W ∧ Fr [] w W ∧ W.heap[w.heap.size]? = some (.cells #[.int .i64 s.m0.c, .slice a0 s.m0.q.length k0, .bool s.m0.busy, .slice a1 s.m0.rest.length k1, .int .i64 s.m0.acc, .int .i64 s.m0.w, .int .i64 s.m0.r, .int .i64 s.m1.c, .slice a2 s.m1.q.length k2, .bool s.m1.busy, .slice a3 s.m1.rest.length k3, .int .i64 s.m1.acc, .int .i64 s.m1.w, .int .i64 s.m1.r, .bool s.x0, .bool s.x1] 44 (0, 0)) ∧ W.heap[w.heap.size + 1]? = some (.cells #[.int .i64 0, .slice none 0 0, .bool false, .slice none 0 0, .int .i64 0, .int .i64 0, .int .i64 0, .int .i64 0, .slice none 0 0, .bool false, .slice none 0 0, .int .i64 0, .int .i64 0, .int .i64 0, .bool false, .bool false] 44 (0, 0)) := ⟨_, rfl, ((Fr.refl _ _).alloc _).alloc _, keepA (newA rfl), newA (by simp)⟩
  have x0 : w0.cell? ⟨w.heap.size, 0, none⟩ = some (.int .i64 s.m0.c) := cell_of (qa)
  have x1 : w0.cell? ⟨w.heap.size, 1, none⟩ = some (.slice a0 s.m0.q.length k0) := cell_of (qa)
  have x2 : w0.cell? ⟨w.heap.size, 2, none⟩ = some (.bool s.m0.busy) := cell_of (qa)
  have x3 : w0.cell? ⟨w.heap.size, 3, none⟩ = some (.slice a1 s.m0.rest.length k1) := cell_of (qa)
  have x4 : w0.cell? ⟨w.heap.size, 4, none⟩ = some (.int .i64 s.m0.acc) := cell_of (qa)
  have x5 : w0.cell? ⟨w.heap.size, 5, none⟩ = some (.int .i64 s.m0.w) := cell_of (qa)
  have x6 : w0.cell? ⟨w.heap.size, 6, none⟩ = some (.int .i64 s.m0.r) := cell_of (qa)
  have x7 : w0.cell? ⟨w.heap.size, 7, none⟩ = some (.int .i64 s.m1.c) := cell_of (qa)
  have x8 : w0.cell? ⟨w.heap.size, 8, none⟩ = some (.slice a2 s.m1.q.length k2) := cell_of (qa)
  have x9 : w0.cell? ⟨w.heap.size, 9, none⟩ = some (.bool s.m1.busy) := cell_of (qa)
  have x10 : w0.cell? ⟨w.heap.size, 10, none⟩ = some (.slice a3 s.m1.rest.length k3) := cell_of (qa)
  have x11 : w0.cell? ⟨w.heap.size, 11, none⟩ = some (.int .i64 s.m1.acc) := cell_of (qa)
  have x12 : w0.cell? ⟨w.heap.size, 12, none⟩ = some (.int .i64 s.m1.w) := cell_of (qa)
  have x13 : w0.cell? ⟨w.heap.size, 13, none⟩ = some (.int .i64 s.m1.r) := cell_of (qa)
  have x14 : w0.cell? ⟨w.heap.size, 14, none⟩ = some (.bool s.x0) := cell_of (qa)
  have x15 : w0.cell? ⟨w.heap.size, 15, none⟩ = some (.bool s.x1) := cell_of (qa)
  have HF0 := Lib.hid f0
  have HQA := Lib.hid qa
  have HQB := Lib.hid qb
  have hz0 := lt_of_heap qb
  have HC := Lib.hid (r_cancel (w := w0) (N := (fun x => N x ∧ x < w.heap.size)) (v := .agg #[.int .i64 s.m0.c, .slice a0 s.m0.q.length k0, .bool s.m0.busy, .slice a1 s.m0.rest.length k1, .int .i64 s.m0.acc, .int .i64 s.m0.w, .int .i64 s.m0.r]) (m := s.m0) ⟨_, _, rfl, p0.keep f0 (by simp), p1.keep f0 (by simp)⟩)
  generalize (cancelM s.m0).m = mf at *
  generalize (cancelM s.m0).n = nn at *
  generalize (cancelM s.m0).err = ee at *
  have HP := Lib.hid (And.intro (And.intro p0 p1) (And.intro p2 p3))
  clear f0 qa qb p0 p1 p2 p3
  go_enter Try.func105, Try.ntmps105
  go_wp2_with fail
  refine (r15_end _ _).mono ?_
  rintro e w' ⟨rfl, rfl⟩
  clear hw0
  go_wp2_with fail
  refine HC.out.mono ?_
  rintro e w1 ⟨v', rfl, f1, u4, u5, rfl, hp4', hp5'⟩
  have hp4 : PartV w1 (fun x => (fun x => N x ∧ x < w.heap.size) x ∨ w0.heap.size ≤ x) _ _ := hp4'.mono (fun x hx => .inl hx)
  have hp5 : PartV w1 (fun x => (fun x => N x ∧ x < w.heap.size) x ∨ w0.heap.size ≤ x) _ _ := hp5'.mono (fun x hx => .inl hx)
  clear hp4' hp5'
  obtain ⟨a4, k4, rfl, _⟩ := id hp4
  obtain ⟨a5, k5, rfl, _⟩ := id hp5
  obtain ⟨w2, hw2, f2, q2⟩ : ∃ W, w1.alloc (.cells #[.int .i64 mf.c, .slice a4 mf.q.length k4, .bool mf.busy, .slice a5 mf.rest.length k5, .int .i64 mf.acc, .int .i64 mf.w, .int .i64 mf.r] 41) = W ∧ Fr [] w1 W ∧ W.heap[w1.heap.size]? = some (.cells #[.int .i64 mf.c, .slice a4 mf.q.length k4, .bool mf.busy, .slice a5 mf.rest.length k5, .int .i64 mf.acc, .int .i64 mf.w, .int .i64 mf.r] 41 (0, 0)) := ⟨_, rfl, (Fr.refl _ _).alloc _, newA rfl⟩
  have HA2 := Lib.hid (f2.keep (f1.keep HQA.out (by simp)) (by simp))
  have HB2 := Lib.hid (f2.keep (f1.keep HQB.out (by simp)) (by simp))
  have HF2 := Lib.hid (HF0.out.then0 (f1.then0 f2))
  have z1 := f1.size
  have z2 := f2.size
  have HN := Lib.hid (And.intro (hp4.keep f2 (by simp)) (hp5.keep f2 (by simp)))
  clear x0 x1 x2 x3 x4 x5 x6 x7 x8 x9 x10 x11 x12 x13 x14 x15 hp4 hp5 HC f1 f2
  have y0 : w2.cell? ⟨w1.heap.size, 0, none⟩ = some (.int .i64 mf.c) := cell_of (q2)
  have y1 : w2.cell? ⟨w1.heap.size, 1, none⟩ = some (.slice a4 mf.q.length k4) := cell_of (q2)
  have y2 : w2.cell? ⟨w1.heap.size, 2, none⟩ = some (.bool mf.busy) := cell_of (q2)
  have y3 : w2.cell? ⟨w1.heap.size, 3, none⟩ = some (.slice a5 mf.rest.length k5) := cell_of (q2)
  have y4 : w2.cell? ⟨w1.heap.size, 4, none⟩ = some (.int .i64 mf.acc) := cell_of (q2)
  have y5 : w2.cell? ⟨w1.heap.size, 5, none⟩ = some (.int .i64 mf.w) := cell_of (q2)
  have y6 : w2.cell? ⟨w1.heap.size, 6, none⟩ = some (.int .i64 mf.r) := cell_of (q2)
  clear q2
  go_wp2_with (refine wpl_store_sub rfl 41 _ _ rfl w.heap.size 0 #[.int .i64 mf.c, .slice a4 mf.q.length k4, .bool mf.busy, .slice a5 mf.rest.length k5, .int .i64 mf.acc, .int .i64 mf.w, .int .i64 mf.r] (by rfl) (by rfl) _ _ #[.int .i64 mf.c, .slice a4 mf.q.length k4, .bool mf.busy, .slice a5 mf.rest.length k5, .int .i64 mf.acc, .int .i64 mf.w, .int .i64 mf.r, .int .i64 s.m1.c, .slice a2 s.m1.q.length k2, .bool s.m1.busy, .slice a3 s.m1.rest.length k3, .int .i64 s.m1.acc, .int .i64 s.m1.w, .int .i64 s.m1.r, .bool s.x0, .bool s.x1] HA2.out (by kernel_rfl) (by simp) (by simp [Value.oneCell']) (by rfl) ?_)
  intro w3 f3 q3
  clear hw2 y0 y1 y2 y3 y4 y5 y6
  have x0 : w3.cell? ⟨w.heap.size, 0, none⟩ = some (.int .i64 mf.c) := cell_of (q3)
  have x1 : w3.cell? ⟨w.heap.size, 1, none⟩ = some (.slice a4 mf.q.length k4) := cell_of (q3)
  have x2 : w3.cell? ⟨w.heap.size, 2, none⟩ = some (.bool mf.busy) := cell_of (q3)
  have x3 : w3.cell? ⟨w.heap.size, 3, none⟩ = some (.slice a5 mf.rest.length k5) := cell_of (q3)
  have x4 : w3.cell? ⟨w.heap.size, 4, none⟩ = some (.int .i64 mf.acc) := cell_of (q3)
  have x5 : w3.cell? ⟨w.heap.size, 5, none⟩ = some (.int .i64 mf.w) := cell_of (q3)
  have x6 : w3.cell? ⟨w.heap.size, 6, none⟩ = some (.int .i64 mf.r) := cell_of (q3)
  have x7 : w3.cell? ⟨w.heap.size, 7, none⟩ = some (.int .i64 s.m1.c) := cell_of (q3)
  have x8 : w3.cell? ⟨w.heap.size, 8, none⟩ = some (.slice a2 s.m1.q.length k2) := cell_of (q3)
  have x9 : w3.cell? ⟨w.heap.size, 9, none⟩ = some (.bool s.m1.busy) := cell_of (q3)
  have x10 : w3.cell? ⟨w.heap.size, 10, none⟩ = some (.slice a3 s.m1.rest.length k3) := cell_of (q3)
  have x11 : w3.cell? ⟨w.heap.size, 11, none⟩ = some (.int .i64 s.m1.acc) := cell_of (q3)
  have x12 : w3.cell? ⟨w.heap.size, 12, none⟩ = some (.int .i64 s.m1.w) := cell_of (q3)
  have x13 : w3.cell? ⟨w.heap.size, 13, none⟩ = some (.int .i64 s.m1.r) := cell_of (q3)
  have x14 : w3.cell? ⟨w.heap.size, 14, none⟩ = some (.bool s.x0) := cell_of (q3)
  have x15 : w3.cell? ⟨w.heap.size, 15, none⟩ = some (.bool s.x1) := cell_of (q3)
  have HB3 := Lib.hid (f3.keep HB2.out (by simp))
  have HF3 := Lib.hid f3
  clear f3 q3
  go_wp2_with (refine wpl_store rfl 44 _ _ rfl (w.heap.size + 1) #[.int .i64 mf.c, .slice a4 mf.q.length k4, .bool mf.busy, .slice a5 mf.rest.length k5, .int .i64 mf.acc, .int .i64 mf.w, .int .i64 mf.r, .int .i64 s.m1.c, .slice a2 s.m1.q.length k2, .bool s.m1.busy, .slice a3 s.m1.rest.length k3, .int .i64 s.m1.acc, .int .i64 s.m1.w, .int .i64 s.m1.r, .bool s.x0, .bool s.x1] (by rfl) (by rfl) _ _ HB3.out (by kernel_rfl) rfl (by simp [Value.oneCell']) ?_)
  intro w4 f4 q4
  clear x0 x1 x2 x3 x4 x5 x6 x7 x8 x9 x10 x11 x12 x13 x14 x15
  have y0 : w4.cell? ⟨(w.heap.size + 1), 0, none⟩ = some (.int .i64 mf.c) := cell_of (q4)
  have y1 : w4.cell? ⟨(w.heap.size + 1), 1, none⟩ = some (.slice a4 mf.q.length k4) := cell_of (q4)
  have y2 : w4.cell? ⟨(w.heap.size + 1), 2, none⟩ = some (.bool mf.busy) := cell_of (q4)
  have y3 : w4.cell? ⟨(w.heap.size + 1), 3, none⟩ = some (.slice a5 mf.rest.length k5) := cell_of (q4)
  have y4 : w4.cell? ⟨(w.heap.size + 1), 4, none⟩ = some (.int .i64 mf.acc) := cell_of (q4)
  have y5 : w4.cell? ⟨(w.heap.size + 1), 5, none⟩ = some (.int .i64 mf.w) := cell_of (q4)
  have y6 : w4.cell? ⟨(w.heap.size + 1), 6, none⟩ = some (.int .i64 mf.r) := cell_of (q4)
  have y7 : w4.cell? ⟨(w.heap.size + 1), 7, none⟩ = some (.int .i64 s.m1.c) := cell_of (q4)
  have y8 : w4.cell? ⟨(w.heap.size + 1), 8, none⟩ = some (.slice a2 s.m1.q.length k2) := cell_of (q4)
  have y9 : w4.cell? ⟨(w.heap.size + 1), 9, none⟩ = some (.bool s.m1.busy) := cell_of (q4)
  have y10 : w4.cell? ⟨(w.heap.size + 1), 10, none⟩ = some (.slice a3 s.m1.rest.length k3) := cell_of (q4)
  have y11 : w4.cell? ⟨(w.heap.size + 1), 11, none⟩ = some (.int .i64 s.m1.acc) := cell_of (q4)
  have y12 : w4.cell? ⟨(w.heap.size + 1), 12, none⟩ = some (.int .i64 s.m1.w) := cell_of (q4)
  have y13 : w4.cell? ⟨(w.heap.size + 1), 13, none⟩ = some (.int .i64 s.m1.r) := cell_of (q4)
  have y14 : w4.cell? ⟨(w.heap.size + 1), 14, none⟩ = some (.bool s.x0) := cell_of (q4)
  have y15 : w4.cell? ⟨(w.heap.size + 1), 15, none⟩ = some (.bool s.x1) := cell_of (q4)
  have HF4 := Lib.hid f4
  clear f4 q4
  go_wp2_with fail
  refine bodyPost_ret (v := .tuple #[.agg #[.int .i64 mf.c, .slice a4 mf.q.length k4, .bool mf.busy, .slice a5 mf.rest.length k5, .int .i64 mf.acc, .int .i64 mf.w, .int .i64 mf.r, .int .i64 s.m1.c, .slice a2 s.m1.q.length k2, .bool s.m1.busy, .slice a3 s.m1.rest.length k3, .int .i64 s.m1.acc, .int .i64 s.m1.w, .int .i64 s.m1.r, .bool s.x0, .bool s.x1], .int .i64 nn, .int .i64 ee]) (by simp [results, Try.results105, go_sem, y0, y1, y2, y3, y4, y5, y6, y7, y8, y9, y10, y11, y12, y13, y14, y15]) rfl ?_
  have F34 : Fr [w.heap.size, w.heap.size + 1] w2 w4 := HF3.out.trans HF4.out (fun x hx => .inl (by simp at hx; simp [hx])) (fun x hx => .inl (by simp at hx; simp [hx]))
  have F : Fr [] w w4 := HF2.out.trans F34 (by simp) (fun x hx => .inr (by simp at hx; omega))
  have KN : ∀ {v : Value} {l : List UInt8}, PartV w2 (fun x => (fun x => N x ∧ x < w.heap.size) x ∨ w0.heap.size ≤ x) v l → PartV w4 (fun x => N x ∨ w.heap.size ≤ x) v l := fun h => (h.keep F34 (fun x hx hn => by simp at hx; rcases hn with hn | hn; have := hn.2; omega; omega)).mono (fun x hx => hx.imp (fun h => h.1) (fun h => by omega))
  have KO : ∀ {v : Value} {l : List UInt8}, PartV w (fun x => N x ∧ x < w.heap.size) v l → PartV w4 (fun x => N x ∨ w.heap.size ≤ x) v l := fun h => (h.keep F (by simp)).mono (fun x hx => .inl hx.1)
  exact ⟨_, rfl, F, ⟨_, _, _, _, rfl, KN (HN.out.1), KN (HN.out.2), KO HP.out.2.1, KO HP.out.2.2⟩⟩
set_option maxHeartbeats 8000000 in
theorem r15_finish0 {w : World} {N : Nat → Prop} {v : Value} {s : DM} (h : Cv w N v s) :
    Calls Try.prog 104 #[v, .int .i64 0] w fun e w' => ∃ v', e = .returned (.tuple #[v', .int .i64 (endM s.m0).n, .int .i64 (endM s.m0).err]) ∧ Fr [] w w' ∧ Cv w' (fun x => N x ∨ w.heap.size ≤ x) v' { s with m0 := (endM s.m0).m } := by
  replace h := h.there
  obtain ⟨u0, u1, u2, u3, rfl, p0, p1, p2, p3⟩ := h
  obtain ⟨a0, k0, rfl, _⟩ := id p0
  obtain ⟨a1, k1, rfl, _⟩ := id p1
  obtain ⟨a2, k2, rfl, _⟩ := id p2
  obtain ⟨a3, k3, rfl, _⟩ := id p3
  obtain ⟨w0, hw0, f0, qa, qb⟩ : ∃ W, (w.alloc (.cells #[.int .i64 s.m0.c, .slice a0 s.m0.q.length k0, .bool s.m0.busy, .slice a1 s.m0.rest.length k1, .int .i64 s.m0.acc, .int .i64 s.m0.w, .int .i64 s.m0.r, .int .i64 s.m1.c, .slice a2 s.m1.q.length k2, .bool s.m1.busy, .slice a3 s.m1.rest.length k3, .int .i64 s.m1.acc, .int .i64 s.m1.w, .int .i64 s.m1.r, .bool s.x0, .bool s.x1] 44)).alloc (.cells #[.int .i64 0, .slice none 0 0, .bool false, .slice none 0 0, .int .i64 0, .int .i64 0, .int .i64 0, .int .i64 0, .slice none 0 0, .bool false, .slice none 0 0, .int .i64 0, .int .i64 0, .int .i64 0, .bool false, .bool false] 44) = W ∧ Fr [] w W ∧ W.heap[w.heap.size]? = some (.cells #[.int .i64 s.m0.c, .slice a0 s.m0.q.length k0, .bool s.m0.busy, .slice a1 s.m0.rest.length k1, .int .i64 s.m0.acc, .int .i64 s.m0.w, .int .i64 s.m0.r, .int .i64 s.m1.c, .slice a2 s.m1.q.length k2, .bool s.m1.busy, .slice a3 s.m1.rest.length k3, .int .i64 s.m1.acc, .int .i64 s.m1.w, .int .i64 s.m1.r, .bool s.x0, .bool s.x1] 44 (0, 0)) ∧ W.heap[w.heap.size + 1]? = some (.cells #[.int .i64 0, .slice none 0 0, .bool false, .slice none 0 0, .int .i64 0, .int .i64 0, .int .i64 0, .int .i64 0, .slice none 0 0, .bool false, .slice none 0 0, .int .i64 0, .int .i64 0, .int .i64 0, .bool false, .bool false] 44 (0, 0)) := ⟨_, rfl, ((Fr.refl _ _).alloc _).alloc _, keepA (newA rfl), newA (by simp)⟩
  have x0 : w0.cell? ⟨w.heap.size, 0, none⟩ = some (.int .i64 s.m0.c) := cell_of (qa)
  have x1 : w0.cell? ⟨w.heap.size, 1, none⟩ = some (.slice a0 s.m0.q.length k0) := cell_of (qa)
  have x2 : w0.cell? ⟨w.heap.size, 2, none⟩ = some (.bool s.m0.busy) := cell_of (qa)
  have x3 : w0.cell? ⟨w.heap.size, 3, none⟩ = some (.slice a1 s.m0.rest.length k1) := cell_of (qa)
  have x4 : w0.cell? ⟨w.heap.size, 4, none⟩ = some (.int .i64 s.m0.acc) := cell_of (qa)
  have x5 : w0.cell? ⟨w.heap.size, 5, none⟩ = some (.int .i64 s.m0.w) := cell_of (qa)
  have x6 : w0.cell? ⟨w.heap.size, 6, none⟩ = some (.int .i64 s.m0.r) := cell_of (qa)
  have x7 : w0.cell? ⟨w.heap.size, 7, none⟩ = some (.int .i64 s.m1.c) := cell_of (qa)
  have x8 : w0.cell? ⟨w.heap.size, 8, none⟩ = some (.slice a2 s.m1.q.length k2) := cell_of (qa)
  have x9 : w0.cell? ⟨w.heap.size, 9, none⟩ = some (.bool s.m1.busy) := cell_of (qa)
  have x10 : w0.cell? ⟨w.heap.size, 10, none⟩ = some (.slice a3 s.m1.rest.length k3) := cell_of (qa)
  have x11 : w0.cell? ⟨w.heap.size, 11, none⟩ = some (.int .i64 s.m1.acc) := cell_of (qa)
  have x12 : w0.cell? ⟨w.heap.size, 12, none⟩ = some (.int .i64 s.m1.w) := cell_of (qa)
  have x13 : w0.cell? ⟨w.heap.size, 13, none⟩ = some (.int .i64 s.m1.r) := cell_of (qa)
  have x14 : w0.cell? ⟨w.heap.size, 14, none⟩ = some (.bool s.x0) := cell_of (qa)
  have x15 : w0.cell? ⟨w.heap.size, 15, none⟩ = some (.bool s.x1) := cell_of (qa)
  have HF0 := Lib.hid f0
  have HQA := Lib.hid qa
  have HQB := Lib.hid qb
  have hz0 := lt_of_heap qb
  have HC := Lib.hid (r_end (w := w0) (N := (fun x => N x ∧ x < w.heap.size)) (v := .agg #[.int .i64 s.m0.c, .slice a0 s.m0.q.length k0, .bool s.m0.busy, .slice a1 s.m0.rest.length k1, .int .i64 s.m0.acc, .int .i64 s.m0.w, .int .i64 s.m0.r]) (m := s.m0) ⟨_, _, rfl, p0.keep f0 (by simp), p1.keep f0 (by simp)⟩)
  generalize (endM s.m0).m = mf at *
  generalize (endM s.m0).n = nn at *
  generalize (endM s.m0).err = ee at *
  have HP := Lib.hid (And.intro (And.intro p0 p1) (And.intro p2 p3))
  clear f0 qa qb p0 p1 p2 p3
  go_enter Try.func104, Try.ntmps104
  go_wp2_with fail
  refine (r15_end _ _).mono ?_
  rintro e w' ⟨rfl, rfl⟩
  clear hw0
  go_wp2_with fail
  refine HC.out.mono ?_
  rintro e w1 ⟨v', rfl, f1, u4, u5, rfl, hp4', hp5'⟩
  have hp4 : PartV w1 (fun x => (fun x => N x ∧ x < w.heap.size) x ∨ w0.heap.size ≤ x) _ _ := hp4'.mono (fun x hx => .inl hx)
  have hp5 : PartV w1 (fun x => (fun x => N x ∧ x < w.heap.size) x ∨ w0.heap.size ≤ x) _ _ := hp5'.mono (fun x hx => .inl hx)
  clear hp4' hp5'
  obtain ⟨a4, k4, rfl, _⟩ := id hp4
  obtain ⟨a5, k5, rfl, _⟩ := id hp5
  obtain ⟨w2, hw2, f2, q2⟩ : ∃ W, w1.alloc (.cells #[.int .i64 mf.c, .slice a4 mf.q.length k4, .bool mf.busy, .slice a5 mf.rest.length k5, .int .i64 mf.acc, .int .i64 mf.w, .int .i64 mf.r] 41) = W ∧ Fr [] w1 W ∧ W.heap[w1.heap.size]? = some (.cells #[.int .i64 mf.c, .slice a4 mf.q.length k4, .bool mf.busy, .slice a5 mf.rest.length k5, .int .i64 mf.acc, .int .i64 mf.w, .int .i64 mf.r] 41 (0, 0)) := ⟨_, rfl, (Fr.refl _ _).alloc _, newA rfl⟩
  have HA2 := Lib.hid (f2.keep (f1.keep HQA.out (by simp)) (by simp))
  have HB2 := Lib.hid (f2.keep (f1.keep HQB.out (by simp)) (by simp))
  have HF2 := Lib.hid (HF0.out.then0 (f1.then0 f2))
  have z1 := f1.size
  have z2 := f2.size
  have HN := Lib.hid (And.intro (hp4.keep f2 (by simp)) (hp5.keep f2 (by simp)))
  clear x0 x1 x2 x3 x4 x5 x6 x7 x8 x9 x10 x11 x12 x13 x14 x15 hp4 hp5 HC f1 f2
  have y0 : w2.cell? ⟨w1.heap.size, 0, none⟩ = some (.int .i64 mf.c) := cell_of (q2)
  have y1 : w2.cell? ⟨w1.heap.size, 1, none⟩ = some (.slice a4 mf.q.length k4) := cell_of (q2)
  have y2 : w2.cell? ⟨w1.heap.size, 2, none⟩ = some (.bool mf.busy) := cell_of (q2)
  have y3 : w2.cell? ⟨w1.heap.size, 3, none⟩ = some (.slice a5 mf.rest.length k5) := cell_of (q2)
  have y4 : w2.cell? ⟨w1.heap.size, 4, none⟩ = some (.int .i64 mf.acc) := cell_of (q2)
  have y5 : w2.cell? ⟨w1.heap.size, 5, none⟩ = some (.int .i64 mf.w) := cell_of (q2)
  have y6 : w2.cell? ⟨w1.heap.size, 6, none⟩ = some (.int .i64 mf.r) := cell_of (q2)
  clear q2
  go_wp2_with (refine wpl_store_sub rfl 41 _ _ rfl w.heap.size 0 #[.int .i64 mf.c, .slice a4 mf.q.length k4, .bool mf.busy, .slice a5 mf.rest.length k5, .int .i64 mf.acc, .int .i64 mf.w, .int .i64 mf.r] (by rfl) (by rfl) _ _ #[.int .i64 mf.c, .slice a4 mf.q.length k4, .bool mf.busy, .slice a5 mf.rest.length k5, .int .i64 mf.acc, .int .i64 mf.w, .int .i64 mf.r, .int .i64 s.m1.c, .slice a2 s.m1.q.length k2, .bool s.m1.busy, .slice a3 s.m1.rest.length k3, .int .i64 s.m1.acc, .int .i64 s.m1.w, .int .i64 s.m1.r, .bool s.x0, .bool s.x1] HA2.out (by kernel_rfl) (by simp) (by simp [Value.oneCell']) (by rfl) ?_)
  intro w3 f3 q3
  clear hw2 y0 y1 y2 y3 y4 y5 y6
  have x0 : w3.cell? ⟨w.heap.size, 0, none⟩ = some (.int .i64 mf.c) := cell_of (q3)
  have x1 : w3.cell? ⟨w.heap.size, 1, none⟩ = some (.slice a4 mf.q.length k4) := cell_of (q3)
  have x2 : w3.cell? ⟨w.heap.size, 2, none⟩ = some (.bool mf.busy) := cell_of (q3)
  have x3 : w3.cell? ⟨w.heap.size, 3, none⟩ = some (.slice a5 mf.rest.length k5) := cell_of (q3)
  have x4 : w3.cell? ⟨w.heap.size, 4, none⟩ = some (.int .i64 mf.acc) := cell_of (q3)
  have x5 : w3.cell? ⟨w.heap.size, 5, none⟩ = some (.int .i64 mf.w) := cell_of (q3)
  have x6 : w3.cell? ⟨w.heap.size, 6, none⟩ = some (.int .i64 mf.r) := cell_of (q3)
  have x7 : w3.cell? ⟨w.heap.size, 7, none⟩ = some (.int .i64 s.m1.c) := cell_of (q3)
  have x8 : w3.cell? ⟨w.heap.size, 8, none⟩ = some (.slice a2 s.m1.q.length k2) := cell_of (q3)
  have x9 : w3.cell? ⟨w.heap.size, 9, none⟩ = some (.bool s.m1.busy) := cell_of (q3)
  have x10 : w3.cell? ⟨w.heap.size, 10, none⟩ = some (.slice a3 s.m1.rest.length k3) := cell_of (q3)
  have x11 : w3.cell? ⟨w.heap.size, 11, none⟩ = some (.int .i64 s.m1.acc) := cell_of (q3)
  have x12 : w3.cell? ⟨w.heap.size, 12, none⟩ = some (.int .i64 s.m1.w) := cell_of (q3)
  have x13 : w3.cell? ⟨w.heap.size, 13, none⟩ = some (.int .i64 s.m1.r) := cell_of (q3)
  have x14 : w3.cell? ⟨w.heap.size, 14, none⟩ = some (.bool s.x0) := cell_of (q3)
  have x15 : w3.cell? ⟨w.heap.size, 15, none⟩ = some (.bool s.x1) := cell_of (q3)
  have HB3 := Lib.hid (f3.keep HB2.out (by simp))
  have HF3 := Lib.hid f3
  clear f3 q3
  go_wp2_with (refine wpl_store rfl 44 _ _ rfl (w.heap.size + 1) #[.int .i64 mf.c, .slice a4 mf.q.length k4, .bool mf.busy, .slice a5 mf.rest.length k5, .int .i64 mf.acc, .int .i64 mf.w, .int .i64 mf.r, .int .i64 s.m1.c, .slice a2 s.m1.q.length k2, .bool s.m1.busy, .slice a3 s.m1.rest.length k3, .int .i64 s.m1.acc, .int .i64 s.m1.w, .int .i64 s.m1.r, .bool s.x0, .bool s.x1] (by rfl) (by rfl) _ _ HB3.out (by kernel_rfl) rfl (by simp [Value.oneCell']) ?_)
  intro w4 f4 q4
  clear x0 x1 x2 x3 x4 x5 x6 x7 x8 x9 x10 x11 x12 x13 x14 x15
  have y0 : w4.cell? ⟨(w.heap.size + 1), 0, none⟩ = some (.int .i64 mf.c) := cell_of (q4)
  have y1 : w4.cell? ⟨(w.heap.size + 1), 1, none⟩ = some (.slice a4 mf.q.length k4) := cell_of (q4)
  have y2 : w4.cell? ⟨(w.heap.size + 1), 2, none⟩ = some (.bool mf.busy) := cell_of (q4)
  have y3 : w4.cell? ⟨(w.heap.size + 1), 3, none⟩ = some (.slice a5 mf.rest.length k5) := cell_of (q4)
  have y4 : w4.cell? ⟨(w.heap.size + 1), 4, none⟩ = some (.int .i64 mf.acc) := cell_of (q4)
  have y5 : w4.cell? ⟨(w.heap.size + 1), 5, none⟩ = some (.int .i64 mf.w) := cell_of (q4)
  have y6 : w4.cell? ⟨(w.heap.size + 1), 6, none⟩ = some (.int .i64 mf.r) := cell_of (q4)
  have y7 : w4.cell? ⟨(w.heap.size + 1), 7, none⟩ = some (.int .i64 s.m1.c) := cell_of (q4)
  have y8 : w4.cell? ⟨(w.heap.size + 1), 8, none⟩ = some (.slice a2 s.m1.q.length k2) := cell_of (q4)
  have y9 : w4.cell? ⟨(w.heap.size + 1), 9, none⟩ = some (.bool s.m1.busy) := cell_of (q4)
  have y10 : w4.cell? ⟨(w.heap.size + 1), 10, none⟩ = some (.slice a3 s.m1.rest.length k3) := cell_of (q4)
  have y11 : w4.cell? ⟨(w.heap.size + 1), 11, none⟩ = some (.int .i64 s.m1.acc) := cell_of (q4)
  have y12 : w4.cell? ⟨(w.heap.size + 1), 12, none⟩ = some (.int .i64 s.m1.w) := cell_of (q4)
  have y13 : w4.cell? ⟨(w.heap.size + 1), 13, none⟩ = some (.int .i64 s.m1.r) := cell_of (q4)
  have y14 : w4.cell? ⟨(w.heap.size + 1), 14, none⟩ = some (.bool s.x0) := cell_of (q4)
  have y15 : w4.cell? ⟨(w.heap.size + 1), 15, none⟩ = some (.bool s.x1) := cell_of (q4)
  have HF4 := Lib.hid f4
  clear f4 q4
  go_wp2_with fail
  refine bodyPost_ret (v := .tuple #[.agg #[.int .i64 mf.c, .slice a4 mf.q.length k4, .bool mf.busy, .slice a5 mf.rest.length k5, .int .i64 mf.acc, .int .i64 mf.w, .int .i64 mf.r, .int .i64 s.m1.c, .slice a2 s.m1.q.length k2, .bool s.m1.busy, .slice a3 s.m1.rest.length k3, .int .i64 s.m1.acc, .int .i64 s.m1.w, .int .i64 s.m1.r, .bool s.x0, .bool s.x1], .int .i64 nn, .int .i64 ee]) (by simp [results, Try.results104, go_sem, y0, y1, y2, y3, y4, y5, y6, y7, y8, y9, y10, y11, y12, y13, y14, y15]) rfl ?_
  have F34 : Fr [w.heap.size, w.heap.size + 1] w2 w4 := HF3.out.trans HF4.out (fun x hx => .inl (by simp at hx; simp [hx])) (fun x hx => .inl (by simp at hx; simp [hx]))
  have F : Fr [] w w4 := HF2.out.trans F34 (by simp) (fun x hx => .inr (by simp at hx; omega))
  have KN : ∀ {v : Value} {l : List UInt8}, PartV w2 (fun x => (fun x => N x ∧ x < w.heap.size) x ∨ w0.heap.size ≤ x) v l → PartV w4 (fun x => N x ∨ w.heap.size ≤ x) v l := fun h => (h.keep F34 (fun x hx hn => by simp at hx; rcases hn with hn | hn; have := hn.2; omega; omega)).mono (fun x hx => hx.imp (fun h => h.1) (fun h => by omega))
  have KO : ∀ {v : Value} {l : List UInt8}, PartV w (fun x => N x ∧ x < w.heap.size) v l → PartV w4 (fun x => N x ∨ w.heap.size ≤ x) v l := fun h => (h.keep F (by simp)).mono (fun x hx => .inl hx.1)
  exact ⟨_, rfl, F, ⟨_, _, _, _, rfl, KN (HN.out.1), KN (HN.out.2), KO HP.out.2.1, KO HP.out.2.2⟩⟩
set_option maxHeartbeats 8000000 in
theorem r15_cancel1 {w : World} {N : Nat → Prop} {v : Value} {s : DM} (h : Cv w N v s) :
    Calls Try.prog 105 #[v, .int .i64 1] w fun e w' => ∃ v', e = .returned (.tuple #[v', .int .i64 (cancelM s.m1).n, .int .i64 (cancelM s.m1).err]) ∧ Fr [] w w' ∧ Cv w' (fun x => N x ∨ w.heap.size ≤ x) v' { s with m1 := (cancelM s.m1).m } := by
  replace h := h.there
  obtain ⟨u0, u1, u2, u3, rfl, p0, p1, p2, p3⟩ := h
  obtain ⟨a0, k0, rfl, _⟩ := id p0
  obtain ⟨a1, k1, rfl, _⟩ := id p1
  obtain ⟨a2, k2, rfl, _⟩ := id p2
  obtain ⟨a3, k3, rfl, _⟩ := id p3
  obtain ⟨w0, hw0, f0, qa, qb⟩ : ∃ W, (w.alloc (.cells #[.int .i64 s.m0.c, .slice a0 s.m0.q.length k0, .bool s.m0.busy, .slice a1 s.m0.rest.length k1, .int .i64 s.m0.acc, .int .i64 s.m0.w, .int .i64 s.m0.r, .int .i64 s.m1.c, .slice a2 s.m1.q.length k2, .bool s.m1.busy, .slice a3 s.m1.rest.length k3, .int .i64 s.m1.acc, .int .i64 s.m1.w, .int .i64 s.m1.r, .bool s.x0, .bool s.x1] 44)).alloc (.cells #[.int .i64 0, .slice none 0 0, .bool false, .slice none 0 0, .int .i64 0, .int .i64 0, .int .i64 0, .int .i64 0, .slice none 0 0, .bool false, .slice none 0 0, .int .i64 0, .int .i64 0, .int .i64 0, .bool false, .bool false] 44) = W ∧ Fr [] w W ∧ W.heap[w.heap.size]? = some (.cells #[.int .i64 s.m0.c, .slice a0 s.m0.q.length k0, .bool s.m0.busy, .slice a1 s.m0.rest.length k1, .int .i64 s.m0.acc, .int .i64 s.m0.w, .int .i64 s.m0.r, .int .i64 s.m1.c, .slice a2 s.m1.q.length k2, .bool s.m1.busy, .slice a3 s.m1.rest.length k3, .int .i64 s.m1.acc, .int .i64 s.m1.w, .int .i64 s.m1.r, .bool s.x0, .bool s.x1] 44 (0, 0)) ∧ W.heap[w.heap.size + 1]? = some (.cells #[.int .i64 0, .slice none 0 0, .bool false, .slice none 0 0, .int .i64 0, .int .i64 0, .int .i64 0, .int .i64 0, .slice none 0 0, .bool false, .slice none 0 0, .int .i64 0, .int .i64 0, .int .i64 0, .bool false, .bool false] 44 (0, 0)) := ⟨_, rfl, ((Fr.refl _ _).alloc _).alloc _, keepA (newA rfl), newA (by simp)⟩
  have x0 : w0.cell? ⟨w.heap.size, 0, none⟩ = some (.int .i64 s.m0.c) := cell_of (qa)
  have x1 : w0.cell? ⟨w.heap.size, 1, none⟩ = some (.slice a0 s.m0.q.length k0) := cell_of (qa)
  have x2 : w0.cell? ⟨w.heap.size, 2, none⟩ = some (.bool s.m0.busy) := cell_of (qa)
  have x3 : w0.cell? ⟨w.heap.size, 3, none⟩ = some (.slice a1 s.m0.rest.length k1) := cell_of (qa)
  have x4 : w0.cell? ⟨w.heap.size, 4, none⟩ = some (.int .i64 s.m0.acc) := cell_of (qa)
  have x5 : w0.cell? ⟨w.heap.size, 5, none⟩ = some (.int .i64 s.m0.w) := cell_of (qa)
  have x6 : w0.cell? ⟨w.heap.size, 6, none⟩ = some (.int .i64 s.m0.r) := cell_of (qa)
  have x7 : w0.cell? ⟨w.heap.size, 7, none⟩ = some (.int .i64 s.m1.c) := cell_of (qa)
  have x8 : w0.cell? ⟨w.heap.size, 8, none⟩ = some (.slice a2 s.m1.q.length k2) := cell_of (qa)
  have x9 : w0.cell? ⟨w.heap.size, 9, none⟩ = some (.bool s.m1.busy) := cell_of (qa)
  have x10 : w0.cell? ⟨w.heap.size, 10, none⟩ = some (.slice a3 s.m1.rest.length k3) := cell_of (qa)
  have x11 : w0.cell? ⟨w.heap.size, 11, none⟩ = some (.int .i64 s.m1.acc) := cell_of (qa)
  have x12 : w0.cell? ⟨w.heap.size, 12, none⟩ = some (.int .i64 s.m1.w) := cell_of (qa)
  have x13 : w0.cell? ⟨w.heap.size, 13, none⟩ = some (.int .i64 s.m1.r) := cell_of (qa)
  have x14 : w0.cell? ⟨w.heap.size, 14, none⟩ = some (.bool s.x0) := cell_of (qa)
  have x15 : w0.cell? ⟨w.heap.size, 15, none⟩ = some (.bool s.x1) := cell_of (qa)
  have HF0 := Lib.hid f0
  have HQA := Lib.hid qa
  have HQB := Lib.hid qb
  have hz0 := lt_of_heap qb
  have HC := Lib.hid (r_cancel (w := w0) (N := (fun x => N x ∧ x < w.heap.size)) (v := .agg #[.int .i64 s.m1.c, .slice a2 s.m1.q.length k2, .bool s.m1.busy, .slice a3 s.m1.rest.length k3, .int .i64 s.m1.acc, .int .i64 s.m1.w, .int .i64 s.m1.r]) (m := s.m1) ⟨_, _, rfl, p2.keep f0 (by simp), p3.keep f0 (by simp)⟩)
  generalize (cancelM s.m1).m = mf at *
  generalize (cancelM s.m1).n = nn at *
  generalize (cancelM s.m1).err = ee at *
  have HP := Lib.hid (And.intro (And.intro p0 p1) (And.intro p2 p3))
  clear f0 qa qb p0 p1 p2 p3
  go_enter Try.func105, Try.ntmps105
  go_wp2_with fail
  refine (r15_end _ _).mono ?_
  rintro e w' ⟨rfl, rfl⟩
  clear hw0
  go_wp2_with fail
  refine HC.out.mono ?_
  rintro e w1 ⟨v', rfl, f1, u4, u5, rfl, hp4', hp5'⟩
  have hp4 : PartV w1 (fun x => (fun x => N x ∧ x < w.heap.size) x ∨ w0.heap.size ≤ x) _ _ := hp4'.mono (fun x hx => .inl hx)
  have hp5 : PartV w1 (fun x => (fun x => N x ∧ x < w.heap.size) x ∨ w0.heap.size ≤ x) _ _ := hp5'.mono (fun x hx => .inl hx)
  clear hp4' hp5'
  obtain ⟨a4, k4, rfl, _⟩ := id hp4
  obtain ⟨a5, k5, rfl, _⟩ := id hp5
  obtain ⟨w2, hw2, f2, q2⟩ : ∃ W, w1.alloc (.cells #[.int .i64 mf.c, .slice a4 mf.q.length k4, .bool mf.busy, .slice a5 mf.rest.length k5, .int .i64 mf.acc, .int .i64 mf.w, .int .i64 mf.r] 41) = W ∧ Fr [] w1 W ∧ W.heap[w1.heap.size]? = some (.cells #[.int .i64 mf.c, .slice a4 mf.q.length k4, .bool mf.busy, .slice a5 mf.rest.length k5, .int .i64 mf.acc, .int .i64 mf.w, .int .i64 mf.r] 41 (0, 0)) := ⟨_, rfl, (Fr.refl _ _).alloc _, newA rfl⟩
  have HA2 := Lib.hid (f2.keep (f1.keep HQA.out (by simp)) (by simp))
  have HB2 := Lib.hid (f2.keep (f1.keep HQB.out (by simp)) (by simp))
  have HF2 := Lib.hid (HF0.out.then0 (f1.then0 f2))
  have z1 := f1.size
  have z2 := f2.size
  have HN := Lib.hid (And.intro (hp4.keep f2 (by simp)) (hp5.keep f2 (by simp)))
  clear x0 x1 x2 x3 x4 x5 x6 x7 x8 x9 x10 x11 x12 x13 x14 x15 hp4 hp5 HC f1 f2
  have y0 : w2.cell? ⟨w1.heap.size, 0, none⟩ = some (.int .i64 mf.c) := cell_of (q2)
  have y1 : w2.cell? ⟨w1.heap.size, 1, none⟩ = some (.slice a4 mf.q.length k4) := cell_of (q2)
  have y2 : w2.cell? ⟨w1.heap.size, 2, none⟩ = some (.bool mf.busy) := cell_of (q2)
  have y3 : w2.cell? ⟨w1.heap.size, 3, none⟩ = some (.slice a5 mf.rest.length k5) := cell_of (q2)
  have y4 : w2.cell? ⟨w1.heap.size, 4, none⟩ = some (.int .i64 mf.acc) := cell_of (q2)
  have y5 : w2.cell? ⟨w1.heap.size, 5, none⟩ = some (.int .i64 mf.w) := cell_of (q2)
  have y6 : w2.cell? ⟨w1.heap.size, 6, none⟩ = some (.int .i64 mf.r) := cell_of (q2)
  clear q2
  go_wp2_with (refine wpl_store_sub rfl 41 _ _ rfl w.heap.size 7 #[.int .i64 mf.c, .slice a4 mf.q.length k4, .bool mf.busy, .slice a5 mf.rest.length k5, .int .i64 mf.acc, .int .i64 mf.w, .int .i64 mf.r] (by rfl) (by rfl) _ _ #[.int .i64 s.m0.c, .slice a0 s.m0.q.length k0, .bool s.m0.busy, .slice a1 s.m0.rest.length k1, .int .i64 s.m0.acc, .int .i64 s.m0.w, .int .i64 s.m0.r, .int .i64 mf.c, .slice a4 mf.q.length k4, .bool mf.busy, .slice a5 mf.rest.length k5, .int .i64 mf.acc, .int .i64 mf.w, .int .i64 mf.r, .bool s.x0, .bool s.x1] HA2.out (by kernel_rfl) (by simp) (by simp [Value.oneCell']) (by rfl) ?_)
  intro w3 f3 q3
  clear hw2 y0 y1 y2 y3 y4 y5 y6
  have x0 : w3.cell? ⟨w.heap.size, 0, none⟩ = some (.int .i64 s.m0.c) := cell_of (q3)
  have x1 : w3.cell? ⟨w.heap.size, 1, none⟩ = some (.slice a0 s.m0.q.length k0) := cell_of (q3)
  have x2 : w3.cell? ⟨w.heap.size, 2, none⟩ = some (.bool s.m0.busy) := cell_of (q3)
  have x3 : w3.cell? ⟨w.heap.size, 3, none⟩ = some (.slice a1 s.m0.rest.length k1) := cell_of (q3)
  have x4 : w3.cell? ⟨w.heap.size, 4, none⟩ = some (.int .i64 s.m0.acc) := cell_of (q3)
  have x5 : w3.cell? ⟨w.heap.size, 5, none⟩ = some (.int .i64 s.m0.w) := cell_of (q3)
  have x6 : w3.cell? ⟨w.heap.size, 6, none⟩ = some (.int .i64 s.m0.r) := cell_of (q3)
  have x7 : w3.cell? ⟨w.heap.size, 7, none⟩ = some (.int .i64 mf.c) := cell_of (q3)
  have x8 : w3.cell? ⟨w.heap.size, 8, none⟩ = some (.slice a4 mf.q.length k4) := cell_of (q3)
  have x9 : w3.cell? ⟨w.heap.size, 9, none⟩ = some (.bool mf.busy) := cell_of (q3)
  have x10 : w3.cell? ⟨w.heap.size, 10, none⟩ = some (.slice a5 mf.rest.length k5) := cell_of (q3)
  have x11 : w3.cell? ⟨w.heap.size, 11, none⟩ = some (.int .i64 mf.acc) := cell_of (q3)
  have x12 : w3.cell? ⟨w.heap.size, 12, none⟩ = some (.int .i64 mf.w) := cell_of (q3)
  have x13 : w3.cell? ⟨w.heap.size, 13, none⟩ = some (.int .i64 mf.r) := cell_of (q3)
  have x14 : w3.cell? ⟨w.heap.size, 14, none⟩ = some (.bool s.x0) := cell_of (q3)
  have x15 : w3.cell? ⟨w.heap.size, 15, none⟩ = some (.bool s.x1) := cell_of (q3)
  have HB3 := Lib.hid (f3.keep HB2.out (by simp))
  have HF3 := Lib.hid f3
  clear f3 q3
  go_wp2_with (refine wpl_store rfl 44 _ _ rfl (w.heap.size + 1) #[.int .i64 s.m0.c, .slice a0 s.m0.q.length k0, .bool s.m0.busy, .slice a1 s.m0.rest.length k1, .int .i64 s.m0.acc, .int .i64 s.m0.w, .int .i64 s.m0.r, .int .i64 mf.c, .slice a4 mf.q.length k4, .bool mf.busy, .slice a5 mf.rest.length k5, .int .i64 mf.acc, .int .i64 mf.w, .int .i64 mf.r, .bool s.x0, .bool s.x1] (by rfl) (by rfl) _ _ HB3.out (by kernel_rfl) rfl (by simp [Value.oneCell']) ?_)
  intro w4 f4 q4
  clear x0 x1 x2 x3 x4 x5 x6 x7 x8 x9 x10 x11 x12 x13 x14 x15
  have y0 : w4.cell? ⟨(w.heap.size + 1), 0, none⟩ = some (.int .i64 s.m0.c) := cell_of (q4)
  have y1 : w4.cell? ⟨(w.heap.size + 1), 1, none⟩ = some (.slice a0 s.m0.q.length k0) := cell_of (q4)
  have y2 : w4.cell? ⟨(w.heap.size + 1), 2, none⟩ = some (.bool s.m0.busy) := cell_of (q4)
  have y3 : w4.cell? ⟨(w.heap.size + 1), 3, none⟩ = some (.slice a1 s.m0.rest.length k1) := cell_of (q4)
  have y4 : w4.cell? ⟨(w.heap.size + 1), 4, none⟩ = some (.int .i64 s.m0.acc) := cell_of (q4)
  have y5 : w4.cell? ⟨(w.heap.size + 1), 5, none⟩ = some (.int .i64 s.m0.w) := cell_of (q4)
  have y6 : w4.cell? ⟨(w.heap.size + 1), 6, none⟩ = some (.int .i64 s.m0.r) := cell_of (q4)
  have y7 : w4.cell? ⟨(w.heap.size + 1), 7, none⟩ = some (.int .i64 mf.c) := cell_of (q4)
  have y8 : w4.cell? ⟨(w.heap.size + 1), 8, none⟩ = some (.slice a4 mf.q.length k4) := cell_of (q4)
  have y9 : w4.cell? ⟨(w.heap.size + 1), 9, none⟩ = some (.bool mf.busy) := cell_of (q4)
  have y10 : w4.cell? ⟨(w.heap.size + 1), 10, none⟩ = some (.slice a5 mf.rest.length k5) := cell_of (q4)
  have y11 : w4.cell? ⟨(w.heap.size + 1), 11, none⟩ = some (.int .i64 mf.acc) := cell_of (q4)
  have y12 : w4.cell? ⟨(w.heap.size + 1), 12, none⟩ = some (.int .i64 mf.w) := cell_of (q4)
  have y13 : w4.cell? ⟨(w.heap.size + 1), 13, none⟩ = some (.int .i64 mf.r) := cell_of (q4)
  have y14 : w4.cell? ⟨(w.heap.size + 1), 14, none⟩ = some (.bool s.x0) := cell_of (q4)
  have y15 : w4.cell? ⟨(w.heap.size + 1), 15, none⟩ = some (.bool s.x1) := cell_of (q4)
  have HF4 := Lib.hid f4
  clear f4 q4
  go_wp2_with fail
  refine bodyPost_ret (v := .tuple #[.agg #[.int .i64 s.m0.c, .slice a0 s.m0.q.length k0, .bool s.m0.busy, .slice a1 s.m0.rest.length k1, .int .i64 s.m0.acc, .int .i64 s.m0.w, .int .i64 s.m0.r, .int .i64 mf.c, .slice a4 mf.q.length k4, .bool mf.busy, .slice a5 mf.rest.length k5, .int .i64 mf.acc, .int .i64 mf.w, .int .i64 mf.r, .bool s.x0, .bool s.x1], .int .i64 nn, .int .i64 ee]) (by simp [results, Try.results105, go_sem, y0, y1, y2, y3, y4, y5, y6, y7, y8, y9, y10, y11, y12, y13, y14, y15]) rfl ?_
  have F34 : Fr [w.heap.size, w.heap.size + 1] w2 w4 := HF3.out.trans HF4.out (fun x hx => .inl (by simp at hx; simp [hx])) (fun x hx => .inl (by simp at hx; simp [hx]))
  have F : Fr [] w w4 := HF2.out.trans F34 (by simp) (fun x hx => .inr (by simp at hx; omega))
  have KN : ∀ {v : Value} {l : List UInt8}, PartV w2 (fun x => (fun x => N x ∧ x < w.heap.size) x ∨ w0.heap.size ≤ x) v l → PartV w4 (fun x => N x ∨ w.heap.size ≤ x) v l := fun h => (h.keep F34 (fun x hx hn => by simp at hx; rcases hn with hn | hn; have := hn.2; omega; omega)).mono (fun x hx => hx.imp (fun h => h.1) (fun h => by omega))
  have KO : ∀ {v : Value} {l : List UInt8}, PartV w (fun x => N x ∧ x < w.heap.size) v l → PartV w4 (fun x => N x ∨ w.heap.size ≤ x) v l := fun h => (h.keep F (by simp)).mono (fun x hx => .inl hx.1)
  exact ⟨_, rfl, F, ⟨_, _, _, _, rfl, KO HP.out.1.1, KO HP.out.1.2, KN (HN.out.1), KN (HN.out.2)⟩⟩
set_option maxHeartbeats 8000000 in
theorem r15_finish1 {w : World} {N : Nat → Prop} {v : Value} {s : DM} (h : Cv w N v s) :
    Calls Try.prog 104 #[v, .int .i64 1] w fun e w' => ∃ v', e = .returned (.tuple #[v', .int .i64 (endM s.m1).n, .int .i64 (endM s.m1).err]) ∧ Fr [] w w' ∧ Cv w' (fun x => N x ∨ w.heap.size ≤ x) v' { s with m1 := (endM s.m1).m } := by
  replace h := h.there
  obtain ⟨u0, u1, u2, u3, rfl, p0, p1, p2, p3⟩ := h
  obtain ⟨a0, k0, rfl, _⟩ := id p0
  obtain ⟨a1, k1, rfl, _⟩ := id p1
  obtain ⟨a2, k2, rfl, _⟩ := id p2
  obtain ⟨a3, k3, rfl, _⟩ := id p3
  obtain ⟨w0, hw0, f0, qa, qb⟩ : ∃ W, (w.alloc (.cells #[.int .i64 s.m0.c, .slice a0 s.m0.q.length k0, .bool s.m0.busy, .slice a1 s.m0.rest.length k1, .int .i64 s.m0.acc, .int .i64 s.m0.w, .int .i64 s.m0.r, .int .i64 s.m1.c, .slice a2 s.m1.q.length k2, .bool s.m1.busy, .slice a3 s.m1.rest.length k3, .int .i64 s.m1.acc, .int .i64 s.m1.w, .int .i64 s.m1.r, .bool s.x0, .bool s.x1] 44)).alloc (.cells #[.int .i64 0, .slice none 0 0, .bool false, .slice none 0 0, .int .i64 0, .int .i64 0, .int .i64 0, .int .i64 0, .slice none 0 0, .bool false, .slice none 0 0, .int .i64 0, .int .i64 0, .int .i64 0, .bool false, .bool false] 44) = W ∧ Fr [] w W ∧ W.heap[w.heap.size]? = some (.cells #[.int .i64 s.m0.c, .slice a0 s.m0.q.length k0, .bool s.m0.busy, .slice a1 s.m0.rest.length k1, .int .i64 s.m0.acc, .int .i64 s.m0.w, .int .i64 s.m0.r, .int .i64 s.m1.c, .slice a2 s.m1.q.length k2, .bool s.m1.busy, .slice a3 s.m1.rest.length k3, .int .i64 s.m1.acc, .int .i64 s.m1.w, .int .i64 s.m1.r, .bool s.x0, .bool s.x1] 44 (0, 0)) ∧ W.heap[w.heap.size + 1]? = some (.cells #[.int .i64 0, .slice none 0 0, .bool false, .slice none 0 0, .int .i64 0, .int .i64 0, .int .i64 0, .int .i64 0, .slice none 0 0, .bool false, .slice none 0 0, .int .i64 0, .int .i64 0, .int .i64 0, .bool false, .bool false] 44 (0, 0)) := ⟨_, rfl, ((Fr.refl _ _).alloc _).alloc _, keepA (newA rfl), newA (by simp)⟩
  have x0 : w0.cell? ⟨w.heap.size, 0, none⟩ = some (.int .i64 s.m0.c) := cell_of (qa)
  have x1 : w0.cell? ⟨w.heap.size, 1, none⟩ = some (.slice a0 s.m0.q.length k0) := cell_of (qa)
  have x2 : w0.cell? ⟨w.heap.size, 2, none⟩ = some (.bool s.m0.busy) := cell_of (qa)
  have x3 : w0.cell? ⟨w.heap.size, 3, none⟩ = some (.slice a1 s.m0.rest.length k1) := cell_of (qa)
  have x4 : w0.cell? ⟨w.heap.size, 4, none⟩ = some (.int .i64 s.m0.acc) := cell_of (qa)
  have x5 : w0.cell? ⟨w.heap.size, 5, none⟩ = some (.int .i64 s.m0.w) := cell_of (qa)
  have x6 : w0.cell? ⟨w.heap.size, 6, none⟩ = some (.int .i64 s.m0.r) := cell_of (qa)
  have x7 : w0.cell? ⟨w.heap.size, 7, none⟩ = some (.int .i64 s.m1.c) := cell_of (qa)
  have x8 : w0.cell? ⟨w.heap.size, 8, none⟩ = some (.slice a2 s.m1.q.length k2) := cell_of (qa)
  have x9 : w0.cell? ⟨w.heap.size, 9, none⟩ = some (.bool s.m1.busy) := cell_of (qa)
  have x10 : w0.cell? ⟨w.heap.size, 10, none⟩ = some (.slice a3 s.m1.rest.length k3) := cell_of (qa)
  have x11 : w0.cell? ⟨w.heap.size, 11, none⟩ = some (.int .i64 s.m1.acc) := cell_of (qa)
  have x12 : w0.cell? ⟨w.heap.size, 12, none⟩ = some (.int .i64 s.m1.w) := cell_of (qa)
  have x13 : w0.cell? ⟨w.heap.size, 13, none⟩ = some (.int .i64 s.m1.r) := cell_of (qa)
  have x14 : w0.cell? ⟨w.heap.size, 14, none⟩ = some (.bool s.x0) := cell_of (qa)
  have x15 : w0.cell? ⟨w.heap.size, 15, none⟩ = some (.bool s.x1) := cell_of (qa)
  have HF0 := Lib.hid f0
  have HQA := Lib.hid qa
  have HQB := Lib.hid qb
  have hz0 := lt_of_heap qb
  have HC := Lib.hid (r_end (w := w0) (N := (fun x => N x ∧ x < w.heap.size)) (v := .agg #[.int .i64 s.m1.c, .slice a2 s.m1.q.length k2, .bool s.m1.busy, .slice a3 s.m1.rest.length k3, .int .i64 s.m1.acc, .int .i64 s.m1.w, .int .i64 s.m1.r]) (m := s.m1) ⟨_, _, rfl, p2.keep f0 (by simp), p3.keep f0 (by simp)⟩)
  generalize (endM s.m1).m = mf at *
  generalize (endM s.m1).n = nn at *
  generalize (endM s.m1).err = ee at *
  have HP := Lib.hid (And.intro (And.intro p0 p1) (And.intro p2 p3))
  clear f0 qa qb p0 p1 p2 p3
  go_enter Try.func104, Try.ntmps104
  go_wp2_with fail
  refine (r15_end _ _).mono ?_
  rintro e w' ⟨rfl, rfl⟩
  clear hw0
  go_wp2_with fail
  refine HC.out.mono ?_
  rintro e w1 ⟨v', rfl, f1, u4, u5, rfl, hp4', hp5'⟩
  have hp4 : PartV w1 (fun x => (fun x => N x ∧ x < w.heap.size) x ∨ w0.heap.size ≤ x) _ _ := hp4'.mono (fun x hx => .inl hx)
  have hp5 : PartV w1 (fun x => (fun x => N x ∧ x < w.heap.size) x ∨ w0.heap.size ≤ x) _ _ := hp5'.mono (fun x hx => .inl hx)
  clear hp4' hp5'
  obtain ⟨a4, k4, rfl, _⟩ := id hp4
  obtain ⟨a5, k5, rfl, _⟩ := id hp5
  obtain ⟨w2, hw2, f2, q2⟩ : ∃ W, w1.alloc (.cells #[.int .i64 mf.c, .slice a4 mf.q.length k4, .bool mf.busy, .slice a5 mf.rest.length k5, .int .i64 mf.acc, .int .i64 mf.w, .int .i64 mf.r] 41) = W ∧ Fr [] w1 W ∧ W.heap[w1.heap.size]? = some (.cells #[.int .i64 mf.c, .slice a4 mf.q.length k4, .bool mf.busy, .slice a5 mf.rest.length k5, .int .i64 mf.acc, .int .i64 mf.w, .int .i64 mf.r] 41 (0, 0)) := ⟨_, rfl, (Fr.refl _ _).alloc _, newA rfl⟩
  have HA2 := Lib.hid (f2.keep (f1.keep HQA.out (by simp)) (by simp))
  have HB2 := Lib.hid (f2.keep (f1.keep HQB.out (by simp)) (by simp))
  have HF2 := Lib.hid (HF0.out.then0 (f1.then0 f2))
  have z1 := f1.size
  have z2 := f2.size
  have HN := Lib.hid (And.intro (hp4.keep f2 (by simp)) (hp5.keep f2 (by simp)))
  clear x0 x1 x2 x3 x4 x5 x6 x7 x8 x9 x10 x11 x12 x13 x14 x15 hp4 hp5 HC f1 f2
  have y0 : w2.cell? ⟨w1.heap.size, 0, none⟩ = some (.int .i64 mf.c) := cell_of (q2)
  have y1 : w2.cell? ⟨w1.heap.size, 1, none⟩ = some (.slice a4 mf.q.length k4) := cell_of (q2)
  have y2 : w2.cell? ⟨w1.heap.size, 2, none⟩ = some (.bool mf.busy) := cell_of (q2)
  have y3 : w2.cell? ⟨w1.heap.size, 3, none⟩ = some (.slice a5 mf.rest.length k5) := cell_of (q2)
  have y4 : w2.cell? ⟨w1.heap.size, 4, none⟩ = some (.int .i64 mf.acc) := cell_of (q2)
  have y5 : w2.cell? ⟨w1.heap.size, 5, none⟩ = some (.int .i64 mf.w) := cell_of (q2)
  have y6 : w2.cell? ⟨w1.heap.size, 6, none⟩ = some (.int .i64 mf.r) := cell_of (q2)
  clear q2
  go_wp2_with (refine wpl_store_sub rfl 41 _ _ rfl w.heap.size 7 #[.int .i64 mf.c, .slice a4 mf.q.length k4, .bool mf.busy, .slice a5 mf.rest.length k5, .int .i64 mf.acc, .int .i64 mf.w, .int .i64 mf.r] (by rfl) (by rfl) _ _ #[.int .i64 s.m0.c, .slice a0 s.m0.q.length k0, .bool s.m0.busy, .slice a1 s.m0.rest.length k1, .int .i64 s.m0.acc, .int .i64 s.m0.w, .int .i64 s.m0.r, .int .i64 mf.c, .slice a4 mf.q.length k4, .bool mf.busy, .slice a5 mf.rest.length k5, .int .i64 mf.acc, .int .i64 mf.w, .int .i64 mf.r, .bool s.x0, .bool s.x1] HA2.out (by kernel_rfl) (by simp) (by simp [Value.oneCell']) (by rfl) ?_)
  intro w3 f3 q3
  clear hw2 y0 y1 y2 y3 y4 y5 y6
  have x0 : w3.cell? ⟨w.heap.size, 0, none⟩ = some (.int .i64 s.m0.c) := cell_of (q3)
  have x1 : w3.cell? ⟨w.heap.size, 1, none⟩ = some (.slice a0 s.m0.q.length k0) := cell_of (q3)
  have x2 : w3.cell? ⟨w.heap.size, 2, none⟩ = some (.bool s.m0.busy) := cell_of (q3)
  have x3 : w3.cell? ⟨w.heap.size, 3, none⟩ = some (.slice a1 s.m0.rest.length k1) := cell_of (q3)
  have x4 : w3.cell? ⟨w.heap.size, 4, none⟩ = some (.int .i64 s.m0.acc) := cell_of (q3)
  have x5 : w3.cell? ⟨w.heap.size, 5, none⟩ = some (.int .i64 s.m0.w) := cell_of (q3)
  have x6 : w3.cell? ⟨w.heap.size, 6, none⟩ = some (.int .i64 s.m0.r) := cell_of (q3)
  have x7 : w3.cell? ⟨w.heap.size, 7, none⟩ = some (.int .i64 mf.c) := cell_of (q3)
  have x8 : w3.cell? ⟨w.heap.size, 8, none⟩ = some (.slice a4 mf.q.length k4) := cell_of (q3)
  have x9 : w3.cell? ⟨w.heap.size, 9, none⟩ = some (.bool mf.busy) := cell_of (q3)
  have x10 : w3.cell? ⟨w.heap.size, 10, none⟩ = some (.slice a5 mf.rest.length k5) := cell_of (q3)
  have x11 : w3.cell? ⟨w.heap.size, 11, none⟩ = some (.int .i64 mf.acc) := cell_of (q3)
  have x12 : w3.cell? ⟨w.heap.size, 12, none⟩ = some (.int .i64 mf.w) := cell_of (q3)
  have x13 : w3.cell? ⟨w.heap.size, 13, none⟩ = some (.int .i64 mf.r) := cell_of (q3)
  have x14 : w3.cell? ⟨w.heap.size, 14, none⟩ = some (.bool s.x0) := cell_of (q3)
  have x15 : w3.cell? ⟨w.heap.size, 15, none⟩ = some (.bool s.x1) := cell_of (q3)
  have HB3 := Lib.hid (f3.keep HB2.out (by simp))
  have HF3 := Lib.hid f3
  clear f3 q3
  go_wp2_with (refine wpl_store rfl 44 _ _ rfl (w.heap.size + 1) #[.int .i64 s.m0.c, .slice a0 s.m0.q.length k0, .bool s.m0.busy, .slice a1 s.m0.rest.length k1, .int .i64 s.m0.acc, .int .i64 s.m0.w, .int .i64 s.m0.r, .int .i64 mf.c, .slice a4 mf.q.length k4, .bool mf.busy, .slice a5 mf.rest.length k5, .int .i64 mf.acc, .int .i64 mf.w, .int .i64 mf.r, .bool s.x0, .bool s.x1] (by rfl) (by rfl) _ _ HB3.out (by kernel_rfl) rfl (by simp [Value.oneCell']) ?_)
  intro w4 f4 q4
  clear x0 x1 x2 x3 x4 x5 x6 x7 x8 x9 x10 x11 x12 x13 x14 x15
  have y0 : w4.cell? ⟨(w.heap.size + 1), 0, none⟩ = some (.int .i64 s.m0.c) := cell_of (q4)
  have y1 : w4.cell? ⟨(w.heap.size + 1), 1, none⟩ = some (.slice a0 s.m0.q.length k0) := cell_of (q4)
  have y2 : w4.cell? ⟨(w.heap.size + 1), 2, none⟩ = some (.bool s.m0.busy) := cell_of (q4)
  have y3 : w4.cell? ⟨(w.heap.size + 1), 3, none⟩ = some (.slice a1 s.m0.rest.length k1) := cell_of (q4)
  have y4 : w4.cell? ⟨(w.heap.size + 1), 4, none⟩ = some (.int .i64 s.m0.acc) := cell_of (q4)
  have y5 : w4.cell? ⟨(w.heap.size + 1), 5, none⟩ = some (.int .i64 s.m0.w) := cell_of (q4)
  have y6 : w4.cell? ⟨(w.heap.size + 1), 6, none⟩ = some (.int .i64 s.m0.r) := cell_of (q4)
  have y7 : w4.cell? ⟨(w.heap.size + 1), 7, none⟩ = some (.int .i64 mf.c) := cell_of (q4)
  have y8 : w4.cell? ⟨(w.heap.size + 1), 8, none⟩ = some (.slice a4 mf.q.length k4) := cell_of (q4)
  have y9 : w4.cell? ⟨(w.heap.size + 1), 9, none⟩ = some (.bool mf.busy) := cell_of (q4)
  have y10 : w4.cell? ⟨(w.heap.size + 1), 10, none⟩ = some (.slice a5 mf.rest.length k5) := cell_of (q4)
  have y11 : w4.cell? ⟨(w.heap.size + 1), 11, none⟩ = some (.int .i64 mf.acc) := cell_of (q4)
  have y12 : w4.cell? ⟨(w.heap.size + 1), 12, none⟩ = some (.int .i64 mf.w) := cell_of (q4)
  have y13 : w4.cell? ⟨(w.heap.size + 1), 13, none⟩ = some (.int .i64 mf.r) := cell_of (q4)
  have y14 : w4.cell? ⟨(w.heap.size + 1), 14, none⟩ = some (.bool s.x0) := cell_of (q4)
  have y15 : w4.cell? ⟨(w.heap.size + 1), 15, none⟩ = some (.bool s.x1) := cell_of (q4)
  have HF4 := Lib.hid f4
  clear f4 q4
  go_wp2_with fail
  refine bodyPost_ret (v := .tuple #[.agg #[.int .i64 s.m0.c, .slice a0 s.m0.q.length k0, .bool s.m0.busy, .slice a1 s.m0.rest.length k1, .int .i64 s.m0.acc, .int .i64 s.m0.w, .int .i64 s.m0.r, .int .i64 mf.c, .slice a4 mf.q.length k4, .bool mf.busy, .slice a5 mf.rest.length k5, .int .i64 mf.acc, .int .i64 mf.w, .int .i64 mf.r, .bool s.x0, .bool s.x1], .int .i64 nn, .int .i64 ee]) (by simp [results, Try.results104, go_sem, y0, y1, y2, y3, y4, y5, y6, y7, y8, y9, y10, y11, y12, y13, y14, y15]) rfl ?_
  have F34 : Fr [w.heap.size, w.heap.size + 1] w2 w4 := HF3.out.trans HF4.out (fun x hx => .inl (by simp at hx; simp [hx])) (fun x hx => .inl (by simp at hx; simp [hx]))
  have F : Fr [] w w4 := HF2.out.trans F34 (by simp) (fun x hx => .inr (by simp at hx; omega))
  have KN : ∀ {v : Value} {l : List UInt8}, PartV w2 (fun x => (fun x => N x ∧ x < w.heap.size) x ∨ w0.heap.size ≤ x) v l → PartV w4 (fun x => N x ∨ w.heap.size ≤ x) v l := fun h => (h.keep F34 (fun x hx hn => by simp at hx; rcases hn with hn | hn; have := hn.2; omega; omega)).mono (fun x hx => hx.imp (fun h => h.1) (fun h => by omega))
  have KO : ∀ {v : Value} {l : List UInt8}, PartV w (fun x => N x ∧ x < w.heap.size) v l → PartV w4 (fun x => N x ∨ w.heap.size ≤ x) v l := fun h => (h.keep F (by simp)).mono (fun x hx => .inl hx.1)
  exact ⟨_, rfl, F, ⟨_, _, _, _, rfl, KO HP.out.1.1, KO HP.out.1.2, KN (HN.out.1), KN (HN.out.2)⟩⟩

end Go.Proofs.Ytdoamelhclnphaa

namespace Go.Proofs.Ytdoamelhclnphaa
open Go.RowKit
set_option maxRecDepth 100000

set_option maxHeartbeats 8000000 in
theorem r15_begin0 {w : World} {N : Nat → Prop} {v : Value} {s : DM} (h : Cv w N v s) {N' : Nat → Prop} {u : Value} {X : List UInt8} (hu : PartV w N' u X) (hX : X.length ≤ 1000000) (hok : SOk s.m0) :
    Calls Try.prog 103 #[v, .int .i64 0, u] w fun e w' => ∃ v', e = .returned (.tuple #[v', .int .i64 (beginM s.m0 X).err]) ∧ Fr [] w w' ∧ Cv w' (fun x => N x ∨ w.heap.size ≤ x) v' { s with m0 := (beginM s.m0 X).m } := by
  replace h := h.there
  obtain ⟨u0, u1, u2, u3, rfl, p0, p1, p2, p3⟩ := h
  obtain ⟨a0, k0, rfl, _⟩ := id p0
  obtain ⟨a1, k1, rfl, _⟩ := id p1
  obtain ⟨a2, k2, rfl, _⟩ := id p2
  obtain ⟨a3, k3, rfl, _⟩ := id p3
  obtain ⟨xa, xk, rfl, _⟩ := id hu
  obtain ⟨w0, hw0, f0, qa, qb⟩ : ∃ W, (w.alloc (.cells #[.int .i64 s.m0.c, .slice a0 s.m0.q.length k0, .bool s.m0.busy, .slice a1 s.m0.rest.length k1, .int .i64 s.m0.acc, .int .i64 s.m0.w, .int .i64 s.m0.r, .int .i64 s.m1.c, .slice a2 s.m1.q.length k2, .bool s.m1.busy, .slice a3 s.m1.rest.length k3, .int .i64 s.m1.acc, .int .i64 s.m1.w, .int .i64 s.m1.r, .bool s.x0, .bool s.x1] 44)).alloc (.cells #[.int .i64 0, .slice none 0 0, .bool false, .slice none 0 0, .int .i64 0, .int .i64 0, .int .i64 0, .int .i64 0, .slice none 0 0, .bool false, .slice none 0 0, .int .i64 0, .int .i64 0, .int .i64 0, .bool false, .bool false] 44) = W ∧ Fr [] w W ∧ W.heap[w.heap.size]? = some (.cells #[.int .i64 s.m0.c, .slice a0 s.m0.q.length k0, .bool s.m0.busy, .slice a1 s.m0.rest.length k1, .int .i64 s.m0.acc, .int .i64 s.m0.w, .int .i64 s.m0.r, .int .i64 s.m1.c, .slice a2 s.m1.q.length k2, .bool s.m1.busy, .slice a3 s.m1.rest.length k3, .int .i64 s.m1.acc, .int .i64 s.m1.w, .int .i64 s.m1.r, .bool s.x0, .bool s.x1] 44 (0, 0)) ∧ W.heap[w.heap.size + 1]? = some (.cells #[.int .i64 0, .slice none 0 0, .bool false, .slice none 0 0, .int .i64 0, .int .i64 0, .int .i64 0, .int .i64 0, .slice none 0 0, .bool false, .slice none 0 0, .int .i64 0, .int .i64 0, .int .i64 0, .bool false, .bool false] 44 (0, 0)) := ⟨_, rfl, ((Fr.refl _ _).alloc _).alloc _, keepA (newA rfl), newA (by simp)⟩
  have x0 : w0.cell? ⟨w.heap.size, 0, none⟩ = some (.int .i64 s.m0.c) := cell_of (qa)
  have x1 : w0.cell? ⟨w.heap.size, 1, none⟩ = some (.slice a0 s.m0.q.length k0) := cell_of (qa)
  have x2 : w0.cell? ⟨w.heap.size, 2, none⟩ = some (.bool s.m0.busy) := cell_of (qa)
  have x3 : w0.cell? ⟨w.heap.size, 3, none⟩ = some (.slice a1 s.m0.rest.length k1) := cell_of (qa)
  have x4 : w0.cell? ⟨w.heap.size, 4, none⟩ = some (.int .i64 s.m0.acc) := cell_of (qa)
  have x5 : w0.cell? ⟨w.heap.size, 5, none⟩ = some (.int .i64 s.m0.w) := cell_of (qa)
  have x6 : w0.cell? ⟨w.heap.size, 6, none⟩ = some (.int .i64 s.m0.r) := cell_of (qa)
  have x7 : w0.cell? ⟨w.heap.size, 7, none⟩ = some (.int .i64 s.m1.c) := cell_of (qa)
  have x8 : w0.cell? ⟨w.heap.size, 8, none⟩ = some (.slice a2 s.m1.q.length k2) := cell_of (qa)
  have x9 : w0.cell? ⟨w.heap.size, 9, none⟩ = some (.bool s.m1.busy) := cell_of (qa)
  have x10 : w0.cell? ⟨w.heap.size, 10, none⟩ = some (.slice a3 s.m1.rest.length k3) := cell_of (qa)
  have x11 : w0.cell? ⟨w.heap.size, 11, none⟩ = some (.int .i64 s.m1.acc) := cell_of (qa)
  have x12 : w0.cell? ⟨w.heap.size, 12, none⟩ = some (.int .i64 s.m1.w) := cell_of (qa)
  have x13 : w0.cell? ⟨w.heap.size, 13, none⟩ = some (.int .i64 s.m1.r) := cell_of (qa)
  have x14 : w0.cell? ⟨w.heap.size, 14, none⟩ = some (.bool s.x0) := cell_of (qa)
  have x15 : w0.cell? ⟨w.heap.size, 15, none⟩ = some (.bool s.x1) := cell_of (qa)
  have HF0 := Lib.hid f0
  have HQA := Lib.hid qa
  have HQB := Lib.hid qb
  have hz0 := lt_of_heap qb
  have HC := Lib.hid (r_begin (w := w0) (N := (fun x => N x ∧ x < w.heap.size)) (v := .agg #[.int .i64 s.m0.c, .slice a0 s.m0.q.length k0, .bool s.m0.busy, .slice a1 s.m0.rest.length k1, .int .i64 s.m0.acc, .int .i64 s.m0.w, .int .i64 s.m0.r]) (m := s.m0) ⟨_, _, rfl, p0.keep f0 (by simp), p1.keep f0 (by simp)⟩ (hu.keep f0 (by simp)) ⟨by have := hok.q1; have := hok.c1; omega, hX⟩)
  generalize (beginM s.m0 X).m = mf at *
  generalize (beginM s.m0 X).err = ee at *
  have HP := Lib.hid (And.intro (And.intro p0 p1) (And.intro p2 p3))
  clear hu hX f0 qa qb p0 p1 p2 p3 hok
  go_enter Try.func103, Try.ntmps103
  go_wp2_with fail
  refine (r15_end _ _).mono ?_
  rintro e w' ⟨rfl, rfl⟩
  clear hw0
  go_wp2_with fail
  refine HC.out.mono ?_
  rintro e w1 ⟨v', rfl, f1, u4, u5, rfl, hp4, hp5⟩
  obtain ⟨a4, k4, rfl, _⟩ := id hp4
  obtain ⟨a5, k5, rfl, _⟩ := id hp5
  obtain ⟨w2, hw2, f2, q2⟩ : ∃ W, w1.alloc (.cells #[.int .i64 mf.c, .slice a4 mf.q.length k4, .bool mf.busy, .slice a5 mf.rest.length k5, .int .i64 mf.acc, .int .i64 mf.w, .int .i64 mf.r] 41) = W ∧ Fr [] w1 W ∧ W.heap[w1.heap.size]? = some (.cells #[.int .i64 mf.c, .slice a4 mf.q.length k4, .bool mf.busy, .slice a5 mf.rest.length k5, .int .i64 mf.acc, .int .i64 mf.w, .int .i64 mf.r] 41 (0, 0)) := ⟨_, rfl, (Fr.refl _ _).alloc _, newA rfl⟩
  have HA2 := Lib.hid (f2.keep (f1.keep HQA.out (by simp)) (by simp))
  have HB2 := Lib.hid (f2.keep (f1.keep HQB.out (by simp)) (by simp))
  have HF2 := Lib.hid (HF0.out.then0 (f1.then0 f2))
  have z1 := f1.size
  have z2 := f2.size
  have HN := Lib.hid (And.intro (hp4.keep f2 (by simp)) (hp5.keep f2 (by simp)))
  clear x0 x1 x2 x3 x4 x5 x6 x7 x8 x9 x10 x11 x12 x13 x14 x15 hp4 hp5 HC f1 f2
  have y0 : w2.cell? ⟨w1.heap.size, 0, none⟩ = some (.int .i64 mf.c) := cell_of (q2)
  have y1 : w2.cell? ⟨w1.heap.size, 1, none⟩ = some (.slice a4 mf.q.length k4) := cell_of (q2)
  have y2 : w2.cell? ⟨w1.heap.size, 2, none⟩ = some (.bool mf.busy) := cell_of (q2)
  have y3 : w2.cell? ⟨w1.heap.size, 3, none⟩ = some (.slice a5 mf.rest.length k5) := cell_of (q2)
  have y4 : w2.cell? ⟨w1.heap.size, 4, none⟩ = some (.int .i64 mf.acc) := cell_of (q2)
  have y5 : w2.cell? ⟨w1.heap.size, 5, none⟩ = some (.int .i64 mf.w) := cell_of (q2)
  have y6 : w2.cell? ⟨w1.heap.size, 6, none⟩ = some (.int .i64 mf.r) := cell_of (q2)
  clear q2
  go_wp2_with (refine wpl_store_sub rfl 41 _ _ rfl w.heap.size 0 #[.int .i64 mf.c, .slice a4 mf.q.length k4, .bool mf.busy, .slice a5 mf.rest.length k5, .int .i64 mf.acc, .int .i64 mf.w, .int .i64 mf.r] (by rfl) (by rfl) _ _ #[.int .i64 mf.c, .slice a4 mf.q.length k4, .bool mf.busy, .slice a5 mf.rest.length k5, .int .i64 mf.acc, .int .i64 mf.w, .int .i64 mf.r, .int .i64 s.m1.c, .slice a2 s.m1.q.length k2, .bool s.m1.busy, .slice a3 s.m1.rest.length k3, .int .i64 s.m1.acc, .int .i64 s.m1.w, .int .i64 s.m1.r, .bool s.x0, .bool s.x1] HA2.out (by kernel_rfl) (by simp) (by simp [Value.oneCell']) (by rfl) ?_)
  intro w3 f3 q3
  clear hw2 y0 y1 y2 y3 y4 y5 y6
  have x0 : w3.cell? ⟨w.heap.size, 0, none⟩ = some (.int .i64 mf.c) := cell_of (q3)
  have x1 : w3.cell? ⟨w.heap.size, 1, none⟩ = some (.slice a4 mf.q.length k4) := cell_of (q3)
  have x2 : w3.cell? ⟨w.heap.size, 2, none⟩ = some (.bool mf.busy) := cell_of (q3)
  have x3 : w3.cell? ⟨w.heap.size, 3, none⟩ = some (.slice a5 mf.rest.length k5) := cell_of (q3)
  have x4 : w3.cell? ⟨w.heap.size, 4, none⟩ = some (.int .i64 mf.acc) := cell_of (q3)
  have x5 : w3.cell? ⟨w.heap.size, 5, none⟩ = some (.int .i64 mf.w) := cell_of (q3)
  have x6 : w3.cell? ⟨w.heap.size, 6, none⟩ = some (.int .i64 mf.r) := cell_of (q3)
  have x7 : w3.cell? ⟨w.heap.size, 7, none⟩ = some (.int .i64 s.m1.c) := cell_of (q3)
  have x8 : w3.cell? ⟨w.heap.size, 8, none⟩ = some (.slice a2 s.m1.q.length k2) := cell_of (q3)
  have x9 : w3.cell? ⟨w.heap.size, 9, none⟩ = some (.bool s.m1.busy) := cell_of (q3)
  have x10 : w3.cell? ⟨w.heap.size, 10, none⟩ = some (.slice a3 s.m1.rest.length k3) := cell_of (q3)
  have x11 : w3.cell? ⟨w.heap.size, 11, none⟩ = some (.int .i64 s.m1.acc) := cell_of (q3)
  have x12 : w3.cell? ⟨w.heap.size, 12, none⟩ = some (.int .i64 s.m1.w) := cell_of (q3)
  have x13 : w3.cell? ⟨w.heap.size, 13, none⟩ = some (.int .i64 s.m1.r) := cell_of (q3)
  have x14 : w3.cell? ⟨w.heap.size, 14, none⟩ = some (.bool s.x0) := cell_of (q3)
  have x15 : w3.cell? ⟨w.heap.size, 15, none⟩ = some (.bool s.x1) := cell_of (q3)
  have HB3 := Lib.hid (f3.keep HB2.out (by simp))
  have HF3 := Lib.hid f3
  clear f3 q3
  go_wp2_with (refine wpl_store rfl 44 _ _ rfl (w.heap.size + 1) #[.int .i64 mf.c, .slice a4 mf.q.length k4, .bool mf.busy, .slice a5 mf.rest.length k5, .int .i64 mf.acc, .int .i64 mf.w, .int .i64 mf.r, .int .i64 s.m1.c, .slice a2 s.m1.q.length k2, .bool s.m1.busy, .slice a3 s.m1.rest.length k3, .int .i64 s.m1.acc, .int .i64 s.m1.w, .int .i64 s.m1.r, .bool s.x0, .bool s.x1] (by rfl) (by rfl) _ _ HB3.out (by kernel_rfl) rfl (by simp [Value.oneCell']) ?_)
  intro w4 f4 q4
  clear x0 x1 x2 x3 x4 x5 x6 x7 x8 x9 x10 x11 x12 x13 x14 x15
  have y0 : w4.cell? ⟨(w.heap.size + 1), 0, none⟩ = some (.int .i64 mf.c) := cell_of (q4)
  have y1 : w4.cell? ⟨(w.heap.size + 1), 1, none⟩ = some (.slice a4 mf.q.length k4) := cell_of (q4)
  have y2 : w4.cell? ⟨(w.heap.size + 1), 2, none⟩ = some (.bool mf.busy) := cell_of (q4)
  have y3 : w4.cell? ⟨(w.heap.size + 1), 3, none⟩ = some (.slice a5 mf.rest.length k5) := cell_of (q4)
  have y4 : w4.cell? ⟨(w.heap.size + 1), 4, none⟩ = some (.int .i64 mf.acc) := cell_of (q4)
  have y5 : w4.cell? ⟨(w.heap.size + 1), 5, none⟩ = some (.int .i64 mf.w) := cell_of (q4)
  have y6 : w4.cell? ⟨(w.heap.size + 1), 6, none⟩ = some (.int .i64 mf.r) := cell_of (q4)
  have y7 : w4.cell? ⟨(w.heap.size + 1), 7, none⟩ = some (.int .i64 s.m1.c) := cell_of (q4)
  have y8 : w4.cell? ⟨(w.heap.size + 1), 8, none⟩ = some (.slice a2 s.m1.q.length k2) := cell_of (q4)
  have y9 : w4.cell? ⟨(w.heap.size + 1), 9, none⟩ = some (.bool s.m1.busy) := cell_of (q4)
  have y10 : w4.cell? ⟨(w.heap.size + 1), 10, none⟩ = some (.slice a3 s.m1.rest.length k3) := cell_of (q4)
  have y11 : w4.cell? ⟨(w.heap.size + 1), 11, none⟩ = some (.int .i64 s.m1.acc) := cell_of (q4)
  have y12 : w4.cell? ⟨(w.heap.size + 1), 12, none⟩ = some (.int .i64 s.m1.w) := cell_of (q4)
  have y13 : w4.cell? ⟨(w.heap.size + 1), 13, none⟩ = some (.int .i64 s.m1.r) := cell_of (q4)
  have y14 : w4.cell? ⟨(w.heap.size + 1), 14, none⟩ = some (.bool s.x0) := cell_of (q4)
  have y15 : w4.cell? ⟨(w.heap.size + 1), 15, none⟩ = some (.bool s.x1) := cell_of (q4)
  have HF4 := Lib.hid f4
  clear f4 q4
  go_wp2_with fail
  refine bodyPost_ret (v := .tuple #[.agg #[.int .i64 mf.c, .slice a4 mf.q.length k4, .bool mf.busy, .slice a5 mf.rest.length k5, .int .i64 mf.acc, .int .i64 mf.w, .int .i64 mf.r, .int .i64 s.m1.c, .slice a2 s.m1.q.length k2, .bool s.m1.busy, .slice a3 s.m1.rest.length k3, .int .i64 s.m1.acc, .int .i64 s.m1.w, .int .i64 s.m1.r, .bool s.x0, .bool s.x1], .int .i64 ee]) (by simp [results, Try.results103, go_sem, y0, y1, y2, y3, y4, y5, y6, y7, y8, y9, y10, y11, y12, y13, y14, y15]) rfl ?_
  have F34 : Fr [w.heap.size, w.heap.size + 1] w2 w4 := HF3.out.trans HF4.out (fun x hx => .inl (by simp at hx; simp [hx])) (fun x hx => .inl (by simp at hx; simp [hx]))
  have F : Fr [] w w4 := HF2.out.trans F34 (by simp) (fun x hx => .inr (by simp at hx; omega))
  have KN : ∀ {v : Value} {l : List UInt8}, PartV w2 (fun x => (fun x => N x ∧ x < w.heap.size) x ∨ w0.heap.size ≤ x) v l → PartV w4 (fun x => N x ∨ w.heap.size ≤ x) v l := fun h => (h.keep F34 (fun x hx hn => by simp at hx; rcases hn with hn | hn; have := hn.2; omega; omega)).mono (fun x hx => hx.imp (fun h => h.1) (fun h => by omega))
  have KO : ∀ {v : Value} {l : List UInt8}, PartV w (fun x => N x ∧ x < w.heap.size) v l → PartV w4 (fun x => N x ∨ w.heap.size ≤ x) v l := fun h => (h.keep F (by simp)).mono (fun x hx => .inl hx.1)
  exact ⟨_, rfl, F, ⟨_, _, _, _, rfl, KN (HN.out.1), KN (HN.out.2), KO HP.out.2.1, KO HP.out.2.2⟩⟩
set_option maxHeartbeats 8000000 in
theorem r15_read0 {w : World} {N : Nat → Prop} {v : Value} {s : DM} (h : Cv w N v s) (n : Int) (hok : SOk s.m1) :
    Calls Try.prog 106 #[v, .int .i64 0, .int .i64 n] w fun e w' => ∃ v' u, e = .returned (.tuple #[v', u, .int .i64 (readM s.m1 n).err]) ∧ Fr [] w w' ∧ Cv w' (fun x => N x ∨ w.heap.size ≤ x) v' { s with m1 := (readM s.m1 n).m } ∧ PartV w' (fun x => w.heap.size ≤ x) u (readM s.m1 n).out := by
  replace h := h.there
  obtain ⟨u0, u1, u2, u3, rfl, p0, p1, p2, p3⟩ := h
  obtain ⟨a0, k0, rfl, _⟩ := id p0
  obtain ⟨a1, k1, rfl, _⟩ := id p1
  obtain ⟨a2, k2, rfl, _⟩ := id p2
  obtain ⟨a3, k3, rfl, _⟩ := id p3
  obtain ⟨w0, hw0, f0, qa, qb⟩ : ∃ W, (w.alloc (.cells #[.int .i64 s.m0.c, .slice a0 s.m0.q.length k0, .bool s.m0.busy, .slice a1 s.m0.rest.length k1, .int .i64 s.m0.acc, .int .i64 s.m0.w, .int .i64 s.m0.r, .int .i64 s.m1.c, .slice a2 s.m1.q.length k2, .bool s.m1.busy, .slice a3 s.m1.rest.length k3, .int .i64 s.m1.acc, .int .i64 s.m1.w, .int .i64 s.m1.r, .bool s.x0, .bool s.x1] 44)).alloc (.cells #[.int .i64 0, .slice none 0 0, .bool false, .slice none 0 0, .int .i64 0, .int .i64 0, .int .i64 0, .int .i64 0, .slice none 0 0, .bool false, .slice none 0 0, .int .i64 0, .int .i64 0, .int .i64 0, .bool false, .bool false] 44) = W ∧ Fr [] w W ∧ W.heap[w.heap.size]? = some (.cells #[.int .i64 s.m0.c, .slice a0 s.m0.q.length k0, .bool s.m0.busy, .slice a1 s.m0.rest.length k1, .int .i64 s.m0.acc, .int .i64 s.m0.w, .int .i64 s.m0.r, .int .i64 s.m1.c, .slice a2 s.m1.q.length k2, .bool s.m1.busy, .slice a3 s.m1.rest.length k3, .int .i64 s.m1.acc, .int .i64 s.m1.w, .int .i64 s.m1.r, .bool s.x0, .bool s.x1] 44 (0, 0)) ∧ W.heap[w.heap.size + 1]? = some (.cells #[.int .i64 0, .slice none 0 0, .bool false, .slice none 0 0, .int .i64 0, .int .i64 0, .int .i64 0, .int .i64 0, .slice none 0 0, .bool false, .slice none 0 0, .int .i64 0, .int .i64 0, .int .i64 0, .bool false, .bool false] 44 (0, 0)) := ⟨_, rfl, ((Fr.refl _ _).alloc _).alloc _, keepA (newA rfl), newA (by simp)⟩
  have x0 : w0.cell? ⟨w.heap.size, 0, none⟩ = some (.int .i64 s.m0.c) := cell_of (qa)
  have x1 : w0.cell? ⟨w.heap.size, 1, none⟩ = some (.slice a0 s.m0.q.length k0) := cell_of (qa)
  have x2 : w0.cell? ⟨w.heap.size, 2, none⟩ = some (.bool s.m0.busy) := cell_of (qa)
  have x3 : w0.cell? ⟨w.heap.size, 3, none⟩ = some (.slice a1 s.m0.rest.length k1) := cell_of (qa)
  have x4 : w0.cell? ⟨w.heap.size, 4, none⟩ = some (.int .i64 s.m0.acc) := cell_of (qa)
  have x5 : w0.cell? ⟨w.heap.size, 5, none⟩ = some (.int .i64 s.m0.w) := cell_of (qa)
  have x6 : w0.cell? ⟨w.heap.size, 6, none⟩ = some (.int .i64 s.m0.r) := cell_of (qa)
  have x7 : w0.cell? ⟨w.heap.size, 7, none⟩ = some (.int .i64 s.m1.c) := cell_of (qa)
  have x8 : w0.cell? ⟨w.heap.size, 8, none⟩ = some (.slice a2 s.m1.q.length k2) := cell_of (qa)
  have x9 : w0.cell? ⟨w.heap.size, 9, none⟩ = some (.bool s.m1.busy) := cell_of (qa)
  have x10 : w0.cell? ⟨w.heap.size, 10, none⟩ = some (.slice a3 s.m1.rest.length k3) := cell_of (qa)
  have x11 : w0.cell? ⟨w.heap.size, 11, none⟩ = some (.int .i64 s.m1.acc) := cell_of (qa)
  have x12 : w0.cell? ⟨w.heap.size, 12, none⟩ = some (.int .i64 s.m1.w) := cell_of (qa)
  have x13 : w0.cell? ⟨w.heap.size, 13, none⟩ = some (.int .i64 s.m1.r) := cell_of (qa)
  have x14 : w0.cell? ⟨w.heap.size, 14, none⟩ = some (.bool s.x0) := cell_of (qa)
  have x15 : w0.cell? ⟨w.heap.size, 15, none⟩ = some (.bool s.x1) := cell_of (qa)
  have HF0 := Lib.hid f0
  have HQA := Lib.hid qa
  have HQB := Lib.hid qb
  have hz0 := lt_of_heap qb
  have HC := Lib.hid (r_read (w := w0) (N := (fun x => N x ∧ x < w.heap.size)) (v := .agg #[.int .i64 s.m1.c, .slice a2 s.m1.q.length k2, .bool s.m1.busy, .slice a3 s.m1.rest.length k3, .int .i64 s.m1.acc, .int .i64 s.m1.w, .int .i64 s.m1.r]) (m := s.m1) ⟨_, _, rfl, p2.keep f0 (by simp), p3.keep f0 (by simp)⟩ n ⟨by have := hok.q1; have := hok.c1; omega, by have := hok.sum; have := hok.a0; omega⟩ ⟨hok.a0, by have := hok.sum; omega⟩)
  generalize (readM s.m1 n).m = mf at *
  generalize (readM s.m1 n).out = oo at *
  generalize (readM s.m1 n).err = ee at *
  have HP := Lib.hid (And.intro (And.intro p0 p1) (And.intro p2 p3))
  clear f0 qa qb p0 p1 p2 p3 hok
  go_enter Try.func106, Try.ntmps106
  go_wp2_with fail
  refine (r15_end _ _).mono ?_
  rintro e w' ⟨rfl, rfl⟩
  clear hw0
  go_wp2_with fail
  refine HC.out.mono ?_
  rintro e w1 ⟨v', ub, rfl, f1, ⟨u4, u5, rfl, hp4, hp5⟩, hpu⟩
  obtain ⟨a4, k4, rfl, _⟩ := id hp4
  obtain ⟨a5, k5, rfl, _⟩ := id hp5
  obtain ⟨w2, hw2, f2, q2⟩ : ∃ W, w1.alloc (.cells #[.int .i64 mf.c, .slice a4 mf.q.length k4, .bool mf.busy, .slice a5 mf.rest.length k5, .int .i64 mf.acc, .int .i64 mf.w, .int .i64 mf.r] 41) = W ∧ Fr [] w1 W ∧ W.heap[w1.heap.size]? = some (.cells #[.int .i64 mf.c, .slice a4 mf.q.length k4, .bool mf.busy, .slice a5 mf.rest.length k5, .int .i64 mf.acc, .int .i64 mf.w, .int .i64 mf.r] 41 (0, 0)) := ⟨_, rfl, (Fr.refl _ _).alloc _, newA rfl⟩
  have HA2 := Lib.hid (f2.keep (f1.keep HQA.out (by simp)) (by simp))
  have HB2 := Lib.hid (f2.keep (f1.keep HQB.out (by simp)) (by simp))
  have HF2 := Lib.hid (HF0.out.then0 (f1.then0 f2))
  have HU := Lib.hid (hpu.keep f2 (by simp))
  clear hpu
  have z1 := f1.size
  have z2 := f2.size
  have HN := Lib.hid (And.intro (hp4.keep f2 (by simp)) (hp5.keep f2 (by simp)))
  clear x0 x1 x2 x3 x4 x5 x6 x7 x8 x9 x10 x11 x12 x13 x14 x15 hp4 hp5 HC f1 f2
  have y0 : w2.cell? ⟨w1.heap.size, 0, none⟩ = some (.int .i64 mf.c) := cell_of (q2)
  have y1 : w2.cell? ⟨w1.heap.size, 1, none⟩ = some (.slice a4 mf.q.length k4) := cell_of (q2)
  have y2 : w2.cell? ⟨w1.heap.size, 2, none⟩ = some (.bool mf.busy) := cell_of (q2)
  have y3 : w2.cell? ⟨w1.heap.size, 3, none⟩ = some (.slice a5 mf.rest.length k5) := cell_of (q2)
  have y4 : w2.cell? ⟨w1.heap.size, 4, none⟩ = some (.int .i64 mf.acc) := cell_of (q2)
  have y5 : w2.cell? ⟨w1.heap.size, 5, none⟩ = some (.int .i64 mf.w) := cell_of (q2)
  have y6 : w2.cell? ⟨w1.heap.size, 6, none⟩ = some (.int .i64 mf.r) := cell_of (q2)
  clear q2
  go_wp2_with (refine wpl_store_sub rfl 41 _ _ rfl w.heap.size 7 #[.int .i64 mf.c, .slice a4 mf.q.length k4, .bool mf.busy, .slice a5 mf.rest.length k5, .int .i64 mf.acc, .int .i64 mf.w, .int .i64 mf.r] (by rfl) (by rfl) _ _ #[.int .i64 s.m0.c, .slice a0 s.m0.q.length k0, .bool s.m0.busy, .slice a1 s.m0.rest.length k1, .int .i64 s.m0.acc, .int .i64 s.m0.w, .int .i64 s.m0.r, .int .i64 mf.c, .slice a4 mf.q.length k4, .bool mf.busy, .slice a5 mf.rest.length k5, .int .i64 mf.acc, .int .i64 mf.w, .int .i64 mf.r, .bool s.x0, .bool s.x1] HA2.out (by kernel_rfl) (by simp) (by simp [Value.oneCell']) (by rfl) ?_)
  intro w3 f3 q3
  clear hw2 y0 y1 y2 y3 y4 y5 y6
  have x0 : w3.cell? ⟨w.heap.size, 0, none⟩ = some (.int .i64 s.m0.c) := cell_of (q3)
  have x1 : w3.cell? ⟨w.heap.size, 1, none⟩ = some (.slice a0 s.m0.q.length k0) := cell_of (q3)
  have x2 : w3.cell? ⟨w.heap.size, 2, none⟩ = some (.bool s.m0.busy) := cell_of (q3)
  have x3 : w3.cell? ⟨w.heap.size, 3, none⟩ = some (.slice a1 s.m0.rest.length k1) := cell_of (q3)
  have x4 : w3.cell? ⟨w.heap.size, 4, none⟩ = some (.int .i64 s.m0.acc) := cell_of (q3)
  have x5 : w3.cell? ⟨w.heap.size, 5, none⟩ = some (.int .i64 s.m0.w) := cell_of (q3)
  have x6 : w3.cell? ⟨w.heap.size, 6, none⟩ = some (.int .i64 s.m0.r) := cell_of (q3)
  have x7 : w3.cell? ⟨w.heap.size, 7, none⟩ = some (.int .i64 mf.c) := cell_of (q3)
  have x8 : w3.cell? ⟨w.heap.size, 8, none⟩ = some (.slice a4 mf.q.length k4) := cell_of (q3)
  have x9 : w3.cell? ⟨w.heap.size, 9, none⟩ = some (.bool mf.busy) := cell_of (q3)
  have x10 : w3.cell? ⟨w.heap.size, 10, none⟩ = some (.slice a5 mf.rest.length k5) := cell_of (q3)
  have x11 : w3.cell? ⟨w.heap.size, 11, none⟩ = some (.int .i64 mf.acc) := cell_of (q3)
  have x12 : w3.cell? ⟨w.heap.size, 12, none⟩ = some (.int .i64 mf.w) := cell_of (q3)
  have x13 : w3.cell? ⟨w.heap.size, 13, none⟩ = some (.int .i64 mf.r) := cell_of (q3)
  have x14 : w3.cell? ⟨w.heap.size, 14, none⟩ = some (.bool s.x0) := cell_of (q3)
  have x15 : w3.cell? ⟨w.heap.size, 15, none⟩ = some (.bool s.x1) := cell_of (q3)
  have HB3 := Lib.hid (f3.keep HB2.out (by simp))
  have HF3 := Lib.hid f3
  clear f3 q3
  go_wp2_with (refine wpl_store rfl 44 _ _ rfl (w.heap.size + 1) #[.int .i64 s.m0.c, .slice a0 s.m0.q.length k0, .bool s.m0.busy, .slice a1 s.m0.rest.length k1, .int .i64 s.m0.acc, .int .i64 s.m0.w, .int .i64 s.m0.r, .int .i64 mf.c, .slice a4 mf.q.length k4, .bool mf.busy, .slice a5 mf.rest.length k5, .int .i64 mf.acc, .int .i64 mf.w, .int .i64 mf.r, .bool s.x0, .bool s.x1] (by rfl) (by rfl) _ _ HB3.out (by kernel_rfl) rfl (by simp [Value.oneCell']) ?_)
  intro w4 f4 q4
  clear x0 x1 x2 x3 x4 x5 x6 x7 x8 x9 x10 x11 x12 x13 x14 x15
  have y0 : w4.cell? ⟨(w.heap.size + 1), 0, none⟩ = some (.int .i64 s.m0.c) := cell_of (q4)
  have y1 : w4.cell? ⟨(w.heap.size + 1), 1, none⟩ = some (.slice a0 s.m0.q.length k0) := cell_of (q4)
  have y2 : w4.cell? ⟨(w.heap.size + 1), 2, none⟩ = some (.bool s.m0.busy) := cell_of (q4)
  have y3 : w4.cell? ⟨(w.heap.size + 1), 3, none⟩ = some (.slice a1 s.m0.rest.length k1) := cell_of (q4)
  have y4 : w4.cell? ⟨(w.heap.size + 1), 4, none⟩ = some (.int .i64 s.m0.acc) := cell_of (q4)
  have y5 : w4.cell? ⟨(w.heap.size + 1), 5, none⟩ = some (.int .i64 s.m0.w) := cell_of (q4)
  have y6 : w4.cell? ⟨(w.heap.size + 1), 6, none⟩ = some (.int .i64 s.m0.r) := cell_of (q4)
  have y7 : w4.cell? ⟨(w.heap.size + 1), 7, none⟩ = some (.int .i64 mf.c) := cell_of (q4)
  have y8 : w4.cell? ⟨(w.heap.size + 1), 8, none⟩ = some (.slice a4 mf.q.length k4) := cell_of (q4)
  have y9 : w4.cell? ⟨(w.heap.size + 1), 9, none⟩ = some (.bool mf.busy) := cell_of (q4)
  have y10 : w4.cell? ⟨(w.heap.size + 1), 10, none⟩ = some (.slice a5 mf.rest.length k5) := cell_of (q4)
  have y11 : w4.cell? ⟨(w.heap.size + 1), 11, none⟩ = some (.int .i64 mf.acc) := cell_of (q4)
  have y12 : w4.cell? ⟨(w.heap.size + 1), 12, none⟩ = some (.int .i64 mf.w) := cell_of (q4)
  have y13 : w4.cell? ⟨(w.heap.size + 1), 13, none⟩ = some (.int .i64 mf.r) := cell_of (q4)
  have y14 : w4.cell? ⟨(w.heap.size + 1), 14, none⟩ = some (.bool s.x0) := cell_of (q4)
  have y15 : w4.cell? ⟨(w.heap.size + 1), 15, none⟩ = some (.bool s.x1) := cell_of (q4)
  have HF4 := Lib.hid f4
  clear f4 q4
  go_wp2_with fail
  refine bodyPost_ret (v := .tuple #[.agg #[.int .i64 s.m0.c, .slice a0 s.m0.q.length k0, .bool s.m0.busy, .slice a1 s.m0.rest.length k1, .int .i64 s.m0.acc, .int .i64 s.m0.w, .int .i64 s.m0.r, .int .i64 mf.c, .slice a4 mf.q.length k4, .bool mf.busy, .slice a5 mf.rest.length k5, .int .i64 mf.acc, .int .i64 mf.w, .int .i64 mf.r, .bool s.x0, .bool s.x1], ub, .int .i64 ee]) (by simp [results, Try.results106, go_sem, y0, y1, y2, y3, y4, y5, y6, y7, y8, y9, y10, y11, y12, y13, y14, y15]) rfl ?_
  have F34 : Fr [w.heap.size, w.heap.size + 1] w2 w4 := HF3.out.trans HF4.out (fun x hx => .inl (by simp at hx; simp [hx])) (fun x hx => .inl (by simp at hx; simp [hx]))
  have F : Fr [] w w4 := HF2.out.trans F34 (by simp) (fun x hx => .inr (by simp at hx; omega))
  have KN : ∀ {v : Value} {l : List UInt8}, PartV w2 (fun x => (fun x => N x ∧ x < w.heap.size) x ∨ w0.heap.size ≤ x) v l → PartV w4 (fun x => N x ∨ w.heap.size ≤ x) v l := fun h => (h.keep F34 (fun x hx hn => by simp at hx; rcases hn with hn | hn; have := hn.2; omega; omega)).mono (fun x hx => hx.imp (fun h => h.1) (fun h => by omega))
  have KO : ∀ {v : Value} {l : List UInt8}, PartV w (fun x => N x ∧ x < w.heap.size) v l → PartV w4 (fun x => N x ∨ w.heap.size ≤ x) v l := fun h => (h.keep F (by simp)).mono (fun x hx => .inl hx.1)
  exact ⟨_, _, rfl, F, ⟨_, _, _, _, rfl, KO HP.out.1.1, KO HP.out.1.2, KN (HN.out.1), KN (HN.out.2)⟩, (((HU.out.keep F34 (fun x hx hn => by simp at hx; have hn' : w0.heap.size ≤ x := hn; omega))).mono (fun x hx => (show w.heap.size ≤ x from by have hn' : w0.heap.size ≤ x := hx; omega)))⟩
set_option maxHeartbeats 8000000 in
theorem r15_begin1 {w : World} {N : Nat → Prop} {v : Value} {s : DM} (h : Cv w N v s) {N' : Nat → Prop} {u : Value} {X : List UInt8} (hu : PartV w N' u X) (hX : X.length ≤ 1000000) (hok : SOk s.m1) :
    Calls Try.prog 103 #[v, .int .i64 1, u] w fun e w' => ∃ v', e = .returned (.tuple #[v', .int .i64 (beginM s.m1 X).err]) ∧ Fr [] w w' ∧ Cv w' (fun x => N x ∨ w.heap.size ≤ x) v' { s with m1 := (beginM s.m1 X).m } := by
  replace h := h.there
  obtain ⟨u0, u1, u2, u3, rfl, p0, p1, p2, p3⟩ := h
  obtain ⟨a0, k0, rfl, _⟩ := id p0
  obtain ⟨a1, k1, rfl, _⟩ := id p1
  obtain ⟨a2, k2, rfl, _⟩ := id p2
  obtain ⟨a3, k3, rfl, _⟩ := id p3
  obtain ⟨xa, xk, rfl, _⟩ := id hu
  obtain ⟨w0, hw0, f0, qa, qb⟩ : ∃ W, (w.alloc (.cells #[.int .i64 s.m0.c, .slice a0 s.m0.q.length k0, .bool s.m0.busy, .slice a1 s.m0.rest.length k1, .int .i64 s.m0.acc, .int .i64 s.m0.w, .int .i64 s.m0.r, .int .i64 s.m1.c, .slice a2 s.m1.q.length k2, .bool s.m1.busy, .slice a3 s.m1.rest.length k3, .int .i64 s.m1.acc, .int .i64 s.m1.w, .int .i64 s.m1.r, .bool s.x0, .bool s.x1] 44)).alloc (.cells #[.int .i64 0, .slice none 0 0, .bool false, .slice none 0 0, .int .i64 0, .int .i64 0, .int .i64 0, .int .i64 0, .slice none 0 0, .bool false, .slice none 0 0, .int .i64 0, .int .i64 0, .int .i64 0, .bool false, .bool false] 44) = W ∧ Fr [] w W ∧ W.heap[w.heap.size]? = some (.cells #[.int .i64 s.m0.c, .slice a0 s.m0.q.length k0, .bool s.m0.busy, .slice a1 s.m0.rest.length k1, .int .i64 s.m0.acc, .int .i64 s.m0.w, .int .i64 s.m0.r, .int .i64 s.m1.c, .slice a2 s.m1.q.length k2, .bool s.m1.busy, .slice a3 s.m1.rest.length k3, .int .i64 s.m1.acc, .int .i64 s.m1.w, .int .i64 s.m1.r, .bool s.x0, .bool s.x1] 44 (0, 0)) ∧ W.heap[w.heap.size + 1]? = some (.cells #[.int .i64 0, .slice none 0 0, .bool false, .slice none 0 0, .int .i64 0, .int .i64 0, .int .i64 0, .int .i64 0, .slice none 0 0, .bool false, .slice none 0 0, .int .i64 0, .int .i64 0, .int .i64 0, .bool false, .bool false] 44 (0, 0)) := ⟨_, rfl, ((Fr.refl _ _).alloc _).alloc _, keepA (newA rfl), newA (by simp)⟩
  have x0 : w0.cell? ⟨w.heap.size, 0, none⟩ = some (.int .i64 s.m0.c) := cell_of (qa)
  have x1 : w0.cell? ⟨w.heap.size, 1, none⟩ = some (.slice a0 s.m0.q.length k0) := cell_of (qa)
  have x2 : w0.cell? ⟨w.heap.size, 2, none⟩ = some (.bool s.m0.busy) := cell_of (qa)
  have x3 : w0.cell? ⟨w.heap.size, 3, none⟩ = some (.slice a1 s.m0.rest.length k1) := cell_of (qa)
  have x4 : w0.cell? ⟨w.heap.size, 4, none⟩ = some (.int .i64 s.m0.acc) := cell_of (qa)
  have x5 : w0.cell? ⟨w.heap.size, 5, none⟩ = some (.int .i64 s.m0.w) := cell_of (qa)
  have x6 : w0.cell? ⟨w.heap.size, 6, none⟩ = some (.int .i64 s.m0.r) := cell_of (qa)
  have x7 : w0.cell? ⟨w.heap.size, 7, none⟩ = some (.int .i64 s.m1.c) := cell_of (qa)
  have x8 : w0.cell? ⟨w.heap.size, 8, none⟩ = some (.slice a2 s.m1.q.length k2) := cell_of (qa)
  have x9 : w0.cell? ⟨w.heap.size, 9, none⟩ = some (.bool s.m1.busy) := cell_of (qa)
  have x10 : w0.cell? ⟨w.heap.size, 10, none⟩ = some (.slice a3 s.m1.rest.length k3) := cell_of (qa)
  have x11 : w0.cell? ⟨w.heap.size, 11, none⟩ = some (.int .i64 s.m1.acc) := cell_of (qa)
  have x12 : w0.cell? ⟨w.heap.size, 12, none⟩ = some (.int .i64 s.m1.w) := cell_of (qa)
  have x13 : w0.cell? ⟨w.heap.size, 13, none⟩ = some (.int .i64 s.m1.r) := cell_of (qa)
  have x14 : w0.cell? ⟨w.heap.size, 14, none⟩ = some (.bool s.x0) := cell_of (qa)
  have x15 : w0.cell? ⟨w.heap.size, 15, none⟩ = some (.bool s.x1) := cell_of (qa)
  have HF0 := Lib.hid f0
  have HQA := Lib.hid qa
  have HQB := Lib.hid qb
  have hz0 := lt_of_heap qb
  have HC := Lib.hid (r_begin (w := w0) (N := (fun x => N x ∧ x < w.heap.size)) (v := .agg #[.int .i64 s.m1.c, .slice a2 s.m1.q.length k2, .bool s.m1.busy, .slice a3 s.m1.rest.length k3, .int .i64 s.m1.acc, .int .i64 s.m1.w, .int .i64 s.m1.r]) (m := s.m1) ⟨_, _, rfl, p2.keep f0 (by simp), p3.keep f0 (by simp)⟩ (hu.keep f0 (by simp)) ⟨by have := hok.q1; have := hok.c1; omega, hX⟩)
  generalize (beginM s.m1 X).m = mf at *
  generalize (beginM s.m1 X).err = ee at *
  have HP := Lib.hid (And.intro (And.intro p0 p1) (And.intro p2 p3))
  clear hu hX f0 qa qb p0 p1 p2 p3 hok
  go_enter Try.func103, Try.ntmps103
  go_wp2_with fail
  refine (r15_end _ _).mono ?_
  rintro e w' ⟨rfl, rfl⟩
  clear hw0
  go_wp2_with fail
  refine HC.out.mono ?_
  rintro e w1 ⟨v', rfl, f1, u4, u5, rfl, hp4, hp5⟩
  obtain ⟨a4, k4, rfl, _⟩ := id hp4
  obtain ⟨a5, k5, rfl, _⟩ := id hp5
  obtain ⟨w2, hw2, f2, q2⟩ : ∃ W, w1.alloc (.cells #[.int .i64 mf.c, .slice a4 mf.q.length k4, .bool mf.busy, .slice a5 mf.rest.length k5, .int .i64 mf.acc, .int .i64 mf.w, .int .i64 mf.r] 41) = W ∧ Fr [] w1 W ∧ W.heap[w1.heap.size]? = some (.cells #[.int .i64 mf.c, .slice a4 mf.q.length k4, .bool mf.busy, .slice a5 mf.rest.length k5, .int .i64 mf.acc, .int .i64 mf.w, .int .i64 mf.r] 41 (0, 0)) := ⟨_, rfl, (Fr.refl _ _).alloc _, newA rfl⟩
  have HA2 := Lib.hid (f2.keep (f1.keep HQA.out (by simp)) (by simp))
  have HB2 := Lib.hid (f2.keep (f1.keep HQB.out (by simp)) (by simp))
  have HF2 := Lib.hid (HF0.out.then0 (f1.then0 f2))
  have z1 := f1.size
  have z2 := f2.size
  have HN := Lib.hid (And.intro (hp4.keep f2 (by simp)) (hp5.keep f2 (by simp)))
  clear x0 x1 x2 x3 x4 x5 x6 x7 x8 x9 x10 x11 x12 x13 x14 x15 hp4 hp5 HC f1 f2
  have y0 : w2.cell? ⟨w1.heap.size, 0, none⟩ = some (.int .i64 mf.c) := cell_of (q2)
  have y1 : w2.cell? ⟨w1.heap.size, 1, none⟩ = some (.slice a4 mf.q.length k4) := cell_of (q2)
  have y2 : w2.cell? ⟨w1.heap.size, 2, none⟩ = some (.bool mf.busy) := cell_of (q2)
  have y3 : w2.cell? ⟨w1.heap.size, 3, none⟩ = some (.slice a5 mf.rest.length k5) := cell_of (q2)
  have y4 : w2.cell? ⟨w1.heap.size, 4, none⟩ = some (.int .i64 mf.acc) := cell_of (q2)
  have y5 : w2.cell? ⟨w1.heap.size, 5, none⟩ = some (.int .i64 mf.w) := cell_of (q2)
  have y6 : w2.cell? ⟨w1.heap.size, 6, none⟩ = some (.int .i64 mf.r) := cell_of (q2)
  clear q2
  go_wp2_with (refine wpl_store_sub rfl 41 _ _ rfl w.heap.size 7 #[.int .i64 mf.c, .slice a4 mf.q.length k4, .bool mf.busy, .slice a5 mf.rest.length k5, .int .i64 mf.acc, .int .i64 mf.w, .int .i64 mf.r] (by rfl) (by rfl) _ _ #[.int .i64 s.m0.c, .slice a0 s.m0.q.length k0, .bool s.m0.busy, .slice a1 s.m0.rest.length k1, .int .i64 s.m0.acc, .int .i64 s.m0.w, .int .i64 s.m0.r, .int .i64 mf.c, .slice a4 mf.q.length k4, .bool mf.busy, .slice a5 mf.rest.length k5, .int .i64 mf.acc, .int .i64 mf.w, .int .i64 mf.r, .bool s.x0, .bool s.x1] HA2.out (by kernel_rfl) (by simp) (by simp [Value.oneCell']) (by rfl) ?_)
  intro w3 f3 q3
  clear hw2 y0 y1 y2 y3 y4 y5 y6
  have x0 : w3.cell? ⟨w.heap.size, 0, none⟩ = some (.int .i64 s.m0.c) := cell_of (q3)
  have x1 : w3.cell? ⟨w.heap.size, 1, none⟩ = some (.slice a0 s.m0.q.length k0) := cell_of (q3)
  have x2 : w3.cell? ⟨w.heap.size, 2, none⟩ = some (.bool s.m0.busy) := cell_of (q3)
  have x3 : w3.cell? ⟨w.heap.size, 3, none⟩ = some (.slice a1 s.m0.rest.length k1) := cell_of (q3)
  have x4 : w3.cell? ⟨w.heap.size, 4, none⟩ = some (.int .i64 s.m0.acc) := cell_of (q3)
  have x5 : w3.cell? ⟨w.heap.size, 5, none⟩ = some (.int .i64 s.m0.w) := cell_of (q3)
  have x6 : w3.cell? ⟨w.heap.size, 6, none⟩ = some (.int .i64 s.m0.r) := cell_of (q3)
  have x7 : w3.cell? ⟨w.heap.size, 7, none⟩ = some (.int .i64 mf.c) := cell_of (q3)
  have x8 : w3.cell? ⟨w.heap.size, 8, none⟩ = some (.slice a4 mf.q.length k4) := cell_of (q3)
  have x9 : w3.cell? ⟨w.heap.size, 9, none⟩ = some (.bool mf.busy) := cell_of (q3)
  have x10 : w3.cell? ⟨w.heap.size, 10, none⟩ = some (.slice a5 mf.rest.length k5) := cell_of (q3)
  have x11 : w3.cell? ⟨w.heap.size, 11, none⟩ = some (.int .i64 mf.acc) := cell_of (q3)
  have x12 : w3.cell? ⟨w.heap.size, 12, none⟩ = some (.int .i64 mf.w) := cell_of (q3)
  have x13 : w3.cell? ⟨w.heap.size, 13, none⟩ = some (.int .i64 mf.r) := cell_of (q3)
  have x14 : w3.cell? ⟨w.heap.size, 14, none⟩ = some (.bool s.x0) := cell_of (q3)
  have x15 : w3.cell? ⟨w.heap.size, 15, none⟩ = some (.bool s.x1) := cell_of (q3)
  have HB3 := Lib.hid (f3.keep HB2.out (by simp))
  have HF3 := Lib.hid f3
  clear f3 q3
  go_wp2_with (refine wpl_store rfl 44 _ _ rfl (w.heap.size + 1) #[.int .i64 s.m0.c, .slice a0 s.m0.q.length k0, .bool s.m0.busy, .slice a1 s.m0.rest.length k1, .int .i64 s.m0.acc, .int .i64 s.m0.w, .int .i64 s.m0.r, .int .i64 mf.c, .slice a4 mf.q.length k4, .bool mf.busy, .slice a5 mf.rest.length k5, .int .i64 mf.acc, .int .i64 mf.w, .int .i64 mf.r, .bool s.x0, .bool s.x1] (by rfl) (by rfl) _ _ HB3.out (by kernel_rfl) rfl (by simp [Value.oneCell']) ?_)
  intro w4 f4 q4
  clear x0 x1 x2 x3 x4 x5 x6 x7 x8 x9 x10 x11 x12 x13 x14 x15
  have y0 : w4.cell? ⟨(w.heap.size + 1), 0, none⟩ = some (.int .i64 s.m0.c) := cell_of (q4)
  have y1 : w4.cell? ⟨(w.heap.size + 1), 1, none⟩ = some (.slice a0 s.m0.q.length k0) := cell_of (q4)
  have y2 : w4.cell? ⟨(w.heap.size + 1), 2, none⟩ = some (.bool s.m0.busy) := cell_of (q4)
  have y3 : w4.cell? ⟨(w.heap.size + 1), 3, none⟩ = some (.slice a1 s.m0.rest.length k1) := cell_of (q4)
  have y4 : w4.cell? ⟨(w.heap.size + 1), 4, none⟩ = some (.int .i64 s.m0.acc) := cell_of (q4)
  have y5 : w4.cell? ⟨(w.heap.size + 1), 5, none⟩ = some (.int .i64 s.m0.w) := cell_of (q4)
  have y6 : w4.cell? ⟨(w.heap.size + 1), 6, none⟩ = some (.int .i64 s.m0.r) := cell_of (q4)
  have y7 : w4.cell? ⟨(w.heap.size + 1), 7, none⟩ = some (.int .i64 mf.c) := cell_of (q4)
  have y8 : w4.cell? ⟨(w.heap.size + 1), 8, none⟩ = some (.slice a4 mf.q.length k4) := cell_of (q4)
  have y9 : w4.cell? ⟨(w.heap.size + 1), 9, none⟩ = some (.bool mf.busy) := cell_of (q4)
  have y10 : w4.cell? ⟨(w.heap.size + 1), 10, none⟩ = some (.slice a5 mf.rest.length k5) := cell_of (q4)
  have y11 : w4.cell? ⟨(w.heap.size + 1), 11, none⟩ = some (.int .i64 mf.acc) := cell_of (q4)
  have y12 : w4.cell? ⟨(w.heap.size + 1), 12, none⟩ = some (.int .i64 mf.w) := cell_of (q4)
  have y13 : w4.cell? ⟨(w.heap.size + 1), 13, none⟩ = some (.int .i64 mf.r) := cell_of (q4)
  have y14 : w4.cell? ⟨(w.heap.size + 1), 14, none⟩ = some (.bool s.x0) := cell_of (q4)
  have y15 : w4.cell? ⟨(w.heap.size + 1), 15, none⟩ = some (.bool s.x1) := cell_of (q4)
  have HF4 := Lib.hid f4
  clear f4 q4
  go_wp2_with fail
  refine bodyPost_ret (v := .tuple #[.agg #[.int .i64 s.m0.c, .slice a0 s.m0.q.length k0, .bool s.m0.busy, .slice a1 s.m0.rest.length k1, .int .i64 s.m0.acc, .int .i64 s.m0.w, .int .i64 s.m0.r, .int .i64 mf.c, .slice a4 mf.q.length k4, .bool mf.busy, .slice a5 mf.rest.length k5, .int .i64 mf.acc, .int .i64 mf.w, .int .i64 mf.r, .bool s.x0, .bool s.x1], .int .i64 ee]) (by simp [results, Try.results103, go_sem, y0, y1, y2, y3, y4, y5, y6, y7, y8, y9, y10, y11, y12, y13, y14, y15]) rfl ?_
  have F34 : Fr [w.heap.size, w.heap.size + 1] w2 w4 := HF3.out.trans HF4.out (fun x hx => .inl (by simp at hx; simp [hx])) (fun x hx => .inl (by simp at hx; simp [hx]))
  have F : Fr [] w w4 := HF2.out.trans F34 (by simp) (fun x hx => .inr (by simp at hx; omega))
  have KN : ∀ {v : Value} {l : List UInt8}, PartV w2 (fun x => (fun x => N x ∧ x < w.heap.size) x ∨ w0.heap.size ≤ x) v l → PartV w4 (fun x => N x ∨ w.heap.size ≤ x) v l := fun h => (h.keep F34 (fun x hx hn => by simp at hx; rcases hn with hn | hn; have := hn.2; omega; omega)).mono (fun x hx => hx.imp (fun h => h.1) (fun h => by omega))
  have KO : ∀ {v : Value} {l : List UInt8}, PartV w (fun x => N x ∧ x < w.heap.size) v l → PartV w4 (fun x => N x ∨ w.heap.size ≤ x) v l := fun h => (h.keep F (by simp)).mono (fun x hx => .inl hx.1)
  exact ⟨_, rfl, F, ⟨_, _, _, _, rfl, KO HP.out.1.1, KO HP.out.1.2, KN (HN.out.1), KN (HN.out.2)⟩⟩
set_option maxHeartbeats 8000000 in
theorem r15_read1 {w : World} {N : Nat → Prop} {v : Value} {s : DM} (h : Cv w N v s) (n : Int) (hok : SOk s.m0) :
    Calls Try.prog 106 #[v, .int .i64 1, .int .i64 n] w fun e w' => ∃ v' u, e = .returned (.tuple #[v', u, .int .i64 (readM s.m0 n).err]) ∧ Fr [] w w' ∧ Cv w' (fun x => N x ∨ w.heap.size ≤ x) v' { s with m0 := (readM s.m0 n).m } ∧ PartV w' (fun x => w.heap.size ≤ x) u (readM s.m0 n).out := by
  replace h := h.there
  obtain ⟨u0, u1, u2, u3, rfl, p0, p1, p2, p3⟩ := h
  obtain ⟨a0, k0, rfl, _⟩ := id p0
  obtain ⟨a1, k1, rfl, _⟩ := id p1
  obtain ⟨a2, k2, rfl, _⟩ := id p2
  obtain ⟨a3, k3, rfl, _⟩ := id p3
  obtain ⟨w0, hw0, f0, qa, qb⟩ : ∃ W, (w.alloc (.cells #[.int .i64 s.m0.c, .slice a0 s.m0.q.length k0, .bool s.m0.busy, .slice a1 s.m0.rest.length k1, .int .i64 s.m0.acc, .int .i64 s.m0.w, .int .i64 s.m0.r, .int .i64 s.m1.c, .slice a2 s.m1.q.length k2, .bool s.m1.busy, .slice a3 s.m1.rest.length k3, .int .i64 s.m1.acc, .int .i64 s.m1.w, .int .i64 s.m1.r, .bool s.x0, .bool s.x1] 44)).alloc (.cells #[.int .i64 0, .slice none 0 0, .bool false, .slice none 0 0, .int .i64 0, .int .i64 0, .int .i64 0, .int .i64 0, .slice none 0 0, .bool false, .slice none 0 0, .int .i64 0, .int .i64 0, .int .i64 0, .bool false, .bool false] 44) = W ∧ Fr [] w W ∧ W.heap[w.heap.size]? = some (.cells #[.int .i64 s.m0.c, .slice a0 s.m0.q.length k0, .bool s.m0.busy, .slice a1 s.m0.rest.length k1, .int .i64 s.m0.acc, .int .i64 s.m0.w, .int .i64 s.m0.r, .int .i64 s.m1.c, .slice a2 s.m1.q.length k2, .bool s.m1.busy, .slice a3 s.m1.rest.length k3, .int .i64 s.m1.acc, .int .i64 s.m1.w, .int .i64 s.m1.r, .bool s.x0, .bool s.x1] 44 (0, 0)) ∧ W.heap[w.heap.size + 1]? = some (.cells #[.int .i64 0, .slice none 0 0, .bool false, .slice none 0 0, .int .i64 0, .int .i64 0, .int .i64 0, .int .i64 0, .slice none 0 0, .bool false, .slice none 0 0, .int .i64 0, .int .i64 0, .int .i64 0, .bool false, .bool false] 44 (0, 0)) := ⟨_, rfl, ((Fr.refl _ _).alloc _).alloc _, keepA (newA rfl), newA (by simp)⟩
  have x0 : w0.cell? ⟨w.heap.size, 0, none⟩ = some (.int .i64 s.m0.c) := cell_of (qa)
  have x1 : w0.cell? ⟨w.heap.size, 1, none⟩ = some (.slice a0 s.m0.q.length k0) := cell_of (qa)
  have x2 : w0.cell? ⟨w.heap.size, 2, none⟩ = some (.bool s.m0.busy) := cell_of (qa)
  have x3 : w0.cell? ⟨w.heap.size, 3, none⟩ = some (.slice a1 s.m0.rest.length k1) := cell_of (qa)
  have x4 : w0.cell? ⟨w.heap.size, 4, none⟩ = some (.int .i64 s.m0.acc) := cell_of (qa)
  have x5 : w0.cell? ⟨w.heap.size, 5, none⟩ = some (.int .i64 s.m0.w) := cell_of (qa)
  have x6 : w0.cell? ⟨w.heap.size, 6, none⟩ = some (.int .i64 s.m0.r) := cell_of (qa)
  have x7 : w0.cell? ⟨w.heap.size, 7, none⟩ = some (.int .i64 s.m1.c) := cell_of (qa)
  have x8 : w0.cell? ⟨w.heap.size, 8, none⟩ = some (.slice a2 s.m1.q.length k2) := cell_of (qa)
  have x9 : w0.cell? ⟨w.heap.size, 9, none⟩ = some (.bool s.m1.busy) := cell_of (qa)
  have x10 : w0.cell? ⟨w.heap.size, 10, none⟩ = some (.slice a3 s.m1.rest.length k3) := cell_of (qa)
  have x11 : w0.cell? ⟨w.heap.size, 11, none⟩ = some (.int .i64 s.m1.acc) := cell_of (qa)
  have x12 : w0.cell? ⟨w.heap.size, 12, none⟩ = some (.int .i64 s.m1.w) := cell_of (qa)
  have x13 : w0.cell? ⟨w.heap.size, 13, none⟩ = some (.int .i64 s.m1.r) := cell_of (qa)
  have x14 : w0.cell? ⟨w.heap.size, 14, none⟩ = some (.bool s.x0) := cell_of (qa)
  have x15 : w0.cell? ⟨w.heap.size, 15, none⟩ = some (.bool s.x1) := cell_of (qa)
  have HF0 := Lib.hid f0
  have HQA := Lib.hid qa
  have HQB := Lib.hid qb
  have hz0 := lt_of_heap qb
  have HC := Lib.hid (r_read (w := w0) (N := (fun x => N x ∧ x < w.heap.size)) (v := .agg #[.int .i64 s.m0.c, .slice a0 s.m0.q.length k0, .bool s.m0.busy, .slice a1 s.m0.rest.length k1, .int .i64 s.m0.acc, .int .i64 s.m0.w, .int .i64 s.m0.r]) (m := s.m0) ⟨_, _, rfl, p0.keep f0 (by simp), p1.keep f0 (by simp)⟩ n ⟨by have := hok.q1; have := hok.c1; omega, by have := hok.sum; have := hok.a0; omega⟩ ⟨hok.a0, by have := hok.sum; omega⟩)
  generalize (readM s.m0 n).m = mf at *
  generalize (readM s.m0 n).out = oo at *
  generalize (readM s.m0 n).err = ee at *
  have HP := Lib.hid (And.intro (And.intro p0 p1) (And.intro p2 p3))
  clear f0 qa qb p0 p1 p2 p3 hok
  go_enter Try.func106, Try.ntmps106
  go_wp2_with fail
  refine (r15_end _ _).mono ?_
  rintro e w' ⟨rfl, rfl⟩
  clear hw0
  go_wp2_with fail
  refine HC.out.mono ?_
  rintro e w1 ⟨v', ub, rfl, f1, ⟨u4, u5, rfl, hp4, hp5⟩, hpu⟩
  obtain ⟨a4, k4, rfl, _⟩ := id hp4
  obtain ⟨a5, k5, rfl, _⟩ := id hp5
  obtain ⟨w2, hw2, f2, q2⟩ : ∃ W, w1.alloc (.cells #[.int .i64 mf.c, .slice a4 mf.q.length k4, .bool mf.busy, .slice a5 mf.rest.length k5, .int .i64 mf.acc, .int .i64 mf.w, .int .i64 mf.r] 41) = W ∧ Fr [] w1 W ∧ W.heap[w1.heap.size]? = some (.cells #[.int .i64 mf.c, .slice a4 mf.q.length k4, .bool mf.busy, .slice a5 mf.rest.length k5, .int .i64 mf.acc, .int .i64 mf.w, .int .i64 mf.r] 41 (0, 0)) := ⟨_, rfl, (Fr.refl _ _).alloc _, newA rfl⟩
  have HA2 := Lib.hid (f2.keep (f1.keep HQA.out (by simp)) (by simp))
  have HB2 := Lib.hid (f2.keep (f1.keep HQB.out (by simp)) (by simp))
  have HF2 := Lib.hid (HF0.out.then0 (f1.then0 f2))
  have HU := Lib.hid (hpu.keep f2 (by simp))
  clear hpu
  have z1 := f1.size
  have z2 := f2.size
  have HN := Lib.hid (And.intro (hp4.keep f2 (by simp)) (hp5.keep f2 (by simp)))
  clear x0 x1 x2 x3 x4 x5 x6 x7 x8 x9 x10 x11 x12 x13 x14 x15 hp4 hp5 HC f1 f2
  have y0 : w2.cell? ⟨w1.heap.size, 0, none⟩ = some (.int .i64 mf.c) := cell_of (q2)
  have y1 : w2.cell? ⟨w1.heap.size, 1, none⟩ = some (.slice a4 mf.q.length k4) := cell_of (q2)
  have y2 : w2.cell? ⟨w1.heap.size, 2, none⟩ = some (.bool mf.busy) := cell_of (q2)
  have y3 : w2.cell? ⟨w1.heap.size, 3, none⟩ = some (.slice a5 mf.rest.length k5) := cell_of (q2)
  have y4 : w2.cell? ⟨w1.heap.size, 4, none⟩ = some (.int .i64 mf.acc) := cell_of (q2)
  have y5 : w2.cell? ⟨w1.heap.size, 5, none⟩ = some (.int .i64 mf.w) := cell_of (q2)
  have y6 : w2.cell? ⟨w1.heap.size, 6, none⟩ = some (.int .i64 mf.r) := cell_of (q2)
  clear q2
  go_wp2_with (refine wpl_store_sub rfl 41 _ _ rfl w.heap.size 0 #[.int .i64 mf.c, .slice a4 mf.q.length k4, .bool mf.busy, .slice a5 mf.rest.length k5, .int .i64 mf.acc, .int .i64 mf.w, .int .i64 mf.r] (by rfl) (by rfl) _ _ #[.int .i64 mf.c, .slice a4 mf.q.length k4, .bool mf.busy, .slice a5 mf.rest.length k5, .int .i64 mf.acc, .int .i64 mf.w, .int .i64 mf.r, .int .i64 s.m1.c, .slice a2 s.m1.q.length k2, .bool s.m1.busy, .slice a3 s.m1.rest.length k3, .int .i64 s.m1.acc, .int .i64 s.m1.w, .int .i64 s.m1.r, .bool s.x0, .bool s.x1] HA2.out (by kernel_rfl) (by simp) (by simp [Value.oneCell']) (by rfl) ?_)
  intro w3 f3 q3
  clear hw2 y0 y1 y2 y3 y4 y5 y6
  have x0 : w3.cell? ⟨w.heap.size, 0, none⟩ = some (.int .i64 mf.c) := cell_of (q3)
  have x1 : w3.cell? ⟨w.heap.size, 1, none⟩ = some (.slice a4 mf.q.length k4) := cell_of (q3)
  have x2 : w3.cell? ⟨w.heap.size, 2, none⟩ = some (.bool mf.busy) := cell_of (q3)
  have x3 : w3.cell? ⟨w.heap.size, 3, none⟩ = some (.slice a5 mf.rest.length k5) := cell_of (q3)
  have x4 : w3.cell? ⟨w.heap.size, 4, none⟩ = some (.int .i64 mf.acc) := cell_of (q3)
  have x5 : w3.cell? ⟨w.heap.size, 5, none⟩ = some (.int .i64 mf.w) := cell_of (q3)
  have x6 : w3.cell? ⟨w.heap.size, 6, none⟩ = some (.int .i64 mf.r) := cell_of (q3)
  have x7 : w3.cell? ⟨w.heap.size, 7, none⟩ = some (.int .i64 s.m1.c) := cell_of (q3)
  have x8 : w3.cell? ⟨w.heap.size, 8, none⟩ = some (.slice a2 s.m1.q.length k2) := cell_of (q3)
  have x9 : w3.cell? ⟨w.heap.size, 9, none⟩ = some (.bool s.m1.busy) := cell_of (q3)
  have x10 : w3.cell? ⟨w.heap.size, 10, none⟩ = some (.slice a3 s.m1.rest.length k3) := cell_of (q3)
  have x11 : w3.cell? ⟨w.heap.size, 11, none⟩ = some (.int .i64 s.m1.acc) := cell_of (q3)
  have x12 : w3.cell? ⟨w.heap.size, 12, none⟩ = some (.int .i64 s.m1.w) := cell_of (q3)
  have x13 : w3.cell? ⟨w.heap.size, 13, none⟩ = some (.int .i64 s.m1.r) := cell_of (q3)
  have x14 : w3.cell? ⟨w.heap.size, 14, none⟩ = some (.bool s.x0) := cell_of (q3)
  have x15 : w3.cell? ⟨w.heap.size, 15, none⟩ = some (.bool s.x1) := cell_of (q3)
  have HB3 := Lib.hid (f3.keep HB2.out (by simp))
  have HF3 := Lib.hid f3
  clear f3 q3
  go_wp2_with (refine wpl_store rfl 44 _ _ rfl (w.heap.size + 1) #[.int .i64 mf.c, .slice a4 mf.q.length k4, .bool mf.busy, .slice a5 mf.rest.length k5, .int .i64 mf.acc, .int .i64 mf.w, .int .i64 mf.r, .int .i64 s.m1.c, .slice a2 s.m1.q.length k2, .bool s.m1.busy, .slice a3 s.m1.rest.length k3, .int .i64 s.m1.acc, .int .i64 s.m1.w, .int .i64 s.m1.r, .bool s.x0, .bool s.x1] (by rfl) (by rfl) _ _ HB3.out (by kernel_rfl) rfl (by simp [Value.oneCell']) ?_)
  intro w4 f4 q4
  clear x0 x1 x2 x3 x4 x5 x6 x7 x8 x9 x10 x11 x12 x13 x14 x15
  have y0 : w4.cell? ⟨(w.heap.size + 1), 0, none⟩ = some (.int .i64 mf.c) := cell_of (q4)
  have y1 : w4.cell? ⟨(w.heap.size + 1), 1, none⟩ = some (.slice a4 mf.q.length k4) := cell_of (q4)
  have y2 : w4.cell? ⟨(w.heap.size + 1), 2, none⟩ = some (.bool mf.busy) := cell_of (q4)
  have y3 : w4.cell? ⟨(w.heap.size + 1), 3, none⟩ = some (.slice a5 mf.rest.length k5) := cell_of (q4)
  have y4 : w4.cell? ⟨(w.heap.size + 1), 4, none⟩ = some (.int .i64 mf.acc) := cell_of (q4)
  have y5 : w4.cell? ⟨(w.heap.size + 1), 5, none⟩ = some (.int .i64 mf.w) := cell_of (q4)
  have y6 : w4.cell? ⟨(w.heap.size + 1), 6, none⟩ = some (.int .i64 mf.r) := cell_of (q4)
  have y7 : w4.cell? ⟨(w.heap.size + 1), 7, none⟩ = some (.int .i64 s.m1.c) := cell_of (q4)
  have y8 : w4.cell? ⟨(w.heap.size + 1), 8, none⟩ = some (.slice a2 s.m1.q.length k2) := cell_of (q4)
  have y9 : w4.cell? ⟨(w.heap.size + 1), 9, none⟩ = some (.bool s.m1.busy) := cell_of (q4)
  have y10 : w4.cell? ⟨(w.heap.size + 1), 10, none⟩ = some (.slice a3 s.m1.rest.length k3) := cell_of (q4)
  have y11 : w4.cell? ⟨(w.heap.size + 1), 11, none⟩ = some (.int .i64 s.m1.acc) := cell_of (q4)
  have y12 : w4.cell? ⟨(w.heap.size + 1), 12, none⟩ = some (.int .i64 s.m1.w) := cell_of (q4)
  have y13 : w4.cell? ⟨(w.heap.size + 1), 13, none⟩ = some (.int .i64 s.m1.r) := cell_of (q4)
  have y14 : w4.cell? ⟨(w.heap.size + 1), 14, none⟩ = some (.bool s.x0) := cell_of (q4)
  have y15 : w4.cell? ⟨(w.heap.size + 1), 15, none⟩ = some (.bool s.x1) := cell_of (q4)
  have HF4 := Lib.hid f4
  clear f4 q4
  go_wp2_with fail
  refine bodyPost_ret (v := .tuple #[.agg #[.int .i64 mf.c, .slice a4 mf.q.length k4, .bool mf.busy, .slice a5 mf.rest.length k5, .int .i64 mf.acc, .int .i64 mf.w, .int .i64 mf.r, .int .i64 s.m1.c, .slice a2 s.m1.q.length k2, .bool s.m1.busy, .slice a3 s.m1.rest.length k3, .int .i64 s.m1.acc, .int .i64 s.m1.w, .int .i64 s.m1.r, .bool s.x0, .bool s.x1], ub, .int .i64 ee]) (by simp [results, Try.results106, go_sem, y0, y1, y2, y3, y4, y5, y6, y7, y8, y9, y10, y11, y12, y13, y14, y15]) rfl ?_
  have F34 : Fr [w.heap.size, w.heap.size + 1] w2 w4 := HF3.out.trans HF4.out (fun x hx => .inl (by simp at hx; simp [hx])) (fun x hx => .inl (by simp at hx; simp [hx]))
  have F : Fr [] w w4 := HF2.out.trans F34 (by simp) (fun x hx => .inr (by simp at hx; omega))
  have KN : ∀ {v : Value} {l : List UInt8}, PartV w2 (fun x => (fun x => N x ∧ x < w.heap.size) x ∨ w0.heap.size ≤ x) v l → PartV w4 (fun x => N x ∨ w.heap.size ≤ x) v l := fun h => (h.keep F34 (fun x hx hn => by simp at hx; rcases hn with hn | hn; have := hn.2; omega; omega)).mono (fun x hx => hx.imp (fun h => h.1) (fun h => by omega))
  have KO : ∀ {v : Value} {l : List UInt8}, PartV w (fun x => N x ∧ x < w.heap.size) v l → PartV w4 (fun x => N x ∨ w.heap.size ≤ x) v l := fun h => (h.keep F (by simp)).mono (fun x hx => .inl hx.1)
  exact ⟨_, _, rfl, F, ⟨_, _, _, _, rfl, KN (HN.out.1), KN (HN.out.2), KO HP.out.2.1, KO HP.out.2.2⟩, (((HU.out.keep F34 (fun x hx hn => by simp at hx; have hn' : w0.heap.size ≤ x := hn; omega))).mono (fun x hx => (show w.heap.size ≤ x from by have hn' : w0.heap.size ≤ x := hx; omega)))⟩

end Go.Proofs.Ytdoamelhclnphaa

namespace Go.Proofs.Ytdoamelhclnphaa
open Go.RowKit
set_option maxRecDepth 100000

set_option maxHeartbeats 8000000 in
theorem r15_closewrite0 {w : World} {N : Nat → Prop} {v : Value} {s : DM} (h : Cv w N v s) :
    Calls Try.prog 107 #[v, .int .i64 0] w fun e w' => ∃ v', e = .returned (.tuple #[v', .int .i64 (closewM s.m0 13).err]) ∧ Fr [] w w' ∧ Cv w' (fun x => N x ∨ w.heap.size ≤ x) v' { s with m0 := (closewM s.m0 13).m } := by
  replace h := h.there
  obtain ⟨u0, u1, u2, u3, rfl, p0, p1, p2, p3⟩ := h
  obtain ⟨a0, k0, rfl, _⟩ := id p0
  obtain ⟨a1, k1, rfl, _⟩ := id p1
  obtain ⟨a2, k2, rfl, _⟩ := id p2
  obtain ⟨a3, k3, rfl, _⟩ := id p3
  obtain ⟨w0, hw0, f0, qa, qb⟩ : ∃ W, (w.alloc (.cells #[.int .i64 s.m0.c, .slice a0 s.m0.q.length k0, .bool s.m0.busy, .slice a1 s.m0.rest.length k1, .int .i64 s.m0.acc, .int .i64 s.m0.w, .int .i64 s.m0.r, .int .i64 s.m1.c, .slice a2 s.m1.q.length k2, .bool s.m1.busy, .slice a3 s.m1.rest.length k3, .int .i64 s.m1.acc, .int .i64 s.m1.w, .int .i64 s.m1.r, .bool s.x0, .bool s.x1] 44)).alloc (.cells #[.int .i64 0, .slice none 0 0, .bool false, .slice none 0 0, .int .i64 0, .int .i64 0, .int .i64 0, .int .i64 0, .slice none 0 0, .bool false, .slice none 0 0, .int .i64 0, .int .i64 0, .int .i64 0, .bool false, .bool false] 44) = W ∧ Fr [] w W ∧ W.heap[w.heap.size]? = some (.cells #[.int .i64 s.m0.c, .slice a0 s.m0.q.length k0, .bool s.m0.busy, .slice a1 s.m0.rest.length k1, .int .i64 s.m0.acc, .int .i64 s.m0.w, .int .i64 s.m0.r, .int .i64 s.m1.c, .slice a2 s.m1.q.length k2, .bool s.m1.busy, .slice a3 s.m1.rest.length k3, .int .i64 s.m1.acc, .int .i64 s.m1.w, .int .i64 s.m1.r, .bool s.x0, .bool s.x1] 44 (0, 0)) ∧ W.heap[w.heap.size + 1]? = some (.cells #[.int .i64 0, .slice none 0 0, .bool false, .slice none 0 0, .int .i64 0, .int .i64 0, .int .i64 0, .int .i64 0, .slice none 0 0, .bool false, .slice none 0 0, .int .i64 0, .int .i64 0, .int .i64 0, .bool false, .bool false] 44 (0, 0)) := ⟨_, rfl, ((Fr.refl _ _).alloc _).alloc _, keepA (newA rfl), newA (by simp)⟩
  have x0 : w0.cell? ⟨w.heap.size, 0, none⟩ = some (.int .i64 s.m0.c) := cell_of (qa)
  have x1 : w0.cell? ⟨w.heap.size, 1, none⟩ = some (.slice a0 s.m0.q.length k0) := cell_of (qa)
  have x2 : w0.cell? ⟨w.heap.size, 2, none⟩ = some (.bool s.m0.busy) := cell_of (qa)
  have x3 : w0.cell? ⟨w.heap.size, 3, none⟩ = some (.slice a1 s.m0.rest.length k1) := cell_of (qa)
  have x4 : w0.cell? ⟨w.heap.size, 4, none⟩ = some (.int .i64 s.m0.acc) := cell_of (qa)
  have x5 : w0.cell? ⟨w.heap.size, 5, none⟩ = some (.int .i64 s.m0.w) := cell_of (qa)
  have x6 : w0.cell? ⟨w.heap.size, 6, none⟩ = some (.int .i64 s.m0.r) := cell_of (qa)
  have x7 : w0.cell? ⟨w.heap.size, 7, none⟩ = some (.int .i64 s.m1.c) := cell_of (qa)
  have x8 : w0.cell? ⟨w.heap.size, 8, none⟩ = some (.slice a2 s.m1.q.length k2) := cell_of (qa)
  have x9 : w0.cell? ⟨w.heap.size, 9, none⟩ = some (.bool s.m1.busy) := cell_of (qa)
  have x10 : w0.cell? ⟨w.heap.size, 10, none⟩ = some (.slice a3 s.m1.rest.length k3) := cell_of (qa)
  have x11 : w0.cell? ⟨w.heap.size, 11, none⟩ = some (.int .i64 s.m1.acc) := cell_of (qa)
  have x12 : w0.cell? ⟨w.heap.size, 12, none⟩ = some (.int .i64 s.m1.w) := cell_of (qa)
  have x13 : w0.cell? ⟨w.heap.size, 13, none⟩ = some (.int .i64 s.m1.r) := cell_of (qa)
  have x14 : w0.cell? ⟨w.heap.size, 14, none⟩ = some (.bool s.x0) := cell_of (qa)
  have x15 : w0.cell? ⟨w.heap.size, 15, none⟩ = some (.bool s.x1) := cell_of (qa)
  have HF0 := Lib.hid f0
  have HQA := Lib.hid qa
  have HQB := Lib.hid qb
  have hz0 := lt_of_heap qb
  have HC := Lib.hid (r_closew (w := w0) (N := (fun x => N x ∧ x < w.heap.size)) (v := .agg #[.int .i64 s.m0.c, .slice a0 s.m0.q.length k0, .bool s.m0.busy, .slice a1 s.m0.rest.length k1, .int .i64 s.m0.acc, .int .i64 s.m0.w, .int .i64 s.m0.r]) (m := s.m0) ⟨_, _, rfl, p0.keep f0 (by simp), p1.keep f0 (by simp)⟩ 13)
  generalize (closewM s.m0 13).m = mf at *
  generalize (closewM s.m0 13).err = ee at *
  have HP := Lib.hid (And.intro (And.intro p0 p1) (And.intro p2 p3))
  clear f0 qa qb p0 p1 p2 p3
  go_enter Try.func107, Try.ntmps107
  go_wp2_with fail
  refine (r15_end _ _).mono ?_
  rintro e w' ⟨rfl, rfl⟩
  clear hw0
  go_wp2_with fail
  refine HC.out.mono ?_
  rintro e w1 ⟨v', rfl, f1, u4, u5, rfl, hp4', hp5'⟩
  have hp4 : PartV w1 (fun x => (fun x => N x ∧ x < w.heap.size) x ∨ w0.heap.size ≤ x) _ _ := hp4'.mono (fun x hx => .inl hx)
  have hp5 : PartV w1 (fun x => (fun x => N x ∧ x < w.heap.size) x ∨ w0.heap.size ≤ x) _ _ := hp5'.mono (fun x hx => .inl hx)
  clear hp4' hp5'
  obtain ⟨a4, k4, rfl, _⟩ := id hp4
  obtain ⟨a5, k5, rfl, _⟩ := id hp5
  obtain ⟨w2, hw2, f2, q2⟩ : ∃ W, w1.alloc (.cells #[.int .i64 mf.c, .slice a4 mf.q.length k4, .bool mf.busy, .slice a5 mf.rest.length k5, .int .i64 mf.acc, .int .i64 mf.w, .int .i64 mf.r] 41) = W ∧ Fr [] w1 W ∧ W.heap[w1.heap.size]? = some (.cells #[.int .i64 mf.c, .slice a4 mf.q.length k4, .bool mf.busy, .slice a5 mf.rest.length k5, .int .i64 mf.acc, .int .i64 mf.w, .int .i64 mf.r] 41 (0, 0)) := ⟨_, rfl, (Fr.refl _ _).alloc _, newA rfl⟩
  have HA2 := Lib.hid (f2.keep (f1.keep HQA.out (by simp)) (by simp))
  have HB2 := Lib.hid (f2.keep (f1.keep HQB.out (by simp)) (by simp))
  have HF2 := Lib.hid (HF0.out.then0 (f1.then0 f2))
  have z1 := f1.size
  have z2 := f2.size
  have HN := Lib.hid (And.intro (hp4.keep f2 (by simp)) (hp5.keep f2 (by simp)))
  clear x0 x1 x2 x3 x4 x5 x6 x7 x8 x9 x10 x11 x12 x13 x14 x15 hp4 hp5 HC f1 f2
  have y0 : w2.cell? ⟨w1.heap.size, 0, none⟩ = some (.int .i64 mf.c) := cell_of (q2)
  have y1 : w2.cell? ⟨w1.heap.size, 1, none⟩ = some (.slice a4 mf.q.length k4) := cell_of (q2)
  have y2 : w2.cell? ⟨w1.heap.size, 2, none⟩ = some (.bool mf.busy) := cell_of (q2)
  have y3 : w2.cell? ⟨w1.heap.size, 3, none⟩ = some (.slice a5 mf.rest.length k5) := cell_of (q2)
  have y4 : w2.cell? ⟨w1.heap.size, 4, none⟩ = some (.int .i64 mf.acc) := cell_of (q2)
  have y5 : w2.cell? ⟨w1.heap.size, 5, none⟩ = some (.int .i64 mf.w) := cell_of (q2)
  have y6 : w2.cell? ⟨w1.heap.size, 6, none⟩ = some (.int .i64 mf.r) := cell_of (q2)
  clear q2
  go_wp2_with (refine wpl_store_sub rfl 41 _ _ rfl w.heap.size 0 #[.int .i64 mf.c, .slice a4 mf.q.length k4, .bool mf.busy, .slice a5 mf.rest.length k5, .int .i64 mf.acc, .int .i64 mf.w, .int .i64 mf.r] (by rfl) (by rfl) _ _ #[.int .i64 mf.c, .slice a4 mf.q.length k4, .bool mf.busy, .slice a5 mf.rest.length k5, .int .i64 mf.acc, .int .i64 mf.w, .int .i64 mf.r, .int .i64 s.m1.c, .slice a2 s.m1.q.length k2, .bool s.m1.busy, .slice a3 s.m1.rest.length k3, .int .i64 s.m1.acc, .int .i64 s.m1.w, .int .i64 s.m1.r, .bool s.x0, .bool s.x1] HA2.out (by kernel_rfl) (by simp) (by simp [Value.oneCell']) (by rfl) ?_)
  intro w3 f3 q3
  clear hw2 y0 y1 y2 y3 y4 y5 y6
  have x0 : w3.cell? ⟨w.heap.size, 0, none⟩ = some (.int .i64 mf.c) := cell_of (q3)
  have x1 : w3.cell? ⟨w.heap.size, 1, none⟩ = some (.slice a4 mf.q.length k4) := cell_of (q3)
  have x2 : w3.cell? ⟨w.heap.size, 2, none⟩ = some (.bool mf.busy) := cell_of (q3)
  have x3 : w3.cell? ⟨w.heap.size, 3, none⟩ = some (.slice a5 mf.rest.length k5) := cell_of (q3)
  have x4 : w3.cell? ⟨w.heap.size, 4, none⟩ = some (.int .i64 mf.acc) := cell_of (q3)
  have x5 : w3.cell? ⟨w.heap.size, 5, none⟩ = some (.int .i64 mf.w) := cell_of (q3)
  have x6 : w3.cell? ⟨w.heap.size, 6, none⟩ = some (.int .i64 mf.r) := cell_of (q3)
  have x7 : w3.cell? ⟨w.heap.size, 7, none⟩ = some (.int .i64 s.m1.c) := cell_of (q3)
  have x8 : w3.cell? ⟨w.heap.size, 8, none⟩ = some (.slice a2 s.m1.q.length k2) := cell_of (q3)
  have x9 : w3.cell? ⟨w.heap.size, 9, none⟩ = some (.bool s.m1.busy) := cell_of (q3)
  have x10 : w3.cell? ⟨w.heap.size, 10, none⟩ = some (.slice a3 s.m1.rest.length k3) := cell_of (q3)
  have x11 : w3.cell? ⟨w.heap.size, 11, none⟩ = some (.int .i64 s.m1.acc) := cell_of (q3)
  have x12 : w3.cell? ⟨w.heap.size, 12, none⟩ = some (.int .i64 s.m1.w) := cell_of (q3)
  have x13 : w3.cell? ⟨w.heap.size, 13, none⟩ = some (.int .i64 s.m1.r) := cell_of (q3)
  have x14 : w3.cell? ⟨w.heap.size, 14, none⟩ = some (.bool s.x0) := cell_of (q3)
  have x15 : w3.cell? ⟨w.heap.size, 15, none⟩ = some (.bool s.x1) := cell_of (q3)
  have HB3 := Lib.hid (f3.keep HB2.out (by simp))
  have HF3 := Lib.hid f3
  clear f3 q3
  go_wp2_with (refine wpl_store rfl 44 _ _ rfl (w.heap.size + 1) #[.int .i64 mf.c, .slice a4 mf.q.length k4, .bool mf.busy, .slice a5 mf.rest.length k5, .int .i64 mf.acc, .int .i64 mf.w, .int .i64 mf.r, .int .i64 s.m1.c, .slice a2 s.m1.q.length k2, .bool s.m1.busy, .slice a3 s.m1.rest.length k3, .int .i64 s.m1.acc, .int .i64 s.m1.w, .int .i64 s.m1.r, .bool s.x0, .bool s.x1] (by rfl) (by rfl) _ _ HB3.out (by kernel_rfl) rfl (by simp [Value.oneCell']) ?_)
  intro w4 f4 q4
  clear x0 x1 x2 x3 x4 x5 x6 x7 x8 x9 x10 x11 x12 x13 x14 x15
  have y0 : w4.cell? ⟨(w.heap.size + 1), 0, none⟩ = some (.int .i64 mf.c) := cell_of (q4)
  have y1 : w4.cell? ⟨(w.heap.size + 1), 1, none⟩ = some (.slice a4 mf.q.length k4) := cell_of (q4)
  have y2 : w4.cell? ⟨(w.heap.size + 1), 2, none⟩ = some (.bool mf.busy) := cell_of (q4)
  have y3 : w4.cell? ⟨(w.heap.size + 1), 3, none⟩ = some (.slice a5 mf.rest.length k5) := cell_of (q4)
  have y4 : w4.cell? ⟨(w.heap.size + 1), 4, none⟩ = some (.int .i64 mf.acc) := cell_of (q4)
  have y5 : w4.cell? ⟨(w.heap.size + 1), 5, none⟩ = some (.int .i64 mf.w) := cell_of (q4)
  have y6 : w4.cell? ⟨(w.heap.size + 1), 6, none⟩ = some (.int .i64 mf.r) := cell_of (q4)
  have y7 : w4.cell? ⟨(w.heap.size + 1), 7, none⟩ = some (.int .i64 s.m1.c) := cell_of (q4)
  have y8 : w4.cell? ⟨(w.heap.size + 1), 8, none⟩ = some (.slice a2 s.m1.q.length k2) := cell_of (q4)
  have y9 : w4.cell? ⟨(w.heap.size + 1), 9, none⟩ = some (.bool s.m1.busy) := cell_of (q4)
  have y10 : w4.cell? ⟨(w.heap.size + 1), 10, none⟩ = some (.slice a3 s.m1.rest.length k3) := cell_of (q4)
  have y11 : w4.cell? ⟨(w.heap.size + 1), 11, none⟩ = some (.int .i64 s.m1.acc) := cell_of (q4)
  have y12 : w4.cell? ⟨(w.heap.size + 1), 12, none⟩ = some (.int .i64 s.m1.w) := cell_of (q4)
  have y13 : w4.cell? ⟨(w.heap.size + 1), 13, none⟩ = some (.int .i64 s.m1.r) := cell_of (q4)
  have y14 : w4.cell? ⟨(w.heap.size + 1), 14, none⟩ = some (.bool s.x0) := cell_of (q4)
  have y15 : w4.cell? ⟨(w.heap.size + 1), 15, none⟩ = some (.bool s.x1) := cell_of (q4)
  have HF4 := Lib.hid f4
  clear f4 q4
  go_wp2_with fail
  refine bodyPost_ret (v := .tuple #[.agg #[.int .i64 mf.c, .slice a4 mf.q.length k4, .bool mf.busy, .slice a5 mf.rest.length k5, .int .i64 mf.acc, .int .i64 mf.w, .int .i64 mf.r, .int .i64 s.m1.c, .slice a2 s.m1.q.length k2, .bool s.m1.busy, .slice a3 s.m1.rest.length k3, .int .i64 s.m1.acc, .int .i64 s.m1.w, .int .i64 s.m1.r, .bool s.x0, .bool s.x1], .int .i64 ee]) (by simp [results, Try.results107, go_sem, y0, y1, y2, y3, y4, y5, y6, y7, y8, y9, y10, y11, y12, y13, y14, y15]) rfl ?_
  have F34 : Fr [w.heap.size, w.heap.size + 1] w2 w4 := HF3.out.trans HF4.out (fun x hx => .inl (by simp at hx; simp [hx])) (fun x hx => .inl (by simp at hx; simp [hx]))
  have F : Fr [] w w4 := HF2.out.trans F34 (by simp) (fun x hx => .inr (by simp at hx; omega))
  have KN : ∀ {v : Value} {l : List UInt8}, PartV w2 (fun x => (fun x => N x ∧ x < w.heap.size) x ∨ w0.heap.size ≤ x) v l → PartV w4 (fun x => N x ∨ w.heap.size ≤ x) v l := fun h => (h.keep F34 (fun x hx hn => by simp at hx; rcases hn with hn | hn; have := hn.2; omega; omega)).mono (fun x hx => hx.imp (fun h => h.1) (fun h => by omega))
  have KO : ∀ {v : Value} {l : List UInt8}, PartV w (fun x => N x ∧ x < w.heap.size) v l → PartV w4 (fun x => N x ∨ w.heap.size ≤ x) v l := fun h => (h.keep F (by simp)).mono (fun x hx => .inl hx.1)
  exact ⟨_, rfl, F, ⟨_, _, _, _, rfl, KN (HN.out.1), KN (HN.out.2), KO HP.out.2.1, KO HP.out.2.2⟩⟩
set_option maxHeartbeats 8000000 in
theorem r15_closeread0 {w : World} {N : Nat → Prop} {v : Value} {s : DM} (h : Cv w N v s) :
    Calls Try.prog 108 #[v, .int .i64 0] w fun e w' => ∃ v', e = .returned (.tuple #[v', .int .i64 (closerM s.m1 14).err]) ∧ Fr [] w w' ∧ Cv w' (fun x => N x ∨ w.heap.size ≤ x) v' { s with m1 := (closerM s.m1 14).m } := by
  replace h := h.there
  obtain ⟨u0, u1, u2, u3, rfl, p0, p1, p2, p3⟩ := h
  obtain ⟨a0, k0, rfl, _⟩ := id p0
  obtain ⟨a1, k1, rfl, _⟩ := id p1
  obtain ⟨a2, k2, rfl, _⟩ := id p2
  obtain ⟨a3, k3, rfl, _⟩ := id p3
  obtain ⟨w0, hw0, f0, qa, qb⟩ : ∃ W, (w.alloc (.cells #[.int .i64 s.m0.c, .slice a0 s.m0.q.length k0, .bool s.m0.busy, .slice a1 s.m0.rest.length k1, .int .i64 s.m0.acc, .int .i64 s.m0.w, .int .i64 s.m0.r, .int .i64 s.m1.c, .slice a2 s.m1.q.length k2, .bool s.m1.busy, .slice a3 s.m1.rest.length k3, .int .i64 s.m1.acc, .int .i64 s.m1.w, .int .i64 s.m1.r, .bool s.x0, .bool s.x1] 44)).alloc (.cells #[.int .i64 0, .slice none 0 0, .bool false, .slice none 0 0, .int .i64 0, .int .i64 0, .int .i64 0, .int .i64 0, .slice none 0 0, .bool false, .slice none 0 0, .int .i64 0, .int .i64 0, .int .i64 0, .bool false, .bool false] 44) = W ∧ Fr [] w W ∧ W.heap[w.heap.size]? = some (.cells #[.int .i64 s.m0.c, .slice a0 s.m0.q.length k0, .bool s.m0.busy, .slice a1 s.m0.rest.length k1, .int .i64 s.m0.acc, .int .i64 s.m0.w, .int .i64 s.m0.r, .int .i64 s.m1.c, .slice a2 s.m1.q.length k2, .bool s.m1.busy, .slice a3 s.m1.rest.length k3, .int .i64 s.m1.acc, .int .i64 s.m1.w, .int .i64 s.m1.r, .bool s.x0, .bool s.x1] 44 (0, 0)) ∧ W.heap[w.heap.size + 1]? = some (.cells #[.int .i64 0, .slice none 0 0, .bool false, .slice none 0 0, .int .i64 0, .int .i64 0, .int .i64 0, .int .i64 0, .slice none 0 0, .bool false, .slice none 0 0, .int .i64 0, .int .i64 0, .int .i64 0, .bool false, .bool false] 44 (0, 0)) := ⟨_, rfl, ((Fr.refl _ _).alloc _).alloc _, keepA (newA rfl), newA (by simp)⟩
  have x0 : w0.cell? ⟨w.heap.size, 0, none⟩ = some (.int .i64 s.m0.c) := cell_of (qa)
  have x1 : w0.cell? ⟨w.heap.size, 1, none⟩ = some (.slice a0 s.m0.q.length k0) := cell_of (qa)
  have x2 : w0.cell? ⟨w.heap.size, 2, none⟩ = some (.bool s.m0.busy) := cell_of (qa)
  have x3 : w0.cell? ⟨w.heap.size, 3, none⟩ = some (.slice a1 s.m0.rest.length k1) := cell_of (qa)
  have x4 : w0.cell? ⟨w.heap.size, 4, none⟩ = some (.int .i64 s.m0.acc) := cell_of (qa)
  have x5 : w0.cell? ⟨w.heap.size, 5, none⟩ = some (.int .i64 s.m0.w) := cell_of (qa)
  have x6 : w0.cell? ⟨w.heap.size, 6, none⟩ = some (.int .i64 s.m0.r) := cell_of (qa)
  have x7 : w0.cell? ⟨w.heap.size, 7, none⟩ = some (.int .i64 s.m1.c) := cell_of (qa)
  have x8 : w0.cell? ⟨w.heap.size, 8, none⟩ = some (.slice a2 s.m1.q.length k2) := cell_of (qa)
  have x9 : w0.cell? ⟨w.heap.size, 9, none⟩ = some (.bool s.m1.busy) := cell_of (qa)
  have x10 : w0.cell? ⟨w.heap.size, 10, none⟩ = some (.slice a3 s.m1.rest.length k3) := cell_of (qa)
  have x11 : w0.cell? ⟨w.heap.size, 11, none⟩ = some (.int .i64 s.m1.acc) := cell_of (qa)
  have x12 : w0.cell? ⟨w.heap.size, 12, none⟩ = some (.int .i64 s.m1.w) := cell_of (qa)
  have x13 : w0.cell? ⟨w.heap.size, 13, none⟩ = some (.int .i64 s.m1.r) := cell_of (qa)
  have x14 : w0.cell? ⟨w.heap.size, 14, none⟩ = some (.bool s.x0) := cell_of (qa)
  have x15 : w0.cell? ⟨w.heap.size, 15, none⟩ = some (.bool s.x1) := cell_of (qa)
  have HF0 := Lib.hid f0
  have HQA := Lib.hid qa
  have HQB := Lib.hid qb
  have hz0 := lt_of_heap qb
  have HC := Lib.hid (r_closer (w := w0) (N := (fun x => N x ∧ x < w.heap.size)) (v := .agg #[.int .i64 s.m1.c, .slice a2 s.m1.q.length k2, .bool s.m1.busy, .slice a3 s.m1.rest.length k3, .int .i64 s.m1.acc, .int .i64 s.m1.w, .int .i64 s.m1.r]) (m := s.m1) ⟨_, _, rfl, p2.keep f0 (by simp), p3.keep f0 (by simp)⟩ 14)
  generalize (closerM s.m1 14).m = mf at *
  generalize (closerM s.m1 14).err = ee at *
  have HP := Lib.hid (And.intro (And.intro p0 p1) (And.intro p2 p3))
  clear f0 qa qb p0 p1 p2 p3
  go_enter Try.func108, Try.ntmps108
  go_wp2_with fail
  refine (r15_end _ _).mono ?_
  rintro e w' ⟨rfl, rfl⟩
  clear hw0
  go_wp2_with fail
  refine HC.out.mono ?_
  rintro e w1 ⟨v', rfl, f1, u4, u5, rfl, hp4', hp5'⟩
  have hp4 : PartV w1 (fun x => (fun x => N x ∧ x < w.heap.size) x ∨ w0.heap.size ≤ x) _ _ := hp4'.mono (fun x hx => .inl hx)
  have hp5 : PartV w1 (fun x => (fun x => N x ∧ x < w.heap.size) x ∨ w0.heap.size ≤ x) _ _ := hp5'.mono (fun x hx => .inl hx)
  clear hp4' hp5'
  obtain ⟨a4, k4, rfl, _⟩ := id hp4
  obtain ⟨a5, k5, rfl, _⟩ := id hp5
  obtain ⟨w2, hw2, f2, q2⟩ : ∃ W, w1.alloc (.cells #[.int .i64 mf.c, .slice a4 mf.q.length k4, .bool mf.busy, .slice a5 mf.rest.length k5, .int .i64 mf.acc, .int .i64 mf.w, .int .i64 mf.r] 41) = W ∧ Fr [] w1 W ∧ W.heap[w1.heap.size]? = some (.cells #[.int .i64 mf.c, .slice a4 mf.q.length k4, .bool mf.busy, .slice a5 mf.rest.length k5, .int .i64 mf.acc, .int .i64 mf.w, .int .i64 mf.r] 41 (0, 0)) := ⟨_, rfl, (Fr.refl _ _).alloc _, newA rfl⟩
  have HA2 := Lib.hid (f2.keep (f1.keep HQA.out (by simp)) (by simp))
  have HB2 := Lib.hid (f2.keep (f1.keep HQB.out (by simp)) (by simp))
  have HF2 := Lib.hid (HF0.out.then0 (f1.then0 f2))
  have z1 := f1.size
  have z2 := f2.size
  have HN := Lib.hid (And.intro (hp4.keep f2 (by simp)) (hp5.keep f2 (by simp)))
  clear x0 x1 x2 x3 x4 x5 x6 x7 x8 x9 x10 x11 x12 x13 x14 x15 hp4 hp5 HC f1 f2
  have y0 : w2.cell? ⟨w1.heap.size, 0, none⟩ = some (.int .i64 mf.c) := cell_of (q2)
  have y1 : w2.cell? ⟨w1.heap.size, 1, none⟩ = some (.slice a4 mf.q.length k4) := cell_of (q2)
  have y2 : w2.cell? ⟨w1.heap.size, 2, none⟩ = some (.bool mf.busy) := cell_of (q2)
  have y3 : w2.cell? ⟨w1.heap.size, 3, none⟩ = some (.slice a5 mf.rest.length k5) := cell_of (q2)
  have y4 : w2.cell? ⟨w1.heap.size, 4, none⟩ = some (.int .i64 mf.acc) := cell_of (q2)
  have y5 : w2.cell? ⟨w1.heap.size, 5, none⟩ = some (.int .i64 mf.w) := cell_of (q2)
  have y6 : w2.cell? ⟨w1.heap.size, 6, none⟩ = some (.int .i64 mf.r) := cell_of (q2)
  clear q2
  go_wp2_with (refine wpl_store_sub rfl 41 _ _ rfl w.heap.size 7 #[.int .i64 mf.c, .slice a4 mf.q.length k4, .bool mf.busy, .slice a5 mf.rest.length k5, .int .i64 mf.acc, .int .i64 mf.w, .int .i64 mf.r] (by rfl) (by rfl) _ _ #[.int .i64 s.m0.c, .slice a0 s.m0.q.length k0, .bool s.m0.busy, .slice a1 s.m0.rest.length k1, .int .i64 s.m0.acc, .int .i64 s.m0.w, .int .i64 s.m0.r, .int .i64 mf.c, .slice a4 mf.q.length k4, .bool mf.busy, .slice a5 mf.rest.length k5, .int .i64 mf.acc, .int .i64 mf.w, .int .i64 mf.r, .bool s.x0, .bool s.x1] HA2.out (by kernel_rfl) (by simp) (by simp [Value.oneCell']) (by rfl) ?_)
  intro w3 f3 q3
  clear hw2 y0 y1 y2 y3 y4 y5 y6
  have x0 : w3.cell? ⟨w.heap.size, 0, none⟩ = some (.int .i64 s.m0.c) := cell_of (q3)
  have x1 : w3.cell? ⟨w.heap.size, 1, none⟩ = some (.slice a0 s.m0.q.length k0) := cell_of (q3)
  have x2 : w3.cell? ⟨w.heap.size, 2, none⟩ = some (.bool s.m0.busy) := cell_of (q3)
  have x3 : w3.cell? ⟨w.heap.size, 3, none⟩ = some (.slice a1 s.m0.rest.length k1) := cell_of (q3)
  have x4 : w3.cell? ⟨w.heap.size, 4, none⟩ = some (.int .i64 s.m0.acc) := cell_of (q3)
  have x5 : w3.cell? ⟨w.heap.size, 5, none⟩ = some (.int .i64 s.m0.w) := cell_of (q3)
  have x6 : w3.cell? ⟨w.heap.size, 6, none⟩ = some (.int .i64 s.m0.r) := cell_of (q3)
  have x7 : w3.cell? ⟨w.heap.size, 7, none⟩ = some (.int .i64 mf.c) := cell_of (q3)
  have x8 : w3.cell? ⟨w.heap.size, 8, none⟩ = some (.slice a4 mf.q.length k4) := cell_of (q3)
  have x9 : w3.cell? ⟨w.heap.size, 9, none⟩ = some (.bool mf.busy) := cell_of (q3)
  have x10 : w3.cell? ⟨w.heap.size, 10, none⟩ = some (.slice a5 mf.rest.length k5) := cell_of (q3)
  have x11 : w3.cell? ⟨w.heap.size, 11, none⟩ = some (.int .i64 mf.acc) := cell_of (q3)
  have x12 : w3.cell? ⟨w.heap.size, 12, none⟩ = some (.int .i64 mf.w) := cell_of (q3)
  have x13 : w3.cell? ⟨w.heap.size, 13, none⟩ = some (.int .i64 mf.r) := cell_of (q3)
  have x14 : w3.cell? ⟨w.heap.size, 14, none⟩ = some (.bool s.x0) := cell_of (q3)
  have x15 : w3.cell? ⟨w.heap.size, 15, none⟩ = some (.bool s.x1) := cell_of (q3)
  have HB3 := Lib.hid (f3.keep HB2.out (by simp))
  have HF3 := Lib.hid f3
  clear f3 q3
  go_wp2_with (refine wpl_store rfl 44 _ _ rfl (w.heap.size + 1) #[.int .i64 s.m0.c, .slice a0 s.m0.q.length k0, .bool s.m0.busy, .slice a1 s.m0.rest.length k1, .int .i64 s.m0.acc, .int .i64 s.m0.w, .int .i64 s.m0.r, .int .i64 mf.c, .slice a4 mf.q.length k4, .bool mf.busy, .slice a5 mf.rest.length k5, .int .i64 mf.acc, .int .i64 mf.w, .int .i64 mf.r, .bool s.x0, .bool s.x1] (by rfl) (by rfl) _ _ HB3.out (by kernel_rfl) rfl (by simp [Value.oneCell']) ?_)
  intro w4 f4 q4
  clear x0 x1 x2 x3 x4 x5 x6 x7 x8 x9 x10 x11 x12 x13 x14 x15
  have y0 : w4.cell? ⟨(w.heap.size + 1), 0, none⟩ = some (.int .i64 s.m0.c) := cell_of (q4)
  have y1 : w4.cell? ⟨(w.heap.size + 1), 1, none⟩ = some (.slice a0 s.m0.q.length k0) := cell_of (q4)
  have y2 : w4.cell? ⟨(w.heap.size + 1), 2, none⟩ = some (.bool s.m0.busy) := cell_of (q4)
  have y3 : w4.cell? ⟨(w.heap.size + 1), 3, none⟩ = some (.slice a1 s.m0.rest.length k1) := cell_of (q4)
  have y4 : w4.cell? ⟨(w.heap.size + 1), 4, none⟩ = some (.int .i64 s.m0.acc) := cell_of (q4)
  have y5 : w4.cell? ⟨(w.heap.size + 1), 5, none⟩ = some (.int .i64 s.m0.w) := cell_of (q4)
  have y6 : w4.cell? ⟨(w.heap.size + 1), 6, none⟩ = some (.int .i64 s.m0.r) := cell_of (q4)
  have y7 : w4.cell? ⟨(w.heap.size + 1), 7, none⟩ = some (.int .i64 mf.c) := cell_of (q4)
  have y8 : w4.cell? ⟨(w.heap.size + 1), 8, none⟩ = some (.slice a4 mf.q.length k4) := cell_of (q4)
  have y9 : w4.cell? ⟨(w.heap.size + 1), 9, none⟩ = some (.bool mf.busy) := cell_of (q4)
  have y10 : w4.cell? ⟨(w.heap.size + 1), 10, none⟩ = some (.slice a5 mf.rest.length k5) := cell_of (q4)
  have y11 : w4.cell? ⟨(w.heap.size + 1), 11, none⟩ = some (.int .i64 mf.acc) := cell_of (q4)
  have y12 : w4.cell? ⟨(w.heap.size + 1), 12, none⟩ = some (.int .i64 mf.w) := cell_of (q4)
  have y13 : w4.cell? ⟨(w.heap.size + 1), 13, none⟩ = some (.int .i64 mf.r) := cell_of (q4)
  have y14 : w4.cell? ⟨(w.heap.size + 1), 14, none⟩ = some (.bool s.x0) := cell_of (q4)
  have y15 : w4.cell? ⟨(w.heap.size + 1), 15, none⟩ = some (.bool s.x1) := cell_of (q4)
  have HF4 := Lib.hid f4
  clear f4 q4
  go_wp2_with fail
  refine bodyPost_ret (v := .tuple #[.agg #[.int .i64 s.m0.c, .slice a0 s.m0.q.length k0, .bool s.m0.busy, .slice a1 s.m0.rest.length k1, .int .i64 s.m0.acc, .int .i64 s.m0.w, .int .i64 s.m0.r, .int .i64 mf.c, .slice a4 mf.q.length k4, .bool mf.busy, .slice a5 mf.rest.length k5, .int .i64 mf.acc, .int .i64 mf.w, .int .i64 mf.r, .bool s.x0, .bool s.x1], .int .i64 ee]) (by simp [results, Try.results108, go_sem, y0, y1, y2, y3, y4, y5, y6, y7, y8, y9, y10, y11, y12, y13, y14, y15]) rfl ?_
  have F34 : Fr [w.heap.size, w.heap.size + 1] w2 w4 := HF3.out.trans HF4.out (fun x hx => .inl (by simp at hx; simp [hx])) (fun x hx => .inl (by simp at hx; simp [hx]))
  have F : Fr [] w w4 := HF2.out.trans F34 (by simp) (fun x hx => .inr (by simp at hx; omega))
  have KN : ∀ {v : Value} {l : List UInt8}, PartV w2 (fun x => (fun x => N x ∧ x < w.heap.size) x ∨ w0.heap.size ≤ x) v l → PartV w4 (fun x => N x ∨ w.heap.size ≤ x) v l := fun h => (h.keep F34 (fun x hx hn => by simp at hx; rcases hn with hn | hn; have := hn.2; omega; omega)).mono (fun x hx => hx.imp (fun h => h.1) (fun h => by omega))
  have KO : ∀ {v : Value} {l : List UInt8}, PartV w (fun x => N x ∧ x < w.heap.size) v l → PartV w4 (fun x => N x ∨ w.heap.size ≤ x) v l := fun h => (h.keep F (by simp)).mono (fun x hx => .inl hx.1)
  exact ⟨_, rfl, F, ⟨_, _, _, _, rfl, KO HP.out.1.1, KO HP.out.1.2, KN (HN.out.1), KN (HN.out.2)⟩⟩
set_option maxHeartbeats 8000000 in
theorem r15_closewrite1 {w : World} {N : Nat → Prop} {v : Value} {s : DM} (h : Cv w N v s) :
    Calls Try.prog 107 #[v, .int .i64 1] w fun e w' => ∃ v', e = .returned (.tuple #[v', .int .i64 (closewM s.m1 13).err]) ∧ Fr [] w w' ∧ Cv w' (fun x => N x ∨ w.heap.size ≤ x) v' { s with m1 := (closewM s.m1 13).m } := by
  replace h := h.there
  obtain ⟨u0, u1, u2, u3, rfl, p0, p1, p2, p3⟩ := h
  obtain ⟨a0, k0, rfl, _⟩ := id p0
  obtain ⟨a1, k1, rfl, _⟩ := id p1
  obtain ⟨a2, k2, rfl, _⟩ := id p2
  obtain ⟨a3, k3, rfl, _⟩ := id p3
  obtain ⟨w0, hw0, f0, qa, qb⟩ : ∃ W, (w.alloc (.cells #[.int .i64 s.m0.c, .slice a0 s.m0.q.length k0, .bool s.m0.busy, .slice a1 s.m0.rest.length k1, .int .i64 s.m0.acc, .int .i64 s.m0.w, .int .i64 s.m0.r, .int .i64 s.m1.c, .slice a2 s.m1.q.length k2, .bool s.m1.busy, .slice a3 s.m1.rest.length k3, .int .i64 s.m1.acc, .int .i64 s.m1.w, .int .i64 s.m1.r, .bool s.x0, .bool s.x1] 44)).alloc (.cells #[.int .i64 0, .slice none 0 0, .bool false, .slice none 0 0, .int .i64 0, .int .i64 0, .int .i64 0, .int .i64 0, .slice none 0 0, .bool false, .slice none 0 0, .int .i64 0, .int .i64 0, .int .i64 0, .bool false, .bool false] 44) = W ∧ Fr [] w W ∧ W.heap[w.heap.size]? = some (.cells #[.int .i64 s.m0.c, .slice a0 s.m0.q.length k0, .bool s.m0.busy, .slice a1 s.m0.rest.length k1, .int .i64 s.m0.acc, .int .i64 s.m0.w, .int .i64 s.m0.r, .int .i64 s.m1.c, .slice a2 s.m1.q.length k2, .bool s.m1.busy, .slice a3 s.m1.rest.length k3, .int .i64 s.m1.acc, .int .i64 s.m1.w, .int .i64 s.m1.r, .bool s.x0, .bool s.x1] 44 (0, 0)) ∧ W.heap[w.heap.size + 1]? = some (.cells #[.int .i64 0, .slice none 0 0, .bool false, .slice none 0 0, .int .i64 0, .int .i64 0, .int .i64 0, .int .i64 0, .slice none 0 0, .bool false, .slice none 0 0, .int .i64 0, .int .i64 0, .int .i64 0, .bool false, .bool false] 44 (0, 0)) := ⟨_, rfl, ((Fr.refl _ _).alloc _).alloc _, keepA (newA rfl), newA (by simp)⟩
  have x0 : w0.cell? ⟨w.heap.size, 0, none⟩ = some (.int .i64 s.m0.c) := cell_of (qa)
  have x1 : w0.cell? ⟨w.heap.size, 1, none⟩ = some (.slice a0 s.m0.q.length k0) := cell_of (qa)
  have x2 : w0.cell? ⟨w.heap.size, 2, none⟩ = some (.bool s.m0.busy) := cell_of (qa)
  have x3 : w0.cell? ⟨w.heap.size, 3, none⟩ = some (.slice a1 s.m0.rest.length k1) := cell_of (qa)
  have x4 : w0.cell? ⟨w.heap.size, 4, none⟩ = some (.int .i64 s.m0.acc) := cell_of (qa)
  have x5 : w0.cell? ⟨w.heap.size, 5, none⟩ = some (.int .i64 s.m0.w) := cell_of (qa)
  have x6 : w0.cell? ⟨w.heap.size, 6, none⟩ = some (.int .i64 s.m0.r) := cell_of (qa)
  have x7 : w0.cell? ⟨w.heap.size, 7, none⟩ = some (.int .i64 s.m1.c) := cell_of (qa)
  have x8 : w0.cell? ⟨w.heap.size, 8, none⟩ = some (.slice a2 s.m1.q.length k2) := cell_of (qa)
  have x9 : w0.cell? ⟨w.heap.size, 9, none⟩ = some (.bool s.m1.busy) := cell_of (qa)
  have x10 : w0.cell? ⟨w.heap.size, 10, none⟩ = some (.slice a3 s.m1.rest.length k3) := cell_of (qa)
  have x11 : w0.cell? ⟨w.heap.size, 11, none⟩ = some (.int .i64 s.m1.acc) := cell_of (qa)
  have x12 : w0.cell? ⟨w.heap.size, 12, none⟩ = some (.int .i64 s.m1.w) := cell_of (qa)
  have x13 : w0.cell? ⟨w.heap.size, 13, none⟩ = some (.int .i64 s.m1.r) := cell_of (qa)
  have x14 : w0.cell? ⟨w.heap.size, 14, none⟩ = some (.bool s.x0) := cell_of (qa)
  have x15 : w0.cell? ⟨w.heap.size, 15, none⟩ = some (.bool s.x1) := cell_of (qa)
  have HF0 := Lib.hid f0
  have HQA := Lib.hid qa
  have HQB := Lib.hid qb
  have hz0 := lt_of_heap qb
  have HC := Lib.hid (r_closew (w := w0) (N := (fun x => N x ∧ x < w.heap.size)) (v := .agg #[.int .i64 s.m1.c, .slice a2 s.m1.q.length k2, .bool s.m1.busy, .slice a3 s.m1.rest.length k3, .int .i64 s.m1.acc, .int .i64 s.m1.w, .int .i64 s.m1.r]) (m := s.m1) ⟨_, _, rfl, p2.keep f0 (by simp), p3.keep f0 (by simp)⟩ 13)
  generalize (closewM s.m1 13).m = mf at *
  generalize (closewM s.m1 13).err = ee at *
  have HP := Lib.hid (And.intro (And.intro p0 p1) (And.intro p2 p3))
  clear f0 qa qb p0 p1 p2 p3
  go_enter Try.func107, Try.ntmps107
  go_wp2_with fail
  refine (r15_end _ _).mono ?_
  rintro e w' ⟨rfl, rfl⟩
  clear hw0
  go_wp2_with fail
  refine HC.out.mono ?_
  rintro e w1 ⟨v', rfl, f1, u4, u5, rfl, hp4', hp5'⟩
  have hp4 : PartV w1 (fun x => (fun x => N x ∧ x < w.heap.size) x ∨ w0.heap.size ≤ x) _ _ := hp4'.mono (fun x hx => .inl hx)
  have hp5 : PartV w1 (fun x => (fun x => N x ∧ x < w.heap.size) x ∨ w0.heap.size ≤ x) _ _ := hp5'.mono (fun x hx => .inl hx)
  clear hp4' hp5'
  obtain ⟨a4, k4, rfl, _⟩ := id hp4
  obtain ⟨a5, k5, rfl, _⟩ := id hp5
  obtain ⟨w2, hw2, f2, q2⟩ : ∃ W, w1.alloc (.cells #[.int .i64 mf.c, .slice a4 mf.q.length k4, .bool mf.busy, .slice a5 mf.rest.length k5, .int .i64 mf.acc, .int .i64 mf.w, .int .i64 mf.r] 41) = W ∧ Fr [] w1 W ∧ W.heap[w1.heap.size]? = some (.cells #[.int .i64 mf.c, .slice a4 mf.q.length k4, .bool mf.busy, .slice a5 mf.rest.length k5, .int .i64 mf.acc, .int .i64 mf.w, .int .i64 mf.r] 41 (0, 0)) := ⟨_, rfl, (Fr.refl _ _).alloc _, newA rfl⟩
  have HA2 := Lib.hid (f2.keep (f1.keep HQA.out (by simp)) (by simp))
  have HB2 := Lib.hid (f2.keep (f1.keep HQB.out (by simp)) (by simp))
  have HF2 := Lib.hid (HF0.out.then0 (f1.then0 f2))
  have z1 := f1.size
  have z2 := f2.size
  have HN := Lib.hid (And.intro (hp4.keep f2 (by simp)) (hp5.keep f2 (by simp)))
  clear x0 x1 x2 x3 x4 x5 x6 x7 x8 x9 x10 x11 x12 x13 x14 x15 hp4 hp5 HC f1 f2
  have y0 : w2.cell? ⟨w1.heap.size, 0, none⟩ = some (.int .i64 mf.c) := cell_of (q2)
  have y1 : w2.cell? ⟨w1.heap.size, 1, none⟩ = some (.slice a4 mf.q.length k4) := cell_of (q2)
  have y2 : w2.cell? ⟨w1.heap.size, 2, none⟩ = some (.bool mf.busy) := cell_of (q2)
  have y3 : w2.cell? ⟨w1.heap.size, 3, none⟩ = some (.slice a5 mf.rest.length k5) := cell_of (q2)
  have y4 : w2.cell? ⟨w1.heap.size, 4, none⟩ = some (.int .i64 mf.acc) := cell_of (q2)
  have y5 : w2.cell? ⟨w1.heap.size, 5, none⟩ = some (.int .i64 mf.w) := cell_of (q2)
  have y6 : w2.cell? ⟨w1.heap.size, 6, none⟩ = some (.int .i64 mf.r) := cell_of (q2)
  clear q2
  go_wp2_with (refine wpl_store_sub rfl 41 _ _ rfl w.heap.size 7 #[.int .i64 mf.c, .slice a4 mf.q.length k4, .bool mf.busy, .slice a5 mf.rest.length k5, .int .i64 mf.acc, .int .i64 mf.w, .int .i64 mf.r] (by rfl) (by rfl) _ _ #[.int .i64 s.m0.c, .slice a0 s.m0.q.length k0, .bool s.m0.busy, .slice a1 s.m0.rest.length k1, .int .i64 s.m0.acc, .int .i64 s.m0.w, .int .i64 s.m0.r, .int .i64 mf.c, .slice a4 mf.q.length k4, .bool mf.busy, .slice a5 mf.rest.length k5, .int .i64 mf.acc, .int .i64 mf.w, .int .i64 mf.r, .bool s.x0, .bool s.x1] HA2.out (by kernel_rfl) (by simp) (by simp [Value.oneCell']) (by rfl) ?_)
  intro w3 f3 q3
  clear hw2 y0 y1 y2 y3 y4 y5 y6
  have x0 : w3.cell? ⟨w.heap.size, 0, none⟩ = some (.int .i64 s.m0.c) := cell_of (q3)
  have x1 : w3.cell? ⟨w.heap.size, 1, none⟩ = some (.slice a0 s.m0.q.length k0) := cell_of (q3)
  have x2 : w3.cell? ⟨w.heap.size, 2, none⟩ = some (.bool s.m0.busy) := cell_of (q3)
  have x3 : w3.cell? ⟨w.heap.size, 3, none⟩ = some (.slice a1 s.m0.rest.length k1) := cell_of (q3)
  have x4 : w3.cell? ⟨w.heap.size, 4, none⟩ = some (.int .i64 s.m0.acc) := cell_of (q3)
  have x5 : w3.cell? ⟨w.heap.size, 5, none⟩ = some (.int .i64 s.m0.w) := cell_of (q3)
  have x6 : w3.cell? ⟨w.heap.size, 6, none⟩ = some (.int .i64 s.m0.r) := cell_of (q3)
  have x7 : w3.cell? ⟨w.heap.size, 7, none⟩ = some (.int .i64 mf.c) := cell_of (q3)
  have x8 : w3.cell? ⟨w.heap.size, 8, none⟩ = some (.slice a4 mf.q.length k4) := cell_of (q3)
  have x9 : w3.cell? ⟨w.heap.size, 9, none⟩ = some (.bool mf.busy) := cell_of (q3)
  have x10 : w3.cell? ⟨w.heap.size, 10, none⟩ = some (.slice a5 mf.rest.length k5) := cell_of (q3)
  have x11 : w3.cell? ⟨w.heap.size, 11, none⟩ = some (.int .i64 mf.acc) := cell_of (q3)
  have x12 : w3.cell? ⟨w.heap.size, 12, none⟩ = some (.int .i64 mf.w) := cell_of (q3)
  have x13 : w3.cell? ⟨w.heap.size, 13, none⟩ = some (.int .i64 mf.r) := cell_of (q3)
  have x14 : w3.cell? ⟨w.heap.size, 14, none⟩ = some (.bool s.x0) := cell_of (q3)
  have x15 : w3.cell? ⟨w.heap.size, 15, none⟩ = some (.bool s.x1) := cell_of (q3)
  have HB3 := Lib.hid (f3.keep HB2.out (by simp))
  have HF3 := Lib.hid f3
  clear f3 q3
  go_wp2_with (refine wpl_store rfl 44 _ _ rfl (w.heap.size + 1) #[.int .i64 s.m0.c, .slice a0 s.m0.q.length k0, .bool s.m0.busy, .slice a1 s.m0.rest.length k1, .int .i64 s.m0.acc, .int .i64 s.m0.w, .int .i64 s.m0.r, .int .i64 mf.c, .slice a4 mf.q.length k4, .bool mf.busy, .slice a5 mf.rest.length k5, .int .i64 mf.acc, .int .i64 mf.w, .int .i64 mf.r, .bool s.x0, .bool s.x1] (by rfl) (by rfl) _ _ HB3.out (by kernel_rfl) rfl (by simp [Value.oneCell']) ?_)
  intro w4 f4 q4
  clear x0 x1 x2 x3 x4 x5 x6 x7 x8 x9 x10 x11 x12 x13 x14 x15
  have y0 : w4.cell? ⟨(w.heap.size + 1), 0, none⟩ = some (.int .i64 s.m0.c) := cell_of (q4)
  have y1 : w4.cell? ⟨(w.heap.size + 1), 1, none⟩ = some (.slice a0 s.m0.q.length k0) := cell_of (q4)
  have y2 : w4.cell? ⟨(w.heap.size + 1), 2, none⟩ = some (.bool s.m0.busy) := cell_of (q4)
  have y3 : w4.cell? ⟨(w.heap.size + 1), 3, none⟩ = some (.slice a1 s.m0.rest.length k1) := cell_of (q4)
  have y4 : w4.cell? ⟨(w.heap.size + 1), 4, none⟩ = some (.int .i64 s.m0.acc) := cell_of (q4)
  have y5 : w4.cell? ⟨(w.heap.size + 1), 5, none⟩ = some (.int .i64 s.m0.w) := cell_of (q4)
  have y6 : w4.cell? ⟨(w.heap.size + 1), 6, none⟩ = some (.int .i64 s.m0.r) := cell_of (q4)
  have y7 : w4.cell? ⟨(w.heap.size + 1), 7, none⟩ = some (.int .i64 mf.c) := cell_of (q4)
  have y8 : w4.cell? ⟨(w.heap.size + 1), 8, none⟩ = some (.slice a4 mf.q.length k4) := cell_of (q4)
  have y9 : w4.cell? ⟨(w.heap.size + 1), 9, none⟩ = some (.bool mf.busy) := cell_of (q4)
  have y10 : w4.cell? ⟨(w.heap.size + 1), 10, none⟩ = some (.slice a5 mf.rest.length k5) := cell_of (q4)
  have y11 : w4.cell? ⟨(w.heap.size + 1), 11, none⟩ = some (.int .i64 mf.acc) := cell_of (q4)
  have y12 : w4.cell? ⟨(w.heap.size + 1), 12, none⟩ = some (.int .i64 mf.w) := cell_of (q4)
  have y13 : w4.cell? ⟨(w.heap.size + 1), 13, none⟩ = some (.int .i64 mf.r) := cell_of (q4)
  have y14 : w4.cell? ⟨(w.heap.size + 1), 14, none⟩ = some (.bool s.x0) := cell_of (q4)
  have y15 : w4.cell? ⟨(w.heap.size + 1), 15, none⟩ = some (.bool s.x1) := cell_of (q4)
  have HF4 := Lib.hid f4
  clear f4 q4
  go_wp2_with fail
  refine bodyPost_ret (v := .tuple #[.agg #[.int .i64 s.m0.c, .slice a0 s.m0.q.length k0, .bool s.m0.busy, .slice a1 s.m0.rest.length k1, .int .i64 s.m0.acc, .int .i64 s.m0.w, .int .i64 s.m0.r, .int .i64 mf.c, .slice a4 mf.q.length k4, .bool mf.busy, .slice a5 mf.rest.length k5, .int .i64 mf.acc, .int .i64 mf.w, .int .i64 mf.r, .bool s.x0, .bool s.x1], .int .i64 ee]) (by simp [results, Try.results107, go_sem, y0, y1, y2, y3, y4, y5, y6, y7, y8, y9, y10, y11, y12, y13, y14, y15]) rfl ?_
  have F34 : Fr [w.heap.size, w.heap.size + 1] w2 w4 := HF3.out.trans HF4.out (fun x hx => .inl (by simp at hx; simp [hx])) (fun x hx => .inl (by simp at hx; simp [hx]))
  have F : Fr [] w w4 := HF2.out.trans F34 (by simp) (fun x hx => .inr (by simp at hx; omega))
  have KN : ∀ {v : Value} {l : List UInt8}, PartV w2 (fun x => (fun x => N x ∧ x < w.heap.size) x ∨ w0.heap.size ≤ x) v l → PartV w4 (fun x => N x ∨ w.heap.size ≤ x) v l := fun h => (h.keep F34 (fun x hx hn => by simp at hx; rcases hn with hn | hn; have := hn.2; omega; omega)).mono (fun x hx => hx.imp (fun h => h.1) (fun h => by omega))
  have KO : ∀ {v : Value} {l : List UInt8}, PartV w (fun x => N x ∧ x < w.heap.size) v l → PartV w4 (fun x => N x ∨ w.heap.size ≤ x) v l := fun h => (h.keep F (by simp)).mono (fun x hx => .inl hx.1)
  exact ⟨_, rfl, F, ⟨_, _, _, _, rfl, KO HP.out.1.1, KO HP.out.1.2, KN (HN.out.1), KN (HN.out.2)⟩⟩
set_option maxHeartbeats 8000000 in
theorem r15_closeread1 {w : World} {N : Nat → Prop} {v : Value} {s : DM} (h : Cv w N v s) :
    Calls Try.prog 108 #[v, .int .i64 1] w fun e w' => ∃ v', e = .returned (.tuple #[v', .int .i64 (closerM s.m0 14).err]) ∧ Fr [] w w' ∧ Cv w' (fun x => N x ∨ w.heap.size ≤ x) v' { s with m0 := (closerM s.m0 14).m } := by
  replace h := h.there
  obtain ⟨u0, u1, u2, u3, rfl, p0, p1, p2, p3⟩ := h
  obtain ⟨a0, k0, rfl, _⟩ := id p0
  obtain ⟨a1, k1, rfl, _⟩ := id p1
  obtain ⟨a2, k2, rfl, _⟩ := id p2
  obtain ⟨a3, k3, rfl, _⟩ := id p3
  obtain ⟨w0, hw0, f0, qa, qb⟩ : ∃ W, (w.alloc (.cells #[.int .i64 s.m0.c, .slice a0 s.m0.q.length k0, .bool s.m0.busy, .slice a1 s.m0.rest.length k1, .int .i64 s.m0.acc, .int .i64 s.m0.w, .int .i64 s.m0.r, .int .i64 s.m1.c, .slice a2 s.m1.q.length k2, .bool s.m1.busy, .slice a3 s.m1.rest.length k3, .int .i64 s.m1.acc, .int .i64 s.m1.w, .int .i64 s.m1.r, .bool s.x0, .bool s.x1] 44)).alloc (.cells #[.int .i64 0, .slice none 0 0, .bool false, .slice none 0 0, .int .i64 0, .int .i64 0, .int .i64 0, .int .i64 0, .slice none 0 0, .bool false, .slice none 0 0, .int .i64 0, .int .i64 0, .int .i64 0, .bool false, .bool false] 44) = W ∧ Fr [] w W ∧ W.heap[w.heap.size]? = some (.cells #[.int .i64 s.m0.c, .slice a0 s.m0.q.length k0, .bool s.m0.busy, .slice a1 s.m0.rest.length k1, .int .i64 s.m0.acc, .int .i64 s.m0.w, .int .i64 s.m0.r, .int .i64 s.m1.c, .slice a2 s.m1.q.length k2, .bool s.m1.busy, .slice a3 s.m1.rest.length k3, .int .i64 s.m1.acc, .int .i64 s.m1.w, .int .i64 s.m1.r, .bool s.x0, .bool s.x1] 44 (0, 0)) ∧ W.heap[w.heap.size + 1]? = some (.cells #[.int .i64 0, .slice none 0 0, .bool false, .slice none 0 0, .int .i64 0, .int .i64 0, .int .i64 0, .int .i64 0, .slice none 0 0, .bool false, .slice none 0 0, .int .i64 0, .int .i64 0, .int .i64 0, .bool false, .bool false] 44 (0, 0)) := ⟨_, rfl, ((Fr.refl _ _).alloc _).alloc _, keepA (newA rfl), newA (by simp)⟩
  have x0 : w0.cell? ⟨w.heap.size, 0, none⟩ = some (.int .i64 s.m0.c) := cell_of (qa)
  have x1 : w0.cell? ⟨w.heap.size, 1, none⟩ = some (.slice a0 s.m0.q.length k0) := cell_of (qa)
  have x2 : w0.cell? ⟨w.heap.size, 2, none⟩ = some (.bool s.m0.busy) := cell_of (qa)
  have x3 : w0.cell? ⟨w.heap.size, 3, none⟩ = some (.slice a1 s.m0.rest.length k1) := cell_of (qa)
  have x4 : w0.cell? ⟨w.heap.size, 4, none⟩ = some (.int .i64 s.m0.acc) := cell_of (qa)
  have x5 : w0.cell? ⟨w.heap.size, 5, none⟩ = some (.int .i64 s.m0.w) := cell_of (qa)
  have x6 : w0.cell? ⟨w.heap.size, 6, none⟩ = some (.int .i64 s.m0.r) := cell_of (qa)
  have x7 : w0.cell? ⟨w.heap.size, 7, none⟩ = some (.int .i64 s.m1.c) := cell_of (qa)
  have x8 : w0.cell? ⟨w.heap.size, 8, none⟩ = some (.slice a2 s.m1.q.length k2) := cell_of (qa)
  have x9 : w0.cell? ⟨w.heap.size, 9, none⟩ = some (.bool s.m1.busy) := cell_of (qa)
  have x10 : w0.cell? ⟨w.heap.size, 10, none⟩ = some (.slice a3 s.m1.rest.length k3) := cell_of (qa)
  have x11 : w0.cell? ⟨w.heap.size, 11, none⟩ = some (.int .i64 s.m1.acc) := cell_of (qa)
  have x12 : w0.cell? ⟨w.heap.size, 12, none⟩ = some (.int .i64 s.m1.w) := cell_of (qa)
  have x13 : w0.cell? ⟨w.heap.size, 13, none⟩ = some (.int .i64 s.m1.r) := cell_of (qa)
  have x14 : w0.cell? ⟨w.heap.size, 14, none⟩ = some (.bool s.x0) := cell_of (qa)
  have x15 : w0.cell? ⟨w.heap.size, 15, none⟩ = some (.bool s.x1) := cell_of (qa)
  have HF0 := Lib.hid f0
  have HQA := Lib.hid qa
  have HQB := Lib.hid qb
  have hz0 := lt_of_heap qb
  have HC := Lib.hid (r_closer (w := w0) (N := (fun x => N x ∧ x < w.heap.size)) (v := .agg #[.int .i64 s.m0.c, .slice a0 s.m0.q.length k0, .bool s.m0.busy, .slice a1 s.m0.rest.length k1, .int .i64 s.m0.acc, .int .i64 s.m0.w, .int .i64 s.m0.r]) (m := s.m0) ⟨_, _, rfl, p0.keep f0 (by simp), p1.keep f0 (by simp)⟩ 14)
  generalize (closerM s.m0 14).m = mf at *
  generalize (closerM s.m0 14).err = ee at *
  have HP := Lib.hid (And.intro (And.intro p0 p1) (And.intro p2 p3))
  clear f0 qa qb p0 p1 p2 p3
  go_enter Try.func108, Try.ntmps108
  go_wp2_with fail
  refine (r15_end _ _).mono ?_
  rintro e w' ⟨rfl, rfl⟩
  clear hw0
  go_wp2_with fail
  refine HC.out.mono ?_
  rintro e w1 ⟨v', rfl, f1, u4, u5, rfl, hp4', hp5'⟩
  have hp4 : PartV w1 (fun x => (fun x => N x ∧ x < w.heap.size) x ∨ w0.heap.size ≤ x) _ _ := hp4'.mono (fun x hx => .inl hx)
  have hp5 : PartV w1 (fun x => (fun x => N x ∧ x < w.heap.size) x ∨ w0.heap.size ≤ x) _ _ := hp5'.mono (fun x hx => .inl hx)
  clear hp4' hp5'
  obtain ⟨a4, k4, rfl, _⟩ := id hp4
  obtain ⟨a5, k5, rfl, _⟩ := id hp5
  obtain ⟨w2, hw2, f2, q2⟩ : ∃ W, w1.alloc (.cells #[.int .i64 mf.c, .slice a4 mf.q.length k4, .bool mf.busy, .slice a5 mf.rest.length k5, .int .i64 mf.acc, .int .i64 mf.w, .int .i64 mf.r] 41) = W ∧ Fr [] w1 W ∧ W.heap[w1.heap.size]? = some (.cells #[.int .i64 mf.c, .slice a4 mf.q.length k4, .bool mf.busy, .slice a5 mf.rest.length k5, .int .i64 mf.acc, .int .i64 mf.w, .int .i64 mf.r] 41 (0, 0)) := ⟨_, rfl, (Fr.refl _ _).alloc _, newA rfl⟩
  have HA2 := Lib.hid (f2.keep (f1.keep HQA.out (by simp)) (by simp))
  have HB2 := Lib.hid (f2.keep (f1.keep HQB.out (by simp)) (by simp))
  have HF2 := Lib.hid (HF0.out.then0 (f1.then0 f2))
  have z1 := f1.size
  have z2 := f2.size
  have HN := Lib.hid (And.intro (hp4.keep f2 (by simp)) (hp5.keep f2 (by simp)))
  clear x0 x1 x2 x3 x4 x5 x6 x7 x8 x9 x10 x11 x12 x13 x14 x15 hp4 hp5 HC f1 f2
  have y0 : w2.cell? ⟨w1.heap.size, 0, none⟩ = some (.int .i64 mf.c) := cell_of (q2)
  have y1 : w2.cell? ⟨w1.heap.size, 1, none⟩ = some (.slice a4 mf.q.length k4) := cell_of (q2)
  have y2 : w2.cell? ⟨w1.heap.size, 2, none⟩ = some (.bool mf.busy) := cell_of (q2)
  have y3 : w2.cell? ⟨w1.heap.size, 3, none⟩ = some (.slice a5 mf.rest.length k5) := cell_of (q2)
  have y4 : w2.cell? ⟨w1.heap.size, 4, none⟩ = some (.int .i64 mf.acc) := cell_of (q2)
  have y5 : w2.cell? ⟨w1.heap.size, 5, none⟩ = some (.int .i64 mf.w) := cell_of (q2)
  have y6 : w2.cell? ⟨w1.heap.size, 6, none⟩ = some (.int .i64 mf.r) := cell_of (q2)
  clear q2
  go_wp2_with (refine wpl_store_sub rfl 41 _ _ rfl w.heap.size 0 #[.int .i64 mf.c, .slice a4 mf.q.length k4, .bool mf.busy, .slice a5 mf.rest.length k5, .int .i64 mf.acc, .int .i64 mf.w, .int .i64 mf.r] (by rfl) (by rfl) _ _ #[.int .i64 mf.c, .slice a4 mf.q.length k4, .bool mf.busy, .slice a5 mf.rest.length k5, .int .i64 mf.acc, .int .i64 mf.w, .int .i64 mf.r, .int .i64 s.m1.c, .slice a2 s.m1.q.length k2, .bool s.m1.busy, .slice a3 s.m1.rest.length k3, .int .i64 s.m1.acc, .int .i64 s.m1.w, .int .i64 s.m1.r, .bool s.x0, .bool s.x1] HA2.out (by kernel_rfl) (by simp) (by simp [Value.oneCell']) (by rfl) ?_)
  intro w3 f3 q3
  clear hw2 y0 y1 y2 y3 y4 y5 y6
  have x0 : w3.cell? ⟨w.heap.size, 0, none⟩ = some (.int .i64 mf.c) := cell_of (q3)
  have x1 : w3.cell? ⟨w.heap.size, 1, none⟩ = some (.slice a4 mf.q.length k4) := cell_of (q3)
  have x2 : w3.cell? ⟨w.heap.size, 2, none⟩ = some (.bool mf.busy) := cell_of (q3)
  have x3 : w3.cell? ⟨w.heap.size, 3, none⟩ = some (.slice a5 mf.rest.length k5) := cell_of (q3)
  have x4 : w3.cell? ⟨w.heap.size, 4, none⟩ = some (.int .i64 mf.acc) := cell_of (q3)
  have x5 : w3.cell? ⟨w.heap.size, 5, none⟩ = some (.int .i64 mf.w) := cell_of (q3)
  have x6 : w3.cell? ⟨w.heap.size, 6, none⟩ = some (.int .i64 mf.r) := cell_of (q3)
  have x7 : w3.cell? ⟨w.heap.size, 7, none⟩ = some (.int .i64 s.m1.c) := cell_of (q3)
  have x8 : w3.cell? ⟨w.heap.size, 8, none⟩ = some (.slice a2 s.m1.q.length k2) := cell_of (q3)
  have x9 : w3.cell? ⟨w.heap.size, 9, none⟩ = some (.bool s.m1.busy) := cell_of (q3)
  have x10 : w3.cell? ⟨w.heap.size, 10, none⟩ = some (.slice a3 s.m1.rest.length k3) := cell_of (q3)
  have x11 : w3.cell? ⟨w.heap.size, 11, none⟩ = some (.int .i64 s.m1.acc) := cell_of (q3)
  have x12 : w3.cell? ⟨w.heap.size, 12, none⟩ = some (.int .i64 s.m1.w) := cell_of (q3)
  have x13 : w3.cell? ⟨w.heap.size, 13, none⟩ = some (.int .i64 s.m1.r) := cell_of (q3)
  have x14 : w3.cell? ⟨w.heap.size, 14, none⟩ = some (.bool s.x0) := cell_of (q3)
  have x15 : w3.cell? ⟨w.heap.size, 15, none⟩ = some (.bool s.x1) := cell_of (q3)
  have HB3 := Lib.hid (f3.keep HB2.out (by simp))
  have HF3 := Lib.hid f3
  clear f3 q3
  go_wp2_with (refine wpl_store rfl 44 _ _ rfl (w.heap.size + 1) #[.int .i64 mf.c, .slice a4 mf.q.length k4, .bool mf.busy, .slice a5 mf.rest.length k5, .int .i64 mf.acc, .int .i64 mf.w, .int .i64 mf.r, .int .i64 s.m1.c, .slice a2 s.m1.q.length k2, .bool s.m1.busy, .slice a3 s.m1.rest.length k3, .int .i64 s.m1.acc, .int .i64 s.m1.w, .int .i64 s.m1.r, .bool s.x0, .bool s.x1] (by rfl) (by rfl) _ _ HB3.out (by kernel_rfl) rfl (by simp [Value.oneCell']) ?_)
  intro w4 f4 q4
  clear x0 x1 x2 x3 x4 x5 x6 x7 x8 x9 x10 x11 x12 x13 x14 x15
  have y0 : w4.cell? ⟨(w.heap.size + 1), 0, none⟩ = some (.int .i64 mf.c) := cell_of (q4)
  have y1 : w4.cell? ⟨(w.heap.size + 1), 1, none⟩ = some (.slice a4 mf.q.length k4) := cell_of (q4)
  have y2 : w4.cell? ⟨(w.heap.size + 1), 2, none⟩ = some (.bool mf.busy) := cell_of (q4)
  have y3 : w4.cell? ⟨(w.heap.size + 1), 3, none⟩ = some (.slice a5 mf.rest.length k5) := cell_of (q4)
  have y4 : w4.cell? ⟨(w.heap.size + 1), 4, none⟩ = some (.int .i64 mf.acc) := cell_of (q4)
  have y5 : w4.cell? ⟨(w.heap.size + 1), 5, none⟩ = some (.int .i64 mf.w) := cell_of (q4)
  have y6 : w4.cell? ⟨(w.heap.size + 1), 6, none⟩ = some (.int .i64 mf.r) := cell_of (q4)
  have y7 : w4.cell? ⟨(w.heap.size + 1), 7, none⟩ = some (.int .i64 s.m1.c) := cell_of (q4)
  have y8 : w4.cell? ⟨(w.heap.size + 1), 8, none⟩ = some (.slice a2 s.m1.q.length k2) := cell_of (q4)
  have y9 : w4.cell? ⟨(w.heap.size + 1), 9, none⟩ = some (.bool s.m1.busy) := cell_of (q4)
  have y10 : w4.cell? ⟨(w.heap.size + 1), 10, none⟩ = some (.slice a3 s.m1.rest.length k3) := cell_of (q4)
  have y11 : w4.cell? ⟨(w.heap.size + 1), 11, none⟩ = some (.int .i64 s.m1.acc) := cell_of (q4)
  have y12 : w4.cell? ⟨(w.heap.size + 1), 12, none⟩ = some (.int .i64 s.m1.w) := cell_of (q4)
  have y13 : w4.cell? ⟨(w.heap.size + 1), 13, none⟩ = some (.int .i64 s.m1.r) := cell_of (q4)
  have y14 : w4.cell? ⟨(w.heap.size + 1), 14, none⟩ = some (.bool s.x0) := cell_of (q4)
  have y15 : w4.cell? ⟨(w.heap.size + 1), 15, none⟩ = some (.bool s.x1) := cell_of (q4)
  have HF4 := Lib.hid f4
  clear f4 q4
  go_wp2_with fail
  refine bodyPost_ret (v := .tuple #[.agg #[.int .i64 mf.c, .slice a4 mf.q.length k4, .bool mf.busy, .slice a5 mf.rest.length k5, .int .i64 mf.acc, .int .i64 mf.w, .int .i64 mf.r, .int .i64 s.m1.c, .slice a2 s.m1.q.length k2, .bool s.m1.busy, .slice a3 s.m1.rest.length k3, .int .i64 s.m1.acc, .int .i64 s.m1.w, .int .i64 s.m1.r, .bool s.x0, .bool s.x1], .int .i64 ee]) (by simp [results, Try.results108, go_sem, y0, y1, y2, y3, y4, y5, y6, y7, y8, y9, y10, y11, y12, y13, y14, y15]) rfl ?_
  have F34 : Fr [w.heap.size, w.heap.size + 1] w2 w4 := HF3.out.trans HF4.out (fun x hx => .inl (by simp at hx; simp [hx])) (fun x hx => .inl (by simp at hx; simp [hx]))
  have F : Fr [] w w4 := HF2.out.trans F34 (by simp) (fun x hx => .inr (by simp at hx; omega))
  have KN : ∀ {v : Value} {l : List UInt8}, PartV w2 (fun x => (fun x => N x ∧ x < w.heap.size) x ∨ w0.heap.size ≤ x) v l → PartV w4 (fun x => N x ∨ w.heap.size ≤ x) v l := fun h => (h.keep F34 (fun x hx hn => by simp at hx; rcases hn with hn | hn; have := hn.2; omega; omega)).mono (fun x hx => hx.imp (fun h => h.1) (fun h => by omega))
  have KO : ∀ {v : Value} {l : List UInt8}, PartV w (fun x => N x ∧ x < w.heap.size) v l → PartV w4 (fun x => N x ∨ w.heap.size ≤ x) v l := fun h => (h.keep F (by simp)).mono (fun x hx => .inl hx.1)
  exact ⟨_, rfl, F, ⟨_, _, _, _, rfl, KN (HN.out.1), KN (HN.out.2), KO HP.out.2.1, KO HP.out.2.2⟩⟩

end Go.Proofs.Ytdoamelhclnphaa
