/-
  The reference of layer 15: Close of a closed end, Progress.
-/
import Derived.Test.YtdoamelhclnphaaGs
import Derived.Test.YtdoamelhclnphaaRefX
import Derived.Test.YtdoamelhclnphaaDxClose
import Derived.Deep.DeepCutAuto
import Derived.Deep.CutBlock
namespace Go.Proofs.Ytdoamelhclnphaa
open Go.RowKit
set_option maxRecDepth 100000

set_option maxHeartbeats 8000000 in
theorem r15_close0_yes {w : World} {N : Nat → Prop} {v : Value} {s : DM} (h : Cv w N v s) (hx : s.x0 = true) :
    Calls Try.prog 109 #[v, .int .i64 0] w fun e w' => ∃ v', e = .returned (.tuple #[v', .int .i64 14]) ∧ Fr [] w w' ∧ Cv w' N v' s := by
  replace h := h.there
  obtain ⟨u0, u1, u2, u3, rfl, p0, p1, p2, p3⟩ := h
  obtain ⟨a0, k0, rfl, _⟩ := id p0
  obtain ⟨a1, k1, rfl, _⟩ := id p1
  obtain ⟨a2, k2, rfl, _⟩ := id p2
  obtain ⟨a3, k3, rfl, _⟩ := id p3
  obtain ⟨w0, hw0, f0, qa, qb⟩ : ∃ W, (w.alloc (.cells #[.int .i64 s.m0.c, .slice a0 s.m0.q.length k0, .bool s.m0.busy, .slice a1 s.m0.rest.length k1, .int .i64 s.m0.acc, .int .i64 s.m0.w, .int .i64 s.m0.r, .int .i64 s.m1.c, .slice a2 s.m1.q.length k2, .bool s.m1.busy, .slice a3 s.m1.rest.length k3, .int .i64 s.m1.acc, .int .i64 s.m1.w, .int .i64 s.m1.r, .bool s.x0, .bool s.x1] 44)).alloc (.cells #[.int .i64 0, .slice none 0 0, .bool false, .slice none 0 0, .int .i64 0, .int .i64 0, .int .i64 0, .int .i64 0, .slice none 0 0, .bool false, .slice none 0 0, .int .i64 0, .int .i64 0, .int .i64 0, .bool false, .bool false] 44) = W ∧ Fr [] w W ∧ W.heap[w.heap.size]? = some (.cells #[.int .i64 s.m0.c, .slice a0 s.m0.q.length k0, .bool s.m0.busy, .slice a1 s.m0.rest.length k1, .int .i64 s.m0.acc, .int .i64 s.m0.w, .int .i64 s.m0.r, .int .i64 s.m1.c, .slice a2 s.m1.q.length k2, .bool s.m1.busy, .slice a3 s.m1.rest.length k3, .int .i64 s.m1.acc, .int .i64 s.m1.w, .int .i64 s.m1.r, .bool s.x0, .bool s.x1] 44 (0, 0)) ∧ W.heap[w.heap.size + 1]? = some (.cells #[.int .i64 0, .slice none 0 0, .bool false, .slice none 0 0, .int .i64 0, .int .i64 0, .int .i64 0, .int .i64 0, .slice none 0 0, .bool false, .slice none 0 0, .int .i64 0, .int .i64 0, .int .i64 0, .bool false, .bool false] 44 (0, 0)) := ⟨_, rfl, ((Fr.refl _ _).alloc _).alloc _, keepA (newA rfl), newA (by simp)⟩
  have x0 : w0.cell? ⟨w.heap.size, 0, none⟩ = some (.int .i64 s.m0.c) := cell_of (qa)
  have x1 : w0.cell? ⟨w.heap.size, 1, none⟩ = some (.slice a0 s.m0.q.length k0) := cell_of (qa)
  have x2 : w0.cell? ⟨w.heap.size, 2, none⟩ = some (.bool s.m0.busy) := cell_of (qa)
  have x3 : w0.cell? ⟨w.heap.size, 3, none⟩ = some (.slice a1 s.m0.rest.length k1) := cell_of (qa)
  have x4 : w0.cell? ⟨w.heap.size, 4, none⟩ = some (.int .i64 s.m0.acc) := cell_of (qa)
  have x5 : w0.cell? ⟨w.heap.size, 5, none⟩ = some (.int .i64 s.m0.w) := cell_of (qa)
  have x6 : w0.cell? ⟨w.heap.size, 6, none⟩ = some (.int .i64 s.m0.r) := cell_of (qa)
  have x7 : w0.cell? ⟨w.heap.size, 7, none⟩ = some (.int .i64 s.m1.c) := cell_of (qa)
  have x8 : w0.cell? ⟨w.heap.size, 8, none⟩ = some (.slice a2 s.m1.q.length k2) := cell_of (qa)
  have x9 : w0.cell? ⟨w.heap.size, 9, none⟩ = some (.bool s.m1.busy) := cell_of (qa)
  have x10 : w0.cell? ⟨w.heap.size, 10, none⟩ = some (.slice a3 s.m1.rest.length k3) := cell_of (qa)
  have x11 : w0.cell? ⟨w.heap.size, 11, none⟩ = some (.int .i64 s.m1.acc) := cell_of (qa)
  have x12 : w0.cell? ⟨w.heap.size, 12, none⟩ = some (.int .i64 s.m1.w) := cell_of (qa)
  have x13 : w0.cell? ⟨w.heap.size, 13, none⟩ = some (.int .i64 s.m1.r) := cell_of (qa)
  have x14 : w0.cell? ⟨w.heap.size, 14, none⟩ = some (.bool s.x0) := cell_of (qa)
  have x15 : w0.cell? ⟨w.heap.size, 15, none⟩ = some (.bool s.x1) := cell_of (qa)
  rw [hx] at x14
  have HF0 := Lib.hid f0
  have HQB := Lib.hid qb
  have hz0 := lt_of_heap qb
  have HP := Lib.hid (And.intro (And.intro p0 p1) (And.intro p2 p3))
  have HX := Lib.hid hx
  have HE := Lib.hid (r15_end w0 0)
  clear f0 qa qb p0 p1 p2 p3 hx
  go_enter Try.func109, Try.ntmps109
  go_wp2_with fail
  refine HE.out.mono ?_
  rintro e w' ⟨rfl, rfl⟩
  clear hw0
  go_wp2_with (refine wpl_store rfl 44 _ _ rfl (w.heap.size + 1) #[.int .i64 s.m0.c, .slice a0 s.m0.q.length k0, .bool s.m0.busy, .slice a1 s.m0.rest.length k1, .int .i64 s.m0.acc, .int .i64 s.m0.w, .int .i64 s.m0.r, .int .i64 s.m1.c, .slice a2 s.m1.q.length k2, .bool s.m1.busy, .slice a3 s.m1.rest.length k3, .int .i64 s.m1.acc, .int .i64 s.m1.w, .int .i64 s.m1.r, .bool true, .bool s.x1] (by rfl) (by rfl) _ _ HQB.out (by kernel_rfl) rfl (by simp [Value.oneCell']) ?_)
  intro w4 f4 q4
  clear x0 x1 x2 x3 x4 x5 x6 x7 x8 x9 x10 x11 x12 x13 x14 x15
  have y0 : w4.cell? ⟨(w.heap.size + 1), 0, none⟩ = some (.int .i64 s.m0.c) := cell_of (q4)
  have y1 : w4.cell? ⟨(w.heap.size + 1), 1, none⟩ = some (.slice a0 s.m0.q.length k0) := cell_of (q4)
  have y2 : w4.cell? ⟨(w.heap.size + 1), 2, none⟩ = some (.bool s.m0.busy) := cell_of (q4)
  have y3 : w4.cell? ⟨(w.heap.size + 1), 3, none⟩ = some (.slice a1 s.m0.rest.length k1) := cell_of (q4)
  have y4 : w4.cell? ⟨(w.heap.size + 1), 4, none⟩ = some (.int .i64 s.m0.acc) := cell_of (q4)
  have y5 : w4.cell? ⟨(w.heap.size + 1), 5, none⟩ = some (.int .i64 s.m0.w) := cell_of (q4)
  have y6 : w4.cell? ⟨(w.heap.size + 1), 6, none⟩ = some (.int .i64 s.m0.r) := cell_of (q4)
  have y7 : w4.cell? ⟨(w.heap.size + 1), 7, none⟩ = some (.int .i64 s.m1.c) := cell_of (q4)
  have y8 : w4.cell? ⟨(w.heap.size + 1), 8, none⟩ = some (.slice a2 s.m1.q.length k2) := cell_of (q4)
  have y9 : w4.cell? ⟨(w.heap.size + 1), 9, none⟩ = some (.bool s.m1.busy) := cell_of (q4)
  have y10 : w4.cell? ⟨(w.heap.size + 1), 10, none⟩ = some (.slice a3 s.m1.rest.length k3) := cell_of (q4)
  have y11 : w4.cell? ⟨(w.heap.size + 1), 11, none⟩ = some (.int .i64 s.m1.acc) := cell_of (q4)
  have y12 : w4.cell? ⟨(w.heap.size + 1), 12, none⟩ = some (.int .i64 s.m1.w) := cell_of (q4)
  have y13 : w4.cell? ⟨(w.heap.size + 1), 13, none⟩ = some (.int .i64 s.m1.r) := cell_of (q4)
  have y14 : w4.cell? ⟨(w.heap.size + 1), 14, none⟩ = some (.bool true) := cell_of (q4)
  have y15 : w4.cell? ⟨(w.heap.size + 1), 15, none⟩ = some (.bool s.x1) := cell_of (q4)
  have HF4 := Lib.hid f4
  clear f4 q4
  go_wp2_with fail
  refine bodyPost_ret (v := .tuple #[.agg #[.int .i64 s.m0.c, .slice a0 s.m0.q.length k0, .bool s.m0.busy, .slice a1 s.m0.rest.length k1, .int .i64 s.m0.acc, .int .i64 s.m0.w, .int .i64 s.m0.r, .int .i64 s.m1.c, .slice a2 s.m1.q.length k2, .bool s.m1.busy, .slice a3 s.m1.rest.length k3, .int .i64 s.m1.acc, .int .i64 s.m1.w, .int .i64 s.m1.r, .bool true, .bool s.x1], .int .i64 14]) (by simp [results, Try.results109, go_sem, y0, y1, y2, y3, y4, y5, y6, y7, y8, y9, y10, y11, y12, y13, y14, y15]) rfl ?_
  have F : Fr [] w w4 := HF0.out.trans HF4.out (by simp) (fun x hx => .inr (by simp at hx; omega))
  have KO : ∀ {v : Value} {l : List UInt8}, PartV w (fun x => N x ∧ x < w.heap.size) v l → PartV w4 N v l := fun h => (h.keep F (by simp)).mono (fun x hx => hx.1)
  exact ⟨_, rfl, F, ⟨_, _, _, _, by rw [HX.out], KO HP.out.1.1, KO HP.out.1.2, KO HP.out.2.1, KO HP.out.2.2⟩⟩
set_option maxHeartbeats 8000000 in
theorem r15_close1_yes {w : World} {N : Nat → Prop} {v : Value} {s : DM} (h : Cv w N v s) (hx : s.x1 = true) :
    Calls Try.prog 109 #[v, .int .i64 1] w fun e w' => ∃ v', e = .returned (.tuple #[v', .int .i64 14]) ∧ Fr [] w w' ∧ Cv w' N v' s := by
  replace h := h.there
  obtain ⟨u0, u1, u2, u3, rfl, p0, p1, p2, p3⟩ := h
  obtain ⟨a0, k0, rfl, _⟩ := id p0
  obtain ⟨a1, k1, rfl, _⟩ := id p1
  obtain ⟨a2, k2, rfl, _⟩ := id p2
  obtain ⟨a3, k3, rfl, _⟩ := id p3
  obtain ⟨w0, hw0, f0, qa, qb⟩ : ∃ W, (w.alloc (.cells #[.int .i64 s.m0.c, .slice a0 s.m0.q.length k0, .bool s.m0.busy, .slice a1 s.m0.rest.length k1, .int .i64 s.m0.acc, .int .i64 s.m0.w, .int .i64 s.m0.r, .int .i64 s.m1.c, .slice a2 s.m1.q.length k2, .bool s.m1.busy, .slice a3 s.m1.rest.length k3, .int .i64 s.m1.acc, .int .i64 s.m1.w, .int .i64 s.m1.r, .bool s.x0, .bool s.x1] 44)).alloc (.cells #[.int .i64 0, .slice none 0 0, .bool false, .slice none 0 0, .int .i64 0, .int .i64 0, .int .i64 0, .int .i64 0, .slice none 0 0, .bool false, .slice none 0 0, .int .i64 0, .int .i64 0, .int .i64 0, .bool false, .bool false] 44) = W ∧ Fr [] w W ∧ W.heap[w.heap.size]? = some (.cells #[.int .i64 s.m0.c, .slice a0 s.m0.q.length k0, .bool s.m0.busy, .slice a1 s.m0.rest.length k1, .int .i64 s.m0.acc, .int .i64 s.m0.w, .int .i64 s.m0.r, .int .i64 s.m1.c, .slice a2 s.m1.q.length k2, .bool s.m1.busy, .slice a3 s.m1.rest.length k3, .int .i64 s.m1.acc, .int .i64 s.m1.w, .int .i64 s.m1.r, .bool s.x0, .bool s.x1] 44 (0, 0)) ∧ W.heap[w.heap.size + 1]? = some (.cells #[.int .i64 0, .slice none 0 0, .bool false, .slice none 0 0, .int .i64 0, .int .i64 0, .int .i64 0, .int .i64 0, .slice none 0 0, .bool false, .slice none 0 0, .int .i64 0, .int .i64 0, .int .i64 0, .bool false, .bool false] 44 (0, 0)) := ⟨_, rfl, ((Fr.refl _ _).alloc _).alloc _, keepA (newA rfl), newA (by simp)⟩
  have x0 : w0.cell? ⟨w.heap.size, 0, none⟩ = some (.int .i64 s.m0.c) := cell_of (qa)
  have x1 : w0.cell? ⟨w.heap.size, 1, none⟩ = some (.slice a0 s.m0.q.length k0) := cell_of (qa)
  have x2 : w0.cell? ⟨w.heap.size, 2, none⟩ = some (.bool s.m0.busy) := cell_of (qa)
  have x3 : w0.cell? ⟨w.heap.size, 3, none⟩ = some (.slice a1 s.m0.rest.length k1) := cell_of (qa)
  have x4 : w0.cell? ⟨w.heap.size, 4, none⟩ = some (.int .i64 s.m0.acc) := cell_of (qa)
  have x5 : w0.cell? ⟨w.heap.size, 5, none⟩ = some (.int .i64 s.m0.w) := cell_of (qa)
  have x6 : w0.cell? ⟨w.heap.size, 6, none⟩ = some (.int .i64 s.m0.r) := cell_of (qa)
  have x7 : w0.cell? ⟨w.heap.size, 7, none⟩ = some (.int .i64 s.m1.c) := cell_of (qa)
  have x8 : w0.cell? ⟨w.heap.size, 8, none⟩ = some (.slice a2 s.m1.q.length k2) := cell_of (qa)
  have x9 : w0.cell? ⟨w.heap.size, 9, none⟩ = some (.bool s.m1.busy) := cell_of (qa)
  have x10 : w0.cell? ⟨w.heap.size, 10, none⟩ = some (.slice a3 s.m1.rest.length k3) := cell_of (qa)
  have x11 : w0.cell? ⟨w.heap.size, 11, none⟩ = some (.int .i64 s.m1.acc) := cell_of (qa)
  have x12 : w0.cell? ⟨w.heap.size, 12, none⟩ = some (.int .i64 s.m1.w) := cell_of (qa)
  have x13 : w0.cell? ⟨w.heap.size, 13, none⟩ = some (.int .i64 s.m1.r) := cell_of (qa)
  have x14 : w0.cell? ⟨w.heap.size, 14, none⟩ = some (.bool s.x0) := cell_of (qa)
  have x15 : w0.cell? ⟨w.heap.size, 15, none⟩ = some (.bool s.x1) := cell_of (qa)
  rw [hx] at x15
  have HF0 := Lib.hid f0
  have HQB := Lib.hid qb
  have hz0 := lt_of_heap qb
  have HP := Lib.hid (And.intro (And.intro p0 p1) (And.intro p2 p3))
  have HX := Lib.hid hx
  have HE := Lib.hid (r15_end w0 1)
  clear f0 qa qb p0 p1 p2 p3 hx
  go_enter Try.func109, Try.ntmps109
  go_wp2_with fail
  refine HE.out.mono ?_
  rintro e w' ⟨rfl, rfl⟩
  clear hw0
  go_wp2_with (refine wpl_store rfl 44 _ _ rfl (w.heap.size + 1) #[.int .i64 s.m0.c, .slice a0 s.m0.q.length k0, .bool s.m0.busy, .slice a1 s.m0.rest.length k1, .int .i64 s.m0.acc, .int .i64 s.m0.w, .int .i64 s.m0.r, .int .i64 s.m1.c, .slice a2 s.m1.q.length k2, .bool s.m1.busy, .slice a3 s.m1.rest.length k3, .int .i64 s.m1.acc, .int .i64 s.m1.w, .int .i64 s.m1.r, .bool s.x0, .bool true] (by rfl) (by rfl) _ _ HQB.out (by kernel_rfl) rfl (by simp [Value.oneCell']) ?_)
  intro w4 f4 q4
  clear x0 x1 x2 x3 x4 x5 x6 x7 x8 x9 x10 x11 x12 x13 x14 x15
  have y0 : w4.cell? ⟨(w.heap.size + 1), 0, none⟩ = some (.int .i64 s.m0.c) := cell_of (q4)
  have y1 : w4.cell? ⟨(w.heap.size + 1), 1, none⟩ = some (.slice a0 s.m0.q.length k0) := cell_of (q4)
  have y2 : w4.cell? ⟨(w.heap.size + 1), 2, none⟩ = some (.bool s.m0.busy) := cell_of (q4)
  have y3 : w4.cell? ⟨(w.heap.size + 1), 3, none⟩ = some (.slice a1 s.m0.rest.length k1) := cell_of (q4)
  have y4 : w4.cell? ⟨(w.heap.size + 1), 4, none⟩ = some (.int .i64 s.m0.acc) := cell_of (q4)
  have y5 : w4.cell? ⟨(w.heap.size + 1), 5, none⟩ = some (.int .i64 s.m0.w) := cell_of (q4)
  have y6 : w4.cell? ⟨(w.heap.size + 1), 6, none⟩ = some (.int .i64 s.m0.r) := cell_of (q4)
  have y7 : w4.cell? ⟨(w.heap.size + 1), 7, none⟩ = some (.int .i64 s.m1.c) := cell_of (q4)
  have y8 : w4.cell? ⟨(w.heap.size + 1), 8, none⟩ = some (.slice a2 s.m1.q.length k2) := cell_of (q4)
  have y9 : w4.cell? ⟨(w.heap.size + 1), 9, none⟩ = some (.bool s.m1.busy) := cell_of (q4)
  have y10 : w4.cell? ⟨(w.heap.size + 1), 10, none⟩ = some (.slice a3 s.m1.rest.length k3) := cell_of (q4)
  have y11 : w4.cell? ⟨(w.heap.size + 1), 11, none⟩ = some (.int .i64 s.m1.acc) := cell_of (q4)
  have y12 : w4.cell? ⟨(w.heap.size + 1), 12, none⟩ = some (.int .i64 s.m1.w) := cell_of (q4)
  have y13 : w4.cell? ⟨(w.heap.size + 1), 13, none⟩ = some (.int .i64 s.m1.r) := cell_of (q4)
  have y14 : w4.cell? ⟨(w.heap.size + 1), 14, none⟩ = some (.bool s.x0) := cell_of (q4)
  have y15 : w4.cell? ⟨(w.heap.size + 1), 15, none⟩ = some (.bool true) := cell_of (q4)
  have HF4 := Lib.hid f4
  clear f4 q4
  go_wp2_with fail
  refine bodyPost_ret (v := .tuple #[.agg #[.int .i64 s.m0.c, .slice a0 s.m0.q.length k0, .bool s.m0.busy, .slice a1 s.m0.rest.length k1, .int .i64 s.m0.acc, .int .i64 s.m0.w, .int .i64 s.m0.r, .int .i64 s.m1.c, .slice a2 s.m1.q.length k2, .bool s.m1.busy, .slice a3 s.m1.rest.length k3, .int .i64 s.m1.acc, .int .i64 s.m1.w, .int .i64 s.m1.r, .bool s.x0, .bool true], .int .i64 14]) (by simp [results, Try.results109, go_sem, y0, y1, y2, y3, y4, y5, y6, y7, y8, y9, y10, y11, y12, y13, y14, y15]) rfl ?_
  have F : Fr [] w w4 := HF0.out.trans HF4.out (by simp) (fun x hx => .inr (by simp at hx; omega))
  have KO : ∀ {v : Value} {l : List UInt8}, PartV w (fun x => N x ∧ x < w.heap.size) v l → PartV w4 N v l := fun h => (h.keep F (by simp)).mono (fun x hx => hx.1)
  exact ⟨_, rfl, F, ⟨_, _, _, _, by rw [HX.out], KO HP.out.1.1, KO HP.out.1.2, KO HP.out.2.1, KO HP.out.2.2⟩⟩
set_option maxHeartbeats 4000000 in
theorem r15_progress0 {w : World} {N : Nat → Prop} {v : Value} {s : DM} (h : Cv w N v s) :
    Calls Try.prog 110 #[v, .int .i64 0] w fun e w' => e = .returned (.tuple #[.int .i64 s.m0.acc, .bool (atEndM s.m0)]) ∧ Fr [] w w' := by
  replace h := h.there
  obtain ⟨u0, u1, u2, u3, rfl, p0, p1, p2, p3⟩ := h
  obtain ⟨a0, k0, rfl, _⟩ := id p0
  obtain ⟨a1, k1, rfl, _⟩ := id p1
  obtain ⟨a2, k2, rfl, _⟩ := id p2
  obtain ⟨a3, k3, rfl, _⟩ := id p3
  obtain ⟨w0, hw0, f0, qa⟩ : ∃ W, w.alloc (.cells #[.int .i64 s.m0.c, .slice a0 s.m0.q.length k0, .bool s.m0.busy, .slice a1 s.m0.rest.length k1, .int .i64 s.m0.acc, .int .i64 s.m0.w, .int .i64 s.m0.r, .int .i64 s.m1.c, .slice a2 s.m1.q.length k2, .bool s.m1.busy, .slice a3 s.m1.rest.length k3, .int .i64 s.m1.acc, .int .i64 s.m1.w, .int .i64 s.m1.r, .bool s.x0, .bool s.x1] 44) = W ∧ Fr [] w W ∧ W.heap[w.heap.size]? = some (.cells #[.int .i64 s.m0.c, .slice a0 s.m0.q.length k0, .bool s.m0.busy, .slice a1 s.m0.rest.length k1, .int .i64 s.m0.acc, .int .i64 s.m0.w, .int .i64 s.m0.r, .int .i64 s.m1.c, .slice a2 s.m1.q.length k2, .bool s.m1.busy, .slice a3 s.m1.rest.length k3, .int .i64 s.m1.acc, .int .i64 s.m1.w, .int .i64 s.m1.r, .bool s.x0, .bool s.x1] 44 (0, 0)) := ⟨_, rfl, (Fr.refl _ _).alloc _, newA rfl⟩
  have HF0 := Lib.hid f0
  have HQA := Lib.hid qa
  have HC := Lib.hid fun w' (f : Fr [] w0 w') => r_atend (show Sv w' (fun x => N x ∧ x < w.heap.size) (.agg #[.int .i64 s.m0.c, .slice a0 s.m0.q.length k0, .bool s.m0.busy, .slice a1 s.m0.rest.length k1, .int .i64 s.m0.acc, .int .i64 s.m0.w, .int .i64 s.m0.r]) s.m0 from ⟨_, _, rfl, p0.keep (f0.then0 f) (by simp), p1.keep (f0.then0 f) (by simp)⟩)
  have HFA := Lib.hid fun (w' : World) (f : Fr [] w0 w') => (show w'.cell? ⟨w.heap.size, 0, none⟩ = some (.int .i64 s.m0.c) ∧ w'.cell? ⟨w.heap.size, 1, none⟩ = some (.slice a0 s.m0.q.length k0) ∧ w'.cell? ⟨w.heap.size, 2, none⟩ = some (.bool s.m0.busy) ∧ w'.cell? ⟨w.heap.size, 3, none⟩ = some (.slice a1 s.m0.rest.length k1) ∧ w'.cell? ⟨w.heap.size, 4, none⟩ = some (.int .i64 s.m0.acc) ∧ w'.cell? ⟨w.heap.size, 5, none⟩ = some (.int .i64 s.m0.w) ∧ w'.cell? ⟨w.heap.size, 6, none⟩ = some (.int .i64 s.m0.r) from (let q := f.keep HQA.out (by simp); ⟨cell_of q, cell_of q, cell_of q, cell_of q, cell_of q, cell_of q, cell_of q⟩))
  clear f0 qa p0 p1 p2 p3
  have HEA := Lib.hid (Go.Proofs.enters_of Try.func88 (by kernel_rfl) rfl)
  go_enter Try.func110, Try.ntmps110
  go_wp2_with fail
  refine (r15_end _ _).mono ?_
  rintro e w' ⟨rfl, rfl⟩
  clear hw0
  go_wp2_with fail
  have fd : Fr [] w0 w0.drew := (Fr.refl _ _).drew
  refine wp_region_order [(0, true), (1, true), (2, true), (3, true), (4, true), (5, true), (6, true), (7, true), (8, true), (9, false), (10, true), (11, true)] (fun w' => Fr [] w0 w') (by kernel_rfl) (by kernel_rfl) fd ?_
  intro OPS HOPS
  have hops := HOPS.out
  try simp only [List.append_eq, List.cons_append, List.nil_append] at hops
  replace HOPS := Lib.hid hops
  clear hops
  refine walkO_take (o := _) (v := ?_) (by rw [HOPS.out]; simp only [gA, gB, gC]; exact rfl) (Or.inl ⟨rfl, ?_⟩) ?_
  rotate_left
  · (intro w hSw; have hSx := HFA.out _ hSw; (try dsimp only at hSx); clear hSw; go_simp) <;> (with_reducible rfl)
  simp only [Act.put, gD, gE, gF]
  refine walkO_take (o := _) (v := ?_) (by rw [HOPS.out]; simp only [gA, gB, gC]; exact rfl) (Or.inl ⟨rfl, ?_⟩) ?_
  rotate_left
  · (intro w hSw; have hSx := HFA.out _ hSw; (try dsimp only at hSx); clear hSw; go_simp) <;> (with_reducible rfl)
  simp only [Act.put, gD, gE, gF]
  refine walkO_take (o := _) (v := ?_) (by rw [HOPS.out]; simp only [gA, gB, gC]; exact rfl) (Or.inl ⟨rfl, ?_⟩) ?_
  rotate_left
  · (intro w hSw; have hSx := HFA.out _ hSw; (try dsimp only at hSx); clear hSw; go_simp) <;> (with_reducible rfl)
  simp only [Act.put, gD, gE, gF]
  refine walkO_take (o := _) (v := ?_) (by rw [HOPS.out]; simp only [gA, gB, gC]; exact rfl) (Or.inl ⟨rfl, ?_⟩) ?_
  rotate_left
  · (intro w hSw; have hSx := HFA.out _ hSw; (try dsimp only at hSx); clear hSw; go_simp) <;> (with_reducible rfl)
  simp only [Act.put, gD, gE, gF]
  refine walkO_take (o := _) (v := ?_) (by rw [HOPS.out]; simp only [gA, gB, gC]; exact rfl) (Or.inl ⟨rfl, ?_⟩) ?_
  rotate_left
  · (intro w hSw; have hSx := HFA.out _ hSw; (try dsimp only at hSx); clear hSw; go_simp) <;> (with_reducible rfl)
  simp only [Act.put, gD, gE, gF]
  refine walkO_take (o := _) (v := ?_) (by rw [HOPS.out]; simp only [gA, gB, gC]; exact rfl) (Or.inl ⟨rfl, ?_⟩) ?_
  rotate_left
  · (intro w hSw; have hSx := HFA.out _ hSw; (try dsimp only at hSx); clear hSw; go_simp) <;> (with_reducible rfl)
  simp only [Act.put, gD, gE, gF]
  refine walkO_take (o := _) (v := ?_) (by rw [HOPS.out]; simp only [gA, gB, gC]; exact rfl) (Or.inl ⟨rfl, ?_⟩) ?_
  rotate_left
  · (intro w hSw; have hSx := HFA.out _ hSw; (try dsimp only at hSx); clear hSw; go_simp) <;> (with_reducible rfl)
  simp only [Act.put, gD, gE, gF]
  refine walkO_take (o := _) (v := ?_) (by rw [HOPS.out]; simp only [gA, gB, gC]; exact rfl) (Or.inl ⟨rfl, ?_⟩) ?_
  rotate_left
  · (intro w hSw; have hSx := HFA.out _ hSw; (try dsimp only at hSx); clear hSw; go_simp) <;> (with_reducible rfl)
  simp only [Act.put, gD, gE, gF]
  refine walkO_take (o := _) (v := ?_) (by rw [HOPS.out]; simp only [gA, gB, gC]; exact rfl) (Or.inl ⟨rfl, ?_⟩) ?_
  rotate_left
  · (intro w hSw; have hSx := HFA.out _ hSw; (try dsimp only at hSx); clear hSw; go_simp) <;> (with_reducible rfl)
  simp only [Act.put, gD, gE, gF]
  refine walkO_call (o := _) (by rw [HOPS.out]; simp only [gA, gB, gC]; exact rfl) (fun K HK => ?_)
  refine step_call rfl 88 #[(.tmp 17)] #[41] rfl HEA.out #[.agg #[.int .i64 s.m0.c, .slice a0 s.m0.q.length k0, .bool s.m0.busy, .slice a1 s.m0.rest.length k1, .int .i64 s.m0.acc, .int .i64 s.m0.w, .int .i64 s.m0.r]] (by simp [Act.eval]) (HC.out _ fd) ?_
  rintro e w1 ⟨rfl, f1⟩
  have g1 := fd.then0 f1
  refine ⟨_, rfl, ?_⟩
  refine HK.out (fun w' => Fr [] w0 w') _ _ (fun _ h => h) (g1) ?_
  clear HK K
  simp only [Act.put, gD, gE, gF]
  refine walkO_take (o := _) (v := ?_) (by rw [HOPS.out]; simp only [gA, gB, gC]; exact rfl) (Or.inl ⟨rfl, ?_⟩) ?_
  rotate_left
  · (intro w hSw; have hSx := HFA.out _ hSw; (try dsimp only at hSx); clear hSw; go_simp) <;> (with_reducible rfl)
  simp only [Act.put, gD, gE, gF]
  refine walkO_take (o := _) (v := ?_) (by rw [HOPS.out]; simp only [gA, gB, gC]; exact rfl) (Or.inl ⟨rfl, ?_⟩) ?_
  rotate_left
  · (intro w hSw; have hSx := HFA.out _ hSw; (try dsimp only at hSx); clear hSw; go_simp) <;> (with_reducible rfl)
  simp only [Act.put, gD, gE, gF]
  refine walkO_done ?_
  clear HOPS OPS
  go_wp2_with fail
  go_ret2
  exact ⟨rfl, HF0.out.then0 g1⟩
set_option maxHeartbeats 4000000 in
theorem r15_progress1 {w : World} {N : Nat → Prop} {v : Value} {s : DM} (h : Cv w N v s) :
    Calls Try.prog 110 #[v, .int .i64 1] w fun e w' => e = .returned (.tuple #[.int .i64 s.m1.acc, .bool (atEndM s.m1)]) ∧ Fr [] w w' := by
  replace h := h.there
  obtain ⟨u0, u1, u2, u3, rfl, p0, p1, p2, p3⟩ := h
  obtain ⟨a0, k0, rfl, _⟩ := id p0
  obtain ⟨a1, k1, rfl, _⟩ := id p1
  obtain ⟨a2, k2, rfl, _⟩ := id p2
  obtain ⟨a3, k3, rfl, _⟩ := id p3
  obtain ⟨w0, hw0, f0, qa⟩ : ∃ W, w.alloc (.cells #[.int .i64 s.m0.c, .slice a0 s.m0.q.length k0, .bool s.m0.busy, .slice a1 s.m0.rest.length k1, .int .i64 s.m0.acc, .int .i64 s.m0.w, .int .i64 s.m0.r, .int .i64 s.m1.c, .slice a2 s.m1.q.length k2, .bool s.m1.busy, .slice a3 s.m1.rest.length k3, .int .i64 s.m1.acc, .int .i64 s.m1.w, .int .i64 s.m1.r, .bool s.x0, .bool s.x1] 44) = W ∧ Fr [] w W ∧ W.heap[w.heap.size]? = some (.cells #[.int .i64 s.m0.c, .slice a0 s.m0.q.length k0, .bool s.m0.busy, .slice a1 s.m0.rest.length k1, .int .i64 s.m0.acc, .int .i64 s.m0.w, .int .i64 s.m0.r, .int .i64 s.m1.c, .slice a2 s.m1.q.length k2, .bool s.m1.busy, .slice a3 s.m1.rest.length k3, .int .i64 s.m1.acc, .int .i64 s.m1.w, .int .i64 s.m1.r, .bool s.x0, .bool s.x1] 44 (0, 0)) := ⟨_, rfl, (Fr.refl _ _).alloc _, newA rfl⟩
  have HF0 := Lib.hid f0
  have HQA := Lib.hid qa
  have HC := Lib.hid fun w' (f : Fr [] w0 w') => r_atend (show Sv w' (fun x => N x ∧ x < w.heap.size) (.agg #[.int .i64 s.m1.c, .slice a2 s.m1.q.length k2, .bool s.m1.busy, .slice a3 s.m1.rest.length k3, .int .i64 s.m1.acc, .int .i64 s.m1.w, .int .i64 s.m1.r]) s.m1 from ⟨_, _, rfl, p2.keep (f0.then0 f) (by simp), p3.keep (f0.then0 f) (by simp)⟩)
  have HFA := Lib.hid fun (w' : World) (f : Fr [] w0 w') => (show w'.cell? ⟨w.heap.size, 7, none⟩ = some (.int .i64 s.m1.c) ∧ w'.cell? ⟨w.heap.size, 8, none⟩ = some (.slice a2 s.m1.q.length k2) ∧ w'.cell? ⟨w.heap.size, 9, none⟩ = some (.bool s.m1.busy) ∧ w'.cell? ⟨w.heap.size, 10, none⟩ = some (.slice a3 s.m1.rest.length k3) ∧ w'.cell? ⟨w.heap.size, 11, none⟩ = some (.int .i64 s.m1.acc) ∧ w'.cell? ⟨w.heap.size, 12, none⟩ = some (.int .i64 s.m1.w) ∧ w'.cell? ⟨w.heap.size, 13, none⟩ = some (.int .i64 s.m1.r) from (let q := f.keep HQA.out (by simp); ⟨cell_of q, cell_of q, cell_of q, cell_of q, cell_of q, cell_of q, cell_of q⟩))
  clear f0 qa p0 p1 p2 p3
  have HEA := Lib.hid (Go.Proofs.enters_of Try.func88 (by kernel_rfl) rfl)
  go_enter Try.func110, Try.ntmps110
  go_wp2_with fail
  refine (r15_end _ _).mono ?_
  rintro e w' ⟨rfl, rfl⟩
  clear hw0
  go_wp2_with fail
  have fd : Fr [] w0 w0.drew := (Fr.refl _ _).drew
  refine wp_region_order [(0, true), (1, true), (2, true), (3, true), (4, true), (5, true), (6, true), (7, true), (8, true), (9, false), (10, true), (11, true)] (fun w' => Fr [] w0 w') (by kernel_rfl) (by kernel_rfl) fd ?_
  intro OPS HOPS
  have hops := HOPS.out
  try simp only [List.append_eq, List.cons_append, List.nil_append] at hops
  replace HOPS := Lib.hid hops
  clear hops
  refine walkO_take (o := _) (v := ?_) (by rw [HOPS.out]; simp only [gA, gB, gC]; exact rfl) (Or.inl ⟨rfl, ?_⟩) ?_
  rotate_left
  · (intro w hSw; have hSx := HFA.out _ hSw; (try dsimp only at hSx); clear hSw; go_simp) <;> (with_reducible rfl)
  simp only [Act.put, gD, gE, gF]
  refine walkO_take (o := _) (v := ?_) (by rw [HOPS.out]; simp only [gA, gB, gC]; exact rfl) (Or.inl ⟨rfl, ?_⟩) ?_
  rotate_left
  · (intro w hSw; have hSx := HFA.out _ hSw; (try dsimp only at hSx); clear hSw; go_simp) <;> (with_reducible rfl)
  simp only [Act.put, gD, gE, gF]
  refine walkO_take (o := _) (v := ?_) (by rw [HOPS.out]; simp only [gA, gB, gC]; exact rfl) (Or.inl ⟨rfl, ?_⟩) ?_
  rotate_left
  · (intro w hSw; have hSx := HFA.out _ hSw; (try dsimp only at hSx); clear hSw; go_simp) <;> (with_reducible rfl)
  simp only [Act.put, gD, gE, gF]
  refine walkO_take (o := _) (v := ?_) (by rw [HOPS.out]; simp only [gA, gB, gC]; exact rfl) (Or.inl ⟨rfl, ?_⟩) ?_
  rotate_left
  · (intro w hSw; have hSx := HFA.out _ hSw; (try dsimp only at hSx); clear hSw; go_simp) <;> (with_reducible rfl)
  simp only [Act.put, gD, gE, gF]
  refine walkO_take (o := _) (v := ?_) (by rw [HOPS.out]; simp only [gA, gB, gC]; exact rfl) (Or.inl ⟨rfl, ?_⟩) ?_
  rotate_left
  · (intro w hSw; have hSx := HFA.out _ hSw; (try dsimp only at hSx); clear hSw; go_simp) <;> (with_reducible rfl)
  simp only [Act.put, gD, gE, gF]
  refine walkO_take (o := _) (v := ?_) (by rw [HOPS.out]; simp only [gA, gB, gC]; exact rfl) (Or.inl ⟨rfl, ?_⟩) ?_
  rotate_left
  · (intro w hSw; have hSx := HFA.out _ hSw; (try dsimp only at hSx); clear hSw; go_simp) <;> (with_reducible rfl)
  simp only [Act.put, gD, gE, gF]
  refine walkO_take (o := _) (v := ?_) (by rw [HOPS.out]; simp only [gA, gB, gC]; exact rfl) (Or.inl ⟨rfl, ?_⟩) ?_
  rotate_left
  · (intro w hSw; have hSx := HFA.out _ hSw; (try dsimp only at hSx); clear hSw; go_simp) <;> (with_reducible rfl)
  simp only [Act.put, gD, gE, gF]
  refine walkO_take (o := _) (v := ?_) (by rw [HOPS.out]; simp only [gA, gB, gC]; exact rfl) (Or.inl ⟨rfl, ?_⟩) ?_
  rotate_left
  · (intro w hSw; have hSx := HFA.out _ hSw; (try dsimp only at hSx); clear hSw; go_simp) <;> (with_reducible rfl)
  simp only [Act.put, gD, gE, gF]
  refine walkO_take (o := _) (v := ?_) (by rw [HOPS.out]; simp only [gA, gB, gC]; exact rfl) (Or.inl ⟨rfl, ?_⟩) ?_
  rotate_left
  · (intro w hSw; have hSx := HFA.out _ hSw; (try dsimp only at hSx); clear hSw; go_simp) <;> (with_reducible rfl)
  simp only [Act.put, gD, gE, gF]
  refine walkO_call (o := _) (by rw [HOPS.out]; simp only [gA, gB, gC]; exact rfl) (fun K HK => ?_)
  refine step_call rfl 88 #[(.tmp 17)] #[41] rfl HEA.out #[.agg #[.int .i64 s.m1.c, .slice a2 s.m1.q.length k2, .bool s.m1.busy, .slice a3 s.m1.rest.length k3, .int .i64 s.m1.acc, .int .i64 s.m1.w, .int .i64 s.m1.r]] (by simp [Act.eval]) (HC.out _ fd) ?_
  rintro e w1 ⟨rfl, f1⟩
  have g1 := fd.then0 f1
  refine ⟨_, rfl, ?_⟩
  refine HK.out (fun w' => Fr [] w0 w') _ _ (fun _ h => h) (g1) ?_
  clear HK K
  simp only [Act.put, gD, gE, gF]
  refine walkO_take (o := _) (v := ?_) (by rw [HOPS.out]; simp only [gA, gB, gC]; exact rfl) (Or.inl ⟨rfl, ?_⟩) ?_
  rotate_left
  · (intro w hSw; have hSx := HFA.out _ hSw; (try dsimp only at hSx); clear hSw; go_simp) <;> (with_reducible rfl)
  simp only [Act.put, gD, gE, gF]
  refine walkO_take (o := _) (v := ?_) (by rw [HOPS.out]; simp only [gA, gB, gC]; exact rfl) (Or.inl ⟨rfl, ?_⟩) ?_
  rotate_left
  · (intro w hSw; have hSx := HFA.out _ hSw; (try dsimp only at hSx); clear hSw; go_simp) <;> (with_reducible rfl)
  simp only [Act.put, gD, gE, gF]
  refine walkO_done ?_
  clear HOPS OPS
  go_wp2_with fail
  go_ret2
  exact ⟨rfl, HF0.out.then0 g1⟩
theorem r15_progress_no {w : World} {N : Nat → Prop} {v : Value} {s : DM} (h : Cv w N v s) (k : Int) (hk : ¬ (k = 0 ∨ k = 1)) :
    Calls Try.prog 110 #[v, .int .i64 k] w fun e w' => e = .returned (.tuple #[.int .i64 0, .bool false]) ∧ Fr [] w w' := by
  replace h := h.there
  obtain ⟨u0, u1, u2, u3, rfl, p0, p1, p2, p3⟩ := h
  obtain ⟨a0, k0, rfl, _⟩ := id p0
  obtain ⟨a1, k1, rfl, _⟩ := id p1
  obtain ⟨a2, k2, rfl, _⟩ := id p2
  obtain ⟨a3, k3, rfl, _⟩ := id p3
  obtain ⟨w0, hw0, f0⟩ : ∃ W, w.alloc (.cells #[.int .i64 s.m0.c, .slice a0 s.m0.q.length k0, .bool s.m0.busy, .slice a1 s.m0.rest.length k1, .int .i64 s.m0.acc, .int .i64 s.m0.w, .int .i64 s.m0.r, .int .i64 s.m1.c, .slice a2 s.m1.q.length k2, .bool s.m1.busy, .slice a3 s.m1.rest.length k3, .int .i64 s.m1.acc, .int .i64 s.m1.w, .int .i64 s.m1.r, .bool s.x0, .bool s.x1] 44) = W ∧ Fr [] w W := ⟨_, rfl, (Fr.refl _ _).alloc _⟩
  have HF0 := Lib.hid f0
  have HE := Lib.hid (r15_end w0 k)
  rw [show decide (k = 0 ∨ k = 1) = false from by simpa using hk] at HE
  clear f0 p0 p1 p2 p3 hk
  go_enter Try.func110, Try.ntmps110
  go_wp2_with fail
  refine HE.out.mono ?_
  rintro e w' ⟨rfl, rfl⟩
  go_wp2_with fail
  go_ret2
  exact ⟨rfl, HF0.out⟩

end Go.Proofs.Ytdoamelhclnphaa
