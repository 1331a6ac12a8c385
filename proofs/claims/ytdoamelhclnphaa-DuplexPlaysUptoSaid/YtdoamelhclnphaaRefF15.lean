/-
  The reference of layer 15: Close.
-/
import Derived.Test.YtdoamelhclnphaaRefX
import Derived.Test.YtdoamelhclnphaaDxClose
import Derived.Deep.DeepCutAuto
import Derived.Deep.CutBlock
namespace Go.Proofs.Ytdoamelhclnphaa
open Go.RowKit
set_option maxRecDepth 100000

set_option maxHeartbeats 16000000 in
theorem r15_close0 {w : World} {N : Nat → Prop} {v : Value} {s : DM} (h : Cv w N v s) (hx : s.x0 = false) :
    Calls Try.prog 109 #[v, .int .i64 0] w fun e w' => ∃ v', e = .returned (.tuple #[v', .int .i64 0]) ∧ Fr [] w w' ∧ Cv w' (fun x => N x ∨ w.heap.size ≤ x) v' (closeS0 s) := by
  replace h := h.there
  obtain ⟨u0, u1, u2, u3, rfl, p0, p1, p2, p3⟩ := h
  obtain ⟨a0, k0, rfl, _⟩ := id p0
  obtain ⟨a1, k1, rfl, _⟩ := id p1
  obtain ⟨a2, k2, rfl, _⟩ := id p2
  obtain ⟨a3, k3, rfl, _⟩ := id p3
  obtain ⟨w0, hw0, f0, qa, qb⟩ : ∃ W, (w.alloc (.cells #[.int .i64 s.m0.c, .slice a0 s.m0.q.length k0, .bool s.m0.busy, .slice a1 s.m0.rest.length k1, .int .i64 s.m0.acc, .int .i64 s.m0.w, .int .i64 s.m0.r, .int .i64 s.m1.c, .slice a2 s.m1.q.length k2, .bool s.m1.busy, .slice a3 s.m1.rest.length k3, .int .i64 s.m1.acc, .int .i64 s.m1.w, .int .i64 s.m1.r, .bool s.x0, .bool s.x1] 44)).alloc (.cells #[.int .i64 0, .slice none 0 0, .bool false, .slice none 0 0, .int .i64 0, .int .i64 0, .int .i64 0, .int .i64 0, .slice none 0 0, .bool false, .slice none 0 0, .int .i64 0, .int .i64 0, .int .i64 0, .bool false, .bool false] 44) = W ∧ Fr [] w W ∧ W.heap[w.heap.size]? = some (.cells #[.int .i64 s.m0.c, .slice a0 s.m0.q.length k0, .bool s.m0.busy, .slice a1 s.m0.rest.length k1, .int .i64 s.m0.acc, .int .i64 s.m0.w, .int .i64 s.m0.r, .int .i64 s.m1.c, .slice a2 s.m1.q.length k2, .bool s.m1.busy, .slice a3 s.m1.rest.length k3, .int .i64 s.m1.acc, .int .i64 s.m1.w, .int .i64 s.m1.r, .bool s.x0, .bool s.x1] 44 (0, 0)) ∧ W.heap[w.heap.size + 1]? = some (.cells #[.int .i64 0, .slice none 0 0, .bool false, .slice none 0 0, .int .i64 0, .int .i64 0, .int .i64 0, .int .i64 0, .slice none 0 0, .bool false, .slice none 0 0, .int .i64 0, .int .i64 0, .int .i64 0, .bool false, .bool false] 44 (0, 0)) := ⟨_, rfl, ((Fr.refl _ _).alloc _).alloc _, keepA (newA rfl), newA (by simp)⟩
  have x14 : w0.cell? ⟨w.heap.size, 14, none⟩ = some (.bool s.x0) := cell_of qa
  rw [hx] at x14
  have g14 : w0.frozen? ⟨w.heap.size, 14, none⟩ = false := free_of qa
  have HF0 := Lib.hid f0
  have HQB := Lib.hid qb
  have hz0 := lt_of_heap qb
  obtain ⟨w1, hw1, f1, q1⟩ : ∃ W, w0.setCell ⟨w.heap.size, 14, none⟩ (.bool true) = W ∧ Fr [w.heap.size] w0 W ∧ W.heap[w.heap.size]? = some (.cells #[.int .i64 s.m0.c, .slice a0 s.m0.q.length k0, .bool s.m0.busy, .slice a1 s.m0.rest.length k1, .int .i64 s.m0.acc, .int .i64 s.m0.w, .int .i64 s.m0.r, .int .i64 s.m1.c, .slice a2 s.m1.q.length k2, .bool s.m1.busy, .slice a3 s.m1.rest.length k3, .int .i64 s.m1.acc, .int .i64 s.m1.w, .int .i64 s.m1.r, .bool true, .bool s.x1] 44 (0, 0)) := ⟨_, rfl, (Fr.refl _ _).setCell (.inl (by simp)) _, by have hy := heap_setCell_eq (i := 14) (u := .bool true) qa; simpa using hy⟩
  have HF1 := Lib.hid (show Fr [] w w1 from HF0.out.trans f1 (by simp) (fun x hx => .inr (by simp at hx; omega)))
  have hzz := f1.size
  have hqb1 := f1.keep HQB.out (by simp)
  have HQB1 := Lib.hid hqb1
  have HQ1 := Lib.hid q1
  have HC := Lib.hid (r15_closewrite0 (w := w1) (N := (fun x => N x ∧ x < w.heap.size)) (v := .agg #[.int .i64 s.m0.c, .slice a0 s.m0.q.length k0, .bool s.m0.busy, .slice a1 s.m0.rest.length k1, .int .i64 s.m0.acc, .int .i64 s.m0.w, .int .i64 s.m0.r, .int .i64 s.m1.c, .slice a2 s.m1.q.length k2, .bool s.m1.busy, .slice a3 s.m1.rest.length k3, .int .i64 s.m1.acc, .int .i64 s.m1.w, .int .i64 s.m1.r, .bool true, .bool s.x1]) (s := { s with x0 := true }) ⟨_, _, _, _, rfl, p0.keep HF1.out (by simp), p1.keep HF1.out (by simp), p2.keep HF1.out (by simp), p3.keep HF1.out (by simp)⟩)
  dsimp only at HC
  skip
  have HE := Lib.hid (r15_end w0 0)
  clear f0 qa qb p0 p1 p2 p3 hx f1 hqb1 HQB
  go_enter Try.func109, Try.ntmps109
  go_wp2_with fail
  refine HE.out.mono ?_
  rintro e w' ⟨rfl, rfl⟩
  clear hw0
  have hz1 := HF1.out.size
  go_upto_region 6 with fail
  clear hw1 x14 g14
  have x0 : w1.cell? ⟨w.heap.size, 0, none⟩ = some (.int .i64 s.m0.c) := cell_of (HQ1.out)
  have x1 : w1.cell? ⟨w.heap.size, 1, none⟩ = some (.slice a0 s.m0.q.length k0) := cell_of (HQ1.out)
  have x2 : w1.cell? ⟨w.heap.size, 2, none⟩ = some (.bool s.m0.busy) := cell_of (HQ1.out)
  have x3 : w1.cell? ⟨w.heap.size, 3, none⟩ = some (.slice a1 s.m0.rest.length k1) := cell_of (HQ1.out)
  have x4 : w1.cell? ⟨w.heap.size, 4, none⟩ = some (.int .i64 s.m0.acc) := cell_of (HQ1.out)
  have x5 : w1.cell? ⟨w.heap.size, 5, none⟩ = some (.int .i64 s.m0.w) := cell_of (HQ1.out)
  have x6 : w1.cell? ⟨w.heap.size, 6, none⟩ = some (.int .i64 s.m0.r) := cell_of (HQ1.out)
  have x7 : w1.cell? ⟨w.heap.size, 7, none⟩ = some (.int .i64 s.m1.c) := cell_of (HQ1.out)
  have x8 : w1.cell? ⟨w.heap.size, 8, none⟩ = some (.slice a2 s.m1.q.length k2) := cell_of (HQ1.out)
  have x9 : w1.cell? ⟨w.heap.size, 9, none⟩ = some (.bool s.m1.busy) := cell_of (HQ1.out)
  have x10 : w1.cell? ⟨w.heap.size, 10, none⟩ = some (.slice a3 s.m1.rest.length k3) := cell_of (HQ1.out)
  have x11 : w1.cell? ⟨w.heap.size, 11, none⟩ = some (.int .i64 s.m1.acc) := cell_of (HQ1.out)
  have x12 : w1.cell? ⟨w.heap.size, 12, none⟩ = some (.int .i64 s.m1.w) := cell_of (HQ1.out)
  have x13 : w1.cell? ⟨w.heap.size, 13, none⟩ = some (.int .i64 s.m1.r) := cell_of (HQ1.out)
  have x14 : w1.cell? ⟨w.heap.size, 14, none⟩ = some (.bool true) := cell_of (HQ1.out)
  have x15 : w1.cell? ⟨w.heap.size, 15, none⟩ = some (.bool s.x1) := cell_of (HQ1.out)
  go_wp2_with fail
  refine HC.out.mono ?_
  rintro e w2 ⟨vb, rfl, f2, hc⟩
  generalize ht1 : ({ { s with x0 := true } with m0 := (closewM s.m0 13).m } : DM) = t1 at hc
  obtain ⟨bv0, bv1, bv2, bv3, rfl, bp0, bp1, bp2, bp3⟩ := hc
  obtain ⟨b0, bk0, rfl, _⟩ := id bp0
  obtain ⟨b1, bk1, rfl, _⟩ := id bp1
  obtain ⟨b2, bk2, rfl, _⟩ := id bp2
  obtain ⟨b3, bk3, rfl, _⟩ := id bp3
  have HB2 := Lib.hid (And.intro (And.intro bp0 bp1) (And.intro bp2 bp3))
  have HQ2 := Lib.hid (f2.keep HQ1.out (by simp))
  have HR2 := Lib.hid (f2.keep HQB1.out (by simp))
  have HF2 := Lib.hid f2
  have HT1 := Lib.hid ht1
  clear f2 bp0 bp1 bp2 bp3 ht1 x0 x1 x2 x3 x4 x5 x6 x7 x8 x9 x10 x11 x12 x13 x14 x15 HC HQ1 HQB1
  go_wp2_with (refine wpl_store rfl 44 _ _ rfl w.heap.size #[.int .i64 t1.m0.c, .slice b0 t1.m0.q.length bk0, .bool t1.m0.busy, .slice b1 t1.m0.rest.length bk1, .int .i64 t1.m0.acc, .int .i64 t1.m0.w, .int .i64 t1.m0.r, .int .i64 t1.m1.c, .slice b2 t1.m1.q.length bk2, .bool t1.m1.busy, .slice b3 t1.m1.rest.length bk3, .int .i64 t1.m1.acc, .int .i64 t1.m1.w, .int .i64 t1.m1.r, .bool t1.x0, .bool t1.x1] (by rfl) (by rfl) _ _ HQ2.out (by kernel_rfl) rfl (by simp [Value.oneCell']) ?_)
  intro w3 f3 q3
  have x0 : w3.cell? ⟨w.heap.size, 0, none⟩ = some (.int .i64 t1.m0.c) := cell_of (q3)
  have x1 : w3.cell? ⟨w.heap.size, 1, none⟩ = some (.slice b0 t1.m0.q.length bk0) := cell_of (q3)
  have x2 : w3.cell? ⟨w.heap.size, 2, none⟩ = some (.bool t1.m0.busy) := cell_of (q3)
  have x3 : w3.cell? ⟨w.heap.size, 3, none⟩ = some (.slice b1 t1.m0.rest.length bk1) := cell_of (q3)
  have x4 : w3.cell? ⟨w.heap.size, 4, none⟩ = some (.int .i64 t1.m0.acc) := cell_of (q3)
  have x5 : w3.cell? ⟨w.heap.size, 5, none⟩ = some (.int .i64 t1.m0.w) := cell_of (q3)
  have x6 : w3.cell? ⟨w.heap.size, 6, none⟩ = some (.int .i64 t1.m0.r) := cell_of (q3)
  have x7 : w3.cell? ⟨w.heap.size, 7, none⟩ = some (.int .i64 t1.m1.c) := cell_of (q3)
  have x8 : w3.cell? ⟨w.heap.size, 8, none⟩ = some (.slice b2 t1.m1.q.length bk2) := cell_of (q3)
  have x9 : w3.cell? ⟨w.heap.size, 9, none⟩ = some (.bool t1.m1.busy) := cell_of (q3)
  have x10 : w3.cell? ⟨w.heap.size, 10, none⟩ = some (.slice b3 t1.m1.rest.length bk3) := cell_of (q3)
  have x11 : w3.cell? ⟨w.heap.size, 11, none⟩ = some (.int .i64 t1.m1.acc) := cell_of (q3)
  have x12 : w3.cell? ⟨w.heap.size, 12, none⟩ = some (.int .i64 t1.m1.w) := cell_of (q3)
  have x13 : w3.cell? ⟨w.heap.size, 13, none⟩ = some (.int .i64 t1.m1.r) := cell_of (q3)
  have x14 : w3.cell? ⟨w.heap.size, 14, none⟩ = some (.bool t1.x0) := cell_of (q3)
  have x15 : w3.cell? ⟨w.heap.size, 15, none⟩ = some (.bool t1.x1) := cell_of (q3)
  have HF3 := Lib.hid f3
  have HQ3 := Lib.hid q3
  have HR3 := Lib.hid (f3.keep HR2.out (by simp))
  have hz2 := HF2.out.size
  have kk : ∀ {v : Value} {l : List UInt8}, PartV w2 (fun x => (fun x => N x ∧ x < w.heap.size) x ∨ w1.heap.size ≤ x) v l → PartV w3 (fun x => ((fun x => N x ∧ x < w.heap.size) x ∨ w1.heap.size ≤ x) ∧ x < w3.heap.size) v l := fun h => (h.keep f3 (fun x hx hn => by simp at hx; rcases hn with hn | hn; have := hn.2; omega; omega)).there
  have HC2 := Lib.hid (r15_closeread0 (w := w3) (N := fun x => ((fun x => N x ∧ x < w.heap.size) x ∨ w1.heap.size ≤ x) ∧ x < w3.heap.size) (v := .agg #[.int .i64 t1.m0.c, .slice b0 t1.m0.q.length bk0, .bool t1.m0.busy, .slice b1 t1.m0.rest.length bk1, .int .i64 t1.m0.acc, .int .i64 t1.m0.w, .int .i64 t1.m0.r, .int .i64 t1.m1.c, .slice b2 t1.m1.q.length bk2, .bool t1.m1.busy, .slice b3 t1.m1.rest.length bk3, .int .i64 t1.m1.acc, .int .i64 t1.m1.w, .int .i64 t1.m1.r, .bool t1.x0, .bool t1.x1]) (s := t1) ⟨_, _, _, _, rfl, kk HB2.out.1.1, kk HB2.out.1.2, kk HB2.out.2.1, kk HB2.out.2.2⟩)
  clear f3 q3 kk HB2
  go_wp2_with fail
  refine HC2.out.mono ?_
  rintro e w5 ⟨vd, rfl, f5, hc⟩
  generalize ht2 : ({ t1 with m1 := (closerM t1.m1 14).m } : DM) = t2 at hc
  obtain ⟨dv0, dv1, dv2, dv3, rfl, dp0, dp1, dp2, dp3⟩ := hc
  obtain ⟨d0, dk0, rfl, _⟩ := id dp0
  obtain ⟨d1, dk1, rfl, _⟩ := id dp1
  obtain ⟨d2, dk2, rfl, _⟩ := id dp2
  obtain ⟨d3, dk3, rfl, _⟩ := id dp3
  have HB5 := Lib.hid (And.intro (And.intro dp0 dp1) (And.intro dp2 dp3))
  have HQ5 := Lib.hid (f5.keep HQ3.out (by simp))
  have HR5 := Lib.hid (f5.keep HR3.out (by simp))
  have HF5 := Lib.hid f5
  have HT2 := Lib.hid ht2
  clear f5 dp0 dp1 dp2 dp3 ht2 x0 x1 x2 x3 x4 x5 x6 x7 x8 x9 x10 x11 x12 x13 x14 x15 HC2 HQ3 HR3
  go_wp2_with (refine wpl_store rfl 44 _ _ rfl w.heap.size #[.int .i64 t2.m0.c, .slice d0 t2.m0.q.length dk0, .bool t2.m0.busy, .slice d1 t2.m0.rest.length dk1, .int .i64 t2.m0.acc, .int .i64 t2.m0.w, .int .i64 t2.m0.r, .int .i64 t2.m1.c, .slice d2 t2.m1.q.length dk2, .bool t2.m1.busy, .slice d3 t2.m1.rest.length dk3, .int .i64 t2.m1.acc, .int .i64 t2.m1.w, .int .i64 t2.m1.r, .bool t2.x0, .bool t2.x1] (by rfl) (by rfl) _ _ HQ5.out (by kernel_rfl) rfl (by simp [Value.oneCell']) ?_)
  intro w6 f6 q6
  have x0 : w6.cell? ⟨w.heap.size, 0, none⟩ = some (.int .i64 t2.m0.c) := cell_of (q6)
  have x1 : w6.cell? ⟨w.heap.size, 1, none⟩ = some (.slice d0 t2.m0.q.length dk0) := cell_of (q6)
  have x2 : w6.cell? ⟨w.heap.size, 2, none⟩ = some (.bool t2.m0.busy) := cell_of (q6)
  have x3 : w6.cell? ⟨w.heap.size, 3, none⟩ = some (.slice d1 t2.m0.rest.length dk1) := cell_of (q6)
  have x4 : w6.cell? ⟨w.heap.size, 4, none⟩ = some (.int .i64 t2.m0.acc) := cell_of (q6)
  have x5 : w6.cell? ⟨w.heap.size, 5, none⟩ = some (.int .i64 t2.m0.w) := cell_of (q6)
  have x6 : w6.cell? ⟨w.heap.size, 6, none⟩ = some (.int .i64 t2.m0.r) := cell_of (q6)
  have x7 : w6.cell? ⟨w.heap.size, 7, none⟩ = some (.int .i64 t2.m1.c) := cell_of (q6)
  have x8 : w6.cell? ⟨w.heap.size, 8, none⟩ = some (.slice d2 t2.m1.q.length dk2) := cell_of (q6)
  have x9 : w6.cell? ⟨w.heap.size, 9, none⟩ = some (.bool t2.m1.busy) := cell_of (q6)
  have x10 : w6.cell? ⟨w.heap.size, 10, none⟩ = some (.slice d3 t2.m1.rest.length dk3) := cell_of (q6)
  have x11 : w6.cell? ⟨w.heap.size, 11, none⟩ = some (.int .i64 t2.m1.acc) := cell_of (q6)
  have x12 : w6.cell? ⟨w.heap.size, 12, none⟩ = some (.int .i64 t2.m1.w) := cell_of (q6)
  have x13 : w6.cell? ⟨w.heap.size, 13, none⟩ = some (.int .i64 t2.m1.r) := cell_of (q6)
  have x14 : w6.cell? ⟨w.heap.size, 14, none⟩ = some (.bool t2.x0) := cell_of (q6)
  have x15 : w6.cell? ⟨w.heap.size, 15, none⟩ = some (.bool t2.x1) := cell_of (q6)
  have HF6 := Lib.hid f6
  have HR6 := Lib.hid (f6.keep HR5.out (by simp))
  clear f6 q6
  go_wp2_with (refine wpl_store rfl 44 _ _ rfl (w.heap.size + 1) #[.int .i64 t2.m0.c, .slice d0 t2.m0.q.length dk0, .bool t2.m0.busy, .slice d1 t2.m0.rest.length dk1, .int .i64 t2.m0.acc, .int .i64 t2.m0.w, .int .i64 t2.m0.r, .int .i64 t2.m1.c, .slice d2 t2.m1.q.length dk2, .bool t2.m1.busy, .slice d3 t2.m1.rest.length dk3, .int .i64 t2.m1.acc, .int .i64 t2.m1.w, .int .i64 t2.m1.r, .bool t2.x0, .bool t2.x1] (by rfl) (by rfl) _ _ HR6.out (by kernel_rfl) rfl (by simp [Value.oneCell']) ?_)
  intro w4 f4 q4
  clear x0 x1 x2 x3 x4 x5 x6 x7 x8 x9 x10 x11 x12 x13 x14 x15
  have y0 : w4.cell? ⟨(w.heap.size + 1), 0, none⟩ = some (.int .i64 t2.m0.c) := cell_of (q4)
  have y1 : w4.cell? ⟨(w.heap.size + 1), 1, none⟩ = some (.slice d0 t2.m0.q.length dk0) := cell_of (q4)
  have y2 : w4.cell? ⟨(w.heap.size + 1), 2, none⟩ = some (.bool t2.m0.busy) := cell_of (q4)
  have y3 : w4.cell? ⟨(w.heap.size + 1), 3, none⟩ = some (.slice d1 t2.m0.rest.length dk1) := cell_of (q4)
  have y4 : w4.cell? ⟨(w.heap.size + 1), 4, none⟩ = some (.int .i64 t2.m0.acc) := cell_of (q4)
  have y5 : w4.cell? ⟨(w.heap.size + 1), 5, none⟩ = some (.int .i64 t2.m0.w) := cell_of (q4)
  have y6 : w4.cell? ⟨(w.heap.size + 1), 6, none⟩ = some (.int .i64 t2.m0.r) := cell_of (q4)
  have y7 : w4.cell? ⟨(w.heap.size + 1), 7, none⟩ = some (.int .i64 t2.m1.c) := cell_of (q4)
  have y8 : w4.cell? ⟨(w.heap.size + 1), 8, none⟩ = some (.slice d2 t2.m1.q.length dk2) := cell_of (q4)
  have y9 : w4.cell? ⟨(w.heap.size + 1), 9, none⟩ = some (.bool t2.m1.busy) := cell_of (q4)
  have y10 : w4.cell? ⟨(w.heap.size + 1), 10, none⟩ = some (.slice d3 t2.m1.rest.length dk3) := cell_of (q4)
  have y11 : w4.cell? ⟨(w.heap.size + 1), 11, none⟩ = some (.int .i64 t2.m1.acc) := cell_of (q4)
  have y12 : w4.cell? ⟨(w.heap.size + 1), 12, none⟩ = some (.int .i64 t2.m1.w) := cell_of (q4)
  have y13 : w4.cell? ⟨(w.heap.size + 1), 13, none⟩ = some (.int .i64 t2.m1.r) := cell_of (q4)
  have y14 : w4.cell? ⟨(w.heap.size + 1), 14, none⟩ = some (.bool t2.x0) := cell_of (q4)
  have y15 : w4.cell? ⟨(w.heap.size + 1), 15, none⟩ = some (.bool t2.x1) := cell_of (q4)
  have HF4 := Lib.hid f4
  clear f4 q4
  go_wp2_with fail
  refine bodyPost_ret (v := .tuple #[.agg #[.int .i64 t2.m0.c, .slice d0 t2.m0.q.length dk0, .bool t2.m0.busy, .slice d1 t2.m0.rest.length dk1, .int .i64 t2.m0.acc, .int .i64 t2.m0.w, .int .i64 t2.m0.r, .int .i64 t2.m1.c, .slice d2 t2.m1.q.length dk2, .bool t2.m1.busy, .slice d3 t2.m1.rest.length dk3, .int .i64 t2.m1.acc, .int .i64 t2.m1.w, .int .i64 t2.m1.r, .bool t2.x0, .bool t2.x1], .int .i64 0]) (by simp [results, Try.results109, go_sem, y0, y1, y2, y3, y4, y5, y6, y7, y8, y9, y10, y11, y12, y13, y14, y15]) rfl ?_
  have hz3 := HF3.out.size
  have hz5 := HF5.out.size
  have F46 : Fr [w.heap.size, w.heap.size + 1] w5 w4 := HF6.out.trans HF4.out (fun x hx => .inl (by simp at hx; simp [hx])) (fun x hx => .inl (by simp at hx; simp [hx]))
  have F : Fr [] w w4 := (((HF1.out.then0 HF2.out).trans HF3.out (U := []) (by simp) (fun x hx => .inr (by simp at hx; omega))).then0 HF5.out).trans F46 (by simp) (fun x hx => .inr (by simp at hx; omega))
  have KO : ∀ {v : Value} {l : List UInt8}, PartV w5 (fun x => (((fun x => N x ∧ x < w.heap.size) x ∨ w1.heap.size ≤ x) ∧ x < w3.heap.size) ∨ w3.heap.size ≤ x) v l → PartV w4 (fun x => N x ∨ w.heap.size ≤ x) v l := fun h => (h.keep F46 (fun x hx hn => by simp at hx; rcases hn with ⟨hn | hn, _⟩ | hn; have := hn.2; omega; omega; omega)).mono (fun x hx => by rcases hx with ⟨hx | hx, _⟩ | hx; exact .inl hx.1; exact .inr (by omega); exact .inr (by omega))
  refine ⟨_, rfl, F, ?_⟩
  rw [show closeS0 s = t2 from by rw [← HT2.out, ← HT1.out]; rfl]
  exact ⟨_, _, _, _, rfl, KO HB5.out.1.1, KO HB5.out.1.2, KO HB5.out.2.1, KO HB5.out.2.2⟩
set_option maxHeartbeats 16000000 in
theorem r15_close1 {w : World} {N : Nat → Prop} {v : Value} {s : DM} (h : Cv w N v s) (hx : s.x1 = false) :
    Calls Try.prog 109 #[v, .int .i64 1] w fun e w' => ∃ v', e = .returned (.tuple #[v', .int .i64 0]) ∧ Fr [] w w' ∧ Cv w' (fun x => N x ∨ w.heap.size ≤ x) v' (closeS1 s) := by
  replace h := h.there
  obtain ⟨u0, u1, u2, u3, rfl, p0, p1, p2, p3⟩ := h
  obtain ⟨a0, k0, rfl, _⟩ := id p0
  obtain ⟨a1, k1, rfl, _⟩ := id p1
  obtain ⟨a2, k2, rfl, _⟩ := id p2
  obtain ⟨a3, k3, rfl, _⟩ := id p3
  obtain ⟨w0, hw0, f0, qa, qb⟩ : ∃ W, (w.alloc (.cells #[.int .i64 s.m0.c, .slice a0 s.m0.q.length k0, .bool s.m0.busy, .slice a1 s.m0.rest.length k1, .int .i64 s.m0.acc, .int .i64 s.m0.w, .int .i64 s.m0.r, .int .i64 s.m1.c, .slice a2 s.m1.q.length k2, .bool s.m1.busy, .slice a3 s.m1.rest.length k3, .int .i64 s.m1.acc, .int .i64 s.m1.w, .int .i64 s.m1.r, .bool s.x0, .bool s.x1] 44)).alloc (.cells #[.int .i64 0, .slice none 0 0, .bool false, .slice none 0 0, .int .i64 0, .int .i64 0, .int .i64 0, .int .i64 0, .slice none 0 0, .bool false, .slice none 0 0, .int .i64 0, .int .i64 0, .int .i64 0, .bool false, .bool false] 44) = W ∧ Fr [] w W ∧ W.heap[w.heap.size]? = some (.cells #[.int .i64 s.m0.c, .slice a0 s.m0.q.length k0, .bool s.m0.busy, .slice a1 s.m0.rest.length k1, .int .i64 s.m0.acc, .int .i64 s.m0.w, .int .i64 s.m0.r, .int .i64 s.m1.c, .slice a2 s.m1.q.length k2, .bool s.m1.busy, .slice a3 s.m1.rest.length k3, .int .i64 s.m1.acc, .int .i64 s.m1.w, .int .i64 s.m1.r, .bool s.x0, .bool s.x1] 44 (0, 0)) ∧ W.heap[w.heap.size + 1]? = some (.cells #[.int .i64 0, .slice none 0 0, .bool false, .slice none 0 0, .int .i64 0, .int .i64 0, .int .i64 0, .int .i64 0, .slice none 0 0, .bool false, .slice none 0 0, .int .i64 0, .int .i64 0, .int .i64 0, .bool false, .bool false] 44 (0, 0)) := ⟨_, rfl, ((Fr.refl _ _).alloc _).alloc _, keepA (newA rfl), newA (by simp)⟩
  have x15 : w0.cell? ⟨w.heap.size, 15, none⟩ = some (.bool s.x1) := cell_of qa
  rw [hx] at x15
  have g15 : w0.frozen? ⟨w.heap.size, 15, none⟩ = false := free_of qa
  have HF0 := Lib.hid f0
  have HQB := Lib.hid qb
  have hz0 := lt_of_heap qb
  obtain ⟨w1, hw1, f1, q1⟩ : ∃ W, w0.setCell ⟨w.heap.size, 15, none⟩ (.bool true) = W ∧ Fr [w.heap.size] w0 W ∧ W.heap[w.heap.size]? = some (.cells #[.int .i64 s.m0.c, .slice a0 s.m0.q.length k0, .bool s.m0.busy, .slice a1 s.m0.rest.length k1, .int .i64 s.m0.acc, .int .i64 s.m0.w, .int .i64 s.m0.r, .int .i64 s.m1.c, .slice a2 s.m1.q.length k2, .bool s.m1.busy, .slice a3 s.m1.rest.length k3, .int .i64 s.m1.acc, .int .i64 s.m1.w, .int .i64 s.m1.r, .bool s.x0, .bool true] 44 (0, 0)) := ⟨_, rfl, (Fr.refl _ _).setCell (.inl (by simp)) _, by have hy := heap_setCell_eq (i := 15) (u := .bool true) qa; simpa using hy⟩
  have HF1 := Lib.hid (show Fr [] w w1 from HF0.out.trans f1 (by simp) (fun x hx => .inr (by simp at hx; omega)))
  have hzz := f1.size
  have hqb1 := f1.keep HQB.out (by simp)
  have HQB1 := Lib.hid hqb1
  have HQ1 := Lib.hid q1
  have HC := Lib.hid (r15_closewrite1 (w := w1) (N := (fun x => N x ∧ x < w.heap.size)) (v := .agg #[.int .i64 s.m0.c, .slice a0 s.m0.q.length k0, .bool s.m0.busy, .slice a1 s.m0.rest.length k1, .int .i64 s.m0.acc, .int .i64 s.m0.w, .int .i64 s.m0.r, .int .i64 s.m1.c, .slice a2 s.m1.q.length k2, .bool s.m1.busy, .slice a3 s.m1.rest.length k3, .int .i64 s.m1.acc, .int .i64 s.m1.w, .int .i64 s.m1.r, .bool s.x0, .bool true]) (s := { s with x1 := true }) ⟨_, _, _, _, rfl, p0.keep HF1.out (by simp), p1.keep HF1.out (by simp), p2.keep HF1.out (by simp), p3.keep HF1.out (by simp)⟩)
  dsimp only at HC
  skip
  have HE := Lib.hid (r15_end w0 1)
  clear f0 qa qb p0 p1 p2 p3 hx f1 hqb1 HQB
  go_enter Try.func109, Try.ntmps109
  go_wp2_with fail
  refine HE.out.mono ?_
  rintro e w' ⟨rfl, rfl⟩
  clear hw0
  have hz1 := HF1.out.size
  go_upto_region 6 with fail
  clear hw1 x15 g15
  have x0 : w1.cell? ⟨w.heap.size, 0, none⟩ = some (.int .i64 s.m0.c) := cell_of (HQ1.out)
  have x1 : w1.cell? ⟨w.heap.size, 1, none⟩ = some (.slice a0 s.m0.q.length k0) := cell_of (HQ1.out)
  have x2 : w1.cell? ⟨w.heap.size, 2, none⟩ = some (.bool s.m0.busy) := cell_of (HQ1.out)
  have x3 : w1.cell? ⟨w.heap.size, 3, none⟩ = some (.slice a1 s.m0.rest.length k1) := cell_of (HQ1.out)
  have x4 : w1.cell? ⟨w.heap.size, 4, none⟩ = some (.int .i64 s.m0.acc) := cell_of (HQ1.out)
  have x5 : w1.cell? ⟨w.heap.size, 5, none⟩ = some (.int .i64 s.m0.w) := cell_of (HQ1.out)
  have x6 : w1.cell? ⟨w.heap.size, 6, none⟩ = some (.int .i64 s.m0.r) := cell_of (HQ1.out)
  have x7 : w1.cell? ⟨w.heap.size, 7, none⟩ = some (.int .i64 s.m1.c) := cell_of (HQ1.out)
  have x8 : w1.cell? ⟨w.heap.size, 8, none⟩ = some (.slice a2 s.m1.q.length k2) := cell_of (HQ1.out)
  have x9 : w1.cell? ⟨w.heap.size, 9, none⟩ = some (.bool s.m1.busy) := cell_of (HQ1.out)
  have x10 : w1.cell? ⟨w.heap.size, 10, none⟩ = some (.slice a3 s.m1.rest.length k3) := cell_of (HQ1.out)
  have x11 : w1.cell? ⟨w.heap.size, 11, none⟩ = some (.int .i64 s.m1.acc) := cell_of (HQ1.out)
  have x12 : w1.cell? ⟨w.heap.size, 12, none⟩ = some (.int .i64 s.m1.w) := cell_of (HQ1.out)
  have x13 : w1.cell? ⟨w.heap.size, 13, none⟩ = some (.int .i64 s.m1.r) := cell_of (HQ1.out)
  have x14 : w1.cell? ⟨w.heap.size, 14, none⟩ = some (.bool s.x0) := cell_of (HQ1.out)
  have x15 : w1.cell? ⟨w.heap.size, 15, none⟩ = some (.bool true) := cell_of (HQ1.out)
  go_wp2_with fail
  refine HC.out.mono ?_
  rintro e w2 ⟨vb, rfl, f2, hc⟩
  generalize ht1 : ({ { s with x1 := true } with m1 := (closewM s.m1 13).m } : DM) = t1 at hc
  obtain ⟨bv0, bv1, bv2, bv3, rfl, bp0, bp1, bp2, bp3⟩ := hc
  obtain ⟨b0, bk0, rfl, _⟩ := id bp0
  obtain ⟨b1, bk1, rfl, _⟩ := id bp1
  obtain ⟨b2, bk2, rfl, _⟩ := id bp2
  obtain ⟨b3, bk3, rfl, _⟩ := id bp3
  have HB2 := Lib.hid (And.intro (And.intro bp0 bp1) (And.intro bp2 bp3))
  have HQ2 := Lib.hid (f2.keep HQ1.out (by simp))
  have HR2 := Lib.hid (f2.keep HQB1.out (by simp))
  have HF2 := Lib.hid f2
  have HT1 := Lib.hid ht1
  clear f2 bp0 bp1 bp2 bp3 ht1 x0 x1 x2 x3 x4 x5 x6 x7 x8 x9 x10 x11 x12 x13 x14 x15 HC HQ1 HQB1
  go_wp2_with (refine wpl_store rfl 44 _ _ rfl w.heap.size #[.int .i64 t1.m0.c, .slice b0 t1.m0.q.length bk0, .bool t1.m0.busy, .slice b1 t1.m0.rest.length bk1, .int .i64 t1.m0.acc, .int .i64 t1.m0.w, .int .i64 t1.m0.r, .int .i64 t1.m1.c, .slice b2 t1.m1.q.length bk2, .bool t1.m1.busy, .slice b3 t1.m1.rest.length bk3, .int .i64 t1.m1.acc, .int .i64 t1.m1.w, .int .i64 t1.m1.r, .bool t1.x0, .bool t1.x1] (by rfl) (by rfl) _ _ HQ2.out (by kernel_rfl) rfl (by simp [Value.oneCell']) ?_)
  intro w3 f3 q3
  have x0 : w3.cell? ⟨w.heap.size, 0, none⟩ = some (.int .i64 t1.m0.c) := cell_of (q3)
  have x1 : w3.cell? ⟨w.heap.size, 1, none⟩ = some (.slice b0 t1.m0.q.length bk0) := cell_of (q3)
  have x2 : w3.cell? ⟨w.heap.size, 2, none⟩ = some (.bool t1.m0.busy) := cell_of (q3)
  have x3 : w3.cell? ⟨w.heap.size, 3, none⟩ = some (.slice b1 t1.m0.rest.length bk1) := cell_of (q3)
  have x4 : w3.cell? ⟨w.heap.size, 4, none⟩ = some (.int .i64 t1.m0.acc) := cell_of (q3)
  have x5 : w3.cell? ⟨w.heap.size, 5, none⟩ = some (.int .i64 t1.m0.w) := cell_of (q3)
  have x6 : w3.cell? ⟨w.heap.size, 6, none⟩ = some (.int .i64 t1.m0.r) := cell_of (q3)
  have x7 : w3.cell? ⟨w.heap.size, 7, none⟩ = some (.int .i64 t1.m1.c) := cell_of (q3)
  have x8 : w3.cell? ⟨w.heap.size, 8, none⟩ = some (.slice b2 t1.m1.q.length bk2) := cell_of (q3)
  have x9 : w3.cell? ⟨w.heap.size, 9, none⟩ = some (.bool t1.m1.busy) := cell_of (q3)
  have x10 : w3.cell? ⟨w.heap.size, 10, none⟩ = some (.slice b3 t1.m1.rest.length bk3) := cell_of (q3)
  have x11 : w3.cell? ⟨w.heap.size, 11, none⟩ = some (.int .i64 t1.m1.acc) := cell_of (q3)
  have x12 : w3.cell? ⟨w.heap.size, 12, none⟩ = some (.int .i64 t1.m1.w) := cell_of (q3)
  have x13 : w3.cell? ⟨w.heap.size, 13, none⟩ = some (.int .i64 t1.m1.r) := cell_of (q3)
  have x14 : w3.cell? ⟨w.heap.size, 14, none⟩ = some (.bool t1.x0) := cell_of (q3)
  have x15 : w3.cell? ⟨w.heap.size, 15, none⟩ = some (.bool t1.x1) := cell_of (q3)
  have HF3 := Lib.hid f3
  have HQ3 := Lib.hid q3
  have HR3 := Lib.hid (f3.keep HR2.out (by simp))
  have hz2 := HF2.out.size
  have kk : ∀ {v : Value} {l : List UInt8}, PartV w2 (fun x => (fun x => N x ∧ x < w.heap.size) x ∨ w1.heap.size ≤ x) v l → PartV w3 (fun x => ((fun x => N x ∧ x < w.heap.size) x ∨ w1.heap.size ≤ x) ∧ x < w3.heap.size) v l := fun h => (h.keep f3 (fun x hx hn => by simp at hx; rcases hn with hn | hn; have := hn.2; omega; omega)).there
  have HC2 := Lib.hid (r15_closeread1 (w := w3) (N := fun x => ((fun x => N x ∧ x < w.heap.size) x ∨ w1.heap.size ≤ x) ∧ x < w3.heap.size) (v := .agg #[.int .i64 t1.m0.c, .slice b0 t1.m0.q.length bk0, .bool t1.m0.busy, .slice b1 t1.m0.rest.length bk1, .int .i64 t1.m0.acc, .int .i64 t1.m0.w, .int .i64 t1.m0.r, .int .i64 t1.m1.c, .slice b2 t1.m1.q.length bk2, .bool t1.m1.busy, .slice b3 t1.m1.rest.length bk3, .int .i64 t1.m1.acc, .int .i64 t1.m1.w, .int .i64 t1.m1.r, .bool t1.x0, .bool t1.x1]) (s := t1) ⟨_, _, _, _, rfl, kk HB2.out.1.1, kk HB2.out.1.2, kk HB2.out.2.1, kk HB2.out.2.2⟩)
  clear f3 q3 kk HB2
  go_wp2_with fail
  refine HC2.out.mono ?_
  rintro e w5 ⟨vd, rfl, f5, hc⟩
  generalize ht2 : ({ t1 with m0 := (closerM t1.m0 14).m } : DM) = t2 at hc
  obtain ⟨dv0, dv1, dv2, dv3, rfl, dp0, dp1, dp2, dp3⟩ := hc
  obtain ⟨d0, dk0, rfl, _⟩ := id dp0
  obtain ⟨d1, dk1, rfl, _⟩ := id dp1
  obtain ⟨d2, dk2, rfl, _⟩ := id dp2
  obtain ⟨d3, dk3, rfl, _⟩ := id dp3
  have HB5 := Lib.hid (And.intro (And.intro dp0 dp1) (And.intro dp2 dp3))
  have HQ5 := Lib.hid (f5.keep HQ3.out (by simp))
  have HR5 := Lib.hid (f5.keep HR3.out (by simp))
  have HF5 := Lib.hid f5
  have HT2 := Lib.hid ht2
  clear f5 dp0 dp1 dp2 dp3 ht2 x0 x1 x2 x3 x4 x5 x6 x7 x8 x9 x10 x11 x12 x13 x14 x15 HC2 HQ3 HR3
  go_wp2_with (refine wpl_store rfl 44 _ _ rfl w.heap.size #[.int .i64 t2.m0.c, .slice d0 t2.m0.q.length dk0, .bool t2.m0.busy, .slice d1 t2.m0.rest.length dk1, .int .i64 t2.m0.acc, .int .i64 t2.m0.w, .int .i64 t2.m0.r, .int .i64 t2.m1.c, .slice d2 t2.m1.q.length dk2, .bool t2.m1.busy, .slice d3 t2.m1.rest.length dk3, .int .i64 t2.m1.acc, .int .i64 t2.m1.w, .int .i64 t2.m1.r, .bool t2.x0, .bool t2.x1] (by rfl) (by rfl) _ _ HQ5.out (by kernel_rfl) rfl (by simp [Value.oneCell']) ?_)
  intro w6 f6 q6
  have x0 : w6.cell? ⟨w.heap.size, 0, none⟩ = some (.int .i64 t2.m0.c) := cell_of (q6)
  have x1 : w6.cell? ⟨w.heap.size, 1, none⟩ = some (.slice d0 t2.m0.q.length dk0) := cell_of (q6)
  have x2 : w6.cell? ⟨w.heap.size, 2, none⟩ = some (.bool t2.m0.busy) := cell_of (q6)
  have x3 : w6.cell? ⟨w.heap.size, 3, none⟩ = some (.slice d1 t2.m0.rest.length dk1) := cell_of (q6)
  have x4 : w6.cell? ⟨w.heap.size, 4, none⟩ = some (.int .i64 t2.m0.acc) := cell_of (q6)
  have x5 : w6.cell? ⟨w.heap.size, 5, none⟩ = some (.int .i64 t2.m0.w) := cell_of (q6)
  have x6 : w6.cell? ⟨w.heap.size, 6, none⟩ = some (.int .i64 t2.m0.r) := cell_of (q6)
  have x7 : w6.cell? ⟨w.heap.size, 7, none⟩ = some (.int .i64 t2.m1.c) := cell_of (q6)
  have x8 : w6.cell? ⟨w.heap.size, 8, none⟩ = some (.slice d2 t2.m1.q.length dk2) := cell_of (q6)
  have x9 : w6.cell? ⟨w.heap.size, 9, none⟩ = some (.bool t2.m1.busy) := cell_of (q6)
  have x10 : w6.cell? ⟨w.heap.size, 10, none⟩ = some (.slice d3 t2.m1.rest.length dk3) := cell_of (q6)
  have x11 : w6.cell? ⟨w.heap.size, 11, none⟩ = some (.int .i64 t2.m1.acc) := cell_of (q6)
  have x12 : w6.cell? ⟨w.heap.size, 12, none⟩ = some (.int .i64 t2.m1.w) := cell_of (q6)
  have x13 : w6.cell? ⟨w.heap.size, 13, none⟩ = some (.int .i64 t2.m1.r) := cell_of (q6)
  have x14 : w6.cell? ⟨w.heap.size, 14, none⟩ = some (.bool t2.x0) := cell_of (q6)
  have x15 : w6.cell? ⟨w.heap.size, 15, none⟩ = some (.bool t2.x1) := cell_of (q6)
  have HF6 := Lib.hid f6
  have HR6 := Lib.hid (f6.keep HR5.out (by simp))
  clear f6 q6
  go_wp2_with (refine wpl_store rfl 44 _ _ rfl (w.heap.size + 1) #[.int .i64 t2.m0.c, .slice d0 t2.m0.q.length dk0, .bool t2.m0.busy, .slice d1 t2.m0.rest.length dk1, .int .i64 t2.m0.acc, .int .i64 t2.m0.w, .int .i64 t2.m0.r, .int .i64 t2.m1.c, .slice d2 t2.m1.q.length dk2, .bool t2.m1.busy, .slice d3 t2.m1.rest.length dk3, .int .i64 t2.m1.acc, .int .i64 t2.m1.w, .int .i64 t2.m1.r, .bool t2.x0, .bool t2.x1] (by rfl) (by rfl) _ _ HR6.out (by kernel_rfl) rfl (by simp [Value.oneCell']) ?_)
  intro w4 f4 q4
  clear x0 x1 x2 x3 x4 x5 x6 x7 x8 x9 x10 x11 x12 x13 x14 x15
  have y0 : w4.cell? ⟨(w.heap.size + 1), 0, none⟩ = some (.int .i64 t2.m0.c) := cell_of (q4)
  have y1 : w4.cell? ⟨(w.heap.size + 1), 1, none⟩ = some (.slice d0 t2.m0.q.length dk0) := cell_of (q4)
  have y2 : w4.cell? ⟨(w.heap.size + 1), 2, none⟩ = some (.bool t2.m0.busy) := cell_of (q4)
  have y3 : w4.cell? ⟨(w.heap.size + 1), 3, none⟩ = some (.slice d1 t2.m0.rest.length dk1) := cell_of (q4)
  have y4 : w4.cell? ⟨(w.heap.size + 1), 4, none⟩ = some (.int .i64 t2.m0.acc) := cell_of (q4)
  have y5 : w4.cell? ⟨(w.heap.size + 1), 5, none⟩ = some (.int .i64 t2.m0.w) := cell_of (q4)
  have y6 : w4.cell? ⟨(w.heap.size + 1), 6, none⟩ = some (.int .i64 t2.m0.r) := cell_of (q4)
  have y7 : w4.cell? ⟨(w.heap.size + 1), 7, none⟩ = some (.int .i64 t2.m1.c) := cell_of (q4)
  have y8 : w4.cell? ⟨(w.heap.size + 1), 8, none⟩ = some (.slice d2 t2.m1.q.length dk2) := cell_of (q4)
  have y9 : w4.cell? ⟨(w.heap.size + 1), 9, none⟩ = some (.bool t2.m1.busy) := cell_of (q4)
  have y10 : w4.cell? ⟨(w.heap.size + 1), 10, none⟩ = some (.slice d3 t2.m1.rest.length dk3) := cell_of (q4)
  have y11 : w4.cell? ⟨(w.heap.size + 1), 11, none⟩ = some (.int .i64 t2.m1.acc) := cell_of (q4)
  have y12 : w4.cell? ⟨(w.heap.size + 1), 12, none⟩ = some (.int .i64 t2.m1.w) := cell_of (q4)
  have y13 : w4.cell? ⟨(w.heap.size + 1), 13, none⟩ = some (.int .i64 t2.m1.r) := cell_of (q4)
  have y14 : w4.cell? ⟨(w.heap.size + 1), 14, none⟩ = some (.bool t2.x0) := cell_of (q4)
  have y15 : w4.cell? ⟨(w.heap.size + 1), 15, none⟩ = some (.bool t2.x1) := cell_of (q4)
  have HF4 := Lib.hid f4
  clear f4 q4
  go_wp2_with fail
  refine bodyPost_ret (v := .tuple #[.agg #[.int .i64 t2.m0.c, .slice d0 t2.m0.q.length dk0, .bool t2.m0.busy, .slice d1 t2.m0.rest.length dk1, .int .i64 t2.m0.acc, .int .i64 t2.m0.w, .int .i64 t2.m0.r, .int .i64 t2.m1.c, .slice d2 t2.m1.q.length dk2, .bool t2.m1.busy, .slice d3 t2.m1.rest.length dk3, .int .i64 t2.m1.acc, .int .i64 t2.m1.w, .int .i64 t2.m1.r, .bool t2.x0, .bool t2.x1], .int .i64 0]) (by simp [results, Try.results109, go_sem, y0, y1, y2, y3, y4, y5, y6, y7, y8, y9, y10, y11, y12, y13, y14, y15]) rfl ?_
  have hz3 := HF3.out.size
  have hz5 := HF5.out.size
  have F46 : Fr [w.heap.size, w.heap.size + 1] w5 w4 := HF6.out.trans HF4.out (fun x hx => .inl (by simp at hx; simp [hx])) (fun x hx => .inl (by simp at hx; simp [hx]))
  have F : Fr [] w w4 := (((HF1.out.then0 HF2.out).trans HF3.out (U := []) (by simp) (fun x hx => .inr (by simp at hx; omega))).then0 HF5.out).trans F46 (by simp) (fun x hx => .inr (by simp at hx; omega))
  have KO : ∀ {v : Value} {l : List UInt8}, PartV w5 (fun x => (((fun x => N x ∧ x < w.heap.size) x ∨ w1.heap.size ≤ x) ∧ x < w3.heap.size) ∨ w3.heap.size ≤ x) v l → PartV w4 (fun x => N x ∨ w.heap.size ≤ x) v l := fun h => (h.keep F46 (fun x hx hn => by simp at hx; rcases hn with ⟨hn | hn, _⟩ | hn; have := hn.2; omega; omega; omega)).mono (fun x hx => by rcases hx with ⟨hx | hx, _⟩ | hx; exact .inl hx.1; exact .inr (by omega); exact .inr (by omega))
  refine ⟨_, rfl, F, ?_⟩
  rw [show closeS1 s = t2 from by rw [← HT2.out, ← HT1.out]; rfl]
  exact ⟨_, _, _, _, rfl, KO HB5.out.1.1, KO HB5.out.1.2, KO HB5.out.2.1, KO HB5.out.2.2⟩

end Go.Proofs.Ytdoamelhclnphaa
