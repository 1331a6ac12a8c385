/-
  Law 15: is.
-/
import Derived.Test.YtdoamelhclnphaaGs
import Derived.Test.YtdoamelhclnphaaRefE15
import Derived.Test.YtdoamelhclnphaaDxLaw
import Derived.Test.YtdoamelhclnphaaRegT
import Derived.LoopN
namespace Go.Proofs.Ytdoamelhclnphaa
open Go.RowKit
set_option maxRecDepth 100000

set_option maxHeartbeats 16000000 in
theorem is15 {w : World} {F N : Nat → Prop} {d : Nat} {v : Value} {s : DM} (hs : Dx w F d s) (h : Cv w N v s) :
    Calls Try.prog 64 #[.pointer (some ⟨d, 0, none⟩), v] w fun e w' => e = .returned (.bool true) ∧ Fr [] w w' := by
  replace h := h.there
  obtain ⟨u0, u1, u2, u3, rfl, p0, p1, p2, p3⟩ := h
  obtain ⟨a0, k0, rfl, _⟩ := id p0
  obtain ⟨a1, k1, rfl, _⟩ := id p1
  obtain ⟨a2, k2, rfl, _⟩ := id p2
  obtain ⟨a3, k3, rfl, _⟩ := id p3
  obtain ⟨b0, b1, F0, F1, hs⟩ := hs
  obtain ⟨w0, hw0, f0, qa⟩ : ∃ W, w.alloc (.cells #[.int .i64 s.m0.c, .slice a0 s.m0.q.length k0, .bool s.m0.busy, .slice a1 s.m0.rest.length k1, .int .i64 s.m0.acc, .int .i64 s.m0.w, .int .i64 s.m0.r, .int .i64 s.m1.c, .slice a2 s.m1.q.length k2, .bool s.m1.busy, .slice a3 s.m1.rest.length k3, .int .i64 s.m1.acc, .int .i64 s.m1.w, .int .i64 s.m1.r, .bool s.x0, .bool s.x1] 44) = W ∧ Fr [] w W ∧ W.heap[w.heap.size]? = some (.cells #[.int .i64 s.m0.c, .slice a0 s.m0.q.length k0, .bool s.m0.busy, .slice a1 s.m0.rest.length k1, .int .i64 s.m0.acc, .int .i64 s.m0.w, .int .i64 s.m0.r, .int .i64 s.m1.c, .slice a2 s.m1.q.length k2, .bool s.m1.busy, .slice a3 s.m1.rest.length k3, .int .i64 s.m1.acc, .int .i64 s.m1.w, .int .i64 s.m1.r, .bool s.x0, .bool s.x1] 44 (0, 0)) := ⟨_, rfl, (Fr.refl _ _).alloc _, newA rfl⟩
  have HF := Lib.hid f0
  have HP := Lib.hid (And.intro (And.intro p0 p1) (And.intro p2 p3))
  have HS := Lib.hid (hs.keep f0 (by simp))
  have HQ := Lib.hid qa
  have hm0 : max (0 : Int) (min 1 0) = 0 := by decide
  have hm1 : max (0 : Int) (min 1 1) = 1 := by decide
  have hm2 : max (0 : Int) 1 = 1 := by decide
  have x0 : w0.cell? ⟨w.heap.size, 0, none⟩ = some (.int .i64 s.m0.c) := cell_of (qa)
  have x1 : w0.cell? ⟨w.heap.size, 1, none⟩ = some (.slice a0 s.m0.q.length k0) := cell_of (qa)
  have x2 : w0.cell? ⟨w.heap.size, 2, none⟩ = some (.bool s.m0.busy) := cell_of (qa)
  have x3 : w0.cell? ⟨w.heap.size, 3, none⟩ = some (.slice a1 s.m0.rest.length k1) := cell_of (qa)
  have x4 : w0.cell? ⟨w.heap.size, 4, none⟩ = some (.int .i64 s.m0.acc) := cell_of (qa)
  have x5 : w0.cell? ⟨w.heap.size, 5, none⟩ = some (.int .i64 s.m0.w) := cell_of (qa)
  have x6 : w0.cell? ⟨w.heap.size, 6, none⟩ = some (.int .i64 s.m0.r) := cell_of (qa)
  have x7 : w0.cell? ⟨w.heap.size, 7, none⟩ = some (.int .i64 s.m1.c) := cell_of (qa)
  have x8 : w0.cell? ⟨w.heap.size, 8, none⟩ = some (.slice a2 s.m1.q.length k2) := cell_of (qa)
  have x9 : w0.cell? ⟨w.heap.size, 9, none⟩ = some (.bool s.m1.busy) := cell_of (qa)
  have x10 : w0.cell? ⟨w.heap.size, 10, none⟩ = some (.slice a3 s.m1.rest.length k3) := cell_of (qa)
  have x11 : w0.cell? ⟨w.heap.size, 11, none⟩ = some (.int .i64 s.m1.acc) := cell_of (qa)
  have x12 : w0.cell? ⟨w.heap.size, 12, none⟩ = some (.int .i64 s.m1.w) := cell_of (qa)
  have x13 : w0.cell? ⟨w.heap.size, 13, none⟩ = some (.int .i64 s.m1.r) := cell_of (qa)
  have x14 : w0.cell? ⟨w.heap.size, 14, none⟩ = some (.bool s.x0) := cell_of (qa)
  have x15 : w0.cell? ⟨w.heap.size, 15, none⟩ = some (.bool s.x1) := cell_of (qa)
  clear f0 qa p0 p1 p2 p3 hs
  go_enter Try.func64, Try.ntmps64
  go_wp2_with fail
  clear hw0
  refine wp_loop_rounds 5 ?_
  as_aux_lemma =>
    rw [rounds_succ]
    go_wp2_with fail
    refine (r15_progress_no (N := (fun x => N x ∧ x < w.heap.size)) (v := .agg #[.int .i64 s.m0.c, .slice a0 s.m0.q.length k0, .bool s.m0.busy, .slice a1 s.m0.rest.length k1, .int .i64 s.m0.acc, .int .i64 s.m0.w, .int .i64 s.m0.r, .int .i64 s.m1.c, .slice a2 s.m1.q.length k2, .bool s.m1.busy, .slice a3 s.m1.rest.length k3, .int .i64 s.m1.acc, .int .i64 s.m1.w, .int .i64 s.m1.r, .bool s.x0, .bool s.x1]) (s := s) ⟨_, _, _, _, rfl, HP.out.1.1.keep HF.out (by simp), HP.out.1.2.keep HF.out (by simp), HP.out.2.1.keep HF.out (by simp), HP.out.2.2.keep HF.out (by simp)⟩ (-1) (by omega)).mono ?_
    rintro e w1 ⟨rfl, f⟩
    have HF' := Lib.hid (HF.out.then0 f)
    have HS' := Lib.hid (HS.out.keep f (by simp))
    have HQ' := Lib.hid (f.keep HQ.out (by simp))
    clear HF HS HQ f
    have HF := HF'
    have HS := HS'
    have HQ := HQ'
    clear HF' HS' HQ'
    clear x0 x1 x2 x3 x4 x5 x6 x7 x8 x9 x10 x11 x12 x13 x14 x15
    have x0 : w1.cell? ⟨w.heap.size, 0, none⟩ = some (.int .i64 s.m0.c) := cell_of (HQ.out)
    have x1 : w1.cell? ⟨w.heap.size, 1, none⟩ = some (.slice a0 s.m0.q.length k0) := cell_of (HQ.out)
    have x2 : w1.cell? ⟨w.heap.size, 2, none⟩ = some (.bool s.m0.busy) := cell_of (HQ.out)
    have x3 : w1.cell? ⟨w.heap.size, 3, none⟩ = some (.slice a1 s.m0.rest.length k1) := cell_of (HQ.out)
    have x4 : w1.cell? ⟨w.heap.size, 4, none⟩ = some (.int .i64 s.m0.acc) := cell_of (HQ.out)
    have x5 : w1.cell? ⟨w.heap.size, 5, none⟩ = some (.int .i64 s.m0.w) := cell_of (HQ.out)
    have x6 : w1.cell? ⟨w.heap.size, 6, none⟩ = some (.int .i64 s.m0.r) := cell_of (HQ.out)
    have x7 : w1.cell? ⟨w.heap.size, 7, none⟩ = some (.int .i64 s.m1.c) := cell_of (HQ.out)
    have x8 : w1.cell? ⟨w.heap.size, 8, none⟩ = some (.slice a2 s.m1.q.length k2) := cell_of (HQ.out)
    have x9 : w1.cell? ⟨w.heap.size, 9, none⟩ = some (.bool s.m1.busy) := cell_of (HQ.out)
    have x10 : w1.cell? ⟨w.heap.size, 10, none⟩ = some (.slice a3 s.m1.rest.length k3) := cell_of (HQ.out)
    have x11 : w1.cell? ⟨w.heap.size, 11, none⟩ = some (.int .i64 s.m1.acc) := cell_of (HQ.out)
    have x12 : w1.cell? ⟨w.heap.size, 12, none⟩ = some (.int .i64 s.m1.w) := cell_of (HQ.out)
    have x13 : w1.cell? ⟨w.heap.size, 13, none⟩ = some (.int .i64 s.m1.r) := cell_of (HQ.out)
    have x14 : w1.cell? ⟨w.heap.size, 14, none⟩ = some (.bool s.x0) := cell_of (HQ.out)
    have x15 : w1.cell? ⟨w.heap.size, 15, none⟩ = some (.bool s.x1) := cell_of (HQ.out)
    go_wp2_with fail
    refine (at15 (P := fun w' => Fr [] w1 w') ((dx_progress_no HS.out.b (-1) (by omega)).mono (fun e w' ⟨he, hw⟩ => ⟨he, hw ▸ Fr.refl _ _⟩))).mono ?_
    rintro e w2 ⟨rfl, f⟩
    have HF' := Lib.hid (HF.out.then0 f)
    have HS' := Lib.hid (HS.out.keep f (by simp))
    have HQ' := Lib.hid (f.keep HQ.out (by simp))
    clear HF HS HQ f
    have HF := HF'
    have HS := HS'
    have HQ := HQ'
    clear HF' HS' HQ'
    clear x0 x1 x2 x3 x4 x5 x6 x7 x8 x9 x10 x11 x12 x13 x14 x15
    have x0 : w2.cell? ⟨w.heap.size, 0, none⟩ = some (.int .i64 s.m0.c) := cell_of (HQ.out)
    have x1 : w2.cell? ⟨w.heap.size, 1, none⟩ = some (.slice a0 s.m0.q.length k0) := cell_of (HQ.out)
    have x2 : w2.cell? ⟨w.heap.size, 2, none⟩ = some (.bool s.m0.busy) := cell_of (HQ.out)
    have x3 : w2.cell? ⟨w.heap.size, 3, none⟩ = some (.slice a1 s.m0.rest.length k1) := cell_of (HQ.out)
    have x4 : w2.cell? ⟨w.heap.size, 4, none⟩ = some (.int .i64 s.m0.acc) := cell_of (HQ.out)
    have x5 : w2.cell? ⟨w.heap.size, 5, none⟩ = some (.int .i64 s.m0.w) := cell_of (HQ.out)
    have x6 : w2.cell? ⟨w.heap.size, 6, none⟩ = some (.int .i64 s.m0.r) := cell_of (HQ.out)
    have x7 : w2.cell? ⟨w.heap.size, 7, none⟩ = some (.int .i64 s.m1.c) := cell_of (HQ.out)
    have x8 : w2.cell? ⟨w.heap.size, 8, none⟩ = some (.slice a2 s.m1.q.length k2) := cell_of (HQ.out)
    have x9 : w2.cell? ⟨w.heap.size, 9, none⟩ = some (.bool s.m1.busy) := cell_of (HQ.out)
    have x10 : w2.cell? ⟨w.heap.size, 10, none⟩ = some (.slice a3 s.m1.rest.length k3) := cell_of (HQ.out)
    have x11 : w2.cell? ⟨w.heap.size, 11, none⟩ = some (.int .i64 s.m1.acc) := cell_of (HQ.out)
    have x12 : w2.cell? ⟨w.heap.size, 12, none⟩ = some (.int .i64 s.m1.w) := cell_of (HQ.out)
    have x13 : w2.cell? ⟨w.heap.size, 13, none⟩ = some (.int .i64 s.m1.r) := cell_of (HQ.out)
    have x14 : w2.cell? ⟨w.heap.size, 14, none⟩ = some (.bool s.x0) := cell_of (HQ.out)
    have x15 : w2.cell? ⟨w.heap.size, 15, none⟩ = some (.bool s.x1) := cell_of (HQ.out)
    go_wp2_with fail
    refine (dx_closed_no HS.out.b (-1) (by omega)).mono ?_
    rintro e w' ⟨rfl, rfl⟩
    go_wp2_with fail
    refine (r15_end _ _).mono ?_
    rintro e w' ⟨rfl, rfl⟩
    go_wp2_with fail
    as_aux_lemma =>
      rw [rounds_succ]
      go_wp2_with fail
      refine (r15_progress0 (N := (fun x => N x ∧ x < w.heap.size)) (v := .agg #[.int .i64 s.m0.c, .slice a0 s.m0.q.length k0, .bool s.m0.busy, .slice a1 s.m0.rest.length k1, .int .i64 s.m0.acc, .int .i64 s.m0.w, .int .i64 s.m0.r, .int .i64 s.m1.c, .slice a2 s.m1.q.length k2, .bool s.m1.busy, .slice a3 s.m1.rest.length k3, .int .i64 s.m1.acc, .int .i64 s.m1.w, .int .i64 s.m1.r, .bool s.x0, .bool s.x1]) (s := s) ⟨_, _, _, _, rfl, HP.out.1.1.keep HF.out (by simp), HP.out.1.2.keep HF.out (by simp), HP.out.2.1.keep HF.out (by simp), HP.out.2.2.keep HF.out (by simp)⟩).mono ?_
      rintro e w3 ⟨rfl, f⟩
      have HF' := Lib.hid (HF.out.then0 f)
      have HS' := Lib.hid (HS.out.keep f (by simp))
      have HQ' := Lib.hid (f.keep HQ.out (by simp))
      clear HF HS HQ f
      have HF := HF'
      have HS := HS'
      have HQ := HQ'
      clear HF' HS' HQ'
      clear x0 x1 x2 x3 x4 x5 x6 x7 x8 x9 x10 x11 x12 x13 x14 x15
      have x0 : w3.cell? ⟨w.heap.size, 0, none⟩ = some (.int .i64 s.m0.c) := cell_of (HQ.out)
      have x1 : w3.cell? ⟨w.heap.size, 1, none⟩ = some (.slice a0 s.m0.q.length k0) := cell_of (HQ.out)
      have x2 : w3.cell? ⟨w.heap.size, 2, none⟩ = some (.bool s.m0.busy) := cell_of (HQ.out)
      have x3 : w3.cell? ⟨w.heap.size, 3, none⟩ = some (.slice a1 s.m0.rest.length k1) := cell_of (HQ.out)
      have x4 : w3.cell? ⟨w.heap.size, 4, none⟩ = some (.int .i64 s.m0.acc) := cell_of (HQ.out)
      have x5 : w3.cell? ⟨w.heap.size, 5, none⟩ = some (.int .i64 s.m0.w) := cell_of (HQ.out)
      have x6 : w3.cell? ⟨w.heap.size, 6, none⟩ = some (.int .i64 s.m0.r) := cell_of (HQ.out)
      have x7 : w3.cell? ⟨w.heap.size, 7, none⟩ = some (.int .i64 s.m1.c) := cell_of (HQ.out)
      have x8 : w3.cell? ⟨w.heap.size, 8, none⟩ = some (.slice a2 s.m1.q.length k2) := cell_of (HQ.out)
      have x9 : w3.cell? ⟨w.heap.size, 9, none⟩ = some (.bool s.m1.busy) := cell_of (HQ.out)
      have x10 : w3.cell? ⟨w.heap.size, 10, none⟩ = some (.slice a3 s.m1.rest.length k3) := cell_of (HQ.out)
      have x11 : w3.cell? ⟨w.heap.size, 11, none⟩ = some (.int .i64 s.m1.acc) := cell_of (HQ.out)
      have x12 : w3.cell? ⟨w.heap.size, 12, none⟩ = some (.int .i64 s.m1.w) := cell_of (HQ.out)
      have x13 : w3.cell? ⟨w.heap.size, 13, none⟩ = some (.int .i64 s.m1.r) := cell_of (HQ.out)
      have x14 : w3.cell? ⟨w.heap.size, 14, none⟩ = some (.bool s.x0) := cell_of (HQ.out)
      have x15 : w3.cell? ⟨w.heap.size, 15, none⟩ = some (.bool s.x1) := cell_of (HQ.out)
      go_wp2_with fail
      refine (at15 (P := fun w' => Fr [] w3 w') (dx_progress0 HS.out)).mono ?_
      rintro e w4 ⟨rfl, f⟩
      have HF' := Lib.hid (HF.out.then0 f)
      have HS' := Lib.hid (HS.out.keep f (by simp))
      have HQ' := Lib.hid (f.keep HQ.out (by simp))
      clear HF HS HQ f
      have HF := HF'
      have HS := HS'
      have HQ := HQ'
      clear HF' HS' HQ'
      clear x0 x1 x2 x3 x4 x5 x6 x7 x8 x9 x10 x11 x12 x13 x14 x15
      have x0 : w4.cell? ⟨w.heap.size, 0, none⟩ = some (.int .i64 s.m0.c) := cell_of (HQ.out)
      have x1 : w4.cell? ⟨w.heap.size, 1, none⟩ = some (.slice a0 s.m0.q.length k0) := cell_of (HQ.out)
      have x2 : w4.cell? ⟨w.heap.size, 2, none⟩ = some (.bool s.m0.busy) := cell_of (HQ.out)
      have x3 : w4.cell? ⟨w.heap.size, 3, none⟩ = some (.slice a1 s.m0.rest.length k1) := cell_of (HQ.out)
      have x4 : w4.cell? ⟨w.heap.size, 4, none⟩ = some (.int .i64 s.m0.acc) := cell_of (HQ.out)
      have x5 : w4.cell? ⟨w.heap.size, 5, none⟩ = some (.int .i64 s.m0.w) := cell_of (HQ.out)
      have x6 : w4.cell? ⟨w.heap.size, 6, none⟩ = some (.int .i64 s.m0.r) := cell_of (HQ.out)
      have x7 : w4.cell? ⟨w.heap.size, 7, none⟩ = some (.int .i64 s.m1.c) := cell_of (HQ.out)
      have x8 : w4.cell? ⟨w.heap.size, 8, none⟩ = some (.slice a2 s.m1.q.length k2) := cell_of (HQ.out)
      have x9 : w4.cell? ⟨w.heap.size, 9, none⟩ = some (.bool s.m1.busy) := cell_of (HQ.out)
      have x10 : w4.cell? ⟨w.heap.size, 10, none⟩ = some (.slice a3 s.m1.rest.length k3) := cell_of (HQ.out)
      have x11 : w4.cell? ⟨w.heap.size, 11, none⟩ = some (.int .i64 s.m1.acc) := cell_of (HQ.out)
      have x12 : w4.cell? ⟨w.heap.size, 12, none⟩ = some (.int .i64 s.m1.w) := cell_of (HQ.out)
      have x13 : w4.cell? ⟨w.heap.size, 13, none⟩ = some (.int .i64 s.m1.r) := cell_of (HQ.out)
      have x14 : w4.cell? ⟨w.heap.size, 14, none⟩ = some (.bool s.x0) := cell_of (HQ.out)
      have x15 : w4.cell? ⟨w.heap.size, 15, none⟩ = some (.bool s.x1) := cell_of (HQ.out)
      go_wp2_with fail
      refine (dx_closed0 HS.out).mono ?_
      rintro e w' ⟨rfl, rfl⟩
      go_wp2_with fail
      refine (r15_end _ _).mono ?_
      rintro e w' ⟨rfl, rfl⟩
      go_wp2_with fail
      as_aux_lemma =>
        rw [rounds_succ]
        go_wp2_with fail
        refine (r15_progress1 (N := (fun x => N x ∧ x < w.heap.size)) (v := .agg #[.int .i64 s.m0.c, .slice a0 s.m0.q.length k0, .bool s.m0.busy, .slice a1 s.m0.rest.length k1, .int .i64 s.m0.acc, .int .i64 s.m0.w, .int .i64 s.m0.r, .int .i64 s.m1.c, .slice a2 s.m1.q.length k2, .bool s.m1.busy, .slice a3 s.m1.rest.length k3, .int .i64 s.m1.acc, .int .i64 s.m1.w, .int .i64 s.m1.r, .bool s.x0, .bool s.x1]) (s := s) ⟨_, _, _, _, rfl, HP.out.1.1.keep HF.out (by simp), HP.out.1.2.keep HF.out (by simp), HP.out.2.1.keep HF.out (by simp), HP.out.2.2.keep HF.out (by simp)⟩).mono ?_
        rintro e w5 ⟨rfl, f⟩
        have HF' := Lib.hid (HF.out.then0 f)
        have HS' := Lib.hid (HS.out.keep f (by simp))
        have HQ' := Lib.hid (f.keep HQ.out (by simp))
        clear HF HS HQ f
        have HF := HF'
        have HS := HS'
        have HQ := HQ'
        clear HF' HS' HQ'
        clear x0 x1 x2 x3 x4 x5 x6 x7 x8 x9 x10 x11 x12 x13 x14 x15
        have x0 : w5.cell? ⟨w.heap.size, 0, none⟩ = some (.int .i64 s.m0.c) := cell_of (HQ.out)
        have x1 : w5.cell? ⟨w.heap.size, 1, none⟩ = some (.slice a0 s.m0.q.length k0) := cell_of (HQ.out)
        have x2 : w5.cell? ⟨w.heap.size, 2, none⟩ = some (.bool s.m0.busy) := cell_of (HQ.out)
        have x3 : w5.cell? ⟨w.heap.size, 3, none⟩ = some (.slice a1 s.m0.rest.length k1) := cell_of (HQ.out)
        have x4 : w5.cell? ⟨w.heap.size, 4, none⟩ = some (.int .i64 s.m0.acc) := cell_of (HQ.out)
        have x5 : w5.cell? ⟨w.heap.size, 5, none⟩ = some (.int .i64 s.m0.w) := cell_of (HQ.out)
        have x6 : w5.cell? ⟨w.heap.size, 6, none⟩ = some (.int .i64 s.m0.r) := cell_of (HQ.out)
        have x7 : w5.cell? ⟨w.heap.size, 7, none⟩ = some (.int .i64 s.m1.c) := cell_of (HQ.out)
        have x8 : w5.cell? ⟨w.heap.size, 8, none⟩ = some (.slice a2 s.m1.q.length k2) := cell_of (HQ.out)
        have x9 : w5.cell? ⟨w.heap.size, 9, none⟩ = some (.bool s.m1.busy) := cell_of (HQ.out)
        have x10 : w5.cell? ⟨w.heap.size, 10, none⟩ = some (.slice a3 s.m1.rest.length k3) := cell_of (HQ.out)
        have x11 : w5.cell? ⟨w.heap.size, 11, none⟩ = some (.int .i64 s.m1.acc) := cell_of (HQ.out)
        have x12 : w5.cell? ⟨w.heap.size, 12, none⟩ = some (.int .i64 s.m1.w) := cell_of (HQ.out)
        have x13 : w5.cell? ⟨w.heap.size, 13, none⟩ = some (.int .i64 s.m1.r) := cell_of (HQ.out)
        have x14 : w5.cell? ⟨w.heap.size, 14, none⟩ = some (.bool s.x0) := cell_of (HQ.out)
        have x15 : w5.cell? ⟨w.heap.size, 15, none⟩ = some (.bool s.x1) := cell_of (HQ.out)
        go_wp2_with fail
        refine (at15 (P := fun w' => Fr [] w5 w') (dx_progress1 HS.out)).mono ?_
        rintro e w6 ⟨rfl, f⟩
        have HF' := Lib.hid (HF.out.then0 f)
        have HS' := Lib.hid (HS.out.keep f (by simp))
        have HQ' := Lib.hid (f.keep HQ.out (by simp))
        clear HF HS HQ f
        have HF := HF'
        have HS := HS'
        have HQ := HQ'
        clear HF' HS' HQ'
        clear x0 x1 x2 x3 x4 x5 x6 x7 x8 x9 x10 x11 x12 x13 x14 x15
        have x0 : w6.cell? ⟨w.heap.size, 0, none⟩ = some (.int .i64 s.m0.c) := cell_of (HQ.out)
        have x1 : w6.cell? ⟨w.heap.size, 1, none⟩ = some (.slice a0 s.m0.q.length k0) := cell_of (HQ.out)
        have x2 : w6.cell? ⟨w.heap.size, 2, none⟩ = some (.bool s.m0.busy) := cell_of (HQ.out)
        have x3 : w6.cell? ⟨w.heap.size, 3, none⟩ = some (.slice a1 s.m0.rest.length k1) := cell_of (HQ.out)
        have x4 : w6.cell? ⟨w.heap.size, 4, none⟩ = some (.int .i64 s.m0.acc) := cell_of (HQ.out)
        have x5 : w6.cell? ⟨w.heap.size, 5, none⟩ = some (.int .i64 s.m0.w) := cell_of (HQ.out)
        have x6 : w6.cell? ⟨w.heap.size, 6, none⟩ = some (.int .i64 s.m0.r) := cell_of (HQ.out)
        have x7 : w6.cell? ⟨w.heap.size, 7, none⟩ = some (.int .i64 s.m1.c) := cell_of (HQ.out)
        have x8 : w6.cell? ⟨w.heap.size, 8, none⟩ = some (.slice a2 s.m1.q.length k2) := cell_of (HQ.out)
        have x9 : w6.cell? ⟨w.heap.size, 9, none⟩ = some (.bool s.m1.busy) := cell_of (HQ.out)
        have x10 : w6.cell? ⟨w.heap.size, 10, none⟩ = some (.slice a3 s.m1.rest.length k3) := cell_of (HQ.out)
        have x11 : w6.cell? ⟨w.heap.size, 11, none⟩ = some (.int .i64 s.m1.acc) := cell_of (HQ.out)
        have x12 : w6.cell? ⟨w.heap.size, 12, none⟩ = some (.int .i64 s.m1.w) := cell_of (HQ.out)
        have x13 : w6.cell? ⟨w.heap.size, 13, none⟩ = some (.int .i64 s.m1.r) := cell_of (HQ.out)
        have x14 : w6.cell? ⟨w.heap.size, 14, none⟩ = some (.bool s.x0) := cell_of (HQ.out)
        have x15 : w6.cell? ⟨w.heap.size, 15, none⟩ = some (.bool s.x1) := cell_of (HQ.out)
        go_wp2_with fail
        refine (dx_closed1 HS.out).mono ?_
        rintro e w' ⟨rfl, rfl⟩
        go_wp2_with fail
        refine (r15_end _ _).mono ?_
        rintro e w' ⟨rfl, rfl⟩
        go_wp2_with fail
        as_aux_lemma =>
          rw [rounds_succ]
          go_wp2_with fail
          refine (r15_progress_no (N := (fun x => N x ∧ x < w.heap.size)) (v := .agg #[.int .i64 s.m0.c, .slice a0 s.m0.q.length k0, .bool s.m0.busy, .slice a1 s.m0.rest.length k1, .int .i64 s.m0.acc, .int .i64 s.m0.w, .int .i64 s.m0.r, .int .i64 s.m1.c, .slice a2 s.m1.q.length k2, .bool s.m1.busy, .slice a3 s.m1.rest.length k3, .int .i64 s.m1.acc, .int .i64 s.m1.w, .int .i64 s.m1.r, .bool s.x0, .bool s.x1]) (s := s) ⟨_, _, _, _, rfl, HP.out.1.1.keep HF.out (by simp), HP.out.1.2.keep HF.out (by simp), HP.out.2.1.keep HF.out (by simp), HP.out.2.2.keep HF.out (by simp)⟩ (2) (by omega)).mono ?_
          rintro e w7 ⟨rfl, f⟩
          have HF' := Lib.hid (HF.out.then0 f)
          have HS' := Lib.hid (HS.out.keep f (by simp))
          have HQ' := Lib.hid (f.keep HQ.out (by simp))
          clear HF HS HQ f
          have HF := HF'
          have HS := HS'
          have HQ := HQ'
          clear HF' HS' HQ'
          clear x0 x1 x2 x3 x4 x5 x6 x7 x8 x9 x10 x11 x12 x13 x14 x15
          have x0 : w7.cell? ⟨w.heap.size, 0, none⟩ = some (.int .i64 s.m0.c) := cell_of (HQ.out)
          have x1 : w7.cell? ⟨w.heap.size, 1, none⟩ = some (.slice a0 s.m0.q.length k0) := cell_of (HQ.out)
          have x2 : w7.cell? ⟨w.heap.size, 2, none⟩ = some (.bool s.m0.busy) := cell_of (HQ.out)
          have x3 : w7.cell? ⟨w.heap.size, 3, none⟩ = some (.slice a1 s.m0.rest.length k1) := cell_of (HQ.out)
          have x4 : w7.cell? ⟨w.heap.size, 4, none⟩ = some (.int .i64 s.m0.acc) := cell_of (HQ.out)
          have x5 : w7.cell? ⟨w.heap.size, 5, none⟩ = some (.int .i64 s.m0.w) := cell_of (HQ.out)
          have x6 : w7.cell? ⟨w.heap.size, 6, none⟩ = some (.int .i64 s.m0.r) := cell_of (HQ.out)
          have x7 : w7.cell? ⟨w.heap.size, 7, none⟩ = some (.int .i64 s.m1.c) := cell_of (HQ.out)
          have x8 : w7.cell? ⟨w.heap.size, 8, none⟩ = some (.slice a2 s.m1.q.length k2) := cell_of (HQ.out)
          have x9 : w7.cell? ⟨w.heap.size, 9, none⟩ = some (.bool s.m1.busy) := cell_of (HQ.out)
          have x10 : w7.cell? ⟨w.heap.size, 10, none⟩ = some (.slice a3 s.m1.rest.length k3) := cell_of (HQ.out)
          have x11 : w7.cell? ⟨w.heap.size, 11, none⟩ = some (.int .i64 s.m1.acc) := cell_of (HQ.out)
          have x12 : w7.cell? ⟨w.heap.size, 12, none⟩ = some (.int .i64 s.m1.w) := cell_of (HQ.out)
          have x13 : w7.cell? ⟨w.heap.size, 13, none⟩ = some (.int .i64 s.m1.r) := cell_of (HQ.out)
          have x14 : w7.cell? ⟨w.heap.size, 14, none⟩ = some (.bool s.x0) := cell_of (HQ.out)
          have x15 : w7.cell? ⟨w.heap.size, 15, none⟩ = some (.bool s.x1) := cell_of (HQ.out)
          go_wp2_with fail
          refine (at15 (P := fun w' => Fr [] w7 w') ((dx_progress_no HS.out.b (2) (by omega)).mono (fun e w' ⟨he, hw⟩ => ⟨he, hw ▸ Fr.refl _ _⟩))).mono ?_
          rintro e w8 ⟨rfl, f⟩
          have HF' := Lib.hid (HF.out.then0 f)
          have HS' := Lib.hid (HS.out.keep f (by simp))
          have HQ' := Lib.hid (f.keep HQ.out (by simp))
          clear HF HS HQ f
          have HF := HF'
          have HS := HS'
          have HQ := HQ'
          clear HF' HS' HQ'
          clear x0 x1 x2 x3 x4 x5 x6 x7 x8 x9 x10 x11 x12 x13 x14 x15
          have x0 : w8.cell? ⟨w.heap.size, 0, none⟩ = some (.int .i64 s.m0.c) := cell_of (HQ.out)
          have x1 : w8.cell? ⟨w.heap.size, 1, none⟩ = some (.slice a0 s.m0.q.length k0) := cell_of (HQ.out)
          have x2 : w8.cell? ⟨w.heap.size, 2, none⟩ = some (.bool s.m0.busy) := cell_of (HQ.out)
          have x3 : w8.cell? ⟨w.heap.size, 3, none⟩ = some (.slice a1 s.m0.rest.length k1) := cell_of (HQ.out)
          have x4 : w8.cell? ⟨w.heap.size, 4, none⟩ = some (.int .i64 s.m0.acc) := cell_of (HQ.out)
          have x5 : w8.cell? ⟨w.heap.size, 5, none⟩ = some (.int .i64 s.m0.w) := cell_of (HQ.out)
          have x6 : w8.cell? ⟨w.heap.size, 6, none⟩ = some (.int .i64 s.m0.r) := cell_of (HQ.out)
          have x7 : w8.cell? ⟨w.heap.size, 7, none⟩ = some (.int .i64 s.m1.c) := cell_of (HQ.out)
          have x8 : w8.cell? ⟨w.heap.size, 8, none⟩ = some (.slice a2 s.m1.q.length k2) := cell_of (HQ.out)
          have x9 : w8.cell? ⟨w.heap.size, 9, none⟩ = some (.bool s.m1.busy) := cell_of (HQ.out)
          have x10 : w8.cell? ⟨w.heap.size, 10, none⟩ = some (.slice a3 s.m1.rest.length k3) := cell_of (HQ.out)
          have x11 : w8.cell? ⟨w.heap.size, 11, none⟩ = some (.int .i64 s.m1.acc) := cell_of (HQ.out)
          have x12 : w8.cell? ⟨w.heap.size, 12, none⟩ = some (.int .i64 s.m1.w) := cell_of (HQ.out)
          have x13 : w8.cell? ⟨w.heap.size, 13, none⟩ = some (.int .i64 s.m1.r) := cell_of (HQ.out)
          have x14 : w8.cell? ⟨w.heap.size, 14, none⟩ = some (.bool s.x0) := cell_of (HQ.out)
          have x15 : w8.cell? ⟨w.heap.size, 15, none⟩ = some (.bool s.x1) := cell_of (HQ.out)
          go_wp2_with fail
          refine (dx_closed_no HS.out.b (2) (by omega)).mono ?_
          rintro e w' ⟨rfl, rfl⟩
          go_wp2_with fail
          refine (r15_end _ _).mono ?_
          rintro e w' ⟨rfl, rfl⟩
          go_wp2_with fail
          as_aux_lemma =>
            rw [rounds_succ]
            have HES := Lib.hid (Go.Proofs.enters_of Try.func22 (by kernel_rfl) rfl)
            have HEQ := Lib.hid (Go.Proofs.enters_of Try.func21 (by kernel_rfl) rfl)
            have HFA := Lib.hid fun (w' : World) (f : Fr [] w8 w') => (show w'.cell? ⟨w.heap.size, 0, none⟩ = some (.int .i64 s.m0.c) ∧ w'.cell? ⟨w.heap.size, 1, none⟩ = some (.slice a0 s.m0.q.length k0) ∧ w'.cell? ⟨w.heap.size, 2, none⟩ = some (.bool s.m0.busy) ∧ w'.cell? ⟨w.heap.size, 3, none⟩ = some (.slice a1 s.m0.rest.length k1) ∧ w'.cell? ⟨w.heap.size, 4, none⟩ = some (.int .i64 s.m0.acc) ∧ w'.cell? ⟨w.heap.size, 5, none⟩ = some (.int .i64 s.m0.w) ∧ w'.cell? ⟨w.heap.size, 6, none⟩ = some (.int .i64 s.m0.r) ∧ w'.cell? ⟨w.heap.size, 7, none⟩ = some (.int .i64 s.m1.c) ∧ w'.cell? ⟨w.heap.size, 8, none⟩ = some (.slice a2 s.m1.q.length k2) ∧ w'.cell? ⟨w.heap.size, 9, none⟩ = some (.bool s.m1.busy) ∧ w'.cell? ⟨w.heap.size, 10, none⟩ = some (.slice a3 s.m1.rest.length k3) ∧ w'.cell? ⟨w.heap.size, 11, none⟩ = some (.int .i64 s.m1.acc) ∧ w'.cell? ⟨w.heap.size, 12, none⟩ = some (.int .i64 s.m1.w) ∧ w'.cell? ⟨w.heap.size, 13, none⟩ = some (.int .i64 s.m1.r) ∧ w'.cell? ⟨w.heap.size, 14, none⟩ = some (.bool s.x0) ∧ w'.cell? ⟨w.heap.size, 15, none⟩ = some (.bool s.x1) from (let q := f.keep HQ.out (by simp); ⟨cell_of q, cell_of q, cell_of q, cell_of q, cell_of q, cell_of q, cell_of q, cell_of q, cell_of q, cell_of q, cell_of q, cell_of q, cell_of q, cell_of q, cell_of q, cell_of q⟩))
            clear x0 x1 x2 x3 x4 x5 x6 x7 x8 x9 x10 x11 x12 x13 x14 x15
            go_wp2_with fail
            have fd : Fr [] w8 w8.drew := (Fr.refl _ _).drew
            refine wp_region_order [(0, true), (2, true), (1, false), (3, false), (4, true)] (fun w' => Fr [] w8 w') (by kernel_rfl) (by kernel_rfl) fd ?_
            intro OPS HOPS
            have hops := HOPS.out
            try simp only [List.append_eq, List.cons_append, List.nil_append] at hops
            replace HOPS := Lib.hid hops
            clear hops
            refine walkO_take (o := _) (v := ?_) (by rw [HOPS.out]; simp only [gA, gB, gC]; exact rfl) (Or.inl ⟨rfl, ?_⟩) ?_
            rotate_left
            · (intro w hSw; have hSx := HFA.out _ hSw; (try dsimp only at hSx); clear hSw; go_simp) <;> (with_reducible rfl)
            simp only [Act.put, gD, gE, gF]
            refine walkO_take (o := _) (v := ?_) (by rw [HOPS.out]; simp only [gA, gB, gC]; exact rfl) (Or.inl ⟨rfl, ?_⟩) ?_
            rotate_left
            · (intro w hSw; have hSx := HFA.out _ hSw; (try dsimp only at hSx); clear hSw; go_simp) <;> (with_reducible rfl)
            simp only [Act.put, gD, gE, gF]
            refine walkO_call (o := _) (by rw [HOPS.out]; simp only [gA, gB, gC]; exact rfl) (fun K HK => ?_)
            refine step_call rfl 22 #[(.tmp 40)] #[22] rfl HES.out #[.pointer (some ⟨d, 0, none⟩)] (by simp [Act.eval]) (dx_state (HS.out.keep fd (by simp))) ?_
            rintro e wa ⟨va, rfl, fa, ca⟩
            have ga := fd.then0 fa
            refine ⟨_, rfl, ?_⟩
            refine HK.out (fun w' => Fr [] w8 w') _ _ (fun _ h => h) (ga) ?_
            clear HK K
            simp only [Act.put, gD, gE, gF]
            refine walkO_call (o := _) (by rw [HOPS.out]; simp only [gA, gB, gC]; exact rfl) (fun K HK => ?_)
            refine step_call rfl 21 #[(.tmp 41), (.tmp 42)] #[44, 44] rfl HEQ.out #[va, .agg #[.int .i64 s.m0.c, .slice a0 s.m0.q.length k0, .bool s.m0.busy, .slice a1 s.m0.rest.length k1, .int .i64 s.m0.acc, .int .i64 s.m0.w, .int .i64 s.m0.r, .int .i64 s.m1.c, .slice a2 s.m1.q.length k2, .bool s.m1.busy, .slice a3 s.m1.rest.length k3, .int .i64 s.m1.acc, .int .i64 s.m1.w, .int .i64 s.m1.r, .bool s.x0, .bool s.x1]] (by simp [Act.eval]) (same15 ca (show Cv wa (fun x => N x ∧ x < w.heap.size) (.agg #[.int .i64 s.m0.c, .slice a0 s.m0.q.length k0, .bool s.m0.busy, .slice a1 s.m0.rest.length k1, .int .i64 s.m0.acc, .int .i64 s.m0.w, .int .i64 s.m0.r, .int .i64 s.m1.c, .slice a2 s.m1.q.length k2, .bool s.m1.busy, .slice a3 s.m1.rest.length k3, .int .i64 s.m1.acc, .int .i64 s.m1.w, .int .i64 s.m1.r, .bool s.x0, .bool s.x1]) s from ⟨_, _, _, _, rfl, HP.out.1.1.keep (HF.out.then0 ga) (by simp), HP.out.1.2.keep (HF.out.then0 ga) (by simp), HP.out.2.1.keep (HF.out.then0 ga) (by simp), HP.out.2.2.keep (HF.out.then0 ga) (by simp)⟩)) ?_
            rintro e wb ⟨rfl, fb⟩
            have gb := ga.then0 fb
            refine ⟨_, rfl, ?_⟩
            refine HK.out (fun w' => Fr [] w8 w') _ _ (fun _ h => h) (gb) ?_
            clear HK K
            simp only [Act.put, gD, gE, gF]
            refine walkO_take (o := _) (v := ?_) (by rw [HOPS.out]; simp only [gA, gB, gC]; exact rfl) (Or.inl ⟨rfl, ?_⟩) ?_
            rotate_left
            · (intro w hSw; have hSx := HFA.out _ hSw; (try dsimp only at hSx); clear hSw; go_simp) <;> (with_reducible rfl)
            simp only [Act.put, gD, gE, gF]
            refine walkO_done ?_
            clear HOPS OPS
            go_wp2_with fail
            go_ret
            exact ⟨rfl, HF.out.then0 gb⟩
end Go.Proofs.Ytdoamelhclnphaa
