/-
  Law 15: a connection's state as a value; Same; what nil and zero connections answer to State and Copy.
-/
import Derived.Test.YtdoamelhclnphaaDupA
import Derived.Test.YtdoamelhclnphaaRefA
namespace Go.Proofs.Ytdoamelhclnphaa
open Go.RowKit
set_option maxRecDepth 100000

/-- A ConnState as a value. -/
def Cv (w : World) (N : Nat → Prop) (v : Value) (s : DM) : Prop :=
  ∃ u0 u1 u2 u3, v = .agg #[.int .i64 s.m0.c, u0, .bool s.m0.busy, u1, .int .i64 s.m0.acc, .int .i64 s.m0.w, .int .i64 s.m0.r, .int .i64 s.m1.c, u2, .bool s.m1.busy, u3, .int .i64 s.m1.acc, .int .i64 s.m1.w, .int .i64 s.m1.r, .bool s.x0, .bool s.x1] ∧ PartV w N u0 s.m0.q ∧ PartV w N u1 s.m0.rest ∧ PartV w N u2 s.m1.q ∧ PartV w N u3 s.m1.rest
theorem Cv.keep {w w' : World} {N : Nat → Prop} {v : Value} {s : DM} (h : Cv w N v s) {S : List Nat} (hf : Fr S w w') (hS : ∀ x ∈ S, ¬ N x) : Cv w' N v s := by
  obtain ⟨u0, u1, u2, u3, e, h0, h1, h2, h3⟩ := h
  exact ⟨u0, u1, u2, u3, e, h0.keep hf hS, h1.keep hf hS, h2.keep hf hS, h3.keep hf hS⟩
theorem Cv.zero (w : World) (N : Nat → Prop) : Cv w N (.agg #[.int .i64 0, .slice none 0 0, .bool false, .slice none 0 0, .int .i64 0, .int .i64 0, .int .i64 0, .int .i64 0, .slice none 0 0, .bool false, .slice none 0 0, .int .i64 0, .int .i64 0, .int .i64 0, .bool false, .bool false]) ⟨newM 0, newM 0, false, false⟩ := ⟨_, _, _, _, rfl, PartV.nil _ _, PartV.nil _ _, PartV.nil _ _, PartV.nil _ _⟩
theorem eq_bool2 (w : World) (a b : Bool) : (Op.equalIn 10000 25 (.agg #[.bool a, .bool b]) (.agg #[.bool a, .bool b])).run Try.prog w = .ok true w := by
  have hp : ∀ (x y : Bool) (w : World), (part 4 #[.bool x, .bool y] 0).run Try.prog w = .ok (.bool x) w := fun _ _ _ => by kernel_rfl
  have hq : ∀ (x y : Bool) (w : World), (part 4 #[.bool x, .bool y] 1).run Try.prog w = .ok (.bool y) w := fun _ _ _ => by kernel_rfl
  have he : ∀ (x y : Bool) (w : World), (Op.equalIn 9999 4 (.bool x) (.bool y)).run Try.prog w = .ok (x == y) w := fun x y w => run_equalIn_bool w 9998 _ x y Try.underlying4
  obtain ⟨i, hi⟩ : ∃ i, Try.prog.info? 4 = some i := Option.isSome_iff_exists.1 (by kernel_rfl)
  have hc : Try.prog.cellsOf 4 = 1 := by kernel_rfl
  rw [show (10000 : Nat) = 9999 + 1 from rfl, run_equalIn_array w 9999 _ _ Try.underlying25 hi, hc, show List.range 2 = [0, 1] from rfl]
  simp [Op.eqItems, Sem.run_bind, hp, hq, he, Result.andThen_ok]
set_option maxHeartbeats 4000000 in
theorem same15 {w : World} {N N' : Nat → Prop} {va vb : Value} {s : DM} (ha : Cv w N va s) (hb : Cv w N' vb s) :
    Calls Try.prog 21 #[va, vb] w fun e w' => e = .returned (.bool true) ∧ Fr [] w w' := by
  obtain ⟨u0, u1, u2, u3, rfl, a0, a1, a2, a3⟩ := ha
  obtain ⟨v0, v1, v2, v3, rfl, b0, b1, b2, b3⟩ := hb
  obtain ⟨w0, hw0, f0, qa, qb⟩ : ∃ W, (w.alloc (.cells #[.int .i64 s.m0.c, u0, .bool s.m0.busy, u1, .int .i64 s.m0.acc, .int .i64 s.m0.w, .int .i64 s.m0.r, .int .i64 s.m1.c, u2, .bool s.m1.busy, u3, .int .i64 s.m1.acc, .int .i64 s.m1.w, .int .i64 s.m1.r, .bool s.x0, .bool s.x1] 44)).alloc (.cells #[.int .i64 s.m0.c, v0, .bool s.m0.busy, v1, .int .i64 s.m0.acc, .int .i64 s.m0.w, .int .i64 s.m0.r, .int .i64 s.m1.c, v2, .bool s.m1.busy, v3, .int .i64 s.m1.acc, .int .i64 s.m1.w, .int .i64 s.m1.r, .bool s.x0, .bool s.x1] 44) = W ∧ Fr [] w W ∧ W.heap[w.heap.size]? = some (.cells #[.int .i64 s.m0.c, u0, .bool s.m0.busy, u1, .int .i64 s.m0.acc, .int .i64 s.m0.w, .int .i64 s.m0.r, .int .i64 s.m1.c, u2, .bool s.m1.busy, u3, .int .i64 s.m1.acc, .int .i64 s.m1.w, .int .i64 s.m1.r, .bool s.x0, .bool s.x1] 44 (0, 0)) ∧ W.heap[w.heap.size + 1]? = some (.cells #[.int .i64 s.m0.c, v0, .bool s.m0.busy, v1, .int .i64 s.m0.acc, .int .i64 s.m0.w, .int .i64 s.m0.r, .int .i64 s.m1.c, v2, .bool s.m1.busy, v3, .int .i64 s.m1.acc, .int .i64 s.m1.w, .int .i64 s.m1.r, .bool s.x0, .bool s.x1] 44 (0, 0)) := ⟨_, rfl, ((Fr.refl _ _).alloc _).alloc _, keepA (newA rfl), newA (by simp)⟩
  have HQA := Lib.hid (And.intro qa qb)
  have HP := Lib.hid (And.intro (And.intro a0 (And.intro a1 (And.intro a2 a3))) (And.intro b0 (And.intro b1 (And.intro b2 b3))))
  have HF := Lib.hid f0
  have p0 : w0.cell? ⟨w.heap.size, 0, none⟩ = some (.int .i64 s.m0.c) := cell_of qa
  have p1 : w0.cell? ⟨w.heap.size, 1, none⟩ = some (u0) := cell_of qa
  have p2 : w0.cell? ⟨w.heap.size, 2, none⟩ = some (.bool s.m0.busy) := cell_of qa
  have p3 : w0.cell? ⟨w.heap.size, 3, none⟩ = some (u1) := cell_of qa
  have p4 : w0.cell? ⟨w.heap.size, 4, none⟩ = some (.int .i64 s.m0.acc) := cell_of qa
  have p5 : w0.cell? ⟨w.heap.size, 5, none⟩ = some (.int .i64 s.m0.w) := cell_of qa
  have p6 : w0.cell? ⟨w.heap.size, 6, none⟩ = some (.int .i64 s.m0.r) := cell_of qa
  have p7 : w0.cell? ⟨w.heap.size, 7, none⟩ = some (.int .i64 s.m1.c) := cell_of qa
  have p8 : w0.cell? ⟨w.heap.size, 8, none⟩ = some (u2) := cell_of qa
  have p9 : w0.cell? ⟨w.heap.size, 9, none⟩ = some (.bool s.m1.busy) := cell_of qa
  have p10 : w0.cell? ⟨w.heap.size, 10, none⟩ = some (u3) := cell_of qa
  have p11 : w0.cell? ⟨w.heap.size, 11, none⟩ = some (.int .i64 s.m1.acc) := cell_of qa
  have p12 : w0.cell? ⟨w.heap.size, 12, none⟩ = some (.int .i64 s.m1.w) := cell_of qa
  have p13 : w0.cell? ⟨w.heap.size, 13, none⟩ = some (.int .i64 s.m1.r) := cell_of qa
  have p14 : w0.cell? ⟨w.heap.size, 14, none⟩ = some (.bool s.x0) := cell_of qa
  have p15 : w0.cell? ⟨w.heap.size, 15, none⟩ = some (.bool s.x1) := cell_of qa
  have q0 : w0.cell? ⟨w.heap.size + 1, 0, none⟩ = some (.int .i64 s.m0.c) := cell_of qb
  have q1 : w0.cell? ⟨w.heap.size + 1, 1, none⟩ = some (v0) := cell_of qb
  have q2 : w0.cell? ⟨w.heap.size + 1, 2, none⟩ = some (.bool s.m0.busy) := cell_of qb
  have q3 : w0.cell? ⟨w.heap.size + 1, 3, none⟩ = some (v1) := cell_of qb
  have q4 : w0.cell? ⟨w.heap.size + 1, 4, none⟩ = some (.int .i64 s.m0.acc) := cell_of qb
  have q5 : w0.cell? ⟨w.heap.size + 1, 5, none⟩ = some (.int .i64 s.m0.w) := cell_of qb
  have q6 : w0.cell? ⟨w.heap.size + 1, 6, none⟩ = some (.int .i64 s.m0.r) := cell_of qb
  have q7 : w0.cell? ⟨w.heap.size + 1, 7, none⟩ = some (.int .i64 s.m1.c) := cell_of qb
  have q8 : w0.cell? ⟨w.heap.size + 1, 8, none⟩ = some (v2) := cell_of qb
  have q9 : w0.cell? ⟨w.heap.size + 1, 9, none⟩ = some (.bool s.m1.busy) := cell_of qb
  have q10 : w0.cell? ⟨w.heap.size + 1, 10, none⟩ = some (v3) := cell_of qb
  have q11 : w0.cell? ⟨w.heap.size + 1, 11, none⟩ = some (.int .i64 s.m1.acc) := cell_of qb
  have q12 : w0.cell? ⟨w.heap.size + 1, 12, none⟩ = some (.int .i64 s.m1.w) := cell_of qb
  have q13 : w0.cell? ⟨w.heap.size + 1, 13, none⟩ = some (.int .i64 s.m1.r) := cell_of qb
  have q14 : w0.cell? ⟨w.heap.size + 1, 14, none⟩ = some (.bool s.x0) := cell_of qb
  have q15 : w0.cell? ⟨w.heap.size + 1, 15, none⟩ = some (.bool s.x1) := cell_of qb
  have heq := fun (w : World) => eq_bool2 w s.x0 s.x1
  have HS0 := Lib.hid (same14 (w := w0) (m := s.m0) (N := N) (N' := N') ⟨u0, u1, rfl, a0.keep f0 (by simp), a1.keep f0 (by simp)⟩ ⟨v0, v1, rfl, b0.keep f0 (by simp), b1.keep f0 (by simp)⟩)
  clear qa qb f0 a0 a1 a2 a3 b0 b1 b2 b3
  go_enter Try.func21, Try.ntmps21
  go_wp2_with fail
  refine HS0.out.mono ?_
  rintro e w1 ⟨rfl, f1⟩
  have HF1 := Lib.hid (HF.out.then0 f1)
  have qa := f1.keep HQA.out.1 (by simp)
  have qb := f1.keep HQA.out.2 (by simp)
  clear p0 p1 p2 p3 p4 p5 p6 p7 p8 p9 p10 p11 p12 p13 p14 p15 q0 q1 q2 q3 q4 q5 q6 q7 q8 q9 q10 q11 q12 q13 q14 q15 f1 hw0
  have HW1 := Lib.hid (And.intro qa qb)
  have p0 : w1.cell? ⟨w.heap.size, 0, none⟩ = some (.int .i64 s.m0.c) := cell_of qa
  have p1 : w1.cell? ⟨w.heap.size, 1, none⟩ = some (u0) := cell_of qa
  have p2 : w1.cell? ⟨w.heap.size, 2, none⟩ = some (.bool s.m0.busy) := cell_of qa
  have p3 : w1.cell? ⟨w.heap.size, 3, none⟩ = some (u1) := cell_of qa
  have p4 : w1.cell? ⟨w.heap.size, 4, none⟩ = some (.int .i64 s.m0.acc) := cell_of qa
  have p5 : w1.cell? ⟨w.heap.size, 5, none⟩ = some (.int .i64 s.m0.w) := cell_of qa
  have p6 : w1.cell? ⟨w.heap.size, 6, none⟩ = some (.int .i64 s.m0.r) := cell_of qa
  have p7 : w1.cell? ⟨w.heap.size, 7, none⟩ = some (.int .i64 s.m1.c) := cell_of qa
  have p8 : w1.cell? ⟨w.heap.size, 8, none⟩ = some (u2) := cell_of qa
  have p9 : w1.cell? ⟨w.heap.size, 9, none⟩ = some (.bool s.m1.busy) := cell_of qa
  have p10 : w1.cell? ⟨w.heap.size, 10, none⟩ = some (u3) := cell_of qa
  have p11 : w1.cell? ⟨w.heap.size, 11, none⟩ = some (.int .i64 s.m1.acc) := cell_of qa
  have p12 : w1.cell? ⟨w.heap.size, 12, none⟩ = some (.int .i64 s.m1.w) := cell_of qa
  have p13 : w1.cell? ⟨w.heap.size, 13, none⟩ = some (.int .i64 s.m1.r) := cell_of qa
  have p14 : w1.cell? ⟨w.heap.size, 14, none⟩ = some (.bool s.x0) := cell_of qa
  have p15 : w1.cell? ⟨w.heap.size, 15, none⟩ = some (.bool s.x1) := cell_of qa
  have q0 : w1.cell? ⟨w.heap.size + 1, 0, none⟩ = some (.int .i64 s.m0.c) := cell_of qb
  have q1 : w1.cell? ⟨w.heap.size + 1, 1, none⟩ = some (v0) := cell_of qb
  have q2 : w1.cell? ⟨w.heap.size + 1, 2, none⟩ = some (.bool s.m0.busy) := cell_of qb
  have q3 : w1.cell? ⟨w.heap.size + 1, 3, none⟩ = some (v1) := cell_of qb
  have q4 : w1.cell? ⟨w.heap.size + 1, 4, none⟩ = some (.int .i64 s.m0.acc) := cell_of qb
  have q5 : w1.cell? ⟨w.heap.size + 1, 5, none⟩ = some (.int .i64 s.m0.w) := cell_of qb
  have q6 : w1.cell? ⟨w.heap.size + 1, 6, none⟩ = some (.int .i64 s.m0.r) := cell_of qb
  have q7 : w1.cell? ⟨w.heap.size + 1, 7, none⟩ = some (.int .i64 s.m1.c) := cell_of qb
  have q8 : w1.cell? ⟨w.heap.size + 1, 8, none⟩ = some (v2) := cell_of qb
  have q9 : w1.cell? ⟨w.heap.size + 1, 9, none⟩ = some (.bool s.m1.busy) := cell_of qb
  have q10 : w1.cell? ⟨w.heap.size + 1, 10, none⟩ = some (v3) := cell_of qb
  have q11 : w1.cell? ⟨w.heap.size + 1, 11, none⟩ = some (.int .i64 s.m1.acc) := cell_of qb
  have q12 : w1.cell? ⟨w.heap.size + 1, 12, none⟩ = some (.int .i64 s.m1.w) := cell_of qb
  have q13 : w1.cell? ⟨w.heap.size + 1, 13, none⟩ = some (.int .i64 s.m1.r) := cell_of qb
  have q14 : w1.cell? ⟨w.heap.size + 1, 14, none⟩ = some (.bool s.x0) := cell_of qb
  have q15 : w1.cell? ⟨w.heap.size + 1, 15, none⟩ = some (.bool s.x1) := cell_of qb
  clear qa qb
  go_wp2_with fail
  refine (same14 (w := w1) (m := s.m1) (N := N) (N' := N') ⟨u2, u3, rfl, HP.out.1.2.2.1.keep HF1.out (by simp), HP.out.1.2.2.2.keep HF1.out (by simp)⟩ ⟨v2, v3, rfl, HP.out.2.2.2.1.keep HF1.out (by simp), HP.out.2.2.2.2.keep HF1.out (by simp)⟩).mono ?_
  rintro e w2 ⟨rfl, f2⟩
  have HF2 := Lib.hid (HF1.out.then0 f2)
  have qa := (HF2.out.size)
  have ga := f2.keep (show w1.heap[w.heap.size]? = _ from HW1.out.1) (by simp)
  have gb := f2.keep HW1.out.2 (by simp)
  clear p0 p1 p2 p3 p4 p5 p6 p7 p8 p9 p10 p11 p12 p13 p14 p15 q0 q1 q2 q3 q4 q5 q6 q7 q8 q9 q10 q11 q12 q13 q14 q15 f2 qa
  have p0 : w2.cell? ⟨w.heap.size, 0, none⟩ = some (.int .i64 s.m0.c) := cell_of ga
  have p1 : w2.cell? ⟨w.heap.size, 1, none⟩ = some (u0) := cell_of ga
  have p2 : w2.cell? ⟨w.heap.size, 2, none⟩ = some (.bool s.m0.busy) := cell_of ga
  have p3 : w2.cell? ⟨w.heap.size, 3, none⟩ = some (u1) := cell_of ga
  have p4 : w2.cell? ⟨w.heap.size, 4, none⟩ = some (.int .i64 s.m0.acc) := cell_of ga
  have p5 : w2.cell? ⟨w.heap.size, 5, none⟩ = some (.int .i64 s.m0.w) := cell_of ga
  have p6 : w2.cell? ⟨w.heap.size, 6, none⟩ = some (.int .i64 s.m0.r) := cell_of ga
  have p7 : w2.cell? ⟨w.heap.size, 7, none⟩ = some (.int .i64 s.m1.c) := cell_of ga
  have p8 : w2.cell? ⟨w.heap.size, 8, none⟩ = some (u2) := cell_of ga
  have p9 : w2.cell? ⟨w.heap.size, 9, none⟩ = some (.bool s.m1.busy) := cell_of ga
  have p10 : w2.cell? ⟨w.heap.size, 10, none⟩ = some (u3) := cell_of ga
  have p11 : w2.cell? ⟨w.heap.size, 11, none⟩ = some (.int .i64 s.m1.acc) := cell_of ga
  have p12 : w2.cell? ⟨w.heap.size, 12, none⟩ = some (.int .i64 s.m1.w) := cell_of ga
  have p13 : w2.cell? ⟨w.heap.size, 13, none⟩ = some (.int .i64 s.m1.r) := cell_of ga
  have p14 : w2.cell? ⟨w.heap.size, 14, none⟩ = some (.bool s.x0) := cell_of ga
  have p15 : w2.cell? ⟨w.heap.size, 15, none⟩ = some (.bool s.x1) := cell_of ga
  have q0 : w2.cell? ⟨w.heap.size + 1, 0, none⟩ = some (.int .i64 s.m0.c) := cell_of gb
  have q1 : w2.cell? ⟨w.heap.size + 1, 1, none⟩ = some (v0) := cell_of gb
  have q2 : w2.cell? ⟨w.heap.size + 1, 2, none⟩ = some (.bool s.m0.busy) := cell_of gb
  have q3 : w2.cell? ⟨w.heap.size + 1, 3, none⟩ = some (v1) := cell_of gb
  have q4 : w2.cell? ⟨w.heap.size + 1, 4, none⟩ = some (.int .i64 s.m0.acc) := cell_of gb
  have q5 : w2.cell? ⟨w.heap.size + 1, 5, none⟩ = some (.int .i64 s.m0.w) := cell_of gb
  have q6 : w2.cell? ⟨w.heap.size + 1, 6, none⟩ = some (.int .i64 s.m0.r) := cell_of gb
  have q7 : w2.cell? ⟨w.heap.size + 1, 7, none⟩ = some (.int .i64 s.m1.c) := cell_of gb
  have q8 : w2.cell? ⟨w.heap.size + 1, 8, none⟩ = some (v2) := cell_of gb
  have q9 : w2.cell? ⟨w.heap.size + 1, 9, none⟩ = some (.bool s.m1.busy) := cell_of gb
  have q10 : w2.cell? ⟨w.heap.size + 1, 10, none⟩ = some (v3) := cell_of gb
  have q11 : w2.cell? ⟨w.heap.size + 1, 11, none⟩ = some (.int .i64 s.m1.acc) := cell_of gb
  have q12 : w2.cell? ⟨w.heap.size + 1, 12, none⟩ = some (.int .i64 s.m1.w) := cell_of gb
  have q13 : w2.cell? ⟨w.heap.size + 1, 13, none⟩ = some (.int .i64 s.m1.r) := cell_of gb
  have q14 : w2.cell? ⟨w.heap.size + 1, 14, none⟩ = some (.bool s.x0) := cell_of gb
  have q15 : w2.cell? ⟨w.heap.size + 1, 15, none⟩ = some (.bool s.x1) := cell_of gb
  clear ga gb
  go_wp2_with fail
  go_ret
  exact ⟨rfl, HF2.out⟩
end Go.Proofs.Ytdoamelhclnphaa
