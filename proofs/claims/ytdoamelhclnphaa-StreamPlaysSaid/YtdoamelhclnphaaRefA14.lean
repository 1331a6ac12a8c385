/-
  The reference of layer 14: states as values; Same.
-/
import Derived.Test.YtdoamelhclnphaaStF
namespace Go.Proofs.Ytdoamelhclnphaa
open Go.RowKit
set_option maxRecDepth 100000

/-- A state as a value, its bytes where N allows. -/
def Sv (w : World) (N : Nat → Prop) (v : Value) (m : SM) : Prop :=
  ∃ u1 u2, v = .agg #[.int .i64 m.c, u1, .bool m.busy, u2, .int .i64 m.acc, .int .i64 m.w, .int .i64 m.r] ∧ PartV w N u1 m.q ∧ PartV w N u2 m.rest
theorem Sv.keep {w w' : World} {N : Nat → Prop} {v : Value} {m : SM} (h : Sv w N v m) {S : List Nat} (hf : Fr S w w') (hS : ∀ x ∈ S, ¬ N x) : Sv w' N v m := by
  obtain ⟨u1, u2, h1, h2, h3⟩ := h
  exact ⟨u1, u2, h1, h2.keep hf hS, h3.keep hf hS⟩
theorem Sv.keep0 {w w' : World} {N : Nat → Prop} {v : Value} {m : SM} (h : Sv w N v m) (hf : Fr [] w w') : Sv w' N v m := h.keep hf (by simp)
theorem Sv.mono {w : World} {N N' : Nat → Prop} {v : Value} {m : SM} (h : Sv w N v m) (hN : ∀ x, N x → N' x) : Sv w N' v m := by
  obtain ⟨u1, u2, h1, h2, h3⟩ := h
  exact ⟨u1, u2, h1, h2.mono hN, h3.mono hN⟩
theorem Sv.there {w : World} {N : Nat → Prop} {v : Value} {m : SM} (h : Sv w N v m) : Sv w (fun x => N x ∧ x < w.heap.size) v m := by
  obtain ⟨u1, u2, h1, h2, h3⟩ := h
  exact ⟨u1, u2, h1, h2.there, h3.there⟩
theorem PartV.nil (w : World) (N : Nat → Prop) : PartV w N (.slice none 0 0) [] := ⟨none, 0, rfl, Nat.le_refl _, by unfold maxLen; omega, Sl.nil _ _, by intro b o h; simp at h⟩
theorem Sv.zero (w : World) (N : Nat → Prop) : Sv w N (.agg #[.int .i64 0, .slice none 0 0, .bool false, .slice none 0 0, .int .i64 0, .int .i64 0, .int .i64 0]) (newM 0) := ⟨_, _, rfl, PartV.nil _ _, PartV.nil _ _⟩
theorem PartV.ofOw {w : World} {M : Nat} {v : Value} {p : List UInt8} (h : Ow w M 5 v ((bi p).map (Value.int .u8))) : PartV w (fun x => M ≤ x) v p := by
  obtain ⟨a, cap, hv, h1, h2, h3, h4⟩ := h.formB
  exact ⟨a, cap, hv, h1, h2, h3, fun b o h0 e => h4 b o e⟩
theorem SvO.sv {w : World} {M : Nat} {v : Value} {m : SM} (h : SvO w M v m) : Sv w (fun x => M ≤ x) v m := by
  obtain ⟨u1, u2, h1, h2, h3⟩ := h
  exact ⟨u1, u2, h1, PartV.ofOw h2, PartV.ofOw h3⟩
theorem PartV.form {w : World} {N : Nat → Prop} {v : Value} {p : List UInt8} (h : PartV w N v p) : ∃ a c, v = .slice a p.length c ∧ Sl w a (bi p) := by
  obtain ⟨a, c, hv, _, _, h3, _⟩ := h
  exact ⟨a, c, hv, h3⟩
theorem st_beq (l : List UInt8) : ((⟨l.toArray⟩ : ByteArray) == ⟨l.toArray⟩) = true := by
  show (l.toArray == l.toArray) = true
  simp
set_option maxHeartbeats 2000000 in
theorem same14 {w : World} {N N' : Nat → Prop} {v u : Value} {m : SM} (hv : Sv w N v m) (hu : Sv w N' u m) :
    Calls Try.prog 41 #[v, u] w fun e w' => e = .returned (.bool true) ∧ Fr [] w w' := by
  obtain ⟨u1, u2, rfl, hq, hr⟩ := hv
  obtain ⟨u3, u4, rfl, hq', hr'⟩ := hu
  obtain ⟨a1, c1, rfl, s1⟩ := hq.form
  obtain ⟨a2, c2, rfl, s2⟩ := hr.form
  obtain ⟨a3, c3, rfl, s3⟩ := hq'.form
  obtain ⟨a4, c4, rfl, s4⟩ := hr'.form
  obtain ⟨w0, hw0, f0, q0, q1⟩ : ∃ W, (w.alloc (.cells #[.int .i64 m.c, .slice a1 m.q.length c1, .bool m.busy, .slice a2 m.rest.length c2, .int .i64 m.acc, .int .i64 m.w, .int .i64 m.r] 41)).alloc (.cells #[.int .i64 m.c, .slice a3 m.q.length c3, .bool m.busy, .slice a4 m.rest.length c4, .int .i64 m.acc, .int .i64 m.w, .int .i64 m.r] 41) = W ∧ Fr [] w W ∧
      W.heap[w.heap.size]? = some (.cells #[.int .i64 m.c, .slice a1 m.q.length c1, .bool m.busy, .slice a2 m.rest.length c2, .int .i64 m.acc, .int .i64 m.w, .int .i64 m.r] 41 (0, 0)) ∧ W.heap[w.heap.size + 1]? = some (.cells #[.int .i64 m.c, .slice a3 m.q.length c3, .bool m.busy, .slice a4 m.rest.length c4, .int .i64 m.acc, .int .i64 m.w, .int .i64 m.r] 41 (0, 0)) := ⟨_, rfl, ((Fr.refl _ _).alloc _).alloc _, keepA (newA rfl), newA (by simp)⟩
  have v1 := fun c => conv_st (cap := c) (sl_keep s1 f0 (by simp)) rfl
  have v2 := fun c => conv_st (cap := c) (sl_keep s2 f0 (by simp)) rfl
  have v3 := fun c => conv_st (cap := c) (sl_keep s3 f0 (by simp)) rfl
  have v4 := fun c => conv_st (cap := c) (sl_keep s4 f0 (by simp)) rfl
  have b1 : ∀ l : List UInt8, (st l == st l) = true := st_beq
  have b2 : (m.c == m.c) = true := beq_self_eq_true _
  have b3 : (m.busy == m.busy) = true := beq_self_eq_true _
  have b4 : (m.acc == m.acc) = true := beq_self_eq_true _
  have b5 : (m.w == m.w) = true := beq_self_eq_true _
  have b6 : (m.r == m.r) = true := beq_self_eq_true _
  have x0 : w0.cell? ⟨w.heap.size, 0, none⟩ = some (.int .i64 m.c) := cell_of q0
  have x1 : w0.cell? ⟨w.heap.size, 1, none⟩ = some (.slice a1 m.q.length c1) := cell_of q0
  have x2 : w0.cell? ⟨w.heap.size, 2, none⟩ = some (.bool m.busy) := cell_of q0
  have x3 : w0.cell? ⟨w.heap.size, 3, none⟩ = some (.slice a2 m.rest.length c2) := cell_of q0
  have x4 : w0.cell? ⟨w.heap.size, 4, none⟩ = some (.int .i64 m.acc) := cell_of q0
  have x5 : w0.cell? ⟨w.heap.size, 5, none⟩ = some (.int .i64 m.w) := cell_of q0
  have x6 : w0.cell? ⟨w.heap.size, 6, none⟩ = some (.int .i64 m.r) := cell_of q0
  have y0 : w0.cell? ⟨w.heap.size + 1, 0, none⟩ = some (.int .i64 m.c) := cell_of q1
  have y1 : w0.cell? ⟨w.heap.size + 1, 1, none⟩ = some (.slice a3 m.q.length c3) := cell_of q1
  have y2 : w0.cell? ⟨w.heap.size + 1, 2, none⟩ = some (.bool m.busy) := cell_of q1
  have y3 : w0.cell? ⟨w.heap.size + 1, 3, none⟩ = some (.slice a4 m.rest.length c4) := cell_of q1
  have y4 : w0.cell? ⟨w.heap.size + 1, 4, none⟩ = some (.int .i64 m.acc) := cell_of q1
  have y5 : w0.cell? ⟨w.heap.size + 1, 5, none⟩ = some (.int .i64 m.w) := cell_of q1
  have y6 : w0.cell? ⟨w.heap.size + 1, 6, none⟩ = some (.int .i64 m.r) := cell_of q1
  have HF := Lib.hid f0
  clear hq hr hq' hr' s1 s2 s3 s4 q0 q1 f0
  go_enter Try.func41, Try.ntmps41
  go_wp2_with fail
  go_ret
  exact ⟨rfl, HF.out⟩
end Go.Proofs.Ytdoamelhclnphaa
