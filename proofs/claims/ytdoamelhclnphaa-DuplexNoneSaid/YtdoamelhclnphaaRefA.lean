/-
  The reference of layer 14: states as values; Same.
-/
import Derived.Test.YtdoamelhclnphaaStB
namespace Go.Proofs.Ytdoamelhclnphaa
open Go.RowKit
set_option maxRecDepth 100000

/-- A state as a value, its bytes where N allows. -/
def Sv (w : World) (N : Nat → Prop) (v : Value) (m : SM) : Prop :=
  ∃ u1 u2, v = .agg #[.int .i64 m.c, u1, .bool m.busy, u2, .int .i64 m.acc, .int .i64 m.w, .int .i64 m.r] ∧ PartV w N u1 m.q ∧ PartV w N u2 m.rest
theorem Sv.keep {w w' : World} {N : Nat → Prop} {v : Value} {m : SM} (h : Sv w N v m) {S : List Nat} (hf : Fr S w w') (hS : ∀ x ∈ S, ¬ N x) : Sv w' N v m := by
  obtain ⟨u1, u2, h1, h2, h3⟩ := h
  exact ⟨u1, u2, h1, h2.keep hf hS, h3.keep hf hS⟩
theorem Sv.keep0 {w w' : World} {N : Nat → Prop} {v : Value} {m : SM} (h : Sv w N v m) (hf : Fr [] w w') : Sv w' N v m := h.keep hf (by simp)
theorem Sv.mono {w : World} {N N' : Nat → Prop} {v : Value} {m : SM} (h : Sv w N v m) (hN : ∀ x, N x → N' x) : Sv w N' v m := by
  obtain ⟨u1, u2, h1, h2, h3⟩ := h
  exact ⟨u1, u2, h1, h2.mono hN, h3.mono hN⟩
theorem Sv.there {w : World} {N : Nat → Prop} {v : Value} {m : SM} (h : Sv w N v m) : Sv w (fun x => N x ∧ x < w.heap.size) v m := by
  obtain ⟨u1, u2, h1, h2, h3⟩ := h
  exact ⟨u1, u2, h1, h2.there, h3.there⟩
theorem PartV.nil (w : World) (N : Nat → Prop) : PartV w N (.slice none 0 0) [] := ⟨none, 0, rfl, Nat.le_refl _, by unfold maxLen; omega, Sl.nil _ _, by intro b o h; simp at h⟩
theorem Sv.zero (w : World) (N : Nat → Prop) : Sv w N (.agg #[.int .i64 0, .slice none 0 0, .bool false, .slice none 0 0, .int .i64 0, .int .i64 0, .int .i64 0]) (newM 0) := ⟨_, _, rfl, PartV.nil _ _, PartV.nil _ _⟩
theorem PartV.ofOw {w : World} {M : Nat} {v : Value} {p : List UInt8} (h : Ow w M 5 v ((bi p).map (Value.int .u8))) : PartV w (fun x => M ≤ x) v p := by
  obtain ⟨a, cap, hv, h1, h2, h3, h4⟩ := h.formB
  exact ⟨a, cap, hv, h1, h2, h3, fun b o h0 e => h4 b o e⟩
theorem SvO.sv {w : World} {M : Nat} {v : Value} {m : SM} (h : SvO w M v m) : Sv w (fun x => M ≤ x) v m := by
  obtain ⟨u1, u2, h1, h2, h3⟩ := h
  exact ⟨u1, u2, h1, PartV.ofOw h2, PartV.ofOw h3⟩
theorem PartV.form {w : World} {N : Nat → Prop} {v : Value} {p : List UInt8} (h : PartV w N v p) : ∃ a c, v = .slice a p.length c ∧ Sl w a (bi p) := by
  obtain ⟨a, c, hv, _, _, h3, _⟩ := h
  exact ⟨a, c, hv, h3⟩
theorem st_beq (l : List UInt8) : ((⟨l.toArray⟩ : ByteArray) == ⟨l.toArray⟩) = true := by
  show (l.toArray == l.toArray) = true
  simp
set_option maxHeartbeats 2000000 in
theorem same14 {w : World} {N N' : Nat → Prop} {v u : Value} {m : SM} (hv : Sv w N v m) (hu : Sv w N' u m) :
    Calls Try.prog 41 #[v, u] w fun e w' => e = .returned (.bool true) ∧ Fr [] w w' := by
  obtain ⟨u1, u2, rfl, hq, hr⟩ := hv
  obtain ⟨u3, u4, rfl, hq', hr'⟩ := hu
  obtain ⟨a1, c1, rfl, s1⟩ := hq.form
  obtain ⟨a2, c2, rfl, s2⟩ := hr.form
  obtain ⟨a3, c3, rfl, s3⟩ := hq'.form
  obtain ⟨a4, c4, rfl, s4⟩ := hr'.form
  obtain ⟨w0, hw0, f0, q0, q1⟩ : ∃ W, (w.alloc (.cells #[.int .i64 m.c, .slice a1 m.q.length c1, .bool m.busy, .slice a2 m.rest.length c2, .int .i64 m.acc, .int .i64 m.w, .int .i64 m.r] 41)).alloc (.cells #[.int .i64 m.c, .slice a3 m.q.length c3, .bool m.busy, .slice a4 m.rest.length c4, .int .i64 m.acc, .int .i64 m.w, .int .i64 m.r] 41) = W ∧ Fr [] w W ∧
      W.heap[w.heap.size]? = some (.cells #[.int .i64 m.c, .slice a1 m.q.length c1, .bool m.busy, .slice a2 m.rest.length c2, .int .i64 m.acc, .int .i64 m.w, .int .i64 m.r] 41 (0, 0)) ∧ W.heap[w.heap.size + 1]? = some (.cells #[.int .i64 m.c, .slice a3 m.q.length c3, .bool m.busy, .slice a4 m.rest.length c4, .int .i64 m.acc, .int .i64 m.w, .int .i64 m.r] 41 (0, 0)) := ⟨_, rfl, ((Fr.refl _ _).alloc _).alloc _, keepA (newA rfl), newA (by simp)⟩
  have v1 := fun c => conv_st (cap := c) (sl_keep s1 f0 (by simp)) rfl
  have v2 := fun c => conv_st (cap := c) (sl_keep s2 f0 (by simp)) rfl
  have v3 := fun c => conv_st (cap := c) (sl_keep s3 f0 (by simp)) rfl
  have v4 := fun c => conv_st (cap := c) (sl_keep s4 f0 (by simp)) rfl
  have b1 : ∀ l : List UInt8, (st l == st l) = true := st_beq
  have b2 : (m.c == m.c) = true := beq_self_eq_true _
  have b3 : (m.busy == m.busy) = true := beq_self_eq_true _
  have b4 : (m.acc == m.acc) = true := beq_self_eq_true _
  have b5 : (m.w == m.w) = true := beq_self_eq_true _
  have b6 : (m.r == m.r) = true := beq_self_eq_true _
  have x0 : w0.cell? ⟨w.heap.size, 0, none⟩ = some (.int .i64 m.c) := cell_of q0
  have x1 : w0.cell? ⟨w.heap.size, 1, none⟩ = some (.slice a1 m.q.length c1) := cell_of q0
  have x2 : w0.cell? ⟨w.heap.size, 2, none⟩ = some (.bool m.busy) := cell_of q0
  have x3 : w0.cell? ⟨w.heap.size, 3, none⟩ = some (.slice a2 m.rest.length c2) := cell_of q0
  have x4 : w0.cell? ⟨w.heap.size, 4, none⟩ = some (.int .i64 m.acc) := cell_of q0
  have x5 : w0.cell? ⟨w.heap.size, 5, none⟩ = some (.int .i64 m.w) := cell_of q0
  have x6 : w0.cell? ⟨w.heap.size, 6, none⟩ = some (.int .i64 m.r) := cell_of q0
  have y0 : w0.cell? ⟨w.heap.size + 1, 0, none⟩ = some (.int .i64 m.c) := cell_of q1
  have y1 : w0.cell? ⟨w.heap.size + 1, 1, none⟩ = some (.slice a3 m.q.length c3) := cell_of q1
  have y2 : w0.cell? ⟨w.heap.size + 1, 2, none⟩ = some (.bool m.busy) := cell_of q1
  have y3 : w0.cell? ⟨w.heap.size + 1, 3, none⟩ = some (.slice a4 m.rest.length c4) := cell_of q1
  have y4 : w0.cell? ⟨w.heap.size + 1, 4, none⟩ = some (.int .i64 m.acc) := cell_of q1
  have y5 : w0.cell? ⟨w.heap.size + 1, 5, none⟩ = some (.int .i64 m.w) := cell_of q1
  have y6 : w0.cell? ⟨w.heap.size + 1, 6, none⟩ = some (.int .i64 m.r) := cell_of q1
  have HF := Lib.hid f0
  clear hq hr hq' hr' s1 s2 s3 s4 q0 q1 f0
  go_enter Try.func41, Try.ntmps41
  go_wp2_with fail
  go_ret
  exact ⟨rfl, HF.out⟩
end Go.Proofs.Ytdoamelhclnphaa

namespace Go.Proofs.Ytdoamelhclnphaa
open Go.RowKit
set_option maxRecDepth 100000

section
variable {P : Program} {ops : Array Oper} {rest : List Oper} {o : Oper} {a : Act} {w : World} {Q : Exit → Act → World → Prop}
theorem wpl_store (hgd : o.guard = none) (ty : TypeId) (x y : Operand) (ho : o.op = .store ty x y)
    (g : Nat) (cells : Array Value) (hx : a.eval x = .pointer (some ⟨g, 0, none⟩)) (hy : a.eval y = .agg cells)
    (t : TypeId) (old : Array Value) (hg : w.heap[g]? = some (.cells old t (0, 0))) (hi : (P.info? ty).map (·.size) = some cells.size)
    (hold : old.size = cells.size) (h1 : cells.all (·.oneCell') = true)
    (h : ∀ w', Fr [g] w w' → w'.heap[g]? = some (.cells cells t (0, 0)) → wpList P ops Q rest (a.put o.dst undef) w') : wpList P ops Q (o :: rest) a w :=
  wpList_store_row hgd ty x y ho g cells hx hy t old hg hi hold h1 (h _ setRow_fr' (setRow_heap w g old cells t (0, 0) hg))
end
/-- A state in a box. -/
def S7 (w : World) (B : Nat) (c : Int) (a1 : Option Addr) (n1 k1 : Nat) (busy : Bool) (a2 : Option Addr) (n2 k2 : Nat) (acc x y : Int) : Prop :=
  w.heap[B]? = some (.cells #[.int .i64 c, .slice a1 n1 k1, .bool busy, .slice a2 n2 k2, .int .i64 acc, .int .i64 x, .int .i64 y] 41 (0, 0))
theorem S7.cells {w : World} {B : Nat} {c : Int} {a1 : Option Addr} {n1 k1 : Nat} {busy : Bool} {a2 : Option Addr} {n2 k2 : Nat} {acc x y : Int} (h : S7 w B c a1 n1 k1 busy a2 n2 k2 acc x y) :
    w.cell? ⟨B, 0, none⟩ = some (.int .i64 c) ∧ w.cell? ⟨B, 1, none⟩ = some (.slice a1 n1 k1) ∧ w.cell? ⟨B, 2, none⟩ = some (.bool busy) ∧ w.cell? ⟨B, 3, none⟩ = some (.slice a2 n2 k2) ∧ w.cell? ⟨B, 4, none⟩ = some (.int .i64 acc) ∧ w.cell? ⟨B, 5, none⟩ = some (.int .i64 x) ∧ w.cell? ⟨B, 6, none⟩ = some (.int .i64 y) ∧
    w.frozen? ⟨B, 0, none⟩ = false ∧ w.frozen? ⟨B, 1, none⟩ = false ∧ w.frozen? ⟨B, 2, none⟩ = false ∧ w.frozen? ⟨B, 3, none⟩ = false ∧ w.frozen? ⟨B, 4, none⟩ = false ∧ w.frozen? ⟨B, 5, none⟩ = false ∧ w.frozen? ⟨B, 6, none⟩ = false :=
  ⟨cell_of h, cell_of h, cell_of h, cell_of h, cell_of h, cell_of h, cell_of h, free_of h, free_of h, free_of h, free_of h, free_of h, free_of h, free_of h⟩
set_option maxHeartbeats 1000000 in
theorem r_cancel {w : World} {N : Nat → Prop} {v : Value} {m : SM} (h : Sv w N v m) :
    Calls Try.prog 84 #[v] w fun e w' => ∃ v', e = .returned (.tuple #[v', .int .i64 (cancelM m).n, .int .i64 (cancelM m).err]) ∧ Fr [] w w' ∧ Sv w' N v' (cancelM m).m := by
  obtain ⟨u1, u2, rfl, hq, hr⟩ := h
  obtain ⟨a1, k1, rfl, _⟩ := id hq
  obtain ⟨a2, k2, rfl, _⟩ := id hr
  have HQ := Lib.hid (And.intro hq hr)
  clear hq hr
  by_cases hb : m.busy = false
  · have e : cancelM m = ⟨m, 0, 8⟩ := by unfold cancelM; rw [if_pos hb]
    rw [e]
    clear e
    rw [hb]
    have H_hb := Lib.hid hb
    obtain ⟨w0, hw0, f0, q0, z0⟩ : ∃ W, (w.alloc (.cells #[.int .i64 m.c, .slice a1 m.q.length k1, .bool false, .slice a2 m.rest.length k2, .int .i64 m.acc, .int .i64 m.w, .int .i64 m.r] 41)).alloc (.cells #[.int .i64 0, .slice none 0 0, .bool false, .slice none 0 0, .int .i64 0, .int .i64 0, .int .i64 0] 41) = W ∧ Fr [] w W ∧ S7 W w.heap.size m.c a1 m.q.length k1 false a2 m.rest.length k2 m.acc m.w m.r ∧ S7 W (w.heap.size + 1) 0 none 0 0 false none 0 0 0 0 0 := ⟨_, rfl, ((Fr.refl _ _).alloc _).alloc _, keepA (newA rfl), newA (by simp)⟩
    obtain ⟨x0, x1, x2, x3, x4, x5, x6, p0, p1, p2, p3, p4, p5, p6⟩ := q0.cells
    have hz0 : w.heap.size + 1 < w0.heap.size := lt_of_heap z0
    have HZ := Lib.hid z0
    have HF := Lib.hid f0
    have HB := Lib.hid q0
    clear q0 z0 f0
    clear hb
    have HZS := Lib.hid (HZ.out)
    have HFS := Lib.hid (HF.out)
    go_enter Try.func84, Try.ntmps84
    go_wp2_with (refine wpl_store rfl 41 _ _ rfl (w.heap.size + 1) #[.int .i64 m.c, .slice a1 m.q.length k1, .bool false, .slice a2 m.rest.length k2, .int .i64 m.acc, .int .i64 m.w, .int .i64 m.r] (by rfl) (by rfl) _ _ HZS.out (by kernel_rfl) rfl (by simp [Value.oneCell']) ?_)
    intro wf ff qf
    obtain ⟨y0, y1, y2, y3, y4, y5, y6, _, _, _, _, _, _, _⟩ := S7.cells qf
    clear x0 x1 x2 x3 x4 x5 x6 p0 p1 p2 p3 p4 p5 p6
    go_wp2_with fail
    refine bodyPost_ret (v := .tuple #[.agg #[.int .i64 m.c, .slice a1 m.q.length k1, .bool false, .slice a2 m.rest.length k2, .int .i64 m.acc, .int .i64 m.w, .int .i64 m.r], .int .i64 0, .int .i64 8]) (by simp [results, Try.results84, go_sem, y0, y1, y2, y3, y4, y5, y6]) rfl ?_
    have F : Fr [] w wf := Fr.trans (U := []) (S := []) HFS.out ff (by simp) (fun x hx => .inr (by simp at hx; omega))
    exact ⟨_, rfl, F, _, _, (by first | rfl | rw [H_hb.out]), HQ.out.1.keep F (by simp), HQ.out.2.keep F (by simp)⟩
  · have e : cancelM m = ⟨stopM m, m.acc, 0⟩ := by unfold cancelM; rw [if_neg hb]
    have hb' : m.busy = true := by simpa using hb
    rw [e]
    clear e hb
    rw [hb']
    have H_hb' := Lib.hid hb'
    obtain ⟨w0, hw0, f0, q0, z0⟩ : ∃ W, (w.alloc (.cells #[.int .i64 m.c, .slice a1 m.q.length k1, .bool true, .slice a2 m.rest.length k2, .int .i64 m.acc, .int .i64 m.w, .int .i64 m.r] 41)).alloc (.cells #[.int .i64 0, .slice none 0 0, .bool false, .slice none 0 0, .int .i64 0, .int .i64 0, .int .i64 0] 41) = W ∧ Fr [] w W ∧ S7 W w.heap.size m.c a1 m.q.length k1 true a2 m.rest.length k2 m.acc m.w m.r ∧ S7 W (w.heap.size + 1) 0 none 0 0 false none 0 0 0 0 0 := ⟨_, rfl, ((Fr.refl _ _).alloc _).alloc _, keepA (newA rfl), newA (by simp)⟩
    obtain ⟨x0, x1, x2, x3, x4, x5, x6, p0, p1, p2, p3, p4, p5, p6⟩ := q0.cells
    have hz0 : w.heap.size + 1 < w0.heap.size := lt_of_heap z0
    have HZ := Lib.hid z0
    have HF := Lib.hid f0
    have HB := Lib.hid q0
    clear q0 z0 f0
    clear hb'
    obtain ⟨wn1, hwn1, fn1, qn1, zn1⟩ : ∃ W, w0.setCell ⟨w.heap.size, 2, none⟩ (.bool false) = W ∧ Fr [] w W ∧ W.heap[w.heap.size]? = some (.cells #[.int .i64 m.c, .slice a1 m.q.length k1, .bool false, .slice a2 m.rest.length k2, .int .i64 m.acc, .int .i64 m.w, .int .i64 m.r] 41 (0, 0)) ∧ S7 W (w.heap.size + 1) 0 none 0 0 false none 0 0 0 0 0 := ⟨_, rfl, Fr.setCell (p := ⟨w.heap.size, 2, none⟩) (HF.out) (.inr (Nat.le_refl _)) (.bool false), (by have hx := heap_setCell_eq (i := 2) (u := .bool false) (HB.out); simpa [S7] using hx), keepS (a := ⟨w.heap.size, 2, none⟩) (v := .bool false) (HZ.out) (by dsimp only; omega)⟩
    have xn1_0 : wn1.cell? ⟨w.heap.size, 0, none⟩ = some (.int .i64 m.c) := cell_of qn1
    have xn1_1 : wn1.cell? ⟨w.heap.size, 1, none⟩ = some (.slice a1 m.q.length k1) := cell_of qn1
    have xn1_2 : wn1.cell? ⟨w.heap.size, 2, none⟩ = some (.bool false) := cell_of qn1
    have xn1_3 : wn1.cell? ⟨w.heap.size, 3, none⟩ = some (.slice a2 m.rest.length k2) := cell_of qn1
    have xn1_4 : wn1.cell? ⟨w.heap.size, 4, none⟩ = some (.int .i64 m.acc) := cell_of qn1
    have xn1_5 : wn1.cell? ⟨w.heap.size, 5, none⟩ = some (.int .i64 m.w) := cell_of qn1
    have xn1_6 : wn1.cell? ⟨w.heap.size, 6, none⟩ = some (.int .i64 m.r) := cell_of qn1
    have pn1_0 : wn1.frozen? ⟨w.heap.size, 0, none⟩ = false := free_of qn1
    have pn1_1 : wn1.frozen? ⟨w.heap.size, 1, none⟩ = false := free_of qn1
    have pn1_2 : wn1.frozen? ⟨w.heap.size, 2, none⟩ = false := free_of qn1
    have pn1_3 : wn1.frozen? ⟨w.heap.size, 3, none⟩ = false := free_of qn1
    have pn1_4 : wn1.frozen? ⟨w.heap.size, 4, none⟩ = false := free_of qn1
    have pn1_5 : wn1.frozen? ⟨w.heap.size, 5, none⟩ = false := free_of qn1
    have pn1_6 : wn1.frozen? ⟨w.heap.size, 6, none⟩ = false := free_of qn1
    obtain ⟨wn2, hwn2, fn2, qn2, zn2⟩ : ∃ W, wn1.setCell ⟨w.heap.size, 3, none⟩ (.slice none 0 0) = W ∧ Fr [] w W ∧ W.heap[w.heap.size]? = some (.cells #[.int .i64 m.c, .slice a1 m.q.length k1, .bool false, .slice none 0 0, .int .i64 m.acc, .int .i64 m.w, .int .i64 m.r] 41 (0, 0)) ∧ S7 W (w.heap.size + 1) 0 none 0 0 false none 0 0 0 0 0 := ⟨_, rfl, Fr.setCell (p := ⟨w.heap.size, 3, none⟩) (fn1) (.inr (Nat.le_refl _)) (.slice none 0 0), (by have hx := heap_setCell_eq (i := 3) (u := .slice none 0 0) (qn1); simpa [S7] using hx), keepS (a := ⟨w.heap.size, 3, none⟩) (v := .slice none 0 0) (zn1) (by dsimp only; omega)⟩
    have xn2_0 : wn2.cell? ⟨w.heap.size, 0, none⟩ = some (.int .i64 m.c) := cell_of qn2
    have xn2_1 : wn2.cell? ⟨w.heap.size, 1, none⟩ = some (.slice a1 m.q.length k1) := cell_of qn2
    have xn2_2 : wn2.cell? ⟨w.heap.size, 2, none⟩ = some (.bool false) := cell_of qn2
    have xn2_3 : wn2.cell? ⟨w.heap.size, 3, none⟩ = some (.slice none 0 0) := cell_of qn2
    have xn2_4 : wn2.cell? ⟨w.heap.size, 4, none⟩ = some (.int .i64 m.acc) := cell_of qn2
    have xn2_5 : wn2.cell? ⟨w.heap.size, 5, none⟩ = some (.int .i64 m.w) := cell_of qn2
    have xn2_6 : wn2.cell? ⟨w.heap.size, 6, none⟩ = some (.int .i64 m.r) := cell_of qn2
    have pn2_0 : wn2.frozen? ⟨w.heap.size, 0, none⟩ = false := free_of qn2
    have pn2_1 : wn2.frozen? ⟨w.heap.size, 1, none⟩ = false := free_of qn2
    have pn2_2 : wn2.frozen? ⟨w.heap.size, 2, none⟩ = false := free_of qn2
    have pn2_3 : wn2.frozen? ⟨w.heap.size, 3, none⟩ = false := free_of qn2
    have pn2_4 : wn2.frozen? ⟨w.heap.size, 4, none⟩ = false := free_of qn2
    have pn2_5 : wn2.frozen? ⟨w.heap.size, 5, none⟩ = false := free_of qn2
    have pn2_6 : wn2.frozen? ⟨w.heap.size, 6, none⟩ = false := free_of qn2
    obtain ⟨wn3, hwn3, fn3, qn3, zn3⟩ : ∃ W, wn2.setCell ⟨w.heap.size, 4, none⟩ (.int .i64 0) = W ∧ Fr [] w W ∧ W.heap[w.heap.size]? = some (.cells #[.int .i64 m.c, .slice a1 m.q.length k1, .bool false, .slice none 0 0, .int .i64 0, .int .i64 m.w, .int .i64 m.r] 41 (0, 0)) ∧ S7 W (w.heap.size + 1) 0 none 0 0 false none 0 0 0 0 0 := ⟨_, rfl, Fr.setCell (p := ⟨w.heap.size, 4, none⟩) (fn2) (.inr (Nat.le_refl _)) (.int .i64 0), (by have hx := heap_setCell_eq (i := 4) (u := .int .i64 0) (qn2); simpa [S7] using hx), keepS (a := ⟨w.heap.size, 4, none⟩) (v := .int .i64 0) (zn2) (by dsimp only; omega)⟩
    have xn3_0 : wn3.cell? ⟨w.heap.size, 0, none⟩ = some (.int .i64 m.c) := cell_of qn3
    have xn3_1 : wn3.cell? ⟨w.heap.size, 1, none⟩ = some (.slice a1 m.q.length k1) := cell_of qn3
    have xn3_2 : wn3.cell? ⟨w.heap.size, 2, none⟩ = some (.bool false) := cell_of qn3
    have xn3_3 : wn3.cell? ⟨w.heap.size, 3, none⟩ = some (.slice none 0 0) := cell_of qn3
    have xn3_4 : wn3.cell? ⟨w.heap.size, 4, none⟩ = some (.int .i64 0) := cell_of qn3
    have xn3_5 : wn3.cell? ⟨w.heap.size, 5, none⟩ = some (.int .i64 m.w) := cell_of qn3
    have xn3_6 : wn3.cell? ⟨w.heap.size, 6, none⟩ = some (.int .i64 m.r) := cell_of qn3
    have pn3_0 : wn3.frozen? ⟨w.heap.size, 0, none⟩ = false := free_of qn3
    have pn3_1 : wn3.frozen? ⟨w.heap.size, 1, none⟩ = false := free_of qn3
    have pn3_2 : wn3.frozen? ⟨w.heap.size, 2, none⟩ = false := free_of qn3
    have pn3_3 : wn3.frozen? ⟨w.heap.size, 3, none⟩ = false := free_of qn3
    have pn3_4 : wn3.frozen? ⟨w.heap.size, 4, none⟩ = false := free_of qn3
    have pn3_5 : wn3.frozen? ⟨w.heap.size, 5, none⟩ = false := free_of qn3
    have pn3_6 : wn3.frozen? ⟨w.heap.size, 6, none⟩ = false := free_of qn3
    have HZS := Lib.hid (zn3)
    have HFS := Lib.hid (fn3)
    have HQN1 := Lib.hid (And.intro qn1 (And.intro zn1 fn1))
    clear qn1 zn1 fn1
    have HQN2 := Lib.hid (And.intro qn2 (And.intro zn2 fn2))
    clear qn2 zn2 fn2
    have HQN3 := Lib.hid (And.intro qn3 (And.intro zn3 fn3))
    clear qn3 zn3 fn3
    go_enter Try.func84, Try.ntmps84
    go_wp2_with (refine wpl_store rfl 41 _ _ rfl (w.heap.size + 1) #[.int .i64 m.c, .slice a1 m.q.length k1, .bool false, .slice none 0 0, .int .i64 0, .int .i64 m.w, .int .i64 m.r] (by rfl) (by rfl) _ _ HZS.out (by kernel_rfl) rfl (by simp [Value.oneCell']) ?_)
    intro wf ff qf
    obtain ⟨y0, y1, y2, y3, y4, y5, y6, _, _, _, _, _, _, _⟩ := S7.cells qf
    clear x0 x1 x2 x3 x4 x5 x6 p0 p1 p2 p3 p4 p5 p6
    go_wp2_with fail
    refine bodyPost_ret (v := .tuple #[.agg #[.int .i64 m.c, .slice a1 m.q.length k1, .bool false, .slice none 0 0, .int .i64 0, .int .i64 m.w, .int .i64 m.r], .int .i64 m.acc, .int .i64 0]) (by simp [results, Try.results84, go_sem, y0, y1, y2, y3, y4, y5, y6]) rfl ?_
    have F : Fr [] w wf := Fr.trans (U := []) (S := []) HFS.out ff (by simp) (fun x hx => .inr (by simp at hx; omega))
    exact ⟨_, rfl, F, _, _, (by first | rfl | rw [H_hb'.out]), HQ.out.1.keep F (by simp), PartV.nil _ _⟩

end Go.Proofs.Ytdoamelhclnphaa
