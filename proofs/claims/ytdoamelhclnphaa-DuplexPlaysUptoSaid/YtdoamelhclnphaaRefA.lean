/-
  The reference of layer 14: states as values; Same.
-/
import Derived.Test.YtdoamelhclnphaaStB
import Derived.Test.YtdoamelhclnphaaGs
namespace Go.Proofs.Ytdoamelhclnphaa
open Go.RowKit
set_option maxRecDepth 100000

/-- A state as a value, its bytes where N allows. -/
def Sv (w : World) (N : Nat → Prop) (v : Value) (m : SM) : Prop :=
  ∃ u1 u2, v = .agg #[.int .i64 m.c, u1, .bool m.busy, u2, .int .i64 m.acc, .int .i64 m.w, .int .i64 m.r] ∧ PartV w N u1 m.q ∧ PartV w N u2 m.rest
theorem Sv.keep {w w' : World} {N : Nat → Prop} {v : Value} {m : SM} (h : Sv w N v m) {S : List Nat} (hf : Fr S w w') (hS : ∀ x ∈ S, ¬ N x) : Sv w' N v m := by
  obtain ⟨u1, u2, h1, h2, h3⟩ := h
  exact ⟨u1, u2, h1, h2.keep hf hS, h3.keep hf hS⟩
theorem Sv.keep0 {w w' : World} {N : Nat → Prop} {v : Value} {m : SM} (h : Sv w N v m) (hf : Fr [] w w') : Sv w' N v m := h.keep hf (by simp)
theorem Sv.mono {w : World} {N N' : Nat → Prop} {v : Value} {m : SM} (h : Sv w N v m) (hN : ∀ x, N x → N' x) : Sv w N' v m := by
  obtain ⟨u1, u2, h1, h2, h3⟩ := h
  exact ⟨u1, u2, h1, h2.mono hN, h3.mono hN⟩
theorem Sv.there {w : World} {N : Nat → Prop} {v : Value} {m : SM} (h : Sv w N v m) : Sv w (fun x => N x ∧ x < w.heap.size) v m := by
  obtain ⟨u1, u2, h1, h2, h3⟩ := h
  exact ⟨u1, u2, h1, h2.there, h3.there⟩
theorem PartV.nil (w : World) (N : Nat → Prop) : PartV w N (.slice none 0 0) [] := ⟨none, 0, rfl, Nat.le_refl _, by unfold maxLen; omega, Sl.nil _ _, by intro b o h; simp at h⟩
theorem Sv.zero (w : World) (N : Nat → Prop) : Sv w N (.agg #[.int .i64 0, .slice none 0 0, .bool false, .slice none 0 0, .int .i64 0, .int .i64 0, .int .i64 0]) (newM 0) := ⟨_, _, rfl, PartV.nil _ _, PartV.nil _ _⟩
theorem PartV.ofOw {w : World} {M : Nat} {v : Value} {p : List UInt8} (h : Ow w M 5 v ((bi p).map (Value.int .u8))) : PartV w (fun x => M ≤ x) v p := by
  obtain ⟨a, cap, hv, h1, h2, h3, h4⟩ := h.formB
  exact ⟨a, cap, hv, h1, h2, h3, fun b o h0 e => h4 b o e⟩
theorem SvO.sv {w : World} {M : Nat} {v : Value} {m : SM} (h : SvO w M v m) : Sv w (fun x => M ≤ x) v m := by
  obtain ⟨u1, u2, h1, h2, h3⟩ := h
  exact ⟨u1, u2, h1, PartV.ofOw h2, PartV.ofOw h3⟩
theorem PartV.form {w : World} {N : Nat → Prop} {v : Value} {p : List UInt8} (h : PartV w N v p) : ∃ a c, v = .slice a p.length c ∧ Sl w a (bi p) := by
  obtain ⟨a, c, hv, _, _, h3, _⟩ := h
  exact ⟨a, c, hv, h3⟩
theorem st_beq (l : List UInt8) : ((⟨l.toArray⟩ : ByteArray) == ⟨l.toArray⟩) = true := by
  show (l.toArray == l.toArray) = true
  simp
set_option maxHeartbeats 2000000 in
theorem same14 {w : World} {N N' : Nat → Prop} {v u : Value} {m : SM} (hv : Sv w N v m) (hu : Sv w N' u m) :
    Calls Try.prog 41 #[v, u] w fun e w' => e = .returned (.bool true) ∧ Fr [] w w' := by
  obtain ⟨u1, u2, rfl, hq, hr⟩ := hv
  obtain ⟨u3, u4, rfl, hq', hr'⟩ := hu
  obtain ⟨a1, c1, rfl, s1⟩ := hq.form
  obtain ⟨a2, c2, rfl, s2⟩ := hr.form
  obtain ⟨a3, c3, rfl, s3⟩ := hq'.form
  obtain ⟨a4, c4, rfl, s4⟩ := hr'.form
  obtain ⟨w0, hw0, f0, q0, q1⟩ : ∃ W, (w.alloc (.cells #[.int .i64 m.c, .slice a1 m.q.length c1, .bool m.busy, .slice a2 m.rest.length c2, .int .i64 m.acc, .int .i64 m.w, .int .i64 m.r] 41)).alloc (.cells #[.int .i64 m.c, .slice a3 m.q.length c3, .bool m.busy, .slice a4 m.rest.length c4, .int .i64 m.acc, .int .i64 m.w, .int .i64 m.r] 41) = W ∧ Fr [] w W ∧
      W.heap[w.heap.size]? = some (.cells #[.int .i64 m.c, .slice a1 m.q.length c1, .bool m.busy, .slice a2 m.rest.length c2, .int .i64 m.acc, .int .i64 m.w, .int .i64 m.r] 41 (0, 0)) ∧ W.heap[w.heap.size + 1]? = some (.cells #[.int .i64 m.c, .slice a3 m.q.length c3, .bool m.busy, .slice a4 m.rest.length c4, .int .i64 m.acc, .int .i64 m.w, .int .i64 m.r] 41 (0, 0)) := ⟨_, rfl, ((Fr.refl _ _).alloc _).alloc _, keepA (newA rfl), newA (by simp)⟩
  have v1 := fun c => conv_st (cap := c) (sl_keep s1 f0 (by simp)) rfl
  have v2 := fun c => conv_st (cap := c) (sl_keep s2 f0 (by simp)) rfl
  have v3 := fun c => conv_st (cap := c) (sl_keep s3 f0 (by simp)) rfl
  have v4 := fun c => conv_st (cap := c) (sl_keep s4 f0 (by simp)) rfl
  have b1 : ∀ l : List UInt8, (st l == st l) = true := st_beq
  have b2 : (m.c == m.c) = true := beq_self_eq_true _
  have b3 : (m.busy == m.busy) = true := beq_self_eq_true _
  have b4 : (m.acc == m.acc) = true := beq_self_eq_true _
  have b5 : (m.w == m.w) = true := beq_self_eq_true _
  have b6 : (m.r == m.r) = true := beq_self_eq_true _
  have x0 : w0.cell? ⟨w.heap.size, 0, none⟩ = some (.int .i64 m.c) := cell_of q0
  have x1 : w0.cell? ⟨w.heap.size, 1, none⟩ = some (.slice a1 m.q.length c1) := cell_of q0
  have x2 : w0.cell? ⟨w.heap.size, 2, none⟩ = some (.bool m.busy) := cell_of q0
  have x3 : w0.cell? ⟨w.heap.size, 3, none⟩ = some (.slice a2 m.rest.length c2) := cell_of q0
  have x4 : w0.cell? ⟨w.heap.size, 4, none⟩ = some (.int .i64 m.acc) := cell_of q0
  have x5 : w0.cell? ⟨w.heap.size, 5, none⟩ = some (.int .i64 m.w) := cell_of q0
  have x6 : w0.cell? ⟨w.heap.size, 6, none⟩ = some (.int .i64 m.r) := cell_of q0
  have y0 : w0.cell? ⟨w.heap.size + 1, 0, none⟩ = some (.int .i64 m.c) := cell_of q1
  have y1 : w0.cell? ⟨w.heap.size + 1, 1, none⟩ = some (.slice a3 m.q.length c3) := cell_of q1
  have y2 : w0.cell? ⟨w.heap.size + 1, 2, none⟩ = some (.bool m.busy) := cell_of q1
  have y3 : w0.cell? ⟨w.heap.size + 1, 3, none⟩ = some (.slice a4 m.rest.length c4) := cell_of q1
  have y4 : w0.cell? ⟨w.heap.size + 1, 4, none⟩ = some (.int .i64 m.acc) := cell_of q1
  have y5 : w0.cell? ⟨w.heap.size + 1, 5, none⟩ = some (.int .i64 m.w) := cell_of q1
  have y6 : w0.cell? ⟨w.heap.size + 1, 6, none⟩ = some (.int .i64 m.r) := cell_of q1
  have HF := Lib.hid f0
  clear hq hr hq' hr' s1 s2 s3 s4 q0 q1 f0
  go_enter Try.func41, Try.ntmps41
  go_wp2_with fail
  go_ret
  exact ⟨rfl, HF.out⟩
end Go.Proofs.Ytdoamelhclnphaa

namespace Go.Proofs.Ytdoamelhclnphaa
open Go.RowKit
set_option maxRecDepth 100000

section
variable {P : Program} {ops : Array Oper} {rest : List Oper} {o : Oper} {a : Act} {w : World} {Q : Exit → Act → World → Prop}
theorem wpl_store (hgd : o.guard = none) (ty : TypeId) (x y : Operand) (ho : o.op = .store ty x y)
    (g : Nat) (cells : Array Value) (hx : a.eval x = .pointer (some ⟨g, 0, none⟩)) (hy : a.eval y = .agg cells)
    (t : TypeId) (old : Array Value) (hg : w.heap[g]? = some (.cells old t (0, 0))) (hi : (P.info? ty).map (·.size) = some cells.size)
    (hold : old.size = cells.size) (h1 : cells.all (·.oneCell') = true)
    (h : ∀ w', Fr [g] w w' → w'.heap[g]? = some (.cells cells t (0, 0)) → wpList P ops Q rest (a.put o.dst undef) w') : wpList P ops Q (o :: rest) a w :=
  wpList_store_row hgd ty x y ho g cells hx hy t old hg hi hold h1 (h _ setRow_fr' (setRow_heap w g old cells t (0, 0) hg))
end
/-- A state in a box. -/
def S7 (w : World) (B : Nat) (c : Int) (a1 : Option Addr) (n1 k1 : Nat) (busy : Bool) (a2 : Option Addr) (n2 k2 : Nat) (acc x y : Int) : Prop :=
  w.heap[B]? = some (.cells #[.int .i64 c, .slice a1 n1 k1, .bool busy, .slice a2 n2 k2, .int .i64 acc, .int .i64 x, .int .i64 y] 41 (0, 0))
theorem S7.cells {w : World} {B : Nat} {c : Int} {a1 : Option Addr} {n1 k1 : Nat} {busy : Bool} {a2 : Option Addr} {n2 k2 : Nat} {acc x y : Int} (h : S7 w B c a1 n1 k1 busy a2 n2 k2 acc x y) :
    w.cell? ⟨B, 0, none⟩ = some (.int .i64 c) ∧ w.cell? ⟨B, 1, none⟩ = some (.slice a1 n1 k1) ∧ w.cell? ⟨B, 2, none⟩ = some (.bool busy) ∧ w.cell? ⟨B, 3, none⟩ = some (.slice a2 n2 k2) ∧ w.cell? ⟨B, 4, none⟩ = some (.int .i64 acc) ∧ w.cell? ⟨B, 5, none⟩ = some (.int .i64 x) ∧ w.cell? ⟨B, 6, none⟩ = some (.int .i64 y) ∧
    w.frozen? ⟨B, 0, none⟩ = false ∧ w.frozen? ⟨B, 1, none⟩ = false ∧ w.frozen? ⟨B, 2, none⟩ = false ∧ w.frozen? ⟨B, 3, none⟩ = false ∧ w.frozen? ⟨B, 4, none⟩ = false ∧ w.frozen? ⟨B, 5, none⟩ = false ∧ w.frozen? ⟨B, 6, none⟩ = false :=
  ⟨cell_of h, cell_of h, cell_of h, cell_of h, cell_of h, cell_of h, cell_of h, free_of h, free_of h, free_of h, free_of h, free_of h, free_of h, free_of h⟩
set_option maxHeartbeats 1000000 in
theorem r_cancel {w : World} {N : Nat → Prop} {v : Value} {m : SM} (h : Sv w N v m) :
    Calls Try.prog 84 #[v] w fun e w' => ∃ v', e = .returned (.tuple #[v', .int .i64 (cancelM m).n, .int .i64 (cancelM m).err]) ∧ Fr [] w w' ∧ Sv w' N v' (cancelM m).m := by
  obtain ⟨u1, u2, rfl, hq, hr⟩ := h
  obtain ⟨a1, k1, rfl, _⟩ := id hq
  obtain ⟨a2, k2, rfl, _⟩ := id hr
  have HQ := Lib.hid (And.intro hq hr)
  clear hq hr
  by_cases hb : m.busy = false
  · have e : cancelM m = ⟨m, 0, 8⟩ := by unfold cancelM; rw [if_pos hb]
    rw [e]
    clear e
    rw [hb]
    have H_hb := Lib.hid hb
    obtain ⟨w0, hw0, f0, q0, z0⟩ : ∃ W, (w.alloc (.cells #[.int .i64 m.c, .slice a1 m.q.length k1, .bool false, .slice a2 m.rest.length k2, .int .i64 m.acc, .int .i64 m.w, .int .i64 m.r] 41)).alloc (.cells #[.int .i64 0, .slice none 0 0, .bool false, .slice none 0 0, .int .i64 0, .int .i64 0, .int .i64 0] 41) = W ∧ Fr [] w W ∧ S7 W w.heap.size m.c a1 m.q.length k1 false a2 m.rest.length k2 m.acc m.w m.r ∧ S7 W (w.heap.size + 1) 0 none 0 0 false none 0 0 0 0 0 := ⟨_, rfl, ((Fr.refl _ _).alloc _).alloc _, keepA (newA rfl), newA (by simp)⟩
    obtain ⟨x0, x1, x2, x3, x4, x5, x6, p0, p1, p2, p3, p4, p5, p6⟩ := q0.cells
    have hz0 : w.heap.size + 1 < w0.heap.size := lt_of_heap z0
    have HZ := Lib.hid z0
    have HF := Lib.hid f0
    have HB := Lib.hid q0
    clear q0 z0 f0
    clear hb
    have HZS := Lib.hid (HZ.out)
    have HFS := Lib.hid (HF.out)
    go_enter Try.func84, Try.ntmps84
    go_wp2_with (refine wpl_store rfl 41 _ _ rfl (w.heap.size + 1) #[.int .i64 m.c, .slice a1 m.q.length k1, .bool false, .slice a2 m.rest.length k2, .int .i64 m.acc, .int .i64 m.w, .int .i64 m.r] (by rfl) (by rfl) _ _ HZS.out (by kernel_rfl) rfl (by simp [Value.oneCell']) ?_)
    intro wf ff qf
    obtain ⟨y0, y1, y2, y3, y4, y5, y6, _, _, _, _, _, _, _⟩ := S7.cells qf
    clear x0 x1 x2 x3 x4 x5 x6 p0 p1 p2 p3 p4 p5 p6
    go_wp2_with fail
    refine bodyPost_ret (v := .tuple #[.agg #[.int .i64 m.c, .slice a1 m.q.length k1, .bool false, .slice a2 m.rest.length k2, .int .i64 m.acc, .int .i64 m.w, .int .i64 m.r], .int .i64 0, .int .i64 8]) (by simp [results, Try.results84, go_sem, y0, y1, y2, y3, y4, y5, y6]) rfl ?_
    have F : Fr [] w wf := Fr.trans (U := []) (S := []) HFS.out ff (by simp) (fun x hx => .inr (by simp at hx; omega))
    exact ⟨_, rfl, F, _, _, (by first | rfl | rw [H_hb.out]), HQ.out.1.keep F (by simp), HQ.out.2.keep F (by simp)⟩
  · have e : cancelM m = ⟨stopM m, m.acc, 0⟩ := by unfold cancelM; rw [if_neg hb]
    have hb' : m.busy = true := by simpa using hb
    rw [e]
    clear e hb
    rw [hb']
    have H_hb' := Lib.hid hb'
    obtain ⟨w0, hw0, f0, q0, z0⟩ : ∃ W, (w.alloc (.cells #[.int .i64 m.c, .slice a1 m.q.length k1, .bool true, .slice a2 m.rest.length k2, .int .i64 m.acc, .int .i64 m.w, .int .i64 m.r] 41)).alloc (.cells #[.int .i64 0, .slice none 0 0, .bool false, .slice none 0 0, .int .i64 0, .int .i64 0, .int .i64 0] 41) = W ∧ Fr [] w W ∧ S7 W w.heap.size m.c a1 m.q.length k1 true a2 m.rest.length k2 m.acc m.w m.r ∧ S7 W (w.heap.size + 1) 0 none 0 0 false none 0 0 0 0 0 := ⟨_, rfl, ((Fr.refl _ _).alloc _).alloc _, keepA (newA rfl), newA (by simp)⟩
    obtain ⟨x0, x1, x2, x3, x4, x5, x6, p0, p1, p2, p3, p4, p5, p6⟩ := q0.cells
    have hz0 : w.heap.size + 1 < w0.heap.size := lt_of_heap z0
    have HZ := Lib.hid z0
    have HF := Lib.hid f0
    have HB := Lib.hid q0
    clear q0 z0 f0
    clear hb'
    obtain ⟨wn1, hwn1, fn1, qn1, zn1⟩ : ∃ W, w0.setCell ⟨w.heap.size, 2, none⟩ (.bool false) = W ∧ Fr [] w W ∧ W.heap[w.heap.size]? = some (.cells #[.int .i64 m.c, .slice a1 m.q.length k1, .bool false, .slice a2 m.rest.length k2, .int .i64 m.acc, .int .i64 m.w, .int .i64 m.r] 41 (0, 0)) ∧ S7 W (w.heap.size + 1) 0 none 0 0 false none 0 0 0 0 0 := ⟨_, rfl, Fr.setCell (p := ⟨w.heap.size, 2, none⟩) (HF.out) (.inr (Nat.le_refl _)) (.bool false), (by have hx := heap_setCell_eq (i := 2) (u := .bool false) (HB.out); simpa [S7] using hx), keepS (a := ⟨w.heap.size, 2, none⟩) (v := .bool false) (HZ.out) (by dsimp only; omega)⟩
    have xn1_0 : wn1.cell? ⟨w.heap.size, 0, none⟩ = some (.int .i64 m.c) := cell_of qn1
    have xn1_1 : wn1.cell? ⟨w.heap.size, 1, none⟩ = some (.slice a1 m.q.length k1) := cell_of qn1
    have xn1_2 : wn1.cell? ⟨w.heap.size, 2, none⟩ = some (.bool false) := cell_of qn1
    have xn1_3 : wn1.cell? ⟨w.heap.size, 3, none⟩ = some (.slice a2 m.rest.length k2) := cell_of qn1
    have xn1_4 : wn1.cell? ⟨w.heap.size, 4, none⟩ = some (.int .i64 m.acc) := cell_of qn1
    have xn1_5 : wn1.cell? ⟨w.heap.size, 5, none⟩ = some (.int .i64 m.w) := cell_of qn1
    have xn1_6 : wn1.cell? ⟨w.heap.size, 6, none⟩ = some (.int .i64 m.r) := cell_of qn1
    have pn1_0 : wn1.frozen? ⟨w.heap.size, 0, none⟩ = false := free_of qn1
    have pn1_1 : wn1.frozen? ⟨w.heap.size, 1, none⟩ = false := free_of qn1
    have pn1_2 : wn1.frozen? ⟨w.heap.size, 2, none⟩ = false := free_of qn1
    have pn1_3 : wn1.frozen? ⟨w.heap.size, 3, none⟩ = false := free_of qn1
    have pn1_4 : wn1.frozen? ⟨w.heap.size, 4, none⟩ = false := free_of qn1
    have pn1_5 : wn1.frozen? ⟨w.heap.size, 5, none⟩ = false := free_of qn1
    have pn1_6 : wn1.frozen? ⟨w.heap.size, 6, none⟩ = false := free_of qn1
    obtain ⟨wn2, hwn2, fn2, qn2, zn2⟩ : ∃ W, wn1.setCell ⟨w.heap.size, 3, none⟩ (.slice none 0 0) = W ∧ Fr [] w W ∧ W.heap[w.heap.size]? = some (.cells #[.int .i64 m.c, .slice a1 m.q.length k1, .bool false, .slice none 0 0, .int .i64 m.acc, .int .i64 m.w, .int .i64 m.r] 41 (0, 0)) ∧ S7 W (w.heap.size + 1) 0 none 0 0 false none 0 0 0 0 0 := ⟨_, rfl, Fr.setCell (p := ⟨w.heap.size, 3, none⟩) (fn1) (.inr (Nat.le_refl _)) (.slice none 0 0), (by have hx := heap_setCell_eq (i := 3) (u := .slice none 0 0) (qn1); simpa [S7] using hx), keepS (a := ⟨w.heap.size, 3, none⟩) (v := .slice none 0 0) (zn1) (by dsimp only; omega)⟩
    have xn2_0 : wn2.cell? ⟨w.heap.size, 0, none⟩ = some (.int .i64 m.c) := cell_of qn2
    have xn2_1 : wn2.cell? ⟨w.heap.size, 1, none⟩ = some (.slice a1 m.q.length k1) := cell_of qn2
    have xn2_2 : wn2.cell? ⟨w.heap.size, 2, none⟩ = some (.bool false) := cell_of qn2
    have xn2_3 : wn2.cell? ⟨w.heap.size, 3, none⟩ = some (.slice none 0 0) := cell_of qn2
    have xn2_4 : wn2.cell? ⟨w.heap.size, 4, none⟩ = some (.int .i64 m.acc) := cell_of qn2
    have xn2_5 : wn2.cell? ⟨w.heap.size, 5, none⟩ = some (.int .i64 m.w) := cell_of qn2
    have xn2_6 : wn2.cell? ⟨w.heap.size, 6, none⟩ = some (.int .i64 m.r) := cell_of qn2
    have pn2_0 : wn2.frozen? ⟨w.heap.size, 0, none⟩ = false := free_of qn2
    have pn2_1 : wn2.frozen? ⟨w.heap.size, 1, none⟩ = false := free_of qn2
    have pn2_2 : wn2.frozen? ⟨w.heap.size, 2, none⟩ = false := free_of qn2
    have pn2_3 : wn2.frozen? ⟨w.heap.size, 3, none⟩ = false := free_of qn2
    have pn2_4 : wn2.frozen? ⟨w.heap.size, 4, none⟩ = false := free_of qn2
    have pn2_5 : wn2.frozen? ⟨w.heap.size, 5, none⟩ = false := free_of qn2
    have pn2_6 : wn2.frozen? ⟨w.heap.size, 6, none⟩ = false := free_of qn2
    obtain ⟨wn3, hwn3, fn3, qn3, zn3⟩ : ∃ W, wn2.setCell ⟨w.heap.size, 4, none⟩ (.int .i64 0) = W ∧ Fr [] w W ∧ W.heap[w.heap.size]? = some (.cells #[.int .i64 m.c, .slice a1 m.q.length k1, .bool false, .slice none 0 0, .int .i64 0, .int .i64 m.w, .int .i64 m.r] 41 (0, 0)) ∧ S7 W (w.heap.size + 1) 0 none 0 0 false none 0 0 0 0 0 := ⟨_, rfl, Fr.setCell (p := ⟨w.heap.size, 4, none⟩) (fn2) (.inr (Nat.le_refl _)) (.int .i64 0), (by have hx := heap_setCell_eq (i := 4) (u := .int .i64 0) (qn2); simpa [S7] using hx), keepS (a := ⟨w.heap.size, 4, none⟩) (v := .int .i64 0) (zn2) (by dsimp only; omega)⟩
    have xn3_0 : wn3.cell? ⟨w.heap.size, 0, none⟩ = some (.int .i64 m.c) := cell_of qn3
    have xn3_1 : wn3.cell? ⟨w.heap.size, 1, none⟩ = some (.slice a1 m.q.length k1) := cell_of qn3
    have xn3_2 : wn3.cell? ⟨w.heap.size, 2, none⟩ = some (.bool false) := cell_of qn3
    have xn3_3 : wn3.cell? ⟨w.heap.size, 3, none⟩ = some (.slice none 0 0) := cell_of qn3
    have xn3_4 : wn3.cell? ⟨w.heap.size, 4, none⟩ = some (.int .i64 0) := cell_of qn3
    have xn3_5 : wn3.cell? ⟨w.heap.size, 5, none⟩ = some (.int .i64 m.w) := cell_of qn3
    have xn3_6 : wn3.cell? ⟨w.heap.size, 6, none⟩ = some (.int .i64 m.r) := cell_of qn3
    have pn3_0 : wn3.frozen? ⟨w.heap.size, 0, none⟩ = false := free_of qn3
    have pn3_1 : wn3.frozen? ⟨w.heap.size, 1, none⟩ = false := free_of qn3
    have pn3_2 : wn3.frozen? ⟨w.heap.size, 2, none⟩ = false := free_of qn3
    have pn3_3 : wn3.frozen? ⟨w.heap.size, 3, none⟩ = false := free_of qn3
    have pn3_4 : wn3.frozen? ⟨w.heap.size, 4, none⟩ = false := free_of qn3
    have pn3_5 : wn3.frozen? ⟨w.heap.size, 5, none⟩ = false := free_of qn3
    have pn3_6 : wn3.frozen? ⟨w.heap.size, 6, none⟩ = false := free_of qn3
    have HZS := Lib.hid (zn3)
    have HFS := Lib.hid (fn3)
    have HQN1 := Lib.hid (And.intro qn1 (And.intro zn1 fn1))
    clear qn1 zn1 fn1
    have HQN2 := Lib.hid (And.intro qn2 (And.intro zn2 fn2))
    clear qn2 zn2 fn2
    have HQN3 := Lib.hid (And.intro qn3 (And.intro zn3 fn3))
    clear qn3 zn3 fn3
    go_enter Try.func84, Try.ntmps84
    go_wp2_with (refine wpl_store rfl 41 _ _ rfl (w.heap.size + 1) #[.int .i64 m.c, .slice a1 m.q.length k1, .bool false, .slice none 0 0, .int .i64 0, .int .i64 m.w, .int .i64 m.r] (by rfl) (by rfl) _ _ HZS.out (by kernel_rfl) rfl (by simp [Value.oneCell']) ?_)
    intro wf ff qf
    obtain ⟨y0, y1, y2, y3, y4, y5, y6, _, _, _, _, _, _, _⟩ := S7.cells qf
    clear x0 x1 x2 x3 x4 x5 x6 p0 p1 p2 p3 p4 p5 p6
    go_wp2_with fail
    refine bodyPost_ret (v := .tuple #[.agg #[.int .i64 m.c, .slice a1 m.q.length k1, .bool false, .slice none 0 0, .int .i64 0, .int .i64 m.w, .int .i64 m.r], .int .i64 m.acc, .int .i64 0]) (by simp [results, Try.results84, go_sem, y0, y1, y2, y3, y4, y5, y6]) rfl ?_
    have F : Fr [] w wf := Fr.trans (U := []) (S := []) HFS.out ff (by simp) (fun x hx => .inr (by simp at hx; omega))
    exact ⟨_, rfl, F, _, _, (by first | rfl | rw [H_hb'.out]), HQ.out.1.keep F (by simp), PartV.nil _ _⟩

end Go.Proofs.Ytdoamelhclnphaa

namespace Go.Proofs.Ytdoamelhclnphaa
open Go.RowKit
set_option maxRecDepth 100000

set_option maxHeartbeats 1000000 in
theorem r_open {w : World} {N : Nat → Prop} {v : Value} {m : SM} (h : Sv w N v m) :
    Calls Try.prog 92 #[v] w fun e w' => e = .returned (.bool (opM m)) ∧ Fr [] w w' := by
  obtain ⟨u1, u2, rfl, hq, hr⟩ := h
  obtain ⟨a1, k1, rfl, _⟩ := id hq
  obtain ⟨a2, k2, rfl, _⟩ := id hr
  have HQ := Lib.hid (And.intro hq hr)
  clear hq hr
  obtain ⟨w0, hw0, f0, q0⟩ : ∃ W, w.alloc (.cells #[.int .i64 m.c, .slice a1 m.q.length k1, .bool m.busy, .slice a2 m.rest.length k2, .int .i64 m.acc, .int .i64 m.w, .int .i64 m.r] 41) = W ∧ Fr [] w W ∧ S7 W w.heap.size m.c a1 m.q.length k1 m.busy a2 m.rest.length k2 m.acc m.w m.r := ⟨_, rfl, (Fr.refl _ _).alloc _, newA rfl⟩
  obtain ⟨x0, x1, x2, x3, x4, x5, x6, p0, p1, p2, p3, p4, p5, p6⟩ := q0.cells
  have hz0 : w.heap.size < w0.heap.size := lt_of_heap q0
  have HF := Lib.hid f0
  have HB := Lib.hid q0
  clear q0 f0
  unfold opM
  go_enter Try.func92, Try.ntmps92
  go_wp2_with fail
  all_goals (go_ret; exact ⟨by simp_all, HF.out⟩)
set_option maxHeartbeats 1000000 in
theorem r_how {w : World} {N : Nat → Prop} {v : Value} {m : SM} (h : Sv w N v m) :
    Calls Try.prog 114 #[v] w fun e w' => e = .returned (.int .i64 (howM m)) ∧ Fr [] w w' := by
  obtain ⟨u1, u2, rfl, hq, hr⟩ := h
  obtain ⟨a1, k1, rfl, _⟩ := id hq
  obtain ⟨a2, k2, rfl, _⟩ := id hr
  have HQ := Lib.hid (And.intro hq hr)
  clear hq hr
  obtain ⟨w0, hw0, f0, q0⟩ : ∃ W, w.alloc (.cells #[.int .i64 m.c, .slice a1 m.q.length k1, .bool m.busy, .slice a2 m.rest.length k2, .int .i64 m.acc, .int .i64 m.w, .int .i64 m.r] 41) = W ∧ Fr [] w W ∧ S7 W w.heap.size m.c a1 m.q.length k1 m.busy a2 m.rest.length k2 m.acc m.w m.r := ⟨_, rfl, (Fr.refl _ _).alloc _, newA rfl⟩
  obtain ⟨x0, x1, x2, x3, x4, x5, x6, p0, p1, p2, p3, p4, p5, p6⟩ := q0.cells
  have hz0 : w.heap.size < w0.heap.size := lt_of_heap q0
  have HF := Lib.hid f0
  have HB := Lib.hid q0
  clear q0 f0
  have hnl : ((m.rest.length : Int) = 0) = (m.rest = []) := by simp
  unfold howM
  go_enter Try.func114, Try.ntmps114
  go_wp2_with fail
  all_goals (go_ret; exact ⟨by simp_all, HF.out⟩)
theorem r_code (w : World) (x : Int) :
    Calls Try.prog 115 #[.int .i64 x] w fun e w' => e = .returned (.bool (codeM x)) ∧ w = w' := by
  unfold codeM
  go_enter Try.func115, Try.ntmps115
  go_wp2_with fail
  all_goals (go_ret; exact ⟨by first | (simp_all; done) | (simp; omega) | (simp_all; omega), rfl⟩)
set_option maxHeartbeats 1000000 in
theorem r_atend {w : World} {N : Nat → Prop} {v : Value} {m : SM} (h : Sv w N v m) :
    Calls Try.prog 88 #[v] w fun e w' => e = .returned (.bool (atEndM m)) ∧ Fr [] w w' := by
  obtain ⟨u1, u2, rfl, hq, hr⟩ := h
  obtain ⟨a1, k1, rfl, _⟩ := id hq
  obtain ⟨a2, k2, rfl, _⟩ := id hr
  have HQ := Lib.hid (And.intro hq hr)
  clear hq hr
  by_cases hb : m.busy = false
  · have e : atEndM m = false := by unfold atEndM; rw [hb]; rfl
    rw [e, hb]
    obtain ⟨w0, hw0, f0, q0⟩ : ∃ W, w.alloc (.cells #[.int .i64 m.c, .slice a1 m.q.length k1, .bool false, .slice a2 m.rest.length k2, .int .i64 m.acc, .int .i64 m.w, .int .i64 m.r] 41) = W ∧ Fr [] w W ∧ S7 W w.heap.size m.c a1 m.q.length k1 false a2 m.rest.length k2 m.acc m.w m.r := ⟨_, rfl, (Fr.refl _ _).alloc _, newA rfl⟩
    obtain ⟨x0, x1, x2, x3, x4, x5, x6, p0, p1, p2, p3, p4, p5, p6⟩ := q0.cells
    have hz0 : w.heap.size < w0.heap.size := lt_of_heap q0
    have HF := Lib.hid f0
    have HB := Lib.hid q0
    clear q0 f0
    clear e hb
    go_enter Try.func88, Try.ntmps88
    go_wp2_with fail
    go_ret
    exact ⟨by simp_all, HF.out⟩
  · have hb' : m.busy = true := by simpa using hb
    clear hb
    by_cases hr : m.rest = []
    · have e : atEndM m = true := by unfold atEndM; rw [hb', hr]; rfl
      have hl : m.rest.length = 0 := by rw [hr]; rfl
      clear hr
      rw [e, hb', hl]
      obtain ⟨w0, hw0, f0, q0⟩ : ∃ W, w.alloc (.cells #[.int .i64 m.c, .slice a1 m.q.length k1, .bool true, .slice a2 0 k2, .int .i64 m.acc, .int .i64 m.w, .int .i64 m.r] 41) = W ∧ Fr [] w W ∧ S7 W w.heap.size m.c a1 m.q.length k1 true a2 0 k2 m.acc m.w m.r := ⟨_, rfl, (Fr.refl _ _).alloc _, newA rfl⟩
      obtain ⟨x0, x1, x2, x3, x4, x5, x6, p0, p1, p2, p3, p4, p5, p6⟩ := q0.cells
      have hz0 : w.heap.size < w0.heap.size := lt_of_heap q0
      have HF := Lib.hid f0
      have HB := Lib.hid q0
      clear q0 f0
      clear e hb' hl
      go_enter Try.func88, Try.ntmps88
      go_wp2_with fail
      go_ret
      exact ⟨by simp_all, HF.out⟩
    · have e : atEndM m = !opM m := by unfold atEndM; rw [hb']; cases hx : m.rest with | nil => exact absurd hx hr | cons a l => rfl
      have hl : ¬ (m.rest.length : Int) = 0 := by simpa using hr
      rw [e, hb']
      obtain ⟨w0, hw0, f0, q0⟩ : ∃ W, w.alloc (.cells #[.int .i64 m.c, .slice a1 m.q.length k1, .bool true, .slice a2 m.rest.length k2, .int .i64 m.acc, .int .i64 m.w, .int .i64 m.r] 41) = W ∧ Fr [] w W ∧ S7 W w.heap.size m.c a1 m.q.length k1 true a2 m.rest.length k2 m.acc m.w m.r := ⟨_, rfl, (Fr.refl _ _).alloc _, newA rfl⟩
      obtain ⟨x0, x1, x2, x3, x4, x5, x6, p0, p1, p2, p3, p4, p5, p6⟩ := q0.cells
      have hz0 : w.heap.size < w0.heap.size := lt_of_heap q0
      have HF := Lib.hid f0
      have HB := Lib.hid q0
      clear q0 f0
      have HO := Lib.hid (r_open (w := w0) (N := N) (v := .agg #[.int .i64 m.c, .slice a1 m.q.length k1, .bool true, .slice a2 m.rest.length k2, .int .i64 m.acc, .int .i64 m.w, .int .i64 m.r]) (m := m) ⟨_, _, by rw [hb'], HQ.out.1.keep HF.out (by simp), HQ.out.2.keep HF.out (by simp)⟩)
      clear e hb'
      go_enter Try.func88, Try.ntmps88
      go_wp2_with fail
      refine HO.out.mono ?_
      rintro e w2 ⟨rfl, f2⟩
      go_wp2_with fail
      go_ret
      exact ⟨by simp [hr], HF.out.then0 f2⟩

end Go.Proofs.Ytdoamelhclnphaa

namespace Go.Proofs.Ytdoamelhclnphaa
open Go.RowKit
set_option maxRecDepth 100000

set_option maxHeartbeats 1000000 in
theorem r_closew {w : World} {N : Nat → Prop} {v : Value} {m : SM} (h : Sv w N v m) (x : Int) :
    Calls Try.prog 86 #[v, .int .i64 x] w fun e w' => ∃ v', e = .returned (.tuple #[v', .int .i64 (closewM m x).err]) ∧ Fr [] w w' ∧ Sv w' N v' (closewM m x).m := by
  obtain ⟨u1, u2, rfl, hq, hr⟩ := h
  obtain ⟨a1, k1, rfl, _⟩ := id hq
  obtain ⟨a2, k2, rfl, _⟩ := id hr
  have HQ := Lib.hid (And.intro hq hr)
  clear hq hr
  by_cases hx : codeM x = false
  · have e : closewM m x = ⟨m, 2⟩ := by unfold closewM; rw [if_pos hx]
    rw [e]
    clear e
    obtain ⟨w0, hw0, f0, q0, z0⟩ : ∃ W, (w.alloc (.cells #[.int .i64 m.c, .slice a1 m.q.length k1, .bool m.busy, .slice a2 m.rest.length k2, .int .i64 m.acc, .int .i64 m.w, .int .i64 m.r] 41)).alloc (.cells #[.int .i64 0, .slice none 0 0, .bool false, .slice none 0 0, .int .i64 0, .int .i64 0, .int .i64 0] 41) = W ∧ Fr [] w W ∧ S7 W w.heap.size m.c a1 m.q.length k1 m.busy a2 m.rest.length k2 m.acc m.w m.r ∧ S7 W (w.heap.size + 1) 0 none 0 0 false none 0 0 0 0 0 := ⟨_, rfl, ((Fr.refl _ _).alloc _).alloc _, keepA (newA rfl), newA (by simp)⟩
    obtain ⟨x0, x1, x2, x3, x4, x5, x6, p0, p1, p2, p3, p4, p5, p6⟩ := q0.cells
    have hz0 : w.heap.size + 1 < w0.heap.size := lt_of_heap z0
    have HZ := Lib.hid z0
    have HF := Lib.hid f0
    have HB := Lib.hid q0
    clear q0 z0 f0
    have HC := Lib.hid (r_code w0 x)
    rw [hx] at HC
    clear hx
    have HZS := Lib.hid (HZ.out)
    have HFS := Lib.hid (HF.out)
    go_enter Try.func86, Try.ntmps86
    go_wp2_with fail
    refine HC.out.mono ?_
    rintro e wc ⟨rfl, rfl⟩
    go_wp2_with (refine wpl_store rfl 41 _ _ rfl (w.heap.size + 1) #[.int .i64 m.c, .slice a1 m.q.length k1, .bool m.busy, .slice a2 m.rest.length k2, .int .i64 m.acc, .int .i64 m.w, .int .i64 m.r] (by rfl) (by rfl) _ _ HZS.out (by kernel_rfl) rfl (by simp [Value.oneCell']) ?_)
    intro wf ff qf
    obtain ⟨y0, y1, y2, y3, y4, y5, y6, _, _, _, _, _, _, _⟩ := S7.cells qf
    clear x0 x1 x2 x3 x4 x5 x6 p0 p1 p2 p3 p4 p5 p6
    go_wp2_with fail
    refine bodyPost_ret (v := .tuple #[.agg #[.int .i64 m.c, .slice a1 m.q.length k1, .bool m.busy, .slice a2 m.rest.length k2, .int .i64 m.acc, .int .i64 m.w, .int .i64 m.r], .int .i64 2]) (by simp [results, Try.results86, go_sem, y0, y1, y2, y3, y4, y5, y6]) rfl ?_
    have F : Fr [] w wf := Fr.trans (U := []) (S := []) HFS.out ff (by simp) (fun x hx => .inr (by simp at hx; omega))
    exact ⟨_, rfl, F, _, _, rfl, HQ.out.1.keep F (by simp), HQ.out.2.keep F (by simp)⟩
  · by_cases hw : m.w ≠ 0
    · have e : closewM m x = ⟨m, 14⟩ := by unfold closewM; rw [if_neg hx, if_pos hw]
      replace hx : codeM x = true := by simpa using hx
      rw [e]
      clear e
      obtain ⟨w0, hw0, f0, q0, z0⟩ : ∃ W, (w.alloc (.cells #[.int .i64 m.c, .slice a1 m.q.length k1, .bool m.busy, .slice a2 m.rest.length k2, .int .i64 m.acc, .int .i64 m.w, .int .i64 m.r] 41)).alloc (.cells #[.int .i64 0, .slice none 0 0, .bool false, .slice none 0 0, .int .i64 0, .int .i64 0, .int .i64 0] 41) = W ∧ Fr [] w W ∧ S7 W w.heap.size m.c a1 m.q.length k1 m.busy a2 m.rest.length k2 m.acc m.w m.r ∧ S7 W (w.heap.size + 1) 0 none 0 0 false none 0 0 0 0 0 := ⟨_, rfl, ((Fr.refl _ _).alloc _).alloc _, keepA (newA rfl), newA (by simp)⟩
      obtain ⟨x0, x1, x2, x3, x4, x5, x6, p0, p1, p2, p3, p4, p5, p6⟩ := q0.cells
      have hz0 : w.heap.size + 1 < w0.heap.size := lt_of_heap z0
      have HZ := Lib.hid z0
      have HF := Lib.hid f0
      have HB := Lib.hid q0
      clear q0 z0 f0
      have HC := Lib.hid (r_code w0 x)
      rw [hx] at HC
      clear hx
      have HZS := Lib.hid (HZ.out)
      have HFS := Lib.hid (HF.out)
      go_enter Try.func86, Try.ntmps86
      go_wp2_with fail
      refine HC.out.mono ?_
      rintro e wc ⟨rfl, rfl⟩
      go_wp2_with (refine wpl_store rfl 41 _ _ rfl (w.heap.size + 1) #[.int .i64 m.c, .slice a1 m.q.length k1, .bool m.busy, .slice a2 m.rest.length k2, .int .i64 m.acc, .int .i64 m.w, .int .i64 m.r] (by rfl) (by rfl) _ _ HZS.out (by kernel_rfl) rfl (by simp [Value.oneCell']) ?_)
      intro wf ff qf
      obtain ⟨y0, y1, y2, y3, y4, y5, y6, _, _, _, _, _, _, _⟩ := S7.cells qf
      clear x0 x1 x2 x3 x4 x5 x6 p0 p1 p2 p3 p4 p5 p6
      go_wp2_with fail
      refine bodyPost_ret (v := .tuple #[.agg #[.int .i64 m.c, .slice a1 m.q.length k1, .bool m.busy, .slice a2 m.rest.length k2, .int .i64 m.acc, .int .i64 m.w, .int .i64 m.r], .int .i64 14]) (by simp [results, Try.results86, go_sem, y0, y1, y2, y3, y4, y5, y6]) rfl ?_
      have F : Fr [] w wf := Fr.trans (U := []) (S := []) HFS.out ff (by simp) (fun x hx => .inr (by simp at hx; omega))
      exact ⟨_, rfl, F, _, _, rfl, HQ.out.1.keep F (by simp), HQ.out.2.keep F (by simp)⟩
    · have e : closewM m x = ⟨{ m with w := x }, 0⟩ := by unfold closewM; rw [if_neg hx, if_neg hw]
      replace hx : codeM x = true := by simpa using hx
      have hw' : m.w = 0 := by omega
      rw [e]
      clear e hw
      rw [hw']
      have H_hw' := Lib.hid hw'
      obtain ⟨w0, hw0, f0, q0, z0⟩ : ∃ W, (w.alloc (.cells #[.int .i64 m.c, .slice a1 m.q.length k1, .bool m.busy, .slice a2 m.rest.length k2, .int .i64 m.acc, .int .i64 0, .int .i64 m.r] 41)).alloc (.cells #[.int .i64 0, .slice none 0 0, .bool false, .slice none 0 0, .int .i64 0, .int .i64 0, .int .i64 0] 41) = W ∧ Fr [] w W ∧ S7 W w.heap.size m.c a1 m.q.length k1 m.busy a2 m.rest.length k2 m.acc 0 m.r ∧ S7 W (w.heap.size + 1) 0 none 0 0 false none 0 0 0 0 0 := ⟨_, rfl, ((Fr.refl _ _).alloc _).alloc _, keepA (newA rfl), newA (by simp)⟩
      obtain ⟨x0, x1, x2, x3, x4, x5, x6, p0, p1, p2, p3, p4, p5, p6⟩ := q0.cells
      have hz0 : w.heap.size + 1 < w0.heap.size := lt_of_heap z0
      have HZ := Lib.hid z0
      have HF := Lib.hid f0
      have HB := Lib.hid q0
      clear q0 z0 f0
      clear hw'
      have HC := Lib.hid (r_code w0 x)
      rw [hx] at HC
      clear hx
      obtain ⟨wn1, hwn1, fn1, qn1, zn1⟩ : ∃ W, w0.setCell ⟨w.heap.size, 5, none⟩ (.int .i64 x) = W ∧ Fr [] w W ∧ W.heap[w.heap.size]? = some (.cells #[.int .i64 m.c, .slice a1 m.q.length k1, .bool m.busy, .slice a2 m.rest.length k2, .int .i64 m.acc, .int .i64 x, .int .i64 m.r] 41 (0, 0)) ∧ S7 W (w.heap.size + 1) 0 none 0 0 false none 0 0 0 0 0 := ⟨_, rfl, Fr.setCell (p := ⟨w.heap.size, 5, none⟩) (HF.out) (.inr (Nat.le_refl _)) (.int .i64 x), (by have hx := heap_setCell_eq (i := 5) (u := .int .i64 x) (HB.out); simpa [S7] using hx), keepS (a := ⟨w.heap.size, 5, none⟩) (v := .int .i64 x) (HZ.out) (by dsimp only; omega)⟩
      have xn1_0 : wn1.cell? ⟨w.heap.size, 0, none⟩ = some (.int .i64 m.c) := cell_of qn1
      have xn1_1 : wn1.cell? ⟨w.heap.size, 1, none⟩ = some (.slice a1 m.q.length k1) := cell_of qn1
      have xn1_2 : wn1.cell? ⟨w.heap.size, 2, none⟩ = some (.bool m.busy) := cell_of qn1
      have xn1_3 : wn1.cell? ⟨w.heap.size, 3, none⟩ = some (.slice a2 m.rest.length k2) := cell_of qn1
      have xn1_4 : wn1.cell? ⟨w.heap.size, 4, none⟩ = some (.int .i64 m.acc) := cell_of qn1
      have xn1_5 : wn1.cell? ⟨w.heap.size, 5, none⟩ = some (.int .i64 x) := cell_of qn1
      have xn1_6 : wn1.cell? ⟨w.heap.size, 6, none⟩ = some (.int .i64 m.r) := cell_of qn1
      have pn1_0 : wn1.frozen? ⟨w.heap.size, 0, none⟩ = false := free_of qn1
      have pn1_1 : wn1.frozen? ⟨w.heap.size, 1, none⟩ = false := free_of qn1
      have pn1_2 : wn1.frozen? ⟨w.heap.size, 2, none⟩ = false := free_of qn1
      have pn1_3 : wn1.frozen? ⟨w.heap.size, 3, none⟩ = false := free_of qn1
      have pn1_4 : wn1.frozen? ⟨w.heap.size, 4, none⟩ = false := free_of qn1
      have pn1_5 : wn1.frozen? ⟨w.heap.size, 5, none⟩ = false := free_of qn1
      have pn1_6 : wn1.frozen? ⟨w.heap.size, 6, none⟩ = false := free_of qn1
      have HZS := Lib.hid (zn1)
      have HFS := Lib.hid (fn1)
      have HQN1 := Lib.hid (And.intro qn1 (And.intro zn1 fn1))
      clear qn1 zn1 fn1
      go_enter Try.func86, Try.ntmps86
      go_wp2_with fail
      refine HC.out.mono ?_
      rintro e wc ⟨rfl, rfl⟩
      go_wp2_with (refine wpl_store rfl 41 _ _ rfl (w.heap.size + 1) #[.int .i64 m.c, .slice a1 m.q.length k1, .bool m.busy, .slice a2 m.rest.length k2, .int .i64 m.acc, .int .i64 x, .int .i64 m.r] (by rfl) (by rfl) _ _ HZS.out (by kernel_rfl) rfl (by simp [Value.oneCell']) ?_)
      intro wf ff qf
      obtain ⟨y0, y1, y2, y3, y4, y5, y6, _, _, _, _, _, _, _⟩ := S7.cells qf
      clear x0 x1 x2 x3 x4 x5 x6 p0 p1 p2 p3 p4 p5 p6
      go_wp2_with fail
      refine bodyPost_ret (v := .tuple #[.agg #[.int .i64 m.c, .slice a1 m.q.length k1, .bool m.busy, .slice a2 m.rest.length k2, .int .i64 m.acc, .int .i64 x, .int .i64 m.r], .int .i64 0]) (by simp [results, Try.results86, go_sem, y0, y1, y2, y3, y4, y5, y6]) rfl ?_
      have F : Fr [] w wf := Fr.trans (U := []) (S := []) HFS.out ff (by simp) (fun x hx => .inr (by simp at hx; omega))
      exact ⟨_, rfl, F, _, _, (by first | rfl | rw [H_hw'.out]), HQ.out.1.keep F (by simp), HQ.out.2.keep F (by simp)⟩
set_option maxHeartbeats 1000000 in
theorem r_closer {w : World} {N : Nat → Prop} {v : Value} {m : SM} (h : Sv w N v m) (x : Int) :
    Calls Try.prog 87 #[v, .int .i64 x] w fun e w' => ∃ v', e = .returned (.tuple #[v', .int .i64 (closerM m x).err]) ∧ Fr [] w w' ∧ Sv w' N v' (closerM m x).m := by
  obtain ⟨u1, u2, rfl, hq, hr⟩ := h
  obtain ⟨a1, k1, rfl, _⟩ := id hq
  obtain ⟨a2, k2, rfl, _⟩ := id hr
  have HQ := Lib.hid (And.intro hq hr)
  clear hq hr
  by_cases hx : codeM x = false
  · have e : closerM m x = ⟨m, 2⟩ := by unfold closerM; rw [if_pos hx]
    rw [e]
    clear e
    obtain ⟨w0, hw0, f0, q0, z0⟩ : ∃ W, (w.alloc (.cells #[.int .i64 m.c, .slice a1 m.q.length k1, .bool m.busy, .slice a2 m.rest.length k2, .int .i64 m.acc, .int .i64 m.w, .int .i64 m.r] 41)).alloc (.cells #[.int .i64 0, .slice none 0 0, .bool false, .slice none 0 0, .int .i64 0, .int .i64 0, .int .i64 0] 41) = W ∧ Fr [] w W ∧ S7 W w.heap.size m.c a1 m.q.length k1 m.busy a2 m.rest.length k2 m.acc m.w m.r ∧ S7 W (w.heap.size + 1) 0 none 0 0 false none 0 0 0 0 0 := ⟨_, rfl, ((Fr.refl _ _).alloc _).alloc _, keepA (newA rfl), newA (by simp)⟩
    obtain ⟨x0, x1, x2, x3, x4, x5, x6, p0, p1, p2, p3, p4, p5, p6⟩ := q0.cells
    have hz0 : w.heap.size + 1 < w0.heap.size := lt_of_heap z0
    have HZ := Lib.hid z0
    have HF := Lib.hid f0
    have HB := Lib.hid q0
    clear q0 z0 f0
    have HC := Lib.hid (r_code w0 x)
    rw [hx] at HC
    clear hx
    have HZS := Lib.hid (HZ.out)
    have HFS := Lib.hid (HF.out)
    go_enter Try.func87, Try.ntmps87
    go_wp2_with fail
    refine HC.out.mono ?_
    rintro e wc ⟨rfl, rfl⟩
    go_wp2_with (refine wpl_store rfl 41 _ _ rfl (w.heap.size + 1) #[.int .i64 m.c, .slice a1 m.q.length k1, .bool m.busy, .slice a2 m.rest.length k2, .int .i64 m.acc, .int .i64 m.w, .int .i64 m.r] (by rfl) (by rfl) _ _ HZS.out (by kernel_rfl) rfl (by simp [Value.oneCell']) ?_)
    intro wf ff qf
    obtain ⟨y0, y1, y2, y3, y4, y5, y6, _, _, _, _, _, _, _⟩ := S7.cells qf
    clear x0 x1 x2 x3 x4 x5 x6 p0 p1 p2 p3 p4 p5 p6
    go_wp2_with fail
    refine bodyPost_ret (v := .tuple #[.agg #[.int .i64 m.c, .slice a1 m.q.length k1, .bool m.busy, .slice a2 m.rest.length k2, .int .i64 m.acc, .int .i64 m.w, .int .i64 m.r], .int .i64 2]) (by simp [results, Try.results87, go_sem, y0, y1, y2, y3, y4, y5, y6]) rfl ?_
    have F : Fr [] w wf := Fr.trans (U := []) (S := []) HFS.out ff (by simp) (fun x hx => .inr (by simp at hx; omega))
    exact ⟨_, rfl, F, _, _, rfl, HQ.out.1.keep F (by simp), HQ.out.2.keep F (by simp)⟩
  · by_cases hw : m.r ≠ 0
    · have e : closerM m x = ⟨m, 14⟩ := by unfold closerM; rw [if_neg hx, if_pos hw]
      replace hx : codeM x = true := by simpa using hx
      rw [e]
      clear e
      obtain ⟨w0, hw0, f0, q0, z0⟩ : ∃ W, (w.alloc (.cells #[.int .i64 m.c, .slice a1 m.q.length k1, .bool m.busy, .slice a2 m.rest.length k2, .int .i64 m.acc, .int .i64 m.w, .int .i64 m.r] 41)).alloc (.cells #[.int .i64 0, .slice none 0 0, .bool false, .slice none 0 0, .int .i64 0, .int .i64 0, .int .i64 0] 41) = W ∧ Fr [] w W ∧ S7 W w.heap.size m.c a1 m.q.length k1 m.busy a2 m.rest.length k2 m.acc m.w m.r ∧ S7 W (w.heap.size + 1) 0 none 0 0 false none 0 0 0 0 0 := ⟨_, rfl, ((Fr.refl _ _).alloc _).alloc _, keepA (newA rfl), newA (by simp)⟩
      obtain ⟨x0, x1, x2, x3, x4, x5, x6, p0, p1, p2, p3, p4, p5, p6⟩ := q0.cells
      have hz0 : w.heap.size + 1 < w0.heap.size := lt_of_heap z0
      have HZ := Lib.hid z0
      have HF := Lib.hid f0
      have HB := Lib.hid q0
      clear q0 z0 f0
      have HC := Lib.hid (r_code w0 x)
      rw [hx] at HC
      clear hx
      have HZS := Lib.hid (HZ.out)
      have HFS := Lib.hid (HF.out)
      go_enter Try.func87, Try.ntmps87
      go_wp2_with fail
      refine HC.out.mono ?_
      rintro e wc ⟨rfl, rfl⟩
      go_wp2_with (refine wpl_store rfl 41 _ _ rfl (w.heap.size + 1) #[.int .i64 m.c, .slice a1 m.q.length k1, .bool m.busy, .slice a2 m.rest.length k2, .int .i64 m.acc, .int .i64 m.w, .int .i64 m.r] (by rfl) (by rfl) _ _ HZS.out (by kernel_rfl) rfl (by simp [Value.oneCell']) ?_)
      intro wf ff qf
      obtain ⟨y0, y1, y2, y3, y4, y5, y6, _, _, _, _, _, _, _⟩ := S7.cells qf
      clear x0 x1 x2 x3 x4 x5 x6 p0 p1 p2 p3 p4 p5 p6
      go_wp2_with fail
      refine bodyPost_ret (v := .tuple #[.agg #[.int .i64 m.c, .slice a1 m.q.length k1, .bool m.busy, .slice a2 m.rest.length k2, .int .i64 m.acc, .int .i64 m.w, .int .i64 m.r], .int .i64 14]) (by simp [results, Try.results87, go_sem, y0, y1, y2, y3, y4, y5, y6]) rfl ?_
      have F : Fr [] w wf := Fr.trans (U := []) (S := []) HFS.out ff (by simp) (fun x hx => .inr (by simp at hx; omega))
      exact ⟨_, rfl, F, _, _, rfl, HQ.out.1.keep F (by simp), HQ.out.2.keep F (by simp)⟩
    · have e : closerM m x = ⟨{ m with r := x, q := [] }, 0⟩ := by unfold closerM; rw [if_neg hx, if_neg hw]
      replace hx : codeM x = true := by simpa using hx
      have hw' : m.r = 0 := by omega
      rw [e]
      clear e hw
      rw [hw']
      have H_hw' := Lib.hid hw'
      obtain ⟨w0, hw0, f0, q0, z0⟩ : ∃ W, (w.alloc (.cells #[.int .i64 m.c, .slice a1 m.q.length k1, .bool m.busy, .slice a2 m.rest.length k2, .int .i64 m.acc, .int .i64 m.w, .int .i64 0] 41)).alloc (.cells #[.int .i64 0, .slice none 0 0, .bool false, .slice none 0 0, .int .i64 0, .int .i64 0, .int .i64 0] 41) = W ∧ Fr [] w W ∧ S7 W w.heap.size m.c a1 m.q.length k1 m.busy a2 m.rest.length k2 m.acc m.w 0 ∧ S7 W (w.heap.size + 1) 0 none 0 0 false none 0 0 0 0 0 := ⟨_, rfl, ((Fr.refl _ _).alloc _).alloc _, keepA (newA rfl), newA (by simp)⟩
      obtain ⟨x0, x1, x2, x3, x4, x5, x6, p0, p1, p2, p3, p4, p5, p6⟩ := q0.cells
      have hz0 : w.heap.size + 1 < w0.heap.size := lt_of_heap z0
      have HZ := Lib.hid z0
      have HF := Lib.hid f0
      have HB := Lib.hid q0
      clear q0 z0 f0
      clear hw'
      have HC := Lib.hid (r_code w0 x)
      rw [hx] at HC
      clear hx
      obtain ⟨wn1, hwn1, fn1, qn1, zn1⟩ : ∃ W, w0.setCell ⟨w.heap.size, 6, none⟩ (.int .i64 x) = W ∧ Fr [] w W ∧ W.heap[w.heap.size]? = some (.cells #[.int .i64 m.c, .slice a1 m.q.length k1, .bool m.busy, .slice a2 m.rest.length k2, .int .i64 m.acc, .int .i64 m.w, .int .i64 x] 41 (0, 0)) ∧ S7 W (w.heap.size + 1) 0 none 0 0 false none 0 0 0 0 0 := ⟨_, rfl, Fr.setCell (p := ⟨w.heap.size, 6, none⟩) (HF.out) (.inr (Nat.le_refl _)) (.int .i64 x), (by have hx := heap_setCell_eq (i := 6) (u := .int .i64 x) (HB.out); simpa [S7] using hx), keepS (a := ⟨w.heap.size, 6, none⟩) (v := .int .i64 x) (HZ.out) (by dsimp only; omega)⟩
      have xn1_0 : wn1.cell? ⟨w.heap.size, 0, none⟩ = some (.int .i64 m.c) := cell_of qn1
      have xn1_1 : wn1.cell? ⟨w.heap.size, 1, none⟩ = some (.slice a1 m.q.length k1) := cell_of qn1
      have xn1_2 : wn1.cell? ⟨w.heap.size, 2, none⟩ = some (.bool m.busy) := cell_of qn1
      have xn1_3 : wn1.cell? ⟨w.heap.size, 3, none⟩ = some (.slice a2 m.rest.length k2) := cell_of qn1
      have xn1_4 : wn1.cell? ⟨w.heap.size, 4, none⟩ = some (.int .i64 m.acc) := cell_of qn1
      have xn1_5 : wn1.cell? ⟨w.heap.size, 5, none⟩ = some (.int .i64 m.w) := cell_of qn1
      have xn1_6 : wn1.cell? ⟨w.heap.size, 6, none⟩ = some (.int .i64 x) := cell_of qn1
      have pn1_0 : wn1.frozen? ⟨w.heap.size, 0, none⟩ = false := free_of qn1
      have pn1_1 : wn1.frozen? ⟨w.heap.size, 1, none⟩ = false := free_of qn1
      have pn1_2 : wn1.frozen? ⟨w.heap.size, 2, none⟩ = false := free_of qn1
      have pn1_3 : wn1.frozen? ⟨w.heap.size, 3, none⟩ = false := free_of qn1
      have pn1_4 : wn1.frozen? ⟨w.heap.size, 4, none⟩ = false := free_of qn1
      have pn1_5 : wn1.frozen? ⟨w.heap.size, 5, none⟩ = false := free_of qn1
      have pn1_6 : wn1.frozen? ⟨w.heap.size, 6, none⟩ = false := free_of qn1
      obtain ⟨wn2, hwn2, fn2, qn2, zn2⟩ : ∃ W, wn1.setCell ⟨w.heap.size, 1, none⟩ (.slice none 0 0) = W ∧ Fr [] w W ∧ W.heap[w.heap.size]? = some (.cells #[.int .i64 m.c, .slice none 0 0, .bool m.busy, .slice a2 m.rest.length k2, .int .i64 m.acc, .int .i64 m.w, .int .i64 x] 41 (0, 0)) ∧ S7 W (w.heap.size + 1) 0 none 0 0 false none 0 0 0 0 0 := ⟨_, rfl, Fr.setCell (p := ⟨w.heap.size, 1, none⟩) (fn1) (.inr (Nat.le_refl _)) (.slice none 0 0), (by have hx := heap_setCell_eq (i := 1) (u := .slice none 0 0) (qn1); simpa [S7] using hx), keepS (a := ⟨w.heap.size, 1, none⟩) (v := .slice none 0 0) (zn1) (by dsimp only; omega)⟩
      have xn2_0 : wn2.cell? ⟨w.heap.size, 0, none⟩ = some (.int .i64 m.c) := cell_of qn2
      have xn2_1 : wn2.cell? ⟨w.heap.size, 1, none⟩ = some (.slice none 0 0) := cell_of qn2
      have xn2_2 : wn2.cell? ⟨w.heap.size, 2, none⟩ = some (.bool m.busy) := cell_of qn2
      have xn2_3 : wn2.cell? ⟨w.heap.size, 3, none⟩ = some (.slice a2 m.rest.length k2) := cell_of qn2
      have xn2_4 : wn2.cell? ⟨w.heap.size, 4, none⟩ = some (.int .i64 m.acc) := cell_of qn2
      have xn2_5 : wn2.cell? ⟨w.heap.size, 5, none⟩ = some (.int .i64 m.w) := cell_of qn2
      have xn2_6 : wn2.cell? ⟨w.heap.size, 6, none⟩ = some (.int .i64 x) := cell_of qn2
      have pn2_0 : wn2.frozen? ⟨w.heap.size, 0, none⟩ = false := free_of qn2
      have pn2_1 : wn2.frozen? ⟨w.heap.size, 1, none⟩ = false := free_of qn2
      have pn2_2 : wn2.frozen? ⟨w.heap.size, 2, none⟩ = false := free_of qn2
      have pn2_3 : wn2.frozen? ⟨w.heap.size, 3, none⟩ = false := free_of qn2
      have pn2_4 : wn2.frozen? ⟨w.heap.size, 4, none⟩ = false := free_of qn2
      have pn2_5 : wn2.frozen? ⟨w.heap.size, 5, none⟩ = false := free_of qn2
      have pn2_6 : wn2.frozen? ⟨w.heap.size, 6, none⟩ = false := free_of qn2
      have HZS := Lib.hid (zn2)
      have HFS := Lib.hid (fn2)
      have HQN1 := Lib.hid (And.intro qn1 (And.intro zn1 fn1))
      clear qn1 zn1 fn1
      have HQN2 := Lib.hid (And.intro qn2 (And.intro zn2 fn2))
      clear qn2 zn2 fn2
      go_enter Try.func87, Try.ntmps87
      go_wp2_with fail
      refine HC.out.mono ?_
      rintro e wc ⟨rfl, rfl⟩
      go_wp2_with (refine wpl_store rfl 41 _ _ rfl (w.heap.size + 1) #[.int .i64 m.c, .slice none 0 0, .bool m.busy, .slice a2 m.rest.length k2, .int .i64 m.acc, .int .i64 m.w, .int .i64 x] (by rfl) (by rfl) _ _ HZS.out (by kernel_rfl) rfl (by simp [Value.oneCell']) ?_)
      intro wf ff qf
      obtain ⟨y0, y1, y2, y3, y4, y5, y6, _, _, _, _, _, _, _⟩ := S7.cells qf
      clear x0 x1 x2 x3 x4 x5 x6 p0 p1 p2 p3 p4 p5 p6
      go_wp2_with fail
      refine bodyPost_ret (v := .tuple #[.agg #[.int .i64 m.c, .slice none 0 0, .bool m.busy, .slice a2 m.rest.length k2, .int .i64 m.acc, .int .i64 m.w, .int .i64 x], .int .i64 0]) (by simp [results, Try.results87, go_sem, y0, y1, y2, y3, y4, y5, y6]) rfl ?_
      have F : Fr [] w wf := Fr.trans (U := []) (S := []) HFS.out ff (by simp) (fun x hx => .inr (by simp at hx; omega))
      exact ⟨_, rfl, F, _, _, (by first | rfl | rw [H_hw'.out]), PartV.nil _ _, HQ.out.2.keep F (by simp)⟩
set_option maxHeartbeats 1000000 in
theorem r_end {w : World} {N : Nat → Prop} {v : Value} {m : SM} (h : Sv w N v m) :
    Calls Try.prog 83 #[v] w fun e w' => ∃ v', e = .returned (.tuple #[v', .int .i64 (endM m).n, .int .i64 (endM m).err]) ∧ Fr [] w w' ∧ Sv w' N v' (endM m).m := by
  obtain ⟨u1, u2, rfl, hq, hr⟩ := h
  obtain ⟨a1, k1, rfl, _⟩ := id hq
  obtain ⟨a2, k2, rfl, _⟩ := id hr
  have HQ := Lib.hid (And.intro hq hr)
  clear hq hr
  by_cases hb : m.busy = false
  · have e : endM m = ⟨m, 0, 8⟩ := by unfold endM; rw [if_pos hb]
    rw [e]
    clear e
    rw [hb]
    have H_hb := Lib.hid hb
    obtain ⟨w0, hw0, f0, q0, z0⟩ : ∃ W, (w.alloc (.cells #[.int .i64 m.c, .slice a1 m.q.length k1, .bool false, .slice a2 m.rest.length k2, .int .i64 m.acc, .int .i64 m.w, .int .i64 m.r] 41)).alloc (.cells #[.int .i64 0, .slice none 0 0, .bool false, .slice none 0 0, .int .i64 0, .int .i64 0, .int .i64 0] 41) = W ∧ Fr [] w W ∧ S7 W w.heap.size m.c a1 m.q.length k1 false a2 m.rest.length k2 m.acc m.w m.r ∧ S7 W (w.heap.size + 1) 0 none 0 0 false none 0 0 0 0 0 := ⟨_, rfl, ((Fr.refl _ _).alloc _).alloc _, keepA (newA rfl), newA (by simp)⟩
    obtain ⟨x0, x1, x2, x3, x4, x5, x6, p0, p1, p2, p3, p4, p5, p6⟩ := q0.cells
    have hz0 : w.heap.size + 1 < w0.heap.size := lt_of_heap z0
    have HZ := Lib.hid z0
    have HF := Lib.hid f0
    have HB := Lib.hid q0
    clear q0 z0 f0
    clear hb
    have HZS := Lib.hid (HZ.out)
    have HFS := Lib.hid (HF.out)
    go_enter Try.func83, Try.ntmps83
    go_wp2_with (refine wpl_store rfl 41 _ _ rfl (w.heap.size + 1) #[.int .i64 m.c, .slice a1 m.q.length k1, .bool false, .slice a2 m.rest.length k2, .int .i64 m.acc, .int .i64 m.w, .int .i64 m.r] (by rfl) (by rfl) _ _ HZS.out (by kernel_rfl) rfl (by simp [Value.oneCell']) ?_)
    intro wf ff qf
    obtain ⟨y0, y1, y2, y3, y4, y5, y6, _, _, _, _, _, _, _⟩ := S7.cells qf
    clear x0 x1 x2 x3 x4 x5 x6 p0 p1 p2 p3 p4 p5 p6
    go_wp2_with fail
    refine bodyPost_ret (v := .tuple #[.agg #[.int .i64 m.c, .slice a1 m.q.length k1, .bool false, .slice a2 m.rest.length k2, .int .i64 m.acc, .int .i64 m.w, .int .i64 m.r], .int .i64 0, .int .i64 8]) (by simp [results, Try.results83, go_sem, y0, y1, y2, y3, y4, y5, y6]) rfl ?_
    have F : Fr [] w wf := Fr.trans (U := []) (S := []) HFS.out ff (by simp) (fun x hx => .inr (by simp at hx; omega))
    exact ⟨_, rfl, F, _, _, (by first | rfl | rw [H_hb.out]), HQ.out.1.keep F (by simp), HQ.out.2.keep F (by simp)⟩
  · have hb' : m.busy = true := by simpa using hb
    by_cases ha : atEndM m = false
    · have e : endM m = ⟨m, 0, 16⟩ := by unfold endM; rw [if_neg hb, if_pos ha]
      rw [e]
      clear e hb
      rw [hb']
      have H_hb' := Lib.hid hb'
      obtain ⟨w0, hw0, f0, q0, z0⟩ : ∃ W, (w.alloc (.cells #[.int .i64 m.c, .slice a1 m.q.length k1, .bool true, .slice a2 m.rest.length k2, .int .i64 m.acc, .int .i64 m.w, .int .i64 m.r] 41)).alloc (.cells #[.int .i64 0, .slice none 0 0, .bool false, .slice none 0 0, .int .i64 0, .int .i64 0, .int .i64 0] 41) = W ∧ Fr [] w W ∧ S7 W w.heap.size m.c a1 m.q.length k1 true a2 m.rest.length k2 m.acc m.w m.r ∧ S7 W (w.heap.size + 1) 0 none 0 0 false none 0 0 0 0 0 := ⟨_, rfl, ((Fr.refl _ _).alloc _).alloc _, keepA (newA rfl), newA (by simp)⟩
      obtain ⟨x0, x1, x2, x3, x4, x5, x6, p0, p1, p2, p3, p4, p5, p6⟩ := q0.cells
      have hz0 : w.heap.size + 1 < w0.heap.size := lt_of_heap z0
      have HZ := Lib.hid z0
      have HF := Lib.hid f0
      have HB := Lib.hid q0
      clear q0 z0 f0
      clear hb'
      have HC := Lib.hid (r_atend (w := w0) (N := N) (v := .agg #[.int .i64 m.c, .slice a1 m.q.length k1, .bool true, .slice a2 m.rest.length k2, .int .i64 m.acc, .int .i64 m.w, .int .i64 m.r]) (m := m) ⟨_, _, (by rw [H_hb'.out]), HQ.out.1.keep HF.out (by simp), HQ.out.2.keep HF.out (by simp)⟩)
      rw [ha] at HC
      clear ha
      have HZS := Lib.hid (HZ.out)
      have HFS := Lib.hid (HF.out)
      go_enter Try.func83, Try.ntmps83
      go_wp2_with fail
      refine HC.out.mono ?_
      rintro e w2 ⟨rfl, f2⟩
      have HB2 := Lib.hid (show S7 w2 w.heap.size m.c a1 m.q.length k1 true a2 m.rest.length k2 m.acc m.w m.r from f2.keep HB.out (by simp))
      have HZ2 := Lib.hid (show S7 w2 (w.heap.size + 1) 0 none 0 0 false none 0 0 0 0 0 from f2.keep HZ.out (by simp))
      have HF2 := Lib.hid (HF.out.then0 f2)
      clear x0 x1 x2 x3 x4 x5 x6 p0 p1 p2 p3 p4 p5 p6
      obtain ⟨x0, x1, x2, x3, x4, x5, x6, p0, p1, p2, p3, p4, p5, p6⟩ := HB2.out.cells
      have HZS := HZ2
      have HFS := HF2
      go_wp2_with (refine wpl_store rfl 41 _ _ rfl (w.heap.size + 1) #[.int .i64 m.c, .slice a1 m.q.length k1, .bool true, .slice a2 m.rest.length k2, .int .i64 m.acc, .int .i64 m.w, .int .i64 m.r] (by rfl) (by rfl) _ _ HZS.out (by kernel_rfl) rfl (by simp [Value.oneCell']) ?_)
      intro wf ff qf
      obtain ⟨y0, y1, y2, y3, y4, y5, y6, _, _, _, _, _, _, _⟩ := S7.cells qf
      clear x0 x1 x2 x3 x4 x5 x6 p0 p1 p2 p3 p4 p5 p6
      go_wp2_with fail
      refine bodyPost_ret (v := .tuple #[.agg #[.int .i64 m.c, .slice a1 m.q.length k1, .bool true, .slice a2 m.rest.length k2, .int .i64 m.acc, .int .i64 m.w, .int .i64 m.r], .int .i64 0, .int .i64 16]) (by simp [results, Try.results83, go_sem, y0, y1, y2, y3, y4, y5, y6]) rfl ?_
      have F : Fr [] w wf := Fr.trans (U := []) (S := []) HFS.out ff (by simp) (fun x hx => .inr (by simp at hx; omega))
      exact ⟨_, rfl, F, _, _, (by first | rfl | rw [H_hb'.out]), HQ.out.1.keep F (by simp), HQ.out.2.keep F (by simp)⟩
    · have e : endM m = ⟨stopM m, m.acc, howM m⟩ := by unfold endM; rw [if_neg hb, if_neg ha]
      replace ha : atEndM m = true := by simpa using ha
      rw [e]
      clear e hb
      rw [hb']
      have H_hb' := Lib.hid hb'
      obtain ⟨w0, hw0, f0, q0, z0⟩ : ∃ W, (w.alloc (.cells #[.int .i64 m.c, .slice a1 m.q.length k1, .bool true, .slice a2 m.rest.length k2, .int .i64 m.acc, .int .i64 m.w, .int .i64 m.r] 41)).alloc (.cells #[.int .i64 0, .slice none 0 0, .bool false, .slice none 0 0, .int .i64 0, .int .i64 0, .int .i64 0] 41) = W ∧ Fr [] w W ∧ S7 W w.heap.size m.c a1 m.q.length k1 true a2 m.rest.length k2 m.acc m.w m.r ∧ S7 W (w.heap.size + 1) 0 none 0 0 false none 0 0 0 0 0 := ⟨_, rfl, ((Fr.refl _ _).alloc _).alloc _, keepA (newA rfl), newA (by simp)⟩
      obtain ⟨x0, x1, x2, x3, x4, x5, x6, p0, p1, p2, p3, p4, p5, p6⟩ := q0.cells
      have hz0 : w.heap.size + 1 < w0.heap.size := lt_of_heap z0
      have HZ := Lib.hid z0
      have HF := Lib.hid f0
      have HB := Lib.hid q0
      clear q0 z0 f0
      clear hb'
      have HC := Lib.hid (r_atend (w := w0) (N := N) (v := .agg #[.int .i64 m.c, .slice a1 m.q.length k1, .bool true, .slice a2 m.rest.length k2, .int .i64 m.acc, .int .i64 m.w, .int .i64 m.r]) (m := m) ⟨_, _, (by rw [H_hb'.out]), HQ.out.1.keep HF.out (by simp), HQ.out.2.keep HF.out (by simp)⟩)
      rw [ha] at HC
      clear ha
      have HZS := Lib.hid (HZ.out)
      have HFS := Lib.hid (HF.out)
      go_enter Try.func83, Try.ntmps83
      go_wp2_with fail
      refine HC.out.mono ?_
      rintro e w2 ⟨rfl, f2⟩
      have HB2 := Lib.hid (show S7 w2 w.heap.size m.c a1 m.q.length k1 true a2 m.rest.length k2 m.acc m.w m.r from f2.keep HB.out (by simp))
      have HZ2 := Lib.hid (show S7 w2 (w.heap.size + 1) 0 none 0 0 false none 0 0 0 0 0 from f2.keep HZ.out (by simp))
      have HF2 := Lib.hid (HF.out.then0 f2)
      clear x0 x1 x2 x3 x4 x5 x6 p0 p1 p2 p3 p4 p5 p6
      obtain ⟨x0, x1, x2, x3, x4, x5, x6, p0, p1, p2, p3, p4, p5, p6⟩ := HB2.out.cells
      have HFA := Lib.hid fun (w' : World) (f : Fr [] w2 w') => (show w'.cell? ⟨w.heap.size, 0, none⟩ = some (.int .i64 m.c) ∧ w'.cell? ⟨w.heap.size, 1, none⟩ = some (.slice a1 m.q.length k1) ∧ w'.cell? ⟨w.heap.size, 2, none⟩ = some (.bool true) ∧ w'.cell? ⟨w.heap.size, 3, none⟩ = some (.slice a2 m.rest.length k2) ∧ w'.cell? ⟨w.heap.size, 4, none⟩ = some (.int .i64 m.acc) ∧ w'.cell? ⟨w.heap.size, 5, none⟩ = some (.int .i64 m.w) ∧ w'.cell? ⟨w.heap.size, 6, none⟩ = some (.int .i64 m.r) from (let q := S7.cells (show S7 w' w.heap.size m.c a1 m.q.length k1 true a2 m.rest.length k2 m.acc m.w m.r from f.keep HB2.out (by simp)); ⟨q.1, q.2.1, q.2.2.1, q.2.2.2.1, q.2.2.2.2.1, q.2.2.2.2.2.1, q.2.2.2.2.2.2.1⟩))
      have HHO := Lib.hid fun (w' : World) (f : Fr [] w2 w') => r_how (w := w') (N := N) (v := .agg #[.int .i64 m.c, .slice a1 m.q.length k1, .bool true, .slice a2 m.rest.length k2, .int .i64 m.acc, .int .i64 m.w, .int .i64 m.r]) (m := m) ⟨_, _, (by rw [H_hb'.out]), HQ.out.1.keep (HF2.out.then0 f) (by simp), HQ.out.2.keep (HF2.out.then0 f) (by simp)⟩
      have HEH := Lib.hid (Go.Proofs.enters_of Try.func114 (by kernel_rfl) rfl)
      go_wp2_with fail
      have fd : Fr [] w2 w2.drew := (Fr.refl _ _).drew
      refine wp_region_order [(0, true), (1, true), (2, true), (3, false), (4, true), (5, true)] (fun w' => Fr [] w2 w') (by kernel_rfl) (by kernel_rfl) fd ?_
      intro OPS HOPS
      have hops := HOPS.out
      try simp only [List.append_eq, List.cons_append, List.nil_append] at hops
      replace HOPS := Lib.hid hops
      clear hops
      refine walkO_take (o := _) (v := ?_) (by rw [HOPS.out]; simp only [gA, gB, gC]; exact rfl) (Or.inl ⟨rfl, ?_⟩) ?_
      rotate_left
      · (intro w hSw; have hSx := HFA.out _ hSw; (try dsimp only at hSx); clear hSw; go_simp) <;> (with_reducible rfl)
      simp only [Act.put, gD, gE, gF]
      refine walkO_take (o := _) (v := ?_) (by rw [HOPS.out]; simp only [gA, gB, gC]; exact rfl) (Or.inl ⟨rfl, ?_⟩) ?_
      rotate_left
      · (intro w hSw; have hSx := HFA.out _ hSw; (try dsimp only at hSx); clear hSw; go_simp) <;> (with_reducible rfl)
      simp only [Act.put, gD, gE, gF]
      refine walkO_take (o := _) (v := ?_) (by rw [HOPS.out]; simp only [gA, gB, gC]; exact rfl) (Or.inl ⟨rfl, ?_⟩) ?_
      rotate_left
      · (intro w hSw; have hSx := HFA.out _ hSw; (try dsimp only at hSx); clear hSw; go_simp) <;> (with_reducible rfl)
      simp only [Act.put, gD, gE, gF]
      refine walkO_call (o := _) (by rw [HOPS.out]; simp only [gA, gB, gC]; exact rfl) (fun K HK => ?_)
      refine step_call rfl 114 #[(.tmp 17)] #[41] rfl HEH.out #[.agg #[.int .i64 m.c, .slice a1 m.q.length k1, .bool true, .slice a2 m.rest.length k2, .int .i64 m.acc, .int .i64 m.w, .int .i64 m.r]] (by simp [Act.eval]) (HHO.out _ fd) ?_
      rintro e w3 ⟨rfl, f3'⟩
      have g3 := fd.then0 f3'
      refine ⟨_, rfl, ?_⟩
      refine HK.out (fun w' => Fr [] w2 w') _ _ (fun _ h => h) (g3) ?_
      clear HK K
      simp only [Act.put, gD, gE, gF]
      refine walkO_take (o := _) (v := ?_) (by rw [HOPS.out]; simp only [gA, gB, gC]; exact rfl) (Or.inl ⟨rfl, ?_⟩) ?_
      rotate_left
      · (intro w hSw; have hSx := HFA.out _ hSw; (try dsimp only at hSx); clear hSw; go_simp) <;> (with_reducible rfl)
      simp only [Act.put, gD, gE, gF]
      refine walkO_take (o := _) (v := ?_) (by rw [HOPS.out]; simp only [gA, gB, gC]; exact rfl) (Or.inl ⟨rfl, ?_⟩) ?_
      rotate_left
      · (intro w hSw; have hSx := HFA.out _ hSw; (try dsimp only at hSx); clear hSw; go_simp) <;> (with_reducible rfl)
      simp only [Act.put, gD, gE, gF]
      refine walkO_done ?_
      clear HOPS OPS
      have f3 := f2.then0 g3
      clear HFA HHO HEH g3 f3' fd
      have HB3 := Lib.hid (show S7 w3 w.heap.size m.c a1 m.q.length k1 true a2 m.rest.length k2 m.acc m.w m.r from f3.keep HB.out (by simp))
      have HZ3 := Lib.hid (show S7 w3 (w.heap.size + 1) 0 none 0 0 false none 0 0 0 0 0 from f3.keep HZ.out (by simp))
      have HF3 := Lib.hid (HF.out.then0 f3)
      clear x0 x1 x2 x3 x4 x5 x6 p0 p1 p2 p3 p4 p5 p6
      obtain ⟨x0, x1, x2, x3, x4, x5, x6, p0, p1, p2, p3, p4, p5, p6⟩ := HB3.out.cells
      obtain ⟨wn1, hwn1, fn1, qn1, zn1⟩ : ∃ W, w3.setCell ⟨w.heap.size, 2, none⟩ (.bool false) = W ∧ Fr [] w W ∧ W.heap[w.heap.size]? = some (.cells #[.int .i64 m.c, .slice a1 m.q.length k1, .bool false, .slice a2 m.rest.length k2, .int .i64 m.acc, .int .i64 m.w, .int .i64 m.r] 41 (0, 0)) ∧ S7 W (w.heap.size + 1) 0 none 0 0 false none 0 0 0 0 0 := ⟨_, rfl, Fr.setCell (p := ⟨w.heap.size, 2, none⟩) (HF3.out) (.inr (Nat.le_refl _)) (.bool false), (by have hx := heap_setCell_eq (i := 2) (u := .bool false) (HB3.out); simpa [S7] using hx), keepS (a := ⟨w.heap.size, 2, none⟩) (v := .bool false) (HZ3.out) (by dsimp only; omega)⟩
      have xn1_0 : wn1.cell? ⟨w.heap.size, 0, none⟩ = some (.int .i64 m.c) := cell_of qn1
      have xn1_1 : wn1.cell? ⟨w.heap.size, 1, none⟩ = some (.slice a1 m.q.length k1) := cell_of qn1
      have xn1_2 : wn1.cell? ⟨w.heap.size, 2, none⟩ = some (.bool false) := cell_of qn1
      have xn1_3 : wn1.cell? ⟨w.heap.size, 3, none⟩ = some (.slice a2 m.rest.length k2) := cell_of qn1
      have xn1_4 : wn1.cell? ⟨w.heap.size, 4, none⟩ = some (.int .i64 m.acc) := cell_of qn1
      have xn1_5 : wn1.cell? ⟨w.heap.size, 5, none⟩ = some (.int .i64 m.w) := cell_of qn1
      have xn1_6 : wn1.cell? ⟨w.heap.size, 6, none⟩ = some (.int .i64 m.r) := cell_of qn1
      have pn1_0 : wn1.frozen? ⟨w.heap.size, 0, none⟩ = false := free_of qn1
      have pn1_1 : wn1.frozen? ⟨w.heap.size, 1, none⟩ = false := free_of qn1
      have pn1_2 : wn1.frozen? ⟨w.heap.size, 2, none⟩ = false := free_of qn1
      have pn1_3 : wn1.frozen? ⟨w.heap.size, 3, none⟩ = false := free_of qn1
      have pn1_4 : wn1.frozen? ⟨w.heap.size, 4, none⟩ = false := free_of qn1
      have pn1_5 : wn1.frozen? ⟨w.heap.size, 5, none⟩ = false := free_of qn1
      have pn1_6 : wn1.frozen? ⟨w.heap.size, 6, none⟩ = false := free_of qn1
      obtain ⟨wn2, hwn2, fn2, qn2, zn2⟩ : ∃ W, wn1.setCell ⟨w.heap.size, 3, none⟩ (.slice none 0 0) = W ∧ Fr [] w W ∧ W.heap[w.heap.size]? = some (.cells #[.int .i64 m.c, .slice a1 m.q.length k1, .bool false, .slice none 0 0, .int .i64 m.acc, .int .i64 m.w, .int .i64 m.r] 41 (0, 0)) ∧ S7 W (w.heap.size + 1) 0 none 0 0 false none 0 0 0 0 0 := ⟨_, rfl, Fr.setCell (p := ⟨w.heap.size, 3, none⟩) (fn1) (.inr (Nat.le_refl _)) (.slice none 0 0), (by have hx := heap_setCell_eq (i := 3) (u := .slice none 0 0) (qn1); simpa [S7] using hx), keepS (a := ⟨w.heap.size, 3, none⟩) (v := .slice none 0 0) (zn1) (by dsimp only; omega)⟩
      have xn2_0 : wn2.cell? ⟨w.heap.size, 0, none⟩ = some (.int .i64 m.c) := cell_of qn2
      have xn2_1 : wn2.cell? ⟨w.heap.size, 1, none⟩ = some (.slice a1 m.q.length k1) := cell_of qn2
      have xn2_2 : wn2.cell? ⟨w.heap.size, 2, none⟩ = some (.bool false) := cell_of qn2
      have xn2_3 : wn2.cell? ⟨w.heap.size, 3, none⟩ = some (.slice none 0 0) := cell_of qn2
      have xn2_4 : wn2.cell? ⟨w.heap.size, 4, none⟩ = some (.int .i64 m.acc) := cell_of qn2
      have xn2_5 : wn2.cell? ⟨w.heap.size, 5, none⟩ = some (.int .i64 m.w) := cell_of qn2
      have xn2_6 : wn2.cell? ⟨w.heap.size, 6, none⟩ = some (.int .i64 m.r) := cell_of qn2
      have pn2_0 : wn2.frozen? ⟨w.heap.size, 0, none⟩ = false := free_of qn2
      have pn2_1 : wn2.frozen? ⟨w.heap.size, 1, none⟩ = false := free_of qn2
      have pn2_2 : wn2.frozen? ⟨w.heap.size, 2, none⟩ = false := free_of qn2
      have pn2_3 : wn2.frozen? ⟨w.heap.size, 3, none⟩ = false := free_of qn2
      have pn2_4 : wn2.frozen? ⟨w.heap.size, 4, none⟩ = false := free_of qn2
      have pn2_5 : wn2.frozen? ⟨w.heap.size, 5, none⟩ = false := free_of qn2
      have pn2_6 : wn2.frozen? ⟨w.heap.size, 6, none⟩ = false := free_of qn2
      obtain ⟨wn3, hwn3, fn3, qn3, zn3⟩ : ∃ W, wn2.setCell ⟨w.heap.size, 4, none⟩ (.int .i64 0) = W ∧ Fr [] w W ∧ W.heap[w.heap.size]? = some (.cells #[.int .i64 m.c, .slice a1 m.q.length k1, .bool false, .slice none 0 0, .int .i64 0, .int .i64 m.w, .int .i64 m.r] 41 (0, 0)) ∧ S7 W (w.heap.size + 1) 0 none 0 0 false none 0 0 0 0 0 := ⟨_, rfl, Fr.setCell (p := ⟨w.heap.size, 4, none⟩) (fn2) (.inr (Nat.le_refl _)) (.int .i64 0), (by have hx := heap_setCell_eq (i := 4) (u := .int .i64 0) (qn2); simpa [S7] using hx), keepS (a := ⟨w.heap.size, 4, none⟩) (v := .int .i64 0) (zn2) (by dsimp only; omega)⟩
      have xn3_0 : wn3.cell? ⟨w.heap.size, 0, none⟩ = some (.int .i64 m.c) := cell_of qn3
      have xn3_1 : wn3.cell? ⟨w.heap.size, 1, none⟩ = some (.slice a1 m.q.length k1) := cell_of qn3
      have xn3_2 : wn3.cell? ⟨w.heap.size, 2, none⟩ = some (.bool false) := cell_of qn3
      have xn3_3 : wn3.cell? ⟨w.heap.size, 3, none⟩ = some (.slice none 0 0) := cell_of qn3
      have xn3_4 : wn3.cell? ⟨w.heap.size, 4, none⟩ = some (.int .i64 0) := cell_of qn3
      have xn3_5 : wn3.cell? ⟨w.heap.size, 5, none⟩ = some (.int .i64 m.w) := cell_of qn3
      have xn3_6 : wn3.cell? ⟨w.heap.size, 6, none⟩ = some (.int .i64 m.r) := cell_of qn3
      have pn3_0 : wn3.frozen? ⟨w.heap.size, 0, none⟩ = false := free_of qn3
      have pn3_1 : wn3.frozen? ⟨w.heap.size, 1, none⟩ = false := free_of qn3
      have pn3_2 : wn3.frozen? ⟨w.heap.size, 2, none⟩ = false := free_of qn3
      have pn3_3 : wn3.frozen? ⟨w.heap.size, 3, none⟩ = false := free_of qn3
      have pn3_4 : wn3.frozen? ⟨w.heap.size, 4, none⟩ = false := free_of qn3
      have pn3_5 : wn3.frozen? ⟨w.heap.size, 5, none⟩ = false := free_of qn3
      have pn3_6 : wn3.frozen? ⟨w.heap.size, 6, none⟩ = false := free_of qn3
      have HZS := Lib.hid (zn3)
      have HFS := Lib.hid (fn3)
      have HQN1 := Lib.hid (And.intro qn1 (And.intro zn1 fn1))
      clear qn1 zn1 fn1
      have HQN2 := Lib.hid (And.intro qn2 (And.intro zn2 fn2))
      clear qn2 zn2 fn2
      have HQN3 := Lib.hid (And.intro qn3 (And.intro zn3 fn3))
      clear qn3 zn3 fn3
      go_wp2_with (refine wpl_store rfl 41 _ _ rfl (w.heap.size + 1) #[.int .i64 m.c, .slice a1 m.q.length k1, .bool false, .slice none 0 0, .int .i64 0, .int .i64 m.w, .int .i64 m.r] (by rfl) (by rfl) _ _ HZS.out (by kernel_rfl) rfl (by simp [Value.oneCell']) ?_)
      intro wf ff qf
      obtain ⟨y0, y1, y2, y3, y4, y5, y6, _, _, _, _, _, _, _⟩ := S7.cells qf
      clear x0 x1 x2 x3 x4 x5 x6 p0 p1 p2 p3 p4 p5 p6
      go_wp2_with fail
      refine bodyPost_ret (v := .tuple #[.agg #[.int .i64 m.c, .slice a1 m.q.length k1, .bool false, .slice none 0 0, .int .i64 0, .int .i64 m.w, .int .i64 m.r], .int .i64 m.acc, .int .i64 (howM m)]) (by simp [results, Try.results83, go_sem, y0, y1, y2, y3, y4, y5, y6]) rfl ?_
      have F : Fr [] w wf := Fr.trans (U := []) (S := []) HFS.out ff (by simp) (fun x hx => .inr (by simp at hx; omega))
      exact ⟨_, rfl, F, _, _, (by first | rfl | rw [H_hb'.out]), HQ.out.1.keep F (by simp), PartV.nil _ _⟩
set_option maxHeartbeats 1000000 in
theorem r_new (w : World) (c : Int) (h0 : 0 ≤ c) (h1 : c ≤ 4096) :
    Calls Try.prog 37 #[.int .i64 c] w fun e w' => ∃ v', e = .returned (.tuple #[v', .int .i64 0]) ∧ Fr [] w w' ∧ Sv w' (fun _ => False) v' (newM c) := by
  obtain ⟨w0, hw0, f0, z0⟩ : ∃ W, w.alloc (.cells #[.int .i64 0, .slice none 0 0, .bool false, .slice none 0 0, .int .i64 0, .int .i64 0, .int .i64 0] 41) = W ∧ Fr [] w W ∧ S7 W w.heap.size 0 none 0 0 false none 0 0 0 0 0 := ⟨_, rfl, (Fr.refl _ _).alloc _, newA rfl⟩
  obtain ⟨x0, x1, x2, x3, x4, x5, x6, p0, p1, p2, p3, p4, p5, p6⟩ := z0.cells
  have HZS := Lib.hid z0
  have HFS := Lib.hid f0
  clear z0 f0
  go_enter Try.func37, Try.ntmps37
  go_wp2_with (refine wpl_store rfl 41 _ _ rfl w.heap.size #[.int .i64 c, .slice none 0 0, .bool false, .slice none 0 0, .int .i64 0, .int .i64 0, .int .i64 0] (by rfl) (by rfl) _ _ HZS.out (by kernel_rfl) rfl (by simp [Value.oneCell']) ?_)
  intro wf ff qf
  obtain ⟨y0, y1, y2, y3, y4, y5, y6, _, _, _, _, _, _, _⟩ := S7.cells qf
  clear x0 x1 x2 x3 x4 x5 x6 p0 p1 p2 p3 p4 p5 p6
  go_wp2_with fail
  refine bodyPost_ret (v := .tuple #[.agg #[.int .i64 c, .slice none 0 0, .bool false, .slice none 0 0, .int .i64 0, .int .i64 0, .int .i64 0], .int .i64 0]) (by simp [results, Try.results37, go_sem, y0, y1, y2, y3, y4, y5, y6]) rfl ?_
  have F : Fr [] w wf := Fr.trans (U := []) (S := []) HFS.out ff (by simp) (fun x hx => .inr (by simp at hx; omega))
  exact ⟨_, rfl, F, _, _, rfl, PartV.nil _ _, PartV.nil _ _⟩
set_option maxHeartbeats 1000000 in
theorem r_newbad (w : World) (c : Int) (h : c < 0 ∨ 4096 < c) :
    Calls Try.prog 37 #[.int .i64 c] w fun e w' => ∃ v', e = .returned (.tuple #[v', .int .i64 2]) ∧ Fr [] w w' ∧ Sv w' (fun _ => False) v' (newM 0) := by
  rcases h with h | h
  · obtain ⟨w0, hw0, f0, z0⟩ : ∃ W, w.alloc (.cells #[.int .i64 0, .slice none 0 0, .bool false, .slice none 0 0, .int .i64 0, .int .i64 0, .int .i64 0] 41) = W ∧ Fr [] w W ∧ S7 W w.heap.size 0 none 0 0 false none 0 0 0 0 0 := ⟨_, rfl, (Fr.refl _ _).alloc _, newA rfl⟩
    obtain ⟨x0, x1, x2, x3, x4, x5, x6, p0, p1, p2, p3, p4, p5, p6⟩ := z0.cells
    have HZS := Lib.hid z0
    have HFS := Lib.hid f0
    clear z0 f0
    go_enter Try.func37, Try.ntmps37
    go_wp2_with (refine wpl_store rfl 41 _ _ rfl w.heap.size #[.int .i64 0, .slice none 0 0, .bool false, .slice none 0 0, .int .i64 0, .int .i64 0, .int .i64 0] (by rfl) (by rfl) _ _ HZS.out (by kernel_rfl) rfl (by simp [Value.oneCell']) ?_)
    intro wf ff qf
    obtain ⟨y0, y1, y2, y3, y4, y5, y6, _, _, _, _, _, _, _⟩ := S7.cells qf
    clear x0 x1 x2 x3 x4 x5 x6 p0 p1 p2 p3 p4 p5 p6
    go_wp2_with fail
    refine bodyPost_ret (v := .tuple #[.agg #[.int .i64 0, .slice none 0 0, .bool false, .slice none 0 0, .int .i64 0, .int .i64 0, .int .i64 0], .int .i64 2]) (by simp [results, Try.results37, go_sem, y0, y1, y2, y3, y4, y5, y6]) rfl ?_
    have F : Fr [] w wf := Fr.trans (U := []) (S := []) HFS.out ff (by simp) (fun x hx => .inr (by simp at hx; omega))
    exact ⟨_, rfl, F, _, _, rfl, PartV.nil _ _, PartV.nil _ _⟩
  · obtain ⟨w0, hw0, f0, z0⟩ : ∃ W, w.alloc (.cells #[.int .i64 0, .slice none 0 0, .bool false, .slice none 0 0, .int .i64 0, .int .i64 0, .int .i64 0] 41) = W ∧ Fr [] w W ∧ S7 W w.heap.size 0 none 0 0 false none 0 0 0 0 0 := ⟨_, rfl, (Fr.refl _ _).alloc _, newA rfl⟩
    obtain ⟨x0, x1, x2, x3, x4, x5, x6, p0, p1, p2, p3, p4, p5, p6⟩ := z0.cells
    have HZS := Lib.hid z0
    have HFS := Lib.hid f0
    clear z0 f0
    go_enter Try.func37, Try.ntmps37
    go_wp2_with (refine wpl_store rfl 41 _ _ rfl w.heap.size #[.int .i64 0, .slice none 0 0, .bool false, .slice none 0 0, .int .i64 0, .int .i64 0, .int .i64 0] (by rfl) (by rfl) _ _ HZS.out (by kernel_rfl) rfl (by simp [Value.oneCell']) ?_)
    intro wf ff qf
    obtain ⟨y0, y1, y2, y3, y4, y5, y6, _, _, _, _, _, _, _⟩ := S7.cells qf
    clear x0 x1 x2 x3 x4 x5 x6 p0 p1 p2 p3 p4 p5 p6
    go_wp2_with fail
    refine bodyPost_ret (v := .tuple #[.agg #[.int .i64 0, .slice none 0 0, .bool false, .slice none 0 0, .int .i64 0, .int .i64 0, .int .i64 0], .int .i64 2]) (by simp [results, Try.results37, go_sem, y0, y1, y2, y3, y4, y5, y6]) rfl ?_
    have F : Fr [] w wf := Fr.trans (U := []) (S := []) HFS.out ff (by simp) (fun x hx => .inr (by simp at hx; omega))
    exact ⟨_, rfl, F, _, _, rfl, PartV.nil _ _, PartV.nil _ _⟩

end Go.Proofs.Ytdoamelhclnphaa

namespace Go.Proofs.Ytdoamelhclnphaa
open Go.RowKit
set_option maxRecDepth 100000

/-- A state whose bytes are the call's own, in two rows. -/
def SvD (w : World) (M : Nat) (v : Value) (m : SM) : Prop :=
  ∃ u1 u2, v = .agg #[.int .i64 m.c, u1, .bool m.busy, u2, .int .i64 m.acc, .int .i64 m.w, .int .i64 m.r] ∧ Ow w M 5 u1 ((bi m.q).map (Value.int .u8)) ∧ Ow w M 5 u2 ((bi m.rest).map (Value.int .u8)) ∧ ∀ x, u1.ownBlock = some x → u2.ownBlock ≠ some x
theorem SvD.sv {w : World} {M : Nat} {v : Value} {m : SM} (h : SvD w M v m) : Sv w (fun x => M ≤ x) v m := by
  obtain ⟨u1, u2, h1, h2, h3, _⟩ := h
  exact ⟨u1, u2, h1, PartV.ofOw h2, PartV.ofOw h3⟩
set_option maxHeartbeats 1000000 in
theorem r_copy {w : World} {N : Nat → Prop} {v : Value} {m : SM} (h : Sv w N v m) (HB0 : m.q.length ≤ 1000000 ∧ m.rest.length ≤ 1000000) :
    Calls Try.prog 44 #[v] w fun e w' => ∃ v', e = .returned v' ∧ Fr [] w w' ∧ SvD w' w.heap.size v' m := by
  obtain ⟨u1, u2, rfl, hq, hr⟩ := h
  obtain ⟨a1, k1, rfl, _⟩ := id hq
  obtain ⟨a2, k2, rfl, _⟩ := id hr
  have HQ := Lib.hid (And.intro hq hr)
  clear hq hr
  have h1 := HB0.1
  have h2 := HB0.2
  have HU : Hid (Try.prog.underlying 29 = some (.slice 5)) := Lib.hid Try.underlying29
  have HIN : Hid ((Try.prog.info? 5).map (fun i => (i.zero, i.size, i.bytes)) = some (some (.int .u8 0), 1, 1)) := Lib.hid (by kernel_rfl)
  have HL1 : Hid (((bi m.q).map (Value.int .u8)).length = m.q.length) := Lib.hid (by simp [bi_length])
  have HX1 : Hid (([] : List Value).length + m.q.length ≤ maxLen) := Lib.hid (by unfold maxLen; simp; omega)
  have HY1 : Hid ((([] : List Value).length + m.q.length) * 1 ≤ 140737488355328) := Lib.hid (by simp; omega)
  have HL2 : Hid (((bi m.rest).map (Value.int .u8)).length = m.rest.length) := Lib.hid (by simp [bi_length])
  have HX2 : Hid (([] : List Value).length + m.rest.length ≤ maxLen) := Lib.hid (by unfold maxLen; simp; omega)
  have HY2 : Hid ((([] : List Value).length + m.rest.length) * 1 ≤ 140737488355328) := Lib.hid (by simp; omega)
  have HS1 := Lib.hid (show Sl w a1 (bi m.q) from by obtain ⟨x, y, e, _, _, hs, _⟩ := HQ.out.1; injection e with e1 e2 e3; subst e1; exact hs)
  have HS2 := Lib.hid (show Sl w a2 (bi m.rest) from by obtain ⟨x, y, e, _, _, hs, _⟩ := HQ.out.2; injection e with e1 e2 e3; subst e1; exact hs)
  clear h1 h2 HB0
  obtain ⟨w0, hw0, f0, q0, z0⟩ : ∃ W, (w.alloc (.cells #[.int .i64 m.c, .slice a1 m.q.length k1, .bool m.busy, .slice a2 m.rest.length k2, .int .i64 m.acc, .int .i64 m.w, .int .i64 m.r] 41)).alloc (.cells #[.int .i64 0, .slice none 0 0, .bool false, .slice none 0 0, .int .i64 0, .int .i64 0, .int .i64 0] 41) = W ∧ Fr [] w W ∧ S7 W w.heap.size m.c a1 m.q.length k1 m.busy a2 m.rest.length k2 m.acc m.w m.r ∧ S7 W (w.heap.size + 1) 0 none 0 0 false none 0 0 0 0 0 := ⟨_, rfl, ((Fr.refl _ _).alloc _).alloc _, keepA (newA rfl), newA (by simp)⟩
  obtain ⟨x0, x1, x2, x3, x4, x5, x6, p0, p1, p2, p3, p4, p5, p6⟩ := q0.cells
  have hz0 : w.heap.size + 1 < w0.heap.size := lt_of_heap z0
  have HZ := Lib.hid z0
  have HF := Lib.hid f0
  have HB := Lib.hid q0
  clear q0 z0 f0
  go_enter Try.func44, Try.ntmps44
  go_wp2_with (refine wpList_append_fr _ rfl (.const (.slice none 0 0)) (.tmp 4) 29 rfl 5 (.int .u8 0) 1 HU.out HIN.out rfl w0.heap.size (.slice none 0 0) [] (by exact rfl) (Ow.nil _ _ _) a1 m.q.length k1 _ (by exact rfl) HL1.out ((sl_keep HS1.out HF.out (by simp)).toV) (bytes_one _) HX1.out HY1.out (Nat.le_refl _) ?_)
  intro v2 w2 o2 f2' hb2
  have f2 : Fr [] w0 w2 := f2'
  clear f2'
  have o2' : Ow w2 w0.heap.size 5 v2 ((bi m.q).map (Value.int .u8)) := o2.out
  obtain ⟨b1, l1, rfl, _⟩ := o2'.formB
  have HB2 := Lib.hid (show S7 w2 w.heap.size m.c a1 m.q.length k1 m.busy a2 m.rest.length k2 m.acc m.w m.r from f2.keep HB.out (by simp))
  have HZ2 := Lib.hid (show S7 w2 (w.heap.size + 1) 0 none 0 0 false none 0 0 0 0 0 from f2.keep HZ.out (by simp))
  have HF2 := Lib.hid (HF.out.then0 f2)
  clear x0 x1 x2 x3 x4 x5 x6 p0 p1 p2 p3 p4 p5 p6
  obtain ⟨x0, x1, x2, x3, x4, x5, x6, p0, p1, p2, p3, p4, p5, p6⟩ := HB2.out.cells
  obtain ⟨wn1, hwn1, fn1, qn1, zn1⟩ : ∃ W, w2.setCell ⟨w.heap.size, 1, none⟩ (.slice b1 m.q.length l1) = W ∧ Fr [] w W ∧ W.heap[w.heap.size]? = some (.cells #[.int .i64 m.c, .slice b1 m.q.length l1, .bool m.busy, .slice a2 m.rest.length k2, .int .i64 m.acc, .int .i64 m.w, .int .i64 m.r] 41 (0, 0)) ∧ S7 W (w.heap.size + 1) 0 none 0 0 false none 0 0 0 0 0 := ⟨_, rfl, Fr.setCell (p := ⟨w.heap.size, 1, none⟩) (HF2.out) (.inr (Nat.le_refl _)) (.slice b1 m.q.length l1), (by have hx := heap_setCell_eq (i := 1) (u := .slice b1 m.q.length l1) (HB2.out); simpa [S7] using hx), keepS (a := ⟨w.heap.size, 1, none⟩) (v := .slice b1 m.q.length l1) (HZ2.out) (by dsimp only; omega)⟩
  have xn1_0 : wn1.cell? ⟨w.heap.size, 0, none⟩ = some (.int .i64 m.c) := cell_of qn1
  have xn1_1 : wn1.cell? ⟨w.heap.size, 1, none⟩ = some (.slice b1 m.q.length l1) := cell_of qn1
  have xn1_2 : wn1.cell? ⟨w.heap.size, 2, none⟩ = some (.bool m.busy) := cell_of qn1
  have xn1_3 : wn1.cell? ⟨w.heap.size, 3, none⟩ = some (.slice a2 m.rest.length k2) := cell_of qn1
  have xn1_4 : wn1.cell? ⟨w.heap.size, 4, none⟩ = some (.int .i64 m.acc) := cell_of qn1
  have xn1_5 : wn1.cell? ⟨w.heap.size, 5, none⟩ = some (.int .i64 m.w) := cell_of qn1
  have xn1_6 : wn1.cell? ⟨w.heap.size, 6, none⟩ = some (.int .i64 m.r) := cell_of qn1
  have pn1_0 : wn1.frozen? ⟨w.heap.size, 0, none⟩ = false := free_of qn1
  have pn1_1 : wn1.frozen? ⟨w.heap.size, 1, none⟩ = false := free_of qn1
  have pn1_2 : wn1.frozen? ⟨w.heap.size, 2, none⟩ = false := free_of qn1
  have pn1_3 : wn1.frozen? ⟨w.heap.size, 3, none⟩ = false := free_of qn1
  have pn1_4 : wn1.frozen? ⟨w.heap.size, 4, none⟩ = false := free_of qn1
  have pn1_5 : wn1.frozen? ⟨w.heap.size, 5, none⟩ = false := free_of qn1
  have pn1_6 : wn1.frozen? ⟨w.heap.size, 6, none⟩ = false := free_of qn1
  have HZS := Lib.hid (zn1)
  have HFS := Lib.hid (fn1)
  have HQN1 := Lib.hid (And.intro qn1 (And.intro zn1 fn1))
  clear qn1 zn1 fn1
  have g1 : Fr [w.heap.size] w2 wn1 := by rw [← hwn1]; exact Fr.setCell (p := ⟨w.heap.size, 1, none⟩) (Fr.refl _ _) (.inl (by simp)) (.slice b1 m.q.length l1)
  have HO1 := Lib.hid (o2'.keep g1 (fun k e hm => by have := (o2'.lt k e).1; simp at hm; omega))
  have HZn := Lib.hid g1.size
  have HL2k := Lib.hid fun k (e : (Value.slice b1 m.q.length l1).ownBlock = some k) => (o2'.lt k e).2
  clear o2 o2' g1
  go_wp2_with (refine wpList_append_fr _ rfl (.const (.slice none 0 0)) (.tmp 8) 29 rfl 5 (.int .u8 0) 1 HU.out HIN.out rfl wn1.heap.size (.slice none 0 0) [] (by exact rfl) (Ow.nil _ _ _) a2 m.rest.length k2 _ (by exact rfl) HL2.out ((sl_keep HS2.out HFS.out (by simp)).toV) (bytes_one _) HX2.out HY2.out (Nat.le_refl _) ?_)
  intro v4 w4 o4 f4' hb4
  have f4 : Fr [] wn1 w4 := f4'
  clear f4'
  have o4' : Ow w4 wn1.heap.size 5 v4 ((bi m.rest).map (Value.int .u8)) := o4.out
  obtain ⟨b2, l2, rfl, _⟩ := o4'.formB
  have HB4 := Lib.hid (show S7 w4 w.heap.size m.c b1 m.q.length l1 m.busy a2 m.rest.length k2 m.acc m.w m.r from f4.keep HQN1.out.1 (by simp))
  have HZ4 := Lib.hid (show S7 w4 (w.heap.size + 1) 0 none 0 0 false none 0 0 0 0 0 from f4.keep HZS.out (by simp))
  have HF4 := Lib.hid (HFS.out.then0 f4)
  clear x0 x1 x2 x3 x4 x5 x6 p0 p1 p2 p3 p4 p5 p6 xn1_0 pn1_0 xn1_1 pn1_1 xn1_2 pn1_2 xn1_3 pn1_3 xn1_4 pn1_4 xn1_5 pn1_5 xn1_6 pn1_6
  obtain ⟨x0, x1, x2, x3, x4, x5, x6, p0, p1, p2, p3, p4, p5, p6⟩ := HB4.out.cells
  obtain ⟨wk1, hwk1, fk1, qk1, zk1⟩ : ∃ W, w4.setCell ⟨w.heap.size, 3, none⟩ (.slice b2 m.rest.length l2) = W ∧ Fr [] w W ∧ W.heap[w.heap.size]? = some (.cells #[.int .i64 m.c, .slice b1 m.q.length l1, .bool m.busy, .slice b2 m.rest.length l2, .int .i64 m.acc, .int .i64 m.w, .int .i64 m.r] 41 (0, 0)) ∧ S7 W (w.heap.size + 1) 0 none 0 0 false none 0 0 0 0 0 := ⟨_, rfl, Fr.setCell (p := ⟨w.heap.size, 3, none⟩) (HF4.out) (.inr (Nat.le_refl _)) (.slice b2 m.rest.length l2), (by have hx := heap_setCell_eq (i := 3) (u := .slice b2 m.rest.length l2) (HB4.out); simpa [S7] using hx), keepS (a := ⟨w.heap.size, 3, none⟩) (v := .slice b2 m.rest.length l2) (HZ4.out) (by dsimp only; omega)⟩
  have xk1_0 : wk1.cell? ⟨w.heap.size, 0, none⟩ = some (.int .i64 m.c) := cell_of qk1
  have xk1_1 : wk1.cell? ⟨w.heap.size, 1, none⟩ = some (.slice b1 m.q.length l1) := cell_of qk1
  have xk1_2 : wk1.cell? ⟨w.heap.size, 2, none⟩ = some (.bool m.busy) := cell_of qk1
  have xk1_3 : wk1.cell? ⟨w.heap.size, 3, none⟩ = some (.slice b2 m.rest.length l2) := cell_of qk1
  have xk1_4 : wk1.cell? ⟨w.heap.size, 4, none⟩ = some (.int .i64 m.acc) := cell_of qk1
  have xk1_5 : wk1.cell? ⟨w.heap.size, 5, none⟩ = some (.int .i64 m.w) := cell_of qk1
  have xk1_6 : wk1.cell? ⟨w.heap.size, 6, none⟩ = some (.int .i64 m.r) := cell_of qk1
  have pk1_0 : wk1.frozen? ⟨w.heap.size, 0, none⟩ = false := free_of qk1
  have pk1_1 : wk1.frozen? ⟨w.heap.size, 1, none⟩ = false := free_of qk1
  have pk1_2 : wk1.frozen? ⟨w.heap.size, 2, none⟩ = false := free_of qk1
  have pk1_3 : wk1.frozen? ⟨w.heap.size, 3, none⟩ = false := free_of qk1
  have pk1_4 : wk1.frozen? ⟨w.heap.size, 4, none⟩ = false := free_of qk1
  have pk1_5 : wk1.frozen? ⟨w.heap.size, 5, none⟩ = false := free_of qk1
  have pk1_6 : wk1.frozen? ⟨w.heap.size, 6, none⟩ = false := free_of qk1
  have HZS := Lib.hid (zk1)
  have HFS := Lib.hid (fk1)
  have HQK1 := Lib.hid (And.intro qk1 (And.intro zk1 fk1))
  clear qk1 zk1 fk1
  have g2 : Fr [w.heap.size] w4 wk1 := by rw [← hwk1]; exact Fr.setCell (p := ⟨w.heap.size, 3, none⟩) (Fr.refl _ _) (.inl (by simp)) (.slice b2 m.rest.length l2)
  have hz4 := HZn.out
  have hz5 := f2.size
  have hz6 := f4.size
  have hz7 := g2.size
  have HO2 := Lib.hid (o4'.keep g2 (fun k e hm => by have := (o4'.lt k e).1; simp at hm; omega))
  have HO3 := Lib.hid ((HO1.out.keep f4 (by simp)).keep g2 (fun k e hm => by have := (HO1.out.lt k e).1; simp at hm; omega))
  have HDJ := Lib.hid (show ∀ x, (Value.slice b1 m.q.length l1).ownBlock = some x → (Value.slice b2 m.rest.length l2).ownBlock ≠ some x from fun x e e' => by have := HL2k.out x e; have := (o4'.lt x e').1; omega)
  clear o4 o4' g2 HO1
  go_wp2_with (refine wpl_store rfl 41 _ _ rfl (w.heap.size + 1) #[.int .i64 m.c, .slice b1 m.q.length l1, .bool m.busy, .slice b2 m.rest.length l2, .int .i64 m.acc, .int .i64 m.w, .int .i64 m.r] (by rfl) (by rfl) _ _ HZS.out (by kernel_rfl) rfl (by simp [Value.oneCell']) ?_)
  intro wf ff qf
  obtain ⟨y0, y1, y2, y3, y4, y5, y6, _, _, _, _, _, _, _⟩ := S7.cells qf
  clear x0 x1 x2 x3 x4 x5 x6 p0 p1 p2 p3 p4 p5 p6
  go_wp2_with fail
  refine bodyPost_ret (v := .agg #[.int .i64 m.c, .slice b1 m.q.length l1, .bool m.busy, .slice b2 m.rest.length l2, .int .i64 m.acc, .int .i64 m.w, .int .i64 m.r]) (by simp [results, Try.results44, go_sem, y0, y1, y2, y3, y4, y5, y6]) rfl ?_
  have F : Fr [] w wf := Fr.trans (U := []) (S := []) HFS.out ff (by simp) (fun x hx => .inr (by simp at hx; omega))
  exact ⟨_, rfl, F, _, _, rfl, (HO3.out.keep ff (fun k e hm => by have := (HO3.out.lt k e).1; simp at hm; omega)).mono (by omega), (HO2.out.keep ff (fun k e hm => by have := (HO2.out.lt k e).1; simp at hm; omega)).mono (by omega), HDJ.out⟩

end Go.Proofs.Ytdoamelhclnphaa
