/-
  The reference of layer 14: Copy.
-/
import Derived.Test.YtdoamelhclnphaaRefD14
namespace Go.Proofs.Ytdoamelhclnphaa
open Go.RowKit
set_option maxRecDepth 100000

/-- A state whose bytes are the call's own, in two rows. -/
def SvD (w : World) (M : Nat) (v : Value) (m : SM) : Prop :=
  ∃ u1 u2, v = .agg #[.int .i64 m.c, u1, .bool m.busy, u2, .int .i64 m.acc, .int .i64 m.w, .int .i64 m.r] ∧ Ow w M 5 u1 ((bi m.q).map (Value.int .u8)) ∧ Ow w M 5 u2 ((bi m.rest).map (Value.int .u8)) ∧ ∀ x, u1.ownBlock = some x → u2.ownBlock ≠ some x
theorem SvD.sv {w : World} {M : Nat} {v : Value} {m : SM} (h : SvD w M v m) : Sv w (fun x => M ≤ x) v m := by
  obtain ⟨u1, u2, h1, h2, h3, _⟩ := h
  exact ⟨u1, u2, h1, PartV.ofOw h2, PartV.ofOw h3⟩
set_option maxHeartbeats 1000000 in
theorem r_copy {w : World} {N : Nat → Prop} {v : Value} {m : SM} (h : Sv w N v m) (HB0 : m.q.length ≤ 1000000 ∧ m.rest.length ≤ 1000000) :
    Calls Try.prog 44 #[v] w fun e w' => ∃ v', e = .returned v' ∧ Fr [] w w' ∧ SvD w' w.heap.size v' m := by
  obtain ⟨u1, u2, rfl, hq, hr⟩ := h
  obtain ⟨a1, k1, rfl, _⟩ := id hq
  obtain ⟨a2, k2, rfl, _⟩ := id hr
  have HQ := Lib.hid (And.intro hq hr)
  clear hq hr
  have h1 := HB0.1
  have h2 := HB0.2
  have HU : Hid (Try.prog.underlying 29 = some (.slice 5)) := Lib.hid Try.underlying29
  have HIN : Hid ((Try.prog.info? 5).map (fun i => (i.zero, i.size, i.bytes)) = some (some (.int .u8 0), 1, 1)) := Lib.hid (by kernel_rfl)
  have HL1 : Hid (((bi m.q).map (Value.int .u8)).length = m.q.length) := Lib.hid (by simp [bi_length])
  have HX1 : Hid (([] : List Value).length + m.q.length ≤ maxLen) := Lib.hid (by unfold maxLen; simp; omega)
  have HY1 : Hid ((([] : List Value).length + m.q.length) * 1 ≤ 140737488355328) := Lib.hid (by simp; omega)
  have HL2 : Hid (((bi m.rest).map (Value.int .u8)).length = m.rest.length) := Lib.hid (by simp [bi_length])
  have HX2 : Hid (([] : List Value).length + m.rest.length ≤ maxLen) := Lib.hid (by unfold maxLen; simp; omega)
  have HY2 : Hid ((([] : List Value).length + m.rest.length) * 1 ≤ 140737488355328) := Lib.hid (by simp; omega)
  have HS1 := Lib.hid (show Sl w a1 (bi m.q) from by obtain ⟨x, y, e, _, _, hs, _⟩ := HQ.out.1; injection e with e1 e2 e3; subst e1; exact hs)
  have HS2 := Lib.hid (show Sl w a2 (bi m.rest) from by obtain ⟨x, y, e, _, _, hs, _⟩ := HQ.out.2; injection e with e1 e2 e3; subst e1; exact hs)
  clear h1 h2 HB0
  obtain ⟨w0, hw0, f0, q0, z0⟩ : ∃ W, (w.alloc (.cells #[.int .i64 m.c, .slice a1 m.q.length k1, .bool m.busy, .slice a2 m.rest.length k2, .int .i64 m.acc, .int .i64 m.w, .int .i64 m.r] 41)).alloc (.cells #[.int .i64 0, .slice none 0 0, .bool false, .slice none 0 0, .int .i64 0, .int .i64 0, .int .i64 0] 41) = W ∧ Fr [] w W ∧ S7 W w.heap.size m.c a1 m.q.length k1 m.busy a2 m.rest.length k2 m.acc m.w m.r ∧ S7 W (w.heap.size + 1) 0 none 0 0 false none 0 0 0 0 0 := ⟨_, rfl, ((Fr.refl _ _).alloc _).alloc _, keepA (newA rfl), newA (by simp)⟩
  obtain ⟨x0, x1, x2, x3, x4, x5, x6, p0, p1, p2, p3, p4, p5, p6⟩ := q0.cells
  have hz0 : w.heap.size + 1 < w0.heap.size := lt_of_heap z0
  have HZ := Lib.hid z0
  have HF := Lib.hid f0
  have HB := Lib.hid q0
  clear q0 z0 f0
  go_enter Try.func44, Try.ntmps44
  go_wp2_with (refine wpList_append_fr _ rfl (.const (.slice none 0 0)) (.tmp 4) 29 rfl 5 (.int .u8 0) 1 HU.out HIN.out rfl w0.heap.size (.slice none 0 0) [] (by exact rfl) (Ow.nil _ _ _) a1 m.q.length k1 _ (by exact rfl) HL1.out ((sl_keep HS1.out HF.out (by simp)).toV) (bytes_one _) HX1.out HY1.out (Nat.le_refl _) ?_)
  intro v2 w2 o2 f2' hb2
  have f2 : Fr [] w0 w2 := f2'
  clear f2'
  have o2' : Ow w2 w0.heap.size 5 v2 ((bi m.q).map (Value.int .u8)) := o2.out
  obtain ⟨b1, l1, rfl, _⟩ := o2'.formB
  have HB2 := Lib.hid (show S7 w2 w.heap.size m.c a1 m.q.length k1 m.busy a2 m.rest.length k2 m.acc m.w m.r from f2.keep HB.out (by simp))
  have HZ2 := Lib.hid (show S7 w2 (w.heap.size + 1) 0 none 0 0 false none 0 0 0 0 0 from f2.keep HZ.out (by simp))
  have HF2 := Lib.hid (HF.out.then0 f2)
  clear x0 x1 x2 x3 x4 x5 x6 p0 p1 p2 p3 p4 p5 p6
  obtain ⟨x0, x1, x2, x3, x4, x5, x6, p0, p1, p2, p3, p4, p5, p6⟩ := HB2.out.cells
  obtain ⟨wn1, hwn1, fn1, qn1, zn1⟩ : ∃ W, w2.setCell ⟨w.heap.size, 1, none⟩ (.slice b1 m.q.length l1) = W ∧ Fr [] w W ∧ W.heap[w.heap.size]? = some (.cells #[.int .i64 m.c, .slice b1 m.q.length l1, .bool m.busy, .slice a2 m.rest.length k2, .int .i64 m.acc, .int .i64 m.w, .int .i64 m.r] 41 (0, 0)) ∧ S7 W (w.heap.size + 1) 0 none 0 0 false none 0 0 0 0 0 := ⟨_, rfl, Fr.setCell (p := ⟨w.heap.size, 1, none⟩) (HF2.out) (.inr (Nat.le_refl _)) (.slice b1 m.q.length l1), (by have hx := heap_setCell_eq (i := 1) (u := .slice b1 m.q.length l1) (HB2.out); simpa [S7] using hx), keepS (a := ⟨w.heap.size, 1, none⟩) (v := .slice b1 m.q.length l1) (HZ2.out) (by dsimp only; omega)⟩
  have xn1_0 : wn1.cell? ⟨w.heap.size, 0, none⟩ = some (.int .i64 m.c) := cell_of qn1
  have xn1_1 : wn1.cell? ⟨w.heap.size, 1, none⟩ = some (.slice b1 m.q.length l1) := cell_of qn1
  have xn1_2 : wn1.cell? ⟨w.heap.size, 2, none⟩ = some (.bool m.busy) := cell_of qn1
  have xn1_3 : wn1.cell? ⟨w.heap.size, 3, none⟩ = some (.slice a2 m.rest.length k2) := cell_of qn1
  have xn1_4 : wn1.cell? ⟨w.heap.size, 4, none⟩ = some (.int .i64 m.acc) := cell_of qn1
  have xn1_5 : wn1.cell? ⟨w.heap.size, 5, none⟩ = some (.int .i64 m.w) := cell_of qn1
  have xn1_6 : wn1.cell? ⟨w.heap.size, 6, none⟩ = some (.int .i64 m.r) := cell_of qn1
  have pn1_0 : wn1.frozen? ⟨w.heap.size, 0, none⟩ = false := free_of qn1
  have pn1_1 : wn1.frozen? ⟨w.heap.size, 1, none⟩ = false := free_of qn1
  have pn1_2 : wn1.frozen? ⟨w.heap.size, 2, none⟩ = false := free_of qn1
  have pn1_3 : wn1.frozen? ⟨w.heap.size, 3, none⟩ = false := free_of qn1
  have pn1_4 : wn1.frozen? ⟨w.heap.size, 4, none⟩ = false := free_of qn1
  have pn1_5 : wn1.frozen? ⟨w.heap.size, 5, none⟩ = false := free_of qn1
  have pn1_6 : wn1.frozen? ⟨w.heap.size, 6, none⟩ = false := free_of qn1
  have HZS := Lib.hid (zn1)
  have HFS := Lib.hid (fn1)
  have HQN1 := Lib.hid (And.intro qn1 (And.intro zn1 fn1))
  clear qn1 zn1 fn1
  have g1 : Fr [w.heap.size] w2 wn1 := by rw [← hwn1]; exact Fr.setCell (p := ⟨w.heap.size, 1, none⟩) (Fr.refl _ _) (.inl (by simp)) (.slice b1 m.q.length l1)
  have HO1 := Lib.hid (o2'.keep g1 (fun k e hm => by have := (o2'.lt k e).1; simp at hm; omega))
  have HZn := Lib.hid g1.size
  have HL2k := Lib.hid fun k (e : (Value.slice b1 m.q.length l1).ownBlock = some k) => (o2'.lt k e).2
  clear o2 o2' g1
  go_wp2_with (refine wpList_append_fr _ rfl (.const (.slice none 0 0)) (.tmp 8) 29 rfl 5 (.int .u8 0) 1 HU.out HIN.out rfl wn1.heap.size (.slice none 0 0) [] (by exact rfl) (Ow.nil _ _ _) a2 m.rest.length k2 _ (by exact rfl) HL2.out ((sl_keep HS2.out HFS.out (by simp)).toV) (bytes_one _) HX2.out HY2.out (Nat.le_refl _) ?_)
  intro v4 w4 o4 f4' hb4
  have f4 : Fr [] wn1 w4 := f4'
  clear f4'
  have o4' : Ow w4 wn1.heap.size 5 v4 ((bi m.rest).map (Value.int .u8)) := o4.out
  obtain ⟨b2, l2, rfl, _⟩ := o4'.formB
  have HB4 := Lib.hid (show S7 w4 w.heap.size m.c b1 m.q.length l1 m.busy a2 m.rest.length k2 m.acc m.w m.r from f4.keep HQN1.out.1 (by simp))
  have HZ4 := Lib.hid (show S7 w4 (w.heap.size + 1) 0 none 0 0 false none 0 0 0 0 0 from f4.keep HZS.out (by simp))
  have HF4 := Lib.hid (HFS.out.then0 f4)
  clear x0 x1 x2 x3 x4 x5 x6 p0 p1 p2 p3 p4 p5 p6 xn1_0 pn1_0 xn1_1 pn1_1 xn1_2 pn1_2 xn1_3 pn1_3 xn1_4 pn1_4 xn1_5 pn1_5 xn1_6 pn1_6
  obtain ⟨x0, x1, x2, x3, x4, x5, x6, p0, p1, p2, p3, p4, p5, p6⟩ := HB4.out.cells
  obtain ⟨wk1, hwk1, fk1, qk1, zk1⟩ : ∃ W, w4.setCell ⟨w.heap.size, 3, none⟩ (.slice b2 m.rest.length l2) = W ∧ Fr [] w W ∧ W.heap[w.heap.size]? = some (.cells #[.int .i64 m.c, .slice b1 m.q.length l1, .bool m.busy, .slice b2 m.rest.length l2, .int .i64 m.acc, .int .i64 m.w, .int .i64 m.r] 41 (0, 0)) ∧ S7 W (w.heap.size + 1) 0 none 0 0 false none 0 0 0 0 0 := ⟨_, rfl, Fr.setCell (p := ⟨w.heap.size, 3, none⟩) (HF4.out) (.inr (Nat.le_refl _)) (.slice b2 m.rest.length l2), (by have hx := heap_setCell_eq (i := 3) (u := .slice b2 m.rest.length l2) (HB4.out); simpa [S7] using hx), keepS (a := ⟨w.heap.size, 3, none⟩) (v := .slice b2 m.rest.length l2) (HZ4.out) (by dsimp only; omega)⟩
  have xk1_0 : wk1.cell? ⟨w.heap.size, 0, none⟩ = some (.int .i64 m.c) := cell_of qk1
  have xk1_1 : wk1.cell? ⟨w.heap.size, 1, none⟩ = some (.slice b1 m.q.length l1) := cell_of qk1
  have xk1_2 : wk1.cell? ⟨w.heap.size, 2, none⟩ = some (.bool m.busy) := cell_of qk1
  have xk1_3 : wk1.cell? ⟨w.heap.size, 3, none⟩ = some (.slice b2 m.rest.length l2) := cell_of qk1
  have xk1_4 : wk1.cell? ⟨w.heap.size, 4, none⟩ = some (.int .i64 m.acc) := cell_of qk1
  have xk1_5 : wk1.cell? ⟨w.heap.size, 5, none⟩ = some (.int .i64 m.w) := cell_of qk1
  have xk1_6 : wk1.cell? ⟨w.heap.size, 6, none⟩ = some (.int .i64 m.r) := cell_of qk1
  have pk1_0 : wk1.frozen? ⟨w.heap.size, 0, none⟩ = false := free_of qk1
  have pk1_1 : wk1.frozen? ⟨w.heap.size, 1, none⟩ = false := free_of qk1
  have pk1_2 : wk1.frozen? ⟨w.heap.size, 2, none⟩ = false := free_of qk1
  have pk1_3 : wk1.frozen? ⟨w.heap.size, 3, none⟩ = false := free_of qk1
  have pk1_4 : wk1.frozen? ⟨w.heap.size, 4, none⟩ = false := free_of qk1
  have pk1_5 : wk1.frozen? ⟨w.heap.size, 5, none⟩ = false := free_of qk1
  have pk1_6 : wk1.frozen? ⟨w.heap.size, 6, none⟩ = false := free_of qk1
  have HZS := Lib.hid (zk1)
  have HFS := Lib.hid (fk1)
  have HQK1 := Lib.hid (And.intro qk1 (And.intro zk1 fk1))
  clear qk1 zk1 fk1
  have g2 : Fr [w.heap.size] w4 wk1 := by rw [← hwk1]; exact Fr.setCell (p := ⟨w.heap.size, 3, none⟩) (Fr.refl _ _) (.inl (by simp)) (.slice b2 m.rest.length l2)
  have hz4 := HZn.out
  have hz5 := f2.size
  have hz6 := f4.size
  have hz7 := g2.size
  have HO2 := Lib.hid (o4'.keep g2 (fun k e hm => by have := (o4'.lt k e).1; simp at hm; omega))
  have HO3 := Lib.hid ((HO1.out.keep f4 (by simp)).keep g2 (fun k e hm => by have := (HO1.out.lt k e).1; simp at hm; omega))
  have HDJ := Lib.hid (show ∀ x, (Value.slice b1 m.q.length l1).ownBlock = some x → (Value.slice b2 m.rest.length l2).ownBlock ≠ some x from fun x e e' => by have := HL2k.out x e; have := (o4'.lt x e').1; omega)
  clear o4 o4' g2 HO1
  go_wp2_with (refine wpl_store rfl 41 _ _ rfl (w.heap.size + 1) #[.int .i64 m.c, .slice b1 m.q.length l1, .bool m.busy, .slice b2 m.rest.length l2, .int .i64 m.acc, .int .i64 m.w, .int .i64 m.r] (by rfl) (by rfl) _ _ HZS.out (by kernel_rfl) rfl (by simp [Value.oneCell']) ?_)
  intro wf ff qf
  obtain ⟨y0, y1, y2, y3, y4, y5, y6, _, _, _, _, _, _, _⟩ := S7.cells qf
  clear x0 x1 x2 x3 x4 x5 x6 p0 p1 p2 p3 p4 p5 p6
  go_wp2_with fail
  refine bodyPost_ret (v := .agg #[.int .i64 m.c, .slice b1 m.q.length l1, .bool m.busy, .slice b2 m.rest.length l2, .int .i64 m.acc, .int .i64 m.w, .int .i64 m.r]) (by simp [results, Try.results44, go_sem, y0, y1, y2, y3, y4, y5, y6]) rfl ?_
  have F : Fr [] w wf := Fr.trans (U := []) (S := []) HFS.out ff (by simp) (fun x hx => .inr (by simp at hx; omega))
  exact ⟨_, rfl, F, _, _, rfl, (HO3.out.keep ff (fun k e hm => by have := (HO3.out.lt k e).1; simp at hm; omega)).mono (by omega), (HO2.out.keep ff (fun k e hm => by have := (HO2.out.lt k e).1; simp at hm; omega)).mono (by omega), HDJ.out⟩

end Go.Proofs.Ytdoamelhclnphaa
