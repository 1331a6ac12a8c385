/-
  The reference of law 22 (a splice as a value); the contract of its Next.
-/
import Derived.Test.YtodpkdbcdbdjfaaSpOps
import Derived.Test.YtodpkdbcdbdjfaaRef21b
namespace Go.Proofs.Ytodpkdbcdbdjfaa
open Go.RowKit
set_option maxRecDepth 100000

/-- A splice of the reference, as a value. -/
def Rsp (w : World) (N : Nat → Prop) (v : Value) (s : SS) : Prop :=
  ∃ a0 k0 a1 k1, v = .agg #[.int .i64 s.t0.stage, .int .i64 s.t0.limit, .int .i64 s.t0.rd, .int .i64 s.t0.wr, .slice a0 s.t0.s.length k0, .int .i64 s.t0.r, .int .i64 s.t0.w, .int .i64 s.t1.stage, .int .i64 s.t1.limit, .int .i64 s.t1.rd, .int .i64 s.t1.wr, .slice a1 s.t1.s.length k1, .int .i64 s.t1.r, .int .i64 s.t1.w, .bool s.c0, .bool s.c1, .int .i64 s.first] ∧ Rv w N (.agg #[.int .i64 s.t0.stage, .int .i64 s.t0.limit, .int .i64 s.t0.rd, .int .i64 s.t0.wr, .slice a0 s.t0.s.length k0, .int .i64 s.t0.r, .int .i64 s.t0.w]) s.t0 ∧ Rv w N (.agg #[.int .i64 s.t1.stage, .int .i64 s.t1.limit, .int .i64 s.t1.rd, .int .i64 s.t1.wr, .slice a1 s.t1.s.length k1, .int .i64 s.t1.r, .int .i64 s.t1.w]) s.t1
theorem Rsp.keep {w w' : World} {N : Nat → Prop} {v : Value} {s : SS} (h : Rsp w N v s) {S : List Nat} (f : Fr S w w') (hS : ∀ x ∈ S, ¬ N x) : Rsp w' N v s := by
  obtain ⟨a0, k0, a1, k1, e, h0, h1⟩ := h
  exact ⟨a0, k0, a1, k1, e, h0.keep f hS, h1.keep f hS⟩
theorem Rsp.mono {w : World} {N N' : Nat → Prop} {v : Value} {s : SS} (h : Rsp w N v s) (hN : ∀ x, N x → N' x) : Rsp w N' v s := by
  obtain ⟨a0, k0, a1, k1, e, h0, h1⟩ := h
  exact ⟨a0, k0, a1, k1, e, h0.mono hN, h1.mono hN⟩
theorem Rsp.there {w : World} {N : Nat → Prop} {v : Value} {s : SS} (h : Rsp w N v s) : Rsp w (fun b => N b ∧ b < w.heap.size) v s := by
  obtain ⟨a0, k0, a1, k1, e, h0, h1⟩ := h
  exact ⟨a0, k0, a1, k1, e, h0.there, h1.there⟩
/-- Its box. -/
def SB (w : World) (b : Nat) (v0 v1 v2 v3 v4 v5 v6 v7 v8 v9 v10 v11 v12 v13 v14 v15 v16 : Value) : Prop := w.heap[b]? = some (.cells #[v0, v1, v2, v3, v4, v5, v6, v7, v8, v9, v10, v11, v12, v13, v14, v15, v16] 95 (0, 0))
structure SC (w : World) (b : Nat) (v0 v1 v2 v3 v4 v5 v6 v7 v8 v9 v10 v11 v12 v13 v14 v15 v16 : Value) : Prop where
  c0 : w.cell? ⟨b, 0, none⟩ = some v0
  f0 : w.frozen? ⟨b, 0, none⟩ = false
  c1 : w.cell? ⟨b, 1, none⟩ = some v1
  f1 : w.frozen? ⟨b, 1, none⟩ = false
  c2 : w.cell? ⟨b, 2, none⟩ = some v2
  f2 : w.frozen? ⟨b, 2, none⟩ = false
  c3 : w.cell? ⟨b, 3, none⟩ = some v3
  f3 : w.frozen? ⟨b, 3, none⟩ = false
  c4 : w.cell? ⟨b, 4, none⟩ = some v4
  f4 : w.frozen? ⟨b, 4, none⟩ = false
  c5 : w.cell? ⟨b, 5, none⟩ = some v5
  f5 : w.frozen? ⟨b, 5, none⟩ = false
  c6 : w.cell? ⟨b, 6, none⟩ = some v6
  f6 : w.frozen? ⟨b, 6, none⟩ = false
  c7 : w.cell? ⟨b, 7, none⟩ = some v7
  f7 : w.frozen? ⟨b, 7, none⟩ = false
  c8 : w.cell? ⟨b, 8, none⟩ = some v8
  f8 : w.frozen? ⟨b, 8, none⟩ = false
  c9 : w.cell? ⟨b, 9, none⟩ = some v9
  f9 : w.frozen? ⟨b, 9, none⟩ = false
  c10 : w.cell? ⟨b, 10, none⟩ = some v10
  f10 : w.frozen? ⟨b, 10, none⟩ = false
  c11 : w.cell? ⟨b, 11, none⟩ = some v11
  f11 : w.frozen? ⟨b, 11, none⟩ = false
  c12 : w.cell? ⟨b, 12, none⟩ = some v12
  f12 : w.frozen? ⟨b, 12, none⟩ = false
  c13 : w.cell? ⟨b, 13, none⟩ = some v13
  f13 : w.frozen? ⟨b, 13, none⟩ = false
  c14 : w.cell? ⟨b, 14, none⟩ = some v14
  f14 : w.frozen? ⟨b, 14, none⟩ = false
  c15 : w.cell? ⟨b, 15, none⟩ = some v15
  f15 : w.frozen? ⟨b, 15, none⟩ = false
  c16 : w.cell? ⟨b, 16, none⟩ = some v16
  f16 : w.frozen? ⟨b, 16, none⟩ = false
theorem SB.cells {w : World} {b : Nat} {v0 v1 v2 v3 v4 v5 v6 v7 v8 v9 v10 v11 v12 v13 v14 v15 v16 : Value} (h : SB w b v0 v1 v2 v3 v4 v5 v6 v7 v8 v9 v10 v11 v12 v13 v14 v15 v16) : SC w b v0 v1 v2 v3 v4 v5 v6 v7 v8 v9 v10 v11 v12 v13 v14 v15 v16 :=
  ⟨cell_of h, free_of h, cell_of h, free_of h, cell_of h, free_of h, cell_of h, free_of h, cell_of h, free_of h, cell_of h, free_of h, cell_of h, free_of h, cell_of h, free_of h, cell_of h, free_of h, cell_of h, free_of h, cell_of h, free_of h, cell_of h, free_of h, cell_of h, free_of h, cell_of h, free_of h, cell_of h, free_of h, cell_of h, free_of h, cell_of h, free_of h⟩
theorem sb_set {w : World} {b : Nat} {v0 v1 v2 v3 v4 v5 v6 v7 v8 v9 v10 v11 v12 v13 v14 v15 v16 u0 u1 u2 u3 u4 u5 u6 u7 u8 u9 u10 u11 u12 u13 u14 u15 u16 : Value} (h : SB w b v0 v1 v2 v3 v4 v5 v6 v7 v8 v9 v10 v11 v12 v13 v14 v15 v16) :
    ∃ W, W = (((((((((((((((((w.setCell ⟨b, 0, none⟩ u0).setCell ⟨b, 1, none⟩ u1).setCell ⟨b, 2, none⟩ u2).setCell ⟨b, 3, none⟩ u3).setCell ⟨b, 4, none⟩ u4).setCell ⟨b, 5, none⟩ u5).setCell ⟨b, 6, none⟩ u6).setCell ⟨b, 7, none⟩ u7).setCell ⟨b, 8, none⟩ u8).setCell ⟨b, 9, none⟩ u9).setCell ⟨b, 10, none⟩ u10).setCell ⟨b, 11, none⟩ u11).setCell ⟨b, 12, none⟩ u12).setCell ⟨b, 13, none⟩ u13).setCell ⟨b, 14, none⟩ u14).setCell ⟨b, 15, none⟩ u15).setCell ⟨b, 16, none⟩ u16) ∧ Fr [b] w W ∧ SB W b u0 u1 u2 u3 u4 u5 u6 u7 u8 u9 u10 u11 u12 u13 u14 u15 u16 := by
  have f : Fr [b] w (((((((((((((((((w.setCell ⟨b, 0, none⟩ u0).setCell ⟨b, 1, none⟩ u1).setCell ⟨b, 2, none⟩ u2).setCell ⟨b, 3, none⟩ u3).setCell ⟨b, 4, none⟩ u4).setCell ⟨b, 5, none⟩ u5).setCell ⟨b, 6, none⟩ u6).setCell ⟨b, 7, none⟩ u7).setCell ⟨b, 8, none⟩ u8).setCell ⟨b, 9, none⟩ u9).setCell ⟨b, 10, none⟩ u10).setCell ⟨b, 11, none⟩ u11).setCell ⟨b, 12, none⟩ u12).setCell ⟨b, 13, none⟩ u13).setCell ⟨b, 14, none⟩ u14).setCell ⟨b, 15, none⟩ u15).setCell ⟨b, 16, none⟩ u16) := (((((((((((((((((Fr.refl _ _).setCell (.inl (by simp)) _).setCell (.inl (by simp)) _).setCell (.inl (by simp)) _).setCell (.inl (by simp)) _).setCell (.inl (by simp)) _).setCell (.inl (by simp)) _).setCell (.inl (by simp)) _).setCell (.inl (by simp)) _).setCell (.inl (by simp)) _).setCell (.inl (by simp)) _).setCell (.inl (by simp)) _).setCell (.inl (by simp)) _).setCell (.inl (by simp)) _).setCell (.inl (by simp)) _).setCell (.inl (by simp)) _).setCell (.inl (by simp)) _).setCell (.inl (by simp)) _
  refine ⟨_, rfl, f, ?_⟩
  have hb := (heap_setCell_eq (i := 16) (u := u16) (heap_setCell_eq (i := 15) (u := u15) (heap_setCell_eq (i := 14) (u := u14) (heap_setCell_eq (i := 13) (u := u13) (heap_setCell_eq (i := 12) (u := u12) (heap_setCell_eq (i := 11) (u := u11) (heap_setCell_eq (i := 10) (u := u10) (heap_setCell_eq (i := 9) (u := u9) (heap_setCell_eq (i := 8) (u := u8) (heap_setCell_eq (i := 7) (u := u7) (heap_setCell_eq (i := 6) (u := u6) (heap_setCell_eq (i := 5) (u := u5) (heap_setCell_eq (i := 4) (u := u4) (heap_setCell_eq (i := 3) (u := u3) (heap_setCell_eq (i := 2) (u := u2) (heap_setCell_eq (i := 1) (u := u1) (heap_setCell_eq (i := 0) (u := u0) h)))))))))))))))))
  simp at hb
  exact hb
set_option maxHeartbeats 4000000 in
theorem rs_fail0 {w : World} {N : Nat → Prop} {s : SS} {a0 a1 : Option Addr} {k0 k1 : Nat} (h0 : Rv w N (.agg #[.int .i64 s.t0.stage, .int .i64 s.t0.limit, .int .i64 s.t0.rd, .int .i64 s.t0.wr, .slice a0 s.t0.s.length k0, .int .i64 s.t0.r, .int .i64 s.t0.w]) s.t0) (h1 : Rv w N (.agg #[.int .i64 s.t1.stage, .int .i64 s.t1.limit, .int .i64 s.t1.rd, .int .i64 s.t1.wr, .slice a1 s.t1.s.length k1, .int .i64 s.t1.r, .int .i64 s.t1.w]) s.t1) (hok : TOk s.t0) (hr : s.t0.rd ≤ 4611686018427387904)
    (hw : s.t0.w ≠ 0) (e1 : nextT s.t0 = ⟨4, 0, s.t0.wr, [], s.t0.w⟩) :
    Calls Try.prog 70 #[.agg #[.int .i64 s.t0.stage, .int .i64 s.t0.limit, .int .i64 s.t0.rd, .int .i64 s.t0.wr, .slice a0 s.t0.s.length k0, .int .i64 s.t0.r, .int .i64 s.t0.w, .int .i64 s.t1.stage, .int .i64 s.t1.limit, .int .i64 s.t1.rd, .int .i64 s.t1.wr, .slice a1 s.t1.s.length k1, .int .i64 s.t1.r, .int .i64 s.t1.w, .bool s.c0, .bool s.c1, .int .i64 s.first], .int .i64 0] w fun e w' => ∃ v, e = .returned v ∧ Fr [] w w' ∧ Wv w' w.heap.size v ⟨4, 0, s.t0.wr, [], s.t0.w⟩ := by
  obtain ⟨W0, hW0, f0, hz0, b0, q0⟩ : ∃ W, (w.alloc (.cells #[.int .i64 s.t0.stage, .int .i64 s.t0.limit, .int .i64 s.t0.rd, .int .i64 s.t0.wr, .slice a0 s.t0.s.length k0, .int .i64 s.t0.r, .int .i64 s.t0.w, .int .i64 s.t1.stage, .int .i64 s.t1.limit, .int .i64 s.t1.rd, .int .i64 s.t1.wr, .slice a1 s.t1.s.length k1, .int .i64 s.t1.r, .int .i64 s.t1.w, .bool s.c0, .bool s.c1, .int .i64 s.first] 95)).alloc (.cells #[.int .i64 0, .int .i64 0, .int .i64 0, .slice none 0 0, .int .i64 0] 32) = W ∧ Fr [] w W ∧ w.heap.size + 1 < W.heap.size ∧ WB W (w.heap.size + 1) (.int .i64 0) (.int .i64 0) (.int .i64 0) (.slice none 0 0) (.int .i64 0) ∧ SB W w.heap.size (.int .i64 s.t0.stage) (.int .i64 s.t0.limit) (.int .i64 s.t0.rd) (.int .i64 s.t0.wr) (.slice a0 s.t0.s.length k0) (.int .i64 s.t0.r) (.int .i64 s.t0.w) (.int .i64 s.t1.stage) (.int .i64 s.t1.limit) (.int .i64 s.t1.rd) (.int .i64 s.t1.wr) (.slice a1 s.t1.s.length k1) (.int .i64 s.t1.r) (.int .i64 s.t1.w) (.bool s.c0) (.bool s.c1) (.int .i64 s.first) := ⟨_, rfl, ((Fr.refl _ _).alloc _).alloc _, by simp, newA (by simp), keepA (newA rfl)⟩
  have HT := Lib.hid (rt_next (h0.keep f0 (by simp)) hok hr)
  rw [e1] at HT
  have HQ := Lib.hid fun w1 (f : Fr [] W0 w1) => (show SB w1 w.heap.size (.int .i64 s.t0.stage) (.int .i64 s.t0.limit) (.int .i64 s.t0.rd) (.int .i64 s.t0.wr) (.slice a0 s.t0.s.length k0) (.int .i64 s.t0.r) (.int .i64 s.t0.w) (.int .i64 s.t1.stage) (.int .i64 s.t1.limit) (.int .i64 s.t1.rd) (.int .i64 s.t1.wr) (.slice a1 s.t1.s.length k1) (.int .i64 s.t1.r) (.int .i64 s.t1.w) (.bool s.c0) (.bool s.c1) (.int .i64 s.first) from f.keep q0 (by simp))
  obtain ⟨dc0, df0, dc1, df1, dc2, df2, dc3, df3, dc4, df4, dc5, df5, dc6, df6, dc7, df7, dc8, df8, dc9, df9, dc10, df10, dc11, df11, dc12, df12, dc13, df13, dc14, df14, dc15, df15, dc16, df16⟩ := q0.cells
  clear h0 h1 hok hr e1 q0
  replace hw := Lib.hid hw
  go_enter Try.func70, Try.ntmps70
  go_wp2_with fail
  refine HT.out.mono ?_
  rintro e w1 ⟨v, rfl, f1, u, rfl, ou⟩
  obtain ⟨ga, gc, rfl, _⟩ := ou.formB
  have ou_lt := ou.lt
  have b1 : WB w1 (w.heap.size + 1) _ _ _ _ _ := f1.keep b0 (by simp)
  have hz1 : w.heap.size + 1 < w1.heap.size := Nat.lt_of_lt_of_le hz0 f1.size
  clear dc0 df0 dc1 df1 dc2 df2 dc3 df3 dc4 df4 dc5 df5 dc6 df6 dc7 df7 dc8 df8 dc9 df9 dc10 df10 dc11 df11 dc12 df12 dc13 df13 dc14 df14 dc15 df15 dc16 df16 b0 hW0
  try simp only [List.length_nil] at ou ⊢
  obtain ⟨w2, hw2, f2, q2⟩ : ∃ W, w1.alloc (.cells #[.int .i64 4, .int .i64 0, .int .i64 s.t0.wr, .slice ga 0 gc, .int .i64 s.t0.w] 32) = W ∧ Fr [] w1 W ∧ WB W w1.heap.size (.int .i64 4) (.int .i64 0) (.int .i64 s.t0.wr) (.slice ga 0 gc) (.int .i64 s.t0.w) := ⟨_, rfl, (Fr.refl _ _).alloc _, newA rfl⟩
  have b2 : WB w2 (w.heap.size + 1) _ _ _ _ _ := f2.keep b1 (by simp)
  have g2 := (f0.then0 f1).then0 f2
  have ou2 := ou.keep f2 (by simp)
  obtain ⟨dc0, df0, dc1, df1, dc2, df2, dc3, df3, dc4, df4, dc5, df5, dc6, df6, dc7, df7, dc8, df8, dc9, df9, dc10, df10, dc11, df11, dc12, df12, dc13, df13, dc14, df14, dc15, df15, dc16, df16⟩ := (HQ.out _ (f1.then0 f2)).cells
  have hsid : w2.setCell ⟨w1.heap.size, 4, none⟩ (.int .i64 s.t0.w) = w2 := setCell_id q2 rfl
  obtain ⟨x0, x1, x2, x3, x4, x5, x6, x7, x8, x9⟩ := q2.cells
  obtain ⟨r0, r1, r2, r3, r4, r5, r6, r7, r8, r9⟩ := b2.cells
  have hne : w1.heap.size ≠ w.heap.size + 1 := by omega
  have hne2 : w.heap.size + 1 ≠ w1.heap.size := by omega
  have hOU := Lib.hid ou2
  have hB2 := Lib.hid b2
  have hQ2 := Lib.hid q2
  have hlO : ∀ k, (Value.slice ga 0 gc).ownBlock = some k → k < w1.heap.size := fun k hk => (ou_lt k hk).2
  clear f1 f2 ou ou2 b1 b2 q2 HQ HT ou_lt
  replace hw := hw.out
  have hw' : (s.t0.w == 0) = false := by simpa using hw
  rcases Bool.eq_false_or_eq_true (s.t0.r == 13) with h13 | h13
  · skip
    go_wp2_with fail
    obtain ⟨W3, hW3, g3, q3, wv⟩ := five_fin (w := w) (k := 4) (s := 0) (n := s.t0.wr) (e := s.t0.w) (u := (.slice ga 0 gc)) (l := []) hB2.out g2 (Nat.le_succ _) (M := W0.heap.size) hOU.out hz0
    rw [← hW3]
    obtain ⟨s0, s1, s2, s3, s4, _⟩ := q3.cells
    refine bodyPost_ret (v := .agg #[.int .i64 4, .int .i64 0, .int .i64 s.t0.wr, (.slice ga 0 gc), .int .i64 s.t0.w]) (by simp [results, Try.results70, go_sem, s0, s1, s2, s3, s4]) rfl ?_
    exact ⟨_, rfl, g3, wv⟩
  · skip
    go_wp2_with fail
    obtain ⟨W3, hW3, g3, q3, wv⟩ := five_fin (w := w) (k := 4) (s := 0) (n := s.t0.wr) (e := s.t0.w) (u := (.slice ga 0 gc)) (l := []) hB2.out g2 (Nat.le_succ _) (M := W0.heap.size) hOU.out hz0
    rw [← hW3]
    obtain ⟨s0, s1, s2, s3, s4, _⟩ := q3.cells
    refine bodyPost_ret (v := .agg #[.int .i64 4, .int .i64 0, .int .i64 s.t0.wr, (.slice ga 0 gc), .int .i64 s.t0.w]) (by simp [results, Try.results70, go_sem, s0, s1, s2, s3, s4]) rfl ?_
    exact ⟨_, rfl, g3, wv⟩
set_option maxHeartbeats 4000000 in
theorem rs_done0 {w : World} {N : Nat → Prop} {s : SS} {a0 a1 : Option Addr} {k0 k1 : Nat} (h0 : Rv w N (.agg #[.int .i64 s.t0.stage, .int .i64 s.t0.limit, .int .i64 s.t0.rd, .int .i64 s.t0.wr, .slice a0 s.t0.s.length k0, .int .i64 s.t0.r, .int .i64 s.t0.w]) s.t0) (h1 : Rv w N (.agg #[.int .i64 s.t1.stage, .int .i64 s.t1.limit, .int .i64 s.t1.rd, .int .i64 s.t1.wr, .slice a1 s.t1.s.length k1, .int .i64 s.t1.r, .int .i64 s.t1.w]) s.t1) (hok : TOk s.t0) (hr : s.t0.rd ≤ 4611686018427387904)
    {er : Int} (hw : s.t0.w = 0) (hc : (s.t0.r == 13 && !s.c0) = false) (e1 : nextT s.t0 = ⟨4, 0, s.t0.wr, [], er⟩) :
    Calls Try.prog 70 #[.agg #[.int .i64 s.t0.stage, .int .i64 s.t0.limit, .int .i64 s.t0.rd, .int .i64 s.t0.wr, .slice a0 s.t0.s.length k0, .int .i64 s.t0.r, .int .i64 s.t0.w, .int .i64 s.t1.stage, .int .i64 s.t1.limit, .int .i64 s.t1.rd, .int .i64 s.t1.wr, .slice a1 s.t1.s.length k1, .int .i64 s.t1.r, .int .i64 s.t1.w, .bool s.c0, .bool s.c1, .int .i64 s.first], .int .i64 0] w fun e w' => ∃ v, e = .returned v ∧ Fr [] w w' ∧ Wv w' w.heap.size v ⟨4, 0, s.t0.wr, [], er⟩ := by
  obtain ⟨W0, hW0, f0, hz0, b0, q0⟩ : ∃ W, (w.alloc (.cells #[.int .i64 s.t0.stage, .int .i64 s.t0.limit, .int .i64 s.t0.rd, .int .i64 s.t0.wr, .slice a0 s.t0.s.length k0, .int .i64 s.t0.r, .int .i64 s.t0.w, .int .i64 s.t1.stage, .int .i64 s.t1.limit, .int .i64 s.t1.rd, .int .i64 s.t1.wr, .slice a1 s.t1.s.length k1, .int .i64 s.t1.r, .int .i64 s.t1.w, .bool s.c0, .bool s.c1, .int .i64 s.first] 95)).alloc (.cells #[.int .i64 0, .int .i64 0, .int .i64 0, .slice none 0 0, .int .i64 0] 32) = W ∧ Fr [] w W ∧ w.heap.size + 1 < W.heap.size ∧ WB W (w.heap.size + 1) (.int .i64 0) (.int .i64 0) (.int .i64 0) (.slice none 0 0) (.int .i64 0) ∧ SB W w.heap.size (.int .i64 s.t0.stage) (.int .i64 s.t0.limit) (.int .i64 s.t0.rd) (.int .i64 s.t0.wr) (.slice a0 s.t0.s.length k0) (.int .i64 s.t0.r) (.int .i64 s.t0.w) (.int .i64 s.t1.stage) (.int .i64 s.t1.limit) (.int .i64 s.t1.rd) (.int .i64 s.t1.wr) (.slice a1 s.t1.s.length k1) (.int .i64 s.t1.r) (.int .i64 s.t1.w) (.bool s.c0) (.bool s.c1) (.int .i64 s.first) := ⟨_, rfl, ((Fr.refl _ _).alloc _).alloc _, by simp, newA (by simp), keepA (newA rfl)⟩
  have HT := Lib.hid (rt_next (h0.keep f0 (by simp)) hok hr)
  rw [e1] at HT
  have HQ := Lib.hid fun w1 (f : Fr [] W0 w1) => (show SB w1 w.heap.size (.int .i64 s.t0.stage) (.int .i64 s.t0.limit) (.int .i64 s.t0.rd) (.int .i64 s.t0.wr) (.slice a0 s.t0.s.length k0) (.int .i64 s.t0.r) (.int .i64 s.t0.w) (.int .i64 s.t1.stage) (.int .i64 s.t1.limit) (.int .i64 s.t1.rd) (.int .i64 s.t1.wr) (.slice a1 s.t1.s.length k1) (.int .i64 s.t1.r) (.int .i64 s.t1.w) (.bool s.c0) (.bool s.c1) (.int .i64 s.first) from f.keep q0 (by simp))
  obtain ⟨dc0, df0, dc1, df1, dc2, df2, dc3, df3, dc4, df4, dc5, df5, dc6, df6, dc7, df7, dc8, df8, dc9, df9, dc10, df10, dc11, df11, dc12, df12, dc13, df13, dc14, df14, dc15, df15, dc16, df16⟩ := q0.cells
  clear h0 h1 hok hr e1 q0
  replace hw := Lib.hid hw
  replace hc := Lib.hid hc
  go_enter Try.func70, Try.ntmps70
  go_wp2_with fail
  refine HT.out.mono ?_
  rintro e w1 ⟨v, rfl, f1, u, rfl, ou⟩
  obtain ⟨ga, gc, rfl, _⟩ := ou.formB
  have ou_lt := ou.lt
  have b1 : WB w1 (w.heap.size + 1) _ _ _ _ _ := f1.keep b0 (by simp)
  have hz1 : w.heap.size + 1 < w1.heap.size := Nat.lt_of_lt_of_le hz0 f1.size
  clear dc0 df0 dc1 df1 dc2 df2 dc3 df3 dc4 df4 dc5 df5 dc6 df6 dc7 df7 dc8 df8 dc9 df9 dc10 df10 dc11 df11 dc12 df12 dc13 df13 dc14 df14 dc15 df15 dc16 df16 b0 hW0
  try simp only [List.length_nil] at ou ⊢
  obtain ⟨w2, hw2, f2, q2⟩ : ∃ W, w1.alloc (.cells #[.int .i64 4, .int .i64 0, .int .i64 s.t0.wr, .slice ga 0 gc, .int .i64 er] 32) = W ∧ Fr [] w1 W ∧ WB W w1.heap.size (.int .i64 4) (.int .i64 0) (.int .i64 s.t0.wr) (.slice ga 0 gc) (.int .i64 er) := ⟨_, rfl, (Fr.refl _ _).alloc _, newA rfl⟩
  have b2 : WB w2 (w.heap.size + 1) _ _ _ _ _ := f2.keep b1 (by simp)
  have g2 := (f0.then0 f1).then0 f2
  have ou2 := ou.keep f2 (by simp)
  obtain ⟨dc0, df0, dc1, df1, dc2, df2, dc3, df3, dc4, df4, dc5, df5, dc6, df6, dc7, df7, dc8, df8, dc9, df9, dc10, df10, dc11, df11, dc12, df12, dc13, df13, dc14, df14, dc15, df15, dc16, df16⟩ := (HQ.out _ (f1.then0 f2)).cells
  have hsid : w2.setCell ⟨w1.heap.size, 4, none⟩ (.int .i64 er) = w2 := setCell_id q2 rfl
  obtain ⟨x0, x1, x2, x3, x4, x5, x6, x7, x8, x9⟩ := q2.cells
  obtain ⟨r0, r1, r2, r3, r4, r5, r6, r7, r8, r9⟩ := b2.cells
  have hne : w1.heap.size ≠ w.heap.size + 1 := by omega
  have hne2 : w.heap.size + 1 ≠ w1.heap.size := by omega
  have hOU := Lib.hid ou2
  have hB2 := Lib.hid b2
  have hQ2 := Lib.hid q2
  have hlO : ∀ k, (Value.slice ga 0 gc).ownBlock = some k → k < w1.heap.size := fun k hk => (ou_lt k hk).2
  clear f1 f2 ou ou2 b1 b2 q2 HQ HT ou_lt
  replace hw := hw.out
  replace hc := hc.out
  have hw' : (s.t0.w == 0) = true := by simpa using hw
  rw [hw] at dc6
  rcases Bool.eq_false_or_eq_true (s.t0.r == 13) with h13 | h13
  rotate_left
  · skip
    go_wp2_with fail
    obtain ⟨W3, hW3, g3, q3, wv⟩ := five_fin (w := w) (k := 4) (s := 0) (n := s.t0.wr) (e := er) (u := (.slice ga 0 gc)) (l := []) hB2.out g2 (Nat.le_succ _) (M := W0.heap.size) hOU.out hz0
    rw [← hW3]
    obtain ⟨s0, s1, s2, s3, s4, _⟩ := q3.cells
    refine bodyPost_ret (v := .agg #[.int .i64 4, .int .i64 0, .int .i64 s.t0.wr, (.slice ga 0 gc), .int .i64 er]) (by simp [results, Try.results70, go_sem, s0, s1, s2, s3, s4]) rfl ?_
    exact ⟨_, rfl, g3, wv⟩
  · rw [h13, Bool.true_and] at hc
    have hc' : s.c0 = true := by simpa using hc
    rw [hc'] at dc14
    go_wp2_with fail
    obtain ⟨W3, hW3, g3, q3, wv⟩ := five_fin (w := w) (k := 4) (s := 0) (n := s.t0.wr) (e := er) (u := (.slice ga 0 gc)) (l := []) hB2.out g2 (Nat.le_succ _) (M := W0.heap.size) hOU.out hz0
    rw [← hW3]
    obtain ⟨s0, s1, s2, s3, s4, _⟩ := q3.cells
    refine bodyPost_ret (v := .agg #[.int .i64 4, .int .i64 0, .int .i64 s.t0.wr, (.slice ga 0 gc), .int .i64 er]) (by simp [results, Try.results70, go_sem, s0, s1, s2, s3, s4]) rfl ?_
    exact ⟨_, rfl, g3, wv⟩
set_option maxHeartbeats 4000000 in
theorem rs_write0 {w : World} {N : Nat → Prop} {s : SS} {a0 a1 : Option Addr} {k0 k1 : Nat} (h0 : Rv w N (.agg #[.int .i64 s.t0.stage, .int .i64 s.t0.limit, .int .i64 s.t0.rd, .int .i64 s.t0.wr, .slice a0 s.t0.s.length k0, .int .i64 s.t0.r, .int .i64 s.t0.w]) s.t0) (h1 : Rv w N (.agg #[.int .i64 s.t1.stage, .int .i64 s.t1.limit, .int .i64 s.t1.rd, .int .i64 s.t1.wr, .slice a1 s.t1.s.length k1, .int .i64 s.t1.r, .int .i64 s.t1.w]) s.t1) (hok : TOk s.t0) (hr : s.t0.rd ≤ 4611686018427387904)
    (e1 : nextT s.t0 = ⟨2, 0, 0, s.t0.s, 0⟩) :
    Calls Try.prog 70 #[.agg #[.int .i64 s.t0.stage, .int .i64 s.t0.limit, .int .i64 s.t0.rd, .int .i64 s.t0.wr, .slice a0 s.t0.s.length k0, .int .i64 s.t0.r, .int .i64 s.t0.w, .int .i64 s.t1.stage, .int .i64 s.t1.limit, .int .i64 s.t1.rd, .int .i64 s.t1.wr, .slice a1 s.t1.s.length k1, .int .i64 s.t1.r, .int .i64 s.t1.w, .bool s.c0, .bool s.c1, .int .i64 s.first], .int .i64 0] w fun e w' => ∃ v, e = .returned v ∧ Fr [] w w' ∧ Wv w' w.heap.size v ⟨2, 1, 0, s.t0.s, 0⟩ := by
  obtain ⟨W0, hW0, f0, hz0, b0, q0⟩ : ∃ W, (w.alloc (.cells #[.int .i64 s.t0.stage, .int .i64 s.t0.limit, .int .i64 s.t0.rd, .int .i64 s.t0.wr, .slice a0 s.t0.s.length k0, .int .i64 s.t0.r, .int .i64 s.t0.w, .int .i64 s.t1.stage, .int .i64 s.t1.limit, .int .i64 s.t1.rd, .int .i64 s.t1.wr, .slice a1 s.t1.s.length k1, .int .i64 s.t1.r, .int .i64 s.t1.w, .bool s.c0, .bool s.c1, .int .i64 s.first] 95)).alloc (.cells #[.int .i64 0, .int .i64 0, .int .i64 0, .slice none 0 0, .int .i64 0] 32) = W ∧ Fr [] w W ∧ w.heap.size + 1 < W.heap.size ∧ WB W (w.heap.size + 1) (.int .i64 0) (.int .i64 0) (.int .i64 0) (.slice none 0 0) (.int .i64 0) ∧ SB W w.heap.size (.int .i64 s.t0.stage) (.int .i64 s.t0.limit) (.int .i64 s.t0.rd) (.int .i64 s.t0.wr) (.slice a0 s.t0.s.length k0) (.int .i64 s.t0.r) (.int .i64 s.t0.w) (.int .i64 s.t1.stage) (.int .i64 s.t1.limit) (.int .i64 s.t1.rd) (.int .i64 s.t1.wr) (.slice a1 s.t1.s.length k1) (.int .i64 s.t1.r) (.int .i64 s.t1.w) (.bool s.c0) (.bool s.c1) (.int .i64 s.first) := ⟨_, rfl, ((Fr.refl _ _).alloc _).alloc _, by simp, newA (by simp), keepA (newA rfl)⟩
  have HT := Lib.hid (rt_next (h0.keep f0 (by simp)) hok hr)
  rw [e1] at HT
  have HQ := Lib.hid fun w1 (f : Fr [] W0 w1) => (show SB w1 w.heap.size (.int .i64 s.t0.stage) (.int .i64 s.t0.limit) (.int .i64 s.t0.rd) (.int .i64 s.t0.wr) (.slice a0 s.t0.s.length k0) (.int .i64 s.t0.r) (.int .i64 s.t0.w) (.int .i64 s.t1.stage) (.int .i64 s.t1.limit) (.int .i64 s.t1.rd) (.int .i64 s.t1.wr) (.slice a1 s.t1.s.length k1) (.int .i64 s.t1.r) (.int .i64 s.t1.w) (.bool s.c0) (.bool s.c1) (.int .i64 s.first) from f.keep q0 (by simp))
  obtain ⟨dc0, df0, dc1, df1, dc2, df2, dc3, df3, dc4, df4, dc5, df5, dc6, df6, dc7, df7, dc8, df8, dc9, df9, dc10, df10, dc11, df11, dc12, df12, dc13, df13, dc14, df14, dc15, df15, dc16, df16⟩ := q0.cells
  clear h0 h1 hok hr e1 q0
  go_enter Try.func70, Try.ntmps70
  go_wp2_with fail
  refine HT.out.mono ?_
  rintro e w1 ⟨v, rfl, f1, u, rfl, ou⟩
  obtain ⟨ga, gc, rfl, _⟩ := ou.formB
  have ou_lt := ou.lt
  have b1 : WB w1 (w.heap.size + 1) _ _ _ _ _ := f1.keep b0 (by simp)
  have hz1 : w.heap.size + 1 < w1.heap.size := Nat.lt_of_lt_of_le hz0 f1.size
  clear dc0 df0 dc1 df1 dc2 df2 dc3 df3 dc4 df4 dc5 df5 dc6 df6 dc7 df7 dc8 df8 dc9 df9 dc10 df10 dc11 df11 dc12 df12 dc13 df13 dc14 df14 dc15 df15 dc16 df16 b0 hW0
  try simp only [List.length_nil] at ou ⊢
  obtain ⟨w2, hw2, f2, q2⟩ : ∃ W, w1.alloc (.cells #[.int .i64 2, .int .i64 0, .int .i64 0, .slice ga s.t0.s.length gc, .int .i64 0] 32) = W ∧ Fr [] w1 W ∧ WB W w1.heap.size (.int .i64 2) (.int .i64 0) (.int .i64 0) (.slice ga s.t0.s.length gc) (.int .i64 0) := ⟨_, rfl, (Fr.refl _ _).alloc _, newA rfl⟩
  have b2 : WB w2 (w.heap.size + 1) _ _ _ _ _ := f2.keep b1 (by simp)
  have g2 := (f0.then0 f1).then0 f2
  have ou2 := ou.keep f2 (by simp)
  obtain ⟨dc0, df0, dc1, df1, dc2, df2, dc3, df3, dc4, df4, dc5, df5, dc6, df6, dc7, df7, dc8, df8, dc9, df9, dc10, df10, dc11, df11, dc12, df12, dc13, df13, dc14, df14, dc15, df15, dc16, df16⟩ := (HQ.out _ (f1.then0 f2)).cells
  have hsid : w2.setCell ⟨w1.heap.size, 4, none⟩ (.int .i64 0) = w2 := setCell_id q2 rfl
  obtain ⟨x0, x1, x2, x3, x4, x5, x6, x7, x8, x9⟩ := q2.cells
  obtain ⟨r0, r1, r2, r3, r4, r5, r6, r7, r8, r9⟩ := b2.cells
  have hne : w1.heap.size ≠ w.heap.size + 1 := by omega
  have hne2 : w.heap.size + 1 ≠ w1.heap.size := by omega
  have hOU := Lib.hid ou2
  have hB2 := Lib.hid b2
  have hQ2 := Lib.hid q2
  have hlO : ∀ k, (Value.slice ga s.t0.s.length gc).ownBlock = some k → k < w1.heap.size := fun k hk => (ou_lt k hk).2
  clear f1 f2 ou ou2 b1 b2 q2 HQ HT ou_lt
  go_wp2_with fail
  have hB3 : WB (w2.setCell ⟨w1.heap.size, 1, none⟩ (.int .i64 (1))) (w.heap.size + 1) _ _ _ _ _ := keepS hB2.out (by dsimp only; omega)
  have hO3 := hOU.out.keep ((Fr.refl [w1.heap.size] w2).setCell (p := ⟨w1.heap.size, 1, none⟩) (.inl (by simp)) (.int .i64 (1))) (fun k hk hm => by have := hlO k hk; simp at hm; omega)
  obtain ⟨W3, hW3, g3, q3, wv⟩ := five_fin (w := w) (k := 2) (s := 1) (n := 0) (e := 0) (u := (.slice ga s.t0.s.length gc)) (l := s.t0.s) hB3 (g2.setCell (p := ⟨w1.heap.size, 1, none⟩) (.inr (by dsimp only; omega)) (.int .i64 (1))) (Nat.le_succ _) (M := W0.heap.size) hO3 hz0
  rw [← hW3]
  obtain ⟨s0, s1, s2, s3, s4, _⟩ := q3.cells
  refine bodyPost_ret (v := .agg #[.int .i64 2, .int .i64 1, .int .i64 0, (.slice ga s.t0.s.length gc), .int .i64 0]) (by simp [results, Try.results70, go_sem, s0, s1, s2, s3, s4]) rfl ?_
  exact ⟨_, rfl, g3, wv⟩
set_option maxHeartbeats 4000000 in
theorem rs_close0 {w : World} {N : Nat → Prop} {s : SS} {a0 a1 : Option Addr} {k0 k1 : Nat} (h0 : Rv w N (.agg #[.int .i64 s.t0.stage, .int .i64 s.t0.limit, .int .i64 s.t0.rd, .int .i64 s.t0.wr, .slice a0 s.t0.s.length k0, .int .i64 s.t0.r, .int .i64 s.t0.w]) s.t0) (h1 : Rv w N (.agg #[.int .i64 s.t1.stage, .int .i64 s.t1.limit, .int .i64 s.t1.rd, .int .i64 s.t1.wr, .slice a1 s.t1.s.length k1, .int .i64 s.t1.r, .int .i64 s.t1.w]) s.t1) (hok : TOk s.t0) (hr : s.t0.rd ≤ 4611686018427387904)
    (hw : s.t0.w = 0) (h13 : s.t0.r = 13) (hc : s.c0 = false) (e1 : nextT s.t0 = ⟨4, 0, s.t0.wr, [], 0⟩) :
    Calls Try.prog 70 #[.agg #[.int .i64 s.t0.stage, .int .i64 s.t0.limit, .int .i64 s.t0.rd, .int .i64 s.t0.wr, .slice a0 s.t0.s.length k0, .int .i64 s.t0.r, .int .i64 s.t0.w, .int .i64 s.t1.stage, .int .i64 s.t1.limit, .int .i64 s.t1.rd, .int .i64 s.t1.wr, .slice a1 s.t1.s.length k1, .int .i64 s.t1.r, .int .i64 s.t1.w, .bool s.c0, .bool s.c1, .int .i64 s.first], .int .i64 0] w fun e w' => ∃ v, e = .returned v ∧ Fr [] w w' ∧ Wv w' w.heap.size v ⟨3, 1, 0, [], 0⟩ := by
  obtain ⟨W0, hW0, f0, hz0, b0, q0⟩ : ∃ W, (w.alloc (.cells #[.int .i64 s.t0.stage, .int .i64 s.t0.limit, .int .i64 s.t0.rd, .int .i64 s.t0.wr, .slice a0 s.t0.s.length k0, .int .i64 s.t0.r, .int .i64 s.t0.w, .int .i64 s.t1.stage, .int .i64 s.t1.limit, .int .i64 s.t1.rd, .int .i64 s.t1.wr, .slice a1 s.t1.s.length k1, .int .i64 s.t1.r, .int .i64 s.t1.w, .bool s.c0, .bool s.c1, .int .i64 s.first] 95)).alloc (.cells #[.int .i64 0, .int .i64 0, .int .i64 0, .slice none 0 0, .int .i64 0] 32) = W ∧ Fr [] w W ∧ w.heap.size + 1 < W.heap.size ∧ WB W (w.heap.size + 1) (.int .i64 0) (.int .i64 0) (.int .i64 0) (.slice none 0 0) (.int .i64 0) ∧ SB W w.heap.size (.int .i64 s.t0.stage) (.int .i64 s.t0.limit) (.int .i64 s.t0.rd) (.int .i64 s.t0.wr) (.slice a0 s.t0.s.length k0) (.int .i64 s.t0.r) (.int .i64 s.t0.w) (.int .i64 s.t1.stage) (.int .i64 s.t1.limit) (.int .i64 s.t1.rd) (.int .i64 s.t1.wr) (.slice a1 s.t1.s.length k1) (.int .i64 s.t1.r) (.int .i64 s.t1.w) (.bool s.c0) (.bool s.c1) (.int .i64 s.first) := ⟨_, rfl, ((Fr.refl _ _).alloc _).alloc _, by simp, newA (by simp), keepA (newA rfl)⟩
  have HT := Lib.hid (rt_next (h0.keep f0 (by simp)) hok hr)
  rw [e1] at HT
  have HQ := Lib.hid fun w1 (f : Fr [] W0 w1) => (show SB w1 w.heap.size (.int .i64 s.t0.stage) (.int .i64 s.t0.limit) (.int .i64 s.t0.rd) (.int .i64 s.t0.wr) (.slice a0 s.t0.s.length k0) (.int .i64 s.t0.r) (.int .i64 s.t0.w) (.int .i64 s.t1.stage) (.int .i64 s.t1.limit) (.int .i64 s.t1.rd) (.int .i64 s.t1.wr) (.slice a1 s.t1.s.length k1) (.int .i64 s.t1.r) (.int .i64 s.t1.w) (.bool s.c0) (.bool s.c1) (.int .i64 s.first) from f.keep q0 (by simp))
  obtain ⟨dc0, df0, dc1, df1, dc2, df2, dc3, df3, dc4, df4, dc5, df5, dc6, df6, dc7, df7, dc8, df8, dc9, df9, dc10, df10, dc11, df11, dc12, df12, dc13, df13, dc14, df14, dc15, df15, dc16, df16⟩ := q0.cells
  clear h0 h1 hok hr e1 q0
  replace hw := Lib.hid hw
  replace h13 := Lib.hid h13
  replace hc := Lib.hid hc
  go_enter Try.func70, Try.ntmps70
  go_wp2_with fail
  refine HT.out.mono ?_
  rintro e w1 ⟨v, rfl, f1, u, rfl, ou⟩
  obtain ⟨ga, gc, rfl, _⟩ := ou.formB
  have ou_lt := ou.lt
  have b1 : WB w1 (w.heap.size + 1) _ _ _ _ _ := f1.keep b0 (by simp)
  have hz1 : w.heap.size + 1 < w1.heap.size := Nat.lt_of_lt_of_le hz0 f1.size
  clear dc0 df0 dc1 df1 dc2 df2 dc3 df3 dc4 df4 dc5 df5 dc6 df6 dc7 df7 dc8 df8 dc9 df9 dc10 df10 dc11 df11 dc12 df12 dc13 df13 dc14 df14 dc15 df15 dc16 df16 b0 hW0
  try simp only [List.length_nil] at ou ⊢
  obtain ⟨w2, hw2, f2, q2⟩ : ∃ W, w1.alloc (.cells #[.int .i64 4, .int .i64 0, .int .i64 s.t0.wr, .slice ga 0 gc, .int .i64 0] 32) = W ∧ Fr [] w1 W ∧ WB W w1.heap.size (.int .i64 4) (.int .i64 0) (.int .i64 s.t0.wr) (.slice ga 0 gc) (.int .i64 0) := ⟨_, rfl, (Fr.refl _ _).alloc _, newA rfl⟩
  have b2 : WB w2 (w.heap.size + 1) _ _ _ _ _ := f2.keep b1 (by simp)
  have g2 := (f0.then0 f1).then0 f2
  have ou2 := ou.keep f2 (by simp)
  obtain ⟨dc0, df0, dc1, df1, dc2, df2, dc3, df3, dc4, df4, dc5, df5, dc6, df6, dc7, df7, dc8, df8, dc9, df9, dc10, df10, dc11, df11, dc12, df12, dc13, df13, dc14, df14, dc15, df15, dc16, df16⟩ := (HQ.out _ (f1.then0 f2)).cells
  have hsid : w2.setCell ⟨w1.heap.size, 4, none⟩ (.int .i64 0) = w2 := setCell_id q2 rfl
  obtain ⟨x0, x1, x2, x3, x4, x5, x6, x7, x8, x9⟩ := q2.cells
  obtain ⟨r0, r1, r2, r3, r4, r5, r6, r7, r8, r9⟩ := b2.cells
  have hne : w1.heap.size ≠ w.heap.size + 1 := by omega
  have hne2 : w.heap.size + 1 ≠ w1.heap.size := by omega
  have hOU := Lib.hid ou2
  have hB2 := Lib.hid b2
  have hQ2 := Lib.hid q2
  have hlO : ∀ k, (Value.slice ga 0 gc).ownBlock = some k → k < w1.heap.size := fun k hk => (ou_lt k hk).2
  clear f1 f2 ou ou2 b1 b2 q2 HQ HT ou_lt
  replace hw := hw.out
  replace h13 := h13.out
  replace hc := hc.out
  rw [hw] at dc6
  rw [h13] at dc5
  rw [hc] at dc14
  go_wp2_with fail
  obtain ⟨W3, hW3, g3, q3, wv⟩ := five_fin (w := w) (k := 3) (s := 1) (n := 0) (e := 0) (u := (.slice none 0 0)) (l := []) hB2.out g2 (Nat.le_succ _) (M := w.heap.size + 1 + 1) (Ow.nil _ _ _) (Nat.lt_succ_self _)
  rw [← hW3]
  obtain ⟨s0, s1, s2, s3, s4, _⟩ := q3.cells
  refine bodyPost_ret (v := .agg #[.int .i64 3, .int .i64 1, .int .i64 0, (.slice none 0 0), .int .i64 0]) (by simp [results, Try.results70, go_sem, s0, s1, s2, s3, s4]) rfl ?_
  exact ⟨_, rfl, g3, wv⟩
set_option maxHeartbeats 4000000 in
theorem rs_read0 {w : World} {N : Nat → Prop} {s : SS} {a0 a1 : Option Addr} {k0 k1 : Nat} (h0 : Rv w N (.agg #[.int .i64 s.t0.stage, .int .i64 s.t0.limit, .int .i64 s.t0.rd, .int .i64 s.t0.wr, .slice a0 s.t0.s.length k0, .int .i64 s.t0.r, .int .i64 s.t0.w]) s.t0) (h1 : Rv w N (.agg #[.int .i64 s.t1.stage, .int .i64 s.t1.limit, .int .i64 s.t1.rd, .int .i64 s.t1.wr, .slice a1 s.t1.s.length k1, .int .i64 s.t1.r, .int .i64 s.t1.w]) s.t1) (hok : TOk s.t0) (hr : s.t0.rd ≤ 4611686018427387904)
    {n : Int} (e1 : nextT s.t0 = ⟨1, 0, n, [], 0⟩) :
    Calls Try.prog 70 #[.agg #[.int .i64 s.t0.stage, .int .i64 s.t0.limit, .int .i64 s.t0.rd, .int .i64 s.t0.wr, .slice a0 s.t0.s.length k0, .int .i64 s.t0.r, .int .i64 s.t0.w, .int .i64 s.t1.stage, .int .i64 s.t1.limit, .int .i64 s.t1.rd, .int .i64 s.t1.wr, .slice a1 s.t1.s.length k1, .int .i64 s.t1.r, .int .i64 s.t1.w, .bool s.c0, .bool s.c1, .int .i64 s.first], .int .i64 0] w fun e w' => ∃ v, e = .returned v ∧ Fr [] w w' ∧ Wv w' w.heap.size v ⟨1, 0, n, [], 0⟩ := by
  obtain ⟨W0, hW0, f0, hz0, b0, q0⟩ : ∃ W, (w.alloc (.cells #[.int .i64 s.t0.stage, .int .i64 s.t0.limit, .int .i64 s.t0.rd, .int .i64 s.t0.wr, .slice a0 s.t0.s.length k0, .int .i64 s.t0.r, .int .i64 s.t0.w, .int .i64 s.t1.stage, .int .i64 s.t1.limit, .int .i64 s.t1.rd, .int .i64 s.t1.wr, .slice a1 s.t1.s.length k1, .int .i64 s.t1.r, .int .i64 s.t1.w, .bool s.c0, .bool s.c1, .int .i64 s.first] 95)).alloc (.cells #[.int .i64 0, .int .i64 0, .int .i64 0, .slice none 0 0, .int .i64 0] 32) = W ∧ Fr [] w W ∧ w.heap.size + 1 < W.heap.size ∧ WB W (w.heap.size + 1) (.int .i64 0) (.int .i64 0) (.int .i64 0) (.slice none 0 0) (.int .i64 0) ∧ SB W w.heap.size (.int .i64 s.t0.stage) (.int .i64 s.t0.limit) (.int .i64 s.t0.rd) (.int .i64 s.t0.wr) (.slice a0 s.t0.s.length k0) (.int .i64 s.t0.r) (.int .i64 s.t0.w) (.int .i64 s.t1.stage) (.int .i64 s.t1.limit) (.int .i64 s.t1.rd) (.int .i64 s.t1.wr) (.slice a1 s.t1.s.length k1) (.int .i64 s.t1.r) (.int .i64 s.t1.w) (.bool s.c0) (.bool s.c1) (.int .i64 s.first) := ⟨_, rfl, ((Fr.refl _ _).alloc _).alloc _, by simp, newA (by simp), keepA (newA rfl)⟩
  have HT := Lib.hid (rt_next (h0.keep f0 (by simp)) hok hr)
  rw [e1] at HT
  have HQ := Lib.hid fun w1 (f : Fr [] W0 w1) => (show SB w1 w.heap.size (.int .i64 s.t0.stage) (.int .i64 s.t0.limit) (.int .i64 s.t0.rd) (.int .i64 s.t0.wr) (.slice a0 s.t0.s.length k0) (.int .i64 s.t0.r) (.int .i64 s.t0.w) (.int .i64 s.t1.stage) (.int .i64 s.t1.limit) (.int .i64 s.t1.rd) (.int .i64 s.t1.wr) (.slice a1 s.t1.s.length k1) (.int .i64 s.t1.r) (.int .i64 s.t1.w) (.bool s.c0) (.bool s.c1) (.int .i64 s.first) from f.keep q0 (by simp))
  obtain ⟨dc0, df0, dc1, df1, dc2, df2, dc3, df3, dc4, df4, dc5, df5, dc6, df6, dc7, df7, dc8, df8, dc9, df9, dc10, df10, dc11, df11, dc12, df12, dc13, df13, dc14, df14, dc15, df15, dc16, df16⟩ := q0.cells
  clear h0 h1 hok hr e1 q0
  go_enter Try.func70, Try.ntmps70
  go_wp2_with fail
  refine HT.out.mono ?_
  rintro e w1 ⟨v, rfl, f1, u, rfl, ou⟩
  obtain ⟨ga, gc, rfl, _⟩ := ou.formB
  have ou_lt := ou.lt
  have b1 : WB w1 (w.heap.size + 1) _ _ _ _ _ := f1.keep b0 (by simp)
  have hz1 : w.heap.size + 1 < w1.heap.size := Nat.lt_of_lt_of_le hz0 f1.size
  clear dc0 df0 dc1 df1 dc2 df2 dc3 df3 dc4 df4 dc5 df5 dc6 df6 dc7 df7 dc8 df8 dc9 df9 dc10 df10 dc11 df11 dc12 df12 dc13 df13 dc14 df14 dc15 df15 dc16 df16 b0 hW0
  try simp only [List.length_nil] at ou ⊢
  obtain ⟨w2, hw2, f2, q2⟩ : ∃ W, w1.alloc (.cells #[.int .i64 1, .int .i64 0, .int .i64 n, .slice ga 0 gc, .int .i64 0] 32) = W ∧ Fr [] w1 W ∧ WB W w1.heap.size (.int .i64 1) (.int .i64 0) (.int .i64 n) (.slice ga 0 gc) (.int .i64 0) := ⟨_, rfl, (Fr.refl _ _).alloc _, newA rfl⟩
  have b2 : WB w2 (w.heap.size + 1) _ _ _ _ _ := f2.keep b1 (by simp)
  have g2 := (f0.then0 f1).then0 f2
  have ou2 := ou.keep f2 (by simp)
  obtain ⟨dc0, df0, dc1, df1, dc2, df2, dc3, df3, dc4, df4, dc5, df5, dc6, df6, dc7, df7, dc8, df8, dc9, df9, dc10, df10, dc11, df11, dc12, df12, dc13, df13, dc14, df14, dc15, df15, dc16, df16⟩ := (HQ.out _ (f1.then0 f2)).cells
  have hsid : w2.setCell ⟨w1.heap.size, 4, none⟩ (.int .i64 0) = w2 := setCell_id q2 rfl
  obtain ⟨x0, x1, x2, x3, x4, x5, x6, x7, x8, x9⟩ := q2.cells
  obtain ⟨r0, r1, r2, r3, r4, r5, r6, r7, r8, r9⟩ := b2.cells
  have hne : w1.heap.size ≠ w.heap.size + 1 := by omega
  have hne2 : w.heap.size + 1 ≠ w1.heap.size := by omega
  have hOU := Lib.hid ou2
  have hB2 := Lib.hid b2
  have hQ2 := Lib.hid q2
  have hlO : ∀ k, (Value.slice ga 0 gc).ownBlock = some k → k < w1.heap.size := fun k hk => (ou_lt k hk).2
  clear f1 f2 ou ou2 b1 b2 q2 HQ HT ou_lt
  go_wp2_with fail
  have hB3 : WB (w2.setCell ⟨w1.heap.size, 1, none⟩ (.int .i64 (0))) (w.heap.size + 1) _ _ _ _ _ := keepS hB2.out (by dsimp only; omega)
  have hO3 := hOU.out.keep ((Fr.refl [w1.heap.size] w2).setCell (p := ⟨w1.heap.size, 1, none⟩) (.inl (by simp)) (.int .i64 (0))) (fun k hk hm => by have := hlO k hk; simp at hm; omega)
  obtain ⟨W3, hW3, g3, q3, wv⟩ := five_fin (w := w) (k := 1) (s := 0) (n := n) (e := 0) (u := (.slice ga 0 gc)) (l := []) hB3 (g2.setCell (p := ⟨w1.heap.size, 1, none⟩) (.inr (by dsimp only; omega)) (.int .i64 (0))) (Nat.le_succ _) (M := W0.heap.size) hO3 hz0
  rw [← hW3]
  obtain ⟨s0, s1, s2, s3, s4, _⟩ := q3.cells
  refine bodyPost_ret (v := .agg #[.int .i64 1, .int .i64 0, .int .i64 n, (.slice ga 0 gc), .int .i64 0]) (by simp [results, Try.results70, go_sem, s0, s1, s2, s3, s4]) rfl ?_
  exact ⟨_, rfl, g3, wv⟩
theorem rs_next0 {w : World} {N : Nat → Prop} {v : Value} {s : SS} (h : Rsp w N v s) (hok : TOk s.t0) (hr : s.t0.rd ≤ 4611686018427387904) :
    Calls Try.prog 70 #[v, .int .i64 0] w fun e w' => ∃ v, e = .returned v ∧ Fr [] w w' ∧ Wv w' w.heap.size v (nextS s.t0 s.c0 0) := by
  obtain ⟨a0, k0, a1, k1, rfl, h0, h1⟩ := h
  rcases nextS_cases s.t0 s.c0 0 with ⟨hw, e1, e2⟩ | ⟨_, _, e1, e2⟩ | ⟨hw, h13, hc, e1, e2⟩ | ⟨hw, hc, e1, e2⟩ | ⟨n, e1, e2⟩ <;> rw [e2]
  · exact rs_fail0 h0 h1 hok hr hw e1
  · exact rs_write0 h0 h1 hok hr e1
  · exact rs_close0 h0 h1 hok hr hw h13 hc e1
  · exact rs_done0 h0 h1 hok hr hw hc e1
  · exact rs_read0 h0 h1 hok hr e1
set_option maxHeartbeats 4000000 in
theorem rs_fail1 {w : World} {N : Nat → Prop} {s : SS} {a0 a1 : Option Addr} {k0 k1 : Nat} (h0 : Rv w N (.agg #[.int .i64 s.t0.stage, .int .i64 s.t0.limit, .int .i64 s.t0.rd, .int .i64 s.t0.wr, .slice a0 s.t0.s.length k0, .int .i64 s.t0.r, .int .i64 s.t0.w]) s.t0) (h1 : Rv w N (.agg #[.int .i64 s.t1.stage, .int .i64 s.t1.limit, .int .i64 s.t1.rd, .int .i64 s.t1.wr, .slice a1 s.t1.s.length k1, .int .i64 s.t1.r, .int .i64 s.t1.w]) s.t1) (hok : TOk s.t1) (hr : s.t1.rd ≤ 4611686018427387904)
    (hw : s.t1.w ≠ 0) (e1 : nextT s.t1 = ⟨4, 0, s.t1.wr, [], s.t1.w⟩) :
    Calls Try.prog 70 #[.agg #[.int .i64 s.t0.stage, .int .i64 s.t0.limit, .int .i64 s.t0.rd, .int .i64 s.t0.wr, .slice a0 s.t0.s.length k0, .int .i64 s.t0.r, .int .i64 s.t0.w, .int .i64 s.t1.stage, .int .i64 s.t1.limit, .int .i64 s.t1.rd, .int .i64 s.t1.wr, .slice a1 s.t1.s.length k1, .int .i64 s.t1.r, .int .i64 s.t1.w, .bool s.c0, .bool s.c1, .int .i64 s.first], .int .i64 1] w fun e w' => ∃ v, e = .returned v ∧ Fr [] w w' ∧ Wv w' w.heap.size v ⟨4, 0, s.t1.wr, [], s.t1.w⟩ := by
  obtain ⟨W0, hW0, f0, hz0, b0, q0⟩ : ∃ W, (w.alloc (.cells #[.int .i64 s.t0.stage, .int .i64 s.t0.limit, .int .i64 s.t0.rd, .int .i64 s.t0.wr, .slice a0 s.t0.s.length k0, .int .i64 s.t0.r, .int .i64 s.t0.w, .int .i64 s.t1.stage, .int .i64 s.t1.limit, .int .i64 s.t1.rd, .int .i64 s.t1.wr, .slice a1 s.t1.s.length k1, .int .i64 s.t1.r, .int .i64 s.t1.w, .bool s.c0, .bool s.c1, .int .i64 s.first] 95)).alloc (.cells #[.int .i64 0, .int .i64 0, .int .i64 0, .slice none 0 0, .int .i64 0] 32) = W ∧ Fr [] w W ∧ w.heap.size + 1 < W.heap.size ∧ WB W (w.heap.size + 1) (.int .i64 0) (.int .i64 0) (.int .i64 0) (.slice none 0 0) (.int .i64 0) ∧ SB W w.heap.size (.int .i64 s.t0.stage) (.int .i64 s.t0.limit) (.int .i64 s.t0.rd) (.int .i64 s.t0.wr) (.slice a0 s.t0.s.length k0) (.int .i64 s.t0.r) (.int .i64 s.t0.w) (.int .i64 s.t1.stage) (.int .i64 s.t1.limit) (.int .i64 s.t1.rd) (.int .i64 s.t1.wr) (.slice a1 s.t1.s.length k1) (.int .i64 s.t1.r) (.int .i64 s.t1.w) (.bool s.c0) (.bool s.c1) (.int .i64 s.first) := ⟨_, rfl, ((Fr.refl _ _).alloc _).alloc _, by simp, newA (by simp), keepA (newA rfl)⟩
  have HT := Lib.hid (rt_next (h1.keep f0 (by simp)) hok hr)
  rw [e1] at HT
  have HQ := Lib.hid fun w1 (f : Fr [] W0 w1) => (show SB w1 w.heap.size (.int .i64 s.t0.stage) (.int .i64 s.t0.limit) (.int .i64 s.t0.rd) (.int .i64 s.t0.wr) (.slice a0 s.t0.s.length k0) (.int .i64 s.t0.r) (.int .i64 s.t0.w) (.int .i64 s.t1.stage) (.int .i64 s.t1.limit) (.int .i64 s.t1.rd) (.int .i64 s.t1.wr) (.slice a1 s.t1.s.length k1) (.int .i64 s.t1.r) (.int .i64 s.t1.w) (.bool s.c0) (.bool s.c1) (.int .i64 s.first) from f.keep q0 (by simp))
  obtain ⟨dc0, df0, dc1, df1, dc2, df2, dc3, df3, dc4, df4, dc5, df5, dc6, df6, dc7, df7, dc8, df8, dc9, df9, dc10, df10, dc11, df11, dc12, df12, dc13, df13, dc14, df14, dc15, df15, dc16, df16⟩ := q0.cells
  clear h0 h1 hok hr e1 q0
  replace hw := Lib.hid hw
  go_enter Try.func70, Try.ntmps70
  go_wp2_with fail
  refine HT.out.mono ?_
  rintro e w1 ⟨v, rfl, f1, u, rfl, ou⟩
  obtain ⟨ga, gc, rfl, _⟩ := ou.formB
  have ou_lt := ou.lt
  have b1 : WB w1 (w.heap.size + 1) _ _ _ _ _ := f1.keep b0 (by simp)
  have hz1 : w.heap.size + 1 < w1.heap.size := Nat.lt_of_lt_of_le hz0 f1.size
  clear dc0 df0 dc1 df1 dc2 df2 dc3 df3 dc4 df4 dc5 df5 dc6 df6 dc7 df7 dc8 df8 dc9 df9 dc10 df10 dc11 df11 dc12 df12 dc13 df13 dc14 df14 dc15 df15 dc16 df16 b0 hW0
  try simp only [List.length_nil] at ou ⊢
  obtain ⟨w2, hw2, f2, q2⟩ : ∃ W, w1.alloc (.cells #[.int .i64 4, .int .i64 0, .int .i64 s.t1.wr, .slice ga 0 gc, .int .i64 s.t1.w] 32) = W ∧ Fr [] w1 W ∧ WB W w1.heap.size (.int .i64 4) (.int .i64 0) (.int .i64 s.t1.wr) (.slice ga 0 gc) (.int .i64 s.t1.w) := ⟨_, rfl, (Fr.refl _ _).alloc _, newA rfl⟩
  have b2 : WB w2 (w.heap.size + 1) _ _ _ _ _ := f2.keep b1 (by simp)
  have g2 := (f0.then0 f1).then0 f2
  have ou2 := ou.keep f2 (by simp)
  obtain ⟨dc0, df0, dc1, df1, dc2, df2, dc3, df3, dc4, df4, dc5, df5, dc6, df6, dc7, df7, dc8, df8, dc9, df9, dc10, df10, dc11, df11, dc12, df12, dc13, df13, dc14, df14, dc15, df15, dc16, df16⟩ := (HQ.out _ (f1.then0 f2)).cells
  have hsid : w2.setCell ⟨w1.heap.size, 4, none⟩ (.int .i64 s.t1.w) = w2 := setCell_id q2 rfl
  obtain ⟨x0, x1, x2, x3, x4, x5, x6, x7, x8, x9⟩ := q2.cells
  obtain ⟨r0, r1, r2, r3, r4, r5, r6, r7, r8, r9⟩ := b2.cells
  have hne : w1.heap.size ≠ w.heap.size + 1 := by omega
  have hne2 : w.heap.size + 1 ≠ w1.heap.size := by omega
  have hOU := Lib.hid ou2
  have hB2 := Lib.hid b2
  have hQ2 := Lib.hid q2
  have hlO : ∀ k, (Value.slice ga 0 gc).ownBlock = some k → k < w1.heap.size := fun k hk => (ou_lt k hk).2
  clear f1 f2 ou ou2 b1 b2 q2 HQ HT ou_lt
  replace hw := hw.out
  have hw' : (s.t1.w == 0) = false := by simpa using hw
  rcases Bool.eq_false_or_eq_true (s.t1.r == 13) with h13 | h13
  · skip
    go_wp2_with fail
    obtain ⟨W3, hW3, g3, q3, wv⟩ := five_fin (w := w) (k := 4) (s := 0) (n := s.t1.wr) (e := s.t1.w) (u := (.slice ga 0 gc)) (l := []) hB2.out g2 (Nat.le_succ _) (M := W0.heap.size) hOU.out hz0
    rw [← hW3]
    obtain ⟨s0, s1, s2, s3, s4, _⟩ := q3.cells
    refine bodyPost_ret (v := .agg #[.int .i64 4, .int .i64 0, .int .i64 s.t1.wr, (.slice ga 0 gc), .int .i64 s.t1.w]) (by simp [results, Try.results70, go_sem, s0, s1, s2, s3, s4]) rfl ?_
    exact ⟨_, rfl, g3, wv⟩
  · skip
    go_wp2_with fail
    obtain ⟨W3, hW3, g3, q3, wv⟩ := five_fin (w := w) (k := 4) (s := 0) (n := s.t1.wr) (e := s.t1.w) (u := (.slice ga 0 gc)) (l := []) hB2.out g2 (Nat.le_succ _) (M := W0.heap.size) hOU.out hz0
    rw [← hW3]
    obtain ⟨s0, s1, s2, s3, s4, _⟩ := q3.cells
    refine bodyPost_ret (v := .agg #[.int .i64 4, .int .i64 0, .int .i64 s.t1.wr, (.slice ga 0 gc), .int .i64 s.t1.w]) (by simp [results, Try.results70, go_sem, s0, s1, s2, s3, s4]) rfl ?_
    exact ⟨_, rfl, g3, wv⟩
set_option maxHeartbeats 4000000 in
theorem rs_done1 {w : World} {N : Nat → Prop} {s : SS} {a0 a1 : Option Addr} {k0 k1 : Nat} (h0 : Rv w N (.agg #[.int .i64 s.t0.stage, .int .i64 s.t0.limit, .int .i64 s.t0.rd, .int .i64 s.t0.wr, .slice a0 s.t0.s.length k0, .int .i64 s.t0.r, .int .i64 s.t0.w]) s.t0) (h1 : Rv w N (.agg #[.int .i64 s.t1.stage, .int .i64 s.t1.limit, .int .i64 s.t1.rd, .int .i64 s.t1.wr, .slice a1 s.t1.s.length k1, .int .i64 s.t1.r, .int .i64 s.t1.w]) s.t1) (hok : TOk s.t1) (hr : s.t1.rd ≤ 4611686018427387904)
    {er : Int} (hw : s.t1.w = 0) (hc : (s.t1.r == 13 && !s.c1) = false) (e1 : nextT s.t1 = ⟨4, 0, s.t1.wr, [], er⟩) :
    Calls Try.prog 70 #[.agg #[.int .i64 s.t0.stage, .int .i64 s.t0.limit, .int .i64 s.t0.rd, .int .i64 s.t0.wr, .slice a0 s.t0.s.length k0, .int .i64 s.t0.r, .int .i64 s.t0.w, .int .i64 s.t1.stage, .int .i64 s.t1.limit, .int .i64 s.t1.rd, .int .i64 s.t1.wr, .slice a1 s.t1.s.length k1, .int .i64 s.t1.r, .int .i64 s.t1.w, .bool s.c0, .bool s.c1, .int .i64 s.first], .int .i64 1] w fun e w' => ∃ v, e = .returned v ∧ Fr [] w w' ∧ Wv w' w.heap.size v ⟨4, 0, s.t1.wr, [], er⟩ := by
  obtain ⟨W0, hW0, f0, hz0, b0, q0⟩ : ∃ W, (w.alloc (.cells #[.int .i64 s.t0.stage, .int .i64 s.t0.limit, .int .i64 s.t0.rd, .int .i64 s.t0.wr, .slice a0 s.t0.s.length k0, .int .i64 s.t0.r, .int .i64 s.t0.w, .int .i64 s.t1.stage, .int .i64 s.t1.limit, .int .i64 s.t1.rd, .int .i64 s.t1.wr, .slice a1 s.t1.s.length k1, .int .i64 s.t1.r, .int .i64 s.t1.w, .bool s.c0, .bool s.c1, .int .i64 s.first] 95)).alloc (.cells #[.int .i64 0, .int .i64 0, .int .i64 0, .slice none 0 0, .int .i64 0] 32) = W ∧ Fr [] w W ∧ w.heap.size + 1 < W.heap.size ∧ WB W (w.heap.size + 1) (.int .i64 0) (.int .i64 0) (.int .i64 0) (.slice none 0 0) (.int .i64 0) ∧ SB W w.heap.size (.int .i64 s.t0.stage) (.int .i64 s.t0.limit) (.int .i64 s.t0.rd) (.int .i64 s.t0.wr) (.slice a0 s.t0.s.length k0) (.int .i64 s.t0.r) (.int .i64 s.t0.w) (.int .i64 s.t1.stage) (.int .i64 s.t1.limit) (.int .i64 s.t1.rd) (.int .i64 s.t1.wr) (.slice a1 s.t1.s.length k1) (.int .i64 s.t1.r) (.int .i64 s.t1.w) (.bool s.c0) (.bool s.c1) (.int .i64 s.first) := ⟨_, rfl, ((Fr.refl _ _).alloc _).alloc _, by simp, newA (by simp), keepA (newA rfl)⟩
  have HT := Lib.hid (rt_next (h1.keep f0 (by simp)) hok hr)
  rw [e1] at HT
  have HQ := Lib.hid fun w1 (f : Fr [] W0 w1) => (show SB w1 w.heap.size (.int .i64 s.t0.stage) (.int .i64 s.t0.limit) (.int .i64 s.t0.rd) (.int .i64 s.t0.wr) (.slice a0 s.t0.s.length k0) (.int .i64 s.t0.r) (.int .i64 s.t0.w) (.int .i64 s.t1.stage) (.int .i64 s.t1.limit) (.int .i64 s.t1.rd) (.int .i64 s.t1.wr) (.slice a1 s.t1.s.length k1) (.int .i64 s.t1.r) (.int .i64 s.t1.w) (.bool s.c0) (.bool s.c1) (.int .i64 s.first) from f.keep q0 (by simp))
  obtain ⟨dc0, df0, dc1, df1, dc2, df2, dc3, df3, dc4, df4, dc5, df5, dc6, df6, dc7, df7, dc8, df8, dc9, df9, dc10, df10, dc11, df11, dc12, df12, dc13, df13, dc14, df14, dc15, df15, dc16, df16⟩ := q0.cells
  clear h0 h1 hok hr e1 q0
  replace hw := Lib.hid hw
  replace hc := Lib.hid hc
  go_enter Try.func70, Try.ntmps70
  go_wp2_with fail
  refine HT.out.mono ?_
  rintro e w1 ⟨v, rfl, f1, u, rfl, ou⟩
  obtain ⟨ga, gc, rfl, _⟩ := ou.formB
  have ou_lt := ou.lt
  have b1 : WB w1 (w.heap.size + 1) _ _ _ _ _ := f1.keep b0 (by simp)
  have hz1 : w.heap.size + 1 < w1.heap.size := Nat.lt_of_lt_of_le hz0 f1.size
  clear dc0 df0 dc1 df1 dc2 df2 dc3 df3 dc4 df4 dc5 df5 dc6 df6 dc7 df7 dc8 df8 dc9 df9 dc10 df10 dc11 df11 dc12 df12 dc13 df13 dc14 df14 dc15 df15 dc16 df16 b0 hW0
  try simp only [List.length_nil] at ou ⊢
  obtain ⟨w2, hw2, f2, q2⟩ : ∃ W, w1.alloc (.cells #[.int .i64 4, .int .i64 0, .int .i64 s.t1.wr, .slice ga 0 gc, .int .i64 er] 32) = W ∧ Fr [] w1 W ∧ WB W w1.heap.size (.int .i64 4) (.int .i64 0) (.int .i64 s.t1.wr) (.slice ga 0 gc) (.int .i64 er) := ⟨_, rfl, (Fr.refl _ _).alloc _, newA rfl⟩
  have b2 : WB w2 (w.heap.size + 1) _ _ _ _ _ := f2.keep b1 (by simp)
  have g2 := (f0.then0 f1).then0 f2
  have ou2 := ou.keep f2 (by simp)
  obtain ⟨dc0, df0, dc1, df1, dc2, df2, dc3, df3, dc4, df4, dc5, df5, dc6, df6, dc7, df7, dc8, df8, dc9, df9, dc10, df10, dc11, df11, dc12, df12, dc13, df13, dc14, df14, dc15, df15, dc16, df16⟩ := (HQ.out _ (f1.then0 f2)).cells
  have hsid : w2.setCell ⟨w1.heap.size, 4, none⟩ (.int .i64 er) = w2 := setCell_id q2 rfl
  obtain ⟨x0, x1, x2, x3, x4, x5, x6, x7, x8, x9⟩ := q2.cells
  obtain ⟨r0, r1, r2, r3, r4, r5, r6, r7, r8, r9⟩ := b2.cells
  have hne : w1.heap.size ≠ w.heap.size + 1 := by omega
  have hne2 : w.heap.size + 1 ≠ w1.heap.size := by omega
  have hOU := Lib.hid ou2
  have hB2 := Lib.hid b2
  have hQ2 := Lib.hid q2
  have hlO : ∀ k, (Value.slice ga 0 gc).ownBlock = some k → k < w1.heap.size := fun k hk => (ou_lt k hk).2
  clear f1 f2 ou ou2 b1 b2 q2 HQ HT ou_lt
  replace hw := hw.out
  replace hc := hc.out
  have hw' : (s.t1.w == 0) = true := by simpa using hw
  rw [hw] at dc13
  rcases Bool.eq_false_or_eq_true (s.t1.r == 13) with h13 | h13
  rotate_left
  · skip
    go_wp2_with fail
    obtain ⟨W3, hW3, g3, q3, wv⟩ := five_fin (w := w) (k := 4) (s := 0) (n := s.t1.wr) (e := er) (u := (.slice ga 0 gc)) (l := []) hB2.out g2 (Nat.le_succ _) (M := W0.heap.size) hOU.out hz0
    rw [← hW3]
    obtain ⟨s0, s1, s2, s3, s4, _⟩ := q3.cells
    refine bodyPost_ret (v := .agg #[.int .i64 4, .int .i64 0, .int .i64 s.t1.wr, (.slice ga 0 gc), .int .i64 er]) (by simp [results, Try.results70, go_sem, s0, s1, s2, s3, s4]) rfl ?_
    exact ⟨_, rfl, g3, wv⟩
  · rw [h13, Bool.true_and] at hc
    have hc' : s.c1 = true := by simpa using hc
    rw [hc'] at dc15
    go_wp2_with fail
    obtain ⟨W3, hW3, g3, q3, wv⟩ := five_fin (w := w) (k := 4) (s := 0) (n := s.t1.wr) (e := er) (u := (.slice ga 0 gc)) (l := []) hB2.out g2 (Nat.le_succ _) (M := W0.heap.size) hOU.out hz0
    rw [← hW3]
    obtain ⟨s0, s1, s2, s3, s4, _⟩ := q3.cells
    refine bodyPost_ret (v := .agg #[.int .i64 4, .int .i64 0, .int .i64 s.t1.wr, (.slice ga 0 gc), .int .i64 er]) (by simp [results, Try.results70, go_sem, s0, s1, s2, s3, s4]) rfl ?_
    exact ⟨_, rfl, g3, wv⟩
set_option maxHeartbeats 4000000 in
theorem rs_write1 {w : World} {N : Nat → Prop} {s : SS} {a0 a1 : Option Addr} {k0 k1 : Nat} (h0 : Rv w N (.agg #[.int .i64 s.t0.stage, .int .i64 s.t0.limit, .int .i64 s.t0.rd, .int .i64 s.t0.wr, .slice a0 s.t0.s.length k0, .int .i64 s.t0.r, .int .i64 s.t0.w]) s.t0) (h1 : Rv w N (.agg #[.int .i64 s.t1.stage, .int .i64 s.t1.limit, .int .i64 s.t1.rd, .int .i64 s.t1.wr, .slice a1 s.t1.s.length k1, .int .i64 s.t1.r, .int .i64 s.t1.w]) s.t1) (hok : TOk s.t1) (hr : s.t1.rd ≤ 4611686018427387904)
    (e1 : nextT s.t1 = ⟨2, 0, 0, s.t1.s, 0⟩) :
    Calls Try.prog 70 #[.agg #[.int .i64 s.t0.stage, .int .i64 s.t0.limit, .int .i64 s.t0.rd, .int .i64 s.t0.wr, .slice a0 s.t0.s.length k0, .int .i64 s.t0.r, .int .i64 s.t0.w, .int .i64 s.t1.stage, .int .i64 s.t1.limit, .int .i64 s.t1.rd, .int .i64 s.t1.wr, .slice a1 s.t1.s.length k1, .int .i64 s.t1.r, .int .i64 s.t1.w, .bool s.c0, .bool s.c1, .int .i64 s.first], .int .i64 1] w fun e w' => ∃ v, e = .returned v ∧ Fr [] w w' ∧ Wv w' w.heap.size v ⟨2, 0, 0, s.t1.s, 0⟩ := by
  obtain ⟨W0, hW0, f0, hz0, b0, q0⟩ : ∃ W, (w.alloc (.cells #[.int .i64 s.t0.stage, .int .i64 s.t0.limit, .int .i64 s.t0.rd, .int .i64 s.t0.wr, .slice a0 s.t0.s.length k0, .int .i64 s.t0.r, .int .i64 s.t0.w, .int .i64 s.t1.stage, .int .i64 s.t1.limit, .int .i64 s.t1.rd, .int .i64 s.t1.wr, .slice a1 s.t1.s.length k1, .int .i64 s.t1.r, .int .i64 s.t1.w, .bool s.c0, .bool s.c1, .int .i64 s.first] 95)).alloc (.cells #[.int .i64 0, .int .i64 0, .int .i64 0, .slice none 0 0, .int .i64 0] 32) = W ∧ Fr [] w W ∧ w.heap.size + 1 < W.heap.size ∧ WB W (w.heap.size + 1) (.int .i64 0) (.int .i64 0) (.int .i64 0) (.slice none 0 0) (.int .i64 0) ∧ SB W w.heap.size (.int .i64 s.t0.stage) (.int .i64 s.t0.limit) (.int .i64 s.t0.rd) (.int .i64 s.t0.wr) (.slice a0 s.t0.s.length k0) (.int .i64 s.t0.r) (.int .i64 s.t0.w) (.int .i64 s.t1.stage) (.int .i64 s.t1.limit) (.int .i64 s.t1.rd) (.int .i64 s.t1.wr) (.slice a1 s.t1.s.length k1) (.int .i64 s.t1.r) (.int .i64 s.t1.w) (.bool s.c0) (.bool s.c1) (.int .i64 s.first) := ⟨_, rfl, ((Fr.refl _ _).alloc _).alloc _, by simp, newA (by simp), keepA (newA rfl)⟩
  have HT := Lib.hid (rt_next (h1.keep f0 (by simp)) hok hr)
  rw [e1] at HT
  have HQ := Lib.hid fun w1 (f : Fr [] W0 w1) => (show SB w1 w.heap.size (.int .i64 s.t0.stage) (.int .i64 s.t0.limit) (.int .i64 s.t0.rd) (.int .i64 s.t0.wr) (.slice a0 s.t0.s.length k0) (.int .i64 s.t0.r) (.int .i64 s.t0.w) (.int .i64 s.t1.stage) (.int .i64 s.t1.limit) (.int .i64 s.t1.rd) (.int .i64 s.t1.wr) (.slice a1 s.t1.s.length k1) (.int .i64 s.t1.r) (.int .i64 s.t1.w) (.bool s.c0) (.bool s.c1) (.int .i64 s.first) from f.keep q0 (by simp))
  obtain ⟨dc0, df0, dc1, df1, dc2, df2, dc3, df3, dc4, df4, dc5, df5, dc6, df6, dc7, df7, dc8, df8, dc9, df9, dc10, df10, dc11, df11, dc12, df12, dc13, df13, dc14, df14, dc15, df15, dc16, df16⟩ := q0.cells
  clear h0 h1 hok hr e1 q0
  go_enter Try.func70, Try.ntmps70
  go_wp2_with fail
  refine HT.out.mono ?_
  rintro e w1 ⟨v, rfl, f1, u, rfl, ou⟩
  obtain ⟨ga, gc, rfl, _⟩ := ou.formB
  have ou_lt := ou.lt
  have b1 : WB w1 (w.heap.size + 1) _ _ _ _ _ := f1.keep b0 (by simp)
  have hz1 : w.heap.size + 1 < w1.heap.size := Nat.lt_of_lt_of_le hz0 f1.size
  clear dc0 df0 dc1 df1 dc2 df2 dc3 df3 dc4 df4 dc5 df5 dc6 df6 dc7 df7 dc8 df8 dc9 df9 dc10 df10 dc11 df11 dc12 df12 dc13 df13 dc14 df14 dc15 df15 dc16 df16 b0 hW0
  try simp only [List.length_nil] at ou ⊢
  obtain ⟨w2, hw2, f2, q2⟩ : ∃ W, w1.alloc (.cells #[.int .i64 2, .int .i64 0, .int .i64 0, .slice ga s.t1.s.length gc, .int .i64 0] 32) = W ∧ Fr [] w1 W ∧ WB W w1.heap.size (.int .i64 2) (.int .i64 0) (.int .i64 0) (.slice ga s.t1.s.length gc) (.int .i64 0) := ⟨_, rfl, (Fr.refl _ _).alloc _, newA rfl⟩
  have b2 : WB w2 (w.heap.size + 1) _ _ _ _ _ := f2.keep b1 (by simp)
  have g2 := (f0.then0 f1).then0 f2
  have ou2 := ou.keep f2 (by simp)
  obtain ⟨dc0, df0, dc1, df1, dc2, df2, dc3, df3, dc4, df4, dc5, df5, dc6, df6, dc7, df7, dc8, df8, dc9, df9, dc10, df10, dc11, df11, dc12, df12, dc13, df13, dc14, df14, dc15, df15, dc16, df16⟩ := (HQ.out _ (f1.then0 f2)).cells
  have hsid : w2.setCell ⟨w1.heap.size, 4, none⟩ (.int .i64 0) = w2 := setCell_id q2 rfl
  obtain ⟨x0, x1, x2, x3, x4, x5, x6, x7, x8, x9⟩ := q2.cells
  obtain ⟨r0, r1, r2, r3, r4, r5, r6, r7, r8, r9⟩ := b2.cells
  have hne : w1.heap.size ≠ w.heap.size + 1 := by omega
  have hne2 : w.heap.size + 1 ≠ w1.heap.size := by omega
  have hOU := Lib.hid ou2
  have hB2 := Lib.hid b2
  have hQ2 := Lib.hid q2
  have hlO : ∀ k, (Value.slice ga s.t1.s.length gc).ownBlock = some k → k < w1.heap.size := fun k hk => (ou_lt k hk).2
  clear f1 f2 ou ou2 b1 b2 q2 HQ HT ou_lt
  go_wp2_with fail
  have hB3 : WB (w2.setCell ⟨w1.heap.size, 1, none⟩ (.int .i64 (0))) (w.heap.size + 1) _ _ _ _ _ := keepS hB2.out (by dsimp only; omega)
  have hO3 := hOU.out.keep ((Fr.refl [w1.heap.size] w2).setCell (p := ⟨w1.heap.size, 1, none⟩) (.inl (by simp)) (.int .i64 (0))) (fun k hk hm => by have := hlO k hk; simp at hm; omega)
  obtain ⟨W3, hW3, g3, q3, wv⟩ := five_fin (w := w) (k := 2) (s := 0) (n := 0) (e := 0) (u := (.slice ga s.t1.s.length gc)) (l := s.t1.s) hB3 (g2.setCell (p := ⟨w1.heap.size, 1, none⟩) (.inr (by dsimp only; omega)) (.int .i64 (0))) (Nat.le_succ _) (M := W0.heap.size) hO3 hz0
  rw [← hW3]
  obtain ⟨s0, s1, s2, s3, s4, _⟩ := q3.cells
  refine bodyPost_ret (v := .agg #[.int .i64 2, .int .i64 0, .int .i64 0, (.slice ga s.t1.s.length gc), .int .i64 0]) (by simp [results, Try.results70, go_sem, s0, s1, s2, s3, s4]) rfl ?_
  exact ⟨_, rfl, g3, wv⟩
set_option maxHeartbeats 4000000 in
theorem rs_close1 {w : World} {N : Nat → Prop} {s : SS} {a0 a1 : Option Addr} {k0 k1 : Nat} (h0 : Rv w N (.agg #[.int .i64 s.t0.stage, .int .i64 s.t0.limit, .int .i64 s.t0.rd, .int .i64 s.t0.wr, .slice a0 s.t0.s.length k0, .int .i64 s.t0.r, .int .i64 s.t0.w]) s.t0) (h1 : Rv w N (.agg #[.int .i64 s.t1.stage, .int .i64 s.t1.limit, .int .i64 s.t1.rd, .int .i64 s.t1.wr, .slice a1 s.t1.s.length k1, .int .i64 s.t1.r, .int .i64 s.t1.w]) s.t1) (hok : TOk s.t1) (hr : s.t1.rd ≤ 4611686018427387904)
    (hw : s.t1.w = 0) (h13 : s.t1.r = 13) (hc : s.c1 = false) (e1 : nextT s.t1 = ⟨4, 0, s.t1.wr, [], 0⟩) :
    Calls Try.prog 70 #[.agg #[.int .i64 s.t0.stage, .int .i64 s.t0.limit, .int .i64 s.t0.rd, .int .i64 s.t0.wr, .slice a0 s.t0.s.length k0, .int .i64 s.t0.r, .int .i64 s.t0.w, .int .i64 s.t1.stage, .int .i64 s.t1.limit, .int .i64 s.t1.rd, .int .i64 s.t1.wr, .slice a1 s.t1.s.length k1, .int .i64 s.t1.r, .int .i64 s.t1.w, .bool s.c0, .bool s.c1, .int .i64 s.first], .int .i64 1] w fun e w' => ∃ v, e = .returned v ∧ Fr [] w w' ∧ Wv w' w.heap.size v ⟨3, 0, 0, [], 0⟩ := by
  obtain ⟨W0, hW0, f0, hz0, b0, q0⟩ : ∃ W, (w.alloc (.cells #[.int .i64 s.t0.stage, .int .i64 s.t0.limit, .int .i64 s.t0.rd, .int .i64 s.t0.wr, .slice a0 s.t0.s.length k0, .int .i64 s.t0.r, .int .i64 s.t0.w, .int .i64 s.t1.stage, .int .i64 s.t1.limit, .int .i64 s.t1.rd, .int .i64 s.t1.wr, .slice a1 s.t1.s.length k1, .int .i64 s.t1.r, .int .i64 s.t1.w, .bool s.c0, .bool s.c1, .int .i64 s.first] 95)).alloc (.cells #[.int .i64 0, .int .i64 0, .int .i64 0, .slice none 0 0, .int .i64 0] 32) = W ∧ Fr [] w W ∧ w.heap.size + 1 < W.heap.size ∧ WB W (w.heap.size + 1) (.int .i64 0) (.int .i64 0) (.int .i64 0) (.slice none 0 0) (.int .i64 0) ∧ SB W w.heap.size (.int .i64 s.t0.stage) (.int .i64 s.t0.limit) (.int .i64 s.t0.rd) (.int .i64 s.t0.wr) (.slice a0 s.t0.s.length k0) (.int .i64 s.t0.r) (.int .i64 s.t0.w) (.int .i64 s.t1.stage) (.int .i64 s.t1.limit) (.int .i64 s.t1.rd) (.int .i64 s.t1.wr) (.slice a1 s.t1.s.length k1) (.int .i64 s.t1.r) (.int .i64 s.t1.w) (.bool s.c0) (.bool s.c1) (.int .i64 s.first) := ⟨_, rfl, ((Fr.refl _ _).alloc _).alloc _, by simp, newA (by simp), keepA (newA rfl)⟩
  have HT := Lib.hid (rt_next (h1.keep f0 (by simp)) hok hr)
  rw [e1] at HT
  have HQ := Lib.hid fun w1 (f : Fr [] W0 w1) => (show SB w1 w.heap.size (.int .i64 s.t0.stage) (.int .i64 s.t0.limit) (.int .i64 s.t0.rd) (.int .i64 s.t0.wr) (.slice a0 s.t0.s.length k0) (.int .i64 s.t0.r) (.int .i64 s.t0.w) (.int .i64 s.t1.stage) (.int .i64 s.t1.limit) (.int .i64 s.t1.rd) (.int .i64 s.t1.wr) (.slice a1 s.t1.s.length k1) (.int .i64 s.t1.r) (.int .i64 s.t1.w) (.bool s.c0) (.bool s.c1) (.int .i64 s.first) from f.keep q0 (by simp))
  obtain ⟨dc0, df0, dc1, df1, dc2, df2, dc3, df3, dc4, df4, dc5, df5, dc6, df6, dc7, df7, dc8, df8, dc9, df9, dc10, df10, dc11, df11, dc12, df12, dc13, df13, dc14, df14, dc15, df15, dc16, df16⟩ := q0.cells
  clear h0 h1 hok hr e1 q0
  replace hw := Lib.hid hw
  replace h13 := Lib.hid h13
  replace hc := Lib.hid hc
  go_enter Try.func70, Try.ntmps70
  go_wp2_with fail
  refine HT.out.mono ?_
  rintro e w1 ⟨v, rfl, f1, u, rfl, ou⟩
  obtain ⟨ga, gc, rfl, _⟩ := ou.formB
  have ou_lt := ou.lt
  have b1 : WB w1 (w.heap.size + 1) _ _ _ _ _ := f1.keep b0 (by simp)
  have hz1 : w.heap.size + 1 < w1.heap.size := Nat.lt_of_lt_of_le hz0 f1.size
  clear dc0 df0 dc1 df1 dc2 df2 dc3 df3 dc4 df4 dc5 df5 dc6 df6 dc7 df7 dc8 df8 dc9 df9 dc10 df10 dc11 df11 dc12 df12 dc13 df13 dc14 df14 dc15 df15 dc16 df16 b0 hW0
  try simp only [List.length_nil] at ou ⊢
  obtain ⟨w2, hw2, f2, q2⟩ : ∃ W, w1.alloc (.cells #[.int .i64 4, .int .i64 0, .int .i64 s.t1.wr, .slice ga 0 gc, .int .i64 0] 32) = W ∧ Fr [] w1 W ∧ WB W w1.heap.size (.int .i64 4) (.int .i64 0) (.int .i64 s.t1.wr) (.slice ga 0 gc) (.int .i64 0) := ⟨_, rfl, (Fr.refl _ _).alloc _, newA rfl⟩
  have b2 : WB w2 (w.heap.size + 1) _ _ _ _ _ := f2.keep b1 (by simp)
  have g2 := (f0.then0 f1).then0 f2
  have ou2 := ou.keep f2 (by simp)
  obtain ⟨dc0, df0, dc1, df1, dc2, df2, dc3, df3, dc4, df4, dc5, df5, dc6, df6, dc7, df7, dc8, df8, dc9, df9, dc10, df10, dc11, df11, dc12, df12, dc13, df13, dc14, df14, dc15, df15, dc16, df16⟩ := (HQ.out _ (f1.then0 f2)).cells
  have hsid : w2.setCell ⟨w1.heap.size, 4, none⟩ (.int .i64 0) = w2 := setCell_id q2 rfl
  obtain ⟨x0, x1, x2, x3, x4, x5, x6, x7, x8, x9⟩ := q2.cells
  obtain ⟨r0, r1, r2, r3, r4, r5, r6, r7, r8, r9⟩ := b2.cells
  have hne : w1.heap.size ≠ w.heap.size + 1 := by omega
  have hne2 : w.heap.size + 1 ≠ w1.heap.size := by omega
  have hOU := Lib.hid ou2
  have hB2 := Lib.hid b2
  have hQ2 := Lib.hid q2
  have hlO : ∀ k, (Value.slice ga 0 gc).ownBlock = some k → k < w1.heap.size := fun k hk => (ou_lt k hk).2
  clear f1 f2 ou ou2 b1 b2 q2 HQ HT ou_lt
  replace hw := hw.out
  replace h13 := h13.out
  replace hc := hc.out
  rw [hw] at dc13
  rw [h13] at dc12
  rw [hc] at dc15
  go_wp2_with fail
  obtain ⟨W3, hW3, g3, q3, wv⟩ := five_fin (w := w) (k := 3) (s := 0) (n := 0) (e := 0) (u := (.slice none 0 0)) (l := []) hB2.out g2 (Nat.le_succ _) (M := w.heap.size + 1 + 1) (Ow.nil _ _ _) (Nat.lt_succ_self _)
  rw [← hW3]
  obtain ⟨s0, s1, s2, s3, s4, _⟩ := q3.cells
  refine bodyPost_ret (v := .agg #[.int .i64 3, .int .i64 0, .int .i64 0, (.slice none 0 0), .int .i64 0]) (by simp [results, Try.results70, go_sem, s0, s1, s2, s3, s4]) rfl ?_
  exact ⟨_, rfl, g3, wv⟩
set_option maxHeartbeats 4000000 in
theorem rs_read1 {w : World} {N : Nat → Prop} {s : SS} {a0 a1 : Option Addr} {k0 k1 : Nat} (h0 : Rv w N (.agg #[.int .i64 s.t0.stage, .int .i64 s.t0.limit, .int .i64 s.t0.rd, .int .i64 s.t0.wr, .slice a0 s.t0.s.length k0, .int .i64 s.t0.r, .int .i64 s.t0.w]) s.t0) (h1 : Rv w N (.agg #[.int .i64 s.t1.stage, .int .i64 s.t1.limit, .int .i64 s.t1.rd, .int .i64 s.t1.wr, .slice a1 s.t1.s.length k1, .int .i64 s.t1.r, .int .i64 s.t1.w]) s.t1) (hok : TOk s.t1) (hr : s.t1.rd ≤ 4611686018427387904)
    {n : Int} (e1 : nextT s.t1 = ⟨1, 0, n, [], 0⟩) :
    Calls Try.prog 70 #[.agg #[.int .i64 s.t0.stage, .int .i64 s.t0.limit, .int .i64 s.t0.rd, .int .i64 s.t0.wr, .slice a0 s.t0.s.length k0, .int .i64 s.t0.r, .int .i64 s.t0.w, .int .i64 s.t1.stage, .int .i64 s.t1.limit, .int .i64 s.t1.rd, .int .i64 s.t1.wr, .slice a1 s.t1.s.length k1, .int .i64 s.t1.r, .int .i64 s.t1.w, .bool s.c0, .bool s.c1, .int .i64 s.first], .int .i64 1] w fun e w' => ∃ v, e = .returned v ∧ Fr [] w w' ∧ Wv w' w.heap.size v ⟨1, 1, n, [], 0⟩ := by
  obtain ⟨W0, hW0, f0, hz0, b0, q0⟩ : ∃ W, (w.alloc (.cells #[.int .i64 s.t0.stage, .int .i64 s.t0.limit, .int .i64 s.t0.rd, .int .i64 s.t0.wr, .slice a0 s.t0.s.length k0, .int .i64 s.t0.r, .int .i64 s.t0.w, .int .i64 s.t1.stage, .int .i64 s.t1.limit, .int .i64 s.t1.rd, .int .i64 s.t1.wr, .slice a1 s.t1.s.length k1, .int .i64 s.t1.r, .int .i64 s.t1.w, .bool s.c0, .bool s.c1, .int .i64 s.first] 95)).alloc (.cells #[.int .i64 0, .int .i64 0, .int .i64 0, .slice none 0 0, .int .i64 0] 32) = W ∧ Fr [] w W ∧ w.heap.size + 1 < W.heap.size ∧ WB W (w.heap.size + 1) (.int .i64 0) (.int .i64 0) (.int .i64 0) (.slice none 0 0) (.int .i64 0) ∧ SB W w.heap.size (.int .i64 s.t0.stage) (.int .i64 s.t0.limit) (.int .i64 s.t0.rd) (.int .i64 s.t0.wr) (.slice a0 s.t0.s.length k0) (.int .i64 s.t0.r) (.int .i64 s.t0.w) (.int .i64 s.t1.stage) (.int .i64 s.t1.limit) (.int .i64 s.t1.rd) (.int .i64 s.t1.wr) (.slice a1 s.t1.s.length k1) (.int .i64 s.t1.r) (.int .i64 s.t1.w) (.bool s.c0) (.bool s.c1) (.int .i64 s.first) := ⟨_, rfl, ((Fr.refl _ _).alloc _).alloc _, by simp, newA (by simp), keepA (newA rfl)⟩
  have HT := Lib.hid (rt_next (h1.keep f0 (by simp)) hok hr)
  rw [e1] at HT
  have HQ := Lib.hid fun w1 (f : Fr [] W0 w1) => (show SB w1 w.heap.size (.int .i64 s.t0.stage) (.int .i64 s.t0.limit) (.int .i64 s.t0.rd) (.int .i64 s.t0.wr) (.slice a0 s.t0.s.length k0) (.int .i64 s.t0.r) (.int .i64 s.t0.w) (.int .i64 s.t1.stage) (.int .i64 s.t1.limit) (.int .i64 s.t1.rd) (.int .i64 s.t1.wr) (.slice a1 s.t1.s.length k1) (.int .i64 s.t1.r) (.int .i64 s.t1.w) (.bool s.c0) (.bool s.c1) (.int .i64 s.first) from f.keep q0 (by simp))
  obtain ⟨dc0, df0, dc1, df1, dc2, df2, dc3, df3, dc4, df4, dc5, df5, dc6, df6, dc7, df7, dc8, df8, dc9, df9, dc10, df10, dc11, df11, dc12, df12, dc13, df13, dc14, df14, dc15, df15, dc16, df16⟩ := q0.cells
  clear h0 h1 hok hr e1 q0
  go_enter Try.func70, Try.ntmps70
  go_wp2_with fail
  refine HT.out.mono ?_
  rintro e w1 ⟨v, rfl, f1, u, rfl, ou⟩
  obtain ⟨ga, gc, rfl, _⟩ := ou.formB
  have ou_lt := ou.lt
  have b1 : WB w1 (w.heap.size + 1) _ _ _ _ _ := f1.keep b0 (by simp)
  have hz1 : w.heap.size + 1 < w1.heap.size := Nat.lt_of_lt_of_le hz0 f1.size
  clear dc0 df0 dc1 df1 dc2 df2 dc3 df3 dc4 df4 dc5 df5 dc6 df6 dc7 df7 dc8 df8 dc9 df9 dc10 df10 dc11 df11 dc12 df12 dc13 df13 dc14 df14 dc15 df15 dc16 df16 b0 hW0
  try simp only [List.length_nil] at ou ⊢
  obtain ⟨w2, hw2, f2, q2⟩ : ∃ W, w1.alloc (.cells #[.int .i64 1, .int .i64 0, .int .i64 n, .slice ga 0 gc, .int .i64 0] 32) = W ∧ Fr [] w1 W ∧ WB W w1.heap.size (.int .i64 1) (.int .i64 0) (.int .i64 n) (.slice ga 0 gc) (.int .i64 0) := ⟨_, rfl, (Fr.refl _ _).alloc _, newA rfl⟩
  have b2 : WB w2 (w.heap.size + 1) _ _ _ _ _ := f2.keep b1 (by simp)
  have g2 := (f0.then0 f1).then0 f2
  have ou2 := ou.keep f2 (by simp)
  obtain ⟨dc0, df0, dc1, df1, dc2, df2, dc3, df3, dc4, df4, dc5, df5, dc6, df6, dc7, df7, dc8, df8, dc9, df9, dc10, df10, dc11, df11, dc12, df12, dc13, df13, dc14, df14, dc15, df15, dc16, df16⟩ := (HQ.out _ (f1.then0 f2)).cells
  have hsid : w2.setCell ⟨w1.heap.size, 4, none⟩ (.int .i64 0) = w2 := setCell_id q2 rfl
  obtain ⟨x0, x1, x2, x3, x4, x5, x6, x7, x8, x9⟩ := q2.cells
  obtain ⟨r0, r1, r2, r3, r4, r5, r6, r7, r8, r9⟩ := b2.cells
  have hne : w1.heap.size ≠ w.heap.size + 1 := by omega
  have hne2 : w.heap.size + 1 ≠ w1.heap.size := by omega
  have hOU := Lib.hid ou2
  have hB2 := Lib.hid b2
  have hQ2 := Lib.hid q2
  have hlO : ∀ k, (Value.slice ga 0 gc).ownBlock = some k → k < w1.heap.size := fun k hk => (ou_lt k hk).2
  clear f1 f2 ou ou2 b1 b2 q2 HQ HT ou_lt
  go_wp2_with fail
  have hB3 : WB (w2.setCell ⟨w1.heap.size, 1, none⟩ (.int .i64 (1))) (w.heap.size + 1) _ _ _ _ _ := keepS hB2.out (by dsimp only; omega)
  have hO3 := hOU.out.keep ((Fr.refl [w1.heap.size] w2).setCell (p := ⟨w1.heap.size, 1, none⟩) (.inl (by simp)) (.int .i64 (1))) (fun k hk hm => by have := hlO k hk; simp at hm; omega)
  obtain ⟨W3, hW3, g3, q3, wv⟩ := five_fin (w := w) (k := 1) (s := 1) (n := n) (e := 0) (u := (.slice ga 0 gc)) (l := []) hB3 (g2.setCell (p := ⟨w1.heap.size, 1, none⟩) (.inr (by dsimp only; omega)) (.int .i64 (1))) (Nat.le_succ _) (M := W0.heap.size) hO3 hz0
  rw [← hW3]
  obtain ⟨s0, s1, s2, s3, s4, _⟩ := q3.cells
  refine bodyPost_ret (v := .agg #[.int .i64 1, .int .i64 1, .int .i64 n, (.slice ga 0 gc), .int .i64 0]) (by simp [results, Try.results70, go_sem, s0, s1, s2, s3, s4]) rfl ?_
  exact ⟨_, rfl, g3, wv⟩
theorem rs_next1 {w : World} {N : Nat → Prop} {v : Value} {s : SS} (h : Rsp w N v s) (hok : TOk s.t1) (hr : s.t1.rd ≤ 4611686018427387904) :
    Calls Try.prog 70 #[v, .int .i64 1] w fun e w' => ∃ v, e = .returned v ∧ Fr [] w w' ∧ Wv w' w.heap.size v (nextS s.t1 s.c1 1) := by
  obtain ⟨a0, k0, a1, k1, rfl, h0, h1⟩ := h
  rcases nextS_cases s.t1 s.c1 1 with ⟨hw, e1, e2⟩ | ⟨_, _, e1, e2⟩ | ⟨hw, h13, hc, e1, e2⟩ | ⟨hw, hc, e1, e2⟩ | ⟨n, e1, e2⟩ <;> rw [e2]
  · exact rs_fail1 h0 h1 hok hr hw e1
  · exact rs_write1 h0 h1 hok hr e1
  · exact rs_close1 h0 h1 hok hr hw h13 hc e1
  · exact rs_done1 h0 h1 hok hr hw hc e1
  · exact rs_read1 h0 h1 hok hr e1
end Go.Proofs.Ytodpkdbcdbdjfaa
