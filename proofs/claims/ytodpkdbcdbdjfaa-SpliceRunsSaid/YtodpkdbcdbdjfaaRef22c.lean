/-
  The reference of law 22: Close, Done, and the answers for a side that is none.
-/
import Derived.Test.YtodpkdbcdbdjfaaRef22b
import Derived.BigRegion
namespace Go.Proofs.Ytodpkdbcdbdjfaa
open Go.RowKit
set_option maxRecDepth 100000

theorem rs_got_bad {w : World} {N : Nat → Prop} {v : Value} {s : SS} (h : Rsp w N v s) {i : Int} (hi : (i == 0) = false) (hi1 : (i == 1) = false) (pa : Option Addr) (pl pc : Nat) (e : Int) :
    Calls Try.prog 72 #[v, .int .i64 i, .slice pa pl pc, .int .i64 e] w fun x w' => ∃ u, x = .returned (.tuple #[u, .int .i64 2]) ∧ Fr [] w w' ∧ Rsp w' N u s := by
  obtain ⟨a0, k0, a1, k1, rfl, h0, h1⟩ := h
  obtain ⟨W0, hW0, f0, q0, p0⟩ : ∃ W, (w.alloc (.cells #[.int .i64 s.t0.stage, .int .i64 s.t0.limit, .int .i64 s.t0.rd, .int .i64 s.t0.wr, .slice a0 s.t0.s.length k0, .int .i64 s.t0.r, .int .i64 s.t0.w, .int .i64 s.t1.stage, .int .i64 s.t1.limit, .int .i64 s.t1.rd, .int .i64 s.t1.wr, .slice a1 s.t1.s.length k1, .int .i64 s.t1.r, .int .i64 s.t1.w, .bool s.c0, .bool s.c1, .int .i64 s.first] 95)).alloc (.cells #[.int .i64 0, .int .i64 0, .int .i64 0, .int .i64 0, .slice none 0 0, .int .i64 0, .int .i64 0, .int .i64 0, .int .i64 0, .int .i64 0, .int .i64 0, .slice none 0 0, .int .i64 0, .int .i64 0, .bool false, .bool false, .int .i64 0] 95) = W ∧ Fr [] w W ∧ SBs W w.heap.size a0 k0 a1 k1 s.t0 s.t1 s.c0 s.c1 s.first ∧ SB W (w.heap.size + 1) (.int .i64 0) (.int .i64 0) (.int .i64 0) (.int .i64 0) (.slice none 0 0) (.int .i64 0) (.int .i64 0) (.int .i64 0) (.int .i64 0) (.int .i64 0) (.int .i64 0) (.slice none 0 0) (.int .i64 0) (.int .i64 0) (.bool false) (.bool false) (.int .i64 0) := ⟨_, rfl, ((Fr.refl _ _).alloc _).alloc _, keepA (newA rfl), newA (by simp)⟩
  have HSD := Lib.hid (show Calls Try.prog 32 #[.int .i64 i] W0 fun e w' => e = .returned (.bool false) ∧ W0 = w' from by have := rs_side W0 i; rw [hi, hi1] at this; exact this)
  obtain ⟨w5, hw5, q5, f5⟩ := sbs_set p0 a0 k0 a1 k1 s.t0 s.t1 s.c0 s.c1 s.first
  have gf := Lib.hid (f0.trans f5 (U := []) (by simp) (fun x hx => .inr (by simp at hx; omega)))
  have H := Lib.hid (And.intro h0 h1)
  have Q5 := Lib.hid q5
  clear h0 h1 hi hi1 q5 f5 f0
  go_enter Try.func72, Try.ntmps72
  go_wp2_with fail
  refine HSD.out.mono ?_
  rintro e1 w' ⟨rfl, rfl⟩
  clear HSD
  go_wp2_with (first | refine sbs_loadW q0 rfl (.tmp 4) rfl (by rfl) ?_ | refine sbs_storeW p0 hw5 rfl (.tmp 8) (.tmp 15) rfl rfl (by rfl) (by rfl) ?_)
  refine bodyPost_ret (sbs_result2 Q5.out rfl rfl rfl) rfl ?_
  exact ⟨_, rfl, gf.out, a0, k0, a1, k1, rfl, H.out.1.keep gf.out (by simp), H.out.2.keep gf.out (by simp)⟩

theorem rs_wrote_bad {w : World} {N : Nat → Prop} {v : Value} {s : SS} (h : Rsp w N v s) {i : Int} (hi : (i == 0) = false) (hi1 : (i == 1) = false) (n e : Int) :
    Calls Try.prog 73 #[v, .int .i64 i, .int .i64 n, .int .i64 e] w fun x w' => ∃ u, x = .returned (.tuple #[u, .int .i64 2]) ∧ Fr [] w w' ∧ Rsp w' N u s := by
  obtain ⟨a0, k0, a1, k1, rfl, h0, h1⟩ := h
  obtain ⟨W0, hW0, f0, q0, p0⟩ : ∃ W, (w.alloc (.cells #[.int .i64 s.t0.stage, .int .i64 s.t0.limit, .int .i64 s.t0.rd, .int .i64 s.t0.wr, .slice a0 s.t0.s.length k0, .int .i64 s.t0.r, .int .i64 s.t0.w, .int .i64 s.t1.stage, .int .i64 s.t1.limit, .int .i64 s.t1.rd, .int .i64 s.t1.wr, .slice a1 s.t1.s.length k1, .int .i64 s.t1.r, .int .i64 s.t1.w, .bool s.c0, .bool s.c1, .int .i64 s.first] 95)).alloc (.cells #[.int .i64 0, .int .i64 0, .int .i64 0, .int .i64 0, .slice none 0 0, .int .i64 0, .int .i64 0, .int .i64 0, .int .i64 0, .int .i64 0, .int .i64 0, .slice none 0 0, .int .i64 0, .int .i64 0, .bool false, .bool false, .int .i64 0] 95) = W ∧ Fr [] w W ∧ SBs W w.heap.size a0 k0 a1 k1 s.t0 s.t1 s.c0 s.c1 s.first ∧ SB W (w.heap.size + 1) (.int .i64 0) (.int .i64 0) (.int .i64 0) (.int .i64 0) (.slice none 0 0) (.int .i64 0) (.int .i64 0) (.int .i64 0) (.int .i64 0) (.int .i64 0) (.int .i64 0) (.slice none 0 0) (.int .i64 0) (.int .i64 0) (.bool false) (.bool false) (.int .i64 0) := ⟨_, rfl, ((Fr.refl _ _).alloc _).alloc _, keepA (newA rfl), newA (by simp)⟩
  have HSD := Lib.hid (show Calls Try.prog 32 #[.int .i64 i] W0 fun e w' => e = .returned (.bool false) ∧ W0 = w' from by have := rs_side W0 i; rw [hi, hi1] at this; exact this)
  obtain ⟨w5, hw5, q5, f5⟩ := sbs_set p0 a0 k0 a1 k1 s.t0 s.t1 s.c0 s.c1 s.first
  have gf := Lib.hid (f0.trans f5 (U := []) (by simp) (fun x hx => .inr (by simp at hx; omega)))
  have H := Lib.hid (And.intro h0 h1)
  have Q5 := Lib.hid q5
  clear h0 h1 hi hi1 q5 f5 f0
  go_enter Try.func73, Try.ntmps73
  go_wp2_with fail
  refine HSD.out.mono ?_
  rintro e1 w' ⟨rfl, rfl⟩
  clear HSD
  go_wp2_with (first | refine sbs_loadW q0 rfl (.tmp 4) rfl (by rfl) ?_ | refine sbs_storeW p0 hw5 rfl (.tmp 8) (.tmp 15) rfl rfl (by rfl) (by rfl) ?_)
  refine bodyPost_ret (sbs_result2 Q5.out rfl rfl rfl) rfl ?_
  exact ⟨_, rfl, gf.out, a0, k0, a1, k1, rfl, H.out.1.keep gf.out (by simp), H.out.2.keep gf.out (by simp)⟩

theorem rs_close_bad {w : World} {N : Nat → Prop} {v : Value} {s : SS} (h : Rsp w N v s) {i : Int} (hi : (i == 0) = false) (hi1 : (i == 1) = false)  :
    Calls Try.prog 74 #[v, .int .i64 i] w fun x w' => ∃ u, x = .returned (.tuple #[u, .int .i64 2]) ∧ Fr [] w w' ∧ Rsp w' N u s := by
  obtain ⟨a0, k0, a1, k1, rfl, h0, h1⟩ := h
  obtain ⟨W0, hW0, f0, q0, p0⟩ : ∃ W, (w.alloc (.cells #[.int .i64 s.t0.stage, .int .i64 s.t0.limit, .int .i64 s.t0.rd, .int .i64 s.t0.wr, .slice a0 s.t0.s.length k0, .int .i64 s.t0.r, .int .i64 s.t0.w, .int .i64 s.t1.stage, .int .i64 s.t1.limit, .int .i64 s.t1.rd, .int .i64 s.t1.wr, .slice a1 s.t1.s.length k1, .int .i64 s.t1.r, .int .i64 s.t1.w, .bool s.c0, .bool s.c1, .int .i64 s.first] 95)).alloc (.cells #[.int .i64 0, .int .i64 0, .int .i64 0, .int .i64 0, .slice none 0 0, .int .i64 0, .int .i64 0, .int .i64 0, .int .i64 0, .int .i64 0, .int .i64 0, .slice none 0 0, .int .i64 0, .int .i64 0, .bool false, .bool false, .int .i64 0] 95) = W ∧ Fr [] w W ∧ SBs W w.heap.size a0 k0 a1 k1 s.t0 s.t1 s.c0 s.c1 s.first ∧ SB W (w.heap.size + 1) (.int .i64 0) (.int .i64 0) (.int .i64 0) (.int .i64 0) (.slice none 0 0) (.int .i64 0) (.int .i64 0) (.int .i64 0) (.int .i64 0) (.int .i64 0) (.int .i64 0) (.slice none 0 0) (.int .i64 0) (.int .i64 0) (.bool false) (.bool false) (.int .i64 0) := ⟨_, rfl, ((Fr.refl _ _).alloc _).alloc _, keepA (newA rfl), newA (by simp)⟩
  have HSD := Lib.hid (show Calls Try.prog 32 #[.int .i64 i] W0 fun e w' => e = .returned (.bool false) ∧ W0 = w' from by have := rs_side W0 i; rw [hi, hi1] at this; exact this)
  obtain ⟨w5, hw5, q5, f5⟩ := sbs_set p0 a0 k0 a1 k1 s.t0 s.t1 s.c0 s.c1 s.first
  have gf := Lib.hid (f0.trans f5 (U := []) (by simp) (fun x hx => .inr (by simp at hx; omega)))
  have H := Lib.hid (And.intro h0 h1)
  have Q5 := Lib.hid q5
  clear h0 h1 hi hi1 q5 f5 f0
  go_enter Try.func74, Try.ntmps74
  go_wp2_with fail
  refine HSD.out.mono ?_
  rintro e1 w' ⟨rfl, rfl⟩
  clear HSD
  go_wp2_with (first | refine sbs_loadW q0 rfl (.tmp 2) rfl (by rfl) ?_ | refine sbs_storeW p0 hw5 rfl (.tmp 4) (.tmp 9) rfl rfl (by rfl) (by rfl) ?_)
  refine bodyPost_ret (sbs_result2 Q5.out rfl rfl rfl) rfl ?_
  exact ⟨_, rfl, gf.out, a0, k0, a1, k1, rfl, H.out.1.keep gf.out (by simp), H.out.2.keep gf.out (by simp)⟩

set_option maxHeartbeats 8000000 in
theorem rs_closed0 {w : World} {N : Nat → Prop} {v : Value} {s : SS} (h : Rsp w N v s) (ok0 : TOk s.t0) (ok1 : TOk s.t1) (r0 : s.t0.rd ≤ 4611686018427387904) (r1 : s.t1.rd ≤ 4611686018427387904) :
    Calls Try.prog 74 #[v, .int .i64 0] w fun x w' => ∃ u, x = .returned (.tuple #[u, .int .i64 (closeE (nextS s.t0 s.c0 0))]) ∧ Fr [] w w' ∧ Rsp w' N u (if (nextS s.t0 s.c0 0).kind = 3 then noteR { s with c0 := true } else s) := by
  have hfld : ∀ (x0 x1 x2 x3 x4 : Value) (w : World), (Instr.field 32 (.agg #[x0, x1, x2, x3, x4]) 0).run Try.prog w = .ok x0 w := fun _ _ _ _ _ _ => by kernel_rfl
  obtain ⟨a0, k0, a1, k1, rfl, h0, h1⟩ := h
  obtain ⟨W0, hW0, f0, q0, p0⟩ : ∃ W, (w.alloc (.cells #[.int .i64 s.t0.stage, .int .i64 s.t0.limit, .int .i64 s.t0.rd, .int .i64 s.t0.wr, .slice a0 s.t0.s.length k0, .int .i64 s.t0.r, .int .i64 s.t0.w, .int .i64 s.t1.stage, .int .i64 s.t1.limit, .int .i64 s.t1.rd, .int .i64 s.t1.wr, .slice a1 s.t1.s.length k1, .int .i64 s.t1.r, .int .i64 s.t1.w, .bool s.c0, .bool s.c1, .int .i64 s.first] 95)).alloc (.cells #[.int .i64 0, .int .i64 0, .int .i64 0, .int .i64 0, .slice none 0 0, .int .i64 0, .int .i64 0, .int .i64 0, .int .i64 0, .int .i64 0, .int .i64 0, .slice none 0 0, .int .i64 0, .int .i64 0, .bool false, .bool false, .int .i64 0] 95) = W ∧ Fr [] w W ∧ SBs W w.heap.size a0 k0 a1 k1 s.t0 s.t1 s.c0 s.c1 s.first ∧ SB W (w.heap.size + 1) (.int .i64 0) (.int .i64 0) (.int .i64 0) (.int .i64 0) (.slice none 0 0) (.int .i64 0) (.int .i64 0) (.int .i64 0) (.int .i64 0) (.int .i64 0) (.int .i64 0) (.slice none 0 0) (.int .i64 0) (.int .i64 0) (.bool false) (.bool false) (.int .i64 0) := ⟨_, rfl, ((Fr.refl _ _).alloc _).alloc _, keepA (newA rfl), newA (by simp)⟩
  have h0' : Rv W0 (fun x => N x ∧ x ≠ w.heap.size ∧ x ≠ w.heap.size + 1) (.agg #[.int .i64 s.t0.stage, .int .i64 s.t0.limit, .int .i64 s.t0.rd, .int .i64 s.t0.wr, .slice a0 s.t0.s.length k0, .int .i64 s.t0.r, .int .i64 s.t0.w]) s.t0 := (h0.there.keep f0 (by simp)).mono (fun x hx => ⟨hx.1, by omega, by omega⟩)
  have h1' : Rv W0 (fun x => N x ∧ x ≠ w.heap.size ∧ x ≠ w.heap.size + 1) (.agg #[.int .i64 s.t1.stage, .int .i64 s.t1.limit, .int .i64 s.t1.rd, .int .i64 s.t1.wr, .slice a1 s.t1.s.length k1, .int .i64 s.t1.r, .int .i64 s.t1.w]) s.t1 := (h1.there.keep f0 (by simp)).mono (fun x hx => ⟨hx.1, by omega, by omega⟩)
  have HSD := Lib.hid (show Calls Try.prog 32 #[.int .i64 0] W0 fun e w' => e = .returned (.bool true) ∧ W0 = w' from rs_side W0 0)
  have HN := Lib.hid (rs_nextF0 (c0 := s.c0) (c1 := s.c1) h0' h1' ok0 r0 s.first)
  have HNT := Lib.hid fun (w1 : World) (g0 : Rv w1 (fun x => N x ∧ x ≠ w.heap.size ∧ x ≠ w.heap.size + 1) (.agg #[.int .i64 s.t0.stage, .int .i64 s.t0.limit, .int .i64 s.t0.rd, .int .i64 s.t0.wr, .slice a0 s.t0.s.length k0, .int .i64 s.t0.r, .int .i64 s.t0.w]) s.t0) (g1 : Rv w1 (fun x => N x ∧ x ≠ w.heap.size ∧ x ≠ w.heap.size + 1) (.agg #[.int .i64 s.t1.stage, .int .i64 s.t1.limit, .int .i64 s.t1.rd, .int .i64 s.t1.wr, .slice a1 s.t1.s.length k1, .int .i64 s.t1.r, .int .i64 s.t1.w]) s.t1) (c0 c1 : Bool) => rs_noted (c0 := c0) (c1 := c1) (sf := s.first) g0 g1 ok0 ok1 r0 r1
  have H := Lib.hid (And.intro h0' h1')
  have hz0 := lt_of_heap p0
  have F0 := Lib.hid f0
  clear h0 h1 h0' h1' ok0 ok1 r0 r1 f0
  obtain ⟨x, hX⟩ : ∃ x, nextS s.t0 s.c0 0 = x := ⟨_, rfl⟩
  rw [hX] at HN ⊢
  clear hX
  obtain ⟨xk, xs, xn, xd, xe⟩ := x
  unfold closeE
  dsimp only
  go_enter Try.func74, Try.ntmps74
  go_wp2_with fail
  refine HSD.out.mono ?_
  rintro e1 w' ⟨rfl, rfl⟩
  clear HSD
  go_wp2_with (refine sbs_loadW q0 rfl (.tmp 2) rfl (by rfl) ?_)
  refine HN.out.mono ?_
  rintro e1 w1 ⟨u, rfl, f1, u2, rfl, ou⟩
  obtain ⟨ga, gc, rfl, _⟩ := ou.formB
  have q1 := SBs.keep q0 f1 (by simp)
  have p1 : SB w1 (w.heap.size + 1) _ _ _ _ _ _ _ _ _ _ _ _ _ _ _ _ _ := f1.keep p0 (by simp)
  have hn : ∀ x ∈ [w.heap.size + 1], ¬ (N x ∧ x ≠ w.heap.size ∧ x ≠ w.heap.size + 1) := by simp
  have hn0 : ∀ x ∈ [w.heap.size], ¬ (N x ∧ x ≠ w.heap.size ∧ x ≠ w.heap.size + 1) := by simp
  replace H := Lib.hid (And.intro (H.out.1.keep f1 (by simp)) (H.out.2.keep f1 (by simp)))
  replace F0 := Lib.hid (F0.out.then0 f1)
  clear HN ou hW0 q0 p0
  by_cases hk : xk = 3
  · have hk' : (xk != 3) = false := by simpa using hk
    have HK := Lib.hid hk
    have z14 : w1.frozen? ⟨w.heap.size, 14, none⟩ = false := free_of q1
    have c14 : w1.cell? ⟨w.heap.size, 14, none⟩ = some (.bool s.c0) := cell_of q1
    obtain ⟨w2, hw2, q2, f2⟩ : ∃ W, w1.setCell ⟨w.heap.size, 14, none⟩ (.bool true) = W ∧ SBs W w.heap.size a0 k0 a1 k1 s.t0 s.t1 true s.c1 s.first ∧ Fr [w.heap.size] w1 W := ⟨_, rfl, SBs.setC0 q1 true, (Fr.refl _ _).setCell (.inl (by simp)) _⟩
    have p2 : SB w2 (w.heap.size + 1) _ _ _ _ _ _ _ _ _ _ _ _ _ _ _ _ _ := f2.keep p1 (by simp)
    have HT := Lib.hid (HNT.out w2 (H.out.1.keep f2 hn0) (H.out.2.keep f2 hn0) true s.c1)
    replace H := Lib.hid (And.intro (H.out.1.keep f2 hn0) (H.out.2.keep f2 hn0))
    have G2 := Lib.hid (F0.out.trans f2 (U := []) (by simp) (fun x hx => .inr (by simp at hx; omega)))
    clear HNT F0 hk q1 p1 f2
    go_wp2_with (refine sbs_loadW q2 rfl (.tmp 2) rfl (by rfl) ?_)
    refine HT.out.mono ?_
    rintro e1 w4 ⟨rfl, f4⟩
    have p5 : SB w4 (w.heap.size + 1) _ _ _ _ _ _ _ _ _ _ _ _ _ _ _ _ _ := f4.keep p2 (by simp)
    obtain ⟨w5, hw5, q5, f5⟩ := sbs_set p5 a0 k0 a1 k1 s.t0 s.t1 true s.c1 (noteF (noteF s.first (nextS s.t0 true 0)) (nextS s.t1 s.c1 1))
    have Q5 := Lib.hid q5
    have F35 := Lib.hid ((f4.mono (T := [w.heap.size + 1]) (by simp)).then f5)
    clear HT q2 p2 q5 f4 f5 hw2
    go_wp2_with (refine sbs_storeW p5 hw5 rfl (.tmp 4) (.tmp 20) rfl rfl (by rfl) (by rfl) ?_)
    refine bodyPost_ret (sbs_result2 Q5.out rfl rfl rfl) rfl ?_
    refine ⟨_, (by first | rfl | (rw [if_pos HK.out]; rfl)), G2.out.trans F35.out (by simp) (fun x hx => .inr (by simp at hx; omega)), ?_⟩
    try rw [if_pos HK.out]
    exact ⟨a0, k0, a1, k1, rfl, (H.out.1.keep F35.out hn).mono (fun x hx => hx.1), (H.out.2.keep F35.out hn).mono (fun x hx => hx.1)⟩
  · have hk' : (xk != 3) = true := by simpa using hk
    have HK := Lib.hid hk
    clear hk
    obtain ⟨w5, hw5, q5, f5⟩ := sbs_set p1 a0 k0 a1 k1 s.t0 s.t1 s.c0 s.c1 s.first
    have Q5 := Lib.hid q5
    have F5 := Lib.hid f5
    clear HNT q5 f5
    go_wp2_with (first | refine sbs_loadW q1 rfl (.tmp 2) rfl (by rfl) ?_ | refine sbs_storeW p1 hw5 rfl (.tmp 4) (.tmp 15) rfl rfl (by rfl) (by rfl) ?_)
    refine bodyPost_ret (sbs_result2 Q5.out rfl rfl rfl) rfl ?_
    refine ⟨_, (by first | rfl | (rw [if_neg HK.out]; rfl)), F0.out.trans F5.out (by simp) (fun x hx => .inr (by simp at hx; omega)), ?_⟩
    try rw [if_neg HK.out]
    exact ⟨a0, k0, a1, k1, rfl, (H.out.1.keep F5.out hn).mono (fun x hx => hx.1), (H.out.2.keep F5.out hn).mono (fun x hx => hx.1)⟩

set_option maxHeartbeats 8000000 in
theorem rs_closed1 {w : World} {N : Nat → Prop} {v : Value} {s : SS} (h : Rsp w N v s) (ok0 : TOk s.t0) (ok1 : TOk s.t1) (r0 : s.t0.rd ≤ 4611686018427387904) (r1 : s.t1.rd ≤ 4611686018427387904) :
    Calls Try.prog 74 #[v, .int .i64 1] w fun x w' => ∃ u, x = .returned (.tuple #[u, .int .i64 (closeE (nextS s.t1 s.c1 1))]) ∧ Fr [] w w' ∧ Rsp w' N u (if (nextS s.t1 s.c1 1).kind = 3 then noteR { s with c1 := true } else s) := by
  have hfld : ∀ (x0 x1 x2 x3 x4 : Value) (w : World), (Instr.field 32 (.agg #[x0, x1, x2, x3, x4]) 0).run Try.prog w = .ok x0 w := fun _ _ _ _ _ _ => by kernel_rfl
  obtain ⟨a0, k0, a1, k1, rfl, h0, h1⟩ := h
  obtain ⟨W0, hW0, f0, q0, p0⟩ : ∃ W, (w.alloc (.cells #[.int .i64 s.t0.stage, .int .i64 s.t0.limit, .int .i64 s.t0.rd, .int .i64 s.t0.wr, .slice a0 s.t0.s.length k0, .int .i64 s.t0.r, .int .i64 s.t0.w, .int .i64 s.t1.stage, .int .i64 s.t1.limit, .int .i64 s.t1.rd, .int .i64 s.t1.wr, .slice a1 s.t1.s.length k1, .int .i64 s.t1.r, .int .i64 s.t1.w, .bool s.c0, .bool s.c1, .int .i64 s.first] 95)).alloc (.cells #[.int .i64 0, .int .i64 0, .int .i64 0, .int .i64 0, .slice none 0 0, .int .i64 0, .int .i64 0, .int .i64 0, .int .i64 0, .int .i64 0, .int .i64 0, .slice none 0 0, .int .i64 0, .int .i64 0, .bool false, .bool false, .int .i64 0] 95) = W ∧ Fr [] w W ∧ SBs W w.heap.size a0 k0 a1 k1 s.t0 s.t1 s.c0 s.c1 s.first ∧ SB W (w.heap.size + 1) (.int .i64 0) (.int .i64 0) (.int .i64 0) (.int .i64 0) (.slice none 0 0) (.int .i64 0) (.int .i64 0) (.int .i64 0) (.int .i64 0) (.int .i64 0) (.int .i64 0) (.slice none 0 0) (.int .i64 0) (.int .i64 0) (.bool false) (.bool false) (.int .i64 0) := ⟨_, rfl, ((Fr.refl _ _).alloc _).alloc _, keepA (newA rfl), newA (by simp)⟩
  have h0' : Rv W0 (fun x => N x ∧ x ≠ w.heap.size ∧ x ≠ w.heap.size + 1) (.agg #[.int .i64 s.t0.stage, .int .i64 s.t0.limit, .int .i64 s.t0.rd, .int .i64 s.t0.wr, .slice a0 s.t0.s.length k0, .int .i64 s.t0.r, .int .i64 s.t0.w]) s.t0 := (h0.there.keep f0 (by simp)).mono (fun x hx => ⟨hx.1, by omega, by omega⟩)
  have h1' : Rv W0 (fun x => N x ∧ x ≠ w.heap.size ∧ x ≠ w.heap.size + 1) (.agg #[.int .i64 s.t1.stage, .int .i64 s.t1.limit, .int .i64 s.t1.rd, .int .i64 s.t1.wr, .slice a1 s.t1.s.length k1, .int .i64 s.t1.r, .int .i64 s.t1.w]) s.t1 := (h1.there.keep f0 (by simp)).mono (fun x hx => ⟨hx.1, by omega, by omega⟩)
  have HSD := Lib.hid (show Calls Try.prog 32 #[.int .i64 1] W0 fun e w' => e = .returned (.bool true) ∧ W0 = w' from rs_side W0 1)
  have HN := Lib.hid (rs_nextF1 (c0 := s.c0) (c1 := s.c1) h0' h1' ok1 r1 s.first)
  have HNT := Lib.hid fun (w1 : World) (g0 : Rv w1 (fun x => N x ∧ x ≠ w.heap.size ∧ x ≠ w.heap.size + 1) (.agg #[.int .i64 s.t0.stage, .int .i64 s.t0.limit, .int .i64 s.t0.rd, .int .i64 s.t0.wr, .slice a0 s.t0.s.length k0, .int .i64 s.t0.r, .int .i64 s.t0.w]) s.t0) (g1 : Rv w1 (fun x => N x ∧ x ≠ w.heap.size ∧ x ≠ w.heap.size + 1) (.agg #[.int .i64 s.t1.stage, .int .i64 s.t1.limit, .int .i64 s.t1.rd, .int .i64 s.t1.wr, .slice a1 s.t1.s.length k1, .int .i64 s.t1.r, .int .i64 s.t1.w]) s.t1) (c0 c1 : Bool) => rs_noted (c0 := c0) (c1 := c1) (sf := s.first) g0 g1 ok0 ok1 r0 r1
  have H := Lib.hid (And.intro h0' h1')
  have hz0 := lt_of_heap p0
  have F0 := Lib.hid f0
  clear h0 h1 h0' h1' ok0 ok1 r0 r1 f0
  obtain ⟨x, hX⟩ : ∃ x, nextS s.t1 s.c1 1 = x := ⟨_, rfl⟩
  rw [hX] at HN ⊢
  clear hX
  obtain ⟨xk, xs, xn, xd, xe⟩ := x
  unfold closeE
  dsimp only
  go_enter Try.func74, Try.ntmps74
  go_wp2_with fail
  refine HSD.out.mono ?_
  rintro e1 w' ⟨rfl, rfl⟩
  clear HSD
  go_wp2_with (refine sbs_loadW q0 rfl (.tmp 2) rfl (by rfl) ?_)
  refine HN.out.mono ?_
  rintro e1 w1 ⟨u, rfl, f1, u2, rfl, ou⟩
  obtain ⟨ga, gc, rfl, _⟩ := ou.formB
  have q1 := SBs.keep q0 f1 (by simp)
  have p1 : SB w1 (w.heap.size + 1) _ _ _ _ _ _ _ _ _ _ _ _ _ _ _ _ _ := f1.keep p0 (by simp)
  have hn : ∀ x ∈ [w.heap.size + 1], ¬ (N x ∧ x ≠ w.heap.size ∧ x ≠ w.heap.size + 1) := by simp
  have hn0 : ∀ x ∈ [w.heap.size], ¬ (N x ∧ x ≠ w.heap.size ∧ x ≠ w.heap.size + 1) := by simp
  replace H := Lib.hid (And.intro (H.out.1.keep f1 (by simp)) (H.out.2.keep f1 (by simp)))
  replace F0 := Lib.hid (F0.out.then0 f1)
  clear HN ou hW0 q0 p0
  by_cases hk : xk = 3
  · have hk' : (xk != 3) = false := by simpa using hk
    have HK := Lib.hid hk
    have z14 : w1.frozen? ⟨w.heap.size, 15, none⟩ = false := free_of q1
    have c14 : w1.cell? ⟨w.heap.size, 15, none⟩ = some (.bool s.c1) := cell_of q1
    obtain ⟨w2, hw2, q2, f2⟩ : ∃ W, w1.setCell ⟨w.heap.size, 15, none⟩ (.bool true) = W ∧ SBs W w.heap.size a0 k0 a1 k1 s.t0 s.t1 s.c0 true s.first ∧ Fr [w.heap.size] w1 W := ⟨_, rfl, SBs.setC1 q1 true, (Fr.refl _ _).setCell (.inl (by simp)) _⟩
    have p2 : SB w2 (w.heap.size + 1) _ _ _ _ _ _ _ _ _ _ _ _ _ _ _ _ _ := f2.keep p1 (by simp)
    have HT := Lib.hid (HNT.out w2 (H.out.1.keep f2 hn0) (H.out.2.keep f2 hn0) s.c0 true)
    replace H := Lib.hid (And.intro (H.out.1.keep f2 hn0) (H.out.2.keep f2 hn0))
    have G2 := Lib.hid (F0.out.trans f2 (U := []) (by simp) (fun x hx => .inr (by simp at hx; omega)))
    clear HNT F0 hk q1 p1 f2
    go_wp2_with (refine sbs_loadW q2 rfl (.tmp 2) rfl (by rfl) ?_)
    refine HT.out.mono ?_
    rintro e1 w4 ⟨rfl, f4⟩
    have p5 : SB w4 (w.heap.size + 1) _ _ _ _ _ _ _ _ _ _ _ _ _ _ _ _ _ := f4.keep p2 (by simp)
    obtain ⟨w5, hw5, q5, f5⟩ := sbs_set p5 a0 k0 a1 k1 s.t0 s.t1 s.c0 true (noteF (noteF s.first (nextS s.t0 s.c0 0)) (nextS s.t1 true 1))
    have Q5 := Lib.hid q5
    have F35 := Lib.hid ((f4.mono (T := [w.heap.size + 1]) (by simp)).then f5)
    clear HT q2 p2 q5 f4 f5 hw2
    go_wp2_with (refine sbs_storeW p5 hw5 rfl (.tmp 4) (.tmp 20) rfl rfl (by rfl) (by rfl) ?_)
    refine bodyPost_ret (sbs_result2 Q5.out rfl rfl rfl) rfl ?_
    refine ⟨_, (by first | rfl | (rw [if_pos HK.out]; rfl)), G2.out.trans F35.out (by simp) (fun x hx => .inr (by simp at hx; omega)), ?_⟩
    try rw [if_pos HK.out]
    exact ⟨a0, k0, a1, k1, rfl, (H.out.1.keep F35.out hn).mono (fun x hx => hx.1), (H.out.2.keep F35.out hn).mono (fun x hx => hx.1)⟩
  · have hk' : (xk != 3) = true := by simpa using hk
    have HK := Lib.hid hk
    clear hk
    obtain ⟨w5, hw5, q5, f5⟩ := sbs_set p1 a0 k0 a1 k1 s.t0 s.t1 s.c0 s.c1 s.first
    have Q5 := Lib.hid q5
    have F5 := Lib.hid f5
    clear HNT q5 f5
    go_wp2_with (first | refine sbs_loadW q1 rfl (.tmp 2) rfl (by rfl) ?_ | refine sbs_storeW p1 hw5 rfl (.tmp 4) (.tmp 15) rfl rfl (by rfl) (by rfl) ?_)
    refine bodyPost_ret (sbs_result2 Q5.out rfl rfl rfl) rfl ?_
    refine ⟨_, (by first | rfl | (rw [if_neg HK.out]; rfl)), F0.out.trans F5.out (by simp) (fun x hx => .inr (by simp at hx; omega)), ?_⟩
    try rw [if_neg HK.out]
    exact ⟨a0, k0, a1, k1, rfl, (H.out.1.keep F5.out hn).mono (fun x hx => hx.1), (H.out.2.keep F5.out hn).mono (fun x hx => hx.1)⟩

set_option maxHeartbeats 8000000 in
theorem rs_done {w : World} {N : Nat → Prop} {v : Value} {s : SS} (h : Rsp w N v s) (ok0 : TOk s.t0) (ok1 : TOk s.t1) (r0 : s.t0.rd ≤ 4611686018427387904) (r1 : s.t1.rd ≤ 4611686018427387904) :
    Calls Try.prog 71 #[v] w fun x w' => x = .returned (.bool (decide ((nextS s.t0 s.c0 0).kind = 4) && decide ((nextS s.t1 s.c1 1).kind = 4))) ∧ Fr [] w w' := by
  have hfld : ∀ (x0 x1 x2 x3 x4 : Value) (w : World), (Instr.field 32 (.agg #[x0, x1, x2, x3, x4]) 0).run Try.prog w = .ok x0 w := fun _ _ _ _ _ _ => by kernel_rfl
  obtain ⟨a0, k0, a1, k1, rfl, h0, h1⟩ := h
  obtain ⟨W0, hW0, f0, q0⟩ : ∃ W, (w.alloc (.cells #[.int .i64 s.t0.stage, .int .i64 s.t0.limit, .int .i64 s.t0.rd, .int .i64 s.t0.wr, .slice a0 s.t0.s.length k0, .int .i64 s.t0.r, .int .i64 s.t0.w, .int .i64 s.t1.stage, .int .i64 s.t1.limit, .int .i64 s.t1.rd, .int .i64 s.t1.wr, .slice a1 s.t1.s.length k1, .int .i64 s.t1.r, .int .i64 s.t1.w, .bool s.c0, .bool s.c1, .int .i64 s.first] 95)) = W ∧ Fr [] w W ∧ SBs W w.heap.size a0 k0 a1 k1 s.t0 s.t1 s.c0 s.c1 s.first := ⟨_, rfl, (Fr.refl _ _).alloc _, newA rfl⟩
  have HN0 := Lib.hid (rs_nextF0 (c0 := s.c0) (c1 := s.c1) (h0.keep f0 (by simp)) (h1.keep f0 (by simp)) ok0 r0 s.first)
  have HN1 := Lib.hid fun w1 (f : Fr [] w w1) => rs_nextF1 (c0 := s.c0) (c1 := s.c1) (h0.keep f (by simp)) (h1.keep f (by simp)) ok1 r1 s.first
  clear h0 h1 ok0 ok1 r0 r1
  generalize nextS s.t0 s.c0 0 = x at *
  generalize nextS s.t1 s.c1 1 = y at *
  obtain ⟨xk, xs, xn, xd, xe⟩ := x
  obtain ⟨yk, ys, yn, yd, ye⟩ := y
  dsimp only
  go_enter Try.func71, Try.ntmps71
  go_wp2_with (refine sbs_loadW q0 rfl (.tmp 1) rfl (by rfl) ?_)
  refine HN0.out.mono ?_
  rintro e1 w1 ⟨u, rfl, f1, u2, rfl, ou⟩
  obtain ⟨ga, gc, rfl, _⟩ := ou.formB
  have q1 := SBs.keep q0 f1 (by simp)
  obtain ⟨dc0, _, dc1, _, dc2, _, dc3, _, dc4, _, dc5, _, dc6, _, dc7, _, dc8, _, dc9, _, dc10, _, dc11, _, dc12, _, dc13, _, dc14, _, dc15, _, dc16, _⟩ := SB.cells q1
  have g1 := f0.then0 f1
  clear q0 q1 ou HN0 hW0
  by_cases hk : xk = 4
  · have hk' : (xk == 4) = true := by simpa using hk
    have HK := Lib.hid hk
    clear hk
    go_wp2_with fail
    refine (HN1.out _ g1).mono ?_
    rintro e1 w2 ⟨u, rfl, f2, u2, rfl, ou⟩
    obtain ⟨ha, hc, rfl, _⟩ := ou.formB
    go_wp2_with fail
    go_ret
    exact ⟨by rw [decide_eq_true HK.out, Bool.true_and]; rfl, g1.then0 f2⟩
  · have hk' : (xk == 4) = false := by simpa using hk
    have HK := Lib.hid hk
    clear hk
    go_wp2_with fail
    go_ret
    exact ⟨by rw [decide_eq_false HK.out]; rfl, g1⟩
end Go.Proofs.Ytodpkdbcdbdjfaa
