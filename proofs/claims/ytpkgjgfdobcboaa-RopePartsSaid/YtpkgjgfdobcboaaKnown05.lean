/-
  Layer 5's law: the chapter's examples.
-/
import Derived.Test.YtpkgjgfdobcboaaIs05
namespace Go.Proofs.Ytpkgjgfdobcboaa
open Go.RowKit
set_option maxRecDepth 100000

theorem Rp.form {w : World} {N : Nat → Prop} {v : Value} {P : Parts} (h : Rp w N v P) : ∃ a n c t, v = .agg #[.slice a n c, .int .i64 t] := by
  obtain ⟨a, c, rfl, _⟩ := h
  exact ⟨_, _, _, _, rfl⟩
theorem is05y {w : World} {N : Nat → Prop} {v : Value} {P : Parts} (h : Rp w N v P) {a : Option Addr} {len cap : Nat} (hs : SlV w a (sv P)) (hl : len = P.length) (hc : len ≤ cap) (hm : cap ≤ maxLen) :
    Calls Try.prog 95 #[v, .slice a len cap] w fun e w' => e = .returned (.bool true) ∧ Fr [] w w' := by
  refine (is05 h hs hl hc hm).mono fun e w' he => ?_
  rw [decide_eq_true rfl] at he
  exact he
/-- A box that holds a rope. -/
structure Bd (w : World) (N : Nat → Prop) (b : Nat) (a : Option Addr) (n c : Nat) (t : Int) (P : Parts) : Prop where
  q : w.heap[b]? = some (.cells #[.slice a n c, .int .i64 t] 65 (0, 0))
  r : Rp w N (.agg #[.slice a n c, .int .i64 t]) P
theorem Bd.keep {w w' : World} {N : Nat → Prop} {b : Nat} {a : Option Addr} {n c : Nat} {t : Int} {P : Parts} (h : Bd w N b a n c t P) {S : List Nat} (f : Fr S w w') (hb : b ∉ S) (hN : ∀ x ∈ S, ¬ N x) : Bd w' N b a n c t P := ⟨f.keep h.q hb, h.r.keep f hN⟩
theorem Bd.c0 {w : World} {N : Nat → Prop} {b : Nat} {a : Option Addr} {n c : Nat} {t : Int} {P : Parts} (h : Bd w N b a n c t P) : w.cell? ⟨b, 0, none⟩ = some (.slice a n c) := cell_of h.q
theorem Bd.c1 {w : World} {N : Nat → Prop} {b : Nat} {a : Option Addr} {n c : Nat} {t : Int} {P : Parts} (h : Bd w N b a n c t P) : w.cell? ⟨b, 1, none⟩ = some (.int .i64 t) := cell_of h.q
theorem Bd.lt {w : World} {N : Nat → Prop} {b : Nat} {a : Option Addr} {n c : Nat} {t : Int} {P : Parts} (h : Bd w N b a n c t P) : b < w.heap.size := lt_of_heap h.q
theorem Bd.new {w : World} {N : Nat → Prop} {a : Option Addr} {n c : Nat} {t : Int} {P : Parts} (h : Rp w N (.agg #[.slice a n c, .int .i64 t]) P) : ∃ W B, W = w.alloc (.cells #[.slice a n c, .int .i64 t] 65) ∧ B = w.heap.size ∧ Fr [] w W ∧ Hid (Bd W N B a n c t P) :=
  ⟨_, _, rfl, rfl, (Fr.refl _ _).alloc _, Lib.hid ⟨newA rfl, h.keep ((Fr.refl [] w).alloc _) (by simp)⟩⟩

theorem Bd.new1 {w : World} {N : Nat → Prop} {a : Option Addr} {n c : Nat} {t : Int} {P : Parts} (h : Rp w N (.agg #[.slice a n c, .int .i64 t]) P) : ∃ W B, W = w.alloc (.cells #[.slice a n c, .int .i64 t] 65) ∧ B = w.heap.size ∧ B + 1 = W.heap.size ∧ Fr [] w W ∧ Hid (Bd W N B a n c t P) :=
  ⟨_, _, rfl, rfl, by simp, (Fr.refl _ _).alloc _, Lib.hid ⟨newA rfl, h.keep ((Fr.refl [] w).alloc _) (by simp)⟩⟩
theorem Bd.two {w : World} {N N' : Nat → Prop} {a a' : Option Addr} {n c n' c' : Nat} {t t' : Int} {P P' : Parts} (h : Rp w N (.agg #[.slice a n c, .int .i64 t]) P) (h' : Rp w N' (.agg #[.slice a' n' c', .int .i64 t']) P') :
    ∃ W B C, W = (w.alloc (.cells #[.slice a n c, .int .i64 t] 65)).alloc (.cells #[.slice a' n' c', .int .i64 t'] 65) ∧ B = w.heap.size ∧ C = w.heap.size + 1 ∧ C + 1 = W.heap.size ∧ Fr [] w W ∧ Hid (Bd W (fun _ => True) B a n c t P) ∧ Hid (Bd W (fun _ => True) C a' n' c' t' P') := by
  have f : Fr [] w ((w.alloc (.cells #[.slice a n c, .int .i64 t] 65)).alloc (.cells #[.slice a' n' c', .int .i64 t'] 65)) := ((Fr.refl _ _).alloc _).alloc _
  exact ⟨_, _, _, rfl, rfl, rfl, by simp, f, Lib.hid ⟨keepA (newA rfl), (h.keep f (by simp)).mono fun _ _ => trivial⟩, Lib.hid ⟨newA (by simp), (h'.keep f (by simp)).mono fun _ _ => trivial⟩⟩
theorem Bd.over {w : World} {N : Nat → Prop} {b b' : Nat} {a a' : Option Addr} {n c n' c' : Nat} {t t' : Int} {P P' : Parts} {x y x' y' : Value} (q : w.heap[b]? = some (.cells #[x, y] 65 (0, 0))) (q' : w.heap[b']? = some (.cells #[x', y'] 65 (0, 0))) (hb : b < b')
    (h : Rp w N (.agg #[.slice a n c, .int .i64 t]) P) (h' : Rp w N (.agg #[.slice a' n' c', .int .i64 t']) P') (hN : ¬ N b) (hN' : ¬ N b') :
    ∃ W, W = (((w.setCell ⟨b, 0, none⟩ (.slice a n c)).setCell ⟨b, 1, none⟩ (.int .i64 t)).setCell ⟨b', 0, none⟩ (.slice a' n' c')).setCell ⟨b', 1, none⟩ (.int .i64 t') ∧ Fr [b, b'] w W ∧ Hid (Bd W N b a n c t P) ∧ Hid (Bd W N b' a' n' c' t' P') := by
  have f : Fr [b, b'] w ((((w.setCell ⟨b, 0, none⟩ (.slice a n c)).setCell ⟨b, 1, none⟩ (.int .i64 t)).setCell ⟨b', 0, none⟩ (.slice a' n' c')).setCell ⟨b', 1, none⟩ (.int .i64 t')) :=
    ((((Fr.refl [b, b'] w).setCell (.inl (by simp)) _).setCell (.inl (by simp)) _).setCell (.inl (by simp)) _).setCell (.inl (by simp)) _
  have hk : ∀ x ∈ [b, b'], ¬ N x := by intro x hx; simp at hx; rcases hx with rfl | rfl <;> assumption
  have e0 := heap_setCell_eq (i := 0) (u := .slice a n c) q
  have e1 := heap_setCell_eq (i := 1) (u := .int .i64 t) e0
  have e2 : ((w.setCell ⟨b, 0, none⟩ (.slice a n c)).setCell ⟨b, 1, none⟩ (.int .i64 t)).heap[b']? = _ := keepS (keepS q' (by dsimp only; omega)) (by dsimp only; omega)
  have e3 := heap_setCell_eq (i := 0) (u := .slice a' n' c') e2
  have e4 := heap_setCell_eq (i := 1) (u := .int .i64 t') e3
  exact ⟨_, rfl, f, Lib.hid ⟨by simpa using keepS (keepS e1 (by dsimp only; omega)) (by dsimp only; omega), h.keep f hk⟩, Lib.hid ⟨by simpa using e4, h'.keep f hk⟩⟩

set_option maxHeartbeats 8000000 in
theorem known05 (w0 : World) :
    Calls Try.prog 42 #[] w0 fun e w' => e = .returned (.bool true) ∧ Fr [] w0 w' := by
  go_enter Try.func42, Try.ntmps42
  have g0 : Fr [] w0 w0 := Fr.refl _ _
  go_wp2_with fail
  refine (made05 (ss := [[97, 98], [], [99, 100, 101]]) (by exact SlV.lit _ _ _) rfl (by simp) (by decide)).mono ?_
  rintro e w1 ⟨f, v, he, hr⟩
  replace f : Fr [] w0 w1 := ((Fr.refl [] w0).alloc _).then0 f
  have g1 : Fr [] w0 w1 := g0.then0 f
  clear g0
  obtain rfl : e = .returned (.tuple #[v, .int .i64 0]) := he
  replace hr : Rp w1 (fun b => b < w1.heap.size) v [[97, 98], [99, 100, 101]] := (show Rp w1 _ v [[97, 98], [99, 100, 101]] from hr).there.mono (fun x hx => hx.2)
  clear f
  obtain ⟨a, n, c, t, rfl⟩ := hr.form
  go_wp2_with fail
  obtain ⟨w2, B1, hW, hB, f, H1⟩ := Bd.new hr
  rw [← hW, ← hB]
  rw [← hB] at H1
  have lw : w0.heap.size ≤ B1 := by have := g1.size; omega
  clear hW hr hB
  have x1 := H1.out.c0
  have y1 := H1.out.c1
  have z1 := H1.out.lt
  have g2 : Fr [] w0 w2 := g1.then0 f
  clear g1
  clear f
  have HLEN := rope_len H1.out.r
  refine HLEN.mono ?_
  clear HLEN
  rintro e w3 ⟨he, f⟩
  obtain rfl : e = .returned (.int .i64 5) := he
  have g3 := g2.then0 f
  clear g2
  replace H1 := Lib.hid (H1.out.keep f (by simp) (by simp))
  replace x1 := H1.out.c0
  replace y1 := H1.out.c1
  replace z1 := H1.out.lt
  clear f
  go_wp2_with fail
  refine (rope_bytes H1.out.r).mono ?_
  rintro e w4 ⟨u, rfl, f, ob⟩
  have g4 : Fr [] w0 w4 := g3.then0 f
  clear g3
  replace H1 := Lib.hid (H1.out.keep f (by simp) (by simp))
  replace x1 := H1.out.c0
  replace y1 := H1.out.c1
  replace z1 := H1.out.lt
  clear f
  replace ob : Ow w4 w3.heap.size 5 u ((bi [97, 98, 99, 100, 101]).map (Value.int .u8)) := ob
  obtain ⟨ga, gc, rfl, _, _, hs, _⟩ := ob.formB
  have hcv : ∀ c, (convert 29 9 (.slice ga 5 c)).run Try.prog w4 = .ok (.string ⟨#[97, 98, 99, 100, 101]⟩) w4 := fun c => conv_st (cap := c) hs rfl
  clear ob hs
  go_wp2_with fail
  refine (is05y (P := [[97, 98], [99, 100, 101]]) (H1.out.r.keep ((Fr.refl [] w4).alloc (.cells (sv [[97, 98], [99, 100, 101]]).toArray 9)) (by simp)) (by exact SlV.lit _ _ _) rfl (Nat.le_refl _) (by decide)).mono ?_
  rintro e w5 ⟨rfl, f⟩
  replace f : Fr [] w4 w5 := ((Fr.refl [] w4).alloc _).then0 f
  have g5 : Fr [] w0 w5 := g4.then0 f
  clear g4
  replace H1 := Lib.hid (H1.out.keep f (by simp) (by simp))
  replace x1 := H1.out.c0
  replace y1 := H1.out.c1
  replace z1 := H1.out.lt
  clear f
  go_wp2_with fail
  refine (rope_take H1.out.r (most := 3) (by omega)).mono ?_
  rintro e w6 ⟨v1, v2, rfl, f, hra, hrb⟩
  have g6 : Fr [] w0 w6 := g5.then0 f
  clear g5
  replace H1 := Lib.hid (H1.out.keep f (by simp) (by simp))
  replace x1 := H1.out.c0
  replace y1 := H1.out.c1
  replace z1 := H1.out.lt
  replace hra : Rp w6 _ v1 [[97, 98], [99]] := hra
  replace hrb : Rp w6 _ v2 [[100, 101]] := hrb
  clear f
  obtain ⟨a3, n3, c3, t3, rfl⟩ := hra.form
  obtain ⟨a4, n4, c4, t4, rfl⟩ := hrb.form
  go_wp2_with fail
  obtain ⟨w7, B3, B4, hW, hB, hC, hD, f, H3, H4⟩ := Bd.two hra hrb
  rw [← hW, ← hC, ← hB]
  try rw [hD]
  have l1_3 : B1 < B3 := by omega
  have l3_4 : B3 < B4 := by omega
  clear hW hB hC hD hra hrb
  have g7 : Fr [] w0 w7 := g6.then0 f
  clear g6
  replace H1 := Lib.hid (H1.out.keep f (by simp) (by simp))
  replace x1 := H1.out.c0
  replace y1 := H1.out.c1
  replace z1 := H1.out.lt
  clear f
  have x3 := H3.out.c0
  have y3 := H3.out.c1
  have z3 := H3.out.lt
  have x4 := H4.out.c0
  have y4 := H4.out.c1
  have z4 := H4.out.lt
  go_wp2_with fail
  refine (rope_take H1.out.r (most := 2) (by omega)).mono ?_
  rintro e w8 ⟨v1, v2, rfl, f, hra, hrb⟩
  have g8 : Fr [] w0 w8 := g7.then0 f
  clear g7
  replace H1 := Lib.hid (H1.out.keep f (by simp) (by simp))
  replace x1 := H1.out.c0
  replace y1 := H1.out.c1
  replace z1 := H1.out.lt
  replace H3 := Lib.hid (H3.out.keep f (by simp) (by simp))
  replace x3 := H3.out.c0
  replace y3 := H3.out.c1
  replace z3 := H3.out.lt
  replace H4 := Lib.hid (H4.out.keep f (by simp) (by simp))
  replace x4 := H4.out.c0
  replace y4 := H4.out.c1
  replace z4 := H4.out.lt
  replace hra : Rp w8 _ v1 [[97, 98]] := hra
  replace hrb : Rp w8 _ v2 [[99, 100, 101]] := hrb
  clear f
  obtain ⟨a5, n5, c5, t5, rfl⟩ := hra.form
  obtain ⟨a6, n6, c6, t6, rfl⟩ := hrb.form
  go_wp2_with fail
  obtain ⟨w9, B5, B6, hW, hB, hC, hD, f, H5, H6⟩ := Bd.two hra hrb
  rw [← hW, ← hC, ← hB]
  try rw [hD]
  have l1_5 : B1 < B5 := by omega
  have l3_5 : B3 < B5 := by omega
  have l4_5 : B4 < B5 := by omega
  have l5_6 : B5 < B6 := by omega
  clear hW hB hC hD hra hrb
  have g9 : Fr [] w0 w9 := g8.then0 f
  clear g8
  replace H1 := Lib.hid (H1.out.keep f (by simp) (by simp))
  replace x1 := H1.out.c0
  replace y1 := H1.out.c1
  replace z1 := H1.out.lt
  replace H3 := Lib.hid (H3.out.keep f (by simp) (by simp))
  replace x3 := H3.out.c0
  replace y3 := H3.out.c1
  replace z3 := H3.out.lt
  replace H4 := Lib.hid (H4.out.keep f (by simp) (by simp))
  replace x4 := H4.out.c0
  replace y4 := H4.out.c1
  replace z4 := H4.out.lt
  clear f
  have x5 := H5.out.c0
  have y5 := H5.out.c1
  have z5 := H5.out.lt
  have x6 := H6.out.c0
  have y6 := H6.out.c1
  have z6 := H6.out.lt
  go_wp2_with fail
  refine (is05y (P := [[97, 98], [99]]) (H3.out.r.keep ((Fr.refl [] w9).alloc (.cells (sv [[97, 98], [99]]).toArray 9)) (by simp)) (by exact SlV.lit _ _ _) rfl (Nat.le_refl _) (by decide)).mono ?_
  rintro e w10 ⟨rfl, f⟩
  replace f : Fr [] w9 w10 := ((Fr.refl [] w9).alloc _).then0 f
  have g10 : Fr [] w0 w10 := g9.then0 f
  clear g9
  replace H1 := Lib.hid (H1.out.keep f (by simp) (by simp))
  replace x1 := H1.out.c0
  replace y1 := H1.out.c1
  replace z1 := H1.out.lt
  replace H3 := Lib.hid (H3.out.keep f (by simp) (by simp))
  replace x3 := H3.out.c0
  replace y3 := H3.out.c1
  replace z3 := H3.out.lt
  replace H4 := Lib.hid (H4.out.keep f (by simp) (by simp))
  replace x4 := H4.out.c0
  replace y4 := H4.out.c1
  replace z4 := H4.out.lt
  replace H5 := Lib.hid (H5.out.keep f (by simp) (by simp))
  replace x5 := H5.out.c0
  replace y5 := H5.out.c1
  replace z5 := H5.out.lt
  replace H6 := Lib.hid (H6.out.keep f (by simp) (by simp))
  replace x6 := H6.out.c0
  replace y6 := H6.out.c1
  replace z6 := H6.out.lt
  clear f
  go_wp2_with fail
  refine (is05y (P := [[100, 101]]) (H4.out.r.keep ((Fr.refl [] w10).alloc (.cells (sv [[100, 101]]).toArray 9)) (by simp)) (by exact SlV.lit _ _ _) rfl (Nat.le_refl _) (by decide)).mono ?_
  rintro e w11 ⟨rfl, f⟩
  replace f : Fr [] w10 w11 := ((Fr.refl [] w10).alloc _).then0 f
  have g11 : Fr [] w0 w11 := g10.then0 f
  clear g10
  replace H1 := Lib.hid (H1.out.keep f (by simp) (by simp))
  replace x1 := H1.out.c0
  replace y1 := H1.out.c1
  replace z1 := H1.out.lt
  replace H3 := Lib.hid (H3.out.keep f (by simp) (by simp))
  replace x3 := H3.out.c0
  replace y3 := H3.out.c1
  replace z3 := H3.out.lt
  replace H4 := Lib.hid (H4.out.keep f (by simp) (by simp))
  replace x4 := H4.out.c0
  replace y4 := H4.out.c1
  replace z4 := H4.out.lt
  replace H5 := Lib.hid (H5.out.keep f (by simp) (by simp))
  replace x5 := H5.out.c0
  replace y5 := H5.out.c1
  replace z5 := H5.out.lt
  replace H6 := Lib.hid (H6.out.keep f (by simp) (by simp))
  replace x6 := H6.out.c0
  replace y6 := H6.out.c1
  replace z6 := H6.out.lt
  clear f
  go_wp2_with fail
  refine (is05y (P := [[97, 98]]) (H5.out.r.keep ((Fr.refl [] w11).alloc (.cells (sv [[97, 98]]).toArray 9)) (by simp)) (by exact SlV.lit _ _ _) rfl (Nat.le_refl _) (by decide)).mono ?_
  rintro e w12 ⟨rfl, f⟩
  replace f : Fr [] w11 w12 := ((Fr.refl [] w11).alloc _).then0 f
  have g12 : Fr [] w0 w12 := g11.then0 f
  clear g11
  replace H1 := Lib.hid (H1.out.keep f (by simp) (by simp))
  replace x1 := H1.out.c0
  replace y1 := H1.out.c1
  replace z1 := H1.out.lt
  replace H3 := Lib.hid (H3.out.keep f (by simp) (by simp))
  replace x3 := H3.out.c0
  replace y3 := H3.out.c1
  replace z3 := H3.out.lt
  replace H4 := Lib.hid (H4.out.keep f (by simp) (by simp))
  replace x4 := H4.out.c0
  replace y4 := H4.out.c1
  replace z4 := H4.out.lt
  replace H5 := Lib.hid (H5.out.keep f (by simp) (by simp))
  replace x5 := H5.out.c0
  replace y5 := H5.out.c1
  replace z5 := H5.out.lt
  replace H6 := Lib.hid (H6.out.keep f (by simp) (by simp))
  replace x6 := H6.out.c0
  replace y6 := H6.out.c1
  replace z6 := H6.out.lt
  clear f
  go_wp2_with fail
  refine (is05y (P := [[99, 100, 101]]) (H6.out.r.keep ((Fr.refl [] w12).alloc (.cells (sv [[99, 100, 101]]).toArray 9)) (by simp)) (by exact SlV.lit _ _ _) rfl (Nat.le_refl _) (by decide)).mono ?_
  rintro e w13 ⟨rfl, f⟩
  replace f : Fr [] w12 w13 := ((Fr.refl [] w12).alloc _).then0 f
  have g13 : Fr [] w0 w13 := g12.then0 f
  clear g12
  replace H1 := Lib.hid (H1.out.keep f (by simp) (by simp))
  replace x1 := H1.out.c0
  replace y1 := H1.out.c1
  replace z1 := H1.out.lt
  replace H3 := Lib.hid (H3.out.keep f (by simp) (by simp))
  replace x3 := H3.out.c0
  replace y3 := H3.out.c1
  replace z3 := H3.out.lt
  replace H4 := Lib.hid (H4.out.keep f (by simp) (by simp))
  replace x4 := H4.out.c0
  replace y4 := H4.out.c1
  replace z4 := H4.out.lt
  replace H5 := Lib.hid (H5.out.keep f (by simp) (by simp))
  replace x5 := H5.out.c0
  replace y5 := H5.out.c1
  replace z5 := H5.out.lt
  replace H6 := Lib.hid (H6.out.keep f (by simp) (by simp))
  replace x6 := H6.out.c0
  replace y6 := H6.out.c1
  replace z6 := H6.out.lt
  clear f
  have Q3 := H3.out.q
  clear H3 x3 y3
  have Q4 := H4.out.q
  clear H4 x4 y4
  have Q5 := H5.out.q
  clear H5 x5 y5
  have Q6 := H6.out.q
  clear H6 x6 y6
  have e6 := lt_of_heap Q6
  go_wp2_with fail
  refine (rope_take H1.out.r (most := 0) (by omega)).mono ?_
  rintro e w14 ⟨v1, v2, rfl, f, hra, hrb⟩
  have g14 : Fr [] w0 w14 := g13.then0 f
  clear g13
  replace H1 := Lib.hid (H1.out.keep f (by simp) (by simp))
  replace x1 := H1.out.c0
  replace y1 := H1.out.c1
  replace z1 := H1.out.lt
  replace Q3 := f.keep Q3 (by simp)
  replace Q4 := f.keep Q4 (by simp)
  replace Q5 := f.keep Q5 (by simp)
  replace Q6 := f.keep Q6 (by simp)
  replace hra : Rp w14 _ v1 [] := hra
  replace hrb : Rp w14 _ v2 [[97, 98], [99, 100, 101]] := hrb
  clear f z3 z4 z5 z6
  obtain ⟨a3, n3, c3, t3, rfl⟩ := hra.form
  obtain ⟨a4, n4, c4, t4, rfl⟩ := hrb.form
  have x3 : w14.cell? ⟨B3, 0, none⟩ = some _ := cell_of Q3
  have y3 : w14.cell? ⟨B3, 1, none⟩ = some _ := cell_of Q3
  have u3 := free_of (i := 0) Q3
  have v3 := free_of (i := 1) Q3
  have z3 := lt_of_heap Q3
  have x4 : w14.cell? ⟨B4, 0, none⟩ = some _ := cell_of Q4
  have y4 : w14.cell? ⟨B4, 1, none⟩ = some _ := cell_of Q4
  have u4 := free_of (i := 0) Q4
  have v4 := free_of (i := 1) Q4
  have z4 := lt_of_heap Q4
  have x5 : w14.cell? ⟨B5, 0, none⟩ = some _ := cell_of Q5
  have y5 : w14.cell? ⟨B5, 1, none⟩ = some _ := cell_of Q5
  have u5 := free_of (i := 0) Q5
  have v5 := free_of (i := 1) Q5
  have z5 := lt_of_heap Q5
  have x6 : w14.cell? ⟨B6, 0, none⟩ = some _ := cell_of Q6
  have y6 : w14.cell? ⟨B6, 1, none⟩ = some _ := cell_of Q6
  have u6 := free_of (i := 0) Q6
  have v6 := free_of (i := 1) Q6
  have z6 := lt_of_heap Q6
  go_wp2_with fail
  have hra := hra.mono (N' := fun b => b ≠ B3 ∧ b ≠ B4 ∧ b ≠ B5 ∧ b ≠ B6) (fun x hx => by omega)
  have hrb := hrb.mono (N' := fun b => b ≠ B3 ∧ b ≠ B4 ∧ b ≠ B5 ∧ b ≠ B6) (fun x hx => by omega)
  obtain ⟨w15, hW, f, K3, K4⟩ := Bd.over Q3 Q4 (by omega) hra hrb (by simp) (by simp)
  rw [← hW]
  clear hW hra hrb Q3 Q4
  have g15 : Fr [] w0 w15 := g14.trans f (by simp) (by have := g14.size; simp; omega)
  clear g14
  replace H1 := Lib.hid (H1.out.keep f (by simp <;> omega) (by intro x hx; simp at hx; rcases hx with rfl | rfl <;> (simp <;> omega)))
  replace x1 := H1.out.c0
  replace y1 := H1.out.c1
  replace z1 := H1.out.lt
  replace Q5 := f.keep Q5 (by simp; omega)
  replace Q6 := f.keep Q6 (by simp; omega)
  clear f
  have H3 := K3
  clear K3
  have x3 := H3.out.c0
  have y3 := H3.out.c1
  have z3 := H3.out.lt
  have H4 := K4
  clear K4
  have x4 := H4.out.c0
  have y4 := H4.out.c1
  have z4 := H4.out.lt
  clear x5 y5 x6 y6 e6 z5 z6 u3 v3 u4 v4 u5 v5 u6 v6
  have e6 := lt_of_heap Q6
  go_wp2_with fail
  refine (rope_take H1.out.r (most := 9) (by omega)).mono ?_
  rintro e w16 ⟨v1, v2, rfl, f, hra, hrb⟩
  have g16 : Fr [] w0 w16 := g15.then0 f
  clear g15
  replace H1 := Lib.hid (H1.out.keep f (by simp) (by simp))
  replace x1 := H1.out.c0
  replace y1 := H1.out.c1
  replace z1 := H1.out.lt
  replace H3 := Lib.hid (H3.out.keep f (by simp) (by simp))
  replace x3 := H3.out.c0
  replace y3 := H3.out.c1
  replace z3 := H3.out.lt
  replace H4 := Lib.hid (H4.out.keep f (by simp) (by simp))
  replace x4 := H4.out.c0
  replace y4 := H4.out.c1
  replace z4 := H4.out.lt
  replace Q5 := f.keep Q5 (by simp)
  replace Q6 := f.keep Q6 (by simp)
  replace hra : Rp w16 _ v1 [[97, 98], [99, 100, 101]] := hra
  replace hrb : Rp w16 _ v2 [] := hrb
  clear f
  obtain ⟨a5, n5, c5, t5, rfl⟩ := hra.form
  obtain ⟨a6, n6, c6, t6, rfl⟩ := hrb.form
  have x5 : w16.cell? ⟨B5, 0, none⟩ = some _ := cell_of Q5
  have y5 : w16.cell? ⟨B5, 1, none⟩ = some _ := cell_of Q5
  have u5 := free_of (i := 0) Q5
  have v5 := free_of (i := 1) Q5
  have z5 := lt_of_heap Q5
  have x6 : w16.cell? ⟨B6, 0, none⟩ = some _ := cell_of Q6
  have y6 : w16.cell? ⟨B6, 1, none⟩ = some _ := cell_of Q6
  have u6 := free_of (i := 0) Q6
  have v6 := free_of (i := 1) Q6
  have z6 := lt_of_heap Q6
  go_wp2_with fail
  have hra := hra.mono (N' := fun b => b ≠ B3 ∧ b ≠ B4 ∧ b ≠ B5 ∧ b ≠ B6) (fun x hx => by omega)
  have hrb := hrb.mono (N' := fun b => b ≠ B3 ∧ b ≠ B4 ∧ b ≠ B5 ∧ b ≠ B6) (fun x hx => by omega)
  obtain ⟨w17, hW, f, K5, K6⟩ := Bd.over Q5 Q6 (by omega) hra hrb (by simp) (by simp)
  rw [← hW]
  clear hW hra hrb Q5 Q6
  have g17 : Fr [] w0 w17 := g16.trans f (by simp) (by have := g16.size; simp; omega)
  clear g16
  replace H1 := Lib.hid (H1.out.keep f (by simp <;> omega) (by intro x hx; simp at hx; rcases hx with rfl | rfl <;> (simp <;> omega)))
  replace x1 := H1.out.c0
  replace y1 := H1.out.c1
  replace z1 := H1.out.lt
  replace H3 := Lib.hid (H3.out.keep f (by simp <;> omega) (by intro x hx; simp at hx; rcases hx with rfl | rfl <;> (simp <;> omega)))
  replace x3 := H3.out.c0
  replace y3 := H3.out.c1
  replace z3 := H3.out.lt
  replace H4 := Lib.hid (H4.out.keep f (by simp <;> omega) (by intro x hx; simp at hx; rcases hx with rfl | rfl <;> (simp <;> omega)))
  replace x4 := H4.out.c0
  replace y4 := H4.out.c1
  replace z4 := H4.out.lt
  clear f
  have H5 := K5
  clear K5
  have x5 := H5.out.c0
  have y5 := H5.out.c1
  have z5 := H5.out.lt
  have H6 := K6
  clear K6
  have x6 := H6.out.c0
  have y6 := H6.out.c1
  have z6 := H6.out.lt
  clear u5 v5 u6 v6 e6
  go_wp2_with fail
  refine (take_bad H1.out.r (most := -1) (by omega)).mono ?_
  rintro e w18 ⟨rfl, f⟩
  have g18 : Fr [] w0 w18 := g17.then0 f
  clear g17
  replace H1 := Lib.hid (H1.out.keep f (by simp) (by simp))
  replace x1 := H1.out.c0
  replace y1 := H1.out.c1
  replace z1 := H1.out.lt
  replace H3 := Lib.hid (H3.out.keep f (by simp) (by simp))
  replace x3 := H3.out.c0
  replace y3 := H3.out.c1
  replace z3 := H3.out.lt
  replace H4 := Lib.hid (H4.out.keep f (by simp) (by simp))
  replace x4 := H4.out.c0
  replace y4 := H4.out.c1
  replace z4 := H4.out.lt
  replace H5 := Lib.hid (H5.out.keep f (by simp) (by simp))
  replace x5 := H5.out.c0
  replace y5 := H5.out.c1
  replace z5 := H5.out.lt
  replace H6 := Lib.hid (H6.out.keep f (by simp) (by simp))
  replace x6 := H6.out.c0
  replace y6 := H6.out.c1
  replace z6 := H6.out.lt
  clear f
  have hra := Rp.none_ w18 (fun _ => True)
  have hrb := hra
  unfold noRope at hra hrb ⊢
  go_wp2_with fail
  obtain ⟨w19, B8, B9, hW, hB, hC, hD, f, H8, H9⟩ := Bd.two hra hrb
  rw [← hW, ← hC, ← hB]
  try rw [hD]
  have l1_8 : B1 < B8 := by omega
  have l3_8 : B3 < B8 := by omega
  have l4_8 : B4 < B8 := by omega
  have l5_8 : B5 < B8 := by omega
  have l6_8 : B6 < B8 := by omega
  have l8_9 : B8 < B9 := by omega
  clear hW hB hC hD hra hrb
  have g19 : Fr [] w0 w19 := g18.then0 f
  clear g18
  replace H1 := Lib.hid (H1.out.keep f (by simp) (by simp))
  replace x1 := H1.out.c0
  replace y1 := H1.out.c1
  replace z1 := H1.out.lt
  replace H3 := Lib.hid (H3.out.keep f (by simp) (by simp))
  replace x3 := H3.out.c0
  replace y3 := H3.out.c1
  replace z3 := H3.out.lt
  replace H4 := Lib.hid (H4.out.keep f (by simp) (by simp))
  replace x4 := H4.out.c0
  replace y4 := H4.out.c1
  replace z4 := H4.out.lt
  replace H5 := Lib.hid (H5.out.keep f (by simp) (by simp))
  replace x5 := H5.out.c0
  replace y5 := H5.out.c1
  replace z5 := H5.out.lt
  replace H6 := Lib.hid (H6.out.keep f (by simp) (by simp))
  replace x6 := H6.out.c0
  replace y6 := H6.out.c1
  replace z6 := H6.out.lt
  clear f
  have x8 := H8.out.c0
  have y8 := H8.out.c1
  have z8 := H8.out.lt
  have x9 := H9.out.c0
  have y9 := H9.out.c1
  have z9 := H9.out.lt
  clear H8 x8 y8 z8
  clear H9 x9 y9 z9
  go_wp2_with fail
  refine (is05y (P := []) (H3.out.r) (SlV.nil _ _) rfl (Nat.le_refl _) (by decide)).mono ?_
  rintro e w20 ⟨rfl, f⟩
  have g20 : Fr [] w0 w20 := g19.then0 f
  clear g19
  replace H1 := Lib.hid (H1.out.keep f (by simp) (by simp))
  replace x1 := H1.out.c0
  replace y1 := H1.out.c1
  replace z1 := H1.out.lt
  replace H3 := Lib.hid (H3.out.keep f (by simp) (by simp))
  replace x3 := H3.out.c0
  replace y3 := H3.out.c1
  replace z3 := H3.out.lt
  replace H4 := Lib.hid (H4.out.keep f (by simp) (by simp))
  replace x4 := H4.out.c0
  replace y4 := H4.out.c1
  replace z4 := H4.out.lt
  replace H5 := Lib.hid (H5.out.keep f (by simp) (by simp))
  replace x5 := H5.out.c0
  replace y5 := H5.out.c1
  replace z5 := H5.out.lt
  replace H6 := Lib.hid (H6.out.keep f (by simp) (by simp))
  replace x6 := H6.out.c0
  replace y6 := H6.out.c1
  replace z6 := H6.out.lt
  clear f
  go_wp2_with fail
  refine (is05y (P := [[97, 98], [99, 100, 101]]) (H4.out.r.keep ((Fr.refl [] w20).alloc (.cells (sv [[97, 98], [99, 100, 101]]).toArray 9)) (by simp)) (by exact SlV.lit _ _ _) rfl (Nat.le_refl _) (by decide)).mono ?_
  rintro e w21 ⟨rfl, f⟩
  replace f : Fr [] w20 w21 := ((Fr.refl [] w20).alloc _).then0 f
  have g21 : Fr [] w0 w21 := g20.then0 f
  clear g20
  replace H1 := Lib.hid (H1.out.keep f (by simp) (by simp))
  replace x1 := H1.out.c0
  replace y1 := H1.out.c1
  replace z1 := H1.out.lt
  replace H3 := Lib.hid (H3.out.keep f (by simp) (by simp))
  replace x3 := H3.out.c0
  replace y3 := H3.out.c1
  replace z3 := H3.out.lt
  replace H4 := Lib.hid (H4.out.keep f (by simp) (by simp))
  replace x4 := H4.out.c0
  replace y4 := H4.out.c1
  replace z4 := H4.out.lt
  replace H5 := Lib.hid (H5.out.keep f (by simp) (by simp))
  replace x5 := H5.out.c0
  replace y5 := H5.out.c1
  replace z5 := H5.out.lt
  replace H6 := Lib.hid (H6.out.keep f (by simp) (by simp))
  replace x6 := H6.out.c0
  replace y6 := H6.out.c1
  replace z6 := H6.out.lt
  clear f
  go_wp2_with fail
  refine (is05y (P := [[97, 98], [99, 100, 101]]) (H5.out.r.keep ((Fr.refl [] w21).alloc (.cells (sv [[97, 98], [99, 100, 101]]).toArray 9)) (by simp)) (by exact SlV.lit _ _ _) rfl (Nat.le_refl _) (by decide)).mono ?_
  rintro e w22 ⟨rfl, f⟩
  replace f : Fr [] w21 w22 := ((Fr.refl [] w21).alloc _).then0 f
  have g22 : Fr [] w0 w22 := g21.then0 f
  clear g21
  replace H1 := Lib.hid (H1.out.keep f (by simp) (by simp))
  replace x1 := H1.out.c0
  replace y1 := H1.out.c1
  replace z1 := H1.out.lt
  replace H3 := Lib.hid (H3.out.keep f (by simp) (by simp))
  replace x3 := H3.out.c0
  replace y3 := H3.out.c1
  replace z3 := H3.out.lt
  replace H4 := Lib.hid (H4.out.keep f (by simp) (by simp))
  replace x4 := H4.out.c0
  replace y4 := H4.out.c1
  replace z4 := H4.out.lt
  replace H5 := Lib.hid (H5.out.keep f (by simp) (by simp))
  replace x5 := H5.out.c0
  replace y5 := H5.out.c1
  replace z5 := H5.out.lt
  replace H6 := Lib.hid (H6.out.keep f (by simp) (by simp))
  replace x6 := H6.out.c0
  replace y6 := H6.out.c1
  replace z6 := H6.out.lt
  clear f
  go_wp2_with fail
  refine (is05y (P := []) (H6.out.r) (SlV.nil _ _) rfl (Nat.le_refl _) (by decide)).mono ?_
  rintro e w23 ⟨rfl, f⟩
  have g23 : Fr [] w0 w23 := g22.then0 f
  clear g22
  replace H1 := Lib.hid (H1.out.keep f (by simp) (by simp))
  replace x1 := H1.out.c0
  replace y1 := H1.out.c1
  replace z1 := H1.out.lt
  replace H3 := Lib.hid (H3.out.keep f (by simp) (by simp))
  replace x3 := H3.out.c0
  replace y3 := H3.out.c1
  replace z3 := H3.out.lt
  replace H4 := Lib.hid (H4.out.keep f (by simp) (by simp))
  replace x4 := H4.out.c0
  replace y4 := H4.out.c1
  replace z4 := H4.out.lt
  replace H5 := Lib.hid (H5.out.keep f (by simp) (by simp))
  replace x5 := H5.out.c0
  replace y5 := H5.out.c1
  replace z5 := H5.out.lt
  replace H6 := Lib.hid (H6.out.keep f (by simp) (by simp))
  replace x6 := H6.out.c0
  replace y6 := H6.out.c1
  replace z6 := H6.out.lt
  clear f
  clear H3 x3 y3 z3
  clear H4 x4 y4 z4
  clear H5 x5 y5 z5
  clear H6 x6 y6 z6
  go_wp2_with fail
  refine (made05 (ss := [[97, 98, 99, 100, 101]]) (by exact SlV.lit _ _ _) rfl (by simp) (by decide)).mono ?_
  rintro e w24 ⟨f, v, he, hr⟩
  replace f : Fr [] w23 w24 := ((Fr.refl [] w23).alloc _).then0 f
  have g24 : Fr [] w0 w24 := g23.then0 f
  clear g23
  replace H1 := Lib.hid (H1.out.keep f (by simp) (by simp))
  replace x1 := H1.out.c0
  replace y1 := H1.out.c1
  replace z1 := H1.out.lt
  obtain rfl : e = .returned (.tuple #[v, .int .i64 0]) := he
  replace hr : Rp w24 _ v [[97, 98, 99, 100, 101]] := hr
  clear f
  obtain ⟨a11, n11, c11, t11, rfl⟩ := hr.form
  go_wp2_with fail
  obtain ⟨w25, B11, hW, hB, hD, f, H11⟩ := Bd.new1 hr
  rw [← hW, ← hB]
  try rw [hD]
  clear hW hr hB hD
  have x11 := H11.out.c0
  have y11 := H11.out.c1
  have z11 := H11.out.lt
  have g25 : Fr [] w0 w25 := g24.then0 f
  clear g24
  replace H1 := Lib.hid (H1.out.keep f (by simp) (by simp))
  replace x1 := H1.out.c0
  replace y1 := H1.out.c1
  replace z1 := H1.out.lt
  clear f
  go_wp2_with fail
  refine (made05 (ss := [[97, 98, 99, 100, 102]]) (by exact SlV.lit _ _ _) rfl (by simp) (by decide)).mono ?_
  rintro e w26 ⟨f, v, he, hr⟩
  replace f : Fr [] w25 w26 := ((Fr.refl [] w25).alloc _).then0 f
  have g26 : Fr [] w0 w26 := g25.then0 f
  clear g25
  replace H1 := Lib.hid (H1.out.keep f (by simp) (by simp))
  replace x1 := H1.out.c0
  replace y1 := H1.out.c1
  replace z1 := H1.out.lt
  replace H11 := Lib.hid (H11.out.keep f (by simp) (by simp))
  replace x11 := H11.out.c0
  replace y11 := H11.out.c1
  replace z11 := H11.out.lt
  obtain rfl : e = .returned (.tuple #[v, .int .i64 0]) := he
  replace hr : Rp w26 _ v [[97, 98, 99, 100, 102]] := hr
  clear f
  obtain ⟨a12, n12, c12, t12, rfl⟩ := hr.form
  go_wp2_with fail
  obtain ⟨w27, B12, hW, hB, hD, f, H12⟩ := Bd.new1 hr
  rw [← hW, ← hB]
  try rw [hD]
  clear hW hr hB hD
  have x12 := H12.out.c0
  have y12 := H12.out.c1
  have z12 := H12.out.lt
  have g27 : Fr [] w0 w27 := g26.then0 f
  clear g26
  replace H1 := Lib.hid (H1.out.keep f (by simp) (by simp))
  replace x1 := H1.out.c0
  replace y1 := H1.out.c1
  replace z1 := H1.out.lt
  replace H11 := Lib.hid (H11.out.keep f (by simp) (by simp))
  replace x11 := H11.out.c0
  replace y11 := H11.out.c1
  replace z11 := H11.out.lt
  clear f
  refine (rope_equal H1.out.r H11.out.r).mono ?_
  rintro e w28 ⟨he, f⟩
  obtain rfl : e = .returned (.bool true) := he
  have g28 := g27.then0 f
  clear g27
  replace H1 := Lib.hid (H1.out.keep f (by simp) (by simp))
  replace x1 := H1.out.c0
  replace y1 := H1.out.c1
  replace z1 := H1.out.lt
  replace H11 := Lib.hid (H11.out.keep f (by simp) (by simp))
  replace x11 := H11.out.c0
  replace y11 := H11.out.c1
  replace z11 := H11.out.lt
  replace H12 := Lib.hid (H12.out.keep f (by simp) (by simp))
  replace x12 := H12.out.c0
  replace y12 := H12.out.c1
  replace z12 := H12.out.lt
  clear f
  go_wp2_with fail
  refine (rope_equal H1.out.r H12.out.r).mono ?_
  rintro e w29 ⟨he, f⟩
  obtain rfl : e = .returned (.bool false) := he
  have g29 := g28.then0 f
  clear g28
  replace H1 := Lib.hid (H1.out.keep f (by simp) (by simp))
  replace x1 := H1.out.c0
  replace y1 := H1.out.c1
  replace z1 := H1.out.lt
  replace H11 := Lib.hid (H11.out.keep f (by simp) (by simp))
  replace x11 := H11.out.c0
  replace y11 := H11.out.c1
  replace z11 := H11.out.lt
  replace H12 := Lib.hid (H12.out.keep f (by simp) (by simp))
  replace x12 := H12.out.c0
  replace y12 := H12.out.c1
  replace z12 := H12.out.lt
  clear f
  go_wp2_with fail
  go_ret
  exact ⟨rfl, g29⟩
end Go.Proofs.Ytpkgjgfdobcboaa
