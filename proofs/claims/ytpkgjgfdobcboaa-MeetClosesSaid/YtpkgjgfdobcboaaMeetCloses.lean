/-
  MeetCloses: what a stream says after its ends were closed.
-/
import Derived.Test.YtpkgjgfdobcboaaKnown12
namespace Go.Proofs.Ytpkgjgfdobcboaa
open Go.RowKit
set_option maxRecDepth 100000

theorem mTake_open (l : List UInt8) {tk : Int} (h : 0 ≤ tk) : mTake ⟨0, 0, true, l, 0⟩ tk = ⟨⟨0, 0, true, l.drop tk.toNat, (l.take tk.toNat).length⟩, l.take tk.toNat, (mTake ⟨0, 0, true, l, 0⟩ tk).err⟩ := by
  unfold mTake
  rw [if_neg (by omega)]
  by_cases h1 : tk = 0
  · subst h1; simp
  · by_cases h2 : l = []
    · subst h2; simp [h1]
    · simp [h1, h2]

set_option maxHeartbeats 4000000 in
theorem closes_or {tk rd wr : Int} {l : List UInt8} (hl : l.length ≤ 400) (htk : 0 ≤ tk) (hr : rd ≠ 0) (w : World) :
    Calls Try.prog 15 #[.string (st l), .int .i64 tk, .int .i64 0, .int .i64 rd, .bool true] w fun e w' => e = .returned (.bool true) ∧ Fr [] w w' := by
  obtain ⟨nr1, nr2⟩ := ne0 hr
  have hl6 : l.length ≤ 1000000 := by omega
  have hl' : (l.length : Int) ≤ 400 := by omega
  go_enter Try.func15, Try.ntmps15
  go_wp2_with fail
  refine (meet_new w).mono ?_
  rintro e w1 ⟨rfl, g1, h1⟩
  go_wp2_with fail
  refine (of12 (ss := [l]) (by exact SlV.lit _ _ _) rfl (by simp) (by simpa using hl6) (by have := List.length_filter_le (fun p : List UInt8 => decide (0 < p.length)) [l]; unfold own; simp at this ⊢; omega) (by simp [tot]; omega)).mono ?_
  rintro e w2 ⟨rv, rfl, f, hrp⟩
  have h2 : Mt w2 (fun x => x ≠ w.heap.size) w.heap.size ⟨0, 0, false, [], 0⟩ := (h1.keep0 ((Fr.refl [] w1).alloc _)).keep0 f
  have hr2 := hrp.mono (N' := fun x => x ≠ w.heap.size) (fun x hx => by have := h1.lt; simp at hx; omega)
  have g2 : Fr [] w w2 := (g1.alloc _).then0 f
  clear g1 h1 hrp f
  have E3 : mOfferR ⟨0, 0, false, [], 0⟩ (own [l]).flatten = ⟨⟨0, 0, true, l, 0⟩, 0⟩ := by rw [own_flat]; simp [mOfferR]
  have C3 := Lib.hid (offer_mm h2 hr2)
  rw [E3] at C3
  clear E3
  go_wp2_with fail
  refine C3.out.mono ?_
  rintro e w3 ⟨rfl, f, h3⟩
  replace h3 : Mt w3 (fun x => x ≠ w.heap.size) w.heap.size ⟨0, 0, true, l, 0⟩ := h3
  have g3 := g2.trans (U := []) f (by simp) (by simp)
  clear g2 h2 f C3
  clear hr2
  have E4 : mTake ⟨0, 0, true, l, 0⟩ tk = ⟨⟨0, 0, true, l.drop tk.toNat, (l.take tk.toNat).length⟩, l.take tk.toNat, (mTake ⟨0, 0, true, l, 0⟩ tk).err⟩ := by exact mTake_open l htk
  have C4 := Lib.hid (take_mm h3 tk)
  rw [E4] at C4
  clear E4
  go_wp2_with fail
  refine C4.out.mono ?_
  rintro e w4 ⟨u, rfl, f, ob, h4⟩
  replace h4 : Mt w4 (fun x => x ≠ w.heap.size) w.heap.size ⟨0, 0, true, l.drop tk.toNat, (l.take tk.toNat).length⟩ := h4
  have g4 := g3.trans (U := []) f (by simp) (by simp)
  clear g3 h3 f C4
  have hg1 : (l.take tk.toNat == l.take (l.take tk.toNat).length) = true := by rw [beq_iff_eq, List.length_take]; by_cases h : tk.toNat ≤ l.length; rw [Nat.min_eq_left h]; rw [Nat.min_eq_right (by omega), List.take_of_length_le (by omega), List.take_of_length_le (Nat.le_refl _)]
  have hg2 : (((l.drop tk.toNat).length : Int) != ((l.length : Int) - ((l.take tk.toNat).length : Int))) = false := by rw [bne_eq_false_iff_eq, List.length_drop, List.length_take]; omega
  have hg3 : (l.take tk.toNat).length ≤ l.length := List.length_take_le' _ _
  generalize l.take tk.toNat = g at *
  generalize l.drop tk.toNat = s at *
  obtain ⟨ga, gc, rfl, _, _, hsl, _⟩ := ob.formB
  have hcv := fun c => conv_st (cap := c) hsl rfl
  clear ob hsl
  have E5 : mCloseR ⟨0, 0, true, s, g.length⟩ rd = ⟨⟨rd, 0, true, s, g.length⟩, 0⟩ := by simp [mCloseR, hr]
  have C5 := Lib.hid (closer_mm h4 rd)
  rw [E5] at C5
  clear E5
  go_wp2_with fail
  refine C5.out.mono ?_
  rintro e w5 ⟨rfl, f, h5⟩
  replace h5 : Mt w5 (fun x => x ≠ w.heap.size) w.heap.size ⟨rd, 0, true, s, g.length⟩ := h5
  have g5 := g4.trans (U := []) f (by simp) (by simp)
  clear g4 h4 f C5
  go_wp2_with fail
  refine (closed_mm h5).mono ?_
  rintro e w6 ⟨he, f⟩
  obtain rfl : e = .returned (.tuple #[.int .i64 0, .int .i64 rd]) := he
  have h6 := h5.keep0 f
  have g6 := g5.then0 f
  clear g5 h5 f
  have E7 : mTake ⟨rd, 0, true, s, g.length⟩ 1 = ⟨⟨rd, 0, true, s, g.length⟩, [], rd⟩ := by simp [mTake, hr]
  have C7 := Lib.hid (takes12 h6 1 [] rd (by rw [E7]) (by rw [E7]))
  rw [E7] at C7
  clear E7
  go_wp2_with fail
  refine C7.out.mono ?_
  rintro e w7 ⟨rfl, f, h7⟩
  replace h7 : Mt w7 (fun x => x ≠ w.heap.size) w.heap.size ⟨rd, 0, true, s, g.length⟩ := h7
  have g7 := g6.trans (U := []) f (by simp) (by simp)
  clear g6 h6 f C7
  have E8 : mTake ⟨rd, 0, true, s, g.length⟩ 0 = ⟨⟨rd, 0, true, s, g.length⟩, [], 0⟩ := by simp [mTake]
  have C8 := Lib.hid (takes12 h7 0 [] 0 (by rw [E8]) (by rw [E8]))
  rw [E8] at C8
  clear E8
  go_wp2_with fail
  refine C8.out.mono ?_
  rintro e w8 ⟨rfl, f, h8⟩
  replace h8 : Mt w8 (fun x => x ≠ w.heap.size) w.heap.size ⟨rd, 0, true, s, g.length⟩ := h8
  have g8 := g7.trans (U := []) f (by simp) (by simp)
  clear g7 h7 f C8
  have E9 : mCloseW ⟨rd, 0, true, s, g.length⟩ 0 = ⟨⟨rd, 0, true, s, g.length⟩, 2⟩ := by simp [mCloseW]
  have C9 := Lib.hid (closew_mm h8 0)
  rw [E9] at C9
  clear E9
  go_wp2_with fail
  refine C9.out.mono ?_
  rintro e w9 ⟨rfl, f, h9⟩
  replace h9 : Mt w9 (fun x => x ≠ w.heap.size) w.heap.size ⟨rd, 0, true, s, g.length⟩ := h9
  have g9 := g8.trans (U := []) f (by simp) (by simp)
  clear g8 h8 f C9
  have E10 : mCloseR ⟨rd, 0, true, s, g.length⟩ 1 = ⟨⟨rd, 0, true, s, g.length⟩, 8⟩ := by simp [mCloseR, hr]
  have C10 := Lib.hid (closer_mm h9 1)
  rw [E10] at C10
  clear E10
  go_wp2_with fail
  refine C10.out.mono ?_
  rintro e w10 ⟨rfl, f, h10⟩
  replace h10 : Mt w10 (fun x => x ≠ w.heap.size) w.heap.size ⟨rd, 0, true, s, g.length⟩ := h10
  have g10 := g9.trans (U := []) f (by simp) (by simp)
  clear g9 h9 f C10
  go_wp2_with fail
  refine (left_mm h10).mono ?_
  rintro e w11 ⟨he, f⟩
  obtain rfl : e = .returned (.tuple #[.int .i64 (s : List UInt8).length, .bool true]) := he
  have h11 := h10.keep0 f
  have g11 := g10.then0 f
  clear g10 h10 f
  have E12 : mResult ⟨rd, 0, true, s, g.length⟩ = ⟨⟨rd, 0, false, [], 0⟩, g.length, 0⟩ := by simp [mResult, mWithdraw, hr]
  have C12 := Lib.hid (result_mm h11)
  rw [E12] at C12
  clear E12
  go_wp2_with fail
  refine C12.out.mono ?_
  rintro e w12 ⟨rfl, f, h12⟩
  replace h12 : Mt w12 (fun x => x ≠ w.heap.size) w.heap.size ⟨rd, 0, false, [], 0⟩ := h12
  have g12 := g11.trans (U := []) f (by simp) (by simp)
  clear g11 h11 f C12
  go_wp2_with fail
  refine (ends12 _ _ _).mono ?_
  rintro e w' ⟨rfl, rfl⟩
  go_wp2_with fail
  refine (of12 (ss := [l]) (by exact SlV.lit _ _ _) rfl (by simp) (by simpa using hl6) (by have := List.length_filter_le (fun p : List UInt8 => decide (0 < p.length)) [l]; unfold own; simp at this ⊢; omega) (by simp [tot]; omega)).mono ?_
  rintro e w13 ⟨rv, rfl, f, hrp⟩
  have h13 : Mt w13 (fun x => x ≠ w.heap.size) w.heap.size ⟨rd, 0, false, [], 0⟩ := (h12.keep0 ((Fr.refl [] w12).alloc _)).keep0 f
  have hr13 := hrp.mono (N' := fun x => x ≠ w.heap.size) (fun x hx => by have := h12.lt; simp at hx; omega)
  have g13 : Fr [] w w13 := (g12.alloc _).then0 f
  clear g12 h12 hrp f
  have E14 : mOfferR ⟨rd, 0, false, [], 0⟩ (own [l]).flatten = ⟨⟨rd, 0, false, [], 0⟩, rd⟩ := by simp [mOfferR, hr]
  have C14 := Lib.hid (offer_mm h13 hr13)
  rw [E14] at C14
  clear E14
  go_wp2_with fail
  refine C14.out.mono ?_
  rintro e w14 ⟨rfl, f, h14⟩
  replace h14 : Mt w14 (fun x => x ≠ w.heap.size) w.heap.size ⟨rd, 0, false, [], 0⟩ := h14
  have g14 := g13.trans (U := []) f (by simp) (by simp)
  clear g13 h13 f C14
  clear hr13
  go_wp2_with fail
  refine (known12 _).mono ?_
  rintro e w99 ⟨rfl, f99⟩
  go_wp2_with fail
  go_ret
  exact ⟨rfl, g14.then0 f99⟩

set_option maxHeartbeats 4000000 in
theorem closes_ow {tk rd wr : Int} {l : List UInt8} (hl : l.length ≤ 400) (htk : 0 ≤ tk) (hw : wr ≠ 0) (w : World) :
    Calls Try.prog 15 #[.string (st l), .int .i64 tk, .int .i64 wr, .int .i64 0, .bool true] w fun e w' => e = .returned (.bool true) ∧ Fr [] w w' := by
  obtain ⟨nw1, nw2⟩ := ne0 hw
  have hl6 : l.length ≤ 1000000 := by omega
  have hl' : (l.length : Int) ≤ 400 := by omega
  go_enter Try.func15, Try.ntmps15
  go_wp2_with fail
  refine (meet_new w).mono ?_
  rintro e w1 ⟨rfl, g1, h1⟩
  go_wp2_with fail
  refine (of12 (ss := [l]) (by exact SlV.lit _ _ _) rfl (by simp) (by simpa using hl6) (by have := List.length_filter_le (fun p : List UInt8 => decide (0 < p.length)) [l]; unfold own; simp at this ⊢; omega) (by simp [tot]; omega)).mono ?_
  rintro e w2 ⟨rv, rfl, f, hrp⟩
  have h2 : Mt w2 (fun x => x ≠ w.heap.size) w.heap.size ⟨0, 0, false, [], 0⟩ := (h1.keep0 ((Fr.refl [] w1).alloc _)).keep0 f
  have hr2 := hrp.mono (N' := fun x => x ≠ w.heap.size) (fun x hx => by have := h1.lt; simp at hx; omega)
  have g2 : Fr [] w w2 := (g1.alloc _).then0 f
  clear g1 h1 hrp f
  have E3 : mOfferR ⟨0, 0, false, [], 0⟩ (own [l]).flatten = ⟨⟨0, 0, true, l, 0⟩, 0⟩ := by rw [own_flat]; simp [mOfferR]
  have C3 := Lib.hid (offer_mm h2 hr2)
  rw [E3] at C3
  clear E3
  go_wp2_with fail
  refine C3.out.mono ?_
  rintro e w3 ⟨rfl, f, h3⟩
  replace h3 : Mt w3 (fun x => x ≠ w.heap.size) w.heap.size ⟨0, 0, true, l, 0⟩ := h3
  have g3 := g2.trans (U := []) f (by simp) (by simp)
  clear g2 h2 f C3
  clear hr2
  have E4 : mTake ⟨0, 0, true, l, 0⟩ tk = ⟨⟨0, 0, true, l.drop tk.toNat, (l.take tk.toNat).length⟩, l.take tk.toNat, (mTake ⟨0, 0, true, l, 0⟩ tk).err⟩ := by exact mTake_open l htk
  have C4 := Lib.hid (take_mm h3 tk)
  rw [E4] at C4
  clear E4
  go_wp2_with fail
  refine C4.out.mono ?_
  rintro e w4 ⟨u, rfl, f, ob, h4⟩
  replace h4 : Mt w4 (fun x => x ≠ w.heap.size) w.heap.size ⟨0, 0, true, l.drop tk.toNat, (l.take tk.toNat).length⟩ := h4
  have g4 := g3.trans (U := []) f (by simp) (by simp)
  clear g3 h3 f C4
  have hg1 : (l.take tk.toNat == l.take (l.take tk.toNat).length) = true := by rw [beq_iff_eq, List.length_take]; by_cases h : tk.toNat ≤ l.length; rw [Nat.min_eq_left h]; rw [Nat.min_eq_right (by omega), List.take_of_length_le (by omega), List.take_of_length_le (Nat.le_refl _)]
  have hg2 : (((l.drop tk.toNat).length : Int) != ((l.length : Int) - ((l.take tk.toNat).length : Int))) = false := by rw [bne_eq_false_iff_eq, List.length_drop, List.length_take]; omega
  have hg3 : (l.take tk.toNat).length ≤ l.length := List.length_take_le' _ _
  generalize l.take tk.toNat = g at *
  generalize l.drop tk.toNat = s at *
  obtain ⟨ga, gc, rfl, _, _, hsl, _⟩ := ob.formB
  have hcv := fun c => conv_st (cap := c) hsl rfl
  clear ob hsl
  have E5 : mCloseW ⟨0, 0, true, s, g.length⟩ wr = ⟨⟨0, wr, true, s, g.length⟩, 0⟩ := by simp [mCloseW, hw]
  have C5 := Lib.hid (closew_mm h4 wr)
  rw [E5] at C5
  clear E5
  go_wp2_with fail
  refine C5.out.mono ?_
  rintro e w5 ⟨rfl, f, h5⟩
  replace h5 : Mt w5 (fun x => x ≠ w.heap.size) w.heap.size ⟨0, wr, true, s, g.length⟩ := h5
  have g5 := g4.trans (U := []) f (by simp) (by simp)
  clear g4 h4 f C5
  go_wp2_with fail
  refine (closed_mm h5).mono ?_
  rintro e w6 ⟨he, f⟩
  obtain rfl : e = .returned (.tuple #[.int .i64 wr, .int .i64 0]) := he
  have h6 := h5.keep0 f
  have g6 := g5.then0 f
  clear g5 h5 f
  have E7 : mTake ⟨0, wr, true, s, g.length⟩ 1 = ⟨⟨0, wr, true, s, g.length⟩, [], wr⟩ := by simp [mTake, hw]
  have C7 := Lib.hid (takes12 h6 1 [] wr (by rw [E7]) (by rw [E7]))
  rw [E7] at C7
  clear E7
  go_wp2_with fail
  refine C7.out.mono ?_
  rintro e w7 ⟨rfl, f, h7⟩
  replace h7 : Mt w7 (fun x => x ≠ w.heap.size) w.heap.size ⟨0, wr, true, s, g.length⟩ := h7
  have g7 := g6.trans (U := []) f (by simp) (by simp)
  clear g6 h6 f C7
  have E8 : mTake ⟨0, wr, true, s, g.length⟩ 0 = ⟨⟨0, wr, true, s, g.length⟩, [], 0⟩ := by simp [mTake]
  have C8 := Lib.hid (takes12 h7 0 [] 0 (by rw [E8]) (by rw [E8]))
  rw [E8] at C8
  clear E8
  go_wp2_with fail
  refine C8.out.mono ?_
  rintro e w8 ⟨rfl, f, h8⟩
  replace h8 : Mt w8 (fun x => x ≠ w.heap.size) w.heap.size ⟨0, wr, true, s, g.length⟩ := h8
  have g8 := g7.trans (U := []) f (by simp) (by simp)
  clear g7 h7 f C8
  have E9 : mCloseW ⟨0, wr, true, s, g.length⟩ 0 = ⟨⟨0, wr, true, s, g.length⟩, 2⟩ := by simp [mCloseW]
  have C9 := Lib.hid (closew_mm h8 0)
  rw [E9] at C9
  clear E9
  go_wp2_with fail
  refine C9.out.mono ?_
  rintro e w9 ⟨rfl, f, h9⟩
  replace h9 : Mt w9 (fun x => x ≠ w.heap.size) w.heap.size ⟨0, wr, true, s, g.length⟩ := h9
  have g9 := g8.trans (U := []) f (by simp) (by simp)
  clear g8 h8 f C9
  have E10 : mCloseW ⟨0, wr, true, s, g.length⟩ 1 = ⟨⟨0, wr, true, s, g.length⟩, 8⟩ := by simp [mCloseW, hw]
  have C10 := Lib.hid (closew_mm h9 1)
  rw [E10] at C10
  clear E10
  go_wp2_with fail
  refine C10.out.mono ?_
  rintro e w10 ⟨rfl, f, h10⟩
  replace h10 : Mt w10 (fun x => x ≠ w.heap.size) w.heap.size ⟨0, wr, true, s, g.length⟩ := h10
  have g10 := g9.trans (U := []) f (by simp) (by simp)
  clear g9 h9 f C10
  go_wp2_with fail
  refine (left_mm h10).mono ?_
  rintro e w11 ⟨he, f⟩
  obtain rfl : e = .returned (.tuple #[.int .i64 (s : List UInt8).length, .bool true]) := he
  have h11 := h10.keep0 f
  have g11 := g10.then0 f
  clear g10 h10 f
  have E12 : mResult ⟨0, wr, true, s, g.length⟩ = ⟨⟨0, wr, false, [], 0⟩, g.length, 0⟩ := by simp [mResult, mWithdraw, hw]
  have C12 := Lib.hid (result_mm h11)
  rw [E12] at C12
  clear E12
  go_wp2_with fail
  refine C12.out.mono ?_
  rintro e w12 ⟨rfl, f, h12⟩
  replace h12 : Mt w12 (fun x => x ≠ w.heap.size) w.heap.size ⟨0, wr, false, [], 0⟩ := h12
  have g12 := g11.trans (U := []) f (by simp) (by simp)
  clear g11 h11 f C12
  go_wp2_with fail
  refine (ends12 _ _ _).mono ?_
  rintro e w' ⟨rfl, rfl⟩
  go_wp2_with fail
  refine (of12 (ss := [l]) (by exact SlV.lit _ _ _) rfl (by simp) (by simpa using hl6) (by have := List.length_filter_le (fun p : List UInt8 => decide (0 < p.length)) [l]; unfold own; simp at this ⊢; omega) (by simp [tot]; omega)).mono ?_
  rintro e w13 ⟨rv, rfl, f, hrp⟩
  have h13 : Mt w13 (fun x => x ≠ w.heap.size) w.heap.size ⟨0, wr, false, [], 0⟩ := (h12.keep0 ((Fr.refl [] w12).alloc _)).keep0 f
  have hr13 := hrp.mono (N' := fun x => x ≠ w.heap.size) (fun x hx => by have := h12.lt; simp at hx; omega)
  have g13 : Fr [] w w13 := (g12.alloc _).then0 f
  clear g12 h12 hrp f
  have E14 : mOfferR ⟨0, wr, false, [], 0⟩ (own [l]).flatten = ⟨⟨0, wr, false, [], 0⟩, 14⟩ := by simp [mOfferR, hw]
  have C14 := Lib.hid (offer_mm h13 hr13)
  rw [E14] at C14
  clear E14
  go_wp2_with fail
  refine C14.out.mono ?_
  rintro e w14 ⟨rfl, f, h14⟩
  replace h14 : Mt w14 (fun x => x ≠ w.heap.size) w.heap.size ⟨0, wr, false, [], 0⟩ := h14
  have g14 := g13.trans (U := []) f (by simp) (by simp)
  clear g13 h13 f C14
  clear hr13
  go_wp2_with fail
  refine (known12 _).mono ?_
  rintro e w99 ⟨rfl, f99⟩
  go_wp2_with fail
  go_ret
  exact ⟨rfl, g14.then0 f99⟩

set_option maxHeartbeats 4000000 in
theorem closes_orw {tk rd wr : Int} {l : List UInt8} (hl : l.length ≤ 400) (htk : 0 ≤ tk) (hr : rd ≠ 0) (hw : wr ≠ 0) (w : World) :
    Calls Try.prog 15 #[.string (st l), .int .i64 tk, .int .i64 wr, .int .i64 rd, .bool true] w fun e w' => e = .returned (.bool true) ∧ Fr [] w w' := by
  obtain ⟨nr1, nr2⟩ := ne0 hr
  obtain ⟨nw1, nw2⟩ := ne0 hw
  have hl6 : l.length ≤ 1000000 := by omega
  have hl' : (l.length : Int) ≤ 400 := by omega
  go_enter Try.func15, Try.ntmps15
  go_wp2_with fail
  refine (meet_new w).mono ?_
  rintro e w1 ⟨rfl, g1, h1⟩
  go_wp2_with fail
  refine (of12 (ss := [l]) (by exact SlV.lit _ _ _) rfl (by simp) (by simpa using hl6) (by have := List.length_filter_le (fun p : List UInt8 => decide (0 < p.length)) [l]; unfold own; simp at this ⊢; omega) (by simp [tot]; omega)).mono ?_
  rintro e w2 ⟨rv, rfl, f, hrp⟩
  have h2 : Mt w2 (fun x => x ≠ w.heap.size) w.heap.size ⟨0, 0, false, [], 0⟩ := (h1.keep0 ((Fr.refl [] w1).alloc _)).keep0 f
  have hr2 := hrp.mono (N' := fun x => x ≠ w.heap.size) (fun x hx => by have := h1.lt; simp at hx; omega)
  have g2 : Fr [] w w2 := (g1.alloc _).then0 f
  clear g1 h1 hrp f
  have E3 : mOfferR ⟨0, 0, false, [], 0⟩ (own [l]).flatten = ⟨⟨0, 0, true, l, 0⟩, 0⟩ := by rw [own_flat]; simp [mOfferR]
  have C3 := Lib.hid (offer_mm h2 hr2)
  rw [E3] at C3
  clear E3
  go_wp2_with fail
  refine C3.out.mono ?_
  rintro e w3 ⟨rfl, f, h3⟩
  replace h3 : Mt w3 (fun x => x ≠ w.heap.size) w.heap.size ⟨0, 0, true, l, 0⟩ := h3
  have g3 := g2.trans (U := []) f (by simp) (by simp)
  clear g2 h2 f C3
  clear hr2
  have E4 : mTake ⟨0, 0, true, l, 0⟩ tk = ⟨⟨0, 0, true, l.drop tk.toNat, (l.take tk.toNat).length⟩, l.take tk.toNat, (mTake ⟨0, 0, true, l, 0⟩ tk).err⟩ := by exact mTake_open l htk
  have C4 := Lib.hid (take_mm h3 tk)
  rw [E4] at C4
  clear E4
  go_wp2_with fail
  refine C4.out.mono ?_
  rintro e w4 ⟨u, rfl, f, ob, h4⟩
  replace h4 : Mt w4 (fun x => x ≠ w.heap.size) w.heap.size ⟨0, 0, true, l.drop tk.toNat, (l.take tk.toNat).length⟩ := h4
  have g4 := g3.trans (U := []) f (by simp) (by simp)
  clear g3 h3 f C4
  have hg1 : (l.take tk.toNat == l.take (l.take tk.toNat).length) = true := by rw [beq_iff_eq, List.length_take]; by_cases h : tk.toNat ≤ l.length; rw [Nat.min_eq_left h]; rw [Nat.min_eq_right (by omega), List.take_of_length_le (by omega), List.take_of_length_le (Nat.le_refl _)]
  have hg2 : (((l.drop tk.toNat).length : Int) != ((l.length : Int) - ((l.take tk.toNat).length : Int))) = false := by rw [bne_eq_false_iff_eq, List.length_drop, List.length_take]; omega
  have hg3 : (l.take tk.toNat).length ≤ l.length := List.length_take_le' _ _
  generalize l.take tk.toNat = g at *
  generalize l.drop tk.toNat = s at *
  obtain ⟨ga, gc, rfl, _, _, hsl, _⟩ := ob.formB
  have hcv := fun c => conv_st (cap := c) hsl rfl
  clear ob hsl
  have E5 : mCloseW ⟨0, 0, true, s, g.length⟩ wr = ⟨⟨0, wr, true, s, g.length⟩, 0⟩ := by simp [mCloseW, hw]
  have C5 := Lib.hid (closew_mm h4 wr)
  rw [E5] at C5
  clear E5
  go_wp2_with fail
  refine C5.out.mono ?_
  rintro e w5 ⟨rfl, f, h5⟩
  replace h5 : Mt w5 (fun x => x ≠ w.heap.size) w.heap.size ⟨0, wr, true, s, g.length⟩ := h5
  have g5 := g4.trans (U := []) f (by simp) (by simp)
  clear g4 h4 f C5
  have E6 : mCloseR ⟨0, wr, true, s, g.length⟩ rd = ⟨⟨rd, wr, true, s, g.length⟩, 0⟩ := by simp [mCloseR, hr]
  have C6 := Lib.hid (closer_mm h5 rd)
  rw [E6] at C6
  clear E6
  go_wp2_with fail
  refine C6.out.mono ?_
  rintro e w6 ⟨rfl, f, h6⟩
  replace h6 : Mt w6 (fun x => x ≠ w.heap.size) w.heap.size ⟨rd, wr, true, s, g.length⟩ := h6
  have g6 := g5.trans (U := []) f (by simp) (by simp)
  clear g5 h5 f C6
  go_wp2_with fail
  refine (closed_mm h6).mono ?_
  rintro e w7 ⟨he, f⟩
  obtain rfl : e = .returned (.tuple #[.int .i64 wr, .int .i64 rd]) := he
  have h7 := h6.keep0 f
  have g7 := g6.then0 f
  clear g6 h6 f
  have E8 : mTake ⟨rd, wr, true, s, g.length⟩ 1 = ⟨⟨rd, wr, true, s, g.length⟩, [], rd⟩ := by simp [mTake, hr]
  have C8 := Lib.hid (takes12 h7 1 [] rd (by rw [E8]) (by rw [E8]))
  rw [E8] at C8
  clear E8
  go_wp2_with fail
  refine C8.out.mono ?_
  rintro e w8 ⟨rfl, f, h8⟩
  replace h8 : Mt w8 (fun x => x ≠ w.heap.size) w.heap.size ⟨rd, wr, true, s, g.length⟩ := h8
  have g8 := g7.trans (U := []) f (by simp) (by simp)
  clear g7 h7 f C8
  have E9 : mTake ⟨rd, wr, true, s, g.length⟩ 0 = ⟨⟨rd, wr, true, s, g.length⟩, [], 0⟩ := by simp [mTake]
  have C9 := Lib.hid (takes12 h8 0 [] 0 (by rw [E9]) (by rw [E9]))
  rw [E9] at C9
  clear E9
  go_wp2_with fail
  refine C9.out.mono ?_
  rintro e w9 ⟨rfl, f, h9⟩
  replace h9 : Mt w9 (fun x => x ≠ w.heap.size) w.heap.size ⟨rd, wr, true, s, g.length⟩ := h9
  have g9 := g8.trans (U := []) f (by simp) (by simp)
  clear g8 h8 f C9
  have E10 : mCloseW ⟨rd, wr, true, s, g.length⟩ 0 = ⟨⟨rd, wr, true, s, g.length⟩, 2⟩ := by simp [mCloseW]
  have C10 := Lib.hid (closew_mm h9 0)
  rw [E10] at C10
  clear E10
  go_wp2_with fail
  refine C10.out.mono ?_
  rintro e w10 ⟨rfl, f, h10⟩
  replace h10 : Mt w10 (fun x => x ≠ w.heap.size) w.heap.size ⟨rd, wr, true, s, g.length⟩ := h10
  have g10 := g9.trans (U := []) f (by simp) (by simp)
  clear g9 h9 f C10
  have E11 : mCloseW ⟨rd, wr, true, s, g.length⟩ 1 = ⟨⟨rd, wr, true, s, g.length⟩, 8⟩ := by simp [mCloseW, hw]
  have C11 := Lib.hid (closew_mm h10 1)
  rw [E11] at C11
  clear E11
  go_wp2_with fail
  refine C11.out.mono ?_
  rintro e w11 ⟨rfl, f, h11⟩
  replace h11 : Mt w11 (fun x => x ≠ w.heap.size) w.heap.size ⟨rd, wr, true, s, g.length⟩ := h11
  have g11 := g10.trans (U := []) f (by simp) (by simp)
  clear g10 h10 f C11
  have E12 : mCloseR ⟨rd, wr, true, s, g.length⟩ 1 = ⟨⟨rd, wr, true, s, g.length⟩, 8⟩ := by simp [mCloseR, hr]
  have C12 := Lib.hid (closer_mm h11 1)
  rw [E12] at C12
  clear E12
  go_wp2_with fail
  refine C12.out.mono ?_
  rintro e w12 ⟨rfl, f, h12⟩
  replace h12 : Mt w12 (fun x => x ≠ w.heap.size) w.heap.size ⟨rd, wr, true, s, g.length⟩ := h12
  have g12 := g11.trans (U := []) f (by simp) (by simp)
  clear g11 h11 f C12
  go_wp2_with fail
  refine (left_mm h12).mono ?_
  rintro e w13 ⟨he, f⟩
  obtain rfl : e = .returned (.tuple #[.int .i64 (s : List UInt8).length, .bool true]) := he
  have h13 := h12.keep0 f
  have g13 := g12.then0 f
  clear g12 h12 f
  have E14 : mResult ⟨rd, wr, true, s, g.length⟩ = ⟨⟨rd, wr, false, [], 0⟩, g.length, 0⟩ := by simp [mResult, mWithdraw, hr]
  have C14 := Lib.hid (result_mm h13)
  rw [E14] at C14
  clear E14
  go_wp2_with fail
  refine C14.out.mono ?_
  rintro e w14 ⟨rfl, f, h14⟩
  replace h14 : Mt w14 (fun x => x ≠ w.heap.size) w.heap.size ⟨rd, wr, false, [], 0⟩ := h14
  have g14 := g13.trans (U := []) f (by simp) (by simp)
  clear g13 h13 f C14
  go_wp2_with fail
  refine (ends12 _ _ _).mono ?_
  rintro e w' ⟨rfl, rfl⟩
  go_wp2_with fail
  refine (of12 (ss := [l]) (by exact SlV.lit _ _ _) rfl (by simp) (by simpa using hl6) (by have := List.length_filter_le (fun p : List UInt8 => decide (0 < p.length)) [l]; unfold own; simp at this ⊢; omega) (by simp [tot]; omega)).mono ?_
  rintro e w15 ⟨rv, rfl, f, hrp⟩
  have h15 : Mt w15 (fun x => x ≠ w.heap.size) w.heap.size ⟨rd, wr, false, [], 0⟩ := (h14.keep0 ((Fr.refl [] w14).alloc _)).keep0 f
  have hr15 := hrp.mono (N' := fun x => x ≠ w.heap.size) (fun x hx => by have := h14.lt; simp at hx; omega)
  have g15 : Fr [] w w15 := (g14.alloc _).then0 f
  clear g14 h14 hrp f
  have E16 : mOfferR ⟨rd, wr, false, [], 0⟩ (own [l]).flatten = ⟨⟨rd, wr, false, [], 0⟩, rd⟩ := by simp [mOfferR, hr]
  have C16 := Lib.hid (offer_mm h15 hr15)
  rw [E16] at C16
  clear E16
  go_wp2_with fail
  refine C16.out.mono ?_
  rintro e w16 ⟨rfl, f, h16⟩
  replace h16 : Mt w16 (fun x => x ≠ w.heap.size) w.heap.size ⟨rd, wr, false, [], 0⟩ := h16
  have g16 := g15.trans (U := []) f (by simp) (by simp)
  clear g15 h15 f C16
  clear hr15
  go_wp2_with fail
  refine (known12 _).mono ?_
  rintro e w99 ⟨rfl, f99⟩
  go_wp2_with fail
  go_ret
  exact ⟨rfl, g16.then0 f99⟩

set_option maxHeartbeats 4000000 in
theorem closes_nr {tk rd wr : Int} {l : List UInt8} (hl : l.length ≤ 400) (htk : 0 ≤ tk) (hr : rd ≠ 0) (w : World) :
    Calls Try.prog 15 #[.string (st l), .int .i64 tk, .int .i64 0, .int .i64 rd, .bool false] w fun e w' => e = .returned (.bool true) ∧ Fr [] w w' := by
  obtain ⟨nr1, nr2⟩ := ne0 hr
  have hl6 : l.length ≤ 1000000 := by omega
  have hl' : (l.length : Int) ≤ 400 := by omega
  go_enter Try.func15, Try.ntmps15
  go_wp2_with fail
  refine (meet_new w).mono ?_
  rintro e w1 ⟨rfl, g1, h1⟩
  have E2 : mCloseR ⟨0, 0, false, [], 0⟩ rd = ⟨⟨rd, 0, false, [], 0⟩, 0⟩ := by simp [mCloseR, hr]
  have C2 := Lib.hid (closer_mm h1 rd)
  rw [E2] at C2
  clear E2
  go_wp2_with fail
  refine C2.out.mono ?_
  rintro e w2 ⟨rfl, f, h2⟩
  replace h2 : Mt w2 (fun x => x ≠ w.heap.size) w.heap.size ⟨rd, 0, false, [], 0⟩ := h2
  have g2 := g1.trans (U := []) f (by simp) (by simp)
  clear g1 h1 f C2
  go_wp2_with fail
  refine (closed_mm h2).mono ?_
  rintro e w3 ⟨he, f⟩
  obtain rfl : e = .returned (.tuple #[.int .i64 0, .int .i64 rd]) := he
  have h3 := h2.keep0 f
  have g3 := g2.then0 f
  clear g2 h2 f
  have E4 : mTake ⟨rd, 0, false, [], 0⟩ 1 = ⟨⟨rd, 0, false, [], 0⟩, [], rd⟩ := by simp [mTake, hr]
  have C4 := Lib.hid (takes12 h3 1 [] rd (by rw [E4]) (by rw [E4]))
  rw [E4] at C4
  clear E4
  go_wp2_with fail
  refine C4.out.mono ?_
  rintro e w4 ⟨rfl, f, h4⟩
  replace h4 : Mt w4 (fun x => x ≠ w.heap.size) w.heap.size ⟨rd, 0, false, [], 0⟩ := h4
  have g4 := g3.trans (U := []) f (by simp) (by simp)
  clear g3 h3 f C4
  have E5 : mTake ⟨rd, 0, false, [], 0⟩ 0 = ⟨⟨rd, 0, false, [], 0⟩, [], 0⟩ := by simp [mTake]
  have C5 := Lib.hid (takes12 h4 0 [] 0 (by rw [E5]) (by rw [E5]))
  rw [E5] at C5
  clear E5
  go_wp2_with fail
  refine C5.out.mono ?_
  rintro e w5 ⟨rfl, f, h5⟩
  replace h5 : Mt w5 (fun x => x ≠ w.heap.size) w.heap.size ⟨rd, 0, false, [], 0⟩ := h5
  have g5 := g4.trans (U := []) f (by simp) (by simp)
  clear g4 h4 f C5
  have E6 : mCloseW ⟨rd, 0, false, [], 0⟩ 0 = ⟨⟨rd, 0, false, [], 0⟩, 2⟩ := by simp [mCloseW]
  have C6 := Lib.hid (closew_mm h5 0)
  rw [E6] at C6
  clear E6
  go_wp2_with fail
  refine C6.out.mono ?_
  rintro e w6 ⟨rfl, f, h6⟩
  replace h6 : Mt w6 (fun x => x ≠ w.heap.size) w.heap.size ⟨rd, 0, false, [], 0⟩ := h6
  have g6 := g5.trans (U := []) f (by simp) (by simp)
  clear g5 h5 f C6
  have E7 : mCloseR ⟨rd, 0, false, [], 0⟩ 1 = ⟨⟨rd, 0, false, [], 0⟩, 8⟩ := by simp [mCloseR, hr]
  have C7 := Lib.hid (closer_mm h6 1)
  rw [E7] at C7
  clear E7
  go_wp2_with fail
  refine C7.out.mono ?_
  rintro e w7 ⟨rfl, f, h7⟩
  replace h7 : Mt w7 (fun x => x ≠ w.heap.size) w.heap.size ⟨rd, 0, false, [], 0⟩ := h7
  have g7 := g6.trans (U := []) f (by simp) (by simp)
  clear g6 h6 f C7
  go_wp2_with fail
  refine (left_mm h7).mono ?_
  rintro e w8 ⟨he, f⟩
  obtain rfl : e = .returned (.tuple #[.int .i64 ([] : List UInt8).length, .bool false]) := he
  have h8 := h7.keep0 f
  have g8 := g7.then0 f
  clear g7 h7 f
  have E9 : mResult ⟨rd, 0, false, [], 0⟩ = ⟨⟨rd, 0, false, [], 0⟩, 0, 9⟩ := by simp [mResult, mWithdraw, hr]
  have C9 := Lib.hid (result_mm h8)
  rw [E9] at C9
  clear E9
  go_wp2_with fail
  refine C9.out.mono ?_
  rintro e w9 ⟨rfl, f, h9⟩
  replace h9 : Mt w9 (fun x => x ≠ w.heap.size) w.heap.size ⟨rd, 0, false, [], 0⟩ := h9
  have g9 := g8.trans (U := []) f (by simp) (by simp)
  clear g8 h8 f C9
  go_wp2_with fail
  refine (ends12 _ _ _).mono ?_
  rintro e w' ⟨rfl, rfl⟩
  go_wp2_with fail
  refine (of12 (ss := [l]) (by exact SlV.lit _ _ _) rfl (by simp) (by simpa using hl6) (by have := List.length_filter_le (fun p : List UInt8 => decide (0 < p.length)) [l]; unfold own; simp at this ⊢; omega) (by simp [tot]; omega)).mono ?_
  rintro e w10 ⟨rv, rfl, f, hrp⟩
  have h10 : Mt w10 (fun x => x ≠ w.heap.size) w.heap.size ⟨rd, 0, false, [], 0⟩ := (h9.keep0 ((Fr.refl [] w9).alloc _)).keep0 f
  have hr10 := hrp.mono (N' := fun x => x ≠ w.heap.size) (fun x hx => by have := h9.lt; simp at hx; omega)
  have g10 : Fr [] w w10 := (g9.alloc _).then0 f
  clear g9 h9 hrp f
  have E11 : mOfferR ⟨rd, 0, false, [], 0⟩ (own [l]).flatten = ⟨⟨rd, 0, false, [], 0⟩, rd⟩ := by simp [mOfferR, hr]
  have C11 := Lib.hid (offer_mm h10 hr10)
  rw [E11] at C11
  clear E11
  go_wp2_with fail
  refine C11.out.mono ?_
  rintro e w11 ⟨rfl, f, h11⟩
  replace h11 : Mt w11 (fun x => x ≠ w.heap.size) w.heap.size ⟨rd, 0, false, [], 0⟩ := h11
  have g11 := g10.trans (U := []) f (by simp) (by simp)
  clear g10 h10 f C11
  clear hr10
  go_wp2_with fail
  refine (known12 _).mono ?_
  rintro e w99 ⟨rfl, f99⟩
  go_wp2_with fail
  go_ret
  exact ⟨rfl, g11.then0 f99⟩

set_option maxHeartbeats 4000000 in
theorem closes_nw {tk rd wr : Int} {l : List UInt8} (hl : l.length ≤ 400) (htk : 0 ≤ tk) (hw : wr ≠ 0) (w : World) :
    Calls Try.prog 15 #[.string (st l), .int .i64 tk, .int .i64 wr, .int .i64 0, .bool false] w fun e w' => e = .returned (.bool true) ∧ Fr [] w w' := by
  obtain ⟨nw1, nw2⟩ := ne0 hw
  have hl6 : l.length ≤ 1000000 := by omega
  have hl' : (l.length : Int) ≤ 400 := by omega
  go_enter Try.func15, Try.ntmps15
  go_wp2_with fail
  refine (meet_new w).mono ?_
  rintro e w1 ⟨rfl, g1, h1⟩
  have E2 : mCloseW ⟨0, 0, false, [], 0⟩ wr = ⟨⟨0, wr, false, [], 0⟩, 0⟩ := by simp [mCloseW, hw]
  have C2 := Lib.hid (closew_mm h1 wr)
  rw [E2] at C2
  clear E2
  go_wp2_with fail
  refine C2.out.mono ?_
  rintro e w2 ⟨rfl, f, h2⟩
  replace h2 : Mt w2 (fun x => x ≠ w.heap.size) w.heap.size ⟨0, wr, false, [], 0⟩ := h2
  have g2 := g1.trans (U := []) f (by simp) (by simp)
  clear g1 h1 f C2
  go_wp2_with fail
  refine (closed_mm h2).mono ?_
  rintro e w3 ⟨he, f⟩
  obtain rfl : e = .returned (.tuple #[.int .i64 wr, .int .i64 0]) := he
  have h3 := h2.keep0 f
  have g3 := g2.then0 f
  clear g2 h2 f
  have E4 : mTake ⟨0, wr, false, [], 0⟩ 1 = ⟨⟨0, wr, false, [], 0⟩, [], wr⟩ := by simp [mTake, hw]
  have C4 := Lib.hid (takes12 h3 1 [] wr (by rw [E4]) (by rw [E4]))
  rw [E4] at C4
  clear E4
  go_wp2_with fail
  refine C4.out.mono ?_
  rintro e w4 ⟨rfl, f, h4⟩
  replace h4 : Mt w4 (fun x => x ≠ w.heap.size) w.heap.size ⟨0, wr, false, [], 0⟩ := h4
  have g4 := g3.trans (U := []) f (by simp) (by simp)
  clear g3 h3 f C4
  have E5 : mTake ⟨0, wr, false, [], 0⟩ 0 = ⟨⟨0, wr, false, [], 0⟩, [], 0⟩ := by simp [mTake]
  have C5 := Lib.hid (takes12 h4 0 [] 0 (by rw [E5]) (by rw [E5]))
  rw [E5] at C5
  clear E5
  go_wp2_with fail
  refine C5.out.mono ?_
  rintro e w5 ⟨rfl, f, h5⟩
  replace h5 : Mt w5 (fun x => x ≠ w.heap.size) w.heap.size ⟨0, wr, false, [], 0⟩ := h5
  have g5 := g4.trans (U := []) f (by simp) (by simp)
  clear g4 h4 f C5
  have E6 : mCloseW ⟨0, wr, false, [], 0⟩ 0 = ⟨⟨0, wr, false, [], 0⟩, 2⟩ := by simp [mCloseW]
  have C6 := Lib.hid (closew_mm h5 0)
  rw [E6] at C6
  clear E6
  go_wp2_with fail
  refine C6.out.mono ?_
  rintro e w6 ⟨rfl, f, h6⟩
  replace h6 : Mt w6 (fun x => x ≠ w.heap.size) w.heap.size ⟨0, wr, false, [], 0⟩ := h6
  have g6 := g5.trans (U := []) f (by simp) (by simp)
  clear g5 h5 f C6
  have E7 : mCloseW ⟨0, wr, false, [], 0⟩ 1 = ⟨⟨0, wr, false, [], 0⟩, 8⟩ := by simp [mCloseW, hw]
  have C7 := Lib.hid (closew_mm h6 1)
  rw [E7] at C7
  clear E7
  go_wp2_with fail
  refine C7.out.mono ?_
  rintro e w7 ⟨rfl, f, h7⟩
  replace h7 : Mt w7 (fun x => x ≠ w.heap.size) w.heap.size ⟨0, wr, false, [], 0⟩ := h7
  have g7 := g6.trans (U := []) f (by simp) (by simp)
  clear g6 h6 f C7
  go_wp2_with fail
  refine (left_mm h7).mono ?_
  rintro e w8 ⟨he, f⟩
  obtain rfl : e = .returned (.tuple #[.int .i64 ([] : List UInt8).length, .bool false]) := he
  have h8 := h7.keep0 f
  have g8 := g7.then0 f
  clear g7 h7 f
  have E9 : mResult ⟨0, wr, false, [], 0⟩ = ⟨⟨0, wr, false, [], 0⟩, 0, 9⟩ := by simp [mResult, mWithdraw, hw]
  have C9 := Lib.hid (result_mm h8)
  rw [E9] at C9
  clear E9
  go_wp2_with fail
  refine C9.out.mono ?_
  rintro e w9 ⟨rfl, f, h9⟩
  replace h9 : Mt w9 (fun x => x ≠ w.heap.size) w.heap.size ⟨0, wr, false, [], 0⟩ := h9
  have g9 := g8.trans (U := []) f (by simp) (by simp)
  clear g8 h8 f C9
  go_wp2_with fail
  refine (ends12 _ _ _).mono ?_
  rintro e w' ⟨rfl, rfl⟩
  go_wp2_with fail
  refine (of12 (ss := [l]) (by exact SlV.lit _ _ _) rfl (by simp) (by simpa using hl6) (by have := List.length_filter_le (fun p : List UInt8 => decide (0 < p.length)) [l]; unfold own; simp at this ⊢; omega) (by simp [tot]; omega)).mono ?_
  rintro e w10 ⟨rv, rfl, f, hrp⟩
  have h10 : Mt w10 (fun x => x ≠ w.heap.size) w.heap.size ⟨0, wr, false, [], 0⟩ := (h9.keep0 ((Fr.refl [] w9).alloc _)).keep0 f
  have hr10 := hrp.mono (N' := fun x => x ≠ w.heap.size) (fun x hx => by have := h9.lt; simp at hx; omega)
  have g10 : Fr [] w w10 := (g9.alloc _).then0 f
  clear g9 h9 hrp f
  have E11 : mOfferR ⟨0, wr, false, [], 0⟩ (own [l]).flatten = ⟨⟨0, wr, false, [], 0⟩, 14⟩ := by simp [mOfferR, hw]
  have C11 := Lib.hid (offer_mm h10 hr10)
  rw [E11] at C11
  clear E11
  go_wp2_with fail
  refine C11.out.mono ?_
  rintro e w11 ⟨rfl, f, h11⟩
  replace h11 : Mt w11 (fun x => x ≠ w.heap.size) w.heap.size ⟨0, wr, false, [], 0⟩ := h11
  have g11 := g10.trans (U := []) f (by simp) (by simp)
  clear g10 h10 f C11
  clear hr10
  go_wp2_with fail
  refine (known12 _).mono ?_
  rintro e w99 ⟨rfl, f99⟩
  go_wp2_with fail
  go_ret
  exact ⟨rfl, g11.then0 f99⟩

set_option maxHeartbeats 4000000 in
theorem closes_nrw {tk rd wr : Int} {l : List UInt8} (hl : l.length ≤ 400) (htk : 0 ≤ tk) (hr : rd ≠ 0) (hw : wr ≠ 0) (w : World) :
    Calls Try.prog 15 #[.string (st l), .int .i64 tk, .int .i64 wr, .int .i64 rd, .bool false] w fun e w' => e = .returned (.bool true) ∧ Fr [] w w' := by
  obtain ⟨nr1, nr2⟩ := ne0 hr
  obtain ⟨nw1, nw2⟩ := ne0 hw
  have hl6 : l.length ≤ 1000000 := by omega
  have hl' : (l.length : Int) ≤ 400 := by omega
  go_enter Try.func15, Try.ntmps15
  go_wp2_with fail
  refine (meet_new w).mono ?_
  rintro e w1 ⟨rfl, g1, h1⟩
  have E2 : mCloseW ⟨0, 0, false, [], 0⟩ wr = ⟨⟨0, wr, false, [], 0⟩, 0⟩ := by simp [mCloseW, hw]
  have C2 := Lib.hid (closew_mm h1 wr)
  rw [E2] at C2
  clear E2
  go_wp2_with fail
  refine C2.out.mono ?_
  rintro e w2 ⟨rfl, f, h2⟩
  replace h2 : Mt w2 (fun x => x ≠ w.heap.size) w.heap.size ⟨0, wr, false, [], 0⟩ := h2
  have g2 := g1.trans (U := []) f (by simp) (by simp)
  clear g1 h1 f C2
  have E3 : mCloseR ⟨0, wr, false, [], 0⟩ rd = ⟨⟨rd, wr, false, [], 0⟩, 0⟩ := by simp [mCloseR, hr]
  have C3 := Lib.hid (closer_mm h2 rd)
  rw [E3] at C3
  clear E3
  go_wp2_with fail
  refine C3.out.mono ?_
  rintro e w3 ⟨rfl, f, h3⟩
  replace h3 : Mt w3 (fun x => x ≠ w.heap.size) w.heap.size ⟨rd, wr, false, [], 0⟩ := h3
  have g3 := g2.trans (U := []) f (by simp) (by simp)
  clear g2 h2 f C3
  go_wp2_with fail
  refine (closed_mm h3).mono ?_
  rintro e w4 ⟨he, f⟩
  obtain rfl : e = .returned (.tuple #[.int .i64 wr, .int .i64 rd]) := he
  have h4 := h3.keep0 f
  have g4 := g3.then0 f
  clear g3 h3 f
  have E5 : mTake ⟨rd, wr, false, [], 0⟩ 1 = ⟨⟨rd, wr, false, [], 0⟩, [], rd⟩ := by simp [mTake, hr]
  have C5 := Lib.hid (takes12 h4 1 [] rd (by rw [E5]) (by rw [E5]))
  rw [E5] at C5
  clear E5
  go_wp2_with fail
  refine C5.out.mono ?_
  rintro e w5 ⟨rfl, f, h5⟩
  replace h5 : Mt w5 (fun x => x ≠ w.heap.size) w.heap.size ⟨rd, wr, false, [], 0⟩ := h5
  have g5 := g4.trans (U := []) f (by simp) (by simp)
  clear g4 h4 f C5
  have E6 : mTake ⟨rd, wr, false, [], 0⟩ 0 = ⟨⟨rd, wr, false, [], 0⟩, [], 0⟩ := by simp [mTake]
  have C6 := Lib.hid (takes12 h5 0 [] 0 (by rw [E6]) (by rw [E6]))
  rw [E6] at C6
  clear E6
  go_wp2_with fail
  refine C6.out.mono ?_
  rintro e w6 ⟨rfl, f, h6⟩
  replace h6 : Mt w6 (fun x => x ≠ w.heap.size) w.heap.size ⟨rd, wr, false, [], 0⟩ := h6
  have g6 := g5.trans (U := []) f (by simp) (by simp)
  clear g5 h5 f C6
  have E7 : mCloseW ⟨rd, wr, false, [], 0⟩ 0 = ⟨⟨rd, wr, false, [], 0⟩, 2⟩ := by simp [mCloseW]
  have C7 := Lib.hid (closew_mm h6 0)
  rw [E7] at C7
  clear E7
  go_wp2_with fail
  refine C7.out.mono ?_
  rintro e w7 ⟨rfl, f, h7⟩
  replace h7 : Mt w7 (fun x => x ≠ w.heap.size) w.heap.size ⟨rd, wr, false, [], 0⟩ := h7
  have g7 := g6.trans (U := []) f (by simp) (by simp)
  clear g6 h6 f C7
  have E8 : mCloseW ⟨rd, wr, false, [], 0⟩ 1 = ⟨⟨rd, wr, false, [], 0⟩, 8⟩ := by simp [mCloseW, hw]
  have C8 := Lib.hid (closew_mm h7 1)
  rw [E8] at C8
  clear E8
  go_wp2_with fail
  refine C8.out.mono ?_
  rintro e w8 ⟨rfl, f, h8⟩
  replace h8 : Mt w8 (fun x => x ≠ w.heap.size) w.heap.size ⟨rd, wr, false, [], 0⟩ := h8
  have g8 := g7.trans (U := []) f (by simp) (by simp)
  clear g7 h7 f C8
  have E9 : mCloseR ⟨rd, wr, false, [], 0⟩ 1 = ⟨⟨rd, wr, false, [], 0⟩, 8⟩ := by simp [mCloseR, hr]
  have C9 := Lib.hid (closer_mm h8 1)
  rw [E9] at C9
  clear E9
  go_wp2_with fail
  refine C9.out.mono ?_
  rintro e w9 ⟨rfl, f, h9⟩
  replace h9 : Mt w9 (fun x => x ≠ w.heap.size) w.heap.size ⟨rd, wr, false, [], 0⟩ := h9
  have g9 := g8.trans (U := []) f (by simp) (by simp)
  clear g8 h8 f C9
  go_wp2_with fail
  refine (left_mm h9).mono ?_
  rintro e w10 ⟨he, f⟩
  obtain rfl : e = .returned (.tuple #[.int .i64 ([] : List UInt8).length, .bool false]) := he
  have h10 := h9.keep0 f
  have g10 := g9.then0 f
  clear g9 h9 f
  have E11 : mResult ⟨rd, wr, false, [], 0⟩ = ⟨⟨rd, wr, false, [], 0⟩, 0, 9⟩ := by simp [mResult, mWithdraw, hr]
  have C11 := Lib.hid (result_mm h10)
  rw [E11] at C11
  clear E11
  go_wp2_with fail
  refine C11.out.mono ?_
  rintro e w11 ⟨rfl, f, h11⟩
  replace h11 : Mt w11 (fun x => x ≠ w.heap.size) w.heap.size ⟨rd, wr, false, [], 0⟩ := h11
  have g11 := g10.trans (U := []) f (by simp) (by simp)
  clear g10 h10 f C11
  go_wp2_with fail
  refine (ends12 _ _ _).mono ?_
  rintro e w' ⟨rfl, rfl⟩
  go_wp2_with fail
  refine (of12 (ss := [l]) (by exact SlV.lit _ _ _) rfl (by simp) (by simpa using hl6) (by have := List.length_filter_le (fun p : List UInt8 => decide (0 < p.length)) [l]; unfold own; simp at this ⊢; omega) (by simp [tot]; omega)).mono ?_
  rintro e w12 ⟨rv, rfl, f, hrp⟩
  have h12 : Mt w12 (fun x => x ≠ w.heap.size) w.heap.size ⟨rd, wr, false, [], 0⟩ := (h11.keep0 ((Fr.refl [] w11).alloc _)).keep0 f
  have hr12 := hrp.mono (N' := fun x => x ≠ w.heap.size) (fun x hx => by have := h11.lt; simp at hx; omega)
  have g12 : Fr [] w w12 := (g11.alloc _).then0 f
  clear g11 h11 hrp f
  have E13 : mOfferR ⟨rd, wr, false, [], 0⟩ (own [l]).flatten = ⟨⟨rd, wr, false, [], 0⟩, rd⟩ := by simp [mOfferR, hr]
  have C13 := Lib.hid (offer_mm h12 hr12)
  rw [E13] at C13
  clear E13
  go_wp2_with fail
  refine C13.out.mono ?_
  rintro e w13 ⟨rfl, f, h13⟩
  replace h13 : Mt w13 (fun x => x ≠ w.heap.size) w.heap.size ⟨rd, wr, false, [], 0⟩ := h13
  have g13 := g12.trans (U := []) f (by simp) (by simp)
  clear g12 h12 f C13
  clear hr12
  go_wp2_with fail
  refine (known12 _).mono ?_
  rintro e w99 ⟨rfl, f99⟩
  go_wp2_with fail
  go_ret
  exact ⟨rfl, g13.then0 f99⟩

theorem meetCloses_walk (s : ByteArray) (tk wr rd : Int) (o : Bool) (hs : s.size ≤ maxLen) (w : World) :
    Calls Try.prog 15 #[.string s, .int .i64 tk, .int .i64 wr, .int .i64 rd, .bool o] w fun e w' => e = .returned (.bool true) ∧ Fr [] w w' := by
  obtain ⟨l, rfl⟩ := st_of s
  rw [st_size] at hs
  unfold maxLen at hs
  by_cases h1 : (400 : Int) < l.length
  · go_enter Try.func15, Try.ntmps15
    go_wp2_with fail
    refine (known12 _).mono ?_
    rintro e w' ⟨rfl, f⟩
    go_wp2_with fail
    go_ret
    exact ⟨rfl, f⟩
  have h1' : l.length ≤ 400 := by omega
  have h1'' : (l.length : Int) ≤ 400 := by omega
  clear h1
  by_cases h2 : tk < 0
  · go_enter Try.func15, Try.ntmps15
    go_wp2_with fail
    refine (known12 _).mono ?_
    rintro e w' ⟨rfl, f⟩
    go_wp2_with fail
    go_ret
    exact ⟨rfl, f⟩
  have h2' : 0 ≤ tk := by omega
  clear h2
  by_cases h3 : wr = 0
  · subst h3
    by_cases h4 : rd = 0
    · subst h4
      go_enter Try.func15, Try.ntmps15
      go_wp2_with fail
      refine (known12 _).mono ?_
      rintro e w' ⟨rfl, f⟩
      go_wp2_with fail
      go_ret
      exact ⟨rfl, f⟩
    · cases o
      · exact closes_nr (wr := 0) h1' h2' h4 w
      · exact closes_or (wr := 0) h1' h2' h4 w
  · by_cases h4 : rd = 0
    · subst h4
      cases o
      · exact closes_nw (rd := 0) h1' h2' h3 w
      · exact closes_ow (rd := 0) h1' h2' h3 w
    · cases o
      · exact closes_nrw h1' h2' h4 h3 w
      · exact closes_orw h1' h2' h4 h3 w
end Go.Proofs.Ytpkgjgfdobcboaa
