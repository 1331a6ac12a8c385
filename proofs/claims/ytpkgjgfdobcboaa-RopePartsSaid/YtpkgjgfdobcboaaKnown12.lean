/-
  Layer 12's law: takes, ends, and the chapter's examples.
-/
import Derived.Test.YtpkgjgfdobcboaaOf12
import Derived.Test.YtpkgjgfdobcboaaMeetMM
namespace Go.Proofs.Ytpkgjgfdobcboaa
open Go.RowKit
set_option maxRecDepth 100000

theorem SlV.lit (w : World) (xs : List Value) (t : TypeId) : SlV (w.alloc (.cells xs.toArray t)) (some ⟨w.heap.size, 0, none⟩) xs := fun _ =>
  ⟨_, _, rfl, by simp, fun i _ => by rw [Nat.zero_add, cell_of (newA rfl), List.getElem?_toArray]⟩

theorem ends12 (w : World) (n e : Int) : Calls Try.prog 65 #[.int .i64 n, .int .i64 e, .int .i64 n, .int .i64 e] w fun r w' => r = .returned (.bool true) ∧ w = w' := by
  go_enter Try.func65, Try.ntmps65
  go_wp2
  go_ret
  exact ⟨rfl, rfl⟩

theorem takes12 {w : World} {N : Nat → Prop} {b : Nat} {m : MM} (h : Mt w N b m) (most : Int) (l : List UInt8) (no : Int) (hq : (mTake m most).out = l) (he : (mTake m most).err = no) :
    Calls Try.prog 70 #[.pointer (some ⟨b, 0, none⟩), .int .i64 most, .string (st l), .int .i64 no] w fun e w' =>
      e = .returned (.bool true) ∧ Fr [b] w w' ∧ Mt w' N b (mTake m most).m := by
  have HT := Lib.hid (take_mm h most)
  unfold TkPost at HT
  rw [hq, he] at HT
  clear h hq he
  go_enter Try.func70, Try.ntmps70
  go_wp2_with fail
  refine HT.out.mono ?_
  rintro e w2 ⟨u, rfl, f2, o2, h2⟩
  clear HT
  obtain ⟨ga, gc, rfl, _, _, hs, _⟩ := o2.formB
  have hcv := fun c => conv_st (cap := c) hs rfl
  go_wp2_with fail
  go_ret
  exact ⟨rfl, f2, h2⟩

set_option maxHeartbeats 4000000 in
theorem known12 (w : World) :
    Calls Try.prog 58 #[] w fun e w' => e = .returned (.bool true) ∧ Fr [] w w' := by
  go_enter Try.func58, Try.ntmps58
  go_wp2_with fail
  refine (meet_new w).mono ?_
  rintro e w1 ⟨rfl, g1, h1⟩
  go_wp2_with fail
  refine (takes12 h1 3 [] 16 rfl rfl).mono ?_
  rintro e w2 ⟨rfl, f, h2⟩
  replace h2 : Mt w2 (fun x => x ≠ w.heap.size) w.heap.size ⟨0, 0, false, [], 0⟩ := h2
  replace g2 : Fr [] w w2 := g1.trans f (by simp) (by simp)
  clear g1 h1
  go_wp2_with fail
  refine (takes12 h2 0 [] 0 rfl rfl).mono ?_
  rintro e w3 ⟨rfl, f, h3⟩
  replace h3 : Mt w3 (fun x => x ≠ w.heap.size) w.heap.size ⟨0, 0, false, [], 0⟩ := h3
  replace g3 : Fr [] w w3 := g2.trans f (by simp) (by simp)
  clear g2 h2
  go_wp2_with fail
  refine (result_mm h3).mono ?_
  rintro e w4 ⟨he, f, h4⟩
  replace h4 : Mt w4 (fun x => x ≠ w.heap.size) w.heap.size ⟨0, 0, false, [], 0⟩ := h4
  replace g4 : Fr [] w w4 := g3.trans f (by simp) (by simp)
  clear g3 h3
  obtain rfl : e = .returned (.tuple #[.int .i64 0, .int .i64 9]) := he
  go_wp2_with fail
  refine (ends12 _ 0 9).mono ?_
  rintro e w' ⟨rfl, rfl⟩
  go_wp2_with fail
  refine (of12 (ss := [[97, 98], [99, 100, 101]]) (by exact SlV.lit _ _ _) rfl (by simp) (by simp) (by decide) (by decide)).mono ?_
  rintro e w5 ⟨rv, rfl, f, hr⟩
  have h5 : Mt w5 (fun x => x ≠ w.heap.size) w.heap.size ⟨0, 0, false, [], 0⟩ := (h4.keep0 ((Fr.refl [] w4).alloc _)).keep0 f
  have hr5 := hr.mono (N' := fun x => x ≠ w.heap.size) (fun x hx => by have := h4.lt; simp at hx; omega)
  have g5 : Fr [] w w5 := (g4.alloc _).then0 f
  clear g4 h4 hr f
  go_wp2_with fail
  refine (offer_mm h5 hr5).mono ?_
  rintro e w6 ⟨he, f, h6⟩
  replace h6 : Mt w6 (fun x => x ≠ w.heap.size) w.heap.size ⟨0, 0, true, [97, 98, 99, 100, 101], 0⟩ := h6
  replace g6 : Fr [] w w6 := g5.trans f (by simp) (by simp)
  clear g5 h5
  obtain rfl : e = .returned (.int .i64 0) := he
  clear hr5
  go_wp2_with fail
  refine (of12 (ss := [[120]]) (by exact SlV.lit _ _ _) rfl (by simp) (by simp) (by decide) (by decide)).mono ?_
  rintro e w7 ⟨rv, rfl, f, hr⟩
  have h7 : Mt w7 (fun x => x ≠ w.heap.size) w.heap.size ⟨0, 0, true, [97, 98, 99, 100, 101], 0⟩ := (h6.keep0 ((Fr.refl [] w6).alloc _)).keep0 f
  have hr7 := hr.mono (N' := fun x => x ≠ w.heap.size) (fun x hx => by have := h6.lt; simp at hx; omega)
  have g7 : Fr [] w w7 := (g6.alloc _).then0 f
  clear g6 h6 hr f
  go_wp2_with fail
  refine (offer_mm h7 hr7).mono ?_
  rintro e w8 ⟨he, f, h8⟩
  replace h8 : Mt w8 (fun x => x ≠ w.heap.size) w.heap.size ⟨0, 0, true, [97, 98, 99, 100, 101], 0⟩ := h8
  replace g8 : Fr [] w w8 := g7.trans f (by simp) (by simp)
  clear g7 h7
  obtain rfl : e = .returned (.int .i64 11) := he
  clear hr7
  go_wp2_with fail
  refine (left_mm h8).mono ?_
  rintro e w9 ⟨he, f⟩
  obtain rfl : e = .returned (.tuple #[.int .i64 5, .bool true]) := he
  have h9 := h8.keep0 f
  have g9 := g8.then0 f
  clear g8 h8 f
  go_wp2_with fail
  refine (takes12 h9 2 [97, 98] 0 rfl rfl).mono ?_
  rintro e w10 ⟨rfl, f, h10⟩
  replace h10 : Mt w10 (fun x => x ≠ w.heap.size) w.heap.size ⟨0, 0, true, [99, 100, 101], 2⟩ := h10
  replace g10 : Fr [] w w10 := g9.trans f (by simp) (by simp)
  clear g9 h9
  go_wp2_with fail
  refine (result_mm h10).mono ?_
  rintro e w11 ⟨he, f, h11⟩
  replace h11 : Mt w11 (fun x => x ≠ w.heap.size) w.heap.size ⟨0, 0, true, [99, 100, 101], 2⟩ := h11
  replace g11 : Fr [] w w11 := g10.trans f (by simp) (by simp)
  clear g10 h10
  obtain rfl : e = .returned (.tuple #[.int .i64 0, .int .i64 16]) := he
  go_wp2_with fail
  refine (ends12 _ 0 16).mono ?_
  rintro e w' ⟨rfl, rfl⟩
  go_wp2_with fail
  refine (takes12 h11 9 [99, 100, 101] 0 rfl rfl).mono ?_
  rintro e w12 ⟨rfl, f, h12⟩
  replace h12 : Mt w12 (fun x => x ≠ w.heap.size) w.heap.size ⟨0, 0, true, [], 5⟩ := h12
  replace g12 : Fr [] w w12 := g11.trans f (by simp) (by simp)
  clear g11 h11
  go_wp2_with fail
  refine (takes12 h12 1 [] 16 rfl rfl).mono ?_
  rintro e w13 ⟨rfl, f, h13⟩
  replace h13 : Mt w13 (fun x => x ≠ w.heap.size) w.heap.size ⟨0, 0, true, [], 5⟩ := h13
  replace g13 : Fr [] w w13 := g12.trans f (by simp) (by simp)
  clear g12 h12
  go_wp2_with fail
  refine (result_mm h13).mono ?_
  rintro e w14 ⟨he, f, h14⟩
  replace h14 : Mt w14 (fun x => x ≠ w.heap.size) w.heap.size ⟨0, 0, false, [], 0⟩ := h14
  replace g14 : Fr [] w w14 := g13.trans f (by simp) (by simp)
  clear g13 h13
  obtain rfl : e = .returned (.tuple #[.int .i64 5, .int .i64 0]) := he
  go_wp2_with fail
  refine (left_mm h14).mono ?_
  rintro e w15 ⟨he, f⟩
  obtain rfl : e = .returned (.tuple #[.int .i64 0, .bool false]) := he
  have h15 := h14.keep0 f
  have g15 := g14.then0 f
  clear g14 h14 f
  go_wp2_with fail
  refine (ends12 _ 5 0).mono ?_
  rintro e w' ⟨rfl, rfl⟩
  go_wp2_with fail
  refine (of12 (ss := [[112, 113]]) (by exact SlV.lit _ _ _) rfl (by simp) (by simp) (by decide) (by decide)).mono ?_
  rintro e w16 ⟨rv, rfl, f, hr⟩
  have h16 : Mt w16 (fun x => x ≠ w.heap.size) w.heap.size ⟨0, 0, false, [], 0⟩ := (h15.keep0 ((Fr.refl [] w15).alloc _)).keep0 f
  have hr16 := hr.mono (N' := fun x => x ≠ w.heap.size) (fun x hx => by have := h15.lt; simp at hx; omega)
  have g16 : Fr [] w w16 := (g15.alloc _).then0 f
  clear g15 h15 hr f
  go_wp2_with fail
  refine (offer_mm h16 hr16).mono ?_
  rintro e w17 ⟨he, f, h17⟩
  replace h17 : Mt w17 (fun x => x ≠ w.heap.size) w.heap.size ⟨0, 0, true, [112, 113], 0⟩ := h17
  replace g17 : Fr [] w w17 := g16.trans f (by simp) (by simp)
  clear g16 h16
  obtain rfl : e = .returned (.int .i64 0) := he
  clear hr16
  go_wp2_with fail
  refine (takes12 h17 1 [112] 0 rfl rfl).mono ?_
  rintro e w18 ⟨rfl, f, h18⟩
  replace h18 : Mt w18 (fun x => x ≠ w.heap.size) w.heap.size ⟨0, 0, true, [113], 1⟩ := h18
  replace g18 : Fr [] w w18 := g17.trans f (by simp) (by simp)
  clear g17 h17
  go_wp2_with fail
  refine (closew_mm h18 13).mono ?_
  rintro e w19 ⟨he, f, h19⟩
  replace h19 : Mt w19 (fun x => x ≠ w.heap.size) w.heap.size ⟨0, 13, true, [113], 1⟩ := h19
  replace g19 : Fr [] w w19 := g18.trans f (by simp) (by simp)
  clear g18 h18
  obtain rfl : e = .returned (.int .i64 0) := he
  go_wp2_with fail
  refine (takes12 h19 1 [] 13 rfl rfl).mono ?_
  rintro e w20 ⟨rfl, f, h20⟩
  replace h20 : Mt w20 (fun x => x ≠ w.heap.size) w.heap.size ⟨0, 13, true, [113], 1⟩ := h20
  replace g20 : Fr [] w w20 := g19.trans f (by simp) (by simp)
  clear g19 h19
  go_wp2_with fail
  refine (withdraw_mm h20).mono ?_
  rintro e w21 ⟨he, f, h21⟩
  replace h21 : Mt w21 (fun x => x ≠ w.heap.size) w.heap.size ⟨0, 13, false, [], 0⟩ := h21
  replace g21 : Fr [] w w21 := g20.trans f (by simp) (by simp)
  clear g20 h20
  obtain rfl : e = .returned (.tuple #[.int .i64 1, .int .i64 0]) := he
  go_wp2_with fail
  refine (ends12 _ 1 0).mono ?_
  rintro e w' ⟨rfl, rfl⟩
  go_wp2_with fail
  refine (takes12 h21 1 [] 13 rfl rfl).mono ?_
  rintro e w22 ⟨rfl, f, h22⟩
  replace h22 : Mt w22 (fun x => x ≠ w.heap.size) w.heap.size ⟨0, 13, false, [], 0⟩ := h22
  replace g22 : Fr [] w w22 := g21.trans f (by simp) (by simp)
  clear g21 h21
  go_wp2_with fail
  refine (of12 (ss := [[114]]) (by exact SlV.lit _ _ _) rfl (by simp) (by simp) (by decide) (by decide)).mono ?_
  rintro e w23 ⟨rv, rfl, f, hr⟩
  have h23 : Mt w23 (fun x => x ≠ w.heap.size) w.heap.size ⟨0, 13, false, [], 0⟩ := (h22.keep0 ((Fr.refl [] w22).alloc _)).keep0 f
  have hr23 := hr.mono (N' := fun x => x ≠ w.heap.size) (fun x hx => by have := h22.lt; simp at hx; omega)
  have g23 : Fr [] w w23 := (g22.alloc _).then0 f
  clear g22 h22 hr f
  go_wp2_with fail
  refine (offer_mm h23 hr23).mono ?_
  rintro e w24 ⟨he, f, h24⟩
  replace h24 : Mt w24 (fun x => x ≠ w.heap.size) w.heap.size ⟨0, 13, false, [], 0⟩ := h24
  replace g24 : Fr [] w w24 := g23.trans f (by simp) (by simp)
  clear g23 h23
  obtain rfl : e = .returned (.int .i64 14) := he
  clear hr23
  go_wp2_with fail
  refine (closer_mm h24 14).mono ?_
  rintro e w25 ⟨he, f, h25⟩
  replace h25 : Mt w25 (fun x => x ≠ w.heap.size) w.heap.size ⟨14, 13, false, [], 0⟩ := h25
  replace g25 : Fr [] w w25 := g24.trans f (by simp) (by simp)
  clear g24 h24
  obtain rfl : e = .returned (.int .i64 0) := he
  go_wp2_with fail
  refine (of12 (ss := [[115]]) (by exact SlV.lit _ _ _) rfl (by simp) (by simp) (by decide) (by decide)).mono ?_
  rintro e w26 ⟨rv, rfl, f, hr⟩
  have h26 : Mt w26 (fun x => x ≠ w.heap.size) w.heap.size ⟨14, 13, false, [], 0⟩ := (h25.keep0 ((Fr.refl [] w25).alloc _)).keep0 f
  have hr26 := hr.mono (N' := fun x => x ≠ w.heap.size) (fun x hx => by have := h25.lt; simp at hx; omega)
  have g26 : Fr [] w w26 := (g25.alloc _).then0 f
  clear g25 h25 hr f
  go_wp2_with fail
  refine (offer_mm h26 hr26).mono ?_
  rintro e w27 ⟨he, f, h27⟩
  replace h27 : Mt w27 (fun x => x ≠ w.heap.size) w.heap.size ⟨14, 13, false, [], 0⟩ := h27
  replace g27 : Fr [] w w27 := g26.trans f (by simp) (by simp)
  clear g26 h26
  obtain rfl : e = .returned (.int .i64 14) := he
  clear hr26
  go_wp2_with fail
  refine (closer_mm h27 14).mono ?_
  rintro e w28 ⟨he, f, h28⟩
  replace h28 : Mt w28 (fun x => x ≠ w.heap.size) w.heap.size ⟨14, 13, false, [], 0⟩ := h28
  replace g28 : Fr [] w w28 := g27.trans f (by simp) (by simp)
  clear g27 h27
  obtain rfl : e = .returned (.int .i64 8) := he
  go_wp2_with fail
  go_ret
  exact ⟨rfl, g28⟩
end Go.Proofs.Ytpkgjgfdobcboaa
