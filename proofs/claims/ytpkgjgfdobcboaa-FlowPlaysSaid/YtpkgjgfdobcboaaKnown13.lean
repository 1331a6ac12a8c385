/-
  Layer 13's law: writes, reads, and the chapter's examples.
-/
import Derived.Test.YtpkgjgfdobcboaaOf13
import Derived.Test.YtpkgjgfdobcboaaFlowMore
import Derived.Test.YtpkgjgfdobcboaaKnown12
namespace Go.Proofs.Ytpkgjgfdobcboaa
open Go.RowKit
set_option maxRecDepth 100000

theorem reads13 {w : World} {b R D : Nat} {m : FM} (h : Fl w b R D m) (most : Int) (l : List UInt8) (no : Int) (hq : (fRead m most).out = l) (he : (fRead m most).err = no) :
    Calls Try.prog 82 #[.pointer (some ⟨b, 0, none⟩), .int .i64 most, .string (st l), .int .i64 no] w fun e w' =>
      e = .returned (.bool true) ∧ Fr [R, D] w w' ∧ Fl w' b R D (fRead m most).m := by
  have HT := Lib.hid (flow_read h most)
  unfold FTPost at HT
  rw [hq, he] at HT
  clear h hq he
  go_enter Try.func82, Try.ntmps82
  go_wp2_with fail
  refine HT.out.mono ?_
  rintro e w2 ⟨u, rfl, f2, o2, h2⟩
  clear HT
  obtain ⟨ga, gc, rfl, _, _, hs, _⟩ := o2.formB
  have hcv := fun c => conv_st (cap := c) hs rfl
  go_wp2_with fail
  go_ret
  exact ⟨rfl, f2, h2⟩

theorem writes13 {w : World} {b R D : Nat} {m : FM} (h : Fl w b R D m) {x : List UInt8} (hx : x.length ≤ 65536) (n : Nat) (no : Int) (hq : (fWrite m x).n = n) (he : (fWrite m x).err = no) :
    Calls Try.prog 113 #[.pointer (some ⟨b, 0, none⟩), .string (st x), .int .i64 n, .int .i64 no] w fun e w' =>
      e = .returned (.bool true) ∧ Fr [R, D] w w' ∧ Fl w' b R D (fWrite m x).m := by
  have HW := Lib.hid fun (w1 : World) (v : Value) (N : Nat → Prop) (h1 : Fl w1 b R D m) (hv : Rp w1 N v (own [x])) (hR : ¬ N R) (hD : ¬ N D) => flow_write h1 hv hR hD
  have e1 : (own [x]).flatten = x := by rw [own_flat]; simp
  unfold FNPost at HW
  rw [e1, hq, he] at HW
  have HH := Lib.hid h
  have hbd := h.bd
  clear h hq he e1
  go_enter Try.func113, Try.ntmps113
  go_wp2_with fail
  refine (of13 (ss := [x]) (by exact SlV.lit _ _ _) rfl (by simp) (by simp; omega) (Nat.le_trans (List.length_filter_le _ _) (by simp)) (by simp [tot]; omega)).mono ?_
  rintro e w1 ⟨rv, rfl, f1, hr⟩
  have f2 : Fr [] w w1 := ((Fr.refl [] w).alloc _).then0 f1
  have hr' := hr.mono (N' := fun y => w.heap.size ≤ y) (fun y hy => by simp at hy; omega)
  clear hr f1
  go_wp2_with fail
  refine (HW.out w1 _ _ (HH.out.keep0 f2) hr' (by omega) (by omega)).mono ?_
  rintro e w2 ⟨rfl, f3, h3⟩
  go_wp2_with fail
  go_ret
  exact ⟨rfl, f2.trans f3 (by simp) (fun y hy => .inl hy), h3⟩

set_option maxHeartbeats 4000000 in
theorem known13 (w : World) :
    Calls Try.prog 76 #[] w fun e w' => e = .returned (.bool true) ∧ Fr [] w w' := by
  go_enter Try.func76, Try.ntmps76
  go_wp2_with fail
  refine (flow_new 4 w (by omega) (by omega)).mono ?_
  rintro e w1 ⟨b, R, D, rfl, g1, hb, hR, hD, h1⟩
  go_wp2_with fail
  refine (reads13 h1 1 [] 16 rfl rfl).mono ?_
  rintro e w2 ⟨rfl, f, h2⟩
  replace h2 : Fl w2 b R D ⟨4, [], 0, 0⟩ := h2
  have g2 : Fr [] w w2 := g1.trans f (by simp) (by simp; omega)
  clear g1 h1 f
  go_wp2_with fail
  refine (writes13 h2 (x := [97, 98, 99]) (by simp) 3 0 rfl rfl).mono ?_
  rintro e w3 ⟨rfl, f, h3⟩
  replace h3 : Fl w3 b R D ⟨4, [97, 98, 99], 0, 0⟩ := h3
  have g3 : Fr [] w w3 := g2.trans f (by simp) (by simp; omega)
  clear g2 h2 f
  go_wp2_with fail
  refine (writes13 h3 (x := [100, 101, 102, 103]) (by simp) 1 0 rfl rfl).mono ?_
  rintro e w4 ⟨rfl, f, h4⟩
  replace h4 : Fl w4 b R D ⟨4, [97, 98, 99, 100], 0, 0⟩ := h4
  have g4 : Fr [] w w4 := g3.trans f (by simp) (by simp; omega)
  clear g3 h3 f
  go_wp2_with fail
  refine (writes13 h4 (x := [120]) (by simp) 0 16 rfl rfl).mono ?_
  rintro e w5 ⟨rfl, f, h5⟩
  replace h5 : Fl w5 b R D ⟨4, [97, 98, 99, 100], 0, 0⟩ := h5
  have g5 : Fr [] w w5 := g4.trans f (by simp) (by simp; omega)
  clear g4 h4 f
  go_wp2_with fail
  refine (writes13 h5 (x := []) (by simp) 0 0 rfl rfl).mono ?_
  rintro e w6 ⟨rfl, f, h6⟩
  replace h6 : Fl w6 b R D ⟨4, [97, 98, 99, 100], 0, 0⟩ := h6
  have g6 : Fr [] w w6 := g5.trans f (by simp) (by simp; omega)
  clear g5 h5 f
  go_wp2_with fail
  refine (reads13 h6 3 [97, 98, 99] 0 rfl rfl).mono ?_
  rintro e w7 ⟨rfl, f, h7⟩
  replace h7 : Fl w7 b R D ⟨4, [100], 0, 0⟩ := h7
  have g7 : Fr [] w w7 := g6.trans f (by simp) (by simp; omega)
  clear g6 h6 f
  go_wp2_with fail
  refine (writes13 h7 (x := [120, 121]) (by simp) 2 0 rfl rfl).mono ?_
  rintro e w8 ⟨rfl, f, h8⟩
  replace h8 : Fl w8 b R D ⟨4, [100, 120, 121], 0, 0⟩ := h8
  have g8 : Fr [] w w8 := g7.trans f (by simp) (by simp; omega)
  clear g7 h7 f
  go_wp2_with fail
  refine (flow_closew h8 13).mono ?_
  rintro e w9 ⟨he, f, h9⟩
  obtain rfl : e = .returned (.int .i64 0) := he
  replace h9 : Fl w9 b R D ⟨4, [100, 120, 121], 13, 0⟩ := h9
  have g9 : Fr [] w w9 := g8.trans f (by simp) (by simp; omega)
  clear g8 h8 f
  go_wp2_with fail
  refine (writes13 h9 (x := [122]) (by simp) 0 14 rfl rfl).mono ?_
  rintro e w10 ⟨rfl, f, h10⟩
  replace h10 : Fl w10 b R D ⟨4, [100, 120, 121], 13, 0⟩ := h10
  have g10 : Fr [] w w10 := g9.trans f (by simp) (by simp; omega)
  clear g9 h9 f
  go_wp2_with fail
  refine (reads13 h10 9 [100, 120, 121] 0 rfl rfl).mono ?_
  rintro e w11 ⟨rfl, f, h11⟩
  replace h11 : Fl w11 b R D ⟨4, [], 13, 0⟩ := h11
  have g11 : Fr [] w w11 := g10.trans f (by simp) (by simp; omega)
  clear g10 h10 f
  go_wp2_with fail
  refine (reads13 h11 1 [] 13 rfl rfl).mono ?_
  rintro e w12 ⟨rfl, f, h12⟩
  replace h12 : Fl w12 b R D ⟨4, [], 13, 0⟩ := h12
  have g12 : Fr [] w w12 := g11.trans f (by simp) (by simp; omega)
  clear g11 h11 f
  go_wp2_with fail
  refine (reads13 h12 0 [] 0 rfl rfl).mono ?_
  rintro e w13 ⟨rfl, f, h13⟩
  replace h13 : Fl w13 b R D ⟨4, [], 13, 0⟩ := h13
  have g13 : Fr [] w w13 := g12.trans f (by simp) (by simp; omega)
  clear g12 h12 f
  go_wp2_with fail
  refine (flow_new 4 w13 (by omega) (by omega)).mono ?_
  clear h13 hb hR hD
  rintro e w14 ⟨b, R, D, rfl, f, hb, hR, hD, h14⟩
  have hz := g13.size
  have g14 := g13.then0 f
  replace hb : w.heap.size ≤ b := by omega
  replace hR : w.heap.size ≤ R := by omega
  replace hD : w.heap.size ≤ D := by omega
  clear g13 f hz
  go_wp2_with fail
  refine (writes13 h14 (x := [97, 98, 99]) (by simp) 3 0 rfl rfl).mono ?_
  rintro e w15 ⟨rfl, f, h15⟩
  replace h15 : Fl w15 b R D ⟨4, [97, 98, 99], 0, 0⟩ := h15
  have g15 : Fr [] w w15 := g14.trans f (by simp) (by simp; omega)
  clear g14 h14 f
  go_wp2_with fail
  refine (flow_closer h15 14).mono ?_
  rintro e w16 ⟨he, f, h16⟩
  obtain rfl : e = .returned (.int .i64 0) := he
  replace h16 : Fl w16 b R D ⟨4, [], 0, 14⟩ := h16
  have g16 : Fr [] w w16 := g15.trans f (by simp) (by simp; omega)
  clear g15 h15 f
  go_wp2_with fail
  refine (flow_len h16).mono ?_
  rintro e w' ⟨he, rfl⟩
  obtain rfl : e = .returned (.int .i64 0) := he
  go_wp2_with fail
  refine (writes13 h16 (x := [100]) (by simp) 0 14 rfl rfl).mono ?_
  rintro e w17 ⟨rfl, f, h17⟩
  replace h17 : Fl w17 b R D ⟨4, [], 0, 14⟩ := h17
  have g17 : Fr [] w w17 := g16.trans f (by simp) (by simp; omega)
  clear g16 h16 f
  go_wp2_with fail
  refine (reads13 h17 1 [] 14 rfl rfl).mono ?_
  rintro e w18 ⟨rfl, f, h18⟩
  replace h18 : Fl w18 b R D ⟨4, [], 0, 14⟩ := h18
  have g18 : Fr [] w w18 := g17.trans f (by simp) (by simp; omega)
  clear g17 h17 f
  go_wp2_with fail
  refine (flow_closer h18 13).mono ?_
  rintro e w19 ⟨he, f, h19⟩
  obtain rfl : e = .returned (.int .i64 8) := he
  replace h19 : Fl w19 b R D ⟨4, [], 0, 14⟩ := h19
  have g19 : Fr [] w w19 := g18.trans f (by simp) (by simp; omega)
  clear g18 h18 f
  go_wp2_with fail
  go_ret
  exact ⟨rfl, g19⟩
end Go.Proofs.Ytpkgjgfdobcboaa
