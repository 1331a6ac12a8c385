/-
  MeetNil: for nil and zero streams every call returns ErrNil.
-/
import Derived.Test.YtpkgjgfdobcboaaKnown12
import Derived.LoopN
namespace Go.Proofs.Ytpkgjgfdobcboaa
open Go.RowKit
set_option maxRecDepth 100000

def Zr12 (w : World) (r : Option Addr) : Prop := Calls Try.prog 104 #[.pointer r] w fun e w' => e = .returned (.bool true) ∧ w = w'
theorem zr12_nil (w : World) : Zr12 w none := by
  unfold Zr12
  go_enter Try.func104, Try.ntmps104
  go_wp2
  go_ret
  exact ⟨rfl, rfl⟩
theorem zr12_zero {w : World} {b : Nat} (h : w.cell? ⟨b, 0, none⟩ = some (.bool false)) : Zr12 w (some ⟨b, 0, none⟩) := by
  unfold Zr12
  go_enter Try.func104, Try.ntmps104
  go_wp2
  go_ret
  exact ⟨rfl, rfl⟩

theorem take_z12 (n : Int) {w : World} {r : Option Addr} (h : ∀ o : Obj, Zr12 (w.alloc o) r) (h0 : Zr12 w r) : Calls Try.prog 63 #[.pointer r, .int .i64 n] w fun e w' => e = .returned (.tuple #[.slice none 0 0, .int .i64 1]) ∧ Fr [] w w' := by
  go_enter Try.func63, Try.ntmps63
  go_wp2_with (go_at_call 104; refine (h0).mono ?_; rintro e w' ⟨rfl, rfl⟩)
  go_ret2
  exact ⟨rfl, Fr.refl _ _⟩
theorem withdraw_z12 {w : World} {r : Option Addr} (h : ∀ o : Obj, Zr12 (w.alloc o) r) (h0 : Zr12 w r) : Calls Try.prog 64 #[.pointer r] w fun e w' => e = .returned (.tuple #[.int .i64 0, .int .i64 1]) ∧ Fr [] w w' := by
  go_enter Try.func64, Try.ntmps64
  go_wp2_with (go_at_call 104; refine (h0).mono ?_; rintro e w' ⟨rfl, rfl⟩)
  go_ret2
  exact ⟨rfl, Fr.refl _ _⟩
theorem result_z12 {w : World} {r : Option Addr} (h : ∀ o : Obj, Zr12 (w.alloc o) r) (h0 : Zr12 w r) : Calls Try.prog 66 #[.pointer r] w fun e w' => e = .returned (.tuple #[.int .i64 0, .int .i64 1]) ∧ Fr [] w w' := by
  go_enter Try.func66, Try.ntmps66
  go_wp2_with (first | (go_at_call 104; refine h0.mono ?_; rintro e w' ⟨rfl, rfl⟩) | (go_at_call 64; refine (withdraw_z12 h h0).mono ?_; rintro e w' ⟨rfl, hf⟩))
  go_ret2
  exact ⟨rfl, hf⟩
theorem left_z12 {w : World} {r : Option Addr} (h : ∀ o : Obj, Zr12 (w.alloc o) r) (h0 : Zr12 w r) : Calls Try.prog 71 #[.pointer r] w fun e w' => e = .returned (.tuple #[.int .i64 0, .bool false]) ∧ Fr [] w w' := by
  go_enter Try.func71, Try.ntmps71
  go_wp2_with (go_at_call 104; refine (h0).mono ?_; rintro e w' ⟨rfl, rfl⟩)
  go_ret2
  exact ⟨rfl, Fr.refl _ _⟩
theorem closed_z12 {w : World} {r : Option Addr} (h : ∀ o : Obj, Zr12 (w.alloc o) r) (h0 : Zr12 w r) : Calls Try.prog 69 #[.pointer r] w fun e w' => e = .returned (.tuple #[.int .i64 0, .int .i64 0]) ∧ Fr [] w w' := by
  go_enter Try.func69, Try.ntmps69
  go_wp2_with (go_at_call 104; refine (h0).mono ?_; rintro e w' ⟨rfl, rfl⟩)
  go_ret2
  exact ⟨rfl, Fr.refl _ _⟩
theorem offer_z12 (x : Option Addr) (l c : Nat) (k : Int) {w : World} {r : Option Addr} (h : ∀ o : Obj, Zr12 (w.alloc o) r) (h0 : Zr12 w r) : Calls Try.prog 61 #[.pointer r, .agg #[.slice x l c, .int .i64 k]] w fun e w' => e = .returned (.int .i64 1) ∧ Fr [] w w' := by
  go_enter Try.func61, Try.ntmps61
  go_wp2_with (go_at_call 104; refine (h _).mono ?_; rintro e w' ⟨rfl, rfl⟩)
  go_ret
  exact ⟨rfl, (Fr.refl _ _).alloc _⟩
theorem end_z12 (d k : Int) {w : World} {r : Option Addr} (h : ∀ o : Obj, Zr12 (w.alloc o) r) (h0 : Zr12 w r) : Calls Try.prog 106 #[.pointer r, .int .i64 d, .int .i64 k] w fun e w' => e = .returned (.int .i64 1) ∧ Fr [] w w' := by
  go_enter Try.func106, Try.ntmps106
  go_wp2_with (go_at_call 104; refine (h0).mono ?_; rintro e w' ⟨rfl, rfl⟩)
  go_ret
  exact ⟨rfl, Fr.refl _ _⟩
theorem closewrite_z12 (k : Int) {w : World} {r : Option Addr} (h : ∀ o : Obj, Zr12 (w.alloc o) r) (h0 : Zr12 w r) : Calls Try.prog 67 #[.pointer r, .int .i64 k] w fun e w' => e = .returned (.int .i64 1) ∧ Fr [] w w' := by
  go_enter Try.func67, Try.ntmps67
  go_wp2_with (go_at_call 106; refine (end_z12 1 k h h0).mono ?_; rintro e w' ⟨rfl, hf⟩)
  go_ret
  exact ⟨rfl, hf⟩
theorem closeread_z12 (k : Int) {w : World} {r : Option Addr} (h : ∀ o : Obj, Zr12 (w.alloc o) r) (h0 : Zr12 w r) : Calls Try.prog 68 #[.pointer r, .int .i64 k] w fun e w' => e = .returned (.int .i64 1) ∧ Fr [] w w' := by
  go_enter Try.func68, Try.ntmps68
  go_wp2_with (go_at_call 106; refine (end_z12 0 k h h0).mono ?_; rintro e w' ⟨rfl, hf⟩)
  go_ret
  exact ⟨rfl, hf⟩
theorem copy_z12 {w : World} {r : Option Addr} (h : ∀ o : Obj, Zr12 (w.alloc o) r) (h0 : Zr12 w r) : Calls Try.prog 74 #[.pointer r] w fun e w' => e = .returned (.pointer none) ∧ Fr [] w w' := by
  go_enter Try.func74, Try.ntmps74
  go_wp2_with (go_at_call 104; refine (h0).mono ?_; rintro e w' ⟨rfl, rfl⟩)
  go_ret
  exact ⟨rfl, Fr.refl _ _⟩

set_option maxHeartbeats 4000000 in
theorem meetNil_walk (n x : Int) (w : World) :
    Calls Try.prog 17 #[.int .i64 n, .int .i64 x] w fun e w' => e = .returned (.bool true) ∧ Fr [] w w' := by
  go_enter Try.func17, Try.ntmps17
  go_wp2_with fail
  obtain ⟨w0, hW⟩ : ∃ W, W = (w.alloc (Obj.cells #[Value.bool false, Value.int IntKind.i64 0, Value.int IntKind.i64 0, Value.bool false, Value.slice none 0 0, Value.int IntKind.i64 0, Value.int IntKind.i64 0] 117)).alloc
    (Obj.cells #[Value.pointer none, Value.pointer (some ⟨w.heap.size, 0, none⟩)] 97) := ⟨_, rfl⟩
  rw [← hW]
  have z0 : w0.heap[w.heap.size]? = some (.cells #[.bool false, .int .i64 0, .int .i64 0, .bool false, .slice none 0 0, .int .i64 0, .int .i64 0] 117 (0, 0)) := by rw [hW]; exact keepA (newA rfl)
  have s0 : w0.heap[w.heap.size + 1]? = some (.cells #[.pointer none, .pointer (some ⟨w.heap.size, 0, none⟩)] 97 (0, 0)) := by rw [hW]; exact newA (by simp)
  have g0 : Fr [] w w0 := by rw [hW]; exact ((Fr.refl _ _).alloc _).alloc _
  clear hW
  generalize w.heap.size = B at z0 s0 ⊢
  have c0 : w0.cell? ⟨B + 1, 0, none⟩ = some (.pointer none) := cell_of s0
  refine wp_loop_rounds 3 ?_
  rw [rounds_succ]
  go_wp2_with fail
  refine (take_z12 n (fun _ => zr12_nil _) (zr12_nil _)).mono ?_
  rintro e w1 ⟨rfl, f⟩
  have z1 : w1.heap[B]? = some (.cells #[.bool false, .int .i64 0, .int .i64 0, .bool false, .slice none 0 0, .int .i64 0, .int .i64 0] 117 (0, 0)) := f.keep z0 (by simp)
  have s1 : w1.heap[B + 1]? = some (.cells #[.pointer none, .pointer (some ⟨B, 0, none⟩)] 97 (0, 0)) := f.keep s0 (by simp)
  have g1 := g0.then0 f
  clear z0 s0 g0 f
  go_wp2_with fail
  refine (result_z12 (fun _ => zr12_nil _) (zr12_nil _)).mono ?_
  rintro e w2 ⟨rfl, f⟩
  have z2 : w2.heap[B]? = some (.cells #[.bool false, .int .i64 0, .int .i64 0, .bool false, .slice none 0 0, .int .i64 0, .int .i64 0] 117 (0, 0)) := f.keep z1 (by simp)
  have s2 : w2.heap[B + 1]? = some (.cells #[.pointer none, .pointer (some ⟨B, 0, none⟩)] 97 (0, 0)) := f.keep s1 (by simp)
  have g2 := g1.then0 f
  clear z1 s1 g1 f
  go_wp2_with fail
  refine (withdraw_z12 (fun _ => zr12_nil _) (zr12_nil _)).mono ?_
  rintro e w3 ⟨rfl, f⟩
  have z3 : w3.heap[B]? = some (.cells #[.bool false, .int .i64 0, .int .i64 0, .bool false, .slice none 0 0, .int .i64 0, .int .i64 0] 117 (0, 0)) := f.keep z2 (by simp)
  have s3 : w3.heap[B + 1]? = some (.cells #[.pointer none, .pointer (some ⟨B, 0, none⟩)] 97 (0, 0)) := f.keep s2 (by simp)
  have g3 := g2.then0 f
  clear z2 s2 g2 f
  go_wp2_with fail
  refine (left_z12 (fun _ => zr12_nil _) (zr12_nil _)).mono ?_
  rintro e w4 ⟨rfl, f⟩
  have z4 : w4.heap[B]? = some (.cells #[.bool false, .int .i64 0, .int .i64 0, .bool false, .slice none 0 0, .int .i64 0, .int .i64 0] 117 (0, 0)) := f.keep z3 (by simp)
  have s4 : w4.heap[B + 1]? = some (.cells #[.pointer none, .pointer (some ⟨B, 0, none⟩)] 97 (0, 0)) := f.keep s3 (by simp)
  have g4 := g3.then0 f
  clear z3 s3 g3 f
  go_wp2_with fail
  refine (closed_z12 (fun _ => zr12_nil _) (zr12_nil _)).mono ?_
  rintro e w5 ⟨rfl, f⟩
  have z5 : w5.heap[B]? = some (.cells #[.bool false, .int .i64 0, .int .i64 0, .bool false, .slice none 0 0, .int .i64 0, .int .i64 0] 117 (0, 0)) := f.keep z4 (by simp)
  have s5 : w5.heap[B + 1]? = some (.cells #[.pointer none, .pointer (some ⟨B, 0, none⟩)] 97 (0, 0)) := f.keep s4 (by simp)
  have g5 := g4.then0 f
  clear z4 s4 g4 f
  go_wp2_with fail
  refine (of12 (ss := [[97]]) (by exact SlV.lit _ _ _) rfl (by simp) (by simp) (by decide) (by decide)).mono ?_
  rintro e w6 ⟨rv, rfl, f, hr⟩
  obtain ⟨rx, rc, rfl, _⟩ := hr
  have z6 : w6.heap[B]? = some (.cells #[.bool false, .int .i64 0, .int .i64 0, .bool false, .slice none 0 0, .int .i64 0, .int .i64 0] 117 (0, 0)) := f.keep (keepA z5) (by simp)
  have s6 : w6.heap[B + 1]? = some (.cells #[.pointer none, .pointer (some ⟨B, 0, none⟩)] 97 (0, 0)) := f.keep (keepA s5) (by simp)
  have g6 := (g5.alloc _).then0 f
  clear z5 s5 g5 f
  go_wp2_with fail
  refine (offer_z12 _ _ _ _ (fun _ => zr12_nil _) (zr12_nil _)).mono ?_
  rintro e w7 ⟨rfl, f⟩
  have z7 : w7.heap[B]? = some (.cells #[.bool false, .int .i64 0, .int .i64 0, .bool false, .slice none 0 0, .int .i64 0, .int .i64 0] 117 (0, 0)) := f.keep z6 (by simp)
  have s7 : w7.heap[B + 1]? = some (.cells #[.pointer none, .pointer (some ⟨B, 0, none⟩)] 97 (0, 0)) := f.keep s6 (by simp)
  have g7 := g6.then0 f
  clear z6 s6 g6 f
  go_wp2_with fail
  refine (closewrite_z12 x (fun _ => zr12_nil _) (zr12_nil _)).mono ?_
  rintro e w8 ⟨rfl, f⟩
  have z8 : w8.heap[B]? = some (.cells #[.bool false, .int .i64 0, .int .i64 0, .bool false, .slice none 0 0, .int .i64 0, .int .i64 0] 117 (0, 0)) := f.keep z7 (by simp)
  have s8 : w8.heap[B + 1]? = some (.cells #[.pointer none, .pointer (some ⟨B, 0, none⟩)] 97 (0, 0)) := f.keep s7 (by simp)
  have g8 := g7.then0 f
  clear z7 s7 g7 f
  go_wp2_with fail
  refine (closeread_z12 x (fun _ => zr12_nil _) (zr12_nil _)).mono ?_
  rintro e w9 ⟨rfl, f⟩
  have z9 : w9.heap[B]? = some (.cells #[.bool false, .int .i64 0, .int .i64 0, .bool false, .slice none 0 0, .int .i64 0, .int .i64 0] 117 (0, 0)) := f.keep z8 (by simp)
  have s9 : w9.heap[B + 1]? = some (.cells #[.pointer none, .pointer (some ⟨B, 0, none⟩)] 97 (0, 0)) := f.keep s8 (by simp)
  have g9 := g8.then0 f
  clear z8 s8 g8 f
  go_wp2_with fail
  refine (copy_z12 (fun _ => zr12_nil _) (zr12_nil _)).mono ?_
  rintro e w10 ⟨rfl, f⟩
  have z10 : w10.heap[B]? = some (.cells #[.bool false, .int .i64 0, .int .i64 0, .bool false, .slice none 0 0, .int .i64 0, .int .i64 0] 117 (0, 0)) := f.keep z9 (by simp)
  have s10 : w10.heap[B + 1]? = some (.cells #[.pointer none, .pointer (some ⟨B, 0, none⟩)] 97 (0, 0)) := f.keep s9 (by simp)
  have g10 := g9.then0 f
  clear z9 s9 g9 f
  go_wp2_with fail
  have c1 : w10.cell? ⟨B + 1, 1, none⟩ = some (.pointer (some ⟨B, 0, none⟩)) := cell_of s10
  rw [rounds_succ]
  go_wp2_with fail
  refine (take_z12 n (fun _ => zr12_zero (cell_of (keepA z10))) (zr12_zero (cell_of z10))).mono ?_
  rintro e w11 ⟨rfl, f⟩
  have z11 : w11.heap[B]? = some (.cells #[.bool false, .int .i64 0, .int .i64 0, .bool false, .slice none 0 0, .int .i64 0, .int .i64 0] 117 (0, 0)) := f.keep z10 (by simp)
  have s11 : w11.heap[B + 1]? = some (.cells #[.pointer none, .pointer (some ⟨B, 0, none⟩)] 97 (0, 0)) := f.keep s10 (by simp)
  have g11 := g10.then0 f
  clear z10 s10 g10 f
  go_wp2_with fail
  refine (result_z12 (fun _ => zr12_zero (cell_of (keepA z11))) (zr12_zero (cell_of z11))).mono ?_
  rintro e w12 ⟨rfl, f⟩
  have z12 : w12.heap[B]? = some (.cells #[.bool false, .int .i64 0, .int .i64 0, .bool false, .slice none 0 0, .int .i64 0, .int .i64 0] 117 (0, 0)) := f.keep z11 (by simp)
  have s12 : w12.heap[B + 1]? = some (.cells #[.pointer none, .pointer (some ⟨B, 0, none⟩)] 97 (0, 0)) := f.keep s11 (by simp)
  have g12 := g11.then0 f
  clear z11 s11 g11 f
  go_wp2_with fail
  refine (withdraw_z12 (fun _ => zr12_zero (cell_of (keepA z12))) (zr12_zero (cell_of z12))).mono ?_
  rintro e w13 ⟨rfl, f⟩
  have z13 : w13.heap[B]? = some (.cells #[.bool false, .int .i64 0, .int .i64 0, .bool false, .slice none 0 0, .int .i64 0, .int .i64 0] 117 (0, 0)) := f.keep z12 (by simp)
  have s13 : w13.heap[B + 1]? = some (.cells #[.pointer none, .pointer (some ⟨B, 0, none⟩)] 97 (0, 0)) := f.keep s12 (by simp)
  have g13 := g12.then0 f
  clear z12 s12 g12 f
  go_wp2_with fail
  refine (left_z12 (fun _ => zr12_zero (cell_of (keepA z13))) (zr12_zero (cell_of z13))).mono ?_
  rintro e w14 ⟨rfl, f⟩
  have z14 : w14.heap[B]? = some (.cells #[.bool false, .int .i64 0, .int .i64 0, .bool false, .slice none 0 0, .int .i64 0, .int .i64 0] 117 (0, 0)) := f.keep z13 (by simp)
  have s14 : w14.heap[B + 1]? = some (.cells #[.pointer none, .pointer (some ⟨B, 0, none⟩)] 97 (0, 0)) := f.keep s13 (by simp)
  have g14 := g13.then0 f
  clear z13 s13 g13 f
  go_wp2_with fail
  refine (closed_z12 (fun _ => zr12_zero (cell_of (keepA z14))) (zr12_zero (cell_of z14))).mono ?_
  rintro e w15 ⟨rfl, f⟩
  have z15 : w15.heap[B]? = some (.cells #[.bool false, .int .i64 0, .int .i64 0, .bool false, .slice none 0 0, .int .i64 0, .int .i64 0] 117 (0, 0)) := f.keep z14 (by simp)
  have s15 : w15.heap[B + 1]? = some (.cells #[.pointer none, .pointer (some ⟨B, 0, none⟩)] 97 (0, 0)) := f.keep s14 (by simp)
  have g15 := g14.then0 f
  clear z14 s14 g14 f
  go_wp2_with fail
  refine (of12 (ss := [[97]]) (by exact SlV.lit _ _ _) rfl (by simp) (by simp) (by decide) (by decide)).mono ?_
  rintro e w16 ⟨rv, rfl, f, hr⟩
  obtain ⟨rx, rc, rfl, _⟩ := hr
  have z16 : w16.heap[B]? = some (.cells #[.bool false, .int .i64 0, .int .i64 0, .bool false, .slice none 0 0, .int .i64 0, .int .i64 0] 117 (0, 0)) := f.keep (keepA z15) (by simp)
  have s16 : w16.heap[B + 1]? = some (.cells #[.pointer none, .pointer (some ⟨B, 0, none⟩)] 97 (0, 0)) := f.keep (keepA s15) (by simp)
  have g16 := (g15.alloc _).then0 f
  clear z15 s15 g15 f
  go_wp2_with fail
  refine (offer_z12 _ _ _ _ (fun _ => zr12_zero (cell_of (keepA z16))) (zr12_zero (cell_of z16))).mono ?_
  rintro e w17 ⟨rfl, f⟩
  have z17 : w17.heap[B]? = some (.cells #[.bool false, .int .i64 0, .int .i64 0, .bool false, .slice none 0 0, .int .i64 0, .int .i64 0] 117 (0, 0)) := f.keep z16 (by simp)
  have s17 : w17.heap[B + 1]? = some (.cells #[.pointer none, .pointer (some ⟨B, 0, none⟩)] 97 (0, 0)) := f.keep s16 (by simp)
  have g17 := g16.then0 f
  clear z16 s16 g16 f
  go_wp2_with fail
  refine (closewrite_z12 x (fun _ => zr12_zero (cell_of (keepA z17))) (zr12_zero (cell_of z17))).mono ?_
  rintro e w18 ⟨rfl, f⟩
  have z18 : w18.heap[B]? = some (.cells #[.bool false, .int .i64 0, .int .i64 0, .bool false, .slice none 0 0, .int .i64 0, .int .i64 0] 117 (0, 0)) := f.keep z17 (by simp)
  have s18 : w18.heap[B + 1]? = some (.cells #[.pointer none, .pointer (some ⟨B, 0, none⟩)] 97 (0, 0)) := f.keep s17 (by simp)
  have g18 := g17.then0 f
  clear z17 s17 g17 f
  go_wp2_with fail
  refine (closeread_z12 x (fun _ => zr12_zero (cell_of (keepA z18))) (zr12_zero (cell_of z18))).mono ?_
  rintro e w19 ⟨rfl, f⟩
  have z19 : w19.heap[B]? = some (.cells #[.bool false, .int .i64 0, .int .i64 0, .bool false, .slice none 0 0, .int .i64 0, .int .i64 0] 117 (0, 0)) := f.keep z18 (by simp)
  have s19 : w19.heap[B + 1]? = some (.cells #[.pointer none, .pointer (some ⟨B, 0, none⟩)] 97 (0, 0)) := f.keep s18 (by simp)
  have g19 := g18.then0 f
  clear z18 s18 g18 f
  go_wp2_with fail
  refine (copy_z12 (fun _ => zr12_zero (cell_of (keepA z19))) (zr12_zero (cell_of z19))).mono ?_
  rintro e w20 ⟨rfl, f⟩
  have z20 : w20.heap[B]? = some (.cells #[.bool false, .int .i64 0, .int .i64 0, .bool false, .slice none 0 0, .int .i64 0, .int .i64 0] 117 (0, 0)) := f.keep z19 (by simp)
  have s20 : w20.heap[B + 1]? = some (.cells #[.pointer none, .pointer (some ⟨B, 0, none⟩)] 97 (0, 0)) := f.keep s19 (by simp)
  have g20 := g19.then0 f
  clear z19 s19 g19 f
  go_wp2_with fail
  rw [rounds_succ]
  go_wp2_with fail
  refine (known12 _).mono ?_
  rintro e w99 ⟨rfl, f99⟩
  go_wp2_with fail
  go_ret
  exact ⟨rfl, g20.then0 f99⟩
end Go.Proofs.Ytpkgjgfdobcboaa
