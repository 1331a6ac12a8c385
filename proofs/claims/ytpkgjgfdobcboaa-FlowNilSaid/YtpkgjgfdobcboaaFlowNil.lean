/-
  FlowNil: for nil and zero streams every call returns ErrNil.
-/
import Derived.Test.YtpkgjgfdobcboaaKnown13
import Derived.LoopN
namespace Go.Proofs.Ytpkgjgfdobcboaa
open Go.RowKit
set_option maxRecDepth 100000

def Zr13 (w : World) (r : Option Addr) : Prop := Calls Try.prog 114 #[.pointer r] w fun e w' => e = .returned (.bool true) ∧ w = w'
theorem zr13_nil (w : World) : Zr13 w none := by
  unfold Zr13
  go_enter Try.func114, Try.ntmps114
  go_wp2
  go_ret
  exact ⟨rfl, rfl⟩
theorem zr13_zero {w : World} {b : Nat} (h : w.cell? ⟨b, 0, none⟩ = some (.pointer none)) : Zr13 w (some ⟨b, 0, none⟩) := by
  unfold Zr13
  go_enter Try.func114, Try.ntmps114
  go_wp2
  go_ret
  exact ⟨rfl, rfl⟩

theorem read_z13 (n : Int) {w : World} {r : Option Addr} (h : ∀ w', Fr [] w w' → Zr13 w' r) : Calls Try.prog 84 #[.pointer r, .int .i64 n] w fun e w' => e = .returned (.tuple #[.slice none 0 0, .int .i64 1]) ∧ Fr [] w w' := by
  go_enter Try.func84, Try.ntmps84
  go_wp2_with (go_at_call 114; refine (h _ (Fr.refl _ _)).mono ?_; rintro e w' ⟨rfl, rfl⟩)
  go_ret2
  exact ⟨rfl, Fr.refl _ _⟩
theorem write_z13 (x : Option Addr) (l c : Nat) (k : Int) {w : World} {r : Option Addr} (h : ∀ w', Fr [] w w' → Zr13 w' r) : Calls Try.prog 79 #[.pointer r, .agg #[.slice x l c, .int .i64 k]] w fun e w' => e = .returned (.tuple #[.int .i64 0, .int .i64 1]) ∧ Fr [] w w' := by
  go_enter Try.func79, Try.ntmps79
  go_wp2_with (go_at_call 114; refine (h _ (((Fr.refl _ _).alloc _).alloc _)).mono ?_; rintro e w' ⟨rfl, rfl⟩)
  go_ret2
  exact ⟨rfl, ((Fr.refl _ _).alloc _).alloc _⟩
theorem closed_z13 {w : World} {r : Option Addr} (h : ∀ w', Fr [] w w' → Zr13 w' r) : Calls Try.prog 89 #[.pointer r] w fun e w' => e = .returned (.tuple #[.int .i64 0, .int .i64 0]) ∧ Fr [] w w' := by
  go_enter Try.func89, Try.ntmps89
  go_wp2_with (go_at_call 114; refine (h _ (Fr.refl _ _)).mono ?_; rintro e w' ⟨rfl, rfl⟩)
  go_ret2
  exact ⟨rfl, Fr.refl _ _⟩
theorem closewrite_z13 (k : Int) {w : World} {r : Option Addr} (h : ∀ w', Fr [] w w' → Zr13 w' r) : Calls Try.prog 83 #[.pointer r, .int .i64 k] w fun e w' => e = .returned (.int .i64 1) ∧ Fr [] w w' := by
  go_enter Try.func83, Try.ntmps83
  go_wp2_with (go_at_call 114; refine (h _ (Fr.refl _ _)).mono ?_; rintro e w' ⟨rfl, rfl⟩)
  go_ret
  exact ⟨rfl, Fr.refl _ _⟩
theorem closeread_z13 (k : Int) {w : World} {r : Option Addr} (h : ∀ w', Fr [] w w' → Zr13 w' r) : Calls Try.prog 85 #[.pointer r, .int .i64 k] w fun e w' => e = .returned (.int .i64 1) ∧ Fr [] w w' := by
  go_enter Try.func85, Try.ntmps85
  go_wp2_with (go_at_call 114; refine (h _ (Fr.refl _ _)).mono ?_; rintro e w' ⟨rfl, rfl⟩)
  go_ret
  exact ⟨rfl, Fr.refl _ _⟩
theorem len_z13 {w : World} {r : Option Addr} (h : ∀ w', Fr [] w w' → Zr13 w' r) : Calls Try.prog 81 #[.pointer r] w fun e w' => e = .returned (.int .i64 0) ∧ Fr [] w w' := by
  go_enter Try.func81, Try.ntmps81
  go_wp2_with (go_at_call 114; refine (h _ (Fr.refl _ _)).mono ?_; rintro e w' ⟨rfl, rfl⟩)
  go_ret
  exact ⟨rfl, Fr.refl _ _⟩
theorem cap_z13 {w : World} {r : Option Addr} (h : ∀ w', Fr [] w w' → Zr13 w' r) : Calls Try.prog 90 #[.pointer r] w fun e w' => e = .returned (.int .i64 0) ∧ Fr [] w w' := by
  go_enter Try.func90, Try.ntmps90
  go_wp2_with (go_at_call 114; refine (h _ (Fr.refl _ _)).mono ?_; rintro e w' ⟨rfl, rfl⟩)
  go_ret
  exact ⟨rfl, Fr.refl _ _⟩
theorem free_z13 {w : World} {r : Option Addr} (h : ∀ w', Fr [] w w' → Zr13 w' r) : Calls Try.prog 86 #[.pointer r] w fun e w' => e = .returned (.int .i64 0) ∧ Fr [] w w' := by
  go_enter Try.func86, Try.ntmps86
  go_wp2_with fail
  refine (cap_z13 h).mono ?_
  rintro e w1 ⟨rfl, f1⟩
  go_wp2_with fail
  refine (len_z13 (fun w' f => h w' (f1.then0 f))).mono ?_
  rintro e w2 ⟨rfl, f2⟩
  go_wp2_with fail
  go_ret
  exact ⟨rfl, f1.then0 f2⟩
theorem copy_z13 {w : World} {r : Option Addr} (h : ∀ w', Fr [] w w' → Zr13 w' r) : Calls Try.prog 91 #[.pointer r] w fun e w' => e = .returned (.pointer none) ∧ Fr [] w w' := by
  go_enter Try.func91, Try.ntmps91
  go_wp2_with (go_at_call 114; refine (h _ (Fr.refl _ _)).mono ?_; rintro e w' ⟨rfl, rfl⟩)
  go_ret
  exact ⟨rfl, Fr.refl _ _⟩

set_option maxHeartbeats 4000000 in
theorem flowNil_walk (n x : Int) (w : World) :
    Calls Try.prog 22 #[.int .i64 n, .int .i64 x] w fun e w' => e = .returned (.bool true) ∧ Fr [] w w' := by
  go_enter Try.func22, Try.ntmps22
  go_wp2_with fail
  obtain ⟨w0, hW⟩ : ∃ W, W = (w.alloc (Obj.cells #[Value.pointer none, Value.int IntKind.i64 0, Value.int IntKind.i64 0] 138)).alloc
    (Obj.cells #[Value.pointer none, Value.pointer (some ⟨w.heap.size, 0, none⟩)] 123) := ⟨_, rfl⟩
  rw [← hW]
  have z0 : w0.heap[w.heap.size]? = some (.cells #[.pointer none, .int .i64 0, .int .i64 0] 138 (0, 0)) := by rw [hW]; exact keepA (newA rfl)
  have s0 : w0.heap[w.heap.size + 1]? = some (.cells #[.pointer none, .pointer (some ⟨w.heap.size, 0, none⟩)] 123 (0, 0)) := by rw [hW]; exact newA (by simp)
  have g0 : Fr [] w w0 := by rw [hW]; exact ((Fr.refl _ _).alloc _).alloc _
  clear hW
  generalize w.heap.size = B at z0 s0 ⊢
  have c0 : w0.cell? ⟨B + 1, 0, none⟩ = some (.pointer none) := cell_of s0
  refine wp_loop_rounds 3 ?_
  rw [rounds_succ]
  go_wp2_with fail
  refine (read_z13 n (fun _ _ => zr13_nil _)).mono ?_
  rintro e w1 ⟨rfl, f⟩
  have z1 : w1.heap[B]? = some (.cells #[.pointer none, .int .i64 0, .int .i64 0] 138 (0, 0)) := f.keep z0 (by simp)
  have s1 : w1.heap[B + 1]? = some (.cells #[.pointer none, .pointer (some ⟨B, 0, none⟩)] 123 (0, 0)) := f.keep s0 (by simp)
  have g1 := g0.then0 f
  clear z0 s0 g0 f
  go_wp2_with fail
  refine (of13 (ss := [[97]]) (by exact SlV.lit _ _ _) rfl (by simp) (by simp) (by decide) (by decide)).mono ?_
  rintro e w2 ⟨rv, rfl, f, hr⟩
  obtain ⟨rx, rc, rfl, _⟩ := hr
  have z2 : w2.heap[B]? = some (.cells #[.pointer none, .int .i64 0, .int .i64 0] 138 (0, 0)) := f.keep (keepA z1) (by simp)
  have s2 : w2.heap[B + 1]? = some (.cells #[.pointer none, .pointer (some ⟨B, 0, none⟩)] 123 (0, 0)) := f.keep (keepA s1) (by simp)
  have g2 := (g1.alloc _).then0 f
  clear z1 s1 g1 f
  go_wp2_with fail
  refine (write_z13 _ _ _ _ (fun _ _ => zr13_nil _)).mono ?_
  rintro e w3 ⟨rfl, f⟩
  have z3 : w3.heap[B]? = some (.cells #[.pointer none, .int .i64 0, .int .i64 0] 138 (0, 0)) := f.keep z2 (by simp)
  have s3 : w3.heap[B + 1]? = some (.cells #[.pointer none, .pointer (some ⟨B, 0, none⟩)] 123 (0, 0)) := f.keep s2 (by simp)
  have g3 := g2.then0 f
  clear z2 s2 g2 f
  go_wp2_with fail
  refine (closed_z13 (fun _ _ => zr13_nil _)).mono ?_
  rintro e w4 ⟨rfl, f⟩
  have z4 : w4.heap[B]? = some (.cells #[.pointer none, .int .i64 0, .int .i64 0] 138 (0, 0)) := f.keep z3 (by simp)
  have s4 : w4.heap[B + 1]? = some (.cells #[.pointer none, .pointer (some ⟨B, 0, none⟩)] 123 (0, 0)) := f.keep s3 (by simp)
  have g4 := g3.then0 f
  clear z3 s3 g3 f
  go_wp2_with fail
  refine (closewrite_z13 x (fun _ _ => zr13_nil _)).mono ?_
  rintro e w5 ⟨rfl, f⟩
  have z5 : w5.heap[B]? = some (.cells #[.pointer none, .int .i64 0, .int .i64 0] 138 (0, 0)) := f.keep z4 (by simp)
  have s5 : w5.heap[B + 1]? = some (.cells #[.pointer none, .pointer (some ⟨B, 0, none⟩)] 123 (0, 0)) := f.keep s4 (by simp)
  have g5 := g4.then0 f
  clear z4 s4 g4 f
  go_wp2_with fail
  refine (closeread_z13 x (fun _ _ => zr13_nil _)).mono ?_
  rintro e w6 ⟨rfl, f⟩
  have z6 : w6.heap[B]? = some (.cells #[.pointer none, .int .i64 0, .int .i64 0] 138 (0, 0)) := f.keep z5 (by simp)
  have s6 : w6.heap[B + 1]? = some (.cells #[.pointer none, .pointer (some ⟨B, 0, none⟩)] 123 (0, 0)) := f.keep s5 (by simp)
  have g6 := g5.then0 f
  clear z5 s5 g5 f
  go_wp2_with fail
  refine (len_z13 (fun _ _ => zr13_nil _)).mono ?_
  rintro e w7 ⟨rfl, f⟩
  have z7 : w7.heap[B]? = some (.cells #[.pointer none, .int .i64 0, .int .i64 0] 138 (0, 0)) := f.keep z6 (by simp)
  have s7 : w7.heap[B + 1]? = some (.cells #[.pointer none, .pointer (some ⟨B, 0, none⟩)] 123 (0, 0)) := f.keep s6 (by simp)
  have g7 := g6.then0 f
  clear z6 s6 g6 f
  go_wp2_with fail
  refine (free_z13 (fun _ _ => zr13_nil _)).mono ?_
  rintro e w8 ⟨rfl, f⟩
  have z8 : w8.heap[B]? = some (.cells #[.pointer none, .int .i64 0, .int .i64 0] 138 (0, 0)) := f.keep z7 (by simp)
  have s8 : w8.heap[B + 1]? = some (.cells #[.pointer none, .pointer (some ⟨B, 0, none⟩)] 123 (0, 0)) := f.keep s7 (by simp)
  have g8 := g7.then0 f
  clear z7 s7 g7 f
  go_wp2_with fail
  refine (cap_z13 (fun _ _ => zr13_nil _)).mono ?_
  rintro e w9 ⟨rfl, f⟩
  have z9 : w9.heap[B]? = some (.cells #[.pointer none, .int .i64 0, .int .i64 0] 138 (0, 0)) := f.keep z8 (by simp)
  have s9 : w9.heap[B + 1]? = some (.cells #[.pointer none, .pointer (some ⟨B, 0, none⟩)] 123 (0, 0)) := f.keep s8 (by simp)
  have g9 := g8.then0 f
  clear z8 s8 g8 f
  go_wp2_with fail
  refine (copy_z13 (fun _ _ => zr13_nil _)).mono ?_
  rintro e w10 ⟨rfl, f⟩
  have z10 : w10.heap[B]? = some (.cells #[.pointer none, .int .i64 0, .int .i64 0] 138 (0, 0)) := f.keep z9 (by simp)
  have s10 : w10.heap[B + 1]? = some (.cells #[.pointer none, .pointer (some ⟨B, 0, none⟩)] 123 (0, 0)) := f.keep s9 (by simp)
  have g10 := g9.then0 f
  clear z9 s9 g9 f
  go_wp2_with fail
  have c1 : w10.cell? ⟨B + 1, 1, none⟩ = some (.pointer (some ⟨B, 0, none⟩)) := cell_of s10
  rw [rounds_succ]
  go_wp2_with fail
  refine (read_z13 n (fun _ f => zr13_zero (cell_of (f.keep z10 (by simp))))).mono ?_
  rintro e w11 ⟨rfl, f⟩
  have z11 : w11.heap[B]? = some (.cells #[.pointer none, .int .i64 0, .int .i64 0] 138 (0, 0)) := f.keep z10 (by simp)
  have s11 : w11.heap[B + 1]? = some (.cells #[.pointer none, .pointer (some ⟨B, 0, none⟩)] 123 (0, 0)) := f.keep s10 (by simp)
  have g11 := g10.then0 f
  clear z10 s10 g10 f
  go_wp2_with fail
  refine (of13 (ss := [[97]]) (by exact SlV.lit _ _ _) rfl (by simp) (by simp) (by decide) (by decide)).mono ?_
  rintro e w12 ⟨rv, rfl, f, hr⟩
  obtain ⟨rx, rc, rfl, _⟩ := hr
  have z12 : w12.heap[B]? = some (.cells #[.pointer none, .int .i64 0, .int .i64 0] 138 (0, 0)) := f.keep (keepA z11) (by simp)
  have s12 : w12.heap[B + 1]? = some (.cells #[.pointer none, .pointer (some ⟨B, 0, none⟩)] 123 (0, 0)) := f.keep (keepA s11) (by simp)
  have g12 := (g11.alloc _).then0 f
  clear z11 s11 g11 f
  go_wp2_with fail
  refine (write_z13 _ _ _ _ (fun _ f => zr13_zero (cell_of (f.keep z12 (by simp))))).mono ?_
  rintro e w13 ⟨rfl, f⟩
  have z13 : w13.heap[B]? = some (.cells #[.pointer none, .int .i64 0, .int .i64 0] 138 (0, 0)) := f.keep z12 (by simp)
  have s13 : w13.heap[B + 1]? = some (.cells #[.pointer none, .pointer (some ⟨B, 0, none⟩)] 123 (0, 0)) := f.keep s12 (by simp)
  have g13 := g12.then0 f
  clear z12 s12 g12 f
  go_wp2_with fail
  refine (closed_z13 (fun _ f => zr13_zero (cell_of (f.keep z13 (by simp))))).mono ?_
  rintro e w14 ⟨rfl, f⟩
  have z14 : w14.heap[B]? = some (.cells #[.pointer none, .int .i64 0, .int .i64 0] 138 (0, 0)) := f.keep z13 (by simp)
  have s14 : w14.heap[B + 1]? = some (.cells #[.pointer none, .pointer (some ⟨B, 0, none⟩)] 123 (0, 0)) := f.keep s13 (by simp)
  have g14 := g13.then0 f
  clear z13 s13 g13 f
  go_wp2_with fail
  refine (closewrite_z13 x (fun _ f => zr13_zero (cell_of (f.keep z14 (by simp))))).mono ?_
  rintro e w15 ⟨rfl, f⟩
  have z15 : w15.heap[B]? = some (.cells #[.pointer none, .int .i64 0, .int .i64 0] 138 (0, 0)) := f.keep z14 (by simp)
  have s15 : w15.heap[B + 1]? = some (.cells #[.pointer none, .pointer (some ⟨B, 0, none⟩)] 123 (0, 0)) := f.keep s14 (by simp)
  have g15 := g14.then0 f
  clear z14 s14 g14 f
  go_wp2_with fail
  refine (closeread_z13 x (fun _ f => zr13_zero (cell_of (f.keep z15 (by simp))))).mono ?_
  rintro e w16 ⟨rfl, f⟩
  have z16 : w16.heap[B]? = some (.cells #[.pointer none, .int .i64 0, .int .i64 0] 138 (0, 0)) := f.keep z15 (by simp)
  have s16 : w16.heap[B + 1]? = some (.cells #[.pointer none, .pointer (some ⟨B, 0, none⟩)] 123 (0, 0)) := f.keep s15 (by simp)
  have g16 := g15.then0 f
  clear z15 s15 g15 f
  go_wp2_with fail
  refine (len_z13 (fun _ f => zr13_zero (cell_of (f.keep z16 (by simp))))).mono ?_
  rintro e w17 ⟨rfl, f⟩
  have z17 : w17.heap[B]? = some (.cells #[.pointer none, .int .i64 0, .int .i64 0] 138 (0, 0)) := f.keep z16 (by simp)
  have s17 : w17.heap[B + 1]? = some (.cells #[.pointer none, .pointer (some ⟨B, 0, none⟩)] 123 (0, 0)) := f.keep s16 (by simp)
  have g17 := g16.then0 f
  clear z16 s16 g16 f
  go_wp2_with fail
  refine (free_z13 (fun _ f => zr13_zero (cell_of (f.keep z17 (by simp))))).mono ?_
  rintro e w18 ⟨rfl, f⟩
  have z18 : w18.heap[B]? = some (.cells #[.pointer none, .int .i64 0, .int .i64 0] 138 (0, 0)) := f.keep z17 (by simp)
  have s18 : w18.heap[B + 1]? = some (.cells #[.pointer none, .pointer (some ⟨B, 0, none⟩)] 123 (0, 0)) := f.keep s17 (by simp)
  have g18 := g17.then0 f
  clear z17 s17 g17 f
  go_wp2_with fail
  refine (cap_z13 (fun _ f => zr13_zero (cell_of (f.keep z18 (by simp))))).mono ?_
  rintro e w19 ⟨rfl, f⟩
  have z19 : w19.heap[B]? = some (.cells #[.pointer none, .int .i64 0, .int .i64 0] 138 (0, 0)) := f.keep z18 (by simp)
  have s19 : w19.heap[B + 1]? = some (.cells #[.pointer none, .pointer (some ⟨B, 0, none⟩)] 123 (0, 0)) := f.keep s18 (by simp)
  have g19 := g18.then0 f
  clear z18 s18 g18 f
  go_wp2_with fail
  refine (copy_z13 (fun _ f => zr13_zero (cell_of (f.keep z19 (by simp))))).mono ?_
  rintro e w20 ⟨rfl, f⟩
  have z20 : w20.heap[B]? = some (.cells #[.pointer none, .int .i64 0, .int .i64 0] 138 (0, 0)) := f.keep z19 (by simp)
  have s20 : w20.heap[B + 1]? = some (.cells #[.pointer none, .pointer (some ⟨B, 0, none⟩)] 123 (0, 0)) := f.keep s19 (by simp)
  have g20 := g19.then0 f
  clear z19 s19 g19 f
  go_wp2_with fail
  rw [rounds_succ]
  go_wp2_with fail
  refine (known13 _).mono ?_
  rintro e w99 ⟨rfl, f99⟩
  go_wp2_with fail
  go_ret
  exact ⟨rfl, g20.then0 f99⟩
end Go.Proofs.Ytpkgjgfdobcboaa
