/-
  Package meet: Take.
-/
import Derived.Test.YtdoamelhclnphaaMtOps
namespace Go.Proofs.Ytdoamelhclnphaa
open Go.RowKit
set_option maxRecDepth 100000

section
variable {w : World} {b : Nat} {e0 e1 : Int} {of : Bool} {a : Option Addr} {len cap : Nat} {n : Int} {tk : Nat}
theorem take_arg (h : MtB w b e0 e1 of a len cap n tk) {most : Int} (hm : most < 0) :
    Calls Try.prog 60 #[.pointer (some ⟨b, 0, none⟩), .int .i64 most] w fun e w' => e = .returned (.tuple #[.slice none 0 0, .int .i64 2]) ∧ Fr [] w w' := by
  obtain ⟨c0, c1, c2, c3, c4, c5, c6, f0, f1, f2, f3, f4, f5, f6⟩ := h.cells
  go_enter Try.func60, Try.ntmps60
  go_wp2_with (go_at_call 95; refine (meet_zero h).mono ?_; rintro e w' ⟨rfl, rfl⟩)
  go_ret2
  exact ⟨rfl, Fr.refl _ _⟩
theorem take_zero (h : MtB w b e0 e1 of a len cap n tk) :
    Calls Try.prog 60 #[.pointer (some ⟨b, 0, none⟩), .int .i64 0] w fun e w' => e = .returned (.tuple #[.slice none 0 0, .int .i64 0]) ∧ Fr [] w w' := by
  obtain ⟨c0, c1, c2, c3, c4, c5, c6, f0, f1, f2, f3, f4, f5, f6⟩ := h.cells
  go_enter Try.func60, Try.ntmps60
  go_wp2_with (go_at_call 95; refine (meet_zero h).mono ?_; rintro e w' ⟨rfl, rfl⟩)
  go_ret2
  exact ⟨rfl, Fr.refl _ _⟩
theorem take_r (h : MtB w b e0 e1 of a len cap n tk) {most : Int} (hm : 0 < most) (h0 : e0 ≠ 0) :
    Calls Try.prog 60 #[.pointer (some ⟨b, 0, none⟩), .int .i64 most] w fun e w' => e = .returned (.tuple #[.slice none 0 0, .int .i64 e0]) ∧ Fr [] w w' := by
  obtain ⟨c0, c1, c2, c3, c4, c5, c6, f0, f1, f2, f3, f4, f5, f6⟩ := h.cells
  obtain ⟨n1, n2⟩ := ne0 h0
  have hm1 : 0 ≤ most := by omega
  have hm2 : (most == 0) = false := by rw [beq_eq_false_iff_ne]; omega
  clear h0
  go_enter Try.func60, Try.ntmps60
  go_wp2_with (go_at_call 95; refine (meet_zero h).mono ?_; rintro e w' ⟨rfl, rfl⟩)
  go_quiet (fail)
  go_wp2_with fail
  go_ret2
  exact ⟨rfl, (Fr.refl _ _).drewN _⟩
theorem mtake_w (h : MtB w b 0 e1 of a len cap n tk) {most : Int} (hm : 0 < most) (h0 : e1 ≠ 0) :
    Calls Try.prog 60 #[.pointer (some ⟨b, 0, none⟩), .int .i64 most] w fun e w' => e = .returned (.tuple #[.slice none 0 0, .int .i64 e1]) ∧ Fr [] w w' := by
  obtain ⟨c0, c1, c2, c3, c4, c5, c6, f0, f1, f2, f3, f4, f5, f6⟩ := h.cells
  obtain ⟨n1, n2⟩ := ne0 h0
  have hm1 : 0 ≤ most := by omega
  have hm2 : (most == 0) = false := by rw [beq_eq_false_iff_ne]; omega
  clear h0
  go_enter Try.func60, Try.ntmps60
  go_wp2_with (go_at_call 95; refine (meet_zero h).mono ?_; rintro e w' ⟨rfl, rfl⟩)
  go_quiet (fail)
  go_wp2_with fail
  go_ret2
  exact ⟨rfl, (Fr.refl _ _).drewN _⟩
theorem take_block (h : MtB w b 0 0 of a len cap 0 tk) {most : Int} (hm : 0 < most) :
    Calls Try.prog 60 #[.pointer (some ⟨b, 0, none⟩), .int .i64 most] w fun e w' => e = .returned (.tuple #[.slice none 0 0, .int .i64 16]) ∧ Fr [] w w' := by
  obtain ⟨c0, c1, c2, c3, c4, c5, c6, f0, f1, f2, f3, f4, f5, f6⟩ := h.cells
  have hm1 : 0 ≤ most := by omega
  have hm2 : (most == 0) = false := by rw [beq_eq_false_iff_ne]; omega
  go_enter Try.func60, Try.ntmps60
  go_wp2_with (first | (go_at_call 95; refine (meet_zero h).mono ?_; rintro e w' ⟨rfl, rfl⟩) | (go_at_call 57; refine (len_raw _ _ _ _).mono ?_; rintro e w' ⟨rfl, hf⟩))
  go_ret2
  exact ⟨rfl, hf⟩

def TakenPost (N : Nat → Prop) (b : Nat) (of : Bool) (tk : Nat) (P : Parts) (most : Nat) (w : World) (e : Ending) (w' : World) : Prop :=
  ∃ u a cap, e = .returned (.tuple #[u, .int .i64 0]) ∧ Fr [b] w w' ∧ Ow w' w.heap.size 5 u ((bi (P.flatten.take most)).map (Value.int .u8)) ∧
    MtB w' b 0 0 of a (cutR P most).length cap (tot (cutR P most)) (tk + tot (cutF P most)) ∧ Rp w' (fun x => N x ∨ w.heap.size ≤ x) (.agg #[.slice a (cutR P most).length cap, .int .i64 (tot (cutR P most))]) (cutR P most)
set_option maxHeartbeats 1000000 in
theorem take_ok {N : Nat → Prop} {P : Parts} (h : MtB w b 0 0 of a P.length cap (tot P) tk) (hr : Rp w N (.agg #[.slice a P.length cap, .int .i64 (tot P)]) P) (hN : ¬ N b) (hp : 0 < tot P) (htk : tk ≤ 65536 * 65536) {most : Int} (hm : 0 < most) :
    Calls Try.prog 60 #[.pointer (some ⟨b, 0, none⟩), .int .i64 most] w (TakenPost N b of tk P most.toNat w) := by
  obtain ⟨c0, c1, c2, c3, c4, c5, c6, f0, f1, f2, f3, f4, f5, f6⟩ := h.cells
  have hm1 : 0 ≤ most := by omega
  have hm2 : (most == 0) = false := by rw [beq_eq_false_iff_ne]; omega
  have hp1 : ((tot P : Int) == 0) = false := by rw [beq_eq_false_iff_ne]; omega
  have hblt := lt_of_heap h
  go_enter Try.func60, Try.ntmps60
  go_wp2_with fail
  refine (meet_zero h).mono ?_
  rintro e w' ⟨rfl, rfl⟩
  go_wp2_with fail
  refine (len_raw _ _ _ _).mono ?_
  rintro e w1 ⟨rfl, g1⟩
  have h1 : MtB w1 b 0 0 of a P.length cap (tot P) tk := g1.keep h (by simp)
  have r1 := hr.keep g1 (by simp)
  obtain ⟨c0', c1', c2', c3', c4', c5', c6', f0', f1', f2', f3', f4', f5', f6'⟩ := h1.cells
  clear c0 c1 c2 c3 c4 c5 c6 f0 f1 f2 f3 f4 f5 f6 hr h
  go_wp2_with fail
  obtain ⟨F, hF⟩ : ∃ F, cutF P most.toNat = F := ⟨_, rfl⟩
  obtain ⟨R, hR⟩ : ∃ R, cutR P most.toNat = R := ⟨_, rfl⟩
  have HT := Lib.hid (rope_take r1 hm1)
  unfold TakePost at HT
  rw [hF, hR] at HT
  have HF := Lib.hid hF
  have HR := Lib.hid hR
  clear hF hR
  refine HT.out.mono ?_
  rintro e w2 ⟨v1, v2, rfl, g2, s1, s2⟩
  obtain ⟨a1, cap1, rfl, _, _, _, _, _, hF6⟩ := id s1
  obtain ⟨a2, cap2, rfl, _⟩ := id s2
  have h2 : MtB w2 b 0 0 of a P.length cap (tot P) tk := g2.keep h1 (by simp)
  have hb2 := lt_of_heap h2
  obtain ⟨c0, c1, c2, c3, c4, c5, c6, f0, f1, f2, f3, f4, f5, f6⟩ := h2.cells
  clear c0' c1' c2' c3' c4' c5' c6' f0' f1' f2' f3' f4' f5' f6' HT r1
  go_wp2_with fail
  obtain ⟨w3, hw3⟩ : ∃ w3, w3 = ((((w2.setCell { block := b, off := 4 } (Value.slice a2 (List.length R) cap2)).setCell { block := b, off := 5 } (Value.int IntKind.i64 (tot R))).alloc (Obj.cells #[Value.slice a1 (List.length F) cap1, Value.int IntKind.i64 (tot F)] 57)).alloc (Obj.cells #[Value.slice a2 (List.length R) cap2, Value.int IntKind.i64 (tot R)] 57)) := ⟨_, rfl⟩
  rw [← hw3]
  have h3 : MtB w3 b 0 0 of a2 R.length cap2 (tot R) tk := by
    rw [hw3]
    refine keepA (keepA ?_)
    have hb := heap_setCell_eq (i := 5) (u := .int .i64 (tot R)) (heap_setCell_eq (i := 4) (u := .slice a2 R.length cap2) h2)
    simp at hb
    exact hb
  have t3 : w3.heap[w2.heap.size]? = some (.cells #[.slice a1 F.length cap1, .int .i64 (tot F)] 57 (0, 0)) := by rw [hw3]; exact keepA (newA (by simp))
  have g3 : Fr [b] w2 w3 := by rw [hw3]; exact ((((Fr.refl [b] w2).setCell (.inl (by simp)) _).setCell (.inl (by simp)) _).alloc _).alloc _
  have s3 := s1.keep g3 (by simp only [List.mem_singleton, forall_eq]; rintro (h | h); exact hN h; have := lt_of_heap h1; omega)
  have s4 := s2.keep g3 (by simp only [List.mem_singleton, forall_eq]; rintro (h | h); exact hN h; have := lt_of_heap h1; omega)
  clear hw3 c0 c1 c2 c3 c4 c5 c6 f0 f1 f2 f3 f4 f5 f6
  have c6 := h3.cells.c6
  have f6 := h3.cells.f6
  have x0 : w3.cell? ⟨w2.heap.size, 0, none⟩ = some (.slice a1 F.length cap1) := cell_of t3
  have x1 : w3.cell? ⟨w2.heap.size, 1, none⟩ = some (.int .i64 (tot F)) := cell_of t3
  generalize hX : w2.heap.size = X at *
  have hXb : b < X := by omega
  have hwr : IntKind.i64.wrap ((tk : Int) + (tot F : Int)) = (tk : Int) + tot F := IntWalk.i64_in _ (by omega)
  clear hX
  go_region_with (go_at_call 57; refine (len_raw _ _ _ _).mono ?_; rintro e w4 ⟨rfl, g4'⟩; have g4 := g4'.undrew; have h4 : MtB w4 b 0 0 of a2 R.length cap2 (tot R) tk := g4.keep h3 (by simp); have t4 := g4.keep t3 (by simp); have d6 := h4.cells.c6; have e6 := h4.cells.f6; have d0 : w4.cell? ⟨X, 0, none⟩ = some (.slice a1 F.length cap1) := cell_of t4; have d1 : w4.cell? ⟨X, 1, none⟩ = some (.int .i64 (tot F)) := cell_of t4)
  all_goals
    obtain ⟨w5, hw5⟩ : ∃ w5, w5 = w4.setCell ⟨b, 6, none⟩ (.int .i64 ((tk : Int) + tot F)) := ⟨_, rfl⟩
    rw [← hw5]
    have h5 : MtB w5 b 0 0 of a2 R.length cap2 (tot R) (tk + tot F) := by
      rw [hw5]
      have hb := heap_setCell_eq (i := 6) (u := .int .i64 ((tk : Int) + tot F)) h4
      simp at hb
      unfold MtB
      rw [Int.natCast_add]
      exact hb
    have t5 : w5.heap[X]? = some (.cells #[.slice a1 F.length cap1, .int .i64 (tot F)] 57 (0, 0)) := by rw [hw5]; exact keepS t4 (by dsimp only; omega)
    have g5 : Fr [b] w3 w5 := by rw [hw5]; exact (g4.mono (by simp)).setCell (.inl (by simp)) _
    have s5 := s3.keep g5 (by simp only [List.mem_singleton, forall_eq]; rintro (h | h); exact hN h; have := lt_of_heap h1; omega)
    have s6 := s4.keep g5 (by simp only [List.mem_singleton, forall_eq]; rintro (h | h); exact hN h; have := lt_of_heap h1; omega)
    have gg : Fr [b] w w5 := (((g1.then0 g2).mono (by simp)).then g3).then g5
    have hX0 : w5.cell? ⟨X, 0, none⟩ = some (.slice a1 F.length cap1) := cell_of t5
    have hX1 : w5.cell? ⟨X, 1, none⟩ = some (.int .i64 (tot F)) := cell_of t5
    clear hw5 d6 e6 d0 d1 c6 f6 x0 x1 hwr
    go_wp2_with fail
    refine (rope_bytes s5).mono ?_
    rintro e w6 ⟨u, rfl, g6, ob⟩
    go_wp2_with fail
    go_ret2
    have hF := HF.out
    have hR := HR.out
    refine ⟨u, a2, cap2, rfl, gg.then0 g6, ?_, ?_, ?_⟩
    · rw [← cutF_flat, hF]
      exact ob.mono gg.size
    · rw [hF, hR]
      exact g6.keep h5 (by simp)
    · rw [hR]
      exact (s6.keep g6 (by simp)).mono (fun x hx => hx.imp id (fun h => Nat.le_trans g1.size h))
end
end Go.Proofs.Ytdoamelhclnphaa
