/-
  duplex.Close, Closed.
-/
import Derived.Test.YtdoamelhclnphaaDupA
import Derived.LoopN
namespace Go.Proofs.Ytdoamelhclnphaa
open Go.RowKit
set_option maxRecDepth 100000

def closeS0 (s : DM) : DM := { { { s with x0 := true } with m0 := (closewM s.m0 13).m } with m1 := (closerM s.m1 14).m }
theorem DR.shut0 {w : World} {F : Nat → Prop} {d b0 b1 : Nat} {F0 F1 : Nat → Prop} {s : DM} (h : DR w F d b0 b1 F0 F1 s) : ∃ W, w.setCell ⟨d, 2, none⟩ (.bool true) = W ∧ Fr [d] w W ∧ DR W F d b0 b1 F0 F1 { s with x0 := true } := by
  have f : Fr [d] w (w.setCell ⟨d, 2, none⟩ (.bool true)) := (Fr.refl _ _).setCell (.inl (by simp)) _
  have hx := heap_setCell_eq (i := 2) (u := .bool true) h.b
  exact ⟨_, rfl, f, by unfold DB; simpa using hx, h.h0.keep f (fun x hx hF => by simp at hx; subst hx; exact h.n0 hF), h.h1.keep f (fun x hx hF => by simp at hx; subst hx; exact h.n1 hF), h.a, h.n0, h.n1, h.i0, h.i1, h.id_, fun x hx => Nat.lt_of_lt_of_le (h.lt x hx) f.size⟩
theorem dx_close0_yes {w : World} {F : Nat → Prop} {d b0 b1 : Nat} {F0 F1 : Nat → Prop} {s : DM} (h : DR w F d b0 b1 F0 F1 s) (hx : s.x0 = true) :
    Calls Try.prog 17 #[.pointer (some ⟨d, 0, none⟩), .int .i64 0] w fun e w' => e = .returned (.int .i64 14) ∧ w = w' := by
  have HCK := Lib.hid (dx_check_ok h.b (k := 0) (by omega))
  have c : w.cell? ⟨d, 2, none⟩ = some (.bool s.x0) := cell_of h.b
  rw [hx] at c
  clear h hx
  go_enter Try.func17, Try.ntmps17
  go_wp2_with fail
  refine HCK.out.mono ?_
  rintro e w' ⟨rfl, rfl⟩
  go_wp2_with fail
  go_ret
  exact ⟨rfl, rfl⟩
set_option maxHeartbeats 2000000 in
theorem dx_close0 {w : World} {F : Nat → Prop} {d b0 b1 : Nat} {F0 F1 : Nat → Prop} {s : DM} (h : DR w F d b0 b1 F0 F1 s) (hx : s.x0 = false) :
    Calls Try.prog 17 #[.pointer (some ⟨d, 0, none⟩), .int .i64 0] w fun e w' => e = .returned (.int .i64 0) ∧ DxQ w F NoG d (closeS0 s) w' := by
  have HCK := Lib.hid (dx_check_ok h.b (k := 0) (by omega))
  have c : w.cell? ⟨d, 2, none⟩ = some (.bool s.x0) := cell_of h.b
  have g : w.frozen? ⟨d, 2, none⟩ = false := free_of h.b
  rw [hx] at c
  have hi0 : ∀ (x0 x1 : Value) (w : World), (Instr.index 115 (.agg #[x0, x1]) (.int .i64 0)).run Try.prog w = .ok x0 w := fun _ _ _ => by kernel_rfl
  have hi1 : ∀ (x0 x1 : Value) (w : World), (Instr.index 115 (.agg #[x0, x1]) (.int .i64 1)).run Try.prog w = .ok x1 w := fun _ _ _ => by kernel_rfl
  have hmf : ∀ (fn : Fn) (first cap : Array Value) (w : World), (Instr.makeFunc fn first cap).run Try.prog w = .ok (.func fn first cap) w := fun _ _ _ _ => rfl
  obtain ⟨w1, hw1, f1, h1⟩ := h.shut0
  have HD := Lib.hid h.id_
  have HR := Lib.hid (And.intro f1 h1)
  clear h hx f1 h1
  go_enter Try.func17, Try.ntmps17
  go_wp2_with fail
  refine HCK.out.mono ?_
  rintro e w' ⟨rfl, rfl⟩
  go_wp2_with fail
  clear hw1 c g
  refine wp_loop_rounds 3 ?_
  rw [rounds_succ]
  go_wp2_with fail
  refine (dx_closewrite0 HR.out.2).mono ?_
  rintro e w2 ⟨rfl, ⟨S2, hS2, f2⟩, F2, hF2, b0', b1', F0', F1', h2⟩
  have H2 := Lib.hid (And.intro hS2 (And.intro f2 (And.intro hF2 h2)))
  clear hS2 f2 hF2 h2
  go_wp2_with fail
  rw [rounds_succ]
  go_wp2_with fail
  refine (dx_closeread0 H2.out.2.2.2).mono ?_
  rintro e w3 ⟨rfl, ⟨S3, hS3, f3⟩, F3, hF3, h3⟩
  have H3 := Lib.hid (And.intro hS3 (And.intro f3 (And.intro hF3 h3)))
  clear hS3 f3 hF3 h3
  go_wp2_with fail
  rw [rounds_succ]
  go_wp2_with fail
  go_ret
  obtain ⟨f1, h1⟩ := HR.out
  obtain ⟨hS2, f2, hF2, h2⟩ := H2.out
  obtain ⟨hS3, f3, hF3, h3⟩ := H3.out
  have z1 := f1.size
  have z2 := f2.size
  have k2 : ∀ x, F2 x → F x ∨ w.heap.size ≤ x := fun x hx => by
    rcases hF2 x hx with h | h | h
    · exact .inl h
    · exact h.elim
    · exact .inr (by omega)
  refine ⟨rfl, ⟨d :: (S2 ++ S3), fun x hx => ?_, (f1.trans f2 (U := d :: (S2 ++ S3)) (fun x hx => .inl (by simp at hx; simp [hx])) (fun x hx => .inl (by simp [hx]))).trans f3 (fun x hx => .inl hx) (fun x hx => .inl (by simp [hx]))⟩, F3, fun x hx => ?_, h3⟩
  · rcases List.mem_cons.1 hx with rfl | hx
    · exact .inl HD.out
    rcases List.mem_append.1 hx with hx | hx
    · exact (hS2 x hx).imp id (fun h => by omega)
    · rcases hS3 x hx with h | h
      · exact k2 x h
      · exact .inr (by omega)
  · rcases hF3 x hx with h | h | h
    · exact (k2 x h).imp id .inr
    · exact h.elim
    · exact .inr (.inr (by omega))
theorem dx_closed0 {w : World} {F : Nat → Prop} {d b0 b1 : Nat} {F0 F1 : Nat → Prop} {s : DM} (h : DR w F d b0 b1 F0 F1 s) :
    Calls Try.prog 20 #[.pointer (some ⟨d, 0, none⟩), .int .i64 0] w fun e w' => e = .returned (.bool s.x0) ∧ w = w' := by
  have HCK := Lib.hid (dx_check_ok h.b (k := 0) (by omega))
  have c : w.cell? ⟨d, 2, none⟩ = some (.bool s.x0) := cell_of h.b
  clear h
  go_enter Try.func20, Try.ntmps20
  go_wp2_with fail
  refine HCK.out.mono ?_
  rintro e w' ⟨rfl, rfl⟩
  go_wp2_with fail
  go_ret
  exact ⟨rfl, rfl⟩
def closeS1 (s : DM) : DM := { { { s with x1 := true } with m1 := (closewM s.m1 13).m } with m0 := (closerM s.m0 14).m }
theorem DR.shut1 {w : World} {F : Nat → Prop} {d b0 b1 : Nat} {F0 F1 : Nat → Prop} {s : DM} (h : DR w F d b0 b1 F0 F1 s) : ∃ W, w.setCell ⟨d, 3, none⟩ (.bool true) = W ∧ Fr [d] w W ∧ DR W F d b0 b1 F0 F1 { s with x1 := true } := by
  have f : Fr [d] w (w.setCell ⟨d, 3, none⟩ (.bool true)) := (Fr.refl _ _).setCell (.inl (by simp)) _
  have hx := heap_setCell_eq (i := 3) (u := .bool true) h.b
  exact ⟨_, rfl, f, by unfold DB; simpa using hx, h.h0.keep f (fun x hx hF => by simp at hx; subst hx; exact h.n0 hF), h.h1.keep f (fun x hx hF => by simp at hx; subst hx; exact h.n1 hF), h.a, h.n0, h.n1, h.i0, h.i1, h.id_, fun x hx => Nat.lt_of_lt_of_le (h.lt x hx) f.size⟩
theorem dx_close1_yes {w : World} {F : Nat → Prop} {d b0 b1 : Nat} {F0 F1 : Nat → Prop} {s : DM} (h : DR w F d b0 b1 F0 F1 s) (hx : s.x1 = true) :
    Calls Try.prog 17 #[.pointer (some ⟨d, 0, none⟩), .int .i64 1] w fun e w' => e = .returned (.int .i64 14) ∧ w = w' := by
  have HCK := Lib.hid (dx_check_ok h.b (k := 1) (by omega))
  have c : w.cell? ⟨d, 3, none⟩ = some (.bool s.x1) := cell_of h.b
  rw [hx] at c
  clear h hx
  go_enter Try.func17, Try.ntmps17
  go_wp2_with fail
  refine HCK.out.mono ?_
  rintro e w' ⟨rfl, rfl⟩
  go_wp2_with fail
  go_ret
  exact ⟨rfl, rfl⟩
set_option maxHeartbeats 2000000 in
theorem dx_close1 {w : World} {F : Nat → Prop} {d b0 b1 : Nat} {F0 F1 : Nat → Prop} {s : DM} (h : DR w F d b0 b1 F0 F1 s) (hx : s.x1 = false) :
    Calls Try.prog 17 #[.pointer (some ⟨d, 0, none⟩), .int .i64 1] w fun e w' => e = .returned (.int .i64 0) ∧ DxQ w F NoG d (closeS1 s) w' := by
  have HCK := Lib.hid (dx_check_ok h.b (k := 1) (by omega))
  have c : w.cell? ⟨d, 3, none⟩ = some (.bool s.x1) := cell_of h.b
  have g : w.frozen? ⟨d, 3, none⟩ = false := free_of h.b
  rw [hx] at c
  have hi0 : ∀ (x0 x1 : Value) (w : World), (Instr.index 115 (.agg #[x0, x1]) (.int .i64 0)).run Try.prog w = .ok x0 w := fun _ _ _ => by kernel_rfl
  have hi1 : ∀ (x0 x1 : Value) (w : World), (Instr.index 115 (.agg #[x0, x1]) (.int .i64 1)).run Try.prog w = .ok x1 w := fun _ _ _ => by kernel_rfl
  have hmf : ∀ (fn : Fn) (first cap : Array Value) (w : World), (Instr.makeFunc fn first cap).run Try.prog w = .ok (.func fn first cap) w := fun _ _ _ _ => rfl
  obtain ⟨w1, hw1, f1, h1⟩ := h.shut1
  have HD := Lib.hid h.id_
  have HR := Lib.hid (And.intro f1 h1)
  clear h hx f1 h1
  go_enter Try.func17, Try.ntmps17
  go_wp2_with fail
  refine HCK.out.mono ?_
  rintro e w' ⟨rfl, rfl⟩
  go_wp2_with fail
  clear hw1 c g
  refine wp_loop_rounds 3 ?_
  rw [rounds_succ]
  go_wp2_with fail
  refine (dx_closewrite1 HR.out.2).mono ?_
  rintro e w2 ⟨rfl, ⟨S2, hS2, f2⟩, F2, hF2, b0', b1', F0', F1', h2⟩
  have H2 := Lib.hid (And.intro hS2 (And.intro f2 (And.intro hF2 h2)))
  clear hS2 f2 hF2 h2
  go_wp2_with fail
  rw [rounds_succ]
  go_wp2_with fail
  refine (dx_closeread1 H2.out.2.2.2).mono ?_
  rintro e w3 ⟨rfl, ⟨S3, hS3, f3⟩, F3, hF3, h3⟩
  have H3 := Lib.hid (And.intro hS3 (And.intro f3 (And.intro hF3 h3)))
  clear hS3 f3 hF3 h3
  go_wp2_with fail
  rw [rounds_succ]
  go_wp2_with fail
  go_ret
  obtain ⟨f1, h1⟩ := HR.out
  obtain ⟨hS2, f2, hF2, h2⟩ := H2.out
  obtain ⟨hS3, f3, hF3, h3⟩ := H3.out
  have z1 := f1.size
  have z2 := f2.size
  have k2 : ∀ x, F2 x → F x ∨ w.heap.size ≤ x := fun x hx => by
    rcases hF2 x hx with h | h | h
    · exact .inl h
    · exact h.elim
    · exact .inr (by omega)
  refine ⟨rfl, ⟨d :: (S2 ++ S3), fun x hx => ?_, (f1.trans f2 (U := d :: (S2 ++ S3)) (fun x hx => .inl (by simp at hx; simp [hx])) (fun x hx => .inl (by simp [hx]))).trans f3 (fun x hx => .inl hx) (fun x hx => .inl (by simp [hx]))⟩, F3, fun x hx => ?_, h3⟩
  · rcases List.mem_cons.1 hx with rfl | hx
    · exact .inl HD.out
    rcases List.mem_append.1 hx with hx | hx
    · exact (hS2 x hx).imp id (fun h => by omega)
    · rcases hS3 x hx with h | h
      · exact k2 x h
      · exact .inr (by omega)
  · rcases hF3 x hx with h | h | h
    · exact (k2 x h).imp id .inr
    · exact h.elim
    · exact .inr (.inr (by omega))
theorem dx_closed1 {w : World} {F : Nat → Prop} {d b0 b1 : Nat} {F0 F1 : Nat → Prop} {s : DM} (h : DR w F d b0 b1 F0 F1 s) :
    Calls Try.prog 20 #[.pointer (some ⟨d, 0, none⟩), .int .i64 1] w fun e w' => e = .returned (.bool s.x1) ∧ w = w' := by
  have HCK := Lib.hid (dx_check_ok h.b (k := 1) (by omega))
  have c : w.cell? ⟨d, 3, none⟩ = some (.bool s.x1) := cell_of h.b
  clear h
  go_enter Try.func20, Try.ntmps20
  go_wp2_with fail
  refine HCK.out.mono ?_
  rintro e w' ⟨rfl, rfl⟩
  go_wp2_with fail
  go_ret
  exact ⟨rfl, rfl⟩

end Go.Proofs.Ytdoamelhclnphaa
