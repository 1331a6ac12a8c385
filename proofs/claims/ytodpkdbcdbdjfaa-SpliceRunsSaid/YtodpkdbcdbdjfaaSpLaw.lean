/-
  Law 22: wants, moved and done, over the contracts of Next, Moved and Done.
-/
import Derived.Test.YtodpkdbcdbdjfaaSpOps
namespace Go.Proofs.Ytodpkdbcdbdjfaa
open Go.RowKit
set_option maxRecDepth 100000

set_option maxHeartbeats 2000000 in
theorem wants22 {w : World} {r : Option Addr} {i c : Int} {x : WT} {u : Value} (HN : ∀ w1, Fr [] w w1 → Calls Try.prog 36 #[.pointer r, .int .i64 i] w1 fun e w' => ∃ v, e = .returned (.tuple #[v, .int .i64 c]) ∧ Fr [] w1 w' ∧ Wr w' v x) (hu : Wr w u x) :
    Calls Try.prog 45 #[.pointer r, .int .i64 i, u, .int .i64 c] w fun e w' => e = .returned (.bool true) ∧ Fr [] w w' := by
  have HU := Lib.hid hu
  obtain ⟨ha, hc, rfl, ou⟩ := hu
  clear ou
  obtain ⟨k, s, n, l, e⟩ := x
  dsimp only at *
  obtain ⟨W0, hW0, f0, b0⟩ : ∃ W, w.alloc (.cells #[.int .i64 k, .int .i64 s, .int .i64 n, .slice ha l.length hc, .int .i64 e] 32) = W ∧ Fr [] w W ∧ WB W w.heap.size (.int .i64 k) (.int .i64 s) (.int .i64 n) (.slice ha l.length hc) (.int .i64 e) := ⟨_, rfl, (Fr.refl _ _).alloc _, newA rfl⟩
  have HH := Lib.hid (HN _ f0)
  clear HN
  go_enter Try.func45, Try.ntmps45
  go_wp2_with fail
  refine HH.out.mono ?_
  rintro e1 w1 ⟨v, rfl, f1, hv⟩
  obtain ⟨ga, gc, rfl, hs⟩ := id hv
  have b1 : WB w1 w.heap.size _ _ _ _ _ := f1.keep b0 (by simp)
  clear hs HH hW0 b0
  dsimp only
  obtain ⟨w2, hw2, f2, q2⟩ : ∃ W, w1.alloc (.cells #[.int .i64 k, .int .i64 s, .int .i64 n, .slice ga l.length gc, .int .i64 e] 32) = W ∧ Fr [] w1 W ∧ WB W w1.heap.size (.int .i64 k) (.int .i64 s) (.int .i64 n) (.slice ga l.length gc) (.int .i64 e) := ⟨_, rfl, (Fr.refl _ _).alloc _, newA rfl⟩
  have b2 : WB w2 w.heap.size _ _ _ _ _ := f2.keep b1 (by simp)
  have g2 := (f0.then0 f1).then0 f2
  have HS := Lib.hid (same_yes (hv.keep0 f2) (HU.out.keep0 g2))
  obtain ⟨x0, x1, x2, x3, x4, _, _, _, _, _⟩ := q2.cells
  obtain ⟨y0, y1, y2, y3, y4, _, _, _, _, _⟩ := b2.cells
  clear hv HU q2 b1 b2 f0 f1 f2
  have hcc : (c == c) = true := beq_self_eq_true c
  go_wp2_with fail
  refine HS.out.mono ?_
  rintro e1 w3 ⟨rfl, f3⟩
  go_wp2_with fail
  go_ret
  exact ⟨rfl, g2.then0 f3⟩
theorem moved22 {w : World} {r : Option Addr} {i n c : Int} (HN : Calls Try.prog 69 #[.pointer r, .int .i64 i] w fun e w' => e = .returned (.tuple #[.int .i64 n, .int .i64 c]) ∧ Fr [] w w') :
    Calls Try.prog 38 #[.pointer r, .int .i64 i, .int .i64 n, .int .i64 c] w fun e w' => e = .returned (.bool true) ∧ Fr [] w w' := by
  have HH := Lib.hid HN
  clear HN
  have hcc : (c == c) = true := beq_self_eq_true c
  have hnn : (n == n) = true := beq_self_eq_true n
  go_enter Try.func38, Try.ntmps38
  go_wp2_with fail
  refine HH.out.mono ?_
  rintro e1 w1 ⟨rfl, f1⟩
  go_wp2_with fail
  go_ret
  exact ⟨rfl, f1⟩
theorem done22 {w : World} {r : Option Addr} {d : Bool} {c : Int} (HN : Calls Try.prog 39 #[.pointer r] w fun e w' => e = .returned (.tuple #[.bool d, .int .i64 c]) ∧ Fr [] w w') :
    Calls Try.prog 41 #[.pointer r, .bool d, .int .i64 c] w fun e w' => e = .returned (.bool true) ∧ Fr [] w w' := by
  have HH := Lib.hid HN
  clear HN
  have hcc : (c == c) = true := beq_self_eq_true c
  have hdd : (d == d) = true := beq_self_eq_true d
  go_enter Try.func41, Try.ntmps41
  go_wp2_with fail
  refine HH.out.mono ?_
  rintro e1 w1 ⟨rfl, f1⟩
  go_wp2_with fail
  go_ret
  exact ⟨rfl, f1⟩

/-- What a splice says, at any world that follows. -/
theorem next22_0 {w : World} {N0 N1 : Nat → Prop} {b W b0 b1 : Nat} {s : SS} (h : Sp w N0 N1 b W b0 b1 s) (hr : s.t0.rd ≤ 4611686018427387904) : ∀ w1, Fr [] w w1 → Calls Try.prog 36 #[.pointer (some ⟨b, 0, none⟩), .int .i64 0] w1 fun e w' => ∃ v, e = .returned (.tuple #[v, .int .i64 0]) ∧ Fr [] w1 w' ∧ Wr w' v (nextS s.t0 s.c0 0) :=
  fun w1 f => (sp_next0 (h.keep0 f) hr).mono fun e w' ⟨v, he, f, hv⟩ => ⟨v, he, f, hv.wr⟩
theorem next22_1 {w : World} {N0 N1 : Nat → Prop} {b W b0 b1 : Nat} {s : SS} (h : Sp w N0 N1 b W b0 b1 s) (hr : s.t1.rd ≤ 4611686018427387904) : ∀ w1, Fr [] w w1 → Calls Try.prog 36 #[.pointer (some ⟨b, 0, none⟩), .int .i64 1] w1 fun e w' => ∃ v, e = .returned (.tuple #[v, .int .i64 0]) ∧ Fr [] w1 w' ∧ Wr w' v (nextS s.t1 s.c1 1) :=
  fun w1 f => (sp_next1 (h.keep0 f) hr).mono fun e w' ⟨v, he, f, hv⟩ => ⟨v, he, f, hv.wr⟩
theorem next22_bad {w : World} {N0 N1 : Nat → Prop} {b W b0 b1 : Nat} {s : SS} (h : Sp w N0 N1 b W b0 b1 s) {i : Int} (hi : (i != 0) = true) (hi1 : (i != 1) = true) : ∀ w1, Fr [] w w1 → Calls Try.prog 36 #[.pointer (some ⟨b, 0, none⟩), .int .i64 i] w1 fun e w' => ∃ v, e = .returned (.tuple #[v, .int .i64 2]) ∧ Fr [] w1 w' ∧ Wr w' v ⟨0, 0, 0, [], 0⟩ :=
  fun w1 f => (sp_next_bad (h.keep0 f).q hi hi1).mono fun e w' ⟨he, f⟩ => ⟨_, he, f, Wr.plain _ _ _ _ _⟩
theorem next22_z {w : World} {r : Option Addr} (h : Zs w r) (i : Int) : ∀ w1, Fr [] w w1 → Calls Try.prog 36 #[.pointer r, .int .i64 i] w1 fun e w' => ∃ v, e = .returned (.tuple #[v, .int .i64 1]) ∧ Fr [] w1 w' ∧ Wr w' v ⟨0, 0, 0, [], 0⟩ :=
  fun w1 f => (sp_next_z (h.keep f) i).mono fun e w' ⟨he, f⟩ => ⟨_, he, f, Wr.plain _ _ _ _ _⟩
end Go.Proofs.Ytodpkdbcdbdjfaa
