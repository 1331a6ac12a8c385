/-
  Contracts of package ring.
-/
import Derived.Test.YtpkgjgfdobcboaaBytes
import Derived.Test.YtpkgjgfdobcboaaProg
import Derived.BigRegion
import Derived.Deep.QuietTactic
import Derived.BigQuiet
namespace Go.Proofs.Ytpkgjgfdobcboaa
open Go.RowKit
set_option maxRecDepth 100000

/-- A ring buffer's own block. -/
def RgB (w : World) (R D c K f n : Nat) : Prop :=
  w.heap[R]? = some (.cells #[.slice (some ⟨D, 0, none⟩) c K, .int .i64 f, .int .i64 n] 58 (0, 0))
theorem RgB.cells {w : World} {R D c K f n : Nat} (h : RgB w R D c K f n) : w.cell? ⟨R, 0, none⟩ = some (.slice (some ⟨D, 0, none⟩) c K) ∧ w.cell? ⟨R, 1, none⟩ = some (.int .i64 f) ∧ w.cell? ⟨R, 2, none⟩ = some (.int .i64 n) ∧ w.frozen? ⟨R, 1, none⟩ = false ∧ w.frozen? ⟨R, 2, none⟩ = false :=
  ⟨cell_of h, cell_of h, cell_of h, free_of h, free_of h⟩

theorem zero_nil (w : World) : Calls Try.prog 93 #[.pointer none] w fun e w' => e = .returned (.bool true) ∧ w = w' := by
  go_enter Try.func93, Try.ntmps93
  go_wp2
  go_ret
  exact ⟨rfl, rfl⟩
theorem zero_zero {w : World} {R : Nat} (h : w.cell? ⟨R, 0, none⟩ = some (.slice none 0 0)) : Calls Try.prog 93 #[.pointer (some ⟨R, 0, none⟩)] w fun e w' => e = .returned (.bool true) ∧ w = w' := by
  have qT : ∀ (w : World) (a : Option Addr) (n c n' c' : Nat), (binOp .eql 29 (.slice a n c) (.slice none n' c')).run Try.prog w = .ok (.bool a.isNone) w := fun w a n c n' c' => Lib.run_eql_slice_nil w _ _ a n c n' c' Try.underlying29
  go_enter Try.func93, Try.ntmps93
  go_wp2
  go_ret
  exact ⟨rfl, rfl⟩
theorem zero_at {w : World} {R D c K f n : Nat} (h : RgB w R D c K f n) : Calls Try.prog 93 #[.pointer (some ⟨R, 0, none⟩)] w fun e w' => e = .returned (.bool false) ∧ w = w' := by
  obtain ⟨c0, _, _, _, _⟩ := h.cells
  have qT : ∀ (w : World) (a : Option Addr) (n c n' c' : Nat), (binOp .eql 29 (.slice a n c) (.slice none n' c')).run Try.prog w = .ok (.bool a.isNone) w := fun w a n c n' c' => Lib.run_eql_slice_nil w _ _ a n c n' c' Try.underlying29
  go_enter Try.func93, Try.ntmps93
  go_wp2
  go_ret
  exact ⟨rfl, rfl⟩

/-- The two pieces that k places from an offset on have. -/
theorem pieces_none {w : World} {R D c K f n : Nat} (h : RgB w R D c K f n) (hc : c ≤ 4096) (hK : c ≤ K) (hf : f < c) (off a : Nat) (hok : off ≤ c) (ha : (f + off) % c = a) :
    Calls Try.prog 94 #[.pointer (some ⟨R, 0, none⟩), .int .i64 off, .int .i64 0] w fun e w' =>
      e = .returned (.agg #[.slice (some ⟨D, 0, none⟩) 0 0, .slice (some ⟨D, 0, none⟩) 0 0]) ∧ Fr [] w w' := by
  obtain ⟨c0, c1, c2, _, _⟩ := h.cells
  have hcz : ((c : Int) == 0) = false := by simp; omega
  have hlt := lt_of_heap h
  have hmod : ((f : Int) + (off : Int)) % (c : Int) = (a : Int) := by simp [← ha]
  have hac : a < c := by rw [← ha]; exact Nat.mod_lt _ (by omega)
  have HA := Lib.hid ha
  clear ha h
  go_enter Try.func94, Try.ntmps94
  go_wp2_with fail
  go_region
  go_wp2_with fail
  go_region
  go_wp2_with fail
  refine bodyPost_ret (v := .agg #[.slice (some ⟨D, 0, none⟩) 0 0, .slice (some ⟨D, 0, none⟩) 0 0]) (by simp [results, Try.results94, go_sem]) rfl ⟨rfl, ?_⟩
  repeat first | (with_reducible exact Fr.refl _ _) | (with_reducible refine Fr.drew ?_) | (with_reducible refine Fr.alloc ?_ _) | (with_reducible refine Fr.setCell ?_ (.inr (by dsimp only; omega)) _)

theorem pieces_one {w : World} {R D c K f n : Nat} (h : RgB w R D c K f n) (hc : c ≤ 4096) (hK : c ≤ K) (hf : f < c) (off k a : Nat) (hok : off + k ≤ c) (ha : (f + off) % c = a) (hk0 : 0 < k) (hk : a + k ≤ c) :
    Calls Try.prog 94 #[.pointer (some ⟨R, 0, none⟩), .int .i64 off, .int .i64 k] w fun e w' =>
      e = .returned (.agg #[.slice (some ⟨D, a, none⟩) k k, .slice (some ⟨D, 0, none⟩) 0 0]) ∧ Fr [] w w' := by
  obtain ⟨c0, c1, c2, _, _⟩ := h.cells
  have hcz : ((c : Int) == 0) = false := by simp; omega
  have hlt := lt_of_heap h
  have hmod : ((f : Int) + (off : Int)) % (c : Int) = (a : Int) := by simp [← ha]
  have hac : a < c := by rw [← ha]; exact Nat.mod_lt _ (by omega)
  have HA := Lib.hid ha
  clear ha h
  go_enter Try.func94, Try.ntmps94
  go_wp2_with fail
  go_region
  go_wp2_with fail
  go_region
  go_wp2_with fail
  refine bodyPost_ret (v := .agg #[.slice (some ⟨D, a, none⟩) k k, .slice (some ⟨D, 0, none⟩) 0 0]) (by simp [results, Try.results94, go_sem]) rfl ⟨rfl, ?_⟩
  repeat first | (with_reducible exact Fr.refl _ _) | (with_reducible refine Fr.drew ?_) | (with_reducible refine Fr.alloc ?_ _) | (with_reducible refine Fr.setCell ?_ (.inr (by dsimp only; omega)) _)

theorem pieces_two {w : World} {R D c K f n : Nat} (h : RgB w R D c K f n) (hc : c ≤ 4096) (hK : c ≤ K) (hf : f < c) (off k a : Nat) (hok : off + k ≤ c) (ha : (f + off) % c = a) (hk : c < a + k) :
    Calls Try.prog 94 #[.pointer (some ⟨R, 0, none⟩), .int .i64 off, .int .i64 k] w fun e w' =>
      e = .returned (.agg #[.slice (some ⟨D, a, none⟩) (c - a) (c - a), .slice (some ⟨D, 0, none⟩) (k - (c - a)) (k - (c - a))]) ∧ Fr [] w w' := by
  obtain ⟨c0, c1, c2, _, _⟩ := h.cells
  have hcz : ((c : Int) == 0) = false := by simp; omega
  have hlt := lt_of_heap h
  have hmod : ((f : Int) + (off : Int)) % (c : Int) = (a : Int) := by simp [← ha]
  have hac : a < c := by rw [← ha]; exact Nat.mod_lt _ (by omega)
  have HA := Lib.hid ha
  clear ha h
  go_enter Try.func94, Try.ntmps94
  go_wp2_with fail
  go_region
  go_wp2_with fail
  go_region
  go_wp2_with fail
  refine bodyPost_ret (v := .agg #[.slice (some ⟨D, a, none⟩) (c - a) (c - a), .slice (some ⟨D, 0, none⟩) (k - (c - a)) (k - (c - a))]) (by simp [results, Try.results94, go_sem]) rfl ⟨rfl, ?_⟩
  repeat first | (with_reducible exact Fr.refl _ _) | (with_reducible refine Fr.drew ?_) | (with_reducible refine Fr.alloc ?_ _) | (with_reducible refine Fr.setCell ?_ (.inr (by dsimp only; omega)) _)
end Go.Proofs.Ytpkgjgfdobcboaa
