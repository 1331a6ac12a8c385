/-
  Law 14: StreamNone: nil and zero streams.
-/
import Derived.Test.YtdoamelhclnphaaKnown14
import Derived.Test.YtdoamelhclnphaaRefA14
import Derived.Lib.SlBytesConst
import Derived.LoopN
namespace Go.Proofs.Ytdoamelhclnphaa
open Go.RowKit
set_option maxRecDepth 100000

theorem new_a (w : World) (fz : Nat × Nat) : Calls Try.prog 28 #[.slice (some ⟨w.heap.size + 1, 0, none⟩) 1 1] ((w.alloc (.cells #[.int .u8 97] 5 fz)).alloc (.cells #[.slice (some ⟨w.heap.size, 0, none⟩) 1 1] 29)) fun e w' => ∃ ra rl rc rn, e = .returned (.tuple #[.agg #[.slice ra rl rc, .int .i64 rn], .int .i64 0]) ∧ Fr [] w w' := by
  obtain ⟨W, hW, f, q0, q1⟩ : ∃ W, (w.alloc (.cells #[.int .u8 97] 5 fz)).alloc (.cells #[.slice (some ⟨w.heap.size, 0, none⟩) 1 1] 29) = W ∧ Fr [] w W ∧ W.heap[w.heap.size]? = some (.cells #[.int .u8 97] 5 fz) ∧ W.heap[w.heap.size + 1]? = some (.cells #[.slice (some ⟨w.heap.size, 0, none⟩) 1 1] 29 (0, 0)) := ⟨_, rfl, ((Fr.refl _ _).alloc _).alloc _, keepA (newA rfl), newA (by simp)⟩
  rw [hW]
  have pv : PartV W (fun _ => True) (.slice (some ⟨w.heap.size, 0, none⟩) 1 1) [97] := ⟨_, _, rfl, Nat.le_refl _, by unfold maxLen; omega, fun _ => ⟨_, 0, rfl, lt_of_heap q0, fun i hi => by
    have h0 : i = 0 := by simpa [bi] using hi
    subst h0
    exact cell_of q0⟩, fun _ _ _ _ => trivial⟩
  refine (rope_new (len := 1) (cap := 1) (parts_single q1 pv) rfl (by unfold maxLen; omega)).mono ?_
  rintro e w' ⟨f2, he⟩
  rw [if_neg (by have := (own_single [97]).1; omega), if_neg (by simp [tot])] at he
  obtain ⟨v, rfl, hr⟩ := he
  obtain ⟨ra, rc, rfl, _⟩ := hr
  exact ⟨_, _, _, _, rfl, f.then0 f2⟩
set_option maxHeartbeats 8000000 in
theorem streamNone_walk (n : Int) (w : World) :
    Calls Try.prog 6 #[.int .i64 n] w fun e w' => e = .returned (.bool true) ∧ Fr [] w w' := by
  have hcv := fun (w : World) (C : Array Value) (n c : Nat) => Lib.run_convert_bytes_const (P := Try.prog) w 29 5 C n c Try.underlying29 Try.underlying5
  go_enter Try.func6, Try.ntmps6
  go_wp2_with fail
  obtain ⟨w0, hW⟩ : ∃ W, W = (w.alloc (.cells #[.nilIface, .bool false, .slice none 0 0, .int .i64 0, .int .i64 0, .int .i64 0, .int .i64 0] 78)).alloc (.cells #[.pointer none, .pointer (some ⟨w.heap.size, 0, none⟩)] 23) := ⟨_, rfl⟩
  rw [← hW]
  have z : StB w0 w.heap.size .nilIface false none 0 0 0 0 0 0 := by rw [hW]; exact keepA (newA rfl)
  have s : w0.heap[w.heap.size + 1]? = some (.cells #[.pointer none, .pointer (some ⟨w.heap.size, 0, none⟩)] 23 (0, 0)) := by rw [hW]; exact newA (by simp)
  have g : Fr [] w w0 := by rw [hW]; exact ((Fr.refl _ _).alloc _).alloc _
  clear hW
  generalize w.heap.size = B at z s ⊢
  have c0 : w0.cell? ⟨B + 1, 0, none⟩ = some (.pointer none) := cell_of s
  refine wp_loop_rounds 3 ?_
  rw [rounds_succ]
  go_wp2_with fail
  refine (new_a w0 _).mono ?_
  rintro e w1 ⟨ra, rl, rc, rn, rfl, f⟩
  replace z : StB w1 B .nilIface false none 0 0 0 0 0 0 := f.keep z (by simp)
  replace s : w1.heap[B + 1]? = some (.cells #[.pointer none, .pointer (some ⟨B, 0, none⟩)] 23 (0, 0)) := f.keep s (by simp)
  replace g : Fr [] w w1 := g.then0 f
  clear f
  obtain ⟨w2, hw2, f, q⟩ : ∃ W, w1.alloc (.cells #[.slice ra rl rc, .int .i64 rn] 57) = W ∧ Fr [] w1 W ∧ W.heap[w1.heap.size]? = some (.cells #[.slice ra rl rc, .int .i64 rn] 57 (0, 0)) := ⟨_, rfl, (Fr.refl _ _).alloc _, newA rfl⟩
  have r0 : w2.cell? ⟨w1.heap.size, 0, none⟩ = some (.slice ra rl rc) := cell_of q
  have r1 : w2.cell? ⟨w1.heap.size, 1, none⟩ = some (.int .i64 rn) := cell_of q
  clear q
  replace z : StB w2 B .nilIface false none 0 0 0 0 0 0 := f.keep z (by simp)
  replace s : w2.heap[B + 1]? = some (.cells #[.pointer none, .pointer (some ⟨B, 0, none⟩)] 23 (0, 0)) := f.keep s (by simp)
  replace g : Fr [] w w2 := g.then0 f
  clear f
  go_wp2_with fail
  clear hw2
  refine (zprogress (.inl rfl)).mono ?_
  rintro e w' ⟨rfl, rfl⟩
  go_wp2_with fail
  refine (zend (.inl rfl)).mono ?_
  rintro e w' ⟨rfl, rfl⟩
  go_wp2_with fail
  refine (zcancel (.inl rfl)).mono ?_
  rintro e w' ⟨rfl, rfl⟩
  go_wp2_with fail
  refine (zread (.inl rfl) n).mono ?_
  rintro e w' ⟨rfl, rfl⟩
  go_wp2_with fail
  refine (zbegin (.inl rfl) ra rl rc rn).mono ?_
  rintro e w3 ⟨rfl, f⟩
  replace z : StB w3 B .nilIface false none 0 0 0 0 0 0 := f.keep z (by simp)
  replace s : w3.heap[B + 1]? = some (.cells #[.pointer none, .pointer (some ⟨B, 0, none⟩)] 23 (0, 0)) := f.keep s (by simp)
  replace g : Fr [] w w3 := g.then0 f
  clear f
  clear r0 r1
  go_wp2_with fail
  refine (zclosew (.inl rfl) n).mono ?_
  rintro e w' ⟨rfl, rfl⟩
  go_wp2_with fail
  refine (zcloser (.inl rfl) n).mono ?_
  rintro e w' ⟨rfl, rfl⟩
  go_wp2_with fail
  refine (zstate (.inl rfl)).mono ?_
  rintro e w4 ⟨rfl, f⟩
  replace z : StB w4 B .nilIface false none 0 0 0 0 0 0 := f.keep z (by simp)
  replace s : w4.heap[B + 1]? = some (.cells #[.pointer none, .pointer (some ⟨B, 0, none⟩)] 23 (0, 0)) := f.keep s (by simp)
  replace g : Fr [] w w4 := g.then0 f
  clear f
  go_wp2_with fail
  refine (same14 (Sv.zero _ (fun _ => False)) (Sv.zero _ (fun _ => False))).mono ?_
  rintro e w5 ⟨rfl, f⟩
  replace z : StB w5 B .nilIface false none 0 0 0 0 0 0 := f.keep z (by simp)
  replace s : w5.heap[B + 1]? = some (.cells #[.pointer none, .pointer (some ⟨B, 0, none⟩)] 23 (0, 0)) := f.keep s (by simp)
  replace g : Fr [] w w5 := g.then0 f
  clear f
  go_wp2_with fail
  refine (zcopy (.inl rfl)).mono ?_
  rintro e w' ⟨rfl, rfl⟩
  go_wp2_with fail
  have c1 : w5.cell? ⟨B + 1, 1, none⟩ = some (.pointer (some ⟨B, 0, none⟩)) := cell_of s
  rw [rounds_succ]
  go_wp2_with fail
  refine (new_a w5 _).mono ?_
  rintro e w6 ⟨ra, rl, rc, rn, rfl, f⟩
  replace z : StB w6 B .nilIface false none 0 0 0 0 0 0 := f.keep z (by simp)
  replace s : w6.heap[B + 1]? = some (.cells #[.pointer none, .pointer (some ⟨B, 0, none⟩)] 23 (0, 0)) := f.keep s (by simp)
  replace g : Fr [] w w6 := g.then0 f
  clear f
  obtain ⟨w7, hw7, f, q⟩ : ∃ W, w6.alloc (.cells #[.slice ra rl rc, .int .i64 rn] 57) = W ∧ Fr [] w6 W ∧ W.heap[w6.heap.size]? = some (.cells #[.slice ra rl rc, .int .i64 rn] 57 (0, 0)) := ⟨_, rfl, (Fr.refl _ _).alloc _, newA rfl⟩
  have r0 : w7.cell? ⟨w6.heap.size, 0, none⟩ = some (.slice ra rl rc) := cell_of q
  have r1 : w7.cell? ⟨w6.heap.size, 1, none⟩ = some (.int .i64 rn) := cell_of q
  clear q
  replace z : StB w7 B .nilIface false none 0 0 0 0 0 0 := f.keep z (by simp)
  replace s : w7.heap[B + 1]? = some (.cells #[.pointer none, .pointer (some ⟨B, 0, none⟩)] 23 (0, 0)) := f.keep s (by simp)
  replace g : Fr [] w w7 := g.then0 f
  clear f
  go_wp2_with fail
  clear hw7
  refine (zprogress (.inr ⟨B, rfl, z⟩)).mono ?_
  rintro e w' ⟨rfl, rfl⟩
  go_wp2_with fail
  refine (zend (.inr ⟨B, rfl, z⟩)).mono ?_
  rintro e w' ⟨rfl, rfl⟩
  go_wp2_with fail
  refine (zcancel (.inr ⟨B, rfl, z⟩)).mono ?_
  rintro e w' ⟨rfl, rfl⟩
  go_wp2_with fail
  refine (zread (.inr ⟨B, rfl, z⟩) n).mono ?_
  rintro e w' ⟨rfl, rfl⟩
  go_wp2_with fail
  refine (zbegin (.inr ⟨B, rfl, z⟩) ra rl rc rn).mono ?_
  rintro e w8 ⟨rfl, f⟩
  replace z : StB w8 B .nilIface false none 0 0 0 0 0 0 := f.keep z (by simp)
  replace s : w8.heap[B + 1]? = some (.cells #[.pointer none, .pointer (some ⟨B, 0, none⟩)] 23 (0, 0)) := f.keep s (by simp)
  replace g : Fr [] w w8 := g.then0 f
  clear f
  clear r0 r1
  go_wp2_with fail
  refine (zclosew (.inr ⟨B, rfl, z⟩) n).mono ?_
  rintro e w' ⟨rfl, rfl⟩
  go_wp2_with fail
  refine (zcloser (.inr ⟨B, rfl, z⟩) n).mono ?_
  rintro e w' ⟨rfl, rfl⟩
  go_wp2_with fail
  refine (zstate (.inr ⟨B, rfl, z⟩)).mono ?_
  rintro e w9 ⟨rfl, f⟩
  replace z : StB w9 B .nilIface false none 0 0 0 0 0 0 := f.keep z (by simp)
  replace s : w9.heap[B + 1]? = some (.cells #[.pointer none, .pointer (some ⟨B, 0, none⟩)] 23 (0, 0)) := f.keep s (by simp)
  replace g : Fr [] w w9 := g.then0 f
  clear f
  go_wp2_with fail
  refine (same14 (Sv.zero _ (fun _ => False)) (Sv.zero _ (fun _ => False))).mono ?_
  rintro e w10 ⟨rfl, f⟩
  replace z : StB w10 B .nilIface false none 0 0 0 0 0 0 := f.keep z (by simp)
  replace s : w10.heap[B + 1]? = some (.cells #[.pointer none, .pointer (some ⟨B, 0, none⟩)] 23 (0, 0)) := f.keep s (by simp)
  replace g : Fr [] w w10 := g.then0 f
  clear f
  go_wp2_with fail
  refine (zcopy (.inr ⟨B, rfl, z⟩)).mono ?_
  rintro e w' ⟨rfl, rfl⟩
  go_wp2_with fail
  rw [rounds_succ]
  go_wp2_with fail
  refine (known14 _).mono ?_
  rintro e w99 ⟨rfl, f99⟩
  go_wp2_with fail
  go_ret
  exact ⟨rfl, g.then0 f99⟩
end Go.Proofs.Ytdoamelhclnphaa
