/-
  Law 14: is.
-/
import Derived.Test.YtdoamelhclnphaaRefH14
namespace Go.Proofs.Ytdoamelhclnphaa
open Go.RowKit
set_option maxRecDepth 100000

set_option maxHeartbeats 4000000 in
theorem is14 {w : World} {F : Nat → Prop} {b : Nat} {m : SM} {N : Nat → Prop} {v : Value} (hs : SF w F b m) (h : Sv w N v m) :
    Calls Try.prog 39 #[.pointer (some ⟨b, 0, none⟩), v] w fun e w' => e = .returned (.bool true) ∧ Fr [] w w' := by
  have HP := Lib.hid fun w' (f : Fr [] w w') => sf_progress (hs.keep0 f)
  have HST := Lib.hid fun w' (f : Fr [] w w') => (show Calls Try.prog 42 #[.pointer (some ⟨b, 0, none⟩)] w' fun e w2 => ∃ v, e = .returned v ∧ Fr [] w' w2 ∧ SvO w2 w'.heap.size v m from by obtain ⟨N0, L, h1, _⟩ := hs.keep0 f; exact st_state h1)
  clear hs
  obtain ⟨u1, u2, rfl, hq, hr⟩ := h
  obtain ⟨a1, k1, rfl, _⟩ := id hq
  obtain ⟨a2, k2, rfl, _⟩ := id hr
  have HQ := Lib.hid (And.intro hq hr)
  clear hq hr
  obtain ⟨w0, hw0, f0, q0⟩ : ∃ W, w.alloc (.cells #[.int .i64 m.c, .slice a1 m.q.length k1, .bool m.busy, .slice a2 m.rest.length k2, .int .i64 m.acc, .int .i64 m.w, .int .i64 m.r] 41) = W ∧ Fr [] w W ∧ S7 W w.heap.size m.c a1 m.q.length k1 m.busy a2 m.rest.length k2 m.acc m.w m.r := ⟨_, rfl, (Fr.refl _ _).alloc _, newA rfl⟩
  obtain ⟨x0, x1, x2, x3, x4, x5, x6, p0, p1, p2, p3, p4, p5, p6⟩ := q0.cells
  have hz0 : w.heap.size < w0.heap.size := lt_of_heap q0
  have HF := Lib.hid f0
  have HB := Lib.hid q0
  clear q0 f0
  have HES := Lib.hid (Go.Proofs.enters_of Try.func42 (by kernel_rfl) rfl)
  have HEQ := Lib.hid (Go.Proofs.enters_of Try.func41 (by kernel_rfl) rfl)
  have HEA := Lib.hid (Go.Proofs.enters_of Try.func88 (by kernel_rfl) rfl)
  go_enter Try.func39, Try.ntmps39
  go_wp2_with fail
  refine (HP.out _ HF.out).mono ?_
  rintro e w1 ⟨rfl, f1⟩
  have HF1 := Lib.hid (HF.out.then0 f1)
  have HB1 := Lib.hid (show S7 w1 w.heap.size m.c a1 m.q.length k1 m.busy a2 m.rest.length k2 m.acc m.w m.r from f1.keep HB.out (by simp))
  have HFA := Lib.hid fun (w' : World) (f : Fr [] w1 w') => (show w'.cell? ⟨w.heap.size, 0, none⟩ = some (.int .i64 m.c) ∧ w'.cell? ⟨w.heap.size, 1, none⟩ = some (.slice a1 m.q.length k1) ∧ w'.cell? ⟨w.heap.size, 2, none⟩ = some (.bool m.busy) ∧ w'.cell? ⟨w.heap.size, 3, none⟩ = some (.slice a2 m.rest.length k2) ∧ w'.cell? ⟨w.heap.size, 4, none⟩ = some (.int .i64 m.acc) ∧ w'.cell? ⟨w.heap.size, 5, none⟩ = some (.int .i64 m.w) ∧ w'.cell? ⟨w.heap.size, 6, none⟩ = some (.int .i64 m.r) from (let q := S7.cells (show S7 w' w.heap.size m.c a1 m.q.length k1 m.busy a2 m.rest.length k2 m.acc m.w m.r from f.keep HB1.out (by simp)); ⟨q.1, q.2.1, q.2.2.1, q.2.2.2.1, q.2.2.2.2.1, q.2.2.2.2.2.1, q.2.2.2.2.2.2.1⟩))
  clear x0 x1 x2 x3 x4 x5 x6 p0 p1 p2 p3 p4 p5 p6
  go_wp2_with fail
  have fd : Fr [] w1 w1.drew := (Fr.refl _ _).drew
  refine wp_region_order [(0, true), (2, true), (1, false), (3, false), (4, true), (5, true), (6, true), (7, true), (8, true), (9, true), (10, true), (11, true), (12, true), (13, false), (14, true), (15, true), (16, true)] (fun w' => Fr [] w1 w') (by kernel_rfl) (by kernel_rfl) fd ?_
  intro OPS HOPS
  have hops := HOPS.out
  try simp only [List.append_eq, List.cons_append, List.nil_append] at hops
  replace HOPS := Lib.hid hops
  clear hops
  refine walkO_take (o := _) (v := ?_) (by rw [HOPS.out]; simp only [List.getElem?_toArray, List.getElem?_cons_succ, List.getElem?_cons_zero]; exact rfl) (Or.inl ⟨rfl, ?_⟩) ?_
  rotate_left
  · (intro w hSw; have hSx := HFA.out _ hSw; (try dsimp only at hSx); clear hSw; go_simp) <;> (with_reducible rfl)
  simp only [Act.put, List.setIfInBounds_toArray, List.set_cons_zero, List.set_cons_succ]
  refine walkO_take (o := _) (v := ?_) (by rw [HOPS.out]; simp only [List.getElem?_toArray, List.getElem?_cons_succ, List.getElem?_cons_zero]; exact rfl) (Or.inl ⟨rfl, ?_⟩) ?_
  rotate_left
  · (intro w hSw; have hSx := HFA.out _ hSw; (try dsimp only at hSx); clear hSw; go_simp) <;> (with_reducible rfl)
  simp only [Act.put, List.setIfInBounds_toArray, List.set_cons_zero, List.set_cons_succ]
  refine walkO_call (o := _) (by rw [HOPS.out]; simp only [List.getElem?_toArray, List.getElem?_cons_succ, List.getElem?_cons_zero]; exact rfl) (fun K HK => ?_)
  refine step_call rfl 42 #[(.tmp 12)] #[23] rfl HES.out #[.pointer (some ⟨b, 0, none⟩)] (by simp [Act.eval]) (HST.out _ (HF1.out.then0 fd)) ?_
  rintro e w2 ⟨vs, rfl, f2, hs⟩
  have g2 := fd.then0 f2
  refine ⟨_, rfl, ?_⟩
  refine HK.out (fun w' => Fr [] w1 w') _ _ (fun _ h => h) (g2) ?_
  clear HK K
  simp only [Act.put, List.setIfInBounds_toArray, List.set_cons_zero, List.set_cons_succ]
  refine walkO_call (o := _) (by rw [HOPS.out]; simp only [List.getElem?_toArray, List.getElem?_cons_succ, List.getElem?_cons_zero]; exact rfl) (fun K HK => ?_)
  refine step_call rfl 41 #[(.tmp 13), (.tmp 14)] #[41, 41] rfl HEQ.out #[vs, .agg #[.int .i64 m.c, .slice a1 m.q.length k1, .bool m.busy, .slice a2 m.rest.length k2, .int .i64 m.acc, .int .i64 m.w, .int .i64 m.r]] (by simp [Act.eval]) (same14 (SvO.sv hs) (show Sv w2 N (.agg #[.int .i64 m.c, .slice a1 m.q.length k1, .bool m.busy, .slice a2 m.rest.length k2, .int .i64 m.acc, .int .i64 m.w, .int .i64 m.r]) m from ⟨_, _, rfl, HQ.out.1.keep (HF1.out.then0 g2) (by simp), HQ.out.2.keep (HF1.out.then0 g2) (by simp)⟩)) ?_
  rintro e w3 ⟨rfl, f3⟩
  have g3 := g2.then0 f3
  refine ⟨_, rfl, ?_⟩
  refine HK.out (fun w' => Fr [] w1 w') _ _ (fun _ h => h) (g3) ?_
  clear HK K
  simp only [Act.put, List.setIfInBounds_toArray, List.set_cons_zero, List.set_cons_succ]
  refine walkO_take (o := _) (v := ?_) (by rw [HOPS.out]; simp only [List.getElem?_toArray, List.getElem?_cons_succ, List.getElem?_cons_zero]; exact rfl) (Or.inl ⟨rfl, ?_⟩) ?_
  rotate_left
  · (intro w hSw; have hSx := HFA.out _ hSw; (try dsimp only at hSx); clear hSw; go_simp) <;> (with_reducible rfl)
  simp only [Act.put, List.setIfInBounds_toArray, List.set_cons_zero, List.set_cons_succ]
  refine walkO_take (o := _) (v := ?_) (by rw [HOPS.out]; simp only [List.getElem?_toArray, List.getElem?_cons_succ, List.getElem?_cons_zero]; exact rfl) (Or.inl ⟨by rw [HOPS.out]; rfl, ?_⟩) ?_
  rotate_left
  · (intro w hSw; have hSx := HFA.out _ hSw; (try dsimp only at hSx); clear hSw; go_simp) <;> (with_reducible rfl)
  simp only [Act.put, List.setIfInBounds_toArray, List.set_cons_zero, List.set_cons_succ]
  refine walkO_take (o := _) (v := ?_) (by rw [HOPS.out]; simp only [List.getElem?_toArray, List.getElem?_cons_succ, List.getElem?_cons_zero]; exact rfl) (Or.inl ⟨by rw [HOPS.out]; rfl, ?_⟩) ?_
  rotate_left
  · (intro w hSw; have hSx := HFA.out _ hSw; (try dsimp only at hSx); clear hSw; go_simp) <;> (with_reducible rfl)
  simp only [Act.put, List.setIfInBounds_toArray, List.set_cons_zero, List.set_cons_succ]
  refine walkO_take (o := _) (v := ?_) (by rw [HOPS.out]; simp only [List.getElem?_toArray, List.getElem?_cons_succ, List.getElem?_cons_zero]; exact rfl) (Or.inl ⟨by rw [HOPS.out]; rfl, ?_⟩) ?_
  rotate_left
  · (intro w hSw; have hSx := HFA.out _ hSw; (try dsimp only at hSx); clear hSw; go_simp) <;> (with_reducible rfl)
  simp only [Act.put, List.setIfInBounds_toArray, List.set_cons_zero, List.set_cons_succ]
  refine walkO_take (o := _) (v := ?_) (by rw [HOPS.out]; simp only [List.getElem?_toArray, List.getElem?_cons_succ, List.getElem?_cons_zero]; exact rfl) (Or.inl ⟨by rw [HOPS.out]; rfl, ?_⟩) ?_
  rotate_left
  · (intro w hSw; have hSx := HFA.out _ hSw; (try dsimp only at hSx); clear hSw; go_simp) <;> (with_reducible rfl)
  simp only [Act.put, List.setIfInBounds_toArray, List.set_cons_zero, List.set_cons_succ]
  refine walkO_take (o := _) (v := ?_) (by rw [HOPS.out]; simp only [List.getElem?_toArray, List.getElem?_cons_succ, List.getElem?_cons_zero]; exact rfl) (Or.inl ⟨rfl, ?_⟩) ?_
  rotate_left
  · (intro w hSw; have hSx := HFA.out _ hSw; (try dsimp only at hSx); clear hSw; go_simp) <;> (with_reducible rfl)
  simp only [Act.put, List.setIfInBounds_toArray, List.set_cons_zero, List.set_cons_succ]
  refine walkO_take (o := _) (v := ?_) (by rw [HOPS.out]; simp only [List.getElem?_toArray, List.getElem?_cons_succ, List.getElem?_cons_zero]; exact rfl) (Or.inl ⟨rfl, ?_⟩) ?_
  rotate_left
  · (intro w hSw; have hSx := HFA.out _ hSw; (try dsimp only at hSx); clear hSw; go_simp) <;> (with_reducible rfl)
  simp only [Act.put, List.setIfInBounds_toArray, List.set_cons_zero, List.set_cons_succ]
  refine walkO_take (o := _) (v := ?_) (by rw [HOPS.out]; simp only [List.getElem?_toArray, List.getElem?_cons_succ, List.getElem?_cons_zero]; exact rfl) (Or.inl ⟨by rw [HOPS.out]; rfl, ?_⟩) ?_
  rotate_left
  · (intro w hSw; have hSx := HFA.out _ hSw; (try dsimp only at hSx); clear hSw; go_simp) <;> (with_reducible rfl)
  simp only [Act.put, List.setIfInBounds_toArray, List.set_cons_zero, List.set_cons_succ]
  refine walkO_take (o := _) (v := ?_) (by rw [HOPS.out]; simp only [List.getElem?_toArray, List.getElem?_cons_succ, List.getElem?_cons_zero]; exact rfl) (Or.inl ⟨by rw [HOPS.out]; rfl, ?_⟩) ?_
  rotate_left
  · (intro w hSw; have hSx := HFA.out _ hSw; (try dsimp only at hSx); clear hSw; go_simp) <;> (with_reducible rfl)
  simp only [Act.put, List.setIfInBounds_toArray, List.set_cons_zero, List.set_cons_succ]
  refine walkO_call (o := _) (by rw [HOPS.out]; simp only [List.getElem?_toArray, List.getElem?_cons_succ, List.getElem?_cons_zero]; exact rfl) (fun K HK => ?_)
  refine step_call (by rw [HOPS.out]; rfl) 88 #[(.tmp 24)] #[41] rfl HEA.out #[.agg #[.int .i64 m.c, .slice a1 m.q.length k1, .bool m.busy, .slice a2 m.rest.length k2, .int .i64 m.acc, .int .i64 m.w, .int .i64 m.r]] (by simp [Act.eval]) (r_atend (show Sv w3 N (.agg #[.int .i64 m.c, .slice a1 m.q.length k1, .bool m.busy, .slice a2 m.rest.length k2, .int .i64 m.acc, .int .i64 m.w, .int .i64 m.r]) m from ⟨_, _, rfl, HQ.out.1.keep (HF1.out.then0 g3) (by simp), HQ.out.2.keep (HF1.out.then0 g3) (by simp)⟩)) ?_
  rintro e w4 ⟨rfl, f4⟩
  have g4 := g3.then0 f4
  refine ⟨_, rfl, ?_⟩
  refine HK.out (fun w' => Fr [] w1 w') _ _ (fun _ h => h) (g4) ?_
  clear HK K
  simp only [Act.put, List.setIfInBounds_toArray, List.set_cons_zero, List.set_cons_succ]
  refine walkO_take (o := _) (v := ?_) (by rw [HOPS.out]; simp only [List.getElem?_toArray, List.getElem?_cons_succ, List.getElem?_cons_zero]; exact rfl) (Or.inl ⟨by rw [HOPS.out]; rfl, ?_⟩) ?_
  rotate_left
  · (intro w hSw; have hSx := HFA.out _ hSw; (try dsimp only at hSx); clear hSw; go_simp) <;> (with_reducible rfl)
  simp only [Act.put, List.setIfInBounds_toArray, List.set_cons_zero, List.set_cons_succ]
  refine walkO_take (o := _) (v := ?_) (by rw [HOPS.out]; simp only [List.getElem?_toArray, List.getElem?_cons_succ, List.getElem?_cons_zero]; exact rfl) (Or.inl ⟨rfl, ?_⟩) ?_
  rotate_left
  · (intro w hSw; have hSx := HFA.out _ hSw; (try dsimp only at hSx); clear hSw; go_simp) <;> (with_reducible rfl)
  simp only [Act.put, List.setIfInBounds_toArray, List.set_cons_zero, List.set_cons_succ]
  refine walkO_take (o := _) (v := ?_) (by rw [HOPS.out]; simp only [List.getElem?_toArray, List.getElem?_cons_succ, List.getElem?_cons_zero]; exact rfl) (Or.inl ⟨rfl, ?_⟩) ?_
  rotate_left
  · (intro w hSw; have hSx := HFA.out _ hSw; (try dsimp only at hSx); clear hSw; go_simp) <;> (with_reducible rfl)
  simp only [Act.put, List.setIfInBounds_toArray, List.set_cons_zero, List.set_cons_succ]
  refine walkO_done ?_
  clear HOPS OPS
  have HG := Lib.hid (HF1.out.then0 g4)
  clear g4 g3 g2 f2 f3 f4 hs fd f1
  try simp only [beq_self_eq_true]
  go_wp2_with fail
  go_ret
  exact ⟨by simp, HG.out⟩
end Go.Proofs.Ytdoamelhclnphaa
