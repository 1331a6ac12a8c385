/-
  The reference of law 22: New.
-/
import Derived.Test.YtodpkdbcdbdjfaaSpStepB
import Derived.Test.YtodpkdbcdbdjfaaRegionU
import Derived.Test.YtodpkdbcdbdjfaaStepsTwo
namespace Go.Proofs.Ytodpkdbcdbdjfaa
open Go.RowKit
set_option maxRecDepth 100000

def newV (st : Int) : Value := .agg #[.int .i64 (newS22 st).t0.stage, .int .i64 (newS22 st).t0.limit, .int .i64 (newS22 st).t0.rd, .int .i64 (newS22 st).t0.wr, .slice none (newS22 st).t0.s.length 0, .int .i64 (newS22 st).t0.r, .int .i64 (newS22 st).t0.w, .int .i64 (newS22 st).t1.stage, .int .i64 (newS22 st).t1.limit, .int .i64 (newS22 st).t1.rd, .int .i64 (newS22 st).t1.wr, .slice none (newS22 st).t1.s.length 0, .int .i64 (newS22 st).t1.r, .int .i64 (newS22 st).t1.w, .bool (newS22 st).c0, .bool (newS22 st).c1, .int .i64 (newS22 st).first]
theorem newV_r (w : World) (N : Nat → Prop) (st : Int) : Rsp w N (newV st) (newS22 st) :=
  ⟨none, 0, none, 0, rfl, ⟨none, 0, rfl, Nat.le_refl _, by unfold maxLen; omega, Sl.nil _ _, by intro b o h; simp [newS22, newT] at h⟩, ⟨none, 0, rfl, Nat.le_refl _, by unfold maxLen; omega, Sl.nil _ _, by intro b o h; simp [newS22, newT] at h⟩⟩
set_option maxHeartbeats 8000000 in
theorem rs_new (w : World) (st : Int) :
    Calls Try.prog 42 #[.int .i64 st] w fun e w' => e = .returned (.tuple #[newV st, .bool (okS st (-1))]) ∧ Fr [] w w' := by
  have HVA := Lib.hid fun w => rvalid w st (-1)
  obtain ⟨w0, hw0, f0, q0⟩ : ∃ W, w.alloc (.cells #[.int .i64 0, .int .i64 0, .int .i64 0, .int .i64 0, .slice none 0 0, .int .i64 0, .int .i64 0, .int .i64 0, .int .i64 0, .int .i64 0, .int .i64 0, .slice none 0 0, .int .i64 0, .int .i64 0, .bool false, .bool false, .int .i64 0] 95) = W ∧ Fr [] w W ∧ SB W w.heap.size (.int .i64 0) (.int .i64 0) (.int .i64 0) (.int .i64 0) (.slice none 0 0) (.int .i64 0) (.int .i64 0) (.int .i64 0) (.int .i64 0) (.int .i64 0) (.int .i64 0) (.slice none 0 0) (.int .i64 0) (.int .i64 0) (.bool false) (.bool false) (.int .i64 0) := ⟨_, rfl, (Fr.refl _ _).alloc _, newA rfl⟩
  obtain ⟨w1, hw1, f1, t1⟩ : ∃ W, w0.alloc (.cells #[.int .i64 st, .int .i64 (-1), .int .i64 0, .int .i64 0, .slice none 0 0, .int .i64 0, .int .i64 0] 45) = W ∧ Fr [] w0 W ∧ RB W w0.heap.size (.int .i64 st) (.int .i64 (-1)) (.int .i64 0) (.int .i64 0) (.slice none 0 0) (.int .i64 0) (.int .i64 0) := ⟨_, rfl, (Fr.refl _ _).alloc _, newA rfl⟩
  have q1 : SB w1 w.heap.size (.int .i64 0) (.int .i64 0) (.int .i64 0) (.int .i64 0) (.slice none 0 0) (.int .i64 0) (.int .i64 0) (.int .i64 0) (.int .i64 0) (.int .i64 0) (.int .i64 0) (.slice none 0 0) (.int .i64 0) (.int .i64 0) (.bool false) (.bool false) (.int .i64 0) := f1.keep q0 (by simp)
  have hz := lt_of_heap q0
  have hid0 : w1.setCell ⟨w0.heap.size, 0, none⟩ (.int .i64 st) = w1 := setCell_id t1 rfl
  have hid1 : w1.setCell ⟨w0.heap.size, 1, none⟩ (.int .i64 (-1)) = w1 := setCell_id t1 rfl
  have hid2 : w1.setCell ⟨w0.heap.size, 2, none⟩ (.int .i64 0) = w1 := setCell_id t1 rfl
  have hid3 : w1.setCell ⟨w0.heap.size, 3, none⟩ (.int .i64 0) = w1 := setCell_id t1 rfl
  have hid4 : w1.setCell ⟨w0.heap.size, 4, none⟩ (.slice none 0 0) = w1 := setCell_id t1 rfl
  have hid5 : w1.setCell ⟨w0.heap.size, 5, none⟩ (.int .i64 0) = w1 := setCell_id t1 rfl
  have hid6 : w1.setCell ⟨w0.heap.size, 6, none⟩ (.int .i64 0) = w1 := setCell_id t1 rfl
  have HFA := Lib.hid fun (w' : World) (f : Fr [w.heap.size] w1 w') => (show w'.cell? ⟨w0.heap.size, 0, none⟩ = some (.int .i64 st) ∧ w'.cell? ⟨w0.heap.size, 1, none⟩ = some (.int .i64 (-1)) ∧ w'.cell? ⟨w0.heap.size, 2, none⟩ = some (.int .i64 0) ∧ w'.cell? ⟨w0.heap.size, 3, none⟩ = some (.int .i64 0) ∧ w'.cell? ⟨w0.heap.size, 4, none⟩ = some (.slice none 0 0) ∧ w'.cell? ⟨w0.heap.size, 5, none⟩ = some (.int .i64 0) ∧ w'.cell? ⟨w0.heap.size, 6, none⟩ = some (.int .i64 0) from (let q' : RB w' w0.heap.size (.int .i64 st) (.int .i64 (-1)) (.int .i64 0) (.int .i64 0) (.slice none 0 0) (.int .i64 0) (.int .i64 0) := f.keep t1 (by simp; omega); ⟨cell_of q', cell_of q', cell_of q', cell_of q', cell_of q', cell_of q', cell_of q'⟩))
  have HEV := Lib.hid (Go.Proofs.enters_of Try.func13 (by kernel_rfl) rfl)
  obtain ⟨_, _, _, _, _, _, _, _, _, _, _, _, _, _⟩ := t1.cells
  clear t1 q0
  go_enter Try.func42, Try.ntmps42
  go_wp2_with fail
  have fd0 : Fr [w.heap.size] w1 w1.drew := (Fr.refl _ _).drew
  refine wp_region_tree (.take 0 (.take 1 (.take 2 (.take 3 (.take 4 (.one 5 (.one 6 (.take 7 .nil)))))))) (fun w' => Fr [w.heap.size] w1 w') (by kernel_rfl) (by kernel_rfl) fd0 ?_
  intro OPS HOPS
  have hops := HOPS.out
  try simp only [List.append_eq, List.cons_append, List.nil_append] at hops
  replace HOPS := Lib.hid hops
  clear hops
  refine walkT_take (o := _) (v := ?_) (by rw [HOPS.out]; simp only [List.getElem?_toArray, List.getElem?_cons_succ, List.getElem?_cons_zero]; exact rfl) (Or.inl ⟨rfl, ?_⟩) ?_
  rotate_left
  · (intro w hSw; have hSx := HFA.out _ hSw; (try dsimp only at hSx); clear hSw; go_simp) <;> (with_reducible rfl)
  simp only [Act.put, List.setIfInBounds_toArray, List.set_cons_zero, List.set_cons_succ]
  refine walkT_take (o := _) (v := ?_) (by rw [HOPS.out]; simp only [List.getElem?_toArray, List.getElem?_cons_succ, List.getElem?_cons_zero]; exact rfl) (Or.inl ⟨rfl, ?_⟩) ?_
  rotate_left
  · (intro w hSw; have hSx := HFA.out _ hSw; (try dsimp only at hSx); clear hSw; go_simp) <;> (with_reducible rfl)
  simp only [Act.put, List.setIfInBounds_toArray, List.set_cons_zero, List.set_cons_succ]
  refine walkT_take (o := _) (v := ?_) (by rw [HOPS.out]; simp only [List.getElem?_toArray, List.getElem?_cons_succ, List.getElem?_cons_zero]; exact rfl) (Or.inl ⟨rfl, ?_⟩) ?_
  rotate_left
  · (intro w hSw; have hSx := HFA.out _ hSw; (try dsimp only at hSx); clear hSw; go_simp) <;> (with_reducible rfl)
  simp only [Act.put, List.setIfInBounds_toArray, List.set_cons_zero, List.set_cons_succ]
  refine walkT_take (o := _) (v := ?_) (by rw [HOPS.out]; simp only [List.getElem?_toArray, List.getElem?_cons_succ, List.getElem?_cons_zero]; exact rfl) (Or.inl ⟨rfl, ?_⟩) ?_
  rotate_left
  · (intro w hSw; have hSx := HFA.out _ hSw; (try dsimp only at hSx); clear hSw; go_simp) <;> (with_reducible rfl)
  simp only [Act.put, List.setIfInBounds_toArray, List.set_cons_zero, List.set_cons_succ]
  refine walkT_take (o := _) (v := ?_) (by rw [HOPS.out]; simp only [List.getElem?_toArray, List.getElem?_cons_succ, List.getElem?_cons_zero]; exact rfl) (Or.inl ⟨rfl, ?_⟩) ?_
  rotate_left
  · (intro w hSw; have hSx := HFA.out _ hSw; (try dsimp only at hSx); clear hSw; go_simp) <;> (with_reducible rfl)
  simp only [Act.put, List.setIfInBounds_toArray, List.set_cons_zero, List.set_cons_succ]
  refine walkT_call (o := _) (by rw [HOPS.out]; simp only [List.getElem?_toArray, List.getElem?_cons_succ, List.getElem?_cons_zero]; exact rfl) (fun K HK => ?_)
  refine step_call rfl 13 #[(.tmp 11), (.const (.int .i64 (-1)))] #[3, 3] rfl HEV.out #[.int .i64 st, .int .i64 (-1)] (by simp [Act.eval]) (HVA.out _) ?_
  rintro e w2 ⟨rfl, rfl⟩
  refine ⟨_, rfl, ?_⟩
  refine HK.out (fun w' => Fr [w.heap.size] w1 w') _ _ (fun _ h => h) fd0 ?_
  clear HK K
  simp only [Act.put, List.setIfInBounds_toArray, List.set_cons_zero, List.set_cons_succ]
  refine walkT_call (o := _) (by rw [HOPS.out]; simp only [List.getElem?_toArray, List.getElem?_cons_succ, List.getElem?_cons_zero]; exact rfl) (fun K HK => ?_)
  have hR : SB w1.drew w.heap.size (.int .i64 0) (.int .i64 0) (.int .i64 0) (.int .i64 0) (.slice none 0 0) (.int .i64 0) (.int .i64 0) (.int .i64 0) (.int .i64 0) (.int .i64 0) (.int .i64 0) (.slice none 0 0) (.int .i64 0) (.int .i64 0) (.bool false) (.bool false) (.int .i64 0) := q1
  obtain ⟨w9, hst, qR, fR⟩ := sbs_set hR none 0 none 0 (newT st (-1)) (newT st (-1)) false false 0
  refine step_store17 (a0 := none) (k0 := 0) (a1 := none) (k1 := 0) (t0 := newT st (-1)) (t1 := newT st (-1)) (c0 := false) (c1 := false) (f := 0) (p := .tmp 2) (x := .tmp 10) hR rfl rfl rfl rfl rfl ?_
  rw [hst]
  have f9 : Fr [w.heap.size] w1 w9 := fd0.then fR
  refine HK.out (fun w' => Fr [w.heap.size] w1 w') _ _ (fun _ h => h) f9 ?_
  clear HK K
  try simp only [Act.put, List.setIfInBounds_toArray, List.set_cons_zero, List.set_cons_succ]
  refine walkT_take (o := _) (v := ?_) (by rw [HOPS.out]; simp only [List.getElem?_toArray, List.getElem?_cons_succ, List.getElem?_cons_zero]; exact rfl) (Or.inl ⟨rfl, ?_⟩) ?_
  rotate_left
  · (intro w hSw; have hSx := HFA.out _ hSw; (try dsimp only at hSx); clear hSw; go_simp) <;> (with_reducible rfl)
  simp only [Act.put, List.setIfInBounds_toArray, List.set_cons_zero, List.set_cons_succ]
  refine walkT_done ?_
  clear HOPS OPS
  have QR := Lib.hid qR
  have G9 := Lib.hid ((f0.then0 f1).trans f9 (U := []) (by simp) (fun x hx => .inr (by simp at hx; omega)))
  clear HFA qR fR f9 hst hR
  go_wp2_with fail
  refine bodyPost_ret (sbs_result2 QR.out rfl rfl rfl) rfl ?_
  exact ⟨rfl, G9.out⟩
end Go.Proofs.Ytodpkdbcdbdjfaa
