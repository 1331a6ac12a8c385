/-
  Law 21: is: a transfer looks like the reference's, twice.
-/
import Derived.Test.YtodpkdbcdbdjfaaRef21b
import Derived.Test.YtodpkdbcdbdjfaaTrHold
namespace Go.Proofs.Ytodpkdbcdbdjfaa
open Go.RowKit
set_option maxRecDepth 100000

theorem Wr.keepF {w w' : World} {u : Value} {x : WT} (h : Wr w u x) (f : Fr [] w w') : Wr w' u x := h.keep0 f
set_option maxHeartbeats 8000000 in
theorem is21 {w : World} {N Nv : Nat → Prop} {b : Nat} {t : TS} {v : Value} (h : Tr w N b t) (hr : t.rd ≤ 4611686018427387904) (hv : Rv w Nv v t) :
    Calls Try.prog 23 #[.pointer (some ⟨b, 0, none⟩), v] w fun e w' => e = .returned (.bool true) ∧ Fr [] w w' := by
  have hok := h.ok
  have HTR := Lib.hid fun w1 (f : Fr [] w w1) => h.keep0 f
  have HRV := Lib.hid fun w1 (f : Fr [] w w1) => hv.keep f (by simp)
  obtain ⟨ra, rc, rfl, k1, k2, k3, _⟩ := hv
  have HRS := Lib.hid fun w1 (f : Fr [] w w1) => sl_keep k3 f (by simp)
  have HNN := Lib.hid fun w1 (f : Fr [] w w1) => rt_next (h.keep0 f |> fun _ => (HRV.out w1 f)) hok hr
  have HNX := Lib.hid fun w1 (f : Fr [] w w1) => tr_next (h.keep0 f) hr
  have HST := Lib.hid fun w1 (f : Fr [] w w1) => tr_stageT (h.keep0 f)
  have HMO := Lib.hid fun w1 (f : Fr [] w w1) => moved_of (tr_movedT (h.keep0 f))
  clear hok k3 k1 k2 h hr
  go_enter Try.func23, Try.ntmps23
  go_wp2_with fail
  obtain ⟨w0, hw0, g0, b0⟩ : ∃ W, w.alloc (.cells #[.int .i64 t.stage, .int .i64 t.limit, .int .i64 t.rd, .int .i64 t.wr, .slice ra t.s.length rc, .int .i64 t.r, .int .i64 t.w] 45) = W ∧ Fr [] w W ∧ RB W w.heap.size (.int .i64 t.stage) (.int .i64 t.limit) (.int .i64 t.rd) (.int .i64 t.wr) (.slice ra t.s.length rc) (.int .i64 t.r) (.int .i64 t.w) := ⟨_, rfl, (Fr.refl _ _).alloc _, newA rfl⟩
  rw [hw0]
  clear hw0
  go_loopw [5] (fun i wr => ∃ k : Nat, k ≤ 2 ∧ i = .int .i64 k ∧ Fr [] w wr ∧ RB wr w.heap.size (.int .i64 t.stage) (.int .i64 t.limit) (.int .i64 t.rd) (.int .i64 t.wr) (.slice ra t.s.length rc) (.int .i64 t.r) (.int .i64 t.w)) (fun i _ => 2 - (intOf i).toNat)
  case atStart => exact ⟨0, by omega, rfl, g0, b0⟩
  case round =>
    obtain ⟨k, hk2, rfl, g, qr⟩ := hrel
    rename World => wr
    clear g0 b0
    by_cases hlt : (k : Int) < 2
    · go_wp2_with fail
      refine (HNX.out _ g).mono ?_
      rintro e w2 ⟨nv, rfl, f2, hw2⟩
      have hwr2 := hw2.wr
      obtain ⟨u, rfl, ou⟩ := hw2
      obtain ⟨ga, gc, rfl, _⟩ := ou.formB
      go_wp2_with fail
      refine (HST.out _ (g.then0 f2)).mono ?_
      rintro e w3 ⟨sv, rfl, f3, os⟩
      obtain ⟨sa, sc, rfl, _, _, ss, _⟩ := os.formB
      obtain ⟨wb, hwb, fa, bx⟩ : ∃ W, w3.alloc (.cells #[.int .i64 (nextT t).kind, .int .i64 (nextT t).side, .int .i64 (nextT t).n, .slice ga (nextT t).data.length gc, .int .i64 (nextT t).err] 32) = W ∧ Fr [] w3 W ∧ WB W w3.heap.size (.int .i64 (nextT t).kind) (.int .i64 (nextT t).side) (.int .i64 (nextT t).n) (.slice ga (nextT t).data.length gc) (.int .i64 (nextT t).err) := ⟨_, rfl, (Fr.refl _ _).alloc _, newA rfl⟩
      have f23 := f2.then0 f3
      have fb := f23.then0 fa
      have gb := g.then0 fb
      have hoL := ou.lt
      have hsL := os.lt
      have hz2 := f2.size
      have hz3 := f3.size
      have HOU := Lib.hid ((ou.keep f3 (by simp)).keep fa (by simp))
      have HOS := Lib.hid ((os.mono f2.size).keep fa (by simp))
      have HLT := Lib.hid (And.intro hoL (And.intro hsL (And.intro hz2 hz3)))
      have HWR := Lib.hid fun w1 (f : Fr [] wb w1) => hwr2.keep0 ((f3.then0 fa).then0 f)
      have HRN := Lib.hid fun w1 (f : Fr [] wb w1) => HNN.out w1 (gb.then0 f)
      have HMV := Lib.hid fun w1 (f : Fr [] wb w1) => HMO.out w1 (gb.then0 f)
      have qb : RB wb w.heap.size _ _ _ _ _ _ _ := fb.keep qr (by simp)
      have HFA := Lib.hid fun (w1 : World) (f : Fr [] wb w1) => (show (∀ c, (convert 22 9 (.slice sa t.s.length c)).run Try.prog w1 = .ok (.string (st t.s)) w1) ∧ (∀ c, (convert 22 9 (.slice ra t.s.length c)).run Try.prog w1 = .ok (.string (st t.s)) w1) ∧ w1.cell? ⟨w3.heap.size, 0, none⟩ = some (.int .i64 (nextT t).kind) ∧ w1.cell? ⟨w3.heap.size, 1, none⟩ = some (.int .i64 (nextT t).side) ∧ w1.cell? ⟨w3.heap.size, 2, none⟩ = some (.int .i64 (nextT t).n) ∧ w1.cell? ⟨w3.heap.size, 3, none⟩ = some (.slice ga (nextT t).data.length gc) ∧ w1.cell? ⟨w3.heap.size, 4, none⟩ = some (.int .i64 (nextT t).err) ∧ w1.cell? ⟨w.heap.size, 0, none⟩ = some (.int .i64 t.stage) ∧ w1.cell? ⟨w.heap.size, 1, none⟩ = some (.int .i64 t.limit) ∧ w1.cell? ⟨w.heap.size, 2, none⟩ = some (.int .i64 t.rd) ∧ w1.cell? ⟨w.heap.size, 3, none⟩ = some (.int .i64 t.wr) ∧ w1.cell? ⟨w.heap.size, 4, none⟩ = some (.slice ra t.s.length rc) ∧ w1.cell? ⟨w.heap.size, 5, none⟩ = some (.int .i64 t.r) ∧ w1.cell? ⟨w.heap.size, 6, none⟩ = some (.int .i64 t.w) from
        ⟨fun c => conv_st (cap := c) (sl_keep (sl_keep ss fa (by simp)) f (by simp)) rfl, fun c => conv_st (cap := c) (HRS.out _ (gb.then0 f)) rfl, cell_of (f.keep bx (by simp)), cell_of (f.keep bx (by simp)), cell_of (f.keep bx (by simp)), cell_of (f.keep bx (by simp)), cell_of (f.keep bx (by simp)), cell_of (f.keep qb (by simp)), cell_of (f.keep qb (by simp)), cell_of (f.keep qb (by simp)), cell_of (f.keep qb (by simp)), cell_of (f.keep qb (by simp)), cell_of (f.keep qb (by simp)), cell_of (f.keep qb (by simp))⟩)
      have HBX := Lib.hid bx
      have HE1 := Lib.hid (Go.Proofs.enters_of Try.func59 (by kernel_rfl) rfl)
      have HE2 := Lib.hid (Go.Proofs.enters_of Try.func40 (by kernel_rfl) rfl)
      have HE3 := Lib.hid (Go.Proofs.enters_of Try.func20 (by kernel_rfl) rfl)
      have f0 : Fr [] wb wb.drew := (Fr.refl _ _).drew
      clear ou os hwr2 ss bx fa f23 hoL hsL hz2 hz3
      go_wp2_with fail
      refine wp_region_order [(0, true), (1, true), (2, false), (3, false), (4, true), (5, true), (6, true), (7, true), (8, true), (9, true), (10, true), (11, true), (12, true), (13, true), (14, true), (15, true), (16, true), (17, true), (18, true), (19, false), (20, true), (21, true)] (fun w' => Fr [] wb w') (by kernel_rfl) (by kernel_rfl) f0 ?_
      intro OPS HOPS
      have hops := HOPS.out
      try simp only [List.append_eq, List.cons_append, List.nil_append] at hops
      replace HOPS := Lib.hid hops
      clear hops
      refine walkO_take (o := _) (v := ?_) (by rw [HOPS.out]; simp only [List.getElem?_toArray, List.getElem?_cons_succ, List.getElem?_cons_zero]; exact rfl) (Or.inl ⟨rfl, ?_⟩) ?_
      rotate_left
      · (intro w hSw; have hSx := HFA.out _ hSw; (try dsimp only at hSx); clear hSw; go_simp) <;> (with_reducible rfl)
      simp only [Act.put, List.setIfInBounds_toArray, List.set_cons_zero, List.set_cons_succ]
      refine walkO_take (o := _) (v := ?_) (by rw [HOPS.out]; simp only [List.getElem?_toArray, List.getElem?_cons_succ, List.getElem?_cons_zero]; exact rfl) (Or.inl ⟨rfl, ?_⟩) ?_
      rotate_left
      · (intro w hSw; have hSx := HFA.out _ hSw; (try dsimp only at hSx); clear hSw; go_simp) <;> (with_reducible rfl)
      simp only [Act.put, List.setIfInBounds_toArray, List.set_cons_zero, List.set_cons_succ]
      refine walkO_call (o := _) (by rw [HOPS.out]; simp only [List.getElem?_toArray, List.getElem?_cons_succ, List.getElem?_cons_zero]; exact rfl) (fun K HK => ?_)
      refine step_call rfl 59 #[(.tmp 19)] #[45] rfl HE1.out #[.agg #[.int .i64 t.stage, .int .i64 t.limit, .int .i64 t.rd, .int .i64 t.wr, .slice ra t.s.length rc, .int .i64 t.r, .int .i64 t.w]] (by simp [Act.eval]) (HRN.out _ f0) ?_
      rintro e w6 ⟨xv, rfl, f6', hx6⟩
      have f6 : Fr [] wb w6 := f0.then0 f6'
      have hr6 := hx6.wr
      obtain ⟨xa, xc, rfl, _⟩ := id hr6
      clear hx6 f6'
      refine ⟨_, rfl, ?_⟩
      refine HK.out (fun w' => Fr [] wb w') _ _ (fun _ h => h) (f6) ?_
      clear HK K
      simp only [Act.put, List.setIfInBounds_toArray, List.set_cons_zero, List.set_cons_succ]
      refine walkO_call (o := _) (by rw [HOPS.out]; simp only [List.getElem?_toArray, List.getElem?_cons_succ, List.getElem?_cons_zero]; exact rfl) (fun K HK => ?_)
      refine step_call rfl 40 #[(.tmp 18), (.tmp 20)] #[32, 32] rfl HE2.out #[.agg #[.int .i64 (nextT t).kind, .int .i64 (nextT t).side, .int .i64 (nextT t).n, .slice ga (nextT t).data.length gc, .int .i64 (nextT t).err], .agg #[.int .i64 (nextT t).kind, .int .i64 (nextT t).side, .int .i64 (nextT t).n, .slice xa (nextT t).data.length xc, .int .i64 (nextT t).err]] (by simp [Act.eval]) (same_yes (HWR.out _ f6) hr6) ?_
      rintro e w7 ⟨rfl, f7'⟩
      have f7 : Fr [] wb w7 := f6.then0 f7'
      clear f7' hr6
      refine ⟨_, rfl, ?_⟩
      refine HK.out (fun w' => Fr [] wb w') _ _ (fun _ h => h) (f7) ?_
      clear HK K
      simp only [Act.put, List.setIfInBounds_toArray, List.set_cons_zero, List.set_cons_succ]
      refine walkO_take (o := _) (v := ?_) (by rw [HOPS.out]; simp only [List.getElem?_toArray, List.getElem?_cons_succ, List.getElem?_cons_zero]; exact rfl) (Or.inl ⟨rfl, ?_⟩) ?_
      rotate_left
      · (intro w hSw; have hSx := HFA.out _ hSw; (try dsimp only at hSx); clear hSw; go_simp) <;> (with_reducible rfl)
      simp only [Act.put, List.setIfInBounds_toArray, List.set_cons_zero, List.set_cons_succ]
      refine walkO_take (o := _) (v := ?_) (by rw [HOPS.out]; simp only [List.getElem?_toArray, List.getElem?_cons_succ, List.getElem?_cons_zero]; exact rfl) (Or.inl ⟨rfl, ?_⟩) ?_
      rotate_left
      · (intro w hSw; have hSx := HFA.out _ hSw; (try dsimp only at hSx); clear hSw; go_simp) <;> (with_reducible rfl)
      simp only [Act.put, List.setIfInBounds_toArray, List.set_cons_zero, List.set_cons_succ]
      refine walkO_take (o := _) (v := ?_) (by rw [HOPS.out]; simp only [List.getElem?_toArray, List.getElem?_cons_succ, List.getElem?_cons_zero]; exact rfl) (Or.inl ⟨by rw [HOPS.out]; rfl, ?_⟩) ?_
      rotate_left
      · (intro w hSw; have hSx := HFA.out _ hSw; (try dsimp only at hSx); clear hSw; go_simp) <;> (with_reducible rfl)
      simp only [Act.put, List.setIfInBounds_toArray, List.set_cons_zero, List.set_cons_succ]
      refine walkO_take (o := _) (v := ?_) (by rw [HOPS.out]; simp only [List.getElem?_toArray, List.getElem?_cons_succ, List.getElem?_cons_zero]; exact rfl) (Or.inl ⟨by rw [HOPS.out]; rfl, ?_⟩) ?_
      rotate_left
      · (intro w hSw; have hSx := HFA.out _ hSw; (try dsimp only at hSx); clear hSw; go_simp) <;> (with_reducible rfl)
      simp only [Act.put, List.setIfInBounds_toArray, List.set_cons_zero, List.set_cons_succ]
      refine walkO_take (o := _) (v := ?_) (by rw [HOPS.out]; simp only [List.getElem?_toArray, List.getElem?_cons_succ, List.getElem?_cons_zero]; exact rfl) (Or.inl ⟨by rw [HOPS.out]; rfl, ?_⟩) ?_
      rotate_left
      · (intro w hSw; have hSx := HFA.out _ hSw; (try dsimp only at hSx); clear hSw; go_simp) <;> (with_reducible rfl)
      simp only [Act.put, List.setIfInBounds_toArray, List.set_cons_zero, List.set_cons_succ]
      refine walkO_take (o := _) (v := ?_) (by rw [HOPS.out]; simp only [List.getElem?_toArray, List.getElem?_cons_succ, List.getElem?_cons_zero]; exact rfl) (Or.inl ⟨by rw [HOPS.out]; rfl, ?_⟩) ?_
      rotate_left
      · (intro w hSw; have hSx := HFA.out _ hSw; (try dsimp only at hSx); clear hSw; go_simp) <;> (with_reducible rfl)
      simp only [Act.put, List.setIfInBounds_toArray, List.set_cons_zero, List.set_cons_succ]
      refine walkO_take (o := _) (v := ?_) (by rw [HOPS.out]; simp only [List.getElem?_toArray, List.getElem?_cons_succ, List.getElem?_cons_zero]; exact rfl) (Or.inl ⟨by rw [HOPS.out]; rfl, ?_⟩) ?_
      rotate_left
      · (intro w hSw; have hSx := HFA.out _ hSw; (try dsimp only at hSx); clear hSw; go_simp) <;> (with_reducible rfl)
      simp only [Act.put, List.setIfInBounds_toArray, List.set_cons_zero, List.set_cons_succ]
      refine walkO_take (o := _) (v := ?_) (by rw [HOPS.out]; simp only [List.getElem?_toArray, List.getElem?_cons_succ, List.getElem?_cons_zero]; exact rfl) (Or.inl ⟨by rw [HOPS.out]; rfl, ?_⟩) ?_
      rotate_left
      · (intro w hSw; have hSx := HFA.out _ hSw; (try dsimp only at hSx); clear hSw; go_simp) <;> (with_reducible rfl)
      simp only [Act.put, List.setIfInBounds_toArray, List.set_cons_zero, List.set_cons_succ]
      refine walkO_take (o := _) (v := ?_) (by rw [HOPS.out]; simp only [List.getElem?_toArray, List.getElem?_cons_succ, List.getElem?_cons_zero]; exact rfl) (Or.inl ⟨rfl, ?_⟩) ?_
      rotate_left
      · (intro w hSw; have hSx := HFA.out _ hSw; (try dsimp only at hSx); clear hSw; go_simp) <;> (with_reducible rfl)
      simp only [Act.put, List.setIfInBounds_toArray, List.set_cons_zero, List.set_cons_succ]
      refine walkO_take (o := _) (v := ?_) (by rw [HOPS.out]; simp only [List.getElem?_toArray, List.getElem?_cons_succ, List.getElem?_cons_zero]; exact rfl) (Or.inl ⟨rfl, ?_⟩) ?_
      rotate_left
      · (intro w hSw; have hSx := HFA.out _ hSw; (try dsimp only at hSx); clear hSw; go_simp) <;> (with_reducible rfl)
      simp only [Act.put, List.setIfInBounds_toArray, List.set_cons_zero, List.set_cons_succ]
      refine walkO_take (o := _) (v := ?_) (by rw [HOPS.out]; simp only [List.getElem?_toArray, List.getElem?_cons_succ, List.getElem?_cons_zero]; exact rfl) (Or.inl ⟨by rw [HOPS.out]; rfl, ?_⟩) ?_
      rotate_left
      · (intro w hSw; have hSx := HFA.out _ hSw; (try dsimp only at hSx); clear hSw; go_simp) <;> (with_reducible rfl)
      simp only [Act.put, List.setIfInBounds_toArray, List.set_cons_zero, List.set_cons_succ]
      refine walkO_take (o := _) (v := ?_) (by rw [HOPS.out]; simp only [List.getElem?_toArray, List.getElem?_cons_succ, List.getElem?_cons_zero]; exact rfl) (Or.inl ⟨by rw [HOPS.out]; rfl, ?_⟩) ?_
      rotate_left
      · (intro w hSw; have hSx := HFA.out _ hSw; (try dsimp only at hSx); clear hSw; go_simp) <;> (with_reducible rfl)
      simp only [Act.put, List.setIfInBounds_toArray, List.set_cons_zero, List.set_cons_succ]
      refine walkO_take (o := _) (v := ?_) (by rw [HOPS.out]; simp only [List.getElem?_toArray, List.getElem?_cons_succ, List.getElem?_cons_zero]; exact rfl) (Or.inl ⟨by rw [HOPS.out]; rfl, ?_⟩) ?_
      rotate_left
      · (intro w hSw; have hSx := HFA.out _ hSw; (try dsimp only at hSx); clear hSw; go_simp) <;> (with_reducible rfl)
      simp only [Act.put, List.setIfInBounds_toArray, List.set_cons_zero, List.set_cons_succ]
      refine walkO_take (o := _) (v := ?_) (by rw [HOPS.out]; simp only [List.getElem?_toArray, List.getElem?_cons_succ, List.getElem?_cons_zero]; exact rfl) (Or.inl ⟨by rw [HOPS.out]; rfl, ?_⟩) ?_
      rotate_left
      · (intro w hSw; have hSx := HFA.out _ hSw; (try dsimp only at hSx); clear hSw; go_simp) <;> (with_reducible rfl)
      simp only [Act.put, List.setIfInBounds_toArray, List.set_cons_zero, List.set_cons_succ]
      refine walkO_take (o := _) (v := ?_) (by rw [HOPS.out]; simp only [List.getElem?_toArray, List.getElem?_cons_succ, List.getElem?_cons_zero]; exact rfl) (Or.inl ⟨by rw [HOPS.out]; rfl, ?_⟩) ?_
      rotate_left
      · (intro w hSw; have hSx := HFA.out _ hSw; (try dsimp only at hSx); clear hSw; go_simp) <;> (with_reducible rfl)
      simp only [Act.put, List.setIfInBounds_toArray, List.set_cons_zero, List.set_cons_succ]
      refine walkO_call (o := _) (by rw [HOPS.out]; simp only [List.getElem?_toArray, List.getElem?_cons_succ, List.getElem?_cons_zero]; exact rfl) (fun K HK => ?_)
      refine step_call (by rw [HOPS.out]; rfl) 20 #[(.tmp 32), (.tmp 34), (.tmp 36)] #[27, 3, 3] rfl HE3.out #[.pointer (some ⟨b, 0, none⟩), .int .i64 t.rd, .int .i64 t.wr] (by simp [Act.eval]) (HMV.out _ f7) ?_
      rintro e w8 ⟨rfl, f8'⟩
      have f8 : Fr [] wb w8 := f7.then0 f8'
      clear f8'
      refine ⟨_, rfl, ?_⟩
      refine HK.out (fun w' => Fr [] wb w') _ _ (fun _ h => h) (f8) ?_
      clear HK K
      simp only [Act.put, List.setIfInBounds_toArray, List.set_cons_zero, List.set_cons_succ]
      refine walkO_take (o := _) (v := ?_) (by rw [HOPS.out]; simp only [List.getElem?_toArray, List.getElem?_cons_succ, List.getElem?_cons_zero]; exact rfl) (Or.inl ⟨by rw [HOPS.out]; rfl, ?_⟩) ?_
      rotate_left
      · (intro w hSw; have hSx := HFA.out _ hSw; (try dsimp only at hSx); clear hSw; go_simp) <;> (with_reducible rfl)
      simp only [Act.put, List.setIfInBounds_toArray, List.set_cons_zero, List.set_cons_succ]
      refine walkO_take (o := _) (v := ?_) (by rw [HOPS.out]; simp only [List.getElem?_toArray, List.getElem?_cons_succ, List.getElem?_cons_zero]; exact rfl) (Or.inl ⟨rfl, ?_⟩) ?_
      rotate_left
      · (intro w hSw; have hSx := HFA.out _ hSw; (try dsimp only at hSx); clear hSw; go_simp) <;> (with_reducible rfl)
      simp only [Act.put, List.setIfInBounds_toArray, List.set_cons_zero, List.set_cons_succ]
      refine walkO_done ?_
      clear HOPS OPS
      have gD := gb.then0 f8
      have HOU8 := Lib.hid (HOU.out.keep f8 (by simp))
      have HOS8 := Lib.hid (HOS.out.keep f8 (by simp))
      have bx8 := f8.keep HBX.out (by simp)
      have q8 : RB w8 w.heap.size _ _ _ _ _ _ _ := f8.keep qb (by simp)
      have hbx8 := lt_of_heap bx8
      have hdl : ((nextT t).data.length : Int) ≤ 9223372036854775807 := by obtain ⟨_, _, _, h1, h2, _⟩ := HOU.out.formB; unfold maxLen at h2; omega
      have hsl : (t.s.length : Int) ≤ 9223372036854775807 := by obtain ⟨_, _, _, h1, h2, _⟩ := HOS.out.formB; unfold maxLen at h2; omega
      generalize (nextT t).data = d at *
      go_wp2_with fail
      go_loopw [8] (fun j wx => ∃ (q : Nat) (xs : List Int), q ≤ d.length ∧ j = .int .i64 q ∧ xs.length = d.length ∧ Ow wx wr.heap.size 5 (.slice ga d.length gc) (xs.map (Value.int .u8)) ∧ Fr (Value.ownBlock (.slice ga d.length gc)).toList w8 wx) (fun j _ => d.length - (intOf j).toNat)
      case atStart => exact ⟨0, bi d, by omega, rfl, bi_length _, HOU8.out, Fr.refl _ _⟩
      case round =>
        obtain ⟨q, xs, hq, rfl, hxsl, hox, fr⟩ := hrel
        rename World => wq
        have hbn : w3.heap.size ∉ (Value.ownBlock (.slice ga d.length gc)).toList := fun hm => by have := (HLT.out.1 _ (by simpa using hm)).2; have := HLT.out.2.2.2; omega
        have bq := fr.keep bx8 hbn
        have y3 := cell_of (i := 3) bq
        by_cases hlq : (q : Int) < d.length
        · obtain ⟨g, cap', hve, _, _, _, hgl, hcell, hfree⟩ := hox.row (by rw [List.length_map]; omega)
          have hkx : q < xs.length := by omega
          have hc := hcell q (by rw [List.length_map]; omega)
          rw [List.getElem?_map, List.getElem?_eq_getElem hkx] at hc
          have hf := hfree q
          simp only [Value.slice.injEq] at hve
          obtain ⟨rfl, hve2, rfl⟩ := hve
          clear hve2
          have hset := hox.set q (.int .u8 (IntKind.u8.wrap (xs[q] + 1)))
          rw [← List.map_set] at hset
          have hfr2 := fr.setCell (p := ⟨g, q, none⟩) (.inl (by show g ∈ [g]; simp)) (.int .u8 (IntKind.u8.wrap (xs[q] + 1)))
          simp only [Option.map_some] at hc
          generalize xs[q] = x at hc hset hfr2
          have HXL := Lib.hid hxsl
          have HST := Lib.hid (And.intro hset hfr2)
          clear hcell hfree hox fr hset hfr2 hxsl hkx
          go_wp2_with fail
          go_roundw
          case rel => exact ⟨q + 1, _, by omega, by go_num, by rw [List.length_set]; exact HXL.out, HST.out.1, HST.out.2⟩
          case measure => simp [intOf]; omega
        · go_wp2_with fail
          have HOS9 := Lib.hid (HOS8.out.keep fr (fun k hk hm => by have h1 := (HLT.out.2.1 k hk).1; have h2 := (HLT.out.1 k (by simpa using hm)).2; omega))
          have F9 := Lib.hid fr
          have q9 : RB wq w.heap.size _ _ _ _ _ _ _ := fr.keep q8 (fun hm => by have h1 := (HLT.out.1 _ (by simpa using hm)).1; have := lt_of_heap qr; omega)
          clear fr hox bq y3 bx8 q8
          obtain ⟨w9, hw9⟩ : ∃ W, W = wq := ⟨_, rfl⟩
          rw [← hw9] at HOS9 F9 q9 ⊢
          clear hw9
          go_loopw [9] (fun j wx => ∃ (q : Nat) (xs : List Int), q ≤ t.s.length ∧ j = .int .i64 q ∧ xs.length = t.s.length ∧ Ow wx wr.heap.size 5 (.slice sa t.s.length sc) (xs.map (Value.int .u8)) ∧ Fr (Value.ownBlock (.slice sa t.s.length sc)).toList w9 wx) (fun j _ => t.s.length - (intOf j).toNat)
          case atStart => exact ⟨0, bi t.s, by omega, rfl, bi_length _, HOS9.out, Fr.refl _ _⟩
          case round =>
            obtain ⟨q, xs, hq, rfl, hxsl, hox, fr⟩ := hrel
            rename World => wq
            by_cases hlq : (q : Int) < t.s.length
            · obtain ⟨g, cap', hve, _, _, _, hgl, hcell, hfree⟩ := hox.row (by rw [List.length_map]; omega)
              have hkx : q < xs.length := by omega
              have hc := hcell q (by rw [List.length_map]; omega)
              rw [List.getElem?_map, List.getElem?_eq_getElem hkx] at hc
              have hf := hfree q
              simp only [Value.slice.injEq] at hve
              obtain ⟨rfl, hve2, rfl⟩ := hve
              clear hve2
              have hset := hox.set q (.int .u8 (IntKind.u8.wrap (xs[q] + 1)))
              rw [← List.map_set] at hset
              have hfr2 := fr.setCell (p := ⟨g, q, none⟩) (.inl (by show g ∈ [g]; simp)) (.int .u8 (IntKind.u8.wrap (xs[q] + 1)))
              simp only [Option.map_some] at hc
              generalize xs[q] = x at hc hset hfr2
              have HXL := Lib.hid hxsl
              have HST := Lib.hid (And.intro hset hfr2)
              clear hcell hfree hox fr hset hfr2 hxsl hkx
              go_wp2_with fail
              go_roundw
              case rel => exact ⟨q + 1, _, by omega, by go_num, by rw [List.length_set]; exact HXL.out, HST.out.1, HST.out.2⟩
              case measure => simp [intOf]; omega
            · go_wp2_with fail
              have q10 : RB wq w.heap.size _ _ _ _ _ _ _ := fr.keep q9 (fun hm => by have h1 := (HLT.out.2.1 _ (by simpa using hm)).1; have := lt_of_heap qr; have := HLT.out.2.2.1; omega)
              have g9 := gD.trans F9.out (fun _ h => .inl h) (U := []) (fun x hx => .inr (by have h1 := (HLT.out.1 x (by simpa using hx)).1; have := g.size; omega))
              have g10 := g9.trans fr (fun _ h => .inl h) (U := []) (fun x hx => .inr (by have h1 := (HLT.out.2.1 x (by simpa using hx)).1; have := g.size; have := HLT.out.2.2.1; omega))
              clear hox fr q9 g9
              go_roundw
              case rel => exact ⟨k + 1, by omega, by go_num, g10, q10⟩
              case measure => simp [intOf]; omega
    · go_wp2_with fail
      go_ret
      exact ⟨rfl, g⟩
end Go.Proofs.Ytodpkdbcdbdjfaa
