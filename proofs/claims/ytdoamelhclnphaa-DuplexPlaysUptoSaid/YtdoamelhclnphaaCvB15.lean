/-
  Law 15: the state of a connection; the reference's Swap and End.
-/
import Derived.Test.YtdoamelhclnphaaGs
import Derived.Test.YtdoamelhclnphaaCv15
import Derived.Test.YtdoamelhclnphaaRefF
namespace Go.Proofs.Ytdoamelhclnphaa
open Go.RowKit
set_option maxRecDepth 100000

def swS (s : DM) : DM := ⟨s.m1, s.m0, s.x1, s.x0⟩
set_option maxHeartbeats 8000000 in
theorem dx_state {w : World} {F : Nat → Prop} {d b0 b1 : Nat} {F0 F1 : Nat → Prop} {s : DM} (h : DR w F d b0 b1 F0 F1 s) :
    Calls Try.prog 22 #[.pointer (some ⟨d, 0, none⟩)] w fun e w' => ∃ v, e = .returned v ∧ Fr [] w w' ∧ Cv w' (fun x => w.heap.size ≤ x) v s := by
  obtain ⟨w0, hw0, f0, q0⟩ : ∃ W, w.alloc (.cells #[.int .i64 0, .slice none 0 0, .bool false, .slice none 0 0, .int .i64 0, .int .i64 0, .int .i64 0, .int .i64 0, .slice none 0 0, .bool false, .slice none 0 0, .int .i64 0, .int .i64 0, .int .i64 0, .bool false, .bool false] 44) = W ∧ Fr [] w W ∧ W.heap[w.heap.size]? = some (.cells #[.int .i64 0, .slice none 0 0, .bool false, .slice none 0 0, .int .i64 0, .int .i64 0, .int .i64 0, .int .i64 0, .slice none 0 0, .bool false, .slice none 0 0, .int .i64 0, .int .i64 0, .int .i64 0, .bool false, .bool false] 44 (0, 0)) := ⟨_, rfl, (Fr.refl _ _).alloc _, newA rfl⟩
  have hb0 : DB w0 d b0 b1 s.x0 s.x1 := f0.keep h.b (by simp)
  have HCK := Lib.hid (dx_check_ok hb0 (k := 0) (by omega))
  have HC0 := Lib.hid fun w' (f : Fr [] w w') => (show Calls Try.prog 42 #[.pointer (some ⟨b0, 0, none⟩)] w' fun e w2 => ∃ v, e = .returned v ∧ Fr [] w' w2 ∧ SvO w2 w'.heap.size v s.m0 from by obtain ⟨N, L, h1, _⟩ := h.h0.keep0 f; exact st_state h1)
  have HC1 := Lib.hid fun w' (f : Fr [] w w') => (show Calls Try.prog 42 #[.pointer (some ⟨b1, 0, none⟩)] w' fun e w2 => ∃ v, e = .returned v ∧ Fr [] w' w2 ∧ SvO w2 w'.heap.size v s.m1 from by obtain ⟨N, L, h1, _⟩ := h.h1.keep0 f; exact st_state h1)
  have HF0 := Lib.hid f0
  have HQ := Lib.hid q0
  have hz := lt_of_heap q0
  have hdl := h.lt _ h.id_
  have HB := Lib.hid hb0
  clear h f0 q0 hb0
  have HES := Lib.hid (Go.Proofs.enters_of Try.func42 (by kernel_rfl) rfl)
  have HFA := Lib.hid fun (w' : World) (f : Fr [w.heap.size] w0 w') => (show w'.cell? ⟨d, 0, none⟩ = some (.pointer (some ⟨b0, 0, none⟩)) ∧ w'.cell? ⟨d, 1, none⟩ = some (.pointer (some ⟨b1, 0, none⟩)) ∧ w'.cell? ⟨d, 2, none⟩ = some (.bool s.x0) ∧ w'.cell? ⟨d, 3, none⟩ = some (.bool s.x1) from (let q := f.keep (show w0.heap[d]? = _ from HB.out) (by simp; omega); ⟨cell_of q, cell_of q, cell_of q, cell_of q⟩))
  go_enter Try.func22, Try.ntmps22
  go_wp2_with fail
  refine HCK.out.mono ?_
  rintro e w' ⟨rfl, rfl⟩
  clear hw0
  go_wp2_with fail
  have fd : Fr [] w0 w0.drew := (Fr.refl _ _).drew
  have fdw : Fr [w.heap.size] w0 w0.drew := fd.mono (by simp)
  refine wp_region_order [(0, true), (1, true), (2, true), (3, true), (4, true), (6, true), (7, true), (8, true), (9, true), (10, true), (13, true), (14, true), (15, true), (16, true), (5, false), (11, false), (12, true), (17, true), (18, false)] (fun w' => Fr [w.heap.size] w0 w') (by kernel_rfl) (by kernel_rfl) fdw ?_
  intro OPS HOPS
  have hops := HOPS.out
  try simp only [List.append_eq, List.cons_append, List.nil_append] at hops
  replace HOPS := Lib.hid hops
  clear hops
  refine walkO_take (o := _) (v := ?_) (by rw [HOPS.out]; simp only [gA, gB, gC]; exact rfl) (Or.inl ⟨rfl, ?_⟩) ?_
  rotate_left
  · (intro w hSw; have hSx := HFA.out _ hSw; (try dsimp only at hSx); clear hSw; go_simp) <;> (with_reducible rfl)
  simp only [Act.put, gD, gE, gF]
  refine walkO_take (o := _) (v := ?_) (by rw [HOPS.out]; simp only [gA, gB, gC]; exact rfl) (Or.inl ⟨rfl, ?_⟩) ?_
  rotate_left
  · (intro w hSw; have hSx := HFA.out _ hSw; (try dsimp only at hSx); clear hSw; go_simp) <;> (with_reducible rfl)
  simp only [Act.put, gD, gE, gF]
  refine walkO_take (o := _) (v := ?_) (by rw [HOPS.out]; simp only [gA, gB, gC]; exact rfl) (Or.inl ⟨rfl, ?_⟩) ?_
  rotate_left
  · (intro w hSw; have hSx := HFA.out _ hSw; (try dsimp only at hSx); clear hSw; go_simp) <;> (with_reducible rfl)
  simp only [Act.put, gD, gE, gF]
  refine walkO_take (o := _) (v := ?_) (by rw [HOPS.out]; simp only [gA, gB, gC]; exact rfl) (Or.inl ⟨rfl, ?_⟩) ?_
  rotate_left
  · (intro w hSw; have hSx := HFA.out _ hSw; (try dsimp only at hSx); clear hSw; go_simp) <;> (with_reducible rfl)
  simp only [Act.put, gD, gE, gF]
  refine walkO_take (o := _) (v := ?_) (by rw [HOPS.out]; simp only [gA, gB, gC]; exact rfl) (Or.inl ⟨rfl, ?_⟩) ?_
  rotate_left
  · (intro w hSw; have hSx := HFA.out _ hSw; (try dsimp only at hSx); clear hSw; go_simp) <;> (with_reducible rfl)
  simp only [Act.put, gD, gE, gF]
  refine walkO_take (o := _) (v := ?_) (by rw [HOPS.out]; simp only [gA, gB, gC]; exact rfl) (Or.inl ⟨rfl, ?_⟩) ?_
  rotate_left
  · (intro w hSw; have hSx := HFA.out _ hSw; (try dsimp only at hSx); clear hSw; go_simp) <;> (with_reducible rfl)
  simp only [Act.put, gD, gE, gF]
  refine walkO_take (o := _) (v := ?_) (by rw [HOPS.out]; simp only [gA, gB, gC]; exact rfl) (Or.inl ⟨rfl, ?_⟩) ?_
  rotate_left
  · (intro w hSw; have hSx := HFA.out _ hSw; (try dsimp only at hSx); clear hSw; go_simp) <;> (with_reducible rfl)
  simp only [Act.put, gD, gE, gF]
  refine walkO_take (o := _) (v := ?_) (by rw [HOPS.out]; simp only [gA, gB, gC]; exact rfl) (Or.inl ⟨rfl, ?_⟩) ?_
  rotate_left
  · (intro w hSw; have hSx := HFA.out _ hSw; (try dsimp only at hSx); clear hSw; go_simp) <;> (with_reducible rfl)
  simp only [Act.put, gD, gE, gF]
  refine walkO_take (o := _) (v := ?_) (by rw [HOPS.out]; simp only [gA, gB, gC]; exact rfl) (Or.inl ⟨rfl, ?_⟩) ?_
  rotate_left
  · (intro w hSw; have hSx := HFA.out _ hSw; (try dsimp only at hSx); clear hSw; go_simp) <;> (with_reducible rfl)
  simp only [Act.put, gD, gE, gF]
  refine walkO_take (o := _) (v := ?_) (by rw [HOPS.out]; simp only [gA, gB, gC]; exact rfl) (Or.inl ⟨rfl, ?_⟩) ?_
  rotate_left
  · (intro w hSw; have hSx := HFA.out _ hSw; (try dsimp only at hSx); clear hSw; go_simp) <;> (with_reducible rfl)
  simp only [Act.put, gD, gE, gF]
  refine walkO_take (o := _) (v := ?_) (by rw [HOPS.out]; simp only [gA, gB, gC]; exact rfl) (Or.inl ⟨rfl, ?_⟩) ?_
  rotate_left
  · (intro w hSw; have hSx := HFA.out _ hSw; (try dsimp only at hSx); clear hSw; go_simp) <;> (with_reducible rfl)
  simp only [Act.put, gD, gE, gF]
  refine walkO_take (o := _) (v := ?_) (by rw [HOPS.out]; simp only [gA, gB, gC]; exact rfl) (Or.inl ⟨rfl, ?_⟩) ?_
  rotate_left
  · (intro w hSw; have hSx := HFA.out _ hSw; (try dsimp only at hSx); clear hSw; go_simp) <;> (with_reducible rfl)
  simp only [Act.put, gD, gE, gF]
  refine walkO_take (o := _) (v := ?_) (by rw [HOPS.out]; simp only [gA, gB, gC]; exact rfl) (Or.inl ⟨rfl, ?_⟩) ?_
  rotate_left
  · (intro w hSw; have hSx := HFA.out _ hSw; (try dsimp only at hSx); clear hSw; go_simp) <;> (with_reducible rfl)
  simp only [Act.put, gD, gE, gF]
  refine walkO_take (o := _) (v := ?_) (by rw [HOPS.out]; simp only [gA, gB, gC]; exact rfl) (Or.inl ⟨rfl, ?_⟩) ?_
  rotate_left
  · (intro w hSw; have hSx := HFA.out _ hSw; (try dsimp only at hSx); clear hSw; go_simp) <;> (with_reducible rfl)
  simp only [Act.put, gD, gE, gF]
  refine walkO_call (o := _) (by rw [HOPS.out]; simp only [gA, gB, gC]; exact rfl) (fun K HK => ?_)
  refine step_call rfl 42 #[(.tmp 11)] #[23] rfl HES.out #[.pointer (some ⟨b0, 0, none⟩)] (by simp [Act.eval]) (HC0.out _ (HF0.out.then0 fd)) ?_
  rintro e w1 ⟨v0, rfl, f0, u0a, u0b, rfl, oa0, ob0⟩
  obtain ⟨a0, k0, rfl, _⟩ := oa0.formB
  obtain ⟨a1, k1, rfl, _⟩ := ob0.formB
  have g1 := (fd).then0 f0
  have gw1 : Fr [w.heap.size] w0 w1 := g1.mono (by simp)
  refine ⟨_, rfl, ?_⟩
  refine HK.out (fun w' => Fr [w.heap.size] w0 w') _ _ (fun _ h => h) (gw1) ?_
  clear HK K
  simp only [Act.put, gD, gE, gF]
  refine walkO_call (o := _) (by rw [HOPS.out]; simp only [gA, gB, gC]; exact rfl) (fun K HK => ?_)
  refine step_call rfl 42 #[(.tmp 17)] #[23] rfl HES.out #[.pointer (some ⟨b1, 0, none⟩)] (by simp [Act.eval]) (HC1.out _ (HF0.out.then0 g1)) ?_
  rintro e w2 ⟨v1, rfl, f1, u1a, u1b, rfl, oa1, ob1⟩
  obtain ⟨a2, k2, rfl, _⟩ := oa1.formB
  obtain ⟨a3, k3, rfl, _⟩ := ob1.formB
  have g2 := (g1).then0 f1
  have gw2 : Fr [w.heap.size] w0 w2 := g2.mono (by simp)
  refine ⟨_, rfl, ?_⟩
  refine HK.out (fun w' => Fr [w.heap.size] w0 w') _ _ (fun _ h => h) (gw2) ?_
  clear HK K
  simp only [Act.put, gD, gE, gF]
  refine walkO_take (o := _) (v := ?_) (by rw [HOPS.out]; simp only [gA, gB, gC]; exact rfl) (Or.inl ⟨rfl, ?_⟩) ?_
  rotate_left
  · (intro w hSw; have hSx := HFA.out _ hSw; (try dsimp only at hSx); clear hSw; go_simp) <;> (with_reducible rfl)
  simp only [Act.put, gD, gE, gF]
  refine walkO_take (o := _) (v := ?_) (by rw [HOPS.out]; simp only [gA, gB, gC]; exact rfl) (Or.inl ⟨rfl, ?_⟩) ?_
  rotate_left
  · (intro w hSw; have hSx := HFA.out _ hSw; (try dsimp only at hSx); clear hSw; go_simp) <;> (with_reducible rfl)
  simp only [Act.put, gD, gE, gF]
  refine walkO_call (o := _) (by rw [HOPS.out]; simp only [gA, gB, gC]; exact rfl) (fun K HK => ?_)
  refine step_store7 rfl 44 (.tmp 2) (.tmp 24) rfl w.heap.size #[.int .i64 s.m0.c, .slice a0 s.m0.q.length k0, .bool s.m0.busy, .slice a1 s.m0.rest.length k1, .int .i64 s.m0.acc, .int .i64 s.m0.w, .int .i64 s.m0.r, .int .i64 s.m1.c, .slice a2 s.m1.q.length k2, .bool s.m1.busy, .slice a3 s.m1.rest.length k3, .int .i64 s.m1.acc, .int .i64 s.m1.w, .int .i64 s.m1.r, .bool s.x0, .bool s.x1] (by simp [Act.eval]) (by simp [Act.eval]) _ _ (show w2.heap[w.heap.size]? = _ from g2.keep HQ.out (by simp)) (by kernel_rfl) rfl (by simp [Value.oneCell']) ?_
  intro wf ff qf
  refine HK.out (fun w' => Fr [w.heap.size] w0 w') _ _ (fun _ h => h) (gw2.then ff) ?_
  clear HK K
  try simp only [Act.put, gD, gE, gF]
  refine walkO_done ?_
  clear HOPS OPS
  have HFF := Lib.hid (show Fr [] w wf from ((HF0.out.then0 g2)).trans ff (by simp) (fun x hx => .inr (by simp at hx; omega)))
  have hz1 : w0.heap.size ≤ w1.heap.size := g1.size
  have hz0 : w0.drew.heap.size = w0.heap.size := rfl
  have HP := Lib.hid (And.intro (And.intro ((oa0.keep f1 (by simp)).keep ff (fun k e hm => by have := (oa0.lt k e).1; simp at hm; omega)) ((ob0.keep f1 (by simp)).keep ff (fun k e hm => by have := (ob0.lt k e).1; simp at hm; omega))) (And.intro (oa1.keep ff (fun k e hm => by have := (oa1.lt k e).1; simp at hm; omega)) (ob1.keep ff (fun k e hm => by have := (ob1.lt k e).1; simp at hm; omega))))
  have z0 : wf.cell? ⟨w.heap.size, 0, none⟩ = some (.int .i64 s.m0.c) := cell_of qf
  have z1 : wf.cell? ⟨w.heap.size, 1, none⟩ = some (.slice a0 s.m0.q.length k0) := cell_of qf
  have z2 : wf.cell? ⟨w.heap.size, 2, none⟩ = some (.bool s.m0.busy) := cell_of qf
  have z3 : wf.cell? ⟨w.heap.size, 3, none⟩ = some (.slice a1 s.m0.rest.length k1) := cell_of qf
  have z4 : wf.cell? ⟨w.heap.size, 4, none⟩ = some (.int .i64 s.m0.acc) := cell_of qf
  have z5 : wf.cell? ⟨w.heap.size, 5, none⟩ = some (.int .i64 s.m0.w) := cell_of qf
  have z6 : wf.cell? ⟨w.heap.size, 6, none⟩ = some (.int .i64 s.m0.r) := cell_of qf
  have z7 : wf.cell? ⟨w.heap.size, 7, none⟩ = some (.int .i64 s.m1.c) := cell_of qf
  have z8 : wf.cell? ⟨w.heap.size, 8, none⟩ = some (.slice a2 s.m1.q.length k2) := cell_of qf
  have z9 : wf.cell? ⟨w.heap.size, 9, none⟩ = some (.bool s.m1.busy) := cell_of qf
  have z10 : wf.cell? ⟨w.heap.size, 10, none⟩ = some (.slice a3 s.m1.rest.length k3) := cell_of qf
  have z11 : wf.cell? ⟨w.heap.size, 11, none⟩ = some (.int .i64 s.m1.acc) := cell_of qf
  have z12 : wf.cell? ⟨w.heap.size, 12, none⟩ = some (.int .i64 s.m1.w) := cell_of qf
  have z13 : wf.cell? ⟨w.heap.size, 13, none⟩ = some (.int .i64 s.m1.r) := cell_of qf
  have z14 : wf.cell? ⟨w.heap.size, 14, none⟩ = some (.bool s.x0) := cell_of qf
  have z15 : wf.cell? ⟨w.heap.size, 15, none⟩ = some (.bool s.x1) := cell_of qf
  clear oa0 ob0 oa1 ob1 f0 f1 g1 g2 gw1 gw2 ff qf fd fdw
  go_wp2_with fail
  refine bodyPost_ret (v := .agg #[.int .i64 s.m0.c, .slice a0 s.m0.q.length k0, .bool s.m0.busy, .slice a1 s.m0.rest.length k1, .int .i64 s.m0.acc, .int .i64 s.m0.w, .int .i64 s.m0.r, .int .i64 s.m1.c, .slice a2 s.m1.q.length k2, .bool s.m1.busy, .slice a3 s.m1.rest.length k3, .int .i64 s.m1.acc, .int .i64 s.m1.w, .int .i64 s.m1.r, .bool s.x0, .bool s.x1]) (by simp [results, Try.results22, go_sem, z0, z1, z2, z3, z4, z5, z6, z7, z8, z9, z10, z11, z12, z13, z14, z15]) rfl ?_
  exact ⟨_, rfl, HFF.out, _, _, _, _, rfl, (PartV.ofOw HP.out.1.1).mono (fun x hx => by omega), (PartV.ofOw HP.out.1.2).mono (fun x hx => by omega), (PartV.ofOw HP.out.2.1).mono (fun x hx => by omega), (PartV.ofOw HP.out.2.2).mono (fun x hx => by omega)⟩
theorem r15_end (w : World) (k : Int) : Calls Try.prog 50 #[.int .i64 k] w fun e w' => e = .returned (.bool (decide (k = 0 ∨ k = 1))) ∧ w = w' := by
  by_cases h0 : k = 0
  · subst h0
    go_enter Try.func50, Try.ntmps50
    go_wp2_with fail
    go_ret
    exact ⟨rfl, rfl⟩
  · have g0 : (k == 0) = false := by simpa using h0
    by_cases h1 : k = 1
    · subst h1
      go_enter Try.func50, Try.ntmps50
      go_wp2_with fail
      go_ret
      exact ⟨rfl, rfl⟩
    · have g1 : (k == 1) = false := by simpa using h1
      go_enter Try.func50, Try.ntmps50
      go_wp2_with fail
      go_ret
      exact ⟨by simp [h0, h1], rfl⟩
end Go.Proofs.Ytdoamelhclnphaa
