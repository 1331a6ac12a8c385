/-
  Law 14: StreamRestores: which states are valid, a stream with any state, or the error.
-/
import Derived.Test.YtdoamelhclnphaaStInv14
import Derived.Test.YtdoamelhclnphaaValC
import Derived.Test.YtdoamelhclnphaaKnown14
import Derived.Deep.DeepCutAuto
import Derived.Deep.CutBlock
namespace Go.Proofs.Ytdoamelhclnphaa
open Go.RowKit
set_option maxRecDepth 100000

set_option maxHeartbeats 40000000 in
theorem streamRestores_main {a : Option Addr} {len cap : Nat} {A : List A14} {w : World} {N : Nat → Prop} {v : Value} {m0 : SM} (h : Sv w N v m0) (hN : ∀ x, N x → x < w.heap.size) (h5 : m0.q.length + m0.rest.length ≤ 5000) (hA : Acts14 w w.heap.size a len cap A) (hs : fewB14 A = true) (hval : validM m0 = true) :
    Calls Try.prog 7 #[v, .slice a len cap] w fun e w' => e = .returned (.bool true) ∧ Fr [] w w' := by
  have hle := hA.len_eq
  subst hle
  obtain ⟨u1, u2, rfl, hq, hr⟩ := h
  obtain ⟨a3, k3, rfl, _⟩ := id hq
  obtain ⟨a4, k4, rfl, _⟩ := id hr
  have HQ := Lib.hid (And.intro hq hr)
  clear hq hr
  obtain ⟨w0, hw0, f0, q0⟩ : ∃ W, w.alloc (.cells #[.int .i64 m0.c, .slice a3 m0.q.length k3, .bool m0.busy, .slice a4 m0.rest.length k4, .int .i64 m0.acc, .int .i64 m0.w, .int .i64 m0.r] 41) = W ∧ Fr [] w W ∧ S7 W w.heap.size m0.c a3 m0.q.length k3 m0.busy a4 m0.rest.length k4 m0.acc m0.w m0.r := ⟨_, rfl, (Fr.refl _ _).alloc _, newA rfl⟩
  have hz0 := lt_of_heap q0
  have x0 : w0.cell? ⟨w.heap.size, 0, none⟩ = some (.int .i64 m0.c) := cell_of (q0)
  have x1 : w0.cell? ⟨w.heap.size, 1, none⟩ = some (.slice a3 m0.q.length k3) := cell_of (q0)
  have x2 : w0.cell? ⟨w.heap.size, 2, none⟩ = some (.bool m0.busy) := cell_of (q0)
  have x3 : w0.cell? ⟨w.heap.size, 3, none⟩ = some (.slice a4 m0.rest.length k4) := cell_of (q0)
  have x4 : w0.cell? ⟨w.heap.size, 4, none⟩ = some (.int .i64 m0.acc) := cell_of (q0)
  have x5 : w0.cell? ⟨w.heap.size, 5, none⟩ = some (.int .i64 m0.w) := cell_of (q0)
  have x6 : w0.cell? ⟨w.heap.size, 6, none⟩ = some (.int .i64 m0.r) := cell_of (q0)
  have HF0 := Lib.hid f0
  have HQ0 := Lib.hid q0
  have HFW := Lib.hid (few14 ((hA.keep f0 (Nat.le_refl _) (by simp)).mono (Nat.le_of_lt hz0) (fun h => h.mono (Nat.le_of_lt hz0))))
  rw [hs] at HFW
  have hq5 : (m0.q.length : Int) + m0.rest.length ≤ 5000 := by omega
  have hwr : IntKind.i64.wrap ((m0.q.length : Int) + (m0.rest.length : Int)) = m0.q.length + m0.rest.length := IntWalk.i64_in _ (by omega)
  obtain ⟨hl20, hok, hsum⟩ := fewB14_iff hs
  have HOK : Hid (∀ x ∈ A, x.ps.length ≤ 100 ∧ tot x.ps ≤ 3000) := Lib.hid (fun x hx => hok x hx)
  have hl20' : (A.length : Int) ≤ 20 := by omega
  have HA := Lib.hid hA
  have hN0 := Lib.hid hN
  clear hs hok hsum hl20 hA hN f0 q0
  go_enter Try.func7, Try.ntmps7
  go_wp2_with fail
  refine HFW.out.mono ?_
  rintro e w' ⟨rfl, rfl⟩
  clear HFW
  go_wp2_with fail
  refine (r_copy (w := w0) (N := N) (v := .agg #[.int .i64 m0.c, .slice a3 m0.q.length k3, .bool m0.busy, .slice a4 m0.rest.length k4, .int .i64 m0.acc, .int .i64 m0.w, .int .i64 m0.r]) (m := m0) ⟨_, _, rfl, HQ.out.1.keep HF0.out (by simp), HQ.out.2.keep HF0.out (by simp)⟩ ⟨by omega, by omega⟩).mono ?_
  rintro e w1 ⟨v1, rfl, f1, u1, u2, rfl, ow1, ow2, hdis⟩
  obtain ⟨c3, j3, rfl, _⟩ := ow1.formB
  obtain ⟨c4, j4, rfl, _⟩ := ow2.formB
  obtain ⟨w2, hw2, f2, q2⟩ : ∃ W, w1.alloc (.cells #[.int .i64 m0.c, .slice c3 m0.q.length j3, .bool m0.busy, .slice c4 m0.rest.length j4, .int .i64 m0.acc, .int .i64 m0.w, .int .i64 m0.r] 41) = W ∧ Fr [] w1 W ∧ S7 W w1.heap.size m0.c c3 m0.q.length j3 m0.busy c4 m0.rest.length j4 m0.acc m0.w m0.r := ⟨_, rfl, (Fr.refl _ _).alloc _, newA rfl⟩
  have hz1 := f1.size
  have hz2 := lt_of_heap q2
  have HO1 := Lib.hid (ow1.keep f2 (by simp))
  have HO2 := Lib.hid (ow2.keep f2 (by simp))
  have HDIS := Lib.hid hdis
  have HB1 := Lib.hid fun g e => (ow1.lt g e).2
  have HB2 := Lib.hid fun g e => (ow2.lt g e).2
  have HF2 := Lib.hid ((HF0.out.then0 f1).then0 f2)
  have HQ2 := Lib.hid (show S7 w2 w.heap.size m0.c a3 m0.q.length k3 m0.busy a4 m0.rest.length k4 m0.acc m0.w m0.r from f2.keep (f1.keep HQ0.out (by simp)) (by simp))
  have HN2 := Lib.hid q2
  have HRS := Lib.hid (st_restore (w := w2) (N := fun x => w0.heap.size ≤ x) (v := .agg #[.int .i64 m0.c, .slice c3 m0.q.length j3, .bool m0.busy, .slice c4 m0.rest.length j4, .int .i64 m0.acc, .int .i64 m0.w, .int .i64 m0.r]) (m := m0) ⟨_, _, rfl, PartV.ofOw HO1.out, PartV.ofOw HO2.out⟩ hval)
  clear x0 x1 x2 x3 x4 x5 x6 HQ0 f1 f2 q2 ow1 ow2 hdis hw0
  have x0 : w2.cell? ⟨w.heap.size, 0, none⟩ = some (.int .i64 m0.c) := cell_of (HQ2.out)
  have x1 : w2.cell? ⟨w.heap.size, 1, none⟩ = some (.slice a3 m0.q.length k3) := cell_of (HQ2.out)
  have x2 : w2.cell? ⟨w.heap.size, 2, none⟩ = some (.bool m0.busy) := cell_of (HQ2.out)
  have x3 : w2.cell? ⟨w.heap.size, 3, none⟩ = some (.slice a4 m0.rest.length k4) := cell_of (HQ2.out)
  have x4 : w2.cell? ⟨w.heap.size, 4, none⟩ = some (.int .i64 m0.acc) := cell_of (HQ2.out)
  have x5 : w2.cell? ⟨w.heap.size, 5, none⟩ = some (.int .i64 m0.w) := cell_of (HQ2.out)
  have x6 : w2.cell? ⟨w.heap.size, 6, none⟩ = some (.int .i64 m0.r) := cell_of (HQ2.out)
  have o0 : w2.cell? ⟨w1.heap.size, 0, none⟩ = some (.int .i64 m0.c) := cell_of (HN2.out)
  have o1 : w2.cell? ⟨w1.heap.size, 1, none⟩ = some (.slice c3 m0.q.length j3) := cell_of (HN2.out)
  have o2 : w2.cell? ⟨w1.heap.size, 2, none⟩ = some (.bool m0.busy) := cell_of (HN2.out)
  have o3 : w2.cell? ⟨w1.heap.size, 3, none⟩ = some (.slice c4 m0.rest.length j4) := cell_of (HN2.out)
  have o4 : w2.cell? ⟨w1.heap.size, 4, none⟩ = some (.int .i64 m0.acc) := cell_of (HN2.out)
  have o5 : w2.cell? ⟨w1.heap.size, 5, none⟩ = some (.int .i64 m0.w) := cell_of (HN2.out)
  have o6 : w2.cell? ⟨w1.heap.size, 6, none⟩ = some (.int .i64 m0.r) := cell_of (HN2.out)
  go_wp2_with fail
  refine HRS.out.mono ?_
  rintro e w3 ⟨b, L, N', rfl, f3, hb, hL, hN', h3⟩
  have HSF := Lib.hid (SF.of h3)
  have HBL := Lib.hid (And.intro hb (And.intro hL hN'))
  clear h3 hb hL hN'
  have HF3 := Lib.hid (HF2.out.then0 f3)
  have HF23 := Lib.hid f3
  have HQ3 := Lib.hid (show S7 w3 w.heap.size m0.c a3 m0.q.length k3 m0.busy a4 m0.rest.length k4 m0.acc m0.w m0.r from f3.keep HQ2.out (by simp))
  have HN3 := Lib.hid (show S7 w3 w1.heap.size m0.c c3 m0.q.length j3 m0.busy c4 m0.rest.length j4 m0.acc m0.w m0.r from f3.keep HN2.out (by simp))
  have hv1 := fun w' (f : Fr [] w3 w') => st_valid (w := w') (N := fun x => w0.heap.size ≤ x) (v := .agg #[.int .i64 m0.c, .slice c3 m0.q.length j3, .bool m0.busy, .slice c4 m0.rest.length j4, .int .i64 m0.acc, .int .i64 m0.w, .int .i64 m0.r]) (m := m0) ⟨_, _, rfl, (PartV.ofOw HO1.out).keep (HF23.out.then0 f) (by simp), (PartV.ofOw HO2.out).keep (HF23.out.then0 f) (by simp)⟩ ⟨by omega, by omega⟩
  have hv2 := fun w' (f : Fr [] w3 w') => r_valid (w := w') (N := N) (v := .agg #[.int .i64 m0.c, .slice a3 m0.q.length k3, .bool m0.busy, .slice a4 m0.rest.length k4, .int .i64 m0.acc, .int .i64 m0.w, .int .i64 m0.r]) (m := m0) ⟨_, _, rfl, HQ.out.1.keep (HF3.out.then0 f) (by simp), HQ.out.2.keep (HF3.out.then0 f) (by simp)⟩ ⟨by omega, by omega⟩
  rw [hval] at hv1 hv2
  have HV1 := Lib.hid hv1
  have HV2 := Lib.hid hv2
  have HV3 := Lib.hid fun w' (f : Fr [] w3 w') => same14 (show Sv w' (fun x => w0.heap.size ≤ x) (.agg #[.int .i64 m0.c, .slice c3 m0.q.length j3, .bool m0.busy, .slice c4 m0.rest.length j4, .int .i64 m0.acc, .int .i64 m0.w, .int .i64 m0.r]) m0 from ⟨_, _, rfl, (PartV.ofOw HO1.out).keep (HF23.out.then0 f) (by simp), (PartV.ofOw HO2.out).keep (HF23.out.then0 f) (by simp)⟩) (show Sv w' N (.agg #[.int .i64 m0.c, .slice a3 m0.q.length k3, .bool m0.busy, .slice a4 m0.rest.length k4, .int .i64 m0.acc, .int .i64 m0.w, .int .i64 m0.r]) m0 from ⟨_, _, rfl, HQ.out.1.keep (HF3.out.then0 f) (by simp), HQ.out.2.keep (HF3.out.then0 f) (by simp)⟩)
  clear hv1 hv2 f3 HRS HN2 HQ2 x0 x1 x2 x3 x4 x5 x6 o0 o1 o2 o3 o4 o5 o6
  have HEV := Lib.hid (Go.Proofs.enters_of Try.func46 (by kernel_rfl) rfl)
  have HER := Lib.hid (Go.Proofs.enters_of Try.func47 (by kernel_rfl) rfl)
  have HES := Lib.hid (Go.Proofs.enters_of Try.func41 (by kernel_rfl) rfl)
  have HFA := Lib.hid fun (w' : World) (f : Fr [] w3 w') => (show w'.cell? ⟨w.heap.size, 0, none⟩ = some (.int .i64 m0.c) ∧ w'.cell? ⟨w.heap.size, 1, none⟩ = some (.slice a3 m0.q.length k3) ∧ w'.cell? ⟨w.heap.size, 2, none⟩ = some (.bool m0.busy) ∧ w'.cell? ⟨w.heap.size, 3, none⟩ = some (.slice a4 m0.rest.length k4) ∧ w'.cell? ⟨w.heap.size, 4, none⟩ = some (.int .i64 m0.acc) ∧ w'.cell? ⟨w.heap.size, 5, none⟩ = some (.int .i64 m0.w) ∧ w'.cell? ⟨w.heap.size, 6, none⟩ = some (.int .i64 m0.r) ∧ w'.cell? ⟨w1.heap.size, 0, none⟩ = some (.int .i64 m0.c) ∧ w'.cell? ⟨w1.heap.size, 1, none⟩ = some (.slice c3 m0.q.length j3) ∧ w'.cell? ⟨w1.heap.size, 2, none⟩ = some (.bool m0.busy) ∧ w'.cell? ⟨w1.heap.size, 3, none⟩ = some (.slice c4 m0.rest.length j4) ∧ w'.cell? ⟨w1.heap.size, 4, none⟩ = some (.int .i64 m0.acc) ∧ w'.cell? ⟨w1.heap.size, 5, none⟩ = some (.int .i64 m0.w) ∧ w'.cell? ⟨w1.heap.size, 6, none⟩ = some (.int .i64 m0.r) from (let q := S7.cells (f.keep HQ3.out (by simp)); let p := S7.cells (f.keep HN3.out (by simp)); ⟨q.1, q.2.1, q.2.2.1, q.2.2.2.1, q.2.2.2.2.1, q.2.2.2.2.2.1, q.2.2.2.2.2.2.1, p.1, p.2.1, p.2.2.1, p.2.2.2.1, p.2.2.2.2.1, p.2.2.2.2.2.1, p.2.2.2.2.2.2.1⟩))
  have HQK := Lib.hid hq5
  have HVL := Lib.hid hval
  clear hq5 hval
  go_wp2_with fail
  have fd : Fr [] w3 w3.drew := (Fr.refl _ _).drew
  refine wp_region_order [(0, true), (2, true), (1, false), (3, false), (4, true), (5, true), (6, true), (7, true), (8, false), (9, true), (10, true)] (fun w' => Fr [] w3 w') (by kernel_rfl) (by kernel_rfl) fd ?_
  intro OPS HOPS
  have hops := HOPS.out
  try simp only [List.append_eq, List.cons_append, List.nil_append] at hops
  replace HOPS := Lib.hid hops
  clear hops
  refine walkO_take (o := _) (v := ?_) (by rw [HOPS.out]; simp only [List.getElem?_toArray, List.getElem?_cons_succ, List.getElem?_cons_zero]; exact rfl) (Or.inl ⟨rfl, ?_⟩) ?_
  rotate_left
  · (intro w hSw; have hSx := HFA.out _ hSw; (try dsimp only at hSx); clear hSw; go_simp) <;> (with_reducible rfl)
  simp only [Act.put, List.setIfInBounds_toArray, List.set_cons_zero, List.set_cons_succ]
  refine walkO_take (o := _) (v := ?_) (by rw [HOPS.out]; simp only [List.getElem?_toArray, List.getElem?_cons_succ, List.getElem?_cons_zero]; exact rfl) (Or.inl ⟨rfl, ?_⟩) ?_
  rotate_left
  · (intro w hSw; have hSx := HFA.out _ hSw; (try dsimp only at hSx); clear hSw; go_simp) <;> (with_reducible rfl)
  simp only [Act.put, List.setIfInBounds_toArray, List.set_cons_zero, List.set_cons_succ]
  refine walkO_call (o := _) (by rw [HOPS.out]; simp only [List.getElem?_toArray, List.getElem?_cons_succ, List.getElem?_cons_zero]; exact rfl) (fun K HK => ?_)
  refine step_call rfl 46 #[(.tmp 35)] #[41] rfl HEV.out #[.agg #[.int .i64 m0.c, .slice c3 m0.q.length j3, .bool m0.busy, .slice c4 m0.rest.length j4, .int .i64 m0.acc, .int .i64 m0.w, .int .i64 m0.r]] (by simp [Act.eval]) (HV1.out _ fd) ?_
  rintro e v1 ⟨rfl, e1⟩
  have e1' := fd.then0 e1
  refine ⟨_, rfl, ?_⟩
  refine HK.out (fun w' => Fr [] w3 w') _ _ (fun _ h => h) (e1') ?_
  clear HK K
  simp only [Act.put, List.setIfInBounds_toArray, List.set_cons_zero, List.set_cons_succ]
  refine walkO_call (o := _) (by rw [HOPS.out]; simp only [List.getElem?_toArray, List.getElem?_cons_succ, List.getElem?_cons_zero]; exact rfl) (fun K HK => ?_)
  refine step_call rfl 47 #[(.tmp 37)] #[41] rfl HER.out #[.agg #[.int .i64 m0.c, .slice a3 m0.q.length k3, .bool m0.busy, .slice a4 m0.rest.length k4, .int .i64 m0.acc, .int .i64 m0.w, .int .i64 m0.r]] (by simp [Act.eval]) (HV2.out _ e1') ?_
  rintro e v2 ⟨rfl, e2⟩
  have e2' := e1'.then0 e2
  refine ⟨_, rfl, ?_⟩
  refine HK.out (fun w' => Fr [] w3 w') _ _ (fun _ h => h) (e2') ?_
  clear HK K
  simp only [Act.put, List.setIfInBounds_toArray, List.set_cons_zero, List.set_cons_succ]
  refine walkO_take (o := _) (v := ?_) (by rw [HOPS.out]; simp only [List.getElem?_toArray, List.getElem?_cons_succ, List.getElem?_cons_zero]; exact rfl) (Or.inl ⟨rfl, ?_⟩) ?_
  rotate_left
  · (intro w hSw; have hSx := HFA.out _ hSw; (try dsimp only at hSx); clear hSw; go_simp) <;> (with_reducible rfl)
  simp only [Act.put, List.setIfInBounds_toArray, List.set_cons_zero, List.set_cons_succ]
  refine walkO_take (o := _) (v := ?_) (by rw [HOPS.out]; simp only [List.getElem?_toArray, List.getElem?_cons_succ, List.getElem?_cons_zero]; exact rfl) (Or.inl ⟨rfl, ?_⟩) ?_
  rotate_left
  · (intro w hSw; have hSx := HFA.out _ hSw; (try dsimp only at hSx); clear hSw; go_simp) <;> (with_reducible rfl)
  simp only [Act.put, List.setIfInBounds_toArray, List.set_cons_zero, List.set_cons_succ]
  refine walkO_take (o := _) (v := ?_) (by rw [HOPS.out]; simp only [List.getElem?_toArray, List.getElem?_cons_succ, List.getElem?_cons_zero]; exact rfl) (Or.inl ⟨by rw [HOPS.out]; rfl, ?_⟩) ?_
  rotate_left
  · (intro w hSw; have hSx := HFA.out _ hSw; (try dsimp only at hSx); clear hSw; go_simp) <;> (with_reducible rfl)
  simp only [Act.put, List.setIfInBounds_toArray, List.set_cons_zero, List.set_cons_succ]
  refine walkO_take (o := _) (v := ?_) (by rw [HOPS.out]; simp only [List.getElem?_toArray, List.getElem?_cons_succ, List.getElem?_cons_zero]; exact rfl) (Or.inl ⟨by rw [HOPS.out]; rfl, ?_⟩) ?_
  rotate_left
  · (intro w hSw; have hSx := HFA.out _ hSw; (try dsimp only at hSx); clear hSw; go_simp) <;> (with_reducible rfl)
  simp only [Act.put, List.setIfInBounds_toArray, List.set_cons_zero, List.set_cons_succ]
  refine walkO_call (o := _) (by rw [HOPS.out]; simp only [List.getElem?_toArray, List.getElem?_cons_succ, List.getElem?_cons_zero]; exact rfl) (fun K HK => ?_)
  refine step_call (by rw [HOPS.out]; rfl) 41 #[(.tmp 41), (.tmp 42)] #[41, 41] rfl HES.out #[.agg #[.int .i64 m0.c, .slice c3 m0.q.length j3, .bool m0.busy, .slice c4 m0.rest.length j4, .int .i64 m0.acc, .int .i64 m0.w, .int .i64 m0.r], .agg #[.int .i64 m0.c, .slice a3 m0.q.length k3, .bool m0.busy, .slice a4 m0.rest.length k4, .int .i64 m0.acc, .int .i64 m0.w, .int .i64 m0.r]] (by simp [Act.eval]) (HV3.out _ e2') ?_
  rintro e v3 ⟨rfl, e3⟩
  have e3' := e2'.then0 e3
  refine ⟨_, rfl, ?_⟩
  refine HK.out (fun w' => Fr [] w3 w') _ _ (fun _ h => h) (e3') ?_
  clear HK K
  simp only [Act.put, List.setIfInBounds_toArray, List.set_cons_zero, List.set_cons_succ]
  refine walkO_take (o := _) (v := ?_) (by rw [HOPS.out]; simp only [List.getElem?_toArray, List.getElem?_cons_succ, List.getElem?_cons_zero]; exact rfl) (Or.inl ⟨by rw [HOPS.out]; rfl, ?_⟩) ?_
  rotate_left
  · (intro w hSw; have hSx := HFA.out _ hSw; (try dsimp only at hSx); clear hSw; go_simp) <;> (with_reducible rfl)
  simp only [Act.put, List.setIfInBounds_toArray, List.set_cons_zero, List.set_cons_succ]
  refine walkO_take (o := _) (v := ?_) (by rw [HOPS.out]; simp only [List.getElem?_toArray, List.getElem?_cons_succ, List.getElem?_cons_zero]; exact rfl) (Or.inl ⟨rfl, ?_⟩) ?_
  rotate_left
  · (intro w hSw; have hSx := HFA.out _ hSw; (try dsimp only at hSx); clear hSw; go_simp) <;> (with_reducible rfl)
  simp only [Act.put, List.setIfInBounds_toArray, List.set_cons_zero, List.set_cons_succ]
  refine walkO_done ?_
  clear HOPS OPS
  have HE3 := Lib.hid e3'
  have x0 : v3.cell? ⟨w.heap.size, 0, none⟩ = some (.int .i64 m0.c) := cell_of ((e3'.keep HQ3.out (by simp)))
  have x1 : v3.cell? ⟨w.heap.size, 1, none⟩ = some (.slice a3 m0.q.length k3) := cell_of ((e3'.keep HQ3.out (by simp)))
  have x2 : v3.cell? ⟨w.heap.size, 2, none⟩ = some (.bool m0.busy) := cell_of ((e3'.keep HQ3.out (by simp)))
  have x3 : v3.cell? ⟨w.heap.size, 3, none⟩ = some (.slice a4 m0.rest.length k4) := cell_of ((e3'.keep HQ3.out (by simp)))
  have x4 : v3.cell? ⟨w.heap.size, 4, none⟩ = some (.int .i64 m0.acc) := cell_of ((e3'.keep HQ3.out (by simp)))
  have x5 : v3.cell? ⟨w.heap.size, 5, none⟩ = some (.int .i64 m0.w) := cell_of ((e3'.keep HQ3.out (by simp)))
  have x6 : v3.cell? ⟨w.heap.size, 6, none⟩ = some (.int .i64 m0.r) := cell_of ((e3'.keep HQ3.out (by simp)))
  clear e3 e3' e2 e2' e1 e1' fd HFA HEV HER HES
  go_wp2_with fail
  refine (HV2.out _ HE3.out).mono ?_
  rintro e w5 ⟨rfl, f5⟩
  have HF35 := Lib.hid (HE3.out.then0 f5)
  clear HE3 HV1 HV2 HV3 f5 x0 x1 x2 x3 x4 x5 x6
  have HO1B : Hid (∀ g, (Value.slice c3 m0.q.length j3).ownBlock = some g → g < w1.heap.size) := HB1
  have HO2B : Hid (∀ g, (Value.slice c4 m0.rest.length j4).ownBlock = some g → g < w1.heap.size) := HB2
  have HO1w := HO1.out.keep (HF23.out.then0 HF35.out) (by simp)
  have HO1W := Lib.hid HO1w
  clear HO1w
  have hqi : (m0.q.length : Int) ≤ 5000 := by have := HQK.out; omega
  have hri : (m0.rest.length : Int) ≤ 5000 := by have := HQK.out; omega
  go_wp2_with fail
  have HZ1 : Hid (∃ zs : List Value, zs.length = m0.q.length ∧ (∀ y ∈ zs, ∃ z : Int, y = .int .u8 z) ∧ Ow w5 w0.heap.size 5 (.slice c3 m0.q.length j3) zs) := Lib.hid ⟨_, by simp [bi_length], fun y hy => by obtain ⟨z, _, rfl⟩ := List.mem_map.1 hy; exact ⟨z, rfl⟩, HO1W.out⟩
  go_loopw [8] (fun i wq => ∃ k : Nat, k ≤ m0.q.length ∧ i = .int .i64 k ∧ Hid (Fr (Value.slice c3 m0.q.length j3).ownBlock.toList w5 wq) ∧ Hid (∃ zs : List Value, zs.length = m0.q.length ∧ (∀ y ∈ zs, ∃ z : Int, y = .int .u8 z) ∧ Ow wq w0.heap.size 5 (.slice c3 m0.q.length j3) zs)) (fun i _ => m0.q.length - (intOf i).toNat)
  case atStart => exact ⟨0, by omega, rfl, Lib.hid (Fr.refl _ _), HZ1⟩
  case round =>
    obtain ⟨k, hk, rfl, GQ, HO⟩ := hrel
    rename World => wi1
    have hbl1 : ∀ g, (Value.slice c3 m0.q.length j3).ownBlock = some g → w0.heap.size ≤ g ∧ g < w1.heap.size := fun g e => ⟨(HO1.out.lt g e).1, HO1B.out g e⟩
    have q9 : S7 wi1 w1.heap.size m0.c c3 m0.q.length j3 m0.busy c4 m0.rest.length j4 m0.acc m0.w m0.r := GQ.out.keep (HF35.out.keep HN3.out (by simp)) (fun hm => by have := (hbl1 _ (by simpa using hm)).2; omega)
    have o1 : wi1.cell? ⟨w1.heap.size, 1, none⟩ = some (.slice c3 m0.q.length j3) := cell_of q9
    have HN1n := Lib.hid q9
    clear q9
    by_cases hlt : (k : Int) < m0.q.length
    · as_aux_lemma =>
        obtain ⟨zs, hzl, hzv, hzo⟩ := HO.out
        obtain ⟨g, c, hv, _, _, hMg, _, hcell, hfro⟩ := hzo.row (by omega)
        injection hv with hv1 hv2 hv3
        subst hv1
        obtain ⟨z, hz⟩ := hzv _ (List.getElem_mem (show k < zs.length by omega))
        have hck := (hcell k (by omega)).trans (List.getElem?_eq_getElem (by omega))
        rw [hz] at hck
        have hf := hfro k
        have GQ2 := Lib.hid (GQ.out.setCell (p := ⟨g, k, none⟩) (.inl (by simp [Value.ownBlock])) (.int .u8 ((z + 1) % 256)))
        have HO2 : Hid (∃ zs : List Value, zs.length = m0.q.length ∧ (∀ y ∈ zs, ∃ z : Int, y = .int .u8 z) ∧ Ow (wi1.setCell ⟨g, k, none⟩ (.int .u8 ((z + 1) % 256))) w0.heap.size 5 (.slice (some ⟨g, 0, none⟩) m0.q.length j3) zs) := Lib.hid ⟨zs.set k (.int .u8 ((z + 1) % 256)), by simpa using hzl, fun y hy => by rcases List.mem_or_eq_of_mem_set hy with h | h; exact hzv y h; exact ⟨_, h⟩, hzo.set k _⟩
        clear hzo hzv hcell hfro HO GQ hz hMg hzl hbl1
        go_wp2_with fail
        refine ⟨⟨k + 1, by omega, by go_num, GQ2, HO2⟩, by simp [intOf]; omega⟩
    · skip
      have hlt1 := hlt
      have HG1 := GQ
      have HO2w := (HO2.out.keep (HF23.out.then0 HF35.out) (by simp)).keep HG1.out (fun g e hm => HDIS.out g (by simpa using hm) e)
      have HO2W := Lib.hid HO2w
      clear hlt GQ HO HO2w hk
      go_wp2_with fail
      have HZ2 : Hid (∃ zs : List Value, zs.length = m0.rest.length ∧ (∀ y ∈ zs, ∃ z : Int, y = .int .u8 z) ∧ Ow wi1 w0.heap.size 5 (.slice c4 m0.rest.length j4) zs) := Lib.hid ⟨_, by simp [bi_length], fun y hy => by obtain ⟨z, _, rfl⟩ := List.mem_map.1 hy; exact ⟨z, rfl⟩, HO2W.out⟩
      go_loopw [9] (fun i wq => ∃ k : Nat, k ≤ m0.rest.length ∧ i = .int .i64 k ∧ Hid (Fr (Value.slice c4 m0.rest.length j4).ownBlock.toList wi1 wq) ∧ Hid (∃ zs : List Value, zs.length = m0.rest.length ∧ (∀ y ∈ zs, ∃ z : Int, y = .int .u8 z) ∧ Ow wq w0.heap.size 5 (.slice c4 m0.rest.length j4) zs)) (fun i _ => m0.rest.length - (intOf i).toNat)
      case atStart => exact ⟨0, by omega, rfl, Lib.hid (Fr.refl _ _), HZ2⟩
      case round =>
        obtain ⟨k, hk, rfl, GQ, HO⟩ := hrel
        rename World => wi2
        have hbl2 : ∀ g, (Value.slice c4 m0.rest.length j4).ownBlock = some g → w0.heap.size ≤ g ∧ g < w1.heap.size := fun g e => ⟨(HO2.out.lt g e).1, HO2B.out g e⟩
        have q9 : S7 wi2 w1.heap.size m0.c c3 m0.q.length j3 m0.busy c4 m0.rest.length j4 m0.acc m0.w m0.r := GQ.out.keep HN1n.out (fun hm => by have := (hbl2 _ (by simpa using hm)).2; omega)
        have o3 : wi2.cell? ⟨w1.heap.size, 3, none⟩ = some (.slice c4 m0.rest.length j4) := cell_of q9
        have HN2n := Lib.hid q9
        clear q9
        by_cases hlt : (k : Int) < m0.rest.length
        · as_aux_lemma =>
            obtain ⟨zs, hzl, hzv, hzo⟩ := HO.out
            obtain ⟨g, c, hv, _, _, hMg, _, hcell, hfro⟩ := hzo.row (by omega)
            injection hv with hv1 hv2 hv3
            subst hv1
            obtain ⟨z, hz⟩ := hzv _ (List.getElem_mem (show k < zs.length by omega))
            have hck := (hcell k (by omega)).trans (List.getElem?_eq_getElem (by omega))
            rw [hz] at hck
            have hf := hfro k
            have GQ2 := Lib.hid (GQ.out.setCell (p := ⟨g, k, none⟩) (.inl (by simp [Value.ownBlock])) (.int .u8 ((z + 1) % 256)))
            have HO2 : Hid (∃ zs : List Value, zs.length = m0.rest.length ∧ (∀ y ∈ zs, ∃ z : Int, y = .int .u8 z) ∧ Ow (wi2.setCell ⟨g, k, none⟩ (.int .u8 ((z + 1) % 256))) w0.heap.size 5 (.slice (some ⟨g, 0, none⟩) m0.rest.length j4) zs) := Lib.hid ⟨zs.set k (.int .u8 ((z + 1) % 256)), by simpa using hzl, fun y hy => by rcases List.mem_or_eq_of_mem_set hy with h | h; exact hzv y h; exact ⟨_, h⟩, hzo.set k _⟩
            clear hzo hzv hcell hfro HO GQ hz hMg hzl hbl2
            go_wp2_with fail
            refine ⟨⟨k + 1, by omega, by go_num, GQ2, HO2⟩, by simp [intOf]; omega⟩
        · skip
          obtain ⟨B, hB⟩ : ∃ B, B = w.heap.size := ⟨_, rfl⟩
          have fA := HF35.out
          have f6 : Fr (Value.slice c3 m0.q.length j3).ownBlock.toList w5 wi1 := HG1.out
          have f7 : Fr (Value.slice c4 m0.rest.length j4).ownBlock.toList wi1 wi2 := GQ.out
          have hnb : ∀ x, x < w0.heap.size ∨ w1.heap.size ≤ x → x ∉ (Value.slice c3 m0.q.length j3).ownBlock.toList ∧ x ∉ (Value.slice c4 m0.rest.length j4).ownBlock.toList := fun x hx => ⟨fun hm => by have := hbl1 x (by simpa using hm); omega, fun hm => by have := hbl2 x (by simpa using hm); omega⟩
          have q7 : S7 wi2 w.heap.size m0.c a3 m0.q.length k3 m0.busy a4 m0.rest.length k4 m0.acc m0.w m0.r := f7.keep (f6.keep (fA.keep HQ3.out (by simp)) (hnb _ (.inl hz0)).1) (hnb _ (.inl hz0)).2
          have HSF7 := (((HSF.out.keep0 fA).keep f6 (fun x hx hF => (hnb x (.inr (by have := HBL.out.1; rcases hF with rfl | h | h; omega; have := HBL.out.2.1 x h; omega; have := HBL.out.2.2 x h.1; omega))).1 hx)).keep f7 (fun x hx hF => (hnb x (.inr (by have := HBL.out.1; rcases hF with rfl | h | h; omega; have := HBL.out.2.1 x h; omega; have := HBL.out.2.2 x h.1; omega))).2 hx))
          have g7 : Fr [] w wi2 := ((HF3.out.then0 fA).trans f6 (U := []) (by simp) (fun x hx => .inr (by have := hbl1 x (by simpa using hx); omega))).trans f7 (by simp) (fun x hx => .inr (by have := hbl2 x (by simpa using hx); omega))
          have ht0 : SI w wi2 [w.heap.size] b m0 (.agg #[.int .i64 m0.c, .slice a3 m0.q.length k3, .bool m0.busy, .slice a4 m0.rest.length k4, .int .i64 m0.acc, .int .i64 m0.w, .int .i64 m0.r]) := ⟨_, N, HSF7, ⟨_, _, rfl, HQ.out.1.keep g7 (by simp), HQ.out.2.keep g7 (by simp)⟩, fun x hF hN => by have := hN0.out x hN; have := HBL.out.1; rcases hF with rfl | h | h; omega; have := HBL.out.2.1 x h; omega; have := HBL.out.2.2 x h.1; omega, fun x hF => by have := HBL.out.1; simp; rcases hF with rfl | h | h; omega; have := HBL.out.2.1 x h; omega; have := HBL.out.2.2 x h.1; omega, fun x hN => by have := hN0.out x hN; have := g7.size; simp; omega⟩
          have T3 := Lib.hid ht0
          have Q3' := Lib.hid q7
          have G3 := Lib.hid g7
          have A3 := Lib.hid (HA.out.keep g7 (Nat.le_refl _) (by simp))
          have x0 : wi2.cell? ⟨w.heap.size, 0, none⟩ = some (.int .i64 m0.c) := cell_of (Q3'.out)
          have x1 : wi2.cell? ⟨w.heap.size, 1, none⟩ = some (.slice a3 m0.q.length k3) := cell_of (Q3'.out)
          have x2 : wi2.cell? ⟨w.heap.size, 2, none⟩ = some (.bool m0.busy) := cell_of (Q3'.out)
          have x3 : wi2.cell? ⟨w.heap.size, 3, none⟩ = some (.slice a4 m0.rest.length k4) := cell_of (Q3'.out)
          have x4 : wi2.cell? ⟨w.heap.size, 4, none⟩ = some (.int .i64 m0.acc) := cell_of (Q3'.out)
          have x5 : wi2.cell? ⟨w.heap.size, 5, none⟩ = some (.int .i64 m0.w) := cell_of (Q3'.out)
          have x6 : wi2.cell? ⟨w.heap.size, 6, none⟩ = some (.int .i64 m0.r) := cell_of (Q3'.out)
          have HBW : Hid (w.heap.size ≤ B) := Lib.hid (by omega)
          clear ht0 q7 g7 HSF7 f6 f7 fA hnb HSF HBL HQ HQ3 HO HO1 HO2 HDIS HN1n HN2n HZ1 HZ2 GQ HG1 HF35 HF3 HF23 HF2 HF0 HA hlt1 o1 hbl1 hbl2 HN3
          go_wp2_with fail
          refine T3.out.is_.mono ?_
          rintro e w8 ⟨rfl, f8⟩
          have Q4 : Hid (S7 w8 B m0.c a3 m0.q.length k3 m0.busy a4 m0.rest.length k4 m0.acc m0.w m0.r) := Lib.hid (by rw [hB]; exact f8.keep Q3'.out (by simp))
          have T4 : Hid (SI w w8 [B] b m0 (.agg #[.int .i64 m0.c, .slice a3 m0.q.length k3, .bool m0.busy, .slice a4 m0.rest.length k4, .int .i64 m0.acc, .int .i64 m0.w, .int .i64 m0.r])) := Lib.hid (by rw [hB]; exact T3.out.keep0 f8)
          have G4 := Lib.hid (G3.out.then0 f8)
          have A4 := Lib.hid (A3.out.keep f8 G3.out.size (by simp))
          clear T3 Q3' G3 A3 f8 x0 x1 x2 x3 x4 x5 x6
          rw [← hB]
          clear hB
          go_wp2_with fail
          go_loopw [6, 10] (fun v5 i wr => ∃ (k : Nat) (m : SM) (b : Nat) (a3 : Option Addr) (k3 : Nat) (a4 : Option Addr) (k4 : Nat), k ≤ A.length ∧ i = .int .i64 k ∧ v5 = .pointer (some ⟨b, 0, none⟩) ∧ Hid (S7 wr B m.c a3 m.q.length k3 m.busy a4 m.rest.length k4 m.acc m.w m.r) ∧ Hid (SI w wr [B] b m (.agg #[.int .i64 m.c, .slice a3 m.q.length k3, .bool m.busy, .slice a4 m.rest.length k4, .int .i64 m.acc, .int .i64 m.w, .int .i64 m.r])) ∧ Hid (Fr [] w wr) ∧ Hid (Acts14 wr w.heap.size a A.length cap A)) (fun _ i _ => A.length - (intOf i).toNat)
          case atStart => exact ⟨0, m0, b, a3, k3, a4, k4, by omega, rfl, rfl, Q4, T4, G4, A4⟩
          case round =>
            clear Q4 T4 G4 A4
            obtain ⟨k, m, b, a3, k3, a4, k4, hk, rfl, rfl, QR, HT, GR, AR⟩ := hrel
            rename World => wr
            by_cases hlt : (k : Int) < A.length
            · as_aux_lemma =>
                have hkA : k < A.length := by omega
                obtain ⟨ab, ao, pa, pl, pc, rfl, habM, hab, c0, c1, c2, hp, hbw, hbn⟩ := AR.out.at_ k hkA
                have hok := HOK.out A[k] (List.getElem_mem hkA)
                generalize A[k] = ak at c0 c1 c2 hp hbw hbn hok
                obtain ⟨what, ps, n⟩ := ak
                dsimp only at c0 c1 c2 hp hbw hbn hok
                have hpl := hp.len_eq
                subst hpl
                have hgs := GR.out.size
                have hBlt := lt_of_heap QR.out
                have HBL := HBW.out
                obtain ⟨m2, hm2⟩ : ∃ m2, stepM what ps n m = m2 := ⟨_, rfl⟩
                have HSTEP := Lib.hid fun (W : World) (f : Fr [] wr W) => hm2 ▸ (HT.out.keep0 f).step (Nat.le_trans hgs f.size) (by have := f.size; simp; omega) (hp.keep f (by simp)) hok.1 hok.2 (what := what) (n := n)
                have HSTEPB := Lib.hid fun (W : World) (f : Fr [] wr W) (hw : wr.heap.size < W.heap.size) => hm2 ▸ (HT.out.out f [wr.heap.size] (by simp)).step (Nat.le_trans hgs f.size) (by simp; omega) (hp.keep f (by simp)) hok.1 hok.2 (what := what) (n := n)
                have HEW := Lib.hid (Go.Proofs.enters_of Try.func38 (by kernel_rfl) rfl)
                have HFA := Lib.hid fun (w' : World) (hf : ∃ S, Fr S wr w' ∧ ∀ x ∈ S, w.heap.size ≤ x ∧ x ≠ B) => (show w'.cell? ⟨B, 0, none⟩ = some (.int .i64 m.c) ∧ w'.cell? ⟨B, 1, none⟩ = some (.slice a3 m.q.length k3) ∧ w'.cell? ⟨B, 2, none⟩ = some (.bool m.busy) ∧ w'.cell? ⟨B, 3, none⟩ = some (.slice a4 m.rest.length k4) ∧ w'.cell? ⟨B, 4, none⟩ = some (.int .i64 m.acc) ∧ w'.cell? ⟨B, 5, none⟩ = some (.int .i64 m.w) ∧ w'.cell? ⟨B, 6, none⟩ = some (.int .i64 m.r) ∧ w'.cell? ⟨ab, ao + k * 3, none⟩ = some (.int .i64 what) ∧ w'.cell? ⟨ab, ao + k * 3 + 1, none⟩ = some (.slice pa ps.length pc) ∧ w'.cell? ⟨ab, ao + k * 3 + 2, none⟩ = some (.int .i64 n) from by
                  obtain ⟨S, f, hS⟩ := hf
                  have q' := f.keep QR.out (fun hm => (hS _ hm).2 rfl)
                  have hk : ∀ j, w'.cell? ⟨ab, j, none⟩ = wr.cell? ⟨ab, j, none⟩ := fun j => World.cell?_of_block (w := wr) (f.block ab hab (fun hm => by have := (hS _ hm).1; omega))
                  exact ⟨cell_of q', cell_of q', cell_of q', cell_of q', cell_of q', cell_of q', cell_of q', (hk _).trans c0, (hk _).trans c1, (hk _).trans c2⟩)
                have habB : ab ≠ B := by omega
                clear hp hok
                go_upto_region 24 with fail
                go_cut [11, 12, 13] (fun v11 v12 v13 wx => ∃ (b2 B2 : Nat) (l3 : Option Addr) (j3 : Nat) (l4 : Option Addr) (j4 : Nat), v11 = .pointer (some ⟨b2, 0, none⟩) ∧ v12 = .pointer (some ⟨B2, 0, none⟩) ∧ v13 = .bool true ∧ Hid (S7 wx B2 m2.c l3 m2.q.length j3 m2.busy l4 m2.rest.length j4 m2.acc m2.w m2.r) ∧ Hid (SI w wx [B2, B] b2 m2 (.agg #[.int .i64 m2.c, .slice l3 m2.q.length j3, .bool m2.busy, .slice l4 m2.rest.length j4, .int .i64 m2.acc, .int .i64 m2.w, .int .i64 m2.r])) ∧ Hid (∃ S, Fr S wr wx ∧ ∀ x ∈ S, w.heap.size ≤ x ∧ x ≠ B) ∧ Hid (B2 ≠ B ∧ w.heap.size ≤ B2))
                case first =>
                  clear c0 c1 c2
                  have f0 : ∃ S, Fr S wr wr.drew ∧ ∀ x ∈ S, w.heap.size ≤ x ∧ x ≠ B := ⟨[], (Fr.refl _ _).drew, by simp⟩
                  have fd : Fr [] wr wr.drew := (Fr.refl _ _).drew
                  refine wp_region_tree (.take 0 (.take 1 (.take 2 (.take 3 (.take 4 (.take 5 (.two 6 11 (.take 7 (.take 8 (.take 9 (.take 10 (.one 11 (.take 12 (.one 13 (.take 14 .nil)))))))) (.one 6 (.take 7 (.take 8 (.take 9 (.take 10 (.take 12 (.one 13 (.take 14 .nil))))))))))))))) (fun w' => ∃ S, Fr S wr w' ∧ ∀ x ∈ S, w.heap.size ≤ x ∧ x ≠ B) (by kernel_rfl) (by kernel_rfl) f0 ?_
                  intro OPS HOPS
                  have hops := HOPS.out
                  try simp only [List.append_eq, List.cons_append, List.nil_append] at hops
                  replace HOPS := Lib.hid hops
                  clear hops
                  refine walkT_take (o := _) (v := ?_) (by rw [HOPS.out]; simp only [List.getElem?_toArray, List.getElem?_cons_succ, List.getElem?_cons_zero]; exact rfl) (Or.inl ⟨rfl, ?_⟩) ?_
                  rotate_left
                  · (intro w hSw; have hSx := HFA.out _ hSw; (try dsimp only at hSx); clear hSw; go_simp) <;> (with_reducible rfl)
                  simp only [Act.put, List.setIfInBounds_toArray, List.set_cons_zero, List.set_cons_succ]
                  refine walkT_take (o := _) (v := ?_) (by rw [HOPS.out]; simp only [List.getElem?_toArray, List.getElem?_cons_succ, List.getElem?_cons_zero]; exact rfl) (Or.inl ⟨rfl, ?_⟩) ?_
                  rotate_left
                  · (intro w hSw; have hSx := HFA.out _ hSw; (try dsimp only at hSx); clear hSw; go_simp) <;> (with_reducible rfl)
                  simp only [Act.put, List.setIfInBounds_toArray, List.set_cons_zero, List.set_cons_succ]
                  refine walkT_take (o := _) (v := ?_) (by rw [HOPS.out]; simp only [List.getElem?_toArray, List.getElem?_cons_succ, List.getElem?_cons_zero]; exact rfl) (Or.inl ⟨rfl, ?_⟩) ?_
                  rotate_left
                  · (intro w hSw; have hSx := HFA.out _ hSw; (try dsimp only at hSx); clear hSw; go_simp) <;> (with_reducible rfl)
                  simp only [Act.put, List.setIfInBounds_toArray, List.set_cons_zero, List.set_cons_succ]
                  refine walkT_take (o := _) (v := ?_) (by rw [HOPS.out]; simp only [List.getElem?_toArray, List.getElem?_cons_succ, List.getElem?_cons_zero]; exact rfl) (Or.inl ⟨rfl, ?_⟩) ?_
                  rotate_left
                  · (intro w hSw; have hSx := HFA.out _ hSw; (try dsimp only at hSx); clear hSw; go_simp) <;> (with_reducible rfl)
                  simp only [Act.put, List.setIfInBounds_toArray, List.set_cons_zero, List.set_cons_succ]
                  refine walkT_take (o := _) (v := ?_) (by rw [HOPS.out]; simp only [List.getElem?_toArray, List.getElem?_cons_succ, List.getElem?_cons_zero]; exact rfl) (Or.inl ⟨rfl, ?_⟩) ?_
                  rotate_left
                  · (intro w hSw; have hSx := HFA.out _ hSw; (try dsimp only at hSx); clear hSw; go_simp) <;> (with_reducible rfl)
                  simp only [Act.put, List.setIfInBounds_toArray, List.set_cons_zero, List.set_cons_succ]
                  refine walkT_take (o := _) (v := ?_) (by rw [HOPS.out]; simp only [List.getElem?_toArray, List.getElem?_cons_succ, List.getElem?_cons_zero]; exact rfl) (Or.inl ⟨rfl, ?_⟩) ?_
                  rotate_left
                  · (intro w hSw; have hSx := HFA.out _ hSw; (try dsimp only at hSx); clear hSw; go_simp) <;> (with_reducible rfl)
                  simp only [Act.put, List.setIfInBounds_toArray, List.set_cons_zero, List.set_cons_succ]
                  refine walkT_two ?_ ?_
                  · skip
                    refine walkT_call (o := _) (by rw [HOPS.out]; simp only [List.getElem?_toArray, List.getElem?_cons_succ, List.getElem?_cons_zero]; exact rfl) (fun K HK => ?_)
                    refine step_call rfl 38 #[(.tmp 103), (.tmp 104), (.tmp 108)] #[23, 41, 55] rfl HEW.out #[.pointer (some ⟨b, 0, none⟩), .agg #[.int .i64 m.c, .slice a3 m.q.length k3, .bool m.busy, .slice a4 m.rest.length k4, .int .i64 m.acc, .int .i64 m.w, .int .i64 m.r], .agg #[.int .i64 what, .slice pa ps.length pc, .int .i64 n]] (by simp [Act.eval]) (HSTEP.out _ fd) ?_
                    rintro e u6 ⟨b2, v2, rfl, h5, S5, f5', hS5⟩
                    obtain ⟨l3, j3, l4, j4, rfl⟩ := h5.form
                    have h5B : ∀ x ∈ S5, w.heap.size ≤ x ∧ x ≠ B := fun x hx => ⟨(hS5 x hx).1, fun e => (hS5 x hx).2 (by simp [e])⟩
                    have f5 : ∃ S, Fr S wr u6 ∧ ∀ x ∈ S, w.heap.size ≤ x ∧ x ≠ B := ⟨S5, (fd).trans f5' (U := S5) (by simp) (fun x hx => .inl hx), h5B⟩
                    have hz5 := f5'.size
                    have hzc := (fd).size
                    refine ⟨_, rfl, ?_⟩
                    refine HK.out (fun w' => ∃ S, Fr S wr w' ∧ ∀ x ∈ S, w.heap.size ≤ x ∧ x ≠ B) _ _ (fun _ h => h) (f5) ?_
                    clear HK K
                    simp only [Act.put, List.setIfInBounds_toArray, List.set_cons_zero, List.set_cons_succ]
                    refine walkT_take (o := _) (v := ?_) (by rw [HOPS.out]; simp only [List.getElem?_toArray, List.getElem?_cons_succ, List.getElem?_cons_zero]; exact rfl) (Or.inl ⟨rfl, ?_⟩) ?_
                    rotate_left
                    · (intro w hSw; have hSx := HFA.out _ hSw; (try dsimp only at hSx); clear hSw; go_simp) <;> (with_reducible rfl)
                    simp only [Act.put, List.setIfInBounds_toArray, List.set_cons_zero, List.set_cons_succ]
                    refine walkT_take (o := _) (v := ?_) (by rw [HOPS.out]; simp only [List.getElem?_toArray, List.getElem?_cons_succ, List.getElem?_cons_zero]; exact rfl) (Or.inl ⟨rfl, ?_⟩) ?_
                    rotate_left
                    · (intro w hSw; have hSx := HFA.out _ hSw; (try dsimp only at hSx); clear hSw; go_simp) <;> (with_reducible rfl)
                    simp only [Act.put, List.setIfInBounds_toArray, List.set_cons_zero, List.set_cons_succ]
                    refine walkT_take (o := _) (v := ?_) (by rw [HOPS.out]; simp only [List.getElem?_toArray, List.getElem?_cons_succ, List.getElem?_cons_zero]; exact rfl) (Or.inl ⟨rfl, ?_⟩) ?_
                    rotate_left
                    · (intro w hSw; have hSx := HFA.out _ hSw; (try dsimp only at hSx); clear hSw; go_simp) <;> (with_reducible rfl)
                    simp only [Act.put, List.setIfInBounds_toArray, List.set_cons_zero, List.set_cons_succ]
                    refine walkT_take (o := _) (v := ?_) (by rw [HOPS.out]; simp only [List.getElem?_toArray, List.getElem?_cons_succ, List.getElem?_cons_zero]; exact rfl) (Or.inl ⟨rfl, ?_⟩) ?_
                    rotate_left
                    · (intro w hSw; have hSx := HFA.out _ hSw; (try dsimp only at hSx); clear hSw; go_simp) <;> (with_reducible rfl)
                    simp only [Act.put, List.setIfInBounds_toArray, List.set_cons_zero, List.set_cons_succ]
                    refine walkT_call (o := _) (by rw [HOPS.out]; simp only [List.getElem?_toArray, List.getElem?_cons_succ, List.getElem?_cons_zero]; exact rfl) (fun K HK => ?_)
                    go_simp
                    obtain ⟨u7, hu7, fa, qa7⟩ : ∃ W, (u6.alloc (.cells #[.int .i64 0, .slice none 0 0, .bool false, .slice none 0 0, .int .i64 0, .int .i64 0, .int .i64 0] 41)) = W ∧ Fr [] u6 W ∧ S7 W u6.heap.size 0 none 0 0 false none 0 0 0 0 0 := ⟨_, rfl, (Fr.refl _ _).alloc _, newA rfl⟩
                    try rw [hu7]
                    have HZN := Lib.hid qa7
                    have hzz := lt_of_heap qa7
                    have f6 : ∃ S, Fr S wr u7 ∧ ∀ x ∈ S, w.heap.size ≤ x ∧ x ≠ B := ⟨S5, ((fd).trans f5' (U := S5) (by simp) (fun x hx => .inl hx)).then0 fa, h5B⟩
                    have h6 := h5.out fa [u6.heap.size] (by simp)
                    refine HK.out (fun w' => ∃ S, Fr S wr w' ∧ ∀ x ∈ S, w.heap.size ≤ x ∧ x ≠ B) _ _ (fun _ h => h) f6 ?_
                    clear HK K
                    try simp only [Act.put, List.setIfInBounds_toArray, List.set_cons_zero, List.set_cons_succ]
                    refine walkT_take (o := _) (v := ?_) (by rw [HOPS.out]; simp only [List.getElem?_toArray, List.getElem?_cons_succ, List.getElem?_cons_zero]; exact rfl) (Or.inl ⟨rfl, ?_⟩) ?_
                    rotate_left
                    · (intro w hSw; have hSx := HFA.out _ hSw; (try dsimp only at hSx); clear hSw; go_simp) <;> (with_reducible rfl)
                    simp only [Act.put, List.setIfInBounds_toArray, List.set_cons_zero, List.set_cons_succ]
                    refine walkT_call (o := _) (by rw [HOPS.out]; simp only [List.getElem?_toArray, List.getElem?_cons_succ, List.getElem?_cons_zero]; exact rfl) (fun K HK => ?_)
                    refine step_store7 rfl 41 (.tmp 12) (.tmp 111) rfl u6.heap.size #[.int .i64 m2.c, .slice l3 m2.q.length j3, .bool m2.busy, .slice l4 m2.rest.length j4, .int .i64 m2.acc, .int .i64 m2.w, .int .i64 m2.r] (by simp [Act.eval]) (by simp [Act.eval]) _ _ HZN.out (by kernel_rfl) rfl (by simp [Value.oneCell']) ?_
                    intro u8 ff qf
                    have f7 : ∃ S, Fr S wr u8 ∧ ∀ x ∈ S, w.heap.size ≤ x ∧ x ≠ B := ⟨u6.heap.size :: S5, ((((fd).trans f5' (U := S5) (by simp) (fun x hx => .inl hx)).then0 fa)).trans ff (fun x hx => .inl (List.mem_cons_of_mem _ hx)) (fun x hx => .inl (by simp at hx; simp [hx])), fun x hx => by rcases List.mem_cons.1 hx with hx | hx; exact ⟨by omega, by omega⟩; exact h5B x hx⟩
                    refine HK.out (fun w' => ∃ S, Fr S wr w' ∧ ∀ x ∈ S, w.heap.size ≤ x ∧ x ≠ B) _ _ (fun _ h => h) f7 ?_
                    clear HK K
                    try simp only [Act.put, List.setIfInBounds_toArray, List.set_cons_zero, List.set_cons_succ]
                    refine walkT_take (o := _) (v := ?_) (by rw [HOPS.out]; simp only [List.getElem?_toArray, List.getElem?_cons_succ, List.getElem?_cons_zero]; exact rfl) (Or.inl ⟨rfl, ?_⟩) ?_
                    rotate_left
                    · (intro w hSw; have hSx := HFA.out _ hSw; (try dsimp only at hSx); clear hSw; go_simp) <;> (with_reducible rfl)
                    simp only [Act.put, List.setIfInBounds_toArray, List.set_cons_zero, List.set_cons_succ]
                    refine walkT_done ?_
                    clear HOPS OPS
                    have h7 := (h6).keep ff (by simp)
                    go_wp2_with fail
                    go_meet
                    exact ⟨b2, u6.heap.size, l3, j3, l4, j4, rfl, rfl, rfl, Lib.hid qf, Lib.hid h7, Lib.hid f7, Lib.hid ⟨by omega, by omega⟩⟩
                  · skip
                    refine walkT_call (o := _) (by rw [HOPS.out]; simp only [List.getElem?_toArray, List.getElem?_cons_succ, List.getElem?_cons_zero]; exact rfl) (fun K HK => ?_)
                    go_simp
                    obtain ⟨u6, hu6, fa, qa6⟩ : ∃ W, ((wr.alloc (.cells #[.int .i64 0, .slice none 0 0, .bool false, .slice none 0 0, .int .i64 0, .int .i64 0, .int .i64 0] 41)).drew) = W ∧ Fr [] wr W ∧ S7 W wr.heap.size 0 none 0 0 false none 0 0 0 0 0 := ⟨_, rfl, ((Fr.refl _ _).alloc _).drew, newA rfl⟩
                    try rw [hu6]
                    have HZN := Lib.hid qa6
                    have hzz := lt_of_heap qa6
                    have f6 : ∃ S, Fr S wr u6 ∧ ∀ x ∈ S, w.heap.size ≤ x ∧ x ≠ B := ⟨[], fa, by simp⟩
                    refine HK.out (fun w' => ∃ S, Fr S wr w' ∧ ∀ x ∈ S, w.heap.size ≤ x ∧ x ≠ B) _ _ (fun _ h => h) f6 ?_
                    clear HK K
                    try simp only [Act.put, List.setIfInBounds_toArray, List.set_cons_zero, List.set_cons_succ]
                    refine walkT_call (o := _) (by rw [HOPS.out]; simp only [List.getElem?_toArray, List.getElem?_cons_succ, List.getElem?_cons_zero]; exact rfl) (fun K HK => ?_)
                    refine step_call rfl 38 #[(.tmp 103), (.tmp 104), (.tmp 108)] #[23, 41, 55] rfl HEW.out #[.pointer (some ⟨b, 0, none⟩), .agg #[.int .i64 m.c, .slice a3 m.q.length k3, .bool m.busy, .slice a4 m.rest.length k4, .int .i64 m.acc, .int .i64 m.w, .int .i64 m.r], .agg #[.int .i64 what, .slice pa ps.length pc, .int .i64 n]] (by simp [Act.eval]) (HSTEPB.out u6 fa (by omega)) ?_
                    rintro e u7 ⟨b2, v2, rfl, h5, S5, f5', hS5⟩
                    obtain ⟨l3, j3, l4, j4, rfl⟩ := h5.form
                    have h5B : ∀ x ∈ S5, w.heap.size ≤ x ∧ x ≠ B := fun x hx => ⟨(hS5 x hx).1, fun e => (hS5 x hx).2 (by simp [e])⟩
                    have f5 : ∃ S, Fr S wr u7 ∧ ∀ x ∈ S, w.heap.size ≤ x ∧ x ≠ B := ⟨S5, (fa).trans f5' (U := S5) (by simp) (fun x hx => .inl hx), h5B⟩
                    have hz5 := f5'.size
                    have hzc := (fa).size
                    have HZN := Lib.hid (show S7 u7 wr.heap.size 0 none 0 0 false none 0 0 0 0 0 from f5'.keep HZN.out (fun hm => (hS5 _ hm).2 (by simp)))
                    refine ⟨_, rfl, ?_⟩
                    refine HK.out (fun w' => ∃ S, Fr S wr w' ∧ ∀ x ∈ S, w.heap.size ≤ x ∧ x ≠ B) _ _ (fun _ h => h) (f5) ?_
                    clear HK K
                    simp only [Act.put, List.setIfInBounds_toArray, List.set_cons_zero, List.set_cons_succ]
                    refine walkT_take (o := _) (v := ?_) (by rw [HOPS.out]; simp only [List.getElem?_toArray, List.getElem?_cons_succ, List.getElem?_cons_zero]; exact rfl) (Or.inl ⟨rfl, ?_⟩) ?_
                    rotate_left
                    · (intro w hSw; have hSx := HFA.out _ hSw; (try dsimp only at hSx); clear hSw; go_simp) <;> (with_reducible rfl)
                    simp only [Act.put, List.setIfInBounds_toArray, List.set_cons_zero, List.set_cons_succ]
                    refine walkT_take (o := _) (v := ?_) (by rw [HOPS.out]; simp only [List.getElem?_toArray, List.getElem?_cons_succ, List.getElem?_cons_zero]; exact rfl) (Or.inl ⟨rfl, ?_⟩) ?_
                    rotate_left
                    · (intro w hSw; have hSx := HFA.out _ hSw; (try dsimp only at hSx); clear hSw; go_simp) <;> (with_reducible rfl)
                    simp only [Act.put, List.setIfInBounds_toArray, List.set_cons_zero, List.set_cons_succ]
                    refine walkT_take (o := _) (v := ?_) (by rw [HOPS.out]; simp only [List.getElem?_toArray, List.getElem?_cons_succ, List.getElem?_cons_zero]; exact rfl) (Or.inl ⟨rfl, ?_⟩) ?_
                    rotate_left
                    · (intro w hSw; have hSx := HFA.out _ hSw; (try dsimp only at hSx); clear hSw; go_simp) <;> (with_reducible rfl)
                    simp only [Act.put, List.setIfInBounds_toArray, List.set_cons_zero, List.set_cons_succ]
                    refine walkT_take (o := _) (v := ?_) (by rw [HOPS.out]; simp only [List.getElem?_toArray, List.getElem?_cons_succ, List.getElem?_cons_zero]; exact rfl) (Or.inl ⟨rfl, ?_⟩) ?_
                    rotate_left
                    · (intro w hSw; have hSx := HFA.out _ hSw; (try dsimp only at hSx); clear hSw; go_simp) <;> (with_reducible rfl)
                    simp only [Act.put, List.setIfInBounds_toArray, List.set_cons_zero, List.set_cons_succ]
                    refine walkT_take (o := _) (v := ?_) (by rw [HOPS.out]; simp only [List.getElem?_toArray, List.getElem?_cons_succ, List.getElem?_cons_zero]; exact rfl) (Or.inl ⟨rfl, ?_⟩) ?_
                    rotate_left
                    · (intro w hSw; have hSx := HFA.out _ hSw; (try dsimp only at hSx); clear hSw; go_simp) <;> (with_reducible rfl)
                    simp only [Act.put, List.setIfInBounds_toArray, List.set_cons_zero, List.set_cons_succ]
                    refine walkT_call (o := _) (by rw [HOPS.out]; simp only [List.getElem?_toArray, List.getElem?_cons_succ, List.getElem?_cons_zero]; exact rfl) (fun K HK => ?_)
                    refine step_store7 rfl 41 (.tmp 12) (.tmp 111) rfl wr.heap.size #[.int .i64 m2.c, .slice l3 m2.q.length j3, .bool m2.busy, .slice l4 m2.rest.length j4, .int .i64 m2.acc, .int .i64 m2.w, .int .i64 m2.r] (by simp [Act.eval]) (by simp [Act.eval]) _ _ HZN.out (by kernel_rfl) rfl (by simp [Value.oneCell']) ?_
                    intro u8 ff qf
                    have f7 : ∃ S, Fr S wr u8 ∧ ∀ x ∈ S, w.heap.size ≤ x ∧ x ≠ B := ⟨wr.heap.size :: S5, (((fa).trans f5' (U := S5) (by simp) (fun x hx => .inl hx))).trans ff (fun x hx => .inl (List.mem_cons_of_mem _ hx)) (fun x hx => .inl (by simp at hx; simp [hx])), fun x hx => by rcases List.mem_cons.1 hx with hx | hx; exact ⟨by omega, by omega⟩; exact h5B x hx⟩
                    refine HK.out (fun w' => ∃ S, Fr S wr w' ∧ ∀ x ∈ S, w.heap.size ≤ x ∧ x ≠ B) _ _ (fun _ h => h) f7 ?_
                    clear HK K
                    try simp only [Act.put, List.setIfInBounds_toArray, List.set_cons_zero, List.set_cons_succ]
                    refine walkT_take (o := _) (v := ?_) (by rw [HOPS.out]; simp only [List.getElem?_toArray, List.getElem?_cons_succ, List.getElem?_cons_zero]; exact rfl) (Or.inl ⟨rfl, ?_⟩) ?_
                    rotate_left
                    · (intro w hSw; have hSx := HFA.out _ hSw; (try dsimp only at hSx); clear hSw; go_simp) <;> (with_reducible rfl)
                    simp only [Act.put, List.setIfInBounds_toArray, List.set_cons_zero, List.set_cons_succ]
                    refine walkT_done ?_
                    clear HOPS OPS
                    have h7 := (h5).keep ff (by simp)
                    go_wp2_with fail
                    go_meet
                    exact ⟨b2, wr.heap.size, l3, j3, l4, j4, rfl, rfl, rfl, Lib.hid qf, Lib.hid h7, Lib.hid f7, Lib.hid ⟨by omega, by omega⟩⟩
                case rest =>
                  clear HSTEP HSTEPB HEW HFA c0 c1 c2
                  obtain ⟨b2, B2, l3, j3, l4, j4, rfl, rfl, rfl, Q7, T7, F7, HB2⟩ := hcut
                  rename World => w7
                  have HIS := Lib.hid T7.out.is_
                  have g7 : Hid (Fr [] w w7) := Lib.hid (by obtain ⟨S, f, hS⟩ := F7.out; exact GR.out.trans f (by simp) (fun x hx => .inr (hS x hx).1))
                  have a7 : Hid (Acts14 w7 w.heap.size _ A.length cap A) := Lib.hid (by obtain ⟨S, f, hS⟩ := F7.out; exact AR.out.keep f GR.out.size (fun x hx => (hS x hx).1))
                  have q9 : Hid (S7 w7 B m.c a3 m.q.length k3 m.busy a4 m.rest.length k4 m.acc m.w m.r) := Lib.hid (by obtain ⟨S, f, hS⟩ := F7.out; exact f.keep QR.out (fun hm => (hS _ hm).2 rfl))
                  obtain ⟨x0, x1, x2, x3, x4, x5, x6, p0, p1, p2, p3, p4, p5, p6⟩ := (show S7 w7 B2 m2.c l3 m2.q.length j3 m2.busy l4 m2.rest.length j4 m2.acc m2.w m2.r from Q7.out).cells
                  clear GR AR QR HT F7
                  as_aux_lemma =>
                    go_wp2_with fail
                    refine HIS.out.mono ?_
                    rintro e w8 ⟨rfl, f8⟩
                    have r2 : S7 w8 B2 m2.c l3 m2.q.length j3 m2.busy l4 m2.rest.length j4 m2.acc m2.w m2.r := f8.keep Q7.out (by simp)
                    have r9 : S7 w8 B m.c a3 m.q.length k3 m.busy a4 m.rest.length k4 m.acc m.w m.r := f8.keep q9.out (by simp)
                    have g8 := Lib.hid (g7.out.then0 f8)
                    have a8 := Lib.hid (a7.out.keep f8 g7.out.size (by simp))
                    have T8 := Lib.hid (T7.out.keep0 f8)
                    have HF8 := Lib.hid fun (w' : World) (f : S7 w' B2 m2.c l3 m2.q.length j3 m2.busy l4 m2.rest.length j4 m2.acc m2.w m2.r) => (show w'.cell? ⟨B2, 0, none⟩ = some (.int .i64 m2.c) ∧ w'.cell? ⟨B2, 1, none⟩ = some (.slice l3 m2.q.length j3) ∧ w'.cell? ⟨B2, 2, none⟩ = some (.bool m2.busy) ∧ w'.cell? ⟨B2, 3, none⟩ = some (.slice l4 m2.rest.length j4) ∧ w'.cell? ⟨B2, 4, none⟩ = some (.int .i64 m2.acc) ∧ w'.cell? ⟨B2, 5, none⟩ = some (.int .i64 m2.w) ∧ w'.cell? ⟨B2, 6, none⟩ = some (.int .i64 m2.r) from (let q := S7.cells f; ⟨q.1, q.2.1, q.2.2.1, q.2.2.2.1, q.2.2.2.2.1, q.2.2.2.2.2.1, q.2.2.2.2.2.2.1⟩))
                    clear f8 HIS Q7 q9 g7 a7 T7 x0 x1 x2 x3 x4 x5 x6 p0 p1 p2 p3 p4 p5 p6
                    go_wp2_with fail
                    have fd : Fr [] w8 w8.drew := (Fr.refl _ _).drew
                    refine wp_region_order [(0, true), (1, true), (2, true), (3, false)] (fun w' => S7 w' B2 m2.c l3 m2.q.length j3 m2.busy l4 m2.rest.length j4 m2.acc m2.w m2.r) (by kernel_rfl) (by kernel_rfl) (fd.keep r2 (by simp)) ?_
                    intro OPS HOPS
                    have hops := HOPS.out
                    try simp only [List.append_eq, List.cons_append, List.nil_append] at hops
                    replace HOPS := Lib.hid hops
                    clear hops
                    refine walkO_take (o := _) (v := ?_) (by rw [HOPS.out]; simp only [List.getElem?_toArray, List.getElem?_cons_succ, List.getElem?_cons_zero]; exact rfl) (Or.inl ⟨rfl, ?_⟩) ?_
                    rotate_left
                    · (intro w hSw; have hSx := HF8.out _ hSw; (try dsimp only at hSx); clear hSw; go_simp) <;> (with_reducible rfl)
                    simp only [Act.put, List.setIfInBounds_toArray, List.set_cons_zero, List.set_cons_succ]
                    refine walkO_take (o := _) (v := ?_) (by rw [HOPS.out]; simp only [List.getElem?_toArray, List.getElem?_cons_succ, List.getElem?_cons_zero]; exact rfl) (Or.inl ⟨rfl, ?_⟩) ?_
                    rotate_left
                    · (intro w hSw; have hSx := HF8.out _ hSw; (try dsimp only at hSx); clear hSw; go_simp) <;> (with_reducible rfl)
                    simp only [Act.put, List.setIfInBounds_toArray, List.set_cons_zero, List.set_cons_succ]
                    refine walkO_take (o := _) (v := ?_) (by rw [HOPS.out]; simp only [List.getElem?_toArray, List.getElem?_cons_succ, List.getElem?_cons_zero]; exact rfl) (Or.inl ⟨rfl, ?_⟩) ?_
                    rotate_left
                    · (intro w hSw; have hSx := HF8.out _ hSw; (try dsimp only at hSx); clear hSw; go_simp) <;> (with_reducible rfl)
                    simp only [Act.put, List.setIfInBounds_toArray, List.set_cons_zero, List.set_cons_succ]
                    refine walkO_call (o := _) (by rw [HOPS.out]; simp only [List.getElem?_toArray, List.getElem?_cons_succ, List.getElem?_cons_zero]; exact rfl) (fun K HK => ?_)
                    refine step_store7 rfl 41 (.tmp 2) (.tmp 126) rfl B #[.int .i64 m2.c, .slice l3 m2.q.length j3, .bool m2.busy, .slice l4 m2.rest.length j4, .int .i64 m2.acc, .int .i64 m2.w, .int .i64 m2.r] (by simp [Act.eval]) (by simp [Act.eval]) _ _ (show S7 w8.drew B m.c a3 m.q.length k3 m.busy a4 m.rest.length k4 m.acc m.w m.r from (Fr.refl [] w8).drew.keep r9 (by simp)) (by kernel_rfl) rfl (by simp [Value.oneCell']) ?_
                    intro w9 ff qf
                    refine HK.out (fun w' => S7 w' B2 m2.c l3 m2.q.length j3 m2.busy l4 m2.rest.length j4 m2.acc m2.w m2.r) _ _ (fun _ h => h) (ff.keep (fd.keep r2 (by simp)) (by have := HB2.out.1; simp; omega)) ?_
                    clear HK K
                    try simp only [Act.put, List.setIfInBounds_toArray, List.set_cons_zero, List.set_cons_succ]
                    refine walkO_done ?_
                    clear HOPS OPS
                    have g9 := (g8.out.then0 fd).trans ff (U := []) (fun _ h => .inl h) (fun x hx => .inr (by simp at hx; have := HBW.out; omega))
                    have a9 := (a8.out.keep fd g8.out.size (by simp)).keep ff (by have := (g8.out.then0 fd).size; exact this) (fun x hx => by simp at hx; have := HBW.out; omega)
                    have T9 := Lib.hid (((T8.out.keep0 fd).keep ff (by simp)).less (B' := [B]) (by simp))
                    have qR2 := qf
                    clear ff fd r9
                    go_wp2_with fail
                    go_roundw
                    case rel => exact ⟨k + 1, m2, b2, l3, j3, l4, j4, by omega, by go_num, rfl, Lib.hid qR2, T9, Lib.hid g9, Lib.hid a9⟩
                    case measure => simp [intOf]; omega
            · as_aux_lemma =>
                go_wp2_with fail
                refine (known14 _).mono ?_
                rintro e w99 ⟨rfl, f99⟩
                go_wp2_with fail
                go_ret
                exact ⟨rfl, GR.out.then0 f99⟩
set_option maxHeartbeats 40000000 in
theorem streamRestores_bad {a : Option Addr} {len cap : Nat} {A : List A14} {w : World} {N : Nat → Prop} {v : Value} {m0 : SM} (h : Sv w N v m0) (h5 : m0.q.length + m0.rest.length ≤ 5000) (hA : Acts14 w w.heap.size a len cap A) (hs : fewB14 A = true) (hval : validM m0 = false) :
    Calls Try.prog 7 #[v, .slice a len cap] w fun e w' => e = .returned (.bool true) ∧ Fr [] w w' := by
  obtain ⟨u1, u2, rfl, hq, hr⟩ := h
  obtain ⟨a3, k3, rfl, _⟩ := id hq
  obtain ⟨a4, k4, rfl, _⟩ := id hr
  have HQ := Lib.hid (And.intro hq hr)
  clear hq hr
  obtain ⟨w0, hw0, f0, q0⟩ : ∃ W, w.alloc (.cells #[.int .i64 m0.c, .slice a3 m0.q.length k3, .bool m0.busy, .slice a4 m0.rest.length k4, .int .i64 m0.acc, .int .i64 m0.w, .int .i64 m0.r] 41) = W ∧ Fr [] w W ∧ S7 W w.heap.size m0.c a3 m0.q.length k3 m0.busy a4 m0.rest.length k4 m0.acc m0.w m0.r := ⟨_, rfl, (Fr.refl _ _).alloc _, newA rfl⟩
  have hz0 := lt_of_heap q0
  have x0 : w0.cell? ⟨w.heap.size, 0, none⟩ = some (.int .i64 m0.c) := cell_of (q0)
  have x1 : w0.cell? ⟨w.heap.size, 1, none⟩ = some (.slice a3 m0.q.length k3) := cell_of (q0)
  have x2 : w0.cell? ⟨w.heap.size, 2, none⟩ = some (.bool m0.busy) := cell_of (q0)
  have x3 : w0.cell? ⟨w.heap.size, 3, none⟩ = some (.slice a4 m0.rest.length k4) := cell_of (q0)
  have x4 : w0.cell? ⟨w.heap.size, 4, none⟩ = some (.int .i64 m0.acc) := cell_of (q0)
  have x5 : w0.cell? ⟨w.heap.size, 5, none⟩ = some (.int .i64 m0.w) := cell_of (q0)
  have x6 : w0.cell? ⟨w.heap.size, 6, none⟩ = some (.int .i64 m0.r) := cell_of (q0)
  have HF0 := Lib.hid f0
  have HQ0 := Lib.hid q0
  have HFW := Lib.hid (few14 ((hA.keep f0 (Nat.le_refl _) (by simp)).mono (Nat.le_of_lt hz0) (fun h => h.mono (Nat.le_of_lt hz0))))
  rw [hs] at HFW
  have hq5 : (m0.q.length : Int) + m0.rest.length ≤ 5000 := by omega
  have hwr : IntKind.i64.wrap ((m0.q.length : Int) + (m0.rest.length : Int)) = m0.q.length + m0.rest.length := IntWalk.i64_in _ (by omega)
  clear hs hA f0 q0
  go_enter Try.func7, Try.ntmps7
  go_wp2_with fail
  refine HFW.out.mono ?_
  rintro e w' ⟨rfl, rfl⟩
  clear HFW
  go_wp2_with fail
  refine (r_copy (w := w0) (N := N) (v := .agg #[.int .i64 m0.c, .slice a3 m0.q.length k3, .bool m0.busy, .slice a4 m0.rest.length k4, .int .i64 m0.acc, .int .i64 m0.w, .int .i64 m0.r]) (m := m0) ⟨_, _, rfl, HQ.out.1.keep HF0.out (by simp), HQ.out.2.keep HF0.out (by simp)⟩ ⟨by omega, by omega⟩).mono ?_
  rintro e w1 ⟨v1, rfl, f1, u1, u2, rfl, ow1, ow2, hdis⟩
  obtain ⟨c3, j3, rfl, _⟩ := ow1.formB
  obtain ⟨c4, j4, rfl, _⟩ := ow2.formB
  obtain ⟨w2, hw2, f2, q2⟩ : ∃ W, w1.alloc (.cells #[.int .i64 m0.c, .slice c3 m0.q.length j3, .bool m0.busy, .slice c4 m0.rest.length j4, .int .i64 m0.acc, .int .i64 m0.w, .int .i64 m0.r] 41) = W ∧ Fr [] w1 W ∧ S7 W w1.heap.size m0.c c3 m0.q.length j3 m0.busy c4 m0.rest.length j4 m0.acc m0.w m0.r := ⟨_, rfl, (Fr.refl _ _).alloc _, newA rfl⟩
  have hz1 := f1.size
  have hz2 := lt_of_heap q2
  have HO1 := Lib.hid (ow1.keep f2 (by simp))
  have HO2 := Lib.hid (ow2.keep f2 (by simp))
  have HDIS := Lib.hid hdis
  have HF2 := Lib.hid ((HF0.out.then0 f1).then0 f2)
  have HQ2 := Lib.hid (show S7 w2 w.heap.size m0.c a3 m0.q.length k3 m0.busy a4 m0.rest.length k4 m0.acc m0.w m0.r from f2.keep (f1.keep HQ0.out (by simp)) (by simp))
  have HN2 := Lib.hid q2
  have HRS := Lib.hid (st_restore_bad (w := w2) (N := fun x => w0.heap.size ≤ x) (v := .agg #[.int .i64 m0.c, .slice c3 m0.q.length j3, .bool m0.busy, .slice c4 m0.rest.length j4, .int .i64 m0.acc, .int .i64 m0.w, .int .i64 m0.r]) (m := m0) ⟨_, _, rfl, PartV.ofOw HO1.out, PartV.ofOw HO2.out⟩ hval ⟨by omega, by omega⟩)
  clear x0 x1 x2 x3 x4 x5 x6 HQ0 f1 f2 q2 ow1 ow2 hdis hw0
  have x0 : w2.cell? ⟨w.heap.size, 0, none⟩ = some (.int .i64 m0.c) := cell_of (HQ2.out)
  have x1 : w2.cell? ⟨w.heap.size, 1, none⟩ = some (.slice a3 m0.q.length k3) := cell_of (HQ2.out)
  have x2 : w2.cell? ⟨w.heap.size, 2, none⟩ = some (.bool m0.busy) := cell_of (HQ2.out)
  have x3 : w2.cell? ⟨w.heap.size, 3, none⟩ = some (.slice a4 m0.rest.length k4) := cell_of (HQ2.out)
  have x4 : w2.cell? ⟨w.heap.size, 4, none⟩ = some (.int .i64 m0.acc) := cell_of (HQ2.out)
  have x5 : w2.cell? ⟨w.heap.size, 5, none⟩ = some (.int .i64 m0.w) := cell_of (HQ2.out)
  have x6 : w2.cell? ⟨w.heap.size, 6, none⟩ = some (.int .i64 m0.r) := cell_of (HQ2.out)
  have o0 : w2.cell? ⟨w1.heap.size, 0, none⟩ = some (.int .i64 m0.c) := cell_of (HN2.out)
  have o1 : w2.cell? ⟨w1.heap.size, 1, none⟩ = some (.slice c3 m0.q.length j3) := cell_of (HN2.out)
  have o2 : w2.cell? ⟨w1.heap.size, 2, none⟩ = some (.bool m0.busy) := cell_of (HN2.out)
  have o3 : w2.cell? ⟨w1.heap.size, 3, none⟩ = some (.slice c4 m0.rest.length j4) := cell_of (HN2.out)
  have o4 : w2.cell? ⟨w1.heap.size, 4, none⟩ = some (.int .i64 m0.acc) := cell_of (HN2.out)
  have o5 : w2.cell? ⟨w1.heap.size, 5, none⟩ = some (.int .i64 m0.w) := cell_of (HN2.out)
  have o6 : w2.cell? ⟨w1.heap.size, 6, none⟩ = some (.int .i64 m0.r) := cell_of (HN2.out)
  go_wp2_with fail
  refine HRS.out.mono ?_
  rintro e w3 ⟨rfl, f3⟩
  have HF3 := Lib.hid (HF2.out.then0 f3)
  have HF23 := Lib.hid f3
  have HQ3 := Lib.hid (show S7 w3 w.heap.size m0.c a3 m0.q.length k3 m0.busy a4 m0.rest.length k4 m0.acc m0.w m0.r from f3.keep HQ2.out (by simp))
  have HN3 := Lib.hid (show S7 w3 w1.heap.size m0.c c3 m0.q.length j3 m0.busy c4 m0.rest.length j4 m0.acc m0.w m0.r from f3.keep HN2.out (by simp))
  have hv1 := fun w' (f : Fr [] w3 w') => st_valid (w := w') (N := fun x => w0.heap.size ≤ x) (v := .agg #[.int .i64 m0.c, .slice c3 m0.q.length j3, .bool m0.busy, .slice c4 m0.rest.length j4, .int .i64 m0.acc, .int .i64 m0.w, .int .i64 m0.r]) (m := m0) ⟨_, _, rfl, (PartV.ofOw HO1.out).keep (HF23.out.then0 f) (by simp), (PartV.ofOw HO2.out).keep (HF23.out.then0 f) (by simp)⟩ ⟨by omega, by omega⟩
  have hv2 := fun w' (f : Fr [] w3 w') => r_valid (w := w') (N := N) (v := .agg #[.int .i64 m0.c, .slice a3 m0.q.length k3, .bool m0.busy, .slice a4 m0.rest.length k4, .int .i64 m0.acc, .int .i64 m0.w, .int .i64 m0.r]) (m := m0) ⟨_, _, rfl, HQ.out.1.keep (HF3.out.then0 f) (by simp), HQ.out.2.keep (HF3.out.then0 f) (by simp)⟩ ⟨by omega, by omega⟩
  rw [hval] at hv1 hv2
  have HV1 := Lib.hid hv1
  have HV2 := Lib.hid hv2
  have HV3 := Lib.hid fun w' (f : Fr [] w3 w') => same14 (show Sv w' (fun x => w0.heap.size ≤ x) (.agg #[.int .i64 m0.c, .slice c3 m0.q.length j3, .bool m0.busy, .slice c4 m0.rest.length j4, .int .i64 m0.acc, .int .i64 m0.w, .int .i64 m0.r]) m0 from ⟨_, _, rfl, (PartV.ofOw HO1.out).keep (HF23.out.then0 f) (by simp), (PartV.ofOw HO2.out).keep (HF23.out.then0 f) (by simp)⟩) (show Sv w' N (.agg #[.int .i64 m0.c, .slice a3 m0.q.length k3, .bool m0.busy, .slice a4 m0.rest.length k4, .int .i64 m0.acc, .int .i64 m0.w, .int .i64 m0.r]) m0 from ⟨_, _, rfl, HQ.out.1.keep (HF3.out.then0 f) (by simp), HQ.out.2.keep (HF3.out.then0 f) (by simp)⟩)
  clear hv1 hv2 f3 HRS HN2 HQ2 x0 x1 x2 x3 x4 x5 x6 o0 o1 o2 o3 o4 o5 o6
  have HEV := Lib.hid (Go.Proofs.enters_of Try.func46 (by kernel_rfl) rfl)
  have HER := Lib.hid (Go.Proofs.enters_of Try.func47 (by kernel_rfl) rfl)
  have HES := Lib.hid (Go.Proofs.enters_of Try.func41 (by kernel_rfl) rfl)
  have HFA := Lib.hid fun (w' : World) (f : Fr [] w3 w') => (show w'.cell? ⟨w.heap.size, 0, none⟩ = some (.int .i64 m0.c) ∧ w'.cell? ⟨w.heap.size, 1, none⟩ = some (.slice a3 m0.q.length k3) ∧ w'.cell? ⟨w.heap.size, 2, none⟩ = some (.bool m0.busy) ∧ w'.cell? ⟨w.heap.size, 3, none⟩ = some (.slice a4 m0.rest.length k4) ∧ w'.cell? ⟨w.heap.size, 4, none⟩ = some (.int .i64 m0.acc) ∧ w'.cell? ⟨w.heap.size, 5, none⟩ = some (.int .i64 m0.w) ∧ w'.cell? ⟨w.heap.size, 6, none⟩ = some (.int .i64 m0.r) ∧ w'.cell? ⟨w1.heap.size, 0, none⟩ = some (.int .i64 m0.c) ∧ w'.cell? ⟨w1.heap.size, 1, none⟩ = some (.slice c3 m0.q.length j3) ∧ w'.cell? ⟨w1.heap.size, 2, none⟩ = some (.bool m0.busy) ∧ w'.cell? ⟨w1.heap.size, 3, none⟩ = some (.slice c4 m0.rest.length j4) ∧ w'.cell? ⟨w1.heap.size, 4, none⟩ = some (.int .i64 m0.acc) ∧ w'.cell? ⟨w1.heap.size, 5, none⟩ = some (.int .i64 m0.w) ∧ w'.cell? ⟨w1.heap.size, 6, none⟩ = some (.int .i64 m0.r) from (let q := S7.cells (f.keep HQ3.out (by simp)); let p := S7.cells (f.keep HN3.out (by simp)); ⟨q.1, q.2.1, q.2.2.1, q.2.2.2.1, q.2.2.2.2.1, q.2.2.2.2.2.1, q.2.2.2.2.2.2.1, p.1, p.2.1, p.2.2.1, p.2.2.2.1, p.2.2.2.2.1, p.2.2.2.2.2.1, p.2.2.2.2.2.2.1⟩))
  have HQK := Lib.hid hq5
  have HVL := Lib.hid hval
  clear hq5 hval
  go_wp2_with fail
  have fd : Fr [] w3 w3.drew := (Fr.refl _ _).drew
  refine wp_region_order [(0, true), (2, true), (1, false), (3, false), (4, true), (5, true), (6, true), (7, true), (8, false), (9, true), (10, true)] (fun w' => Fr [] w3 w') (by kernel_rfl) (by kernel_rfl) fd ?_
  intro OPS HOPS
  have hops := HOPS.out
  try simp only [List.append_eq, List.cons_append, List.nil_append] at hops
  replace HOPS := Lib.hid hops
  clear hops
  refine walkO_take (o := _) (v := ?_) (by rw [HOPS.out]; simp only [List.getElem?_toArray, List.getElem?_cons_succ, List.getElem?_cons_zero]; exact rfl) (Or.inl ⟨rfl, ?_⟩) ?_
  rotate_left
  · (intro w hSw; have hSx := HFA.out _ hSw; (try dsimp only at hSx); clear hSw; go_simp) <;> (with_reducible rfl)
  simp only [Act.put, List.setIfInBounds_toArray, List.set_cons_zero, List.set_cons_succ]
  refine walkO_take (o := _) (v := ?_) (by rw [HOPS.out]; simp only [List.getElem?_toArray, List.getElem?_cons_succ, List.getElem?_cons_zero]; exact rfl) (Or.inl ⟨rfl, ?_⟩) ?_
  rotate_left
  · (intro w hSw; have hSx := HFA.out _ hSw; (try dsimp only at hSx); clear hSw; go_simp) <;> (with_reducible rfl)
  simp only [Act.put, List.setIfInBounds_toArray, List.set_cons_zero, List.set_cons_succ]
  refine walkO_call (o := _) (by rw [HOPS.out]; simp only [List.getElem?_toArray, List.getElem?_cons_succ, List.getElem?_cons_zero]; exact rfl) (fun K HK => ?_)
  refine step_call rfl 46 #[(.tmp 35)] #[41] rfl HEV.out #[.agg #[.int .i64 m0.c, .slice c3 m0.q.length j3, .bool m0.busy, .slice c4 m0.rest.length j4, .int .i64 m0.acc, .int .i64 m0.w, .int .i64 m0.r]] (by simp [Act.eval]) (HV1.out _ fd) ?_
  rintro e v1 ⟨rfl, e1⟩
  have e1' := fd.then0 e1
  refine ⟨_, rfl, ?_⟩
  refine HK.out (fun w' => Fr [] w3 w') _ _ (fun _ h => h) (e1') ?_
  clear HK K
  simp only [Act.put, List.setIfInBounds_toArray, List.set_cons_zero, List.set_cons_succ]
  refine walkO_call (o := _) (by rw [HOPS.out]; simp only [List.getElem?_toArray, List.getElem?_cons_succ, List.getElem?_cons_zero]; exact rfl) (fun K HK => ?_)
  refine step_call rfl 47 #[(.tmp 37)] #[41] rfl HER.out #[.agg #[.int .i64 m0.c, .slice a3 m0.q.length k3, .bool m0.busy, .slice a4 m0.rest.length k4, .int .i64 m0.acc, .int .i64 m0.w, .int .i64 m0.r]] (by simp [Act.eval]) (HV2.out _ e1') ?_
  rintro e v2 ⟨rfl, e2⟩
  have e2' := e1'.then0 e2
  refine ⟨_, rfl, ?_⟩
  refine HK.out (fun w' => Fr [] w3 w') _ _ (fun _ h => h) (e2') ?_
  clear HK K
  simp only [Act.put, List.setIfInBounds_toArray, List.set_cons_zero, List.set_cons_succ]
  refine walkO_take (o := _) (v := ?_) (by rw [HOPS.out]; simp only [List.getElem?_toArray, List.getElem?_cons_succ, List.getElem?_cons_zero]; exact rfl) (Or.inl ⟨rfl, ?_⟩) ?_
  rotate_left
  · (intro w hSw; have hSx := HFA.out _ hSw; (try dsimp only at hSx); clear hSw; go_simp) <;> (with_reducible rfl)
  simp only [Act.put, List.setIfInBounds_toArray, List.set_cons_zero, List.set_cons_succ]
  refine walkO_take (o := _) (v := ?_) (by rw [HOPS.out]; simp only [List.getElem?_toArray, List.getElem?_cons_succ, List.getElem?_cons_zero]; exact rfl) (Or.inl ⟨rfl, ?_⟩) ?_
  rotate_left
  · (intro w hSw; have hSx := HFA.out _ hSw; (try dsimp only at hSx); clear hSw; go_simp) <;> (with_reducible rfl)
  simp only [Act.put, List.setIfInBounds_toArray, List.set_cons_zero, List.set_cons_succ]
  refine walkO_take (o := _) (v := ?_) (by rw [HOPS.out]; simp only [List.getElem?_toArray, List.getElem?_cons_succ, List.getElem?_cons_zero]; exact rfl) (Or.inl ⟨by rw [HOPS.out]; rfl, ?_⟩) ?_
  rotate_left
  · (intro w hSw; have hSx := HFA.out _ hSw; (try dsimp only at hSx); clear hSw; go_simp) <;> (with_reducible rfl)
  simp only [Act.put, List.setIfInBounds_toArray, List.set_cons_zero, List.set_cons_succ]
  refine walkO_take (o := _) (v := ?_) (by rw [HOPS.out]; simp only [List.getElem?_toArray, List.getElem?_cons_succ, List.getElem?_cons_zero]; exact rfl) (Or.inl ⟨by rw [HOPS.out]; rfl, ?_⟩) ?_
  rotate_left
  · (intro w hSw; have hSx := HFA.out _ hSw; (try dsimp only at hSx); clear hSw; go_simp) <;> (with_reducible rfl)
  simp only [Act.put, List.setIfInBounds_toArray, List.set_cons_zero, List.set_cons_succ]
  refine walkO_call (o := _) (by rw [HOPS.out]; simp only [List.getElem?_toArray, List.getElem?_cons_succ, List.getElem?_cons_zero]; exact rfl) (fun K HK => ?_)
  refine step_call (by rw [HOPS.out]; rfl) 41 #[(.tmp 41), (.tmp 42)] #[41, 41] rfl HES.out #[.agg #[.int .i64 m0.c, .slice c3 m0.q.length j3, .bool m0.busy, .slice c4 m0.rest.length j4, .int .i64 m0.acc, .int .i64 m0.w, .int .i64 m0.r], .agg #[.int .i64 m0.c, .slice a3 m0.q.length k3, .bool m0.busy, .slice a4 m0.rest.length k4, .int .i64 m0.acc, .int .i64 m0.w, .int .i64 m0.r]] (by simp [Act.eval]) (HV3.out _ e2') ?_
  rintro e v3 ⟨rfl, e3⟩
  have e3' := e2'.then0 e3
  refine ⟨_, rfl, ?_⟩
  refine HK.out (fun w' => Fr [] w3 w') _ _ (fun _ h => h) (e3') ?_
  clear HK K
  simp only [Act.put, List.setIfInBounds_toArray, List.set_cons_zero, List.set_cons_succ]
  refine walkO_take (o := _) (v := ?_) (by rw [HOPS.out]; simp only [List.getElem?_toArray, List.getElem?_cons_succ, List.getElem?_cons_zero]; exact rfl) (Or.inl ⟨by rw [HOPS.out]; rfl, ?_⟩) ?_
  rotate_left
  · (intro w hSw; have hSx := HFA.out _ hSw; (try dsimp only at hSx); clear hSw; go_simp) <;> (with_reducible rfl)
  simp only [Act.put, List.setIfInBounds_toArray, List.set_cons_zero, List.set_cons_succ]
  refine walkO_take (o := _) (v := ?_) (by rw [HOPS.out]; simp only [List.getElem?_toArray, List.getElem?_cons_succ, List.getElem?_cons_zero]; exact rfl) (Or.inl ⟨rfl, ?_⟩) ?_
  rotate_left
  · (intro w hSw; have hSx := HFA.out _ hSw; (try dsimp only at hSx); clear hSw; go_simp) <;> (with_reducible rfl)
  simp only [Act.put, List.setIfInBounds_toArray, List.set_cons_zero, List.set_cons_succ]
  refine walkO_done ?_
  clear HOPS OPS
  have HE3 := Lib.hid e3'
  have x0 : v3.cell? ⟨w.heap.size, 0, none⟩ = some (.int .i64 m0.c) := cell_of ((e3'.keep HQ3.out (by simp)))
  have x1 : v3.cell? ⟨w.heap.size, 1, none⟩ = some (.slice a3 m0.q.length k3) := cell_of ((e3'.keep HQ3.out (by simp)))
  have x2 : v3.cell? ⟨w.heap.size, 2, none⟩ = some (.bool m0.busy) := cell_of ((e3'.keep HQ3.out (by simp)))
  have x3 : v3.cell? ⟨w.heap.size, 3, none⟩ = some (.slice a4 m0.rest.length k4) := cell_of ((e3'.keep HQ3.out (by simp)))
  have x4 : v3.cell? ⟨w.heap.size, 4, none⟩ = some (.int .i64 m0.acc) := cell_of ((e3'.keep HQ3.out (by simp)))
  have x5 : v3.cell? ⟨w.heap.size, 5, none⟩ = some (.int .i64 m0.w) := cell_of ((e3'.keep HQ3.out (by simp)))
  have x6 : v3.cell? ⟨w.heap.size, 6, none⟩ = some (.int .i64 m0.r) := cell_of ((e3'.keep HQ3.out (by simp)))
  clear e3 e3' e2 e2' e1 e1' fd HFA HEV HER HES
  go_wp2_with fail
  refine (HV2.out _ HE3.out).mono ?_
  rintro e w5 ⟨rfl, f5⟩
  have HF35 := Lib.hid (HE3.out.then0 f5)
  clear HE3 HV1 HV2 HV3 f5 x0 x1 x2 x3 x4 x5 x6
  go_wp2_with fail
  refine (known14 _).mono ?_
  rintro e w99 ⟨rfl, f99⟩
  go_wp2_with fail
  go_ret
  exact ⟨by simp, (HF3.out.then0 HF35.out).then0 f99⟩
set_option maxHeartbeats 8000000 in
theorem streamRestores_few {a : Option Addr} {len cap : Nat} {A : List A14} {w : World} {N : Nat → Prop} {v : Value} {m0 : SM} (h : Sv w N v m0) (hA : Acts14 w w.heap.size a len cap A) (hsz : m0.q.length ≤ reachBytes ∧ m0.rest.length ≤ reachBytes) (hbad : fewB14 A = false ∨ 5000 < m0.q.length + m0.rest.length) :
    Calls Try.prog 7 #[v, .slice a len cap] w fun e w' => e = .returned (.bool true) ∧ Fr [] w w' := by
  have hrb := reach_val
  obtain ⟨u1, u2, rfl, hq, hr⟩ := h
  obtain ⟨a3, k3, rfl, _⟩ := id hq
  obtain ⟨a4, k4, rfl, _⟩ := id hr
  have HQ := Lib.hid (And.intro hq hr)
  clear hq hr
  obtain ⟨w0, hw0, f0, q0⟩ : ∃ W, w.alloc (.cells #[.int .i64 m0.c, .slice a3 m0.q.length k3, .bool m0.busy, .slice a4 m0.rest.length k4, .int .i64 m0.acc, .int .i64 m0.w, .int .i64 m0.r] 41) = W ∧ Fr [] w W ∧ S7 W w.heap.size m0.c a3 m0.q.length k3 m0.busy a4 m0.rest.length k4 m0.acc m0.w m0.r := ⟨_, rfl, (Fr.refl _ _).alloc _, newA rfl⟩
  have hz0 := lt_of_heap q0
  have x0 : w0.cell? ⟨w.heap.size, 0, none⟩ = some (.int .i64 m0.c) := cell_of (q0)
  have x1 : w0.cell? ⟨w.heap.size, 1, none⟩ = some (.slice a3 m0.q.length k3) := cell_of (q0)
  have x2 : w0.cell? ⟨w.heap.size, 2, none⟩ = some (.bool m0.busy) := cell_of (q0)
  have x3 : w0.cell? ⟨w.heap.size, 3, none⟩ = some (.slice a4 m0.rest.length k4) := cell_of (q0)
  have x4 : w0.cell? ⟨w.heap.size, 4, none⟩ = some (.int .i64 m0.acc) := cell_of (q0)
  have x5 : w0.cell? ⟨w.heap.size, 5, none⟩ = some (.int .i64 m0.w) := cell_of (q0)
  have x6 : w0.cell? ⟨w.heap.size, 6, none⟩ = some (.int .i64 m0.r) := cell_of (q0)
  have HF0 := Lib.hid f0
  have HQ0 := Lib.hid q0
  have hwr : IntKind.i64.wrap ((m0.q.length : Int) + (m0.rest.length : Int)) = m0.q.length + m0.rest.length := IntWalk.i64_in _ (by omega)
  have HFW := Lib.hid (few14 ((hA.keep f0 (Nat.le_refl _) (by simp)).mono (Nat.le_of_lt hz0) (fun h => h.mono (Nat.le_of_lt hz0))))
  clear hsz hrb hA q0 f0
  by_cases h5 : 5000 < m0.q.length + m0.rest.length
  · have h5' : (5000 : Int) < (m0.q.length : Int) + m0.rest.length := by omega
    clear hbad HFW h5
    go_enter Try.func7, Try.ntmps7
    go_wp2_with fail
    refine (known14 _).mono ?_
    rintro e w99 ⟨rfl, f99⟩
    go_wp2_with fail
    go_ret
    exact ⟨rfl, HF0.out.then0 f99⟩
  · have hf : fewB14 A = false := by rcases hbad with h | h; exact h; exact absurd h h5
    rw [hf] at HFW
    have h5' : (m0.q.length : Int) + m0.rest.length ≤ 5000 := by omega
    clear hbad h5 hf
    go_enter Try.func7, Try.ntmps7
    go_wp2_with fail
    refine HFW.out.mono ?_
    rintro e w' ⟨rfl, rfl⟩
    go_wp2_with fail
    refine (known14 _).mono ?_
    rintro e w99 ⟨rfl, f99⟩
    go_wp2_with fail
    go_ret
    exact ⟨rfl, HF0.out.then0 f99⟩
theorem streamRestores_walk {a : Option Addr} {len cap : Nat} {w : World} {v : Value} (h : ∃ m0, Sv w (fun x => x < w.heap.size) v m0 ∧ m0.q.length ≤ reachBytes ∧ m0.rest.length ≤ reachBytes) (hA : ∃ A, Acts14 w w.heap.size a len cap A) :
    Calls Try.prog 7 #[v, .slice a len cap] w fun e w' => e = .returned (.bool true) ∧ Fr [] w w' := by
  obtain ⟨m0, h, hsz⟩ := h
  obtain ⟨A, hA⟩ := hA
  by_cases hb : fewB14 A = true ∧ m0.q.length + m0.rest.length ≤ 5000
  · cases hv : validM m0 with
    | true => exact streamRestores_main h (fun _ hx => hx) hb.2 hA hb.1 hv
    | false => exact streamRestores_bad h hb.2 hA hb.1 hv
  · refine streamRestores_few h hA hsz ?_
    cases hf : fewB14 A with
    | false => exact .inl rfl
    | true => exact .inr (by have : ¬ _ := fun hc => hb ⟨hf, hc⟩; omega)
end Go.Proofs.Ytdoamelhclnphaa
