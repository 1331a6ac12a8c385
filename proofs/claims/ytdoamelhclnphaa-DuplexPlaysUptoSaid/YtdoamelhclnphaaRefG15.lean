/-
  The reference of layer 15: New.
-/
import Derived.Test.YtdoamelhclnphaaRefD15
import Derived.Test.YtdoamelhclnphaaRefA
namespace Go.Proofs.Ytdoamelhclnphaa
open Go.RowKit
set_option maxRecDepth 100000

set_option maxHeartbeats 8000000 in
theorem r15_new_go {w : World} {c0 c1 : Int} {m0 m1 : SM} (HR0 : Hid (∀ w1, Calls Try.prog 37 #[.int .i64 c0] w1 fun e w' => ∃ v', e = .returned (.tuple #[v', .int .i64 0]) ∧ Fr [] w1 w' ∧ Sv w' (fun _ => False) v' m0))
    (HR1 : Hid (∀ w1, Calls Try.prog 37 #[.int .i64 c1] w1 fun e w' => ∃ v', e = .returned (.tuple #[v', .int .i64 0]) ∧ Fr [] w1 w' ∧ Sv w' (fun _ => False) v' m1)) :
    Calls Try.prog 62 #[.int .i64 c0, .int .i64 c1] w fun e w' => ∃ v', e = .returned (.tuple #[v', .int .i64 0]) ∧ Fr [] w w' ∧ Cv w' (fun _ => False) v' ⟨m0, m1, false, false⟩ := by
  obtain ⟨w0, hw0, f0', z0⟩ : ∃ W, w.alloc (.cells #[.int .i64 0, .slice none 0 0, .bool false, .slice none 0 0, .int .i64 0, .int .i64 0, .int .i64 0, .int .i64 0, .slice none 0 0, .bool false, .slice none 0 0, .int .i64 0, .int .i64 0, .int .i64 0, .bool false, .bool false] 44) = W ∧ Fr [] w W ∧ W.heap[w.heap.size]? = some (.cells #[.int .i64 0, .slice none 0 0, .bool false, .slice none 0 0, .int .i64 0, .int .i64 0, .int .i64 0, .int .i64 0, .slice none 0 0, .bool false, .slice none 0 0, .int .i64 0, .int .i64 0, .int .i64 0, .bool false, .bool false] 44 (0, 0)) := ⟨_, rfl, (Fr.refl _ _).alloc _, newA rfl⟩
  have HZS := Lib.hid z0
  have HFS := Lib.hid f0'
  have zw := lt_of_heap z0
  clear z0 f0'
  go_enter Try.func62, Try.ntmps62
  go_wp2_with fail
  refine (HR0.out _).mono ?_
  rintro e u0 ⟨v0, rfl, f0, hv0⟩
  obtain ⟨t0, t1, rfl, p0, p1⟩ := hv0
  obtain ⟨a0, k0, rfl, _⟩ := id p0
  obtain ⟨a1, k1, rfl, _⟩ := id p1
  obtain ⟨wz0, hwz0, fz0, qz0⟩ : ∃ W, u0.alloc (.cells #[.int .i64 0, .slice none 0 0, .bool false, .slice none 0 0, .int .i64 0, .int .i64 0, .int .i64 0] 41) = W ∧ Fr [] u0 W ∧ W.heap[u0.heap.size]? = some (.cells #[.int .i64 0, .slice none 0 0, .bool false, .slice none 0 0, .int .i64 0, .int .i64 0, .int .i64 0] 41 (0, 0)) := ⟨_, rfl, (Fr.refl _ _).alloc _, newA rfl⟩
  have HQZ0 := Lib.hid qz0
  have HP0 := Lib.hid (And.intro p0 p1)
  have HFA0 := Lib.hid (And.intro f0 fz0)
  have zz0 := lt_of_heap qz0
  have zf0 := f0.size
  clear p0 p1 qz0 f0 fz0 HR0
  go_wp2_with (refine wpl_store rfl 41 _ _ rfl u0.heap.size #[.int .i64 m0.c, .slice a0 m0.q.length k0, .bool m0.busy, .slice a1 m0.rest.length k1, .int .i64 m0.acc, .int .i64 m0.w, .int .i64 m0.r] (by rfl) (by rfl) _ _ HQZ0.out (by kernel_rfl) rfl (by simp [Value.oneCell']) ?_)
  intro r0 g0 q0
  clear hwz0
  have HU0 := Lib.hid (show Fr [] u0 r0 from HFA0.out.2.trans g0 (U := []) (by simp) (fun x hx => .inr (by simp at hx; omega)))
  have HG0 := Lib.hid (show Fr [] w0 r0 from (HFA0.out.1.then0 HFA0.out.2).trans g0 (U := []) (by simp) (fun x hx => .inr (by simp at hx; omega)))
  have zg0 := HG0.out.size
  have HQ0 := Lib.hid q0
  have zl0 := lt_of_heap q0
  clear g0 q0 HQZ0
  go_wp2_with fail
  refine (HR1.out _).mono ?_
  rintro e u1 ⟨v1, rfl, f1, hv1⟩
  obtain ⟨t2, t3, rfl, p2, p3⟩ := hv1
  obtain ⟨a2, k2, rfl, _⟩ := id p2
  obtain ⟨a3, k3, rfl, _⟩ := id p3
  obtain ⟨wz1, hwz1, fz1, qz1⟩ : ∃ W, u1.alloc (.cells #[.int .i64 0, .slice none 0 0, .bool false, .slice none 0 0, .int .i64 0, .int .i64 0, .int .i64 0] 41) = W ∧ Fr [] u1 W ∧ W.heap[u1.heap.size]? = some (.cells #[.int .i64 0, .slice none 0 0, .bool false, .slice none 0 0, .int .i64 0, .int .i64 0, .int .i64 0] 41 (0, 0)) := ⟨_, rfl, (Fr.refl _ _).alloc _, newA rfl⟩
  have HQZ1 := Lib.hid qz1
  have HP1 := Lib.hid (And.intro p2 p3)
  have HFA1 := Lib.hid (And.intro f1 fz1)
  have zz1 := lt_of_heap qz1
  have zf1 := f1.size
  clear p2 p3 qz1 f1 fz1 HR1
  go_wp2_with (refine wpl_store rfl 41 _ _ rfl u1.heap.size #[.int .i64 m1.c, .slice a2 m1.q.length k2, .bool m1.busy, .slice a3 m1.rest.length k3, .int .i64 m1.acc, .int .i64 m1.w, .int .i64 m1.r] (by rfl) (by rfl) _ _ HQZ1.out (by kernel_rfl) rfl (by simp [Value.oneCell']) ?_)
  intro r1 g1 q1
  clear hwz1
  have HU1 := Lib.hid (show Fr [] u1 r1 from HFA1.out.2.trans g1 (U := []) (by simp) (fun x hx => .inr (by simp at hx; omega)))
  have HG1 := Lib.hid (show Fr [] r0 r1 from (HFA1.out.1.then0 HFA1.out.2).trans g1 (U := []) (by simp) (fun x hx => .inr (by simp at hx; omega)))
  have zg1 := HG1.out.size
  have HQ1 := Lib.hid q1
  have zl1 := lt_of_heap q1
  clear g1 q1 HQZ1
  have HGG := Lib.hid (HG0.out.then0 HG1.out)
  have HZ2 := Lib.hid (show r1.heap[w.heap.size]? = some (.cells #[.int .i64 0, .slice none 0 0, .bool false, .slice none 0 0, .int .i64 0, .int .i64 0, .int .i64 0, .int .i64 0, .slice none 0 0, .bool false, .slice none 0 0, .int .i64 0, .int .i64 0, .int .i64 0, .bool false, .bool false] 44 (0, 0)) from HGG.out.keep HZS.out (by simp))
  have QA := HG1.out.keep HQ0.out (by simp)
  have QB := HQ1.out
  have x0 : r1.cell? ⟨u0.heap.size, 0, none⟩ = some (.int .i64 m0.c) := cell_of QA
  have x1 : r1.cell? ⟨u0.heap.size, 1, none⟩ = some (.slice a0 m0.q.length k0) := cell_of QA
  have x2 : r1.cell? ⟨u0.heap.size, 2, none⟩ = some (.bool m0.busy) := cell_of QA
  have x3 : r1.cell? ⟨u0.heap.size, 3, none⟩ = some (.slice a1 m0.rest.length k1) := cell_of QA
  have x4 : r1.cell? ⟨u0.heap.size, 4, none⟩ = some (.int .i64 m0.acc) := cell_of QA
  have x5 : r1.cell? ⟨u0.heap.size, 5, none⟩ = some (.int .i64 m0.w) := cell_of QA
  have x6 : r1.cell? ⟨u0.heap.size, 6, none⟩ = some (.int .i64 m0.r) := cell_of QA
  have y0 : r1.cell? ⟨u1.heap.size, 0, none⟩ = some (.int .i64 m1.c) := cell_of QB
  have y1 : r1.cell? ⟨u1.heap.size, 1, none⟩ = some (.slice a2 m1.q.length k2) := cell_of QB
  have y2 : r1.cell? ⟨u1.heap.size, 2, none⟩ = some (.bool m1.busy) := cell_of QB
  have y3 : r1.cell? ⟨u1.heap.size, 3, none⟩ = some (.slice a3 m1.rest.length k3) := cell_of QB
  have y4 : r1.cell? ⟨u1.heap.size, 4, none⟩ = some (.int .i64 m1.acc) := cell_of QB
  have y5 : r1.cell? ⟨u1.heap.size, 5, none⟩ = some (.int .i64 m1.w) := cell_of QB
  have y6 : r1.cell? ⟨u1.heap.size, 6, none⟩ = some (.int .i64 m1.r) := cell_of QB
  clear QA QB
  go_wp2_with (refine wpl_store rfl 44 _ _ rfl w.heap.size #[.int .i64 m0.c, .slice a0 m0.q.length k0, .bool m0.busy, .slice a1 m0.rest.length k1, .int .i64 m0.acc, .int .i64 m0.w, .int .i64 m0.r, .int .i64 m1.c, .slice a2 m1.q.length k2, .bool m1.busy, .slice a3 m1.rest.length k3, .int .i64 m1.acc, .int .i64 m1.w, .int .i64 m1.r, .bool false, .bool false] (by rfl) (by rfl) _ _ HZ2.out (by kernel_rfl) rfl (by simp [Value.oneCell']) ?_)
  intro wf ff qf
  clear x0 y0 x1 y1 x2 y2 x3 y3 x4 y4 x5 y5 x6 y6
  have b0 : wf.cell? ⟨w.heap.size, 0, none⟩ = some (.int .i64 m0.c) := cell_of (qf)
  have b1 : wf.cell? ⟨w.heap.size, 1, none⟩ = some (.slice a0 m0.q.length k0) := cell_of (qf)
  have b2 : wf.cell? ⟨w.heap.size, 2, none⟩ = some (.bool m0.busy) := cell_of (qf)
  have b3 : wf.cell? ⟨w.heap.size, 3, none⟩ = some (.slice a1 m0.rest.length k1) := cell_of (qf)
  have b4 : wf.cell? ⟨w.heap.size, 4, none⟩ = some (.int .i64 m0.acc) := cell_of (qf)
  have b5 : wf.cell? ⟨w.heap.size, 5, none⟩ = some (.int .i64 m0.w) := cell_of (qf)
  have b6 : wf.cell? ⟨w.heap.size, 6, none⟩ = some (.int .i64 m0.r) := cell_of (qf)
  have b7 : wf.cell? ⟨w.heap.size, 7, none⟩ = some (.int .i64 m1.c) := cell_of (qf)
  have b8 : wf.cell? ⟨w.heap.size, 8, none⟩ = some (.slice a2 m1.q.length k2) := cell_of (qf)
  have b9 : wf.cell? ⟨w.heap.size, 9, none⟩ = some (.bool m1.busy) := cell_of (qf)
  have b10 : wf.cell? ⟨w.heap.size, 10, none⟩ = some (.slice a3 m1.rest.length k3) := cell_of (qf)
  have b11 : wf.cell? ⟨w.heap.size, 11, none⟩ = some (.int .i64 m1.acc) := cell_of (qf)
  have b12 : wf.cell? ⟨w.heap.size, 12, none⟩ = some (.int .i64 m1.w) := cell_of (qf)
  have b13 : wf.cell? ⟨w.heap.size, 13, none⟩ = some (.int .i64 m1.r) := cell_of (qf)
  have b14 : wf.cell? ⟨w.heap.size, 14, none⟩ = some (.bool false) := cell_of (qf)
  have b15 : wf.cell? ⟨w.heap.size, 15, none⟩ = some (.bool false) := cell_of (qf)
  go_wp2_with fail
  refine bodyPost_ret (v := .tuple #[.agg #[.int .i64 m0.c, .slice a0 m0.q.length k0, .bool m0.busy, .slice a1 m0.rest.length k1, .int .i64 m0.acc, .int .i64 m0.w, .int .i64 m0.r, .int .i64 m1.c, .slice a2 m1.q.length k2, .bool m1.busy, .slice a3 m1.rest.length k3, .int .i64 m1.acc, .int .i64 m1.w, .int .i64 m1.r, .bool false, .bool false], .int .i64 0]) (by simp [results, Try.results62, go_sem, b0, b1, b2, b3, b4, b5, b6, b7, b8, b9, b10, b11, b12, b13, b14, b15]) rfl ?_
  have F : Fr [] w wf := (HFS.out.then0 HGG.out).trans ff (U := []) (by simp) (fun x hx => .inr (by simp at hx; omega))
  have K0 : Fr [w.heap.size] u0 wf := Fr.trans (U := [w.heap.size]) (S := []) (Fr.trans (U := []) (S := []) HU0.out HG1.out (by simp) (by simp)) ff (by simp) (fun x hx => .inl hx)
  have K1 : Fr [w.heap.size] u1 wf := Fr.trans (U := [w.heap.size]) (S := []) HU1.out ff (by simp) (fun x hx => .inl hx)
  exact ⟨_, rfl, F, _, _, _, _, rfl, HP0.out.1.keep K0 (fun _ _ h => h), HP0.out.2.keep K0 (fun _ _ h => h), HP1.out.1.keep K1 (fun _ _ h => h), HP1.out.2.keep K1 (fun _ _ h => h)⟩
set_option maxHeartbeats 8000000 in
theorem r15_new_bad0 {w : World} {c0 c1 ee : Int} {m0 m1 : SM} (HR0 : Hid (∀ w1, Calls Try.prog 37 #[.int .i64 c0] w1 fun e w' => ∃ v', e = .returned (.tuple #[v', .int .i64 2]) ∧ Fr [] w1 w' ∧ Sv w' (fun _ => False) v' m0))
    (HR1 : Hid (∀ w1, Calls Try.prog 37 #[.int .i64 c1] w1 fun e w' => ∃ v', e = .returned (.tuple #[v', .int .i64 ee]) ∧ Fr [] w1 w' ∧ Sv w' (fun _ => False) v' m1)) :
    Calls Try.prog 62 #[.int .i64 c0, .int .i64 c1] w fun e w' => e = .returned (.tuple #[.agg #[.int .i64 0, .slice none 0 0, .bool false, .slice none 0 0, .int .i64 0, .int .i64 0, .int .i64 0, .int .i64 0, .slice none 0 0, .bool false, .slice none 0 0, .int .i64 0, .int .i64 0, .int .i64 0, .bool false, .bool false], .int .i64 2]) ∧ Fr [] w w' := by
  obtain ⟨w0, hw0, f0', z0⟩ : ∃ W, w.alloc (.cells #[.int .i64 0, .slice none 0 0, .bool false, .slice none 0 0, .int .i64 0, .int .i64 0, .int .i64 0, .int .i64 0, .slice none 0 0, .bool false, .slice none 0 0, .int .i64 0, .int .i64 0, .int .i64 0, .bool false, .bool false] 44) = W ∧ Fr [] w W ∧ W.heap[w.heap.size]? = some (.cells #[.int .i64 0, .slice none 0 0, .bool false, .slice none 0 0, .int .i64 0, .int .i64 0, .int .i64 0, .int .i64 0, .slice none 0 0, .bool false, .slice none 0 0, .int .i64 0, .int .i64 0, .int .i64 0, .bool false, .bool false] 44 (0, 0)) := ⟨_, rfl, (Fr.refl _ _).alloc _, newA rfl⟩
  have HZS := Lib.hid z0
  have HFS := Lib.hid f0'
  have zw := lt_of_heap z0
  clear z0 f0'
  go_enter Try.func62, Try.ntmps62
  go_wp2_with fail
  refine (HR0.out _).mono ?_
  rintro e u0 ⟨v0, rfl, f0, hv0⟩
  obtain ⟨t0, t1, rfl, p0, p1⟩ := hv0
  obtain ⟨a0, k0, rfl, _⟩ := id p0
  obtain ⟨a1, k1, rfl, _⟩ := id p1
  obtain ⟨wz0, hwz0, fz0, qz0⟩ : ∃ W, u0.alloc (.cells #[.int .i64 0, .slice none 0 0, .bool false, .slice none 0 0, .int .i64 0, .int .i64 0, .int .i64 0] 41) = W ∧ Fr [] u0 W ∧ W.heap[u0.heap.size]? = some (.cells #[.int .i64 0, .slice none 0 0, .bool false, .slice none 0 0, .int .i64 0, .int .i64 0, .int .i64 0] 41 (0, 0)) := ⟨_, rfl, (Fr.refl _ _).alloc _, newA rfl⟩
  have HQZ0 := Lib.hid qz0
  have HP0 := Lib.hid (And.intro p0 p1)
  have HFA0 := Lib.hid (And.intro f0 fz0)
  have zz0 := lt_of_heap qz0
  have zf0 := f0.size
  clear p0 p1 qz0 f0 fz0 HR0
  go_wp2_with (refine wpl_store rfl 41 _ _ rfl u0.heap.size #[.int .i64 m0.c, .slice a0 m0.q.length k0, .bool m0.busy, .slice a1 m0.rest.length k1, .int .i64 m0.acc, .int .i64 m0.w, .int .i64 m0.r] (by rfl) (by rfl) _ _ HQZ0.out (by kernel_rfl) rfl (by simp [Value.oneCell']) ?_)
  intro r0 g0 q0
  clear hwz0
  have HG0 := Lib.hid (show Fr [] w0 r0 from (HFA0.out.1.then0 HFA0.out.2).trans g0 (U := []) (by simp) (fun x hx => .inr (by simp at hx; omega)))
  have zg0 := HG0.out.size
  have HQ0 := Lib.hid q0
  have zl0 := lt_of_heap q0
  clear g0 q0 HQZ0
  go_wp2_with fail
  refine (HR1.out _).mono ?_
  rintro e u1 ⟨v1, rfl, f1, hv1⟩
  obtain ⟨t2, t3, rfl, p2, p3⟩ := hv1
  obtain ⟨a2, k2, rfl, _⟩ := id p2
  obtain ⟨a3, k3, rfl, _⟩ := id p3
  obtain ⟨wz1, hwz1, fz1, qz1⟩ : ∃ W, u1.alloc (.cells #[.int .i64 0, .slice none 0 0, .bool false, .slice none 0 0, .int .i64 0, .int .i64 0, .int .i64 0] 41) = W ∧ Fr [] u1 W ∧ W.heap[u1.heap.size]? = some (.cells #[.int .i64 0, .slice none 0 0, .bool false, .slice none 0 0, .int .i64 0, .int .i64 0, .int .i64 0] 41 (0, 0)) := ⟨_, rfl, (Fr.refl _ _).alloc _, newA rfl⟩
  have HQZ1 := Lib.hid qz1
  have HP1 := Lib.hid (And.intro p2 p3)
  have HFA1 := Lib.hid (And.intro f1 fz1)
  have zz1 := lt_of_heap qz1
  have zf1 := f1.size
  clear p2 p3 qz1 f1 fz1 HR1
  go_wp2_with (refine wpl_store rfl 41 _ _ rfl u1.heap.size #[.int .i64 m1.c, .slice a2 m1.q.length k2, .bool m1.busy, .slice a3 m1.rest.length k3, .int .i64 m1.acc, .int .i64 m1.w, .int .i64 m1.r] (by rfl) (by rfl) _ _ HQZ1.out (by kernel_rfl) rfl (by simp [Value.oneCell']) ?_)
  intro r1 g1 q1
  clear hwz1
  have HG1 := Lib.hid (show Fr [] r0 r1 from (HFA1.out.1.then0 HFA1.out.2).trans g1 (U := []) (by simp) (fun x hx => .inr (by simp at hx; omega)))
  have zg1 := HG1.out.size
  have HQ1 := Lib.hid q1
  have zl1 := lt_of_heap q1
  clear g1 q1 HQZ1
  have HGG := Lib.hid (HG0.out.then0 HG1.out)
  have HZ2 := Lib.hid (show r1.heap[w.heap.size]? = some (.cells #[.int .i64 0, .slice none 0 0, .bool false, .slice none 0 0, .int .i64 0, .int .i64 0, .int .i64 0, .int .i64 0, .slice none 0 0, .bool false, .slice none 0 0, .int .i64 0, .int .i64 0, .int .i64 0, .bool false, .bool false] 44 (0, 0)) from HGG.out.keep HZS.out (by simp))
  have QA := HG1.out.keep HQ0.out (by simp)
  have QB := HQ1.out
  clear QA QB
  go_wp2_with (refine wpl_store rfl 44 _ _ rfl w.heap.size #[.int .i64 0, .slice none 0 0, .bool false, .slice none 0 0, .int .i64 0, .int .i64 0, .int .i64 0, .int .i64 0, .slice none 0 0, .bool false, .slice none 0 0, .int .i64 0, .int .i64 0, .int .i64 0, .bool false, .bool false] (by rfl) (by rfl) _ _ HZ2.out (by kernel_rfl) rfl (by simp [Value.oneCell']) ?_)
  intro wf ff qf
  have b0 : wf.cell? ⟨w.heap.size, 0, none⟩ = some (.int .i64 0) := cell_of (qf)
  have b1 : wf.cell? ⟨w.heap.size, 1, none⟩ = some (.slice none 0 0) := cell_of (qf)
  have b2 : wf.cell? ⟨w.heap.size, 2, none⟩ = some (.bool false) := cell_of (qf)
  have b3 : wf.cell? ⟨w.heap.size, 3, none⟩ = some (.slice none 0 0) := cell_of (qf)
  have b4 : wf.cell? ⟨w.heap.size, 4, none⟩ = some (.int .i64 0) := cell_of (qf)
  have b5 : wf.cell? ⟨w.heap.size, 5, none⟩ = some (.int .i64 0) := cell_of (qf)
  have b6 : wf.cell? ⟨w.heap.size, 6, none⟩ = some (.int .i64 0) := cell_of (qf)
  have b7 : wf.cell? ⟨w.heap.size, 7, none⟩ = some (.int .i64 0) := cell_of (qf)
  have b8 : wf.cell? ⟨w.heap.size, 8, none⟩ = some (.slice none 0 0) := cell_of (qf)
  have b9 : wf.cell? ⟨w.heap.size, 9, none⟩ = some (.bool false) := cell_of (qf)
  have b10 : wf.cell? ⟨w.heap.size, 10, none⟩ = some (.slice none 0 0) := cell_of (qf)
  have b11 : wf.cell? ⟨w.heap.size, 11, none⟩ = some (.int .i64 0) := cell_of (qf)
  have b12 : wf.cell? ⟨w.heap.size, 12, none⟩ = some (.int .i64 0) := cell_of (qf)
  have b13 : wf.cell? ⟨w.heap.size, 13, none⟩ = some (.int .i64 0) := cell_of (qf)
  have b14 : wf.cell? ⟨w.heap.size, 14, none⟩ = some (.bool false) := cell_of (qf)
  have b15 : wf.cell? ⟨w.heap.size, 15, none⟩ = some (.bool false) := cell_of (qf)
  go_wp2_with fail
  refine bodyPost_ret (v := .tuple #[.agg #[.int .i64 0, .slice none 0 0, .bool false, .slice none 0 0, .int .i64 0, .int .i64 0, .int .i64 0, .int .i64 0, .slice none 0 0, .bool false, .slice none 0 0, .int .i64 0, .int .i64 0, .int .i64 0, .bool false, .bool false], .int .i64 2]) (by simp [results, Try.results62, go_sem, b0, b1, b2, b3, b4, b5, b6, b7, b8, b9, b10, b11, b12, b13, b14, b15]) rfl ?_
  have F : Fr [] w wf := (HFS.out.then0 HGG.out).trans ff (U := []) (by simp) (fun x hx => .inr (by simp at hx; omega))
  exact ⟨rfl, F⟩
set_option maxHeartbeats 8000000 in
theorem r15_new_bad1 {w : World} {c0 c1 : Int} {m0 m1 : SM} (HR0 : Hid (∀ w1, Calls Try.prog 37 #[.int .i64 c0] w1 fun e w' => ∃ v', e = .returned (.tuple #[v', .int .i64 0]) ∧ Fr [] w1 w' ∧ Sv w' (fun _ => False) v' m0))
    (HR1 : Hid (∀ w1, Calls Try.prog 37 #[.int .i64 c1] w1 fun e w' => ∃ v', e = .returned (.tuple #[v', .int .i64 2]) ∧ Fr [] w1 w' ∧ Sv w' (fun _ => False) v' m1)) :
    Calls Try.prog 62 #[.int .i64 c0, .int .i64 c1] w fun e w' => e = .returned (.tuple #[.agg #[.int .i64 0, .slice none 0 0, .bool false, .slice none 0 0, .int .i64 0, .int .i64 0, .int .i64 0, .int .i64 0, .slice none 0 0, .bool false, .slice none 0 0, .int .i64 0, .int .i64 0, .int .i64 0, .bool false, .bool false], .int .i64 2]) ∧ Fr [] w w' := by
  obtain ⟨w0, hw0, f0', z0⟩ : ∃ W, w.alloc (.cells #[.int .i64 0, .slice none 0 0, .bool false, .slice none 0 0, .int .i64 0, .int .i64 0, .int .i64 0, .int .i64 0, .slice none 0 0, .bool false, .slice none 0 0, .int .i64 0, .int .i64 0, .int .i64 0, .bool false, .bool false] 44) = W ∧ Fr [] w W ∧ W.heap[w.heap.size]? = some (.cells #[.int .i64 0, .slice none 0 0, .bool false, .slice none 0 0, .int .i64 0, .int .i64 0, .int .i64 0, .int .i64 0, .slice none 0 0, .bool false, .slice none 0 0, .int .i64 0, .int .i64 0, .int .i64 0, .bool false, .bool false] 44 (0, 0)) := ⟨_, rfl, (Fr.refl _ _).alloc _, newA rfl⟩
  have HZS := Lib.hid z0
  have HFS := Lib.hid f0'
  have zw := lt_of_heap z0
  clear z0 f0'
  go_enter Try.func62, Try.ntmps62
  go_wp2_with fail
  refine (HR0.out _).mono ?_
  rintro e u0 ⟨v0, rfl, f0, hv0⟩
  obtain ⟨t0, t1, rfl, p0, p1⟩ := hv0
  obtain ⟨a0, k0, rfl, _⟩ := id p0
  obtain ⟨a1, k1, rfl, _⟩ := id p1
  obtain ⟨wz0, hwz0, fz0, qz0⟩ : ∃ W, u0.alloc (.cells #[.int .i64 0, .slice none 0 0, .bool false, .slice none 0 0, .int .i64 0, .int .i64 0, .int .i64 0] 41) = W ∧ Fr [] u0 W ∧ W.heap[u0.heap.size]? = some (.cells #[.int .i64 0, .slice none 0 0, .bool false, .slice none 0 0, .int .i64 0, .int .i64 0, .int .i64 0] 41 (0, 0)) := ⟨_, rfl, (Fr.refl _ _).alloc _, newA rfl⟩
  have HQZ0 := Lib.hid qz0
  have HP0 := Lib.hid (And.intro p0 p1)
  have HFA0 := Lib.hid (And.intro f0 fz0)
  have zz0 := lt_of_heap qz0
  have zf0 := f0.size
  clear p0 p1 qz0 f0 fz0 HR0
  go_wp2_with (refine wpl_store rfl 41 _ _ rfl u0.heap.size #[.int .i64 m0.c, .slice a0 m0.q.length k0, .bool m0.busy, .slice a1 m0.rest.length k1, .int .i64 m0.acc, .int .i64 m0.w, .int .i64 m0.r] (by rfl) (by rfl) _ _ HQZ0.out (by kernel_rfl) rfl (by simp [Value.oneCell']) ?_)
  intro r0 g0 q0
  clear hwz0
  have HG0 := Lib.hid (show Fr [] w0 r0 from (HFA0.out.1.then0 HFA0.out.2).trans g0 (U := []) (by simp) (fun x hx => .inr (by simp at hx; omega)))
  have zg0 := HG0.out.size
  have HQ0 := Lib.hid q0
  have zl0 := lt_of_heap q0
  clear g0 q0 HQZ0
  go_wp2_with fail
  refine (HR1.out _).mono ?_
  rintro e u1 ⟨v1, rfl, f1, hv1⟩
  obtain ⟨t2, t3, rfl, p2, p3⟩ := hv1
  obtain ⟨a2, k2, rfl, _⟩ := id p2
  obtain ⟨a3, k3, rfl, _⟩ := id p3
  obtain ⟨wz1, hwz1, fz1, qz1⟩ : ∃ W, u1.alloc (.cells #[.int .i64 0, .slice none 0 0, .bool false, .slice none 0 0, .int .i64 0, .int .i64 0, .int .i64 0] 41) = W ∧ Fr [] u1 W ∧ W.heap[u1.heap.size]? = some (.cells #[.int .i64 0, .slice none 0 0, .bool false, .slice none 0 0, .int .i64 0, .int .i64 0, .int .i64 0] 41 (0, 0)) := ⟨_, rfl, (Fr.refl _ _).alloc _, newA rfl⟩
  have HQZ1 := Lib.hid qz1
  have HP1 := Lib.hid (And.intro p2 p3)
  have HFA1 := Lib.hid (And.intro f1 fz1)
  have zz1 := lt_of_heap qz1
  have zf1 := f1.size
  clear p2 p3 qz1 f1 fz1 HR1
  go_wp2_with (refine wpl_store rfl 41 _ _ rfl u1.heap.size #[.int .i64 m1.c, .slice a2 m1.q.length k2, .bool m1.busy, .slice a3 m1.rest.length k3, .int .i64 m1.acc, .int .i64 m1.w, .int .i64 m1.r] (by rfl) (by rfl) _ _ HQZ1.out (by kernel_rfl) rfl (by simp [Value.oneCell']) ?_)
  intro r1 g1 q1
  clear hwz1
  have HG1 := Lib.hid (show Fr [] r0 r1 from (HFA1.out.1.then0 HFA1.out.2).trans g1 (U := []) (by simp) (fun x hx => .inr (by simp at hx; omega)))
  have zg1 := HG1.out.size
  have HQ1 := Lib.hid q1
  have zl1 := lt_of_heap q1
  clear g1 q1 HQZ1
  have HGG := Lib.hid (HG0.out.then0 HG1.out)
  have HZ2 := Lib.hid (show r1.heap[w.heap.size]? = some (.cells #[.int .i64 0, .slice none 0 0, .bool false, .slice none 0 0, .int .i64 0, .int .i64 0, .int .i64 0, .int .i64 0, .slice none 0 0, .bool false, .slice none 0 0, .int .i64 0, .int .i64 0, .int .i64 0, .bool false, .bool false] 44 (0, 0)) from HGG.out.keep HZS.out (by simp))
  have QA := HG1.out.keep HQ0.out (by simp)
  have QB := HQ1.out
  clear QA QB
  go_wp2_with (refine wpl_store rfl 44 _ _ rfl w.heap.size #[.int .i64 0, .slice none 0 0, .bool false, .slice none 0 0, .int .i64 0, .int .i64 0, .int .i64 0, .int .i64 0, .slice none 0 0, .bool false, .slice none 0 0, .int .i64 0, .int .i64 0, .int .i64 0, .bool false, .bool false] (by rfl) (by rfl) _ _ HZ2.out (by kernel_rfl) rfl (by simp [Value.oneCell']) ?_)
  intro wf ff qf
  have b0 : wf.cell? ⟨w.heap.size, 0, none⟩ = some (.int .i64 0) := cell_of (qf)
  have b1 : wf.cell? ⟨w.heap.size, 1, none⟩ = some (.slice none 0 0) := cell_of (qf)
  have b2 : wf.cell? ⟨w.heap.size, 2, none⟩ = some (.bool false) := cell_of (qf)
  have b3 : wf.cell? ⟨w.heap.size, 3, none⟩ = some (.slice none 0 0) := cell_of (qf)
  have b4 : wf.cell? ⟨w.heap.size, 4, none⟩ = some (.int .i64 0) := cell_of (qf)
  have b5 : wf.cell? ⟨w.heap.size, 5, none⟩ = some (.int .i64 0) := cell_of (qf)
  have b6 : wf.cell? ⟨w.heap.size, 6, none⟩ = some (.int .i64 0) := cell_of (qf)
  have b7 : wf.cell? ⟨w.heap.size, 7, none⟩ = some (.int .i64 0) := cell_of (qf)
  have b8 : wf.cell? ⟨w.heap.size, 8, none⟩ = some (.slice none 0 0) := cell_of (qf)
  have b9 : wf.cell? ⟨w.heap.size, 9, none⟩ = some (.bool false) := cell_of (qf)
  have b10 : wf.cell? ⟨w.heap.size, 10, none⟩ = some (.slice none 0 0) := cell_of (qf)
  have b11 : wf.cell? ⟨w.heap.size, 11, none⟩ = some (.int .i64 0) := cell_of (qf)
  have b12 : wf.cell? ⟨w.heap.size, 12, none⟩ = some (.int .i64 0) := cell_of (qf)
  have b13 : wf.cell? ⟨w.heap.size, 13, none⟩ = some (.int .i64 0) := cell_of (qf)
  have b14 : wf.cell? ⟨w.heap.size, 14, none⟩ = some (.bool false) := cell_of (qf)
  have b15 : wf.cell? ⟨w.heap.size, 15, none⟩ = some (.bool false) := cell_of (qf)
  go_wp2_with fail
  refine bodyPost_ret (v := .tuple #[.agg #[.int .i64 0, .slice none 0 0, .bool false, .slice none 0 0, .int .i64 0, .int .i64 0, .int .i64 0, .int .i64 0, .slice none 0 0, .bool false, .slice none 0 0, .int .i64 0, .int .i64 0, .int .i64 0, .bool false, .bool false], .int .i64 2]) (by simp [results, Try.results62, go_sem, b0, b1, b2, b3, b4, b5, b6, b7, b8, b9, b10, b11, b12, b13, b14, b15]) rfl ?_
  have F : Fr [] w wf := (HFS.out.then0 HGG.out).trans ff (U := []) (by simp) (fun x hx => .inr (by simp at hx; omega))
  exact ⟨rfl, F⟩
theorem r15_new (w : World) {c0 c1 : Int} (h0 : 0 ≤ c0 ∧ c0 ≤ 4096) (h1 : 0 ≤ c1 ∧ c1 ≤ 4096) :
    Calls Try.prog 62 #[.int .i64 c0, .int .i64 c1] w fun e w' => ∃ v', e = .returned (.tuple #[v', .int .i64 0]) ∧ Fr [] w w' ∧ Cv w' (fun _ => False) v' ⟨newM c0, newM c1, false, false⟩ :=
  r15_new_go (Lib.hid fun w1 => r_new w1 c0 h0.1 h0.2) (Lib.hid fun w1 => r_new w1 c1 h1.1 h1.2)
theorem r15_newbad (w : World) {c0 c1 : Int} (h : ¬ ((0 ≤ c0 ∧ c0 ≤ 4096) ∧ (0 ≤ c1 ∧ c1 ≤ 4096))) :
    Calls Try.prog 62 #[.int .i64 c0, .int .i64 c1] w fun e w' => e = .returned (.tuple #[.agg #[.int .i64 0, .slice none 0 0, .bool false, .slice none 0 0, .int .i64 0, .int .i64 0, .int .i64 0, .int .i64 0, .slice none 0 0, .bool false, .slice none 0 0, .int .i64 0, .int .i64 0, .int .i64 0, .bool false, .bool false], .int .i64 2]) ∧ Fr [] w w' := by
  by_cases h0 : 0 ≤ c0 ∧ c0 ≤ 4096
  · have h1 : ¬ (0 ≤ c1 ∧ c1 ≤ 4096) := fun h1 => h ⟨h0, h1⟩
    exact r15_new_bad1 (Lib.hid fun w1 => r_new w1 c0 h0.1 h0.2) (Lib.hid fun w1 => r_newbad w1 c1 (by omega))
  · by_cases h1 : 0 ≤ c1 ∧ c1 ≤ 4096
    · exact r15_new_bad0 (Lib.hid fun w1 => r_newbad w1 c0 (by omega)) (Lib.hid fun w1 => r_new w1 c1 h1.1 h1.2)
    · exact r15_new_bad0 (Lib.hid fun w1 => r_newbad w1 c0 (by omega)) (Lib.hid fun w1 => r_newbad w1 c1 (by omega))
end Go.Proofs.Ytdoamelhclnphaa
