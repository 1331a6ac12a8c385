/-
  Law 14: step: End, Cancel, CloseWrite, CloseRead.
-/
import Derived.Test.YtdoamelhclnphaaIs14
import Derived.Test.YtdoamelhclnphaaLaw14
namespace Go.Proofs.Ytdoamelhclnphaa
open Go.RowKit
set_option maxRecDepth 100000

/-- What a step leaves. -/
def Step14 (w : World) (F N : Nat → Prop) (m' : SM) (e : Ending) (w' : World) : Prop :=
  ∃ b' v', e = .returned (.tuple #[.pointer (some ⟨b', 0, none⟩), v', .bool true]) ∧ (∃ S, (∀ x ∈ S, F x ∨ w.heap.size ≤ x) ∧ Fr S w w') ∧ ∃ F' N' : Nat → Prop, SF w' F' b' m' ∧ Sv w' N' v' m' ∧ (∀ x, F' x → F x ∨ w.heap.size ≤ x) ∧ (∀ x, N' x → N x ∨ w.heap.size ≤ x) ∧ ∀ x, F' x → ¬ N' x
theorem step_post {w w2 w3 wf : World} {F F' N : Nat → Prop} {S : List Nat} {b : Nat} {mf : SM} {a3 a4 : Option Addr} {k3 k4 : Nat} (f2 : Fr [] w w2) (hS : ∀ x ∈ S, F x ∨ w2.heap.size ≤ x) (f3 : Fr S w2 w3) (hF' : ∀ x, F' x → F x ∨ w2.heap.size ≤ x) (h3 : SF w3 F' b mf) (fx : Fr [(w.heap.size + 2)] w3 wf)
    (hp3 : PartV w2 N (.slice a3 mf.q.length k3) mf.q) (hp4 : PartV w2 N (.slice a4 mf.rest.length k4) mf.rest) (hFl : ∀ x, F x → x < w.heap.size) (hd : ∀ x, F x → ¬ N x) (hz : w.heap.size + 2 < w2.heap.size) (hNz : ∀ x, N x → x < w.heap.size) :
    Step14 w F N mf (.returned (.tuple #[.pointer (some ⟨b, 0, none⟩), .agg #[.int .i64 mf.c, .slice a3 mf.q.length k3, .bool mf.busy, .slice a4 mf.rest.length k4, .int .i64 mf.acc, .int .i64 mf.w, .int .i64 mf.r], .bool true])) wf := by
  have hs2 := f2.size
  refine ⟨_, _, rfl, ⟨(w.heap.size + 2) :: S, fun x hx => ?_, ?_⟩, F', N, h3.keep fx (fun x hx hF => ?_), ⟨_, _, rfl, (hp3.keep f3 (fun x hx hn => ?_)).keep fx (fun x hx hn => ?_), (hp4.keep f3 (fun x hx hn => ?_)).keep fx (fun x hx hn => ?_)⟩, fun x hx => ?_, fun x hx => .inl hx, fun x hx hn => ?_⟩
  · rcases List.mem_cons.1 hx with rfl | hx
    · exact .inr (by omega)
    · rcases hS x hx with h | h
      · exact .inl h
      · exact .inr (by omega)
  · exact (f2.trans f3 (U := (w.heap.size + 2) :: S) (by simp) (fun x hx => .inl (List.mem_cons_of_mem _ hx))).trans fx (fun x hx => .inl hx) (fun x hx => .inl (by simp at hx; simp [hx]))
  · simp at hx
    rcases hF' x hF with h | h
    · have := hFl x h; omega
    · omega
  · rcases hS x hx with h | h
    · exact hd x h hn
    · have := hNz x hn; omega
  · simp at hx
    have := hNz x hn; omega
  · rcases hS x hx with h | h
    · exact hd x h hn
    · have := hNz x hn; omega
  · simp at hx
    have := hNz x hn; omega
  · rcases hF' x hx with h | h
    · exact .inl h
    · exact .inr (by omega)
  · rcases hF' x hx with h | h
    · exact hd x h hn
    · have := hNz x hn; omega
set_option maxHeartbeats 8000000 in
theorem step_end {w : World} {F N : Nat → Prop} {b : Nat} {m : SM} {v : Value} {pa : Option Addr} {pc : Nat} {ps : Parts} {n : Int} (hs : SF w F b m) (h : Sv w N v m) (hd : ∀ x, F x → ¬ N x) (HNZ : ∀ x, N x → x < w.heap.size) :
    Calls Try.prog 38 #[.pointer (some ⟨b, 0, none⟩), v, .agg #[.int .i64 1, .slice pa ps.length pc, .int .i64 n]] w (Step14 w F N (endM m).m) := by
  have HNW := Lib.hid HNZ
  clear HNZ
  have hFl := hs.lt
  obtain ⟨u1, u2, rfl, hq, hr⟩ := h
  obtain ⟨a1, k1, rfl, _⟩ := id hq
  obtain ⟨a2, k2, rfl, _⟩ := id hr
  have HQ := Lib.hid (And.intro hq hr)
  clear hq hr
  obtain ⟨w0, hw0, f0, q0, qa, z0⟩ : ∃ W, ((w.alloc (.cells #[.int .i64 m.c, .slice a1 m.q.length k1, .bool m.busy, .slice a2 m.rest.length k2, .int .i64 m.acc, .int .i64 m.w, .int .i64 m.r] 41)).alloc (.cells #[.int .i64 1, .slice pa ps.length pc, .int .i64 n] 55)).alloc (.cells #[.int .i64 0, .slice none 0 0, .bool false, .slice none 0 0, .int .i64 0, .int .i64 0, .int .i64 0] 41) = W ∧ Fr [] w W ∧ S7 W w.heap.size m.c a1 m.q.length k1 m.busy a2 m.rest.length k2 m.acc m.w m.r ∧ W.heap[w.heap.size + 1]? = some (.cells #[.int .i64 1, .slice pa ps.length pc, .int .i64 n] 55 (0, 0)) ∧ S7 W (w.heap.size + 2) 0 none 0 0 false none 0 0 0 0 0 := ⟨_, rfl, (((Fr.refl _ _).alloc _).alloc _).alloc _, keepA (keepA (newA rfl)), keepA (newA (by simp)), newA (by simp)⟩
  obtain ⟨x0, x1, x2, x3, x4, x5, x6, p0, p1, p2, p3, p4, p5, p6⟩ := q0.cells
  have e0 : w0.cell? ⟨w.heap.size + 1, 0, none⟩ = some (.int .i64 1) := cell_of qa
  have e1 : w0.cell? ⟨w.heap.size + 1, 1, none⟩ = some (.slice pa ps.length pc) := cell_of qa
  have e2 : w0.cell? ⟨w.heap.size + 1, 2, none⟩ = some (.int .i64 n) := cell_of qa
  have hz0 : w.heap.size + 2 < w0.heap.size := lt_of_heap z0
  have HZ := Lib.hid z0
  have HF := Lib.hid f0
  have HQA := Lib.hid qa
  clear q0 z0 f0 qa
  have HC := Lib.hid (r_end (w := w0) (N := N) (v := .agg #[.int .i64 m.c, .slice a1 m.q.length k1, .bool m.busy, .slice a2 m.rest.length k2, .int .i64 m.acc, .int .i64 m.w, .int .i64 m.r]) (m := m) ⟨_, _, rfl, HQ.out.1.keep HF.out (by simp), HQ.out.2.keep HF.out (by simp)⟩)
  have HS := Lib.hid fun w' (f : Fr [] w w') => sf_end (hs.keep0 f)
  generalize hmf : (endM m).m = mf at *
  generalize hnn : (endM m).n = nn at *
  generalize hee : (endM m).err = ee at *
  have HFl := Lib.hid hFl
  have HD := Lib.hid hd
  clear hFl hd hs hmf hnn hee
  go_enter Try.func38, Try.ntmps38
  go_wp2_with fail
  refine HC.out.mono ?_
  rintro e w1 ⟨v', rfl, f1, u3, u4, rfl, hp3, hp4⟩
  obtain ⟨a3, k3, rfl, _⟩ := id hp3
  obtain ⟨a4, k4, rfl, _⟩ := id hp4
  obtain ⟨w2, hw2, f2, q2⟩ : ∃ W, w1.alloc (.cells #[.int .i64 mf.c, .slice a3 mf.q.length k3, .bool mf.busy, .slice a4 mf.rest.length k4, .int .i64 mf.acc, .int .i64 mf.w, .int .i64 mf.r] 41) = W ∧ Fr [] w1 W ∧ S7 W w1.heap.size mf.c a3 mf.q.length k3 mf.busy a4 mf.rest.length k4 mf.acc mf.w mf.r := ⟨_, rfl, (Fr.refl _ _).alloc _, newA rfl⟩
  have z1 := f1.size
  have hz2 : w1.heap.size < w2.heap.size := lt_of_heap q2
  have HP3 := Lib.hid (hp3.keep f2 (by simp))
  have HP4 := Lib.hid (hp4.keep f2 (by simp))
  have HN2 := Lib.hid q2
  have HF2 := Lib.hid ((HF.out.then0 f1).then0 f2)
  have HZ2 := Lib.hid (show S7 w2 (w.heap.size + 2) 0 none 0 0 false none 0 0 0 0 0 from f2.keep (f1.keep HZ.out (by simp)) (by simp))
  clear x0 x1 x2 x3 x4 x5 x6 p0 p1 p2 p3 p4 p5 p6
  obtain ⟨x0, x1, x2, x3, x4, x5, x6, p0, p1, p2, p3, p4, p5, p6⟩ := q2.cells
  clear hp3 hp4 q2 f1 f2 e0 e1 e2
  go_wp2_with fail
  refine (HS.out w2 HF2.out).mono ?_
  rintro e w3 ⟨rfl, ⟨S, hS, f3⟩, F', hF', h3⟩
  have hSw : ∀ x ∈ S, F x ∨ w2.heap.size ≤ x := hS
  have hnS : ∀ x, w.heap.size ≤ x → x < w2.heap.size → x ∉ S := fun x h1 h2 hm => by rcases hS x hm with h | h; have := HFl.out x h; omega; omega
  have HN3 := Lib.hid (show S7 w3 w1.heap.size mf.c a3 mf.q.length k3 mf.busy a4 mf.rest.length k4 mf.acc mf.w mf.r from f3.keep HN2.out (hnS _ (by omega) hz2))
  have HZS := Lib.hid (show S7 w3 (w.heap.size + 2) 0 none 0 0 false none 0 0 0 0 0 from f3.keep HZ2.out (hnS _ (by omega) (by omega)))
  have HS3 := Lib.hid (And.intro hS (And.intro f3 (And.intro hF' h3)))
  have HNS := Lib.hid hnS
  have hz3 := f3.size
  clear hS f3 hF' h3 hSw hnS x0 x1 x2 x3 x4 x5 x6 p0 p1 p2 p3 p4 p5 p6
  have HFA := Lib.hid fun (w' : World) (f : S7 w' w1.heap.size mf.c a3 mf.q.length k3 mf.busy a4 mf.rest.length k4 mf.acc mf.w mf.r) => (show w'.cell? ⟨w1.heap.size, 0, none⟩ = some (.int .i64 mf.c) ∧ w'.cell? ⟨w1.heap.size, 1, none⟩ = some (.slice a3 mf.q.length k3) ∧ w'.cell? ⟨w1.heap.size, 2, none⟩ = some (.bool mf.busy) ∧ w'.cell? ⟨w1.heap.size, 3, none⟩ = some (.slice a4 mf.rest.length k4) ∧ w'.cell? ⟨w1.heap.size, 4, none⟩ = some (.int .i64 mf.acc) ∧ w'.cell? ⟨w1.heap.size, 5, none⟩ = some (.int .i64 mf.w) ∧ w'.cell? ⟨w1.heap.size, 6, none⟩ = some (.int .i64 mf.r) from (let q := S7.cells f; ⟨q.1, q.2.1, q.2.2.1, q.2.2.2.1, q.2.2.2.2.1, q.2.2.2.2.2.1, q.2.2.2.2.2.2.1⟩))
  go_wp2_with fail
  have fd : Fr [] w3 w3.drew := (Fr.refl _ _).drew
  replace HZS := Lib.hid (show S7 w3.drew (w.heap.size + 2) 0 none 0 0 false none 0 0 0 0 0 from fd.keep HZS.out (by simp))
  refine wp_region_order [(0, true), (1, true), (2, true), (3, true), (4, true), (5, true), (6, true), (7, true), (8, true), (9, true), (10, true), (11, false), (12, true)] (fun w' => S7 w' w1.heap.size mf.c a3 mf.q.length k3 mf.busy a4 mf.rest.length k4 mf.acc mf.w mf.r) (by kernel_rfl) (by kernel_rfl) (fd.keep HN3.out (by simp)) ?_
  intro OPS HOPS
  have hops := HOPS.out
  try simp only [List.append_eq, List.cons_append, List.nil_append] at hops
  replace HOPS := Lib.hid hops
  clear hops
  refine walkO_take (o := _) (v := ?_) (by rw [HOPS.out]; simp only [List.getElem?_toArray, List.getElem?_cons_succ, List.getElem?_cons_zero]; exact rfl) (Or.inl ⟨rfl, ?_⟩) ?_
  rotate_left
  · (intro w hSw; have hSx := HFA.out _ hSw; (try dsimp only at hSx); clear hSw; go_simp) <;> (with_reducible rfl)
  simp only [Act.put, List.setIfInBounds_toArray, List.set_cons_zero, List.set_cons_succ]
  refine walkO_take (o := _) (v := ?_) (by rw [HOPS.out]; simp only [List.getElem?_toArray, List.getElem?_cons_succ, List.getElem?_cons_zero]; exact rfl) (Or.inl ⟨rfl, ?_⟩) ?_
  rotate_left
  · (intro w hSw; have hSx := HFA.out _ hSw; (try dsimp only at hSx); clear hSw; go_simp) <;> (with_reducible rfl)
  simp only [Act.put, List.setIfInBounds_toArray, List.set_cons_zero, List.set_cons_succ]
  refine walkO_take (o := _) (v := ?_) (by rw [HOPS.out]; simp only [List.getElem?_toArray, List.getElem?_cons_succ, List.getElem?_cons_zero]; exact rfl) (Or.inl ⟨rfl, ?_⟩) ?_
  rotate_left
  · (intro w hSw; have hSx := HFA.out _ hSw; (try dsimp only at hSx); clear hSw; go_simp) <;> (with_reducible rfl)
  simp only [Act.put, List.setIfInBounds_toArray, List.set_cons_zero, List.set_cons_succ]
  refine walkO_take (o := _) (v := ?_) (by rw [HOPS.out]; simp only [List.getElem?_toArray, List.getElem?_cons_succ, List.getElem?_cons_zero]; exact rfl) (Or.inl ⟨rfl, ?_⟩) ?_
  rotate_left
  · (intro w hSw; have hSx := HFA.out _ hSw; (try dsimp only at hSx); clear hSw; go_simp) <;> (with_reducible rfl)
  simp only [Act.put, List.setIfInBounds_toArray, List.set_cons_zero, List.set_cons_succ]
  refine walkO_take (o := _) (v := ?_) (by rw [HOPS.out]; simp only [List.getElem?_toArray, List.getElem?_cons_succ, List.getElem?_cons_zero]; exact rfl) (Or.inl ⟨rfl, ?_⟩) ?_
  rotate_left
  · (intro w hSw; have hSx := HFA.out _ hSw; (try dsimp only at hSx); clear hSw; go_simp) <;> (with_reducible rfl)
  simp only [Act.put, List.setIfInBounds_toArray, List.set_cons_zero, List.set_cons_succ]
  refine walkO_take (o := _) (v := ?_) (by rw [HOPS.out]; simp only [List.getElem?_toArray, List.getElem?_cons_succ, List.getElem?_cons_zero]; exact rfl) (Or.inl ⟨rfl, ?_⟩) ?_
  rotate_left
  · (intro w hSw; have hSx := HFA.out _ hSw; (try dsimp only at hSx); clear hSw; go_simp) <;> (with_reducible rfl)
  simp only [Act.put, List.setIfInBounds_toArray, List.set_cons_zero, List.set_cons_succ]
  refine walkO_take (o := _) (v := ?_) (by rw [HOPS.out]; simp only [List.getElem?_toArray, List.getElem?_cons_succ, List.getElem?_cons_zero]; exact rfl) (Or.inl ⟨by rw [HOPS.out]; rfl, ?_⟩) ?_
  rotate_left
  · (intro w hSw; have hSx := HFA.out _ hSw; (try dsimp only at hSx); clear hSw; go_simp) <;> (with_reducible rfl)
  simp only [Act.put, List.setIfInBounds_toArray, List.set_cons_zero, List.set_cons_succ]
  refine walkO_take (o := _) (v := ?_) (by rw [HOPS.out]; simp only [List.getElem?_toArray, List.getElem?_cons_succ, List.getElem?_cons_zero]; exact rfl) (Or.inl ⟨by rw [HOPS.out]; rfl, ?_⟩) ?_
  rotate_left
  · (intro w hSw; have hSx := HFA.out _ hSw; (try dsimp only at hSx); clear hSw; go_simp) <;> (with_reducible rfl)
  simp only [Act.put, List.setIfInBounds_toArray, List.set_cons_zero, List.set_cons_succ]
  refine walkO_take (o := _) (v := ?_) (by rw [HOPS.out]; simp only [List.getElem?_toArray, List.getElem?_cons_succ, List.getElem?_cons_zero]; exact rfl) (Or.inl ⟨by rw [HOPS.out]; rfl, ?_⟩) ?_
  rotate_left
  · (intro w hSw; have hSx := HFA.out _ hSw; (try dsimp only at hSx); clear hSw; go_simp) <;> (with_reducible rfl)
  simp only [Act.put, List.setIfInBounds_toArray, List.set_cons_zero, List.set_cons_succ]
  refine walkO_take (o := _) (v := ?_) (by rw [HOPS.out]; simp only [List.getElem?_toArray, List.getElem?_cons_succ, List.getElem?_cons_zero]; exact rfl) (Or.inl ⟨rfl, ?_⟩) ?_
  rotate_left
  · (intro w hSw; have hSx := HFA.out _ hSw; (try dsimp only at hSx); clear hSw; go_simp) <;> (with_reducible rfl)
  simp only [Act.put, List.setIfInBounds_toArray, List.set_cons_zero, List.set_cons_succ]
  refine walkO_take (o := _) (v := ?_) (by rw [HOPS.out]; simp only [List.getElem?_toArray, List.getElem?_cons_succ, List.getElem?_cons_zero]; exact rfl) (Or.inl ⟨rfl, ?_⟩) ?_
  rotate_left
  · (intro w hSw; have hSx := HFA.out _ hSw; (try dsimp only at hSx); clear hSw; go_simp) <;> (with_reducible rfl)
  simp only [Act.put, List.setIfInBounds_toArray, List.set_cons_zero, List.set_cons_succ]
  refine walkO_call (o := _) (by rw [HOPS.out]; simp only [List.getElem?_toArray, List.getElem?_cons_succ, List.getElem?_cons_zero]; exact rfl) (fun K HK => ?_)
  refine step_store7 rfl 41 (.tmp 7) (.tmp 81) rfl (w.heap.size + 2) #[.int .i64 mf.c, .slice a3 mf.q.length k3, .bool mf.busy, .slice a4 mf.rest.length k4, .int .i64 mf.acc, .int .i64 mf.w, .int .i64 mf.r] (by simp [Act.eval]) (by simp [Act.eval]) _ _ HZS.out (by kernel_rfl) rfl (by simp [Value.oneCell']) ?_
  intro wf ff qf
  obtain ⟨y0, y1, y2, y3, y4, y5, y6, _, _, _, _, _, _, _⟩ := S7.cells qf
  refine HK.out (fun w' => S7 w' w1.heap.size mf.c a3 mf.q.length k3 mf.busy a4 mf.rest.length k4 mf.acc mf.w mf.r) _ _ (fun _ h => h) (ff.keep (fd.keep HN3.out (by simp)) (by intro hm; simp at hm; omega)) ?_
  clear HK K
  try simp only [Act.put, List.setIfInBounds_toArray, List.set_cons_zero, List.set_cons_succ]
  refine walkO_take (o := _) (v := ?_) (by rw [HOPS.out]; simp only [List.getElem?_toArray, List.getElem?_cons_succ, List.getElem?_cons_zero]; exact rfl) (Or.inl ⟨rfl, ?_⟩) ?_
  rotate_left
  · (intro w hSw; have hSx := HFA.out _ hSw; (try dsimp only at hSx); clear hSw; go_simp) <;> (with_reducible rfl)
  simp only [Act.put, List.setIfInBounds_toArray, List.set_cons_zero, List.set_cons_succ]
  refine walkO_done ?_
  clear HOPS OPS
  go_wp2_with fail
  refine bodyPost_ret (v := .tuple #[.pointer (some ⟨b, 0, none⟩), .agg #[.int .i64 mf.c, .slice a3 mf.q.length k3, .bool mf.busy, .slice a4 mf.rest.length k4, .int .i64 mf.acc, .int .i64 mf.w, .int .i64 mf.r], .bool true]) (by simp [results, Try.results38, go_sem, y0, y1, y2, y3, y4, y5, y6]) rfl ?_
  have fx : Fr [(w.heap.size + 2)] w3 wf := Fr.trans (U := [(w.heap.size + 2)]) (S := []) fd ff (by simp) (fun x hx => .inl hx)
  exact step_post HF2.out HS3.out.1 HS3.out.2.1 HS3.out.2.2.1 HS3.out.2.2.2 fx HP3.out HP4.out HFl.out HD.out (by omega) HNW.out
set_option maxHeartbeats 8000000 in
theorem step_cancel {w : World} {F N : Nat → Prop} {b : Nat} {m : SM} {v : Value} {pa : Option Addr} {pc : Nat} {ps : Parts} {n : Int} (hs : SF w F b m) (h : Sv w N v m) (hd : ∀ x, F x → ¬ N x) (HNZ : ∀ x, N x → x < w.heap.size) :
    Calls Try.prog 38 #[.pointer (some ⟨b, 0, none⟩), v, .agg #[.int .i64 2, .slice pa ps.length pc, .int .i64 n]] w (Step14 w F N (cancelM m).m) := by
  have HNW := Lib.hid HNZ
  clear HNZ
  have hFl := hs.lt
  obtain ⟨u1, u2, rfl, hq, hr⟩ := h
  obtain ⟨a1, k1, rfl, _⟩ := id hq
  obtain ⟨a2, k2, rfl, _⟩ := id hr
  have HQ := Lib.hid (And.intro hq hr)
  clear hq hr
  obtain ⟨w0, hw0, f0, q0, qa, z0⟩ : ∃ W, ((w.alloc (.cells #[.int .i64 m.c, .slice a1 m.q.length k1, .bool m.busy, .slice a2 m.rest.length k2, .int .i64 m.acc, .int .i64 m.w, .int .i64 m.r] 41)).alloc (.cells #[.int .i64 2, .slice pa ps.length pc, .int .i64 n] 55)).alloc (.cells #[.int .i64 0, .slice none 0 0, .bool false, .slice none 0 0, .int .i64 0, .int .i64 0, .int .i64 0] 41) = W ∧ Fr [] w W ∧ S7 W w.heap.size m.c a1 m.q.length k1 m.busy a2 m.rest.length k2 m.acc m.w m.r ∧ W.heap[w.heap.size + 1]? = some (.cells #[.int .i64 2, .slice pa ps.length pc, .int .i64 n] 55 (0, 0)) ∧ S7 W (w.heap.size + 2) 0 none 0 0 false none 0 0 0 0 0 := ⟨_, rfl, (((Fr.refl _ _).alloc _).alloc _).alloc _, keepA (keepA (newA rfl)), keepA (newA (by simp)), newA (by simp)⟩
  obtain ⟨x0, x1, x2, x3, x4, x5, x6, p0, p1, p2, p3, p4, p5, p6⟩ := q0.cells
  have e0 : w0.cell? ⟨w.heap.size + 1, 0, none⟩ = some (.int .i64 2) := cell_of qa
  have e1 : w0.cell? ⟨w.heap.size + 1, 1, none⟩ = some (.slice pa ps.length pc) := cell_of qa
  have e2 : w0.cell? ⟨w.heap.size + 1, 2, none⟩ = some (.int .i64 n) := cell_of qa
  have hz0 : w.heap.size + 2 < w0.heap.size := lt_of_heap z0
  have HZ := Lib.hid z0
  have HF := Lib.hid f0
  have HQA := Lib.hid qa
  clear q0 z0 f0 qa
  have HC := Lib.hid (r_cancel (w := w0) (N := N) (v := .agg #[.int .i64 m.c, .slice a1 m.q.length k1, .bool m.busy, .slice a2 m.rest.length k2, .int .i64 m.acc, .int .i64 m.w, .int .i64 m.r]) (m := m) ⟨_, _, rfl, HQ.out.1.keep HF.out (by simp), HQ.out.2.keep HF.out (by simp)⟩)
  have HS := Lib.hid fun w' (f : Fr [] w w') => sf_cancel (hs.keep0 f)
  generalize hmf : (cancelM m).m = mf at *
  generalize hnn : (cancelM m).n = nn at *
  generalize hee : (cancelM m).err = ee at *
  have HFl := Lib.hid hFl
  have HD := Lib.hid hd
  clear hFl hd hs hmf hnn hee
  go_enter Try.func38, Try.ntmps38
  go_wp2_with fail
  refine HC.out.mono ?_
  rintro e w1 ⟨v', rfl, f1, u3, u4, rfl, hp3, hp4⟩
  obtain ⟨a3, k3, rfl, _⟩ := id hp3
  obtain ⟨a4, k4, rfl, _⟩ := id hp4
  obtain ⟨w2, hw2, f2, q2⟩ : ∃ W, w1.alloc (.cells #[.int .i64 mf.c, .slice a3 mf.q.length k3, .bool mf.busy, .slice a4 mf.rest.length k4, .int .i64 mf.acc, .int .i64 mf.w, .int .i64 mf.r] 41) = W ∧ Fr [] w1 W ∧ S7 W w1.heap.size mf.c a3 mf.q.length k3 mf.busy a4 mf.rest.length k4 mf.acc mf.w mf.r := ⟨_, rfl, (Fr.refl _ _).alloc _, newA rfl⟩
  have z1 := f1.size
  have hz2 : w1.heap.size < w2.heap.size := lt_of_heap q2
  have HP3 := Lib.hid (hp3.keep f2 (by simp))
  have HP4 := Lib.hid (hp4.keep f2 (by simp))
  have HN2 := Lib.hid q2
  have HF2 := Lib.hid ((HF.out.then0 f1).then0 f2)
  have HZ2 := Lib.hid (show S7 w2 (w.heap.size + 2) 0 none 0 0 false none 0 0 0 0 0 from f2.keep (f1.keep HZ.out (by simp)) (by simp))
  clear x0 x1 x2 x3 x4 x5 x6 p0 p1 p2 p3 p4 p5 p6
  obtain ⟨x0, x1, x2, x3, x4, x5, x6, p0, p1, p2, p3, p4, p5, p6⟩ := q2.cells
  clear hp3 hp4 q2 f1 f2 e0 e1 e2
  go_wp2_with fail
  refine (HS.out w2 HF2.out).mono ?_
  rintro e w3 ⟨rfl, ⟨S, hS, f3⟩, F', hF', h3⟩
  have hSw : ∀ x ∈ S, F x ∨ w2.heap.size ≤ x := hS
  have hnS : ∀ x, w.heap.size ≤ x → x < w2.heap.size → x ∉ S := fun x h1 h2 hm => by rcases hS x hm with h | h; have := HFl.out x h; omega; omega
  have HN3 := Lib.hid (show S7 w3 w1.heap.size mf.c a3 mf.q.length k3 mf.busy a4 mf.rest.length k4 mf.acc mf.w mf.r from f3.keep HN2.out (hnS _ (by omega) hz2))
  have HZS := Lib.hid (show S7 w3 (w.heap.size + 2) 0 none 0 0 false none 0 0 0 0 0 from f3.keep HZ2.out (hnS _ (by omega) (by omega)))
  have HS3 := Lib.hid (And.intro hS (And.intro f3 (And.intro hF' h3)))
  have HNS := Lib.hid hnS
  have hz3 := f3.size
  clear hS f3 hF' h3 hSw hnS x0 x1 x2 x3 x4 x5 x6 p0 p1 p2 p3 p4 p5 p6
  have HFA := Lib.hid fun (w' : World) (f : S7 w' w1.heap.size mf.c a3 mf.q.length k3 mf.busy a4 mf.rest.length k4 mf.acc mf.w mf.r) => (show w'.cell? ⟨w1.heap.size, 0, none⟩ = some (.int .i64 mf.c) ∧ w'.cell? ⟨w1.heap.size, 1, none⟩ = some (.slice a3 mf.q.length k3) ∧ w'.cell? ⟨w1.heap.size, 2, none⟩ = some (.bool mf.busy) ∧ w'.cell? ⟨w1.heap.size, 3, none⟩ = some (.slice a4 mf.rest.length k4) ∧ w'.cell? ⟨w1.heap.size, 4, none⟩ = some (.int .i64 mf.acc) ∧ w'.cell? ⟨w1.heap.size, 5, none⟩ = some (.int .i64 mf.w) ∧ w'.cell? ⟨w1.heap.size, 6, none⟩ = some (.int .i64 mf.r) from (let q := S7.cells f; ⟨q.1, q.2.1, q.2.2.1, q.2.2.2.1, q.2.2.2.2.1, q.2.2.2.2.2.1, q.2.2.2.2.2.2.1⟩))
  go_wp2_with fail
  have fd : Fr [] w3 w3.drew := (Fr.refl _ _).drew
  replace HZS := Lib.hid (show S7 w3.drew (w.heap.size + 2) 0 none 0 0 false none 0 0 0 0 0 from fd.keep HZS.out (by simp))
  refine wp_region_order [(0, true), (1, true), (2, true), (3, true), (4, true), (5, true), (6, true), (7, true), (8, true), (9, true), (10, true), (11, false), (12, true)] (fun w' => S7 w' w1.heap.size mf.c a3 mf.q.length k3 mf.busy a4 mf.rest.length k4 mf.acc mf.w mf.r) (by kernel_rfl) (by kernel_rfl) (fd.keep HN3.out (by simp)) ?_
  intro OPS HOPS
  have hops := HOPS.out
  try simp only [List.append_eq, List.cons_append, List.nil_append] at hops
  replace HOPS := Lib.hid hops
  clear hops
  refine walkO_take (o := _) (v := ?_) (by rw [HOPS.out]; simp only [List.getElem?_toArray, List.getElem?_cons_succ, List.getElem?_cons_zero]; exact rfl) (Or.inl ⟨rfl, ?_⟩) ?_
  rotate_left
  · (intro w hSw; have hSx := HFA.out _ hSw; (try dsimp only at hSx); clear hSw; go_simp) <;> (with_reducible rfl)
  simp only [Act.put, List.setIfInBounds_toArray, List.set_cons_zero, List.set_cons_succ]
  refine walkO_take (o := _) (v := ?_) (by rw [HOPS.out]; simp only [List.getElem?_toArray, List.getElem?_cons_succ, List.getElem?_cons_zero]; exact rfl) (Or.inl ⟨rfl, ?_⟩) ?_
  rotate_left
  · (intro w hSw; have hSx := HFA.out _ hSw; (try dsimp only at hSx); clear hSw; go_simp) <;> (with_reducible rfl)
  simp only [Act.put, List.setIfInBounds_toArray, List.set_cons_zero, List.set_cons_succ]
  refine walkO_take (o := _) (v := ?_) (by rw [HOPS.out]; simp only [List.getElem?_toArray, List.getElem?_cons_succ, List.getElem?_cons_zero]; exact rfl) (Or.inl ⟨rfl, ?_⟩) ?_
  rotate_left
  · (intro w hSw; have hSx := HFA.out _ hSw; (try dsimp only at hSx); clear hSw; go_simp) <;> (with_reducible rfl)
  simp only [Act.put, List.setIfInBounds_toArray, List.set_cons_zero, List.set_cons_succ]
  refine walkO_take (o := _) (v := ?_) (by rw [HOPS.out]; simp only [List.getElem?_toArray, List.getElem?_cons_succ, List.getElem?_cons_zero]; exact rfl) (Or.inl ⟨rfl, ?_⟩) ?_
  rotate_left
  · (intro w hSw; have hSx := HFA.out _ hSw; (try dsimp only at hSx); clear hSw; go_simp) <;> (with_reducible rfl)
  simp only [Act.put, List.setIfInBounds_toArray, List.set_cons_zero, List.set_cons_succ]
  refine walkO_take (o := _) (v := ?_) (by rw [HOPS.out]; simp only [List.getElem?_toArray, List.getElem?_cons_succ, List.getElem?_cons_zero]; exact rfl) (Or.inl ⟨rfl, ?_⟩) ?_
  rotate_left
  · (intro w hSw; have hSx := HFA.out _ hSw; (try dsimp only at hSx); clear hSw; go_simp) <;> (with_reducible rfl)
  simp only [Act.put, List.setIfInBounds_toArray, List.set_cons_zero, List.set_cons_succ]
  refine walkO_take (o := _) (v := ?_) (by rw [HOPS.out]; simp only [List.getElem?_toArray, List.getElem?_cons_succ, List.getElem?_cons_zero]; exact rfl) (Or.inl ⟨rfl, ?_⟩) ?_
  rotate_left
  · (intro w hSw; have hSx := HFA.out _ hSw; (try dsimp only at hSx); clear hSw; go_simp) <;> (with_reducible rfl)
  simp only [Act.put, List.setIfInBounds_toArray, List.set_cons_zero, List.set_cons_succ]
  refine walkO_take (o := _) (v := ?_) (by rw [HOPS.out]; simp only [List.getElem?_toArray, List.getElem?_cons_succ, List.getElem?_cons_zero]; exact rfl) (Or.inl ⟨by rw [HOPS.out]; rfl, ?_⟩) ?_
  rotate_left
  · (intro w hSw; have hSx := HFA.out _ hSw; (try dsimp only at hSx); clear hSw; go_simp) <;> (with_reducible rfl)
  simp only [Act.put, List.setIfInBounds_toArray, List.set_cons_zero, List.set_cons_succ]
  refine walkO_take (o := _) (v := ?_) (by rw [HOPS.out]; simp only [List.getElem?_toArray, List.getElem?_cons_succ, List.getElem?_cons_zero]; exact rfl) (Or.inl ⟨by rw [HOPS.out]; rfl, ?_⟩) ?_
  rotate_left
  · (intro w hSw; have hSx := HFA.out _ hSw; (try dsimp only at hSx); clear hSw; go_simp) <;> (with_reducible rfl)
  simp only [Act.put, List.setIfInBounds_toArray, List.set_cons_zero, List.set_cons_succ]
  refine walkO_take (o := _) (v := ?_) (by rw [HOPS.out]; simp only [List.getElem?_toArray, List.getElem?_cons_succ, List.getElem?_cons_zero]; exact rfl) (Or.inl ⟨by rw [HOPS.out]; rfl, ?_⟩) ?_
  rotate_left
  · (intro w hSw; have hSx := HFA.out _ hSw; (try dsimp only at hSx); clear hSw; go_simp) <;> (with_reducible rfl)
  simp only [Act.put, List.setIfInBounds_toArray, List.set_cons_zero, List.set_cons_succ]
  refine walkO_take (o := _) (v := ?_) (by rw [HOPS.out]; simp only [List.getElem?_toArray, List.getElem?_cons_succ, List.getElem?_cons_zero]; exact rfl) (Or.inl ⟨rfl, ?_⟩) ?_
  rotate_left
  · (intro w hSw; have hSx := HFA.out _ hSw; (try dsimp only at hSx); clear hSw; go_simp) <;> (with_reducible rfl)
  simp only [Act.put, List.setIfInBounds_toArray, List.set_cons_zero, List.set_cons_succ]
  refine walkO_take (o := _) (v := ?_) (by rw [HOPS.out]; simp only [List.getElem?_toArray, List.getElem?_cons_succ, List.getElem?_cons_zero]; exact rfl) (Or.inl ⟨rfl, ?_⟩) ?_
  rotate_left
  · (intro w hSw; have hSx := HFA.out _ hSw; (try dsimp only at hSx); clear hSw; go_simp) <;> (with_reducible rfl)
  simp only [Act.put, List.setIfInBounds_toArray, List.set_cons_zero, List.set_cons_succ]
  refine walkO_call (o := _) (by rw [HOPS.out]; simp only [List.getElem?_toArray, List.getElem?_cons_succ, List.getElem?_cons_zero]; exact rfl) (fun K HK => ?_)
  refine step_store7 rfl 41 (.tmp 7) (.tmp 104) rfl (w.heap.size + 2) #[.int .i64 mf.c, .slice a3 mf.q.length k3, .bool mf.busy, .slice a4 mf.rest.length k4, .int .i64 mf.acc, .int .i64 mf.w, .int .i64 mf.r] (by simp [Act.eval]) (by simp [Act.eval]) _ _ HZS.out (by kernel_rfl) rfl (by simp [Value.oneCell']) ?_
  intro wf ff qf
  obtain ⟨y0, y1, y2, y3, y4, y5, y6, _, _, _, _, _, _, _⟩ := S7.cells qf
  refine HK.out (fun w' => S7 w' w1.heap.size mf.c a3 mf.q.length k3 mf.busy a4 mf.rest.length k4 mf.acc mf.w mf.r) _ _ (fun _ h => h) (ff.keep (fd.keep HN3.out (by simp)) (by intro hm; simp at hm; omega)) ?_
  clear HK K
  try simp only [Act.put, List.setIfInBounds_toArray, List.set_cons_zero, List.set_cons_succ]
  refine walkO_take (o := _) (v := ?_) (by rw [HOPS.out]; simp only [List.getElem?_toArray, List.getElem?_cons_succ, List.getElem?_cons_zero]; exact rfl) (Or.inl ⟨rfl, ?_⟩) ?_
  rotate_left
  · (intro w hSw; have hSx := HFA.out _ hSw; (try dsimp only at hSx); clear hSw; go_simp) <;> (with_reducible rfl)
  simp only [Act.put, List.setIfInBounds_toArray, List.set_cons_zero, List.set_cons_succ]
  refine walkO_done ?_
  clear HOPS OPS
  go_wp2_with fail
  refine bodyPost_ret (v := .tuple #[.pointer (some ⟨b, 0, none⟩), .agg #[.int .i64 mf.c, .slice a3 mf.q.length k3, .bool mf.busy, .slice a4 mf.rest.length k4, .int .i64 mf.acc, .int .i64 mf.w, .int .i64 mf.r], .bool true]) (by simp [results, Try.results38, go_sem, y0, y1, y2, y3, y4, y5, y6]) rfl ?_
  have fx : Fr [(w.heap.size + 2)] w3 wf := Fr.trans (U := [(w.heap.size + 2)]) (S := []) fd ff (by simp) (fun x hx => .inl hx)
  exact step_post HF2.out HS3.out.1 HS3.out.2.1 HS3.out.2.2.1 HS3.out.2.2.2 fx HP3.out HP4.out HFl.out HD.out (by omega) HNW.out
theorem Fr.weak {w w' : World} {S : List Nat} (h : Fr [] w w') : Fr S w w' := h.trans (Fr.refl [] w') (by simp) (by simp)
set_option maxHeartbeats 8000000 in
theorem step_closew {w : World} {F N : Nat → Prop} {b : Nat} {m : SM} {v : Value} {pa : Option Addr} {pc : Nat} {ps : Parts} {n : Int} (hs : SF w F b m) (h : Sv w N v m) (hd : ∀ x, F x → ¬ N x) (HNZ : ∀ x, N x → x < w.heap.size) :
    Calls Try.prog 38 #[.pointer (some ⟨b, 0, none⟩), v, .agg #[.int .i64 4, .slice pa ps.length pc, .int .i64 n]] w (Step14 w F N (closewM m n).m) := by
  have HNW := Lib.hid HNZ
  clear HNZ
  have hFl := hs.lt
  obtain ⟨u1, u2, rfl, hq, hr⟩ := h
  obtain ⟨a1, k1, rfl, _⟩ := id hq
  obtain ⟨a2, k2, rfl, _⟩ := id hr
  have HQ := Lib.hid (And.intro hq hr)
  clear hq hr
  obtain ⟨w0, hw0, f0, q0, qa, z0⟩ : ∃ W, ((w.alloc (.cells #[.int .i64 m.c, .slice a1 m.q.length k1, .bool m.busy, .slice a2 m.rest.length k2, .int .i64 m.acc, .int .i64 m.w, .int .i64 m.r] 41)).alloc (.cells #[.int .i64 4, .slice pa ps.length pc, .int .i64 n] 55)).alloc (.cells #[.int .i64 0, .slice none 0 0, .bool false, .slice none 0 0, .int .i64 0, .int .i64 0, .int .i64 0] 41) = W ∧ Fr [] w W ∧ S7 W w.heap.size m.c a1 m.q.length k1 m.busy a2 m.rest.length k2 m.acc m.w m.r ∧ W.heap[w.heap.size + 1]? = some (.cells #[.int .i64 4, .slice pa ps.length pc, .int .i64 n] 55 (0, 0)) ∧ S7 W (w.heap.size + 2) 0 none 0 0 false none 0 0 0 0 0 := ⟨_, rfl, (((Fr.refl _ _).alloc _).alloc _).alloc _, keepA (keepA (newA rfl)), keepA (newA (by simp)), newA (by simp)⟩
  obtain ⟨x0, x1, x2, x3, x4, x5, x6, p0, p1, p2, p3, p4, p5, p6⟩ := q0.cells
  have e0 : w0.cell? ⟨w.heap.size + 1, 0, none⟩ = some (.int .i64 4) := cell_of qa
  have e1 : w0.cell? ⟨w.heap.size + 1, 1, none⟩ = some (.slice pa ps.length pc) := cell_of qa
  have e2 : w0.cell? ⟨w.heap.size + 1, 2, none⟩ = some (.int .i64 n) := cell_of qa
  have hz0 : w.heap.size + 2 < w0.heap.size := lt_of_heap z0
  have HZ := Lib.hid z0
  have HF := Lib.hid f0
  have HQA := Lib.hid qa
  clear q0 z0 f0 qa
  have HC := Lib.hid (r_closew (w := w0) (N := N) (v := .agg #[.int .i64 m.c, .slice a1 m.q.length k1, .bool m.busy, .slice a2 m.rest.length k2, .int .i64 m.acc, .int .i64 m.w, .int .i64 m.r]) (m := m) ⟨_, _, rfl, HQ.out.1.keep HF.out (by simp), HQ.out.2.keep HF.out (by simp)⟩ n)
  have HS0 := Lib.hid fun w2 w' (f : Fr [] w w2) (g : Fr [(w.heap.size + 2)] w2 w') => sf_closew ((hs.keep0 f).keep g (by intro x hx hF; simp at hx; have := hFl x hF; omega)) n
  generalize hmf : (closewM m n).m = mf at *
  generalize hee : (closewM m n).err = ee at *
  have HFl := Lib.hid hFl
  have HD := Lib.hid hd
  clear hFl hd hs hmf hee
  have HES := Lib.hid (Go.Proofs.enters_of Try.func36 (by kernel_rfl) rfl)
  go_enter Try.func38, Try.ntmps38
  go_wp2_with fail
  refine HC.out.mono ?_
  rintro e w1 ⟨v', rfl, f1, u3, u4, rfl, hp3, hp4⟩
  obtain ⟨a3, k3, rfl, _⟩ := id hp3
  obtain ⟨a4, k4, rfl, _⟩ := id hp4
  obtain ⟨w2, hw2, f2, q2⟩ : ∃ W, w1.alloc (.cells #[.int .i64 mf.c, .slice a3 mf.q.length k3, .bool mf.busy, .slice a4 mf.rest.length k4, .int .i64 mf.acc, .int .i64 mf.w, .int .i64 mf.r] 41) = W ∧ Fr [] w1 W ∧ S7 W w1.heap.size mf.c a3 mf.q.length k3 mf.busy a4 mf.rest.length k4 mf.acc mf.w mf.r := ⟨_, rfl, (Fr.refl _ _).alloc _, newA rfl⟩
  have z1 := f1.size
  have hz2 : w1.heap.size < w2.heap.size := lt_of_heap q2
  have HP3 := Lib.hid (hp3.keep f2 (by simp))
  have HP4 := Lib.hid (hp4.keep f2 (by simp))
  have HF2 := Lib.hid ((HF.out.then0 f1).then0 f2)
  have HZ2 := Lib.hid (show S7 w2 (w.heap.size + 2) 0 none 0 0 false none 0 0 0 0 0 from f2.keep (f1.keep HZ.out (by simp)) (by simp))
  have HA2 := Lib.hid (f2.keep (f1.keep HQA.out (by simp)) (by simp))
  have HS := Lib.hid fun w' (g : Fr [(w.heap.size + 2)] w2 w') => HS0.out w2 w' HF2.out g
  clear x0 x1 x2 x3 x4 x5 x6 p0 p1 p2 p3 p4 p5 p6
  obtain ⟨x0, x1, x2, x3, x4, x5, x6, p0, p1, p2, p3, p4, p5, p6⟩ := q2.cells
  have HN2 := Lib.hid q2
  clear hp3 hp4 q2 f1 f2 e0 e1 e2 HS0
  have HFA := Lib.hid fun (w' : World) (f : S7 w' w1.heap.size mf.c a3 mf.q.length k3 mf.busy a4 mf.rest.length k4 mf.acc mf.w mf.r ∧ w'.heap[w.heap.size + 1]? = some (.cells #[.int .i64 4, .slice pa ps.length pc, .int .i64 n] 55 (0, 0))) => (show w'.cell? ⟨w1.heap.size, 0, none⟩ = some (.int .i64 mf.c) ∧ w'.cell? ⟨w1.heap.size, 1, none⟩ = some (.slice a3 mf.q.length k3) ∧ w'.cell? ⟨w1.heap.size, 2, none⟩ = some (.bool mf.busy) ∧ w'.cell? ⟨w1.heap.size, 3, none⟩ = some (.slice a4 mf.rest.length k4) ∧ w'.cell? ⟨w1.heap.size, 4, none⟩ = some (.int .i64 mf.acc) ∧ w'.cell? ⟨w1.heap.size, 5, none⟩ = some (.int .i64 mf.w) ∧ w'.cell? ⟨w1.heap.size, 6, none⟩ = some (.int .i64 mf.r) ∧ w'.cell? ⟨w.heap.size + 1, 2, none⟩ = some (.int .i64 n) from (let q := S7.cells f.1; ⟨q.1, q.2.1, q.2.2.1, q.2.2.2.1, q.2.2.2.2.1, q.2.2.2.2.2.1, q.2.2.2.2.2.2.1, cell_of f.2⟩))
  go_wp2_with fail
  have fd : Fr [] w2 w2.drew := (Fr.refl _ _).drew
  have fdz : Fr [(w.heap.size + 2)] w2 w2.drew := fd.weak
  have HZS := Lib.hid (show S7 w2.drew (w.heap.size + 2) 0 none 0 0 false none 0 0 0 0 0 from fd.keep HZ2.out (by simp))
  have HNc := Lib.hid (show S7 w2.drew w1.heap.size mf.c a3 mf.q.length k3 mf.busy a4 mf.rest.length k4 mf.acc mf.w mf.r from fd.keep HN2.out (by simp))
  have HAc := Lib.hid (fd.keep HA2.out (by simp))
  refine wp_region_order [(0, true), (1, true), (2, true), (3, true), (4, true), (6, true), (5, false), (7, true), (8, true), (9, false), (10, true)] (fun w' => S7 w' w1.heap.size mf.c a3 mf.q.length k3 mf.busy a4 mf.rest.length k4 mf.acc mf.w mf.r ∧ w'.heap[w.heap.size + 1]? = some (.cells #[.int .i64 4, .slice pa ps.length pc, .int .i64 n] 55 (0, 0))) (by kernel_rfl) (by kernel_rfl) ⟨HNc.out, HAc.out⟩ ?_
  intro OPS HOPS
  have hops := HOPS.out
  try simp only [List.append_eq, List.cons_append, List.nil_append] at hops
  replace HOPS := Lib.hid hops
  clear hops
  refine walkO_take (o := _) (v := ?_) (by rw [HOPS.out]; simp only [List.getElem?_toArray, List.getElem?_cons_succ, List.getElem?_cons_zero]; exact rfl) (Or.inl ⟨rfl, ?_⟩) ?_
  rotate_left
  · (intro w hSw; have hSx := HFA.out _ hSw; (try dsimp only at hSx); clear hSw; go_simp) <;> (with_reducible rfl)
  simp only [Act.put, List.setIfInBounds_toArray, List.set_cons_zero, List.set_cons_succ]
  refine walkO_take (o := _) (v := ?_) (by rw [HOPS.out]; simp only [List.getElem?_toArray, List.getElem?_cons_succ, List.getElem?_cons_zero]; exact rfl) (Or.inl ⟨rfl, ?_⟩) ?_
  rotate_left
  · (intro w hSw; have hSx := HFA.out _ hSw; (try dsimp only at hSx); clear hSw; go_simp) <;> (with_reducible rfl)
  simp only [Act.put, List.setIfInBounds_toArray, List.set_cons_zero, List.set_cons_succ]
  refine walkO_take (o := _) (v := ?_) (by rw [HOPS.out]; simp only [List.getElem?_toArray, List.getElem?_cons_succ, List.getElem?_cons_zero]; exact rfl) (Or.inl ⟨rfl, ?_⟩) ?_
  rotate_left
  · (intro w hSw; have hSx := HFA.out _ hSw; (try dsimp only at hSx); clear hSw; go_simp) <;> (with_reducible rfl)
  simp only [Act.put, List.setIfInBounds_toArray, List.set_cons_zero, List.set_cons_succ]
  refine walkO_take (o := _) (v := ?_) (by rw [HOPS.out]; simp only [List.getElem?_toArray, List.getElem?_cons_succ, List.getElem?_cons_zero]; exact rfl) (Or.inl ⟨rfl, ?_⟩) ?_
  rotate_left
  · (intro w hSw; have hSx := HFA.out _ hSw; (try dsimp only at hSx); clear hSw; go_simp) <;> (with_reducible rfl)
  simp only [Act.put, List.setIfInBounds_toArray, List.set_cons_zero, List.set_cons_succ]
  refine walkO_take (o := _) (v := ?_) (by rw [HOPS.out]; simp only [List.getElem?_toArray, List.getElem?_cons_succ, List.getElem?_cons_zero]; exact rfl) (Or.inl ⟨rfl, ?_⟩) ?_
  rotate_left
  · (intro w hSw; have hSx := HFA.out _ hSw; (try dsimp only at hSx); clear hSw; go_simp) <;> (with_reducible rfl)
  simp only [Act.put, List.setIfInBounds_toArray, List.set_cons_zero, List.set_cons_succ]
  refine walkO_take (o := _) (v := ?_) (by rw [HOPS.out]; simp only [List.getElem?_toArray, List.getElem?_cons_succ, List.getElem?_cons_zero]; exact rfl) (Or.inl ⟨rfl, ?_⟩) ?_
  rotate_left
  · (intro w hSw; have hSx := HFA.out _ hSw; (try dsimp only at hSx); clear hSw; go_simp) <;> (with_reducible rfl)
  simp only [Act.put, List.setIfInBounds_toArray, List.set_cons_zero, List.set_cons_succ]
  refine walkO_call (o := _) (by rw [HOPS.out]; simp only [List.getElem?_toArray, List.getElem?_cons_succ, List.getElem?_cons_zero]; exact rfl) (fun K HK => ?_)
  refine step_call rfl 36 #[(.tmp 166), (.tmp 168)] #[23, 30] rfl HES.out #[.pointer (some ⟨b, 0, none⟩), .int .i64 n] (by simp [Act.eval]) (HS.out _ fdz) ?_
  rintro e w3 ⟨rfl, ⟨S, hS, f3⟩, F', hF', h3⟩
  have hnS : ∀ x, w.heap.size ≤ x → x < w2.heap.size → x ∉ S := fun x h1 h2 hm => by rcases hS x hm with h | h; have := HFl.out x h; omega; have hzz : w2.heap.size ≤ x := Nat.le_trans (Nat.le_refl _) h; omega
  have HZS := Lib.hid (show S7 w3 (w.heap.size + 2) 0 none 0 0 false none 0 0 0 0 0 from f3.keep HZS.out (hnS _ (by omega) (by omega)))
  have HNc := Lib.hid (show S7 w3 w1.heap.size mf.c a3 mf.q.length k3 mf.busy a4 mf.rest.length k4 mf.acc mf.w mf.r from f3.keep HNc.out (hnS _ (by omega) hz2))
  have HAc := Lib.hid (f3.keep HAc.out (hnS _ (by omega) (by omega)))
  refine ⟨_, rfl, ?_⟩
  refine HK.out (fun w' => S7 w' w1.heap.size mf.c a3 mf.q.length k3 mf.busy a4 mf.rest.length k4 mf.acc mf.w mf.r ∧ w'.heap[w.heap.size + 1]? = some (.cells #[.int .i64 4, .slice pa ps.length pc, .int .i64 n] 55 (0, 0))) _ _ (fun _ h => h) (⟨HNc.out, HAc.out⟩) ?_
  clear HK K
  simp only [Act.put, List.setIfInBounds_toArray, List.set_cons_zero, List.set_cons_succ]
  refine walkO_take (o := _) (v := ?_) (by rw [HOPS.out]; simp only [List.getElem?_toArray, List.getElem?_cons_succ, List.getElem?_cons_zero]; exact rfl) (Or.inl ⟨rfl, ?_⟩) ?_
  rotate_left
  · (intro w hSw; have hSx := HFA.out _ hSw; (try dsimp only at hSx); clear hSw; go_simp) <;> (with_reducible rfl)
  simp only [Act.put, List.setIfInBounds_toArray, List.set_cons_zero, List.set_cons_succ]
  refine walkO_take (o := _) (v := ?_) (by rw [HOPS.out]; simp only [List.getElem?_toArray, List.getElem?_cons_succ, List.getElem?_cons_zero]; exact rfl) (Or.inl ⟨rfl, ?_⟩) ?_
  rotate_left
  · (intro w hSw; have hSx := HFA.out _ hSw; (try dsimp only at hSx); clear hSw; go_simp) <;> (with_reducible rfl)
  simp only [Act.put, List.setIfInBounds_toArray, List.set_cons_zero, List.set_cons_succ]
  refine walkO_call (o := _) (by rw [HOPS.out]; simp only [List.getElem?_toArray, List.getElem?_cons_succ, List.getElem?_cons_zero]; exact rfl) (fun K HK => ?_)
  refine step_store7 rfl 41 (.tmp 7) (.tmp 165) rfl (w.heap.size + 2) #[.int .i64 mf.c, .slice a3 mf.q.length k3, .bool mf.busy, .slice a4 mf.rest.length k4, .int .i64 mf.acc, .int .i64 mf.w, .int .i64 mf.r] (by simp [Act.eval]) (by simp [Act.eval]) _ _ HZS.out (by kernel_rfl) rfl (by simp [Value.oneCell']) ?_
  intro wf ff qf
  refine HK.out (fun w' => S7 w' w1.heap.size mf.c a3 mf.q.length k3 mf.busy a4 mf.rest.length k4 mf.acc mf.w mf.r ∧ w'.heap[w.heap.size + 1]? = some (.cells #[.int .i64 4, .slice pa ps.length pc, .int .i64 n] 55 (0, 0))) _ _ (fun _ h => h) (⟨ff.keep HNc.out (by intro hm; simp at hm; omega), ff.keep HAc.out (by intro hm; simp at hm)⟩) ?_
  clear HK K
  try simp only [Act.put, List.setIfInBounds_toArray, List.set_cons_zero, List.set_cons_succ]
  refine walkO_take (o := _) (v := ?_) (by rw [HOPS.out]; simp only [List.getElem?_toArray, List.getElem?_cons_succ, List.getElem?_cons_zero]; exact rfl) (Or.inl ⟨rfl, ?_⟩) ?_
  rotate_left
  · (intro w hSw; have hSx := HFA.out _ hSw; (try dsimp only at hSx); clear hSw; go_simp) <;> (with_reducible rfl)
  simp only [Act.put, List.setIfInBounds_toArray, List.set_cons_zero, List.set_cons_succ]
  refine walkO_done ?_
  clear HOPS OPS
  have QF := Lib.hid qf
  go_wp2_with fail
  obtain ⟨y0, y1, y2, y3, y4, y5, y6, _, _, _, _, _, _, _⟩ := S7.cells QF.out
  refine bodyPost_ret (v := .tuple #[.pointer (some ⟨b, 0, none⟩), .agg #[.int .i64 mf.c, .slice a3 mf.q.length k3, .bool mf.busy, .slice a4 mf.rest.length k4, .int .i64 mf.acc, .int .i64 mf.w, .int .i64 mf.r], .bool true]) (by simp [results, Try.results38, go_sem, y0, y1, y2, y3, y4, y5, y6]) rfl ?_
  exact step_post (HF2.out.then0 fd) hS f3 hF' h3 ff (HP3.out.keep fd (by simp)) (HP4.out.keep fd (by simp)) HFl.out HD.out (Nat.lt_of_lt_of_le (by omega) fd.size) HNW.out
set_option maxHeartbeats 8000000 in
theorem step_closer {w : World} {F N : Nat → Prop} {b : Nat} {m : SM} {v : Value} {pa : Option Addr} {pc : Nat} {ps : Parts} {n : Int} (hs : SF w F b m) (h : Sv w N v m) (hd : ∀ x, F x → ¬ N x) (HNZ : ∀ x, N x → x < w.heap.size) :
    Calls Try.prog 38 #[.pointer (some ⟨b, 0, none⟩), v, .agg #[.int .i64 5, .slice pa ps.length pc, .int .i64 n]] w (Step14 w F N (closerM m n).m) := by
  have HNW := Lib.hid HNZ
  clear HNZ
  have hFl := hs.lt
  obtain ⟨u1, u2, rfl, hq, hr⟩ := h
  obtain ⟨a1, k1, rfl, _⟩ := id hq
  obtain ⟨a2, k2, rfl, _⟩ := id hr
  have HQ := Lib.hid (And.intro hq hr)
  clear hq hr
  obtain ⟨w0, hw0, f0, q0, qa, z0⟩ : ∃ W, ((w.alloc (.cells #[.int .i64 m.c, .slice a1 m.q.length k1, .bool m.busy, .slice a2 m.rest.length k2, .int .i64 m.acc, .int .i64 m.w, .int .i64 m.r] 41)).alloc (.cells #[.int .i64 5, .slice pa ps.length pc, .int .i64 n] 55)).alloc (.cells #[.int .i64 0, .slice none 0 0, .bool false, .slice none 0 0, .int .i64 0, .int .i64 0, .int .i64 0] 41) = W ∧ Fr [] w W ∧ S7 W w.heap.size m.c a1 m.q.length k1 m.busy a2 m.rest.length k2 m.acc m.w m.r ∧ W.heap[w.heap.size + 1]? = some (.cells #[.int .i64 5, .slice pa ps.length pc, .int .i64 n] 55 (0, 0)) ∧ S7 W (w.heap.size + 2) 0 none 0 0 false none 0 0 0 0 0 := ⟨_, rfl, (((Fr.refl _ _).alloc _).alloc _).alloc _, keepA (keepA (newA rfl)), keepA (newA (by simp)), newA (by simp)⟩
  obtain ⟨x0, x1, x2, x3, x4, x5, x6, p0, p1, p2, p3, p4, p5, p6⟩ := q0.cells
  have e0 : w0.cell? ⟨w.heap.size + 1, 0, none⟩ = some (.int .i64 5) := cell_of qa
  have e1 : w0.cell? ⟨w.heap.size + 1, 1, none⟩ = some (.slice pa ps.length pc) := cell_of qa
  have e2 : w0.cell? ⟨w.heap.size + 1, 2, none⟩ = some (.int .i64 n) := cell_of qa
  have hz0 : w.heap.size + 2 < w0.heap.size := lt_of_heap z0
  have HZ := Lib.hid z0
  have HF := Lib.hid f0
  have HQA := Lib.hid qa
  clear q0 z0 f0 qa
  have HC := Lib.hid (r_closer (w := w0) (N := N) (v := .agg #[.int .i64 m.c, .slice a1 m.q.length k1, .bool m.busy, .slice a2 m.rest.length k2, .int .i64 m.acc, .int .i64 m.w, .int .i64 m.r]) (m := m) ⟨_, _, rfl, HQ.out.1.keep HF.out (by simp), HQ.out.2.keep HF.out (by simp)⟩ n)
  have HS0 := Lib.hid fun w2 w' (f : Fr [] w w2) (g : Fr [(w.heap.size + 2)] w2 w') => sf_closer ((hs.keep0 f).keep g (by intro x hx hF; simp at hx; have := hFl x hF; omega)) n
  generalize hmf : (closerM m n).m = mf at *
  generalize hee : (closerM m n).err = ee at *
  have HFl := Lib.hid hFl
  have HD := Lib.hid hd
  clear hFl hd hs hmf hee
  have HES := Lib.hid (Go.Proofs.enters_of Try.func40 (by kernel_rfl) rfl)
  go_enter Try.func38, Try.ntmps38
  go_wp2_with fail
  refine HC.out.mono ?_
  rintro e w1 ⟨v', rfl, f1, u3, u4, rfl, hp3, hp4⟩
  obtain ⟨a3, k3, rfl, _⟩ := id hp3
  obtain ⟨a4, k4, rfl, _⟩ := id hp4
  obtain ⟨w2, hw2, f2, q2⟩ : ∃ W, w1.alloc (.cells #[.int .i64 mf.c, .slice a3 mf.q.length k3, .bool mf.busy, .slice a4 mf.rest.length k4, .int .i64 mf.acc, .int .i64 mf.w, .int .i64 mf.r] 41) = W ∧ Fr [] w1 W ∧ S7 W w1.heap.size mf.c a3 mf.q.length k3 mf.busy a4 mf.rest.length k4 mf.acc mf.w mf.r := ⟨_, rfl, (Fr.refl _ _).alloc _, newA rfl⟩
  have z1 := f1.size
  have hz2 : w1.heap.size < w2.heap.size := lt_of_heap q2
  have HP3 := Lib.hid (hp3.keep f2 (by simp))
  have HP4 := Lib.hid (hp4.keep f2 (by simp))
  have HF2 := Lib.hid ((HF.out.then0 f1).then0 f2)
  have HZ2 := Lib.hid (show S7 w2 (w.heap.size + 2) 0 none 0 0 false none 0 0 0 0 0 from f2.keep (f1.keep HZ.out (by simp)) (by simp))
  have HA2 := Lib.hid (f2.keep (f1.keep HQA.out (by simp)) (by simp))
  have HS := Lib.hid fun w' (g : Fr [(w.heap.size + 2)] w2 w') => HS0.out w2 w' HF2.out g
  clear x0 x1 x2 x3 x4 x5 x6 p0 p1 p2 p3 p4 p5 p6
  obtain ⟨x0, x1, x2, x3, x4, x5, x6, p0, p1, p2, p3, p4, p5, p6⟩ := q2.cells
  have HN2 := Lib.hid q2
  clear hp3 hp4 q2 f1 f2 e0 e1 e2 HS0
  have HFA := Lib.hid fun (w' : World) (f : S7 w' w1.heap.size mf.c a3 mf.q.length k3 mf.busy a4 mf.rest.length k4 mf.acc mf.w mf.r ∧ w'.heap[w.heap.size + 1]? = some (.cells #[.int .i64 5, .slice pa ps.length pc, .int .i64 n] 55 (0, 0))) => (show w'.cell? ⟨w1.heap.size, 0, none⟩ = some (.int .i64 mf.c) ∧ w'.cell? ⟨w1.heap.size, 1, none⟩ = some (.slice a3 mf.q.length k3) ∧ w'.cell? ⟨w1.heap.size, 2, none⟩ = some (.bool mf.busy) ∧ w'.cell? ⟨w1.heap.size, 3, none⟩ = some (.slice a4 mf.rest.length k4) ∧ w'.cell? ⟨w1.heap.size, 4, none⟩ = some (.int .i64 mf.acc) ∧ w'.cell? ⟨w1.heap.size, 5, none⟩ = some (.int .i64 mf.w) ∧ w'.cell? ⟨w1.heap.size, 6, none⟩ = some (.int .i64 mf.r) ∧ w'.cell? ⟨w.heap.size + 1, 2, none⟩ = some (.int .i64 n) from (let q := S7.cells f.1; ⟨q.1, q.2.1, q.2.2.1, q.2.2.2.1, q.2.2.2.2.1, q.2.2.2.2.2.1, q.2.2.2.2.2.2.1, cell_of f.2⟩))
  go_wp2_with fail
  have fd : Fr [] w2 w2.drew := (Fr.refl _ _).drew
  have fdz : Fr [(w.heap.size + 2)] w2 w2.drew := fd.weak
  have HZS := Lib.hid (show S7 w2.drew (w.heap.size + 2) 0 none 0 0 false none 0 0 0 0 0 from fd.keep HZ2.out (by simp))
  have HNc := Lib.hid (show S7 w2.drew w1.heap.size mf.c a3 mf.q.length k3 mf.busy a4 mf.rest.length k4 mf.acc mf.w mf.r from fd.keep HN2.out (by simp))
  have HAc := Lib.hid (fd.keep HA2.out (by simp))
  refine wp_region_order [(0, true), (1, true), (2, true), (3, true), (4, true), (6, true), (5, false), (7, true), (8, true), (9, false), (10, true)] (fun w' => S7 w' w1.heap.size mf.c a3 mf.q.length k3 mf.busy a4 mf.rest.length k4 mf.acc mf.w mf.r ∧ w'.heap[w.heap.size + 1]? = some (.cells #[.int .i64 5, .slice pa ps.length pc, .int .i64 n] 55 (0, 0))) (by kernel_rfl) (by kernel_rfl) ⟨HNc.out, HAc.out⟩ ?_
  intro OPS HOPS
  have hops := HOPS.out
  try simp only [List.append_eq, List.cons_append, List.nil_append] at hops
  replace HOPS := Lib.hid hops
  clear hops
  refine walkO_take (o := _) (v := ?_) (by rw [HOPS.out]; simp only [List.getElem?_toArray, List.getElem?_cons_succ, List.getElem?_cons_zero]; exact rfl) (Or.inl ⟨rfl, ?_⟩) ?_
  rotate_left
  · (intro w hSw; have hSx := HFA.out _ hSw; (try dsimp only at hSx); clear hSw; go_simp) <;> (with_reducible rfl)
  simp only [Act.put, List.setIfInBounds_toArray, List.set_cons_zero, List.set_cons_succ]
  refine walkO_take (o := _) (v := ?_) (by rw [HOPS.out]; simp only [List.getElem?_toArray, List.getElem?_cons_succ, List.getElem?_cons_zero]; exact rfl) (Or.inl ⟨rfl, ?_⟩) ?_
  rotate_left
  · (intro w hSw; have hSx := HFA.out _ hSw; (try dsimp only at hSx); clear hSw; go_simp) <;> (with_reducible rfl)
  simp only [Act.put, List.setIfInBounds_toArray, List.set_cons_zero, List.set_cons_succ]
  refine walkO_take (o := _) (v := ?_) (by rw [HOPS.out]; simp only [List.getElem?_toArray, List.getElem?_cons_succ, List.getElem?_cons_zero]; exact rfl) (Or.inl ⟨rfl, ?_⟩) ?_
  rotate_left
  · (intro w hSw; have hSx := HFA.out _ hSw; (try dsimp only at hSx); clear hSw; go_simp) <;> (with_reducible rfl)
  simp only [Act.put, List.setIfInBounds_toArray, List.set_cons_zero, List.set_cons_succ]
  refine walkO_take (o := _) (v := ?_) (by rw [HOPS.out]; simp only [List.getElem?_toArray, List.getElem?_cons_succ, List.getElem?_cons_zero]; exact rfl) (Or.inl ⟨rfl, ?_⟩) ?_
  rotate_left
  · (intro w hSw; have hSx := HFA.out _ hSw; (try dsimp only at hSx); clear hSw; go_simp) <;> (with_reducible rfl)
  simp only [Act.put, List.setIfInBounds_toArray, List.set_cons_zero, List.set_cons_succ]
  refine walkO_take (o := _) (v := ?_) (by rw [HOPS.out]; simp only [List.getElem?_toArray, List.getElem?_cons_succ, List.getElem?_cons_zero]; exact rfl) (Or.inl ⟨rfl, ?_⟩) ?_
  rotate_left
  · (intro w hSw; have hSx := HFA.out _ hSw; (try dsimp only at hSx); clear hSw; go_simp) <;> (with_reducible rfl)
  simp only [Act.put, List.setIfInBounds_toArray, List.set_cons_zero, List.set_cons_succ]
  refine walkO_take (o := _) (v := ?_) (by rw [HOPS.out]; simp only [List.getElem?_toArray, List.getElem?_cons_succ, List.getElem?_cons_zero]; exact rfl) (Or.inl ⟨rfl, ?_⟩) ?_
  rotate_left
  · (intro w hSw; have hSx := HFA.out _ hSw; (try dsimp only at hSx); clear hSw; go_simp) <;> (with_reducible rfl)
  simp only [Act.put, List.setIfInBounds_toArray, List.set_cons_zero, List.set_cons_succ]
  refine walkO_call (o := _) (by rw [HOPS.out]; simp only [List.getElem?_toArray, List.getElem?_cons_succ, List.getElem?_cons_zero]; exact rfl) (fun K HK => ?_)
  refine step_call rfl 40 #[(.tmp 183), (.tmp 185)] #[23, 30] rfl HES.out #[.pointer (some ⟨b, 0, none⟩), .int .i64 n] (by simp [Act.eval]) (HS.out _ fdz) ?_
  rintro e w3 ⟨rfl, ⟨S, hS, f3⟩, F', hF', h3⟩
  have hnS : ∀ x, w.heap.size ≤ x → x < w2.heap.size → x ∉ S := fun x h1 h2 hm => by rcases hS x hm with h | h; have := HFl.out x h; omega; have hzz : w2.heap.size ≤ x := Nat.le_trans (Nat.le_refl _) h; omega
  have HZS := Lib.hid (show S7 w3 (w.heap.size + 2) 0 none 0 0 false none 0 0 0 0 0 from f3.keep HZS.out (hnS _ (by omega) (by omega)))
  have HNc := Lib.hid (show S7 w3 w1.heap.size mf.c a3 mf.q.length k3 mf.busy a4 mf.rest.length k4 mf.acc mf.w mf.r from f3.keep HNc.out (hnS _ (by omega) hz2))
  have HAc := Lib.hid (f3.keep HAc.out (hnS _ (by omega) (by omega)))
  refine ⟨_, rfl, ?_⟩
  refine HK.out (fun w' => S7 w' w1.heap.size mf.c a3 mf.q.length k3 mf.busy a4 mf.rest.length k4 mf.acc mf.w mf.r ∧ w'.heap[w.heap.size + 1]? = some (.cells #[.int .i64 5, .slice pa ps.length pc, .int .i64 n] 55 (0, 0))) _ _ (fun _ h => h) (⟨HNc.out, HAc.out⟩) ?_
  clear HK K
  simp only [Act.put, List.setIfInBounds_toArray, List.set_cons_zero, List.set_cons_succ]
  refine walkO_take (o := _) (v := ?_) (by rw [HOPS.out]; simp only [List.getElem?_toArray, List.getElem?_cons_succ, List.getElem?_cons_zero]; exact rfl) (Or.inl ⟨rfl, ?_⟩) ?_
  rotate_left
  · (intro w hSw; have hSx := HFA.out _ hSw; (try dsimp only at hSx); clear hSw; go_simp) <;> (with_reducible rfl)
  simp only [Act.put, List.setIfInBounds_toArray, List.set_cons_zero, List.set_cons_succ]
  refine walkO_take (o := _) (v := ?_) (by rw [HOPS.out]; simp only [List.getElem?_toArray, List.getElem?_cons_succ, List.getElem?_cons_zero]; exact rfl) (Or.inl ⟨rfl, ?_⟩) ?_
  rotate_left
  · (intro w hSw; have hSx := HFA.out _ hSw; (try dsimp only at hSx); clear hSw; go_simp) <;> (with_reducible rfl)
  simp only [Act.put, List.setIfInBounds_toArray, List.set_cons_zero, List.set_cons_succ]
  refine walkO_call (o := _) (by rw [HOPS.out]; simp only [List.getElem?_toArray, List.getElem?_cons_succ, List.getElem?_cons_zero]; exact rfl) (fun K HK => ?_)
  refine step_store7 rfl 41 (.tmp 7) (.tmp 182) rfl (w.heap.size + 2) #[.int .i64 mf.c, .slice a3 mf.q.length k3, .bool mf.busy, .slice a4 mf.rest.length k4, .int .i64 mf.acc, .int .i64 mf.w, .int .i64 mf.r] (by simp [Act.eval]) (by simp [Act.eval]) _ _ HZS.out (by kernel_rfl) rfl (by simp [Value.oneCell']) ?_
  intro wf ff qf
  refine HK.out (fun w' => S7 w' w1.heap.size mf.c a3 mf.q.length k3 mf.busy a4 mf.rest.length k4 mf.acc mf.w mf.r ∧ w'.heap[w.heap.size + 1]? = some (.cells #[.int .i64 5, .slice pa ps.length pc, .int .i64 n] 55 (0, 0))) _ _ (fun _ h => h) (⟨ff.keep HNc.out (by intro hm; simp at hm; omega), ff.keep HAc.out (by intro hm; simp at hm)⟩) ?_
  clear HK K
  try simp only [Act.put, List.setIfInBounds_toArray, List.set_cons_zero, List.set_cons_succ]
  refine walkO_take (o := _) (v := ?_) (by rw [HOPS.out]; simp only [List.getElem?_toArray, List.getElem?_cons_succ, List.getElem?_cons_zero]; exact rfl) (Or.inl ⟨rfl, ?_⟩) ?_
  rotate_left
  · (intro w hSw; have hSx := HFA.out _ hSw; (try dsimp only at hSx); clear hSw; go_simp) <;> (with_reducible rfl)
  simp only [Act.put, List.setIfInBounds_toArray, List.set_cons_zero, List.set_cons_succ]
  refine walkO_done ?_
  clear HOPS OPS
  have QF := Lib.hid qf
  go_wp2_with fail
  obtain ⟨y0, y1, y2, y3, y4, y5, y6, _, _, _, _, _, _, _⟩ := S7.cells QF.out
  refine bodyPost_ret (v := .tuple #[.pointer (some ⟨b, 0, none⟩), .agg #[.int .i64 mf.c, .slice a3 mf.q.length k3, .bool mf.busy, .slice a4 mf.rest.length k4, .int .i64 mf.acc, .int .i64 mf.w, .int .i64 mf.r], .bool true]) (by simp [results, Try.results38, go_sem, y0, y1, y2, y3, y4, y5, y6]) rfl ?_
  exact step_post (HF2.out.then0 fd) hS f3 hF' h3 ff (HP3.out.keep fd (by simp)) (HP4.out.keep fd (by simp)) HFl.out HD.out (Nat.lt_of_lt_of_le (by omega) fd.size) HNW.out

end Go.Proofs.Ytdoamelhclnphaa
