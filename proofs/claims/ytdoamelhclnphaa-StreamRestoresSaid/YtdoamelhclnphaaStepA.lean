/-
  Law 14: is.
-/
import Derived.Test.YtdoamelhclnphaaRefH14
import Derived.Test.YtdoamelhclnphaaLaw14
import Derived.Test.YtdoamelhclnphaaRegionU
namespace Go.Proofs.Ytdoamelhclnphaa
open Go.RowKit
set_option maxRecDepth 100000

set_option maxHeartbeats 4000000 in
theorem is14 {w : World} {F : Nat → Prop} {b : Nat} {m : SM} {N : Nat → Prop} {v : Value} (hs : SF w F b m) (h : Sv w N v m) :
    Calls Try.prog 39 #[.pointer (some ⟨b, 0, none⟩), v] w fun e w' => e = .returned (.bool true) ∧ Fr [] w w' := by
  have HP := Lib.hid fun w' (f : Fr [] w w') => sf_progress (hs.keep0 f)
  have HST := Lib.hid fun w' (f : Fr [] w w') => (show Calls Try.prog 42 #[.pointer (some ⟨b, 0, none⟩)] w' fun e w2 => ∃ v, e = .returned v ∧ Fr [] w' w2 ∧ SvO w2 w'.heap.size v m from by obtain ⟨N0, L, h1, _⟩ := hs.keep0 f; exact st_state h1)
  clear hs
  obtain ⟨u1, u2, rfl, hq, hr⟩ := h
  obtain ⟨a1, k1, rfl, _⟩ := id hq
  obtain ⟨a2, k2, rfl, _⟩ := id hr
  have HQ := Lib.hid (And.intro hq hr)
  clear hq hr
  obtain ⟨w0, hw0, f0, q0⟩ : ∃ W, w.alloc (.cells #[.int .i64 m.c, .slice a1 m.q.length k1, .bool m.busy, .slice a2 m.rest.length k2, .int .i64 m.acc, .int .i64 m.w, .int .i64 m.r] 41) = W ∧ Fr [] w W ∧ S7 W w.heap.size m.c a1 m.q.length k1 m.busy a2 m.rest.length k2 m.acc m.w m.r := ⟨_, rfl, (Fr.refl _ _).alloc _, newA rfl⟩
  obtain ⟨x0, x1, x2, x3, x4, x5, x6, p0, p1, p2, p3, p4, p5, p6⟩ := q0.cells
  have hz0 : w.heap.size < w0.heap.size := lt_of_heap q0
  have HF := Lib.hid f0
  have HB := Lib.hid q0
  clear q0 f0
  have HES := Lib.hid (Go.Proofs.enters_of Try.func42 (by kernel_rfl) rfl)
  have HEQ := Lib.hid (Go.Proofs.enters_of Try.func41 (by kernel_rfl) rfl)
  have HEA := Lib.hid (Go.Proofs.enters_of Try.func88 (by kernel_rfl) rfl)
  go_enter Try.func39, Try.ntmps39
  go_wp2_with fail
  refine (HP.out _ HF.out).mono ?_
  rintro e w1 ⟨rfl, f1⟩
  have HF1 := Lib.hid (HF.out.then0 f1)
  have HB1 := Lib.hid (show S7 w1 w.heap.size m.c a1 m.q.length k1 m.busy a2 m.rest.length k2 m.acc m.w m.r from f1.keep HB.out (by simp))
  have HFA := Lib.hid fun (w' : World) (f : Fr [] w1 w') => (show w'.cell? ⟨w.heap.size, 0, none⟩ = some (.int .i64 m.c) ∧ w'.cell? ⟨w.heap.size, 1, none⟩ = some (.slice a1 m.q.length k1) ∧ w'.cell? ⟨w.heap.size, 2, none⟩ = some (.bool m.busy) ∧ w'.cell? ⟨w.heap.size, 3, none⟩ = some (.slice a2 m.rest.length k2) ∧ w'.cell? ⟨w.heap.size, 4, none⟩ = some (.int .i64 m.acc) ∧ w'.cell? ⟨w.heap.size, 5, none⟩ = some (.int .i64 m.w) ∧ w'.cell? ⟨w.heap.size, 6, none⟩ = some (.int .i64 m.r) from (let q := S7.cells (show S7 w' w.heap.size m.c a1 m.q.length k1 m.busy a2 m.rest.length k2 m.acc m.w m.r from f.keep HB1.out (by simp)); ⟨q.1, q.2.1, q.2.2.1, q.2.2.2.1, q.2.2.2.2.1, q.2.2.2.2.2.1, q.2.2.2.2.2.2.1⟩))
  clear x0 x1 x2 x3 x4 x5 x6 p0 p1 p2 p3 p4 p5 p6
  go_wp2_with fail
  have fd : Fr [] w1 w1.drew := (Fr.refl _ _).drew
  refine wp_region_order [(0, true), (2, true), (1, false), (3, false), (4, true), (5, true), (6, true), (7, true), (8, true), (9, true), (10, true), (11, true), (12, true), (13, false), (14, true), (15, true), (16, true)] (fun w' => Fr [] w1 w') (by kernel_rfl) (by kernel_rfl) fd ?_
  intro OPS HOPS
  have hops := HOPS.out
  try simp only [List.append_eq, List.cons_append, List.nil_append] at hops
  replace HOPS := Lib.hid hops
  clear hops
  refine walkO_take (o := _) (v := ?_) (by rw [HOPS.out]; simp only [List.getElem?_toArray, List.getElem?_cons_succ, List.getElem?_cons_zero]; exact rfl) (Or.inl ⟨rfl, ?_⟩) ?_
  rotate_left
  · (intro w hSw; have hSx := HFA.out _ hSw; (try dsimp only at hSx); clear hSw; go_simp) <;> (with_reducible rfl)
  simp only [Act.put, List.setIfInBounds_toArray, List.set_cons_zero, List.set_cons_succ]
  refine walkO_take (o := _) (v := ?_) (by rw [HOPS.out]; simp only [List.getElem?_toArray, List.getElem?_cons_succ, List.getElem?_cons_zero]; exact rfl) (Or.inl ⟨rfl, ?_⟩) ?_
  rotate_left
  · (intro w hSw; have hSx := HFA.out _ hSw; (try dsimp only at hSx); clear hSw; go_simp) <;> (with_reducible rfl)
  simp only [Act.put, List.setIfInBounds_toArray, List.set_cons_zero, List.set_cons_succ]
  refine walkO_call (o := _) (by rw [HOPS.out]; simp only [List.getElem?_toArray, List.getElem?_cons_succ, List.getElem?_cons_zero]; exact rfl) (fun K HK => ?_)
  refine step_call rfl 42 #[(.tmp 12)] #[23] rfl HES.out #[.pointer (some ⟨b, 0, none⟩)] (by simp [Act.eval]) (HST.out _ (HF1.out.then0 fd)) ?_
  rintro e w2 ⟨vs, rfl, f2, hs⟩
  have g2 := fd.then0 f2
  refine ⟨_, rfl, ?_⟩
  refine HK.out (fun w' => Fr [] w1 w') _ _ (fun _ h => h) (g2) ?_
  clear HK K
  simp only [Act.put, List.setIfInBounds_toArray, List.set_cons_zero, List.set_cons_succ]
  refine walkO_call (o := _) (by rw [HOPS.out]; simp only [List.getElem?_toArray, List.getElem?_cons_succ, List.getElem?_cons_zero]; exact rfl) (fun K HK => ?_)
  refine step_call rfl 41 #[(.tmp 13), (.tmp 14)] #[41, 41] rfl HEQ.out #[vs, .agg #[.int .i64 m.c, .slice a1 m.q.length k1, .bool m.busy, .slice a2 m.rest.length k2, .int .i64 m.acc, .int .i64 m.w, .int .i64 m.r]] (by simp [Act.eval]) (same14 (SvO.sv hs) (show Sv w2 N (.agg #[.int .i64 m.c, .slice a1 m.q.length k1, .bool m.busy, .slice a2 m.rest.length k2, .int .i64 m.acc, .int .i64 m.w, .int .i64 m.r]) m from ⟨_, _, rfl, HQ.out.1.keep (HF1.out.then0 g2) (by simp), HQ.out.2.keep (HF1.out.then0 g2) (by simp)⟩)) ?_
  rintro e w3 ⟨rfl, f3⟩
  have g3 := g2.then0 f3
  refine ⟨_, rfl, ?_⟩
  refine HK.out (fun w' => Fr [] w1 w') _ _ (fun _ h => h) (g3) ?_
  clear HK K
  simp only [Act.put, List.setIfInBounds_toArray, List.set_cons_zero, List.set_cons_succ]
  refine walkO_take (o := _) (v := ?_) (by rw [HOPS.out]; simp only [List.getElem?_toArray, List.getElem?_cons_succ, List.getElem?_cons_zero]; exact rfl) (Or.inl ⟨rfl, ?_⟩) ?_
  rotate_left
  · (intro w hSw; have hSx := HFA.out _ hSw; (try dsimp only at hSx); clear hSw; go_simp) <;> (with_reducible rfl)
  simp only [Act.put, List.setIfInBounds_toArray, List.set_cons_zero, List.set_cons_succ]
  refine walkO_take (o := _) (v := ?_) (by rw [HOPS.out]; simp only [List.getElem?_toArray, List.getElem?_cons_succ, List.getElem?_cons_zero]; exact rfl) (Or.inl ⟨by rw [HOPS.out]; rfl, ?_⟩) ?_
  rotate_left
  · (intro w hSw; have hSx := HFA.out _ hSw; (try dsimp only at hSx); clear hSw; go_simp) <;> (with_reducible rfl)
  simp only [Act.put, List.setIfInBounds_toArray, List.set_cons_zero, List.set_cons_succ]
  refine walkO_take (o := _) (v := ?_) (by rw [HOPS.out]; simp only [List.getElem?_toArray, List.getElem?_cons_succ, List.getElem?_cons_zero]; exact rfl) (Or.inl ⟨by rw [HOPS.out]; rfl, ?_⟩) ?_
  rotate_left
  · (intro w hSw; have hSx := HFA.out _ hSw; (try dsimp only at hSx); clear hSw; go_simp) <;> (with_reducible rfl)
  simp only [Act.put, List.setIfInBounds_toArray, List.set_cons_zero, List.set_cons_succ]
  refine walkO_take (o := _) (v := ?_) (by rw [HOPS.out]; simp only [List.getElem?_toArray, List.getElem?_cons_succ, List.getElem?_cons_zero]; exact rfl) (Or.inl ⟨by rw [HOPS.out]; rfl, ?_⟩) ?_
  rotate_left
  · (intro w hSw; have hSx := HFA.out _ hSw; (try dsimp only at hSx); clear hSw; go_simp) <;> (with_reducible rfl)
  simp only [Act.put, List.setIfInBounds_toArray, List.set_cons_zero, List.set_cons_succ]
  refine walkO_take (o := _) (v := ?_) (by rw [HOPS.out]; simp only [List.getElem?_toArray, List.getElem?_cons_succ, List.getElem?_cons_zero]; exact rfl) (Or.inl ⟨by rw [HOPS.out]; rfl, ?_⟩) ?_
  rotate_left
  · (intro w hSw; have hSx := HFA.out _ hSw; (try dsimp only at hSx); clear hSw; go_simp) <;> (with_reducible rfl)
  simp only [Act.put, List.setIfInBounds_toArray, List.set_cons_zero, List.set_cons_succ]
  refine walkO_take (o := _) (v := ?_) (by rw [HOPS.out]; simp only [List.getElem?_toArray, List.getElem?_cons_succ, List.getElem?_cons_zero]; exact rfl) (Or.inl ⟨rfl, ?_⟩) ?_
  rotate_left
  · (intro w hSw; have hSx := HFA.out _ hSw; (try dsimp only at hSx); clear hSw; go_simp) <;> (with_reducible rfl)
  simp only [Act.put, List.setIfInBounds_toArray, List.set_cons_zero, List.set_cons_succ]
  refine walkO_take (o := _) (v := ?_) (by rw [HOPS.out]; simp only [List.getElem?_toArray, List.getElem?_cons_succ, List.getElem?_cons_zero]; exact rfl) (Or.inl ⟨rfl, ?_⟩) ?_
  rotate_left
  · (intro w hSw; have hSx := HFA.out _ hSw; (try dsimp only at hSx); clear hSw; go_simp) <;> (with_reducible rfl)
  simp only [Act.put, List.setIfInBounds_toArray, List.set_cons_zero, List.set_cons_succ]
  refine walkO_take (o := _) (v := ?_) (by rw [HOPS.out]; simp only [List.getElem?_toArray, List.getElem?_cons_succ, List.getElem?_cons_zero]; exact rfl) (Or.inl ⟨by rw [HOPS.out]; rfl, ?_⟩) ?_
  rotate_left
  · (intro w hSw; have hSx := HFA.out _ hSw; (try dsimp only at hSx); clear hSw; go_simp) <;> (with_reducible rfl)
  simp only [Act.put, List.setIfInBounds_toArray, List.set_cons_zero, List.set_cons_succ]
  refine walkO_take (o := _) (v := ?_) (by rw [HOPS.out]; simp only [List.getElem?_toArray, List.getElem?_cons_succ, List.getElem?_cons_zero]; exact rfl) (Or.inl ⟨by rw [HOPS.out]; rfl, ?_⟩) ?_
  rotate_left
  · (intro w hSw; have hSx := HFA.out _ hSw; (try dsimp only at hSx); clear hSw; go_simp) <;> (with_reducible rfl)
  simp only [Act.put, List.setIfInBounds_toArray, List.set_cons_zero, List.set_cons_succ]
  refine walkO_call (o := _) (by rw [HOPS.out]; simp only [List.getElem?_toArray, List.getElem?_cons_succ, List.getElem?_cons_zero]; exact rfl) (fun K HK => ?_)
  refine step_call (by rw [HOPS.out]; rfl) 88 #[(.tmp 24)] #[41] rfl HEA.out #[.agg #[.int .i64 m.c, .slice a1 m.q.length k1, .bool m.busy, .slice a2 m.rest.length k2, .int .i64 m.acc, .int .i64 m.w, .int .i64 m.r]] (by simp [Act.eval]) (r_atend (show Sv w3 N (.agg #[.int .i64 m.c, .slice a1 m.q.length k1, .bool m.busy, .slice a2 m.rest.length k2, .int .i64 m.acc, .int .i64 m.w, .int .i64 m.r]) m from ⟨_, _, rfl, HQ.out.1.keep (HF1.out.then0 g3) (by simp), HQ.out.2.keep (HF1.out.then0 g3) (by simp)⟩)) ?_
  rintro e w4 ⟨rfl, f4⟩
  have g4 := g3.then0 f4
  refine ⟨_, rfl, ?_⟩
  refine HK.out (fun w' => Fr [] w1 w') _ _ (fun _ h => h) (g4) ?_
  clear HK K
  simp only [Act.put, List.setIfInBounds_toArray, List.set_cons_zero, List.set_cons_succ]
  refine walkO_take (o := _) (v := ?_) (by rw [HOPS.out]; simp only [List.getElem?_toArray, List.getElem?_cons_succ, List.getElem?_cons_zero]; exact rfl) (Or.inl ⟨by rw [HOPS.out]; rfl, ?_⟩) ?_
  rotate_left
  · (intro w hSw; have hSx := HFA.out _ hSw; (try dsimp only at hSx); clear hSw; go_simp) <;> (with_reducible rfl)
  simp only [Act.put, List.setIfInBounds_toArray, List.set_cons_zero, List.set_cons_succ]
  refine walkO_take (o := _) (v := ?_) (by rw [HOPS.out]; simp only [List.getElem?_toArray, List.getElem?_cons_succ, List.getElem?_cons_zero]; exact rfl) (Or.inl ⟨rfl, ?_⟩) ?_
  rotate_left
  · (intro w hSw; have hSx := HFA.out _ hSw; (try dsimp only at hSx); clear hSw; go_simp) <;> (with_reducible rfl)
  simp only [Act.put, List.setIfInBounds_toArray, List.set_cons_zero, List.set_cons_succ]
  refine walkO_take (o := _) (v := ?_) (by rw [HOPS.out]; simp only [List.getElem?_toArray, List.getElem?_cons_succ, List.getElem?_cons_zero]; exact rfl) (Or.inl ⟨rfl, ?_⟩) ?_
  rotate_left
  · (intro w hSw; have hSx := HFA.out _ hSw; (try dsimp only at hSx); clear hSw; go_simp) <;> (with_reducible rfl)
  simp only [Act.put, List.setIfInBounds_toArray, List.set_cons_zero, List.set_cons_succ]
  refine walkO_done ?_
  clear HOPS OPS
  have HG := Lib.hid (HF1.out.then0 g4)
  clear g4 g3 g2 f2 f3 f4 hs fd f1
  try simp only [beq_self_eq_true]
  go_wp2_with fail
  go_ret
  exact ⟨by simp, HG.out⟩
end Go.Proofs.Ytdoamelhclnphaa

namespace Go.Proofs.Ytdoamelhclnphaa
open Go.RowKit
set_option maxRecDepth 100000

/-- What a step leaves. -/
def Step14 (w : World) (F N : Nat → Prop) (m' : SM) (e : Ending) (w' : World) : Prop :=
  ∃ b' v', e = .returned (.tuple #[.pointer (some ⟨b', 0, none⟩), v', .bool true]) ∧ (∃ S, (∀ x ∈ S, F x ∨ w.heap.size ≤ x) ∧ Fr S w w') ∧ ∃ F' N' : Nat → Prop, SF w' F' b' m' ∧ Sv w' N' v' m' ∧ (∀ x, F' x → F x ∨ w.heap.size ≤ x) ∧ (∀ x, N' x → N x ∨ w.heap.size ≤ x) ∧ ∀ x, F' x → ¬ N' x
theorem step_post {w w2 w3 wf : World} {F F' N : Nat → Prop} {S : List Nat} {b : Nat} {mf : SM} {a3 a4 : Option Addr} {k3 k4 : Nat} (f2 : Fr [] w w2) (hS : ∀ x ∈ S, F x ∨ w2.heap.size ≤ x) (f3 : Fr S w2 w3) (hF' : ∀ x, F' x → F x ∨ w2.heap.size ≤ x) (h3 : SF w3 F' b mf) (fx : Fr [(w.heap.size + 2)] w3 wf)
    (hp3 : PartV w2 N (.slice a3 mf.q.length k3) mf.q) (hp4 : PartV w2 N (.slice a4 mf.rest.length k4) mf.rest) (hFl : ∀ x, F x → x < w.heap.size) (hd : ∀ x, F x → ¬ N x) (hz : w.heap.size + 2 < w2.heap.size) (hNz : ∀ x, N x → x < w.heap.size) :
    Step14 w F N mf (.returned (.tuple #[.pointer (some ⟨b, 0, none⟩), .agg #[.int .i64 mf.c, .slice a3 mf.q.length k3, .bool mf.busy, .slice a4 mf.rest.length k4, .int .i64 mf.acc, .int .i64 mf.w, .int .i64 mf.r], .bool true])) wf := by
  have hs2 := f2.size
  refine ⟨_, _, rfl, ⟨(w.heap.size + 2) :: S, fun x hx => ?_, ?_⟩, F', N, h3.keep fx (fun x hx hF => ?_), ⟨_, _, rfl, (hp3.keep f3 (fun x hx hn => ?_)).keep fx (fun x hx hn => ?_), (hp4.keep f3 (fun x hx hn => ?_)).keep fx (fun x hx hn => ?_)⟩, fun x hx => ?_, fun x hx => .inl hx, fun x hx hn => ?_⟩
  · rcases List.mem_cons.1 hx with rfl | hx
    · exact .inr (by omega)
    · rcases hS x hx with h | h
      · exact .inl h
      · exact .inr (by omega)
  · exact (f2.trans f3 (U := (w.heap.size + 2) :: S) (by simp) (fun x hx => .inl (List.mem_cons_of_mem _ hx))).trans fx (fun x hx => .inl hx) (fun x hx => .inl (by simp at hx; simp [hx]))
  · simp at hx
    rcases hF' x hF with h | h
    · have := hFl x h; omega
    · omega
  · rcases hS x hx with h | h
    · exact hd x h hn
    · have := hNz x hn; omega
  · simp at hx
    have := hNz x hn; omega
  · rcases hS x hx with h | h
    · exact hd x h hn
    · have := hNz x hn; omega
  · simp at hx
    have := hNz x hn; omega
  · rcases hF' x hx with h | h
    · exact .inl h
    · exact .inr (by omega)
  · rcases hF' x hx with h | h
    · exact hd x h hn
    · have := hNz x hn; omega
set_option maxHeartbeats 8000000 in
theorem step_end {w : World} {F N : Nat → Prop} {b : Nat} {m : SM} {v : Value} {pa : Option Addr} {pc : Nat} {ps : Parts} {n : Int} (hs : SF w F b m) (h : Sv w N v m) (hd : ∀ x, F x → ¬ N x) (HNZ : ∀ x, N x → x < w.heap.size) :
    Calls Try.prog 38 #[.pointer (some ⟨b, 0, none⟩), v, .agg #[.int .i64 1, .slice pa ps.length pc, .int .i64 n]] w (Step14 w F N (endM m).m) := by
  have HNW := Lib.hid HNZ
  clear HNZ
  have hFl := hs.lt
  obtain ⟨u1, u2, rfl, hq, hr⟩ := h
  obtain ⟨a1, k1, rfl, _⟩ := id hq
  obtain ⟨a2, k2, rfl, _⟩ := id hr
  have HQ := Lib.hid (And.intro hq hr)
  clear hq hr
  obtain ⟨w0, hw0, f0, q0, qa, z0⟩ : ∃ W, ((w.alloc (.cells #[.int .i64 m.c, .slice a1 m.q.length k1, .bool m.busy, .slice a2 m.rest.length k2, .int .i64 m.acc, .int .i64 m.w, .int .i64 m.r] 41)).alloc (.cells #[.int .i64 1, .slice pa ps.length pc, .int .i64 n] 55)).alloc (.cells #[.int .i64 0, .slice none 0 0, .bool false, .slice none 0 0, .int .i64 0, .int .i64 0, .int .i64 0] 41) = W ∧ Fr [] w W ∧ S7 W w.heap.size m.c a1 m.q.length k1 m.busy a2 m.rest.length k2 m.acc m.w m.r ∧ W.heap[w.heap.size + 1]? = some (.cells #[.int .i64 1, .slice pa ps.length pc, .int .i64 n] 55 (0, 0)) ∧ S7 W (w.heap.size + 2) 0 none 0 0 false none 0 0 0 0 0 := ⟨_, rfl, (((Fr.refl _ _).alloc _).alloc _).alloc _, keepA (keepA (newA rfl)), keepA (newA (by simp)), newA (by simp)⟩
  obtain ⟨x0, x1, x2, x3, x4, x5, x6, p0, p1, p2, p3, p4, p5, p6⟩ := q0.cells
  have e0 : w0.cell? ⟨w.heap.size + 1, 0, none⟩ = some (.int .i64 1) := cell_of qa
  have e1 : w0.cell? ⟨w.heap.size + 1, 1, none⟩ = some (.slice pa ps.length pc) := cell_of qa
  have e2 : w0.cell? ⟨w.heap.size + 1, 2, none⟩ = some (.int .i64 n) := cell_of qa
  have hz0 : w.heap.size + 2 < w0.heap.size := lt_of_heap z0
  have HZ := Lib.hid z0
  have HF := Lib.hid f0
  have HQA := Lib.hid qa
  clear q0 z0 f0 qa
  have HC := Lib.hid (r_end (w := w0) (N := N) (v := .agg #[.int .i64 m.c, .slice a1 m.q.length k1, .bool m.busy, .slice a2 m.rest.length k2, .int .i64 m.acc, .int .i64 m.w, .int .i64 m.r]) (m := m) ⟨_, _, rfl, HQ.out.1.keep HF.out (by simp), HQ.out.2.keep HF.out (by simp)⟩)
  have HS := Lib.hid fun w' (f : Fr [] w w') => sf_end (hs.keep0 f)
  generalize hmf : (endM m).m = mf at *
  generalize hnn : (endM m).n = nn at *
  generalize hee : (endM m).err = ee at *
  have HFl := Lib.hid hFl
  have HD := Lib.hid hd
  clear hFl hd hs hmf hnn hee
  go_enter Try.func38, Try.ntmps38
  go_wp2_with fail
  refine HC.out.mono ?_
  rintro e w1 ⟨v', rfl, f1, u3, u4, rfl, hp3, hp4⟩
  obtain ⟨a3, k3, rfl, _⟩ := id hp3
  obtain ⟨a4, k4, rfl, _⟩ := id hp4
  obtain ⟨w2, hw2, f2, q2⟩ : ∃ W, w1.alloc (.cells #[.int .i64 mf.c, .slice a3 mf.q.length k3, .bool mf.busy, .slice a4 mf.rest.length k4, .int .i64 mf.acc, .int .i64 mf.w, .int .i64 mf.r] 41) = W ∧ Fr [] w1 W ∧ S7 W w1.heap.size mf.c a3 mf.q.length k3 mf.busy a4 mf.rest.length k4 mf.acc mf.w mf.r := ⟨_, rfl, (Fr.refl _ _).alloc _, newA rfl⟩
  have z1 := f1.size
  have hz2 : w1.heap.size < w2.heap.size := lt_of_heap q2
  have HP3 := Lib.hid (hp3.keep f2 (by simp))
  have HP4 := Lib.hid (hp4.keep f2 (by simp))
  have HN2 := Lib.hid q2
  have HF2 := Lib.hid ((HF.out.then0 f1).then0 f2)
  have HZ2 := Lib.hid (show S7 w2 (w.heap.size + 2) 0 none 0 0 false none 0 0 0 0 0 from f2.keep (f1.keep HZ.out (by simp)) (by simp))
  clear x0 x1 x2 x3 x4 x5 x6 p0 p1 p2 p3 p4 p5 p6
  obtain ⟨x0, x1, x2, x3, x4, x5, x6, p0, p1, p2, p3, p4, p5, p6⟩ := q2.cells
  clear hp3 hp4 q2 f1 f2 e0 e1 e2
  go_wp2_with fail
  refine (HS.out w2 HF2.out).mono ?_
  rintro e w3 ⟨rfl, ⟨S, hS, f3⟩, F', hF', h3⟩
  have hSw : ∀ x ∈ S, F x ∨ w2.heap.size ≤ x := hS
  have hnS : ∀ x, w.heap.size ≤ x → x < w2.heap.size → x ∉ S := fun x h1 h2 hm => by rcases hS x hm with h | h; have := HFl.out x h; omega; omega
  have HN3 := Lib.hid (show S7 w3 w1.heap.size mf.c a3 mf.q.length k3 mf.busy a4 mf.rest.length k4 mf.acc mf.w mf.r from f3.keep HN2.out (hnS _ (by omega) hz2))
  have HZS := Lib.hid (show S7 w3 (w.heap.size + 2) 0 none 0 0 false none 0 0 0 0 0 from f3.keep HZ2.out (hnS _ (by omega) (by omega)))
  have HS3 := Lib.hid (And.intro hS (And.intro f3 (And.intro hF' h3)))
  have HNS := Lib.hid hnS
  have hz3 := f3.size
  clear hS f3 hF' h3 hSw hnS x0 x1 x2 x3 x4 x5 x6 p0 p1 p2 p3 p4 p5 p6
  have HFA := Lib.hid fun (w' : World) (f : S7 w' w1.heap.size mf.c a3 mf.q.length k3 mf.busy a4 mf.rest.length k4 mf.acc mf.w mf.r) => (show w'.cell? ⟨w1.heap.size, 0, none⟩ = some (.int .i64 mf.c) ∧ w'.cell? ⟨w1.heap.size, 1, none⟩ = some (.slice a3 mf.q.length k3) ∧ w'.cell? ⟨w1.heap.size, 2, none⟩ = some (.bool mf.busy) ∧ w'.cell? ⟨w1.heap.size, 3, none⟩ = some (.slice a4 mf.rest.length k4) ∧ w'.cell? ⟨w1.heap.size, 4, none⟩ = some (.int .i64 mf.acc) ∧ w'.cell? ⟨w1.heap.size, 5, none⟩ = some (.int .i64 mf.w) ∧ w'.cell? ⟨w1.heap.size, 6, none⟩ = some (.int .i64 mf.r) from (let q := S7.cells f; ⟨q.1, q.2.1, q.2.2.1, q.2.2.2.1, q.2.2.2.2.1, q.2.2.2.2.2.1, q.2.2.2.2.2.2.1⟩))
  go_wp2_with fail
  have fd : Fr [] w3 w3.drew := (Fr.refl _ _).drew
  replace HZS := Lib.hid (show S7 w3.drew (w.heap.size + 2) 0 none 0 0 false none 0 0 0 0 0 from fd.keep HZS.out (by simp))
  refine wp_region_order [(0, true), (1, true), (2, true), (3, true), (4, true), (5, true), (6, true), (7, true), (8, true), (9, true), (10, true), (11, false), (12, true)] (fun w' => S7 w' w1.heap.size mf.c a3 mf.q.length k3 mf.busy a4 mf.rest.length k4 mf.acc mf.w mf.r) (by kernel_rfl) (by kernel_rfl) (fd.keep HN3.out (by simp)) ?_
  intro OPS HOPS
  have hops := HOPS.out
  try simp only [List.append_eq, List.cons_append, List.nil_append] at hops
  replace HOPS := Lib.hid hops
  clear hops
  refine walkO_take (o := _) (v := ?_) (by rw [HOPS.out]; simp only [List.getElem?_toArray, List.getElem?_cons_succ, List.getElem?_cons_zero]; exact rfl) (Or.inl ⟨rfl, ?_⟩) ?_
  rotate_left
  · (intro w hSw; have hSx := HFA.out _ hSw; (try dsimp only at hSx); clear hSw; go_simp) <;> (with_reducible rfl)
  simp only [Act.put, List.setIfInBounds_toArray, List.set_cons_zero, List.set_cons_succ]
  refine walkO_take (o := _) (v := ?_) (by rw [HOPS.out]; simp only [List.getElem?_toArray, List.getElem?_cons_succ, List.getElem?_cons_zero]; exact rfl) (Or.inl ⟨rfl, ?_⟩) ?_
  rotate_left
  · (intro w hSw; have hSx := HFA.out _ hSw; (try dsimp only at hSx); clear hSw; go_simp) <;> (with_reducible rfl)
  simp only [Act.put, List.setIfInBounds_toArray, List.set_cons_zero, List.set_cons_succ]
  refine walkO_take (o := _) (v := ?_) (by rw [HOPS.out]; simp only [List.getElem?_toArray, List.getElem?_cons_succ, List.getElem?_cons_zero]; exact rfl) (Or.inl ⟨rfl, ?_⟩) ?_
  rotate_left
  · (intro w hSw; have hSx := HFA.out _ hSw; (try dsimp only at hSx); clear hSw; go_simp) <;> (with_reducible rfl)
  simp only [Act.put, List.setIfInBounds_toArray, List.set_cons_zero, List.set_cons_succ]
  refine walkO_take (o := _) (v := ?_) (by rw [HOPS.out]; simp only [List.getElem?_toArray, List.getElem?_cons_succ, List.getElem?_cons_zero]; exact rfl) (Or.inl ⟨rfl, ?_⟩) ?_
  rotate_left
  · (intro w hSw; have hSx := HFA.out _ hSw; (try dsimp only at hSx); clear hSw; go_simp) <;> (with_reducible rfl)
  simp only [Act.put, List.setIfInBounds_toArray, List.set_cons_zero, List.set_cons_succ]
  refine walkO_take (o := _) (v := ?_) (by rw [HOPS.out]; simp only [List.getElem?_toArray, List.getElem?_cons_succ, List.getElem?_cons_zero]; exact rfl) (Or.inl ⟨rfl, ?_⟩) ?_
  rotate_left
  · (intro w hSw; have hSx := HFA.out _ hSw; (try dsimp only at hSx); clear hSw; go_simp) <;> (with_reducible rfl)
  simp only [Act.put, List.setIfInBounds_toArray, List.set_cons_zero, List.set_cons_succ]
  refine walkO_take (o := _) (v := ?_) (by rw [HOPS.out]; simp only [List.getElem?_toArray, List.getElem?_cons_succ, List.getElem?_cons_zero]; exact rfl) (Or.inl ⟨rfl, ?_⟩) ?_
  rotate_left
  · (intro w hSw; have hSx := HFA.out _ hSw; (try dsimp only at hSx); clear hSw; go_simp) <;> (with_reducible rfl)
  simp only [Act.put, List.setIfInBounds_toArray, List.set_cons_zero, List.set_cons_succ]
  refine walkO_take (o := _) (v := ?_) (by rw [HOPS.out]; simp only [List.getElem?_toArray, List.getElem?_cons_succ, List.getElem?_cons_zero]; exact rfl) (Or.inl ⟨by rw [HOPS.out]; rfl, ?_⟩) ?_
  rotate_left
  · (intro w hSw; have hSx := HFA.out _ hSw; (try dsimp only at hSx); clear hSw; go_simp) <;> (with_reducible rfl)
  simp only [Act.put, List.setIfInBounds_toArray, List.set_cons_zero, List.set_cons_succ]
  refine walkO_take (o := _) (v := ?_) (by rw [HOPS.out]; simp only [List.getElem?_toArray, List.getElem?_cons_succ, List.getElem?_cons_zero]; exact rfl) (Or.inl ⟨by rw [HOPS.out]; rfl, ?_⟩) ?_
  rotate_left
  · (intro w hSw; have hSx := HFA.out _ hSw; (try dsimp only at hSx); clear hSw; go_simp) <;> (with_reducible rfl)
  simp only [Act.put, List.setIfInBounds_toArray, List.set_cons_zero, List.set_cons_succ]
  refine walkO_take (o := _) (v := ?_) (by rw [HOPS.out]; simp only [List.getElem?_toArray, List.getElem?_cons_succ, List.getElem?_cons_zero]; exact rfl) (Or.inl ⟨by rw [HOPS.out]; rfl, ?_⟩) ?_
  rotate_left
  · (intro w hSw; have hSx := HFA.out _ hSw; (try dsimp only at hSx); clear hSw; go_simp) <;> (with_reducible rfl)
  simp only [Act.put, List.setIfInBounds_toArray, List.set_cons_zero, List.set_cons_succ]
  refine walkO_take (o := _) (v := ?_) (by rw [HOPS.out]; simp only [List.getElem?_toArray, List.getElem?_cons_succ, List.getElem?_cons_zero]; exact rfl) (Or.inl ⟨rfl, ?_⟩) ?_
  rotate_left
  · (intro w hSw; have hSx := HFA.out _ hSw; (try dsimp only at hSx); clear hSw; go_simp) <;> (with_reducible rfl)
  simp only [Act.put, List.setIfInBounds_toArray, List.set_cons_zero, List.set_cons_succ]
  refine walkO_take (o := _) (v := ?_) (by rw [HOPS.out]; simp only [List.getElem?_toArray, List.getElem?_cons_succ, List.getElem?_cons_zero]; exact rfl) (Or.inl ⟨rfl, ?_⟩) ?_
  rotate_left
  · (intro w hSw; have hSx := HFA.out _ hSw; (try dsimp only at hSx); clear hSw; go_simp) <;> (with_reducible rfl)
  simp only [Act.put, List.setIfInBounds_toArray, List.set_cons_zero, List.set_cons_succ]
  refine walkO_call (o := _) (by rw [HOPS.out]; simp only [List.getElem?_toArray, List.getElem?_cons_succ, List.getElem?_cons_zero]; exact rfl) (fun K HK => ?_)
  refine step_store7 rfl 41 (.tmp 7) (.tmp 81) rfl (w.heap.size + 2) #[.int .i64 mf.c, .slice a3 mf.q.length k3, .bool mf.busy, .slice a4 mf.rest.length k4, .int .i64 mf.acc, .int .i64 mf.w, .int .i64 mf.r] (by simp [Act.eval]) (by simp [Act.eval]) _ _ HZS.out (by kernel_rfl) rfl (by simp [Value.oneCell']) ?_
  intro wf ff qf
  obtain ⟨y0, y1, y2, y3, y4, y5, y6, _, _, _, _, _, _, _⟩ := S7.cells qf
  refine HK.out (fun w' => S7 w' w1.heap.size mf.c a3 mf.q.length k3 mf.busy a4 mf.rest.length k4 mf.acc mf.w mf.r) _ _ (fun _ h => h) (ff.keep (fd.keep HN3.out (by simp)) (by intro hm; simp at hm; omega)) ?_
  clear HK K
  try simp only [Act.put, List.setIfInBounds_toArray, List.set_cons_zero, List.set_cons_succ]
  refine walkO_take (o := _) (v := ?_) (by rw [HOPS.out]; simp only [List.getElem?_toArray, List.getElem?_cons_succ, List.getElem?_cons_zero]; exact rfl) (Or.inl ⟨rfl, ?_⟩) ?_
  rotate_left
  · (intro w hSw; have hSx := HFA.out _ hSw; (try dsimp only at hSx); clear hSw; go_simp) <;> (with_reducible rfl)
  simp only [Act.put, List.setIfInBounds_toArray, List.set_cons_zero, List.set_cons_succ]
  refine walkO_done ?_
  clear HOPS OPS
  go_wp2_with fail
  refine bodyPost_ret (v := .tuple #[.pointer (some ⟨b, 0, none⟩), .agg #[.int .i64 mf.c, .slice a3 mf.q.length k3, .bool mf.busy, .slice a4 mf.rest.length k4, .int .i64 mf.acc, .int .i64 mf.w, .int .i64 mf.r], .bool true]) (by simp [results, Try.results38, go_sem, y0, y1, y2, y3, y4, y5, y6]) rfl ?_
  have fx : Fr [(w.heap.size + 2)] w3 wf := Fr.trans (U := [(w.heap.size + 2)]) (S := []) fd ff (by simp) (fun x hx => .inl hx)
  exact step_post HF2.out HS3.out.1 HS3.out.2.1 HS3.out.2.2.1 HS3.out.2.2.2 fx HP3.out HP4.out HFl.out HD.out (by omega) HNW.out
set_option maxHeartbeats 8000000 in
theorem step_cancel {w : World} {F N : Nat → Prop} {b : Nat} {m : SM} {v : Value} {pa : Option Addr} {pc : Nat} {ps : Parts} {n : Int} (hs : SF w F b m) (h : Sv w N v m) (hd : ∀ x, F x → ¬ N x) (HNZ : ∀ x, N x → x < w.heap.size) :
    Calls Try.prog 38 #[.pointer (some ⟨b, 0, none⟩), v, .agg #[.int .i64 2, .slice pa ps.length pc, .int .i64 n]] w (Step14 w F N (cancelM m).m) := by
  have HNW := Lib.hid HNZ
  clear HNZ
  have hFl := hs.lt
  obtain ⟨u1, u2, rfl, hq, hr⟩ := h
  obtain ⟨a1, k1, rfl, _⟩ := id hq
  obtain ⟨a2, k2, rfl, _⟩ := id hr
  have HQ := Lib.hid (And.intro hq hr)
  clear hq hr
  obtain ⟨w0, hw0, f0, q0, qa, z0⟩ : ∃ W, ((w.alloc (.cells #[.int .i64 m.c, .slice a1 m.q.length k1, .bool m.busy, .slice a2 m.rest.length k2, .int .i64 m.acc, .int .i64 m.w, .int .i64 m.r] 41)).alloc (.cells #[.int .i64 2, .slice pa ps.length pc, .int .i64 n] 55)).alloc (.cells #[.int .i64 0, .slice none 0 0, .bool false, .slice none 0 0, .int .i64 0, .int .i64 0, .int .i64 0] 41) = W ∧ Fr [] w W ∧ S7 W w.heap.size m.c a1 m.q.length k1 m.busy a2 m.rest.length k2 m.acc m.w m.r ∧ W.heap[w.heap.size + 1]? = some (.cells #[.int .i64 2, .slice pa ps.length pc, .int .i64 n] 55 (0, 0)) ∧ S7 W (w.heap.size + 2) 0 none 0 0 false none 0 0 0 0 0 := ⟨_, rfl, (((Fr.refl _ _).alloc _).alloc _).alloc _, keepA (keepA (newA rfl)), keepA (newA (by simp)), newA (by simp)⟩
  obtain ⟨x0, x1, x2, x3, x4, x5, x6, p0, p1, p2, p3, p4, p5, p6⟩ := q0.cells
  have e0 : w0.cell? ⟨w.heap.size + 1, 0, none⟩ = some (.int .i64 2) := cell_of qa
  have e1 : w0.cell? ⟨w.heap.size + 1, 1, none⟩ = some (.slice pa ps.length pc) := cell_of qa
  have e2 : w0.cell? ⟨w.heap.size + 1, 2, none⟩ = some (.int .i64 n) := cell_of qa
  have hz0 : w.heap.size + 2 < w0.heap.size := lt_of_heap z0
  have HZ := Lib.hid z0
  have HF := Lib.hid f0
  have HQA := Lib.hid qa
  clear q0 z0 f0 qa
  have HC := Lib.hid (r_cancel (w := w0) (N := N) (v := .agg #[.int .i64 m.c, .slice a1 m.q.length k1, .bool m.busy, .slice a2 m.rest.length k2, .int .i64 m.acc, .int .i64 m.w, .int .i64 m.r]) (m := m) ⟨_, _, rfl, HQ.out.1.keep HF.out (by simp), HQ.out.2.keep HF.out (by simp)⟩)
  have HS := Lib.hid fun w' (f : Fr [] w w') => sf_cancel (hs.keep0 f)
  generalize hmf : (cancelM m).m = mf at *
  generalize hnn : (cancelM m).n = nn at *
  generalize hee : (cancelM m).err = ee at *
  have HFl := Lib.hid hFl
  have HD := Lib.hid hd
  clear hFl hd hs hmf hnn hee
  go_enter Try.func38, Try.ntmps38
  go_wp2_with fail
  refine HC.out.mono ?_
  rintro e w1 ⟨v', rfl, f1, u3, u4, rfl, hp3, hp4⟩
  obtain ⟨a3, k3, rfl, _⟩ := id hp3
  obtain ⟨a4, k4, rfl, _⟩ := id hp4
  obtain ⟨w2, hw2, f2, q2⟩ : ∃ W, w1.alloc (.cells #[.int .i64 mf.c, .slice a3 mf.q.length k3, .bool mf.busy, .slice a4 mf.rest.length k4, .int .i64 mf.acc, .int .i64 mf.w, .int .i64 mf.r] 41) = W ∧ Fr [] w1 W ∧ S7 W w1.heap.size mf.c a3 mf.q.length k3 mf.busy a4 mf.rest.length k4 mf.acc mf.w mf.r := ⟨_, rfl, (Fr.refl _ _).alloc _, newA rfl⟩
  have z1 := f1.size
  have hz2 : w1.heap.size < w2.heap.size := lt_of_heap q2
  have HP3 := Lib.hid (hp3.keep f2 (by simp))
  have HP4 := Lib.hid (hp4.keep f2 (by simp))
  have HN2 := Lib.hid q2
  have HF2 := Lib.hid ((HF.out.then0 f1).then0 f2)
  have HZ2 := Lib.hid (show S7 w2 (w.heap.size + 2) 0 none 0 0 false none 0 0 0 0 0 from f2.keep (f1.keep HZ.out (by simp)) (by simp))
  clear x0 x1 x2 x3 x4 x5 x6 p0 p1 p2 p3 p4 p5 p6
  obtain ⟨x0, x1, x2, x3, x4, x5, x6, p0, p1, p2, p3, p4, p5, p6⟩ := q2.cells
  clear hp3 hp4 q2 f1 f2 e0 e1 e2
  go_wp2_with fail
  refine (HS.out w2 HF2.out).mono ?_
  rintro e w3 ⟨rfl, ⟨S, hS, f3⟩, F', hF', h3⟩
  have hSw : ∀ x ∈ S, F x ∨ w2.heap.size ≤ x := hS
  have hnS : ∀ x, w.heap.size ≤ x → x < w2.heap.size → x ∉ S := fun x h1 h2 hm => by rcases hS x hm with h | h; have := HFl.out x h; omega; omega
  have HN3 := Lib.hid (show S7 w3 w1.heap.size mf.c a3 mf.q.length k3 mf.busy a4 mf.rest.length k4 mf.acc mf.w mf.r from f3.keep HN2.out (hnS _ (by omega) hz2))
  have HZS := Lib.hid (show S7 w3 (w.heap.size + 2) 0 none 0 0 false none 0 0 0 0 0 from f3.keep HZ2.out (hnS _ (by omega) (by omega)))
  have HS3 := Lib.hid (And.intro hS (And.intro f3 (And.intro hF' h3)))
  have HNS := Lib.hid hnS
  have hz3 := f3.size
  clear hS f3 hF' h3 hSw hnS x0 x1 x2 x3 x4 x5 x6 p0 p1 p2 p3 p4 p5 p6
  have HFA := Lib.hid fun (w' : World) (f : S7 w' w1.heap.size mf.c a3 mf.q.length k3 mf.busy a4 mf.rest.length k4 mf.acc mf.w mf.r) => (show w'.cell? ⟨w1.heap.size, 0, none⟩ = some (.int .i64 mf.c) ∧ w'.cell? ⟨w1.heap.size, 1, none⟩ = some (.slice a3 mf.q.length k3) ∧ w'.cell? ⟨w1.heap.size, 2, none⟩ = some (.bool mf.busy) ∧ w'.cell? ⟨w1.heap.size, 3, none⟩ = some (.slice a4 mf.rest.length k4) ∧ w'.cell? ⟨w1.heap.size, 4, none⟩ = some (.int .i64 mf.acc) ∧ w'.cell? ⟨w1.heap.size, 5, none⟩ = some (.int .i64 mf.w) ∧ w'.cell? ⟨w1.heap.size, 6, none⟩ = some (.int .i64 mf.r) from (let q := S7.cells f; ⟨q.1, q.2.1, q.2.2.1, q.2.2.2.1, q.2.2.2.2.1, q.2.2.2.2.2.1, q.2.2.2.2.2.2.1⟩))
  go_wp2_with fail
  have fd : Fr [] w3 w3.drew := (Fr.refl _ _).drew
  replace HZS := Lib.hid (show S7 w3.drew (w.heap.size + 2) 0 none 0 0 false none 0 0 0 0 0 from fd.keep HZS.out (by simp))
  refine wp_region_order [(0, true), (1, true), (2, true), (3, true), (4, true), (5, true), (6, true), (7, true), (8, true), (9, true), (10, true), (11, false), (12, true)] (fun w' => S7 w' w1.heap.size mf.c a3 mf.q.length k3 mf.busy a4 mf.rest.length k4 mf.acc mf.w mf.r) (by kernel_rfl) (by kernel_rfl) (fd.keep HN3.out (by simp)) ?_
  intro OPS HOPS
  have hops := HOPS.out
  try simp only [List.append_eq, List.cons_append, List.nil_append] at hops
  replace HOPS := Lib.hid hops
  clear hops
  refine walkO_take (o := _) (v := ?_) (by rw [HOPS.out]; simp only [List.getElem?_toArray, List.getElem?_cons_succ, List.getElem?_cons_zero]; exact rfl) (Or.inl ⟨rfl, ?_⟩) ?_
  rotate_left
  · (intro w hSw; have hSx := HFA.out _ hSw; (try dsimp only at hSx); clear hSw; go_simp) <;> (with_reducible rfl)
  simp only [Act.put, List.setIfInBounds_toArray, List.set_cons_zero, List.set_cons_succ]
  refine walkO_take (o := _) (v := ?_) (by rw [HOPS.out]; simp only [List.getElem?_toArray, List.getElem?_cons_succ, List.getElem?_cons_zero]; exact rfl) (Or.inl ⟨rfl, ?_⟩) ?_
  rotate_left
  · (intro w hSw; have hSx := HFA.out _ hSw; (try dsimp only at hSx); clear hSw; go_simp) <;> (with_reducible rfl)
  simp only [Act.put, List.setIfInBounds_toArray, List.set_cons_zero, List.set_cons_succ]
  refine walkO_take (o := _) (v := ?_) (by rw [HOPS.out]; simp only [List.getElem?_toArray, List.getElem?_cons_succ, List.getElem?_cons_zero]; exact rfl) (Or.inl ⟨rfl, ?_⟩) ?_
  rotate_left
  · (intro w hSw; have hSx := HFA.out _ hSw; (try dsimp only at hSx); clear hSw; go_simp) <;> (with_reducible rfl)
  simp only [Act.put, List.setIfInBounds_toArray, List.set_cons_zero, List.set_cons_succ]
  refine walkO_take (o := _) (v := ?_) (by rw [HOPS.out]; simp only [List.getElem?_toArray, List.getElem?_cons_succ, List.getElem?_cons_zero]; exact rfl) (Or.inl ⟨rfl, ?_⟩) ?_
  rotate_left
  · (intro w hSw; have hSx := HFA.out _ hSw; (try dsimp only at hSx); clear hSw; go_simp) <;> (with_reducible rfl)
  simp only [Act.put, List.setIfInBounds_toArray, List.set_cons_zero, List.set_cons_succ]
  refine walkO_take (o := _) (v := ?_) (by rw [HOPS.out]; simp only [List.getElem?_toArray, List.getElem?_cons_succ, List.getElem?_cons_zero]; exact rfl) (Or.inl ⟨rfl, ?_⟩) ?_
  rotate_left
  · (intro w hSw; have hSx := HFA.out _ hSw; (try dsimp only at hSx); clear hSw; go_simp) <;> (with_reducible rfl)
  simp only [Act.put, List.setIfInBounds_toArray, List.set_cons_zero, List.set_cons_succ]
  refine walkO_take (o := _) (v := ?_) (by rw [HOPS.out]; simp only [List.getElem?_toArray, List.getElem?_cons_succ, List.getElem?_cons_zero]; exact rfl) (Or.inl ⟨rfl, ?_⟩) ?_
  rotate_left
  · (intro w hSw; have hSx := HFA.out _ hSw; (try dsimp only at hSx); clear hSw; go_simp) <;> (with_reducible rfl)
  simp only [Act.put, List.setIfInBounds_toArray, List.set_cons_zero, List.set_cons_succ]
  refine walkO_take (o := _) (v := ?_) (by rw [HOPS.out]; simp only [List.getElem?_toArray, List.getElem?_cons_succ, List.getElem?_cons_zero]; exact rfl) (Or.inl ⟨by rw [HOPS.out]; rfl, ?_⟩) ?_
  rotate_left
  · (intro w hSw; have hSx := HFA.out _ hSw; (try dsimp only at hSx); clear hSw; go_simp) <;> (with_reducible rfl)
  simp only [Act.put, List.setIfInBounds_toArray, List.set_cons_zero, List.set_cons_succ]
  refine walkO_take (o := _) (v := ?_) (by rw [HOPS.out]; simp only [List.getElem?_toArray, List.getElem?_cons_succ, List.getElem?_cons_zero]; exact rfl) (Or.inl ⟨by rw [HOPS.out]; rfl, ?_⟩) ?_
  rotate_left
  · (intro w hSw; have hSx := HFA.out _ hSw; (try dsimp only at hSx); clear hSw; go_simp) <;> (with_reducible rfl)
  simp only [Act.put, List.setIfInBounds_toArray, List.set_cons_zero, List.set_cons_succ]
  refine walkO_take (o := _) (v := ?_) (by rw [HOPS.out]; simp only [List.getElem?_toArray, List.getElem?_cons_succ, List.getElem?_cons_zero]; exact rfl) (Or.inl ⟨by rw [HOPS.out]; rfl, ?_⟩) ?_
  rotate_left
  · (intro w hSw; have hSx := HFA.out _ hSw; (try dsimp only at hSx); clear hSw; go_simp) <;> (with_reducible rfl)
  simp only [Act.put, List.setIfInBounds_toArray, List.set_cons_zero, List.set_cons_succ]
  refine walkO_take (o := _) (v := ?_) (by rw [HOPS.out]; simp only [List.getElem?_toArray, List.getElem?_cons_succ, List.getElem?_cons_zero]; exact rfl) (Or.inl ⟨rfl, ?_⟩) ?_
  rotate_left
  · (intro w hSw; have hSx := HFA.out _ hSw; (try dsimp only at hSx); clear hSw; go_simp) <;> (with_reducible rfl)
  simp only [Act.put, List.setIfInBounds_toArray, List.set_cons_zero, List.set_cons_succ]
  refine walkO_take (o := _) (v := ?_) (by rw [HOPS.out]; simp only [List.getElem?_toArray, List.getElem?_cons_succ, List.getElem?_cons_zero]; exact rfl) (Or.inl ⟨rfl, ?_⟩) ?_
  rotate_left
  · (intro w hSw; have hSx := HFA.out _ hSw; (try dsimp only at hSx); clear hSw; go_simp) <;> (with_reducible rfl)
  simp only [Act.put, List.setIfInBounds_toArray, List.set_cons_zero, List.set_cons_succ]
  refine walkO_call (o := _) (by rw [HOPS.out]; simp only [List.getElem?_toArray, List.getElem?_cons_succ, List.getElem?_cons_zero]; exact rfl) (fun K HK => ?_)
  refine step_store7 rfl 41 (.tmp 7) (.tmp 104) rfl (w.heap.size + 2) #[.int .i64 mf.c, .slice a3 mf.q.length k3, .bool mf.busy, .slice a4 mf.rest.length k4, .int .i64 mf.acc, .int .i64 mf.w, .int .i64 mf.r] (by simp [Act.eval]) (by simp [Act.eval]) _ _ HZS.out (by kernel_rfl) rfl (by simp [Value.oneCell']) ?_
  intro wf ff qf
  obtain ⟨y0, y1, y2, y3, y4, y5, y6, _, _, _, _, _, _, _⟩ := S7.cells qf
  refine HK.out (fun w' => S7 w' w1.heap.size mf.c a3 mf.q.length k3 mf.busy a4 mf.rest.length k4 mf.acc mf.w mf.r) _ _ (fun _ h => h) (ff.keep (fd.keep HN3.out (by simp)) (by intro hm; simp at hm; omega)) ?_
  clear HK K
  try simp only [Act.put, List.setIfInBounds_toArray, List.set_cons_zero, List.set_cons_succ]
  refine walkO_take (o := _) (v := ?_) (by rw [HOPS.out]; simp only [List.getElem?_toArray, List.getElem?_cons_succ, List.getElem?_cons_zero]; exact rfl) (Or.inl ⟨rfl, ?_⟩) ?_
  rotate_left
  · (intro w hSw; have hSx := HFA.out _ hSw; (try dsimp only at hSx); clear hSw; go_simp) <;> (with_reducible rfl)
  simp only [Act.put, List.setIfInBounds_toArray, List.set_cons_zero, List.set_cons_succ]
  refine walkO_done ?_
  clear HOPS OPS
  go_wp2_with fail
  refine bodyPost_ret (v := .tuple #[.pointer (some ⟨b, 0, none⟩), .agg #[.int .i64 mf.c, .slice a3 mf.q.length k3, .bool mf.busy, .slice a4 mf.rest.length k4, .int .i64 mf.acc, .int .i64 mf.w, .int .i64 mf.r], .bool true]) (by simp [results, Try.results38, go_sem, y0, y1, y2, y3, y4, y5, y6]) rfl ?_
  have fx : Fr [(w.heap.size + 2)] w3 wf := Fr.trans (U := [(w.heap.size + 2)]) (S := []) fd ff (by simp) (fun x hx => .inl hx)
  exact step_post HF2.out HS3.out.1 HS3.out.2.1 HS3.out.2.2.1 HS3.out.2.2.2 fx HP3.out HP4.out HFl.out HD.out (by omega) HNW.out
theorem Fr.weak {w w' : World} {S : List Nat} (h : Fr [] w w') : Fr S w w' := h.trans (Fr.refl [] w') (by simp) (by simp)
set_option maxHeartbeats 8000000 in
theorem step_closew {w : World} {F N : Nat → Prop} {b : Nat} {m : SM} {v : Value} {pa : Option Addr} {pc : Nat} {ps : Parts} {n : Int} (hs : SF w F b m) (h : Sv w N v m) (hd : ∀ x, F x → ¬ N x) (HNZ : ∀ x, N x → x < w.heap.size) :
    Calls Try.prog 38 #[.pointer (some ⟨b, 0, none⟩), v, .agg #[.int .i64 4, .slice pa ps.length pc, .int .i64 n]] w (Step14 w F N (closewM m n).m) := by
  have HNW := Lib.hid HNZ
  clear HNZ
  have hFl := hs.lt
  obtain ⟨u1, u2, rfl, hq, hr⟩ := h
  obtain ⟨a1, k1, rfl, _⟩ := id hq
  obtain ⟨a2, k2, rfl, _⟩ := id hr
  have HQ := Lib.hid (And.intro hq hr)
  clear hq hr
  obtain ⟨w0, hw0, f0, q0, qa, z0⟩ : ∃ W, ((w.alloc (.cells #[.int .i64 m.c, .slice a1 m.q.length k1, .bool m.busy, .slice a2 m.rest.length k2, .int .i64 m.acc, .int .i64 m.w, .int .i64 m.r] 41)).alloc (.cells #[.int .i64 4, .slice pa ps.length pc, .int .i64 n] 55)).alloc (.cells #[.int .i64 0, .slice none 0 0, .bool false, .slice none 0 0, .int .i64 0, .int .i64 0, .int .i64 0] 41) = W ∧ Fr [] w W ∧ S7 W w.heap.size m.c a1 m.q.length k1 m.busy a2 m.rest.length k2 m.acc m.w m.r ∧ W.heap[w.heap.size + 1]? = some (.cells #[.int .i64 4, .slice pa ps.length pc, .int .i64 n] 55 (0, 0)) ∧ S7 W (w.heap.size + 2) 0 none 0 0 false none 0 0 0 0 0 := ⟨_, rfl, (((Fr.refl _ _).alloc _).alloc _).alloc _, keepA (keepA (newA rfl)), keepA (newA (by simp)), newA (by simp)⟩
  obtain ⟨x0, x1, x2, x3, x4, x5, x6, p0, p1, p2, p3, p4, p5, p6⟩ := q0.cells
  have e0 : w0.cell? ⟨w.heap.size + 1, 0, none⟩ = some (.int .i64 4) := cell_of qa
  have e1 : w0.cell? ⟨w.heap.size + 1, 1, none⟩ = some (.slice pa ps.length pc) := cell_of qa
  have e2 : w0.cell? ⟨w.heap.size + 1, 2, none⟩ = some (.int .i64 n) := cell_of qa
  have hz0 : w.heap.size + 2 < w0.heap.size := lt_of_heap z0
  have HZ := Lib.hid z0
  have HF := Lib.hid f0
  have HQA := Lib.hid qa
  clear q0 z0 f0 qa
  have HC := Lib.hid (r_closew (w := w0) (N := N) (v := .agg #[.int .i64 m.c, .slice a1 m.q.length k1, .bool m.busy, .slice a2 m.rest.length k2, .int .i64 m.acc, .int .i64 m.w, .int .i64 m.r]) (m := m) ⟨_, _, rfl, HQ.out.1.keep HF.out (by simp), HQ.out.2.keep HF.out (by simp)⟩ n)
  have HS0 := Lib.hid fun w2 w' (f : Fr [] w w2) (g : Fr [(w.heap.size + 2)] w2 w') => sf_closew ((hs.keep0 f).keep g (by intro x hx hF; simp at hx; have := hFl x hF; omega)) n
  generalize hmf : (closewM m n).m = mf at *
  generalize hee : (closewM m n).err = ee at *
  have HFl := Lib.hid hFl
  have HD := Lib.hid hd
  clear hFl hd hs hmf hee
  have HES := Lib.hid (Go.Proofs.enters_of Try.func36 (by kernel_rfl) rfl)
  go_enter Try.func38, Try.ntmps38
  go_wp2_with fail
  refine HC.out.mono ?_
  rintro e w1 ⟨v', rfl, f1, u3, u4, rfl, hp3, hp4⟩
  obtain ⟨a3, k3, rfl, _⟩ := id hp3
  obtain ⟨a4, k4, rfl, _⟩ := id hp4
  obtain ⟨w2, hw2, f2, q2⟩ : ∃ W, w1.alloc (.cells #[.int .i64 mf.c, .slice a3 mf.q.length k3, .bool mf.busy, .slice a4 mf.rest.length k4, .int .i64 mf.acc, .int .i64 mf.w, .int .i64 mf.r] 41) = W ∧ Fr [] w1 W ∧ S7 W w1.heap.size mf.c a3 mf.q.length k3 mf.busy a4 mf.rest.length k4 mf.acc mf.w mf.r := ⟨_, rfl, (Fr.refl _ _).alloc _, newA rfl⟩
  have z1 := f1.size
  have hz2 : w1.heap.size < w2.heap.size := lt_of_heap q2
  have HP3 := Lib.hid (hp3.keep f2 (by simp))
  have HP4 := Lib.hid (hp4.keep f2 (by simp))
  have HF2 := Lib.hid ((HF.out.then0 f1).then0 f2)
  have HZ2 := Lib.hid (show S7 w2 (w.heap.size + 2) 0 none 0 0 false none 0 0 0 0 0 from f2.keep (f1.keep HZ.out (by simp)) (by simp))
  have HA2 := Lib.hid (f2.keep (f1.keep HQA.out (by simp)) (by simp))
  have HS := Lib.hid fun w' (g : Fr [(w.heap.size + 2)] w2 w') => HS0.out w2 w' HF2.out g
  clear x0 x1 x2 x3 x4 x5 x6 p0 p1 p2 p3 p4 p5 p6
  obtain ⟨x0, x1, x2, x3, x4, x5, x6, p0, p1, p2, p3, p4, p5, p6⟩ := q2.cells
  have HN2 := Lib.hid q2
  clear hp3 hp4 q2 f1 f2 e0 e1 e2 HS0
  have HFA := Lib.hid fun (w' : World) (f : S7 w' w1.heap.size mf.c a3 mf.q.length k3 mf.busy a4 mf.rest.length k4 mf.acc mf.w mf.r ∧ w'.heap[w.heap.size + 1]? = some (.cells #[.int .i64 4, .slice pa ps.length pc, .int .i64 n] 55 (0, 0))) => (show w'.cell? ⟨w1.heap.size, 0, none⟩ = some (.int .i64 mf.c) ∧ w'.cell? ⟨w1.heap.size, 1, none⟩ = some (.slice a3 mf.q.length k3) ∧ w'.cell? ⟨w1.heap.size, 2, none⟩ = some (.bool mf.busy) ∧ w'.cell? ⟨w1.heap.size, 3, none⟩ = some (.slice a4 mf.rest.length k4) ∧ w'.cell? ⟨w1.heap.size, 4, none⟩ = some (.int .i64 mf.acc) ∧ w'.cell? ⟨w1.heap.size, 5, none⟩ = some (.int .i64 mf.w) ∧ w'.cell? ⟨w1.heap.size, 6, none⟩ = some (.int .i64 mf.r) ∧ w'.cell? ⟨w.heap.size + 1, 2, none⟩ = some (.int .i64 n) from (let q := S7.cells f.1; ⟨q.1, q.2.1, q.2.2.1, q.2.2.2.1, q.2.2.2.2.1, q.2.2.2.2.2.1, q.2.2.2.2.2.2.1, cell_of f.2⟩))
  go_wp2_with fail
  have fd : Fr [] w2 w2.drew := (Fr.refl _ _).drew
  have fdz : Fr [(w.heap.size + 2)] w2 w2.drew := fd.weak
  have HZS := Lib.hid (show S7 w2.drew (w.heap.size + 2) 0 none 0 0 false none 0 0 0 0 0 from fd.keep HZ2.out (by simp))
  have HNc := Lib.hid (show S7 w2.drew w1.heap.size mf.c a3 mf.q.length k3 mf.busy a4 mf.rest.length k4 mf.acc mf.w mf.r from fd.keep HN2.out (by simp))
  have HAc := Lib.hid (fd.keep HA2.out (by simp))
  refine wp_region_order [(0, true), (1, true), (2, true), (3, true), (4, true), (6, true), (5, false), (7, true), (8, true), (9, false), (10, true)] (fun w' => S7 w' w1.heap.size mf.c a3 mf.q.length k3 mf.busy a4 mf.rest.length k4 mf.acc mf.w mf.r ∧ w'.heap[w.heap.size + 1]? = some (.cells #[.int .i64 4, .slice pa ps.length pc, .int .i64 n] 55 (0, 0))) (by kernel_rfl) (by kernel_rfl) ⟨HNc.out, HAc.out⟩ ?_
  intro OPS HOPS
  have hops := HOPS.out
  try simp only [List.append_eq, List.cons_append, List.nil_append] at hops
  replace HOPS := Lib.hid hops
  clear hops
  refine walkO_take (o := _) (v := ?_) (by rw [HOPS.out]; simp only [List.getElem?_toArray, List.getElem?_cons_succ, List.getElem?_cons_zero]; exact rfl) (Or.inl ⟨rfl, ?_⟩) ?_
  rotate_left
  · (intro w hSw; have hSx := HFA.out _ hSw; (try dsimp only at hSx); clear hSw; go_simp) <;> (with_reducible rfl)
  simp only [Act.put, List.setIfInBounds_toArray, List.set_cons_zero, List.set_cons_succ]
  refine walkO_take (o := _) (v := ?_) (by rw [HOPS.out]; simp only [List.getElem?_toArray, List.getElem?_cons_succ, List.getElem?_cons_zero]; exact rfl) (Or.inl ⟨rfl, ?_⟩) ?_
  rotate_left
  · (intro w hSw; have hSx := HFA.out _ hSw; (try dsimp only at hSx); clear hSw; go_simp) <;> (with_reducible rfl)
  simp only [Act.put, List.setIfInBounds_toArray, List.set_cons_zero, List.set_cons_succ]
  refine walkO_take (o := _) (v := ?_) (by rw [HOPS.out]; simp only [List.getElem?_toArray, List.getElem?_cons_succ, List.getElem?_cons_zero]; exact rfl) (Or.inl ⟨rfl, ?_⟩) ?_
  rotate_left
  · (intro w hSw; have hSx := HFA.out _ hSw; (try dsimp only at hSx); clear hSw; go_simp) <;> (with_reducible rfl)
  simp only [Act.put, List.setIfInBounds_toArray, List.set_cons_zero, List.set_cons_succ]
  refine walkO_take (o := _) (v := ?_) (by rw [HOPS.out]; simp only [List.getElem?_toArray, List.getElem?_cons_succ, List.getElem?_cons_zero]; exact rfl) (Or.inl ⟨rfl, ?_⟩) ?_
  rotate_left
  · (intro w hSw; have hSx := HFA.out _ hSw; (try dsimp only at hSx); clear hSw; go_simp) <;> (with_reducible rfl)
  simp only [Act.put, List.setIfInBounds_toArray, List.set_cons_zero, List.set_cons_succ]
  refine walkO_take (o := _) (v := ?_) (by rw [HOPS.out]; simp only [List.getElem?_toArray, List.getElem?_cons_succ, List.getElem?_cons_zero]; exact rfl) (Or.inl ⟨rfl, ?_⟩) ?_
  rotate_left
  · (intro w hSw; have hSx := HFA.out _ hSw; (try dsimp only at hSx); clear hSw; go_simp) <;> (with_reducible rfl)
  simp only [Act.put, List.setIfInBounds_toArray, List.set_cons_zero, List.set_cons_succ]
  refine walkO_take (o := _) (v := ?_) (by rw [HOPS.out]; simp only [List.getElem?_toArray, List.getElem?_cons_succ, List.getElem?_cons_zero]; exact rfl) (Or.inl ⟨rfl, ?_⟩) ?_
  rotate_left
  · (intro w hSw; have hSx := HFA.out _ hSw; (try dsimp only at hSx); clear hSw; go_simp) <;> (with_reducible rfl)
  simp only [Act.put, List.setIfInBounds_toArray, List.set_cons_zero, List.set_cons_succ]
  refine walkO_call (o := _) (by rw [HOPS.out]; simp only [List.getElem?_toArray, List.getElem?_cons_succ, List.getElem?_cons_zero]; exact rfl) (fun K HK => ?_)
  refine step_call rfl 36 #[(.tmp 166), (.tmp 168)] #[23, 30] rfl HES.out #[.pointer (some ⟨b, 0, none⟩), .int .i64 n] (by simp [Act.eval]) (HS.out _ fdz) ?_
  rintro e w3 ⟨rfl, ⟨S, hS, f3⟩, F', hF', h3⟩
  have hnS : ∀ x, w.heap.size ≤ x → x < w2.heap.size → x ∉ S := fun x h1 h2 hm => by rcases hS x hm with h | h; have := HFl.out x h; omega; have hzz : w2.heap.size ≤ x := Nat.le_trans (Nat.le_refl _) h; omega
  have HZS := Lib.hid (show S7 w3 (w.heap.size + 2) 0 none 0 0 false none 0 0 0 0 0 from f3.keep HZS.out (hnS _ (by omega) (by omega)))
  have HNc := Lib.hid (show S7 w3 w1.heap.size mf.c a3 mf.q.length k3 mf.busy a4 mf.rest.length k4 mf.acc mf.w mf.r from f3.keep HNc.out (hnS _ (by omega) hz2))
  have HAc := Lib.hid (f3.keep HAc.out (hnS _ (by omega) (by omega)))
  refine ⟨_, rfl, ?_⟩
  refine HK.out (fun w' => S7 w' w1.heap.size mf.c a3 mf.q.length k3 mf.busy a4 mf.rest.length k4 mf.acc mf.w mf.r ∧ w'.heap[w.heap.size + 1]? = some (.cells #[.int .i64 4, .slice pa ps.length pc, .int .i64 n] 55 (0, 0))) _ _ (fun _ h => h) (⟨HNc.out, HAc.out⟩) ?_
  clear HK K
  simp only [Act.put, List.setIfInBounds_toArray, List.set_cons_zero, List.set_cons_succ]
  refine walkO_take (o := _) (v := ?_) (by rw [HOPS.out]; simp only [List.getElem?_toArray, List.getElem?_cons_succ, List.getElem?_cons_zero]; exact rfl) (Or.inl ⟨rfl, ?_⟩) ?_
  rotate_left
  · (intro w hSw; have hSx := HFA.out _ hSw; (try dsimp only at hSx); clear hSw; go_simp) <;> (with_reducible rfl)
  simp only [Act.put, List.setIfInBounds_toArray, List.set_cons_zero, List.set_cons_succ]
  refine walkO_take (o := _) (v := ?_) (by rw [HOPS.out]; simp only [List.getElem?_toArray, List.getElem?_cons_succ, List.getElem?_cons_zero]; exact rfl) (Or.inl ⟨rfl, ?_⟩) ?_
  rotate_left
  · (intro w hSw; have hSx := HFA.out _ hSw; (try dsimp only at hSx); clear hSw; go_simp) <;> (with_reducible rfl)
  simp only [Act.put, List.setIfInBounds_toArray, List.set_cons_zero, List.set_cons_succ]
  refine walkO_call (o := _) (by rw [HOPS.out]; simp only [List.getElem?_toArray, List.getElem?_cons_succ, List.getElem?_cons_zero]; exact rfl) (fun K HK => ?_)
  refine step_store7 rfl 41 (.tmp 7) (.tmp 165) rfl (w.heap.size + 2) #[.int .i64 mf.c, .slice a3 mf.q.length k3, .bool mf.busy, .slice a4 mf.rest.length k4, .int .i64 mf.acc, .int .i64 mf.w, .int .i64 mf.r] (by simp [Act.eval]) (by simp [Act.eval]) _ _ HZS.out (by kernel_rfl) rfl (by simp [Value.oneCell']) ?_
  intro wf ff qf
  refine HK.out (fun w' => S7 w' w1.heap.size mf.c a3 mf.q.length k3 mf.busy a4 mf.rest.length k4 mf.acc mf.w mf.r ∧ w'.heap[w.heap.size + 1]? = some (.cells #[.int .i64 4, .slice pa ps.length pc, .int .i64 n] 55 (0, 0))) _ _ (fun _ h => h) (⟨ff.keep HNc.out (by intro hm; simp at hm; omega), ff.keep HAc.out (by intro hm; simp at hm)⟩) ?_
  clear HK K
  try simp only [Act.put, List.setIfInBounds_toArray, List.set_cons_zero, List.set_cons_succ]
  refine walkO_take (o := _) (v := ?_) (by rw [HOPS.out]; simp only [List.getElem?_toArray, List.getElem?_cons_succ, List.getElem?_cons_zero]; exact rfl) (Or.inl ⟨rfl, ?_⟩) ?_
  rotate_left
  · (intro w hSw; have hSx := HFA.out _ hSw; (try dsimp only at hSx); clear hSw; go_simp) <;> (with_reducible rfl)
  simp only [Act.put, List.setIfInBounds_toArray, List.set_cons_zero, List.set_cons_succ]
  refine walkO_done ?_
  clear HOPS OPS
  have QF := Lib.hid qf
  go_wp2_with fail
  obtain ⟨y0, y1, y2, y3, y4, y5, y6, _, _, _, _, _, _, _⟩ := S7.cells QF.out
  refine bodyPost_ret (v := .tuple #[.pointer (some ⟨b, 0, none⟩), .agg #[.int .i64 mf.c, .slice a3 mf.q.length k3, .bool mf.busy, .slice a4 mf.rest.length k4, .int .i64 mf.acc, .int .i64 mf.w, .int .i64 mf.r], .bool true]) (by simp [results, Try.results38, go_sem, y0, y1, y2, y3, y4, y5, y6]) rfl ?_
  exact step_post (HF2.out.then0 fd) hS f3 hF' h3 ff (HP3.out.keep fd (by simp)) (HP4.out.keep fd (by simp)) HFl.out HD.out (Nat.lt_of_lt_of_le (by omega) fd.size) HNW.out
set_option maxHeartbeats 8000000 in
theorem step_closer {w : World} {F N : Nat → Prop} {b : Nat} {m : SM} {v : Value} {pa : Option Addr} {pc : Nat} {ps : Parts} {n : Int} (hs : SF w F b m) (h : Sv w N v m) (hd : ∀ x, F x → ¬ N x) (HNZ : ∀ x, N x → x < w.heap.size) :
    Calls Try.prog 38 #[.pointer (some ⟨b, 0, none⟩), v, .agg #[.int .i64 5, .slice pa ps.length pc, .int .i64 n]] w (Step14 w F N (closerM m n).m) := by
  have HNW := Lib.hid HNZ
  clear HNZ
  have hFl := hs.lt
  obtain ⟨u1, u2, rfl, hq, hr⟩ := h
  obtain ⟨a1, k1, rfl, _⟩ := id hq
  obtain ⟨a2, k2, rfl, _⟩ := id hr
  have HQ := Lib.hid (And.intro hq hr)
  clear hq hr
  obtain ⟨w0, hw0, f0, q0, qa, z0⟩ : ∃ W, ((w.alloc (.cells #[.int .i64 m.c, .slice a1 m.q.length k1, .bool m.busy, .slice a2 m.rest.length k2, .int .i64 m.acc, .int .i64 m.w, .int .i64 m.r] 41)).alloc (.cells #[.int .i64 5, .slice pa ps.length pc, .int .i64 n] 55)).alloc (.cells #[.int .i64 0, .slice none 0 0, .bool false, .slice none 0 0, .int .i64 0, .int .i64 0, .int .i64 0] 41) = W ∧ Fr [] w W ∧ S7 W w.heap.size m.c a1 m.q.length k1 m.busy a2 m.rest.length k2 m.acc m.w m.r ∧ W.heap[w.heap.size + 1]? = some (.cells #[.int .i64 5, .slice pa ps.length pc, .int .i64 n] 55 (0, 0)) ∧ S7 W (w.heap.size + 2) 0 none 0 0 false none 0 0 0 0 0 := ⟨_, rfl, (((Fr.refl _ _).alloc _).alloc _).alloc _, keepA (keepA (newA rfl)), keepA (newA (by simp)), newA (by simp)⟩
  obtain ⟨x0, x1, x2, x3, x4, x5, x6, p0, p1, p2, p3, p4, p5, p6⟩ := q0.cells
  have e0 : w0.cell? ⟨w.heap.size + 1, 0, none⟩ = some (.int .i64 5) := cell_of qa
  have e1 : w0.cell? ⟨w.heap.size + 1, 1, none⟩ = some (.slice pa ps.length pc) := cell_of qa
  have e2 : w0.cell? ⟨w.heap.size + 1, 2, none⟩ = some (.int .i64 n) := cell_of qa
  have hz0 : w.heap.size + 2 < w0.heap.size := lt_of_heap z0
  have HZ := Lib.hid z0
  have HF := Lib.hid f0
  have HQA := Lib.hid qa
  clear q0 z0 f0 qa
  have HC := Lib.hid (r_closer (w := w0) (N := N) (v := .agg #[.int .i64 m.c, .slice a1 m.q.length k1, .bool m.busy, .slice a2 m.rest.length k2, .int .i64 m.acc, .int .i64 m.w, .int .i64 m.r]) (m := m) ⟨_, _, rfl, HQ.out.1.keep HF.out (by simp), HQ.out.2.keep HF.out (by simp)⟩ n)
  have HS0 := Lib.hid fun w2 w' (f : Fr [] w w2) (g : Fr [(w.heap.size + 2)] w2 w') => sf_closer ((hs.keep0 f).keep g (by intro x hx hF; simp at hx; have := hFl x hF; omega)) n
  generalize hmf : (closerM m n).m = mf at *
  generalize hee : (closerM m n).err = ee at *
  have HFl := Lib.hid hFl
  have HD := Lib.hid hd
  clear hFl hd hs hmf hee
  have HES := Lib.hid (Go.Proofs.enters_of Try.func40 (by kernel_rfl) rfl)
  go_enter Try.func38, Try.ntmps38
  go_wp2_with fail
  refine HC.out.mono ?_
  rintro e w1 ⟨v', rfl, f1, u3, u4, rfl, hp3, hp4⟩
  obtain ⟨a3, k3, rfl, _⟩ := id hp3
  obtain ⟨a4, k4, rfl, _⟩ := id hp4
  obtain ⟨w2, hw2, f2, q2⟩ : ∃ W, w1.alloc (.cells #[.int .i64 mf.c, .slice a3 mf.q.length k3, .bool mf.busy, .slice a4 mf.rest.length k4, .int .i64 mf.acc, .int .i64 mf.w, .int .i64 mf.r] 41) = W ∧ Fr [] w1 W ∧ S7 W w1.heap.size mf.c a3 mf.q.length k3 mf.busy a4 mf.rest.length k4 mf.acc mf.w mf.r := ⟨_, rfl, (Fr.refl _ _).alloc _, newA rfl⟩
  have z1 := f1.size
  have hz2 : w1.heap.size < w2.heap.size := lt_of_heap q2
  have HP3 := Lib.hid (hp3.keep f2 (by simp))
  have HP4 := Lib.hid (hp4.keep f2 (by simp))
  have HF2 := Lib.hid ((HF.out.then0 f1).then0 f2)
  have HZ2 := Lib.hid (show S7 w2 (w.heap.size + 2) 0 none 0 0 false none 0 0 0 0 0 from f2.keep (f1.keep HZ.out (by simp)) (by simp))
  have HA2 := Lib.hid (f2.keep (f1.keep HQA.out (by simp)) (by simp))
  have HS := Lib.hid fun w' (g : Fr [(w.heap.size + 2)] w2 w') => HS0.out w2 w' HF2.out g
  clear x0 x1 x2 x3 x4 x5 x6 p0 p1 p2 p3 p4 p5 p6
  obtain ⟨x0, x1, x2, x3, x4, x5, x6, p0, p1, p2, p3, p4, p5, p6⟩ := q2.cells
  have HN2 := Lib.hid q2
  clear hp3 hp4 q2 f1 f2 e0 e1 e2 HS0
  have HFA := Lib.hid fun (w' : World) (f : S7 w' w1.heap.size mf.c a3 mf.q.length k3 mf.busy a4 mf.rest.length k4 mf.acc mf.w mf.r ∧ w'.heap[w.heap.size + 1]? = some (.cells #[.int .i64 5, .slice pa ps.length pc, .int .i64 n] 55 (0, 0))) => (show w'.cell? ⟨w1.heap.size, 0, none⟩ = some (.int .i64 mf.c) ∧ w'.cell? ⟨w1.heap.size, 1, none⟩ = some (.slice a3 mf.q.length k3) ∧ w'.cell? ⟨w1.heap.size, 2, none⟩ = some (.bool mf.busy) ∧ w'.cell? ⟨w1.heap.size, 3, none⟩ = some (.slice a4 mf.rest.length k4) ∧ w'.cell? ⟨w1.heap.size, 4, none⟩ = some (.int .i64 mf.acc) ∧ w'.cell? ⟨w1.heap.size, 5, none⟩ = some (.int .i64 mf.w) ∧ w'.cell? ⟨w1.heap.size, 6, none⟩ = some (.int .i64 mf.r) ∧ w'.cell? ⟨w.heap.size + 1, 2, none⟩ = some (.int .i64 n) from (let q := S7.cells f.1; ⟨q.1, q.2.1, q.2.2.1, q.2.2.2.1, q.2.2.2.2.1, q.2.2.2.2.2.1, q.2.2.2.2.2.2.1, cell_of f.2⟩))
  go_wp2_with fail
  have fd : Fr [] w2 w2.drew := (Fr.refl _ _).drew
  have fdz : Fr [(w.heap.size + 2)] w2 w2.drew := fd.weak
  have HZS := Lib.hid (show S7 w2.drew (w.heap.size + 2) 0 none 0 0 false none 0 0 0 0 0 from fd.keep HZ2.out (by simp))
  have HNc := Lib.hid (show S7 w2.drew w1.heap.size mf.c a3 mf.q.length k3 mf.busy a4 mf.rest.length k4 mf.acc mf.w mf.r from fd.keep HN2.out (by simp))
  have HAc := Lib.hid (fd.keep HA2.out (by simp))
  refine wp_region_order [(0, true), (1, true), (2, true), (3, true), (4, true), (6, true), (5, false), (7, true), (8, true), (9, false), (10, true)] (fun w' => S7 w' w1.heap.size mf.c a3 mf.q.length k3 mf.busy a4 mf.rest.length k4 mf.acc mf.w mf.r ∧ w'.heap[w.heap.size + 1]? = some (.cells #[.int .i64 5, .slice pa ps.length pc, .int .i64 n] 55 (0, 0))) (by kernel_rfl) (by kernel_rfl) ⟨HNc.out, HAc.out⟩ ?_
  intro OPS HOPS
  have hops := HOPS.out
  try simp only [List.append_eq, List.cons_append, List.nil_append] at hops
  replace HOPS := Lib.hid hops
  clear hops
  refine walkO_take (o := _) (v := ?_) (by rw [HOPS.out]; simp only [List.getElem?_toArray, List.getElem?_cons_succ, List.getElem?_cons_zero]; exact rfl) (Or.inl ⟨rfl, ?_⟩) ?_
  rotate_left
  · (intro w hSw; have hSx := HFA.out _ hSw; (try dsimp only at hSx); clear hSw; go_simp) <;> (with_reducible rfl)
  simp only [Act.put, List.setIfInBounds_toArray, List.set_cons_zero, List.set_cons_succ]
  refine walkO_take (o := _) (v := ?_) (by rw [HOPS.out]; simp only [List.getElem?_toArray, List.getElem?_cons_succ, List.getElem?_cons_zero]; exact rfl) (Or.inl ⟨rfl, ?_⟩) ?_
  rotate_left
  · (intro w hSw; have hSx := HFA.out _ hSw; (try dsimp only at hSx); clear hSw; go_simp) <;> (with_reducible rfl)
  simp only [Act.put, List.setIfInBounds_toArray, List.set_cons_zero, List.set_cons_succ]
  refine walkO_take (o := _) (v := ?_) (by rw [HOPS.out]; simp only [List.getElem?_toArray, List.getElem?_cons_succ, List.getElem?_cons_zero]; exact rfl) (Or.inl ⟨rfl, ?_⟩) ?_
  rotate_left
  · (intro w hSw; have hSx := HFA.out _ hSw; (try dsimp only at hSx); clear hSw; go_simp) <;> (with_reducible rfl)
  simp only [Act.put, List.setIfInBounds_toArray, List.set_cons_zero, List.set_cons_succ]
  refine walkO_take (o := _) (v := ?_) (by rw [HOPS.out]; simp only [List.getElem?_toArray, List.getElem?_cons_succ, List.getElem?_cons_zero]; exact rfl) (Or.inl ⟨rfl, ?_⟩) ?_
  rotate_left
  · (intro w hSw; have hSx := HFA.out _ hSw; (try dsimp only at hSx); clear hSw; go_simp) <;> (with_reducible rfl)
  simp only [Act.put, List.setIfInBounds_toArray, List.set_cons_zero, List.set_cons_succ]
  refine walkO_take (o := _) (v := ?_) (by rw [HOPS.out]; simp only [List.getElem?_toArray, List.getElem?_cons_succ, List.getElem?_cons_zero]; exact rfl) (Or.inl ⟨rfl, ?_⟩) ?_
  rotate_left
  · (intro w hSw; have hSx := HFA.out _ hSw; (try dsimp only at hSx); clear hSw; go_simp) <;> (with_reducible rfl)
  simp only [Act.put, List.setIfInBounds_toArray, List.set_cons_zero, List.set_cons_succ]
  refine walkO_take (o := _) (v := ?_) (by rw [HOPS.out]; simp only [List.getElem?_toArray, List.getElem?_cons_succ, List.getElem?_cons_zero]; exact rfl) (Or.inl ⟨rfl, ?_⟩) ?_
  rotate_left
  · (intro w hSw; have hSx := HFA.out _ hSw; (try dsimp only at hSx); clear hSw; go_simp) <;> (with_reducible rfl)
  simp only [Act.put, List.setIfInBounds_toArray, List.set_cons_zero, List.set_cons_succ]
  refine walkO_call (o := _) (by rw [HOPS.out]; simp only [List.getElem?_toArray, List.getElem?_cons_succ, List.getElem?_cons_zero]; exact rfl) (fun K HK => ?_)
  refine step_call rfl 40 #[(.tmp 183), (.tmp 185)] #[23, 30] rfl HES.out #[.pointer (some ⟨b, 0, none⟩), .int .i64 n] (by simp [Act.eval]) (HS.out _ fdz) ?_
  rintro e w3 ⟨rfl, ⟨S, hS, f3⟩, F', hF', h3⟩
  have hnS : ∀ x, w.heap.size ≤ x → x < w2.heap.size → x ∉ S := fun x h1 h2 hm => by rcases hS x hm with h | h; have := HFl.out x h; omega; have hzz : w2.heap.size ≤ x := Nat.le_trans (Nat.le_refl _) h; omega
  have HZS := Lib.hid (show S7 w3 (w.heap.size + 2) 0 none 0 0 false none 0 0 0 0 0 from f3.keep HZS.out (hnS _ (by omega) (by omega)))
  have HNc := Lib.hid (show S7 w3 w1.heap.size mf.c a3 mf.q.length k3 mf.busy a4 mf.rest.length k4 mf.acc mf.w mf.r from f3.keep HNc.out (hnS _ (by omega) hz2))
  have HAc := Lib.hid (f3.keep HAc.out (hnS _ (by omega) (by omega)))
  refine ⟨_, rfl, ?_⟩
  refine HK.out (fun w' => S7 w' w1.heap.size mf.c a3 mf.q.length k3 mf.busy a4 mf.rest.length k4 mf.acc mf.w mf.r ∧ w'.heap[w.heap.size + 1]? = some (.cells #[.int .i64 5, .slice pa ps.length pc, .int .i64 n] 55 (0, 0))) _ _ (fun _ h => h) (⟨HNc.out, HAc.out⟩) ?_
  clear HK K
  simp only [Act.put, List.setIfInBounds_toArray, List.set_cons_zero, List.set_cons_succ]
  refine walkO_take (o := _) (v := ?_) (by rw [HOPS.out]; simp only [List.getElem?_toArray, List.getElem?_cons_succ, List.getElem?_cons_zero]; exact rfl) (Or.inl ⟨rfl, ?_⟩) ?_
  rotate_left
  · (intro w hSw; have hSx := HFA.out _ hSw; (try dsimp only at hSx); clear hSw; go_simp) <;> (with_reducible rfl)
  simp only [Act.put, List.setIfInBounds_toArray, List.set_cons_zero, List.set_cons_succ]
  refine walkO_take (o := _) (v := ?_) (by rw [HOPS.out]; simp only [List.getElem?_toArray, List.getElem?_cons_succ, List.getElem?_cons_zero]; exact rfl) (Or.inl ⟨rfl, ?_⟩) ?_
  rotate_left
  · (intro w hSw; have hSx := HFA.out _ hSw; (try dsimp only at hSx); clear hSw; go_simp) <;> (with_reducible rfl)
  simp only [Act.put, List.setIfInBounds_toArray, List.set_cons_zero, List.set_cons_succ]
  refine walkO_call (o := _) (by rw [HOPS.out]; simp only [List.getElem?_toArray, List.getElem?_cons_succ, List.getElem?_cons_zero]; exact rfl) (fun K HK => ?_)
  refine step_store7 rfl 41 (.tmp 7) (.tmp 182) rfl (w.heap.size + 2) #[.int .i64 mf.c, .slice a3 mf.q.length k3, .bool mf.busy, .slice a4 mf.rest.length k4, .int .i64 mf.acc, .int .i64 mf.w, .int .i64 mf.r] (by simp [Act.eval]) (by simp [Act.eval]) _ _ HZS.out (by kernel_rfl) rfl (by simp [Value.oneCell']) ?_
  intro wf ff qf
  refine HK.out (fun w' => S7 w' w1.heap.size mf.c a3 mf.q.length k3 mf.busy a4 mf.rest.length k4 mf.acc mf.w mf.r ∧ w'.heap[w.heap.size + 1]? = some (.cells #[.int .i64 5, .slice pa ps.length pc, .int .i64 n] 55 (0, 0))) _ _ (fun _ h => h) (⟨ff.keep HNc.out (by intro hm; simp at hm; omega), ff.keep HAc.out (by intro hm; simp at hm)⟩) ?_
  clear HK K
  try simp only [Act.put, List.setIfInBounds_toArray, List.set_cons_zero, List.set_cons_succ]
  refine walkO_take (o := _) (v := ?_) (by rw [HOPS.out]; simp only [List.getElem?_toArray, List.getElem?_cons_succ, List.getElem?_cons_zero]; exact rfl) (Or.inl ⟨rfl, ?_⟩) ?_
  rotate_left
  · (intro w hSw; have hSx := HFA.out _ hSw; (try dsimp only at hSx); clear hSw; go_simp) <;> (with_reducible rfl)
  simp only [Act.put, List.setIfInBounds_toArray, List.set_cons_zero, List.set_cons_succ]
  refine walkO_done ?_
  clear HOPS OPS
  have QF := Lib.hid qf
  go_wp2_with fail
  obtain ⟨y0, y1, y2, y3, y4, y5, y6, _, _, _, _, _, _, _⟩ := S7.cells QF.out
  refine bodyPost_ret (v := .tuple #[.pointer (some ⟨b, 0, none⟩), .agg #[.int .i64 mf.c, .slice a3 mf.q.length k3, .bool mf.busy, .slice a4 mf.rest.length k4, .int .i64 mf.acc, .int .i64 mf.w, .int .i64 mf.r], .bool true]) (by simp [results, Try.results38, go_sem, y0, y1, y2, y3, y4, y5, y6]) rfl ?_
  exact step_post (HF2.out.then0 fd) hS f3 hF' h3 ff (HP3.out.keep fd (by simp)) (HP4.out.keep fd (by simp)) HFl.out HD.out (Nat.lt_of_lt_of_le (by omega) fd.size) HNW.out

end Go.Proofs.Ytdoamelhclnphaa

namespace Go.Proofs.Ytdoamelhclnphaa
open Go.RowKit
set_option maxRecDepth 100000

theorem step_post2 {w w0 w2 w3 wf : World} {F F' N : Nat → Prop} {S : List Nat} {b z : Nat} {mf : SM} {a3 a4 : Option Addr} {k3 k4 : Nat} (f0 : Fr [] w w0) (f2 : Fr [] w0 w2) (hz : w.heap.size + 2 < z) (hz0 : z ≤ w0.heap.size) (hS : ∀ x ∈ S, F x ∨ w2.heap.size ≤ x) (f3 : Fr S w2 w3)
    (hF' : ∀ x, F' x → F x ∨ (z ≤ x ∧ x < w0.heap.size) ∨ w2.heap.size ≤ x) (h3 : SF w3 F' b mf) (fx : Fr [(w.heap.size + 2)] w3 wf)
    (hp3 : PartV w2 (fun x => (N x ∨ w0.heap.size ≤ x) ∧ x < w2.heap.size) (.slice a3 mf.q.length k3) mf.q) (hp4 : PartV w2 (fun x => (N x ∨ w0.heap.size ≤ x) ∧ x < w2.heap.size) (.slice a4 mf.rest.length k4) mf.rest) (hFl : ∀ x, F x → x < w.heap.size) (hd : ∀ x, F x → ¬ N x) (hNz : ∀ x, N x → x < w.heap.size) :
    Step14 w F N mf (.returned (.tuple #[.pointer (some ⟨b, 0, none⟩), .agg #[.int .i64 mf.c, .slice a3 mf.q.length k3, .bool mf.busy, .slice a4 mf.rest.length k4, .int .i64 mf.acc, .int .i64 mf.w, .int .i64 mf.r], .bool true])) wf := by
  have hs2 := f2.size
  have k1 : ∀ x ∈ S, ¬ ((N x ∨ w0.heap.size ≤ x) ∧ x < w2.heap.size) := fun x hx hn => by
    rcases hS x hx with h | h
    · rcases hn.1 with hn | hn
      · exact hd x h hn
      · have := hFl x h; omega
    · omega
  have k2 : ∀ x ∈ [(w.heap.size + 2)], ¬ ((N x ∨ w0.heap.size ≤ x) ∧ x < w2.heap.size) := fun x hx hn => by
    simp at hx
    rcases hn.1 with hn | hn
    · have := hNz x hn; omega
    · omega
  refine ⟨_, _, rfl, ⟨(w.heap.size + 2) :: S, fun x hx => ?_, ?_⟩, F', _, h3.keep fx (fun x hx hF => ?_), ⟨_, _, rfl, (hp3.keep f3 k1).keep fx k2, (hp4.keep f3 k1).keep fx k2⟩, fun x hx => ?_, fun x hx => ?_, fun x hx hn => ?_⟩
  · rcases List.mem_cons.1 hx with rfl | hx
    · exact .inr (by omega)
    · rcases hS x hx with h | h
      · exact .inl h
      · exact .inr (by omega)
  · exact (((f0.then0 f2).trans f3 (U := (w.heap.size + 2) :: S) (by simp) (fun x hx => .inl (List.mem_cons_of_mem _ hx))).trans fx (fun x hx => .inl hx) (fun x hx => .inl (by simp at hx; simp [hx])))
  · simp at hx
    rcases hF' x hF with h | h | h
    · have := hFl x h; omega
    · omega
    · omega
  · rcases hF' x hx with h | h | h
    · exact .inl h
    · exact .inr (by omega)
    · exact .inr (by omega)
  · rcases hx.1 with h | h
    · exact .inl h
    · exact .inr (by omega)
  · rcases hF' x hx with h | h | h
    · rcases hn.1 with hn | hn
      · exact hd x h hn
      · have := hFl x h; omega
    · rcases hn.1 with hn | hn
      · have := hNz x hn; omega
      · omega
    · omega
set_option maxHeartbeats 16000000 in
theorem step_begin {w : World} {F N : Nat → Prop} {b : Nat} {m : SM} {v : Value} {pa : Option Addr} {pc : Nat} {ps : Parts} {n : Int} (hs : SF w F b m) (h : Sv w N v m) (hd : ∀ x, F x → ¬ N x) (HNZ : ∀ x, N x → x < w.heap.size) (hp : PArg w w.heap.size pa ps.length pc ps) (hps : ps.length ≤ 100) (htt : tot ps ≤ 3000) :
    Calls Try.prog 38 #[.pointer (some ⟨b, 0, none⟩), v, .agg #[.int .i64 0, .slice pa ps.length pc, .int .i64 n]] w (Step14 w F N (beginM m ps.flatten).m) := by
  have HNW := Lib.hid HNZ
  clear HNZ
  have hFl := hs.lt
  have hokm := hs.ok
  obtain ⟨u1, u2, rfl, hq, hr⟩ := h
  obtain ⟨a1, k1, rfl, _⟩ := id hq
  obtain ⟨a2, k2, rfl, _⟩ := id hr
  have HQ := Lib.hid (And.intro hq hr)
  clear hq hr
  obtain ⟨w0, hw0, f0, q0, qa, z0⟩ : ∃ W, ((w.alloc (.cells #[.int .i64 m.c, .slice a1 m.q.length k1, .bool m.busy, .slice a2 m.rest.length k2, .int .i64 m.acc, .int .i64 m.w, .int .i64 m.r] 41)).alloc (.cells #[.int .i64 0, .slice pa ps.length pc, .int .i64 n] 55)).alloc (.cells #[.int .i64 0, .slice none 0 0, .bool false, .slice none 0 0, .int .i64 0, .int .i64 0, .int .i64 0] 41) = W ∧ Fr [] w W ∧ S7 W w.heap.size m.c a1 m.q.length k1 m.busy a2 m.rest.length k2 m.acc m.w m.r ∧ W.heap[w.heap.size + 1]? = some (.cells #[.int .i64 0, .slice pa ps.length pc, .int .i64 n] 55 (0, 0)) ∧ S7 W (w.heap.size + 2) 0 none 0 0 false none 0 0 0 0 0 := ⟨_, rfl, (((Fr.refl _ _).alloc _).alloc _).alloc _, keepA (keepA (newA rfl)), keepA (newA (by simp)), newA (by simp)⟩
  obtain ⟨x0, x1, x2, x3, x4, x5, x6, p0, p1, p2, p3, p4, p5, p6⟩ := q0.cells
  have e0 : w0.cell? ⟨w.heap.size + 1, 0, none⟩ = some (.int .i64 0) := cell_of qa
  have e1 : w0.cell? ⟨w.heap.size + 1, 1, none⟩ = some (.slice pa ps.length pc) := cell_of qa
  have e2 : w0.cell? ⟨w.heap.size + 1, 2, none⟩ = some (.int .i64 n) := cell_of qa
  have hz0 : w.heap.size + 2 < w0.heap.size := lt_of_heap z0
  have HZ := Lib.hid z0
  have HF := Lib.hid f0
  have HQA := Lib.hid qa
  clear q0 z0 f0 qa
  have HPP := Lib.hid (hp.keep HF.out (by simp))
  obtain ⟨vs, hvl, hsv, hone, hvp⟩ := HPP.out.at_.vals
  have HV := Lib.hid hvp
  have HSV := Lib.hid hsv
  have HONE := Lib.hid hone
  have HVL := Lib.hid hvl
  have HU2 : Hid (Try.prog.underlying 53 = some (.slice 29)) := Lib.hid Try.underlying53
  have HI2 : Hid ((Try.prog.info? 29).map (fun i => (i.zero, i.size, i.bytes)) = some (some (.slice none 0 0), 1, 24)) := Lib.hid (by kernel_rfl)
  have H3p : Hid (([] : List Value).length + ps.length ≤ maxLen) := Lib.hid (by unfold maxLen; simp; omega)
  have H4p : Hid ((([] : List Value).length + ps.length) * 24 ≤ 140737488355328) := Lib.hid (by simp; omega)
  have htf := tot_eq ps
  have HJ := Lib.hid fun w8 w' (g : Fr [] w0 w8) (f : Fr [] w8 w') => join14 ((HPP.out.keep g (by simp)).at_.keep f (by simp)) (len := ps.length) (cap := pc) rfl (by omega) (by omega)
  have HBG0 := Lib.hid fun w8 w' u (g : Fr [] w0 w8) (f : Fr [] w8 w') {N' : Nat → Prop} (hu : PartV w' N' u ps.flatten) => r_begin (w := w') (N := N) (v := .agg #[.int .i64 m.c, .slice a1 m.q.length k1, .bool m.busy, .slice a2 m.rest.length k2, .int .i64 m.acc, .int .i64 m.w, .int .i64 m.r]) (m := m) ⟨_, _, rfl, (HQ.out.1.keep HF.out (by simp)).keep (g.then0 f) (by simp), (HQ.out.2.keep HF.out (by simp)).keep (g.then0 f) (by simp)⟩ hu ⟨by have := hokm.q1; have := hokm.c1; omega, by omega⟩
  have HSB0 := Lib.hid fun w8 w' v (g : Fr [] w w8) (f : Fr [] w8 w') {N2 : Nat → Prop} (hr : Rp w' N2 v (own ps)) (hn : ∀ x, F x → ¬ N2 x) => sf_begin ((hs.keep0 g).keep0 f) hr hn
  have HFl := Lib.hid hFl
  have HD := Lib.hid hd
  have HTF := Lib.hid (And.intro htf (And.intro htt hps))
  clear hFl hd hs hokm hvp hsv hone hvl hp htf htt
  have HEJ := Lib.hid (Go.Proofs.enters_of Try.func30 (by kernel_rfl) rfl)
  have HEB := Lib.hid (Go.Proofs.enters_of Try.func82 (by kernel_rfl) rfl)
  have HES := Lib.hid (Go.Proofs.enters_of Try.func29 (by kernel_rfl) rfl)
  generalize hbg : beginM m ps.flatten = bm at *
  go_enter Try.func38, Try.ntmps38
  go_wp2_with (refine wpList_append_fr _ rfl (.const (.slice none 0 0)) (.tmp 41) 53 rfl 29 (.slice none 0 0) 24 HU2.out HI2.out rfl w0.heap.size (.slice none 0 0) [] (by exact rfl) (Ow.nil _ _ _) pa ps.length pc vs (by exact rfl) HVL.out HSV.out HONE.out H3p.out H4p.out (Nat.le_refl _) ?_)
  intro v6 w6 o6 f6' _
  have f6 : Fr [] w0 w6 := f6'
  clear f6'
  obtain ⟨na, nc, rfl, hnc, hncm, hpa⟩ := PartsAt.copied o6.out HVL.out HV.out f6 (by simp)
  have HNEW := Lib.hid (rope_new (cap := nc) hpa rfl (by have := HTF.out.2.2; unfold maxLen; omega))
  clear hpa o6 hnc hncm HV HSV HONE HVL HU2 HI2 H3p H4p
  go_wp2_with fail
  refine HNEW.out.mono ?_
  rintro e w7 ⟨f7, he⟩
  rw [if_neg (by have := HTF.out.2.2; have := (show (own ps).length ≤ ps.length from List.length_filter_le _ _); omega), if_neg (by have := HTF.out.2.1; omega)] at he
  obtain ⟨v, rfl, hr⟩ := he
  have hr2 := hr
  obtain ⟨ra, rc, rfl, _⟩ := hr2
  clear HNEW
  obtain ⟨w8, hw8, f8, q8⟩ : ∃ W, w7.alloc (.cells #[.slice ra (own ps).length rc, .int .i64 (tot (own ps))] 57) = W ∧ Fr [] w7 W ∧ W.heap[w7.heap.size]? = some (.cells #[.slice ra (own ps).length rc, .int .i64 (tot (own ps))] 57 (0, 0)) := ⟨_, rfl, (Fr.refl _ _).alloc _, newA rfl⟩
  have hz6 := f6.size
  have hz7 := f7.size
  have hz8 := lt_of_heap q8
  have HR8 := Lib.hid ((hr.keep f8 (by simp)).there.mono (N' := fun x => w0.heap.size ≤ x ∧ x < w8.heap.size) (fun x hx => ⟨by have := hx.1; omega, hx.2⟩))
  have HQ8 := Lib.hid q8
  have g8 := (f6.then0 f7).then0 f8
  have HF8 := Lib.hid (HF.out.then0 g8)
  have HQA8 := Lib.hid (g8.keep HQA.out (by simp))
  have HB8 := Lib.hid (show S7 w8 w.heap.size m.c a1 m.q.length k1 m.busy a2 m.rest.length k2 m.acc m.w m.r from g8.keep (show S7 w0 w.heap.size m.c a1 m.q.length k1 m.busy a2 m.rest.length k2 m.acc m.w m.r from by rw [← hw0]; exact keepA (keepA (newA rfl))) (by simp))
  have HZ8 := Lib.hid (show S7 w8 (w.heap.size + 2) 0 none 0 0 false none 0 0 0 0 0 from g8.keep HZ.out (by simp))
  have HJ8 := Lib.hid fun w' (f : Fr [] w8 w') => HJ.out w8 w' g8 f
  have HBG8 := Lib.hid fun w' u (f : Fr [] w8 w') {N' : Nat → Prop} (hu : PartV w' N' u ps.flatten) => HBG0.out w8 w' u g8 f (N' := N') hu
  have HSB := Lib.hid fun w' v (f : Fr [] w8 w') {N2 : Nat → Prop} (hr : Rp w' N2 v (own ps)) (hn : ∀ x, F x → ¬ N2 x) => HSB0.out w8 w' v HF8.out f (N2 := N2) hr hn
  replace HJ := HJ8
  have HBG := HBG8
  clear HJ8 HBG8 HBG0 HSB0 hr q8 f6 f7 f8 g8 HZ HF HQA HPP
  generalize hmf : bm.m = mf at *
  generalize hee : bm.err = ee at *
  have HBM := Lib.hid (And.intro hbg (And.intro hmf hee))
  clear hbg hmf hee
  clear x0 x1 x2 x3 x4 x5 x6 p0 p1 p2 p3 p4 p5 p6 e0 e1 e2
  go_upto_region 7 with fail
  go_cut [12, 13] (fun v12 v13 wx => ∃ (B : Nat) (a3 : Option Addr) (k3 : Nat) (a4 : Option Addr) (k4 : Nat), v12 = .pointer (some ⟨B, 0, none⟩) ∧ v13 = .int .i64 ee ∧ Hid (Fr [] w8 wx) ∧ Hid (S7 wx B mf.c a3 mf.q.length k3 mf.busy a4 mf.rest.length k4 mf.acc mf.w mf.r) ∧ Hid (PartV wx (fun x => N x ∨ w8.heap.size ≤ x) (.slice a3 mf.q.length k3) mf.q) ∧ Hid (PartV wx (fun x => N x ∨ w8.heap.size ≤ x) (.slice a4 mf.rest.length k4) mf.rest) ∧ Hid (w8.heap.size ≤ B))
  case first =>
    have HFA := Lib.hid fun (w' : World) (f : Fr [] w8 w') => (show w'.cell? ⟨w.heap.size, 0, none⟩ = some (.int .i64 m.c) ∧ w'.cell? ⟨w.heap.size, 1, none⟩ = some (.slice a1 m.q.length k1) ∧ w'.cell? ⟨w.heap.size, 2, none⟩ = some (.bool m.busy) ∧ w'.cell? ⟨w.heap.size, 3, none⟩ = some (.slice a2 m.rest.length k2) ∧ w'.cell? ⟨w.heap.size, 4, none⟩ = some (.int .i64 m.acc) ∧ w'.cell? ⟨w.heap.size, 5, none⟩ = some (.int .i64 m.w) ∧ w'.cell? ⟨w.heap.size, 6, none⟩ = some (.int .i64 m.r) ∧ w'.cell? ⟨w.heap.size + 1, 1, none⟩ = some (.slice pa ps.length pc) from (let q := S7.cells (show S7 w' w.heap.size m.c a1 m.q.length k1 m.busy a2 m.rest.length k2 m.acc m.w m.r from f.keep HB8.out (by simp)); ⟨q.1, q.2.1, q.2.2.1, q.2.2.2.1, q.2.2.2.2.1, q.2.2.2.2.2.1, q.2.2.2.2.2.2.1, cell_of (f.keep HQA8.out (by simp))⟩))
    have fd : Fr [] w8 w8.drew := (Fr.refl _ _).drew
    have fr0 : Fr [] w8 w8 := Fr.refl _ _
    refine wp_region_tree (.take 0 (.take 1 (.take 2 (.two 3 8 (.two 4 8 (.take 5 (.take 6 (.take 7 (.one 8 (.one 9 (.take 10 .nil)))))) (.one 4 (.take 5 (.take 6 (.take 7 (.one 9 (.take 10 .nil))))))) (.one 3 (.one 4 (.take 5 (.take 6 (.take 7 (.one 9 (.take 10 .nil))))))))))) (fun w' => Fr [] w8 w') (by kernel_rfl) (by kernel_rfl) fd ?_
    intro OPS HOPS
    have hops := HOPS.out
    try simp only [List.append_eq, List.cons_append, List.nil_append] at hops
    replace HOPS := Lib.hid hops
    clear hops
    refine walkT_take (o := _) (v := ?_) (by rw [HOPS.out]; simp only [List.getElem?_toArray, List.getElem?_cons_succ, List.getElem?_cons_zero]; exact rfl) (Or.inl ⟨rfl, ?_⟩) ?_
    rotate_left
    · (intro w hSw; have hSx := HFA.out _ hSw; (try dsimp only at hSx); clear hSw; go_simp) <;> (with_reducible rfl)
    simp only [Act.put, List.setIfInBounds_toArray, List.set_cons_zero, List.set_cons_succ]
    refine walkT_take (o := _) (v := ?_) (by rw [HOPS.out]; simp only [List.getElem?_toArray, List.getElem?_cons_succ, List.getElem?_cons_zero]; exact rfl) (Or.inl ⟨rfl, ?_⟩) ?_
    rotate_left
    · (intro w hSw; have hSx := HFA.out _ hSw; (try dsimp only at hSx); clear hSw; go_simp) <;> (with_reducible rfl)
    simp only [Act.put, List.setIfInBounds_toArray, List.set_cons_zero, List.set_cons_succ]
    refine walkT_take (o := _) (v := ?_) (by rw [HOPS.out]; simp only [List.getElem?_toArray, List.getElem?_cons_succ, List.getElem?_cons_zero]; exact rfl) (Or.inl ⟨rfl, ?_⟩) ?_
    rotate_left
    · (intro w hSw; have hSx := HFA.out _ hSw; (try dsimp only at hSx); clear hSw; go_simp) <;> (with_reducible rfl)
    simp only [Act.put, List.setIfInBounds_toArray, List.set_cons_zero, List.set_cons_succ]
    refine walkT_two ?_ ?_
    · skip
      refine walkT_call (o := _) (by rw [HOPS.out]; simp only [List.getElem?_toArray, List.getElem?_cons_succ, List.getElem?_cons_zero]; exact rfl) (fun K HK => ?_)
      refine step_call rfl 30 #[(.tmp 55)] #[53] rfl HEJ.out #[.slice pa ps.length pc] (by simp [Act.eval]) (HJ.out _ fd) ?_
      rintro e u9 ⟨vj, rfl, f10, oj⟩
      obtain ⟨ja, jc, rfl, _, _, _, _⟩ := oj.formB
      have g9 := (fd).then0 f10
      have hpj := PartV.ofOw oj
      have gj := f10.size
      refine ⟨_, rfl, ?_⟩
      refine HK.out (fun w' => Fr [] w8 w') _ _ (fun _ h => h) (g9) ?_
      clear HK K
      simp only [Act.put, List.setIfInBounds_toArray, List.set_cons_zero, List.set_cons_succ]
      refine walkT_two ?_ ?_
      · skip
        refine walkT_call (o := _) (by rw [HOPS.out]; simp only [List.getElem?_toArray, List.getElem?_cons_succ, List.getElem?_cons_zero]; exact rfl) (fun K HK => ?_)
        refine step_call rfl 82 #[(.tmp 53), (.tmp 56)] #[41, 29] rfl HEB.out #[.agg #[.int .i64 m.c, .slice a1 m.q.length k1, .bool m.busy, .slice a2 m.rest.length k2, .int .i64 m.acc, .int .i64 m.w, .int .i64 m.r], .slice ja ps.flatten.length jc] (by simp [Act.eval]) (HBG.out _ _ g9 hpj) ?_
        rintro e u10 ⟨v', rfl, f11, u3, u4, rfl, hp3, hp4⟩
        obtain ⟨a3, k3, rfl, _⟩ := id hp3
        obtain ⟨a4, k4, rfl, _⟩ := id hp4
        have g10 := (g9).then0 f11
        have gz := (g9).size
        have HP3 := Lib.hid hp3.there
        have HP4 := Lib.hid hp4.there
        have f0z : Fr [] u10 u10 := Fr.refl _ _
        refine ⟨_, rfl, ?_⟩
        refine HK.out (fun w' => Fr [] w8 w') _ _ (fun _ h => h) (g10) ?_
        clear HK K
        simp only [Act.put, List.setIfInBounds_toArray, List.set_cons_zero, List.set_cons_succ]
        refine walkT_take (o := _) (v := ?_) (by rw [HOPS.out]; simp only [List.getElem?_toArray, List.getElem?_cons_succ, List.getElem?_cons_zero]; exact rfl) (Or.inl ⟨rfl, ?_⟩) ?_
        rotate_left
        · (intro w hSw; have hSx := HFA.out _ hSw; (try dsimp only at hSx); clear hSw; go_simp) <;> (with_reducible rfl)
        simp only [Act.put, List.setIfInBounds_toArray, List.set_cons_zero, List.set_cons_succ]
        refine walkT_take (o := _) (v := ?_) (by rw [HOPS.out]; simp only [List.getElem?_toArray, List.getElem?_cons_succ, List.getElem?_cons_zero]; exact rfl) (Or.inl ⟨rfl, ?_⟩) ?_
        rotate_left
        · (intro w hSw; have hSx := HFA.out _ hSw; (try dsimp only at hSx); clear hSw; go_simp) <;> (with_reducible rfl)
        simp only [Act.put, List.setIfInBounds_toArray, List.set_cons_zero, List.set_cons_succ]
        refine walkT_take (o := _) (v := ?_) (by rw [HOPS.out]; simp only [List.getElem?_toArray, List.getElem?_cons_succ, List.getElem?_cons_zero]; exact rfl) (Or.inl ⟨rfl, ?_⟩) ?_
        rotate_left
        · (intro w hSw; have hSx := HFA.out _ hSw; (try dsimp only at hSx); clear hSw; go_simp) <;> (with_reducible rfl)
        simp only [Act.put, List.setIfInBounds_toArray, List.set_cons_zero, List.set_cons_succ]
        refine walkT_call (o := _) (by rw [HOPS.out]; simp only [List.getElem?_toArray, List.getElem?_cons_succ, List.getElem?_cons_zero]; exact rfl) (fun K HK => ?_)
        go_simp
        obtain ⟨u11, hu11, fa, qa11⟩ : ∃ W, (u10.alloc (.cells #[.int .i64 0, .slice none 0 0, .bool false, .slice none 0 0, .int .i64 0, .int .i64 0, .int .i64 0] 41)) = W ∧ Fr [] u10 W ∧ S7 W u10.heap.size 0 none 0 0 false none 0 0 0 0 0 := ⟨_, rfl, (Fr.refl _ _).alloc _, newA rfl⟩
        try rw [hu11]
        have g11 := (g10).then0 fa
        have HZN := Lib.hid qa11
        have f0z : Fr [] u10 u11 := fa
        have hz11 := lt_of_heap qa11
        have hw8z := (g10).size
        refine HK.out (fun w' => Fr [] w8 w') _ _ (fun _ h => h) g11 ?_
        clear HK K
        try simp only [Act.put, List.setIfInBounds_toArray, List.set_cons_zero, List.set_cons_succ]
        refine walkT_call (o := _) (by rw [HOPS.out]; simp only [List.getElem?_toArray, List.getElem?_cons_succ, List.getElem?_cons_zero]; exact rfl) (fun K HK => ?_)
        refine step_store7 rfl 41 (.tmp 12) (.tmp 58) rfl u10.heap.size #[.int .i64 mf.c, .slice a3 mf.q.length k3, .bool mf.busy, .slice a4 mf.rest.length k4, .int .i64 mf.acc, .int .i64 mf.w, .int .i64 mf.r] (by simp [Act.eval]) (by simp [Act.eval]) _ _ HZN.out (by kernel_rfl) rfl (by simp [Value.oneCell']) ?_
        intro u12 ff qf
        have g12 : Fr [] w8 u12 := (g11).trans ff (by simp) (fun x hx => .inr (by simp at hx; omega))
        refine HK.out (fun w' => Fr [] w8 w') _ _ (fun _ h => h) (g12) ?_
        clear HK K
        try simp only [Act.put, List.setIfInBounds_toArray, List.set_cons_zero, List.set_cons_succ]
        refine walkT_take (o := _) (v := ?_) (by rw [HOPS.out]; simp only [List.getElem?_toArray, List.getElem?_cons_succ, List.getElem?_cons_zero]; exact rfl) (Or.inl ⟨rfl, ?_⟩) ?_
        rotate_left
        · (intro w hSw; have hSx := HFA.out _ hSw; (try dsimp only at hSx); clear hSw; go_simp) <;> (with_reducible rfl)
        simp only [Act.put, List.setIfInBounds_toArray, List.set_cons_zero, List.set_cons_succ]
        refine walkT_done ?_
        clear HOPS OPS
        go_wp2_with fail
        go_meet
        exact ⟨u10.heap.size, a3, k3, a4, k4, rfl, rfl, Lib.hid g12, Lib.hid qf, Lib.hid (((HP3.out.keep f0z (by simp)).keep ff (fun x hx hn => by simp at hx; rcases hn with ⟨hn | hn, hb⟩; exact absurd (HNW.out x hn) (by omega); omega)).mono (fun x hx => hx.1.imp id (fun h => by omega))), Lib.hid (((HP4.out.keep f0z (by simp)).keep ff (fun x hx hn => by simp at hx; rcases hn with ⟨hn | hn, hb⟩; exact absurd (HNW.out x hn) (by omega); omega)).mono (fun x hx => hx.1.imp id (fun h => by omega))), Lib.hid (by omega)⟩
      · skip
        refine walkT_call (o := _) (by rw [HOPS.out]; simp only [List.getElem?_toArray, List.getElem?_cons_succ, List.getElem?_cons_zero]; exact rfl) (fun K HK => ?_)
        go_simp
        obtain ⟨u10, hu10, fa, qa10⟩ : ∃ W, (u9.alloc (.cells #[.int .i64 0, .slice none 0 0, .bool false, .slice none 0 0, .int .i64 0, .int .i64 0, .int .i64 0] 41)) = W ∧ Fr [] u9 W ∧ S7 W u9.heap.size 0 none 0 0 false none 0 0 0 0 0 := ⟨_, rfl, (Fr.refl _ _).alloc _, newA rfl⟩
        try rw [hu10]
        have g10 := (g9).then0 fa
        have HZN := Lib.hid qa10
        replace hpj := hpj.keep fa (by simp)
        have hz10 := lt_of_heap qa10
        have hw8z := (g9).size
        refine HK.out (fun w' => Fr [] w8 w') _ _ (fun _ h => h) g10 ?_
        clear HK K
        try simp only [Act.put, List.setIfInBounds_toArray, List.set_cons_zero, List.set_cons_succ]
        refine walkT_call (o := _) (by rw [HOPS.out]; simp only [List.getElem?_toArray, List.getElem?_cons_succ, List.getElem?_cons_zero]; exact rfl) (fun K HK => ?_)
        refine step_call rfl 82 #[(.tmp 53), (.tmp 56)] #[41, 29] rfl HEB.out #[.agg #[.int .i64 m.c, .slice a1 m.q.length k1, .bool m.busy, .slice a2 m.rest.length k2, .int .i64 m.acc, .int .i64 m.w, .int .i64 m.r], .slice ja ps.flatten.length jc] (by simp [Act.eval]) (HBG.out _ _ g10 hpj) ?_
        rintro e u11 ⟨v', rfl, f11, u3, u4, rfl, hp3, hp4⟩
        obtain ⟨a3, k3, rfl, _⟩ := id hp3
        obtain ⟨a4, k4, rfl, _⟩ := id hp4
        have g11 := (g10).then0 f11
        have gz := (g10).size
        have HP3 := Lib.hid hp3.there
        have HP4 := Lib.hid hp4.there
        have f0z : Fr [] u11 u11 := Fr.refl _ _
        have zz11 := f11.keep HZN.out (by simp)
        have HZN := Lib.hid zz11
        refine ⟨_, rfl, ?_⟩
        refine HK.out (fun w' => Fr [] w8 w') _ _ (fun _ h => h) (g11) ?_
        clear HK K
        simp only [Act.put, List.setIfInBounds_toArray, List.set_cons_zero, List.set_cons_succ]
        refine walkT_take (o := _) (v := ?_) (by rw [HOPS.out]; simp only [List.getElem?_toArray, List.getElem?_cons_succ, List.getElem?_cons_zero]; exact rfl) (Or.inl ⟨rfl, ?_⟩) ?_
        rotate_left
        · (intro w hSw; have hSx := HFA.out _ hSw; (try dsimp only at hSx); clear hSw; go_simp) <;> (with_reducible rfl)
        simp only [Act.put, List.setIfInBounds_toArray, List.set_cons_zero, List.set_cons_succ]
        refine walkT_take (o := _) (v := ?_) (by rw [HOPS.out]; simp only [List.getElem?_toArray, List.getElem?_cons_succ, List.getElem?_cons_zero]; exact rfl) (Or.inl ⟨rfl, ?_⟩) ?_
        rotate_left
        · (intro w hSw; have hSx := HFA.out _ hSw; (try dsimp only at hSx); clear hSw; go_simp) <;> (with_reducible rfl)
        simp only [Act.put, List.setIfInBounds_toArray, List.set_cons_zero, List.set_cons_succ]
        refine walkT_take (o := _) (v := ?_) (by rw [HOPS.out]; simp only [List.getElem?_toArray, List.getElem?_cons_succ, List.getElem?_cons_zero]; exact rfl) (Or.inl ⟨rfl, ?_⟩) ?_
        rotate_left
        · (intro w hSw; have hSx := HFA.out _ hSw; (try dsimp only at hSx); clear hSw; go_simp) <;> (with_reducible rfl)
        simp only [Act.put, List.setIfInBounds_toArray, List.set_cons_zero, List.set_cons_succ]
        refine walkT_call (o := _) (by rw [HOPS.out]; simp only [List.getElem?_toArray, List.getElem?_cons_succ, List.getElem?_cons_zero]; exact rfl) (fun K HK => ?_)
        refine step_store7 rfl 41 (.tmp 12) (.tmp 58) rfl u9.heap.size #[.int .i64 mf.c, .slice a3 mf.q.length k3, .bool mf.busy, .slice a4 mf.rest.length k4, .int .i64 mf.acc, .int .i64 mf.w, .int .i64 mf.r] (by simp [Act.eval]) (by simp [Act.eval]) _ _ HZN.out (by kernel_rfl) rfl (by simp [Value.oneCell']) ?_
        intro u12 ff qf
        have g12 : Fr [] w8 u12 := (g11).trans ff (by simp) (fun x hx => .inr (by simp at hx; omega))
        refine HK.out (fun w' => Fr [] w8 w') _ _ (fun _ h => h) (g12) ?_
        clear HK K
        try simp only [Act.put, List.setIfInBounds_toArray, List.set_cons_zero, List.set_cons_succ]
        refine walkT_take (o := _) (v := ?_) (by rw [HOPS.out]; simp only [List.getElem?_toArray, List.getElem?_cons_succ, List.getElem?_cons_zero]; exact rfl) (Or.inl ⟨rfl, ?_⟩) ?_
        rotate_left
        · (intro w hSw; have hSx := HFA.out _ hSw; (try dsimp only at hSx); clear hSw; go_simp) <;> (with_reducible rfl)
        simp only [Act.put, List.setIfInBounds_toArray, List.set_cons_zero, List.set_cons_succ]
        refine walkT_done ?_
        clear HOPS OPS
        go_wp2_with fail
        go_meet
        exact ⟨u9.heap.size, a3, k3, a4, k4, rfl, rfl, Lib.hid g12, Lib.hid qf, Lib.hid (((HP3.out.keep f0z (by simp)).keep ff (fun x hx hn => by simp at hx; rcases hn with ⟨hn | hn, hb⟩; exact absurd (HNW.out x hn) (by omega); omega)).mono (fun x hx => hx.1.imp id (fun h => by omega))), Lib.hid (((HP4.out.keep f0z (by simp)).keep ff (fun x hx hn => by simp at hx; rcases hn with ⟨hn | hn, hb⟩; exact absurd (HNW.out x hn) (by omega); omega)).mono (fun x hx => hx.1.imp id (fun h => by omega))), Lib.hid (by omega)⟩
    · skip
      refine walkT_call (o := _) (by rw [HOPS.out]; simp only [List.getElem?_toArray, List.getElem?_cons_succ, List.getElem?_cons_zero]; exact rfl) (fun K HK => ?_)
      go_simp
      obtain ⟨u9, hu9, fa, qa9⟩ : ∃ W, ((w8.alloc (.cells #[.int .i64 0, .slice none 0 0, .bool false, .slice none 0 0, .int .i64 0, .int .i64 0, .int .i64 0] 41)).drew) = W ∧ Fr [] w8 W ∧ S7 W w8.heap.size 0 none 0 0 false none 0 0 0 0 0 := ⟨_, rfl, ((Fr.refl _ _).alloc _).drew, newA rfl⟩
      try rw [hu9]
      have g9 := (fr0).then0 fa
      have HZN := Lib.hid qa9
      have hz9 := lt_of_heap qa9
      have hw8z := (fr0).size
      refine HK.out (fun w' => Fr [] w8 w') _ _ (fun _ h => h) g9 ?_
      clear HK K
      try simp only [Act.put, List.setIfInBounds_toArray, List.set_cons_zero, List.set_cons_succ]
      refine walkT_call (o := _) (by rw [HOPS.out]; simp only [List.getElem?_toArray, List.getElem?_cons_succ, List.getElem?_cons_zero]; exact rfl) (fun K HK => ?_)
      refine step_call rfl 30 #[(.tmp 55)] #[53] rfl HEJ.out #[.slice pa ps.length pc] (by simp [Act.eval]) (HJ.out _ g9) ?_
      rintro e u10 ⟨vj, rfl, f10, oj⟩
      obtain ⟨ja, jc, rfl, _, _, _, _⟩ := oj.formB
      have g10 := (g9).then0 f10
      have hpj := PartV.ofOw oj
      have gj := f10.size
      have zz10 := f10.keep HZN.out (by simp)
      have HZN := Lib.hid zz10
      refine ⟨_, rfl, ?_⟩
      refine HK.out (fun w' => Fr [] w8 w') _ _ (fun _ h => h) (g10) ?_
      clear HK K
      simp only [Act.put, List.setIfInBounds_toArray, List.set_cons_zero, List.set_cons_succ]
      refine walkT_call (o := _) (by rw [HOPS.out]; simp only [List.getElem?_toArray, List.getElem?_cons_succ, List.getElem?_cons_zero]; exact rfl) (fun K HK => ?_)
      refine step_call rfl 82 #[(.tmp 53), (.tmp 56)] #[41, 29] rfl HEB.out #[.agg #[.int .i64 m.c, .slice a1 m.q.length k1, .bool m.busy, .slice a2 m.rest.length k2, .int .i64 m.acc, .int .i64 m.w, .int .i64 m.r], .slice ja ps.flatten.length jc] (by simp [Act.eval]) (HBG.out _ _ g10 hpj) ?_
      rintro e u11 ⟨v', rfl, f11, u3, u4, rfl, hp3, hp4⟩
      obtain ⟨a3, k3, rfl, _⟩ := id hp3
      obtain ⟨a4, k4, rfl, _⟩ := id hp4
      have g11 := (g10).then0 f11
      have gz := (g10).size
      have HP3 := Lib.hid hp3.there
      have HP4 := Lib.hid hp4.there
      have f0z : Fr [] u11 u11 := Fr.refl _ _
      have zz11 := f11.keep HZN.out (by simp)
      have HZN := Lib.hid zz11
      refine ⟨_, rfl, ?_⟩
      refine HK.out (fun w' => Fr [] w8 w') _ _ (fun _ h => h) (g11) ?_
      clear HK K
      simp only [Act.put, List.setIfInBounds_toArray, List.set_cons_zero, List.set_cons_succ]
      refine walkT_take (o := _) (v := ?_) (by rw [HOPS.out]; simp only [List.getElem?_toArray, List.getElem?_cons_succ, List.getElem?_cons_zero]; exact rfl) (Or.inl ⟨rfl, ?_⟩) ?_
      rotate_left
      · (intro w hSw; have hSx := HFA.out _ hSw; (try dsimp only at hSx); clear hSw; go_simp) <;> (with_reducible rfl)
      simp only [Act.put, List.setIfInBounds_toArray, List.set_cons_zero, List.set_cons_succ]
      refine walkT_take (o := _) (v := ?_) (by rw [HOPS.out]; simp only [List.getElem?_toArray, List.getElem?_cons_succ, List.getElem?_cons_zero]; exact rfl) (Or.inl ⟨rfl, ?_⟩) ?_
      rotate_left
      · (intro w hSw; have hSx := HFA.out _ hSw; (try dsimp only at hSx); clear hSw; go_simp) <;> (with_reducible rfl)
      simp only [Act.put, List.setIfInBounds_toArray, List.set_cons_zero, List.set_cons_succ]
      refine walkT_take (o := _) (v := ?_) (by rw [HOPS.out]; simp only [List.getElem?_toArray, List.getElem?_cons_succ, List.getElem?_cons_zero]; exact rfl) (Or.inl ⟨rfl, ?_⟩) ?_
      rotate_left
      · (intro w hSw; have hSx := HFA.out _ hSw; (try dsimp only at hSx); clear hSw; go_simp) <;> (with_reducible rfl)
      simp only [Act.put, List.setIfInBounds_toArray, List.set_cons_zero, List.set_cons_succ]
      refine walkT_call (o := _) (by rw [HOPS.out]; simp only [List.getElem?_toArray, List.getElem?_cons_succ, List.getElem?_cons_zero]; exact rfl) (fun K HK => ?_)
      refine step_store7 rfl 41 (.tmp 12) (.tmp 58) rfl w8.heap.size #[.int .i64 mf.c, .slice a3 mf.q.length k3, .bool mf.busy, .slice a4 mf.rest.length k4, .int .i64 mf.acc, .int .i64 mf.w, .int .i64 mf.r] (by simp [Act.eval]) (by simp [Act.eval]) _ _ HZN.out (by kernel_rfl) rfl (by simp [Value.oneCell']) ?_
      intro u12 ff qf
      have g12 : Fr [] w8 u12 := (g11).trans ff (by simp) (fun x hx => .inr (by simp at hx; omega))
      refine HK.out (fun w' => Fr [] w8 w') _ _ (fun _ h => h) (g12) ?_
      clear HK K
      try simp only [Act.put, List.setIfInBounds_toArray, List.set_cons_zero, List.set_cons_succ]
      refine walkT_take (o := _) (v := ?_) (by rw [HOPS.out]; simp only [List.getElem?_toArray, List.getElem?_cons_succ, List.getElem?_cons_zero]; exact rfl) (Or.inl ⟨rfl, ?_⟩) ?_
      rotate_left
      · (intro w hSw; have hSx := HFA.out _ hSw; (try dsimp only at hSx); clear hSw; go_simp) <;> (with_reducible rfl)
      simp only [Act.put, List.setIfInBounds_toArray, List.set_cons_zero, List.set_cons_succ]
      refine walkT_done ?_
      clear HOPS OPS
      go_wp2_with fail
      go_meet
      exact ⟨w8.heap.size, a3, k3, a4, k4, rfl, rfl, Lib.hid g12, Lib.hid qf, Lib.hid (((HP3.out.keep f0z (by simp)).keep ff (fun x hx hn => by simp at hx; rcases hn with ⟨hn | hn, hb⟩; exact absurd (HNW.out x hn) (by omega); omega)).mono (fun x hx => hx.1.imp id (fun h => by omega))), Lib.hid (((HP4.out.keep f0z (by simp)).keep ff (fun x hx hn => by simp at hx; rcases hn with ⟨hn | hn, hb⟩; exact absurd (HNW.out x hn) (by omega); omega)).mono (fun x hx => hx.1.imp id (fun h => by omega))), Lib.hid (by omega)⟩
  case rest =>
    rename World => w9
    obtain ⟨B, a3, k3, a4, k4, rfl, rfl, HF9, HB9, HP3, HP4, HBL⟩ := hcut
    have hBL := HBL.out
    have hBl9 := lt_of_heap HB9.out
    have hs9 := HF9.out.size
    have fd : Fr [] w9 w9.drew := (Fr.refl _ _).drew
    have HNc := Lib.hid (show S7 w9.drew B mf.c a3 mf.q.length k3 mf.busy a4 mf.rest.length k4 mf.acc mf.w mf.r from fd.keep HB9.out (by simp))
    have HQc := Lib.hid (fd.keep (HF9.out.keep HQ8.out (by simp)) (by simp))
    have HZS := Lib.hid (show S7 w9.drew (w.heap.size + 2) 0 none 0 0 false none 0 0 0 0 0 from fd.keep (HF9.out.keep HZ8.out (by simp)) (by simp))
    have hsb := HSB.out _ _ (HF9.out.then0 fd) (HR8.out.keep (HF9.out.then0 fd) (by simp)) (fun x hF hn => by have := HFl.out x hF; have := hn.1; omega)
    rw [own_flat, HBM.out.1, HBM.out.2.1, HBM.out.2.2] at hsb
    have HSB9 := Lib.hid hsb
    clear hsb
    have HFB := Lib.hid fun (w' : World) (f : S7 w' B mf.c a3 mf.q.length k3 mf.busy a4 mf.rest.length k4 mf.acc mf.w mf.r ∧ w'.heap[w7.heap.size]? = some (.cells #[.slice ra (own ps).length rc, .int .i64 (tot (own ps))] 57 (0, 0))) => (show w'.cell? ⟨B, 0, none⟩ = some (.int .i64 mf.c) ∧ w'.cell? ⟨B, 1, none⟩ = some (.slice a3 mf.q.length k3) ∧ w'.cell? ⟨B, 2, none⟩ = some (.bool mf.busy) ∧ w'.cell? ⟨B, 3, none⟩ = some (.slice a4 mf.rest.length k4) ∧ w'.cell? ⟨B, 4, none⟩ = some (.int .i64 mf.acc) ∧ w'.cell? ⟨B, 5, none⟩ = some (.int .i64 mf.w) ∧ w'.cell? ⟨B, 6, none⟩ = some (.int .i64 mf.r) ∧ w'.cell? ⟨w7.heap.size, 0, none⟩ = some (.slice ra (own ps).length rc) ∧ w'.cell? ⟨w7.heap.size, 1, none⟩ = some (.int .i64 (tot (own ps))) from (let q := S7.cells f.1; ⟨q.1, q.2.1, q.2.2.1, q.2.2.2.1, q.2.2.2.2.1, q.2.2.2.2.2.1, q.2.2.2.2.2.2.1, cell_of f.2, cell_of f.2⟩))
    go_wp2_with fail
    refine wp_region_order [(0, true), (1, true), (2, true), (3, true), (5, true), (4, false), (6, true), (7, true), (8, false), (9, true)] (fun w' => S7 w' B mf.c a3 mf.q.length k3 mf.busy a4 mf.rest.length k4 mf.acc mf.w mf.r ∧ w'.heap[w7.heap.size]? = some (.cells #[.slice ra (own ps).length rc, .int .i64 (tot (own ps))] 57 (0, 0))) (by kernel_rfl) (by kernel_rfl) ⟨HNc.out, HQc.out⟩ ?_
    intro OPS HOPS
    have hops := HOPS.out
    try simp only [List.append_eq, List.cons_append, List.nil_append] at hops
    replace HOPS := Lib.hid hops
    clear hops
    refine walkO_take (o := _) (v := ?_) (by rw [HOPS.out]; simp only [List.getElem?_toArray, List.getElem?_cons_succ, List.getElem?_cons_zero]; exact rfl) (Or.inl ⟨rfl, ?_⟩) ?_
    rotate_left
    · (intro w hSw; have hSx := HFB.out _ hSw; (try dsimp only at hSx); clear hSw; go_simp) <;> (with_reducible rfl)
    simp only [Act.put, List.setIfInBounds_toArray, List.set_cons_zero, List.set_cons_succ]
    refine walkO_take (o := _) (v := ?_) (by rw [HOPS.out]; simp only [List.getElem?_toArray, List.getElem?_cons_succ, List.getElem?_cons_zero]; exact rfl) (Or.inl ⟨rfl, ?_⟩) ?_
    rotate_left
    · (intro w hSw; have hSx := HFB.out _ hSw; (try dsimp only at hSx); clear hSw; go_simp) <;> (with_reducible rfl)
    simp only [Act.put, List.setIfInBounds_toArray, List.set_cons_zero, List.set_cons_succ]
    refine walkO_take (o := _) (v := ?_) (by rw [HOPS.out]; simp only [List.getElem?_toArray, List.getElem?_cons_succ, List.getElem?_cons_zero]; exact rfl) (Or.inl ⟨rfl, ?_⟩) ?_
    rotate_left
    · (intro w hSw; have hSx := HFB.out _ hSw; (try dsimp only at hSx); clear hSw; go_simp) <;> (with_reducible rfl)
    simp only [Act.put, List.setIfInBounds_toArray, List.set_cons_zero, List.set_cons_succ]
    refine walkO_take (o := _) (v := ?_) (by rw [HOPS.out]; simp only [List.getElem?_toArray, List.getElem?_cons_succ, List.getElem?_cons_zero]; exact rfl) (Or.inl ⟨rfl, ?_⟩) ?_
    rotate_left
    · (intro w hSw; have hSx := HFB.out _ hSw; (try dsimp only at hSx); clear hSw; go_simp) <;> (with_reducible rfl)
    simp only [Act.put, List.setIfInBounds_toArray, List.set_cons_zero, List.set_cons_succ]
    refine walkO_take (o := _) (v := ?_) (by rw [HOPS.out]; simp only [List.getElem?_toArray, List.getElem?_cons_succ, List.getElem?_cons_zero]; exact rfl) (Or.inl ⟨rfl, ?_⟩) ?_
    rotate_left
    · (intro w hSw; have hSx := HFB.out _ hSw; (try dsimp only at hSx); clear hSw; go_simp) <;> (with_reducible rfl)
    simp only [Act.put, List.setIfInBounds_toArray, List.set_cons_zero, List.set_cons_succ]
    refine walkO_call (o := _) (by rw [HOPS.out]; simp only [List.getElem?_toArray, List.getElem?_cons_succ, List.getElem?_cons_zero]; exact rfl) (fun K HK => ?_)
    refine step_call rfl 29 #[(.tmp 62), (.tmp 63)] #[23, 57] rfl HES.out #[.pointer (some ⟨b, 0, none⟩), .agg #[.slice ra (own ps).length rc, .int .i64 (tot (own ps))]] (by simp [Act.eval]) (HSB9.out) ?_
    rintro e w10 ⟨rfl, ⟨S, hS, f10⟩, F', hF', h10⟩
    have hnS : ∀ x, w.heap.size ≤ x → x ∉ S := fun x h1 hm => by have := HFl.out x (hS x hm); omega
    have HNc := Lib.hid (show S7 w10 B mf.c a3 mf.q.length k3 mf.busy a4 mf.rest.length k4 mf.acc mf.w mf.r from f10.keep HNc.out (hnS _ (by omega)))
    have HZS := Lib.hid (show S7 w10 (w.heap.size + 2) 0 none 0 0 false none 0 0 0 0 0 from f10.keep HZS.out (hnS _ (by omega)))
    have HQc := Lib.hid (f10.keep HQc.out (hnS _ (by omega)))
    refine ⟨_, rfl, ?_⟩
    refine HK.out (fun w' => S7 w' B mf.c a3 mf.q.length k3 mf.busy a4 mf.rest.length k4 mf.acc mf.w mf.r ∧ w'.heap[w7.heap.size]? = some (.cells #[.slice ra (own ps).length rc, .int .i64 (tot (own ps))] 57 (0, 0))) _ _ (fun _ h => h) (⟨HNc.out, HQc.out⟩) ?_
    clear HK K
    simp only [Act.put, List.setIfInBounds_toArray, List.set_cons_zero, List.set_cons_succ]
    refine walkO_take (o := _) (v := ?_) (by rw [HOPS.out]; simp only [List.getElem?_toArray, List.getElem?_cons_succ, List.getElem?_cons_zero]; exact rfl) (Or.inl ⟨rfl, ?_⟩) ?_
    rotate_left
    · (intro w hSw; have hSx := HFB.out _ hSw; (try dsimp only at hSx); clear hSw; go_simp) <;> (with_reducible rfl)
    simp only [Act.put, List.setIfInBounds_toArray, List.set_cons_zero, List.set_cons_succ]
    refine walkO_take (o := _) (v := ?_) (by rw [HOPS.out]; simp only [List.getElem?_toArray, List.getElem?_cons_succ, List.getElem?_cons_zero]; exact rfl) (Or.inl ⟨rfl, ?_⟩) ?_
    rotate_left
    · (intro w hSw; have hSx := HFB.out _ hSw; (try dsimp only at hSx); clear hSw; go_simp) <;> (with_reducible rfl)
    simp only [Act.put, List.setIfInBounds_toArray, List.set_cons_zero, List.set_cons_succ]
    refine walkO_call (o := _) (by rw [HOPS.out]; simp only [List.getElem?_toArray, List.getElem?_cons_succ, List.getElem?_cons_zero]; exact rfl) (fun K HK => ?_)
    refine step_store7 rfl 41 (.tmp 7) (.tmp 61) rfl (w.heap.size + 2) #[.int .i64 mf.c, .slice a3 mf.q.length k3, .bool mf.busy, .slice a4 mf.rest.length k4, .int .i64 mf.acc, .int .i64 mf.w, .int .i64 mf.r] (by simp [Act.eval]) (by simp [Act.eval]) _ _ HZS.out (by kernel_rfl) rfl (by simp [Value.oneCell']) ?_
    intro wf ff qf
    refine HK.out (fun w' => S7 w' B mf.c a3 mf.q.length k3 mf.busy a4 mf.rest.length k4 mf.acc mf.w mf.r ∧ w'.heap[w7.heap.size]? = some (.cells #[.slice ra (own ps).length rc, .int .i64 (tot (own ps))] 57 (0, 0))) _ _ (fun _ h => h) (⟨ff.keep HNc.out (by intro hm; simp at hm; omega), ff.keep HQc.out (by intro hm; simp at hm; omega)⟩) ?_
    clear HK K
    try simp only [Act.put, List.setIfInBounds_toArray, List.set_cons_zero, List.set_cons_succ]
    refine walkO_take (o := _) (v := ?_) (by rw [HOPS.out]; simp only [List.getElem?_toArray, List.getElem?_cons_succ, List.getElem?_cons_zero]; exact rfl) (Or.inl ⟨rfl, ?_⟩) ?_
    rotate_left
    · (intro w hSw; have hSx := HFB.out _ hSw; (try dsimp only at hSx); clear hSw; go_simp) <;> (with_reducible rfl)
    simp only [Act.put, List.setIfInBounds_toArray, List.set_cons_zero, List.set_cons_succ]
    refine walkO_done ?_
    clear HOPS OPS
    go_wp2_with fail
    obtain ⟨y0, y1, y2, y3, y4, y5, y6, _, _, _, _, _, _, _⟩ := S7.cells qf
    refine bodyPost_ret (v := .tuple #[.pointer (some ⟨b, 0, none⟩), .agg #[.int .i64 mf.c, .slice a3 mf.q.length k3, .bool mf.busy, .slice a4 mf.rest.length k4, .int .i64 mf.acc, .int .i64 mf.w, .int .i64 mf.r], .bool true]) (by simp [results, Try.results38, go_sem, y0, y1, y2, y3, y4, y5, y6]) rfl ?_
    exact step_post2 (w0 := w8) (z := w0.heap.size) HF8.out (HF9.out.then0 fd) (by omega) (by omega) (fun x hx => .inl (hS x hx)) f10 (fun x hx => by rcases hF' x hx with h | ⟨⟨h1, h2⟩, _⟩ | h; exact .inl h; exact .inr (.inl ⟨h1, h2⟩); exact .inr (.inr (by omega))) h10 ff (HP3.out.keep fd (by simp)).there (HP4.out.keep fd (by simp)).there HFl.out HD.out HNW.out

end Go.Proofs.Ytdoamelhclnphaa

namespace Go.Proofs.Ytdoamelhclnphaa
open Go.RowKit
set_option maxRecDepth 100000

theorem read_len {m : SM} (h : SOk m) (n : Int) : (readM m n).out.length ≤ 70000 := by
  have h1 := h.q1
  have h2 := h.c1
  have h3 := h.sum
  have h4 := h.a0
  unfold readM
  split
  · simp
  split
  · simp
  split
  · simp
  split
  · simp; omega
  split
  · simp; omega
  split <;> simp
theorem St.apart {w : World} {N : Nat → Prop} {L : List Nat} {b : Nat} {m : SM} (h : St w N L b m) : ¬ N b ∧ ∀ x ∈ L, ¬ N x := by
  obtain ⟨_, _, _, _, _, h1⟩ := h
  exact ⟨h1.nb, h1.nl⟩
set_option maxHeartbeats 16000000 in
theorem step_read {w : World} {F N : Nat → Prop} {b : Nat} {m : SM} {v : Value} {pa : Option Addr} {pc : Nat} {ps : Parts} {n : Int} (hs : SF w F b m) (h : Sv w N v m) (hd : ∀ x, F x → ¬ N x) (HNZ : ∀ x, N x → x < w.heap.size) :
    Calls Try.prog 38 #[.pointer (some ⟨b, 0, none⟩), v, .agg #[.int .i64 3, .slice pa ps.length pc, .int .i64 n]] w (Step14 w F N (readM m n).m) := by
  have HNW := Lib.hid HNZ
  clear HNZ
  have hFl := hs.lt
  have hokm := hs.ok
  obtain ⟨u1, u2, rfl, hq, hr⟩ := h
  obtain ⟨a1, k1, rfl, _⟩ := id hq
  obtain ⟨a2, k2, rfl, _⟩ := id hr
  have HQ := Lib.hid (And.intro hq hr)
  clear hq hr
  obtain ⟨w0, hw0, f0, q0, qa, z0⟩ : ∃ W, ((w.alloc (.cells #[.int .i64 m.c, .slice a1 m.q.length k1, .bool m.busy, .slice a2 m.rest.length k2, .int .i64 m.acc, .int .i64 m.w, .int .i64 m.r] 41)).alloc (.cells #[.int .i64 3, .slice pa ps.length pc, .int .i64 n] 55)).alloc (.cells #[.int .i64 0, .slice none 0 0, .bool false, .slice none 0 0, .int .i64 0, .int .i64 0, .int .i64 0] 41) = W ∧ Fr [] w W ∧ S7 W w.heap.size m.c a1 m.q.length k1 m.busy a2 m.rest.length k2 m.acc m.w m.r ∧ W.heap[w.heap.size + 1]? = some (.cells #[.int .i64 3, .slice pa ps.length pc, .int .i64 n] 55 (0, 0)) ∧ S7 W (w.heap.size + 2) 0 none 0 0 false none 0 0 0 0 0 := ⟨_, rfl, (((Fr.refl _ _).alloc _).alloc _).alloc _, keepA (keepA (newA rfl)), keepA (newA (by simp)), newA (by simp)⟩
  obtain ⟨x0, x1, x2, x3, x4, x5, x6, p0, p1, p2, p3, p4, p5, p6⟩ := q0.cells
  have e0 : w0.cell? ⟨w.heap.size + 1, 0, none⟩ = some (.int .i64 3) := cell_of qa
  have e1 : w0.cell? ⟨w.heap.size + 1, 1, none⟩ = some (.slice pa ps.length pc) := cell_of qa
  have e2 : w0.cell? ⟨w.heap.size + 1, 2, none⟩ = some (.int .i64 n) := cell_of qa
  have hz0 : w.heap.size + 2 < w0.heap.size := lt_of_heap z0
  have HZ := Lib.hid z0
  have HF := Lib.hid f0
  have HQA := Lib.hid qa
  clear q0 z0 f0 qa
  have HC := Lib.hid (r_read (w := w0) (N := N) (v := .agg #[.int .i64 m.c, .slice a1 m.q.length k1, .bool m.busy, .slice a2 m.rest.length k2, .int .i64 m.acc, .int .i64 m.w, .int .i64 m.r]) (m := m) ⟨_, _, rfl, HQ.out.1.keep HF.out (by simp), HQ.out.2.keep HF.out (by simp)⟩ n ⟨by have := hokm.q1; have := hokm.c1; omega, by have := hokm.sum; have := hokm.a0; omega⟩ ⟨hokm.a0, by have := hokm.sum; omega⟩)
  have hol : (readM m n).out.length ≤ 70000 := read_len hokm n
  have HS := Lib.hid fun w' (f : Fr [] w w') => sf_read (hs.keep0 f) n
  generalize (readM m n).m = mf at *
  generalize (readM m n).out = O at *
  generalize (readM m n).err = ee at *
  have HFl := Lib.hid hFl
  have HD := Lib.hid hd
  clear hFl hd hs hokm
  go_enter Try.func38, Try.ntmps38
  go_wp2_with fail
  refine HC.out.mono ?_
  rintro e w1 ⟨v', u, rfl, f1, ⟨u3, u4, rfl, hp3, hp4⟩, hpu⟩
  obtain ⟨a3, k3, rfl, _⟩ := id hp3
  obtain ⟨a4, k4, rfl, _⟩ := id hp4
  obtain ⟨w2, hw2, f2, q2⟩ : ∃ W, w1.alloc (.cells #[.int .i64 mf.c, .slice a3 mf.q.length k3, .bool mf.busy, .slice a4 mf.rest.length k4, .int .i64 mf.acc, .int .i64 mf.w, .int .i64 mf.r] 41) = W ∧ Fr [] w1 W ∧ S7 W w1.heap.size mf.c a3 mf.q.length k3 mf.busy a4 mf.rest.length k4 mf.acc mf.w mf.r := ⟨_, rfl, (Fr.refl _ _).alloc _, newA rfl⟩
  have z1 := f1.size
  have hz2 : w1.heap.size < w2.heap.size := lt_of_heap q2
  have HP3 := Lib.hid (hp3.there.keep f2 (by simp))
  have HP4 := Lib.hid (hp4.there.keep f2 (by simp))
  have HPU := Lib.hid (hpu.keep f2 (by simp))
  have HN2 := Lib.hid q2
  have HF02 := Lib.hid (f1.then0 f2)
  have HF2 := Lib.hid ((HF.out.then0 f1).then0 f2)
  have HZ2 := Lib.hid (show S7 w2 (w.heap.size + 2) 0 none 0 0 false none 0 0 0 0 0 from f2.keep (f1.keep HZ.out (by simp)) (by simp))
  have d2 : w2.cell? ⟨w.heap.size + 1, 2, none⟩ = some (.int .i64 n) := cell_of (f2.keep (f1.keep HQA.out (by simp)) (by simp))
  clear x0 x1 x2 x3 x4 x5 x6 p0 p1 p2 p3 p4 p5 p6
  obtain ⟨x0, x1, x2, x3, x4, x5, x6, p0, p1, p2, p3, p4, p5, p6⟩ := q2.cells
  clear hp3 hp4 hpu q2 f1 f2 e0 e1 e2
  go_wp2_with fail
  refine (HS.out w2 HF2.out).mono ?_
  rintro e w3 ⟨p, rfl, ow, ⟨S, hS, f3⟩, F', hF', h3⟩
  have hnS : ∀ x, w.heap.size ≤ x → x ∉ S := fun x h1 hm => by have := HFl.out x (hS x hm); omega
  have HN3 := Lib.hid (show S7 w3 w1.heap.size mf.c a3 mf.q.length k3 mf.busy a4 mf.rest.length k4 mf.acc mf.w mf.r from f3.keep HN2.out (hnS _ (by omega)))
  have HZS := Lib.hid (show S7 w3 (w.heap.size + 2) 0 none 0 0 false none 0 0 0 0 0 from f3.keep HZ2.out (hnS _ (by omega)))
  have hpu3 := HPU.out.keep f3 (fun x hx hn => by have hn' : w0.heap.size ≤ x := hn; exact hnS x (by omega) hx)
  obtain ⟨ba, bc, rfl, bs⟩ := hpu3.form
  obtain ⟨ua, uc, rfl, huc, _, us, _⟩ := ow.formB
  have k1 := conv_st (cap := uc) us rfl
  have k2 := conv_st (cap := bc) bs rfl
  have hz3 := f3.size
  have HOW : Hid (∃ zs : List Value, zs.length = O.length ∧ (∀ y ∈ zs, ∃ z : Int, y = .int .u8 z) ∧ Ow w3 w2.heap.size 5 (.slice ua O.length uc) zs) := Lib.hid ⟨_, by simp [bi_length], fun y hy => by obtain ⟨z, _, rfl⟩ := List.mem_map.1 hy; exact ⟨z, rfl⟩, ow⟩
  have HS3 := Lib.hid (And.intro hS (And.intro f3 (And.intro hF' h3)))
  have HNS := Lib.hid hnS
  clear hS f3 hF' h3 hnS hpu3 bs us ow d2 x0 x1 x2 x3 x4 x5 x6 p0 p1 p2 p3 p4 p5 p6
  have hoi : (O.length : Int) ≤ 70000 := by omega
  go_wp2_with fail
  go_loopw [30] (fun i wq => ∃ k : Nat, k ≤ O.length ∧ i = .int .i64 k ∧ Hid (Fr (Value.slice ua O.length uc).ownBlock.toList w3 wq) ∧ Hid (∃ zs : List Value, zs.length = O.length ∧ (∀ y ∈ zs, ∃ z : Int, y = .int .u8 z) ∧ Ow wq w2.heap.size 5 (.slice ua O.length uc) zs)) (fun i _ => O.length - (intOf i).toNat)
  case atStart => exact ⟨0, by omega, rfl, Lib.hid (Fr.refl _ _), HOW⟩
  case round =>
    clear k1 k2
    obtain ⟨k, hk, rfl, GQ, HO⟩ := hrel
    rename World => wq
    by_cases hlt : (k : Int) < O.length
    · obtain ⟨zs, hzl, hzv, hzo⟩ := HO.out
      obtain ⟨g, c, hv, _, _, hMg, _, hcell, hfro⟩ := hzo.row (by omega)
      injection hv with hv1 hv2 hv3
      subst hv1
      obtain ⟨z, hz⟩ := hzv _ (List.getElem_mem (show k < zs.length by omega))
      have hck := (hcell k (by omega)).trans (List.getElem?_eq_getElem (by omega))
      rw [hz] at hck
      have hf := hfro k
      have GQ2 := Lib.hid (GQ.out.setCell (p := ⟨g, k, none⟩) (.inl (by simp [Value.ownBlock])) (.int .u8 ((z + 1) % 256)))
      have HO2 : Hid (∃ zs : List Value, zs.length = O.length ∧ (∀ y ∈ zs, ∃ z : Int, y = .int .u8 z) ∧ Ow (wq.setCell ⟨g, k, none⟩ (.int .u8 ((z + 1) % 256))) w2.heap.size 5 (.slice (some ⟨g, 0, none⟩) O.length uc) zs) := Lib.hid ⟨zs.set k (.int .u8 ((z + 1) % 256)), by simpa using hzl, fun y hy => by rcases List.mem_or_eq_of_mem_set hy with h | h; exact hzv y h; exact ⟨_, h⟩, hzo.set k _⟩
      clear hzo hzv hcell hfro HO GQ hz hMg hzl
      go_wp2_with fail
      go_roundw
      case rel => exact ⟨k + 1, by omega, by go_num, GQ2, HO2⟩
      case measure => simp [intOf]; omega
    · skip
      obtain ⟨zs, _, _, hzo⟩ := HO.out
      have hbl := hzo.lt
      have hnU : ∀ x, x < w2.heap.size → x ∉ (Value.slice ua O.length uc).ownBlock.toList := fun x hx hm => by have := hbl x (by simpa using hm); omega
      have hgq := GQ.out
      replace HN3 := Lib.hid (show S7 wq w1.heap.size mf.c a3 mf.q.length k3 mf.busy a4 mf.rest.length k4 mf.acc mf.w mf.r from hgq.keep HN3.out (hnU _ hz2))
      replace HZS := Lib.hid (show S7 wq (w.heap.size + 2) 0 none 0 0 false none 0 0 0 0 0 from hgq.keep HZS.out (hnU _ (by omega)))
      have HPO := Lib.hid (And.intro hbl (And.intro hgq hnU))
      clear hbl hgq hnU hzo HO GQ HOW
      have HFA := Lib.hid fun (w' : World) (f : S7 w' w1.heap.size mf.c a3 mf.q.length k3 mf.busy a4 mf.rest.length k4 mf.acc mf.w mf.r) => (show w'.cell? ⟨w1.heap.size, 0, none⟩ = some (.int .i64 mf.c) ∧ w'.cell? ⟨w1.heap.size, 1, none⟩ = some (.slice a3 mf.q.length k3) ∧ w'.cell? ⟨w1.heap.size, 2, none⟩ = some (.bool mf.busy) ∧ w'.cell? ⟨w1.heap.size, 3, none⟩ = some (.slice a4 mf.rest.length k4) ∧ w'.cell? ⟨w1.heap.size, 4, none⟩ = some (.int .i64 mf.acc) ∧ w'.cell? ⟨w1.heap.size, 5, none⟩ = some (.int .i64 mf.w) ∧ w'.cell? ⟨w1.heap.size, 6, none⟩ = some (.int .i64 mf.r) from (let q := S7.cells f; ⟨q.1, q.2.1, q.2.2.1, q.2.2.2.1, q.2.2.2.2.1, q.2.2.2.2.2.1, q.2.2.2.2.2.2.1⟩))
      go_wp2_with fail
      have fd : Fr [] wq wq.drew := (Fr.refl _ _).drew
      replace HZS := Lib.hid (show S7 wq.drew (w.heap.size + 2) 0 none 0 0 false none 0 0 0 0 0 from fd.keep HZS.out (by simp))
      refine wp_region_order [(0, true), (1, true), (2, true), (3, true), (4, false), (5, true)] (fun w' => S7 w' w1.heap.size mf.c a3 mf.q.length k3 mf.busy a4 mf.rest.length k4 mf.acc mf.w mf.r) (by kernel_rfl) (by kernel_rfl) (fd.keep HN3.out (by simp)) ?_
      intro OPS HOPS
      have hops := HOPS.out
      try simp only [List.append_eq, List.cons_append, List.nil_append] at hops
      replace HOPS := Lib.hid hops
      clear hops
      refine walkO_take (o := _) (v := ?_) (by rw [HOPS.out]; simp only [List.getElem?_toArray, List.getElem?_cons_succ, List.getElem?_cons_zero]; exact rfl) (Or.inl ⟨rfl, ?_⟩) ?_
      rotate_left
      · (intro w hSw; have hSx := HFA.out _ hSw; (try dsimp only at hSx); clear hSw; go_simp) <;> (with_reducible rfl)
      simp only [Act.put, List.setIfInBounds_toArray, List.set_cons_zero, List.set_cons_succ]
      refine walkO_take (o := _) (v := ?_) (by rw [HOPS.out]; simp only [List.getElem?_toArray, List.getElem?_cons_succ, List.getElem?_cons_zero]; exact rfl) (Or.inl ⟨rfl, ?_⟩) ?_
      rotate_left
      · (intro w hSw; have hSx := HFA.out _ hSw; (try dsimp only at hSx); clear hSw; go_simp) <;> (with_reducible rfl)
      simp only [Act.put, List.setIfInBounds_toArray, List.set_cons_zero, List.set_cons_succ]
      refine walkO_take (o := _) (v := ?_) (by rw [HOPS.out]; simp only [List.getElem?_toArray, List.getElem?_cons_succ, List.getElem?_cons_zero]; exact rfl) (Or.inl ⟨rfl, ?_⟩) ?_
      rotate_left
      · (intro w hSw; have hSx := HFA.out _ hSw; (try dsimp only at hSx); clear hSw; go_simp) <;> (with_reducible rfl)
      simp only [Act.put, List.setIfInBounds_toArray, List.set_cons_zero, List.set_cons_succ]
      refine walkO_take (o := _) (v := ?_) (by rw [HOPS.out]; simp only [List.getElem?_toArray, List.getElem?_cons_succ, List.getElem?_cons_zero]; exact rfl) (Or.inl ⟨rfl, ?_⟩) ?_
      rotate_left
      · (intro w hSw; have hSx := HFA.out _ hSw; (try dsimp only at hSx); clear hSw; go_simp) <;> (with_reducible rfl)
      simp only [Act.put, List.setIfInBounds_toArray, List.set_cons_zero, List.set_cons_succ]
      refine walkO_call (o := _) (by rw [HOPS.out]; simp only [List.getElem?_toArray, List.getElem?_cons_succ, List.getElem?_cons_zero]; exact rfl) (fun K HK => ?_)
      refine step_store7 rfl 41 (.tmp 7) (.tmp 153) rfl (w.heap.size + 2) #[.int .i64 mf.c, .slice a3 mf.q.length k3, .bool mf.busy, .slice a4 mf.rest.length k4, .int .i64 mf.acc, .int .i64 mf.w, .int .i64 mf.r] (by simp [Act.eval]) (by simp [Act.eval]) _ _ HZS.out (by kernel_rfl) rfl (by simp [Value.oneCell']) ?_
      intro wf ff qf
      obtain ⟨y0, y1, y2, y3, y4, y5, y6, _, _, _, _, _, _, _⟩ := S7.cells qf
      refine HK.out (fun w' => S7 w' w1.heap.size mf.c a3 mf.q.length k3 mf.busy a4 mf.rest.length k4 mf.acc mf.w mf.r) _ _ (fun _ h => h) (ff.keep (fd.keep HN3.out (by simp)) (by intro hm; simp at hm; omega)) ?_
      clear HK K
      try simp only [Act.put, List.setIfInBounds_toArray, List.set_cons_zero, List.set_cons_succ]
      refine walkO_take (o := _) (v := ?_) (by rw [HOPS.out]; simp only [List.getElem?_toArray, List.getElem?_cons_succ, List.getElem?_cons_zero]; exact rfl) (Or.inl ⟨rfl, ?_⟩) ?_
      rotate_left
      · (intro w hSw; have hSx := HFA.out _ hSw; (try dsimp only at hSx); clear hSw; go_simp) <;> (with_reducible rfl)
      simp only [Act.put, List.setIfInBounds_toArray, List.set_cons_zero, List.set_cons_succ]
      refine walkO_done ?_
      clear HOPS OPS
      go_wp2_with fail
      refine bodyPost_ret (v := .tuple #[.pointer (some ⟨b, 0, none⟩), .agg #[.int .i64 mf.c, .slice a3 mf.q.length k3, .bool mf.busy, .slice a4 mf.rest.length k4, .int .i64 mf.acc, .int .i64 mf.w, .int .i64 mf.r], .bool true]) (by simp [results, Try.results38, go_sem, y0, y1, y2, y3, y4, y5, y6]) rfl ?_
      obtain ⟨hS, f3, hF', h3⟩ := HS3.out
      obtain ⟨hbl, hgq, hnU⟩ := HPO.out
      have f3q : Fr (S ++ (Value.slice ua O.length uc).ownBlock.toList) w2 wq.drew := (f3.trans hgq (U := S ++ (Value.slice ua O.length uc).ownBlock.toList) (fun x hx => .inl (List.mem_append_left _ hx)) (fun x hx => .inl (List.mem_append_right _ hx))).then0 fd
      exact step_post2 (w0 := w0) (z := w0.heap.size) HF.out HF02.out (by omega) (by omega) (fun x hx => by rcases List.mem_append.1 hx with h | h; exact .inl (hS x h); exact .inr (hbl x (by simpa using h)).1) f3q (fun x hx => (hF' x hx).1.imp id .inr) ((h3.keep hgq (fun x hx hF => (hF' x hF).2 (by simpa using hx))).keep0 fd) ff ((HP3.out.there).mono (fun x hx => ⟨hx.1.1, hx.2⟩)) ((HP4.out.there).mono (fun x hx => ⟨hx.1.1, hx.2⟩)) HFl.out HD.out HNW.out
set_option maxHeartbeats 16000000 in
theorem step_any {w : World} {F N : Nat → Prop} {b : Nat} {m : SM} {v : Value} {pa : Option Addr} {pc : Nat} {ps : Parts} {n what : Int} (hs : SF w F b m) (h : Sv w N v m) (hd : ∀ x, F x → ¬ N x) (HNZ : ∀ x, N x → x < w.heap.size) (q0 : (what == 0) = false) (q1 : (what == 1) = false) (q2 : (what == 2) = false) (q3 : (what == 3) = false) (q4 : (what == 4) = false) (q5 : (what == 5) = false) :
    Calls Try.prog 38 #[.pointer (some ⟨b, 0, none⟩), v, .agg #[.int .i64 what, .slice pa ps.length pc, .int .i64 n]] w (Step14 w F N m) := by
  have HNW := Lib.hid HNZ
  clear HNZ
  have hFl := hs.lt
  obtain ⟨u1, u2, rfl, hq, hr⟩ := h
  obtain ⟨a1, k1, rfl, _⟩ := id hq
  obtain ⟨a2, k2, rfl, _⟩ := id hr
  have HQ := Lib.hid (And.intro hq hr)
  clear hq hr
  obtain ⟨w0, hw0, f0, q0, qa, z0⟩ : ∃ W, ((w.alloc (.cells #[.int .i64 m.c, .slice a1 m.q.length k1, .bool m.busy, .slice a2 m.rest.length k2, .int .i64 m.acc, .int .i64 m.w, .int .i64 m.r] 41)).alloc (.cells #[.int .i64 what, .slice pa ps.length pc, .int .i64 n] 55)).alloc (.cells #[.int .i64 0, .slice none 0 0, .bool false, .slice none 0 0, .int .i64 0, .int .i64 0, .int .i64 0] 41) = W ∧ Fr [] w W ∧ S7 W w.heap.size m.c a1 m.q.length k1 m.busy a2 m.rest.length k2 m.acc m.w m.r ∧ W.heap[w.heap.size + 1]? = some (.cells #[.int .i64 what, .slice pa ps.length pc, .int .i64 n] 55 (0, 0)) ∧ S7 W (w.heap.size + 2) 0 none 0 0 false none 0 0 0 0 0 := ⟨_, rfl, (((Fr.refl _ _).alloc _).alloc _).alloc _, keepA (keepA (newA rfl)), keepA (newA (by simp)), newA (by simp)⟩
  obtain ⟨x0, x1, x2, x3, x4, x5, x6, p0, p1, p2, p3, p4, p5, p6⟩ := q0.cells
  have e0 : w0.cell? ⟨w.heap.size + 1, 0, none⟩ = some (.int .i64 what) := cell_of qa
  have e1 : w0.cell? ⟨w.heap.size + 1, 1, none⟩ = some (.slice pa ps.length pc) := cell_of qa
  have e2 : w0.cell? ⟨w.heap.size + 1, 2, none⟩ = some (.int .i64 n) := cell_of qa
  have hz0 : w.heap.size + 2 < w0.heap.size := lt_of_heap z0
  have HZ := Lib.hid z0
  have HF := Lib.hid f0
  have HQA := Lib.hid qa
  clear q0 z0 f0 qa
  have hBx : S7 w0 w.heap.size m.c a1 m.q.length k1 m.busy a2 m.rest.length k2 m.acc m.w m.r := by rw [← hw0]; exact keepA (keepA (newA rfl))
  have HB := Lib.hid hBx
  clear hBx
  obtain ⟨N0, L, h1, hN0, hL0, hb0, _⟩ := hs
  have HOLD := Lib.hid (h1.keep0 HF.out)
  have HNL := Lib.hid h1.apart
  have HCP := Lib.hid (st_copy HOLD.out)
  have HFl := Lib.hid hFl
  have HD := Lib.hid hd
  have HNN := Lib.hid (And.intro hN0 (And.intro hL0 hb0))
  clear hFl hd h1 hN0 hL0
  go_enter Try.func38, Try.ntmps38
  go_wp2_with fail
  refine HCP.out.mono ?_
  rintro e w1 ⟨y, L', rfl, f1, hy, hL', hc1⟩
  have H1 := Lib.hid (And.intro hL' (And.intro hc1 f1))
  have HCN := Lib.hid (st_cancel (HOLD.out.keep0 f1))
  clear hL' hc1 f1
  clear x0 x1 x2 x3 x4 x5 x6 p0 p1 p2 p3 p4 p5 p6 e0 e1 e2
  go_wp2_with fail
  refine HCN.out.mono ?_
  rintro e w2 ⟨rfl, f2, hc2⟩
  have H2 := Lib.hid f2
  have HRD := Lib.hid (st_read hc2 1)
  generalize (cancelM m).m = mc at *
  generalize (cancelM m).n = mcn at *
  generalize (cancelM m).err = mce at *
  clear f2 hc2
  go_wp2_with fail
  refine HRD.out.mono ?_
  rintro e w3 ⟨u, rfl, f3, _, N3, _, hc3⟩
  have H3 := Lib.hid f3
  have HCW := Lib.hid (st_closew hc3 13)
  generalize (readM mc 1).m = mr at *
  generalize (readM mc 1).err = mre at *
  generalize (readM mc 1).out = mro at *
  clear f3 hc3
  go_wp2_with fail
  refine HCW.out.mono ?_
  rintro e w4 ⟨rfl, f4, _⟩
  generalize (closewM mr 13).err = mwe at *
  have f04 : Fr (b :: L) w0 w4 := (((H1.out.2.2.trans H2.out (U := b :: L) (by simp) (fun x hx => .inl (by simp at hx; simp [hx]))).trans H3.out (fun x hx => .inl hx) (fun x hx => .inl hx))).trans f4 (fun x hx => .inl hx) (fun x hx => .inl hx)
  have f14 : Fr (b :: L) w1 w4 := ((H2.out.trans H3.out (U := b :: L) (fun x hx => .inl (by simp at hx; simp [hx])) (fun x hx => .inl hx))).trans f4 (fun x hx => .inl hx) (fun x hx => .inl hx)
  have hbL : ∀ x ∈ b :: L, F x := fun x hx => by rcases List.mem_cons.1 hx with rfl | h; exact hb0; exact HNN.out.2.1 x h
  have hnb : ∀ x, w.heap.size ≤ x → x ∉ b :: L := fun x h1 hm => by have := HFl.out x (hbL x hm); omega
  have hc4 := H1.out.2.1.keep f14 (hnb _ (by omega)) (fun x hx => hnb _ (by have := H1.out.1 x hx; omega)) (fun x hx hn => by rcases List.mem_cons.1 hx with rfl | h; exact HNL.out.1 hn.1; exact HNL.out.2 x h hn.1)
  have HC4 := Lib.hid (SF.of hc4)
  have HB4 := Lib.hid (show S7 w4 w.heap.size m.c a1 m.q.length k1 m.busy a2 m.rest.length k2 m.acc m.w m.r from f04.keep HB.out (hnb _ (Nat.le_refl _)))
  have HZS := Lib.hid (show S7 w4 (w.heap.size + 2) 0 none 0 0 false none 0 0 0 0 0 from f04.keep HZ.out (hnb _ (by omega)))
  have H04 := Lib.hid (And.intro f04 hbL)
  clear f04 f14 f4 hc4 hbL hnb
  have HFA := Lib.hid fun (w' : World) (f : S7 w' w.heap.size m.c a1 m.q.length k1 m.busy a2 m.rest.length k2 m.acc m.w m.r) => (show w'.cell? ⟨w.heap.size, 0, none⟩ = some (.int .i64 m.c) ∧ w'.cell? ⟨w.heap.size, 1, none⟩ = some (.slice a1 m.q.length k1) ∧ w'.cell? ⟨w.heap.size, 2, none⟩ = some (.bool m.busy) ∧ w'.cell? ⟨w.heap.size, 3, none⟩ = some (.slice a2 m.rest.length k2) ∧ w'.cell? ⟨w.heap.size, 4, none⟩ = some (.int .i64 m.acc) ∧ w'.cell? ⟨w.heap.size, 5, none⟩ = some (.int .i64 m.w) ∧ w'.cell? ⟨w.heap.size, 6, none⟩ = some (.int .i64 m.r) from (let q := S7.cells f; ⟨q.1, q.2.1, q.2.2.1, q.2.2.2.1, q.2.2.2.2.1, q.2.2.2.2.2.1, q.2.2.2.2.2.2.1⟩))
  go_wp2_with fail
  have fd : Fr [] w4 w4.drew := (Fr.refl _ _).drew
  replace HZS := Lib.hid (show S7 w4.drew (w.heap.size + 2) 0 none 0 0 false none 0 0 0 0 0 from fd.keep HZS.out (by simp))
  refine wp_region_order [(0, true), (1, true), (2, true), (3, true), (4, true), (5, false), (6, true)] (fun w' => S7 w' w.heap.size m.c a1 m.q.length k1 m.busy a2 m.rest.length k2 m.acc m.w m.r) (by kernel_rfl) (by kernel_rfl) (fd.keep HB4.out (by simp)) ?_
  intro OPS HOPS
  have hops := HOPS.out
  try simp only [List.append_eq, List.cons_append, List.nil_append] at hops
  replace HOPS := Lib.hid hops
  clear hops
  refine walkO_take (o := _) (v := ?_) (by rw [HOPS.out]; simp only [List.getElem?_toArray, List.getElem?_cons_succ, List.getElem?_cons_zero]; exact rfl) (Or.inl ⟨rfl, ?_⟩) ?_
  rotate_left
  · (intro w hSw; have hSx := HFA.out _ hSw; (try dsimp only at hSx); clear hSw; go_simp) <;> (with_reducible rfl)
  simp only [Act.put, List.setIfInBounds_toArray, List.set_cons_zero, List.set_cons_succ]
  refine walkO_take (o := _) (v := ?_) (by rw [HOPS.out]; simp only [List.getElem?_toArray, List.getElem?_cons_succ, List.getElem?_cons_zero]; exact rfl) (Or.inl ⟨rfl, ?_⟩) ?_
  rotate_left
  · (intro w hSw; have hSx := HFA.out _ hSw; (try dsimp only at hSx); clear hSw; go_simp) <;> (with_reducible rfl)
  simp only [Act.put, List.setIfInBounds_toArray, List.set_cons_zero, List.set_cons_succ]
  refine walkO_take (o := _) (v := ?_) (by rw [HOPS.out]; simp only [List.getElem?_toArray, List.getElem?_cons_succ, List.getElem?_cons_zero]; exact rfl) (Or.inl ⟨rfl, ?_⟩) ?_
  rotate_left
  · (intro w hSw; have hSx := HFA.out _ hSw; (try dsimp only at hSx); clear hSw; go_simp) <;> (with_reducible rfl)
  simp only [Act.put, List.setIfInBounds_toArray, List.set_cons_zero, List.set_cons_succ]
  refine walkO_take (o := _) (v := ?_) (by rw [HOPS.out]; simp only [List.getElem?_toArray, List.getElem?_cons_succ, List.getElem?_cons_zero]; exact rfl) (Or.inl ⟨rfl, ?_⟩) ?_
  rotate_left
  · (intro w hSw; have hSx := HFA.out _ hSw; (try dsimp only at hSx); clear hSw; go_simp) <;> (with_reducible rfl)
  simp only [Act.put, List.setIfInBounds_toArray, List.set_cons_zero, List.set_cons_succ]
  refine walkO_take (o := _) (v := ?_) (by rw [HOPS.out]; simp only [List.getElem?_toArray, List.getElem?_cons_succ, List.getElem?_cons_zero]; exact rfl) (Or.inl ⟨rfl, ?_⟩) ?_
  rotate_left
  · (intro w hSw; have hSx := HFA.out _ hSw; (try dsimp only at hSx); clear hSw; go_simp) <;> (with_reducible rfl)
  simp only [Act.put, List.setIfInBounds_toArray, List.set_cons_zero, List.set_cons_succ]
  refine walkO_call (o := _) (by rw [HOPS.out]; simp only [List.getElem?_toArray, List.getElem?_cons_succ, List.getElem?_cons_zero]; exact rfl) (fun K HK => ?_)
  refine step_store7 rfl 41 (.tmp 7) (.tmp 198) rfl (w.heap.size + 2) #[.int .i64 m.c, .slice a1 m.q.length k1, .bool m.busy, .slice a2 m.rest.length k2, .int .i64 m.acc, .int .i64 m.w, .int .i64 m.r] (by simp [Act.eval]) (by simp [Act.eval]) _ _ HZS.out (by kernel_rfl) rfl (by simp [Value.oneCell']) ?_
  intro wf ff qf
  obtain ⟨y0, y1, y2, y3, y4, y5, y6, _, _, _, _, _, _, _⟩ := S7.cells qf
  refine HK.out (fun w' => S7 w' w.heap.size m.c a1 m.q.length k1 m.busy a2 m.rest.length k2 m.acc m.w m.r) _ _ (fun _ h => h) (ff.keep (fd.keep HB4.out (by simp)) (by intro hm; simp at hm)) ?_
  clear HK K
  try simp only [Act.put, List.setIfInBounds_toArray, List.set_cons_zero, List.set_cons_succ]
  refine walkO_take (o := _) (v := ?_) (by rw [HOPS.out]; simp only [List.getElem?_toArray, List.getElem?_cons_succ, List.getElem?_cons_zero]; exact rfl) (Or.inl ⟨rfl, ?_⟩) ?_
  rotate_left
  · (intro w hSw; have hSx := HFA.out _ hSw; (try dsimp only at hSx); clear hSw; go_simp) <;> (with_reducible rfl)
  simp only [Act.put, List.setIfInBounds_toArray, List.set_cons_zero, List.set_cons_succ]
  refine walkO_done ?_
  clear HOPS OPS
  go_wp2_with fail
  refine bodyPost_ret (v := .tuple #[.pointer (some ⟨y, 0, none⟩), .agg #[.int .i64 m.c, .slice a1 m.q.length k1, .bool m.busy, .slice a2 m.rest.length k2, .int .i64 m.acc, .int .i64 m.w, .int .i64 m.r], .bool true]) (by simp [results, Try.results38, go_sem, y0, y1, y2, y3, y4, y5, y6]) rfl ?_
  exact step_post (w2 := w0) HF.out (fun x hx => .inl (H04.out.2 x hx)) (H04.out.1.then0 fd) (fun x hx => by rcases hx with rfl | hx | hx; exact .inr hy; exact .inr (H1.out.1 x hx); exact .inl (HNN.out.1 x hx.1.1)) (HC4.out.keep0 fd) ff (HQ.out.1.keep HF.out (by simp)) (HQ.out.2.keep HF.out (by simp)) HFl.out HD.out (by omega) HNW.out

end Go.Proofs.Ytdoamelhclnphaa
