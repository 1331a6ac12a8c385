/-
  Law 15: step: Finish, Cancel, CloseWrite, CloseRead, Close.
-/
import Derived.Test.YtdoamelhclnphaaGs
import Derived.Test.YtdoamelhclnphaaUn15
import Derived.Test.YtdoamelhclnphaaLaw15
import Derived.Test.YtdoamelhclnphaaRegT
namespace Go.Proofs.Ytdoamelhclnphaa
open Go.RowKit
set_option maxRecDepth 100000

/-- What a step leaves. -/
def Step15 (w : World) (F N : Nat → Prop) (s' : DM) (e : Ending) (w' : World) : Prop :=
  ∃ d' v', e = .returned (.tuple #[.pointer (some ⟨d', 0, none⟩), v', .bool true]) ∧ (∃ S, (∀ x ∈ S, F x ∨ w.heap.size ≤ x) ∧ Fr S w w') ∧ ∃ F' N' : Nat → Prop, Dx w' F' d' s' ∧ Cv w' N' v' s' ∧ (∀ x, F' x → F x ∨ w.heap.size ≤ x) ∧ (∀ x, N' x → N x ∨ w.heap.size ≤ x) ∧ ∀ x, F' x → ¬ N' x
theorem step_post15 {w w0 w2 w3 wf : World} {F F' N : Nat → Prop} {S : List Nat} {d z : Nat} {mf : DM} {v : Value} (f0 : Fr [] w w0) (f2 : Fr [] w0 w2) (hz : w.heap.size + 2 < z) (hz0 : z ≤ w0.heap.size) (hS : ∀ x ∈ S, F x ∨ w2.heap.size ≤ x) (f3 : Fr S w2 w3)
    (hF' : ∀ x, F' x → F x ∨ (z ≤ x ∧ x < w0.heap.size) ∨ w2.heap.size ≤ x) (h3 : Dx w3 F' d mf) (fx : Fr [(w.heap.size + 2)] w3 wf)
    (hc : Cv w2 (fun x => (N x ∨ w0.heap.size ≤ x) ∧ x < w2.heap.size) v mf) (hFl : ∀ x, F x → x < w.heap.size) (hd : ∀ x, F x → ¬ N x) (hNz : ∀ x, N x → x < w.heap.size) :
    Step15 w F N mf (.returned (.tuple #[.pointer (some ⟨d, 0, none⟩), v, .bool true])) wf := by
  have hs2 := f2.size
  have k1 : ∀ x ∈ S, ¬ ((N x ∨ w0.heap.size ≤ x) ∧ x < w2.heap.size) := fun x hx hn => by
    rcases hS x hx with h | h
    · rcases hn.1 with hn | hn
      · exact hd x h hn
      · have := hFl x h; omega
    · omega
  have k2 : ∀ x ∈ [(w.heap.size + 2)], ¬ ((N x ∨ w0.heap.size ≤ x) ∧ x < w2.heap.size) := fun x hx hn => by
    simp at hx
    rcases hn.1 with hn | hn
    · have := hNz x hn; omega
    · omega
  refine ⟨_, _, rfl, ⟨(w.heap.size + 2) :: S, fun x hx => ?_, ?_⟩, F', _, h3.keep fx (fun x hx hF => ?_), (hc.keep f3 k1).keep fx k2, fun x hx => ?_, fun x hx => ?_, fun x hx hn => ?_⟩
  · rcases List.mem_cons.1 hx with rfl | hx
    · exact .inr (by omega)
    · rcases hS x hx with h | h
      · exact .inl h
      · exact .inr (by omega)
  · exact (((f0.then0 f2).trans f3 (U := (w.heap.size + 2) :: S) (by simp) (fun x hx => .inl (List.mem_cons_of_mem _ hx))).trans fx (fun x hx => .inl hx) (fun x hx => .inl (by simp at hx; simp [hx])))
  · simp at hx
    rcases hF' x hF with h | h | h
    · have := hFl x h; omega
    · omega
    · omega
  · rcases hF' x hx with h | h | h
    · exact .inl h
    · exact .inr (by omega)
    · exact .inr (by omega)
  · rcases hx.1 with h | h
    · exact .inl h
    · exact .inr (by omega)
  · rcases hF' x hx with h | h | h
    · rcases hn.1 with hn | hn
      · exact hd x h hn
      · have := hFl x h; omega
    · rcases hn.1 with hn | hn
      · have := hNz x hn; omega
      · omega
    · omega

set_option maxHeartbeats 16000000 in
theorem step15_finish {w : World} {F N : Nat → Prop} {d : Nat} {s : DM} {v : Value} {pa : Option Addr} {pc : Nat} {ps : Parts} {n en : Int} (hs : Dx w F d s) (h : Cv w N v s) (hd : ∀ x, F x → ¬ N x) (HNZ : ∀ x, N x → x < w.heap.size) :
    Calls Try.prog 63 #[.pointer (some ⟨d, 0, none⟩), v, .agg #[.int .i64 1, .int .i64 en, .slice pa ps.length pc, .int .i64 n]] w (Step15 w F N (finishU en s).1) := by
  have HNW := Lib.hid HNZ
  clear HNZ
  have hFl := hs.lt
  replace h := h.there
  obtain ⟨u0, u1, u2, u3, rfl, p0, p1, p2, p3⟩ := h
  obtain ⟨a0, k0, rfl, _⟩ := id p0
  obtain ⟨a1, k1, rfl, _⟩ := id p1
  obtain ⟨a2, k2, rfl, _⟩ := id p2
  obtain ⟨a3, k3, rfl, _⟩ := id p3
  obtain ⟨w0, hw0, f0, qv, qa, qz⟩ : ∃ W, ((w.alloc (.cells #[.int .i64 s.m0.c, .slice a0 s.m0.q.length k0, .bool s.m0.busy, .slice a1 s.m0.rest.length k1, .int .i64 s.m0.acc, .int .i64 s.m0.w, .int .i64 s.m0.r, .int .i64 s.m1.c, .slice a2 s.m1.q.length k2, .bool s.m1.busy, .slice a3 s.m1.rest.length k3, .int .i64 s.m1.acc, .int .i64 s.m1.w, .int .i64 s.m1.r, .bool s.x0, .bool s.x1] 44)).alloc (.cells #[.int .i64 1, .int .i64 en, .slice pa ps.length pc, .int .i64 n] 94)).alloc (.cells #[.int .i64 0, .slice none 0 0, .bool false, .slice none 0 0, .int .i64 0, .int .i64 0, .int .i64 0, .int .i64 0, .slice none 0 0, .bool false, .slice none 0 0, .int .i64 0, .int .i64 0, .int .i64 0, .bool false, .bool false] 44) = W ∧ Fr [] w W ∧ W.heap[w.heap.size]? = some (.cells #[.int .i64 s.m0.c, .slice a0 s.m0.q.length k0, .bool s.m0.busy, .slice a1 s.m0.rest.length k1, .int .i64 s.m0.acc, .int .i64 s.m0.w, .int .i64 s.m0.r, .int .i64 s.m1.c, .slice a2 s.m1.q.length k2, .bool s.m1.busy, .slice a3 s.m1.rest.length k3, .int .i64 s.m1.acc, .int .i64 s.m1.w, .int .i64 s.m1.r, .bool s.x0, .bool s.x1] 44 (0, 0)) ∧ W.heap[w.heap.size + 1]? = some (.cells #[.int .i64 1, .int .i64 en, .slice pa ps.length pc, .int .i64 n] 94 (0, 0)) ∧ W.heap[(w.heap.size + 2)]? = some (.cells #[.int .i64 0, .slice none 0 0, .bool false, .slice none 0 0, .int .i64 0, .int .i64 0, .int .i64 0, .int .i64 0, .slice none 0 0, .bool false, .slice none 0 0, .int .i64 0, .int .i64 0, .int .i64 0, .bool false, .bool false] 44 (0, 0)) := ⟨_, rfl, (((Fr.refl _ _).alloc _).alloc _).alloc _, keepA (keepA (newA rfl)), keepA (newA (by simp)), newA (by simp)⟩
  have x0 : w0.cell? ⟨w.heap.size, 0, none⟩ = some (.int .i64 s.m0.c) := cell_of (qv)
  have x1 : w0.cell? ⟨w.heap.size, 1, none⟩ = some (.slice a0 s.m0.q.length k0) := cell_of (qv)
  have x2 : w0.cell? ⟨w.heap.size, 2, none⟩ = some (.bool s.m0.busy) := cell_of (qv)
  have x3 : w0.cell? ⟨w.heap.size, 3, none⟩ = some (.slice a1 s.m0.rest.length k1) := cell_of (qv)
  have x4 : w0.cell? ⟨w.heap.size, 4, none⟩ = some (.int .i64 s.m0.acc) := cell_of (qv)
  have x5 : w0.cell? ⟨w.heap.size, 5, none⟩ = some (.int .i64 s.m0.w) := cell_of (qv)
  have x6 : w0.cell? ⟨w.heap.size, 6, none⟩ = some (.int .i64 s.m0.r) := cell_of (qv)
  have x7 : w0.cell? ⟨w.heap.size, 7, none⟩ = some (.int .i64 s.m1.c) := cell_of (qv)
  have x8 : w0.cell? ⟨w.heap.size, 8, none⟩ = some (.slice a2 s.m1.q.length k2) := cell_of (qv)
  have x9 : w0.cell? ⟨w.heap.size, 9, none⟩ = some (.bool s.m1.busy) := cell_of (qv)
  have x10 : w0.cell? ⟨w.heap.size, 10, none⟩ = some (.slice a3 s.m1.rest.length k3) := cell_of (qv)
  have x11 : w0.cell? ⟨w.heap.size, 11, none⟩ = some (.int .i64 s.m1.acc) := cell_of (qv)
  have x12 : w0.cell? ⟨w.heap.size, 12, none⟩ = some (.int .i64 s.m1.w) := cell_of (qv)
  have x13 : w0.cell? ⟨w.heap.size, 13, none⟩ = some (.int .i64 s.m1.r) := cell_of (qv)
  have x14 : w0.cell? ⟨w.heap.size, 14, none⟩ = some (.bool s.x0) := cell_of (qv)
  have x15 : w0.cell? ⟨w.heap.size, 15, none⟩ = some (.bool s.x1) := cell_of (qv)
  have e0 : w0.cell? ⟨w.heap.size + 1, 0, none⟩ = some (.int .i64 1) := cell_of qa
  have e1 : w0.cell? ⟨w.heap.size + 1, 1, none⟩ = some (.int .i64 en) := cell_of qa
  have e2 : w0.cell? ⟨w.heap.size + 1, 2, none⟩ = some (.slice pa ps.length pc) := cell_of qa
  have e3 : w0.cell? ⟨w.heap.size + 1, 3, none⟩ = some (.int .i64 n) := cell_of qa
  have hz0 : w.heap.size + 2 < w0.heap.size := lt_of_heap qz
  have HZ := Lib.hid qz
  have HF := Lib.hid f0
  have HQA := Lib.hid qa
  have HP := Lib.hid (And.intro (And.intro p0 p1) (And.intro p2 p3))
  have HC := Lib.hid (r15_finish_any (w := w0) (N := (fun x => N x ∧ x < w.heap.size)) (v := .agg #[.int .i64 s.m0.c, .slice a0 s.m0.q.length k0, .bool s.m0.busy, .slice a1 s.m0.rest.length k1, .int .i64 s.m0.acc, .int .i64 s.m0.w, .int .i64 s.m0.r, .int .i64 s.m1.c, .slice a2 s.m1.q.length k2, .bool s.m1.busy, .slice a3 s.m1.rest.length k3, .int .i64 s.m1.acc, .int .i64 s.m1.w, .int .i64 s.m1.r, .bool s.x0, .bool s.x1]) (s := s) ⟨_, _, _, _, rfl, p0.keep f0 (by simp), p1.keep f0 (by simp), p2.keep f0 (by simp), p3.keep f0 (by simp)⟩ en)
  have HS := Lib.hid fun w' (f : Fr [] w w') => dx_finish_any (hs.keep0 f) en
  generalize hU : (finishU en s) = U at *
  obtain ⟨mf, nn, ee⟩ := U
  dsimp only at HC HS
  have HFl := Lib.hid hFl
  have HD := Lib.hid hd
  have HU := Lib.hid hU
  clear hFl hd hs hU p0 p1 p2 p3 f0 qv qa qz
  go_enter Try.func63, Try.ntmps63
  go_wp2_with fail
  refine HC.out.mono ?_
  rintro e w1 ⟨v', rfl, f1, hc⟩
  obtain ⟨q0, q1, q2, q3, rfl, c0, c1, c2, c3⟩ := hc
  obtain ⟨b0, j0, rfl, _⟩ := id c0
  obtain ⟨b1, j1, rfl, _⟩ := id c1
  obtain ⟨b2, j2, rfl, _⟩ := id c2
  obtain ⟨b3, j3, rfl, _⟩ := id c3
  obtain ⟨wz, hwz, fz, qz⟩ : ∃ W, w1.alloc (.cells #[.int .i64 0, .slice none 0 0, .bool false, .slice none 0 0, .int .i64 0, .int .i64 0, .int .i64 0, .int .i64 0, .slice none 0 0, .bool false, .slice none 0 0, .int .i64 0, .int .i64 0, .int .i64 0, .bool false, .bool false] 44) = W ∧ Fr [] w1 W ∧ W.heap[w1.heap.size]? = some (.cells #[.int .i64 0, .slice none 0 0, .bool false, .slice none 0 0, .int .i64 0, .int .i64 0, .int .i64 0, .int .i64 0, .slice none 0 0, .bool false, .slice none 0 0, .int .i64 0, .int .i64 0, .int .i64 0, .bool false, .bool false] 44 (0, 0)) := ⟨_, rfl, (Fr.refl _ _).alloc _, newA rfl⟩
  have HQZ := Lib.hid qz
  have HFZ := Lib.hid fz
  have z1 := f1.size
  have hzz := lt_of_heap qz
  have HF1 := Lib.hid f1
  have HN1 := Lib.hid (And.intro (And.intro c0 c1) (And.intro c2 c3))
  clear x0 x1 x2 x3 x4 x5 x6 x7 x8 x9 x10 x11 x12 x13 x14 x15 qz fz f1 c0 c1 c2 c3 HC e0 e1 e2 e3
  go_wp2_with (refine wpl_store rfl 44 _ _ rfl w1.heap.size #[.int .i64 mf.m0.c, .slice b0 mf.m0.q.length j0, .bool mf.m0.busy, .slice b1 mf.m0.rest.length j1, .int .i64 mf.m0.acc, .int .i64 mf.m0.w, .int .i64 mf.m0.r, .int .i64 mf.m1.c, .slice b2 mf.m1.q.length j2, .bool mf.m1.busy, .slice b3 mf.m1.rest.length j3, .int .i64 mf.m1.acc, .int .i64 mf.m1.w, .int .i64 mf.m1.r, .bool mf.x0, .bool mf.x1] (by rfl) (by rfl) _ _ HQZ.out (by kernel_rfl) rfl (by simp [Value.oneCell']) ?_)
  intro w2 f2 q2
  clear hwz
  have f12 : Fr [] w1 w2 := HFZ.out.trans f2 (by simp) (fun x hx => .inr (by simp at hx; omega))
  have z2 := f12.size
  have hz2 : w1.heap.size < w2.heap.size := lt_of_heap q2
  have HF02 := Lib.hid (HF1.out.then0 f12)
  have HF2 := Lib.hid (HF.out.then0 (HF1.out.then0 f12))
  have HCV := Lib.hid ((show Cv w1 (fun x => (fun x => N x ∧ x < w.heap.size) x ∨ w0.heap.size ≤ x) (.agg #[.int .i64 mf.m0.c, .slice b0 mf.m0.q.length j0, .bool mf.m0.busy, .slice b1 mf.m0.rest.length j1, .int .i64 mf.m0.acc, .int .i64 mf.m0.w, .int .i64 mf.m0.r, .int .i64 mf.m1.c, .slice b2 mf.m1.q.length j2, .bool mf.m1.busy, .slice b3 mf.m1.rest.length j3, .int .i64 mf.m1.acc, .int .i64 mf.m1.w, .int .i64 mf.m1.r, .bool mf.x0, .bool mf.x1]) mf from ⟨_, _, _, _, rfl, HN1.out.1.1, HN1.out.1.2, HN1.out.2.1, HN1.out.2.2⟩).there.keep f12 (by simp)).there
  have HN2 := Lib.hid q2
  have HZ2 := Lib.hid (show w2.heap[(w.heap.size + 2)]? = some (.cells #[.int .i64 0, .slice none 0 0, .bool false, .slice none 0 0, .int .i64 0, .int .i64 0, .int .i64 0, .int .i64 0, .slice none 0 0, .bool false, .slice none 0 0, .int .i64 0, .int .i64 0, .int .i64 0, .bool false, .bool false] 44 (0, 0)) from f12.keep (HF1.out.keep HZ.out (by simp)) (by simp))
  have HA2 := Lib.hid (f12.keep (HF1.out.keep HQA.out (by simp)) (by simp))
  clear HQZ HFZ HN1 HF1 f2 f12
  have e0 : w2.cell? ⟨w.heap.size + 1, 0, none⟩ = some (.int .i64 1) := cell_of (HA2.out)
  have e1 : w2.cell? ⟨w.heap.size + 1, 1, none⟩ = some (.int .i64 en) := cell_of (HA2.out)
  have e2 : w2.cell? ⟨w.heap.size + 1, 2, none⟩ = some (.slice pa ps.length pc) := cell_of (HA2.out)
  have e3 : w2.cell? ⟨w.heap.size + 1, 3, none⟩ = some (.int .i64 n) := cell_of (HA2.out)
  go_wp2_with fail
  refine (HS.out w2 HF2.out).mono ?_
  rintro e w3 ⟨rfl, ⟨S, hS, f3⟩, F', hF', h3⟩
  have hnS : ∀ x, w.heap.size ≤ x → x < w2.heap.size → x ∉ S := fun x h1 h2 hm => by rcases hS x hm with h | h; have := HFl.out x h; omega; omega
  have HN3 := Lib.hid (show w3.heap[w1.heap.size]? = some (.cells #[.int .i64 mf.m0.c, .slice b0 mf.m0.q.length j0, .bool mf.m0.busy, .slice b1 mf.m0.rest.length j1, .int .i64 mf.m0.acc, .int .i64 mf.m0.w, .int .i64 mf.m0.r, .int .i64 mf.m1.c, .slice b2 mf.m1.q.length j2, .bool mf.m1.busy, .slice b3 mf.m1.rest.length j3, .int .i64 mf.m1.acc, .int .i64 mf.m1.w, .int .i64 mf.m1.r, .bool mf.x0, .bool mf.x1] 44 (0, 0)) from f3.keep HN2.out (hnS _ (by omega) hz2))
  have HZS := Lib.hid (show w3.heap[(w.heap.size + 2)]? = some (.cells #[.int .i64 0, .slice none 0 0, .bool false, .slice none 0 0, .int .i64 0, .int .i64 0, .int .i64 0, .int .i64 0, .slice none 0 0, .bool false, .slice none 0 0, .int .i64 0, .int .i64 0, .int .i64 0, .bool false, .bool false] 44 (0, 0)) from f3.keep HZ2.out (hnS _ (by omega) (by omega)))
  have HS3 := Lib.hid (And.intro hS (And.intro f3 (And.intro hF' h3)))
  have hz3 := f3.size
  clear hS f3 hF' h3 hnS HS e0 e1 e2 e3
  have HFA := Lib.hid fun (w' : World) (f : w'.heap[w1.heap.size]? = some (.cells #[.int .i64 mf.m0.c, .slice b0 mf.m0.q.length j0, .bool mf.m0.busy, .slice b1 mf.m0.rest.length j1, .int .i64 mf.m0.acc, .int .i64 mf.m0.w, .int .i64 mf.m0.r, .int .i64 mf.m1.c, .slice b2 mf.m1.q.length j2, .bool mf.m1.busy, .slice b3 mf.m1.rest.length j3, .int .i64 mf.m1.acc, .int .i64 mf.m1.w, .int .i64 mf.m1.r, .bool mf.x0, .bool mf.x1] 44 (0, 0))) => (show w'.cell? ⟨w1.heap.size, 0, none⟩ = some (.int .i64 mf.m0.c) ∧ w'.cell? ⟨w1.heap.size, 1, none⟩ = some (.slice b0 mf.m0.q.length j0) ∧ w'.cell? ⟨w1.heap.size, 2, none⟩ = some (.bool mf.m0.busy) ∧ w'.cell? ⟨w1.heap.size, 3, none⟩ = some (.slice b1 mf.m0.rest.length j1) ∧ w'.cell? ⟨w1.heap.size, 4, none⟩ = some (.int .i64 mf.m0.acc) ∧ w'.cell? ⟨w1.heap.size, 5, none⟩ = some (.int .i64 mf.m0.w) ∧ w'.cell? ⟨w1.heap.size, 6, none⟩ = some (.int .i64 mf.m0.r) ∧ w'.cell? ⟨w1.heap.size, 7, none⟩ = some (.int .i64 mf.m1.c) ∧ w'.cell? ⟨w1.heap.size, 8, none⟩ = some (.slice b2 mf.m1.q.length j2) ∧ w'.cell? ⟨w1.heap.size, 9, none⟩ = some (.bool mf.m1.busy) ∧ w'.cell? ⟨w1.heap.size, 10, none⟩ = some (.slice b3 mf.m1.rest.length j3) ∧ w'.cell? ⟨w1.heap.size, 11, none⟩ = some (.int .i64 mf.m1.acc) ∧ w'.cell? ⟨w1.heap.size, 12, none⟩ = some (.int .i64 mf.m1.w) ∧ w'.cell? ⟨w1.heap.size, 13, none⟩ = some (.int .i64 mf.m1.r) ∧ w'.cell? ⟨w1.heap.size, 14, none⟩ = some (.bool mf.x0) ∧ w'.cell? ⟨w1.heap.size, 15, none⟩ = some (.bool mf.x1) from ⟨cell_of f, cell_of f, cell_of f, cell_of f, cell_of f, cell_of f, cell_of f, cell_of f, cell_of f, cell_of f, cell_of f, cell_of f, cell_of f, cell_of f, cell_of f, cell_of f⟩)
  go_wp2_with fail
  have fd : Fr [] w3 w3.drew := (Fr.refl _ _).drew
  replace HZS := Lib.hid (show w3.drew.heap[(w.heap.size + 2)]? = some (.cells #[.int .i64 0, .slice none 0 0, .bool false, .slice none 0 0, .int .i64 0, .int .i64 0, .int .i64 0, .int .i64 0, .slice none 0 0, .bool false, .slice none 0 0, .int .i64 0, .int .i64 0, .int .i64 0, .bool false, .bool false] 44 (0, 0)) from fd.keep HZS.out (by simp))
  refine wp_region_order [(0, true), (1, true), (2, true), (3, true), (4, true), (5, true), (6, true), (7, true), (8, true), (9, true), (10, true), (11, false), (12, true)] (fun w' => w'.heap[w1.heap.size]? = some (.cells #[.int .i64 mf.m0.c, .slice b0 mf.m0.q.length j0, .bool mf.m0.busy, .slice b1 mf.m0.rest.length j1, .int .i64 mf.m0.acc, .int .i64 mf.m0.w, .int .i64 mf.m0.r, .int .i64 mf.m1.c, .slice b2 mf.m1.q.length j2, .bool mf.m1.busy, .slice b3 mf.m1.rest.length j3, .int .i64 mf.m1.acc, .int .i64 mf.m1.w, .int .i64 mf.m1.r, .bool mf.x0, .bool mf.x1] 44 (0, 0))) (by kernel_rfl) (by kernel_rfl) (fd.keep HN3.out (by simp)) ?_
  intro OPS HOPS
  have hops := HOPS.out
  try simp only [List.append_eq, List.cons_append, List.nil_append] at hops
  replace HOPS := Lib.hid hops
  clear hops
  refine walkO_take (o := _) (v := ?_) (by rw [HOPS.out]; simp only [gA, gB, gC]; exact rfl) (Or.inl ⟨rfl, ?_⟩) ?_
  rotate_left
  · (intro w hSw; have hSx := HFA.out _ hSw; (try dsimp only at hSx); clear hSw; go_simp) <;> (with_reducible rfl)
  simp only [Act.put, gD, gE, gF]
  refine walkO_take (o := _) (v := ?_) (by rw [HOPS.out]; simp only [gA, gB, gC]; exact rfl) (Or.inl ⟨rfl, ?_⟩) ?_
  rotate_left
  · (intro w hSw; have hSx := HFA.out _ hSw; (try dsimp only at hSx); clear hSw; go_simp) <;> (with_reducible rfl)
  simp only [Act.put, gD, gE, gF]
  refine walkO_take (o := _) (v := ?_) (by rw [HOPS.out]; simp only [gA, gB, gC]; exact rfl) (Or.inl ⟨rfl, ?_⟩) ?_
  rotate_left
  · (intro w hSw; have hSx := HFA.out _ hSw; (try dsimp only at hSx); clear hSw; go_simp) <;> (with_reducible rfl)
  simp only [Act.put, gD, gE, gF]
  refine walkO_take (o := _) (v := ?_) (by rw [HOPS.out]; simp only [gA, gB, gC]; exact rfl) (Or.inl ⟨rfl, ?_⟩) ?_
  rotate_left
  · (intro w hSw; have hSx := HFA.out _ hSw; (try dsimp only at hSx); clear hSw; go_simp) <;> (with_reducible rfl)
  simp only [Act.put, gD, gE, gF]
  refine walkO_take (o := _) (v := ?_) (by rw [HOPS.out]; simp only [gA, gB, gC]; exact rfl) (Or.inl ⟨rfl, ?_⟩) ?_
  rotate_left
  · (intro w hSw; have hSx := HFA.out _ hSw; (try dsimp only at hSx); clear hSw; go_simp) <;> (with_reducible rfl)
  simp only [Act.put, gD, gE, gF]
  refine walkO_take (o := _) (v := ?_) (by rw [HOPS.out]; simp only [gA, gB, gC]; exact rfl) (Or.inl ⟨rfl, ?_⟩) ?_
  rotate_left
  · (intro w hSw; have hSx := HFA.out _ hSw; (try dsimp only at hSx); clear hSw; go_simp) <;> (with_reducible rfl)
  simp only [Act.put, gD, gE, gF]
  refine walkO_take (o := _) (v := ?_) (by rw [HOPS.out]; simp only [gA, gB, gC]; exact rfl) (Or.inl ⟨by rw [HOPS.out]; rfl, ?_⟩) ?_
  rotate_left
  · (intro w hSw; have hSx := HFA.out _ hSw; (try dsimp only at hSx); clear hSw; go_simp) <;> (with_reducible rfl)
  simp only [Act.put, gD, gE, gF]
  refine walkO_take (o := _) (v := ?_) (by rw [HOPS.out]; simp only [gA, gB, gC]; exact rfl) (Or.inl ⟨by rw [HOPS.out]; rfl, ?_⟩) ?_
  rotate_left
  · (intro w hSw; have hSx := HFA.out _ hSw; (try dsimp only at hSx); clear hSw; go_simp) <;> (with_reducible rfl)
  simp only [Act.put, gD, gE, gF]
  refine walkO_take (o := _) (v := ?_) (by rw [HOPS.out]; simp only [gA, gB, gC]; exact rfl) (Or.inl ⟨by rw [HOPS.out]; rfl, ?_⟩) ?_
  rotate_left
  · (intro w hSw; have hSx := HFA.out _ hSw; (try dsimp only at hSx); clear hSw; go_simp) <;> (with_reducible rfl)
  simp only [Act.put, gD, gE, gF]
  refine walkO_take (o := _) (v := ?_) (by rw [HOPS.out]; simp only [gA, gB, gC]; exact rfl) (Or.inl ⟨rfl, ?_⟩) ?_
  rotate_left
  · (intro w hSw; have hSx := HFA.out _ hSw; (try dsimp only at hSx); clear hSw; go_simp) <;> (with_reducible rfl)
  simp only [Act.put, gD, gE, gF]
  refine walkO_take (o := _) (v := ?_) (by rw [HOPS.out]; simp only [gA, gB, gC]; exact rfl) (Or.inl ⟨rfl, ?_⟩) ?_
  rotate_left
  · (intro w hSw; have hSx := HFA.out _ hSw; (try dsimp only at hSx); clear hSw; go_simp) <;> (with_reducible rfl)
  simp only [Act.put, gD, gE, gF]
  refine walkO_call (o := _) (by rw [HOPS.out]; simp only [gA, gB, gC]; exact rfl) (fun K HK => ?_)
  refine step_store7 rfl 44 (.tmp 7) (.tmp 87) rfl (w.heap.size + 2) #[.int .i64 mf.m0.c, .slice b0 mf.m0.q.length j0, .bool mf.m0.busy, .slice b1 mf.m0.rest.length j1, .int .i64 mf.m0.acc, .int .i64 mf.m0.w, .int .i64 mf.m0.r, .int .i64 mf.m1.c, .slice b2 mf.m1.q.length j2, .bool mf.m1.busy, .slice b3 mf.m1.rest.length j3, .int .i64 mf.m1.acc, .int .i64 mf.m1.w, .int .i64 mf.m1.r, .bool mf.x0, .bool mf.x1] (by simp [Act.eval]) (by simp [Act.eval]) _ _ HZS.out (by kernel_rfl) rfl (by simp [Value.oneCell']) ?_
  intro wf ff qf
  refine HK.out (fun w' => w'.heap[w1.heap.size]? = some (.cells #[.int .i64 mf.m0.c, .slice b0 mf.m0.q.length j0, .bool mf.m0.busy, .slice b1 mf.m0.rest.length j1, .int .i64 mf.m0.acc, .int .i64 mf.m0.w, .int .i64 mf.m0.r, .int .i64 mf.m1.c, .slice b2 mf.m1.q.length j2, .bool mf.m1.busy, .slice b3 mf.m1.rest.length j3, .int .i64 mf.m1.acc, .int .i64 mf.m1.w, .int .i64 mf.m1.r, .bool mf.x0, .bool mf.x1] 44 (0, 0))) _ _ (fun _ h => h) (ff.keep (fd.keep HN3.out (by simp)) (by intro hm; simp at hm; omega)) ?_
  clear HK K
  try simp only [Act.put, gD, gE, gF]
  refine walkO_take (o := _) (v := ?_) (by rw [HOPS.out]; simp only [gA, gB, gC]; exact rfl) (Or.inl ⟨rfl, ?_⟩) ?_
  rotate_left
  · (intro w hSw; have hSx := HFA.out _ hSw; (try dsimp only at hSx); clear hSw; go_simp) <;> (with_reducible rfl)
  simp only [Act.put, gD, gE, gF]
  refine walkO_done ?_
  clear HOPS OPS
  go_wp2_with fail
  have y0 : wf.cell? ⟨(w.heap.size + 2), 0, none⟩ = some (.int .i64 mf.m0.c) := cell_of (qf)
  have y1 : wf.cell? ⟨(w.heap.size + 2), 1, none⟩ = some (.slice b0 mf.m0.q.length j0) := cell_of (qf)
  have y2 : wf.cell? ⟨(w.heap.size + 2), 2, none⟩ = some (.bool mf.m0.busy) := cell_of (qf)
  have y3 : wf.cell? ⟨(w.heap.size + 2), 3, none⟩ = some (.slice b1 mf.m0.rest.length j1) := cell_of (qf)
  have y4 : wf.cell? ⟨(w.heap.size + 2), 4, none⟩ = some (.int .i64 mf.m0.acc) := cell_of (qf)
  have y5 : wf.cell? ⟨(w.heap.size + 2), 5, none⟩ = some (.int .i64 mf.m0.w) := cell_of (qf)
  have y6 : wf.cell? ⟨(w.heap.size + 2), 6, none⟩ = some (.int .i64 mf.m0.r) := cell_of (qf)
  have y7 : wf.cell? ⟨(w.heap.size + 2), 7, none⟩ = some (.int .i64 mf.m1.c) := cell_of (qf)
  have y8 : wf.cell? ⟨(w.heap.size + 2), 8, none⟩ = some (.slice b2 mf.m1.q.length j2) := cell_of (qf)
  have y9 : wf.cell? ⟨(w.heap.size + 2), 9, none⟩ = some (.bool mf.m1.busy) := cell_of (qf)
  have y10 : wf.cell? ⟨(w.heap.size + 2), 10, none⟩ = some (.slice b3 mf.m1.rest.length j3) := cell_of (qf)
  have y11 : wf.cell? ⟨(w.heap.size + 2), 11, none⟩ = some (.int .i64 mf.m1.acc) := cell_of (qf)
  have y12 : wf.cell? ⟨(w.heap.size + 2), 12, none⟩ = some (.int .i64 mf.m1.w) := cell_of (qf)
  have y13 : wf.cell? ⟨(w.heap.size + 2), 13, none⟩ = some (.int .i64 mf.m1.r) := cell_of (qf)
  have y14 : wf.cell? ⟨(w.heap.size + 2), 14, none⟩ = some (.bool mf.x0) := cell_of (qf)
  have y15 : wf.cell? ⟨(w.heap.size + 2), 15, none⟩ = some (.bool mf.x1) := cell_of (qf)
  refine bodyPost_ret (v := .tuple #[.pointer (some ⟨d, 0, none⟩), .agg #[.int .i64 mf.m0.c, .slice b0 mf.m0.q.length j0, .bool mf.m0.busy, .slice b1 mf.m0.rest.length j1, .int .i64 mf.m0.acc, .int .i64 mf.m0.w, .int .i64 mf.m0.r, .int .i64 mf.m1.c, .slice b2 mf.m1.q.length j2, .bool mf.m1.busy, .slice b3 mf.m1.rest.length j3, .int .i64 mf.m1.acc, .int .i64 mf.m1.w, .int .i64 mf.m1.r, .bool mf.x0, .bool mf.x1], .bool true]) (by simp [results, Try.results63, go_sem, y0, y1, y2, y3, y4, y5, y6, y7, y8, y9, y10, y11, y12, y13, y14, y15]) rfl ?_
  have fx : Fr [(w.heap.size + 2)] w3 wf := Fr.trans (U := [(w.heap.size + 2)]) (S := []) fd ff (by simp) (fun x hx => .inl hx)
  exact step_post15 (w0 := w0) (z := w0.heap.size) HF.out HF02.out (by omega) (Nat.le_refl _) HS3.out.1 HS3.out.2.1 (fun x hx => by rcases HS3.out.2.2.1 x hx with h | h | h; exact .inl h; exact h.elim; exact .inr (.inr h)) HS3.out.2.2.2 fx (HCV.out.mono (fun x hx => ⟨hx.1.1.imp (fun h => h.1) id, hx.2⟩)) HFl.out HD.out HNW.out
set_option maxHeartbeats 16000000 in
theorem step15_cancel {w : World} {F N : Nat → Prop} {d : Nat} {s : DM} {v : Value} {pa : Option Addr} {pc : Nat} {ps : Parts} {n en : Int} (hs : Dx w F d s) (h : Cv w N v s) (hd : ∀ x, F x → ¬ N x) (HNZ : ∀ x, N x → x < w.heap.size) :
    Calls Try.prog 63 #[.pointer (some ⟨d, 0, none⟩), v, .agg #[.int .i64 2, .int .i64 en, .slice pa ps.length pc, .int .i64 n]] w (Step15 w F N (cancelU en s).1) := by
  have HNW := Lib.hid HNZ
  clear HNZ
  have hFl := hs.lt
  replace h := h.there
  obtain ⟨u0, u1, u2, u3, rfl, p0, p1, p2, p3⟩ := h
  obtain ⟨a0, k0, rfl, _⟩ := id p0
  obtain ⟨a1, k1, rfl, _⟩ := id p1
  obtain ⟨a2, k2, rfl, _⟩ := id p2
  obtain ⟨a3, k3, rfl, _⟩ := id p3
  obtain ⟨w0, hw0, f0, qv, qa, qz⟩ : ∃ W, ((w.alloc (.cells #[.int .i64 s.m0.c, .slice a0 s.m0.q.length k0, .bool s.m0.busy, .slice a1 s.m0.rest.length k1, .int .i64 s.m0.acc, .int .i64 s.m0.w, .int .i64 s.m0.r, .int .i64 s.m1.c, .slice a2 s.m1.q.length k2, .bool s.m1.busy, .slice a3 s.m1.rest.length k3, .int .i64 s.m1.acc, .int .i64 s.m1.w, .int .i64 s.m1.r, .bool s.x0, .bool s.x1] 44)).alloc (.cells #[.int .i64 2, .int .i64 en, .slice pa ps.length pc, .int .i64 n] 94)).alloc (.cells #[.int .i64 0, .slice none 0 0, .bool false, .slice none 0 0, .int .i64 0, .int .i64 0, .int .i64 0, .int .i64 0, .slice none 0 0, .bool false, .slice none 0 0, .int .i64 0, .int .i64 0, .int .i64 0, .bool false, .bool false] 44) = W ∧ Fr [] w W ∧ W.heap[w.heap.size]? = some (.cells #[.int .i64 s.m0.c, .slice a0 s.m0.q.length k0, .bool s.m0.busy, .slice a1 s.m0.rest.length k1, .int .i64 s.m0.acc, .int .i64 s.m0.w, .int .i64 s.m0.r, .int .i64 s.m1.c, .slice a2 s.m1.q.length k2, .bool s.m1.busy, .slice a3 s.m1.rest.length k3, .int .i64 s.m1.acc, .int .i64 s.m1.w, .int .i64 s.m1.r, .bool s.x0, .bool s.x1] 44 (0, 0)) ∧ W.heap[w.heap.size + 1]? = some (.cells #[.int .i64 2, .int .i64 en, .slice pa ps.length pc, .int .i64 n] 94 (0, 0)) ∧ W.heap[(w.heap.size + 2)]? = some (.cells #[.int .i64 0, .slice none 0 0, .bool false, .slice none 0 0, .int .i64 0, .int .i64 0, .int .i64 0, .int .i64 0, .slice none 0 0, .bool false, .slice none 0 0, .int .i64 0, .int .i64 0, .int .i64 0, .bool false, .bool false] 44 (0, 0)) := ⟨_, rfl, (((Fr.refl _ _).alloc _).alloc _).alloc _, keepA (keepA (newA rfl)), keepA (newA (by simp)), newA (by simp)⟩
  have x0 : w0.cell? ⟨w.heap.size, 0, none⟩ = some (.int .i64 s.m0.c) := cell_of (qv)
  have x1 : w0.cell? ⟨w.heap.size, 1, none⟩ = some (.slice a0 s.m0.q.length k0) := cell_of (qv)
  have x2 : w0.cell? ⟨w.heap.size, 2, none⟩ = some (.bool s.m0.busy) := cell_of (qv)
  have x3 : w0.cell? ⟨w.heap.size, 3, none⟩ = some (.slice a1 s.m0.rest.length k1) := cell_of (qv)
  have x4 : w0.cell? ⟨w.heap.size, 4, none⟩ = some (.int .i64 s.m0.acc) := cell_of (qv)
  have x5 : w0.cell? ⟨w.heap.size, 5, none⟩ = some (.int .i64 s.m0.w) := cell_of (qv)
  have x6 : w0.cell? ⟨w.heap.size, 6, none⟩ = some (.int .i64 s.m0.r) := cell_of (qv)
  have x7 : w0.cell? ⟨w.heap.size, 7, none⟩ = some (.int .i64 s.m1.c) := cell_of (qv)
  have x8 : w0.cell? ⟨w.heap.size, 8, none⟩ = some (.slice a2 s.m1.q.length k2) := cell_of (qv)
  have x9 : w0.cell? ⟨w.heap.size, 9, none⟩ = some (.bool s.m1.busy) := cell_of (qv)
  have x10 : w0.cell? ⟨w.heap.size, 10, none⟩ = some (.slice a3 s.m1.rest.length k3) := cell_of (qv)
  have x11 : w0.cell? ⟨w.heap.size, 11, none⟩ = some (.int .i64 s.m1.acc) := cell_of (qv)
  have x12 : w0.cell? ⟨w.heap.size, 12, none⟩ = some (.int .i64 s.m1.w) := cell_of (qv)
  have x13 : w0.cell? ⟨w.heap.size, 13, none⟩ = some (.int .i64 s.m1.r) := cell_of (qv)
  have x14 : w0.cell? ⟨w.heap.size, 14, none⟩ = some (.bool s.x0) := cell_of (qv)
  have x15 : w0.cell? ⟨w.heap.size, 15, none⟩ = some (.bool s.x1) := cell_of (qv)
  have e0 : w0.cell? ⟨w.heap.size + 1, 0, none⟩ = some (.int .i64 2) := cell_of qa
  have e1 : w0.cell? ⟨w.heap.size + 1, 1, none⟩ = some (.int .i64 en) := cell_of qa
  have e2 : w0.cell? ⟨w.heap.size + 1, 2, none⟩ = some (.slice pa ps.length pc) := cell_of qa
  have e3 : w0.cell? ⟨w.heap.size + 1, 3, none⟩ = some (.int .i64 n) := cell_of qa
  have hz0 : w.heap.size + 2 < w0.heap.size := lt_of_heap qz
  have HZ := Lib.hid qz
  have HF := Lib.hid f0
  have HQA := Lib.hid qa
  have HP := Lib.hid (And.intro (And.intro p0 p1) (And.intro p2 p3))
  have HC := Lib.hid (r15_cancel_any (w := w0) (N := (fun x => N x ∧ x < w.heap.size)) (v := .agg #[.int .i64 s.m0.c, .slice a0 s.m0.q.length k0, .bool s.m0.busy, .slice a1 s.m0.rest.length k1, .int .i64 s.m0.acc, .int .i64 s.m0.w, .int .i64 s.m0.r, .int .i64 s.m1.c, .slice a2 s.m1.q.length k2, .bool s.m1.busy, .slice a3 s.m1.rest.length k3, .int .i64 s.m1.acc, .int .i64 s.m1.w, .int .i64 s.m1.r, .bool s.x0, .bool s.x1]) (s := s) ⟨_, _, _, _, rfl, p0.keep f0 (by simp), p1.keep f0 (by simp), p2.keep f0 (by simp), p3.keep f0 (by simp)⟩ en)
  have HS := Lib.hid fun w' (f : Fr [] w w') => dx_cancel_any (hs.keep0 f) en
  generalize hU : (cancelU en s) = U at *
  obtain ⟨mf, nn, ee⟩ := U
  dsimp only at HC HS
  have HFl := Lib.hid hFl
  have HD := Lib.hid hd
  have HU := Lib.hid hU
  clear hFl hd hs hU p0 p1 p2 p3 f0 qv qa qz
  go_enter Try.func63, Try.ntmps63
  go_wp2_with fail
  refine HC.out.mono ?_
  rintro e w1 ⟨v', rfl, f1, hc⟩
  obtain ⟨q0, q1, q2, q3, rfl, c0, c1, c2, c3⟩ := hc
  obtain ⟨b0, j0, rfl, _⟩ := id c0
  obtain ⟨b1, j1, rfl, _⟩ := id c1
  obtain ⟨b2, j2, rfl, _⟩ := id c2
  obtain ⟨b3, j3, rfl, _⟩ := id c3
  obtain ⟨wz, hwz, fz, qz⟩ : ∃ W, w1.alloc (.cells #[.int .i64 0, .slice none 0 0, .bool false, .slice none 0 0, .int .i64 0, .int .i64 0, .int .i64 0, .int .i64 0, .slice none 0 0, .bool false, .slice none 0 0, .int .i64 0, .int .i64 0, .int .i64 0, .bool false, .bool false] 44) = W ∧ Fr [] w1 W ∧ W.heap[w1.heap.size]? = some (.cells #[.int .i64 0, .slice none 0 0, .bool false, .slice none 0 0, .int .i64 0, .int .i64 0, .int .i64 0, .int .i64 0, .slice none 0 0, .bool false, .slice none 0 0, .int .i64 0, .int .i64 0, .int .i64 0, .bool false, .bool false] 44 (0, 0)) := ⟨_, rfl, (Fr.refl _ _).alloc _, newA rfl⟩
  have HQZ := Lib.hid qz
  have HFZ := Lib.hid fz
  have z1 := f1.size
  have hzz := lt_of_heap qz
  have HF1 := Lib.hid f1
  have HN1 := Lib.hid (And.intro (And.intro c0 c1) (And.intro c2 c3))
  clear x0 x1 x2 x3 x4 x5 x6 x7 x8 x9 x10 x11 x12 x13 x14 x15 qz fz f1 c0 c1 c2 c3 HC e0 e1 e2 e3
  go_wp2_with (refine wpl_store rfl 44 _ _ rfl w1.heap.size #[.int .i64 mf.m0.c, .slice b0 mf.m0.q.length j0, .bool mf.m0.busy, .slice b1 mf.m0.rest.length j1, .int .i64 mf.m0.acc, .int .i64 mf.m0.w, .int .i64 mf.m0.r, .int .i64 mf.m1.c, .slice b2 mf.m1.q.length j2, .bool mf.m1.busy, .slice b3 mf.m1.rest.length j3, .int .i64 mf.m1.acc, .int .i64 mf.m1.w, .int .i64 mf.m1.r, .bool mf.x0, .bool mf.x1] (by rfl) (by rfl) _ _ HQZ.out (by kernel_rfl) rfl (by simp [Value.oneCell']) ?_)
  intro w2 f2 q2
  clear hwz
  have f12 : Fr [] w1 w2 := HFZ.out.trans f2 (by simp) (fun x hx => .inr (by simp at hx; omega))
  have z2 := f12.size
  have hz2 : w1.heap.size < w2.heap.size := lt_of_heap q2
  have HF02 := Lib.hid (HF1.out.then0 f12)
  have HF2 := Lib.hid (HF.out.then0 (HF1.out.then0 f12))
  have HCV := Lib.hid ((show Cv w1 (fun x => (fun x => N x ∧ x < w.heap.size) x ∨ w0.heap.size ≤ x) (.agg #[.int .i64 mf.m0.c, .slice b0 mf.m0.q.length j0, .bool mf.m0.busy, .slice b1 mf.m0.rest.length j1, .int .i64 mf.m0.acc, .int .i64 mf.m0.w, .int .i64 mf.m0.r, .int .i64 mf.m1.c, .slice b2 mf.m1.q.length j2, .bool mf.m1.busy, .slice b3 mf.m1.rest.length j3, .int .i64 mf.m1.acc, .int .i64 mf.m1.w, .int .i64 mf.m1.r, .bool mf.x0, .bool mf.x1]) mf from ⟨_, _, _, _, rfl, HN1.out.1.1, HN1.out.1.2, HN1.out.2.1, HN1.out.2.2⟩).there.keep f12 (by simp)).there
  have HN2 := Lib.hid q2
  have HZ2 := Lib.hid (show w2.heap[(w.heap.size + 2)]? = some (.cells #[.int .i64 0, .slice none 0 0, .bool false, .slice none 0 0, .int .i64 0, .int .i64 0, .int .i64 0, .int .i64 0, .slice none 0 0, .bool false, .slice none 0 0, .int .i64 0, .int .i64 0, .int .i64 0, .bool false, .bool false] 44 (0, 0)) from f12.keep (HF1.out.keep HZ.out (by simp)) (by simp))
  have HA2 := Lib.hid (f12.keep (HF1.out.keep HQA.out (by simp)) (by simp))
  clear HQZ HFZ HN1 HF1 f2 f12
  have e0 : w2.cell? ⟨w.heap.size + 1, 0, none⟩ = some (.int .i64 2) := cell_of (HA2.out)
  have e1 : w2.cell? ⟨w.heap.size + 1, 1, none⟩ = some (.int .i64 en) := cell_of (HA2.out)
  have e2 : w2.cell? ⟨w.heap.size + 1, 2, none⟩ = some (.slice pa ps.length pc) := cell_of (HA2.out)
  have e3 : w2.cell? ⟨w.heap.size + 1, 3, none⟩ = some (.int .i64 n) := cell_of (HA2.out)
  go_wp2_with fail
  refine (HS.out w2 HF2.out).mono ?_
  rintro e w3 ⟨rfl, ⟨S, hS, f3⟩, F', hF', h3⟩
  have hnS : ∀ x, w.heap.size ≤ x → x < w2.heap.size → x ∉ S := fun x h1 h2 hm => by rcases hS x hm with h | h; have := HFl.out x h; omega; omega
  have HN3 := Lib.hid (show w3.heap[w1.heap.size]? = some (.cells #[.int .i64 mf.m0.c, .slice b0 mf.m0.q.length j0, .bool mf.m0.busy, .slice b1 mf.m0.rest.length j1, .int .i64 mf.m0.acc, .int .i64 mf.m0.w, .int .i64 mf.m0.r, .int .i64 mf.m1.c, .slice b2 mf.m1.q.length j2, .bool mf.m1.busy, .slice b3 mf.m1.rest.length j3, .int .i64 mf.m1.acc, .int .i64 mf.m1.w, .int .i64 mf.m1.r, .bool mf.x0, .bool mf.x1] 44 (0, 0)) from f3.keep HN2.out (hnS _ (by omega) hz2))
  have HZS := Lib.hid (show w3.heap[(w.heap.size + 2)]? = some (.cells #[.int .i64 0, .slice none 0 0, .bool false, .slice none 0 0, .int .i64 0, .int .i64 0, .int .i64 0, .int .i64 0, .slice none 0 0, .bool false, .slice none 0 0, .int .i64 0, .int .i64 0, .int .i64 0, .bool false, .bool false] 44 (0, 0)) from f3.keep HZ2.out (hnS _ (by omega) (by omega)))
  have HS3 := Lib.hid (And.intro hS (And.intro f3 (And.intro hF' h3)))
  have hz3 := f3.size
  clear hS f3 hF' h3 hnS HS e0 e1 e2 e3
  have HFA := Lib.hid fun (w' : World) (f : w'.heap[w1.heap.size]? = some (.cells #[.int .i64 mf.m0.c, .slice b0 mf.m0.q.length j0, .bool mf.m0.busy, .slice b1 mf.m0.rest.length j1, .int .i64 mf.m0.acc, .int .i64 mf.m0.w, .int .i64 mf.m0.r, .int .i64 mf.m1.c, .slice b2 mf.m1.q.length j2, .bool mf.m1.busy, .slice b3 mf.m1.rest.length j3, .int .i64 mf.m1.acc, .int .i64 mf.m1.w, .int .i64 mf.m1.r, .bool mf.x0, .bool mf.x1] 44 (0, 0))) => (show w'.cell? ⟨w1.heap.size, 0, none⟩ = some (.int .i64 mf.m0.c) ∧ w'.cell? ⟨w1.heap.size, 1, none⟩ = some (.slice b0 mf.m0.q.length j0) ∧ w'.cell? ⟨w1.heap.size, 2, none⟩ = some (.bool mf.m0.busy) ∧ w'.cell? ⟨w1.heap.size, 3, none⟩ = some (.slice b1 mf.m0.rest.length j1) ∧ w'.cell? ⟨w1.heap.size, 4, none⟩ = some (.int .i64 mf.m0.acc) ∧ w'.cell? ⟨w1.heap.size, 5, none⟩ = some (.int .i64 mf.m0.w) ∧ w'.cell? ⟨w1.heap.size, 6, none⟩ = some (.int .i64 mf.m0.r) ∧ w'.cell? ⟨w1.heap.size, 7, none⟩ = some (.int .i64 mf.m1.c) ∧ w'.cell? ⟨w1.heap.size, 8, none⟩ = some (.slice b2 mf.m1.q.length j2) ∧ w'.cell? ⟨w1.heap.size, 9, none⟩ = some (.bool mf.m1.busy) ∧ w'.cell? ⟨w1.heap.size, 10, none⟩ = some (.slice b3 mf.m1.rest.length j3) ∧ w'.cell? ⟨w1.heap.size, 11, none⟩ = some (.int .i64 mf.m1.acc) ∧ w'.cell? ⟨w1.heap.size, 12, none⟩ = some (.int .i64 mf.m1.w) ∧ w'.cell? ⟨w1.heap.size, 13, none⟩ = some (.int .i64 mf.m1.r) ∧ w'.cell? ⟨w1.heap.size, 14, none⟩ = some (.bool mf.x0) ∧ w'.cell? ⟨w1.heap.size, 15, none⟩ = some (.bool mf.x1) from ⟨cell_of f, cell_of f, cell_of f, cell_of f, cell_of f, cell_of f, cell_of f, cell_of f, cell_of f, cell_of f, cell_of f, cell_of f, cell_of f, cell_of f, cell_of f, cell_of f⟩)
  go_wp2_with fail
  have fd : Fr [] w3 w3.drew := (Fr.refl _ _).drew
  replace HZS := Lib.hid (show w3.drew.heap[(w.heap.size + 2)]? = some (.cells #[.int .i64 0, .slice none 0 0, .bool false, .slice none 0 0, .int .i64 0, .int .i64 0, .int .i64 0, .int .i64 0, .slice none 0 0, .bool false, .slice none 0 0, .int .i64 0, .int .i64 0, .int .i64 0, .bool false, .bool false] 44 (0, 0)) from fd.keep HZS.out (by simp))
  refine wp_region_order [(0, true), (1, true), (2, true), (3, true), (4, true), (5, true), (6, true), (7, true), (8, true), (9, true), (10, true), (11, false), (12, true)] (fun w' => w'.heap[w1.heap.size]? = some (.cells #[.int .i64 mf.m0.c, .slice b0 mf.m0.q.length j0, .bool mf.m0.busy, .slice b1 mf.m0.rest.length j1, .int .i64 mf.m0.acc, .int .i64 mf.m0.w, .int .i64 mf.m0.r, .int .i64 mf.m1.c, .slice b2 mf.m1.q.length j2, .bool mf.m1.busy, .slice b3 mf.m1.rest.length j3, .int .i64 mf.m1.acc, .int .i64 mf.m1.w, .int .i64 mf.m1.r, .bool mf.x0, .bool mf.x1] 44 (0, 0))) (by kernel_rfl) (by kernel_rfl) (fd.keep HN3.out (by simp)) ?_
  intro OPS HOPS
  have hops := HOPS.out
  try simp only [List.append_eq, List.cons_append, List.nil_append] at hops
  replace HOPS := Lib.hid hops
  clear hops
  refine walkO_take (o := _) (v := ?_) (by rw [HOPS.out]; simp only [gA, gB, gC]; exact rfl) (Or.inl ⟨rfl, ?_⟩) ?_
  rotate_left
  · (intro w hSw; have hSx := HFA.out _ hSw; (try dsimp only at hSx); clear hSw; go_simp) <;> (with_reducible rfl)
  simp only [Act.put, gD, gE, gF]
  refine walkO_take (o := _) (v := ?_) (by rw [HOPS.out]; simp only [gA, gB, gC]; exact rfl) (Or.inl ⟨rfl, ?_⟩) ?_
  rotate_left
  · (intro w hSw; have hSx := HFA.out _ hSw; (try dsimp only at hSx); clear hSw; go_simp) <;> (with_reducible rfl)
  simp only [Act.put, gD, gE, gF]
  refine walkO_take (o := _) (v := ?_) (by rw [HOPS.out]; simp only [gA, gB, gC]; exact rfl) (Or.inl ⟨rfl, ?_⟩) ?_
  rotate_left
  · (intro w hSw; have hSx := HFA.out _ hSw; (try dsimp only at hSx); clear hSw; go_simp) <;> (with_reducible rfl)
  simp only [Act.put, gD, gE, gF]
  refine walkO_take (o := _) (v := ?_) (by rw [HOPS.out]; simp only [gA, gB, gC]; exact rfl) (Or.inl ⟨rfl, ?_⟩) ?_
  rotate_left
  · (intro w hSw; have hSx := HFA.out _ hSw; (try dsimp only at hSx); clear hSw; go_simp) <;> (with_reducible rfl)
  simp only [Act.put, gD, gE, gF]
  refine walkO_take (o := _) (v := ?_) (by rw [HOPS.out]; simp only [gA, gB, gC]; exact rfl) (Or.inl ⟨rfl, ?_⟩) ?_
  rotate_left
  · (intro w hSw; have hSx := HFA.out _ hSw; (try dsimp only at hSx); clear hSw; go_simp) <;> (with_reducible rfl)
  simp only [Act.put, gD, gE, gF]
  refine walkO_take (o := _) (v := ?_) (by rw [HOPS.out]; simp only [gA, gB, gC]; exact rfl) (Or.inl ⟨rfl, ?_⟩) ?_
  rotate_left
  · (intro w hSw; have hSx := HFA.out _ hSw; (try dsimp only at hSx); clear hSw; go_simp) <;> (with_reducible rfl)
  simp only [Act.put, gD, gE, gF]
  refine walkO_take (o := _) (v := ?_) (by rw [HOPS.out]; simp only [gA, gB, gC]; exact rfl) (Or.inl ⟨by rw [HOPS.out]; rfl, ?_⟩) ?_
  rotate_left
  · (intro w hSw; have hSx := HFA.out _ hSw; (try dsimp only at hSx); clear hSw; go_simp) <;> (with_reducible rfl)
  simp only [Act.put, gD, gE, gF]
  refine walkO_take (o := _) (v := ?_) (by rw [HOPS.out]; simp only [gA, gB, gC]; exact rfl) (Or.inl ⟨by rw [HOPS.out]; rfl, ?_⟩) ?_
  rotate_left
  · (intro w hSw; have hSx := HFA.out _ hSw; (try dsimp only at hSx); clear hSw; go_simp) <;> (with_reducible rfl)
  simp only [Act.put, gD, gE, gF]
  refine walkO_take (o := _) (v := ?_) (by rw [HOPS.out]; simp only [gA, gB, gC]; exact rfl) (Or.inl ⟨by rw [HOPS.out]; rfl, ?_⟩) ?_
  rotate_left
  · (intro w hSw; have hSx := HFA.out _ hSw; (try dsimp only at hSx); clear hSw; go_simp) <;> (with_reducible rfl)
  simp only [Act.put, gD, gE, gF]
  refine walkO_take (o := _) (v := ?_) (by rw [HOPS.out]; simp only [gA, gB, gC]; exact rfl) (Or.inl ⟨rfl, ?_⟩) ?_
  rotate_left
  · (intro w hSw; have hSx := HFA.out _ hSw; (try dsimp only at hSx); clear hSw; go_simp) <;> (with_reducible rfl)
  simp only [Act.put, gD, gE, gF]
  refine walkO_take (o := _) (v := ?_) (by rw [HOPS.out]; simp only [gA, gB, gC]; exact rfl) (Or.inl ⟨rfl, ?_⟩) ?_
  rotate_left
  · (intro w hSw; have hSx := HFA.out _ hSw; (try dsimp only at hSx); clear hSw; go_simp) <;> (with_reducible rfl)
  simp only [Act.put, gD, gE, gF]
  refine walkO_call (o := _) (by rw [HOPS.out]; simp only [gA, gB, gC]; exact rfl) (fun K HK => ?_)
  refine step_store7 rfl 44 (.tmp 7) (.tmp 114) rfl (w.heap.size + 2) #[.int .i64 mf.m0.c, .slice b0 mf.m0.q.length j0, .bool mf.m0.busy, .slice b1 mf.m0.rest.length j1, .int .i64 mf.m0.acc, .int .i64 mf.m0.w, .int .i64 mf.m0.r, .int .i64 mf.m1.c, .slice b2 mf.m1.q.length j2, .bool mf.m1.busy, .slice b3 mf.m1.rest.length j3, .int .i64 mf.m1.acc, .int .i64 mf.m1.w, .int .i64 mf.m1.r, .bool mf.x0, .bool mf.x1] (by simp [Act.eval]) (by simp [Act.eval]) _ _ HZS.out (by kernel_rfl) rfl (by simp [Value.oneCell']) ?_
  intro wf ff qf
  refine HK.out (fun w' => w'.heap[w1.heap.size]? = some (.cells #[.int .i64 mf.m0.c, .slice b0 mf.m0.q.length j0, .bool mf.m0.busy, .slice b1 mf.m0.rest.length j1, .int .i64 mf.m0.acc, .int .i64 mf.m0.w, .int .i64 mf.m0.r, .int .i64 mf.m1.c, .slice b2 mf.m1.q.length j2, .bool mf.m1.busy, .slice b3 mf.m1.rest.length j3, .int .i64 mf.m1.acc, .int .i64 mf.m1.w, .int .i64 mf.m1.r, .bool mf.x0, .bool mf.x1] 44 (0, 0))) _ _ (fun _ h => h) (ff.keep (fd.keep HN3.out (by simp)) (by intro hm; simp at hm; omega)) ?_
  clear HK K
  try simp only [Act.put, gD, gE, gF]
  refine walkO_take (o := _) (v := ?_) (by rw [HOPS.out]; simp only [gA, gB, gC]; exact rfl) (Or.inl ⟨rfl, ?_⟩) ?_
  rotate_left
  · (intro w hSw; have hSx := HFA.out _ hSw; (try dsimp only at hSx); clear hSw; go_simp) <;> (with_reducible rfl)
  simp only [Act.put, gD, gE, gF]
  refine walkO_done ?_
  clear HOPS OPS
  go_wp2_with fail
  have y0 : wf.cell? ⟨(w.heap.size + 2), 0, none⟩ = some (.int .i64 mf.m0.c) := cell_of (qf)
  have y1 : wf.cell? ⟨(w.heap.size + 2), 1, none⟩ = some (.slice b0 mf.m0.q.length j0) := cell_of (qf)
  have y2 : wf.cell? ⟨(w.heap.size + 2), 2, none⟩ = some (.bool mf.m0.busy) := cell_of (qf)
  have y3 : wf.cell? ⟨(w.heap.size + 2), 3, none⟩ = some (.slice b1 mf.m0.rest.length j1) := cell_of (qf)
  have y4 : wf.cell? ⟨(w.heap.size + 2), 4, none⟩ = some (.int .i64 mf.m0.acc) := cell_of (qf)
  have y5 : wf.cell? ⟨(w.heap.size + 2), 5, none⟩ = some (.int .i64 mf.m0.w) := cell_of (qf)
  have y6 : wf.cell? ⟨(w.heap.size + 2), 6, none⟩ = some (.int .i64 mf.m0.r) := cell_of (qf)
  have y7 : wf.cell? ⟨(w.heap.size + 2), 7, none⟩ = some (.int .i64 mf.m1.c) := cell_of (qf)
  have y8 : wf.cell? ⟨(w.heap.size + 2), 8, none⟩ = some (.slice b2 mf.m1.q.length j2) := cell_of (qf)
  have y9 : wf.cell? ⟨(w.heap.size + 2), 9, none⟩ = some (.bool mf.m1.busy) := cell_of (qf)
  have y10 : wf.cell? ⟨(w.heap.size + 2), 10, none⟩ = some (.slice b3 mf.m1.rest.length j3) := cell_of (qf)
  have y11 : wf.cell? ⟨(w.heap.size + 2), 11, none⟩ = some (.int .i64 mf.m1.acc) := cell_of (qf)
  have y12 : wf.cell? ⟨(w.heap.size + 2), 12, none⟩ = some (.int .i64 mf.m1.w) := cell_of (qf)
  have y13 : wf.cell? ⟨(w.heap.size + 2), 13, none⟩ = some (.int .i64 mf.m1.r) := cell_of (qf)
  have y14 : wf.cell? ⟨(w.heap.size + 2), 14, none⟩ = some (.bool mf.x0) := cell_of (qf)
  have y15 : wf.cell? ⟨(w.heap.size + 2), 15, none⟩ = some (.bool mf.x1) := cell_of (qf)
  refine bodyPost_ret (v := .tuple #[.pointer (some ⟨d, 0, none⟩), .agg #[.int .i64 mf.m0.c, .slice b0 mf.m0.q.length j0, .bool mf.m0.busy, .slice b1 mf.m0.rest.length j1, .int .i64 mf.m0.acc, .int .i64 mf.m0.w, .int .i64 mf.m0.r, .int .i64 mf.m1.c, .slice b2 mf.m1.q.length j2, .bool mf.m1.busy, .slice b3 mf.m1.rest.length j3, .int .i64 mf.m1.acc, .int .i64 mf.m1.w, .int .i64 mf.m1.r, .bool mf.x0, .bool mf.x1], .bool true]) (by simp [results, Try.results63, go_sem, y0, y1, y2, y3, y4, y5, y6, y7, y8, y9, y10, y11, y12, y13, y14, y15]) rfl ?_
  have fx : Fr [(w.heap.size + 2)] w3 wf := Fr.trans (U := [(w.heap.size + 2)]) (S := []) fd ff (by simp) (fun x hx => .inl hx)
  exact step_post15 (w0 := w0) (z := w0.heap.size) HF.out HF02.out (by omega) (Nat.le_refl _) HS3.out.1 HS3.out.2.1 (fun x hx => by rcases HS3.out.2.2.1 x hx with h | h | h; exact .inl h; exact h.elim; exact .inr (.inr h)) HS3.out.2.2.2 fx (HCV.out.mono (fun x hx => ⟨hx.1.1.imp (fun h => h.1) id, hx.2⟩)) HFl.out HD.out HNW.out
set_option maxHeartbeats 16000000 in
theorem step15_closew {w : World} {F N : Nat → Prop} {d : Nat} {s : DM} {v : Value} {pa : Option Addr} {pc : Nat} {ps : Parts} {n en : Int} (hs : Dx w F d s) (h : Cv w N v s) (hd : ∀ x, F x → ¬ N x) (HNZ : ∀ x, N x → x < w.heap.size) :
    Calls Try.prog 63 #[.pointer (some ⟨d, 0, none⟩), v, .agg #[.int .i64 4, .int .i64 en, .slice pa ps.length pc, .int .i64 n]] w (Step15 w F N (closewU en s).1) := by
  have HNW := Lib.hid HNZ
  clear HNZ
  have hFl := hs.lt
  replace h := h.there
  obtain ⟨u0, u1, u2, u3, rfl, p0, p1, p2, p3⟩ := h
  obtain ⟨a0, k0, rfl, _⟩ := id p0
  obtain ⟨a1, k1, rfl, _⟩ := id p1
  obtain ⟨a2, k2, rfl, _⟩ := id p2
  obtain ⟨a3, k3, rfl, _⟩ := id p3
  obtain ⟨w0, hw0, f0, qv, qa, qz⟩ : ∃ W, ((w.alloc (.cells #[.int .i64 s.m0.c, .slice a0 s.m0.q.length k0, .bool s.m0.busy, .slice a1 s.m0.rest.length k1, .int .i64 s.m0.acc, .int .i64 s.m0.w, .int .i64 s.m0.r, .int .i64 s.m1.c, .slice a2 s.m1.q.length k2, .bool s.m1.busy, .slice a3 s.m1.rest.length k3, .int .i64 s.m1.acc, .int .i64 s.m1.w, .int .i64 s.m1.r, .bool s.x0, .bool s.x1] 44)).alloc (.cells #[.int .i64 4, .int .i64 en, .slice pa ps.length pc, .int .i64 n] 94)).alloc (.cells #[.int .i64 0, .slice none 0 0, .bool false, .slice none 0 0, .int .i64 0, .int .i64 0, .int .i64 0, .int .i64 0, .slice none 0 0, .bool false, .slice none 0 0, .int .i64 0, .int .i64 0, .int .i64 0, .bool false, .bool false] 44) = W ∧ Fr [] w W ∧ W.heap[w.heap.size]? = some (.cells #[.int .i64 s.m0.c, .slice a0 s.m0.q.length k0, .bool s.m0.busy, .slice a1 s.m0.rest.length k1, .int .i64 s.m0.acc, .int .i64 s.m0.w, .int .i64 s.m0.r, .int .i64 s.m1.c, .slice a2 s.m1.q.length k2, .bool s.m1.busy, .slice a3 s.m1.rest.length k3, .int .i64 s.m1.acc, .int .i64 s.m1.w, .int .i64 s.m1.r, .bool s.x0, .bool s.x1] 44 (0, 0)) ∧ W.heap[w.heap.size + 1]? = some (.cells #[.int .i64 4, .int .i64 en, .slice pa ps.length pc, .int .i64 n] 94 (0, 0)) ∧ W.heap[(w.heap.size + 2)]? = some (.cells #[.int .i64 0, .slice none 0 0, .bool false, .slice none 0 0, .int .i64 0, .int .i64 0, .int .i64 0, .int .i64 0, .slice none 0 0, .bool false, .slice none 0 0, .int .i64 0, .int .i64 0, .int .i64 0, .bool false, .bool false] 44 (0, 0)) := ⟨_, rfl, (((Fr.refl _ _).alloc _).alloc _).alloc _, keepA (keepA (newA rfl)), keepA (newA (by simp)), newA (by simp)⟩
  have x0 : w0.cell? ⟨w.heap.size, 0, none⟩ = some (.int .i64 s.m0.c) := cell_of (qv)
  have x1 : w0.cell? ⟨w.heap.size, 1, none⟩ = some (.slice a0 s.m0.q.length k0) := cell_of (qv)
  have x2 : w0.cell? ⟨w.heap.size, 2, none⟩ = some (.bool s.m0.busy) := cell_of (qv)
  have x3 : w0.cell? ⟨w.heap.size, 3, none⟩ = some (.slice a1 s.m0.rest.length k1) := cell_of (qv)
  have x4 : w0.cell? ⟨w.heap.size, 4, none⟩ = some (.int .i64 s.m0.acc) := cell_of (qv)
  have x5 : w0.cell? ⟨w.heap.size, 5, none⟩ = some (.int .i64 s.m0.w) := cell_of (qv)
  have x6 : w0.cell? ⟨w.heap.size, 6, none⟩ = some (.int .i64 s.m0.r) := cell_of (qv)
  have x7 : w0.cell? ⟨w.heap.size, 7, none⟩ = some (.int .i64 s.m1.c) := cell_of (qv)
  have x8 : w0.cell? ⟨w.heap.size, 8, none⟩ = some (.slice a2 s.m1.q.length k2) := cell_of (qv)
  have x9 : w0.cell? ⟨w.heap.size, 9, none⟩ = some (.bool s.m1.busy) := cell_of (qv)
  have x10 : w0.cell? ⟨w.heap.size, 10, none⟩ = some (.slice a3 s.m1.rest.length k3) := cell_of (qv)
  have x11 : w0.cell? ⟨w.heap.size, 11, none⟩ = some (.int .i64 s.m1.acc) := cell_of (qv)
  have x12 : w0.cell? ⟨w.heap.size, 12, none⟩ = some (.int .i64 s.m1.w) := cell_of (qv)
  have x13 : w0.cell? ⟨w.heap.size, 13, none⟩ = some (.int .i64 s.m1.r) := cell_of (qv)
  have x14 : w0.cell? ⟨w.heap.size, 14, none⟩ = some (.bool s.x0) := cell_of (qv)
  have x15 : w0.cell? ⟨w.heap.size, 15, none⟩ = some (.bool s.x1) := cell_of (qv)
  have e0 : w0.cell? ⟨w.heap.size + 1, 0, none⟩ = some (.int .i64 4) := cell_of qa
  have e1 : w0.cell? ⟨w.heap.size + 1, 1, none⟩ = some (.int .i64 en) := cell_of qa
  have e2 : w0.cell? ⟨w.heap.size + 1, 2, none⟩ = some (.slice pa ps.length pc) := cell_of qa
  have e3 : w0.cell? ⟨w.heap.size + 1, 3, none⟩ = some (.int .i64 n) := cell_of qa
  have hz0 : w.heap.size + 2 < w0.heap.size := lt_of_heap qz
  have HZ := Lib.hid qz
  have HF := Lib.hid f0
  have HQA := Lib.hid qa
  have HP := Lib.hid (And.intro (And.intro p0 p1) (And.intro p2 p3))
  have HC := Lib.hid (r15_closew_any (w := w0) (N := (fun x => N x ∧ x < w.heap.size)) (v := .agg #[.int .i64 s.m0.c, .slice a0 s.m0.q.length k0, .bool s.m0.busy, .slice a1 s.m0.rest.length k1, .int .i64 s.m0.acc, .int .i64 s.m0.w, .int .i64 s.m0.r, .int .i64 s.m1.c, .slice a2 s.m1.q.length k2, .bool s.m1.busy, .slice a3 s.m1.rest.length k3, .int .i64 s.m1.acc, .int .i64 s.m1.w, .int .i64 s.m1.r, .bool s.x0, .bool s.x1]) (s := s) ⟨_, _, _, _, rfl, p0.keep f0 (by simp), p1.keep f0 (by simp), p2.keep f0 (by simp), p3.keep f0 (by simp)⟩ en)
  have HS := Lib.hid fun w' (f : Fr [] w w') => dx_closew_any (hs.keep0 f) en
  generalize hU : (closewU en s) = U at *
  obtain ⟨mf, ee⟩ := U
  dsimp only at HC HS
  have HFl := Lib.hid hFl
  have HD := Lib.hid hd
  have HU := Lib.hid hU
  clear hFl hd hs hU p0 p1 p2 p3 f0 qv qa qz
  have HES := Lib.hid (Go.Proofs.enters_of Try.func19 (by kernel_rfl) rfl)
  go_enter Try.func63, Try.ntmps63
  go_wp2_with fail
  refine HC.out.mono ?_
  rintro e w1 ⟨v', rfl, f1, hc⟩
  obtain ⟨q0, q1, q2, q3, rfl, c0, c1, c2, c3⟩ := hc
  obtain ⟨b0, j0, rfl, _⟩ := id c0
  obtain ⟨b1, j1, rfl, _⟩ := id c1
  obtain ⟨b2, j2, rfl, _⟩ := id c2
  obtain ⟨b3, j3, rfl, _⟩ := id c3
  obtain ⟨wz, hwz, fz, qz⟩ : ∃ W, w1.alloc (.cells #[.int .i64 0, .slice none 0 0, .bool false, .slice none 0 0, .int .i64 0, .int .i64 0, .int .i64 0, .int .i64 0, .slice none 0 0, .bool false, .slice none 0 0, .int .i64 0, .int .i64 0, .int .i64 0, .bool false, .bool false] 44) = W ∧ Fr [] w1 W ∧ W.heap[w1.heap.size]? = some (.cells #[.int .i64 0, .slice none 0 0, .bool false, .slice none 0 0, .int .i64 0, .int .i64 0, .int .i64 0, .int .i64 0, .slice none 0 0, .bool false, .slice none 0 0, .int .i64 0, .int .i64 0, .int .i64 0, .bool false, .bool false] 44 (0, 0)) := ⟨_, rfl, (Fr.refl _ _).alloc _, newA rfl⟩
  have HQZ := Lib.hid qz
  have HFZ := Lib.hid fz
  have z1 := f1.size
  have hzz := lt_of_heap qz
  have HF1 := Lib.hid f1
  have HN1 := Lib.hid (And.intro (And.intro c0 c1) (And.intro c2 c3))
  clear x0 x1 x2 x3 x4 x5 x6 x7 x8 x9 x10 x11 x12 x13 x14 x15 qz fz f1 c0 c1 c2 c3 HC e0 e1 e2 e3
  go_wp2_with (refine wpl_store rfl 44 _ _ rfl w1.heap.size #[.int .i64 mf.m0.c, .slice b0 mf.m0.q.length j0, .bool mf.m0.busy, .slice b1 mf.m0.rest.length j1, .int .i64 mf.m0.acc, .int .i64 mf.m0.w, .int .i64 mf.m0.r, .int .i64 mf.m1.c, .slice b2 mf.m1.q.length j2, .bool mf.m1.busy, .slice b3 mf.m1.rest.length j3, .int .i64 mf.m1.acc, .int .i64 mf.m1.w, .int .i64 mf.m1.r, .bool mf.x0, .bool mf.x1] (by rfl) (by rfl) _ _ HQZ.out (by kernel_rfl) rfl (by simp [Value.oneCell']) ?_)
  intro w2 f2 q2
  clear hwz
  have f12 : Fr [] w1 w2 := HFZ.out.trans f2 (by simp) (fun x hx => .inr (by simp at hx; omega))
  have z2 := f12.size
  have hz2 : w1.heap.size < w2.heap.size := lt_of_heap q2
  have HF02 := Lib.hid (HF1.out.then0 f12)
  have HF2 := Lib.hid (HF.out.then0 (HF1.out.then0 f12))
  have HCV := Lib.hid ((show Cv w1 (fun x => (fun x => N x ∧ x < w.heap.size) x ∨ w0.heap.size ≤ x) (.agg #[.int .i64 mf.m0.c, .slice b0 mf.m0.q.length j0, .bool mf.m0.busy, .slice b1 mf.m0.rest.length j1, .int .i64 mf.m0.acc, .int .i64 mf.m0.w, .int .i64 mf.m0.r, .int .i64 mf.m1.c, .slice b2 mf.m1.q.length j2, .bool mf.m1.busy, .slice b3 mf.m1.rest.length j3, .int .i64 mf.m1.acc, .int .i64 mf.m1.w, .int .i64 mf.m1.r, .bool mf.x0, .bool mf.x1]) mf from ⟨_, _, _, _, rfl, HN1.out.1.1, HN1.out.1.2, HN1.out.2.1, HN1.out.2.2⟩).there.keep f12 (by simp)).there
  have HN2 := Lib.hid q2
  have HZ2 := Lib.hid (show w2.heap[(w.heap.size + 2)]? = some (.cells #[.int .i64 0, .slice none 0 0, .bool false, .slice none 0 0, .int .i64 0, .int .i64 0, .int .i64 0, .int .i64 0, .slice none 0 0, .bool false, .slice none 0 0, .int .i64 0, .int .i64 0, .int .i64 0, .bool false, .bool false] 44 (0, 0)) from f12.keep (HF1.out.keep HZ.out (by simp)) (by simp))
  have HA2 := Lib.hid (f12.keep (HF1.out.keep HQA.out (by simp)) (by simp))
  clear HQZ HFZ HN1 HF1 f2 f12
  have HFA := Lib.hid fun (w' : World) (f : w'.heap[w1.heap.size]? = some (.cells #[.int .i64 mf.m0.c, .slice b0 mf.m0.q.length j0, .bool mf.m0.busy, .slice b1 mf.m0.rest.length j1, .int .i64 mf.m0.acc, .int .i64 mf.m0.w, .int .i64 mf.m0.r, .int .i64 mf.m1.c, .slice b2 mf.m1.q.length j2, .bool mf.m1.busy, .slice b3 mf.m1.rest.length j3, .int .i64 mf.m1.acc, .int .i64 mf.m1.w, .int .i64 mf.m1.r, .bool mf.x0, .bool mf.x1] 44 (0, 0)) ∧ w'.heap[w.heap.size + 1]? = some (.cells #[.int .i64 4, .int .i64 en, .slice pa ps.length pc, .int .i64 n] 94 (0, 0))) => (show w'.cell? ⟨w1.heap.size, 0, none⟩ = some (.int .i64 mf.m0.c) ∧ w'.cell? ⟨w1.heap.size, 1, none⟩ = some (.slice b0 mf.m0.q.length j0) ∧ w'.cell? ⟨w1.heap.size, 2, none⟩ = some (.bool mf.m0.busy) ∧ w'.cell? ⟨w1.heap.size, 3, none⟩ = some (.slice b1 mf.m0.rest.length j1) ∧ w'.cell? ⟨w1.heap.size, 4, none⟩ = some (.int .i64 mf.m0.acc) ∧ w'.cell? ⟨w1.heap.size, 5, none⟩ = some (.int .i64 mf.m0.w) ∧ w'.cell? ⟨w1.heap.size, 6, none⟩ = some (.int .i64 mf.m0.r) ∧ w'.cell? ⟨w1.heap.size, 7, none⟩ = some (.int .i64 mf.m1.c) ∧ w'.cell? ⟨w1.heap.size, 8, none⟩ = some (.slice b2 mf.m1.q.length j2) ∧ w'.cell? ⟨w1.heap.size, 9, none⟩ = some (.bool mf.m1.busy) ∧ w'.cell? ⟨w1.heap.size, 10, none⟩ = some (.slice b3 mf.m1.rest.length j3) ∧ w'.cell? ⟨w1.heap.size, 11, none⟩ = some (.int .i64 mf.m1.acc) ∧ w'.cell? ⟨w1.heap.size, 12, none⟩ = some (.int .i64 mf.m1.w) ∧ w'.cell? ⟨w1.heap.size, 13, none⟩ = some (.int .i64 mf.m1.r) ∧ w'.cell? ⟨w1.heap.size, 14, none⟩ = some (.bool mf.x0) ∧ w'.cell? ⟨w1.heap.size, 15, none⟩ = some (.bool mf.x1) ∧ w'.cell? ⟨w.heap.size + 1, 1, none⟩ = some (.int .i64 en) from ⟨cell_of f.1, cell_of f.1, cell_of f.1, cell_of f.1, cell_of f.1, cell_of f.1, cell_of f.1, cell_of f.1, cell_of f.1, cell_of f.1, cell_of f.1, cell_of f.1, cell_of f.1, cell_of f.1, cell_of f.1, cell_of f.1, cell_of f.2⟩)
  go_wp2_with fail
  have fd : Fr [] w2 w2.drew := (Fr.refl _ _).drew
  have HZS := Lib.hid (show w2.drew.heap[(w.heap.size + 2)]? = some (.cells #[.int .i64 0, .slice none 0 0, .bool false, .slice none 0 0, .int .i64 0, .int .i64 0, .int .i64 0, .int .i64 0, .slice none 0 0, .bool false, .slice none 0 0, .int .i64 0, .int .i64 0, .int .i64 0, .bool false, .bool false] 44 (0, 0)) from fd.keep HZ2.out (by simp))
  have HNc := Lib.hid (show w2.drew.heap[w1.heap.size]? = some (.cells #[.int .i64 mf.m0.c, .slice b0 mf.m0.q.length j0, .bool mf.m0.busy, .slice b1 mf.m0.rest.length j1, .int .i64 mf.m0.acc, .int .i64 mf.m0.w, .int .i64 mf.m0.r, .int .i64 mf.m1.c, .slice b2 mf.m1.q.length j2, .bool mf.m1.busy, .slice b3 mf.m1.rest.length j3, .int .i64 mf.m1.acc, .int .i64 mf.m1.w, .int .i64 mf.m1.r, .bool mf.x0, .bool mf.x1] 44 (0, 0)) from fd.keep HN2.out (by simp))
  have HAc := Lib.hid (fd.keep HA2.out (by simp))
  refine wp_region_order [(0, true), (1, true), (2, true), (3, true), (4, true), (6, true), (5, false), (7, true), (8, true), (9, false), (10, true)] (fun w' => w'.heap[w1.heap.size]? = some (.cells #[.int .i64 mf.m0.c, .slice b0 mf.m0.q.length j0, .bool mf.m0.busy, .slice b1 mf.m0.rest.length j1, .int .i64 mf.m0.acc, .int .i64 mf.m0.w, .int .i64 mf.m0.r, .int .i64 mf.m1.c, .slice b2 mf.m1.q.length j2, .bool mf.m1.busy, .slice b3 mf.m1.rest.length j3, .int .i64 mf.m1.acc, .int .i64 mf.m1.w, .int .i64 mf.m1.r, .bool mf.x0, .bool mf.x1] 44 (0, 0)) ∧ w'.heap[w.heap.size + 1]? = some (.cells #[.int .i64 4, .int .i64 en, .slice pa ps.length pc, .int .i64 n] 94 (0, 0))) (by kernel_rfl) (by kernel_rfl) ⟨HNc.out, HAc.out⟩ ?_
  intro OPS HOPS
  have hops := HOPS.out
  try simp only [List.append_eq, List.cons_append, List.nil_append] at hops
  replace HOPS := Lib.hid hops
  clear hops
  refine walkO_take (o := _) (v := ?_) (by rw [HOPS.out]; simp only [gA, gB, gC]; exact rfl) (Or.inl ⟨rfl, ?_⟩) ?_
  rotate_left
  · (intro w hSw; have hSx := HFA.out _ hSw; (try dsimp only at hSx); clear hSw; go_simp) <;> (with_reducible rfl)
  simp only [Act.put, gD, gE, gF]
  refine walkO_take (o := _) (v := ?_) (by rw [HOPS.out]; simp only [gA, gB, gC]; exact rfl) (Or.inl ⟨rfl, ?_⟩) ?_
  rotate_left
  · (intro w hSw; have hSx := HFA.out _ hSw; (try dsimp only at hSx); clear hSw; go_simp) <;> (with_reducible rfl)
  simp only [Act.put, gD, gE, gF]
  refine walkO_take (o := _) (v := ?_) (by rw [HOPS.out]; simp only [gA, gB, gC]; exact rfl) (Or.inl ⟨rfl, ?_⟩) ?_
  rotate_left
  · (intro w hSw; have hSx := HFA.out _ hSw; (try dsimp only at hSx); clear hSw; go_simp) <;> (with_reducible rfl)
  simp only [Act.put, gD, gE, gF]
  refine walkO_take (o := _) (v := ?_) (by rw [HOPS.out]; simp only [gA, gB, gC]; exact rfl) (Or.inl ⟨rfl, ?_⟩) ?_
  rotate_left
  · (intro w hSw; have hSx := HFA.out _ hSw; (try dsimp only at hSx); clear hSw; go_simp) <;> (with_reducible rfl)
  simp only [Act.put, gD, gE, gF]
  refine walkO_take (o := _) (v := ?_) (by rw [HOPS.out]; simp only [gA, gB, gC]; exact rfl) (Or.inl ⟨rfl, ?_⟩) ?_
  rotate_left
  · (intro w hSw; have hSx := HFA.out _ hSw; (try dsimp only at hSx); clear hSw; go_simp) <;> (with_reducible rfl)
  simp only [Act.put, gD, gE, gF]
  refine walkO_take (o := _) (v := ?_) (by rw [HOPS.out]; simp only [gA, gB, gC]; exact rfl) (Or.inl ⟨rfl, ?_⟩) ?_
  rotate_left
  · (intro w hSw; have hSx := HFA.out _ hSw; (try dsimp only at hSx); clear hSw; go_simp) <;> (with_reducible rfl)
  simp only [Act.put, gD, gE, gF]
  refine walkO_call (o := _) (by rw [HOPS.out]; simp only [gA, gB, gC]; exact rfl) (fun K HK => ?_)
  refine step_call rfl 19 #[(.tmp 167), (.tmp 169)] #[22, 3] rfl HES.out #[.pointer (some ⟨d, 0, none⟩), .int .i64 en] (by simp [Act.eval]) (HS.out _ (HF2.out.then0 fd)) ?_
  rintro e w3 ⟨rfl, ⟨S, hS, f3⟩, F', hF', h3⟩
  have hnS : ∀ x, w.heap.size ≤ x → x < w2.heap.size → x ∉ S := fun x h1 h2 hm => by rcases hS x hm with h | h; have := HFl.out x h; omega; exact absurd (show w2.heap.size ≤ x from h) (by omega)
  have HZS := Lib.hid (show w3.heap[(w.heap.size + 2)]? = some (.cells #[.int .i64 0, .slice none 0 0, .bool false, .slice none 0 0, .int .i64 0, .int .i64 0, .int .i64 0, .int .i64 0, .slice none 0 0, .bool false, .slice none 0 0, .int .i64 0, .int .i64 0, .int .i64 0, .bool false, .bool false] 44 (0, 0)) from f3.keep HZS.out (hnS _ (by omega) (by omega)))
  have HNc := Lib.hid (show w3.heap[w1.heap.size]? = some (.cells #[.int .i64 mf.m0.c, .slice b0 mf.m0.q.length j0, .bool mf.m0.busy, .slice b1 mf.m0.rest.length j1, .int .i64 mf.m0.acc, .int .i64 mf.m0.w, .int .i64 mf.m0.r, .int .i64 mf.m1.c, .slice b2 mf.m1.q.length j2, .bool mf.m1.busy, .slice b3 mf.m1.rest.length j3, .int .i64 mf.m1.acc, .int .i64 mf.m1.w, .int .i64 mf.m1.r, .bool mf.x0, .bool mf.x1] 44 (0, 0)) from f3.keep HNc.out (hnS _ (by omega) hz2))
  have HAc := Lib.hid (f3.keep HAc.out (hnS _ (by omega) (by omega)))
  refine ⟨_, rfl, ?_⟩
  refine HK.out (fun w' => w'.heap[w1.heap.size]? = some (.cells #[.int .i64 mf.m0.c, .slice b0 mf.m0.q.length j0, .bool mf.m0.busy, .slice b1 mf.m0.rest.length j1, .int .i64 mf.m0.acc, .int .i64 mf.m0.w, .int .i64 mf.m0.r, .int .i64 mf.m1.c, .slice b2 mf.m1.q.length j2, .bool mf.m1.busy, .slice b3 mf.m1.rest.length j3, .int .i64 mf.m1.acc, .int .i64 mf.m1.w, .int .i64 mf.m1.r, .bool mf.x0, .bool mf.x1] 44 (0, 0)) ∧ w'.heap[w.heap.size + 1]? = some (.cells #[.int .i64 4, .int .i64 en, .slice pa ps.length pc, .int .i64 n] 94 (0, 0))) _ _ (fun _ h => h) (⟨HNc.out, HAc.out⟩) ?_
  clear HK K
  simp only [Act.put, gD, gE, gF]
  refine walkO_take (o := _) (v := ?_) (by rw [HOPS.out]; simp only [gA, gB, gC]; exact rfl) (Or.inl ⟨rfl, ?_⟩) ?_
  rotate_left
  · (intro w hSw; have hSx := HFA.out _ hSw; (try dsimp only at hSx); clear hSw; go_simp) <;> (with_reducible rfl)
  simp only [Act.put, gD, gE, gF]
  refine walkO_take (o := _) (v := ?_) (by rw [HOPS.out]; simp only [gA, gB, gC]; exact rfl) (Or.inl ⟨rfl, ?_⟩) ?_
  rotate_left
  · (intro w hSw; have hSx := HFA.out _ hSw; (try dsimp only at hSx); clear hSw; go_simp) <;> (with_reducible rfl)
  simp only [Act.put, gD, gE, gF]
  refine walkO_call (o := _) (by rw [HOPS.out]; simp only [gA, gB, gC]; exact rfl) (fun K HK => ?_)
  refine step_store7 rfl 44 (.tmp 7) (.tmp 166) rfl (w.heap.size + 2) #[.int .i64 mf.m0.c, .slice b0 mf.m0.q.length j0, .bool mf.m0.busy, .slice b1 mf.m0.rest.length j1, .int .i64 mf.m0.acc, .int .i64 mf.m0.w, .int .i64 mf.m0.r, .int .i64 mf.m1.c, .slice b2 mf.m1.q.length j2, .bool mf.m1.busy, .slice b3 mf.m1.rest.length j3, .int .i64 mf.m1.acc, .int .i64 mf.m1.w, .int .i64 mf.m1.r, .bool mf.x0, .bool mf.x1] (by simp [Act.eval]) (by simp [Act.eval]) _ _ HZS.out (by kernel_rfl) rfl (by simp [Value.oneCell']) ?_
  intro wf ff qf
  refine HK.out (fun w' => w'.heap[w1.heap.size]? = some (.cells #[.int .i64 mf.m0.c, .slice b0 mf.m0.q.length j0, .bool mf.m0.busy, .slice b1 mf.m0.rest.length j1, .int .i64 mf.m0.acc, .int .i64 mf.m0.w, .int .i64 mf.m0.r, .int .i64 mf.m1.c, .slice b2 mf.m1.q.length j2, .bool mf.m1.busy, .slice b3 mf.m1.rest.length j3, .int .i64 mf.m1.acc, .int .i64 mf.m1.w, .int .i64 mf.m1.r, .bool mf.x0, .bool mf.x1] 44 (0, 0)) ∧ w'.heap[w.heap.size + 1]? = some (.cells #[.int .i64 4, .int .i64 en, .slice pa ps.length pc, .int .i64 n] 94 (0, 0))) _ _ (fun _ h => h) (⟨ff.keep HNc.out (by intro hm; simp at hm; omega), ff.keep HAc.out (by intro hm; simp at hm)⟩) ?_
  clear HK K
  try simp only [Act.put, gD, gE, gF]
  refine walkO_take (o := _) (v := ?_) (by rw [HOPS.out]; simp only [gA, gB, gC]; exact rfl) (Or.inl ⟨rfl, ?_⟩) ?_
  rotate_left
  · (intro w hSw; have hSx := HFA.out _ hSw; (try dsimp only at hSx); clear hSw; go_simp) <;> (with_reducible rfl)
  simp only [Act.put, gD, gE, gF]
  refine walkO_done ?_
  clear HOPS OPS
  go_wp2_with fail
  have y0 : wf.cell? ⟨(w.heap.size + 2), 0, none⟩ = some (.int .i64 mf.m0.c) := cell_of (qf)
  have y1 : wf.cell? ⟨(w.heap.size + 2), 1, none⟩ = some (.slice b0 mf.m0.q.length j0) := cell_of (qf)
  have y2 : wf.cell? ⟨(w.heap.size + 2), 2, none⟩ = some (.bool mf.m0.busy) := cell_of (qf)
  have y3 : wf.cell? ⟨(w.heap.size + 2), 3, none⟩ = some (.slice b1 mf.m0.rest.length j1) := cell_of (qf)
  have y4 : wf.cell? ⟨(w.heap.size + 2), 4, none⟩ = some (.int .i64 mf.m0.acc) := cell_of (qf)
  have y5 : wf.cell? ⟨(w.heap.size + 2), 5, none⟩ = some (.int .i64 mf.m0.w) := cell_of (qf)
  have y6 : wf.cell? ⟨(w.heap.size + 2), 6, none⟩ = some (.int .i64 mf.m0.r) := cell_of (qf)
  have y7 : wf.cell? ⟨(w.heap.size + 2), 7, none⟩ = some (.int .i64 mf.m1.c) := cell_of (qf)
  have y8 : wf.cell? ⟨(w.heap.size + 2), 8, none⟩ = some (.slice b2 mf.m1.q.length j2) := cell_of (qf)
  have y9 : wf.cell? ⟨(w.heap.size + 2), 9, none⟩ = some (.bool mf.m1.busy) := cell_of (qf)
  have y10 : wf.cell? ⟨(w.heap.size + 2), 10, none⟩ = some (.slice b3 mf.m1.rest.length j3) := cell_of (qf)
  have y11 : wf.cell? ⟨(w.heap.size + 2), 11, none⟩ = some (.int .i64 mf.m1.acc) := cell_of (qf)
  have y12 : wf.cell? ⟨(w.heap.size + 2), 12, none⟩ = some (.int .i64 mf.m1.w) := cell_of (qf)
  have y13 : wf.cell? ⟨(w.heap.size + 2), 13, none⟩ = some (.int .i64 mf.m1.r) := cell_of (qf)
  have y14 : wf.cell? ⟨(w.heap.size + 2), 14, none⟩ = some (.bool mf.x0) := cell_of (qf)
  have y15 : wf.cell? ⟨(w.heap.size + 2), 15, none⟩ = some (.bool mf.x1) := cell_of (qf)
  refine bodyPost_ret (v := .tuple #[.pointer (some ⟨d, 0, none⟩), .agg #[.int .i64 mf.m0.c, .slice b0 mf.m0.q.length j0, .bool mf.m0.busy, .slice b1 mf.m0.rest.length j1, .int .i64 mf.m0.acc, .int .i64 mf.m0.w, .int .i64 mf.m0.r, .int .i64 mf.m1.c, .slice b2 mf.m1.q.length j2, .bool mf.m1.busy, .slice b3 mf.m1.rest.length j3, .int .i64 mf.m1.acc, .int .i64 mf.m1.w, .int .i64 mf.m1.r, .bool mf.x0, .bool mf.x1], .bool true]) (by simp [results, Try.results63, go_sem, y0, y1, y2, y3, y4, y5, y6, y7, y8, y9, y10, y11, y12, y13, y14, y15]) rfl ?_
  exact step_post15 (w0 := w0) (z := w0.heap.size) HF.out (HF02.out.then0 fd) (by omega) (Nat.le_refl _) hS f3 (fun x hx => by rcases hF' x hx with h | h | h; exact .inl h; exact h.elim; exact .inr (.inr h)) h3 ff ((HCV.out.keep fd (by simp)).mono (fun x hx => ⟨hx.1.1.imp (fun h => h.1) id, hx.2⟩)) HFl.out HD.out HNW.out
set_option maxHeartbeats 16000000 in
theorem step15_closer {w : World} {F N : Nat → Prop} {d : Nat} {s : DM} {v : Value} {pa : Option Addr} {pc : Nat} {ps : Parts} {n en : Int} (hs : Dx w F d s) (h : Cv w N v s) (hd : ∀ x, F x → ¬ N x) (HNZ : ∀ x, N x → x < w.heap.size) :
    Calls Try.prog 63 #[.pointer (some ⟨d, 0, none⟩), v, .agg #[.int .i64 5, .int .i64 en, .slice pa ps.length pc, .int .i64 n]] w (Step15 w F N (closerU en s).1) := by
  have HNW := Lib.hid HNZ
  clear HNZ
  have hFl := hs.lt
  replace h := h.there
  obtain ⟨u0, u1, u2, u3, rfl, p0, p1, p2, p3⟩ := h
  obtain ⟨a0, k0, rfl, _⟩ := id p0
  obtain ⟨a1, k1, rfl, _⟩ := id p1
  obtain ⟨a2, k2, rfl, _⟩ := id p2
  obtain ⟨a3, k3, rfl, _⟩ := id p3
  obtain ⟨w0, hw0, f0, qv, qa, qz⟩ : ∃ W, ((w.alloc (.cells #[.int .i64 s.m0.c, .slice a0 s.m0.q.length k0, .bool s.m0.busy, .slice a1 s.m0.rest.length k1, .int .i64 s.m0.acc, .int .i64 s.m0.w, .int .i64 s.m0.r, .int .i64 s.m1.c, .slice a2 s.m1.q.length k2, .bool s.m1.busy, .slice a3 s.m1.rest.length k3, .int .i64 s.m1.acc, .int .i64 s.m1.w, .int .i64 s.m1.r, .bool s.x0, .bool s.x1] 44)).alloc (.cells #[.int .i64 5, .int .i64 en, .slice pa ps.length pc, .int .i64 n] 94)).alloc (.cells #[.int .i64 0, .slice none 0 0, .bool false, .slice none 0 0, .int .i64 0, .int .i64 0, .int .i64 0, .int .i64 0, .slice none 0 0, .bool false, .slice none 0 0, .int .i64 0, .int .i64 0, .int .i64 0, .bool false, .bool false] 44) = W ∧ Fr [] w W ∧ W.heap[w.heap.size]? = some (.cells #[.int .i64 s.m0.c, .slice a0 s.m0.q.length k0, .bool s.m0.busy, .slice a1 s.m0.rest.length k1, .int .i64 s.m0.acc, .int .i64 s.m0.w, .int .i64 s.m0.r, .int .i64 s.m1.c, .slice a2 s.m1.q.length k2, .bool s.m1.busy, .slice a3 s.m1.rest.length k3, .int .i64 s.m1.acc, .int .i64 s.m1.w, .int .i64 s.m1.r, .bool s.x0, .bool s.x1] 44 (0, 0)) ∧ W.heap[w.heap.size + 1]? = some (.cells #[.int .i64 5, .int .i64 en, .slice pa ps.length pc, .int .i64 n] 94 (0, 0)) ∧ W.heap[(w.heap.size + 2)]? = some (.cells #[.int .i64 0, .slice none 0 0, .bool false, .slice none 0 0, .int .i64 0, .int .i64 0, .int .i64 0, .int .i64 0, .slice none 0 0, .bool false, .slice none 0 0, .int .i64 0, .int .i64 0, .int .i64 0, .bool false, .bool false] 44 (0, 0)) := ⟨_, rfl, (((Fr.refl _ _).alloc _).alloc _).alloc _, keepA (keepA (newA rfl)), keepA (newA (by simp)), newA (by simp)⟩
  have x0 : w0.cell? ⟨w.heap.size, 0, none⟩ = some (.int .i64 s.m0.c) := cell_of (qv)
  have x1 : w0.cell? ⟨w.heap.size, 1, none⟩ = some (.slice a0 s.m0.q.length k0) := cell_of (qv)
  have x2 : w0.cell? ⟨w.heap.size, 2, none⟩ = some (.bool s.m0.busy) := cell_of (qv)
  have x3 : w0.cell? ⟨w.heap.size, 3, none⟩ = some (.slice a1 s.m0.rest.length k1) := cell_of (qv)
  have x4 : w0.cell? ⟨w.heap.size, 4, none⟩ = some (.int .i64 s.m0.acc) := cell_of (qv)
  have x5 : w0.cell? ⟨w.heap.size, 5, none⟩ = some (.int .i64 s.m0.w) := cell_of (qv)
  have x6 : w0.cell? ⟨w.heap.size, 6, none⟩ = some (.int .i64 s.m0.r) := cell_of (qv)
  have x7 : w0.cell? ⟨w.heap.size, 7, none⟩ = some (.int .i64 s.m1.c) := cell_of (qv)
  have x8 : w0.cell? ⟨w.heap.size, 8, none⟩ = some (.slice a2 s.m1.q.length k2) := cell_of (qv)
  have x9 : w0.cell? ⟨w.heap.size, 9, none⟩ = some (.bool s.m1.busy) := cell_of (qv)
  have x10 : w0.cell? ⟨w.heap.size, 10, none⟩ = some (.slice a3 s.m1.rest.length k3) := cell_of (qv)
  have x11 : w0.cell? ⟨w.heap.size, 11, none⟩ = some (.int .i64 s.m1.acc) := cell_of (qv)
  have x12 : w0.cell? ⟨w.heap.size, 12, none⟩ = some (.int .i64 s.m1.w) := cell_of (qv)
  have x13 : w0.cell? ⟨w.heap.size, 13, none⟩ = some (.int .i64 s.m1.r) := cell_of (qv)
  have x14 : w0.cell? ⟨w.heap.size, 14, none⟩ = some (.bool s.x0) := cell_of (qv)
  have x15 : w0.cell? ⟨w.heap.size, 15, none⟩ = some (.bool s.x1) := cell_of (qv)
  have e0 : w0.cell? ⟨w.heap.size + 1, 0, none⟩ = some (.int .i64 5) := cell_of qa
  have e1 : w0.cell? ⟨w.heap.size + 1, 1, none⟩ = some (.int .i64 en) := cell_of qa
  have e2 : w0.cell? ⟨w.heap.size + 1, 2, none⟩ = some (.slice pa ps.length pc) := cell_of qa
  have e3 : w0.cell? ⟨w.heap.size + 1, 3, none⟩ = some (.int .i64 n) := cell_of qa
  have hz0 : w.heap.size + 2 < w0.heap.size := lt_of_heap qz
  have HZ := Lib.hid qz
  have HF := Lib.hid f0
  have HQA := Lib.hid qa
  have HP := Lib.hid (And.intro (And.intro p0 p1) (And.intro p2 p3))
  have HC := Lib.hid (r15_closer_any (w := w0) (N := (fun x => N x ∧ x < w.heap.size)) (v := .agg #[.int .i64 s.m0.c, .slice a0 s.m0.q.length k0, .bool s.m0.busy, .slice a1 s.m0.rest.length k1, .int .i64 s.m0.acc, .int .i64 s.m0.w, .int .i64 s.m0.r, .int .i64 s.m1.c, .slice a2 s.m1.q.length k2, .bool s.m1.busy, .slice a3 s.m1.rest.length k3, .int .i64 s.m1.acc, .int .i64 s.m1.w, .int .i64 s.m1.r, .bool s.x0, .bool s.x1]) (s := s) ⟨_, _, _, _, rfl, p0.keep f0 (by simp), p1.keep f0 (by simp), p2.keep f0 (by simp), p3.keep f0 (by simp)⟩ en)
  have HS := Lib.hid fun w' (f : Fr [] w w') => dx_closer_any (hs.keep0 f) en
  generalize hU : (closerU en s) = U at *
  obtain ⟨mf, ee⟩ := U
  dsimp only at HC HS
  have HFl := Lib.hid hFl
  have HD := Lib.hid hd
  have HU := Lib.hid hU
  clear hFl hd hs hU p0 p1 p2 p3 f0 qv qa qz
  have HES := Lib.hid (Go.Proofs.enters_of Try.func18 (by kernel_rfl) rfl)
  go_enter Try.func63, Try.ntmps63
  go_wp2_with fail
  refine HC.out.mono ?_
  rintro e w1 ⟨v', rfl, f1, hc⟩
  obtain ⟨q0, q1, q2, q3, rfl, c0, c1, c2, c3⟩ := hc
  obtain ⟨b0, j0, rfl, _⟩ := id c0
  obtain ⟨b1, j1, rfl, _⟩ := id c1
  obtain ⟨b2, j2, rfl, _⟩ := id c2
  obtain ⟨b3, j3, rfl, _⟩ := id c3
  obtain ⟨wz, hwz, fz, qz⟩ : ∃ W, w1.alloc (.cells #[.int .i64 0, .slice none 0 0, .bool false, .slice none 0 0, .int .i64 0, .int .i64 0, .int .i64 0, .int .i64 0, .slice none 0 0, .bool false, .slice none 0 0, .int .i64 0, .int .i64 0, .int .i64 0, .bool false, .bool false] 44) = W ∧ Fr [] w1 W ∧ W.heap[w1.heap.size]? = some (.cells #[.int .i64 0, .slice none 0 0, .bool false, .slice none 0 0, .int .i64 0, .int .i64 0, .int .i64 0, .int .i64 0, .slice none 0 0, .bool false, .slice none 0 0, .int .i64 0, .int .i64 0, .int .i64 0, .bool false, .bool false] 44 (0, 0)) := ⟨_, rfl, (Fr.refl _ _).alloc _, newA rfl⟩
  have HQZ := Lib.hid qz
  have HFZ := Lib.hid fz
  have z1 := f1.size
  have hzz := lt_of_heap qz
  have HF1 := Lib.hid f1
  have HN1 := Lib.hid (And.intro (And.intro c0 c1) (And.intro c2 c3))
  clear x0 x1 x2 x3 x4 x5 x6 x7 x8 x9 x10 x11 x12 x13 x14 x15 qz fz f1 c0 c1 c2 c3 HC e0 e1 e2 e3
  go_wp2_with (refine wpl_store rfl 44 _ _ rfl w1.heap.size #[.int .i64 mf.m0.c, .slice b0 mf.m0.q.length j0, .bool mf.m0.busy, .slice b1 mf.m0.rest.length j1, .int .i64 mf.m0.acc, .int .i64 mf.m0.w, .int .i64 mf.m0.r, .int .i64 mf.m1.c, .slice b2 mf.m1.q.length j2, .bool mf.m1.busy, .slice b3 mf.m1.rest.length j3, .int .i64 mf.m1.acc, .int .i64 mf.m1.w, .int .i64 mf.m1.r, .bool mf.x0, .bool mf.x1] (by rfl) (by rfl) _ _ HQZ.out (by kernel_rfl) rfl (by simp [Value.oneCell']) ?_)
  intro w2 f2 q2
  clear hwz
  have f12 : Fr [] w1 w2 := HFZ.out.trans f2 (by simp) (fun x hx => .inr (by simp at hx; omega))
  have z2 := f12.size
  have hz2 : w1.heap.size < w2.heap.size := lt_of_heap q2
  have HF02 := Lib.hid (HF1.out.then0 f12)
  have HF2 := Lib.hid (HF.out.then0 (HF1.out.then0 f12))
  have HCV := Lib.hid ((show Cv w1 (fun x => (fun x => N x ∧ x < w.heap.size) x ∨ w0.heap.size ≤ x) (.agg #[.int .i64 mf.m0.c, .slice b0 mf.m0.q.length j0, .bool mf.m0.busy, .slice b1 mf.m0.rest.length j1, .int .i64 mf.m0.acc, .int .i64 mf.m0.w, .int .i64 mf.m0.r, .int .i64 mf.m1.c, .slice b2 mf.m1.q.length j2, .bool mf.m1.busy, .slice b3 mf.m1.rest.length j3, .int .i64 mf.m1.acc, .int .i64 mf.m1.w, .int .i64 mf.m1.r, .bool mf.x0, .bool mf.x1]) mf from ⟨_, _, _, _, rfl, HN1.out.1.1, HN1.out.1.2, HN1.out.2.1, HN1.out.2.2⟩).there.keep f12 (by simp)).there
  have HN2 := Lib.hid q2
  have HZ2 := Lib.hid (show w2.heap[(w.heap.size + 2)]? = some (.cells #[.int .i64 0, .slice none 0 0, .bool false, .slice none 0 0, .int .i64 0, .int .i64 0, .int .i64 0, .int .i64 0, .slice none 0 0, .bool false, .slice none 0 0, .int .i64 0, .int .i64 0, .int .i64 0, .bool false, .bool false] 44 (0, 0)) from f12.keep (HF1.out.keep HZ.out (by simp)) (by simp))
  have HA2 := Lib.hid (f12.keep (HF1.out.keep HQA.out (by simp)) (by simp))
  clear HQZ HFZ HN1 HF1 f2 f12
  have HFA := Lib.hid fun (w' : World) (f : w'.heap[w1.heap.size]? = some (.cells #[.int .i64 mf.m0.c, .slice b0 mf.m0.q.length j0, .bool mf.m0.busy, .slice b1 mf.m0.rest.length j1, .int .i64 mf.m0.acc, .int .i64 mf.m0.w, .int .i64 mf.m0.r, .int .i64 mf.m1.c, .slice b2 mf.m1.q.length j2, .bool mf.m1.busy, .slice b3 mf.m1.rest.length j3, .int .i64 mf.m1.acc, .int .i64 mf.m1.w, .int .i64 mf.m1.r, .bool mf.x0, .bool mf.x1] 44 (0, 0)) ∧ w'.heap[w.heap.size + 1]? = some (.cells #[.int .i64 5, .int .i64 en, .slice pa ps.length pc, .int .i64 n] 94 (0, 0))) => (show w'.cell? ⟨w1.heap.size, 0, none⟩ = some (.int .i64 mf.m0.c) ∧ w'.cell? ⟨w1.heap.size, 1, none⟩ = some (.slice b0 mf.m0.q.length j0) ∧ w'.cell? ⟨w1.heap.size, 2, none⟩ = some (.bool mf.m0.busy) ∧ w'.cell? ⟨w1.heap.size, 3, none⟩ = some (.slice b1 mf.m0.rest.length j1) ∧ w'.cell? ⟨w1.heap.size, 4, none⟩ = some (.int .i64 mf.m0.acc) ∧ w'.cell? ⟨w1.heap.size, 5, none⟩ = some (.int .i64 mf.m0.w) ∧ w'.cell? ⟨w1.heap.size, 6, none⟩ = some (.int .i64 mf.m0.r) ∧ w'.cell? ⟨w1.heap.size, 7, none⟩ = some (.int .i64 mf.m1.c) ∧ w'.cell? ⟨w1.heap.size, 8, none⟩ = some (.slice b2 mf.m1.q.length j2) ∧ w'.cell? ⟨w1.heap.size, 9, none⟩ = some (.bool mf.m1.busy) ∧ w'.cell? ⟨w1.heap.size, 10, none⟩ = some (.slice b3 mf.m1.rest.length j3) ∧ w'.cell? ⟨w1.heap.size, 11, none⟩ = some (.int .i64 mf.m1.acc) ∧ w'.cell? ⟨w1.heap.size, 12, none⟩ = some (.int .i64 mf.m1.w) ∧ w'.cell? ⟨w1.heap.size, 13, none⟩ = some (.int .i64 mf.m1.r) ∧ w'.cell? ⟨w1.heap.size, 14, none⟩ = some (.bool mf.x0) ∧ w'.cell? ⟨w1.heap.size, 15, none⟩ = some (.bool mf.x1) ∧ w'.cell? ⟨w.heap.size + 1, 1, none⟩ = some (.int .i64 en) from ⟨cell_of f.1, cell_of f.1, cell_of f.1, cell_of f.1, cell_of f.1, cell_of f.1, cell_of f.1, cell_of f.1, cell_of f.1, cell_of f.1, cell_of f.1, cell_of f.1, cell_of f.1, cell_of f.1, cell_of f.1, cell_of f.1, cell_of f.2⟩)
  go_wp2_with fail
  have fd : Fr [] w2 w2.drew := (Fr.refl _ _).drew
  have HZS := Lib.hid (show w2.drew.heap[(w.heap.size + 2)]? = some (.cells #[.int .i64 0, .slice none 0 0, .bool false, .slice none 0 0, .int .i64 0, .int .i64 0, .int .i64 0, .int .i64 0, .slice none 0 0, .bool false, .slice none 0 0, .int .i64 0, .int .i64 0, .int .i64 0, .bool false, .bool false] 44 (0, 0)) from fd.keep HZ2.out (by simp))
  have HNc := Lib.hid (show w2.drew.heap[w1.heap.size]? = some (.cells #[.int .i64 mf.m0.c, .slice b0 mf.m0.q.length j0, .bool mf.m0.busy, .slice b1 mf.m0.rest.length j1, .int .i64 mf.m0.acc, .int .i64 mf.m0.w, .int .i64 mf.m0.r, .int .i64 mf.m1.c, .slice b2 mf.m1.q.length j2, .bool mf.m1.busy, .slice b3 mf.m1.rest.length j3, .int .i64 mf.m1.acc, .int .i64 mf.m1.w, .int .i64 mf.m1.r, .bool mf.x0, .bool mf.x1] 44 (0, 0)) from fd.keep HN2.out (by simp))
  have HAc := Lib.hid (fd.keep HA2.out (by simp))
  refine wp_region_order [(0, true), (1, true), (2, true), (3, true), (4, true), (6, true), (5, false), (7, true), (8, true), (9, false), (10, true)] (fun w' => w'.heap[w1.heap.size]? = some (.cells #[.int .i64 mf.m0.c, .slice b0 mf.m0.q.length j0, .bool mf.m0.busy, .slice b1 mf.m0.rest.length j1, .int .i64 mf.m0.acc, .int .i64 mf.m0.w, .int .i64 mf.m0.r, .int .i64 mf.m1.c, .slice b2 mf.m1.q.length j2, .bool mf.m1.busy, .slice b3 mf.m1.rest.length j3, .int .i64 mf.m1.acc, .int .i64 mf.m1.w, .int .i64 mf.m1.r, .bool mf.x0, .bool mf.x1] 44 (0, 0)) ∧ w'.heap[w.heap.size + 1]? = some (.cells #[.int .i64 5, .int .i64 en, .slice pa ps.length pc, .int .i64 n] 94 (0, 0))) (by kernel_rfl) (by kernel_rfl) ⟨HNc.out, HAc.out⟩ ?_
  intro OPS HOPS
  have hops := HOPS.out
  try simp only [List.append_eq, List.cons_append, List.nil_append] at hops
  replace HOPS := Lib.hid hops
  clear hops
  refine walkO_take (o := _) (v := ?_) (by rw [HOPS.out]; simp only [gA, gB, gC]; exact rfl) (Or.inl ⟨rfl, ?_⟩) ?_
  rotate_left
  · (intro w hSw; have hSx := HFA.out _ hSw; (try dsimp only at hSx); clear hSw; go_simp) <;> (with_reducible rfl)
  simp only [Act.put, gD, gE, gF]
  refine walkO_take (o := _) (v := ?_) (by rw [HOPS.out]; simp only [gA, gB, gC]; exact rfl) (Or.inl ⟨rfl, ?_⟩) ?_
  rotate_left
  · (intro w hSw; have hSx := HFA.out _ hSw; (try dsimp only at hSx); clear hSw; go_simp) <;> (with_reducible rfl)
  simp only [Act.put, gD, gE, gF]
  refine walkO_take (o := _) (v := ?_) (by rw [HOPS.out]; simp only [gA, gB, gC]; exact rfl) (Or.inl ⟨rfl, ?_⟩) ?_
  rotate_left
  · (intro w hSw; have hSx := HFA.out _ hSw; (try dsimp only at hSx); clear hSw; go_simp) <;> (with_reducible rfl)
  simp only [Act.put, gD, gE, gF]
  refine walkO_take (o := _) (v := ?_) (by rw [HOPS.out]; simp only [gA, gB, gC]; exact rfl) (Or.inl ⟨rfl, ?_⟩) ?_
  rotate_left
  · (intro w hSw; have hSx := HFA.out _ hSw; (try dsimp only at hSx); clear hSw; go_simp) <;> (with_reducible rfl)
  simp only [Act.put, gD, gE, gF]
  refine walkO_take (o := _) (v := ?_) (by rw [HOPS.out]; simp only [gA, gB, gC]; exact rfl) (Or.inl ⟨rfl, ?_⟩) ?_
  rotate_left
  · (intro w hSw; have hSx := HFA.out _ hSw; (try dsimp only at hSx); clear hSw; go_simp) <;> (with_reducible rfl)
  simp only [Act.put, gD, gE, gF]
  refine walkO_take (o := _) (v := ?_) (by rw [HOPS.out]; simp only [gA, gB, gC]; exact rfl) (Or.inl ⟨rfl, ?_⟩) ?_
  rotate_left
  · (intro w hSw; have hSx := HFA.out _ hSw; (try dsimp only at hSx); clear hSw; go_simp) <;> (with_reducible rfl)
  simp only [Act.put, gD, gE, gF]
  refine walkO_call (o := _) (by rw [HOPS.out]; simp only [gA, gB, gC]; exact rfl) (fun K HK => ?_)
  refine step_call rfl 18 #[(.tmp 184), (.tmp 186)] #[22, 3] rfl HES.out #[.pointer (some ⟨d, 0, none⟩), .int .i64 en] (by simp [Act.eval]) (HS.out _ (HF2.out.then0 fd)) ?_
  rintro e w3 ⟨rfl, ⟨S, hS, f3⟩, F', hF', h3⟩
  have hnS : ∀ x, w.heap.size ≤ x → x < w2.heap.size → x ∉ S := fun x h1 h2 hm => by rcases hS x hm with h | h; have := HFl.out x h; omega; exact absurd (show w2.heap.size ≤ x from h) (by omega)
  have HZS := Lib.hid (show w3.heap[(w.heap.size + 2)]? = some (.cells #[.int .i64 0, .slice none 0 0, .bool false, .slice none 0 0, .int .i64 0, .int .i64 0, .int .i64 0, .int .i64 0, .slice none 0 0, .bool false, .slice none 0 0, .int .i64 0, .int .i64 0, .int .i64 0, .bool false, .bool false] 44 (0, 0)) from f3.keep HZS.out (hnS _ (by omega) (by omega)))
  have HNc := Lib.hid (show w3.heap[w1.heap.size]? = some (.cells #[.int .i64 mf.m0.c, .slice b0 mf.m0.q.length j0, .bool mf.m0.busy, .slice b1 mf.m0.rest.length j1, .int .i64 mf.m0.acc, .int .i64 mf.m0.w, .int .i64 mf.m0.r, .int .i64 mf.m1.c, .slice b2 mf.m1.q.length j2, .bool mf.m1.busy, .slice b3 mf.m1.rest.length j3, .int .i64 mf.m1.acc, .int .i64 mf.m1.w, .int .i64 mf.m1.r, .bool mf.x0, .bool mf.x1] 44 (0, 0)) from f3.keep HNc.out (hnS _ (by omega) hz2))
  have HAc := Lib.hid (f3.keep HAc.out (hnS _ (by omega) (by omega)))
  refine ⟨_, rfl, ?_⟩
  refine HK.out (fun w' => w'.heap[w1.heap.size]? = some (.cells #[.int .i64 mf.m0.c, .slice b0 mf.m0.q.length j0, .bool mf.m0.busy, .slice b1 mf.m0.rest.length j1, .int .i64 mf.m0.acc, .int .i64 mf.m0.w, .int .i64 mf.m0.r, .int .i64 mf.m1.c, .slice b2 mf.m1.q.length j2, .bool mf.m1.busy, .slice b3 mf.m1.rest.length j3, .int .i64 mf.m1.acc, .int .i64 mf.m1.w, .int .i64 mf.m1.r, .bool mf.x0, .bool mf.x1] 44 (0, 0)) ∧ w'.heap[w.heap.size + 1]? = some (.cells #[.int .i64 5, .int .i64 en, .slice pa ps.length pc, .int .i64 n] 94 (0, 0))) _ _ (fun _ h => h) (⟨HNc.out, HAc.out⟩) ?_
  clear HK K
  simp only [Act.put, gD, gE, gF]
  refine walkO_take (o := _) (v := ?_) (by rw [HOPS.out]; simp only [gA, gB, gC]; exact rfl) (Or.inl ⟨rfl, ?_⟩) ?_
  rotate_left
  · (intro w hSw; have hSx := HFA.out _ hSw; (try dsimp only at hSx); clear hSw; go_simp) <;> (with_reducible rfl)
  simp only [Act.put, gD, gE, gF]
  refine walkO_take (o := _) (v := ?_) (by rw [HOPS.out]; simp only [gA, gB, gC]; exact rfl) (Or.inl ⟨rfl, ?_⟩) ?_
  rotate_left
  · (intro w hSw; have hSx := HFA.out _ hSw; (try dsimp only at hSx); clear hSw; go_simp) <;> (with_reducible rfl)
  simp only [Act.put, gD, gE, gF]
  refine walkO_call (o := _) (by rw [HOPS.out]; simp only [gA, gB, gC]; exact rfl) (fun K HK => ?_)
  refine step_store7 rfl 44 (.tmp 7) (.tmp 183) rfl (w.heap.size + 2) #[.int .i64 mf.m0.c, .slice b0 mf.m0.q.length j0, .bool mf.m0.busy, .slice b1 mf.m0.rest.length j1, .int .i64 mf.m0.acc, .int .i64 mf.m0.w, .int .i64 mf.m0.r, .int .i64 mf.m1.c, .slice b2 mf.m1.q.length j2, .bool mf.m1.busy, .slice b3 mf.m1.rest.length j3, .int .i64 mf.m1.acc, .int .i64 mf.m1.w, .int .i64 mf.m1.r, .bool mf.x0, .bool mf.x1] (by simp [Act.eval]) (by simp [Act.eval]) _ _ HZS.out (by kernel_rfl) rfl (by simp [Value.oneCell']) ?_
  intro wf ff qf
  refine HK.out (fun w' => w'.heap[w1.heap.size]? = some (.cells #[.int .i64 mf.m0.c, .slice b0 mf.m0.q.length j0, .bool mf.m0.busy, .slice b1 mf.m0.rest.length j1, .int .i64 mf.m0.acc, .int .i64 mf.m0.w, .int .i64 mf.m0.r, .int .i64 mf.m1.c, .slice b2 mf.m1.q.length j2, .bool mf.m1.busy, .slice b3 mf.m1.rest.length j3, .int .i64 mf.m1.acc, .int .i64 mf.m1.w, .int .i64 mf.m1.r, .bool mf.x0, .bool mf.x1] 44 (0, 0)) ∧ w'.heap[w.heap.size + 1]? = some (.cells #[.int .i64 5, .int .i64 en, .slice pa ps.length pc, .int .i64 n] 94 (0, 0))) _ _ (fun _ h => h) (⟨ff.keep HNc.out (by intro hm; simp at hm; omega), ff.keep HAc.out (by intro hm; simp at hm)⟩) ?_
  clear HK K
  try simp only [Act.put, gD, gE, gF]
  refine walkO_take (o := _) (v := ?_) (by rw [HOPS.out]; simp only [gA, gB, gC]; exact rfl) (Or.inl ⟨rfl, ?_⟩) ?_
  rotate_left
  · (intro w hSw; have hSx := HFA.out _ hSw; (try dsimp only at hSx); clear hSw; go_simp) <;> (with_reducible rfl)
  simp only [Act.put, gD, gE, gF]
  refine walkO_done ?_
  clear HOPS OPS
  go_wp2_with fail
  have y0 : wf.cell? ⟨(w.heap.size + 2), 0, none⟩ = some (.int .i64 mf.m0.c) := cell_of (qf)
  have y1 : wf.cell? ⟨(w.heap.size + 2), 1, none⟩ = some (.slice b0 mf.m0.q.length j0) := cell_of (qf)
  have y2 : wf.cell? ⟨(w.heap.size + 2), 2, none⟩ = some (.bool mf.m0.busy) := cell_of (qf)
  have y3 : wf.cell? ⟨(w.heap.size + 2), 3, none⟩ = some (.slice b1 mf.m0.rest.length j1) := cell_of (qf)
  have y4 : wf.cell? ⟨(w.heap.size + 2), 4, none⟩ = some (.int .i64 mf.m0.acc) := cell_of (qf)
  have y5 : wf.cell? ⟨(w.heap.size + 2), 5, none⟩ = some (.int .i64 mf.m0.w) := cell_of (qf)
  have y6 : wf.cell? ⟨(w.heap.size + 2), 6, none⟩ = some (.int .i64 mf.m0.r) := cell_of (qf)
  have y7 : wf.cell? ⟨(w.heap.size + 2), 7, none⟩ = some (.int .i64 mf.m1.c) := cell_of (qf)
  have y8 : wf.cell? ⟨(w.heap.size + 2), 8, none⟩ = some (.slice b2 mf.m1.q.length j2) := cell_of (qf)
  have y9 : wf.cell? ⟨(w.heap.size + 2), 9, none⟩ = some (.bool mf.m1.busy) := cell_of (qf)
  have y10 : wf.cell? ⟨(w.heap.size + 2), 10, none⟩ = some (.slice b3 mf.m1.rest.length j3) := cell_of (qf)
  have y11 : wf.cell? ⟨(w.heap.size + 2), 11, none⟩ = some (.int .i64 mf.m1.acc) := cell_of (qf)
  have y12 : wf.cell? ⟨(w.heap.size + 2), 12, none⟩ = some (.int .i64 mf.m1.w) := cell_of (qf)
  have y13 : wf.cell? ⟨(w.heap.size + 2), 13, none⟩ = some (.int .i64 mf.m1.r) := cell_of (qf)
  have y14 : wf.cell? ⟨(w.heap.size + 2), 14, none⟩ = some (.bool mf.x0) := cell_of (qf)
  have y15 : wf.cell? ⟨(w.heap.size + 2), 15, none⟩ = some (.bool mf.x1) := cell_of (qf)
  refine bodyPost_ret (v := .tuple #[.pointer (some ⟨d, 0, none⟩), .agg #[.int .i64 mf.m0.c, .slice b0 mf.m0.q.length j0, .bool mf.m0.busy, .slice b1 mf.m0.rest.length j1, .int .i64 mf.m0.acc, .int .i64 mf.m0.w, .int .i64 mf.m0.r, .int .i64 mf.m1.c, .slice b2 mf.m1.q.length j2, .bool mf.m1.busy, .slice b3 mf.m1.rest.length j3, .int .i64 mf.m1.acc, .int .i64 mf.m1.w, .int .i64 mf.m1.r, .bool mf.x0, .bool mf.x1], .bool true]) (by simp [results, Try.results63, go_sem, y0, y1, y2, y3, y4, y5, y6, y7, y8, y9, y10, y11, y12, y13, y14, y15]) rfl ?_
  exact step_post15 (w0 := w0) (z := w0.heap.size) HF.out (HF02.out.then0 fd) (by omega) (Nat.le_refl _) hS f3 (fun x hx => by rcases hF' x hx with h | h | h; exact .inl h; exact h.elim; exact .inr (.inr h)) h3 ff ((HCV.out.keep fd (by simp)).mono (fun x hx => ⟨hx.1.1.imp (fun h => h.1) id, hx.2⟩)) HFl.out HD.out HNW.out
set_option maxHeartbeats 16000000 in
theorem step15_close {w : World} {F N : Nat → Prop} {d : Nat} {s : DM} {v : Value} {pa : Option Addr} {pc : Nat} {ps : Parts} {n en : Int} (hs : Dx w F d s) (h : Cv w N v s) (hd : ∀ x, F x → ¬ N x) (HNZ : ∀ x, N x → x < w.heap.size) :
    Calls Try.prog 63 #[.pointer (some ⟨d, 0, none⟩), v, .agg #[.int .i64 6, .int .i64 en, .slice pa ps.length pc, .int .i64 n]] w (Step15 w F N (closeU en s).1) := by
  have HNW := Lib.hid HNZ
  clear HNZ
  have hFl := hs.lt
  replace h := h.there
  obtain ⟨u0, u1, u2, u3, rfl, p0, p1, p2, p3⟩ := h
  obtain ⟨a0, k0, rfl, _⟩ := id p0
  obtain ⟨a1, k1, rfl, _⟩ := id p1
  obtain ⟨a2, k2, rfl, _⟩ := id p2
  obtain ⟨a3, k3, rfl, _⟩ := id p3
  obtain ⟨w0, hw0, f0, qv, qa, qz⟩ : ∃ W, ((w.alloc (.cells #[.int .i64 s.m0.c, .slice a0 s.m0.q.length k0, .bool s.m0.busy, .slice a1 s.m0.rest.length k1, .int .i64 s.m0.acc, .int .i64 s.m0.w, .int .i64 s.m0.r, .int .i64 s.m1.c, .slice a2 s.m1.q.length k2, .bool s.m1.busy, .slice a3 s.m1.rest.length k3, .int .i64 s.m1.acc, .int .i64 s.m1.w, .int .i64 s.m1.r, .bool s.x0, .bool s.x1] 44)).alloc (.cells #[.int .i64 6, .int .i64 en, .slice pa ps.length pc, .int .i64 n] 94)).alloc (.cells #[.int .i64 0, .slice none 0 0, .bool false, .slice none 0 0, .int .i64 0, .int .i64 0, .int .i64 0, .int .i64 0, .slice none 0 0, .bool false, .slice none 0 0, .int .i64 0, .int .i64 0, .int .i64 0, .bool false, .bool false] 44) = W ∧ Fr [] w W ∧ W.heap[w.heap.size]? = some (.cells #[.int .i64 s.m0.c, .slice a0 s.m0.q.length k0, .bool s.m0.busy, .slice a1 s.m0.rest.length k1, .int .i64 s.m0.acc, .int .i64 s.m0.w, .int .i64 s.m0.r, .int .i64 s.m1.c, .slice a2 s.m1.q.length k2, .bool s.m1.busy, .slice a3 s.m1.rest.length k3, .int .i64 s.m1.acc, .int .i64 s.m1.w, .int .i64 s.m1.r, .bool s.x0, .bool s.x1] 44 (0, 0)) ∧ W.heap[w.heap.size + 1]? = some (.cells #[.int .i64 6, .int .i64 en, .slice pa ps.length pc, .int .i64 n] 94 (0, 0)) ∧ W.heap[(w.heap.size + 2)]? = some (.cells #[.int .i64 0, .slice none 0 0, .bool false, .slice none 0 0, .int .i64 0, .int .i64 0, .int .i64 0, .int .i64 0, .slice none 0 0, .bool false, .slice none 0 0, .int .i64 0, .int .i64 0, .int .i64 0, .bool false, .bool false] 44 (0, 0)) := ⟨_, rfl, (((Fr.refl _ _).alloc _).alloc _).alloc _, keepA (keepA (newA rfl)), keepA (newA (by simp)), newA (by simp)⟩
  have x0 : w0.cell? ⟨w.heap.size, 0, none⟩ = some (.int .i64 s.m0.c) := cell_of (qv)
  have x1 : w0.cell? ⟨w.heap.size, 1, none⟩ = some (.slice a0 s.m0.q.length k0) := cell_of (qv)
  have x2 : w0.cell? ⟨w.heap.size, 2, none⟩ = some (.bool s.m0.busy) := cell_of (qv)
  have x3 : w0.cell? ⟨w.heap.size, 3, none⟩ = some (.slice a1 s.m0.rest.length k1) := cell_of (qv)
  have x4 : w0.cell? ⟨w.heap.size, 4, none⟩ = some (.int .i64 s.m0.acc) := cell_of (qv)
  have x5 : w0.cell? ⟨w.heap.size, 5, none⟩ = some (.int .i64 s.m0.w) := cell_of (qv)
  have x6 : w0.cell? ⟨w.heap.size, 6, none⟩ = some (.int .i64 s.m0.r) := cell_of (qv)
  have x7 : w0.cell? ⟨w.heap.size, 7, none⟩ = some (.int .i64 s.m1.c) := cell_of (qv)
  have x8 : w0.cell? ⟨w.heap.size, 8, none⟩ = some (.slice a2 s.m1.q.length k2) := cell_of (qv)
  have x9 : w0.cell? ⟨w.heap.size, 9, none⟩ = some (.bool s.m1.busy) := cell_of (qv)
  have x10 : w0.cell? ⟨w.heap.size, 10, none⟩ = some (.slice a3 s.m1.rest.length k3) := cell_of (qv)
  have x11 : w0.cell? ⟨w.heap.size, 11, none⟩ = some (.int .i64 s.m1.acc) := cell_of (qv)
  have x12 : w0.cell? ⟨w.heap.size, 12, none⟩ = some (.int .i64 s.m1.w) := cell_of (qv)
  have x13 : w0.cell? ⟨w.heap.size, 13, none⟩ = some (.int .i64 s.m1.r) := cell_of (qv)
  have x14 : w0.cell? ⟨w.heap.size, 14, none⟩ = some (.bool s.x0) := cell_of (qv)
  have x15 : w0.cell? ⟨w.heap.size, 15, none⟩ = some (.bool s.x1) := cell_of (qv)
  have e0 : w0.cell? ⟨w.heap.size + 1, 0, none⟩ = some (.int .i64 6) := cell_of qa
  have e1 : w0.cell? ⟨w.heap.size + 1, 1, none⟩ = some (.int .i64 en) := cell_of qa
  have e2 : w0.cell? ⟨w.heap.size + 1, 2, none⟩ = some (.slice pa ps.length pc) := cell_of qa
  have e3 : w0.cell? ⟨w.heap.size + 1, 3, none⟩ = some (.int .i64 n) := cell_of qa
  have hz0 : w.heap.size + 2 < w0.heap.size := lt_of_heap qz
  have HZ := Lib.hid qz
  have HF := Lib.hid f0
  have HQA := Lib.hid qa
  have HP := Lib.hid (And.intro (And.intro p0 p1) (And.intro p2 p3))
  have HC := Lib.hid (r15_close_any (w := w0) (N := (fun x => N x ∧ x < w.heap.size)) (v := .agg #[.int .i64 s.m0.c, .slice a0 s.m0.q.length k0, .bool s.m0.busy, .slice a1 s.m0.rest.length k1, .int .i64 s.m0.acc, .int .i64 s.m0.w, .int .i64 s.m0.r, .int .i64 s.m1.c, .slice a2 s.m1.q.length k2, .bool s.m1.busy, .slice a3 s.m1.rest.length k3, .int .i64 s.m1.acc, .int .i64 s.m1.w, .int .i64 s.m1.r, .bool s.x0, .bool s.x1]) (s := s) ⟨_, _, _, _, rfl, p0.keep f0 (by simp), p1.keep f0 (by simp), p2.keep f0 (by simp), p3.keep f0 (by simp)⟩ en)
  have HS := Lib.hid fun w' (f : Fr [] w w') => dx_close_any (hs.keep0 f) en
  generalize hU : (closeU en s) = U at *
  obtain ⟨mf, ee⟩ := U
  dsimp only at HC HS
  have HFl := Lib.hid hFl
  have HD := Lib.hid hd
  have HU := Lib.hid hU
  clear hFl hd hs hU p0 p1 p2 p3 f0 qv qa qz
  have HES := Lib.hid (Go.Proofs.enters_of Try.func17 (by kernel_rfl) rfl)
  go_enter Try.func63, Try.ntmps63
  go_wp2_with fail
  refine HC.out.mono ?_
  rintro e w1 ⟨v', rfl, f1, hc⟩
  obtain ⟨q0, q1, q2, q3, rfl, c0, c1, c2, c3⟩ := hc
  obtain ⟨b0, j0, rfl, _⟩ := id c0
  obtain ⟨b1, j1, rfl, _⟩ := id c1
  obtain ⟨b2, j2, rfl, _⟩ := id c2
  obtain ⟨b3, j3, rfl, _⟩ := id c3
  obtain ⟨wz, hwz, fz, qz⟩ : ∃ W, w1.alloc (.cells #[.int .i64 0, .slice none 0 0, .bool false, .slice none 0 0, .int .i64 0, .int .i64 0, .int .i64 0, .int .i64 0, .slice none 0 0, .bool false, .slice none 0 0, .int .i64 0, .int .i64 0, .int .i64 0, .bool false, .bool false] 44) = W ∧ Fr [] w1 W ∧ W.heap[w1.heap.size]? = some (.cells #[.int .i64 0, .slice none 0 0, .bool false, .slice none 0 0, .int .i64 0, .int .i64 0, .int .i64 0, .int .i64 0, .slice none 0 0, .bool false, .slice none 0 0, .int .i64 0, .int .i64 0, .int .i64 0, .bool false, .bool false] 44 (0, 0)) := ⟨_, rfl, (Fr.refl _ _).alloc _, newA rfl⟩
  have HQZ := Lib.hid qz
  have HFZ := Lib.hid fz
  have z1 := f1.size
  have hzz := lt_of_heap qz
  have HF1 := Lib.hid f1
  have HN1 := Lib.hid (And.intro (And.intro c0 c1) (And.intro c2 c3))
  clear x0 x1 x2 x3 x4 x5 x6 x7 x8 x9 x10 x11 x12 x13 x14 x15 qz fz f1 c0 c1 c2 c3 HC e0 e1 e2 e3
  go_wp2_with (refine wpl_store rfl 44 _ _ rfl w1.heap.size #[.int .i64 mf.m0.c, .slice b0 mf.m0.q.length j0, .bool mf.m0.busy, .slice b1 mf.m0.rest.length j1, .int .i64 mf.m0.acc, .int .i64 mf.m0.w, .int .i64 mf.m0.r, .int .i64 mf.m1.c, .slice b2 mf.m1.q.length j2, .bool mf.m1.busy, .slice b3 mf.m1.rest.length j3, .int .i64 mf.m1.acc, .int .i64 mf.m1.w, .int .i64 mf.m1.r, .bool mf.x0, .bool mf.x1] (by rfl) (by rfl) _ _ HQZ.out (by kernel_rfl) rfl (by simp [Value.oneCell']) ?_)
  intro w2 f2 q2
  clear hwz
  have f12 : Fr [] w1 w2 := HFZ.out.trans f2 (by simp) (fun x hx => .inr (by simp at hx; omega))
  have z2 := f12.size
  have hz2 : w1.heap.size < w2.heap.size := lt_of_heap q2
  have HF02 := Lib.hid (HF1.out.then0 f12)
  have HF2 := Lib.hid (HF.out.then0 (HF1.out.then0 f12))
  have HCV := Lib.hid ((show Cv w1 (fun x => (fun x => N x ∧ x < w.heap.size) x ∨ w0.heap.size ≤ x) (.agg #[.int .i64 mf.m0.c, .slice b0 mf.m0.q.length j0, .bool mf.m0.busy, .slice b1 mf.m0.rest.length j1, .int .i64 mf.m0.acc, .int .i64 mf.m0.w, .int .i64 mf.m0.r, .int .i64 mf.m1.c, .slice b2 mf.m1.q.length j2, .bool mf.m1.busy, .slice b3 mf.m1.rest.length j3, .int .i64 mf.m1.acc, .int .i64 mf.m1.w, .int .i64 mf.m1.r, .bool mf.x0, .bool mf.x1]) mf from ⟨_, _, _, _, rfl, HN1.out.1.1, HN1.out.1.2, HN1.out.2.1, HN1.out.2.2⟩).there.keep f12 (by simp)).there
  have HN2 := Lib.hid q2
  have HZ2 := Lib.hid (show w2.heap[(w.heap.size + 2)]? = some (.cells #[.int .i64 0, .slice none 0 0, .bool false, .slice none 0 0, .int .i64 0, .int .i64 0, .int .i64 0, .int .i64 0, .slice none 0 0, .bool false, .slice none 0 0, .int .i64 0, .int .i64 0, .int .i64 0, .bool false, .bool false] 44 (0, 0)) from f12.keep (HF1.out.keep HZ.out (by simp)) (by simp))
  have HA2 := Lib.hid (f12.keep (HF1.out.keep HQA.out (by simp)) (by simp))
  clear HQZ HFZ HN1 HF1 f2 f12
  have HFA := Lib.hid fun (w' : World) (f : w'.heap[w1.heap.size]? = some (.cells #[.int .i64 mf.m0.c, .slice b0 mf.m0.q.length j0, .bool mf.m0.busy, .slice b1 mf.m0.rest.length j1, .int .i64 mf.m0.acc, .int .i64 mf.m0.w, .int .i64 mf.m0.r, .int .i64 mf.m1.c, .slice b2 mf.m1.q.length j2, .bool mf.m1.busy, .slice b3 mf.m1.rest.length j3, .int .i64 mf.m1.acc, .int .i64 mf.m1.w, .int .i64 mf.m1.r, .bool mf.x0, .bool mf.x1] 44 (0, 0)) ∧ w'.heap[w.heap.size + 1]? = some (.cells #[.int .i64 6, .int .i64 en, .slice pa ps.length pc, .int .i64 n] 94 (0, 0))) => (show w'.cell? ⟨w1.heap.size, 0, none⟩ = some (.int .i64 mf.m0.c) ∧ w'.cell? ⟨w1.heap.size, 1, none⟩ = some (.slice b0 mf.m0.q.length j0) ∧ w'.cell? ⟨w1.heap.size, 2, none⟩ = some (.bool mf.m0.busy) ∧ w'.cell? ⟨w1.heap.size, 3, none⟩ = some (.slice b1 mf.m0.rest.length j1) ∧ w'.cell? ⟨w1.heap.size, 4, none⟩ = some (.int .i64 mf.m0.acc) ∧ w'.cell? ⟨w1.heap.size, 5, none⟩ = some (.int .i64 mf.m0.w) ∧ w'.cell? ⟨w1.heap.size, 6, none⟩ = some (.int .i64 mf.m0.r) ∧ w'.cell? ⟨w1.heap.size, 7, none⟩ = some (.int .i64 mf.m1.c) ∧ w'.cell? ⟨w1.heap.size, 8, none⟩ = some (.slice b2 mf.m1.q.length j2) ∧ w'.cell? ⟨w1.heap.size, 9, none⟩ = some (.bool mf.m1.busy) ∧ w'.cell? ⟨w1.heap.size, 10, none⟩ = some (.slice b3 mf.m1.rest.length j3) ∧ w'.cell? ⟨w1.heap.size, 11, none⟩ = some (.int .i64 mf.m1.acc) ∧ w'.cell? ⟨w1.heap.size, 12, none⟩ = some (.int .i64 mf.m1.w) ∧ w'.cell? ⟨w1.heap.size, 13, none⟩ = some (.int .i64 mf.m1.r) ∧ w'.cell? ⟨w1.heap.size, 14, none⟩ = some (.bool mf.x0) ∧ w'.cell? ⟨w1.heap.size, 15, none⟩ = some (.bool mf.x1) ∧ w'.cell? ⟨w.heap.size + 1, 1, none⟩ = some (.int .i64 en) from ⟨cell_of f.1, cell_of f.1, cell_of f.1, cell_of f.1, cell_of f.1, cell_of f.1, cell_of f.1, cell_of f.1, cell_of f.1, cell_of f.1, cell_of f.1, cell_of f.1, cell_of f.1, cell_of f.1, cell_of f.1, cell_of f.1, cell_of f.2⟩)
  go_wp2_with fail
  have fd : Fr [] w2 w2.drew := (Fr.refl _ _).drew
  have HZS := Lib.hid (show w2.drew.heap[(w.heap.size + 2)]? = some (.cells #[.int .i64 0, .slice none 0 0, .bool false, .slice none 0 0, .int .i64 0, .int .i64 0, .int .i64 0, .int .i64 0, .slice none 0 0, .bool false, .slice none 0 0, .int .i64 0, .int .i64 0, .int .i64 0, .bool false, .bool false] 44 (0, 0)) from fd.keep HZ2.out (by simp))
  have HNc := Lib.hid (show w2.drew.heap[w1.heap.size]? = some (.cells #[.int .i64 mf.m0.c, .slice b0 mf.m0.q.length j0, .bool mf.m0.busy, .slice b1 mf.m0.rest.length j1, .int .i64 mf.m0.acc, .int .i64 mf.m0.w, .int .i64 mf.m0.r, .int .i64 mf.m1.c, .slice b2 mf.m1.q.length j2, .bool mf.m1.busy, .slice b3 mf.m1.rest.length j3, .int .i64 mf.m1.acc, .int .i64 mf.m1.w, .int .i64 mf.m1.r, .bool mf.x0, .bool mf.x1] 44 (0, 0)) from fd.keep HN2.out (by simp))
  have HAc := Lib.hid (fd.keep HA2.out (by simp))
  refine wp_region_order [(0, true), (1, true), (2, true), (3, true), (4, true), (6, true), (5, false), (7, true), (8, true), (9, false), (10, true)] (fun w' => w'.heap[w1.heap.size]? = some (.cells #[.int .i64 mf.m0.c, .slice b0 mf.m0.q.length j0, .bool mf.m0.busy, .slice b1 mf.m0.rest.length j1, .int .i64 mf.m0.acc, .int .i64 mf.m0.w, .int .i64 mf.m0.r, .int .i64 mf.m1.c, .slice b2 mf.m1.q.length j2, .bool mf.m1.busy, .slice b3 mf.m1.rest.length j3, .int .i64 mf.m1.acc, .int .i64 mf.m1.w, .int .i64 mf.m1.r, .bool mf.x0, .bool mf.x1] 44 (0, 0)) ∧ w'.heap[w.heap.size + 1]? = some (.cells #[.int .i64 6, .int .i64 en, .slice pa ps.length pc, .int .i64 n] 94 (0, 0))) (by kernel_rfl) (by kernel_rfl) ⟨HNc.out, HAc.out⟩ ?_
  intro OPS HOPS
  have hops := HOPS.out
  try simp only [List.append_eq, List.cons_append, List.nil_append] at hops
  replace HOPS := Lib.hid hops
  clear hops
  refine walkO_take (o := _) (v := ?_) (by rw [HOPS.out]; simp only [gA, gB, gC]; exact rfl) (Or.inl ⟨rfl, ?_⟩) ?_
  rotate_left
  · (intro w hSw; have hSx := HFA.out _ hSw; (try dsimp only at hSx); clear hSw; go_simp) <;> (with_reducible rfl)
  simp only [Act.put, gD, gE, gF]
  refine walkO_take (o := _) (v := ?_) (by rw [HOPS.out]; simp only [gA, gB, gC]; exact rfl) (Or.inl ⟨rfl, ?_⟩) ?_
  rotate_left
  · (intro w hSw; have hSx := HFA.out _ hSw; (try dsimp only at hSx); clear hSw; go_simp) <;> (with_reducible rfl)
  simp only [Act.put, gD, gE, gF]
  refine walkO_take (o := _) (v := ?_) (by rw [HOPS.out]; simp only [gA, gB, gC]; exact rfl) (Or.inl ⟨rfl, ?_⟩) ?_
  rotate_left
  · (intro w hSw; have hSx := HFA.out _ hSw; (try dsimp only at hSx); clear hSw; go_simp) <;> (with_reducible rfl)
  simp only [Act.put, gD, gE, gF]
  refine walkO_take (o := _) (v := ?_) (by rw [HOPS.out]; simp only [gA, gB, gC]; exact rfl) (Or.inl ⟨rfl, ?_⟩) ?_
  rotate_left
  · (intro w hSw; have hSx := HFA.out _ hSw; (try dsimp only at hSx); clear hSw; go_simp) <;> (with_reducible rfl)
  simp only [Act.put, gD, gE, gF]
  refine walkO_take (o := _) (v := ?_) (by rw [HOPS.out]; simp only [gA, gB, gC]; exact rfl) (Or.inl ⟨rfl, ?_⟩) ?_
  rotate_left
  · (intro w hSw; have hSx := HFA.out _ hSw; (try dsimp only at hSx); clear hSw; go_simp) <;> (with_reducible rfl)
  simp only [Act.put, gD, gE, gF]
  refine walkO_take (o := _) (v := ?_) (by rw [HOPS.out]; simp only [gA, gB, gC]; exact rfl) (Or.inl ⟨rfl, ?_⟩) ?_
  rotate_left
  · (intro w hSw; have hSx := HFA.out _ hSw; (try dsimp only at hSx); clear hSw; go_simp) <;> (with_reducible rfl)
  simp only [Act.put, gD, gE, gF]
  refine walkO_call (o := _) (by rw [HOPS.out]; simp only [gA, gB, gC]; exact rfl) (fun K HK => ?_)
  refine step_call rfl 17 #[(.tmp 201), (.tmp 203)] #[22, 3] rfl HES.out #[.pointer (some ⟨d, 0, none⟩), .int .i64 en] (by simp [Act.eval]) (HS.out _ (HF2.out.then0 fd)) ?_
  rintro e w3 ⟨rfl, ⟨S, hS, f3⟩, F', hF', h3⟩
  have hnS : ∀ x, w.heap.size ≤ x → x < w2.heap.size → x ∉ S := fun x h1 h2 hm => by rcases hS x hm with h | h; have := HFl.out x h; omega; exact absurd (show w2.heap.size ≤ x from h) (by omega)
  have HZS := Lib.hid (show w3.heap[(w.heap.size + 2)]? = some (.cells #[.int .i64 0, .slice none 0 0, .bool false, .slice none 0 0, .int .i64 0, .int .i64 0, .int .i64 0, .int .i64 0, .slice none 0 0, .bool false, .slice none 0 0, .int .i64 0, .int .i64 0, .int .i64 0, .bool false, .bool false] 44 (0, 0)) from f3.keep HZS.out (hnS _ (by omega) (by omega)))
  have HNc := Lib.hid (show w3.heap[w1.heap.size]? = some (.cells #[.int .i64 mf.m0.c, .slice b0 mf.m0.q.length j0, .bool mf.m0.busy, .slice b1 mf.m0.rest.length j1, .int .i64 mf.m0.acc, .int .i64 mf.m0.w, .int .i64 mf.m0.r, .int .i64 mf.m1.c, .slice b2 mf.m1.q.length j2, .bool mf.m1.busy, .slice b3 mf.m1.rest.length j3, .int .i64 mf.m1.acc, .int .i64 mf.m1.w, .int .i64 mf.m1.r, .bool mf.x0, .bool mf.x1] 44 (0, 0)) from f3.keep HNc.out (hnS _ (by omega) hz2))
  have HAc := Lib.hid (f3.keep HAc.out (hnS _ (by omega) (by omega)))
  refine ⟨_, rfl, ?_⟩
  refine HK.out (fun w' => w'.heap[w1.heap.size]? = some (.cells #[.int .i64 mf.m0.c, .slice b0 mf.m0.q.length j0, .bool mf.m0.busy, .slice b1 mf.m0.rest.length j1, .int .i64 mf.m0.acc, .int .i64 mf.m0.w, .int .i64 mf.m0.r, .int .i64 mf.m1.c, .slice b2 mf.m1.q.length j2, .bool mf.m1.busy, .slice b3 mf.m1.rest.length j3, .int .i64 mf.m1.acc, .int .i64 mf.m1.w, .int .i64 mf.m1.r, .bool mf.x0, .bool mf.x1] 44 (0, 0)) ∧ w'.heap[w.heap.size + 1]? = some (.cells #[.int .i64 6, .int .i64 en, .slice pa ps.length pc, .int .i64 n] 94 (0, 0))) _ _ (fun _ h => h) (⟨HNc.out, HAc.out⟩) ?_
  clear HK K
  simp only [Act.put, gD, gE, gF]
  refine walkO_take (o := _) (v := ?_) (by rw [HOPS.out]; simp only [gA, gB, gC]; exact rfl) (Or.inl ⟨rfl, ?_⟩) ?_
  rotate_left
  · (intro w hSw; have hSx := HFA.out _ hSw; (try dsimp only at hSx); clear hSw; go_simp) <;> (with_reducible rfl)
  simp only [Act.put, gD, gE, gF]
  refine walkO_take (o := _) (v := ?_) (by rw [HOPS.out]; simp only [gA, gB, gC]; exact rfl) (Or.inl ⟨rfl, ?_⟩) ?_
  rotate_left
  · (intro w hSw; have hSx := HFA.out _ hSw; (try dsimp only at hSx); clear hSw; go_simp) <;> (with_reducible rfl)
  simp only [Act.put, gD, gE, gF]
  refine walkO_call (o := _) (by rw [HOPS.out]; simp only [gA, gB, gC]; exact rfl) (fun K HK => ?_)
  refine step_store7 rfl 44 (.tmp 7) (.tmp 200) rfl (w.heap.size + 2) #[.int .i64 mf.m0.c, .slice b0 mf.m0.q.length j0, .bool mf.m0.busy, .slice b1 mf.m0.rest.length j1, .int .i64 mf.m0.acc, .int .i64 mf.m0.w, .int .i64 mf.m0.r, .int .i64 mf.m1.c, .slice b2 mf.m1.q.length j2, .bool mf.m1.busy, .slice b3 mf.m1.rest.length j3, .int .i64 mf.m1.acc, .int .i64 mf.m1.w, .int .i64 mf.m1.r, .bool mf.x0, .bool mf.x1] (by simp [Act.eval]) (by simp [Act.eval]) _ _ HZS.out (by kernel_rfl) rfl (by simp [Value.oneCell']) ?_
  intro wf ff qf
  refine HK.out (fun w' => w'.heap[w1.heap.size]? = some (.cells #[.int .i64 mf.m0.c, .slice b0 mf.m0.q.length j0, .bool mf.m0.busy, .slice b1 mf.m0.rest.length j1, .int .i64 mf.m0.acc, .int .i64 mf.m0.w, .int .i64 mf.m0.r, .int .i64 mf.m1.c, .slice b2 mf.m1.q.length j2, .bool mf.m1.busy, .slice b3 mf.m1.rest.length j3, .int .i64 mf.m1.acc, .int .i64 mf.m1.w, .int .i64 mf.m1.r, .bool mf.x0, .bool mf.x1] 44 (0, 0)) ∧ w'.heap[w.heap.size + 1]? = some (.cells #[.int .i64 6, .int .i64 en, .slice pa ps.length pc, .int .i64 n] 94 (0, 0))) _ _ (fun _ h => h) (⟨ff.keep HNc.out (by intro hm; simp at hm; omega), ff.keep HAc.out (by intro hm; simp at hm)⟩) ?_
  clear HK K
  try simp only [Act.put, gD, gE, gF]
  refine walkO_take (o := _) (v := ?_) (by rw [HOPS.out]; simp only [gA, gB, gC]; exact rfl) (Or.inl ⟨rfl, ?_⟩) ?_
  rotate_left
  · (intro w hSw; have hSx := HFA.out _ hSw; (try dsimp only at hSx); clear hSw; go_simp) <;> (with_reducible rfl)
  simp only [Act.put, gD, gE, gF]
  refine walkO_done ?_
  clear HOPS OPS
  go_wp2_with fail
  have y0 : wf.cell? ⟨(w.heap.size + 2), 0, none⟩ = some (.int .i64 mf.m0.c) := cell_of (qf)
  have y1 : wf.cell? ⟨(w.heap.size + 2), 1, none⟩ = some (.slice b0 mf.m0.q.length j0) := cell_of (qf)
  have y2 : wf.cell? ⟨(w.heap.size + 2), 2, none⟩ = some (.bool mf.m0.busy) := cell_of (qf)
  have y3 : wf.cell? ⟨(w.heap.size + 2), 3, none⟩ = some (.slice b1 mf.m0.rest.length j1) := cell_of (qf)
  have y4 : wf.cell? ⟨(w.heap.size + 2), 4, none⟩ = some (.int .i64 mf.m0.acc) := cell_of (qf)
  have y5 : wf.cell? ⟨(w.heap.size + 2), 5, none⟩ = some (.int .i64 mf.m0.w) := cell_of (qf)
  have y6 : wf.cell? ⟨(w.heap.size + 2), 6, none⟩ = some (.int .i64 mf.m0.r) := cell_of (qf)
  have y7 : wf.cell? ⟨(w.heap.size + 2), 7, none⟩ = some (.int .i64 mf.m1.c) := cell_of (qf)
  have y8 : wf.cell? ⟨(w.heap.size + 2), 8, none⟩ = some (.slice b2 mf.m1.q.length j2) := cell_of (qf)
  have y9 : wf.cell? ⟨(w.heap.size + 2), 9, none⟩ = some (.bool mf.m1.busy) := cell_of (qf)
  have y10 : wf.cell? ⟨(w.heap.size + 2), 10, none⟩ = some (.slice b3 mf.m1.rest.length j3) := cell_of (qf)
  have y11 : wf.cell? ⟨(w.heap.size + 2), 11, none⟩ = some (.int .i64 mf.m1.acc) := cell_of (qf)
  have y12 : wf.cell? ⟨(w.heap.size + 2), 12, none⟩ = some (.int .i64 mf.m1.w) := cell_of (qf)
  have y13 : wf.cell? ⟨(w.heap.size + 2), 13, none⟩ = some (.int .i64 mf.m1.r) := cell_of (qf)
  have y14 : wf.cell? ⟨(w.heap.size + 2), 14, none⟩ = some (.bool mf.x0) := cell_of (qf)
  have y15 : wf.cell? ⟨(w.heap.size + 2), 15, none⟩ = some (.bool mf.x1) := cell_of (qf)
  refine bodyPost_ret (v := .tuple #[.pointer (some ⟨d, 0, none⟩), .agg #[.int .i64 mf.m0.c, .slice b0 mf.m0.q.length j0, .bool mf.m0.busy, .slice b1 mf.m0.rest.length j1, .int .i64 mf.m0.acc, .int .i64 mf.m0.w, .int .i64 mf.m0.r, .int .i64 mf.m1.c, .slice b2 mf.m1.q.length j2, .bool mf.m1.busy, .slice b3 mf.m1.rest.length j3, .int .i64 mf.m1.acc, .int .i64 mf.m1.w, .int .i64 mf.m1.r, .bool mf.x0, .bool mf.x1], .bool true]) (by simp [results, Try.results63, go_sem, y0, y1, y2, y3, y4, y5, y6, y7, y8, y9, y10, y11, y12, y13, y14, y15]) rfl ?_
  exact step_post15 (w0 := w0) (z := w0.heap.size) HF.out (HF02.out.then0 fd) (by omega) (Nat.le_refl _) hS f3 (fun x hx => by rcases hF' x hx with h | h | h; exact .inl h; exact h.elim; exact .inr (.inr h)) h3 ff ((HCV.out.keep fd (by simp)).mono (fun x hx => ⟨hx.1.1.imp (fun h => h.1) id, hx.2⟩)) HFl.out HD.out HNW.out

end Go.Proofs.Ytdoamelhclnphaa
