/-
  Law 15: step: Copy.
-/
import Derived.Test.YtdoamelhclnphaaGs
import Derived.Test.YtdoamelhclnphaaStep15
import Derived.Test.YtdoamelhclnphaaDxCopy
namespace Go.Proofs.Ytdoamelhclnphaa
open Go.RowKit
set_option maxRecDepth 100000

theorem dw_close1_any {w : World} {F : Nat → Prop} {d b0 b1 : Nat} {F0 F1 N0 N1 : Nat → Prop} {s : DM} (h : DW w F d b0 b1 F0 F1 N0 N1 s) :
    Calls Try.prog 17 #[.pointer (some ⟨d, 0, none⟩), .int .i64 1] w fun e w' => ∃ k : Int, e = .returned (.int .i64 k) ∧ ∃ S, (∀ x ∈ S, F x ∨ w.heap.size ≤ x) ∧ Fr S w w' := by
  cases hx : s.x1
  · refine (dw_close1 h hx).mono ?_
    rintro e w' ⟨rfl, ⟨S, hS, f⟩, _⟩
    exact ⟨_, rfl, S, hS, f⟩
  · refine (dw_close1_yes h hx).mono ?_
    rintro e w' ⟨rfl, rfl⟩
    exact ⟨_, rfl, [], by simp, Fr.refl _ _⟩
set_option maxHeartbeats 16000000 in
theorem step15_any {w : World} {F N : Nat → Prop} {d : Nat} {s : DM} {v : Value} {pa : Option Addr} {pc : Nat} {ps : Parts} {n en what : Int} (hs : Dx w F d s) (h : Cv w N v s) (hd : ∀ x, F x → ¬ N x) (HNZ : ∀ x, N x → x < w.heap.size) (q0 : (what == 0) = false) (q1 : (what == 1) = false) (q2 : (what == 2) = false) (q3 : (what == 3) = false) (q4 : (what == 4) = false) (q5 : (what == 5) = false) (q6 : (what == 6) = false) :
    Calls Try.prog 63 #[.pointer (some ⟨d, 0, none⟩), v, .agg #[.int .i64 what, .int .i64 en, .slice pa ps.length pc, .int .i64 n]] w (Step15 w F N s) := by
  have HNW := Lib.hid HNZ
  clear HNZ
  have hFl := hs.lt
  replace h := h.there
  obtain ⟨u0, u1, u2, u3, rfl, p0, p1, p2, p3⟩ := h
  obtain ⟨a0, k0, rfl, _⟩ := id p0
  obtain ⟨a1, k1, rfl, _⟩ := id p1
  obtain ⟨a2, k2, rfl, _⟩ := id p2
  obtain ⟨a3, k3, rfl, _⟩ := id p3
  obtain ⟨w0, hw0, f0, qv, qa, qz⟩ : ∃ W, ((w.alloc (.cells #[.int .i64 s.m0.c, .slice a0 s.m0.q.length k0, .bool s.m0.busy, .slice a1 s.m0.rest.length k1, .int .i64 s.m0.acc, .int .i64 s.m0.w, .int .i64 s.m0.r, .int .i64 s.m1.c, .slice a2 s.m1.q.length k2, .bool s.m1.busy, .slice a3 s.m1.rest.length k3, .int .i64 s.m1.acc, .int .i64 s.m1.w, .int .i64 s.m1.r, .bool s.x0, .bool s.x1] 44)).alloc (.cells #[.int .i64 what, .int .i64 en, .slice pa ps.length pc, .int .i64 n] 94)).alloc (.cells #[.int .i64 0, .slice none 0 0, .bool false, .slice none 0 0, .int .i64 0, .int .i64 0, .int .i64 0, .int .i64 0, .slice none 0 0, .bool false, .slice none 0 0, .int .i64 0, .int .i64 0, .int .i64 0, .bool false, .bool false] 44) = W ∧ Fr [] w W ∧ W.heap[w.heap.size]? = some (.cells #[.int .i64 s.m0.c, .slice a0 s.m0.q.length k0, .bool s.m0.busy, .slice a1 s.m0.rest.length k1, .int .i64 s.m0.acc, .int .i64 s.m0.w, .int .i64 s.m0.r, .int .i64 s.m1.c, .slice a2 s.m1.q.length k2, .bool s.m1.busy, .slice a3 s.m1.rest.length k3, .int .i64 s.m1.acc, .int .i64 s.m1.w, .int .i64 s.m1.r, .bool s.x0, .bool s.x1] 44 (0, 0)) ∧ W.heap[w.heap.size + 1]? = some (.cells #[.int .i64 what, .int .i64 en, .slice pa ps.length pc, .int .i64 n] 94 (0, 0)) ∧ W.heap[(w.heap.size + 2)]? = some (.cells #[.int .i64 0, .slice none 0 0, .bool false, .slice none 0 0, .int .i64 0, .int .i64 0, .int .i64 0, .int .i64 0, .slice none 0 0, .bool false, .slice none 0 0, .int .i64 0, .int .i64 0, .int .i64 0, .bool false, .bool false] 44 (0, 0)) := ⟨_, rfl, (((Fr.refl _ _).alloc _).alloc _).alloc _, keepA (keepA (newA rfl)), keepA (newA (by simp)), newA (by simp)⟩
  have x0 : w0.cell? ⟨w.heap.size, 0, none⟩ = some (.int .i64 s.m0.c) := cell_of (qv)
  have x1 : w0.cell? ⟨w.heap.size, 1, none⟩ = some (.slice a0 s.m0.q.length k0) := cell_of (qv)
  have x2 : w0.cell? ⟨w.heap.size, 2, none⟩ = some (.bool s.m0.busy) := cell_of (qv)
  have x3 : w0.cell? ⟨w.heap.size, 3, none⟩ = some (.slice a1 s.m0.rest.length k1) := cell_of (qv)
  have x4 : w0.cell? ⟨w.heap.size, 4, none⟩ = some (.int .i64 s.m0.acc) := cell_of (qv)
  have x5 : w0.cell? ⟨w.heap.size, 5, none⟩ = some (.int .i64 s.m0.w) := cell_of (qv)
  have x6 : w0.cell? ⟨w.heap.size, 6, none⟩ = some (.int .i64 s.m0.r) := cell_of (qv)
  have x7 : w0.cell? ⟨w.heap.size, 7, none⟩ = some (.int .i64 s.m1.c) := cell_of (qv)
  have x8 : w0.cell? ⟨w.heap.size, 8, none⟩ = some (.slice a2 s.m1.q.length k2) := cell_of (qv)
  have x9 : w0.cell? ⟨w.heap.size, 9, none⟩ = some (.bool s.m1.busy) := cell_of (qv)
  have x10 : w0.cell? ⟨w.heap.size, 10, none⟩ = some (.slice a3 s.m1.rest.length k3) := cell_of (qv)
  have x11 : w0.cell? ⟨w.heap.size, 11, none⟩ = some (.int .i64 s.m1.acc) := cell_of (qv)
  have x12 : w0.cell? ⟨w.heap.size, 12, none⟩ = some (.int .i64 s.m1.w) := cell_of (qv)
  have x13 : w0.cell? ⟨w.heap.size, 13, none⟩ = some (.int .i64 s.m1.r) := cell_of (qv)
  have x14 : w0.cell? ⟨w.heap.size, 14, none⟩ = some (.bool s.x0) := cell_of (qv)
  have x15 : w0.cell? ⟨w.heap.size, 15, none⟩ = some (.bool s.x1) := cell_of (qv)
  have e0 : w0.cell? ⟨w.heap.size + 1, 0, none⟩ = some (.int .i64 what) := cell_of qa
  have e1 : w0.cell? ⟨w.heap.size + 1, 1, none⟩ = some (.int .i64 en) := cell_of qa
  have e2 : w0.cell? ⟨w.heap.size + 1, 2, none⟩ = some (.slice pa ps.length pc) := cell_of qa
  have e3 : w0.cell? ⟨w.heap.size + 1, 3, none⟩ = some (.int .i64 n) := cell_of qa
  have hz0 : w.heap.size + 2 < w0.heap.size := lt_of_heap qz
  have HZ := Lib.hid qz
  have HF := Lib.hid f0
  have HQA := Lib.hid qa
  have HP := Lib.hid (And.intro (And.intro p0 p1) (And.intro p2 p3))
  have HCV := Lib.hid ((show Cv w0 (fun x => N x ∧ x < w.heap.size) (.agg #[.int .i64 s.m0.c, .slice a0 s.m0.q.length k0, .bool s.m0.busy, .slice a1 s.m0.rest.length k1, .int .i64 s.m0.acc, .int .i64 s.m0.w, .int .i64 s.m0.r, .int .i64 s.m1.c, .slice a2 s.m1.q.length k2, .bool s.m1.busy, .slice a3 s.m1.rest.length k3, .int .i64 s.m1.acc, .int .i64 s.m1.w, .int .i64 s.m1.r, .bool s.x0, .bool s.x1]) s from ⟨_, _, _, _, rfl, p0.keep f0 (by simp), p1.keep f0 (by simp), p2.keep f0 (by simp), p3.keep f0 (by simp)⟩).there)
  have HB := Lib.hid qv
  obtain ⟨s0, s1, G0, G1, hdr⟩ := hs
  have HCP := Lib.hid (dx_copy (hdr.keep HF.out (by simp)))
  have HFl := Lib.hid hFl
  have HD := Lib.hid hd
  clear hFl hd hdr p0 p1 p2 p3 f0 qv qa qz
  go_enter Try.func63, Try.ntmps63
  go_wp2_with fail
  refine HCP.out.mono ?_
  rintro e w1 ⟨d', F', Fo, Go0, Go1, M0, M1, rfl, f1, hF', hc1, ho1, hap⟩
  have H1 := Lib.hid (And.intro hF' (And.intro hc1 (And.intro f1 hap)))
  have HCN := Lib.hid (dw_cancel0 ho1)
  clear hF' hc1 f1 hap ho1 x0 x1 x2 x3 x4 x5 x6 x7 x8 x9 x10 x11 x12 x13 x14 x15 e0 e1 e2 e3
  go_wp2_with fail
  refine HCN.out.mono ?_
  rintro e w2 ⟨rfl, ⟨S2, hS2, f2⟩, F2, hF2, t0, t1, P0, P1, Q0, Q1, ho2⟩
  have HCL := Lib.hid (dw_close1_any ho2)
  have H2 := Lib.hid (And.intro hS2 (And.intro f2 hF2))
  generalize (cancelM s.m0).m = mc at *
  generalize (cancelM s.m0).n = mcn at *
  generalize (cancelM s.m0).err = mce at *
  clear hS2 f2 hF2 ho2
  go_wp2_with fail
  refine HCL.out.mono ?_
  rintro e w3 ⟨ke, rfl, S3, hS3, f3⟩
  obtain ⟨hF', hc1, f1, hap⟩ := H1.out
  obtain ⟨hS2, f2, hF2⟩ := H2.out
  have z1 := f1.size
  have z2 := f2.size
  have f23 : Fr (S2 ++ S3) w1 w3 := f2.trans f3 (fun x hx => .inl (List.mem_append_left _ hx)) (fun x hx => .inl (List.mem_append_right _ hx))
  have hS : ∀ x ∈ S2 ++ S3, Fo x ∨ w1.heap.size ≤ x := fun x hx => by rcases List.mem_append.1 hx with h | h; exact hS2 x h; rcases hS3 x h with h | h; rcases hF2 x h with h | h | h; exact .inl h; exact h.elim; exact .inr h; exact .inr (by omega)
  have hc3 := hc1.keep f23 (fun x hx hF => by rcases hS x hx with h | h; exact (hap x h).2 hF; have := hc1.lt x hF; omega)
  have HS3 := Lib.hid (And.intro (show ∀ x ∈ S2 ++ S3, F x ∨ w0.heap.size ≤ x from fun x hx => (hS x hx).imp (fun h => (hap x h).1) (fun h => by omega)) (And.intro (show Fr (S2 ++ S3) w0 w3 from f1.trans f23 (by simp) (fun x hx => .inl hx)) (And.intro hF' hc3)))
  have hnS : ∀ x, w.heap.size ≤ x → x < w0.heap.size → x ∉ S2 ++ S3 := fun x h1 h2 hm => by rcases HS3.out.1 x hm with h | h; have := HFl.out x h; omega; omega
  have HB4 := Lib.hid (show w3.heap[w.heap.size]? = some (.cells #[.int .i64 s.m0.c, .slice a0 s.m0.q.length k0, .bool s.m0.busy, .slice a1 s.m0.rest.length k1, .int .i64 s.m0.acc, .int .i64 s.m0.w, .int .i64 s.m0.r, .int .i64 s.m1.c, .slice a2 s.m1.q.length k2, .bool s.m1.busy, .slice a3 s.m1.rest.length k3, .int .i64 s.m1.acc, .int .i64 s.m1.w, .int .i64 s.m1.r, .bool s.x0, .bool s.x1] 44 (0, 0)) from HS3.out.2.1.keep HB.out (hnS _ (by omega) (by omega)))
  have HZS := Lib.hid (show w3.heap[(w.heap.size + 2)]? = some (.cells #[.int .i64 0, .slice none 0 0, .bool false, .slice none 0 0, .int .i64 0, .int .i64 0, .int .i64 0, .int .i64 0, .slice none 0 0, .bool false, .slice none 0 0, .int .i64 0, .int .i64 0, .int .i64 0, .bool false, .bool false] 44 (0, 0)) from HS3.out.2.1.keep HZ.out (hnS _ (by omega) (by omega)))
  clear hF' hc1 f1 hap hS2 f2 hF2 z1 z2 f23 hS hc3 hnS hS3 f3
  have HFA := Lib.hid fun (w' : World) (f : w'.heap[w.heap.size]? = some (.cells #[.int .i64 s.m0.c, .slice a0 s.m0.q.length k0, .bool s.m0.busy, .slice a1 s.m0.rest.length k1, .int .i64 s.m0.acc, .int .i64 s.m0.w, .int .i64 s.m0.r, .int .i64 s.m1.c, .slice a2 s.m1.q.length k2, .bool s.m1.busy, .slice a3 s.m1.rest.length k3, .int .i64 s.m1.acc, .int .i64 s.m1.w, .int .i64 s.m1.r, .bool s.x0, .bool s.x1] 44 (0, 0))) => (show w'.cell? ⟨w.heap.size, 0, none⟩ = some (.int .i64 s.m0.c) ∧ w'.cell? ⟨w.heap.size, 1, none⟩ = some (.slice a0 s.m0.q.length k0) ∧ w'.cell? ⟨w.heap.size, 2, none⟩ = some (.bool s.m0.busy) ∧ w'.cell? ⟨w.heap.size, 3, none⟩ = some (.slice a1 s.m0.rest.length k1) ∧ w'.cell? ⟨w.heap.size, 4, none⟩ = some (.int .i64 s.m0.acc) ∧ w'.cell? ⟨w.heap.size, 5, none⟩ = some (.int .i64 s.m0.w) ∧ w'.cell? ⟨w.heap.size, 6, none⟩ = some (.int .i64 s.m0.r) ∧ w'.cell? ⟨w.heap.size, 7, none⟩ = some (.int .i64 s.m1.c) ∧ w'.cell? ⟨w.heap.size, 8, none⟩ = some (.slice a2 s.m1.q.length k2) ∧ w'.cell? ⟨w.heap.size, 9, none⟩ = some (.bool s.m1.busy) ∧ w'.cell? ⟨w.heap.size, 10, none⟩ = some (.slice a3 s.m1.rest.length k3) ∧ w'.cell? ⟨w.heap.size, 11, none⟩ = some (.int .i64 s.m1.acc) ∧ w'.cell? ⟨w.heap.size, 12, none⟩ = some (.int .i64 s.m1.w) ∧ w'.cell? ⟨w.heap.size, 13, none⟩ = some (.int .i64 s.m1.r) ∧ w'.cell? ⟨w.heap.size, 14, none⟩ = some (.bool s.x0) ∧ w'.cell? ⟨w.heap.size, 15, none⟩ = some (.bool s.x1) from ⟨cell_of f, cell_of f, cell_of f, cell_of f, cell_of f, cell_of f, cell_of f, cell_of f, cell_of f, cell_of f, cell_of f, cell_of f, cell_of f, cell_of f, cell_of f, cell_of f⟩)
  go_wp2_with fail
  have fd : Fr [] w3 w3.drew := (Fr.refl _ _).drew
  replace HZS := Lib.hid (show w3.drew.heap[(w.heap.size + 2)]? = some (.cells #[.int .i64 0, .slice none 0 0, .bool false, .slice none 0 0, .int .i64 0, .int .i64 0, .int .i64 0, .int .i64 0, .slice none 0 0, .bool false, .slice none 0 0, .int .i64 0, .int .i64 0, .int .i64 0, .bool false, .bool false] 44 (0, 0)) from fd.keep HZS.out (by simp))
  refine wp_region_order [(0, true), (1, true), (2, true), (3, true), (4, true), (5, false), (6, true)] (fun w' => w'.heap[w.heap.size]? = some (.cells #[.int .i64 s.m0.c, .slice a0 s.m0.q.length k0, .bool s.m0.busy, .slice a1 s.m0.rest.length k1, .int .i64 s.m0.acc, .int .i64 s.m0.w, .int .i64 s.m0.r, .int .i64 s.m1.c, .slice a2 s.m1.q.length k2, .bool s.m1.busy, .slice a3 s.m1.rest.length k3, .int .i64 s.m1.acc, .int .i64 s.m1.w, .int .i64 s.m1.r, .bool s.x0, .bool s.x1] 44 (0, 0))) (by kernel_rfl) (by kernel_rfl) (fd.keep HB4.out (by simp)) ?_
  intro OPS HOPS
  have hops := HOPS.out
  try simp only [List.append_eq, List.cons_append, List.nil_append] at hops
  replace HOPS := Lib.hid hops
  clear hops
  refine walkO_take (o := _) (v := ?_) (by rw [HOPS.out]; simp only [gA, gB, gC]; exact rfl) (Or.inl ⟨rfl, ?_⟩) ?_
  rotate_left
  · (intro w hSw; have hSx := HFA.out _ hSw; (try dsimp only at hSx); clear hSw; go_simp) <;> (with_reducible rfl)
  simp only [Act.put, gD, gE, gF]
  refine walkO_take (o := _) (v := ?_) (by rw [HOPS.out]; simp only [gA, gB, gC]; exact rfl) (Or.inl ⟨rfl, ?_⟩) ?_
  rotate_left
  · (intro w hSw; have hSx := HFA.out _ hSw; (try dsimp only at hSx); clear hSw; go_simp) <;> (with_reducible rfl)
  simp only [Act.put, gD, gE, gF]
  refine walkO_take (o := _) (v := ?_) (by rw [HOPS.out]; simp only [gA, gB, gC]; exact rfl) (Or.inl ⟨rfl, ?_⟩) ?_
  rotate_left
  · (intro w hSw; have hSx := HFA.out _ hSw; (try dsimp only at hSx); clear hSw; go_simp) <;> (with_reducible rfl)
  simp only [Act.put, gD, gE, gF]
  refine walkO_take (o := _) (v := ?_) (by rw [HOPS.out]; simp only [gA, gB, gC]; exact rfl) (Or.inl ⟨rfl, ?_⟩) ?_
  rotate_left
  · (intro w hSw; have hSx := HFA.out _ hSw; (try dsimp only at hSx); clear hSw; go_simp) <;> (with_reducible rfl)
  simp only [Act.put, gD, gE, gF]
  refine walkO_take (o := _) (v := ?_) (by rw [HOPS.out]; simp only [gA, gB, gC]; exact rfl) (Or.inl ⟨rfl, ?_⟩) ?_
  rotate_left
  · (intro w hSw; have hSx := HFA.out _ hSw; (try dsimp only at hSx); clear hSw; go_simp) <;> (with_reducible rfl)
  simp only [Act.put, gD, gE, gF]
  refine walkO_call (o := _) (by rw [HOPS.out]; simp only [gA, gB, gC]; exact rfl) (fun K HK => ?_)
  refine step_store7 rfl 44 (.tmp 7) (.tmp 214) rfl (w.heap.size + 2) #[.int .i64 s.m0.c, .slice a0 s.m0.q.length k0, .bool s.m0.busy, .slice a1 s.m0.rest.length k1, .int .i64 s.m0.acc, .int .i64 s.m0.w, .int .i64 s.m0.r, .int .i64 s.m1.c, .slice a2 s.m1.q.length k2, .bool s.m1.busy, .slice a3 s.m1.rest.length k3, .int .i64 s.m1.acc, .int .i64 s.m1.w, .int .i64 s.m1.r, .bool s.x0, .bool s.x1] (by simp [Act.eval]) (by simp [Act.eval]) _ _ HZS.out (by kernel_rfl) rfl (by simp [Value.oneCell']) ?_
  intro wf ff qf
  refine HK.out (fun w' => w'.heap[w.heap.size]? = some (.cells #[.int .i64 s.m0.c, .slice a0 s.m0.q.length k0, .bool s.m0.busy, .slice a1 s.m0.rest.length k1, .int .i64 s.m0.acc, .int .i64 s.m0.w, .int .i64 s.m0.r, .int .i64 s.m1.c, .slice a2 s.m1.q.length k2, .bool s.m1.busy, .slice a3 s.m1.rest.length k3, .int .i64 s.m1.acc, .int .i64 s.m1.w, .int .i64 s.m1.r, .bool s.x0, .bool s.x1] 44 (0, 0))) _ _ (fun _ h => h) (ff.keep (fd.keep HB4.out (by simp)) (by intro hm; simp at hm)) ?_
  clear HK K
  try simp only [Act.put, gD, gE, gF]
  refine walkO_take (o := _) (v := ?_) (by rw [HOPS.out]; simp only [gA, gB, gC]; exact rfl) (Or.inl ⟨rfl, ?_⟩) ?_
  rotate_left
  · (intro w hSw; have hSx := HFA.out _ hSw; (try dsimp only at hSx); clear hSw; go_simp) <;> (with_reducible rfl)
  simp only [Act.put, gD, gE, gF]
  refine walkO_done ?_
  clear HOPS OPS
  go_wp2_with fail
  have y0 : wf.cell? ⟨(w.heap.size + 2), 0, none⟩ = some (.int .i64 s.m0.c) := cell_of (qf)
  have y1 : wf.cell? ⟨(w.heap.size + 2), 1, none⟩ = some (.slice a0 s.m0.q.length k0) := cell_of (qf)
  have y2 : wf.cell? ⟨(w.heap.size + 2), 2, none⟩ = some (.bool s.m0.busy) := cell_of (qf)
  have y3 : wf.cell? ⟨(w.heap.size + 2), 3, none⟩ = some (.slice a1 s.m0.rest.length k1) := cell_of (qf)
  have y4 : wf.cell? ⟨(w.heap.size + 2), 4, none⟩ = some (.int .i64 s.m0.acc) := cell_of (qf)
  have y5 : wf.cell? ⟨(w.heap.size + 2), 5, none⟩ = some (.int .i64 s.m0.w) := cell_of (qf)
  have y6 : wf.cell? ⟨(w.heap.size + 2), 6, none⟩ = some (.int .i64 s.m0.r) := cell_of (qf)
  have y7 : wf.cell? ⟨(w.heap.size + 2), 7, none⟩ = some (.int .i64 s.m1.c) := cell_of (qf)
  have y8 : wf.cell? ⟨(w.heap.size + 2), 8, none⟩ = some (.slice a2 s.m1.q.length k2) := cell_of (qf)
  have y9 : wf.cell? ⟨(w.heap.size + 2), 9, none⟩ = some (.bool s.m1.busy) := cell_of (qf)
  have y10 : wf.cell? ⟨(w.heap.size + 2), 10, none⟩ = some (.slice a3 s.m1.rest.length k3) := cell_of (qf)
  have y11 : wf.cell? ⟨(w.heap.size + 2), 11, none⟩ = some (.int .i64 s.m1.acc) := cell_of (qf)
  have y12 : wf.cell? ⟨(w.heap.size + 2), 12, none⟩ = some (.int .i64 s.m1.w) := cell_of (qf)
  have y13 : wf.cell? ⟨(w.heap.size + 2), 13, none⟩ = some (.int .i64 s.m1.r) := cell_of (qf)
  have y14 : wf.cell? ⟨(w.heap.size + 2), 14, none⟩ = some (.bool s.x0) := cell_of (qf)
  have y15 : wf.cell? ⟨(w.heap.size + 2), 15, none⟩ = some (.bool s.x1) := cell_of (qf)
  refine bodyPost_ret (v := .tuple #[.pointer (some ⟨d', 0, none⟩), .agg #[.int .i64 s.m0.c, .slice a0 s.m0.q.length k0, .bool s.m0.busy, .slice a1 s.m0.rest.length k1, .int .i64 s.m0.acc, .int .i64 s.m0.w, .int .i64 s.m0.r, .int .i64 s.m1.c, .slice a2 s.m1.q.length k2, .bool s.m1.busy, .slice a3 s.m1.rest.length k3, .int .i64 s.m1.acc, .int .i64 s.m1.w, .int .i64 s.m1.r, .bool s.x0, .bool s.x1], .bool true]) (by simp [results, Try.results63, go_sem, y0, y1, y2, y3, y4, y5, y6, y7, y8, y9, y10, y11, y12, y13, y14, y15]) rfl ?_
  have fx : Fr [(w.heap.size + 2)] w3 wf := Fr.trans (U := [(w.heap.size + 2)]) (S := []) fd ff (by simp) (fun x hx => .inl hx)
  exact step_post15 (w0 := w0) (z := w0.heap.size) HF.out (Fr.refl _ _) (by omega) (Nat.le_refl _) HS3.out.1 HS3.out.2.1 (fun x hx => (HS3.out.2.2.1 x hx).imp id .inr) HS3.out.2.2.2 fx (HCV.out.mono (fun x hx => ⟨.inl hx.1.1, hx.2⟩)) HFl.out HD.out HNW.out
end Go.Proofs.Ytdoamelhclnphaa
