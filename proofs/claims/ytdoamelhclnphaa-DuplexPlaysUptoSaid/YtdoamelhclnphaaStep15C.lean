/-
  Law 15: step: Begin.
-/
import Derived.Test.YtdoamelhclnphaaGs
import Derived.Test.YtdoamelhclnphaaStep15
import Derived.Test.YtdoamelhclnphaaRegionU
import Derived.Deep.DeepCutAuto
import Derived.Deep.CutBlock
namespace Go.Proofs.Ytdoamelhclnphaa
open Go.RowKit
set_option maxRecDepth 100000

set_option maxHeartbeats 16000000 in
theorem step15_begin {w : World} {F N : Nat → Prop} {d : Nat} {s : DM} {v : Value} {pa : Option Addr} {pc : Nat} {ps : Parts} {n en : Int} (hs : Dx w F d s) (h : Cv w N v s) (hd : ∀ x, F x → ¬ N x) (HNZ : ∀ x, N x → x < w.heap.size) {R : Nat} (hp : PArgU w w.heap.size pa ps.length pc ps R) (hps : ps.length ≤ 100) (htt : tot ps ≤ 3000) :
    Calls Try.prog 63 #[.pointer (some ⟨d, 0, none⟩), v, .agg #[.int .i64 0, .int .i64 en, .slice pa ps.length pc, .int .i64 n]] w (Step15 w F N (beginU en s ps.flatten).1) := by
  have HNW := Lib.hid HNZ
  clear HNZ
  have hFl := hs.lt
  have hok := hs.ok
  replace h := h.there
  obtain ⟨u0, u1, u2, u3, rfl, p0, p1, p2, p3⟩ := h
  obtain ⟨a0, k0, rfl, _⟩ := id p0
  obtain ⟨a1, k1, rfl, _⟩ := id p1
  obtain ⟨a2, k2, rfl, _⟩ := id p2
  obtain ⟨a3, k3, rfl, _⟩ := id p3
  obtain ⟨w0, hw0, f0, qv, qa, qz⟩ : ∃ W, ((w.alloc (.cells #[.int .i64 s.m0.c, .slice a0 s.m0.q.length k0, .bool s.m0.busy, .slice a1 s.m0.rest.length k1, .int .i64 s.m0.acc, .int .i64 s.m0.w, .int .i64 s.m0.r, .int .i64 s.m1.c, .slice a2 s.m1.q.length k2, .bool s.m1.busy, .slice a3 s.m1.rest.length k3, .int .i64 s.m1.acc, .int .i64 s.m1.w, .int .i64 s.m1.r, .bool s.x0, .bool s.x1] 44)).alloc (.cells #[.int .i64 0, .int .i64 en, .slice pa ps.length pc, .int .i64 n] 94)).alloc (.cells #[.int .i64 0, .slice none 0 0, .bool false, .slice none 0 0, .int .i64 0, .int .i64 0, .int .i64 0, .int .i64 0, .slice none 0 0, .bool false, .slice none 0 0, .int .i64 0, .int .i64 0, .int .i64 0, .bool false, .bool false] 44) = W ∧ Fr [] w W ∧ W.heap[w.heap.size]? = some (.cells #[.int .i64 s.m0.c, .slice a0 s.m0.q.length k0, .bool s.m0.busy, .slice a1 s.m0.rest.length k1, .int .i64 s.m0.acc, .int .i64 s.m0.w, .int .i64 s.m0.r, .int .i64 s.m1.c, .slice a2 s.m1.q.length k2, .bool s.m1.busy, .slice a3 s.m1.rest.length k3, .int .i64 s.m1.acc, .int .i64 s.m1.w, .int .i64 s.m1.r, .bool s.x0, .bool s.x1] 44 (0, 0)) ∧ W.heap[w.heap.size + 1]? = some (.cells #[.int .i64 0, .int .i64 en, .slice pa ps.length pc, .int .i64 n] 94 (0, 0)) ∧ W.heap[(w.heap.size + 2)]? = some (.cells #[.int .i64 0, .slice none 0 0, .bool false, .slice none 0 0, .int .i64 0, .int .i64 0, .int .i64 0, .int .i64 0, .slice none 0 0, .bool false, .slice none 0 0, .int .i64 0, .int .i64 0, .int .i64 0, .bool false, .bool false] 44 (0, 0)) := ⟨_, rfl, (((Fr.refl _ _).alloc _).alloc _).alloc _, keepA (keepA (newA rfl)), keepA (newA (by simp)), newA (by simp)⟩
  have x0 : w0.cell? ⟨w.heap.size, 0, none⟩ = some (.int .i64 s.m0.c) := cell_of (qv)
  have x1 : w0.cell? ⟨w.heap.size, 1, none⟩ = some (.slice a0 s.m0.q.length k0) := cell_of (qv)
  have x2 : w0.cell? ⟨w.heap.size, 2, none⟩ = some (.bool s.m0.busy) := cell_of (qv)
  have x3 : w0.cell? ⟨w.heap.size, 3, none⟩ = some (.slice a1 s.m0.rest.length k1) := cell_of (qv)
  have x4 : w0.cell? ⟨w.heap.size, 4, none⟩ = some (.int .i64 s.m0.acc) := cell_of (qv)
  have x5 : w0.cell? ⟨w.heap.size, 5, none⟩ = some (.int .i64 s.m0.w) := cell_of (qv)
  have x6 : w0.cell? ⟨w.heap.size, 6, none⟩ = some (.int .i64 s.m0.r) := cell_of (qv)
  have x7 : w0.cell? ⟨w.heap.size, 7, none⟩ = some (.int .i64 s.m1.c) := cell_of (qv)
  have x8 : w0.cell? ⟨w.heap.size, 8, none⟩ = some (.slice a2 s.m1.q.length k2) := cell_of (qv)
  have x9 : w0.cell? ⟨w.heap.size, 9, none⟩ = some (.bool s.m1.busy) := cell_of (qv)
  have x10 : w0.cell? ⟨w.heap.size, 10, none⟩ = some (.slice a3 s.m1.rest.length k3) := cell_of (qv)
  have x11 : w0.cell? ⟨w.heap.size, 11, none⟩ = some (.int .i64 s.m1.acc) := cell_of (qv)
  have x12 : w0.cell? ⟨w.heap.size, 12, none⟩ = some (.int .i64 s.m1.w) := cell_of (qv)
  have x13 : w0.cell? ⟨w.heap.size, 13, none⟩ = some (.int .i64 s.m1.r) := cell_of (qv)
  have x14 : w0.cell? ⟨w.heap.size, 14, none⟩ = some (.bool s.x0) := cell_of (qv)
  have x15 : w0.cell? ⟨w.heap.size, 15, none⟩ = some (.bool s.x1) := cell_of (qv)
  have e0 : w0.cell? ⟨w.heap.size + 1, 0, none⟩ = some (.int .i64 0) := cell_of qa
  have e1 : w0.cell? ⟨w.heap.size + 1, 1, none⟩ = some (.int .i64 en) := cell_of qa
  have e2 : w0.cell? ⟨w.heap.size + 1, 2, none⟩ = some (.slice pa ps.length pc) := cell_of qa
  have e3 : w0.cell? ⟨w.heap.size + 1, 3, none⟩ = some (.int .i64 n) := cell_of qa
  have hz0 : w.heap.size + 2 < w0.heap.size := lt_of_heap qz
  have HZ := Lib.hid qz
  have HF := Lib.hid f0
  have HQA := Lib.hid qa
  have HP := Lib.hid (And.intro (And.intro p0 p1) (And.intro p2 p3))
  have HQV := Lib.hid qv
  have HPP := Lib.hid (hp.keep HF.out (by simp))
  obtain ⟨vs, hvl, hsv, hone, hvp⟩ := HPP.out.at_.vals
  have HV := Lib.hid hvp
  have HSV := Lib.hid hsv
  have HONE := Lib.hid hone
  have HVL := Lib.hid hvl
  have HU2 : Hid (Try.prog.underlying 53 = some (.slice 29)) := Lib.hid Try.underlying53
  have HI2 : Hid ((Try.prog.info? 29).map (fun i => (i.zero, i.size, i.bytes)) = some (some (.slice none 0 0), 1, 24)) := Lib.hid (by kernel_rfl)
  have H3p : Hid (([] : List Value).length + ps.length ≤ maxLen) := Lib.hid (by unfold maxLen; simp; omega)
  have H4p : Hid ((([] : List Value).length + ps.length) * 24 ≤ 140737488355328) := Lib.hid (by simp; omega)
  have htf := tot_eq ps
  obtain ⟨fl, hfl⟩ : ∃ l, ps.flatten = l := ⟨_, rfl⟩
  have hj0 := fun w8 w' (g : Fr [] w0 w8) (f : Fr [] w8 w') => join15 ((HPP.out.keep g (by simp)).at_.keep f (by simp)) (len := ps.length) (cap := pc) rfl (by omega) (by omega)
  rw [hfl] at hj0 htf
  have HJ := Lib.hid hj0
  have HBG0 := Lib.hid fun w8 w' u (g : Fr [] w0 w8) (f : Fr [] w8 w') {N' : Nat → Prop} (hu : PartV w' N' u fl) => r15_begin_any (w := w') (N := (fun x => N x ∧ x < w.heap.size)) (v := .agg #[.int .i64 s.m0.c, .slice a0 s.m0.q.length k0, .bool s.m0.busy, .slice a1 s.m0.rest.length k1, .int .i64 s.m0.acc, .int .i64 s.m0.w, .int .i64 s.m0.r, .int .i64 s.m1.c, .slice a2 s.m1.q.length k2, .bool s.m1.busy, .slice a3 s.m1.rest.length k3, .int .i64 s.m1.acc, .int .i64 s.m1.w, .int .i64 s.m1.r, .bool s.x0, .bool s.x1]) (s := s) ⟨_, _, _, _, rfl, (HP.out.1.1.keep HF.out (by simp)).keep (g.then0 f) (by simp), (HP.out.1.2.keep HF.out (by simp)).keep (g.then0 f) (by simp), (HP.out.2.1.keep HF.out (by simp)).keep (g.then0 f) (by simp), (HP.out.2.2.keep HF.out (by simp)).keep (g.then0 f) (by simp)⟩ en hu (by omega) hok
  have HSB0 := Lib.hid fun w8 w' v (g : Fr [] w w8) (f : Fr [] w8 w') {N2 : Nat → Prop} (hr : Rp w' N2 v (own ps)) (hn : ∀ x, F x → ¬ N2 x) => dx_begin_any ((hs.keep0 g).keep0 f) en hr hn
  have hof : (own ps).flatten = fl := by rw [own_flat, hfl]
  have HFl := Lib.hid hFl
  have HD := Lib.hid hd
  have HTF := Lib.hid (And.intro htf (And.intro htt hps))
  have HOF := Lib.hid hof
  clear hFl hd hs hvp hsv hone hvl hp htf htt hps hj0 hof p0 p1 p2 p3 qv qa qz f0 hok
  have HEJ := Lib.hid (Go.Proofs.enters_of Try.func30 (by kernel_rfl) rfl)
  have HEB := Lib.hid (Go.Proofs.enters_of Try.func103 (by kernel_rfl) rfl)
  have HES := Lib.hid (Go.Proofs.enters_of Try.func51 (by kernel_rfl) rfl)
  rw [hfl]
  clear hfl
  generalize hU : beginU en s fl = U at *
  obtain ⟨mf, ee⟩ := U
  have HU := Lib.hid hU
  clear hU
  dsimp only at HBG0
  go_enter Try.func63, Try.ntmps63
  go_wp2_with (refine wpList_append_fr _ rfl (.const (.slice none 0 0)) (.tmp 41) 53 rfl 29 (.slice none 0 0) 24 HU2.out HI2.out rfl w0.heap.size (.slice none 0 0) [] (by exact rfl) (Ow.nil _ _ _) pa ps.length pc vs (by exact rfl) HVL.out HSV.out HONE.out H3p.out H4p.out (Nat.le_refl _) ?_)
  intro v6 w6 o6 f6' _
  have f6 : Fr [] w0 w6 := f6'
  clear f6'
  obtain ⟨na, nc, rfl, hnc, hncm, hpa⟩ := PartsAt.copied o6.out HVL.out HV.out f6 (by simp)
  have HNEW := Lib.hid (rope_new (cap := nc) hpa rfl (by have := HTF.out.2.2; unfold maxLen; omega))
  clear hpa o6 hnc hncm HV HSV HONE HVL HU2 HI2 H3p H4p
  go_wp2_with fail
  refine HNEW.out.mono ?_
  rintro e w7 ⟨f7, he⟩
  rw [if_neg (by have := HTF.out.2.2; have := (show (own ps).length ≤ ps.length from List.length_filter_le _ _); omega), if_neg (by have := HTF.out.2.1; omega)] at he
  obtain ⟨v, rfl, hr⟩ := he
  have hr2 := hr
  obtain ⟨ra, rc, rfl, _⟩ := hr2
  clear HNEW
  obtain ⟨w8, hw8, f8, q8⟩ : ∃ W, w7.alloc (.cells #[.slice ra (own ps).length rc, .int .i64 (tot (own ps))] 57) = W ∧ Fr [] w7 W ∧ W.heap[w7.heap.size]? = some (.cells #[.slice ra (own ps).length rc, .int .i64 (tot (own ps))] 57 (0, 0)) := ⟨_, rfl, (Fr.refl _ _).alloc _, newA rfl⟩
  have hz6 := f6.size
  have hz7 := f7.size
  have hz8 := lt_of_heap q8
  have HR8 := Lib.hid ((hr.keep f8 (by simp)).there.mono (N' := fun x => w0.heap.size ≤ x ∧ x < w8.heap.size) (fun x hx => ⟨by have := hx.1; omega, hx.2⟩))
  have HQ8 := Lib.hid q8
  have g8 := (f6.then0 f7).then0 f8
  have HF8 := Lib.hid (HF.out.then0 g8)
  have HQA8 := Lib.hid (g8.keep HQA.out (by simp))
  have HB8 := Lib.hid (show w8.heap[w.heap.size]? = some (.cells #[.int .i64 s.m0.c, .slice a0 s.m0.q.length k0, .bool s.m0.busy, .slice a1 s.m0.rest.length k1, .int .i64 s.m0.acc, .int .i64 s.m0.w, .int .i64 s.m0.r, .int .i64 s.m1.c, .slice a2 s.m1.q.length k2, .bool s.m1.busy, .slice a3 s.m1.rest.length k3, .int .i64 s.m1.acc, .int .i64 s.m1.w, .int .i64 s.m1.r, .bool s.x0, .bool s.x1] 44 (0, 0)) from g8.keep HQV.out (by simp))
  have HZ8 := Lib.hid (show w8.heap[(w.heap.size + 2)]? = some (.cells #[.int .i64 0, .slice none 0 0, .bool false, .slice none 0 0, .int .i64 0, .int .i64 0, .int .i64 0, .int .i64 0, .slice none 0 0, .bool false, .slice none 0 0, .int .i64 0, .int .i64 0, .int .i64 0, .bool false, .bool false] 44 (0, 0)) from g8.keep HZ.out (by simp))
  have HJ8 := Lib.hid fun w' (f : Fr [] w8 w') => HJ.out w8 w' g8 f
  have HBG := Lib.hid fun w' u (f : Fr [] w8 w') {N' : Nat → Prop} (hu : PartV w' N' u fl) => HBG0.out w8 w' u g8 f (N' := N') hu
  have HSB := Lib.hid fun w' v (f : Fr [] w8 w') {N2 : Nat → Prop} (hr : Rp w' N2 v (own ps)) (hn : ∀ x, F x → ¬ N2 x) => HSB0.out w8 w' v HF8.out f (N2 := N2) hr hn
  replace HJ := HJ8
  clear HJ8 HBG0 HSB0 hr q8 f6 f7 f8 g8 HZ HF HQA HPP HQV
  clear x0 x1 x2 x3 x4 x5 x6 x7 x8 x9 x10 x11 x12 x13 x14 x15 e0 e1 e2 e3
  go_upto_region 6 with fail
  go_cut [11, 12] (fun v12 v13 wx => ∃ (B : Nat) (b0 : Option Addr) (j0 : Nat) (b1 : Option Addr) (j1 : Nat) (b2 : Option Addr) (j2 : Nat) (b3 : Option Addr) (j3 : Nat), v12 = .pointer (some ⟨B, 0, none⟩) ∧ v13 = .int .i64 ee ∧ Hid (Fr [] w8 wx) ∧ Hid (wx.heap[B]? = some (.cells #[.int .i64 mf.m0.c, .slice b0 mf.m0.q.length j0, .bool mf.m0.busy, .slice b1 mf.m0.rest.length j1, .int .i64 mf.m0.acc, .int .i64 mf.m0.w, .int .i64 mf.m0.r, .int .i64 mf.m1.c, .slice b2 mf.m1.q.length j2, .bool mf.m1.busy, .slice b3 mf.m1.rest.length j3, .int .i64 mf.m1.acc, .int .i64 mf.m1.w, .int .i64 mf.m1.r, .bool mf.x0, .bool mf.x1] 44 (0, 0))) ∧ Hid (Cv wx (fun x => N x ∨ w8.heap.size ≤ x) (.agg #[.int .i64 mf.m0.c, .slice b0 mf.m0.q.length j0, .bool mf.m0.busy, .slice b1 mf.m0.rest.length j1, .int .i64 mf.m0.acc, .int .i64 mf.m0.w, .int .i64 mf.m0.r, .int .i64 mf.m1.c, .slice b2 mf.m1.q.length j2, .bool mf.m1.busy, .slice b3 mf.m1.rest.length j3, .int .i64 mf.m1.acc, .int .i64 mf.m1.w, .int .i64 mf.m1.r, .bool mf.x0, .bool mf.x1]) mf) ∧ Hid (w8.heap.size ≤ B))
  case first =>
    have HFA := Lib.hid fun (w' : World) (f : Fr [] w8 w') => (show w'.cell? ⟨w.heap.size, 0, none⟩ = some (.int .i64 s.m0.c) ∧ w'.cell? ⟨w.heap.size, 1, none⟩ = some (.slice a0 s.m0.q.length k0) ∧ w'.cell? ⟨w.heap.size, 2, none⟩ = some (.bool s.m0.busy) ∧ w'.cell? ⟨w.heap.size, 3, none⟩ = some (.slice a1 s.m0.rest.length k1) ∧ w'.cell? ⟨w.heap.size, 4, none⟩ = some (.int .i64 s.m0.acc) ∧ w'.cell? ⟨w.heap.size, 5, none⟩ = some (.int .i64 s.m0.w) ∧ w'.cell? ⟨w.heap.size, 6, none⟩ = some (.int .i64 s.m0.r) ∧ w'.cell? ⟨w.heap.size, 7, none⟩ = some (.int .i64 s.m1.c) ∧ w'.cell? ⟨w.heap.size, 8, none⟩ = some (.slice a2 s.m1.q.length k2) ∧ w'.cell? ⟨w.heap.size, 9, none⟩ = some (.bool s.m1.busy) ∧ w'.cell? ⟨w.heap.size, 10, none⟩ = some (.slice a3 s.m1.rest.length k3) ∧ w'.cell? ⟨w.heap.size, 11, none⟩ = some (.int .i64 s.m1.acc) ∧ w'.cell? ⟨w.heap.size, 12, none⟩ = some (.int .i64 s.m1.w) ∧ w'.cell? ⟨w.heap.size, 13, none⟩ = some (.int .i64 s.m1.r) ∧ w'.cell? ⟨w.heap.size, 14, none⟩ = some (.bool s.x0) ∧ w'.cell? ⟨w.heap.size, 15, none⟩ = some (.bool s.x1) ∧ w'.cell? ⟨w.heap.size + 1, 1, none⟩ = some (.int .i64 en) ∧ w'.cell? ⟨w.heap.size + 1, 2, none⟩ = some (.slice pa ps.length pc) from (let q := f.keep HB8.out (by simp); ⟨cell_of q, cell_of q, cell_of q, cell_of q, cell_of q, cell_of q, cell_of q, cell_of q, cell_of q, cell_of q, cell_of q, cell_of q, cell_of q, cell_of q, cell_of q, cell_of q, cell_of (f.keep HQA8.out (by simp)), cell_of (f.keep HQA8.out (by simp))⟩))
    have fd : Fr [] w8 w8.drew := (Fr.refl _ _).drew
    have fr0 : Fr [] w8 w8 := Fr.refl _ _
    refine wp_region_tree (.take 0 (.take 1 (.take 2 (.take 3 (.take 4 (.two 5 10 (.two 6 10 (.take 7 (.take 8 (.take 9 (.one 10 (.one 11 (.take 12 .nil)))))) (.one 6 (.take 7 (.take 8 (.take 9 (.one 11 (.take 12 .nil))))))) (.one 5 (.one 6 (.take 7 (.take 8 (.take 9 (.one 11 (.take 12 .nil))))))))))))) (fun w' => Fr [] w8 w') (by kernel_rfl) (by kernel_rfl) fd ?_
    intro OPS HOPS
    have hops := HOPS.out
    try simp only [List.append_eq, List.cons_append, List.nil_append] at hops
    replace HOPS := Lib.hid hops
    clear hops
    refine walkT_take (o := _) (v := ?_) (by rw [HOPS.out]; simp only [gA, gB, gC]; exact rfl) (Or.inl ⟨rfl, ?_⟩) ?_
    rotate_left
    · (intro w hSw; have hSx := HFA.out _ hSw; (try dsimp only at hSx); clear hSw; go_simp) <;> (with_reducible rfl)
    simp only [Act.put, gD, gE, gF]
    refine walkT_take (o := _) (v := ?_) (by rw [HOPS.out]; simp only [gA, gB, gC]; exact rfl) (Or.inl ⟨rfl, ?_⟩) ?_
    rotate_left
    · (intro w hSw; have hSx := HFA.out _ hSw; (try dsimp only at hSx); clear hSw; go_simp) <;> (with_reducible rfl)
    simp only [Act.put, gD, gE, gF]
    refine walkT_take (o := _) (v := ?_) (by rw [HOPS.out]; simp only [gA, gB, gC]; exact rfl) (Or.inl ⟨rfl, ?_⟩) ?_
    rotate_left
    · (intro w hSw; have hSx := HFA.out _ hSw; (try dsimp only at hSx); clear hSw; go_simp) <;> (with_reducible rfl)
    simp only [Act.put, gD, gE, gF]
    refine walkT_take (o := _) (v := ?_) (by rw [HOPS.out]; simp only [gA, gB, gC]; exact rfl) (Or.inl ⟨rfl, ?_⟩) ?_
    rotate_left
    · (intro w hSw; have hSx := HFA.out _ hSw; (try dsimp only at hSx); clear hSw; go_simp) <;> (with_reducible rfl)
    simp only [Act.put, gD, gE, gF]
    refine walkT_take (o := _) (v := ?_) (by rw [HOPS.out]; simp only [gA, gB, gC]; exact rfl) (Or.inl ⟨rfl, ?_⟩) ?_
    rotate_left
    · (intro w hSw; have hSx := HFA.out _ hSw; (try dsimp only at hSx); clear hSw; go_simp) <;> (with_reducible rfl)
    simp only [Act.put, gD, gE, gF]
    refine walkT_two ?_ ?_
    · skip
      refine walkT_call (o := _) (by rw [HOPS.out]; simp only [gA, gB, gC]; exact rfl) (fun K HK => ?_)
      refine step_call rfl 30 #[(.tmp 55)] #[53] rfl HEJ.out #[.slice pa ps.length pc] (by simp [Act.eval]) (HJ.out _ fd) ?_
      rintro e u9 ⟨vj, rfl, f10, oj⟩
      obtain ⟨ja, jc, rfl, _, _, _, _⟩ := oj.formB
      have g9 := (fd).then0 f10
      have hpj := PartV.ofOw oj
      have gj := f10.size
      refine ⟨_, rfl, ?_⟩
      refine HK.out (fun w' => Fr [] w8 w') _ _ (fun _ h => h) (g9) ?_
      clear HK K
      simp only [Act.put, gD, gE, gF]
      refine walkT_two ?_ ?_
      · skip
        refine walkT_call (o := _) (by rw [HOPS.out]; simp only [gA, gB, gC]; exact rfl) (fun K HK => ?_)
        refine step_call rfl 103 #[(.tmp 51), (.tmp 53), (.tmp 56)] #[44, 3, 29] rfl HEB.out #[.agg #[.int .i64 s.m0.c, .slice a0 s.m0.q.length k0, .bool s.m0.busy, .slice a1 s.m0.rest.length k1, .int .i64 s.m0.acc, .int .i64 s.m0.w, .int .i64 s.m0.r, .int .i64 s.m1.c, .slice a2 s.m1.q.length k2, .bool s.m1.busy, .slice a3 s.m1.rest.length k3, .int .i64 s.m1.acc, .int .i64 s.m1.w, .int .i64 s.m1.r, .bool s.x0, .bool s.x1], .int .i64 en, .slice ja fl.length jc] (by simp [Act.eval]) (HBG.out _ _ g9 hpj) ?_
        rintro e u10 ⟨v', rfl, f11, hc⟩
        obtain ⟨q0, q1, q2, q3, rfl, c0, c1, c2, c3⟩ := hc
        obtain ⟨b0, j0, rfl, _⟩ := id c0
        obtain ⟨b1, j1, rfl, _⟩ := id c1
        obtain ⟨b2, j2, rfl, _⟩ := id c2
        obtain ⟨b3, j3, rfl, _⟩ := id c3
        have g10 := (g9).then0 f11
        have gz := (g9).size
        have HCV := Lib.hid ((show Cv u10 _ (.agg #[.int .i64 mf.m0.c, .slice b0 mf.m0.q.length j0, .bool mf.m0.busy, .slice b1 mf.m0.rest.length j1, .int .i64 mf.m0.acc, .int .i64 mf.m0.w, .int .i64 mf.m0.r, .int .i64 mf.m1.c, .slice b2 mf.m1.q.length j2, .bool mf.m1.busy, .slice b3 mf.m1.rest.length j3, .int .i64 mf.m1.acc, .int .i64 mf.m1.w, .int .i64 mf.m1.r, .bool mf.x0, .bool mf.x1]) mf from ⟨_, _, _, _, rfl, c0, c1, c2, c3⟩).there)
        have f0z : Fr [] u10 u10 := Fr.refl _ _
        clear c0 c1 c2 c3
        refine ⟨_, rfl, ?_⟩
        refine HK.out (fun w' => Fr [] w8 w') _ _ (fun _ h => h) (g10) ?_
        clear HK K
        simp only [Act.put, gD, gE, gF]
        refine walkT_take (o := _) (v := ?_) (by rw [HOPS.out]; simp only [gA, gB, gC]; exact rfl) (Or.inl ⟨rfl, ?_⟩) ?_
        rotate_left
        · (intro w hSw; have hSx := HFA.out _ hSw; (try dsimp only at hSx); clear hSw; go_simp) <;> (with_reducible rfl)
        simp only [Act.put, gD, gE, gF]
        refine walkT_take (o := _) (v := ?_) (by rw [HOPS.out]; simp only [gA, gB, gC]; exact rfl) (Or.inl ⟨rfl, ?_⟩) ?_
        rotate_left
        · (intro w hSw; have hSx := HFA.out _ hSw; (try dsimp only at hSx); clear hSw; go_simp) <;> (with_reducible rfl)
        simp only [Act.put, gD, gE, gF]
        refine walkT_take (o := _) (v := ?_) (by rw [HOPS.out]; simp only [gA, gB, gC]; exact rfl) (Or.inl ⟨rfl, ?_⟩) ?_
        rotate_left
        · (intro w hSw; have hSx := HFA.out _ hSw; (try dsimp only at hSx); clear hSw; go_simp) <;> (with_reducible rfl)
        simp only [Act.put, gD, gE, gF]
        refine walkT_call (o := _) (by rw [HOPS.out]; simp only [gA, gB, gC]; exact rfl) (fun K HK => ?_)
        go_simp
        obtain ⟨u11, hu11, fa, qa11⟩ : ∃ W, (u10.alloc (.cells #[.int .i64 0, .slice none 0 0, .bool false, .slice none 0 0, .int .i64 0, .int .i64 0, .int .i64 0, .int .i64 0, .slice none 0 0, .bool false, .slice none 0 0, .int .i64 0, .int .i64 0, .int .i64 0, .bool false, .bool false] 44)) = W ∧ Fr [] u10 W ∧ W.heap[u10.heap.size]? = some (.cells #[.int .i64 0, .slice none 0 0, .bool false, .slice none 0 0, .int .i64 0, .int .i64 0, .int .i64 0, .int .i64 0, .slice none 0 0, .bool false, .slice none 0 0, .int .i64 0, .int .i64 0, .int .i64 0, .bool false, .bool false] 44 (0, 0)) := ⟨_, rfl, (Fr.refl _ _).alloc _, newA rfl⟩
        try rw [hu11]
        have g11 := (g10).then0 fa
        have HZN := Lib.hid qa11
        have f0z : Fr [] u10 u11 := fa
        have hz11 := lt_of_heap qa11
        have hw8z := (g10).size
        refine HK.out (fun w' => Fr [] w8 w') _ _ (fun _ h => h) g11 ?_
        clear HK K
        try simp only [Act.put, gD, gE, gF]
        refine walkT_call (o := _) (by rw [HOPS.out]; simp only [gA, gB, gC]; exact rfl) (fun K HK => ?_)
        refine step_store7 rfl 44 (.tmp 11) (.tmp 58) rfl u10.heap.size #[.int .i64 mf.m0.c, .slice b0 mf.m0.q.length j0, .bool mf.m0.busy, .slice b1 mf.m0.rest.length j1, .int .i64 mf.m0.acc, .int .i64 mf.m0.w, .int .i64 mf.m0.r, .int .i64 mf.m1.c, .slice b2 mf.m1.q.length j2, .bool mf.m1.busy, .slice b3 mf.m1.rest.length j3, .int .i64 mf.m1.acc, .int .i64 mf.m1.w, .int .i64 mf.m1.r, .bool mf.x0, .bool mf.x1] (by simp [Act.eval]) (by simp [Act.eval]) _ _ HZN.out (by kernel_rfl) rfl (by simp [Value.oneCell']) ?_
        intro u12 ff qf
        have g12 : Fr [] w8 u12 := (g11).trans ff (by simp) (fun x hx => .inr (by simp at hx; omega))
        refine HK.out (fun w' => Fr [] w8 w') _ _ (fun _ h => h) (g12) ?_
        clear HK K
        try simp only [Act.put, gD, gE, gF]
        refine walkT_take (o := _) (v := ?_) (by rw [HOPS.out]; simp only [gA, gB, gC]; exact rfl) (Or.inl ⟨rfl, ?_⟩) ?_
        rotate_left
        · (intro w hSw; have hSx := HFA.out _ hSw; (try dsimp only at hSx); clear hSw; go_simp) <;> (with_reducible rfl)
        simp only [Act.put, gD, gE, gF]
        refine walkT_done ?_
        clear HOPS OPS
        have hcw := (((HCV.out.keep f0z (by simp)).keep ff (fun x hx hn => by simp at hx; rcases hn with ⟨hn | hn, hb⟩; have := hn.2; omega; omega)).mono (N' := fun x => N x ∨ w8.heap.size ≤ x) (fun x hx => hx.1.imp (fun h => h.1) (fun h => by omega)))
        go_wp2_with fail
        go_meet
        exact ⟨u10.heap.size, b0, j0, b1, j1, b2, j2, b3, j3, rfl, rfl, Lib.hid g12, Lib.hid qf, Lib.hid hcw, Lib.hid (by omega)⟩
      · skip
        refine walkT_call (o := _) (by rw [HOPS.out]; simp only [gA, gB, gC]; exact rfl) (fun K HK => ?_)
        go_simp
        obtain ⟨u10, hu10, fa, qa10⟩ : ∃ W, (u9.alloc (.cells #[.int .i64 0, .slice none 0 0, .bool false, .slice none 0 0, .int .i64 0, .int .i64 0, .int .i64 0, .int .i64 0, .slice none 0 0, .bool false, .slice none 0 0, .int .i64 0, .int .i64 0, .int .i64 0, .bool false, .bool false] 44)) = W ∧ Fr [] u9 W ∧ W.heap[u9.heap.size]? = some (.cells #[.int .i64 0, .slice none 0 0, .bool false, .slice none 0 0, .int .i64 0, .int .i64 0, .int .i64 0, .int .i64 0, .slice none 0 0, .bool false, .slice none 0 0, .int .i64 0, .int .i64 0, .int .i64 0, .bool false, .bool false] 44 (0, 0)) := ⟨_, rfl, (Fr.refl _ _).alloc _, newA rfl⟩
        try rw [hu10]
        have g10 := (g9).then0 fa
        have HZN := Lib.hid qa10
        replace hpj := hpj.keep fa (by simp)
        have hz10 := lt_of_heap qa10
        have hw8z := (g9).size
        refine HK.out (fun w' => Fr [] w8 w') _ _ (fun _ h => h) g10 ?_
        clear HK K
        try simp only [Act.put, gD, gE, gF]
        refine walkT_call (o := _) (by rw [HOPS.out]; simp only [gA, gB, gC]; exact rfl) (fun K HK => ?_)
        refine step_call rfl 103 #[(.tmp 51), (.tmp 53), (.tmp 56)] #[44, 3, 29] rfl HEB.out #[.agg #[.int .i64 s.m0.c, .slice a0 s.m0.q.length k0, .bool s.m0.busy, .slice a1 s.m0.rest.length k1, .int .i64 s.m0.acc, .int .i64 s.m0.w, .int .i64 s.m0.r, .int .i64 s.m1.c, .slice a2 s.m1.q.length k2, .bool s.m1.busy, .slice a3 s.m1.rest.length k3, .int .i64 s.m1.acc, .int .i64 s.m1.w, .int .i64 s.m1.r, .bool s.x0, .bool s.x1], .int .i64 en, .slice ja fl.length jc] (by simp [Act.eval]) (HBG.out _ _ g10 hpj) ?_
        rintro e u11 ⟨v', rfl, f11, hc⟩
        obtain ⟨q0, q1, q2, q3, rfl, c0, c1, c2, c3⟩ := hc
        obtain ⟨b0, j0, rfl, _⟩ := id c0
        obtain ⟨b1, j1, rfl, _⟩ := id c1
        obtain ⟨b2, j2, rfl, _⟩ := id c2
        obtain ⟨b3, j3, rfl, _⟩ := id c3
        have g11 := (g10).then0 f11
        have gz := (g10).size
        have HCV := Lib.hid ((show Cv u11 _ (.agg #[.int .i64 mf.m0.c, .slice b0 mf.m0.q.length j0, .bool mf.m0.busy, .slice b1 mf.m0.rest.length j1, .int .i64 mf.m0.acc, .int .i64 mf.m0.w, .int .i64 mf.m0.r, .int .i64 mf.m1.c, .slice b2 mf.m1.q.length j2, .bool mf.m1.busy, .slice b3 mf.m1.rest.length j3, .int .i64 mf.m1.acc, .int .i64 mf.m1.w, .int .i64 mf.m1.r, .bool mf.x0, .bool mf.x1]) mf from ⟨_, _, _, _, rfl, c0, c1, c2, c3⟩).there)
        have f0z : Fr [] u11 u11 := Fr.refl _ _
        clear c0 c1 c2 c3
        have zz11 := f11.keep HZN.out (by simp)
        have HZN := Lib.hid zz11
        refine ⟨_, rfl, ?_⟩
        refine HK.out (fun w' => Fr [] w8 w') _ _ (fun _ h => h) (g11) ?_
        clear HK K
        simp only [Act.put, gD, gE, gF]
        refine walkT_take (o := _) (v := ?_) (by rw [HOPS.out]; simp only [gA, gB, gC]; exact rfl) (Or.inl ⟨rfl, ?_⟩) ?_
        rotate_left
        · (intro w hSw; have hSx := HFA.out _ hSw; (try dsimp only at hSx); clear hSw; go_simp) <;> (with_reducible rfl)
        simp only [Act.put, gD, gE, gF]
        refine walkT_take (o := _) (v := ?_) (by rw [HOPS.out]; simp only [gA, gB, gC]; exact rfl) (Or.inl ⟨rfl, ?_⟩) ?_
        rotate_left
        · (intro w hSw; have hSx := HFA.out _ hSw; (try dsimp only at hSx); clear hSw; go_simp) <;> (with_reducible rfl)
        simp only [Act.put, gD, gE, gF]
        refine walkT_take (o := _) (v := ?_) (by rw [HOPS.out]; simp only [gA, gB, gC]; exact rfl) (Or.inl ⟨rfl, ?_⟩) ?_
        rotate_left
        · (intro w hSw; have hSx := HFA.out _ hSw; (try dsimp only at hSx); clear hSw; go_simp) <;> (with_reducible rfl)
        simp only [Act.put, gD, gE, gF]
        refine walkT_call (o := _) (by rw [HOPS.out]; simp only [gA, gB, gC]; exact rfl) (fun K HK => ?_)
        refine step_store7 rfl 44 (.tmp 11) (.tmp 58) rfl u9.heap.size #[.int .i64 mf.m0.c, .slice b0 mf.m0.q.length j0, .bool mf.m0.busy, .slice b1 mf.m0.rest.length j1, .int .i64 mf.m0.acc, .int .i64 mf.m0.w, .int .i64 mf.m0.r, .int .i64 mf.m1.c, .slice b2 mf.m1.q.length j2, .bool mf.m1.busy, .slice b3 mf.m1.rest.length j3, .int .i64 mf.m1.acc, .int .i64 mf.m1.w, .int .i64 mf.m1.r, .bool mf.x0, .bool mf.x1] (by simp [Act.eval]) (by simp [Act.eval]) _ _ HZN.out (by kernel_rfl) rfl (by simp [Value.oneCell']) ?_
        intro u12 ff qf
        have g12 : Fr [] w8 u12 := (g11).trans ff (by simp) (fun x hx => .inr (by simp at hx; omega))
        refine HK.out (fun w' => Fr [] w8 w') _ _ (fun _ h => h) (g12) ?_
        clear HK K
        try simp only [Act.put, gD, gE, gF]
        refine walkT_take (o := _) (v := ?_) (by rw [HOPS.out]; simp only [gA, gB, gC]; exact rfl) (Or.inl ⟨rfl, ?_⟩) ?_
        rotate_left
        · (intro w hSw; have hSx := HFA.out _ hSw; (try dsimp only at hSx); clear hSw; go_simp) <;> (with_reducible rfl)
        simp only [Act.put, gD, gE, gF]
        refine walkT_done ?_
        clear HOPS OPS
        have hcw := (((HCV.out.keep f0z (by simp)).keep ff (fun x hx hn => by simp at hx; rcases hn with ⟨hn | hn, hb⟩; have := hn.2; omega; omega)).mono (N' := fun x => N x ∨ w8.heap.size ≤ x) (fun x hx => hx.1.imp (fun h => h.1) (fun h => by omega)))
        go_wp2_with fail
        go_meet
        exact ⟨u9.heap.size, b0, j0, b1, j1, b2, j2, b3, j3, rfl, rfl, Lib.hid g12, Lib.hid qf, Lib.hid hcw, Lib.hid (by omega)⟩
    · skip
      refine walkT_call (o := _) (by rw [HOPS.out]; simp only [gA, gB, gC]; exact rfl) (fun K HK => ?_)
      go_simp
      obtain ⟨u9, hu9, fa, qa9⟩ : ∃ W, ((w8.alloc (.cells #[.int .i64 0, .slice none 0 0, .bool false, .slice none 0 0, .int .i64 0, .int .i64 0, .int .i64 0, .int .i64 0, .slice none 0 0, .bool false, .slice none 0 0, .int .i64 0, .int .i64 0, .int .i64 0, .bool false, .bool false] 44)).drew) = W ∧ Fr [] w8 W ∧ W.heap[w8.heap.size]? = some (.cells #[.int .i64 0, .slice none 0 0, .bool false, .slice none 0 0, .int .i64 0, .int .i64 0, .int .i64 0, .int .i64 0, .slice none 0 0, .bool false, .slice none 0 0, .int .i64 0, .int .i64 0, .int .i64 0, .bool false, .bool false] 44 (0, 0)) := ⟨_, rfl, ((Fr.refl _ _).alloc _).drew, newA rfl⟩
      try rw [hu9]
      have g9 := (fr0).then0 fa
      have HZN := Lib.hid qa9
      have hz9 := lt_of_heap qa9
      have hw8z := (fr0).size
      refine HK.out (fun w' => Fr [] w8 w') _ _ (fun _ h => h) g9 ?_
      clear HK K
      try simp only [Act.put, gD, gE, gF]
      refine walkT_call (o := _) (by rw [HOPS.out]; simp only [gA, gB, gC]; exact rfl) (fun K HK => ?_)
      refine step_call rfl 30 #[(.tmp 55)] #[53] rfl HEJ.out #[.slice pa ps.length pc] (by simp [Act.eval]) (HJ.out _ g9) ?_
      rintro e u10 ⟨vj, rfl, f10, oj⟩
      obtain ⟨ja, jc, rfl, _, _, _, _⟩ := oj.formB
      have g10 := (g9).then0 f10
      have hpj := PartV.ofOw oj
      have gj := f10.size
      have zz10 := f10.keep HZN.out (by simp)
      have HZN := Lib.hid zz10
      refine ⟨_, rfl, ?_⟩
      refine HK.out (fun w' => Fr [] w8 w') _ _ (fun _ h => h) (g10) ?_
      clear HK K
      simp only [Act.put, gD, gE, gF]
      refine walkT_call (o := _) (by rw [HOPS.out]; simp only [gA, gB, gC]; exact rfl) (fun K HK => ?_)
      refine step_call rfl 103 #[(.tmp 51), (.tmp 53), (.tmp 56)] #[44, 3, 29] rfl HEB.out #[.agg #[.int .i64 s.m0.c, .slice a0 s.m0.q.length k0, .bool s.m0.busy, .slice a1 s.m0.rest.length k1, .int .i64 s.m0.acc, .int .i64 s.m0.w, .int .i64 s.m0.r, .int .i64 s.m1.c, .slice a2 s.m1.q.length k2, .bool s.m1.busy, .slice a3 s.m1.rest.length k3, .int .i64 s.m1.acc, .int .i64 s.m1.w, .int .i64 s.m1.r, .bool s.x0, .bool s.x1], .int .i64 en, .slice ja fl.length jc] (by simp [Act.eval]) (HBG.out _ _ g10 hpj) ?_
      rintro e u11 ⟨v', rfl, f11, hc⟩
      obtain ⟨q0, q1, q2, q3, rfl, c0, c1, c2, c3⟩ := hc
      obtain ⟨b0, j0, rfl, _⟩ := id c0
      obtain ⟨b1, j1, rfl, _⟩ := id c1
      obtain ⟨b2, j2, rfl, _⟩ := id c2
      obtain ⟨b3, j3, rfl, _⟩ := id c3
      have g11 := (g10).then0 f11
      have gz := (g10).size
      have HCV := Lib.hid ((show Cv u11 _ (.agg #[.int .i64 mf.m0.c, .slice b0 mf.m0.q.length j0, .bool mf.m0.busy, .slice b1 mf.m0.rest.length j1, .int .i64 mf.m0.acc, .int .i64 mf.m0.w, .int .i64 mf.m0.r, .int .i64 mf.m1.c, .slice b2 mf.m1.q.length j2, .bool mf.m1.busy, .slice b3 mf.m1.rest.length j3, .int .i64 mf.m1.acc, .int .i64 mf.m1.w, .int .i64 mf.m1.r, .bool mf.x0, .bool mf.x1]) mf from ⟨_, _, _, _, rfl, c0, c1, c2, c3⟩).there)
      have f0z : Fr [] u11 u11 := Fr.refl _ _
      clear c0 c1 c2 c3
      have zz11 := f11.keep HZN.out (by simp)
      have HZN := Lib.hid zz11
      refine ⟨_, rfl, ?_⟩
      refine HK.out (fun w' => Fr [] w8 w') _ _ (fun _ h => h) (g11) ?_
      clear HK K
      simp only [Act.put, gD, gE, gF]
      refine walkT_take (o := _) (v := ?_) (by rw [HOPS.out]; simp only [gA, gB, gC]; exact rfl) (Or.inl ⟨rfl, ?_⟩) ?_
      rotate_left
      · (intro w hSw; have hSx := HFA.out _ hSw; (try dsimp only at hSx); clear hSw; go_simp) <;> (with_reducible rfl)
      simp only [Act.put, gD, gE, gF]
      refine walkT_take (o := _) (v := ?_) (by rw [HOPS.out]; simp only [gA, gB, gC]; exact rfl) (Or.inl ⟨rfl, ?_⟩) ?_
      rotate_left
      · (intro w hSw; have hSx := HFA.out _ hSw; (try dsimp only at hSx); clear hSw; go_simp) <;> (with_reducible rfl)
      simp only [Act.put, gD, gE, gF]
      refine walkT_take (o := _) (v := ?_) (by rw [HOPS.out]; simp only [gA, gB, gC]; exact rfl) (Or.inl ⟨rfl, ?_⟩) ?_
      rotate_left
      · (intro w hSw; have hSx := HFA.out _ hSw; (try dsimp only at hSx); clear hSw; go_simp) <;> (with_reducible rfl)
      simp only [Act.put, gD, gE, gF]
      refine walkT_call (o := _) (by rw [HOPS.out]; simp only [gA, gB, gC]; exact rfl) (fun K HK => ?_)
      refine step_store7 rfl 44 (.tmp 11) (.tmp 58) rfl w8.heap.size #[.int .i64 mf.m0.c, .slice b0 mf.m0.q.length j0, .bool mf.m0.busy, .slice b1 mf.m0.rest.length j1, .int .i64 mf.m0.acc, .int .i64 mf.m0.w, .int .i64 mf.m0.r, .int .i64 mf.m1.c, .slice b2 mf.m1.q.length j2, .bool mf.m1.busy, .slice b3 mf.m1.rest.length j3, .int .i64 mf.m1.acc, .int .i64 mf.m1.w, .int .i64 mf.m1.r, .bool mf.x0, .bool mf.x1] (by simp [Act.eval]) (by simp [Act.eval]) _ _ HZN.out (by kernel_rfl) rfl (by simp [Value.oneCell']) ?_
      intro u12 ff qf
      have g12 : Fr [] w8 u12 := (g11).trans ff (by simp) (fun x hx => .inr (by simp at hx; omega))
      refine HK.out (fun w' => Fr [] w8 w') _ _ (fun _ h => h) (g12) ?_
      clear HK K
      try simp only [Act.put, gD, gE, gF]
      refine walkT_take (o := _) (v := ?_) (by rw [HOPS.out]; simp only [gA, gB, gC]; exact rfl) (Or.inl ⟨rfl, ?_⟩) ?_
      rotate_left
      · (intro w hSw; have hSx := HFA.out _ hSw; (try dsimp only at hSx); clear hSw; go_simp) <;> (with_reducible rfl)
      simp only [Act.put, gD, gE, gF]
      refine walkT_done ?_
      clear HOPS OPS
      have hcw := (((HCV.out.keep f0z (by simp)).keep ff (fun x hx hn => by simp at hx; rcases hn with ⟨hn | hn, hb⟩; have := hn.2; omega; omega)).mono (N' := fun x => N x ∨ w8.heap.size ≤ x) (fun x hx => hx.1.imp (fun h => h.1) (fun h => by omega)))
      go_wp2_with fail
      go_meet
      exact ⟨w8.heap.size, b0, j0, b1, j1, b2, j2, b3, j3, rfl, rfl, Lib.hid g12, Lib.hid qf, Lib.hid hcw, Lib.hid (by omega)⟩
  case rest =>
    rename World => w9
    obtain ⟨B, b0, j0, b1, j1, b2, j2, b3, j3, rfl, rfl, HF9, HB9, HCV, HBL⟩ := hcut
    have hBL := HBL.out
    have hBl9 := lt_of_heap HB9.out
    have hs9 := HF9.out.size
    have fd : Fr [] w9 w9.drew := (Fr.refl _ _).drew
    have HNc := Lib.hid (show w9.drew.heap[B]? = some (.cells #[.int .i64 mf.m0.c, .slice b0 mf.m0.q.length j0, .bool mf.m0.busy, .slice b1 mf.m0.rest.length j1, .int .i64 mf.m0.acc, .int .i64 mf.m0.w, .int .i64 mf.m0.r, .int .i64 mf.m1.c, .slice b2 mf.m1.q.length j2, .bool mf.m1.busy, .slice b3 mf.m1.rest.length j3, .int .i64 mf.m1.acc, .int .i64 mf.m1.w, .int .i64 mf.m1.r, .bool mf.x0, .bool mf.x1] 44 (0, 0)) from fd.keep HB9.out (by simp))
    have HQc := Lib.hid (fd.keep (HF9.out.keep HQ8.out (by simp)) (by simp))
    have HAc := Lib.hid (fd.keep (HF9.out.keep HQA8.out (by simp)) (by simp))
    have HZS := Lib.hid (show w9.drew.heap[(w.heap.size + 2)]? = some (.cells #[.int .i64 0, .slice none 0 0, .bool false, .slice none 0 0, .int .i64 0, .int .i64 0, .int .i64 0, .int .i64 0, .slice none 0 0, .bool false, .slice none 0 0, .int .i64 0, .int .i64 0, .int .i64 0, .bool false, .bool false] 44 (0, 0)) from fd.keep (HF9.out.keep HZ8.out (by simp)) (by simp))
    have hsb := HSB.out _ _ (HF9.out.then0 fd) (HR8.out.keep (HF9.out.then0 fd) (by simp)) (fun x hF hn => by have := HFl.out x hF; have := hn.1; omega)
    rw [HOF.out, HU.out] at hsb
    dsimp only at hsb
    have HSB9 := Lib.hid hsb
    clear hsb
    have HFB := Lib.hid fun (w' : World) (f : w'.heap[B]? = some (.cells #[.int .i64 mf.m0.c, .slice b0 mf.m0.q.length j0, .bool mf.m0.busy, .slice b1 mf.m0.rest.length j1, .int .i64 mf.m0.acc, .int .i64 mf.m0.w, .int .i64 mf.m0.r, .int .i64 mf.m1.c, .slice b2 mf.m1.q.length j2, .bool mf.m1.busy, .slice b3 mf.m1.rest.length j3, .int .i64 mf.m1.acc, .int .i64 mf.m1.w, .int .i64 mf.m1.r, .bool mf.x0, .bool mf.x1] 44 (0, 0)) ∧ w'.heap[w7.heap.size]? = some (.cells #[.slice ra (own ps).length rc, .int .i64 (tot (own ps))] 57 (0, 0)) ∧ w'.heap[w.heap.size + 1]? = some (.cells #[.int .i64 0, .int .i64 en, .slice pa ps.length pc, .int .i64 n] 94 (0, 0))) => (show w'.cell? ⟨B, 0, none⟩ = some (.int .i64 mf.m0.c) ∧ w'.cell? ⟨B, 1, none⟩ = some (.slice b0 mf.m0.q.length j0) ∧ w'.cell? ⟨B, 2, none⟩ = some (.bool mf.m0.busy) ∧ w'.cell? ⟨B, 3, none⟩ = some (.slice b1 mf.m0.rest.length j1) ∧ w'.cell? ⟨B, 4, none⟩ = some (.int .i64 mf.m0.acc) ∧ w'.cell? ⟨B, 5, none⟩ = some (.int .i64 mf.m0.w) ∧ w'.cell? ⟨B, 6, none⟩ = some (.int .i64 mf.m0.r) ∧ w'.cell? ⟨B, 7, none⟩ = some (.int .i64 mf.m1.c) ∧ w'.cell? ⟨B, 8, none⟩ = some (.slice b2 mf.m1.q.length j2) ∧ w'.cell? ⟨B, 9, none⟩ = some (.bool mf.m1.busy) ∧ w'.cell? ⟨B, 10, none⟩ = some (.slice b3 mf.m1.rest.length j3) ∧ w'.cell? ⟨B, 11, none⟩ = some (.int .i64 mf.m1.acc) ∧ w'.cell? ⟨B, 12, none⟩ = some (.int .i64 mf.m1.w) ∧ w'.cell? ⟨B, 13, none⟩ = some (.int .i64 mf.m1.r) ∧ w'.cell? ⟨B, 14, none⟩ = some (.bool mf.x0) ∧ w'.cell? ⟨B, 15, none⟩ = some (.bool mf.x1) ∧ w'.cell? ⟨w7.heap.size, 0, none⟩ = some (.slice ra (own ps).length rc) ∧ w'.cell? ⟨w7.heap.size, 1, none⟩ = some (.int .i64 (tot (own ps))) ∧ w'.cell? ⟨w.heap.size + 1, 1, none⟩ = some (.int .i64 en) from ⟨cell_of f.1, cell_of f.1, cell_of f.1, cell_of f.1, cell_of f.1, cell_of f.1, cell_of f.1, cell_of f.1, cell_of f.1, cell_of f.1, cell_of f.1, cell_of f.1, cell_of f.1, cell_of f.1, cell_of f.1, cell_of f.1, cell_of f.2.1, cell_of f.2.1, cell_of f.2.2⟩)
    go_wp2_with fail
    refine wp_region_order [(0, true), (1, true), (2, true), (3, true), (4, true), (5, true), (7, true), (6, false), (8, true), (9, true), (10, false), (11, true)] (fun w' => w'.heap[B]? = some (.cells #[.int .i64 mf.m0.c, .slice b0 mf.m0.q.length j0, .bool mf.m0.busy, .slice b1 mf.m0.rest.length j1, .int .i64 mf.m0.acc, .int .i64 mf.m0.w, .int .i64 mf.m0.r, .int .i64 mf.m1.c, .slice b2 mf.m1.q.length j2, .bool mf.m1.busy, .slice b3 mf.m1.rest.length j3, .int .i64 mf.m1.acc, .int .i64 mf.m1.w, .int .i64 mf.m1.r, .bool mf.x0, .bool mf.x1] 44 (0, 0)) ∧ w'.heap[w7.heap.size]? = some (.cells #[.slice ra (own ps).length rc, .int .i64 (tot (own ps))] 57 (0, 0)) ∧ w'.heap[w.heap.size + 1]? = some (.cells #[.int .i64 0, .int .i64 en, .slice pa ps.length pc, .int .i64 n] 94 (0, 0))) (by kernel_rfl) (by kernel_rfl) ⟨HNc.out, HQc.out, HAc.out⟩ ?_
    intro OPS HOPS
    have hops := HOPS.out
    try simp only [List.append_eq, List.cons_append, List.nil_append] at hops
    replace HOPS := Lib.hid hops
    clear hops
    refine walkO_take (o := _) (v := ?_) (by rw [HOPS.out]; simp only [gA, gB, gC]; exact rfl) (Or.inl ⟨rfl, ?_⟩) ?_
    rotate_left
    · (intro w hSw; have hSx := HFB.out _ hSw; (try dsimp only at hSx); clear hSw; go_simp) <;> (with_reducible rfl)
    simp only [Act.put, gD, gE, gF]
    refine walkO_take (o := _) (v := ?_) (by rw [HOPS.out]; simp only [gA, gB, gC]; exact rfl) (Or.inl ⟨rfl, ?_⟩) ?_
    rotate_left
    · (intro w hSw; have hSx := HFB.out _ hSw; (try dsimp only at hSx); clear hSw; go_simp) <;> (with_reducible rfl)
    simp only [Act.put, gD, gE, gF]
    refine walkO_take (o := _) (v := ?_) (by rw [HOPS.out]; simp only [gA, gB, gC]; exact rfl) (Or.inl ⟨rfl, ?_⟩) ?_
    rotate_left
    · (intro w hSw; have hSx := HFB.out _ hSw; (try dsimp only at hSx); clear hSw; go_simp) <;> (with_reducible rfl)
    simp only [Act.put, gD, gE, gF]
    refine walkO_take (o := _) (v := ?_) (by rw [HOPS.out]; simp only [gA, gB, gC]; exact rfl) (Or.inl ⟨rfl, ?_⟩) ?_
    rotate_left
    · (intro w hSw; have hSx := HFB.out _ hSw; (try dsimp only at hSx); clear hSw; go_simp) <;> (with_reducible rfl)
    simp only [Act.put, gD, gE, gF]
    refine walkO_take (o := _) (v := ?_) (by rw [HOPS.out]; simp only [gA, gB, gC]; exact rfl) (Or.inl ⟨rfl, ?_⟩) ?_
    rotate_left
    · (intro w hSw; have hSx := HFB.out _ hSw; (try dsimp only at hSx); clear hSw; go_simp) <;> (with_reducible rfl)
    simp only [Act.put, gD, gE, gF]
    refine walkO_take (o := _) (v := ?_) (by rw [HOPS.out]; simp only [gA, gB, gC]; exact rfl) (Or.inl ⟨rfl, ?_⟩) ?_
    rotate_left
    · (intro w hSw; have hSx := HFB.out _ hSw; (try dsimp only at hSx); clear hSw; go_simp) <;> (with_reducible rfl)
    simp only [Act.put, gD, gE, gF]
    refine walkO_take (o := _) (v := ?_) (by rw [HOPS.out]; simp only [gA, gB, gC]; exact rfl) (Or.inl ⟨rfl, ?_⟩) ?_
    rotate_left
    · (intro w hSw; have hSx := HFB.out _ hSw; (try dsimp only at hSx); clear hSw; go_simp) <;> (with_reducible rfl)
    simp only [Act.put, gD, gE, gF]
    refine walkO_call (o := _) (by rw [HOPS.out]; simp only [gA, gB, gC]; exact rfl) (fun K HK => ?_)
    refine step_call rfl 51 #[(.tmp 62), (.tmp 64), (.tmp 65)] #[22, 3, 57] rfl HES.out #[.pointer (some ⟨d, 0, none⟩), .int .i64 en, .agg #[.slice ra (own ps).length rc, .int .i64 (tot (own ps))]] (by simp [Act.eval]) (HSB9.out) ?_
    rintro e w10 ⟨rfl, ⟨S, hS, f10⟩, F', hF', h10⟩
    have hnS : ∀ x, w.heap.size ≤ x → x < w9.heap.size → x ∉ S := fun x h1 h2 hm => by rcases hS x hm with h | h; have := HFl.out x h; omega; exact absurd (show w9.heap.size ≤ x from h) (by omega)
    have HNc := Lib.hid (show w10.heap[B]? = some (.cells #[.int .i64 mf.m0.c, .slice b0 mf.m0.q.length j0, .bool mf.m0.busy, .slice b1 mf.m0.rest.length j1, .int .i64 mf.m0.acc, .int .i64 mf.m0.w, .int .i64 mf.m0.r, .int .i64 mf.m1.c, .slice b2 mf.m1.q.length j2, .bool mf.m1.busy, .slice b3 mf.m1.rest.length j3, .int .i64 mf.m1.acc, .int .i64 mf.m1.w, .int .i64 mf.m1.r, .bool mf.x0, .bool mf.x1] 44 (0, 0)) from f10.keep HNc.out (hnS _ (by omega) hBl9))
    have HZS := Lib.hid (show w10.heap[(w.heap.size + 2)]? = some (.cells #[.int .i64 0, .slice none 0 0, .bool false, .slice none 0 0, .int .i64 0, .int .i64 0, .int .i64 0, .int .i64 0, .slice none 0 0, .bool false, .slice none 0 0, .int .i64 0, .int .i64 0, .int .i64 0, .bool false, .bool false] 44 (0, 0)) from f10.keep HZS.out (hnS _ (by omega) (by omega)))
    have HQc := Lib.hid (f10.keep HQc.out (hnS _ (by omega) (by omega)))
    have HAc := Lib.hid (f10.keep HAc.out (hnS _ (by omega) (by omega)))
    refine ⟨_, rfl, ?_⟩
    refine HK.out (fun w' => w'.heap[B]? = some (.cells #[.int .i64 mf.m0.c, .slice b0 mf.m0.q.length j0, .bool mf.m0.busy, .slice b1 mf.m0.rest.length j1, .int .i64 mf.m0.acc, .int .i64 mf.m0.w, .int .i64 mf.m0.r, .int .i64 mf.m1.c, .slice b2 mf.m1.q.length j2, .bool mf.m1.busy, .slice b3 mf.m1.rest.length j3, .int .i64 mf.m1.acc, .int .i64 mf.m1.w, .int .i64 mf.m1.r, .bool mf.x0, .bool mf.x1] 44 (0, 0)) ∧ w'.heap[w7.heap.size]? = some (.cells #[.slice ra (own ps).length rc, .int .i64 (tot (own ps))] 57 (0, 0)) ∧ w'.heap[w.heap.size + 1]? = some (.cells #[.int .i64 0, .int .i64 en, .slice pa ps.length pc, .int .i64 n] 94 (0, 0))) _ _ (fun _ h => h) (⟨HNc.out, HQc.out, HAc.out⟩) ?_
    clear HK K
    simp only [Act.put, gD, gE, gF]
    refine walkO_take (o := _) (v := ?_) (by rw [HOPS.out]; simp only [gA, gB, gC]; exact rfl) (Or.inl ⟨rfl, ?_⟩) ?_
    rotate_left
    · (intro w hSw; have hSx := HFB.out _ hSw; (try dsimp only at hSx); clear hSw; go_simp) <;> (with_reducible rfl)
    simp only [Act.put, gD, gE, gF]
    refine walkO_take (o := _) (v := ?_) (by rw [HOPS.out]; simp only [gA, gB, gC]; exact rfl) (Or.inl ⟨rfl, ?_⟩) ?_
    rotate_left
    · (intro w hSw; have hSx := HFB.out _ hSw; (try dsimp only at hSx); clear hSw; go_simp) <;> (with_reducible rfl)
    simp only [Act.put, gD, gE, gF]
    refine walkO_call (o := _) (by rw [HOPS.out]; simp only [gA, gB, gC]; exact rfl) (fun K HK => ?_)
    refine step_store7 rfl 44 (.tmp 7) (.tmp 61) rfl (w.heap.size + 2) #[.int .i64 mf.m0.c, .slice b0 mf.m0.q.length j0, .bool mf.m0.busy, .slice b1 mf.m0.rest.length j1, .int .i64 mf.m0.acc, .int .i64 mf.m0.w, .int .i64 mf.m0.r, .int .i64 mf.m1.c, .slice b2 mf.m1.q.length j2, .bool mf.m1.busy, .slice b3 mf.m1.rest.length j3, .int .i64 mf.m1.acc, .int .i64 mf.m1.w, .int .i64 mf.m1.r, .bool mf.x0, .bool mf.x1] (by simp [Act.eval]) (by simp [Act.eval]) _ _ HZS.out (by kernel_rfl) rfl (by simp [Value.oneCell']) ?_
    intro wf ff qf
    refine HK.out (fun w' => w'.heap[B]? = some (.cells #[.int .i64 mf.m0.c, .slice b0 mf.m0.q.length j0, .bool mf.m0.busy, .slice b1 mf.m0.rest.length j1, .int .i64 mf.m0.acc, .int .i64 mf.m0.w, .int .i64 mf.m0.r, .int .i64 mf.m1.c, .slice b2 mf.m1.q.length j2, .bool mf.m1.busy, .slice b3 mf.m1.rest.length j3, .int .i64 mf.m1.acc, .int .i64 mf.m1.w, .int .i64 mf.m1.r, .bool mf.x0, .bool mf.x1] 44 (0, 0)) ∧ w'.heap[w7.heap.size]? = some (.cells #[.slice ra (own ps).length rc, .int .i64 (tot (own ps))] 57 (0, 0)) ∧ w'.heap[w.heap.size + 1]? = some (.cells #[.int .i64 0, .int .i64 en, .slice pa ps.length pc, .int .i64 n] 94 (0, 0))) _ _ (fun _ h => h) (⟨ff.keep HNc.out (by intro hm; simp at hm; omega), ff.keep HQc.out (by intro hm; simp at hm; omega), ff.keep HAc.out (by intro hm; simp at hm)⟩) ?_
    clear HK K
    try simp only [Act.put, gD, gE, gF]
    refine walkO_take (o := _) (v := ?_) (by rw [HOPS.out]; simp only [gA, gB, gC]; exact rfl) (Or.inl ⟨rfl, ?_⟩) ?_
    rotate_left
    · (intro w hSw; have hSx := HFB.out _ hSw; (try dsimp only at hSx); clear hSw; go_simp) <;> (with_reducible rfl)
    simp only [Act.put, gD, gE, gF]
    refine walkO_done ?_
    clear HOPS OPS
    go_wp2_with fail
    have y0 : wf.cell? ⟨(w.heap.size + 2), 0, none⟩ = some (.int .i64 mf.m0.c) := cell_of (qf)
    have y1 : wf.cell? ⟨(w.heap.size + 2), 1, none⟩ = some (.slice b0 mf.m0.q.length j0) := cell_of (qf)
    have y2 : wf.cell? ⟨(w.heap.size + 2), 2, none⟩ = some (.bool mf.m0.busy) := cell_of (qf)
    have y3 : wf.cell? ⟨(w.heap.size + 2), 3, none⟩ = some (.slice b1 mf.m0.rest.length j1) := cell_of (qf)
    have y4 : wf.cell? ⟨(w.heap.size + 2), 4, none⟩ = some (.int .i64 mf.m0.acc) := cell_of (qf)
    have y5 : wf.cell? ⟨(w.heap.size + 2), 5, none⟩ = some (.int .i64 mf.m0.w) := cell_of (qf)
    have y6 : wf.cell? ⟨(w.heap.size + 2), 6, none⟩ = some (.int .i64 mf.m0.r) := cell_of (qf)
    have y7 : wf.cell? ⟨(w.heap.size + 2), 7, none⟩ = some (.int .i64 mf.m1.c) := cell_of (qf)
    have y8 : wf.cell? ⟨(w.heap.size + 2), 8, none⟩ = some (.slice b2 mf.m1.q.length j2) := cell_of (qf)
    have y9 : wf.cell? ⟨(w.heap.size + 2), 9, none⟩ = some (.bool mf.m1.busy) := cell_of (qf)
    have y10 : wf.cell? ⟨(w.heap.size + 2), 10, none⟩ = some (.slice b3 mf.m1.rest.length j3) := cell_of (qf)
    have y11 : wf.cell? ⟨(w.heap.size + 2), 11, none⟩ = some (.int .i64 mf.m1.acc) := cell_of (qf)
    have y12 : wf.cell? ⟨(w.heap.size + 2), 12, none⟩ = some (.int .i64 mf.m1.w) := cell_of (qf)
    have y13 : wf.cell? ⟨(w.heap.size + 2), 13, none⟩ = some (.int .i64 mf.m1.r) := cell_of (qf)
    have y14 : wf.cell? ⟨(w.heap.size + 2), 14, none⟩ = some (.bool mf.x0) := cell_of (qf)
    have y15 : wf.cell? ⟨(w.heap.size + 2), 15, none⟩ = some (.bool mf.x1) := cell_of (qf)
    refine bodyPost_ret (v := .tuple #[.pointer (some ⟨d, 0, none⟩), .agg #[.int .i64 mf.m0.c, .slice b0 mf.m0.q.length j0, .bool mf.m0.busy, .slice b1 mf.m0.rest.length j1, .int .i64 mf.m0.acc, .int .i64 mf.m0.w, .int .i64 mf.m0.r, .int .i64 mf.m1.c, .slice b2 mf.m1.q.length j2, .bool mf.m1.busy, .slice b3 mf.m1.rest.length j3, .int .i64 mf.m1.acc, .int .i64 mf.m1.w, .int .i64 mf.m1.r, .bool mf.x0, .bool mf.x1], .bool true]) (by simp [results, Try.results63, go_sem, y0, y1, y2, y3, y4, y5, y6, y7, y8, y9, y10, y11, y12, y13, y14, y15]) rfl ?_
    exact step_post15 (w0 := w8) (z := w0.heap.size) HF8.out (HF9.out.then0 fd) (by omega) (by omega) hS f10 (fun x hx => by rcases hF' x hx with h | ⟨⟨h1, h2⟩, _⟩ | h; exact .inl h; exact .inr (.inl ⟨h1, h2⟩); exact .inr (.inr h)) h10 ff ((HCV.out.keep fd (by simp)).there) HFl.out HD.out HNW.out

end Go.Proofs.Ytdoamelhclnphaa
