/-
  Law 22: is: a splice looks like the reference's.
-/
import Derived.Test.YtodpkdbcdbdjfaaRef22c
import Derived.Test.YtodpkdbcdbdjfaaSpLaw
import Derived.Deep.RegionHeld3
namespace Go.Proofs.Ytodpkdbcdbdjfaa
open Go.RowKit
set_option maxRecDepth 100000

set_option maxHeartbeats 8000000 in
theorem is22 {w : World} {N0 N1 Nv : Nat → Prop} {b W b0 b1 : Nat} {s : SS} {v : Value} (h : Sp w N0 N1 b W b0 b1 s) (hr0 : s.t0.rd ≤ 4611686018427387904) (hr1 : s.t1.rd ≤ 4611686018427387904) (hv : Rsp w Nv v s) :
    Calls Try.prog 43 #[.pointer (some ⟨b, 0, none⟩), v] w fun e w' => e = .returned (.bool true) ∧ Fr [] w w' := by
  have ok0 := h.h0.ok
  have ok1 := h.h1.ok
  obtain ⟨a0, k0, a1, k1, rfl, h0, h1⟩ := hv
  have HN0 := Lib.hid fun w1 (f : Fr [] w w1) => rs_nextF0 (c0 := s.c0) (c1 := s.c1) (h0.keep f (by simp)) (h1.keep f (by simp)) ok0 hr0 s.first
  have HN1 := Lib.hid fun w1 (f : Fr [] w w1) => rs_nextF1 (c0 := s.c0) (c1 := s.c1) (h0.keep f (by simp)) (h1.keep f (by simp)) ok1 hr1 s.first
  have HW0 := Lib.hid fun w1 (f : Fr [] w w1) (u : Value) (hu : Wr w1 u (nextS s.t0 s.c0 0)) => wants22 (next22_0 (h.keep0 f) hr0) hu
  have HW1 := Lib.hid fun w1 (f : Fr [] w w1) (u : Value) (hu : Wr w1 u (nextS s.t1 s.c1 1)) => wants22 (next22_1 (h.keep0 f) hr1) hu
  have HM0 := Lib.hid fun w1 (f : Fr [] w w1) => moved22 (sp_moved0 (h.keep0 f))
  have HM1 := Lib.hid fun w1 (f : Fr [] w w1) => moved22 (sp_moved1 (h.keep0 f))
  have HWB := Lib.hid fun w1 (f : Fr [] w w1) => wants22 (next22_bad (h.keep0 f) (i := 2) (by decide) (by decide)) (Wr.plain w1 0 0 0 0)
  have HMB := Lib.hid fun w1 (f : Fr [] w w1) => moved22 (sp_moved_bad (h.keep0 f).q (i := -1) (by decide) (by decide))
  have HRD := Lib.hid fun w1 (f : Fr [] w w1) => rs_done (s := s) ⟨a0, k0, a1, k1, rfl, h0.keep f (by simp), h1.keep f (by simp)⟩ ok0 ok1 hr0 hr1
  have HLD := Lib.hid fun w1 (f : Fr [] w w1) => done22 (sp_done (h.keep0 f) hr0 hr1)
  obtain ⟨w0, hw0, f0, q0⟩ : ∃ W, (w.alloc (.cells #[.int .i64 s.t0.stage, .int .i64 s.t0.limit, .int .i64 s.t0.rd, .int .i64 s.t0.wr, .slice a0 s.t0.s.length k0, .int .i64 s.t0.r, .int .i64 s.t0.w, .int .i64 s.t1.stage, .int .i64 s.t1.limit, .int .i64 s.t1.rd, .int .i64 s.t1.wr, .slice a1 s.t1.s.length k1, .int .i64 s.t1.r, .int .i64 s.t1.w, .bool s.c0, .bool s.c1, .int .i64 s.first] 95)) = W ∧ Fr [] w W ∧ SBs W w.heap.size a0 k0 a1 k1 s.t0 s.t1 s.c0 s.c1 s.first := ⟨_, rfl, (Fr.refl _ _).alloc _, newA rfl⟩
  clear h h0 h1 ok0 ok1 hr0 hr1
  generalize (decide ((nextS s.t0 s.c0 0).kind = 4) && decide ((nextS s.t1 s.c1 1).kind = 4)) = dn at *
  generalize nextS s.t0 s.c0 0 = x at *
  generalize nextS s.t1 s.c1 1 = y at *
  go_enter Try.func43, Try.ntmps43
  go_wp2_with fail
  go_loopw [5] (fun i wr => ∃ k : Nat, k ≤ 2 ∧ i = .int .i64 k ∧ Fr [] w wr ∧ SBs wr w.heap.size a0 k0 a1 k1 s.t0 s.t1 s.c0 s.c1 s.first) (fun i _ => 3 - (intOf i).toNat)
  case atStart => exact ⟨0, by omega, rfl, f0, q0⟩
  case round =>
    obtain ⟨k, hk, rfl, g, q⟩ := hrel
    clear f0 q0 hw0
    rcases (show k = 0 ∨ k = 1 ∨ k = 2 from by omega) with rfl | rfl | rfl
    · skip
      have e5 := SBs.keep q (Fr.refl [] wr) (by simp)
      as_aux_lemma =>
        go_wp2_with (refine sbs_loadW q rfl (.tmp 3) rfl (by rfl) ?_)
        refine (HN0.out _ g).mono ?_
        rintro e w1 ⟨v1, rfl, f1, hv1⟩
        have hw1 := hv1.wr
        obtain ⟨u, rfl, ou⟩ := hv1
        obtain ⟨ga, gc, rfl, _⟩ := ou.formB
        have g1 := g.then0 f1
        have HW := Lib.hid (HW0.out _ g1 _ hw1)
        clear hw1 ou
        go_wp2_with fail
        refine HW.out.mono ?_
        rintro e w2 ⟨rfl, f2⟩
        have g2 := g1.then0 f2
        have q2 := (SBs.keep q f1 (by simp)).keep f2 (by simp)
        have e3 : w2.cell? ⟨w.heap.size, 3, none⟩ = some (.int .i64 s.t0.wr) := cell_of q2
        have Q2 := Lib.hid q2
        clear q q2 HW e5
        go_wp2_with fail
        refine (HM0.out _ g2).mono ?_
        rintro e w3 ⟨rfl, f3⟩
        have Q3 := Lib.hid (SBs.keep Q2.out f3 (by simp))
        have g3 := g2.then0 f3
        clear e3 Q2
        go_wp2_with fail
        go_roundw
        case rel => exact ⟨1, by omega, rfl, g3, Q3.out⟩
        case measure => simp [intOf]
    · skip
      have e5 := SBs.keep q (Fr.refl [] wr) (by simp)
      as_aux_lemma =>
        go_wp2_with (refine sbs_loadW q rfl (.tmp 3) rfl (by rfl) ?_)
        refine (HN1.out _ g).mono ?_
        rintro e w1 ⟨v1, rfl, f1, hv1⟩
        have hw1 := hv1.wr
        obtain ⟨u, rfl, ou⟩ := hv1
        obtain ⟨ga, gc, rfl, _⟩ := ou.formB
        have g1 := g.then0 f1
        have HW := Lib.hid (HW1.out _ g1 _ hw1)
        clear hw1 ou
        go_wp2_with fail
        refine HW.out.mono ?_
        rintro e w2 ⟨rfl, f2⟩
        have g2 := g1.then0 f2
        have q2 := (SBs.keep q f1 (by simp)).keep f2 (by simp)
        have e3 : w2.cell? ⟨w.heap.size, 10, none⟩ = some (.int .i64 s.t1.wr) := cell_of q2
        have Q2 := Lib.hid q2
        clear q q2 HW e5
        go_wp2_with fail
        refine (HM1.out _ g2).mono ?_
        rintro e w3 ⟨rfl, f3⟩
        have Q3 := Lib.hid (SBs.keep Q2.out f3 (by simp))
        have g3 := g2.then0 f3
        clear e3 Q2
        go_wp2_with fail
        go_roundw
        case rel => exact ⟨2, by omega, rfl, g3, Q3.out⟩
        case measure => simp [intOf]
    · have HS := Lib.hid fun w' (f : Fr [] wr w') => (show (fun w' => w'.cell? ⟨w.heap.size, 0, none⟩ = some (.int .i64 s.t0.stage) ∧ w'.cell? ⟨w.heap.size, 1, none⟩ = some (.int .i64 s.t0.limit) ∧ w'.cell? ⟨w.heap.size, 2, none⟩ = some (.int .i64 s.t0.rd) ∧ w'.cell? ⟨w.heap.size, 3, none⟩ = some (.int .i64 s.t0.wr) ∧ w'.cell? ⟨w.heap.size, 4, none⟩ = some (.slice a0 s.t0.s.length k0) ∧ w'.cell? ⟨w.heap.size, 5, none⟩ = some (.int .i64 s.t0.r) ∧ w'.cell? ⟨w.heap.size, 6, none⟩ = some (.int .i64 s.t0.w) ∧ w'.cell? ⟨w.heap.size, 7, none⟩ = some (.int .i64 s.t1.stage) ∧ w'.cell? ⟨w.heap.size, 8, none⟩ = some (.int .i64 s.t1.limit) ∧ w'.cell? ⟨w.heap.size, 9, none⟩ = some (.int .i64 s.t1.rd) ∧ w'.cell? ⟨w.heap.size, 10, none⟩ = some (.int .i64 s.t1.wr) ∧ w'.cell? ⟨w.heap.size, 11, none⟩ = some (.slice a1 s.t1.s.length k1) ∧ w'.cell? ⟨w.heap.size, 12, none⟩ = some (.int .i64 s.t1.r) ∧ w'.cell? ⟨w.heap.size, 13, none⟩ = some (.int .i64 s.t1.w) ∧ w'.cell? ⟨w.heap.size, 14, none⟩ = some (.bool s.c0) ∧ w'.cell? ⟨w.heap.size, 15, none⟩ = some (.bool s.c1) ∧ w'.cell? ⟨w.heap.size, 16, none⟩ = some (.int .i64 s.first)) w' from (let q' := SBs.keep q f (by simp); ⟨cell_of q', cell_of q', cell_of q', cell_of q', cell_of q', cell_of q', cell_of q', cell_of q', cell_of q', cell_of q', cell_of q', cell_of q', cell_of q', cell_of q', cell_of q', cell_of q', cell_of q'⟩))
      have HSW := HS.out wr.drew ((Fr.refl [] wr).drew)
      have hfr : Fr [] wr wr := Fr.refl _ _
      clear q HN0 HN1 HW0 HW1 HM0 HM1
      obtain ⟨d0, d1, d2, d3, d4, d5, d6, d7, d8, d9, d10, d11, d12, d13, d14, d15, d16⟩ := HS.out wr (Fr.refl [] wr)
      go_wp2_with fail
      go_region_held3 (fun w' => w'.cell? ⟨w.heap.size, 0, none⟩ = some (.int .i64 s.t0.stage) ∧ w'.cell? ⟨w.heap.size, 1, none⟩ = some (.int .i64 s.t0.limit) ∧ w'.cell? ⟨w.heap.size, 2, none⟩ = some (.int .i64 s.t0.rd) ∧ w'.cell? ⟨w.heap.size, 3, none⟩ = some (.int .i64 s.t0.wr) ∧ w'.cell? ⟨w.heap.size, 4, none⟩ = some (.slice a0 s.t0.s.length k0) ∧ w'.cell? ⟨w.heap.size, 5, none⟩ = some (.int .i64 s.t0.r) ∧ w'.cell? ⟨w.heap.size, 6, none⟩ = some (.int .i64 s.t0.w) ∧ w'.cell? ⟨w.heap.size, 7, none⟩ = some (.int .i64 s.t1.stage) ∧ w'.cell? ⟨w.heap.size, 8, none⟩ = some (.int .i64 s.t1.limit) ∧ w'.cell? ⟨w.heap.size, 9, none⟩ = some (.int .i64 s.t1.rd) ∧ w'.cell? ⟨w.heap.size, 10, none⟩ = some (.int .i64 s.t1.wr) ∧ w'.cell? ⟨w.heap.size, 11, none⟩ = some (.slice a1 s.t1.s.length k1) ∧ w'.cell? ⟨w.heap.size, 12, none⟩ = some (.int .i64 s.t1.r) ∧ w'.cell? ⟨w.heap.size, 13, none⟩ = some (.int .i64 s.t1.w) ∧ w'.cell? ⟨w.heap.size, 14, none⟩ = some (.bool s.c0) ∧ w'.cell? ⟨w.heap.size, 15, none⟩ = some (.bool s.c1) ∧ w'.cell? ⟨w.heap.size, 16, none⟩ = some (.int .i64 s.first))
        (first | (with_reducible exact HSW) | ((with_reducible refine HS.out _ ?_; repeat first | (with_reducible exact hfr) | (with_reducible exact Fr.refl _ _) | (with_reducible refine Fr.drew ?_) | (with_reducible refine Fr.alloc ?_ _)); done))
        (first
          | (go_at_call 45; ((with_reducible refine (HWB.out _ (g.then0 (by first | (with_reducible exact hfr) | (with_reducible exact Fr.drew hfr)))).mono ?_); rintro e wz ⟨rfl, fz⟩; replace hfr : Fr [] wr wz := Fr.then0 (by first | (with_reducible exact hfr) | (with_reducible exact Fr.drew hfr)) fz; have HSW := HS.out _ hfr))
          | (go_at_call 38; ((with_reducible refine (HMB.out _ (g.then0 (by first | (with_reducible exact hfr) | (with_reducible exact Fr.drew hfr)))).mono ?_); rintro e wz ⟨rfl, fz⟩; replace hfr : Fr [] wr wz := Fr.then0 (by first | (with_reducible exact hfr) | (with_reducible exact Fr.drew hfr)) fz; have HSW := HS.out _ hfr))
          | (go_at_call 71; ((with_reducible refine (HRD.out _ (g.then0 (by first | (with_reducible exact hfr) | (with_reducible exact Fr.drew hfr)))).mono ?_); rintro e wz ⟨rfl, fz⟩; replace hfr : Fr [] wr wz := Fr.then0 (by first | (with_reducible exact hfr) | (with_reducible exact Fr.drew hfr)) fz; have HSW := HS.out _ hfr))
          | (go_at_call 41; ((with_reducible refine (HLD.out _ (g.then0 (by first | (with_reducible exact hfr) | (with_reducible exact Fr.drew hfr)))).mono ?_); rintro e wz ⟨rfl, fz⟩; replace hfr : Fr [] wr wz := Fr.then0 (by first | (with_reducible exact hfr) | (with_reducible exact Fr.drew hfr)) fz; have HSW := HS.out _ hfr)))
      go_wp2_with fail
      go_ret
      exact ⟨rfl, g.then0 hfr⟩
end Go.Proofs.Ytodpkdbcdbdjfaa
