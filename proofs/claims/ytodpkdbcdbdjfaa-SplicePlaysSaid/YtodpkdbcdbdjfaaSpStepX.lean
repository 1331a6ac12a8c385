/-
  Law 22: step, the arm of the copy.
-/
import Derived.Test.YtodpkdbcdbdjfaaSpStepB
import Derived.Test.YtodpkdbcdbdjfaaIs22
import Derived.Test.YtodpkdbcdbdjfaaRegionU
import Derived.Test.YtodpkdbcdbdjfaaKnown22
namespace Go.Proofs.Ytodpkdbcdbdjfaa
open Go.RowKit
set_option maxRecDepth 100000

set_option maxHeartbeats 16000000 in
theorem step22_x {w : World} {N0 N1 N2 : Nat → Prop} {b W b0 b1 : Nat} {s : SS} {v : Value} (h : Sp w N0 N1 b W b0 b1 s) (hr0 : s.t0.rd ≤ 2000000000000) (hr1 : s.t1.rd ≤ 2000000000000) (hv : Rsp w N2 v s) (hb : ¬ N2 b ∧ ¬ N2 W ∧ ¬ N2 b0 ∧ ¬ N2 b1) {pa : Option Addr} {pc : Nat} {data : List UInt8} {what : Int} (q0 : (what == 0) = false) (q1 : (what == 1) = false) (q2 : (what == 2) = false) (fr n er : Int) :
    Calls Try.prog 44 #[.pointer (some ⟨b, 0, none⟩), v, .agg #[.int .i64 what, .int .i64 fr, .slice pa data.length pc, .int .i64 n, .int .i64 er]] w (StepR22 w N0 N1 N2 b W b0 b1 s) := by
  have hcv := fun (w : World) (C : Array Value) (n c : Nat) => Lib.run_convert_bytes_const (P := Try.prog) w 22 5 C n c Try.underlying22 Try.underlying5
  obtain ⟨hlb, hlW, hl0, hl1⟩ := h.lt
  obtain ⟨a0, k0, a1, k1, rfl, _⟩ := id hv
  have HV := Lib.hid hv.there
  have HNB := Lib.hid hb
  obtain ⟨W0, hW0, g0, q4, q5, q7⟩ : ∃ W', ((w.alloc (.cells #[.int .i64 s.t0.stage, .int .i64 s.t0.limit, .int .i64 s.t0.rd, .int .i64 s.t0.wr, .slice a0 s.t0.s.length k0, .int .i64 s.t0.r, .int .i64 s.t0.w, .int .i64 s.t1.stage, .int .i64 s.t1.limit, .int .i64 s.t1.rd, .int .i64 s.t1.wr, .slice a1 s.t1.s.length k1, .int .i64 s.t1.r, .int .i64 s.t1.w, .bool s.c0, .bool s.c1, .int .i64 s.first] 95)).alloc (.cells #[.int .i64 what, .int .i64 fr, .slice pa data.length pc, .int .i64 n, .int .i64 er] 73)).alloc (.cells #[.int .i64 0, .int .i64 0, .int .i64 0, .int .i64 0, .slice none 0 0, .int .i64 0, .int .i64 0, .int .i64 0, .int .i64 0, .int .i64 0, .int .i64 0, .slice none 0 0, .int .i64 0, .int .i64 0, .bool false, .bool false, .int .i64 0] 95) = W' ∧ Fr [] w W' ∧ SBs W' w.heap.size a0 k0 a1 k1 s.t0 s.t1 s.c0 s.c1 s.first ∧ W'.heap[w.heap.size + 1]? = some (.cells #[.int .i64 what, .int .i64 fr, .slice pa data.length pc, .int .i64 n, .int .i64 er] 73 (0, 0)) ∧ SB W' (w.heap.size + 2) (.int .i64 0) (.int .i64 0) (.int .i64 0) (.int .i64 0) (.slice none 0 0) (.int .i64 0) (.int .i64 0) (.int .i64 0) (.int .i64 0) (.int .i64 0) (.int .i64 0) (.slice none 0 0) (.int .i64 0) (.int .i64 0) (.bool false) (.bool false) (.int .i64 0) :=
    ⟨_, rfl, (((Fr.refl _ _).alloc _).alloc _).alloc _, keepA (keepA (newA rfl)), keepA (newA (by simp)), newA (by simp)⟩
  have hz0 := lt_of_heap q7
  have e0 : W0.cell? ⟨w.heap.size + 1, 0, none⟩ = some (.int .i64 what) := cell_of q5
  have HSP2 := Lib.hid (h.out g0)
  have HCP := Lib.hid (sp_copy HSP2.out)
  have HG0 := Lib.hid g0
  clear h hv hb q5
  go_enter Try.func44, Try.ntmps44
  go_wp2_with fail
  refine HCP.out.mono ?_
  rintro e w1 ⟨b', W', c0', c1', K0, K1, rfl, f1, hS, o0, o1, p1, p2, p3, p4⟩
  have Q4 := Lib.hid (SBs.keep q4 f1 (by simp))
  have Q7 : Hid (SB w1 (w.heap.size + 2) (.int .i64 0) (.int .i64 0) (.int .i64 0) (.int .i64 0) (.slice none 0 0) (.int .i64 0) (.int .i64 0) (.int .i64 0) (.int .i64 0) (.int .i64 0) (.int .i64 0) (.slice none 0 0) (.int .i64 0) (.int .i64 0) (.bool false) (.bool false) (.int .i64 0)) := Lib.hid (f1.keep q7 (by simp))
  have HS1 := Lib.hid (HSP2.out.keep0 f1)
  have HCS := Lib.hid hS
  have HG1 := Lib.hid (HG0.out.then0 f1)
  have HO := Lib.hid (And.intro o0 o1)
  have hz1 := f1.size
  clear HCP HSP2 hW0 hS q4 q7 f1 e0 HG0 o0 o1 q0 q1 q2 g0
  go_wp2_with fail
  go_loopw [16] (fun i wr => ∃ (k : Nat) (s' : SS), i = .int .i64 k ∧ k ≤ 2 ∧ Hid (s'.t0.rd ≤ 2000000000000 + (k : Int) ∧ s'.t1.rd ≤ 2000000000000 + (k : Int)) ∧ Hid (Sp wr (fun y => (N0 y ∧ y < w.heap.size) ∨ W0.heap.size ≤ y) (fun y => (N1 y ∧ y < w.heap.size) ∨ W0.heap.size ≤ y) b W b0 b1 s') ∧ Fr [b, W, b0, b1] w1 wr) (fun i _ => 2 - (intOf i).toNat)
  case atStart => exact ⟨0, s, rfl, by omega, Lib.hid ⟨by omega, by omega⟩, HS1, Fr.refl _ _⟩
  case round =>
    obtain ⟨k, s', rfl, hk, HRD, HSK, g⟩ := hrel
    rename World => wq
    by_cases hlt : (k : Int) < 2
    · clear HCS Q4 Q7 HS1 HV HG1 HO HNB
      as_aux_lemma =>
        have hk2 : (k : Int) ≤ 1 := by omega
        have hrd := HRD.out
        go_wp2_with fail
        refine (sp_gotU (w := wq.alloc _) (HSK.out.keep0 ((Fr.refl [] wq).alloc _)) (by omega) (by omega) (p := [120]) (lit_sl (w := wq) (l := [120])) (by decide) 14 (k : Int)).mono ?_
        rintro e w2 ⟨rfl, f2, h2⟩
        have hr2 := gotU_rd s' (k : Int) [120] 14
        generalize gotU s' (k : Int) [120] 14 = s2 at h2 hr2
        have g2 := Lib.hid ((g.alloc _).then f2)
        have H2 := Lib.hid h2
        simp only [List.length_cons, List.length_nil] at hr2
        clear f2 h2 HSK g HRD
        go_wp2_with fail
        refine (sp_wroteU H2.out (by omega) (by omega) 1 14 (k : Int)).mono ?_
        rintro e w3 ⟨rfl, f3, h3⟩
        have hr3 := wroteU_rd s2 (k : Int) 1 14
        generalize wroteU s2 (k : Int) 1 14 = s3 at h3 hr3
        have g3 := Lib.hid (g2.out.then f3)
        have H3 := Lib.hid h3
        clear f3 h3 H2 g2
        go_wp2_with fail
        refine (sp_closeU H3.out (by omega) (by omega) (k : Int)).mono ?_
        rintro e w4 ⟨rfl, f4, h4⟩
        have hr4 := closeU_rd s3 (k : Int)
        generalize closeU s3 (k : Int) = s4 at h4 hr4
        have g4 := Lib.hid (g3.out.then f4)
        have H4 := Lib.hid h4
        have HR4 : Hid (s4.t0.rd ≤ 2000000000000 + ((k + 1 : Nat) : Int) ∧ s4.t1.rd ≤ 2000000000000 + ((k + 1 : Nat) : Int)) := Lib.hid ⟨by omega, by omega⟩
        clear f4 h4 H3 g3 hr2 hr3 hr4 hrd
        go_wp2_with fail
        go_roundw
        case rel => exact ⟨k + 1, s4, by go_num, by omega, HR4, H4, g4.out⟩
        case measure => simp [intOf]; omega
    · have HR2 : Hid (SB wq (w.heap.size + 2) (.int .i64 0) (.int .i64 0) (.int .i64 0) (.int .i64 0) (.slice none 0 0) (.int .i64 0) (.int .i64 0) (.int .i64 0) (.int .i64 0) (.int .i64 0) (.int .i64 0) (.slice none 0 0) (.int .i64 0) (.int .i64 0) (.bool false) (.bool false) (.int .i64 0)) := Lib.hid (g.keep Q7.out (by simp; omega))
      have q4 := SBs.keep Q4.out g (by simp; omega)
      have HFA := Lib.hid fun (w' : World) (f : Fr [w.heap.size + 2] wq w') => (show w'.cell? ⟨w.heap.size, 0, none⟩ = some (.int .i64 s.t0.stage) ∧ w'.cell? ⟨w.heap.size, 1, none⟩ = some (.int .i64 s.t0.limit) ∧ w'.cell? ⟨w.heap.size, 2, none⟩ = some (.int .i64 s.t0.rd) ∧ w'.cell? ⟨w.heap.size, 3, none⟩ = some (.int .i64 s.t0.wr) ∧ w'.cell? ⟨w.heap.size, 4, none⟩ = some (.slice a0 s.t0.s.length k0) ∧ w'.cell? ⟨w.heap.size, 5, none⟩ = some (.int .i64 s.t0.r) ∧ w'.cell? ⟨w.heap.size, 6, none⟩ = some (.int .i64 s.t0.w) ∧ w'.cell? ⟨w.heap.size, 7, none⟩ = some (.int .i64 s.t1.stage) ∧ w'.cell? ⟨w.heap.size, 8, none⟩ = some (.int .i64 s.t1.limit) ∧ w'.cell? ⟨w.heap.size, 9, none⟩ = some (.int .i64 s.t1.rd) ∧ w'.cell? ⟨w.heap.size, 10, none⟩ = some (.int .i64 s.t1.wr) ∧ w'.cell? ⟨w.heap.size, 11, none⟩ = some (.slice a1 s.t1.s.length k1) ∧ w'.cell? ⟨w.heap.size, 12, none⟩ = some (.int .i64 s.t1.r) ∧ w'.cell? ⟨w.heap.size, 13, none⟩ = some (.int .i64 s.t1.w) ∧ w'.cell? ⟨w.heap.size, 14, none⟩ = some (.bool s.c0) ∧ w'.cell? ⟨w.heap.size, 15, none⟩ = some (.bool s.c1) ∧ w'.cell? ⟨w.heap.size, 16, none⟩ = some (.int .i64 s.first) from (let q' := SBs.keep q4 f (by simp); ⟨cell_of q', cell_of q', cell_of q', cell_of q', cell_of q', cell_of q', cell_of q', cell_of q', cell_of q', cell_of q', cell_of q', cell_of q', cell_of q', cell_of q', cell_of q', cell_of q', cell_of q'⟩))
      have HFIN : Hid (∀ wE : World, Fr [w.heap.size + 2] wq wE → StepR22 w N0 N1 N2 b W b0 b1 s (.returned (.tuple #[.pointer (some ⟨b', 0, none⟩), .agg #[.int .i64 s.t0.stage, .int .i64 s.t0.limit, .int .i64 s.t0.rd, .int .i64 s.t0.wr, .slice a0 s.t0.s.length k0, .int .i64 s.t0.r, .int .i64 s.t0.w, .int .i64 s.t1.stage, .int .i64 s.t1.limit, .int .i64 s.t1.rd, .int .i64 s.t1.wr, .slice a1 s.t1.s.length k1, .int .i64 s.t1.r, .int .i64 s.t1.w, .bool s.c0, .bool s.c1, .int .i64 s.first], .bool true])) wE) := Lib.hid fun wE f =>
        ⟨b', W', c0', c1', _, rfl, (HG1.out.mono (T := [b, W, b0, b1]) (by simp)).trans (g.trans f (U := [b, W, b0, b1, w.heap.size + 2]) (fun x hx => .inl (by simp at hx ⊢; omega)) (fun x hx => .inl (by simp at hx ⊢; omega))) (fun _ h => .inl h) (fun x hx => by
            by_cases e : x = w.heap.size + 2
            · exact .inr (by omega)
            · exact .inl (by simp at hx ⊢; omega)),
          ⟨K0, K1, (HCS.out.keep g (fun x hx => ⟨by simp at hx; omega, by simp at hx; omega, by simp at hx; omega, by simp at hx; omega, fun hn => by
              have hxl : x < w.heap.size := by simp at hx; omega
              have h1 := HO.out.1 x (by omega) hn
              have h2 := HS1.out.n0
              have h3 := HS1.out.h0
              rcases h1 with h1 | h1
              · simp at hx
                rcases hx with rfl | rfl | rfl | rfl
                · exact h2.1 (.inl h1)
                · exact h2.2.1 (.inl h1)
                · obtain ⟨_, _, _, _, _, _, h5, _⟩ := h3; exact h5 (.inl h1)
                · exact h2.2.2 (.inl h1)
              · omega, fun hn => by
              have hxl : x < w.heap.size := by simp at hx; omega
              have h1 := HO.out.2 x (by omega) hn
              have h2 := HS1.out.n1
              have h3 := HS1.out.h1
              rcases h1 with h1 | h1
              · simp at hx
                rcases hx with rfl | rfl | rfl | rfl
                · exact h2.1 (.inl h1)
                · exact h2.2.1 (.inl h1)
                · exact h2.2.2 (.inl h1)
                · obtain ⟨_, _, _, _, _, _, h5, _⟩ := h3; exact h5 (.inl h1)
              · omega⟩)).keep f (fun x hx => by
            simp at hx
            subst hx
            exact ⟨by omega, by omega, by omega, by omega, fun hn => by rcases HO.out.1 _ (by omega) hn with h1 | h1 <;> omega, fun hn => by rcases HO.out.2 _ (by omega) hn with h1 | h1 <;> omega⟩),
            fun x hx hn => (HO.out.1 x (by omega) hn).elim (·.1) (fun h1 => by omega), fun x hx hn => (HO.out.2 x (by omega) hn).elim (·.1) (fun h1 => by omega)⟩,
          ⟨_, ((HV.out.keep HG1.out (by simp)).keep g (fun x hx hn => by
              simp at hx
              rcases hx with rfl | rfl | rfl | rfl
              · exact HNB.out.1 hn.1
              · exact HNB.out.2.1 hn.1
              · exact HNB.out.2.2.1 hn.1
              · exact HNB.out.2.2.2 hn.1)).keep f (fun x hx hn => by simp at hx; omega), ⟨fun hn => by omega, fun hn => by omega, fun hn => by omega, fun hn => by omega⟩, fun x hx hn => hn.1⟩, .inr ⟨by omega, by omega, by omega, by omega⟩⟩
      clear Q4 Q7 q4 HSK HRD g HS1 HV HG1 HCS HO HNB
      go_wp2_with fail
      have fd0 : Fr [w.heap.size + 2] wq wq.drew := (Fr.refl _ _).drew
      refine wp_region_tree (.take 0 (.take 1 (.take 2 (.take 3 (.take 4 (.one 5 (.take 6 .nil))))))) (fun w' => Fr [w.heap.size + 2] wq w') (by kernel_rfl) (by kernel_rfl) fd0 ?_
      intro OPS HOPS
      have hops := HOPS.out
      try simp only [List.append_eq, List.cons_append, List.nil_append] at hops
      replace HOPS := Lib.hid hops
      clear hops
      refine walkT_take (o := _) (v := ?_) (by rw [HOPS.out]; simp only [List.getElem?_toArray, List.getElem?_cons_succ, List.getElem?_cons_zero]; exact rfl) (Or.inl ⟨rfl, ?_⟩) ?_
      rotate_left
      · (intro w hSw; have hSx := HFA.out _ hSw; (try dsimp only at hSx); clear hSw; go_simp) <;> (with_reducible rfl)
      simp only [Act.put, List.setIfInBounds_toArray, List.set_cons_zero, List.set_cons_succ]
      refine walkT_take (o := _) (v := ?_) (by rw [HOPS.out]; simp only [List.getElem?_toArray, List.getElem?_cons_succ, List.getElem?_cons_zero]; exact rfl) (Or.inl ⟨rfl, ?_⟩) ?_
      rotate_left
      · (intro w hSw; have hSx := HFA.out _ hSw; (try dsimp only at hSx); clear hSw; go_simp) <;> (with_reducible rfl)
      simp only [Act.put, List.setIfInBounds_toArray, List.set_cons_zero, List.set_cons_succ]
      refine walkT_take (o := _) (v := ?_) (by rw [HOPS.out]; simp only [List.getElem?_toArray, List.getElem?_cons_succ, List.getElem?_cons_zero]; exact rfl) (Or.inl ⟨rfl, ?_⟩) ?_
      rotate_left
      · (intro w hSw; have hSx := HFA.out _ hSw; (try dsimp only at hSx); clear hSw; go_simp) <;> (with_reducible rfl)
      simp only [Act.put, List.setIfInBounds_toArray, List.set_cons_zero, List.set_cons_succ]
      refine walkT_take (o := _) (v := ?_) (by rw [HOPS.out]; simp only [List.getElem?_toArray, List.getElem?_cons_succ, List.getElem?_cons_zero]; exact rfl) (Or.inl ⟨rfl, ?_⟩) ?_
      rotate_left
      · (intro w hSw; have hSx := HFA.out _ hSw; (try dsimp only at hSx); clear hSw; go_simp) <;> (with_reducible rfl)
      simp only [Act.put, List.setIfInBounds_toArray, List.set_cons_zero, List.set_cons_succ]
      refine walkT_take (o := _) (v := ?_) (by rw [HOPS.out]; simp only [List.getElem?_toArray, List.getElem?_cons_succ, List.getElem?_cons_zero]; exact rfl) (Or.inl ⟨rfl, ?_⟩) ?_
      rotate_left
      · (intro w hSw; have hSx := HFA.out _ hSw; (try dsimp only at hSx); clear hSw; go_simp) <;> (with_reducible rfl)
      simp only [Act.put, List.setIfInBounds_toArray, List.set_cons_zero, List.set_cons_succ]
      refine walkT_call (o := _) (by rw [HOPS.out]; simp only [List.getElem?_toArray, List.getElem?_cons_succ, List.getElem?_cons_zero]; exact rfl) (fun K HK => ?_)
      have hR : SB wq.drew (w.heap.size + 2) (.int .i64 0) (.int .i64 0) (.int .i64 0) (.int .i64 0) (.slice none 0 0) (.int .i64 0) (.int .i64 0) (.int .i64 0) (.int .i64 0) (.int .i64 0) (.int .i64 0) (.slice none 0 0) (.int .i64 0) (.int .i64 0) (.bool false) (.bool false) (.int .i64 0) := HR2.out
      obtain ⟨w9, hst, qR, fR⟩ := sbs_set hR a0 k0 a1 k1 s.t0 s.t1 s.c0 s.c1 s.first
      refine step_store17 (p := .tmp 7) (x := .tmp 105) hR rfl rfl rfl rfl rfl ?_
      rw [hst]
      have f9 : Fr [w.heap.size + 2] wq w9 := fd0.then fR
      refine HK.out (fun w' => Fr [w.heap.size + 2] wq w') _ _ (fun _ h => h) f9 ?_
      clear HK K
      try simp only [Act.put, List.setIfInBounds_toArray, List.set_cons_zero, List.set_cons_succ]
      refine walkT_take (o := _) (v := ?_) (by rw [HOPS.out]; simp only [List.getElem?_toArray, List.getElem?_cons_succ, List.getElem?_cons_zero]; exact rfl) (Or.inl ⟨rfl, ?_⟩) ?_
      rotate_left
      · (intro w hSw; have hSx := HFA.out _ hSw; (try dsimp only at hSx); clear hSw; go_simp) <;> (with_reducible rfl)
      simp only [Act.put, List.setIfInBounds_toArray, List.set_cons_zero, List.set_cons_succ]
      refine walkT_done ?_
      clear HOPS OPS
      have QR := Lib.hid qR
      have F9 := Lib.hid f9
      clear HFA qR fR f9 hst hR
      go_wp2_with fail
      refine bodyPost_ret (sbs_result3 QR.out rfl rfl rfl rfl) rfl ?_
      exact HFIN.out _ F9.out
end Go.Proofs.Ytodpkdbcdbdjfaa
