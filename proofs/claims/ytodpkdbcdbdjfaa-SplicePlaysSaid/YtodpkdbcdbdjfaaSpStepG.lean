/-
  Law 22: step, the arm Got.
-/
import Derived.Test.YtodpkdbcdbdjfaaSpStepB
import Derived.Test.YtodpkdbcdbdjfaaIs22
import Derived.Test.YtodpkdbcdbdjfaaRegionU
import Derived.Test.YtodpkdbcdbdjfaaStepsTwo
namespace Go.Proofs.Ytodpkdbcdbdjfaa
open Go.RowKit
set_option maxRecDepth 100000

set_option maxHeartbeats 16000000 in
theorem step22_g {w : World} {N0 N1 N2 : Nat → Prop} {b W b0 b1 : Nat} {s : SS} {v : Value} (h : Sp w N0 N1 b W b0 b1 s) (hI : Inv22 s) (hr0 : s.t0.rd ≤ 2000000000000) (hr1 : s.t1.rd ≤ 2000000000000) (hv : Rsp w N2 v s) (hb : ¬ N2 b ∧ ¬ N2 W ∧ ¬ N2 b0 ∧ ¬ N2 b1) {pa : Option Addr} {pc : Nat} {data : List UInt8} (hd : Sl w pa (bi data)) (hdo : ∀ b' o', 0 < data.length → pa = some ⟨b', o', none⟩ → b' ≠ b ∧ b' ≠ W ∧ b' ≠ b0 ∧ b' ≠ b1) (hdl : data.length ≤ 65536) (fr n er : Int) :
    Calls Try.prog 44 #[.pointer (some ⟨b, 0, none⟩), v, .agg #[.int .i64 0, .int .i64 fr, .slice pa data.length pc, .int .i64 n, .int .i64 er]] w (StepR22 w N0 N1 N2 b W b0 b1 (gotU s fr data er)) := by
  have HU : Hid (Try.prog.underlying 22 = some (.slice 5)) := Lib.hid Try.underlying22
  have HIN : Hid ((Try.prog.info? 5).map (fun i => (i.zero, i.size, i.bytes)) = some (some (.int .u8 0), 1, 1)) := Lib.hid (by kernel_rfl)
  have H1 : Hid (([] : List Value).length + data.length ≤ maxLen) := Lib.hid (by unfold maxLen; simp; omega)
  have H2 : Hid ((([] : List Value).length + data.length) * 1 ≤ 140737488355328) := Lib.hid (by simp; omega)
  have H3 : Hid (((bi data).map (Value.int .u8)).length = data.length) := Lib.hid (by simp [bi])
  obtain ⟨hlb, hlW, hl0, hl1⟩ := h.lt
  have ok0 := h.h0.ok
  have ok1 := h.h1.ok
  have HRS := Lib.hid fun w1 (f : Fr [] w w1) => (hv.there.keep f (by simp)).mono (N' := fun x => (N2 x ∧ x < w.heap.size) ∨ w1.heap.size ≤ x) (fun x hx => .inl hx)
  have HRG := Lib.hid fun w1 (f : Fr [] w w1) => rs_gotU (pc := pc) (HRS.out w1 f) hI ok0 ok1 (by omega) (by omega) (fun x hx => .inr hx) (sl_keep hd f (by simp)) hdl er fr
  have HSG := Lib.hid fun (w1 : World) (M0 M1 : Nat → Prop) (h1 : Sp w1 M0 M1 b W b0 b1 s) (pa2 : Option Addr) (pc2 : Nat) (hs : Sl w1 pa2 (bi data)) => sp_gotU (pc := pc2) h1 (by omega) (by omega) hs hdl er fr
  generalize gotU s fr data er = S2 at HRG HSG ⊢
  generalize gotC s fr data er = ce at HRG HSG
  have hcc : (ce == ce) = true := beq_self_eq_true ce
  obtain ⟨a0, k0, a1, k1, rfl, _⟩ := id hv
  have hdi : (data.length : Int) ≤ 65536 := by omega
  have HSP := Lib.hid h
  have HSD := Lib.hid hd
  have HNB := Lib.hid hb
  have HDO := Lib.hid hdo
  obtain ⟨W0, hW0, g0, q4, q5, q7⟩ : ∃ W', ((w.alloc (.cells #[.int .i64 s.t0.stage, .int .i64 s.t0.limit, .int .i64 s.t0.rd, .int .i64 s.t0.wr, .slice a0 s.t0.s.length k0, .int .i64 s.t0.r, .int .i64 s.t0.w, .int .i64 s.t1.stage, .int .i64 s.t1.limit, .int .i64 s.t1.rd, .int .i64 s.t1.wr, .slice a1 s.t1.s.length k1, .int .i64 s.t1.r, .int .i64 s.t1.w, .bool s.c0, .bool s.c1, .int .i64 s.first] 95)).alloc (.cells #[.int .i64 0, .int .i64 fr, .slice pa data.length pc, .int .i64 n, .int .i64 er] 73)).alloc (.cells #[.int .i64 0, .int .i64 0, .int .i64 0, .int .i64 0, .slice none 0 0, .int .i64 0, .int .i64 0, .int .i64 0, .int .i64 0, .int .i64 0, .int .i64 0, .slice none 0 0, .int .i64 0, .int .i64 0, .bool false, .bool false, .int .i64 0] 95) = W' ∧ Fr [] w W' ∧ SBs W' w.heap.size a0 k0 a1 k1 s.t0 s.t1 s.c0 s.c1 s.first ∧ W'.heap[w.heap.size + 1]? = some (.cells #[.int .i64 0, .int .i64 fr, .slice pa data.length pc, .int .i64 n, .int .i64 er] 73 (0, 0)) ∧ SB W' (w.heap.size + 2) (.int .i64 0) (.int .i64 0) (.int .i64 0) (.int .i64 0) (.slice none 0 0) (.int .i64 0) (.int .i64 0) (.int .i64 0) (.int .i64 0) (.int .i64 0) (.int .i64 0) (.slice none 0 0) (.int .i64 0) (.int .i64 0) (.bool false) (.bool false) (.int .i64 0) :=
    ⟨_, rfl, (((Fr.refl _ _).alloc _).alloc _).alloc _, keepA (keepA (newA rfl)), keepA (newA (by simp)), newA (by simp)⟩
  have hz0 := lt_of_heap q7
  have e0 : W0.cell? ⟨w.heap.size + 1, 0, none⟩ = some (.int .i64 0) := cell_of q5
  have e1 : W0.cell? ⟨w.heap.size + 1, 1, none⟩ = some (.int .i64 fr) := cell_of q5
  have e2 : W0.cell? ⟨w.heap.size + 1, 2, none⟩ = some (.slice pa data.length pc) := cell_of q5
  have e3 : W0.cell? ⟨w.heap.size + 1, 3, none⟩ = some (.int .i64 n) := cell_of q5
  have e4 : W0.cell? ⟨w.heap.size + 1, 4, none⟩ = some (.int .i64 er) := cell_of q5
  clear h hI hv hb hd hdo ok0 ok1
  go_enter Try.func44, Try.ntmps44
  go_wp2_with (refine sbs_loadW q4 rfl (.tmp 4) rfl (by rfl) ?_)
  refine (HRG.out W0 g0).mono ?_
  rintro e w1 ⟨u, rfl, f1, hu⟩
  obtain ⟨y0, l0, y1, l1, rfl, _⟩ := id hu
  clear HRG HRS
  have hz1 := f1.size
  obtain ⟨w2, hw2, f2, q9⟩ : ∃ W', w1.alloc (.cells #[.int .i64 S2.t0.stage, .int .i64 S2.t0.limit, .int .i64 S2.t0.rd, .int .i64 S2.t0.wr, .slice y0 S2.t0.s.length l0, .int .i64 S2.t0.r, .int .i64 S2.t0.w, .int .i64 S2.t1.stage, .int .i64 S2.t1.limit, .int .i64 S2.t1.rd, .int .i64 S2.t1.wr, .slice y1 S2.t1.s.length l1, .int .i64 S2.t1.r, .int .i64 S2.t1.w, .bool S2.c0, .bool S2.c1, .int .i64 S2.first] 95) = W' ∧ Fr [] w1 W' ∧ SBs W' w1.heap.size y0 l0 y1 l1 S2.t0 S2.t1 S2.c0 S2.c1 S2.first := ⟨_, rfl, (Fr.refl _ _).alloc _, newA rfl⟩
  have hz2 := lt_of_heap q9
  have f12 := f1.then0 f2
  have g2 : Fr [] w w2 := g0.then0 f12
  have A2 := f12.keep q5 (by simp)
  have HR2 : Hid (SB w2 (w.heap.size + 2) (.int .i64 0) (.int .i64 0) (.int .i64 0) (.int .i64 0) (.slice none 0 0) (.int .i64 0) (.int .i64 0) (.int .i64 0) (.int .i64 0) (.int .i64 0) (.int .i64 0) (.slice none 0 0) (.int .i64 0) (.int .i64 0) (.bool false) (.bool false) (.int .i64 0)) := Lib.hid (f12.keep q7 (by simp))
  have HSP2 := Lib.hid (HSP.out.out g2)
  have HRV := Lib.hid (hu.keep f2 (by simp))
  have HG2 := Lib.hid g2
  have HFA := Lib.hid fun (w' : World) (f : Fr [b, W, b0, b1, w.heap.size + 2] w2 w') => (show w'.cell? ⟨w1.heap.size, 0, none⟩ = some (.int .i64 S2.t0.stage) ∧ w'.cell? ⟨w1.heap.size, 1, none⟩ = some (.int .i64 S2.t0.limit) ∧ w'.cell? ⟨w1.heap.size, 2, none⟩ = some (.int .i64 S2.t0.rd) ∧ w'.cell? ⟨w1.heap.size, 3, none⟩ = some (.int .i64 S2.t0.wr) ∧ w'.cell? ⟨w1.heap.size, 4, none⟩ = some (.slice y0 S2.t0.s.length l0) ∧ w'.cell? ⟨w1.heap.size, 5, none⟩ = some (.int .i64 S2.t0.r) ∧ w'.cell? ⟨w1.heap.size, 6, none⟩ = some (.int .i64 S2.t0.w) ∧ w'.cell? ⟨w1.heap.size, 7, none⟩ = some (.int .i64 S2.t1.stage) ∧ w'.cell? ⟨w1.heap.size, 8, none⟩ = some (.int .i64 S2.t1.limit) ∧ w'.cell? ⟨w1.heap.size, 9, none⟩ = some (.int .i64 S2.t1.rd) ∧ w'.cell? ⟨w1.heap.size, 10, none⟩ = some (.int .i64 S2.t1.wr) ∧ w'.cell? ⟨w1.heap.size, 11, none⟩ = some (.slice y1 S2.t1.s.length l1) ∧ w'.cell? ⟨w1.heap.size, 12, none⟩ = some (.int .i64 S2.t1.r) ∧ w'.cell? ⟨w1.heap.size, 13, none⟩ = some (.int .i64 S2.t1.w) ∧ w'.cell? ⟨w1.heap.size, 14, none⟩ = some (.bool S2.c0) ∧ w'.cell? ⟨w1.heap.size, 15, none⟩ = some (.bool S2.c1) ∧ w'.cell? ⟨w1.heap.size, 16, none⟩ = some (.int .i64 S2.first) ∧ w'.cell? ⟨w.heap.size + 1, 1, none⟩ = some (.int .i64 fr) ∧ w'.cell? ⟨w.heap.size + 1, 2, none⟩ = some (.slice pa data.length pc) ∧ w'.cell? ⟨w.heap.size + 1, 3, none⟩ = some (.int .i64 n) ∧ w'.cell? ⟨w.heap.size + 1, 4, none⟩ = some (.int .i64 er) from (let q' := SBs.keep q9 f (by simp; omega); let a' := f.keep A2 (by simp; omega); ⟨cell_of q', cell_of q', cell_of q', cell_of q', cell_of q', cell_of q', cell_of q', cell_of q', cell_of q', cell_of q', cell_of q', cell_of q', cell_of q', cell_of q', cell_of q', cell_of q', cell_of q', cell_of a', cell_of a', cell_of a', cell_of a'⟩))
  have HNR : Hid (¬ ((N2 b ∧ b < w.heap.size) ∨ W0.heap.size ≤ b) ∧ ¬ ((N2 W ∧ W < w.heap.size) ∨ W0.heap.size ≤ W) ∧ ¬ ((N2 b0 ∧ b0 < w.heap.size) ∨ W0.heap.size ≤ b0) ∧ ¬ ((N2 b1 ∧ b1 < w.heap.size) ∨ W0.heap.size ≤ b1) ∧ ¬ ((N2 (w.heap.size + 2) ∧ w.heap.size + 2 < w.heap.size) ∨ W0.heap.size ≤ w.heap.size + 2)) := Lib.hid
    ⟨fun hn => hn.elim (fun hh => HNB.out.1 hh.1) (fun hh => by omega), fun hn => hn.elim (fun hh => HNB.out.2.1 hh.1) (fun hh => by omega), fun hn => hn.elim (fun hh => HNB.out.2.2.1 hh.1) (fun hh => by omega), fun hn => hn.elim (fun hh => HNB.out.2.2.2 hh.1) (fun hh => by omega), fun hn => hn.elim (fun hh => by omega) (fun hh => by omega)⟩
  have HNK : Hid (∀ x ∈ [w.heap.size + 2], x ≠ b ∧ x ≠ W ∧ x ≠ b0 ∧ x ≠ b1 ∧ ¬ ((N0 x ∧ x < w.heap.size) ∨ w2.heap.size ≤ x) ∧ ¬ ((N1 x ∧ x < w.heap.size) ∨ w2.heap.size ≤ x)) := Lib.hid (by
    intro x hx
    simp at hx
    subst hx
    exact ⟨by omega, by omega, by omega, by omega, by omega, by omega⟩)
  have HPA : Hid (∀ (b' o' : Nat), 0 < data.length → pa = some ⟨b', o', none⟩ → b' ∉ [b, W, b0, b1, w.heap.size + 2]) := Lib.hid (by
    intro b' o' h0 e
    obtain ⟨h1, h2, h3, h4⟩ := HDO.out b' o' h0 e
    obtain ⟨b2, o2, e2, hl2, _⟩ := HSD.out (by rw [bi_length]; exact h0)
    rw [e] at e2
    cases e2
    simp
    omega)
  have HSV := Lib.hid fun w' (f : Fr [b, W, b0, b1, w.heap.size + 2] w2 w') => (sl_keep (sl_keep HSD.out g2 (by simp)) f (fun h0 b' o' e hm => HPA.out b' o' (by rw [bi_length] at h0; exact h0) e hm)).toV
  have HFIN : Hid (∀ wE : World, Fr [b, W, b0, b1] w wE → Sp wE (fun y => (N0 y ∧ y < w.heap.size) ∨ w2.heap.size ≤ y) (fun y => (N1 y ∧ y < w.heap.size) ∨ w2.heap.size ≤ y) b W b0 b1 S2 → Rsp wE (fun x => (N2 x ∧ x < w.heap.size) ∨ W0.heap.size ≤ x) (.agg #[.int .i64 S2.t0.stage, .int .i64 S2.t0.limit, .int .i64 S2.t0.rd, .int .i64 S2.t0.wr, .slice y0 S2.t0.s.length l0, .int .i64 S2.t0.r, .int .i64 S2.t0.w, .int .i64 S2.t1.stage, .int .i64 S2.t1.limit, .int .i64 S2.t1.rd, .int .i64 S2.t1.wr, .slice y1 S2.t1.s.length l1, .int .i64 S2.t1.r, .int .i64 S2.t1.w, .bool S2.c0, .bool S2.c1, .int .i64 S2.first]) S2 → StepR22 w N0 N1 N2 b W b0 b1 S2 (.returned (.tuple #[.pointer (some ⟨b, 0, none⟩), .agg #[.int .i64 S2.t0.stage, .int .i64 S2.t0.limit, .int .i64 S2.t0.rd, .int .i64 S2.t0.wr, .slice y0 S2.t0.s.length l0, .int .i64 S2.t0.r, .int .i64 S2.t0.w, .int .i64 S2.t1.stage, .int .i64 S2.t1.limit, .int .i64 S2.t1.rd, .int .i64 S2.t1.wr, .slice y1 S2.t1.s.length l1, .int .i64 S2.t1.r, .int .i64 S2.t1.w, .bool S2.c0, .bool S2.c1, .int .i64 S2.first], .bool true])) wE) := Lib.hid fun wE g hS hR =>
    ⟨b, W, b0, b1, _, rfl, g, ⟨_, _, hS, fun x hx hn => hn.elim (·.1) (fun hh => by omega), fun x hx hn => hn.elim (·.1) (fun hh => by omega)⟩, ⟨_, hR, ⟨HNR.out.1, HNR.out.2.1, HNR.out.2.2.1, HNR.out.2.2.2.1⟩, fun x hx hn => hn.elim (·.1) (fun hh => by omega)⟩, .inl ⟨rfl, rfl, rfl, rfl⟩⟩
  have HEC := Lib.hid (Go.Proofs.enters_of Try.func33 (by kernel_rfl) rfl)
  clear hu q4 q5 q7 f1 f2 f12 q9 A2 e0 e1 e2 e3 e4 hW0 HSP g0 HDO HNB
  go_wp2_with fail
  have fd0 : Fr [b, W, b0, b1, w.heap.size + 2] w2 w2.drew := (Fr.refl _ _).drew
  refine wp_region_tree (.take 0 (.take 1 (.take 2 (.take 3 (.take 4 (.take 5 (.take 6 (.take 8 (.take 9 (.take 11 (.one 7 (.one 10 (.take 12 (.take 13 (.one 14 (.take 15 .nil)))))))))))))))) (fun w' => Fr [b, W, b0, b1, w.heap.size + 2] w2 w') (by kernel_rfl) (by kernel_rfl) fd0 ?_
  intro OPS HOPS
  have hops := HOPS.out
  try simp only [List.append_eq, List.cons_append, List.nil_append] at hops
  replace HOPS := Lib.hid hops
  clear hops
  refine walkT_take (o := _) (v := ?_) (by rw [HOPS.out]; simp only [List.getElem?_toArray, List.getElem?_cons_succ, List.getElem?_cons_zero]; exact rfl) (Or.inl ⟨rfl, ?_⟩) ?_
  rotate_left
  · (intro w hSw; have hSx := HFA.out _ hSw; (try dsimp only at hSx); clear hSw; go_simp) <;> (with_reducible rfl)
  simp only [Act.put, List.setIfInBounds_toArray, List.set_cons_zero, List.set_cons_succ]
  refine walkT_take (o := _) (v := ?_) (by rw [HOPS.out]; simp only [List.getElem?_toArray, List.getElem?_cons_succ, List.getElem?_cons_zero]; exact rfl) (Or.inl ⟨rfl, ?_⟩) ?_
  rotate_left
  · (intro w hSw; have hSx := HFA.out _ hSw; (try dsimp only at hSx); clear hSw; go_simp) <;> (with_reducible rfl)
  simp only [Act.put, List.setIfInBounds_toArray, List.set_cons_zero, List.set_cons_succ]
  refine walkT_take (o := _) (v := ?_) (by rw [HOPS.out]; simp only [List.getElem?_toArray, List.getElem?_cons_succ, List.getElem?_cons_zero]; exact rfl) (Or.inl ⟨rfl, ?_⟩) ?_
  rotate_left
  · (intro w hSw; have hSx := HFA.out _ hSw; (try dsimp only at hSx); clear hSw; go_simp) <;> (with_reducible rfl)
  simp only [Act.put, List.setIfInBounds_toArray, List.set_cons_zero, List.set_cons_succ]
  refine walkT_take (o := _) (v := ?_) (by rw [HOPS.out]; simp only [List.getElem?_toArray, List.getElem?_cons_succ, List.getElem?_cons_zero]; exact rfl) (Or.inl ⟨rfl, ?_⟩) ?_
  rotate_left
  · (intro w hSw; have hSx := HFA.out _ hSw; (try dsimp only at hSx); clear hSw; go_simp) <;> (with_reducible rfl)
  simp only [Act.put, List.setIfInBounds_toArray, List.set_cons_zero, List.set_cons_succ]
  refine walkT_take (o := _) (v := ?_) (by rw [HOPS.out]; simp only [List.getElem?_toArray, List.getElem?_cons_succ, List.getElem?_cons_zero]; exact rfl) (Or.inl ⟨rfl, ?_⟩) ?_
  rotate_left
  · (intro w hSw; have hSx := HFA.out _ hSw; (try dsimp only at hSx); clear hSw; go_simp) <;> (with_reducible rfl)
  simp only [Act.put, List.setIfInBounds_toArray, List.set_cons_zero, List.set_cons_succ]
  refine walkT_take (o := _) (v := ?_) (by rw [HOPS.out]; simp only [List.getElem?_toArray, List.getElem?_cons_succ, List.getElem?_cons_zero]; exact rfl) (Or.inl ⟨rfl, ?_⟩) ?_
  rotate_left
  · (intro w hSw; have hSx := HFA.out _ hSw; (try dsimp only at hSx); clear hSw; go_simp) <;> (with_reducible rfl)
  simp only [Act.put, List.setIfInBounds_toArray, List.set_cons_zero, List.set_cons_succ]
  refine walkT_take (o := _) (v := ?_) (by rw [HOPS.out]; simp only [List.getElem?_toArray, List.getElem?_cons_succ, List.getElem?_cons_zero]; exact rfl) (Or.inl ⟨rfl, ?_⟩) ?_
  rotate_left
  · (intro w hSw; have hSx := HFA.out _ hSw; (try dsimp only at hSx); clear hSw; go_simp) <;> (with_reducible rfl)
  simp only [Act.put, List.setIfInBounds_toArray, List.set_cons_zero, List.set_cons_succ]
  refine walkT_take (o := _) (v := ?_) (by rw [HOPS.out]; simp only [List.getElem?_toArray, List.getElem?_cons_succ, List.getElem?_cons_zero]; exact rfl) (Or.inl ⟨rfl, ?_⟩) ?_
  rotate_left
  · (intro w hSw; have hSx := HFA.out _ hSw; (try dsimp only at hSx); clear hSw; go_simp) <;> (with_reducible rfl)
  simp only [Act.put, List.setIfInBounds_toArray, List.set_cons_zero, List.set_cons_succ]
  refine walkT_take (o := _) (v := ?_) (by rw [HOPS.out]; simp only [List.getElem?_toArray, List.getElem?_cons_succ, List.getElem?_cons_zero]; exact rfl) (Or.inl ⟨rfl, ?_⟩) ?_
  rotate_left
  · (intro w hSw; have hSx := HFA.out _ hSw; (try dsimp only at hSx); clear hSw; go_simp) <;> (with_reducible rfl)
  simp only [Act.put, List.setIfInBounds_toArray, List.set_cons_zero, List.set_cons_succ]
  refine walkT_take (o := _) (v := ?_) (by rw [HOPS.out]; simp only [List.getElem?_toArray, List.getElem?_cons_succ, List.getElem?_cons_zero]; exact rfl) (Or.inl ⟨rfl, ?_⟩) ?_
  rotate_left
  · (intro w hSw; have hSx := HFA.out _ hSw; (try dsimp only at hSx); clear hSw; go_simp) <;> (with_reducible rfl)
  simp only [Act.put, List.setIfInBounds_toArray, List.set_cons_zero, List.set_cons_succ]
  refine walkT_call (o := _) (by rw [HOPS.out]; simp only [List.getElem?_toArray, List.getElem?_cons_succ, List.getElem?_cons_zero]; exact rfl) (fun K HK => ?_)
  refine step_append_fr2 rfl (.const (.slice none 0 0)) (.tmp 38) 22 rfl 5 (.int .u8 0) 1 HU.out HIN.out rfl w2.heap.size (.slice none 0 0) [] (by simp [Act.eval]) (Ow.nil _ _ _) pa data.length pc _ (by simp [Act.eval]) H3.out (HSV.out _ fd0) (oneCell_bytes _) H1.out H2.out (fd0).size ?_
  intro v3 w3 own fa' hb3
  rw [List.nil_append] at own
  obtain ⟨oa, oc, rfl, _, _, osl, _⟩ := own.formB
  have fa : Fr [] _ w3 := fa'
  have fw3 : Fr [b, W, b0, b1, w.heap.size + 2] w2 w3 := (fd0).then0 fa
  refine HK.out (fun w' => Fr [b, W, b0, b1, w.heap.size + 2] w2 w') _ _ (fun _ h => h) fw3 ?_
  clear HK K
  simp only [Act.put, List.setIfInBounds_toArray, List.set_cons_zero, List.set_cons_succ]
  have qz3 : SB w3 (w.heap.size + 2) (.int .i64 0) (.int .i64 0) (.int .i64 0) (.int .i64 0) (.slice none 0 0) (.int .i64 0) (.int .i64 0) (.int .i64 0) (.int .i64 0) (.int .i64 0) (.int .i64 0) (.slice none 0 0) (.int .i64 0) (.int .i64 0) (.bool false) (.bool false) (.int .i64 0) := fa.keep HR2.out (by simp)
  have sp3 := ((HSP2.out.keep0 ((Fr.refl [] w2).drew))).keep0 fa
  refine walkT_call (o := _) (by rw [HOPS.out]; simp only [List.getElem?_toArray, List.getElem?_cons_succ, List.getElem?_cons_zero]; exact rfl) (fun K HK => ?_)
  refine step_call rfl 33 #[(.tmp 34), (.tmp 36), (.tmp 39), (.tmp 41)] #[68, 3, 22, 23] rfl HEC.out #[.pointer (some ⟨b, 0, none⟩), .int .i64 fr, .slice oa data.length oc, .int .i64 er] (by simp [Act.eval]) (HSG.out _ _ _ sp3 oa oc osl) ?_
  rintro e w4 ⟨rfl, f', h4⟩
  have fw4 : Fr [b, W, b0, b1, w.heap.size + 2] w2 w4 := fw3.trans f' (fun _ h => .inl h) (fun x hx => .inl (by simp at hx; rcases hx with rfl | rfl | rfl | rfl <;> simp))
  refine ⟨_, rfl, ?_⟩
  refine HK.out (fun w' => Fr [b, W, b0, b1, w.heap.size + 2] w2 w') _ _ (fun _ h => h) (fw4) ?_
  clear HK K
  simp only [Act.put, List.setIfInBounds_toArray, List.set_cons_zero, List.set_cons_succ]
  have qz4 : SB w4 (w.heap.size + 2) (.int .i64 0) (.int .i64 0) (.int .i64 0) (.int .i64 0) (.slice none 0 0) (.int .i64 0) (.int .i64 0) (.int .i64 0) (.int .i64 0) (.int .i64 0) (.int .i64 0) (.slice none 0 0) (.int .i64 0) (.int .i64 0) (.bool false) (.bool false) (.int .i64 0) := f'.keep qz3 (by simp; omega)
  refine walkT_take (o := _) (v := ?_) (by rw [HOPS.out]; simp only [List.getElem?_toArray, List.getElem?_cons_succ, List.getElem?_cons_zero]; exact rfl) (Or.inl ⟨rfl, ?_⟩) ?_
  rotate_left
  · (intro w hSw; have hSx := HFA.out _ hSw; (try dsimp only at hSx); clear hSw; go_simp) <;> (with_reducible rfl)
  simp only [Act.put, List.setIfInBounds_toArray, List.set_cons_zero, List.set_cons_succ]
  refine walkT_take (o := _) (v := ?_) (by rw [HOPS.out]; simp only [List.getElem?_toArray, List.getElem?_cons_succ, List.getElem?_cons_zero]; exact rfl) (Or.inl ⟨rfl, ?_⟩) ?_
  rotate_left
  · (intro w hSw; have hSx := HFA.out _ hSw; (try dsimp only at hSx); clear hSw; go_simp) <;> (with_reducible rfl)
  simp only [Act.put, List.setIfInBounds_toArray, List.set_cons_zero, List.set_cons_succ]
  refine walkT_call (o := _) (by rw [HOPS.out]; simp only [List.getElem?_toArray, List.getElem?_cons_succ, List.getElem?_cons_zero]; exact rfl) (fun K HK => ?_)
  have hR : SB w4 (w.heap.size + 2) (.int .i64 0) (.int .i64 0) (.int .i64 0) (.int .i64 0) (.slice none 0 0) (.int .i64 0) (.int .i64 0) (.int .i64 0) (.int .i64 0) (.int .i64 0) (.int .i64 0) (.slice none 0 0) (.int .i64 0) (.int .i64 0) (.bool false) (.bool false) (.int .i64 0) := qz4
  obtain ⟨w5, hst, qR, fR⟩ := sbs_set hR y0 l0 y1 l1 S2.t0 S2.t1 S2.c0 S2.c1 S2.first
  refine step_store17 (p := .tmp 7) (x := .tmp 33) hR rfl rfl rfl rfl rfl ?_
  rw [hst]
  have fw5 : Fr [b, W, b0, b1, w.heap.size + 2] w2 w5 := (fw4).trans fR (fun _ h => .inl h) (fun x hx => .inl (by simp at hx; subst hx; simp))
  refine HK.out (fun w' => Fr [b, W, b0, b1, w.heap.size + 2] w2 w') _ _ (fun _ h => h) fw5 ?_
  clear HK K
  try simp only [Act.put, List.setIfInBounds_toArray, List.set_cons_zero, List.set_cons_succ]
  refine walkT_take (o := _) (v := ?_) (by rw [HOPS.out]; simp only [List.getElem?_toArray, List.getElem?_cons_succ, List.getElem?_cons_zero]; exact rfl) (Or.inl ⟨rfl, ?_⟩) ?_
  rotate_left
  · (intro w hSw; have hSx := HFA.out _ hSw; (try dsimp only at hSx); clear hSw; go_simp) <;> (with_reducible rfl)
  simp only [Act.put, List.setIfInBounds_toArray, List.set_cons_zero, List.set_cons_succ]
  refine walkT_done ?_
  clear HOPS OPS
  have GE := Lib.hid ((HG2.out.mono (T := [b, W, b0, b1]) (by simp)).trans fw5 (fun _ h => .inl h) (fun x hx => by simp at hx; by_cases hx2 : x = w.heap.size + 2; exact .inr (by omega); exact .inl (by simp; omega)))
  have SPE := Lib.hid (h4.keep fR HNK.out)
  have RBE := Lib.hid (qR)
  have RVE := Lib.hid (HRV.out.keep fw5 (fun x hx => by simp at hx; rcases hx with rfl | rfl | rfl | rfl | rfl <;> first | exact HNR.out.1 | exact HNR.out.2.1 | exact HNR.out.2.2.1 | exact HNR.out.2.2.2.1 | exact HNR.out.2.2.2.2))
  clear HFA HSV
  go_wp2_with fail
  refine bodyPost_ret (sbs_result3 RBE.out rfl rfl rfl rfl) rfl ?_
  exact HFIN.out _ GE.out SPE.out RVE.out
  
end Go.Proofs.Ytodpkdbcdbdjfaa
