/-
  Law 41: step: Close.
-/
import Derived.Test.YtdndabklcenndaaShStepB
namespace Go.Proofs.Ytdndabklcenndaa
open Go.RowKit
set_option maxRecDepth 100000

theorem room41_zero {s : SH} (h : BkInv s.r s.p s.u s.l s.t) {now : Int} (ht : s.t ≤ now) : roomH s now 0 = true := by
  have h1 := (lvl_bd h ht).1
  have h2 := h.l1
  exact decide_eq_true (by unfold lvH; omega)

set_option maxHeartbeats 16000000 in
theorem step41_c3 {w : World} {L : List Nat} {b k mb : Nat} {s : SH} {v : Value} (h : Shp w L b k s) {Lm : List Nat} (hm : Md w Lm mb s v) (hLm : ∀ y ∈ L, y ∈ Lm) (hLo : ∀ y ∈ Lm, y < w.heap.size) {pa : Option Addr} {pc : Nat} {data : List UInt8} (hd : Sl w pa (bi data)) (hdo : ∀ b' o', 0 < data.length → pa = some ⟨b', o', none⟩ → b' ∉ L ∧ b' ≠ mb) (hdl : data.length ≤ 100) (hpc : data.length ≤ pc) {now n : Int} (h0 : 0 ≤ now) (h1 : now ≤ 18446744073709551615) (hwr : now < s.last ∨ now = 18446744073709551615) :
    Calls Try.prog 36 #[.pointer (some ⟨b, 0, none⟩), v, .agg #[.int .i64 3, .int .u64 now, .slice pa data.length pc, .int .i64 n]] w (Step41 w L Lm mb (closeH s now)) := by
  have hme : mayE s now true = 3 := by unfold mayE; rw [if_neg (by simp), if_pos hwr]
  have hE : closeE41 s now = 3 := by unfold closeE41; rw [if_pos (by rw [hme]; decide), hme]
  have hH : closeH s now = s := by unfold closeH; rw [if_pos (by rw [hE]; decide)]
  rw [hH]
  obtain ⟨⟨ma, nl, mc, now0, rfl, hby, hnl, hmc, hmx⟩, hbk, hmb⟩ := hm
  have HM := Lib.hid (show Md w Lm mb s (.agg #[.pointer (some ⟨mb, 0, none⟩), .int .i64 s.r, .int .i64 s.p, .int .i64 s.u, .int .i64 s.lat, .int .i64 s.lim, .int .u64 now0, .slice ma nl mc, .bool s.closed, .int .u64 s.fin, .int .u64 s.last]) from ⟨⟨ma, nl, mc, now0, rfl, hby, hnl, hmc, hmx⟩, hbk, hmb⟩)
  have hmbl := lt_of_heap hbk
  have HBK0 := Lib.hid hbk
  have HBY := Lib.hid hby
  have HNL := Lib.hid (And.intro hnl (And.intro hmc hmx))
  have HOLD := Lib.hid h.old
  have HLM := Lib.hid hLm
  have HLO := Lib.hid hLo
  have hmb0 : mb ∉ L := fun hm => hmb (hLm _ hm)
  clear hLm hLo
  have hnl2 : nl ≤ 65536 := by have := h.ok.tot; have := h.ok.lim1; have := flatS_length s.segs; omega
  obtain ⟨w0, hw0, f0, q0, q1, q2⟩ : ∃ W, ((w.alloc (.cells #[.pointer (some ⟨mb, 0, none⟩), .int .i64 s.r, .int .i64 s.p, .int .i64 s.u, .int .i64 s.lat, .int .i64 s.lim, .int .u64 now0, .slice ma nl mc, .bool s.closed, .int .u64 s.fin, .int .u64 s.last] 64)).alloc (.cells #[.int .i64 3, .int .u64 now, .slice pa data.length pc, .int .i64 n] 77)).alloc (.cells #[.pointer none, .int .i64 0, .int .i64 0, .int .i64 0, .int .i64 0, .int .i64 0, .int .u64 0, .slice none 0 0, .bool false, .int .u64 0, .int .u64 0] 64) = W ∧ Fr [] w W ∧ W.heap[w.heap.size]? = some (.cells #[.pointer (some ⟨mb, 0, none⟩), .int .i64 s.r, .int .i64 s.p, .int .i64 s.u, .int .i64 s.lat, .int .i64 s.lim, .int .u64 now0, .slice ma nl mc, .bool s.closed, .int .u64 s.fin, .int .u64 s.last] 64 (0, 0)) ∧ W.heap[w.heap.size + 1]? = some (.cells #[.int .i64 3, .int .u64 now, .slice pa data.length pc, .int .i64 n] 77 (0, 0)) ∧ W.heap[w.heap.size + 2]? = some (.cells #[.pointer none, .int .i64 0, .int .i64 0, .int .i64 0, .int .i64 0, .int .i64 0, .int .u64 0, .slice none 0 0, .bool false, .int .u64 0, .int .u64 0] 64 (0, 0)) := ⟨_, rfl, (((Fr.refl _ _).alloc _).alloc _).alloc _, keepA (keepA (newA rfl)), keepA (newA (by simp)), newA (by simp)⟩
  have a0 : w0.cell? ⟨w.heap.size + 1, 0, none⟩ = some (.int .i64 3) := cell_of q1
  have a1 : w0.cell? ⟨w.heap.size + 1, 1, none⟩ = some (.int .u64 now) := cell_of q1
  have a2 : w0.cell? ⟨w.heap.size + 1, 2, none⟩ = some (.slice pa data.length pc) := cell_of q1
  have a3 : w0.cell? ⟨w.heap.size + 1, 3, none⟩ = some (.int .i64 n) := cell_of q1
  have HWR := Lib.hid fun (w : World) => wrong41_bad (c0 := .pointer (some ⟨mb, 0, none⟩)) (c1 := .int .i64 s.r) (c2 := .int .i64 s.p) (c3 := .int .i64 s.u) (c4 := .int .i64 s.lat) (c5 := .int .i64 s.lim) (c6 := .int .u64 now0) (c7 := .slice ma nl mc) (c8 := .bool s.closed) (c9 := .int .u64 s.fin) w hwr
  clear hby hnl hmc hmx hbk hwr
  go_enter Try.func36, Try.ntmps36
  go_wp2_with (refine wpList_load_row rfl 64 (.tmp 4) rfl _ rfl _ _ _ _ q0 Try.underlying64 rfl (by kernel_rfl) ?_)
  refine (HWR.out _).mono ?_
  rintro e w1 ⟨rfl, f1⟩
  have g1 : Fr [] w w1 := f0.then0 f1
  have Q0 := Lib.hid (f1.keep q0 (by simp))
  have Q1 := Lib.hid (f1.keep q1 (by simp))
  have Q2 := Lib.hid (f1.keep q2 (by simp))
  replace HM := Lib.hid (HM.out.keep (L' := w.heap.size :: (w.heap.size + 1) :: (w.heap.size + 2) :: (L ++ Lm)) g1 (by simp) (fun y hy => by simp at hy; rcases hy with rfl | rfl | rfl | hy | hy; exact .inr (by omega); exact .inr (by omega); exact .inr (by omega); exact .inl (HLM.out y hy); exact .inl hy))
  replace HBY := Lib.hid (HBY.out.keep (L' := w.heap.size :: (w.heap.size + 1) :: (w.heap.size + 2) :: (L ++ Lm)) g1 (by simp) (fun y hy => by simp at hy; rcases hy with rfl | rfl | rfl | hy | hy; exact .inr (by omega); exact .inr (by omega); exact .inr (by omega); exact .inl (HLM.out y hy); exact .inl hy))
  clear a0 a1 a2 a3 HWR hw0 q0 q1 q2 f1 f0
  have e0 : w1.cell? ⟨w.heap.size + 1, 1, none⟩ = some (.int .u64 now) := cell_of Q1.out
  have a0 : w1.cell? ⟨w.heap.size + 1, 0, none⟩ = some (.int .i64 3) := cell_of Q1.out
  have a2 : w1.cell? ⟨w.heap.size + 1, 2, none⟩ = some (.slice pa data.length pc) := cell_of Q1.out
  have a3 : w1.cell? ⟨w.heap.size + 1, 3, none⟩ = some (.int .i64 n) := cell_of Q1.out
  have HSHb := Lib.hid (And.intro h.hb h.hk)
  have HCL := Lib.hid (sh_close (h.keep0 g1) h0 h1)
  rw [hE, hH] at HCL
  clear h hE hH hme
  go_wp2_with fail
  refine HCL.out.mono ?_
  rintro e w2 ⟨rfl, f2, s2⟩
  replace s2 := Lib.hid s2
  clear HCL a0 a2 a3 e0
  replace Q0 := Lib.hid (f2.keep Q0.out (fun hm => by simp at hm; have h1_ := HOLD.out _ HSHb.out.1; have h2_ := HOLD.out _ HSHb.out.2; omega))
  replace Q1 := Lib.hid (f2.keep Q1.out (fun hm => by simp at hm; have h1_ := HOLD.out _ HSHb.out.1; have h2_ := HOLD.out _ HSHb.out.2; omega))
  replace Q2 := Lib.hid (f2.keep Q2.out (fun hm => by simp at hm; have h1_ := HOLD.out _ HSHb.out.1; have h2_ := HOLD.out _ HSHb.out.2; omega))
  have HM2 := Lib.hid (HM.out.keep (L' := w.heap.size :: (w.heap.size + 1) :: (w.heap.size + 2) :: (L ++ Lm)) f2 (fun y hy => .inl (by simp at hy; rcases hy with rfl | rfl; simp [HSHb.out.1]; simp [HSHb.out.2])) (fun y hy => .inl hy))
  have g2 : Fr (mb :: L) w w2 := (g1.mono (T := mb :: L) (by simp)).trans f2 (fun _ h => .inl h) (fun x hx => .inl (by simp at hx; rcases hx with rfl | rfl; exact List.mem_cons_of_mem _ HSHb.out.1; exact List.mem_cons_of_mem _ HSHb.out.2))
  have d1 : w2.cell? ⟨w.heap.size + 1, 1, none⟩ = some (.int .u64 now) := cell_of Q1.out
  have d8 : w2.cell? ⟨w.heap.size, 8, none⟩ = some (.bool s.closed) := cell_of Q0.out
  go_wp2_with fail
  have fd : Fr [w.heap.size + 2] w2 w2.drew := (Fr.refl _ _).drew
  have HFA := Lib.hid fun (w' : World) (f : Fr [w.heap.size + 2] w2 w') => (show w'.cell? ⟨w.heap.size, 0, none⟩ = some (.pointer (some ⟨mb, 0, none⟩)) ∧ w'.cell? ⟨w.heap.size, 1, none⟩ = some (.int .i64 s.r) ∧ w'.cell? ⟨w.heap.size, 2, none⟩ = some (.int .i64 s.p) ∧ w'.cell? ⟨w.heap.size, 3, none⟩ = some (.int .i64 s.u) ∧ w'.cell? ⟨w.heap.size, 4, none⟩ = some (.int .i64 s.lat) ∧ w'.cell? ⟨w.heap.size, 5, none⟩ = some (.int .i64 s.lim) ∧ w'.cell? ⟨w.heap.size, 6, none⟩ = some (.int .u64 now0) ∧ w'.cell? ⟨w.heap.size, 7, none⟩ = some (.slice ma nl mc) ∧ w'.cell? ⟨w.heap.size, 8, none⟩ = some (.bool s.closed) ∧ w'.cell? ⟨w.heap.size, 9, none⟩ = some (.int .u64 s.fin) ∧ w'.cell? ⟨w.heap.size, 10, none⟩ = some (.int .u64 s.last) ∧ w'.cell? ⟨w.heap.size + 1, 0, none⟩ = some (.int .i64 3) ∧ w'.cell? ⟨w.heap.size + 1, 1, none⟩ = some (.int .u64 now) ∧ w'.cell? ⟨w.heap.size + 1, 2, none⟩ = some (.slice pa data.length pc) ∧ w'.cell? ⟨w.heap.size + 1, 3, none⟩ = some (.int .i64 n) from (let q' := f.keep Q0.out (by simp); let a' := f.keep Q1.out (by simp); ⟨cell_of q', cell_of q', cell_of q', cell_of q', cell_of q', cell_of q', cell_of q', cell_of q', cell_of q', cell_of q', cell_of q', cell_of a', cell_of a', cell_of a', cell_of a'⟩))
  refine wp_region_order [(0, true), (1, true), (2, true), (3, true), (4, true), (5, true), (6, false), (7, true)] (fun w' => Fr [w.heap.size + 2] w2 w') (by kernel_rfl) (by kernel_rfl) fd ?_
  intro OPS HOPS
  have hops := HOPS.out
  try simp only [List.append_eq, List.cons_append, List.nil_append] at hops
  replace HOPS := Lib.hid hops
  clear hops
  refine walkO_take (o := _) (v := ?_) (by rw [HOPS.out]; simp only [List.getElem?_toArray, List.getElem?_cons_succ, List.getElem?_cons_zero]; exact rfl) (Or.inl ⟨rfl, ?_⟩) ?_
  rotate_left
  · (intro w hSw; have hSx := HFA.out _ hSw; (try dsimp only at hSx); clear hSw; go_simp) <;> (with_reducible rfl)
  simp only [Act.put, List.setIfInBounds_toArray, List.set_cons_zero, List.set_cons_succ]
  refine walkO_take (o := _) (v := ?_) (by rw [HOPS.out]; simp only [List.getElem?_toArray, List.getElem?_cons_succ, List.getElem?_cons_zero]; exact rfl) (Or.inl ⟨rfl, ?_⟩) ?_
  rotate_left
  · (intro w hSw; have hSx := HFA.out _ hSw; (try dsimp only at hSx); clear hSw; go_simp) <;> (with_reducible rfl)
  simp only [Act.put, List.setIfInBounds_toArray, List.set_cons_zero, List.set_cons_succ]
  refine walkO_take (o := _) (v := ?_) (by rw [HOPS.out]; simp only [List.getElem?_toArray, List.getElem?_cons_succ, List.getElem?_cons_zero]; exact rfl) (Or.inl ⟨rfl, ?_⟩) ?_
  rotate_left
  · (intro w hSw; have hSx := HFA.out _ hSw; (try dsimp only at hSx); clear hSw; go_simp) <;> (with_reducible rfl)
  simp only [Act.put, List.setIfInBounds_toArray, List.set_cons_zero, List.set_cons_succ]
  refine walkO_take (o := _) (v := ?_) (by rw [HOPS.out]; simp only [List.getElem?_toArray, List.getElem?_cons_succ, List.getElem?_cons_zero]; exact rfl) (Or.inl ⟨rfl, ?_⟩) ?_
  rotate_left
  · (intro w hSw; have hSx := HFA.out _ hSw; (try dsimp only at hSx); clear hSw; go_simp) <;> (with_reducible rfl)
  simp only [Act.put, List.setIfInBounds_toArray, List.set_cons_zero, List.set_cons_succ]
  refine walkO_take (o := _) (v := ?_) (by rw [HOPS.out]; simp only [List.getElem?_toArray, List.getElem?_cons_succ, List.getElem?_cons_zero]; exact rfl) (Or.inl ⟨rfl, ?_⟩) ?_
  rotate_left
  · (intro w hSw; have hSx := HFA.out _ hSw; (try dsimp only at hSx); clear hSw; go_simp) <;> (with_reducible rfl)
  simp only [Act.put, List.setIfInBounds_toArray, List.set_cons_zero, List.set_cons_succ]
  refine walkO_take (o := _) (v := ?_) (by rw [HOPS.out]; simp only [List.getElem?_toArray, List.getElem?_cons_succ, List.getElem?_cons_zero]; exact rfl) (Or.inl ⟨rfl, ?_⟩) ?_
  rotate_left
  · (intro w hSw; have hSx := HFA.out _ hSw; (try dsimp only at hSx); clear hSw; go_simp) <;> (with_reducible rfl)
  simp only [Act.put, List.setIfInBounds_toArray, List.set_cons_zero, List.set_cons_succ]
  refine walkO_call (o := _) (by rw [HOPS.out]; simp only [List.getElem?_toArray, List.getElem?_cons_succ, List.getElem?_cons_zero]; exact rfl) (fun K HK => ?_)
  obtain ⟨wE, hwE, qE, fE⟩ := setRow_fr (cs := #[.pointer (some ⟨mb, 0, none⟩), .int .i64 s.r, .int .i64 s.p, .int .i64 s.u, .int .i64 s.lat, .int .i64 s.lim, .int .u64 now0, .slice ma nl mc, .bool s.closed, .int .u64 s.fin, .int .u64 s.last]) (show w2.drew.heap[w.heap.size + 2]? = _ from Q2.out)
  refine step_store_row rfl 64 (.tmp 7) (.tmp 321) rfl (w.heap.size + 2) #[.pointer (some ⟨mb, 0, none⟩), .int .i64 s.r, .int .i64 s.p, .int .i64 s.u, .int .i64 s.lat, .int .i64 s.lim, .int .u64 now0, .slice ma nl mc, .bool s.closed, .int .u64 s.fin, .int .u64 s.last] rfl rfl _ _ (show w2.drew.heap[w.heap.size + 2]? = _ from Q2.out) (by kernel_rfl) rfl (by simp [Value.oneCell']) hwE ?_
  have gE : Fr [w.heap.size + 2] w2 wE := fd.trans fE (fun _ h => .inl h) (fun x hx => .inl hx)
  refine HK.out (fun w' => Fr [w.heap.size + 2] w2 w') _ _ (fun _ h => h) (gE) ?_
  clear HK K
  try simp only [Act.put, List.setIfInBounds_toArray, List.set_cons_zero, List.set_cons_succ]
  refine walkO_take (o := _) (v := ?_) (by rw [HOPS.out]; simp only [List.getElem?_toArray, List.getElem?_cons_succ, List.getElem?_cons_zero]; exact rfl) (Or.inl ⟨rfl, ?_⟩) ?_
  rotate_left
  · (intro w hSw; have hSx := HFA.out _ hSw; (try dsimp only at hSx); clear hSw; go_simp) <;> (with_reducible rfl)
  simp only [Act.put, List.setIfInBounds_toArray, List.set_cons_zero, List.set_cons_succ]
  refine walkO_done ?_
  clear HOPS OPS
  clear HFA
  try simp only [Exit.then]
  go_wp2_with fail
  refine bodyPost_ret (m41_result3 qE (by kernel_rfl) rfl rfl rfl rfl) rfl ?_
  have gX := gE
  exact ⟨b, k, L, _, rfl, g2.trans gX (fun _ h => .inl h) (fun x hx => .inr (by simp at hx; omega)), (s2).out.keep gX (fun y hy hm => by simp at hy; have := HOLD.out _ hm; omega), (HM2.out).keep gX (fun y hy => .inl (by simp at hy; simp [hy])) (fun y hy => .inl (List.mem_cons_of_mem _ (List.mem_cons_of_mem _ (List.mem_cons_of_mem _ hy)))), fun y hy => .inl hy⟩

set_option maxHeartbeats 16000000 in
theorem step41_c14 {w : World} {L : List Nat} {b k mb : Nat} {s : SH} {v : Value} (h : Shp w L b k s) {Lm : List Nat} (hm : Md w Lm mb s v) (hLm : ∀ y ∈ L, y ∈ Lm) (hLo : ∀ y ∈ Lm, y < w.heap.size) {pa : Option Addr} {pc : Nat} {data : List UInt8} (hd : Sl w pa (bi data)) (hdo : ∀ b' o', 0 < data.length → pa = some ⟨b', o', none⟩ → b' ∉ L ∧ b' ≠ mb) (hdl : data.length ≤ 100) (hpc : data.length ≤ pc) {now n : Int} (h0 : 0 ≤ now) (h1 : now ≤ 18446744073709551615) (hw1 : s.last ≤ now) (hw2 : now < 18446744073709551615) (hc : s.closed = true) :
    Calls Try.prog 36 #[.pointer (some ⟨b, 0, none⟩), v, .agg #[.int .i64 3, .int .u64 now, .slice pa data.length pc, .int .i64 n]] w (Step41 w L Lm mb (closeH s now)) := by
  have hme : mayE s now true = 0 := by unfold mayE; rw [if_neg (by simp), if_neg (by omega)]
  have hE : closeE41 s now = 14 := by unfold closeE41; rw [if_neg (by rw [hme]; decide), if_pos hc]
  have hH : closeH s now = s := by unfold closeH; rw [if_pos (by rw [hE]; decide)]
  rw [hH]
  obtain ⟨⟨ma, nl, mc, now0, rfl, hby, hnl, hmc, hmx⟩, hbk, hmb⟩ := hm
  have HM := Lib.hid (show Md w Lm mb s (.agg #[.pointer (some ⟨mb, 0, none⟩), .int .i64 s.r, .int .i64 s.p, .int .i64 s.u, .int .i64 s.lat, .int .i64 s.lim, .int .u64 now0, .slice ma nl mc, .bool true, .int .u64 s.fin, .int .u64 s.last]) from ⟨⟨ma, nl, mc, now0, by rw [hc], hby, hnl, hmc, hmx⟩, hbk, hmb⟩)
  have hmbl := lt_of_heap hbk
  have HBK0 := Lib.hid hbk
  have HBY := Lib.hid hby
  have HNL := Lib.hid (And.intro hnl (And.intro hmc hmx))
  have HOLD := Lib.hid h.old
  have HLM := Lib.hid hLm
  have HLO := Lib.hid hLo
  have hmb0 : mb ∉ L := fun hm => hmb (hLm _ hm)
  clear hLm hLo
  have hnl2 : nl ≤ 65536 := by have := h.ok.tot; have := h.ok.lim1; have := flatS_length s.segs; omega
  rw [hc]
  replace hc := Lib.hid hc
  obtain ⟨w0, hw0, f0, q0, q1, q2⟩ : ∃ W, ((w.alloc (.cells #[.pointer (some ⟨mb, 0, none⟩), .int .i64 s.r, .int .i64 s.p, .int .i64 s.u, .int .i64 s.lat, .int .i64 s.lim, .int .u64 now0, .slice ma nl mc, .bool true, .int .u64 s.fin, .int .u64 s.last] 64)).alloc (.cells #[.int .i64 3, .int .u64 now, .slice pa data.length pc, .int .i64 n] 77)).alloc (.cells #[.pointer none, .int .i64 0, .int .i64 0, .int .i64 0, .int .i64 0, .int .i64 0, .int .u64 0, .slice none 0 0, .bool false, .int .u64 0, .int .u64 0] 64) = W ∧ Fr [] w W ∧ W.heap[w.heap.size]? = some (.cells #[.pointer (some ⟨mb, 0, none⟩), .int .i64 s.r, .int .i64 s.p, .int .i64 s.u, .int .i64 s.lat, .int .i64 s.lim, .int .u64 now0, .slice ma nl mc, .bool true, .int .u64 s.fin, .int .u64 s.last] 64 (0, 0)) ∧ W.heap[w.heap.size + 1]? = some (.cells #[.int .i64 3, .int .u64 now, .slice pa data.length pc, .int .i64 n] 77 (0, 0)) ∧ W.heap[w.heap.size + 2]? = some (.cells #[.pointer none, .int .i64 0, .int .i64 0, .int .i64 0, .int .i64 0, .int .i64 0, .int .u64 0, .slice none 0 0, .bool false, .int .u64 0, .int .u64 0] 64 (0, 0)) := ⟨_, rfl, (((Fr.refl _ _).alloc _).alloc _).alloc _, keepA (keepA (newA rfl)), keepA (newA (by simp)), newA (by simp)⟩
  have a0 : w0.cell? ⟨w.heap.size + 1, 0, none⟩ = some (.int .i64 3) := cell_of q1
  have a1 : w0.cell? ⟨w.heap.size + 1, 1, none⟩ = some (.int .u64 now) := cell_of q1
  have a2 : w0.cell? ⟨w.heap.size + 1, 2, none⟩ = some (.slice pa data.length pc) := cell_of q1
  have a3 : w0.cell? ⟨w.heap.size + 1, 3, none⟩ = some (.int .i64 n) := cell_of q1
  have HWR := Lib.hid fun (w : World) => wrong41_ok (c0 := .pointer (some ⟨mb, 0, none⟩)) (c1 := .int .i64 s.r) (c2 := .int .i64 s.p) (c3 := .int .i64 s.u) (c4 := .int .i64 s.lat) (c5 := .int .i64 s.lim) (c6 := .int .u64 now0) (c7 := .slice ma nl mc) (c8 := .bool true) (c9 := .int .u64 s.fin) w hw1 hw2
  clear hby hnl hmc hmx hbk
  go_enter Try.func36, Try.ntmps36
  go_wp2_with (refine wpList_load_row rfl 64 (.tmp 4) rfl _ rfl _ _ _ _ q0 Try.underlying64 rfl (by kernel_rfl) ?_)
  refine (HWR.out _).mono ?_
  rintro e w1 ⟨rfl, f1⟩
  have g1 : Fr [] w w1 := f0.then0 f1
  have Q0 := Lib.hid (f1.keep q0 (by simp))
  have Q1 := Lib.hid (f1.keep q1 (by simp))
  have Q2 := Lib.hid (f1.keep q2 (by simp))
  replace HM := Lib.hid (HM.out.keep (L' := w.heap.size :: (w.heap.size + 1) :: (w.heap.size + 2) :: (L ++ Lm)) g1 (by simp) (fun y hy => by simp at hy; rcases hy with rfl | rfl | rfl | hy | hy; exact .inr (by omega); exact .inr (by omega); exact .inr (by omega); exact .inl (HLM.out y hy); exact .inl hy))
  replace HBY := Lib.hid (HBY.out.keep (L' := w.heap.size :: (w.heap.size + 1) :: (w.heap.size + 2) :: (L ++ Lm)) g1 (by simp) (fun y hy => by simp at hy; rcases hy with rfl | rfl | rfl | hy | hy; exact .inr (by omega); exact .inr (by omega); exact .inr (by omega); exact .inl (HLM.out y hy); exact .inl hy))
  clear a0 a1 a2 a3 HWR hw0 q0 q1 q2 f1 f0
  have e0 : w1.cell? ⟨w.heap.size + 1, 1, none⟩ = some (.int .u64 now) := cell_of Q1.out
  have a0 : w1.cell? ⟨w.heap.size + 1, 0, none⟩ = some (.int .i64 3) := cell_of Q1.out
  have a2 : w1.cell? ⟨w.heap.size + 1, 2, none⟩ = some (.slice pa data.length pc) := cell_of Q1.out
  have a3 : w1.cell? ⟨w.heap.size + 1, 3, none⟩ = some (.int .i64 n) := cell_of Q1.out
  have HSHb := Lib.hid (And.intro h.hb h.hk)
  have HCL := Lib.hid (sh_close (h.keep0 g1) h0 h1)
  rw [hE, hH] at HCL
  clear h hE hH hme
  go_wp2_with fail
  refine HCL.out.mono ?_
  rintro e w2 ⟨rfl, f2, s2⟩
  replace s2 := Lib.hid s2
  clear HCL a0 a2 a3 e0
  replace Q0 := Lib.hid (f2.keep Q0.out (fun hm => by simp at hm; have h1_ := HOLD.out _ HSHb.out.1; have h2_ := HOLD.out _ HSHb.out.2; omega))
  replace Q1 := Lib.hid (f2.keep Q1.out (fun hm => by simp at hm; have h1_ := HOLD.out _ HSHb.out.1; have h2_ := HOLD.out _ HSHb.out.2; omega))
  replace Q2 := Lib.hid (f2.keep Q2.out (fun hm => by simp at hm; have h1_ := HOLD.out _ HSHb.out.1; have h2_ := HOLD.out _ HSHb.out.2; omega))
  have HM2 := Lib.hid (HM.out.keep (L' := w.heap.size :: (w.heap.size + 1) :: (w.heap.size + 2) :: (L ++ Lm)) f2 (fun y hy => .inl (by simp at hy; rcases hy with rfl | rfl; simp [HSHb.out.1]; simp [HSHb.out.2])) (fun y hy => .inl hy))
  have g2 : Fr (mb :: L) w w2 := (g1.mono (T := mb :: L) (by simp)).trans f2 (fun _ h => .inl h) (fun x hx => .inl (by simp at hx; rcases hx with rfl | rfl; exact List.mem_cons_of_mem _ HSHb.out.1; exact List.mem_cons_of_mem _ HSHb.out.2))
  have d1 : w2.cell? ⟨w.heap.size + 1, 1, none⟩ = some (.int .u64 now) := cell_of Q1.out
  have d8 : w2.cell? ⟨w.heap.size, 8, none⟩ = some (.bool true) := cell_of Q0.out
  go_wp2_with fail
  have fd : Fr [w.heap.size + 2] w2 w2.drew := (Fr.refl _ _).drew
  have HFA := Lib.hid fun (w' : World) (f : Fr [w.heap.size + 2] w2 w') => (show w'.cell? ⟨w.heap.size, 0, none⟩ = some (.pointer (some ⟨mb, 0, none⟩)) ∧ w'.cell? ⟨w.heap.size, 1, none⟩ = some (.int .i64 s.r) ∧ w'.cell? ⟨w.heap.size, 2, none⟩ = some (.int .i64 s.p) ∧ w'.cell? ⟨w.heap.size, 3, none⟩ = some (.int .i64 s.u) ∧ w'.cell? ⟨w.heap.size, 4, none⟩ = some (.int .i64 s.lat) ∧ w'.cell? ⟨w.heap.size, 5, none⟩ = some (.int .i64 s.lim) ∧ w'.cell? ⟨w.heap.size, 6, none⟩ = some (.int .u64 now0) ∧ w'.cell? ⟨w.heap.size, 7, none⟩ = some (.slice ma nl mc) ∧ w'.cell? ⟨w.heap.size, 8, none⟩ = some (.bool true) ∧ w'.cell? ⟨w.heap.size, 9, none⟩ = some (.int .u64 s.fin) ∧ w'.cell? ⟨w.heap.size, 10, none⟩ = some (.int .u64 s.last) ∧ w'.cell? ⟨w.heap.size + 1, 0, none⟩ = some (.int .i64 3) ∧ w'.cell? ⟨w.heap.size + 1, 1, none⟩ = some (.int .u64 now) ∧ w'.cell? ⟨w.heap.size + 1, 2, none⟩ = some (.slice pa data.length pc) ∧ w'.cell? ⟨w.heap.size + 1, 3, none⟩ = some (.int .i64 n) from (let q' := f.keep Q0.out (by simp); let a' := f.keep Q1.out (by simp); ⟨cell_of q', cell_of q', cell_of q', cell_of q', cell_of q', cell_of q', cell_of q', cell_of q', cell_of q', cell_of q', cell_of q', cell_of a', cell_of a', cell_of a', cell_of a'⟩))
  refine wp_region_order [(0, true), (1, true), (2, true), (3, true), (4, true), (5, true), (6, false), (7, true)] (fun w' => Fr [w.heap.size + 2] w2 w') (by kernel_rfl) (by kernel_rfl) fd ?_
  intro OPS HOPS
  have hops := HOPS.out
  try simp only [List.append_eq, List.cons_append, List.nil_append] at hops
  replace HOPS := Lib.hid hops
  clear hops
  refine walkO_take (o := _) (v := ?_) (by rw [HOPS.out]; simp only [List.getElem?_toArray, List.getElem?_cons_succ, List.getElem?_cons_zero]; exact rfl) (Or.inl ⟨rfl, ?_⟩) ?_
  rotate_left
  · (intro w hSw; have hSx := HFA.out _ hSw; (try dsimp only at hSx); clear hSw; go_simp) <;> (with_reducible rfl)
  simp only [Act.put, List.setIfInBounds_toArray, List.set_cons_zero, List.set_cons_succ]
  refine walkO_take (o := _) (v := ?_) (by rw [HOPS.out]; simp only [List.getElem?_toArray, List.getElem?_cons_succ, List.getElem?_cons_zero]; exact rfl) (Or.inl ⟨rfl, ?_⟩) ?_
  rotate_left
  · (intro w hSw; have hSx := HFA.out _ hSw; (try dsimp only at hSx); clear hSw; go_simp) <;> (with_reducible rfl)
  simp only [Act.put, List.setIfInBounds_toArray, List.set_cons_zero, List.set_cons_succ]
  refine walkO_take (o := _) (v := ?_) (by rw [HOPS.out]; simp only [List.getElem?_toArray, List.getElem?_cons_succ, List.getElem?_cons_zero]; exact rfl) (Or.inl ⟨rfl, ?_⟩) ?_
  rotate_left
  · (intro w hSw; have hSx := HFA.out _ hSw; (try dsimp only at hSx); clear hSw; go_simp) <;> (with_reducible rfl)
  simp only [Act.put, List.setIfInBounds_toArray, List.set_cons_zero, List.set_cons_succ]
  refine walkO_take (o := _) (v := ?_) (by rw [HOPS.out]; simp only [List.getElem?_toArray, List.getElem?_cons_succ, List.getElem?_cons_zero]; exact rfl) (Or.inl ⟨rfl, ?_⟩) ?_
  rotate_left
  · (intro w hSw; have hSx := HFA.out _ hSw; (try dsimp only at hSx); clear hSw; go_simp) <;> (with_reducible rfl)
  simp only [Act.put, List.setIfInBounds_toArray, List.set_cons_zero, List.set_cons_succ]
  refine walkO_take (o := _) (v := ?_) (by rw [HOPS.out]; simp only [List.getElem?_toArray, List.getElem?_cons_succ, List.getElem?_cons_zero]; exact rfl) (Or.inl ⟨rfl, ?_⟩) ?_
  rotate_left
  · (intro w hSw; have hSx := HFA.out _ hSw; (try dsimp only at hSx); clear hSw; go_simp) <;> (with_reducible rfl)
  simp only [Act.put, List.setIfInBounds_toArray, List.set_cons_zero, List.set_cons_succ]
  refine walkO_take (o := _) (v := ?_) (by rw [HOPS.out]; simp only [List.getElem?_toArray, List.getElem?_cons_succ, List.getElem?_cons_zero]; exact rfl) (Or.inl ⟨rfl, ?_⟩) ?_
  rotate_left
  · (intro w hSw; have hSx := HFA.out _ hSw; (try dsimp only at hSx); clear hSw; go_simp) <;> (with_reducible rfl)
  simp only [Act.put, List.setIfInBounds_toArray, List.set_cons_zero, List.set_cons_succ]
  refine walkO_call (o := _) (by rw [HOPS.out]; simp only [List.getElem?_toArray, List.getElem?_cons_succ, List.getElem?_cons_zero]; exact rfl) (fun K HK => ?_)
  obtain ⟨wE, hwE, qE, fE⟩ := setRow_fr (cs := #[.pointer (some ⟨mb, 0, none⟩), .int .i64 s.r, .int .i64 s.p, .int .i64 s.u, .int .i64 s.lat, .int .i64 s.lim, .int .u64 now0, .slice ma nl mc, .bool true, .int .u64 s.fin, .int .u64 s.last]) (show w2.drew.heap[w.heap.size + 2]? = _ from Q2.out)
  refine step_store_row rfl 64 (.tmp 7) (.tmp 321) rfl (w.heap.size + 2) #[.pointer (some ⟨mb, 0, none⟩), .int .i64 s.r, .int .i64 s.p, .int .i64 s.u, .int .i64 s.lat, .int .i64 s.lim, .int .u64 now0, .slice ma nl mc, .bool true, .int .u64 s.fin, .int .u64 s.last] rfl rfl _ _ (show w2.drew.heap[w.heap.size + 2]? = _ from Q2.out) (by kernel_rfl) rfl (by simp [Value.oneCell']) hwE ?_
  have gE : Fr [w.heap.size + 2] w2 wE := fd.trans fE (fun _ h => .inl h) (fun x hx => .inl hx)
  refine HK.out (fun w' => Fr [w.heap.size + 2] w2 w') _ _ (fun _ h => h) (gE) ?_
  clear HK K
  try simp only [Act.put, List.setIfInBounds_toArray, List.set_cons_zero, List.set_cons_succ]
  refine walkO_take (o := _) (v := ?_) (by rw [HOPS.out]; simp only [List.getElem?_toArray, List.getElem?_cons_succ, List.getElem?_cons_zero]; exact rfl) (Or.inl ⟨rfl, ?_⟩) ?_
  rotate_left
  · (intro w hSw; have hSx := HFA.out _ hSw; (try dsimp only at hSx); clear hSw; go_simp) <;> (with_reducible rfl)
  simp only [Act.put, List.setIfInBounds_toArray, List.set_cons_zero, List.set_cons_succ]
  refine walkO_done ?_
  clear HOPS OPS
  clear HFA
  try simp only [Exit.then]
  go_wp2_with fail
  refine bodyPost_ret (m41_result3 qE (by kernel_rfl) rfl rfl rfl rfl) rfl ?_
  have gX := gE
  exact ⟨b, k, L, _, rfl, g2.trans gX (fun _ h => .inl h) (fun x hx => .inr (by simp at hx; omega)), (s2).out.keep gX (fun y hy hm => by simp at hy; have := HOLD.out _ hm; omega), (HM2.out).keep gX (fun y hy => .inl (by simp at hy; simp [hy])) (fun y hy => .inl (List.mem_cons_of_mem _ (List.mem_cons_of_mem _ (List.mem_cons_of_mem _ hy)))), fun y hy => .inl hy⟩

set_option maxHeartbeats 16000000 in
theorem step41_c0 {w : World} {L : List Nat} {b k mb : Nat} {s : SH} {v : Value} (h : Shp w L b k s) {Lm : List Nat} (hm : Md w Lm mb s v) (hLm : ∀ y ∈ L, y ∈ Lm) (hLo : ∀ y ∈ Lm, y < w.heap.size) {pa : Option Addr} {pc : Nat} {data : List UInt8} (hd : Sl w pa (bi data)) (hdo : ∀ b' o', 0 < data.length → pa = some ⟨b', o', none⟩ → b' ∉ L ∧ b' ≠ mb) (hdl : data.length ≤ 100) (hpc : data.length ≤ pc) {now n : Int} (h0 : 0 ≤ now) (h1 : now ≤ 18446744073709551615) (hw1 : s.last ≤ now) (hw2 : now < 18446744073709551615) (hc : s.closed = false) :
    Calls Try.prog 36 #[.pointer (some ⟨b, 0, none⟩), v, .agg #[.int .i64 3, .int .u64 now, .slice pa data.length pc, .int .i64 n]] w (Step41 w L Lm mb (closeH s now)) := by
  have hme : mayE s now true = 0 := by unfold mayE; rw [if_neg (by simp), if_neg (by omega)]
  have hv := room41_zero h.ok.inv (now := now) (by have := h.ok.tl; omega)
  have hE : closeE41 s now = 0 := by unfold closeE41; rw [if_neg (by rw [hme]; decide), if_neg (by rw [hc]; decide), if_neg (by rw [hv]; decide)]
  have hH : closeH s now = { s with l := lvH s now 0, t := now, closed := true, fin := atH s now 0, last := now } := by unfold closeH; rw [if_neg (by rw [hE]; decide)]
  have HRV := Lib.hid fun (W : World) (hb : BkAt W mb s.r s.p s.u s.l s.t) => reserve_yes hb h.ok.inv now 0 (by omega) (by omega) (by have := h.ok.tl; omega) hw2 (by have hd := of_decide_eq_true hv; unfold lvH at hd; exact hd)
  have HLT0 := atH_bd h.ok now 0 h0
  have hp0 := plusT_bd h0 (tk_nonneg (n := max 0 (-(lvH s now 0))) h.ok.inv.r1 (by omega))
  obtain ⟨T0, hT0⟩ : ∃ T, plusT now (tk s.r (max 0 (-(lvH s now 0)))) = T := ⟨_, rfl⟩
  rw [hT0] at hp0
  have HLT := Lib.hid fun (W : World) => later41 (t := T0) (lat := s.lat) W hp0.1 hp0.2 h.ok.lat0 h.ok.lat1
  rw [show plusT T0 s.lat = atH s now 0 by rw [← hT0]; rfl] at HLT
  have HT0 := Lib.hid hT0
  clear hp0 HLT0 hT0
  have HEL := Lib.hid (Go.Proofs.enters_of Try.func59 (by kernel_rfl) rfl)
  rw [hH]
  clear hv
  obtain ⟨⟨ma, nl, mc, now0, rfl, hby, hnl, hmc, hmx⟩, hbk, hmb⟩ := hm
  have HM := Lib.hid (show Md w Lm mb s (.agg #[.pointer (some ⟨mb, 0, none⟩), .int .i64 s.r, .int .i64 s.p, .int .i64 s.u, .int .i64 s.lat, .int .i64 s.lim, .int .u64 now0, .slice ma nl mc, .bool false, .int .u64 s.fin, .int .u64 s.last]) from ⟨⟨ma, nl, mc, now0, by rw [hc], hby, hnl, hmc, hmx⟩, hbk, hmb⟩)
  have hmbl := lt_of_heap hbk
  have HBK0 := Lib.hid hbk
  have HBY := Lib.hid hby
  have HNL := Lib.hid (And.intro hnl (And.intro hmc hmx))
  have HOLD := Lib.hid h.old
  have HLM := Lib.hid hLm
  have HLO := Lib.hid hLo
  have hmb0 : mb ∉ L := fun hm => hmb (hLm _ hm)
  clear hLm hLo
  have hnl2 : nl ≤ 65536 := by have := h.ok.tot; have := h.ok.lim1; have := flatS_length s.segs; omega
  rw [hc]
  replace hc := Lib.hid hc
  obtain ⟨w0, hw0, f0, q0, q1, q2⟩ : ∃ W, ((w.alloc (.cells #[.pointer (some ⟨mb, 0, none⟩), .int .i64 s.r, .int .i64 s.p, .int .i64 s.u, .int .i64 s.lat, .int .i64 s.lim, .int .u64 now0, .slice ma nl mc, .bool false, .int .u64 s.fin, .int .u64 s.last] 64)).alloc (.cells #[.int .i64 3, .int .u64 now, .slice pa data.length pc, .int .i64 n] 77)).alloc (.cells #[.pointer none, .int .i64 0, .int .i64 0, .int .i64 0, .int .i64 0, .int .i64 0, .int .u64 0, .slice none 0 0, .bool false, .int .u64 0, .int .u64 0] 64) = W ∧ Fr [] w W ∧ W.heap[w.heap.size]? = some (.cells #[.pointer (some ⟨mb, 0, none⟩), .int .i64 s.r, .int .i64 s.p, .int .i64 s.u, .int .i64 s.lat, .int .i64 s.lim, .int .u64 now0, .slice ma nl mc, .bool false, .int .u64 s.fin, .int .u64 s.last] 64 (0, 0)) ∧ W.heap[w.heap.size + 1]? = some (.cells #[.int .i64 3, .int .u64 now, .slice pa data.length pc, .int .i64 n] 77 (0, 0)) ∧ W.heap[w.heap.size + 2]? = some (.cells #[.pointer none, .int .i64 0, .int .i64 0, .int .i64 0, .int .i64 0, .int .i64 0, .int .u64 0, .slice none 0 0, .bool false, .int .u64 0, .int .u64 0] 64 (0, 0)) := ⟨_, rfl, (((Fr.refl _ _).alloc _).alloc _).alloc _, keepA (keepA (newA rfl)), keepA (newA (by simp)), newA (by simp)⟩
  have a0 : w0.cell? ⟨w.heap.size + 1, 0, none⟩ = some (.int .i64 3) := cell_of q1
  have a1 : w0.cell? ⟨w.heap.size + 1, 1, none⟩ = some (.int .u64 now) := cell_of q1
  have a2 : w0.cell? ⟨w.heap.size + 1, 2, none⟩ = some (.slice pa data.length pc) := cell_of q1
  have a3 : w0.cell? ⟨w.heap.size + 1, 3, none⟩ = some (.int .i64 n) := cell_of q1
  have HWR := Lib.hid fun (w : World) => wrong41_ok (c0 := .pointer (some ⟨mb, 0, none⟩)) (c1 := .int .i64 s.r) (c2 := .int .i64 s.p) (c3 := .int .i64 s.u) (c4 := .int .i64 s.lat) (c5 := .int .i64 s.lim) (c6 := .int .u64 now0) (c7 := .slice ma nl mc) (c8 := .bool false) (c9 := .int .u64 s.fin) w hw1 hw2
  clear hby hnl hmc hmx hbk
  go_enter Try.func36, Try.ntmps36
  go_wp2_with (refine wpList_load_row rfl 64 (.tmp 4) rfl _ rfl _ _ _ _ q0 Try.underlying64 rfl (by kernel_rfl) ?_)
  refine (HWR.out _).mono ?_
  rintro e w1 ⟨rfl, f1⟩
  have g1 : Fr [] w w1 := f0.then0 f1
  have Q0 := Lib.hid (f1.keep q0 (by simp))
  have Q1 := Lib.hid (f1.keep q1 (by simp))
  have Q2 := Lib.hid (f1.keep q2 (by simp))
  replace HM := Lib.hid (HM.out.keep (L' := w.heap.size :: (w.heap.size + 1) :: (w.heap.size + 2) :: (L ++ Lm)) g1 (by simp) (fun y hy => by simp at hy; rcases hy with rfl | rfl | rfl | hy | hy; exact .inr (by omega); exact .inr (by omega); exact .inr (by omega); exact .inl (HLM.out y hy); exact .inl hy))
  replace HBY := Lib.hid (HBY.out.keep (L' := w.heap.size :: (w.heap.size + 1) :: (w.heap.size + 2) :: (L ++ Lm)) g1 (by simp) (fun y hy => by simp at hy; rcases hy with rfl | rfl | rfl | hy | hy; exact .inr (by omega); exact .inr (by omega); exact .inr (by omega); exact .inl (HLM.out y hy); exact .inl hy))
  clear a0 a1 a2 a3 HWR hw0 q0 q1 q2 f1 f0
  have e0 : w1.cell? ⟨w.heap.size + 1, 1, none⟩ = some (.int .u64 now) := cell_of Q1.out
  have a0 : w1.cell? ⟨w.heap.size + 1, 0, none⟩ = some (.int .i64 3) := cell_of Q1.out
  have a2 : w1.cell? ⟨w.heap.size + 1, 2, none⟩ = some (.slice pa data.length pc) := cell_of Q1.out
  have a3 : w1.cell? ⟨w.heap.size + 1, 3, none⟩ = some (.int .i64 n) := cell_of Q1.out
  have HSHb := Lib.hid (And.intro h.hb h.hk)
  have HCL := Lib.hid (sh_close (h.keep0 g1) h0 h1)
  rw [hE, hH] at HCL
  clear h hE hH hme
  go_wp2_with fail
  refine HCL.out.mono ?_
  rintro e w2 ⟨rfl, f2, s2⟩
  replace s2 := Lib.hid s2
  clear HCL a0 a2 a3 e0
  replace Q0 := Lib.hid (f2.keep Q0.out (fun hm => by simp at hm; have h1_ := HOLD.out _ HSHb.out.1; have h2_ := HOLD.out _ HSHb.out.2; omega))
  replace Q1 := Lib.hid (f2.keep Q1.out (fun hm => by simp at hm; have h1_ := HOLD.out _ HSHb.out.1; have h2_ := HOLD.out _ HSHb.out.2; omega))
  replace Q2 := Lib.hid (f2.keep Q2.out (fun hm => by simp at hm; have h1_ := HOLD.out _ HSHb.out.1; have h2_ := HOLD.out _ HSHb.out.2; omega))
  have HM2 := Lib.hid (HM.out.keep (L' := w.heap.size :: (w.heap.size + 1) :: (w.heap.size + 2) :: (L ++ Lm)) f2 (fun y hy => .inl (by simp at hy; rcases hy with rfl | rfl; simp [HSHb.out.1]; simp [HSHb.out.2])) (fun y hy => .inl hy))
  have g2 : Fr (mb :: L) w w2 := (g1.mono (T := mb :: L) (by simp)).trans f2 (fun _ h => .inl h) (fun x hx => .inl (by simp at hx; rcases hx with rfl | rfl; exact List.mem_cons_of_mem _ HSHb.out.1; exact List.mem_cons_of_mem _ HSHb.out.2))
  have d1 : w2.cell? ⟨w.heap.size + 1, 1, none⟩ = some (.int .u64 now) := cell_of Q1.out
  have d8 : w2.cell? ⟨w.heap.size, 8, none⟩ = some (.bool false) := cell_of Q0.out
  have d0 : w2.cell? ⟨w.heap.size, 0, none⟩ = some (.pointer (some ⟨mb, 0, none⟩)) := cell_of Q0.out
  replace HBY := Lib.hid (HBY.out.keep (L' := w.heap.size :: (w.heap.size + 1) :: (w.heap.size + 2) :: (L ++ Lm)) f2 (fun y hy => .inl (by simp at hy; rcases hy with rfl | rfl; simp [HSHb.out.1]; simp [HSHb.out.2])) (fun y hy => .inl hy))
  replace HRV := Lib.hid (HRV.out _ HM2.out.bk)
  go_wp2_with fail
  refine HRV.out.mono ?_
  rintro e w3 ⟨rfl, f3, k3⟩
  rw [show lvl s.r s.p s.u s.l s.t now - 0 * s.p = lvH s now 0 from rfl] at k3 ⊢
  rw [HT0.out]
  replace k3 := Lib.hid k3
  replace Q0 := Lib.hid (f3.keep Q0.out (fun hm => by simp at hm; omega))
  replace Q1 := Lib.hid (f3.keep Q1.out (fun hm => by simp at hm; omega))
  replace Q2 := Lib.hid (f3.keep Q2.out (fun hm => by simp at hm; omega))
  have HS3 := Lib.hid (s2.out.keep f3 (by intro y hy hm; simp at hy; subst hy; exact hmb0 hm))
  replace HBY := Lib.hid (HBY.out.keepB HM2.out.bk f3)
  have hmbL := HM2.out.mb
  clear HRV d8 d0 d1 s2 HM2 HM
  go_wp2_with fail
  have fd0 : Fr [] w3 w3.drew := (Fr.refl _ _).drew
  have HS63 := Lib.hid fun (w' : World) (f : Fr [] w3 w') => (show (fun w' => w'.cell? ⟨w.heap.size, 4, none⟩ = some (.int .i64 s.lat) ∧ w'.cell? ⟨w.heap.size + 1, 1, none⟩ = some (.int .u64 now)) w' from ⟨cell_of (f.keep Q0.out (by simp)), cell_of (f.keep Q1.out (by simp))⟩)
  refine wp_region_order [(0, true), (1, true), (2, true), (3, true), (5, true), (6, true), (7, true), (4, false), (8, false), (9, true), (10, false), (11, true), (12, false)] (fun w' => w'.cell? ⟨w.heap.size, 4, none⟩ = some (.int .i64 s.lat) ∧ w'.cell? ⟨w.heap.size + 1, 1, none⟩ = some (.int .u64 now)) (by kernel_rfl) (by kernel_rfl) (HS63.out _ fd0) ?_
  intro OPS HOPS
  have hops := HOPS.out
  try simp only [List.append_eq, List.cons_append, List.nil_append] at hops
  replace HOPS := Lib.hid hops
  clear hops
  refine walkO_take (o := _) (v := ?_) (by rw [HOPS.out]; simp only [List.getElem?_toArray, List.getElem?_cons_succ, List.getElem?_cons_zero]; exact rfl) (Or.inl ⟨rfl, ?_⟩) ?_
  rotate_left
  · (intro w hSw; (try dsimp only at hSw); go_simp) <;> (with_reducible rfl)
  simp only [Act.put, List.setIfInBounds_toArray, List.set_cons_zero, List.set_cons_succ]
  refine walkO_take (o := _) (v := ?_) (by rw [HOPS.out]; simp only [List.getElem?_toArray, List.getElem?_cons_succ, List.getElem?_cons_zero]; exact rfl) (Or.inl ⟨rfl, ?_⟩) ?_
  rotate_left
  · (intro w hSw; (try dsimp only at hSw); go_simp) <;> (with_reducible rfl)
  simp only [Act.put, List.setIfInBounds_toArray, List.set_cons_zero, List.set_cons_succ]
  refine walkO_take (o := _) (v := ?_) (by rw [HOPS.out]; simp only [List.getElem?_toArray, List.getElem?_cons_succ, List.getElem?_cons_zero]; exact rfl) (Or.inl ⟨rfl, ?_⟩) ?_
  rotate_left
  · (intro w hSw; (try dsimp only at hSw); go_simp) <;> (with_reducible rfl)
  simp only [Act.put, List.setIfInBounds_toArray, List.set_cons_zero, List.set_cons_succ]
  refine walkO_take (o := _) (v := ?_) (by rw [HOPS.out]; simp only [List.getElem?_toArray, List.getElem?_cons_succ, List.getElem?_cons_zero]; exact rfl) (Or.inl ⟨rfl, ?_⟩) ?_
  rotate_left
  · (intro w hSw; (try dsimp only at hSw); go_simp) <;> (with_reducible rfl)
  simp only [Act.put, List.setIfInBounds_toArray, List.set_cons_zero, List.set_cons_succ]
  refine walkO_take (o := _) (v := ?_) (by rw [HOPS.out]; simp only [List.getElem?_toArray, List.getElem?_cons_succ, List.getElem?_cons_zero]; exact rfl) (Or.inl ⟨rfl, ?_⟩) ?_
  rotate_left
  · (intro w hSw; (try dsimp only at hSw); go_simp) <;> (with_reducible rfl)
  simp only [Act.put, List.setIfInBounds_toArray, List.set_cons_zero, List.set_cons_succ]
  refine walkO_take (o := _) (v := ?_) (by rw [HOPS.out]; simp only [List.getElem?_toArray, List.getElem?_cons_succ, List.getElem?_cons_zero]; exact rfl) (Or.inl ⟨rfl, ?_⟩) ?_
  rotate_left
  · (intro w hSw; (try dsimp only at hSw); go_simp) <;> (with_reducible rfl)
  simp only [Act.put, List.setIfInBounds_toArray, List.set_cons_zero, List.set_cons_succ]
  refine walkO_take (o := _) (v := ?_) (by rw [HOPS.out]; simp only [List.getElem?_toArray, List.getElem?_cons_succ, List.getElem?_cons_zero]; exact rfl) (Or.inl ⟨rfl, ?_⟩) ?_
  rotate_left
  · (intro w hSw; (try dsimp only at hSw); go_simp) <;> (with_reducible rfl)
  simp only [Act.put, List.setIfInBounds_toArray, List.set_cons_zero, List.set_cons_succ]
  refine walkO_call (o := _) (by rw [HOPS.out]; simp only [List.getElem?_toArray, List.getElem?_cons_succ, List.getElem?_cons_zero]; exact rfl) (fun K HK => ?_)
  refine step_call rfl 59 #[(.tmp 340), (.tmp 343)] #[25, 3] rfl HEL.out #[.int .u64 T0, .int .i64 s.lat] (by simp [Act.eval]) (HLT.out w3.drew) ?_
  rintro e w9 ⟨rfl, rfl⟩
  obtain ⟨wd, hwd, fdw⟩ : ∃ W, w3.drew = W ∧ Fr [] w3 W := ⟨_, rfl, fd0⟩
  rw [hwd]
  refine ⟨_, rfl, ?_⟩
  refine HK.out (fun w' => w'.cell? ⟨w.heap.size, 4, none⟩ = some (.int .i64 s.lat) ∧ w'.cell? ⟨w.heap.size + 1, 1, none⟩ = some (.int .u64 now)) _ _ (fun _ h => h) (HS63.out _ fdw) ?_
  clear HK K
  simp only [Act.put, List.setIfInBounds_toArray, List.set_cons_zero, List.set_cons_succ]
  refine walkO_call (o := _) (by rw [HOPS.out]; simp only [List.getElem?_toArray, List.getElem?_cons_succ, List.getElem?_cons_zero]; exact rfl) (fun K HK => ?_)
  have sc_ : wd.cell? ⟨w.heap.size, 8, none⟩ = _ := cell_of (fdw.keep Q0.out (by simp))
  have sf_ : wd.frozen? ⟨w.heap.size, 8, none⟩ = false := free_of (fdw.keep Q0.out (by simp))
  go_simp
  clear sc_ sf_
  obtain ⟨wA, hwwA, qA, fwA⟩ : ∃ W, wd.setCell ⟨w.heap.size, 8, none⟩ (.bool true) = W ∧ W.heap[w.heap.size]? = some (.cells #[.pointer (some ⟨mb, 0, none⟩), .int .i64 s.r, .int .i64 s.p, .int .i64 s.u, .int .i64 s.lat, .int .i64 s.lim, .int .u64 now0, .slice ma nl mc, .bool true, .int .u64 s.fin, .int .u64 s.last] 64 (0, 0)) ∧ Fr [w.heap.size] wd W := ⟨_, rfl, (by have q_ := heap_setCell_eq (i := 8) (u := .bool true) (fdw.keep Q0.out (by simp)); simpa using q_), (Fr.refl [w.heap.size] wd).setCell (.inl (by simp)) _⟩
  rw [hwwA]
  refine HK.out (fun w' => w'.cell? ⟨w.heap.size, 4, none⟩ = some (.int .i64 s.lat) ∧ w'.cell? ⟨w.heap.size + 1, 1, none⟩ = some (.int .u64 now)) _ _ (fun _ h => h) (⟨cell_of qA, cell_of (fwA.keep (fdw.keep Q1.out (by simp)) (by simp))⟩) ?_
  clear HK K
  try simp only [Act.put, List.setIfInBounds_toArray, List.set_cons_zero, List.set_cons_succ]
  refine walkO_take (o := _) (v := ?_) (by rw [HOPS.out]; simp only [List.getElem?_toArray, List.getElem?_cons_succ, List.getElem?_cons_zero]; exact rfl) (Or.inl ⟨rfl, ?_⟩) ?_
  rotate_left
  · (intro w hSw; (try dsimp only at hSw); go_simp) <;> (with_reducible rfl)
  simp only [Act.put, List.setIfInBounds_toArray, List.set_cons_zero, List.set_cons_succ]
  refine walkO_call (o := _) (by rw [HOPS.out]; simp only [List.getElem?_toArray, List.getElem?_cons_succ, List.getElem?_cons_zero]; exact rfl) (fun K HK => ?_)
  have sc_ : wA.cell? ⟨w.heap.size, 9, none⟩ = _ := cell_of qA
  have sf_ : wA.frozen? ⟨w.heap.size, 9, none⟩ = false := free_of qA
  go_simp
  clear sc_ sf_
  obtain ⟨wB, hwwB, qB, fwB⟩ : ∃ W, wA.setCell ⟨w.heap.size, 9, none⟩ (.int .u64 (atH s now 0)) = W ∧ W.heap[w.heap.size]? = some (.cells #[.pointer (some ⟨mb, 0, none⟩), .int .i64 s.r, .int .i64 s.p, .int .i64 s.u, .int .i64 s.lat, .int .i64 s.lim, .int .u64 now0, .slice ma nl mc, .bool true, .int .u64 (atH s now 0), .int .u64 s.last] 64 (0, 0)) ∧ Fr [w.heap.size] wA W := ⟨_, rfl, (by have q_ := heap_setCell_eq (i := 9) (u := .int .u64 (atH s now 0)) qA; simpa using q_), (Fr.refl [w.heap.size] wA).setCell (.inl (by simp)) _⟩
  rw [hwwB]
  refine HK.out (fun w' => w'.cell? ⟨w.heap.size, 4, none⟩ = some (.int .i64 s.lat) ∧ w'.cell? ⟨w.heap.size + 1, 1, none⟩ = some (.int .u64 now)) _ _ (fun _ h => h) (⟨cell_of qB, cell_of (fwB.keep (fwA.keep (fdw.keep Q1.out (by simp)) (by simp)) (by simp))⟩) ?_
  clear HK K
  try simp only [Act.put, List.setIfInBounds_toArray, List.set_cons_zero, List.set_cons_succ]
  refine walkO_take (o := _) (v := ?_) (by rw [HOPS.out]; simp only [List.getElem?_toArray, List.getElem?_cons_succ, List.getElem?_cons_zero]; exact rfl) (Or.inl ⟨rfl, ?_⟩) ?_
  rotate_left
  · (intro w hSw; (try dsimp only at hSw); go_simp) <;> (with_reducible rfl)
  simp only [Act.put, List.setIfInBounds_toArray, List.set_cons_zero, List.set_cons_succ]
  refine walkO_call (o := _) (by rw [HOPS.out]; simp only [List.getElem?_toArray, List.getElem?_cons_succ, List.getElem?_cons_zero]; exact rfl) (fun K HK => ?_)
  have sc_ : wB.cell? ⟨w.heap.size, 10, none⟩ = _ := cell_of qB
  have sf_ : wB.frozen? ⟨w.heap.size, 10, none⟩ = false := free_of qB
  go_simp
  clear sc_ sf_
  obtain ⟨wC, hwwC, qC, fwC⟩ : ∃ W, wB.setCell ⟨w.heap.size, 10, none⟩ (.int .u64 now) = W ∧ W.heap[w.heap.size]? = some (.cells #[.pointer (some ⟨mb, 0, none⟩), .int .i64 s.r, .int .i64 s.p, .int .i64 s.u, .int .i64 s.lat, .int .i64 s.lim, .int .u64 now0, .slice ma nl mc, .bool true, .int .u64 (atH s now 0), .int .u64 now] 64 (0, 0)) ∧ Fr [w.heap.size] wB W := ⟨_, rfl, (by have q_ := heap_setCell_eq (i := 10) (u := .int .u64 now) qB; simpa using q_), (Fr.refl [w.heap.size] wB).setCell (.inl (by simp)) _⟩
  rw [hwwC]
  refine HK.out (fun w' => w'.cell? ⟨w.heap.size, 4, none⟩ = some (.int .i64 s.lat) ∧ w'.cell? ⟨w.heap.size + 1, 1, none⟩ = some (.int .u64 now)) _ _ (fun _ h => h) (⟨cell_of qC, cell_of (fwC.keep (fwB.keep (fwA.keep (fdw.keep Q1.out (by simp)) (by simp)) (by simp)) (by simp))⟩) ?_
  clear HK K
  try simp only [Act.put, List.setIfInBounds_toArray, List.set_cons_zero, List.set_cons_succ]
  refine walkO_done ?_
  clear HOPS OPS
  clear HS63 fd0 HLT HEL
  have fC : Fr [w.heap.size] w3 wC := fdw.trans (((fwA.then fwB).then fwC)) (by simp) (fun _ h => .inl h)
  replace Q0 := Lib.hid qC
  replace Q1 := Lib.hid (fC.keep Q1.out (by simp))
  replace Q2 := Lib.hid (fC.keep Q2.out (by simp))
  have HX := Lib.hid (show Fr (mb :: L) w wC ∧ Shp wC L b k { s with l := lvH s now 0, t := now, closed := true, fin := atH s now 0, last := now } ∧ Md wC (w.heap.size :: (w.heap.size + 1) :: (w.heap.size + 2) :: (L ++ Lm)) mb { s with l := lvH s now 0, t := now, closed := true, fin := atH s now 0, last := now } (.agg #[.pointer (some ⟨mb, 0, none⟩), .int .i64 s.r, .int .i64 s.p, .int .i64 s.u, .int .i64 s.lat, .int .i64 s.lim, .int .u64 now0, .slice ma nl mc, .bool true, .int .u64 (atH s now 0), .int .u64 now]) from ⟨((g2.trans f3 (fun _ h => .inl h) (fun x hx => .inl (by simp at hx; simp [hx]))).trans fC (fun _ h => .inl h) (fun x hx => .inr (by simp at hx; omega))), HS3.out.keep fC (fun y hy hm => by simp at hy; have := HOLD.out _ hm; omega), ⟨⟨ma, nl, mc, now0, rfl, HBY.out.keep fC (fun y hy => .inl (by simp at hy; simp [hy])) (fun y hy => .inl hy), HNL.out.1, HNL.out.2.1, HNL.out.2.2⟩, fC.keep k3.out (by simp; omega), hmbL⟩⟩)
  clear hwwA hwwB hwwC qA qB qC fwA fwB fwC hwd fdw fC HS3 HBY k3 f3 g2 f2
  try simp only [Exit.then]
  go_wp2_with fail
  have fd : Fr [w.heap.size + 2] wC wC.drew := (Fr.refl _ _).drew
  have HFA := Lib.hid fun (w' : World) (f : Fr [w.heap.size + 2] wC w') => (show w'.cell? ⟨w.heap.size, 0, none⟩ = some (.pointer (some ⟨mb, 0, none⟩)) ∧ w'.cell? ⟨w.heap.size, 1, none⟩ = some (.int .i64 s.r) ∧ w'.cell? ⟨w.heap.size, 2, none⟩ = some (.int .i64 s.p) ∧ w'.cell? ⟨w.heap.size, 3, none⟩ = some (.int .i64 s.u) ∧ w'.cell? ⟨w.heap.size, 4, none⟩ = some (.int .i64 s.lat) ∧ w'.cell? ⟨w.heap.size, 5, none⟩ = some (.int .i64 s.lim) ∧ w'.cell? ⟨w.heap.size, 6, none⟩ = some (.int .u64 now0) ∧ w'.cell? ⟨w.heap.size, 7, none⟩ = some (.slice ma nl mc) ∧ w'.cell? ⟨w.heap.size, 8, none⟩ = some (.bool true) ∧ w'.cell? ⟨w.heap.size, 9, none⟩ = some (.int .u64 (atH s now 0)) ∧ w'.cell? ⟨w.heap.size, 10, none⟩ = some (.int .u64 now) ∧ w'.cell? ⟨w.heap.size + 1, 0, none⟩ = some (.int .i64 3) ∧ w'.cell? ⟨w.heap.size + 1, 1, none⟩ = some (.int .u64 now) ∧ w'.cell? ⟨w.heap.size + 1, 2, none⟩ = some (.slice pa data.length pc) ∧ w'.cell? ⟨w.heap.size + 1, 3, none⟩ = some (.int .i64 n) from (let q' := f.keep Q0.out (by simp); let a' := f.keep Q1.out (by simp); ⟨cell_of q', cell_of q', cell_of q', cell_of q', cell_of q', cell_of q', cell_of q', cell_of q', cell_of q', cell_of q', cell_of q', cell_of a', cell_of a', cell_of a', cell_of a'⟩))
  refine wp_region_order [(0, true), (1, true), (2, true), (3, true), (4, true), (5, false), (6, true)] (fun w' => Fr [w.heap.size + 2] wC w') (by kernel_rfl) (by kernel_rfl) fd ?_
  intro OPS HOPS
  have hops := HOPS.out
  try simp only [List.append_eq, List.cons_append, List.nil_append] at hops
  replace HOPS := Lib.hid hops
  clear hops
  refine walkO_take (o := _) (v := ?_) (by rw [HOPS.out]; simp only [List.getElem?_toArray, List.getElem?_cons_succ, List.getElem?_cons_zero]; exact rfl) (Or.inl ⟨rfl, ?_⟩) ?_
  rotate_left
  · (intro w hSw; have hSx := HFA.out _ hSw; (try dsimp only at hSx); clear hSw; go_simp) <;> (with_reducible rfl)
  simp only [Act.put, List.setIfInBounds_toArray, List.set_cons_zero, List.set_cons_succ]
  refine walkO_take (o := _) (v := ?_) (by rw [HOPS.out]; simp only [List.getElem?_toArray, List.getElem?_cons_succ, List.getElem?_cons_zero]; exact rfl) (Or.inl ⟨rfl, ?_⟩) ?_
  rotate_left
  · (intro w hSw; have hSx := HFA.out _ hSw; (try dsimp only at hSx); clear hSw; go_simp) <;> (with_reducible rfl)
  simp only [Act.put, List.setIfInBounds_toArray, List.set_cons_zero, List.set_cons_succ]
  refine walkO_take (o := _) (v := ?_) (by rw [HOPS.out]; simp only [List.getElem?_toArray, List.getElem?_cons_succ, List.getElem?_cons_zero]; exact rfl) (Or.inl ⟨rfl, ?_⟩) ?_
  rotate_left
  · (intro w hSw; have hSx := HFA.out _ hSw; (try dsimp only at hSx); clear hSw; go_simp) <;> (with_reducible rfl)
  simp only [Act.put, List.setIfInBounds_toArray, List.set_cons_zero, List.set_cons_succ]
  refine walkO_take (o := _) (v := ?_) (by rw [HOPS.out]; simp only [List.getElem?_toArray, List.getElem?_cons_succ, List.getElem?_cons_zero]; exact rfl) (Or.inl ⟨rfl, ?_⟩) ?_
  rotate_left
  · (intro w hSw; have hSx := HFA.out _ hSw; (try dsimp only at hSx); clear hSw; go_simp) <;> (with_reducible rfl)
  simp only [Act.put, List.setIfInBounds_toArray, List.set_cons_zero, List.set_cons_succ]
  refine walkO_take (o := _) (v := ?_) (by rw [HOPS.out]; simp only [List.getElem?_toArray, List.getElem?_cons_succ, List.getElem?_cons_zero]; exact rfl) (Or.inl ⟨rfl, ?_⟩) ?_
  rotate_left
  · (intro w hSw; have hSx := HFA.out _ hSw; (try dsimp only at hSx); clear hSw; go_simp) <;> (with_reducible rfl)
  simp only [Act.put, List.setIfInBounds_toArray, List.set_cons_zero, List.set_cons_succ]
  refine walkO_call (o := _) (by rw [HOPS.out]; simp only [List.getElem?_toArray, List.getElem?_cons_succ, List.getElem?_cons_zero]; exact rfl) (fun K HK => ?_)
  obtain ⟨wE, hwE, qE, fE⟩ := setRow_fr (cs := #[.pointer (some ⟨mb, 0, none⟩), .int .i64 s.r, .int .i64 s.p, .int .i64 s.u, .int .i64 s.lat, .int .i64 s.lim, .int .u64 now0, .slice ma nl mc, .bool true, .int .u64 (atH s now 0), .int .u64 now]) (show wC.drew.heap[w.heap.size + 2]? = _ from Q2.out)
  refine step_store_row rfl 64 (.tmp 7) (.tmp 351) rfl (w.heap.size + 2) #[.pointer (some ⟨mb, 0, none⟩), .int .i64 s.r, .int .i64 s.p, .int .i64 s.u, .int .i64 s.lat, .int .i64 s.lim, .int .u64 now0, .slice ma nl mc, .bool true, .int .u64 (atH s now 0), .int .u64 now] rfl rfl _ _ (show wC.drew.heap[w.heap.size + 2]? = _ from Q2.out) (by kernel_rfl) rfl (by simp [Value.oneCell']) hwE ?_
  have gE : Fr [w.heap.size + 2] wC wE := fd.trans fE (fun _ h => .inl h) (fun x hx => .inl hx)
  refine HK.out (fun w' => Fr [w.heap.size + 2] wC w') _ _ (fun _ h => h) (gE) ?_
  clear HK K
  try simp only [Act.put, List.setIfInBounds_toArray, List.set_cons_zero, List.set_cons_succ]
  refine walkO_take (o := _) (v := ?_) (by rw [HOPS.out]; simp only [List.getElem?_toArray, List.getElem?_cons_succ, List.getElem?_cons_zero]; exact rfl) (Or.inl ⟨rfl, ?_⟩) ?_
  rotate_left
  · (intro w hSw; have hSx := HFA.out _ hSw; (try dsimp only at hSx); clear hSw; go_simp) <;> (with_reducible rfl)
  simp only [Act.put, List.setIfInBounds_toArray, List.set_cons_zero, List.set_cons_succ]
  refine walkO_done ?_
  clear HOPS OPS
  clear HFA
  try simp only [Exit.then]
  go_wp2_with fail
  refine bodyPost_ret (m41_result3 qE (by kernel_rfl) rfl rfl rfl rfl) rfl ?_
  obtain ⟨x1, x2, x3⟩ := HX.out
  exact ⟨b, k, L, _, rfl, x1.trans gE (fun _ h => .inl h) (fun x hx => .inr (by simp at hx; omega)), x2.keep gE (fun y hy hm => by simp at hy; have := HOLD.out _ hm; omega), x3.keep gE (fun y hy => .inl (by simp at hy; simp [hy])) (fun y hy => .inl (List.mem_cons_of_mem _ (List.mem_cons_of_mem _ (List.mem_cons_of_mem _ hy)))), fun y hy => .inl hy⟩
end Go.Proofs.Ytdndabklcenndaa
