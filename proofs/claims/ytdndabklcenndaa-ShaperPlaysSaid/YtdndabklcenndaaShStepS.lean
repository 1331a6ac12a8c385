/-
  Law 41: step: Send.
-/
import Derived.Test.YtdndabklcenndaaShStepB
namespace Go.Proofs.Ytdndabklcenndaa
open Go.RowKit
set_option maxRecDepth 100000

set_option maxHeartbeats 16000000 in
theorem step41_s3 {w : World} {L : List Nat} {b k mb : Nat} {s : SH} {v : Value} (h : Shp w L b k s) {Lm : List Nat} (hm : Md w Lm mb s v) (hLm : ∀ y ∈ L, y ∈ Lm) (hLo : ∀ y ∈ Lm, y < w.heap.size) {pa : Option Addr} {pc : Nat} {data : List UInt8} (hd : Sl w pa (bi data)) (hdo : ∀ b' o', 0 < data.length → pa = some ⟨b', o', none⟩ → b' ∉ L ∧ b' ≠ mb) (hdl : data.length ≤ 100) (hpc : data.length ≤ pc) {now n : Int} (h0 : 0 ≤ now) (h1 : now ≤ 18446744073709551615) (hwr : now < s.last ∨ now = 18446744073709551615) :
    Calls Try.prog 36 #[.pointer (some ⟨b, 0, none⟩), v, .agg #[.int .i64 0, .int .u64 now, .slice pa data.length pc, .int .i64 n]] w (Step41 w L Lm mb (sendH s now data)) := by
  have hme : mayE s now (decide ((data.length : Int) ≤ 65536)) = 3 := by rw [show decide ((data.length : Int) ≤ 65536) = true by simp; omega]; unfold mayE; rw [if_neg (by simp), if_pos hwr]
  obtain ⟨rN, hrN⟩ : ∃ r, r = sendN s data.length := ⟨_, rfl⟩
  have hE : sendE s now data.length = 3 := by unfold sendE; rw [if_pos (by rw [hme]; decide), hme]
  have hN : sendNE s now data.length = 0 := by unfold sendNE; rw [if_pos (by rw [hE]; decide)]
  have hH : sendH s now data = s := by unfold sendH; rw [if_pos (by rw [hE]; decide)]
  rw [hH]
  obtain ⟨⟨ma, nl, mc, now0, rfl, hby, hnl, hmc, hmx⟩, hbk, hmb⟩ := hm
  have HM := Lib.hid (show Md w Lm mb s (.agg #[.pointer (some ⟨mb, 0, none⟩), .int .i64 s.r, .int .i64 s.p, .int .i64 s.u, .int .i64 s.lat, .int .i64 s.lim, .int .u64 now0, .slice ma nl mc, .bool s.closed, .int .u64 s.fin, .int .u64 s.last]) from ⟨⟨ma, nl, mc, now0, rfl, hby, hnl, hmc, hmx⟩, hbk, hmb⟩)
  have hmbl := lt_of_heap hbk
  have HBK0 := Lib.hid hbk
  have HBY := Lib.hid hby
  have HNL := Lib.hid (And.intro hnl (And.intro hmc hmx))
  have HOLD := Lib.hid h.old
  have HLM := Lib.hid hLm
  have HLO := Lib.hid hLo
  have hmb0 : mb ∉ L := fun hm => hmb (hLm _ hm)
  clear hLm hLo
  have hnl2 : nl ≤ 65536 := by have := h.ok.tot; have := h.ok.lim1; have := flatS_length s.segs; omega
  obtain ⟨w0, hw0, f0, q0, q1, q2⟩ : ∃ W, ((w.alloc (.cells #[.pointer (some ⟨mb, 0, none⟩), .int .i64 s.r, .int .i64 s.p, .int .i64 s.u, .int .i64 s.lat, .int .i64 s.lim, .int .u64 now0, .slice ma nl mc, .bool s.closed, .int .u64 s.fin, .int .u64 s.last] 64)).alloc (.cells #[.int .i64 0, .int .u64 now, .slice pa data.length pc, .int .i64 n] 77)).alloc (.cells #[.pointer none, .int .i64 0, .int .i64 0, .int .i64 0, .int .i64 0, .int .i64 0, .int .u64 0, .slice none 0 0, .bool false, .int .u64 0, .int .u64 0] 64) = W ∧ Fr [] w W ∧ W.heap[w.heap.size]? = some (.cells #[.pointer (some ⟨mb, 0, none⟩), .int .i64 s.r, .int .i64 s.p, .int .i64 s.u, .int .i64 s.lat, .int .i64 s.lim, .int .u64 now0, .slice ma nl mc, .bool s.closed, .int .u64 s.fin, .int .u64 s.last] 64 (0, 0)) ∧ W.heap[w.heap.size + 1]? = some (.cells #[.int .i64 0, .int .u64 now, .slice pa data.length pc, .int .i64 n] 77 (0, 0)) ∧ W.heap[w.heap.size + 2]? = some (.cells #[.pointer none, .int .i64 0, .int .i64 0, .int .i64 0, .int .i64 0, .int .i64 0, .int .u64 0, .slice none 0 0, .bool false, .int .u64 0, .int .u64 0] 64 (0, 0)) := ⟨_, rfl, (((Fr.refl _ _).alloc _).alloc _).alloc _, keepA (keepA (newA rfl)), keepA (newA (by simp)), newA (by simp)⟩
  have a0 : w0.cell? ⟨w.heap.size + 1, 0, none⟩ = some (.int .i64 0) := cell_of q1
  have a1 : w0.cell? ⟨w.heap.size + 1, 1, none⟩ = some (.int .u64 now) := cell_of q1
  have a2 : w0.cell? ⟨w.heap.size + 1, 2, none⟩ = some (.slice pa data.length pc) := cell_of q1
  have a3 : w0.cell? ⟨w.heap.size + 1, 3, none⟩ = some (.int .i64 n) := cell_of q1
  have HWR := Lib.hid fun (w : World) => wrong41_bad (c0 := .pointer (some ⟨mb, 0, none⟩)) (c1 := .int .i64 s.r) (c2 := .int .i64 s.p) (c3 := .int .i64 s.u) (c4 := .int .i64 s.lat) (c5 := .int .i64 s.lim) (c6 := .int .u64 now0) (c7 := .slice ma nl mc) (c8 := .bool s.closed) (c9 := .int .u64 s.fin) w hwr
  clear hby hnl hmc hmx hbk hwr
  go_enter Try.func36, Try.ntmps36
  go_wp2_with (refine wpList_load_row rfl 64 (.tmp 4) rfl _ rfl _ _ _ _ q0 Try.underlying64 rfl (by kernel_rfl) ?_)
  refine (HWR.out _).mono ?_
  rintro e w1 ⟨rfl, f1⟩
  have g1 : Fr [] w w1 := f0.then0 f1
  have Q0 := Lib.hid (f1.keep q0 (by simp))
  have Q1 := Lib.hid (f1.keep q1 (by simp))
  have Q2 := Lib.hid (f1.keep q2 (by simp))
  replace HM := Lib.hid (HM.out.keep (L' := w.heap.size :: (w.heap.size + 1) :: (w.heap.size + 2) :: (L ++ Lm)) g1 (by simp) (fun y hy => by simp at hy; rcases hy with rfl | rfl | rfl | hy | hy; exact .inr (by omega); exact .inr (by omega); exact .inr (by omega); exact .inl (HLM.out y hy); exact .inl hy))
  replace HBY := Lib.hid (HBY.out.keep (L' := w.heap.size :: (w.heap.size + 1) :: (w.heap.size + 2) :: (L ++ Lm)) g1 (by simp) (fun y hy => by simp at hy; rcases hy with rfl | rfl | rfl | hy | hy; exact .inr (by omega); exact .inr (by omega); exact .inr (by omega); exact .inl (HLM.out y hy); exact .inl hy))
  clear a0 a1 a2 a3 HWR hw0 q0 q1 q2 f1 f0
  have hnlx : nl = totS s.segs := by rw [HNL.out.1, flatS_length]
  have hmin : (if s.lim - (nl : Int) < (data.length : Int) then s.lim - (nl : Int) else (data.length : Int)) = (rN : Int) := by rw [hrN, hnlx]; unfold sendN; have := h.ok.lim0; have := h.ok.tot; split <;> omega
  have hrl : rN ≤ data.length ∧ rN + nl ≤ 65536 := by rw [hrN, hnlx]; unfold sendN; have := h.ok.lim0; have := h.ok.lim1; have := h.ok.tot; omega
  have hl0 := h.ok.lim0
  have hl1 := h.ok.lim1
  have HRN := Lib.hid hrN
  clear hnlx hrN
  have zB : w.heap.size + 2 < w1.heap.size := lt_of_heap Q2.out
  have e0 : w1.cell? ⟨w.heap.size + 1, 1, none⟩ = some (.int .u64 now) := cell_of Q1.out
  have a0 : w1.cell? ⟨w.heap.size + 1, 0, none⟩ = some (.int .i64 0) := cell_of Q1.out
  have a2 : w1.cell? ⟨w.heap.size + 1, 2, none⟩ = some (.slice pa data.length pc) := cell_of Q1.out
  have a3 : w1.cell? ⟨w.heap.size + 1, 3, none⟩ = some (.int .i64 n) := cell_of Q1.out
  have HCL := Lib.hid (sh_send (pc := pc) (h.keep0 g1) h0 h1 (sl_keep hd g1 (by simp)) (fun b' o' h_ e => (hdo b' o' h_ e).1) (by omega) hpc)
  rw [hE, hH, hN] at HCL
  clear h hE hH hN hme
  go_wp2_with fail
  refine HCL.out.mono ?_
  rintro e w2 ⟨rfl, f2, L', s2, hl⟩
  replace s2 := Lib.hid s2
  have HLS := Lib.hid hl
  clear HCL a0 a2 a3 e0 hl
  replace Q0 := Lib.hid (f2.keep Q0.out (fun hm => by have h1_ := HOLD.out _ hm; omega))
  replace Q1 := Lib.hid (f2.keep Q1.out (fun hm => by have h1_ := HOLD.out _ hm; omega))
  replace Q2 := Lib.hid (f2.keep Q2.out (fun hm => by have h1_ := HOLD.out _ hm; omega))
  have HLW : Hid (∀ y ∈ L', y ∈ L ∨ w.heap.size ≤ y) := Lib.hid (fun y hy => (HLS.out y hy).imp id (fun h_ => by omega))
  have HM2 := Lib.hid (HM.out.keep (L' := w.heap.size :: (w.heap.size + 1) :: (w.heap.size + 2) :: (L' ++ Lm)) f2 (fun y hy => .inl (by simp [hy])) (fun y hy => by simp at hy; rcases hy with rfl | rfl | rfl | hy | hy; exact .inl (by simp); exact .inl (by simp); exact .inl (by simp); exact (HLS.out y hy).imp (fun h_ => by simp [h_]) id; exact .inl (by simp [hy])))
  replace HBY := Lib.hid (HBY.out.keep (L' := w.heap.size :: (w.heap.size + 1) :: (w.heap.size + 2) :: (L' ++ Lm)) f2 (fun y hy => .inl (by simp [hy])) (fun y hy => by simp at hy; rcases hy with rfl | rfl | rfl | hy | hy; exact .inl (by simp); exact .inl (by simp); exact .inl (by simp); exact (HLS.out y hy).imp (fun h_ => by simp [h_]) id; exact .inl (by simp [hy])))
  have g2 : Fr (mb :: L) w w2 := (g1.mono (T := mb :: L) (by simp)).trans f2 (fun _ h => .inl h) (fun x hx => .inl (by simp [hx]))
  have b1 : w2.cell? ⟨w.heap.size + 1, 1, none⟩ = some (.int .u64 now) := cell_of Q1.out
  have b2 : w2.cell? ⟨w.heap.size + 1, 2, none⟩ = some (.slice pa data.length pc) := cell_of Q1.out
  have m0 : w2.cell? ⟨w.heap.size, 0, none⟩ = some (.pointer (some ⟨mb, 0, none⟩)) := cell_of Q0.out
  have m5 : w2.cell? ⟨w.heap.size, 5, none⟩ = some (.int .i64 s.lim) := cell_of Q0.out
  have m7 : w2.cell? ⟨w.heap.size, 7, none⟩ = some (.slice ma nl mc) := cell_of Q0.out
  have m8 : w2.cell? ⟨w.heap.size, 8, none⟩ = some (.bool s.closed) := cell_of Q0.out
  clear f2 HM g1
  have hdl2 : (data.length : Int) ≤ 100 := by omega
  have hdl3 : (data.length : Int) ≤ 65536 := by omega
  go_wp2_with fail
  have fd : Fr [w.heap.size + 2] w2 w2.drew := (Fr.refl _ _).drew
  have HFA := Lib.hid fun (w' : World) (f : Fr [w.heap.size + 2] w2 w') => (show w'.cell? ⟨w.heap.size, 0, none⟩ = some (.pointer (some ⟨mb, 0, none⟩)) ∧ w'.cell? ⟨w.heap.size, 1, none⟩ = some (.int .i64 s.r) ∧ w'.cell? ⟨w.heap.size, 2, none⟩ = some (.int .i64 s.p) ∧ w'.cell? ⟨w.heap.size, 3, none⟩ = some (.int .i64 s.u) ∧ w'.cell? ⟨w.heap.size, 4, none⟩ = some (.int .i64 s.lat) ∧ w'.cell? ⟨w.heap.size, 5, none⟩ = some (.int .i64 s.lim) ∧ w'.cell? ⟨w.heap.size, 6, none⟩ = some (.int .u64 now0) ∧ w'.cell? ⟨w.heap.size, 7, none⟩ = some (.slice ma nl mc) ∧ w'.cell? ⟨w.heap.size, 8, none⟩ = some (.bool s.closed) ∧ w'.cell? ⟨w.heap.size, 9, none⟩ = some (.int .u64 s.fin) ∧ w'.cell? ⟨w.heap.size, 10, none⟩ = some (.int .u64 s.last) ∧ w'.cell? ⟨w.heap.size + 1, 0, none⟩ = some (.int .i64 0) ∧ w'.cell? ⟨w.heap.size + 1, 1, none⟩ = some (.int .u64 now) ∧ w'.cell? ⟨w.heap.size + 1, 2, none⟩ = some (.slice pa data.length pc) ∧ w'.cell? ⟨w.heap.size + 1, 3, none⟩ = some (.int .i64 n) from (let q' := f.keep Q0.out (by simp); let a' := f.keep Q1.out (by simp); ⟨cell_of q', cell_of q', cell_of q', cell_of q', cell_of q', cell_of q', cell_of q', cell_of q', cell_of q', cell_of q', cell_of q', cell_of a', cell_of a', cell_of a', cell_of a'⟩))
  refine wp_region_order [(0, true), (1, true), (2, true), (3, true), (4, true), (5, true), (6, true), (7, true), (8, true), (9, true), (10, false), (11, true)] (fun w' => Fr [w.heap.size + 2] w2 w') (by kernel_rfl) (by kernel_rfl) fd ?_
  intro OPS HOPS
  have hops := HOPS.out
  try simp only [List.append_eq, List.cons_append, List.nil_append] at hops
  replace HOPS := Lib.hid hops
  clear hops
  refine walkO_take (o := _) (v := ?_) (by rw [HOPS.out]; simp only [List.getElem?_toArray, List.getElem?_cons_succ, List.getElem?_cons_zero]; exact rfl) (Or.inl ⟨rfl, ?_⟩) ?_
  rotate_left
  · (intro w hSw; have hSx := HFA.out _ hSw; (try dsimp only at hSx); clear hSw; go_simp) <;> (with_reducible rfl)
  simp only [Act.put, List.setIfInBounds_toArray, List.set_cons_zero, List.set_cons_succ]
  refine walkO_take (o := _) (v := ?_) (by rw [HOPS.out]; simp only [List.getElem?_toArray, List.getElem?_cons_succ, List.getElem?_cons_zero]; exact rfl) (Or.inl ⟨rfl, ?_⟩) ?_
  rotate_left
  · (intro w hSw; have hSx := HFA.out _ hSw; (try dsimp only at hSx); clear hSw; go_simp) <;> (with_reducible rfl)
  simp only [Act.put, List.setIfInBounds_toArray, List.set_cons_zero, List.set_cons_succ]
  refine walkO_take (o := _) (v := ?_) (by rw [HOPS.out]; simp only [List.getElem?_toArray, List.getElem?_cons_succ, List.getElem?_cons_zero]; exact rfl) (Or.inl ⟨rfl, ?_⟩) ?_
  rotate_left
  · (intro w hSw; have hSx := HFA.out _ hSw; (try dsimp only at hSx); clear hSw; go_simp) <;> (with_reducible rfl)
  simp only [Act.put, List.setIfInBounds_toArray, List.set_cons_zero, List.set_cons_succ]
  refine walkO_take (o := _) (v := ?_) (by rw [HOPS.out]; simp only [List.getElem?_toArray, List.getElem?_cons_succ, List.getElem?_cons_zero]; exact rfl) (Or.inl ⟨rfl, ?_⟩) ?_
  rotate_left
  · (intro w hSw; have hSx := HFA.out _ hSw; (try dsimp only at hSx); clear hSw; go_simp) <;> (with_reducible rfl)
  simp only [Act.put, List.setIfInBounds_toArray, List.set_cons_zero, List.set_cons_succ]
  refine walkO_take (o := _) (v := ?_) (by rw [HOPS.out]; simp only [List.getElem?_toArray, List.getElem?_cons_succ, List.getElem?_cons_zero]; exact rfl) (Or.inl ⟨rfl, ?_⟩) ?_
  rotate_left
  · (intro w hSw; have hSx := HFA.out _ hSw; (try dsimp only at hSx); clear hSw; go_simp) <;> (with_reducible rfl)
  simp only [Act.put, List.setIfInBounds_toArray, List.set_cons_zero, List.set_cons_succ]
  refine walkO_take (o := _) (v := ?_) (by rw [HOPS.out]; simp only [List.getElem?_toArray, List.getElem?_cons_succ, List.getElem?_cons_zero]; exact rfl) (Or.inl ⟨by rw [HOPS.out]; rfl, ?_⟩) ?_
  rotate_left
  · (intro w hSw; have hSx := HFA.out _ hSw; (try dsimp only at hSx); clear hSw; go_simp) <;> (with_reducible rfl)
  simp only [Act.put, List.setIfInBounds_toArray, List.set_cons_zero, List.set_cons_succ]
  refine walkO_take (o := _) (v := ?_) (by rw [HOPS.out]; simp only [List.getElem?_toArray, List.getElem?_cons_succ, List.getElem?_cons_zero]; exact rfl) (Or.inl ⟨by rw [HOPS.out]; rfl, ?_⟩) ?_
  rotate_left
  · (intro w hSw; have hSx := HFA.out _ hSw; (try dsimp only at hSx); clear hSw; go_simp) <;> (with_reducible rfl)
  simp only [Act.put, List.setIfInBounds_toArray, List.set_cons_zero, List.set_cons_succ]
  refine walkO_take (o := _) (v := ?_) (by rw [HOPS.out]; simp only [List.getElem?_toArray, List.getElem?_cons_succ, List.getElem?_cons_zero]; exact rfl) (Or.inl ⟨by rw [HOPS.out]; rfl, ?_⟩) ?_
  rotate_left
  · (intro w hSw; have hSx := HFA.out _ hSw; (try dsimp only at hSx); clear hSw; go_simp) <;> (with_reducible rfl)
  simp only [Act.put, List.setIfInBounds_toArray, List.set_cons_zero, List.set_cons_succ]
  refine walkO_take (o := _) (v := ?_) (by rw [HOPS.out]; simp only [List.getElem?_toArray, List.getElem?_cons_succ, List.getElem?_cons_zero]; exact rfl) (Or.inl ⟨rfl, ?_⟩) ?_
  rotate_left
  · (intro w hSw; have hSx := HFA.out _ hSw; (try dsimp only at hSx); clear hSw; go_simp) <;> (with_reducible rfl)
  simp only [Act.put, List.setIfInBounds_toArray, List.set_cons_zero, List.set_cons_succ]
  refine walkO_take (o := _) (v := ?_) (by rw [HOPS.out]; simp only [List.getElem?_toArray, List.getElem?_cons_succ, List.getElem?_cons_zero]; exact rfl) (Or.inl ⟨rfl, ?_⟩) ?_
  rotate_left
  · (intro w hSw; have hSx := HFA.out _ hSw; (try dsimp only at hSx); clear hSw; go_simp) <;> (with_reducible rfl)
  simp only [Act.put, List.setIfInBounds_toArray, List.set_cons_zero, List.set_cons_succ]
  refine walkO_call (o := _) (by rw [HOPS.out]; simp only [List.getElem?_toArray, List.getElem?_cons_succ, List.getElem?_cons_zero]; exact rfl) (fun K HK => ?_)
  obtain ⟨wE, hwE, qE, fE⟩ := setRow_fr (cs := #[.pointer (some ⟨mb, 0, none⟩), .int .i64 s.r, .int .i64 s.p, .int .i64 s.u, .int .i64 s.lat, .int .i64 s.lim, .int .u64 now0, .slice ma nl mc, .bool s.closed, .int .u64 s.fin, .int .u64 s.last]) (show w2.drew.heap[w.heap.size + 2]? = _ from Q2.out)
  refine step_store_row rfl 64 (.tmp 7) (.tmp 81) rfl (w.heap.size + 2) #[.pointer (some ⟨mb, 0, none⟩), .int .i64 s.r, .int .i64 s.p, .int .i64 s.u, .int .i64 s.lat, .int .i64 s.lim, .int .u64 now0, .slice ma nl mc, .bool s.closed, .int .u64 s.fin, .int .u64 s.last] rfl rfl _ _ (show w2.drew.heap[w.heap.size + 2]? = _ from Q2.out) (by kernel_rfl) rfl (by simp [Value.oneCell']) hwE ?_
  have gE : Fr [w.heap.size + 2] w2 wE := fd.trans fE (fun _ h => .inl h) (fun x hx => .inl hx)
  refine HK.out (fun w' => Fr [w.heap.size + 2] w2 w') _ _ (fun _ h => h) (gE) ?_
  clear HK K
  try simp only [Act.put, List.setIfInBounds_toArray, List.set_cons_zero, List.set_cons_succ]
  refine walkO_take (o := _) (v := ?_) (by rw [HOPS.out]; simp only [List.getElem?_toArray, List.getElem?_cons_succ, List.getElem?_cons_zero]; exact rfl) (Or.inl ⟨rfl, ?_⟩) ?_
  rotate_left
  · (intro w hSw; have hSx := HFA.out _ hSw; (try dsimp only at hSx); clear hSw; go_simp) <;> (with_reducible rfl)
  simp only [Act.put, List.setIfInBounds_toArray, List.set_cons_zero, List.set_cons_succ]
  refine walkO_done ?_
  clear HOPS OPS
  clear HFA
  try simp only [Exit.then]
  go_wp2_with fail
  refine bodyPost_ret (m41_result3 qE (by kernel_rfl) rfl rfl rfl rfl) rfl ?_
  exact ⟨b, k, L', _, rfl, g2.trans gE (fun _ h => .inl h) (fun x hx => .inr (by simp at hx; omega)), s2.out.keep gE (fun y hy hm => by simp at hy; rcases HLS.out _ hm with h_ | h_; have := HOLD.out _ h_; omega; omega), HM2.out.keep gE (fun y hy => .inl (by simp at hy; simp [hy])) (fun y hy => .inl (List.mem_cons_of_mem _ (List.mem_cons_of_mem _ (List.mem_cons_of_mem _ hy)))), HLW.out⟩

set_option maxHeartbeats 16000000 in
theorem step41_s14 {w : World} {L : List Nat} {b k mb : Nat} {s : SH} {v : Value} (h : Shp w L b k s) {Lm : List Nat} (hm : Md w Lm mb s v) (hLm : ∀ y ∈ L, y ∈ Lm) (hLo : ∀ y ∈ Lm, y < w.heap.size) {pa : Option Addr} {pc : Nat} {data : List UInt8} (hd : Sl w pa (bi data)) (hdo : ∀ b' o', 0 < data.length → pa = some ⟨b', o', none⟩ → b' ∉ L ∧ b' ≠ mb) (hdl : data.length ≤ 100) (hpc : data.length ≤ pc) {now n : Int} (h0 : 0 ≤ now) (h1 : now ≤ 18446744073709551615) (hw1 : s.last ≤ now) (hw2 : now < 18446744073709551615) (hc : s.closed = true) :
    Calls Try.prog 36 #[.pointer (some ⟨b, 0, none⟩), v, .agg #[.int .i64 0, .int .u64 now, .slice pa data.length pc, .int .i64 n]] w (Step41 w L Lm mb (sendH s now data)) := by
  have hme : mayE s now (decide ((data.length : Int) ≤ 65536)) = 0 := by rw [show decide ((data.length : Int) ≤ 65536) = true by simp; omega]; unfold mayE; rw [if_neg (by simp), if_neg (by omega)]
  obtain ⟨rN, hrN⟩ : ∃ r, r = sendN s data.length := ⟨_, rfl⟩
  have hE : sendE s now data.length = 14 := by unfold sendE; rw [if_neg (by rw [hme]; decide), if_pos hc]
  have hN : sendNE s now data.length = 0 := by unfold sendNE; rw [if_pos (by rw [hE]; decide)]
  have hH : sendH s now data = s := by unfold sendH; rw [if_pos (by rw [hE]; decide)]
  rw [hH]
  obtain ⟨⟨ma, nl, mc, now0, rfl, hby, hnl, hmc, hmx⟩, hbk, hmb⟩ := hm
  have HM := Lib.hid (show Md w Lm mb s (.agg #[.pointer (some ⟨mb, 0, none⟩), .int .i64 s.r, .int .i64 s.p, .int .i64 s.u, .int .i64 s.lat, .int .i64 s.lim, .int .u64 now0, .slice ma nl mc, .bool true, .int .u64 s.fin, .int .u64 s.last]) from ⟨⟨ma, nl, mc, now0, by rw [hc], hby, hnl, hmc, hmx⟩, hbk, hmb⟩)
  have hmbl := lt_of_heap hbk
  have HBK0 := Lib.hid hbk
  have HBY := Lib.hid hby
  have HNL := Lib.hid (And.intro hnl (And.intro hmc hmx))
  have HOLD := Lib.hid h.old
  have HLM := Lib.hid hLm
  have HLO := Lib.hid hLo
  have hmb0 : mb ∉ L := fun hm => hmb (hLm _ hm)
  clear hLm hLo
  have hnl2 : nl ≤ 65536 := by have := h.ok.tot; have := h.ok.lim1; have := flatS_length s.segs; omega
  rw [hc]
  replace hc := Lib.hid hc
  obtain ⟨w0, hw0, f0, q0, q1, q2⟩ : ∃ W, ((w.alloc (.cells #[.pointer (some ⟨mb, 0, none⟩), .int .i64 s.r, .int .i64 s.p, .int .i64 s.u, .int .i64 s.lat, .int .i64 s.lim, .int .u64 now0, .slice ma nl mc, .bool true, .int .u64 s.fin, .int .u64 s.last] 64)).alloc (.cells #[.int .i64 0, .int .u64 now, .slice pa data.length pc, .int .i64 n] 77)).alloc (.cells #[.pointer none, .int .i64 0, .int .i64 0, .int .i64 0, .int .i64 0, .int .i64 0, .int .u64 0, .slice none 0 0, .bool false, .int .u64 0, .int .u64 0] 64) = W ∧ Fr [] w W ∧ W.heap[w.heap.size]? = some (.cells #[.pointer (some ⟨mb, 0, none⟩), .int .i64 s.r, .int .i64 s.p, .int .i64 s.u, .int .i64 s.lat, .int .i64 s.lim, .int .u64 now0, .slice ma nl mc, .bool true, .int .u64 s.fin, .int .u64 s.last] 64 (0, 0)) ∧ W.heap[w.heap.size + 1]? = some (.cells #[.int .i64 0, .int .u64 now, .slice pa data.length pc, .int .i64 n] 77 (0, 0)) ∧ W.heap[w.heap.size + 2]? = some (.cells #[.pointer none, .int .i64 0, .int .i64 0, .int .i64 0, .int .i64 0, .int .i64 0, .int .u64 0, .slice none 0 0, .bool false, .int .u64 0, .int .u64 0] 64 (0, 0)) := ⟨_, rfl, (((Fr.refl _ _).alloc _).alloc _).alloc _, keepA (keepA (newA rfl)), keepA (newA (by simp)), newA (by simp)⟩
  have a0 : w0.cell? ⟨w.heap.size + 1, 0, none⟩ = some (.int .i64 0) := cell_of q1
  have a1 : w0.cell? ⟨w.heap.size + 1, 1, none⟩ = some (.int .u64 now) := cell_of q1
  have a2 : w0.cell? ⟨w.heap.size + 1, 2, none⟩ = some (.slice pa data.length pc) := cell_of q1
  have a3 : w0.cell? ⟨w.heap.size + 1, 3, none⟩ = some (.int .i64 n) := cell_of q1
  have HWR := Lib.hid fun (w : World) => wrong41_ok (c0 := .pointer (some ⟨mb, 0, none⟩)) (c1 := .int .i64 s.r) (c2 := .int .i64 s.p) (c3 := .int .i64 s.u) (c4 := .int .i64 s.lat) (c5 := .int .i64 s.lim) (c6 := .int .u64 now0) (c7 := .slice ma nl mc) (c8 := .bool true) (c9 := .int .u64 s.fin) w hw1 hw2
  clear hby hnl hmc hmx hbk
  go_enter Try.func36, Try.ntmps36
  go_wp2_with (refine wpList_load_row rfl 64 (.tmp 4) rfl _ rfl _ _ _ _ q0 Try.underlying64 rfl (by kernel_rfl) ?_)
  refine (HWR.out _).mono ?_
  rintro e w1 ⟨rfl, f1⟩
  have g1 : Fr [] w w1 := f0.then0 f1
  have Q0 := Lib.hid (f1.keep q0 (by simp))
  have Q1 := Lib.hid (f1.keep q1 (by simp))
  have Q2 := Lib.hid (f1.keep q2 (by simp))
  replace HM := Lib.hid (HM.out.keep (L' := w.heap.size :: (w.heap.size + 1) :: (w.heap.size + 2) :: (L ++ Lm)) g1 (by simp) (fun y hy => by simp at hy; rcases hy with rfl | rfl | rfl | hy | hy; exact .inr (by omega); exact .inr (by omega); exact .inr (by omega); exact .inl (HLM.out y hy); exact .inl hy))
  replace HBY := Lib.hid (HBY.out.keep (L' := w.heap.size :: (w.heap.size + 1) :: (w.heap.size + 2) :: (L ++ Lm)) g1 (by simp) (fun y hy => by simp at hy; rcases hy with rfl | rfl | rfl | hy | hy; exact .inr (by omega); exact .inr (by omega); exact .inr (by omega); exact .inl (HLM.out y hy); exact .inl hy))
  clear a0 a1 a2 a3 HWR hw0 q0 q1 q2 f1 f0
  have hnlx : nl = totS s.segs := by rw [HNL.out.1, flatS_length]
  have hmin : (if s.lim - (nl : Int) < (data.length : Int) then s.lim - (nl : Int) else (data.length : Int)) = (rN : Int) := by rw [hrN, hnlx]; unfold sendN; have := h.ok.lim0; have := h.ok.tot; split <;> omega
  have hrl : rN ≤ data.length ∧ rN + nl ≤ 65536 := by rw [hrN, hnlx]; unfold sendN; have := h.ok.lim0; have := h.ok.lim1; have := h.ok.tot; omega
  have hl0 := h.ok.lim0
  have hl1 := h.ok.lim1
  have HRN := Lib.hid hrN
  clear hnlx hrN
  have zB : w.heap.size + 2 < w1.heap.size := lt_of_heap Q2.out
  have e0 : w1.cell? ⟨w.heap.size + 1, 1, none⟩ = some (.int .u64 now) := cell_of Q1.out
  have a0 : w1.cell? ⟨w.heap.size + 1, 0, none⟩ = some (.int .i64 0) := cell_of Q1.out
  have a2 : w1.cell? ⟨w.heap.size + 1, 2, none⟩ = some (.slice pa data.length pc) := cell_of Q1.out
  have a3 : w1.cell? ⟨w.heap.size + 1, 3, none⟩ = some (.int .i64 n) := cell_of Q1.out
  have HCL := Lib.hid (sh_send (pc := pc) (h.keep0 g1) h0 h1 (sl_keep hd g1 (by simp)) (fun b' o' h_ e => (hdo b' o' h_ e).1) (by omega) hpc)
  rw [hE, hH, hN] at HCL
  clear h hE hH hN hme
  go_wp2_with fail
  refine HCL.out.mono ?_
  rintro e w2 ⟨rfl, f2, L', s2, hl⟩
  replace s2 := Lib.hid s2
  have HLS := Lib.hid hl
  clear HCL a0 a2 a3 e0 hl
  replace Q0 := Lib.hid (f2.keep Q0.out (fun hm => by have h1_ := HOLD.out _ hm; omega))
  replace Q1 := Lib.hid (f2.keep Q1.out (fun hm => by have h1_ := HOLD.out _ hm; omega))
  replace Q2 := Lib.hid (f2.keep Q2.out (fun hm => by have h1_ := HOLD.out _ hm; omega))
  have HLW : Hid (∀ y ∈ L', y ∈ L ∨ w.heap.size ≤ y) := Lib.hid (fun y hy => (HLS.out y hy).imp id (fun h_ => by omega))
  have HM2 := Lib.hid (HM.out.keep (L' := w.heap.size :: (w.heap.size + 1) :: (w.heap.size + 2) :: (L' ++ Lm)) f2 (fun y hy => .inl (by simp [hy])) (fun y hy => by simp at hy; rcases hy with rfl | rfl | rfl | hy | hy; exact .inl (by simp); exact .inl (by simp); exact .inl (by simp); exact (HLS.out y hy).imp (fun h_ => by simp [h_]) id; exact .inl (by simp [hy])))
  replace HBY := Lib.hid (HBY.out.keep (L' := w.heap.size :: (w.heap.size + 1) :: (w.heap.size + 2) :: (L' ++ Lm)) f2 (fun y hy => .inl (by simp [hy])) (fun y hy => by simp at hy; rcases hy with rfl | rfl | rfl | hy | hy; exact .inl (by simp); exact .inl (by simp); exact .inl (by simp); exact (HLS.out y hy).imp (fun h_ => by simp [h_]) id; exact .inl (by simp [hy])))
  have g2 : Fr (mb :: L) w w2 := (g1.mono (T := mb :: L) (by simp)).trans f2 (fun _ h => .inl h) (fun x hx => .inl (by simp [hx]))
  have b1 : w2.cell? ⟨w.heap.size + 1, 1, none⟩ = some (.int .u64 now) := cell_of Q1.out
  have b2 : w2.cell? ⟨w.heap.size + 1, 2, none⟩ = some (.slice pa data.length pc) := cell_of Q1.out
  have m0 : w2.cell? ⟨w.heap.size, 0, none⟩ = some (.pointer (some ⟨mb, 0, none⟩)) := cell_of Q0.out
  have m5 : w2.cell? ⟨w.heap.size, 5, none⟩ = some (.int .i64 s.lim) := cell_of Q0.out
  have m7 : w2.cell? ⟨w.heap.size, 7, none⟩ = some (.slice ma nl mc) := cell_of Q0.out
  have m8 : w2.cell? ⟨w.heap.size, 8, none⟩ = some (.bool true) := cell_of Q0.out
  clear f2 HM g1
  have hdl2 : (data.length : Int) ≤ 100 := by omega
  have hdl3 : (data.length : Int) ≤ 65536 := by omega
  go_wp2_with fail
  have fd : Fr [w.heap.size + 2] w2 w2.drew := (Fr.refl _ _).drew
  have HFA := Lib.hid fun (w' : World) (f : Fr [w.heap.size + 2] w2 w') => (show w'.cell? ⟨w.heap.size, 0, none⟩ = some (.pointer (some ⟨mb, 0, none⟩)) ∧ w'.cell? ⟨w.heap.size, 1, none⟩ = some (.int .i64 s.r) ∧ w'.cell? ⟨w.heap.size, 2, none⟩ = some (.int .i64 s.p) ∧ w'.cell? ⟨w.heap.size, 3, none⟩ = some (.int .i64 s.u) ∧ w'.cell? ⟨w.heap.size, 4, none⟩ = some (.int .i64 s.lat) ∧ w'.cell? ⟨w.heap.size, 5, none⟩ = some (.int .i64 s.lim) ∧ w'.cell? ⟨w.heap.size, 6, none⟩ = some (.int .u64 now0) ∧ w'.cell? ⟨w.heap.size, 7, none⟩ = some (.slice ma nl mc) ∧ w'.cell? ⟨w.heap.size, 8, none⟩ = some (.bool true) ∧ w'.cell? ⟨w.heap.size, 9, none⟩ = some (.int .u64 s.fin) ∧ w'.cell? ⟨w.heap.size, 10, none⟩ = some (.int .u64 s.last) ∧ w'.cell? ⟨w.heap.size + 1, 0, none⟩ = some (.int .i64 0) ∧ w'.cell? ⟨w.heap.size + 1, 1, none⟩ = some (.int .u64 now) ∧ w'.cell? ⟨w.heap.size + 1, 2, none⟩ = some (.slice pa data.length pc) ∧ w'.cell? ⟨w.heap.size + 1, 3, none⟩ = some (.int .i64 n) from (let q' := f.keep Q0.out (by simp); let a' := f.keep Q1.out (by simp); ⟨cell_of q', cell_of q', cell_of q', cell_of q', cell_of q', cell_of q', cell_of q', cell_of q', cell_of q', cell_of q', cell_of q', cell_of a', cell_of a', cell_of a', cell_of a'⟩))
  refine wp_region_order [(0, true), (1, true), (2, true), (3, true), (4, true), (5, true), (6, true), (7, true), (8, true), (9, true), (10, false), (11, true)] (fun w' => Fr [w.heap.size + 2] w2 w') (by kernel_rfl) (by kernel_rfl) fd ?_
  intro OPS HOPS
  have hops := HOPS.out
  try simp only [List.append_eq, List.cons_append, List.nil_append] at hops
  replace HOPS := Lib.hid hops
  clear hops
  refine walkO_take (o := _) (v := ?_) (by rw [HOPS.out]; simp only [List.getElem?_toArray, List.getElem?_cons_succ, List.getElem?_cons_zero]; exact rfl) (Or.inl ⟨rfl, ?_⟩) ?_
  rotate_left
  · (intro w hSw; have hSx := HFA.out _ hSw; (try dsimp only at hSx); clear hSw; go_simp) <;> (with_reducible rfl)
  simp only [Act.put, List.setIfInBounds_toArray, List.set_cons_zero, List.set_cons_succ]
  refine walkO_take (o := _) (v := ?_) (by rw [HOPS.out]; simp only [List.getElem?_toArray, List.getElem?_cons_succ, List.getElem?_cons_zero]; exact rfl) (Or.inl ⟨rfl, ?_⟩) ?_
  rotate_left
  · (intro w hSw; have hSx := HFA.out _ hSw; (try dsimp only at hSx); clear hSw; go_simp) <;> (with_reducible rfl)
  simp only [Act.put, List.setIfInBounds_toArray, List.set_cons_zero, List.set_cons_succ]
  refine walkO_take (o := _) (v := ?_) (by rw [HOPS.out]; simp only [List.getElem?_toArray, List.getElem?_cons_succ, List.getElem?_cons_zero]; exact rfl) (Or.inl ⟨rfl, ?_⟩) ?_
  rotate_left
  · (intro w hSw; have hSx := HFA.out _ hSw; (try dsimp only at hSx); clear hSw; go_simp) <;> (with_reducible rfl)
  simp only [Act.put, List.setIfInBounds_toArray, List.set_cons_zero, List.set_cons_succ]
  refine walkO_take (o := _) (v := ?_) (by rw [HOPS.out]; simp only [List.getElem?_toArray, List.getElem?_cons_succ, List.getElem?_cons_zero]; exact rfl) (Or.inl ⟨rfl, ?_⟩) ?_
  rotate_left
  · (intro w hSw; have hSx := HFA.out _ hSw; (try dsimp only at hSx); clear hSw; go_simp) <;> (with_reducible rfl)
  simp only [Act.put, List.setIfInBounds_toArray, List.set_cons_zero, List.set_cons_succ]
  refine walkO_take (o := _) (v := ?_) (by rw [HOPS.out]; simp only [List.getElem?_toArray, List.getElem?_cons_succ, List.getElem?_cons_zero]; exact rfl) (Or.inl ⟨rfl, ?_⟩) ?_
  rotate_left
  · (intro w hSw; have hSx := HFA.out _ hSw; (try dsimp only at hSx); clear hSw; go_simp) <;> (with_reducible rfl)
  simp only [Act.put, List.setIfInBounds_toArray, List.set_cons_zero, List.set_cons_succ]
  refine walkO_take (o := _) (v := ?_) (by rw [HOPS.out]; simp only [List.getElem?_toArray, List.getElem?_cons_succ, List.getElem?_cons_zero]; exact rfl) (Or.inl ⟨by rw [HOPS.out]; rfl, ?_⟩) ?_
  rotate_left
  · (intro w hSw; have hSx := HFA.out _ hSw; (try dsimp only at hSx); clear hSw; go_simp) <;> (with_reducible rfl)
  simp only [Act.put, List.setIfInBounds_toArray, List.set_cons_zero, List.set_cons_succ]
  refine walkO_take (o := _) (v := ?_) (by rw [HOPS.out]; simp only [List.getElem?_toArray, List.getElem?_cons_succ, List.getElem?_cons_zero]; exact rfl) (Or.inl ⟨by rw [HOPS.out]; rfl, ?_⟩) ?_
  rotate_left
  · (intro w hSw; have hSx := HFA.out _ hSw; (try dsimp only at hSx); clear hSw; go_simp) <;> (with_reducible rfl)
  simp only [Act.put, List.setIfInBounds_toArray, List.set_cons_zero, List.set_cons_succ]
  refine walkO_take (o := _) (v := ?_) (by rw [HOPS.out]; simp only [List.getElem?_toArray, List.getElem?_cons_succ, List.getElem?_cons_zero]; exact rfl) (Or.inl ⟨by rw [HOPS.out]; rfl, ?_⟩) ?_
  rotate_left
  · (intro w hSw; have hSx := HFA.out _ hSw; (try dsimp only at hSx); clear hSw; go_simp) <;> (with_reducible rfl)
  simp only [Act.put, List.setIfInBounds_toArray, List.set_cons_zero, List.set_cons_succ]
  refine walkO_take (o := _) (v := ?_) (by rw [HOPS.out]; simp only [List.getElem?_toArray, List.getElem?_cons_succ, List.getElem?_cons_zero]; exact rfl) (Or.inl ⟨rfl, ?_⟩) ?_
  rotate_left
  · (intro w hSw; have hSx := HFA.out _ hSw; (try dsimp only at hSx); clear hSw; go_simp) <;> (with_reducible rfl)
  simp only [Act.put, List.setIfInBounds_toArray, List.set_cons_zero, List.set_cons_succ]
  refine walkO_take (o := _) (v := ?_) (by rw [HOPS.out]; simp only [List.getElem?_toArray, List.getElem?_cons_succ, List.getElem?_cons_zero]; exact rfl) (Or.inl ⟨rfl, ?_⟩) ?_
  rotate_left
  · (intro w hSw; have hSx := HFA.out _ hSw; (try dsimp only at hSx); clear hSw; go_simp) <;> (with_reducible rfl)
  simp only [Act.put, List.setIfInBounds_toArray, List.set_cons_zero, List.set_cons_succ]
  refine walkO_call (o := _) (by rw [HOPS.out]; simp only [List.getElem?_toArray, List.getElem?_cons_succ, List.getElem?_cons_zero]; exact rfl) (fun K HK => ?_)
  obtain ⟨wE, hwE, qE, fE⟩ := setRow_fr (cs := #[.pointer (some ⟨mb, 0, none⟩), .int .i64 s.r, .int .i64 s.p, .int .i64 s.u, .int .i64 s.lat, .int .i64 s.lim, .int .u64 now0, .slice ma nl mc, .bool true, .int .u64 s.fin, .int .u64 s.last]) (show w2.drew.heap[w.heap.size + 2]? = _ from Q2.out)
  refine step_store_row rfl 64 (.tmp 7) (.tmp 81) rfl (w.heap.size + 2) #[.pointer (some ⟨mb, 0, none⟩), .int .i64 s.r, .int .i64 s.p, .int .i64 s.u, .int .i64 s.lat, .int .i64 s.lim, .int .u64 now0, .slice ma nl mc, .bool true, .int .u64 s.fin, .int .u64 s.last] rfl rfl _ _ (show w2.drew.heap[w.heap.size + 2]? = _ from Q2.out) (by kernel_rfl) rfl (by simp [Value.oneCell']) hwE ?_
  have gE : Fr [w.heap.size + 2] w2 wE := fd.trans fE (fun _ h => .inl h) (fun x hx => .inl hx)
  refine HK.out (fun w' => Fr [w.heap.size + 2] w2 w') _ _ (fun _ h => h) (gE) ?_
  clear HK K
  try simp only [Act.put, List.setIfInBounds_toArray, List.set_cons_zero, List.set_cons_succ]
  refine walkO_take (o := _) (v := ?_) (by rw [HOPS.out]; simp only [List.getElem?_toArray, List.getElem?_cons_succ, List.getElem?_cons_zero]; exact rfl) (Or.inl ⟨rfl, ?_⟩) ?_
  rotate_left
  · (intro w hSw; have hSx := HFA.out _ hSw; (try dsimp only at hSx); clear hSw; go_simp) <;> (with_reducible rfl)
  simp only [Act.put, List.setIfInBounds_toArray, List.set_cons_zero, List.set_cons_succ]
  refine walkO_done ?_
  clear HOPS OPS
  clear HFA
  try simp only [Exit.then]
  go_wp2_with fail
  refine bodyPost_ret (m41_result3 qE (by kernel_rfl) rfl rfl rfl rfl) rfl ?_
  exact ⟨b, k, L', _, rfl, g2.trans gE (fun _ h => .inl h) (fun x hx => .inr (by simp at hx; omega)), s2.out.keep gE (fun y hy hm => by simp at hy; rcases HLS.out _ hm with h_ | h_; have := HOLD.out _ h_; omega; omega), HM2.out.keep gE (fun y hy => .inl (by simp at hy; simp [hy])) (fun y hy => .inl (List.mem_cons_of_mem _ (List.mem_cons_of_mem _ (List.mem_cons_of_mem _ hy)))), HLW.out⟩

set_option maxHeartbeats 16000000 in
theorem step41_s7 {w : World} {L : List Nat} {b k mb : Nat} {s : SH} {v : Value} (h : Shp w L b k s) {Lm : List Nat} (hm : Md w Lm mb s v) (hLm : ∀ y ∈ L, y ∈ Lm) (hLo : ∀ y ∈ Lm, y < w.heap.size) {pa : Option Addr} {pc : Nat} {data : List UInt8} (hd : Sl w pa (bi data)) (hdo : ∀ b' o', 0 < data.length → pa = some ⟨b', o', none⟩ → b' ∉ L ∧ b' ≠ mb) (hdl : data.length ≤ 100) (hpc : data.length ≤ pc) {now n : Int} (h0 : 0 ≤ now) (h1 : now ≤ 18446744073709551615) (hw1 : s.last ≤ now) (hw2 : now < 18446744073709551615) (hc : s.closed = false) (hr0 : sendN s data.length = 0) (hd0 : 0 < data.length) :
    Calls Try.prog 36 #[.pointer (some ⟨b, 0, none⟩), v, .agg #[.int .i64 0, .int .u64 now, .slice pa data.length pc, .int .i64 n]] w (Step41 w L Lm mb (sendH s now data)) := by
  have hme : mayE s now (decide ((data.length : Int) ≤ 65536)) = 0 := by rw [show decide ((data.length : Int) ≤ 65536) = true by simp; omega]; unfold mayE; rw [if_neg (by simp), if_neg (by omega)]
  obtain ⟨rN, hrN⟩ : ∃ r, r = sendN s data.length := ⟨_, rfl⟩
  have hE : sendE s now data.length = 7 := by unfold sendE; rw [if_neg (by rw [hme]; decide), if_neg (by rw [hc]; decide), if_pos ⟨hr0, hd0⟩]
  have hN : sendNE s now data.length = 0 := by unfold sendNE; rw [if_pos (by rw [hE]; decide)]
  have hH : sendH s now data = s := by unfold sendH; rw [if_pos (by rw [hE]; decide)]
  rw [hH]
  obtain ⟨⟨ma, nl, mc, now0, rfl, hby, hnl, hmc, hmx⟩, hbk, hmb⟩ := hm
  have HM := Lib.hid (show Md w Lm mb s (.agg #[.pointer (some ⟨mb, 0, none⟩), .int .i64 s.r, .int .i64 s.p, .int .i64 s.u, .int .i64 s.lat, .int .i64 s.lim, .int .u64 now0, .slice ma nl mc, .bool false, .int .u64 s.fin, .int .u64 s.last]) from ⟨⟨ma, nl, mc, now0, by rw [hc], hby, hnl, hmc, hmx⟩, hbk, hmb⟩)
  have hmbl := lt_of_heap hbk
  have HBK0 := Lib.hid hbk
  have HBY := Lib.hid hby
  have HNL := Lib.hid (And.intro hnl (And.intro hmc hmx))
  have HOLD := Lib.hid h.old
  have HLM := Lib.hid hLm
  have HLO := Lib.hid hLo
  have hmb0 : mb ∉ L := fun hm => hmb (hLm _ hm)
  clear hLm hLo
  have hnl2 : nl ≤ 65536 := by have := h.ok.tot; have := h.ok.lim1; have := flatS_length s.segs; omega
  rw [hc]
  replace hc := Lib.hid hc
  obtain ⟨w0, hw0, f0, q0, q1, q2⟩ : ∃ W, ((w.alloc (.cells #[.pointer (some ⟨mb, 0, none⟩), .int .i64 s.r, .int .i64 s.p, .int .i64 s.u, .int .i64 s.lat, .int .i64 s.lim, .int .u64 now0, .slice ma nl mc, .bool false, .int .u64 s.fin, .int .u64 s.last] 64)).alloc (.cells #[.int .i64 0, .int .u64 now, .slice pa data.length pc, .int .i64 n] 77)).alloc (.cells #[.pointer none, .int .i64 0, .int .i64 0, .int .i64 0, .int .i64 0, .int .i64 0, .int .u64 0, .slice none 0 0, .bool false, .int .u64 0, .int .u64 0] 64) = W ∧ Fr [] w W ∧ W.heap[w.heap.size]? = some (.cells #[.pointer (some ⟨mb, 0, none⟩), .int .i64 s.r, .int .i64 s.p, .int .i64 s.u, .int .i64 s.lat, .int .i64 s.lim, .int .u64 now0, .slice ma nl mc, .bool false, .int .u64 s.fin, .int .u64 s.last] 64 (0, 0)) ∧ W.heap[w.heap.size + 1]? = some (.cells #[.int .i64 0, .int .u64 now, .slice pa data.length pc, .int .i64 n] 77 (0, 0)) ∧ W.heap[w.heap.size + 2]? = some (.cells #[.pointer none, .int .i64 0, .int .i64 0, .int .i64 0, .int .i64 0, .int .i64 0, .int .u64 0, .slice none 0 0, .bool false, .int .u64 0, .int .u64 0] 64 (0, 0)) := ⟨_, rfl, (((Fr.refl _ _).alloc _).alloc _).alloc _, keepA (keepA (newA rfl)), keepA (newA (by simp)), newA (by simp)⟩
  have a0 : w0.cell? ⟨w.heap.size + 1, 0, none⟩ = some (.int .i64 0) := cell_of q1
  have a1 : w0.cell? ⟨w.heap.size + 1, 1, none⟩ = some (.int .u64 now) := cell_of q1
  have a2 : w0.cell? ⟨w.heap.size + 1, 2, none⟩ = some (.slice pa data.length pc) := cell_of q1
  have a3 : w0.cell? ⟨w.heap.size + 1, 3, none⟩ = some (.int .i64 n) := cell_of q1
  have HWR := Lib.hid fun (w : World) => wrong41_ok (c0 := .pointer (some ⟨mb, 0, none⟩)) (c1 := .int .i64 s.r) (c2 := .int .i64 s.p) (c3 := .int .i64 s.u) (c4 := .int .i64 s.lat) (c5 := .int .i64 s.lim) (c6 := .int .u64 now0) (c7 := .slice ma nl mc) (c8 := .bool false) (c9 := .int .u64 s.fin) w hw1 hw2
  clear hby hnl hmc hmx hbk
  go_enter Try.func36, Try.ntmps36
  go_wp2_with (refine wpList_load_row rfl 64 (.tmp 4) rfl _ rfl _ _ _ _ q0 Try.underlying64 rfl (by kernel_rfl) ?_)
  refine (HWR.out _).mono ?_
  rintro e w1 ⟨rfl, f1⟩
  have g1 : Fr [] w w1 := f0.then0 f1
  have Q0 := Lib.hid (f1.keep q0 (by simp))
  have Q1 := Lib.hid (f1.keep q1 (by simp))
  have Q2 := Lib.hid (f1.keep q2 (by simp))
  replace HM := Lib.hid (HM.out.keep (L' := w.heap.size :: (w.heap.size + 1) :: (w.heap.size + 2) :: (L ++ Lm)) g1 (by simp) (fun y hy => by simp at hy; rcases hy with rfl | rfl | rfl | hy | hy; exact .inr (by omega); exact .inr (by omega); exact .inr (by omega); exact .inl (HLM.out y hy); exact .inl hy))
  replace HBY := Lib.hid (HBY.out.keep (L' := w.heap.size :: (w.heap.size + 1) :: (w.heap.size + 2) :: (L ++ Lm)) g1 (by simp) (fun y hy => by simp at hy; rcases hy with rfl | rfl | rfl | hy | hy; exact .inr (by omega); exact .inr (by omega); exact .inr (by omega); exact .inl (HLM.out y hy); exact .inl hy))
  clear a0 a1 a2 a3 HWR hw0 q0 q1 q2 f1 f0
  have hnlx : nl = totS s.segs := by rw [HNL.out.1, flatS_length]
  have hmin : (if s.lim - (nl : Int) < (data.length : Int) then s.lim - (nl : Int) else (data.length : Int)) = (rN : Int) := by rw [hrN, hnlx]; unfold sendN; have := h.ok.lim0; have := h.ok.tot; split <;> omega
  have hrl : rN ≤ data.length ∧ rN + nl ≤ 65536 := by rw [hrN, hnlx]; unfold sendN; have := h.ok.lim0; have := h.ok.lim1; have := h.ok.tot; omega
  have hl0 := h.ok.lim0
  have hl1 := h.ok.lim1
  have HRN := Lib.hid hrN
  clear hnlx hrN
  have zB : w.heap.size + 2 < w1.heap.size := lt_of_heap Q2.out
  have e0 : w1.cell? ⟨w.heap.size + 1, 1, none⟩ = some (.int .u64 now) := cell_of Q1.out
  have a0 : w1.cell? ⟨w.heap.size + 1, 0, none⟩ = some (.int .i64 0) := cell_of Q1.out
  have a2 : w1.cell? ⟨w.heap.size + 1, 2, none⟩ = some (.slice pa data.length pc) := cell_of Q1.out
  have a3 : w1.cell? ⟨w.heap.size + 1, 3, none⟩ = some (.int .i64 n) := cell_of Q1.out
  have HCL := Lib.hid (sh_send (pc := pc) (h.keep0 g1) h0 h1 (sl_keep hd g1 (by simp)) (fun b' o' h_ e => (hdo b' o' h_ e).1) (by omega) hpc)
  rw [hE, hH, hN] at HCL
  clear h hE hH hN hme
  have hrz : rN = 0 := by rw [HRN.out]; exact hr0
  subst hrz
  replace hr0 := Lib.hid hr0
  have hd1 : (0 : Int) < data.length := by omega
  have hd2 : data ≠ [] := by intro e; rw [e] at hd0; simp at hd0
  go_wp2_with fail
  refine HCL.out.mono ?_
  rintro e w2 ⟨rfl, f2, L', s2, hl⟩
  replace s2 := Lib.hid s2
  have HLS := Lib.hid hl
  clear HCL a0 a2 a3 e0 hl
  replace Q0 := Lib.hid (f2.keep Q0.out (fun hm => by have h1_ := HOLD.out _ hm; omega))
  replace Q1 := Lib.hid (f2.keep Q1.out (fun hm => by have h1_ := HOLD.out _ hm; omega))
  replace Q2 := Lib.hid (f2.keep Q2.out (fun hm => by have h1_ := HOLD.out _ hm; omega))
  have HLW : Hid (∀ y ∈ L', y ∈ L ∨ w.heap.size ≤ y) := Lib.hid (fun y hy => (HLS.out y hy).imp id (fun h_ => by omega))
  have HM2 := Lib.hid (HM.out.keep (L' := w.heap.size :: (w.heap.size + 1) :: (w.heap.size + 2) :: (L' ++ Lm)) f2 (fun y hy => .inl (by simp [hy])) (fun y hy => by simp at hy; rcases hy with rfl | rfl | rfl | hy | hy; exact .inl (by simp); exact .inl (by simp); exact .inl (by simp); exact (HLS.out y hy).imp (fun h_ => by simp [h_]) id; exact .inl (by simp [hy])))
  replace HBY := Lib.hid (HBY.out.keep (L' := w.heap.size :: (w.heap.size + 1) :: (w.heap.size + 2) :: (L' ++ Lm)) f2 (fun y hy => .inl (by simp [hy])) (fun y hy => by simp at hy; rcases hy with rfl | rfl | rfl | hy | hy; exact .inl (by simp); exact .inl (by simp); exact .inl (by simp); exact (HLS.out y hy).imp (fun h_ => by simp [h_]) id; exact .inl (by simp [hy])))
  have g2 : Fr (mb :: L) w w2 := (g1.mono (T := mb :: L) (by simp)).trans f2 (fun _ h => .inl h) (fun x hx => .inl (by simp [hx]))
  have b1 : w2.cell? ⟨w.heap.size + 1, 1, none⟩ = some (.int .u64 now) := cell_of Q1.out
  have b2 : w2.cell? ⟨w.heap.size + 1, 2, none⟩ = some (.slice pa data.length pc) := cell_of Q1.out
  have m0 : w2.cell? ⟨w.heap.size, 0, none⟩ = some (.pointer (some ⟨mb, 0, none⟩)) := cell_of Q0.out
  have m5 : w2.cell? ⟨w.heap.size, 5, none⟩ = some (.int .i64 s.lim) := cell_of Q0.out
  have m7 : w2.cell? ⟨w.heap.size, 7, none⟩ = some (.slice ma nl mc) := cell_of Q0.out
  have m8 : w2.cell? ⟨w.heap.size, 8, none⟩ = some (.bool false) := cell_of Q0.out
  clear f2 HM g1
  have hdl2 : (data.length : Int) ≤ 100 := by omega
  have hdl3 : (data.length : Int) ≤ 65536 := by omega
  go_wp2_with fail
  have fd : Fr [w.heap.size + 2] w2 w2.drew := (Fr.refl _ _).drew
  have HFA := Lib.hid fun (w' : World) (f : Fr [w.heap.size + 2] w2 w') => (show w'.cell? ⟨w.heap.size, 0, none⟩ = some (.pointer (some ⟨mb, 0, none⟩)) ∧ w'.cell? ⟨w.heap.size, 1, none⟩ = some (.int .i64 s.r) ∧ w'.cell? ⟨w.heap.size, 2, none⟩ = some (.int .i64 s.p) ∧ w'.cell? ⟨w.heap.size, 3, none⟩ = some (.int .i64 s.u) ∧ w'.cell? ⟨w.heap.size, 4, none⟩ = some (.int .i64 s.lat) ∧ w'.cell? ⟨w.heap.size, 5, none⟩ = some (.int .i64 s.lim) ∧ w'.cell? ⟨w.heap.size, 6, none⟩ = some (.int .u64 now0) ∧ w'.cell? ⟨w.heap.size, 7, none⟩ = some (.slice ma nl mc) ∧ w'.cell? ⟨w.heap.size, 8, none⟩ = some (.bool false) ∧ w'.cell? ⟨w.heap.size, 9, none⟩ = some (.int .u64 s.fin) ∧ w'.cell? ⟨w.heap.size, 10, none⟩ = some (.int .u64 s.last) ∧ w'.cell? ⟨w.heap.size + 1, 0, none⟩ = some (.int .i64 0) ∧ w'.cell? ⟨w.heap.size + 1, 1, none⟩ = some (.int .u64 now) ∧ w'.cell? ⟨w.heap.size + 1, 2, none⟩ = some (.slice pa data.length pc) ∧ w'.cell? ⟨w.heap.size + 1, 3, none⟩ = some (.int .i64 n) from (let q' := f.keep Q0.out (by simp); let a' := f.keep Q1.out (by simp); ⟨cell_of q', cell_of q', cell_of q', cell_of q', cell_of q', cell_of q', cell_of q', cell_of q', cell_of q', cell_of q', cell_of q', cell_of a', cell_of a', cell_of a', cell_of a'⟩))
  refine wp_region_order [(0, true), (1, true), (2, true), (3, true), (4, true), (5, true), (6, true), (7, true), (8, true), (9, true), (10, false), (11, true)] (fun w' => Fr [w.heap.size + 2] w2 w') (by kernel_rfl) (by kernel_rfl) fd ?_
  intro OPS HOPS
  have hops := HOPS.out
  try simp only [List.append_eq, List.cons_append, List.nil_append] at hops
  replace HOPS := Lib.hid hops
  clear hops
  refine walkO_take (o := _) (v := ?_) (by rw [HOPS.out]; simp only [List.getElem?_toArray, List.getElem?_cons_succ, List.getElem?_cons_zero]; exact rfl) (Or.inl ⟨rfl, ?_⟩) ?_
  rotate_left
  · (intro w hSw; have hSx := HFA.out _ hSw; (try dsimp only at hSx); clear hSw; go_simp) <;> (with_reducible rfl)
  simp only [Act.put, List.setIfInBounds_toArray, List.set_cons_zero, List.set_cons_succ]
  refine walkO_take (o := _) (v := ?_) (by rw [HOPS.out]; simp only [List.getElem?_toArray, List.getElem?_cons_succ, List.getElem?_cons_zero]; exact rfl) (Or.inl ⟨rfl, ?_⟩) ?_
  rotate_left
  · (intro w hSw; have hSx := HFA.out _ hSw; (try dsimp only at hSx); clear hSw; go_simp) <;> (with_reducible rfl)
  simp only [Act.put, List.setIfInBounds_toArray, List.set_cons_zero, List.set_cons_succ]
  refine walkO_take (o := _) (v := ?_) (by rw [HOPS.out]; simp only [List.getElem?_toArray, List.getElem?_cons_succ, List.getElem?_cons_zero]; exact rfl) (Or.inl ⟨rfl, ?_⟩) ?_
  rotate_left
  · (intro w hSw; have hSx := HFA.out _ hSw; (try dsimp only at hSx); clear hSw; go_simp) <;> (with_reducible rfl)
  simp only [Act.put, List.setIfInBounds_toArray, List.set_cons_zero, List.set_cons_succ]
  refine walkO_take (o := _) (v := ?_) (by rw [HOPS.out]; simp only [List.getElem?_toArray, List.getElem?_cons_succ, List.getElem?_cons_zero]; exact rfl) (Or.inl ⟨rfl, ?_⟩) ?_
  rotate_left
  · (intro w hSw; have hSx := HFA.out _ hSw; (try dsimp only at hSx); clear hSw; go_simp) <;> (with_reducible rfl)
  simp only [Act.put, List.setIfInBounds_toArray, List.set_cons_zero, List.set_cons_succ]
  refine walkO_take (o := _) (v := ?_) (by rw [HOPS.out]; simp only [List.getElem?_toArray, List.getElem?_cons_succ, List.getElem?_cons_zero]; exact rfl) (Or.inl ⟨rfl, ?_⟩) ?_
  rotate_left
  · (intro w hSw; have hSx := HFA.out _ hSw; (try dsimp only at hSx); clear hSw; go_simp) <;> (with_reducible rfl)
  simp only [Act.put, List.setIfInBounds_toArray, List.set_cons_zero, List.set_cons_succ]
  refine walkO_take (o := _) (v := ?_) (by rw [HOPS.out]; simp only [List.getElem?_toArray, List.getElem?_cons_succ, List.getElem?_cons_zero]; exact rfl) (Or.inl ⟨by rw [HOPS.out]; rfl, ?_⟩) ?_
  rotate_left
  · (intro w hSw; have hSx := HFA.out _ hSw; (try dsimp only at hSx); clear hSw; go_simp) <;> (with_reducible rfl)
  simp only [Act.put, List.setIfInBounds_toArray, List.set_cons_zero, List.set_cons_succ]
  refine walkO_take (o := _) (v := ?_) (by rw [HOPS.out]; simp only [List.getElem?_toArray, List.getElem?_cons_succ, List.getElem?_cons_zero]; exact rfl) (Or.inl ⟨by rw [HOPS.out]; rfl, ?_⟩) ?_
  rotate_left
  · (intro w hSw; have hSx := HFA.out _ hSw; (try dsimp only at hSx); clear hSw; go_simp) <;> (with_reducible rfl)
  simp only [Act.put, List.setIfInBounds_toArray, List.set_cons_zero, List.set_cons_succ]
  refine walkO_take (o := _) (v := ?_) (by rw [HOPS.out]; simp only [List.getElem?_toArray, List.getElem?_cons_succ, List.getElem?_cons_zero]; exact rfl) (Or.inl ⟨by rw [HOPS.out]; rfl, ?_⟩) ?_
  rotate_left
  · (intro w hSw; have hSx := HFA.out _ hSw; (try dsimp only at hSx); clear hSw; go_simp) <;> (with_reducible rfl)
  simp only [Act.put, List.setIfInBounds_toArray, List.set_cons_zero, List.set_cons_succ]
  refine walkO_take (o := _) (v := ?_) (by rw [HOPS.out]; simp only [List.getElem?_toArray, List.getElem?_cons_succ, List.getElem?_cons_zero]; exact rfl) (Or.inl ⟨rfl, ?_⟩) ?_
  rotate_left
  · (intro w hSw; have hSx := HFA.out _ hSw; (try dsimp only at hSx); clear hSw; go_simp) <;> (with_reducible rfl)
  simp only [Act.put, List.setIfInBounds_toArray, List.set_cons_zero, List.set_cons_succ]
  refine walkO_take (o := _) (v := ?_) (by rw [HOPS.out]; simp only [List.getElem?_toArray, List.getElem?_cons_succ, List.getElem?_cons_zero]; exact rfl) (Or.inl ⟨rfl, ?_⟩) ?_
  rotate_left
  · (intro w hSw; have hSx := HFA.out _ hSw; (try dsimp only at hSx); clear hSw; go_simp) <;> (with_reducible rfl)
  simp only [Act.put, List.setIfInBounds_toArray, List.set_cons_zero, List.set_cons_succ]
  refine walkO_call (o := _) (by rw [HOPS.out]; simp only [List.getElem?_toArray, List.getElem?_cons_succ, List.getElem?_cons_zero]; exact rfl) (fun K HK => ?_)
  obtain ⟨wE, hwE, qE, fE⟩ := setRow_fr (cs := #[.pointer (some ⟨mb, 0, none⟩), .int .i64 s.r, .int .i64 s.p, .int .i64 s.u, .int .i64 s.lat, .int .i64 s.lim, .int .u64 now0, .slice ma nl mc, .bool false, .int .u64 s.fin, .int .u64 s.last]) (show w2.drew.heap[w.heap.size + 2]? = _ from Q2.out)
  refine step_store_row rfl 64 (.tmp 7) (.tmp 81) rfl (w.heap.size + 2) #[.pointer (some ⟨mb, 0, none⟩), .int .i64 s.r, .int .i64 s.p, .int .i64 s.u, .int .i64 s.lat, .int .i64 s.lim, .int .u64 now0, .slice ma nl mc, .bool false, .int .u64 s.fin, .int .u64 s.last] rfl rfl _ _ (show w2.drew.heap[w.heap.size + 2]? = _ from Q2.out) (by kernel_rfl) rfl (by simp [Value.oneCell']) hwE ?_
  have gE : Fr [w.heap.size + 2] w2 wE := fd.trans fE (fun _ h => .inl h) (fun x hx => .inl hx)
  refine HK.out (fun w' => Fr [w.heap.size + 2] w2 w') _ _ (fun _ h => h) (gE) ?_
  clear HK K
  try simp only [Act.put, List.setIfInBounds_toArray, List.set_cons_zero, List.set_cons_succ]
  refine walkO_take (o := _) (v := ?_) (by rw [HOPS.out]; simp only [List.getElem?_toArray, List.getElem?_cons_succ, List.getElem?_cons_zero]; exact rfl) (Or.inl ⟨rfl, ?_⟩) ?_
  rotate_left
  · (intro w hSw; have hSx := HFA.out _ hSw; (try dsimp only at hSx); clear hSw; go_simp) <;> (with_reducible rfl)
  simp only [Act.put, List.setIfInBounds_toArray, List.set_cons_zero, List.set_cons_succ]
  refine walkO_done ?_
  clear HOPS OPS
  clear HFA
  try simp only [Exit.then]
  go_wp2_with fail
  refine bodyPost_ret (m41_result3 qE (by kernel_rfl) rfl rfl rfl rfl) rfl ?_
  exact ⟨b, k, L', _, rfl, g2.trans gE (fun _ h => .inl h) (fun x hx => .inr (by simp at hx; omega)), s2.out.keep gE (fun y hy hm => by simp at hy; rcases HLS.out _ hm with h_ | h_; have := HOLD.out _ h_; omega; omega), HM2.out.keep gE (fun y hy => .inl (by simp at hy; simp [hy])) (fun y hy => .inl (List.mem_cons_of_mem _ (List.mem_cons_of_mem _ (List.mem_cons_of_mem _ hy)))), HLW.out⟩

set_option maxHeartbeats 16000000 in
theorem step41_s0 {w : World} {L : List Nat} {b k mb : Nat} {s : SH} {v : Value} (h : Shp w L b k s) {Lm : List Nat} (hm : Md w Lm mb s v) (hLm : ∀ y ∈ L, y ∈ Lm) (hLo : ∀ y ∈ Lm, y < w.heap.size) {pa : Option Addr} {pc : Nat} {data : List UInt8} (hd : Sl w pa (bi data)) (hdo : ∀ b' o', 0 < data.length → pa = some ⟨b', o', none⟩ → b' ∉ L ∧ b' ≠ mb) (hdl : data.length ≤ 100) (hpc : data.length ≤ pc) {now n : Int} (h0 : 0 ≤ now) (h1 : now ≤ 18446744073709551615) (hw1 : s.last ≤ now) (hw2 : now < 18446744073709551615) (hc : s.closed = false) (hd0 : data.length = 0) :
    Calls Try.prog 36 #[.pointer (some ⟨b, 0, none⟩), v, .agg #[.int .i64 0, .int .u64 now, .slice pa data.length pc, .int .i64 n]] w (Step41 w L Lm mb (sendH s now data)) := by
  have hme : mayE s now (decide ((data.length : Int) ≤ 65536)) = 0 := by rw [show decide ((data.length : Int) ≤ 65536) = true by simp; omega]; unfold mayE; rw [if_neg (by simp), if_neg (by omega)]
  obtain ⟨rN, hrN⟩ : ∃ r, r = sendN s data.length := ⟨_, rfl⟩
  have hr0 : sendN s data.length = 0 := by unfold sendN; omega
  have hE : sendE s now data.length = 0 := by unfold sendE; rw [if_neg (by rw [hme]; decide), if_neg (by rw [hc]; decide), if_neg (by omega), if_neg (by omega)]
  have hN : sendNE s now data.length = 0 := by unfold sendNE; rw [if_neg (by rw [hE]; decide), hr0]; rfl
  have hH : sendH s now data = { s with last := now } := by unfold sendH; rw [if_neg (by rw [hE]; decide), if_pos hr0]
  rw [hH]
  obtain ⟨S2, hS2⟩ : ∃ S, S = ({ s with last := now } : SH) := ⟨_, rfl⟩
  rw [← hS2]
  have HS2 := Lib.hid hS2
  clear hS2
  have HD0 := Lib.hid hd0
  clear hd0
  obtain ⟨⟨ma, nl, mc, now0, rfl, hby, hnl, hmc, hmx⟩, hbk, hmb⟩ := hm
  have HM := Lib.hid (show Md w Lm mb s (.agg #[.pointer (some ⟨mb, 0, none⟩), .int .i64 s.r, .int .i64 s.p, .int .i64 s.u, .int .i64 s.lat, .int .i64 s.lim, .int .u64 now0, .slice ma nl mc, .bool false, .int .u64 s.fin, .int .u64 s.last]) from ⟨⟨ma, nl, mc, now0, by rw [hc], hby, hnl, hmc, hmx⟩, hbk, hmb⟩)
  have hmbl := lt_of_heap hbk
  have HBK0 := Lib.hid hbk
  have HBY := Lib.hid hby
  have HNL := Lib.hid (And.intro hnl (And.intro hmc hmx))
  have HOLD := Lib.hid h.old
  have HLM := Lib.hid hLm
  have HLO := Lib.hid hLo
  have hmb0 : mb ∉ L := fun hm => hmb (hLm _ hm)
  clear hLm hLo
  have hnl2 : nl ≤ 65536 := by have := h.ok.tot; have := h.ok.lim1; have := flatS_length s.segs; omega
  rw [hc]
  replace hc := Lib.hid hc
  obtain ⟨w0, hw0, f0, q0, q1, q2⟩ : ∃ W, ((w.alloc (.cells #[.pointer (some ⟨mb, 0, none⟩), .int .i64 s.r, .int .i64 s.p, .int .i64 s.u, .int .i64 s.lat, .int .i64 s.lim, .int .u64 now0, .slice ma nl mc, .bool false, .int .u64 s.fin, .int .u64 s.last] 64)).alloc (.cells #[.int .i64 0, .int .u64 now, .slice pa data.length pc, .int .i64 n] 77)).alloc (.cells #[.pointer none, .int .i64 0, .int .i64 0, .int .i64 0, .int .i64 0, .int .i64 0, .int .u64 0, .slice none 0 0, .bool false, .int .u64 0, .int .u64 0] 64) = W ∧ Fr [] w W ∧ W.heap[w.heap.size]? = some (.cells #[.pointer (some ⟨mb, 0, none⟩), .int .i64 s.r, .int .i64 s.p, .int .i64 s.u, .int .i64 s.lat, .int .i64 s.lim, .int .u64 now0, .slice ma nl mc, .bool false, .int .u64 s.fin, .int .u64 s.last] 64 (0, 0)) ∧ W.heap[w.heap.size + 1]? = some (.cells #[.int .i64 0, .int .u64 now, .slice pa data.length pc, .int .i64 n] 77 (0, 0)) ∧ W.heap[w.heap.size + 2]? = some (.cells #[.pointer none, .int .i64 0, .int .i64 0, .int .i64 0, .int .i64 0, .int .i64 0, .int .u64 0, .slice none 0 0, .bool false, .int .u64 0, .int .u64 0] 64 (0, 0)) := ⟨_, rfl, (((Fr.refl _ _).alloc _).alloc _).alloc _, keepA (keepA (newA rfl)), keepA (newA (by simp)), newA (by simp)⟩
  have a0 : w0.cell? ⟨w.heap.size + 1, 0, none⟩ = some (.int .i64 0) := cell_of q1
  have a1 : w0.cell? ⟨w.heap.size + 1, 1, none⟩ = some (.int .u64 now) := cell_of q1
  have a2 : w0.cell? ⟨w.heap.size + 1, 2, none⟩ = some (.slice pa data.length pc) := cell_of q1
  have a3 : w0.cell? ⟨w.heap.size + 1, 3, none⟩ = some (.int .i64 n) := cell_of q1
  have HWR := Lib.hid fun (w : World) => wrong41_ok (c0 := .pointer (some ⟨mb, 0, none⟩)) (c1 := .int .i64 s.r) (c2 := .int .i64 s.p) (c3 := .int .i64 s.u) (c4 := .int .i64 s.lat) (c5 := .int .i64 s.lim) (c6 := .int .u64 now0) (c7 := .slice ma nl mc) (c8 := .bool false) (c9 := .int .u64 s.fin) w hw1 hw2
  clear hby hnl hmc hmx hbk
  go_enter Try.func36, Try.ntmps36
  go_wp2_with (refine wpList_load_row rfl 64 (.tmp 4) rfl _ rfl _ _ _ _ q0 Try.underlying64 rfl (by kernel_rfl) ?_)
  refine (HWR.out _).mono ?_
  rintro e w1 ⟨rfl, f1⟩
  have g1 : Fr [] w w1 := f0.then0 f1
  have Q0 := Lib.hid (f1.keep q0 (by simp))
  have Q1 := Lib.hid (f1.keep q1 (by simp))
  have Q2 := Lib.hid (f1.keep q2 (by simp))
  replace HM := Lib.hid (HM.out.keep (L' := w.heap.size :: (w.heap.size + 1) :: (w.heap.size + 2) :: (L ++ Lm)) g1 (by simp) (fun y hy => by simp at hy; rcases hy with rfl | rfl | rfl | hy | hy; exact .inr (by omega); exact .inr (by omega); exact .inr (by omega); exact .inl (HLM.out y hy); exact .inl hy))
  replace HBY := Lib.hid (HBY.out.keep (L' := w.heap.size :: (w.heap.size + 1) :: (w.heap.size + 2) :: (L ++ Lm)) g1 (by simp) (fun y hy => by simp at hy; rcases hy with rfl | rfl | rfl | hy | hy; exact .inr (by omega); exact .inr (by omega); exact .inr (by omega); exact .inl (HLM.out y hy); exact .inl hy))
  clear a0 a1 a2 a3 HWR hw0 q0 q1 q2 f1 f0
  have hnlx : nl = totS s.segs := by rw [HNL.out.1, flatS_length]
  have hmin : (if s.lim - (nl : Int) < (data.length : Int) then s.lim - (nl : Int) else (data.length : Int)) = (rN : Int) := by rw [hrN, hnlx]; unfold sendN; have := h.ok.lim0; have := h.ok.tot; split <;> omega
  have hrl : rN ≤ data.length ∧ rN + nl ≤ 65536 := by rw [hrN, hnlx]; unfold sendN; have := h.ok.lim0; have := h.ok.lim1; have := h.ok.tot; omega
  have hl0 := h.ok.lim0
  have hl1 := h.ok.lim1
  have HRN := Lib.hid hrN
  clear hnlx hrN
  have zB : w.heap.size + 2 < w1.heap.size := lt_of_heap Q2.out
  have e0 : w1.cell? ⟨w.heap.size + 1, 1, none⟩ = some (.int .u64 now) := cell_of Q1.out
  have a0 : w1.cell? ⟨w.heap.size + 1, 0, none⟩ = some (.int .i64 0) := cell_of Q1.out
  have a2 : w1.cell? ⟨w.heap.size + 1, 2, none⟩ = some (.slice pa data.length pc) := cell_of Q1.out
  have a3 : w1.cell? ⟨w.heap.size + 1, 3, none⟩ = some (.int .i64 n) := cell_of Q1.out
  have HCL := Lib.hid (sh_send (pc := pc) (h.keep0 g1) h0 h1 (sl_keep hd g1 (by simp)) (fun b' o' h_ e => (hdo b' o' h_ e).1) (by omega) hpc)
  rw [hE, hH, hN] at HCL
  clear h hE hH hN hme
  have hrz : rN = 0 := by rw [HRN.out]; exact hr0
  have hmin0 : (if s.lim - (nl : Int) < (data.length : Int) then s.lim - (nl : Int) else (data.length : Int)) = (0 : Int) := by rw [hmin, hrz]; rfl
  clear hmin
  replace hrz := Lib.hid hrz
  replace hr0 := Lib.hid hr0
  have hdx : ((data.length : Int) == 0) = true := by simp; exact List.eq_nil_of_length_eq_zero HD0.out
  have hdy : ((0 : Int) == (data.length : Int)) = true := by rw [HD0.out]; rfl
  have hdz : ¬ (0 : Int) < data.length := by have := HD0.out; omega
  go_wp2_with fail
  refine HCL.out.mono ?_
  rintro e w2 ⟨rfl, f2, L', s2, hl⟩
  replace s2 := Lib.hid s2
  have HLS := Lib.hid hl
  clear HCL a0 a2 a3 e0 hl
  replace Q0 := Lib.hid (f2.keep Q0.out (fun hm => by have h1_ := HOLD.out _ hm; omega))
  replace Q1 := Lib.hid (f2.keep Q1.out (fun hm => by have h1_ := HOLD.out _ hm; omega))
  replace Q2 := Lib.hid (f2.keep Q2.out (fun hm => by have h1_ := HOLD.out _ hm; omega))
  have HLW : Hid (∀ y ∈ L', y ∈ L ∨ w.heap.size ≤ y) := Lib.hid (fun y hy => (HLS.out y hy).imp id (fun h_ => by omega))
  have HM2 := Lib.hid (HM.out.keep (L' := w.heap.size :: (w.heap.size + 1) :: (w.heap.size + 2) :: (L' ++ Lm)) f2 (fun y hy => .inl (by simp [hy])) (fun y hy => by simp at hy; rcases hy with rfl | rfl | rfl | hy | hy; exact .inl (by simp); exact .inl (by simp); exact .inl (by simp); exact (HLS.out y hy).imp (fun h_ => by simp [h_]) id; exact .inl (by simp [hy])))
  replace HBY := Lib.hid (HBY.out.keep (L' := w.heap.size :: (w.heap.size + 1) :: (w.heap.size + 2) :: (L' ++ Lm)) f2 (fun y hy => .inl (by simp [hy])) (fun y hy => by simp at hy; rcases hy with rfl | rfl | rfl | hy | hy; exact .inl (by simp); exact .inl (by simp); exact .inl (by simp); exact (HLS.out y hy).imp (fun h_ => by simp [h_]) id; exact .inl (by simp [hy])))
  have g2 : Fr (mb :: L) w w2 := (g1.mono (T := mb :: L) (by simp)).trans f2 (fun _ h => .inl h) (fun x hx => .inl (by simp [hx]))
  have b1 : w2.cell? ⟨w.heap.size + 1, 1, none⟩ = some (.int .u64 now) := cell_of Q1.out
  have b2 : w2.cell? ⟨w.heap.size + 1, 2, none⟩ = some (.slice pa data.length pc) := cell_of Q1.out
  have m0 : w2.cell? ⟨w.heap.size, 0, none⟩ = some (.pointer (some ⟨mb, 0, none⟩)) := cell_of Q0.out
  have m5 : w2.cell? ⟨w.heap.size, 5, none⟩ = some (.int .i64 s.lim) := cell_of Q0.out
  have m7 : w2.cell? ⟨w.heap.size, 7, none⟩ = some (.slice ma nl mc) := cell_of Q0.out
  have m8 : w2.cell? ⟨w.heap.size, 8, none⟩ = some (.bool false) := cell_of Q0.out
  have m10 : w2.cell? ⟨w.heap.size, 10, none⟩ = some (.int .u64 s.last) := cell_of Q0.out
  have mf : w2.frozen? ⟨w.heap.size, 10, none⟩ = false := free_of Q0.out
  obtain ⟨wA, hwA, qA, fA⟩ : ∃ W, w2.setCell ⟨w.heap.size, 10, none⟩ (.int .u64 now) = W ∧ W.heap[w.heap.size]? = some (.cells #[.pointer (some ⟨mb, 0, none⟩), .int .i64 s.r, .int .i64 s.p, .int .i64 s.u, .int .i64 s.lat, .int .i64 s.lim, .int .u64 now0, .slice ma nl mc, .bool false, .int .u64 s.fin, .int .u64 now] 64 (0, 0)) ∧ Fr [w.heap.size] w2 W := ⟨_, rfl, (by have q_ := heap_setCell_eq (i := 10) (u := .int .u64 now) Q0.out; simpa using q_), (Fr.refl [w.heap.size] w2).setCell (.inl (by simp)) _⟩
  have HX := Lib.hid (show Fr (mb :: L) w wA ∧ Shp wA L' b k S2 ∧ Md wA (w.heap.size :: (w.heap.size + 1) :: (w.heap.size + 2) :: (L' ++ Lm)) mb S2 (.agg #[.pointer (some ⟨mb, 0, none⟩), .int .i64 s.r, .int .i64 s.p, .int .i64 s.u, .int .i64 s.lat, .int .i64 s.lim, .int .u64 now0, .slice ma nl mc, .bool false, .int .u64 s.fin, .int .u64 now]) from by rw [HS2.out]; exact ⟨g2.trans fA (fun _ h => .inl h) (fun x hx => .inr (by simp at hx; omega)), s2.out.keep fA (fun y hy hm => by simp at hy; rcases HLS.out _ hm with h_ | h_; have := HOLD.out _ h_; omega; omega), ⟨⟨ma, nl, mc, now0, by dsimp only; rw [hc.out], HBY.out.keep fA (fun y hy => .inl (by simp at hy; simp [hy])) (fun y hy => .inl hy), HNL.out.1, HNL.out.2.1, HNL.out.2.2⟩, fA.keep HM2.out.bk (by simp; omega), HM2.out.mb⟩⟩)
  clear f2 HM g1 HM2 HBY s2
  have hdl2 : (data.length : Int) ≤ 100 := by omega
  have hdl3 : (data.length : Int) ≤ 65536 := by omega
  go_wp2_with fail
  replace Q0 := Lib.hid qA
  replace Q1 := Lib.hid (fA.keep Q1.out (by simp))
  replace Q2 := Lib.hid (fA.keep Q2.out (by simp))
  clear hwA qA fA m10 mf m0 m5 m7 m8 b1 b2
  have fd : Fr [w.heap.size + 2] wA wA.drew := (Fr.refl _ _).drew
  have HFA := Lib.hid fun (w' : World) (f : Fr [w.heap.size + 2] wA w') => (show w'.cell? ⟨w.heap.size, 0, none⟩ = some (.pointer (some ⟨mb, 0, none⟩)) ∧ w'.cell? ⟨w.heap.size, 1, none⟩ = some (.int .i64 s.r) ∧ w'.cell? ⟨w.heap.size, 2, none⟩ = some (.int .i64 s.p) ∧ w'.cell? ⟨w.heap.size, 3, none⟩ = some (.int .i64 s.u) ∧ w'.cell? ⟨w.heap.size, 4, none⟩ = some (.int .i64 s.lat) ∧ w'.cell? ⟨w.heap.size, 5, none⟩ = some (.int .i64 s.lim) ∧ w'.cell? ⟨w.heap.size, 6, none⟩ = some (.int .u64 now0) ∧ w'.cell? ⟨w.heap.size, 7, none⟩ = some (.slice ma nl mc) ∧ w'.cell? ⟨w.heap.size, 8, none⟩ = some (.bool false) ∧ w'.cell? ⟨w.heap.size, 9, none⟩ = some (.int .u64 s.fin) ∧ w'.cell? ⟨w.heap.size, 10, none⟩ = some (.int .u64 now) ∧ w'.cell? ⟨w.heap.size + 1, 0, none⟩ = some (.int .i64 0) ∧ w'.cell? ⟨w.heap.size + 1, 1, none⟩ = some (.int .u64 now) ∧ w'.cell? ⟨w.heap.size + 1, 2, none⟩ = some (.slice pa data.length pc) ∧ w'.cell? ⟨w.heap.size + 1, 3, none⟩ = some (.int .i64 n) from (let q' := f.keep Q0.out (by simp); let a' := f.keep Q1.out (by simp); ⟨cell_of q', cell_of q', cell_of q', cell_of q', cell_of q', cell_of q', cell_of q', cell_of q', cell_of q', cell_of q', cell_of q', cell_of a', cell_of a', cell_of a', cell_of a'⟩))
  refine wp_region_order [(0, true), (1, true), (2, true), (3, true), (4, true), (5, true), (6, true), (7, true), (8, true), (9, true), (10, false), (11, true)] (fun w' => Fr [w.heap.size + 2] wA w') (by kernel_rfl) (by kernel_rfl) fd ?_
  intro OPS HOPS
  have hops := HOPS.out
  try simp only [List.append_eq, List.cons_append, List.nil_append] at hops
  replace HOPS := Lib.hid hops
  clear hops
  refine walkO_take (o := _) (v := ?_) (by rw [HOPS.out]; simp only [List.getElem?_toArray, List.getElem?_cons_succ, List.getElem?_cons_zero]; exact rfl) (Or.inl ⟨rfl, ?_⟩) ?_
  rotate_left
  · (intro w hSw; have hSx := HFA.out _ hSw; (try dsimp only at hSx); clear hSw; go_simp) <;> (with_reducible rfl)
  simp only [Act.put, List.setIfInBounds_toArray, List.set_cons_zero, List.set_cons_succ]
  refine walkO_take (o := _) (v := ?_) (by rw [HOPS.out]; simp only [List.getElem?_toArray, List.getElem?_cons_succ, List.getElem?_cons_zero]; exact rfl) (Or.inl ⟨rfl, ?_⟩) ?_
  rotate_left
  · (intro w hSw; have hSx := HFA.out _ hSw; (try dsimp only at hSx); clear hSw; go_simp) <;> (with_reducible rfl)
  simp only [Act.put, List.setIfInBounds_toArray, List.set_cons_zero, List.set_cons_succ]
  refine walkO_take (o := _) (v := ?_) (by rw [HOPS.out]; simp only [List.getElem?_toArray, List.getElem?_cons_succ, List.getElem?_cons_zero]; exact rfl) (Or.inl ⟨rfl, ?_⟩) ?_
  rotate_left
  · (intro w hSw; have hSx := HFA.out _ hSw; (try dsimp only at hSx); clear hSw; go_simp) <;> (with_reducible rfl)
  simp only [Act.put, List.setIfInBounds_toArray, List.set_cons_zero, List.set_cons_succ]
  refine walkO_take (o := _) (v := ?_) (by rw [HOPS.out]; simp only [List.getElem?_toArray, List.getElem?_cons_succ, List.getElem?_cons_zero]; exact rfl) (Or.inl ⟨rfl, ?_⟩) ?_
  rotate_left
  · (intro w hSw; have hSx := HFA.out _ hSw; (try dsimp only at hSx); clear hSw; go_simp) <;> (with_reducible rfl)
  simp only [Act.put, List.setIfInBounds_toArray, List.set_cons_zero, List.set_cons_succ]
  refine walkO_take (o := _) (v := ?_) (by rw [HOPS.out]; simp only [List.getElem?_toArray, List.getElem?_cons_succ, List.getElem?_cons_zero]; exact rfl) (Or.inl ⟨rfl, ?_⟩) ?_
  rotate_left
  · (intro w hSw; have hSx := HFA.out _ hSw; (try dsimp only at hSx); clear hSw; go_simp) <;> (with_reducible rfl)
  simp only [Act.put, List.setIfInBounds_toArray, List.set_cons_zero, List.set_cons_succ]
  refine walkO_take (o := _) (v := ?_) (by rw [HOPS.out]; simp only [List.getElem?_toArray, List.getElem?_cons_succ, List.getElem?_cons_zero]; exact rfl) (Or.inl ⟨rfl, ?_⟩) ?_
  rotate_left
  · (intro w hSw; have hSx := HFA.out _ hSw; (try dsimp only at hSx); clear hSw; go_simp) <;> (with_reducible rfl)
  simp only [Act.put, List.setIfInBounds_toArray, List.set_cons_zero, List.set_cons_succ]
  refine walkO_take (o := _) (v := ?_) (by rw [HOPS.out]; simp only [List.getElem?_toArray, List.getElem?_cons_succ, List.getElem?_cons_zero]; exact rfl) (Or.inl ⟨by rw [HOPS.out]; rfl, ?_⟩) ?_
  rotate_left
  · (intro w hSw; have hSx := HFA.out _ hSw; (try dsimp only at hSx); clear hSw; go_simp) <;> (with_reducible rfl)
  simp only [Act.put, List.setIfInBounds_toArray, List.set_cons_zero, List.set_cons_succ]
  refine walkO_take (o := _) (v := ?_) (by rw [HOPS.out]; simp only [List.getElem?_toArray, List.getElem?_cons_succ, List.getElem?_cons_zero]; exact rfl) (Or.inl ⟨by rw [HOPS.out]; rfl, ?_⟩) ?_
  rotate_left
  · (intro w hSw; have hSx := HFA.out _ hSw; (try dsimp only at hSx); clear hSw; go_simp) <;> (with_reducible rfl)
  simp only [Act.put, List.setIfInBounds_toArray, List.set_cons_zero, List.set_cons_succ]
  refine walkO_take (o := _) (v := ?_) (by rw [HOPS.out]; simp only [List.getElem?_toArray, List.getElem?_cons_succ, List.getElem?_cons_zero]; exact rfl) (Or.inl ⟨rfl, ?_⟩) ?_
  rotate_left
  · (intro w hSw; have hSx := HFA.out _ hSw; (try dsimp only at hSx); clear hSw; go_simp) <;> (with_reducible rfl)
  simp only [Act.put, List.setIfInBounds_toArray, List.set_cons_zero, List.set_cons_succ]
  refine walkO_take (o := _) (v := ?_) (by rw [HOPS.out]; simp only [List.getElem?_toArray, List.getElem?_cons_succ, List.getElem?_cons_zero]; exact rfl) (Or.inl ⟨rfl, ?_⟩) ?_
  rotate_left
  · (intro w hSw; have hSx := HFA.out _ hSw; (try dsimp only at hSx); clear hSw; go_simp) <;> (with_reducible rfl)
  simp only [Act.put, List.setIfInBounds_toArray, List.set_cons_zero, List.set_cons_succ]
  refine walkO_call (o := _) (by rw [HOPS.out]; simp only [List.getElem?_toArray, List.getElem?_cons_succ, List.getElem?_cons_zero]; exact rfl) (fun K HK => ?_)
  obtain ⟨wE, hwE, qE, fE⟩ := setRow_fr (cs := #[.pointer (some ⟨mb, 0, none⟩), .int .i64 s.r, .int .i64 s.p, .int .i64 s.u, .int .i64 s.lat, .int .i64 s.lim, .int .u64 now0, .slice ma nl mc, .bool false, .int .u64 s.fin, .int .u64 now]) (show wA.drew.heap[w.heap.size + 2]? = _ from Q2.out)
  refine step_store_row rfl 64 (.tmp 7) (.tmp 139) rfl (w.heap.size + 2) #[.pointer (some ⟨mb, 0, none⟩), .int .i64 s.r, .int .i64 s.p, .int .i64 s.u, .int .i64 s.lat, .int .i64 s.lim, .int .u64 now0, .slice ma nl mc, .bool false, .int .u64 s.fin, .int .u64 now] rfl rfl _ _ (show wA.drew.heap[w.heap.size + 2]? = _ from Q2.out) (by kernel_rfl) rfl (by simp [Value.oneCell']) hwE ?_
  have gE : Fr [w.heap.size + 2] wA wE := fd.trans fE (fun _ h => .inl h) (fun x hx => .inl hx)
  refine HK.out (fun w' => Fr [w.heap.size + 2] wA w') _ _ (fun _ h => h) (gE) ?_
  clear HK K
  try simp only [Act.put, List.setIfInBounds_toArray, List.set_cons_zero, List.set_cons_succ]
  refine walkO_take (o := _) (v := ?_) (by rw [HOPS.out]; simp only [List.getElem?_toArray, List.getElem?_cons_succ, List.getElem?_cons_zero]; exact rfl) (Or.inl ⟨rfl, ?_⟩) ?_
  rotate_left
  · (intro w hSw; have hSx := HFA.out _ hSw; (try dsimp only at hSx); clear hSw; go_simp) <;> (with_reducible rfl)
  simp only [Act.put, List.setIfInBounds_toArray, List.set_cons_zero, List.set_cons_succ]
  refine walkO_done ?_
  clear HOPS OPS
  clear HFA
  try simp only [Exit.then]
  go_wp2_with fail
  refine bodyPost_ret (m41_result3 qE (by kernel_rfl) rfl rfl rfl rfl) rfl ?_
  obtain ⟨x1, x2, x3⟩ := HX.out
  exact ⟨b, k, L', _, rfl, x1.trans gE (fun _ h => .inl h) (fun x hx => .inr (by simp at hx; omega)), x2.keep gE (fun y hy hm => by simp at hy; rcases HLS.out _ hm with h_ | h_; have := HOLD.out _ h_; omega; omega), x3.keep gE (fun y hy => .inl (by simp at hy; simp [hy])) (fun y hy => .inl (List.mem_cons_of_mem _ (List.mem_cons_of_mem _ (List.mem_cons_of_mem _ hy)))), HLW.out⟩
end Go.Proofs.Ytdndabklcenndaa
