/-
  Law 41: step: Send, taken.
-/
import Derived.Test.YtdndabklcenndaaShStepB
import Derived.Test.YtdndabklcenndaaShStepS
namespace Go.Proofs.Ytdndabklcenndaa
open Go.RowKit
set_option maxRecDepth 100000

set_option maxHeartbeats 16000000 in
theorem step41_s7b {w : World} {L : List Nat} {b k mb : Nat} {s : SH} {v : Value} (h : Shp w L b k s) {Lm : List Nat} (hm : Md w Lm mb s v) (hLm : ∀ y ∈ L, y ∈ Lm) (hLo : ∀ y ∈ Lm, y < w.heap.size) {pa : Option Addr} {pc : Nat} {data : List UInt8} (hd : Sl w pa (bi data)) (hdo : ∀ b' o', 0 < data.length → pa = some ⟨b', o', none⟩ → b' ∉ L ∧ b' ≠ mb) (hdl : data.length ≤ 100) (hpc : data.length ≤ pc) {now n : Int} (h0 : 0 ≤ now) (h1 : now ≤ 18446744073709551615) (hw1 : s.last ≤ now) (hw2 : now < 18446744073709551615) (hc : s.closed = false) (hr0 : 0 < sendN s data.length) (hv : roomH s now (sendN s data.length) = false) :
    Calls Try.prog 36 #[.pointer (some ⟨b, 0, none⟩), v, .agg #[.int .i64 0, .int .u64 now, .slice pa data.length pc, .int .i64 n]] w (Step41 w L Lm mb (sendH s now data)) := by
  have hme : mayE s now (decide ((data.length : Int) ≤ 65536)) = 0 := by rw [show decide ((data.length : Int) ≤ 65536) = true by simp; omega]; unfold mayE; rw [if_neg (by simp), if_neg (by omega)]
  obtain ⟨rN, hrN⟩ : ∃ r, r = sendN s data.length := ⟨_, rfl⟩
  rw [← hrN] at hr0 hv
  have hE : sendE s now data.length = 7 := by unfold sendE; rw [if_neg (by rw [hme]; decide), if_neg (by rw [hc]; decide), if_neg (by rw [← hrN]; omega), if_pos (by rw [← hrN]; exact ⟨hr0, hv⟩)]
  have hN : sendNE s now data.length = 0 := by unfold sendNE; rw [if_pos (by rw [hE]; decide)]
  have hH : sendH s now data = s := by unfold sendH; rw [if_pos (by rw [hE]; decide)]
  have hr1 : rN ≤ 65536 := by rw [hrN]; unfold sendN; omega
  have HRV := Lib.hid fun (W : World) (hb : BkAt W mb s.r s.p s.u s.l s.t) => reserve_no hb h.ok.inv now rN (by omega) (by omega) (by have := h.ok.tl; omega) hw2 (by have hd := of_decide_eq_false hv; unfold lvH at hd; omega)
  rw [hH]
  clear hv
  obtain ⟨⟨ma, nl, mc, now0, rfl, hby, hnl, hmc, hmx⟩, hbk, hmb⟩ := hm
  have HM := Lib.hid (show Md w Lm mb s (.agg #[.pointer (some ⟨mb, 0, none⟩), .int .i64 s.r, .int .i64 s.p, .int .i64 s.u, .int .i64 s.lat, .int .i64 s.lim, .int .u64 now0, .slice ma nl mc, .bool false, .int .u64 s.fin, .int .u64 s.last]) from ⟨⟨ma, nl, mc, now0, by rw [hc], hby, hnl, hmc, hmx⟩, hbk, hmb⟩)
  have hmbl := lt_of_heap hbk
  have HBK0 := Lib.hid hbk
  have HBY := Lib.hid hby
  have HNL := Lib.hid (And.intro hnl (And.intro hmc hmx))
  have HOLD := Lib.hid h.old
  have HLM := Lib.hid hLm
  have HLO := Lib.hid hLo
  have hmb0 : mb ∉ L := fun hm => hmb (hLm _ hm)
  clear hLm hLo
  have hnl2 : nl ≤ 65536 := by have := h.ok.tot; have := h.ok.lim1; have := flatS_length s.segs; omega
  rw [hc]
  replace hc := Lib.hid hc
  obtain ⟨w0, hw0, f0, q0, q1, q2⟩ : ∃ W, ((w.alloc (.cells #[.pointer (some ⟨mb, 0, none⟩), .int .i64 s.r, .int .i64 s.p, .int .i64 s.u, .int .i64 s.lat, .int .i64 s.lim, .int .u64 now0, .slice ma nl mc, .bool false, .int .u64 s.fin, .int .u64 s.last] 64)).alloc (.cells #[.int .i64 0, .int .u64 now, .slice pa data.length pc, .int .i64 n] 77)).alloc (.cells #[.pointer none, .int .i64 0, .int .i64 0, .int .i64 0, .int .i64 0, .int .i64 0, .int .u64 0, .slice none 0 0, .bool false, .int .u64 0, .int .u64 0] 64) = W ∧ Fr [] w W ∧ W.heap[w.heap.size]? = some (.cells #[.pointer (some ⟨mb, 0, none⟩), .int .i64 s.r, .int .i64 s.p, .int .i64 s.u, .int .i64 s.lat, .int .i64 s.lim, .int .u64 now0, .slice ma nl mc, .bool false, .int .u64 s.fin, .int .u64 s.last] 64 (0, 0)) ∧ W.heap[w.heap.size + 1]? = some (.cells #[.int .i64 0, .int .u64 now, .slice pa data.length pc, .int .i64 n] 77 (0, 0)) ∧ W.heap[w.heap.size + 2]? = some (.cells #[.pointer none, .int .i64 0, .int .i64 0, .int .i64 0, .int .i64 0, .int .i64 0, .int .u64 0, .slice none 0 0, .bool false, .int .u64 0, .int .u64 0] 64 (0, 0)) := ⟨_, rfl, (((Fr.refl _ _).alloc _).alloc _).alloc _, keepA (keepA (newA rfl)), keepA (newA (by simp)), newA (by simp)⟩
  have a0 : w0.cell? ⟨w.heap.size + 1, 0, none⟩ = some (.int .i64 0) := cell_of q1
  have a1 : w0.cell? ⟨w.heap.size + 1, 1, none⟩ = some (.int .u64 now) := cell_of q1
  have a2 : w0.cell? ⟨w.heap.size + 1, 2, none⟩ = some (.slice pa data.length pc) := cell_of q1
  have a3 : w0.cell? ⟨w.heap.size + 1, 3, none⟩ = some (.int .i64 n) := cell_of q1
  have HWR := Lib.hid fun (w : World) => wrong41_ok (c0 := .pointer (some ⟨mb, 0, none⟩)) (c1 := .int .i64 s.r) (c2 := .int .i64 s.p) (c3 := .int .i64 s.u) (c4 := .int .i64 s.lat) (c5 := .int .i64 s.lim) (c6 := .int .u64 now0) (c7 := .slice ma nl mc) (c8 := .bool false) (c9 := .int .u64 s.fin) w hw1 hw2
  clear hby hnl hmc hmx hbk
  go_enter Try.func36, Try.ntmps36
  go_wp2_with (refine wpList_load_row rfl 64 (.tmp 4) rfl _ rfl _ _ _ _ q0 Try.underlying64 rfl (by kernel_rfl) ?_)
  refine (HWR.out _).mono ?_
  rintro e w1 ⟨rfl, f1⟩
  have g1 : Fr [] w w1 := f0.then0 f1
  have Q0 := Lib.hid (f1.keep q0 (by simp))
  have Q1 := Lib.hid (f1.keep q1 (by simp))
  have Q2 := Lib.hid (f1.keep q2 (by simp))
  replace HM := Lib.hid (HM.out.keep (L' := w.heap.size :: (w.heap.size + 1) :: (w.heap.size + 2) :: (L ++ Lm)) g1 (by simp) (fun y hy => by simp at hy; rcases hy with rfl | rfl | rfl | hy | hy; exact .inr (by omega); exact .inr (by omega); exact .inr (by omega); exact .inl (HLM.out y hy); exact .inl hy))
  replace HBY := Lib.hid (HBY.out.keep (L' := w.heap.size :: (w.heap.size + 1) :: (w.heap.size + 2) :: (L ++ Lm)) g1 (by simp) (fun y hy => by simp at hy; rcases hy with rfl | rfl | rfl | hy | hy; exact .inr (by omega); exact .inr (by omega); exact .inr (by omega); exact .inl (HLM.out y hy); exact .inl hy))
  clear a0 a1 a2 a3 HWR hw0 q0 q1 q2 f1 f0
  have hnlx : nl = totS s.segs := by rw [HNL.out.1, flatS_length]
  have hmin : (if s.lim - (nl : Int) < (data.length : Int) then s.lim - (nl : Int) else (data.length : Int)) = (rN : Int) := by rw [hrN, hnlx]; unfold sendN; have := h.ok.lim0; have := h.ok.tot; split <;> omega
  have hrl : rN ≤ data.length ∧ rN + nl ≤ 65536 := by rw [hrN, hnlx]; unfold sendN; have := h.ok.lim0; have := h.ok.lim1; have := h.ok.tot; omega
  have hl0 := h.ok.lim0
  have hl1 := h.ok.lim1
  have HRN := Lib.hid hrN
  clear hnlx hrN
  have zB : w.heap.size + 2 < w1.heap.size := lt_of_heap Q2.out
  have e0 : w1.cell? ⟨w.heap.size + 1, 1, none⟩ = some (.int .u64 now) := cell_of Q1.out
  have a0 : w1.cell? ⟨w.heap.size + 1, 0, none⟩ = some (.int .i64 0) := cell_of Q1.out
  have a2 : w1.cell? ⟨w.heap.size + 1, 2, none⟩ = some (.slice pa data.length pc) := cell_of Q1.out
  have a3 : w1.cell? ⟨w.heap.size + 1, 3, none⟩ = some (.int .i64 n) := cell_of Q1.out
  have HCL := Lib.hid (sh_send (pc := pc) (h.keep0 g1) h0 h1 (sl_keep hd g1 (by simp)) (fun b' o' h_ e => (hdo b' o' h_ e).1) (by omega) hpc)
  rw [hE, hH, hN] at HCL
  clear h hE hH hN hme
  go_wp2_with fail
  refine HCL.out.mono ?_
  rintro e w2 ⟨rfl, f2, L', s2, hl⟩
  replace s2 := Lib.hid s2
  have HLS := Lib.hid hl
  clear HCL a0 a2 a3 e0 hl
  replace Q0 := Lib.hid (f2.keep Q0.out (fun hm => by have h1_ := HOLD.out _ hm; omega))
  replace Q1 := Lib.hid (f2.keep Q1.out (fun hm => by have h1_ := HOLD.out _ hm; omega))
  replace Q2 := Lib.hid (f2.keep Q2.out (fun hm => by have h1_ := HOLD.out _ hm; omega))
  have HLW : Hid (∀ y ∈ L', y ∈ L ∨ w.heap.size ≤ y) := Lib.hid (fun y hy => (HLS.out y hy).imp id (fun h_ => by omega))
  have HM2 := Lib.hid (HM.out.keep (L' := w.heap.size :: (w.heap.size + 1) :: (w.heap.size + 2) :: (L' ++ Lm)) f2 (fun y hy => .inl (by simp [hy])) (fun y hy => by simp at hy; rcases hy with rfl | rfl | rfl | hy | hy; exact .inl (by simp); exact .inl (by simp); exact .inl (by simp); exact (HLS.out y hy).imp (fun h_ => by simp [h_]) id; exact .inl (by simp [hy])))
  replace HBY := Lib.hid (HBY.out.keep (L' := w.heap.size :: (w.heap.size + 1) :: (w.heap.size + 2) :: (L' ++ Lm)) f2 (fun y hy => .inl (by simp [hy])) (fun y hy => by simp at hy; rcases hy with rfl | rfl | rfl | hy | hy; exact .inl (by simp); exact .inl (by simp); exact .inl (by simp); exact (HLS.out y hy).imp (fun h_ => by simp [h_]) id; exact .inl (by simp [hy])))
  have g2 : Fr (mb :: L) w w2 := (g1.mono (T := mb :: L) (by simp)).trans f2 (fun _ h => .inl h) (fun x hx => .inl (by simp [hx]))
  have b1 : w2.cell? ⟨w.heap.size + 1, 1, none⟩ = some (.int .u64 now) := cell_of Q1.out
  have b2 : w2.cell? ⟨w.heap.size + 1, 2, none⟩ = some (.slice pa data.length pc) := cell_of Q1.out
  have m0 : w2.cell? ⟨w.heap.size, 0, none⟩ = some (.pointer (some ⟨mb, 0, none⟩)) := cell_of Q0.out
  have m5 : w2.cell? ⟨w.heap.size, 5, none⟩ = some (.int .i64 s.lim) := cell_of Q0.out
  have m7 : w2.cell? ⟨w.heap.size, 7, none⟩ = some (.slice ma nl mc) := cell_of Q0.out
  have m8 : w2.cell? ⟨w.heap.size, 8, none⟩ = some (.bool false) := cell_of Q0.out
  replace HRV := Lib.hid (HRV.out _ HM2.out.bk)
  have hdl2 : (data.length : Int) ≤ 100 := by omega
  have hdl3 : (data.length : Int) ≤ 65536 := by omega
  have hrI : (0 : Int) < rN := by omega
  have hrz : ((rN : Int) == 0) = false := by simp; omega
  go_wp2_with fail
  refine HRV.out.mono ?_
  rintro e w3 ⟨rfl, f3⟩
  replace Q0 := Lib.hid (f3.keep Q0.out (fun hm => by simp at hm))
  replace Q1 := Lib.hid (f3.keep Q1.out (fun hm => by simp at hm))
  replace Q2 := Lib.hid (f3.keep Q2.out (fun hm => by simp at hm))
  have s3 := Lib.hid (s2.out.keep0 f3)
  have HM3 := Lib.hid (HM2.out.keep (L' := w.heap.size :: (w.heap.size + 1) :: (w.heap.size + 2) :: (L' ++ Lm)) f3 (by simp) (fun y hy => .inl hy))
  have g3 := g2.then0 f3
  clear HRV s2 HM2 g2 f3 f2 HM g1 HBY b1 b2 m0 m5 m7 m8
  go_wp2_with fail
  have fd : Fr [w.heap.size + 2] w3 w3.drew := (Fr.refl _ _).drew
  have HFA := Lib.hid fun (w' : World) (f : Fr [w.heap.size + 2] w3 w') => (show w'.cell? ⟨w.heap.size, 0, none⟩ = some (.pointer (some ⟨mb, 0, none⟩)) ∧ w'.cell? ⟨w.heap.size, 1, none⟩ = some (.int .i64 s.r) ∧ w'.cell? ⟨w.heap.size, 2, none⟩ = some (.int .i64 s.p) ∧ w'.cell? ⟨w.heap.size, 3, none⟩ = some (.int .i64 s.u) ∧ w'.cell? ⟨w.heap.size, 4, none⟩ = some (.int .i64 s.lat) ∧ w'.cell? ⟨w.heap.size, 5, none⟩ = some (.int .i64 s.lim) ∧ w'.cell? ⟨w.heap.size, 6, none⟩ = some (.int .u64 now0) ∧ w'.cell? ⟨w.heap.size, 7, none⟩ = some (.slice ma nl mc) ∧ w'.cell? ⟨w.heap.size, 8, none⟩ = some (.bool false) ∧ w'.cell? ⟨w.heap.size, 9, none⟩ = some (.int .u64 s.fin) ∧ w'.cell? ⟨w.heap.size, 10, none⟩ = some (.int .u64 s.last) ∧ w'.cell? ⟨w.heap.size + 1, 0, none⟩ = some (.int .i64 0) ∧ w'.cell? ⟨w.heap.size + 1, 1, none⟩ = some (.int .u64 now) ∧ w'.cell? ⟨w.heap.size + 1, 2, none⟩ = some (.slice pa data.length pc) ∧ w'.cell? ⟨w.heap.size + 1, 3, none⟩ = some (.int .i64 n) from (let q' := f.keep Q0.out (by simp); let a' := f.keep Q1.out (by simp); ⟨cell_of q', cell_of q', cell_of q', cell_of q', cell_of q', cell_of q', cell_of q', cell_of q', cell_of q', cell_of q', cell_of q', cell_of a', cell_of a', cell_of a', cell_of a'⟩))
  refine wp_region_order [(0, true), (1, true), (2, true), (3, true), (4, true), (5, true), (6, true), (7, true), (8, true), (9, true), (10, false), (11, true)] (fun w' => Fr [w.heap.size + 2] w3 w') (by kernel_rfl) (by kernel_rfl) fd ?_
  intro OPS HOPS
  have hops := HOPS.out
  try simp only [List.append_eq, List.cons_append, List.nil_append] at hops
  replace HOPS := Lib.hid hops
  clear hops
  refine walkO_take (o := _) (v := ?_) (by rw [HOPS.out]; simp only [List.getElem?_toArray, List.getElem?_cons_succ, List.getElem?_cons_zero]; exact rfl) (Or.inl ⟨rfl, ?_⟩) ?_
  rotate_left
  · (intro w hSw; have hSx := HFA.out _ hSw; (try dsimp only at hSx); clear hSw; go_simp) <;> (with_reducible rfl)
  simp only [Act.put, List.setIfInBounds_toArray, List.set_cons_zero, List.set_cons_succ]
  refine walkO_take (o := _) (v := ?_) (by rw [HOPS.out]; simp only [List.getElem?_toArray, List.getElem?_cons_succ, List.getElem?_cons_zero]; exact rfl) (Or.inl ⟨rfl, ?_⟩) ?_
  rotate_left
  · (intro w hSw; have hSx := HFA.out _ hSw; (try dsimp only at hSx); clear hSw; go_simp) <;> (with_reducible rfl)
  simp only [Act.put, List.setIfInBounds_toArray, List.set_cons_zero, List.set_cons_succ]
  refine walkO_take (o := _) (v := ?_) (by rw [HOPS.out]; simp only [List.getElem?_toArray, List.getElem?_cons_succ, List.getElem?_cons_zero]; exact rfl) (Or.inl ⟨rfl, ?_⟩) ?_
  rotate_left
  · (intro w hSw; have hSx := HFA.out _ hSw; (try dsimp only at hSx); clear hSw; go_simp) <;> (with_reducible rfl)
  simp only [Act.put, List.setIfInBounds_toArray, List.set_cons_zero, List.set_cons_succ]
  refine walkO_take (o := _) (v := ?_) (by rw [HOPS.out]; simp only [List.getElem?_toArray, List.getElem?_cons_succ, List.getElem?_cons_zero]; exact rfl) (Or.inl ⟨rfl, ?_⟩) ?_
  rotate_left
  · (intro w hSw; have hSx := HFA.out _ hSw; (try dsimp only at hSx); clear hSw; go_simp) <;> (with_reducible rfl)
  simp only [Act.put, List.setIfInBounds_toArray, List.set_cons_zero, List.set_cons_succ]
  refine walkO_take (o := _) (v := ?_) (by rw [HOPS.out]; simp only [List.getElem?_toArray, List.getElem?_cons_succ, List.getElem?_cons_zero]; exact rfl) (Or.inl ⟨rfl, ?_⟩) ?_
  rotate_left
  · (intro w hSw; have hSx := HFA.out _ hSw; (try dsimp only at hSx); clear hSw; go_simp) <;> (with_reducible rfl)
  simp only [Act.put, List.setIfInBounds_toArray, List.set_cons_zero, List.set_cons_succ]
  refine walkO_take (o := _) (v := ?_) (by rw [HOPS.out]; simp only [List.getElem?_toArray, List.getElem?_cons_succ, List.getElem?_cons_zero]; exact rfl) (Or.inl ⟨by rw [HOPS.out]; rfl, ?_⟩) ?_
  rotate_left
  · (intro w hSw; have hSx := HFA.out _ hSw; (try dsimp only at hSx); clear hSw; go_simp) <;> (with_reducible rfl)
  simp only [Act.put, List.setIfInBounds_toArray, List.set_cons_zero, List.set_cons_succ]
  refine walkO_take (o := _) (v := ?_) (by rw [HOPS.out]; simp only [List.getElem?_toArray, List.getElem?_cons_succ, List.getElem?_cons_zero]; exact rfl) (Or.inl ⟨by rw [HOPS.out]; rfl, ?_⟩) ?_
  rotate_left
  · (intro w hSw; have hSx := HFA.out _ hSw; (try dsimp only at hSx); clear hSw; go_simp) <;> (with_reducible rfl)
  simp only [Act.put, List.setIfInBounds_toArray, List.set_cons_zero, List.set_cons_succ]
  refine walkO_take (o := _) (v := ?_) (by rw [HOPS.out]; simp only [List.getElem?_toArray, List.getElem?_cons_succ, List.getElem?_cons_zero]; exact rfl) (Or.inl ⟨by rw [HOPS.out]; rfl, ?_⟩) ?_
  rotate_left
  · (intro w hSw; have hSx := HFA.out _ hSw; (try dsimp only at hSx); clear hSw; go_simp) <;> (with_reducible rfl)
  simp only [Act.put, List.setIfInBounds_toArray, List.set_cons_zero, List.set_cons_succ]
  refine walkO_take (o := _) (v := ?_) (by rw [HOPS.out]; simp only [List.getElem?_toArray, List.getElem?_cons_succ, List.getElem?_cons_zero]; exact rfl) (Or.inl ⟨rfl, ?_⟩) ?_
  rotate_left
  · (intro w hSw; have hSx := HFA.out _ hSw; (try dsimp only at hSx); clear hSw; go_simp) <;> (with_reducible rfl)
  simp only [Act.put, List.setIfInBounds_toArray, List.set_cons_zero, List.set_cons_succ]
  refine walkO_take (o := _) (v := ?_) (by rw [HOPS.out]; simp only [List.getElem?_toArray, List.getElem?_cons_succ, List.getElem?_cons_zero]; exact rfl) (Or.inl ⟨rfl, ?_⟩) ?_
  rotate_left
  · (intro w hSw; have hSx := HFA.out _ hSw; (try dsimp only at hSx); clear hSw; go_simp) <;> (with_reducible rfl)
  simp only [Act.put, List.setIfInBounds_toArray, List.set_cons_zero, List.set_cons_succ]
  refine walkO_call (o := _) (by rw [HOPS.out]; simp only [List.getElem?_toArray, List.getElem?_cons_succ, List.getElem?_cons_zero]; exact rfl) (fun K HK => ?_)
  obtain ⟨wE, hwE, qE, fE⟩ := setRow_fr (cs := #[.pointer (some ⟨mb, 0, none⟩), .int .i64 s.r, .int .i64 s.p, .int .i64 s.u, .int .i64 s.lat, .int .i64 s.lim, .int .u64 now0, .slice ma nl mc, .bool false, .int .u64 s.fin, .int .u64 s.last]) (show w3.drew.heap[w.heap.size + 2]? = _ from Q2.out)
  refine step_store_row rfl 64 (.tmp 7) (.tmp 103) rfl (w.heap.size + 2) #[.pointer (some ⟨mb, 0, none⟩), .int .i64 s.r, .int .i64 s.p, .int .i64 s.u, .int .i64 s.lat, .int .i64 s.lim, .int .u64 now0, .slice ma nl mc, .bool false, .int .u64 s.fin, .int .u64 s.last] rfl rfl _ _ (show w3.drew.heap[w.heap.size + 2]? = _ from Q2.out) (by kernel_rfl) rfl (by simp [Value.oneCell']) hwE ?_
  have gE : Fr [w.heap.size + 2] w3 wE := fd.trans fE (fun _ h => .inl h) (fun x hx => .inl hx)
  refine HK.out (fun w' => Fr [w.heap.size + 2] w3 w') _ _ (fun _ h => h) (gE) ?_
  clear HK K
  try simp only [Act.put, List.setIfInBounds_toArray, List.set_cons_zero, List.set_cons_succ]
  refine walkO_take (o := _) (v := ?_) (by rw [HOPS.out]; simp only [List.getElem?_toArray, List.getElem?_cons_succ, List.getElem?_cons_zero]; exact rfl) (Or.inl ⟨rfl, ?_⟩) ?_
  rotate_left
  · (intro w hSw; have hSx := HFA.out _ hSw; (try dsimp only at hSx); clear hSw; go_simp) <;> (with_reducible rfl)
  simp only [Act.put, List.setIfInBounds_toArray, List.set_cons_zero, List.set_cons_succ]
  refine walkO_done ?_
  clear HOPS OPS
  clear HFA
  try simp only [Exit.then]
  go_wp2_with fail
  refine bodyPost_ret (m41_result3 qE (by kernel_rfl) rfl rfl rfl rfl) rfl ?_
  exact ⟨b, k, L', _, rfl, g3.trans gE (fun _ h => .inl h) (fun x hx => .inr (by simp at hx; omega)), s3.out.keep gE (fun y hy hm => by simp at hy; rcases HLS.out _ hm with h_ | h_; have := HOLD.out _ h_; omega; omega), HM3.out.keep gE (fun y hy => .inl (by simp at hy; simp [hy])) (fun y hy => .inl (List.mem_cons_of_mem _ (List.mem_cons_of_mem _ (List.mem_cons_of_mem _ hy)))), HLW.out⟩

set_option maxHeartbeats 16000000 in
theorem step41_sy {w : World} {L : List Nat} {b k mb : Nat} {s : SH} {v : Value} (h : Shp w L b k s) {Lm : List Nat} (hm : Md w Lm mb s v) (hLm : ∀ y ∈ L, y ∈ Lm) (hLo : ∀ y ∈ Lm, y < w.heap.size) {pa : Option Addr} {pc : Nat} {data : List UInt8} (hd : Sl w pa (bi data)) (hdo : ∀ b' o', 0 < data.length → pa = some ⟨b', o', none⟩ → b' ∉ L ∧ b' ≠ mb) (hdl : data.length ≤ 100) (hpc : data.length ≤ pc) {now n : Int} (h0 : 0 ≤ now) (h1 : now ≤ 18446744073709551615) (hw1 : s.last ≤ now) (hw2 : now < 18446744073709551615) (hc : s.closed = false) (hr0 : 0 < sendN s data.length) (hv : roomH s now (sendN s data.length) = true) :
    Calls Try.prog 36 #[.pointer (some ⟨b, 0, none⟩), v, .agg #[.int .i64 0, .int .u64 now, .slice pa data.length pc, .int .i64 n]] w (Step41 w L Lm mb (sendH s now data)) := by
  have hme : mayE s now (decide ((data.length : Int) ≤ 65536)) = 0 := by rw [show decide ((data.length : Int) ≤ 65536) = true by simp; omega]; unfold mayE; rw [if_neg (by simp), if_neg (by omega)]
  obtain ⟨rN, hrN⟩ : ∃ r, r = sendN s data.length := ⟨_, rfl⟩
  rw [← hrN] at hr0 hv
  have hE : sendE s now data.length = 0 := by unfold sendE; rw [if_neg (by rw [hme]; decide), if_neg (by rw [hc]; decide), if_neg (by rw [← hrN]; omega), if_neg (by rw [← hrN, hv]; simp)]
  have hN : sendNE s now data.length = rN := by unfold sendNE; rw [if_neg (by rw [hE]; decide), ← hrN]
  have hH : sendH s now data = { s with l := lvH s now rN, t := now, segs := s.segs ++ [(data.take rN, atH s now rN)], last := now } := by unfold sendH; rw [if_neg (by rw [hE]; decide), ← hrN, if_neg (by omega)]
  have hr1 : rN ≤ 65536 := by rw [hrN]; unfold sendN; omega
  have HRV := Lib.hid fun (W : World) (hb : BkAt W mb s.r s.p s.u s.l s.t) => reserve_yes hb h.ok.inv now rN (by omega) (by omega) (by have := h.ok.tl; omega) hw2 (by have hd := of_decide_eq_true hv; unfold lvH at hd; exact hd)
  have hp0 := plusT_bd h0 (tk_nonneg (n := max 0 (-(lvH s now rN))) h.ok.inv.r1 (by omega))
  obtain ⟨T0, hT0⟩ : ∃ T, plusT now (tk s.r (max 0 (-(lvH s now rN)))) = T := ⟨_, rfl⟩
  rw [hT0] at hp0
  have HLT := Lib.hid fun (W : World) => later41 (t := T0) (lat := s.lat) W hp0.1 hp0.2 h.ok.lat0 h.ok.lat1
  rw [show plusT T0 s.lat = atH s now rN by rw [← hT0]; rfl] at HLT
  have HT0 := Lib.hid hT0
  clear hp0 hT0
  have HEL := Lib.hid (Go.Proofs.enters_of Try.func59 (by kernel_rfl) rfl)
  have HSD := Lib.hid hd
  have HDO := Lib.hid hdo
  have HBH := Lib.hid (And.intro h.hb h.hk)
  rw [hH]
  obtain ⟨S2, hS2⟩ : ∃ S, S = ({ s with l := lvH s now rN, t := now, segs := s.segs ++ [(data.take rN, atH s now rN)], last := now } : SH) := ⟨_, rfl⟩
  rw [← hS2]
  have HS2 := Lib.hid hS2
  clear hS2
  clear hv
  obtain ⟨⟨ma, nl, mc, now0, rfl, hby, hnl, hmc, hmx⟩, hbk, hmb⟩ := hm
  have HM := Lib.hid (show Md w Lm mb s (.agg #[.pointer (some ⟨mb, 0, none⟩), .int .i64 s.r, .int .i64 s.p, .int .i64 s.u, .int .i64 s.lat, .int .i64 s.lim, .int .u64 now0, .slice ma nl mc, .bool false, .int .u64 s.fin, .int .u64 s.last]) from ⟨⟨ma, nl, mc, now0, by rw [hc], hby, hnl, hmc, hmx⟩, hbk, hmb⟩)
  have hmbl := lt_of_heap hbk
  have HBK0 := Lib.hid hbk
  have HBY := Lib.hid hby
  have HNL := Lib.hid (And.intro hnl (And.intro hmc hmx))
  have HOLD := Lib.hid h.old
  have HLM := Lib.hid hLm
  have HLO := Lib.hid hLo
  have hmb0 : mb ∉ L := fun hm => hmb (hLm _ hm)
  clear hLm hLo
  have hnl2 : nl ≤ 65536 := by have := h.ok.tot; have := h.ok.lim1; have := flatS_length s.segs; omega
  rw [hc]
  replace hc := Lib.hid hc
  obtain ⟨w0, hw0, f0, q0, q1, q2⟩ : ∃ W, ((w.alloc (.cells #[.pointer (some ⟨mb, 0, none⟩), .int .i64 s.r, .int .i64 s.p, .int .i64 s.u, .int .i64 s.lat, .int .i64 s.lim, .int .u64 now0, .slice ma nl mc, .bool false, .int .u64 s.fin, .int .u64 s.last] 64)).alloc (.cells #[.int .i64 0, .int .u64 now, .slice pa data.length pc, .int .i64 n] 77)).alloc (.cells #[.pointer none, .int .i64 0, .int .i64 0, .int .i64 0, .int .i64 0, .int .i64 0, .int .u64 0, .slice none 0 0, .bool false, .int .u64 0, .int .u64 0] 64) = W ∧ Fr [] w W ∧ W.heap[w.heap.size]? = some (.cells #[.pointer (some ⟨mb, 0, none⟩), .int .i64 s.r, .int .i64 s.p, .int .i64 s.u, .int .i64 s.lat, .int .i64 s.lim, .int .u64 now0, .slice ma nl mc, .bool false, .int .u64 s.fin, .int .u64 s.last] 64 (0, 0)) ∧ W.heap[w.heap.size + 1]? = some (.cells #[.int .i64 0, .int .u64 now, .slice pa data.length pc, .int .i64 n] 77 (0, 0)) ∧ W.heap[w.heap.size + 2]? = some (.cells #[.pointer none, .int .i64 0, .int .i64 0, .int .i64 0, .int .i64 0, .int .i64 0, .int .u64 0, .slice none 0 0, .bool false, .int .u64 0, .int .u64 0] 64 (0, 0)) := ⟨_, rfl, (((Fr.refl _ _).alloc _).alloc _).alloc _, keepA (keepA (newA rfl)), keepA (newA (by simp)), newA (by simp)⟩
  have a0 : w0.cell? ⟨w.heap.size + 1, 0, none⟩ = some (.int .i64 0) := cell_of q1
  have a1 : w0.cell? ⟨w.heap.size + 1, 1, none⟩ = some (.int .u64 now) := cell_of q1
  have a2 : w0.cell? ⟨w.heap.size + 1, 2, none⟩ = some (.slice pa data.length pc) := cell_of q1
  have a3 : w0.cell? ⟨w.heap.size + 1, 3, none⟩ = some (.int .i64 n) := cell_of q1
  have HWR := Lib.hid fun (w : World) => wrong41_ok (c0 := .pointer (some ⟨mb, 0, none⟩)) (c1 := .int .i64 s.r) (c2 := .int .i64 s.p) (c3 := .int .i64 s.u) (c4 := .int .i64 s.lat) (c5 := .int .i64 s.lim) (c6 := .int .u64 now0) (c7 := .slice ma nl mc) (c8 := .bool false) (c9 := .int .u64 s.fin) w hw1 hw2
  clear hby hnl hmc hmx hbk
  go_enter Try.func36, Try.ntmps36
  go_wp2_with (refine wpList_load_row rfl 64 (.tmp 4) rfl _ rfl _ _ _ _ q0 Try.underlying64 rfl (by kernel_rfl) ?_)
  refine (HWR.out _).mono ?_
  rintro e w1 ⟨rfl, f1⟩
  have g1 : Fr [] w w1 := f0.then0 f1
  have Q0 := Lib.hid (f1.keep q0 (by simp))
  have Q1 := Lib.hid (f1.keep q1 (by simp))
  have Q2 := Lib.hid (f1.keep q2 (by simp))
  replace HM := Lib.hid (HM.out.keep (L' := w.heap.size :: (w.heap.size + 1) :: (w.heap.size + 2) :: (L ++ Lm)) g1 (by simp) (fun y hy => by simp at hy; rcases hy with rfl | rfl | rfl | hy | hy; exact .inr (by omega); exact .inr (by omega); exact .inr (by omega); exact .inl (HLM.out y hy); exact .inl hy))
  replace HBY := Lib.hid (HBY.out.keep (L' := w.heap.size :: (w.heap.size + 1) :: (w.heap.size + 2) :: (L ++ Lm)) g1 (by simp) (fun y hy => by simp at hy; rcases hy with rfl | rfl | rfl | hy | hy; exact .inr (by omega); exact .inr (by omega); exact .inr (by omega); exact .inl (HLM.out y hy); exact .inl hy))
  clear a0 a1 a2 a3 HWR hw0 q0 q1 q2 f1 f0
  have hnlx : nl = totS s.segs := by rw [HNL.out.1, flatS_length]
  have hmin : (if s.lim - (nl : Int) < (data.length : Int) then s.lim - (nl : Int) else (data.length : Int)) = (rN : Int) := by rw [hrN, hnlx]; unfold sendN; have := h.ok.lim0; have := h.ok.tot; split <;> omega
  have hrl : rN ≤ data.length ∧ rN + nl ≤ 65536 := by rw [hrN, hnlx]; unfold sendN; have := h.ok.lim0; have := h.ok.lim1; have := h.ok.tot; omega
  have hl0 := h.ok.lim0
  have hl1 := h.ok.lim1
  have HRN := Lib.hid hrN
  clear hnlx hrN
  have zB : w.heap.size + 2 < w1.heap.size := lt_of_heap Q2.out
  have e0 : w1.cell? ⟨w.heap.size + 1, 1, none⟩ = some (.int .u64 now) := cell_of Q1.out
  have a0 : w1.cell? ⟨w.heap.size + 1, 0, none⟩ = some (.int .i64 0) := cell_of Q1.out
  have a2 : w1.cell? ⟨w.heap.size + 1, 2, none⟩ = some (.slice pa data.length pc) := cell_of Q1.out
  have a3 : w1.cell? ⟨w.heap.size + 1, 3, none⟩ = some (.int .i64 n) := cell_of Q1.out
  have HCL := Lib.hid (sh_send (pc := pc) (h.keep0 g1) h0 h1 (sl_keep hd g1 (by simp)) (fun b' o' h_ e => (hdo b' o' h_ e).1) (by omega) hpc)
  rw [hE, hH, hN] at HCL
  clear h hE hH hN hme
  go_wp2_with fail
  refine HCL.out.mono ?_
  rintro e w2 ⟨rfl, f2, L', s2, hl⟩
  replace s2 := Lib.hid s2
  have HLS := Lib.hid hl
  clear HCL a0 a2 a3 e0 hl
  replace Q0 := Lib.hid (f2.keep Q0.out (fun hm => by have h1_ := HOLD.out _ hm; omega))
  replace Q1 := Lib.hid (f2.keep Q1.out (fun hm => by have h1_ := HOLD.out _ hm; omega))
  replace Q2 := Lib.hid (f2.keep Q2.out (fun hm => by have h1_ := HOLD.out _ hm; omega))
  have HLW : Hid (∀ y ∈ L', y ∈ L ∨ w.heap.size ≤ y) := Lib.hid (fun y hy => (HLS.out y hy).imp id (fun h_ => by omega))
  have HM2 := Lib.hid (HM.out.keep (L' := w.heap.size :: (w.heap.size + 1) :: (w.heap.size + 2) :: (L' ++ Lm)) f2 (fun y hy => .inl (by simp [hy])) (fun y hy => by simp at hy; rcases hy with rfl | rfl | rfl | hy | hy; exact .inl (by simp); exact .inl (by simp); exact .inl (by simp); exact (HLS.out y hy).imp (fun h_ => by simp [h_]) id; exact .inl (by simp [hy])))
  replace HBY := Lib.hid (HBY.out.keep (L' := w.heap.size :: (w.heap.size + 1) :: (w.heap.size + 2) :: (L' ++ Lm)) f2 (fun y hy => .inl (by simp [hy])) (fun y hy => by simp at hy; rcases hy with rfl | rfl | rfl | hy | hy; exact .inl (by simp); exact .inl (by simp); exact .inl (by simp); exact (HLS.out y hy).imp (fun h_ => by simp [h_]) id; exact .inl (by simp [hy])))
  have g2 : Fr (mb :: L) w w2 := (g1.mono (T := mb :: L) (by simp)).trans f2 (fun _ h => .inl h) (fun x hx => .inl (by simp [hx]))
  have b1 : w2.cell? ⟨w.heap.size + 1, 1, none⟩ = some (.int .u64 now) := cell_of Q1.out
  have b2 : w2.cell? ⟨w.heap.size + 1, 2, none⟩ = some (.slice pa data.length pc) := cell_of Q1.out
  have m0 : w2.cell? ⟨w.heap.size, 0, none⟩ = some (.pointer (some ⟨mb, 0, none⟩)) := cell_of Q0.out
  have m5 : w2.cell? ⟨w.heap.size, 5, none⟩ = some (.int .i64 s.lim) := cell_of Q0.out
  have m7 : w2.cell? ⟨w.heap.size, 7, none⟩ = some (.slice ma nl mc) := cell_of Q0.out
  have m8 : w2.cell? ⟨w.heap.size, 8, none⟩ = some (.bool false) := cell_of Q0.out
  replace HRV := Lib.hid (HRV.out _ (f2.keep (g1.keep HBK0.out (by simp)) hmb0))
  have hdl2 : (data.length : Int) ≤ 100 := by omega
  have hdl3 : (data.length : Int) ≤ 65536 := by omega
  have hrI : (0 : Int) < rN := by omega
  have hrz : ((rN : Int) == 0) = false := by simp; omega
  go_wp2_with fail
  refine HRV.out.mono ?_
  rintro e w3 ⟨rfl, f3, k3⟩
  rw [show lvl s.r s.p s.u s.l s.t now - (rN : Int) * s.p = lvH s now rN from rfl] at k3 ⊢
  rw [HT0.out]
  replace k3 := Lib.hid k3
  replace Q0 := Lib.hid (f3.keep Q0.out (fun hm => by simp at hm; omega))
  replace Q1 := Lib.hid (f3.keep Q1.out (fun hm => by simp at hm; omega))
  replace Q2 := Lib.hid (f3.keep Q2.out (fun hm => by simp at hm; omega))
  have HS3 := Lib.hid (s2.out.keep f3 (by intro y hy hm; simp at hy; subst hy; exact HM2.out.mb (by simp [hm])))
  have HBY3 := Lib.hid (HBY.out.keepB HM2.out.bk f3)
  have hmbL := HM2.out.mb
  have g3 : Fr (mb :: L) w w3 := g2.trans f3 (fun _ h => .inl h) (fun x hx => .inl (by simp at hx; simp [hx]))
  have HDT := Lib.hid (show ∃ pb po, pa = some ⟨pb, po, none⟩ ∧ pb < w3.heap.size ∧ ∀ q, q < data.length → w3.cell? ⟨pb, po + q, none⟩ = some (.int .u8 (data.getD q 0).toNat) from by
    obtain ⟨pb, po, e, hpb, hpc⟩ := HSD.out (by rw [bi_length]; omega)
    obtain ⟨n1, n2⟩ := HDO.out pb po (by omega) e
    have z1 := g3.size
    have hk : pb ∉ mb :: L := by simp [n1, n2]
    refine ⟨pb, po, e, by omega, fun q hq => ?_⟩
    rw [World.cell?_of_block (w := w) (g3.block pb hpb hk), hpc q (by rw [bi_length]; exact hq), bi_getD _ _ hq]
    simp [List.getD, hq])
  obtain ⟨pb, po, e, hpb3, hdat⟩ := HDT.out
  subst e
  have HDAT := Lib.hid hdat
  have b2' : w3.cell? ⟨w.heap.size + 1, 2, none⟩ = some (.slice (some ⟨pb, po, none⟩) data.length pc) := cell_of Q1.out
  have c7 : w3.cell? ⟨w.heap.size, 7, none⟩ = some (.slice ma nl mc) := cell_of Q0.out
  clear HRV s2 HM2 f3 f2 HM g1 HBY b1 b2 m0 m5 m7 m8 hdat HDT g2 HSD HDO
  have HNLl : Hid (nl = (flatS s.segs).length) := Lib.hid HNL.out.1
  have HBYe : Hid (ByV w3 [] ma (flatS s.segs)) := Lib.hid (fun h0 => by obtain ⟨b_, o_, e_, hb_, _, hc_⟩ := HBY3.out h0; exact ⟨b_, o_, e_, hb_, by simp, hc_⟩)
  go_wp2_with (refine wpList_by_append rfl (.const (.slice none 0 0)) (.tmp 112) rfl rfl (M := w3.heap.size) (v := .slice none 0 0) rfl (Ob.nil _ _) rfl HNLl.out HBYe.out (by have := HNLl.out; simp; omega) (Nat.le_refl _) ?_)
  intro v4 w4 ob4 f4
  have g4 : Fr [] w3 w4 := f4
  clear f4
  go_wp2_with fail
  go_loopw [15, 16] (fun v15 v16 wr => ∃ q : Nat, q ≤ rN ∧ v16 = .int .i64 q ∧ Hid (Ob wr w3.heap.size v15 (flatS s.segs ++ (data.take q).map (·, atH s now rN))) ∧ Fr [] w3 wr) (fun _ v16 _ => rN + 1 - (intOf v16).toNat)
  case atStart => exact ⟨0, by omega, rfl, by simpa using ob4, g4⟩
  case round =>
    clear ob4 g4
    obtain ⟨q, hq, rfl, OB, g⟩ := hrel
    rename World => wr
    by_cases hlt : q < rN
    · have hqd : q < data.length := by omega
      have hcx := HDAT.out q hqd
      have hnext : (data.take (q + 1)).map (·, atH s now rN) = (data.take q).map (·, atH s now rN) ++ [(data.getD q 0, atH s now rN)] := by rw [List.take_succ_eq_append_getElem hqd, List.map_append]; simp [List.getD, hqd]
      have HNX := Lib.hid hnext
      generalize data.getD q 0 = xc at hcx HNX
      have hqI : (q : Int) < rN := by omega
      have hqJ : (q : Int) < data.length := by omega
      clear hnext
      as_aux_lemma =>
        go_wp2_with fail
        have HFA := Lib.hid fun (w' : World) (f : Fr [] w3 w') => (show w'.cell? ⟨w.heap.size + 1, 2, none⟩ = some (.slice (some ⟨pb, po, none⟩) data.length pc) ∧ w'.cell? ⟨pb, po + q, none⟩ = some (.int .u8 xc.toNat) ∧ w'.cell? ⟨w.heap.size, 4, none⟩ = some (.int .i64 s.lat) from ⟨cell_of (f.keep Q1.out (by simp)), (World.cell?_of_block (w := w3) (f.block pb hpb3 (by simp))).trans hcx, cell_of (f.keep Q0.out (by simp))⟩)
        have fd : Fr [] w3 wr.drew := g.drew
        refine wp_region_order [(0, true), (1, true), (2, true), (3, true), (4, true), (5, true), (6, true), (7, true), (8, true), (9, true), (10, false), (11, true), (12, false), (13, false), (14, true)] (fun w' => Fr [] w3 w') (by kernel_rfl) (by kernel_rfl) fd ?_
        intro OPS HOPS
        have hops := HOPS.out
        try simp only [List.append_eq, List.cons_append, List.nil_append] at hops
        replace HOPS := Lib.hid hops
        clear hops
        refine walkO_take (o := _) (v := ?_) (by rw [HOPS.out]; simp only [List.getElem?_toArray, List.getElem?_cons_succ, List.getElem?_cons_zero]; exact rfl) (Or.inl ⟨rfl, ?_⟩) ?_
        rotate_left
        · (intro w hSw; have hSx := HFA.out _ hSw; (try dsimp only at hSx); clear hSw; go_simp) <;> (with_reducible rfl)
        simp only [Act.put, List.setIfInBounds_toArray, List.set_cons_zero, List.set_cons_succ]
        refine walkO_take (o := _) (v := ?_) (by rw [HOPS.out]; simp only [List.getElem?_toArray, List.getElem?_cons_succ, List.getElem?_cons_zero]; exact rfl) (Or.inl ⟨rfl, ?_⟩) ?_
        rotate_left
        · (intro w hSw; have hSx := HFA.out _ hSw; (try dsimp only at hSx); clear hSw; go_simp) <;> (with_reducible rfl)
        simp only [Act.put, List.setIfInBounds_toArray, List.set_cons_zero, List.set_cons_succ]
        refine walkO_take (o := _) (v := ?_) (by rw [HOPS.out]; simp only [List.getElem?_toArray, List.getElem?_cons_succ, List.getElem?_cons_zero]; exact rfl) (Or.inl ⟨rfl, ?_⟩) ?_
        rotate_left
        · (intro w hSw; have hSx := HFA.out _ hSw; (try dsimp only at hSx); clear hSw; go_simp) <;> (with_reducible rfl)
        simp only [Act.put, List.setIfInBounds_toArray, List.set_cons_zero, List.set_cons_succ]
        refine walkO_take (o := _) (v := ?_) (by rw [HOPS.out]; simp only [List.getElem?_toArray, List.getElem?_cons_succ, List.getElem?_cons_zero]; exact rfl) (Or.inl ⟨rfl, ?_⟩) ?_
        rotate_left
        · (intro w hSw; have hSx := HFA.out _ hSw; (try dsimp only at hSx); clear hSw; go_simp) <;> (with_reducible rfl)
        simp only [Act.put, List.setIfInBounds_toArray, List.set_cons_zero, List.set_cons_succ]
        refine walkO_take (o := _) (v := ?_) (by rw [HOPS.out]; simp only [List.getElem?_toArray, List.getElem?_cons_succ, List.getElem?_cons_zero]; exact rfl) (Or.inl ⟨rfl, ?_⟩) ?_
        rotate_left
        · (intro w hSw; have hSx := HFA.out _ hSw; (try dsimp only at hSx); clear hSw; go_simp) <;> (with_reducible rfl)
        simp only [Act.put, List.setIfInBounds_toArray, List.set_cons_zero, List.set_cons_succ]
        refine walkO_take (o := _) (v := ?_) (by rw [HOPS.out]; simp only [List.getElem?_toArray, List.getElem?_cons_succ, List.getElem?_cons_zero]; exact rfl) (Or.inl ⟨rfl, ?_⟩) ?_
        rotate_left
        · (intro w hSw; have hSx := HFA.out _ hSw; (try dsimp only at hSx); clear hSw; go_simp) <;> (with_reducible rfl)
        simp only [Act.put, List.setIfInBounds_toArray, List.set_cons_zero, List.set_cons_succ]
        refine walkO_take (o := _) (v := ?_) (by rw [HOPS.out]; simp only [List.getElem?_toArray, List.getElem?_cons_succ, List.getElem?_cons_zero]; exact rfl) (Or.inl ⟨rfl, ?_⟩) ?_
        rotate_left
        · (intro w hSw; have hSx := HFA.out _ hSw; (try dsimp only at hSx); clear hSw; go_simp) <;> (with_reducible rfl)
        simp only [Act.put, List.setIfInBounds_toArray, List.set_cons_zero, List.set_cons_succ]
        refine walkO_take (o := _) (v := ?_) (by rw [HOPS.out]; simp only [List.getElem?_toArray, List.getElem?_cons_succ, List.getElem?_cons_zero]; exact rfl) (Or.inl ⟨rfl, ?_⟩) ?_
        rotate_left
        · (intro w hSw; have hSx := HFA.out _ hSw; (try dsimp only at hSx); clear hSw; go_simp) <;> (with_reducible rfl)
        simp only [Act.put, List.setIfInBounds_toArray, List.set_cons_zero, List.set_cons_succ]
        refine walkO_take (o := _) (v := ?_) (by rw [HOPS.out]; simp only [List.getElem?_toArray, List.getElem?_cons_succ, List.getElem?_cons_zero]; exact rfl) (Or.inl ⟨rfl, ?_⟩) ?_
        rotate_left
        · (intro w hSw; have hSx := HFA.out _ hSw; (try dsimp only at hSx); clear hSw; go_simp) <;> (with_reducible rfl)
        simp only [Act.put, List.setIfInBounds_toArray, List.set_cons_zero, List.set_cons_succ]
        refine walkO_take (o := _) (v := ?_) (by rw [HOPS.out]; simp only [List.getElem?_toArray, List.getElem?_cons_succ, List.getElem?_cons_zero]; exact rfl) (Or.inl ⟨rfl, ?_⟩) ?_
        rotate_left
        · (intro w hSw; have hSx := HFA.out _ hSw; (try dsimp only at hSx); clear hSw; go_simp) <;> (with_reducible rfl)
        simp only [Act.put, List.setIfInBounds_toArray, List.set_cons_zero, List.set_cons_succ]
        refine walkO_call (o := _) (by rw [HOPS.out]; simp only [List.getElem?_toArray, List.getElem?_cons_succ, List.getElem?_cons_zero]; exact rfl) (fun K HK => ?_)
        refine step_call rfl 59 #[(.tmp 125), (.tmp 128)] #[25, 3] rfl HEL.out #[.int .u64 T0, .int .i64 s.lat] (by simp [Act.eval]) (HLT.out wr.drew) ?_
        rintro e w9 ⟨rfl, rfl⟩
        obtain ⟨wd, hwd, fdw⟩ : ∃ W, wr.drew = W ∧ Fr [] wr W := ⟨_, rfl, (Fr.refl _ _).drew⟩
        rw [hwd]
        have gd := g.then0 fdw
        refine ⟨_, rfl, ?_⟩
        refine HK.out (fun w' => Fr [] w3 w') _ _ (fun _ h => h) (gd) ?_
        clear HK K
        simp only [Act.put, List.setIfInBounds_toArray, List.set_cons_zero, List.set_cons_succ]
        refine walkO_take (o := _) (v := ?_) (by rw [HOPS.out]; simp only [List.getElem?_toArray, List.getElem?_cons_succ, List.getElem?_cons_zero]; exact rfl) (Or.inl ⟨rfl, ?_⟩) ?_
        rotate_left
        · (intro w hSw; have hSx := HFA.out _ hSw; (try dsimp only at hSx); clear hSw; go_simp) <;> (with_reducible rfl)
        simp only [Act.put, List.setIfInBounds_toArray, List.set_cons_zero, List.set_cons_succ]
        refine walkO_call (o := _) (by rw [HOPS.out]; simp only [List.getElem?_toArray, List.getElem?_cons_succ, List.getElem?_cons_zero]; exact rfl) (fun K HK => ?_)
        go_simp
        obtain ⟨w5, hw5, f5, q5⟩ : ∃ W, wd.alloc (.cells #[.int .u8 xc.toNat, .int .u64 (atH s now rN)] 100) = W ∧ Fr [] wd W ∧ W.heap[wd.heap.size]? = some (.cells #[.int .u8 xc.toNat, .int .u64 (atH s now rN)] 100 (0, 0)) := ⟨_, rfl, (Fr.refl _ _).alloc _, newA rfl⟩
        try rw [hw5]
        have g5 : Fr [] w3 w5 := gd.then0 f5
        refine HK.out (fun w' => Fr [] w3 w') _ _ (fun _ h => h) (g5) ?_
        clear HK K
        try simp only [Act.put, List.setIfInBounds_toArray, List.set_cons_zero, List.set_cons_succ]
        refine walkO_call (o := _) (by rw [HOPS.out]; simp only [List.getElem?_toArray, List.getElem?_cons_succ, List.getElem?_cons_zero]; exact rfl) (fun K HK => ?_)
        have hz5 := lt_of_heap q5
        refine step_by_append rfl (.tmp 119) (.tmp 131) rfl rfl (v := u15) (M := w3.heap.size) (xs := flatS s.segs ++ (data.take q).map (·, atH s now rN)) (ys := [(xc, atH s now rN)]) rfl ((OB.out.keep fdw (by simp)).keep f5 (by simp)) rfl rfl (fun _ => ⟨_, 0, rfl, hz5, by simp, fun i x hx => ?_⟩) (by rw [List.length_append, List.length_map, List.length_take, ← HNL.out.1]; simp; omega) (Nat.le_trans gd.size f5.size) ?_
        · have hi : i = 0 := by have := (List.getElem?_eq_some_iff.1 hx).1; simpa using this
          subst hi
          simp at hx
          subst hx
          exact ⟨cell_of q5, cell_of q5⟩
        intro v6 w6 ob6 f6
        have g6 : Fr [] w3 w6 := g5.trans f6 (fun _ h => .inl h) (fun x hx => .inr ((OB.out.lt x (by simpa using hx)).1))
        refine HK.out (fun w' => Fr [] w3 w') _ _ (fun _ h => h) (g6) ?_
        clear HK K
        try simp only [Act.put, List.setIfInBounds_toArray, List.set_cons_zero, List.set_cons_succ]
        refine walkO_take (o := _) (v := ?_) (by rw [HOPS.out]; simp only [List.getElem?_toArray, List.getElem?_cons_succ, List.getElem?_cons_zero]; exact rfl) (Or.inl ⟨rfl, ?_⟩) ?_
        rotate_left
        · (intro w hSw; have hSx := HFA.out _ hSw; (try dsimp only at hSx); clear hSw; go_simp) <;> (with_reducible rfl)
        simp only [Act.put, List.setIfInBounds_toArray, List.set_cons_zero, List.set_cons_succ]
        refine walkO_done ?_
        clear HOPS OPS
        clear HFA
        try simp only [Exit.then]
        go_wp2_with fail
        go_roundw
        case rel => exact ⟨q + 1, by omega, by go_num, Lib.hid (by have h_ := ob6.out; rw [List.append_assoc, ← HNX.out] at h_; exact h_), g6⟩
        case measure => simp [intOf]; omega
    · have hqK : rN = q := by omega
      obtain ⟨a5, c5, e5, hb5, hlc, hcm⟩ := OB.out.byV (L := []) (by simp)
      have hlen5 : (flatS s.segs ++ (data.take q).map (·, atH s now rN)).length = nl + rN := by rw [List.length_append, List.length_map, List.length_take, ← HNL.out.1]; omega
      rw [hlen5] at e5 hlc
      subst e5
      have OBL := Lib.hid OB.out.lt
      have HB5 : Hid (ByV wr (w.heap.size :: (w.heap.size + 1) :: (w.heap.size + 2) :: (L' ++ Lm)) a5 (flatS s.segs ++ (data.take q).map (·, atH s now rN))) := Lib.hid (fun h0 => by
        obtain ⟨b_, o_, e_, hb_, _, hc_⟩ := hb5 h0
        have hm_ := (OBL.out b_ (by rw [e_]; rfl)).1
        have hz_ := g3.size
        have hzB := lt_of_heap Q2.out
        refine ⟨b_, o_, e_, hb_, fun hx => ?_, hc_⟩
        simp at hx
        rcases hx with rfl | rfl | rfl | hx | hx
        · omega
        · omega
        · omega
        · have := HS3.out.old _ hx; omega
        · have := HLO.out _ hx; omega)
      have HSEG : Hid (flatS S2.segs = flatS s.segs ++ (data.take q).map (·, atH s now rN)) := Lib.hid (by rw [HS2.out]; show flatS (s.segs ++ _) = _; rw [flatS_append]; simp [flatS]; rw [hqK])
      have HLN5 := Lib.hid hlen5
      have R0 := Lib.hid (g.keep Q0.out (by simp))
      have R1 := Lib.hid (g.keep Q1.out (by simp))
      have R2 := Lib.hid (g.keep Q2.out (by simp))
      obtain ⟨wA, hwA, qA, fA⟩ : ∃ W, (wr.setCell ⟨w.heap.size, 7, none⟩ (.slice a5 (nl + rN) c5)).setCell ⟨w.heap.size, 10, none⟩ (.int .u64 now) = W ∧ W.heap[w.heap.size]? = some (.cells #[.pointer (some ⟨mb, 0, none⟩), .int .i64 s.r, .int .i64 s.p, .int .i64 s.u, .int .i64 s.lat, .int .i64 s.lim, .int .u64 now0, .slice a5 (nl + rN) c5, .bool false, .int .u64 s.fin, .int .u64 now] 64 (0, 0)) ∧ Fr [w.heap.size] wr W := ⟨_, rfl, (by have q_ := heap_setCell_eq (i := 10) (u := .int .u64 now) (heap_setCell_eq (i := 7) (u := .slice a5 (nl + rN) c5) R0.out); simpa using q_), ((Fr.refl [w.heap.size] wr).setCell (.inl (by simp)) _).setCell (.inl (by simp)) _⟩
      have HX := Lib.hid (show Fr (mb :: L) w wA ∧ Shp wA L' b k S2 ∧ Md wA (w.heap.size :: (w.heap.size + 1) :: (w.heap.size + 2) :: (L' ++ Lm)) mb S2 (.agg #[.pointer (some ⟨mb, 0, none⟩), .int .i64 s.r, .int .i64 s.p, .int .i64 s.u, .int .i64 s.lat, .int .i64 s.lim, .int .u64 now0, .slice a5 (nl + rN) c5, .bool false, .int .u64 s.fin, .int .u64 now]) from by
        have zA := lt_of_heap qA
        refine ⟨(g3.then0 g).trans fA (fun _ h => .inl h) (fun x hx => .inr (by simp at hx; omega)), ?_, ⟨⟨a5, nl + rN, c5, now0, ?_, ?_, ?_, hlc, hcm⟩, ?_, hmbL⟩⟩
        · rw [HS2.out]; exact (HS3.out.keep0 g).keep fA (fun y hy hm => by simp at hy; rcases HLS.out _ hm with h_ | h_; have := HOLD.out _ h_; omega; omega)
        · rw [HS2.out]; dsimp only; rw [hc.out]
        · rw [HSEG.out]; exact HB5.out.keep fA (fun y hy => .inl (by simp at hy; simp [hy])) (fun y hy => .inl hy)
        · rw [HSEG.out, HLN5.out]
        · rw [HS2.out]; exact fA.keep (g.keep k3.out (by simp)) (by simp; omega))
      have d7 : wr.cell? ⟨w.heap.size, 7, none⟩ = some (.slice ma nl mc) := cell_of R0.out
      have d10 : wr.cell? ⟨w.heap.size, 10, none⟩ = some (.int .u64 s.last) := cell_of R0.out
      have df7 : wr.frozen? ⟨w.heap.size, 7, none⟩ = false := free_of R0.out
      have df10 : wr.frozen? ⟨w.heap.size, 10, none⟩ = false := free_of R0.out
      have db1 : wr.cell? ⟨w.heap.size + 1, 1, none⟩ = some (.int .u64 now) := cell_of R1.out
      replace Q0 := Lib.hid qA
      replace Q1 := Lib.hid (fA.keep R1.out (by simp))
      replace Q2 := Lib.hid (fA.keep R2.out (by simp))
      subst hqK
      clear HB5 HSEG HLN5 R0 R1 R2 qA fA OB OBL hb5 hlen5 g hlt
      go_wp2_with fail
      clear d7 d10 df7 df10 db1
      have fd : Fr [w.heap.size + 2] wA wA.drew := (Fr.refl _ _).drew
      have HFA := Lib.hid fun (w' : World) (f : Fr [w.heap.size + 2] wA w') => (show w'.cell? ⟨w.heap.size, 0, none⟩ = some (.pointer (some ⟨mb, 0, none⟩)) ∧ w'.cell? ⟨w.heap.size, 1, none⟩ = some (.int .i64 s.r) ∧ w'.cell? ⟨w.heap.size, 2, none⟩ = some (.int .i64 s.p) ∧ w'.cell? ⟨w.heap.size, 3, none⟩ = some (.int .i64 s.u) ∧ w'.cell? ⟨w.heap.size, 4, none⟩ = some (.int .i64 s.lat) ∧ w'.cell? ⟨w.heap.size, 5, none⟩ = some (.int .i64 s.lim) ∧ w'.cell? ⟨w.heap.size, 6, none⟩ = some (.int .u64 now0) ∧ w'.cell? ⟨w.heap.size, 7, none⟩ = some (.slice a5 (nl + rN) c5) ∧ w'.cell? ⟨w.heap.size, 8, none⟩ = some (.bool false) ∧ w'.cell? ⟨w.heap.size, 9, none⟩ = some (.int .u64 s.fin) ∧ w'.cell? ⟨w.heap.size, 10, none⟩ = some (.int .u64 now) ∧ w'.cell? ⟨w.heap.size + 1, 0, none⟩ = some (.int .i64 0) ∧ w'.cell? ⟨w.heap.size + 1, 1, none⟩ = some (.int .u64 now) ∧ w'.cell? ⟨w.heap.size + 1, 2, none⟩ = some (.slice (some ⟨pb, po, none⟩) data.length pc) ∧ w'.cell? ⟨w.heap.size + 1, 3, none⟩ = some (.int .i64 n) from (let q' := f.keep Q0.out (by simp); let a' := f.keep Q1.out (by simp); ⟨cell_of q', cell_of q', cell_of q', cell_of q', cell_of q', cell_of q', cell_of q', cell_of q', cell_of q', cell_of q', cell_of q', cell_of a', cell_of a', cell_of a', cell_of a'⟩))
      refine wp_region_order [(0, true), (1, true), (2, true), (3, true), (4, true), (5, true), (6, true), (7, true), (8, true), (9, true), (10, false), (11, true)] (fun w' => Fr [w.heap.size + 2] wA w') (by kernel_rfl) (by kernel_rfl) fd ?_
      intro OPS HOPS
      have hops := HOPS.out
      try simp only [List.append_eq, List.cons_append, List.nil_append] at hops
      replace HOPS := Lib.hid hops
      clear hops
      refine walkO_take (o := _) (v := ?_) (by rw [HOPS.out]; simp only [List.getElem?_toArray, List.getElem?_cons_succ, List.getElem?_cons_zero]; exact rfl) (Or.inl ⟨rfl, ?_⟩) ?_
      rotate_left
      · (intro w hSw; have hSx := HFA.out _ hSw; (try dsimp only at hSx); clear hSw; go_simp) <;> (with_reducible rfl)
      simp only [Act.put, List.setIfInBounds_toArray, List.set_cons_zero, List.set_cons_succ]
      refine walkO_take (o := _) (v := ?_) (by rw [HOPS.out]; simp only [List.getElem?_toArray, List.getElem?_cons_succ, List.getElem?_cons_zero]; exact rfl) (Or.inl ⟨rfl, ?_⟩) ?_
      rotate_left
      · (intro w hSw; have hSx := HFA.out _ hSw; (try dsimp only at hSx); clear hSw; go_simp) <;> (with_reducible rfl)
      simp only [Act.put, List.setIfInBounds_toArray, List.set_cons_zero, List.set_cons_succ]
      refine walkO_take (o := _) (v := ?_) (by rw [HOPS.out]; simp only [List.getElem?_toArray, List.getElem?_cons_succ, List.getElem?_cons_zero]; exact rfl) (Or.inl ⟨rfl, ?_⟩) ?_
      rotate_left
      · (intro w hSw; have hSx := HFA.out _ hSw; (try dsimp only at hSx); clear hSw; go_simp) <;> (with_reducible rfl)
      simp only [Act.put, List.setIfInBounds_toArray, List.set_cons_zero, List.set_cons_succ]
      refine walkO_take (o := _) (v := ?_) (by rw [HOPS.out]; simp only [List.getElem?_toArray, List.getElem?_cons_succ, List.getElem?_cons_zero]; exact rfl) (Or.inl ⟨rfl, ?_⟩) ?_
      rotate_left
      · (intro w hSw; have hSx := HFA.out _ hSw; (try dsimp only at hSx); clear hSw; go_simp) <;> (with_reducible rfl)
      simp only [Act.put, List.setIfInBounds_toArray, List.set_cons_zero, List.set_cons_succ]
      refine walkO_take (o := _) (v := ?_) (by rw [HOPS.out]; simp only [List.getElem?_toArray, List.getElem?_cons_succ, List.getElem?_cons_zero]; exact rfl) (Or.inl ⟨rfl, ?_⟩) ?_
      rotate_left
      · (intro w hSw; have hSx := HFA.out _ hSw; (try dsimp only at hSx); clear hSw; go_simp) <;> (with_reducible rfl)
      simp only [Act.put, List.setIfInBounds_toArray, List.set_cons_zero, List.set_cons_succ]
      refine walkO_take (o := _) (v := ?_) (by rw [HOPS.out]; simp only [List.getElem?_toArray, List.getElem?_cons_succ, List.getElem?_cons_zero]; exact rfl) (Or.inl ⟨rfl, ?_⟩) ?_
      rotate_left
      · (intro w hSw; have hSx := HFA.out _ hSw; (try dsimp only at hSx); clear hSw; go_simp) <;> (with_reducible rfl)
      simp only [Act.put, List.setIfInBounds_toArray, List.set_cons_zero, List.set_cons_succ]
      refine walkO_take (o := _) (v := ?_) (by rw [HOPS.out]; simp only [List.getElem?_toArray, List.getElem?_cons_succ, List.getElem?_cons_zero]; exact rfl) (Or.inl ⟨by rw [HOPS.out]; rfl, ?_⟩) ?_
      rotate_left
      · (intro w hSw; have hSx := HFA.out _ hSw; (try dsimp only at hSx); clear hSw; go_simp) <;> (with_reducible rfl)
      simp only [Act.put, List.setIfInBounds_toArray, List.set_cons_zero, List.set_cons_succ]
      refine walkO_take (o := _) (v := ?_) (by rw [HOPS.out]; simp only [List.getElem?_toArray, List.getElem?_cons_succ, List.getElem?_cons_zero]; exact rfl) (Or.inl ⟨by rw [HOPS.out]; rfl, ?_⟩) ?_
      rotate_left
      · (intro w hSw; have hSx := HFA.out _ hSw; (try dsimp only at hSx); clear hSw; go_simp) <;> (with_reducible rfl)
      simp only [Act.put, List.setIfInBounds_toArray, List.set_cons_zero, List.set_cons_succ]
      refine walkO_take (o := _) (v := ?_) (by rw [HOPS.out]; simp only [List.getElem?_toArray, List.getElem?_cons_succ, List.getElem?_cons_zero]; exact rfl) (Or.inl ⟨rfl, ?_⟩) ?_
      rotate_left
      · (intro w hSw; have hSx := HFA.out _ hSw; (try dsimp only at hSx); clear hSw; go_simp) <;> (with_reducible rfl)
      simp only [Act.put, List.setIfInBounds_toArray, List.set_cons_zero, List.set_cons_succ]
      refine walkO_take (o := _) (v := ?_) (by rw [HOPS.out]; simp only [List.getElem?_toArray, List.getElem?_cons_succ, List.getElem?_cons_zero]; exact rfl) (Or.inl ⟨rfl, ?_⟩) ?_
      rotate_left
      · (intro w hSw; have hSx := HFA.out _ hSw; (try dsimp only at hSx); clear hSw; go_simp) <;> (with_reducible rfl)
      simp only [Act.put, List.setIfInBounds_toArray, List.set_cons_zero, List.set_cons_succ]
      refine walkO_call (o := _) (by rw [HOPS.out]; simp only [List.getElem?_toArray, List.getElem?_cons_succ, List.getElem?_cons_zero]; exact rfl) (fun K HK => ?_)
      obtain ⟨wE, hwE, qE, fE⟩ := setRow_fr (cs := #[.pointer (some ⟨mb, 0, none⟩), .int .i64 s.r, .int .i64 s.p, .int .i64 s.u, .int .i64 s.lat, .int .i64 s.lim, .int .u64 now0, .slice a5 (nl + rN) c5, .bool false, .int .u64 s.fin, .int .u64 now]) (show wA.drew.heap[w.heap.size + 2]? = _ from Q2.out)
      refine step_store_row rfl 64 (.tmp 7) (.tmp 139) rfl (w.heap.size + 2) #[.pointer (some ⟨mb, 0, none⟩), .int .i64 s.r, .int .i64 s.p, .int .i64 s.u, .int .i64 s.lat, .int .i64 s.lim, .int .u64 now0, .slice a5 (nl + rN) c5, .bool false, .int .u64 s.fin, .int .u64 now] rfl rfl _ _ (show wA.drew.heap[w.heap.size + 2]? = _ from Q2.out) (by kernel_rfl) rfl (by simp [Value.oneCell']) hwE ?_
      have gE : Fr [w.heap.size + 2] wA wE := fd.trans fE (fun _ h => .inl h) (fun x hx => .inl hx)
      refine HK.out (fun w' => Fr [w.heap.size + 2] wA w') _ _ (fun _ h => h) (gE) ?_
      clear HK K
      try simp only [Act.put, List.setIfInBounds_toArray, List.set_cons_zero, List.set_cons_succ]
      refine walkO_take (o := _) (v := ?_) (by rw [HOPS.out]; simp only [List.getElem?_toArray, List.getElem?_cons_succ, List.getElem?_cons_zero]; exact rfl) (Or.inl ⟨rfl, ?_⟩) ?_
      rotate_left
      · (intro w hSw; have hSx := HFA.out _ hSw; (try dsimp only at hSx); clear hSw; go_simp) <;> (with_reducible rfl)
      simp only [Act.put, List.setIfInBounds_toArray, List.set_cons_zero, List.set_cons_succ]
      refine walkO_done ?_
      clear HOPS OPS
      clear HFA
      try simp only [Exit.then]
      go_wp2_with fail
      refine bodyPost_ret (m41_result3 qE (by kernel_rfl) rfl rfl rfl rfl) rfl ?_
      obtain ⟨x1, x2, x3⟩ := HX.out
      exact ⟨b, k, L', _, rfl, x1.trans gE (fun _ h => .inl h) (fun x hx => .inr (by simp at hx; omega)), x2.keep gE (fun y hy hm => by simp at hy; rcases HLS.out _ hm with h_ | h_; have := HOLD.out _ h_; omega; omega), x3.keep gE (fun y hy => .inl (by simp at hy; simp [hy])) (fun y hy => .inl (List.mem_cons_of_mem _ (List.mem_cons_of_mem _ (List.mem_cons_of_mem _ hy)))), HLW.out⟩
end Go.Proofs.Ytdndabklcenndaa
