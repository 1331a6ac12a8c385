/-
  Law 41: step: Receive.
-/
import Derived.Test.YtdndabklcenndaaShStepB
import Derived.Test.YtdndabklcenndaaShStepY
import Derived.Deep.DeepCutAuto
namespace Go.Proofs.Ytdndabklcenndaa
open Go.RowKit
set_option maxRecDepth 100000

set_option maxHeartbeats 16000000 in
theorem step41_r2wn {w : World} {L : List Nat} {b k mb : Nat} {s : SH} {v : Value} (h : Shp w L b k s) {Lm : List Nat} (hm : Md w Lm mb s v) (hLm : ∀ y ∈ L, y ∈ Lm) (hLo : ∀ y ∈ Lm, y < w.heap.size) {pa : Option Addr} {pc : Nat} {data : List UInt8} (hd : Sl w pa (bi data)) (hdo : ∀ b' o', 0 < data.length → pa = some ⟨b', o', none⟩ → b' ∉ L ∧ b' ≠ mb) (hdl : data.length ≤ 100) (hpc : data.length ≤ pc) {now n : Int} (h0 : 0 ≤ now) (h1 : now ≤ 18446744073709551615) (hwr : now < s.last ∨ now = 18446744073709551615) (hn : n < 0) :
    Calls Try.prog 36 #[.pointer (some ⟨b, 0, none⟩), v, .agg #[.int .i64 1, .int .u64 now, .slice pa data.length pc, .int .i64 n]] w (Step41 w L Lm mb (recvS s now n)) := by
  have hE : recvE s now n = 2 := by unfold recvE; rw [show (decide (0 ≤ n) && decide (n ≤ 65536)) = false by simp; omega]; rw [if_pos (by simp [mayE])]; rfl
  have hH := recvS_bad (s := s) (now := now) (most := n) (by rw [hE]; decide)
  have hB := recvB_bad (s := s) (now := now) (most := n) (by rw [hE]; decide)
  rw [hH]
  obtain ⟨⟨ma, nl, mc, now0, rfl, hby, hnl, hmc, hmx⟩, hbk, hmb⟩ := hm
  have HM := Lib.hid (show Md w Lm mb s (.agg #[.pointer (some ⟨mb, 0, none⟩), .int .i64 s.r, .int .i64 s.p, .int .i64 s.u, .int .i64 s.lat, .int .i64 s.lim, .int .u64 now0, .slice ma nl mc, .bool s.closed, .int .u64 s.fin, .int .u64 s.last]) from ⟨⟨ma, nl, mc, now0, rfl, hby, hnl, hmc, hmx⟩, hbk, hmb⟩)
  have hmbl := lt_of_heap hbk
  have HBK0 := Lib.hid hbk
  have HBY := Lib.hid hby
  have HNL := Lib.hid (And.intro hnl (And.intro hmc hmx))
  have HOLD := Lib.hid h.old
  have HLM := Lib.hid hLm
  have HLO := Lib.hid hLo
  have hmb0 : mb ∉ L := fun hm => hmb (hLm _ hm)
  clear hLm hLo
  have hnl2 : nl ≤ 65536 := by have := h.ok.tot; have := h.ok.lim1; have := flatS_length s.segs; omega
  obtain ⟨w0, hw0, f0, q0, q1, q2⟩ : ∃ W, ((w.alloc (.cells #[.pointer (some ⟨mb, 0, none⟩), .int .i64 s.r, .int .i64 s.p, .int .i64 s.u, .int .i64 s.lat, .int .i64 s.lim, .int .u64 now0, .slice ma nl mc, .bool s.closed, .int .u64 s.fin, .int .u64 s.last] 64)).alloc (.cells #[.int .i64 1, .int .u64 now, .slice pa data.length pc, .int .i64 n] 77)).alloc (.cells #[.pointer none, .int .i64 0, .int .i64 0, .int .i64 0, .int .i64 0, .int .i64 0, .int .u64 0, .slice none 0 0, .bool false, .int .u64 0, .int .u64 0] 64) = W ∧ Fr [] w W ∧ W.heap[w.heap.size]? = some (.cells #[.pointer (some ⟨mb, 0, none⟩), .int .i64 s.r, .int .i64 s.p, .int .i64 s.u, .int .i64 s.lat, .int .i64 s.lim, .int .u64 now0, .slice ma nl mc, .bool s.closed, .int .u64 s.fin, .int .u64 s.last] 64 (0, 0)) ∧ W.heap[w.heap.size + 1]? = some (.cells #[.int .i64 1, .int .u64 now, .slice pa data.length pc, .int .i64 n] 77 (0, 0)) ∧ W.heap[w.heap.size + 2]? = some (.cells #[.pointer none, .int .i64 0, .int .i64 0, .int .i64 0, .int .i64 0, .int .i64 0, .int .u64 0, .slice none 0 0, .bool false, .int .u64 0, .int .u64 0] 64 (0, 0)) := ⟨_, rfl, (((Fr.refl _ _).alloc _).alloc _).alloc _, keepA (keepA (newA rfl)), keepA (newA (by simp)), newA (by simp)⟩
  have a0 : w0.cell? ⟨w.heap.size + 1, 0, none⟩ = some (.int .i64 1) := cell_of q1
  have a1 : w0.cell? ⟨w.heap.size + 1, 1, none⟩ = some (.int .u64 now) := cell_of q1
  have a2 : w0.cell? ⟨w.heap.size + 1, 2, none⟩ = some (.slice pa data.length pc) := cell_of q1
  have a3 : w0.cell? ⟨w.heap.size + 1, 3, none⟩ = some (.int .i64 n) := cell_of q1
  have HWR := Lib.hid fun (w : World) => wrong41_bad (c0 := .pointer (some ⟨mb, 0, none⟩)) (c1 := .int .i64 s.r) (c2 := .int .i64 s.p) (c3 := .int .i64 s.u) (c4 := .int .i64 s.lat) (c5 := .int .i64 s.lim) (c6 := .int .u64 now0) (c7 := .slice ma nl mc) (c8 := .bool s.closed) (c9 := .int .u64 s.fin) w hwr
  clear hby hnl hmc hmx hbk hwr
  go_enter Try.func36, Try.ntmps36
  go_wp2_with (refine wpList_load_row rfl 64 (.tmp 4) rfl _ rfl _ _ _ _ q0 Try.underlying64 rfl (by kernel_rfl) ?_)
  refine (HWR.out _).mono ?_
  rintro e w1 ⟨rfl, f1⟩
  have g1 : Fr [] w w1 := f0.then0 f1
  have Q0 := Lib.hid (f1.keep q0 (by simp))
  have Q1 := Lib.hid (f1.keep q1 (by simp))
  have Q2 := Lib.hid (f1.keep q2 (by simp))
  replace HM := Lib.hid (HM.out.keep (L' := w.heap.size :: (w.heap.size + 1) :: (w.heap.size + 2) :: (L ++ Lm)) g1 (by simp) (fun y hy => by simp at hy; rcases hy with rfl | rfl | rfl | hy | hy; exact .inr (by omega); exact .inr (by omega); exact .inr (by omega); exact .inl (HLM.out y hy); exact .inl hy))
  replace HBY := Lib.hid (HBY.out.keep (L' := w.heap.size :: (w.heap.size + 1) :: (w.heap.size + 2) :: (L ++ Lm)) g1 (by simp) (fun y hy => by simp at hy; rcases hy with rfl | rfl | rfl | hy | hy; exact .inr (by omega); exact .inr (by omega); exact .inr (by omega); exact .inl (HLM.out y hy); exact .inl hy))
  clear a0 a1 a2 a3 HWR hw0 q0 q1 q2 f1 f0
  have e0 : w1.cell? ⟨w.heap.size + 1, 1, none⟩ = some (.int .u64 now) := cell_of Q1.out
  have a0 : w1.cell? ⟨w.heap.size + 1, 0, none⟩ = some (.int .i64 1) := cell_of Q1.out
  have a2 : w1.cell? ⟨w.heap.size + 1, 2, none⟩ = some (.slice pa data.length pc) := cell_of Q1.out
  have a3 : w1.cell? ⟨w.heap.size + 1, 3, none⟩ = some (.int .i64 n) := cell_of Q1.out
  have HCL := Lib.hid (sh_recv (most := n) (h.keep0 g1) h0 h1)
  rw [hE, hH, hB] at HCL
  clear h hE hH hB
  go_wp2_with fail
  refine HCL.out.mono ?_
  rintro e w2 ⟨v, rfl, f2, s2, o2⟩
  obtain ⟨va, vc, rfl, _, _, _, _⟩ := o2.formB
  rw [List.length_nil]
  replace s2 := Lib.hid s2
  clear HCL a0 a2 a3 e0 o2
  replace Q0 := Lib.hid (f2.keep Q0.out (fun hm => by have h1_ := HOLD.out _ hm; omega))
  replace Q1 := Lib.hid (f2.keep Q1.out (fun hm => by have h1_ := HOLD.out _ hm; omega))
  replace Q2 := Lib.hid (f2.keep Q2.out (fun hm => by have h1_ := HOLD.out _ hm; omega))
  have HM2 := Lib.hid (HM.out.keep (L' := w.heap.size :: (w.heap.size + 1) :: (w.heap.size + 2) :: (L ++ Lm)) f2 (fun y hy => .inl (by simp [hy])) (fun y hy => .inl hy))
  replace HBY := Lib.hid (HBY.out.keep (L' := w.heap.size :: (w.heap.size + 1) :: (w.heap.size + 2) :: (L ++ Lm)) f2 (fun y hy => .inl (by simp [hy])) (fun y hy => .inl hy))
  have g2 : Fr (mb :: L) w w2 := (g1.mono (T := mb :: L) (by simp)).trans f2 (fun _ h => .inl h) (fun x hx => .inl (by simp [hx]))
  have d1 : w2.cell? ⟨w.heap.size + 1, 1, none⟩ = some (.int .u64 now) := cell_of Q1.out
  have d3 : w2.cell? ⟨w.heap.size + 1, 3, none⟩ = some (.int .i64 n) := cell_of Q1.out
  have m7 : w2.cell? ⟨w.heap.size, 7, none⟩ = some (.slice ma nl mc) := cell_of Q0.out
  have m8 : w2.cell? ⟨w.heap.size, 8, none⟩ = some (.bool s.closed) := cell_of Q0.out
  have m9 : w2.cell? ⟨w.heap.size, 9, none⟩ = some (.int .u64 s.fin) := cell_of Q0.out
  clear f2 HM g1
  go_wp2_with fail
  have fd : Fr [w.heap.size + 2] w2 w2.drew := (Fr.refl _ _).drew
  have HFA := Lib.hid fun (w' : World) (f : Fr [w.heap.size + 2] w2 w') => (show w'.cell? ⟨w.heap.size, 0, none⟩ = some (.pointer (some ⟨mb, 0, none⟩)) ∧ w'.cell? ⟨w.heap.size, 1, none⟩ = some (.int .i64 s.r) ∧ w'.cell? ⟨w.heap.size, 2, none⟩ = some (.int .i64 s.p) ∧ w'.cell? ⟨w.heap.size, 3, none⟩ = some (.int .i64 s.u) ∧ w'.cell? ⟨w.heap.size, 4, none⟩ = some (.int .i64 s.lat) ∧ w'.cell? ⟨w.heap.size, 5, none⟩ = some (.int .i64 s.lim) ∧ w'.cell? ⟨w.heap.size, 6, none⟩ = some (.int .u64 now0) ∧ w'.cell? ⟨w.heap.size, 7, none⟩ = some (.slice ma nl mc) ∧ w'.cell? ⟨w.heap.size, 8, none⟩ = some (.bool s.closed) ∧ w'.cell? ⟨w.heap.size, 9, none⟩ = some (.int .u64 s.fin) ∧ w'.cell? ⟨w.heap.size, 10, none⟩ = some (.int .u64 s.last) ∧ w'.cell? ⟨w.heap.size + 1, 0, none⟩ = some (.int .i64 1) ∧ w'.cell? ⟨w.heap.size + 1, 1, none⟩ = some (.int .u64 now) ∧ w'.cell? ⟨w.heap.size + 1, 2, none⟩ = some (.slice pa data.length pc) ∧ w'.cell? ⟨w.heap.size + 1, 3, none⟩ = some (.int .i64 n) from (let q' := f.keep Q0.out (by simp); let a' := f.keep Q1.out (by simp); ⟨cell_of q', cell_of q', cell_of q', cell_of q', cell_of q', cell_of q', cell_of q', cell_of q', cell_of q', cell_of q', cell_of q', cell_of a', cell_of a', cell_of a', cell_of a'⟩))
  refine wp_region_order [(0, true), (1, true), (2, true), (3, true), (4, true), (5, true), (6, true), (7, true), (8, true), (9, true), (10, true), (11, false), (12, true)] (fun w' => Fr [w.heap.size + 2] w2 w') (by kernel_rfl) (by kernel_rfl) fd ?_
  intro OPS HOPS
  have hops := HOPS.out
  try simp only [List.append_eq, List.cons_append, List.nil_append] at hops
  replace HOPS := Lib.hid hops
  clear hops
  refine walkO_take (o := _) (v := ?_) (by rw [HOPS.out]; simp only [List.getElem?_toArray, List.getElem?_cons_succ, List.getElem?_cons_zero]; exact rfl) (Or.inl ⟨rfl, ?_⟩) ?_
  rotate_left
  · (intro w hSw; have hSx := HFA.out _ hSw; (try dsimp only at hSx); clear hSw; go_simp) <;> (with_reducible rfl)
  simp only [Act.put, List.setIfInBounds_toArray, List.set_cons_zero, List.set_cons_succ]
  refine walkO_take (o := _) (v := ?_) (by rw [HOPS.out]; simp only [List.getElem?_toArray, List.getElem?_cons_succ, List.getElem?_cons_zero]; exact rfl) (Or.inl ⟨rfl, ?_⟩) ?_
  rotate_left
  · (intro w hSw; have hSx := HFA.out _ hSw; (try dsimp only at hSx); clear hSw; go_simp) <;> (with_reducible rfl)
  simp only [Act.put, List.setIfInBounds_toArray, List.set_cons_zero, List.set_cons_succ]
  refine walkO_take (o := _) (v := ?_) (by rw [HOPS.out]; simp only [List.getElem?_toArray, List.getElem?_cons_succ, List.getElem?_cons_zero]; exact rfl) (Or.inl ⟨rfl, ?_⟩) ?_
  rotate_left
  · (intro w hSw; have hSx := HFA.out _ hSw; (try dsimp only at hSx); clear hSw; go_simp) <;> (with_reducible rfl)
  simp only [Act.put, List.setIfInBounds_toArray, List.set_cons_zero, List.set_cons_succ]
  refine walkO_take (o := _) (v := ?_) (by rw [HOPS.out]; simp only [List.getElem?_toArray, List.getElem?_cons_succ, List.getElem?_cons_zero]; exact rfl) (Or.inl ⟨rfl, ?_⟩) ?_
  rotate_left
  · (intro w hSw; have hSx := HFA.out _ hSw; (try dsimp only at hSx); clear hSw; go_simp) <;> (with_reducible rfl)
  simp only [Act.put, List.setIfInBounds_toArray, List.set_cons_zero, List.set_cons_succ]
  refine walkO_take (o := _) (v := ?_) (by rw [HOPS.out]; simp only [List.getElem?_toArray, List.getElem?_cons_succ, List.getElem?_cons_zero]; exact rfl) (Or.inl ⟨rfl, ?_⟩) ?_
  rotate_left
  · (intro w hSw; have hSx := HFA.out _ hSw; (try dsimp only at hSx); clear hSw; go_simp) <;> (with_reducible rfl)
  simp only [Act.put, List.setIfInBounds_toArray, List.set_cons_zero, List.set_cons_succ]
  refine walkO_take (o := _) (v := ?_) (by rw [HOPS.out]; simp only [List.getElem?_toArray, List.getElem?_cons_succ, List.getElem?_cons_zero]; exact rfl) (Or.inl ⟨rfl, ?_⟩) ?_
  rotate_left
  · (intro w hSw; have hSx := HFA.out _ hSw; (try dsimp only at hSx); clear hSw; go_simp) <;> (with_reducible rfl)
  simp only [Act.put, List.setIfInBounds_toArray, List.set_cons_zero, List.set_cons_succ]
  refine walkO_take (o := _) (v := ?_) (by rw [HOPS.out]; simp only [List.getElem?_toArray, List.getElem?_cons_succ, List.getElem?_cons_zero]; exact rfl) (Or.inl ⟨by rw [HOPS.out]; rfl, ?_⟩) ?_
  rotate_left
  · (intro w hSw; have hSx := HFA.out _ hSw; (try dsimp only at hSx); clear hSw; go_simp) <;> (with_reducible rfl)
  simp only [Act.put, List.setIfInBounds_toArray, List.set_cons_zero, List.set_cons_succ]
  refine walkO_take (o := _) (v := ?_) (by rw [HOPS.out]; simp only [List.getElem?_toArray, List.getElem?_cons_succ, List.getElem?_cons_zero]; exact rfl) (Or.inl ⟨by rw [HOPS.out]; rfl, ?_⟩) ?_
  rotate_left
  · (intro w hSw; have hSx := HFA.out _ hSw; (try dsimp only at hSx); clear hSw; go_simp) <;> (with_reducible rfl)
  simp only [Act.put, List.setIfInBounds_toArray, List.set_cons_zero, List.set_cons_succ]
  refine walkO_take (o := _) (v := ?_) (by rw [HOPS.out]; simp only [List.getElem?_toArray, List.getElem?_cons_succ, List.getElem?_cons_zero]; exact rfl) (Or.inl ⟨by rw [HOPS.out]; rfl, ?_⟩) ?_
  rotate_left
  · (intro w hSw; have hSx := HFA.out _ hSw; (try dsimp only at hSx); clear hSw; go_simp) <;> (with_reducible rfl)
  simp only [Act.put, List.setIfInBounds_toArray, List.set_cons_zero, List.set_cons_succ]
  refine walkO_take (o := _) (v := ?_) (by rw [HOPS.out]; simp only [List.getElem?_toArray, List.getElem?_cons_succ, List.getElem?_cons_zero]; exact rfl) (Or.inl ⟨rfl, ?_⟩) ?_
  rotate_left
  · (intro w hSw; have hSx := HFA.out _ hSw; (try dsimp only at hSx); clear hSw; go_simp) <;> (with_reducible rfl)
  simp only [Act.put, List.setIfInBounds_toArray, List.set_cons_zero, List.set_cons_succ]
  refine walkO_take (o := _) (v := ?_) (by rw [HOPS.out]; simp only [List.getElem?_toArray, List.getElem?_cons_succ, List.getElem?_cons_zero]; exact rfl) (Or.inl ⟨rfl, ?_⟩) ?_
  rotate_left
  · (intro w hSw; have hSx := HFA.out _ hSw; (try dsimp only at hSx); clear hSw; go_simp) <;> (with_reducible rfl)
  simp only [Act.put, List.setIfInBounds_toArray, List.set_cons_zero, List.set_cons_succ]
  refine walkO_call (o := _) (by rw [HOPS.out]; simp only [List.getElem?_toArray, List.getElem?_cons_succ, List.getElem?_cons_zero]; exact rfl) (fun K HK => ?_)
  obtain ⟨wE, hwE, qE, fE⟩ := setRow_fr (cs := #[.pointer (some ⟨mb, 0, none⟩), .int .i64 s.r, .int .i64 s.p, .int .i64 s.u, .int .i64 s.lat, .int .i64 s.lim, .int .u64 now0, .slice ma nl mc, .bool s.closed, .int .u64 s.fin, .int .u64 s.last]) (show w2.drew.heap[w.heap.size + 2]? = _ from Q2.out)
  refine step_store_row rfl 64 (.tmp 7) (.tmp 188) rfl (w.heap.size + 2) #[.pointer (some ⟨mb, 0, none⟩), .int .i64 s.r, .int .i64 s.p, .int .i64 s.u, .int .i64 s.lat, .int .i64 s.lim, .int .u64 now0, .slice ma nl mc, .bool s.closed, .int .u64 s.fin, .int .u64 s.last] rfl rfl _ _ (show w2.drew.heap[w.heap.size + 2]? = _ from Q2.out) (by kernel_rfl) rfl (by simp [Value.oneCell']) hwE ?_
  have gE : Fr [w.heap.size + 2] w2 wE := fd.trans fE (fun _ h => .inl h) (fun x hx => .inl hx)
  refine HK.out (fun w' => Fr [w.heap.size + 2] w2 w') _ _ (fun _ h => h) (gE) ?_
  clear HK K
  try simp only [Act.put, List.setIfInBounds_toArray, List.set_cons_zero, List.set_cons_succ]
  refine walkO_take (o := _) (v := ?_) (by rw [HOPS.out]; simp only [List.getElem?_toArray, List.getElem?_cons_succ, List.getElem?_cons_zero]; exact rfl) (Or.inl ⟨rfl, ?_⟩) ?_
  rotate_left
  · (intro w hSw; have hSx := HFA.out _ hSw; (try dsimp only at hSx); clear hSw; go_simp) <;> (with_reducible rfl)
  simp only [Act.put, List.setIfInBounds_toArray, List.set_cons_zero, List.set_cons_succ]
  refine walkO_done ?_
  clear HOPS OPS
  clear HFA
  try simp only [Exit.then]
  go_wp2_with fail
  refine bodyPost_ret (m41_result3 qE (by kernel_rfl) rfl rfl rfl rfl) rfl ?_
  exact ⟨b, k, L, _, rfl, g2.trans gE (fun _ h => .inl h) (fun x hx => .inr (by simp at hx; omega)), s2.out.keep gE (fun y hy hm => by simp at hy; have := HOLD.out _ hm; omega), HM2.out.keep gE (fun y hy => .inl (by simp at hy; simp [hy])) (fun y hy => .inl (List.mem_cons_of_mem _ (List.mem_cons_of_mem _ (List.mem_cons_of_mem _ hy)))), fun y hy => .inl hy⟩

set_option maxHeartbeats 16000000 in
theorem step41_r2wp {w : World} {L : List Nat} {b k mb : Nat} {s : SH} {v : Value} (h : Shp w L b k s) {Lm : List Nat} (hm : Md w Lm mb s v) (hLm : ∀ y ∈ L, y ∈ Lm) (hLo : ∀ y ∈ Lm, y < w.heap.size) {pa : Option Addr} {pc : Nat} {data : List UInt8} (hd : Sl w pa (bi data)) (hdo : ∀ b' o', 0 < data.length → pa = some ⟨b', o', none⟩ → b' ∉ L ∧ b' ≠ mb) (hdl : data.length ≤ 100) (hpc : data.length ≤ pc) {now n : Int} (h0 : 0 ≤ now) (h1 : now ≤ 18446744073709551615) (hwr : now < s.last ∨ now = 18446744073709551615) (hn : 65536 < n) :
    Calls Try.prog 36 #[.pointer (some ⟨b, 0, none⟩), v, .agg #[.int .i64 1, .int .u64 now, .slice pa data.length pc, .int .i64 n]] w (Step41 w L Lm mb (recvS s now n)) := by
  have hE : recvE s now n = 2 := by unfold recvE; rw [show (decide (0 ≤ n) && decide (n ≤ 65536)) = false by simp; omega]; rw [if_pos (by simp [mayE])]; rfl
  have hn0 : 0 ≤ n := by omega
  have hH := recvS_bad (s := s) (now := now) (most := n) (by rw [hE]; decide)
  have hB := recvB_bad (s := s) (now := now) (most := n) (by rw [hE]; decide)
  rw [hH]
  obtain ⟨⟨ma, nl, mc, now0, rfl, hby, hnl, hmc, hmx⟩, hbk, hmb⟩ := hm
  have HM := Lib.hid (show Md w Lm mb s (.agg #[.pointer (some ⟨mb, 0, none⟩), .int .i64 s.r, .int .i64 s.p, .int .i64 s.u, .int .i64 s.lat, .int .i64 s.lim, .int .u64 now0, .slice ma nl mc, .bool s.closed, .int .u64 s.fin, .int .u64 s.last]) from ⟨⟨ma, nl, mc, now0, rfl, hby, hnl, hmc, hmx⟩, hbk, hmb⟩)
  have hmbl := lt_of_heap hbk
  have HBK0 := Lib.hid hbk
  have HBY := Lib.hid hby
  have HNL := Lib.hid (And.intro hnl (And.intro hmc hmx))
  have HOLD := Lib.hid h.old
  have HLM := Lib.hid hLm
  have HLO := Lib.hid hLo
  have hmb0 : mb ∉ L := fun hm => hmb (hLm _ hm)
  clear hLm hLo
  have hnl2 : nl ≤ 65536 := by have := h.ok.tot; have := h.ok.lim1; have := flatS_length s.segs; omega
  obtain ⟨w0, hw0, f0, q0, q1, q2⟩ : ∃ W, ((w.alloc (.cells #[.pointer (some ⟨mb, 0, none⟩), .int .i64 s.r, .int .i64 s.p, .int .i64 s.u, .int .i64 s.lat, .int .i64 s.lim, .int .u64 now0, .slice ma nl mc, .bool s.closed, .int .u64 s.fin, .int .u64 s.last] 64)).alloc (.cells #[.int .i64 1, .int .u64 now, .slice pa data.length pc, .int .i64 n] 77)).alloc (.cells #[.pointer none, .int .i64 0, .int .i64 0, .int .i64 0, .int .i64 0, .int .i64 0, .int .u64 0, .slice none 0 0, .bool false, .int .u64 0, .int .u64 0] 64) = W ∧ Fr [] w W ∧ W.heap[w.heap.size]? = some (.cells #[.pointer (some ⟨mb, 0, none⟩), .int .i64 s.r, .int .i64 s.p, .int .i64 s.u, .int .i64 s.lat, .int .i64 s.lim, .int .u64 now0, .slice ma nl mc, .bool s.closed, .int .u64 s.fin, .int .u64 s.last] 64 (0, 0)) ∧ W.heap[w.heap.size + 1]? = some (.cells #[.int .i64 1, .int .u64 now, .slice pa data.length pc, .int .i64 n] 77 (0, 0)) ∧ W.heap[w.heap.size + 2]? = some (.cells #[.pointer none, .int .i64 0, .int .i64 0, .int .i64 0, .int .i64 0, .int .i64 0, .int .u64 0, .slice none 0 0, .bool false, .int .u64 0, .int .u64 0] 64 (0, 0)) := ⟨_, rfl, (((Fr.refl _ _).alloc _).alloc _).alloc _, keepA (keepA (newA rfl)), keepA (newA (by simp)), newA (by simp)⟩
  have a0 : w0.cell? ⟨w.heap.size + 1, 0, none⟩ = some (.int .i64 1) := cell_of q1
  have a1 : w0.cell? ⟨w.heap.size + 1, 1, none⟩ = some (.int .u64 now) := cell_of q1
  have a2 : w0.cell? ⟨w.heap.size + 1, 2, none⟩ = some (.slice pa data.length pc) := cell_of q1
  have a3 : w0.cell? ⟨w.heap.size + 1, 3, none⟩ = some (.int .i64 n) := cell_of q1
  have HWR := Lib.hid fun (w : World) => wrong41_bad (c0 := .pointer (some ⟨mb, 0, none⟩)) (c1 := .int .i64 s.r) (c2 := .int .i64 s.p) (c3 := .int .i64 s.u) (c4 := .int .i64 s.lat) (c5 := .int .i64 s.lim) (c6 := .int .u64 now0) (c7 := .slice ma nl mc) (c8 := .bool s.closed) (c9 := .int .u64 s.fin) w hwr
  clear hby hnl hmc hmx hbk hwr
  go_enter Try.func36, Try.ntmps36
  go_wp2_with (refine wpList_load_row rfl 64 (.tmp 4) rfl _ rfl _ _ _ _ q0 Try.underlying64 rfl (by kernel_rfl) ?_)
  refine (HWR.out _).mono ?_
  rintro e w1 ⟨rfl, f1⟩
  have g1 : Fr [] w w1 := f0.then0 f1
  have Q0 := Lib.hid (f1.keep q0 (by simp))
  have Q1 := Lib.hid (f1.keep q1 (by simp))
  have Q2 := Lib.hid (f1.keep q2 (by simp))
  replace HM := Lib.hid (HM.out.keep (L' := w.heap.size :: (w.heap.size + 1) :: (w.heap.size + 2) :: (L ++ Lm)) g1 (by simp) (fun y hy => by simp at hy; rcases hy with rfl | rfl | rfl | hy | hy; exact .inr (by omega); exact .inr (by omega); exact .inr (by omega); exact .inl (HLM.out y hy); exact .inl hy))
  replace HBY := Lib.hid (HBY.out.keep (L' := w.heap.size :: (w.heap.size + 1) :: (w.heap.size + 2) :: (L ++ Lm)) g1 (by simp) (fun y hy => by simp at hy; rcases hy with rfl | rfl | rfl | hy | hy; exact .inr (by omega); exact .inr (by omega); exact .inr (by omega); exact .inl (HLM.out y hy); exact .inl hy))
  clear a0 a1 a2 a3 HWR hw0 q0 q1 q2 f1 f0
  have e0 : w1.cell? ⟨w.heap.size + 1, 1, none⟩ = some (.int .u64 now) := cell_of Q1.out
  have a0 : w1.cell? ⟨w.heap.size + 1, 0, none⟩ = some (.int .i64 1) := cell_of Q1.out
  have a2 : w1.cell? ⟨w.heap.size + 1, 2, none⟩ = some (.slice pa data.length pc) := cell_of Q1.out
  have a3 : w1.cell? ⟨w.heap.size + 1, 3, none⟩ = some (.int .i64 n) := cell_of Q1.out
  have HCL := Lib.hid (sh_recv (most := n) (h.keep0 g1) h0 h1)
  rw [hE, hH, hB] at HCL
  clear h hE hH hB
  go_wp2_with fail
  refine HCL.out.mono ?_
  rintro e w2 ⟨v, rfl, f2, s2, o2⟩
  obtain ⟨va, vc, rfl, _, _, _, _⟩ := o2.formB
  rw [List.length_nil]
  replace s2 := Lib.hid s2
  clear HCL a0 a2 a3 e0 o2
  replace Q0 := Lib.hid (f2.keep Q0.out (fun hm => by have h1_ := HOLD.out _ hm; omega))
  replace Q1 := Lib.hid (f2.keep Q1.out (fun hm => by have h1_ := HOLD.out _ hm; omega))
  replace Q2 := Lib.hid (f2.keep Q2.out (fun hm => by have h1_ := HOLD.out _ hm; omega))
  have HM2 := Lib.hid (HM.out.keep (L' := w.heap.size :: (w.heap.size + 1) :: (w.heap.size + 2) :: (L ++ Lm)) f2 (fun y hy => .inl (by simp [hy])) (fun y hy => .inl hy))
  replace HBY := Lib.hid (HBY.out.keep (L' := w.heap.size :: (w.heap.size + 1) :: (w.heap.size + 2) :: (L ++ Lm)) f2 (fun y hy => .inl (by simp [hy])) (fun y hy => .inl hy))
  have g2 : Fr (mb :: L) w w2 := (g1.mono (T := mb :: L) (by simp)).trans f2 (fun _ h => .inl h) (fun x hx => .inl (by simp [hx]))
  have d1 : w2.cell? ⟨w.heap.size + 1, 1, none⟩ = some (.int .u64 now) := cell_of Q1.out
  have d3 : w2.cell? ⟨w.heap.size + 1, 3, none⟩ = some (.int .i64 n) := cell_of Q1.out
  have m7 : w2.cell? ⟨w.heap.size, 7, none⟩ = some (.slice ma nl mc) := cell_of Q0.out
  have m8 : w2.cell? ⟨w.heap.size, 8, none⟩ = some (.bool s.closed) := cell_of Q0.out
  have m9 : w2.cell? ⟨w.heap.size, 9, none⟩ = some (.int .u64 s.fin) := cell_of Q0.out
  clear f2 HM g1
  go_wp2_with fail
  have fd : Fr [w.heap.size + 2] w2 w2.drew := (Fr.refl _ _).drew
  have HFA := Lib.hid fun (w' : World) (f : Fr [w.heap.size + 2] w2 w') => (show w'.cell? ⟨w.heap.size, 0, none⟩ = some (.pointer (some ⟨mb, 0, none⟩)) ∧ w'.cell? ⟨w.heap.size, 1, none⟩ = some (.int .i64 s.r) ∧ w'.cell? ⟨w.heap.size, 2, none⟩ = some (.int .i64 s.p) ∧ w'.cell? ⟨w.heap.size, 3, none⟩ = some (.int .i64 s.u) ∧ w'.cell? ⟨w.heap.size, 4, none⟩ = some (.int .i64 s.lat) ∧ w'.cell? ⟨w.heap.size, 5, none⟩ = some (.int .i64 s.lim) ∧ w'.cell? ⟨w.heap.size, 6, none⟩ = some (.int .u64 now0) ∧ w'.cell? ⟨w.heap.size, 7, none⟩ = some (.slice ma nl mc) ∧ w'.cell? ⟨w.heap.size, 8, none⟩ = some (.bool s.closed) ∧ w'.cell? ⟨w.heap.size, 9, none⟩ = some (.int .u64 s.fin) ∧ w'.cell? ⟨w.heap.size, 10, none⟩ = some (.int .u64 s.last) ∧ w'.cell? ⟨w.heap.size + 1, 0, none⟩ = some (.int .i64 1) ∧ w'.cell? ⟨w.heap.size + 1, 1, none⟩ = some (.int .u64 now) ∧ w'.cell? ⟨w.heap.size + 1, 2, none⟩ = some (.slice pa data.length pc) ∧ w'.cell? ⟨w.heap.size + 1, 3, none⟩ = some (.int .i64 n) from (let q' := f.keep Q0.out (by simp); let a' := f.keep Q1.out (by simp); ⟨cell_of q', cell_of q', cell_of q', cell_of q', cell_of q', cell_of q', cell_of q', cell_of q', cell_of q', cell_of q', cell_of q', cell_of a', cell_of a', cell_of a', cell_of a'⟩))
  refine wp_region_order [(0, true), (1, true), (2, true), (3, true), (4, true), (5, true), (6, true), (7, true), (8, true), (9, true), (10, true), (11, false), (12, true)] (fun w' => Fr [w.heap.size + 2] w2 w') (by kernel_rfl) (by kernel_rfl) fd ?_
  intro OPS HOPS
  have hops := HOPS.out
  try simp only [List.append_eq, List.cons_append, List.nil_append] at hops
  replace HOPS := Lib.hid hops
  clear hops
  refine walkO_take (o := _) (v := ?_) (by rw [HOPS.out]; simp only [List.getElem?_toArray, List.getElem?_cons_succ, List.getElem?_cons_zero]; exact rfl) (Or.inl ⟨rfl, ?_⟩) ?_
  rotate_left
  · (intro w hSw; have hSx := HFA.out _ hSw; (try dsimp only at hSx); clear hSw; go_simp) <;> (with_reducible rfl)
  simp only [Act.put, List.setIfInBounds_toArray, List.set_cons_zero, List.set_cons_succ]
  refine walkO_take (o := _) (v := ?_) (by rw [HOPS.out]; simp only [List.getElem?_toArray, List.getElem?_cons_succ, List.getElem?_cons_zero]; exact rfl) (Or.inl ⟨rfl, ?_⟩) ?_
  rotate_left
  · (intro w hSw; have hSx := HFA.out _ hSw; (try dsimp only at hSx); clear hSw; go_simp) <;> (with_reducible rfl)
  simp only [Act.put, List.setIfInBounds_toArray, List.set_cons_zero, List.set_cons_succ]
  refine walkO_take (o := _) (v := ?_) (by rw [HOPS.out]; simp only [List.getElem?_toArray, List.getElem?_cons_succ, List.getElem?_cons_zero]; exact rfl) (Or.inl ⟨rfl, ?_⟩) ?_
  rotate_left
  · (intro w hSw; have hSx := HFA.out _ hSw; (try dsimp only at hSx); clear hSw; go_simp) <;> (with_reducible rfl)
  simp only [Act.put, List.setIfInBounds_toArray, List.set_cons_zero, List.set_cons_succ]
  refine walkO_take (o := _) (v := ?_) (by rw [HOPS.out]; simp only [List.getElem?_toArray, List.getElem?_cons_succ, List.getElem?_cons_zero]; exact rfl) (Or.inl ⟨rfl, ?_⟩) ?_
  rotate_left
  · (intro w hSw; have hSx := HFA.out _ hSw; (try dsimp only at hSx); clear hSw; go_simp) <;> (with_reducible rfl)
  simp only [Act.put, List.setIfInBounds_toArray, List.set_cons_zero, List.set_cons_succ]
  refine walkO_take (o := _) (v := ?_) (by rw [HOPS.out]; simp only [List.getElem?_toArray, List.getElem?_cons_succ, List.getElem?_cons_zero]; exact rfl) (Or.inl ⟨rfl, ?_⟩) ?_
  rotate_left
  · (intro w hSw; have hSx := HFA.out _ hSw; (try dsimp only at hSx); clear hSw; go_simp) <;> (with_reducible rfl)
  simp only [Act.put, List.setIfInBounds_toArray, List.set_cons_zero, List.set_cons_succ]
  refine walkO_take (o := _) (v := ?_) (by rw [HOPS.out]; simp only [List.getElem?_toArray, List.getElem?_cons_succ, List.getElem?_cons_zero]; exact rfl) (Or.inl ⟨rfl, ?_⟩) ?_
  rotate_left
  · (intro w hSw; have hSx := HFA.out _ hSw; (try dsimp only at hSx); clear hSw; go_simp) <;> (with_reducible rfl)
  simp only [Act.put, List.setIfInBounds_toArray, List.set_cons_zero, List.set_cons_succ]
  refine walkO_take (o := _) (v := ?_) (by rw [HOPS.out]; simp only [List.getElem?_toArray, List.getElem?_cons_succ, List.getElem?_cons_zero]; exact rfl) (Or.inl ⟨by rw [HOPS.out]; rfl, ?_⟩) ?_
  rotate_left
  · (intro w hSw; have hSx := HFA.out _ hSw; (try dsimp only at hSx); clear hSw; go_simp) <;> (with_reducible rfl)
  simp only [Act.put, List.setIfInBounds_toArray, List.set_cons_zero, List.set_cons_succ]
  refine walkO_take (o := _) (v := ?_) (by rw [HOPS.out]; simp only [List.getElem?_toArray, List.getElem?_cons_succ, List.getElem?_cons_zero]; exact rfl) (Or.inl ⟨by rw [HOPS.out]; rfl, ?_⟩) ?_
  rotate_left
  · (intro w hSw; have hSx := HFA.out _ hSw; (try dsimp only at hSx); clear hSw; go_simp) <;> (with_reducible rfl)
  simp only [Act.put, List.setIfInBounds_toArray, List.set_cons_zero, List.set_cons_succ]
  refine walkO_take (o := _) (v := ?_) (by rw [HOPS.out]; simp only [List.getElem?_toArray, List.getElem?_cons_succ, List.getElem?_cons_zero]; exact rfl) (Or.inl ⟨by rw [HOPS.out]; rfl, ?_⟩) ?_
  rotate_left
  · (intro w hSw; have hSx := HFA.out _ hSw; (try dsimp only at hSx); clear hSw; go_simp) <;> (with_reducible rfl)
  simp only [Act.put, List.setIfInBounds_toArray, List.set_cons_zero, List.set_cons_succ]
  refine walkO_take (o := _) (v := ?_) (by rw [HOPS.out]; simp only [List.getElem?_toArray, List.getElem?_cons_succ, List.getElem?_cons_zero]; exact rfl) (Or.inl ⟨rfl, ?_⟩) ?_
  rotate_left
  · (intro w hSw; have hSx := HFA.out _ hSw; (try dsimp only at hSx); clear hSw; go_simp) <;> (with_reducible rfl)
  simp only [Act.put, List.setIfInBounds_toArray, List.set_cons_zero, List.set_cons_succ]
  refine walkO_take (o := _) (v := ?_) (by rw [HOPS.out]; simp only [List.getElem?_toArray, List.getElem?_cons_succ, List.getElem?_cons_zero]; exact rfl) (Or.inl ⟨rfl, ?_⟩) ?_
  rotate_left
  · (intro w hSw; have hSx := HFA.out _ hSw; (try dsimp only at hSx); clear hSw; go_simp) <;> (with_reducible rfl)
  simp only [Act.put, List.setIfInBounds_toArray, List.set_cons_zero, List.set_cons_succ]
  refine walkO_call (o := _) (by rw [HOPS.out]; simp only [List.getElem?_toArray, List.getElem?_cons_succ, List.getElem?_cons_zero]; exact rfl) (fun K HK => ?_)
  obtain ⟨wE, hwE, qE, fE⟩ := setRow_fr (cs := #[.pointer (some ⟨mb, 0, none⟩), .int .i64 s.r, .int .i64 s.p, .int .i64 s.u, .int .i64 s.lat, .int .i64 s.lim, .int .u64 now0, .slice ma nl mc, .bool s.closed, .int .u64 s.fin, .int .u64 s.last]) (show w2.drew.heap[w.heap.size + 2]? = _ from Q2.out)
  refine step_store_row rfl 64 (.tmp 7) (.tmp 188) rfl (w.heap.size + 2) #[.pointer (some ⟨mb, 0, none⟩), .int .i64 s.r, .int .i64 s.p, .int .i64 s.u, .int .i64 s.lat, .int .i64 s.lim, .int .u64 now0, .slice ma nl mc, .bool s.closed, .int .u64 s.fin, .int .u64 s.last] rfl rfl _ _ (show w2.drew.heap[w.heap.size + 2]? = _ from Q2.out) (by kernel_rfl) rfl (by simp [Value.oneCell']) hwE ?_
  have gE : Fr [w.heap.size + 2] w2 wE := fd.trans fE (fun _ h => .inl h) (fun x hx => .inl hx)
  refine HK.out (fun w' => Fr [w.heap.size + 2] w2 w') _ _ (fun _ h => h) (gE) ?_
  clear HK K
  try simp only [Act.put, List.setIfInBounds_toArray, List.set_cons_zero, List.set_cons_succ]
  refine walkO_take (o := _) (v := ?_) (by rw [HOPS.out]; simp only [List.getElem?_toArray, List.getElem?_cons_succ, List.getElem?_cons_zero]; exact rfl) (Or.inl ⟨rfl, ?_⟩) ?_
  rotate_left
  · (intro w hSw; have hSx := HFA.out _ hSw; (try dsimp only at hSx); clear hSw; go_simp) <;> (with_reducible rfl)
  simp only [Act.put, List.setIfInBounds_toArray, List.set_cons_zero, List.set_cons_succ]
  refine walkO_done ?_
  clear HOPS OPS
  clear HFA
  try simp only [Exit.then]
  go_wp2_with fail
  refine bodyPost_ret (m41_result3 qE (by kernel_rfl) rfl rfl rfl rfl) rfl ?_
  exact ⟨b, k, L, _, rfl, g2.trans gE (fun _ h => .inl h) (fun x hx => .inr (by simp at hx; omega)), s2.out.keep gE (fun y hy hm => by simp at hy; have := HOLD.out _ hm; omega), HM2.out.keep gE (fun y hy => .inl (by simp at hy; simp [hy])) (fun y hy => .inl (List.mem_cons_of_mem _ (List.mem_cons_of_mem _ (List.mem_cons_of_mem _ hy)))), fun y hy => .inl hy⟩

set_option maxHeartbeats 16000000 in
theorem step41_r2on {w : World} {L : List Nat} {b k mb : Nat} {s : SH} {v : Value} (h : Shp w L b k s) {Lm : List Nat} (hm : Md w Lm mb s v) (hLm : ∀ y ∈ L, y ∈ Lm) (hLo : ∀ y ∈ Lm, y < w.heap.size) {pa : Option Addr} {pc : Nat} {data : List UInt8} (hd : Sl w pa (bi data)) (hdo : ∀ b' o', 0 < data.length → pa = some ⟨b', o', none⟩ → b' ∉ L ∧ b' ≠ mb) (hdl : data.length ≤ 100) (hpc : data.length ≤ pc) {now n : Int} (h0 : 0 ≤ now) (h1 : now ≤ 18446744073709551615) (hw1 : s.last ≤ now) (hw2 : now < 18446744073709551615) (hn : n < 0) :
    Calls Try.prog 36 #[.pointer (some ⟨b, 0, none⟩), v, .agg #[.int .i64 1, .int .u64 now, .slice pa data.length pc, .int .i64 n]] w (Step41 w L Lm mb (recvS s now n)) := by
  have hE : recvE s now n = 2 := by unfold recvE; rw [show (decide (0 ≤ n) && decide (n ≤ 65536)) = false by simp; omega]; rw [if_pos (by simp [mayE])]; rfl
  have hH := recvS_bad (s := s) (now := now) (most := n) (by rw [hE]; decide)
  have hB := recvB_bad (s := s) (now := now) (most := n) (by rw [hE]; decide)
  rw [hH]
  obtain ⟨⟨ma, nl, mc, now0, rfl, hby, hnl, hmc, hmx⟩, hbk, hmb⟩ := hm
  have HM := Lib.hid (show Md w Lm mb s (.agg #[.pointer (some ⟨mb, 0, none⟩), .int .i64 s.r, .int .i64 s.p, .int .i64 s.u, .int .i64 s.lat, .int .i64 s.lim, .int .u64 now0, .slice ma nl mc, .bool s.closed, .int .u64 s.fin, .int .u64 s.last]) from ⟨⟨ma, nl, mc, now0, rfl, hby, hnl, hmc, hmx⟩, hbk, hmb⟩)
  have hmbl := lt_of_heap hbk
  have HBK0 := Lib.hid hbk
  have HBY := Lib.hid hby
  have HNL := Lib.hid (And.intro hnl (And.intro hmc hmx))
  have HOLD := Lib.hid h.old
  have HLM := Lib.hid hLm
  have HLO := Lib.hid hLo
  have hmb0 : mb ∉ L := fun hm => hmb (hLm _ hm)
  clear hLm hLo
  have hnl2 : nl ≤ 65536 := by have := h.ok.tot; have := h.ok.lim1; have := flatS_length s.segs; omega
  obtain ⟨w0, hw0, f0, q0, q1, q2⟩ : ∃ W, ((w.alloc (.cells #[.pointer (some ⟨mb, 0, none⟩), .int .i64 s.r, .int .i64 s.p, .int .i64 s.u, .int .i64 s.lat, .int .i64 s.lim, .int .u64 now0, .slice ma nl mc, .bool s.closed, .int .u64 s.fin, .int .u64 s.last] 64)).alloc (.cells #[.int .i64 1, .int .u64 now, .slice pa data.length pc, .int .i64 n] 77)).alloc (.cells #[.pointer none, .int .i64 0, .int .i64 0, .int .i64 0, .int .i64 0, .int .i64 0, .int .u64 0, .slice none 0 0, .bool false, .int .u64 0, .int .u64 0] 64) = W ∧ Fr [] w W ∧ W.heap[w.heap.size]? = some (.cells #[.pointer (some ⟨mb, 0, none⟩), .int .i64 s.r, .int .i64 s.p, .int .i64 s.u, .int .i64 s.lat, .int .i64 s.lim, .int .u64 now0, .slice ma nl mc, .bool s.closed, .int .u64 s.fin, .int .u64 s.last] 64 (0, 0)) ∧ W.heap[w.heap.size + 1]? = some (.cells #[.int .i64 1, .int .u64 now, .slice pa data.length pc, .int .i64 n] 77 (0, 0)) ∧ W.heap[w.heap.size + 2]? = some (.cells #[.pointer none, .int .i64 0, .int .i64 0, .int .i64 0, .int .i64 0, .int .i64 0, .int .u64 0, .slice none 0 0, .bool false, .int .u64 0, .int .u64 0] 64 (0, 0)) := ⟨_, rfl, (((Fr.refl _ _).alloc _).alloc _).alloc _, keepA (keepA (newA rfl)), keepA (newA (by simp)), newA (by simp)⟩
  have a0 : w0.cell? ⟨w.heap.size + 1, 0, none⟩ = some (.int .i64 1) := cell_of q1
  have a1 : w0.cell? ⟨w.heap.size + 1, 1, none⟩ = some (.int .u64 now) := cell_of q1
  have a2 : w0.cell? ⟨w.heap.size + 1, 2, none⟩ = some (.slice pa data.length pc) := cell_of q1
  have a3 : w0.cell? ⟨w.heap.size + 1, 3, none⟩ = some (.int .i64 n) := cell_of q1
  have HWR := Lib.hid fun (w : World) => wrong41_ok (c0 := .pointer (some ⟨mb, 0, none⟩)) (c1 := .int .i64 s.r) (c2 := .int .i64 s.p) (c3 := .int .i64 s.u) (c4 := .int .i64 s.lat) (c5 := .int .i64 s.lim) (c6 := .int .u64 now0) (c7 := .slice ma nl mc) (c8 := .bool s.closed) (c9 := .int .u64 s.fin) w hw1 hw2
  clear hby hnl hmc hmx hbk
  go_enter Try.func36, Try.ntmps36
  go_wp2_with (refine wpList_load_row rfl 64 (.tmp 4) rfl _ rfl _ _ _ _ q0 Try.underlying64 rfl (by kernel_rfl) ?_)
  refine (HWR.out _).mono ?_
  rintro e w1 ⟨rfl, f1⟩
  have g1 : Fr [] w w1 := f0.then0 f1
  have Q0 := Lib.hid (f1.keep q0 (by simp))
  have Q1 := Lib.hid (f1.keep q1 (by simp))
  have Q2 := Lib.hid (f1.keep q2 (by simp))
  replace HM := Lib.hid (HM.out.keep (L' := w.heap.size :: (w.heap.size + 1) :: (w.heap.size + 2) :: (L ++ Lm)) g1 (by simp) (fun y hy => by simp at hy; rcases hy with rfl | rfl | rfl | hy | hy; exact .inr (by omega); exact .inr (by omega); exact .inr (by omega); exact .inl (HLM.out y hy); exact .inl hy))
  replace HBY := Lib.hid (HBY.out.keep (L' := w.heap.size :: (w.heap.size + 1) :: (w.heap.size + 2) :: (L ++ Lm)) g1 (by simp) (fun y hy => by simp at hy; rcases hy with rfl | rfl | rfl | hy | hy; exact .inr (by omega); exact .inr (by omega); exact .inr (by omega); exact .inl (HLM.out y hy); exact .inl hy))
  clear a0 a1 a2 a3 HWR hw0 q0 q1 q2 f1 f0
  have e0 : w1.cell? ⟨w.heap.size + 1, 1, none⟩ = some (.int .u64 now) := cell_of Q1.out
  have a0 : w1.cell? ⟨w.heap.size + 1, 0, none⟩ = some (.int .i64 1) := cell_of Q1.out
  have a2 : w1.cell? ⟨w.heap.size + 1, 2, none⟩ = some (.slice pa data.length pc) := cell_of Q1.out
  have a3 : w1.cell? ⟨w.heap.size + 1, 3, none⟩ = some (.int .i64 n) := cell_of Q1.out
  have HCL := Lib.hid (sh_recv (most := n) (h.keep0 g1) h0 h1)
  rw [hE, hH, hB] at HCL
  clear h hE hH hB
  go_wp2_with fail
  refine HCL.out.mono ?_
  rintro e w2 ⟨v, rfl, f2, s2, o2⟩
  obtain ⟨va, vc, rfl, _, _, _, _⟩ := o2.formB
  rw [List.length_nil]
  replace s2 := Lib.hid s2
  clear HCL a0 a2 a3 e0 o2
  replace Q0 := Lib.hid (f2.keep Q0.out (fun hm => by have h1_ := HOLD.out _ hm; omega))
  replace Q1 := Lib.hid (f2.keep Q1.out (fun hm => by have h1_ := HOLD.out _ hm; omega))
  replace Q2 := Lib.hid (f2.keep Q2.out (fun hm => by have h1_ := HOLD.out _ hm; omega))
  have HM2 := Lib.hid (HM.out.keep (L' := w.heap.size :: (w.heap.size + 1) :: (w.heap.size + 2) :: (L ++ Lm)) f2 (fun y hy => .inl (by simp [hy])) (fun y hy => .inl hy))
  replace HBY := Lib.hid (HBY.out.keep (L' := w.heap.size :: (w.heap.size + 1) :: (w.heap.size + 2) :: (L ++ Lm)) f2 (fun y hy => .inl (by simp [hy])) (fun y hy => .inl hy))
  have g2 : Fr (mb :: L) w w2 := (g1.mono (T := mb :: L) (by simp)).trans f2 (fun _ h => .inl h) (fun x hx => .inl (by simp [hx]))
  have d1 : w2.cell? ⟨w.heap.size + 1, 1, none⟩ = some (.int .u64 now) := cell_of Q1.out
  have d3 : w2.cell? ⟨w.heap.size + 1, 3, none⟩ = some (.int .i64 n) := cell_of Q1.out
  have m7 : w2.cell? ⟨w.heap.size, 7, none⟩ = some (.slice ma nl mc) := cell_of Q0.out
  have m8 : w2.cell? ⟨w.heap.size, 8, none⟩ = some (.bool s.closed) := cell_of Q0.out
  have m9 : w2.cell? ⟨w.heap.size, 9, none⟩ = some (.int .u64 s.fin) := cell_of Q0.out
  clear f2 HM g1
  go_wp2_with fail
  have fd : Fr [w.heap.size + 2] w2 w2.drew := (Fr.refl _ _).drew
  have HFA := Lib.hid fun (w' : World) (f : Fr [w.heap.size + 2] w2 w') => (show w'.cell? ⟨w.heap.size, 0, none⟩ = some (.pointer (some ⟨mb, 0, none⟩)) ∧ w'.cell? ⟨w.heap.size, 1, none⟩ = some (.int .i64 s.r) ∧ w'.cell? ⟨w.heap.size, 2, none⟩ = some (.int .i64 s.p) ∧ w'.cell? ⟨w.heap.size, 3, none⟩ = some (.int .i64 s.u) ∧ w'.cell? ⟨w.heap.size, 4, none⟩ = some (.int .i64 s.lat) ∧ w'.cell? ⟨w.heap.size, 5, none⟩ = some (.int .i64 s.lim) ∧ w'.cell? ⟨w.heap.size, 6, none⟩ = some (.int .u64 now0) ∧ w'.cell? ⟨w.heap.size, 7, none⟩ = some (.slice ma nl mc) ∧ w'.cell? ⟨w.heap.size, 8, none⟩ = some (.bool s.closed) ∧ w'.cell? ⟨w.heap.size, 9, none⟩ = some (.int .u64 s.fin) ∧ w'.cell? ⟨w.heap.size, 10, none⟩ = some (.int .u64 s.last) ∧ w'.cell? ⟨w.heap.size + 1, 0, none⟩ = some (.int .i64 1) ∧ w'.cell? ⟨w.heap.size + 1, 1, none⟩ = some (.int .u64 now) ∧ w'.cell? ⟨w.heap.size + 1, 2, none⟩ = some (.slice pa data.length pc) ∧ w'.cell? ⟨w.heap.size + 1, 3, none⟩ = some (.int .i64 n) from (let q' := f.keep Q0.out (by simp); let a' := f.keep Q1.out (by simp); ⟨cell_of q', cell_of q', cell_of q', cell_of q', cell_of q', cell_of q', cell_of q', cell_of q', cell_of q', cell_of q', cell_of q', cell_of a', cell_of a', cell_of a', cell_of a'⟩))
  refine wp_region_order [(0, true), (1, true), (2, true), (3, true), (4, true), (5, true), (6, true), (7, true), (8, true), (9, true), (10, true), (11, false), (12, true)] (fun w' => Fr [w.heap.size + 2] w2 w') (by kernel_rfl) (by kernel_rfl) fd ?_
  intro OPS HOPS
  have hops := HOPS.out
  try simp only [List.append_eq, List.cons_append, List.nil_append] at hops
  replace HOPS := Lib.hid hops
  clear hops
  refine walkO_take (o := _) (v := ?_) (by rw [HOPS.out]; simp only [List.getElem?_toArray, List.getElem?_cons_succ, List.getElem?_cons_zero]; exact rfl) (Or.inl ⟨rfl, ?_⟩) ?_
  rotate_left
  · (intro w hSw; have hSx := HFA.out _ hSw; (try dsimp only at hSx); clear hSw; go_simp) <;> (with_reducible rfl)
  simp only [Act.put, List.setIfInBounds_toArray, List.set_cons_zero, List.set_cons_succ]
  refine walkO_take (o := _) (v := ?_) (by rw [HOPS.out]; simp only [List.getElem?_toArray, List.getElem?_cons_succ, List.getElem?_cons_zero]; exact rfl) (Or.inl ⟨rfl, ?_⟩) ?_
  rotate_left
  · (intro w hSw; have hSx := HFA.out _ hSw; (try dsimp only at hSx); clear hSw; go_simp) <;> (with_reducible rfl)
  simp only [Act.put, List.setIfInBounds_toArray, List.set_cons_zero, List.set_cons_succ]
  refine walkO_take (o := _) (v := ?_) (by rw [HOPS.out]; simp only [List.getElem?_toArray, List.getElem?_cons_succ, List.getElem?_cons_zero]; exact rfl) (Or.inl ⟨rfl, ?_⟩) ?_
  rotate_left
  · (intro w hSw; have hSx := HFA.out _ hSw; (try dsimp only at hSx); clear hSw; go_simp) <;> (with_reducible rfl)
  simp only [Act.put, List.setIfInBounds_toArray, List.set_cons_zero, List.set_cons_succ]
  refine walkO_take (o := _) (v := ?_) (by rw [HOPS.out]; simp only [List.getElem?_toArray, List.getElem?_cons_succ, List.getElem?_cons_zero]; exact rfl) (Or.inl ⟨rfl, ?_⟩) ?_
  rotate_left
  · (intro w hSw; have hSx := HFA.out _ hSw; (try dsimp only at hSx); clear hSw; go_simp) <;> (with_reducible rfl)
  simp only [Act.put, List.setIfInBounds_toArray, List.set_cons_zero, List.set_cons_succ]
  refine walkO_take (o := _) (v := ?_) (by rw [HOPS.out]; simp only [List.getElem?_toArray, List.getElem?_cons_succ, List.getElem?_cons_zero]; exact rfl) (Or.inl ⟨rfl, ?_⟩) ?_
  rotate_left
  · (intro w hSw; have hSx := HFA.out _ hSw; (try dsimp only at hSx); clear hSw; go_simp) <;> (with_reducible rfl)
  simp only [Act.put, List.setIfInBounds_toArray, List.set_cons_zero, List.set_cons_succ]
  refine walkO_take (o := _) (v := ?_) (by rw [HOPS.out]; simp only [List.getElem?_toArray, List.getElem?_cons_succ, List.getElem?_cons_zero]; exact rfl) (Or.inl ⟨rfl, ?_⟩) ?_
  rotate_left
  · (intro w hSw; have hSx := HFA.out _ hSw; (try dsimp only at hSx); clear hSw; go_simp) <;> (with_reducible rfl)
  simp only [Act.put, List.setIfInBounds_toArray, List.set_cons_zero, List.set_cons_succ]
  refine walkO_take (o := _) (v := ?_) (by rw [HOPS.out]; simp only [List.getElem?_toArray, List.getElem?_cons_succ, List.getElem?_cons_zero]; exact rfl) (Or.inl ⟨by rw [HOPS.out]; rfl, ?_⟩) ?_
  rotate_left
  · (intro w hSw; have hSx := HFA.out _ hSw; (try dsimp only at hSx); clear hSw; go_simp) <;> (with_reducible rfl)
  simp only [Act.put, List.setIfInBounds_toArray, List.set_cons_zero, List.set_cons_succ]
  refine walkO_take (o := _) (v := ?_) (by rw [HOPS.out]; simp only [List.getElem?_toArray, List.getElem?_cons_succ, List.getElem?_cons_zero]; exact rfl) (Or.inl ⟨by rw [HOPS.out]; rfl, ?_⟩) ?_
  rotate_left
  · (intro w hSw; have hSx := HFA.out _ hSw; (try dsimp only at hSx); clear hSw; go_simp) <;> (with_reducible rfl)
  simp only [Act.put, List.setIfInBounds_toArray, List.set_cons_zero, List.set_cons_succ]
  refine walkO_take (o := _) (v := ?_) (by rw [HOPS.out]; simp only [List.getElem?_toArray, List.getElem?_cons_succ, List.getElem?_cons_zero]; exact rfl) (Or.inl ⟨by rw [HOPS.out]; rfl, ?_⟩) ?_
  rotate_left
  · (intro w hSw; have hSx := HFA.out _ hSw; (try dsimp only at hSx); clear hSw; go_simp) <;> (with_reducible rfl)
  simp only [Act.put, List.setIfInBounds_toArray, List.set_cons_zero, List.set_cons_succ]
  refine walkO_take (o := _) (v := ?_) (by rw [HOPS.out]; simp only [List.getElem?_toArray, List.getElem?_cons_succ, List.getElem?_cons_zero]; exact rfl) (Or.inl ⟨rfl, ?_⟩) ?_
  rotate_left
  · (intro w hSw; have hSx := HFA.out _ hSw; (try dsimp only at hSx); clear hSw; go_simp) <;> (with_reducible rfl)
  simp only [Act.put, List.setIfInBounds_toArray, List.set_cons_zero, List.set_cons_succ]
  refine walkO_take (o := _) (v := ?_) (by rw [HOPS.out]; simp only [List.getElem?_toArray, List.getElem?_cons_succ, List.getElem?_cons_zero]; exact rfl) (Or.inl ⟨rfl, ?_⟩) ?_
  rotate_left
  · (intro w hSw; have hSx := HFA.out _ hSw; (try dsimp only at hSx); clear hSw; go_simp) <;> (with_reducible rfl)
  simp only [Act.put, List.setIfInBounds_toArray, List.set_cons_zero, List.set_cons_succ]
  refine walkO_call (o := _) (by rw [HOPS.out]; simp only [List.getElem?_toArray, List.getElem?_cons_succ, List.getElem?_cons_zero]; exact rfl) (fun K HK => ?_)
  obtain ⟨wE, hwE, qE, fE⟩ := setRow_fr (cs := #[.pointer (some ⟨mb, 0, none⟩), .int .i64 s.r, .int .i64 s.p, .int .i64 s.u, .int .i64 s.lat, .int .i64 s.lim, .int .u64 now0, .slice ma nl mc, .bool s.closed, .int .u64 s.fin, .int .u64 s.last]) (show w2.drew.heap[w.heap.size + 2]? = _ from Q2.out)
  refine step_store_row rfl 64 (.tmp 7) (.tmp 188) rfl (w.heap.size + 2) #[.pointer (some ⟨mb, 0, none⟩), .int .i64 s.r, .int .i64 s.p, .int .i64 s.u, .int .i64 s.lat, .int .i64 s.lim, .int .u64 now0, .slice ma nl mc, .bool s.closed, .int .u64 s.fin, .int .u64 s.last] rfl rfl _ _ (show w2.drew.heap[w.heap.size + 2]? = _ from Q2.out) (by kernel_rfl) rfl (by simp [Value.oneCell']) hwE ?_
  have gE : Fr [w.heap.size + 2] w2 wE := fd.trans fE (fun _ h => .inl h) (fun x hx => .inl hx)
  refine HK.out (fun w' => Fr [w.heap.size + 2] w2 w') _ _ (fun _ h => h) (gE) ?_
  clear HK K
  try simp only [Act.put, List.setIfInBounds_toArray, List.set_cons_zero, List.set_cons_succ]
  refine walkO_take (o := _) (v := ?_) (by rw [HOPS.out]; simp only [List.getElem?_toArray, List.getElem?_cons_succ, List.getElem?_cons_zero]; exact rfl) (Or.inl ⟨rfl, ?_⟩) ?_
  rotate_left
  · (intro w hSw; have hSx := HFA.out _ hSw; (try dsimp only at hSx); clear hSw; go_simp) <;> (with_reducible rfl)
  simp only [Act.put, List.setIfInBounds_toArray, List.set_cons_zero, List.set_cons_succ]
  refine walkO_done ?_
  clear HOPS OPS
  clear HFA
  try simp only [Exit.then]
  go_wp2_with fail
  refine bodyPost_ret (m41_result3 qE (by kernel_rfl) rfl rfl rfl rfl) rfl ?_
  exact ⟨b, k, L, _, rfl, g2.trans gE (fun _ h => .inl h) (fun x hx => .inr (by simp at hx; omega)), s2.out.keep gE (fun y hy hm => by simp at hy; have := HOLD.out _ hm; omega), HM2.out.keep gE (fun y hy => .inl (by simp at hy; simp [hy])) (fun y hy => .inl (List.mem_cons_of_mem _ (List.mem_cons_of_mem _ (List.mem_cons_of_mem _ hy)))), fun y hy => .inl hy⟩

set_option maxHeartbeats 16000000 in
theorem step41_r2op {w : World} {L : List Nat} {b k mb : Nat} {s : SH} {v : Value} (h : Shp w L b k s) {Lm : List Nat} (hm : Md w Lm mb s v) (hLm : ∀ y ∈ L, y ∈ Lm) (hLo : ∀ y ∈ Lm, y < w.heap.size) {pa : Option Addr} {pc : Nat} {data : List UInt8} (hd : Sl w pa (bi data)) (hdo : ∀ b' o', 0 < data.length → pa = some ⟨b', o', none⟩ → b' ∉ L ∧ b' ≠ mb) (hdl : data.length ≤ 100) (hpc : data.length ≤ pc) {now n : Int} (h0 : 0 ≤ now) (h1 : now ≤ 18446744073709551615) (hw1 : s.last ≤ now) (hw2 : now < 18446744073709551615) (hn : 65536 < n) :
    Calls Try.prog 36 #[.pointer (some ⟨b, 0, none⟩), v, .agg #[.int .i64 1, .int .u64 now, .slice pa data.length pc, .int .i64 n]] w (Step41 w L Lm mb (recvS s now n)) := by
  have hE : recvE s now n = 2 := by unfold recvE; rw [show (decide (0 ≤ n) && decide (n ≤ 65536)) = false by simp; omega]; rw [if_pos (by simp [mayE])]; rfl
  have hn0 : 0 ≤ n := by omega
  have hH := recvS_bad (s := s) (now := now) (most := n) (by rw [hE]; decide)
  have hB := recvB_bad (s := s) (now := now) (most := n) (by rw [hE]; decide)
  rw [hH]
  obtain ⟨⟨ma, nl, mc, now0, rfl, hby, hnl, hmc, hmx⟩, hbk, hmb⟩ := hm
  have HM := Lib.hid (show Md w Lm mb s (.agg #[.pointer (some ⟨mb, 0, none⟩), .int .i64 s.r, .int .i64 s.p, .int .i64 s.u, .int .i64 s.lat, .int .i64 s.lim, .int .u64 now0, .slice ma nl mc, .bool s.closed, .int .u64 s.fin, .int .u64 s.last]) from ⟨⟨ma, nl, mc, now0, rfl, hby, hnl, hmc, hmx⟩, hbk, hmb⟩)
  have hmbl := lt_of_heap hbk
  have HBK0 := Lib.hid hbk
  have HBY := Lib.hid hby
  have HNL := Lib.hid (And.intro hnl (And.intro hmc hmx))
  have HOLD := Lib.hid h.old
  have HLM := Lib.hid hLm
  have HLO := Lib.hid hLo
  have hmb0 : mb ∉ L := fun hm => hmb (hLm _ hm)
  clear hLm hLo
  have hnl2 : nl ≤ 65536 := by have := h.ok.tot; have := h.ok.lim1; have := flatS_length s.segs; omega
  obtain ⟨w0, hw0, f0, q0, q1, q2⟩ : ∃ W, ((w.alloc (.cells #[.pointer (some ⟨mb, 0, none⟩), .int .i64 s.r, .int .i64 s.p, .int .i64 s.u, .int .i64 s.lat, .int .i64 s.lim, .int .u64 now0, .slice ma nl mc, .bool s.closed, .int .u64 s.fin, .int .u64 s.last] 64)).alloc (.cells #[.int .i64 1, .int .u64 now, .slice pa data.length pc, .int .i64 n] 77)).alloc (.cells #[.pointer none, .int .i64 0, .int .i64 0, .int .i64 0, .int .i64 0, .int .i64 0, .int .u64 0, .slice none 0 0, .bool false, .int .u64 0, .int .u64 0] 64) = W ∧ Fr [] w W ∧ W.heap[w.heap.size]? = some (.cells #[.pointer (some ⟨mb, 0, none⟩), .int .i64 s.r, .int .i64 s.p, .int .i64 s.u, .int .i64 s.lat, .int .i64 s.lim, .int .u64 now0, .slice ma nl mc, .bool s.closed, .int .u64 s.fin, .int .u64 s.last] 64 (0, 0)) ∧ W.heap[w.heap.size + 1]? = some (.cells #[.int .i64 1, .int .u64 now, .slice pa data.length pc, .int .i64 n] 77 (0, 0)) ∧ W.heap[w.heap.size + 2]? = some (.cells #[.pointer none, .int .i64 0, .int .i64 0, .int .i64 0, .int .i64 0, .int .i64 0, .int .u64 0, .slice none 0 0, .bool false, .int .u64 0, .int .u64 0] 64 (0, 0)) := ⟨_, rfl, (((Fr.refl _ _).alloc _).alloc _).alloc _, keepA (keepA (newA rfl)), keepA (newA (by simp)), newA (by simp)⟩
  have a0 : w0.cell? ⟨w.heap.size + 1, 0, none⟩ = some (.int .i64 1) := cell_of q1
  have a1 : w0.cell? ⟨w.heap.size + 1, 1, none⟩ = some (.int .u64 now) := cell_of q1
  have a2 : w0.cell? ⟨w.heap.size + 1, 2, none⟩ = some (.slice pa data.length pc) := cell_of q1
  have a3 : w0.cell? ⟨w.heap.size + 1, 3, none⟩ = some (.int .i64 n) := cell_of q1
  have HWR := Lib.hid fun (w : World) => wrong41_ok (c0 := .pointer (some ⟨mb, 0, none⟩)) (c1 := .int .i64 s.r) (c2 := .int .i64 s.p) (c3 := .int .i64 s.u) (c4 := .int .i64 s.lat) (c5 := .int .i64 s.lim) (c6 := .int .u64 now0) (c7 := .slice ma nl mc) (c8 := .bool s.closed) (c9 := .int .u64 s.fin) w hw1 hw2
  clear hby hnl hmc hmx hbk
  go_enter Try.func36, Try.ntmps36
  go_wp2_with (refine wpList_load_row rfl 64 (.tmp 4) rfl _ rfl _ _ _ _ q0 Try.underlying64 rfl (by kernel_rfl) ?_)
  refine (HWR.out _).mono ?_
  rintro e w1 ⟨rfl, f1⟩
  have g1 : Fr [] w w1 := f0.then0 f1
  have Q0 := Lib.hid (f1.keep q0 (by simp))
  have Q1 := Lib.hid (f1.keep q1 (by simp))
  have Q2 := Lib.hid (f1.keep q2 (by simp))
  replace HM := Lib.hid (HM.out.keep (L' := w.heap.size :: (w.heap.size + 1) :: (w.heap.size + 2) :: (L ++ Lm)) g1 (by simp) (fun y hy => by simp at hy; rcases hy with rfl | rfl | rfl | hy | hy; exact .inr (by omega); exact .inr (by omega); exact .inr (by omega); exact .inl (HLM.out y hy); exact .inl hy))
  replace HBY := Lib.hid (HBY.out.keep (L' := w.heap.size :: (w.heap.size + 1) :: (w.heap.size + 2) :: (L ++ Lm)) g1 (by simp) (fun y hy => by simp at hy; rcases hy with rfl | rfl | rfl | hy | hy; exact .inr (by omega); exact .inr (by omega); exact .inr (by omega); exact .inl (HLM.out y hy); exact .inl hy))
  clear a0 a1 a2 a3 HWR hw0 q0 q1 q2 f1 f0
  have e0 : w1.cell? ⟨w.heap.size + 1, 1, none⟩ = some (.int .u64 now) := cell_of Q1.out
  have a0 : w1.cell? ⟨w.heap.size + 1, 0, none⟩ = some (.int .i64 1) := cell_of Q1.out
  have a2 : w1.cell? ⟨w.heap.size + 1, 2, none⟩ = some (.slice pa data.length pc) := cell_of Q1.out
  have a3 : w1.cell? ⟨w.heap.size + 1, 3, none⟩ = some (.int .i64 n) := cell_of Q1.out
  have HCL := Lib.hid (sh_recv (most := n) (h.keep0 g1) h0 h1)
  rw [hE, hH, hB] at HCL
  clear h hE hH hB
  go_wp2_with fail
  refine HCL.out.mono ?_
  rintro e w2 ⟨v, rfl, f2, s2, o2⟩
  obtain ⟨va, vc, rfl, _, _, _, _⟩ := o2.formB
  rw [List.length_nil]
  replace s2 := Lib.hid s2
  clear HCL a0 a2 a3 e0 o2
  replace Q0 := Lib.hid (f2.keep Q0.out (fun hm => by have h1_ := HOLD.out _ hm; omega))
  replace Q1 := Lib.hid (f2.keep Q1.out (fun hm => by have h1_ := HOLD.out _ hm; omega))
  replace Q2 := Lib.hid (f2.keep Q2.out (fun hm => by have h1_ := HOLD.out _ hm; omega))
  have HM2 := Lib.hid (HM.out.keep (L' := w.heap.size :: (w.heap.size + 1) :: (w.heap.size + 2) :: (L ++ Lm)) f2 (fun y hy => .inl (by simp [hy])) (fun y hy => .inl hy))
  replace HBY := Lib.hid (HBY.out.keep (L' := w.heap.size :: (w.heap.size + 1) :: (w.heap.size + 2) :: (L ++ Lm)) f2 (fun y hy => .inl (by simp [hy])) (fun y hy => .inl hy))
  have g2 : Fr (mb :: L) w w2 := (g1.mono (T := mb :: L) (by simp)).trans f2 (fun _ h => .inl h) (fun x hx => .inl (by simp [hx]))
  have d1 : w2.cell? ⟨w.heap.size + 1, 1, none⟩ = some (.int .u64 now) := cell_of Q1.out
  have d3 : w2.cell? ⟨w.heap.size + 1, 3, none⟩ = some (.int .i64 n) := cell_of Q1.out
  have m7 : w2.cell? ⟨w.heap.size, 7, none⟩ = some (.slice ma nl mc) := cell_of Q0.out
  have m8 : w2.cell? ⟨w.heap.size, 8, none⟩ = some (.bool s.closed) := cell_of Q0.out
  have m9 : w2.cell? ⟨w.heap.size, 9, none⟩ = some (.int .u64 s.fin) := cell_of Q0.out
  clear f2 HM g1
  go_wp2_with fail
  have fd : Fr [w.heap.size + 2] w2 w2.drew := (Fr.refl _ _).drew
  have HFA := Lib.hid fun (w' : World) (f : Fr [w.heap.size + 2] w2 w') => (show w'.cell? ⟨w.heap.size, 0, none⟩ = some (.pointer (some ⟨mb, 0, none⟩)) ∧ w'.cell? ⟨w.heap.size, 1, none⟩ = some (.int .i64 s.r) ∧ w'.cell? ⟨w.heap.size, 2, none⟩ = some (.int .i64 s.p) ∧ w'.cell? ⟨w.heap.size, 3, none⟩ = some (.int .i64 s.u) ∧ w'.cell? ⟨w.heap.size, 4, none⟩ = some (.int .i64 s.lat) ∧ w'.cell? ⟨w.heap.size, 5, none⟩ = some (.int .i64 s.lim) ∧ w'.cell? ⟨w.heap.size, 6, none⟩ = some (.int .u64 now0) ∧ w'.cell? ⟨w.heap.size, 7, none⟩ = some (.slice ma nl mc) ∧ w'.cell? ⟨w.heap.size, 8, none⟩ = some (.bool s.closed) ∧ w'.cell? ⟨w.heap.size, 9, none⟩ = some (.int .u64 s.fin) ∧ w'.cell? ⟨w.heap.size, 10, none⟩ = some (.int .u64 s.last) ∧ w'.cell? ⟨w.heap.size + 1, 0, none⟩ = some (.int .i64 1) ∧ w'.cell? ⟨w.heap.size + 1, 1, none⟩ = some (.int .u64 now) ∧ w'.cell? ⟨w.heap.size + 1, 2, none⟩ = some (.slice pa data.length pc) ∧ w'.cell? ⟨w.heap.size + 1, 3, none⟩ = some (.int .i64 n) from (let q' := f.keep Q0.out (by simp); let a' := f.keep Q1.out (by simp); ⟨cell_of q', cell_of q', cell_of q', cell_of q', cell_of q', cell_of q', cell_of q', cell_of q', cell_of q', cell_of q', cell_of q', cell_of a', cell_of a', cell_of a', cell_of a'⟩))
  refine wp_region_order [(0, true), (1, true), (2, true), (3, true), (4, true), (5, true), (6, true), (7, true), (8, true), (9, true), (10, true), (11, false), (12, true)] (fun w' => Fr [w.heap.size + 2] w2 w') (by kernel_rfl) (by kernel_rfl) fd ?_
  intro OPS HOPS
  have hops := HOPS.out
  try simp only [List.append_eq, List.cons_append, List.nil_append] at hops
  replace HOPS := Lib.hid hops
  clear hops
  refine walkO_take (o := _) (v := ?_) (by rw [HOPS.out]; simp only [List.getElem?_toArray, List.getElem?_cons_succ, List.getElem?_cons_zero]; exact rfl) (Or.inl ⟨rfl, ?_⟩) ?_
  rotate_left
  · (intro w hSw; have hSx := HFA.out _ hSw; (try dsimp only at hSx); clear hSw; go_simp) <;> (with_reducible rfl)
  simp only [Act.put, List.setIfInBounds_toArray, List.set_cons_zero, List.set_cons_succ]
  refine walkO_take (o := _) (v := ?_) (by rw [HOPS.out]; simp only [List.getElem?_toArray, List.getElem?_cons_succ, List.getElem?_cons_zero]; exact rfl) (Or.inl ⟨rfl, ?_⟩) ?_
  rotate_left
  · (intro w hSw; have hSx := HFA.out _ hSw; (try dsimp only at hSx); clear hSw; go_simp) <;> (with_reducible rfl)
  simp only [Act.put, List.setIfInBounds_toArray, List.set_cons_zero, List.set_cons_succ]
  refine walkO_take (o := _) (v := ?_) (by rw [HOPS.out]; simp only [List.getElem?_toArray, List.getElem?_cons_succ, List.getElem?_cons_zero]; exact rfl) (Or.inl ⟨rfl, ?_⟩) ?_
  rotate_left
  · (intro w hSw; have hSx := HFA.out _ hSw; (try dsimp only at hSx); clear hSw; go_simp) <;> (with_reducible rfl)
  simp only [Act.put, List.setIfInBounds_toArray, List.set_cons_zero, List.set_cons_succ]
  refine walkO_take (o := _) (v := ?_) (by rw [HOPS.out]; simp only [List.getElem?_toArray, List.getElem?_cons_succ, List.getElem?_cons_zero]; exact rfl) (Or.inl ⟨rfl, ?_⟩) ?_
  rotate_left
  · (intro w hSw; have hSx := HFA.out _ hSw; (try dsimp only at hSx); clear hSw; go_simp) <;> (with_reducible rfl)
  simp only [Act.put, List.setIfInBounds_toArray, List.set_cons_zero, List.set_cons_succ]
  refine walkO_take (o := _) (v := ?_) (by rw [HOPS.out]; simp only [List.getElem?_toArray, List.getElem?_cons_succ, List.getElem?_cons_zero]; exact rfl) (Or.inl ⟨rfl, ?_⟩) ?_
  rotate_left
  · (intro w hSw; have hSx := HFA.out _ hSw; (try dsimp only at hSx); clear hSw; go_simp) <;> (with_reducible rfl)
  simp only [Act.put, List.setIfInBounds_toArray, List.set_cons_zero, List.set_cons_succ]
  refine walkO_take (o := _) (v := ?_) (by rw [HOPS.out]; simp only [List.getElem?_toArray, List.getElem?_cons_succ, List.getElem?_cons_zero]; exact rfl) (Or.inl ⟨rfl, ?_⟩) ?_
  rotate_left
  · (intro w hSw; have hSx := HFA.out _ hSw; (try dsimp only at hSx); clear hSw; go_simp) <;> (with_reducible rfl)
  simp only [Act.put, List.setIfInBounds_toArray, List.set_cons_zero, List.set_cons_succ]
  refine walkO_take (o := _) (v := ?_) (by rw [HOPS.out]; simp only [List.getElem?_toArray, List.getElem?_cons_succ, List.getElem?_cons_zero]; exact rfl) (Or.inl ⟨by rw [HOPS.out]; rfl, ?_⟩) ?_
  rotate_left
  · (intro w hSw; have hSx := HFA.out _ hSw; (try dsimp only at hSx); clear hSw; go_simp) <;> (with_reducible rfl)
  simp only [Act.put, List.setIfInBounds_toArray, List.set_cons_zero, List.set_cons_succ]
  refine walkO_take (o := _) (v := ?_) (by rw [HOPS.out]; simp only [List.getElem?_toArray, List.getElem?_cons_succ, List.getElem?_cons_zero]; exact rfl) (Or.inl ⟨by rw [HOPS.out]; rfl, ?_⟩) ?_
  rotate_left
  · (intro w hSw; have hSx := HFA.out _ hSw; (try dsimp only at hSx); clear hSw; go_simp) <;> (with_reducible rfl)
  simp only [Act.put, List.setIfInBounds_toArray, List.set_cons_zero, List.set_cons_succ]
  refine walkO_take (o := _) (v := ?_) (by rw [HOPS.out]; simp only [List.getElem?_toArray, List.getElem?_cons_succ, List.getElem?_cons_zero]; exact rfl) (Or.inl ⟨by rw [HOPS.out]; rfl, ?_⟩) ?_
  rotate_left
  · (intro w hSw; have hSx := HFA.out _ hSw; (try dsimp only at hSx); clear hSw; go_simp) <;> (with_reducible rfl)
  simp only [Act.put, List.setIfInBounds_toArray, List.set_cons_zero, List.set_cons_succ]
  refine walkO_take (o := _) (v := ?_) (by rw [HOPS.out]; simp only [List.getElem?_toArray, List.getElem?_cons_succ, List.getElem?_cons_zero]; exact rfl) (Or.inl ⟨rfl, ?_⟩) ?_
  rotate_left
  · (intro w hSw; have hSx := HFA.out _ hSw; (try dsimp only at hSx); clear hSw; go_simp) <;> (with_reducible rfl)
  simp only [Act.put, List.setIfInBounds_toArray, List.set_cons_zero, List.set_cons_succ]
  refine walkO_take (o := _) (v := ?_) (by rw [HOPS.out]; simp only [List.getElem?_toArray, List.getElem?_cons_succ, List.getElem?_cons_zero]; exact rfl) (Or.inl ⟨rfl, ?_⟩) ?_
  rotate_left
  · (intro w hSw; have hSx := HFA.out _ hSw; (try dsimp only at hSx); clear hSw; go_simp) <;> (with_reducible rfl)
  simp only [Act.put, List.setIfInBounds_toArray, List.set_cons_zero, List.set_cons_succ]
  refine walkO_call (o := _) (by rw [HOPS.out]; simp only [List.getElem?_toArray, List.getElem?_cons_succ, List.getElem?_cons_zero]; exact rfl) (fun K HK => ?_)
  obtain ⟨wE, hwE, qE, fE⟩ := setRow_fr (cs := #[.pointer (some ⟨mb, 0, none⟩), .int .i64 s.r, .int .i64 s.p, .int .i64 s.u, .int .i64 s.lat, .int .i64 s.lim, .int .u64 now0, .slice ma nl mc, .bool s.closed, .int .u64 s.fin, .int .u64 s.last]) (show w2.drew.heap[w.heap.size + 2]? = _ from Q2.out)
  refine step_store_row rfl 64 (.tmp 7) (.tmp 188) rfl (w.heap.size + 2) #[.pointer (some ⟨mb, 0, none⟩), .int .i64 s.r, .int .i64 s.p, .int .i64 s.u, .int .i64 s.lat, .int .i64 s.lim, .int .u64 now0, .slice ma nl mc, .bool s.closed, .int .u64 s.fin, .int .u64 s.last] rfl rfl _ _ (show w2.drew.heap[w.heap.size + 2]? = _ from Q2.out) (by kernel_rfl) rfl (by simp [Value.oneCell']) hwE ?_
  have gE : Fr [w.heap.size + 2] w2 wE := fd.trans fE (fun _ h => .inl h) (fun x hx => .inl hx)
  refine HK.out (fun w' => Fr [w.heap.size + 2] w2 w') _ _ (fun _ h => h) (gE) ?_
  clear HK K
  try simp only [Act.put, List.setIfInBounds_toArray, List.set_cons_zero, List.set_cons_succ]
  refine walkO_take (o := _) (v := ?_) (by rw [HOPS.out]; simp only [List.getElem?_toArray, List.getElem?_cons_succ, List.getElem?_cons_zero]; exact rfl) (Or.inl ⟨rfl, ?_⟩) ?_
  rotate_left
  · (intro w hSw; have hSx := HFA.out _ hSw; (try dsimp only at hSx); clear hSw; go_simp) <;> (with_reducible rfl)
  simp only [Act.put, List.setIfInBounds_toArray, List.set_cons_zero, List.set_cons_succ]
  refine walkO_done ?_
  clear HOPS OPS
  clear HFA
  try simp only [Exit.then]
  go_wp2_with fail
  refine bodyPost_ret (m41_result3 qE (by kernel_rfl) rfl rfl rfl rfl) rfl ?_
  exact ⟨b, k, L, _, rfl, g2.trans gE (fun _ h => .inl h) (fun x hx => .inr (by simp at hx; omega)), s2.out.keep gE (fun y hy hm => by simp at hy; have := HOLD.out _ hm; omega), HM2.out.keep gE (fun y hy => .inl (by simp at hy; simp [hy])) (fun y hy => .inl (List.mem_cons_of_mem _ (List.mem_cons_of_mem _ (List.mem_cons_of_mem _ hy)))), fun y hy => .inl hy⟩

set_option maxHeartbeats 16000000 in
theorem step41_r3 {w : World} {L : List Nat} {b k mb : Nat} {s : SH} {v : Value} (h : Shp w L b k s) {Lm : List Nat} (hm : Md w Lm mb s v) (hLm : ∀ y ∈ L, y ∈ Lm) (hLo : ∀ y ∈ Lm, y < w.heap.size) {pa : Option Addr} {pc : Nat} {data : List UInt8} (hd : Sl w pa (bi data)) (hdo : ∀ b' o', 0 < data.length → pa = some ⟨b', o', none⟩ → b' ∉ L ∧ b' ≠ mb) (hdl : data.length ≤ 100) (hpc : data.length ≤ pc) {now n : Int} (h0 : 0 ≤ now) (h1 : now ≤ 18446744073709551615) (hwr : now < s.last ∨ now = 18446744073709551615) (hn0 : 0 ≤ n) (hn1 : n ≤ 65536) :
    Calls Try.prog 36 #[.pointer (some ⟨b, 0, none⟩), v, .agg #[.int .i64 1, .int .u64 now, .slice pa data.length pc, .int .i64 n]] w (Step41 w L Lm mb (recvS s now n)) := by
  have hE : recvE s now n = 3 := by unfold recvE; rw [show (decide (0 ≤ n) && decide (n ≤ 65536)) = true by simp; omega]; rw [if_pos (by unfold mayE; rw [if_neg (by simp), if_pos hwr]; decide)]; unfold mayE; rw [if_neg (by simp), if_pos hwr]
  have hH := recvS_bad (s := s) (now := now) (most := n) (by rw [hE]; decide)
  have hB := recvB_bad (s := s) (now := now) (most := n) (by rw [hE]; decide)
  rw [hH]
  obtain ⟨⟨ma, nl, mc, now0, rfl, hby, hnl, hmc, hmx⟩, hbk, hmb⟩ := hm
  have HM := Lib.hid (show Md w Lm mb s (.agg #[.pointer (some ⟨mb, 0, none⟩), .int .i64 s.r, .int .i64 s.p, .int .i64 s.u, .int .i64 s.lat, .int .i64 s.lim, .int .u64 now0, .slice ma nl mc, .bool s.closed, .int .u64 s.fin, .int .u64 s.last]) from ⟨⟨ma, nl, mc, now0, rfl, hby, hnl, hmc, hmx⟩, hbk, hmb⟩)
  have hmbl := lt_of_heap hbk
  have HBK0 := Lib.hid hbk
  have HBY := Lib.hid hby
  have HNL := Lib.hid (And.intro hnl (And.intro hmc hmx))
  have HOLD := Lib.hid h.old
  have HLM := Lib.hid hLm
  have HLO := Lib.hid hLo
  have hmb0 : mb ∉ L := fun hm => hmb (hLm _ hm)
  clear hLm hLo
  have hnl2 : nl ≤ 65536 := by have := h.ok.tot; have := h.ok.lim1; have := flatS_length s.segs; omega
  obtain ⟨w0, hw0, f0, q0, q1, q2⟩ : ∃ W, ((w.alloc (.cells #[.pointer (some ⟨mb, 0, none⟩), .int .i64 s.r, .int .i64 s.p, .int .i64 s.u, .int .i64 s.lat, .int .i64 s.lim, .int .u64 now0, .slice ma nl mc, .bool s.closed, .int .u64 s.fin, .int .u64 s.last] 64)).alloc (.cells #[.int .i64 1, .int .u64 now, .slice pa data.length pc, .int .i64 n] 77)).alloc (.cells #[.pointer none, .int .i64 0, .int .i64 0, .int .i64 0, .int .i64 0, .int .i64 0, .int .u64 0, .slice none 0 0, .bool false, .int .u64 0, .int .u64 0] 64) = W ∧ Fr [] w W ∧ W.heap[w.heap.size]? = some (.cells #[.pointer (some ⟨mb, 0, none⟩), .int .i64 s.r, .int .i64 s.p, .int .i64 s.u, .int .i64 s.lat, .int .i64 s.lim, .int .u64 now0, .slice ma nl mc, .bool s.closed, .int .u64 s.fin, .int .u64 s.last] 64 (0, 0)) ∧ W.heap[w.heap.size + 1]? = some (.cells #[.int .i64 1, .int .u64 now, .slice pa data.length pc, .int .i64 n] 77 (0, 0)) ∧ W.heap[w.heap.size + 2]? = some (.cells #[.pointer none, .int .i64 0, .int .i64 0, .int .i64 0, .int .i64 0, .int .i64 0, .int .u64 0, .slice none 0 0, .bool false, .int .u64 0, .int .u64 0] 64 (0, 0)) := ⟨_, rfl, (((Fr.refl _ _).alloc _).alloc _).alloc _, keepA (keepA (newA rfl)), keepA (newA (by simp)), newA (by simp)⟩
  have a0 : w0.cell? ⟨w.heap.size + 1, 0, none⟩ = some (.int .i64 1) := cell_of q1
  have a1 : w0.cell? ⟨w.heap.size + 1, 1, none⟩ = some (.int .u64 now) := cell_of q1
  have a2 : w0.cell? ⟨w.heap.size + 1, 2, none⟩ = some (.slice pa data.length pc) := cell_of q1
  have a3 : w0.cell? ⟨w.heap.size + 1, 3, none⟩ = some (.int .i64 n) := cell_of q1
  have HWR := Lib.hid fun (w : World) => wrong41_bad (c0 := .pointer (some ⟨mb, 0, none⟩)) (c1 := .int .i64 s.r) (c2 := .int .i64 s.p) (c3 := .int .i64 s.u) (c4 := .int .i64 s.lat) (c5 := .int .i64 s.lim) (c6 := .int .u64 now0) (c7 := .slice ma nl mc) (c8 := .bool s.closed) (c9 := .int .u64 s.fin) w hwr
  clear hby hnl hmc hmx hbk hwr
  go_enter Try.func36, Try.ntmps36
  go_wp2_with (refine wpList_load_row rfl 64 (.tmp 4) rfl _ rfl _ _ _ _ q0 Try.underlying64 rfl (by kernel_rfl) ?_)
  refine (HWR.out _).mono ?_
  rintro e w1 ⟨rfl, f1⟩
  have g1 : Fr [] w w1 := f0.then0 f1
  have Q0 := Lib.hid (f1.keep q0 (by simp))
  have Q1 := Lib.hid (f1.keep q1 (by simp))
  have Q2 := Lib.hid (f1.keep q2 (by simp))
  replace HM := Lib.hid (HM.out.keep (L' := w.heap.size :: (w.heap.size + 1) :: (w.heap.size + 2) :: (L ++ Lm)) g1 (by simp) (fun y hy => by simp at hy; rcases hy with rfl | rfl | rfl | hy | hy; exact .inr (by omega); exact .inr (by omega); exact .inr (by omega); exact .inl (HLM.out y hy); exact .inl hy))
  replace HBY := Lib.hid (HBY.out.keep (L' := w.heap.size :: (w.heap.size + 1) :: (w.heap.size + 2) :: (L ++ Lm)) g1 (by simp) (fun y hy => by simp at hy; rcases hy with rfl | rfl | rfl | hy | hy; exact .inr (by omega); exact .inr (by omega); exact .inr (by omega); exact .inl (HLM.out y hy); exact .inl hy))
  clear a0 a1 a2 a3 HWR hw0 q0 q1 q2 f1 f0
  have e0 : w1.cell? ⟨w.heap.size + 1, 1, none⟩ = some (.int .u64 now) := cell_of Q1.out
  have a0 : w1.cell? ⟨w.heap.size + 1, 0, none⟩ = some (.int .i64 1) := cell_of Q1.out
  have a2 : w1.cell? ⟨w.heap.size + 1, 2, none⟩ = some (.slice pa data.length pc) := cell_of Q1.out
  have a3 : w1.cell? ⟨w.heap.size + 1, 3, none⟩ = some (.int .i64 n) := cell_of Q1.out
  have HCL := Lib.hid (sh_recv (most := n) (h.keep0 g1) h0 h1)
  rw [hE, hH, hB] at HCL
  clear h hE hH hB
  go_wp2_with fail
  refine HCL.out.mono ?_
  rintro e w2 ⟨v, rfl, f2, s2, o2⟩
  obtain ⟨va, vc, rfl, _, _, _, _⟩ := o2.formB
  rw [List.length_nil]
  replace s2 := Lib.hid s2
  clear HCL a0 a2 a3 e0 o2
  replace Q0 := Lib.hid (f2.keep Q0.out (fun hm => by have h1_ := HOLD.out _ hm; omega))
  replace Q1 := Lib.hid (f2.keep Q1.out (fun hm => by have h1_ := HOLD.out _ hm; omega))
  replace Q2 := Lib.hid (f2.keep Q2.out (fun hm => by have h1_ := HOLD.out _ hm; omega))
  have HM2 := Lib.hid (HM.out.keep (L' := w.heap.size :: (w.heap.size + 1) :: (w.heap.size + 2) :: (L ++ Lm)) f2 (fun y hy => .inl (by simp [hy])) (fun y hy => .inl hy))
  replace HBY := Lib.hid (HBY.out.keep (L' := w.heap.size :: (w.heap.size + 1) :: (w.heap.size + 2) :: (L ++ Lm)) f2 (fun y hy => .inl (by simp [hy])) (fun y hy => .inl hy))
  have g2 : Fr (mb :: L) w w2 := (g1.mono (T := mb :: L) (by simp)).trans f2 (fun _ h => .inl h) (fun x hx => .inl (by simp [hx]))
  have d1 : w2.cell? ⟨w.heap.size + 1, 1, none⟩ = some (.int .u64 now) := cell_of Q1.out
  have d3 : w2.cell? ⟨w.heap.size + 1, 3, none⟩ = some (.int .i64 n) := cell_of Q1.out
  have m7 : w2.cell? ⟨w.heap.size, 7, none⟩ = some (.slice ma nl mc) := cell_of Q0.out
  have m8 : w2.cell? ⟨w.heap.size, 8, none⟩ = some (.bool s.closed) := cell_of Q0.out
  have m9 : w2.cell? ⟨w.heap.size, 9, none⟩ = some (.int .u64 s.fin) := cell_of Q0.out
  clear f2 HM g1
  go_wp2_with fail
  have fd : Fr [w.heap.size + 2] w2 w2.drew := (Fr.refl _ _).drew
  have HFA := Lib.hid fun (w' : World) (f : Fr [w.heap.size + 2] w2 w') => (show w'.cell? ⟨w.heap.size, 0, none⟩ = some (.pointer (some ⟨mb, 0, none⟩)) ∧ w'.cell? ⟨w.heap.size, 1, none⟩ = some (.int .i64 s.r) ∧ w'.cell? ⟨w.heap.size, 2, none⟩ = some (.int .i64 s.p) ∧ w'.cell? ⟨w.heap.size, 3, none⟩ = some (.int .i64 s.u) ∧ w'.cell? ⟨w.heap.size, 4, none⟩ = some (.int .i64 s.lat) ∧ w'.cell? ⟨w.heap.size, 5, none⟩ = some (.int .i64 s.lim) ∧ w'.cell? ⟨w.heap.size, 6, none⟩ = some (.int .u64 now0) ∧ w'.cell? ⟨w.heap.size, 7, none⟩ = some (.slice ma nl mc) ∧ w'.cell? ⟨w.heap.size, 8, none⟩ = some (.bool s.closed) ∧ w'.cell? ⟨w.heap.size, 9, none⟩ = some (.int .u64 s.fin) ∧ w'.cell? ⟨w.heap.size, 10, none⟩ = some (.int .u64 s.last) ∧ w'.cell? ⟨w.heap.size + 1, 0, none⟩ = some (.int .i64 1) ∧ w'.cell? ⟨w.heap.size + 1, 1, none⟩ = some (.int .u64 now) ∧ w'.cell? ⟨w.heap.size + 1, 2, none⟩ = some (.slice pa data.length pc) ∧ w'.cell? ⟨w.heap.size + 1, 3, none⟩ = some (.int .i64 n) from (let q' := f.keep Q0.out (by simp); let a' := f.keep Q1.out (by simp); ⟨cell_of q', cell_of q', cell_of q', cell_of q', cell_of q', cell_of q', cell_of q', cell_of q', cell_of q', cell_of q', cell_of q', cell_of a', cell_of a', cell_of a', cell_of a'⟩))
  refine wp_region_order [(0, true), (1, true), (2, true), (3, true), (4, true), (5, true), (6, true), (7, true), (8, true), (9, true), (10, true), (11, false), (12, true)] (fun w' => Fr [w.heap.size + 2] w2 w') (by kernel_rfl) (by kernel_rfl) fd ?_
  intro OPS HOPS
  have hops := HOPS.out
  try simp only [List.append_eq, List.cons_append, List.nil_append] at hops
  replace HOPS := Lib.hid hops
  clear hops
  refine walkO_take (o := _) (v := ?_) (by rw [HOPS.out]; simp only [List.getElem?_toArray, List.getElem?_cons_succ, List.getElem?_cons_zero]; exact rfl) (Or.inl ⟨rfl, ?_⟩) ?_
  rotate_left
  · (intro w hSw; have hSx := HFA.out _ hSw; (try dsimp only at hSx); clear hSw; go_simp) <;> (with_reducible rfl)
  simp only [Act.put, List.setIfInBounds_toArray, List.set_cons_zero, List.set_cons_succ]
  refine walkO_take (o := _) (v := ?_) (by rw [HOPS.out]; simp only [List.getElem?_toArray, List.getElem?_cons_succ, List.getElem?_cons_zero]; exact rfl) (Or.inl ⟨rfl, ?_⟩) ?_
  rotate_left
  · (intro w hSw; have hSx := HFA.out _ hSw; (try dsimp only at hSx); clear hSw; go_simp) <;> (with_reducible rfl)
  simp only [Act.put, List.setIfInBounds_toArray, List.set_cons_zero, List.set_cons_succ]
  refine walkO_take (o := _) (v := ?_) (by rw [HOPS.out]; simp only [List.getElem?_toArray, List.getElem?_cons_succ, List.getElem?_cons_zero]; exact rfl) (Or.inl ⟨rfl, ?_⟩) ?_
  rotate_left
  · (intro w hSw; have hSx := HFA.out _ hSw; (try dsimp only at hSx); clear hSw; go_simp) <;> (with_reducible rfl)
  simp only [Act.put, List.setIfInBounds_toArray, List.set_cons_zero, List.set_cons_succ]
  refine walkO_take (o := _) (v := ?_) (by rw [HOPS.out]; simp only [List.getElem?_toArray, List.getElem?_cons_succ, List.getElem?_cons_zero]; exact rfl) (Or.inl ⟨rfl, ?_⟩) ?_
  rotate_left
  · (intro w hSw; have hSx := HFA.out _ hSw; (try dsimp only at hSx); clear hSw; go_simp) <;> (with_reducible rfl)
  simp only [Act.put, List.setIfInBounds_toArray, List.set_cons_zero, List.set_cons_succ]
  refine walkO_take (o := _) (v := ?_) (by rw [HOPS.out]; simp only [List.getElem?_toArray, List.getElem?_cons_succ, List.getElem?_cons_zero]; exact rfl) (Or.inl ⟨rfl, ?_⟩) ?_
  rotate_left
  · (intro w hSw; have hSx := HFA.out _ hSw; (try dsimp only at hSx); clear hSw; go_simp) <;> (with_reducible rfl)
  simp only [Act.put, List.setIfInBounds_toArray, List.set_cons_zero, List.set_cons_succ]
  refine walkO_take (o := _) (v := ?_) (by rw [HOPS.out]; simp only [List.getElem?_toArray, List.getElem?_cons_succ, List.getElem?_cons_zero]; exact rfl) (Or.inl ⟨rfl, ?_⟩) ?_
  rotate_left
  · (intro w hSw; have hSx := HFA.out _ hSw; (try dsimp only at hSx); clear hSw; go_simp) <;> (with_reducible rfl)
  simp only [Act.put, List.setIfInBounds_toArray, List.set_cons_zero, List.set_cons_succ]
  refine walkO_take (o := _) (v := ?_) (by rw [HOPS.out]; simp only [List.getElem?_toArray, List.getElem?_cons_succ, List.getElem?_cons_zero]; exact rfl) (Or.inl ⟨by rw [HOPS.out]; rfl, ?_⟩) ?_
  rotate_left
  · (intro w hSw; have hSx := HFA.out _ hSw; (try dsimp only at hSx); clear hSw; go_simp) <;> (with_reducible rfl)
  simp only [Act.put, List.setIfInBounds_toArray, List.set_cons_zero, List.set_cons_succ]
  refine walkO_take (o := _) (v := ?_) (by rw [HOPS.out]; simp only [List.getElem?_toArray, List.getElem?_cons_succ, List.getElem?_cons_zero]; exact rfl) (Or.inl ⟨by rw [HOPS.out]; rfl, ?_⟩) ?_
  rotate_left
  · (intro w hSw; have hSx := HFA.out _ hSw; (try dsimp only at hSx); clear hSw; go_simp) <;> (with_reducible rfl)
  simp only [Act.put, List.setIfInBounds_toArray, List.set_cons_zero, List.set_cons_succ]
  refine walkO_take (o := _) (v := ?_) (by rw [HOPS.out]; simp only [List.getElem?_toArray, List.getElem?_cons_succ, List.getElem?_cons_zero]; exact rfl) (Or.inl ⟨by rw [HOPS.out]; rfl, ?_⟩) ?_
  rotate_left
  · (intro w hSw; have hSx := HFA.out _ hSw; (try dsimp only at hSx); clear hSw; go_simp) <;> (with_reducible rfl)
  simp only [Act.put, List.setIfInBounds_toArray, List.set_cons_zero, List.set_cons_succ]
  refine walkO_take (o := _) (v := ?_) (by rw [HOPS.out]; simp only [List.getElem?_toArray, List.getElem?_cons_succ, List.getElem?_cons_zero]; exact rfl) (Or.inl ⟨rfl, ?_⟩) ?_
  rotate_left
  · (intro w hSw; have hSx := HFA.out _ hSw; (try dsimp only at hSx); clear hSw; go_simp) <;> (with_reducible rfl)
  simp only [Act.put, List.setIfInBounds_toArray, List.set_cons_zero, List.set_cons_succ]
  refine walkO_take (o := _) (v := ?_) (by rw [HOPS.out]; simp only [List.getElem?_toArray, List.getElem?_cons_succ, List.getElem?_cons_zero]; exact rfl) (Or.inl ⟨rfl, ?_⟩) ?_
  rotate_left
  · (intro w hSw; have hSx := HFA.out _ hSw; (try dsimp only at hSx); clear hSw; go_simp) <;> (with_reducible rfl)
  simp only [Act.put, List.setIfInBounds_toArray, List.set_cons_zero, List.set_cons_succ]
  refine walkO_call (o := _) (by rw [HOPS.out]; simp only [List.getElem?_toArray, List.getElem?_cons_succ, List.getElem?_cons_zero]; exact rfl) (fun K HK => ?_)
  obtain ⟨wE, hwE, qE, fE⟩ := setRow_fr (cs := #[.pointer (some ⟨mb, 0, none⟩), .int .i64 s.r, .int .i64 s.p, .int .i64 s.u, .int .i64 s.lat, .int .i64 s.lim, .int .u64 now0, .slice ma nl mc, .bool s.closed, .int .u64 s.fin, .int .u64 s.last]) (show w2.drew.heap[w.heap.size + 2]? = _ from Q2.out)
  refine step_store_row rfl 64 (.tmp 7) (.tmp 188) rfl (w.heap.size + 2) #[.pointer (some ⟨mb, 0, none⟩), .int .i64 s.r, .int .i64 s.p, .int .i64 s.u, .int .i64 s.lat, .int .i64 s.lim, .int .u64 now0, .slice ma nl mc, .bool s.closed, .int .u64 s.fin, .int .u64 s.last] rfl rfl _ _ (show w2.drew.heap[w.heap.size + 2]? = _ from Q2.out) (by kernel_rfl) rfl (by simp [Value.oneCell']) hwE ?_
  have gE : Fr [w.heap.size + 2] w2 wE := fd.trans fE (fun _ h => .inl h) (fun x hx => .inl hx)
  refine HK.out (fun w' => Fr [w.heap.size + 2] w2 w') _ _ (fun _ h => h) (gE) ?_
  clear HK K
  try simp only [Act.put, List.setIfInBounds_toArray, List.set_cons_zero, List.set_cons_succ]
  refine walkO_take (o := _) (v := ?_) (by rw [HOPS.out]; simp only [List.getElem?_toArray, List.getElem?_cons_succ, List.getElem?_cons_zero]; exact rfl) (Or.inl ⟨rfl, ?_⟩) ?_
  rotate_left
  · (intro w hSw; have hSx := HFA.out _ hSw; (try dsimp only at hSx); clear hSw; go_simp) <;> (with_reducible rfl)
  simp only [Act.put, List.setIfInBounds_toArray, List.set_cons_zero, List.set_cons_succ]
  refine walkO_done ?_
  clear HOPS OPS
  clear HFA
  try simp only [Exit.then]
  go_wp2_with fail
  refine bodyPost_ret (m41_result3 qE (by kernel_rfl) rfl rfl rfl rfl) rfl ?_
  exact ⟨b, k, L, _, rfl, g2.trans gE (fun _ h => .inl h) (fun x hx => .inr (by simp at hx; omega)), s2.out.keep gE (fun y hy hm => by simp at hy; have := HOLD.out _ hm; omega), HM2.out.keep gE (fun y hy => .inl (by simp at hy; simp [hy])) (fun y hy => .inl (List.mem_cons_of_mem _ (List.mem_cons_of_mem _ (List.mem_cons_of_mem _ hy)))), fun y hy => .inl hy⟩

set_option maxHeartbeats 16000000 in
theorem step41_r13 {w : World} {L : List Nat} {b k mb : Nat} {s : SH} {v : Value} (h : Shp w L b k s) {Lm : List Nat} (hm : Md w Lm mb s v) (hLm : ∀ y ∈ L, y ∈ Lm) (hLo : ∀ y ∈ Lm, y < w.heap.size) {pa : Option Addr} {pc : Nat} {data : List UInt8} (hd : Sl w pa (bi data)) (hdo : ∀ b' o', 0 < data.length → pa = some ⟨b', o', none⟩ → b' ∉ L ∧ b' ≠ mb) (hdl : data.length ≤ 100) (hpc : data.length ≤ pc) {now n : Int} (h0 : 0 ≤ now) (h1 : now ≤ 18446744073709551615) (hw1 : s.last ≤ now) (hw2 : now < 18446744073709551615) (hn0 : 0 ≤ n) (hn1 : n ≤ 65536) (hc : s.closed = true) (hx : s.segs = []) (hf : s.fin ≤ now) :
    Calls Try.prog 36 #[.pointer (some ⟨b, 0, none⟩), v, .agg #[.int .i64 1, .int .u64 now, .slice pa data.length pc, .int .i64 n]] w (Step41 w L Lm mb (recvS s now n)) := by
  have hE : recvE s now n = 13 := by unfold recvE; rw [show (decide (0 ≤ n) && decide (n ≤ 65536)) = true by simp; omega]; rw [if_neg (by unfold mayE; rw [if_neg (by simp), if_neg (by omega)]; decide), if_pos ⟨hc, hx, hf⟩]
  have hH := recvS_bad (s := s) (now := now) (most := n) (by rw [hE]; decide)
  have hB := recvB_bad (s := s) (now := now) (most := n) (by rw [hE]; decide)
  rw [hH]
  obtain ⟨⟨ma, nl, mc, now0, rfl, hby, hnl, hmc, hmx⟩, hbk, hmb⟩ := hm
  have HM := Lib.hid (show Md w Lm mb s (.agg #[.pointer (some ⟨mb, 0, none⟩), .int .i64 s.r, .int .i64 s.p, .int .i64 s.u, .int .i64 s.lat, .int .i64 s.lim, .int .u64 now0, .slice ma nl mc, .bool true, .int .u64 s.fin, .int .u64 s.last]) from ⟨⟨ma, nl, mc, now0, by rw [hc], hby, hnl, hmc, hmx⟩, hbk, hmb⟩)
  have hmbl := lt_of_heap hbk
  have HBK0 := Lib.hid hbk
  have HBY := Lib.hid hby
  have HNL := Lib.hid (And.intro hnl (And.intro hmc hmx))
  have HOLD := Lib.hid h.old
  have HLM := Lib.hid hLm
  have HLO := Lib.hid hLo
  have hmb0 : mb ∉ L := fun hm => hmb (hLm _ hm)
  clear hLm hLo
  have hnl2 : nl ≤ 65536 := by have := h.ok.tot; have := h.ok.lim1; have := flatS_length s.segs; omega
  rw [hc]
  replace hc := Lib.hid hc
  obtain ⟨w0, hw0, f0, q0, q1, q2⟩ : ∃ W, ((w.alloc (.cells #[.pointer (some ⟨mb, 0, none⟩), .int .i64 s.r, .int .i64 s.p, .int .i64 s.u, .int .i64 s.lat, .int .i64 s.lim, .int .u64 now0, .slice ma nl mc, .bool true, .int .u64 s.fin, .int .u64 s.last] 64)).alloc (.cells #[.int .i64 1, .int .u64 now, .slice pa data.length pc, .int .i64 n] 77)).alloc (.cells #[.pointer none, .int .i64 0, .int .i64 0, .int .i64 0, .int .i64 0, .int .i64 0, .int .u64 0, .slice none 0 0, .bool false, .int .u64 0, .int .u64 0] 64) = W ∧ Fr [] w W ∧ W.heap[w.heap.size]? = some (.cells #[.pointer (some ⟨mb, 0, none⟩), .int .i64 s.r, .int .i64 s.p, .int .i64 s.u, .int .i64 s.lat, .int .i64 s.lim, .int .u64 now0, .slice ma nl mc, .bool true, .int .u64 s.fin, .int .u64 s.last] 64 (0, 0)) ∧ W.heap[w.heap.size + 1]? = some (.cells #[.int .i64 1, .int .u64 now, .slice pa data.length pc, .int .i64 n] 77 (0, 0)) ∧ W.heap[w.heap.size + 2]? = some (.cells #[.pointer none, .int .i64 0, .int .i64 0, .int .i64 0, .int .i64 0, .int .i64 0, .int .u64 0, .slice none 0 0, .bool false, .int .u64 0, .int .u64 0] 64 (0, 0)) := ⟨_, rfl, (((Fr.refl _ _).alloc _).alloc _).alloc _, keepA (keepA (newA rfl)), keepA (newA (by simp)), newA (by simp)⟩
  have a0 : w0.cell? ⟨w.heap.size + 1, 0, none⟩ = some (.int .i64 1) := cell_of q1
  have a1 : w0.cell? ⟨w.heap.size + 1, 1, none⟩ = some (.int .u64 now) := cell_of q1
  have a2 : w0.cell? ⟨w.heap.size + 1, 2, none⟩ = some (.slice pa data.length pc) := cell_of q1
  have a3 : w0.cell? ⟨w.heap.size + 1, 3, none⟩ = some (.int .i64 n) := cell_of q1
  have HWR := Lib.hid fun (w : World) => wrong41_ok (c0 := .pointer (some ⟨mb, 0, none⟩)) (c1 := .int .i64 s.r) (c2 := .int .i64 s.p) (c3 := .int .i64 s.u) (c4 := .int .i64 s.lat) (c5 := .int .i64 s.lim) (c6 := .int .u64 now0) (c7 := .slice ma nl mc) (c8 := .bool true) (c9 := .int .u64 s.fin) w hw1 hw2
  clear hby hnl hmc hmx hbk
  go_enter Try.func36, Try.ntmps36
  go_wp2_with (refine wpList_load_row rfl 64 (.tmp 4) rfl _ rfl _ _ _ _ q0 Try.underlying64 rfl (by kernel_rfl) ?_)
  refine (HWR.out _).mono ?_
  rintro e w1 ⟨rfl, f1⟩
  have g1 : Fr [] w w1 := f0.then0 f1
  have Q0 := Lib.hid (f1.keep q0 (by simp))
  have Q1 := Lib.hid (f1.keep q1 (by simp))
  have Q2 := Lib.hid (f1.keep q2 (by simp))
  replace HM := Lib.hid (HM.out.keep (L' := w.heap.size :: (w.heap.size + 1) :: (w.heap.size + 2) :: (L ++ Lm)) g1 (by simp) (fun y hy => by simp at hy; rcases hy with rfl | rfl | rfl | hy | hy; exact .inr (by omega); exact .inr (by omega); exact .inr (by omega); exact .inl (HLM.out y hy); exact .inl hy))
  replace HBY := Lib.hid (HBY.out.keep (L' := w.heap.size :: (w.heap.size + 1) :: (w.heap.size + 2) :: (L ++ Lm)) g1 (by simp) (fun y hy => by simp at hy; rcases hy with rfl | rfl | rfl | hy | hy; exact .inr (by omega); exact .inr (by omega); exact .inr (by omega); exact .inl (HLM.out y hy); exact .inl hy))
  clear a0 a1 a2 a3 HWR hw0 q0 q1 q2 f1 f0
  have e0 : w1.cell? ⟨w.heap.size + 1, 1, none⟩ = some (.int .u64 now) := cell_of Q1.out
  have a0 : w1.cell? ⟨w.heap.size + 1, 0, none⟩ = some (.int .i64 1) := cell_of Q1.out
  have a2 : w1.cell? ⟨w.heap.size + 1, 2, none⟩ = some (.slice pa data.length pc) := cell_of Q1.out
  have a3 : w1.cell? ⟨w.heap.size + 1, 3, none⟩ = some (.int .i64 n) := cell_of Q1.out
  have HCL := Lib.hid (sh_recv (most := n) (h.keep0 g1) h0 h1)
  rw [hE, hH, hB] at HCL
  clear h hE hH hB
  go_wp2_with fail
  refine HCL.out.mono ?_
  rintro e w2 ⟨v, rfl, f2, s2, o2⟩
  obtain ⟨va, vc, rfl, _, _, _, _⟩ := o2.formB
  rw [List.length_nil]
  replace s2 := Lib.hid s2
  clear HCL a0 a2 a3 e0 o2
  replace Q0 := Lib.hid (f2.keep Q0.out (fun hm => by have h1_ := HOLD.out _ hm; omega))
  replace Q1 := Lib.hid (f2.keep Q1.out (fun hm => by have h1_ := HOLD.out _ hm; omega))
  replace Q2 := Lib.hid (f2.keep Q2.out (fun hm => by have h1_ := HOLD.out _ hm; omega))
  have HM2 := Lib.hid (HM.out.keep (L' := w.heap.size :: (w.heap.size + 1) :: (w.heap.size + 2) :: (L ++ Lm)) f2 (fun y hy => .inl (by simp [hy])) (fun y hy => .inl hy))
  replace HBY := Lib.hid (HBY.out.keep (L' := w.heap.size :: (w.heap.size + 1) :: (w.heap.size + 2) :: (L ++ Lm)) f2 (fun y hy => .inl (by simp [hy])) (fun y hy => .inl hy))
  have g2 : Fr (mb :: L) w w2 := (g1.mono (T := mb :: L) (by simp)).trans f2 (fun _ h => .inl h) (fun x hx => .inl (by simp [hx]))
  have d1 : w2.cell? ⟨w.heap.size + 1, 1, none⟩ = some (.int .u64 now) := cell_of Q1.out
  have d3 : w2.cell? ⟨w.heap.size + 1, 3, none⟩ = some (.int .i64 n) := cell_of Q1.out
  have m7 : w2.cell? ⟨w.heap.size, 7, none⟩ = some (.slice ma nl mc) := cell_of Q0.out
  have m8 : w2.cell? ⟨w.heap.size, 8, none⟩ = some (.bool true) := cell_of Q0.out
  have m9 : w2.cell? ⟨w.heap.size, 9, none⟩ = some (.int .u64 s.fin) := cell_of Q0.out
  have hnl0 : nl = 0 := by rw [HNL.out.1, hx]; rfl
  have m7' : w2.cell? ⟨w.heap.size, 7, none⟩ = some (.slice ma 0 mc) := by rw [m7, hnl0]
  clear m7 hx
  replace hnl0 := Lib.hid hnl0
  clear f2 HM g1
  go_wp2_with fail
  have fd : Fr [w.heap.size + 2] w2 w2.drew := (Fr.refl _ _).drew
  have HFA := Lib.hid fun (w' : World) (f : Fr [w.heap.size + 2] w2 w') => (show w'.cell? ⟨w.heap.size, 0, none⟩ = some (.pointer (some ⟨mb, 0, none⟩)) ∧ w'.cell? ⟨w.heap.size, 1, none⟩ = some (.int .i64 s.r) ∧ w'.cell? ⟨w.heap.size, 2, none⟩ = some (.int .i64 s.p) ∧ w'.cell? ⟨w.heap.size, 3, none⟩ = some (.int .i64 s.u) ∧ w'.cell? ⟨w.heap.size, 4, none⟩ = some (.int .i64 s.lat) ∧ w'.cell? ⟨w.heap.size, 5, none⟩ = some (.int .i64 s.lim) ∧ w'.cell? ⟨w.heap.size, 6, none⟩ = some (.int .u64 now0) ∧ w'.cell? ⟨w.heap.size, 7, none⟩ = some (.slice ma nl mc) ∧ w'.cell? ⟨w.heap.size, 8, none⟩ = some (.bool true) ∧ w'.cell? ⟨w.heap.size, 9, none⟩ = some (.int .u64 s.fin) ∧ w'.cell? ⟨w.heap.size, 10, none⟩ = some (.int .u64 s.last) ∧ w'.cell? ⟨w.heap.size + 1, 0, none⟩ = some (.int .i64 1) ∧ w'.cell? ⟨w.heap.size + 1, 1, none⟩ = some (.int .u64 now) ∧ w'.cell? ⟨w.heap.size + 1, 2, none⟩ = some (.slice pa data.length pc) ∧ w'.cell? ⟨w.heap.size + 1, 3, none⟩ = some (.int .i64 n) from (let q' := f.keep Q0.out (by simp); let a' := f.keep Q1.out (by simp); ⟨cell_of q', cell_of q', cell_of q', cell_of q', cell_of q', cell_of q', cell_of q', cell_of q', cell_of q', cell_of q', cell_of q', cell_of a', cell_of a', cell_of a', cell_of a'⟩))
  refine wp_region_order [(0, true), (1, true), (2, true), (3, true), (4, true), (5, true), (6, true), (7, true), (8, true), (9, true), (10, true), (11, false), (12, true)] (fun w' => Fr [w.heap.size + 2] w2 w') (by kernel_rfl) (by kernel_rfl) fd ?_
  intro OPS HOPS
  have hops := HOPS.out
  try simp only [List.append_eq, List.cons_append, List.nil_append] at hops
  replace HOPS := Lib.hid hops
  clear hops
  refine walkO_take (o := _) (v := ?_) (by rw [HOPS.out]; simp only [List.getElem?_toArray, List.getElem?_cons_succ, List.getElem?_cons_zero]; exact rfl) (Or.inl ⟨rfl, ?_⟩) ?_
  rotate_left
  · (intro w hSw; have hSx := HFA.out _ hSw; (try dsimp only at hSx); clear hSw; go_simp) <;> (with_reducible rfl)
  simp only [Act.put, List.setIfInBounds_toArray, List.set_cons_zero, List.set_cons_succ]
  refine walkO_take (o := _) (v := ?_) (by rw [HOPS.out]; simp only [List.getElem?_toArray, List.getElem?_cons_succ, List.getElem?_cons_zero]; exact rfl) (Or.inl ⟨rfl, ?_⟩) ?_
  rotate_left
  · (intro w hSw; have hSx := HFA.out _ hSw; (try dsimp only at hSx); clear hSw; go_simp) <;> (with_reducible rfl)
  simp only [Act.put, List.setIfInBounds_toArray, List.set_cons_zero, List.set_cons_succ]
  refine walkO_take (o := _) (v := ?_) (by rw [HOPS.out]; simp only [List.getElem?_toArray, List.getElem?_cons_succ, List.getElem?_cons_zero]; exact rfl) (Or.inl ⟨rfl, ?_⟩) ?_
  rotate_left
  · (intro w hSw; have hSx := HFA.out _ hSw; (try dsimp only at hSx); clear hSw; go_simp) <;> (with_reducible rfl)
  simp only [Act.put, List.setIfInBounds_toArray, List.set_cons_zero, List.set_cons_succ]
  refine walkO_take (o := _) (v := ?_) (by rw [HOPS.out]; simp only [List.getElem?_toArray, List.getElem?_cons_succ, List.getElem?_cons_zero]; exact rfl) (Or.inl ⟨rfl, ?_⟩) ?_
  rotate_left
  · (intro w hSw; have hSx := HFA.out _ hSw; (try dsimp only at hSx); clear hSw; go_simp) <;> (with_reducible rfl)
  simp only [Act.put, List.setIfInBounds_toArray, List.set_cons_zero, List.set_cons_succ]
  refine walkO_take (o := _) (v := ?_) (by rw [HOPS.out]; simp only [List.getElem?_toArray, List.getElem?_cons_succ, List.getElem?_cons_zero]; exact rfl) (Or.inl ⟨rfl, ?_⟩) ?_
  rotate_left
  · (intro w hSw; have hSx := HFA.out _ hSw; (try dsimp only at hSx); clear hSw; go_simp) <;> (with_reducible rfl)
  simp only [Act.put, List.setIfInBounds_toArray, List.set_cons_zero, List.set_cons_succ]
  refine walkO_take (o := _) (v := ?_) (by rw [HOPS.out]; simp only [List.getElem?_toArray, List.getElem?_cons_succ, List.getElem?_cons_zero]; exact rfl) (Or.inl ⟨rfl, ?_⟩) ?_
  rotate_left
  · (intro w hSw; have hSx := HFA.out _ hSw; (try dsimp only at hSx); clear hSw; go_simp) <;> (with_reducible rfl)
  simp only [Act.put, List.setIfInBounds_toArray, List.set_cons_zero, List.set_cons_succ]
  refine walkO_take (o := _) (v := ?_) (by rw [HOPS.out]; simp only [List.getElem?_toArray, List.getElem?_cons_succ, List.getElem?_cons_zero]; exact rfl) (Or.inl ⟨by rw [HOPS.out]; rfl, ?_⟩) ?_
  rotate_left
  · (intro w hSw; have hSx := HFA.out _ hSw; (try dsimp only at hSx); clear hSw; go_simp) <;> (with_reducible rfl)
  simp only [Act.put, List.setIfInBounds_toArray, List.set_cons_zero, List.set_cons_succ]
  refine walkO_take (o := _) (v := ?_) (by rw [HOPS.out]; simp only [List.getElem?_toArray, List.getElem?_cons_succ, List.getElem?_cons_zero]; exact rfl) (Or.inl ⟨by rw [HOPS.out]; rfl, ?_⟩) ?_
  rotate_left
  · (intro w hSw; have hSx := HFA.out _ hSw; (try dsimp only at hSx); clear hSw; go_simp) <;> (with_reducible rfl)
  simp only [Act.put, List.setIfInBounds_toArray, List.set_cons_zero, List.set_cons_succ]
  refine walkO_take (o := _) (v := ?_) (by rw [HOPS.out]; simp only [List.getElem?_toArray, List.getElem?_cons_succ, List.getElem?_cons_zero]; exact rfl) (Or.inl ⟨by rw [HOPS.out]; rfl, ?_⟩) ?_
  rotate_left
  · (intro w hSw; have hSx := HFA.out _ hSw; (try dsimp only at hSx); clear hSw; go_simp) <;> (with_reducible rfl)
  simp only [Act.put, List.setIfInBounds_toArray, List.set_cons_zero, List.set_cons_succ]
  refine walkO_take (o := _) (v := ?_) (by rw [HOPS.out]; simp only [List.getElem?_toArray, List.getElem?_cons_succ, List.getElem?_cons_zero]; exact rfl) (Or.inl ⟨rfl, ?_⟩) ?_
  rotate_left
  · (intro w hSw; have hSx := HFA.out _ hSw; (try dsimp only at hSx); clear hSw; go_simp) <;> (with_reducible rfl)
  simp only [Act.put, List.setIfInBounds_toArray, List.set_cons_zero, List.set_cons_succ]
  refine walkO_take (o := _) (v := ?_) (by rw [HOPS.out]; simp only [List.getElem?_toArray, List.getElem?_cons_succ, List.getElem?_cons_zero]; exact rfl) (Or.inl ⟨rfl, ?_⟩) ?_
  rotate_left
  · (intro w hSw; have hSx := HFA.out _ hSw; (try dsimp only at hSx); clear hSw; go_simp) <;> (with_reducible rfl)
  simp only [Act.put, List.setIfInBounds_toArray, List.set_cons_zero, List.set_cons_succ]
  refine walkO_call (o := _) (by rw [HOPS.out]; simp only [List.getElem?_toArray, List.getElem?_cons_succ, List.getElem?_cons_zero]; exact rfl) (fun K HK => ?_)
  obtain ⟨wE, hwE, qE, fE⟩ := setRow_fr (cs := #[.pointer (some ⟨mb, 0, none⟩), .int .i64 s.r, .int .i64 s.p, .int .i64 s.u, .int .i64 s.lat, .int .i64 s.lim, .int .u64 now0, .slice ma nl mc, .bool true, .int .u64 s.fin, .int .u64 s.last]) (show w2.drew.heap[w.heap.size + 2]? = _ from Q2.out)
  refine step_store_row rfl 64 (.tmp 7) (.tmp 188) rfl (w.heap.size + 2) #[.pointer (some ⟨mb, 0, none⟩), .int .i64 s.r, .int .i64 s.p, .int .i64 s.u, .int .i64 s.lat, .int .i64 s.lim, .int .u64 now0, .slice ma nl mc, .bool true, .int .u64 s.fin, .int .u64 s.last] rfl rfl _ _ (show w2.drew.heap[w.heap.size + 2]? = _ from Q2.out) (by kernel_rfl) rfl (by simp [Value.oneCell']) hwE ?_
  have gE : Fr [w.heap.size + 2] w2 wE := fd.trans fE (fun _ h => .inl h) (fun x hx => .inl hx)
  refine HK.out (fun w' => Fr [w.heap.size + 2] w2 w') _ _ (fun _ h => h) (gE) ?_
  clear HK K
  try simp only [Act.put, List.setIfInBounds_toArray, List.set_cons_zero, List.set_cons_succ]
  refine walkO_take (o := _) (v := ?_) (by rw [HOPS.out]; simp only [List.getElem?_toArray, List.getElem?_cons_succ, List.getElem?_cons_zero]; exact rfl) (Or.inl ⟨rfl, ?_⟩) ?_
  rotate_left
  · (intro w hSw; have hSx := HFA.out _ hSw; (try dsimp only at hSx); clear hSw; go_simp) <;> (with_reducible rfl)
  simp only [Act.put, List.setIfInBounds_toArray, List.set_cons_zero, List.set_cons_succ]
  refine walkO_done ?_
  clear HOPS OPS
  clear HFA
  try simp only [Exit.then]
  go_wp2_with fail
  refine bodyPost_ret (m41_result3 qE (by kernel_rfl) rfl rfl rfl rfl) rfl ?_
  exact ⟨b, k, L, _, rfl, g2.trans gE (fun _ h => .inl h) (fun x hx => .inr (by simp at hx; omega)), s2.out.keep gE (fun y hy hm => by simp at hy; have := HOLD.out _ hm; omega), HM2.out.keep gE (fun y hy => .inl (by simp at hy; simp [hy])) (fun y hy => .inl (List.mem_cons_of_mem _ (List.mem_cons_of_mem _ (List.mem_cons_of_mem _ hy)))), fun y hy => .inl hy⟩
end Go.Proofs.Ytdndabklcenndaa
