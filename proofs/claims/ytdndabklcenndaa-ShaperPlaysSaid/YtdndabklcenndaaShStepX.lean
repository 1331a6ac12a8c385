/-
  Law 41: step: Copy.
-/
import Derived.Test.YtdndabklcenndaaShStepB
import Derived.Test.YtdndabklcenndaaShCopy
import Derived.Lib.SlBytesConst
namespace Go.Proofs.Ytdndabklcenndaa
open Go.RowKit
set_option maxRecDepth 100000

set_option maxHeartbeats 16000000 in
theorem step41_xw {w : World} {L : List Nat} {b k mb : Nat} {s : SH} {v : Value} (h : Shp w L b k s) {Lm : List Nat} (hm : Md w Lm mb s v) (hLm : ∀ y ∈ L, y ∈ Lm) (hLo : ∀ y ∈ Lm, y < w.heap.size) {pa : Option Addr} {pc : Nat} {data : List UInt8} (hd : Sl w pa (bi data)) (hdo : ∀ b' o', 0 < data.length → pa = some ⟨b', o', none⟩ → b' ∉ L ∧ b' ≠ mb) (hdl : data.length ≤ 100) (hpc : data.length ≤ pc) {now n : Int} (h0 : 0 ≤ now) (h1 : now ≤ 18446744073709551615) (hwr : now < s.last ∨ now = 18446744073709551615) {what : Int} (hw0 : (what == 0) = false) (hwa : (what == 1) = false) (hwb : (what == 2) = false) (hwc : (what == 3) = false) :
    Calls Try.prog 36 #[.pointer (some ⟨b, 0, none⟩), v, .agg #[.int .i64 what, .int .u64 now, .slice pa data.length pc, .int .i64 n]] w (Step41 w L Lm mb (s)) := by
  have hcv := fun (w : World) (C : Array Value) (n c : Nat) => Lib.run_convert_bytes_const (P := Try.prog) w 68 5 C n c Try.underlying68 Try.underlying5
  have hl0 := h.ok.last0
  have hl1 := h.ok.last1
  have HBH := Lib.hid (And.intro h.hb h.hk)
  obtain ⟨⟨ma, nl, mc, now0, rfl, hby, hnl, hmc, hmx⟩, hbk, hmb⟩ := hm
  have HM := Lib.hid (show Md w Lm mb s (.agg #[.pointer (some ⟨mb, 0, none⟩), .int .i64 s.r, .int .i64 s.p, .int .i64 s.u, .int .i64 s.lat, .int .i64 s.lim, .int .u64 now0, .slice ma nl mc, .bool s.closed, .int .u64 s.fin, .int .u64 s.last]) from ⟨⟨ma, nl, mc, now0, rfl, hby, hnl, hmc, hmx⟩, hbk, hmb⟩)
  have hmbl := lt_of_heap hbk
  have HBK0 := Lib.hid hbk
  have HBY := Lib.hid hby
  have HNL := Lib.hid (And.intro hnl (And.intro hmc hmx))
  have HOLD := Lib.hid h.old
  have HLM := Lib.hid hLm
  have HLO := Lib.hid hLo
  have hmb0 : mb ∉ L := fun hm => hmb (hLm _ hm)
  clear hLm hLo
  have hnl2 : nl ≤ 65536 := by have := h.ok.tot; have := h.ok.lim1; have := flatS_length s.segs; omega
  obtain ⟨w0, hw0, f0, q0, q1, q2⟩ : ∃ W, ((w.alloc (.cells #[.pointer (some ⟨mb, 0, none⟩), .int .i64 s.r, .int .i64 s.p, .int .i64 s.u, .int .i64 s.lat, .int .i64 s.lim, .int .u64 now0, .slice ma nl mc, .bool s.closed, .int .u64 s.fin, .int .u64 s.last] 64)).alloc (.cells #[.int .i64 what, .int .u64 now, .slice pa data.length pc, .int .i64 n] 77)).alloc (.cells #[.pointer none, .int .i64 0, .int .i64 0, .int .i64 0, .int .i64 0, .int .i64 0, .int .u64 0, .slice none 0 0, .bool false, .int .u64 0, .int .u64 0] 64) = W ∧ Fr [] w W ∧ W.heap[w.heap.size]? = some (.cells #[.pointer (some ⟨mb, 0, none⟩), .int .i64 s.r, .int .i64 s.p, .int .i64 s.u, .int .i64 s.lat, .int .i64 s.lim, .int .u64 now0, .slice ma nl mc, .bool s.closed, .int .u64 s.fin, .int .u64 s.last] 64 (0, 0)) ∧ W.heap[w.heap.size + 1]? = some (.cells #[.int .i64 what, .int .u64 now, .slice pa data.length pc, .int .i64 n] 77 (0, 0)) ∧ W.heap[w.heap.size + 2]? = some (.cells #[.pointer none, .int .i64 0, .int .i64 0, .int .i64 0, .int .i64 0, .int .i64 0, .int .u64 0, .slice none 0 0, .bool false, .int .u64 0, .int .u64 0] 64 (0, 0)) := ⟨_, rfl, (((Fr.refl _ _).alloc _).alloc _).alloc _, keepA (keepA (newA rfl)), keepA (newA (by simp)), newA (by simp)⟩
  have a0 : w0.cell? ⟨w.heap.size + 1, 0, none⟩ = some (.int .i64 what) := cell_of q1
  have a1 : w0.cell? ⟨w.heap.size + 1, 1, none⟩ = some (.int .u64 now) := cell_of q1
  have a2 : w0.cell? ⟨w.heap.size + 1, 2, none⟩ = some (.slice pa data.length pc) := cell_of q1
  have a3 : w0.cell? ⟨w.heap.size + 1, 3, none⟩ = some (.int .i64 n) := cell_of q1
  have HWR := Lib.hid fun (w : World) => wrong41_bad (c0 := .pointer (some ⟨mb, 0, none⟩)) (c1 := .int .i64 s.r) (c2 := .int .i64 s.p) (c3 := .int .i64 s.u) (c4 := .int .i64 s.lat) (c5 := .int .i64 s.lim) (c6 := .int .u64 now0) (c7 := .slice ma nl mc) (c8 := .bool s.closed) (c9 := .int .u64 s.fin) w hwr
  clear hby hnl hmc hmx hbk hwr
  go_enter Try.func36, Try.ntmps36
  go_wp2_with (refine wpList_load_row rfl 64 (.tmp 4) rfl _ rfl _ _ _ _ q0 Try.underlying64 rfl (by kernel_rfl) ?_)
  refine (HWR.out _).mono ?_
  rintro e w1 ⟨rfl, f1⟩
  have g1 : Fr [] w w1 := f0.then0 f1
  have Q0 := Lib.hid (f1.keep q0 (by simp))
  have Q1 := Lib.hid (f1.keep q1 (by simp))
  have Q2 := Lib.hid (f1.keep q2 (by simp))
  replace HM := Lib.hid (HM.out.keep (L' := w.heap.size :: (w.heap.size + 1) :: (w.heap.size + 2) :: (L ++ Lm)) g1 (by simp) (fun y hy => by simp at hy; rcases hy with rfl | rfl | rfl | hy | hy; exact .inr (by omega); exact .inr (by omega); exact .inr (by omega); exact .inl (HLM.out y hy); exact .inl hy))
  replace HBY := Lib.hid (HBY.out.keep (L' := w.heap.size :: (w.heap.size + 1) :: (w.heap.size + 2) :: (L ++ Lm)) g1 (by simp) (fun y hy => by simp at hy; rcases hy with rfl | rfl | rfl | hy | hy; exact .inr (by omega); exact .inr (by omega); exact .inr (by omega); exact .inl (HLM.out y hy); exact .inl hy))
  clear a0 a1 a2 a3 HWR hw0 q0 q1 q2 f1 f0
  have s1 := Lib.hid (h.keep0 g1)
  clear h
  have HCP := Lib.hid (sh_copy s1.out)
  have a0 : w1.cell? ⟨w.heap.size + 1, 0, none⟩ = some (.int .i64 what) := cell_of Q1.out
  have zB : w.heap.size + 2 < w1.heap.size := lt_of_heap Q2.out
  go_wp2_with fail
  refine HCP.out.mono ?_
  rintro e w2 ⟨b2, k2, L2, rfl, f2, c2, hl2⟩
  replace c2 := Lib.hid c2
  have HL2 := Lib.hid hl2
  clear hl2 HCP a0
  replace Q0 := Lib.hid (f2.keep Q0.out (fun hm => by simp at hm))
  replace Q1 := Lib.hid (f2.keep Q1.out (fun hm => by simp at hm))
  replace Q2 := Lib.hid (f2.keep Q2.out (fun hm => by simp at hm))
  have s2 := Lib.hid (s1.out.keep0 f2)
  have g2 := g1.then0 f2
  have HM2 := Lib.hid (HM.out.keep (L' := w.heap.size :: (w.heap.size + 1) :: (w.heap.size + 2) :: (L2 ++ (L ++ Lm))) f2 (by simp) (fun y hy => by simp at hy; rcases hy with rfl | rfl | rfl | hy | hy | hy; exact .inl (by simp); exact .inl (by simp); exact .inl (by simp); exact .inr (HL2.out y hy); exact .inl (by simp [hy]); exact .inl (by simp [hy])))
  have HO2 := Lib.hid c2.out.old
  clear s1 f2 g1 HM
  have m10 : w2.cell? ⟨w.heap.size, 10, none⟩ = some (.int .u64 s.last) := cell_of Q0.out
  have hz2 := lt_of_heap Q2.out
  have HSN := Lib.hid (sh_send (pa := some ⟨w2.heap.size, 0, none⟩) (pc := 2) (data := [122, 122]) (now := s.last) (s2.out.keep0 ((Fr.refl [] w2).alloc _)) hl0 (by omega) (lit_sl (w := w2) (l := [122, 122])) (fun b' o' _ e hm => by injection e with e; injection e with e1; have := s2.out.old b' hm; omega) (by decide) (by decide))
  go_wp2_with fail
  refine HSN.out.mono ?_
  rintro e w3 ⟨rfl, f3, L3, s3, hl3⟩
  clear HSN m10
  replace s3 := Lib.hid s3
  have HL3 : Hid (∀ y ∈ L3, y ∈ L ∨ w2.heap.size ≤ y) := Lib.hid (fun y hy => (hl3 y hy).imp id (fun h_ => by simp at h_; omega))
  clear hl3
  replace f3 : Fr L w2 w3 := ((Fr.refl [] w2).alloc _).trans f3 (by simp) (fun _ h => .inl h)
  have m10 : w3.cell? ⟨w.heap.size, 10, none⟩ = some (.int .u64 s.last) := cell_of (f3.keep Q0.out (fun hm => by have h1_ := HOLD.out _ hm; omega))
  have HRC := Lib.hid (sh_recv (now := s.last) (most := 1) s3.out hl0 (by omega))
  generalize sendNE s s.last ([122, 122] : List UInt8).length = x1
  generalize sendE s s.last ([122, 122] : List UInt8).length = x2
  go_wp2_with fail
  refine HRC.out.mono ?_
  rintro e w4 ⟨v_, rfl, f4, s4, _⟩
  clear HRC m10 s3
  replace s4 := Lib.hid s4
  have f24 : Fr L w2 w4 := f3.trans f4 (fun _ h => .inl h) (fun x hx => HL3.out x hx)
  have m10 : w4.cell? ⟨w.heap.size, 10, none⟩ = some (.int .u64 s.last) := cell_of (f24.keep Q0.out (fun hm => by have h1_ := HOLD.out _ hm; omega))
  have HCL := Lib.hid (sh_close (now := s.last) s4.out hl0 (by omega))
  generalize recvE (sendH s s.last [122, 122]) s.last 1 = x3
  go_wp2_with fail
  refine HCL.out.mono ?_
  rintro e w5 ⟨rfl, f5, _⟩
  have f25 : Fr L w2 w5 := f24.trans f5 (fun _ h => .inl h) (fun x hx => by simp at hx; rcases hx with rfl | rfl; exact .inl HBH.out.1; exact .inl HBH.out.2)
  clear HCL m10 s4 f24 f5 f4 f3
  replace Q0 := Lib.hid (f25.keep Q0.out (fun hm => by have h1_ := HOLD.out _ hm; omega))
  replace Q1 := Lib.hid (f25.keep Q1.out (fun hm => by have h1_ := HOLD.out _ hm; omega))
  replace Q2 := Lib.hid (f25.keep Q2.out (fun hm => by have h1_ := HOLD.out _ hm; omega))
  have HX := Lib.hid (show Fr (mb :: L) w w5 ∧ Shp w5 L2 b2 k2 s ∧ Md w5 (w.heap.size :: (w.heap.size + 1) :: (w.heap.size + 2) :: (L2 ++ Lm)) mb s (.agg #[.pointer (some ⟨mb, 0, none⟩), .int .i64 s.r, .int .i64 s.p, .int .i64 s.u, .int .i64 s.lat, .int .i64 s.lim, .int .u64 now0, .slice ma nl mc, .bool s.closed, .int .u64 s.fin, .int .u64 s.last]) from ⟨(g2.mono (T := mb :: L) (by simp)).trans f25 (fun _ h => .inl h) (fun x hx => .inl (by simp [hx])), c2.out.keep f25 (fun y hy hm => by have := HOLD.out y hy; have := HL2.out y hm; omega), HM2.out.keep f25 (fun y hy => .inl (by simp [hy])) (fun y hy => .inl (by simp at hy; rcases hy with rfl | rfl | rfl | hy | hy; simp; simp; simp; simp [hy]; simp [hy]))⟩)
  have HL2w : Hid (∀ y ∈ L2, y ∈ L ∨ w.heap.size ≤ y) := Lib.hid (fun y hy => .inr (by have := HL2.out y hy; omega))
  generalize closeE41 (recvS (sendH s s.last [122, 122]) s.last 1) s.last = x4
  clear c2 HM2 f25 g2 s2
  go_wp2_with fail
  have fd : Fr [w.heap.size + 2] w5 w5.drew := (Fr.refl _ _).drew
  have HFA := Lib.hid fun (w' : World) (f : Fr [w.heap.size + 2] w5 w') => (show w'.cell? ⟨w.heap.size, 0, none⟩ = some (.pointer (some ⟨mb, 0, none⟩)) ∧ w'.cell? ⟨w.heap.size, 1, none⟩ = some (.int .i64 s.r) ∧ w'.cell? ⟨w.heap.size, 2, none⟩ = some (.int .i64 s.p) ∧ w'.cell? ⟨w.heap.size, 3, none⟩ = some (.int .i64 s.u) ∧ w'.cell? ⟨w.heap.size, 4, none⟩ = some (.int .i64 s.lat) ∧ w'.cell? ⟨w.heap.size, 5, none⟩ = some (.int .i64 s.lim) ∧ w'.cell? ⟨w.heap.size, 6, none⟩ = some (.int .u64 now0) ∧ w'.cell? ⟨w.heap.size, 7, none⟩ = some (.slice ma nl mc) ∧ w'.cell? ⟨w.heap.size, 8, none⟩ = some (.bool s.closed) ∧ w'.cell? ⟨w.heap.size, 9, none⟩ = some (.int .u64 s.fin) ∧ w'.cell? ⟨w.heap.size, 10, none⟩ = some (.int .u64 s.last) ∧ w'.cell? ⟨w.heap.size + 1, 0, none⟩ = some (.int .i64 what) ∧ w'.cell? ⟨w.heap.size + 1, 1, none⟩ = some (.int .u64 now) ∧ w'.cell? ⟨w.heap.size + 1, 2, none⟩ = some (.slice pa data.length pc) ∧ w'.cell? ⟨w.heap.size + 1, 3, none⟩ = some (.int .i64 n) from (let q' := f.keep Q0.out (by simp); let a' := f.keep Q1.out (by simp); ⟨cell_of q', cell_of q', cell_of q', cell_of q', cell_of q', cell_of q', cell_of q', cell_of q', cell_of q', cell_of q', cell_of q', cell_of a', cell_of a', cell_of a', cell_of a'⟩))
  refine wp_region_order [(0, true), (1, true), (2, true), (3, true), (4, true), (5, false), (6, true)] (fun w' => Fr [w.heap.size + 2] w5 w') (by kernel_rfl) (by kernel_rfl) fd ?_
  intro OPS HOPS
  have hops := HOPS.out
  try simp only [List.append_eq, List.cons_append, List.nil_append] at hops
  replace HOPS := Lib.hid hops
  clear hops
  refine walkO_take (o := _) (v := ?_) (by rw [HOPS.out]; simp only [List.getElem?_toArray, List.getElem?_cons_succ, List.getElem?_cons_zero]; exact rfl) (Or.inl ⟨rfl, ?_⟩) ?_
  rotate_left
  · (intro w hSw; have hSx := HFA.out _ hSw; (try dsimp only at hSx); clear hSw; go_simp) <;> (with_reducible rfl)
  simp only [Act.put, List.setIfInBounds_toArray, List.set_cons_zero, List.set_cons_succ]
  refine walkO_take (o := _) (v := ?_) (by rw [HOPS.out]; simp only [List.getElem?_toArray, List.getElem?_cons_succ, List.getElem?_cons_zero]; exact rfl) (Or.inl ⟨rfl, ?_⟩) ?_
  rotate_left
  · (intro w hSw; have hSx := HFA.out _ hSw; (try dsimp only at hSx); clear hSw; go_simp) <;> (with_reducible rfl)
  simp only [Act.put, List.setIfInBounds_toArray, List.set_cons_zero, List.set_cons_succ]
  refine walkO_take (o := _) (v := ?_) (by rw [HOPS.out]; simp only [List.getElem?_toArray, List.getElem?_cons_succ, List.getElem?_cons_zero]; exact rfl) (Or.inl ⟨rfl, ?_⟩) ?_
  rotate_left
  · (intro w hSw; have hSx := HFA.out _ hSw; (try dsimp only at hSx); clear hSw; go_simp) <;> (with_reducible rfl)
  simp only [Act.put, List.setIfInBounds_toArray, List.set_cons_zero, List.set_cons_succ]
  refine walkO_take (o := _) (v := ?_) (by rw [HOPS.out]; simp only [List.getElem?_toArray, List.getElem?_cons_succ, List.getElem?_cons_zero]; exact rfl) (Or.inl ⟨rfl, ?_⟩) ?_
  rotate_left
  · (intro w hSw; have hSx := HFA.out _ hSw; (try dsimp only at hSx); clear hSw; go_simp) <;> (with_reducible rfl)
  simp only [Act.put, List.setIfInBounds_toArray, List.set_cons_zero, List.set_cons_succ]
  refine walkO_take (o := _) (v := ?_) (by rw [HOPS.out]; simp only [List.getElem?_toArray, List.getElem?_cons_succ, List.getElem?_cons_zero]; exact rfl) (Or.inl ⟨rfl, ?_⟩) ?_
  rotate_left
  · (intro w hSw; have hSx := HFA.out _ hSw; (try dsimp only at hSx); clear hSw; go_simp) <;> (with_reducible rfl)
  simp only [Act.put, List.setIfInBounds_toArray, List.set_cons_zero, List.set_cons_succ]
  refine walkO_call (o := _) (by rw [HOPS.out]; simp only [List.getElem?_toArray, List.getElem?_cons_succ, List.getElem?_cons_zero]; exact rfl) (fun K HK => ?_)
  obtain ⟨wE, hwE, qE, fE⟩ := setRow_fr (cs := #[.pointer (some ⟨mb, 0, none⟩), .int .i64 s.r, .int .i64 s.p, .int .i64 s.u, .int .i64 s.lat, .int .i64 s.lim, .int .u64 now0, .slice ma nl mc, .bool s.closed, .int .u64 s.fin, .int .u64 s.last]) (show w5.drew.heap[w.heap.size + 2]? = _ from Q2.out)
  refine step_store_row rfl 64 (.tmp 7) (.tmp 371) rfl (w.heap.size + 2) #[.pointer (some ⟨mb, 0, none⟩), .int .i64 s.r, .int .i64 s.p, .int .i64 s.u, .int .i64 s.lat, .int .i64 s.lim, .int .u64 now0, .slice ma nl mc, .bool s.closed, .int .u64 s.fin, .int .u64 s.last] rfl rfl _ _ (show w5.drew.heap[w.heap.size + 2]? = _ from Q2.out) (by kernel_rfl) rfl (by simp [Value.oneCell']) hwE ?_
  have gE : Fr [w.heap.size + 2] w5 wE := fd.trans fE (fun _ h => .inl h) (fun x hx => .inl hx)
  refine HK.out (fun w' => Fr [w.heap.size + 2] w5 w') _ _ (fun _ h => h) (gE) ?_
  clear HK K
  try simp only [Act.put, List.setIfInBounds_toArray, List.set_cons_zero, List.set_cons_succ]
  refine walkO_take (o := _) (v := ?_) (by rw [HOPS.out]; simp only [List.getElem?_toArray, List.getElem?_cons_succ, List.getElem?_cons_zero]; exact rfl) (Or.inl ⟨rfl, ?_⟩) ?_
  rotate_left
  · (intro w hSw; have hSx := HFA.out _ hSw; (try dsimp only at hSx); clear hSw; go_simp) <;> (with_reducible rfl)
  simp only [Act.put, List.setIfInBounds_toArray, List.set_cons_zero, List.set_cons_succ]
  refine walkO_done ?_
  clear HOPS OPS
  clear HFA
  try simp only [Exit.then]
  go_wp2_with fail
  refine bodyPost_ret (m41_result3 qE (by kernel_rfl) rfl rfl rfl rfl) rfl ?_
  obtain ⟨x1, x2, x3⟩ := HX.out
  exact ⟨b2, k2, L2, _, rfl, x1.trans gE (fun _ h => .inl h) (fun x hx => .inr (by simp at hx; omega)), x2.keep gE (fun y hy hm => by simp at hy; have := HL2.out _ hm; omega), x3.keep gE (fun y hy => .inl (by simp at hy; simp [hy])) (fun y hy => .inl (List.mem_cons_of_mem _ (List.mem_cons_of_mem _ (List.mem_cons_of_mem _ hy)))), HL2w.out⟩

set_option maxHeartbeats 16000000 in
theorem step41_xo {w : World} {L : List Nat} {b k mb : Nat} {s : SH} {v : Value} (h : Shp w L b k s) {Lm : List Nat} (hm : Md w Lm mb s v) (hLm : ∀ y ∈ L, y ∈ Lm) (hLo : ∀ y ∈ Lm, y < w.heap.size) {pa : Option Addr} {pc : Nat} {data : List UInt8} (hd : Sl w pa (bi data)) (hdo : ∀ b' o', 0 < data.length → pa = some ⟨b', o', none⟩ → b' ∉ L ∧ b' ≠ mb) (hdl : data.length ≤ 100) (hpc : data.length ≤ pc) {now n : Int} (h0 : 0 ≤ now) (h1 : now ≤ 18446744073709551615) (hw1 : s.last ≤ now) (hw2 : now < 18446744073709551615) {what : Int} (hw0 : (what == 0) = false) (hwa : (what == 1) = false) (hwb : (what == 2) = false) (hwc : (what == 3) = false) :
    Calls Try.prog 36 #[.pointer (some ⟨b, 0, none⟩), v, .agg #[.int .i64 what, .int .u64 now, .slice pa data.length pc, .int .i64 n]] w (Step41 w L Lm mb (s)) := by
  have hcv := fun (w : World) (C : Array Value) (n c : Nat) => Lib.run_convert_bytes_const (P := Try.prog) w 68 5 C n c Try.underlying68 Try.underlying5
  have hl0 := h.ok.last0
  have hl1 := h.ok.last1
  have HBH := Lib.hid (And.intro h.hb h.hk)
  obtain ⟨⟨ma, nl, mc, now0, rfl, hby, hnl, hmc, hmx⟩, hbk, hmb⟩ := hm
  have HM := Lib.hid (show Md w Lm mb s (.agg #[.pointer (some ⟨mb, 0, none⟩), .int .i64 s.r, .int .i64 s.p, .int .i64 s.u, .int .i64 s.lat, .int .i64 s.lim, .int .u64 now0, .slice ma nl mc, .bool s.closed, .int .u64 s.fin, .int .u64 s.last]) from ⟨⟨ma, nl, mc, now0, rfl, hby, hnl, hmc, hmx⟩, hbk, hmb⟩)
  have hmbl := lt_of_heap hbk
  have HBK0 := Lib.hid hbk
  have HBY := Lib.hid hby
  have HNL := Lib.hid (And.intro hnl (And.intro hmc hmx))
  have HOLD := Lib.hid h.old
  have HLM := Lib.hid hLm
  have HLO := Lib.hid hLo
  have hmb0 : mb ∉ L := fun hm => hmb (hLm _ hm)
  clear hLm hLo
  have hnl2 : nl ≤ 65536 := by have := h.ok.tot; have := h.ok.lim1; have := flatS_length s.segs; omega
  obtain ⟨w0, hw0, f0, q0, q1, q2⟩ : ∃ W, ((w.alloc (.cells #[.pointer (some ⟨mb, 0, none⟩), .int .i64 s.r, .int .i64 s.p, .int .i64 s.u, .int .i64 s.lat, .int .i64 s.lim, .int .u64 now0, .slice ma nl mc, .bool s.closed, .int .u64 s.fin, .int .u64 s.last] 64)).alloc (.cells #[.int .i64 what, .int .u64 now, .slice pa data.length pc, .int .i64 n] 77)).alloc (.cells #[.pointer none, .int .i64 0, .int .i64 0, .int .i64 0, .int .i64 0, .int .i64 0, .int .u64 0, .slice none 0 0, .bool false, .int .u64 0, .int .u64 0] 64) = W ∧ Fr [] w W ∧ W.heap[w.heap.size]? = some (.cells #[.pointer (some ⟨mb, 0, none⟩), .int .i64 s.r, .int .i64 s.p, .int .i64 s.u, .int .i64 s.lat, .int .i64 s.lim, .int .u64 now0, .slice ma nl mc, .bool s.closed, .int .u64 s.fin, .int .u64 s.last] 64 (0, 0)) ∧ W.heap[w.heap.size + 1]? = some (.cells #[.int .i64 what, .int .u64 now, .slice pa data.length pc, .int .i64 n] 77 (0, 0)) ∧ W.heap[w.heap.size + 2]? = some (.cells #[.pointer none, .int .i64 0, .int .i64 0, .int .i64 0, .int .i64 0, .int .i64 0, .int .u64 0, .slice none 0 0, .bool false, .int .u64 0, .int .u64 0] 64 (0, 0)) := ⟨_, rfl, (((Fr.refl _ _).alloc _).alloc _).alloc _, keepA (keepA (newA rfl)), keepA (newA (by simp)), newA (by simp)⟩
  have a0 : w0.cell? ⟨w.heap.size + 1, 0, none⟩ = some (.int .i64 what) := cell_of q1
  have a1 : w0.cell? ⟨w.heap.size + 1, 1, none⟩ = some (.int .u64 now) := cell_of q1
  have a2 : w0.cell? ⟨w.heap.size + 1, 2, none⟩ = some (.slice pa data.length pc) := cell_of q1
  have a3 : w0.cell? ⟨w.heap.size + 1, 3, none⟩ = some (.int .i64 n) := cell_of q1
  have HWR := Lib.hid fun (w : World) => wrong41_ok (c0 := .pointer (some ⟨mb, 0, none⟩)) (c1 := .int .i64 s.r) (c2 := .int .i64 s.p) (c3 := .int .i64 s.u) (c4 := .int .i64 s.lat) (c5 := .int .i64 s.lim) (c6 := .int .u64 now0) (c7 := .slice ma nl mc) (c8 := .bool s.closed) (c9 := .int .u64 s.fin) w hw1 hw2
  clear hby hnl hmc hmx hbk
  go_enter Try.func36, Try.ntmps36
  go_wp2_with (refine wpList_load_row rfl 64 (.tmp 4) rfl _ rfl _ _ _ _ q0 Try.underlying64 rfl (by kernel_rfl) ?_)
  refine (HWR.out _).mono ?_
  rintro e w1 ⟨rfl, f1⟩
  have g1 : Fr [] w w1 := f0.then0 f1
  have Q0 := Lib.hid (f1.keep q0 (by simp))
  have Q1 := Lib.hid (f1.keep q1 (by simp))
  have Q2 := Lib.hid (f1.keep q2 (by simp))
  replace HM := Lib.hid (HM.out.keep (L' := w.heap.size :: (w.heap.size + 1) :: (w.heap.size + 2) :: (L ++ Lm)) g1 (by simp) (fun y hy => by simp at hy; rcases hy with rfl | rfl | rfl | hy | hy; exact .inr (by omega); exact .inr (by omega); exact .inr (by omega); exact .inl (HLM.out y hy); exact .inl hy))
  replace HBY := Lib.hid (HBY.out.keep (L' := w.heap.size :: (w.heap.size + 1) :: (w.heap.size + 2) :: (L ++ Lm)) g1 (by simp) (fun y hy => by simp at hy; rcases hy with rfl | rfl | rfl | hy | hy; exact .inr (by omega); exact .inr (by omega); exact .inr (by omega); exact .inl (HLM.out y hy); exact .inl hy))
  clear a0 a1 a2 a3 HWR hw0 q0 q1 q2 f1 f0
  have s1 := Lib.hid (h.keep0 g1)
  clear h
  have HCP := Lib.hid (sh_copy s1.out)
  have a0 : w1.cell? ⟨w.heap.size + 1, 0, none⟩ = some (.int .i64 what) := cell_of Q1.out
  have zB : w.heap.size + 2 < w1.heap.size := lt_of_heap Q2.out
  go_wp2_with fail
  refine HCP.out.mono ?_
  rintro e w2 ⟨b2, k2, L2, rfl, f2, c2, hl2⟩
  replace c2 := Lib.hid c2
  have HL2 := Lib.hid hl2
  clear hl2 HCP a0
  replace Q0 := Lib.hid (f2.keep Q0.out (fun hm => by simp at hm))
  replace Q1 := Lib.hid (f2.keep Q1.out (fun hm => by simp at hm))
  replace Q2 := Lib.hid (f2.keep Q2.out (fun hm => by simp at hm))
  have s2 := Lib.hid (s1.out.keep0 f2)
  have g2 := g1.then0 f2
  have HM2 := Lib.hid (HM.out.keep (L' := w.heap.size :: (w.heap.size + 1) :: (w.heap.size + 2) :: (L2 ++ (L ++ Lm))) f2 (by simp) (fun y hy => by simp at hy; rcases hy with rfl | rfl | rfl | hy | hy | hy; exact .inl (by simp); exact .inl (by simp); exact .inl (by simp); exact .inr (HL2.out y hy); exact .inl (by simp [hy]); exact .inl (by simp [hy])))
  have HO2 := Lib.hid c2.out.old
  clear s1 f2 g1 HM
  have m10 : w2.cell? ⟨w.heap.size, 10, none⟩ = some (.int .u64 s.last) := cell_of Q0.out
  have hz2 := lt_of_heap Q2.out
  have HSN := Lib.hid (sh_send (pa := some ⟨w2.heap.size, 0, none⟩) (pc := 2) (data := [122, 122]) (now := s.last) (s2.out.keep0 ((Fr.refl [] w2).alloc _)) hl0 (by omega) (lit_sl (w := w2) (l := [122, 122])) (fun b' o' _ e hm => by injection e with e; injection e with e1; have := s2.out.old b' hm; omega) (by decide) (by decide))
  go_wp2_with fail
  refine HSN.out.mono ?_
  rintro e w3 ⟨rfl, f3, L3, s3, hl3⟩
  clear HSN m10
  replace s3 := Lib.hid s3
  have HL3 : Hid (∀ y ∈ L3, y ∈ L ∨ w2.heap.size ≤ y) := Lib.hid (fun y hy => (hl3 y hy).imp id (fun h_ => by simp at h_; omega))
  clear hl3
  replace f3 : Fr L w2 w3 := ((Fr.refl [] w2).alloc _).trans f3 (by simp) (fun _ h => .inl h)
  have m10 : w3.cell? ⟨w.heap.size, 10, none⟩ = some (.int .u64 s.last) := cell_of (f3.keep Q0.out (fun hm => by have h1_ := HOLD.out _ hm; omega))
  have HRC := Lib.hid (sh_recv (now := s.last) (most := 1) s3.out hl0 (by omega))
  generalize sendNE s s.last ([122, 122] : List UInt8).length = x1
  generalize sendE s s.last ([122, 122] : List UInt8).length = x2
  go_wp2_with fail
  refine HRC.out.mono ?_
  rintro e w4 ⟨v_, rfl, f4, s4, _⟩
  clear HRC m10 s3
  replace s4 := Lib.hid s4
  have f24 : Fr L w2 w4 := f3.trans f4 (fun _ h => .inl h) (fun x hx => HL3.out x hx)
  have m10 : w4.cell? ⟨w.heap.size, 10, none⟩ = some (.int .u64 s.last) := cell_of (f24.keep Q0.out (fun hm => by have h1_ := HOLD.out _ hm; omega))
  have HCL := Lib.hid (sh_close (now := s.last) s4.out hl0 (by omega))
  generalize recvE (sendH s s.last [122, 122]) s.last 1 = x3
  go_wp2_with fail
  refine HCL.out.mono ?_
  rintro e w5 ⟨rfl, f5, _⟩
  have f25 : Fr L w2 w5 := f24.trans f5 (fun _ h => .inl h) (fun x hx => by simp at hx; rcases hx with rfl | rfl; exact .inl HBH.out.1; exact .inl HBH.out.2)
  clear HCL m10 s4 f24 f5 f4 f3
  replace Q0 := Lib.hid (f25.keep Q0.out (fun hm => by have h1_ := HOLD.out _ hm; omega))
  replace Q1 := Lib.hid (f25.keep Q1.out (fun hm => by have h1_ := HOLD.out _ hm; omega))
  replace Q2 := Lib.hid (f25.keep Q2.out (fun hm => by have h1_ := HOLD.out _ hm; omega))
  have HX := Lib.hid (show Fr (mb :: L) w w5 ∧ Shp w5 L2 b2 k2 s ∧ Md w5 (w.heap.size :: (w.heap.size + 1) :: (w.heap.size + 2) :: (L2 ++ Lm)) mb s (.agg #[.pointer (some ⟨mb, 0, none⟩), .int .i64 s.r, .int .i64 s.p, .int .i64 s.u, .int .i64 s.lat, .int .i64 s.lim, .int .u64 now0, .slice ma nl mc, .bool s.closed, .int .u64 s.fin, .int .u64 s.last]) from ⟨(g2.mono (T := mb :: L) (by simp)).trans f25 (fun _ h => .inl h) (fun x hx => .inl (by simp [hx])), c2.out.keep f25 (fun y hy hm => by have := HOLD.out y hy; have := HL2.out y hm; omega), HM2.out.keep f25 (fun y hy => .inl (by simp [hy])) (fun y hy => .inl (by simp at hy; rcases hy with rfl | rfl | rfl | hy | hy; simp; simp; simp; simp [hy]; simp [hy]))⟩)
  have HL2w : Hid (∀ y ∈ L2, y ∈ L ∨ w.heap.size ≤ y) := Lib.hid (fun y hy => .inr (by have := HL2.out y hy; omega))
  generalize closeE41 (recvS (sendH s s.last [122, 122]) s.last 1) s.last = x4
  clear c2 HM2 f25 g2 s2
  go_wp2_with fail
  have fd : Fr [w.heap.size + 2] w5 w5.drew := (Fr.refl _ _).drew
  have HFA := Lib.hid fun (w' : World) (f : Fr [w.heap.size + 2] w5 w') => (show w'.cell? ⟨w.heap.size, 0, none⟩ = some (.pointer (some ⟨mb, 0, none⟩)) ∧ w'.cell? ⟨w.heap.size, 1, none⟩ = some (.int .i64 s.r) ∧ w'.cell? ⟨w.heap.size, 2, none⟩ = some (.int .i64 s.p) ∧ w'.cell? ⟨w.heap.size, 3, none⟩ = some (.int .i64 s.u) ∧ w'.cell? ⟨w.heap.size, 4, none⟩ = some (.int .i64 s.lat) ∧ w'.cell? ⟨w.heap.size, 5, none⟩ = some (.int .i64 s.lim) ∧ w'.cell? ⟨w.heap.size, 6, none⟩ = some (.int .u64 now0) ∧ w'.cell? ⟨w.heap.size, 7, none⟩ = some (.slice ma nl mc) ∧ w'.cell? ⟨w.heap.size, 8, none⟩ = some (.bool s.closed) ∧ w'.cell? ⟨w.heap.size, 9, none⟩ = some (.int .u64 s.fin) ∧ w'.cell? ⟨w.heap.size, 10, none⟩ = some (.int .u64 s.last) ∧ w'.cell? ⟨w.heap.size + 1, 0, none⟩ = some (.int .i64 what) ∧ w'.cell? ⟨w.heap.size + 1, 1, none⟩ = some (.int .u64 now) ∧ w'.cell? ⟨w.heap.size + 1, 2, none⟩ = some (.slice pa data.length pc) ∧ w'.cell? ⟨w.heap.size + 1, 3, none⟩ = some (.int .i64 n) from (let q' := f.keep Q0.out (by simp); let a' := f.keep Q1.out (by simp); ⟨cell_of q', cell_of q', cell_of q', cell_of q', cell_of q', cell_of q', cell_of q', cell_of q', cell_of q', cell_of q', cell_of q', cell_of a', cell_of a', cell_of a', cell_of a'⟩))
  refine wp_region_order [(0, true), (1, true), (2, true), (3, true), (4, true), (5, false), (6, true)] (fun w' => Fr [w.heap.size + 2] w5 w') (by kernel_rfl) (by kernel_rfl) fd ?_
  intro OPS HOPS
  have hops := HOPS.out
  try simp only [List.append_eq, List.cons_append, List.nil_append] at hops
  replace HOPS := Lib.hid hops
  clear hops
  refine walkO_take (o := _) (v := ?_) (by rw [HOPS.out]; simp only [List.getElem?_toArray, List.getElem?_cons_succ, List.getElem?_cons_zero]; exact rfl) (Or.inl ⟨rfl, ?_⟩) ?_
  rotate_left
  · (intro w hSw; have hSx := HFA.out _ hSw; (try dsimp only at hSx); clear hSw; go_simp) <;> (with_reducible rfl)
  simp only [Act.put, List.setIfInBounds_toArray, List.set_cons_zero, List.set_cons_succ]
  refine walkO_take (o := _) (v := ?_) (by rw [HOPS.out]; simp only [List.getElem?_toArray, List.getElem?_cons_succ, List.getElem?_cons_zero]; exact rfl) (Or.inl ⟨rfl, ?_⟩) ?_
  rotate_left
  · (intro w hSw; have hSx := HFA.out _ hSw; (try dsimp only at hSx); clear hSw; go_simp) <;> (with_reducible rfl)
  simp only [Act.put, List.setIfInBounds_toArray, List.set_cons_zero, List.set_cons_succ]
  refine walkO_take (o := _) (v := ?_) (by rw [HOPS.out]; simp only [List.getElem?_toArray, List.getElem?_cons_succ, List.getElem?_cons_zero]; exact rfl) (Or.inl ⟨rfl, ?_⟩) ?_
  rotate_left
  · (intro w hSw; have hSx := HFA.out _ hSw; (try dsimp only at hSx); clear hSw; go_simp) <;> (with_reducible rfl)
  simp only [Act.put, List.setIfInBounds_toArray, List.set_cons_zero, List.set_cons_succ]
  refine walkO_take (o := _) (v := ?_) (by rw [HOPS.out]; simp only [List.getElem?_toArray, List.getElem?_cons_succ, List.getElem?_cons_zero]; exact rfl) (Or.inl ⟨rfl, ?_⟩) ?_
  rotate_left
  · (intro w hSw; have hSx := HFA.out _ hSw; (try dsimp only at hSx); clear hSw; go_simp) <;> (with_reducible rfl)
  simp only [Act.put, List.setIfInBounds_toArray, List.set_cons_zero, List.set_cons_succ]
  refine walkO_take (o := _) (v := ?_) (by rw [HOPS.out]; simp only [List.getElem?_toArray, List.getElem?_cons_succ, List.getElem?_cons_zero]; exact rfl) (Or.inl ⟨rfl, ?_⟩) ?_
  rotate_left
  · (intro w hSw; have hSx := HFA.out _ hSw; (try dsimp only at hSx); clear hSw; go_simp) <;> (with_reducible rfl)
  simp only [Act.put, List.setIfInBounds_toArray, List.set_cons_zero, List.set_cons_succ]
  refine walkO_call (o := _) (by rw [HOPS.out]; simp only [List.getElem?_toArray, List.getElem?_cons_succ, List.getElem?_cons_zero]; exact rfl) (fun K HK => ?_)
  obtain ⟨wE, hwE, qE, fE⟩ := setRow_fr (cs := #[.pointer (some ⟨mb, 0, none⟩), .int .i64 s.r, .int .i64 s.p, .int .i64 s.u, .int .i64 s.lat, .int .i64 s.lim, .int .u64 now0, .slice ma nl mc, .bool s.closed, .int .u64 s.fin, .int .u64 s.last]) (show w5.drew.heap[w.heap.size + 2]? = _ from Q2.out)
  refine step_store_row rfl 64 (.tmp 7) (.tmp 371) rfl (w.heap.size + 2) #[.pointer (some ⟨mb, 0, none⟩), .int .i64 s.r, .int .i64 s.p, .int .i64 s.u, .int .i64 s.lat, .int .i64 s.lim, .int .u64 now0, .slice ma nl mc, .bool s.closed, .int .u64 s.fin, .int .u64 s.last] rfl rfl _ _ (show w5.drew.heap[w.heap.size + 2]? = _ from Q2.out) (by kernel_rfl) rfl (by simp [Value.oneCell']) hwE ?_
  have gE : Fr [w.heap.size + 2] w5 wE := fd.trans fE (fun _ h => .inl h) (fun x hx => .inl hx)
  refine HK.out (fun w' => Fr [w.heap.size + 2] w5 w') _ _ (fun _ h => h) (gE) ?_
  clear HK K
  try simp only [Act.put, List.setIfInBounds_toArray, List.set_cons_zero, List.set_cons_succ]
  refine walkO_take (o := _) (v := ?_) (by rw [HOPS.out]; simp only [List.getElem?_toArray, List.getElem?_cons_succ, List.getElem?_cons_zero]; exact rfl) (Or.inl ⟨rfl, ?_⟩) ?_
  rotate_left
  · (intro w hSw; have hSx := HFA.out _ hSw; (try dsimp only at hSx); clear hSw; go_simp) <;> (with_reducible rfl)
  simp only [Act.put, List.setIfInBounds_toArray, List.set_cons_zero, List.set_cons_succ]
  refine walkO_done ?_
  clear HOPS OPS
  clear HFA
  try simp only [Exit.then]
  go_wp2_with fail
  refine bodyPost_ret (m41_result3 qE (by kernel_rfl) rfl rfl rfl rfl) rfl ?_
  obtain ⟨x1, x2, x3⟩ := HX.out
  exact ⟨b2, k2, L2, _, rfl, x1.trans gE (fun _ h => .inl h) (fun x hx => .inr (by simp at hx; omega)), x2.keep gE (fun y hy hm => by simp at hy; have := HL2.out _ hm; omega), x3.keep gE (fun y hy => .inl (by simp at hy; simp [hy])) (fun y hy => .inl (List.mem_cons_of_mem _ (List.mem_cons_of_mem _ (List.mem_cons_of_mem _ hy)))), HL2w.out⟩
end Go.Proofs.Ytdndabklcenndaa
