/-
  Package stream: the stores of a stream: nothing (direct), a ring buffer (buffered).
-/
import Derived.Test.YtdoamelhclnphaaStCut
import Derived.Test.YtdoamelhclnphaaRingCopy
import Derived.Test.YtdoamelhclnphaaRegionY
import Derived.Lib.MinMax
namespace Go.Proofs.Ytdoamelhclnphaa
open Go.RowKit
set_option maxRecDepth 100000

theorem take_min (l : List UInt8) (n : Nat) : l.take (min n l.length) = l.take n := by
  by_cases h : n ≤ l.length
  · rw [Nat.min_eq_left h]
  · rw [Nat.min_eq_right (by omega), List.take_length, List.take_of_length_le (by omega)]
theorem drop_min (l : List UInt8) (n : Nat) : l.drop (min n l.length) = l.drop n := by
  by_cases h : n ≤ l.length
  · rw [Nat.min_eq_left h]
  · rw [Nat.min_eq_right (by omega), List.drop_length, List.drop_eq_nil_of_le (by omega)]
theorem NewB.ow {w w' : World} {out : List UInt8} {v : Value} (h : NewB w (bi out) v w') (hm : out.length ≤ 1000000) : Ow w' w.heap.size 5 v ((bi out).map (Value.int .u8)) := by
  rcases h with ⟨h0, rfl⟩ | ⟨N, rfl, hr, hN⟩
  · rw [h0]; exact Ow.nil _ _ _
  · have := Ow.of_row (xs := (bi out).map (Value.int .u8)) (M := w.heap.size) (g := N) (by unfold RowB at hr; rw [hr]) hN (by rw [List.length_map, bi_length]; unfold maxLen; omega)
    rw [List.length_map] at this
    exact this

section
variable {w : World} {N : Nat → Prop} {b k : Nat} {c : Array Value} {t : TypeId} {a : Option Addr} {cap : Nat} {P : Parts} {R D C : Nat} {q : List UInt8}
set_option maxHeartbeats 2000000 in
theorem buf_fill (h : w.heap[b]? = some (.cells c t (0, 0))) (c0 : c[k]? = some (.slice a P.length cap)) (c1 : c[k + 1]? = some (.int .i64 (tot P))) (hr : Rp w N (.agg #[.slice a P.length cap, .int .i64 (tot P)]) P) (hN : ¬ N b) (hk : k = 0 ∨ k = 2) (hg : Rg w R D C (bi q)) (hbR : b ≠ R) (hbD : b ≠ D) (hNR : ¬ N R) (hND : ¬ N D) :
    Calls Try.prog 151 #[(.agg #[.pointer (some ⟨R, 0, none⟩)]), .pointer (some ⟨b, k, none⟩)] w fun e w' => ∃ a' cap' P', e = .returned (.int .i64 (min (C - q.length) (tot P) : Nat)) ∧ Fr [b, R, D] w w' ∧
      w'.heap[b]? = some (.cells ((c.setIfInBounds k (.slice a' (List.length P') cap')).setIfInBounds (k + 1) (.int .i64 (tot P'))) t (0, 0)) ∧
      Rp w' (fun x => N x ∨ w.heap.size ≤ x) (.agg #[.slice a' (List.length P') cap', .int .i64 (tot P')]) P' ∧ P'.flatten = P.flatten.drop (C - q.length) ∧ Rg w' R D C (bi (q ++ P.flatten.take (C - q.length))) := by
  obtain ⟨hq, hC, hC1, hRD, hRl, hDl⟩ := hg.len_le
  rw [bi_length] at hq
  have hbl := lt_of_heap h
  have ht : (tot P : Int) ≤ 65536 := by obtain ⟨_, _, _, _, _, _, _, _, h6⟩ := hr; omega
  obtain ⟨w0, hw0, f0, q0⟩ : ∃ W, w.alloc (.cells #[.pointer (some ⟨R, 0, none⟩)] 162) = W ∧ Fr [] w W ∧ W.heap[w.heap.size]? = some (.cells #[.pointer (some ⟨R, 0, none⟩)] 162 (0, 0)) := ⟨_, rfl, (Fr.refl _ _).alloc _, newA rfl⟩
  have HX := Lib.hid q0
  have HB := Lib.hid (f0.keep h (by simp))
  have HCC := Lib.hid (And.intro c0 c1)
  have HR := Lib.hid (hr.keep f0 (by simp))
  have HG := Lib.hid (hg.keep f0 (by simp) (by simp))
  have HQ : Hid (((bi q).length : Int) = q.length ∧ q.length ≤ C ∧ C ≤ 4096) := Lib.hid ⟨by rw [bi_length], hq, hC⟩
  have HF0 := Lib.hid f0
  have hz0 := lt_of_heap q0
  clear h c0 c1 hr hg q0 f0 hq hC hC1
  go_enter Try.func151, Try.ntmps151
  go_wp2_with fail
  have fd : Fr [] w0 w0.drew := (Fr.refl _ _).drew
  have HEF := Lib.hid (Go.Proofs.enters_of Try.func117 (by kernel_rfl) rfl)
  have HEL := Lib.hid (Go.Proofs.enters_of Try.func57 (by kernel_rfl) rfl)
  have HEC := Lib.hid (Go.Proofs.enters_of Try.func149 (by kernel_rfl) rfl)
  have HFA := Lib.hid fun (w' : World) (f : Fr [] w0 w') => (show w'.cell? ⟨w.heap.size, 0, none⟩ = some (.pointer (some ⟨R, 0, none⟩)) ∧ w'.cell? ⟨b, k, none⟩ = some (.slice a P.length cap) ∧ w'.cell? ⟨b, k + 1, none⟩ = some (.int .i64 (tot P)) from ⟨cell_of (f.keep HX.out (by simp)), (cell_of (f.keep HB.out (by simp))).trans HCC.out.1, (cell_of (f.keep HB.out (by simp))).trans HCC.out.2⟩)
  refine wp_region_late [(0, true), (1, true), (2, true), (4, true), (5, true), (6, true), (3, false), (7, false), (8, true)] [9, 10] (fun w' => Fr [] w0 w') (by kernel_rfl) (by kernel_rfl) fd ?_
  intro OPS HOPS
  have hops := HOPS.out
  try simp only [List.append_eq, List.cons_append, List.nil_append] at hops
  replace HOPS := Lib.hid hops
  clear hops
  refine walkX_take (o := _) (v := ?_) (by rw [HOPS.out]; simp only [List.getElem?_toArray, List.getElem?_cons_succ, List.getElem?_cons_zero]; exact rfl) (Or.inl ⟨rfl, ?_⟩) ?_
  rotate_left
  · (intro w hSw; have hSx := HFA.out _ hSw; (try dsimp only at hSx); clear hSw; go_simp) <;> (with_reducible rfl)
  simp only [Act.put, List.setIfInBounds_toArray, List.set_cons_zero, List.set_cons_succ]
  refine walkX_take (o := _) (v := ?_) (by rw [HOPS.out]; simp only [List.getElem?_toArray, List.getElem?_cons_succ, List.getElem?_cons_zero]; exact rfl) (Or.inl ⟨rfl, ?_⟩) ?_
  rotate_left
  · (intro w hSw; have hSx := HFA.out _ hSw; (try dsimp only at hSx); clear hSw; go_simp) <;> (with_reducible rfl)
  simp only [Act.put, List.setIfInBounds_toArray, List.set_cons_zero, List.set_cons_succ]
  refine walkX_take (o := _) (v := ?_) (by rw [HOPS.out]; simp only [List.getElem?_toArray, List.getElem?_cons_succ, List.getElem?_cons_zero]; exact rfl) (Or.inl ⟨rfl, ?_⟩) ?_
  rotate_left
  · (intro w hSw; have hSx := HFA.out _ hSw; (try dsimp only at hSx); clear hSw; go_simp) <;> (with_reducible rfl)
  simp only [Act.put, List.setIfInBounds_toArray, List.set_cons_zero, List.set_cons_succ]
  refine walkX_take (o := _) (v := ?_) (by rw [HOPS.out]; simp only [List.getElem?_toArray, List.getElem?_cons_succ, List.getElem?_cons_zero]; exact rfl) (Or.inl ⟨rfl, ?_⟩) ?_
  rotate_left
  · (intro w hSw; have hSx := HFA.out _ hSw; (try dsimp only at hSx); clear hSw; go_simp) <;> (with_reducible rfl)
  simp only [Act.put, List.setIfInBounds_toArray, List.set_cons_zero, List.set_cons_succ]
  refine walkX_take (o := _) (v := ?_) (by rw [HOPS.out]; simp only [List.getElem?_toArray, List.getElem?_cons_succ, List.getElem?_cons_zero]; exact rfl) (Or.inl ⟨rfl, ?_⟩) ?_
  rotate_left
  · (intro w hSw; have hSx := HFA.out _ hSw; (try dsimp only at hSx); clear hSw; go_simp) <;> (with_reducible rfl)
  simp only [Act.put, List.setIfInBounds_toArray, List.set_cons_zero, List.set_cons_succ]
  refine walkX_take (o := _) (v := ?_) (by rw [HOPS.out]; simp only [List.getElem?_toArray, List.getElem?_cons_succ, List.getElem?_cons_zero]; exact rfl) (Or.inl ⟨rfl, ?_⟩) ?_
  rotate_left
  · (intro w hSw; have hSx := HFA.out _ hSw; (try dsimp only at hSx); clear hSw; go_simp) <;> (with_reducible rfl)
  simp only [Act.put, List.setIfInBounds_toArray, List.set_cons_zero, List.set_cons_succ]
  refine walkX_call (o := _) (by rw [HOPS.out]; simp only [List.getElem?_toArray, List.getElem?_cons_succ, List.getElem?_cons_zero]; exact rfl) (fun K HK => ?_)
  refine step_call rfl 117 #[(.tmp 8)] #[143] rfl HEF.out #[.pointer (some ⟨R, 0, none⟩)] (by simp [Act.eval]) (rg_free (HG.out.keep fd (by simp) (by simp))) ?_
  rintro e w' ⟨rfl, rfl⟩
  refine ⟨_, rfl, ?_⟩
  refine HK.out (fun w' => Fr [] w0 w') _ _ (fun _ h => h) (fd) ?_
  clear HK K
  simp only [Act.put, List.setIfInBounds_toArray, List.set_cons_zero, List.set_cons_succ]
  refine walkX_call (o := _) (by rw [HOPS.out]; simp only [List.getElem?_toArray, List.getElem?_cons_succ, List.getElem?_cons_zero]; exact rfl) (fun K HK => ?_)
  refine step_call rfl 57 #[(.tmp 12)] #[106] rfl HEL.out #[.agg #[.slice a P.length cap, .int .i64 (tot P)]] (by simp [Act.eval]) (rope_len (HR.out.keep fd (by simp))) ?_
  rintro e w2 ⟨rfl, f2⟩
  have g2 : Fr [] w0 w2 := fd.then0 f2
  refine ⟨_, rfl, ?_⟩
  refine HK.out (fun w' => Fr [] w0 w') _ _ (fun _ h => h) (g2) ?_
  clear HK K
  simp only [Act.put, List.setIfInBounds_toArray, List.set_cons_zero, List.set_cons_succ]
  refine walkX_take (o := _) (v := ?_) (by rw [HOPS.out]; simp only [List.getElem?_toArray, List.getElem?_cons_succ, List.getElem?_cons_zero]; exact rfl) (Or.inl ⟨rfl, ?_⟩) ?_
  rotate_left
  · (intro w hSw; have hSx := HFA.out _ hSw; (try dsimp only at hSx); clear hSw; go_simp) <;> (with_reducible rfl)
  simp only [Act.put, List.setIfInBounds_toArray, List.set_cons_zero, List.set_cons_succ]
  refine walkX_tail ?_
  refine walkTail_step (o := _) (by rw [HOPS.out]; simp only [List.getElem?_toArray, List.getElem?_cons_succ, List.getElem?_cons_zero]; exact rfl) (fun K HK => ?_)
  refine step_call rfl 149 #[(.tmp 6), (.tmp 14)] #[106, 3] rfl HEC.out #[.pointer (some ⟨b, k, none⟩), .int .i64 (min ((C : Int) - (bi q).length) (tot P))] (by simp [Act.eval]) (st_cut (g2.keep HB.out (by simp)) HCC.out.1 HCC.out.2 (HR.out.keep g2 (by simp)) hN hk (by have := HQ.out; omega)) ?_
  rintro e w3 hc
  obtain ⟨Z, u, a', cap', P', rfl, f3, hb3, hZ, hr3, hfl, ou⟩ := hc
  refine ⟨_, rfl, ?_⟩
  refine HK.out _ _ ?_
  clear HK K
  simp only [Act.put, List.setIfInBounds_toArray, List.set_cons_zero, List.set_cons_succ]
  refine walkTail_step (o := _) (by rw [HOPS.out]; simp only [List.getElem?_toArray, List.getElem?_cons_succ, List.getElem?_cons_zero]; exact rfl) (fun K HK => ?_)
  go_simp
  refine HK.out _ _ ?_
  clear HK K
  try simp only [Act.put, List.setIfInBounds_toArray, List.set_cons_zero, List.set_cons_succ]
  refine walkTail_done ?_
  clear HOPS OPS
  have hM : (min ((C : Int) - (bi q).length) (tot P)).toNat = min (C - q.length) (tot P) := by have := HQ.out; omega
  have hpl : P.flatten.length = tot P := rfl
  rw [hM, ← hpl, drop_min] at hfl
  rw [hM, ← hpl, take_min] at ou
  have hw3 : Fr [b] w0 w3 := (g2.mono (T := [b]) (by simp)).then f3
  have g3 := (HF0.out.mono (T := [b]) (by simp)).then hw3
  have hz3 := hw3.size
  have h3 := HG.out.keep hw3 (by simpa using Ne.symm hbR) (by simpa using Ne.symm hbD)
  obtain ⟨ga, gc, rfl, hgc, hgm, hgs, hgn⟩ := ou.formB
  have hlen : (P.flatten.take (C - q.length)).length = min (C - q.length) (tot P) := by rw [List.length_take]; rfl
  have hs2 := g2.size
  have HW := Lib.hid (rg_write (pcap := gc) h3 (bi_length _).symm hgc hgs (fun _ b' o' e => by have := hgn b' o' e; intro hd; omega) (by rw [hlen]; have := HQ.out; omega))
  have HFL := Lib.hid (And.intro hfl hlen)
  have HR3 := Lib.hid (hr3.mono (N' := fun x => N x ∨ w.heap.size ≤ x) (fun x hx => by have h4 := hx.1; have hs := HF0.out.size; rcases h4 with h4 | h4; exact .inl h4; exact .inr (by omega)))
  have HB3 := Lib.hid hb3
  have HX3 := Lib.hid (And.intro (f3.keep (g2.keep HX.out (by simp)) (by simp; omega)) hgn)
  have x3 : w3.cell? ⟨w.heap.size, 0, none⟩ = some (.pointer (some ⟨R, 0, none⟩)) := cell_of HX3.out.1
  have HL := Lib.hid hlen
  have HK := Lib.hid (And.intro hk (And.intro hN (And.intro hNR hND)))
  clear hfl hr3 hb3 hgs hgn ou h3 HR HB hlen hM hpl hk hN hNR hND HFA
  generalize hX : P.flatten.take (C - q.length) = X at *
  have HXX := Lib.hid hX
  clear hX
  go_wp2_with fail
  refine HW.out.mono ?_
  rintro e w4 ⟨rfl, f4, h4⟩
  have hlen := HL.out
  obtain ⟨hk, hN, hNR, hND⟩ := HK.out
  have hmin : min X.length (C - (bi q).length) = X.length := by rw [HFL.out.2, bi_length]; omega
  rw [hmin, ← bi_take, List.take_of_length_le (Nat.le_refl _), ← bi_append] at h4
  have H4 := Lib.hid h4
  rw [hlen]
  clear h4 hmin hlen hk hN hNR hND
  go_wp2_with fail
  go_ret
  obtain ⟨hk, hN, hNR, hND⟩ := HK.out
  refine ⟨a', cap', P', rfl, (g3.mono (T := [b, R, D]) (by simp)).trans f4 (fun _ h => .inl h) (fun x hx => .inl (List.mem_cons_of_mem _ hx)), f4.keep HB3.out (by simp; exact ⟨hbR, hbD⟩), HR3.out.keep f4 (fun x hx => by simp at hx; rcases hx with rfl | rfl; rintro (hn | hn); exact hNR hn; omega; rintro (hn | hn); exact hND hn; omega), HFL.out.1, by rw [HXX.out]; exact H4.out⟩

set_option maxHeartbeats 1000000 in
theorem buf_take (hg : Rg w R D C (bi q)) {most : Int} (h0 : 0 ≤ most) (v : Value) :
    Calls Try.prog 154 #[(.agg #[.pointer (some ⟨R, 0, none⟩)]), .int .i64 most, v] w fun e w' => ∃ u, e = .returned (.tuple #[u, .int .i64 0]) ∧ Fr [R, D] w w' ∧ Ow w' w.heap.size 5 u ((bi (q.take most.toNat)).map (Value.int .u8)) ∧ Rg w' R D C (bi (q.drop most.toNat)) := by
  obtain ⟨hq, hC, hC1, hRD, hRl, hDl⟩ := hg.len_le
  rw [bi_length] at hq
  obtain ⟨w0, hw0, f0, q0⟩ : ∃ W, w.alloc (.cells #[.pointer (some ⟨R, 0, none⟩)] 162) = W ∧ Fr [] w W ∧ W.heap[w.heap.size]? = some (.cells #[.pointer (some ⟨R, 0, none⟩)] 162 (0, 0)) := ⟨_, rfl, (Fr.refl _ _).alloc _, newA rfl⟩
  have HX := Lib.hid q0
  have HG := Lib.hid (hg.keep f0 (by simp) (by simp))
  have HF0 := Lib.hid f0
  have HLT : Hid (w.heap.size ≠ R ∧ w.heap.size ≠ D ∧ (bi q).length ≤ 4096) := Lib.hid ⟨by omega, by omega, by rw [bi_length]; omega⟩
  have hz0 := lt_of_heap q0
  clear hg q0 f0 hC1
  go_enter Try.func154, Try.ntmps154
  go_wp2_with fail
  have fd : Fr [] w0 w0.drew := (Fr.refl _ _).drew
  have HEL := Lib.hid (Go.Proofs.enters_of Try.func101 (by kernel_rfl) rfl)
  have HER := Lib.hid (Go.Proofs.enters_of Try.func102 (by kernel_rfl) rfl)
  refine wp_region_order [(0, true), (1, true), (2, true), (3, true), (4, true), (5, false), (6, true), (7, false), (8, true), (9, true), (10, true), (11, true), (12, true)] (fun w' => w'.cell? ⟨w.heap.size, 0, none⟩ = some (.pointer (some ⟨R, 0, none⟩))) (by kernel_rfl) (by kernel_rfl) (cell_of (fd.keep HX.out (by simp))) ?_
  intro OPS HOPS
  have hops := HOPS.out
  try simp only [List.append_eq, List.cons_append, List.nil_append] at hops
  replace HOPS := Lib.hid hops
  clear hops
  refine walkO_take (o := _) (v := ?_) (by rw [HOPS.out]; simp only [List.getElem?_toArray, List.getElem?_cons_succ, List.getElem?_cons_zero]; exact rfl) (Or.inl ⟨rfl, ?_⟩) ?_
  rotate_left
  · (intro w hSw; (try dsimp only at hSw); go_simp) <;> (with_reducible rfl)
  simp only [Act.put, List.setIfInBounds_toArray, List.set_cons_zero, List.set_cons_succ]
  refine walkO_take (o := _) (v := ?_) (by rw [HOPS.out]; simp only [List.getElem?_toArray, List.getElem?_cons_succ, List.getElem?_cons_zero]; exact rfl) (Or.inl ⟨rfl, ?_⟩) ?_
  rotate_left
  · (intro w hSw; (try dsimp only at hSw); go_simp) <;> (with_reducible rfl)
  simp only [Act.put, List.setIfInBounds_toArray, List.set_cons_zero, List.set_cons_succ]
  refine walkO_take (o := _) (v := ?_) (by rw [HOPS.out]; simp only [List.getElem?_toArray, List.getElem?_cons_succ, List.getElem?_cons_zero]; exact rfl) (Or.inl ⟨rfl, ?_⟩) ?_
  rotate_left
  · (intro w hSw; (try dsimp only at hSw); go_simp) <;> (with_reducible rfl)
  simp only [Act.put, List.setIfInBounds_toArray, List.set_cons_zero, List.set_cons_succ]
  refine walkO_take (o := _) (v := ?_) (by rw [HOPS.out]; simp only [List.getElem?_toArray, List.getElem?_cons_succ, List.getElem?_cons_zero]; exact rfl) (Or.inl ⟨rfl, ?_⟩) ?_
  rotate_left
  · (intro w hSw; (try dsimp only at hSw); go_simp) <;> (with_reducible rfl)
  simp only [Act.put, List.setIfInBounds_toArray, List.set_cons_zero, List.set_cons_succ]
  refine walkO_take (o := _) (v := ?_) (by rw [HOPS.out]; simp only [List.getElem?_toArray, List.getElem?_cons_succ, List.getElem?_cons_zero]; exact rfl) (Or.inl ⟨rfl, ?_⟩) ?_
  rotate_left
  · (intro w hSw; (try dsimp only at hSw); go_simp) <;> (with_reducible rfl)
  simp only [Act.put, List.setIfInBounds_toArray, List.set_cons_zero, List.set_cons_succ]
  refine walkO_call (o := _) (by rw [HOPS.out]; simp only [List.getElem?_toArray, List.getElem?_cons_succ, List.getElem?_cons_zero]; exact rfl) (fun K HK => ?_)
  refine step_call rfl 101 #[(.tmp 15)] #[143] rfl HEL.out #[.pointer (some ⟨R, 0, none⟩)] (by simp [Act.eval]) (rg_len (HG.out.keep fd (by simp) (by simp))) ?_
  rintro e w' ⟨rfl, rfl⟩
  refine ⟨_, rfl, ?_⟩
  refine HK.out (fun w' => w'.cell? ⟨w.heap.size, 0, none⟩ = some (.pointer (some ⟨R, 0, none⟩))) _ _ (fun _ h => h) (cell_of (fd.keep HX.out (by simp))) ?_
  clear HK K
  simp only [Act.put, List.setIfInBounds_toArray, List.set_cons_zero, List.set_cons_succ]
  refine walkO_take (o := _) (v := ?_) (by rw [HOPS.out]; simp only [List.getElem?_toArray, List.getElem?_cons_succ, List.getElem?_cons_zero]; exact rfl) (Or.inl ⟨rfl, ?_⟩) ?_
  rotate_left
  · (intro w hSw; (try dsimp only at hSw); go_simp) <;> (with_reducible rfl)
  simp only [Act.put, List.setIfInBounds_toArray, List.set_cons_zero, List.set_cons_succ]
  refine walkO_call (o := _) (by rw [HOPS.out]; simp only [List.getElem?_toArray, List.getElem?_cons_succ, List.getElem?_cons_zero]; exact rfl) (fun K HK => ?_)
  refine step_call rfl 102 #[(.tmp 12), (.tmp 17)] #[143, 3] rfl HER.out #[.pointer (some ⟨R, 0, none⟩), .int .i64 (min most ((bi q).length : Nat))] (by simp [Act.eval]) (rg_read (HG.out.keep fd (by simp) (by simp)) (by omega)) ?_
  rintro e w2 ⟨u, rfl, f2, hu, hg2⟩
  have hx2 := f2.keep (fd.keep HX.out (by simp)) (by have := HLT.out; simp; omega)
  refine ⟨_, rfl, ?_⟩
  refine HK.out (fun w' => w'.cell? ⟨w.heap.size, 0, none⟩ = some (.pointer (some ⟨R, 0, none⟩))) _ _ (fun _ h => h) (cell_of hx2) ?_
  clear HK K
  simp only [Act.put, List.setIfInBounds_toArray, List.set_cons_zero, List.set_cons_succ]
  refine walkO_take (o := _) (v := ?_) (by rw [HOPS.out]; simp only [List.getElem?_toArray, List.getElem?_cons_succ, List.getElem?_cons_zero]; exact rfl) (Or.inl ⟨rfl, ?_⟩) ?_
  rotate_left
  · (intro w hSw; (try dsimp only at hSw); go_simp) <;> (with_reducible rfl)
  simp only [Act.put, List.setIfInBounds_toArray, List.set_cons_zero, List.set_cons_succ]
  refine walkO_take (o := _) (v := ?_) (by rw [HOPS.out]; simp only [List.getElem?_toArray, List.getElem?_cons_succ, List.getElem?_cons_zero]; exact rfl) (Or.inl ⟨rfl, ?_⟩) ?_
  rotate_left
  · (intro w hSw; (try dsimp only at hSw); go_simp) <;> (with_reducible rfl)
  simp only [Act.put, List.setIfInBounds_toArray, List.set_cons_zero, List.set_cons_succ]
  refine walkO_take (o := _) (v := ?_) (by rw [HOPS.out]; simp only [List.getElem?_toArray, List.getElem?_cons_succ, List.getElem?_cons_zero]; exact rfl) (Or.inl ⟨rfl, ?_⟩) ?_
  rotate_left
  · (intro w hSw; (try dsimp only at hSw); go_simp) <;> (with_reducible rfl)
  simp only [Act.put, List.setIfInBounds_toArray, List.set_cons_zero, List.set_cons_succ]
  refine walkO_take (o := _) (v := ?_) (by rw [HOPS.out]; simp only [List.getElem?_toArray, List.getElem?_cons_succ, List.getElem?_cons_zero]; exact rfl) (Or.inl ⟨rfl, ?_⟩) ?_
  rotate_left
  · (intro w hSw; (try dsimp only at hSw); go_simp) <;> (with_reducible rfl)
  simp only [Act.put, List.setIfInBounds_toArray, List.set_cons_zero, List.set_cons_succ]
  refine walkO_take (o := _) (v := ?_) (by rw [HOPS.out]; simp only [List.getElem?_toArray, List.getElem?_cons_succ, List.getElem?_cons_zero]; exact rfl) (Or.inl ⟨rfl, ?_⟩) ?_
  rotate_left
  · (intro w hSw; (try dsimp only at hSw); go_simp) <;> (with_reducible rfl)
  simp only [Act.put, List.setIfInBounds_toArray, List.set_cons_zero, List.set_cons_succ]
  refine walkO_done ?_
  clear HOPS OPS
  have hm : (min most ((bi q).length : Nat)).toNat = min most.toNat q.length := by rw [bi_length]; omega
  rw [hm, ← bi_take, take_min] at hu
  rw [hm, ← bi_drop, drop_min] at hg2
  have HU := Lib.hid (hu.ow (by rw [List.length_take]; omega))
  have HG2 := Lib.hid hg2
  have HF := Lib.hid (HF0.out.trans (U := [R, D]) (fd.then0 (Fr.refl [] _)) (by simp) (by simp))
  have HF2 := Lib.hid (HF.out.then f2)
  have hs0 := HF0.out.size
  obtain ⟨ga, gc, rfl, _⟩ := HU.out.formB
  clear hu hg2 hx2
  go_wp2_with fail
  go_ret2
  exact ⟨_, rfl, HF2.out, HU.out.mono (by have : w0.drew.heap.size = w0.heap.size := rfl; omega), HG2.out⟩

set_option maxHeartbeats 1000000 in
theorem buf_held (hg : Rg w R D C (bi q)) :
    Calls Try.prog 152 #[(.agg #[.pointer (some ⟨R, 0, none⟩)])] w fun e w' => ∃ u, e = .returned u ∧ Fr [] w w' ∧ Ow w' w.heap.size 5 u ((bi q).map (Value.int .u8)) := by
  obtain ⟨hq, hC, hC1, hRD, hRl, hDl⟩ := hg.len_le
  rw [bi_length] at hq
  obtain ⟨w0, hw0, f0, q0⟩ : ∃ W, w.alloc (.cells #[.pointer (some ⟨R, 0, none⟩)] 162) = W ∧ Fr [] w W ∧ W.heap[w.heap.size]? = some (.cells #[.pointer (some ⟨R, 0, none⟩)] 162 (0, 0)) := ⟨_, rfl, (Fr.refl _ _).alloc _, newA rfl⟩
  have HX := Lib.hid q0
  have HG := Lib.hid (hg.keep f0 (by simp) (by simp))
  have HF0 := Lib.hid f0
  have hz0 := lt_of_heap q0
  clear hg q0 f0 hC1
  go_enter Try.func152, Try.ntmps152
  go_wp2_with fail
  have fd : Fr [] w0 w0.drew := (Fr.refl _ _).drew
  have HEL := Lib.hid (Go.Proofs.enters_of Try.func101 (by kernel_rfl) rfl)
  have HEP := Lib.hid (Go.Proofs.enters_of Try.func122 (by kernel_rfl) rfl)
  refine wp_region_order [(0, true), (1, true), (2, true), (3, true), (4, false), (5, false), (6, true), (7, true), (8, true), (9, true), (10, true)] (fun w' => w'.cell? ⟨w.heap.size, 0, none⟩ = some (.pointer (some ⟨R, 0, none⟩))) (by kernel_rfl) (by kernel_rfl) (cell_of (fd.keep HX.out (by simp))) ?_
  intro OPS HOPS
  have hops := HOPS.out
  try simp only [List.append_eq, List.cons_append, List.nil_append] at hops
  replace HOPS := Lib.hid hops
  clear hops
  refine walkO_take (o := _) (v := ?_) (by rw [HOPS.out]; simp only [List.getElem?_toArray, List.getElem?_cons_succ, List.getElem?_cons_zero]; exact rfl) (Or.inl ⟨rfl, ?_⟩) ?_
  rotate_left
  · (intro w hSw; (try dsimp only at hSw); go_simp) <;> (with_reducible rfl)
  simp only [Act.put, List.setIfInBounds_toArray, List.set_cons_zero, List.set_cons_succ]
  refine walkO_take (o := _) (v := ?_) (by rw [HOPS.out]; simp only [List.getElem?_toArray, List.getElem?_cons_succ, List.getElem?_cons_zero]; exact rfl) (Or.inl ⟨rfl, ?_⟩) ?_
  rotate_left
  · (intro w hSw; (try dsimp only at hSw); go_simp) <;> (with_reducible rfl)
  simp only [Act.put, List.setIfInBounds_toArray, List.set_cons_zero, List.set_cons_succ]
  refine walkO_take (o := _) (v := ?_) (by rw [HOPS.out]; simp only [List.getElem?_toArray, List.getElem?_cons_succ, List.getElem?_cons_zero]; exact rfl) (Or.inl ⟨rfl, ?_⟩) ?_
  rotate_left
  · (intro w hSw; (try dsimp only at hSw); go_simp) <;> (with_reducible rfl)
  simp only [Act.put, List.setIfInBounds_toArray, List.set_cons_zero, List.set_cons_succ]
  refine walkO_take (o := _) (v := ?_) (by rw [HOPS.out]; simp only [List.getElem?_toArray, List.getElem?_cons_succ, List.getElem?_cons_zero]; exact rfl) (Or.inl ⟨rfl, ?_⟩) ?_
  rotate_left
  · (intro w hSw; (try dsimp only at hSw); go_simp) <;> (with_reducible rfl)
  simp only [Act.put, List.setIfInBounds_toArray, List.set_cons_zero, List.set_cons_succ]
  refine walkO_call (o := _) (by rw [HOPS.out]; simp only [List.getElem?_toArray, List.getElem?_cons_succ, List.getElem?_cons_zero]; exact rfl) (fun K HK => ?_)
  refine step_call rfl 101 #[(.tmp 9)] #[143] rfl HEL.out #[.pointer (some ⟨R, 0, none⟩)] (by simp [Act.eval]) (rg_len (HG.out.keep fd (by simp) (by simp))) ?_
  rintro e w' ⟨rfl, rfl⟩
  refine ⟨_, rfl, ?_⟩
  refine HK.out (fun w' => w'.cell? ⟨w.heap.size, 0, none⟩ = some (.pointer (some ⟨R, 0, none⟩))) _ _ (fun _ h => h) (cell_of (fd.keep HX.out (by simp))) ?_
  clear HK K
  simp only [Act.put, List.setIfInBounds_toArray, List.set_cons_zero, List.set_cons_succ]
  refine walkO_call (o := _) (by rw [HOPS.out]; simp only [List.getElem?_toArray, List.getElem?_cons_succ, List.getElem?_cons_zero]; exact rfl) (fun K HK => ?_)
  refine step_call rfl 122 #[(.tmp 7), (Operand.const (Value.int IntKind.i64 0)), (.tmp 10)] #[143, 3, 3] rfl HEP.out #[.pointer (some ⟨R, 0, none⟩), .int .i64 0, .int .i64 ((bi q).length : Nat)] (by simp [Act.eval]) (rg_peek (HG.out.keep fd (by simp) (by simp)) (Int.le_refl 0) (by omega)) ?_
  rintro e w2 ⟨u, rfl, f2, hu⟩
  have hx2 := f2.keep (fd.keep HX.out (by simp)) (by simp)
  refine ⟨_, rfl, ?_⟩
  refine HK.out (fun w' => w'.cell? ⟨w.heap.size, 0, none⟩ = some (.pointer (some ⟨R, 0, none⟩))) _ _ (fun _ h => h) (cell_of hx2) ?_
  clear HK K
  simp only [Act.put, List.setIfInBounds_toArray, List.set_cons_zero, List.set_cons_succ]
  refine walkO_take (o := _) (v := ?_) (by rw [HOPS.out]; simp only [List.getElem?_toArray, List.getElem?_cons_succ, List.getElem?_cons_zero]; exact rfl) (Or.inl ⟨rfl, ?_⟩) ?_
  rotate_left
  · (intro w hSw; (try dsimp only at hSw); go_simp) <;> (with_reducible rfl)
  simp only [Act.put, List.setIfInBounds_toArray, List.set_cons_zero, List.set_cons_succ]
  refine walkO_take (o := _) (v := ?_) (by rw [HOPS.out]; simp only [List.getElem?_toArray, List.getElem?_cons_succ, List.getElem?_cons_zero]; exact rfl) (Or.inl ⟨rfl, ?_⟩) ?_
  rotate_left
  · (intro w hSw; (try dsimp only at hSw); go_simp) <;> (with_reducible rfl)
  simp only [Act.put, List.setIfInBounds_toArray, List.set_cons_zero, List.set_cons_succ]
  refine walkO_take (o := _) (v := ?_) (by rw [HOPS.out]; simp only [List.getElem?_toArray, List.getElem?_cons_succ, List.getElem?_cons_zero]; exact rfl) (Or.inl ⟨rfl, ?_⟩) ?_
  rotate_left
  · (intro w hSw; (try dsimp only at hSw); go_simp) <;> (with_reducible rfl)
  simp only [Act.put, List.setIfInBounds_toArray, List.set_cons_zero, List.set_cons_succ]
  refine walkO_take (o := _) (v := ?_) (by rw [HOPS.out]; simp only [List.getElem?_toArray, List.getElem?_cons_succ, List.getElem?_cons_zero]; exact rfl) (Or.inl ⟨rfl, ?_⟩) ?_
  rotate_left
  · (intro w hSw; (try dsimp only at hSw); go_simp) <;> (with_reducible rfl)
  simp only [Act.put, List.setIfInBounds_toArray, List.set_cons_zero, List.set_cons_succ]
  refine walkO_take (o := _) (v := ?_) (by rw [HOPS.out]; simp only [List.getElem?_toArray, List.getElem?_cons_succ, List.getElem?_cons_zero]; exact rfl) (Or.inl ⟨rfl, ?_⟩) ?_
  rotate_left
  · (intro w hSw; (try dsimp only at hSw); go_simp) <;> (with_reducible rfl)
  simp only [Act.put, List.setIfInBounds_toArray, List.set_cons_zero, List.set_cons_succ]
  refine walkO_done ?_
  clear HOPS OPS
  rw [Int.toNat_natCast, show (0 : Int).toNat = 0 from rfl, List.drop_zero, List.take_of_length_le (Nat.le_refl _)] at hu
  have HU := Lib.hid (hu.ow (by omega))
  have HF2 := Lib.hid ((HF0.out.then0 fd).then0 f2)
  have hs0 := HF0.out.size
  obtain ⟨ga, gc, rfl, _⟩ := HU.out.formB
  clear hu hx2
  go_wp2_with fail
  go_ret
  exact ⟨_, rfl, HF2.out, HU.out.mono (by have : w0.drew.heap.size = w0.heap.size := rfl; omega)⟩
theorem buf_room (hg : Rg w R D C (bi q)) :
    Calls Try.prog 153 #[(.agg #[.pointer (some ⟨R, 0, none⟩)])] w fun e w' => e = .returned (.int .i64 C) ∧ Fr [] w w' := by
  obtain ⟨w0, hw0, f0, q0⟩ : ∃ W, w.alloc (.cells #[.pointer (some ⟨R, 0, none⟩)] 162) = W ∧ Fr [] w W ∧ W.heap[w.heap.size]? = some (.cells #[.pointer (some ⟨R, 0, none⟩)] 162 (0, 0)) := ⟨_, rfl, (Fr.refl _ _).alloc _, newA rfl⟩
  have x0 : w0.cell? ⟨w.heap.size, 0, none⟩ = some (.pointer (some ⟨R, 0, none⟩)) := cell_of q0
  have HC := Lib.hid (rg_cap (hg.keep f0 (by simp) (by simp)))
  clear hg q0
  go_enter Try.func153, Try.ntmps153
  go_wp2_with fail
  refine HC.out.mono ?_
  rintro e w' ⟨rfl, rfl⟩
  go_wp2_with fail
  go_ret
  exact ⟨rfl, f0⟩
theorem buf_again (hg : Rg w R D C (bi q)) :
    Calls Try.prog 150 #[(.agg #[.pointer (some ⟨R, 0, none⟩)])] w fun e w' => ∃ R' D', e = .returned (.iface 162 (.agg #[.pointer (some ⟨R', 0, none⟩)])) ∧ Fr [] w w' ∧ w.heap.size ≤ R' ∧ w.heap.size ≤ D' ∧ Rg w' R' D' C (bi q) := by
  obtain ⟨w0, hw0, f0, q0⟩ : ∃ W, w.alloc (.cells #[.pointer (some ⟨R, 0, none⟩)] 162) = W ∧ Fr [] w W ∧ W.heap[w.heap.size]? = some (.cells #[.pointer (some ⟨R, 0, none⟩)] 162 (0, 0)) := ⟨_, rfl, (Fr.refl _ _).alloc _, newA rfl⟩
  have x0 : w0.cell? ⟨w.heap.size, 0, none⟩ = some (.pointer (some ⟨R, 0, none⟩)) := cell_of q0
  have HC := Lib.hid (rg_copy (hg.keep f0 (by simp) (by simp)))
  have hs0 := f0.size
  clear hg q0
  go_enter Try.func150, Try.ntmps150
  go_wp2_with fail
  refine HC.out.mono ?_
  rintro e w2 ⟨R', D', rfl, f2, hR', hD', hg2⟩
  go_wp2_with fail
  go_ret
  exact ⟨R', D', rfl, f0.then0 f2, by omega, by omega, hg2⟩

theorem dir_fill (v : Value) : Calls Try.prog 145 #[.agg #[], v] w fun e w' => e = .returned (.int .i64 0) ∧ Fr [] w w' := by
  go_enter Try.func145, Try.ntmps145
  go_wp2_with fail
  go_ret
  exact ⟨rfl, (Fr.refl _ _).alloc _⟩
theorem dir_held : Calls Try.prog 146 #[.agg #[]] w fun e w' => e = .returned (.slice none 0 0) ∧ Fr [] w w' := by
  go_enter Try.func146, Try.ntmps146
  go_wp2_with fail
  go_ret
  exact ⟨rfl, (Fr.refl _ _).alloc _⟩
theorem dir_room : Calls Try.prog 147 #[.agg #[]] w fun e w' => e = .returned (.int .i64 0) ∧ Fr [] w w' := by
  go_enter Try.func147, Try.ntmps147
  go_wp2_with fail
  go_ret
  exact ⟨rfl, (Fr.refl _ _).alloc _⟩
theorem dir_again : Calls Try.prog 144 #[.agg #[]] w fun e w' => e = .returned (.iface 160 (.agg #[])) ∧ Fr [] w w' := by
  go_enter Try.func144, Try.ntmps144
  go_wp2_with fail
  go_ret
  exact ⟨rfl, (Fr.refl _ _).alloc _⟩
set_option maxHeartbeats 1000000 in
theorem dir_take (h : w.heap[b]? = some (.cells c t (0, 0))) (c0 : c[k]? = some (.slice a P.length cap)) (c1 : c[k + 1]? = some (.int .i64 (tot P))) (hr : Rp w N (.agg #[.slice a P.length cap, .int .i64 (tot P)]) P) (hN : ¬ N b) (hk : k = 0 ∨ k = 2) {most : Int} (h0 : 0 ≤ most) :
    Calls Try.prog 148 #[.agg #[], .int .i64 most, .pointer (some ⟨b, k, none⟩)] w fun e w' => ∃ Z u a' cap' P', e = .returned (.tuple #[u, .int .i64 (min most.toNat (tot P) : Nat)]) ∧ Fr [b] w w' ∧
      w'.heap[b]? = some (.cells ((c.setIfInBounds k (.slice a' (List.length P') cap')).setIfInBounds (k + 1) (.int .i64 (tot P'))) t (0, 0)) ∧ w.heap.size ≤ Z ∧
      Rp w' (fun x => (N x ∨ w.heap.size ≤ x) ∧ x < Z) (.agg #[.slice a' (List.length P') cap', .int .i64 (tot P')]) P' ∧ P'.flatten = P.flatten.drop most.toNat ∧ Ow w' Z 5 u ((bi (P.flatten.take most.toNat)).map (Value.int .u8)) := by
  have hbl := lt_of_heap h
  have ht : (tot P : Int) ≤ 65536 := by obtain ⟨_, _, _, _, _, _, _, _, h6⟩ := hr; omega
  obtain ⟨w0, hw0, f0⟩ : ∃ W, w.alloc (.cells #[] 160) = W ∧ Fr [] w W := ⟨_, rfl, (Fr.refl _ _).alloc _⟩
  have HB := Lib.hid (f0.keep h (by simp))
  have x0 : w0.cell? ⟨b, k, none⟩ = some (.slice a P.length cap) := (cell_of HB.out).trans c0
  have x1 : w0.cell? ⟨b, k + 1, none⟩ = some (.int .i64 (tot P)) := (cell_of HB.out).trans c1
  have HL := Lib.hid (rope_len (hr.keep f0 (by simp)))
  have HC := Lib.hid fun (w1 : World) (f : Fr [] w0 w1) => st_cut (m := min most (tot P)) (f.keep HB.out (by simp)) c0 c1 ((hr.keep f0 (by simp)).keep f (by simp)) hN hk (by omega)
  have hs0 := f0.size
  clear h c0 c1 hr
  go_enter Try.func148, Try.ntmps148
  go_wp2_with fail
  refine HL.out.mono ?_
  rintro e w1 ⟨rfl, f1⟩
  clear x0 x1
  go_wp2_with fail
  refine (HC.out _ f1).mono ?_
  rintro e w2 ⟨Z, u, a', cap', P', rfl, f2, hb2, hZ, hr2, hfl, ou⟩
  have hm : (min most (tot P : Int)).toNat = min most.toNat (tot P) := by omega
  have hpl : P.flatten.length = tot P := rfl
  rw [hm, ← hpl, drop_min] at hfl
  rw [hm, ← hpl, take_min] at ou
  have hs1 := f1.size
  obtain ⟨ga, gc, rfl, _⟩ := ou.formB
  have hlen : (P.flatten.take most.toNat).length = min most.toNat (tot P) := by rw [List.length_take]; rfl
  have HH := Lib.hid (And.intro hb2 (And.intro hr2 (And.intro hfl ou)))
  clear hb2 hr2 hfl ou HC
  go_wp2_with fail
  go_ret2
  obtain ⟨hb2, hr2, hfl, ou⟩ := HH.out
  rw [hlen] at ou
  exact ⟨Z, _, a', cap', P', rfl, ((f0.then0 f1).mono (T := [b]) (by simp)).then f2, hb2, by omega, hr2.mono (fun x hx => ⟨by rcases hx.1 with h4 | h4; exact .inl h4; exact .inr (by omega), hx.2⟩), hfl, ou⟩
end
end Go.Proofs.Ytdoamelhclnphaa
