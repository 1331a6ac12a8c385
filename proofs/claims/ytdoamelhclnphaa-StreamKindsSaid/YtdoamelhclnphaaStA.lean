/-
  Package stream: cut, which cuts bytes off the front of a rest.
-/
import Derived.Test.YtdoamelhclnphaaStMath
import Derived.Test.YtdoamelhclnphaaRopeA
import Derived.BigRegion
import Derived.Handy
import Derived.Test.YtdoamelhclnphaaRingCopy
import Derived.Test.YtdoamelhclnphaaRegT
import Derived.Lib.MinMax
import Derived.ChangeKeysEq
namespace Go.Proofs.Ytdoamelhclnphaa
open Go.RowKit
set_option maxRecDepth 100000

theorem two_at {w : World} {b k : Nat} {c : Array Value} {t : TypeId} {u0 u1 : Value} (h : w.heap[b]? = some (.cells c t (0, 0))) :
    ((w.setCell ⟨b, k, none⟩ u0).setCell ⟨b, k + 1, none⟩ u1).heap[b]? = some (.cells ((c.setIfInBounds k u0).setIfInBounds (k + 1) u1) t (0, 0)) :=
  heap_setCell_eq (i := k + 1) (u := u1) (heap_setCell_eq (i := k) (u := u0) h)
def CutPost (N : Nat → Prop) (b k : Nat) (c : Array Value) (t : TypeId) (P : Parts) (m : Nat) (w : World) (e : Ending) (w' : World) : Prop :=
  ∃ Z u a' cap' P', e = .returned u ∧ Fr [b] w w' ∧ w'.heap[b]? = some (.cells ((c.setIfInBounds k (.slice a' (List.length P') cap')).setIfInBounds (k + 1) (.int .i64 (tot P'))) t (0, 0)) ∧ w.heap.size ≤ Z ∧
    Rp w' (fun x => (N x ∨ w.heap.size ≤ x) ∧ x < Z) (.agg #[.slice a' (List.length P') cap', .int .i64 (tot P')]) P' ∧ P'.flatten = P.flatten.drop m ∧ Ow w' Z 5 u ((bi (P.flatten.take m)).map (Value.int .u8))

set_option maxHeartbeats 1000000 in
theorem st_cut {w : World} {N : Nat → Prop} {b k : Nat} {c : Array Value} {t : TypeId} {a : Option Addr} {cap : Nat} {P : Parts} (h : w.heap[b]? = some (.cells c t (0, 0))) (c0 : c[k]? = some (.slice a P.length cap)) (c1 : c[k + 1]? = some (.int .i64 (tot P))) (hr : Rp w N (.agg #[.slice a P.length cap, .int .i64 (tot P)]) P) (hN : ¬ N b) (hk : k = 0 ∨ k = 2) {m : Int} (h0 : 0 ≤ m) :
    Calls Try.prog 149 #[.pointer (some ⟨b, k, none⟩), .int .i64 m] w (CutPost N b k c t P m.toNat w) := by
  rcases hk with rfl | rfl
  · have hblt := lt_of_heap h
    have HT := Lib.hid (rope_take hr h0)
    have x0 : w.cell? ⟨b, 0, none⟩ = some (.slice a P.length cap) := (cell_of h).trans c0
    have x1 : w.cell? ⟨b, 1, none⟩ = some (.int .i64 (tot P)) := (cell_of h).trans c1
    have HH := Lib.hid h
    have HC := Lib.hid (And.intro c0 c1)
    clear h hr c0 c1 h0
    go_enter Try.func149, Try.ntmps149
    go_wp2_with fail
    refine HT.out.mono ?_
    rintro e w3 ⟨v1, v2, rfl, g3, r1, r2⟩
    clear HT x0 x1
    have e1 := cutF_flat P m.toNat
    have e2 := cutR_flat P m.toNat
    generalize cutF P m.toNat = F at *
    generalize cutR P m.toNat = R at *
    obtain ⟨a1, cap1, rfl, _⟩ := id r1
    obtain ⟨a2, cap2, rfl, _⟩ := id r2
    have h3 := g3.keep HH.out (by simp)
    have HF : Hid (F.flatten = P.flatten.take m.toNat ∧ R.flatten = P.flatten.drop m.toNat) := Lib.hid ⟨e1, e2⟩
    have hz3 := g3.size
    obtain ⟨w4, hw4, f4, q5, q6⟩ : ∃ W, (w3.alloc (.cells #[.slice a1 F.length cap1, .int .i64 (tot F)] 57)).alloc (.cells #[.slice a2 R.length cap2, .int .i64 (tot R)] 57) = W ∧ Fr [] w3 W ∧ W.heap[w3.heap.size]? = some (.cells #[.slice a1 F.length cap1, .int .i64 (tot F)] 57 (0, 0)) ∧ W.heap[w3.heap.size + 1]? = some (.cells #[.slice a2 R.length cap2, .int .i64 (tot R)] 57 (0, 0)) := ⟨_, rfl, ((Fr.refl _ _).alloc _).alloc _, keepA (newA rfl), newA (by simp)⟩
    have h4 := f4.keep h3 (by simp)
    have z4 : w3.heap.size + 1 < w4.heap.size := lt_of_heap q6
    have y0 : w4.cell? ⟨w3.heap.size + 1, 0, none⟩ = some (.slice a2 R.length cap2) := cell_of q6
    have y1 : w4.cell? ⟨w3.heap.size + 1, 1, none⟩ = some (.int .i64 (tot R)) := cell_of q6
    have y2 : w4.frozen? ⟨b, 0, none⟩ = false := free_of h4
    have y3 : w4.frozen? ⟨b, 1, none⟩ = false := free_of h4
    have y4 : w4.cell? ⟨b, 0, none⟩ = some (.slice a P.length cap) := (cell_of h4).trans HC.out.1
    have y5 : w4.cell? ⟨b, 1, none⟩ = some (.int .i64 (tot P)) := (cell_of h4).trans HC.out.2
    obtain ⟨w5, hw5, f5, h5, k5⟩ : ∃ W, (w4.setCell ⟨b, 0, none⟩ (.slice a2 R.length cap2)).setCell ⟨b, 1, none⟩ (.int .i64 (tot R)) = W ∧ Fr [b] w4 W ∧ W.heap[b]? = some (.cells ((c.setIfInBounds 0 (.slice a2 R.length cap2)).setIfInBounds (1) (.int .i64 (tot R))) t (0, 0)) ∧ W.heap[w3.heap.size]? = some (.cells #[.slice a1 F.length cap1, .int .i64 (tot F)] 57 (0, 0)) := ⟨_, rfl, ((Fr.refl _ _).setCell (.inl (by simp)) _).setCell (.inl (by simp)) _, two_at h4, keepS (keepS q5 (by dsimp only; omega)) (by dsimp only; omega)⟩
    have z0 : w5.cell? ⟨w3.heap.size, 0, none⟩ = some (.slice a1 F.length cap1) := cell_of k5
    have z1 : w5.cell? ⟨w3.heap.size, 1, none⟩ = some (.int .i64 (tot F)) := cell_of k5
    have hNb : ∀ x ∈ [b], ¬ (N x ∨ w.heap.size ≤ x) := fun x hx => by simp at hx; subst hx; rintro (hn | hn); exact hN hn; omega
    have hz5 := f5.size
    have HB := Lib.hid (rope_bytes ((r1.keep f4 (by simp)).keep f5 hNb))
    have HR := Lib.hid (r2.there.mono (N' := fun x => (N x ∨ w.heap.size ≤ x) ∧ x < w5.heap.size) (fun x hx => ⟨hx.1, by have := hx.2; omega⟩))
    have HG := Lib.hid (((g3.then0 f4).mono (T := [b]) (by simp)).then f5)
    have H5 := Lib.hid h5
    have HFF := Lib.hid (And.intro f4 f5)
    clear r1 r2 h3 h4 h5 k5 q5 q6 g3 f4 f5 HH e1 e2
    go_wp2_with fail
    refine HB.out.mono ?_
    rintro e w6 ⟨u, rfl, f6, o6⟩
    go_wp2_with fail
    go_ret
    obtain ⟨e1, e2⟩ := HF.out
    rw [e1] at o6
    exact ⟨w5.heap.size, u, a2, cap2, R, rfl, HG.out.then0 f6, f6.keep H5.out (by simp), by have := HG.out.size; omega, ((HR.out.keep HFF.out.1 (by simp)).keep HFF.out.2 (fun x hx hn => hNb x hx hn.1)).keep f6 (by simp), e2, o6⟩
  · have hblt := lt_of_heap h
    have HT := Lib.hid (rope_take hr h0)
    have x0 : w.cell? ⟨b, 2, none⟩ = some (.slice a P.length cap) := (cell_of h).trans c0
    have x1 : w.cell? ⟨b, 3, none⟩ = some (.int .i64 (tot P)) := (cell_of h).trans c1
    have HH := Lib.hid h
    have HC := Lib.hid (And.intro c0 c1)
    clear h hr c0 c1 h0
    go_enter Try.func149, Try.ntmps149
    go_wp2_with fail
    refine HT.out.mono ?_
    rintro e w3 ⟨v1, v2, rfl, g3, r1, r2⟩
    clear HT x0 x1
    have e1 := cutF_flat P m.toNat
    have e2 := cutR_flat P m.toNat
    generalize cutF P m.toNat = F at *
    generalize cutR P m.toNat = R at *
    obtain ⟨a1, cap1, rfl, _⟩ := id r1
    obtain ⟨a2, cap2, rfl, _⟩ := id r2
    have h3 := g3.keep HH.out (by simp)
    have HF : Hid (F.flatten = P.flatten.take m.toNat ∧ R.flatten = P.flatten.drop m.toNat) := Lib.hid ⟨e1, e2⟩
    have hz3 := g3.size
    obtain ⟨w4, hw4, f4, q5, q6⟩ : ∃ W, (w3.alloc (.cells #[.slice a1 F.length cap1, .int .i64 (tot F)] 57)).alloc (.cells #[.slice a2 R.length cap2, .int .i64 (tot R)] 57) = W ∧ Fr [] w3 W ∧ W.heap[w3.heap.size]? = some (.cells #[.slice a1 F.length cap1, .int .i64 (tot F)] 57 (0, 0)) ∧ W.heap[w3.heap.size + 1]? = some (.cells #[.slice a2 R.length cap2, .int .i64 (tot R)] 57 (0, 0)) := ⟨_, rfl, ((Fr.refl _ _).alloc _).alloc _, keepA (newA rfl), newA (by simp)⟩
    have h4 := f4.keep h3 (by simp)
    have z4 : w3.heap.size + 1 < w4.heap.size := lt_of_heap q6
    have y0 : w4.cell? ⟨w3.heap.size + 1, 0, none⟩ = some (.slice a2 R.length cap2) := cell_of q6
    have y1 : w4.cell? ⟨w3.heap.size + 1, 1, none⟩ = some (.int .i64 (tot R)) := cell_of q6
    have y2 : w4.frozen? ⟨b, 2, none⟩ = false := free_of h4
    have y3 : w4.frozen? ⟨b, 3, none⟩ = false := free_of h4
    have y4 : w4.cell? ⟨b, 2, none⟩ = some (.slice a P.length cap) := (cell_of h4).trans HC.out.1
    have y5 : w4.cell? ⟨b, 3, none⟩ = some (.int .i64 (tot P)) := (cell_of h4).trans HC.out.2
    obtain ⟨w5, hw5, f5, h5, k5⟩ : ∃ W, (w4.setCell ⟨b, 2, none⟩ (.slice a2 R.length cap2)).setCell ⟨b, 3, none⟩ (.int .i64 (tot R)) = W ∧ Fr [b] w4 W ∧ W.heap[b]? = some (.cells ((c.setIfInBounds 2 (.slice a2 R.length cap2)).setIfInBounds (3) (.int .i64 (tot R))) t (0, 0)) ∧ W.heap[w3.heap.size]? = some (.cells #[.slice a1 F.length cap1, .int .i64 (tot F)] 57 (0, 0)) := ⟨_, rfl, ((Fr.refl _ _).setCell (.inl (by simp)) _).setCell (.inl (by simp)) _, two_at h4, keepS (keepS q5 (by dsimp only; omega)) (by dsimp only; omega)⟩
    have z0 : w5.cell? ⟨w3.heap.size, 0, none⟩ = some (.slice a1 F.length cap1) := cell_of k5
    have z1 : w5.cell? ⟨w3.heap.size, 1, none⟩ = some (.int .i64 (tot F)) := cell_of k5
    have hNb : ∀ x ∈ [b], ¬ (N x ∨ w.heap.size ≤ x) := fun x hx => by simp at hx; subst hx; rintro (hn | hn); exact hN hn; omega
    have hz5 := f5.size
    have HB := Lib.hid (rope_bytes ((r1.keep f4 (by simp)).keep f5 hNb))
    have HR := Lib.hid (r2.there.mono (N' := fun x => (N x ∨ w.heap.size ≤ x) ∧ x < w5.heap.size) (fun x hx => ⟨hx.1, by have := hx.2; omega⟩))
    have HG := Lib.hid (((g3.then0 f4).mono (T := [b]) (by simp)).then f5)
    have H5 := Lib.hid h5
    have HFF := Lib.hid (And.intro f4 f5)
    clear r1 r2 h3 h4 h5 k5 q5 q6 g3 f4 f5 HH e1 e2
    go_wp2_with fail
    refine HB.out.mono ?_
    rintro e w6 ⟨u, rfl, f6, o6⟩
    go_wp2_with fail
    go_ret
    obtain ⟨e1, e2⟩ := HF.out
    rw [e1] at o6
    exact ⟨w5.heap.size, u, a2, cap2, R, rfl, HG.out.then0 f6, f6.keep H5.out (by simp), by have := HG.out.size; omega, ((HR.out.keep HFF.out.1 (by simp)).keep HFF.out.2 (fun x hx hn => hNb x hx hn.1)).keep f6 (by simp), e2, o6⟩
end Go.Proofs.Ytdoamelhclnphaa

namespace Go.Proofs.Ytdoamelhclnphaa
open Go.RowKit
set_option maxRecDepth 100000

theorem take_min (l : List UInt8) (n : Nat) : l.take (min n l.length) = l.take n := by
  by_cases h : n ≤ l.length
  · rw [Nat.min_eq_left h]
  · rw [Nat.min_eq_right (by omega), List.take_length, List.take_of_length_le (by omega)]
theorem drop_min (l : List UInt8) (n : Nat) : l.drop (min n l.length) = l.drop n := by
  by_cases h : n ≤ l.length
  · rw [Nat.min_eq_left h]
  · rw [Nat.min_eq_right (by omega), List.drop_length, List.drop_eq_nil_of_le (by omega)]
theorem NewB.ow {w w' : World} {out : List UInt8} {v : Value} (h : NewB w (bi out) v w') (hm : out.length ≤ 1000000) : Ow w' w.heap.size 5 v ((bi out).map (Value.int .u8)) := by
  rcases h with ⟨h0, rfl⟩ | ⟨N, rfl, hr, hN⟩
  · rw [h0]; exact Ow.nil _ _ _
  · have := Ow.of_row (xs := (bi out).map (Value.int .u8)) (M := w.heap.size) (g := N) (by unfold RowB at hr; rw [hr]) hN (by rw [List.length_map, bi_length]; unfold maxLen; omega)
    rw [List.length_map] at this
    exact this

section
variable {w : World} {N : Nat → Prop} {b k : Nat} {c : Array Value} {t : TypeId} {a : Option Addr} {cap : Nat} {P : Parts} {R D C : Nat} {q : List UInt8}
set_option maxHeartbeats 2000000 in
theorem buf_fill (h : w.heap[b]? = some (.cells c t (0, 0))) (c0 : c[k]? = some (.slice a P.length cap)) (c1 : c[k + 1]? = some (.int .i64 (tot P))) (hr : Rp w N (.agg #[.slice a P.length cap, .int .i64 (tot P)]) P) (hN : ¬ N b) (hk : k = 0 ∨ k = 2) (hg : Rg w R D C (bi q)) (hbR : b ≠ R) (hbD : b ≠ D) (hNR : ¬ N R) (hND : ¬ N D) :
    Calls Try.prog 151 #[(.agg #[.pointer (some ⟨R, 0, none⟩)]), .pointer (some ⟨b, k, none⟩)] w fun e w' => ∃ a' cap' P', e = .returned (.int .i64 (min (C - q.length) (tot P) : Nat)) ∧ Fr [b, R, D] w w' ∧
      w'.heap[b]? = some (.cells ((c.setIfInBounds k (.slice a' (List.length P') cap')).setIfInBounds (k + 1) (.int .i64 (tot P'))) t (0, 0)) ∧
      Rp w' (fun x => N x ∨ w.heap.size ≤ x) (.agg #[.slice a' (List.length P') cap', .int .i64 (tot P')]) P' ∧ P'.flatten = P.flatten.drop (C - q.length) ∧ Rg w' R D C (bi (q ++ P.flatten.take (C - q.length))) := by
  obtain ⟨hq, hC, hC1, hRD, hRl, hDl⟩ := hg.len_le
  rw [bi_length] at hq
  have hbl := lt_of_heap h
  have ht : (tot P : Int) ≤ 65536 := by obtain ⟨_, _, _, _, _, _, _, _, h6⟩ := hr; omega
  obtain ⟨w0, hw0, f0, q0⟩ : ∃ W, w.alloc (.cells #[.pointer (some ⟨R, 0, none⟩)] 162) = W ∧ Fr [] w W ∧ W.heap[w.heap.size]? = some (.cells #[.pointer (some ⟨R, 0, none⟩)] 162 (0, 0)) := ⟨_, rfl, (Fr.refl _ _).alloc _, newA rfl⟩
  have HX := Lib.hid q0
  have HB := Lib.hid (f0.keep h (by simp))
  have HCC := Lib.hid (And.intro c0 c1)
  have HR := Lib.hid (hr.keep f0 (by simp))
  have HG := Lib.hid (hg.keep f0 (by simp) (by simp))
  have HQ : Hid (((bi q).length : Int) = q.length ∧ q.length ≤ C ∧ C ≤ 4096) := Lib.hid ⟨by rw [bi_length], hq, hC⟩
  have HF0 := Lib.hid f0
  have hz0 := lt_of_heap q0
  clear h c0 c1 hr hg q0 f0 hq hC hC1
  go_enter Try.func151, Try.ntmps151
  go_wp2_with fail
  have fd : Fr [] w0 w0.drew := (Fr.refl _ _).drew
  have HEF := Lib.hid (Go.Proofs.enters_of Try.func117 (by kernel_rfl) rfl)
  have HEL := Lib.hid (Go.Proofs.enters_of Try.func57 (by kernel_rfl) rfl)
  have HEC := Lib.hid (Go.Proofs.enters_of Try.func149 (by kernel_rfl) rfl)
  have HFA := Lib.hid fun (w' : World) (f : Fr [] w0 w') => (show w'.cell? ⟨w.heap.size, 0, none⟩ = some (.pointer (some ⟨R, 0, none⟩)) ∧ w'.cell? ⟨b, k, none⟩ = some (.slice a P.length cap) ∧ w'.cell? ⟨b, k + 1, none⟩ = some (.int .i64 (tot P)) from ⟨cell_of (f.keep HX.out (by simp)), (cell_of (f.keep HB.out (by simp))).trans HCC.out.1, (cell_of (f.keep HB.out (by simp))).trans HCC.out.2⟩)
  refine wp_region_late [(0, true), (1, true), (2, true), (4, true), (5, true), (6, true), (3, false), (7, false), (8, true)] [9, 10] (fun w' => Fr [] w0 w') (by kernel_rfl) (by kernel_rfl) fd ?_
  intro OPS HOPS
  have hops := HOPS.out
  try simp only [List.append_eq, List.cons_append, List.nil_append] at hops
  replace HOPS := Lib.hid hops
  clear hops
  refine walkX_take (o := _) (v := ?_) (by rw [HOPS.out]; simp only [List.getElem?_toArray, List.getElem?_cons_succ, List.getElem?_cons_zero]; exact rfl) (Or.inl ⟨rfl, ?_⟩) ?_
  rotate_left
  · (intro w hSw; have hSx := HFA.out _ hSw; (try dsimp only at hSx); clear hSw; go_simp) <;> (with_reducible rfl)
  simp only [Act.put, List.setIfInBounds_toArray, List.set_cons_zero, List.set_cons_succ]
  refine walkX_take (o := _) (v := ?_) (by rw [HOPS.out]; simp only [List.getElem?_toArray, List.getElem?_cons_succ, List.getElem?_cons_zero]; exact rfl) (Or.inl ⟨rfl, ?_⟩) ?_
  rotate_left
  · (intro w hSw; have hSx := HFA.out _ hSw; (try dsimp only at hSx); clear hSw; go_simp) <;> (with_reducible rfl)
  simp only [Act.put, List.setIfInBounds_toArray, List.set_cons_zero, List.set_cons_succ]
  refine walkX_take (o := _) (v := ?_) (by rw [HOPS.out]; simp only [List.getElem?_toArray, List.getElem?_cons_succ, List.getElem?_cons_zero]; exact rfl) (Or.inl ⟨rfl, ?_⟩) ?_
  rotate_left
  · (intro w hSw; have hSx := HFA.out _ hSw; (try dsimp only at hSx); clear hSw; go_simp) <;> (with_reducible rfl)
  simp only [Act.put, List.setIfInBounds_toArray, List.set_cons_zero, List.set_cons_succ]
  refine walkX_take (o := _) (v := ?_) (by rw [HOPS.out]; simp only [List.getElem?_toArray, List.getElem?_cons_succ, List.getElem?_cons_zero]; exact rfl) (Or.inl ⟨rfl, ?_⟩) ?_
  rotate_left
  · (intro w hSw; have hSx := HFA.out _ hSw; (try dsimp only at hSx); clear hSw; go_simp) <;> (with_reducible rfl)
  simp only [Act.put, List.setIfInBounds_toArray, List.set_cons_zero, List.set_cons_succ]
  refine walkX_take (o := _) (v := ?_) (by rw [HOPS.out]; simp only [List.getElem?_toArray, List.getElem?_cons_succ, List.getElem?_cons_zero]; exact rfl) (Or.inl ⟨rfl, ?_⟩) ?_
  rotate_left
  · (intro w hSw; have hSx := HFA.out _ hSw; (try dsimp only at hSx); clear hSw; go_simp) <;> (with_reducible rfl)
  simp only [Act.put, List.setIfInBounds_toArray, List.set_cons_zero, List.set_cons_succ]
  refine walkX_take (o := _) (v := ?_) (by rw [HOPS.out]; simp only [List.getElem?_toArray, List.getElem?_cons_succ, List.getElem?_cons_zero]; exact rfl) (Or.inl ⟨rfl, ?_⟩) ?_
  rotate_left
  · (intro w hSw; have hSx := HFA.out _ hSw; (try dsimp only at hSx); clear hSw; go_simp) <;> (with_reducible rfl)
  simp only [Act.put, List.setIfInBounds_toArray, List.set_cons_zero, List.set_cons_succ]
  refine walkX_call (o := _) (by rw [HOPS.out]; simp only [List.getElem?_toArray, List.getElem?_cons_succ, List.getElem?_cons_zero]; exact rfl) (fun K HK => ?_)
  refine step_call rfl 117 #[(.tmp 8)] #[143] rfl HEF.out #[.pointer (some ⟨R, 0, none⟩)] (by simp [Act.eval]) (rg_free (HG.out.keep fd (by simp) (by simp))) ?_
  rintro e w' ⟨rfl, rfl⟩
  refine ⟨_, rfl, ?_⟩
  refine HK.out (fun w' => Fr [] w0 w') _ _ (fun _ h => h) (fd) ?_
  clear HK K
  simp only [Act.put, List.setIfInBounds_toArray, List.set_cons_zero, List.set_cons_succ]
  refine walkX_call (o := _) (by rw [HOPS.out]; simp only [List.getElem?_toArray, List.getElem?_cons_succ, List.getElem?_cons_zero]; exact rfl) (fun K HK => ?_)
  refine step_call rfl 57 #[(.tmp 12)] #[106] rfl HEL.out #[.agg #[.slice a P.length cap, .int .i64 (tot P)]] (by simp [Act.eval]) (rope_len (HR.out.keep fd (by simp))) ?_
  rintro e w2 ⟨rfl, f2⟩
  have g2 : Fr [] w0 w2 := fd.then0 f2
  refine ⟨_, rfl, ?_⟩
  refine HK.out (fun w' => Fr [] w0 w') _ _ (fun _ h => h) (g2) ?_
  clear HK K
  simp only [Act.put, List.setIfInBounds_toArray, List.set_cons_zero, List.set_cons_succ]
  refine walkX_take (o := _) (v := ?_) (by rw [HOPS.out]; simp only [List.getElem?_toArray, List.getElem?_cons_succ, List.getElem?_cons_zero]; exact rfl) (Or.inl ⟨rfl, ?_⟩) ?_
  rotate_left
  · (intro w hSw; have hSx := HFA.out _ hSw; (try dsimp only at hSx); clear hSw; go_simp) <;> (with_reducible rfl)
  simp only [Act.put, List.setIfInBounds_toArray, List.set_cons_zero, List.set_cons_succ]
  refine walkX_tail ?_
  refine walkTail_step (o := _) (by rw [HOPS.out]; simp only [List.getElem?_toArray, List.getElem?_cons_succ, List.getElem?_cons_zero]; exact rfl) (fun K HK => ?_)
  refine step_call rfl 149 #[(.tmp 6), (.tmp 14)] #[106, 3] rfl HEC.out #[.pointer (some ⟨b, k, none⟩), .int .i64 (min ((C : Int) - (bi q).length) (tot P))] (by simp [Act.eval]) (st_cut (g2.keep HB.out (by simp)) HCC.out.1 HCC.out.2 (HR.out.keep g2 (by simp)) hN hk (by have := HQ.out; omega)) ?_
  rintro e w3 hc
  obtain ⟨Z, u, a', cap', P', rfl, f3, hb3, hZ, hr3, hfl, ou⟩ := hc
  refine ⟨_, rfl, ?_⟩
  refine HK.out _ _ ?_
  clear HK K
  simp only [Act.put, List.setIfInBounds_toArray, List.set_cons_zero, List.set_cons_succ]
  refine walkTail_step (o := _) (by rw [HOPS.out]; simp only [List.getElem?_toArray, List.getElem?_cons_succ, List.getElem?_cons_zero]; exact rfl) (fun K HK => ?_)
  go_simp
  refine HK.out _ _ ?_
  clear HK K
  try simp only [Act.put, List.setIfInBounds_toArray, List.set_cons_zero, List.set_cons_succ]
  refine walkTail_done ?_
  clear HOPS OPS
  have hM : (min ((C : Int) - (bi q).length) (tot P)).toNat = min (C - q.length) (tot P) := by have := HQ.out; omega
  have hpl : P.flatten.length = tot P := rfl
  rw [hM, ← hpl, drop_min] at hfl
  rw [hM, ← hpl, take_min] at ou
  have hw3 : Fr [b] w0 w3 := (g2.mono (T := [b]) (by simp)).then f3
  have g3 := (HF0.out.mono (T := [b]) (by simp)).then hw3
  have hz3 := hw3.size
  have h3 := HG.out.keep hw3 (by simpa using Ne.symm hbR) (by simpa using Ne.symm hbD)
  obtain ⟨ga, gc, rfl, hgc, hgm, hgs, hgn⟩ := ou.formB
  have hlen : (P.flatten.take (C - q.length)).length = min (C - q.length) (tot P) := by rw [List.length_take]; rfl
  have hs2 := g2.size
  have HW := Lib.hid (rg_write (pcap := gc) h3 (bi_length _).symm hgc hgs (fun _ b' o' e => by have := hgn b' o' e; intro hd; omega) (by rw [hlen]; have := HQ.out; omega))
  have HFL := Lib.hid (And.intro hfl hlen)
  have HR3 := Lib.hid (hr3.mono (N' := fun x => N x ∨ w.heap.size ≤ x) (fun x hx => by have h4 := hx.1; have hs := HF0.out.size; rcases h4 with h4 | h4; exact .inl h4; exact .inr (by omega)))
  have HB3 := Lib.hid hb3
  have HX3 := Lib.hid (And.intro (f3.keep (g2.keep HX.out (by simp)) (by simp; omega)) hgn)
  have x3 : w3.cell? ⟨w.heap.size, 0, none⟩ = some (.pointer (some ⟨R, 0, none⟩)) := cell_of HX3.out.1
  have HL := Lib.hid hlen
  have HK := Lib.hid (And.intro hk (And.intro hN (And.intro hNR hND)))
  clear hfl hr3 hb3 hgs hgn ou h3 HR HB hlen hM hpl hk hN hNR hND HFA
  generalize hX : P.flatten.take (C - q.length) = X at *
  have HXX := Lib.hid hX
  clear hX
  go_wp2_with fail
  refine HW.out.mono ?_
  rintro e w4 ⟨rfl, f4, h4⟩
  have hlen := HL.out
  obtain ⟨hk, hN, hNR, hND⟩ := HK.out
  have hmin : min X.length (C - (bi q).length) = X.length := by rw [HFL.out.2, bi_length]; omega
  rw [hmin, ← bi_take, List.take_of_length_le (Nat.le_refl _), ← bi_append] at h4
  have H4 := Lib.hid h4
  rw [hlen]
  clear h4 hmin hlen hk hN hNR hND
  go_wp2_with fail
  go_ret
  obtain ⟨hk, hN, hNR, hND⟩ := HK.out
  refine ⟨a', cap', P', rfl, (g3.mono (T := [b, R, D]) (by simp)).trans f4 (fun _ h => .inl h) (fun x hx => .inl (List.mem_cons_of_mem _ hx)), f4.keep HB3.out (by simp; exact ⟨hbR, hbD⟩), HR3.out.keep f4 (fun x hx => by simp at hx; rcases hx with rfl | rfl; rintro (hn | hn); exact hNR hn; omega; rintro (hn | hn); exact hND hn; omega), HFL.out.1, by rw [HXX.out]; exact H4.out⟩

set_option maxHeartbeats 1000000 in
theorem buf_take (hg : Rg w R D C (bi q)) {most : Int} (h0 : 0 ≤ most) (v : Value) :
    Calls Try.prog 154 #[(.agg #[.pointer (some ⟨R, 0, none⟩)]), .int .i64 most, v] w fun e w' => ∃ u, e = .returned (.tuple #[u, .int .i64 0]) ∧ Fr [R, D] w w' ∧ Ow w' w.heap.size 5 u ((bi (q.take most.toNat)).map (Value.int .u8)) ∧ Rg w' R D C (bi (q.drop most.toNat)) := by
  obtain ⟨hq, hC, hC1, hRD, hRl, hDl⟩ := hg.len_le
  rw [bi_length] at hq
  obtain ⟨w0, hw0, f0, q0⟩ : ∃ W, w.alloc (.cells #[.pointer (some ⟨R, 0, none⟩)] 162) = W ∧ Fr [] w W ∧ W.heap[w.heap.size]? = some (.cells #[.pointer (some ⟨R, 0, none⟩)] 162 (0, 0)) := ⟨_, rfl, (Fr.refl _ _).alloc _, newA rfl⟩
  have HX := Lib.hid q0
  have HG := Lib.hid (hg.keep f0 (by simp) (by simp))
  have HF0 := Lib.hid f0
  have HLT : Hid (w.heap.size ≠ R ∧ w.heap.size ≠ D ∧ (bi q).length ≤ 4096) := Lib.hid ⟨by omega, by omega, by rw [bi_length]; omega⟩
  have hz0 := lt_of_heap q0
  clear hg q0 f0 hC1
  go_enter Try.func154, Try.ntmps154
  go_wp2_with fail
  have fd : Fr [] w0 w0.drew := (Fr.refl _ _).drew
  have HEL := Lib.hid (Go.Proofs.enters_of Try.func101 (by kernel_rfl) rfl)
  have HER := Lib.hid (Go.Proofs.enters_of Try.func102 (by kernel_rfl) rfl)
  refine wp_region_order [(0, true), (1, true), (2, true), (3, true), (4, true), (5, false), (6, true), (7, false), (8, true), (9, true), (10, true), (11, true), (12, true)] (fun w' => w'.cell? ⟨w.heap.size, 0, none⟩ = some (.pointer (some ⟨R, 0, none⟩))) (by kernel_rfl) (by kernel_rfl) (cell_of (fd.keep HX.out (by simp))) ?_
  intro OPS HOPS
  have hops := HOPS.out
  try simp only [List.append_eq, List.cons_append, List.nil_append] at hops
  replace HOPS := Lib.hid hops
  clear hops
  refine walkO_take (o := _) (v := ?_) (by rw [HOPS.out]; simp only [List.getElem?_toArray, List.getElem?_cons_succ, List.getElem?_cons_zero]; exact rfl) (Or.inl ⟨rfl, ?_⟩) ?_
  rotate_left
  · (intro w hSw; (try dsimp only at hSw); go_simp) <;> (with_reducible rfl)
  simp only [Act.put, List.setIfInBounds_toArray, List.set_cons_zero, List.set_cons_succ]
  refine walkO_take (o := _) (v := ?_) (by rw [HOPS.out]; simp only [List.getElem?_toArray, List.getElem?_cons_succ, List.getElem?_cons_zero]; exact rfl) (Or.inl ⟨rfl, ?_⟩) ?_
  rotate_left
  · (intro w hSw; (try dsimp only at hSw); go_simp) <;> (with_reducible rfl)
  simp only [Act.put, List.setIfInBounds_toArray, List.set_cons_zero, List.set_cons_succ]
  refine walkO_take (o := _) (v := ?_) (by rw [HOPS.out]; simp only [List.getElem?_toArray, List.getElem?_cons_succ, List.getElem?_cons_zero]; exact rfl) (Or.inl ⟨rfl, ?_⟩) ?_
  rotate_left
  · (intro w hSw; (try dsimp only at hSw); go_simp) <;> (with_reducible rfl)
  simp only [Act.put, List.setIfInBounds_toArray, List.set_cons_zero, List.set_cons_succ]
  refine walkO_take (o := _) (v := ?_) (by rw [HOPS.out]; simp only [List.getElem?_toArray, List.getElem?_cons_succ, List.getElem?_cons_zero]; exact rfl) (Or.inl ⟨rfl, ?_⟩) ?_
  rotate_left
  · (intro w hSw; (try dsimp only at hSw); go_simp) <;> (with_reducible rfl)
  simp only [Act.put, List.setIfInBounds_toArray, List.set_cons_zero, List.set_cons_succ]
  refine walkO_take (o := _) (v := ?_) (by rw [HOPS.out]; simp only [List.getElem?_toArray, List.getElem?_cons_succ, List.getElem?_cons_zero]; exact rfl) (Or.inl ⟨rfl, ?_⟩) ?_
  rotate_left
  · (intro w hSw; (try dsimp only at hSw); go_simp) <;> (with_reducible rfl)
  simp only [Act.put, List.setIfInBounds_toArray, List.set_cons_zero, List.set_cons_succ]
  refine walkO_call (o := _) (by rw [HOPS.out]; simp only [List.getElem?_toArray, List.getElem?_cons_succ, List.getElem?_cons_zero]; exact rfl) (fun K HK => ?_)
  refine step_call rfl 101 #[(.tmp 15)] #[143] rfl HEL.out #[.pointer (some ⟨R, 0, none⟩)] (by simp [Act.eval]) (rg_len (HG.out.keep fd (by simp) (by simp))) ?_
  rintro e w' ⟨rfl, rfl⟩
  refine ⟨_, rfl, ?_⟩
  refine HK.out (fun w' => w'.cell? ⟨w.heap.size, 0, none⟩ = some (.pointer (some ⟨R, 0, none⟩))) _ _ (fun _ h => h) (cell_of (fd.keep HX.out (by simp))) ?_
  clear HK K
  simp only [Act.put, List.setIfInBounds_toArray, List.set_cons_zero, List.set_cons_succ]
  refine walkO_take (o := _) (v := ?_) (by rw [HOPS.out]; simp only [List.getElem?_toArray, List.getElem?_cons_succ, List.getElem?_cons_zero]; exact rfl) (Or.inl ⟨rfl, ?_⟩) ?_
  rotate_left
  · (intro w hSw; (try dsimp only at hSw); go_simp) <;> (with_reducible rfl)
  simp only [Act.put, List.setIfInBounds_toArray, List.set_cons_zero, List.set_cons_succ]
  refine walkO_call (o := _) (by rw [HOPS.out]; simp only [List.getElem?_toArray, List.getElem?_cons_succ, List.getElem?_cons_zero]; exact rfl) (fun K HK => ?_)
  refine step_call rfl 102 #[(.tmp 12), (.tmp 17)] #[143, 3] rfl HER.out #[.pointer (some ⟨R, 0, none⟩), .int .i64 (min most ((bi q).length : Nat))] (by simp [Act.eval]) (rg_read (HG.out.keep fd (by simp) (by simp)) (by omega)) ?_
  rintro e w2 ⟨u, rfl, f2, hu, hg2⟩
  have hx2 := f2.keep (fd.keep HX.out (by simp)) (by have := HLT.out; simp; omega)
  refine ⟨_, rfl, ?_⟩
  refine HK.out (fun w' => w'.cell? ⟨w.heap.size, 0, none⟩ = some (.pointer (some ⟨R, 0, none⟩))) _ _ (fun _ h => h) (cell_of hx2) ?_
  clear HK K
  simp only [Act.put, List.setIfInBounds_toArray, List.set_cons_zero, List.set_cons_succ]
  refine walkO_take (o := _) (v := ?_) (by rw [HOPS.out]; simp only [List.getElem?_toArray, List.getElem?_cons_succ, List.getElem?_cons_zero]; exact rfl) (Or.inl ⟨rfl, ?_⟩) ?_
  rotate_left
  · (intro w hSw; (try dsimp only at hSw); go_simp) <;> (with_reducible rfl)
  simp only [Act.put, List.setIfInBounds_toArray, List.set_cons_zero, List.set_cons_succ]
  refine walkO_take (o := _) (v := ?_) (by rw [HOPS.out]; simp only [List.getElem?_toArray, List.getElem?_cons_succ, List.getElem?_cons_zero]; exact rfl) (Or.inl ⟨rfl, ?_⟩) ?_
  rotate_left
  · (intro w hSw; (try dsimp only at hSw); go_simp) <;> (with_reducible rfl)
  simp only [Act.put, List.setIfInBounds_toArray, List.set_cons_zero, List.set_cons_succ]
  refine walkO_take (o := _) (v := ?_) (by rw [HOPS.out]; simp only [List.getElem?_toArray, List.getElem?_cons_succ, List.getElem?_cons_zero]; exact rfl) (Or.inl ⟨rfl, ?_⟩) ?_
  rotate_left
  · (intro w hSw; (try dsimp only at hSw); go_simp) <;> (with_reducible rfl)
  simp only [Act.put, List.setIfInBounds_toArray, List.set_cons_zero, List.set_cons_succ]
  refine walkO_take (o := _) (v := ?_) (by rw [HOPS.out]; simp only [List.getElem?_toArray, List.getElem?_cons_succ, List.getElem?_cons_zero]; exact rfl) (Or.inl ⟨rfl, ?_⟩) ?_
  rotate_left
  · (intro w hSw; (try dsimp only at hSw); go_simp) <;> (with_reducible rfl)
  simp only [Act.put, List.setIfInBounds_toArray, List.set_cons_zero, List.set_cons_succ]
  refine walkO_take (o := _) (v := ?_) (by rw [HOPS.out]; simp only [List.getElem?_toArray, List.getElem?_cons_succ, List.getElem?_cons_zero]; exact rfl) (Or.inl ⟨rfl, ?_⟩) ?_
  rotate_left
  · (intro w hSw; (try dsimp only at hSw); go_simp) <;> (with_reducible rfl)
  simp only [Act.put, List.setIfInBounds_toArray, List.set_cons_zero, List.set_cons_succ]
  refine walkO_done ?_
  clear HOPS OPS
  have hm : (min most ((bi q).length : Nat)).toNat = min most.toNat q.length := by rw [bi_length]; omega
  rw [hm, ← bi_take, take_min] at hu
  rw [hm, ← bi_drop, drop_min] at hg2
  have HU := Lib.hid (hu.ow (by rw [List.length_take]; omega))
  have HG2 := Lib.hid hg2
  have HF := Lib.hid (HF0.out.trans (U := [R, D]) (fd.then0 (Fr.refl [] _)) (by simp) (by simp))
  have HF2 := Lib.hid (HF.out.then f2)
  have hs0 := HF0.out.size
  obtain ⟨ga, gc, rfl, _⟩ := HU.out.formB
  clear hu hg2 hx2
  go_wp2_with fail
  go_ret2
  exact ⟨_, rfl, HF2.out, HU.out.mono (by have : w0.drew.heap.size = w0.heap.size := rfl; omega), HG2.out⟩

set_option maxHeartbeats 1000000 in
theorem buf_held (hg : Rg w R D C (bi q)) :
    Calls Try.prog 152 #[(.agg #[.pointer (some ⟨R, 0, none⟩)])] w fun e w' => ∃ u, e = .returned u ∧ Fr [] w w' ∧ Ow w' w.heap.size 5 u ((bi q).map (Value.int .u8)) := by
  obtain ⟨hq, hC, hC1, hRD, hRl, hDl⟩ := hg.len_le
  rw [bi_length] at hq
  obtain ⟨w0, hw0, f0, q0⟩ : ∃ W, w.alloc (.cells #[.pointer (some ⟨R, 0, none⟩)] 162) = W ∧ Fr [] w W ∧ W.heap[w.heap.size]? = some (.cells #[.pointer (some ⟨R, 0, none⟩)] 162 (0, 0)) := ⟨_, rfl, (Fr.refl _ _).alloc _, newA rfl⟩
  have HX := Lib.hid q0
  have HG := Lib.hid (hg.keep f0 (by simp) (by simp))
  have HF0 := Lib.hid f0
  have hz0 := lt_of_heap q0
  clear hg q0 f0 hC1
  go_enter Try.func152, Try.ntmps152
  go_wp2_with fail
  have fd : Fr [] w0 w0.drew := (Fr.refl _ _).drew
  have HEL := Lib.hid (Go.Proofs.enters_of Try.func101 (by kernel_rfl) rfl)
  have HEP := Lib.hid (Go.Proofs.enters_of Try.func122 (by kernel_rfl) rfl)
  refine wp_region_order [(0, true), (1, true), (2, true), (3, true), (4, false), (5, false), (6, true), (7, true), (8, true), (9, true), (10, true)] (fun w' => w'.cell? ⟨w.heap.size, 0, none⟩ = some (.pointer (some ⟨R, 0, none⟩))) (by kernel_rfl) (by kernel_rfl) (cell_of (fd.keep HX.out (by simp))) ?_
  intro OPS HOPS
  have hops := HOPS.out
  try simp only [List.append_eq, List.cons_append, List.nil_append] at hops
  replace HOPS := Lib.hid hops
  clear hops
  refine walkO_take (o := _) (v := ?_) (by rw [HOPS.out]; simp only [List.getElem?_toArray, List.getElem?_cons_succ, List.getElem?_cons_zero]; exact rfl) (Or.inl ⟨rfl, ?_⟩) ?_
  rotate_left
  · (intro w hSw; (try dsimp only at hSw); go_simp) <;> (with_reducible rfl)
  simp only [Act.put, List.setIfInBounds_toArray, List.set_cons_zero, List.set_cons_succ]
  refine walkO_take (o := _) (v := ?_) (by rw [HOPS.out]; simp only [List.getElem?_toArray, List.getElem?_cons_succ, List.getElem?_cons_zero]; exact rfl) (Or.inl ⟨rfl, ?_⟩) ?_
  rotate_left
  · (intro w hSw; (try dsimp only at hSw); go_simp) <;> (with_reducible rfl)
  simp only [Act.put, List.setIfInBounds_toArray, List.set_cons_zero, List.set_cons_succ]
  refine walkO_take (o := _) (v := ?_) (by rw [HOPS.out]; simp only [List.getElem?_toArray, List.getElem?_cons_succ, List.getElem?_cons_zero]; exact rfl) (Or.inl ⟨rfl, ?_⟩) ?_
  rotate_left
  · (intro w hSw; (try dsimp only at hSw); go_simp) <;> (with_reducible rfl)
  simp only [Act.put, List.setIfInBounds_toArray, List.set_cons_zero, List.set_cons_succ]
  refine walkO_take (o := _) (v := ?_) (by rw [HOPS.out]; simp only [List.getElem?_toArray, List.getElem?_cons_succ, List.getElem?_cons_zero]; exact rfl) (Or.inl ⟨rfl, ?_⟩) ?_
  rotate_left
  · (intro w hSw; (try dsimp only at hSw); go_simp) <;> (with_reducible rfl)
  simp only [Act.put, List.setIfInBounds_toArray, List.set_cons_zero, List.set_cons_succ]
  refine walkO_call (o := _) (by rw [HOPS.out]; simp only [List.getElem?_toArray, List.getElem?_cons_succ, List.getElem?_cons_zero]; exact rfl) (fun K HK => ?_)
  refine step_call rfl 101 #[(.tmp 9)] #[143] rfl HEL.out #[.pointer (some ⟨R, 0, none⟩)] (by simp [Act.eval]) (rg_len (HG.out.keep fd (by simp) (by simp))) ?_
  rintro e w' ⟨rfl, rfl⟩
  refine ⟨_, rfl, ?_⟩
  refine HK.out (fun w' => w'.cell? ⟨w.heap.size, 0, none⟩ = some (.pointer (some ⟨R, 0, none⟩))) _ _ (fun _ h => h) (cell_of (fd.keep HX.out (by simp))) ?_
  clear HK K
  simp only [Act.put, List.setIfInBounds_toArray, List.set_cons_zero, List.set_cons_succ]
  refine walkO_call (o := _) (by rw [HOPS.out]; simp only [List.getElem?_toArray, List.getElem?_cons_succ, List.getElem?_cons_zero]; exact rfl) (fun K HK => ?_)
  refine step_call rfl 122 #[(.tmp 7), (Operand.const (Value.int IntKind.i64 0)), (.tmp 10)] #[143, 3, 3] rfl HEP.out #[.pointer (some ⟨R, 0, none⟩), .int .i64 0, .int .i64 ((bi q).length : Nat)] (by simp [Act.eval]) (rg_peek (HG.out.keep fd (by simp) (by simp)) (Int.le_refl 0) (by omega)) ?_
  rintro e w2 ⟨u, rfl, f2, hu⟩
  have hx2 := f2.keep (fd.keep HX.out (by simp)) (by simp)
  refine ⟨_, rfl, ?_⟩
  refine HK.out (fun w' => w'.cell? ⟨w.heap.size, 0, none⟩ = some (.pointer (some ⟨R, 0, none⟩))) _ _ (fun _ h => h) (cell_of hx2) ?_
  clear HK K
  simp only [Act.put, List.setIfInBounds_toArray, List.set_cons_zero, List.set_cons_succ]
  refine walkO_take (o := _) (v := ?_) (by rw [HOPS.out]; simp only [List.getElem?_toArray, List.getElem?_cons_succ, List.getElem?_cons_zero]; exact rfl) (Or.inl ⟨rfl, ?_⟩) ?_
  rotate_left
  · (intro w hSw; (try dsimp only at hSw); go_simp) <;> (with_reducible rfl)
  simp only [Act.put, List.setIfInBounds_toArray, List.set_cons_zero, List.set_cons_succ]
  refine walkO_take (o := _) (v := ?_) (by rw [HOPS.out]; simp only [List.getElem?_toArray, List.getElem?_cons_succ, List.getElem?_cons_zero]; exact rfl) (Or.inl ⟨rfl, ?_⟩) ?_
  rotate_left
  · (intro w hSw; (try dsimp only at hSw); go_simp) <;> (with_reducible rfl)
  simp only [Act.put, List.setIfInBounds_toArray, List.set_cons_zero, List.set_cons_succ]
  refine walkO_take (o := _) (v := ?_) (by rw [HOPS.out]; simp only [List.getElem?_toArray, List.getElem?_cons_succ, List.getElem?_cons_zero]; exact rfl) (Or.inl ⟨rfl, ?_⟩) ?_
  rotate_left
  · (intro w hSw; (try dsimp only at hSw); go_simp) <;> (with_reducible rfl)
  simp only [Act.put, List.setIfInBounds_toArray, List.set_cons_zero, List.set_cons_succ]
  refine walkO_take (o := _) (v := ?_) (by rw [HOPS.out]; simp only [List.getElem?_toArray, List.getElem?_cons_succ, List.getElem?_cons_zero]; exact rfl) (Or.inl ⟨rfl, ?_⟩) ?_
  rotate_left
  · (intro w hSw; (try dsimp only at hSw); go_simp) <;> (with_reducible rfl)
  simp only [Act.put, List.setIfInBounds_toArray, List.set_cons_zero, List.set_cons_succ]
  refine walkO_take (o := _) (v := ?_) (by rw [HOPS.out]; simp only [List.getElem?_toArray, List.getElem?_cons_succ, List.getElem?_cons_zero]; exact rfl) (Or.inl ⟨rfl, ?_⟩) ?_
  rotate_left
  · (intro w hSw; (try dsimp only at hSw); go_simp) <;> (with_reducible rfl)
  simp only [Act.put, List.setIfInBounds_toArray, List.set_cons_zero, List.set_cons_succ]
  refine walkO_done ?_
  clear HOPS OPS
  rw [Int.toNat_natCast, show (0 : Int).toNat = 0 from rfl, List.drop_zero, List.take_of_length_le (Nat.le_refl _)] at hu
  have HU := Lib.hid (hu.ow (by omega))
  have HF2 := Lib.hid ((HF0.out.then0 fd).then0 f2)
  have hs0 := HF0.out.size
  obtain ⟨ga, gc, rfl, _⟩ := HU.out.formB
  clear hu hx2
  go_wp2_with fail
  go_ret
  exact ⟨_, rfl, HF2.out, HU.out.mono (by have : w0.drew.heap.size = w0.heap.size := rfl; omega)⟩
theorem buf_room (hg : Rg w R D C (bi q)) :
    Calls Try.prog 153 #[(.agg #[.pointer (some ⟨R, 0, none⟩)])] w fun e w' => e = .returned (.int .i64 C) ∧ Fr [] w w' := by
  obtain ⟨w0, hw0, f0, q0⟩ : ∃ W, w.alloc (.cells #[.pointer (some ⟨R, 0, none⟩)] 162) = W ∧ Fr [] w W ∧ W.heap[w.heap.size]? = some (.cells #[.pointer (some ⟨R, 0, none⟩)] 162 (0, 0)) := ⟨_, rfl, (Fr.refl _ _).alloc _, newA rfl⟩
  have x0 : w0.cell? ⟨w.heap.size, 0, none⟩ = some (.pointer (some ⟨R, 0, none⟩)) := cell_of q0
  have HC := Lib.hid (rg_cap (hg.keep f0 (by simp) (by simp)))
  clear hg q0
  go_enter Try.func153, Try.ntmps153
  go_wp2_with fail
  refine HC.out.mono ?_
  rintro e w' ⟨rfl, rfl⟩
  go_wp2_with fail
  go_ret
  exact ⟨rfl, f0⟩
theorem buf_again (hg : Rg w R D C (bi q)) :
    Calls Try.prog 150 #[(.agg #[.pointer (some ⟨R, 0, none⟩)])] w fun e w' => ∃ R' D', e = .returned (.iface 162 (.agg #[.pointer (some ⟨R', 0, none⟩)])) ∧ Fr [] w w' ∧ w.heap.size ≤ R' ∧ w.heap.size ≤ D' ∧ Rg w' R' D' C (bi q) := by
  obtain ⟨w0, hw0, f0, q0⟩ : ∃ W, w.alloc (.cells #[.pointer (some ⟨R, 0, none⟩)] 162) = W ∧ Fr [] w W ∧ W.heap[w.heap.size]? = some (.cells #[.pointer (some ⟨R, 0, none⟩)] 162 (0, 0)) := ⟨_, rfl, (Fr.refl _ _).alloc _, newA rfl⟩
  have x0 : w0.cell? ⟨w.heap.size, 0, none⟩ = some (.pointer (some ⟨R, 0, none⟩)) := cell_of q0
  have HC := Lib.hid (rg_copy (hg.keep f0 (by simp) (by simp)))
  have hs0 := f0.size
  clear hg q0
  go_enter Try.func150, Try.ntmps150
  go_wp2_with fail
  refine HC.out.mono ?_
  rintro e w2 ⟨R', D', rfl, f2, hR', hD', hg2⟩
  go_wp2_with fail
  go_ret
  exact ⟨R', D', rfl, f0.then0 f2, by omega, by omega, hg2⟩

theorem dir_fill (v : Value) : Calls Try.prog 145 #[.agg #[], v] w fun e w' => e = .returned (.int .i64 0) ∧ Fr [] w w' := by
  go_enter Try.func145, Try.ntmps145
  go_wp2_with fail
  go_ret
  exact ⟨rfl, (Fr.refl _ _).alloc _⟩
theorem dir_held : Calls Try.prog 146 #[.agg #[]] w fun e w' => e = .returned (.slice none 0 0) ∧ Fr [] w w' := by
  go_enter Try.func146, Try.ntmps146
  go_wp2_with fail
  go_ret
  exact ⟨rfl, (Fr.refl _ _).alloc _⟩
theorem dir_room : Calls Try.prog 147 #[.agg #[]] w fun e w' => e = .returned (.int .i64 0) ∧ Fr [] w w' := by
  go_enter Try.func147, Try.ntmps147
  go_wp2_with fail
  go_ret
  exact ⟨rfl, (Fr.refl _ _).alloc _⟩
theorem dir_again : Calls Try.prog 144 #[.agg #[]] w fun e w' => e = .returned (.iface 160 (.agg #[])) ∧ Fr [] w w' := by
  go_enter Try.func144, Try.ntmps144
  go_wp2_with fail
  go_ret
  exact ⟨rfl, (Fr.refl _ _).alloc _⟩
set_option maxHeartbeats 1000000 in
theorem dir_take (h : w.heap[b]? = some (.cells c t (0, 0))) (c0 : c[k]? = some (.slice a P.length cap)) (c1 : c[k + 1]? = some (.int .i64 (tot P))) (hr : Rp w N (.agg #[.slice a P.length cap, .int .i64 (tot P)]) P) (hN : ¬ N b) (hk : k = 0 ∨ k = 2) {most : Int} (h0 : 0 ≤ most) :
    Calls Try.prog 148 #[.agg #[], .int .i64 most, .pointer (some ⟨b, k, none⟩)] w fun e w' => ∃ Z u a' cap' P', e = .returned (.tuple #[u, .int .i64 (min most.toNat (tot P) : Nat)]) ∧ Fr [b] w w' ∧
      w'.heap[b]? = some (.cells ((c.setIfInBounds k (.slice a' (List.length P') cap')).setIfInBounds (k + 1) (.int .i64 (tot P'))) t (0, 0)) ∧ w.heap.size ≤ Z ∧
      Rp w' (fun x => (N x ∨ w.heap.size ≤ x) ∧ x < Z) (.agg #[.slice a' (List.length P') cap', .int .i64 (tot P')]) P' ∧ P'.flatten = P.flatten.drop most.toNat ∧ Ow w' Z 5 u ((bi (P.flatten.take most.toNat)).map (Value.int .u8)) := by
  have hbl := lt_of_heap h
  have ht : (tot P : Int) ≤ 65536 := by obtain ⟨_, _, _, _, _, _, _, _, h6⟩ := hr; omega
  obtain ⟨w0, hw0, f0⟩ : ∃ W, w.alloc (.cells #[] 160) = W ∧ Fr [] w W := ⟨_, rfl, (Fr.refl _ _).alloc _⟩
  have HB := Lib.hid (f0.keep h (by simp))
  have x0 : w0.cell? ⟨b, k, none⟩ = some (.slice a P.length cap) := (cell_of HB.out).trans c0
  have x1 : w0.cell? ⟨b, k + 1, none⟩ = some (.int .i64 (tot P)) := (cell_of HB.out).trans c1
  have HL := Lib.hid (rope_len (hr.keep f0 (by simp)))
  have HC := Lib.hid fun (w1 : World) (f : Fr [] w0 w1) => st_cut (m := min most (tot P)) (f.keep HB.out (by simp)) c0 c1 ((hr.keep f0 (by simp)).keep f (by simp)) hN hk (by omega)
  have hs0 := f0.size
  clear h c0 c1 hr
  go_enter Try.func148, Try.ntmps148
  go_wp2_with fail
  refine HL.out.mono ?_
  rintro e w1 ⟨rfl, f1⟩
  clear x0 x1
  go_wp2_with fail
  refine (HC.out _ f1).mono ?_
  rintro e w2 ⟨Z, u, a', cap', P', rfl, f2, hb2, hZ, hr2, hfl, ou⟩
  have hm : (min most (tot P : Int)).toNat = min most.toNat (tot P) := by omega
  have hpl : P.flatten.length = tot P := rfl
  rw [hm, ← hpl, drop_min] at hfl
  rw [hm, ← hpl, take_min] at ou
  have hs1 := f1.size
  obtain ⟨ga, gc, rfl, _⟩ := ou.formB
  have hlen : (P.flatten.take most.toNat).length = min most.toNat (tot P) := by rw [List.length_take]; rfl
  have HH := Lib.hid (And.intro hb2 (And.intro hr2 (And.intro hfl ou)))
  clear hb2 hr2 hfl ou HC
  go_wp2_with fail
  go_ret2
  obtain ⟨hb2, hr2, hfl, ou⟩ := HH.out
  rw [hlen] at ou
  exact ⟨Z, _, a', cap', P', rfl, ((f0.then0 f1).mono (T := [b]) (by simp)).then f2, hb2, by omega, hr2.mono (fun x hx => ⟨by rcases hx.1 with h4 | h4; exact .inl h4; exact .inr (by omega), hx.2⟩), hfl, ou⟩
end
end Go.Proofs.Ytdoamelhclnphaa

namespace Go.Proofs.Ytdoamelhclnphaa
open Go.RowKit
set_option maxRecDepth 100000

theorem mb_fill (v : Value) (w : World) : (method (Try.prog.types.size + Made.depth) 162 (.agg #[v]) "aqueduct/stream.fill").run Try.prog w = .ok (151, .agg #[v]) w := by kernel_rfl
theorem md_fill (w : World) : (method (Try.prog.types.size + Made.depth) 160 (.agg #[]) "aqueduct/stream.fill").run Try.prog w = .ok (145, .agg #[]) w := by kernel_rfl
theorem mb_take (v : Value) (w : World) : (method (Try.prog.types.size + Made.depth) 162 (.agg #[v]) "aqueduct/stream.take").run Try.prog w = .ok (154, .agg #[v]) w := by kernel_rfl
theorem md_take (w : World) : (method (Try.prog.types.size + Made.depth) 160 (.agg #[]) "aqueduct/stream.take").run Try.prog w = .ok (148, .agg #[]) w := by kernel_rfl
theorem mb_held (v : Value) (w : World) : (method (Try.prog.types.size + Made.depth) 162 (.agg #[v]) "aqueduct/stream.held").run Try.prog w = .ok (152, .agg #[v]) w := by kernel_rfl
theorem md_held (w : World) : (method (Try.prog.types.size + Made.depth) 160 (.agg #[]) "aqueduct/stream.held").run Try.prog w = .ok (146, .agg #[]) w := by kernel_rfl
theorem mb_room (v : Value) (w : World) : (method (Try.prog.types.size + Made.depth) 162 (.agg #[v]) "aqueduct/stream.room").run Try.prog w = .ok (153, .agg #[v]) w := by kernel_rfl
theorem md_room (w : World) : (method (Try.prog.types.size + Made.depth) 160 (.agg #[]) "aqueduct/stream.room").run Try.prog w = .ok (147, .agg #[]) w := by kernel_rfl
theorem mb_again (v : Value) (w : World) : (method (Try.prog.types.size + Made.depth) 162 (.agg #[v]) "aqueduct/stream.again").run Try.prog w = .ok (150, .agg #[v]) w := by kernel_rfl
theorem md_again (w : World) : (method (Try.prog.types.size + Made.depth) 160 (.agg #[]) "aqueduct/stream.again").run Try.prog w = .ok (144, .agg #[]) w := by kernel_rfl

/-- A call of a method of an interface value, by the contract of what it comes to. -/
def Invokes (sv : Value) (name : String) (args : Array Value) (w : World) (R : Ending → World → Prop) : Prop :=
  ∃ t v f rv, sv = .iface t v ∧ (∀ w, (method (Try.prog.types.size + Made.depth) t v name).run Try.prog w = .ok (f, rv) w) ∧ (∀ args w, (callFunc f args).run Try.prog w = .ok (.enter f args) w) ∧ Calls Try.prog f (#[rv] ++ args) w R
section
variable {ops : Array Oper} {o : Oper} {a : Act} {w : World} {K : Act → World → Prop} {Q : Exit → Act → World → Prop} {E : Prop}
theorem step_invoke (hw : Region.wanted o (yielded ops a.tmps) = true) (name : String) (recv : Operand) (args : Array Operand) (ts : Array TypeId)
    (hop : o.op = .call { callee := .invoke recv name, args := args, argTypes := ts }) (sv : Value) (hr : a.eval recv = sv)
    (vs : Array Value) (hv : args.map a.eval = vs) {R : Ending → World → Prop} (hc : Invokes sv name vs w R) (hk : ∀ e w', R e w' → ∃ v, e = .returned v ∧ K (a.put o.dst v) w') :
    if Region.wanted o (yielded ops a.tmps) = true then Oper.wp Try.prog o a w K Q else E := by
  rw [if_pos hw]
  obtain ⟨t, v, f, rv, rfl, hm, he, hc⟩ := hc
  subst hv
  unfold Oper.wp
  have hrun : (execOp a.eval o).run Try.prog w = .ok (.enter f (#[rv] ++ args.map a.eval)) w := by
    have hx : ((#[Value.iface t v] ++ args.map a.eval).extract 1 (#[Value.iface t v] ++ args.map a.eval).size) = args.map a.eval := by
      apply Array.ext'
      simp
      exact List.take_of_length_le (by simp)
    have h0 : (#[Value.iface t v] ++ args.map a.eval)[0]? = some (.iface t v) := by
      rw [Array.getElem?_append_left (by simp)]
      rfl
    have hm' := hm w
    simp [go_sem] at hm'
    simp only [execOp, hop, resolve, invoke, Sem.run_bind, Sem.run_pure, Result.andThen_ok, hr, h0, hx]
    simp [callMethod, go_sem, hm', he]
  rw [hrun, Oper.upon_enter]
  refine hc.mono fun e w' hr => ?_
  obtain ⟨v, rfl, h⟩ := hk e w' hr
  exact h
end

/-- The store of a stream. -/
def Sto (w : World) (L : List Nat) (v : Value) (c : Int) (q : List UInt8) : Prop :=
  (c = 0 ∧ q = [] ∧ L = [] ∧ v = .iface 160 (.agg #[])) ∨
    ∃ R D, R ∈ L ∧ D ∈ L ∧ (∀ x ∈ L, x = R ∨ x = D) ∧ 1 ≤ c ∧ v = .iface 162 (.agg #[.pointer (some ⟨R, 0, none⟩)]) ∧ Rg w R D c.toNat (bi q)
theorem Sto.keep {w w' : World} {L : List Nat} {v : Value} {c : Int} {q : List UInt8} (h : Sto w L v c q) {S : List Nat} (hf : Fr S w w') (hS : ∀ x ∈ L, x ∉ S) : Sto w' L v c q :=
  h.imp id fun ⟨R, D, h1, h2, h3, h4, h5, h6⟩ => ⟨R, D, h1, h2, h3, h4, h5, h6.keep hf (hS R h1) (hS D h2)⟩
theorem Sto.bd {w : World} {L : List Nat} {v : Value} {c : Int} {q : List UInt8} (h : Sto w L v c q) : 0 ≤ c ∧ c ≤ 4096 ∧ (q.length : Int) ≤ c := by
  rcases h with ⟨rfl, rfl, _, _⟩ | ⟨R, D, _, _, _, h4, _, h6⟩
  · simp
  · obtain ⟨h1, h2, _⟩ := h6.len_le
    rw [bi_length] at h1
    omega

/-- A stream's own block. -/
def StB (w : World) (b : Nat) (sv : Value) (busy : Bool) (a : Option Addr) (len cap : Nat) (n acc x y : Int) : Prop :=
  w.heap[b]? = some (.cells #[sv, .bool busy, .slice a len cap, .int .i64 n, .int .i64 acc, .int .i64 x, .int .i64 y] 78 (0, 0))
structure StC (w : World) (b : Nat) (sv : Value) (busy : Bool) (a : Option Addr) (len cap : Nat) (n acc x y : Int) : Prop where
  c0 : w.cell? ⟨b, 0, none⟩ = some sv
  c1 : w.cell? ⟨b, 1, none⟩ = some (.bool busy)
  c2 : w.cell? ⟨b, 2, none⟩ = some (.slice a len cap)
  c3 : w.cell? ⟨b, 3, none⟩ = some (.int .i64 n)
  c4 : w.cell? ⟨b, 4, none⟩ = some (.int .i64 acc)
  c5 : w.cell? ⟨b, 5, none⟩ = some (.int .i64 x)
  c6 : w.cell? ⟨b, 6, none⟩ = some (.int .i64 y)
theorem StB.cells {w : World} {b : Nat} {sv : Value} {busy : Bool} {a : Option Addr} {len cap : Nat} {n acc x y : Int} (h : StB w b sv busy a len cap n acc x y) : StC w b sv busy a len cap n acc x y :=
  ⟨cell_of h, cell_of h, cell_of h, cell_of h, cell_of h, cell_of h, cell_of h⟩
theorem StB.free {w : World} {b : Nat} {sv : Value} {busy : Bool} {a : Option Addr} {len cap : Nat} {n acc x y : Int} (h : StB w b sv busy a len cap n acc x y) (i : Nat) : w.frozen? ⟨b, i, none⟩ = false := free_of h

/-- A stream at block b that holds m; the blocks of its ring are those of L; the parts of its rest lie where N allows. -/
structure StR (w : World) (N : Nat → Prop) (L : List Nat) (b : Nat) (m : SM) (sv : Value) (a : Option Addr) (cap : Nat) (P : Parts) : Prop where
  k : StB w b sv m.busy a P.length cap (tot P) m.acc m.w m.r
  s : Sto w L sv m.c m.q
  p : Rp w N (.agg #[.slice a P.length cap, .int .i64 (tot P)]) P
  e : P.flatten = m.rest
  nb : ¬ N b
  nl : ∀ x ∈ L, ¬ N x
  bl : b ∉ L
def St (w : World) (N : Nat → Prop) (L : List Nat) (b : Nat) (m : SM) : Prop := SOk m ∧ ∃ sv a cap P, StR w N L b m sv a cap P
section
variable {w : World} {N : Nat → Prop} {L : List Nat} {b : Nat} {m : SM} {sv : Value} {a : Option Addr} {cap : Nat} {P : Parts}
theorem StR.keep {w' : World} (h : StR w N L b m sv a cap P) {S : List Nat} (hf : Fr S w w') (hb : b ∉ S) (hL : ∀ x ∈ L, x ∉ S) (hS : ∀ x ∈ S, ¬ N x) : StR w' N L b m sv a cap P :=
  ⟨hf.keep h.k hb, h.s.keep hf hL, h.p.keep hf hS, h.e, h.nb, h.nl, h.bl⟩
theorem StR.keep0 {w' : World} (h : StR w N L b m sv a cap P) (hf : Fr [] w w') : StR w' N L b m sv a cap P := h.keep hf (by simp) (by simp) (by simp)
theorem St.keep {w' : World} (h : St w N L b m) {S : List Nat} (hf : Fr S w w') (hb : b ∉ S) (hL : ∀ x ∈ L, x ∉ S) (hS : ∀ x ∈ S, ¬ N x) : St w' N L b m := by
  obtain ⟨h0, sv, a, cap, P, h1⟩ := h
  exact ⟨h0, sv, a, cap, P, h1.keep hf hb hL hS⟩
theorem St.keep0 {w' : World} (h : St w N L b m) (hf : Fr [] w w') : St w' N L b m := h.keep hf (by simp) (by simp) (by simp)
theorem St.lt (h : St w N L b m) : b < w.heap.size := by
  obtain ⟨h0, sv, a, cap, P, h1⟩ := h
  exact lt_of_heap h1.k
theorem Sto.lt {q : List UInt8} {c : Int} (h : Sto w L sv c q) : ∀ x ∈ L, x < w.heap.size := by
  rcases h with ⟨_, _, rfl, _⟩ | ⟨R, D, _, _, h3, _, _, h6⟩
  · simp
  · intro x hx
    obtain ⟨_, _, _, _, h7, h8⟩ := h6.len_le
    rcases h3 x hx with rfl | rfl
    · exact h7
    · exact h8
/-- The parts lie in what is there. -/
theorem St.there (h : St w N L b m) : St w (fun x => N x ∧ x < w.heap.size) L b m := by
  obtain ⟨h0, sv, a, cap, P, h1⟩ := h
  exact ⟨h0, sv, a, cap, P, h1.k, h1.s, h1.p.there, h1.e, fun h => h1.nb h.1, fun x hx h => h1.nl x hx h.1, h1.bl⟩
/-- What a call leaves: the stream's own blocks were written, no others. -/
def SP (w : World) (N : Nat → Prop) (L : List Nat) (b : Nat) (m' : SM) (w' : World) : Prop :=
  Fr (b :: L) w w' ∧ ∃ (N' : Nat → Prop) (L' : List Nat), (∀ x, N' x → N x ∨ w.heap.size ≤ x) ∧ (∀ x ∈ L', x ∈ L ∨ w.heap.size ≤ x) ∧ St w' N' L' b m'
theorem SP.same (h : St w N L b m) {w' : World} (hf : Fr [] w w') : SP w N L b m w' := ⟨hf.mono (by simp), N, L, fun _ => .inl, fun _ => .inl, h.keep0 hf⟩

theorem eq_two (w : World) (x y x' y' : Int) : (Op.equalIn 10000 76 (.agg #[.int .i64 x, .int .i64 y]) (.agg #[.int .i64 x', .int .i64 y'])).run Try.prog w = .ok (x == x' && y == y') w := by
  have hp : ∀ (x y : Int) (w : World), (part 30 #[.int .i64 x, .int .i64 y] 0).run Try.prog w = .ok (.int .i64 x) w := fun _ _ _ => by kernel_rfl
  have hq : ∀ (x y : Int) (w : World), (part 30 #[.int .i64 x, .int .i64 y] 1).run Try.prog w = .ok (.int .i64 y) w := fun _ _ _ => by kernel_rfl
  have he : ∀ (x y : Int) (w : World), (Op.equalIn 9999 30 (.int .i64 x) (.int .i64 y)).run Try.prog w = .ok (x == y) w := fun x y w => run_equalIn_int w 9998 _ .i64 .i64 x y Try.underlying30
  obtain ⟨i, hi⟩ : ∃ i, Try.prog.info? 30 = some i := Option.isSome_iff_exists.1 (by kernel_rfl)
  have hc : Try.prog.cellsOf 30 = 1 := by kernel_rfl
  rw [show (10000 : Nat) = 9999 + 1 from rfl, run_equalIn_array w 9999 _ _ Try.underlying76 hi, hc, show List.range 2 = [0, 1] from rfl]
  simp only [Op.eqItems, Sem.run_bind, Nat.zero_mul, Nat.one_mul, hp, hq, he, Result.andThen_ok]
  cases (x == x')
  · simp
  · simp only [Bool.not_true, Bool.false_eq_true, if_false, Sem.run_bind, hq, he, Result.andThen_ok, Bool.true_and]
    cases (y == y') <;> simp
theorem st_none (h : StR w N L b m sv a cap P) :
    Calls Try.prog 77 #[.pointer (some ⟨b, 0, none⟩)] w fun e w' => e = .returned (.bool false) ∧ w = w' := by
  obtain ⟨c0, _, _, _, _, _, _⟩ := h.k.cells
  rcases h.s with ⟨_, _, _, rfl⟩ | ⟨R, D, _, _, _, _, rfl, _⟩
  · clear h
    go_enter Try.func77, Try.ntmps77
    go_wp2
    go_ret
    exact ⟨rfl, rfl⟩
  · clear h
    go_enter Try.func77, Try.ntmps77
    go_wp2
    go_ret
    exact ⟨rfl, rfl⟩
/-- No stream, or a zero one. -/
def Zst (w : World) (r : Option Addr) : Prop := r = none ∨ ∃ b, r = some ⟨b, 0, none⟩ ∧ StB w b .nilIface false none 0 0 0 0 0 0
theorem Zst.keep {w w' : World} {r : Option Addr} (h : Zst w r) (f : Fr [] w w') : Zst w' r := h.imp id fun ⟨b, e, q⟩ => ⟨b, e, f.keep q (by simp)⟩
theorem none_z {r : Option Addr} (h : Zst w r) :
    Calls Try.prog 77 #[.pointer r] w fun e w' => e = .returned (.bool true) ∧ w = w' := by
  rcases h with rfl | ⟨b, rfl, q⟩
  · skip
    go_enter Try.func77, Try.ntmps77
    go_wp2
    go_ret
    exact ⟨rfl, rfl⟩
  · obtain ⟨c0, _, _, _, _, _, _⟩ := q.cells
    go_enter Try.func77, Try.ntmps77
    go_wp2
    go_ret
    exact ⟨rfl, rfl⟩
theorem st_open (h : StR w N L b m sv a cap P) :
    Calls Try.prog 79 #[.pointer (some ⟨b, 0, none⟩)] w fun e w' => e = .returned (.bool (opM m)) ∧ w = w' := by
  obtain ⟨_, _, _, _, _, c5, c6⟩ := h.k.cells
  have hq := fun w => eq_two w m.w m.r 0 0
  unfold opM
  clear h
  go_enter Try.func79, Try.ntmps79
  go_wp2_with fail
  go_ret
  exact ⟨rfl, rfl⟩
theorem stm_of (c : Int) (w : World) (h0 : 0 ≤ c) (h1 : c ≤ 4096) :
    Calls Try.prog 74 #[.int .i64 c] w fun e w' => ∃ t v L, e = .returned (.iface t v) ∧ Fr [] w w' ∧ (∀ x ∈ L, w.heap.size ≤ x ∧ x < w'.heap.size) ∧ Sto w' L (.iface t v) c [] := by
  by_cases hc : c = 0
  · subst hc
    go_enter Try.func74, Try.ntmps74
    go_wp2_with fail
    go_ret
    exact ⟨_, _, [], rfl, Fr.refl _ _, by simp, .inl ⟨rfl, rfl, rfl, rfl⟩⟩
  · have hc' : (c == 0) = false := by simpa using hc
    obtain ⟨n, rfl⟩ := Int.eq_ofNat_of_zero_le h0
    have HN := Lib.hid (rg_new n w (by omega) (by omega))
    have hn1 : 1 ≤ n := by omega
    clear hc
    go_enter Try.func74, Try.ntmps74
    go_wp2_with fail
    refine HN.out.mono ?_
    rintro e w1 ⟨rfl, f1, g1⟩
    obtain ⟨_, _, _, _, l1, l2⟩ := g1.len_le
    go_wp2_with fail
    go_ret
    exact ⟨_, _, [w.heap.size + 1, w.heap.size], rfl, f1, fun x hx => by simp at hx; omega, .inr ⟨w.heap.size + 1, w.heap.size, by simp, by simp, fun x hx => by simpa using hx, by omega, rfl, g1⟩⟩
theorem st_new (c : Int) (w : World) (h0 : 0 ≤ c) (h1 : c ≤ 4096) :
    Calls Try.prog 27 #[.int .i64 c] w fun e w' => ∃ b L, e = .returned (.tuple #[.pointer (some ⟨b, 0, none⟩), .int .i64 0]) ∧ Fr [] w w' ∧ w.heap.size ≤ b ∧ b < w'.heap.size ∧ (∀ x ∈ L, w.heap.size ≤ x ∧ x < w'.heap.size) ∧ St w' (fun _ => False) L b (newM c) := by
  have HO := Lib.hid (stm_of c w h0 h1)
  go_enter Try.func27, Try.ntmps27
  go_wp2_with fail
  refine HO.out.mono ?_
  rintro e w1 ⟨st, sv, L, rfl, f1, hL, hs⟩
  have HS := Lib.hid hs
  have HL := Lib.hid hL
  have hz := f1.size
  clear hs hL
  go_wp2_with fail
  go_ret2
  have fA : ∀ o, Fr [] w1 (w1.alloc o) := fun o => (Fr.refl _ _).alloc o
  refine ⟨w1.heap.size, L, rfl, f1.alloc _, hz, by simp, fun x hx => ⟨(HL.out x hx).1, by have := (HL.out x hx).2; simp; omega⟩, newM_ok h0 h1, .iface st sv, none, 0, [], ?_⟩
  exact ⟨newA rfl, HS.out.keep (fA _) (by simp), (Rp.none_ _ _), rfl, fun h => h, fun _ _ h => h, fun hm => by have := (HL.out _ hm).2; omega⟩
theorem st_new_bad (c : Int) (w : World) (h : c < 0 ∨ 4096 < c) :
    Calls Try.prog 27 #[.int .i64 c] w fun e w' => e = .returned (.tuple #[.pointer none, .int .i64 2]) ∧ w = w' := by
  by_cases h1 : c < 0
  · clear h
    go_enter Try.func27, Try.ntmps27
    go_wp2_with fail
    go_ret2
    exact ⟨rfl, rfl⟩
  · have h2 : 4096 < c := by omega
    have h3 : 0 ≤ c := by omega
    clear h h1
    go_enter Try.func27, Try.ntmps27
    go_wp2_with fail
    go_ret2
    exact ⟨rfl, rfl⟩

/-- The store's methods. -/
theorem StB.set2 {a' : Option Addr} {len len' cap' : Nat} {n n' acc x y : Int} {busy : Bool} {w' : World} (h : StB w b sv busy a len cap n acc x y)
    (h' : w'.heap[b]? = some (.cells ((#[sv, .bool busy, .slice a len cap, .int .i64 n, .int .i64 acc, .int .i64 x, .int .i64 y].setIfInBounds 2 (.slice a' len' cap')).setIfInBounds (2 + 1) (.int .i64 n')) 78 (0, 0))) : StB w' b sv busy a' len' cap' n' acc x y := by
  unfold StB
  rw [h']
  simp
theorem sto_fill (h : StR w N L b m sv a cap P) :
    Invokes sv "aqueduct/stream.fill" #[.pointer (some ⟨b, 2, none⟩)] w fun e w' => ∃ a' cap' P', e = .returned (.int .i64 (min (roomM m) m.rest.length : Nat)) ∧ Fr (b :: L) w w' ∧
      StR w' (fun x => N x ∨ w.heap.size ≤ x) L b { m with q := m.q ++ m.rest.take (roomM m), rest := m.rest.drop (roomM m) } sv a' cap' P' := by
  obtain ⟨hk, hs, hp, he, hnb, hnl, hbl⟩ := h
  have hblt := lt_of_heap hk
  have hll := hs.lt
  have htl : tot P = m.rest.length := by rw [← he]; rfl
  have hnl' : ∀ x ∈ L, ¬ (N x ∨ w.heap.size ≤ x) := fun x hx h => by
    have := hll x hx
    rcases h with h | h
    · exact hnl x hx h
    · omega
  have hnb' : ¬ (N b ∨ w.heap.size ≤ b) := by rintro (h | h); exact hnb h; omega
  rcases hs with ⟨hc, hq, hL, rfl⟩ | ⟨R, D, hR, hD, hLL, hc, rfl, hg⟩
  · refine ⟨_, _, _, _, rfl, md_fill, Go.Proofs.enters_of Try.func145 (by kernel_rfl) rfl, (dir_fill _).mono ?_⟩
    rintro e w' ⟨rfl, f⟩
    have hr0 : roomM m = 0 := by unfold roomM; rw [hc, hq]; rfl
    rw [hr0]
    exact ⟨a, cap, P, by simp, f.mono (by simp), f.keep hk (by simp), .inl ⟨hc, by simp [hq], hL, rfl⟩, (hp.keep f (by simp)).mono (fun _ => .inl), by simpa using he, hnb', hnl', hbl⟩
  · have hC : m.c.toNat - m.q.length = roomM m := by unfold roomM; omega
    have hbR : b ≠ R := fun e => hbl (e ▸ hR)
    have hbD : b ≠ D := fun e => hbl (e ▸ hD)
    refine ⟨_, _, _, _, rfl, mb_fill _, Go.Proofs.enters_of Try.func151 (by kernel_rfl) rfl, (buf_fill hk (by rfl) (by rfl) hp hnb (.inr rfl) hg hbR hbD (hnl R hR) (hnl D hD)).mono ?_⟩
    rintro e w' ⟨a', cap', P', rfl, f, hb', hp', he', hg'⟩
    rw [hC] at he' hg'
    rw [hC, htl]
    rw [he] at he' hg'
    refine ⟨a', cap', P', rfl, f.mono (fun x hx => .inl (by simp at hx ⊢; rcases hx with rfl | rfl | rfl; exact .inl rfl; exact .inr hR; exact .inr hD)), StB.set2 hk hb', .inr ⟨R, D, hR, hD, hLL, hc, rfl, hg'⟩, hp', he', hnb', hnl', hbl⟩
def takeM (m : SM) (n : Nat) : SM := if m.c = 0 then { m with rest := m.rest.drop n } else { m with q := m.q.drop n }
def takeO (m : SM) (n : Nat) : List UInt8 := if m.c = 0 then m.rest.take n else m.q.take n
def takeN (m : SM) (n : Nat) : Nat := if m.c = 0 then min n m.rest.length else 0
def TakePostS (w : World) (N : Nat → Prop) (L : List Nat) (b : Nat) (m : SM) (sv : Value) (n : Nat) (out : List UInt8) (S : List Nat) (e : Ending) (w' : World) : Prop :=
  ∃ Z u a' cap' P', e = .returned (.tuple #[u, .int .i64 n]) ∧ Fr S w w' ∧ w.heap.size ≤ Z ∧ Ow w' Z 5 u ((bi out).map (Value.int .u8)) ∧ StR w' (fun x => (N x ∨ w.heap.size ≤ x) ∧ x < Z) L b m sv a' cap' P'
theorem sto_take (h : StR w N L b m sv a cap P) {most : Int} (h0 : 0 ≤ most) :
    Invokes sv "aqueduct/stream.take" #[.int .i64 most, .pointer (some ⟨b, 2, none⟩)] w (TakePostS w N L b (takeM m most.toNat) sv (takeN m most.toNat) (takeO m most.toNat) (b :: L)) := by
  obtain ⟨hk, hs, hp, he, hnb, hnl, hbl⟩ := h
  have hblt := lt_of_heap hk
  have hll := hs.lt
  have htl : tot P = m.rest.length := by rw [← he]; rfl
  have hnl' : ∀ Z, ∀ x ∈ L, ¬ ((N x ∨ w.heap.size ≤ x) ∧ x < Z) := fun Z x hx h => by
    have := hll x hx
    rcases h.1 with h | h
    · exact hnl x hx h
    · omega
  have hnb' : ∀ Z, ¬ ((N b ∨ w.heap.size ≤ b) ∧ b < Z) := by rintro Z ⟨h | h, _⟩; exact hnb h; omega
  unfold takeM takeN takeO
  rcases hs with ⟨hc, hq, hL, rfl⟩ | ⟨R, D, hR, hD, hLL, hc, rfl, hg⟩
  · rw [if_pos hc, if_pos hc, if_pos hc]
    refine ⟨_, _, _, _, rfl, md_take, Go.Proofs.enters_of Try.func148 (by kernel_rfl) rfl, (dir_take hk (by rfl) (by rfl) hp hnb (.inr rfl) h0).mono ?_⟩
    rintro e w' ⟨Z, u, a', cap', P', rfl, f, hb', hZ, hp', he', ou⟩
    rw [htl]
    rw [he] at he' ou
    exact ⟨Z, u, a', cap', P', rfl, f.mono (by simp), hZ, ou, StB.set2 hk hb', .inl ⟨hc, hq, hL, rfl⟩, hp', he', hnb' Z, hnl' Z, hbl⟩
  · have hc0 : m.c ≠ 0 := by omega
    rw [if_neg hc0, if_neg hc0, if_neg hc0]
    refine ⟨_, _, _, _, rfl, mb_take _, Go.Proofs.enters_of Try.func154 (by kernel_rfl) rfl, (buf_take hg h0 _).mono ?_⟩
    rintro e w' ⟨u, rfl, f, ou, hg'⟩
    have fn : ∀ x ∈ [R, D], ¬ N x := fun x hx => by simp at hx; rcases hx with rfl | rfl; exact hnl _ hR; exact hnl _ hD
    have fb : b ∉ [R, D] := fun hm => by simp at hm; rcases hm with rfl | rfl; exact hbl hR; exact hbl hD
    exact ⟨w.heap.size, u, a, cap, P, rfl, f.mono (fun x hx => .inl (by simp at hx ⊢; rcases hx with rfl | rfl; exact .inr hR; exact .inr hD)), Nat.le_refl _, ou, f.keep hk fb, .inr ⟨R, D, hR, hD, hLL, hc, rfl, hg'⟩, (hp.there.mono (fun x hx => ⟨.inl hx.1, hx.2⟩)).keep f (fun x hx h => by rcases h.1 with h1 | h1; exact fn x hx h1; omega), he, hnb' _, hnl' _, hbl⟩
/-- With nothing under way. -/
def takeM0 (m : SM) (n : Nat) : SM := { m with q := m.q.drop n }
theorem sto_take0 (h : StR w N L b m sv a cap P) {most : Int} (h0 : 0 ≤ most) {B : Nat} (hB : w.heap[B]? = some (.cells #[.slice none 0 0, .int .i64 0] 57 (0, 0))) (hBb : B ≠ b) (hBL : B ∉ L) (hBN : ¬ N B) :
    Invokes sv "aqueduct/stream.take" #[.int .i64 most, .pointer (some ⟨B, 0, none⟩)] w (TakePostS w N L b (takeM0 m most.toNat) sv 0 (m.q.take most.toNat) (B :: b :: L)) := by
  obtain ⟨hk, hs, hp, he, hnb, hnl, hbl⟩ := h
  have hblt := lt_of_heap hk
  have hll := hs.lt
  have hnl' : ∀ Z, ∀ x ∈ L, ¬ ((N x ∨ w.heap.size ≤ x) ∧ x < Z) := fun Z x hx h => by
    have := hll x hx
    rcases h.1 with h | h
    · exact hnl x hx h
    · omega
  have hnb' : ∀ Z, ¬ ((N b ∨ w.heap.size ≤ b) ∧ b < Z) := by rintro Z ⟨h | h, _⟩; exact hnb h; omega
  unfold takeM0
  rcases hs with ⟨hc, hq, hL, rfl⟩ | ⟨R, D, hR, hD, hLL, hc, rfl, hg⟩
  · refine ⟨_, _, _, _, rfl, md_take, Go.Proofs.enters_of Try.func148 (by kernel_rfl) rfl, (dir_take (P := []) hB (by rfl) (by rfl) (Rp.none_ w (fun _ => False)) (fun h => h) (.inl rfl) h0).mono ?_⟩
    rintro e w' ⟨Z, u, a', cap', P', rfl, f, hb', hZ, hp', he', ou⟩
    have fb : b ∉ [B] := by simp; exact Ne.symm hBb
    rw [hq]
    have fx : Fr (B :: b :: L) w w' := f.mono (by simp)
    refine ⟨Z, u, a, cap, P, by simp [tot], fx, hZ, by simpa using ou, f.keep hk fb, .inl ⟨hc, by simp, hL, rfl⟩, (hp.there.mono (fun x hx => ⟨.inl hx.1, by omega⟩)).keep f (fun x hx h => ?_), he, hnb' Z, hnl' Z, hbl⟩
    simp at hx
    subst hx
    rcases h.1 with h1 | h1
    · exact hBN h1
    · have := lt_of_heap hB
      omega
  · refine ⟨_, _, _, _, rfl, mb_take _, Go.Proofs.enters_of Try.func154 (by kernel_rfl) rfl, (buf_take hg h0 _).mono ?_⟩
    rintro e w' ⟨u, rfl, f, ou, hg'⟩
    have fn : ∀ x ∈ [R, D], ¬ N x := fun x hx => by simp at hx; rcases hx with rfl | rfl; exact hnl _ hR; exact hnl _ hD
    have fb : b ∉ [R, D] := fun hm => by simp at hm; rcases hm with rfl | rfl; exact hbl hR; exact hbl hD
    exact ⟨w.heap.size, u, a, cap, P, rfl, f.mono (fun x hx => .inl (by simp at hx ⊢; rcases hx with rfl | rfl; exact .inr (.inr hR); exact .inr (.inr hD))), Nat.le_refl _, ou, f.keep hk fb, .inr ⟨R, D, hR, hD, hLL, hc, rfl, hg'⟩, (hp.there.mono (fun x hx => ⟨.inl hx.1, hx.2⟩)).keep f (fun x hx h => by rcases h.1 with h1 | h1; exact fn x hx h1; omega), he, hnb' _, hnl' _, hbl⟩
theorem sto_held {q : List UInt8} {c : Int} (h : Sto w L sv c q) :
    Invokes sv "aqueduct/stream.held" #[] w fun e w' => ∃ u, e = .returned u ∧ Fr [] w w' ∧ Ow w' w.heap.size 5 u ((bi q).map (Value.int .u8)) := by
  rcases h with ⟨rfl, rfl, _, rfl⟩ | ⟨R, D, hR, hD, hLL, hc, rfl, hg⟩
  · exact ⟨_, _, _, _, rfl, md_held, Go.Proofs.enters_of Try.func146 (by kernel_rfl) rfl, dir_held.mono fun e w' ⟨he, f⟩ => ⟨_, he, f, Ow.nil _ _ _⟩⟩
  · exact ⟨_, _, _, _, rfl, mb_held _, Go.Proofs.enters_of Try.func152 (by kernel_rfl) rfl, buf_held hg⟩
theorem sto_room {q : List UInt8} {c : Int} (h : Sto w L sv c q) :
    Invokes sv "aqueduct/stream.room" #[] w fun e w' => e = .returned (.int .i64 c) ∧ Fr [] w w' := by
  rcases h with ⟨rfl, rfl, _, rfl⟩ | ⟨R, D, hR, hD, hLL, hc, rfl, hg⟩
  · exact ⟨_, _, _, _, rfl, md_room, Go.Proofs.enters_of Try.func147 (by kernel_rfl) rfl, dir_room⟩
  · exact ⟨_, _, _, _, rfl, mb_room _, Go.Proofs.enters_of Try.func153 (by kernel_rfl) rfl, (buf_room hg).mono fun e w' ⟨he, f⟩ => ⟨by rw [he, Int.toNat_of_nonneg (by omega)], f⟩⟩
theorem sto_again {q : List UInt8} {c : Int} (h : Sto w L sv c q) :
    Invokes sv "aqueduct/stream.again" #[] w fun e w' => ∃ t v L', e = .returned (.iface t v) ∧ Fr [] w w' ∧ (∀ x ∈ L', w.heap.size ≤ x) ∧ Sto w' L' (.iface t v) c q := by
  rcases h with ⟨rfl, rfl, _, rfl⟩ | ⟨R, D, hR, hD, hLL, hc, rfl, hg⟩
  · exact ⟨_, _, _, _, rfl, md_again, Go.Proofs.enters_of Try.func144 (by kernel_rfl) rfl, dir_again.mono fun e w' ⟨he, f⟩ => ⟨_, _, [], he, f, by simp, .inl ⟨rfl, rfl, rfl, rfl⟩⟩⟩
  · exact ⟨_, _, _, _, rfl, mb_again _, Go.Proofs.enters_of Try.func150 (by kernel_rfl) rfl, (buf_again hg).mono fun e w' ⟨R', D', he, f, h1, h2, hg'⟩ => ⟨_, _, [R', D'], he, f, by simp; exact ⟨h1, h2⟩, .inr ⟨R', D', by simp, by simp, by simp, hc, rfl, hg'⟩⟩⟩
end
end Go.Proofs.Ytdoamelhclnphaa
