/-
  Package splice: what a way wants, in plain Lean; the contract of way.next.
-/
import Derived.Test.YtodpkdbcdbdjfaaTrHold
import Derived.Test.YtodpkdbcdbdjfaaKnown21
namespace Go.Proofs.Ytodpkdbcdbdjfaa
open Go.RowKit
set_option maxRecDepth 100000

/-- What the way from side i wants. -/
def nextS (t : TS) (c : Bool) (i : Int) : WT :=
  if (nextT t).kind = 1 then ⟨1, i, (nextT t).n, [], 0⟩
  else if (nextT t).kind = 2 then ⟨2, 1 - i, 0, t.s, 0⟩
  else if t.r = 13 ∧ t.w = 0 ∧ c = false then ⟨3, 1 - i, 0, [], 0⟩ else nextT t
/-- The four arms of what a way wants, and the closing. -/
theorem nextS_cases (t : TS) (c : Bool) (i : Int) :
    (t.w ≠ 0 ∧ nextT t = ⟨4, 0, t.wr, [], t.w⟩ ∧ nextS t c i = ⟨4, 0, t.wr, [], t.w⟩)
    ∨ (t.w = 0 ∧ t.s ≠ [] ∧ nextT t = ⟨2, 0, 0, t.s, 0⟩ ∧ nextS t c i = ⟨2, 1 - i, 0, t.s, 0⟩)
    ∨ (t.w = 0 ∧ t.r = 13 ∧ c = false ∧ nextT t = ⟨4, 0, t.wr, [], 0⟩ ∧ nextS t c i = ⟨3, 1 - i, 0, [], 0⟩)
    ∨ (t.w = 0 ∧ (t.r == 13 && !c) = false ∧ nextT t = ⟨4, 0, t.wr, [], eofT t.r⟩ ∧ nextS t c i = ⟨4, 0, t.wr, [], eofT t.r⟩)
    ∨ (∃ n, nextT t = ⟨1, 0, n, [], 0⟩ ∧ nextS t c i = ⟨1, i, n, [], 0⟩) := by
  rcases nextT_cases t with ⟨h, e⟩ | ⟨h, h1, e⟩ | ⟨h, h1, h2, e⟩ | ⟨h, h1, h2, h3, e⟩
  · exact .inl ⟨h, e, by unfold nextS; rw [e, if_neg (by simp), if_neg (by simp), if_neg (by simp [h])]⟩
  · exact .inr (.inl ⟨h, h1, e, by unfold nextS; rw [e, if_neg (by simp), if_pos rfl]⟩)
  · by_cases hc : t.r = 13 ∧ c = false
    · refine .inr (.inr (.inl ⟨h, hc.1, hc.2, by rw [e, hc.1]; rfl, ?_⟩))
      unfold nextS
      rw [e, if_neg (by simp), if_neg (by simp), if_pos ⟨hc.1, h, hc.2⟩]
    · refine .inr (.inr (.inr (.inl ⟨h, ?_, e, ?_⟩)))
      · cases c
        · simp at hc ⊢; exact hc
        · simp
      · unfold nextS
        rw [e, if_neg (by simp), if_neg (by simp), if_neg (fun hh => hc ⟨hh.1, hh.2.2⟩)]
  · exact .inr (.inr (.inr (.inr ⟨_, e, by unfold nextS; rw [e, if_pos rfl]⟩)))

theorem side_other (w : World) {i : Int} (h0 : 0 ≤ i) (h1 : i ≤ 1) :
    Calls Try.prog 80 #[.int .i64 i] w fun e w' => e = .returned (.int .i64 (1 - i)) ∧ w = w' := by
  go_enter Try.func80, Try.ntmps80
  go_wp2
  go_ret
  exact ⟨rfl, rfl⟩

theorem setCell_id {w : World} {b i : Nat} {c : Array Value} {ty : TypeId} {f : Nat × Nat} {v : Value} (h : w.heap[b]? = some (.cells c ty f)) (hv : c[i]? = some v) : w.setCell ⟨b, i, none⟩ v = w := by
  have hc : c.setIfInBounds i v = c := by
    apply Array.ext_getElem?
    intro j
    rw [Array.getElem?_setIfInBounds]
    by_cases e : i = j
    · subst e
      rw [if_pos rfl, hv]
      have := (Array.getElem?_eq_some_iff.1 hv).1
      simp [this]
    · rw [if_neg e]
  have hh : (w.setCell ⟨b, i, none⟩ v).heap = w.heap := by
    apply Array.ext_getElem?
    intro j
    by_cases e : j = b
    · subst e
      rw [heap_setCell_eq h, h, hc]
    · exact heap_setCell_ne e
  have h2 : w.setCell ⟨b, i, none⟩ v = { w with heap := (w.setCell ⟨b, i, none⟩ v).heap } := rfl
  rw [h2, hh]
theorem five_fin {w w1 : World} {b M : Nat} {v0 v1 v2 v3 v4 : Value} {k s n e : Int} {u : Value} {l : List UInt8} (h : WB w1 b v0 v1 v2 v3 v4) (f : Fr [] w w1) (hb : w.heap.size ≤ b) (ou : Ow w1 M 5 u ((bi l).map (Value.int .u8))) (hM : b < M) :
    ∃ W, W = (((((w1.setCell ⟨b, 0, none⟩ (.int .i64 k)).setCell ⟨b, 1, none⟩ (.int .i64 s)).setCell ⟨b, 2, none⟩ (.int .i64 n)).setCell ⟨b, 3, none⟩ u).setCell ⟨b, 4, none⟩ (.int .i64 e)) ∧ Fr [] w W ∧ WB W b (.int .i64 k) (.int .i64 s) (.int .i64 n) u (.int .i64 e) ∧ Wv W w.heap.size (.agg #[.int .i64 k, .int .i64 s, .int .i64 n, u, .int .i64 e]) ⟨k, s, n, l, e⟩ := by
  have fs : Fr [b] w1 (((((w1.setCell ⟨b, 0, none⟩ (.int .i64 k)).setCell ⟨b, 1, none⟩ (.int .i64 s)).setCell ⟨b, 2, none⟩ (.int .i64 n)).setCell ⟨b, 3, none⟩ u).setCell ⟨b, 4, none⟩ (.int .i64 e)) :=
    (((((Fr.refl _ _).setCell (.inl (by simp)) _).setCell (.inl (by simp)) _).setCell (.inl (by simp)) _).setCell (.inl (by simp)) _).setCell (.inl (by simp)) _
  refine ⟨_, rfl, f.trans fs (by simp) (fun x hx => .inr (by simp at hx; omega)), five_set h, _, rfl, (ou.keep fs (fun k hk hm => ?_)).mono (by omega)⟩
  have := (ou.lt k hk).1
  simp at hm
  omega

set_option maxHeartbeats 2000000 in
theorem way_fail {w : World} {N : Nat → Prop} {b W k : Nat} {t : TS} {c : Bool} (h : Tr w N b t) (hr : t.rd ≤ 4611686018427387904) (c0 : w.cell? ⟨W, k, none⟩ = some (.pointer (some ⟨b, 0, none⟩))) (c1 : w.cell? ⟨W, k + 1, none⟩ = some (.int .i64 t.r)) (c2 : w.cell? ⟨W, k + 2, none⟩ = some (.int .i64 t.w)) (c3 : w.cell? ⟨W, k + 3, none⟩ = some (.bool c)) {i : Int} (h0 : 0 ≤ i) (h1 : i ≤ 1)
    (hw : t.w ≠ 0) (e1 : nextT t = ⟨4, 0, t.wr, [], t.w⟩) :
    Calls Try.prog 67 #[.pointer (some ⟨W, k, none⟩), .int .i64 i] w fun e w' => ∃ v, e = .returned v ∧ Fr [] w w' ∧ Wv w' w.heap.size v ⟨4, 0, t.wr, [], t.w⟩ := by
  have HT := Lib.hid fun w1 (f : Fr [] w w1) => tr_next (h.keep0 f) hr
  rw [e1] at HT
  have hWl : W < w.heap.size := World.block_lt_of_cell? _ _ c0
  have HC := Lib.hid fun w1 (f : Fr [] w w1) => (show w1.cell? ⟨W, k, none⟩ = some (.pointer (some ⟨b, 0, none⟩)) ∧ w1.cell? ⟨W, k + 1, none⟩ = some (.int .i64 t.r) ∧ w1.cell? ⟨W, k + 2, none⟩ = some (.int .i64 t.w) ∧ w1.cell? ⟨W, k + 3, none⟩ = some (.bool c) from by
    have hk : ∀ j, w1.cell? ⟨W, j, none⟩ = w.cell? ⟨W, j, none⟩ := fun j => World.cell?_of_block (w := w) (f.block W hWl (by simp))
    exact ⟨(hk _).trans c0, (hk _).trans c1, (hk _).trans c2, (hk _).trans c3⟩)
  obtain ⟨W0, hW0, f0, hz0, b0⟩ : ∃ W, w.alloc (.cells #[.int .i64 0, .int .i64 0, .int .i64 0, .slice none 0 0, .int .i64 0] 32) = W ∧ Fr [] w W ∧ w.heap.size < W.heap.size ∧ WB W w.heap.size (.int .i64 0) (.int .i64 0) (.int .i64 0) (.slice none 0 0) (.int .i64 0) := ⟨_, rfl, (Fr.refl _ _).alloc _, by simp, newA rfl⟩
  clear c0 c1 c2 c3 h hr e1
  obtain ⟨d0, d1, d2, d3⟩ := HC.out _ f0
  go_enter Try.func67, Try.ntmps67
  go_wp2_with fail
  refine (HT.out _ f0).mono ?_
  rintro e w1 ⟨v, rfl, f1, u, rfl, ou⟩
  obtain ⟨ga, gc, rfl, _⟩ := ou.formB
  have b1 : WB w1 w.heap.size _ _ _ _ _ := f1.keep b0 (by simp)
  have hz1 : w.heap.size < w1.heap.size := Nat.lt_of_lt_of_le hz0 f1.size
  clear d0 d1 d2 d3 b0 hW0
  try simp only [List.length_nil] at ou ⊢
  obtain ⟨w2, hw2, f2, q2⟩ : ∃ W, w1.alloc (.cells #[.int .i64 4, .int .i64 0, .int .i64 t.wr, .slice ga 0 gc, .int .i64 t.w] 32) = W ∧ Fr [] w1 W ∧ WB W w1.heap.size (.int .i64 4) (.int .i64 0) (.int .i64 t.wr) (.slice ga 0 gc) (.int .i64 t.w) := ⟨_, rfl, (Fr.refl _ _).alloc _, newA rfl⟩
  have b2 : WB w2 w.heap.size _ _ _ _ _ := f2.keep b1 (by simp)
  have g2 := (f0.then0 f1).then0 f2
  have ou2 := ou.keep f2 (by simp)
  obtain ⟨d0, d1, d2, d3⟩ := HC.out _ g2
  have hsid : w2.setCell ⟨w1.heap.size, 4, none⟩ (.int .i64 t.w) = w2 := setCell_id q2 rfl
  obtain ⟨x0, x1, x2, x3, x4, x5, x6, x7, x8, x9⟩ := q2.cells
  obtain ⟨r0, r1, r2, r3, r4, r5, r6, r7, r8, r9⟩ := b2.cells
  have hne : w1.heap.size ≠ w.heap.size := by omega
  have hne2 : w.heap.size ≠ w1.heap.size := by omega
  have hOU := Lib.hid ou2
  have hB2 := Lib.hid b2
  have hQ2 := Lib.hid q2
  clear f1 f2 ou ou2 b1 b2 q2 HC HT
  have hw' : (t.w == 0) = false := by simpa using hw
  rcases Bool.eq_false_or_eq_true (t.r == 13) with h13 | h13
  · skip
    go_wp2_with fail
    obtain ⟨W3, hW3, g3, q3, wv⟩ := five_fin (w := w) (k := 4) (s := 0) (n := t.wr) (e := t.w) (u := (.slice ga 0 gc)) (l := []) hB2.out g2 (Nat.le_refl _) (M := W0.heap.size) hOU.out hz0
    rw [← hW3]
    obtain ⟨s0, s1, s2, s3, s4, _⟩ := q3.cells
    refine bodyPost_ret (v := .agg #[.int .i64 4, .int .i64 0, .int .i64 t.wr, (.slice ga 0 gc), .int .i64 t.w]) (by simp [results, Try.results67, go_sem, s0, s1, s2, s3, s4]) rfl ?_
    exact ⟨_, rfl, g3, wv⟩
  · skip
    go_wp2_with fail
    obtain ⟨W3, hW3, g3, q3, wv⟩ := five_fin (w := w) (k := 4) (s := 0) (n := t.wr) (e := t.w) (u := (.slice ga 0 gc)) (l := []) hB2.out g2 (Nat.le_refl _) (M := W0.heap.size) hOU.out hz0
    rw [← hW3]
    obtain ⟨s0, s1, s2, s3, s4, _⟩ := q3.cells
    refine bodyPost_ret (v := .agg #[.int .i64 4, .int .i64 0, .int .i64 t.wr, (.slice ga 0 gc), .int .i64 t.w]) (by simp [results, Try.results67, go_sem, s0, s1, s2, s3, s4]) rfl ?_
    exact ⟨_, rfl, g3, wv⟩
set_option maxHeartbeats 2000000 in
theorem way_done {w : World} {N : Nat → Prop} {b W k : Nat} {t : TS} {c : Bool} (h : Tr w N b t) (hr : t.rd ≤ 4611686018427387904) (c0 : w.cell? ⟨W, k, none⟩ = some (.pointer (some ⟨b, 0, none⟩))) (c1 : w.cell? ⟨W, k + 1, none⟩ = some (.int .i64 t.r)) (c2 : w.cell? ⟨W, k + 2, none⟩ = some (.int .i64 t.w)) (c3 : w.cell? ⟨W, k + 3, none⟩ = some (.bool c)) {i : Int} (h0 : 0 ≤ i) (h1 : i ≤ 1)
    {er : Int} (hw : t.w = 0) (hc : (t.r == 13 && !c) = false) (e1 : nextT t = ⟨4, 0, t.wr, [], er⟩) :
    Calls Try.prog 67 #[.pointer (some ⟨W, k, none⟩), .int .i64 i] w fun e w' => ∃ v, e = .returned v ∧ Fr [] w w' ∧ Wv w' w.heap.size v ⟨4, 0, t.wr, [], er⟩ := by
  have HT := Lib.hid fun w1 (f : Fr [] w w1) => tr_next (h.keep0 f) hr
  rw [e1] at HT
  have hWl : W < w.heap.size := World.block_lt_of_cell? _ _ c0
  have HC := Lib.hid fun w1 (f : Fr [] w w1) => (show w1.cell? ⟨W, k, none⟩ = some (.pointer (some ⟨b, 0, none⟩)) ∧ w1.cell? ⟨W, k + 1, none⟩ = some (.int .i64 t.r) ∧ w1.cell? ⟨W, k + 2, none⟩ = some (.int .i64 t.w) ∧ w1.cell? ⟨W, k + 3, none⟩ = some (.bool c) from by
    have hk : ∀ j, w1.cell? ⟨W, j, none⟩ = w.cell? ⟨W, j, none⟩ := fun j => World.cell?_of_block (w := w) (f.block W hWl (by simp))
    exact ⟨(hk _).trans c0, (hk _).trans c1, (hk _).trans c2, (hk _).trans c3⟩)
  obtain ⟨W0, hW0, f0, hz0, b0⟩ : ∃ W, w.alloc (.cells #[.int .i64 0, .int .i64 0, .int .i64 0, .slice none 0 0, .int .i64 0] 32) = W ∧ Fr [] w W ∧ w.heap.size < W.heap.size ∧ WB W w.heap.size (.int .i64 0) (.int .i64 0) (.int .i64 0) (.slice none 0 0) (.int .i64 0) := ⟨_, rfl, (Fr.refl _ _).alloc _, by simp, newA rfl⟩
  clear c0 c1 c2 c3 h hr e1
  obtain ⟨d0, d1, d2, d3⟩ := HC.out _ f0
  go_enter Try.func67, Try.ntmps67
  go_wp2_with fail
  refine (HT.out _ f0).mono ?_
  rintro e w1 ⟨v, rfl, f1, u, rfl, ou⟩
  obtain ⟨ga, gc, rfl, _⟩ := ou.formB
  have b1 : WB w1 w.heap.size _ _ _ _ _ := f1.keep b0 (by simp)
  have hz1 : w.heap.size < w1.heap.size := Nat.lt_of_lt_of_le hz0 f1.size
  clear d0 d1 d2 d3 b0 hW0
  try simp only [List.length_nil] at ou ⊢
  obtain ⟨w2, hw2, f2, q2⟩ : ∃ W, w1.alloc (.cells #[.int .i64 4, .int .i64 0, .int .i64 t.wr, .slice ga 0 gc, .int .i64 er] 32) = W ∧ Fr [] w1 W ∧ WB W w1.heap.size (.int .i64 4) (.int .i64 0) (.int .i64 t.wr) (.slice ga 0 gc) (.int .i64 er) := ⟨_, rfl, (Fr.refl _ _).alloc _, newA rfl⟩
  have b2 : WB w2 w.heap.size _ _ _ _ _ := f2.keep b1 (by simp)
  have g2 := (f0.then0 f1).then0 f2
  have ou2 := ou.keep f2 (by simp)
  obtain ⟨d0, d1, d2, d3⟩ := HC.out _ g2
  have hsid : w2.setCell ⟨w1.heap.size, 4, none⟩ (.int .i64 er) = w2 := setCell_id q2 rfl
  obtain ⟨x0, x1, x2, x3, x4, x5, x6, x7, x8, x9⟩ := q2.cells
  obtain ⟨r0, r1, r2, r3, r4, r5, r6, r7, r8, r9⟩ := b2.cells
  have hne : w1.heap.size ≠ w.heap.size := by omega
  have hne2 : w.heap.size ≠ w1.heap.size := by omega
  have hOU := Lib.hid ou2
  have hB2 := Lib.hid b2
  have hQ2 := Lib.hid q2
  clear f1 f2 ou ou2 b1 b2 q2 HC HT
  have hw' : (t.w == 0) = true := by simpa using hw
  rw [hw] at d2
  rcases Bool.eq_false_or_eq_true (t.r == 13) with h13 | h13
  rotate_left
  · skip
    go_wp2_with fail
    obtain ⟨W3, hW3, g3, q3, wv⟩ := five_fin (w := w) (k := 4) (s := 0) (n := t.wr) (e := er) (u := (.slice ga 0 gc)) (l := []) hB2.out g2 (Nat.le_refl _) (M := W0.heap.size) hOU.out hz0
    rw [← hW3]
    obtain ⟨s0, s1, s2, s3, s4, _⟩ := q3.cells
    refine bodyPost_ret (v := .agg #[.int .i64 4, .int .i64 0, .int .i64 t.wr, (.slice ga 0 gc), .int .i64 er]) (by simp [results, Try.results67, go_sem, s0, s1, s2, s3, s4]) rfl ?_
    exact ⟨_, rfl, g3, wv⟩
  · rw [h13, Bool.true_and] at hc
    have hc' : c = true := by simpa using hc
    subst hc'
    go_wp2_with fail
    obtain ⟨W3, hW3, g3, q3, wv⟩ := five_fin (w := w) (k := 4) (s := 0) (n := t.wr) (e := er) (u := (.slice ga 0 gc)) (l := []) hB2.out g2 (Nat.le_refl _) (M := W0.heap.size) hOU.out hz0
    rw [← hW3]
    obtain ⟨s0, s1, s2, s3, s4, _⟩ := q3.cells
    refine bodyPost_ret (v := .agg #[.int .i64 4, .int .i64 0, .int .i64 t.wr, (.slice ga 0 gc), .int .i64 er]) (by simp [results, Try.results67, go_sem, s0, s1, s2, s3, s4]) rfl ?_
    exact ⟨_, rfl, g3, wv⟩
set_option maxHeartbeats 2000000 in
theorem way_write {w : World} {N : Nat → Prop} {b W k : Nat} {t : TS} {c : Bool} (h : Tr w N b t) (hr : t.rd ≤ 4611686018427387904) (c0 : w.cell? ⟨W, k, none⟩ = some (.pointer (some ⟨b, 0, none⟩))) (c1 : w.cell? ⟨W, k + 1, none⟩ = some (.int .i64 t.r)) (c2 : w.cell? ⟨W, k + 2, none⟩ = some (.int .i64 t.w)) (c3 : w.cell? ⟨W, k + 3, none⟩ = some (.bool c)) {i : Int} (h0 : 0 ≤ i) (h1 : i ≤ 1)
    (e1 : nextT t = ⟨2, 0, 0, t.s, 0⟩) :
    Calls Try.prog 67 #[.pointer (some ⟨W, k, none⟩), .int .i64 i] w fun e w' => ∃ v, e = .returned v ∧ Fr [] w w' ∧ Wv w' w.heap.size v ⟨2, 1 - i, 0, t.s, 0⟩ := by
  have HT := Lib.hid fun w1 (f : Fr [] w w1) => tr_next (h.keep0 f) hr
  rw [e1] at HT
  have hWl : W < w.heap.size := World.block_lt_of_cell? _ _ c0
  have HC := Lib.hid fun w1 (f : Fr [] w w1) => (show w1.cell? ⟨W, k, none⟩ = some (.pointer (some ⟨b, 0, none⟩)) ∧ w1.cell? ⟨W, k + 1, none⟩ = some (.int .i64 t.r) ∧ w1.cell? ⟨W, k + 2, none⟩ = some (.int .i64 t.w) ∧ w1.cell? ⟨W, k + 3, none⟩ = some (.bool c) from by
    have hk : ∀ j, w1.cell? ⟨W, j, none⟩ = w.cell? ⟨W, j, none⟩ := fun j => World.cell?_of_block (w := w) (f.block W hWl (by simp))
    exact ⟨(hk _).trans c0, (hk _).trans c1, (hk _).trans c2, (hk _).trans c3⟩)
  obtain ⟨W0, hW0, f0, hz0, b0⟩ : ∃ W, w.alloc (.cells #[.int .i64 0, .int .i64 0, .int .i64 0, .slice none 0 0, .int .i64 0] 32) = W ∧ Fr [] w W ∧ w.heap.size < W.heap.size ∧ WB W w.heap.size (.int .i64 0) (.int .i64 0) (.int .i64 0) (.slice none 0 0) (.int .i64 0) := ⟨_, rfl, (Fr.refl _ _).alloc _, by simp, newA rfl⟩
  clear c0 c1 c2 c3 h hr e1
  obtain ⟨d0, d1, d2, d3⟩ := HC.out _ f0
  go_enter Try.func67, Try.ntmps67
  go_wp2_with fail
  refine (HT.out _ f0).mono ?_
  rintro e w1 ⟨v, rfl, f1, u, rfl, ou⟩
  obtain ⟨ga, gc, rfl, _⟩ := ou.formB
  have b1 : WB w1 w.heap.size _ _ _ _ _ := f1.keep b0 (by simp)
  have hz1 : w.heap.size < w1.heap.size := Nat.lt_of_lt_of_le hz0 f1.size
  clear d0 d1 d2 d3 b0 hW0
  try simp only [List.length_nil] at ou ⊢
  obtain ⟨w2, hw2, f2, q2⟩ : ∃ W, w1.alloc (.cells #[.int .i64 2, .int .i64 0, .int .i64 0, .slice ga t.s.length gc, .int .i64 0] 32) = W ∧ Fr [] w1 W ∧ WB W w1.heap.size (.int .i64 2) (.int .i64 0) (.int .i64 0) (.slice ga t.s.length gc) (.int .i64 0) := ⟨_, rfl, (Fr.refl _ _).alloc _, newA rfl⟩
  have b2 : WB w2 w.heap.size _ _ _ _ _ := f2.keep b1 (by simp)
  have g2 := (f0.then0 f1).then0 f2
  have ou_lt := ou.lt
  have ou2 := ou.keep f2 (by simp)
  obtain ⟨d0, d1, d2, d3⟩ := HC.out _ g2
  have hsid : w2.setCell ⟨w1.heap.size, 4, none⟩ (.int .i64 0) = w2 := setCell_id q2 rfl
  obtain ⟨x0, x1, x2, x3, x4, x5, x6, x7, x8, x9⟩ := q2.cells
  obtain ⟨r0, r1, r2, r3, r4, r5, r6, r7, r8, r9⟩ := b2.cells
  have hne : w1.heap.size ≠ w.heap.size := by omega
  have hne2 : w.heap.size ≠ w1.heap.size := by omega
  have hOU := Lib.hid ou2
  have hB2 := Lib.hid b2
  have hQ2 := Lib.hid q2
  clear f1 f2 ou ou2 b1 b2 q2 HC HT
  have hlO : ∀ k, (Value.slice ga t.s.length gc).ownBlock = some k → k < w1.heap.size := fun k hk => (ou_lt k hk).2
  go_wp2_with fail
  refine (side_other _ h0 h1).mono ?_
  rintro e w' ⟨rfl, rfl⟩
  go_wp2_with fail
  have hB3 : WB (w2.setCell ⟨w1.heap.size, 1, none⟩ (.int .i64 (1 - i))) w.heap.size _ _ _ _ _ := keepS hB2.out (by dsimp only; omega)
  have hO3 := hOU.out.keep ((Fr.refl [w1.heap.size] w2).setCell (p := ⟨w1.heap.size, 1, none⟩) (.inl (by simp)) (.int .i64 (1 - i))) (fun k hk hm => by have := hlO k hk; simp at hm; omega)
  obtain ⟨W3, hW3, g3, q3, wv⟩ := five_fin (w := w) (k := 2) (s := (1 - i)) (n := 0) (e := 0) (u := (.slice ga t.s.length gc)) (l := t.s) hB3 (g2.setCell (p := ⟨w1.heap.size, 1, none⟩) (.inr (by dsimp only; omega)) (.int .i64 (1 - i))) (Nat.le_refl _) (M := W0.heap.size) hO3 hz0
  rw [← hW3]
  obtain ⟨s0, s1, s2, s3, s4, _⟩ := q3.cells
  refine bodyPost_ret (v := .agg #[.int .i64 2, .int .i64 (1 - i), .int .i64 0, (.slice ga t.s.length gc), .int .i64 0]) (by simp [results, Try.results67, go_sem, s0, s1, s2, s3, s4]) rfl ?_
  exact ⟨_, rfl, g3, wv⟩
set_option maxHeartbeats 2000000 in
theorem way_close {w : World} {N : Nat → Prop} {b W k : Nat} {t : TS} {c : Bool} (h : Tr w N b t) (hr : t.rd ≤ 4611686018427387904) (c0 : w.cell? ⟨W, k, none⟩ = some (.pointer (some ⟨b, 0, none⟩))) (c1 : w.cell? ⟨W, k + 1, none⟩ = some (.int .i64 t.r)) (c2 : w.cell? ⟨W, k + 2, none⟩ = some (.int .i64 t.w)) (c3 : w.cell? ⟨W, k + 3, none⟩ = some (.bool c)) {i : Int} (h0 : 0 ≤ i) (h1 : i ≤ 1)
    (hw : t.w = 0) (h13 : t.r = 13) (hc : c = false) (e1 : nextT t = ⟨4, 0, t.wr, [], 0⟩) :
    Calls Try.prog 67 #[.pointer (some ⟨W, k, none⟩), .int .i64 i] w fun e w' => ∃ v, e = .returned v ∧ Fr [] w w' ∧ Wv w' w.heap.size v ⟨3, 1 - i, 0, [], 0⟩ := by
  have HT := Lib.hid fun w1 (f : Fr [] w w1) => tr_next (h.keep0 f) hr
  rw [e1] at HT
  have hWl : W < w.heap.size := World.block_lt_of_cell? _ _ c0
  have HC := Lib.hid fun w1 (f : Fr [] w w1) => (show w1.cell? ⟨W, k, none⟩ = some (.pointer (some ⟨b, 0, none⟩)) ∧ w1.cell? ⟨W, k + 1, none⟩ = some (.int .i64 t.r) ∧ w1.cell? ⟨W, k + 2, none⟩ = some (.int .i64 t.w) ∧ w1.cell? ⟨W, k + 3, none⟩ = some (.bool c) from by
    have hk : ∀ j, w1.cell? ⟨W, j, none⟩ = w.cell? ⟨W, j, none⟩ := fun j => World.cell?_of_block (w := w) (f.block W hWl (by simp))
    exact ⟨(hk _).trans c0, (hk _).trans c1, (hk _).trans c2, (hk _).trans c3⟩)
  obtain ⟨W0, hW0, f0, hz0, b0⟩ : ∃ W, w.alloc (.cells #[.int .i64 0, .int .i64 0, .int .i64 0, .slice none 0 0, .int .i64 0] 32) = W ∧ Fr [] w W ∧ w.heap.size < W.heap.size ∧ WB W w.heap.size (.int .i64 0) (.int .i64 0) (.int .i64 0) (.slice none 0 0) (.int .i64 0) := ⟨_, rfl, (Fr.refl _ _).alloc _, by simp, newA rfl⟩
  clear c0 c1 c2 c3 h hr e1
  obtain ⟨d0, d1, d2, d3⟩ := HC.out _ f0
  go_enter Try.func67, Try.ntmps67
  go_wp2_with fail
  refine (HT.out _ f0).mono ?_
  rintro e w1 ⟨v, rfl, f1, u, rfl, ou⟩
  obtain ⟨ga, gc, rfl, _⟩ := ou.formB
  have b1 : WB w1 w.heap.size _ _ _ _ _ := f1.keep b0 (by simp)
  have hz1 : w.heap.size < w1.heap.size := Nat.lt_of_lt_of_le hz0 f1.size
  clear d0 d1 d2 d3 b0 hW0
  try simp only [List.length_nil] at ou ⊢
  obtain ⟨w2, hw2, f2, q2⟩ : ∃ W, w1.alloc (.cells #[.int .i64 4, .int .i64 0, .int .i64 t.wr, .slice ga 0 gc, .int .i64 0] 32) = W ∧ Fr [] w1 W ∧ WB W w1.heap.size (.int .i64 4) (.int .i64 0) (.int .i64 t.wr) (.slice ga 0 gc) (.int .i64 0) := ⟨_, rfl, (Fr.refl _ _).alloc _, newA rfl⟩
  have b2 : WB w2 w.heap.size _ _ _ _ _ := f2.keep b1 (by simp)
  have g2 := (f0.then0 f1).then0 f2
  have ou2 := ou.keep f2 (by simp)
  obtain ⟨d0, d1, d2, d3⟩ := HC.out _ g2
  have hsid : w2.setCell ⟨w1.heap.size, 4, none⟩ (.int .i64 0) = w2 := setCell_id q2 rfl
  obtain ⟨x0, x1, x2, x3, x4, x5, x6, x7, x8, x9⟩ := q2.cells
  obtain ⟨r0, r1, r2, r3, r4, r5, r6, r7, r8, r9⟩ := b2.cells
  have hne : w1.heap.size ≠ w.heap.size := by omega
  have hne2 : w.heap.size ≠ w1.heap.size := by omega
  have hOU := Lib.hid ou2
  have hB2 := Lib.hid b2
  have hQ2 := Lib.hid q2
  clear f1 f2 ou ou2 b1 b2 q2 HC HT
  subst hc
  rw [hw] at d2
  rw [h13] at d1
  go_wp2_with fail
  refine (side_other _ h0 h1).mono ?_
  rintro e w' ⟨rfl, rfl⟩
  go_wp2_with fail
  obtain ⟨W3, hW3, g3, q3, wv⟩ := five_fin (w := w) (k := 3) (s := (1 - i)) (n := 0) (e := 0) (u := (.slice none 0 0)) (l := []) hB2.out g2 (Nat.le_refl _) (M := w.heap.size + 1) (Ow.nil _ _ _) (Nat.lt_succ_self _)
  rw [← hW3]
  obtain ⟨s0, s1, s2, s3, s4, _⟩ := q3.cells
  refine bodyPost_ret (v := .agg #[.int .i64 3, .int .i64 (1 - i), .int .i64 0, (.slice none 0 0), .int .i64 0]) (by simp [results, Try.results67, go_sem, s0, s1, s2, s3, s4]) rfl ?_
  exact ⟨_, rfl, g3, wv⟩
set_option maxHeartbeats 2000000 in
theorem way_read {w : World} {N : Nat → Prop} {b W k : Nat} {t : TS} {c : Bool} (h : Tr w N b t) (hr : t.rd ≤ 4611686018427387904) (c0 : w.cell? ⟨W, k, none⟩ = some (.pointer (some ⟨b, 0, none⟩))) (c1 : w.cell? ⟨W, k + 1, none⟩ = some (.int .i64 t.r)) (c2 : w.cell? ⟨W, k + 2, none⟩ = some (.int .i64 t.w)) (c3 : w.cell? ⟨W, k + 3, none⟩ = some (.bool c)) {i : Int} (h0 : 0 ≤ i) (h1 : i ≤ 1)
    {n : Int} (e1 : nextT t = ⟨1, 0, n, [], 0⟩) :
    Calls Try.prog 67 #[.pointer (some ⟨W, k, none⟩), .int .i64 i] w fun e w' => ∃ v, e = .returned v ∧ Fr [] w w' ∧ Wv w' w.heap.size v ⟨1, i, n, [], 0⟩ := by
  have HT := Lib.hid fun w1 (f : Fr [] w w1) => tr_next (h.keep0 f) hr
  rw [e1] at HT
  have hWl : W < w.heap.size := World.block_lt_of_cell? _ _ c0
  have HC := Lib.hid fun w1 (f : Fr [] w w1) => (show w1.cell? ⟨W, k, none⟩ = some (.pointer (some ⟨b, 0, none⟩)) ∧ w1.cell? ⟨W, k + 1, none⟩ = some (.int .i64 t.r) ∧ w1.cell? ⟨W, k + 2, none⟩ = some (.int .i64 t.w) ∧ w1.cell? ⟨W, k + 3, none⟩ = some (.bool c) from by
    have hk : ∀ j, w1.cell? ⟨W, j, none⟩ = w.cell? ⟨W, j, none⟩ := fun j => World.cell?_of_block (w := w) (f.block W hWl (by simp))
    exact ⟨(hk _).trans c0, (hk _).trans c1, (hk _).trans c2, (hk _).trans c3⟩)
  obtain ⟨W0, hW0, f0, hz0, b0⟩ : ∃ W, w.alloc (.cells #[.int .i64 0, .int .i64 0, .int .i64 0, .slice none 0 0, .int .i64 0] 32) = W ∧ Fr [] w W ∧ w.heap.size < W.heap.size ∧ WB W w.heap.size (.int .i64 0) (.int .i64 0) (.int .i64 0) (.slice none 0 0) (.int .i64 0) := ⟨_, rfl, (Fr.refl _ _).alloc _, by simp, newA rfl⟩
  clear c0 c1 c2 c3 h hr e1
  obtain ⟨d0, d1, d2, d3⟩ := HC.out _ f0
  go_enter Try.func67, Try.ntmps67
  go_wp2_with fail
  refine (HT.out _ f0).mono ?_
  rintro e w1 ⟨v, rfl, f1, u, rfl, ou⟩
  obtain ⟨ga, gc, rfl, _⟩ := ou.formB
  have b1 : WB w1 w.heap.size _ _ _ _ _ := f1.keep b0 (by simp)
  have hz1 : w.heap.size < w1.heap.size := Nat.lt_of_lt_of_le hz0 f1.size
  clear d0 d1 d2 d3 b0 hW0
  try simp only [List.length_nil] at ou ⊢
  obtain ⟨w2, hw2, f2, q2⟩ : ∃ W, w1.alloc (.cells #[.int .i64 1, .int .i64 0, .int .i64 n, .slice ga 0 gc, .int .i64 0] 32) = W ∧ Fr [] w1 W ∧ WB W w1.heap.size (.int .i64 1) (.int .i64 0) (.int .i64 n) (.slice ga 0 gc) (.int .i64 0) := ⟨_, rfl, (Fr.refl _ _).alloc _, newA rfl⟩
  have b2 : WB w2 w.heap.size _ _ _ _ _ := f2.keep b1 (by simp)
  have g2 := (f0.then0 f1).then0 f2
  have ou_lt := ou.lt
  have ou2 := ou.keep f2 (by simp)
  obtain ⟨d0, d1, d2, d3⟩ := HC.out _ g2
  have hsid : w2.setCell ⟨w1.heap.size, 4, none⟩ (.int .i64 0) = w2 := setCell_id q2 rfl
  obtain ⟨x0, x1, x2, x3, x4, x5, x6, x7, x8, x9⟩ := q2.cells
  obtain ⟨r0, r1, r2, r3, r4, r5, r6, r7, r8, r9⟩ := b2.cells
  have hne : w1.heap.size ≠ w.heap.size := by omega
  have hne2 : w.heap.size ≠ w1.heap.size := by omega
  have hOU := Lib.hid ou2
  have hB2 := Lib.hid b2
  have hQ2 := Lib.hid q2
  clear f1 f2 ou ou2 b1 b2 q2 HC HT
  have hlO : ∀ k, (Value.slice ga 0 gc).ownBlock = some k → k < w1.heap.size := fun k hk => (ou_lt k hk).2
  go_wp2_with fail
  have hB3 : WB (w2.setCell ⟨w1.heap.size, 1, none⟩ (.int .i64 i)) w.heap.size _ _ _ _ _ := keepS hB2.out (by dsimp only; omega)
  have hO3 := hOU.out.keep ((Fr.refl [w1.heap.size] w2).setCell (p := ⟨w1.heap.size, 1, none⟩) (.inl (by simp)) (.int .i64 i)) (fun k hk hm => by have := hlO k hk; simp at hm; omega)
  obtain ⟨W3, hW3, g3, q3, wv⟩ := five_fin (w := w) (k := 1) (s := i) (n := n) (e := 0) (u := (.slice ga 0 gc)) (l := []) hB3 (g2.setCell (p := ⟨w1.heap.size, 1, none⟩) (.inr (by dsimp only; omega)) (.int .i64 i)) (Nat.le_refl _) (M := W0.heap.size) hO3 hz0
  rw [← hW3]
  obtain ⟨s0, s1, s2, s3, s4, _⟩ := q3.cells
  refine bodyPost_ret (v := .agg #[.int .i64 1, .int .i64 i, .int .i64 n, (.slice ga 0 gc), .int .i64 0]) (by simp [results, Try.results67, go_sem, s0, s1, s2, s3, s4]) rfl ?_
  exact ⟨_, rfl, g3, wv⟩
theorem way_next {w : World} {N : Nat → Prop} {b W k : Nat} {t : TS} {c : Bool} (h : Tr w N b t) (hr : t.rd ≤ 4611686018427387904) (c0 : w.cell? ⟨W, k, none⟩ = some (.pointer (some ⟨b, 0, none⟩))) (c1 : w.cell? ⟨W, k + 1, none⟩ = some (.int .i64 t.r)) (c2 : w.cell? ⟨W, k + 2, none⟩ = some (.int .i64 t.w)) (c3 : w.cell? ⟨W, k + 3, none⟩ = some (.bool c)) {i : Int} (h0 : 0 ≤ i) (h1 : i ≤ 1) :
    Calls Try.prog 67 #[.pointer (some ⟨W, k, none⟩), .int .i64 i] w fun e w' => ∃ v, e = .returned v ∧ Fr [] w w' ∧ Wv w' w.heap.size v (nextS t c i) := by
  rcases nextS_cases t c i with ⟨hw, e1, e2⟩ | ⟨_, _, e1, e2⟩ | ⟨hw, h13, hc, e1, e2⟩ | ⟨hw, hc, e1, e2⟩ | ⟨n, e1, e2⟩ <;> rw [e2]
  · exact way_fail h hr c0 c1 c2 c3 h0 h1 hw e1
  · exact way_write h hr c0 c1 c2 c3 h0 h1 e1
  · exact way_close h hr c0 c1 c2 c3 h0 h1 hw h13 hc e1
  · exact way_done h hr c0 c1 c2 c3 h0 h1 hw hc e1
  · exact way_read h hr c0 c1 c2 c3 h0 h1 e1
end Go.Proofs.Ytodpkdbcdbdjfaa
