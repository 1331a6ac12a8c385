/-
  Package splice: the contracts of New and Copy.
-/
import Derived.Test.YtodpkdbcdbdjfaaSpOps
import Derived.BigRegion
namespace Go.Proofs.Ytodpkdbcdbdjfaa
open Go.RowKit
set_option maxRecDepth 100000

def newS (st : Int) : SS := ⟨newT st (-1), newT st (-1), false, false, 0⟩
/-- A transfer whose blocks are none of those that are listed; of old blocks it has only those that N0 allows. -/
def Tx (w0 : World) (N0 : Nat → Prop) (wr : World) (L : List Nat) (p : Nat) (t : TS) : Prop := ∃ N : Nat → Prop, Tr wr N p t ∧ (∀ x ∈ L, ¬ N x) ∧ ∀ y, y < w0.heap.size → N y → N0 y
theorem Tx.out {w0 wr wr' : World} {N0 : Nat → Prop} {L : List Nat} {p : Nat} {t : TS} (h : Tx w0 N0 wr L p t) {S : List Nat} (f : Fr S wr wr') (hp : p ∉ S) (hS : ∀ x ∈ S, x ∈ L) (L' : List Nat) (hL' : ∀ x ∈ L', wr.heap.size ≤ x ∧ x < wr'.heap.size) (hw : w0.heap.size ≤ wr.heap.size) (hl : ∀ x ∈ L, x < wr'.heap.size) : Tx w0 N0 wr' (L' ++ L) p t := by
  obtain ⟨N, h1, h2, h3⟩ := h
  have hz := f.size
  refine ⟨_, h1.out f hp (fun x hx => h2 x (hS x hx)), fun x hx => ?_, fun y hy hn => ?_⟩
  · rintro (⟨k1, k2⟩ | k)
    · rcases List.mem_append.1 hx with hx | hx
      · have := (hL' x hx).1; omega
      · exact h2 x hx k1
    · rcases List.mem_append.1 hx with hx | hx
      · have := (hL' x hx).2; omega
      · have := hl x hx; omega
  · rcases hn with ⟨k1, k2⟩ | k
    · exact h3 y hy k1
    · omega
theorem way_set0 {w : World} {W : Nat} {v0 v1 v2 v3 v4 v5 v6 v7 : Value} (h : w.heap[W]? = some (.cells #[v0, v1, v2, v3, v4, v5, v6, v7] 120 (0, 0))) (u : Value) : (w.setCell ⟨W, 0, none⟩ u).heap[W]? = some (.cells #[u, v1, v2, v3, v4, v5, v6, v7] 120 (0, 0)) := by
  have := heap_setCell_eq (i := 0) (u := u) h
  simpa using this
theorem way_set4 {w : World} {W : Nat} {v0 v1 v2 v3 v4 v5 v6 v7 : Value} (h : w.heap[W]? = some (.cells #[v0, v1, v2, v3, v4, v5, v6, v7] 120 (0, 0))) (u : Value) : (w.setCell ⟨W, 4, none⟩ u).heap[W]? = some (.cells #[v0, v1, v2, v3, u, v5, v6, v7] 120 (0, 0)) := by
  have := heap_setCell_eq (i := 4) (u := u) h
  simpa using this

theorem sp_new_bad (w : World) {st : Int} (h : okS st (-1) = false) :
    Calls Try.prog 31 #[.int .i64 st] w fun e w' => e = .returned (.tuple #[.pointer none, .int .i64 2]) ∧ Fr [] w w' := by
  have H := Lib.hid (tr_new_bad (w.alloc (.cells #[.pointer none, .int .i64 0, .int .i64 0, .bool false, .pointer none, .int .i64 0, .int .i64 0, .bool false] 120)) h)
  clear h
  go_enter Try.func31, Try.ntmps31
  go_wp2_with fail
  go_loopw [8] (fun i wr => i = .int .i64 0 ∧ wr = w.alloc (.cells #[.pointer none, .int .i64 0, .int .i64 0, .bool false, .pointer none, .int .i64 0, .int .i64 0, .bool false] 120)) (fun i _ => 3 - (intOf i).toNat)
  case atStart => exact ⟨rfl, rfl⟩
  case round =>
    obtain ⟨rfl, rfl⟩ := hrel
    go_wp2_with fail
    refine H.out.mono ?_
    rintro e w' ⟨rfl, rfl⟩
    go_wp2_with fail
    go_ret2
    exact ⟨rfl, (Fr.refl _ _).alloc _⟩

set_option maxHeartbeats 4000000 in
theorem sp_new_ok (w : World) {st : Int} (h : okS st (-1) = true) :
    Calls Try.prog 31 #[.int .i64 st] w fun e w' => ∃ b W b0 b1, e = .returned (.tuple #[.pointer (some ⟨b, 0, none⟩), .int .i64 0]) ∧ Fr [] w w' ∧ Sp w' (fun x => w'.heap.size ≤ x) (fun x => w'.heap.size ≤ x) b W b0 b1 (newS st) ∧ w.heap.size ≤ b ∧ w.heap.size ≤ W ∧ w.heap.size ≤ b0 ∧ w.heap.size ≤ b1 := by
  have H := Lib.hid fun w1 => tr_new_ok w1 h
  obtain ⟨w0, hw0, f0, q0⟩ : ∃ W, w.alloc (.cells #[.pointer none, .int .i64 0, .int .i64 0, .bool false, .pointer none, .int .i64 0, .int .i64 0, .bool false] 120) = W ∧ Fr [] w W ∧ W.heap[w.heap.size]? = some (.cells #[.pointer none, .int .i64 0, .int .i64 0, .bool false, .pointer none, .int .i64 0, .int .i64 0, .bool false] 120 (0, 0)) := ⟨_, rfl, (Fr.refl _ _).alloc _, newA rfl⟩
  clear h
  go_enter Try.func31, Try.ntmps31
  go_wp2_with fail
  go_loopw [8] (fun i wr => ∃ (k : Nat) (p0 p1 : Value), i = .int .i64 k ∧ k ≤ 2 ∧ Fr [] w wr ∧ wr.heap[w.heap.size]? = some (.cells #[p0, .int .i64 0, .int .i64 0, .bool false, p1, .int .i64 0, .int .i64 0, .bool false] 120 (0, 0)) ∧ Hid (1 ≤ k → ∃ b0, p0 = .pointer (some ⟨b0, 0, none⟩) ∧ w.heap.size < b0 ∧ ∃ N, Tr wr N b0 (newT st (-1))) ∧ Hid (2 ≤ k → ∃ b1, p1 = .pointer (some ⟨b1, 0, none⟩) ∧ w.heap.size < b1 ∧ p0 ≠ .pointer (some ⟨b1, 0, none⟩) ∧ ∃ N, Tr wr N b1 (newT st (-1)))) (fun i _ => 3 - (intOf i).toNat)
  case atStart => exact ⟨0, .pointer none, .pointer none, rfl, by omega, f0, q0, Lib.hid (by omega), Lib.hid (by omega)⟩
  case round =>
    obtain ⟨k, p0, p1, rfl, hk, g, q, H0, H1⟩ := hrel
    clear f0 q0 hw0
    rcases (show k = 0 ∨ k = 1 ∨ k = 2 from by omega) with rfl | rfl | rfl
    · clear H0 H1
      go_wp2_with fail
      refine (H.out _).mono ?_
      rintro e w1 ⟨rfl, f1, ht⟩
      have q1 := f1.keep q (by simp)
      have z1 : w1.frozen? ⟨w.heap.size, 0, none⟩ = false := free_of q1
      have c1 : w1.cell? ⟨w.heap.size, 0, none⟩ = some p0 := cell_of q1
      have hlt : w.heap.size < wr.heap.size := lt_of_heap q
      have hz : w.heap.size < w1.heap.size := lt_of_heap q1
      have f2 : Fr [w.heap.size] w1 (w1.setCell ⟨w.heap.size, 0, none⟩ (.pointer (some ⟨wr.heap.size, 0, none⟩))) := (Fr.refl _ _).setCell (.inl (by simp)) _
      have Q2 := Lib.hid (way_set0 q1 (.pointer (some ⟨wr.heap.size, 0, none⟩)))
      have G2 := Lib.hid ((g.then0 f1).trans f2 (U := []) (by simp) (fun x hx => .inr (by simp at hx; omega)))
      have HT : Hid (1 ≤ 1 → ∃ b0, (.pointer (some ⟨wr.heap.size, 0, none⟩) : Value) = .pointer (some ⟨b0, 0, none⟩) ∧ w.heap.size < b0 ∧ ∃ N, Tr (w1.setCell ⟨w.heap.size, 0, none⟩ (.pointer (some ⟨wr.heap.size, 0, none⟩))) N b0 (newT st (-1))) := Lib.hid fun _ => ⟨_, rfl, hlt, _, ((ht.empty rfl (N' := fun x => w1.heap.size ≤ x) (fun x hx => hx) (by have := ht.lt; omega)).keep f2 (by simp; omega) (by simp; omega))⟩
      clear q f1 ht q1 f2 g
      go_wp2_with fail
      go_roundw
      case rel => exact ⟨1, _, p1, rfl, by omega, G2.out, Q2.out, HT, Lib.hid (by omega)⟩
      case measure => simp [intOf]
    · obtain ⟨b0, rfl, hb0, N, ht0⟩ := H0.out (by omega)
      clear H0 H1
      go_wp2_with fail
      refine (H.out _).mono ?_
      rintro e w1 ⟨rfl, f1, ht⟩
      have q1 := f1.keep q (by simp)
      have z1 : w1.frozen? ⟨w.heap.size, 4, none⟩ = false := free_of q1
      have c1 : w1.cell? ⟨w.heap.size, 4, none⟩ = some p1 := cell_of q1
      have hlt : w.heap.size < wr.heap.size := lt_of_heap q
      have hz : w.heap.size < w1.heap.size := lt_of_heap q1
      have hb0l := ht0.lt
      have f2 : Fr [w.heap.size] w1 (w1.setCell ⟨w.heap.size, 4, none⟩ (.pointer (some ⟨wr.heap.size, 0, none⟩))) := (Fr.refl _ _).setCell (.inl (by simp)) _
      have Q2 := Lib.hid (way_set4 q1 (.pointer (some ⟨wr.heap.size, 0, none⟩)))
      have G2 := Lib.hid ((g.then0 f1).trans f2 (U := []) (by simp) (fun x hx => .inr (by simp at hx; omega)))
      have HT : Hid (2 ≤ 2 → ∃ b1, (.pointer (some ⟨wr.heap.size, 0, none⟩) : Value) = .pointer (some ⟨b1, 0, none⟩) ∧ w.heap.size < b1 ∧ (.pointer (some ⟨b0, 0, none⟩) : Value) ≠ .pointer (some ⟨b1, 0, none⟩) ∧ ∃ N, Tr (w1.setCell ⟨w.heap.size, 4, none⟩ (.pointer (some ⟨wr.heap.size, 0, none⟩))) N b1 (newT st (-1))) := Lib.hid fun _ => ⟨_, rfl, hlt, (by intro e; injection e with e; injection e with e; injection e with e; omega), _, ((ht.empty rfl (N' := fun x => w1.heap.size ≤ x) (fun x hx => hx) (by have := ht.lt; omega)).keep f2 (by simp; omega) (by simp; omega))⟩
      have HT0 : Hid (1 ≤ 2 → ∃ b0', (.pointer (some ⟨b0, 0, none⟩) : Value) = .pointer (some ⟨b0', 0, none⟩) ∧ w.heap.size < b0' ∧ ∃ N, Tr (w1.setCell ⟨w.heap.size, 4, none⟩ (.pointer (some ⟨wr.heap.size, 0, none⟩))) N b0' (newT st (-1))) := Lib.hid fun _ => ⟨b0, rfl, hb0, _, (((ht0.keep0 f1).empty rfl (N' := fun x => w1.heap.size ≤ x) (fun x hx => hx) (by have := f1.size; omega)).keep f2 (by simp; omega) (by simp; omega))⟩
      clear q f1 ht q1 f2 g ht0
      go_wp2_with fail
      go_roundw
      case rel => exact ⟨2, _, _, rfl, by omega, G2.out, Q2.out, HT0, HT⟩
      case measure => simp [intOf]
    · obtain ⟨b0, rfl, hb0, M0, ht0⟩ := H0.out (by omega)
      obtain ⟨b1, rfl, hb1, hne, M1, ht1⟩ := H1.out (by omega)
      have h01 : b0 ≠ b1 := fun e => hne (by rw [e])
      have hb0l := ht0.lt
      have hb1l := ht1.lt
      have hwl : w.heap.size < wr.heap.size := lt_of_heap q
      obtain ⟨w5, hw5, f5, q5⟩ : ∃ W, wr.alloc (.cells #[.pointer (some ⟨w.heap.size, 0, none⟩), .int .i64 0] 103) = W ∧ Fr [] wr W ∧ W.heap[wr.heap.size]? = some (.cells #[.pointer (some ⟨w.heap.size, 0, none⟩), .int .i64 0] 103 (0, 0)) := ⟨_, rfl, (Fr.refl _ _).alloc _, newA rfl⟩
      have hz5 := lt_of_heap q5
      have HSP : Hid (Sp w5 (fun x => w5.heap.size ≤ x) (fun x => w5.heap.size ≤ x) wr.heap.size w.heap.size b0 b1 (newS st)) := Lib.hid ⟨q5, f5.keep q (by simp), (ht0.keep0 f5).empty rfl (fun x hx => hx) (by omega), (ht1.keep0 f5).empty rfl (fun x hx => hx) (by omega), ⟨by omega, by omega, by omega⟩, ⟨by omega, by omega, by omega⟩, ⟨by omega, by omega, by omega, by omega, by omega, h01⟩⟩
      have G5 := Lib.hid (g.then0 f5)
      clear q5 f5 q g ht0 ht1 H0 H1 hne
      go_wp2_with fail
      go_ret2
      exact ⟨_, _, _, _, rfl, G5.out, HSP.out, by omega, by omega, by omega, by omega⟩

theorem sp_copy_z {w : World} {r : Option Addr} (h : Zs w r) :
    Calls Try.prog 46 #[.pointer r] w fun e w' => e = .returned (.pointer none) ∧ Fr [] w w' := by
  have HCK := Lib.hid (sp_check_z h 0)
  clear h
  go_enter Try.func46, Try.ntmps46
  go_wp2_with fail
  refine HCK.out.mono ?_
  rintro e w' ⟨rfl, rfl⟩
  go_wp2_with fail
  go_ret
  exact ⟨rfl, Fr.refl _ _⟩
set_option maxHeartbeats 4000000 in
theorem sp_copy {w : World} {N0 N1 : Nat → Prop} {b W b0 b1 : Nat} {s : SS} (h : Sp w N0 N1 b W b0 b1 s) :
    Calls Try.prog 46 #[.pointer (some ⟨b, 0, none⟩)] w fun e w' => ∃ b' W' b0' b1' N0' N1', e = .returned (.pointer (some ⟨b', 0, none⟩)) ∧ Fr [] w w' ∧ Sp w' N0' N1' b' W' b0' b1' s ∧ (∀ y, y < w.heap.size → N0' y → N0 y) ∧ (∀ y, y < w.heap.size → N1' y → N1 y) ∧ w.heap.size ≤ b' ∧ w.heap.size ≤ W' ∧ w.heap.size ≤ b0' ∧ w.heap.size ≤ b1' := by
  have HCK := Lib.hid (sp_check_ok h.q (i := 0) (by simp))
  obtain ⟨hb, hW, hb0, hb1⟩ := h.lt
  have e0 : w.cell? ⟨b, 0, none⟩ = some (.pointer (some ⟨W, 0, none⟩)) := cell_of h.q
  have y0 : w.cell? ⟨W, 0, none⟩ = _ := cell_of h.y
  have y1 : w.cell? ⟨W, 1, none⟩ = _ := cell_of h.y
  have y2 : w.cell? ⟨W, 2, none⟩ = _ := cell_of h.y
  have y3 : w.cell? ⟨W, 3, none⟩ = _ := cell_of h.y
  have y4 : w.cell? ⟨W, 4, none⟩ = _ := cell_of h.y
  have y5 : w.cell? ⟨W, 5, none⟩ = _ := cell_of h.y
  have y6 : w.cell? ⟨W, 6, none⟩ = _ := cell_of h.y
  have y7 : w.cell? ⟨W, 7, none⟩ = _ := cell_of h.y
  obtain ⟨w0, hw0, f0, q0⟩ : ∃ W', w.alloc (.cells #[.pointer (some ⟨b0, 0, none⟩), .int .i64 s.t0.r, .int .i64 s.t0.w, .bool s.c0, .pointer (some ⟨b1, 0, none⟩), .int .i64 s.t1.r, .int .i64 s.t1.w, .bool s.c1] 120) = W' ∧ Fr [] w W' ∧ W'.heap[w.heap.size]? = some (.cells #[.pointer (some ⟨b0, 0, none⟩), .int .i64 s.t0.r, .int .i64 s.t0.w, .bool s.c0, .pointer (some ⟨b1, 0, none⟩), .int .i64 s.t1.r, .int .i64 s.t1.w, .bool s.c1] 120 (0, 0)) := ⟨_, rfl, (Fr.refl _ _).alloc _, newA rfl⟩
  have hz0 := lt_of_heap q0
  have X0 : Hid (Tx w N0 w0 [w.heap.size] b0 s.t0) := Lib.hid ⟨_, h.h0.out f0 (by simp) (by simp), (by simp; omega), fun y hy hn => by rcases hn with hn | hn; exact hn.1; omega⟩
  have X1 : Hid (Tx w N1 w0 [w.heap.size] b1 s.t1) := Lib.hid ⟨_, h.h1.out f0 (by simp) (by simp), (by simp; omega), fun y hy hn => by rcases hn with hn | hn; exact hn.1; omega⟩
  have HQ := Lib.hid fun w1 (f : Fr [] w w1) => (show w1.cell? ⟨b, 1, none⟩ = some (.int .i64 s.first) from cell_of (f.keep h.q (by simp)))
  clear h
  go_enter Try.func46, Try.ntmps46
  go_wp2_with fail
  refine HCK.out.mono ?_
  rintro e w' ⟨rfl, rfl⟩
  clear HCK
  go_wp2_with fail
  clear y0 y1 y2 y3 y4 y5 y6 y7 e0
  go_loopw [14] (fun i wr => ∃ (k p0 p1 : Nat), i = .int .i64 k ∧ k ≤ 2 ∧ Fr [] w wr ∧ wr.heap[w.heap.size]? = some (.cells #[.pointer (some ⟨p0, 0, none⟩), .int .i64 s.t0.r, .int .i64 s.t0.w, .bool s.c0, .pointer (some ⟨p1, 0, none⟩), .int .i64 s.t1.r, .int .i64 s.t1.w, .bool s.c1] 120 (0, 0)) ∧ Hid (k = 0 → p0 = b0 ∧ p1 = b1 ∧ Tx w N0 wr [w.heap.size] b0 s.t0 ∧ Tx w N1 wr [w.heap.size] b1 s.t1) ∧ Hid (k = 1 → p1 = b1 ∧ w.heap.size < p0 ∧ p0 < wr.heap.size ∧ Tx w N0 wr [p0, w.heap.size] p0 s.t0 ∧ Tx w N1 wr [p0, w.heap.size] b1 s.t1) ∧ Hid (k = 2 → w.heap.size < p0 ∧ p0 < p1 ∧ p1 < wr.heap.size ∧ Tx w N0 wr [p1, p0, w.heap.size] p0 s.t0 ∧ Tx w N1 wr [p1, p0, w.heap.size] p1 s.t1)) (fun i _ => 3 - (intOf i).toNat)
  case atStart => exact ⟨0, b0, b1, rfl, by omega, f0, q0, Lib.hid fun _ => ⟨rfl, rfl, X0.out, X1.out⟩, Lib.hid (by omega), Lib.hid (by omega)⟩
  case round =>
    obtain ⟨k, p0, p1, rfl, hk, g, q, H0, H1, H2⟩ := hrel
    clear f0 q0 hw0 X0 X1
    have hwl : w.heap.size < wr.heap.size := lt_of_heap q
    rcases (show k = 0 ∨ k = 1 ∨ k = 2 from by omega) with rfl | rfl | rfl
    · obtain ⟨rfl, rfl, ⟨NA, t0, l0, o0⟩, x1⟩ := H0.out rfl
      clear H0 H1 H2
      have HC := Lib.hid (tr_copy t0)
      have c0 : wr.cell? ⟨w.heap.size, 0, none⟩ = some (.pointer (some ⟨p0, 0, none⟩)) := cell_of q
      go_wp2_with fail
      refine HC.out.mono ?_
      rintro e w1 ⟨rfl, f1, ht⟩
      have q1 := f1.keep q (by simp)
      have z1 : w1.frozen? ⟨w.heap.size, 0, none⟩ = false := free_of q1
      have hz := f1.size
      have hl1 := ht.lt
      have f2 : Fr [w.heap.size] w1 (w1.setCell ⟨w.heap.size, 0, none⟩ (.pointer (some ⟨wr.heap.size, 0, none⟩))) := (Fr.refl _ _).setCell (.inl (by simp)) _
      have hs2 : (w1.setCell ⟨w.heap.size, 0, none⟩ (.pointer (some ⟨wr.heap.size, 0, none⟩))).heap.size = w1.heap.size := by simp
      have c1 : w1.cell? ⟨w.heap.size, 0, none⟩ = some (.pointer (some ⟨p0, 0, none⟩)) := cell_of q1
      have Q2 := Lib.hid (way_set0 q1 (.pointer (some ⟨wr.heap.size, 0, none⟩)))
      have G2 := Lib.hid ((g.then0 f1).trans f2 (U := []) (by simp) (fun x hx => .inr (by simp at hx; omega)))
      have xa : Tx w N0 w1 [wr.heap.size, w.heap.size] wr.heap.size s.t0 := ⟨_, ht, (by simp; exact fun hn => absurd hn (l0 _ (by simp))), fun y hy hn => o0 y hy hn.1⟩
      have XA := Lib.hid (xa.out f2 (by simp; omega) (by simp) [] (by simp) (by omega) (by simp [hs2]; omega))
      have XB := Lib.hid ((x1.out f1 (by simp) (by simp) [wr.heap.size] (by simp; omega) (by omega) (by simp; omega)).out f2 (by simp; omega) (by simp) [] (by simp) (by omega) (by simp [hs2]; omega))
      clear c0 q f1 ht q1 f2 g xa x1 t0 l0 o0 HC
      go_wp2_with fail
      go_roundw
      case rel => exact ⟨1, _, _, rfl, by omega, G2.out, Q2.out, Lib.hid (by omega), Lib.hid fun _ => ⟨rfl, hwl, by rw [hs2]; exact hl1, XA.out, XB.out⟩, Lib.hid (by omega)⟩
      case measure => simp [intOf]
    · obtain ⟨rfl, hp0, hp0l, x0, ⟨NB, t1, l1, o1⟩⟩ := H1.out rfl
      clear H0 H1 H2
      have HC := Lib.hid (tr_copy t1)
      have c0 : wr.cell? ⟨w.heap.size, 4, none⟩ = some (.pointer (some ⟨p1, 0, none⟩)) := cell_of q
      go_wp2_with fail
      refine HC.out.mono ?_
      rintro e w1 ⟨rfl, f1, ht⟩
      have q1 := f1.keep q (by simp)
      have z1 : w1.frozen? ⟨w.heap.size, 4, none⟩ = false := free_of q1
      have hz := f1.size
      have hl1 := ht.lt
      have f2 : Fr [w.heap.size] w1 (w1.setCell ⟨w.heap.size, 4, none⟩ (.pointer (some ⟨wr.heap.size, 0, none⟩))) := (Fr.refl _ _).setCell (.inl (by simp)) _
      have hs2 : (w1.setCell ⟨w.heap.size, 4, none⟩ (.pointer (some ⟨wr.heap.size, 0, none⟩))).heap.size = w1.heap.size := by simp
      have c1 : w1.cell? ⟨w.heap.size, 4, none⟩ = some (.pointer (some ⟨p1, 0, none⟩)) := cell_of q1
      have Q2 := Lib.hid (way_set4 q1 (.pointer (some ⟨wr.heap.size, 0, none⟩)))
      have G2 := Lib.hid ((g.then0 f1).trans f2 (U := []) (by simp) (fun x hx => .inr (by simp at hx; omega)))
      have xb : Tx w N1 w1 [wr.heap.size, p0, w.heap.size] wr.heap.size s.t1 := ⟨_, ht, (by simp; exact ⟨fun hn => absurd hn (l1 _ (by simp)), fun hn => absurd hn (l1 _ (by simp))⟩), fun y hy hn => o1 y hy hn.1⟩
      have XB := Lib.hid (xb.out f2 (by simp; omega) (by simp) [] (by simp) (by omega) (by simp [hs2]; omega))
      have XA := Lib.hid ((x0.out f1 (by simp) (by simp) [wr.heap.size] (by simp; omega) (by omega) (by simp; omega)).out f2 (by simp; omega) (by simp) [] (by simp) (by omega) (by simp [hs2]; omega))
      clear c0 q f1 ht q1 f2 g xb x0 t1 l1 o1 HC
      go_wp2_with fail
      go_roundw
      case rel => exact ⟨2, _, _, rfl, by omega, G2.out, Q2.out, Lib.hid (by omega), Lib.hid (by omega), Lib.hid fun _ => ⟨hp0, hp0l, by rw [hs2]; exact hl1, XA.out, XB.out⟩⟩
      case measure => simp [intOf]
    · obtain ⟨hp0, hp01, hp1l, x0, x1⟩ := H2.out rfl
      clear H0 H1 H2
      have e1 := HQ.out _ g
      obtain ⟨w5, hw5, f5, q5⟩ : ∃ W', wr.alloc (.cells #[.pointer (some ⟨w.heap.size, 0, none⟩), .int .i64 s.first] 103) = W' ∧ Fr [] wr W' ∧ W'.heap[wr.heap.size]? = some (.cells #[.pointer (some ⟨w.heap.size, 0, none⟩), .int .i64 s.first] 103 (0, 0)) := ⟨_, rfl, (Fr.refl _ _).alloc _, newA rfl⟩
      have hz5 := lt_of_heap q5
      obtain ⟨NA, ta, la, oa⟩ := x0.out f5 (by simp) (by simp) [wr.heap.size] (by simp; omega) (by omega) (by simp; omega)
      obtain ⟨NB, tb, lb, ob⟩ := x1.out f5 (by simp) (by simp) [wr.heap.size] (by simp; omega) (by omega) (by simp; omega)
      simp only [List.mem_append, List.mem_cons, List.not_mem_nil, or_false, forall_eq_or_imp, forall_eq] at la lb
      obtain ⟨la1, la2, la3, la4⟩ := la
      obtain ⟨lb1, lb2, lb3, lb4⟩ := lb
      have HSP : Hid (Sp w5 NA NB wr.heap.size w.heap.size p0 p1 s) := Lib.hid ⟨q5, f5.keep q (by simp), ta, tb, ⟨la1, la4, la2⟩, ⟨lb1, lb4, lb3⟩, ⟨by omega, by omega, by omega, by omega, by omega, by omega⟩⟩
      have HO := Lib.hid (And.intro oa ob)
      have G5 := Lib.hid (g.then0 f5)
      clear q5 f5 q x0 x1 ta tb oa ob la1 la2 la3 la4 lb1 lb2 lb3 lb4 g
      go_wp2_with fail
      go_ret
      exact ⟨_, _, _, _, _, _, rfl, G5.out, HSP.out, HO.out.1, HO.out.2, by omega, by omega, by omega, by omega⟩
end Go.Proofs.Ytodpkdbcdbdjfaa
