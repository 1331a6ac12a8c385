/-
  Package stream: cut, which cuts bytes off the front of a rest.
-/
import Derived.Test.YtdoamelhclnphaaStMath
import Derived.Test.YtdoamelhclnphaaRopeTake
import Derived.BigRegion
import Derived.Handy
namespace Go.Proofs.Ytdoamelhclnphaa
open Go.RowKit
set_option maxRecDepth 100000

theorem two_at {w : World} {b k : Nat} {c : Array Value} {t : TypeId} {u0 u1 : Value} (h : w.heap[b]? = some (.cells c t (0, 0))) :
    ((w.setCell ⟨b, k, none⟩ u0).setCell ⟨b, k + 1, none⟩ u1).heap[b]? = some (.cells ((c.setIfInBounds k u0).setIfInBounds (k + 1) u1) t (0, 0)) :=
  heap_setCell_eq (i := k + 1) (u := u1) (heap_setCell_eq (i := k) (u := u0) h)
def CutPost (N : Nat → Prop) (b k : Nat) (c : Array Value) (t : TypeId) (P : Parts) (m : Nat) (w : World) (e : Ending) (w' : World) : Prop :=
  ∃ Z u a' cap' P', e = .returned u ∧ Fr [b] w w' ∧ w'.heap[b]? = some (.cells ((c.setIfInBounds k (.slice a' (List.length P') cap')).setIfInBounds (k + 1) (.int .i64 (tot P'))) t (0, 0)) ∧ w.heap.size ≤ Z ∧
    Rp w' (fun x => (N x ∨ w.heap.size ≤ x) ∧ x < Z) (.agg #[.slice a' (List.length P') cap', .int .i64 (tot P')]) P' ∧ P'.flatten = P.flatten.drop m ∧ Ow w' Z 5 u ((bi (P.flatten.take m)).map (Value.int .u8))

set_option maxHeartbeats 1000000 in
theorem st_cut {w : World} {N : Nat → Prop} {b k : Nat} {c : Array Value} {t : TypeId} {a : Option Addr} {cap : Nat} {P : Parts} (h : w.heap[b]? = some (.cells c t (0, 0))) (c0 : c[k]? = some (.slice a P.length cap)) (c1 : c[k + 1]? = some (.int .i64 (tot P))) (hr : Rp w N (.agg #[.slice a P.length cap, .int .i64 (tot P)]) P) (hN : ¬ N b) (hk : k = 0 ∨ k = 2) {m : Int} (h0 : 0 ≤ m) :
    Calls Try.prog 149 #[.pointer (some ⟨b, k, none⟩), .int .i64 m] w (CutPost N b k c t P m.toNat w) := by
  rcases hk with rfl | rfl
  · have hblt := lt_of_heap h
    have HT := Lib.hid (rope_take hr h0)
    have x0 : w.cell? ⟨b, 0, none⟩ = some (.slice a P.length cap) := (cell_of h).trans c0
    have x1 : w.cell? ⟨b, 1, none⟩ = some (.int .i64 (tot P)) := (cell_of h).trans c1
    have HH := Lib.hid h
    have HC := Lib.hid (And.intro c0 c1)
    clear h hr c0 c1 h0
    go_enter Try.func149, Try.ntmps149
    go_wp2_with fail
    refine HT.out.mono ?_
    rintro e w3 ⟨v1, v2, rfl, g3, r1, r2⟩
    clear HT x0 x1
    have e1 := cutF_flat P m.toNat
    have e2 := cutR_flat P m.toNat
    generalize cutF P m.toNat = F at *
    generalize cutR P m.toNat = R at *
    obtain ⟨a1, cap1, rfl, _⟩ := id r1
    obtain ⟨a2, cap2, rfl, _⟩ := id r2
    have h3 := g3.keep HH.out (by simp)
    have HF : Hid (F.flatten = P.flatten.take m.toNat ∧ R.flatten = P.flatten.drop m.toNat) := Lib.hid ⟨e1, e2⟩
    have hz3 := g3.size
    obtain ⟨w4, hw4, f4, q5, q6⟩ : ∃ W, (w3.alloc (.cells #[.slice a1 F.length cap1, .int .i64 (tot F)] 57)).alloc (.cells #[.slice a2 R.length cap2, .int .i64 (tot R)] 57) = W ∧ Fr [] w3 W ∧ W.heap[w3.heap.size]? = some (.cells #[.slice a1 F.length cap1, .int .i64 (tot F)] 57 (0, 0)) ∧ W.heap[w3.heap.size + 1]? = some (.cells #[.slice a2 R.length cap2, .int .i64 (tot R)] 57 (0, 0)) := ⟨_, rfl, ((Fr.refl _ _).alloc _).alloc _, keepA (newA rfl), newA (by simp)⟩
    have h4 := f4.keep h3 (by simp)
    have z4 : w3.heap.size + 1 < w4.heap.size := lt_of_heap q6
    have y0 : w4.cell? ⟨w3.heap.size + 1, 0, none⟩ = some (.slice a2 R.length cap2) := cell_of q6
    have y1 : w4.cell? ⟨w3.heap.size + 1, 1, none⟩ = some (.int .i64 (tot R)) := cell_of q6
    have y2 : w4.frozen? ⟨b, 0, none⟩ = false := free_of h4
    have y3 : w4.frozen? ⟨b, 1, none⟩ = false := free_of h4
    have y4 : w4.cell? ⟨b, 0, none⟩ = some (.slice a P.length cap) := (cell_of h4).trans HC.out.1
    have y5 : w4.cell? ⟨b, 1, none⟩ = some (.int .i64 (tot P)) := (cell_of h4).trans HC.out.2
    obtain ⟨w5, hw5, f5, h5, k5⟩ : ∃ W, (w4.setCell ⟨b, 0, none⟩ (.slice a2 R.length cap2)).setCell ⟨b, 1, none⟩ (.int .i64 (tot R)) = W ∧ Fr [b] w4 W ∧ W.heap[b]? = some (.cells ((c.setIfInBounds 0 (.slice a2 R.length cap2)).setIfInBounds (1) (.int .i64 (tot R))) t (0, 0)) ∧ W.heap[w3.heap.size]? = some (.cells #[.slice a1 F.length cap1, .int .i64 (tot F)] 57 (0, 0)) := ⟨_, rfl, ((Fr.refl _ _).setCell (.inl (by simp)) _).setCell (.inl (by simp)) _, two_at h4, keepS (keepS q5 (by dsimp only; omega)) (by dsimp only; omega)⟩
    have z0 : w5.cell? ⟨w3.heap.size, 0, none⟩ = some (.slice a1 F.length cap1) := cell_of k5
    have z1 : w5.cell? ⟨w3.heap.size, 1, none⟩ = some (.int .i64 (tot F)) := cell_of k5
    have hNb : ∀ x ∈ [b], ¬ (N x ∨ w.heap.size ≤ x) := fun x hx => by simp at hx; subst hx; rintro (hn | hn); exact hN hn; omega
    have hz5 := f5.size
    have HB := Lib.hid (rope_bytes ((r1.keep f4 (by simp)).keep f5 hNb))
    have HR := Lib.hid (r2.there.mono (N' := fun x => (N x ∨ w.heap.size ≤ x) ∧ x < w5.heap.size) (fun x hx => ⟨hx.1, by have := hx.2; omega⟩))
    have HG := Lib.hid (((g3.then0 f4).mono (T := [b]) (by simp)).then f5)
    have H5 := Lib.hid h5
    have HFF := Lib.hid (And.intro f4 f5)
    clear r1 r2 h3 h4 h5 k5 q5 q6 g3 f4 f5 HH e1 e2
    go_wp2_with fail
    refine HB.out.mono ?_
    rintro e w6 ⟨u, rfl, f6, o6⟩
    go_wp2_with fail
    go_ret
    obtain ⟨e1, e2⟩ := HF.out
    rw [e1] at o6
    exact ⟨w5.heap.size, u, a2, cap2, R, rfl, HG.out.then0 f6, f6.keep H5.out (by simp), by have := HG.out.size; omega, ((HR.out.keep HFF.out.1 (by simp)).keep HFF.out.2 (fun x hx hn => hNb x hx hn.1)).keep f6 (by simp), e2, o6⟩
  · have hblt := lt_of_heap h
    have HT := Lib.hid (rope_take hr h0)
    have x0 : w.cell? ⟨b, 2, none⟩ = some (.slice a P.length cap) := (cell_of h).trans c0
    have x1 : w.cell? ⟨b, 3, none⟩ = some (.int .i64 (tot P)) := (cell_of h).trans c1
    have HH := Lib.hid h
    have HC := Lib.hid (And.intro c0 c1)
    clear h hr c0 c1 h0
    go_enter Try.func149, Try.ntmps149
    go_wp2_with fail
    refine HT.out.mono ?_
    rintro e w3 ⟨v1, v2, rfl, g3, r1, r2⟩
    clear HT x0 x1
    have e1 := cutF_flat P m.toNat
    have e2 := cutR_flat P m.toNat
    generalize cutF P m.toNat = F at *
    generalize cutR P m.toNat = R at *
    obtain ⟨a1, cap1, rfl, _⟩ := id r1
    obtain ⟨a2, cap2, rfl, _⟩ := id r2
    have h3 := g3.keep HH.out (by simp)
    have HF : Hid (F.flatten = P.flatten.take m.toNat ∧ R.flatten = P.flatten.drop m.toNat) := Lib.hid ⟨e1, e2⟩
    have hz3 := g3.size
    obtain ⟨w4, hw4, f4, q5, q6⟩ : ∃ W, (w3.alloc (.cells #[.slice a1 F.length cap1, .int .i64 (tot F)] 57)).alloc (.cells #[.slice a2 R.length cap2, .int .i64 (tot R)] 57) = W ∧ Fr [] w3 W ∧ W.heap[w3.heap.size]? = some (.cells #[.slice a1 F.length cap1, .int .i64 (tot F)] 57 (0, 0)) ∧ W.heap[w3.heap.size + 1]? = some (.cells #[.slice a2 R.length cap2, .int .i64 (tot R)] 57 (0, 0)) := ⟨_, rfl, ((Fr.refl _ _).alloc _).alloc _, keepA (newA rfl), newA (by simp)⟩
    have h4 := f4.keep h3 (by simp)
    have z4 : w3.heap.size + 1 < w4.heap.size := lt_of_heap q6
    have y0 : w4.cell? ⟨w3.heap.size + 1, 0, none⟩ = some (.slice a2 R.length cap2) := cell_of q6
    have y1 : w4.cell? ⟨w3.heap.size + 1, 1, none⟩ = some (.int .i64 (tot R)) := cell_of q6
    have y2 : w4.frozen? ⟨b, 2, none⟩ = false := free_of h4
    have y3 : w4.frozen? ⟨b, 3, none⟩ = false := free_of h4
    have y4 : w4.cell? ⟨b, 2, none⟩ = some (.slice a P.length cap) := (cell_of h4).trans HC.out.1
    have y5 : w4.cell? ⟨b, 3, none⟩ = some (.int .i64 (tot P)) := (cell_of h4).trans HC.out.2
    obtain ⟨w5, hw5, f5, h5, k5⟩ : ∃ W, (w4.setCell ⟨b, 2, none⟩ (.slice a2 R.length cap2)).setCell ⟨b, 3, none⟩ (.int .i64 (tot R)) = W ∧ Fr [b] w4 W ∧ W.heap[b]? = some (.cells ((c.setIfInBounds 2 (.slice a2 R.length cap2)).setIfInBounds (3) (.int .i64 (tot R))) t (0, 0)) ∧ W.heap[w3.heap.size]? = some (.cells #[.slice a1 F.length cap1, .int .i64 (tot F)] 57 (0, 0)) := ⟨_, rfl, ((Fr.refl _ _).setCell (.inl (by simp)) _).setCell (.inl (by simp)) _, two_at h4, keepS (keepS q5 (by dsimp only; omega)) (by dsimp only; omega)⟩
    have z0 : w5.cell? ⟨w3.heap.size, 0, none⟩ = some (.slice a1 F.length cap1) := cell_of k5
    have z1 : w5.cell? ⟨w3.heap.size, 1, none⟩ = some (.int .i64 (tot F)) := cell_of k5
    have hNb : ∀ x ∈ [b], ¬ (N x ∨ w.heap.size ≤ x) := fun x hx => by simp at hx; subst hx; rintro (hn | hn); exact hN hn; omega
    have hz5 := f5.size
    have HB := Lib.hid (rope_bytes ((r1.keep f4 (by simp)).keep f5 hNb))
    have HR := Lib.hid (r2.there.mono (N' := fun x => (N x ∨ w.heap.size ≤ x) ∧ x < w5.heap.size) (fun x hx => ⟨hx.1, by have := hx.2; omega⟩))
    have HG := Lib.hid (((g3.then0 f4).mono (T := [b]) (by simp)).then f5)
    have H5 := Lib.hid h5
    have HFF := Lib.hid (And.intro f4 f5)
    clear r1 r2 h3 h4 h5 k5 q5 q6 g3 f4 f5 HH e1 e2
    go_wp2_with fail
    refine HB.out.mono ?_
    rintro e w6 ⟨u, rfl, f6, o6⟩
    go_wp2_with fail
    go_ret
    obtain ⟨e1, e2⟩ := HF.out
    rw [e1] at o6
    exact ⟨w5.heap.size, u, a2, cap2, R, rfl, HG.out.then0 f6, f6.keep H5.out (by simp), by have := HG.out.size; omega, ((HR.out.keep HFF.out.1 (by simp)).keep HFF.out.2 (fun x hx hn => hNb x hx hn.1)).keep f6 (by simp), e2, o6⟩
end Go.Proofs.Ytdoamelhclnphaa
