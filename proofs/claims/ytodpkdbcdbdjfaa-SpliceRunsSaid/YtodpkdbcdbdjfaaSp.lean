/-
  Package splice: a splice in memory; the contracts of check, of what tell defers, and of tell.
-/
import Derived.Test.YtodpkdbcdbdjfaaSpNext
import Derived.Test.YtodpkdbcdbdjfaaRegionT
import Derived.BigRegion
import Derived.Defers
namespace Go.Proofs.Ytodpkdbcdbdjfaa
open Go.RowKit
set_option maxRecDepth 100000

structure SS where
  t0 : TS
  t1 : TS
  c0 : Bool
  c1 : Bool
  first : Int
def noteF (f : Int) (x : WT) : Int := if x.kind = 4 ∧ f = 0 then x.err else f
def note0 (s : SS) : SS := { s with first := noteF s.first (nextS s.t0 s.c0 0) }
def note1 (s : SS) : SS := { s with first := noteF s.first (nextS s.t1 s.c1 1) }

/-- A splice at block b, its ways at W, its transfers at b0 and b1. -/
structure Sp (w : World) (N0 N1 : Nat → Prop) (b W b0 b1 : Nat) (s : SS) : Prop where
  q : w.heap[b]? = some (.cells #[.pointer (some ⟨W, 0, none⟩), .int .i64 s.first] 103 (0, 0))
  y : w.heap[W]? = some (.cells #[.pointer (some ⟨b0, 0, none⟩), .int .i64 s.t0.r, .int .i64 s.t0.w, .bool s.c0, .pointer (some ⟨b1, 0, none⟩), .int .i64 s.t1.r, .int .i64 s.t1.w, .bool s.c1] 120 (0, 0))
  h0 : Tr w N0 b0 s.t0
  h1 : Tr w N1 b1 s.t1
  n0 : ¬ N0 b ∧ ¬ N0 W ∧ ¬ N0 b1
  n1 : ¬ N1 b ∧ ¬ N1 W ∧ ¬ N1 b0
  nd : b ≠ W ∧ b ≠ b0 ∧ b ≠ b1 ∧ W ≠ b0 ∧ W ≠ b1 ∧ b0 ≠ b1
theorem Sp.keep {w : World} {N0 N1 : Nat → Prop} {b W b0 b1 : Nat} {s : SS} {w' : World} (h : Sp w N0 N1 b W b0 b1 s) {S : List Nat} (f : Fr S w w') (hS : ∀ x ∈ S, x ≠ b ∧ x ≠ W ∧ x ≠ b0 ∧ x ≠ b1 ∧ ¬ N0 x ∧ ¬ N1 x) : Sp w' N0 N1 b W b0 b1 s :=
  ⟨f.keep h.q (fun hm => (hS _ hm).1 rfl), f.keep h.y (fun hm => (hS _ hm).2.1 rfl), h.h0.keep f (fun hm => (hS _ hm).2.2.1 rfl) (fun x hx => (hS x hx).2.2.2.2.1), h.h1.keep f (fun hm => (hS _ hm).2.2.2.1 rfl) (fun x hx => (hS x hx).2.2.2.2.2), h.n0, h.n1, h.nd⟩
theorem Sp.keep0 {w : World} {N0 N1 : Nat → Prop} {b W b0 b1 : Nat} {s : SS} {w' : World} (h : Sp w N0 N1 b W b0 b1 s) (f : Fr [] w w') : Sp w' N0 N1 b W b0 b1 s := h.keep f (by simp)
theorem Sp.lt {w : World} {N0 N1 : Nat → Prop} {b W b0 b1 : Nat} {s : SS} (h : Sp w N0 N1 b W b0 b1 s) : b < w.heap.size ∧ W < w.heap.size ∧ b0 < w.heap.size ∧ b1 < w.heap.size := ⟨lt_of_heap h.q, lt_of_heap h.y, h.h0.lt, h.h1.lt⟩

theorem sp_check_ok {w : World} {b W : Nat} {f : Int} (q : w.heap[b]? = some (.cells #[.pointer (some ⟨W, 0, none⟩), .int .i64 f] 103 (0, 0))) {i : Int} (hi : i = 0 ∨ i = 1) :
    Calls Try.prog 68 #[.pointer (some ⟨b, 0, none⟩), .int .i64 i] w fun e w' => e = .returned (.int .i64 0) ∧ w = w' := by
  have c0 : w.cell? ⟨b, 0, none⟩ = some (.pointer (some ⟨W, 0, none⟩)) := cell_of q
  rcases hi with rfl | rfl
  · go_enter Try.func68, Try.ntmps68
    go_wp2
    go_ret
    exact ⟨rfl, rfl⟩
  · go_enter Try.func68, Try.ntmps68
    go_wp2
    go_ret
    exact ⟨rfl, rfl⟩
theorem sp_check_bad {w : World} {b W : Nat} {f : Int} (q : w.heap[b]? = some (.cells #[.pointer (some ⟨W, 0, none⟩), .int .i64 f] 103 (0, 0))) {i : Int} (hi : (i != 0) = true) (hi1 : (i != 1) = true) :
    Calls Try.prog 68 #[.pointer (some ⟨b, 0, none⟩), .int .i64 i] w fun e w' => e = .returned (.int .i64 2) ∧ w = w' := by
  have c0 : w.cell? ⟨b, 0, none⟩ = some (.pointer (some ⟨W, 0, none⟩)) := cell_of q
  go_enter Try.func68, Try.ntmps68
  go_wp2
  go_ret
  exact ⟨rfl, rfl⟩
/-- A nil splice, or a zero one. -/
def Zs (w : World) (r : Option Addr) : Prop := r = none ∨ ∃ b, r = some ⟨b, 0, none⟩ ∧ w.heap[b]? = some (.cells #[.pointer none, .int .i64 0] 103 (0, 0))
theorem Zs.keep {w w' : World} {r : Option Addr} (h : Zs w r) (f : Fr [] w w') : Zs w' r := h.imp id fun ⟨b, e, q⟩ => ⟨b, e, f.keep q (by simp)⟩
theorem sp_check_z {w : World} {r : Option Addr} (h : Zs w r) (i : Int) :
    Calls Try.prog 68 #[.pointer r, .int .i64 i] w fun e w' => e = .returned (.int .i64 1) ∧ w = w' := by
  rcases h with rfl | ⟨b, rfl, q⟩
  · go_enter Try.func68, Try.ntmps68
    go_wp2
    go_ret
    exact ⟨rfl, rfl⟩
  · have c0 : w.cell? ⟨b, 0, none⟩ = some (.pointer none) := cell_of q
    go_enter Try.func68, Try.ntmps68
    go_wp2
    go_ret
    exact ⟨rfl, rfl⟩

set_option maxHeartbeats 4000000 in
theorem tell_note {w : World} {N : Nat → Prop} {bt W k b B8 B4 B3 : Nat} {t : TS} {c : Bool} (h : Tr w N bt t) (hr : t.rd ≤ 4611686018427387904) (c0 : w.cell? ⟨W, k, none⟩ = some (.pointer (some ⟨bt, 0, none⟩))) (c1 : w.cell? ⟨W, k + 1, none⟩ = some (.int .i64 t.r)) (c2 : w.cell? ⟨W, k + 2, none⟩ = some (.int .i64 t.w)) (c3 : w.cell? ⟨W, k + 3, none⟩ = some (.bool c)) {i : Int} (h0 : 0 ≤ i) (h1 : i ≤ 1) {f : Int}
    (q : w.heap[b]? = some (.cells #[.pointer (some ⟨W, 0, none⟩), .int .i64 f] 103 (0, 0))) {x8 x4 x3 : TypeId} (p8 : w.heap[B8]? = some (.cells #[.pointer (some ⟨W, k, none⟩)] x8 (0, 0))) (p4 : w.heap[B4]? = some (.cells #[.int .i64 i] x4 (0, 0))) (p3 : w.heap[B3]? = some (.cells #[.pointer (some ⟨b, 0, none⟩)] x3 (0, 0))) (u : FrameMode) :
    CallsD Try.prog 79 #[.pointer (some ⟨B8, 0, none⟩), .pointer (some ⟨B4, 0, none⟩), .pointer (some ⟨B3, 0, none⟩)] u w fun e u' w' =>
      u' = u ∧ (e = .returned (.tuple #[]) ∧ Fr [b] w w' ∧ w'.heap[b]? = some (.cells #[.pointer (some ⟨W, 0, none⟩), .int .i64 (noteF f (nextS t c i))] 103 (0, 0))) := by
  have HW := Lib.hid (way_next h hr c0 c1 c2 c3 h0 h1)
  clear h c0 c1 c2 c3 h0 h1
  generalize nextS t c i = x at *
  obtain ⟨xk, xs, xn, xd, xe⟩ := x
  have d8 : w.cell? ⟨B8, 0, none⟩ = some (.pointer (some ⟨W, k, none⟩)) := cell_of p8
  have d4 : w.cell? ⟨B4, 0, none⟩ = some (.int .i64 i) := cell_of p4
  have hb := lt_of_heap q
  go_enter_d Try.func79, Try.ntmps79
  go_wp2_with fail
  refine HW.out.mono ?_
  rintro e w1 ⟨v, rfl, f1, u1, rfl, ou⟩
  obtain ⟨ga, gc, rfl, _⟩ := ou.formB
  clear HW d8 d4 ou
  dsimp only
  obtain ⟨w2, hw2, f2, q2⟩ : ∃ W, w1.alloc (.cells #[.int .i64 xk, .int .i64 xs, .int .i64 xn, .slice ga xd.length gc, .int .i64 xe] 32) = W ∧ Fr [] w1 W ∧ WB W w1.heap.size (.int .i64 xk) (.int .i64 xs) (.int .i64 xn) (.slice ga xd.length gc) (.int .i64 xe) := ⟨_, rfl, (Fr.refl _ _).alloc _, newA rfl⟩
  have g2 := f1.then0 f2
  have q3 := g2.keep q (by simp)
  have d3 : w2.cell? ⟨B3, 0, none⟩ = some (.pointer (some ⟨b, 0, none⟩)) := cell_of (g2.keep p3 (by simp))
  have e1 : w2.cell? ⟨b, 1, none⟩ = some (.int .i64 f) := cell_of q3
  have e2 : w2.frozen? ⟨b, 1, none⟩ = false := free_of q3
  obtain ⟨x0, x1, x2, x3, x4, x5, x6, x7, x8, x9⟩ := q2.cells
  clear f1 f2 q2 p8 p4 p3 q
  by_cases hk : xk = 4
  · subst hk
    by_cases hf : f = 0
    · subst hf
      have hq4 := heap_setCell_eq (i := 1) (u := .int .i64 xe) q3
      have hfr : Fr [b] w (w2.setCell ⟨b, 1, none⟩ (.int .i64 xe)) := (g2.mono (T := [b]) (by simp)).setCell (.inl (by simp)) _
      have HQ := Lib.hid (And.intro hfr hq4)
      clear hq4 hfr q3 g2
      go_wp2_with fail
      go_end0
      exact ⟨rfl, HQ.out.1, by simpa [noteF] using HQ.out.2⟩
    · have hf' : (f == 0) = false := by simpa using hf
      go_wp2_with fail
      go_end0
      exact ⟨rfl, g2.mono (by simp), by simpa [noteF, hf] using q3⟩
  · have hk' : (xk == 4) = false := by simpa using hk
    go_wp2_with fail
    go_end0
    exact ⟨rfl, g2.mono (by simp), by simpa [noteF, hk] using q3⟩
theorem enter_note (args : Array Value) (w : World) : (callFunc 79 args).run Try.prog w = .ok (.enter 79 args) w := by kernel_rfl

set_option maxHeartbeats 4000000 in
theorem sp_tell0 {w : World} {N0 N1 : Nat → Prop} {b W b0 b1 : Nat} {s : SS} (h : Sp w N0 N1 b W b0 b1 s) {F : Nat} {caps : Array Value} {r : Int} {s' : SS} {S : List Nat} (he : ∀ args w, (callFunc F args).run Try.prog w = .ok (.enter F args) w) (hS : ∀ x ∈ S, x = W ∨ x = b0 ∨ x = b1) (hr : s'.t0.rd ≤ 4611686018427387904)
    (HF : ∀ w1, Fr [] w w1 → Calls Try.prog F (#[.pointer (some ⟨W, 0, none⟩)] ++ caps) w1 fun e w2 => e = .returned (.int .i64 r) ∧ Fr S w1 w2 ∧ Sp w2 N0 N1 b W b0 b1 s') :
    Calls Try.prog 63 #[.pointer (some ⟨b, 0, none⟩), .int .i64 0, .func (.func F) #[] caps] w fun e w' => e = .returned (.int .i64 r) ∧ Fr [b, W, b0, b1] w w' ∧ Sp w' N0 N1 b W b0 b1 (note0 s') := by
  have hmf : ∀ (fn : Fn) (first cap : Array Value) (w : World), (Instr.makeFunc fn first cap).run Try.prog w = .ok (.func fn first cap) w := fun _ _ _ _ => rfl
  obtain ⟨hb, hW, hb0, hb1⟩ := h.lt
  have HH := Lib.hid h
  have HQ := Lib.hid h.q
  have HFF := Lib.hid HF
  have HSS := Lib.hid hS
  obtain ⟨w1, hw1, f1, p3, p4⟩ : ∃ W1, ((w.alloc (.cells #[.pointer (some ⟨b, 0, none⟩)] 68)).alloc (.cells #[.int .i64 0] 3)) = W1 ∧ Fr [] w W1 ∧ W1.heap[w.heap.size]? = some (.cells #[.pointer (some ⟨b, 0, none⟩)] 68 (0, 0)) ∧ W1.heap[w.heap.size + 1]? = some (.cells #[.int .i64 0] 3 (0, 0)) := ⟨_, rfl, ((Fr.refl _ _).alloc _).alloc _, keepA (newA rfl), newA (by simp)⟩
  have HCK := Lib.hid (sp_check_ok (f1.keep HQ.out (by simp)) (i := 0) (by simp))
  have z1 := lt_of_heap p4
  have d3 : w1.cell? ⟨w.heap.size, 0, none⟩ = some (.pointer (some ⟨b, 0, none⟩)) := cell_of p3
  have d4 : w1.cell? ⟨w.heap.size + 1, 0, none⟩ = some (.int .i64 0) := cell_of p4
  have e0 : w1.cell? ⟨b, 0, none⟩ = some (.pointer (some ⟨W, 0, none⟩)) := cell_of (f1.keep HQ.out (by simp))
  clear h HF hS
  go_enter_defers Try.func63, Try.ntmps63
  go_wp2_with fail
  refine HCK.out.mono ?_
  rintro e w' ⟨rfl, rfl⟩
  clear HCK
  have zb1 : b < w1.heap.size := Nat.lt_of_lt_of_le hb f1.size
  have zw1 : w.heap.size < w1.heap.size := by omega
  have d3' : (w1.alloc (.cells #[.pointer none] 122)).cell? ⟨w.heap.size, 0, none⟩ = some (.pointer (some ⟨b, 0, none⟩)) := cell_of (keepA p3)
  have d4' : (w1.alloc (.cells #[.pointer none] 122)).cell? ⟨w.heap.size + 1, 0, none⟩ = some (.int .i64 0) := cell_of (keepA p4)
  have e0' : (w1.alloc (.cells #[.pointer none] 122)).cell? ⟨b, 0, none⟩ = some (.pointer (some ⟨W, 0, none⟩)) := cell_of (keepA (f1.keep HQ.out (by simp)))
  go_wp2_with fail
  go_region
  obtain ⟨w2, hw2, f2, p8⟩ : ∃ W2, (w1.alloc (.cells #[.pointer (some ⟨W, 0, none⟩)] 122)).drew = W2 ∧ Fr [] w1 W2 ∧ W2.heap[w1.heap.size]? = some (.cells #[.pointer (some ⟨W, 0, none⟩)] 122 (0, 0)) := ⟨_, rfl, ((Fr.refl _ _).alloc _).drew, (heap_drew).trans (newA rfl)⟩
  have HF2 := Lib.hid (HFF.out w2 (f1.then0 f2))
  have d8 : w2.cell? ⟨w1.heap.size, 0, none⟩ = some (.pointer (some ⟨W, 0, none⟩)) := cell_of p8
  go_wp2_with fail
  refine HF2.out.mono ?_
  rintro e w3 ⟨rfl, f3, h3⟩
  have hn : ∀ x, w.heap.size ≤ x → x ∉ S := fun x hx hm => by rcases HSS.out x hm with rfl | rfl | rfl <;> omega
  have g1 := f1.size
  have hy := h3.y
  have y0 : w3.cell? ⟨W, 0, none⟩ = some (.pointer (some ⟨b0, 0, none⟩)) := cell_of hy
  have y1 : w3.cell? ⟨W, 0 + 1, none⟩ = some (.int .i64 s'.t0.r) := cell_of hy
  have y2 : w3.cell? ⟨W, 0 + 2, none⟩ = some (.int .i64 s'.t0.w) := cell_of hy
  have y3 : w3.cell? ⟨W, 0 + 3, none⟩ = some (.bool s'.c0) := cell_of hy
  have HN := Lib.hid (tell_note h3.h0 hr y0 y1 y2 y3 (i := 0) (by omega) (by omega) h3.q (f3.keep p8 (hn _ g1)) (f3.keep (f2.keep p4 (by simp)) (hn _ (by omega))) (f3.keep (f2.keep p3 (by simp)) (hn _ (by omega))) .returning)
  have H3 := Lib.hid h3
  have G3 := Lib.hid (((f1.then0 f2).mono (T := [b, W, b0, b1]) (by simp)).trans f3 (fun _ h => .inl h) (fun x hx => .inl (by rcases HSS.out x hx with rfl | rfl | rfl <;> simp)))
  clear y0 y1 y2 y3 hy h3 f3 hn f1 f2 p3 p4 p8 d3 d4 d8 e0
  go_wp2_with fail
  refine leaves_cons (f := 79) (args := #[.pointer (some ⟨w1.heap.size, 0, none⟩), .pointer (some ⟨w.heap.size + 1, 0, none⟩), .pointer (some ⟨w.heap.size, 0, none⟩)]) (by simp) (by simp [go_sem, enter_note]) ?_
  refine HN.out.mono ?_
  rintro e u' w4 ⟨rfl, rfl, f4, q4⟩
  refine ⟨_, results_tmp rfl _ _ _, rfl, G3.out.trans f4 (fun _ h => .inl h) (fun x hx => .inl (by simp at hx; simp [hx])), ?_⟩
  have h3 := H3.out
  obtain ⟨nd1, nd2, nd3, nd4, nd5, nd6⟩ := h3.nd
  exact ⟨q4, f4.keep h3.y (by simp; omega), h3.h0.keep f4 (by simp; omega) (by simp; exact h3.n0.1), h3.h1.keep f4 (by simp; omega) (by simp; exact h3.n1.1), h3.n0, h3.n1, h3.nd⟩

set_option maxHeartbeats 4000000 in
theorem sp_tell1 {w : World} {N0 N1 : Nat → Prop} {b W b0 b1 : Nat} {s : SS} (h : Sp w N0 N1 b W b0 b1 s) {F : Nat} {caps : Array Value} {r : Int} {s' : SS} {S : List Nat} (he : ∀ args w, (callFunc F args).run Try.prog w = .ok (.enter F args) w) (hS : ∀ x ∈ S, x = W ∨ x = b0 ∨ x = b1) (hr : s'.t1.rd ≤ 4611686018427387904)
    (HF : ∀ w1, Fr [] w w1 → Calls Try.prog F (#[.pointer (some ⟨W, 4, none⟩)] ++ caps) w1 fun e w2 => e = .returned (.int .i64 r) ∧ Fr S w1 w2 ∧ Sp w2 N0 N1 b W b0 b1 s') :
    Calls Try.prog 63 #[.pointer (some ⟨b, 0, none⟩), .int .i64 1, .func (.func F) #[] caps] w fun e w' => e = .returned (.int .i64 r) ∧ Fr [b, W, b0, b1] w w' ∧ Sp w' N0 N1 b W b0 b1 (note1 s') := by
  have hmf : ∀ (fn : Fn) (first cap : Array Value) (w : World), (Instr.makeFunc fn first cap).run Try.prog w = .ok (.func fn first cap) w := fun _ _ _ _ => rfl
  obtain ⟨hb, hW, hb0, hb1⟩ := h.lt
  have HH := Lib.hid h
  have HQ := Lib.hid h.q
  have HFF := Lib.hid HF
  have HSS := Lib.hid hS
  obtain ⟨w1, hw1, f1, p3, p4⟩ : ∃ W1, ((w.alloc (.cells #[.pointer (some ⟨b, 0, none⟩)] 68)).alloc (.cells #[.int .i64 1] 3)) = W1 ∧ Fr [] w W1 ∧ W1.heap[w.heap.size]? = some (.cells #[.pointer (some ⟨b, 0, none⟩)] 68 (0, 0)) ∧ W1.heap[w.heap.size + 1]? = some (.cells #[.int .i64 1] 3 (0, 0)) := ⟨_, rfl, ((Fr.refl _ _).alloc _).alloc _, keepA (newA rfl), newA (by simp)⟩
  have HCK := Lib.hid (sp_check_ok (f1.keep HQ.out (by simp)) (i := 1) (by simp))
  have z1 := lt_of_heap p4
  have d3 : w1.cell? ⟨w.heap.size, 0, none⟩ = some (.pointer (some ⟨b, 0, none⟩)) := cell_of p3
  have d4 : w1.cell? ⟨w.heap.size + 1, 0, none⟩ = some (.int .i64 1) := cell_of p4
  have e0 : w1.cell? ⟨b, 0, none⟩ = some (.pointer (some ⟨W, 0, none⟩)) := cell_of (f1.keep HQ.out (by simp))
  clear h HF hS
  go_enter_defers Try.func63, Try.ntmps63
  go_wp2_with fail
  refine HCK.out.mono ?_
  rintro e w' ⟨rfl, rfl⟩
  clear HCK
  have zb1 : b < w1.heap.size := Nat.lt_of_lt_of_le hb f1.size
  have zw1 : w.heap.size < w1.heap.size := by omega
  have d3' : (w1.alloc (.cells #[.pointer none] 122)).cell? ⟨w.heap.size, 0, none⟩ = some (.pointer (some ⟨b, 0, none⟩)) := cell_of (keepA p3)
  have d4' : (w1.alloc (.cells #[.pointer none] 122)).cell? ⟨w.heap.size + 1, 0, none⟩ = some (.int .i64 1) := cell_of (keepA p4)
  have e0' : (w1.alloc (.cells #[.pointer none] 122)).cell? ⟨b, 0, none⟩ = some (.pointer (some ⟨W, 0, none⟩)) := cell_of (keepA (f1.keep HQ.out (by simp)))
  go_wp2_with fail
  go_region
  obtain ⟨w2, hw2, f2, p8⟩ : ∃ W2, (w1.alloc (.cells #[.pointer (some ⟨W, 4, none⟩)] 122)).drew = W2 ∧ Fr [] w1 W2 ∧ W2.heap[w1.heap.size]? = some (.cells #[.pointer (some ⟨W, 4, none⟩)] 122 (0, 0)) := ⟨_, rfl, ((Fr.refl _ _).alloc _).drew, (heap_drew).trans (newA rfl)⟩
  have HF2 := Lib.hid (HFF.out w2 (f1.then0 f2))
  have d8 : w2.cell? ⟨w1.heap.size, 0, none⟩ = some (.pointer (some ⟨W, 4, none⟩)) := cell_of p8
  go_wp2_with fail
  refine HF2.out.mono ?_
  rintro e w3 ⟨rfl, f3, h3⟩
  have hn : ∀ x, w.heap.size ≤ x → x ∉ S := fun x hx hm => by rcases HSS.out x hm with rfl | rfl | rfl <;> omega
  have g1 := f1.size
  have hy := h3.y
  have y0 : w3.cell? ⟨W, 4, none⟩ = some (.pointer (some ⟨b1, 0, none⟩)) := cell_of hy
  have y1 : w3.cell? ⟨W, 4 + 1, none⟩ = some (.int .i64 s'.t1.r) := cell_of hy
  have y2 : w3.cell? ⟨W, 4 + 2, none⟩ = some (.int .i64 s'.t1.w) := cell_of hy
  have y3 : w3.cell? ⟨W, 4 + 3, none⟩ = some (.bool s'.c1) := cell_of hy
  have HN := Lib.hid (tell_note h3.h1 hr y0 y1 y2 y3 (i := 1) (by omega) (by omega) h3.q (f3.keep p8 (hn _ g1)) (f3.keep (f2.keep p4 (by simp)) (hn _ (by omega))) (f3.keep (f2.keep p3 (by simp)) (hn _ (by omega))) .returning)
  have H3 := Lib.hid h3
  have G3 := Lib.hid (((f1.then0 f2).mono (T := [b, W, b0, b1]) (by simp)).trans f3 (fun _ h => .inl h) (fun x hx => .inl (by rcases HSS.out x hx with rfl | rfl | rfl <;> simp)))
  clear y0 y1 y2 y3 hy h3 f3 hn f1 f2 p3 p4 p8 d3 d4 d8 e0
  go_wp2_with fail
  refine leaves_cons (f := 79) (args := #[.pointer (some ⟨w1.heap.size, 0, none⟩), .pointer (some ⟨w.heap.size + 1, 0, none⟩), .pointer (some ⟨w.heap.size, 0, none⟩)]) (by simp) (by simp [go_sem, enter_note]) ?_
  refine HN.out.mono ?_
  rintro e u' w4 ⟨rfl, rfl, f4, q4⟩
  refine ⟨_, results_tmp rfl _ _ _, rfl, G3.out.trans f4 (fun _ h => .inl h) (fun x hx => .inl (by simp at hx; simp [hx])), ?_⟩
  have h3 := H3.out
  obtain ⟨nd1, nd2, nd3, nd4, nd5, nd6⟩ := h3.nd
  exact ⟨q4, f4.keep h3.y (by simp; omega), h3.h0.keep f4 (by simp; omega) (by simp; exact h3.n0.1), h3.h1.keep f4 (by simp; omega) (by simp; exact h3.n1.1), h3.n0, h3.n1, h3.nd⟩
theorem sp_tell_bad {w : World} {b W : Nat} {f : Int} (q : w.heap[b]? = some (.cells #[.pointer (some ⟨W, 0, none⟩), .int .i64 f] 103 (0, 0))) {i : Int} (hi : (i != 0) = true) (hi1 : (i != 1) = true) (v : Value) :
    Calls Try.prog 63 #[.pointer (some ⟨b, 0, none⟩), .int .i64 i, v] w fun e w' => e = .returned (.int .i64 2) ∧ Fr [] w w' := by
  obtain ⟨w1, hw1, f1, p3, p4⟩ : ∃ W1, ((w.alloc (.cells #[.pointer (some ⟨b, 0, none⟩)] 68)).alloc (.cells #[.int .i64 i] 3)) = W1 ∧ Fr [] w W1 ∧ W1.heap[w.heap.size]? = some (.cells #[.pointer (some ⟨b, 0, none⟩)] 68 (0, 0)) ∧ W1.heap[w.heap.size + 1]? = some (.cells #[.int .i64 i] 3 (0, 0)) := ⟨_, rfl, ((Fr.refl _ _).alloc _).alloc _, keepA (newA rfl), newA (by simp)⟩
  have HCK := Lib.hid (sp_check_bad (f1.keep q (by simp)) hi hi1)
  have d3 : w1.cell? ⟨w.heap.size, 0, none⟩ = some (.pointer (some ⟨b, 0, none⟩)) := cell_of p3
  have d4 : w1.cell? ⟨w.heap.size + 1, 0, none⟩ = some (.int .i64 i) := cell_of p4
  clear q p3 p4
  go_enter_defers Try.func63, Try.ntmps63
  go_wp2_with fail
  refine HCK.out.mono ?_
  rintro e w' ⟨rfl, rfl⟩
  go_wp2_with fail
  exact ⟨_, results_tmp rfl _ _ _, rfl, f1⟩
theorem sp_tell_z {w : World} {r : Option Addr} (h : Zs w r) (i : Int) (v : Value) :
    Calls Try.prog 63 #[.pointer r, .int .i64 i, v] w fun e w' => e = .returned (.int .i64 1) ∧ Fr [] w w' := by
  obtain ⟨w1, hw1, f1, p3, p4⟩ : ∃ W1, ((w.alloc (.cells #[.pointer r] 68)).alloc (.cells #[.int .i64 i] 3)) = W1 ∧ Fr [] w W1 ∧ W1.heap[w.heap.size]? = some (.cells #[.pointer r] 68 (0, 0)) ∧ W1.heap[w.heap.size + 1]? = some (.cells #[.int .i64 i] 3 (0, 0)) := ⟨_, rfl, ((Fr.refl _ _).alloc _).alloc _, keepA (newA rfl), newA (by simp)⟩
  have HCK := Lib.hid (sp_check_z (h.keep f1) i)
  have d3 : w1.cell? ⟨w.heap.size, 0, none⟩ = some (.pointer r) := cell_of p3
  have d4 : w1.cell? ⟨w.heap.size + 1, 0, none⟩ = some (.int .i64 i) := cell_of p4
  clear h p3 p4
  go_enter_defers Try.func63, Try.ntmps63
  go_wp2_with fail
  refine HCK.out.mono ?_
  rintro e w' ⟨rfl, rfl⟩
  go_wp2_with fail
  exact ⟨_, results_tmp rfl _ _ _, rfl, f1⟩
end Go.Proofs.Ytodpkdbcdbdjfaa
