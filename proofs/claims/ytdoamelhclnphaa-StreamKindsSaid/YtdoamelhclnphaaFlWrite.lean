/-
  Package flow: Write.
-/
import Derived.Test.YtdoamelhclnphaaFlOps
import Derived.Test.YtdoamelhclnphaaPartsF
import Derived.Deep.DeepCutAuto
import Derived.Deep.RegionHeld3
namespace Go.Proofs.Ytdoamelhclnphaa
open Go.RowKit Go.Shelf
set_option maxRecDepth 100000
attribute [local go_sem] Oper.semAt_some

theorem rope_parts (a : Option Addr) (n cap : Nat) (t : Int) (w : World) :
    Calls Try.prog 118 #[.agg #[.slice a n cap, .int .i64 t]] w fun e w' => e = .returned (.func (.func 126) #[] #[.pointer (some ⟨w.heap.size, 0, none⟩)]) ∧ w' = w.alloc (.cells #[.slice a n cap, .int .i64 t] 57) := by
  have hmf : ∀ (fn : Fn) (first cap : Array Value) (w : World), (Instr.makeFunc fn first cap).run Try.prog w = .ok (.func fn first cap) w := fun _ _ _ _ => rfl
  go_enter Try.func118, Try.ntmps118
  go_wp2
  go_ret
  exact ⟨rfl, rfl⟩

structure C2 (w : World) (b : Nat) (v0 v1 : Value) : Prop where
  c0 : w.cell? ⟨b, 0, none⟩ = some v0
  c1 : w.cell? ⟨b, 1, none⟩ = some v1
  f0 : w.frozen? ⟨b, 0, none⟩ = false
  f1 : w.frozen? ⟨b, 1, none⟩ = false
theorem cl2 {w : World} {b : Nat} {v0 v1 : Value} {t : TypeId} (h : w.heap[b]? = some (.cells #[v0, v1] t (0, 0))) : C2 w b v0 v1 := ⟨cell_of h, cell_of h, free_of h, free_of h⟩

/-- Between two rounds of Write's loop. -/
structure WI (w : World) (b R D c X Y : Nat) (s : List UInt8) (F : Parts) (pre : List (Value × List UInt8)) (W : World) : Prop where
  m : pre.map (·.2) = F.take pre.length
  fl : Fl W b R D ⟨c, s ++ (pre.map (·.2)).flatten, 0, 0⟩
  bx : W.heap[X]? = some (.cells #[.pointer (some ⟨b, 0, none⟩)] 101 (0, 0))
  ny : W.heap[Y]? = some (.cells #[.int .i64 ((pre.map (·.2)).flatten.length : Nat)] 3 (0, 0))
  fr : Fr [R, D] w W
  sz : Y + 2 ≤ W.heap.size
theorem WI.own {w : World} {b R D c X Y : Nat} {s : List UInt8} {F : Parts} {B : Nat} (hB : w.heap.size ≤ B) : OwnFrom B (WI w b R D c X Y s F) := by
  intro pre A A' row h hg hr
  have hf : Fr row.toList A A' := ⟨hg.os, hg.tape, hg.output, hg.size, fun k hk hn => hg.block k hk (fun e => hn (by rw [← e]; simp))⟩
  have hc : ∀ (k : Nat) (c : Array Value) (t : TypeId) (f : Nat × Nat), A.heap[k]? = some (.cells c t f) → k ∉ row.toList := fun k c t f hk hm => by
    obtain ⟨_, o, ho, hn⟩ := hr k (by simpa using hm)
    rw [hk] at ho
    injection ho with ho
    subst ho
    simp [Obj.isCells] at hn
  obtain ⟨bs, f, n, K_, J_, ra, rb, _⟩ := id h.fl.rg
  exact ⟨h.m, h.fl.keep hf (hc _ _ _ _ h.fl.fb) (hc _ _ _ _ ra) (hc _ _ _ _ rb), hf.keep h.bx (hc _ _ _ _ h.bx), hf.keep h.ny (hc _ _ _ _ h.ny), h.fr.trans hf (fun x hx => .inl hx) (fun x hx => .inr (Nat.le_trans hB (hr x (by simpa using hx)).1)), Nat.le_trans h.sz hg.size⟩

section
variable {w : World} {b R D : Nat} {m : FM} {N : Nat → Prop} {a : Option Addr} {cap : Nat} {P : Parts}
theorem write_start (h : Fl w b R D m) (hr : Rp w N (.agg #[.slice a P.length cap, .int .i64 (tot P)]) P) (hNR : ¬ N R) (hND : ¬ N D) :
    ∃ w0, w0 = (w.alloc (.cells #[.pointer (some ⟨b, 0, none⟩)] 101)).alloc (.cells #[.slice a P.length cap, .int .i64 (tot P)] 57) ∧ Fr [] w w0 ∧ Fl w0 b R D m ∧
      Rp w0 (fun x => N x ∧ x < w.heap.size) (.agg #[.slice a P.length cap, .int .i64 (tot P)]) P ∧ w0.heap[w.heap.size]? = some (.cells #[.pointer (some ⟨b, 0, none⟩)] 101 (0, 0)) ∧
      w0.heap[w.heap.size + 1]? = some (.cells #[.slice a P.length cap, .int .i64 (tot P)] 57 (0, 0)) ∧ w0.heap.size = w.heap.size + 2 := by
  have f : Fr [] w ((w.alloc (.cells #[.pointer (some ⟨b, 0, none⟩)] 101)).alloc (.cells #[.slice a P.length cap, .int .i64 (tot P)] 57)) := ((Fr.refl _ _).alloc _).alloc _
  exact ⟨_, rfl, f, h.keep0 f, hr.there.keep f (by simp), keepA (newA rfl), newA (by simp), by simp⟩

set_option maxHeartbeats 4000000 in
theorem flow_write_ok (h : Fl w b R D m) (hr0 : m.r = 0) (hw0 : m.w = 0) (hr : Rp w N (.agg #[.slice a P.length cap, .int .i64 (tot P)]) P) (hNR : ¬ N R) (hND : ¬ N D) (hp : 0 < tot P) (hf : m.s.length < m.c) :
    Calls Try.prog 98 #[.pointer (some ⟨b, 0, none⟩), .agg #[.slice a P.length cap, .int .i64 (tot P)]] w fun e w' =>
      e = .returned (.tuple #[.int .i64 (min (tot P) (m.c - m.s.length) : Nat), .int .i64 0]) ∧ Fr [R, D] w w' ∧ Fl w' b R D ⟨m.c, m.s ++ P.flatten.take (m.c - m.s.length), 0, 0⟩ := by
  obtain ⟨w0, e0, f0, h0, r0, x0, x1, z0⟩ := write_start h hr hNR hND
  obtain ⟨c, s, x, y⟩ := m
  dsimp only at hr0 hw0 hf ⊢
  subst hr0 hw0
  have hbd := h.bd
  dsimp only at hbd
  clear h hr
  obtain ⟨c0, c1, c2, g0, g1, g2⟩ := h0.fb.cells
  dsimp only at c1 c2
  have d0 := cell_of (i := 0) x0
  have d1 := cell_of (i := 0) x1
  have d2 := cell_of (i := 1) x1
  refine (callsIn_wide (n := 6)).1 ?_
  refine callsIn_of_wp_marks Try.func98 rfl trivial ?_ rfl
  refine wpIn_wide.2 ?_
  simp only [Try.ntmps98, List.size_toArray, List.length_cons, List.length_nil, Nat.reduceAdd, Nat.reduceSub, Array.replicate_succ, Array.replicate_zero, List.push_toArray, List.append_toArray, List.nil_append, List.cons_append]
  go_wp2_with fail
  rw [← e0]
  clear e0
  refine (flow_zero h0).mono ?_
  rintro e w' ⟨rfl, rfl⟩
  go_wp2_with fail
  refine (len_raw _ _ _ _).mono ?_
  rintro e w1 ⟨rfl, f1⟩
  have h1 := h0.keep0 f1
  have r1 := r0.keep f1 (by simp)
  have y0 := f1.keep x0 (by simp)
  have y1 := f1.keep x1 (by simp)
  have k1 := f0.then0 f1
  have z1 := f1.size
  clear f0 h0 r0 x0 x1 f1 c0 c1 c2 g0 g1 g2 d0 d1 d2
  obtain ⟨c0, c1, c2, g0, g1, g2⟩ := h1.fb.cells
  dsimp only at c1 c2
  have d0 : w1.cell? ⟨w.heap.size, 0, none⟩ = some (.pointer (some ⟨b, 0, none⟩)) := cell_of y0
  have d1 : w1.cell? ⟨w.heap.size + 1, 0, none⟩ = some (.slice a P.length cap) := cell_of y1
  have d2 : w1.cell? ⟨w.heap.size + 1, 1, none⟩ = some (.int .i64 (tot P)) := cell_of y1
  have q1 : ((tot P : Int) == 0) = false := by rw [beq_eq_false_iff_ne]; omega
  have q2 : ((c : Int) - s.length == 0) = false := by rw [beq_eq_false_iff_ne]; omega
  have q3 : ¬ ((c : Int) - s.length = 0) := by omega
  have hF0 := rg_free h1.rg
  rw [bi_length] at hF0
  go_wp2_with fail
  refine hF0.mono ?_
  rintro e w' ⟨rfl, rfl⟩
  clear hF0
  go_wp2_with fail
  obtain ⟨F, hF⟩ : ∃ F, cutF P (c - s.length) = F := ⟨_, rfl⟩
  have HFree := Lib.hid fun (w' : World) (f : Fr [] w1 w') => (show Calls Try.prog 117 #[.pointer (some ⟨R, 0, none⟩)] w' fun e w'' => e = .returned (.int .i64 ((c : Int) - s.length)) ∧ w' = w'' from by
    have := rg_free (h1.keep0 f).rg
    rw [bi_length] at this
    exact this)
  have HTake := Lib.hid fun (w' : World) (f : Fr [] w1 w') => (show Calls Try.prog 99 #[.agg #[.slice a P.length cap, .int .i64 (tot P)], .int .i64 ((c : Int) - s.length)] w' fun e w'' => ∃ a1 p1 a2 l2 p2 t2, e = .returned (.tuple #[.agg #[.slice a1 F.length p1, .int .i64 (tot F)], .agg #[.slice a2 l2 p2, .int .i64 t2], .int .i64 0]) ∧ Fr [] w' w'' ∧ Fr [] w1 w'' ∧ Rp w'' (fun x => (N x ∧ x < w.heap.size) ∨ w'.heap.size ≤ x) (.agg #[.slice a1 F.length p1, .int .i64 (tot F)]) F from by
    refine (rope_take (r1.keep f (by simp)) (by omega)).mono ?_
    rintro e w'' ⟨v1, v2, rfl, g, s1, s2⟩
    rw [show ((c : Int) - s.length).toNat = c - s.length from by omega, hF] at s1
    obtain ⟨a1, p1, rfl, _⟩ := id s1
    obtain ⟨a2, p2, rfl, _⟩ := id s2
    exact ⟨_, _, _, _, _, _, rfl, g, f.then0 g, s1⟩)
  have HS := Lib.hid fun (w' : World) (f : Fr [] w1 w') => (show w'.cell? ⟨w.heap.size, 0, none⟩ = some (.pointer (some ⟨b, 0, none⟩)) ∧ w'.cell? ⟨w.heap.size + 1, 0, none⟩ = some (.slice a P.length cap) ∧ w'.cell? ⟨w.heap.size + 1, 1, none⟩ = some (.int .i64 (tot P)) ∧ w'.cell? ⟨b, 0, none⟩ = some (.pointer (some ⟨R, 0, none⟩)) from ⟨cell_of (f.keep y0 (by simp)), cell_of (f.keep y1 (by simp)), cell_of (f.keep y1 (by simp)), (h1.keep0 f).fb.cells.c0⟩)
  go_upto_region 11 with fail
  go_cut [6, 7, 8] from 43 to 54 (fun s6 _ _ wx => ∃ (Q : Nat) (a1 : Option Addr) (p1 : Nat) (N1 : Nat → Prop), s6 = .pointer (some ⟨Q, 0, none⟩) ∧ wx.heap[Q]? = some (.cells #[.slice a1 F.length p1, .int .i64 (tot F)] 57 (0, 0)) ∧ Rp wx N1 (.agg #[.slice a1 F.length p1, .int .i64 (tot F)]) F ∧ ¬ N1 R ∧ ¬ N1 D ∧ Fr [] w1 wx ∧ w.heap.size + 1 < Q)
  case first =>
    go_region_held3 (fun w' => w'.cell? ⟨w.heap.size, 0, none⟩ = some (.pointer (some ⟨b, 0, none⟩)) ∧ w'.cell? ⟨w.heap.size + 1, 0, none⟩ = some (.slice a P.length cap) ∧ w'.cell? ⟨w.heap.size + 1, 1, none⟩ = some (.int .i64 (tot P)) ∧ w'.cell? ⟨b, 0, none⟩ = some (.pointer (some ⟨R, 0, none⟩)))
      (first | (with_reducible exact ⟨t0, t1, t2, t3⟩) | (with_reducible exact ⟨d0, d1, d2, c0⟩) | (with_reducible refine HS.out _ ?_; repeat first | (with_reducible exact f2) | (with_reducible exact Fr.refl _ _) | (with_reducible refine Fr.drew ?_) | (with_reducible refine Fr.alloc ?_ _) | (with_reducible refine Fr.setCell ?_ (.inr (by dsimp only; omega)) _)))
      (first
        | (go_at_call 117; refine (HFree.out _ (by repeat first | (with_reducible exact Fr.refl _ _) | (with_reducible refine Fr.drew ?_) | (with_reducible refine Fr.alloc ?_ _))).mono ?_; rintro e w' ⟨rfl, rfl⟩)
        | (go_at_call 99; ((with_reducible refine (HTake.out w1.drew (by repeat first | (with_reducible exact Fr.refl _ _) | (with_reducible refine Fr.drew ?_) | (with_reducible refine Fr.alloc ?_ _))).mono ?_); rintro e wt ⟨a1, p1, a2, l2, p2, u2, rfl, ft, f2, hR⟩; have t0 : wt.cell? ⟨w.heap.size, 0, none⟩ = some (.pointer (some ⟨b, 0, none⟩)) := cell_of (f2.keep y0 (by simp)); have t1 : wt.cell? ⟨w.heap.size + 1, 0, none⟩ = some (.slice a P.length cap) := cell_of (f2.keep y1 (by simp)); have t2 : wt.cell? ⟨w.heap.size + 1, 1, none⟩ = some (.int .i64 (tot P)) := cell_of (f2.keep y1 (by simp)); have t3 := (h1.keep0 f2).fb.cells.c0; have hz := f2.size; have hkeep : ∀ wx, Fr [] wt wx → Rp wx (fun x => (N x ∧ x < w.heap.size) ∨ w1.heap.size + 0 ≤ x) (.agg #[.slice a1 F.length p1, .int .i64 (tot F)]) F := fun wx f => (hR.mono (fun x hx => hx.imp id (fun h => by simpa using h))).keep f (by simp)))
        | (go_at_call 99; ((with_reducible refine (HTake.out (w1.alloc (Obj.cells #[.slice none 0 0, .int .i64 0] 57)).drew (by repeat first | (with_reducible exact Fr.refl _ _) | (with_reducible refine Fr.drew ?_) | (with_reducible refine Fr.alloc ?_ _))).mono ?_); rintro e wt ⟨a1, p1, a2, l2, p2, u2, rfl, ft, f2, hR⟩; have t0 : wt.cell? ⟨w.heap.size, 0, none⟩ = some (.pointer (some ⟨b, 0, none⟩)) := cell_of (f2.keep y0 (by simp)); have t1 : wt.cell? ⟨w.heap.size + 1, 0, none⟩ = some (.slice a P.length cap) := cell_of (f2.keep y1 (by simp)); have t2 : wt.cell? ⟨w.heap.size + 1, 1, none⟩ = some (.int .i64 (tot P)) := cell_of (f2.keep y1 (by simp)); have t3 := (h1.keep0 f2).fb.cells.c0; have hz := f2.size; have hkeep : ∀ wx, Fr [w1.heap.size] wt wx → Rp wx (fun x => (N x ∧ x < w.heap.size) ∨ w1.heap.size + 1 ≤ x) (.agg #[.slice a1 F.length p1, .int .i64 (tot F)]) F := fun wx f => (hR.mono (fun x hx => hx.imp id (fun h => by simpa using h))).keep f (by intro x hx; simp at hx; subst hx; rintro (h | h); (have := h.2; omega); omega); have nA : wt.heap[w1.heap.size]? = some (.cells #[.slice none 0 0, .int .i64 0] 57 (0, 0)) := ft.keep (b := w1.heap.size) (by exact newA rfl) (by simp); obtain ⟨nA0, nA1, nA2, nA3⟩ := cl2 nA; have nA4 := lt_of_heap nA; have nA5 : w1.heap.size ≠ wt.heap.size := (by omega)))
        | (go_at_call 99; ((with_reducible refine (HTake.out ((w1.alloc (Obj.cells #[.slice none 0 0, .int .i64 0] 57)).alloc (Obj.cells #[.slice none 0 0, .int .i64 0] 57)).drew (by repeat first | (with_reducible exact Fr.refl _ _) | (with_reducible refine Fr.drew ?_) | (with_reducible refine Fr.alloc ?_ _))).mono ?_); rintro e wt ⟨a1, p1, a2, l2, p2, u2, rfl, ft, f2, hR⟩; have t0 : wt.cell? ⟨w.heap.size, 0, none⟩ = some (.pointer (some ⟨b, 0, none⟩)) := cell_of (f2.keep y0 (by simp)); have t1 : wt.cell? ⟨w.heap.size + 1, 0, none⟩ = some (.slice a P.length cap) := cell_of (f2.keep y1 (by simp)); have t2 : wt.cell? ⟨w.heap.size + 1, 1, none⟩ = some (.int .i64 (tot P)) := cell_of (f2.keep y1 (by simp)); have t3 := (h1.keep0 f2).fb.cells.c0; have hz := f2.size; have hkeep : ∀ wx, Fr [w1.heap.size, w1.heap.size + 1] wt wx → Rp wx (fun x => (N x ∧ x < w.heap.size) ∨ w1.heap.size + 2 ≤ x) (.agg #[.slice a1 F.length p1, .int .i64 (tot F)]) F := fun wx f => (hR.mono (fun x hx => hx.imp id (fun h => by simpa using h))).keep f (by intro x hx; simp at hx; rintro (h | h); (have := h.2; omega); omega); have nA : wt.heap[w1.heap.size]? = some (.cells #[.slice none 0 0, .int .i64 0] 57 (0, 0)) := ft.keep (b := w1.heap.size) (by exact keepA (newA rfl)) (by simp); obtain ⟨nA0, nA1, nA2, nA3⟩ := cl2 nA; have nA4 := lt_of_heap nA; have nA5 : w1.heap.size ≠ wt.heap.size := (by omega); have nB : wt.heap[w1.heap.size + 1]? = some (.cells #[.slice none 0 0, .int .i64 0] 57 (0, 0)) := ft.keep (b := w1.heap.size + 1) (by exact newA (by simp)) (by simp); obtain ⟨nB0, nB1, nB2, nB3⟩ := cl2 nB; have nB4 := lt_of_heap nB; have nB5 : w1.heap.size + 1 ≠ wt.heap.size := (by omega))))
    all_goals go_wp2_with fail
    all_goals go_meet
    all_goals
      refine ⟨_, a1, p1, _, rfl, ?_, hkeep _ ?_, ?_, ?_, ?_, ?_⟩
      · repeat first | (with_reducible refine newA ?_; first | rfl | (simp; done)) | (with_reducible exact nA) | (with_reducible exact nB) | (with_reducible refine keepA ?_) | (with_reducible refine two_set (c0 := .slice none 0 0) (c1 := .int .i64 0) ?_) | (with_reducible refine keepS ?_ (by dsimp only; omega))
      · repeat first | (with_reducible exact Fr.refl _ _) | (with_reducible refine Fr.drew ?_) | (with_reducible refine Fr.alloc ?_ _) | (with_reducible refine Fr.setCell ?_ (.inl (by simp)) _)
      · rintro (h | h)
        · exact hNR h.1
        · omega
      · rintro (h | h)
        · exact hND h.1
        · omega
      · repeat first | (with_reducible exact f2) | (with_reducible refine Fr.drew ?_) | (with_reducible refine Fr.alloc ?_ _) | (with_reducible refine Fr.setCell ?_ (.inr (by dsimp only; omega)) _)
      · omega
  case rest =>
    obtain ⟨Q, a1, p1, N1, rfl, v0, hR, nR, nD, fc, hQ⟩ := hcut
    have hc := h1.keep0 fc
    have yc := fc.keep y0 (by simp)
    have kc := k1.then0 fc
    have zc := fc.size
    clear h1 y0 y1 k1 fc r1 c0 c1 c2 g0 g1 g2 d0 d1 d2 q1 q2 q3 HFree HTake HS
    have hQl := lt_of_heap v0
    have fY : Fr [] wc (wc.alloc (.cells #[.int .i64 0] 3)) := (Fr.refl _ _).alloc _
    have hY := hc.keep0 fY
    have yY := fY.keep yc (by simp)
    have kY := kc.then0 fY
    have RY := hR.there.keep fY (by simp)
    have vY := fY.keep v0 (by simp)
    have nY : (wc.alloc (.cells #[.int .i64 0] 3)).heap[wc.heap.size]? = some (.cells #[.int .i64 0] 3 (0, 0)) := newA rfl
    have zY : (wc.alloc (.cells #[.int .i64 0] 3)).heap.size = wc.heap.size + 1 := by simp
    have e0 : (wc.alloc (.cells #[.int .i64 0] 3)).cell? ⟨Q, 0, none⟩ = some (.slice a1 F.length p1) := cell_of vY
    have e1 : (wc.alloc (.cells #[.int .i64 0] 3)).cell? ⟨Q, 1, none⟩ = some (.int .i64 (tot F)) := cell_of vY
    have e2 : wc.cell? ⟨Q, 0, none⟩ = some (.slice a1 F.length p1) := cell_of v0
    have e3 : wc.cell? ⟨Q, 1, none⟩ = some (.int .i64 (tot F)) := cell_of v0
    have eQ : Q ≠ wc.heap.size := by omega
    clear hc yc kc hR v0 fY
    go_wp2_with fail
    generalize hwY : wc.alloc (.cells #[.int .i64 0] 3) = wY at *
    refine (rope_parts _ _ _ _ _).mono ?_
    rintro e w' ⟨rfl, rfl⟩
    go_wp2_with fail
    have fL : Fr [] wY (wY.alloc (.cells #[.slice a1 F.length p1, .int .i64 (tot F)] 57)) := (Fr.refl _ _).alloc _
    have hL := hY.keep0 fL
    have yL := fL.keep yY (by simp)
    have kL := kY.then0 fL
    have RL := RY.keep fL (by simp)
    have nL := fL.keep nY (by simp)
    have bL : (wY.alloc (.cells #[.slice a1 F.length p1, .int .i64 (tot F)] 57)).heap[wY.heap.size]? = some (.cells #[.slice a1 F.length p1, .int .i64 (tot F)] 57 (0, 0)) := newA rfl
    have zL : (wY.alloc (.cells #[.slice a1 F.length p1, .int .i64 (tot F)] 57)).heap.size = wY.heap.size + 1 := by simp
    generalize hwL : wY.alloc (.cells #[.slice a1 F.length p1, .int .i64 (tot F)] 57) = wL at *
    clear fL hY yY kY RY nY vY e0 e1 e2 e3 hwL hwY
    generalize hYn : wc.heap.size = Y at *
    have hFm : tot F = min (tot P) (c - s.length) := by rw [← hF]; unfold tot; rw [cutF_flat, List.length_take]; omega
    have hFt : tot F ≤ c - s.length := by omega
    have hFf : F.flatten = P.flatten.take (c - s.length) := by rw [← hF, cutF_flat]
    rw [zY] at bL
    have HFm := Lib.hid hFm
    clear hFm
    have HPH := parts_hands RL (S := [R, D, Y]) (by intro x hx; simp at hx; rcases hx with rfl | rfl | rfl; exact fun h => nR h.1; exact fun h => nD h.1; (intro h; have := h.2; omega)) bL (by simp; omega) 5 (by omega)
    have HEN := enters_of Try.func126 (by kernel_rfl) rfl
    refine (wpIn_wide (n := 6)).1 ?_
    refine range_upd (gf := 126) (lb := #[.pointer (some ⟨Y + 1, 0, none⟩)]) (encs := fun x : Value × List UInt8 => #[x.1]) (Kp := FrK wL.heap.size [R, D, Y]) (Hd := PartHd wL.heap.size F) (S := fun xs => xs.map (·.2) = F) (upd := fun a x => { tmps := (a.tmps.setIfInBounds 56 x.1).setIfInBounds 10 x.1, defers := [] }) rfl ?h1 ?hg trivial HEN HPH (fun h k => FrK.trans h k) (fun W l o o' hl _ _ => FrK.putObj hl W o') (fun pre x W l o o' hl ho hx => ⟨hx.1, hx.2.putObj hl ho⟩) (fun _ => rfl)
      (WI w b R D c w.heap.size Y s F)
      ?own ?start ?assign ?body ?done
    case h1 => omega
    case hg => rfl
    case own => exact WI.own (by omega)
    case start => exact ⟨rfl, by simpa using hL, yL, nL, kL.mono (by simp), by omega⟩
    case assign =>
      intro l x W K hK
      gi_wp2
      simp only [List.setIfInBounds_toArray, List.set_cons_succ, List.set_cons_zero] at hK
      exact hK
    case body =>
      rintro l pre x W ⟨hi1, hi2, hi3, hi4, hi5, hi6⟩ ⟨hx1, hx2⟩
      obtain ⟨pv, pl⟩ := x
      dsimp only at hx1 hx2 ⊢
      have hpl : pre.length < F.length := (List.getElem?_eq_some_iff.1 hx1).1
      have hT : (pre.map (·.2)).flatten.length + pl.length ≤ tot F := by
        have h1 := tot_take_le F (pre.length + 1)
        rw [List.take_succ_eq_append_getElem hpl, ← hi1] at h1
        have h2 : F[pre.length] = pl := by have := List.getElem?_eq_some_iff.1 hx1; exact this.2
        rw [h2] at h1
        unfold tot at h1
        rw [List.flatten_append, List.length_append] at h1
        simpa [tot] using h1
      generalize hTT : (pre.map (·.2)).flatten = T at *
      have HI := Lib.hid (And.intro hi1 (And.intro hTT (And.intro hx1 hpl)))
      clear hi1 hTT hx1 hpl
      obtain ⟨ga, gc, rfl, hg1, hg2, hgs, hgo⟩ := hx2.formB
      have hw := rg_write hi2.rg (ps := bi pl) (by rw [bi_length]) hg1 hgs (fun _ g o e => by have := hgo g o e; have := hi2.bd; omega) (by omega)
      dsimp only at hw
      rw [bi_length, List.length_append] at hw
      have hmin : min pl.length (c - (s.length + T.length)) = pl.length := by omega
      rw [hmin, List.take_of_length_le (by rw [bi_length]; exact Nat.le_refl _), ← bi_append] at hw
      have HW := Lib.hid hw
      simp only [List.setIfInBounds_toArray, List.set_cons_succ, List.set_cons_zero]
      have d0 : W.cell? ⟨w.heap.size, 0, none⟩ = some (.pointer (some ⟨b, 0, none⟩)) := cell_of hi3
      obtain ⟨c0, c1, c2, _, _, _⟩ := hi2.fb.cells
      have hn1 : 1 ≤ 6 - 1 - 1 := by omega
      have hsum : (T.length : Int) + pl.length ≤ 4096 := by omega
      gi_wp2_with (refine ⟨trivial, ?_⟩; gi_at_call 119; refine (CallsIn.inRound l (callsIn_wide.2 HW.out)).mono ?_; rintro e w' ⟨rfl, f, hr⟩; have hy' := f.keep hi4 (by simp; omega); have j0 : w'.cell? ⟨Y, 0, none⟩ = some (.int .i64 T.length) := cell_of hy'; have j1 : w'.frozen? ⟨Y, 0, none⟩ = false := free_of hy')
      obtain ⟨hi1, hTT, hx1, hpl⟩ := HI.out
      have hbd2 := hi2.bd
      have f3 : Fr [Y] w' (w'.setCell ⟨Y, 0, none⟩ (.int .i64 ((T.length : Int) + pl.length))) := (Fr.refl _ _).setCell (.inl (by simp)) _
      have fW : Fr [R, D, Y] W (w'.setCell ⟨Y, 0, none⟩ (.int .i64 ((T.length : Int) + pl.length))) := f.trans f3 (fun x hx => .inl (by simp at hx ⊢; omega)) (fun x hx => .inl (by simp at hx ⊢; omega))
      have ny := heap_setCell_eq (i := 0) (u := .int .i64 ((T.length : Int) + pl.length)) hy'
      simp at ny
      have hflat : ((pre ++ [(Value.slice ga pl.length gc, pl)]).map (·.2)).flatten = T ++ pl := by rw [List.map_append, List.flatten_append, hTT]; simp
      obtain ⟨bs, rf, rn, K_, J_, ra, rb, _⟩ := id hi2.rg
      have hw' : Y + 2 ≤ w'.heap.size := Nat.le_trans hi6 f.size
      refine ⟨fW.keepsOthers ?_, fW.toK (by omega), ?_, ?_, ?_, ?_, ?_, ?_⟩
      · intro x hx o ho
        simp only [List.mem_cons, List.not_mem_nil, or_false] at hx
        rcases hx with rfl | rfl | rfl
        · rw [ra] at ho; injection ho with ho; subst ho; rfl
        · rw [rb] at ho; injection ho with ho; subst ho; rfl
        · rw [hi4] at ho; injection ho with ho; subst ho; rfl
      · rw [List.map_append, hi1, List.length_append, List.length_singleton, List.take_succ_eq_append_getElem hpl]
        have := (List.getElem?_eq_some_iff.1 hx1).2
        rw [this]
        rfl
      · rw [hflat, ← List.append_assoc]
        exact ⟨f3.keep (f.keep hi2.fb (by simp; exact ⟨hi2.nr, hi2.nd⟩)) (by simp; omega), hr.keep f3 (by simp; omega) (by simp; omega), hi2.nr, hi2.nd⟩
      · exact f3.keep (f.keep hi3 (by simp; omega)) (by simp; omega)
      · rw [hflat, List.length_append, Int.natCast_add]
        exact ny
      · exact (hi5.then f).trans f3 (fun x hx => .inl hx) (fun x hx => .inr (by simp at hx; omega))
      · rw [World.size_setCell]; exact hw'
    case done =>
      rintro D' xs W hD' hS ⟨_, hi2, _, hi4, hi5, _⟩ hK
      rw [hS] at hi2 hi4
      rw [hFf] at hi2
      have hFl : F.flatten.length = min (tot P) (c - s.length) := HFm.out
      rw [hFl] at hi4
      have j0 : W.cell? ⟨Y, 0, none⟩ = some (.int .i64 (min (tot P) (c - s.length) : Nat)) := cell_of hi4
      clear hS
      simp only [Exit.inBlock, Exit.then]
      go_wp2_with fail
      have fP : Fr [D'] W (W.putObj D' (.deferred none)) := ⟨rfl, rfl, rfl, by simp [World.putObj], fun k _ hn => World.putObj_heap_other (by simpa using hn)⟩
      refine ⟨by simp, .inl ⟨_, _, rfl, run_takeDeferred hK, ?_⟩⟩
      refine ⟨.tuple #[.int .i64 (min (tot P) (c - s.length) : Nat), .int .i64 0], by simp [results, Try.results98, go_sem], rfl, ?_, ?_⟩
      · exact hi5.trans fP (fun x hx => .inl hx) (fun x hx => .inr (by simp at hx; omega))
      · exact hi2.keep fP (by simp; omega) (by simp; omega) (by simp; omega)
end
end Go.Proofs.Ytdoamelhclnphaa
