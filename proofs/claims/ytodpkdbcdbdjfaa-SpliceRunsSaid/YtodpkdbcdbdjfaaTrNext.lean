/-
  Package transfer: the contract of Next.
-/
import Derived.Test.YtodpkdbcdbdjfaaTrAt
namespace Go.Proofs.Ytodpkdbcdbdjfaa
open Go.RowKit
set_option maxRecDepth 100000

theorem tnext_nil (w : World) :
    Calls Try.prog 17 #[.pointer none] w fun e w' => e = .returned (.agg #[.int .i64 4, .int .i64 0, .int .i64 0, .slice none 0 0, .int .i64 0]) ∧ Fr [] w w' := by
  go_enter Try.func17, Try.ntmps17
  go_wp2_with fail
  refine (tnone_nil _).mono ?_
  rintro e w' ⟨rfl, rfl⟩
  go_wp2_with fail
  refine bodyPost_ret (v := .agg #[.int .i64 4, .int .i64 0, .int .i64 0, .slice none 0 0, .int .i64 0]) (by simp [results, Try.results17, go_sem]) rfl ?_
  exact ⟨rfl, (Fr.refl _ _).alloc _⟩
section
variable {w : World} {b : Nat} {a : Option Addr} {len cap : Nat} {n sg lm rd wr r wc : Int}
theorem tnext_zero (h : TrB w b a len cap n 0 lm rd wr r wc) :
    Calls Try.prog 17 #[.pointer (some ⟨b, 0, none⟩)] w fun e w' => e = .returned (.agg #[.int .i64 4, .int .i64 0, .int .i64 0, .slice none 0 0, .int .i64 0]) ∧ Fr [] w w' := by
  have HN := Lib.hid fun o => tnone_zero (w := w.alloc o) (keepA h)
  go_enter Try.func17, Try.ntmps17
  go_wp2_with fail
  refine (HN.out _).mono ?_
  rintro e w' ⟨rfl, rfl⟩
  go_wp2_with fail
  refine bodyPost_ret (v := .agg #[.int .i64 4, .int .i64 0, .int .i64 0, .slice none 0 0, .int .i64 0]) (by simp [results, Try.results17, go_sem]) rfl ?_
  exact ⟨rfl, (Fr.refl _ _).alloc _⟩
end
theorem five_end {w w1 : World} {b : Nat} {v0 v1 v2 v3 v4 : Value} {k s n e : Int} {u : Value} {l : List UInt8} (o : Obj) (h : WB w1 b v0 v1 v2 v3 v4) (f : Fr [] w w1) (hb : w.heap.size ≤ b) (ou : Ow w1 (b + 1) 5 u ((bi l).map (Value.int .u8))) :
    ∃ W, W = ((((((w1.setCell ⟨b, 0, none⟩ (.int .i64 k)).setCell ⟨b, 1, none⟩ (.int .i64 s)).setCell ⟨b, 2, none⟩ (.int .i64 n)).setCell ⟨b, 3, none⟩ u).setCell ⟨b, 4, none⟩ (.int .i64 e)).alloc o) ∧ Fr [] w W ∧ WB W b (.int .i64 k) (.int .i64 s) (.int .i64 n) u (.int .i64 e) ∧ Wv W w.heap.size (.agg #[.int .i64 k, .int .i64 s, .int .i64 n, u, .int .i64 e]) ⟨k, s, n, l, e⟩ := by
  have fs : Fr [b] w1 ((((((w1.setCell ⟨b, 0, none⟩ (.int .i64 k)).setCell ⟨b, 1, none⟩ (.int .i64 s)).setCell ⟨b, 2, none⟩ (.int .i64 n)).setCell ⟨b, 3, none⟩ u).setCell ⟨b, 4, none⟩ (.int .i64 e)).alloc o) :=
    ((((((Fr.refl _ _).setCell (.inl (by simp)) _).setCell (.inl (by simp)) _).setCell (.inl (by simp)) _).setCell (.inl (by simp)) _).setCell (.inl (by simp)) _).alloc _
  refine ⟨_, rfl, f.trans fs (by simp) (fun x hx => .inr (by simp at hx; omega)), keepA (five_set h), _, rfl, (ou.keep fs (fun k hk hm => ?_)).mono (by omega)⟩
  have := (ou.lt k hk).1
  simp at hm
  omega
set_option maxHeartbeats 2000000 in
theorem tr_next {w : World} {N : Nat → Prop} {b : Nat} {t : TS} (h : Tr w N b t) (hr : t.rd ≤ 4611686018427387904) :
    Calls Try.prog 17 #[.pointer (some ⟨b, 0, none⟩)] w fun e w' => ∃ v, e = .returned v ∧ Fr [] w w' ∧ Wv w' w.heap.size v (nextT t) := by
  obtain ⟨a, cap, P, h1, h2, h3, _, _, h4⟩ := h
  have hmf : ∀ (fn : Fn) (first cap : Array Value) (w : World), (Instr.makeFunc fn first cap).run Try.prog w = .ok (.func fn first cap) w := fun _ _ _ _ => rfl
  have HN := Lib.hid fun w1 (f : Fr [] w w1) => tnone_no (f.keep h1 (by simp)) (by have := h4.s1; rw [beq_eq_false_iff_ne]; omega)
  have H0 := Lib.hid fun w1 (f : Fr [] w w1) => tr_failed (f.keep h1 (by simp))
  have H1 := Lib.hid fun w1 (f : Fr [] w w1) => tr_write (f.keep h1 (by simp)) (h2.keep f (by simp))
  rw [h3] at H1
  have H2 := Lib.hid fun w1 (f : Fr [] w w1) => tr_done (f.keep h1 (by simp))
  have H3 := Lib.hid fun w1 (f : Fr [] w w1) => tr_more (f.keep h1 (by simp)) (by have := h4.s1; omega) h4.l1 h4.l2 h4.r0 hr
  obtain ⟨nn, hnn⟩ : ∃ nn, (if t.limit = -1 then t.stage else min t.stage (t.limit - t.rd)) = nn := ⟨_, rfl⟩
  rw [hnn] at H3
  have HNN := Lib.hid hnn
  have hts : tot P = t.s.length := by rw [← h3]; rfl
  have HT := Lib.hid hts
  have i0 : ∀ (x y z u : Value) (w : World), (Instr.index 109 (.agg #[x, y, z, u]) (.int .i64 0)).run Try.prog w = .ok x w := fun _ _ _ _ _ => by kernel_rfl
  have i1 : ∀ (x y z u : Value) (w : World), (Instr.index 109 (.agg #[x, y, z, u]) (.int .i64 1)).run Try.prog w = .ok y w := fun _ _ _ _ _ => by kernel_rfl
  have i2 : ∀ (x y z u : Value) (w : World), (Instr.index 109 (.agg #[x, y, z, u]) (.int .i64 2)).run Try.prog w = .ok z w := fun _ _ _ _ _ => by kernel_rfl
  have i3 : ∀ (x y z u : Value) (w : World), (Instr.index 109 (.agg #[x, y, z, u]) (.int .i64 3)).run Try.prog w = .ok u w := fun _ _ _ _ _ => by kernel_rfl
  clear h1 h2 h3 h4 hts hr hnn
  go_enter Try.func17, Try.ntmps17
  go_wp2_with fail
  obtain ⟨W, hW, f0, hz, b0⟩ : ∃ W, W = w.alloc (.cells #[.int .i64 0, .int .i64 0, .int .i64 0, .slice none 0 0, .int .i64 0] 32) ∧ Fr [] w W ∧ w.heap.size < W.heap.size ∧ WB W w.heap.size (.int .i64 0) (.int .i64 0) (.int .i64 0) (.slice none 0 0) (.int .i64 0) := ⟨_, rfl, (Fr.refl _ _).alloc _, by simp, newA rfl⟩
  rw [← hW]
  clear hW
  refine (HN.out _ f0).mono ?_
  rintro e w' ⟨rfl, rfl⟩
  clear HN
  go_wp2_with fail
  go_loopw [19] (fun i wr => ∃ k : Nat, i = .int .i64 k ∧ k ≤ 3 ∧ Fr [] w wr ∧ WB wr w.heap.size (.int .i64 0) (.int .i64 0) (.int .i64 0) (.slice none 0 0) (.int .i64 0) ∧ w.heap.size < wr.heap.size ∧ (1 ≤ k → t.w = 0) ∧ (2 ≤ k → t.s = []) ∧ (3 ≤ k → t.r = 0 ∧ t.rd ≠ t.limit)) (fun i _ => 4 - (intOf i).toNat)
  case atStart => exact ⟨0, rfl, by omega, f0, b0, hz, by omega, by omega, by omega⟩
  case round =>
    clear f0 hz b0
    obtain ⟨k, rfl, hk, g, q, hz, e1, e2, e3⟩ := hrel
    obtain ⟨r0, r1, r2, r3, r4, r5, r6, r7, r8, r9⟩ := q.cells
    rcases (show k = 0 ∨ k = 1 ∨ k = 2 ∨ k = 3 from by omega) with rfl | rfl | rfl | rfl
    · clear e1 e2 e3
      by_cases hw : t.w = 0
      · have hw' : (t.w != 0) = false := by rw [hw]; rfl
        go_wp2_with fail
        refine (H0.out _ g).mono ?_
        rintro e w1 ⟨rfl, f1⟩
        have q1 : WB w1 w.heap.size (.int .i64 0) (.int .i64 0) (.int .i64 0) (.slice none 0 0) (.int .i64 0) := f1.keep q (by simp)
        have hz1 : w.heap.size < w1.heap.size := Nat.lt_of_lt_of_le hz f1.size
        clear r0 r1 r2 r3 r4 r5 r6 r7 r8 r9
        obtain ⟨r0, r1, r2, r3, r4, r5, r6, r7, r8, r9⟩ := q1.cells
        go_wp2_with fail
        go_roundw
        case rel => exact ⟨1, rfl, by omega, (g.then0 f1).alloc _, keepA q1, by simp; omega, fun _ => hw, by omega, by omega⟩
        case measure => simp [intOf]
      · have hw' : (t.w != 0) = true := by simpa using hw
        go_wp2_with fail
        refine (H0.out _ g).mono ?_
        rintro e w1 ⟨rfl, f1⟩
        have q1 : WB w1 w.heap.size (.int .i64 0) (.int .i64 0) (.int .i64 0) (.slice none 0 0) (.int .i64 0) := f1.keep q (by simp)
        have hz1 : w.heap.size < w1.heap.size := Nat.lt_of_lt_of_le hz f1.size
        clear r0 r1 r2 r3 r4 r5 r6 r7 r8 r9
        obtain ⟨r0, r1, r2, r3, r4, r5, r6, r7, r8, r9⟩ := q1.cells
        go_wp2_with fail
        obtain ⟨W2, hW2, g2, q2, wv⟩ := five_end (k := 4) (s := 0) (n := t.wr) (e := t.w) (u := (.slice none 0 0)) (l := []) (.cells #[.int .i64 4, .int .i64 0, .int .i64 t.wr, (.slice none 0 0), .int .i64 t.w] 32) q1 (g.then0 f1) (Nat.le_refl _) (Ow.nil _ _ _)
        rw [← hW2]
        obtain ⟨s0, s1, s2, s3, s4, _⟩ := q2.cells
        refine bodyPost_ret (v := .agg #[.int .i64 4, .int .i64 0, .int .i64 t.wr, (.slice none 0 0), .int .i64 t.w]) (by simp [results, Try.results17, go_sem, s0, s1, s2, s3, s4]) rfl ?_
        exact ⟨_, rfl, g2, by rw [nextT_fail hw]; exact wv⟩
    · clear e2 e3
      by_cases hs : t.s = []
      · have hs' : decide (0 < tot P) = false := by rw [HT.out, hs]; rfl
        rw [hs'] at H1
        go_wp2_with fail
        refine (H1.out _ g).mono ?_
        rintro e w1 ⟨v, rfl, f1, u, rfl, ou⟩
        obtain ⟨ga, gc, rfl, _⟩ := ou.formB
        have q1 : WB w1 w.heap.size (.int .i64 0) (.int .i64 0) (.int .i64 0) (.slice none 0 0) (.int .i64 0) := f1.keep q (by simp)
        have hz1 : w.heap.size < w1.heap.size := Nat.lt_of_lt_of_le hz f1.size
        clear r0 r1 r2 r3 r4 r5 r6 r7 r8 r9
        obtain ⟨r0, r1, r2, r3, r4, r5, r6, r7, r8, r9⟩ := q1.cells
        go_wp2_with fail
        go_roundw
        case rel => exact ⟨2, rfl, by omega, (g.then0 f1).alloc _, keepA q1, by simp; omega, fun _ => e1 (by omega), fun _ => hs, by omega⟩
        case measure => simp [intOf]
      · have hs' : decide (0 < tot P) = true := by rw [HT.out]; simpa using List.length_pos_iff.2 hs
        rw [hs'] at H1
        go_wp2_with fail
        refine (H1.out _ g).mono ?_
        rintro e w1 ⟨v, rfl, f1, u, rfl, ou⟩
        obtain ⟨ga, gc, rfl, _⟩ := ou.formB
        have q1 : WB w1 w.heap.size (.int .i64 0) (.int .i64 0) (.int .i64 0) (.slice none 0 0) (.int .i64 0) := f1.keep q (by simp)
        have hz1 : w.heap.size < w1.heap.size := Nat.lt_of_lt_of_le hz f1.size
        clear r0 r1 r2 r3 r4 r5 r6 r7 r8 r9
        obtain ⟨r0, r1, r2, r3, r4, r5, r6, r7, r8, r9⟩ := q1.cells
        go_wp2_with fail
        obtain ⟨W2, hW2, g2, q2, wv⟩ := five_end (k := 2) (s := 0) (n := 0) (e := 0) (u := (.slice ga t.s.length gc)) (l := t.s) (.cells #[.int .i64 2, .int .i64 0, .int .i64 0, (.slice ga t.s.length gc), .int .i64 0] 32) q1 (g.then0 f1) (Nat.le_refl _) (ou.mono hz)
        rw [← hW2]
        obtain ⟨s0, s1, s2, s3, s4, _⟩ := q2.cells
        refine bodyPost_ret (v := .agg #[.int .i64 2, .int .i64 0, .int .i64 0, (.slice ga t.s.length gc), .int .i64 0]) (by simp [results, Try.results17, go_sem, s0, s1, s2, s3, s4]) rfl ?_
        exact ⟨_, rfl, g2, by rw [nextT_write (e1 (by omega)) hs]; exact wv⟩
    · clear e3
      by_cases hd : t.r ≠ 0 ∨ t.rd = t.limit
      · have hd' : (t.r != 0 || t.rd == t.limit) = true := by simpa using hd
        rw [hd'] at H2
        go_wp2_with fail
        refine (H2.out _ g).mono ?_
        rintro e w1 ⟨rfl, f1⟩
        have q1 : WB w1 w.heap.size (.int .i64 0) (.int .i64 0) (.int .i64 0) (.slice none 0 0) (.int .i64 0) := f1.keep q (by simp)
        have hz1 : w.heap.size < w1.heap.size := Nat.lt_of_lt_of_le hz f1.size
        clear r0 r1 r2 r3 r4 r5 r6 r7 r8 r9
        obtain ⟨r0, r1, r2, r3, r4, r5, r6, r7, r8, r9⟩ := q1.cells
        go_wp2_with fail
        obtain ⟨W2, hW2, g2, q2, wv⟩ := five_end (k := 4) (s := 0) (n := t.wr) (e := (eofT t.r)) (u := (.slice none 0 0)) (l := []) (.cells #[.int .i64 4, .int .i64 0, .int .i64 t.wr, (.slice none 0 0), .int .i64 (eofT t.r)] 32) q1 (g.then0 f1) (Nat.le_refl _) (Ow.nil _ _ _)
        rw [← hW2]
        obtain ⟨s0, s1, s2, s3, s4, _⟩ := q2.cells
        refine bodyPost_ret (v := .agg #[.int .i64 4, .int .i64 0, .int .i64 t.wr, (.slice none 0 0), .int .i64 (eofT t.r)]) (by simp [results, Try.results17, go_sem, s0, s1, s2, s3, s4]) rfl ?_
        exact ⟨_, rfl, g2, by rw [nextT_done (e1 (by omega)) (e2 (by omega)) hd]; exact wv⟩
      · have hd' : (t.r != 0 || t.rd == t.limit) = false := by simpa using hd
        rw [hd'] at H2
        go_wp2_with fail
        refine (H2.out _ g).mono ?_
        rintro e w1 ⟨rfl, f1⟩
        have q1 : WB w1 w.heap.size (.int .i64 0) (.int .i64 0) (.int .i64 0) (.slice none 0 0) (.int .i64 0) := f1.keep q (by simp)
        have hz1 : w.heap.size < w1.heap.size := Nat.lt_of_lt_of_le hz f1.size
        clear r0 r1 r2 r3 r4 r5 r6 r7 r8 r9
        obtain ⟨r0, r1, r2, r3, r4, r5, r6, r7, r8, r9⟩ := q1.cells
        go_wp2_with fail
        go_roundw
        case rel => exact ⟨3, rfl, by omega, (g.then0 f1).alloc _, keepA q1, by simp; omega, fun _ => e1 (by omega), fun _ => e2 (by omega), fun _ => by simpa using hd⟩
        case measure => simp [intOf]
    · go_wp2_with fail
      refine (H3.out _ g).mono ?_
      rintro e w1 ⟨rfl, f1⟩
      have q1 : WB w1 w.heap.size (.int .i64 0) (.int .i64 0) (.int .i64 0) (.slice none 0 0) (.int .i64 0) := f1.keep q (by simp)
      have hz1 : w.heap.size < w1.heap.size := Nat.lt_of_lt_of_le hz f1.size
      clear r0 r1 r2 r3 r4 r5 r6 r7 r8 r9
      obtain ⟨r0, r1, r2, r3, r4, r5, r6, r7, r8, r9⟩ := q1.cells
      go_wp2_with fail
      obtain ⟨W2, hW2, g2, q2, wv⟩ := five_end (k := 1) (s := 0) (n := nn) (e := 0) (u := (.slice none 0 0)) (l := []) (.cells #[.int .i64 1, .int .i64 0, .int .i64 nn, (.slice none 0 0), .int .i64 0] 32) q1 (g.then0 f1) (Nat.le_refl _) (Ow.nil _ _ _)
      rw [← hW2]
      obtain ⟨s0, s1, s2, s3, s4, _⟩ := q2.cells
      refine bodyPost_ret (v := .agg #[.int .i64 1, .int .i64 0, .int .i64 nn, (.slice none 0 0), .int .i64 0]) (by simp [results, Try.results17, go_sem, s0, s1, s2, s3, s4]) rfl ?_
      exact ⟨_, rfl, g2, by rw [nextT_read (e1 (by omega)) (e2 (by omega)) (e3 (by omega)).1 (e3 (by omega)).2, HNN.out]; exact wv⟩
end Go.Proofs.Ytodpkdbcdbdjfaa
