/-
  The reference of law 21: what its functions return.
-/
import Derived.Test.YtodpkdbcdbdjfaaKnown21
import Derived.Test.YtodpkdbcdbdjfaaStepsTwo
namespace Go.Proofs.Ytodpkdbcdbdjfaa
open Go.RowKit
set_option maxRecDepth 100000

/-- A transfer of the reference as a value; its bytes lie where N allows. -/
def Rv (w : World) (N : Nat → Prop) (v : Value) (t : TS) : Prop :=
  ∃ a c, v = .agg #[.int .i64 t.stage, .int .i64 t.limit, .int .i64 t.rd, .int .i64 t.wr, .slice a t.s.length c, .int .i64 t.r, .int .i64 t.w] ∧ t.s.length ≤ c ∧ c ≤ maxLen ∧ Sl w a (bi t.s) ∧ ∀ b o, 0 < t.s.length → a = some ⟨b, o, none⟩ → N b
theorem Rv.keep {w w' : World} {N : Nat → Prop} {v : Value} {t : TS} (h : Rv w N v t) {S : List Nat} (f : Fr S w w') (hS : ∀ x ∈ S, ¬ N x) : Rv w' N v t := by
  obtain ⟨a, c, e, h1, h2, h3, h4⟩ := h
  exact ⟨a, c, e, h1, h2, sl_keep h3 f (fun h0 b o e hm => hS b hm (h4 b o (by rwa [bi_length] at h0) e)), h4⟩
theorem Rv.mono {w : World} {N N' : Nat → Prop} {v : Value} {t : TS} (h : Rv w N v t) (hN : ∀ x, N x → N' x) : Rv w N' v t := by
  obtain ⟨a, c, e, h1, h2, h3, h4⟩ := h
  exact ⟨a, c, e, h1, h2, h3, fun b o h0 e => hN b (h4 b o h0 e)⟩
theorem Rv.there {w : World} {N : Nat → Prop} {v : Value} {t : TS} (h : Rv w N v t) : Rv w (fun b => N b ∧ b < w.heap.size) v t := by
  obtain ⟨a, c, e, h1, h2, h3, h4⟩ := h
  refine ⟨a, c, e, h1, h2, h3, fun b o h0 e => ⟨h4 b o h0 e, ?_⟩⟩
  obtain ⟨b', o', e', hb, _⟩ := h3 (by rw [bi_length]; exact h0)
  rw [e] at e'
  injection e' with e'
  injection e' with e1
  omega
def RB (w : World) (b : Nat) (v0 v1 v2 v3 v4 v5 v6 : Value) : Prop := w.heap[b]? = some (.cells #[v0, v1, v2, v3, v4, v5, v6] 45 (0, 0))
structure RC (w : World) (b : Nat) (v0 v1 v2 v3 v4 v5 v6 : Value) : Prop where

  c0 : w.cell? ⟨b, 0, none⟩ = some v0
  c1 : w.cell? ⟨b, 1, none⟩ = some v1
  c2 : w.cell? ⟨b, 2, none⟩ = some v2
  c3 : w.cell? ⟨b, 3, none⟩ = some v3
  c4 : w.cell? ⟨b, 4, none⟩ = some v4
  c5 : w.cell? ⟨b, 5, none⟩ = some v5
  c6 : w.cell? ⟨b, 6, none⟩ = some v6
  f0 : w.frozen? ⟨b, 0, none⟩ = false
  f1 : w.frozen? ⟨b, 1, none⟩ = false
  f2 : w.frozen? ⟨b, 2, none⟩ = false
  f3 : w.frozen? ⟨b, 3, none⟩ = false
  f4 : w.frozen? ⟨b, 4, none⟩ = false
  f5 : w.frozen? ⟨b, 5, none⟩ = false
  f6 : w.frozen? ⟨b, 6, none⟩ = false
theorem RB.cells {w : World} {b : Nat} {v0 v1 v2 v3 v4 v5 v6 : Value} (h : RB w b v0 v1 v2 v3 v4 v5 v6) : RC w b v0 v1 v2 v3 v4 v5 v6 :=
  ⟨cell_of h, cell_of h, cell_of h, cell_of h, cell_of h, cell_of h, cell_of h, free_of h, free_of h, free_of h, free_of h, free_of h, free_of h, free_of h⟩
theorem seven_set {w : World} {b : Nat} {v0 v1 v2 v3 v4 v5 v6 u0 u1 u2 u3 u4 u5 u6 : Value} (h : RB w b v0 v1 v2 v3 v4 v5 v6) : RB (((((((w.setCell ⟨b, 0, none⟩ u0).setCell ⟨b, 1, none⟩ u1).setCell ⟨b, 2, none⟩ u2).setCell ⟨b, 3, none⟩ u3).setCell ⟨b, 4, none⟩ u4).setCell ⟨b, 5, none⟩ u5).setCell ⟨b, 6, none⟩ u6) b u0 u1 u2 u3 u4 u5 u6 := by
  have hb := (heap_setCell_eq (i := 6) (u := u6) (heap_setCell_eq (i := 5) (u := u5) (heap_setCell_eq (i := 4) (u := u4) (heap_setCell_eq (i := 3) (u := u3) (heap_setCell_eq (i := 2) (u := u2) (heap_setCell_eq (i := 1) (u := u1) (heap_setCell_eq (i := 0) (u := u0) h)))))))
  simp at hb
  exact hb
theorem seven_fr {w : World} {b : Nat} {u0 u1 u2 u3 u4 u5 u6 : Value} : Fr [b] w (((((((w.setCell ⟨b, 0, none⟩ u0).setCell ⟨b, 1, none⟩ u1).setCell ⟨b, 2, none⟩ u2).setCell ⟨b, 3, none⟩ u3).setCell ⟨b, 4, none⟩ u4).setCell ⟨b, 5, none⟩ u5).setCell ⟨b, 6, none⟩ u6) :=
  (((((((Fr.refl _ _).setCell (.inl (by simp)) _).setCell (.inl (by simp)) _).setCell (.inl (by simp)) _).setCell (.inl (by simp)) _).setCell (.inl (by simp)) _).setCell (.inl (by simp)) _).setCell (.inl (by simp)) _

theorem rvalid (w : World) (sg lm : Int) :
    Calls Try.prog 13 #[.int .i64 sg, .int .i64 lm] w fun e w' => e = .returned (.bool (okS sg lm)) ∧ w = w' := by
  unfold okS
  by_cases h1 : 1 ≤ sg
  · by_cases h2 : sg ≤ 4096
    · by_cases h3 : -1 ≤ lm
      · by_cases h4 : lm ≤ 1073741824
        · skip
          go_enter Try.func13, Try.ntmps13
          go_wp2
          go_ret
          exact ⟨by first | (simp [*]; done) | (simp [*]; omega), rfl⟩
        · skip
          go_enter Try.func13, Try.ntmps13
          go_wp2
          go_ret
          exact ⟨by first | (simp [*]; done) | (simp [*]; omega), rfl⟩
      · skip
        go_enter Try.func13, Try.ntmps13
        go_wp2
        go_ret
        exact ⟨by first | (simp [*]; done) | (simp [*]; omega), rfl⟩
    · skip
      go_enter Try.func13, Try.ntmps13
      go_wp2
      go_ret
      exact ⟨by first | (simp [*]; done) | (simp [*]; omega), rfl⟩
  · skip
    go_enter Try.func13, Try.ntmps13
    go_wp2
    go_ret
    exact ⟨by first | (simp [*]; done) | (simp [*]; omega), rfl⟩
theorem rcode (w : World) (e : Int) :
    Calls Try.prog 14 #[.int .i64 e] w fun x w' => x = .returned (.bool (codeE e)) ∧ w = w' := by
  unfold codeE
  by_cases h1 : 1 ≤ e
  · by_cases h2 : e ≤ 1000
    · by_cases h3 : e = 16
      · subst h3
        go_enter Try.func14, Try.ntmps14
        go_wp2
        go_ret
        exact ⟨by first | (simp [*]; done) | (simp [*]; omega), rfl⟩
      · have n3 : (e != 16) = true := by simpa using h3
        go_enter Try.func14, Try.ntmps14
        go_wp2
        go_ret
        exact ⟨by first | (simp [*]; done) | (simp [*]; omega), rfl⟩
    · skip
      go_enter Try.func14, Try.ntmps14
      go_wp2
      go_ret
      exact ⟨by first | (simp [*]; done) | (simp [*]; omega), rfl⟩
  · skip
    go_enter Try.func14, Try.ntmps14
    go_wp2
    go_ret
    exact ⟨by first | (simp [*]; done) | (simp [*]; omega), rfl⟩


set_option maxHeartbeats 2000000 in
theorem rt_next {w : World} {N : Nat → Prop} {v : Value} {t : TS} (h : Rv w N v t) (hok : TOk t) (hr : t.rd ≤ 4611686018427387904) :
    Calls Try.prog 59 #[v] w fun e w' => ∃ x, e = .returned x ∧ Fr [] w w' ∧ Wv w' w.heap.size x (nextT t) := by
  obtain ⟨ra, rc, rfl, h1, h2, h3, _⟩ := h
  have hr0 := hok.r0
  have hl1 := hok.l1
  have hl2 := hok.l2
  have hs1 := hok.s1
  have hfew := hok.few
  have hs2 := hok.s2
  have hlen : (t.s.length : Int) ≤ 4096 := by omega
  rcases nextT_cases t with ⟨hw, e⟩ | ⟨hw, hs, e⟩ | ⟨hw, hs, hd, e⟩ | ⟨hw, hs, hd, hl, e⟩
  · rw [e]
    have hw' : (t.w != 0) = true := by simpa using hw
    clear e h3 hok
    go_enter Try.func59, Try.ntmps59
    go_wp2_with fail
    refine bodyPost_ret (v := .agg #[.int .i64 4, .int .i64 0, .int .i64 t.wr, .slice none 0 0, .int .i64 t.w]) (by simp [results, Try.results59, go_sem]) rfl ?_
    exact ⟨_, rfl, ((Fr.refl _ _).alloc _).alloc _, Wv.plain _ _ _ _ _ _⟩
  · rw [e]
    have hw' : (t.w != 0) = false := by simpa using hw
    have hs' : (0 : Int) < t.s.length := by have := List.length_pos_iff.2 hs; omega
    clear hw hs
    have HSV := Lib.hid fun w1 (f : Fr [] w w1) => (sl_keep h3 f (by simp)).toV
    have HU : Hid (Try.prog.underlying 22 = some (.slice 5)) := Lib.hid Try.underlying22
    have HIN : Hid ((Try.prog.info? 5).map (fun i => (i.zero, i.size, i.bytes)) = some (some (.int .u8 0), 1, 1)) := Lib.hid (by kernel_rfl)
    have H1 : Hid (([] : List Value).length + t.s.length ≤ maxLen) := Lib.hid (by unfold maxLen; simp; omega)
    have H2 : Hid ((([] : List Value).length + t.s.length) * 1 ≤ 140737488355328) := Lib.hid (by simp; omega)
    have H3 : Hid (((bi t.s).map (Value.int .u8)).length = t.s.length) := Lib.hid (by simp [bi])
    clear e h3 hok
    go_enter Try.func59, Try.ntmps59
    have hz0 : w.heap.size + 2 ≤ ((w.alloc (.cells #[.int .i64 t.stage, .int .i64 t.limit, .int .i64 t.rd, .int .i64 t.wr, .slice ra t.s.length rc, .int .i64 t.r, .int .i64 t.w] 45)).alloc (.cells #[.int .i64 0, .int .i64 0, .int .i64 0, .slice none 0 0, .int .i64 0] 32)).heap.size := by simp
    have HZ0 := Lib.hid hz0
    have b0 : WB ((w.alloc (.cells #[.int .i64 t.stage, .int .i64 t.limit, .int .i64 t.rd, .int .i64 t.wr, .slice ra t.s.length rc, .int .i64 t.r, .int .i64 t.w] 45)).alloc (.cells #[.int .i64 0, .int .i64 0, .int .i64 0, .slice none 0 0, .int .i64 0] 32)) (w.heap.size + 1) (.int .i64 0) (.int .i64 0) (.int .i64 0) (.slice none 0 0) (.int .i64 0) := newA (by simp)
    have B0 := Lib.hid b0
    clear hz0 b0
    go_wp2_with (refine wpList_append_fr _ rfl (.const (.slice none 0 0)) (.tmp 18) 22 rfl 5 (.int .u8 0) 1 HU.out HIN.out rfl (w.heap.size + 2) (.slice none 0 0) [] (by exact rfl) (Ow.nil _ _ _) ra t.s.length rc _ (by exact rfl) H3.out (HSV.out _ (((Fr.refl _ _).alloc _).alloc _)) (oneCell_bytes _) (by exact H1.out) (by exact H2.out) HZ0.out ?_)
    intro v' w1 o1 f1 hb
    have f1' : Fr [] _ w1 := f1
    have o2 : Ow w1 (w.heap.size + 2) 5 v' ((bi t.s).map (Value.int .u8)) := o1.out
    obtain ⟨ga, gc, rfl, _⟩ := o2.formB
    have q1 : WB w1 (w.heap.size + 1) (.int .i64 0) (.int .i64 0) (.int .i64 0) (.slice none 0 0) (.int .i64 0) := f1'.keep B0.out (by simp)
    obtain ⟨_, _, _, _, _, _, _, _, _, _⟩ := q1.cells
    have hz1 : w.heap.size + 1 < w1.heap.size := Nat.lt_of_lt_of_le (Nat.lt_succ_self _) (Nat.le_trans HZ0.out f1'.size)
    have F1 := Lib.hid ((((Fr.refl [] w).alloc _).alloc _).then0 f1')
    have Q1 := Lib.hid q1
    have O2 := Lib.hid o2
    clear o1 o2 f1 f1' hb q1 HSV H1 H2 H3 B0 HZ0
    go_wp2_with fail
    obtain ⟨s0, s1, s2, s3, s4, _⟩ := (five_set (u0 := .int .i64 2) (u1 := .int .i64 0) (u2 := .int .i64 0) (u3 := .slice ga t.s.length gc) (u4 := .int .i64 0) Q1.out).cells
    refine bodyPost_ret (v := .agg #[.int .i64 2, .int .i64 0, .int .i64 0, .slice ga t.s.length gc, .int .i64 0]) (by simp [results, Try.results59, go_sem, s0, s1, s2, s3, s4]) rfl ?_
    have fs : Fr [w.heap.size + 1] w1 (((((w1.setCell ⟨w.heap.size + 1, 0, none⟩ (.int .i64 2)).setCell ⟨w.heap.size + 1, 1, none⟩ (.int .i64 0)).setCell ⟨w.heap.size + 1, 2, none⟩ (.int .i64 0)).setCell ⟨w.heap.size + 1, 3, none⟩ (.slice ga t.s.length gc)).setCell ⟨w.heap.size + 1, 4, none⟩ (.int .i64 0)) :=
      (((((Fr.refl _ _).setCell (.inl (by simp)) _).setCell (.inl (by simp)) _).setCell (.inl (by simp)) _).setCell (.inl (by simp)) _).setCell (.inl (by simp)) _
    exact ⟨_, rfl, F1.out.trans fs (by simp) (fun x hx => .inr (by simp at hx; omega)), _, rfl, (O2.out.keep fs (fun k hk hm => by have := (O2.out.lt k hk).1; simp at hm; omega)).mono (by omega)⟩
  · rw [e]
    have hw' : (t.w != 0) = false := by simpa using hw
    have hs' : t.s.length = 0 := by rw [hs]; rfl
    have hd' : (t.r != 0 || t.rd == t.limit) = true := by simpa using hd
    clear e h3 hok hs
    unfold eofT
    by_cases h13 : t.r = 13
    · rw [if_pos h13]
      have n13 : (t.r == 13) = true := by simpa using h13
      have n0 : (t.r != 0) = true := by simp [h13]
      go_enter Try.func59, Try.ntmps59
      go_wp2_with fail
      refine bodyPost_ret (v := .agg #[.int .i64 4, .int .i64 0, .int .i64 t.wr, .slice none 0 0, .int .i64 0]) (by simp [results, Try.results59, go_sem]) rfl ?_
      exact ⟨_, rfl, ((Fr.refl _ _).alloc _).alloc _, Wv.plain _ _ _ _ _ _⟩
    · rw [if_neg h13]
      have n13 : (t.r == 13) = false := by simpa using h13
      by_cases h0 : t.r = 0
      · have n0 : (t.r != 0) = false := by simpa using h0
        have nl : (t.rd == t.limit) = true := by simpa [n0] using hd'
        have HR := Lib.hid h0
        clear h0
        go_enter Try.func59, Try.ntmps59
        go_wp2_with fail
        refine bodyPost_ret (v := .agg #[.int .i64 4, .int .i64 0, .int .i64 t.wr, .slice none 0 0, .int .i64 t.r]) (by simp [results, Try.results59, go_sem]) rfl ?_
        exact ⟨_, rfl, ((Fr.refl _ _).alloc _).alloc _, Wv.plain _ _ _ _ _ _⟩
      · have n0 : (t.r != 0) = true := by simpa using h0
        go_enter Try.func59, Try.ntmps59
        go_wp2_with fail
        refine bodyPost_ret (v := .agg #[.int .i64 4, .int .i64 0, .int .i64 t.wr, .slice none 0 0, .int .i64 t.r]) (by simp [results, Try.results59, go_sem]) rfl ?_
        exact ⟨_, rfl, ((Fr.refl _ _).alloc _).alloc _, Wv.plain _ _ _ _ _ _⟩
  · rw [e]
    have hw' : (t.w != 0) = false := by simpa using hw
    have hs' : t.s.length = 0 := by rw [hs]; rfl
    have n0 : (t.r != 0) = false := by simpa using hd
    have nl : (t.rd == t.limit) = false := by simpa using hl
    have HR := Lib.hid hd
    clear e h3 hok hs hd
    by_cases h1 : t.limit = -1
    · rw [if_pos h1]
      have hl3 : t.limit < 0 := by omega
      clear h1
      go_enter Try.func59, Try.ntmps59
      go_wp2_with fail
      refine bodyPost_ret (v := .agg #[.int .i64 1, .int .i64 0, .int .i64 t.stage, .slice none 0 0, .int .i64 0]) (by simp [results, Try.results59, go_sem]) rfl ?_
      exact ⟨_, rfl, ((Fr.refl _ _).alloc _).alloc _, Wv.plain _ _ _ _ _ _⟩
    · rw [if_neg h1]
      have hl3 : 0 ≤ t.limit := by omega
      clear h1
      by_cases hm : t.stage ≤ t.limit - t.rd
      · rw [Int.min_eq_left hm]
        go_enter Try.func59, Try.ntmps59
        go_wp2_with fail
        refine bodyPost_ret (v := .agg #[.int .i64 1, .int .i64 0, .int .i64 t.stage, .slice none 0 0, .int .i64 0]) (by simp [results, Try.results59, go_sem]) rfl ?_
        exact ⟨_, rfl, ((Fr.refl _ _).alloc _).alloc _, Wv.plain _ _ _ _ _ _⟩
      · have hm' : t.limit - t.rd < t.stage := by omega
        rw [Int.min_eq_right (by omega)]
        go_enter Try.func59, Try.ntmps59
        go_wp2_with fail
        refine bodyPost_ret (v := .agg #[.int .i64 1, .int .i64 0, .int .i64 (t.limit - t.rd), .slice none 0 0, .int .i64 0]) (by simp [results, Try.results59, go_sem]) rfl ?_
        exact ⟨_, rfl, ((Fr.refl _ _).alloc _).alloc _, Wv.plain _ _ _ _ _ _⟩
end Go.Proofs.Ytodpkdbcdbdjfaa
