/-
  Package transfer: what a transfer is in memory, and the contracts of its small functions.
-/
import Derived.Test.YtodpkdbcdbdjfaaTrMath
import Derived.BigRegion
import Derived.Deep.QuietTactic
import Derived.BigQuiet
namespace Go.Proofs.Ytodpkdbcdbdjfaa
open Go.RowKit
set_option maxRecDepth 100000

def TrB (w : World) (b : Nat) (a : Option Addr) (len cap : Nat) (n sg lm rd wr r wc : Int) : Prop :=
  w.heap[b]? = some (.cells #[.slice a len cap, .int .i64 n, .int .i64 sg, .int .i64 lm, .int .i64 rd, .int .i64 wr, .int .i64 r, .int .i64 wc] 55 (0, 0))
structure TrC (w : World) (b : Nat) (a : Option Addr) (len cap : Nat) (n sg lm rd wr r wc : Int) : Prop where
  c0 : w.cell? ⟨b, 0, none⟩ = some (.slice a len cap)
  c1 : w.cell? ⟨b, 1, none⟩ = some (.int .i64 n)
  c2 : w.cell? ⟨b, 2, none⟩ = some (.int .i64 sg)
  c3 : w.cell? ⟨b, 3, none⟩ = some (.int .i64 lm)
  c4 : w.cell? ⟨b, 4, none⟩ = some (.int .i64 rd)
  c5 : w.cell? ⟨b, 5, none⟩ = some (.int .i64 wr)
  c6 : w.cell? ⟨b, 6, none⟩ = some (.int .i64 r)
  c7 : w.cell? ⟨b, 7, none⟩ = some (.int .i64 wc)
  f0 : w.frozen? ⟨b, 0, none⟩ = false
  f1 : w.frozen? ⟨b, 1, none⟩ = false
  f4 : w.frozen? ⟨b, 4, none⟩ = false
  f5 : w.frozen? ⟨b, 5, none⟩ = false
  f6 : w.frozen? ⟨b, 6, none⟩ = false
  f7 : w.frozen? ⟨b, 7, none⟩ = false
theorem TrB.cells {w : World} {b : Nat} {a : Option Addr} {len cap : Nat} {n sg lm rd wr r wc : Int} (h : TrB w b a len cap n sg lm rd wr r wc) : TrC w b a len cap n sg lm rd wr r wc :=
  ⟨cell_of h, cell_of h, cell_of h, cell_of h, cell_of h, cell_of h, cell_of h, cell_of h, free_of h, free_of h, free_of h, free_of h, free_of h, free_of h⟩

/-- A transfer at block b that holds t; the parts of the bytes between lie where N allows. -/
def Tr (w : World) (N : Nat → Prop) (b : Nat) (t : TS) : Prop :=
  ∃ a cap P, TrB w b a P.length cap (tot P) t.stage t.limit t.rd t.wr t.r t.w ∧ Rp w N (.agg #[.slice a P.length cap, .int .i64 (tot P)]) P ∧ P.flatten = t.s ∧ ¬ N b ∧ (∀ x, w.heap.size ≤ x → N x) ∧ TOk t
theorem Tr.lt {w : World} {N : Nat → Prop} {b : Nat} {t : TS} (h : Tr w N b t) : b < w.heap.size := by obtain ⟨a, cap, P, h1, _⟩ := h; exact lt_of_heap h1
theorem Tr.ok {w : World} {N : Nat → Prop} {b : Nat} {t : TS} (h : Tr w N b t) : TOk t := by obtain ⟨a, cap, P, _, _, _, _, _, h1⟩ := h; exact h1
theorem Tr.keep {w w' : World} {N : Nat → Prop} {b : Nat} {t : TS} (h : Tr w N b t) {S : List Nat} (hf : Fr S w w') (hb : b ∉ S) (hS : ∀ x ∈ S, ¬ N x) : Tr w' N b t := by
  obtain ⟨a, cap, P, h1, h2, h3, h4, h5, h6⟩ := h
  exact ⟨a, cap, P, hf.keep h1 hb, h2.keep hf hS, h3, h4, fun x hx => h5 x (Nat.le_trans hf.size hx), h6⟩
theorem Tr.keep0 {w w' : World} {N : Nat → Prop} {b : Nat} {t : TS} (h : Tr w N b t) (hf : Fr [] w w') : Tr w' N b t := h.keep hf (by simp) (by simp)

/-- A want as a value; its bytes are one's own, in memory from M on. -/
def Wv (w : World) (M : Nat) (v : Value) (x : WT) : Prop :=
  ∃ u, v = .agg #[.int .i64 x.kind, .int .i64 x.side, .int .i64 x.n, u, .int .i64 x.err] ∧ Ow w M 5 u ((bi x.data).map (Value.int .u8))
theorem Wv.plain (w : World) (M : Nat) (k s n e : Int) : Wv w M (.agg #[.int .i64 k, .int .i64 s, .int .i64 n, .slice none 0 0, .int .i64 e]) ⟨k, s, n, [], e⟩ := ⟨_, rfl, Ow.nil _ _ _⟩
theorem Wv.mono {w : World} {M M' : Nat} {v : Value} {x : WT} (h : Wv w M v x) (hM : M' ≤ M) : Wv w M' v x := by
  obtain ⟨u, h1, h2⟩ := h
  exact ⟨u, h1, h2.mono hM⟩

theorem tnone_nil (w : World) :
    Calls Try.prog 48 #[.pointer none] w fun e w' => e = .returned (.bool true) ∧ w = w' := by
  go_enter Try.func48, Try.ntmps48
  go_wp2
  go_ret
  exact ⟨rfl, rfl⟩
section
variable {w : World} {b : Nat} {a : Option Addr} {len cap : Nat} {n sg lm rd wr r wc : Int}
theorem tnone_zero (h : TrB w b a len cap n 0 lm rd wr r wc) :
    Calls Try.prog 48 #[.pointer (some ⟨b, 0, none⟩)] w fun e w' => e = .returned (.bool true) ∧ w = w' := by
  have h0 := h.cells.c2
  go_enter Try.func48, Try.ntmps48
  go_wp2
  go_ret
  exact ⟨rfl, rfl⟩
theorem tnone_no (h : TrB w b a len cap n sg lm rd wr r wc) (h1 : (sg == 0) = false) :
    Calls Try.prog 48 #[.pointer (some ⟨b, 0, none⟩)] w fun e w' => e = .returned (.bool false) ∧ w = w' := by
  have h0 := h.cells.c2
  go_enter Try.func48, Try.ntmps48
  go_wp2
  go_ret
  exact ⟨rfl, rfl⟩
end
theorem tallowed (w : World) (sg lm : Int) :
    Calls Try.prog 47 #[.int .i64 sg, .int .i64 lm] w fun e w' => e = .returned (.bool (okS sg lm)) ∧ w = w' := by
  unfold okS
  by_cases h1 : 1 ≤ sg
  · by_cases h2 : sg ≤ 4096
    · by_cases h3 : -1 ≤ lm
      · by_cases h4 : lm ≤ 1073741824
        · go_enter Try.func47, Try.ntmps47
          go_wp2
          go_ret
          exact ⟨by first | (simp [*]; done) | (simp [*]; omega), rfl⟩
        · go_enter Try.func47, Try.ntmps47
          go_wp2
          go_ret
          exact ⟨by first | (simp [*]; done) | (simp [*]; omega), rfl⟩
      · go_enter Try.func47, Try.ntmps47
        go_wp2
        go_ret
        exact ⟨by first | (simp [*]; done) | (simp [*]; omega), rfl⟩
    · go_enter Try.func47, Try.ntmps47
      go_wp2
      go_ret
      exact ⟨by first | (simp [*]; done) | (simp [*]; omega), rfl⟩
  · go_enter Try.func47, Try.ntmps47
    go_wp2
    go_ret
    exact ⟨by first | (simp [*]; done) | (simp [*]; omega), rfl⟩
theorem tcode (w : World) (n e : Int) :
    Calls Try.prog 62 #[.int .i64 n, .int .i64 e] w fun x w' => x = .returned (.bool (codeN n e)) ∧ w = w' := by
  unfold codeN codeE
  by_cases h0 : e = 0
  · subst h0
    go_enter Try.func62, Try.ntmps62
    go_wp2
    go_ret
    exact ⟨by simp, rfl⟩
  · by_cases h1 : 1 ≤ e
    · by_cases h2 : e ≤ 1000
      · by_cases h3 : e = 16
        · subst h3
          go_enter Try.func62, Try.ntmps62
          go_wp2
          go_ret
          exact ⟨by simp, rfl⟩
        · have n0 : (e == 0) = false := by simpa using h0
          have n3 : (e != 16) = true := by simpa using h3
          go_enter Try.func62, Try.ntmps62
          go_wp2
          go_ret
          exact ⟨by first | (simp [*]; done) | (simp [*]; omega), rfl⟩
      · have n0 : (e == 0) = false := by simpa using h0
        go_enter Try.func62, Try.ntmps62
        go_wp2
        go_ret
        exact ⟨by first | (simp [*]; done) | (simp [*]; omega), rfl⟩
    · have n0 : (e == 0) = false := by simpa using h0
      go_enter Try.func62, Try.ntmps62
      go_wp2
      go_ret
      exact ⟨by first | (simp [*]; done) | (simp [*]; omega), rfl⟩

theorem tr_new_bad (w : World) {sg lm : Int} (h : okS sg lm = false) :
    Calls Try.prog 16 #[.int .i64 sg, .int .i64 lm] w fun e w' => e = .returned (.tuple #[.pointer none, .int .i64 2]) ∧ w = w' := by
  have H := Lib.hid (h ▸ tallowed w sg lm)
  clear h
  go_enter Try.func16, Try.ntmps16
  go_wp2_with fail
  refine H.out.mono ?_
  rintro e w' ⟨rfl, rfl⟩
  go_wp2_with fail
  go_ret2
  exact ⟨rfl, rfl⟩
theorem tr_new_ok (w : World) {sg lm : Int} (h : okS sg lm = true) :
    Calls Try.prog 16 #[.int .i64 sg, .int .i64 lm] w fun e w' => e = .returned (.tuple #[.pointer (some ⟨w.heap.size, 0, none⟩), .int .i64 0]) ∧ Fr [] w w' ∧ Tr w' (fun x => x ≠ w.heap.size) w.heap.size (newT sg lm) := by
  have hok := newT_ok h
  have H := Lib.hid (h ▸ tallowed w sg lm)
  have HO := Lib.hid hok
  clear h hok
  go_enter Try.func16, Try.ntmps16
  go_wp2_with fail
  refine H.out.mono ?_
  rintro e w' ⟨rfl, rfl⟩
  go_wp2_with fail
  go_ret2
  exact ⟨rfl, (Fr.refl _ _).alloc _, none, 0, [], newA rfl, Rp.none_ _ _, rfl, by simp, fun x hx => by simp at hx; omega, HO.out⟩

/-- A want in a cell of one's own. -/
def WB (w : World) (b : Nat) (v0 v1 v2 v3 v4 : Value) : Prop := w.heap[b]? = some (.cells #[v0, v1, v2, v3, v4] 32 (0, 0))
structure WC (w : World) (b : Nat) (v0 v1 v2 v3 v4 : Value) : Prop where
  c0 : w.cell? ⟨b, 0, none⟩ = some v0
  c1 : w.cell? ⟨b, 1, none⟩ = some v1
  c2 : w.cell? ⟨b, 2, none⟩ = some v2
  c3 : w.cell? ⟨b, 3, none⟩ = some v3
  c4 : w.cell? ⟨b, 4, none⟩ = some v4
  f0 : w.frozen? ⟨b, 0, none⟩ = false
  f1 : w.frozen? ⟨b, 1, none⟩ = false
  f2 : w.frozen? ⟨b, 2, none⟩ = false
  f3 : w.frozen? ⟨b, 3, none⟩ = false
  f4 : w.frozen? ⟨b, 4, none⟩ = false
theorem WB.cells {w : World} {b : Nat} {v0 v1 v2 v3 v4 : Value} (h : WB w b v0 v1 v2 v3 v4) : WC w b v0 v1 v2 v3 v4 :=
  ⟨cell_of h, cell_of h, cell_of h, cell_of h, cell_of h, free_of h, free_of h, free_of h, free_of h, free_of h⟩
theorem five_set {w : World} {b : Nat} {v0 v1 v2 v3 v4 u0 u1 u2 u3 u4 : Value} (h : WB w b v0 v1 v2 v3 v4) : WB (((((w.setCell ⟨b, 0, none⟩ u0).setCell ⟨b, 1, none⟩ u1).setCell ⟨b, 2, none⟩ u2).setCell ⟨b, 3, none⟩ u3).setCell ⟨b, 4, none⟩ u4) b u0 u1 u2 u3 u4 := by
  have hb := heap_setCell_eq (i := 4) (u := u4) (heap_setCell_eq (i := 3) (u := u3) (heap_setCell_eq (i := 2) (u := u2) (heap_setCell_eq (i := 1) (u := u1) (heap_setCell_eq (i := 0) (u := u0) h))))
  simp at hb
  exact hb

section
variable {w : World} {b : Nat} {a : Option Addr} {len cap : Nat} {n sg lm rd wr r wc : Int}
theorem tr_failed (h : TrB w b a len cap n sg lm rd wr r wc) :
    Calls Try.prog 49 #[.pointer (some ⟨b, 0, none⟩)] w fun e w' => e = .returned (.tuple #[.agg #[.int .i64 4, .int .i64 0, .int .i64 wr, .slice none 0 0, .int .i64 wc], .bool (wc != 0)]) ∧ Fr [] w w' := by
  have hb := lt_of_heap h
  obtain ⟨c0, c1, c2, c3, c4, c5, c6, c7, _, _, _, _, _, _⟩ := h.cells
  go_enter Try.func49, Try.ntmps49
  go_wp2_with fail
  go_region
  go_wp2_with fail
  refine bodyPost_ret (v := .tuple #[.agg #[.int .i64 4, .int .i64 0, .int .i64 wr, .slice none 0 0, .int .i64 wc], .bool (wc != 0)]) (by simp [results, Try.results49, go_sem]) rfl ?_
  exact ⟨rfl, ((Fr.refl _ _).alloc _).drew⟩
theorem tr_done (h : TrB w b a len cap n sg lm rd wr r wc) :
    Calls Try.prog 51 #[.pointer (some ⟨b, 0, none⟩)] w fun e w' => e = .returned (.tuple #[.agg #[.int .i64 4, .int .i64 0, .int .i64 wr, .slice none 0 0, .int .i64 (eofT r)], .bool (r != 0 || rd == lm)]) ∧ Fr [] w w' := by
  have hb := lt_of_heap h
  have hb1 : b < w.heap.size + 1 := by omega
  have hb2 : b < w.heap.size + 1 + 1 := by omega
  obtain ⟨c0, c1, c2, c3, c4, c5, c6, c7, _, _, _, _, _, _⟩ := h.cells
  unfold eofT
  clear h
  by_cases h13 : r = 13
  · subst h13
    go_enter Try.func51, Try.ntmps51
    go_wp2_with fail
    go_region
    go_wp2_with fail
    go_region
    go_wp2_with fail
    refine bodyPost_ret (v := .tuple #[.agg #[.int .i64 4, .int .i64 0, .int .i64 wr, .slice none 0 0, .int .i64 0], .bool true]) (by simp [results, Try.results51, go_sem]) rfl ?_
    exact ⟨by simp, (((((Fr.refl _ _).alloc _).alloc _).drew).drew)⟩
  · have n13 : (r == 13) = false := by simpa using h13
    rw [if_neg h13]
    by_cases h0 : r = 0
    · subst h0
      go_enter Try.func51, Try.ntmps51
      go_wp2_with fail
      go_region
      go_wp2_with fail
      go_region
      go_wp2_with fail
      refine bodyPost_ret (v := .tuple #[.agg #[.int .i64 4, .int .i64 0, .int .i64 wr, .slice none 0 0, .int .i64 0], .bool (rd == lm)]) (by simp [results, Try.results51, go_sem]) rfl ?_
      exact ⟨by simp, (((((Fr.refl _ _).alloc _).alloc _).drew).drew)⟩
    · have n0 : (r != 0) = true := by simpa using h0
      go_enter Try.func51, Try.ntmps51
      go_wp2_with fail
      go_region
      go_wp2_with fail
      go_region
      go_wp2_with fail
      refine bodyPost_ret (v := .tuple #[.agg #[.int .i64 4, .int .i64 0, .int .i64 wr, .slice none 0 0, .int .i64 r], .bool true]) (by simp [results, Try.results51, go_sem]) rfl ?_
      exact ⟨by simp [n0], (((((Fr.refl _ _).alloc _).alloc _).drew).drew)⟩
theorem tr_more (h : TrB w b a len cap n sg lm rd wr r wc) (hs : 0 ≤ sg) (hl : -1 ≤ lm) (hl2 : lm ≤ 1073741824) (hr : 0 ≤ rd) (hr2 : rd ≤ 4611686018427387904) :
    Calls Try.prog 52 #[.pointer (some ⟨b, 0, none⟩)] w fun e w' => e = .returned (.tuple #[.agg #[.int .i64 1, .int .i64 0, .int .i64 (if lm = -1 then sg else min sg (lm - rd)), .slice none 0 0, .int .i64 0], .bool true]) ∧ Fr [] w w' := by
  have hb := lt_of_heap h
  have hb1 : b < w.heap.size + 1 := by omega
  obtain ⟨c0, c1, c2, c3, c4, c5, c6, c7, _, _, _, _, _, _⟩ := h.cells
  clear h
  by_cases h13 : lm = -1
  · subst h13
    go_enter Try.func52, Try.ntmps52
    go_wp2_with fail
    refine bodyPost_ret (v := .tuple #[.agg #[.int .i64 1, .int .i64 0, .int .i64 sg, .slice none 0 0, .int .i64 0], .bool true]) (by simp [results, Try.results52, go_sem]) rfl ?_
    exact ⟨by simp, (Fr.refl _ _).alloc _⟩
  · have n13 : (lm != -1) = true := by simpa using h13
    rw [if_neg h13]
    go_enter Try.func52, Try.ntmps52
    go_wp2_with fail
    go_region
    all_goals go_wp2_with fail
    · refine bodyPost_ret (v := .tuple #[.agg #[.int .i64 1, .int .i64 0, .int .i64 (lm - rd), .slice none 0 0, .int .i64 0], .bool true]) (by simp [results, Try.results52, go_sem]) rfl ?_
      exact ⟨by rw [Int.min_eq_right (by omega)], ((Fr.refl _ _).alloc _).drew⟩
    · refine bodyPost_ret (v := .tuple #[.agg #[.int .i64 1, .int .i64 0, .int .i64 sg, .slice none 0 0, .int .i64 0], .bool true]) (by simp [results, Try.results52, go_sem]) rfl ?_
      exact ⟨by rw [Int.min_eq_left (by omega)], ((Fr.refl _ _).alloc _).drew⟩
theorem tr_write (h : TrB w b a len cap n sg lm rd wr r wc) {N : Nat → Prop} {P : Parts} (hr : Rp w N (.agg #[.slice a len cap, .int .i64 n]) P) :
    Calls Try.prog 50 #[.pointer (some ⟨b, 0, none⟩)] w fun e w' => ∃ v, e = .returned (.tuple #[v, .bool (decide (0 < tot P))]) ∧ Fr [] w w' ∧ Wv w' w.heap.size v ⟨2, 0, 0, P.flatten, 0⟩ := by
  have hS : ∀ w', Fr [] w w' → w'.cell? ⟨b, 0, none⟩ = some (.slice a len cap) ∧ w'.cell? ⟨b, 1, none⟩ = some (.int .i64 n) := fun w' f => ⟨cell_of (f.keep h (by simp)), cell_of (f.keep h (by simp))⟩
  have HS := Lib.hid hS
  have HB : Hid (∀ w1, Fr [] w w1 → w.heap.size < w1.heap.size → WB w1 w.heap.size (.int .i64 0) (.int .i64 0) (.int .i64 0) (.slice none 0 0) (.int .i64 0) → Calls Try.prog 58 #[.agg #[.slice a len cap, .int .i64 n]] w1 fun e w' => ∃ ga gn gc, e = .returned (.slice ga gn gc) ∧ Fr [] w w' ∧ w.heap.size < w'.heap.size ∧ WB w' w.heap.size (.int .i64 0) (.int .i64 0) (.int .i64 0) (.slice none 0 0) (.int .i64 0) ∧ Ow w' (w.heap.size + 1) 5 (.slice ga gn gc) ((bi P.flatten).map (Value.int .u8))) :=
    Lib.hid fun w1 f hz q => (rope_bytes (hr.keep f (by simp))).mono fun e w' ⟨u, he, f2, ho⟩ => by
      obtain ⟨ga, gc, hu, _⟩ := ho.form
      subst hu
      exact ⟨ga, _, gc, he, f.then0 f2, Nat.lt_of_lt_of_le hz f2.size, f2.keep q (by simp), ho.mono hz⟩
  have HL : Hid (∀ w1, Fr [] w w1 → w.heap.size < w1.heap.size → Calls Try.prog 75 #[.agg #[.slice a len cap, .int .i64 n]] w1 fun e w' => e = .returned (.int .i64 (tot P)) ∧ Fr [] w w' ∧ w.heap.size < w'.heap.size ∧ Fr [] w1 w') :=
    Lib.hid fun w1 f hz => (rope_len (hr.keep f (by simp))).mono fun e w' ⟨he, f2⟩ => ⟨he, f.then0 f2, Nat.lt_of_lt_of_le hz f2.size, f2⟩
  have hd := hS w (Fr.refl _ _)
  have hb := lt_of_heap h
  obtain ⟨d0, d1⟩ := hd
  clear hS hr h
  go_enter Try.func50, Try.ntmps50
  go_wp2_with fail
  obtain ⟨W, hW, f0, hz, b0⟩ : ∃ W, W = w.alloc (.cells #[.int .i64 0, .int .i64 0, .int .i64 0, .slice none 0 0, .int .i64 0] 32) ∧ Fr [] w W ∧ w.heap.size < W.heap.size ∧ WB W w.heap.size (.int .i64 0) (.int .i64 0) (.int .i64 0) (.slice none 0 0) (.int .i64 0) := ⟨_, rfl, (Fr.refl _ _).alloc _, by simp, newA rfl⟩
  rw [← hW]
  clear hW d0 d1
  obtain ⟨d0, d1⟩ := HS.out W f0
  have fd : Fr [] w W.drew := f0.drew
  have hzd : w.heap.size < W.drew.heap.size := hz
  have bd : WB W.drew w.heap.size (.int .i64 0) (.int .i64 0) (.int .i64 0) (.slice none 0 0) (.int .i64 0) := b0
  go_region_held3 (fun w' => w'.cell? ⟨b, 0, none⟩ = some (.slice a len cap) ∧ w'.cell? ⟨b, 1, none⟩ = some (.int .i64 n))
    (first | (with_reducible exact ⟨d0, d1⟩) | (with_reducible refine HS.out _ ?_; repeat first | (with_reducible exact gl) | (with_reducible exact gb) | (with_reducible exact f0) | (with_reducible refine Fr.drew ?_) | (with_reducible refine Fr.setCell ?_ (.inr (by dsimp only; omega)) _)))
    (first
      | (go_at_call 58; (with_reducible refine (HB.out W.drew fd hzd bd).mono ?_); rintro e wb ⟨ga, gn, gc, rfl, gb, hzb, bb, ob⟩; obtain ⟨x0, x1, x2, x3, x4, x5, x6, x7, x8, x9⟩ := bb.cells)
      | (go_at_call 58; (with_reducible refine (HB.out wl gl hzl bl).mono ?_); rintro e wb ⟨ga, gn, gc, rfl, gb, hzb, bb, ob⟩; obtain ⟨x0, x1, x2, x3, x4, x5, x6, x7, x8, x9⟩ := bb.cells)
      | (go_at_call 75; (with_reducible refine (HL.out W.drew fd hzd).mono ?_); rintro e wl ⟨rfl, gl, hzl, fl⟩; have bl : WB wl w.heap.size (.int .i64 0) (.int .i64 0) (.int .i64 0) (.slice none 0 0) (.int .i64 0) := fl.keep bd (by simp); obtain ⟨y0, y1, y2, y3, y4, y5, y6, y7, y8, y9⟩ := bl.cells)
      | (go_at_call 75; (with_reducible refine (HL.out wb gb hzb).mono ?_); rintro e wl ⟨rfl, gl, hzl, fl⟩; have bl : WB wl w.heap.size (.int .i64 0) (.int .i64 0) (.int .i64 0) (.slice none 0 0) (.int .i64 0) := fl.keep bb (by simp); have ol := ob.keep fl (by simp); obtain ⟨y0, y1, y2, y3, y4, y5, y6, y7, y8, y9⟩ := bl.cells))
  go_wp2_with fail
  have q := five_set (u0 := .int .i64 2) (u1 := .int .i64 0) (u2 := .int .i64 0) (u3 := .slice ga gn gc) (u4 := .int .i64 0) bl
  obtain ⟨r0, r1, r2, r3, r4, _⟩ := q.cells
  refine bodyPost_ret (v := .tuple #[.agg #[.int .i64 2, .int .i64 0, .int .i64 0, .slice ga gn gc, .int .i64 0], .bool (decide (0 < tot P))]) (by simp [results, Try.results50, go_sem, r0, r1, r2, r3, r4]) rfl ?_
  have fs : Fr [w.heap.size] wl (((((wl.setCell ⟨w.heap.size, 0, none⟩ (.int .i64 2)).setCell ⟨w.heap.size, 1, none⟩ (.int .i64 0)).setCell ⟨w.heap.size, 2, none⟩ (.int .i64 0)).setCell ⟨w.heap.size, 3, none⟩ (.slice ga gn gc)).setCell ⟨w.heap.size, 4, none⟩ (.int .i64 0)) :=
    (((((Fr.refl _ _).setCell (.inl (by simp)) _).setCell (.inl (by simp)) _).setCell (.inl (by simp)) _).setCell (.inl (by simp)) _).setCell (.inl (by simp)) _
  exact ⟨_, rfl, gl.trans fs (by simp) (by simp), _, rfl, (ol.keep fs (fun k hk hm => by have := (ol.lt k hk).1; simp at hm; omega)).mono (by omega)⟩
end
end Go.Proofs.Ytodpkdbcdbdjfaa
