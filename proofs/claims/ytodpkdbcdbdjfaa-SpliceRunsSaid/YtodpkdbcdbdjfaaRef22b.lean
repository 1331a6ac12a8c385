/-
  The reference of law 22: the contracts of Side, noted, Got, Wrote, Close, Done and New.
-/
import Derived.Test.YtodpkdbcdbdjfaaRef22
import Derived.Laws.ResultCell
import Derived.Laws.Rows
namespace Go.Proofs.Ytodpkdbcdbdjfaa
open Go.RowKit
set_option maxRecDepth 100000

def noteR (s : SS) : SS := { s with first := noteF (noteF s.first (nextS s.t0 s.c0 0)) (nextS s.t1 s.c1 1) }
def SBs (w : World) (b : Nat) (a0 : Option Addr) (k0 : Nat) (a1 : Option Addr) (k1 : Nat) (t0 t1 : TS) (c0 c1 : Bool) (f : Int) : Prop := SB w b (.int .i64 t0.stage) (.int .i64 t0.limit) (.int .i64 t0.rd) (.int .i64 t0.wr) (.slice a0 t0.s.length k0) (.int .i64 t0.r) (.int .i64 t0.w) (.int .i64 t1.stage) (.int .i64 t1.limit) (.int .i64 t1.rd) (.int .i64 t1.wr) (.slice a1 t1.s.length k1) (.int .i64 t1.r) (.int .i64 t1.w) (.bool c0) (.bool c1) (.int .i64 f)
theorem SBs.keep {w w' : World} {b : Nat} {a0 a1 : Option Addr} {k0 k1 : Nat} {t0 t1 : TS} {c0 c1 : Bool} {f : Int} (h : SBs w b a0 k0 a1 k1 t0 t1 c0 c1 f) {S : List Nat} (g : Fr S w w') (hb : b ∉ S) : SBs w' b a0 k0 a1 k1 t0 t1 c0 c1 f := g.keep (show w.heap[b]? = _ from h) hb
theorem SBs.setF {w : World} {b : Nat} {a0 a1 : Option Addr} {k0 k1 : Nat} {t0 t1 : TS} {c0 c1 : Bool} {f : Int} (h : SBs w b a0 k0 a1 k1 t0 t1 c0 c1 f) (x : Int) : SBs (w.setCell ⟨b, 16, none⟩ (.int .i64 x)) b a0 k0 a1 k1 t0 t1 c0 c1 x := by
  have := heap_setCell_eq (i := 16) (u := .int .i64 x) h
  simp at this
  exact this
theorem SBs.setC0 {w : World} {b : Nat} {a0 a1 : Option Addr} {k0 k1 : Nat} {t0 t1 : TS} {c0 c1 : Bool} {f : Int} (h : SBs w b a0 k0 a1 k1 t0 t1 c0 c1 f) (x : Bool) : SBs (w.setCell ⟨b, 14, none⟩ (.bool x)) b a0 k0 a1 k1 t0 t1 x c1 f := by
  have := heap_setCell_eq (i := 14) (u := .bool x) h
  simp at this
  exact this
theorem SBs.setC1 {w : World} {b : Nat} {a0 a1 : Option Addr} {k0 k1 : Nat} {t0 t1 : TS} {c0 c1 : Bool} {f : Int} (h : SBs w b a0 k0 a1 k1 t0 t1 c0 c1 f) (x : Bool) : SBs (w.setCell ⟨b, 15, none⟩ (.bool x)) b a0 k0 a1 k1 t0 t1 c0 x f := by
  have := heap_setCell_eq (i := 15) (u := .bool x) h
  simp at this
  exact this
theorem SBs.setT0 {w : World} {b : Nat} {a0 a1 : Option Addr} {k0 k1 : Nat} {t0 t1 : TS} {c0 c1 : Bool} {f : Int} (h : SBs w b a0 k0 a1 k1 t0 t1 c0 c1 f) (x : TS) (a : Option Addr) (k : Nat) :
    ∃ W, W = (((((((w.setCell ⟨b, 0, none⟩ (.int .i64 x.stage)).setCell ⟨b, 1, none⟩ (.int .i64 x.limit)).setCell ⟨b, 2, none⟩ (.int .i64 x.rd)).setCell ⟨b, 3, none⟩ (.int .i64 x.wr)).setCell ⟨b, 4, none⟩ (.slice a x.s.length k)).setCell ⟨b, 5, none⟩ (.int .i64 x.r)).setCell ⟨b, 6, none⟩ (.int .i64 x.w)) ∧ Fr [b] w W ∧ SBs W b a k a1 k1 x t1 c0 c1 f := by
  refine ⟨_, rfl, (((((((Fr.refl _ _).setCell (.inl (by simp)) _).setCell (.inl (by simp)) _).setCell (.inl (by simp)) _).setCell (.inl (by simp)) _).setCell (.inl (by simp)) _).setCell (.inl (by simp)) _).setCell (.inl (by simp)) _, ?_⟩
  have := (heap_setCell_eq (i := 6) (u := .int .i64 x.w) (heap_setCell_eq (i := 5) (u := .int .i64 x.r) (heap_setCell_eq (i := 4) (u := .slice a x.s.length k) (heap_setCell_eq (i := 3) (u := .int .i64 x.wr) (heap_setCell_eq (i := 2) (u := .int .i64 x.rd) (heap_setCell_eq (i := 1) (u := .int .i64 x.limit) (heap_setCell_eq (i := 0) (u := .int .i64 x.stage) h)))))))
  simp at this
  exact this
theorem SBs.setT1 {w : World} {b : Nat} {a0 a1 : Option Addr} {k0 k1 : Nat} {t0 t1 : TS} {c0 c1 : Bool} {f : Int} (h : SBs w b a0 k0 a1 k1 t0 t1 c0 c1 f) (x : TS) (a : Option Addr) (k : Nat) :
    ∃ W, W = (((((((w.setCell ⟨b, 7, none⟩ (.int .i64 x.stage)).setCell ⟨b, 8, none⟩ (.int .i64 x.limit)).setCell ⟨b, 9, none⟩ (.int .i64 x.rd)).setCell ⟨b, 10, none⟩ (.int .i64 x.wr)).setCell ⟨b, 11, none⟩ (.slice a x.s.length k)).setCell ⟨b, 12, none⟩ (.int .i64 x.r)).setCell ⟨b, 13, none⟩ (.int .i64 x.w)) ∧ Fr [b] w W ∧ SBs W b a0 k0 a k t0 x c0 c1 f := by
  refine ⟨_, rfl, (((((((Fr.refl _ _).setCell (.inl (by simp)) _).setCell (.inl (by simp)) _).setCell (.inl (by simp)) _).setCell (.inl (by simp)) _).setCell (.inl (by simp)) _).setCell (.inl (by simp)) _).setCell (.inl (by simp)) _, ?_⟩
  have := (heap_setCell_eq (i := 13) (u := .int .i64 x.w) (heap_setCell_eq (i := 12) (u := .int .i64 x.r) (heap_setCell_eq (i := 11) (u := .slice a x.s.length k) (heap_setCell_eq (i := 10) (u := .int .i64 x.wr) (heap_setCell_eq (i := 9) (u := .int .i64 x.rd) (heap_setCell_eq (i := 8) (u := .int .i64 x.limit) (heap_setCell_eq (i := 7) (u := .int .i64 x.stage) h)))))))
  simp at this
  exact this
theorem sbs_loadW {w : World} {b : Nat} {a0 a1 : Option Addr} {k0 k1 : Nat} {t0 t1 : TS} {c0 c1 : Bool} {f : Int} (q : SBs w b a0 k0 a1 k1 t0 t1 c0 c1 f) {ops : Array Oper} {rest : List Oper} {o : Oper} {a : Act} {Q : Exit → Act → World → Prop} (hgd : o.guard = none) (x : Operand) (ho : o.op = .load 95 x) (hx : a.eval x = .pointer (some ⟨b, 0, none⟩))
    (h : wpList Try.prog ops Q rest (a.put o.dst (.agg #[.int .i64 t0.stage, .int .i64 t0.limit, .int .i64 t0.rd, .int .i64 t0.wr, .slice a0 t0.s.length k0, .int .i64 t0.r, .int .i64 t0.w, .int .i64 t1.stage, .int .i64 t1.limit, .int .i64 t1.rd, .int .i64 t1.wr, .slice a1 t1.s.length k1, .int .i64 t1.r, .int .i64 t1.w, .bool c0, .bool c1, .int .i64 f])) w) : wpList Try.prog ops Q (o :: rest) a w :=
  wpList_load_row hgd _ x ho b hx _ _ _ _ q Try.underlying95 rfl (by kernel_rfl) h
theorem sbs_set {w : World} {b : Nat} {v0 v1 v2 v3 v4 v5 v6 v7 v8 v9 v10 v11 v12 v13 v14 v15 v16 : Value} (q : SB w b v0 v1 v2 v3 v4 v5 v6 v7 v8 v9 v10 v11 v12 v13 v14 v15 v16) (a0 : Option Addr) (k0 : Nat) (a1 : Option Addr) (k1 : Nat) (t0 t1 : TS) (c0 c1 : Bool) (f : Int) :
    ∃ W, w.setRow b #[.int .i64 t0.stage, .int .i64 t0.limit, .int .i64 t0.rd, .int .i64 t0.wr, .slice a0 t0.s.length k0, .int .i64 t0.r, .int .i64 t0.w, .int .i64 t1.stage, .int .i64 t1.limit, .int .i64 t1.rd, .int .i64 t1.wr, .slice a1 t1.s.length k1, .int .i64 t1.r, .int .i64 t1.w, .bool c0, .bool c1, .int .i64 f] = W ∧ SBs W b a0 k0 a1 k1 t0 t1 c0 c1 f ∧ Fr [b] w W := ⟨_, rfl, setRow_heap w b _ _ _ _ q, (Fr.refl [b] w).setRow (.inl (by simp)) _⟩
theorem sbs_storeW {w W : World} {b : Nat} {v0 v1 v2 v3 v4 v5 v6 v7 v8 v9 v10 v11 v12 v13 v14 v15 v16 : Value} (q : SB w b v0 v1 v2 v3 v4 v5 v6 v7 v8 v9 v10 v11 v12 v13 v14 v15 v16) {a0 a1 : Option Addr} {k0 k1 : Nat} {t0 t1 : TS} {c0 c1 : Bool} {f : Int} (hW : w.setRow b #[.int .i64 t0.stage, .int .i64 t0.limit, .int .i64 t0.rd, .int .i64 t0.wr, .slice a0 t0.s.length k0, .int .i64 t0.r, .int .i64 t0.w, .int .i64 t1.stage, .int .i64 t1.limit, .int .i64 t1.rd, .int .i64 t1.wr, .slice a1 t1.s.length k1, .int .i64 t1.r, .int .i64 t1.w, .bool c0, .bool c1, .int .i64 f] = W) {ops : Array Oper} {rest : List Oper} {o : Oper} {a : Act} {Q : Exit → Act → World → Prop} (hgd : o.guard = none) (x y : Operand) (ho : o.op = .store 95 x y) (hd : o.dst = none) (hx : a.eval x = .pointer (some ⟨b, 0, none⟩)) (hy : a.eval y = .agg #[.int .i64 t0.stage, .int .i64 t0.limit, .int .i64 t0.rd, .int .i64 t0.wr, .slice a0 t0.s.length k0, .int .i64 t0.r, .int .i64 t0.w, .int .i64 t1.stage, .int .i64 t1.limit, .int .i64 t1.rd, .int .i64 t1.wr, .slice a1 t1.s.length k1, .int .i64 t1.r, .int .i64 t1.w, .bool c0, .bool c1, .int .i64 f])
    (h : wpList Try.prog ops Q rest a W) : wpList Try.prog ops Q (o :: rest) a w :=
  wpList_store_row hgd _ x y ho b _ hx hy _ _ q (by kernel_rfl) rfl (by simp [Value.oneCell']) (by rw [hd, hW]; exact h)
theorem sbs_result {w : World} {b p : Nat} {a0 a1 : Option Addr} {k0 k1 : Nat} {t0 t1 : TS} {c0 c1 : Bool} {f : Int} {fn : Func} {tmps : Array Value} (q : SBs w b a0 k0 a1 k1 t0 t1 c0 c1 f) (h : fn.results = #[.cell p 95]) (hp : tmps.getD p undef = .pointer (some ⟨b, 0, none⟩)) :
    (results fn tmps).run Try.prog w = .ok (.agg #[.int .i64 t0.stage, .int .i64 t0.limit, .int .i64 t0.rd, .int .i64 t0.wr, .slice a0 t0.s.length k0, .int .i64 t0.r, .int .i64 t0.w, .int .i64 t1.stage, .int .i64 t1.limit, .int .i64 t1.rd, .int .i64 t1.wr, .slice a1 t1.s.length k1, .int .i64 t1.r, .int .i64 t1.w, .bool c0, .bool c1, .int .i64 f]) w := results_cell_row h tmps w b _ _ _ _ hp q Try.underlying95 rfl (by kernel_rfl)
theorem sbs_result2 {w : World} {b p u : Nat} {a0 a1 : Option Addr} {k0 k1 : Nat} {t0 t1 : TS} {c0 c1 : Bool} {f : Int} {fn : Func} {tmps : Array Value} {y : Value} (q : SBs w b a0 k0 a1 k1 t0 t1 c0 c1 f) (h : fn.results = #[.cell p 95, .tmp u]) (hp : tmps.getD p undef = .pointer (some ⟨b, 0, none⟩)) (hu : tmps.getD u undef = y) :
    (results fn tmps).run Try.prog w = .ok (.tuple #[.agg #[.int .i64 t0.stage, .int .i64 t0.limit, .int .i64 t0.rd, .int .i64 t0.wr, .slice a0 t0.s.length k0, .int .i64 t0.r, .int .i64 t0.w, .int .i64 t1.stage, .int .i64 t1.limit, .int .i64 t1.rd, .int .i64 t1.wr, .slice a1 t1.s.length k1, .int .i64 t1.r, .int .i64 t1.w, .bool c0, .bool c1, .int .i64 f], y]) w := by
  rw [results_cell_tmp h, hp, hu]
  have := run_loadVar_row (P := Try.prog) w b _ _ _ _ _ q Try.underlying95 rfl (by kernel_rfl)
  simp only [asAddr, Sem.run_pure, Result.andThen, this]
theorem noteF_yes {f : Int} {x : WT} (hk : x.kind = 4) (hf : f = 0) : noteF f x = x.err := by unfold noteF; rw [if_pos ⟨hk, hf⟩]
theorem noteF_no {f : Int} {x : WT} (h : ¬ (x.kind = 4 ∧ f = 0)) : noteF f x = f := by unfold noteF; rw [if_neg h]
theorem rs_nextF0 {w : World} {N : Nat → Prop} {a0 a1 : Option Addr} {k0 k1 : Nat} {t0 t1 : TS} {c0 c1 : Bool} (h0 : Rv w N (.agg #[.int .i64 t0.stage, .int .i64 t0.limit, .int .i64 t0.rd, .int .i64 t0.wr, .slice a0 t0.s.length k0, .int .i64 t0.r, .int .i64 t0.w]) t0) (h1 : Rv w N (.agg #[.int .i64 t1.stage, .int .i64 t1.limit, .int .i64 t1.rd, .int .i64 t1.wr, .slice a1 t1.s.length k1, .int .i64 t1.r, .int .i64 t1.w]) t1) (hok : TOk t0) (hr : t0.rd ≤ 4611686018427387904) (f : Int) :
    Calls Try.prog 70 #[.agg #[.int .i64 t0.stage, .int .i64 t0.limit, .int .i64 t0.rd, .int .i64 t0.wr, .slice a0 t0.s.length k0, .int .i64 t0.r, .int .i64 t0.w, .int .i64 t1.stage, .int .i64 t1.limit, .int .i64 t1.rd, .int .i64 t1.wr, .slice a1 t1.s.length k1, .int .i64 t1.r, .int .i64 t1.w, .bool c0, .bool c1, .int .i64 f], .int .i64 0] w fun e w' => ∃ v, e = .returned v ∧ Fr [] w w' ∧ Wv w' w.heap.size v (nextS t0 c0 0) :=
  rs_next0 (s := ⟨t0, t1, c0, c1, f⟩) ⟨a0, k0, a1, k1, rfl, h0, h1⟩ hok hr
theorem rs_nextF1 {w : World} {N : Nat → Prop} {a0 a1 : Option Addr} {k0 k1 : Nat} {t0 t1 : TS} {c0 c1 : Bool} (h0 : Rv w N (.agg #[.int .i64 t0.stage, .int .i64 t0.limit, .int .i64 t0.rd, .int .i64 t0.wr, .slice a0 t0.s.length k0, .int .i64 t0.r, .int .i64 t0.w]) t0) (h1 : Rv w N (.agg #[.int .i64 t1.stage, .int .i64 t1.limit, .int .i64 t1.rd, .int .i64 t1.wr, .slice a1 t1.s.length k1, .int .i64 t1.r, .int .i64 t1.w]) t1) (hok : TOk t1) (hr : t1.rd ≤ 4611686018427387904) (f : Int) :
    Calls Try.prog 70 #[.agg #[.int .i64 t0.stage, .int .i64 t0.limit, .int .i64 t0.rd, .int .i64 t0.wr, .slice a0 t0.s.length k0, .int .i64 t0.r, .int .i64 t0.w, .int .i64 t1.stage, .int .i64 t1.limit, .int .i64 t1.rd, .int .i64 t1.wr, .slice a1 t1.s.length k1, .int .i64 t1.r, .int .i64 t1.w, .bool c0, .bool c1, .int .i64 f], .int .i64 1] w fun e w' => ∃ v, e = .returned v ∧ Fr [] w w' ∧ Wv w' w.heap.size v (nextS t1 c1 1) :=
  rs_next1 (s := ⟨t0, t1, c0, c1, f⟩) ⟨a0, k0, a1, k1, rfl, h0, h1⟩ hok hr
theorem rs_side (w : World) (n : Int) : Calls Try.prog 32 #[.int .i64 n] w fun e w' => e = .returned (.bool (n == 0 || n == 1)) ∧ w = w' := by
  rcases Bool.eq_false_or_eq_true (n == 0) with h | h
  · go_enter Try.func32, Try.ntmps32
    go_wp2
    go_ret
    exact ⟨by rw [h]; rfl, rfl⟩
  · go_enter Try.func32, Try.ntmps32
    go_wp2
    go_ret
    exact ⟨by rw [h]; rfl, rfl⟩

set_option maxHeartbeats 8000000 in
theorem rs_noted {w : World} {N : Nat → Prop} {a0 a1 : Option Addr} {k0 k1 : Nat} {t0 t1 : TS} {c0 c1 : Bool} {sf : Int} (h0 : Rv w N (.agg #[.int .i64 t0.stage, .int .i64 t0.limit, .int .i64 t0.rd, .int .i64 t0.wr, .slice a0 t0.s.length k0, .int .i64 t0.r, .int .i64 t0.w]) t0) (h1 : Rv w N (.agg #[.int .i64 t1.stage, .int .i64 t1.limit, .int .i64 t1.rd, .int .i64 t1.wr, .slice a1 t1.s.length k1, .int .i64 t1.r, .int .i64 t1.w]) t1) (ok0 : TOk t0) (ok1 : TOk t1) (r0 : t0.rd ≤ 4611686018427387904) (r1 : t1.rd ≤ 4611686018427387904) :
    Calls Try.prog 81 #[.agg #[.int .i64 t0.stage, .int .i64 t0.limit, .int .i64 t0.rd, .int .i64 t0.wr, .slice a0 t0.s.length k0, .int .i64 t0.r, .int .i64 t0.w, .int .i64 t1.stage, .int .i64 t1.limit, .int .i64 t1.rd, .int .i64 t1.wr, .slice a1 t1.s.length k1, .int .i64 t1.r, .int .i64 t1.w, .bool c0, .bool c1, .int .i64 sf]] w fun e w' => e = .returned (.agg #[.int .i64 t0.stage, .int .i64 t0.limit, .int .i64 t0.rd, .int .i64 t0.wr, .slice a0 t0.s.length k0, .int .i64 t0.r, .int .i64 t0.w, .int .i64 t1.stage, .int .i64 t1.limit, .int .i64 t1.rd, .int .i64 t1.wr, .slice a1 t1.s.length k1, .int .i64 t1.r, .int .i64 t1.w, .bool c0, .bool c1, .int .i64 (noteF (noteF sf (nextS t0 c0 0)) (nextS t1 c1 1))]) ∧ Fr [] w w' := by
  have HN0 := Lib.hid fun (w1 : World) (f : Fr [] w w1) (x : Int) => rs_nextF0 (c0 := c0) (c1 := c1) (h0.keep f (by simp)) (h1.keep f (by simp)) ok0 r0 x
  have HN1 := Lib.hid fun (w1 : World) (f : Fr [] w w1) (x : Int) => rs_nextF1 (c0 := c0) (c1 := c1) (h0.keep f (by simp)) (h1.keep f (by simp)) ok1 r1 x
  obtain ⟨W0, hW0, f0, q0, p0⟩ : ∃ W, (w.alloc (.cells #[.int .i64 t0.stage, .int .i64 t0.limit, .int .i64 t0.rd, .int .i64 t0.wr, .slice a0 t0.s.length k0, .int .i64 t0.r, .int .i64 t0.w, .int .i64 t1.stage, .int .i64 t1.limit, .int .i64 t1.rd, .int .i64 t1.wr, .slice a1 t1.s.length k1, .int .i64 t1.r, .int .i64 t1.w, .bool c0, .bool c1, .int .i64 sf] 95)).alloc (.cells #[.int .i64 0, .int .i64 0, .int .i64 0, .int .i64 0, .slice none 0 0, .int .i64 0, .int .i64 0, .int .i64 0, .int .i64 0, .int .i64 0, .int .i64 0, .slice none 0 0, .int .i64 0, .int .i64 0, .bool false, .bool false, .int .i64 0] 95) = W ∧ Fr [] w W ∧ SBs W w.heap.size a0 k0 a1 k1 t0 t1 c0 c1 sf ∧ SB W (w.heap.size + 1) (.int .i64 0) (.int .i64 0) (.int .i64 0) (.int .i64 0) (.slice none 0 0) (.int .i64 0) (.int .i64 0) (.int .i64 0) (.int .i64 0) (.int .i64 0) (.int .i64 0) (.slice none 0 0) (.int .i64 0) (.int .i64 0) (.bool false) (.bool false) (.int .i64 0) := ⟨_, rfl, ((Fr.refl _ _).alloc _).alloc _, keepA (newA rfl), newA (by simp)⟩
  clear h0 h1 ok0 ok1 r0 r1
  generalize nextS t0 c0 0 = x at *
  generalize nextS t1 c1 1 = y at *
  obtain ⟨xk, xs, xn, xd, xe⟩ := x
  obtain ⟨yk, ys, yn, yd, ye⟩ := y
  go_enter Try.func81, Try.ntmps81
  go_wp2_with fail
  go_loopw [3] (fun i wr => ∃ (k : Nat) (f : Int), i = .int .i64 k ∧ k ≤ 2 ∧ Hid (f = if k = 0 then sf else if k = 1 then noteF sf ⟨xk, xs, xn, xd, xe⟩ else noteF (noteF sf ⟨xk, xs, xn, xd, xe⟩) ⟨yk, ys, yn, yd, ye⟩) ∧ SBs wr w.heap.size a0 k0 a1 k1 t0 t1 c0 c1 f ∧ SB wr (w.heap.size + 1) (.int .i64 0) (.int .i64 0) (.int .i64 0) (.int .i64 0) (.slice none 0 0) (.int .i64 0) (.int .i64 0) (.int .i64 0) (.int .i64 0) (.int .i64 0) (.int .i64 0) (.slice none 0 0) (.int .i64 0) (.int .i64 0) (.bool false) (.bool false) (.int .i64 0) ∧ Fr [] w wr) (fun i _ => 3 - (intOf i).toNat)
  case atStart => exact ⟨0, sf, rfl, by omega, Lib.hid rfl, q0, p0, f0⟩
  case round =>
    obtain ⟨k, f, rfl, hk, HF, q, p, g⟩ := hrel
    clear q0 p0 f0 hW0
    rcases (show k = 0 ∨ k = 1 ∨ k = 2 from by omega) with rfl | rfl | rfl
    · skip
      have HFE : Hid (f = sf) := Lib.hid HF.out
      clear HF
      as_aux_lemma =>
        go_wp2_with (refine sbs_loadW q rfl (.tmp 1) rfl (by rfl) ?_)
        refine (HN0.out _ g f).mono ?_
        rintro e w1 ⟨v, rfl, f1, u, rfl, ou⟩
        obtain ⟨ga, gc, rfl, _⟩ := ou.formB
        clear ou
        obtain ⟨w2, hw2, f2, q2⟩ : ∃ W, w1.alloc (.cells #[.int .i64 xk, .int .i64 xs, .int .i64 xn, .slice ga xd.length gc, .int .i64 xe] 32) = W ∧ Fr [] w1 W ∧ WB W w1.heap.size (.int .i64 xk) (.int .i64 xs) (.int .i64 xn) (.slice ga xd.length gc) (.int .i64 xe) := ⟨_, rfl, (Fr.refl _ _).alloc _, newA rfl⟩
        have q3 := (SBs.keep q f1 (by simp)).keep f2 (by simp)
        have p3 : SB w2 (w.heap.size + 1) (.int .i64 0) (.int .i64 0) (.int .i64 0) (.int .i64 0) (.slice none 0 0) (.int .i64 0) (.int .i64 0) (.int .i64 0) (.int .i64 0) (.int .i64 0) (.int .i64 0) (.slice none 0 0) (.int .i64 0) (.int .i64 0) (.bool false) (.bool false) (.int .i64 0) := f2.keep (f1.keep p (by simp)) (by simp)
        have g3 := Lib.hid ((g.then0 f1).then0 f2)
        have e16 : w2.cell? ⟨w.heap.size, 16, none⟩ = some (.int .i64 f) := cell_of q3
        have z16 : w2.frozen? ⟨w.heap.size, 16, none⟩ = false := free_of q3
        obtain ⟨x0, x1, x2, x3, x4, x5, x6, x7, x8, x9⟩ := q2.cells
        have Q3 := Lib.hid q3
        have P3 := Lib.hid p3
        clear q p g q3 p3 f1 f2 q2
        rcases Bool.eq_false_or_eq_true (xk == 4) with hk | hk
        · rcases Bool.eq_false_or_eq_true (f == 0) with hf | hf
          · have f4 := Lib.hid (g3.out.setCell (p := ⟨w.heap.size, 16, none⟩) (.inr (Nat.le_refl _)) (.int .i64 xe))
            have Q4 := Lib.hid (Q3.out.setF xe)
            have P4 : Hid (SB (w2.setCell ⟨w.heap.size, 16, none⟩ (.int .i64 xe)) (w.heap.size + 1) (.int .i64 0) (.int .i64 0) (.int .i64 0) (.int .i64 0) (.slice none 0 0) (.int .i64 0) (.int .i64 0) (.int .i64 0) (.int .i64 0) (.int .i64 0) (.int .i64 0) (.slice none 0 0) (.int .i64 0) (.int .i64 0) (.bool false) (.bool false) (.int .i64 0)) := Lib.hid (keepS P3.out (by simp))
            have HK : Hid (xk = 4 ∧ f = 0) := Lib.hid ⟨by simpa using hk, by simpa using hf⟩
            clear Q3 P3 g3
            go_wp2_with fail
            go_roundw
            case rel => exact ⟨1, xe, rfl, by omega, Lib.hid (show xe = noteF sf ⟨xk, xs, xn, xd, xe⟩ from by rw [← HFE.out]; exact (noteF_yes (x := ⟨xk, xs, xn, xd, xe⟩) HK.out.1 HK.out.2).symm), Q4.out, P4.out, f4.out⟩
            case measure => simp [intOf]
          · have HK : Hid (¬ (xk = 4 ∧ f = 0)) := Lib.hid (fun h => by simp [h.2] at hf)
            go_wp2_with fail
            go_roundw
            case rel => exact ⟨1, f, rfl, by omega, Lib.hid (show f = noteF sf ⟨xk, xs, xn, xd, xe⟩ from by rw [← HFE.out]; exact (noteF_no (x := ⟨xk, xs, xn, xd, xe⟩) HK.out).symm), Q3.out, P3.out, g3.out⟩
            case measure => simp [intOf]
        · have HK : Hid (¬ (xk = 4 ∧ f = 0)) := Lib.hid (fun h => by simp [h.1] at hk)
          rcases Bool.eq_false_or_eq_true (f == 0) with hf | hf
          · skip
            go_wp2_with fail
            go_roundw
            case rel => exact ⟨1, f, rfl, by omega, Lib.hid (show f = noteF sf ⟨xk, xs, xn, xd, xe⟩ from by rw [← HFE.out]; exact (noteF_no (x := ⟨xk, xs, xn, xd, xe⟩) HK.out).symm), Q3.out, P3.out, g3.out⟩
            case measure => simp [intOf]
          · skip
            go_wp2_with fail
            go_roundw
            case rel => exact ⟨1, f, rfl, by omega, Lib.hid (show f = noteF sf ⟨xk, xs, xn, xd, xe⟩ from by rw [← HFE.out]; exact (noteF_no (x := ⟨xk, xs, xn, xd, xe⟩) HK.out).symm), Q3.out, P3.out, g3.out⟩
            case measure => simp [intOf]
    · skip
      have HFE : Hid (f = noteF sf ⟨xk, xs, xn, xd, xe⟩) := Lib.hid HF.out
      clear HF
      as_aux_lemma =>
        go_wp2_with (refine sbs_loadW q rfl (.tmp 1) rfl (by rfl) ?_)
        refine (HN1.out _ g f).mono ?_
        rintro e w1 ⟨v, rfl, f1, u, rfl, ou⟩
        obtain ⟨ga, gc, rfl, _⟩ := ou.formB
        clear ou
        obtain ⟨w2, hw2, f2, q2⟩ : ∃ W, w1.alloc (.cells #[.int .i64 yk, .int .i64 ys, .int .i64 yn, .slice ga yd.length gc, .int .i64 ye] 32) = W ∧ Fr [] w1 W ∧ WB W w1.heap.size (.int .i64 yk) (.int .i64 ys) (.int .i64 yn) (.slice ga yd.length gc) (.int .i64 ye) := ⟨_, rfl, (Fr.refl _ _).alloc _, newA rfl⟩
        have q3 := (SBs.keep q f1 (by simp)).keep f2 (by simp)
        have p3 : SB w2 (w.heap.size + 1) (.int .i64 0) (.int .i64 0) (.int .i64 0) (.int .i64 0) (.slice none 0 0) (.int .i64 0) (.int .i64 0) (.int .i64 0) (.int .i64 0) (.int .i64 0) (.int .i64 0) (.slice none 0 0) (.int .i64 0) (.int .i64 0) (.bool false) (.bool false) (.int .i64 0) := f2.keep (f1.keep p (by simp)) (by simp)
        have g3 := Lib.hid ((g.then0 f1).then0 f2)
        have e16 : w2.cell? ⟨w.heap.size, 16, none⟩ = some (.int .i64 f) := cell_of q3
        have z16 : w2.frozen? ⟨w.heap.size, 16, none⟩ = false := free_of q3
        obtain ⟨x0, x1, x2, x3, x4, x5, x6, x7, x8, x9⟩ := q2.cells
        have Q3 := Lib.hid q3
        have P3 := Lib.hid p3
        clear q p g q3 p3 f1 f2 q2
        rcases Bool.eq_false_or_eq_true (yk == 4) with hk | hk
        · rcases Bool.eq_false_or_eq_true (f == 0) with hf | hf
          · have f4 := Lib.hid (g3.out.setCell (p := ⟨w.heap.size, 16, none⟩) (.inr (Nat.le_refl _)) (.int .i64 ye))
            have Q4 := Lib.hid (Q3.out.setF ye)
            have P4 : Hid (SB (w2.setCell ⟨w.heap.size, 16, none⟩ (.int .i64 ye)) (w.heap.size + 1) (.int .i64 0) (.int .i64 0) (.int .i64 0) (.int .i64 0) (.slice none 0 0) (.int .i64 0) (.int .i64 0) (.int .i64 0) (.int .i64 0) (.int .i64 0) (.int .i64 0) (.slice none 0 0) (.int .i64 0) (.int .i64 0) (.bool false) (.bool false) (.int .i64 0)) := Lib.hid (keepS P3.out (by simp))
            have HK : Hid (yk = 4 ∧ f = 0) := Lib.hid ⟨by simpa using hk, by simpa using hf⟩
            clear Q3 P3 g3
            go_wp2_with fail
            go_roundw
            case rel => exact ⟨2, ye, rfl, by omega, Lib.hid (show ye = noteF (noteF sf ⟨xk, xs, xn, xd, xe⟩) ⟨yk, ys, yn, yd, ye⟩ from by rw [← HFE.out]; exact (noteF_yes (x := ⟨yk, ys, yn, yd, ye⟩) HK.out.1 HK.out.2).symm), Q4.out, P4.out, f4.out⟩
            case measure => simp [intOf]
          · have HK : Hid (¬ (yk = 4 ∧ f = 0)) := Lib.hid (fun h => by simp [h.2] at hf)
            go_wp2_with fail
            go_roundw
            case rel => exact ⟨2, f, rfl, by omega, Lib.hid (show f = noteF (noteF sf ⟨xk, xs, xn, xd, xe⟩) ⟨yk, ys, yn, yd, ye⟩ from by rw [← HFE.out]; exact (noteF_no (x := ⟨yk, ys, yn, yd, ye⟩) HK.out).symm), Q3.out, P3.out, g3.out⟩
            case measure => simp [intOf]
        · have HK : Hid (¬ (yk = 4 ∧ f = 0)) := Lib.hid (fun h => by simp [h.1] at hk)
          rcases Bool.eq_false_or_eq_true (f == 0) with hf | hf
          · skip
            go_wp2_with fail
            go_roundw
            case rel => exact ⟨2, f, rfl, by omega, Lib.hid (show f = noteF (noteF sf ⟨xk, xs, xn, xd, xe⟩) ⟨yk, ys, yn, yd, ye⟩ from by rw [← HFE.out]; exact (noteF_no (x := ⟨yk, ys, yn, yd, ye⟩) HK.out).symm), Q3.out, P3.out, g3.out⟩
            case measure => simp [intOf]
          · skip
            go_wp2_with fail
            go_roundw
            case rel => exact ⟨2, f, rfl, by omega, Lib.hid (show f = noteF (noteF sf ⟨xk, xs, xn, xd, xe⟩) ⟨yk, ys, yn, yd, ye⟩ from by rw [← HFE.out]; exact (noteF_no (x := ⟨yk, ys, yn, yd, ye⟩) HK.out).symm), Q3.out, P3.out, g3.out⟩
            case measure => simp [intOf]
    · obtain ⟨w5, hw5, q5, f5⟩ := sbs_set p a0 k0 a1 k1 t0 t1 c0 c1 f
      have Q5 := Lib.hid q5
      have G5 := Lib.hid (g.trans f5 (U := []) (by simp) (fun x hx => .inr (by simp at hx; omega)))
      have HFE : Hid (f = noteF (noteF sf ⟨xk, xs, xn, xd, xe⟩) ⟨yk, ys, yn, yd, ye⟩) := Lib.hid HF.out
      clear HN0 HN1 q5 f5 g HF
      go_wp2_with (first | refine sbs_loadW q rfl (.tmp 1) rfl (by rfl) ?_ | refine sbs_storeW p hw5 rfl (.tmp 2) (.tmp 23) rfl rfl (by rfl) (by rfl) ?_)
      refine bodyPost_ret (sbs_result Q5.out rfl rfl) rfl ?_
      exact ⟨by rw [HFE.out], G5.out⟩

set_option maxHeartbeats 8000000 in
theorem rs_got0 {w : World} {N : Nat → Prop} {v : Value} {s : SS} (h : Rsp w N v s) (ok0 : TOk s.t0) (ok1 : TOk s.t1) (r0 : s.t0.rd ≤ 4611686018427000000) (r1 : s.t1.rd ≤ 4611686018427387904) (hN : ∀ x, w.heap.size ≤ x → N x) {pa : Option Addr} {pc : Nat} {p : List UInt8} (hs : Sl w pa (bi p)) (hm : p.length ≤ 65536) (e : Int) :
    Calls Try.prog 72 #[v, .int .i64 0, .slice pa p.length pc, .int .i64 e] w fun x w' => ∃ u, x = .returned (.tuple #[u, .int .i64 (gotE s.t0 p e)]) ∧ Fr [] w w' ∧ Rsp w' N u (noteR { s with t0 := gotT s.t0 p e }) := by
  obtain ⟨a0, k0, a1, k1, rfl, h0, h1⟩ := h
  obtain ⟨W0, hW0, f0, q0, p0⟩ : ∃ W, (w.alloc (.cells #[.int .i64 s.t0.stage, .int .i64 s.t0.limit, .int .i64 s.t0.rd, .int .i64 s.t0.wr, .slice a0 s.t0.s.length k0, .int .i64 s.t0.r, .int .i64 s.t0.w, .int .i64 s.t1.stage, .int .i64 s.t1.limit, .int .i64 s.t1.rd, .int .i64 s.t1.wr, .slice a1 s.t1.s.length k1, .int .i64 s.t1.r, .int .i64 s.t1.w, .bool s.c0, .bool s.c1, .int .i64 s.first] 95)).alloc (.cells #[.int .i64 0, .int .i64 0, .int .i64 0, .int .i64 0, .slice none 0 0, .int .i64 0, .int .i64 0, .int .i64 0, .int .i64 0, .int .i64 0, .int .i64 0, .slice none 0 0, .int .i64 0, .int .i64 0, .bool false, .bool false, .int .i64 0] 95) = W ∧ Fr [] w W ∧ SBs W w.heap.size a0 k0 a1 k1 s.t0 s.t1 s.c0 s.c1 s.first ∧ SB W (w.heap.size + 1) (.int .i64 0) (.int .i64 0) (.int .i64 0) (.int .i64 0) (.slice none 0 0) (.int .i64 0) (.int .i64 0) (.int .i64 0) (.int .i64 0) (.int .i64 0) (.int .i64 0) (.slice none 0 0) (.int .i64 0) (.int .i64 0) (.bool false) (.bool false) (.int .i64 0) := ⟨_, rfl, ((Fr.refl _ _).alloc _).alloc _, keepA (newA rfl), newA (by simp)⟩
  have h0' : Rv W0 (fun x => N x ∧ x ≠ w.heap.size ∧ x ≠ w.heap.size + 1) (.agg #[.int .i64 s.t0.stage, .int .i64 s.t0.limit, .int .i64 s.t0.rd, .int .i64 s.t0.wr, .slice a0 s.t0.s.length k0, .int .i64 s.t0.r, .int .i64 s.t0.w]) s.t0 := (h0.there.keep f0 (by simp)).mono (fun x hx => ⟨hx.1, by omega, by omega⟩)
  have h1' : Rv W0 (fun x => N x ∧ x ≠ w.heap.size ∧ x ≠ w.heap.size + 1) (.agg #[.int .i64 s.t1.stage, .int .i64 s.t1.limit, .int .i64 s.t1.rd, .int .i64 s.t1.wr, .slice a1 s.t1.s.length k1, .int .i64 s.t1.r, .int .i64 s.t1.w]) s.t1 := (h1.there.keep f0 (by simp)).mono (fun x hx => ⟨hx.1, by omega, by omega⟩)
  have hz0 := lt_of_heap p0
  have hN0 : ∀ x, W0.heap.size ≤ x → N x ∧ x ≠ w.heap.size ∧ x ≠ w.heap.size + 1 := fun x hx => ⟨hN x (by omega), by omega, by omega⟩
  have HSD := Lib.hid (show Calls Try.prog 32 #[.int .i64 0] W0 fun e w' => e = .returned (.bool true) ∧ W0 = w' from rs_side W0 0)
  have HG := Lib.hid (rt_got (pcap := pc) h0' ok0 (by omega) hN0 (sl_keep hs f0 (by simp)) hm e)
  have rg : (gotT s.t0 p e).rd ≤ 4611686018427387904 := by have := gotT_rd s.t0 p e; omega
  have okg := gotT_ok ok0 p e
  have hr1 : s.t1.rd ≤ 4611686018427387904 := by omega
  obtain ⟨gt, hgt⟩ : ∃ x, gotT s.t0 p e = x := ⟨_, rfl⟩
  rw [hgt] at HG okg rg ⊢
  have HB := Lib.hid (And.intro okg (And.intro ok1 (And.intro rg hr1)))
  have H1 := Lib.hid h1'
  have d0 : W0.cell? ⟨w.heap.size, 0, none⟩ = _ := cell_of q0
  have d1 : W0.cell? ⟨w.heap.size, 1, none⟩ = _ := cell_of q0
  have d2 : W0.cell? ⟨w.heap.size, 2, none⟩ = _ := cell_of q0
  have d3 : W0.cell? ⟨w.heap.size, 3, none⟩ = _ := cell_of q0
  have d4 : W0.cell? ⟨w.heap.size, 4, none⟩ = _ := cell_of q0
  have d5 : W0.cell? ⟨w.heap.size, 5, none⟩ = _ := cell_of q0
  have d6 : W0.cell? ⟨w.heap.size, 6, none⟩ = _ := cell_of q0
  clear h0 h1 ok0 ok1 r0 r1 rg okg hN hN0 hgt h0' h1' hr1
  generalize gotE s.t0 p e = ge at *
  go_enter Try.func72, Try.ntmps72
  go_wp2_with fail
  refine HSD.out.mono ?_
  rintro e1 w' ⟨rfl, rfl⟩
  go_wp2_with fail
  refine HG.out.mono ?_
  rintro e1 w1 ⟨u, rfl, f1, hv⟩
  obtain ⟨ga, gc, rfl, _⟩ := id hv
  clear HSD HG d0 d1 d2 d3 d4 d5 d6 hW0
  obtain ⟨w2, hw2, f2, q2⟩ : ∃ W, w1.alloc (.cells #[.int .i64 gt.stage, .int .i64 gt.limit, .int .i64 gt.rd, .int .i64 gt.wr, .slice ga gt.s.length gc, .int .i64 gt.r, .int .i64 gt.w] 45) = W ∧ Fr [] w1 W ∧ RB W w1.heap.size (.int .i64 gt.stage) (.int .i64 gt.limit) (.int .i64 gt.rd) (.int .i64 gt.wr) (.slice ga gt.s.length gc) (.int .i64 gt.r) (.int .i64 gt.w) := ⟨_, rfl, (Fr.refl _ _).alloc _, newA rfl⟩
  have q3 := (SBs.keep q0 f1 (by simp)).keep f2 (by simp)
  have p3 : SB w2 (w.heap.size + 1) _ _ _ _ _ _ _ _ _ _ _ _ _ _ _ _ _ := f2.keep (f1.keep p0 (by simp)) (by simp)
  have e0 : w2.cell? ⟨w.heap.size, 0, none⟩ = _ := cell_of q3
  have z0 : w2.frozen? ⟨w.heap.size, 0, none⟩ = false := free_of q3
  have e1 : w2.cell? ⟨w.heap.size, 1, none⟩ = _ := cell_of q3
  have z1 : w2.frozen? ⟨w.heap.size, 1, none⟩ = false := free_of q3
  have e2 : w2.cell? ⟨w.heap.size, 2, none⟩ = _ := cell_of q3
  have z2 : w2.frozen? ⟨w.heap.size, 2, none⟩ = false := free_of q3
  have e3 : w2.cell? ⟨w.heap.size, 3, none⟩ = _ := cell_of q3
  have z3 : w2.frozen? ⟨w.heap.size, 3, none⟩ = false := free_of q3
  have e4 : w2.cell? ⟨w.heap.size, 4, none⟩ = _ := cell_of q3
  have z4 : w2.frozen? ⟨w.heap.size, 4, none⟩ = false := free_of q3
  have e5 : w2.cell? ⟨w.heap.size, 5, none⟩ = _ := cell_of q3
  have z5 : w2.frozen? ⟨w.heap.size, 5, none⟩ = false := free_of q3
  have e6 : w2.cell? ⟨w.heap.size, 6, none⟩ = _ := cell_of q3
  have z6 : w2.frozen? ⟨w.heap.size, 6, none⟩ = false := free_of q3
  obtain ⟨x0, x1, x2, x3, x4, x5, x6, _, _, _, _, _, _, _⟩ := q2.cells
  obtain ⟨W3, hW3, f3, q4⟩ := SBs.setT0 q3 gt ga gc
  have hW3' := hW3.symm
  have g3 : Fr [] w W3 := ((f0.then0 f1).then0 f2).trans f3 (by simp) (fun x hx => .inr (by simp at hx; omega))
  have hv3 := (hv.keep f2 (by simp)).keep f3 (by simp)
  have h13 := ((H1.out.keep f1 (by simp)).keep f2 (by simp)).keep f3 (by simp)
  have p4 : SB W3 (w.heap.size + 1) _ _ _ _ _ _ _ _ _ _ _ _ _ _ _ _ _ := f3.keep p3 (by simp)
  have HNT := Lib.hid (rs_noted (c0 := s.c0) (c1 := s.c1) (sf := s.first) hv3 h13 HB.out.1 HB.out.2.1 HB.out.2.2.1 HB.out.2.2.2)
  have HV := Lib.hid hv3
  replace H1 := Lib.hid h13
  have G3 := Lib.hid g3
  clear hv hv3 h13 f1 f2 f3 g3 q0 p0 q3 p3 q2 hW3 HB
  go_wp2_with (refine sbs_loadW q4 rfl (.tmp 4) rfl (by rfl) ?_)
  refine HNT.out.mono ?_
  rintro e1 w4 ⟨rfl, f4⟩
  have p5 : SB w4 (w.heap.size + 1) _ _ _ _ _ _ _ _ _ _ _ _ _ _ _ _ _ := f4.keep p4 (by simp)
  obtain ⟨w5, hw5, q5, f5⟩ := sbs_set p5 ga gc a1 k1 gt s.t1 s.c0 s.c1 (noteF (noteF s.first (nextS gt s.c0 0)) (nextS s.t1 s.c1 1))
  have Q5 := Lib.hid q5
  have F35 := Lib.hid ((f4.mono (T := [w.heap.size + 1]) (by simp)).then f5)
  have hn : ∀ x ∈ [w.heap.size + 1], ¬ (N x ∧ x ≠ w.heap.size ∧ x ≠ w.heap.size + 1) := by simp
  clear HNT q4 p4 hW3' hw2 e0 z0 e1 z1 e2 z2 e3 z3 e4 z4 e5 z5 e6 z6 x0 x1 x2 x3 x4 x5 x6 q5 f4 f5
  go_wp2_with (refine sbs_storeW p5 hw5 rfl (.tmp 8) (.tmp 31) rfl rfl (by rfl) (by rfl) ?_)
  refine bodyPost_ret (sbs_result2 Q5.out rfl rfl rfl) rfl ?_
  exact ⟨_, rfl, G3.out.trans F35.out (by simp) (fun x hx => .inr (by simp at hx; omega)), ga, gc, a1, k1, rfl, (HV.out.keep F35.out hn).mono (fun x hx => hx.1), (H1.out.keep F35.out hn).mono (fun x hx => hx.1)⟩

set_option maxHeartbeats 8000000 in
theorem rs_got1 {w : World} {N : Nat → Prop} {v : Value} {s : SS} (h : Rsp w N v s) (ok0 : TOk s.t0) (ok1 : TOk s.t1) (r0 : s.t0.rd ≤ 4611686018427387904) (r1 : s.t1.rd ≤ 4611686018427000000) (hN : ∀ x, w.heap.size ≤ x → N x) {pa : Option Addr} {pc : Nat} {p : List UInt8} (hs : Sl w pa (bi p)) (hm : p.length ≤ 65536) (e : Int) :
    Calls Try.prog 72 #[v, .int .i64 1, .slice pa p.length pc, .int .i64 e] w fun x w' => ∃ u, x = .returned (.tuple #[u, .int .i64 (gotE s.t1 p e)]) ∧ Fr [] w w' ∧ Rsp w' N u (noteR { s with t1 := gotT s.t1 p e }) := by
  obtain ⟨a0, k0, a1, k1, rfl, h0, h1⟩ := h
  obtain ⟨W0, hW0, f0, q0, p0⟩ : ∃ W, (w.alloc (.cells #[.int .i64 s.t0.stage, .int .i64 s.t0.limit, .int .i64 s.t0.rd, .int .i64 s.t0.wr, .slice a0 s.t0.s.length k0, .int .i64 s.t0.r, .int .i64 s.t0.w, .int .i64 s.t1.stage, .int .i64 s.t1.limit, .int .i64 s.t1.rd, .int .i64 s.t1.wr, .slice a1 s.t1.s.length k1, .int .i64 s.t1.r, .int .i64 s.t1.w, .bool s.c0, .bool s.c1, .int .i64 s.first] 95)).alloc (.cells #[.int .i64 0, .int .i64 0, .int .i64 0, .int .i64 0, .slice none 0 0, .int .i64 0, .int .i64 0, .int .i64 0, .int .i64 0, .int .i64 0, .int .i64 0, .slice none 0 0, .int .i64 0, .int .i64 0, .bool false, .bool false, .int .i64 0] 95) = W ∧ Fr [] w W ∧ SBs W w.heap.size a0 k0 a1 k1 s.t0 s.t1 s.c0 s.c1 s.first ∧ SB W (w.heap.size + 1) (.int .i64 0) (.int .i64 0) (.int .i64 0) (.int .i64 0) (.slice none 0 0) (.int .i64 0) (.int .i64 0) (.int .i64 0) (.int .i64 0) (.int .i64 0) (.int .i64 0) (.slice none 0 0) (.int .i64 0) (.int .i64 0) (.bool false) (.bool false) (.int .i64 0) := ⟨_, rfl, ((Fr.refl _ _).alloc _).alloc _, keepA (newA rfl), newA (by simp)⟩
  have h0' : Rv W0 (fun x => N x ∧ x ≠ w.heap.size ∧ x ≠ w.heap.size + 1) (.agg #[.int .i64 s.t0.stage, .int .i64 s.t0.limit, .int .i64 s.t0.rd, .int .i64 s.t0.wr, .slice a0 s.t0.s.length k0, .int .i64 s.t0.r, .int .i64 s.t0.w]) s.t0 := (h0.there.keep f0 (by simp)).mono (fun x hx => ⟨hx.1, by omega, by omega⟩)
  have h1' : Rv W0 (fun x => N x ∧ x ≠ w.heap.size ∧ x ≠ w.heap.size + 1) (.agg #[.int .i64 s.t1.stage, .int .i64 s.t1.limit, .int .i64 s.t1.rd, .int .i64 s.t1.wr, .slice a1 s.t1.s.length k1, .int .i64 s.t1.r, .int .i64 s.t1.w]) s.t1 := (h1.there.keep f0 (by simp)).mono (fun x hx => ⟨hx.1, by omega, by omega⟩)
  have hz0 := lt_of_heap p0
  have hN0 : ∀ x, W0.heap.size ≤ x → N x ∧ x ≠ w.heap.size ∧ x ≠ w.heap.size + 1 := fun x hx => ⟨hN x (by omega), by omega, by omega⟩
  have HSD := Lib.hid (show Calls Try.prog 32 #[.int .i64 1] W0 fun e w' => e = .returned (.bool true) ∧ W0 = w' from rs_side W0 1)
  have HG := Lib.hid (rt_got (pcap := pc) h1' ok1 (by omega) hN0 (sl_keep hs f0 (by simp)) hm e)
  have rg : (gotT s.t1 p e).rd ≤ 4611686018427387904 := by have := gotT_rd s.t1 p e; omega
  have okg := gotT_ok ok1 p e
  have hr0 : s.t0.rd ≤ 4611686018427387904 := by omega
  obtain ⟨gt, hgt⟩ : ∃ x, gotT s.t1 p e = x := ⟨_, rfl⟩
  rw [hgt] at HG okg rg ⊢
  have HB := Lib.hid (And.intro okg (And.intro ok0 (And.intro rg hr0)))
  have H1 := Lib.hid h0'
  have d0 : W0.cell? ⟨w.heap.size, 7, none⟩ = _ := cell_of q0
  have d1 : W0.cell? ⟨w.heap.size, 8, none⟩ = _ := cell_of q0
  have d2 : W0.cell? ⟨w.heap.size, 9, none⟩ = _ := cell_of q0
  have d3 : W0.cell? ⟨w.heap.size, 10, none⟩ = _ := cell_of q0
  have d4 : W0.cell? ⟨w.heap.size, 11, none⟩ = _ := cell_of q0
  have d5 : W0.cell? ⟨w.heap.size, 12, none⟩ = _ := cell_of q0
  have d6 : W0.cell? ⟨w.heap.size, 13, none⟩ = _ := cell_of q0
  clear h0 h1 ok0 ok1 r0 r1 rg okg hN hN0 hgt h0' h1' hr0
  generalize gotE s.t1 p e = ge at *
  go_enter Try.func72, Try.ntmps72
  go_wp2_with fail
  refine HSD.out.mono ?_
  rintro e1 w' ⟨rfl, rfl⟩
  go_wp2_with fail
  refine HG.out.mono ?_
  rintro e1 w1 ⟨u, rfl, f1, hv⟩
  obtain ⟨ga, gc, rfl, _⟩ := id hv
  clear HSD HG d0 d1 d2 d3 d4 d5 d6 hW0
  obtain ⟨w2, hw2, f2, q2⟩ : ∃ W, w1.alloc (.cells #[.int .i64 gt.stage, .int .i64 gt.limit, .int .i64 gt.rd, .int .i64 gt.wr, .slice ga gt.s.length gc, .int .i64 gt.r, .int .i64 gt.w] 45) = W ∧ Fr [] w1 W ∧ RB W w1.heap.size (.int .i64 gt.stage) (.int .i64 gt.limit) (.int .i64 gt.rd) (.int .i64 gt.wr) (.slice ga gt.s.length gc) (.int .i64 gt.r) (.int .i64 gt.w) := ⟨_, rfl, (Fr.refl _ _).alloc _, newA rfl⟩
  have q3 := (SBs.keep q0 f1 (by simp)).keep f2 (by simp)
  have p3 : SB w2 (w.heap.size + 1) _ _ _ _ _ _ _ _ _ _ _ _ _ _ _ _ _ := f2.keep (f1.keep p0 (by simp)) (by simp)
  have e0 : w2.cell? ⟨w.heap.size, 7, none⟩ = _ := cell_of q3
  have z0 : w2.frozen? ⟨w.heap.size, 7, none⟩ = false := free_of q3
  have e1 : w2.cell? ⟨w.heap.size, 8, none⟩ = _ := cell_of q3
  have z1 : w2.frozen? ⟨w.heap.size, 8, none⟩ = false := free_of q3
  have e2 : w2.cell? ⟨w.heap.size, 9, none⟩ = _ := cell_of q3
  have z2 : w2.frozen? ⟨w.heap.size, 9, none⟩ = false := free_of q3
  have e3 : w2.cell? ⟨w.heap.size, 10, none⟩ = _ := cell_of q3
  have z3 : w2.frozen? ⟨w.heap.size, 10, none⟩ = false := free_of q3
  have e4 : w2.cell? ⟨w.heap.size, 11, none⟩ = _ := cell_of q3
  have z4 : w2.frozen? ⟨w.heap.size, 11, none⟩ = false := free_of q3
  have e5 : w2.cell? ⟨w.heap.size, 12, none⟩ = _ := cell_of q3
  have z5 : w2.frozen? ⟨w.heap.size, 12, none⟩ = false := free_of q3
  have e6 : w2.cell? ⟨w.heap.size, 13, none⟩ = _ := cell_of q3
  have z6 : w2.frozen? ⟨w.heap.size, 13, none⟩ = false := free_of q3
  obtain ⟨x0, x1, x2, x3, x4, x5, x6, _, _, _, _, _, _, _⟩ := q2.cells
  obtain ⟨W3, hW3, f3, q4⟩ := SBs.setT1 q3 gt ga gc
  have hW3' := hW3.symm
  have g3 : Fr [] w W3 := ((f0.then0 f1).then0 f2).trans f3 (by simp) (fun x hx => .inr (by simp at hx; omega))
  have hv3 := (hv.keep f2 (by simp)).keep f3 (by simp)
  have h13 := ((H1.out.keep f1 (by simp)).keep f2 (by simp)).keep f3 (by simp)
  have p4 : SB W3 (w.heap.size + 1) _ _ _ _ _ _ _ _ _ _ _ _ _ _ _ _ _ := f3.keep p3 (by simp)
  have HNT := Lib.hid (rs_noted (c0 := s.c0) (c1 := s.c1) (sf := s.first) h13 hv3 HB.out.2.1 HB.out.1 HB.out.2.2.2 HB.out.2.2.1)
  have HV := Lib.hid hv3
  replace H1 := Lib.hid h13
  have G3 := Lib.hid g3
  clear hv hv3 h13 f1 f2 f3 g3 q0 p0 q3 p3 q2 hW3 HB
  go_wp2_with (refine sbs_loadW q4 rfl (.tmp 4) rfl (by rfl) ?_)
  refine HNT.out.mono ?_
  rintro e1 w4 ⟨rfl, f4⟩
  have p5 : SB w4 (w.heap.size + 1) _ _ _ _ _ _ _ _ _ _ _ _ _ _ _ _ _ := f4.keep p4 (by simp)
  obtain ⟨w5, hw5, q5, f5⟩ := sbs_set p5 a0 k0 ga gc s.t0 gt s.c0 s.c1 (noteF (noteF s.first (nextS s.t0 s.c0 0)) (nextS gt s.c1 1))
  have Q5 := Lib.hid q5
  have F35 := Lib.hid ((f4.mono (T := [w.heap.size + 1]) (by simp)).then f5)
  have hn : ∀ x ∈ [w.heap.size + 1], ¬ (N x ∧ x ≠ w.heap.size ∧ x ≠ w.heap.size + 1) := by simp
  clear HNT q4 p4 hW3' hw2 e0 z0 e1 z1 e2 z2 e3 z3 e4 z4 e5 z5 e6 z6 x0 x1 x2 x3 x4 x5 x6 q5 f4 f5
  go_wp2_with (refine sbs_storeW p5 hw5 rfl (.tmp 8) (.tmp 31) rfl rfl (by rfl) (by rfl) ?_)
  refine bodyPost_ret (sbs_result2 Q5.out rfl rfl rfl) rfl ?_
  exact ⟨_, rfl, G3.out.trans F35.out (by simp) (fun x hx => .inr (by simp at hx; omega)), a0, k0, ga, gc, rfl, (H1.out.keep F35.out hn).mono (fun x hx => hx.1), (HV.out.keep F35.out hn).mono (fun x hx => hx.1)⟩

set_option maxHeartbeats 8000000 in
theorem rs_wrote0 {w : World} {N : Nat → Prop} {v : Value} {s : SS} (h : Rsp w N v s) (ok0 : TOk s.t0) (ok1 : TOk s.t1) (r0 : s.t0.rd ≤ 4611686018427000000) (r1 : s.t1.rd ≤ 4611686018427387904) (hN : ∀ x, w.heap.size ≤ x → N x) (n e : Int) :
    Calls Try.prog 73 #[v, .int .i64 0, .int .i64 n, .int .i64 e] w fun x w' => ∃ u, x = .returned (.tuple #[u, .int .i64 (wroteE s.t0 n e)]) ∧ Fr [] w w' ∧ Rsp w' N u (noteR { s with t0 := wroteT s.t0 n e }) := by
  obtain ⟨a0, k0, a1, k1, rfl, h0, h1⟩ := h
  obtain ⟨W0, hW0, f0, q0, p0⟩ : ∃ W, (w.alloc (.cells #[.int .i64 s.t0.stage, .int .i64 s.t0.limit, .int .i64 s.t0.rd, .int .i64 s.t0.wr, .slice a0 s.t0.s.length k0, .int .i64 s.t0.r, .int .i64 s.t0.w, .int .i64 s.t1.stage, .int .i64 s.t1.limit, .int .i64 s.t1.rd, .int .i64 s.t1.wr, .slice a1 s.t1.s.length k1, .int .i64 s.t1.r, .int .i64 s.t1.w, .bool s.c0, .bool s.c1, .int .i64 s.first] 95)).alloc (.cells #[.int .i64 0, .int .i64 0, .int .i64 0, .int .i64 0, .slice none 0 0, .int .i64 0, .int .i64 0, .int .i64 0, .int .i64 0, .int .i64 0, .int .i64 0, .slice none 0 0, .int .i64 0, .int .i64 0, .bool false, .bool false, .int .i64 0] 95) = W ∧ Fr [] w W ∧ SBs W w.heap.size a0 k0 a1 k1 s.t0 s.t1 s.c0 s.c1 s.first ∧ SB W (w.heap.size + 1) (.int .i64 0) (.int .i64 0) (.int .i64 0) (.int .i64 0) (.slice none 0 0) (.int .i64 0) (.int .i64 0) (.int .i64 0) (.int .i64 0) (.int .i64 0) (.int .i64 0) (.slice none 0 0) (.int .i64 0) (.int .i64 0) (.bool false) (.bool false) (.int .i64 0) := ⟨_, rfl, ((Fr.refl _ _).alloc _).alloc _, keepA (newA rfl), newA (by simp)⟩
  have h0' : Rv W0 (fun x => N x ∧ x ≠ w.heap.size ∧ x ≠ w.heap.size + 1) (.agg #[.int .i64 s.t0.stage, .int .i64 s.t0.limit, .int .i64 s.t0.rd, .int .i64 s.t0.wr, .slice a0 s.t0.s.length k0, .int .i64 s.t0.r, .int .i64 s.t0.w]) s.t0 := (h0.there.keep f0 (by simp)).mono (fun x hx => ⟨hx.1, by omega, by omega⟩)
  have h1' : Rv W0 (fun x => N x ∧ x ≠ w.heap.size ∧ x ≠ w.heap.size + 1) (.agg #[.int .i64 s.t1.stage, .int .i64 s.t1.limit, .int .i64 s.t1.rd, .int .i64 s.t1.wr, .slice a1 s.t1.s.length k1, .int .i64 s.t1.r, .int .i64 s.t1.w]) s.t1 := (h1.there.keep f0 (by simp)).mono (fun x hx => ⟨hx.1, by omega, by omega⟩)
  have hz0 := lt_of_heap p0
  have hN0 : ∀ x, W0.heap.size ≤ x → N x ∧ x ≠ w.heap.size ∧ x ≠ w.heap.size + 1 := fun x hx => ⟨hN x (by omega), by omega, by omega⟩
  have HSD := Lib.hid (show Calls Try.prog 32 #[.int .i64 0] W0 fun e w' => e = .returned (.bool true) ∧ W0 = w' from rs_side W0 0)
  have HG := Lib.hid (rt_wrote h0' ok0 (by omega) hN0 n e)
  have rg : (wroteT s.t0 n e).rd ≤ 4611686018427387904 := by have := wroteT_rd s.t0 n e; omega
  have okg := wroteT_ok ok0 n e
  have hr1 : s.t1.rd ≤ 4611686018427387904 := by omega
  obtain ⟨gt, hgt⟩ : ∃ x, wroteT s.t0 n e = x := ⟨_, rfl⟩
  rw [hgt] at HG okg rg ⊢
  have HB := Lib.hid (And.intro okg (And.intro ok1 (And.intro rg hr1)))
  have H1 := Lib.hid h1'
  have d0 : W0.cell? ⟨w.heap.size, 0, none⟩ = _ := cell_of q0
  have d1 : W0.cell? ⟨w.heap.size, 1, none⟩ = _ := cell_of q0
  have d2 : W0.cell? ⟨w.heap.size, 2, none⟩ = _ := cell_of q0
  have d3 : W0.cell? ⟨w.heap.size, 3, none⟩ = _ := cell_of q0
  have d4 : W0.cell? ⟨w.heap.size, 4, none⟩ = _ := cell_of q0
  have d5 : W0.cell? ⟨w.heap.size, 5, none⟩ = _ := cell_of q0
  have d6 : W0.cell? ⟨w.heap.size, 6, none⟩ = _ := cell_of q0
  clear h0 h1 ok0 ok1 r0 r1 rg okg hN hN0 hgt h0' h1' hr1
  generalize wroteE s.t0 n e = ge at *
  go_enter Try.func73, Try.ntmps73
  go_wp2_with fail
  refine HSD.out.mono ?_
  rintro e1 w' ⟨rfl, rfl⟩
  go_wp2_with fail
  refine HG.out.mono ?_
  rintro e1 w1 ⟨u, rfl, f1, hv⟩
  obtain ⟨ga, gc, rfl, _⟩ := id hv
  clear HSD HG d0 d1 d2 d3 d4 d5 d6 hW0
  obtain ⟨w2, hw2, f2, q2⟩ : ∃ W, w1.alloc (.cells #[.int .i64 gt.stage, .int .i64 gt.limit, .int .i64 gt.rd, .int .i64 gt.wr, .slice ga gt.s.length gc, .int .i64 gt.r, .int .i64 gt.w] 45) = W ∧ Fr [] w1 W ∧ RB W w1.heap.size (.int .i64 gt.stage) (.int .i64 gt.limit) (.int .i64 gt.rd) (.int .i64 gt.wr) (.slice ga gt.s.length gc) (.int .i64 gt.r) (.int .i64 gt.w) := ⟨_, rfl, (Fr.refl _ _).alloc _, newA rfl⟩
  have q3 := (SBs.keep q0 f1 (by simp)).keep f2 (by simp)
  have p3 : SB w2 (w.heap.size + 1) _ _ _ _ _ _ _ _ _ _ _ _ _ _ _ _ _ := f2.keep (f1.keep p0 (by simp)) (by simp)
  have e0 : w2.cell? ⟨w.heap.size, 0, none⟩ = _ := cell_of q3
  have z0 : w2.frozen? ⟨w.heap.size, 0, none⟩ = false := free_of q3
  have e1 : w2.cell? ⟨w.heap.size, 1, none⟩ = _ := cell_of q3
  have z1 : w2.frozen? ⟨w.heap.size, 1, none⟩ = false := free_of q3
  have e2 : w2.cell? ⟨w.heap.size, 2, none⟩ = _ := cell_of q3
  have z2 : w2.frozen? ⟨w.heap.size, 2, none⟩ = false := free_of q3
  have e3 : w2.cell? ⟨w.heap.size, 3, none⟩ = _ := cell_of q3
  have z3 : w2.frozen? ⟨w.heap.size, 3, none⟩ = false := free_of q3
  have e4 : w2.cell? ⟨w.heap.size, 4, none⟩ = _ := cell_of q3
  have z4 : w2.frozen? ⟨w.heap.size, 4, none⟩ = false := free_of q3
  have e5 : w2.cell? ⟨w.heap.size, 5, none⟩ = _ := cell_of q3
  have z5 : w2.frozen? ⟨w.heap.size, 5, none⟩ = false := free_of q3
  have e6 : w2.cell? ⟨w.heap.size, 6, none⟩ = _ := cell_of q3
  have z6 : w2.frozen? ⟨w.heap.size, 6, none⟩ = false := free_of q3
  obtain ⟨x0, x1, x2, x3, x4, x5, x6, _, _, _, _, _, _, _⟩ := q2.cells
  obtain ⟨W3, hW3, f3, q4⟩ := SBs.setT0 q3 gt ga gc
  have hW3' := hW3.symm
  have g3 : Fr [] w W3 := ((f0.then0 f1).then0 f2).trans f3 (by simp) (fun x hx => .inr (by simp at hx; omega))
  have hv3 := (hv.keep f2 (by simp)).keep f3 (by simp)
  have h13 := ((H1.out.keep f1 (by simp)).keep f2 (by simp)).keep f3 (by simp)
  have p4 : SB W3 (w.heap.size + 1) _ _ _ _ _ _ _ _ _ _ _ _ _ _ _ _ _ := f3.keep p3 (by simp)
  have HNT := Lib.hid (rs_noted (c0 := s.c0) (c1 := s.c1) (sf := s.first) hv3 h13 HB.out.1 HB.out.2.1 HB.out.2.2.1 HB.out.2.2.2)
  have HV := Lib.hid hv3
  replace H1 := Lib.hid h13
  have G3 := Lib.hid g3
  clear hv hv3 h13 f1 f2 f3 g3 q0 p0 q3 p3 q2 hW3 HB
  go_wp2_with (refine sbs_loadW q4 rfl (.tmp 4) rfl (by rfl) ?_)
  refine HNT.out.mono ?_
  rintro e1 w4 ⟨rfl, f4⟩
  have p5 : SB w4 (w.heap.size + 1) _ _ _ _ _ _ _ _ _ _ _ _ _ _ _ _ _ := f4.keep p4 (by simp)
  obtain ⟨w5, hw5, q5, f5⟩ := sbs_set p5 ga gc a1 k1 gt s.t1 s.c0 s.c1 (noteF (noteF s.first (nextS gt s.c0 0)) (nextS s.t1 s.c1 1))
  have Q5 := Lib.hid q5
  have F35 := Lib.hid ((f4.mono (T := [w.heap.size + 1]) (by simp)).then f5)
  have hn : ∀ x ∈ [w.heap.size + 1], ¬ (N x ∧ x ≠ w.heap.size ∧ x ≠ w.heap.size + 1) := by simp
  clear HNT q4 p4 hW3' hw2 e0 z0 e1 z1 e2 z2 e3 z3 e4 z4 e5 z5 e6 z6 x0 x1 x2 x3 x4 x5 x6 q5 f4 f5
  go_wp2_with (refine sbs_storeW p5 hw5 rfl (.tmp 8) (.tmp 31) rfl rfl (by rfl) (by rfl) ?_)
  refine bodyPost_ret (sbs_result2 Q5.out rfl rfl rfl) rfl ?_
  exact ⟨_, rfl, G3.out.trans F35.out (by simp) (fun x hx => .inr (by simp at hx; omega)), ga, gc, a1, k1, rfl, (HV.out.keep F35.out hn).mono (fun x hx => hx.1), (H1.out.keep F35.out hn).mono (fun x hx => hx.1)⟩

set_option maxHeartbeats 8000000 in
theorem rs_wrote1 {w : World} {N : Nat → Prop} {v : Value} {s : SS} (h : Rsp w N v s) (ok0 : TOk s.t0) (ok1 : TOk s.t1) (r0 : s.t0.rd ≤ 4611686018427387904) (r1 : s.t1.rd ≤ 4611686018427000000) (hN : ∀ x, w.heap.size ≤ x → N x) (n e : Int) :
    Calls Try.prog 73 #[v, .int .i64 1, .int .i64 n, .int .i64 e] w fun x w' => ∃ u, x = .returned (.tuple #[u, .int .i64 (wroteE s.t1 n e)]) ∧ Fr [] w w' ∧ Rsp w' N u (noteR { s with t1 := wroteT s.t1 n e }) := by
  obtain ⟨a0, k0, a1, k1, rfl, h0, h1⟩ := h
  obtain ⟨W0, hW0, f0, q0, p0⟩ : ∃ W, (w.alloc (.cells #[.int .i64 s.t0.stage, .int .i64 s.t0.limit, .int .i64 s.t0.rd, .int .i64 s.t0.wr, .slice a0 s.t0.s.length k0, .int .i64 s.t0.r, .int .i64 s.t0.w, .int .i64 s.t1.stage, .int .i64 s.t1.limit, .int .i64 s.t1.rd, .int .i64 s.t1.wr, .slice a1 s.t1.s.length k1, .int .i64 s.t1.r, .int .i64 s.t1.w, .bool s.c0, .bool s.c1, .int .i64 s.first] 95)).alloc (.cells #[.int .i64 0, .int .i64 0, .int .i64 0, .int .i64 0, .slice none 0 0, .int .i64 0, .int .i64 0, .int .i64 0, .int .i64 0, .int .i64 0, .int .i64 0, .slice none 0 0, .int .i64 0, .int .i64 0, .bool false, .bool false, .int .i64 0] 95) = W ∧ Fr [] w W ∧ SBs W w.heap.size a0 k0 a1 k1 s.t0 s.t1 s.c0 s.c1 s.first ∧ SB W (w.heap.size + 1) (.int .i64 0) (.int .i64 0) (.int .i64 0) (.int .i64 0) (.slice none 0 0) (.int .i64 0) (.int .i64 0) (.int .i64 0) (.int .i64 0) (.int .i64 0) (.int .i64 0) (.slice none 0 0) (.int .i64 0) (.int .i64 0) (.bool false) (.bool false) (.int .i64 0) := ⟨_, rfl, ((Fr.refl _ _).alloc _).alloc _, keepA (newA rfl), newA (by simp)⟩
  have h0' : Rv W0 (fun x => N x ∧ x ≠ w.heap.size ∧ x ≠ w.heap.size + 1) (.agg #[.int .i64 s.t0.stage, .int .i64 s.t0.limit, .int .i64 s.t0.rd, .int .i64 s.t0.wr, .slice a0 s.t0.s.length k0, .int .i64 s.t0.r, .int .i64 s.t0.w]) s.t0 := (h0.there.keep f0 (by simp)).mono (fun x hx => ⟨hx.1, by omega, by omega⟩)
  have h1' : Rv W0 (fun x => N x ∧ x ≠ w.heap.size ∧ x ≠ w.heap.size + 1) (.agg #[.int .i64 s.t1.stage, .int .i64 s.t1.limit, .int .i64 s.t1.rd, .int .i64 s.t1.wr, .slice a1 s.t1.s.length k1, .int .i64 s.t1.r, .int .i64 s.t1.w]) s.t1 := (h1.there.keep f0 (by simp)).mono (fun x hx => ⟨hx.1, by omega, by omega⟩)
  have hz0 := lt_of_heap p0
  have hN0 : ∀ x, W0.heap.size ≤ x → N x ∧ x ≠ w.heap.size ∧ x ≠ w.heap.size + 1 := fun x hx => ⟨hN x (by omega), by omega, by omega⟩
  have HSD := Lib.hid (show Calls Try.prog 32 #[.int .i64 1] W0 fun e w' => e = .returned (.bool true) ∧ W0 = w' from rs_side W0 1)
  have HG := Lib.hid (rt_wrote h1' ok1 (by omega) hN0 n e)
  have rg : (wroteT s.t1 n e).rd ≤ 4611686018427387904 := by have := wroteT_rd s.t1 n e; omega
  have okg := wroteT_ok ok1 n e
  have hr0 : s.t0.rd ≤ 4611686018427387904 := by omega
  obtain ⟨gt, hgt⟩ : ∃ x, wroteT s.t1 n e = x := ⟨_, rfl⟩
  rw [hgt] at HG okg rg ⊢
  have HB := Lib.hid (And.intro okg (And.intro ok0 (And.intro rg hr0)))
  have H1 := Lib.hid h0'
  have d0 : W0.cell? ⟨w.heap.size, 7, none⟩ = _ := cell_of q0
  have d1 : W0.cell? ⟨w.heap.size, 8, none⟩ = _ := cell_of q0
  have d2 : W0.cell? ⟨w.heap.size, 9, none⟩ = _ := cell_of q0
  have d3 : W0.cell? ⟨w.heap.size, 10, none⟩ = _ := cell_of q0
  have d4 : W0.cell? ⟨w.heap.size, 11, none⟩ = _ := cell_of q0
  have d5 : W0.cell? ⟨w.heap.size, 12, none⟩ = _ := cell_of q0
  have d6 : W0.cell? ⟨w.heap.size, 13, none⟩ = _ := cell_of q0
  clear h0 h1 ok0 ok1 r0 r1 rg okg hN hN0 hgt h0' h1' hr0
  generalize wroteE s.t1 n e = ge at *
  go_enter Try.func73, Try.ntmps73
  go_wp2_with fail
  refine HSD.out.mono ?_
  rintro e1 w' ⟨rfl, rfl⟩
  go_wp2_with fail
  refine HG.out.mono ?_
  rintro e1 w1 ⟨u, rfl, f1, hv⟩
  obtain ⟨ga, gc, rfl, _⟩ := id hv
  clear HSD HG d0 d1 d2 d3 d4 d5 d6 hW0
  obtain ⟨w2, hw2, f2, q2⟩ : ∃ W, w1.alloc (.cells #[.int .i64 gt.stage, .int .i64 gt.limit, .int .i64 gt.rd, .int .i64 gt.wr, .slice ga gt.s.length gc, .int .i64 gt.r, .int .i64 gt.w] 45) = W ∧ Fr [] w1 W ∧ RB W w1.heap.size (.int .i64 gt.stage) (.int .i64 gt.limit) (.int .i64 gt.rd) (.int .i64 gt.wr) (.slice ga gt.s.length gc) (.int .i64 gt.r) (.int .i64 gt.w) := ⟨_, rfl, (Fr.refl _ _).alloc _, newA rfl⟩
  have q3 := (SBs.keep q0 f1 (by simp)).keep f2 (by simp)
  have p3 : SB w2 (w.heap.size + 1) _ _ _ _ _ _ _ _ _ _ _ _ _ _ _ _ _ := f2.keep (f1.keep p0 (by simp)) (by simp)
  have e0 : w2.cell? ⟨w.heap.size, 7, none⟩ = _ := cell_of q3
  have z0 : w2.frozen? ⟨w.heap.size, 7, none⟩ = false := free_of q3
  have e1 : w2.cell? ⟨w.heap.size, 8, none⟩ = _ := cell_of q3
  have z1 : w2.frozen? ⟨w.heap.size, 8, none⟩ = false := free_of q3
  have e2 : w2.cell? ⟨w.heap.size, 9, none⟩ = _ := cell_of q3
  have z2 : w2.frozen? ⟨w.heap.size, 9, none⟩ = false := free_of q3
  have e3 : w2.cell? ⟨w.heap.size, 10, none⟩ = _ := cell_of q3
  have z3 : w2.frozen? ⟨w.heap.size, 10, none⟩ = false := free_of q3
  have e4 : w2.cell? ⟨w.heap.size, 11, none⟩ = _ := cell_of q3
  have z4 : w2.frozen? ⟨w.heap.size, 11, none⟩ = false := free_of q3
  have e5 : w2.cell? ⟨w.heap.size, 12, none⟩ = _ := cell_of q3
  have z5 : w2.frozen? ⟨w.heap.size, 12, none⟩ = false := free_of q3
  have e6 : w2.cell? ⟨w.heap.size, 13, none⟩ = _ := cell_of q3
  have z6 : w2.frozen? ⟨w.heap.size, 13, none⟩ = false := free_of q3
  obtain ⟨x0, x1, x2, x3, x4, x5, x6, _, _, _, _, _, _, _⟩ := q2.cells
  obtain ⟨W3, hW3, f3, q4⟩ := SBs.setT1 q3 gt ga gc
  have hW3' := hW3.symm
  have g3 : Fr [] w W3 := ((f0.then0 f1).then0 f2).trans f3 (by simp) (fun x hx => .inr (by simp at hx; omega))
  have hv3 := (hv.keep f2 (by simp)).keep f3 (by simp)
  have h13 := ((H1.out.keep f1 (by simp)).keep f2 (by simp)).keep f3 (by simp)
  have p4 : SB W3 (w.heap.size + 1) _ _ _ _ _ _ _ _ _ _ _ _ _ _ _ _ _ := f3.keep p3 (by simp)
  have HNT := Lib.hid (rs_noted (c0 := s.c0) (c1 := s.c1) (sf := s.first) h13 hv3 HB.out.2.1 HB.out.1 HB.out.2.2.2 HB.out.2.2.1)
  have HV := Lib.hid hv3
  replace H1 := Lib.hid h13
  have G3 := Lib.hid g3
  clear hv hv3 h13 f1 f2 f3 g3 q0 p0 q3 p3 q2 hW3 HB
  go_wp2_with (refine sbs_loadW q4 rfl (.tmp 4) rfl (by rfl) ?_)
  refine HNT.out.mono ?_
  rintro e1 w4 ⟨rfl, f4⟩
  have p5 : SB w4 (w.heap.size + 1) _ _ _ _ _ _ _ _ _ _ _ _ _ _ _ _ _ := f4.keep p4 (by simp)
  obtain ⟨w5, hw5, q5, f5⟩ := sbs_set p5 a0 k0 ga gc s.t0 gt s.c0 s.c1 (noteF (noteF s.first (nextS s.t0 s.c0 0)) (nextS gt s.c1 1))
  have Q5 := Lib.hid q5
  have F35 := Lib.hid ((f4.mono (T := [w.heap.size + 1]) (by simp)).then f5)
  have hn : ∀ x ∈ [w.heap.size + 1], ¬ (N x ∧ x ≠ w.heap.size ∧ x ≠ w.heap.size + 1) := by simp
  clear HNT q4 p4 hW3' hw2 e0 z0 e1 z1 e2 z2 e3 z3 e4 z4 e5 z5 e6 z6 x0 x1 x2 x3 x4 x5 x6 q5 f4 f5
  go_wp2_with (refine sbs_storeW p5 hw5 rfl (.tmp 8) (.tmp 31) rfl rfl (by rfl) (by rfl) ?_)
  refine bodyPost_ret (sbs_result2 Q5.out rfl rfl rfl) rfl ?_
  exact ⟨_, rfl, G3.out.trans F35.out (by simp) (fun x hx => .inr (by simp at hx; omega)), a0, k0, ga, gc, rfl, (H1.out.keep F35.out hn).mono (fun x hx => hx.1), (HV.out.keep F35.out hn).mono (fun x hx => hx.1)⟩
end Go.Proofs.Ytodpkdbcdbdjfaa
