/-
  Law 22: what step leaves, and how a region stores a splice of the reference.
-/
import Derived.Test.YtodpkdbcdbdjfaaSpU
namespace Go.Proofs.Ytodpkdbcdbdjfaa
open Go.RowKit
set_option maxRecDepth 100000

theorem step_store17 {ops : Array Oper} {o : Oper} {a : Act} {w : World} {K : Act → World → Prop} {Q : Exit → Act → World → Prop} {E : Prop} {b : Nat} {v0 v1 v2 v3 v4 v5 v6 v7 v8 v9 v10 v11 v12 v13 v14 v15 v16 : Value} {a0 a1 : Option Addr} {k0 k1 : Nat} {t0 t1 : TS} {c0 c1 : Bool} {f : Int} (h : SB w b v0 v1 v2 v3 v4 v5 v6 v7 v8 v9 v10 v11 v12 v13 v14 v15 v16) (hw : Region.wanted o (yielded ops a.tmps) = true) {p x : Operand} (ho : o.op = .store 95 p x) (hp : a.eval p = .pointer (some ⟨b, 0, none⟩)) (hx : a.eval x = .agg #[.int .i64 t0.stage, .int .i64 t0.limit, .int .i64 t0.rd, .int .i64 t0.wr, .slice a0 t0.s.length k0, .int .i64 t0.r, .int .i64 t0.w, .int .i64 t1.stage, .int .i64 t1.limit, .int .i64 t1.rd, .int .i64 t1.wr, .slice a1 t1.s.length k1, .int .i64 t1.r, .int .i64 t1.w, .bool c0, .bool c1, .int .i64 f])
    (hd : o.dst = none) (hk : K a (w.setRow b #[.int .i64 t0.stage, .int .i64 t0.limit, .int .i64 t0.rd, .int .i64 t0.wr, .slice a0 t0.s.length k0, .int .i64 t0.r, .int .i64 t0.w, .int .i64 t1.stage, .int .i64 t1.limit, .int .i64 t1.rd, .int .i64 t1.wr, .slice a1 t1.s.length k1, .int .i64 t1.r, .int .i64 t1.w, .bool c0, .bool c1, .int .i64 f])) :
    if Region.wanted o (yielded ops a.tmps) = true then Oper.wp Try.prog o a w K Q else E := by
  rw [if_pos hw]
  exact wp_store_row _ p x ho b _ hp hx _ _ h (by kernel_rfl) rfl (by simp [Value.oneCell']) (by rw [hd]; exact hk)
theorem sbs_result3 {w : World} {b p u t : Nat} {a0 a1 : Option Addr} {k0 k1 : Nat} {t0 t1 : TS} {c0 c1 : Bool} {f : Int} {fn : Func} {tmps : Array Value} {x y : Value} (q : SBs w b a0 k0 a1 k1 t0 t1 c0 c1 f) (h : fn.results = #[.tmp u, .cell p 95, .tmp t]) (hu : tmps.getD u undef = x) (hp : tmps.getD p undef = .pointer (some ⟨b, 0, none⟩)) (ht : tmps.getD t undef = y) :
    (results fn tmps).run Try.prog w = .ok (.tuple #[x, .agg #[.int .i64 t0.stage, .int .i64 t0.limit, .int .i64 t0.rd, .int .i64 t0.wr, .slice a0 t0.s.length k0, .int .i64 t0.r, .int .i64 t0.w, .int .i64 t1.stage, .int .i64 t1.limit, .int .i64 t1.rd, .int .i64 t1.wr, .slice a1 t1.s.length k1, .int .i64 t1.r, .int .i64 t1.w, .bool c0, .bool c1, .int .i64 f], y]) w := by
  have hl := run_loadVar_row (P := Try.prog) w b _ _ _ _ _ q Try.underlying95 rfl (by kernel_rfl)
  have hp' : tmps[p]?.getD undef = .pointer (some ⟨b, 0, none⟩) := by simpa using hp
  have hu' : tmps[u]?.getD undef = x := by simpa using hu
  have ht' : tmps[t]?.getD undef = y := by simpa using ht
  simp [results, h, hp', hu', ht', asAddr, hl]
theorem Sp.out {w w' : World} {N0 N1 : Nat → Prop} {b W b0 b1 : Nat} {s : SS} (h : Sp w N0 N1 b W b0 b1 s) (f : Fr [] w w') : Sp w' (fun y => (N0 y ∧ y < w.heap.size) ∨ w'.heap.size ≤ y) (fun y => (N1 y ∧ y < w.heap.size) ∨ w'.heap.size ≤ y) b W b0 b1 s := by
  obtain ⟨l1, l2, l3, l4⟩ := h.lt
  have hz := f.size
  exact ⟨f.keep h.q (by simp), f.keep h.y (by simp), h.h0.out f (by simp) (by simp), h.h1.out f (by simp) (by simp),
    ⟨fun hn => hn.elim (fun hh => h.n0.1 hh.1) (fun hh => by omega), fun hn => hn.elim (fun hh => h.n0.2.1 hh.1) (fun hh => by omega), fun hn => hn.elim (fun hh => h.n0.2.2 hh.1) (fun hh => by omega)⟩,
    ⟨fun hn => hn.elim (fun hh => h.n1.1 hh.1) (fun hh => by omega), fun hn => hn.elim (fun hh => h.n1.2.1 hh.1) (fun hh => by omega), fun hn => hn.elim (fun hh => h.n1.2.2 hh.1) (fun hh => by omega)⟩, h.nd⟩
/-- What a step leaves. -/
def StepR22 (w : World) (N0 N1 N2 : Nat → Prop) (b W b0 b1 : Nat) (s2 : SS) (e : Ending) (w' : World) : Prop :=
  ∃ b' W' b0' b1' v', e = .returned (.tuple #[.pointer (some ⟨b', 0, none⟩), v', .bool true]) ∧ Fr [b, W, b0, b1] w w' ∧ (∃ M0 M1, Sp w' M0 M1 b' W' b0' b1' s2 ∧ (∀ x, x < w.heap.size → M0 x → N0 x) ∧ ∀ x, x < w.heap.size → M1 x → N1 x)
    ∧ (∃ M2, Rsp w' M2 v' s2 ∧ (¬ M2 b' ∧ ¬ M2 W' ∧ ¬ M2 b0' ∧ ¬ M2 b1') ∧ ∀ x, x < w.heap.size → M2 x → N2 x) ∧ ((b' = b ∧ W' = W ∧ b0' = b0 ∧ b1' = b1) ∨ (w.heap.size ≤ b' ∧ w.heap.size ≤ W' ∧ w.heap.size ≤ b0' ∧ w.heap.size ≤ b1'))
end Go.Proofs.Ytodpkdbcdbdjfaa
