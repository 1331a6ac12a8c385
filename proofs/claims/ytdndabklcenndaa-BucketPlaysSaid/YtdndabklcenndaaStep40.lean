/-
  The law package's step: what it must leave.
-/
import Derived.Test.YtdndabklcenndaaStepFns
import Derived.BigRegion
import Derived.Deep.RegionHeld3
namespace Go.Proofs.Ytdndabklcenndaa
open Go.RowKit
set_option maxRecDepth 100000

/-- step's own memory: the model, the call, the result. -/
def StMem (w : World) (M : Nat) (r p u l t a now n : Int) : Prop :=
  w.heap[M]? = some (.cells #[.int .i64 r, .int .i64 p, .int .i64 u, .int .i64 l, .int .u64 t] 45 (0, 0)) ∧
  w.heap[M + 1]? = some (.cells #[.int .i64 a, .int .u64 now, .int .i64 n] 37 (0, 0)) ∧
  w.heap[M + 1 + 1]? = some (.cells #[.int .i64 0, .int .i64 0, .int .i64 0, .int .i64 0, .int .u64 0] 45 (0, 0))

theorem StMem.keep {w w' : World} {M : Nat} {r p u l t a now n : Int} (h : StMem w M r p u l t a now n) {S : List Nat} (hf : Fr S w w') (hS : ∀ x ∈ S, x < M) : StMem w' M r p u l t a now n :=
  ⟨hf.keep h.1 (fun k => by have := hS _ k; omega), hf.keep h.2.1 (fun k => by have := hS _ k; omega), hf.keep h.2.2 (fun k => by have := hS _ k; omega)⟩

theorem StMem.mo {w : World} {M : Nat} {r p u l t a now n : Int} (h : StMem w M r p u l t a now n) :
    w.cell? ⟨M, 0, none⟩ = some (.int .i64 r) ∧ w.cell? ⟨M, 1, none⟩ = some (.int .i64 p) ∧ w.cell? ⟨M, 2, none⟩ = some (.int .i64 u) ∧ w.cell? ⟨M, 3, none⟩ = some (.int .i64 l) ∧ w.cell? ⟨M, 4, none⟩ = some (.int .u64 t) ∧
    w.frozen? ⟨M, 3, none⟩ = false ∧ w.frozen? ⟨M, 4, none⟩ = false :=
  ⟨cell_of h.1, cell_of h.1, cell_of h.1, cell_of h.1, cell_of h.1, free_of h.1, free_of h.1⟩
theorem StMem.ac {w : World} {M : Nat} {r p u l t a now n : Int} (h : StMem w M r p u l t a now n) :
    w.cell? ⟨M + 1, 0, none⟩ = some (.int .i64 a) ∧ w.cell? ⟨M + 1, 1, none⟩ = some (.int .u64 now) ∧ w.cell? ⟨M + 1, 2, none⟩ = some (.int .i64 n) :=
  ⟨cell_of h.2.1, cell_of h.2.1, cell_of h.2.1⟩
theorem StMem.re {w : World} {M : Nat} {r p u l t a now n : Int} (h : StMem w M r p u l t a now n) :
    w.cell? ⟨M + 1 + 1, 0, none⟩ = some (.int .i64 0) ∧ w.cell? ⟨M + 1 + 1, 1, none⟩ = some (.int .i64 0) ∧ w.cell? ⟨M + 1 + 1, 2, none⟩ = some (.int .i64 0) ∧ w.cell? ⟨M + 1 + 1, 3, none⟩ = some (.int .i64 0) ∧ w.cell? ⟨M + 1 + 1, 4, none⟩ = some (.int .u64 0) ∧
    w.frozen? ⟨M + 1 + 1, 0, none⟩ = false ∧ w.frozen? ⟨M + 1 + 1, 1, none⟩ = false ∧ w.frozen? ⟨M + 1 + 1, 2, none⟩ = false ∧ w.frozen? ⟨M + 1 + 1, 3, none⟩ = false ∧ w.frozen? ⟨M + 1 + 1, 4, none⟩ = false :=
  ⟨cell_of h.2.2, cell_of h.2.2, cell_of h.2.2, cell_of h.2.2, cell_of h.2.2, free_of h.2.2, free_of h.2.2, free_of h.2.2, free_of h.2.2, free_of h.2.2⟩

/-- What step leaves: a bucket and a model that agree with each other, and 'true'. -/
def StepPost (r p u : Int) (b : Nat) (w : World) (e : Ending) (w' : World) : Prop :=
  ∃ (b' : Nat) (l t : Int), e = .returned (.tuple #[.pointer (some ⟨b', 0, none⟩), .agg #[.int .i64 r, .int .i64 p, .int .i64 u, .int .i64 l, .int .u64 t], .bool true]) ∧ BkInv r p u l t ∧ Fr [b] w w' ∧ BkAt w' b' r p u l t ∧ (b' = b ∨ w.heap.size ≤ b')

theorem StMem.upd {w : World} {M : Nat} {r p u l t a now n : Int} (h : StMem w M r p u l t a now n) (l' t' : Int) :
    StMem (((w.setCell ⟨M, 3, none⟩ (.int .i64 l')).setCell ⟨M, 4, none⟩ (.int .u64 t')).drew) M r p u l' t' a now n :=
  ⟨heap_setCell_eq (i := 4) (u := .int .u64 t') (heap_setCell_eq (i := 3) (u := .int .i64 l') h.1), keepS (keepS h.2.1 (by simp)) (by simp), keepS (keepS h.2.2 (by simp; omega)) (by simp; omega)⟩

theorem BkAt.setC {w : World} {b : Nat} {r p u l t : Int} {a : Addr} {v : Value} (h : BkAt w b r p u l t) (hn : b ≠ a.block) : BkAt (w.setCell a v) b r p u l t := keepS h hn
theorem BkAt.drew {w : World} {b : Nat} {r p u l t : Int} (h : BkAt w b r p u l t) : BkAt w.drew b r p u l t := h

theorem cell_set_block {w : World} {a b : Addr} {v x : Value} (h : w.cell? b = some x) (hn : a.block ≠ b.block) : (w.setCell a v).cell? b = some x :=
  (World.cell?_setCell_other w a b v (fun e => hn (by rw [e]))).trans h
theorem ks_set {w : World} {M i : Nat} {v : Value} {r p u l t a now n : Int} (h : w.cell? ⟨M, 0, none⟩ = some (.int .i64 r) ∧ w.cell? ⟨M, 1, none⟩ = some (.int .i64 p) ∧ w.cell? ⟨M, 2, none⟩ = some (.int .i64 u) ∧ w.cell? ⟨M, 3, none⟩ = some (.int .i64 l) ∧ w.cell? ⟨M, 4, none⟩ = some (.int .u64 t) ∧ w.cell? ⟨M + 1, 0, none⟩ = some (.int .i64 a) ∧ w.cell? ⟨M + 1, 1, none⟩ = some (.int .u64 now) ∧ w.cell? ⟨M + 1, 2, none⟩ = some (.int .i64 n)) :
    (w.setCell ⟨M + 1 + 1, i, none⟩ v).cell? ⟨M, 0, none⟩ = some (.int .i64 r) ∧ (w.setCell ⟨M + 1 + 1, i, none⟩ v).cell? ⟨M, 1, none⟩ = some (.int .i64 p) ∧ (w.setCell ⟨M + 1 + 1, i, none⟩ v).cell? ⟨M, 2, none⟩ = some (.int .i64 u) ∧ (w.setCell ⟨M + 1 + 1, i, none⟩ v).cell? ⟨M, 3, none⟩ = some (.int .i64 l) ∧ (w.setCell ⟨M + 1 + 1, i, none⟩ v).cell? ⟨M, 4, none⟩ = some (.int .u64 t) ∧ (w.setCell ⟨M + 1 + 1, i, none⟩ v).cell? ⟨M + 1, 0, none⟩ = some (.int .i64 a) ∧ (w.setCell ⟨M + 1 + 1, i, none⟩ v).cell? ⟨M + 1, 1, none⟩ = some (.int .u64 now) ∧ (w.setCell ⟨M + 1 + 1, i, none⟩ v).cell? ⟨M + 1, 2, none⟩ = some (.int .i64 n) :=
  ⟨cell_set_block h.1 (by dsimp only; omega), cell_set_block h.2.1 (by dsimp only; omega), cell_set_block h.2.2.1 (by dsimp only; omega), cell_set_block h.2.2.2.1 (by dsimp only; omega), cell_set_block h.2.2.2.2.1 (by dsimp only; omega), cell_set_block h.2.2.2.2.2.1 (by dsimp only; omega), cell_set_block h.2.2.2.2.2.2.1 (by dsimp only; omega), cell_set_block h.2.2.2.2.2.2.2 (by dsimp only; omega)⟩
end Go.Proofs.Ytdndabklcenndaa
