/-
  Package flow: what a stream is in memory, and the contracts of its functions but Write and Copy.
-/
import Derived.Test.YtdoamelhclnphaaMtMM
namespace Go.Proofs.Ytdoamelhclnphaa
open Go.RowKit
set_option maxRecDepth 100000

/-- What a stream holds: its capacity, its bytes, the errors of its ends. -/
structure FM where
  c : Nat
  s : List UInt8
  w : Int
  r : Int
def FlB (w : World) (b R : Nat) (x y : Int) : Prop := w.heap[b]? = some (.cells #[.pointer (some ⟨R, 0, none⟩), .int .i64 x, .int .i64 y] 147 (0, 0))
structure FlC (w : World) (b R : Nat) (x y : Int) : Prop where
  c0 : w.cell? ⟨b, 0, none⟩ = some (.pointer (some ⟨R, 0, none⟩))
  c1 : w.cell? ⟨b, 1, none⟩ = some (.int .i64 x)
  c2 : w.cell? ⟨b, 2, none⟩ = some (.int .i64 y)
  f0 : w.frozen? ⟨b, 0, none⟩ = false
  f1 : w.frozen? ⟨b, 1, none⟩ = false
  f2 : w.frozen? ⟨b, 2, none⟩ = false
theorem FlB.cells {w : World} {b R : Nat} {x y : Int} (h : FlB w b R x y) : FlC w b R x y := ⟨cell_of h, cell_of h, cell_of h, free_of h, free_of h, free_of h⟩
structure Fl (w : World) (b R D : Nat) (m : FM) : Prop where
  fb : FlB w b R m.w m.r
  rg : Rg w R D m.c (bi m.s)
  nr : b ≠ R
  nd : b ≠ D
theorem Fl.keep {w w' : World} {b R D : Nat} {m : FM} (h : Fl w b R D m) {S : List Nat} (hf : Fr S w w') (hb : b ∉ S) (hR : R ∉ S) (hD : D ∉ S) : Fl w' b R D m :=
  ⟨hf.keep h.fb hb, h.rg.keep hf hR hD, h.nr, h.nd⟩
theorem Fl.keep0 {w w' : World} {b R D : Nat} {m : FM} (h : Fl w b R D m) (hf : Fr [] w w') : Fl w' b R D m := h.keep hf (by simp) (by simp) (by simp)
theorem Fl.bd {w : World} {b R D : Nat} {m : FM} (h : Fl w b R D m) : m.s.length ≤ m.c ∧ 1 ≤ m.c ∧ m.c ≤ 4096 ∧ b < w.heap.size ∧ R < w.heap.size ∧ D < w.heap.size ∧ R ≠ D := by
  obtain ⟨h1, h2, h3, h4, h5, h6⟩ := h.rg.len_le
  rw [bi_length] at h1
  exact ⟨h1, h3, h2, lt_of_heap h.fb, h5, h6, h4⟩

structure FNR where
  m : FM
  n : Nat
  err : Int
def fWrite (m : FM) (x : List UInt8) : FNR :=
  if m.r ≠ 0 then ⟨m, 0, m.r⟩ else if m.w ≠ 0 then ⟨m, 0, 14⟩ else if x = [] then ⟨m, 0, 0⟩ else if m.s.length = m.c then ⟨m, 0, 16⟩
  else ⟨⟨m.c, m.s ++ x.take (m.c - m.s.length), m.w, m.r⟩, min x.length (m.c - m.s.length), 0⟩
structure FTR where
  m : FM
  out : List UInt8
  err : Int
def fRead (m : FM) (n : Int) : FTR :=
  if n < 0 then ⟨m, [], 2⟩ else if n = 0 then ⟨m, [], 0⟩ else if m.r ≠ 0 then ⟨m, [], m.r⟩ else if m.s ≠ [] then ⟨⟨m.c, m.s.drop n.toNat, m.w, m.r⟩, m.s.take n.toNat, 0⟩
  else if m.w ≠ 0 then ⟨m, [], m.w⟩ else ⟨m, [], 16⟩
structure FER where
  m : FM
  err : Int
def fCloseW (m : FM) (x : Int) : FER := if x = 0 then ⟨m, 2⟩ else if m.w ≠ 0 then ⟨m, 8⟩ else ⟨⟨m.c, m.s, x, m.r⟩, 0⟩
def fCloseR (m : FM) (x : Int) : FER := if x = 0 then ⟨m, 2⟩ else if m.r ≠ 0 then ⟨m, 8⟩ else ⟨⟨m.c, [], m.w, x⟩, 0⟩

theorem flow_new (c : Nat) (w : World) (h1 : 1 ≤ c) (h2 : c ≤ 4096) :
    Calls Try.prog 55 #[.int .i64 c] w fun e w' => ∃ b R D, e = .returned (.tuple #[.pointer (some ⟨b, 0, none⟩), .int .i64 0]) ∧ Fr [] w w' ∧ w.heap.size ≤ b ∧ w.heap.size ≤ R ∧ w.heap.size ≤ D ∧ Fl w' b R D ⟨c, [], 0, 0⟩ := by
  have hR := Lib.hid (rg_new c w h1 h2)
  go_enter Try.func55, Try.ntmps55
  go_wp2_with fail
  refine hR.out.mono ?_
  rintro e w1 ⟨rfl, f1, r1⟩
  have hz := r1.len_le
  go_wp2_with fail
  go_ret2
  exact ⟨_, _, _, rfl, f1.alloc _, by omega, by omega, by omega, newA rfl, r1.keep ((Fr.refl [] w1).alloc _) (by simp) (by simp), by omega, by omega⟩
theorem flow_new_bad (c : Int) (w : World) (h : c < 1 ∨ 4096 < c) :
    Calls Try.prog 55 #[.int .i64 c] w fun e w' => e = .returned (.tuple #[.pointer none, .int .i64 2]) ∧ w = w' := by
  have hR := Lib.hid (rg_new_bad c w h)
  clear h
  go_enter Try.func55, Try.ntmps55
  go_wp2_with fail
  refine hR.out.mono ?_
  rintro e w1 ⟨rfl, rfl⟩
  go_wp2_with fail
  go_ret2
  exact ⟨rfl, rfl⟩

section
variable {w : World} {b R D : Nat} {m : FM}
theorem flow_zero (h : Fl w b R D m) :
    Calls Try.prog 100 #[.pointer (some ⟨b, 0, none⟩)] w fun e w' => e = .returned (.bool false) ∧ w = w' := by
  obtain ⟨c0, _, _, _, _, _⟩ := h.fb.cells
  go_enter Try.func100, Try.ntmps100
  go_wp2
  go_ret
  exact ⟨rfl, rfl⟩
def FEPost (b R D : Nat) (r : FER) (w : World) (e : Ending) (w' : World) : Prop := e = .returned (.int .i64 r.err) ∧ Fr [b, R, D] w w' ∧ Fl w' b R D r.m
theorem set3 {w : World} {b R : Nat} {x y : Int} (h : FlB w b R x y) (z : Int) : FlB (w.setCell ⟨b, 1, none⟩ (.int .i64 z)) b R z y ∧ FlB (w.setCell ⟨b, 2, none⟩ (.int .i64 z)) b R x z := by
  have h1 := heap_setCell_eq (i := 1) (u := .int .i64 z) h
  have h2 := heap_setCell_eq (i := 2) (u := .int .i64 z) h
  simp at h1 h2
  exact ⟨h1, h2⟩
end
end Go.Proofs.Ytdoamelhclnphaa
