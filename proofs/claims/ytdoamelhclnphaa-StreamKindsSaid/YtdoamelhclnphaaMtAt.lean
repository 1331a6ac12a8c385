/-
  Package meet: what a stream is in memory, and the contracts of its functions.
-/
import Derived.Test.YtdoamelhclnphaaRopeA
namespace Go.Proofs.Ytdoamelhclnphaa
open Go.RowKit
set_option maxRecDepth 100000

/-- What a stream holds: the errors of its ends, whether there is an offer, the rest of it, how many of its bytes were taken. -/
structure MM where
  r : Int
  w : Int
  off : Bool
  s : List UInt8
  tk : Nat

def MtB (w : World) (b : Nat) (e0 e1 : Int) (of : Bool) (a : Option Addr) (len cap : Nat) (n : Int) (tk : Nat) : Prop :=
  w.heap[b]? = some (.cells #[.bool true, .int .i64 e0, .int .i64 e1, .bool of, .slice a len cap, .int .i64 n, .int .i64 tk] 142 (0, 0))
structure MtC (w : World) (b : Nat) (e0 e1 : Int) (of : Bool) (a : Option Addr) (len cap : Nat) (n : Int) (tk : Nat) : Prop where
  c0 : w.cell? ⟨b, 0, none⟩ = some (.bool true)
  c1 : w.cell? ⟨b, 1, none⟩ = some (.int .i64 e0)
  c2 : w.cell? ⟨b, 2, none⟩ = some (.int .i64 e1)
  c3 : w.cell? ⟨b, 3, none⟩ = some (.bool of)
  c4 : w.cell? ⟨b, 4, none⟩ = some (.slice a len cap)
  c5 : w.cell? ⟨b, 5, none⟩ = some (.int .i64 n)
  c6 : w.cell? ⟨b, 6, none⟩ = some (.int .i64 tk)
  f0 : w.frozen? ⟨b, 0, none⟩ = false
  f1 : w.frozen? ⟨b, 1, none⟩ = false
  f2 : w.frozen? ⟨b, 2, none⟩ = false
  f3 : w.frozen? ⟨b, 3, none⟩ = false
  f4 : w.frozen? ⟨b, 4, none⟩ = false
  f5 : w.frozen? ⟨b, 5, none⟩ = false
  f6 : w.frozen? ⟨b, 6, none⟩ = false
theorem MtB.cells {w : World} {b : Nat} {e0 e1 : Int} {of : Bool} {a : Option Addr} {len cap : Nat} {n : Int} {tk : Nat} (h : MtB w b e0 e1 of a len cap n tk) : MtC w b e0 e1 of a len cap n tk :=
  ⟨cell_of h, cell_of h, cell_of h, cell_of h, cell_of h, cell_of h, cell_of h, free_of h, free_of h, free_of h, free_of h, free_of h, free_of h, free_of h⟩

/-- A stream at block b that holds m; the parts of its offer lie where N allows. -/
def Mt (w : World) (N : Nat → Prop) (b : Nat) (m : MM) : Prop :=
  ∃ a cap P, MtB w b m.r m.w m.off a P.length cap (tot P) m.tk ∧ Rp w N (.agg #[.slice a P.length cap, .int .i64 (tot P)]) P ∧ P.flatten = m.s ∧ ¬ N b ∧ (∀ x, w.heap.size ≤ x → N x) ∧ m.tk + tot P ≤ 65536
theorem Mt.lt {w : World} {N : Nat → Prop} {b : Nat} {m : MM} (h : Mt w N b m) : b < w.heap.size := by obtain ⟨a, cap, P, h1, _⟩ := h; exact lt_of_heap h1
theorem Mt.keep {w w' : World} {N : Nat → Prop} {b : Nat} {m : MM} (h : Mt w N b m) {S : List Nat} (hf : Fr S w w') (hb : b ∉ S) (hS : ∀ x ∈ S, ¬ N x) : Mt w' N b m := by
  obtain ⟨a, cap, P, h1, h2, h3, h4, h5, h6⟩ := h
  exact ⟨a, cap, P, hf.keep h1 hb, h2.keep hf hS, h3, h4, fun x hx => h5 x (Nat.le_trans hf.size hx), h6⟩
theorem Mt.keep0 {w w' : World} {N : Nat → Prop} {b : Nat} {m : MM} (h : Mt w N b m) (hf : Fr [] w w') : Mt w' N b m := h.keep hf (by simp) (by simp)

@[go_sem] theorem eq_errs (a b c d : Int) (w : World) : (Op.equalIn 10000 76 (.agg #[.int .i64 a, .int .i64 b]) (.agg #[.int .i64 c, .int .i64 d])).run Try.prog w = .ok (a == c && b == d) w := by
  have u3 := Try.underlying30
  have a3 := Try.isAgg30
  have z3 := Try.sizeOf30
  rw [show (10000 : Nat) = 9999 + 1 from rfl, Op.equalIn]
  simp only [Sem.run_bind, run_underlying Try.underlying76, Result.andThen_ok]
  simp only [Std.Legacy.Range.forIn_eq_forIn_range', Std.Legacy.Range.size, Nat.sub_zero, Nat.add_sub_cancel, Nat.div_one, List.range'_succ, List.range'_zero, List.forIn_cons, List.forIn_nil]
  go_simp
  by_cases h1 : a = c <;> by_cases h2 : b = d <;> simp [h1, h2]
theorem meet_zero {w : World} {b : Nat} {e0 e1 : Int} {of : Bool} {a : Option Addr} {len cap : Nat} {n : Int} {tk : Nat} (h : MtB w b e0 e1 of a len cap n tk) :
    Calls Try.prog 95 #[.pointer (some ⟨b, 0, none⟩)] w fun e w' => e = .returned (.bool false) ∧ w = w' := by
  have h0 := h.cells.c0
  go_enter Try.func95, Try.ntmps95
  go_wp2
  go_ret
  exact ⟨rfl, rfl⟩
theorem meet_open {w : World} {b : Nat} {e0 e1 : Int} {of : Bool} {a : Option Addr} {len cap : Nat} {n : Int} {tk : Nat} (h : MtB w b e0 e1 of a len cap n tk) :
    Calls Try.prog 96 #[.pointer (some ⟨b, 0, none⟩)] w fun e w' => e = .returned (.bool (e0 == 0 && e1 == 0)) ∧ w = w' := by
  have h1 := h.cells.c1
  have h2 := h.cells.c2
  go_enter Try.func96, Try.ntmps96
  go_wp2
  go_ret
  exact ⟨rfl, rfl⟩
theorem meet_new (w : World) :
    Calls Try.prog 54 #[] w fun e w' => e = .returned (.pointer (some ⟨w.heap.size, 0, none⟩)) ∧ Fr [] w w' ∧ Mt w' (fun x => x ≠ w.heap.size) w.heap.size ⟨0, 0, false, [], 0⟩ := by
  go_enter Try.func54, Try.ntmps54
  go_wp2
  go_ret
  refine ⟨rfl, (Fr.refl _ _).alloc _, none, 0, [], newA rfl, Rp.none_ _ _, rfl, by simp, fun x hx => by simp at hx; omega, by simp [tot]⟩
end Go.Proofs.Ytdoamelhclnphaa
