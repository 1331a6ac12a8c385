/-
  Law 21's helpers: Same, wants, moved, each where it returns true.
-/
import Derived.Test.YtodpkdbcdbdjfaaTrGot
namespace Go.Proofs.Ytodpkdbcdbdjfaa
open Go.RowKit
set_option maxRecDepth 100000

/-- A want that can be read. -/
def Wr (w : World) (u : Value) (x : WT) : Prop := ∃ a c, u = .agg #[.int .i64 x.kind, .int .i64 x.side, .int .i64 x.n, .slice a x.data.length c, .int .i64 x.err] ∧ Sl w a (bi x.data)
theorem Wv.wr {w : World} {M : Nat} {v : Value} {x : WT} (h : Wv w M v x) : Wr w v x := by
  obtain ⟨v1, rfl, ov⟩ := h
  obtain ⟨ga, gc, rfl, _, _, hs, _⟩ := ov.formB
  exact ⟨ga, gc, rfl, hs⟩
theorem Wr.keep0 {w w' : World} {v : Value} {x : WT} (h : Wr w v x) (f : Fr [] w w') : Wr w' v x := by
  obtain ⟨a, c, e, hs⟩ := h
  exact ⟨a, c, e, sl_keep hs f (by simp)⟩
theorem Wr.plain (w : World) (k s n e : Int) : Wr w (.agg #[.int .i64 k, .int .i64 s, .int .i64 n, .slice none 0 0, .int .i64 e]) ⟨k, s, n, [], e⟩ := ⟨_, _, rfl, Sl.nil _ _⟩

theorem same_yes {w : World} {v u : Value} {x : WT} (hv : Wr w v x) (hu : Wr w u x) :
    Calls Try.prog 40 #[v, u] w fun e w' => e = .returned (.bool true) ∧ Fr [] w w' := by
  obtain ⟨ga, gc, rfl, hs1⟩ := hv
  obtain ⟨ha, hc, rfl, hs2⟩ := hu
  obtain ⟨k, s, n, l, e⟩ := x
  dsimp only at *
  have HC1 := Lib.hid fun w1 (f : Fr [] w w1) => conv_st (cap := gc) (sl_keep hs1 f (by simp)) rfl
  have HC2 := Lib.hid fun w1 (f : Fr [] w w1) => conv_st (cap := hc) (sl_keep hs2 f (by simp)) rfl
  clear hs1 hs2
  generalize l.length = q at *
  go_enter Try.func40, Try.ntmps40
  have c1 := HC1.out _ (((Fr.refl [] w).alloc (.cells #[.int .i64 k, .int .i64 s, .int .i64 n, .slice ga q gc, .int .i64 e] 32)).alloc (.cells #[.int .i64 k, .int .i64 s, .int .i64 n, .slice ha q hc, .int .i64 e] 32))
  have c2 := HC2.out _ (((Fr.refl [] w).alloc (.cells #[.int .i64 k, .int .i64 s, .int .i64 n, .slice ga q gc, .int .i64 e] 32)).alloc (.cells #[.int .i64 k, .int .i64 s, .int .i64 n, .slice ha q hc, .int .i64 e] 32))
  go_wp2_with fail
  go_ret
  exact ⟨rfl, ((Fr.refl _ _).alloc _).alloc _⟩

theorem wants_of {w : World} {r : Option Addr} {x : WT} {u : Value} (HN : ∀ w1, Fr [] w w1 → Calls Try.prog 17 #[.pointer r] w1 fun e w' => ∃ v, e = .returned v ∧ Fr [] w1 w' ∧ Wv w' w1.heap.size v x) (hu : Wr w u x) :
    Calls Try.prog 25 #[.pointer r, u] w fun e w' => e = .returned (.bool true) ∧ Fr [] w w' := by
  have HU := Lib.hid hu
  obtain ⟨ha, hc, rfl, ou⟩ := hu
  clear ou
  obtain ⟨k, s, n, l, e⟩ := x
  dsimp only at *
  have HH := Lib.hid HN
  clear HN
  go_enter Try.func25, Try.ntmps25
  go_wp2_with fail
  obtain ⟨W, hW, f0, hz, b0⟩ : ∃ W, W = w.alloc (.cells #[.int .i64 k, .int .i64 s, .int .i64 n, .slice ha l.length hc, .int .i64 e] 32) ∧ Fr [] w W ∧ w.heap.size < W.heap.size ∧ WB W w.heap.size (.int .i64 k) (.int .i64 s) (.int .i64 n) (.slice ha l.length hc) (.int .i64 e) := ⟨_, rfl, (Fr.refl _ _).alloc _, by simp, newA rfl⟩
  rw [← hW]
  clear hW
  have fd : Fr [] w W.drew := f0.drew
  have hS : ∀ w', Fr [] W.drew w' → w'.cell? ⟨w.heap.size, 0, none⟩ = some (.int .i64 k) ∧ w'.cell? ⟨w.heap.size, 1, none⟩ = some (.int .i64 s) ∧ w'.cell? ⟨w.heap.size, 2, none⟩ = some (.int .i64 n) ∧ w'.cell? ⟨w.heap.size, 3, none⟩ = some (.slice ha l.length hc) ∧ w'.cell? ⟨w.heap.size, 4, none⟩ = some (.int .i64 e) := fun w' f => by
    have q : WB w' w.heap.size (.int .i64 k) (.int .i64 s) (.int .i64 n) (.slice ha l.length hc) (.int .i64 e) := f.keep (show W.drew.heap[w.heap.size]? = _ from b0) (by simp)
    obtain ⟨c0, c1, c2, c3, c4, _⟩ := q.cells
    exact ⟨c0, c1, c2, c3, c4⟩
  obtain ⟨d0, d1, d2, d3, d4, _⟩ := b0.cells
  have HS := Lib.hid hS
  have HNX := Lib.hid (HH.out W.drew fd)
  have HSM : Hid (∀ w1 M v, Fr [] w w1 → Wv w1 M v ⟨k, s, n, l, e⟩ → Calls Try.prog 40 #[v, .agg #[.int .i64 k, .int .i64 s, .int .i64 n, .slice ha l.length hc, .int .i64 e]] w1 fun e w' => e = .returned (.bool true) ∧ Fr [] w1 w') :=
    Lib.hid fun w1 M v f hv => same_yes hv.wr (HU.out.keep0 f)
  have HWZ : Hid (w.heap.size ≤ W.drew.heap.size) := Lib.hid (Nat.le_of_lt hz)
  clear hS b0 hz HH HU
  generalize l.length = q at *
  go_region_held3 (fun w' => w'.cell? ⟨w.heap.size, 0, none⟩ = some (.int .i64 k) ∧ w'.cell? ⟨w.heap.size, 1, none⟩ = some (.int .i64 s) ∧ w'.cell? ⟨w.heap.size, 2, none⟩ = some (.int .i64 n) ∧ w'.cell? ⟨w.heap.size, 3, none⟩ = some (.slice ha q hc) ∧ w'.cell? ⟨w.heap.size, 4, none⟩ = some (.int .i64 e))
    (first | (with_reducible exact ⟨d0, d1, d2, d3, d4⟩) | (with_reducible refine HS.out _ ?_; first | (with_reducible exact f2) | (with_reducible exact g1) | (with_reducible exact Fr.refl _ _)))
    (first
      | (go_at_call 17; refine HNX.out.mono ?_; rintro e1 w1 ⟨v, rfl, g1, hv⟩; have HV := Lib.hid (HSM.out w1 _ v (fd.then0 g1) hv); obtain ⟨vu, rfl, ov⟩ := hv; obtain ⟨va, vc, rfl, _⟩ := ov.formB; clear ov)
      | (go_at_call 40; refine HV.out.mono ?_; rintro e2 w2 ⟨rfl, fs⟩; have f2 : Fr [] W.drew w2 := g1.then0 fs))
  go_wp2_with fail
  go_ret
  exact ⟨rfl, fd.then0 f2⟩
theorem moved_of {w : World} {r : Option Addr} {x y : Int} (HN : Calls Try.prog 37 #[.pointer r] w fun e w' => e = .returned (.tuple #[.int .i64 x, .int .i64 y]) ∧ Fr [] w w') :
    Calls Try.prog 20 #[.pointer r, .int .i64 x, .int .i64 y] w fun e w' => e = .returned (.bool true) ∧ Fr [] w w' := by
  have H := Lib.hid HN
  clear HN
  go_enter Try.func20, Try.ntmps20
  go_wp2_with fail
  refine H.out.mono ?_
  rintro e w' ⟨rfl, f⟩
  go_wp2_with fail
  go_ret
  exact ⟨rfl, f⟩
end Go.Proofs.Ytodpkdbcdbdjfaa
