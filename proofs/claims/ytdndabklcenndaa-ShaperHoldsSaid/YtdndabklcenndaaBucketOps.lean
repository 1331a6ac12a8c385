/-
  Contracts of package bucket's exported functions, on a bucket whose state is known.
-/
import Derived.Test.YtdndabklcenndaaBucketAt
import Derived.BigRegion
import Derived.Deep.RegionHeld3
namespace Go.Proofs.Ytdndabklcenndaa
open Go.RowKit
set_option maxRecDepth 100000

/-- A captured variable's block. -/
def One (w : World) (b : Nat) (v : Value) (t : Nat) : Prop := w.heap[b]? = some (.cells #[v] t (0, 0))
theorem One.cell {w : World} {b : Nat} {v : Value} {t : Nat} (h : One w b v t) : w.cell? ⟨b, 0, none⟩ = some v ∧ w.frozen? ⟨b, 0, none⟩ = false := ⟨cell_of h, free_of h⟩

theorem One.set {w : World} {b : Nat} {v u : Value} {t : Nat} (h : One w b v t) : One (w.setCell ⟨b, 0, none⟩ u) b u t := heap_setCell_eq (i := 0) h

theorem add_any (t n : Int) (w : World) (h0 : 0 ≤ t) (h1 : t ≤ 18446744073709551615) (h2 : 0 ≤ n) (h3 : n ≤ 18446744073709551615) :
    Calls Try.prog 42 #[.int .u64 t, .int .u64 n] w fun e w' => e = .returned (.int .u64 (plusT t n)) ∧ w = w' := by
  by_cases h : 18446744073709551615 - t ≤ n
  · have e : plusT t n = 18446744073709551615 := if_pos h
    have H := Lib.hid e
    clear e
    go_enter Try.func42, Try.ntmps42
    go_wp2
    go_ret
    exact ⟨by rw [H.out]; rfl, rfl⟩
  · have e : plusT t n = t + n := if_neg h
    have H := Lib.hid e
    clear e
    have h' : n < 18446744073709551615 - t := by omega
    clear h
    go_enter Try.func42, Try.ntmps42
    go_wp2
    go_ret
    exact ⟨by rw [H.out]; rfl, rfl⟩

theorem tokens_fn {w : World} {b B N : Nat} {r p u l t : Int} (h : BkAt w b r p u l t) (hi : BkInv r p u l t) (hB : One w B (.pointer (some ⟨b, 0, none⟩)) 27) (hN : One w N (.int .i64 0) 3) (v : Int) (hv0 : -1000000000 ≤ v) (hv : v ≤ 1000000000) :
    Calls Try.prog 44 #[.int .i64 v, .pointer (some ⟨B, 0, none⟩), .pointer (some ⟨N, 0, none⟩)] w fun e w' =>
      e = .returned (.int .i64 0) ∧ w' = w.setCell ⟨N, 0, none⟩ (.int .i64 (max 0 v / p)) := by
  obtain ⟨c0, c1, c2, c3, c4, _, _⟩ := h.cells
  obtain ⟨d1, e1⟩ := hB.cell
  obtain ⟨d2, e2⟩ := hN.cell
  have hp := hi.p1
  have hp2 := hi.p2
  go_enter Try.func44, Try.ntmps44
  by_cases hm : 0 < v
  · have e : max 0 v = v := by omega
    rw [e]
    clear e
    go_wp2
    go_ret
    exact ⟨rfl, rfl⟩
  · have e : max 0 v = 0 := by omega
    have hm' : v ≤ 0 := by omega
    rw [e]
    clear e
    go_wp2
    go_ret
    exact ⟨rfl, by simp⟩

theorem take_fn_no {w : World} {b B T N U : Nat} {r p u l t n : Int} (h : BkAt w b r p u l t) (hi : BkInv r p u l t) (hN : One w N (.int .i64 n) 3) (hB : One w B (.pointer (some ⟨b, 0, none⟩)) 27) (v : Int) (hn : 0 ≤ n) (hn2 : n ≤ 1000000) (hv : v < n * p) :
    Calls Try.prog 46 #[.int .i64 v, .pointer (some ⟨N, 0, none⟩), .pointer (some ⟨B, 0, none⟩), .pointer (some ⟨T, 0, none⟩), .pointer (some ⟨U, 0, none⟩)] w fun e w' =>
      e = .returned (.int .i64 0) ∧ ∃ k, w' = w.drewN k := by
  obtain ⟨c0, c1, c2, c3, c4, _, _⟩ := h.cells
  obtain ⟨d1, e1⟩ := hB.cell
  obtain ⟨d2, e2⟩ := hN.cell
  have hp := hi.p1
  have hp2 := hi.p2
  obtain ⟨m1, m2⟩ := mul_bd hn hn2 (by omega : 0 ≤ p) hp2
  go_enter Try.func46, Try.ntmps46
  go_wp2
  go_quiet (fail)
  go_wp2
  go_ret
  exact ⟨rfl, _, rfl⟩

theorem take_fn_yes {w : World} {b B T N U : Nat} {r p u l t n now : Int} (h : BkAt w b r p u l t) (hi : BkInv r p u l t) (hN : One w N (.int .i64 n) 3) (hB : One w B (.pointer (some ⟨b, 0, none⟩)) 27)
    (hT : One w T (.int .u64 now) 25) (hU : One w U (.bool false) 4) (hbU : b ≠ U)
    (v : Int) (hn : 0 ≤ n) (hn2 : n ≤ 1000000) (hv : n * p ≤ v) (hv2 : v ≤ 1000000000) :
    Calls Try.prog 46 #[.int .i64 v, .pointer (some ⟨N, 0, none⟩), .pointer (some ⟨B, 0, none⟩), .pointer (some ⟨T, 0, none⟩), .pointer (some ⟨U, 0, none⟩)] w fun e w' =>
      e = .returned (.int .i64 0) ∧ Fr [b, U] w w' ∧ BkAt w' b r p u (v - n * p) now ∧ One w' U (.bool true) 4 := by
  obtain ⟨c0, c1, c2, c3, c4, f3, f4⟩ := h.cells
  obtain ⟨d1, e1⟩ := hB.cell
  obtain ⟨d2, e2⟩ := hN.cell
  obtain ⟨d3, e3⟩ := hT.cell
  obtain ⟨d4, e4⟩ := hU.cell
  have hp := hi.p1
  have hp2 := hi.p2
  obtain ⟨m1, m2⟩ := mul_bd hn hn2 (by omega : 0 ≤ p) hp2
  go_enter Try.func46, Try.ntmps46
  go_wp2
  go_quiet (fail)
  go_wp2_with fail
  clear c0 c1 c2 c3 c4 f3 f4 d1 d2 d3 d4 e1 e2 e3 e4
  obtain ⟨wx, hx⟩ : ∃ wx, wx = w.drewN nq := ⟨_, rfl⟩
  rw [← hx]
  have h' : BkAt wx b r p u l t := by rw [hx]; exact h
  have hN' : One wx N (.int .i64 n) 3 := by rw [hx]; exact hN
  have hB' : One wx B (.pointer (some ⟨b, 0, none⟩)) 27 := by rw [hx]; exact hB
  have hT' : One wx T (.int .u64 now) 25 := by rw [hx]; exact hT
  have hU' : One wx U (.bool false) 4 := by rw [hx]; exact hU
  have HX := Lib.hid hx
  clear hx
  obtain ⟨c0, c1, c2, c3, c4, f3, f4⟩ := h'.cells
  obtain ⟨d1, e1⟩ := hB'.cell
  obtain ⟨d2, e2⟩ := hN'.cell
  obtain ⟨d3, e3⟩ := hT'.cell
  obtain ⟨d4, e4⟩ := hU'.cell
  have hfr : Fr [b, U] w wx := by rw [HX.out]; exact (Fr.refl _ _).drewN _
  go_region
  go_wp2
  go_ret
  refine ⟨rfl, (((hfr.setCell (.inl (by simp)) _).setCell (.inl (by simp)) _).setCell (.inl (by simp)) _).drew, ?_, ?_⟩
  · exact (heap_setCell_ne (a := ⟨U, 0, none⟩) hbU).trans (heap_setCell_eq (i := 4) (u := .int .u64 now) (heap_setCell_eq (i := 3) (u := .int .i64 (v - n * p)) h'))
  · exact heap_setCell_eq (i := 0) (u := .bool true) (((heap_setCell_ne (a := ⟨b, 4, none⟩) hbU.symm).trans (heap_setCell_ne (a := ⟨b, 3, none⟩) hbU.symm)).trans hU')

theorem reserve_fn_no {w : World} {b B T N U : Nat} {r p u l t n : Int} (h : BkAt w b r p u l t) (hi : BkInv r p u l t) (hN : One w N (.int .i64 n) 3) (hB : One w B (.pointer (some ⟨b, 0, none⟩)) 27) (v : Int) (hn : 0 ≤ n) (hn2 : n ≤ 1000000)
    (hv0 : -1000000000 ≤ v) (hv1 : v ≤ 1000000000) (hv : v - n * p < -1000000 * p) :
    Calls Try.prog 41 #[.int .i64 v, .pointer (some ⟨N, 0, none⟩), .pointer (some ⟨B, 0, none⟩), .pointer (some ⟨T, 0, none⟩), .pointer (some ⟨U, 0, none⟩)] w fun e w' =>
      e = .returned (.int .i64 7) ∧ ∃ k, w' = w.drewN k := by
  obtain ⟨c0, c1, c2, c3, c4, _, _⟩ := h.cells
  obtain ⟨d1, e1⟩ := hB.cell
  obtain ⟨d2, e2⟩ := hN.cell
  have hp := hi.p1
  have hp2 := hi.p2
  obtain ⟨m1, m2⟩ := mul_bd hn hn2 (by omega : 0 ≤ p) hp2
  go_enter Try.func41, Try.ntmps41
  go_wp2
  go_quiet (fail)
  go_wp2
  go_ret
  exact ⟨rfl, _, rfl⟩

end Go.Proofs.Ytdndabklcenndaa
