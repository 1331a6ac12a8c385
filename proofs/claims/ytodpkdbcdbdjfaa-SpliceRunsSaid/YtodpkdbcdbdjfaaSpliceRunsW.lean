/-
  Law 22: SpliceRuns: a whole splice, for any arguments.
-/
import Derived.Test.YtodpkdbcdbdjfaaSpliceRuns
namespace Go.Proofs.Ytodpkdbcdbdjfaa
open Go.RowKit
set_option maxRecDepth 100000

set_option maxHeartbeats 4000000 in
theorem spliceRuns_walk {za ya ta sa : Option Addr} {zl zc yl yc tl tc sl sc : Nat} (sg : Int) (w : World) (hsg : (Lit.int .u8 sg).wf = true) (hZ : ∃ l, Arg w w.heap.size za zl zc l) (hY : ∃ l, Arg w w.heap.size ya yl yc l) (hT : ∃ l, BoolsAt w w.heap.size ta tl tc l) (hS : ∃ l, Arg w w.heap.size sa sl sc l) :
    Calls Try.prog 9 #[.int .u8 sg, .slice za zl zc, .slice ya yl yc, .slice ta tl tc, .slice sa sl sc] w fun e w' => e = .returned (.bool true) ∧ Fr [] w w' := by
  obtain ⟨Z, hZ⟩ := hZ
  obtain ⟨Y, hY⟩ := hY
  obtain ⟨T, hT⟩ := hT
  obtain ⟨S, hS⟩ := hS
  have h1 := hZ.len_eq
  have h2 := hY.len_eq
  have h3 := hT.len_eq
  have h4 := hS.len_eq
  have m1 : (Z.length : Int) ≤ 9223372036854775807 := by have := hZ.le; have := hZ.cap_le; unfold maxLen at *; omega
  have m2 : (Y.length : Int) ≤ 9223372036854775807 := by have := hY.le; have := hY.cap_le; unfold maxLen at *; omega
  have m3 : (T.length : Int) ≤ 9223372036854775807 := by have := hT.cap_le; unfold maxLen at *; omega
  have m4 : (S.length : Int) ≤ 9223372036854775807 := by have := hS.le; have := hS.cap_le; unfold maxLen at *; omega
  subst h1 h2 h3 h4
  obtain ⟨b0, b1⟩ := wf_u8 hsg
  obtain ⟨sgn, rfl⟩ := Int.eq_ofNat_of_zero_le b0
  by_cases q0 : (sgn : Int) < 1
  · clear hZ hY hT hS
    go_enter Try.func9, Try.ntmps9
    go_wp2_with fail
    refine (known22 _).mono ?_
    rintro e w9 ⟨rfl, f9⟩
    go_wp2_with fail
    go_ret
    exact ⟨rfl, f9⟩
  by_cases q9 : (100 : Int) < sgn
  · clear hZ hY hT hS
    go_enter Try.func9, Try.ntmps9
    go_wp2_with fail
    refine (known22 _).mono ?_
    rintro e w9 ⟨rfl, f9⟩
    go_wp2_with fail
    go_ret
    exact ⟨rfl, f9⟩
  by_cases q18 : (200 : Int) < Z.length
  · clear hZ hY hT hS
    go_enter Try.func9, Try.ntmps9
    go_wp2_with fail
    refine (known22 _).mono ?_
    rintro e w9 ⟨rfl, f9⟩
    go_wp2_with fail
    go_ret
    exact ⟨rfl, f9⟩
  by_cases q27 : (200 : Int) < Y.length
  · clear hZ hY hT hS
    go_enter Try.func9, Try.ntmps9
    go_wp2_with fail
    refine (known22 _).mono ?_
    rintro e w9 ⟨rfl, f9⟩
    go_wp2_with fail
    go_ret
    exact ⟨rfl, f9⟩
  by_cases q36 : (40 : Int) < T.length
  · clear hZ hY hT hS
    go_enter Try.func9, Try.ntmps9
    go_wp2_with fail
    refine (known22 _).mono ?_
    rintro e w9 ⟨rfl, f9⟩
    go_wp2_with fail
    go_ret
    exact ⟨rfl, f9⟩
  by_cases q45 : (40 : Int) < S.length
  · clear hZ hY hT hS
    go_enter Try.func9, Try.ntmps9
    go_wp2_with fail
    refine (known22 _).mono ?_
    rintro e w9 ⟨rfl, f9⟩
    go_wp2_with fail
    go_ret
    exact ⟨rfl, f9⟩
  exact spliceRuns_main w (okS_iff.2 ⟨by omega, by omega, by omega, by omega⟩) (by omega) (by omega) hZ hY hT hS (by omega) (by omega) (by omega) (by omega)
end Go.Proofs.Ytodpkdbcdbdjfaa
