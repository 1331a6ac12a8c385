/-
  Law 14: StreamKinds: reads give what the streams of layers 12 and 13 give.
-/
import Derived.Test.YtdoamelhclnphaaStreamKinds0
import Derived.Test.YtdoamelhclnphaaStreamKinds1
namespace Go.Proofs.Ytdoamelhclnphaa
open Go.RowKit
set_option maxRecDepth 100000

set_option maxHeartbeats 4000000 in
theorem streamKinds_walk {wa ra : Option Addr} {wl wc rl rc : Nat} (cp : Int) (w : World) (hcp : (Lit.int .u8 cp).wf = true) (hW : ∃ P, PArg w w.heap.size wa wl wc P) (hR : ∃ l, Arg w w.heap.size ra rl rc l) :
    Calls Try.prog 10 #[.int .u8 cp, .slice wa wl wc, .slice ra rl rc] w fun e w' => e = .returned (.bool true) ∧ Fr [] w w' := by
  obtain ⟨Wr, hW⟩ := hW
  obtain ⟨Rd, hR⟩ := hR
  have h1 := hW.len_eq
  have h2 := hR.len_eq
  have m1 : (Wr.length : Int) ≤ 9223372036854775807 := by have := hW.le; have := hW.cap_le; unfold maxLen at *; omega
  have m2 : (Rd.length : Int) ≤ 9223372036854775807 := by have := hR.le; have := hR.cap_le; unfold maxLen at *; omega
  subst h1 h2
  obtain ⟨b0, b1⟩ := wf_u8 hcp
  obtain ⟨c, rfl⟩ := Int.eq_ofNat_of_zero_le b0
  by_cases hc : (100 : Int) < c
  · clear hW hR
    go_enter Try.func10, Try.ntmps10
    go_wp2_with fail
    refine (known14 _).mono ?_
    rintro e w9 ⟨rfl, f9⟩
    go_wp2_with fail
    go_ret
    exact ⟨rfl, f9⟩
  by_cases hwl : (10 : Int) < Wr.length
  · clear hW hR
    go_enter Try.func10, Try.ntmps10
    go_wp2_with fail
    refine (known14 _).mono ?_
    rintro e w9 ⟨rfl, f9⟩
    go_wp2_with fail
    go_ret
    exact ⟨rfl, f9⟩
  by_cases hrl : (30 : Int) < Rd.length
  · clear hW hR
    go_enter Try.func10, Try.ntmps10
    go_wp2_with fail
    refine (known14 _).mono ?_
    rintro e w9 ⟨rfl, f9⟩
    go_wp2_with fail
    go_ret
    exact ⟨rfl, f9⟩
  rcases Nat.eq_zero_or_pos c with h0 | h0
  · subst h0
    exact streamKinds_0 w hW hR (by omega) (by omega)
  · exact streamKinds_1 w h0 (by omega) hW hR (by omega) (by omega)
end Go.Proofs.Ytdoamelhclnphaa
