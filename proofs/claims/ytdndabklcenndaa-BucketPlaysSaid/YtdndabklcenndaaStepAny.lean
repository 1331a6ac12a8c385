/-
  step, whatever the call.
-/
import Derived.Test.YtdndabklcenndaaStepTake
import Derived.Test.YtdndabklcenndaaStepRes
import Derived.Test.YtdndabklcenndaaStepResY
import Derived.Test.YtdndabklcenndaaStepWait
import Derived.Test.YtdndabklcenndaaStepWaitY
import Derived.Test.YtdndabklcenndaaStepTok
import Derived.Test.YtdndabklcenndaaStepTok2
import Derived.Test.YtdndabklcenndaaStepCopy
namespace Go.Proofs.Ytdndabklcenndaa
open Go.RowKit

theorem step_bad {w : World} {b : Nat} {r p u l t now n k : Int} (h : BkAt w b r p u l t) (hi : BkInv r p u l t) (a : Int) (hm : now ≤ 18446744073709551615) (hk : Bad t now n k) (h1 : k ≠ 0) :
    Calls Try.prog 22 #[.pointer (some ⟨b, 0, none⟩), .agg #[.int .i64 r, .int .i64 p, .int .i64 u, .int .i64 l, .int .u64 t], .agg #[.int .i64 a, .int .u64 now, .int .i64 n]] w (StepPost r p u b w) := by
  have k0 : (k == 0) = false := by simpa using h1
  have k1 : (k != 0) = true := by simpa using h1
  by_cases a0 : a = 0
  · subst a0; exact step_take_bad h hi hk k0 k1
  by_cases a1 : a = 1
  · subst a1; exact step_reserve_bad h hi hk k0 k1
  by_cases a2 : a = 2
  · subst a2; exact step_wait_bad h hi hk k0 k1
  by_cases a3 : a = 3
  · subst a3
    by_cases ht : now < t ∨ now = 18446744073709551615
    · exact step_tokens_bad h hi hk k0 (.inr ⟨by omega, ht, rfl⟩)
    · exact step_tokens_ok1 h hi hk k0 (by omega) (by omega)
  · exact step_copy_bad h hi (by simpa using a0) (by simpa using a1) (by simpa using a2) (by simpa using a3) hk k0

theorem step_any {w : World} {b : Nat} {r p u l t : Int} (h : BkAt w b r p u l t) (hi : BkInv r p u l t) (a now n : Int) (hm : now ≤ 18446744073709551615) :
    Calls Try.prog 22 #[.pointer (some ⟨b, 0, none⟩), .agg #[.int .i64 r, .int .i64 p, .int .i64 u, .int .i64 l, .int .u64 t], .agg #[.int .i64 a, .int .u64 now, .int .i64 n]] w (StepPost r p u b w) := by
  by_cases hn : n < 0 ∨ 1000000 < n
  · exact step_bad (k := 2) h hi a hm (.inl ⟨hn, rfl⟩) (by omega)
  by_cases ht : now < t ∨ now = 18446744073709551615
  · exact step_bad (k := 3) h hi a hm (.inr ⟨by omega, ht, rfl⟩) (by omega)
  have n0 : 0 ≤ n := by omega
  have n1 : n ≤ 1000000 := by omega
  have t0 : t ≤ now := by omega
  have t1 : now < 18446744073709551615 := by omega
  by_cases a0 : a = 0
  · subst a0
    by_cases hv : n * p ≤ lvl r p u l t now
    · exact step_take_yes h hi n0 n1 t0 t1 hv
    · exact step_take_no h hi n0 n1 t0 t1 (by omega)
  by_cases a1 : a = 1
  · subst a1
    by_cases hv : -1000000 * p ≤ lvl r p u l t now - n * p
    · exact step_reserve_yes h hi n0 n1 t0 t1 hv
    · exact step_reserve_no h hi n0 n1 t0 t1 (by omega)
  by_cases a2 : a = 2
  · subst a2
    by_cases hv : n ≤ u
    · exact step_wait_yes h hi n0 n1 t0 t1 hv
    · exact step_wait_no h hi n0 n1 t0 t1 (by omega)
  by_cases a3 : a = 3
  · subst a3; exact step_tokens_ok2 h hi n0 n1 t0 t1
  · exact step_copy_ok h hi n0 n1 t0 t1 (by simpa using a0) (by simpa using a1) (by simpa using a2) (by simpa using a3)
end Go.Proofs.Ytdndabklcenndaa
