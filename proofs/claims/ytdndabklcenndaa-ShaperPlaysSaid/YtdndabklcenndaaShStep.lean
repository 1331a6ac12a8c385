/-
  Law 41: step, for any call.
-/
import Derived.Test.YtdndabklcenndaaShStepC
import Derived.Test.YtdndabklcenndaaShStepR
import Derived.Test.YtdndabklcenndaaShStepR0
import Derived.Test.YtdndabklcenndaaShStepS0
import Derived.Test.YtdndabklcenndaaShStepX
namespace Go.Proofs.Ytdndabklcenndaa
open Go.RowKit
set_option maxRecDepth 100000

def stepH (s : SH) (what now : Int) (data : List UInt8) (n : Int) : SH := if what = 0 then sendH s now data else if what = 1 then recvS s now n else if what = 3 then closeH s now else s
theorem stepH_ok {s : SH} (h : SHOk s) {what now n : Int} {data : List UInt8} (h0 : 0 ≤ now) (h1 : now ≤ 18446744073709551615) : SHOk (stepH s what now data n) ∧ (SHS s → SHS (stepH s what now data n)) := by
  by_cases hw : now < s.last ∨ now = 18446744073709551615
  · have key : stepH s what now data n = s := by
      have hm : ∀ r, mayE s now r ≠ 0 := fun r => by
        unfold mayE
        by_cases hr : r = false
        · rw [if_pos hr]; decide
        · rw [if_neg hr, if_pos hw]; decide
      unfold stepH
      split
      · unfold sendH; rw [if_pos (by unfold sendE; rw [if_pos (hm _)]; exact hm _)]
      · split
        · unfold recvS; rw [if_pos (by unfold recvE; rw [if_pos (hm _)]; exact hm _)]
        · split
          · unfold closeH; rw [if_pos (by unfold closeE41; rw [if_pos (hm _)]; exact hm _)]
          · rfl
    rw [key]
    exact ⟨h, id⟩
  · have hl : s.last ≤ now := by omega
    have hx : now < 18446744073709551615 := by omega
    unfold stepH
    split
    · exact ⟨sendH_ok h data h0 h1, fun hs => sendH_sorted hs h hl data⟩
    · split
      · unfold recvS
        split
        · exact ⟨h, id⟩
        · exact ⟨recvH_ok h _ hl hx, fun hs => recvH_sorted hs now _⟩
      · split
        · refine ⟨?_, fun hs => closeH_sorted hs h hl⟩
          unfold closeH
          split
          · exact h
          · obtain ⟨a1, a2, a3, a4, a5, a6, a7, a8, a9, a10, a11, a12, a13⟩ := h
            have hat := atH_bd ⟨a1, a2, a3, a4, a5, a6, a7, a8, a9, a10, a11, a12, a13⟩ now 0 h0
            have hv := of_decide_eq_true (room41_zero a1 (now := now) (by omega))
            unfold lvH at hv
            exact ⟨inv_reserved a1 (by omega) (by omega) hx hv, a2, a3, a4, a5, a6, h0, hx, Int.le_refl _, a10, a11, hat.1, hat.2⟩
        · exact ⟨h, id⟩

theorem step41 {w : World} {L : List Nat} {b k mb : Nat} {s : SH} {v : Value} (h : Shp w L b k s) (hS : SHS s) {Lm : List Nat} (hm : Md w Lm mb s v) (hLm : ∀ y ∈ L, y ∈ Lm) (hLo : ∀ y ∈ Lm, y < w.heap.size) {pa : Option Addr} {pc : Nat} {data : List UInt8} (hd : Sl w pa (bi data)) (hdo : ∀ b' o', 0 < data.length → pa = some ⟨b', o', none⟩ → b' ∉ L ∧ b' ≠ mb) (hdl : data.length ≤ 100) (hpc : data.length ≤ pc) {now : Int} (h0 : 0 ≤ now) (h1 : now ≤ 18446744073709551615) (what n : Int) :
    Calls Try.prog 36 #[.pointer (some ⟨b, 0, none⟩), v, .agg #[.int .i64 what, .int .u64 now, .slice pa data.length pc, .int .i64 n]] w (Step41 w L Lm mb (stepH s what now data n)) := by
  unfold stepH
  by_cases hw : now < s.last ∨ now = 18446744073709551615
  · by_cases e0 : what = 0
    · subst e0
      exact step41_s3 h hm hLm hLo hd hdo hdl hpc h0 h1 hw
    · by_cases e1 : what = 1
      · subst e1
        rw [if_neg e0, if_pos rfl]
        by_cases hn : n < 0
        · exact step41_r2wn h hm hLm hLo hd hdo hdl hpc h0 h1 hw hn
        · by_cases hn1 : 65536 < n
          · exact step41_r2wp h hm hLm hLo hd hdo hdl hpc h0 h1 hw hn1
          · exact step41_r3 h hm hLm hLo hd hdo hdl hpc h0 h1 hw (by omega) (by omega)
      · by_cases e3 : what = 3
        · subst e3
          rw [if_neg e0, if_neg e1, if_pos rfl]
          exact step41_c3 h hm hLm hLo hd hdo hdl hpc h0 h1 hw
        · rw [if_neg e0, if_neg e1, if_neg e3]
          by_cases e2 : what = 2
          · subst e2
            exact step41_y3 h hm hLm hLo hd hdo hdl hpc h0 h1 hw
          · exact step41_xw h hm hLm hLo hd hdo hdl hpc h0 h1 hw (by simpa using e0) (by simpa using e1) (by simpa using e2) (by simpa using e3)
  · have hl : s.last ≤ now := by omega
    have hx : now < 18446744073709551615 := by omega
    by_cases e0 : what = 0
    · subst e0
      rw [if_pos rfl]
      cases hc : s.closed with
      | true => exact step41_s14 h hm hLm hLo hd hdo hdl hpc h0 h1 hl hx hc
      | false =>
        by_cases hz : data.length = 0
        · exact step41_s0 h hm hLm hLo hd hdo hdl hpc h0 h1 hl hx hc hz
        · by_cases hr : sendN s data.length = 0
          · exact step41_s7 h hm hLm hLo hd hdo hdl hpc h0 h1 hl hx hc hr (by omega)
          · cases hv : roomH s now (sendN s data.length) with
            | false => exact step41_s7b h hm hLm hLo hd hdo hdl hpc h0 h1 hl hx hc (by omega) hv
            | true => exact step41_sy h hm hLm hLo hd hdo hdl hpc h0 h1 hl hx hc (by omega) hv
    · by_cases e1 : what = 1
      · subst e1
        rw [if_neg e0, if_pos rfl]
        by_cases hn : n < 0
        · exact step41_r2on h hm hLm hLo hd hdo hdl hpc h0 h1 hl hx hn
        · by_cases hn1 : 65536 < n
          · exact step41_r2op h hm hLm hLo hd hdo hdl hpc h0 h1 hl hx hn1
          · by_cases he : s.closed = true ∧ s.segs = [] ∧ s.fin ≤ now
            · exact step41_r13 h hm hLm hLo hd hdo hdl hpc h0 h1 hl hx (by omega) (by omega) he.1 he.2.1 he.2.2
            · obtain ⟨m, rfl⟩ := Int.eq_ofNat_of_zero_le (a := n) (by omega)
              exact step41_r0 h hm hLm hLo hd hdo hdl hpc h0 h1 hl hx (by omega) he
      · by_cases e3 : what = 3
        · subst e3
          rw [if_neg e0, if_neg e1, if_pos rfl]
          cases hc : s.closed with
          | true => exact step41_c14 h hm hLm hLo hd hdo hdl hpc h0 h1 hl hx hc
          | false => exact step41_c0 h hm hLm hLo hd hdo hdl hpc h0 h1 hl hx hc
        · rw [if_neg e0, if_neg e1, if_neg e3]
          by_cases e2 : what = 2
          · subst e2
            exact step41_y0 h hm hLm hLo hd hdo hdl hpc h0 h1 hS hl hx
          · exact step41_xo h hm hLm hLo hd hdo hdl hpc h0 h1 hl hx (by simpa using e0) (by simpa using e1) (by simpa using e2) (by simpa using e3)
end Go.Proofs.Ytdndabklcenndaa
