/-
  Reserve's closure, where it takes the tokens.
-/
import Derived.Test.YtdndabklcenndaaBucketOps
namespace Go.Proofs.Ytdndabklcenndaa
open Go.RowKit
set_option maxRecDepth 100000

theorem reserve_fn_yes {w : World} {b B T N U : Nat} {r p u l t n now : Int} (h : BkAt w b r p u l t) (hi : BkInv r p u l t) (hN : One w N (.int .i64 n) 3) (hB : One w B (.pointer (some ⟨b, 0, none⟩)) 27)
    (hT : One w T (.int .u64 now) 25) (hU : One w U (.int .u64 0) 25) (hbU : b ≠ U) (hBb : B ≠ b) (hTb : T ≠ b) (hBU : B ≠ U) (hTU : T ≠ U)
    (v : Int) (hn : 0 ≤ n) (hn2 : n ≤ 1000000) (hv0 : -1000000000 ≤ v) (hv1 : v ≤ 1000000000) (hv : -1000000 * p ≤ v - n * p) (ht0 : 0 ≤ now) (ht1 : now < 18446744073709551615) :
    Calls Try.prog 41 #[.int .i64 v, .pointer (some ⟨N, 0, none⟩), .pointer (some ⟨B, 0, none⟩), .pointer (some ⟨T, 0, none⟩), .pointer (some ⟨U, 0, none⟩)] w fun e w' =>
      e = .returned (.int .i64 0) ∧ Fr [b, U] w w' ∧ BkAt w' b r p u (v - n * p) now ∧ One w' U (.int .u64 (plusT now (tk r (max 0 (-(v - n * p)))))) 25 := by
  obtain ⟨c0, c1, c2, c3, c4, f3, f4⟩ := h.cells
  obtain ⟨d1, e1⟩ := hB.cell
  obtain ⟨d2, e2⟩ := hN.cell
  obtain ⟨d3, e3⟩ := hT.cell
  obtain ⟨d4, e4⟩ := hU.cell
  have hp := hi.p1
  have hp2 := hi.p2
  have hr := hi.r1
  have hr2 := hi.r2
  obtain ⟨m1, m2⟩ := mul_bd hn hn2 (by omega : 0 ≤ p) hp2
  go_enter Try.func41, Try.ntmps41
  go_wp2
  go_quiet (fail)
  go_wp2_with fail
  clear c0 c1 c2 c3 c4 f3 f4 d1 d2 d3 d4 e1 e2 e3 e4
  obtain ⟨wx, hx⟩ : ∃ wx, wx = w.drewN nq := ⟨_, rfl⟩
  rw [← hx]
  have h' : BkAt wx b r p u l t := by rw [hx]; exact h
  have hB' : One wx B (.pointer (some ⟨b, 0, none⟩)) 27 := by rw [hx]; exact hB
  have hT' : One wx T (.int .u64 now) 25 := by rw [hx]; exact hT
  have hU' : One wx U (.int .u64 0) 25 := by rw [hx]; exact hU
  have hfr : Fr [b, U] w wx := by rw [hx]; exact (Fr.refl _ _).drewN _
  clear hx
  obtain ⟨c0, c1, c2, c3, c4, f3, f4⟩ := h'.cells
  obtain ⟨d1, e1⟩ := hB'.cell
  obtain ⟨d3, e3⟩ := hT'.cell
  obtain ⟨d4, e4⟩ := hU'.cell
  go_region
  go_wp2
  have h2 : BkAt (((wx.setCell ⟨b, 3, none⟩ (.int .i64 (v - n * p))).setCell ⟨b, 4, none⟩ (.int .u64 now)).drew) b r p u (v - n * p) now := heap_setCell_eq (i := 4) (u := .int .u64 now) (heap_setCell_eq (i := 3) (u := .int .i64 (v - n * p)) h')
  have hB2 : One (((wx.setCell ⟨b, 3, none⟩ (.int .i64 (v - n * p))).setCell ⟨b, 4, none⟩ (.int .u64 now)).drew) B (.pointer (some ⟨b, 0, none⟩)) 27 := ((heap_setCell_ne (a := ⟨b, 4, none⟩) hBb).trans (heap_setCell_ne (a := ⟨b, 3, none⟩) hBb)).trans hB'
  have hT2 : One (((wx.setCell ⟨b, 3, none⟩ (.int .i64 (v - n * p))).setCell ⟨b, 4, none⟩ (.int .u64 now)).drew) T (.int .u64 now) 25 := ((heap_setCell_ne (a := ⟨b, 4, none⟩) hTb).trans (heap_setCell_ne (a := ⟨b, 3, none⟩) hTb)).trans hT'
  have hU2 : One (((wx.setCell ⟨b, 3, none⟩ (.int .i64 (v - n * p))).setCell ⟨b, 4, none⟩ (.int .u64 now)).drew) U (.int .u64 0) 25 := ((heap_setCell_ne (a := ⟨b, 4, none⟩) hbU.symm).trans (heap_setCell_ne (a := ⟨b, 3, none⟩) hbU.symm)).trans hU'
  have hfr2 : Fr [b, U] w (((wx.setCell ⟨b, 3, none⟩ (.int .i64 (v - n * p))).setCell ⟨b, 4, none⟩ (.int .u64 now)).drew) := ((hfr.setCell (.inl (by simp)) _).setCell (.inl (by simp)) _).drew
  clear c0 c1 c2 c3 c4 f3 f4 d1 d3 d4 e1 e3 e4 h' hB' hT' hU' hfr
  generalize ((wx.setCell ⟨b, 3, none⟩ (.int .i64 (v - n * p))).setCell ⟨b, 4, none⟩ (.int .u64 now)).drew = wy at *
  obtain ⟨d1, e1⟩ := hB2.cell
  obtain ⟨d3, e3⟩ := hT2.cell
  obtain ⟨d4, e4⟩ := hU2.cell
  by_cases hq : v - n * p < 0
  · have hm : max 0 (-(v - n * p)) = -(v - n * p) := by omega
    have HM := Lib.hid hm
    have k0 : 0 ≤ tk r (-(v - n * p)) := tk_nonneg hr (by omega)
    have k1 : tk r (-(v - n * p)) ≤ 4000000000 := Int.le_trans (tk_bd hr (by omega)) (by omega)
    have hq' : 0 < -(v - n * p) := by omega
    have g0 : 0 ≤ -(v - n * p) := by omega
    have g1 : -(v - n * p) ≤ 4000000000 := by omega
    have k2 : tk r (-(v - n * p)) ≤ 18446744073709551615 := by omega
    have ht1' : now ≤ 18446744073709551615 := by omega
    have x1 : IntKind.i64.wrap (-(v - n * p)) = -(v - n * p) := IntWalk.i64_in _ (by omega)
    have x2 : IntKind.u64.wrap (tk r (-(v - n * p))) = tk r (-(v - n * p)) := IntWalk.u64_in _ (by omega)
    have y1 := hBU.symm
    have y2 := hTU.symm
    clear hm
    go_region_held3 (fun w' => w'.cell? ⟨B, 0, none⟩ = some (.pointer (some ⟨b, 0, none⟩)) ∧ w'.cell? ⟨T, 0, none⟩ = some (.int .u64 now)) (go_keep)
      (first
        | (go_at_call 43; refine (ticks_any (b := b) (r := r) (p := p) (u := u) (l := v - n * p) (t := now) (by exact h2) hr hr2 _ g0 g1).mono ?_; rintro e w' ⟨rfl, k, rfl⟩)
        | (go_at_call 42; refine (add_any _ _ _ ht0 ht1' k0 k2).mono ?_; rintro e w' ⟨rfl, rfl⟩))
    clear x1 x2
    go_wp2
    go_ret
    rw [HM.out]
    refine ⟨rfl, (hfr2.drewN _).setCell (.inl (by simp)) _, ?_, ?_⟩
    · exact (heap_setCell_ne (a := ⟨U, 0, none⟩) hbU).trans h2
    · exact heap_setCell_eq (w := wy.drewN _) (i := 0) hU2
  · have hm : max 0 (-(v - n * p)) = 0 := by omega
    have HM := Lib.hid hm
    have k0 : 0 ≤ tk r 0 := tk_nonneg hr (by omega)
    have k1 : tk r 0 ≤ 4000000000 := Int.le_trans (tk_bd hr (by omega)) (by omega)
    have hq' : -(v - n * p) ≤ 0 := by omega
    have hq2 : ¬ 0 < -(v - n * p) := by omega
    have g0 : (0 : Int) ≤ 0 := by omega
    have g1 : (0 : Int) ≤ 4000000000 := by omega
    have k2 : tk r 0 ≤ 18446744073709551615 := by omega
    have ht1' : now ≤ 18446744073709551615 := by omega
    have x1 : IntKind.i64.wrap (-(v - n * p)) = -(v - n * p) := IntWalk.i64_in _ (by omega)
    have x2 : IntKind.u64.wrap (tk r 0) = tk r 0 := IntWalk.u64_in _ (by omega)
    have y1 := hBU.symm
    have y2 := hTU.symm
    clear hm
    go_region_held3 (fun w' => w'.cell? ⟨B, 0, none⟩ = some (.pointer (some ⟨b, 0, none⟩)) ∧ w'.cell? ⟨T, 0, none⟩ = some (.int .u64 now)) (go_keep)
      (first
        | (go_at_call 43; refine (ticks_any (b := b) (r := r) (p := p) (u := u) (l := v - n * p) (t := now) (by exact h2) hr hr2 _ g0 g1).mono ?_; rintro e w' ⟨rfl, k, rfl⟩)
        | (go_at_call 42; refine (add_any _ _ _ ht0 ht1' k0 k2).mono ?_; rintro e w' ⟨rfl, rfl⟩))
    clear x1 x2
    go_wp2
    go_ret
    rw [HM.out]
    refine ⟨rfl, (hfr2.drewN _).setCell (.inl (by simp)) _, ?_, ?_⟩
    · exact (heap_setCell_ne (a := ⟨U, 0, none⟩) hbU).trans h2
    · exact heap_setCell_eq (w := wy.drewN _) (i := 0) hU2
end Go.Proofs.Ytdndabklcenndaa
