/-
  Wait's closure.
-/
import Derived.Test.YtdndabklcenndaaBucketOps
namespace Go.Proofs.Ytdndabklcenndaa
open Go.RowKit
set_option maxRecDepth 100000

theorem wait_fn_no {w : World} {b B T N U : Nat} {r p u l t n : Int} (h : BkAt w b r p u l t) (hN : One w N (.int .i64 n) 3) (hB : One w B (.pointer (some ⟨b, 0, none⟩)) 27) (v : Int) (hn : u < n) :
    Calls Try.prog 45 #[.int .i64 v, .pointer (some ⟨N, 0, none⟩), .pointer (some ⟨B, 0, none⟩), .pointer (some ⟨T, 0, none⟩), .pointer (some ⟨U, 0, none⟩)] w fun e w' =>
      e = .returned (.int .i64 9) ∧ ∃ k, w' = w.drewN k := by
  obtain ⟨c0, c1, c2, c3, c4, _, _⟩ := h.cells
  obtain ⟨d1, e1⟩ := hB.cell
  obtain ⟨d2, e2⟩ := hN.cell
  go_enter Try.func45, Try.ntmps45
  go_wp2
  go_quiet (fail)
  go_wp2
  go_ret
  exact ⟨rfl, _, rfl⟩

theorem wait_fn_yes {w : World} {b B T N U : Nat} {r p u l t n now : Int} (h : BkAt w b r p u l t) (hi : BkInv r p u l t) (hN : One w N (.int .i64 n) 3) (hB : One w B (.pointer (some ⟨b, 0, none⟩)) 27)
    (hT : One w T (.int .u64 now) 25) (hU : One w U (.int .u64 0) 25) (hbU : b ≠ U) (hNU : N ≠ U) (hBU : B ≠ U) (hTU : T ≠ U)
    (v : Int) (hn : 0 ≤ n) (hn2 : n ≤ 1000000) (hv0 : -1000000000 ≤ v) (hv1 : v ≤ 1000000000) (hnu : n ≤ u) (ht0 : 0 ≤ now) (ht1 : now < 18446744073709551615) :
    Calls Try.prog 45 #[.int .i64 v, .pointer (some ⟨N, 0, none⟩), .pointer (some ⟨B, 0, none⟩), .pointer (some ⟨T, 0, none⟩), .pointer (some ⟨U, 0, none⟩)] w fun e w' =>
      e = .returned (.int .i64 0) ∧ Fr [U] w w' ∧ One w' U (.int .u64 (plusT now (tk r (max 0 (n * p - v))))) 25 := by
  obtain ⟨c0, c1, c2, c3, c4, f3, f4⟩ := h.cells
  obtain ⟨d1, e1⟩ := hB.cell
  obtain ⟨d2, e2⟩ := hN.cell
  have hp := hi.p1
  have hp2 := hi.p2
  have hr := hi.r1
  have hr2 := hi.r2
  obtain ⟨m1, m2⟩ := mul_bd hn hn2 (by omega : 0 ≤ p) hp2
  go_enter Try.func45, Try.ntmps45
  go_wp2
  go_quiet (fail)
  go_wp2_with fail
  clear c0 c1 c2 c3 c4 f3 f4 d1 d2 e1 e2
  obtain ⟨wx, hx⟩ : ∃ wx, wx = w.drewN nq := ⟨_, rfl⟩
  rw [← hx]
  have h' : BkAt wx b r p u l t := by rw [hx]; exact h
  have hN' : One wx N (.int .i64 n) 3 := by rw [hx]; exact hN
  have hB' : One wx B (.pointer (some ⟨b, 0, none⟩)) 27 := by rw [hx]; exact hB
  have hT' : One wx T (.int .u64 now) 25 := by rw [hx]; exact hT
  have hU' : One wx U (.int .u64 0) 25 := by rw [hx]; exact hU
  have hfr : Fr [U] w wx := by rw [hx]; exact (Fr.refl _ _).drewN _
  clear hx
  obtain ⟨c0, c1, c2, c3, c4, f3, f4⟩ := h'.cells
  obtain ⟨d1, e1⟩ := hB'.cell
  obtain ⟨d2, e2⟩ := hN'.cell
  obtain ⟨d3, e3⟩ := hT'.cell
  obtain ⟨d4, e4⟩ := hU'.cell
  have ht1' : now ≤ 18446744073709551615 := by omega
  have y1 := hBU.symm
  have y2 := hTU.symm
  have y3 := hNU.symm
  have y4 := hbU.symm
  by_cases hq : v < n * p
  · have hm : max 0 (n * p - v) = n * p - v := by omega
    have HM := Lib.hid hm
    clear hm
    have k0 : 0 ≤ tk r (n * p - v) := tk_nonneg hr (by omega)
    have k1 : tk r (n * p - v) ≤ 4000000000 := Int.le_trans (tk_bd hr (by omega)) (by omega)
    have g0 : 0 ≤ n * p - v := by omega
    have g1 : n * p - v ≤ 4000000000 := by omega
    have k2 : tk r (n * p - v) ≤ 18446744073709551615 := by omega
    have x0 : IntKind.i64.wrap (n * p) = n * p := IntWalk.i64_in _ (by omega)
    have x1 : IntKind.i64.wrap (n * p - v) = n * p - v := IntWalk.i64_in _ (by omega)
    have x2 : IntKind.u64.wrap (tk r (n * p - v)) = tk r (n * p - v) := IntWalk.u64_in _ (by omega)
    go_region_held3 (fun w' => w'.cell? ⟨B, 0, none⟩ = some (.pointer (some ⟨b, 0, none⟩)) ∧ w'.cell? ⟨T, 0, none⟩ = some (.int .u64 now) ∧ w'.cell? ⟨N, 0, none⟩ = some (.int .i64 n) ∧ w'.cell? ⟨b, 1, none⟩ = some (.int .i64 p)) (go_keep)
      (first
        | (go_at_call 43; refine (ticks_any (b := b) (r := r) (p := p) (u := u) (l := l) (t := t) (by exact h') hr hr2 _ g0 g1).mono ?_; rintro e w' ⟨rfl, k, rfl⟩)
        | (go_at_call 42; refine (add_any _ _ _ ht0 ht1' k0 k2).mono ?_; rintro e w' ⟨rfl, rfl⟩))
    clear x0 x1 x2
    go_wp2
    go_ret
    rw [HM.out]
    refine ⟨rfl, (hfr.drewN _).setCell (.inl (by simp)) _, ?_⟩
    exact heap_setCell_eq (w := wx.drewN _) (i := 0) hU'
  · have hq2 : n * p ≤ v := by omega
    have hm : max 0 (n * p - v) = 0 := by omega
    have HM := Lib.hid hm
    clear hm
    have k0 : 0 ≤ tk r 0 := tk_nonneg hr (by omega)
    have k1 : tk r 0 ≤ 4000000000 := Int.le_trans (tk_bd hr (by omega)) (by omega)
    have g0 : (0 : Int) ≤ 0 := by omega
    have g1 : (0 : Int) ≤ 4000000000 := by omega
    have k2 : tk r 0 ≤ 18446744073709551615 := by omega
    have x0 : IntKind.i64.wrap (n * p) = n * p := IntWalk.i64_in _ (by omega)
    have x1 : IntKind.i64.wrap (n * p - v) = n * p - v := IntWalk.i64_in _ (by omega)
    have x2 : IntKind.u64.wrap (tk r 0) = tk r 0 := IntWalk.u64_in _ (by omega)
    go_region_held3 (fun w' => w'.cell? ⟨B, 0, none⟩ = some (.pointer (some ⟨b, 0, none⟩)) ∧ w'.cell? ⟨T, 0, none⟩ = some (.int .u64 now) ∧ w'.cell? ⟨N, 0, none⟩ = some (.int .i64 n) ∧ w'.cell? ⟨b, 1, none⟩ = some (.int .i64 p)) (go_keep)
      (first
        | (go_at_call 43; refine (ticks_any (b := b) (r := r) (p := p) (u := u) (l := l) (t := t) (by exact h') hr hr2 _ g0 g1).mono ?_; rintro e w' ⟨rfl, k, rfl⟩)
        | (go_at_call 42; refine (add_any _ _ _ ht0 ht1' k0 k2).mono ?_; rintro e w' ⟨rfl, rfl⟩))
    clear x0 x1 x2
    go_wp2
    go_ret
    rw [HM.out]
    refine ⟨rfl, (hfr.drewN _).setCell (.inl (by simp)) _, ?_⟩
    exact heap_setCell_eq (w := wx.drewN _) (i := 0) hU'
end Go.Proofs.Ytdndabklcenndaa
