/-
  Package flow: Write at every stream and rope.
-/
import Derived.Test.YtdoamelhclnphaaFlWrite
namespace Go.Proofs.Ytdoamelhclnphaa
open Go.RowKit
set_option maxRecDepth 100000

section
variable {w : World} {b R D : Nat} {m : FM} {N : Nat → Prop} {a : Option Addr} {cap : Nat} {P : Parts}
def FNPost (b R D : Nat) (r : FNR) (w : World) (e : Ending) (w' : World) : Prop :=
  e = .returned (.tuple #[.int .i64 r.n, .int .i64 r.err]) ∧ Fr [R, D] w w' ∧ Fl w' b R D r.m

set_option maxHeartbeats 1000000 in
theorem flow_write (h : Fl w b R D m) {v : Value} (hr : Rp w N v P) (hNR : ¬ N R) (hND : ¬ N D) :
    Calls Try.prog 98 #[.pointer (some ⟨b, 0, none⟩), v] w (FNPost b R D (fWrite m P.flatten) w) := by
  obtain ⟨a, cap, rfl, _⟩ := id hr
  have hft : P.flatten = [] ↔ tot P = 0 := tot_flat P
  by_cases h1 : m.r ≠ 0
  · have e : fWrite m P.flatten = ⟨m, 0, m.r⟩ := by unfold fWrite; rw [if_pos h1]
    rw [e]
    obtain ⟨w0, e0, f0, h0, r0, x0, x1, z0⟩ := write_start h hr hNR hND
    obtain ⟨c0, c1, c2, g0, g1, g2⟩ := h0.fb.cells
    have d0 : w0.cell? ⟨w.heap.size, 0, none⟩ = some (.pointer (some ⟨b, 0, none⟩)) := cell_of x0
    obtain ⟨n1, n2⟩ := ne0 h1
    have HH := Lib.hid (And.intro h f0)
    clear e h h1 hft r0 f0 hr
    go_enter Try.func98, Try.ntmps98
    go_wp2_with fail
    rw [← e0]
    clear e0
    refine (flow_zero h0).mono ?_
    rintro e w' ⟨rfl, rfl⟩
    go_wp2_with fail
    go_quiet (fail)
    go_wp2_with fail
    go_ret2
    exact ⟨rfl, ((HH.out.2).drewN _).mono (by simp), (HH.out.1.keep0 HH.out.2).keep0 ((Fr.refl _ _).drewN _)⟩
  have h1' : m.r = 0 := by omega
  by_cases h2 : m.w ≠ 0
  · have e : fWrite m P.flatten = ⟨m, 0, 14⟩ := by unfold fWrite; rw [if_neg h1, if_pos h2]
    rw [e]
    obtain ⟨w0, e0, f0, h0, r0, x0, x1, z0⟩ := write_start h hr hNR hND
    obtain ⟨c0, c1, c2, g0, g1, g2⟩ := h0.fb.cells
    rw [h1'] at c2
    have d0 : w0.cell? ⟨w.heap.size, 0, none⟩ = some (.pointer (some ⟨b, 0, none⟩)) := cell_of x0
    obtain ⟨n1, n2⟩ := ne0 h2
    have HH := Lib.hid (And.intro h f0)
    clear e h h1 h1' h2 hft r0 f0 hr
    go_enter Try.func98, Try.ntmps98
    go_wp2_with fail
    rw [← e0]
    clear e0
    refine (flow_zero h0).mono ?_
    rintro e w' ⟨rfl, rfl⟩
    go_wp2_with fail
    go_ret2
    exact ⟨rfl, HH.out.2.mono (by simp), HH.out.1.keep0 HH.out.2⟩
  have h2' : m.w = 0 := by omega
  by_cases h3 : tot P = 0
  · have e : fWrite m P.flatten = ⟨m, 0, 0⟩ := by unfold fWrite; rw [if_neg h1, if_neg h2, if_pos (hft.2 h3)]
    rw [e]
    obtain ⟨w0, e0, f0, h0, r0, x0, x1, z0⟩ := write_start h hr hNR hND
    obtain ⟨c0, c1, c2, g0, g1, g2⟩ := h0.fb.cells
    rw [h1'] at c2
    rw [h2'] at c1
    have d0 : w0.cell? ⟨w.heap.size, 0, none⟩ = some (.pointer (some ⟨b, 0, none⟩)) := cell_of x0
    have d1 : w0.cell? ⟨w.heap.size + 1, 0, none⟩ = some (.slice a P.length cap) := cell_of x1
    have d2 : w0.cell? ⟨w.heap.size + 1, 1, none⟩ = some (.int .i64 (tot P)) := cell_of x1
    have HH := Lib.hid (And.intro h f0)
    have h3' : ((tot P : Int) == 0) = true := by rw [beq_iff_eq]; omega
    clear e h h1 h1' h2 h2' h3 hft r0 f0 hr
    go_enter Try.func98, Try.ntmps98
    go_wp2_with fail
    rw [← e0]
    clear e0
    refine (flow_zero h0).mono ?_
    rintro e w' ⟨rfl, rfl⟩
    go_wp2_with fail
    refine (len_raw _ _ _ _).mono ?_
    rintro e w1 ⟨rfl, f1⟩
    go_wp2_with fail
    go_ret2
    have f2 := HH.out.2.then0 f1
    exact ⟨rfl, f2.mono (by simp), HH.out.1.keep0 f2⟩
  have hp : 0 < tot P := by omega
  have hbd := h.bd
  by_cases h4 : m.s.length = m.c
  · have e : fWrite m P.flatten = ⟨m, 0, 16⟩ := by unfold fWrite; rw [if_neg h1, if_neg h2, if_neg (fun x => h3 (hft.1 x)), if_pos h4]
    rw [e]
    obtain ⟨w0, e0, f0, h0, r0, x0, x1, z0⟩ := write_start h hr hNR hND
    have HH := Lib.hid (And.intro h f0)
    have h3' : ((tot P : Int) == 0) = false := by rw [beq_eq_false_iff_ne]; omega
    have h4' : (m.c : Int) - m.s.length = 0 := by omega
    have H4 := Lib.hid h4'
    have HX := Lib.hid (And.intro h0 (And.intro h1' h2'))
    clear e h h1 h1' h2 h2' h3 h4 h4' hft r0 f0 hr
    have d0 : w0.cell? ⟨w.heap.size, 0, none⟩ = some (.pointer (some ⟨b, 0, none⟩)) := cell_of x0
    have d1 : w0.cell? ⟨w.heap.size + 1, 0, none⟩ = some (.slice a P.length cap) := cell_of x1
    have d2 : w0.cell? ⟨w.heap.size + 1, 1, none⟩ = some (.int .i64 (tot P)) := cell_of x1
    obtain ⟨c0, c1, c2, g0, g1, g2⟩ := h0.fb.cells
    rw [HX.out.2.1] at c2
    rw [HX.out.2.2] at c1
    go_enter Try.func98, Try.ntmps98
    go_wp2_with fail
    rw [← e0]
    clear e0
    refine (flow_zero h0).mono ?_
    rintro e w' ⟨rfl, rfl⟩
    go_wp2_with fail
    refine (len_raw _ _ _ _).mono ?_
    rintro e w1 ⟨rfl, f1⟩
    have h1 := h0.keep0 f1
    have k0 := f1.keep x0 (by simp)
    clear c0 c1 c2 g0 g1 g2 d0 d1 d2
    obtain ⟨c0, c1, c2, g0, g1, g2⟩ := h1.fb.cells
    rw [HX.out.2.1] at c2
    rw [HX.out.2.2] at c1
    have d0 : w1.cell? ⟨w.heap.size, 0, none⟩ = some (.pointer (some ⟨b, 0, none⟩)) := cell_of k0
    have hF := rg_free h1.rg
    rw [bi_length, H4.out] at hF
    go_wp2_with fail
    refine hF.mono ?_
    rintro e w' ⟨rfl, rfl⟩
    go_wp2_with fail
    go_ret2
    have f2 := HH.out.2.then0 f1
    exact ⟨rfl, f2.mono (by simp), HH.out.1.keep0 f2⟩
  · have e : fWrite m P.flatten = ⟨⟨m.c, m.s ++ P.flatten.take (m.c - m.s.length), m.w, m.r⟩, min P.flatten.length (m.c - m.s.length), 0⟩ := by unfold fWrite; rw [if_neg h1, if_neg h2, if_neg (fun x => h3 (hft.1 x)), if_neg h4]
    rw [e, h1', h2']
    exact flow_write_ok h h1' h2' hr hNR hND hp (by omega)
end
end Go.Proofs.Ytdoamelhclnphaa
