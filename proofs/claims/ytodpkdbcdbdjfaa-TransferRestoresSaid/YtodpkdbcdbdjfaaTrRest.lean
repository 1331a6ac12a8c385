/-
  Law 21: Restore, of transfer and of the reference.
-/
import Derived.Test.YtodpkdbcdbdjfaaTrStep
namespace Go.Proofs.Ytodpkdbcdbdjfaa
open Go.RowKit
set_option maxRecDepth 100000

/-- Whether a transfer may be restored. -/
def okR (sg lm wr : Int) (n : Nat) (en : Int) : Bool := okS sg lm && decide (0 ≤ wr ∧ wr ≤ 1099511627776 ∧ (n : Int) ≤ sg ∧ (lm = -1 ∨ wr + n ≤ lm)) && (decide (en = 0) || codeE en)
def restoreT (sg lm wr : Int) (s : List UInt8) (en : Int) : TS := ⟨sg, lm, wr + s.length, wr, s, en, 0⟩
theorem okR_iff {sg lm wr : Int} {n : Nat} {en : Int} (h : okR sg lm wr n en = true) : okS sg lm = true ∧ 0 ≤ wr ∧ wr ≤ 1099511627776 ∧ (n : Int) ≤ sg ∧ (lm = -1 ∨ wr + n ≤ lm) ∧ (en = 0 ∨ codeE en = true) := by
  simp only [okR, Bool.and_eq_true, Bool.or_eq_true, decide_eq_true_iff] at h
  exact ⟨h.1.1, h.1.2.1, h.1.2.2.1, h.1.2.2.2.1, h.1.2.2.2.2, h.2⟩
theorem restoreT_ok {sg lm wr : Int} {s : List UInt8} {en : Int} (h : okR sg lm wr s.length en = true) : TOk (restoreT sg lm wr s en) := by
  obtain ⟨h1, h2, h3, h4, h5, _⟩ := okR_iff h
  obtain ⟨k1, k2, k3, k4⟩ := okS_iff.1 h1
  exact ⟨k1, k2, k3, k4, h2, rfl, h4, h5⟩

set_option maxHeartbeats 4000000 in
theorem tr_restore_bad (w : World) {sg lm wr : Int} {pa : Option Addr} {n pc : Nat} {en : Int} (hn : n ≤ 1000000) (hw : -9223372036854775808 ≤ wr ∧ wr ≤ 9223372036854775807) (h : okR sg lm wr n en = false) :
    Calls Try.prog 27 #[.int .i64 sg, .int .i64 lm, .int .i64 wr, .slice pa n pc, .int .i64 en] w fun e w' => e = .returned (.tuple #[.pointer none, .int .i64 2]) ∧ w = w' := by
  have HA := fun w => tallowed w sg lm
  by_cases h1 : okS sg lm = true
  rotate_left
  · rw [show okS sg lm = false from by simpa using h1] at HA
    replace HA := Lib.hid HA
    clear h1 h hw
    go_enter Try.func27, Try.ntmps27
    go_wp2_with fail
    refine (HA.out _).mono ?_
    rintro e w' ⟨rfl, rfl⟩
    go_wp2_with fail
    go_ret2
    exact ⟨rfl, rfl⟩
  rw [h1] at HA
  replace HA := Lib.hid HA
  by_cases h2 : wr < 0
  · clear h1 h hw
    go_enter Try.func27, Try.ntmps27
    go_wp2_with fail
    refine (HA.out _).mono ?_
    rintro e w' ⟨rfl, rfl⟩
    go_wp2_with fail
    go_ret2
    exact ⟨rfl, rfl⟩
  by_cases h3 : 1099511627776 < wr
  · clear h1 h hw
    go_enter Try.func27, Try.ntmps27
    go_wp2_with fail
    refine (HA.out _).mono ?_
    rintro e w' ⟨rfl, rfl⟩
    go_wp2_with fail
    go_ret2
    exact ⟨rfl, rfl⟩
  replace h2 : 0 ≤ wr := by omega
  replace h3 : wr ≤ 1099511627776 := by omega
  have hwp : IntKind.i64.wrap (wr + n) = wr + n := IntWalk.i64_in _ (by omega)
  by_cases h4 : sg < n
  · clear h1 h hw
    go_enter Try.func27, Try.ntmps27
    go_wp2_with fail
    refine (HA.out _).mono ?_
    rintro e w' ⟨rfl, rfl⟩
    go_wp2_with fail
    go_ret2
    exact ⟨rfl, rfl⟩
  replace h4 : (n : Int) ≤ sg := by omega
  by_cases h5 : lm = -1
  · subst h5
    have h6 : codeE en = false ∧ en ≠ 0 := by
      by_cases h0 : en = 0
      · subst h0
        have : okR sg (-1) wr n 0 = true := by simp [okR, h1, h2, h3, h4]
        rw [this] at h
        cases h
      · refine ⟨?_, h0⟩
        cases hc : codeE en
        · rfl
        · have : okR sg (-1) wr n en = true := by simp [okR, h1, h2, h3, h4, hc]
          rw [this] at h
          cases h
    have hc := fun w => tcode w (wr + n) en
    rw [show codeN (wr + n) en = false from by unfold codeN; rw [if_neg h6.2]; exact h6.1] at hc
    have HC := Lib.hid hc
    have he : (en != 0) = true := by simpa using h6.2
    clear h6 h1 h hw hc
    go_enter Try.func27, Try.ntmps27
    go_wp2_with fail
    refine (HA.out _).mono ?_
    rintro e w' ⟨rfl, rfl⟩
    go_wp2_with fail
    refine (HC.out _).mono ?_
    rintro e w' ⟨rfl, rfl⟩
    go_wp2_with fail
    go_ret2
    exact ⟨rfl, rfl⟩
  · have h5b : (lm != -1) = true := by simpa using h5
    by_cases h7 : lm < wr + n
    · clear h1 h hw
      go_enter Try.func27, Try.ntmps27
      go_wp2_with fail
      refine (HA.out _).mono ?_
      rintro e w' ⟨rfl, rfl⟩
      go_wp2_with fail
      go_ret2
      exact ⟨rfl, rfl⟩
    replace h7 : wr + n ≤ lm := by omega
    have h6 : codeE en = false ∧ en ≠ 0 := by
      by_cases h0 : en = 0
      · subst h0
        have : okR sg lm wr n 0 = true := by simp [okR, h1, h2, h3, h4, h7]
        rw [this] at h
        cases h
      · refine ⟨?_, h0⟩
        cases hc : codeE en
        · rfl
        · have : okR sg lm wr n en = true := by simp [okR, h1, h2, h3, h4, h7, hc]
          rw [this] at h
          cases h
    have hc := fun w => tcode w (wr + n) en
    rw [show codeN (wr + n) en = false from by unfold codeN; rw [if_neg h6.2]; exact h6.1] at hc
    have HC := Lib.hid hc
    have he : (en != 0) = true := by simpa using h6.2
    have hlt : ¬ lm < wr + n := by omega
    clear h6 h1 h hw hc h5
    go_enter Try.func27, Try.ntmps27
    go_wp2_with fail
    refine (HA.out _).mono ?_
    rintro e w' ⟨rfl, rfl⟩
    go_wp2_with fail
    refine (HC.out _).mono ?_
    rintro e w' ⟨rfl, rfl⟩
    go_wp2_with fail
    go_ret2
    exact ⟨rfl, rfl⟩
set_option maxHeartbeats 4000000 in
theorem tr_restore_ok (w : World) {sg lm wr : Int} {pa : Option Addr} {pc : Nat} {s : List UInt8} {en : Int} (hs : Sl w pa (bi s)) (hm : s.length ≤ 65536) (h : okR sg lm wr s.length en = true) :
    Calls Try.prog 27 #[.int .i64 sg, .int .i64 lm, .int .i64 wr, .slice pa s.length pc, .int .i64 en] w fun e w' => e = .returned (.tuple #[.pointer (some ⟨w.heap.size, 0, none⟩), .int .i64 0]) ∧ Fr [] w w' ∧ ∃ N, Tr w' N w.heap.size (restoreT sg lm wr s en) ∧ ∀ x, N x → w.heap.size ≤ x := by
  have OK := Lib.hid (restoreT_ok h)
  obtain ⟨h1, h2, h3, h4, h5, h6⟩ := okR_iff h
  have HA := Lib.hid fun w => h1 ▸ tallowed w sg lm
  obtain ⟨k1, k2, k3, k4⟩ := okS_iff.1 h1
  have hwp : IntKind.i64.wrap (wr + s.length) = wr + s.length := IntWalk.i64_in _ (by omega)
  have hlm : lm = -1 ∨ (0 ≤ lm ∧ wr + s.length ≤ lm) := by omega
  have hen : en = 0 ∨ ((en != 0) = true ∧ Hid (∀ w, Calls Try.prog 62 #[.int .i64 (wr + s.length), .int .i64 en] w fun x w' => x = .returned (.bool true) ∧ w = w')) := by
    by_cases h0 : en = 0
    · exact .inl h0
    · refine .inr ⟨by simpa using h0, Lib.hid fun w => ?_⟩
      have := tcode w (wr + s.length) en
      rwa [show codeN (wr + s.length) en = true from by unfold codeN; rw [if_neg h0]; exact h6.resolve_left h0] at this
  have F1 := Lib.hid ((Fr.refl [] w).alloc (.cells #[.slice none 0 0, .int .i64 0, .int .i64 sg, .int .i64 lm, .int .i64 (wr + s.length), .int .i64 wr, .int .i64 en, .int .i64 0] 55))
  have HP := Lib.hid (tr_put (plen := s.length) (pcap := pc) (w := w.alloc (.cells #[.slice none 0 0, .int .i64 0, .int .i64 sg, .int .i64 lm, .int .i64 (wr + s.length), .int .i64 wr, .int .i64 en, .int .i64 0] 55)) (b := w.heap.size) (newA rfl) (sl_keep hs ((Fr.refl [] w).alloc _) (by simp)) rfl hm)
  clear h h1 h5 h6 hs k1 k2
  rcases hlm with rfl | ⟨hl0, hl1⟩
  · rcases hen with rfl | ⟨he, hc⟩
    · go_enter Try.func27, Try.ntmps27
      go_wp2_with fail
      refine (HA.out _).mono ?_
      rintro e w' ⟨rfl, rfl⟩
      go_wp2_with fail
      refine HP.out.mono ?_
      rintro e w2 ⟨rfl, f2, a', cap', P, hb, hr, hfl⟩
      go_wp2_with fail
      go_ret2
      exact ⟨rfl, F1.out.trans f2 (by simp) (fun x hx => .inr (by simp at hx; omega)), _, ⟨a', cap', P, hb, hr, hfl, by simp, fun x hx => Nat.le_trans f2.size hx, OK.out⟩, fun x hx => Nat.le_trans F1.out.size hx⟩
    · go_enter Try.func27, Try.ntmps27
      go_wp2_with fail
      refine (HA.out _).mono ?_
      rintro e w' ⟨rfl, rfl⟩
      go_wp2_with fail
      refine (hc.out _).mono ?_
      rintro e w' ⟨rfl, rfl⟩
      go_wp2_with fail
      refine HP.out.mono ?_
      rintro e w2 ⟨rfl, f2, a', cap', P, hb, hr, hfl⟩
      go_wp2_with fail
      go_ret2
      exact ⟨rfl, F1.out.trans f2 (by simp) (fun x hx => .inr (by simp at hx; omega)), _, ⟨a', cap', P, hb, hr, hfl, by simp, fun x hx => Nat.le_trans f2.size hx, OK.out⟩, fun x hx => Nat.le_trans F1.out.size hx⟩
  · have h5b : (lm != -1) = true := by rw [bne_iff_ne]; omega
    have hlt : ¬ lm < wr + s.length := by omega
    have hlt2 : decide (lm < wr + s.length) = false := by simp; omega
    have hge : decide (0 ≤ lm) = true := by simp; omega
    rcases hen with rfl | ⟨he, hc⟩
    · go_enter Try.func27, Try.ntmps27
      go_wp2_with fail
      refine (HA.out _).mono ?_
      rintro e w' ⟨rfl, rfl⟩
      go_wp2_with fail
      refine HP.out.mono ?_
      rintro e w2 ⟨rfl, f2, a', cap', P, hb, hr, hfl⟩
      go_wp2_with fail
      go_ret2
      exact ⟨rfl, F1.out.trans f2 (by simp) (fun x hx => .inr (by simp at hx; omega)), _, ⟨a', cap', P, hb, hr, hfl, by simp, fun x hx => Nat.le_trans f2.size hx, OK.out⟩, fun x hx => Nat.le_trans F1.out.size hx⟩
    · go_enter Try.func27, Try.ntmps27
      go_wp2_with fail
      refine (HA.out _).mono ?_
      rintro e w' ⟨rfl, rfl⟩
      go_wp2_with fail
      refine (hc.out _).mono ?_
      rintro e w' ⟨rfl, rfl⟩
      go_wp2_with fail
      refine HP.out.mono ?_
      rintro e w2 ⟨rfl, f2, a', cap', P, hb, hr, hfl⟩
      go_wp2_with fail
      go_ret2
      exact ⟨rfl, F1.out.trans f2 (by simp) (fun x hx => .inr (by simp at hx; omega)), _, ⟨a', cap', P, hb, hr, hfl, by simp, fun x hx => Nat.le_trans f2.size hx, OK.out⟩, fun x hx => Nat.le_trans F1.out.size hx⟩

set_option maxHeartbeats 4000000 in
theorem rr_restore_bad (w : World) {sg lm wr : Int} {pa : Option Addr} {n pc : Nat} {en : Int} (hn : n ≤ 1000000) (h : okR sg lm wr n en = false) :
    Calls Try.prog 28 #[.int .i64 sg, .int .i64 lm, .int .i64 wr, .slice pa n pc, .int .i64 en] w fun e w' => e = .returned (.tuple #[.agg #[.int .i64 0, .int .i64 0, .int .i64 0, .int .i64 0, .slice none 0 0, .int .i64 0, .int .i64 0], .bool false]) ∧ Fr [] w w' := by
  have HV := fun w => rvalid w sg lm
  obtain ⟨W0, hW0, F0, q0⟩ : ∃ W, w.alloc (.cells #[.int .i64 0, .int .i64 0, .int .i64 0, .int .i64 0, .slice none 0 0, .int .i64 0, .int .i64 0] 45) = W ∧ Fr [] w W ∧ RB W w.heap.size (.int .i64 0) (.int .i64 0) (.int .i64 0) (.int .i64 0) (.slice none 0 0) (.int .i64 0) (.int .i64 0) := ⟨_, rfl, (Fr.refl _ _).alloc _, newA rfl⟩
  obtain ⟨_, _, _, _, _, _, _, _, _, _, _, _, _, _⟩ := q0.cells
  by_cases h1 : okS sg lm = true
  rotate_left
  · rw [show okS sg lm = false from by simpa using h1] at HV
    replace HV := Lib.hid HV
    clear h1 h
    go_enter Try.func28, Try.ntmps28
    go_wp2_with fail
    refine (HV.out _).mono ?_
    rintro e w' ⟨rfl, rfl⟩
    go_wp2_with fail
    obtain ⟨s0, s1, s2, s3, s4, s5, s6, _⟩ := RB.cells (seven_set (u0 := (.int .i64 0)) (u1 := (.int .i64 0)) (u2 := (.int .i64 0)) (u3 := (.int .i64 0)) (u4 := (.slice none 0 0)) (u5 := (.int .i64 0)) (u6 := (.int .i64 0)) q0)
    refine bodyPost_ret (v := .tuple #[.agg #[.int .i64 0, .int .i64 0, .int .i64 0, .int .i64 0, .slice none 0 0, .int .i64 0, .int .i64 0], .bool false]) (by simp [results, Try.results28, go_sem, s0, s1, s2, s3, s4, s5, s6]) rfl ?_
    exact ⟨rfl, F0.trans (seven_fr (w := W0) (b := w.heap.size) (u0 := (.int .i64 0)) (u1 := (.int .i64 0)) (u2 := (.int .i64 0)) (u3 := (.int .i64 0)) (u4 := (.slice none 0 0)) (u5 := (.int .i64 0)) (u6 := (.int .i64 0))) (by simp) (fun x hx => .inr (by simp at hx; omega))⟩
  obtain ⟨k1, k2, k3, k4⟩ := okS_iff.1 h1
  rw [h1] at HV
  replace HV := Lib.hid HV
  by_cases h2 : wr < 0
  · clear h1 h
    go_enter Try.func28, Try.ntmps28
    go_wp2_with fail
    refine (HV.out _).mono ?_
    rintro e w' ⟨rfl, rfl⟩
    go_wp2_with fail
    obtain ⟨s0, s1, s2, s3, s4, s5, s6, _⟩ := RB.cells (seven_set (u0 := (.int .i64 0)) (u1 := (.int .i64 0)) (u2 := (.int .i64 0)) (u3 := (.int .i64 0)) (u4 := (.slice none 0 0)) (u5 := (.int .i64 0)) (u6 := (.int .i64 0)) q0)
    refine bodyPost_ret (v := .tuple #[.agg #[.int .i64 0, .int .i64 0, .int .i64 0, .int .i64 0, .slice none 0 0, .int .i64 0, .int .i64 0], .bool false]) (by simp [results, Try.results28, go_sem, s0, s1, s2, s3, s4, s5, s6]) rfl ?_
    exact ⟨rfl, F0.trans (seven_fr (w := W0) (b := w.heap.size) (u0 := (.int .i64 0)) (u1 := (.int .i64 0)) (u2 := (.int .i64 0)) (u3 := (.int .i64 0)) (u4 := (.slice none 0 0)) (u5 := (.int .i64 0)) (u6 := (.int .i64 0))) (by simp) (fun x hx => .inr (by simp at hx; omega))⟩
  by_cases h3 : 1099511627776 < wr
  · clear h1 h
    go_enter Try.func28, Try.ntmps28
    go_wp2_with fail
    refine (HV.out _).mono ?_
    rintro e w' ⟨rfl, rfl⟩
    go_wp2_with fail
    obtain ⟨s0, s1, s2, s3, s4, s5, s6, _⟩ := RB.cells (seven_set (u0 := (.int .i64 0)) (u1 := (.int .i64 0)) (u2 := (.int .i64 0)) (u3 := (.int .i64 0)) (u4 := (.slice none 0 0)) (u5 := (.int .i64 0)) (u6 := (.int .i64 0)) q0)
    refine bodyPost_ret (v := .tuple #[.agg #[.int .i64 0, .int .i64 0, .int .i64 0, .int .i64 0, .slice none 0 0, .int .i64 0, .int .i64 0], .bool false]) (by simp [results, Try.results28, go_sem, s0, s1, s2, s3, s4, s5, s6]) rfl ?_
    exact ⟨rfl, F0.trans (seven_fr (w := W0) (b := w.heap.size) (u0 := (.int .i64 0)) (u1 := (.int .i64 0)) (u2 := (.int .i64 0)) (u3 := (.int .i64 0)) (u4 := (.slice none 0 0)) (u5 := (.int .i64 0)) (u6 := (.int .i64 0))) (by simp) (fun x hx => .inr (by simp at hx; omega))⟩
  replace h2 : 0 ≤ wr := by omega
  replace h3 : wr ≤ 1099511627776 := by omega
  have hwp : IntKind.i64.wrap (wr + n) = wr + n := IntWalk.i64_in _ (by omega)
  by_cases h4 : sg < n
  · clear h1 h
    go_enter Try.func28, Try.ntmps28
    go_wp2_with fail
    refine (HV.out _).mono ?_
    rintro e w' ⟨rfl, rfl⟩
    go_wp2_with fail
    obtain ⟨s0, s1, s2, s3, s4, s5, s6, _⟩ := RB.cells (seven_set (u0 := (.int .i64 0)) (u1 := (.int .i64 0)) (u2 := (.int .i64 0)) (u3 := (.int .i64 0)) (u4 := (.slice none 0 0)) (u5 := (.int .i64 0)) (u6 := (.int .i64 0)) q0)
    refine bodyPost_ret (v := .tuple #[.agg #[.int .i64 0, .int .i64 0, .int .i64 0, .int .i64 0, .slice none 0 0, .int .i64 0, .int .i64 0], .bool false]) (by simp [results, Try.results28, go_sem, s0, s1, s2, s3, s4, s5, s6]) rfl ?_
    exact ⟨rfl, F0.trans (seven_fr (w := W0) (b := w.heap.size) (u0 := (.int .i64 0)) (u1 := (.int .i64 0)) (u2 := (.int .i64 0)) (u3 := (.int .i64 0)) (u4 := (.slice none 0 0)) (u5 := (.int .i64 0)) (u6 := (.int .i64 0))) (by simp) (fun x hx => .inr (by simp at hx; omega))⟩
  replace h4 : (n : Int) ≤ sg := by omega
  by_cases h5 : lm = -1
  · subst h5
    have h6 : codeE en = false ∧ en ≠ 0 := by
      by_cases h0 : en = 0
      · subst h0
        have : okR sg (-1) wr n 0 = true := by simp [okR, h1, h2, h3, h4]
        rw [this] at h
        cases h
      · refine ⟨?_, h0⟩
        cases hc : codeE en
        · rfl
        · have : okR sg (-1) wr n en = true := by simp [okR, h1, h2, h3, h4, hc]
          rw [this] at h
          cases h
    have HC := Lib.hid fun w => h6.1 ▸ rcode w en
    have he : (en != 0) = true := by simpa using h6.2
    clear h6 h1 h k3 k4
    go_enter Try.func28, Try.ntmps28
    go_wp2_with fail
    refine (HV.out _).mono ?_
    rintro e w' ⟨rfl, rfl⟩
    go_wp2_with fail
    refine (HC.out _).mono ?_
    rintro e w' ⟨rfl, rfl⟩
    go_wp2_with fail
    obtain ⟨s0, s1, s2, s3, s4, s5, s6, _⟩ := RB.cells (seven_set (u0 := (.int .i64 0)) (u1 := (.int .i64 0)) (u2 := (.int .i64 0)) (u3 := (.int .i64 0)) (u4 := (.slice none 0 0)) (u5 := (.int .i64 0)) (u6 := (.int .i64 0)) q0)
    refine bodyPost_ret (v := .tuple #[.agg #[.int .i64 0, .int .i64 0, .int .i64 0, .int .i64 0, .slice none 0 0, .int .i64 0, .int .i64 0], .bool false]) (by simp [results, Try.results28, go_sem, s0, s1, s2, s3, s4, s5, s6]) rfl ?_
    exact ⟨rfl, F0.trans (seven_fr (w := W0) (b := w.heap.size) (u0 := (.int .i64 0)) (u1 := (.int .i64 0)) (u2 := (.int .i64 0)) (u3 := (.int .i64 0)) (u4 := (.slice none 0 0)) (u5 := (.int .i64 0)) (u6 := (.int .i64 0))) (by simp) (fun x hx => .inr (by simp at hx; omega))⟩
  · have hge : decide (0 ≤ lm) = true := by simp; omega
    have hge2 : 0 ≤ lm := by omega
    by_cases h7 : lm < wr + n
    · clear h1 h
      go_enter Try.func28, Try.ntmps28
      go_wp2_with fail
      refine (HV.out _).mono ?_
      rintro e w' ⟨rfl, rfl⟩
      go_wp2_with fail
      obtain ⟨s0, s1, s2, s3, s4, s5, s6, _⟩ := RB.cells (seven_set (u0 := (.int .i64 0)) (u1 := (.int .i64 0)) (u2 := (.int .i64 0)) (u3 := (.int .i64 0)) (u4 := (.slice none 0 0)) (u5 := (.int .i64 0)) (u6 := (.int .i64 0)) q0)
      refine bodyPost_ret (v := .tuple #[.agg #[.int .i64 0, .int .i64 0, .int .i64 0, .int .i64 0, .slice none 0 0, .int .i64 0, .int .i64 0], .bool false]) (by simp [results, Try.results28, go_sem, s0, s1, s2, s3, s4, s5, s6]) rfl ?_
      exact ⟨rfl, F0.trans (seven_fr (w := W0) (b := w.heap.size) (u0 := (.int .i64 0)) (u1 := (.int .i64 0)) (u2 := (.int .i64 0)) (u3 := (.int .i64 0)) (u4 := (.slice none 0 0)) (u5 := (.int .i64 0)) (u6 := (.int .i64 0))) (by simp) (fun x hx => .inr (by simp at hx; omega))⟩
    replace h7 : wr + n ≤ lm := by omega
    have h6 : codeE en = false ∧ en ≠ 0 := by
      by_cases h0 : en = 0
      · subst h0
        have : okR sg lm wr n 0 = true := by simp [okR, h1, h2, h3, h4, h7]
        rw [this] at h
        cases h
      · refine ⟨?_, h0⟩
        cases hc : codeE en
        · rfl
        · have : okR sg lm wr n en = true := by simp [okR, h1, h2, h3, h4, h7, hc]
          rw [this] at h
          cases h
    have HC := Lib.hid fun w => h6.1 ▸ rcode w en
    have he : (en != 0) = true := by simpa using h6.2
    have hlt : ¬ lm < wr + n := by omega
    clear h6 h1 h h5
    go_enter Try.func28, Try.ntmps28
    go_wp2_with fail
    refine (HV.out _).mono ?_
    rintro e w' ⟨rfl, rfl⟩
    go_wp2_with fail
    refine (HC.out _).mono ?_
    rintro e w' ⟨rfl, rfl⟩
    go_wp2_with fail
    obtain ⟨s0, s1, s2, s3, s4, s5, s6, _⟩ := RB.cells (seven_set (u0 := (.int .i64 0)) (u1 := (.int .i64 0)) (u2 := (.int .i64 0)) (u3 := (.int .i64 0)) (u4 := (.slice none 0 0)) (u5 := (.int .i64 0)) (u6 := (.int .i64 0)) q0)
    refine bodyPost_ret (v := .tuple #[.agg #[.int .i64 0, .int .i64 0, .int .i64 0, .int .i64 0, .slice none 0 0, .int .i64 0, .int .i64 0], .bool false]) (by simp [results, Try.results28, go_sem, s0, s1, s2, s3, s4, s5, s6]) rfl ?_
    exact ⟨rfl, F0.trans (seven_fr (w := W0) (b := w.heap.size) (u0 := (.int .i64 0)) (u1 := (.int .i64 0)) (u2 := (.int .i64 0)) (u3 := (.int .i64 0)) (u4 := (.slice none 0 0)) (u5 := (.int .i64 0)) (u6 := (.int .i64 0))) (by simp) (fun x hx => .inr (by simp at hx; omega))⟩

set_option maxHeartbeats 4000000 in
theorem rr_restore_ok (w : World) {sg lm wr : Int} {pa : Option Addr} {pc : Nat} {s : List UInt8} {en : Int} (hs : Sl w pa (bi s)) (hm : s.length ≤ 65536) (h : okR sg lm wr s.length en = true) :
    Calls Try.prog 28 #[.int .i64 sg, .int .i64 lm, .int .i64 wr, .slice pa s.length pc, .int .i64 en] w fun e w' => ∃ u, e = .returned (.tuple #[u, .bool true]) ∧ Fr [] w w' ∧ Rv w' (fun x => w.heap.size < x) u (restoreT sg lm wr s en) := by
  obtain ⟨h1, h2, h3, h4, h5, h6⟩ := okR_iff h
  have HV := Lib.hid fun w => h1 ▸ rvalid w sg lm
  obtain ⟨k1, k2, k3, k4⟩ := okS_iff.1 h1
  have hwp : IntKind.i64.wrap (wr + s.length) = wr + s.length := IntWalk.i64_in _ (by omega)
  have hlm : lm = -1 ∨ (0 ≤ lm ∧ wr + s.length ≤ lm) := by omega
  have hen : en = 0 ∨ ((en != 0) = true ∧ Hid (∀ w, Calls Try.prog 14 #[.int .i64 en] w fun x w' => x = .returned (.bool true) ∧ w = w')) := by
    by_cases h0 : en = 0
    · exact .inl h0
    · exact .inr ⟨by simpa using h0, Lib.hid fun w => (h6.resolve_left h0) ▸ rcode w en⟩
  have HU : Hid (Try.prog.underlying 22 = some (.slice 5)) := Lib.hid Try.underlying22
  have HIN : Hid ((Try.prog.info? 5).map (fun i => (i.zero, i.size, i.bytes)) = some (some (.int .u8 0), 1, 1)) := Lib.hid (by kernel_rfl)
  have H1 : Hid (([] : List Value).length + s.length ≤ maxLen) := Lib.hid (by unfold maxLen; simp; omega)
  have H2 : Hid ((([] : List Value).length + s.length) * 1 ≤ 140737488355328) := Lib.hid (by simp; omega)
  have H3 : Hid (((bi s).map (Value.int .u8)).length = s.length) := Lib.hid (by simp [bi])
  unfold restoreT Rv
  dsimp only
  obtain ⟨W0, hW0, F0, q0⟩ : ∃ W, w.alloc (.cells #[.int .i64 0, .int .i64 0, .int .i64 0, .int .i64 0, .slice none 0 0, .int .i64 0, .int .i64 0] 45) = W ∧ Fr [] w W ∧ RB W w.heap.size (.int .i64 0) (.int .i64 0) (.int .i64 0) (.int .i64 0) (.slice none 0 0) (.int .i64 0) (.int .i64 0) := ⟨_, rfl, (Fr.refl _ _).alloc _, newA rfl⟩
  obtain ⟨_, _, _, _, _, _, _, _, _, _, _, _, _, _⟩ := q0.cells
  have HSV := Lib.hid (sl_keep hs F0 (by simp)).toV
  have HZ := Lib.hid (show w.heap.size + 1 ≤ W0.heap.size from lt_of_heap q0)
  clear h h1 h5 h6 hs k1 k2 k3 k4
  rcases hlm with rfl | ⟨hl0, hl1⟩
  · rcases hen with rfl | ⟨he, hc⟩
    · go_enter Try.func28, Try.ntmps28
      go_wp2_with fail
      refine (HV.out _).mono ?_
      rintro e w' ⟨rfl, rfl⟩
      go_wp2_with (refine wpList_append_fr _ rfl (.const (.slice none 0 0)) (.tmp 59) 22 rfl 5 (.int .u8 0) 1 HU.out HIN.out rfl (w.heap.size + 1) (.slice none 0 0) [] (by exact rfl) (Ow.nil _ _ _) pa s.length pc _ (by exact rfl) H3.out HSV.out (oneCell_bytes _) (by exact H1.out) (by exact H2.out) HZ.out ?_)
      intro ov w2 o2 f2 hb2
      have f2' : Fr [] W0 w2 := f2
      have o2' : Ow w2 (w.heap.size + 1) 5 ov ((bi s).map (Value.int .u8)) := o2.out
      obtain ⟨na, nc, rfl, _⟩ := o2'.formB
      have q2 : RB w2 w.heap.size _ _ _ _ _ _ _ := f2'.keep q0 (by simp)
      obtain ⟨_, _, _, _, _, _, _, _, _, _, _, _, _, _⟩ := q2.cells
      have O2 := Lib.hid o2'
      clear o2 f2 hb2 o2'
      go_wp2_with fail
      obtain ⟨s0, s1, s2, s3, s4, s5, s6, _⟩ := RB.cells (seven_set (u0 := (.int .i64 sg)) (u1 := (.int .i64 (-1))) (u2 := (.int .i64 (wr + s.length))) (u3 := (.int .i64 wr)) (u4 := (.slice na s.length nc)) (u5 := (.int .i64 0)) (u6 := (.int .i64 0)) q2)
      refine bodyPost_ret (v := .tuple #[.agg #[.int .i64 sg, .int .i64 (-1), .int .i64 (wr + s.length), .int .i64 wr, .slice na s.length nc, .int .i64 0, .int .i64 0], .bool true]) (by simp [results, Try.results28, go_sem, s0, s1, s2, s3, s4, s5, s6]) rfl ?_
      have fs : Fr [w.heap.size] w2 _ := seven_fr (w := w2) (b := w.heap.size) (u0 := (.int .i64 sg)) (u1 := (.int .i64 (-1))) (u2 := (.int .i64 (wr + s.length))) (u3 := (.int .i64 wr)) (u4 := (.slice na s.length nc)) (u5 := (.int .i64 0)) (u6 := (.int .i64 0))
      obtain ⟨na', nc', e1, n1, n2, n3, n4⟩ := (O2.out.keep fs (fun k hk hm => by have := (O2.out.lt k hk).1; simp at hm; omega)).formB
      simp only [Value.slice.injEq] at e1
      obtain ⟨rfl, _, rfl⟩ := e1
      exact ⟨_, rfl, (F0.then0 f2').trans fs (by simp) (fun x hx => .inr (by simp at hx; omega)), na, nc, rfl, n1, n2, n3, fun b o _ he => by have := n4 b o he; omega⟩
    · go_enter Try.func28, Try.ntmps28
      go_wp2_with fail
      refine (HV.out _).mono ?_
      rintro e w' ⟨rfl, rfl⟩
      go_wp2_with fail
      refine (hc.out _).mono ?_
      rintro e w' ⟨rfl, rfl⟩
      go_wp2_with (refine wpList_append_fr _ rfl (.const (.slice none 0 0)) (.tmp 59) 22 rfl 5 (.int .u8 0) 1 HU.out HIN.out rfl (w.heap.size + 1) (.slice none 0 0) [] (by exact rfl) (Ow.nil _ _ _) pa s.length pc _ (by exact rfl) H3.out HSV.out (oneCell_bytes _) (by exact H1.out) (by exact H2.out) HZ.out ?_)
      intro ov w2 o2 f2 hb2
      have f2' : Fr [] W0 w2 := f2
      have o2' : Ow w2 (w.heap.size + 1) 5 ov ((bi s).map (Value.int .u8)) := o2.out
      obtain ⟨na, nc, rfl, _⟩ := o2'.formB
      have q2 : RB w2 w.heap.size _ _ _ _ _ _ _ := f2'.keep q0 (by simp)
      obtain ⟨_, _, _, _, _, _, _, _, _, _, _, _, _, _⟩ := q2.cells
      have O2 := Lib.hid o2'
      clear o2 f2 hb2 o2'
      go_wp2_with fail
      obtain ⟨s0, s1, s2, s3, s4, s5, s6, _⟩ := RB.cells (seven_set (u0 := (.int .i64 sg)) (u1 := (.int .i64 (-1))) (u2 := (.int .i64 (wr + s.length))) (u3 := (.int .i64 wr)) (u4 := (.slice na s.length nc)) (u5 := (.int .i64 en)) (u6 := (.int .i64 0)) q2)
      refine bodyPost_ret (v := .tuple #[.agg #[.int .i64 sg, .int .i64 (-1), .int .i64 (wr + s.length), .int .i64 wr, .slice na s.length nc, .int .i64 en, .int .i64 0], .bool true]) (by simp [results, Try.results28, go_sem, s0, s1, s2, s3, s4, s5, s6]) rfl ?_
      have fs : Fr [w.heap.size] w2 _ := seven_fr (w := w2) (b := w.heap.size) (u0 := (.int .i64 sg)) (u1 := (.int .i64 (-1))) (u2 := (.int .i64 (wr + s.length))) (u3 := (.int .i64 wr)) (u4 := (.slice na s.length nc)) (u5 := (.int .i64 en)) (u6 := (.int .i64 0))
      obtain ⟨na', nc', e1, n1, n2, n3, n4⟩ := (O2.out.keep fs (fun k hk hm => by have := (O2.out.lt k hk).1; simp at hm; omega)).formB
      simp only [Value.slice.injEq] at e1
      obtain ⟨rfl, _, rfl⟩ := e1
      exact ⟨_, rfl, (F0.then0 f2').trans fs (by simp) (fun x hx => .inr (by simp at hx; omega)), na, nc, rfl, n1, n2, n3, fun b o _ he => by have := n4 b o he; omega⟩
  · have h5b : (lm != -1) = true := by rw [bne_iff_ne]; omega
    have hlt : ¬ lm < wr + s.length := by omega
    have hlt2 : decide (lm < wr + s.length) = false := by simp; omega
    have hge : decide (0 ≤ lm) = true := by simp; omega
    rcases hen with rfl | ⟨he, hc⟩
    · go_enter Try.func28, Try.ntmps28
      go_wp2_with fail
      refine (HV.out _).mono ?_
      rintro e w' ⟨rfl, rfl⟩
      go_wp2_with (refine wpList_append_fr _ rfl (.const (.slice none 0 0)) (.tmp 59) 22 rfl 5 (.int .u8 0) 1 HU.out HIN.out rfl (w.heap.size + 1) (.slice none 0 0) [] (by exact rfl) (Ow.nil _ _ _) pa s.length pc _ (by exact rfl) H3.out HSV.out (oneCell_bytes _) (by exact H1.out) (by exact H2.out) HZ.out ?_)
      intro ov w2 o2 f2 hb2
      have f2' : Fr [] W0 w2 := f2
      have o2' : Ow w2 (w.heap.size + 1) 5 ov ((bi s).map (Value.int .u8)) := o2.out
      obtain ⟨na, nc, rfl, _⟩ := o2'.formB
      have q2 : RB w2 w.heap.size _ _ _ _ _ _ _ := f2'.keep q0 (by simp)
      obtain ⟨_, _, _, _, _, _, _, _, _, _, _, _, _, _⟩ := q2.cells
      have O2 := Lib.hid o2'
      clear o2 f2 hb2 o2'
      go_wp2_with fail
      obtain ⟨s0, s1, s2, s3, s4, s5, s6, _⟩ := RB.cells (seven_set (u0 := (.int .i64 sg)) (u1 := (.int .i64 lm)) (u2 := (.int .i64 (wr + s.length))) (u3 := (.int .i64 wr)) (u4 := (.slice na s.length nc)) (u5 := (.int .i64 0)) (u6 := (.int .i64 0)) q2)
      refine bodyPost_ret (v := .tuple #[.agg #[.int .i64 sg, .int .i64 lm, .int .i64 (wr + s.length), .int .i64 wr, .slice na s.length nc, .int .i64 0, .int .i64 0], .bool true]) (by simp [results, Try.results28, go_sem, s0, s1, s2, s3, s4, s5, s6]) rfl ?_
      have fs : Fr [w.heap.size] w2 _ := seven_fr (w := w2) (b := w.heap.size) (u0 := (.int .i64 sg)) (u1 := (.int .i64 lm)) (u2 := (.int .i64 (wr + s.length))) (u3 := (.int .i64 wr)) (u4 := (.slice na s.length nc)) (u5 := (.int .i64 0)) (u6 := (.int .i64 0))
      obtain ⟨na', nc', e1, n1, n2, n3, n4⟩ := (O2.out.keep fs (fun k hk hm => by have := (O2.out.lt k hk).1; simp at hm; omega)).formB
      simp only [Value.slice.injEq] at e1
      obtain ⟨rfl, _, rfl⟩ := e1
      exact ⟨_, rfl, (F0.then0 f2').trans fs (by simp) (fun x hx => .inr (by simp at hx; omega)), na, nc, rfl, n1, n2, n3, fun b o _ he => by have := n4 b o he; omega⟩
    · go_enter Try.func28, Try.ntmps28
      go_wp2_with fail
      refine (HV.out _).mono ?_
      rintro e w' ⟨rfl, rfl⟩
      go_wp2_with fail
      refine (hc.out _).mono ?_
      rintro e w' ⟨rfl, rfl⟩
      go_wp2_with (refine wpList_append_fr _ rfl (.const (.slice none 0 0)) (.tmp 59) 22 rfl 5 (.int .u8 0) 1 HU.out HIN.out rfl (w.heap.size + 1) (.slice none 0 0) [] (by exact rfl) (Ow.nil _ _ _) pa s.length pc _ (by exact rfl) H3.out HSV.out (oneCell_bytes _) (by exact H1.out) (by exact H2.out) HZ.out ?_)
      intro ov w2 o2 f2 hb2
      have f2' : Fr [] W0 w2 := f2
      have o2' : Ow w2 (w.heap.size + 1) 5 ov ((bi s).map (Value.int .u8)) := o2.out
      obtain ⟨na, nc, rfl, _⟩ := o2'.formB
      have q2 : RB w2 w.heap.size _ _ _ _ _ _ _ := f2'.keep q0 (by simp)
      obtain ⟨_, _, _, _, _, _, _, _, _, _, _, _, _, _⟩ := q2.cells
      have O2 := Lib.hid o2'
      clear o2 f2 hb2 o2'
      go_wp2_with fail
      obtain ⟨s0, s1, s2, s3, s4, s5, s6, _⟩ := RB.cells (seven_set (u0 := (.int .i64 sg)) (u1 := (.int .i64 lm)) (u2 := (.int .i64 (wr + s.length))) (u3 := (.int .i64 wr)) (u4 := (.slice na s.length nc)) (u5 := (.int .i64 en)) (u6 := (.int .i64 0)) q2)
      refine bodyPost_ret (v := .tuple #[.agg #[.int .i64 sg, .int .i64 lm, .int .i64 (wr + s.length), .int .i64 wr, .slice na s.length nc, .int .i64 en, .int .i64 0], .bool true]) (by simp [results, Try.results28, go_sem, s0, s1, s2, s3, s4, s5, s6]) rfl ?_
      have fs : Fr [w.heap.size] w2 _ := seven_fr (w := w2) (b := w.heap.size) (u0 := (.int .i64 sg)) (u1 := (.int .i64 lm)) (u2 := (.int .i64 (wr + s.length))) (u3 := (.int .i64 wr)) (u4 := (.slice na s.length nc)) (u5 := (.int .i64 en)) (u6 := (.int .i64 0))
      obtain ⟨na', nc', e1, n1, n2, n3, n4⟩ := (O2.out.keep fs (fun k hk hm => by have := (O2.out.lt k hk).1; simp at hm; omega)).formB
      simp only [Value.slice.injEq] at e1
      obtain ⟨rfl, _, rfl⟩ := e1
      exact ⟨_, rfl, (F0.then0 f2').trans fs (by simp) (fun x hx => .inr (by simp at hx; omega)), na, nc, rfl, n1, n2, n3, fun b o _ he => by have := n4 b o he; omega⟩
end Go.Proofs.Ytodpkdbcdbdjfaa
