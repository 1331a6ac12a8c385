/-
  Package flow: CloseRead and Read.
-/
import Derived.Test.YtdoamelhclnphaaRingA
import Derived.Test.YtdoamelhclnphaaFlAt
namespace Go.Proofs.Ytdoamelhclnphaa
open Go.RowKit
set_option maxRecDepth 100000

theorem NewB.ow {w w' : World} {out : List UInt8} {v : Value} (h : NewB w (bi out) v w') (hm : out.length ≤ 1000000) : Ow w' w.heap.size 5 v ((bi out).map (Value.int .u8)) := by
  rcases h with ⟨h0, rfl⟩ | ⟨N, rfl, hr, hN⟩
  · rw [h0]; exact Ow.nil _ _ _
  · have := Ow.of_row (xs := (bi out).map (Value.int .u8)) (M := w.heap.size) (g := N) (by unfold RowB at hr; rw [hr]) hN (by rw [List.length_map, bi_length]; unfold maxLen; omega)
    rw [List.length_map] at this
    exact this

section
variable {w : World} {b R D : Nat} {m : FM}
def FTPost (b R D : Nat) (r : FTR) (w : World) (e : Ending) (w' : World) : Prop :=
  ∃ u, e = .returned (.tuple #[u, .int .i64 r.err]) ∧ Fr [R, D] w w' ∧ Ow w' w.heap.size 5 u ((bi r.out).map (Value.int .u8)) ∧ Fl w' b R D r.m
theorem flow_read (h : Fl w b R D m) (n : Int) :
    Calls Try.prog 61 #[.pointer (some ⟨b, 0, none⟩), .int .i64 n] w (FTPost b R D (fRead m n) w) := by
  have HH := Lib.hid h
  obtain ⟨c0, c1, c2, f0, f1, f2⟩ := h.fb.cells
  have hl := rg_len h.rg
  rw [bi_length] at hl
  have HL := Lib.hid hl
  clear h hl
  have plain : ∀ (k : Int), fRead m n = ⟨m, [], k⟩ → (Calls Try.prog 61 #[.pointer (some ⟨b, 0, none⟩), .int .i64 n] w fun e w' => e = .returned (.tuple #[.slice none 0 0, .int .i64 k]) ∧ Fr [] w w') →
      Calls Try.prog 61 #[.pointer (some ⟨b, 0, none⟩), .int .i64 n] w (FTPost b R D (fRead m n) w) := fun k e hc => by
    rw [e]
    exact hc.mono fun e w' ⟨he, hf⟩ => ⟨_, he, hf.mono (by simp), Ow.nil _ _ _, HH.out.keep0 hf⟩
  by_cases h1 : n < 0
  · refine plain 2 (by unfold fRead; rw [if_pos h1]) ?_
    clear plain
    go_enter Try.func61, Try.ntmps61
    go_wp2_with (go_at_call 100; refine (flow_zero HH.out).mono ?_; rintro e w' ⟨rfl, rfl⟩)
    go_ret2
    exact ⟨rfl, Fr.refl _ _⟩
  by_cases h2 : n = 0
  · subst h2
    refine plain 0 (by unfold fRead; rw [if_neg h1, if_pos rfl]) ?_
    clear plain h1
    go_enter Try.func61, Try.ntmps61
    go_wp2_with (go_at_call 100; refine (flow_zero HH.out).mono ?_; rintro e w' ⟨rfl, rfl⟩)
    go_ret2
    exact ⟨rfl, Fr.refl _ _⟩
  obtain ⟨n1, n2⟩ := ne0 h2
  have hp : 0 ≤ n := by omega
  by_cases h3 : m.r ≠ 0
  · refine plain m.r (by unfold fRead; rw [if_neg h1, if_neg h2, if_pos h3]) ?_
    obtain ⟨n3, n4⟩ := ne0 h3
    clear plain h2 h3
    go_enter Try.func61, Try.ntmps61
    go_wp2_with (go_at_call 100; refine (flow_zero HH.out).mono ?_; rintro e w' ⟨rfl, rfl⟩)
    go_quiet (fail)
    go_wp2_with fail
    go_ret2
    exact ⟨rfl, (Fr.refl _ _).drewN _⟩
  have h3' : m.r = 0 := by omega
  rw [h3'] at c2
  by_cases h4 : m.s ≠ []
  · have e : fRead m n = ⟨⟨m.c, m.s.drop n.toNat, m.w, m.r⟩, m.s.take n.toNat, 0⟩ := by unfold fRead; rw [if_neg h1, if_neg h2, if_neg h3, if_pos h4]
    rw [e]
    have h5 : (0 : Int) < m.s.length := by have := List.length_pos_iff.2 h4; omega
    have hr := rg_read HH.out.rg hp
    rw [← bi_take, ← bi_drop] at hr
    have HR := Lib.hid hr
    clear plain e h2 h3 h4 hr
    go_enter Try.func61, Try.ntmps61
    go_wp2_with (first | (go_at_call 100; refine (flow_zero HH.out).mono ?_; rintro e w' ⟨rfl, rfl⟩) | (go_at_call 101; refine HL.out.mono ?_; rintro e w' ⟨rfl, rfl⟩))
    refine HR.out.mono ?_
    rintro e w2 ⟨v, rfl, f3, hv, r2⟩
    go_wp2_with fail
    go_ret2
    have h := HH.out
    have hb := h.bd
    exact ⟨_, rfl, f3, hv.ow (by rw [List.length_take]; omega), f3.keep h.fb (by simp; exact ⟨h.nr, h.nd⟩), r2, h.nr, h.nd⟩
  have h4' : m.s = [] := Classical.byContradiction h4
  have h5 : m.s.length = 0 := by rw [h4']; rfl
  by_cases h6 : m.w ≠ 0
  · refine plain m.w (by unfold fRead; rw [if_neg h1, if_neg h2, if_neg h3, if_neg h4, if_pos h6]) ?_
    obtain ⟨n3, n4⟩ := ne0 h6
    rw [h5] at HL
    clear plain h2 h3 h4 h5 h6 h4'
    go_enter Try.func61, Try.ntmps61
    go_wp2_with (first | (go_at_call 100; refine (flow_zero HH.out).mono ?_; rintro e w' ⟨rfl, rfl⟩) | (go_at_call 101; refine HL.out.mono ?_; rintro e w' ⟨rfl, rfl⟩))
    go_quiet (fail)
    go_wp2_with fail
    go_ret2
    exact ⟨rfl, (Fr.refl _ _).drewN _⟩
  · have h6' : m.w = 0 := by omega
    refine plain 16 (by unfold fRead; rw [if_neg h1, if_neg h2, if_neg h3, if_neg h4, if_neg h6]) ?_
    rw [h5] at HL
    rw [h6'] at c1
    clear plain h2 h3 h4 h5 h6 h4'
    go_enter Try.func61, Try.ntmps61
    go_wp2_with (first | (go_at_call 100; refine (flow_zero HH.out).mono ?_; rintro e w' ⟨rfl, rfl⟩) | (go_at_call 101; refine HL.out.mono ?_; rintro e w' ⟨rfl, rfl⟩))
    go_ret2
    exact ⟨rfl, Fr.refl _ _⟩
end
end Go.Proofs.Ytdoamelhclnphaa
