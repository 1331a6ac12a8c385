/-
  Package flow: Copy.
-/
import Derived.Test.YtpkgjgfdobcboaaFlowMore
import Derived.Test.YtpkgjgfdobcboaaRingCopy
namespace Go.Proofs.Ytpkgjgfdobcboaa
open Go.RowKit
set_option maxRecDepth 100000

set_option maxHeartbeats 1000000 in
theorem flow_copy {w : World} {b R D : Nat} {m : FM} (h : Fl w b R D m) :
    Calls Try.prog 91 #[.pointer (some ⟨b, 0, none⟩)] w fun e w' => ∃ b' R' D', e = .returned (.pointer (some ⟨b', 0, none⟩)) ∧ Fr [] w w' ∧ (w.heap.size ≤ b' ∧ w.heap.size ≤ R' ∧ w.heap.size ≤ D') ∧ Fl w' b' R' D' m := by
  have HH := Lib.hid h
  obtain ⟨c0, c1, c2, f0, f1, f2⟩ := h.fb.cells
  have HC := Lib.hid fun (w' : World) (f : Fr [] w w') => rg_copy (h.keep0 f).rg
  have HS := Lib.hid fun (w' : World) (f : Fr [] w w') => (show w'.cell? ⟨b, 0, none⟩ = some (.pointer (some ⟨R, 0, none⟩)) ∧ w'.cell? ⟨b, 1, none⟩ = some (.int .i64 m.w) ∧ w'.cell? ⟨b, 2, none⟩ = some (.int .i64 m.r) from by
    obtain ⟨k0, k1, k2, _, _, _⟩ := (h.keep0 f).fb.cells
    exact ⟨k0, k1, k2⟩)
  clear h
  go_enter Try.func91, Try.ntmps91
  go_wp2_with fail
  refine (flow_zero HH.out).mono ?_
  rintro e w' ⟨rfl, rfl⟩
  go_wp2_with fail
  go_region_held3 (fun w' => w'.cell? ⟨b, 0, none⟩ = some (.pointer (some ⟨R, 0, none⟩)) ∧ w'.cell? ⟨b, 1, none⟩ = some (.int .i64 m.w) ∧ w'.cell? ⟨b, 2, none⟩ = some (.int .i64 m.r))
    (first | (with_reducible exact ⟨t0, t1, t2⟩) | (with_reducible exact ⟨c0, c1, c2⟩) | (with_reducible refine HS.out _ ?_; repeat first | (with_reducible exact fa) | (with_reducible exact Fr.refl _ _) | (with_reducible refine Fr.drew ?_) | (with_reducible refine Fr.alloc ?_ _)))
    (first | (go_at_call 40; (with_reducible refine (HC.out w.drew ((Fr.refl _ _).drew)).mono ?_); rintro e w3 ⟨R3, D3, rfl, fa', hR3, hD3, hr3⟩; have fa : Fr [] w w3 := Fr.undrew fa'; obtain ⟨t0, t1, t2⟩ := HS.out _ fa))
  go_wp2_with fail
  go_ret
  have hb3 := hr3.len_le
  exact ⟨_, R3, D3, rfl, fa.alloc _, ⟨fa.size, hR3, hD3⟩, newA rfl, hr3.keep ((Fr.refl [] w3).alloc _) (by simp) (by simp), by omega, by omega⟩
end Go.Proofs.Ytpkgjgfdobcboaa
