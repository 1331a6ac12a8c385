/-
  ring: Copy.
-/
import Derived.Test.YtdoamelhclnphaaRingA
import Derived.Test.YtdoamelhclnphaaSteps
import Derived.Deep.RegionHeld3
namespace Go.Proofs.Ytdoamelhclnphaa
open Go.RowKit
set_option maxRecDepth 100000

/-- A row of one's own that holds bytes, with what lies behind them. -/
theorem Ow.rowJ {w : World} {M : Nat} {v : Value} {bs : List Int} (h : Ow w M 5 v (bs.map (Value.int .u8))) (h0 : 0 < bs.length) : ∃ g cap J, v = .slice (some ⟨g, 0, none⟩) bs.length cap ∧ bs.length ≤ cap ∧ M ≤ g ∧ RowJ w g bs J := by
  rcases h.2 with ⟨_, h1⟩ | ⟨g, cap, cur, hv, hM, hh, hc, hm, _, ht⟩
  · rw [List.length_map] at h1; omega
  · rw [List.length_map] at hv hc
    refine ⟨g, cap, cur.toList.drop bs.length, hv, hc, hM, ?_⟩
    unfold RowJ
    rw [hh]
    congr 3
    apply Array.ext'
    rw [List.length_map, Nat.mul_one] at ht
    rw [← ht]
    simp

set_option maxHeartbeats 2000000 in
theorem rg_copy {w : World} {R D c : Nat} {q : List Int} (h : Rg w R D c q) :
    Calls Try.prog 155 #[.pointer (some ⟨R, 0, none⟩)] w fun e w' => ∃ R' D', e = .returned (.pointer (some ⟨R', 0, none⟩)) ∧ Fr [] w w' ∧ w.heap.size ≤ R' ∧ w.heap.size ≤ D' ∧ Rg w' R' D' c q := by
  obtain ⟨bs, f_, n, K, J, a, b, ⟨h1, hK⟩, h2, h3, h4, h5, h6, rfl⟩ := h
  obtain ⟨c0, c1, c2, _, _⟩ := a.cells
  have hsl : SlV w (some ⟨D, 0, none⟩) ((bs.take c).map (Value.int .u8)) := fun _ => ⟨D, 0, rfl, lt_of_heap b, fun i hi => by
    rw [List.length_map, List.length_take] at hi
    rw [Nat.zero_add, b.cell (by omega), List.getElem?_map, List.getElem?_take, if_pos (by omega), List.getElem?_eq_getElem (by omega)]
    simp [List.getD, show i < bs.length from by omega]⟩
  have hlen : ((bs.take c).map (Value.int .u8)).length = c := by rw [List.length_map, List.length_take]; omega
  have HU : Hid (Try.prog.underlying 29 = some (.slice 5)) := Lib.hid Try.underlying29
  have HIN : Hid ((Try.prog.info? 5).map (fun i => (i.zero, i.size, i.bytes)) = some (some (.int .u8 0), 1, 1)) := Lib.hid (by kernel_rfl)
  have HONE : Hid (∀ u ∈ (bs.take c).map (Value.int .u8), u.oneCell' = true) := Lib.hid (bytes_one _)
  have HL := Lib.hid hlen
  have HSL := Lib.hid fun (w' : World) (f : Fr [] w w') => hsl.keep f (by simp)
  have HS := Lib.hid fun (w' : World) (f : Fr [] w w') => (show w'.cell? ⟨R, 0, none⟩ = some (.slice (some ⟨D, 0, none⟩) c K) ∧ w'.cell? ⟨R, 1, none⟩ = some (.int .i64 f_) ∧ w'.cell? ⟨R, 2, none⟩ = some (.int .i64 n) from ⟨cell_of (f.keep a (by simp)), cell_of (f.keep a (by simp)), cell_of (f.keep a (by simp))⟩)
  have H3 : Hid (([] : List Value).length + c ≤ maxLen) := Lib.hid (by unfold maxLen; simp; omega)
  have H4 : Hid ((([] : List Value).length + c) * 1 ≤ 140737488355328) := Lib.hid (by simp; omega)
  have HBL : Hid (0 < (bs.take c).length) := Lib.hid (by rw [List.length_take]; omega)
  have HBL2 : Hid ((bs.take c).length = c) := Lib.hid (by rw [List.length_take]; omega)
  clear hsl hlen
  go_enter Try.func155, Try.ntmps155
  go_wp2_with fail
  refine (zero_at a).mono ?_
  rintro e w' ⟨rfl, rfl⟩
  go_wp2_with fail
  go_region_held3 (fun w' => w'.cell? ⟨R, 0, none⟩ = some (.slice (some ⟨D, 0, none⟩) c K) ∧ w'.cell? ⟨R, 1, none⟩ = some (.int .i64 f_) ∧ w'.cell? ⟨R, 2, none⟩ = some (.int .i64 n))
    (first | (with_reducible exact ⟨t0, t1, t2⟩) | (with_reducible exact ⟨c0, c1, c2⟩) | (with_reducible refine HS.out _ ?_; repeat first | (with_reducible exact fa) | (with_reducible exact Fr.refl _ _) | (with_reducible refine Fr.drew ?_) | (with_reducible refine Fr.alloc ?_ _)))
    (first | (refine step_append_fr (by simp [Region.wanted, yielded]) (.const (.slice none 0 0)) (.tmp 8) 29 rfl 5 (.int .u8 0) 1 HU.out HIN.out rfl w.heap.size (.slice none 0 0) [] (by simp [Act.eval]) (Ow.nil _ _ _) (some ⟨D, 0, none⟩) c K ((bs.take c).map (Value.int .u8)) (by simp [Act.eval]) HL.out (HSL.out _ ((Fr.refl _ _).drew)) HONE.out H3.out H4.out (Nat.le_refl _) ?_; intro v3 w3 own3 fa'; have fa : Fr [] w w3 := Fr.undrew (show Fr [] w.drew w3 from fa'); rw [List.nil_append] at own3; obtain ⟨g3, cp3, J3, rfl, hcp3, hg3, hJ3⟩ := Ow.rowJ own3 HBL.out; rw [HBL2.out] at hcp3 ⊢; obtain ⟨t0, t1, t2⟩ := HS.out _ fa))
  go_wp2_with fail
  go_ret
  have hg4 := lt_of_heap hJ3
  exact ⟨_, g3, rfl, fa.alloc _, fa.size, hg3, bs.take c, f_, n, cp3, J3, newA rfl, keepA hJ3, ⟨by rw [HBL2.out]; exact Nat.le_refl _, hcp3⟩, h2, h3, h4, h5, by omega, by rw [List.take_take, Nat.min_self]⟩
end Go.Proofs.Ytdoamelhclnphaa
