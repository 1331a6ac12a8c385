/-
  bytes.Clone and slices.Clone of a slice that is not empty: a new row.
-/
import Derived.Test.YtodpkdbcdbdjfaaSteps
namespace Go.Proofs.Ytodpkdbcdbdjfaa
open Go.RowKit
set_option maxRecDepth 100000

theorem bytes_clone {w : World} {b o : Nat} {len cap : Nat} {l : List UInt8} (hs : Sl w (some ⟨b, o, none⟩) (bi l)) (hl : len = l.length) (hm : l.length ≤ 1000000) :
    Calls Try.prog 82 #[.slice (some ⟨b, o, none⟩) len cap] w fun e w' => ∃ v, e = .returned v ∧ Fr [] w w' ∧ Ow w' w.heap.size 5 v ((bi l).map (Value.int .u8)) := by
  subst hl
  have HS := Lib.hid hs.toV
  have HU : Hid (Try.prog.underlying 22 = some (.slice 5)) := Lib.hid Try.underlying22
  have HIN : Hid ((Try.prog.info? 5).map (fun i => (i.zero, i.size, i.bytes)) = some (some (.int .u8 0), 1, 1)) := Lib.hid (by kernel_rfl)
  have HONE : Hid (∀ u ∈ (bi l).map (Value.int .u8), u.oneCell' = true) := Lib.hid (bytes_one _)
  have HL : Hid (((bi l).map (Value.int .u8)).length = l.length) := Lib.hid (by simp [bi_length])
  have HK : Hid (∀ w', Fr [] w w' → SlV w' (some ⟨b, o, none⟩) ((bi l).map (Value.int .u8))) := Lib.hid fun w' h => hs.toV.keep h (by simp)
  have H3 : Hid (([] : List Value).length + l.length ≤ maxLen) := Lib.hid (by unfold maxLen; simp; omega)
  have H4 : Hid ((([] : List Value).length + l.length) * 1 ≤ 140737488355328) := Lib.hid (by simp; omega)
  have hnil := fun (w : World) (A : Option Addr) (n c : Nat) => Lib.run_eql_slice_nil (P := Try.prog) w 22 5 A n c 0 0 Try.underlying22
  clear hs hm
  go_enter Try.func82, Try.ntmps82
  go_wp2_with (refine wpList_append_fr _ rfl (.tmp 5) (.tmp 6) 22 rfl 5 (.int .u8 0) 1 HU.out HIN.out rfl w.heap.size (.slice (some ⟨w.heap.size, 0, none⟩) 0 0) [] (by exact rfl) (Ow.of_row (xs := []) (newA rfl) (Nat.le_refl _) (by unfold maxLen; simp)) (some ⟨b, o, none⟩) l.length cap ((bi l).map (Value.int .u8)) (by exact rfl) HL.out (HK.out _ ((Fr.refl _ _).alloc _)) HONE.out H3.out H4.out (by simp) ?_)
  intro v' w' hown hfr _
  go_wp2_with fail
  go_ret
  exact ⟨_, rfl, ((Fr.refl _ _).alloc _).own hfr (fun k hk => .inr (by simp only [Value.ownBlock, Option.some.injEq] at hk; omega)), hown.out⟩

theorem slices_clone {w : World} {b o : Nat} {len cap : Nat} {vs : List Value} (hs : SlV w (some ⟨b, o, none⟩) vs) (hl : len = vs.length) (h1 : ∀ u ∈ vs, u.oneCell' = true) (hm : vs.length ≤ 100000) :
    Calls Try.prog 84 #[.slice (some ⟨b, o, none⟩) len cap] w fun e w' => ∃ v, e = .returned v ∧ Fr [] w w' ∧ Ow w' w.heap.size 22 v vs := by
  subst hl
  have HU : Hid (Try.prog.underlying 49 = some (.slice 22)) := Lib.hid Try.underlying49
  have HIN : Hid ((Try.prog.info? 22).map (fun i => (i.zero, i.size, i.bytes)) = some (some (.slice none 0 0), 1, 24)) := Lib.hid (by kernel_rfl)
  have HONE := Lib.hid h1
  have HK : Hid (∀ w', Fr [] w w' → SlV w' (some ⟨b, o, none⟩) vs) := Lib.hid fun w' h => hs.keep h (by simp)
  have H3 : Hid (([] : List Value).length + vs.length ≤ maxLen) := Lib.hid (by unfold maxLen; simp; omega)
  have H4 : Hid ((([] : List Value).length + vs.length) * 24 ≤ 140737488355328) := Lib.hid (by simp; omega)
  have hnil := fun (w : World) (A : Option Addr) (n c : Nat) => Lib.run_eql_slice_nil (P := Try.prog) w 49 22 A n c 0 0 Try.underlying49
  clear hs hm h1
  go_enter Try.func84, Try.ntmps84
  go_wp2_with (refine wpList_append_fr _ rfl (.tmp 5) (.tmp 6) 49 rfl 22 (.slice none 0 0) 24 HU.out HIN.out rfl w.heap.size (.slice (some ⟨w.heap.size, 0, none⟩) 0 0) [] (by exact rfl) (Ow.of_row (xs := []) (newA rfl) (Nat.le_refl _) (by unfold maxLen; simp)) (some ⟨b, o, none⟩) vs.length cap vs (by exact rfl) rfl (HK.out _ ((Fr.refl _ _).alloc _)) HONE.out H3.out H4.out (by simp) ?_)
  intro v' w' hown hfr _
  go_wp2_with fail
  go_ret
  exact ⟨_, rfl, ((Fr.refl _ _).alloc _).own hfr (fun k hk => .inr (by simp only [Value.ownBlock, Option.some.injEq] at hk; omega)), hown.out⟩
theorem slices_clone_nil {w : World} {len cap : Nat} :
    Calls Try.prog 84 #[.slice none len cap] w fun e w' => e = .returned (.slice none 0 0) ∧ w = w' := by
  have hnil := fun (w : World) (A : Option Addr) (n c : Nat) => Lib.run_eql_slice_nil (P := Try.prog) w 49 22 A n c 0 0 Try.underlying49
  go_enter Try.func84, Try.ntmps84
  go_wp2_with fail
  go_ret
  exact ⟨rfl, rfl⟩
end Go.Proofs.Ytodpkdbcdbdjfaa
