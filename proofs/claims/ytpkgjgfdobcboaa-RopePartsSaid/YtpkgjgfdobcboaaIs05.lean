/-
  Law 5: an argument that is a slice of strings, small, is.
-/
import Derived.Test.YtpkgjgfdobcboaaParts05
import Derived.Test.YtpkgjgfdobcboaaOpenF
import Derived.SliceStrings
namespace Go.Proofs.Ytpkgjgfdobcboaa
open Go.ChangeShapes Go.WideShapes Go.RowKit
set_option maxRecDepth 100000


def small5 (P : Parts) : Bool := decide (P.length ≤ 1100) && decide (tot P ≤ 70000)
theorem small5_part {P : Parts} {k : Nat} (hk : k < P.length) (h : 70000 < P[k].length) : small5 P = false := by
  have h1 := tot_take_succ hk
  have h2 := tot_take_le P (k + 1)
  unfold small5
  rw [show decide (tot P ≤ 70000) = false from by simp; omega, Bool.and_false]

theorem small05 {w : World} {M : Nat} {a : Option Addr} {len cap : Nat} {P : Parts} (h : StrsAt w M a len cap P) :
    Calls Try.prog 41 #[.slice a len cap] w fun e w' => e = .returned (.bool (small5 P)) ∧ w = w' := by
  have hle := h.len_eq
  subst hle
  have hmx : (P.length : Int) ≤ 9223372036854775807 := by have := h.cap_le; have := h.le; unfold maxLen at *; omega
  have hsl := h.sl
  have HZ := Lib.hid h.size
  clear h
  go_enter Try.func41, Try.ntmps41
  go_wp2_with fail
  go_loop [3, 4] (fun n i => ∃ k : Nat, k ≤ P.length ∧ k ≤ 1101 ∧ i = .int .i64 k ∧ n = .int .i64 (tot (P.take k)) ∧ Hid (tot (P.take k) ≤ 70000 * k)) (fun _ i => P.length - (intOf i).toNat)
  case atStart => exact ⟨0, by omega, by omega, rfl, rfl, Lib.hid (by simp [tot])⟩
  case round =>
    obtain ⟨k, hk, hk1, rfl, rfl, HT⟩ := hrel
    have hT := HT.out
    by_cases hlt : (k : Int) < P.length
    · by_cases h81 : (k : Int) < 1101
      · have hkA : k < P.length := by omega
        obtain ⟨sb, so, rfl, hsb, hsc⟩ := hsl (by rw [List.length_map]; omega)
        have hcell : w.cell? ⟨sb, so + k, none⟩ = some (.string (st P[k])) := by
          rw [hsc k (by rw [List.length_map]; exact hkA), List.getElem?_map, List.getElem?_eq_getElem hkA]
          rfl
        have hbad := Lib.hid (small5_part hkA)
        have hnext := tot_take_succ hkA
        have hsz := HZ.out _ (List.getElem_mem hkA)
        unfold maxLen at hsz
        generalize P[k] = p at hcell hbad hnext hsz
        have hszI : (p.length : Int) ≤ 9223372036854775807 := by omega
        have HN := Lib.hid hnext
        generalize tot (P.take k) = T at *
        clear hnext hsc
        by_cases h4 : (70000 : Int) < p.length
        · have HF := Lib.hid (hbad.out (by omega))
          go_wp2_with fail
          go_ret
          exact ⟨by rw [HF.out]; rfl, rfl⟩
        · have hT2 : (T : Int) + p.length ≤ 9223372036854775807 := by omega
          go_wp2_with fail
          go_round
          case rel => exact ⟨k + 1, by omega, by omega, by go_num, by rw [HN.out]; go_num, Lib.hid (by rw [HN.out]; omega)⟩
          case measure => simp [intOf]; omega
      · have HF : Hid (small5 P = false) := Lib.hid (by unfold small5; rw [show decide (P.length ≤ 1100) = false from by simp; omega, Bool.false_and])
        have hd : decide ((P.length : Int) ≤ 1100) = false := by simp; omega
        have h81' : (1101 : Int) ≤ k := by omega
        go_wp2_with fail
        go_ret
        exact ⟨by rw [HF.out]; rfl, rfl⟩
    · have hke : P.take k = P := List.take_of_length_le (by omega)
      rw [hke]
      by_cases h80 : (P.length : Int) ≤ 1100
      · have HF : Hid (small5 P = decide ((tot P : Int) ≤ 70000)) := Lib.hid (by
          unfold small5
          rw [show decide (P.length ≤ 1100) = true from by simp; omega, Bool.true_and]
          simp only [decide_eq_decide]
          omega)
        have hd : decide ((P.length : Int) ≤ 1100) = true := by simpa using h80
        clear hke
        go_wp2_with fail
        go_ret
        exact ⟨by rw [HF.out]; rfl, rfl⟩
      · have HF : Hid (small5 P = false) := Lib.hid (by unfold small5; rw [show decide (P.length ≤ 1100) = false from by simp; omega, Bool.false_and])
        have hd : decide ((P.length : Int) ≤ 1100) = false := by simpa using h80
        clear hke
        go_wp2_with fail
        go_ret
        exact ⟨by rw [HF.out]; rfl, rfl⟩

theorem Rs.of_sl {w : World} {a : Option Addr} {len cap : Nat} {P : Parts} (h : SlV w a (sv P)) (hl : len = P.length) (hc : len ≤ cap) (hm : cap ≤ maxLen) : Rs w (fun _ => True) (.agg #[.slice a len cap]) P := by
  subst hl
  exact ⟨a, cap, rfl, hc, hm, h, fun _ _ _ _ => trivial⟩

theorem is05 {w : World} {N : Nat → Prop} {v : Value} {P Q : Parts} (h : Rp w N v P) {a : Option Addr} {len cap : Nat} (hs : SlV w a (sv Q)) (hl : len = Q.length) (hc : len ≤ cap) (hm : cap ≤ maxLen) :
    Calls Try.prog 95 #[v, .slice a len cap] w fun e w' => e = .returned (.bool (decide (P = Q))) ∧ Fr [] w w' := by
  have hQ := fun (w1 : World) (f : Fr [] w w1) => Rs.of_sl (hs.keep f (by simp)) hl hc hm
  have HQ := Lib.hid hQ
  clear hQ hs
  subst hl
  have HPN : Hid (P.length ≤ 1024) := Lib.hid h.choose_spec.choose_spec.2.2.2.2.2.1
  have HP := Lib.hid fun (w1 : World) (f : Fr [] w w1) => parts_ok (h.keep f (by simp))
  obtain ⟨pa, pc, rfl, _⟩ := h
  obtain ⟨B, hB⟩ : ∃ B, decide (P = Q) = B := ⟨_, rfl⟩
  have HS := Lib.hid fun (w1 : World) (u : Value) (N1 : Nat → Prop) (h1 : Rs w1 N1 u P) (f : Fr [] w w1) => ref5_same h1 (HQ.out w1 f) (by have := HPN.out; omega)
  rw [hB] at HS ⊢
  clear hB
  go_enter Try.func95, Try.ntmps95
  go_wp2_with fail
  have f0 : Fr [] w (w.alloc (.cells #[.slice pa P.length pc, .int .i64 (tot P)] 65)) := (Fr.refl _ _).alloc _
  refine (HP.out _ f0).mono ?_
  rintro e w1 ⟨u, rfl, f1, hr⟩
  have g1 := f0.then0 f1
  obtain ⟨ua, uc, rfl, _⟩ := id hr
  go_wp2_with fail
  refine (HS.out _ _ _ (hr.keep ((Fr.refl [] w1).alloc (.cells #[.slice ua P.length uc] 69)) (by simp)) (g1.alloc _)).mono ?_
  rintro e w2 ⟨rfl, f2⟩
  go_wp2_with fail
  go_ret
  exact ⟨rfl, (g1.alloc _).then0 f2⟩
end Go.Proofs.Ytpkgjgfdobcboaa
