/-
  Which states are valid: the reference's answer.
-/
import Derived.Test.YtdoamelhclnphaaRefA
import Derived.Deep.DeepCutAuto
import Derived.Deep.CutBlock
namespace Go.Proofs.Ytdoamelhclnphaa
open Go.RowKit
set_option maxRecDepth 100000

def vM (c : Int) (Q : Nat) (busy : Bool) (R : Nat) (acc x y : Int) : Bool :=
  if c < 0 ∨ 4096 < c ∨ c < Q ∨ x < 0 ∨ 1000 < x ∨ y < 0 ∨ 1000 < y then false
  else if y ≠ 0 ∧ 0 < Q then false
  else if busy = false then decide (R = 0 ∧ acc = 0)
  else if acc < 0 ∨ 65536 < acc ∨ 65536 < acc + R then false
  else decide (¬ (x = 0 ∧ y = 0) ∨ R = 0 ∨ (Q : Int) = c)
theorem vM_eq (m : SM) : vM m.c m.q.length m.busy m.rest.length m.acc m.w m.r = validM m := rfl
set_option maxHeartbeats 40000000 in
theorem r_valid0 {w : World} {c acc x y : Int} {Q R : Nat} {a1 a2 : Option Addr} {k1 k2 : Nat} {busy op : Bool} (hQ : Q ≤ 1000000) (hR : R ≤ 1000000) (hop : op = true ↔ x = 0 ∧ y = 0)
    (hoc : ∀ w0, Fr [] w w0 → Calls Try.prog 92 #[.agg #[.int .i64 c, .slice a1 Q k1, .bool busy, .slice a2 R k2, .int .i64 acc, .int .i64 x, .int .i64 y]] w0 fun e w' => e = .returned (.bool op) ∧ Fr [] w0 w') :
    Calls Try.prog 47 #[.agg #[.int .i64 c, .slice a1 Q k1, .bool busy, .slice a2 R k2, .int .i64 acc, .int .i64 x, .int .i64 y]] w fun e w' => e = .returned (.bool (vM c Q busy R acc x y)) ∧ Fr [] w w' := by
  obtain ⟨V, hV⟩ : ∃ V, vM c Q busy R acc x y = V := ⟨_, rfl⟩
  rw [hV]
  have HV := Lib.hid hV
  clear hV
  have HOP := Lib.hid hop
  clear hop
  obtain ⟨w0, hw0, f0, q0⟩ : ∃ W, w.alloc (.cells #[.int .i64 c, .slice a1 Q k1, .bool busy, .slice a2 R k2, .int .i64 acc, .int .i64 x, .int .i64 y] 41) = W ∧ Fr [] w W ∧ S7 W w.heap.size c a1 Q k1 busy a2 R k2 acc x y := ⟨_, rfl, (Fr.refl _ _).alloc _, newA rfl⟩
  obtain ⟨x0, x1, x2, x3, x4, x5, x6, _, _, _, _, _, _, _⟩ := q0.cells
  have HF := Lib.hid f0
  have HB := Lib.hid q0
  have HOC := Lib.hid (hoc w0 f0)
  clear q0 f0 hoc
  go_enter Try.func47, Try.ntmps47
  go_upto_region 1 with fail
  clear hw0
  by_cases h1 : c < 0
  · skip
    as_aux_lemma =>
      obtain rfl : V = false := by rw [← HV.out]; unfold vM; (repeat' split) <;> first | rfl | omega | (simp; omega) | simp_all | (simp_all; omega)
      clear HV
      go_wp2_with fail
      go_ret
      exact ⟨by simp <;> omega, HF.out⟩
  · skip
    by_cases h2 : 4096 < c
    · skip
      as_aux_lemma =>
        obtain rfl : V = false := by rw [← HV.out]; unfold vM; (repeat' split) <;> first | rfl | omega | (simp; omega) | simp_all | (simp_all; omega)
        clear HV
        go_wp2_with fail
        go_ret
        exact ⟨by simp <;> omega, HF.out⟩
    · skip
      by_cases h3 : c < Q
      · skip
        as_aux_lemma =>
          obtain rfl : V = false := by rw [← HV.out]; unfold vM; (repeat' split) <;> first | rfl | omega | (simp; omega) | simp_all | (simp_all; omega)
          clear HV
          go_wp2_with fail
          go_ret
          exact ⟨by simp <;> omega, HF.out⟩
      · skip
        by_cases h4 : x < 0
        · skip
          as_aux_lemma =>
            obtain rfl : V = false := by rw [← HV.out]; unfold vM; (repeat' split) <;> first | rfl | omega | (simp; omega) | simp_all | (simp_all; omega)
            clear HV
            go_wp2_with fail
            go_ret
            exact ⟨by simp <;> omega, HF.out⟩
        · skip
          by_cases h5 : 1000 < x
          · skip
            as_aux_lemma =>
              obtain rfl : V = false := by rw [← HV.out]; unfold vM; (repeat' split) <;> first | rfl | omega | (simp; omega) | simp_all | (simp_all; omega)
              clear HV
              go_wp2_with fail
              go_ret
              exact ⟨by simp <;> omega, HF.out⟩
          · skip
            by_cases h6 : y < 0
            · skip
              as_aux_lemma =>
                obtain rfl : V = false := by rw [← HV.out]; unfold vM; (repeat' split) <;> first | rfl | omega | (simp; omega) | simp_all | (simp_all; omega)
                clear HV
                go_wp2_with fail
                go_ret
                exact ⟨by simp <;> omega, HF.out⟩
            · skip
              by_cases h7 : 1000 < y
              · skip
                as_aux_lemma =>
                  obtain rfl : V = false := by rw [← HV.out]; unfold vM; (repeat' split) <;> first | rfl | omega | (simp; omega) | simp_all | (simp_all; omega)
                  clear HV
                  go_wp2_with fail
                  go_ret
                  exact ⟨by simp <;> omega, HF.out⟩
              · skip
                by_cases hy : y = 0
                · subst hy
                  by_cases hb : busy = false
                  · subst hb
                    by_cases h9 : R = 0
                    · subst h9
                      by_cases h10 : acc = 0
                      · subst h10
                        as_aux_lemma =>
                          obtain rfl : V = true := by rw [← HV.out]; unfold vM; (repeat' split) <;> first | rfl | omega | (simp; omega) | simp_all | (simp_all; omega)
                          clear HV
                          go_wp2_with fail
                          go_ret
                          exact ⟨by simp <;> omega, HF.out⟩
                      · skip
                        as_aux_lemma =>
                          obtain rfl : V = false := by rw [← HV.out]; unfold vM; (repeat' split) <;> first | rfl | omega | (simp; omega) | simp_all | (simp_all; omega)
                          clear HV
                          go_wp2_with fail
                          go_ret
                          exact ⟨by simp <;> omega, HF.out⟩
                    · skip
                      as_aux_lemma =>
                        obtain rfl : V = false := by rw [← HV.out]; unfold vM; (repeat' split) <;> first | rfl | omega | (simp; omega) | simp_all | (simp_all; omega)
                        clear HV
                        go_wp2_with fail
                        go_ret
                        exact ⟨by simp <;> omega, HF.out⟩
                  · skip
                    obtain rfl : busy = true := by simpa using hb
                    clear hb
                    by_cases h11 : acc < 0
                    · skip
                      as_aux_lemma =>
                        obtain rfl : V = false := by rw [← HV.out]; unfold vM; (repeat' split) <;> first | rfl | omega | (simp; omega) | simp_all | (simp_all; omega)
                        clear HV
                        go_wp2_with fail
                        go_ret
                        exact ⟨by simp <;> omega, HF.out⟩
                    · skip
                      by_cases h12 : 65536 < acc
                      · skip
                        as_aux_lemma =>
                          obtain rfl : V = false := by rw [← HV.out]; unfold vM; (repeat' split) <;> first | rfl | omega | (simp; omega) | simp_all | (simp_all; omega)
                          clear HV
                          go_wp2_with fail
                          go_ret
                          exact ⟨by simp <;> omega, HF.out⟩
                      · skip
                        have hwr : IntKind.i64.wrap (acc + (R : Int)) = acc + R := IntWalk.i64_in _ (by omega)
                        by_cases h13 : 65536 < acc + R
                        · skip
                          as_aux_lemma =>
                            obtain rfl : V = false := by rw [← HV.out]; unfold vM; (repeat' split) <;> first | rfl | omega | (simp; omega) | simp_all | (simp_all; omega)
                            clear HV
                            go_wp2_with fail
                            go_ret
                            exact ⟨by simp <;> omega, HF.out⟩
                        · skip
                          by_cases hx : x = 0
                          · subst hx
                            by_cases h14 : R = 0
                            · subst h14
                              as_aux_lemma =>
                                obtain rfl : V = true := by rw [← HV.out]; unfold vM; (repeat' split) <;> first | rfl | omega | (simp; omega) | simp_all | (simp_all; omega)
                                clear HV
                                obtain rfl : op = true := HOP.out.2 (by omega)
                                go_wp2_with fail
                                refine HOC.out.mono ?_
                                rintro e w9 ⟨rfl, f9⟩
                                have HF9 := Lib.hid (HF.out.then0 f9)
                                have HB9 := f9.keep HB.out (by simp)
                                have z0 : w9.cell? ⟨w.heap.size, 0, none⟩ = _ := cell_of HB9
                                have z1 : w9.cell? ⟨w.heap.size, 1, none⟩ = _ := cell_of HB9
                                have z3 : w9.cell? ⟨w.heap.size, 3, none⟩ = _ := cell_of HB9
                                clear f9 HB9 x0 x1 x2 x3 x4 x5 x6
                                go_wp2_with fail
                                go_ret
                                exact ⟨by simp <;> omega, HF9.out⟩
                            · skip
                              by_cases h15 : (Q : Int) = c
                              · subst h15
                                as_aux_lemma =>
                                  obtain rfl : V = true := by rw [← HV.out]; unfold vM; (repeat' split) <;> first | rfl | omega | (simp; omega) | simp_all | (simp_all; omega)
                                  clear HV
                                  obtain rfl : op = true := HOP.out.2 (by omega)
                                  go_wp2_with fail
                                  refine HOC.out.mono ?_
                                  rintro e w9 ⟨rfl, f9⟩
                                  have HF9 := Lib.hid (HF.out.then0 f9)
                                  have HB9 := f9.keep HB.out (by simp)
                                  have z0 : w9.cell? ⟨w.heap.size, 0, none⟩ = _ := cell_of HB9
                                  have z1 : w9.cell? ⟨w.heap.size, 1, none⟩ = _ := cell_of HB9
                                  have z3 : w9.cell? ⟨w.heap.size, 3, none⟩ = _ := cell_of HB9
                                  clear f9 HB9 x0 x1 x2 x3 x4 x5 x6
                                  go_wp2_with fail
                                  go_ret
                                  exact ⟨by simp <;> omega, HF9.out⟩
                              · skip
                                as_aux_lemma =>
                                  obtain rfl : V = false := by rw [← HV.out]; unfold vM; (repeat' split) <;> first | rfl | omega | (simp; omega) | simp_all | (simp_all; omega)
                                  clear HV
                                  obtain rfl : op = true := HOP.out.2 (by omega)
                                  go_wp2_with fail
                                  refine HOC.out.mono ?_
                                  rintro e w9 ⟨rfl, f9⟩
                                  have HF9 := Lib.hid (HF.out.then0 f9)
                                  have HB9 := f9.keep HB.out (by simp)
                                  have z0 : w9.cell? ⟨w.heap.size, 0, none⟩ = _ := cell_of HB9
                                  have z1 : w9.cell? ⟨w.heap.size, 1, none⟩ = _ := cell_of HB9
                                  have z3 : w9.cell? ⟨w.heap.size, 3, none⟩ = _ := cell_of HB9
                                  clear f9 HB9 x0 x1 x2 x3 x4 x5 x6
                                  go_wp2_with fail
                                  go_ret
                                  exact ⟨by simp <;> omega, HF9.out⟩
                          · skip
                            as_aux_lemma =>
                              obtain rfl : V = true := by rw [← HV.out]; unfold vM; (repeat' split) <;> first | rfl | omega | (simp; omega) | simp_all | (simp_all; omega)
                              clear HV
                              obtain rfl : op = false := by cases op with | false => rfl | true => exact absurd (HOP.out.1 rfl) (by omega)
                              go_wp2_with fail
                              refine HOC.out.mono ?_
                              rintro e w9 ⟨rfl, f9⟩
                              have HF9 := Lib.hid (HF.out.then0 f9)
                              have HB9 := f9.keep HB.out (by simp)
                              have z0 : w9.cell? ⟨w.heap.size, 0, none⟩ = _ := cell_of HB9
                              have z1 : w9.cell? ⟨w.heap.size, 1, none⟩ = _ := cell_of HB9
                              have z3 : w9.cell? ⟨w.heap.size, 3, none⟩ = _ := cell_of HB9
                              clear f9 HB9 x0 x1 x2 x3 x4 x5 x6
                              go_wp2_with fail
                              go_ret
                              exact ⟨by simp <;> omega, HF9.out⟩
                · skip
                  by_cases h8 : 0 < Q
                  · skip
                    as_aux_lemma =>
                      obtain rfl : V = false := by rw [← HV.out]; unfold vM; (repeat' split) <;> first | rfl | omega | (simp; omega) | simp_all | (simp_all; omega)
                      clear HV
                      go_wp2_with fail
                      go_ret
                      exact ⟨by simp <;> omega, HF.out⟩
                  · skip
                    by_cases hb : busy = false
                    · subst hb
                      by_cases h9 : R = 0
                      · subst h9
                        by_cases h10 : acc = 0
                        · subst h10
                          as_aux_lemma =>
                            obtain rfl : V = true := by rw [← HV.out]; unfold vM; (repeat' split) <;> first | rfl | omega | (simp; omega) | simp_all | (simp_all; omega)
                            clear HV
                            go_wp2_with fail
                            go_ret
                            exact ⟨by simp <;> omega, HF.out⟩
                        · skip
                          as_aux_lemma =>
                            obtain rfl : V = false := by rw [← HV.out]; unfold vM; (repeat' split) <;> first | rfl | omega | (simp; omega) | simp_all | (simp_all; omega)
                            clear HV
                            go_wp2_with fail
                            go_ret
                            exact ⟨by simp <;> omega, HF.out⟩
                      · skip
                        as_aux_lemma =>
                          obtain rfl : V = false := by rw [← HV.out]; unfold vM; (repeat' split) <;> first | rfl | omega | (simp; omega) | simp_all | (simp_all; omega)
                          clear HV
                          go_wp2_with fail
                          go_ret
                          exact ⟨by simp <;> omega, HF.out⟩
                    · skip
                      obtain rfl : busy = true := by simpa using hb
                      clear hb
                      by_cases h11 : acc < 0
                      · skip
                        as_aux_lemma =>
                          obtain rfl : V = false := by rw [← HV.out]; unfold vM; (repeat' split) <;> first | rfl | omega | (simp; omega) | simp_all | (simp_all; omega)
                          clear HV
                          go_wp2_with fail
                          go_ret
                          exact ⟨by simp <;> omega, HF.out⟩
                      · skip
                        by_cases h12 : 65536 < acc
                        · skip
                          as_aux_lemma =>
                            obtain rfl : V = false := by rw [← HV.out]; unfold vM; (repeat' split) <;> first | rfl | omega | (simp; omega) | simp_all | (simp_all; omega)
                            clear HV
                            go_wp2_with fail
                            go_ret
                            exact ⟨by simp <;> omega, HF.out⟩
                        · skip
                          have hwr : IntKind.i64.wrap (acc + (R : Int)) = acc + R := IntWalk.i64_in _ (by omega)
                          by_cases h13 : 65536 < acc + R
                          · skip
                            as_aux_lemma =>
                              obtain rfl : V = false := by rw [← HV.out]; unfold vM; (repeat' split) <;> first | rfl | omega | (simp; omega) | simp_all | (simp_all; omega)
                              clear HV
                              go_wp2_with fail
                              go_ret
                              exact ⟨by simp <;> omega, HF.out⟩
                          · skip
                            as_aux_lemma =>
                              obtain rfl : V = true := by rw [← HV.out]; unfold vM; (repeat' split) <;> first | rfl | omega | (simp; omega) | simp_all | (simp_all; omega)
                              clear HV
                              obtain rfl : op = false := by cases op with | false => rfl | true => exact absurd (HOP.out.1 rfl) (by omega)
                              go_wp2_with fail
                              refine HOC.out.mono ?_
                              rintro e w9 ⟨rfl, f9⟩
                              have HF9 := Lib.hid (HF.out.then0 f9)
                              have HB9 := f9.keep HB.out (by simp)
                              have z0 : w9.cell? ⟨w.heap.size, 0, none⟩ = _ := cell_of HB9
                              have z1 : w9.cell? ⟨w.heap.size, 1, none⟩ = _ := cell_of HB9
                              have z3 : w9.cell? ⟨w.heap.size, 3, none⟩ = _ := cell_of HB9
                              clear f9 HB9 x0 x1 x2 x3 x4 x5 x6
                              go_wp2_with fail
                              go_ret
                              exact ⟨by simp <;> omega, HF9.out⟩
end Go.Proofs.Ytdoamelhclnphaa
