/-
  Which states are valid: stream's answer.
-/
import Derived.Test.YtdoamelhclnphaaStValidA
namespace Go.Proofs.Ytdoamelhclnphaa
open Go.RowKit
set_option maxRecDepth 100000

theorem valid_ok (w : World) {x : Int} (h : 0 ≤ x ∧ x ≤ 1000) : Calls Try.prog 91 #[.int .i64 x] w fun e w' => e = .returned (.bool true) ∧ w = w' := by
  obtain ⟨h1, h2⟩ := h
  go_enter Try.func91, Try.ntmps91
  go_wp2_with fail
  go_ret
  exact ⟨by simp <;> omega, rfl⟩
theorem valid_no (w : World) {x : Int} (h : x < 0 ∨ 1000 < x) : Calls Try.prog 91 #[.int .i64 x] w fun e w' => e = .returned (.bool false) ∧ w = w' := by
  rcases h with h | h
  · skip
    go_enter Try.func91, Try.ntmps91
    go_wp2_with fail
    go_ret
    exact ⟨by simp <;> omega, rfl⟩
  · have h0 : 0 ≤ x := by omega
    go_enter Try.func91, Try.ntmps91
    go_wp2_with fail
    go_ret
    exact ⟨by simp <;> omega, rfl⟩
set_option maxHeartbeats 40000000 in
theorem st_valid0 {w : World} {c acc x y : Int} {Q R : Nat} {a1 a2 : Option Addr} {k1 k2 : Nat} {busy op : Bool} (hQ : Q ≤ 1000000) (hR : R ≤ 1000000) (hop : op = true ↔ x = 0 ∧ y = 0) :
    Calls Try.prog 46 #[.agg #[.int .i64 c, .slice a1 Q k1, .bool busy, .slice a2 R k2, .int .i64 acc, .int .i64 x, .int .i64 y]] w fun e w' => e = .returned (.bool (vM c Q busy R acc x y)) ∧ Fr [] w w' := by
  obtain ⟨V, hV⟩ : ∃ V, vM c Q busy R acc x y = V := ⟨_, rfl⟩
  rw [hV]
  have HV := Lib.hid hV
  clear hV
  have HOP := Lib.hid hop
  clear hop
  obtain ⟨w0, hw0, f0, q0⟩ : ∃ W, w.alloc (.cells #[.int .i64 c, .slice a1 Q k1, .bool busy, .slice a2 R k2, .int .i64 acc, .int .i64 x, .int .i64 y] 41) = W ∧ Fr [] w W ∧ S7 W w.heap.size c a1 Q k1 busy a2 R k2 acc x y := ⟨_, rfl, (Fr.refl _ _).alloc _, newA rfl⟩
  obtain ⟨x0, x1, x2, x3, x4, x5, x6, _, _, _, _, _, _, _⟩ := q0.cells
  have HF := Lib.hid f0
  have HB := Lib.hid q0
  clear q0 f0
  go_enter Try.func46, Try.ntmps46
  go_upto_region 2 with fail
  clear hw0
  go_cut [4] (fun v wx => v = .bool op ∧ wx = w0)
  case first =>
    by_cases hx : x = 0
    · by_cases hy : y = 0
      · obtain rfl : op = true := HOP.out.2 ⟨hx, hy⟩
        subst hx hy
        clear HV HOP
        go_wp2_with fail
        go_meet
        exact ⟨rfl, rfl⟩
      · obtain rfl : op = false := by cases op with | false => rfl | true => exact absurd (HOP.out.1 rfl) (by omega)
        subst hx
        clear HV HOP
        go_wp2_with fail
        go_meet
        exact ⟨by simp [hy], rfl⟩
    · obtain rfl : op = false := by cases op with | false => rfl | true => exact absurd (HOP.out.1 rfl) (by omega)
      clear HV HOP
      go_wp2_with fail
      go_meet
      exact ⟨rfl, rfl⟩
  case rest =>
    obtain ⟨rfl, rfl⟩ := hcut
    by_cases h1 : c < 0
    · skip
      as_aux_lemma =>
        obtain rfl : V = false := by rw [← HV.out]; unfold vM; (repeat' split) <;> first | rfl | omega | (simp; omega) | simp_all | (simp_all; omega)
        clear HV
        go_wp2_with fail
        go_ret
        exact ⟨by simp <;> omega, HF.out⟩
    · skip
      by_cases h2 : 4096 < c
      · skip
        as_aux_lemma =>
          obtain rfl : V = false := by rw [← HV.out]; unfold vM; (repeat' split) <;> first | rfl | omega | (simp; omega) | simp_all | (simp_all; omega)
          clear HV
          go_wp2_with fail
          go_ret
          exact ⟨by simp <;> omega, HF.out⟩
      · skip
        by_cases h3 : c < Q
        · skip
          as_aux_lemma =>
            obtain rfl : V = false := by rw [← HV.out]; unfold vM; (repeat' split) <;> first | rfl | omega | (simp; omega) | simp_all | (simp_all; omega)
            clear HV
            go_wp2_with fail
            go_ret
            exact ⟨by simp <;> omega, HF.out⟩
        · skip
          by_cases h4 : x < 0
          · skip
            as_aux_lemma =>
              obtain rfl : V = false := by rw [← HV.out]; unfold vM; (repeat' split) <;> first | rfl | omega | (simp; omega) | simp_all | (simp_all; omega)
              clear HV
              go_wp2_with fail
              refine (valid_no _ (by omega)).mono ?_
              rintro e w' ⟨rfl, rfl⟩
              go_wp2_with fail
              go_ret
              exact ⟨by simp <;> omega, HF.out⟩
          · skip
            by_cases h5 : 1000 < x
            · skip
              as_aux_lemma =>
                obtain rfl : V = false := by rw [← HV.out]; unfold vM; (repeat' split) <;> first | rfl | omega | (simp; omega) | simp_all | (simp_all; omega)
                clear HV
                go_wp2_with fail
                refine (valid_no _ (by omega)).mono ?_
                rintro e w' ⟨rfl, rfl⟩
                go_wp2_with fail
                go_ret
                exact ⟨by simp <;> omega, HF.out⟩
            · skip
              by_cases h6 : y < 0
              · skip
                as_aux_lemma =>
                  obtain rfl : V = false := by rw [← HV.out]; unfold vM; (repeat' split) <;> first | rfl | omega | (simp; omega) | simp_all | (simp_all; omega)
                  clear HV
                  go_wp2_with fail
                  refine (valid_ok _ (by omega)).mono ?_
                  rintro e w' ⟨rfl, rfl⟩
                  go_wp2_with fail
                  refine (valid_no _ (by omega)).mono ?_
                  rintro e w' ⟨rfl, rfl⟩
                  go_wp2_with fail
                  go_ret
                  exact ⟨by simp <;> omega, HF.out⟩
              · skip
                by_cases h7 : 1000 < y
                · skip
                  as_aux_lemma =>
                    obtain rfl : V = false := by rw [← HV.out]; unfold vM; (repeat' split) <;> first | rfl | omega | (simp; omega) | simp_all | (simp_all; omega)
                    clear HV
                    go_wp2_with fail
                    refine (valid_ok _ (by omega)).mono ?_
                    rintro e w' ⟨rfl, rfl⟩
                    go_wp2_with fail
                    refine (valid_no _ (by omega)).mono ?_
                    rintro e w' ⟨rfl, rfl⟩
                    go_wp2_with fail
                    go_ret
                    exact ⟨by simp <;> omega, HF.out⟩
                · skip
                  by_cases hy : y = 0
                  · subst hy
                    by_cases hb : busy = false
                    · subst hb
                      by_cases h9 : R = 0
                      · subst h9
                        by_cases h10 : acc = 0
                        · subst h10
                          as_aux_lemma =>
                            obtain rfl : V = true := by rw [← HV.out]; unfold vM; (repeat' split) <;> first | rfl | omega | (simp; omega) | simp_all | (simp_all; omega)
                            clear HV
                            go_wp2_with fail
                            refine (valid_ok _ (by omega)).mono ?_
                            rintro e w' ⟨rfl, rfl⟩
                            go_wp2_with fail
                            refine (valid_ok _ (by omega)).mono ?_
                            rintro e w' ⟨rfl, rfl⟩
                            go_wp2_with fail
                            go_ret
                            exact ⟨by simp <;> omega, HF.out⟩
                        · skip
                          as_aux_lemma =>
                            obtain rfl : V = false := by rw [← HV.out]; unfold vM; (repeat' split) <;> first | rfl | omega | (simp; omega) | simp_all | (simp_all; omega)
                            clear HV
                            go_wp2_with fail
                            refine (valid_ok _ (by omega)).mono ?_
                            rintro e w' ⟨rfl, rfl⟩
                            go_wp2_with fail
                            refine (valid_ok _ (by omega)).mono ?_
                            rintro e w' ⟨rfl, rfl⟩
                            go_wp2_with fail
                            go_ret
                            exact ⟨by simp <;> omega, HF.out⟩
                      · skip
                        as_aux_lemma =>
                          obtain rfl : V = false := by rw [← HV.out]; unfold vM; (repeat' split) <;> first | rfl | omega | (simp; omega) | simp_all | (simp_all; omega)
                          clear HV
                          go_wp2_with fail
                          refine (valid_ok _ (by omega)).mono ?_
                          rintro e w' ⟨rfl, rfl⟩
                          go_wp2_with fail
                          refine (valid_ok _ (by omega)).mono ?_
                          rintro e w' ⟨rfl, rfl⟩
                          go_wp2_with fail
                          go_ret
                          exact ⟨by simp <;> omega, HF.out⟩
                    · skip
                      obtain rfl : busy = true := by simpa using hb
                      clear hb
                      by_cases h11 : acc < 0
                      · skip
                        as_aux_lemma =>
                          obtain rfl : V = false := by rw [← HV.out]; unfold vM; (repeat' split) <;> first | rfl | omega | (simp; omega) | simp_all | (simp_all; omega)
                          clear HV
                          go_wp2_with fail
                          refine (valid_ok _ (by omega)).mono ?_
                          rintro e w' ⟨rfl, rfl⟩
                          go_wp2_with fail
                          refine (valid_ok _ (by omega)).mono ?_
                          rintro e w' ⟨rfl, rfl⟩
                          go_wp2_with fail
                          go_ret
                          exact ⟨by simp <;> omega, HF.out⟩
                      · skip
                        by_cases h12 : 65536 < acc
                        · skip
                          as_aux_lemma =>
                            obtain rfl : V = false := by rw [← HV.out]; unfold vM; (repeat' split) <;> first | rfl | omega | (simp; omega) | simp_all | (simp_all; omega)
                            clear HV
                            go_wp2_with fail
                            refine (valid_ok _ (by omega)).mono ?_
                            rintro e w' ⟨rfl, rfl⟩
                            go_wp2_with fail
                            refine (valid_ok _ (by omega)).mono ?_
                            rintro e w' ⟨rfl, rfl⟩
                            go_wp2_with fail
                            go_ret
                            exact ⟨by simp <;> omega, HF.out⟩
                        · skip
                          have hwr : IntKind.i64.wrap (acc + (R : Int)) = acc + R := IntWalk.i64_in _ (by omega)
                          by_cases h13 : 65536 < acc + R
                          · skip
                            as_aux_lemma =>
                              obtain rfl : V = false := by rw [← HV.out]; unfold vM; (repeat' split) <;> first | rfl | omega | (simp; omega) | simp_all | (simp_all; omega)
                              clear HV
                              go_wp2_with fail
                              refine (valid_ok _ (by omega)).mono ?_
                              rintro e w' ⟨rfl, rfl⟩
                              go_wp2_with fail
                              refine (valid_ok _ (by omega)).mono ?_
                              rintro e w' ⟨rfl, rfl⟩
                              go_wp2_with fail
                              go_ret
                              exact ⟨by simp <;> omega, HF.out⟩
                          · skip
                            by_cases hx : x = 0
                            · subst hx
                              by_cases h14 : R = 0
                              · subst h14
                                as_aux_lemma =>
                                  obtain rfl : V = true := by rw [← HV.out]; unfold vM; (repeat' split) <;> first | rfl | omega | (simp; omega) | simp_all | (simp_all; omega)
                                  clear HV
                                  obtain rfl : op = true := HOP.out.2 (by omega)
                                  clear HOP
                                  go_wp2_with fail
                                  refine (valid_ok _ (by omega)).mono ?_
                                  rintro e w' ⟨rfl, rfl⟩
                                  go_wp2_with fail
                                  refine (valid_ok _ (by omega)).mono ?_
                                  rintro e w' ⟨rfl, rfl⟩
                                  go_wp2_with fail
                                  go_ret
                                  exact ⟨by simp <;> omega, HF.out⟩
                              · skip
                                by_cases h15 : (Q : Int) = c
                                · subst h15
                                  as_aux_lemma =>
                                    obtain rfl : V = true := by rw [← HV.out]; unfold vM; (repeat' split) <;> first | rfl | omega | (simp; omega) | simp_all | (simp_all; omega)
                                    clear HV
                                    obtain rfl : op = true := HOP.out.2 (by omega)
                                    clear HOP
                                    go_wp2_with fail
                                    refine (valid_ok _ (by omega)).mono ?_
                                    rintro e w' ⟨rfl, rfl⟩
                                    go_wp2_with fail
                                    refine (valid_ok _ (by omega)).mono ?_
                                    rintro e w' ⟨rfl, rfl⟩
                                    go_wp2_with fail
                                    go_ret
                                    exact ⟨by simp <;> omega, HF.out⟩
                                · skip
                                  as_aux_lemma =>
                                    obtain rfl : V = false := by rw [← HV.out]; unfold vM; (repeat' split) <;> first | rfl | omega | (simp; omega) | simp_all | (simp_all; omega)
                                    clear HV
                                    obtain rfl : op = true := HOP.out.2 (by omega)
                                    clear HOP
                                    go_wp2_with fail
                                    refine (valid_ok _ (by omega)).mono ?_
                                    rintro e w' ⟨rfl, rfl⟩
                                    go_wp2_with fail
                                    refine (valid_ok _ (by omega)).mono ?_
                                    rintro e w' ⟨rfl, rfl⟩
                                    go_wp2_with fail
                                    go_ret
                                    exact ⟨by simp <;> omega, HF.out⟩
                            · skip
                              as_aux_lemma =>
                                obtain rfl : V = true := by rw [← HV.out]; unfold vM; (repeat' split) <;> first | rfl | omega | (simp; omega) | simp_all | (simp_all; omega)
                                clear HV
                                obtain rfl : op = false := by cases op with | false => rfl | true => exact absurd (HOP.out.1 rfl) (by omega)
                                clear HOP
                                go_wp2_with fail
                                refine (valid_ok _ (by omega)).mono ?_
                                rintro e w' ⟨rfl, rfl⟩
                                go_wp2_with fail
                                refine (valid_ok _ (by omega)).mono ?_
                                rintro e w' ⟨rfl, rfl⟩
                                go_wp2_with fail
                                go_ret
                                exact ⟨by simp <;> omega, HF.out⟩
                  · skip
                    by_cases h8 : 0 < Q
                    · skip
                      as_aux_lemma =>
                        obtain rfl : V = false := by rw [← HV.out]; unfold vM; (repeat' split) <;> first | rfl | omega | (simp; omega) | simp_all | (simp_all; omega)
                        clear HV
                        go_wp2_with fail
                        refine (valid_ok _ (by omega)).mono ?_
                        rintro e w' ⟨rfl, rfl⟩
                        go_wp2_with fail
                        refine (valid_ok _ (by omega)).mono ?_
                        rintro e w' ⟨rfl, rfl⟩
                        go_wp2_with fail
                        go_ret
                        exact ⟨by simp <;> omega, HF.out⟩
                    · skip
                      by_cases hb : busy = false
                      · subst hb
                        by_cases h9 : R = 0
                        · subst h9
                          by_cases h10 : acc = 0
                          · subst h10
                            as_aux_lemma =>
                              obtain rfl : V = true := by rw [← HV.out]; unfold vM; (repeat' split) <;> first | rfl | omega | (simp; omega) | simp_all | (simp_all; omega)
                              clear HV
                              go_wp2_with fail
                              refine (valid_ok _ (by omega)).mono ?_
                              rintro e w' ⟨rfl, rfl⟩
                              go_wp2_with fail
                              refine (valid_ok _ (by omega)).mono ?_
                              rintro e w' ⟨rfl, rfl⟩
                              go_wp2_with fail
                              go_ret
                              exact ⟨by simp <;> omega, HF.out⟩
                          · skip
                            as_aux_lemma =>
                              obtain rfl : V = false := by rw [← HV.out]; unfold vM; (repeat' split) <;> first | rfl | omega | (simp; omega) | simp_all | (simp_all; omega)
                              clear HV
                              go_wp2_with fail
                              refine (valid_ok _ (by omega)).mono ?_
                              rintro e w' ⟨rfl, rfl⟩
                              go_wp2_with fail
                              refine (valid_ok _ (by omega)).mono ?_
                              rintro e w' ⟨rfl, rfl⟩
                              go_wp2_with fail
                              go_ret
                              exact ⟨by simp <;> omega, HF.out⟩
                        · skip
                          as_aux_lemma =>
                            obtain rfl : V = false := by rw [← HV.out]; unfold vM; (repeat' split) <;> first | rfl | omega | (simp; omega) | simp_all | (simp_all; omega)
                            clear HV
                            go_wp2_with fail
                            refine (valid_ok _ (by omega)).mono ?_
                            rintro e w' ⟨rfl, rfl⟩
                            go_wp2_with fail
                            refine (valid_ok _ (by omega)).mono ?_
                            rintro e w' ⟨rfl, rfl⟩
                            go_wp2_with fail
                            go_ret
                            exact ⟨by simp <;> omega, HF.out⟩
                      · skip
                        obtain rfl : busy = true := by simpa using hb
                        clear hb
                        by_cases h11 : acc < 0
                        · skip
                          as_aux_lemma =>
                            obtain rfl : V = false := by rw [← HV.out]; unfold vM; (repeat' split) <;> first | rfl | omega | (simp; omega) | simp_all | (simp_all; omega)
                            clear HV
                            go_wp2_with fail
                            refine (valid_ok _ (by omega)).mono ?_
                            rintro e w' ⟨rfl, rfl⟩
                            go_wp2_with fail
                            refine (valid_ok _ (by omega)).mono ?_
                            rintro e w' ⟨rfl, rfl⟩
                            go_wp2_with fail
                            go_ret
                            exact ⟨by simp <;> omega, HF.out⟩
                        · skip
                          by_cases h12 : 65536 < acc
                          · skip
                            as_aux_lemma =>
                              obtain rfl : V = false := by rw [← HV.out]; unfold vM; (repeat' split) <;> first | rfl | omega | (simp; omega) | simp_all | (simp_all; omega)
                              clear HV
                              go_wp2_with fail
                              refine (valid_ok _ (by omega)).mono ?_
                              rintro e w' ⟨rfl, rfl⟩
                              go_wp2_with fail
                              refine (valid_ok _ (by omega)).mono ?_
                              rintro e w' ⟨rfl, rfl⟩
                              go_wp2_with fail
                              go_ret
                              exact ⟨by simp <;> omega, HF.out⟩
                          · skip
                            have hwr : IntKind.i64.wrap (acc + (R : Int)) = acc + R := IntWalk.i64_in _ (by omega)
                            by_cases h13 : 65536 < acc + R
                            · skip
                              as_aux_lemma =>
                                obtain rfl : V = false := by rw [← HV.out]; unfold vM; (repeat' split) <;> first | rfl | omega | (simp; omega) | simp_all | (simp_all; omega)
                                clear HV
                                go_wp2_with fail
                                refine (valid_ok _ (by omega)).mono ?_
                                rintro e w' ⟨rfl, rfl⟩
                                go_wp2_with fail
                                refine (valid_ok _ (by omega)).mono ?_
                                rintro e w' ⟨rfl, rfl⟩
                                go_wp2_with fail
                                go_ret
                                exact ⟨by simp <;> omega, HF.out⟩
                            · skip
                              as_aux_lemma =>
                                obtain rfl : V = true := by rw [← HV.out]; unfold vM; (repeat' split) <;> first | rfl | omega | (simp; omega) | simp_all | (simp_all; omega)
                                clear HV
                                obtain rfl : op = false := by cases op with | false => rfl | true => exact absurd (HOP.out.1 rfl) (by omega)
                                clear HOP
                                go_wp2_with fail
                                refine (valid_ok _ (by omega)).mono ?_
                                rintro e w' ⟨rfl, rfl⟩
                                go_wp2_with fail
                                refine (valid_ok _ (by omega)).mono ?_
                                rintro e w' ⟨rfl, rfl⟩
                                go_wp2_with fail
                                go_ret
                                exact ⟨by simp <;> omega, HF.out⟩
end Go.Proofs.Ytdoamelhclnphaa
