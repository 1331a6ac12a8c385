/-
  Law 5: RopeJoins.
-/
import Derived.Test.YtpkgjgfdobcboaaKnown05
namespace Go.Proofs.Ytpkgjgfdobcboaa
open Go.RowKit Go.Shelf
set_option maxRecDepth 100000

theorem Rs.form {w : World} {N : Nat → Prop} {v : Value} {P : Parts} (h : Rs w N v P) : ∃ a n c, v = .agg #[.slice a n c] := by
  obtain ⟨a, c, rfl, _⟩ := h
  exact ⟨_, _, _, rfl⟩
/-- A box that holds a rope of the reference. -/
structure Rd (w : World) (N : Nat → Prop) (b : Nat) (a : Option Addr) (n c : Nat) (P : Parts) : Prop where
  q : w.heap[b]? = some (.cells #[.slice a n c] 69 (0, 0))
  r : Rs w N (.agg #[.slice a n c]) P
theorem Rd.keep {w w' : World} {N : Nat → Prop} {b : Nat} {a : Option Addr} {n c : Nat} {P : Parts} (h : Rd w N b a n c P) {S : List Nat} (f : Fr S w w') (hb : b ∉ S) (hN : ∀ x ∈ S, ¬ N x) : Rd w' N b a n c P := ⟨f.keep h.q hb, h.r.keep f hN⟩
theorem Rd.c0 {w : World} {N : Nat → Prop} {b : Nat} {a : Option Addr} {n c : Nat} {P : Parts} (h : Rd w N b a n c P) : w.cell? ⟨b, 0, none⟩ = some (.slice a n c) := cell_of h.q
theorem Rd.lt {w : World} {N : Nat → Prop} {b : Nat} {a : Option Addr} {n c : Nat} {P : Parts} (h : Rd w N b a n c P) : b < w.heap.size := lt_of_heap h.q
theorem Rd.new1 {w : World} {N : Nat → Prop} {a : Option Addr} {n c : Nat} {P : Parts} (h : Rs w N (.agg #[.slice a n c]) P) : ∃ W B, W = w.alloc (.cells #[.slice a n c] 69) ∧ B = w.heap.size ∧ B + 1 = W.heap.size ∧ Fr [] w W ∧ Hid (Rd W N B a n c P) :=
  ⟨_, _, rfl, rfl, by simp, (Fr.refl _ _).alloc _, Lib.hid ⟨newA rfl, h.keep ((Fr.refl [] w).alloc _) (by simp)⟩⟩
theorem Rd.two {w : World} {N N' : Nat → Prop} {a a' : Option Addr} {n c n' c' : Nat} {P P' : Parts} (h : Rs w N (.agg #[.slice a n c]) P) (h' : Rs w N' (.agg #[.slice a' n' c']) P') :
    ∃ W B C, W = (w.alloc (.cells #[.slice a n c] 69)).alloc (.cells #[.slice a' n' c'] 69) ∧ B = w.heap.size ∧ C = w.heap.size + 1 ∧ C + 1 = W.heap.size ∧ Fr [] w W ∧ Hid (Rd W N B a n c P) ∧ Hid (Rd W N' C a' n' c' P') := by
  have f : Fr [] w ((w.alloc (.cells #[.slice a n c] 69)).alloc (.cells #[.slice a' n' c'] 69)) := ((Fr.refl _ _).alloc _).alloc _
  exact ⟨_, _, _, rfl, rfl, rfl, by simp, f, Lib.hid ⟨keepA (newA rfl), h.keep f (by simp)⟩, Lib.hid ⟨newA (by simp), h'.keep f (by simp)⟩⟩
theorem Bd.two' {w : World} {N N' : Nat → Prop} {a a' : Option Addr} {n c n' c' : Nat} {t t' : Int} {P P' : Parts} (h : Rp w N (.agg #[.slice a n c, .int .i64 t]) P) (h' : Rp w N' (.agg #[.slice a' n' c', .int .i64 t']) P') :
    ∃ W B C, W = (w.alloc (.cells #[.slice a n c, .int .i64 t] 65)).alloc (.cells #[.slice a' n' c', .int .i64 t'] 65) ∧ B = w.heap.size ∧ C = w.heap.size + 1 ∧ C + 1 = W.heap.size ∧ Fr [] w W ∧ Hid (Bd W N B a n c t P) ∧ Hid (Bd W N' C a' n' c' t' P') := by
  have f : Fr [] w ((w.alloc (.cells #[.slice a n c, .int .i64 t] 65)).alloc (.cells #[.slice a' n' c', .int .i64 t'] 65)) := ((Fr.refl _ _).alloc _).alloc _
  exact ⟨_, _, _, rfl, rfl, rfl, by simp, f, Lib.hid ⟨keepA (newA rfl), h.keep f (by simp)⟩, Lib.hid ⟨newA (by simp), h'.keep f (by simp)⟩⟩
theorem small5_of {P : Parts} (h : small5 P = true) : P.length ≤ 1100 ∧ tot P ≤ 70000 := by
  unfold small5 at h
  simpa using h
theorem small5_parts {P : Parts} (h : small5 P = true) : ∀ p ∈ P, p.length ≤ 1000000 := fun p hp => by
  have := part_le hp
  have := (small5_of h).2
  omega

theorem same05y {w : World} {N N' : Nat → Prop} {u v : Value} {P : Parts} (h : Rs w N u P) (h' : Rs w N' v P) (hn : P.length ≤ 1000000) :
    Calls Try.prog 46 #[u, v] w fun e w' => e = .returned (.bool true) ∧ Fr [] w w' := by
  refine (ref5_same h h' hn).mono fun e w' he => ?_
  rw [decide_eq_true rfl] at he
  exact he

set_option maxHeartbeats 8000000 in
theorem ropeJoins_walk {w : World} {M : Nat} {a b : Option Addr} {len cap dlen dcap : Nat} {P Q : Parts} (h : StrsAt w M a len cap P) (k : StrsAt w M b dlen dcap Q) :
    Calls Try.prog 11 #[.slice a len cap, .slice b dlen dcap] w fun e w' => e = .returned (.bool true) ∧ Fr [] w w' := by
  have HS1 := small05 h
  have HS2 := small05 k
  by_cases s1 : small5 P = true
  rotate_left
  · rw [show small5 P = false from by simpa using s1] at HS1
    replace HS1 := Lib.hid HS1
    clear HS2 h k s1
    go_enter Try.func11, Try.ntmps11
    go_wp2_with fail
    refine HS1.out.mono ?_
    rintro e w' ⟨rfl, rfl⟩
    go_wp2_with fail
    refine (known05 _).mono ?_
    rintro e w' ⟨rfl, f⟩
    go_wp2_with fail
    go_ret
    exact ⟨rfl, f⟩
  by_cases s2 : small5 Q = true
  rotate_left
  · rw [s1] at HS1
    rw [show small5 Q = false from by simpa using s2] at HS2
    replace HS1 := Lib.hid HS1
    replace HS2 := Lib.hid HS2
    clear h k s1 s2
    go_enter Try.func11, Try.ntmps11
    go_wp2_with fail
    refine HS1.out.mono ?_
    rintro e w' ⟨rfl, rfl⟩
    go_wp2_with fail
    refine HS2.out.mono ?_
    rintro e w' ⟨rfl, rfl⟩
    go_wp2_with fail
    refine (known05 _).mono ?_
    rintro e w' ⟨rfl, f⟩
    go_wp2_with fail
    go_ret
    exact ⟨rfl, f⟩
  rw [s1] at HS1
  rw [s2] at HS2
  replace HS1 := Lib.hid HS1
  replace HS2 := Lib.hid HS2
  have hp := small5_of s1
  have hq := small5_of s2
  have HM1 := Lib.hid fun (w1 : World) (f : Fr [] w w1) => made05 (cap := cap) (h.sl.keep f (by simp)) h.len_eq (by have := h.len_eq; omega) (small5_parts s1)
  have HN1 := Lib.hid fun (w1 : World) (f : Fr [] w w1) => (ref5_new (cap := cap) (show SlV w1 _ (sv P) from h.sl.keep f (by simp)) h.len_eq (by omega) (by omega)).mono fun e w2 hr => hr.u
  have HF1 := Lib.hid (newP_full P)
  have HL1 := Lib.hid (newP_len P)
  have HM2 := Lib.hid fun (w1 : World) (f : Fr [] w w1) => made05 (cap := dcap) (k.sl.keep f (by simp)) k.len_eq (by have := k.len_eq; omega) (small5_parts s2)
  have HN2 := Lib.hid fun (w1 : World) (f : Fr [] w w1) => (ref5_new (cap := dcap) (show SlV w1 _ (sv Q) from k.sl.keep f (by simp)) k.len_eq (by omega) (by omega)).mono fun e w2 hr => hr.u
  have HF2 := Lib.hid (newP_full Q)
  have HL2 := Lib.hid (newP_len Q)
  clear h k hp hq s1 s2
  unfold NewU at HM1 HM2
  unfold RefU at HN1 HN2
  generalize newP P = X at *
  generalize newP Q = Y at *
  generalize newE P = e1 at *
  generalize newE Q = e2 at *
  have hx := HL1.out
  have hy := HL2.out
  obtain ⟨F1, hF1⟩ : ∃ F, X.flatten = F := ⟨_, rfl⟩
  obtain ⟨F2, hF2⟩ : ∃ F, Y.flatten = F := ⟨_, rfl⟩
  obtain ⟨Eb, hEb⟩ : ∃ b, (F1 == F2) = b := ⟨_, rfl⟩
  have HE1 := Lib.hid fun (w1 : World) (N N' : Nat → Prop) (v u : Value) (h1 : Rp w1 N v X) (h2 : Rp w1 N' u Y) => (show Calls Try.prog 51 #[v, u] w1 fun e w2 => e = .returned (.bool Eb) ∧ Fr [] w1 w2 from by rw [← hEb, ← hF1, ← hF2]; exact rope_equal h1 h2)
  have HE2 := Lib.hid fun (w1 : World) (N N' : Nat → Prop) (v u : Value) (h1 : Rp w1 N v Y) (h2 : Rp w1 N' u X) => (show Calls Try.prog 51 #[v, u] w1 fun e w2 => e = .returned (.bool Eb) ∧ Fr [] w1 w2 from by rw [← hEb, BEq.comm, ← hF1, ← hF2]; exact rope_equal h1 h2)
  have HT1 := Lib.hid fun (w1 : World) (N : Nat → Prop) (v : Value) (h1 : Rs w1 N v X) => (show Calls Try.prog 52 #[v] w1 fun e w2 => e = .returned (.string (st F1)) ∧ Fr [] w1 w2 from by rw [← hF1]; exact ref5_text h1 (by omega) (by omega))
  have HT2 := Lib.hid fun (w1 : World) (N : Nat → Prop) (v : Value) (h1 : Rs w1 N v Y) => (show Calls Try.prog 52 #[v] w1 fun e w2 => e = .returned (.string (st F2)) ∧ Fr [] w1 w2 from by rw [← hF2]; exact ref5_text h1 (by omega) (by omega))
  have hst : (st F1 == st F2) = Eb := by rw [st_beq, hEb]
  clear hF1 hF2
  have hEb2 : (F2 == F1) = Eb := by rw [BEq.comm, hEb]
  have HJ := Lib.hid fun (w1 : World) (N : Nat → Prop) (v u : Value) (h1 : Rp w1 N v X) (h2 : Rp w1 N u Y) => rope_joinU h1 h2 HF1.out HF2.out
  have HR := Lib.hid fun (w1 : World) (N N' : Nat → Prop) (v u : Value) (h1 : Rs w1 N v X) (h2 : Rs w1 N' u Y) => ref5_join h1 h2 (by omega) (by omega) (by omega) (by omega)
  have HL3 := Lib.hid (newP_len (X ++ Y))
  unfold JoinU at HJ
  unfold RefU at HR
  generalize newP (X ++ Y) = Z at *
  generalize newE (X ++ Y) = e3 at *
  clear hx hy
  go_enter Try.func11, Try.ntmps11
  go_wp2_with fail
  refine HS1.out.mono ?_
  rintro e w' ⟨rfl, rfl⟩
  go_wp2_with fail
  refine HS2.out.mono ?_
  rintro e w' ⟨rfl, rfl⟩
  have g0 : Fr [] w w := Fr.refl _ _
  go_wp2_with fail
  refine (HM1.out _ g0).mono ?_
  rintro e w1 ⟨f, v, rfl, hr⟩
  have g1 : Fr [] w w1 := g0.then0 f
  clear g0
  clear f
  replace hr := hr.mono (N' := fun _ => True) (fun _ _ => trivial)
  obtain ⟨a1, n1, c1, t1, rfl⟩ := hr.form
  go_wp2_with fail
  obtain ⟨w2, B1, hW, hB, hD, f, H1⟩ := Bd.new1 hr
  rw [← hW, ← hB]
  try rw [hD]
  clear hW hB hD hr
  have g2 : Fr [] w w2 := g1.then0 f
  clear g1
  clear f
  have x1 := H1.out.c0
  have y1 := H1.out.c1
  have z1 := H1.out.lt
  go_wp2_with fail
  refine (HM2.out _ g2).mono ?_
  rintro e w3 ⟨f, v, rfl, hr⟩
  have g3 : Fr [] w w3 := g2.then0 f
  clear g2
  replace H1 := Lib.hid (H1.out.keep f (by simp) (by simp))
  replace x1 := H1.out.c0
  replace y1 := H1.out.c1
  replace z1 := H1.out.lt
  clear f
  replace hr := hr.mono (N' := fun _ => True) (fun _ _ => trivial)
  obtain ⟨a2, n2, c2, t2, rfl⟩ := hr.form
  go_wp2_with fail
  obtain ⟨w4, B2, hW, hB, hD, f, H2⟩ := Bd.new1 hr
  rw [← hW, ← hB]
  try rw [hD]
  clear hW hB hD hr
  have g4 : Fr [] w w4 := g3.then0 f
  clear g3
  replace H1 := Lib.hid (H1.out.keep f (by simp) (by simp))
  replace x1 := H1.out.c0
  replace y1 := H1.out.c1
  replace z1 := H1.out.lt
  clear f
  have x2 := H2.out.c0
  have y2 := H2.out.c1
  have z2 := H2.out.lt
  go_wp2_with fail
  refine (HN1.out _ g4).mono ?_
  rintro e w5 ⟨f, v, rfl, hr⟩
  have g5 : Fr [] w w5 := g4.then0 f
  clear g4
  replace H1 := Lib.hid (H1.out.keep f (by simp) (by simp))
  replace x1 := H1.out.c0
  replace y1 := H1.out.c1
  replace z1 := H1.out.lt
  replace H2 := Lib.hid (H2.out.keep f (by simp) (by simp))
  replace x2 := H2.out.c0
  replace y2 := H2.out.c1
  replace z2 := H2.out.lt
  clear f
  replace hr := hr.mono (N' := fun _ => True) (fun _ _ => trivial)
  obtain ⟨a3, n3, c3, rfl⟩ := hr.form
  go_wp2_with fail
  obtain ⟨w6, B3, hW, hB, hD, f, H3⟩ := Rd.new1 hr
  rw [← hW, ← hB]
  try rw [hD]
  clear hW hB hD hr
  have g6 : Fr [] w w6 := g5.then0 f
  clear g5
  replace H1 := Lib.hid (H1.out.keep f (by simp) (by simp))
  replace x1 := H1.out.c0
  replace y1 := H1.out.c1
  replace z1 := H1.out.lt
  replace H2 := Lib.hid (H2.out.keep f (by simp) (by simp))
  replace x2 := H2.out.c0
  replace y2 := H2.out.c1
  replace z2 := H2.out.lt
  clear f
  have x3 := H3.out.c0
  have z3 := H3.out.lt
  go_wp2_with fail
  refine (HN2.out _ g6).mono ?_
  rintro e w7 ⟨f, v, rfl, hr⟩
  have g7 : Fr [] w w7 := g6.then0 f
  clear g6
  replace H1 := Lib.hid (H1.out.keep f (by simp) (by simp))
  replace x1 := H1.out.c0
  replace y1 := H1.out.c1
  replace z1 := H1.out.lt
  replace H2 := Lib.hid (H2.out.keep f (by simp) (by simp))
  replace x2 := H2.out.c0
  replace y2 := H2.out.c1
  replace z2 := H2.out.lt
  replace H3 := Lib.hid (H3.out.keep f (by simp) (by simp))
  replace x3 := H3.out.c0
  replace z3 := H3.out.lt
  clear f
  replace hr := hr.mono (N' := fun _ => True) (fun _ _ => trivial)
  obtain ⟨a4, n4, c4, rfl⟩ := hr.form
  go_wp2_with fail
  obtain ⟨w8, B4, hW, hB, hD, f, H4⟩ := Rd.new1 hr
  rw [← hW, ← hB]
  try rw [hD]
  clear hW hB hD hr
  have g8 : Fr [] w w8 := g7.then0 f
  clear g7
  replace H1 := Lib.hid (H1.out.keep f (by simp) (by simp))
  replace x1 := H1.out.c0
  replace y1 := H1.out.c1
  replace z1 := H1.out.lt
  replace H2 := Lib.hid (H2.out.keep f (by simp) (by simp))
  replace x2 := H2.out.c0
  replace y2 := H2.out.c1
  replace z2 := H2.out.lt
  replace H3 := Lib.hid (H3.out.keep f (by simp) (by simp))
  replace x3 := H3.out.c0
  replace z3 := H3.out.lt
  clear f
  have x4 := H4.out.c0
  have z4 := H4.out.lt
  cases Eb
  · skip
    clear x1 y1 z1 x2 y2 z2 x3 z3 x4 z4
    have HS := Lib.hid fun (w' : World) (f : Fr [] w8 w') => (show (fun w' => w'.cell? ⟨B1, 0, none⟩ = some (.slice a1 n1 c1) ∧ w'.cell? ⟨B1, 1, none⟩ = some (.int .i64 t1) ∧ w'.cell? ⟨B2, 0, none⟩ = some (.slice a2 n2 c2) ∧ w'.cell? ⟨B2, 1, none⟩ = some (.int .i64 t2) ∧ w'.cell? ⟨B3, 0, none⟩ = some (.slice a3 n3 c3) ∧ w'.cell? ⟨B4, 0, none⟩ = some (.slice a4 n4 c4)) w' from ⟨(H1.out.keep f (by simp) (by simp)).c0, (H1.out.keep f (by simp) (by simp)).c1, (H2.out.keep f (by simp) (by simp)).c0, (H2.out.keep f (by simp) (by simp)).c1, (H3.out.keep f (by simp) (by simp)).c0, (H4.out.keep f (by simp) (by simp)).c0⟩)
    obtain ⟨q0, q1, q2, q3, q4, q5⟩ := HS.out _ (Fr.refl _ _)
    have hfr : Fr [] w8 w8 := Fr.refl _ _
    go_region_held3 (fun w' => w'.cell? ⟨B1, 0, none⟩ = some (.slice a1 n1 c1) ∧ w'.cell? ⟨B1, 1, none⟩ = some (.int .i64 t1) ∧ w'.cell? ⟨B2, 0, none⟩ = some (.slice a2 n2 c2) ∧ w'.cell? ⟨B2, 1, none⟩ = some (.int .i64 t2) ∧ w'.cell? ⟨B3, 0, none⟩ = some (.slice a3 n3 c3) ∧ w'.cell? ⟨B4, 0, none⟩ = some (.slice a4 n4 c4))
      (first | (with_reducible exact ⟨q0, q1, q2, q3, q4, q5⟩) | ((with_reducible refine HS.out _ ?_; repeat first | (with_reducible exact hfr) | (with_reducible exact Fr.refl _ _) | (with_reducible refine Fr.drew ?_) | (with_reducible refine Fr.alloc ?_ _)); done))
      (first
        | (go_at_call 51; ((with_reducible refine (HE1.out _ _ _ _ _ (H1.out.keep (show Fr [] w8 _ from by first | (with_reducible exact hfr) | (with_reducible exact Fr.drew hfr)) (by simp) (by simp)).r (H2.out.keep (show Fr [] w8 _ from by first | (with_reducible exact hfr) | (with_reducible exact Fr.drew hfr)) (by simp) (by simp)).r).mono ?_); rintro e wz ⟨rfl, fz⟩; replace hfr : Fr [] w8 wz := Fr.then0 (by first | (with_reducible exact hfr) | (with_reducible exact Fr.drew hfr)) fz; obtain ⟨q0, q1, q2, q3, q4, q5⟩ := HS.out _ hfr))
        | (go_at_call 51; ((with_reducible refine (HE2.out _ _ _ _ _ (H2.out.keep (show Fr [] w8 _ from by first | (with_reducible exact hfr) | (with_reducible exact Fr.drew hfr)) (by simp) (by simp)).r (H1.out.keep (show Fr [] w8 _ from by first | (with_reducible exact hfr) | (with_reducible exact Fr.drew hfr)) (by simp) (by simp)).r).mono ?_); rintro e wz ⟨rfl, fz⟩; replace hfr : Fr [] w8 wz := Fr.then0 (by first | (with_reducible exact hfr) | (with_reducible exact Fr.drew hfr)) fz; obtain ⟨q0, q1, q2, q3, q4, q5⟩ := HS.out _ hfr))
        | (go_at_call 52; ((with_reducible refine (HT1.out _ _ _ (H3.out.keep (show Fr [] w8 _ from by first | (with_reducible exact hfr) | (with_reducible exact Fr.drew hfr)) (by simp) (by simp)).r).mono ?_); rintro e wz ⟨rfl, fz⟩; replace hfr : Fr [] w8 wz := Fr.then0 (by first | (with_reducible exact hfr) | (with_reducible exact Fr.drew hfr)) fz; obtain ⟨q0, q1, q2, q3, q4, q5⟩ := HS.out _ hfr))
        | (go_at_call 52; ((with_reducible refine (HT2.out _ _ _ (H4.out.keep (show Fr [] w8 _ from by first | (with_reducible exact hfr) | (with_reducible exact Fr.drew hfr)) (by simp) (by simp)).r).mono ?_); rintro e wz ⟨rfl, fz⟩; replace hfr : Fr [] w8 wz := Fr.then0 (by first | (with_reducible exact hfr) | (with_reducible exact Fr.drew hfr)) fz; obtain ⟨q0, q1, q2, q3, q4, q5⟩ := HS.out _ hfr)))
    go_wp2_with fail
    rename World => w9
    have f := hfr
    clear hfr fz HS q0 q1 q2 q3 q4 q5
    have g9 : Fr [] w w9 := g8.then0 f
    replace H1 := Lib.hid (H1.out.keep f (by simp) (by simp))
    have x1 := H1.out.c0
    have y1 := H1.out.c1
    have z1 := H1.out.lt
    replace H2 := Lib.hid (H2.out.keep f (by simp) (by simp))
    have x2 := H2.out.c0
    have y2 := H2.out.c1
    have z2 := H2.out.lt
    replace H3 := Lib.hid (H3.out.keep f (by simp) (by simp))
    have x3 := H3.out.c0
    have z3 := H3.out.lt
    replace H4 := Lib.hid (H4.out.keep f (by simp) (by simp))
    have x4 := H4.out.c0
    have z4 := H4.out.lt
    clear f
    refine (HJ.out _ _ _ _ H1.out.r H2.out.r).mono ?_
    rintro e w10 ⟨f, v, rfl, hr⟩
    replace hr := hr.mono (N' := fun _ => True) (fun _ _ => trivial)
    have g10 : Fr [] w w10 := g9.then0 f
    clear g9
    replace H1 := Lib.hid (H1.out.keep f (by simp) (by simp))
    replace x1 := H1.out.c0
    replace y1 := H1.out.c1
    replace z1 := H1.out.lt
    replace H2 := Lib.hid (H2.out.keep f (by simp) (by simp))
    replace x2 := H2.out.c0
    replace y2 := H2.out.c1
    replace z2 := H2.out.lt
    replace H3 := Lib.hid (H3.out.keep f (by simp) (by simp))
    replace x3 := H3.out.c0
    replace z3 := H3.out.lt
    replace H4 := Lib.hid (H4.out.keep f (by simp) (by simp))
    replace x4 := H4.out.c0
    replace z4 := H4.out.lt
    clear f
    obtain ⟨a5, n5, c5, t5, rfl⟩ := hr.form
    go_wp2_with fail
    obtain ⟨w11, B5, hW, hB, hD, f, H5⟩ := Bd.new1 hr
    rw [← hW, ← hB]
    try rw [hD]
    clear hW hB hD hr
    have g11 : Fr [] w w11 := g10.then0 f
    clear g10
    replace H1 := Lib.hid (H1.out.keep f (by simp) (by simp))
    replace x1 := H1.out.c0
    replace y1 := H1.out.c1
    replace z1 := H1.out.lt
    replace H2 := Lib.hid (H2.out.keep f (by simp) (by simp))
    replace x2 := H2.out.c0
    replace y2 := H2.out.c1
    replace z2 := H2.out.lt
    replace H3 := Lib.hid (H3.out.keep f (by simp) (by simp))
    replace x3 := H3.out.c0
    replace z3 := H3.out.lt
    replace H4 := Lib.hid (H4.out.keep f (by simp) (by simp))
    replace x4 := H4.out.c0
    replace z4 := H4.out.lt
    clear f
    have x5 := H5.out.c0
    have y5 := H5.out.c1
    have z5 := H5.out.lt
    refine (HR.out _ _ _ _ _ H3.out.r H4.out.r).mono ?_
    rintro e w12 ⟨f, v, rfl, hr⟩
    replace hr := hr.mono (N' := fun _ => True) (fun _ _ => trivial)
    have g12 : Fr [] w w12 := g11.then0 f
    clear g11
    replace H1 := Lib.hid (H1.out.keep f (by simp) (by simp))
    replace x1 := H1.out.c0
    replace y1 := H1.out.c1
    replace z1 := H1.out.lt
    replace H2 := Lib.hid (H2.out.keep f (by simp) (by simp))
    replace x2 := H2.out.c0
    replace y2 := H2.out.c1
    replace z2 := H2.out.lt
    replace H3 := Lib.hid (H3.out.keep f (by simp) (by simp))
    replace x3 := H3.out.c0
    replace z3 := H3.out.lt
    replace H4 := Lib.hid (H4.out.keep f (by simp) (by simp))
    replace x4 := H4.out.c0
    replace z4 := H4.out.lt
    replace H5 := Lib.hid (H5.out.keep f (by simp) (by simp))
    replace x5 := H5.out.c0
    replace y5 := H5.out.c1
    replace z5 := H5.out.lt
    clear f
    obtain ⟨a6, n6, c6, rfl⟩ := hr.form
    go_wp2_with fail
    obtain ⟨w13, B6, hW, hB, hD, f, H6⟩ := Rd.new1 hr
    rw [← hW, ← hB]
    try rw [hD]
    clear hW hB hD hr
    have g13 : Fr [] w w13 := g12.then0 f
    clear g12
    replace H1 := Lib.hid (H1.out.keep f (by simp) (by simp))
    replace x1 := H1.out.c0
    replace y1 := H1.out.c1
    replace z1 := H1.out.lt
    replace H2 := Lib.hid (H2.out.keep f (by simp) (by simp))
    replace x2 := H2.out.c0
    replace y2 := H2.out.c1
    replace z2 := H2.out.lt
    replace H3 := Lib.hid (H3.out.keep f (by simp) (by simp))
    replace x3 := H3.out.c0
    replace z3 := H3.out.lt
    replace H4 := Lib.hid (H4.out.keep f (by simp) (by simp))
    replace x4 := H4.out.c0
    replace z4 := H4.out.lt
    replace H5 := Lib.hid (H5.out.keep f (by simp) (by simp))
    replace x5 := H5.out.c0
    replace y5 := H5.out.c1
    replace z5 := H5.out.lt
    clear f
    have x6 := H6.out.c0
    have z6 := H6.out.lt
    refine (parts_ok H5.out.r).mono ?_
    rintro e w14 ⟨v, rfl, f, hr⟩
    replace hr := hr.mono (N' := fun _ => True) (fun _ _ => trivial)
    have g14 : Fr [] w w14 := g13.then0 f
    clear g13
    replace H1 := Lib.hid (H1.out.keep f (by simp) (by simp))
    replace x1 := H1.out.c0
    replace y1 := H1.out.c1
    replace z1 := H1.out.lt
    replace H2 := Lib.hid (H2.out.keep f (by simp) (by simp))
    replace x2 := H2.out.c0
    replace y2 := H2.out.c1
    replace z2 := H2.out.lt
    replace H3 := Lib.hid (H3.out.keep f (by simp) (by simp))
    replace x3 := H3.out.c0
    replace z3 := H3.out.lt
    replace H4 := Lib.hid (H4.out.keep f (by simp) (by simp))
    replace x4 := H4.out.c0
    replace z4 := H4.out.lt
    replace H5 := Lib.hid (H5.out.keep f (by simp) (by simp))
    replace x5 := H5.out.c0
    replace y5 := H5.out.c1
    replace z5 := H5.out.lt
    replace H6 := Lib.hid (H6.out.keep f (by simp) (by simp))
    replace x6 := H6.out.c0
    replace z6 := H6.out.lt
    clear f
    obtain ⟨a7, n7, c7, rfl⟩ := hr.form
    go_wp2_with fail
    obtain ⟨w15, B7, hW, hB, hD, f, H7⟩ := Rd.new1 hr
    rw [← hW, ← hB]
    try rw [hD]
    clear hW hB hD hr
    have g15 : Fr [] w w15 := g14.then0 f
    clear g14
    replace H1 := Lib.hid (H1.out.keep f (by simp) (by simp))
    replace x1 := H1.out.c0
    replace y1 := H1.out.c1
    replace z1 := H1.out.lt
    replace H2 := Lib.hid (H2.out.keep f (by simp) (by simp))
    replace x2 := H2.out.c0
    replace y2 := H2.out.c1
    replace z2 := H2.out.lt
    replace H3 := Lib.hid (H3.out.keep f (by simp) (by simp))
    replace x3 := H3.out.c0
    replace z3 := H3.out.lt
    replace H4 := Lib.hid (H4.out.keep f (by simp) (by simp))
    replace x4 := H4.out.c0
    replace z4 := H4.out.lt
    replace H5 := Lib.hid (H5.out.keep f (by simp) (by simp))
    replace x5 := H5.out.c0
    replace y5 := H5.out.c1
    replace z5 := H5.out.lt
    replace H6 := Lib.hid (H6.out.keep f (by simp) (by simp))
    replace x6 := H6.out.c0
    replace z6 := H6.out.lt
    clear f
    have x7 := H7.out.c0
    have z7 := H7.out.lt
    refine (same05y H7.out.r H6.out.r (by have := HL3.out; omega)).mono ?_
    rintro e w16 ⟨rfl, f⟩
    have g16 : Fr [] w w16 := g15.then0 f
    clear g15
    replace H1 := Lib.hid (H1.out.keep f (by simp) (by simp))
    replace x1 := H1.out.c0
    replace y1 := H1.out.c1
    replace z1 := H1.out.lt
    replace H2 := Lib.hid (H2.out.keep f (by simp) (by simp))
    replace x2 := H2.out.c0
    replace y2 := H2.out.c1
    replace z2 := H2.out.lt
    replace H3 := Lib.hid (H3.out.keep f (by simp) (by simp))
    replace x3 := H3.out.c0
    replace z3 := H3.out.lt
    replace H4 := Lib.hid (H4.out.keep f (by simp) (by simp))
    replace x4 := H4.out.c0
    replace z4 := H4.out.lt
    replace H5 := Lib.hid (H5.out.keep f (by simp) (by simp))
    replace x5 := H5.out.c0
    replace y5 := H5.out.c1
    replace z5 := H5.out.lt
    replace H6 := Lib.hid (H6.out.keep f (by simp) (by simp))
    replace x6 := H6.out.c0
    replace z6 := H6.out.lt
    replace H7 := Lib.hid (H7.out.keep f (by simp) (by simp))
    replace x7 := H7.out.c0
    replace z7 := H7.out.lt
    clear f
    go_wp2_with fail
    refine (known05 _).mono ?_
    rintro e w17 ⟨rfl, f⟩
    have g17 : Fr [] w w17 := g16.then0 f
    clear g16
    replace H1 := Lib.hid (H1.out.keep f (by simp) (by simp))
    replace x1 := H1.out.c0
    replace y1 := H1.out.c1
    replace z1 := H1.out.lt
    replace H2 := Lib.hid (H2.out.keep f (by simp) (by simp))
    replace x2 := H2.out.c0
    replace y2 := H2.out.c1
    replace z2 := H2.out.lt
    replace H3 := Lib.hid (H3.out.keep f (by simp) (by simp))
    replace x3 := H3.out.c0
    replace z3 := H3.out.lt
    replace H4 := Lib.hid (H4.out.keep f (by simp) (by simp))
    replace x4 := H4.out.c0
    replace z4 := H4.out.lt
    replace H5 := Lib.hid (H5.out.keep f (by simp) (by simp))
    replace x5 := H5.out.c0
    replace y5 := H5.out.c1
    replace z5 := H5.out.lt
    replace H6 := Lib.hid (H6.out.keep f (by simp) (by simp))
    replace x6 := H6.out.c0
    replace z6 := H6.out.lt
    replace H7 := Lib.hid (H7.out.keep f (by simp) (by simp))
    replace x7 := H7.out.c0
    replace z7 := H7.out.lt
    clear f
    go_wp2_with fail
    go_ret
    exact ⟨rfl, g17⟩
  · skip
    clear x1 y1 z1 x2 y2 z2 x3 z3 x4 z4
    have HS := Lib.hid fun (w' : World) (f : Fr [] w8 w') => (show (fun w' => w'.cell? ⟨B1, 0, none⟩ = some (.slice a1 n1 c1) ∧ w'.cell? ⟨B1, 1, none⟩ = some (.int .i64 t1) ∧ w'.cell? ⟨B2, 0, none⟩ = some (.slice a2 n2 c2) ∧ w'.cell? ⟨B2, 1, none⟩ = some (.int .i64 t2) ∧ w'.cell? ⟨B3, 0, none⟩ = some (.slice a3 n3 c3) ∧ w'.cell? ⟨B4, 0, none⟩ = some (.slice a4 n4 c4)) w' from ⟨(H1.out.keep f (by simp) (by simp)).c0, (H1.out.keep f (by simp) (by simp)).c1, (H2.out.keep f (by simp) (by simp)).c0, (H2.out.keep f (by simp) (by simp)).c1, (H3.out.keep f (by simp) (by simp)).c0, (H4.out.keep f (by simp) (by simp)).c0⟩)
    obtain ⟨q0, q1, q2, q3, q4, q5⟩ := HS.out _ (Fr.refl _ _)
    have hfr : Fr [] w8 w8 := Fr.refl _ _
    go_region_held3 (fun w' => w'.cell? ⟨B1, 0, none⟩ = some (.slice a1 n1 c1) ∧ w'.cell? ⟨B1, 1, none⟩ = some (.int .i64 t1) ∧ w'.cell? ⟨B2, 0, none⟩ = some (.slice a2 n2 c2) ∧ w'.cell? ⟨B2, 1, none⟩ = some (.int .i64 t2) ∧ w'.cell? ⟨B3, 0, none⟩ = some (.slice a3 n3 c3) ∧ w'.cell? ⟨B4, 0, none⟩ = some (.slice a4 n4 c4))
      (first | (with_reducible exact ⟨q0, q1, q2, q3, q4, q5⟩) | ((with_reducible refine HS.out _ ?_; repeat first | (with_reducible exact hfr) | (with_reducible exact Fr.refl _ _) | (with_reducible refine Fr.drew ?_) | (with_reducible refine Fr.alloc ?_ _)); done))
      (first
        | (go_at_call 51; ((with_reducible refine (HE1.out _ _ _ _ _ (H1.out.keep (show Fr [] w8 _ from by first | (with_reducible exact hfr) | (with_reducible exact Fr.drew hfr)) (by simp) (by simp)).r (H2.out.keep (show Fr [] w8 _ from by first | (with_reducible exact hfr) | (with_reducible exact Fr.drew hfr)) (by simp) (by simp)).r).mono ?_); rintro e wz ⟨rfl, fz⟩; replace hfr : Fr [] w8 wz := Fr.then0 (by first | (with_reducible exact hfr) | (with_reducible exact Fr.drew hfr)) fz; obtain ⟨q0, q1, q2, q3, q4, q5⟩ := HS.out _ hfr))
        | (go_at_call 51; ((with_reducible refine (HE2.out _ _ _ _ _ (H2.out.keep (show Fr [] w8 _ from by first | (with_reducible exact hfr) | (with_reducible exact Fr.drew hfr)) (by simp) (by simp)).r (H1.out.keep (show Fr [] w8 _ from by first | (with_reducible exact hfr) | (with_reducible exact Fr.drew hfr)) (by simp) (by simp)).r).mono ?_); rintro e wz ⟨rfl, fz⟩; replace hfr : Fr [] w8 wz := Fr.then0 (by first | (with_reducible exact hfr) | (with_reducible exact Fr.drew hfr)) fz; obtain ⟨q0, q1, q2, q3, q4, q5⟩ := HS.out _ hfr))
        | (go_at_call 52; ((with_reducible refine (HT1.out _ _ _ (H3.out.keep (show Fr [] w8 _ from by first | (with_reducible exact hfr) | (with_reducible exact Fr.drew hfr)) (by simp) (by simp)).r).mono ?_); rintro e wz ⟨rfl, fz⟩; replace hfr : Fr [] w8 wz := Fr.then0 (by first | (with_reducible exact hfr) | (with_reducible exact Fr.drew hfr)) fz; obtain ⟨q0, q1, q2, q3, q4, q5⟩ := HS.out _ hfr))
        | (go_at_call 52; ((with_reducible refine (HT2.out _ _ _ (H4.out.keep (show Fr [] w8 _ from by first | (with_reducible exact hfr) | (with_reducible exact Fr.drew hfr)) (by simp) (by simp)).r).mono ?_); rintro e wz ⟨rfl, fz⟩; replace hfr : Fr [] w8 wz := Fr.then0 (by first | (with_reducible exact hfr) | (with_reducible exact Fr.drew hfr)) fz; obtain ⟨q0, q1, q2, q3, q4, q5⟩ := HS.out _ hfr)))
    go_wp2_with fail
    rename World => w9
    have f := hfr
    clear hfr fz HS q0 q1 q2 q3 q4 q5
    have g9 : Fr [] w w9 := g8.then0 f
    replace H1 := Lib.hid (H1.out.keep f (by simp) (by simp))
    have x1 := H1.out.c0
    have y1 := H1.out.c1
    have z1 := H1.out.lt
    replace H2 := Lib.hid (H2.out.keep f (by simp) (by simp))
    have x2 := H2.out.c0
    have y2 := H2.out.c1
    have z2 := H2.out.lt
    replace H3 := Lib.hid (H3.out.keep f (by simp) (by simp))
    have x3 := H3.out.c0
    have z3 := H3.out.lt
    replace H4 := Lib.hid (H4.out.keep f (by simp) (by simp))
    have x4 := H4.out.c0
    have z4 := H4.out.lt
    clear f
    refine (HJ.out _ _ _ _ H1.out.r H2.out.r).mono ?_
    rintro e w10 ⟨f, v, rfl, hr⟩
    replace hr := hr.mono (N' := fun _ => True) (fun _ _ => trivial)
    have g10 : Fr [] w w10 := g9.then0 f
    clear g9
    replace H1 := Lib.hid (H1.out.keep f (by simp) (by simp))
    replace x1 := H1.out.c0
    replace y1 := H1.out.c1
    replace z1 := H1.out.lt
    replace H2 := Lib.hid (H2.out.keep f (by simp) (by simp))
    replace x2 := H2.out.c0
    replace y2 := H2.out.c1
    replace z2 := H2.out.lt
    replace H3 := Lib.hid (H3.out.keep f (by simp) (by simp))
    replace x3 := H3.out.c0
    replace z3 := H3.out.lt
    replace H4 := Lib.hid (H4.out.keep f (by simp) (by simp))
    replace x4 := H4.out.c0
    replace z4 := H4.out.lt
    clear f
    obtain ⟨a5, n5, c5, t5, rfl⟩ := hr.form
    go_wp2_with fail
    obtain ⟨w11, B5, hW, hB, hD, f, H5⟩ := Bd.new1 hr
    rw [← hW, ← hB]
    try rw [hD]
    clear hW hB hD hr
    have g11 : Fr [] w w11 := g10.then0 f
    clear g10
    replace H1 := Lib.hid (H1.out.keep f (by simp) (by simp))
    replace x1 := H1.out.c0
    replace y1 := H1.out.c1
    replace z1 := H1.out.lt
    replace H2 := Lib.hid (H2.out.keep f (by simp) (by simp))
    replace x2 := H2.out.c0
    replace y2 := H2.out.c1
    replace z2 := H2.out.lt
    replace H3 := Lib.hid (H3.out.keep f (by simp) (by simp))
    replace x3 := H3.out.c0
    replace z3 := H3.out.lt
    replace H4 := Lib.hid (H4.out.keep f (by simp) (by simp))
    replace x4 := H4.out.c0
    replace z4 := H4.out.lt
    clear f
    have x5 := H5.out.c0
    have y5 := H5.out.c1
    have z5 := H5.out.lt
    refine (HR.out _ _ _ _ _ H3.out.r H4.out.r).mono ?_
    rintro e w12 ⟨f, v, rfl, hr⟩
    replace hr := hr.mono (N' := fun _ => True) (fun _ _ => trivial)
    have g12 : Fr [] w w12 := g11.then0 f
    clear g11
    replace H1 := Lib.hid (H1.out.keep f (by simp) (by simp))
    replace x1 := H1.out.c0
    replace y1 := H1.out.c1
    replace z1 := H1.out.lt
    replace H2 := Lib.hid (H2.out.keep f (by simp) (by simp))
    replace x2 := H2.out.c0
    replace y2 := H2.out.c1
    replace z2 := H2.out.lt
    replace H3 := Lib.hid (H3.out.keep f (by simp) (by simp))
    replace x3 := H3.out.c0
    replace z3 := H3.out.lt
    replace H4 := Lib.hid (H4.out.keep f (by simp) (by simp))
    replace x4 := H4.out.c0
    replace z4 := H4.out.lt
    replace H5 := Lib.hid (H5.out.keep f (by simp) (by simp))
    replace x5 := H5.out.c0
    replace y5 := H5.out.c1
    replace z5 := H5.out.lt
    clear f
    obtain ⟨a6, n6, c6, rfl⟩ := hr.form
    go_wp2_with fail
    obtain ⟨w13, B6, hW, hB, hD, f, H6⟩ := Rd.new1 hr
    rw [← hW, ← hB]
    try rw [hD]
    clear hW hB hD hr
    have g13 : Fr [] w w13 := g12.then0 f
    clear g12
    replace H1 := Lib.hid (H1.out.keep f (by simp) (by simp))
    replace x1 := H1.out.c0
    replace y1 := H1.out.c1
    replace z1 := H1.out.lt
    replace H2 := Lib.hid (H2.out.keep f (by simp) (by simp))
    replace x2 := H2.out.c0
    replace y2 := H2.out.c1
    replace z2 := H2.out.lt
    replace H3 := Lib.hid (H3.out.keep f (by simp) (by simp))
    replace x3 := H3.out.c0
    replace z3 := H3.out.lt
    replace H4 := Lib.hid (H4.out.keep f (by simp) (by simp))
    replace x4 := H4.out.c0
    replace z4 := H4.out.lt
    replace H5 := Lib.hid (H5.out.keep f (by simp) (by simp))
    replace x5 := H5.out.c0
    replace y5 := H5.out.c1
    replace z5 := H5.out.lt
    clear f
    have x6 := H6.out.c0
    have z6 := H6.out.lt
    refine (parts_ok H5.out.r).mono ?_
    rintro e w14 ⟨v, rfl, f, hr⟩
    replace hr := hr.mono (N' := fun _ => True) (fun _ _ => trivial)
    have g14 : Fr [] w w14 := g13.then0 f
    clear g13
    replace H1 := Lib.hid (H1.out.keep f (by simp) (by simp))
    replace x1 := H1.out.c0
    replace y1 := H1.out.c1
    replace z1 := H1.out.lt
    replace H2 := Lib.hid (H2.out.keep f (by simp) (by simp))
    replace x2 := H2.out.c0
    replace y2 := H2.out.c1
    replace z2 := H2.out.lt
    replace H3 := Lib.hid (H3.out.keep f (by simp) (by simp))
    replace x3 := H3.out.c0
    replace z3 := H3.out.lt
    replace H4 := Lib.hid (H4.out.keep f (by simp) (by simp))
    replace x4 := H4.out.c0
    replace z4 := H4.out.lt
    replace H5 := Lib.hid (H5.out.keep f (by simp) (by simp))
    replace x5 := H5.out.c0
    replace y5 := H5.out.c1
    replace z5 := H5.out.lt
    replace H6 := Lib.hid (H6.out.keep f (by simp) (by simp))
    replace x6 := H6.out.c0
    replace z6 := H6.out.lt
    clear f
    obtain ⟨a7, n7, c7, rfl⟩ := hr.form
    go_wp2_with fail
    obtain ⟨w15, B7, hW, hB, hD, f, H7⟩ := Rd.new1 hr
    rw [← hW, ← hB]
    try rw [hD]
    clear hW hB hD hr
    have g15 : Fr [] w w15 := g14.then0 f
    clear g14
    replace H1 := Lib.hid (H1.out.keep f (by simp) (by simp))
    replace x1 := H1.out.c0
    replace y1 := H1.out.c1
    replace z1 := H1.out.lt
    replace H2 := Lib.hid (H2.out.keep f (by simp) (by simp))
    replace x2 := H2.out.c0
    replace y2 := H2.out.c1
    replace z2 := H2.out.lt
    replace H3 := Lib.hid (H3.out.keep f (by simp) (by simp))
    replace x3 := H3.out.c0
    replace z3 := H3.out.lt
    replace H4 := Lib.hid (H4.out.keep f (by simp) (by simp))
    replace x4 := H4.out.c0
    replace z4 := H4.out.lt
    replace H5 := Lib.hid (H5.out.keep f (by simp) (by simp))
    replace x5 := H5.out.c0
    replace y5 := H5.out.c1
    replace z5 := H5.out.lt
    replace H6 := Lib.hid (H6.out.keep f (by simp) (by simp))
    replace x6 := H6.out.c0
    replace z6 := H6.out.lt
    clear f
    have x7 := H7.out.c0
    have z7 := H7.out.lt
    refine (same05y H7.out.r H6.out.r (by have := HL3.out; omega)).mono ?_
    rintro e w16 ⟨rfl, f⟩
    have g16 : Fr [] w w16 := g15.then0 f
    clear g15
    replace H1 := Lib.hid (H1.out.keep f (by simp) (by simp))
    replace x1 := H1.out.c0
    replace y1 := H1.out.c1
    replace z1 := H1.out.lt
    replace H2 := Lib.hid (H2.out.keep f (by simp) (by simp))
    replace x2 := H2.out.c0
    replace y2 := H2.out.c1
    replace z2 := H2.out.lt
    replace H3 := Lib.hid (H3.out.keep f (by simp) (by simp))
    replace x3 := H3.out.c0
    replace z3 := H3.out.lt
    replace H4 := Lib.hid (H4.out.keep f (by simp) (by simp))
    replace x4 := H4.out.c0
    replace z4 := H4.out.lt
    replace H5 := Lib.hid (H5.out.keep f (by simp) (by simp))
    replace x5 := H5.out.c0
    replace y5 := H5.out.c1
    replace z5 := H5.out.lt
    replace H6 := Lib.hid (H6.out.keep f (by simp) (by simp))
    replace x6 := H6.out.c0
    replace z6 := H6.out.lt
    replace H7 := Lib.hid (H7.out.keep f (by simp) (by simp))
    replace x7 := H7.out.c0
    replace z7 := H7.out.lt
    clear f
    go_wp2_with fail
    refine (known05 _).mono ?_
    rintro e w17 ⟨rfl, f⟩
    have g17 : Fr [] w w17 := g16.then0 f
    clear g16
    replace H1 := Lib.hid (H1.out.keep f (by simp) (by simp))
    replace x1 := H1.out.c0
    replace y1 := H1.out.c1
    replace z1 := H1.out.lt
    replace H2 := Lib.hid (H2.out.keep f (by simp) (by simp))
    replace x2 := H2.out.c0
    replace y2 := H2.out.c1
    replace z2 := H2.out.lt
    replace H3 := Lib.hid (H3.out.keep f (by simp) (by simp))
    replace x3 := H3.out.c0
    replace z3 := H3.out.lt
    replace H4 := Lib.hid (H4.out.keep f (by simp) (by simp))
    replace x4 := H4.out.c0
    replace z4 := H4.out.lt
    replace H5 := Lib.hid (H5.out.keep f (by simp) (by simp))
    replace x5 := H5.out.c0
    replace y5 := H5.out.c1
    replace z5 := H5.out.lt
    replace H6 := Lib.hid (H6.out.keep f (by simp) (by simp))
    replace x6 := H6.out.c0
    replace z6 := H6.out.lt
    replace H7 := Lib.hid (H7.out.keep f (by simp) (by simp))
    replace x7 := H7.out.c0
    replace z7 := H7.out.lt
    clear f
    go_wp2_with fail
    go_ret
    exact ⟨rfl, g17⟩
end Go.Proofs.Ytpkgjgfdobcboaa
