/-
  Law 5: RopeHolds, the theorem of stage 5.
-/
import Derived.Test.YtpkgjgfdobcboaaRopeTakes
namespace Go.Proofs.Ytpkgjgfdobcboaa
open Go.RowKit Go.Shelf
set_option maxRecDepth 100000
attribute [local go_sem] Oper.semAt_some

theorem cut_count : ∀ (P : Parts) (n : Nat), Full P → (cutF P n).length + (cutR P n).length = P.length ∨ (cutF P n).length + (cutR P n).length = P.length + 1
  | [], n, _ => by simp [cutF, cutR]
  | p :: P, n, hf => by
    have ih := cut_count P (n - p.length) hf.tail
    have hp := hf.head
    unfold cutF cutR
    by_cases h0 : n = 0
    · subst h0
      rw [if_pos rfl, if_neg (by omega)]
      simp
    · rw [if_neg h0]
      by_cases h : p.length ≤ n
      · rw [if_pos h, if_pos h]
        simp only [List.length_cons]
        omega
      · rw [if_neg h, if_neg h]
        simp only [List.length_cons, List.length_nil]
        omega
theorem newP_le (P : Parts) : (newP P).length ≤ P.length := by
  unfold newP
  split
  · simp
  · split
    · simp
    · exact List.length_filter_le _ _

theorem join_ok {P : Parts} (h : Full P) (h1 : P.length ≤ 1024) (h2 : tot P ≤ 65536) : newP P = P ∧ newE P = 0 := by
  unfold newP newE
  rw [own_of_full h, if_neg (by omega), if_neg (by omega), if_neg (by omega), if_neg (by omega)]
  exact ⟨rfl, rfl⟩

theorem Bd.there {w : World} {N : Nat → Prop} {b : Nat} {a : Option Addr} {n c : Nat} {t : Int} {P : Parts} (h : Bd w N b a n c t P) : Bd w (fun b => N b ∧ b < w.heap.size) b a n c t P := ⟨h.q, h.r.there⟩
/-- What holds between two rounds that count. -/
structure CI (w0 : World) (B : Nat) (pre : List (Value × List UInt8)) (W : World) : Prop where
  fr : Fr [B] w0 W
  n : W.heap[B]? = some (.cells #[.int .i64 pre.length] 3 (0, 0))
theorem CI.own {w0 : World} {B : Nat} : OwnFrom w0.heap.size (CI w0 B) := by
  intro pre A A' row h hg hr
  have hf : Fr row.toList A A' := ⟨hg.os, hg.tape, hg.output, hg.size, fun k hk hn => hg.block k hk (fun e => hn (by rw [← e]; simp))⟩
  have hc : B ∉ row.toList := fun hm => by
    obtain ⟨_, o, ho, hn⟩ := hr B (by simpa using hm)
    rw [h.n] at ho
    injection ho with ho
    subst ho
    simp [Obj.isCells] at hn
  exact ⟨h.fr.trans hf (fun _ h => .inl h) (fun x hx => .inr (hr x (by simpa using hx)).1), hf.keep h.n hc⟩
theorem Rp.val {w : World} {N : Nat → Prop} {a : Option Addr} {n c : Nat} {t : Int} {P : Parts} (h : Rp w N (.agg #[.slice a n c, .int .i64 t]) P) : n = P.length ∧ t = tot P := by
  obtain ⟨a', c', e, _⟩ := h
  simp at e
  exact ⟨e.1.2.1, e.2⟩
theorem three05 {w : World} {N : Nat → Prop} {a : Option Addr} {n c : Nat} {t : Int} {P : Parts} (h : Rp w N (.agg #[.slice a n c, .int .i64 t]) P) :
    ∃ W B C D, W = ((w.alloc (.cells #[.slice a n c, .int .i64 t] 65)).alloc (.cells #[.int .i64 0] 3)).alloc (.cells #[.int .i64 0] 3) ∧ B = w.heap.size ∧ C = w.heap.size + 1 ∧ D = w.heap.size + 1 + 1 ∧ D + 1 = W.heap.size ∧ Fr [] w W ∧ Hid (Bd W N B a n c t P)
      ∧ W.heap[C]? = some (.cells #[.int .i64 0] 3 (0, 0)) ∧ W.heap[D]? = some (.cells #[.int .i64 0] 3 (0, 0)) := by
  have f : Fr [] w (((w.alloc (.cells #[.slice a n c, .int .i64 t] 65)).alloc (.cells #[.int .i64 0] 3)).alloc (.cells #[.int .i64 0] 3)) := (((Fr.refl _ _).alloc _).alloc _).alloc _
  exact ⟨_, _, _, _, rfl, rfl, rfl, rfl, by simp, f, Lib.hid ⟨keepA (keepA (newA rfl)), h.keep f (by simp)⟩, keepA (newA (by simp)), newA (by simp)⟩

set_option maxHeartbeats 16000000 in
theorem ropeHolds_walk {w : World} {M : Nat} {a : Option Addr} {len cap : Nat} {P : Parts} (h : StrsAt w M a len cap P) (x y : Int) :
    Calls Try.prog 12 #[.slice a len cap, .int .i64 x, .int .i64 y] w fun e w' => e = .returned (.bool true) ∧ Fr [] w w' := by
  have hlen := h.len_eq
  subst hlen
  have hmx : (P.length : Int) ≤ 9223372036854775807 := by have := h.cap_le; have := h.le; unfold maxLen at *; omega
  have HS1 := small05 h
  by_cases s1 : small5 P = true
  rotate_left
  · rw [show small5 P = false from by simpa using s1] at HS1
    replace HS1 := Lib.hid HS1
    clear h s1
    refine (callsIn_wide (n := 6)).1 ?_
    refine callsIn_of_wp_marks Try.func12 rfl trivial ?_ rfl
    refine wpIn_wide.2 ?_
    simp only [Try.ntmps12, List.size_toArray, List.length_cons, List.length_nil, Nat.reduceAdd, Nat.reduceSub, Array.replicate_succ, Array.replicate_zero, List.push_toArray, List.append_toArray, List.nil_append, List.cons_append]
    go_wp2_with fail
    refine HS1.out.mono ?_
    rintro e w' ⟨rfl, rfl⟩
    go_wp2_with fail
    refine (known05 _).mono ?_
    rintro e w' ⟨rfl, f⟩
    go_wp2_with fail
    exact ⟨.bool true, by simp [results, Try.results12, go_sem], rfl, f⟩
  rw [s1] at HS1
  replace HS1 := Lib.hid HS1
  have HSM := Lib.hid s1
  have HH := Lib.hid h
  clear s1 h
  by_cases h1 : (60 : Int) < P.length
  · skip
    refine (callsIn_wide (n := 6)).1 ?_
    refine callsIn_of_wp_marks Try.func12 rfl trivial ?_ rfl
    refine wpIn_wide.2 ?_
    simp only [Try.ntmps12, List.size_toArray, List.length_cons, List.length_nil, Nat.reduceAdd, Nat.reduceSub, Array.replicate_succ, Array.replicate_zero, List.push_toArray, List.append_toArray, List.nil_append, List.cons_append]
    go_wp2_with fail
    refine HS1.out.mono ?_
    rintro e w' ⟨rfl, rfl⟩
    go_wp2_with fail
    refine (known05 _).mono ?_
    rintro e w' ⟨rfl, f⟩
    go_wp2_with fail
    exact ⟨.bool true, by simp [results, Try.results12, go_sem], rfl, f⟩
  replace h1 : (P.length : Int) ≤ 60 := by omega
  by_cases h2 : x < 0
  · skip
    refine (callsIn_wide (n := 6)).1 ?_
    refine callsIn_of_wp_marks Try.func12 rfl trivial ?_ rfl
    refine wpIn_wide.2 ?_
    simp only [Try.ntmps12, List.size_toArray, List.length_cons, List.length_nil, Nat.reduceAdd, Nat.reduceSub, Array.replicate_succ, Array.replicate_zero, List.push_toArray, List.append_toArray, List.nil_append, List.cons_append]
    go_wp2_with fail
    refine HS1.out.mono ?_
    rintro e w' ⟨rfl, rfl⟩
    go_wp2_with fail
    refine (known05 _).mono ?_
    rintro e w' ⟨rfl, f⟩
    go_wp2_with fail
    exact ⟨.bool true, by simp [results, Try.results12, go_sem], rfl, f⟩
  replace h2 : 0 ≤ x := by omega
  by_cases h3 : 70000 < x
  · skip
    refine (callsIn_wide (n := 6)).1 ?_
    refine callsIn_of_wp_marks Try.func12 rfl trivial ?_ rfl
    refine wpIn_wide.2 ?_
    simp only [Try.ntmps12, List.size_toArray, List.length_cons, List.length_nil, Nat.reduceAdd, Nat.reduceSub, Array.replicate_succ, Array.replicate_zero, List.push_toArray, List.append_toArray, List.nil_append, List.cons_append]
    go_wp2_with fail
    refine HS1.out.mono ?_
    rintro e w' ⟨rfl, rfl⟩
    go_wp2_with fail
    refine (known05 _).mono ?_
    rintro e w' ⟨rfl, f⟩
    go_wp2_with fail
    exact ⟨.bool true, by simp [results, Try.results12, go_sem], rfl, f⟩
  replace h3 : x ≤ 70000 := by omega
  by_cases h4 : y < 0
  · skip
    refine (callsIn_wide (n := 6)).1 ?_
    refine callsIn_of_wp_marks Try.func12 rfl trivial ?_ rfl
    refine wpIn_wide.2 ?_
    simp only [Try.ntmps12, List.size_toArray, List.length_cons, List.length_nil, Nat.reduceAdd, Nat.reduceSub, Array.replicate_succ, Array.replicate_zero, List.push_toArray, List.append_toArray, List.nil_append, List.cons_append]
    go_wp2_with fail
    refine HS1.out.mono ?_
    rintro e w' ⟨rfl, rfl⟩
    go_wp2_with fail
    refine (known05 _).mono ?_
    rintro e w' ⟨rfl, f⟩
    go_wp2_with fail
    exact ⟨.bool true, by simp [results, Try.results12, go_sem], rfl, f⟩
  replace h4 : 0 ≤ y := by omega
  by_cases h5 : 70000 < y
  · skip
    refine (callsIn_wide (n := 6)).1 ?_
    refine callsIn_of_wp_marks Try.func12 rfl trivial ?_ rfl
    refine wpIn_wide.2 ?_
    simp only [Try.ntmps12, List.size_toArray, List.length_cons, List.length_nil, Nat.reduceAdd, Nat.reduceSub, Array.replicate_succ, Array.replicate_zero, List.push_toArray, List.append_toArray, List.nil_append, List.cons_append]
    go_wp2_with fail
    refine HS1.out.mono ?_
    rintro e w' ⟨rfl, rfl⟩
    go_wp2_with fail
    refine (known05 _).mono ?_
    rintro e w' ⟨rfl, f⟩
    go_wp2_with fail
    exact ⟨.bool true, by simp [results, Try.results12, go_sem], rfl, f⟩
  replace h5 : y ≤ 70000 := by omega
  have h := HH.out
  have s1 := HSM.out
  clear HH HSM
  have hp := small5_of s1
  have HM1 := Lib.hid fun (w1 : World) (f : Fr [] w w1) => made05 (cap := cap) (h.sl.keep f (by simp)) rfl (by omega) (small5_parts s1)
  have HF := Lib.hid (newP_full P)
  have hx60 : (newP P).length ≤ 60 := Nat.le_trans (newP_le P) (by omega)
  have hxt := (newP_len P).2
  clear h hp s1
  unfold NewU at HM1
  generalize newP P = X at *
  generalize newE P = e1 at *
  by_cases her : e1 = 0
  rotate_left
  · have hb : (e1 == (0 : Int)) = false := by simpa using her
    clear HF hx60 hxt
    refine (callsIn_wide (n := 6)).1 ?_
    refine callsIn_of_wp_marks Try.func12 rfl trivial ?_ rfl
    refine wpIn_wide.2 ?_
    simp only [Try.ntmps12, List.size_toArray, List.length_cons, List.length_nil, Nat.reduceAdd, Nat.reduceSub, Array.replicate_succ, Array.replicate_zero, List.push_toArray, List.append_toArray, List.nil_append, List.cons_append]
    go_wp2_with fail
    refine HS1.out.mono ?_
    rintro e w' ⟨rfl, rfl⟩
    go_wp2_with fail
    refine (HM1.out _ (Fr.refl _ _)).mono ?_
    rintro e w1 ⟨f0, v, rfl, hr⟩
    obtain ⟨a1, n1, c1, t1, rfl⟩ := hr.form
    go_wp2_with fail
    refine (known05 _).mono ?_
    rintro e w' ⟨rfl, f⟩
    go_wp2_with fail
    exact ⟨.bool true, by simp [results, Try.results12, go_sem], rfl, (f0.alloc _).then0 f⟩
  subst her
  obtain ⟨i, hi⟩ : ∃ i : Nat, i = x.toNat := ⟨_, rfl⟩
  obtain ⟨j, hj⟩ : ∃ j : Nat, j = y.toNat := ⟨_, rfl⟩
  have hij : (x + y).toNat = i + j := by omega
  obtain ⟨P1, hP1⟩ : ∃ Q, cutF X i = Q := ⟨_, rfl⟩
  obtain ⟨P2, hP2⟩ : ∃ Q, cutR X i = Q := ⟨_, rfl⟩
  obtain ⟨P3, hP3⟩ : ∃ Q, cutF (cutR X i) j = Q := ⟨_, rfl⟩
  obtain ⟨P4, hP4⟩ : ∃ Q, cutR (cutR X i) j = Q := ⟨_, rfl⟩
  obtain ⟨P5, hP5⟩ : ∃ Q, cutF X (i + j) = Q := ⟨_, rfl⟩
  obtain ⟨P6, hP6⟩ : ∃ Q, cutR X (i + j) = Q := ⟨_, rfl⟩
  obtain ⟨G, hG⟩ : ∃ G, X.flatten = G := ⟨_, rfl⟩
  have q1 : Full P1 := hP1 ▸ cutF_full _ _ HF.out
  have q2 : Full P2 := hP2 ▸ cutR_full _ _ HF.out
  have q3 : Full P3 := hP3 ▸ cutF_full _ _ (cutR_full _ _ HF.out)
  have l1 : P1.length ≤ 60 := hP1 ▸ Nat.le_trans (cutF_length _ _) hx60
  have l2 : P2.length ≤ 60 := hP2 ▸ Nat.le_trans (cutR_length _ _) hx60
  have l3 : P3.length ≤ 60 := hP3 ▸ Nat.le_trans (cutF_length _ _) (Nat.le_trans (cutR_length _ _) hx60)
  have f1 : P1.flatten = G.take i := by rw [← hP1, ← hG]; exact cutF_flat _ _
  have f2 : P2.flatten = G.drop i := by rw [← hP2, ← hG]; exact cutR_flat _ _
  have f3 : P3.flatten = (G.drop i).take j := by rw [← hP3, ← hG, cutF_flat, cutR_flat]
  have f4 : P4.flatten = (G.drop i).drop j := by rw [← hP4, ← hG, cutR_flat, cutR_flat]
  have f5 : P5.flatten = G.take (i + j) := by rw [← hP5, ← hG]; exact cutF_flat _ _
  have f6 : P6.flatten = G.drop (i + j) := by rw [← hP6, ← hG]; exact cutR_flat _ _
  have fz : (P1 ++ P2).flatten = G := by rw [List.flatten_append, f1, f2, List.take_append_drop]
  have fu : (P1 ++ P3).flatten = P5.flatten := by rw [List.flatten_append, f1, f3, f5, List.take_add]
  have fd : P4.flatten = P6.flatten := by rw [f4, f6, List.drop_drop]
  have hgt : G.length ≤ 65536 := by rw [← hG]; exact hxt
  have tz : tot (P1 ++ P2) ≤ 65536 := by unfold tot; rw [fz]; exact hgt
  have tu : tot (P1 ++ P3) ≤ 65536 := by unfold tot; rw [fu, f5, List.length_take]; omega
  have ez := join_ok (q1.append q2) (by rw [List.length_append]; omega) tz
  have eu := join_ok (q1.append q3) (by rw [List.length_append]; omega) tu
  have cnt := cut_count X i HF.out
  rw [hP1, hP2] at cnt
  have ta : tot P1 = min i G.length := by unfold tot; rw [f1, List.length_take]
  have HT1 := Lib.hid fun (w1 : World) (N : Nat → Prop) (v : Value) (h1 : Rp w1 N v X) => rope_take h1 (most := x) h2
  have HT2 := Lib.hid fun (w1 : World) (N : Nat → Prop) (v : Value) (h1 : Rp w1 N v P2) => rope_take h1 (most := y) h4
  have HT3 := Lib.hid fun (w1 : World) (N : Nat → Prop) (v : Value) (h1 : Rp w1 N v X) => rope_take h1 (most := x + y) (by omega)
  unfold TakePost at HT1 HT2 HT3
  rw [← hi, hP1, hP2] at HT1
  rw [← hj, ← hP2, hP3, hP4, hP2] at HT2
  rw [hij, hP5, hP6] at HT3
  have HJ1 := Lib.hid fun (w1 : World) (N : Nat → Prop) (v u : Value) (h1 : Rp w1 N v P1) (h2 : Rp w1 N u P2) => rope_joinU h1 h2 q1 q2
  have HJ2 := Lib.hid fun (w1 : World) (N : Nat → Prop) (v u : Value) (h1 : Rp w1 N v P1) (h2 : Rp w1 N u P3) => rope_joinU h1 h2 q1 q3
  unfold JoinU at HJ1 HJ2
  rw [ez.1, ez.2] at HJ1
  rw [eu.1, eu.2] at HJ2
  have HBY := Lib.hid fun (w1 : World) (N : Nat → Prop) (v : Value) (h1 : Rp w1 N v X) => rope_bytes h1
  rw [hG] at HBY
  have HE1 := Lib.hid fun (w1 : World) (N N' : Nat → Prop) (v u : Value) (h1 : Rp w1 N v (P1 ++ P2)) (h2 : Rp w1 N' u X) => (rope_equal h1 h2).mono fun e w2 he => (show e = .returned (.bool true) ∧ Fr [] w1 w2 from by rw [fz, hG, beq_self_eq_true] at he; exact he)
  have HE2 := Lib.hid fun (w1 : World) (N N' : Nat → Prop) (v u : Value) (h1 : Rp w1 N v (P1 ++ P3)) (h2 : Rp w1 N' u P5) => (rope_equal h1 h2).mono fun e w2 he => (show e = .returned (.bool true) ∧ Fr [] w1 w2 from by rw [fu, beq_self_eq_true] at he; exact he)
  have HE3 := Lib.hid fun (w1 : World) (N N' : Nat → Prop) (v u : Value) (h1 : Rp w1 N v P4) (h2 : Rp w1 N' u P6) => (rope_equal h1 h2).mono fun e w2 he => (show e = .returned (.bool true) ∧ Fr [] w1 w2 from by rw [fd, beq_self_eq_true] at he; exact he)
  have HL := Lib.hid fun (w1 : World) (N : Nat → Prop) (v : Value) (h1 : Rp w1 N v P1) => (rope_len h1).mono fun e w2 he => (show e = .returned (.int .i64 (min x (G.length : Int))) ∧ Fr [] w1 w2 from by rw [ta] at he; rw [show ((min i G.length : Nat) : Int) = min x (G.length : Int) from by omega] at he; exact he)
  have CNT := Lib.hid cnt
  have hlz : (P1 ++ P2).length = P1.length + P2.length := List.length_append
  generalize P1 ++ P2 = Z at *
  generalize P1 ++ P3 = U at *
  have HLZ := Lib.hid hlz
  have hzl : Z.length ≤ 61 := by rcases cnt with h | h <;> omega
  have hgl : (G.length : Int) ≤ 65536 := by omega
  clear ta cnt hlz ez eu tz tu hgt fd fu fz f1 f2 f3 f4 f5 f6 q1 q2 q3 hG hP1 hP2 hP3 hP4 hP5 hP6 hi hj hij l1 l2 l3 hxt HF
  refine (callsIn_wide (n := 6)).1 ?_
  refine callsIn_of_wp_marks Try.func12 rfl trivial ?_ rfl
  refine wpIn_wide.2 ?_
  simp only [Try.ntmps12, List.size_toArray, List.length_cons, List.length_nil, Nat.reduceAdd, Nat.reduceSub, Array.replicate_succ, Array.replicate_zero, List.push_toArray, List.append_toArray, List.nil_append, List.cons_append]
  go_wp2_with fail
  refine HS1.out.mono ?_
  rintro e w' ⟨rfl, rfl⟩
  have g0 : Fr [] w w := Fr.refl _ _
  go_wp2_with fail
  refine (HM1.out _ g0).mono ?_
  rintro e w1 ⟨f, v, rfl, hr⟩
  replace hr := hr.mono (N' := fun _ => True) (fun _ _ => trivial)
  have g1 : Fr [] w w1 := g0.then0 f
  clear g0
  clear f
  obtain ⟨a1, n1, c1, t1, rfl⟩ := hr.form
  go_wp2_with fail
  obtain ⟨w2, B1, hW, hB, hD, f, H1⟩ := Bd.new1 hr
  rw [← hW, ← hB]
  try rw [hD]
  clear hW hB hD hr
  have g2 : Fr [] w w2 := g1.then0 f
  clear g1
  clear f
  have x1 := H1.out.c0
  have y1 := H1.out.c1
  have z1 := H1.out.lt
  refine (HBY.out _ _ _ H1.out.r).mono ?_
  rintro e w3 ⟨u, rfl, f, ob⟩
  have g3 : Fr [] w w3 := g2.then0 f
  clear g2
  replace H1 := Lib.hid (H1.out.keep f (by simp) (by simp))
  replace x1 := H1.out.c0
  replace y1 := H1.out.c1
  replace z1 := H1.out.lt
  clear f
  obtain ⟨ga, gc, rfl, _, _, hs, _⟩ := ob.formB
  have hcv := fun c => conv_st (cap := c) hs rfl
  clear ob hs
  go_wp2_with fail
  refine (HT1.out _ _ _ H1.out.r).mono ?_
  rintro e w4 ⟨v1, v2, rfl, f, ha, hb⟩
  replace ha := ha.mono (N' := fun _ => True) (fun _ _ => trivial)
  replace hb := hb.mono (N' := fun _ => True) (fun _ _ => trivial)
  have g4 : Fr [] w w4 := g3.then0 f
  clear g3
  replace H1 := Lib.hid (H1.out.keep f (by simp) (by simp))
  replace x1 := H1.out.c0
  replace y1 := H1.out.c1
  replace z1 := H1.out.lt
  clear f
  clear hcv
  obtain ⟨a2, n2, c2, t2, rfl⟩ := ha.form
  obtain ⟨a3, n3, c3, t3, rfl⟩ := hb.form
  go_wp2_with fail
  obtain ⟨w5, B2, B3, hW, hB, hC, hD, f, H2, H3⟩ := Bd.two' ha hb
  rw [← hW, ← hC, ← hB]
  try rw [hD]
  clear hW hB hC hD ha hb
  have g5 : Fr [] w w5 := g4.then0 f
  clear g4
  replace H1 := Lib.hid (H1.out.keep f (by simp) (by simp))
  replace x1 := H1.out.c0
  replace y1 := H1.out.c1
  replace z1 := H1.out.lt
  clear f
  have x2 := H2.out.c0
  have y2 := H2.out.c1
  have z2 := H2.out.lt
  have x3 := H3.out.c0
  have y3 := H3.out.c1
  have z3 := H3.out.lt
  refine (HT2.out _ _ _ H3.out.r).mono ?_
  rintro e w6 ⟨v1, v2, rfl, f, ha, hb⟩
  replace ha := ha.mono (N' := fun _ => True) (fun _ _ => trivial)
  replace hb := hb.mono (N' := fun _ => True) (fun _ _ => trivial)
  have g6 : Fr [] w w6 := g5.then0 f
  clear g5
  replace H1 := Lib.hid (H1.out.keep f (by simp) (by simp))
  replace x1 := H1.out.c0
  replace y1 := H1.out.c1
  replace z1 := H1.out.lt
  replace H2 := Lib.hid (H2.out.keep f (by simp) (by simp))
  replace x2 := H2.out.c0
  replace y2 := H2.out.c1
  replace z2 := H2.out.lt
  replace H3 := Lib.hid (H3.out.keep f (by simp) (by simp))
  replace x3 := H3.out.c0
  replace y3 := H3.out.c1
  replace z3 := H3.out.lt
  clear f
  obtain ⟨a4, n4, c4, t4, rfl⟩ := ha.form
  obtain ⟨a5, n5, c5, t5, rfl⟩ := hb.form
  go_wp2_with fail
  obtain ⟨w7, B4, B5, hW, hB, hC, hD, f, H4, H5⟩ := Bd.two' ha hb
  rw [← hW, ← hC, ← hB]
  try rw [hD]
  clear hW hB hC hD ha hb
  have g7 : Fr [] w w7 := g6.then0 f
  clear g6
  replace H1 := Lib.hid (H1.out.keep f (by simp) (by simp))
  replace x1 := H1.out.c0
  replace y1 := H1.out.c1
  replace z1 := H1.out.lt
  replace H2 := Lib.hid (H2.out.keep f (by simp) (by simp))
  replace x2 := H2.out.c0
  replace y2 := H2.out.c1
  replace z2 := H2.out.lt
  replace H3 := Lib.hid (H3.out.keep f (by simp) (by simp))
  replace x3 := H3.out.c0
  replace y3 := H3.out.c1
  replace z3 := H3.out.lt
  clear f
  have x4 := H4.out.c0
  have y4 := H4.out.c1
  have z4 := H4.out.lt
  have x5 := H5.out.c0
  have y5 := H5.out.c1
  have z5 := H5.out.lt
  refine (HT3.out _ _ _ H1.out.r).mono ?_
  rintro e w8 ⟨v1, v2, rfl, f, ha, hb⟩
  replace ha := ha.mono (N' := fun _ => True) (fun _ _ => trivial)
  replace hb := hb.mono (N' := fun _ => True) (fun _ _ => trivial)
  have g8 : Fr [] w w8 := g7.then0 f
  clear g7
  replace H1 := Lib.hid (H1.out.keep f (by simp) (by simp))
  replace x1 := H1.out.c0
  replace y1 := H1.out.c1
  replace z1 := H1.out.lt
  replace H2 := Lib.hid (H2.out.keep f (by simp) (by simp))
  replace x2 := H2.out.c0
  replace y2 := H2.out.c1
  replace z2 := H2.out.lt
  replace H3 := Lib.hid (H3.out.keep f (by simp) (by simp))
  replace x3 := H3.out.c0
  replace y3 := H3.out.c1
  replace z3 := H3.out.lt
  replace H4 := Lib.hid (H4.out.keep f (by simp) (by simp))
  replace x4 := H4.out.c0
  replace y4 := H4.out.c1
  replace z4 := H4.out.lt
  replace H5 := Lib.hid (H5.out.keep f (by simp) (by simp))
  replace x5 := H5.out.c0
  replace y5 := H5.out.c1
  replace z5 := H5.out.lt
  clear f
  obtain ⟨a6, n6, c6, t6, rfl⟩ := ha.form
  obtain ⟨a7, n7, c7, t7, rfl⟩ := hb.form
  go_wp2_with fail
  obtain ⟨w9, B6, B7, hW, hB, hC, hD, f, H6, H7⟩ := Bd.two' ha hb
  rw [← hW, ← hC, ← hB]
  try rw [hD]
  clear hW hB hC hD ha hb
  have g9 : Fr [] w w9 := g8.then0 f
  clear g8
  replace H1 := Lib.hid (H1.out.keep f (by simp) (by simp))
  replace x1 := H1.out.c0
  replace y1 := H1.out.c1
  replace z1 := H1.out.lt
  replace H2 := Lib.hid (H2.out.keep f (by simp) (by simp))
  replace x2 := H2.out.c0
  replace y2 := H2.out.c1
  replace z2 := H2.out.lt
  replace H3 := Lib.hid (H3.out.keep f (by simp) (by simp))
  replace x3 := H3.out.c0
  replace y3 := H3.out.c1
  replace z3 := H3.out.lt
  replace H4 := Lib.hid (H4.out.keep f (by simp) (by simp))
  replace x4 := H4.out.c0
  replace y4 := H4.out.c1
  replace z4 := H4.out.lt
  replace H5 := Lib.hid (H5.out.keep f (by simp) (by simp))
  replace x5 := H5.out.c0
  replace y5 := H5.out.c1
  replace z5 := H5.out.lt
  clear f
  have x6 := H6.out.c0
  have y6 := H6.out.c1
  have z6 := H6.out.lt
  have x7 := H7.out.c0
  have y7 := H7.out.c1
  have z7 := H7.out.lt
  refine (HJ1.out _ _ _ _ H2.out.r H3.out.r).mono ?_
  rintro e w10 ⟨f, v, rfl, hr⟩
  replace hr := hr.mono (N' := fun _ => True) (fun _ _ => trivial)
  have g10 : Fr [] w w10 := g9.then0 f
  clear g9
  replace H1 := Lib.hid (H1.out.keep f (by simp) (by simp))
  replace x1 := H1.out.c0
  replace y1 := H1.out.c1
  replace z1 := H1.out.lt
  replace H2 := Lib.hid (H2.out.keep f (by simp) (by simp))
  replace x2 := H2.out.c0
  replace y2 := H2.out.c1
  replace z2 := H2.out.lt
  replace H3 := Lib.hid (H3.out.keep f (by simp) (by simp))
  replace x3 := H3.out.c0
  replace y3 := H3.out.c1
  replace z3 := H3.out.lt
  replace H4 := Lib.hid (H4.out.keep f (by simp) (by simp))
  replace x4 := H4.out.c0
  replace y4 := H4.out.c1
  replace z4 := H4.out.lt
  replace H5 := Lib.hid (H5.out.keep f (by simp) (by simp))
  replace x5 := H5.out.c0
  replace y5 := H5.out.c1
  replace z5 := H5.out.lt
  replace H6 := Lib.hid (H6.out.keep f (by simp) (by simp))
  replace x6 := H6.out.c0
  replace y6 := H6.out.c1
  replace z6 := H6.out.lt
  replace H7 := Lib.hid (H7.out.keep f (by simp) (by simp))
  replace x7 := H7.out.c0
  replace y7 := H7.out.c1
  replace z7 := H7.out.lt
  clear f
  obtain ⟨a8, n8, c8, t8, rfl⟩ := hr.form
  go_wp2_with fail
  obtain ⟨w11, B8, hW, hB, hD, f, H8⟩ := Bd.new1 hr
  rw [← hW, ← hB]
  try rw [hD]
  clear hW hB hD hr
  have g11 : Fr [] w w11 := g10.then0 f
  clear g10
  replace H1 := Lib.hid (H1.out.keep f (by simp) (by simp))
  replace x1 := H1.out.c0
  replace y1 := H1.out.c1
  replace z1 := H1.out.lt
  replace H2 := Lib.hid (H2.out.keep f (by simp) (by simp))
  replace x2 := H2.out.c0
  replace y2 := H2.out.c1
  replace z2 := H2.out.lt
  replace H3 := Lib.hid (H3.out.keep f (by simp) (by simp))
  replace x3 := H3.out.c0
  replace y3 := H3.out.c1
  replace z3 := H3.out.lt
  replace H4 := Lib.hid (H4.out.keep f (by simp) (by simp))
  replace x4 := H4.out.c0
  replace y4 := H4.out.c1
  replace z4 := H4.out.lt
  replace H5 := Lib.hid (H5.out.keep f (by simp) (by simp))
  replace x5 := H5.out.c0
  replace y5 := H5.out.c1
  replace z5 := H5.out.lt
  replace H6 := Lib.hid (H6.out.keep f (by simp) (by simp))
  replace x6 := H6.out.c0
  replace y6 := H6.out.c1
  replace z6 := H6.out.lt
  replace H7 := Lib.hid (H7.out.keep f (by simp) (by simp))
  replace x7 := H7.out.c0
  replace y7 := H7.out.c1
  replace z7 := H7.out.lt
  clear f
  have x8 := H8.out.c0
  have y8 := H8.out.c1
  have z8 := H8.out.lt
  refine (HJ2.out _ _ _ _ H2.out.r H4.out.r).mono ?_
  rintro e w12 ⟨f, v, rfl, hr⟩
  replace hr := hr.mono (N' := fun _ => True) (fun _ _ => trivial)
  have g12 : Fr [] w w12 := g11.then0 f
  clear g11
  replace H1 := Lib.hid (H1.out.keep f (by simp) (by simp))
  replace x1 := H1.out.c0
  replace y1 := H1.out.c1
  replace z1 := H1.out.lt
  replace H2 := Lib.hid (H2.out.keep f (by simp) (by simp))
  replace x2 := H2.out.c0
  replace y2 := H2.out.c1
  replace z2 := H2.out.lt
  replace H3 := Lib.hid (H3.out.keep f (by simp) (by simp))
  replace x3 := H3.out.c0
  replace y3 := H3.out.c1
  replace z3 := H3.out.lt
  replace H4 := Lib.hid (H4.out.keep f (by simp) (by simp))
  replace x4 := H4.out.c0
  replace y4 := H4.out.c1
  replace z4 := H4.out.lt
  replace H5 := Lib.hid (H5.out.keep f (by simp) (by simp))
  replace x5 := H5.out.c0
  replace y5 := H5.out.c1
  replace z5 := H5.out.lt
  replace H6 := Lib.hid (H6.out.keep f (by simp) (by simp))
  replace x6 := H6.out.c0
  replace y6 := H6.out.c1
  replace z6 := H6.out.lt
  replace H7 := Lib.hid (H7.out.keep f (by simp) (by simp))
  replace x7 := H7.out.c0
  replace y7 := H7.out.c1
  replace z7 := H7.out.lt
  replace H8 := Lib.hid (H8.out.keep f (by simp) (by simp))
  replace x8 := H8.out.c0
  replace y8 := H8.out.c1
  replace z8 := H8.out.lt
  clear f
  obtain ⟨a9, n9, c9, t9, rfl⟩ := hr.form
  clear x3 z3 y3
  clear H3
  clear x4 z4 y4
  clear H4
  have za1 : B1 < w12.heap.size + 1 := by omega
  have zb1 : B1 < w12.heap.size + 1 + 1 := by omega
  have za8 : B8 < w12.heap.size + 1 := by omega
  have zb8 : B8 < w12.heap.size + 1 + 1 := by omega
  go_wp2_with fail
  replace H1 := Lib.hid H1.out.there
  replace H2 := Lib.hid H2.out.there
  replace H5 := Lib.hid H5.out.there
  replace H6 := Lib.hid H6.out.there
  replace H7 := Lib.hid H7.out.there
  replace H8 := Lib.hid H8.out.there
  replace hr := hr.there
  obtain ⟨w13, B9, BN, BM, hW, hB, hC, hD, hS, f, H9, qn, qm⟩ := three05 hr
  rw [← hW, ← hD, ← hC, ← hB]
  replace H1 : Hid (Bd w13 (fun b => b ≠ BN ∧ b ≠ BM) B1 a1 n1 c1 t1 _) := Lib.hid ⟨(H1.out.keep f (by simp) (by simp)).q, (H1.out.keep f (by simp) (by simp)).r.mono (fun x hx => by have := hx.2; omega)⟩
  have nn1 : B1 ≠ BN ∧ B1 ≠ BM := by omega
  clear x1 y1 z1
  replace H2 : Hid (Bd w13 (fun b => b ≠ BN ∧ b ≠ BM) B2 a2 n2 c2 t2 _) := Lib.hid ⟨(H2.out.keep f (by simp) (by simp)).q, (H2.out.keep f (by simp) (by simp)).r.mono (fun x hx => by have := hx.2; omega)⟩
  have nn2 : B2 ≠ BN ∧ B2 ≠ BM := by omega
  clear x2 y2 z2
  replace H5 : Hid (Bd w13 (fun b => b ≠ BN ∧ b ≠ BM) B5 a5 n5 c5 t5 _) := Lib.hid ⟨(H5.out.keep f (by simp) (by simp)).q, (H5.out.keep f (by simp) (by simp)).r.mono (fun x hx => by have := hx.2; omega)⟩
  have nn5 : B5 ≠ BN ∧ B5 ≠ BM := by omega
  clear x5 y5 z5
  replace H6 : Hid (Bd w13 (fun b => b ≠ BN ∧ b ≠ BM) B6 a6 n6 c6 t6 _) := Lib.hid ⟨(H6.out.keep f (by simp) (by simp)).q, (H6.out.keep f (by simp) (by simp)).r.mono (fun x hx => by have := hx.2; omega)⟩
  have nn6 : B6 ≠ BN ∧ B6 ≠ BM := by omega
  clear x6 y6 z6
  replace H7 : Hid (Bd w13 (fun b => b ≠ BN ∧ b ≠ BM) B7 a7 n7 c7 t7 _) := Lib.hid ⟨(H7.out.keep f (by simp) (by simp)).q, (H7.out.keep f (by simp) (by simp)).r.mono (fun x hx => by have := hx.2; omega)⟩
  have nn7 : B7 ≠ BN ∧ B7 ≠ BM := by omega
  clear x7 y7 z7
  replace H8 : Hid (Bd w13 (fun b => b ≠ BN ∧ b ≠ BM) B8 a8 n8 c8 t8 _) := Lib.hid ⟨(H8.out.keep f (by simp) (by simp)).q, (H8.out.keep f (by simp) (by simp)).r.mono (fun x hx => by have := hx.2; omega)⟩
  have nn8 : B8 ≠ BN ∧ B8 ≠ BM := by omega
  clear x8 y8 z8
  replace H9 : Hid (Bd w13 (fun b => b ≠ BN ∧ b ≠ BM) B9 a9 n9 c9 t9 _) := Lib.hid ⟨H9.out.q, H9.out.r.mono (fun x hx => by have := hx.2; omega)⟩
  have nn9 : B9 ≠ BN ∧ B9 ≠ BM := by omega
  have nNM : BN ≠ BM := by omega
  have hNw : w.heap.size ≤ BN ∧ w.heap.size ≤ BM := by have := g12.size; omega
  try rw [hS]
  clear hW hB hC hD hS hr za1 zb1 za8 zb8
  have g13 : Fr [] w w13 := g12.then0 f
  clear g12
  clear f
  have x1 := H1.out.c0
  have y1 := H1.out.c1
  have z1 := H1.out.lt
  have x2 := H2.out.c0
  have y2 := H2.out.c1
  have z2 := H2.out.lt
  have x5 := H5.out.c0
  have y5 := H5.out.c1
  have z5 := H5.out.lt
  have x6 := H6.out.c0
  have y6 := H6.out.c1
  have z6 := H6.out.lt
  have x7 := H7.out.c0
  have y7 := H7.out.c1
  have z7 := H7.out.lt
  have x8 := H8.out.c0
  have y8 := H8.out.c1
  have z8 := H8.out.lt
  have x9 := H9.out.c0
  have y9 := H9.out.c1
  have z9 := H9.out.lt
  have hfn := fun (w : World) (fn : Fn) (c d : Array Value) => run_eql_func (P := Try.prog) w 77 Try.underlying77 fn c d
  refine (rope_parts5 _ _ _ _ _).mono ?_
  rintro e w14 ⟨rfl, hw⟩
  have f : Fr [] w13 w14 := by rw [hw]; exact (Fr.refl _ _).alloc _
  clear hw
  replace qn := f.keep qn (by simp)
  replace qm := f.keep qm (by simp)
  have g14 : Fr [] w w14 := g13.then0 f
  clear g13
  replace H1 := Lib.hid (H1.out.keep f (by simp) (by simp))
  replace x1 := H1.out.c0
  replace y1 := H1.out.c1
  replace z1 := H1.out.lt
  replace H2 := Lib.hid (H2.out.keep f (by simp) (by simp))
  replace x2 := H2.out.c0
  replace y2 := H2.out.c1
  replace z2 := H2.out.lt
  replace H5 := Lib.hid (H5.out.keep f (by simp) (by simp))
  replace x5 := H5.out.c0
  replace y5 := H5.out.c1
  replace z5 := H5.out.lt
  replace H6 := Lib.hid (H6.out.keep f (by simp) (by simp))
  replace x6 := H6.out.c0
  replace y6 := H6.out.c1
  replace z6 := H6.out.lt
  replace H7 := Lib.hid (H7.out.keep f (by simp) (by simp))
  replace x7 := H7.out.c0
  replace y7 := H7.out.c1
  replace z7 := H7.out.lt
  replace H8 := Lib.hid (H8.out.keep f (by simp) (by simp))
  replace x8 := H8.out.c0
  replace y8 := H8.out.c1
  replace z8 := H8.out.lt
  replace H9 := Lib.hid (H9.out.keep f (by simp) (by simp))
  replace x9 := H9.out.c0
  replace y9 := H9.out.c1
  replace z9 := H9.out.lt
  clear f
  go_wp2_with fail
  refine (rope_parts5 _ _ _ _ _).mono ?_
  rintro e w15 ⟨rfl, hw⟩
  have f : Fr [] w14 w15 := by rw [hw]; exact (Fr.refl _ _).alloc _
  clear hw
  replace qn := f.keep qn (by simp)
  replace qm := f.keep qm (by simp)
  have g15 : Fr [] w w15 := g14.then0 f
  clear g14
  replace H1 := Lib.hid (H1.out.keep f (by simp) (by simp))
  replace x1 := H1.out.c0
  replace y1 := H1.out.c1
  replace z1 := H1.out.lt
  replace H2 := Lib.hid (H2.out.keep f (by simp) (by simp))
  replace x2 := H2.out.c0
  replace y2 := H2.out.c1
  replace z2 := H2.out.lt
  replace H5 := Lib.hid (H5.out.keep f (by simp) (by simp))
  replace x5 := H5.out.c0
  replace y5 := H5.out.c1
  replace z5 := H5.out.lt
  replace H6 := Lib.hid (H6.out.keep f (by simp) (by simp))
  replace x6 := H6.out.c0
  replace y6 := H6.out.c1
  replace z6 := H6.out.lt
  replace H7 := Lib.hid (H7.out.keep f (by simp) (by simp))
  replace x7 := H7.out.c0
  replace y7 := H7.out.c1
  replace z7 := H7.out.lt
  replace H8 := Lib.hid (H8.out.keep f (by simp) (by simp))
  replace x8 := H8.out.c0
  replace y8 := H8.out.c1
  replace z8 := H8.out.lt
  replace H9 := Lib.hid (H9.out.keep f (by simp) (by simp))
  replace x9 := H9.out.c0
  replace y9 := H9.out.c1
  replace z9 := H9.out.lt
  clear f
  go_wp2_with fail
  refine (rope_parts5 _ _ _ _ _).mono ?_
  rintro e w16 ⟨rfl, hw⟩
  have f : Fr [] w15 w16 := by rw [hw]; exact (Fr.refl _ _).alloc _
  have bL : w16.heap[w15.heap.size]? = some (.cells #[.slice a1 n1 c1, .int .i64 t1] 65 (0, 0)) := by rw [hw]; exact newA rfl
  clear hw
  obtain ⟨BL1, hBL⟩ : ∃ B, B = w15.heap.size := ⟨_, rfl⟩
  rw [← hBL] at bL ⊢
  have hNL : BN ≠ BL1 := by have := lt_of_heap qn; omega
  clear hBL
  replace qn := f.keep qn (by simp)
  replace qm := f.keep qm (by simp)
  have g16 : Fr [] w w16 := g15.then0 f
  clear g15
  replace H1 := Lib.hid (H1.out.keep f (by simp) (by simp))
  replace x1 := H1.out.c0
  replace y1 := H1.out.c1
  replace z1 := H1.out.lt
  replace H2 := Lib.hid (H2.out.keep f (by simp) (by simp))
  replace x2 := H2.out.c0
  replace y2 := H2.out.c1
  replace z2 := H2.out.lt
  replace H5 := Lib.hid (H5.out.keep f (by simp) (by simp))
  replace x5 := H5.out.c0
  replace y5 := H5.out.c1
  replace z5 := H5.out.lt
  replace H6 := Lib.hid (H6.out.keep f (by simp) (by simp))
  replace x6 := H6.out.c0
  replace y6 := H6.out.c1
  replace z6 := H6.out.lt
  replace H7 := Lib.hid (H7.out.keep f (by simp) (by simp))
  replace x7 := H7.out.c0
  replace y7 := H7.out.c1
  replace z7 := H7.out.lt
  replace H8 := Lib.hid (H8.out.keep f (by simp) (by simp))
  replace x8 := H8.out.c0
  replace y8 := H8.out.c1
  replace z8 := H8.out.lt
  replace H9 := Lib.hid (H9.out.keep f (by simp) (by simp))
  replace x9 := H9.out.c0
  replace y9 := H9.out.c1
  replace z9 := H9.out.lt
  clear f
  go_wp2_with fail
  obtain ⟨ev1, ev2⟩ := H1.out.r.val
  subst ev1 ev2
  have HPH := parts_handsG H1.out.r (S := [BN]) (by simp) bL (by simpa using Ne.symm hNL) 5 (by omega)
  have HEN := enters_of Try.func99 (by kernel_rfl) rfl
  refine (wpIn_wide (n := 6)).1 ?_
  refine range_gen (gf := 99) (lb := #[.pointer (some ⟨BL1, 0, none⟩)]) (encs := fun x : Value × List UInt8 => #[x.1]) (Kp := FrK w16.heap.size [BN]) (Hd := PartHdG X) (S := fun xs => xs.map (·.2) = X) (Sp := fun xs => xs.map (·.2) = X.take xs.length ∧ xs.length ≤ X.length) (upd := fun a x => { tmps := a.tmps.setIfInBounds 123 x.1, defers := [] }) rfl ?h1 ?hg trivial HEN HPH (fun h k => FrK.trans h k) (fun W l o o' hl _ _ => FrK.putObj hl W o') (fun pre x s W l o o' hl ho hx => ⟨hx.1, hx.2.putObj hl ho⟩) (fun _ => rfl)
    (CI w16 BN) (fun _ _ _ => False) ?own ?ownx ?start ?assign ?body ?done ?stop
  case h1 => omega
  case hg => rfl
  case own => exact CI.own
  case ownx => intro c s W W' row h; exact h.elim
  case start => exact ⟨Fr.refl _ _, qn⟩
  case stop => intro D c xs W _ _ h; exact h.elim
  case assign =>
    intro l x W K hK
    gi_wp2
    simp only [List.setIfInBounds_toArray, List.set_cons_succ, List.set_cons_zero] at hK
    exact hK
  case body =>
    rintro l r pre ⟨xv, xl⟩ W0 W2 hI0 hr hrB hf ⟨hx1, hx2⟩
    dsimp only at hx1 hx2 ⊢
    simp only [List.setIfInBounds_toArray, List.set_cons_succ, List.set_cons_zero]
    have hq := hf.keep hI0.n (not_r hr hI0.n)
    have fr2 : Fr [BN] w16 W2 := hI0.fr.trans hf (fun _ h => .inl h) (fun x hx => .inr (by simp at hx; subst hx; exact hrB))
    have hpl : (pre.length : Int) ≤ 9223372036854775806 := by have := (List.getElem?_eq_some_iff.1 hx1).1; omega
    have d0 : W2.cell? ⟨BN, 0, none⟩ = some (.int .i64 pre.length) := cell_of hq
    have d1 : W2.frozen? ⟨BN, 0, none⟩ = false := free_of hq
    have hz := fr2.size
    clear hx1 hx2 hI0 hf
    gi_wp2
    have fA : Fr [BN] W2 (W2.setCell ⟨BN, 0, none⟩ (.int .i64 (pre.length + 1))) := (Fr.refl _ _).setCell (.inl (by simp)) _
    refine ⟨fA.keepsOthers (fun x hx o ho => ?_), fA.toK hz, fr2.trans fA (fun _ h => .inl h) (fun x hx => .inl hx), ?_⟩
    · rw [List.mem_singleton] at hx; subst hx; rw [hq] at ho; injection ho with ho; subst ho; rfl
    · have := heap_setCell_eq (i := 0) (u := .int .i64 (pre.length + 1)) hq; simpa using this
  case done =>
    rintro D1 xs w17 hD hS hI hK1
    simp only [Exit.inBlock, Exit.then]
    have hxl : xs.length = X.length := by rw [← hS, List.length_map]
    have hgK := g16.size
    replace qn := hI.n
    rw [hxl] at qn
    have f := hI.fr
    replace qm := f.keep qm (by simp; omega)
    clear hS hI hxl bL HPH HEN hNL
    have g17 : Fr [] w w17 := g16.trans f (by simp) (by simp; omega)
    clear g16
    replace H1 := Lib.hid (H1.out.keep f (by simp; omega) (by simp))
    replace x1 := H1.out.c0
    replace y1 := H1.out.c1
    replace z1 := H1.out.lt
    replace H2 := Lib.hid (H2.out.keep f (by simp; omega) (by simp))
    replace x2 := H2.out.c0
    replace y2 := H2.out.c1
    replace z2 := H2.out.lt
    replace H5 := Lib.hid (H5.out.keep f (by simp; omega) (by simp))
    replace x5 := H5.out.c0
    replace y5 := H5.out.c1
    replace z5 := H5.out.lt
    replace H6 := Lib.hid (H6.out.keep f (by simp; omega) (by simp))
    replace x6 := H6.out.c0
    replace y6 := H6.out.c1
    replace z6 := H6.out.lt
    replace H7 := Lib.hid (H7.out.keep f (by simp; omega) (by simp))
    replace x7 := H7.out.c0
    replace y7 := H7.out.c1
    replace z7 := H7.out.lt
    replace H8 := Lib.hid (H8.out.keep f (by simp; omega) (by simp))
    replace x8 := H8.out.c0
    replace y8 := H8.out.c1
    replace z8 := H8.out.lt
    replace H9 := Lib.hid (H9.out.keep f (by simp; omega) (by simp))
    replace x9 := H9.out.c0
    replace y9 := H9.out.c1
    replace z9 := H9.out.lt
    have lD1 : w.heap.size ≤ D1 := Nat.le_trans hgK hD
    have nD1 : D1 ≠ BM := fun e => by rw [e, qm] at hK1; cases hK1
    clear hD hgK
    go_wp2_with fail
    refine (rope_parts5 _ _ _ _ _).mono ?_
    rintro e w18 ⟨rfl, hw⟩
    have f : Fr [] w17 w18 := by rw [hw]; exact (Fr.refl _ _).alloc _
    have bL : w18.heap[w17.heap.size]? = some (.cells #[.slice a8 n8 c8, .int .i64 t8] 65 (0, 0)) := by rw [hw]; exact newA rfl
    clear hw
    obtain ⟨BL8, hBL⟩ : ∃ B, B = w17.heap.size := ⟨_, rfl⟩
    rw [← hBL] at bL ⊢
    have hNL : BM ≠ BL8 := by have := lt_of_heap qm; omega
    clear hBL
    replace hK1 := f.keep hK1 (by simp)
    replace qn := f.keep qn (by simp)
    replace qm := f.keep qm (by simp)
    have g18 : Fr [] w w18 := g17.then0 f
    clear g17
    replace H1 := Lib.hid (H1.out.keep f (by simp) (by simp))
    replace x1 := H1.out.c0
    replace y1 := H1.out.c1
    replace z1 := H1.out.lt
    replace H2 := Lib.hid (H2.out.keep f (by simp) (by simp))
    replace x2 := H2.out.c0
    replace y2 := H2.out.c1
    replace z2 := H2.out.lt
    replace H5 := Lib.hid (H5.out.keep f (by simp) (by simp))
    replace x5 := H5.out.c0
    replace y5 := H5.out.c1
    replace z5 := H5.out.lt
    replace H6 := Lib.hid (H6.out.keep f (by simp) (by simp))
    replace x6 := H6.out.c0
    replace y6 := H6.out.c1
    replace z6 := H6.out.lt
    replace H7 := Lib.hid (H7.out.keep f (by simp) (by simp))
    replace x7 := H7.out.c0
    replace y7 := H7.out.c1
    replace z7 := H7.out.lt
    replace H8 := Lib.hid (H8.out.keep f (by simp) (by simp))
    replace x8 := H8.out.c0
    replace y8 := H8.out.c1
    replace z8 := H8.out.lt
    replace H9 := Lib.hid (H9.out.keep f (by simp) (by simp))
    replace x9 := H9.out.c0
    replace y9 := H9.out.c1
    replace z9 := H9.out.lt
    clear f
    go_wp2_with fail
    obtain ⟨ev1, ev2⟩ := H8.out.r.val
    subst ev1 ev2
    have HPH := parts_handsG H8.out.r (S := [BM]) (by simp) bL (by simpa using Ne.symm hNL) 5 (by omega)
    have HEN := enters_of Try.func99 (by kernel_rfl) rfl
    refine (wpIn_wide (n := 6)).1 ?_
    refine range_gen (gf := 99) (lb := #[.pointer (some ⟨BL8, 0, none⟩)]) (encs := fun x : Value × List UInt8 => #[x.1]) (Kp := FrK w18.heap.size [BM]) (Hd := PartHdG Z) (S := fun xs => xs.map (·.2) = Z) (Sp := fun xs => xs.map (·.2) = Z.take xs.length ∧ xs.length ≤ Z.length) (upd := fun a x => { tmps := a.tmps.setIfInBounds 128 x.1, defers := [] }) rfl ?h1 ?hg trivial HEN HPH (fun h k => FrK.trans h k) (fun W l o o' hl _ _ => FrK.putObj hl W o') (fun pre x s W l o o' hl ho hx => ⟨hx.1, hx.2.putObj hl ho⟩) (fun _ => rfl)
      (CI w18 BM) (fun _ _ _ => False) ?own ?ownx ?start ?assign ?body ?done ?stop
    case h1 => omega
    case hg => rfl
    case own => exact CI.own
    case ownx => intro c s W W' row h; exact h.elim
    case start => exact ⟨Fr.refl _ _, qm⟩
    case stop => intro D c xs W _ _ h; exact h.elim
    case assign =>
      intro l x W K hK
      gi_wp2
      simp only [List.setIfInBounds_toArray, List.set_cons_succ, List.set_cons_zero] at hK
      exact hK
    case body =>
      rintro l r pre ⟨xv, xl⟩ W0 W2 hI0 hr hrB hf ⟨hx1, hx2⟩
      dsimp only at hx1 hx2 ⊢
      simp only [List.setIfInBounds_toArray, List.set_cons_succ, List.set_cons_zero]
      have hq := hf.keep hI0.n (not_r hr hI0.n)
      have fr2 : Fr [BM] w18 W2 := hI0.fr.trans hf (fun _ h => .inl h) (fun x hx => .inr (by simp at hx; subst hx; exact hrB))
      have hpl : (pre.length : Int) ≤ 9223372036854775806 := by have := (List.getElem?_eq_some_iff.1 hx1).1; omega
      have d0 : W2.cell? ⟨BM, 0, none⟩ = some (.int .i64 pre.length) := cell_of hq
      have d1 : W2.frozen? ⟨BM, 0, none⟩ = false := free_of hq
      have hz := fr2.size
      clear hx1 hx2 hI0 hf
      gi_wp2
      have fA : Fr [BM] W2 (W2.setCell ⟨BM, 0, none⟩ (.int .i64 (pre.length + 1))) := (Fr.refl _ _).setCell (.inl (by simp)) _
      refine ⟨fA.keepsOthers (fun x hx o ho => ?_), fA.toK hz, fr2.trans fA (fun _ h => .inl h) (fun x hx => .inl hx), ?_⟩
      · rw [List.mem_singleton] at hx; subst hx; rw [hq] at ho; injection ho with ho; subst ho; rfl
      · have := heap_setCell_eq (i := 0) (u := .int .i64 (pre.length + 1)) hq; simpa using this
    case done =>
      rintro D8 xs w19 hD hS hI hK8
      simp only [Exit.inBlock, Exit.then]
      have hxl : xs.length = Z.length := by rw [← hS, List.length_map]
      have hgK := g18.size
      have hDD : D1 ≠ D8 := fun e => by have := lt_of_heap hK1; omega
      replace hK1 := hI.fr.keep hK1 (by simpa using nD1)
      replace qm := hI.n
      rw [hxl] at qm
      have f := hI.fr
      replace qn := f.keep qn (by simp; omega)
      clear hS hI hxl bL HPH HEN hNL
      have g19 : Fr [] w w19 := g18.trans f (by simp) (by simp; omega)
      clear g18
      replace H1 := Lib.hid (H1.out.keep f (by simp; omega) (by simp))
      replace x1 := H1.out.c0
      replace y1 := H1.out.c1
      replace z1 := H1.out.lt
      replace H2 := Lib.hid (H2.out.keep f (by simp; omega) (by simp))
      replace x2 := H2.out.c0
      replace y2 := H2.out.c1
      replace z2 := H2.out.lt
      replace H5 := Lib.hid (H5.out.keep f (by simp; omega) (by simp))
      replace x5 := H5.out.c0
      replace y5 := H5.out.c1
      replace z5 := H5.out.lt
      replace H6 := Lib.hid (H6.out.keep f (by simp; omega) (by simp))
      replace x6 := H6.out.c0
      replace y6 := H6.out.c1
      replace z6 := H6.out.lt
      replace H7 := Lib.hid (H7.out.keep f (by simp; omega) (by simp))
      replace x7 := H7.out.c0
      replace y7 := H7.out.c1
      replace z7 := H7.out.lt
      replace H8 := Lib.hid (H8.out.keep f (by simp; omega) (by simp))
      replace x8 := H8.out.c0
      replace y8 := H8.out.c1
      replace z8 := H8.out.lt
      replace H9 := Lib.hid (H9.out.keep f (by simp; omega) (by simp))
      replace x9 := H9.out.c0
      replace y9 := H9.out.c1
      replace z9 := H9.out.lt
      have lD8 : w.heap.size ≤ D8 := Nat.le_trans hgK hD
      clear hD hgK nD1 hfn
      have nDD : D1 ≠ D8 := hDD
      clear hDD
      have cBN : w19.cell? ⟨BN, 0, none⟩ = _ := cell_of qn
      have cBM : w19.cell? ⟨BM, 0, none⟩ = _ := cell_of qm
      have hxi : (X.length : Int) ≤ 60 := by omega
      rcases (show Z.length = X.length ∨ (Z.length ≠ X.length ∧ Z.length = X.length + 1) from by have h1 := HLZ.out; rcases CNT.out with h | h <;> omega) with hm | ⟨hm, hm2⟩
      · have hmn : ((Z.length : Int) == (X.length : Int)) = true := by rw [hm]; exact beq_self_eq_true _
        clear hm CNT HLZ
        go_wp2_with fail
        refine (HE1.out _ _ _ _ _ H8.out.r H1.out.r).mono ?_
        rintro e w20 ⟨rfl, f⟩
        replace hK1 := f.keep hK1 (by simp)
        replace hK8 := f.keep hK8 (by simp)
        replace qn := f.keep qn (by simp)
        replace qm := f.keep qm (by simp)
        replace cBN : w20.cell? ⟨BN, 0, none⟩ = _ := cell_of qn
        replace cBM : w20.cell? ⟨BM, 0, none⟩ = _ := cell_of qm
        have g20 : Fr [] w w20 := g19.then0 f
        clear g19
        replace H1 := Lib.hid (H1.out.keep f (by simp) (by simp))
        replace x1 := H1.out.c0
        replace y1 := H1.out.c1
        replace z1 := H1.out.lt
        replace H2 := Lib.hid (H2.out.keep f (by simp) (by simp))
        replace x2 := H2.out.c0
        replace y2 := H2.out.c1
        replace z2 := H2.out.lt
        replace H5 := Lib.hid (H5.out.keep f (by simp) (by simp))
        replace x5 := H5.out.c0
        replace y5 := H5.out.c1
        replace z5 := H5.out.lt
        replace H6 := Lib.hid (H6.out.keep f (by simp) (by simp))
        replace x6 := H6.out.c0
        replace y6 := H6.out.c1
        replace z6 := H6.out.lt
        replace H7 := Lib.hid (H7.out.keep f (by simp) (by simp))
        replace x7 := H7.out.c0
        replace y7 := H7.out.c1
        replace z7 := H7.out.lt
        replace H8 := Lib.hid (H8.out.keep f (by simp) (by simp))
        replace x8 := H8.out.c0
        replace y8 := H8.out.c1
        replace z8 := H8.out.lt
        replace H9 := Lib.hid (H9.out.keep f (by simp) (by simp))
        replace x9 := H9.out.c0
        replace y9 := H9.out.c1
        replace z9 := H9.out.lt
        clear f
        clear x8 z8 y8
        clear H8
        go_wp2_with fail
        refine (HE2.out _ _ _ _ _ H9.out.r H6.out.r).mono ?_
        rintro e w21 ⟨rfl, f⟩
        replace hK1 := f.keep hK1 (by simp)
        replace hK8 := f.keep hK8 (by simp)
        replace qn := f.keep qn (by simp)
        replace qm := f.keep qm (by simp)
        replace cBN : w21.cell? ⟨BN, 0, none⟩ = _ := cell_of qn
        replace cBM : w21.cell? ⟨BM, 0, none⟩ = _ := cell_of qm
        have g21 : Fr [] w w21 := g20.then0 f
        clear g20
        replace H1 := Lib.hid (H1.out.keep f (by simp) (by simp))
        replace x1 := H1.out.c0
        replace y1 := H1.out.c1
        replace z1 := H1.out.lt
        replace H2 := Lib.hid (H2.out.keep f (by simp) (by simp))
        replace x2 := H2.out.c0
        replace y2 := H2.out.c1
        replace z2 := H2.out.lt
        replace H5 := Lib.hid (H5.out.keep f (by simp) (by simp))
        replace x5 := H5.out.c0
        replace y5 := H5.out.c1
        replace z5 := H5.out.lt
        replace H6 := Lib.hid (H6.out.keep f (by simp) (by simp))
        replace x6 := H6.out.c0
        replace y6 := H6.out.c1
        replace z6 := H6.out.lt
        replace H7 := Lib.hid (H7.out.keep f (by simp) (by simp))
        replace x7 := H7.out.c0
        replace y7 := H7.out.c1
        replace z7 := H7.out.lt
        replace H9 := Lib.hid (H9.out.keep f (by simp) (by simp))
        replace x9 := H9.out.c0
        replace y9 := H9.out.c1
        replace z9 := H9.out.lt
        clear f
        clear x9 z9 y9
        clear H9
        clear x6 z6 y6
        clear H6
        go_wp2_with fail
        refine (HE3.out _ _ _ _ _ H5.out.r H7.out.r).mono ?_
        rintro e w22 ⟨rfl, f⟩
        replace hK1 := f.keep hK1 (by simp)
        replace hK8 := f.keep hK8 (by simp)
        replace qn := f.keep qn (by simp)
        replace qm := f.keep qm (by simp)
        replace cBN : w22.cell? ⟨BN, 0, none⟩ = _ := cell_of qn
        replace cBM : w22.cell? ⟨BM, 0, none⟩ = _ := cell_of qm
        have g22 : Fr [] w w22 := g21.then0 f
        clear g21
        replace H1 := Lib.hid (H1.out.keep f (by simp) (by simp))
        replace x1 := H1.out.c0
        replace y1 := H1.out.c1
        replace z1 := H1.out.lt
        replace H2 := Lib.hid (H2.out.keep f (by simp) (by simp))
        replace x2 := H2.out.c0
        replace y2 := H2.out.c1
        replace z2 := H2.out.lt
        replace H5 := Lib.hid (H5.out.keep f (by simp) (by simp))
        replace x5 := H5.out.c0
        replace y5 := H5.out.c1
        replace z5 := H5.out.lt
        replace H7 := Lib.hid (H7.out.keep f (by simp) (by simp))
        replace x7 := H7.out.c0
        replace y7 := H7.out.c1
        replace z7 := H7.out.lt
        clear f
        clear x5 z5 y5
        clear H5
        clear x7 z7 y7
        clear H7
        go_wp2_with fail
        refine (HL.out _ _ _ H2.out.r).mono ?_
        rintro e w23 ⟨rfl, f⟩
        replace hK1 := f.keep hK1 (by simp)
        replace hK8 := f.keep hK8 (by simp)
        replace qn := f.keep qn (by simp)
        replace qm := f.keep qm (by simp)
        replace cBN : w23.cell? ⟨BN, 0, none⟩ = _ := cell_of qn
        replace cBM : w23.cell? ⟨BM, 0, none⟩ = _ := cell_of qm
        have g23 : Fr [] w w23 := g22.then0 f
        clear g22
        replace H1 := Lib.hid (H1.out.keep f (by simp) (by simp))
        replace x1 := H1.out.c0
        replace y1 := H1.out.c1
        replace z1 := H1.out.lt
        replace H2 := Lib.hid (H2.out.keep f (by simp) (by simp))
        replace x2 := H2.out.c0
        replace y2 := H2.out.c1
        replace z2 := H2.out.lt
        clear f
        clear x2 z2 y2
        clear H2
        rcases (show (x ≤ (G.length : Int) ∧ min x (G.length : Int) = x) ∨ (¬ x ≤ (G.length : Int) ∧ min x (G.length : Int) = (G.length : Int)) from by omega) with ⟨hxg, hmin⟩ | ⟨hxg, hmin⟩
        · rw [hmin]
          clear hmin
          go_wp2_with fail
          refine (HBY.out _ _ _ H1.out.r).mono ?_
          rintro e w24 ⟨u, rfl, f, ob⟩
          replace hK1 := f.keep hK1 (by simp)
          replace hK8 := f.keep hK8 (by simp)
          replace qn := f.keep qn (by simp)
          replace qm := f.keep qm (by simp)
          replace cBN : w24.cell? ⟨BN, 0, none⟩ = _ := cell_of qn
          replace cBM : w24.cell? ⟨BM, 0, none⟩ = _ := cell_of qm
          have g24 : Fr [] w w24 := g23.then0 f
          clear g23
          replace H1 := Lib.hid (H1.out.keep f (by simp) (by simp))
          replace x1 := H1.out.c0
          replace y1 := H1.out.c1
          replace z1 := H1.out.lt
          clear f
          obtain ⟨gb, gbc, rfl, _, _, hs, _⟩ := ob.formB
          have hcv := fun c => conv_st (cap := c) hs rfl
          clear ob hs
          go_wp2_with fail
          refine (known05 _).mono ?_
          rintro e w25 ⟨rfl, f⟩
          replace hK1 := f.keep hK1 (by simp)
          replace hK8 := f.keep hK8 (by simp)
          have g25 : Fr [] w w25 := g24.then0 f
          clear g24
          clear f
          have fP8 : Fr [D8] w25 (w25.putObj D8 (.deferred none)) := ⟨rfl, rfl, rfl, by simp [World.putObj], fun k _ hn => World.putObj_heap_other (by simpa using hn)⟩
          have hK1' := fP8.keep hK1 (by simpa using nDD)
          have fP1 : Fr [D1] (w25.putObj D8 (.deferred none)) ((w25.putObj D8 (.deferred none)).putObj D1 (.deferred none)) := ⟨rfl, rfl, rfl, by simp [World.putObj], fun k _ hn => World.putObj_heap_other (by simpa using hn)⟩
          have GE := Lib.hid ((g25.trans fP8 (U := []) (by simp) (fun x hx => .inr (by simp at hx; omega))).trans fP1 (U := []) (by simp) (fun x hx => .inr (by simp at hx; omega)))
          go_wp2_with fail
          refine ⟨by simp, .inl ⟨_, _, rfl, run_takeDeferred hK8, ?_⟩⟩
          refine ⟨by simp, .inl ⟨_, _, rfl, run_takeDeferred hK1', ?_⟩⟩
          exact ⟨.bool true, by simp [results, Try.results12, go_sem], rfl, GE.out⟩
        · rw [hmin]
          clear hmin
          go_wp2_with fail
          refine (HBY.out _ _ _ H1.out.r).mono ?_
          rintro e w24 ⟨u, rfl, f, ob⟩
          replace hK1 := f.keep hK1 (by simp)
          replace hK8 := f.keep hK8 (by simp)
          replace qn := f.keep qn (by simp)
          replace qm := f.keep qm (by simp)
          replace cBN : w24.cell? ⟨BN, 0, none⟩ = _ := cell_of qn
          replace cBM : w24.cell? ⟨BM, 0, none⟩ = _ := cell_of qm
          have g24 : Fr [] w w24 := g23.then0 f
          clear g23
          replace H1 := Lib.hid (H1.out.keep f (by simp) (by simp))
          replace x1 := H1.out.c0
          replace y1 := H1.out.c1
          replace z1 := H1.out.lt
          clear f
          obtain ⟨gb, gbc, rfl, _, _, hs, _⟩ := ob.formB
          have hcv := fun c => conv_st (cap := c) hs rfl
          clear ob hs
          go_wp2_with fail
          refine (known05 _).mono ?_
          rintro e w25 ⟨rfl, f⟩
          replace hK1 := f.keep hK1 (by simp)
          replace hK8 := f.keep hK8 (by simp)
          have g25 : Fr [] w w25 := g24.then0 f
          clear g24
          clear f
          have fP8 : Fr [D8] w25 (w25.putObj D8 (.deferred none)) := ⟨rfl, rfl, rfl, by simp [World.putObj], fun k _ hn => World.putObj_heap_other (by simpa using hn)⟩
          have hK1' := fP8.keep hK1 (by simpa using nDD)
          have fP1 : Fr [D1] (w25.putObj D8 (.deferred none)) ((w25.putObj D8 (.deferred none)).putObj D1 (.deferred none)) := ⟨rfl, rfl, rfl, by simp [World.putObj], fun k _ hn => World.putObj_heap_other (by simpa using hn)⟩
          have GE := Lib.hid ((g25.trans fP8 (U := []) (by simp) (fun x hx => .inr (by simp at hx; omega))).trans fP1 (U := []) (by simp) (fun x hx => .inr (by simp at hx; omega)))
          go_wp2_with fail
          refine ⟨by simp, .inl ⟨_, _, rfl, run_takeDeferred hK8, ?_⟩⟩
          refine ⟨by simp, .inl ⟨_, _, rfl, run_takeDeferred hK1', ?_⟩⟩
          exact ⟨.bool true, by simp [results, Try.results12, go_sem], rfl, GE.out⟩
      · have hmn : ((Z.length : Int) == (X.length : Int)) = false := by rw [beq_eq_false_iff_ne]; omega
        have hmn2 : ((Z.length : Int) == (X.length : Int) + 1) = true := by rw [hm2]; simp
        clear hm2
        clear hm CNT HLZ
        go_wp2_with fail
        refine (HE1.out _ _ _ _ _ H8.out.r H1.out.r).mono ?_
        rintro e w20 ⟨rfl, f⟩
        replace hK1 := f.keep hK1 (by simp)
        replace hK8 := f.keep hK8 (by simp)
        replace qn := f.keep qn (by simp)
        replace qm := f.keep qm (by simp)
        replace cBN : w20.cell? ⟨BN, 0, none⟩ = _ := cell_of qn
        replace cBM : w20.cell? ⟨BM, 0, none⟩ = _ := cell_of qm
        have g20 : Fr [] w w20 := g19.then0 f
        clear g19
        replace H1 := Lib.hid (H1.out.keep f (by simp) (by simp))
        replace x1 := H1.out.c0
        replace y1 := H1.out.c1
        replace z1 := H1.out.lt
        replace H2 := Lib.hid (H2.out.keep f (by simp) (by simp))
        replace x2 := H2.out.c0
        replace y2 := H2.out.c1
        replace z2 := H2.out.lt
        replace H5 := Lib.hid (H5.out.keep f (by simp) (by simp))
        replace x5 := H5.out.c0
        replace y5 := H5.out.c1
        replace z5 := H5.out.lt
        replace H6 := Lib.hid (H6.out.keep f (by simp) (by simp))
        replace x6 := H6.out.c0
        replace y6 := H6.out.c1
        replace z6 := H6.out.lt
        replace H7 := Lib.hid (H7.out.keep f (by simp) (by simp))
        replace x7 := H7.out.c0
        replace y7 := H7.out.c1
        replace z7 := H7.out.lt
        replace H8 := Lib.hid (H8.out.keep f (by simp) (by simp))
        replace x8 := H8.out.c0
        replace y8 := H8.out.c1
        replace z8 := H8.out.lt
        replace H9 := Lib.hid (H9.out.keep f (by simp) (by simp))
        replace x9 := H9.out.c0
        replace y9 := H9.out.c1
        replace z9 := H9.out.lt
        clear f
        clear x8 z8 y8
        clear H8
        go_wp2_with fail
        refine (HE2.out _ _ _ _ _ H9.out.r H6.out.r).mono ?_
        rintro e w21 ⟨rfl, f⟩
        replace hK1 := f.keep hK1 (by simp)
        replace hK8 := f.keep hK8 (by simp)
        replace qn := f.keep qn (by simp)
        replace qm := f.keep qm (by simp)
        replace cBN : w21.cell? ⟨BN, 0, none⟩ = _ := cell_of qn
        replace cBM : w21.cell? ⟨BM, 0, none⟩ = _ := cell_of qm
        have g21 : Fr [] w w21 := g20.then0 f
        clear g20
        replace H1 := Lib.hid (H1.out.keep f (by simp) (by simp))
        replace x1 := H1.out.c0
        replace y1 := H1.out.c1
        replace z1 := H1.out.lt
        replace H2 := Lib.hid (H2.out.keep f (by simp) (by simp))
        replace x2 := H2.out.c0
        replace y2 := H2.out.c1
        replace z2 := H2.out.lt
        replace H5 := Lib.hid (H5.out.keep f (by simp) (by simp))
        replace x5 := H5.out.c0
        replace y5 := H5.out.c1
        replace z5 := H5.out.lt
        replace H6 := Lib.hid (H6.out.keep f (by simp) (by simp))
        replace x6 := H6.out.c0
        replace y6 := H6.out.c1
        replace z6 := H6.out.lt
        replace H7 := Lib.hid (H7.out.keep f (by simp) (by simp))
        replace x7 := H7.out.c0
        replace y7 := H7.out.c1
        replace z7 := H7.out.lt
        replace H9 := Lib.hid (H9.out.keep f (by simp) (by simp))
        replace x9 := H9.out.c0
        replace y9 := H9.out.c1
        replace z9 := H9.out.lt
        clear f
        clear x9 z9 y9
        clear H9
        clear x6 z6 y6
        clear H6
        go_wp2_with fail
        refine (HE3.out _ _ _ _ _ H5.out.r H7.out.r).mono ?_
        rintro e w22 ⟨rfl, f⟩
        replace hK1 := f.keep hK1 (by simp)
        replace hK8 := f.keep hK8 (by simp)
        replace qn := f.keep qn (by simp)
        replace qm := f.keep qm (by simp)
        replace cBN : w22.cell? ⟨BN, 0, none⟩ = _ := cell_of qn
        replace cBM : w22.cell? ⟨BM, 0, none⟩ = _ := cell_of qm
        have g22 : Fr [] w w22 := g21.then0 f
        clear g21
        replace H1 := Lib.hid (H1.out.keep f (by simp) (by simp))
        replace x1 := H1.out.c0
        replace y1 := H1.out.c1
        replace z1 := H1.out.lt
        replace H2 := Lib.hid (H2.out.keep f (by simp) (by simp))
        replace x2 := H2.out.c0
        replace y2 := H2.out.c1
        replace z2 := H2.out.lt
        replace H5 := Lib.hid (H5.out.keep f (by simp) (by simp))
        replace x5 := H5.out.c0
        replace y5 := H5.out.c1
        replace z5 := H5.out.lt
        replace H7 := Lib.hid (H7.out.keep f (by simp) (by simp))
        replace x7 := H7.out.c0
        replace y7 := H7.out.c1
        replace z7 := H7.out.lt
        clear f
        clear x5 z5 y5
        clear H5
        clear x7 z7 y7
        clear H7
        go_wp2_with fail
        refine (HL.out _ _ _ H2.out.r).mono ?_
        rintro e w23 ⟨rfl, f⟩
        replace hK1 := f.keep hK1 (by simp)
        replace hK8 := f.keep hK8 (by simp)
        replace qn := f.keep qn (by simp)
        replace qm := f.keep qm (by simp)
        replace cBN : w23.cell? ⟨BN, 0, none⟩ = _ := cell_of qn
        replace cBM : w23.cell? ⟨BM, 0, none⟩ = _ := cell_of qm
        have g23 : Fr [] w w23 := g22.then0 f
        clear g22
        replace H1 := Lib.hid (H1.out.keep f (by simp) (by simp))
        replace x1 := H1.out.c0
        replace y1 := H1.out.c1
        replace z1 := H1.out.lt
        replace H2 := Lib.hid (H2.out.keep f (by simp) (by simp))
        replace x2 := H2.out.c0
        replace y2 := H2.out.c1
        replace z2 := H2.out.lt
        clear f
        clear x2 z2 y2
        clear H2
        rcases (show (x ≤ (G.length : Int) ∧ min x (G.length : Int) = x) ∨ (¬ x ≤ (G.length : Int) ∧ min x (G.length : Int) = (G.length : Int)) from by omega) with ⟨hxg, hmin⟩ | ⟨hxg, hmin⟩
        · rw [hmin]
          clear hmin
          go_wp2_with fail
          refine (HBY.out _ _ _ H1.out.r).mono ?_
          rintro e w24 ⟨u, rfl, f, ob⟩
          replace hK1 := f.keep hK1 (by simp)
          replace hK8 := f.keep hK8 (by simp)
          replace qn := f.keep qn (by simp)
          replace qm := f.keep qm (by simp)
          replace cBN : w24.cell? ⟨BN, 0, none⟩ = _ := cell_of qn
          replace cBM : w24.cell? ⟨BM, 0, none⟩ = _ := cell_of qm
          have g24 : Fr [] w w24 := g23.then0 f
          clear g23
          replace H1 := Lib.hid (H1.out.keep f (by simp) (by simp))
          replace x1 := H1.out.c0
          replace y1 := H1.out.c1
          replace z1 := H1.out.lt
          clear f
          obtain ⟨gb, gbc, rfl, _, _, hs, _⟩ := ob.formB
          have hcv := fun c => conv_st (cap := c) hs rfl
          clear ob hs
          go_wp2_with fail
          refine (known05 _).mono ?_
          rintro e w25 ⟨rfl, f⟩
          replace hK1 := f.keep hK1 (by simp)
          replace hK8 := f.keep hK8 (by simp)
          have g25 : Fr [] w w25 := g24.then0 f
          clear g24
          clear f
          have fP8 : Fr [D8] w25 (w25.putObj D8 (.deferred none)) := ⟨rfl, rfl, rfl, by simp [World.putObj], fun k _ hn => World.putObj_heap_other (by simpa using hn)⟩
          have hK1' := fP8.keep hK1 (by simpa using nDD)
          have fP1 : Fr [D1] (w25.putObj D8 (.deferred none)) ((w25.putObj D8 (.deferred none)).putObj D1 (.deferred none)) := ⟨rfl, rfl, rfl, by simp [World.putObj], fun k _ hn => World.putObj_heap_other (by simpa using hn)⟩
          have GE := Lib.hid ((g25.trans fP8 (U := []) (by simp) (fun x hx => .inr (by simp at hx; omega))).trans fP1 (U := []) (by simp) (fun x hx => .inr (by simp at hx; omega)))
          go_wp2_with fail
          refine ⟨by simp, .inl ⟨_, _, rfl, run_takeDeferred hK8, ?_⟩⟩
          refine ⟨by simp, .inl ⟨_, _, rfl, run_takeDeferred hK1', ?_⟩⟩
          exact ⟨.bool true, by simp [results, Try.results12, go_sem], rfl, GE.out⟩
        · rw [hmin]
          clear hmin
          go_wp2_with fail
          refine (HBY.out _ _ _ H1.out.r).mono ?_
          rintro e w24 ⟨u, rfl, f, ob⟩
          replace hK1 := f.keep hK1 (by simp)
          replace hK8 := f.keep hK8 (by simp)
          replace qn := f.keep qn (by simp)
          replace qm := f.keep qm (by simp)
          replace cBN : w24.cell? ⟨BN, 0, none⟩ = _ := cell_of qn
          replace cBM : w24.cell? ⟨BM, 0, none⟩ = _ := cell_of qm
          have g24 : Fr [] w w24 := g23.then0 f
          clear g23
          replace H1 := Lib.hid (H1.out.keep f (by simp) (by simp))
          replace x1 := H1.out.c0
          replace y1 := H1.out.c1
          replace z1 := H1.out.lt
          clear f
          obtain ⟨gb, gbc, rfl, _, _, hs, _⟩ := ob.formB
          have hcv := fun c => conv_st (cap := c) hs rfl
          clear ob hs
          go_wp2_with fail
          refine (known05 _).mono ?_
          rintro e w25 ⟨rfl, f⟩
          replace hK1 := f.keep hK1 (by simp)
          replace hK8 := f.keep hK8 (by simp)
          have g25 : Fr [] w w25 := g24.then0 f
          clear g24
          clear f
          have fP8 : Fr [D8] w25 (w25.putObj D8 (.deferred none)) := ⟨rfl, rfl, rfl, by simp [World.putObj], fun k _ hn => World.putObj_heap_other (by simpa using hn)⟩
          have hK1' := fP8.keep hK1 (by simpa using nDD)
          have fP1 : Fr [D1] (w25.putObj D8 (.deferred none)) ((w25.putObj D8 (.deferred none)).putObj D1 (.deferred none)) := ⟨rfl, rfl, rfl, by simp [World.putObj], fun k _ hn => World.putObj_heap_other (by simpa using hn)⟩
          have GE := Lib.hid ((g25.trans fP8 (U := []) (by simp) (fun x hx => .inr (by simp at hx; omega))).trans fP1 (U := []) (by simp) (fun x hx => .inr (by simp at hx; omega)))
          go_wp2_with fail
          refine ⟨by simp, .inl ⟨_, _, rfl, run_takeDeferred hK8, ?_⟩⟩
          refine ⟨by simp, .inl ⟨_, _, rfl, run_takeDeferred hK1', ?_⟩⟩
          exact ⟨.bool true, by simp [results, Try.results12, go_sem], rfl, GE.out⟩
end Go.Proofs.Ytpkgjgfdobcboaa
