/-
  rope: Join and Equal; slices.Concat of two slices of parts.
-/
import Derived.Test.YtpkgjgfdobcboaaRopeTake
import Derived.Deep.QuietTactic
import Derived.BigQuiet
namespace Go.Proofs.Ytpkgjgfdobcboaa
open Go.RowKit
set_option maxRecDepth 100000

theorem grow_parts {w : World} (n : Nat) (hn : n ≤ 1000000) :
    Calls Try.prog 119 #[.slice none 0 0, .int .i64 n] w fun e w' => ∃ v, e = .returned v ∧ Fr [] w w' ∧ Ow w' w.heap.size 29 v [] := by
  rcases Nat.eq_zero_or_pos n with h0 | h0
  · subst h0
    go_enter Try.func119, Try.ntmps119
    go_wp2_with fail
    go_ret
    exact ⟨_, rfl, Fr.refl _ _, Ow.nil _ _ _⟩
  · obtain ⟨i, hi, hz, hs, hby⟩ : ∃ i, Try.prog.info? 29 = some i ∧ i.zero = some (.slice none 0 0) ∧ i.size = 1 ∧ i.bytes = 24 := by
      have hinfo : (Try.prog.info? 29).map (fun i => (i.zero, i.size, i.bytes)) = some (some (.slice none 0 0), 1, 24) := by kernel_rfl
      cases h : Try.prog.info? 29 with
      | none => simp [h] at hinfo
      | some i => simp [h] at hinfo; exact ⟨i, rfl, hinfo.1, hinfo.2.1, hinfo.2.2⟩
    have hrun := Lib.run_append_nil_zeros (P := Try.prog) w 63 3 63 29 i (.slice none 0 0) .i64 .i64 Try.underlying63 Try.underlying3 hi hz n h0 (by omega) (by omega) (by rw [hby]; omega)
    have hge : n ≤ grownCap w n 0 29 := grownCap_ge _ _ _ _
    have hmx : grownCap w n 0 29 ≤ maxLen := grownCap_le_maxLen _ _ _ _ (by unfold maxLen; omega)
    generalize grownCap w n 0 29 = C at hrun hge hmx
    have hn' : (0 : Int) < n := by omega
    have HR := Lib.hid hrun
    clear hi hz hs hby hrun
    go_enter Try.func119, Try.ntmps119
    go_wp2_with (at_builtin; refine Lib.wpList_append_run _ rfl (.tmp 20) (.tmp 21) 63 3 rfl (.slice none 0 0) (.int .i64 n) rfl rfl _ _ HR.out ?_)

    go_ret
    refine ⟨_, rfl, (Fr.refl _ _).drew.alloc _, by simp, .inr ⟨w.heap.size, C, _, rfl, Nat.le_refl _, newA (w := w.drew) rfl, Nat.zero_le _, hmx, ?_, by simp⟩⟩
    simp [Builtin.zeroCells, Value.cells]
    omega

set_option maxHeartbeats 2000000 in
theorem concat_two {w : World} {b : Nat} {a1 a2 : Option Addr} {c1 c2 : Nat} {t : TypeId} {xs ys : List Value} (hb : w.heap[b]? = some (.cells #[.slice a1 xs.length c1, .slice a2 ys.length c2] t (0, 0)))
    (h1 : SlV w a1 xs) (h2 : SlV w a2 ys) (o1 : ∀ u ∈ xs, u.oneCell' = true) (o2 : ∀ u ∈ ys, u.oneCell' = true) (l1 : xs.length ≤ 100000) (l2 : ys.length ≤ 100000) :
    Calls Try.prog 102 #[.slice (some ⟨b, 0, none⟩) 2 2] w fun e w' => ∃ v, e = .returned v ∧ Fr [] w w' ∧ Ow w' w.heap.size 29 v (xs ++ ys) := by
  have HU : Hid (Try.prog.underlying 63 = some (.slice 29)) := Lib.hid Try.underlying63
  have HIN : Hid ((Try.prog.info? 29).map (fun i => (i.zero, i.size, i.bytes)) = some (some (.slice none 0 0), 1, 24)) := Lib.hid (by kernel_rfl)
  have HO1 := Lib.hid o1
  have HO2 := Lib.hid o2
  have HB := Lib.hid fun (w' : World) (f : Fr [] w w') => (show w'.cell? ⟨b, 0, none⟩ = some (.slice a1 xs.length c1) ∧ w'.cell? ⟨b, 1, none⟩ = some (.slice a2 ys.length c2) from ⟨cell_of (f.keep hb (by simp)), cell_of (f.keep hb (by simp))⟩)
  have HS1 := Lib.hid fun (w' : World) (f : Fr [] w w') => h1.keep f (by simp)
  have HS2 := Lib.hid fun (w' : World) (f : Fr [] w w') => h2.keep f (by simp)
  have i1 : (xs.length : Int) ≤ 100000 := by omega
  have i2 : (ys.length : Int) ≤ 100000 := by omega
  have hs1 : ((xs.length : Int) < 0) = False := by simp
  have hs2 : ((xs.length : Int) + ys.length < 0) = False := by simp; omega
  obtain ⟨k0, k1⟩ := HB.out _ (Fr.refl _ _)
  clear o1 o2 h1 h2 hb
  go_enter Try.func102, Try.ntmps102
  go_wp2_with fail
  refine wp_loop_rounds 3 ?_
  rw [rounds_succ]
  go_wp2_with fail
  rw [rounds_succ]
  go_wp2_with fail
  rw [rounds_succ]
  go_wp2_with fail
  have hg := grow_parts (w := w) (xs.length + ys.length) (by omega)
  rw [Int.natCast_add] at hg
  refine hg.mono ?_
  rintro e w1 ⟨v, rfl, f1, o1⟩
  obtain ⟨k0, k1⟩ := HB.out _ f1
  clear hg
  go_wp2_with fail
  refine wp_loop_rounds 3 ?_
  rw [rounds_succ]
  obtain ⟨ga, gc, rfl, _⟩ := id o1.form
  have H3 : Hid (([] : List Value).length + xs.length ≤ maxLen) := Lib.hid (by unfold maxLen; simp; omega)
  have H4 : Hid ((([] : List Value).length + xs.length) * 24 ≤ 140737488355328) := Lib.hid (by simp; omega)
  have HOW := Lib.hid o1
  clear o1
  go_wp2_with (refine wpList_append_fr _ rfl (.tmp 31) (.tmp 32) 63 rfl 29 (.slice none 0 0) 24 HU.out HIN.out rfl w.heap.size _ _ (by exact rfl) HOW.out a1 xs.length c1 xs (by exact rfl) rfl (HS1.out _ f1) HO1.out H3.out H4.out f1.size ?_)
  intro v2 w2 o2 f2 _
  have ow2 := o2.out
  have g2 : Fr [] w w2 := f1.own f2 (fun k e => .inr (HOW.out.lt k e).1)
  clear f1 f2 o2 HOW H3 H4
  obtain ⟨k0, k1⟩ := HB.out _ g2
  go_wp2_with fail
  rw [rounds_succ]
  obtain ⟨ha, hc, rfl, _⟩ := id ow2.form
  have H3 : Hid (xs.length + ys.length ≤ maxLen) := Lib.hid (by unfold maxLen; omega)
  have H4 : Hid ((xs.length + ys.length) * 24 ≤ 140737488355328) := Lib.hid (by omega)
  have HOW := Lib.hid ow2
  clear ow2
  go_wp2_with (refine wpList_append_fr _ rfl (.tmp 31) (.tmp 32) 63 rfl 29 (.slice none 0 0) 24 HU.out HIN.out rfl w.heap.size _ _ (by exact rfl) HOW.out a2 ys.length c2 ys (by exact rfl) rfl (HS2.out _ g2) HO2.out H3.out H4.out g2.size ?_)
  intro v3 w3 o3 f3 _
  have ow3 := o3.out
  have g3 : Fr [] w w3 := g2.own f3 (fun k e => .inr (HOW.out.lt k e).1)
  clear f3 o3 HOW H3 H4 g2
  go_wp2_with fail
  rw [rounds_succ]
  go_wp2_with fail
  go_ret
  exact ⟨_, rfl, g3, ow3⟩

theorem cells_two_ {w : World} {B : Nat} {c0 c1 : Value} {t : TypeId} (h : w.heap[B]? = some (.cells #[c0, c1] t (0, 0))) :
    w.cell? ⟨B, 0, none⟩ = some c0 ∧ w.cell? ⟨B, 1, none⟩ = some c1 ∧ w.frozen? ⟨B, 0, none⟩ = false ∧ w.frozen? ⟨B, 1, none⟩ = false := ⟨cell_of h, cell_of h, free_of h, free_of h⟩
theorem parts_append {w : World} {N : Nat → Prop} {vs us : List Value} {P Q : Parts} (h : ∀ (i : Nat) (p : List UInt8), P[i]? = some p → ∃ u, vs[i]? = some u ∧ PartV w N u p) (hl : vs.length = P.length) (k : ∀ (i : Nat) (p : List UInt8), Q[i]? = some p → ∃ u, us[i]? = some u ∧ PartV w N u p) :
    ∀ (i : Nat) (p : List UInt8), (P ++ Q)[i]? = some p → ∃ u, (vs ++ us)[i]? = some u ∧ PartV w N u p := fun i p hi => by
  rcases Nat.lt_or_ge i P.length with hlt | hge
  · rw [List.getElem?_append_left hlt] at hi
    obtain ⟨u, hu, hq⟩ := h i p hi
    exact ⟨u, by rw [List.getElem?_append_left (by omega)]; exact hu, hq⟩
  · rw [List.getElem?_append_right hge] at hi
    obtain ⟨u, hu, hq⟩ := k _ p hi
    exact ⟨u, by rw [List.getElem?_append_right (by omega), hl]; exact hu, hq⟩
theorem parts_one {w : World} {N : Nat → Prop} {vs : List Value} {P : Parts} (hl : vs.length = P.length) (h : ∀ (i : Nat) (p : List UInt8), P[i]? = some p → ∃ u, vs[i]? = some u ∧ PartV w N u p) : ∀ u ∈ vs, u.oneCell' = true := by
  intro u hu
  obtain ⟨i, hi, rfl⟩ := List.getElem_of_mem hu
  obtain ⟨u', hu', a', c', rfl, _⟩ := h i P[i] (List.getElem?_eq_getElem (by omega))
  rw [List.getElem?_eq_getElem hi] at hu'
  injection hu' with hu'
  rw [hu']
  rfl
theorem part_le {P : Parts} {p : List UInt8} (h : p ∈ P) : p.length ≤ tot P := by
  obtain ⟨i, hi, rfl⟩ := List.getElem_of_mem h
  have h1 := tot_take_le P (i + 1)
  rw [tot_take_succ hi] at h1
  omega

def JoinPost (N : Nat → Prop) (P Q : Parts) (w : World) (e : Ending) (w' : World) : Prop :=
  Fr [] w w' ∧ if 1024 < P.length + Q.length then e = .returned (.tuple #[noRope, .int .i64 7]) else if 65536 < tot P + tot Q then e = .returned (.tuple #[noRope, .int .i64 5]) else ∃ v, e = .returned (.tuple #[v, .int .i64 0]) ∧ Rp w' (fun b => N b ∨ w.heap.size ≤ b) v (P ++ Q)
set_option maxHeartbeats 2000000 in
theorem rope_join {w : World} {N : Nat → Prop} {v u : Value} {P Q : Parts} (h : Rp w N v P) (k : Rp w N u Q) :
    Calls Try.prog 53 #[v, u] w (JoinPost N P Q w) := by
  obtain ⟨a1, p1, rfl, h1, h2, ⟨vs, e1, e2, e3, e4⟩, h4, h5, h6⟩ := h.there
  obtain ⟨a2, p2, rfl, k1, k2, ⟨us, d1, d2, d3, d4⟩, k4, k5, k6⟩ := k.there
  have hO1 := parts_one e1 e4
  have hO2 := parts_one d1 d4
  have hPP := fun (w' : World) (f : Fr [] w w') => parts_append (parts_keep e4 f (by simp)) e1 (parts_keep d4 f (by simp))
  have hpart : ∀ p ∈ P ++ Q, p.length ≤ 65537 := fun p hp => (List.mem_append.1 hp).elim (fun h => by have := part_le h; omega) (fun h => by have := part_le h; omega)
  have HH := Lib.hid (And.intro hPP (And.intro hpart (And.intro h4 k4)))
  have hC : ∀ w', Fr [] w w' → ∀ t, Calls Try.prog 102 #[.slice (some ⟨w'.heap.size, 0, none⟩) 2 2] (w'.alloc (.cells #[.slice a1 P.length p1, .slice a2 Q.length p2] t)) fun e w2 => ∃ v, e = .returned v ∧ Fr [] (w'.alloc (.cells #[.slice a1 P.length p1, .slice a2 Q.length p2] t)) w2 ∧ Ow w2 (w'.alloc (.cells #[.slice a1 P.length p1, .slice a2 Q.length p2] t)).heap.size 29 v (vs ++ us) := fun w' f t => by
    rw [← e1, ← d1]
    exact concat_two (newA rfl) (e2.keep (f.alloc _) (by simp)) (d2.keep (f.alloc _) (by simp)) hO1 hO2 (by omega) (by omega)
  have HC := Lib.hid hC
  have HL := Lib.hid (show (vs ++ us).length = (P ++ Q).length by rw [List.length_append, List.length_append, e1, d1])
  clear hC hO1 hO2 hPP hpart e1 e2 e3 e4 d1 d2 d3 d4 h4 k4
  go_enter Try.func53, Try.ntmps53
  go_wp2_with fail
  obtain ⟨W, hW, f0, b2⟩ : ∃ W, W = (((w.alloc (.cells #[.slice a1 P.length p1, .int .i64 (tot P)] 65)).alloc (.cells #[.slice a2 Q.length p2, .int .i64 (tot Q)] 65)).alloc (.cells #[.slice none 0 0, .int .i64 0] 65)) ∧ Fr [] w W ∧ W.heap[w.heap.size + 1 + 1]? = some (.cells #[.slice none 0 0, .int .i64 0] 65 (0, 0)) := ⟨_, rfl, (((Fr.refl _ _).alloc _).alloc _).alloc _, newA (by simp)⟩
  have hWz : W.heap.size = w.heap.size + 1 + 1 + 1 := by rw [hW]; simp
  rw [← hW, ← hWz]
  clear hW
  refine (HC.out _ f0 _).mono ?_
  rintro e w1 ⟨q, rfl, f1, o1⟩
  have g1 : Fr [] w w1 := (f0.alloc _).then0 f1
  have b3 := f1.keep (keepA b2) (by simp)
  have hz1 := f1.size
  have hzw : w.heap.size + 1 + 1 < W.heap.size := lt_of_heap b2
  clear f0 f1 b2 HC
  obtain ⟨pp, hpart, hf1, hf2⟩ := HH.out
  obtain ⟨qa, qc, rfl, hq1, hq2, hpa⟩ := PartsAt.of_own (N := fun b => (N b ∧ b < w.heap.size) ∨ W.heap.size ≤ b) o1 HL.out (fun i p hi => let ⟨u, hu, hq⟩ := pp w1 g1 i p hi; ⟨u, hu, hq.mono fun _ => .inl⟩) (fun b hb => .inr (by simp at hb; omega))
  have hfull : Full (P ++ Q) := hf1.append hf2
  have HF := Lib.hid (And.intro hfull (And.intro hpart hpa))
  have hpl : (P ++ Q).length = P.length + Q.length := List.length_append
  have htt := tot_append P Q
  obtain ⟨S, hS⟩ : ∃ S, P ++ Q = S := ⟨_, rfl⟩
  unfold JoinPost
  rw [hS] at HF hpl htt hq1 hpa hpart ⊢
  have HS := Lib.hid (And.intro hpl (And.intro htt hS))
  clear pp o1 hpa hf1 hf2 hfull HH hS hpart hpl htt
  obtain ⟨x0, x1, x2, x3⟩ := cells_two_ b3
  by_cases hc : 1024 < S.length
  · have HC1 := Lib.hid hc
    have hci : (1024 : Int) < S.length := by omega
    clear hc
    go_wp2_with fail
    refine (of_full hci (by omega)).mono ?_
    rintro e w2 ⟨rfl, f2⟩
    have b4 := f2.keep b3 (by simp)
    clear x0 x1 x2 x3
    obtain ⟨x0, x1, x2, x3⟩ := cells_two_ b4
    obtain ⟨z0, z1⟩ := two_cells (u0 := .slice none 0 0) (u1 := .int .i64 0) b4
    unfold noRope
    go_wp2_with fail
    refine bodyPost_ret (v := .tuple #[noRope, .int .i64 7]) (by simp [results, Try.results53, go_sem, noRope, z0, z1]) rfl ?_
    refine ⟨((g1.then0 f2).setCell (.inr (by dsimp only; omega)) _).setCell (.inr (by dsimp only; omega)) _, ?_⟩
    rw [if_pos (by have := HC1.out; have := HS.out.1; omega)]
  · have HC1 := Lib.hid hc
    clear hc
    go_wp2_with fail
    refine (of_ok HF.out.2.2 rfl HF.out.2.1 (by have := HC1.out; omega)).mono ?_
    rintro e w2 ⟨f2, he⟩
    have b4 := f2.keep b3 (by simp)
    have hpa2 := HF.out.2.2.keep f2 (by simp)
    clear x0 x1 x2 x3
    obtain ⟨x0, x1, x2, x3⟩ := cells_two_ b4
    by_cases hs : tot S ≤ 65536
    · rw [if_pos hs] at he
      have HSS := Lib.hid hs
      subst he
      obtain ⟨z0, z1⟩ := two_cells (u0 := .slice qa S.length qc) (u1 := .int .i64 ((tot S) : Nat)) b4
      have HPA := Lib.hid hpa2
      clear hs hpa2
      go_wp2_with fail
      refine bodyPost_ret (v := .tuple #[.agg #[.slice qa S.length qc, .int .i64 ((tot S) : Nat)], .int .i64 0]) (by simp [results, Try.results53, go_sem, z0, z1]) rfl ?_
      have fE : Fr [w.heap.size + 1 + 1] w2 ((w2.setCell ⟨w.heap.size + 1 + 1, 0, none⟩ (.slice qa S.length qc)).setCell ⟨w.heap.size + 1 + 1, 1, none⟩ (.int .i64 ((tot S) : Nat))) := ((Fr.refl _ _).setCell (.inl (by simp)) _).setCell (.inl (by simp)) _
      refine ⟨((g1.then0 f2).setCell (.inr (by dsimp only; omega)) _).setCell (.inr (by dsimp only; omega)) _, ?_⟩
      rw [if_neg (by have := HC1.out; have := HS.out.1; omega), if_neg (by have := HSS.out; have := HS.out.2.1; omega), HS.out.2.2]
      exact ⟨_, rfl, qa, qc, rfl, hq1, hq2, (HPA.out.keep fE (by intro x hx; simp at hx; subst hx; rintro (h | h); exact absurd h.2 (by omega); omega)).mono (fun x hx => hx.imp (fun h => h.1) (fun h => by omega)), HF.out.1, by have := HC1.out; omega, HSS.out⟩
    · rw [if_neg hs] at he
      have HSS := Lib.hid hs
      subst he
      obtain ⟨z0, z1⟩ := two_cells (u0 := .slice none 0 0) (u1 := .int .i64 0) b4
      unfold noRope
      clear hs
      go_wp2_with fail
      refine bodyPost_ret (v := .tuple #[noRope, .int .i64 5]) (by simp [results, Try.results53, go_sem, noRope, z0, z1]) rfl ?_
      refine ⟨((g1.then0 f2).setCell (.inr (by dsimp only; omega)) _).setCell (.inr (by dsimp only; omega)) _, ?_⟩
      rw [if_neg (by have := HC1.out; have := HS.out.1; omega), if_pos (by have := HSS.out; have := HS.out.2.1; omega)]

theorem st_beq (x y : List UInt8) : (st x == st y) = (x == y) := by
  show (x.toArray == y.toArray) = (x == y)
  simp
theorem bytes_equal {w : World} {a b : Option Addr} {x y : List UInt8} {c d n m : Nat} (h1 : Sl w a (bi x)) (h2 : Sl w b (bi y)) (l1 : n = x.length) (l2 : m = y.length) :
    Calls Try.prog 101 #[.slice a n c, .slice b m d] w fun e w' => e = .returned (.bool (x == y)) ∧ w = w' := by
  subst l1 l2
  have k1 := conv_st (cap := c) h1 rfl
  have k2 := conv_st (cap := d) h2 rfl
  have hbe : (st x == st y) = (x == y) := st_beq x y
  have HB := Lib.hid hbe
  clear h1 h2 hbe
  go_enter Try.func101, Try.ntmps101
  go_wp2_with fail
  go_ret
  exact ⟨by rw [← HB.out]; rfl, rfl⟩

set_option maxHeartbeats 2000000 in
theorem rope_equal {w : World} {N N' : Nat → Prop} {v u : Value} {P Q : Parts} (h : Rp w N v P) (k : Rp w N' u Q) :
    Calls Try.prog 51 #[v, u] w fun e w' => e = .returned (.bool (P.flatten == Q.flatten)) ∧ Fr [] w w' := by
  have HH := Lib.hid (And.intro h k)
  obtain ⟨F1, hF1⟩ : ∃ F, P.flatten = F := ⟨_, rfl⟩
  obtain ⟨F2, hF2⟩ : ∃ F, Q.flatten = F := ⟨_, rfl⟩
  rw [hF1, hF2]
  have HFF := Lib.hid (And.intro hF1 hF2)
  clear hF1 hF2
  obtain ⟨a1, p1, rfl, _, _, _, _, _, h6⟩ := h
  obtain ⟨a2, p2, rfl, _, _, _, _, _, k6⟩ := k
  go_enter Try.func51, Try.ntmps51
  go_wp2_with fail
  obtain ⟨W, hW, f0, b0, b1⟩ : ∃ W, W = ((w.alloc (.cells #[.slice a1 P.length p1, .int .i64 (tot P)] 65)).alloc (.cells #[.slice a2 Q.length p2, .int .i64 (tot Q)] 65)) ∧ Fr [] w W ∧ W.heap[w.heap.size]? = some (.cells #[.slice a1 P.length p1, .int .i64 (tot P)] 65 (0, 0)) ∧ W.heap[w.heap.size + 1]? = some (.cells #[.slice a2 Q.length p2, .int .i64 (tot Q)] 65 (0, 0)) := ⟨_, rfl, ((Fr.refl _ _).alloc _).alloc _, keepA (newA rfl), newA (by simp)⟩
  rw [← hW]
  clear hW
  have HS := Lib.hid fun (w' : World) (f : Fr [] W w') => (show w'.cell? ⟨w.heap.size, 0, none⟩ = some (.slice a1 P.length p1) ∧ w'.cell? ⟨w.heap.size, 1, none⟩ = some (.int .i64 (tot P)) ∧ w'.cell? ⟨w.heap.size + 1, 0, none⟩ = some (.slice a2 Q.length p2) ∧ w'.cell? ⟨w.heap.size + 1, 1, none⟩ = some (.int .i64 (tot Q)) from ⟨cell_of (f.keep b0 (by simp)), cell_of (f.keep b0 (by simp)), cell_of (f.keep b1 (by simp)), cell_of (f.keep b1 (by simp))⟩)
  obtain ⟨c0, c1, c2, c3⟩ := HS.out _ (Fr.refl _ _)
  by_cases ht : tot P = tot Q
  · have HB1 := Lib.hid fun (w' : World) (f : Fr [] W w') => (show Calls Try.prog 55 #[.agg #[.slice a1 P.length p1, .int .i64 (tot P)]] w' fun e w2 => ∃ u, e = .returned u ∧ Fr [] w' w2 ∧ Ow w2 w'.heap.size 5 u ((bi F1).map (Value.int .u8)) from by rw [← HFF.out.1]; exact rope_bytes (HH.out.1.keep (f0.then0 f) (by simp)))
    have HB2 := Lib.hid fun (w' : World) (f : Fr [] W w') => (show Calls Try.prog 55 #[.agg #[.slice a2 Q.length p2, .int .i64 (tot Q)]] w' fun e w2 => ∃ u, e = .returned u ∧ Fr [] w' w2 ∧ Ow w2 w'.heap.size 5 u ((bi F2).map (Value.int .u8)) from by rw [← HFF.out.2]; exact rope_bytes (HH.out.2.keep (f0.then0 f) (by simp)))
    have hb : ((tot P : Int) == (tot Q : Int)) = true := by rw [ht]; simp
    clear b0 b1 ht
    go_region_held3 (fun w' => w'.cell? ⟨w.heap.size, 0, none⟩ = some (.slice a1 P.length p1) ∧ w'.cell? ⟨w.heap.size, 1, none⟩ = some (.int .i64 (tot P)) ∧ w'.cell? ⟨w.heap.size + 1, 0, none⟩ = some (.slice a2 Q.length p2) ∧ w'.cell? ⟨w.heap.size + 1, 1, none⟩ = some (.int .i64 (tot Q)))
      (first | (with_reducible exact ⟨t0, t1, t2, t3⟩) | (with_reducible exact ⟨c0, c1, c2, c3⟩) | (with_reducible refine HS.out _ ?_; repeat first | (with_reducible exact f2) | (with_reducible exact f1) | (with_reducible exact Fr.refl _ _) | (with_reducible refine Fr.drew ?_) | (with_reducible refine Fr.alloc ?_ _)))
      (first
        | (go_at_call 55; ((with_reducible refine (HB1.out _ ((Fr.refl _ _).drew)).mono ?_); rintro e w1 ⟨x, rfl, f1', o1⟩; have f1 : Fr [] W w1 := (Fr.refl [] W).drew.then0 f1'; obtain ⟨xa, xc, rfl, hx1, hx2, hx3, _⟩ := o1.formB; obtain ⟨t0, t1, t2, t3⟩ := HS.out _ f1))
        | (go_at_call 55; ((with_reducible refine (HB2.out _ f1).mono ?_); rintro e w2 ⟨y, rfl, f2', o2⟩; have f2 : Fr [] W w2 := f1.then0 f2'; obtain ⟨ya, yc, rfl, hy1, hy2, hy3, _⟩ := o2.formB; obtain ⟨t0, t1, t2, t3⟩ := HS.out _ f2))
        | (go_at_call 101; ((with_reducible refine (bytes_equal (sl_keep hx3 f2' (by simp)) hy3 rfl rfl).mono ?_); rintro e w3 ⟨rfl, rfl⟩)))
    go_wp2_with fail
    go_ret
    exact ⟨rfl, f0.then0 f2⟩
  · have hb : ((tot P : Int) == (tot Q : Int)) = false := by rw [beq_eq_false_iff_ne]; omega
    have hne : (F1 == F2) = false := by rw [beq_eq_false_iff_ne]; intro e; exact ht (by unfold tot; rw [HFF.out.1, HFF.out.2, e])
    have HN := Lib.hid hne
    clear hne ht b0 b1
    go_quiet (fail)
    go_wp2_with fail
    go_ret
    exact ⟨by rw [HN.out]; rfl, f0.drewN _⟩
end Go.Proofs.Ytpkgjgfdobcboaa
