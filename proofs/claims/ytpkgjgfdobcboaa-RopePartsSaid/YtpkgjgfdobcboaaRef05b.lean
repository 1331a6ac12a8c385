/-
  Layer 5's reference: Same, Take, Join.
-/
import Derived.Test.YtpkgjgfdobcboaaRef05
import Derived.Test.YtpkgjgfdobcboaaStepsTwo
import Derived.BigRegion
namespace Go.Proofs.Ytpkgjgfdobcboaa
open Go.RowKit
set_option maxRecDepth 100000

set_option maxHeartbeats 2000000 in
theorem ref5_same {w : World} {N N' : Nat → Prop} {u v : Value} {P Q : Parts} (h : Rs w N u P) (h' : Rs w N' v Q) (hn : P.length ≤ 1000000) :
    Calls Try.prog 46 #[u, v] w fun e w' => e = .returned (.bool (decide (P = Q))) ∧ Fr [] w w' := by
  obtain ⟨a, cap, rfl, h1, h2, h3, _⟩ := h
  obtain ⟨a', cap', rfl, h1', h2', h3', _⟩ := h'
  have hpi : (P.length : Int) ≤ 1000000 := by omega
  go_enter Try.func46, Try.ntmps46
  by_cases hl : P.length = Q.length
  · have hbl : ((P.length : Int) != Q.length) = false := by rw [hl]; simp
    have HL := Lib.hid hl
    clear hl
    go_wp2_with fail
    obtain ⟨W, hW, f0, b0, b1⟩ : ∃ W, W = (w.alloc (.cells #[.slice a P.length cap] 69)).alloc (.cells #[.slice a' Q.length cap'] 69) ∧ Fr [] w W ∧ W.heap[w.heap.size]? = some (.cells #[.slice a P.length cap] 69 (0, 0)) ∧ W.heap[w.heap.size + 1]? = some (.cells #[.slice a' Q.length cap'] 69 (0, 0)) := ⟨_, rfl, ((Fr.refl _ _).alloc _).alloc _, keepA (newA rfl), newA (by simp)⟩
    rw [← hW]
    clear hW
    go_loopw [5] (fun i wr => ∃ k : Nat, k ≤ P.length ∧ i = .int .i64 k ∧ Hid (P.take k = Q.take k) ∧ Fr [] W wr) (fun i _ => P.length - (intOf i).toNat)
    case atStart => exact ⟨0, by omega, rfl, Lib.hid rfl, Fr.refl _ _⟩
    case round =>
      obtain ⟨k, hk, rfl, HT, g⟩ := hrel
      have q0 := g.keep b0 (by simp)
      have q1 := g.keep b1 (by simp)
      have x0 : wr.cell? ⟨w.heap.size, 0, none⟩ = some (.slice a P.length cap) := cell_of q0
      have x1 : wr.cell? ⟨w.heap.size + 1, 0, none⟩ = some (.slice a' Q.length cap') := cell_of q1
      have gw := f0.then0 g
      by_cases hlt : (k : Int) < P.length
      · have hlt' : k < P.length := by omega
        have hlt2 : k < Q.length := by have := HL.out; omega
        have hlq : (k : Int) < Q.length := by omega
        obtain ⟨sb, so, rfl, hsb, hcell⟩ := (h3.keep gw (by simp)).str_at hlt'
        obtain ⟨sb', so', rfl, hsb', hcell'⟩ := (h3'.keep gw (by simp)).str_at hlt2
        have hP : P.take (k + 1) = P.take k ++ [P[k]] := List.take_succ_eq_append_getElem hlt'
        have hQ : Q.take (k + 1) = Q.take k ++ [Q[k]] := List.take_succ_eq_append_getElem hlt2
        have hd : P = Q → P[k] = Q[k] := by intro e; subst e; rfl
        generalize P[k] = p at *
        generalize Q[k] = q at *
        by_cases hpq : p = q
        · subst hpq
          have HN : Hid (P.take (k + 1) = Q.take (k + 1)) := Lib.hid (by rw [hP, hQ, HT.out])
          clear hP hQ hd
          go_wp2_with fail
          go_region
          all_goals
            go_wp2_with fail
            go_roundw
            case rel => exact ⟨k + 1, by omega, by go_num, HN, g.drew⟩
            case measure => simp [intOf]; omega
        · have hb1 : (p == q) = false := by simpa using hpq
          have HD := Lib.hid (decide_eq_false (fun e => hpq (hd e)))
          clear hP hQ hd
          go_wp2_with fail
          go_region
          all_goals
            go_wp2_with fail
            go_ret
            exact ⟨by rw [HD.out]; rfl, gw.drew⟩
      · have hkP : P.take k = P := List.take_of_length_le (by omega)
        have hkQ : Q.take k = Q := List.take_of_length_le (by have := HL.out; omega)
        have HE := HT.out
        rw [hkP, hkQ] at HE
        have HD := Lib.hid (decide_eq_true HE)
        clear hkP hkQ HE
        go_wp2_with fail
        go_ret
        exact ⟨by rw [HD.out]; rfl, gw⟩
  · have hbl : ((P.length : Int) != Q.length) = true := by rw [bne_iff_ne]; omega
    have HD := Lib.hid (decide_eq_false (fun e : P = Q => hl (by rw [e])))
    go_wp2_with fail
    go_ret
    exact ⟨by rw [HD.out]; rfl, ((Fr.refl _ _).alloc _).alloc _⟩

theorem cutF_snoc : ∀ (Q : Parts) (p : List UInt8) (n : Nat), cutF (Q ++ [p]) n = cutF Q n ++ (if n ≤ tot Q then [] else [p.take (n - tot Q)])
  | [], p, n => by
    have ht0 : tot ([] : Parts) = 0 := rfl
    rw [ht0, Nat.sub_zero, List.nil_append]
    show cutF [p] n = [] ++ _
    rw [List.nil_append]
    by_cases h : n = 0
    · rw [if_pos (by omega)]; simp [cutF, h]
    · rw [if_neg (by omega)]
      by_cases hp : p.length ≤ n
      · simp [cutF, h, hp, List.take_of_length_le hp]
      · simp [cutF, h, hp]
  | q :: Q, p, n => by
    have ht : tot (q :: Q) = q.length + tot Q := by unfold tot; rw [List.flatten_cons, List.length_append]
    rw [List.cons_append, cutF, cutF, ht]
    by_cases h : n = 0
    · simp [h]
    · rw [if_neg h, if_neg h]
      by_cases hq : q.length ≤ n
      · rw [if_pos hq, if_pos hq, cutF_snoc Q]
        by_cases h2 : n ≤ q.length + tot Q
        · rw [if_pos h2, if_pos (by omega)]; simp
        · rw [if_neg h2, if_neg (by omega), show n - q.length - tot Q = n - (q.length + tot Q) from by omega]; rfl
      · rw [if_neg hq, if_neg hq, if_pos (by omega), List.append_nil]
theorem cutR_snoc : ∀ (Q : Parts) (p : List UInt8) (n : Nat), 0 < p.length → cutR (Q ++ [p]) n = cutR Q n ++ (if n - tot Q < p.length then [p.drop (n - tot Q)] else [])
  | [], p, n, _ => by
    have ht0 : tot ([] : Parts) = 0 := rfl
    rw [ht0, Nat.sub_zero, List.nil_append]
    show cutR [p] n = [] ++ _
    rw [List.nil_append]
    by_cases hp : p.length ≤ n
    · rw [if_neg (by omega)]; simp [cutR, hp]
    · rw [if_pos (by omega)]; simp [cutR, hp]
  | q :: Q, p, n, h0 => by
    have ht : tot (q :: Q) = q.length + tot Q := by unfold tot; rw [List.flatten_cons, List.length_append]
    rw [List.cons_append, cutR, cutR, ht]
    by_cases hq : q.length ≤ n
    · rw [if_pos hq, if_pos hq, cutR_snoc Q p _ h0, show n - q.length - tot Q = n - (q.length + tot Q) from by omega]
    · rw [if_neg hq, if_neg hq, if_pos (by omega), show n - (q.length + tot Q) = 0 from by omega]; rfl

theorem ref5_take_bad {w : World} {N : Nat → Prop} {v : Value} {P : Parts} (h : Rs w N v P) {most : Int} (hm : most < 0) :
    Calls Try.prog 50 #[v, .int .i64 most] w fun e w' => e = .returned (.tuple #[noRef, noRef, .int .i64 2]) ∧ Fr [] w w' := by
  obtain ⟨a, cap, rfl, _⟩ := h
  go_enter Try.func50, Try.ntmps50
  go_wp2_with fail
  refine bodyPost_ret (v := .tuple #[noRef, noRef, .int .i64 2]) (by simp [results, Try.results50, go_sem, noRef]) rfl ?_
  exact ⟨rfl, ((((Fr.refl _ _).alloc _).alloc _).alloc _)⟩

end Go.Proofs.Ytpkgjgfdobcboaa
