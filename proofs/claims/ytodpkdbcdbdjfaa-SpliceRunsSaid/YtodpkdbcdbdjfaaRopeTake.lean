/-
  rope.Take: the first bytes of a rope, and the rest.
-/
import Derived.Test.YtodpkdbcdbdjfaaRopeBytes
import Derived.Deep.RegionHeld3
import Derived.BigRegion
namespace Go.Proofs.Ytodpkdbcdbdjfaa
open Go.RowKit
set_option maxRecDepth 100000

theorem take_bad {w : World} {N : Nat → Prop} {v : Value} {P : Parts} (h : Rp w N v P) {most : Int} (hm : most < 0) :
    Calls Try.prog 77 #[v, .int .i64 most] w fun e w' => e = .returned (.tuple #[noRope, noRope, .int .i64 2]) ∧ Fr [] w w' := by
  obtain ⟨a, cap, rfl, _⟩ := h
  go_enter Try.func77, Try.ntmps77
  go_wp2_with fail
  refine bodyPost_ret (v := .tuple #[noRope, noRope, .int .i64 2]) (by simp [results, Try.results77, go_sem, noRope]) rfl ?_
  exact ⟨rfl, (((Fr.refl _ _).alloc _).alloc _).alloc _⟩

theorem take_all {w : World} {N : Nat → Prop} {v : Value} {P : Parts} (h : Rp w N v P) {most : Int} (h0 : 0 ≤ most) (hm : (tot P : Int) ≤ most) :
    Calls Try.prog 77 #[v, .int .i64 most] w fun e w' => e = .returned (.tuple #[v, noRope, .int .i64 0]) ∧ Fr [] w w' := by
  obtain ⟨a, cap, rfl, _⟩ := h
  go_enter Try.func77, Try.ntmps77
  go_wp2_with fail
  refine bodyPost_ret (v := .tuple #[.agg #[.slice a P.length cap, .int .i64 (tot P)], noRope, .int .i64 0]) (by simp [results, Try.results77, go_sem, noRope]) rfl ?_
  exact ⟨rfl, (((Fr.refl _ _).alloc _).alloc _).alloc _⟩

theorem cutp_gen {b o m l : Nat} (h : m ≠ l) : cutp (some ⟨b, o, none⟩) m l = some ⟨b, o + l, none⟩ := by
  unfold cutp
  rw [if_neg h, Option.map_some, addr_add]
theorem run_upto {pa : Option Addr} {plen pcap h : Nat} (hh : h ≤ plen) (hc : plen ≤ pcap) (w : World) :
    (Instr.slice 22 (.slice pa plen pcap) none (some (.int .i64 h)) none).run Try.prog w = .ok (.slice pa h pcap) w := by
  have hs : ∀ w, (sizeOf (Try.prog.elem 22)).run Try.prog w = .ok 1 w := fun _ => by kernel_rfl
  rw [run_slice_h (P := Try.prog) (w := w) (t := 22) (a := pa) (len := plen) (cap := pcap) (by kernel_rfl) .i64 (h : Int) (by omega) (by omega), hs]
  simp [Result.andThen, sliced]
  intro _
  cases pa <;> simp [Addr.add]
theorem rp_of_own {w : World} {N N' : Nat → Prop} {M : Nat} {v : Value} {vs : List Value} {Q : Parts} (h : Ow w M 22 v vs) (hl : vs.length = Q.length) (hp : ∀ (i : Nat) (p : List UInt8), Q[i]? = some p → ∃ u, vs[i]? = some u ∧ PartV w N u p) (hN : ∀ b, M ≤ b → N' b) (hNN : ∀ b, N b → N' b)
    (hf : Full Q) (h1 : Q.length ≤ 1024) (h2 : tot Q ≤ 65536) (m : Nat) (hm : tot Q = m) : Rp w N' (.agg #[v, .int .i64 m]) Q := by
  obtain ⟨a, cap, rfl, h3, h4, h5⟩ := PartsAt.of_own (N := N') h hl (fun i p hi => let ⟨u, hu, hq⟩ := hp i p hi; ⟨u, hu, hq.mono hNN⟩) hN
  subst hm
  exact ⟨a, cap, rfl, h3, h4, h5, hf, h1, h2⟩
theorem tot_cutF (P : Parts) {m : Nat} (h : m ≤ tot P) : tot (cutF P m) = m := by unfold tot at *; rw [cutF_flat, List.length_take]; omega
theorem tot_cutR (P : Parts) (m : Nat) : tot (cutR P m) = tot P - m := by unfold tot; rw [cutR_flat, List.length_drop]
/-- The parts behind a change elsewhere. -/
theorem parts_keep {w w' : World} {N : Nat → Prop} {vs : List Value} {P : Parts} (h : ∀ (i : Nat) (p : List UInt8), P[i]? = some p → ∃ u, vs[i]? = some u ∧ PartV w N u p) {S : List Nat} (hf : Fr S w w') (hS : ∀ x ∈ S, ¬ N x) : ∀ (i : Nat) (p : List UInt8), P[i]? = some p → ∃ u, vs[i]? = some u ∧ PartV w' N u p :=
  fun i p hi => let ⟨u, hu, hq⟩ := h i p hi; ⟨u, hu, hq.keep hf hS⟩
theorem parts_take {w : World} {N : Nat → Prop} {vs : List Value} {P : Parts} (h : ∀ (i : Nat) (p : List UInt8), P[i]? = some p → ∃ u, vs[i]? = some u ∧ PartV w N u p) (k : Nat) : ∀ (i : Nat) (p : List UInt8), (P.take k)[i]? = some p → ∃ u, (vs.take k)[i]? = some u ∧ PartV w N u p :=
  fun i p hi => by
    rw [List.getElem?_take] at hi
    split at hi
    · obtain ⟨u, hu, hq⟩ := h i p hi
      exact ⟨u, by rw [List.getElem?_take, if_pos ‹_›]; exact hu, hq⟩
    · cases hi
theorem parts_drop {w : World} {N : Nat → Prop} {vs : List Value} {P : Parts} (h : ∀ (i : Nat) (p : List UInt8), P[i]? = some p → ∃ u, vs[i]? = some u ∧ PartV w N u p) (k : Nat) : ∀ (i : Nat) (p : List UInt8), (P.drop k)[i]? = some p → ∃ u, (vs.drop k)[i]? = some u ∧ PartV w N u p :=
  fun i p hi => by
    rw [List.getElem?_drop] at hi
    obtain ⟨u, hu, hq⟩ := h _ p hi
    exact ⟨u, by rw [List.getElem?_drop]; exact hu, hq⟩
theorem parts_snoc {w : World} {N : Nat → Prop} {vs : List Value} {P : Parts} {v : Value} {q : List UInt8} (h : ∀ (i : Nat) (p : List UInt8), P[i]? = some p → ∃ u, vs[i]? = some u ∧ PartV w N u p) (hl : vs.length = P.length) (hv : PartV w N v q) : ∀ (i : Nat) (p : List UInt8), (P ++ [q])[i]? = some p → ∃ u, (vs ++ [v])[i]? = some u ∧ PartV w N u p :=
  fun i p hi => by
    rcases Nat.lt_or_ge i P.length with hlt | hge
    · rw [List.getElem?_append_left hlt] at hi
      obtain ⟨u, hu, hq⟩ := h i p hi
      exact ⟨u, by rw [List.getElem?_append_left (by omega)]; exact hu, hq⟩
    · rw [List.getElem?_append_right hge] at hi
      rw [List.getElem?_append_right (by omega), hl]
      rcases hj : i - P.length with _ | j
      · rw [hj] at hi
        simp only [List.getElem?_cons_zero, Option.some.injEq] at hi
        subst hi
        exact ⟨v, rfl, hv⟩
      · rw [hj] at hi
        simp at hi
theorem parts_cons {w : World} {N : Nat → Prop} {vs : List Value} {P : Parts} {v : Value} {q : List UInt8} (h : ∀ (i : Nat) (p : List UInt8), P[i]? = some p → ∃ u, vs[i]? = some u ∧ PartV w N u p) (hv : PartV w N v q) : ∀ (i : Nat) (p : List UInt8), (q :: P)[i]? = some p → ∃ u, (v :: vs)[i]? = some u ∧ PartV w N u p :=
  fun i p hi => by
    rcases i with _ | i
    · simp only [List.getElem?_cons_zero, Option.some.injEq] at hi
      subst hi
      exact ⟨v, rfl, hv⟩
    · rw [List.getElem?_cons_succ] at hi ⊢
      exact h i p hi
theorem PartV.head {w : World} {N : Nat → Prop} {a : Option Addr} {n c : Nat} {p : List UInt8} (h : PartV w N (.slice a n c) p) {k : Nat} (hk : k ≤ n) : PartV w N (.slice a k c) (p.take k) := by
  obtain ⟨a', c', e, h1, h2, h3, h4⟩ := h
  injection e with e1 e2 e3
  subst e1 e2 e3
  exact ⟨a, c, by rw [List.length_take, Nat.min_eq_left hk], by simp; omega, h2, by rw [bi_take]; exact h3.take k, fun b o h0 e => h4 b o (by rw [List.length_take] at h0; omega) e⟩
theorem PartV.tail {w : World} {N : Nat → Prop} {b o n c : Nat} {p : List UInt8} (h : PartV w N (.slice (some ⟨b, o, none⟩) n c) p) {k : Nat} (hk : k ≤ n) : PartV w N (.slice (some ⟨b, o + k, none⟩) (n - k) (c - k)) (p.drop k) := by
  obtain ⟨a', c', e, h1, h2, h3, h4⟩ := h
  injection e with e1 e2 e3
  subst e1 e2 e3
  refine ⟨_, _, by rw [List.length_drop], by rw [List.length_drop]; omega, by omega, ?_, fun b' o' h0 e => ?_⟩
  · have := h3.piece k (p.length - k)
    rw [← bi_drop, ← bi_take, List.take_of_length_le (by simp)] at this
    exact this
  · rw [List.length_drop] at h0
    injection e with e
    injection e with e1
    exact h4 b' o (by omega) (by rw [e1])
theorem run_upto2 {pa : Option Addr} {plen pcap h : Nat} (hh : h ≤ plen) (hc : plen ≤ pcap) (w : World) :
    (Instr.slice 49 (.slice pa plen pcap) none (some (.int .i64 h)) none).run Try.prog w = .ok (.slice pa h pcap) w := by
  have hs : ∀ w, (sizeOf (Try.prog.elem 49)).run Try.prog w = .ok 1 w := fun _ => by kernel_rfl
  rw [run_slice_h (P := Try.prog) (w := w) (t := 49) (a := pa) (len := plen) (cap := pcap) (by kernel_rfl) .i64 (h : Int) (by omega) (by omega), hs]
  simp [Result.andThen, sliced]
  intro _
  cases pa <;> simp [Addr.add]
theorem run_from2 {b o plen pcap l : Nat} (hl : l ≤ plen) (hc : l < pcap) (w : World) :
    (Instr.slice 49 (.slice (some ⟨b, o, none⟩) plen pcap) (some (.int .i64 l)) none none).run Try.prog w = .ok (.slice (some ⟨b, o + l, none⟩) (plen - l) (pcap - l)) w := by
  have hs : ∀ w, (sizeOf (Try.prog.elem 49)).run Try.prog w = .ok 1 w := fun _ => by kernel_rfl
  rw [run_slice_l (P := Try.prog) (w := w) (t := 49) (a := some ⟨b, o, none⟩) (len := plen) (cap := pcap) (by kernel_rfl) .i64 (l : Int) (by omega) (by omega), hs]
  simp [Result.andThen, sliced, addr_add]
  omega

def TakePost (N : Nat → Prop) (P : Parts) (m : Nat) (w : World) (e : Ending) (w' : World) : Prop :=
  ∃ v1 v2, e = .returned (.tuple #[v1, v2, .int .i64 0]) ∧ Fr [] w w' ∧ Rp w' (fun b => N b ∨ w.heap.size ≤ b) v1 (cutF P m) ∧ Rp w' (fun b => N b ∨ w.heap.size ≤ b) v2 (cutR P m)

set_option maxHeartbeats 2000000 in
theorem take_cut {w : World} {N : Nat → Prop} {v : Value} {P : Parts} (h : Rp w N v P) (m : Nat) (hm : m < tot P) :
    Calls Try.prog 77 #[v, .int .i64 m] w (TakePost N P m w) := by
  obtain ⟨a, cap, rfl, h1, h2, h3, h4, h5, h6⟩ := h
  have hi : (P.length : Int) ≤ 1024 := by omega
  have hm' : (m : Int) < tot P := by omega
  have ht : (tot P : Int) ≤ 65536 := by omega
  go_enter Try.func77, Try.ntmps77
  go_wp2_with fail
  obtain ⟨W, hW⟩ : ∃ W, W = (((w.alloc (Obj.cells #[Value.slice a (List.length P) cap, Value.int IntKind.i64 (tot P)] 51)).alloc (Obj.cells #[Value.slice none 0 0, Value.int IntKind.i64 0] 51)).alloc (Obj.cells #[Value.slice none 0 0, Value.int IntKind.i64 0] 51)) := ⟨_, rfl⟩
  rw [← hW]
  have b0 : W.heap[w.heap.size]? = some (.cells #[.slice a P.length cap, .int .i64 (tot P)] 51 (0, 0)) := by rw [hW]; exact keepA (keepA (newA rfl))
  have b1 : W.heap[w.heap.size + 1]? = some (.cells #[.slice none 0 0, .int .i64 0] 51 (0, 0)) := by rw [hW]; exact keepA (newA (by simp))
  have b2 : W.heap[w.heap.size + 1 + 1]? = some (.cells #[.slice none 0 0, .int .i64 0] 51 (0, 0)) := by rw [hW]; exact newA (by simp)
  have g0 : Fr [] w W := by rw [hW]; exact (((Fr.refl _ _).alloc _).alloc _).alloc _
  have hp3 : PartsAt W (fun b => N b ∧ b < w.heap.size) a P := h3.there.keep g0 (by simp)
  have hlt : w.heap.size + 1 + 1 < W.heap.size := lt_of_heap b2
  clear hW h3
  generalize hB : w.heap.size = B at *
  have hBl : w.heap.size ≤ B := by omega
  have hBr : B ≤ w.heap.size := by omega
  clear hB
  have x0 : W.cell? ⟨B, 0, none⟩ = some (.slice a P.length cap) := cell_of b0
  have x1 : W.cell? ⟨B, 1, none⟩ = some (.int .i64 (tot P)) := cell_of b0
  go_loop [7, 8] (fun l i => ∃ (k left : Nat), k < P.length ∧ i = .int .i64 k ∧ l = .int .i64 left ∧ Hid (tot (P.take k) + left = m) ∧ left ≤ m) (fun _ i => P.length - (intOf i).toNat)
  case atStart =>
    refine ⟨0, m, ?_, rfl, rfl, Lib.hid (by simp [tot]), Nat.le_refl _⟩
    rcases P with _ | ⟨p, P⟩
    · simp [tot] at hm
    · simp
  case round =>
    obtain ⟨k, left, hk, rfl, rfl, HS, hlm⟩ := hrel
    obtain ⟨b, o, ak, ck, rfl, _, hcell, hc1, hc2, hsl, hN⟩ := hp3.at_ hk
    have hnext := tot_take_succ hk
    have hle := tot_take_le P (k + 1)
    by_cases hx : P[k].length ≤ left
    · have hS := HS.out
      have hk1 : k + 1 < P.length := by
        rcases Nat.lt_or_ge (k + 1) P.length with h | h
        · exact h
        · rw [List.take_of_length_le h] at hnext; omega
      have HS' := Lib.hid (show tot (P.take (k + 1)) + (left - P[k].length) = m by omega)
      have hk1' : (k : Int) + 1 < P.length := by omega
      generalize P[k].length = x at *
      clear hnext hle hS
      have hx' : (x : Int) ≤ left := by omega
      go_wp2_with fail
      go_round
      case rel => exact ⟨k + 1, left - x, hk1, by go_num, by rw [show ((left - x : Nat) : Int) = (left : Int) - x from by omega], HS', by omega⟩
      case measure => simp [intOf]; omega
    · obtain ⟨vs, e1, e2, e3, e4⟩ := hp3
      have hvk : vs[k]? = some (.slice ak P[k].length ck) := by
        obtain ⟨b', o', e, _, hc⟩ := e2 (by omega)
        simp only [Option.some.injEq, Addr.mk.injEq, and_true] at e
        obtain ⟨rfl, rfl⟩ := e
        rw [← hc k (by omega), hcell]
      have hS := HS.out
      have hend := cut_end (P := P) (n := m) hk (by unfold tot at hS; exact hS) h4 (by omega)
      have hone : ∀ u ∈ vs, u.oneCell' = true := by
        intro u hu
        obtain ⟨i, hi, rfl⟩ := List.getElem_of_mem hu
        obtain ⟨u', hu', a', c', rfl, _⟩ := e4 i P[i] (List.getElem?_eq_getElem (by omega))
        rw [List.getElem?_eq_getElem hi] at hu'
        injection hu' with hu'
        rw [hu']
        rfl
      have HC1 : Hid (∀ w', Fr [] W w' → Calls Try.prog 84 #[.slice (some ⟨b, o, none⟩) k cap] w' fun e w2 => ∃ v, e = .returned v ∧ Fr [] w' w2 ∧ Ow w2 w'.heap.size 22 v (vs.take k)) :=
        Lib.hid fun w' hf => slices_clone ((e2.take k).keep hf (by simp)) (by simp; omega) (fun u hu => hone u (List.mem_of_mem_take hu)) (by simp; omega)
      have HC2 : Hid (∀ w', Fr [] W w' → Calls Try.prog 84 #[.slice (some ⟨b, o + k, none⟩) (P.length - k) (cap - k)] w' fun e w2 => ∃ v, e = .returned v ∧ Fr [] w' w2 ∧ Ow w2 w'.heap.size 22 v (vs.drop k)) :=
        Lib.hid fun w' hf => slices_clone ((e2.drop k).keep hf (by simp)) (by simp; omega) (fun u hu => hone u (List.mem_of_mem_drop hu)) (by simp; omega)
      have hs1 : ∀ w, (Instr.slice 49 (.slice (some ⟨b, o, none⟩) P.length cap) none (some (.int .i64 k)) none).run Try.prog w = .ok (.slice (some ⟨b, o, none⟩) k cap) w := fun w => run_upto2 (by omega) h1 w
      have hs2 : ∀ w, (Instr.slice 49 (.slice (some ⟨b, o, none⟩) P.length cap) (some (.int .i64 k)) none none).run Try.prog w = .ok (.slice (some ⟨b, o + k, none⟩) (P.length - k) (cap - k)) w := fun w => run_from2 (by omega) (by omega) w
      have HE2 := Lib.hid e2
      have HE4 := Lib.hid e4
      have HEND := Lib.hid hend
      have HVK := Lib.hid hvk
      have HONE := Lib.hid hone
      have HE1 := Lib.hid e1
      have hdr : Fr [] W W.drew := (Fr.refl [] W).drew
      have hxl : (left : Int) < P[k].length := by omega
      have x0d : W.drew.cell? ⟨B, 0, none⟩ = some (.slice (some ⟨b, o, none⟩) P.length cap) := x0
      clear hend hvk hone e4 e1 hnext hle hS hsl
      generalize hq : P[k] = p at *
      have HQ := Lib.hid hq
      clear hq
      go_wp2_with fail
      go_region_held3 (fun w' => w'.cell? ⟨B, 0, none⟩ = some (.slice (some ⟨b, o, none⟩) P.length cap)) ((with_reducible assumption))
        (first
        | (go_at_call 84; (with_reducible refine (HC1.out _ hdr).mono ?_); rintro e w1 ⟨v1, rfl, f1, o1⟩; have ff1 : Fr [] W w1 := hdr.then0 f1; have x0w : w1.cell? ⟨B, 0, none⟩ = some (.slice (some ⟨b, o, none⟩) P.length cap) := cell_of (ff1.keep b0 (by simp)))
        | (go_at_call 84; (with_reducible refine (HC2.out _ ff1).mono ?_); rintro e w2 ⟨v2, rfl, f2, o2⟩; have ff2 : Fr [] W w2 := ff1.then0 f2; have x0v : w2.cell? ⟨B, 0, none⟩ = some (.slice (some ⟨b, o, none⟩) P.length cap) := cell_of (ff2.keep b0 (by simp))))
      have y1 : w2.cell? ⟨B, 1, none⟩ = some (.int .i64 (tot P)) := cell_of (ff2.keep b0 (by simp))
      have q1 := ff2.keep b1 (by simp)
      have q2 := ff2.keep b2 (by simp)
      have o1' : Ow w2 W.heap.size 22 v1 (vs.take k) := o1.keep f2 (by simp)
      have o2' : Ow w2 W.heap.size 22 v2 (vs.drop k) := o2.mono ff1.size
      have hdis : ∀ x, v1.ownBlock = some x → x < w1.heap.size := fun x e => (o1.lt x e).2
      have hdis2 : ∀ x, v2.ownBlock = some x → w1.heap.size ≤ x := fun x e => (o2.lt x e).1
      have hg2 : Fr [] w w2 := g0.then0 ff2
      have hB2 : B + 1 + 1 < w2.heap.size := lt_of_heap q2
      clear o1 o2 hdr ff1 f1 f2 HC1 HC2 hs1 hs2 x0d x0w x0v
      by_cases hl0 : left = 0
      · subst hl0
        have htl : (vs.take k).length = k := by rw [List.length_take, HE1.out]; omega
        have hdl : (vs.drop k).length = P.length - k := by rw [List.length_drop, HE1.out]
        obtain ⟨a1, c1, hv1, _⟩ := o1'.form
        obtain ⟨a2, c2, hv2, _⟩ := o2'.form
        rw [htl] at hv1
        rw [hdl] at hv2
        subst hv1 hv2
        have r0 : w2.cell? ⟨B + 1, 0, none⟩ = some (.slice none 0 0) := cell_of q1
        have r1 : w2.cell? ⟨B + 1, 1, none⟩ = some (.int .i64 0) := cell_of q1
        have r2 : w2.frozen? ⟨B + 1, 0, none⟩ = false := free_of q1
        have r3 : w2.frozen? ⟨B + 1, 1, none⟩ = false := free_of q1
        have r4 : w2.cell? ⟨B + 1 + 1, 0, none⟩ = some (.slice none 0 0) := cell_of q2
        have r5 : w2.cell? ⟨B + 1 + 1, 1, none⟩ = some (.int .i64 0) := cell_of q2
        have r6 : w2.frozen? ⟨B + 1 + 1, 0, none⟩ = false := free_of q2
        have r7 : w2.frozen? ⟨B + 1 + 1, 1, none⟩ = false := free_of q2
        have hsub : IntKind.i64.wrap ((tot P : Int) - m) = (tot P : Int) - m := IntWalk.i64_in _ (by omega)
        have HO1 := Lib.hid o1'
        have HO2 := Lib.hid o2'
        clear htl hdl o1' o2'
        go_wp2_with fail
        go_region
        go_wp2_with fail
        obtain ⟨wf, hwf, z1, z2, fz⟩ := two_pairs (x0 := .slice a1 k c1) (x1 := .int .i64 m) (y0 := .slice a2 (P.length - k) c2) (y1 := .int .i64 ((tot P : Int) - m)) q1 q2 (by omega)
        rw [← hwf]
        have u0 : wf.cell? ⟨B + 1, 0, none⟩ = some (.slice a1 k c1) := cell_of z1
        have u1 : wf.cell? ⟨B + 1, 1, none⟩ = some (.int .i64 m) := cell_of z1
        have u2 : wf.cell? ⟨B + 1 + 1, 0, none⟩ = some (.slice a2 (P.length - k) c2) := cell_of z2
        have u3 : wf.cell? ⟨B + 1 + 1, 1, none⟩ = some (.int .i64 ((tot P : Int) - m)) := cell_of z2
        refine bodyPost_ret (v := .tuple #[.agg #[.slice a1 k c1, .int .i64 m], .agg #[.slice a2 (P.length - k) c2, .int .i64 ((tot P : Int) - m)], .int .i64 0]) (by simp [results, Try.results77, go_sem, u0, u1, u2, u3]) rfl ?_
        obtain ⟨en1, en2⟩ := HEND.out
        rw [if_pos trivial, List.append_nil] at en1
        rw [List.drop_zero, ← HQ.out, ← List.drop_eq_getElem_cons hk] at en2
        have pk := parts_keep HE4.out (ff2.trans (U := [B + 1, B + 1 + 1]) fz (by simp) (fun _ h => .inl h)) (by simp; omega)
        have nb : ∀ x ∈ [B + 1, B + 1 + 1], x < W.heap.size := by simp; omega
        have p1 := HO1.out.keep fz (fun x e hm => by have := (HO1.out.lt x e).1; have := nb x hm; omega)
        have p2 := HO2.out.keep fz (fun x e hm => by have := (HO2.out.lt x e).1; have := nb x hm; omega)
        refine ⟨_, _, rfl, hg2.trans fz (by simp) (by simp; omega), ?_, ?_⟩
        · rw [en1]
          exact rp_of_own p1 (by rw [List.length_take, List.length_take, HE1.out]) (parts_take pk k) (fun x hx => .inr (by omega)) (fun x hx => .inl hx.1) (h4.take k) (by simp; omega) (by have := tot_take_le P k; omega) m (by rw [← en1]; exact tot_cutF P (by omega))
        · rw [en2, show ((tot P : Int) - m) = ((tot P - m : Nat) : Int) from by omega]
          exact rp_of_own p2 (by rw [List.length_drop, List.length_drop, HE1.out]) (parts_drop pk k) (fun x hx => .inr (by omega)) (fun x hx => .inl hx.1) (h4.drop k) (by simp; omega) (by rw [← en2, tot_cutR]; omega) (tot P - m) (by rw [← en2]; exact tot_cutR P m)
      · have hl0' : (0 : Int) < left := by omega
        have hdl : (vs.drop k).length = P.length - k := by rw [List.length_drop, HE1.out]
        obtain ⟨g2, c2, hv2, _, _, _, hg2l, hcells, hfroz⟩ := o2'.row (by omega)
        rw [hdl] at hv2
        subst hv2
        have hc0 : w2.cell? ⟨g2, 0, none⟩ = some (.slice ak p.length ck) := by rw [hcells 0 (by omega), List.getElem?_drop, Nat.add_zero]; exact HVK.out
        have hpk0 : 0 < P.length - k := by omega
        have htl : (vs.take k).length = k := by rw [List.length_take, HE1.out]; omega
        obtain ⟨a1, c1, hv1, _⟩ := o1'.form
        rw [htl] at hv1
        subst hv1
        have hpv : PartV W (fun b => N b ∧ b < B) (.slice ak p.length ck) p := by
          obtain ⟨v, hv, hq⟩ := HE4.out k p (by rw [List.getElem?_eq_getElem hk, HQ.out])
          rw [HVK.out] at hv
          injection hv with hv
          rw [hv]
          exact hq
        obtain ⟨kb, ko, rfl, _, _⟩ : ∃ b o, ak = some ⟨b, o, none⟩ ∧ b < W.heap.size ∧ True := by
          obtain ⟨a', c', e, _, _, hs, _⟩ := hpv
          injection e with e1 e2 e3
          subst e1
          obtain ⟨b', o', e', hb', _⟩ := hs (by rw [bi_length]; omega)
          exact ⟨b', o', e', hb', trivial⟩
        have hsA : ∀ w, (Instr.slice 22 (.slice (some ⟨kb, ko, none⟩) p.length ck) none (some (.int .i64 left)) none).run Try.prog w = .ok (.slice (some ⟨kb, ko, none⟩) left ck) w := fun w => run_upto (by omega) hc1 w
        have hsB : ∀ w, (Instr.slice 22 (.slice (some ⟨kb, ko, none⟩) p.length ck) (some (.int .i64 left)) none none).run Try.prog w = .ok (.slice (some ⟨kb, ko + left, none⟩) (p.length - left) (ck - left)) w := fun w => by
          have := run_cutl (pa := some ⟨kb, ko, none⟩) (plen := p.length) (pcap := ck) (l := left) (by omega) w
          rwa [cutp_gen (show ck ≠ left by omega)] at this
        have HU : Hid (Try.prog.underlying 49 = some (.slice 22)) := Lib.hid Try.underlying49
        have HIN : Hid ((Try.prog.info? 22).map (fun i => (i.zero, i.size, i.bytes)) = some (some (.slice none 0 0), 1, 24)) := Lib.hid (by kernel_rfl)
        have H3 : Hid ((vs.take k).length + 1 ≤ maxLen) := Lib.hid (by rw [htl]; unfold maxLen; omega)
        have H4 : Hid (((vs.take k).length + 1) * 24 ≤ 140737488355328) := Lib.hid (by rw [htl]; omega)
        have hWs : W.heap.size ≤ (w2.alloc (.cells #[.slice (some ⟨kb, ko, none⟩) left ck] 22)).heap.size := by have := ff2.size; simp; omega
        have fal : Fr [] w2 (w2.alloc (.cells #[.slice (some ⟨kb, ko, none⟩) left ck] 22)) := (Fr.refl [] w2).alloc _
        have HOW := Lib.hid (o1'.keep fal (by simp))
        have hf0 : w2.frozen? ⟨g2, 0, none⟩ = false := hfroz 0
        have hpk0' : (0 : Int) < ((P.length - k : Nat) : Int) := by omega
        have HO2 := Lib.hid o2'
        have HDI := Lib.hid hdis
        clear htl hdl hcells hfroz o1' o2'
        go_wp2_with (refine wpList_append_fr _ rfl (.tmp 52) (.tmp 58) 49 rfl 22 (.slice none 0 0) 24 HU.out HIN.out rfl W.heap.size (.slice a1 k c1) (vs.take k) (by exact rfl) HOW.out (some ⟨w2.heap.size, 0, none⟩) 1 1 [.slice (some ⟨kb, ko, none⟩) left ck] (by exact rfl) rfl (SlV.box _ _ _) (one_slice _ _ _) H3.out H4.out hWs ?_)
        intro v' w3 o3 f3 hb
        have hne1 : ∀ x, (Value.slice a1 k c1).ownBlock = some x → W.heap.size ≤ x ∧ x < w1.heap.size := fun x e => ⟨(HOW.out.lt x e).1, HDI.out x e⟩
        have hg2w : w1.heap.size ≤ g2 := hdis2 g2 rfl
        have hnin : ∀ x, x < W.heap.size → x ∉ (Value.slice a1 k c1).ownBlock.toList := fun x hx hm => by have := (hne1 x (by simpa using hm)).1; omega
        have hg2n : g2 ∉ (Value.slice a1 k c1).ownBlock.toList := fun hm => by have := (hne1 g2 (by simpa using hm)).2; omega
        have g3 : Fr [] w w3 := (hg2.then0 fal).own f3 (fun x e => .inr (by have := (hne1 x e).1; omega))
        have fw3 : Fr [] W w3 := (ff2.then0 fal).own f3 (fun x e => .inr (hne1 x e).1)
        have p2 := (HO2.out.keep fal (by simp)).keep f3 (fun x e hm => by simp only [Value.ownBlock, Option.some.injEq] at e; subst e; exact hg2n hm)
        have s1 := f3.keep (fal.keep q1 (by simp)) (hnin _ (by omega))
        have s2 := f3.keep (fal.keep q2 (by simp)) (hnin _ (by omega))
        obtain ⟨g2', c2', hv2', _, _, _, _, hcells', hfroz'⟩ := p2.row (by rw [List.length_drop, HE1.out]; omega)
        have hgg : g2' = g2 := by injection hv2' with e; injection e with e; injection e with e1; exact e1.symm
        subst hgg
        have hc3 : w3.cell? ⟨g2', 0, none⟩ = some (.slice (some ⟨kb, ko, none⟩) p.length ck) := by rw [hcells' 0 (by rw [List.length_drop, HE1.out]; omega), List.getElem?_drop, Nat.add_zero]; exact HVK.out
        have hf3 : w3.frozen? ⟨g2', 0, none⟩ = false := hfroz' 0
        have htl3 : (vs.take k ++ [Value.slice (some ⟨kb, ko, none⟩) left ck]).length = k + 1 := by rw [List.length_append, List.length_take, HE1.out]; simp; omega
        obtain ⟨a3, c3, hv3, _⟩ := o3.out.form
        rw [htl3] at hv3
        subst hv3
        have HP2 := Lib.hid p2
        have hvn : ∀ x, (Value.slice a3 (k + 1) c3).ownBlock = some x → x ≠ g2' ∧ W.heap.size ≤ x := fun x e => by
          refine ⟨?_, (o3.out.lt x e).1⟩
          rcases hb with h | h
          · rw [e] at h; have := (hne1 x h.symm).2; omega
          · rw [e] at h; injection h with h; omega
        have HVN := Lib.hid hvn
        have hb0w : w3.heap[B]? = some (.cells #[.slice (some ⟨b, o, none⟩) P.length cap, .int .i64 (tot P)] 51 (0, 0)) := fw3.keep b0 (by simp)
        clear hvn hv2' hcells' hfroz' htl3 p2 f3 hb hc0 hf0 hcell x0 x1 y1 q1 q2 b0 b1 b2
        go_wp2_with fail
        obtain ⟨w4, hw4⟩ : ∃ w4, w4 = w3.setCell ⟨g2', 0, none⟩ (.slice (some ⟨kb, ko + left, none⟩) (p.length - left) (ck - left)) := ⟨_, rfl⟩
        rw [← hw4]
        have t0 : w4.heap[B]? = some (.cells #[.slice (some ⟨b, o, none⟩) P.length cap, .int .i64 (tot P)] 51 (0, 0)) := by rw [hw4]; exact keepS hb0w (by dsimp only; omega)
        have t1 := keepS (a := ⟨g2', 0, none⟩) (v := .slice (some ⟨kb, ko + left, none⟩) (p.length - left) (ck - left)) s1 (by dsimp only; omega)
        have t2 := keepS (a := ⟨g2', 0, none⟩) (v := .slice (some ⟨kb, ko + left, none⟩) (p.length - left) (ck - left)) s2 (by dsimp only; omega)
        have p4 := HP2.out.set 0 (.slice (some ⟨kb, ko + left, none⟩) (p.length - left) (ck - left))
        have f34 : Fr [g2'] w3 (w3.setCell ⟨g2', 0, none⟩ (.slice (some ⟨kb, ko + left, none⟩) (p.length - left) (ck - left))) := (Fr.refl _ _).setCell (.inl (by simp)) _
        rw [← hw4] at t1 t2 p4 f34
        clear hw4 s1 s2 hb0w
        have y1 : w4.cell? ⟨B, 1, none⟩ = some (.int .i64 (tot P)) := cell_of t0
        have r0 : w4.cell? ⟨B + 1, 0, none⟩ = some (.slice none 0 0) := cell_of t1
        have r1 : w4.cell? ⟨B + 1, 1, none⟩ = some (.int .i64 0) := cell_of t1
        have r2 : w4.frozen? ⟨B + 1, 0, none⟩ = false := free_of t1
        have r3 : w4.frozen? ⟨B + 1, 1, none⟩ = false := free_of t1
        have r4 : w4.cell? ⟨B + 1 + 1, 0, none⟩ = some (.slice none 0 0) := cell_of t2
        have r5 : w4.cell? ⟨B + 1 + 1, 1, none⟩ = some (.int .i64 0) := cell_of t2
        have r6 : w4.frozen? ⟨B + 1 + 1, 0, none⟩ = false := free_of t2
        have r7 : w4.frozen? ⟨B + 1 + 1, 1, none⟩ = false := free_of t2
        have hsub : IntKind.i64.wrap ((tot P : Int) - m) = (tot P : Int) - m := IntWalk.i64_in _ (by omega)
        have HP4 := Lib.hid p4
        clear p4
        go_region
        go_wp2_with fail
        obtain ⟨wf, hwf, z1, z2, fz⟩ := two_pairs (x0 := .slice a3 (k + 1) c3) (x1 := .int .i64 m) (y0 := .slice (some ⟨g2', 0, none⟩) (P.length - k) c2) (y1 := .int .i64 ((tot P : Int) - m)) t1 t2 (by omega)
        rw [← hwf]
        have u0 : wf.cell? ⟨B + 1, 0, none⟩ = some (.slice a3 (k + 1) c3) := cell_of z1
        have u1 : wf.cell? ⟨B + 1, 1, none⟩ = some (.int .i64 m) := cell_of z1
        have u2 : wf.cell? ⟨B + 1 + 1, 0, none⟩ = some (.slice (some ⟨g2', 0, none⟩) (P.length - k) c2) := cell_of z2
        have u3 : wf.cell? ⟨B + 1 + 1, 1, none⟩ = some (.int .i64 ((tot P : Int) - m)) := cell_of z2
        refine bodyPost_ret (v := .tuple #[.agg #[.slice a3 (k + 1) c3, .int .i64 m], .agg #[.slice (some ⟨g2', 0, none⟩) (P.length - k) c2, .int .i64 ((tot P : Int) - m)], .int .i64 0]) (by simp [results, Try.results77, go_sem, u0, u1, u2, u3]) rfl ?_
        obtain ⟨en1, en2⟩ := HEND.out
        rw [if_neg hl0] at en1
        have fW : Fr [g2', B + 1, B + 1 + 1] W wf := (fw3.trans (U := [g2', B + 1, B + 1 + 1]) f34 (by simp) (by simp)).trans (U := [g2', B + 1, B + 1 + 1]) fz (fun _ h => .inl h) (by simp)
        have hnN : ∀ x ∈ [g2', B + 1, B + 1 + 1], ¬ (N x ∧ x < B) := by simp; omega
        have pk := parts_keep HE4.out fW hnN
        have pv := hpv.keep fW hnN
        have nb : ∀ x ∈ [B + 1, B + 1 + 1], x < W.heap.size := by simp; omega
        have p1 := (o3.out.keep f34 (fun x e hm => (HVN.out x e).1 (by simpa using hm))).keep fz (fun x e hm => by have := (HVN.out x e).2; have := nb x hm; omega)
        have p2 := HP4.out.keep fz (fun x e hm => by have := (HP4.out.lt x e).1; have := nb x hm; omega)
        have hset : (vs.drop k).set 0 (.slice (some ⟨kb, ko + left, none⟩) (p.length - left) (ck - left)) = Value.slice (some ⟨kb, ko + left, none⟩) (p.length - left) (ck - left) :: vs.drop (k + 1) := by
          rw [List.drop_eq_getElem_cons (by rw [HE1.out]; exact hk)]
          rfl
        rw [hset] at p2
        refine ⟨_, _, rfl, (g3.trans (U := []) f34 (by simp) (by simp; have := ff2.size; have := g0.size; omega)).trans (U := []) fz (by simp) (by simp; omega), ?_, ?_⟩
        · rw [en1]
          refine rp_of_own p1 (by rw [List.length_append, List.length_append, List.length_take, List.length_take, HE1.out]; rfl) (parts_snoc (parts_take pk k) (by rw [List.length_take, List.length_take, HE1.out]) (pv.head (by omega))) (fun x hx => .inr (by omega)) (fun x hx => .inl hx.1) ?_ (by simp; omega) ?_ m (by rw [← en1]; exact tot_cutF P (by omega))
          · rw [← en1]; exact cutF_full P m h4
          · rw [← en1, tot_cutF P (by omega)]; omega
        · rw [en2, show ((tot P : Int) - m) = ((tot P - m : Nat) : Int) from by omega]
          refine rp_of_own p2 (by rw [List.length_cons, List.length_cons, List.length_drop, List.length_drop, HE1.out]) (parts_cons (parts_drop pk (k + 1)) (pv.tail (by omega))) (fun x hx => .inr (by omega)) (fun x hx => .inl hx.1) ?_ (by simp; omega) ?_ (tot P - m) (by rw [← en2]; exact tot_cutR P m)
          · rw [← en2]; exact cutR_full P m h4
          · rw [← en2, tot_cutR]; omega
theorem rope_take {w : World} {N : Nat → Prop} {v : Value} {P : Parts} (h : Rp w N v P) {most : Int} (h0 : 0 ≤ most) :
    Calls Try.prog 77 #[v, .int .i64 most] w (TakePost N P most.toNat w) := by
  by_cases hm : (tot P : Int) ≤ most
  · have hf : Full P := h.choose_spec.choose_spec.2.2.2.2.1
    refine (take_all h h0 hm).mono fun e w' ⟨he, hr⟩ => ⟨v, noRope, he, hr, ?_, ?_⟩
    · rw [cutF_all P _ hf (by unfold tot at hm; omega)]
      exact (h.keep hr (by simp)).mono fun _ => .inl
    · rw [cutR_all P _ (by unfold tot at hm; omega)]
      exact Rp.none_ _ _
  · obtain ⟨m, rfl⟩ := Int.eq_ofNat_of_zero_le h0
    rw [Int.toNat_natCast]
    exact take_cut h m (by omega)
end Go.Proofs.Ytodpkdbcdbdjfaa
