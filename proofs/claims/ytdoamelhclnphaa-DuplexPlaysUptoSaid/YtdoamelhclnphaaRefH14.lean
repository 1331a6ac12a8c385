/-
  The reference of layer 14: Read.
-/
import Derived.Test.YtdoamelhclnphaaGs
import Derived.Test.YtdoamelhclnphaaRefF
import Derived.Lib.MinMax
import Derived.Deep.DeepCutAuto
import Derived.Deep.CutBlock
namespace Go.Proofs.Ytdoamelhclnphaa
open Go.RowKit
set_option maxRecDepth 100000

theorem run_capk {a : Option Addr} {n c k : Nat} (hc : k ≤ c) (w : World) : (Instr.slice 29 (.slice a n c) none (some (.int .i64 k)) (some (.int .i64 k))).run Try.prog w = .ok (.slice a k k) w := by
  have hs : ∀ w, (sizeOf (Try.prog.elem 29)).run Try.prog w = .ok 1 w := fun _ => by kernel_rfl
  rw [run_slice_hm (P := Try.prog) (w := w) (t := 29) (a := a) (len := n) (cap := c) (by kernel_rfl) .i64 .i64 (k : Int) (k : Int) (by omega) (by omega) (by omega), hs]
  simp [Result.andThen, sliced]
  intro _
  cases a <;> simp [Addr.add]
theorem min_take {n : Int} {q : List UInt8} (h0 : 0 ≤ n) (h3 : ¬ n = 0) (h4 : q ≠ []) : ∃ k : Nat, min n (q.length : Int) = (k : Int) ∧ k ≤ q.length ∧ q.take n.toNat = q.take k ∧ q.drop n.toNat = q.drop k ∧ 0 < k := by
  have hp := List.length_pos_iff.2 h4
  by_cases h : n ≤ q.length
  · exact ⟨n.toNat, by omega, by omega, rfl, rfl, by omega⟩
  · exact ⟨q.length, by omega, Nat.le_refl _, by rw [List.take_of_length_le (by omega), List.take_of_length_le (Nat.le_refl _)], by rw [List.drop_eq_nil_of_le (by omega), List.drop_eq_nil_of_le (Nat.le_refl _)], hp⟩
theorem PartV.cutk {w : World} {N : Nat → Prop} {a : Option Addr} {n c k : Nat} {p : List UInt8} (h : PartV w N (.slice a n c) p) (hk : k ≤ p.length) : PartV w N (.slice (cutp a c k) (p.length - k) (c - k)) (p.drop k) := by
  obtain ⟨a', c', e, h1, h2, h3, h4⟩ := h
  injection e with e1 e2 e3
  subst e1 e3
  refine ⟨cutp a c k, c - k, by rw [List.length_drop], by rw [List.length_drop]; omega, by omega, ?_, fun b o h0 e => ?_⟩
  · have := cutp_sl (cap := c) (l := k) (k := p.length - k) h3 (by simp [bi_length]; omega) (by simp [bi_length]; omega)
    rw [show ((bi p).drop k).take (p.length - k) = bi (p.drop k) from by rw [List.take_of_length_le (by rw [List.length_drop, bi_length]; omega)]; unfold bi; rw [List.map_drop]] at this
    exact this
  · rw [List.length_drop] at h0
    unfold cutp at e
    rw [if_neg (by omega)] at e
    obtain ⟨⟨b', o', s⟩, rfl, e'⟩ := Option.map_eq_some_iff.1 e
    obtain ⟨b2, o2, e2, _⟩ := h3 (by rw [bi_length]; omega)
    injection e2 with e2
    injection e2 with e3 e4 e5
    subst e3 e4 e5
    have hb : b' = b := by
      simp [Addr.add] at e'
      split at e' <;> (injection e' with e9)
    subst hb
    exact h4 b' o' (by omega) rfl
theorem PartV.headk {w : World} {N : Nat → Prop} {a : Option Addr} {n c k : Nat} {p : List UInt8} (h : PartV w N (.slice a n c) p) (hk : k ≤ p.length) : PartV w N (.slice a k k) (p.take k) := by
  obtain ⟨a', c', e, h1, h2, h3, h4⟩ := h
  injection e with e1 e2 e3
  subst e1 e3
  have hl : (p.take k).length = k := by rw [List.length_take]; omega
  exact ⟨a, k, by rw [hl], by rw [hl]; exact Nat.le_refl _, by omega, by rw [bi_take]; exact h3.take k, fun b o h0 e => h4 b o (by rw [hl] at h0; omega) e⟩
set_option maxHeartbeats 40000000 in
theorem r_read {w : World} {N : Nat → Prop} {v : Value} {m : SM} (h : Sv w N v m) (n : Int) (HB0 : m.q.length ≤ 1000000 ∧ m.rest.length ≤ 1000000) (HA0 : 0 ≤ m.acc ∧ m.acc ≤ 1000000) :
    Calls Try.prog 85 #[v, .int .i64 n] w fun e w' => ∃ v' u, e = .returned (.tuple #[v', u, .int .i64 (readM m n).err]) ∧ Fr [] w w' ∧ Sv w' (fun x => N x ∨ w.heap.size ≤ x) v' (readM m n).m ∧ PartV w' (fun x => w.heap.size ≤ x) u (readM m n).out := by
  obtain ⟨u1, u2, rfl, hq, hr⟩ := h
  obtain ⟨a1, k1, rfl, _⟩ := id hq
  obtain ⟨a2, k2, rfl, _⟩ := id hr
  have HQ := Lib.hid (And.intro hq hr)
  clear hq hr
  have HU : Hid (Try.prog.underlying 29 = some (.slice 5)) := Lib.hid Try.underlying29
  have HIN : Hid ((Try.prog.info? 5).map (fun i => (i.zero, i.size, i.bytes)) = some (some (.int .u8 0), 1, 1)) := Lib.hid (by kernel_rfl)
  by_cases h1 : n < 0 ∨ 65536 < n
  · have e : readM m n = ⟨m, [], 2⟩ := by unfold readM; rw [if_pos h1]
    rw [e]
    clear e
    rcases h1 with h1 | h1
    · skip
      obtain ⟨w0, hw0, f0, q0, z0⟩ : ∃ W, (w.alloc (.cells #[.int .i64 m.c, .slice a1 m.q.length k1, .bool m.busy, .slice a2 m.rest.length k2, .int .i64 m.acc, .int .i64 m.w, .int .i64 m.r] 41)).alloc (.cells #[.int .i64 0, .slice none 0 0, .bool false, .slice none 0 0, .int .i64 0, .int .i64 0, .int .i64 0] 41) = W ∧ Fr [] w W ∧ S7 W w.heap.size m.c a1 m.q.length k1 m.busy a2 m.rest.length k2 m.acc m.w m.r ∧ S7 W (w.heap.size + 1) 0 none 0 0 false none 0 0 0 0 0 := ⟨_, rfl, ((Fr.refl _ _).alloc _).alloc _, keepA (newA rfl), newA (by simp)⟩
      obtain ⟨x0, x1, x2, x3, x4, x5, x6, p0, p1, p2, p3, p4, p5, p6⟩ := q0.cells
      have hz0 : w.heap.size + 1 < w0.heap.size := lt_of_heap z0
      have HZ := Lib.hid z0
      have HF := Lib.hid f0
      have HB := Lib.hid q0
      clear q0 z0 f0
      have HZS := Lib.hid (HZ.out)
      have HFS := Lib.hid (HF.out)
      go_enter Try.func85, Try.ntmps85
      go_wp2_with (refine wpl_store rfl 41 _ _ rfl (w.heap.size + 1) #[.int .i64 m.c, .slice a1 m.q.length k1, .bool m.busy, .slice a2 m.rest.length k2, .int .i64 m.acc, .int .i64 m.w, .int .i64 m.r] (by rfl) (by rfl) _ _ HZS.out (by kernel_rfl) rfl (by simp [Value.oneCell']) ?_)
      intro wf ff qf
      obtain ⟨y0, y1, y2, y3, y4, y5, y6, _, _, _, _, _, _, _⟩ := S7.cells qf
      clear x0 x1 x2 x3 x4 x5 x6 p0 p1 p2 p3 p4 p5 p6
      go_wp2_with fail
      refine bodyPost_ret (v := .tuple #[.agg #[.int .i64 m.c, .slice a1 m.q.length k1, .bool m.busy, .slice a2 m.rest.length k2, .int .i64 m.acc, .int .i64 m.w, .int .i64 m.r], .slice none 0 0, .int .i64 2]) (by simp [results, Try.results85, go_sem, y0, y1, y2, y3, y4, y5, y6]) rfl ?_
      have F : Fr [] w wf := Fr.trans (U := []) (S := []) HFS.out ff (by simp) (fun x hx => .inr (by simp at hx; omega))
      exact ⟨_, _, rfl, F, ⟨_, _, rfl, ((HQ.out.1.keep F (by simp)).mono (fun _ h => .inl h)), ((HQ.out.2.keep F (by simp)).mono (fun _ h => .inl h))⟩, PartV.nil _ _⟩
    · skip
      obtain ⟨w0, hw0, f0, q0, z0⟩ : ∃ W, (w.alloc (.cells #[.int .i64 m.c, .slice a1 m.q.length k1, .bool m.busy, .slice a2 m.rest.length k2, .int .i64 m.acc, .int .i64 m.w, .int .i64 m.r] 41)).alloc (.cells #[.int .i64 0, .slice none 0 0, .bool false, .slice none 0 0, .int .i64 0, .int .i64 0, .int .i64 0] 41) = W ∧ Fr [] w W ∧ S7 W w.heap.size m.c a1 m.q.length k1 m.busy a2 m.rest.length k2 m.acc m.w m.r ∧ S7 W (w.heap.size + 1) 0 none 0 0 false none 0 0 0 0 0 := ⟨_, rfl, ((Fr.refl _ _).alloc _).alloc _, keepA (newA rfl), newA (by simp)⟩
      obtain ⟨x0, x1, x2, x3, x4, x5, x6, p0, p1, p2, p3, p4, p5, p6⟩ := q0.cells
      have hz0 : w.heap.size + 1 < w0.heap.size := lt_of_heap z0
      have HZ := Lib.hid z0
      have HF := Lib.hid f0
      have HB := Lib.hid q0
      clear q0 z0 f0
      have HZS := Lib.hid (HZ.out)
      have HFS := Lib.hid (HF.out)
      go_enter Try.func85, Try.ntmps85
      go_wp2_with (refine wpl_store rfl 41 _ _ rfl (w.heap.size + 1) #[.int .i64 m.c, .slice a1 m.q.length k1, .bool m.busy, .slice a2 m.rest.length k2, .int .i64 m.acc, .int .i64 m.w, .int .i64 m.r] (by rfl) (by rfl) _ _ HZS.out (by kernel_rfl) rfl (by simp [Value.oneCell']) ?_)
      intro wf ff qf
      obtain ⟨y0, y1, y2, y3, y4, y5, y6, _, _, _, _, _, _, _⟩ := S7.cells qf
      clear x0 x1 x2 x3 x4 x5 x6 p0 p1 p2 p3 p4 p5 p6
      go_wp2_with fail
      refine bodyPost_ret (v := .tuple #[.agg #[.int .i64 m.c, .slice a1 m.q.length k1, .bool m.busy, .slice a2 m.rest.length k2, .int .i64 m.acc, .int .i64 m.w, .int .i64 m.r], .slice none 0 0, .int .i64 2]) (by simp [results, Try.results85, go_sem, y0, y1, y2, y3, y4, y5, y6]) rfl ?_
      have F : Fr [] w wf := Fr.trans (U := []) (S := []) HFS.out ff (by simp) (fun x hx => .inr (by simp at hx; omega))
      exact ⟨_, _, rfl, F, ⟨_, _, rfl, ((HQ.out.1.keep F (by simp)).mono (fun _ h => .inl h)), ((HQ.out.2.keep F (by simp)).mono (fun _ h => .inl h))⟩, PartV.nil _ _⟩
  have h1a : 0 ≤ n := by omega
  have h1b : n ≤ 65536 := by omega
  by_cases h2 : m.r ≠ 0
  · have e : readM m n = ⟨m, [], 14⟩ := by unfold readM; rw [if_neg h1, if_pos h2]
    rw [e]
    clear e h1
    obtain ⟨w0, hw0, f0, q0, z0⟩ : ∃ W, (w.alloc (.cells #[.int .i64 m.c, .slice a1 m.q.length k1, .bool m.busy, .slice a2 m.rest.length k2, .int .i64 m.acc, .int .i64 m.w, .int .i64 m.r] 41)).alloc (.cells #[.int .i64 0, .slice none 0 0, .bool false, .slice none 0 0, .int .i64 0, .int .i64 0, .int .i64 0] 41) = W ∧ Fr [] w W ∧ S7 W w.heap.size m.c a1 m.q.length k1 m.busy a2 m.rest.length k2 m.acc m.w m.r ∧ S7 W (w.heap.size + 1) 0 none 0 0 false none 0 0 0 0 0 := ⟨_, rfl, ((Fr.refl _ _).alloc _).alloc _, keepA (newA rfl), newA (by simp)⟩
    obtain ⟨x0, x1, x2, x3, x4, x5, x6, p0, p1, p2, p3, p4, p5, p6⟩ := q0.cells
    have hz0 : w.heap.size + 1 < w0.heap.size := lt_of_heap z0
    have HZ := Lib.hid z0
    have HF := Lib.hid f0
    have HB := Lib.hid q0
    clear q0 z0 f0
    have HZS := Lib.hid (HZ.out)
    have HFS := Lib.hid (HF.out)
    go_enter Try.func85, Try.ntmps85
    go_wp2_with (refine wpl_store rfl 41 _ _ rfl (w.heap.size + 1) #[.int .i64 m.c, .slice a1 m.q.length k1, .bool m.busy, .slice a2 m.rest.length k2, .int .i64 m.acc, .int .i64 m.w, .int .i64 m.r] (by rfl) (by rfl) _ _ HZS.out (by kernel_rfl) rfl (by simp [Value.oneCell']) ?_)
    intro wf ff qf
    obtain ⟨y0, y1, y2, y3, y4, y5, y6, _, _, _, _, _, _, _⟩ := S7.cells qf
    clear x0 x1 x2 x3 x4 x5 x6 p0 p1 p2 p3 p4 p5 p6
    go_wp2_with fail
    refine bodyPost_ret (v := .tuple #[.agg #[.int .i64 m.c, .slice a1 m.q.length k1, .bool m.busy, .slice a2 m.rest.length k2, .int .i64 m.acc, .int .i64 m.w, .int .i64 m.r], .slice none 0 0, .int .i64 14]) (by simp [results, Try.results85, go_sem, y0, y1, y2, y3, y4, y5, y6]) rfl ?_
    have F : Fr [] w wf := Fr.trans (U := []) (S := []) HFS.out ff (by simp) (fun x hx => .inr (by simp at hx; omega))
    exact ⟨_, _, rfl, F, ⟨_, _, rfl, ((HQ.out.1.keep F (by simp)).mono (fun _ h => .inl h)), ((HQ.out.2.keep F (by simp)).mono (fun _ h => .inl h))⟩, PartV.nil _ _⟩
  have hr' : m.r = 0 := by omega
  by_cases h3 : n = 0
  · have e : readM m n = ⟨m, [], 0⟩ := by unfold readM; rw [if_neg h1, if_neg h2, if_pos h3]
    rw [e]
    clear e h1 h2
    subst h3
    rw [hr']
    have H_hr' := Lib.hid hr'
    obtain ⟨w0, hw0, f0, q0, z0⟩ : ∃ W, (w.alloc (.cells #[.int .i64 m.c, .slice a1 m.q.length k1, .bool m.busy, .slice a2 m.rest.length k2, .int .i64 m.acc, .int .i64 m.w, .int .i64 0] 41)).alloc (.cells #[.int .i64 0, .slice none 0 0, .bool false, .slice none 0 0, .int .i64 0, .int .i64 0, .int .i64 0] 41) = W ∧ Fr [] w W ∧ S7 W w.heap.size m.c a1 m.q.length k1 m.busy a2 m.rest.length k2 m.acc m.w 0 ∧ S7 W (w.heap.size + 1) 0 none 0 0 false none 0 0 0 0 0 := ⟨_, rfl, ((Fr.refl _ _).alloc _).alloc _, keepA (newA rfl), newA (by simp)⟩
    obtain ⟨x0, x1, x2, x3, x4, x5, x6, p0, p1, p2, p3, p4, p5, p6⟩ := q0.cells
    have hz0 : w.heap.size + 1 < w0.heap.size := lt_of_heap z0
    have HZ := Lib.hid z0
    have HF := Lib.hid f0
    have HB := Lib.hid q0
    clear q0 z0 f0
    clear hr'
    have HZS := Lib.hid (HZ.out)
    have HFS := Lib.hid (HF.out)
    go_enter Try.func85, Try.ntmps85
    go_wp2_with (refine wpl_store rfl 41 _ _ rfl (w.heap.size + 1) #[.int .i64 m.c, .slice a1 m.q.length k1, .bool m.busy, .slice a2 m.rest.length k2, .int .i64 m.acc, .int .i64 m.w, .int .i64 0] (by rfl) (by rfl) _ _ HZS.out (by kernel_rfl) rfl (by simp [Value.oneCell']) ?_)
    intro wf ff qf
    obtain ⟨y0, y1, y2, y3, y4, y5, y6, _, _, _, _, _, _, _⟩ := S7.cells qf
    clear x0 x1 x2 x3 x4 x5 x6 p0 p1 p2 p3 p4 p5 p6
    go_wp2_with fail
    refine bodyPost_ret (v := .tuple #[.agg #[.int .i64 m.c, .slice a1 m.q.length k1, .bool m.busy, .slice a2 m.rest.length k2, .int .i64 m.acc, .int .i64 m.w, .int .i64 0], .slice none 0 0, .int .i64 0]) (by simp [results, Try.results85, go_sem, y0, y1, y2, y3, y4, y5, y6]) rfl ?_
    have F : Fr [] w wf := Fr.trans (U := []) (S := []) HFS.out ff (by simp) (fun x hx => .inr (by simp at hx; omega))
    exact ⟨_, _, rfl, F, ⟨_, _, (by first | rfl | rw [H_hr'.out]), ((HQ.out.1.keep F (by simp)).mono (fun _ h => .inl h)), ((HQ.out.2.keep F (by simp)).mono (fun _ h => .inl h))⟩, PartV.nil _ _⟩
  by_cases h4 : m.q ≠ []
  · have e : readM m n = ⟨fillM { m with q := m.q.drop n.toNat }, m.q.take n.toNat, 0⟩ := by unfold readM; rw [if_neg h1, if_neg h2, if_neg h3, if_pos h4]
    rw [e]
    clear e h1 h2
    obtain ⟨k, hmin, hkq, htk, hdk, hk0⟩ : ∃ k : Nat, min n (m.q.length : Int) = (k : Int) ∧ k ≤ m.q.length ∧ m.q.take n.toNat = m.q.take k ∧ m.q.drop n.toNat = m.q.drop k ∧ 0 < k := min_take h1a h3 h4
    rw [htk, hdk]
    generalize hmf : fillM ({ m with q := m.q.drop k } : SM) = mf
    rw [hr']
    have H_hr' := Lib.hid hr'
    obtain ⟨w0, hw0, f0, q0, z0⟩ : ∃ W, (w.alloc (.cells #[.int .i64 m.c, .slice a1 m.q.length k1, .bool m.busy, .slice a2 m.rest.length k2, .int .i64 m.acc, .int .i64 m.w, .int .i64 0] 41)).alloc (.cells #[.int .i64 0, .slice none 0 0, .bool false, .slice none 0 0, .int .i64 0, .int .i64 0, .int .i64 0] 41) = W ∧ Fr [] w W ∧ S7 W w.heap.size m.c a1 m.q.length k1 m.busy a2 m.rest.length k2 m.acc m.w 0 ∧ S7 W (w.heap.size + 1) 0 none 0 0 false none 0 0 0 0 0 := ⟨_, rfl, ((Fr.refl _ _).alloc _).alloc _, keepA (newA rfl), newA (by simp)⟩
    obtain ⟨x0, x1, x2, x3, x4, x5, x6, p0, p1, p2, p3, p4, p5, p6⟩ := q0.cells
    have hz0 : w.heap.size + 1 < w0.heap.size := lt_of_heap z0
    have HZ := Lib.hid z0
    have HF := Lib.hid f0
    have HB := Lib.hid q0
    clear q0 z0 f0
    clear hr'
    have HCP := Lib.hid (r_copy (w := w0) (N := N) (v := .agg #[.int .i64 m.c, .slice a1 m.q.length k1, .bool m.busy, .slice a2 m.rest.length k2, .int .i64 m.acc, .int .i64 m.w, .int .i64 0]) (m := m) ⟨_, _, (by rw [H_hr'.out]), HQ.out.1.keep HF.out (by simp), HQ.out.2.keep HF.out (by simp)⟩ HB0)
    go_enter Try.func85, Try.ntmps85
    go_wp2_with fail
    refine HCP.out.mono ?_
    rintro e w2 ⟨v2, rfl, f2, u1, u2, e2, o1, o2, hd⟩
    obtain ⟨b1, l1, rfl, _⟩ := o1.formB
    obtain ⟨b2, l2, rfl, _⟩ := o2.formB
    rw [H_hr'.out] at e2
    subst e2
    have HB2 := Lib.hid (show S7 w2 w.heap.size m.c a1 m.q.length k1 m.busy a2 m.rest.length k2 m.acc m.w 0 from f2.keep HB.out (by simp))
    have HZ2 := Lib.hid (show S7 w2 (w.heap.size + 1) 0 none 0 0 false none 0 0 0 0 0 from f2.keep HZ.out (by simp))
    have HF2 := Lib.hid (HF.out.then0 f2)
    clear x0 x1 x2 x3 x4 x5 x6 p0 p1 p2 p3 p4 p5 p6
    obtain ⟨x0, x1, x2, x3, x4, x5, x6, p0, p1, p2, p3, p4, p5, p6⟩ := HB2.out.cells
    have HO1 := Lib.hid o1
    have HO2 := Lib.hid o2
    have HD := Lib.hid hd
    have hz2 := f2.size
    clear o1 o2 hd HCP
    go_wp2_with (refine wpl_store rfl 41 _ _ rfl w.heap.size #[.int .i64 m.c, .slice b1 m.q.length l1, .bool m.busy, .slice b2 m.rest.length l2, .int .i64 m.acc, .int .i64 m.w, .int .i64 0] (by rfl) (by rfl) _ _ HB2.out (by kernel_rfl) rfl (by simp [Value.oneCell']) ?_)
    intro w3 f3 q3
    have q3' : S7 w3 w.heap.size m.c b1 m.q.length l1 m.busy b2 m.rest.length l2 m.acc m.w 0 := q3
    clear x0 x1 x2 x3 x4 x5 x6 p0 p1 p2 p3 p4 p5 p6
    obtain ⟨x0, x1, x2, x3, x4, x5, x6, p0, p1, p2, p3, p4, p5, p6⟩ := q3'.cells
    have HZ3 := Lib.hid (show S7 w3 (w.heap.size + 1) 0 none 0 0 false none 0 0 0 0 0 from f3.keep HZ2.out (by simp))
    have HF3 := Lib.hid (Fr.trans (U := []) (S := []) HF2.out f3 (by simp) (fun x hx => .inr (by simp at hx; omega)))
    have HO13 := Lib.hid (HO1.out.keep f3 (fun k e hm => by have := (HO1.out.lt k e).1; simp at hm; omega))
    have HO23 := Lib.hid (HO2.out.keep f3 (fun k e hm => by have := (HO2.out.lt k e).1; simp at hm; omega))
    have HB3 := Lib.hid q3'
    have hz3 := f3.size
    clear q3 q3' f3 HB2 HZ2 HF2 HO1 HO2
    obtain ⟨g, c1, hgv, hgc, _⟩ := HO13.out.row (by have := List.length_pos_iff.2 h4; simpa [bi_length] using this)
    injection hgv with hg1 hg2 hg3
    clear hg2
    subst hg1 hg3
    have hgc' : m.q.length ≤ l1 := by simpa [bi_length] using hgc
    have hq0 : (0 : Int) < m.q.length := by have := List.length_pos_iff.2 h4; omega
    have hrunA : ∀ w', (Instr.slice 29 (.slice (some ⟨g, 0, none⟩) m.q.length l1) none (some (.int .i64 k)) (some (.int .i64 k))).run Try.prog w' = .ok (.slice (some ⟨g, 0, none⟩) k k) w' := fun w' => run_capk (by omega) w'
    obtain ⟨w4, hw4, f4, q4⟩ : ∃ W, w3.setCell ⟨w.heap.size, 1, none⟩ (.slice (if l1 = k then (some ⟨g, 0, none⟩ : Option Addr) else some ⟨g, k, none⟩) (m.q.length - k) (l1 - k)) = W ∧ Fr [w.heap.size] w3 W ∧ W.heap[w.heap.size]? = some (.cells #[.int .i64 m.c, .slice (if l1 = k then (some ⟨g, 0, none⟩ : Option Addr) else some ⟨g, k, none⟩) (m.q.length - k) (l1 - k), .bool m.busy, .slice b2 m.rest.length l2, .int .i64 m.acc, .int .i64 m.w, .int .i64 0] 41 (0, 0)) := ⟨_, rfl, Fr.setCell (p := ⟨w.heap.size, 1, none⟩) (Fr.refl _ _) (.inl (by simp)) _, (by have hx := heap_setCell_eq (i := 1) (u := .slice (if l1 = k then (some ⟨g, 0, none⟩ : Option Addr) else some ⟨g, k, none⟩) (m.q.length - k) (l1 - k)) HB3.out; simpa [S7] using hx)⟩
    have u0 : w4.cell? ⟨w.heap.size, 0, none⟩ = some (.int .i64 m.c) := cell_of q4
    have u1 : w4.cell? ⟨w.heap.size, 1, none⟩ = some (.slice (if l1 = k then (some ⟨g, 0, none⟩ : Option Addr) else some ⟨g, k, none⟩) (m.q.length - k) (l1 - k)) := cell_of q4
    have u2 : w4.cell? ⟨w.heap.size, 2, none⟩ = some (.bool m.busy) := cell_of q4
    have u3 : w4.cell? ⟨w.heap.size, 3, none⟩ = some (.slice b2 m.rest.length l2) := cell_of q4
    have u4 : w4.cell? ⟨w.heap.size, 4, none⟩ = some (.int .i64 m.acc) := cell_of q4
    have u5 : w4.cell? ⟨w.heap.size, 5, none⟩ = some (.int .i64 m.w) := cell_of q4
    have u6 : w4.cell? ⟨w.heap.size, 6, none⟩ = some (.int .i64 0) := cell_of q4
    have HZS := Lib.hid (show S7 w4 (w.heap.size + 1) 0 none 0 0 false none 0 0 0 0 0 from HZ3.out.keep7 f4)
    have HFS := Lib.hid (show Fr [] w w4 from HF3.out.trans f4 (by simp) (fun x hx => .inr (by simp at hx; omega)))
    have HP1 := Lib.hid (PartV.ofOw (HO13.out.keep f4 (fun k e hm => by have := (HO13.out.lt k e).1; simp at hm; omega)))
    have HP2 := Lib.hid (PartV.ofOw (HO23.out.keep f4 (fun k e hm => by have := (HO23.out.lt k e).1; simp at hm; omega)))
    have hz4 := f4.size
    have hcv : cutp (some ⟨g, 0, none⟩) l1 k = (if l1 = k then (some ⟨g, 0, none⟩ : Option Addr) else some ⟨g, k, none⟩) := by unfold cutp; split <;> simp [Addr.add]; omega
    have hpc := HP1.out.cutk hkq
    rw [hcv] at hpc
    have HPC := Lib.hid hpc
    have HPH := Lib.hid (HP1.out.headk hkq)
    have HFI := Lib.hid (r_fill (w := w4) (N := fun _ => True) (v := .agg #[.int .i64 m.c, .slice (if l1 = k then (some ⟨g, 0, none⟩ : Option Addr) else some ⟨g, k, none⟩) (m.q.length - k) (l1 - k), .bool m.busy, .slice b2 m.rest.length l2, .int .i64 m.acc, .int .i64 m.w, .int .i64 0]) (m := ({ m with q := m.q.drop k } : SM)) ⟨_, _, (by rw [H_hr'.out]), HPC.out.mono (fun _ _ => trivial), HP2.out.mono (fun _ _ => trivial)⟩ ⟨by rw [List.length_drop]; have := HB0.1; omega, HB0.2⟩ HA0)
    rw [hmf] at HFI
    have HKQ := Lib.hid hkq
    clear hmf hpc hcv htk hdk h4 q4 f4
    skip
    go_upto_region 12 with fail
    generalize (if l1 = k then (some ⟨g, 0, none⟩ : Option Addr) else some ⟨g, k, none⟩) = cc at *
    clear hw4 hrunA hmin
    go_wp2_with fail
    refine HFI.out.mono ?_
    rintro e w5 ⟨v5, rfl, f5, u3, u4', rfl, hp3, hp4⟩
    obtain ⟨a3, k3, rfl, _⟩ := id hp3
    obtain ⟨a4, k4, rfl, _⟩ := id hp4
    have HZ5 := Lib.hid (show S7 w5 (w.heap.size + 1) 0 none 0 0 false none 0 0 0 0 0 from f5.keep HZS.out (by simp))
    have HF5 := Lib.hid (HFS.out.then0 f5)
    have HP3 := Lib.hid hp3
    have HP4 := Lib.hid hp4
    have HPU := Lib.hid (HPH.out.keep f5 (by simp))
    have hz5 := f5.size
    clear hp3 hp4 HZS HFS
    have HZS := HZ5
    have HFS := HF5
    go_wp2_with (refine wpl_store rfl 41 _ _ rfl (w.heap.size + 1) #[.int .i64 mf.c, .slice a3 mf.q.length k3, .bool mf.busy, .slice a4 mf.rest.length k4, .int .i64 mf.acc, .int .i64 mf.w, .int .i64 mf.r] (by rfl) (by rfl) _ _ HZS.out (by kernel_rfl) rfl (by simp [Value.oneCell']) ?_)
    intro wf ff qf
    obtain ⟨y0, y1, y2, y3, y4, y5, y6, _, _, _, _, _, _, _⟩ := S7.cells qf
    clear x0 x1 x2 x3 x4 x5 x6 p0 p1 p2 p3 p4 p5 p6
    go_wp2_with fail
    refine bodyPost_ret (v := .tuple #[.agg #[.int .i64 mf.c, .slice a3 mf.q.length k3, .bool mf.busy, .slice a4 mf.rest.length k4, .int .i64 mf.acc, .int .i64 mf.w, .int .i64 mf.r], .slice (some ⟨g, 0, none⟩) k k, .int .i64 0]) (by simp [results, Try.results85, go_sem, y0, y1, y2, y3, y4, y5, y6]) rfl ?_
    have F : Fr [] w wf := Fr.trans (U := []) (S := []) HFS.out ff (by simp) (fun x hx => .inr (by simp at hx; omega))
    exact ⟨_, _, rfl, F, ⟨_, _, rfl, ((HP3.out).keep ff (by intro x hx hn; simp at hx; have hn' : w4.heap.size ≤ x := hn; omega)).mono (fun x hx => Or.inr (show w.heap.size ≤ x from by have hn' : w4.heap.size ≤ x := hx; omega)), ((HP4.out).keep ff (by intro x hx hn; simp at hx; have hn' : w4.heap.size ≤ x := hn; omega)).mono (fun x hx => Or.inr (show w.heap.size ≤ x from by have hn' : w4.heap.size ≤ x := hx; omega))⟩, (HPU.out.keep ff (by intro x hx hn; simp at hx; have hn' : w0.heap.size ≤ x := hn; omega)).mono (fun x hx => (show w.heap.size ≤ x from by have hn' : w0.heap.size ≤ x := hx; omega))⟩
  have hq00 : m.q = [] := Classical.not_not.1 h4
  by_cases h5 : m.c = 0 ∧ m.busy = true ∧ m.w = 0 ∧ m.rest ≠ []
  · have e : readM m n = ⟨{ m with rest := m.rest.drop n.toNat, acc := m.acc + (min n.toNat m.rest.length : Nat) }, m.rest.take n.toNat, 0⟩ := by unfold readM; rw [if_neg h1, if_neg h2, if_neg h3, if_neg h4, if_pos h5]
    rw [e]
    clear e h1 h2 hq00
    obtain ⟨hc', hb', hw', h5r⟩ := h5
    obtain ⟨k, hmin, hkq, htk, hdk, hk0⟩ : ∃ k : Nat, min n (m.rest.length : Int) = (k : Int) ∧ k ≤ m.rest.length ∧ m.rest.take n.toNat = m.rest.take k ∧ m.rest.drop n.toNat = m.rest.drop k ∧ 0 < k := min_take h1a h3 h5r
    have hmn : min n.toNat m.rest.length = k := by omega
    rw [htk, hdk, hmn]
    rw [hc']
    rw [hb']
    rw [hw']
    rw [hr']
    have H_hc' := Lib.hid hc'
    have H_hb' := Lib.hid hb'
    have H_hw' := Lib.hid hw'
    have H_hr' := Lib.hid hr'
    obtain ⟨w0, hw0, f0, q0, z0⟩ : ∃ W, (w.alloc (.cells #[.int .i64 0, .slice a1 m.q.length k1, .bool true, .slice a2 m.rest.length k2, .int .i64 m.acc, .int .i64 0, .int .i64 0] 41)).alloc (.cells #[.int .i64 0, .slice none 0 0, .bool false, .slice none 0 0, .int .i64 0, .int .i64 0, .int .i64 0] 41) = W ∧ Fr [] w W ∧ S7 W w.heap.size 0 a1 m.q.length k1 true a2 m.rest.length k2 m.acc 0 0 ∧ S7 W (w.heap.size + 1) 0 none 0 0 false none 0 0 0 0 0 := ⟨_, rfl, ((Fr.refl _ _).alloc _).alloc _, keepA (newA rfl), newA (by simp)⟩
    obtain ⟨x0, x1, x2, x3, x4, x5, x6, p0, p1, p2, p3, p4, p5, p6⟩ := q0.cells
    have hz0 : w.heap.size + 1 < w0.heap.size := lt_of_heap z0
    have HZ := Lib.hid z0
    have HF := Lib.hid f0
    have HB := Lib.hid q0
    clear q0 z0 f0
    clear hc' hb' hw' hr'
    have HCP := Lib.hid (r_copy (w := w0) (N := N) (v := .agg #[.int .i64 0, .slice a1 m.q.length k1, .bool true, .slice a2 m.rest.length k2, .int .i64 m.acc, .int .i64 0, .int .i64 0]) (m := m) ⟨_, _, (by rw [H_hc'.out, H_hb'.out, H_hw'.out, H_hr'.out]), HQ.out.1.keep HF.out (by simp), HQ.out.2.keep HF.out (by simp)⟩ HB0)
    go_enter Try.func85, Try.ntmps85
    go_wp2_with fail
    refine HCP.out.mono ?_
    rintro e w2 ⟨v2, rfl, f2, u1, u2, e2, o1, o2, hd⟩
    obtain ⟨b1, l1, rfl, _⟩ := o1.formB
    obtain ⟨b2, l2, rfl, _⟩ := o2.formB
    rw [H_hc'.out, H_hb'.out, H_hw'.out, H_hr'.out] at e2
    subst e2
    have HB2 := Lib.hid (show S7 w2 w.heap.size 0 a1 m.q.length k1 true a2 m.rest.length k2 m.acc 0 0 from f2.keep HB.out (by simp))
    have HZ2 := Lib.hid (show S7 w2 (w.heap.size + 1) 0 none 0 0 false none 0 0 0 0 0 from f2.keep HZ.out (by simp))
    have HF2 := Lib.hid (HF.out.then0 f2)
    clear x0 x1 x2 x3 x4 x5 x6 p0 p1 p2 p3 p4 p5 p6
    obtain ⟨x0, x1, x2, x3, x4, x5, x6, p0, p1, p2, p3, p4, p5, p6⟩ := HB2.out.cells
    have HO1 := Lib.hid o1
    have HO2 := Lib.hid o2
    have HD := Lib.hid hd
    have hz2 := f2.size
    clear o1 o2 hd HCP
    go_wp2_with (refine wpl_store rfl 41 _ _ rfl w.heap.size #[.int .i64 0, .slice b1 m.q.length l1, .bool true, .slice b2 m.rest.length l2, .int .i64 m.acc, .int .i64 0, .int .i64 0] (by rfl) (by rfl) _ _ HB2.out (by kernel_rfl) rfl (by simp [Value.oneCell']) ?_)
    intro w3 f3 q3
    have q3' : S7 w3 w.heap.size 0 b1 m.q.length l1 true b2 m.rest.length l2 m.acc 0 0 := q3
    clear x0 x1 x2 x3 x4 x5 x6 p0 p1 p2 p3 p4 p5 p6
    obtain ⟨x0, x1, x2, x3, x4, x5, x6, p0, p1, p2, p3, p4, p5, p6⟩ := q3'.cells
    have HZ3 := Lib.hid (show S7 w3 (w.heap.size + 1) 0 none 0 0 false none 0 0 0 0 0 from f3.keep HZ2.out (by simp))
    have HF3 := Lib.hid (Fr.trans (U := []) (S := []) HF2.out f3 (by simp) (fun x hx => .inr (by simp at hx; omega)))
    have HO13 := Lib.hid (HO1.out.keep f3 (fun k e hm => by have := (HO1.out.lt k e).1; simp at hm; omega))
    have HO23 := Lib.hid (HO2.out.keep f3 (fun k e hm => by have := (HO2.out.lt k e).1; simp at hm; omega))
    have HB3 := Lib.hid q3'
    have hz3 := f3.size
    clear q3 q3' f3 HB2 HZ2 HF2 HO1 HO2
    obtain ⟨g, c1, hgv, hgc, _⟩ := HO23.out.row (by have := List.length_pos_iff.2 h5r; simpa [bi_length] using this)
    injection hgv with hg1 hg2 hg3
    clear hg2
    subst hg1 hg3
    have hgc' : m.rest.length ≤ l2 := by simpa [bi_length] using hgc
    have hq0 : ¬ (0 : Int) < m.q.length := by rw [Classical.not_not.1 h4]; simp
    have hl0 : (0 : Int) < m.rest.length := by have := List.length_pos_iff.2 h5r; omega
    have hrunA : ∀ w', (Instr.slice 29 (.slice (some ⟨g, 0, none⟩) m.rest.length l2) none (some (.int .i64 k)) (some (.int .i64 k))).run Try.prog w' = .ok (.slice (some ⟨g, 0, none⟩) k k) w' := fun w' => run_capk (by omega) w'
    have HO := Lib.hid (r_open (w := w3) (N := fun _ => True) (v := .agg #[.int .i64 0, .slice b1 m.q.length l1, .bool true, .slice (some ⟨g, 0, none⟩) m.rest.length l2, .int .i64 m.acc, .int .i64 0, .int .i64 0]) (m := m) ⟨_, _, (by rw [H_hc'.out, H_hb'.out, H_hw'.out, H_hr'.out]), (PartV.ofOw HO13.out).mono (fun _ _ => trivial), (PartV.ofOw HO23.out).mono (fun _ _ => trivial)⟩)
    rw [show opM m = true from by unfold opM; rw [H_hw'.out, H_hr'.out]; rfl] at HO
    have HKQ := Lib.hid hkq
    have HTD := Lib.hid (And.intro htk (And.intro hdk hmn))
    clear htk hdk hmn h4 h5r
    go_wp2_with fail
    refine HO.out.mono ?_
    rintro e w4 ⟨rfl, f4⟩
    have HB4 := Lib.hid (show S7 w4 w.heap.size 0 b1 m.q.length l1 true (some ⟨g, 0, none⟩) m.rest.length l2 m.acc 0 0 from f4.keep HB3.out (by simp))
    have HZ4 := Lib.hid (show S7 w4 (w.heap.size + 1) 0 none 0 0 false none 0 0 0 0 0 from f4.keep HZ3.out (by simp))
    have HF4 := Lib.hid (HF3.out.then0 f4)
    have HP1 := Lib.hid (PartV.ofOw (HO13.out.keep f4 (by simp)))
    have HP2 := Lib.hid (PartV.ofOw (HO23.out.keep f4 (by simp)))
    have hz4 := f4.size
    clear x0 x1 x2 x3 x4 x5 x6 p0 p1 p2 p3 p4 p5 p6
    obtain ⟨x0, x1, x2, x3, x4, x5, x6, p0, p1, p2, p3, p4, p5, p6⟩ := HB4.out.cells
    clear HO f4
    obtain ⟨w5, hw5, f5, q5⟩ : ∃ W, w4.setCell ⟨w.heap.size, 3, none⟩ (.slice (if l2 = k then (some ⟨g, 0, none⟩ : Option Addr) else some ⟨g, k, none⟩) (m.rest.length - k) (l2 - k)) = W ∧ Fr [w.heap.size] w4 W ∧ W.heap[w.heap.size]? = some (.cells #[.int .i64 0, .slice b1 m.q.length l1, .bool true, .slice (if l2 = k then (some ⟨g, 0, none⟩ : Option Addr) else some ⟨g, k, none⟩) (m.rest.length - k) (l2 - k), .int .i64 m.acc, .int .i64 0, .int .i64 0] 41 (0, 0)) := ⟨_, rfl, Fr.setCell (p := ⟨w.heap.size, 3, none⟩) (Fr.refl _ _) (.inl (by simp)) _, (by have hx := heap_setCell_eq (i := 3) (u := .slice (if l2 = k then (some ⟨g, 0, none⟩ : Option Addr) else some ⟨g, k, none⟩) (m.rest.length - k) (l2 - k)) HB4.out; simpa [S7] using hx)⟩
    have c5 : w5.cell? ⟨w.heap.size, 4, none⟩ = some (.int .i64 m.acc) := cell_of q5
    have p5 : w5.frozen? ⟨w.heap.size, 4, none⟩ = false := free_of q5
    obtain ⟨w6, hw6, f6, q6⟩ : ∃ W, w5.setCell ⟨w.heap.size, 4, none⟩ (.int .i64 (m.acc + (k : Int))) = W ∧ Fr [w.heap.size] w5 W ∧ W.heap[w.heap.size]? = some (.cells #[.int .i64 0, .slice b1 m.q.length l1, .bool true, .slice (if l2 = k then (some ⟨g, 0, none⟩ : Option Addr) else some ⟨g, k, none⟩) (m.rest.length - k) (l2 - k), .int .i64 (m.acc + (k : Int)), .int .i64 0, .int .i64 0] 41 (0, 0)) := ⟨_, rfl, Fr.setCell (p := ⟨w.heap.size, 4, none⟩) (Fr.refl _ _) (.inl (by simp)) _, (by have hx := heap_setCell_eq (i := 4) (u := .int .i64 (m.acc + (k : Int))) q5; simpa using hx)⟩
    have u0 : w6.cell? ⟨w.heap.size, 0, none⟩ = some (.int .i64 0) := cell_of q6
    have u1 : w6.cell? ⟨w.heap.size, 1, none⟩ = some (.slice b1 m.q.length l1) := cell_of q6
    have u2 : w6.cell? ⟨w.heap.size, 2, none⟩ = some (.bool true) := cell_of q6
    have u3 : w6.cell? ⟨w.heap.size, 3, none⟩ = some (.slice (if l2 = k then (some ⟨g, 0, none⟩ : Option Addr) else some ⟨g, k, none⟩) (m.rest.length - k) (l2 - k)) := cell_of q6
    have u4 : w6.cell? ⟨w.heap.size, 4, none⟩ = some (.int .i64 (m.acc + (k : Int))) := cell_of q6
    have u5 : w6.cell? ⟨w.heap.size, 5, none⟩ = some (.int .i64 0) := cell_of q6
    have u6 : w6.cell? ⟨w.heap.size, 6, none⟩ = some (.int .i64 0) := cell_of q6
    have f46 : Fr [w.heap.size] w4 w6 := f5.trans f6 (fun _ h => .inl h) (fun x hx => .inl hx)
    have HZS := Lib.hid (show S7 w6 (w.heap.size + 1) 0 none 0 0 false none 0 0 0 0 0 from HZ4.out.keep7 f46)
    have HFS := Lib.hid (show Fr [] w w6 from HF4.out.trans f46 (by simp) (fun x hx => .inr (by simp at hx; omega)))
    have HP61 := Lib.hid (HP1.out.keep f46 (by intro x hx hn; simp at hx; have hn' : w0.heap.size ≤ x := hn; omega))
    have HP62 := Lib.hid (HP2.out.keep f46 (by intro x hx hn; simp at hx; have hn' : w0.heap.size ≤ x := hn; omega))
    have hz6 := f46.size
    have hcv : cutp (some ⟨g, 0, none⟩) l2 k = (if l2 = k then (some ⟨g, 0, none⟩ : Option Addr) else some ⟨g, k, none⟩) := by unfold cutp; split <;> simp [Addr.add]; omega
    have hpc := HP62.out.cutk hkq
    rw [hcv] at hpc
    have HPC := Lib.hid hpc
    have HPH := Lib.hid (HP62.out.headk hkq)
    have hwr : IntKind.i64.wrap (m.acc + (k : Int)) = m.acc + (k : Int) := IntWalk.i64_in _ (by have := HA0; have := HB0.2; omega)
    clear hpc hcv q5 q6 f5 f6 f46
    go_upto_region 18 with fail
    generalize (if l2 = k then (some ⟨g, 0, none⟩ : Option Addr) else some ⟨g, k, none⟩) = cc at *
    clear hw5 hw6 hrunA hmin c5 p5
    go_wp2_with (refine wpl_store rfl 41 _ _ rfl (w.heap.size + 1) #[.int .i64 0, .slice b1 m.q.length l1, .bool true, .slice cc (m.rest.length - k) (l2 - k), .int .i64 (m.acc + (k : Int)), .int .i64 0, .int .i64 0] (by rfl) (by rfl) _ _ HZS.out (by kernel_rfl) rfl (by simp [Value.oneCell']) ?_)
    intro wf ff qf
    obtain ⟨y0, y1, y2, y3, y4, y5, y6, _, _, _, _, _, _, _⟩ := S7.cells qf
    clear x0 x1 x2 x3 x4 x5 x6 p0 p1 p2 p3 p4 p5 p6
    go_wp2_with fail
    refine bodyPost_ret (v := .tuple #[.agg #[.int .i64 0, .slice b1 m.q.length l1, .bool true, .slice cc (m.rest.length - k) (l2 - k), .int .i64 (m.acc + (k : Int)), .int .i64 0, .int .i64 0], .slice (some ⟨g, 0, none⟩) k k, .int .i64 0]) (by simp [results, Try.results85, go_sem, y0, y1, y2, y3, y4, y5, y6]) rfl ?_
    have F : Fr [] w wf := Fr.trans (U := []) (S := []) HFS.out ff (by simp) (fun x hx => .inr (by simp at hx; omega))
    exact ⟨_, _, rfl, F, ⟨_, _, (by first | rfl | simp only [H_hc'.out, H_hb'.out, H_hw'.out, H_hr'.out]), ((HP61.out).keep ff (by intro x hx hn; simp at hx; have hn' : w0.heap.size ≤ x := hn; omega)).mono (fun x hx => Or.inr (show w.heap.size ≤ x from by have hn' : w0.heap.size ≤ x := hx; omega)), ((HPC.out).keep ff (by intro x hx hn; simp at hx; have hn' : w0.heap.size ≤ x := hn; omega)).mono (fun x hx => Or.inr (show w.heap.size ≤ x from by have hn' : w0.heap.size ≤ x := hx; omega))⟩, ((HPH.out).keep ff (by intro x hx hn; simp at hx; have hn' : w0.heap.size ≤ x := hn; omega)).mono (fun x hx => (show w.heap.size ≤ x from by have hn' : w0.heap.size ≤ x := hx; omega))⟩
  by_cases hc : m.c ≠ 0
  · skip
    by_cases hw : m.w ≠ 0
    · have e : readM m n = ⟨m, [], m.w⟩ := by unfold readM; rw [if_neg h1, if_neg h2, if_neg h3, if_neg h4, if_neg h5, if_pos hw]
      rw [e]
      clear e
      have hq0 : ¬ (0 : Int) < m.q.length := by rw [hq00]; simp
      have HQ00 := Lib.hid hq0
      clear hq00 hq0
      clear h1 h2 h4 h5
      rw [hr']
      have H_hr' := Lib.hid hr'
      obtain ⟨w0, hw0, f0, q0, z0⟩ : ∃ W, (w.alloc (.cells #[.int .i64 m.c, .slice a1 m.q.length k1, .bool m.busy, .slice a2 m.rest.length k2, .int .i64 m.acc, .int .i64 m.w, .int .i64 0] 41)).alloc (.cells #[.int .i64 0, .slice none 0 0, .bool false, .slice none 0 0, .int .i64 0, .int .i64 0, .int .i64 0] 41) = W ∧ Fr [] w W ∧ S7 W w.heap.size m.c a1 m.q.length k1 m.busy a2 m.rest.length k2 m.acc m.w 0 ∧ S7 W (w.heap.size + 1) 0 none 0 0 false none 0 0 0 0 0 := ⟨_, rfl, ((Fr.refl _ _).alloc _).alloc _, keepA (newA rfl), newA (by simp)⟩
      obtain ⟨x0, x1, x2, x3, x4, x5, x6, p0, p1, p2, p3, p4, p5, p6⟩ := q0.cells
      have hz0 : w.heap.size + 1 < w0.heap.size := lt_of_heap z0
      have HZ := Lib.hid z0
      have HF := Lib.hid f0
      have HB := Lib.hid q0
      clear q0 z0 f0
      clear hr'
      have HCP := Lib.hid (r_copy (w := w0) (N := N) (v := .agg #[.int .i64 m.c, .slice a1 m.q.length k1, .bool m.busy, .slice a2 m.rest.length k2, .int .i64 m.acc, .int .i64 m.w, .int .i64 0]) (m := m) ⟨_, _, (by rw [H_hr'.out]), HQ.out.1.keep HF.out (by simp), HQ.out.2.keep HF.out (by simp)⟩ HB0)
      go_enter Try.func85, Try.ntmps85
      go_wp2_with fail
      refine HCP.out.mono ?_
      rintro e w2 ⟨v2, rfl, f2, u1, u2, e2, o1, o2, hd⟩
      obtain ⟨b1, l1, rfl, _⟩ := o1.formB
      obtain ⟨b2, l2, rfl, _⟩ := o2.formB
      rw [H_hr'.out] at e2
      subst e2
      have HB2 := Lib.hid (show S7 w2 w.heap.size m.c a1 m.q.length k1 m.busy a2 m.rest.length k2 m.acc m.w 0 from f2.keep HB.out (by simp))
      have HZ2 := Lib.hid (show S7 w2 (w.heap.size + 1) 0 none 0 0 false none 0 0 0 0 0 from f2.keep HZ.out (by simp))
      have HF2 := Lib.hid (HF.out.then0 f2)
      clear x0 x1 x2 x3 x4 x5 x6 p0 p1 p2 p3 p4 p5 p6
      obtain ⟨x0, x1, x2, x3, x4, x5, x6, p0, p1, p2, p3, p4, p5, p6⟩ := HB2.out.cells
      have HO1 := Lib.hid o1
      have HO2 := Lib.hid o2
      have HD := Lib.hid hd
      have hz2 := f2.size
      clear o1 o2 hd HCP
      go_wp2_with (refine wpl_store rfl 41 _ _ rfl w.heap.size #[.int .i64 m.c, .slice b1 m.q.length l1, .bool m.busy, .slice b2 m.rest.length l2, .int .i64 m.acc, .int .i64 m.w, .int .i64 0] (by rfl) (by rfl) _ _ HB2.out (by kernel_rfl) rfl (by simp [Value.oneCell']) ?_)
      intro w3 f3 q3
      have q3' : S7 w3 w.heap.size m.c b1 m.q.length l1 m.busy b2 m.rest.length l2 m.acc m.w 0 := q3
      clear x0 x1 x2 x3 x4 x5 x6 p0 p1 p2 p3 p4 p5 p6
      obtain ⟨x0, x1, x2, x3, x4, x5, x6, p0, p1, p2, p3, p4, p5, p6⟩ := q3'.cells
      have HZ3 := Lib.hid (show S7 w3 (w.heap.size + 1) 0 none 0 0 false none 0 0 0 0 0 from f3.keep HZ2.out (by simp))
      have HF3 := Lib.hid (Fr.trans (U := []) (S := []) HF2.out f3 (by simp) (fun x hx => .inr (by simp at hx; omega)))
      have HO13 := Lib.hid (HO1.out.keep f3 (fun k e hm => by have := (HO1.out.lt k e).1; simp at hm; omega))
      have HO23 := Lib.hid (HO2.out.keep f3 (fun k e hm => by have := (HO2.out.lt k e).1; simp at hm; omega))
      have HB3 := Lib.hid q3'
      have hz3 := f3.size
      clear q3 q3' f3 HB2 HZ2 HF2 HO1 HO2
      have hq0 := HQ00.out
      have HZS := HZ3
      have HFS := HF3
      have P1 := Lib.hid (PartV.ofOw HO13.out)
      have P2 := Lib.hid (PartV.ofOw HO23.out)
      have HBB := HB3
      obtain ⟨wz, hwz⟩ : ∃ W, W = w3 := ⟨_, rfl⟩
      subst hwz
      have HFA := Lib.hid fun (w' : World) (f : S7 w' w.heap.size m.c b1 m.q.length l1 m.busy b2 m.rest.length l2 m.acc m.w 0) => (show w'.cell? ⟨w.heap.size, 0, none⟩ = some (.int .i64 m.c) ∧ w'.cell? ⟨w.heap.size, 1, none⟩ = some (.slice b1 m.q.length l1) ∧ w'.cell? ⟨w.heap.size, 2, none⟩ = some (.bool m.busy) ∧ w'.cell? ⟨w.heap.size, 3, none⟩ = some (.slice b2 m.rest.length l2) ∧ w'.cell? ⟨w.heap.size, 4, none⟩ = some (.int .i64 m.acc) ∧ w'.cell? ⟨w.heap.size, 5, none⟩ = some (.int .i64 m.w) ∧ w'.cell? ⟨w.heap.size, 6, none⟩ = some (.int .i64 0) from (let q := S7.cells f; ⟨q.1, q.2.1, q.2.2.1, q.2.2.2.1, q.2.2.2.2.1, q.2.2.2.2.2.1, q.2.2.2.2.2.2.1⟩))
      go_wp2_with fail
      have fd : Fr [] wz wz.drew := (Fr.refl _ _).drew
      replace HZS := Lib.hid (show S7 wz.drew (w.heap.size + 1) 0 none 0 0 false none 0 0 0 0 0 from fd.keep HZS.out (by simp))
      refine wp_region_order [(0, true), (1, true), (2, true), (3, false), (4, true), (5, true)] (fun w' => S7 w' w.heap.size m.c b1 m.q.length l1 m.busy b2 m.rest.length l2 m.acc m.w 0) (by kernel_rfl) (by kernel_rfl) (fd.keep HBB.out (by simp)) ?_
      intro OPS HOPS
      have hops := HOPS.out
      try simp only [List.append_eq, List.cons_append, List.nil_append] at hops
      replace HOPS := Lib.hid hops
      clear hops
      refine walkO_take (o := _) (v := ?_) (by rw [HOPS.out]; simp only [gA, gB, gC]; exact rfl) (Or.inl ⟨rfl, ?_⟩) ?_
      rotate_left
      · (intro w hSw; have hSx := HFA.out _ hSw; (try dsimp only at hSx); clear hSw; go_simp) <;> (with_reducible rfl)
      simp only [Act.put, gD, gE, gF]
      refine walkO_take (o := _) (v := ?_) (by rw [HOPS.out]; simp only [gA, gB, gC]; exact rfl) (Or.inl ⟨rfl, ?_⟩) ?_
      rotate_left
      · (intro w hSw; have hSx := HFA.out _ hSw; (try dsimp only at hSx); clear hSw; go_simp) <;> (with_reducible rfl)
      simp only [Act.put, gD, gE, gF]
      refine walkO_take (o := _) (v := ?_) (by rw [HOPS.out]; simp only [gA, gB, gC]; exact rfl) (Or.inl ⟨rfl, ?_⟩) ?_
      rotate_left
      · (intro w hSw; have hSx := HFA.out _ hSw; (try dsimp only at hSx); clear hSw; go_simp) <;> (with_reducible rfl)
      simp only [Act.put, gD, gE, gF]
      refine walkO_call (o := _) (by rw [HOPS.out]; simp only [gA, gB, gC]; exact rfl) (fun K HK => ?_)
      refine step_store7 rfl 41 (.tmp 4) (.tmp 91) rfl (w.heap.size + 1) #[.int .i64 m.c, .slice b1 m.q.length l1, .bool m.busy, .slice b2 m.rest.length l2, .int .i64 m.acc, .int .i64 m.w, .int .i64 0] (by simp [Act.eval]) (by simp [Act.eval]) _ _ HZS.out (by kernel_rfl) rfl (by simp [Value.oneCell']) ?_
      intro wf ff qf
      obtain ⟨y0, y1, y2, y3, y4, y5, y6, _, _, _, _, _, _, _⟩ := S7.cells qf
      refine HK.out (fun w' => S7 w' w.heap.size m.c b1 m.q.length l1 m.busy b2 m.rest.length l2 m.acc m.w 0) _ _ (fun _ h => h) (ff.keep (fd.keep HBB.out (by simp)) (by simp)) ?_
      clear HK K
      try simp only [Act.put, gD, gE, gF]
      refine walkO_take (o := _) (v := ?_) (by rw [HOPS.out]; simp only [gA, gB, gC]; exact rfl) (Or.inl ⟨rfl, ?_⟩) ?_
      rotate_left
      · (intro w hSw; have hSx := HFA.out _ hSw; (try dsimp only at hSx); clear hSw; go_simp) <;> (with_reducible rfl)
      simp only [Act.put, gD, gE, gF]
      refine walkO_take (o := _) (v := ?_) (by rw [HOPS.out]; simp only [gA, gB, gC]; exact rfl) (Or.inl ⟨rfl, ?_⟩) ?_
      rotate_left
      · (intro w hSw; have hSx := HFA.out _ hSw; (try dsimp only at hSx); clear hSw; go_simp) <;> (with_reducible rfl)
      simp only [Act.put, gD, gE, gF]
      refine walkO_done ?_
      clear HOPS OPS
      clear x0 x1 x2 x3 x4 x5 x6 p0 p1 p2 p3 p4 p5 p6
      go_wp2_with fail
      refine bodyPost_ret (v := .tuple #[.agg #[.int .i64 m.c, .slice b1 m.q.length l1, .bool m.busy, .slice b2 m.rest.length l2, .int .i64 m.acc, .int .i64 m.w, .int .i64 0], .slice none 0 0, .int .i64 m.w]) (by simp [results, Try.results85, go_sem, y0, y1, y2, y3, y4, y5, y6]) rfl ?_
      have P1' := Lib.hid (P1.out.keep fd (by simp))
      have P2' := Lib.hid (P2.out.keep fd (by simp))
      have F : Fr [] w wf := Fr.trans (U := []) (S := []) (HFS.out.then0 fd) ff (by simp) (fun x hx => .inr (by simp at hx; omega))
      exact ⟨_, _, rfl, F, ⟨_, _, (by first | rfl | simp only [H_hr'.out]), ((P1'.out).keep ff (by intro x hx hn; simp at hx; have hn' : w0.heap.size ≤ x := hn; omega)).mono (fun x hx => Or.inr (show w.heap.size ≤ x from by have hn' : w0.heap.size ≤ x := hx; omega)), ((P2'.out).keep ff (by intro x hx hn; simp at hx; have hn' : w0.heap.size ≤ x := hn; omega)).mono (fun x hx => Or.inr (show w.heap.size ≤ x from by have hn' : w0.heap.size ≤ x := hx; omega))⟩, PartV.nil _ _⟩
    · have hw' : m.w = 0 := by omega
      have e : readM m n = ⟨m, [], 16⟩ := by unfold readM; rw [if_neg h1, if_neg h2, if_neg h3, if_neg h4, if_neg h5, if_neg (by rw [hw']; simp)]
      clear hw
      skip
      rw [e]
      clear e
      have hq0 : ¬ (0 : Int) < m.q.length := by rw [hq00]; simp
      have HQ00 := Lib.hid hq0
      clear hq00 hq0
      clear h1 h2 h4 h5
      rw [hr']
      rw [hw']
      have H_hr' := Lib.hid hr'
      have H_hw' := Lib.hid hw'
      obtain ⟨w0, hw0, f0, q0, z0⟩ : ∃ W, (w.alloc (.cells #[.int .i64 m.c, .slice a1 m.q.length k1, .bool m.busy, .slice a2 m.rest.length k2, .int .i64 m.acc, .int .i64 0, .int .i64 0] 41)).alloc (.cells #[.int .i64 0, .slice none 0 0, .bool false, .slice none 0 0, .int .i64 0, .int .i64 0, .int .i64 0] 41) = W ∧ Fr [] w W ∧ S7 W w.heap.size m.c a1 m.q.length k1 m.busy a2 m.rest.length k2 m.acc 0 0 ∧ S7 W (w.heap.size + 1) 0 none 0 0 false none 0 0 0 0 0 := ⟨_, rfl, ((Fr.refl _ _).alloc _).alloc _, keepA (newA rfl), newA (by simp)⟩
      obtain ⟨x0, x1, x2, x3, x4, x5, x6, p0, p1, p2, p3, p4, p5, p6⟩ := q0.cells
      have hz0 : w.heap.size + 1 < w0.heap.size := lt_of_heap z0
      have HZ := Lib.hid z0
      have HF := Lib.hid f0
      have HB := Lib.hid q0
      clear q0 z0 f0
      clear hr' hw'
      have HCP := Lib.hid (r_copy (w := w0) (N := N) (v := .agg #[.int .i64 m.c, .slice a1 m.q.length k1, .bool m.busy, .slice a2 m.rest.length k2, .int .i64 m.acc, .int .i64 0, .int .i64 0]) (m := m) ⟨_, _, (by rw [H_hr'.out, H_hw'.out]), HQ.out.1.keep HF.out (by simp), HQ.out.2.keep HF.out (by simp)⟩ HB0)
      go_enter Try.func85, Try.ntmps85
      go_wp2_with fail
      refine HCP.out.mono ?_
      rintro e w2 ⟨v2, rfl, f2, u1, u2, e2, o1, o2, hd⟩
      obtain ⟨b1, l1, rfl, _⟩ := o1.formB
      obtain ⟨b2, l2, rfl, _⟩ := o2.formB
      rw [H_hr'.out, H_hw'.out] at e2
      subst e2
      have HB2 := Lib.hid (show S7 w2 w.heap.size m.c a1 m.q.length k1 m.busy a2 m.rest.length k2 m.acc 0 0 from f2.keep HB.out (by simp))
      have HZ2 := Lib.hid (show S7 w2 (w.heap.size + 1) 0 none 0 0 false none 0 0 0 0 0 from f2.keep HZ.out (by simp))
      have HF2 := Lib.hid (HF.out.then0 f2)
      clear x0 x1 x2 x3 x4 x5 x6 p0 p1 p2 p3 p4 p5 p6
      obtain ⟨x0, x1, x2, x3, x4, x5, x6, p0, p1, p2, p3, p4, p5, p6⟩ := HB2.out.cells
      have HO1 := Lib.hid o1
      have HO2 := Lib.hid o2
      have HD := Lib.hid hd
      have hz2 := f2.size
      clear o1 o2 hd HCP
      go_wp2_with (refine wpl_store rfl 41 _ _ rfl w.heap.size #[.int .i64 m.c, .slice b1 m.q.length l1, .bool m.busy, .slice b2 m.rest.length l2, .int .i64 m.acc, .int .i64 0, .int .i64 0] (by rfl) (by rfl) _ _ HB2.out (by kernel_rfl) rfl (by simp [Value.oneCell']) ?_)
      intro w3 f3 q3
      have q3' : S7 w3 w.heap.size m.c b1 m.q.length l1 m.busy b2 m.rest.length l2 m.acc 0 0 := q3
      clear x0 x1 x2 x3 x4 x5 x6 p0 p1 p2 p3 p4 p5 p6
      obtain ⟨x0, x1, x2, x3, x4, x5, x6, p0, p1, p2, p3, p4, p5, p6⟩ := q3'.cells
      have HZ3 := Lib.hid (show S7 w3 (w.heap.size + 1) 0 none 0 0 false none 0 0 0 0 0 from f3.keep HZ2.out (by simp))
      have HF3 := Lib.hid (Fr.trans (U := []) (S := []) HF2.out f3 (by simp) (fun x hx => .inr (by simp at hx; omega)))
      have HO13 := Lib.hid (HO1.out.keep f3 (fun k e hm => by have := (HO1.out.lt k e).1; simp at hm; omega))
      have HO23 := Lib.hid (HO2.out.keep f3 (fun k e hm => by have := (HO2.out.lt k e).1; simp at hm; omega))
      have HB3 := Lib.hid q3'
      have hz3 := f3.size
      clear q3 q3' f3 HB2 HZ2 HF2 HO1 HO2
      have hq0 := HQ00.out
      have HZS := HZ3
      have HFS := HF3
      have P1 := Lib.hid (PartV.ofOw HO13.out)
      have P2 := Lib.hid (PartV.ofOw HO23.out)
      have HBB := HB3
      obtain ⟨wz, hwz⟩ : ∃ W, W = w3 := ⟨_, rfl⟩
      subst hwz
      go_wp2_with (refine wpl_store rfl 41 _ _ rfl (w.heap.size + 1) #[.int .i64 m.c, .slice b1 m.q.length l1, .bool m.busy, .slice b2 m.rest.length l2, .int .i64 m.acc, .int .i64 0, .int .i64 0] (by rfl) (by rfl) _ _ HZS.out (by kernel_rfl) rfl (by simp [Value.oneCell']) ?_)
      intro wf ff qf
      obtain ⟨y0, y1, y2, y3, y4, y5, y6, _, _, _, _, _, _, _⟩ := S7.cells qf
      clear x0 x1 x2 x3 x4 x5 x6 p0 p1 p2 p3 p4 p5 p6
      go_wp2_with fail
      refine bodyPost_ret (v := .tuple #[.agg #[.int .i64 m.c, .slice b1 m.q.length l1, .bool m.busy, .slice b2 m.rest.length l2, .int .i64 m.acc, .int .i64 0, .int .i64 0], .slice none 0 0, .int .i64 16]) (by simp [results, Try.results85, go_sem, y0, y1, y2, y3, y4, y5, y6]) rfl ?_
      have F : Fr [] w wf := Fr.trans (U := []) (S := []) HFS.out ff (by simp) (fun x hx => .inr (by simp at hx; omega))
      exact ⟨_, _, rfl, F, ⟨_, _, (by first | rfl | simp only [H_hr'.out, H_hw'.out]), ((P1.out).keep ff (by intro x hx hn; simp at hx; have hn' : w0.heap.size ≤ x := hn; omega)).mono (fun x hx => Or.inr (show w.heap.size ≤ x from by have hn' : w0.heap.size ≤ x := hx; omega)), ((P2.out).keep ff (by intro x hx hn; simp at hx; have hn' : w0.heap.size ≤ x := hn; omega)).mono (fun x hx => Or.inr (show w.heap.size ≤ x from by have hn' : w0.heap.size ≤ x := hx; omega))⟩, PartV.nil _ _⟩
  · have hc' : m.c = 0 := by omega
    clear hc
    by_cases hb : m.busy = false
    · skip
      by_cases hw : m.w ≠ 0
      · have e : readM m n = ⟨m, [], m.w⟩ := by unfold readM; rw [if_neg h1, if_neg h2, if_neg h3, if_neg h4, if_neg h5, if_pos hw]
        rw [e]
        clear e
        have hq0 : ¬ (0 : Int) < m.q.length := by rw [hq00]; simp
        have HQ00 := Lib.hid hq0
        clear hq00 hq0
        clear h1 h2 h4 h5
        rw [hr']
        rw [hc']
        rw [hb]
        have H_hr' := Lib.hid hr'
        have H_hc' := Lib.hid hc'
        have H_hb := Lib.hid hb
        obtain ⟨w0, hw0, f0, q0, z0⟩ : ∃ W, (w.alloc (.cells #[.int .i64 0, .slice a1 m.q.length k1, .bool false, .slice a2 m.rest.length k2, .int .i64 m.acc, .int .i64 m.w, .int .i64 0] 41)).alloc (.cells #[.int .i64 0, .slice none 0 0, .bool false, .slice none 0 0, .int .i64 0, .int .i64 0, .int .i64 0] 41) = W ∧ Fr [] w W ∧ S7 W w.heap.size 0 a1 m.q.length k1 false a2 m.rest.length k2 m.acc m.w 0 ∧ S7 W (w.heap.size + 1) 0 none 0 0 false none 0 0 0 0 0 := ⟨_, rfl, ((Fr.refl _ _).alloc _).alloc _, keepA (newA rfl), newA (by simp)⟩
        obtain ⟨x0, x1, x2, x3, x4, x5, x6, p0, p1, p2, p3, p4, p5, p6⟩ := q0.cells
        have hz0 : w.heap.size + 1 < w0.heap.size := lt_of_heap z0
        have HZ := Lib.hid z0
        have HF := Lib.hid f0
        have HB := Lib.hid q0
        clear q0 z0 f0
        clear hr' hc' hb
        have HCP := Lib.hid (r_copy (w := w0) (N := N) (v := .agg #[.int .i64 0, .slice a1 m.q.length k1, .bool false, .slice a2 m.rest.length k2, .int .i64 m.acc, .int .i64 m.w, .int .i64 0]) (m := m) ⟨_, _, (by rw [H_hr'.out, H_hc'.out, H_hb.out]), HQ.out.1.keep HF.out (by simp), HQ.out.2.keep HF.out (by simp)⟩ HB0)
        go_enter Try.func85, Try.ntmps85
        go_wp2_with fail
        refine HCP.out.mono ?_
        rintro e w2 ⟨v2, rfl, f2, u1, u2, e2, o1, o2, hd⟩
        obtain ⟨b1, l1, rfl, _⟩ := o1.formB
        obtain ⟨b2, l2, rfl, _⟩ := o2.formB
        rw [H_hr'.out, H_hc'.out, H_hb.out] at e2
        subst e2
        have HB2 := Lib.hid (show S7 w2 w.heap.size 0 a1 m.q.length k1 false a2 m.rest.length k2 m.acc m.w 0 from f2.keep HB.out (by simp))
        have HZ2 := Lib.hid (show S7 w2 (w.heap.size + 1) 0 none 0 0 false none 0 0 0 0 0 from f2.keep HZ.out (by simp))
        have HF2 := Lib.hid (HF.out.then0 f2)
        clear x0 x1 x2 x3 x4 x5 x6 p0 p1 p2 p3 p4 p5 p6
        obtain ⟨x0, x1, x2, x3, x4, x5, x6, p0, p1, p2, p3, p4, p5, p6⟩ := HB2.out.cells
        have HO1 := Lib.hid o1
        have HO2 := Lib.hid o2
        have HD := Lib.hid hd
        have hz2 := f2.size
        clear o1 o2 hd HCP
        go_wp2_with (refine wpl_store rfl 41 _ _ rfl w.heap.size #[.int .i64 0, .slice b1 m.q.length l1, .bool false, .slice b2 m.rest.length l2, .int .i64 m.acc, .int .i64 m.w, .int .i64 0] (by rfl) (by rfl) _ _ HB2.out (by kernel_rfl) rfl (by simp [Value.oneCell']) ?_)
        intro w3 f3 q3
        have q3' : S7 w3 w.heap.size 0 b1 m.q.length l1 false b2 m.rest.length l2 m.acc m.w 0 := q3
        clear x0 x1 x2 x3 x4 x5 x6 p0 p1 p2 p3 p4 p5 p6
        obtain ⟨x0, x1, x2, x3, x4, x5, x6, p0, p1, p2, p3, p4, p5, p6⟩ := q3'.cells
        have HZ3 := Lib.hid (show S7 w3 (w.heap.size + 1) 0 none 0 0 false none 0 0 0 0 0 from f3.keep HZ2.out (by simp))
        have HF3 := Lib.hid (Fr.trans (U := []) (S := []) HF2.out f3 (by simp) (fun x hx => .inr (by simp at hx; omega)))
        have HO13 := Lib.hid (HO1.out.keep f3 (fun k e hm => by have := (HO1.out.lt k e).1; simp at hm; omega))
        have HO23 := Lib.hid (HO2.out.keep f3 (fun k e hm => by have := (HO2.out.lt k e).1; simp at hm; omega))
        have HB3 := Lib.hid q3'
        have hz3 := f3.size
        clear q3 q3' f3 HB2 HZ2 HF2 HO1 HO2
        have hq0 := HQ00.out
        have HZS := HZ3
        have HFS := HF3
        have P1 := Lib.hid (PartV.ofOw HO13.out)
        have P2 := Lib.hid (PartV.ofOw HO23.out)
        have HBB := HB3
        obtain ⟨wz, hwz⟩ : ∃ W, W = w3 := ⟨_, rfl⟩
        subst hwz
        have HFA := Lib.hid fun (w' : World) (f : S7 w' w.heap.size 0 b1 m.q.length l1 false b2 m.rest.length l2 m.acc m.w 0) => (show w'.cell? ⟨w.heap.size, 0, none⟩ = some (.int .i64 0) ∧ w'.cell? ⟨w.heap.size, 1, none⟩ = some (.slice b1 m.q.length l1) ∧ w'.cell? ⟨w.heap.size, 2, none⟩ = some (.bool false) ∧ w'.cell? ⟨w.heap.size, 3, none⟩ = some (.slice b2 m.rest.length l2) ∧ w'.cell? ⟨w.heap.size, 4, none⟩ = some (.int .i64 m.acc) ∧ w'.cell? ⟨w.heap.size, 5, none⟩ = some (.int .i64 m.w) ∧ w'.cell? ⟨w.heap.size, 6, none⟩ = some (.int .i64 0) from (let q := S7.cells f; ⟨q.1, q.2.1, q.2.2.1, q.2.2.2.1, q.2.2.2.2.1, q.2.2.2.2.2.1, q.2.2.2.2.2.2.1⟩))
        go_wp2_with fail
        have fd : Fr [] wz wz.drew := (Fr.refl _ _).drew
        replace HZS := Lib.hid (show S7 wz.drew (w.heap.size + 1) 0 none 0 0 false none 0 0 0 0 0 from fd.keep HZS.out (by simp))
        refine wp_region_order [(0, true), (1, true), (2, true), (3, false), (4, true), (5, true)] (fun w' => S7 w' w.heap.size 0 b1 m.q.length l1 false b2 m.rest.length l2 m.acc m.w 0) (by kernel_rfl) (by kernel_rfl) (fd.keep HBB.out (by simp)) ?_
        intro OPS HOPS
        have hops := HOPS.out
        try simp only [List.append_eq, List.cons_append, List.nil_append] at hops
        replace HOPS := Lib.hid hops
        clear hops
        refine walkO_take (o := _) (v := ?_) (by rw [HOPS.out]; simp only [gA, gB, gC]; exact rfl) (Or.inl ⟨rfl, ?_⟩) ?_
        rotate_left
        · (intro w hSw; have hSx := HFA.out _ hSw; (try dsimp only at hSx); clear hSw; go_simp) <;> (with_reducible rfl)
        simp only [Act.put, gD, gE, gF]
        refine walkO_take (o := _) (v := ?_) (by rw [HOPS.out]; simp only [gA, gB, gC]; exact rfl) (Or.inl ⟨rfl, ?_⟩) ?_
        rotate_left
        · (intro w hSw; have hSx := HFA.out _ hSw; (try dsimp only at hSx); clear hSw; go_simp) <;> (with_reducible rfl)
        simp only [Act.put, gD, gE, gF]
        refine walkO_take (o := _) (v := ?_) (by rw [HOPS.out]; simp only [gA, gB, gC]; exact rfl) (Or.inl ⟨rfl, ?_⟩) ?_
        rotate_left
        · (intro w hSw; have hSx := HFA.out _ hSw; (try dsimp only at hSx); clear hSw; go_simp) <;> (with_reducible rfl)
        simp only [Act.put, gD, gE, gF]
        refine walkO_call (o := _) (by rw [HOPS.out]; simp only [gA, gB, gC]; exact rfl) (fun K HK => ?_)
        refine step_store7 rfl 41 (.tmp 4) (.tmp 91) rfl (w.heap.size + 1) #[.int .i64 0, .slice b1 m.q.length l1, .bool false, .slice b2 m.rest.length l2, .int .i64 m.acc, .int .i64 m.w, .int .i64 0] (by simp [Act.eval]) (by simp [Act.eval]) _ _ HZS.out (by kernel_rfl) rfl (by simp [Value.oneCell']) ?_
        intro wf ff qf
        obtain ⟨y0, y1, y2, y3, y4, y5, y6, _, _, _, _, _, _, _⟩ := S7.cells qf
        refine HK.out (fun w' => S7 w' w.heap.size 0 b1 m.q.length l1 false b2 m.rest.length l2 m.acc m.w 0) _ _ (fun _ h => h) (ff.keep (fd.keep HBB.out (by simp)) (by simp)) ?_
        clear HK K
        try simp only [Act.put, gD, gE, gF]
        refine walkO_take (o := _) (v := ?_) (by rw [HOPS.out]; simp only [gA, gB, gC]; exact rfl) (Or.inl ⟨rfl, ?_⟩) ?_
        rotate_left
        · (intro w hSw; have hSx := HFA.out _ hSw; (try dsimp only at hSx); clear hSw; go_simp) <;> (with_reducible rfl)
        simp only [Act.put, gD, gE, gF]
        refine walkO_take (o := _) (v := ?_) (by rw [HOPS.out]; simp only [gA, gB, gC]; exact rfl) (Or.inl ⟨rfl, ?_⟩) ?_
        rotate_left
        · (intro w hSw; have hSx := HFA.out _ hSw; (try dsimp only at hSx); clear hSw; go_simp) <;> (with_reducible rfl)
        simp only [Act.put, gD, gE, gF]
        refine walkO_done ?_
        clear HOPS OPS
        clear x0 x1 x2 x3 x4 x5 x6 p0 p1 p2 p3 p4 p5 p6
        go_wp2_with fail
        refine bodyPost_ret (v := .tuple #[.agg #[.int .i64 0, .slice b1 m.q.length l1, .bool false, .slice b2 m.rest.length l2, .int .i64 m.acc, .int .i64 m.w, .int .i64 0], .slice none 0 0, .int .i64 m.w]) (by simp [results, Try.results85, go_sem, y0, y1, y2, y3, y4, y5, y6]) rfl ?_
        have P1' := Lib.hid (P1.out.keep fd (by simp))
        have P2' := Lib.hid (P2.out.keep fd (by simp))
        have F : Fr [] w wf := Fr.trans (U := []) (S := []) (HFS.out.then0 fd) ff (by simp) (fun x hx => .inr (by simp at hx; omega))
        exact ⟨_, _, rfl, F, ⟨_, _, (by first | rfl | simp only [H_hr'.out, H_hc'.out, H_hb.out]), ((P1'.out).keep ff (by intro x hx hn; simp at hx; have hn' : w0.heap.size ≤ x := hn; omega)).mono (fun x hx => Or.inr (show w.heap.size ≤ x from by have hn' : w0.heap.size ≤ x := hx; omega)), ((P2'.out).keep ff (by intro x hx hn; simp at hx; have hn' : w0.heap.size ≤ x := hn; omega)).mono (fun x hx => Or.inr (show w.heap.size ≤ x from by have hn' : w0.heap.size ≤ x := hx; omega))⟩, PartV.nil _ _⟩
      · have hw' : m.w = 0 := by omega
        have e : readM m n = ⟨m, [], 16⟩ := by unfold readM; rw [if_neg h1, if_neg h2, if_neg h3, if_neg h4, if_neg h5, if_neg (by rw [hw']; simp)]
        clear hw
        skip
        rw [e]
        clear e
        have hq0 : ¬ (0 : Int) < m.q.length := by rw [hq00]; simp
        have HQ00 := Lib.hid hq0
        clear hq00 hq0
        clear h1 h2 h4 h5
        rw [hr']
        rw [hc']
        rw [hb]
        rw [hw']
        have H_hr' := Lib.hid hr'
        have H_hc' := Lib.hid hc'
        have H_hb := Lib.hid hb
        have H_hw' := Lib.hid hw'
        obtain ⟨w0, hw0, f0, q0, z0⟩ : ∃ W, (w.alloc (.cells #[.int .i64 0, .slice a1 m.q.length k1, .bool false, .slice a2 m.rest.length k2, .int .i64 m.acc, .int .i64 0, .int .i64 0] 41)).alloc (.cells #[.int .i64 0, .slice none 0 0, .bool false, .slice none 0 0, .int .i64 0, .int .i64 0, .int .i64 0] 41) = W ∧ Fr [] w W ∧ S7 W w.heap.size 0 a1 m.q.length k1 false a2 m.rest.length k2 m.acc 0 0 ∧ S7 W (w.heap.size + 1) 0 none 0 0 false none 0 0 0 0 0 := ⟨_, rfl, ((Fr.refl _ _).alloc _).alloc _, keepA (newA rfl), newA (by simp)⟩
        obtain ⟨x0, x1, x2, x3, x4, x5, x6, p0, p1, p2, p3, p4, p5, p6⟩ := q0.cells
        have hz0 : w.heap.size + 1 < w0.heap.size := lt_of_heap z0
        have HZ := Lib.hid z0
        have HF := Lib.hid f0
        have HB := Lib.hid q0
        clear q0 z0 f0
        clear hr' hc' hb hw'
        have HCP := Lib.hid (r_copy (w := w0) (N := N) (v := .agg #[.int .i64 0, .slice a1 m.q.length k1, .bool false, .slice a2 m.rest.length k2, .int .i64 m.acc, .int .i64 0, .int .i64 0]) (m := m) ⟨_, _, (by rw [H_hr'.out, H_hc'.out, H_hb.out, H_hw'.out]), HQ.out.1.keep HF.out (by simp), HQ.out.2.keep HF.out (by simp)⟩ HB0)
        go_enter Try.func85, Try.ntmps85
        go_wp2_with fail
        refine HCP.out.mono ?_
        rintro e w2 ⟨v2, rfl, f2, u1, u2, e2, o1, o2, hd⟩
        obtain ⟨b1, l1, rfl, _⟩ := o1.formB
        obtain ⟨b2, l2, rfl, _⟩ := o2.formB
        rw [H_hr'.out, H_hc'.out, H_hb.out, H_hw'.out] at e2
        subst e2
        have HB2 := Lib.hid (show S7 w2 w.heap.size 0 a1 m.q.length k1 false a2 m.rest.length k2 m.acc 0 0 from f2.keep HB.out (by simp))
        have HZ2 := Lib.hid (show S7 w2 (w.heap.size + 1) 0 none 0 0 false none 0 0 0 0 0 from f2.keep HZ.out (by simp))
        have HF2 := Lib.hid (HF.out.then0 f2)
        clear x0 x1 x2 x3 x4 x5 x6 p0 p1 p2 p3 p4 p5 p6
        obtain ⟨x0, x1, x2, x3, x4, x5, x6, p0, p1, p2, p3, p4, p5, p6⟩ := HB2.out.cells
        have HO1 := Lib.hid o1
        have HO2 := Lib.hid o2
        have HD := Lib.hid hd
        have hz2 := f2.size
        clear o1 o2 hd HCP
        go_wp2_with (refine wpl_store rfl 41 _ _ rfl w.heap.size #[.int .i64 0, .slice b1 m.q.length l1, .bool false, .slice b2 m.rest.length l2, .int .i64 m.acc, .int .i64 0, .int .i64 0] (by rfl) (by rfl) _ _ HB2.out (by kernel_rfl) rfl (by simp [Value.oneCell']) ?_)
        intro w3 f3 q3
        have q3' : S7 w3 w.heap.size 0 b1 m.q.length l1 false b2 m.rest.length l2 m.acc 0 0 := q3
        clear x0 x1 x2 x3 x4 x5 x6 p0 p1 p2 p3 p4 p5 p6
        obtain ⟨x0, x1, x2, x3, x4, x5, x6, p0, p1, p2, p3, p4, p5, p6⟩ := q3'.cells
        have HZ3 := Lib.hid (show S7 w3 (w.heap.size + 1) 0 none 0 0 false none 0 0 0 0 0 from f3.keep HZ2.out (by simp))
        have HF3 := Lib.hid (Fr.trans (U := []) (S := []) HF2.out f3 (by simp) (fun x hx => .inr (by simp at hx; omega)))
        have HO13 := Lib.hid (HO1.out.keep f3 (fun k e hm => by have := (HO1.out.lt k e).1; simp at hm; omega))
        have HO23 := Lib.hid (HO2.out.keep f3 (fun k e hm => by have := (HO2.out.lt k e).1; simp at hm; omega))
        have HB3 := Lib.hid q3'
        have hz3 := f3.size
        clear q3 q3' f3 HB2 HZ2 HF2 HO1 HO2
        have hq0 := HQ00.out
        have HZS := HZ3
        have HFS := HF3
        have P1 := Lib.hid (PartV.ofOw HO13.out)
        have P2 := Lib.hid (PartV.ofOw HO23.out)
        have HBB := HB3
        obtain ⟨wz, hwz⟩ : ∃ W, W = w3 := ⟨_, rfl⟩
        subst hwz
        go_wp2_with (refine wpl_store rfl 41 _ _ rfl (w.heap.size + 1) #[.int .i64 0, .slice b1 m.q.length l1, .bool false, .slice b2 m.rest.length l2, .int .i64 m.acc, .int .i64 0, .int .i64 0] (by rfl) (by rfl) _ _ HZS.out (by kernel_rfl) rfl (by simp [Value.oneCell']) ?_)
        intro wf ff qf
        obtain ⟨y0, y1, y2, y3, y4, y5, y6, _, _, _, _, _, _, _⟩ := S7.cells qf
        clear x0 x1 x2 x3 x4 x5 x6 p0 p1 p2 p3 p4 p5 p6
        go_wp2_with fail
        refine bodyPost_ret (v := .tuple #[.agg #[.int .i64 0, .slice b1 m.q.length l1, .bool false, .slice b2 m.rest.length l2, .int .i64 m.acc, .int .i64 0, .int .i64 0], .slice none 0 0, .int .i64 16]) (by simp [results, Try.results85, go_sem, y0, y1, y2, y3, y4, y5, y6]) rfl ?_
        have F : Fr [] w wf := Fr.trans (U := []) (S := []) HFS.out ff (by simp) (fun x hx => .inr (by simp at hx; omega))
        exact ⟨_, _, rfl, F, ⟨_, _, (by first | rfl | simp only [H_hr'.out, H_hc'.out, H_hb.out, H_hw'.out]), ((P1.out).keep ff (by intro x hx hn; simp at hx; have hn' : w0.heap.size ≤ x := hn; omega)).mono (fun x hx => Or.inr (show w.heap.size ≤ x from by have hn' : w0.heap.size ≤ x := hx; omega)), ((P2.out).keep ff (by intro x hx hn; simp at hx; have hn' : w0.heap.size ≤ x := hn; omega)).mono (fun x hx => Or.inr (show w.heap.size ≤ x from by have hn' : w0.heap.size ≤ x := hx; omega))⟩, PartV.nil _ _⟩
    · have hb' : m.busy = true := by simpa using hb
      clear hb
      by_cases hw : m.w ≠ 0
      · have hop : opM m = false := by unfold opM; simp [hw]
        have e : readM m n = ⟨m, [], m.w⟩ := by unfold readM; rw [if_neg h1, if_neg h2, if_neg h3, if_neg h4, if_neg h5, if_pos hw]
        skip
        rw [e]
        clear e
        have hq0 : ¬ (0 : Int) < m.q.length := by rw [hq00]; simp
        have HQ00 := Lib.hid hq0
        clear hq00 hq0
        clear h1 h2 h4 h5
        have HOP := Lib.hid hop
        clear hop
        rw [hr']
        rw [hc']
        rw [hb']
        have H_hr' := Lib.hid hr'
        have H_hc' := Lib.hid hc'
        have H_hb' := Lib.hid hb'
        obtain ⟨w0, hw0, f0, q0, z0⟩ : ∃ W, (w.alloc (.cells #[.int .i64 0, .slice a1 m.q.length k1, .bool true, .slice a2 m.rest.length k2, .int .i64 m.acc, .int .i64 m.w, .int .i64 0] 41)).alloc (.cells #[.int .i64 0, .slice none 0 0, .bool false, .slice none 0 0, .int .i64 0, .int .i64 0, .int .i64 0] 41) = W ∧ Fr [] w W ∧ S7 W w.heap.size 0 a1 m.q.length k1 true a2 m.rest.length k2 m.acc m.w 0 ∧ S7 W (w.heap.size + 1) 0 none 0 0 false none 0 0 0 0 0 := ⟨_, rfl, ((Fr.refl _ _).alloc _).alloc _, keepA (newA rfl), newA (by simp)⟩
        obtain ⟨x0, x1, x2, x3, x4, x5, x6, p0, p1, p2, p3, p4, p5, p6⟩ := q0.cells
        have hz0 : w.heap.size + 1 < w0.heap.size := lt_of_heap z0
        have HZ := Lib.hid z0
        have HF := Lib.hid f0
        have HB := Lib.hid q0
        clear q0 z0 f0
        clear hr' hc' hb'
        have HCP := Lib.hid (r_copy (w := w0) (N := N) (v := .agg #[.int .i64 0, .slice a1 m.q.length k1, .bool true, .slice a2 m.rest.length k2, .int .i64 m.acc, .int .i64 m.w, .int .i64 0]) (m := m) ⟨_, _, (by rw [H_hr'.out, H_hc'.out, H_hb'.out]), HQ.out.1.keep HF.out (by simp), HQ.out.2.keep HF.out (by simp)⟩ HB0)
        go_enter Try.func85, Try.ntmps85
        go_wp2_with fail
        refine HCP.out.mono ?_
        rintro e w2 ⟨v2, rfl, f2, u1, u2, e2, o1, o2, hd⟩
        obtain ⟨b1, l1, rfl, _⟩ := o1.formB
        obtain ⟨b2, l2, rfl, _⟩ := o2.formB
        rw [H_hr'.out, H_hc'.out, H_hb'.out] at e2
        subst e2
        have HB2 := Lib.hid (show S7 w2 w.heap.size 0 a1 m.q.length k1 true a2 m.rest.length k2 m.acc m.w 0 from f2.keep HB.out (by simp))
        have HZ2 := Lib.hid (show S7 w2 (w.heap.size + 1) 0 none 0 0 false none 0 0 0 0 0 from f2.keep HZ.out (by simp))
        have HF2 := Lib.hid (HF.out.then0 f2)
        clear x0 x1 x2 x3 x4 x5 x6 p0 p1 p2 p3 p4 p5 p6
        obtain ⟨x0, x1, x2, x3, x4, x5, x6, p0, p1, p2, p3, p4, p5, p6⟩ := HB2.out.cells
        have HO1 := Lib.hid o1
        have HO2 := Lib.hid o2
        have HD := Lib.hid hd
        have hz2 := f2.size
        clear o1 o2 hd HCP
        go_wp2_with (refine wpl_store rfl 41 _ _ rfl w.heap.size #[.int .i64 0, .slice b1 m.q.length l1, .bool true, .slice b2 m.rest.length l2, .int .i64 m.acc, .int .i64 m.w, .int .i64 0] (by rfl) (by rfl) _ _ HB2.out (by kernel_rfl) rfl (by simp [Value.oneCell']) ?_)
        intro w3 f3 q3
        have q3' : S7 w3 w.heap.size 0 b1 m.q.length l1 true b2 m.rest.length l2 m.acc m.w 0 := q3
        clear x0 x1 x2 x3 x4 x5 x6 p0 p1 p2 p3 p4 p5 p6
        obtain ⟨x0, x1, x2, x3, x4, x5, x6, p0, p1, p2, p3, p4, p5, p6⟩ := q3'.cells
        have HZ3 := Lib.hid (show S7 w3 (w.heap.size + 1) 0 none 0 0 false none 0 0 0 0 0 from f3.keep HZ2.out (by simp))
        have HF3 := Lib.hid (Fr.trans (U := []) (S := []) HF2.out f3 (by simp) (fun x hx => .inr (by simp at hx; omega)))
        have HO13 := Lib.hid (HO1.out.keep f3 (fun k e hm => by have := (HO1.out.lt k e).1; simp at hm; omega))
        have HO23 := Lib.hid (HO2.out.keep f3 (fun k e hm => by have := (HO2.out.lt k e).1; simp at hm; omega))
        have HB3 := Lib.hid q3'
        have hz3 := f3.size
        clear q3 q3' f3 HB2 HZ2 HF2 HO1 HO2
        have hq0 := HQ00.out
        have HO := Lib.hid (r_open (w := w3) (N := fun _ => True) (v := .agg #[.int .i64 0, .slice b1 m.q.length l1, .bool true, .slice b2 m.rest.length l2, .int .i64 m.acc, .int .i64 m.w, .int .i64 0]) (m := m) ⟨_, _, (by rw [H_hr'.out, H_hc'.out, H_hb'.out]), (PartV.ofOw HO13.out).mono (fun _ _ => trivial), (PartV.ofOw HO23.out).mono (fun _ _ => trivial)⟩)
        rw [HOP.out] at HO
        go_wp2_with fail
        refine HO.out.mono ?_
        rintro e w4 ⟨rfl, f4⟩
        have HB4 := Lib.hid (show S7 w4 w.heap.size 0 b1 m.q.length l1 true b2 m.rest.length l2 m.acc m.w 0 from f4.keep HB3.out (by simp))
        have HZ4 := Lib.hid (show S7 w4 (w.heap.size + 1) 0 none 0 0 false none 0 0 0 0 0 from f4.keep HZ3.out (by simp))
        have HF4 := Lib.hid (HF3.out.then0 f4)
        have HP1 := Lib.hid (PartV.ofOw (HO13.out.keep f4 (by simp)))
        have HP2 := Lib.hid (PartV.ofOw (HO23.out.keep f4 (by simp)))
        have hz4 := f4.size
        clear x0 x1 x2 x3 x4 x5 x6 p0 p1 p2 p3 p4 p5 p6
        obtain ⟨x0, x1, x2, x3, x4, x5, x6, p0, p1, p2, p3, p4, p5, p6⟩ := HB4.out.cells
        clear HO f4
        have HZS := HZ4
        have HFS := HF4
        have P1 := HP1
        have P2 := HP2
        have HBB := HB4
        obtain ⟨wz, hwz⟩ : ∃ W, W = w4 := ⟨_, rfl⟩
        subst hwz
        have HFA := Lib.hid fun (w' : World) (f : S7 w' w.heap.size 0 b1 m.q.length l1 true b2 m.rest.length l2 m.acc m.w 0) => (show w'.cell? ⟨w.heap.size, 0, none⟩ = some (.int .i64 0) ∧ w'.cell? ⟨w.heap.size, 1, none⟩ = some (.slice b1 m.q.length l1) ∧ w'.cell? ⟨w.heap.size, 2, none⟩ = some (.bool true) ∧ w'.cell? ⟨w.heap.size, 3, none⟩ = some (.slice b2 m.rest.length l2) ∧ w'.cell? ⟨w.heap.size, 4, none⟩ = some (.int .i64 m.acc) ∧ w'.cell? ⟨w.heap.size, 5, none⟩ = some (.int .i64 m.w) ∧ w'.cell? ⟨w.heap.size, 6, none⟩ = some (.int .i64 0) from (let q := S7.cells f; ⟨q.1, q.2.1, q.2.2.1, q.2.2.2.1, q.2.2.2.2.1, q.2.2.2.2.2.1, q.2.2.2.2.2.2.1⟩))
        go_wp2_with fail
        have fd : Fr [] wz wz.drew := (Fr.refl _ _).drew
        replace HZS := Lib.hid (show S7 wz.drew (w.heap.size + 1) 0 none 0 0 false none 0 0 0 0 0 from fd.keep HZS.out (by simp))
        refine wp_region_order [(0, true), (1, true), (2, true), (3, false), (4, true), (5, true)] (fun w' => S7 w' w.heap.size 0 b1 m.q.length l1 true b2 m.rest.length l2 m.acc m.w 0) (by kernel_rfl) (by kernel_rfl) (fd.keep HBB.out (by simp)) ?_
        intro OPS HOPS
        have hops := HOPS.out
        try simp only [List.append_eq, List.cons_append, List.nil_append] at hops
        replace HOPS := Lib.hid hops
        clear hops
        refine walkO_take (o := _) (v := ?_) (by rw [HOPS.out]; simp only [gA, gB, gC]; exact rfl) (Or.inl ⟨rfl, ?_⟩) ?_
        rotate_left
        · (intro w hSw; have hSx := HFA.out _ hSw; (try dsimp only at hSx); clear hSw; go_simp) <;> (with_reducible rfl)
        simp only [Act.put, gD, gE, gF]
        refine walkO_take (o := _) (v := ?_) (by rw [HOPS.out]; simp only [gA, gB, gC]; exact rfl) (Or.inl ⟨rfl, ?_⟩) ?_
        rotate_left
        · (intro w hSw; have hSx := HFA.out _ hSw; (try dsimp only at hSx); clear hSw; go_simp) <;> (with_reducible rfl)
        simp only [Act.put, gD, gE, gF]
        refine walkO_take (o := _) (v := ?_) (by rw [HOPS.out]; simp only [gA, gB, gC]; exact rfl) (Or.inl ⟨rfl, ?_⟩) ?_
        rotate_left
        · (intro w hSw; have hSx := HFA.out _ hSw; (try dsimp only at hSx); clear hSw; go_simp) <;> (with_reducible rfl)
        simp only [Act.put, gD, gE, gF]
        refine walkO_call (o := _) (by rw [HOPS.out]; simp only [gA, gB, gC]; exact rfl) (fun K HK => ?_)
        refine step_store7 rfl 41 (.tmp 4) (.tmp 91) rfl (w.heap.size + 1) #[.int .i64 0, .slice b1 m.q.length l1, .bool true, .slice b2 m.rest.length l2, .int .i64 m.acc, .int .i64 m.w, .int .i64 0] (by simp [Act.eval]) (by simp [Act.eval]) _ _ HZS.out (by kernel_rfl) rfl (by simp [Value.oneCell']) ?_
        intro wf ff qf
        obtain ⟨y0, y1, y2, y3, y4, y5, y6, _, _, _, _, _, _, _⟩ := S7.cells qf
        refine HK.out (fun w' => S7 w' w.heap.size 0 b1 m.q.length l1 true b2 m.rest.length l2 m.acc m.w 0) _ _ (fun _ h => h) (ff.keep (fd.keep HBB.out (by simp)) (by simp)) ?_
        clear HK K
        try simp only [Act.put, gD, gE, gF]
        refine walkO_take (o := _) (v := ?_) (by rw [HOPS.out]; simp only [gA, gB, gC]; exact rfl) (Or.inl ⟨rfl, ?_⟩) ?_
        rotate_left
        · (intro w hSw; have hSx := HFA.out _ hSw; (try dsimp only at hSx); clear hSw; go_simp) <;> (with_reducible rfl)
        simp only [Act.put, gD, gE, gF]
        refine walkO_take (o := _) (v := ?_) (by rw [HOPS.out]; simp only [gA, gB, gC]; exact rfl) (Or.inl ⟨rfl, ?_⟩) ?_
        rotate_left
        · (intro w hSw; have hSx := HFA.out _ hSw; (try dsimp only at hSx); clear hSw; go_simp) <;> (with_reducible rfl)
        simp only [Act.put, gD, gE, gF]
        refine walkO_done ?_
        clear HOPS OPS
        clear x0 x1 x2 x3 x4 x5 x6 p0 p1 p2 p3 p4 p5 p6
        go_wp2_with fail
        refine bodyPost_ret (v := .tuple #[.agg #[.int .i64 0, .slice b1 m.q.length l1, .bool true, .slice b2 m.rest.length l2, .int .i64 m.acc, .int .i64 m.w, .int .i64 0], .slice none 0 0, .int .i64 m.w]) (by simp [results, Try.results85, go_sem, y0, y1, y2, y3, y4, y5, y6]) rfl ?_
        have P1' := Lib.hid (P1.out.keep fd (by simp))
        have P2' := Lib.hid (P2.out.keep fd (by simp))
        have F : Fr [] w wf := Fr.trans (U := []) (S := []) (HFS.out.then0 fd) ff (by simp) (fun x hx => .inr (by simp at hx; omega))
        exact ⟨_, _, rfl, F, ⟨_, _, (by first | rfl | simp only [H_hr'.out, H_hc'.out, H_hb'.out]), ((P1'.out).keep ff (by intro x hx hn; simp at hx; have hn' : w0.heap.size ≤ x := hn; omega)).mono (fun x hx => Or.inr (show w.heap.size ≤ x from by have hn' : w0.heap.size ≤ x := hx; omega)), ((P2'.out).keep ff (by intro x hx hn; simp at hx; have hn' : w0.heap.size ≤ x := hn; omega)).mono (fun x hx => Or.inr (show w.heap.size ≤ x from by have hn' : w0.heap.size ≤ x := hx; omega))⟩, PartV.nil _ _⟩
      · have hw' : m.w = 0 := by omega
        have hop : opM m = true := by unfold opM; rw [hw', hr']; rfl
        have hl0 : ¬ (0 : Int) < m.rest.length := by have : m.rest = [] := Classical.not_not.1 fun h => h5 ⟨hc', hb', hw', h⟩; rw [this]; simp
        have e : readM m n = ⟨m, [], 16⟩ := by unfold readM; rw [if_neg h1, if_neg h2, if_neg h3, if_neg h4, if_neg h5, if_neg (by rw [hw']; simp)]
        clear hw
        skip
        rw [e]
        clear e
        have hq0 : ¬ (0 : Int) < m.q.length := by rw [hq00]; simp
        have HQ00 := Lib.hid hq0
        clear hq00 hq0
        clear h1 h2 h4 h5
        have HOP := Lib.hid hop
        clear hop
        rw [hr']
        rw [hc']
        rw [hb']
        rw [hw']
        have H_hr' := Lib.hid hr'
        have H_hc' := Lib.hid hc'
        have H_hb' := Lib.hid hb'
        have H_hw' := Lib.hid hw'
        obtain ⟨w0, hw0, f0, q0, z0⟩ : ∃ W, (w.alloc (.cells #[.int .i64 0, .slice a1 m.q.length k1, .bool true, .slice a2 m.rest.length k2, .int .i64 m.acc, .int .i64 0, .int .i64 0] 41)).alloc (.cells #[.int .i64 0, .slice none 0 0, .bool false, .slice none 0 0, .int .i64 0, .int .i64 0, .int .i64 0] 41) = W ∧ Fr [] w W ∧ S7 W w.heap.size 0 a1 m.q.length k1 true a2 m.rest.length k2 m.acc 0 0 ∧ S7 W (w.heap.size + 1) 0 none 0 0 false none 0 0 0 0 0 := ⟨_, rfl, ((Fr.refl _ _).alloc _).alloc _, keepA (newA rfl), newA (by simp)⟩
        obtain ⟨x0, x1, x2, x3, x4, x5, x6, p0, p1, p2, p3, p4, p5, p6⟩ := q0.cells
        have hz0 : w.heap.size + 1 < w0.heap.size := lt_of_heap z0
        have HZ := Lib.hid z0
        have HF := Lib.hid f0
        have HB := Lib.hid q0
        clear q0 z0 f0
        clear hr' hc' hb' hw'
        have HCP := Lib.hid (r_copy (w := w0) (N := N) (v := .agg #[.int .i64 0, .slice a1 m.q.length k1, .bool true, .slice a2 m.rest.length k2, .int .i64 m.acc, .int .i64 0, .int .i64 0]) (m := m) ⟨_, _, (by rw [H_hr'.out, H_hc'.out, H_hb'.out, H_hw'.out]), HQ.out.1.keep HF.out (by simp), HQ.out.2.keep HF.out (by simp)⟩ HB0)
        go_enter Try.func85, Try.ntmps85
        go_wp2_with fail
        refine HCP.out.mono ?_
        rintro e w2 ⟨v2, rfl, f2, u1, u2, e2, o1, o2, hd⟩
        obtain ⟨b1, l1, rfl, _⟩ := o1.formB
        obtain ⟨b2, l2, rfl, _⟩ := o2.formB
        rw [H_hr'.out, H_hc'.out, H_hb'.out, H_hw'.out] at e2
        subst e2
        have HB2 := Lib.hid (show S7 w2 w.heap.size 0 a1 m.q.length k1 true a2 m.rest.length k2 m.acc 0 0 from f2.keep HB.out (by simp))
        have HZ2 := Lib.hid (show S7 w2 (w.heap.size + 1) 0 none 0 0 false none 0 0 0 0 0 from f2.keep HZ.out (by simp))
        have HF2 := Lib.hid (HF.out.then0 f2)
        clear x0 x1 x2 x3 x4 x5 x6 p0 p1 p2 p3 p4 p5 p6
        obtain ⟨x0, x1, x2, x3, x4, x5, x6, p0, p1, p2, p3, p4, p5, p6⟩ := HB2.out.cells
        have HO1 := Lib.hid o1
        have HO2 := Lib.hid o2
        have HD := Lib.hid hd
        have hz2 := f2.size
        clear o1 o2 hd HCP
        go_wp2_with (refine wpl_store rfl 41 _ _ rfl w.heap.size #[.int .i64 0, .slice b1 m.q.length l1, .bool true, .slice b2 m.rest.length l2, .int .i64 m.acc, .int .i64 0, .int .i64 0] (by rfl) (by rfl) _ _ HB2.out (by kernel_rfl) rfl (by simp [Value.oneCell']) ?_)
        intro w3 f3 q3
        have q3' : S7 w3 w.heap.size 0 b1 m.q.length l1 true b2 m.rest.length l2 m.acc 0 0 := q3
        clear x0 x1 x2 x3 x4 x5 x6 p0 p1 p2 p3 p4 p5 p6
        obtain ⟨x0, x1, x2, x3, x4, x5, x6, p0, p1, p2, p3, p4, p5, p6⟩ := q3'.cells
        have HZ3 := Lib.hid (show S7 w3 (w.heap.size + 1) 0 none 0 0 false none 0 0 0 0 0 from f3.keep HZ2.out (by simp))
        have HF3 := Lib.hid (Fr.trans (U := []) (S := []) HF2.out f3 (by simp) (fun x hx => .inr (by simp at hx; omega)))
        have HO13 := Lib.hid (HO1.out.keep f3 (fun k e hm => by have := (HO1.out.lt k e).1; simp at hm; omega))
        have HO23 := Lib.hid (HO2.out.keep f3 (fun k e hm => by have := (HO2.out.lt k e).1; simp at hm; omega))
        have HB3 := Lib.hid q3'
        have hz3 := f3.size
        clear q3 q3' f3 HB2 HZ2 HF2 HO1 HO2
        have hq0 := HQ00.out
        have HO := Lib.hid (r_open (w := w3) (N := fun _ => True) (v := .agg #[.int .i64 0, .slice b1 m.q.length l1, .bool true, .slice b2 m.rest.length l2, .int .i64 m.acc, .int .i64 0, .int .i64 0]) (m := m) ⟨_, _, (by rw [H_hr'.out, H_hc'.out, H_hb'.out, H_hw'.out]), (PartV.ofOw HO13.out).mono (fun _ _ => trivial), (PartV.ofOw HO23.out).mono (fun _ _ => trivial)⟩)
        rw [HOP.out] at HO
        go_wp2_with fail
        refine HO.out.mono ?_
        rintro e w4 ⟨rfl, f4⟩
        have HB4 := Lib.hid (show S7 w4 w.heap.size 0 b1 m.q.length l1 true b2 m.rest.length l2 m.acc 0 0 from f4.keep HB3.out (by simp))
        have HZ4 := Lib.hid (show S7 w4 (w.heap.size + 1) 0 none 0 0 false none 0 0 0 0 0 from f4.keep HZ3.out (by simp))
        have HF4 := Lib.hid (HF3.out.then0 f4)
        have HP1 := Lib.hid (PartV.ofOw (HO13.out.keep f4 (by simp)))
        have HP2 := Lib.hid (PartV.ofOw (HO23.out.keep f4 (by simp)))
        have hz4 := f4.size
        clear x0 x1 x2 x3 x4 x5 x6 p0 p1 p2 p3 p4 p5 p6
        obtain ⟨x0, x1, x2, x3, x4, x5, x6, p0, p1, p2, p3, p4, p5, p6⟩ := HB4.out.cells
        clear HO f4
        have HZS := HZ4
        have HFS := HF4
        have P1 := HP1
        have P2 := HP2
        have HBB := HB4
        obtain ⟨wz, hwz⟩ : ∃ W, W = w4 := ⟨_, rfl⟩
        subst hwz
        go_wp2_with (refine wpl_store rfl 41 _ _ rfl (w.heap.size + 1) #[.int .i64 0, .slice b1 m.q.length l1, .bool true, .slice b2 m.rest.length l2, .int .i64 m.acc, .int .i64 0, .int .i64 0] (by rfl) (by rfl) _ _ HZS.out (by kernel_rfl) rfl (by simp [Value.oneCell']) ?_)
        intro wf ff qf
        obtain ⟨y0, y1, y2, y3, y4, y5, y6, _, _, _, _, _, _, _⟩ := S7.cells qf
        clear x0 x1 x2 x3 x4 x5 x6 p0 p1 p2 p3 p4 p5 p6
        go_wp2_with fail
        refine bodyPost_ret (v := .tuple #[.agg #[.int .i64 0, .slice b1 m.q.length l1, .bool true, .slice b2 m.rest.length l2, .int .i64 m.acc, .int .i64 0, .int .i64 0], .slice none 0 0, .int .i64 16]) (by simp [results, Try.results85, go_sem, y0, y1, y2, y3, y4, y5, y6]) rfl ?_
        have F : Fr [] w wf := Fr.trans (U := []) (S := []) HFS.out ff (by simp) (fun x hx => .inr (by simp at hx; omega))
        exact ⟨_, _, rfl, F, ⟨_, _, (by first | rfl | simp only [H_hr'.out, H_hc'.out, H_hb'.out, H_hw'.out]), ((P1.out).keep ff (by intro x hx hn; simp at hx; have hn' : w0.heap.size ≤ x := hn; omega)).mono (fun x hx => Or.inr (show w.heap.size ≤ x from by have hn' : w0.heap.size ≤ x := hx; omega)), ((P2.out).keep ff (by intro x hx hn; simp at hx; have hn' : w0.heap.size ≤ x := hn; omega)).mono (fun x hx => Or.inr (show w.heap.size ≤ x from by have hn' : w0.heap.size ≤ x := hx; omega))⟩, PartV.nil _ _⟩

end Go.Proofs.Ytdoamelhclnphaa
