/-
  The reference of layer 14: fill.
-/
import Derived.Test.YtdoamelhclnphaaGs
import Derived.Test.YtdoamelhclnphaaRefA
import Derived.Test.YtdoamelhclnphaaStepsTwo
import Derived.Test.YtdoamelhclnphaaRingA
import Derived.Test.YtdoamelhclnphaaRegT
import Derived.LoopN
namespace Go.Proofs.Ytdoamelhclnphaa
open Go.RowKit
set_option maxRecDepth 100000

theorem PartV.ofOwB {w : World} {M : Nat} {v : Value} {p : List UInt8} (h : Ow w M 5 v ((bi p).map (Value.int .u8))) : PartV w (fun x => v.ownBlock = some x) v p := by
  obtain ⟨a, cap, rfl, h1, h2, h3, h4⟩ := h.formB
  exact ⟨a, cap, rfl, h1, h2, h3, fun b o h0 e => by subst e; rfl⟩
theorem S7.keep7 {w w' : World} {B0 : Nat} {c : Int} {a1 : Option Addr} {n1 k1 : Nat} {busy : Bool} {a2 : Option Addr} {n2 k2 : Nat} {acc x y : Int} (h : S7 w (B0 + 1) c a1 n1 k1 busy a2 n2 k2 acc x y) (f : Fr [B0] w w') : S7 w' (B0 + 1) c a1 n1 k1 busy a2 n2 k2 acc x y := f.keep h (by simp)
theorem PartV.cut1 {w : World} {N : Nat → Prop} {a : Option Addr} {n c : Nat} {x : UInt8} {rs : List UInt8} (h : PartV w N (.slice a n c) (x :: rs)) : PartV w N (.slice (cutp a c 1) rs.length (c - 1)) rs := by
  obtain ⟨a', c', e, h1, h2, h3, h4⟩ := h
  injection e with e1 e2 e3
  subst e1 e3
  rw [List.length_cons] at h1 h4
  refine ⟨cutp a c 1, c - 1, rfl, by omega, by omega, ?_, fun b o h0 e => ?_⟩
  · have := cutp_sl (cap := c) (l := 1) (k := rs.length) h3 (by simp [bi_length]; omega) (by simp [bi_length]; omega)
    rw [show ((bi (x :: rs)).drop 1).take rs.length = bi rs from by show (bi rs).take rs.length = bi rs; exact List.take_of_length_le (by rw [bi_length]; omega)] at this
    exact this
  · unfold cutp at e
    rw [if_neg (by omega)] at e
    obtain ⟨⟨b', o', s⟩, rfl, e'⟩ := Option.map_eq_some_iff.1 e
    obtain ⟨b2, o2, e2, _⟩ := h3 (by simp [bi_length])
    injection e2 with e2
    injection e2 with e3 e4 e5
    subst e3 e4 e5
    have hb : b' = b := by simp [Addr.add] at e'; exact e'.1
    subst hb
    exact h4 b' o' (by omega) rfl
theorem fill_next {m : SM} {k : Nat} {qk rs : List UInt8} {x : UInt8} (hk : k < m.rest.length) (h2 : qk = m.q ++ m.rest.take k) (h3 : x :: rs = m.rest.drop k) (hc : (qk.length : Int) < m.c) :
    k + 1 ≤ m.rest.length ∧ qk ++ [x] = m.q ++ m.rest.take (k + 1) ∧ rs = m.rest.drop (k + 1) ∧ (0 < k + 1 → ((qk ++ [x]).length : Int) ≤ m.c) := by
  rw [List.drop_eq_getElem_cons hk] at h3
  injection h3 with e1 e2
  refine ⟨hk, ?_, e2, fun _ => by rw [List.length_append, List.length_singleton]; omega⟩
  rw [h2, List.take_succ_eq_append_getElem hk, e1, List.append_assoc]
theorem fill_stop {m : SM} {k : Nat} (hb : m.busy = true) (hw : m.w = 0) (hr : m.r = 0) (hk : k ≤ m.rest.length) (hs : m.rest.drop k = [] ∨ m.c ≤ ((m.q ++ m.rest.take k).length : Int)) (h0 : 0 < k → ((m.q ++ m.rest.take k).length : Int) ≤ m.c) :
    fillM m = { m with q := m.q ++ m.rest.take k, rest := m.rest.drop k, acc := m.acc + k } := by
  unfold fillM
  rw [if_pos ⟨hb, hw, hr⟩]
  unfold pourM roomM
  rw [List.length_append, List.length_take, Nat.min_eq_left hk] at hs h0
  rcases hs with hs | hs
  · have hke : m.rest.length ≤ k := by
      have := congrArg List.length hs
      simp at this
      omega
    have hkk : k = m.rest.length := by omega
    subst hkk
    by_cases hz : m.rest.length = 0
    · have : m.rest = [] := List.eq_nil_of_length_eq_zero hz
      rw [this]
      simp
    · have h1 := h0 (by omega)
      have h2 : m.rest.length ≤ (m.c - (m.q.length : Int)).toNat := by omega
      rw [List.take_of_length_le h2, List.take_of_length_le (Nat.le_refl _), List.drop_eq_nil_of_le h2, List.drop_eq_nil_of_le (Nat.le_refl _), Nat.min_eq_right h2]
  · have h2 : (m.c - (m.q.length : Int)).toNat = k := by
      by_cases hz : 0 < k
      · have h1 := h0 hz
        omega
      · omega
    rw [h2, Nat.min_eq_left hk]
set_option maxHeartbeats 4000000 in
theorem r_fill {w : World} {N : Nat → Prop} {v : Value} {m : SM} (h : Sv w N v m) (HB0 : m.q.length ≤ 1000000 ∧ m.rest.length ≤ 1000000) (HA0 : 0 ≤ m.acc ∧ m.acc ≤ 1000000) :
    Calls Try.prog 113 #[v] w fun e w' => ∃ v', e = .returned v' ∧ Fr [] w w' ∧ Sv w' (fun x => w.heap.size ≤ x) v' (fillM m) := by
  obtain ⟨u1, u2, rfl, hq, hr⟩ := h
  obtain ⟨a1, k1, rfl, _⟩ := id hq
  obtain ⟨a2, k2, rfl, _⟩ := id hr
  have HQ := Lib.hid (And.intro hq hr)
  clear hq hr
  have HU : Hid (Try.prog.underlying 29 = some (.slice 5)) := Lib.hid Try.underlying29
  have HIN : Hid ((Try.prog.info? 5).map (fun i => (i.zero, i.size, i.bytes)) = some (some (.int .u8 0), 1, 1)) := Lib.hid (by kernel_rfl)
  by_cases hb : m.busy = false
  · have he : fillM m = m := by unfold fillM; rw [if_neg (by rw [hb]; simp)]
    rw [hb]
    have H_hb := Lib.hid hb
    obtain ⟨w0, hw0, f0, q0, z0⟩ : ∃ W, (w.alloc (.cells #[.int .i64 m.c, .slice a1 m.q.length k1, .bool false, .slice a2 m.rest.length k2, .int .i64 m.acc, .int .i64 m.w, .int .i64 m.r] 41)).alloc (.cells #[.int .i64 0, .slice none 0 0, .bool false, .slice none 0 0, .int .i64 0, .int .i64 0, .int .i64 0] 41) = W ∧ Fr [] w W ∧ S7 W w.heap.size m.c a1 m.q.length k1 false a2 m.rest.length k2 m.acc m.w m.r ∧ S7 W (w.heap.size + 1) 0 none 0 0 false none 0 0 0 0 0 := ⟨_, rfl, ((Fr.refl _ _).alloc _).alloc _, keepA (newA rfl), newA (by simp)⟩
    obtain ⟨x0, x1, x2, x3, x4, x5, x6, p0, p1, p2, p3, p4, p5, p6⟩ := q0.cells
    have hz0 : w.heap.size + 1 < w0.heap.size := lt_of_heap z0
    have HZ := Lib.hid z0
    have HF := Lib.hid f0
    have HB := Lib.hid q0
    clear q0 z0 f0
    clear hb
    have HCP := Lib.hid (r_copy (w := w0) (N := N) (v := .agg #[.int .i64 m.c, .slice a1 m.q.length k1, .bool false, .slice a2 m.rest.length k2, .int .i64 m.acc, .int .i64 m.w, .int .i64 m.r]) (m := m) ⟨_, _, (by rw [H_hb.out]), HQ.out.1.keep HF.out (by simp), HQ.out.2.keep HF.out (by simp)⟩ HB0)
    go_enter Try.func113, Try.ntmps113
    go_wp2_with fail
    refine HCP.out.mono ?_
    rintro e w2 ⟨v2, rfl, f2, u1, u2, e2, o1, o2, hd⟩
    obtain ⟨b1, l1, rfl, _⟩ := o1.formB
    obtain ⟨b2, l2, rfl, _⟩ := o2.formB
    rw [H_hb.out] at e2
    subst e2
    have HB2 := Lib.hid (show S7 w2 w.heap.size m.c a1 m.q.length k1 false a2 m.rest.length k2 m.acc m.w m.r from f2.keep HB.out (by simp))
    have HZ2 := Lib.hid (show S7 w2 (w.heap.size + 1) 0 none 0 0 false none 0 0 0 0 0 from f2.keep HZ.out (by simp))
    have HF2 := Lib.hid (HF.out.then0 f2)
    clear x0 x1 x2 x3 x4 x5 x6 p0 p1 p2 p3 p4 p5 p6
    obtain ⟨x0, x1, x2, x3, x4, x5, x6, p0, p1, p2, p3, p4, p5, p6⟩ := HB2.out.cells
    have HO1 := Lib.hid o1
    have HO2 := Lib.hid o2
    have HD := Lib.hid hd
    have hz2 := f2.size
    clear o1 o2 hd HCP
    go_wp2_with (refine wpl_store rfl 41 _ _ rfl w.heap.size #[.int .i64 m.c, .slice b1 m.q.length l1, .bool false, .slice b2 m.rest.length l2, .int .i64 m.acc, .int .i64 m.w, .int .i64 m.r] (by rfl) (by rfl) _ _ HB2.out (by kernel_rfl) rfl (by simp [Value.oneCell']) ?_)
    intro w3 f3 q3
    have q3' : S7 w3 w.heap.size m.c b1 m.q.length l1 false b2 m.rest.length l2 m.acc m.w m.r := q3
    clear x0 x1 x2 x3 x4 x5 x6 p0 p1 p2 p3 p4 p5 p6
    obtain ⟨x0, x1, x2, x3, x4, x5, x6, p0, p1, p2, p3, p4, p5, p6⟩ := q3'.cells
    have HZ3 := Lib.hid (show S7 w3 (w.heap.size + 1) 0 none 0 0 false none 0 0 0 0 0 from f3.keep HZ2.out (by simp))
    have HF3 := Lib.hid (Fr.trans (U := []) (S := []) HF2.out f3 (by simp) (fun x hx => .inr (by simp at hx; omega)))
    have HO13 := Lib.hid (HO1.out.keep f3 (fun k e hm => by have := (HO1.out.lt k e).1; simp at hm; omega))
    have HO23 := Lib.hid (HO2.out.keep f3 (fun k e hm => by have := (HO2.out.lt k e).1; simp at hm; omega))
    have HB3 := Lib.hid q3'
    have hz3 := f3.size
    clear q3 q3' f3 HB2 HZ2 HF2 HO1 HO2
    go_wp2_with fail
    refine wp_loop_rounds 1 ?_
    rw [rounds_succ]
    have HZS := HZ3
    have HFS := HF3
    go_wp2_with (refine wpl_store rfl 41 _ _ rfl (w.heap.size + 1) #[.int .i64 m.c, .slice b1 m.q.length l1, .bool false, .slice b2 m.rest.length l2, .int .i64 m.acc, .int .i64 m.w, .int .i64 m.r] (by rfl) (by rfl) _ _ HZS.out (by kernel_rfl) rfl (by simp [Value.oneCell']) ?_)
    intro wf ff qf
    obtain ⟨y0, y1, y2, y3, y4, y5, y6, _, _, _, _, _, _, _⟩ := S7.cells qf
    clear x0 x1 x2 x3 x4 x5 x6 p0 p1 p2 p3 p4 p5 p6
    go_wp2_with fail
    refine bodyPost_ret (v := .agg #[.int .i64 m.c, .slice b1 m.q.length l1, .bool false, .slice b2 m.rest.length l2, .int .i64 m.acc, .int .i64 m.w, .int .i64 m.r]) (by simp [results, Try.results113, go_sem, y0, y1, y2, y3, y4, y5, y6]) rfl ?_
    have F : Fr [] w wf := Fr.trans (U := []) (S := []) HFS.out ff (by simp) (fun x hx => .inr (by simp at hx; omega))
    rw [he]
    refine ⟨_, rfl, F, _, _, (by first | rfl | rw [H_hb.out]), ((PartV.ofOw HO13.out).keep ff (by intro x hx hn; simp at hx; have hn' : w0.heap.size ≤ x := hn; omega)).mono (fun x hx => by have hn' : w0.heap.size ≤ x := hx; show w.heap.size ≤ x; omega), ((PartV.ofOw HO23.out).keep ff (by intro x hx hn; simp at hx; have hn' : w0.heap.size ≤ x := hn; omega)).mono (fun x hx => by have hn' : w0.heap.size ≤ x := hx; show w.heap.size ≤ x; omega)⟩
  · replace hb : m.busy = true := by simpa using hb
    by_cases hop : opM m = false
    · have he : fillM m = m := by unfold fillM; rw [if_neg (by rintro ⟨_, h1, h2⟩; unfold opM at hop; rw [h1, h2] at hop; cases hop)]
      rw [hb]
      have H_hb := Lib.hid hb
      obtain ⟨w0, hw0, f0, q0, z0⟩ : ∃ W, (w.alloc (.cells #[.int .i64 m.c, .slice a1 m.q.length k1, .bool true, .slice a2 m.rest.length k2, .int .i64 m.acc, .int .i64 m.w, .int .i64 m.r] 41)).alloc (.cells #[.int .i64 0, .slice none 0 0, .bool false, .slice none 0 0, .int .i64 0, .int .i64 0, .int .i64 0] 41) = W ∧ Fr [] w W ∧ S7 W w.heap.size m.c a1 m.q.length k1 true a2 m.rest.length k2 m.acc m.w m.r ∧ S7 W (w.heap.size + 1) 0 none 0 0 false none 0 0 0 0 0 := ⟨_, rfl, ((Fr.refl _ _).alloc _).alloc _, keepA (newA rfl), newA (by simp)⟩
      obtain ⟨x0, x1, x2, x3, x4, x5, x6, p0, p1, p2, p3, p4, p5, p6⟩ := q0.cells
      have hz0 : w.heap.size + 1 < w0.heap.size := lt_of_heap z0
      have HZ := Lib.hid z0
      have HF := Lib.hid f0
      have HB := Lib.hid q0
      clear q0 z0 f0
      clear hb
      have HCP := Lib.hid (r_copy (w := w0) (N := N) (v := .agg #[.int .i64 m.c, .slice a1 m.q.length k1, .bool true, .slice a2 m.rest.length k2, .int .i64 m.acc, .int .i64 m.w, .int .i64 m.r]) (m := m) ⟨_, _, (by rw [H_hb.out]), HQ.out.1.keep HF.out (by simp), HQ.out.2.keep HF.out (by simp)⟩ HB0)
      go_enter Try.func113, Try.ntmps113
      go_wp2_with fail
      refine HCP.out.mono ?_
      rintro e w2 ⟨v2, rfl, f2, u1, u2, e2, o1, o2, hd⟩
      obtain ⟨b1, l1, rfl, _⟩ := o1.formB
      obtain ⟨b2, l2, rfl, _⟩ := o2.formB
      rw [H_hb.out] at e2
      subst e2
      have HB2 := Lib.hid (show S7 w2 w.heap.size m.c a1 m.q.length k1 true a2 m.rest.length k2 m.acc m.w m.r from f2.keep HB.out (by simp))
      have HZ2 := Lib.hid (show S7 w2 (w.heap.size + 1) 0 none 0 0 false none 0 0 0 0 0 from f2.keep HZ.out (by simp))
      have HF2 := Lib.hid (HF.out.then0 f2)
      clear x0 x1 x2 x3 x4 x5 x6 p0 p1 p2 p3 p4 p5 p6
      obtain ⟨x0, x1, x2, x3, x4, x5, x6, p0, p1, p2, p3, p4, p5, p6⟩ := HB2.out.cells
      have HO1 := Lib.hid o1
      have HO2 := Lib.hid o2
      have HD := Lib.hid hd
      have hz2 := f2.size
      clear o1 o2 hd HCP
      go_wp2_with (refine wpl_store rfl 41 _ _ rfl w.heap.size #[.int .i64 m.c, .slice b1 m.q.length l1, .bool true, .slice b2 m.rest.length l2, .int .i64 m.acc, .int .i64 m.w, .int .i64 m.r] (by rfl) (by rfl) _ _ HB2.out (by kernel_rfl) rfl (by simp [Value.oneCell']) ?_)
      intro w3 f3 q3
      have q3' : S7 w3 w.heap.size m.c b1 m.q.length l1 true b2 m.rest.length l2 m.acc m.w m.r := q3
      clear x0 x1 x2 x3 x4 x5 x6 p0 p1 p2 p3 p4 p5 p6
      obtain ⟨x0, x1, x2, x3, x4, x5, x6, p0, p1, p2, p3, p4, p5, p6⟩ := q3'.cells
      have HZ3 := Lib.hid (show S7 w3 (w.heap.size + 1) 0 none 0 0 false none 0 0 0 0 0 from f3.keep HZ2.out (by simp))
      have HF3 := Lib.hid (Fr.trans (U := []) (S := []) HF2.out f3 (by simp) (fun x hx => .inr (by simp at hx; omega)))
      have HO13 := Lib.hid (HO1.out.keep f3 (fun k e hm => by have := (HO1.out.lt k e).1; simp at hm; omega))
      have HO23 := Lib.hid (HO2.out.keep f3 (fun k e hm => by have := (HO2.out.lt k e).1; simp at hm; omega))
      have HB3 := Lib.hid q3'
      have hz3 := f3.size
      clear q3 q3' f3 HB2 HZ2 HF2 HO1 HO2
      go_wp2_with fail
      refine wp_loop_rounds 1 ?_
      rw [rounds_succ]
      have HO := Lib.hid (r_open (w := w3) (N := fun _ => True) (v := .agg #[.int .i64 m.c, .slice b1 m.q.length l1, .bool true, .slice b2 m.rest.length l2, .int .i64 m.acc, .int .i64 m.w, .int .i64 m.r]) (m := m) ⟨_, _, (by rw [H_hb.out]), (PartV.ofOw HO13.out).mono (fun _ _ => trivial), (PartV.ofOw HO23.out).mono (fun _ _ => trivial)⟩)
      rw [hop] at HO
      go_wp2_with fail
      refine HO.out.mono ?_
      rintro e w4 ⟨rfl, f4⟩
      have HB4 := Lib.hid (show S7 w4 w.heap.size m.c b1 m.q.length l1 true b2 m.rest.length l2 m.acc m.w m.r from f4.keep HB3.out (by simp))
      have HZS := Lib.hid (show S7 w4 (w.heap.size + 1) 0 none 0 0 false none 0 0 0 0 0 from f4.keep HZ3.out (by simp))
      have HFS := Lib.hid (HF3.out.then0 f4)
      have HP1 := Lib.hid (HO13.out.keep f4 (by simp))
      have HP2 := Lib.hid (HO23.out.keep f4 (by simp))
      have hz4 := f4.size
      clear x0 x1 x2 x3 x4 x5 x6 p0 p1 p2 p3 p4 p5 p6
      obtain ⟨x0, x1, x2, x3, x4, x5, x6, p0, p1, p2, p3, p4, p5, p6⟩ := HB4.out.cells
      clear HO HO13 HO23 f4
      go_wp2_with (refine wpl_store rfl 41 _ _ rfl (w.heap.size + 1) #[.int .i64 m.c, .slice b1 m.q.length l1, .bool true, .slice b2 m.rest.length l2, .int .i64 m.acc, .int .i64 m.w, .int .i64 m.r] (by rfl) (by rfl) _ _ HZS.out (by kernel_rfl) rfl (by simp [Value.oneCell']) ?_)
      intro wf ff qf
      obtain ⟨y0, y1, y2, y3, y4, y5, y6, _, _, _, _, _, _, _⟩ := S7.cells qf
      clear x0 x1 x2 x3 x4 x5 x6 p0 p1 p2 p3 p4 p5 p6
      go_wp2_with fail
      refine bodyPost_ret (v := .agg #[.int .i64 m.c, .slice b1 m.q.length l1, .bool true, .slice b2 m.rest.length l2, .int .i64 m.acc, .int .i64 m.w, .int .i64 m.r]) (by simp [results, Try.results113, go_sem, y0, y1, y2, y3, y4, y5, y6]) rfl ?_
      have F : Fr [] w wf := Fr.trans (U := []) (S := []) HFS.out ff (by simp) (fun x hx => .inr (by simp at hx; omega))
      rw [he]
      refine ⟨_, rfl, F, _, _, (by first | rfl | rw [H_hb.out]), ((PartV.ofOw HP1.out).keep ff (by intro x hx hn; simp at hx; have hn' : w0.heap.size ≤ x := hn; omega)).mono (fun x hx => by have hn' : w0.heap.size ≤ x := hx; show w.heap.size ≤ x; omega), ((PartV.ofOw HP2.out).keep ff (by intro x hx hn; simp at hx; have hn' : w0.heap.size ≤ x := hn; omega)).mono (fun x hx => by have hn' : w0.heap.size ≤ x := hx; show w.heap.size ≤ x; omega)⟩
    · have hw : m.w = 0 := by unfold opM at hop; simp at hop; exact hop.1
      have hr : m.r = 0 := by unfold opM at hop; simp at hop; exact hop.2
      clear hop
      rw [hb]
      rw [hw]
      rw [hr]
      have H_hb := Lib.hid hb
      have H_hw := Lib.hid hw
      have H_hr := Lib.hid hr
      obtain ⟨w0, hw0, f0, q0, z0⟩ : ∃ W, (w.alloc (.cells #[.int .i64 m.c, .slice a1 m.q.length k1, .bool true, .slice a2 m.rest.length k2, .int .i64 m.acc, .int .i64 0, .int .i64 0] 41)).alloc (.cells #[.int .i64 0, .slice none 0 0, .bool false, .slice none 0 0, .int .i64 0, .int .i64 0, .int .i64 0] 41) = W ∧ Fr [] w W ∧ S7 W w.heap.size m.c a1 m.q.length k1 true a2 m.rest.length k2 m.acc 0 0 ∧ S7 W (w.heap.size + 1) 0 none 0 0 false none 0 0 0 0 0 := ⟨_, rfl, ((Fr.refl _ _).alloc _).alloc _, keepA (newA rfl), newA (by simp)⟩
      obtain ⟨x0, x1, x2, x3, x4, x5, x6, p0, p1, p2, p3, p4, p5, p6⟩ := q0.cells
      have hz0 : w.heap.size + 1 < w0.heap.size := lt_of_heap z0
      have HZ := Lib.hid z0
      have HF := Lib.hid f0
      have HB := Lib.hid q0
      clear q0 z0 f0
      clear hb hw hr
      have HCP := Lib.hid (r_copy (w := w0) (N := N) (v := .agg #[.int .i64 m.c, .slice a1 m.q.length k1, .bool true, .slice a2 m.rest.length k2, .int .i64 m.acc, .int .i64 0, .int .i64 0]) (m := m) ⟨_, _, (by rw [H_hb.out, H_hw.out, H_hr.out]), HQ.out.1.keep HF.out (by simp), HQ.out.2.keep HF.out (by simp)⟩ HB0)
      go_enter Try.func113, Try.ntmps113
      go_wp2_with fail
      refine HCP.out.mono ?_
      rintro e w2 ⟨v2, rfl, f2, u1, u2, e2, o1, o2, hd⟩
      obtain ⟨b1, l1, rfl, _⟩ := o1.formB
      obtain ⟨b2, l2, rfl, _⟩ := o2.formB
      rw [H_hb.out, H_hw.out, H_hr.out] at e2
      subst e2
      have HB2 := Lib.hid (show S7 w2 w.heap.size m.c a1 m.q.length k1 true a2 m.rest.length k2 m.acc 0 0 from f2.keep HB.out (by simp))
      have HZ2 := Lib.hid (show S7 w2 (w.heap.size + 1) 0 none 0 0 false none 0 0 0 0 0 from f2.keep HZ.out (by simp))
      have HF2 := Lib.hid (HF.out.then0 f2)
      clear x0 x1 x2 x3 x4 x5 x6 p0 p1 p2 p3 p4 p5 p6
      obtain ⟨x0, x1, x2, x3, x4, x5, x6, p0, p1, p2, p3, p4, p5, p6⟩ := HB2.out.cells
      have HO1 := Lib.hid o1
      have HO2 := Lib.hid o2
      have HD := Lib.hid hd
      have hz2 := f2.size
      clear o1 o2 hd HCP
      go_wp2_with (refine wpl_store rfl 41 _ _ rfl w.heap.size #[.int .i64 m.c, .slice b1 m.q.length l1, .bool true, .slice b2 m.rest.length l2, .int .i64 m.acc, .int .i64 0, .int .i64 0] (by rfl) (by rfl) _ _ HB2.out (by kernel_rfl) rfl (by simp [Value.oneCell']) ?_)
      intro w3 f3 q3
      have q3' : S7 w3 w.heap.size m.c b1 m.q.length l1 true b2 m.rest.length l2 m.acc 0 0 := q3
      clear x0 x1 x2 x3 x4 x5 x6 p0 p1 p2 p3 p4 p5 p6
      obtain ⟨x0, x1, x2, x3, x4, x5, x6, p0, p1, p2, p3, p4, p5, p6⟩ := q3'.cells
      have HZ3 := Lib.hid (show S7 w3 (w.heap.size + 1) 0 none 0 0 false none 0 0 0 0 0 from f3.keep HZ2.out (by simp))
      have HF3 := Lib.hid (Fr.trans (U := []) (S := []) HF2.out f3 (by simp) (fun x hx => .inr (by simp at hx; omega)))
      have HO13 := Lib.hid (HO1.out.keep f3 (fun k e hm => by have := (HO1.out.lt k e).1; simp at hm; omega))
      have HO23 := Lib.hid (HO2.out.keep f3 (fun k e hm => by have := (HO2.out.lt k e).1; simp at hm; omega))
      have HB3 := Lib.hid q3'
      have hz3 := f3.size
      clear q3 q3' f3 HB2 HZ2 HF2 HO1 HO2
      go_wp2_with fail
      obtain ⟨N2, hN2e⟩ : ∃ N2 : Nat → Prop, N2 = fun x => (Value.slice b2 m.rest.length l2).ownBlock = some x := ⟨_, rfl⟩
      have HN2 := Lib.hid (show ∀ x, N2 x → w0.heap.size ≤ x from fun x hx => by rw [hN2e] at hx; exact (HO23.out.lt x hx).1)
      have HP3 := Lib.hid (show PartV w3 N2 (.slice b2 m.rest.length l2) m.rest from by rw [hN2e]; exact PartV.ofOwB HO23.out)
      have HD3 := Lib.hid (show ∀ x, (Value.slice b1 m.q.length l1).ownBlock = some x → ¬ N2 x from fun x e => by rw [hN2e]; exact HD.out x e)
      have HN3 := Lib.hid (show ∀ x, N2 x → x < w3.heap.size from fun x hx => by rw [hN2e] at hx; exact (HO23.out.lt x hx).2)
      have HRW := Lib.hid (And.intro H_hb.out (And.intro H_hw.out H_hr.out))
      clear hN2e HO23 HD f2 hw0 HB HZ HF H_hb H_hw H_hr x0 x1 x2 x3 x4 x5 x6 p0 p1 p2 p3 p4 p5 p6
      go_loopw [] (fun wr => (∃ (k : Nat) (qk rk : List UInt8) (b1 : Option Addr) (l1 : Nat) (b2 : Option Addr) (l2 : Nat), Hid (k ≤ m.rest.length ∧ qk = m.q ++ m.rest.take k ∧ rk = m.rest.drop k ∧ (0 < k → (qk.length : Int) ≤ m.c)) ∧ Hid (S7 wr w.heap.size m.c b1 qk.length l1 true b2 rk.length l2 (m.acc + k) 0 0) ∧ Hid (S7 wr (w.heap.size + 1) 0 none 0 0 false none 0 0 0 0 0) ∧ Hid (Ow wr w0.heap.size 5 (.slice b1 qk.length l1) ((bi qk).map (Value.int .u8))) ∧ Hid (PartV wr N2 (.slice b2 rk.length l2) rk) ∧ Hid (∀ x, (Value.slice b1 qk.length l1).ownBlock = some x → ¬ N2 x) ∧ Hid (Fr [] w wr)) ∧ w3.heap.size ≤ wr.heap.size) (fun wr => match wr.cell? ⟨w.heap.size, 3, none⟩ with | some (.slice _ n _) => n | _ => 0)
      case atStart => exact ⟨⟨0, m.q, m.rest, b1, l1, b2, l2, Lib.hid ⟨Nat.zero_le _, by simp, rfl, fun h => absurd h (Nat.lt_irrefl 0)⟩, Lib.hid (by simpa using HB3.out), HZ3, HO13, HP3, HD3, HF3⟩, Nat.le_refl _⟩
      case round =>
        clear HB3 HZ3 HO13 HP3 HD3 HF3
        obtain ⟨⟨k, qk, rk, b1, l1, b2, l2, HK1, HBR, HZR, HOR, HPR, HDR, HFR⟩, hwz⟩ := hrel
        rename World => wr
        have HO := Lib.hid (r_open (w := wr) (N := fun _ => True) (v := .agg #[.int .i64 m.c, .slice b1 qk.length l1, .bool true, .slice b2 rk.length l2, .int .i64 (m.acc + k), .int .i64 0, .int .i64 0]) (m := ⟨m.c, qk, true, rk, m.acc + k, 0, 0⟩) ⟨_, _, rfl, (PartV.ofOw HOR.out).mono (fun _ _ => trivial), HPR.out.mono (fun _ _ => trivial)⟩)
        rw [show opM ⟨m.c, qk, true, rk, m.acc + k, 0, 0⟩ = true from rfl] at HO
        obtain ⟨x0, x1, x2, x3, x4, x5, x6, p0, p1, p2, p3, p4, p5, p6⟩ := HBR.out.cells
        go_wp2_with fail
        refine HO.out.mono ?_
        rintro e w5 ⟨rfl, f5⟩
        have HB5 := Lib.hid (show S7 w5 w.heap.size m.c b1 qk.length l1 true b2 rk.length l2 (m.acc + k) 0 0 from f5.keep HBR.out (by simp))
        have HZ5 := Lib.hid (show S7 w5 (w.heap.size + 1) 0 none 0 0 false none 0 0 0 0 0 from f5.keep HZR.out (by simp))
        have HO5 := Lib.hid (HOR.out.keep f5 (by simp))
        have HP5 := Lib.hid (HPR.out.keep f5 (by simp))
        have HF5 := Lib.hid (HFR.out.then0 f5)
        have HD5 := HDR
        have hmu : (match wr.cell? ⟨w.heap.size, 3, none⟩ with | some (.slice _ n _) => n | _ => 0) = rk.length := by rw [x3]
        have HMU := Lib.hid hmu
        clear hmu
        have hz5 := f5.size
        clear HO HBR HZR HOR HPR HFR HDR f5 x0 x1 x2 x3 x4 x5 x6 p0 p1 p2 p3 p4 p5 p6
        obtain ⟨x0, x1, x2, x3, x4, x5, x6, p0, p1, p2, p3, p4, p5, p6⟩ := HB5.out.cells
        by_cases hs : rk = [] ∨ m.c ≤ (qk.length : Int)
        · have he : fillM m = ({ m with q := qk, rest := rk, acc := m.acc + k } : SM) := by obtain ⟨h1, h2, h3, h4⟩ := HK1.out; rw [h2, h3]; exact fill_stop HRW.out.1 HRW.out.2.1 HRW.out.2.2 h1 (h3 ▸ h2 ▸ hs) (h2 ▸ h4)
          have HZS := HZ5
          have HFS := HF5
          have HE := Lib.hid he
          clear he
          by_cases hrk : rk = []
          · have hl : ¬ (0 : Int) < rk.length := by rw [hrk]; simp
            clear hrk hs
            go_wp2_with (refine wpl_store rfl 41 _ _ rfl (w.heap.size + 1) #[.int .i64 m.c, .slice b1 qk.length l1, .bool true, .slice b2 rk.length l2, .int .i64 (m.acc + k), .int .i64 0, .int .i64 0] (by rfl) (by rfl) _ _ HZS.out (by kernel_rfl) rfl (by simp [Value.oneCell']) ?_)
            intro wf ff qf
            obtain ⟨y0, y1, y2, y3, y4, y5, y6, _, _, _, _, _, _, _⟩ := S7.cells qf
            clear x0 x1 x2 x3 x4 x5 x6 p0 p1 p2 p3 p4 p5 p6
            go_wp2_with fail
            refine bodyPost_ret (v := .agg #[.int .i64 m.c, .slice b1 qk.length l1, .bool true, .slice b2 rk.length l2, .int .i64 (m.acc + k), .int .i64 0, .int .i64 0]) (by simp [results, Try.results113, go_sem, y0, y1, y2, y3, y4, y5, y6]) rfl ?_
            have F : Fr [] w wf := Fr.trans (U := []) (S := []) HFS.out ff (by simp) (fun x hx => .inr (by simp at hx; omega))
            rw [HE.out]
            refine ⟨_, rfl, F, _, _, (by first | rfl | rw [HRW.out.1, HRW.out.2.1, HRW.out.2.2]), ((PartV.ofOw HO5.out).keep ff (by intro x hx hn; simp at hx; have hn' : w0.heap.size ≤ x := hn; omega)).mono (fun x hx => by have hn' : w0.heap.size ≤ x := hx; show w.heap.size ≤ x; omega), ((HP5.out).keep ff (by intro x hx hn; simp at hx; have hn' : w0.heap.size ≤ x := HN2.out x hn; omega)).mono (fun x hx => by have hn' : w0.heap.size ≤ x := HN2.out x hx; show w.heap.size ≤ x; omega)⟩
          · have hl : (0 : Int) < rk.length := by have := List.length_pos_iff.2 hrk; omega
            have hl2 : ¬ (qk.length : Int) < m.c := by rcases hs with h | h; exact absurd h hrk; omega
            go_wp2_with (refine wpl_store rfl 41 _ _ rfl (w.heap.size + 1) #[.int .i64 m.c, .slice b1 qk.length l1, .bool true, .slice b2 rk.length l2, .int .i64 (m.acc + k), .int .i64 0, .int .i64 0] (by rfl) (by rfl) _ _ HZS.out (by kernel_rfl) rfl (by simp [Value.oneCell']) ?_)
            intro wf ff qf
            obtain ⟨y0, y1, y2, y3, y4, y5, y6, _, _, _, _, _, _, _⟩ := S7.cells qf
            clear x0 x1 x2 x3 x4 x5 x6 p0 p1 p2 p3 p4 p5 p6
            go_wp2_with fail
            refine bodyPost_ret (v := .agg #[.int .i64 m.c, .slice b1 qk.length l1, .bool true, .slice b2 rk.length l2, .int .i64 (m.acc + k), .int .i64 0, .int .i64 0]) (by simp [results, Try.results113, go_sem, y0, y1, y2, y3, y4, y5, y6]) rfl ?_
            have F : Fr [] w wf := Fr.trans (U := []) (S := []) HFS.out ff (by simp) (fun x hx => .inr (by simp at hx; omega))
            rw [HE.out]
            refine ⟨_, rfl, F, _, _, (by first | rfl | rw [HRW.out.1, HRW.out.2.1, HRW.out.2.2]), ((PartV.ofOw HO5.out).keep ff (by intro x hx hn; simp at hx; have hn' : w0.heap.size ≤ x := hn; omega)).mono (fun x hx => by have hn' : w0.heap.size ≤ x := hx; show w.heap.size ≤ x; omega), ((HP5.out).keep ff (by intro x hx hn; simp at hx; have hn' : w0.heap.size ≤ x := HN2.out x hn; omega)).mono (fun x hx => by have hn' : w0.heap.size ≤ x := HN2.out x hx; show w.heap.size ≤ x; omega)⟩
        · obtain ⟨x, rs, rfl⟩ : ∃ x l, rk = x :: l := by cases rk with | nil => exact absurd (.inl rfl) hs | cons x l => exact ⟨x, l, rfl⟩
          have hcap : (qk.length : Int) < m.c := by refine Int.not_le.1 fun h => hs (.inr h)
          clear hs
          have hrx := HP5.out
          obtain ⟨ra, rc, he1, hrc, hrm, hrs, hrn⟩ := hrx
          injection he1 with he1 he2 he3
          subst he1 he3
          obtain ⟨rb, ro, rfl, hrb, hcx⟩ := hrs (by simp [bi_length])
          have hN2b := hrn rb ro (by simp) rfl
          have hc0 := hcx 0 (by simp [bi_length])
          have HRX := Lib.hid (show w5.cell? ⟨rb, ro, none⟩ = some (.int .u8 x.toNat) ∧ rb < w5.heap.size ∧ N2 rb from ⟨by simpa [bi] using hc0, hrb, hN2b⟩)
          have HRC := Lib.hid hrc
          clear hrm hrs hrn hrb hcx hc0 hN2b hrc
          obtain ⟨j1, j2, j3, j4⟩ := HK1.out
          have hkr : k < m.rest.length := by have := congrArg List.length j3; simp at this; omega
          have hql : qk.length ≤ 2000000 := by rw [j2, List.length_append, List.length_take]; have := HB0.1; have := HB0.2; omega
          have HM1 : Hid (((bi qk).map (Value.int .u8)).length + 1 ≤ maxLen) := Lib.hid (by rw [List.length_map, bi_length]; unfold maxLen; omega)
          have HM2 : Hid ((((bi qk).map (Value.int .u8)).length + 1) * 1 ≤ 140737488355328) := Lib.hid (by rw [List.length_map, bi_length]; omega)
          have HNX := Lib.hid (show k + 1 ≤ m.rest.length ∧ qk ++ [x] = m.q ++ m.rest.take (k + 1) ∧ rs = m.rest.drop (k + 1) ∧ (0 < k + 1 → ((qk ++ [x]).length : Int) ≤ m.c) from fill_next hkr j2 j3 hcap)
          have hka : m.acc + (k : Int) ≤ 2000000 ∧ 0 ≤ m.acc + (k : Int) := by have := HA0; have := HB0.2; omega
          clear j1 j2 j3 j4 HK1 hkr
          have hl : (0 : Int) < (x :: rs).length := by simp
          go_wp2_with fail
          have fd : Fr [] w5 w5.drew := (Fr.refl _ _).drew
          refine wp_region_till [(0, true), (1, true), (2, true), (3, true), (4, true), (5, true), (6, false), (7, false), (8, true)] [9] (fun w' => w'.cell? ⟨w.heap.size, 1, none⟩ = some (.slice b1 qk.length l1) ∧ w'.cell? ⟨w.heap.size, 3, none⟩ = some (.slice (some ⟨rb, ro, none⟩) (x :: rs).length l2) ∧ w'.cell? ⟨rb, ro, none⟩ = some (.int .u8 x.toNat)) (by kernel_rfl) (by kernel_rfl) ⟨(S7.cells (show S7 w5.drew _ _ _ _ _ _ _ _ _ _ _ _ from fd.keep HB5.out (by simp))).2.1, (S7.cells (show S7 w5.drew _ _ _ _ _ _ _ _ _ _ _ _ from fd.keep HB5.out (by simp))).2.2.2.1, (World.cell?_of_block (w := w5) (fd.block rb HRX.out.2.1 (by simp))).trans HRX.out.1⟩ ?_
          intro OPS HOPS
          have hops := HOPS.out
          try simp only [List.append_eq, List.cons_append, List.nil_append] at hops
          replace HOPS := Lib.hid hops
          clear hops
          refine walkX_take (o := _) (v := ?_) (by rw [HOPS.out]; simp only [gA, gB, gC]; exact rfl) (Or.inl ⟨rfl, ?_⟩) ?_
          rotate_left
          · (intro w hSw; (try dsimp only at hSw); go_simp) <;> (with_reducible rfl)
          simp only [Act.put, gD, gE, gF]
          refine walkX_take (o := _) (v := ?_) (by rw [HOPS.out]; simp only [gA, gB, gC]; exact rfl) (Or.inl ⟨rfl, ?_⟩) ?_
          rotate_left
          · (intro w hSw; (try dsimp only at hSw); go_simp) <;> (with_reducible rfl)
          simp only [Act.put, gD, gE, gF]
          refine walkX_take (o := _) (v := ?_) (by rw [HOPS.out]; simp only [gA, gB, gC]; exact rfl) (Or.inl ⟨rfl, ?_⟩) ?_
          rotate_left
          · (intro w hSw; (try dsimp only at hSw); go_simp) <;> (with_reducible rfl)
          simp only [Act.put, gD, gE, gF]
          refine walkX_take (o := _) (v := ?_) (by rw [HOPS.out]; simp only [gA, gB, gC]; exact rfl) (Or.inl ⟨rfl, ?_⟩) ?_
          rotate_left
          · (intro w hSw; (try dsimp only at hSw); go_simp) <;> (with_reducible rfl)
          simp only [Act.put, gD, gE, gF]
          refine walkX_take (o := _) (v := ?_) (by rw [HOPS.out]; simp only [gA, gB, gC]; exact rfl) (Or.inl ⟨rfl, ?_⟩) ?_
          rotate_left
          · (intro w hSw; (try dsimp only at hSw); go_simp) <;> (with_reducible rfl)
          simp only [Act.put, gD, gE, gF]
          refine walkX_take (o := _) (v := ?_) (by rw [HOPS.out]; simp only [gA, gB, gC]; exact rfl) (Or.inl ⟨rfl, ?_⟩) ?_
          rotate_left
          · (intro w hSw; (try dsimp only at hSw); go_simp) <;> (with_reducible rfl)
          simp only [Act.put, gD, gE, gF]
          refine walkX_call (o := _) (by rw [HOPS.out]; simp only [gA, gB, gC]; exact rfl) (fun K HK => ?_)
          go_simp
          obtain ⟨w6, hw6, g6, q6⟩ : ∃ W, (w5.alloc (.cells #[.int .u8 x.toNat] 5)).drew = W ∧ Fr [] w5 W ∧ W.heap[w5.heap.size]? = some (.cells #[.int .u8 x.toNat] 5 (0, 0)) := ⟨_, rfl, ((Fr.refl _ _).alloc _).drew, newA rfl⟩
          try rw [hw6]
          refine HK.out (fun w' => w'.cell? ⟨w.heap.size, 1, none⟩ = some (.slice b1 qk.length l1) ∧ w'.cell? ⟨w.heap.size, 3, none⟩ = some (.slice (some ⟨rb, ro, none⟩) (x :: rs).length l2) ∧ w'.cell? ⟨rb, ro, none⟩ = some (.int .u8 x.toNat)) _ _ (fun _ h => h) (⟨(S7.cells (show S7 w6 _ _ _ _ _ _ _ _ _ _ _ _ from g6.keep HB5.out (by simp))).2.1, (S7.cells (show S7 w6 _ _ _ _ _ _ _ _ _ _ _ _ from g6.keep HB5.out (by simp))).2.2.2.1, (World.cell?_of_block (w := w5) (g6.block rb HRX.out.2.1 (by simp))).trans HRX.out.1⟩) ?_
          clear HK K
          try simp only [Act.put, gD, gE, gF]
          refine walkX_call (o := _) (by rw [HOPS.out]; simp only [gA, gB, gC]; exact rfl) (fun K HK => ?_)
          have hz6 := g6.size
          refine step_append_fr2 rfl (.tmp 26) (.tmp 31) 29 rfl 5 (.int .u8 0) 1 HU.out HIN.out rfl w0.heap.size (.slice b1 qk.length l1) ((bi qk).map (Value.int .u8)) rfl (HO5.out.keep g6 (by simp)) (some ⟨w5.heap.size, 0, none⟩) 1 1 ((bi [x]).map (Value.int .u8)) (by simp [Act.eval]; try rfl) rfl (fun _ => ⟨_, 0, rfl, lt_of_heap q6, fun i hi => by have h0 : i = 0 := (by simpa [bi] using hi); subst h0; exact cell_of q6⟩) (bytes_one _) HM1.out HM2.out (by omega) ?_
          intro v7 w7 o7 f7 hb7
          have o7' : Ow w7 w0.heap.size 5 v7 ((bi (qk ++ [x])).map (Value.int .u8)) := by rw [bi_append, List.map_append]; exact o7
          obtain ⟨b7, l7, rfl, _⟩ := o7'.formB
          have hob := HO5.out.lt
          have Q7 : S7 w7 w.heap.size m.c b1 qk.length l1 true (some ⟨rb, ro, none⟩) (x :: rs).length l2 (m.acc + k) 0 0 := f7.keep (g6.keep HB5.out (by simp)) (fun hm => by have := (hob _ (by simpa using hm)).1; omega)
          have QZ7 : S7 w7 (w.heap.size + 1) 0 none 0 0 false none 0 0 0 0 0 := f7.keep (g6.keep HZ5.out (by simp)) (fun hm => by have := (hob _ (by simpa using hm)).1; omega)
          have HRX7 : w7.cell? ⟨rb, ro, none⟩ = some (.int .u8 x.toNat) := (World.cell?_of_block (w := w5) ((g6.trans f7 (U := (Value.slice b1 qk.length l1).ownBlock.toList) (by simp) (fun x hx => .inl hx)).block rb HRX.out.2.1 (fun hm => HD5.out rb (by simpa using hm) HRX.out.2.2))).trans HRX.out.1
          refine HK.out (fun w' => w'.cell? ⟨w.heap.size, 1, none⟩ = some (.slice b1 qk.length l1) ∧ w'.cell? ⟨w.heap.size, 3, none⟩ = some (.slice (some ⟨rb, ro, none⟩) (x :: rs).length l2) ∧ w'.cell? ⟨rb, ro, none⟩ = some (.int .u8 x.toNat)) _ _ (fun _ h => h) (⟨Q7.cells.2.1, Q7.cells.2.2.2.1, HRX7⟩) ?_
          clear HK K
          try simp only [Act.put, gD, gE, gF]
          refine walkX_take (o := _) (v := ?_) (by rw [HOPS.out]; simp only [gA, gB, gC]; exact rfl) (Or.inl ⟨rfl, ?_⟩) ?_
          rotate_left
          · (intro w hSw; (try dsimp only at hSw); go_simp) <;> (with_reducible rfl)
          simp only [Act.put, gD, gE, gF]
          refine walkX_tail ?_
          refine walkTail_step (o := _) (by rw [HOPS.out]; simp only [gA, gB, gC]; exact rfl) (fun K HK => ?_)
          have c7 := Q7.cells.2.1
          have p7 : w7.frozen? ⟨w.heap.size, 1, none⟩ = false := free_of Q7
          go_simp
          obtain ⟨w8, hw8, f8, q8⟩ : ∃ W, w7.setCell ⟨w.heap.size, 1, none⟩ (.slice b7 (qk ++ [x]).length l7) = W ∧ Fr [w.heap.size] w7 W ∧ S7 W w.heap.size m.c b7 (qk ++ [x]).length l7 true (some ⟨rb, ro, none⟩) (x :: rs).length l2 (m.acc + k) 0 0 := ⟨_, rfl, Fr.setCell (p := ⟨w.heap.size, 1, none⟩) (Fr.refl _ _) (.inl (by simp)) (.slice b7 (qk ++ [x]).length l7), (by have hx := heap_setCell_eq (i := 1) (u := .slice b7 (qk ++ [x]).length l7) Q7; simpa [S7] using hx)⟩
          try simp only [List.length_append, List.length_singleton, List.length_cons, List.length_nil] at hw8
          try simp only [List.length_append, List.length_singleton, List.length_cons, List.length_nil]
          try rw [hw8]
          refine HK.out _ _ ?_
          clear HK K
          try simp only [Act.put, gD, gE, gF]
          refine walkTail_done ?_
          clear HOPS OPS
          have hwA : IntKind.i64.wrap (m.acc + (k : Int) + 1) = m.acc + (k : Int) + 1 := IntWalk.i64_in _ (by omega)
          have hrun : ∀ w', (Instr.slice 29 (.slice (some ⟨rb, ro, none⟩) (x :: rs).length l2) (some (.int .i64 1)) none none).run Try.prog w' = .ok (.slice (cutp (some ⟨rb, ro, none⟩) l2 1) rs.length (l2 - 1)) w' := fun w' => run_cutl (by simp) w'
          clear hw6 fd c7 p7 x0 x1 x2 x3 x4 x5 x6 p0 p1 p2 p3 p4 p5 p6
          obtain ⟨x0, x1, x2, x3, x4, x5, x6, p0, p1, p2, p3, p4, p5, p6⟩ := q8.cells
          obtain ⟨w9, hw9, f9, q9⟩ : ∃ W, w8.setCell ⟨w.heap.size, 3, none⟩ (.slice (if l2 = 1 then (some ⟨rb, ro, none⟩ : Option Addr) else some ⟨rb, ro + 1, none⟩) rs.length (l2 - 1)) = W ∧ Fr [w.heap.size] w8 W ∧ S7 W w.heap.size m.c b7 (qk ++ [x]).length l7 true (if l2 = 1 then (some ⟨rb, ro, none⟩ : Option Addr) else some ⟨rb, ro + 1, none⟩) rs.length (l2 - 1) (m.acc + k) 0 0 := ⟨_, rfl, Fr.setCell (p := ⟨w.heap.size, 3, none⟩) (Fr.refl _ _) (.inl (by simp)) (.slice (if l2 = 1 then (some ⟨rb, ro, none⟩ : Option Addr) else some ⟨rb, ro + 1, none⟩) rs.length (l2 - 1)), (by have hx := heap_setCell_eq (i := 3) (u := .slice (if l2 = 1 then (some ⟨rb, ro, none⟩ : Option Addr) else some ⟨rb, ro + 1, none⟩) rs.length (l2 - 1)) q8; simpa [S7] using hx)⟩
          have c9 := q9.cells.2.2.2.2.1
          have p9 : w9.frozen? ⟨w.heap.size, 4, none⟩ = false := free_of q9
          obtain ⟨w10, hw10, f10, q10⟩ : ∃ W, w9.setCell ⟨w.heap.size, 4, none⟩ (.int .i64 (m.acc + (k : Int) + 1)) = W ∧ Fr [w.heap.size] w9 W ∧ S7 W w.heap.size m.c b7 (qk ++ [x]).length l7 true (if l2 = 1 then (some ⟨rb, ro, none⟩ : Option Addr) else some ⟨rb, ro + 1, none⟩) rs.length (l2 - 1) (m.acc + k + 1) 0 0 := ⟨_, rfl, Fr.setCell (p := ⟨w.heap.size, 4, none⟩) (Fr.refl _ _) (.inl (by simp)) _, (by have hx := heap_setCell_eq (i := 4) (u := .int .i64 (m.acc + (k : Int) + 1)) q9; simpa [S7] using hx)⟩
          have f810 : Fr [w.heap.size] w7 w10 := (f8.trans f9 (fun _ h => .inl h) (fun x hx => .inl hx)).trans f10 (fun _ h => .inl h) (fun x hx => .inl hx)
          have hcv : cutp (some ⟨rb, ro, none⟩) l2 1 = (if l2 = 1 then (some ⟨rb, ro, none⟩ : Option Addr) else some ⟨rb, ro + 1, none⟩) := by unfold cutp; split <;> rfl
          have hob := HO5.out.lt
          have hob7 := o7'.lt
          have z8 := f810.size
          have z7 := f7.size
          have z6 := g6.size
          have hF : Fr [] w w10 := ((HF5.out.then0 g6).own f7 (fun k e => .inr (by have := (hob k e).1; omega))).trans f810 (by simp) (fun x hx => .inr (by simp at hx; omega))
          have hO := o7'.keep f810 (fun k e hm => by have := (hob7 k e).1; simp at hm; omega)
          have hP := (((HP5.out.keep g6 (by simp)).keep f7 (fun x hx => HD5.out x (by simpa using hx))).keep f810 (fun x hx hn => by have := HN2.out x hn; simp at hx; omega)).cut1
          rw [hcv] at hP
          have hD : ∀ y, (Value.slice b7 (qk ++ [x]).length l7).ownBlock = some y → ¬ N2 y := fun y e hn => by rcases hb7 with h | h; exact HD5.out y (h ▸ e) hn; rw [h] at e; injection e with e; have := HN3.out y hn; omega
          have hZ : S7 w10 (w.heap.size + 1) 0 none 0 0 false none 0 0 0 0 0 := QZ7.keep7 f810
          have HEND := Lib.hid (And.intro (show S7 w10 w.heap.size m.c b7 (qk ++ [x]).length l7 true (if l2 = 1 then (some ⟨rb, ro, none⟩ : Option Addr) else some ⟨rb, ro + 1, none⟩) rs.length (l2 - 1) (m.acc + ((k + 1 : Nat) : Int)) 0 0 from by rw [show m.acc + ((k + 1 : Nat) : Int) = m.acc + (k : Int) + 1 from by omega]; exact q10) (And.intro hZ (And.intro hO (And.intro hP (And.intro hD (And.intro hF (show w3.heap.size ≤ w10.heap.size from by omega)))))))
          have c10 := q10.cells.2.2.2.1
          have HC10 := Lib.hid c10
          clear hF hO hP hD hZ o7 o7' f810 q10 c10 hb7 f7 g6 QZ7 Q7 HRX7 q6 f8 f9 f10 q8 q9
          go_wp2_with fail
          go_roundw
          case rel => exact ⟨⟨k + 1, qk ++ [x], rs, b7, l7, (if l2 = 1 then (some ⟨rb, ro, none⟩ : Option Addr) else some ⟨rb, ro + 1, none⟩), l2 - 1, HNX, Lib.hid HEND.out.1, Lib.hid HEND.out.2.1, Lib.hid HEND.out.2.2.1, Lib.hid HEND.out.2.2.2.1, Lib.hid HEND.out.2.2.2.2.1, Lib.hid HEND.out.2.2.2.2.2.1⟩, HEND.out.2.2.2.2.2.2⟩
          case measure => rw [HMU.out, HC10.out]; simp

end Go.Proofs.Ytdoamelhclnphaa

namespace Go.Proofs.Ytdoamelhclnphaa
open Go.RowKit
set_option maxRecDepth 100000

section
variable {P : Program}
theorem step_store7 {ops : Array Oper} {o : Oper} {a : Act} {w : World} {K : Act → World → Prop} {Q : Exit → Act → World → Prop} {E : Prop} (hw : Region.wanted o (yielded ops a.tmps) = true) (ty : TypeId) (x y : Operand) (ho : o.op = .store ty x y)
    (g : Nat) (cells : Array Value) (hx : a.eval x = .pointer (some ⟨g, 0, none⟩)) (hy : a.eval y = .agg cells)
    (t : TypeId) (old : Array Value) (hg : w.heap[g]? = some (.cells old t (0, 0))) (hi : (P.info? ty).map (·.size) = some cells.size)
    (hold : old.size = cells.size) (h1 : cells.all (·.oneCell') = true)
    (h : ∀ w', Fr [g] w w' → w'.heap[g]? = some (.cells cells t (0, 0)) → K (a.put o.dst undef) w') :
    if Region.wanted o (yielded ops a.tmps) = true then Oper.wp P o a w K Q else E := by
  rw [if_pos hw]
  exact wp_store_row ty x y ho g cells hx hy t old hg hi hold h1 (h _ setRow_fr' (setRow_heap w g old cells t (0, 0) hg))
end
set_option maxHeartbeats 4000000 in
theorem r_begin {w : World} {N : Nat → Prop} {v : Value} {m : SM} (h : Sv w N v m) {N' : Nat → Prop} {u : Value} {X : List UInt8} (hu : PartV w N' u X) (HB0 : m.q.length ≤ 1000000 ∧ X.length ≤ 1000000) :
    Calls Try.prog 82 #[v, u] w fun e w' => ∃ v', e = .returned (.tuple #[v', .int .i64 (beginM m X).err]) ∧ Fr [] w w' ∧ Sv w' (fun x => N x ∨ w.heap.size ≤ x) v' (beginM m X).m := by
  obtain ⟨u1, u2, rfl, hq, hr⟩ := h
  obtain ⟨a1, k1, rfl, _⟩ := id hq
  obtain ⟨a2, k2, rfl, _⟩ := id hr
  have HQ := Lib.hid (And.intro hq hr)
  clear hq hr
  by_cases hw : m.w ≠ 0
  · have e : beginM m X = ⟨m, 14⟩ := by unfold beginM; rw [if_pos hw]
    rw [e]
    clear e
    obtain ⟨w0, hw0, f0, q0, z0⟩ : ∃ W, (w.alloc (.cells #[.int .i64 m.c, .slice a1 m.q.length k1, .bool m.busy, .slice a2 m.rest.length k2, .int .i64 m.acc, .int .i64 m.w, .int .i64 m.r] 41)).alloc (.cells #[.int .i64 0, .slice none 0 0, .bool false, .slice none 0 0, .int .i64 0, .int .i64 0, .int .i64 0] 41) = W ∧ Fr [] w W ∧ S7 W w.heap.size m.c a1 m.q.length k1 m.busy a2 m.rest.length k2 m.acc m.w m.r ∧ S7 W (w.heap.size + 1) 0 none 0 0 false none 0 0 0 0 0 := ⟨_, rfl, ((Fr.refl _ _).alloc _).alloc _, keepA (newA rfl), newA (by simp)⟩
    obtain ⟨x0, x1, x2, x3, x4, x5, x6, p0, p1, p2, p3, p4, p5, p6⟩ := q0.cells
    have hz0 : w.heap.size + 1 < w0.heap.size := lt_of_heap z0
    have HZ := Lib.hid z0
    have HF := Lib.hid f0
    have HB := Lib.hid q0
    clear q0 z0 f0
    have HZS := Lib.hid (HZ.out)
    have HFS := Lib.hid (HF.out)
    go_enter Try.func82, Try.ntmps82
    go_wp2_with (refine wpl_store rfl 41 _ _ rfl (w.heap.size + 1) #[.int .i64 m.c, .slice a1 m.q.length k1, .bool m.busy, .slice a2 m.rest.length k2, .int .i64 m.acc, .int .i64 m.w, .int .i64 m.r] (by rfl) (by rfl) _ _ HZS.out (by kernel_rfl) rfl (by simp [Value.oneCell']) ?_)
    intro wf ff qf
    obtain ⟨y0, y1, y2, y3, y4, y5, y6, _, _, _, _, _, _, _⟩ := S7.cells qf
    clear x0 x1 x2 x3 x4 x5 x6 p0 p1 p2 p3 p4 p5 p6
    go_wp2_with fail
    refine bodyPost_ret (v := .tuple #[.agg #[.int .i64 m.c, .slice a1 m.q.length k1, .bool m.busy, .slice a2 m.rest.length k2, .int .i64 m.acc, .int .i64 m.w, .int .i64 m.r], .int .i64 14]) (by simp [results, Try.results82, go_sem, y0, y1, y2, y3, y4, y5, y6]) rfl ?_
    have F : Fr [] w wf := Fr.trans (U := []) (S := []) HFS.out ff (by simp) (fun x hx => .inr (by simp at hx; omega))
    exact ⟨_, rfl, F, _, _, rfl, ((HQ.out.1.keep F (by simp)).mono (fun _ h => .inl h)), ((HQ.out.2.keep F (by simp)).mono (fun _ h => .inl h))⟩
  · have hw' : m.w = 0 := by omega
    by_cases hr : m.r ≠ 0
    · have e : beginM m X = ⟨m, m.r⟩ := by unfold beginM; rw [if_neg hw, if_pos hr]
      rw [e]
      clear e hw
      rw [hw']
      have H_hw' := Lib.hid hw'
      obtain ⟨w0, hw0, f0, q0, z0⟩ : ∃ W, (w.alloc (.cells #[.int .i64 m.c, .slice a1 m.q.length k1, .bool m.busy, .slice a2 m.rest.length k2, .int .i64 m.acc, .int .i64 0, .int .i64 m.r] 41)).alloc (.cells #[.int .i64 0, .slice none 0 0, .bool false, .slice none 0 0, .int .i64 0, .int .i64 0, .int .i64 0] 41) = W ∧ Fr [] w W ∧ S7 W w.heap.size m.c a1 m.q.length k1 m.busy a2 m.rest.length k2 m.acc 0 m.r ∧ S7 W (w.heap.size + 1) 0 none 0 0 false none 0 0 0 0 0 := ⟨_, rfl, ((Fr.refl _ _).alloc _).alloc _, keepA (newA rfl), newA (by simp)⟩
      obtain ⟨x0, x1, x2, x3, x4, x5, x6, p0, p1, p2, p3, p4, p5, p6⟩ := q0.cells
      have hz0 : w.heap.size + 1 < w0.heap.size := lt_of_heap z0
      have HZ := Lib.hid z0
      have HF := Lib.hid f0
      have HB := Lib.hid q0
      clear q0 z0 f0
      clear hw'
      have HZS := HZ
      have HFS := HF
      have HFA := Lib.hid fun (w' : World) (f : S7 w' w.heap.size m.c a1 m.q.length k1 m.busy a2 m.rest.length k2 m.acc 0 m.r) => (show w'.cell? ⟨w.heap.size, 0, none⟩ = some (.int .i64 m.c) ∧ w'.cell? ⟨w.heap.size, 1, none⟩ = some (.slice a1 m.q.length k1) ∧ w'.cell? ⟨w.heap.size, 2, none⟩ = some (.bool m.busy) ∧ w'.cell? ⟨w.heap.size, 3, none⟩ = some (.slice a2 m.rest.length k2) ∧ w'.cell? ⟨w.heap.size, 4, none⟩ = some (.int .i64 m.acc) ∧ w'.cell? ⟨w.heap.size, 5, none⟩ = some (.int .i64 0) ∧ w'.cell? ⟨w.heap.size, 6, none⟩ = some (.int .i64 m.r) from (let q := S7.cells f; ⟨q.1, q.2.1, q.2.2.1, q.2.2.2.1, q.2.2.2.2.1, q.2.2.2.2.2.1, q.2.2.2.2.2.2.1⟩))
      go_enter Try.func82, Try.ntmps82
      go_wp2_with fail
      have fd : Fr [] w0 w0.drew := (Fr.refl _ _).drew
      replace HZS := Lib.hid (show S7 w0.drew (w.heap.size + 1) 0 none 0 0 false none 0 0 0 0 0 from fd.keep HZS.out (by simp))
      refine wp_region_order [(0, true), (1, true), (2, true), (3, false), (4, true)] (fun w' => S7 w' w.heap.size m.c a1 m.q.length k1 m.busy a2 m.rest.length k2 m.acc 0 m.r) (by kernel_rfl) (by kernel_rfl) (fd.keep HB.out (by simp)) ?_
      intro OPS HOPS
      have hops := HOPS.out
      try simp only [List.append_eq, List.cons_append, List.nil_append] at hops
      replace HOPS := Lib.hid hops
      clear hops
      refine walkO_take (o := _) (v := ?_) (by rw [HOPS.out]; simp only [gA, gB, gC]; exact rfl) (Or.inl ⟨rfl, ?_⟩) ?_
      rotate_left
      · (intro w hSw; have hSx := HFA.out _ hSw; (try dsimp only at hSx); clear hSw; go_simp) <;> (with_reducible rfl)
      simp only [Act.put, gD, gE, gF]
      refine walkO_take (o := _) (v := ?_) (by rw [HOPS.out]; simp only [gA, gB, gC]; exact rfl) (Or.inl ⟨rfl, ?_⟩) ?_
      rotate_left
      · (intro w hSw; have hSx := HFA.out _ hSw; (try dsimp only at hSx); clear hSw; go_simp) <;> (with_reducible rfl)
      simp only [Act.put, gD, gE, gF]
      refine walkO_take (o := _) (v := ?_) (by rw [HOPS.out]; simp only [gA, gB, gC]; exact rfl) (Or.inl ⟨rfl, ?_⟩) ?_
      rotate_left
      · (intro w hSw; have hSx := HFA.out _ hSw; (try dsimp only at hSx); clear hSw; go_simp) <;> (with_reducible rfl)
      simp only [Act.put, gD, gE, gF]
      refine walkO_call (o := _) (by rw [HOPS.out]; simp only [gA, gB, gC]; exact rfl) (fun K HK => ?_)
      refine step_store7 rfl 41 (.tmp 4) (.tmp 13) rfl (w.heap.size + 1) #[.int .i64 m.c, .slice a1 m.q.length k1, .bool m.busy, .slice a2 m.rest.length k2, .int .i64 m.acc, .int .i64 0, .int .i64 m.r] (by simp [Act.eval]) (by simp [Act.eval]) _ _ HZS.out (by kernel_rfl) rfl (by simp [Value.oneCell']) ?_
      intro wf ff qf
      obtain ⟨y0, y1, y2, y3, y4, y5, y6, _, _, _, _, _, _, _⟩ := S7.cells qf
      refine HK.out (fun w' => S7 w' w.heap.size m.c a1 m.q.length k1 m.busy a2 m.rest.length k2 m.acc 0 m.r) _ _ (fun _ h => h) (ff.keep (fd.keep HB.out (by simp)) (by simp)) ?_
      clear HK K
      try simp only [Act.put, gD, gE, gF]
      refine walkO_take (o := _) (v := ?_) (by rw [HOPS.out]; simp only [gA, gB, gC]; exact rfl) (Or.inl ⟨rfl, ?_⟩) ?_
      rotate_left
      · (intro w hSw; have hSx := HFA.out _ hSw; (try dsimp only at hSx); clear hSw; go_simp) <;> (with_reducible rfl)
      simp only [Act.put, gD, gE, gF]
      refine walkO_done ?_
      clear HOPS OPS
      clear x0 x1 x2 x3 x4 x5 x6 p0 p1 p2 p3 p4 p5 p6
      go_wp2_with fail
      refine bodyPost_ret (v := .tuple #[.agg #[.int .i64 m.c, .slice a1 m.q.length k1, .bool m.busy, .slice a2 m.rest.length k2, .int .i64 m.acc, .int .i64 0, .int .i64 m.r], .int .i64 m.r]) (by simp [results, Try.results82, go_sem, y0, y1, y2, y3, y4, y5, y6]) rfl ?_
      have F : Fr [] w wf := Fr.trans (U := []) (S := []) (HFS.out.then0 fd) ff (by simp) (fun x hx => .inr (by simp at hx; omega))
      exact ⟨_, rfl, F, _, _, (by first | rfl | rw [H_hw'.out]), ((HQ.out.1.keep F (by simp)).mono (fun _ h => .inl h)), ((HQ.out.2.keep F (by simp)).mono (fun _ h => .inl h))⟩
    · have hr' : m.r = 0 := by omega
      by_cases hb : m.busy = true
      · have e : beginM m X = ⟨m, 11⟩ := by unfold beginM; rw [if_neg hw, if_neg hr, if_pos hb]
        have hb' := hb
        rw [e]
        clear e hw hr hb
        rw [hw']
        rw [hr']
        rw [hb']
        have H_hw' := Lib.hid hw'
        have H_hr' := Lib.hid hr'
        have H_hb' := Lib.hid hb'
        obtain ⟨w0, hw0, f0, q0, z0⟩ : ∃ W, (w.alloc (.cells #[.int .i64 m.c, .slice a1 m.q.length k1, .bool true, .slice a2 m.rest.length k2, .int .i64 m.acc, .int .i64 0, .int .i64 0] 41)).alloc (.cells #[.int .i64 0, .slice none 0 0, .bool false, .slice none 0 0, .int .i64 0, .int .i64 0, .int .i64 0] 41) = W ∧ Fr [] w W ∧ S7 W w.heap.size m.c a1 m.q.length k1 true a2 m.rest.length k2 m.acc 0 0 ∧ S7 W (w.heap.size + 1) 0 none 0 0 false none 0 0 0 0 0 := ⟨_, rfl, ((Fr.refl _ _).alloc _).alloc _, keepA (newA rfl), newA (by simp)⟩
        obtain ⟨x0, x1, x2, x3, x4, x5, x6, p0, p1, p2, p3, p4, p5, p6⟩ := q0.cells
        have hz0 : w.heap.size + 1 < w0.heap.size := lt_of_heap z0
        have HZ := Lib.hid z0
        have HF := Lib.hid f0
        have HB := Lib.hid q0
        clear q0 z0 f0
        clear hw' hr' hb'
        have HZS := Lib.hid (HZ.out)
        have HFS := Lib.hid (HF.out)
        go_enter Try.func82, Try.ntmps82
        go_wp2_with (refine wpl_store rfl 41 _ _ rfl (w.heap.size + 1) #[.int .i64 m.c, .slice a1 m.q.length k1, .bool true, .slice a2 m.rest.length k2, .int .i64 m.acc, .int .i64 0, .int .i64 0] (by rfl) (by rfl) _ _ HZS.out (by kernel_rfl) rfl (by simp [Value.oneCell']) ?_)
        intro wf ff qf
        obtain ⟨y0, y1, y2, y3, y4, y5, y6, _, _, _, _, _, _, _⟩ := S7.cells qf
        clear x0 x1 x2 x3 x4 x5 x6 p0 p1 p2 p3 p4 p5 p6
        go_wp2_with fail
        refine bodyPost_ret (v := .tuple #[.agg #[.int .i64 m.c, .slice a1 m.q.length k1, .bool true, .slice a2 m.rest.length k2, .int .i64 m.acc, .int .i64 0, .int .i64 0], .int .i64 11]) (by simp [results, Try.results82, go_sem, y0, y1, y2, y3, y4, y5, y6]) rfl ?_
        have F : Fr [] w wf := Fr.trans (U := []) (S := []) HFS.out ff (by simp) (fun x hx => .inr (by simp at hx; omega))
        exact ⟨_, rfl, F, _, _, (by first | rfl | rw [H_hw'.out, H_hr'.out, H_hb'.out]), ((HQ.out.1.keep F (by simp)).mono (fun _ h => .inl h)), ((HQ.out.2.keep F (by simp)).mono (fun _ h => .inl h))⟩
      · have hb' : m.busy = false := by simpa using hb
        have e : beginM m X = ⟨fillM { m with busy := true, rest := X, acc := 0 }, 0⟩ := by unfold beginM; rw [if_neg hw, if_neg hr, if_neg hb]
        rw [e]
        clear e hw hr hb
        generalize hmf : fillM ({ m with busy := true, rest := X, acc := 0 } : SM) = mf
        rw [hw', hr', hb']
        have H_hw' := Lib.hid hw'
        have H_hr' := Lib.hid hr'
        have H_hb' := Lib.hid hb'
        obtain ⟨w0, hw0, f0, q0, z0⟩ : ∃ W, (w.alloc (.cells #[.int .i64 m.c, .slice a1 m.q.length k1, .bool false, .slice a2 m.rest.length k2, .int .i64 m.acc, .int .i64 0, .int .i64 0] 41)).alloc (.cells #[.int .i64 0, .slice none 0 0, .bool false, .slice none 0 0, .int .i64 0, .int .i64 0, .int .i64 0] 41) = W ∧ Fr [] w W ∧ S7 W w.heap.size m.c a1 m.q.length k1 false a2 m.rest.length k2 m.acc 0 0 ∧ S7 W (w.heap.size + 1) 0 none 0 0 false none 0 0 0 0 0 := ⟨_, rfl, ((Fr.refl _ _).alloc _).alloc _, keepA (newA rfl), newA (by simp)⟩
        obtain ⟨x0, x1, x2, x3, x4, x5, x6, p0, p1, p2, p3, p4, p5, p6⟩ := q0.cells
        have hz0 : w.heap.size + 1 < w0.heap.size := lt_of_heap z0
        have HZ := Lib.hid z0
        have HF := Lib.hid f0
        have HB := Lib.hid q0
        clear q0 z0 f0
        clear hw' hr' hb'
        obtain ⟨xa, xk, rfl, hxs⟩ := hu.form
        have HSX := Lib.hid (sl_keep hxs HF.out (by simp))
        clear hxs hu
        have HU : Hid (Try.prog.underlying 29 = some (.slice 5)) := Lib.hid Try.underlying29
        have HIN : Hid ((Try.prog.info? 5).map (fun i => (i.zero, i.size, i.bytes)) = some (some (.int .u8 0), 1, 1)) := Lib.hid (by kernel_rfl)
        have h1 := HB0.2
        have HL1 : Hid (((bi X).map (Value.int .u8)).length = X.length) := Lib.hid (by simp [bi_length])
        have HX1 : Hid (([] : List Value).length + X.length ≤ maxLen) := Lib.hid (by unfold maxLen; simp; omega)
        have HY1 : Hid ((([] : List Value).length + X.length) * 1 ≤ 140737488355328) := Lib.hid (by simp; omega)
        go_enter Try.func82, Try.ntmps82
        go_wp2_with (refine wpList_append_fr _ rfl (.const (.slice none 0 0)) (.tmp 19) 29 rfl 5 (.int .u8 0) 1 HU.out HIN.out rfl w0.heap.size (.slice none 0 0) [] (by exact rfl) (Ow.nil _ _ _) xa X.length xk _ (by exact rfl) HL1.out (HSX.out.toV) (bytes_one _) HX1.out HY1.out (Nat.le_refl _) ?_)
        intro v2 w2 o2 f2' _
        have f2 : Fr [] w0 w2 := f2'
        clear f2'
        have o2' : Ow w2 w0.heap.size 5 v2 ((bi X).map (Value.int .u8)) := o2.out
        obtain ⟨b1, l1, rfl, _⟩ := o2'.formB
        have HB2 := Lib.hid (show S7 w2 w.heap.size m.c a1 m.q.length k1 false a2 m.rest.length k2 m.acc 0 0 from f2.keep HB.out (by simp))
        have HZ2 := Lib.hid (show S7 w2 (w.heap.size + 1) 0 none 0 0 false none 0 0 0 0 0 from f2.keep HZ.out (by simp))
        have HF2 := Lib.hid (HF.out.then0 f2)
        have HO2 := Lib.hid o2'
        have hz2 := f2.size
        clear o2 o2' f2
        clear x0 x1 x2 x3 x4 x5 x6 p0 p1 p2 p3 p4 p5 p6
        obtain ⟨x0, x1, x2, x3, x4, x5, x6, p0, p1, p2, p3, p4, p5, p6⟩ := HB2.out.cells
        obtain ⟨wn1, hwn1, fn1, qn1, zn1⟩ : ∃ W, w2.setCell ⟨w.heap.size, 2, none⟩ (.bool true) = W ∧ Fr [] w W ∧ W.heap[w.heap.size]? = some (.cells #[.int .i64 m.c, .slice a1 m.q.length k1, .bool true, .slice a2 m.rest.length k2, .int .i64 m.acc, .int .i64 0, .int .i64 0] 41 (0, 0)) ∧ S7 W (w.heap.size + 1) 0 none 0 0 false none 0 0 0 0 0 := ⟨_, rfl, Fr.setCell (p := ⟨w.heap.size, 2, none⟩) (HF2.out) (.inr (Nat.le_refl _)) (.bool true), (by have hx := heap_setCell_eq (i := 2) (u := .bool true) (HB2.out); simpa [S7] using hx), keepS (a := ⟨w.heap.size, 2, none⟩) (v := .bool true) (HZ2.out) (by dsimp only; omega)⟩
        have xn1_0 : wn1.cell? ⟨w.heap.size, 0, none⟩ = some (.int .i64 m.c) := cell_of qn1
        have xn1_1 : wn1.cell? ⟨w.heap.size, 1, none⟩ = some (.slice a1 m.q.length k1) := cell_of qn1
        have xn1_2 : wn1.cell? ⟨w.heap.size, 2, none⟩ = some (.bool true) := cell_of qn1
        have xn1_3 : wn1.cell? ⟨w.heap.size, 3, none⟩ = some (.slice a2 m.rest.length k2) := cell_of qn1
        have xn1_4 : wn1.cell? ⟨w.heap.size, 4, none⟩ = some (.int .i64 m.acc) := cell_of qn1
        have xn1_5 : wn1.cell? ⟨w.heap.size, 5, none⟩ = some (.int .i64 0) := cell_of qn1
        have xn1_6 : wn1.cell? ⟨w.heap.size, 6, none⟩ = some (.int .i64 0) := cell_of qn1
        have pn1_0 : wn1.frozen? ⟨w.heap.size, 0, none⟩ = false := free_of qn1
        have pn1_1 : wn1.frozen? ⟨w.heap.size, 1, none⟩ = false := free_of qn1
        have pn1_2 : wn1.frozen? ⟨w.heap.size, 2, none⟩ = false := free_of qn1
        have pn1_3 : wn1.frozen? ⟨w.heap.size, 3, none⟩ = false := free_of qn1
        have pn1_4 : wn1.frozen? ⟨w.heap.size, 4, none⟩ = false := free_of qn1
        have pn1_5 : wn1.frozen? ⟨w.heap.size, 5, none⟩ = false := free_of qn1
        have pn1_6 : wn1.frozen? ⟨w.heap.size, 6, none⟩ = false := free_of qn1
        obtain ⟨wn2, hwn2, fn2, qn2, zn2⟩ : ∃ W, wn1.setCell ⟨w.heap.size, 3, none⟩ (.slice b1 X.length l1) = W ∧ Fr [] w W ∧ W.heap[w.heap.size]? = some (.cells #[.int .i64 m.c, .slice a1 m.q.length k1, .bool true, .slice b1 X.length l1, .int .i64 m.acc, .int .i64 0, .int .i64 0] 41 (0, 0)) ∧ S7 W (w.heap.size + 1) 0 none 0 0 false none 0 0 0 0 0 := ⟨_, rfl, Fr.setCell (p := ⟨w.heap.size, 3, none⟩) (fn1) (.inr (Nat.le_refl _)) (.slice b1 X.length l1), (by have hx := heap_setCell_eq (i := 3) (u := .slice b1 X.length l1) (qn1); simpa [S7] using hx), keepS (a := ⟨w.heap.size, 3, none⟩) (v := .slice b1 X.length l1) (zn1) (by dsimp only; omega)⟩
        have xn2_0 : wn2.cell? ⟨w.heap.size, 0, none⟩ = some (.int .i64 m.c) := cell_of qn2
        have xn2_1 : wn2.cell? ⟨w.heap.size, 1, none⟩ = some (.slice a1 m.q.length k1) := cell_of qn2
        have xn2_2 : wn2.cell? ⟨w.heap.size, 2, none⟩ = some (.bool true) := cell_of qn2
        have xn2_3 : wn2.cell? ⟨w.heap.size, 3, none⟩ = some (.slice b1 X.length l1) := cell_of qn2
        have xn2_4 : wn2.cell? ⟨w.heap.size, 4, none⟩ = some (.int .i64 m.acc) := cell_of qn2
        have xn2_5 : wn2.cell? ⟨w.heap.size, 5, none⟩ = some (.int .i64 0) := cell_of qn2
        have xn2_6 : wn2.cell? ⟨w.heap.size, 6, none⟩ = some (.int .i64 0) := cell_of qn2
        have pn2_0 : wn2.frozen? ⟨w.heap.size, 0, none⟩ = false := free_of qn2
        have pn2_1 : wn2.frozen? ⟨w.heap.size, 1, none⟩ = false := free_of qn2
        have pn2_2 : wn2.frozen? ⟨w.heap.size, 2, none⟩ = false := free_of qn2
        have pn2_3 : wn2.frozen? ⟨w.heap.size, 3, none⟩ = false := free_of qn2
        have pn2_4 : wn2.frozen? ⟨w.heap.size, 4, none⟩ = false := free_of qn2
        have pn2_5 : wn2.frozen? ⟨w.heap.size, 5, none⟩ = false := free_of qn2
        have pn2_6 : wn2.frozen? ⟨w.heap.size, 6, none⟩ = false := free_of qn2
        obtain ⟨wn3, hwn3, fn3, qn3, zn3⟩ : ∃ W, wn2.setCell ⟨w.heap.size, 4, none⟩ (.int .i64 0) = W ∧ Fr [] w W ∧ W.heap[w.heap.size]? = some (.cells #[.int .i64 m.c, .slice a1 m.q.length k1, .bool true, .slice b1 X.length l1, .int .i64 0, .int .i64 0, .int .i64 0] 41 (0, 0)) ∧ S7 W (w.heap.size + 1) 0 none 0 0 false none 0 0 0 0 0 := ⟨_, rfl, Fr.setCell (p := ⟨w.heap.size, 4, none⟩) (fn2) (.inr (Nat.le_refl _)) (.int .i64 0), (by have hx := heap_setCell_eq (i := 4) (u := .int .i64 0) (qn2); simpa [S7] using hx), keepS (a := ⟨w.heap.size, 4, none⟩) (v := .int .i64 0) (zn2) (by dsimp only; omega)⟩
        have xn3_0 : wn3.cell? ⟨w.heap.size, 0, none⟩ = some (.int .i64 m.c) := cell_of qn3
        have xn3_1 : wn3.cell? ⟨w.heap.size, 1, none⟩ = some (.slice a1 m.q.length k1) := cell_of qn3
        have xn3_2 : wn3.cell? ⟨w.heap.size, 2, none⟩ = some (.bool true) := cell_of qn3
        have xn3_3 : wn3.cell? ⟨w.heap.size, 3, none⟩ = some (.slice b1 X.length l1) := cell_of qn3
        have xn3_4 : wn3.cell? ⟨w.heap.size, 4, none⟩ = some (.int .i64 0) := cell_of qn3
        have xn3_5 : wn3.cell? ⟨w.heap.size, 5, none⟩ = some (.int .i64 0) := cell_of qn3
        have xn3_6 : wn3.cell? ⟨w.heap.size, 6, none⟩ = some (.int .i64 0) := cell_of qn3
        have pn3_0 : wn3.frozen? ⟨w.heap.size, 0, none⟩ = false := free_of qn3
        have pn3_1 : wn3.frozen? ⟨w.heap.size, 1, none⟩ = false := free_of qn3
        have pn3_2 : wn3.frozen? ⟨w.heap.size, 2, none⟩ = false := free_of qn3
        have pn3_3 : wn3.frozen? ⟨w.heap.size, 3, none⟩ = false := free_of qn3
        have pn3_4 : wn3.frozen? ⟨w.heap.size, 4, none⟩ = false := free_of qn3
        have pn3_5 : wn3.frozen? ⟨w.heap.size, 5, none⟩ = false := free_of qn3
        have pn3_6 : wn3.frozen? ⟨w.heap.size, 6, none⟩ = false := free_of qn3
        have HZS := Lib.hid (zn3)
        have HFS := Lib.hid (fn3)
        have HQN1 := Lib.hid (And.intro qn1 (And.intro zn1 fn1))
        clear qn1 zn1 fn1
        have HQN2 := Lib.hid (And.intro qn2 (And.intro zn2 fn2))
        clear qn2 zn2 fn2
        have HQN3 := Lib.hid (And.intro qn3 (And.intro zn3 fn3))
        clear qn3 zn3 fn3
        have g3 : Fr [w.heap.size] w2 wn3 := by rw [← hwn3, ← hwn2, ← hwn1]; exact (Fr.setCell (p := ⟨w.heap.size, 4, none⟩) (Fr.setCell (p := ⟨w.heap.size, 3, none⟩) (Fr.setCell (p := ⟨w.heap.size, 2, none⟩) (Fr.refl _ _) (.inl (by simp)) _) (.inl (by simp)) _) (.inl (by simp)) _)
        have HOX := Lib.hid (HO2.out.keep g3 (fun k e hm => by have := (HO2.out.lt k e).1; simp at hm; omega))
        have hz3 := g3.size
        clear g3 HO2
        have HFI := Lib.hid (r_fill (w := wn3) (N := fun _ => True) (v := .agg #[.int .i64 m.c, .slice a1 m.q.length k1, .bool true, .slice b1 X.length l1, .int .i64 0, .int .i64 0, .int .i64 0]) (m := ({ m with busy := true, rest := X, acc := 0 } : SM)) ⟨_, _, (by rw [H_hw'.out, H_hr'.out]), (HQ.out.1.keep HFS.out (by simp)).mono (fun _ _ => trivial), (PartV.ofOw HOX.out).mono (fun _ _ => trivial)⟩ ⟨HB0.1, HB0.2⟩ ⟨Int.le_refl _, by show (0 : Int) ≤ 1000000; omega⟩)
        rw [hmf] at HFI
        clear hmf
        go_wp2_with fail
        refine HFI.out.mono ?_
        rintro e w5 ⟨v5, rfl, f5, u3, u4, rfl, hp3, hp4⟩
        obtain ⟨a3, k3, rfl, _⟩ := id hp3
        obtain ⟨a4, k4, rfl, _⟩ := id hp4
        have HZ5 := Lib.hid (show S7 w5 (w.heap.size + 1) 0 none 0 0 false none 0 0 0 0 0 from f5.keep HZS.out (by simp))
        have HF5 := Lib.hid (HFS.out.then0 f5)
        have HP3 := Lib.hid hp3
        have HP4 := Lib.hid hp4
        clear hp3 hp4 HZS HFS
        have HZS := HZ5
        have HFS := HF5
        go_wp2_with (refine wpl_store rfl 41 _ _ rfl (w.heap.size + 1) #[.int .i64 mf.c, .slice a3 mf.q.length k3, .bool mf.busy, .slice a4 mf.rest.length k4, .int .i64 mf.acc, .int .i64 mf.w, .int .i64 mf.r] (by rfl) (by rfl) _ _ HZS.out (by kernel_rfl) rfl (by simp [Value.oneCell']) ?_)
        intro wf ff qf
        obtain ⟨y0, y1, y2, y3, y4, y5, y6, _, _, _, _, _, _, _⟩ := S7.cells qf
        clear x0 x1 x2 x3 x4 x5 x6 p0 p1 p2 p3 p4 p5 p6
        go_wp2_with fail
        refine bodyPost_ret (v := .tuple #[.agg #[.int .i64 mf.c, .slice a3 mf.q.length k3, .bool mf.busy, .slice a4 mf.rest.length k4, .int .i64 mf.acc, .int .i64 mf.w, .int .i64 mf.r], .int .i64 0]) (by simp [results, Try.results82, go_sem, y0, y1, y2, y3, y4, y5, y6]) rfl ?_
        have F : Fr [] w wf := Fr.trans (U := []) (S := []) HFS.out ff (by simp) (fun x hx => .inr (by simp at hx; omega))
        exact ⟨_, rfl, F, _, _, rfl, (HP3.out.keep ff (by intro x hx hn; simp at hx; have hn' : wn3.heap.size ≤ x := hn; omega)).mono (fun x hx => Or.inr (show w.heap.size ≤ x from by have hn' : wn3.heap.size ≤ x := hx; omega)), (HP4.out.keep ff (by intro x hx hn; simp at hx; have hn' : wn3.heap.size ≤ x := hn; omega)).mono (fun x hx => Or.inr (show w.heap.size ≤ x from by have hn' : wn3.heap.size ≤ x := hx; omega))⟩

end Go.Proofs.Ytdoamelhclnphaa
