/-
  The reference of layer 14: Begin.
-/
import Derived.Test.YtdoamelhclnphaaRefF14
namespace Go.Proofs.Ytdoamelhclnphaa
open Go.RowKit
set_option maxRecDepth 100000

section
variable {P : Program}
theorem step_store7 {ops : Array Oper} {o : Oper} {a : Act} {w : World} {K : Act → World → Prop} {Q : Exit → Act → World → Prop} {E : Prop} (hw : Region.wanted o (yielded ops a.tmps) = true) (ty : TypeId) (x y : Operand) (ho : o.op = .store ty x y)
    (g : Nat) (cells : Array Value) (hx : a.eval x = .pointer (some ⟨g, 0, none⟩)) (hy : a.eval y = .agg cells)
    (t : TypeId) (old : Array Value) (hg : w.heap[g]? = some (.cells old t (0, 0))) (hi : (P.info? ty).map (·.size) = some cells.size)
    (hold : old.size = cells.size) (h1 : cells.all (·.oneCell') = true)
    (h : ∀ w', Fr [g] w w' → w'.heap[g]? = some (.cells cells t (0, 0)) → K (a.put o.dst undef) w') :
    if Region.wanted o (yielded ops a.tmps) = true then Oper.wp P o a w K Q else E := by
  rw [if_pos hw]
  exact wp_store_row ty x y ho g cells hx hy t old hg hi hold h1 (h _ setRow_fr' (setRow_heap w g old cells t (0, 0) hg))
end
set_option maxHeartbeats 4000000 in
theorem r_begin {w : World} {N : Nat → Prop} {v : Value} {m : SM} (h : Sv w N v m) {N' : Nat → Prop} {u : Value} {X : List UInt8} (hu : PartV w N' u X) (HB0 : m.q.length ≤ 1000000 ∧ X.length ≤ 1000000) :
    Calls Try.prog 82 #[v, u] w fun e w' => ∃ v', e = .returned (.tuple #[v', .int .i64 (beginM m X).err]) ∧ Fr [] w w' ∧ Sv w' (fun x => N x ∨ w.heap.size ≤ x) v' (beginM m X).m := by
  obtain ⟨u1, u2, rfl, hq, hr⟩ := h
  obtain ⟨a1, k1, rfl, _⟩ := id hq
  obtain ⟨a2, k2, rfl, _⟩ := id hr
  have HQ := Lib.hid (And.intro hq hr)
  clear hq hr
  by_cases hw : m.w ≠ 0
  · have e : beginM m X = ⟨m, 14⟩ := by unfold beginM; rw [if_pos hw]
    rw [e]
    clear e
    obtain ⟨w0, hw0, f0, q0, z0⟩ : ∃ W, (w.alloc (.cells #[.int .i64 m.c, .slice a1 m.q.length k1, .bool m.busy, .slice a2 m.rest.length k2, .int .i64 m.acc, .int .i64 m.w, .int .i64 m.r] 41)).alloc (.cells #[.int .i64 0, .slice none 0 0, .bool false, .slice none 0 0, .int .i64 0, .int .i64 0, .int .i64 0] 41) = W ∧ Fr [] w W ∧ S7 W w.heap.size m.c a1 m.q.length k1 m.busy a2 m.rest.length k2 m.acc m.w m.r ∧ S7 W (w.heap.size + 1) 0 none 0 0 false none 0 0 0 0 0 := ⟨_, rfl, ((Fr.refl _ _).alloc _).alloc _, keepA (newA rfl), newA (by simp)⟩
    obtain ⟨x0, x1, x2, x3, x4, x5, x6, p0, p1, p2, p3, p4, p5, p6⟩ := q0.cells
    have hz0 : w.heap.size + 1 < w0.heap.size := lt_of_heap z0
    have HZ := Lib.hid z0
    have HF := Lib.hid f0
    have HB := Lib.hid q0
    clear q0 z0 f0
    have HZS := Lib.hid (HZ.out)
    have HFS := Lib.hid (HF.out)
    go_enter Try.func82, Try.ntmps82
    go_wp2_with (refine wpl_store rfl 41 _ _ rfl (w.heap.size + 1) #[.int .i64 m.c, .slice a1 m.q.length k1, .bool m.busy, .slice a2 m.rest.length k2, .int .i64 m.acc, .int .i64 m.w, .int .i64 m.r] (by rfl) (by rfl) _ _ HZS.out (by kernel_rfl) rfl (by simp [Value.oneCell']) ?_)
    intro wf ff qf
    obtain ⟨y0, y1, y2, y3, y4, y5, y6, _, _, _, _, _, _, _⟩ := S7.cells qf
    clear x0 x1 x2 x3 x4 x5 x6 p0 p1 p2 p3 p4 p5 p6
    go_wp2_with fail
    refine bodyPost_ret (v := .tuple #[.agg #[.int .i64 m.c, .slice a1 m.q.length k1, .bool m.busy, .slice a2 m.rest.length k2, .int .i64 m.acc, .int .i64 m.w, .int .i64 m.r], .int .i64 14]) (by simp [results, Try.results82, go_sem, y0, y1, y2, y3, y4, y5, y6]) rfl ?_
    have F : Fr [] w wf := Fr.trans (U := []) (S := []) HFS.out ff (by simp) (fun x hx => .inr (by simp at hx; omega))
    exact ⟨_, rfl, F, _, _, rfl, ((HQ.out.1.keep F (by simp)).mono (fun _ h => .inl h)), ((HQ.out.2.keep F (by simp)).mono (fun _ h => .inl h))⟩
  · have hw' : m.w = 0 := by omega
    by_cases hr : m.r ≠ 0
    · have e : beginM m X = ⟨m, m.r⟩ := by unfold beginM; rw [if_neg hw, if_pos hr]
      rw [e]
      clear e hw
      rw [hw']
      have H_hw' := Lib.hid hw'
      obtain ⟨w0, hw0, f0, q0, z0⟩ : ∃ W, (w.alloc (.cells #[.int .i64 m.c, .slice a1 m.q.length k1, .bool m.busy, .slice a2 m.rest.length k2, .int .i64 m.acc, .int .i64 0, .int .i64 m.r] 41)).alloc (.cells #[.int .i64 0, .slice none 0 0, .bool false, .slice none 0 0, .int .i64 0, .int .i64 0, .int .i64 0] 41) = W ∧ Fr [] w W ∧ S7 W w.heap.size m.c a1 m.q.length k1 m.busy a2 m.rest.length k2 m.acc 0 m.r ∧ S7 W (w.heap.size + 1) 0 none 0 0 false none 0 0 0 0 0 := ⟨_, rfl, ((Fr.refl _ _).alloc _).alloc _, keepA (newA rfl), newA (by simp)⟩
      obtain ⟨x0, x1, x2, x3, x4, x5, x6, p0, p1, p2, p3, p4, p5, p6⟩ := q0.cells
      have hz0 : w.heap.size + 1 < w0.heap.size := lt_of_heap z0
      have HZ := Lib.hid z0
      have HF := Lib.hid f0
      have HB := Lib.hid q0
      clear q0 z0 f0
      clear hw'
      have HZS := HZ
      have HFS := HF
      have HFA := Lib.hid fun (w' : World) (f : S7 w' w.heap.size m.c a1 m.q.length k1 m.busy a2 m.rest.length k2 m.acc 0 m.r) => (show w'.cell? ⟨w.heap.size, 0, none⟩ = some (.int .i64 m.c) ∧ w'.cell? ⟨w.heap.size, 1, none⟩ = some (.slice a1 m.q.length k1) ∧ w'.cell? ⟨w.heap.size, 2, none⟩ = some (.bool m.busy) ∧ w'.cell? ⟨w.heap.size, 3, none⟩ = some (.slice a2 m.rest.length k2) ∧ w'.cell? ⟨w.heap.size, 4, none⟩ = some (.int .i64 m.acc) ∧ w'.cell? ⟨w.heap.size, 5, none⟩ = some (.int .i64 0) ∧ w'.cell? ⟨w.heap.size, 6, none⟩ = some (.int .i64 m.r) from (let q := S7.cells f; ⟨q.1, q.2.1, q.2.2.1, q.2.2.2.1, q.2.2.2.2.1, q.2.2.2.2.2.1, q.2.2.2.2.2.2.1⟩))
      go_enter Try.func82, Try.ntmps82
      go_wp2_with fail
      have fd : Fr [] w0 w0.drew := (Fr.refl _ _).drew
      replace HZS := Lib.hid (show S7 w0.drew (w.heap.size + 1) 0 none 0 0 false none 0 0 0 0 0 from fd.keep HZS.out (by simp))
      refine wp_region_order [(0, true), (1, true), (2, true), (3, false), (4, true)] (fun w' => S7 w' w.heap.size m.c a1 m.q.length k1 m.busy a2 m.rest.length k2 m.acc 0 m.r) (by kernel_rfl) (by kernel_rfl) (fd.keep HB.out (by simp)) ?_
      intro OPS HOPS
      have hops := HOPS.out
      try simp only [List.append_eq, List.cons_append, List.nil_append] at hops
      replace HOPS := Lib.hid hops
      clear hops
      refine walkO_take (o := _) (v := ?_) (by rw [HOPS.out]; simp only [List.getElem?_toArray, List.getElem?_cons_succ, List.getElem?_cons_zero]; exact rfl) (Or.inl ⟨rfl, ?_⟩) ?_
      rotate_left
      · (intro w hSw; have hSx := HFA.out _ hSw; (try dsimp only at hSx); clear hSw; go_simp) <;> (with_reducible rfl)
      simp only [Act.put, List.setIfInBounds_toArray, List.set_cons_zero, List.set_cons_succ]
      refine walkO_take (o := _) (v := ?_) (by rw [HOPS.out]; simp only [List.getElem?_toArray, List.getElem?_cons_succ, List.getElem?_cons_zero]; exact rfl) (Or.inl ⟨rfl, ?_⟩) ?_
      rotate_left
      · (intro w hSw; have hSx := HFA.out _ hSw; (try dsimp only at hSx); clear hSw; go_simp) <;> (with_reducible rfl)
      simp only [Act.put, List.setIfInBounds_toArray, List.set_cons_zero, List.set_cons_succ]
      refine walkO_take (o := _) (v := ?_) (by rw [HOPS.out]; simp only [List.getElem?_toArray, List.getElem?_cons_succ, List.getElem?_cons_zero]; exact rfl) (Or.inl ⟨rfl, ?_⟩) ?_
      rotate_left
      · (intro w hSw; have hSx := HFA.out _ hSw; (try dsimp only at hSx); clear hSw; go_simp) <;> (with_reducible rfl)
      simp only [Act.put, List.setIfInBounds_toArray, List.set_cons_zero, List.set_cons_succ]
      refine walkO_call (o := _) (by rw [HOPS.out]; simp only [List.getElem?_toArray, List.getElem?_cons_succ, List.getElem?_cons_zero]; exact rfl) (fun K HK => ?_)
      refine step_store7 rfl 41 (.tmp 4) (.tmp 13) rfl (w.heap.size + 1) #[.int .i64 m.c, .slice a1 m.q.length k1, .bool m.busy, .slice a2 m.rest.length k2, .int .i64 m.acc, .int .i64 0, .int .i64 m.r] (by simp [Act.eval]) (by simp [Act.eval]) _ _ HZS.out (by kernel_rfl) rfl (by simp [Value.oneCell']) ?_
      intro wf ff qf
      obtain ⟨y0, y1, y2, y3, y4, y5, y6, _, _, _, _, _, _, _⟩ := S7.cells qf
      refine HK.out (fun w' => S7 w' w.heap.size m.c a1 m.q.length k1 m.busy a2 m.rest.length k2 m.acc 0 m.r) _ _ (fun _ h => h) (ff.keep (fd.keep HB.out (by simp)) (by simp)) ?_
      clear HK K
      try simp only [Act.put, List.setIfInBounds_toArray, List.set_cons_zero, List.set_cons_succ]
      refine walkO_take (o := _) (v := ?_) (by rw [HOPS.out]; simp only [List.getElem?_toArray, List.getElem?_cons_succ, List.getElem?_cons_zero]; exact rfl) (Or.inl ⟨rfl, ?_⟩) ?_
      rotate_left
      · (intro w hSw; have hSx := HFA.out _ hSw; (try dsimp only at hSx); clear hSw; go_simp) <;> (with_reducible rfl)
      simp only [Act.put, List.setIfInBounds_toArray, List.set_cons_zero, List.set_cons_succ]
      refine walkO_done ?_
      clear HOPS OPS
      clear x0 x1 x2 x3 x4 x5 x6 p0 p1 p2 p3 p4 p5 p6
      go_wp2_with fail
      refine bodyPost_ret (v := .tuple #[.agg #[.int .i64 m.c, .slice a1 m.q.length k1, .bool m.busy, .slice a2 m.rest.length k2, .int .i64 m.acc, .int .i64 0, .int .i64 m.r], .int .i64 m.r]) (by simp [results, Try.results82, go_sem, y0, y1, y2, y3, y4, y5, y6]) rfl ?_
      have F : Fr [] w wf := Fr.trans (U := []) (S := []) (HFS.out.then0 fd) ff (by simp) (fun x hx => .inr (by simp at hx; omega))
      exact ⟨_, rfl, F, _, _, (by first | rfl | rw [H_hw'.out]), ((HQ.out.1.keep F (by simp)).mono (fun _ h => .inl h)), ((HQ.out.2.keep F (by simp)).mono (fun _ h => .inl h))⟩
    · have hr' : m.r = 0 := by omega
      by_cases hb : m.busy = true
      · have e : beginM m X = ⟨m, 11⟩ := by unfold beginM; rw [if_neg hw, if_neg hr, if_pos hb]
        have hb' := hb
        rw [e]
        clear e hw hr hb
        rw [hw']
        rw [hr']
        rw [hb']
        have H_hw' := Lib.hid hw'
        have H_hr' := Lib.hid hr'
        have H_hb' := Lib.hid hb'
        obtain ⟨w0, hw0, f0, q0, z0⟩ : ∃ W, (w.alloc (.cells #[.int .i64 m.c, .slice a1 m.q.length k1, .bool true, .slice a2 m.rest.length k2, .int .i64 m.acc, .int .i64 0, .int .i64 0] 41)).alloc (.cells #[.int .i64 0, .slice none 0 0, .bool false, .slice none 0 0, .int .i64 0, .int .i64 0, .int .i64 0] 41) = W ∧ Fr [] w W ∧ S7 W w.heap.size m.c a1 m.q.length k1 true a2 m.rest.length k2 m.acc 0 0 ∧ S7 W (w.heap.size + 1) 0 none 0 0 false none 0 0 0 0 0 := ⟨_, rfl, ((Fr.refl _ _).alloc _).alloc _, keepA (newA rfl), newA (by simp)⟩
        obtain ⟨x0, x1, x2, x3, x4, x5, x6, p0, p1, p2, p3, p4, p5, p6⟩ := q0.cells
        have hz0 : w.heap.size + 1 < w0.heap.size := lt_of_heap z0
        have HZ := Lib.hid z0
        have HF := Lib.hid f0
        have HB := Lib.hid q0
        clear q0 z0 f0
        clear hw' hr' hb'
        have HZS := Lib.hid (HZ.out)
        have HFS := Lib.hid (HF.out)
        go_enter Try.func82, Try.ntmps82
        go_wp2_with (refine wpl_store rfl 41 _ _ rfl (w.heap.size + 1) #[.int .i64 m.c, .slice a1 m.q.length k1, .bool true, .slice a2 m.rest.length k2, .int .i64 m.acc, .int .i64 0, .int .i64 0] (by rfl) (by rfl) _ _ HZS.out (by kernel_rfl) rfl (by simp [Value.oneCell']) ?_)
        intro wf ff qf
        obtain ⟨y0, y1, y2, y3, y4, y5, y6, _, _, _, _, _, _, _⟩ := S7.cells qf
        clear x0 x1 x2 x3 x4 x5 x6 p0 p1 p2 p3 p4 p5 p6
        go_wp2_with fail
        refine bodyPost_ret (v := .tuple #[.agg #[.int .i64 m.c, .slice a1 m.q.length k1, .bool true, .slice a2 m.rest.length k2, .int .i64 m.acc, .int .i64 0, .int .i64 0], .int .i64 11]) (by simp [results, Try.results82, go_sem, y0, y1, y2, y3, y4, y5, y6]) rfl ?_
        have F : Fr [] w wf := Fr.trans (U := []) (S := []) HFS.out ff (by simp) (fun x hx => .inr (by simp at hx; omega))
        exact ⟨_, rfl, F, _, _, (by first | rfl | rw [H_hw'.out, H_hr'.out, H_hb'.out]), ((HQ.out.1.keep F (by simp)).mono (fun _ h => .inl h)), ((HQ.out.2.keep F (by simp)).mono (fun _ h => .inl h))⟩
      · have hb' : m.busy = false := by simpa using hb
        have e : beginM m X = ⟨fillM { m with busy := true, rest := X, acc := 0 }, 0⟩ := by unfold beginM; rw [if_neg hw, if_neg hr, if_neg hb]
        rw [e]
        clear e hw hr hb
        generalize hmf : fillM ({ m with busy := true, rest := X, acc := 0 } : SM) = mf
        rw [hw', hr', hb']
        have H_hw' := Lib.hid hw'
        have H_hr' := Lib.hid hr'
        have H_hb' := Lib.hid hb'
        obtain ⟨w0, hw0, f0, q0, z0⟩ : ∃ W, (w.alloc (.cells #[.int .i64 m.c, .slice a1 m.q.length k1, .bool false, .slice a2 m.rest.length k2, .int .i64 m.acc, .int .i64 0, .int .i64 0] 41)).alloc (.cells #[.int .i64 0, .slice none 0 0, .bool false, .slice none 0 0, .int .i64 0, .int .i64 0, .int .i64 0] 41) = W ∧ Fr [] w W ∧ S7 W w.heap.size m.c a1 m.q.length k1 false a2 m.rest.length k2 m.acc 0 0 ∧ S7 W (w.heap.size + 1) 0 none 0 0 false none 0 0 0 0 0 := ⟨_, rfl, ((Fr.refl _ _).alloc _).alloc _, keepA (newA rfl), newA (by simp)⟩
        obtain ⟨x0, x1, x2, x3, x4, x5, x6, p0, p1, p2, p3, p4, p5, p6⟩ := q0.cells
        have hz0 : w.heap.size + 1 < w0.heap.size := lt_of_heap z0
        have HZ := Lib.hid z0
        have HF := Lib.hid f0
        have HB := Lib.hid q0
        clear q0 z0 f0
        clear hw' hr' hb'
        obtain ⟨xa, xk, rfl, hxs⟩ := hu.form
        have HSX := Lib.hid (sl_keep hxs HF.out (by simp))
        clear hxs hu
        have HU : Hid (Try.prog.underlying 29 = some (.slice 5)) := Lib.hid Try.underlying29
        have HIN : Hid ((Try.prog.info? 5).map (fun i => (i.zero, i.size, i.bytes)) = some (some (.int .u8 0), 1, 1)) := Lib.hid (by kernel_rfl)
        have h1 := HB0.2
        have HL1 : Hid (((bi X).map (Value.int .u8)).length = X.length) := Lib.hid (by simp [bi_length])
        have HX1 : Hid (([] : List Value).length + X.length ≤ maxLen) := Lib.hid (by unfold maxLen; simp; omega)
        have HY1 : Hid ((([] : List Value).length + X.length) * 1 ≤ 140737488355328) := Lib.hid (by simp; omega)
        go_enter Try.func82, Try.ntmps82
        go_wp2_with (refine wpList_append_fr _ rfl (.const (.slice none 0 0)) (.tmp 19) 29 rfl 5 (.int .u8 0) 1 HU.out HIN.out rfl w0.heap.size (.slice none 0 0) [] (by exact rfl) (Ow.nil _ _ _) xa X.length xk _ (by exact rfl) HL1.out (HSX.out.toV) (bytes_one _) HX1.out HY1.out (Nat.le_refl _) ?_)
        intro v2 w2 o2 f2' _
        have f2 : Fr [] w0 w2 := f2'
        clear f2'
        have o2' : Ow w2 w0.heap.size 5 v2 ((bi X).map (Value.int .u8)) := o2.out
        obtain ⟨b1, l1, rfl, _⟩ := o2'.formB
        have HB2 := Lib.hid (show S7 w2 w.heap.size m.c a1 m.q.length k1 false a2 m.rest.length k2 m.acc 0 0 from f2.keep HB.out (by simp))
        have HZ2 := Lib.hid (show S7 w2 (w.heap.size + 1) 0 none 0 0 false none 0 0 0 0 0 from f2.keep HZ.out (by simp))
        have HF2 := Lib.hid (HF.out.then0 f2)
        have HO2 := Lib.hid o2'
        have hz2 := f2.size
        clear o2 o2' f2
        clear x0 x1 x2 x3 x4 x5 x6 p0 p1 p2 p3 p4 p5 p6
        obtain ⟨x0, x1, x2, x3, x4, x5, x6, p0, p1, p2, p3, p4, p5, p6⟩ := HB2.out.cells
        obtain ⟨wn1, hwn1, fn1, qn1, zn1⟩ : ∃ W, w2.setCell ⟨w.heap.size, 2, none⟩ (.bool true) = W ∧ Fr [] w W ∧ W.heap[w.heap.size]? = some (.cells #[.int .i64 m.c, .slice a1 m.q.length k1, .bool true, .slice a2 m.rest.length k2, .int .i64 m.acc, .int .i64 0, .int .i64 0] 41 (0, 0)) ∧ S7 W (w.heap.size + 1) 0 none 0 0 false none 0 0 0 0 0 := ⟨_, rfl, Fr.setCell (p := ⟨w.heap.size, 2, none⟩) (HF2.out) (.inr (Nat.le_refl _)) (.bool true), (by have hx := heap_setCell_eq (i := 2) (u := .bool true) (HB2.out); simpa [S7] using hx), keepS (a := ⟨w.heap.size, 2, none⟩) (v := .bool true) (HZ2.out) (by dsimp only; omega)⟩
        have xn1_0 : wn1.cell? ⟨w.heap.size, 0, none⟩ = some (.int .i64 m.c) := cell_of qn1
        have xn1_1 : wn1.cell? ⟨w.heap.size, 1, none⟩ = some (.slice a1 m.q.length k1) := cell_of qn1
        have xn1_2 : wn1.cell? ⟨w.heap.size, 2, none⟩ = some (.bool true) := cell_of qn1
        have xn1_3 : wn1.cell? ⟨w.heap.size, 3, none⟩ = some (.slice a2 m.rest.length k2) := cell_of qn1
        have xn1_4 : wn1.cell? ⟨w.heap.size, 4, none⟩ = some (.int .i64 m.acc) := cell_of qn1
        have xn1_5 : wn1.cell? ⟨w.heap.size, 5, none⟩ = some (.int .i64 0) := cell_of qn1
        have xn1_6 : wn1.cell? ⟨w.heap.size, 6, none⟩ = some (.int .i64 0) := cell_of qn1
        have pn1_0 : wn1.frozen? ⟨w.heap.size, 0, none⟩ = false := free_of qn1
        have pn1_1 : wn1.frozen? ⟨w.heap.size, 1, none⟩ = false := free_of qn1
        have pn1_2 : wn1.frozen? ⟨w.heap.size, 2, none⟩ = false := free_of qn1
        have pn1_3 : wn1.frozen? ⟨w.heap.size, 3, none⟩ = false := free_of qn1
        have pn1_4 : wn1.frozen? ⟨w.heap.size, 4, none⟩ = false := free_of qn1
        have pn1_5 : wn1.frozen? ⟨w.heap.size, 5, none⟩ = false := free_of qn1
        have pn1_6 : wn1.frozen? ⟨w.heap.size, 6, none⟩ = false := free_of qn1
        obtain ⟨wn2, hwn2, fn2, qn2, zn2⟩ : ∃ W, wn1.setCell ⟨w.heap.size, 3, none⟩ (.slice b1 X.length l1) = W ∧ Fr [] w W ∧ W.heap[w.heap.size]? = some (.cells #[.int .i64 m.c, .slice a1 m.q.length k1, .bool true, .slice b1 X.length l1, .int .i64 m.acc, .int .i64 0, .int .i64 0] 41 (0, 0)) ∧ S7 W (w.heap.size + 1) 0 none 0 0 false none 0 0 0 0 0 := ⟨_, rfl, Fr.setCell (p := ⟨w.heap.size, 3, none⟩) (fn1) (.inr (Nat.le_refl _)) (.slice b1 X.length l1), (by have hx := heap_setCell_eq (i := 3) (u := .slice b1 X.length l1) (qn1); simpa [S7] using hx), keepS (a := ⟨w.heap.size, 3, none⟩) (v := .slice b1 X.length l1) (zn1) (by dsimp only; omega)⟩
        have xn2_0 : wn2.cell? ⟨w.heap.size, 0, none⟩ = some (.int .i64 m.c) := cell_of qn2
        have xn2_1 : wn2.cell? ⟨w.heap.size, 1, none⟩ = some (.slice a1 m.q.length k1) := cell_of qn2
        have xn2_2 : wn2.cell? ⟨w.heap.size, 2, none⟩ = some (.bool true) := cell_of qn2
        have xn2_3 : wn2.cell? ⟨w.heap.size, 3, none⟩ = some (.slice b1 X.length l1) := cell_of qn2
        have xn2_4 : wn2.cell? ⟨w.heap.size, 4, none⟩ = some (.int .i64 m.acc) := cell_of qn2
        have xn2_5 : wn2.cell? ⟨w.heap.size, 5, none⟩ = some (.int .i64 0) := cell_of qn2
        have xn2_6 : wn2.cell? ⟨w.heap.size, 6, none⟩ = some (.int .i64 0) := cell_of qn2
        have pn2_0 : wn2.frozen? ⟨w.heap.size, 0, none⟩ = false := free_of qn2
        have pn2_1 : wn2.frozen? ⟨w.heap.size, 1, none⟩ = false := free_of qn2
        have pn2_2 : wn2.frozen? ⟨w.heap.size, 2, none⟩ = false := free_of qn2
        have pn2_3 : wn2.frozen? ⟨w.heap.size, 3, none⟩ = false := free_of qn2
        have pn2_4 : wn2.frozen? ⟨w.heap.size, 4, none⟩ = false := free_of qn2
        have pn2_5 : wn2.frozen? ⟨w.heap.size, 5, none⟩ = false := free_of qn2
        have pn2_6 : wn2.frozen? ⟨w.heap.size, 6, none⟩ = false := free_of qn2
        obtain ⟨wn3, hwn3, fn3, qn3, zn3⟩ : ∃ W, wn2.setCell ⟨w.heap.size, 4, none⟩ (.int .i64 0) = W ∧ Fr [] w W ∧ W.heap[w.heap.size]? = some (.cells #[.int .i64 m.c, .slice a1 m.q.length k1, .bool true, .slice b1 X.length l1, .int .i64 0, .int .i64 0, .int .i64 0] 41 (0, 0)) ∧ S7 W (w.heap.size + 1) 0 none 0 0 false none 0 0 0 0 0 := ⟨_, rfl, Fr.setCell (p := ⟨w.heap.size, 4, none⟩) (fn2) (.inr (Nat.le_refl _)) (.int .i64 0), (by have hx := heap_setCell_eq (i := 4) (u := .int .i64 0) (qn2); simpa [S7] using hx), keepS (a := ⟨w.heap.size, 4, none⟩) (v := .int .i64 0) (zn2) (by dsimp only; omega)⟩
        have xn3_0 : wn3.cell? ⟨w.heap.size, 0, none⟩ = some (.int .i64 m.c) := cell_of qn3
        have xn3_1 : wn3.cell? ⟨w.heap.size, 1, none⟩ = some (.slice a1 m.q.length k1) := cell_of qn3
        have xn3_2 : wn3.cell? ⟨w.heap.size, 2, none⟩ = some (.bool true) := cell_of qn3
        have xn3_3 : wn3.cell? ⟨w.heap.size, 3, none⟩ = some (.slice b1 X.length l1) := cell_of qn3
        have xn3_4 : wn3.cell? ⟨w.heap.size, 4, none⟩ = some (.int .i64 0) := cell_of qn3
        have xn3_5 : wn3.cell? ⟨w.heap.size, 5, none⟩ = some (.int .i64 0) := cell_of qn3
        have xn3_6 : wn3.cell? ⟨w.heap.size, 6, none⟩ = some (.int .i64 0) := cell_of qn3
        have pn3_0 : wn3.frozen? ⟨w.heap.size, 0, none⟩ = false := free_of qn3
        have pn3_1 : wn3.frozen? ⟨w.heap.size, 1, none⟩ = false := free_of qn3
        have pn3_2 : wn3.frozen? ⟨w.heap.size, 2, none⟩ = false := free_of qn3
        have pn3_3 : wn3.frozen? ⟨w.heap.size, 3, none⟩ = false := free_of qn3
        have pn3_4 : wn3.frozen? ⟨w.heap.size, 4, none⟩ = false := free_of qn3
        have pn3_5 : wn3.frozen? ⟨w.heap.size, 5, none⟩ = false := free_of qn3
        have pn3_6 : wn3.frozen? ⟨w.heap.size, 6, none⟩ = false := free_of qn3
        have HZS := Lib.hid (zn3)
        have HFS := Lib.hid (fn3)
        have HQN1 := Lib.hid (And.intro qn1 (And.intro zn1 fn1))
        clear qn1 zn1 fn1
        have HQN2 := Lib.hid (And.intro qn2 (And.intro zn2 fn2))
        clear qn2 zn2 fn2
        have HQN3 := Lib.hid (And.intro qn3 (And.intro zn3 fn3))
        clear qn3 zn3 fn3
        have g3 : Fr [w.heap.size] w2 wn3 := by rw [← hwn3, ← hwn2, ← hwn1]; exact (Fr.setCell (p := ⟨w.heap.size, 4, none⟩) (Fr.setCell (p := ⟨w.heap.size, 3, none⟩) (Fr.setCell (p := ⟨w.heap.size, 2, none⟩) (Fr.refl _ _) (.inl (by simp)) _) (.inl (by simp)) _) (.inl (by simp)) _)
        have HOX := Lib.hid (HO2.out.keep g3 (fun k e hm => by have := (HO2.out.lt k e).1; simp at hm; omega))
        have hz3 := g3.size
        clear g3 HO2
        have HFI := Lib.hid (r_fill (w := wn3) (N := fun _ => True) (v := .agg #[.int .i64 m.c, .slice a1 m.q.length k1, .bool true, .slice b1 X.length l1, .int .i64 0, .int .i64 0, .int .i64 0]) (m := ({ m with busy := true, rest := X, acc := 0 } : SM)) ⟨_, _, (by rw [H_hw'.out, H_hr'.out]), (HQ.out.1.keep HFS.out (by simp)).mono (fun _ _ => trivial), (PartV.ofOw HOX.out).mono (fun _ _ => trivial)⟩ ⟨HB0.1, HB0.2⟩ ⟨Int.le_refl _, by show (0 : Int) ≤ 1000000; omega⟩)
        rw [hmf] at HFI
        clear hmf
        go_wp2_with fail
        refine HFI.out.mono ?_
        rintro e w5 ⟨v5, rfl, f5, u3, u4, rfl, hp3, hp4⟩
        obtain ⟨a3, k3, rfl, _⟩ := id hp3
        obtain ⟨a4, k4, rfl, _⟩ := id hp4
        have HZ5 := Lib.hid (show S7 w5 (w.heap.size + 1) 0 none 0 0 false none 0 0 0 0 0 from f5.keep HZS.out (by simp))
        have HF5 := Lib.hid (HFS.out.then0 f5)
        have HP3 := Lib.hid hp3
        have HP4 := Lib.hid hp4
        clear hp3 hp4 HZS HFS
        have HZS := HZ5
        have HFS := HF5
        go_wp2_with (refine wpl_store rfl 41 _ _ rfl (w.heap.size + 1) #[.int .i64 mf.c, .slice a3 mf.q.length k3, .bool mf.busy, .slice a4 mf.rest.length k4, .int .i64 mf.acc, .int .i64 mf.w, .int .i64 mf.r] (by rfl) (by rfl) _ _ HZS.out (by kernel_rfl) rfl (by simp [Value.oneCell']) ?_)
        intro wf ff qf
        obtain ⟨y0, y1, y2, y3, y4, y5, y6, _, _, _, _, _, _, _⟩ := S7.cells qf
        clear x0 x1 x2 x3 x4 x5 x6 p0 p1 p2 p3 p4 p5 p6
        go_wp2_with fail
        refine bodyPost_ret (v := .tuple #[.agg #[.int .i64 mf.c, .slice a3 mf.q.length k3, .bool mf.busy, .slice a4 mf.rest.length k4, .int .i64 mf.acc, .int .i64 mf.w, .int .i64 mf.r], .int .i64 0]) (by simp [results, Try.results82, go_sem, y0, y1, y2, y3, y4, y5, y6]) rfl ?_
        have F : Fr [] w wf := Fr.trans (U := []) (S := []) HFS.out ff (by simp) (fun x hx => .inr (by simp at hx; omega))
        exact ⟨_, rfl, F, _, _, rfl, (HP3.out.keep ff (by intro x hx hn; simp at hx; have hn' : wn3.heap.size ≤ x := hn; omega)).mono (fun x hx => Or.inr (show w.heap.size ≤ x from by have hn' : wn3.heap.size ≤ x := hx; omega)), (HP4.out.keep ff (by intro x hx hn; simp at hx; have hn' : wn3.heap.size ≤ x := hn; omega)).mono (fun x hx => Or.inr (show w.heap.size ≤ x from by have hn' : wn3.heap.size ≤ x := hx; omega))⟩

end Go.Proofs.Ytdoamelhclnphaa
