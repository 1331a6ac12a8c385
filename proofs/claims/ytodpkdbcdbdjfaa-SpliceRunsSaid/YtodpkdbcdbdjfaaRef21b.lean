/-
  The reference of law 21: Got, Wrote.
-/
import Derived.Test.YtodpkdbcdbdjfaaRef21
import Derived.Test.YtodpkdbcdbdjfaaTrLaw
namespace Go.Proofs.Ytodpkdbcdbdjfaa
open Go.RowKit
set_option maxRecDepth 100000

theorem two_boxes (w : World) (x y : Obj) : ((w.alloc x).alloc y).heap[w.heap.size]? = some x ∧ ((w.alloc x).alloc y).heap[w.heap.size + 1]? = some y :=
  ⟨keepA (newA rfl), newA (by simp)⟩
theorem seven_set_a {w : World} {b : Nat} {v0 v1 v2 v3 v4 v5 v6 u0 u1 u2 u3 u4 u5 u6 : Value} (h : RB w b v0 v1 v2 v3 v4 v5 v6) (o : Obj) : RC ((((((((w.setCell ⟨b, 0, none⟩ u0).setCell ⟨b, 1, none⟩ u1).setCell ⟨b, 2, none⟩ u2).setCell ⟨b, 3, none⟩ u3).setCell ⟨b, 4, none⟩ u4).setCell ⟨b, 5, none⟩ u5).setCell ⟨b, 6, none⟩ u6).alloc o) b u0 u1 u2 u3 u4 u5 u6 :=
  RB.cells (keepA (seven_set h))
theorem set3_rb_got {w : World} {b : Nat} {v0 v1 v2 v3 v4 v5 v6 u2 u4 u5 : Value} (h : RB w b v0 v1 v2 v3 v4 v5 v6) : RB (((w.setCell ⟨b, 2, none⟩ u2).setCell ⟨b, 4, none⟩ u4).setCell ⟨b, 5, none⟩ u5) b v0 v1 u2 v3 u4 u5 v6 := by
  have := heap_setCell_eq (i := 5) (u := u5) (heap_setCell_eq (i := 4) (u := u4) (heap_setCell_eq (i := 2) (u := u2) h))
  simp at this
  exact this
theorem set3_rb_wrote {w : World} {b : Nat} {v0 v1 v2 v3 v4 v5 v6 u3 u4 u6 : Value} (h : RB w b v0 v1 v2 v3 v4 v5 v6) : RB (((w.setCell ⟨b, 3, none⟩ u3).setCell ⟨b, 4, none⟩ u4).setCell ⟨b, 6, none⟩ u6) b v0 v1 v2 u3 u4 v5 u6 := by
  have := heap_setCell_eq (i := 6) (u := u6) (heap_setCell_eq (i := 4) (u := u4) (heap_setCell_eq (i := 3) (u := u3) h))
  simp at this
  exact this
/-- Which arm of checkT a told number and code take. -/
theorem codeN_arm (n e : Int) : (e = 0 ∧ codeN n e = decide (0 < n)) ∨ ((e != 0) = true ∧ (e == 0) = false ∧ codeN n e = codeE e) := by
  unfold codeN
  by_cases h : e = 0
  · exact .inl ⟨h, if_pos h⟩
  · exact .inr ⟨by simpa using h, by simpa using h, if_neg h⟩

set_option maxHeartbeats 2000000 in
theorem rt_got {w : World} {N : Nat → Prop} {v : Value} {t : TS} (h : Rv w N v t) (hok : TOk t) (hr : t.rd ≤ 4611686018427387904) (hN : ∀ x, w.heap.size ≤ x → N x) {pa : Option Addr} {pcap : Nat} {p : List UInt8} (hs : Sl w pa (bi p)) (hm : p.length ≤ 65536) (e : Int) :
    Calls Try.prog 60 #[v, .slice pa p.length pcap, .int .i64 e] w fun x w' => ∃ u, x = .returned (.tuple #[u, .int .i64 (gotE t p e)]) ∧ Fr [] w w' ∧ Rv w' N u (gotT t p e) := by
  have HX := Lib.hid fun w1 (f : Fr [] w w1) => rt_next (h.keep f (by simp)) hok hr
  obtain ⟨ra, rc, rfl, h1, h2, h3, h4⟩ := h
  have hr0 := hok.r0
  clear hok
  have HGE : Hid (gotE t p e = checkT t 1 p.length (nextT t).n e) := Lib.hid rfl
  obtain ⟨k, s, m, d, er, hx⟩ : ∃ k s m d er, nextT t = ⟨k, s, m, d, er⟩ := ⟨_, _, _, _, _, rfl⟩
  have HCK : Hid (checkT t 1 p.length (nextT t).n e = if k ≠ 1 then 8 else if (p.length : Int) < 0 ∨ m < p.length ∨ codeN p.length e = false then 2 else 0) := Lib.hid (by unfold checkT; rw [hx])
  rw [hx] at HX
  clear hx
  have HRV := Lib.hid fun w1 (f : Fr [] w w1) => (show Rv w1 N (.agg #[.int .i64 t.stage, .int .i64 t.limit, .int .i64 t.rd, .int .i64 t.wr, .slice ra t.s.length rc, .int .i64 t.r, .int .i64 t.w]) t from ⟨ra, rc, rfl, h1, h2, sl_keep h3 f (by simp), h4⟩)
  by_cases hk : k = 1
  · subst hk
    rw [if_neg (by simp)] at HCK
    by_cases hm1 : m < p.length
    · rw [if_pos (.inr (.inl hm1))] at HCK
      have hge : gotE t p e = 2 := HGE.out.trans HCK.out
      rw [gotT_no hge (by decide), hge]
      clear h3 h4 hs hge
      go_enter Try.func60, Try.ntmps60
      go_wp2_with fail
      refine (HX.out _ (((Fr.refl [] w).alloc _).alloc _)).mono ?_
      rintro x w1 ⟨nv, rfl, f1, hv⟩
      obtain ⟨u, rfl, ou⟩ := hv
      obtain ⟨ga, gc, rfl, _⟩ := ou.formB
      clear ou
      have q0 : RB w1 w.heap.size _ _ _ _ _ _ _ := f1.keep (two_boxes w _ _).1 (by simp)
      have q1 : RB w1 (w.heap.size + 1) _ _ _ _ _ _ _ := f1.keep (two_boxes w _ _).2 (by simp)
      obtain ⟨_, _, _, _, _, _, _, _, _, _, _, _, _, _⟩ := q0.cells
      obtain ⟨_, _, _, _, _, _, _, _, _, _, _, _, _, _⟩ := q1.cells
      have F1 := Lib.hid ((((Fr.refl [] w).alloc _).alloc _).then0 f1)
      have Q0 := Lib.hid q0
      have Q1 := Lib.hid q1
      have hz1 : w.heap.size + 1 < w1.heap.size := Nat.lt_of_lt_of_le (by simp) f1.size
      have hz0 : w.heap.size < w1.heap.size := by omega
      clear q0 q1 f1
      generalize d.length = dl at *
      go_wp2_with fail
      obtain ⟨s0, s1, s2, s3, s4, s5, s6, _⟩ := seven_set_a (u0 := .int .i64 t.stage) (u1 := .int .i64 t.limit) (u2 := .int .i64 t.rd) (u3 := .int .i64 t.wr) (u4 := .slice ra t.s.length rc) (u5 := .int .i64 t.r) (u6 := .int .i64 t.w) Q1.out (.cells #[.int .i64 1, .int .i64 s, .int .i64 m, .slice ga dl gc, .int .i64 er] 32)
      refine bodyPost_ret (v := .tuple #[.agg #[.int .i64 t.stage, .int .i64 t.limit, .int .i64 t.rd, .int .i64 t.wr, .slice ra t.s.length rc, .int .i64 t.r, .int .i64 t.w], .int .i64 2]) (by simp [results, Try.results60, go_sem, s0, s1, s2, s3, s4, s5, s6]) rfl ?_
      have ff := F1.out.trans ((seven_fr (w := w1) (b := w.heap.size + 1) (u0 := .int .i64 t.stage) (u1 := .int .i64 t.limit) (u2 := .int .i64 t.rd) (u3 := .int .i64 t.wr) (u4 := .slice ra t.s.length rc) (u5 := .int .i64 t.r) (u6 := .int .i64 t.w)).alloc (.cells #[.int .i64 1, .int .i64 s, .int .i64 m, .slice ga dl gc, .int .i64 er] 32)) (by simp) (U := []) (fun x hx => .inr (by simp at hx; omega))
      exact ⟨_, rfl, ff, HRV.out _ ff⟩
    · have hm2 : (p.length : Int) ≤ m := by omega
      rcases codeN_arm p.length e with ⟨rfl, hc⟩ | ⟨he, he2, hc⟩
      · by_cases hp0 : p.length = 0
        · have HGZ : Hid (gotE t p 0 = 2) := Lib.hid (HGE.out.trans (HCK.out.trans (if_pos (.inr (.inr (by rw [hc]; simp [hp0]))))))
          have hp1 : ((p.length : Int) == 0) = true := by simp [hp0]
          rw [gotT_no HGZ.out (by decide), HGZ.out]
          clear h3 h4 hs hc HGZ HCK HGE hp0
          go_enter Try.func60, Try.ntmps60
          go_wp2_with fail
          refine (HX.out _ (((Fr.refl [] w).alloc _).alloc _)).mono ?_
          rintro x w1 ⟨nv, rfl, f1, hv⟩
          obtain ⟨u, rfl, ou⟩ := hv
          obtain ⟨ga, gc, rfl, _⟩ := ou.formB
          clear ou
          have q0 : RB w1 w.heap.size _ _ _ _ _ _ _ := f1.keep (two_boxes w _ _).1 (by simp)
          have q1 : RB w1 (w.heap.size + 1) _ _ _ _ _ _ _ := f1.keep (two_boxes w _ _).2 (by simp)
          obtain ⟨_, _, _, _, _, _, _, _, _, _, _, _, _, _⟩ := q0.cells
          obtain ⟨_, _, _, _, _, _, _, _, _, _, _, _, _, _⟩ := q1.cells
          have F1 := Lib.hid ((((Fr.refl [] w).alloc _).alloc _).then0 f1)
          have Q0 := Lib.hid q0
          have Q1 := Lib.hid q1
          have hz1 : w.heap.size + 1 < w1.heap.size := Nat.lt_of_lt_of_le (by simp) f1.size
          have hz0 : w.heap.size < w1.heap.size := by omega
          clear q0 q1 f1
          generalize d.length = dl at *
          go_wp2_with fail
          obtain ⟨s0, s1, s2, s3, s4, s5, s6, _⟩ := seven_set_a (u0 := .int .i64 t.stage) (u1 := .int .i64 t.limit) (u2 := .int .i64 t.rd) (u3 := .int .i64 t.wr) (u4 := .slice ra t.s.length rc) (u5 := .int .i64 t.r) (u6 := .int .i64 t.w) Q1.out (.cells #[.int .i64 1, .int .i64 s, .int .i64 m, .slice ga dl gc, .int .i64 er] 32)
          refine bodyPost_ret (v := .tuple #[.agg #[.int .i64 t.stage, .int .i64 t.limit, .int .i64 t.rd, .int .i64 t.wr, .slice ra t.s.length rc, .int .i64 t.r, .int .i64 t.w], .int .i64 2]) (by simp [results, Try.results60, go_sem, s0, s1, s2, s3, s4, s5, s6]) rfl ?_
          have ff := F1.out.trans ((seven_fr (w := w1) (b := w.heap.size + 1) (u0 := .int .i64 t.stage) (u1 := .int .i64 t.limit) (u2 := .int .i64 t.rd) (u3 := .int .i64 t.wr) (u4 := .slice ra t.s.length rc) (u5 := .int .i64 t.r) (u6 := .int .i64 t.w)).alloc (.cells #[.int .i64 1, .int .i64 s, .int .i64 m, .slice ga dl gc, .int .i64 er] 32)) (by simp) (U := []) (fun x hx => .inr (by simp at hx; omega))
          exact ⟨_, rfl, ff, HRV.out _ ff⟩
        · have HGZ : Hid (gotE t p 0 = 0) := Lib.hid (HGE.out.trans (HCK.out.trans (if_neg (fun h => by rw [hc, decide_eq_true (show (0 : Int) < p.length by omega)] at h; simp at h; omega))))
          have hp1 : ((p.length : Int) == 0) = false := by simp; exact fun e => hp0 (by rw [e]; rfl)
          rw [gotT_yes HGZ.out, HGZ.out]
          clear hc HGZ HCK HGE hp0
          have hwp : IntKind.i64.wrap (t.rd + p.length) = t.rd + p.length := IntWalk.i64_in _ (by omega)
          have HSP := Lib.hid fun w1 (f : Fr [] w w1) => (sl_keep hs f (by simp)).toV
          have HU : Hid (Try.prog.underlying 22 = some (.slice 5)) := Lib.hid Try.underlying22
          have HIN : Hid ((Try.prog.info? 5).map (fun i => (i.zero, i.size, i.bytes)) = some (some (.int .u8 0), 1, 1)) := Lib.hid (by kernel_rfl)
          have H1 : Hid (([] : List Value).length + p.length ≤ maxLen) := Lib.hid (by unfold maxLen; simp; omega)
          have H2 : Hid ((([] : List Value).length + p.length) * 1 ≤ 140737488355328) := Lib.hid (by simp; omega)
          have H3 : Hid (((bi p).map (Value.int .u8)).length = p.length) := Lib.hid (by simp [bi])
          have HN5 := Lib.hid hN
          clear h3 h4 hs hN
          go_enter Try.func60, Try.ntmps60
          go_wp2_with fail
          refine (HX.out _ (((Fr.refl [] w).alloc _).alloc _)).mono ?_
          rintro x w1 ⟨nv, rfl, f1, hv⟩
          obtain ⟨u, rfl, ou⟩ := hv
          obtain ⟨ga, gc, rfl, _⟩ := ou.formB
          clear ou
          have q0 : RB w1 w.heap.size _ _ _ _ _ _ _ := f1.keep (two_boxes w _ _).1 (by simp)
          have q1 : RB w1 (w.heap.size + 1) _ _ _ _ _ _ _ := f1.keep (two_boxes w _ _).2 (by simp)
          obtain ⟨_, _, _, _, _, _, _, _, _, _, _, _, _, _⟩ := q0.cells
          obtain ⟨_, _, _, _, _, _, _, _, _, _, _, _, _, _⟩ := q1.cells
          have F1 := Lib.hid ((((Fr.refl [] w).alloc _).alloc _).then0 f1)
          have Q0 := Lib.hid q0
          have Q1 := Lib.hid q1
          have hz1 : w.heap.size + 1 < w1.heap.size := Nat.lt_of_lt_of_le (by simp) f1.size
          have hz0 : w.heap.size < w1.heap.size := by omega
          clear q0 q1 f1
          generalize d.length = dl at *
          go_wp2_with fail
          have a0 : RB (w1.alloc (.cells #[.int .i64 1, .int .i64 s, .int .i64 m, .slice ga dl gc, .int .i64 er] 32)) w.heap.size _ _ _ _ _ _ _ := keepA Q0.out
          have A0 := Lib.hid a0
          obtain ⟨_, _, x2, _, x4, x5, _, _, _, g2, _, g4, g5, _⟩ := a0.cells
          have hz2 : w.heap.size ≤ (w1.alloc (.cells #[.int .i64 1, .int .i64 s, .int .i64 m, .slice ga dl gc, .int .i64 er] 32)).drew.heap.size := by simp; omega
          have HZ2 := Lib.hid hz2
          clear a0 hz2
          go_region_law ((refine step_append_fr2 (by simp [Region.wanted, yielded]) (.const (.slice none 0 0)) (.tmp 44) 22 (by rfl) 5 (.int .u8 0) 1 HU.out HIN.out rfl w.heap.size (.slice none 0 0) [] (by simp [Act.eval]) (Ow.nil _ _ _) pa p.length pcap ((bi p).map (Value.int .u8)) (by simp [Act.eval, Act.put]) H3.out (HSP.out _ (F1.out.alloc _).drew) (oneCell_bytes _) H1.out H2.out HZ2.out ?_; intro v' w3 own3 f3 hb3; have f3' : Fr [] _ w3 := f3; have o3 : Ow w3 w.heap.size 5 v' ((bi p).map (Value.int .u8)) := own3; obtain ⟨na, nc, rfl, _⟩ := o3.formB; have q3 : RB w3 w.heap.size _ _ _ _ _ _ _ := f3'.keep A0.out (by simp); obtain ⟨_, _, y2, _, y4, y5, _, _, _, k2, _, k4, k5, _⟩ := q3.cells))
          all_goals
            have q1 : RB w3 (w.heap.size + 1) _ _ _ _ _ _ _ := f3'.keep (keepA Q1.out) (by simp)
            have hzz := f3'.size
            obtain ⟨wf, hwf, fF, rF⟩ : ∃ wf, (((w3.setCell ⟨w.heap.size, 2, none⟩ (.int .i64 (t.rd + p.length))).setCell ⟨w.heap.size, 4, none⟩ (.slice na p.length nc)).setCell ⟨w.heap.size, 5, none⟩ (.int .i64 0)) = wf ∧ Fr [w.heap.size] w3 wf ∧ RB wf w.heap.size (.int .i64 t.stage) (.int .i64 t.limit) (.int .i64 (t.rd + p.length)) (.int .i64 t.wr) (.slice na p.length nc) (.int .i64 0) (.int .i64 t.w) := ⟨_, rfl, (((Fr.refl _ _).setCell (.inl (by simp)) _).setCell (.inl (by simp)) _).setCell (.inl (by simp)) _, set3_rb_got q3⟩
            rw [hwf]
            have q1f : RB wf (w.heap.size + 1) _ _ _ _ _ _ _ := fF.keep q1 (by simp)
            obtain ⟨z0, z1, z2, z3, z4, z5, z6, _⟩ := rF.cells
            obtain ⟨_, _, _, _, _, _, _, _, _, _, _, _, _, _⟩ := q1f.cells
            have HOWN := Lib.hid (And.intro o3 hb3)
            clear hwf o3 own3 q1 q3 f3
            go_wp2_with fail
            obtain ⟨s0, s1, s2, s3, s4, s5, s6, _⟩ := RB.cells (seven_set (u0 := .int .i64 t.stage) (u1 := .int .i64 t.limit) (u2 := .int .i64 (t.rd + p.length)) (u3 := .int .i64 t.wr) (u4 := .slice na p.length nc) (u5 := .int .i64 0) (u6 := .int .i64 t.w) q1f)
            refine bodyPost_ret (v := .tuple #[.agg #[.int .i64 t.stage, .int .i64 t.limit, .int .i64 (t.rd + p.length), .int .i64 t.wr, .slice na p.length nc, .int .i64 0, .int .i64 t.w], .int .i64 0]) (by simp [results, Try.results60, go_sem, s0, s1, s2, s3, s4, s5, s6]) rfl ?_
            have g1 : Fr [] w w3 := (F1.out.alloc _).then0 (Fr.undrew f3')
            have fE : Fr [w.heap.size, w.heap.size + 1] w3 _ := (fF.mono (T := [w.heap.size, w.heap.size + 1]) (by simp)).then (seven_fr (w := wf) (b := w.heap.size + 1) (u0 := .int .i64 t.stage) (u1 := .int .i64 t.limit) (u2 := .int .i64 (t.rd + p.length)) (u3 := .int .i64 t.wr) (u4 := .slice na p.length nc) (u5 := .int .i64 0) (u6 := .int .i64 t.w) |>.mono (by simp))
            have ff := g1.trans fE (by simp) (U := []) (fun x hx => .inr (by simp at hx; omega))
            have o5 := HOWN.out.1.keep fE (fun k hk hm => by
              rcases HOWN.out.2 with h | h
              · rw [hk] at h; simp [Value.ownBlock] at h
              · rw [hk] at h
                injection h with h
                simp at hm
                simp at h
                omega)
            obtain ⟨na', nc', e1, n1, n2, n3, n4⟩ := o5.formB
            simp only [Value.slice.injEq] at e1
            obtain ⟨rfl, _, rfl⟩ := e1
            exact ⟨_, rfl, ff, na, nc, rfl, n1, n2, n3, fun b o _ he => HN5.out b (n4 b o he)⟩
      · cases hce : codeE e
        · have HCD := Lib.hid fun w => hce ▸ rcode w e
          have HGZ : Hid (gotE t p e = 2) := Lib.hid (HGE.out.trans (HCK.out.trans (if_pos (.inr (.inr (by rw [hc, hce]))))))
          rw [gotT_no HGZ.out (by decide), HGZ.out]
          clear hce h3 h4 hs hc HGZ HCK HGE
          by_cases hp0 : p.length = 0
          · have hp1 : ((p.length : Int) == 0) = true := by simp [hp0]
            clear hp0
            go_enter Try.func60, Try.ntmps60
            go_wp2_with fail
            refine (HX.out _ (((Fr.refl [] w).alloc _).alloc _)).mono ?_
            rintro x w1 ⟨nv, rfl, f1, hv⟩
            obtain ⟨u, rfl, ou⟩ := hv
            obtain ⟨ga, gc, rfl, _⟩ := ou.formB
            clear ou
            have q0 : RB w1 w.heap.size _ _ _ _ _ _ _ := f1.keep (two_boxes w _ _).1 (by simp)
            have q1 : RB w1 (w.heap.size + 1) _ _ _ _ _ _ _ := f1.keep (two_boxes w _ _).2 (by simp)
            obtain ⟨_, _, _, _, _, _, _, _, _, _, _, _, _, _⟩ := q0.cells
            obtain ⟨_, _, _, _, _, _, _, _, _, _, _, _, _, _⟩ := q1.cells
            have F1 := Lib.hid ((((Fr.refl [] w).alloc _).alloc _).then0 f1)
            have Q0 := Lib.hid q0
            have Q1 := Lib.hid q1
            have hz1 : w.heap.size + 1 < w1.heap.size := Nat.lt_of_lt_of_le (by simp) f1.size
            have hz0 : w.heap.size < w1.heap.size := by omega
            clear q0 q1 f1
            generalize d.length = dl at *
            go_wp2_with fail
            refine (HCD.out _).mono ?_
            rintro x2 w2 ⟨rfl, rfl⟩
            go_wp2_with fail
            obtain ⟨s0, s1, s2, s3, s4, s5, s6, _⟩ := seven_set_a (u0 := .int .i64 t.stage) (u1 := .int .i64 t.limit) (u2 := .int .i64 t.rd) (u3 := .int .i64 t.wr) (u4 := .slice ra t.s.length rc) (u5 := .int .i64 t.r) (u6 := .int .i64 t.w) Q1.out (.cells #[.int .i64 1, .int .i64 s, .int .i64 m, .slice ga dl gc, .int .i64 er] 32)
            refine bodyPost_ret (v := .tuple #[.agg #[.int .i64 t.stage, .int .i64 t.limit, .int .i64 t.rd, .int .i64 t.wr, .slice ra t.s.length rc, .int .i64 t.r, .int .i64 t.w], .int .i64 2]) (by simp [results, Try.results60, go_sem, s0, s1, s2, s3, s4, s5, s6]) rfl ?_
            have ff := F1.out.trans ((seven_fr (w := w1) (b := w.heap.size + 1) (u0 := .int .i64 t.stage) (u1 := .int .i64 t.limit) (u2 := .int .i64 t.rd) (u3 := .int .i64 t.wr) (u4 := .slice ra t.s.length rc) (u5 := .int .i64 t.r) (u6 := .int .i64 t.w)).alloc (.cells #[.int .i64 1, .int .i64 s, .int .i64 m, .slice ga dl gc, .int .i64 er] 32)) (by simp) (U := []) (fun x hx => .inr (by simp at hx; omega))
            exact ⟨_, rfl, ff, HRV.out _ ff⟩
          · have hp1 : ((p.length : Int) == 0) = false := by simp; exact fun e => hp0 (by rw [e]; rfl)
            clear hp0
            go_enter Try.func60, Try.ntmps60
            go_wp2_with fail
            refine (HX.out _ (((Fr.refl [] w).alloc _).alloc _)).mono ?_
            rintro x w1 ⟨nv, rfl, f1, hv⟩
            obtain ⟨u, rfl, ou⟩ := hv
            obtain ⟨ga, gc, rfl, _⟩ := ou.formB
            clear ou
            have q0 : RB w1 w.heap.size _ _ _ _ _ _ _ := f1.keep (two_boxes w _ _).1 (by simp)
            have q1 : RB w1 (w.heap.size + 1) _ _ _ _ _ _ _ := f1.keep (two_boxes w _ _).2 (by simp)
            obtain ⟨_, _, _, _, _, _, _, _, _, _, _, _, _, _⟩ := q0.cells
            obtain ⟨_, _, _, _, _, _, _, _, _, _, _, _, _, _⟩ := q1.cells
            have F1 := Lib.hid ((((Fr.refl [] w).alloc _).alloc _).then0 f1)
            have Q0 := Lib.hid q0
            have Q1 := Lib.hid q1
            have hz1 : w.heap.size + 1 < w1.heap.size := Nat.lt_of_lt_of_le (by simp) f1.size
            have hz0 : w.heap.size < w1.heap.size := by omega
            clear q0 q1 f1
            generalize d.length = dl at *
            go_wp2_with fail
            refine (HCD.out _).mono ?_
            rintro x2 w2 ⟨rfl, rfl⟩
            go_wp2_with fail
            obtain ⟨s0, s1, s2, s3, s4, s5, s6, _⟩ := seven_set_a (u0 := .int .i64 t.stage) (u1 := .int .i64 t.limit) (u2 := .int .i64 t.rd) (u3 := .int .i64 t.wr) (u4 := .slice ra t.s.length rc) (u5 := .int .i64 t.r) (u6 := .int .i64 t.w) Q1.out (.cells #[.int .i64 1, .int .i64 s, .int .i64 m, .slice ga dl gc, .int .i64 er] 32)
            refine bodyPost_ret (v := .tuple #[.agg #[.int .i64 t.stage, .int .i64 t.limit, .int .i64 t.rd, .int .i64 t.wr, .slice ra t.s.length rc, .int .i64 t.r, .int .i64 t.w], .int .i64 2]) (by simp [results, Try.results60, go_sem, s0, s1, s2, s3, s4, s5, s6]) rfl ?_
            have ff := F1.out.trans ((seven_fr (w := w1) (b := w.heap.size + 1) (u0 := .int .i64 t.stage) (u1 := .int .i64 t.limit) (u2 := .int .i64 t.rd) (u3 := .int .i64 t.wr) (u4 := .slice ra t.s.length rc) (u5 := .int .i64 t.r) (u6 := .int .i64 t.w)).alloc (.cells #[.int .i64 1, .int .i64 s, .int .i64 m, .slice ga dl gc, .int .i64 er] 32)) (by simp) (U := []) (fun x hx => .inr (by simp at hx; omega))
            exact ⟨_, rfl, ff, HRV.out _ ff⟩
        · have HCD := Lib.hid fun w => hce ▸ rcode w e
          have HGZ : Hid (gotE t p e = 0) := Lib.hid (HGE.out.trans (HCK.out.trans (if_neg (fun h => by rw [hc, hce] at h; simp at h; omega))))
          rw [gotT_yes HGZ.out, HGZ.out]
          clear hce hc HGZ HCK HGE
          have hwp : IntKind.i64.wrap (t.rd + p.length) = t.rd + p.length := IntWalk.i64_in _ (by omega)
          have HSP := Lib.hid fun w1 (f : Fr [] w w1) => (sl_keep hs f (by simp)).toV
          have HU : Hid (Try.prog.underlying 22 = some (.slice 5)) := Lib.hid Try.underlying22
          have HIN : Hid ((Try.prog.info? 5).map (fun i => (i.zero, i.size, i.bytes)) = some (some (.int .u8 0), 1, 1)) := Lib.hid (by kernel_rfl)
          have H1 : Hid (([] : List Value).length + p.length ≤ maxLen) := Lib.hid (by unfold maxLen; simp; omega)
          have H2 : Hid ((([] : List Value).length + p.length) * 1 ≤ 140737488355328) := Lib.hid (by simp; omega)
          have H3 : Hid (((bi p).map (Value.int .u8)).length = p.length) := Lib.hid (by simp [bi])
          have HN5 := Lib.hid hN
          clear h3 h4 hs hN
          by_cases hp0 : p.length = 0
          · have hp1 : ((p.length : Int) == 0) = true := by simp [hp0]
            clear hp0
            go_enter Try.func60, Try.ntmps60
            go_wp2_with fail
            refine (HX.out _ (((Fr.refl [] w).alloc _).alloc _)).mono ?_
            rintro x w1 ⟨nv, rfl, f1, hv⟩
            obtain ⟨u, rfl, ou⟩ := hv
            obtain ⟨ga, gc, rfl, _⟩ := ou.formB
            clear ou
            have q0 : RB w1 w.heap.size _ _ _ _ _ _ _ := f1.keep (two_boxes w _ _).1 (by simp)
            have q1 : RB w1 (w.heap.size + 1) _ _ _ _ _ _ _ := f1.keep (two_boxes w _ _).2 (by simp)
            obtain ⟨_, _, _, _, _, _, _, _, _, _, _, _, _, _⟩ := q0.cells
            obtain ⟨_, _, _, _, _, _, _, _, _, _, _, _, _, _⟩ := q1.cells
            have F1 := Lib.hid ((((Fr.refl [] w).alloc _).alloc _).then0 f1)
            have Q0 := Lib.hid q0
            have Q1 := Lib.hid q1
            have hz1 : w.heap.size + 1 < w1.heap.size := Nat.lt_of_lt_of_le (by simp) f1.size
            have hz0 : w.heap.size < w1.heap.size := by omega
            clear q0 q1 f1
            generalize d.length = dl at *
            go_wp2_with fail
            refine (HCD.out _).mono ?_
            rintro x2 w2 ⟨rfl, rfl⟩
            go_wp2_with fail
            have a0 : RB (w1.alloc (.cells #[.int .i64 1, .int .i64 s, .int .i64 m, .slice ga dl gc, .int .i64 er] 32)) w.heap.size _ _ _ _ _ _ _ := keepA Q0.out
            have A0 := Lib.hid a0
            obtain ⟨_, _, x2, _, x4, x5, _, _, _, g2, _, g4, g5, _⟩ := a0.cells
            have hz2 : w.heap.size ≤ (w1.alloc (.cells #[.int .i64 1, .int .i64 s, .int .i64 m, .slice ga dl gc, .int .i64 er] 32)).drew.heap.size := by simp; omega
            have HZ2 := Lib.hid hz2
            clear a0 hz2
            go_region_law ((refine step_append_fr2 (by simp [Region.wanted, yielded]) (.const (.slice none 0 0)) (.tmp 44) 22 (by rfl) 5 (.int .u8 0) 1 HU.out HIN.out rfl w.heap.size (.slice none 0 0) [] (by simp [Act.eval]) (Ow.nil _ _ _) pa p.length pcap ((bi p).map (Value.int .u8)) (by simp [Act.eval, Act.put]) H3.out (HSP.out _ (F1.out.alloc _).drew) (oneCell_bytes _) H1.out H2.out HZ2.out ?_; intro v' w3 own3 f3 hb3; have f3' : Fr [] _ w3 := f3; have o3 : Ow w3 w.heap.size 5 v' ((bi p).map (Value.int .u8)) := own3; obtain ⟨na, nc, rfl, _⟩ := o3.formB; have q3 : RB w3 w.heap.size _ _ _ _ _ _ _ := f3'.keep A0.out (by simp); obtain ⟨_, _, y2, _, y4, y5, _, _, _, k2, _, k4, k5, _⟩ := q3.cells))
            all_goals
              have q1 : RB w3 (w.heap.size + 1) _ _ _ _ _ _ _ := f3'.keep (keepA Q1.out) (by simp)
              have hzz := f3'.size
              obtain ⟨wf, hwf, fF, rF⟩ : ∃ wf, (((w3.setCell ⟨w.heap.size, 2, none⟩ (.int .i64 (t.rd + p.length))).setCell ⟨w.heap.size, 4, none⟩ (.slice na p.length nc)).setCell ⟨w.heap.size, 5, none⟩ (.int .i64 e)) = wf ∧ Fr [w.heap.size] w3 wf ∧ RB wf w.heap.size (.int .i64 t.stage) (.int .i64 t.limit) (.int .i64 (t.rd + p.length)) (.int .i64 t.wr) (.slice na p.length nc) (.int .i64 e) (.int .i64 t.w) := ⟨_, rfl, (((Fr.refl _ _).setCell (.inl (by simp)) _).setCell (.inl (by simp)) _).setCell (.inl (by simp)) _, set3_rb_got q3⟩
              rw [hwf]
              have q1f : RB wf (w.heap.size + 1) _ _ _ _ _ _ _ := fF.keep q1 (by simp)
              obtain ⟨z0, z1, z2, z3, z4, z5, z6, _⟩ := rF.cells
              obtain ⟨_, _, _, _, _, _, _, _, _, _, _, _, _, _⟩ := q1f.cells
              have HOWN := Lib.hid (And.intro o3 hb3)
              clear hwf o3 own3 q1 q3 f3
              go_wp2_with fail
              obtain ⟨s0, s1, s2, s3, s4, s5, s6, _⟩ := RB.cells (seven_set (u0 := .int .i64 t.stage) (u1 := .int .i64 t.limit) (u2 := .int .i64 (t.rd + p.length)) (u3 := .int .i64 t.wr) (u4 := .slice na p.length nc) (u5 := .int .i64 e) (u6 := .int .i64 t.w) q1f)
              refine bodyPost_ret (v := .tuple #[.agg #[.int .i64 t.stage, .int .i64 t.limit, .int .i64 (t.rd + p.length), .int .i64 t.wr, .slice na p.length nc, .int .i64 e, .int .i64 t.w], .int .i64 0]) (by simp [results, Try.results60, go_sem, s0, s1, s2, s3, s4, s5, s6]) rfl ?_
              have g1 : Fr [] w w3 := (F1.out.alloc _).then0 (Fr.undrew f3')
              have fE : Fr [w.heap.size, w.heap.size + 1] w3 _ := (fF.mono (T := [w.heap.size, w.heap.size + 1]) (by simp)).then (seven_fr (w := wf) (b := w.heap.size + 1) (u0 := .int .i64 t.stage) (u1 := .int .i64 t.limit) (u2 := .int .i64 (t.rd + p.length)) (u3 := .int .i64 t.wr) (u4 := .slice na p.length nc) (u5 := .int .i64 e) (u6 := .int .i64 t.w) |>.mono (by simp))
              have ff := g1.trans fE (by simp) (U := []) (fun x hx => .inr (by simp at hx; omega))
              have o5 := HOWN.out.1.keep fE (fun k hk hm => by
                rcases HOWN.out.2 with h | h
                · rw [hk] at h; simp [Value.ownBlock] at h
                · rw [hk] at h
                  injection h with h
                  simp at hm
                  simp at h
                  omega)
              obtain ⟨na', nc', e1, n1, n2, n3, n4⟩ := o5.formB
              simp only [Value.slice.injEq] at e1
              obtain ⟨rfl, _, rfl⟩ := e1
              exact ⟨_, rfl, ff, na, nc, rfl, n1, n2, n3, fun b o _ he => HN5.out b (n4 b o he)⟩
          · have hp1 : ((p.length : Int) == 0) = false := by simp; exact fun e => hp0 (by rw [e]; rfl)
            clear hp0
            go_enter Try.func60, Try.ntmps60
            go_wp2_with fail
            refine (HX.out _ (((Fr.refl [] w).alloc _).alloc _)).mono ?_
            rintro x w1 ⟨nv, rfl, f1, hv⟩
            obtain ⟨u, rfl, ou⟩ := hv
            obtain ⟨ga, gc, rfl, _⟩ := ou.formB
            clear ou
            have q0 : RB w1 w.heap.size _ _ _ _ _ _ _ := f1.keep (two_boxes w _ _).1 (by simp)
            have q1 : RB w1 (w.heap.size + 1) _ _ _ _ _ _ _ := f1.keep (two_boxes w _ _).2 (by simp)
            obtain ⟨_, _, _, _, _, _, _, _, _, _, _, _, _, _⟩ := q0.cells
            obtain ⟨_, _, _, _, _, _, _, _, _, _, _, _, _, _⟩ := q1.cells
            have F1 := Lib.hid ((((Fr.refl [] w).alloc _).alloc _).then0 f1)
            have Q0 := Lib.hid q0
            have Q1 := Lib.hid q1
            have hz1 : w.heap.size + 1 < w1.heap.size := Nat.lt_of_lt_of_le (by simp) f1.size
            have hz0 : w.heap.size < w1.heap.size := by omega
            clear q0 q1 f1
            generalize d.length = dl at *
            go_wp2_with fail
            refine (HCD.out _).mono ?_
            rintro x2 w2 ⟨rfl, rfl⟩
            go_wp2_with fail
            have a0 : RB (w1.alloc (.cells #[.int .i64 1, .int .i64 s, .int .i64 m, .slice ga dl gc, .int .i64 er] 32)) w.heap.size _ _ _ _ _ _ _ := keepA Q0.out
            have A0 := Lib.hid a0
            obtain ⟨_, _, x2, _, x4, x5, _, _, _, g2, _, g4, g5, _⟩ := a0.cells
            have hz2 : w.heap.size ≤ (w1.alloc (.cells #[.int .i64 1, .int .i64 s, .int .i64 m, .slice ga dl gc, .int .i64 er] 32)).drew.heap.size := by simp; omega
            have HZ2 := Lib.hid hz2
            clear a0 hz2
            go_region_law ((refine step_append_fr2 (by simp [Region.wanted, yielded]) (.const (.slice none 0 0)) (.tmp 44) 22 (by rfl) 5 (.int .u8 0) 1 HU.out HIN.out rfl w.heap.size (.slice none 0 0) [] (by simp [Act.eval]) (Ow.nil _ _ _) pa p.length pcap ((bi p).map (Value.int .u8)) (by simp [Act.eval, Act.put]) H3.out (HSP.out _ (F1.out.alloc _).drew) (oneCell_bytes _) H1.out H2.out HZ2.out ?_; intro v' w3 own3 f3 hb3; have f3' : Fr [] _ w3 := f3; have o3 : Ow w3 w.heap.size 5 v' ((bi p).map (Value.int .u8)) := own3; obtain ⟨na, nc, rfl, _⟩ := o3.formB; have q3 : RB w3 w.heap.size _ _ _ _ _ _ _ := f3'.keep A0.out (by simp); obtain ⟨_, _, y2, _, y4, y5, _, _, _, k2, _, k4, k5, _⟩ := q3.cells))
            all_goals
              have q1 : RB w3 (w.heap.size + 1) _ _ _ _ _ _ _ := f3'.keep (keepA Q1.out) (by simp)
              have hzz := f3'.size
              obtain ⟨wf, hwf, fF, rF⟩ : ∃ wf, (((w3.setCell ⟨w.heap.size, 2, none⟩ (.int .i64 (t.rd + p.length))).setCell ⟨w.heap.size, 4, none⟩ (.slice na p.length nc)).setCell ⟨w.heap.size, 5, none⟩ (.int .i64 e)) = wf ∧ Fr [w.heap.size] w3 wf ∧ RB wf w.heap.size (.int .i64 t.stage) (.int .i64 t.limit) (.int .i64 (t.rd + p.length)) (.int .i64 t.wr) (.slice na p.length nc) (.int .i64 e) (.int .i64 t.w) := ⟨_, rfl, (((Fr.refl _ _).setCell (.inl (by simp)) _).setCell (.inl (by simp)) _).setCell (.inl (by simp)) _, set3_rb_got q3⟩
              rw [hwf]
              have q1f : RB wf (w.heap.size + 1) _ _ _ _ _ _ _ := fF.keep q1 (by simp)
              obtain ⟨z0, z1, z2, z3, z4, z5, z6, _⟩ := rF.cells
              obtain ⟨_, _, _, _, _, _, _, _, _, _, _, _, _, _⟩ := q1f.cells
              have HOWN := Lib.hid (And.intro o3 hb3)
              clear hwf o3 own3 q1 q3 f3
              go_wp2_with fail
              obtain ⟨s0, s1, s2, s3, s4, s5, s6, _⟩ := RB.cells (seven_set (u0 := .int .i64 t.stage) (u1 := .int .i64 t.limit) (u2 := .int .i64 (t.rd + p.length)) (u3 := .int .i64 t.wr) (u4 := .slice na p.length nc) (u5 := .int .i64 e) (u6 := .int .i64 t.w) q1f)
              refine bodyPost_ret (v := .tuple #[.agg #[.int .i64 t.stage, .int .i64 t.limit, .int .i64 (t.rd + p.length), .int .i64 t.wr, .slice na p.length nc, .int .i64 e, .int .i64 t.w], .int .i64 0]) (by simp [results, Try.results60, go_sem, s0, s1, s2, s3, s4, s5, s6]) rfl ?_
              have g1 : Fr [] w w3 := (F1.out.alloc _).then0 (Fr.undrew f3')
              have fE : Fr [w.heap.size, w.heap.size + 1] w3 _ := (fF.mono (T := [w.heap.size, w.heap.size + 1]) (by simp)).then (seven_fr (w := wf) (b := w.heap.size + 1) (u0 := .int .i64 t.stage) (u1 := .int .i64 t.limit) (u2 := .int .i64 (t.rd + p.length)) (u3 := .int .i64 t.wr) (u4 := .slice na p.length nc) (u5 := .int .i64 e) (u6 := .int .i64 t.w) |>.mono (by simp))
              have ff := g1.trans fE (by simp) (U := []) (fun x hx => .inr (by simp at hx; omega))
              have o5 := HOWN.out.1.keep fE (fun k hk hm => by
                rcases HOWN.out.2 with h | h
                · rw [hk] at h; simp [Value.ownBlock] at h
                · rw [hk] at h
                  injection h with h
                  simp at hm
                  simp at h
                  omega)
              obtain ⟨na', nc', e1, n1, n2, n3, n4⟩ := o5.formB
              simp only [Value.slice.injEq] at e1
              obtain ⟨rfl, _, rfl⟩ := e1
              exact ⟨_, rfl, ff, na, nc, rfl, n1, n2, n3, fun b o _ he => HN5.out b (n4 b o he)⟩
  · have hkb : (k != 1) = true := by simpa using hk
    rw [if_pos hk] at HCK
    have HGZ : Hid (gotE t p e = 8) := Lib.hid (HGE.out.trans HCK.out)
    rw [gotT_no HGZ.out (by decide), HGZ.out]
    clear hk h3 h4 hs HGZ HCK HGE
    go_enter Try.func60, Try.ntmps60
    go_wp2_with fail
    refine (HX.out _ (((Fr.refl [] w).alloc _).alloc _)).mono ?_
    rintro x w1 ⟨nv, rfl, f1, hv⟩
    obtain ⟨u, rfl, ou⟩ := hv
    obtain ⟨ga, gc, rfl, _⟩ := ou.formB
    clear ou
    have q0 : RB w1 w.heap.size _ _ _ _ _ _ _ := f1.keep (two_boxes w _ _).1 (by simp)
    have q1 : RB w1 (w.heap.size + 1) _ _ _ _ _ _ _ := f1.keep (two_boxes w _ _).2 (by simp)
    obtain ⟨_, _, _, _, _, _, _, _, _, _, _, _, _, _⟩ := q0.cells
    obtain ⟨_, _, _, _, _, _, _, _, _, _, _, _, _, _⟩ := q1.cells
    have F1 := Lib.hid ((((Fr.refl [] w).alloc _).alloc _).then0 f1)
    have Q0 := Lib.hid q0
    have Q1 := Lib.hid q1
    have hz1 : w.heap.size + 1 < w1.heap.size := Nat.lt_of_lt_of_le (by simp) f1.size
    have hz0 : w.heap.size < w1.heap.size := by omega
    clear q0 q1 f1
    generalize d.length = dl at *
    go_wp2_with fail
    obtain ⟨s0, s1, s2, s3, s4, s5, s6, _⟩ := seven_set_a (u0 := .int .i64 t.stage) (u1 := .int .i64 t.limit) (u2 := .int .i64 t.rd) (u3 := .int .i64 t.wr) (u4 := .slice ra t.s.length rc) (u5 := .int .i64 t.r) (u6 := .int .i64 t.w) Q1.out (.cells #[.int .i64 k, .int .i64 s, .int .i64 m, .slice ga dl gc, .int .i64 er] 32)
    refine bodyPost_ret (v := .tuple #[.agg #[.int .i64 t.stage, .int .i64 t.limit, .int .i64 t.rd, .int .i64 t.wr, .slice ra t.s.length rc, .int .i64 t.r, .int .i64 t.w], .int .i64 8]) (by simp [results, Try.results60, go_sem, s0, s1, s2, s3, s4, s5, s6]) rfl ?_
    have ff := F1.out.trans ((seven_fr (w := w1) (b := w.heap.size + 1) (u0 := .int .i64 t.stage) (u1 := .int .i64 t.limit) (u2 := .int .i64 t.rd) (u3 := .int .i64 t.wr) (u4 := .slice ra t.s.length rc) (u5 := .int .i64 t.r) (u6 := .int .i64 t.w)).alloc (.cells #[.int .i64 k, .int .i64 s, .int .i64 m, .slice ga dl gc, .int .i64 er] 32)) (by simp) (U := []) (fun x hx => .inr (by simp at hx; omega))
    exact ⟨_, rfl, ff, HRV.out _ ff⟩

set_option maxHeartbeats 2000000 in
theorem rt_wrote {w : World} {N : Nat → Prop} {v : Value} {t : TS} (h : Rv w N v t) (hok : TOk t) (hr : t.rd ≤ 4611686018427387904) (hN : ∀ x, w.heap.size ≤ x → N x) (n e : Int) :
    Calls Try.prog 61 #[v, .int .i64 n, .int .i64 e] w fun x w' => ∃ u, x = .returned (.tuple #[u, .int .i64 (wroteE t n e)]) ∧ Fr [] w w' ∧ Rv w' N u (wroteT t n e) := by
  have HX := Lib.hid fun w1 (f : Fr [] w w1) => rt_next (h.keep f (by simp)) hok hr
  obtain ⟨ra, rc, rfl, h1, h2, h3, h4⟩ := h
  have hfd : ∀ (a b c d e : Value) (w : World), (Instr.field 32 (.agg #[a, b, c, d, e]) 0).run Try.prog w = .ok a w := fun _ _ _ _ _ _ => by kernel_rfl
  have hr0 := hok.w0
  have hsum := hok.sum
  have hfew := hok.few
  have hs2 := hok.s2
  clear hok
  have HGE : Hid (wroteE t n e = checkT t 2 n ((nextT t).data.length : Nat) e) := Lib.hid rfl
  have HK2 : Hid ((nextT t).kind = 2 → (nextT t).data = t.s) := Lib.hid (fun hk => by obtain ⟨_, _, hn⟩ := nextT_k2 hk; rw [hn])
  obtain ⟨k, s, m, d, er, hx⟩ : ∃ k s m d er, nextT t = ⟨k, s, m, d, er⟩ := ⟨_, _, _, _, _, rfl⟩
  have HCK : Hid (checkT t 2 n ((nextT t).data.length : Nat) e = if k ≠ 2 then 8 else if n < 0 ∨ (d.length : Int) < n ∨ codeN n e = false then 2 else 0) := Lib.hid (by unfold checkT; rw [hx])
  rw [hx] at HX HK2
  clear hx
  have HRV := Lib.hid fun w1 (f : Fr [] w w1) => (show Rv w1 N (.agg #[.int .i64 t.stage, .int .i64 t.limit, .int .i64 t.rd, .int .i64 t.wr, .slice ra t.s.length rc, .int .i64 t.r, .int .i64 t.w]) t from ⟨ra, rc, rfl, h1, h2, sl_keep h3 f (by simp), h4⟩)
  by_cases hk : k = 2
  · subst hk
    rw [if_neg (by simp)] at HCK
    have hdl : d.length = t.s.length := congrArg List.length (HK2.out rfl)
    by_cases hn0 : n < 0
    · skip
      have HGZ : Hid (wroteE t n e = 2) := Lib.hid (HGE.out.trans (HCK.out.trans (if_pos (.inl hn0))))
      rw [wroteT_no HGZ.out (by decide), HGZ.out]
      clear h3 h4 HGZ HCK HGE
      go_enter Try.func61, Try.ntmps61
      go_wp2_with fail
      refine (HX.out _ (((Fr.refl [] w).alloc _).alloc _)).mono ?_
      rintro x w1 ⟨nv, rfl, f1, hv⟩
      obtain ⟨u, rfl, ou⟩ := hv
      obtain ⟨ga, gc, rfl, _⟩ := ou.formB
      clear ou
      have q0 : RB w1 w.heap.size _ _ _ _ _ _ _ := f1.keep (two_boxes w _ _).1 (by simp)
      have q1 : RB w1 (w.heap.size + 1) _ _ _ _ _ _ _ := f1.keep (two_boxes w _ _).2 (by simp)
      obtain ⟨_, _, x2, x3, x4, x5, x6, _, _, _, _, _, _, _⟩ := q0.cells
      obtain ⟨_, _, _, _, _, _, _, _, _, _, _, _, _, _⟩ := q1.cells
      have F1 := Lib.hid ((((Fr.refl [] w).alloc _).alloc _).then0 f1)
      have Q0 := Lib.hid q0
      have Q1 := Lib.hid q1
      have hz1 : w.heap.size + 1 < w1.heap.size := Nat.lt_of_lt_of_le (by simp) f1.size
      have hz0 : w.heap.size < w1.heap.size := by omega
      clear q0 q1 f1
      generalize d.length = dl at *
      go_wp2_with fail
      obtain ⟨s0, s1, s2, s3, s4, s5, s6, _⟩ := RB.cells (seven_set (u0 := .int .i64 t.stage) (u1 := .int .i64 t.limit) (u2 := .int .i64 t.rd) (u3 := .int .i64 t.wr) (u4 := .slice ra t.s.length rc) (u5 := .int .i64 t.r) (u6 := .int .i64 t.w) Q1.out)
      refine bodyPost_ret (v := .tuple #[.agg #[.int .i64 t.stage, .int .i64 t.limit, .int .i64 t.rd, .int .i64 t.wr, .slice ra t.s.length rc, .int .i64 t.r, .int .i64 t.w], .int .i64 2]) (by simp [results, Try.results61, go_sem, s0, s1, s2, s3, s4, s5, s6]) rfl ?_
      have ff := F1.out.trans (seven_fr (w := w1) (b := w.heap.size + 1) (u0 := .int .i64 t.stage) (u1 := .int .i64 t.limit) (u2 := .int .i64 t.rd) (u3 := .int .i64 t.wr) (u4 := .slice ra t.s.length rc) (u5 := .int .i64 t.r) (u6 := .int .i64 t.w)) (by simp) (U := []) (fun x hx => .inr (by simp at hx; omega))
      exact ⟨_, rfl, ff, HRV.out _ ff⟩
    replace hn0 : 0 ≤ n := by omega
    by_cases hn1 : (t.s.length : Int) < n
    · skip
      have HGZ : Hid (wroteE t n e = 2) := Lib.hid (HGE.out.trans (HCK.out.trans (if_pos (.inr (.inl (by omega))))))
      rw [wroteT_no HGZ.out (by decide), HGZ.out]
      clear h3 h4 HGZ HCK HGE
      go_enter Try.func61, Try.ntmps61
      go_wp2_with fail
      refine (HX.out _ (((Fr.refl [] w).alloc _).alloc _)).mono ?_
      rintro x w1 ⟨nv, rfl, f1, hv⟩
      obtain ⟨u, rfl, ou⟩ := hv
      obtain ⟨ga, gc, rfl, _⟩ := ou.formB
      clear ou
      have q0 : RB w1 w.heap.size _ _ _ _ _ _ _ := f1.keep (two_boxes w _ _).1 (by simp)
      have q1 : RB w1 (w.heap.size + 1) _ _ _ _ _ _ _ := f1.keep (two_boxes w _ _).2 (by simp)
      obtain ⟨_, _, x2, x3, x4, x5, x6, _, _, _, _, _, _, _⟩ := q0.cells
      obtain ⟨_, _, _, _, _, _, _, _, _, _, _, _, _, _⟩ := q1.cells
      have F1 := Lib.hid ((((Fr.refl [] w).alloc _).alloc _).then0 f1)
      have Q0 := Lib.hid q0
      have Q1 := Lib.hid q1
      have hz1 : w.heap.size + 1 < w1.heap.size := Nat.lt_of_lt_of_le (by simp) f1.size
      have hz0 : w.heap.size < w1.heap.size := by omega
      clear q0 q1 f1
      generalize d.length = dl at *
      go_wp2_with fail
      obtain ⟨s0, s1, s2, s3, s4, s5, s6, _⟩ := RB.cells (seven_set (u0 := .int .i64 t.stage) (u1 := .int .i64 t.limit) (u2 := .int .i64 t.rd) (u3 := .int .i64 t.wr) (u4 := .slice ra t.s.length rc) (u5 := .int .i64 t.r) (u6 := .int .i64 t.w) Q1.out)
      refine bodyPost_ret (v := .tuple #[.agg #[.int .i64 t.stage, .int .i64 t.limit, .int .i64 t.rd, .int .i64 t.wr, .slice ra t.s.length rc, .int .i64 t.r, .int .i64 t.w], .int .i64 2]) (by simp [results, Try.results61, go_sem, s0, s1, s2, s3, s4, s5, s6]) rfl ?_
      have ff := F1.out.trans (seven_fr (w := w1) (b := w.heap.size + 1) (u0 := .int .i64 t.stage) (u1 := .int .i64 t.limit) (u2 := .int .i64 t.rd) (u3 := .int .i64 t.wr) (u4 := .slice ra t.s.length rc) (u5 := .int .i64 t.r) (u6 := .int .i64 t.w)) (by simp) (U := []) (fun x hx => .inr (by simp at hx; omega))
      exact ⟨_, rfl, ff, HRV.out _ ff⟩
    replace hn1 : n ≤ (t.s.length : Int) := by omega
    rcases codeN_arm n e with ⟨rfl, hc⟩ | ⟨he, he2, hc⟩
    · by_cases hp0 : n = 0
      · subst hp0
        have HGZ : Hid (wroteE t 0 0 = 2) := Lib.hid (HGE.out.trans (HCK.out.trans (if_pos (.inr (.inr (by rw [hc]; simp))))))
        rw [wroteT_no HGZ.out (by decide), HGZ.out]
        clear h3 h4 HGZ HCK HGE hc
        go_enter Try.func61, Try.ntmps61
        go_wp2_with fail
        refine (HX.out _ (((Fr.refl [] w).alloc _).alloc _)).mono ?_
        rintro x w1 ⟨nv, rfl, f1, hv⟩
        obtain ⟨u, rfl, ou⟩ := hv
        obtain ⟨ga, gc, rfl, _⟩ := ou.formB
        clear ou
        have q0 : RB w1 w.heap.size _ _ _ _ _ _ _ := f1.keep (two_boxes w _ _).1 (by simp)
        have q1 : RB w1 (w.heap.size + 1) _ _ _ _ _ _ _ := f1.keep (two_boxes w _ _).2 (by simp)
        obtain ⟨_, _, x2, x3, x4, x5, x6, _, _, _, _, _, _, _⟩ := q0.cells
        obtain ⟨_, _, _, _, _, _, _, _, _, _, _, _, _, _⟩ := q1.cells
        have F1 := Lib.hid ((((Fr.refl [] w).alloc _).alloc _).then0 f1)
        have Q0 := Lib.hid q0
        have Q1 := Lib.hid q1
        have hz1 : w.heap.size + 1 < w1.heap.size := Nat.lt_of_lt_of_le (by simp) f1.size
        have hz0 : w.heap.size < w1.heap.size := by omega
        clear q0 q1 f1
        generalize d.length = dl at *
        go_wp2_with fail
        obtain ⟨s0, s1, s2, s3, s4, s5, s6, _⟩ := RB.cells (seven_set (u0 := .int .i64 t.stage) (u1 := .int .i64 t.limit) (u2 := .int .i64 t.rd) (u3 := .int .i64 t.wr) (u4 := .slice ra t.s.length rc) (u5 := .int .i64 t.r) (u6 := .int .i64 t.w) Q1.out)
        refine bodyPost_ret (v := .tuple #[.agg #[.int .i64 t.stage, .int .i64 t.limit, .int .i64 t.rd, .int .i64 t.wr, .slice ra t.s.length rc, .int .i64 t.r, .int .i64 t.w], .int .i64 2]) (by simp [results, Try.results61, go_sem, s0, s1, s2, s3, s4, s5, s6]) rfl ?_
        have ff := F1.out.trans (seven_fr (w := w1) (b := w.heap.size + 1) (u0 := .int .i64 t.stage) (u1 := .int .i64 t.limit) (u2 := .int .i64 t.rd) (u3 := .int .i64 t.wr) (u4 := .slice ra t.s.length rc) (u5 := .int .i64 t.r) (u6 := .int .i64 t.w)) (by simp) (U := []) (fun x hx => .inr (by simp at hx; omega))
        exact ⟨_, rfl, ff, HRV.out _ ff⟩
      · have hp1 : (n == 0) = false := by simpa using hp0
        have HGZ : Hid (wroteE t n 0 = 0) := Lib.hid (HGE.out.trans (HCK.out.trans (if_neg (fun h => by rw [hc, decide_eq_true (show (0 : Int) < n by omega)] at h; simp at h; omega))))
        rw [wroteT_yes HGZ.out, HGZ.out]
        clear hc HGZ HCK HGE
        obtain ⟨nn, rfl⟩ := Int.eq_ofNat_of_zero_le hn0
        rw [Int.toNat_natCast]
        have hn2 : nn ≤ t.s.length := by omega
        clear hp0
        have hwp : IntKind.i64.wrap (t.wr + nn) = t.wr + nn := IntWalk.i64_in _ (by omega)
        have hds : (bi (t.s.drop nn)).length = t.s.length - nn := by rw [bi_length, List.length_drop]
        have HSP := Lib.hid fun w1 (f : Fr [] w w1) => (show SlV w1 (cutp ra rc nn) ((bi (t.s.drop nn)).map (Value.int .u8)) from by
          have h5 := cutp_sl (cap := rc) (l := nn) (k := t.s.length - nn) (sl_keep h3 f (by simp)) (by rw [bi_length]; exact h1) (by rw [bi_length]; omega)
          rw [List.take_of_length_le (by rw [List.length_drop, bi_length]; omega), ← bi_drop] at h5
          exact h5.toV)
        have hrun : ∀ w, (Instr.slice 22 (.slice ra t.s.length rc) (some (.int .i64 nn)) none none).run Try.prog w = .ok (.slice (cutp ra rc nn) (t.s.length - nn) (rc - nn)) w := fun w => run_cutl hn2 w
        have HU : Hid (Try.prog.underlying 22 = some (.slice 5)) := Lib.hid Try.underlying22
        have HIN : Hid ((Try.prog.info? 5).map (fun i => (i.zero, i.size, i.bytes)) = some (some (.int .u8 0), 1, 1)) := Lib.hid (by kernel_rfl)
        have H1 : Hid (([] : List Value).length + (t.s.length - nn) ≤ maxLen) := Lib.hid (by unfold maxLen; simp; omega)
        have H2 : Hid ((([] : List Value).length + (t.s.length - nn)) * 1 ≤ 140737488355328) := Lib.hid (by simp; omega)
        have H3 : Hid (((bi (t.s.drop nn)).map (Value.int .u8)).length = t.s.length - nn) := Lib.hid (by rw [List.length_map, hds])
        have HN5 := Lib.hid hN
        clear h3 h4 hN hds
        generalize t.s.drop nn = p2 at *
        go_enter Try.func61, Try.ntmps61
        go_wp2_with fail
        refine (HX.out _ (((Fr.refl [] w).alloc _).alloc _)).mono ?_
        rintro x w1 ⟨nv, rfl, f1, hv⟩
        obtain ⟨u, rfl, ou⟩ := hv
        obtain ⟨ga, gc, rfl, _⟩ := ou.formB
        clear ou
        have q0 : RB w1 w.heap.size _ _ _ _ _ _ _ := f1.keep (two_boxes w _ _).1 (by simp)
        have q1 : RB w1 (w.heap.size + 1) _ _ _ _ _ _ _ := f1.keep (two_boxes w _ _).2 (by simp)
        obtain ⟨_, _, x2, x3, x4, x5, x6, _, _, _, _, _, _, _⟩ := q0.cells
        obtain ⟨_, _, _, _, _, _, _, _, _, _, _, _, _, _⟩ := q1.cells
        have F1 := Lib.hid ((((Fr.refl [] w).alloc _).alloc _).then0 f1)
        have Q0 := Lib.hid q0
        have Q1 := Lib.hid q1
        have hz1 : w.heap.size + 1 < w1.heap.size := Nat.lt_of_lt_of_le (by simp) f1.size
        have hz0 : w.heap.size < w1.heap.size := by omega
        clear q0 q1 f1
        generalize d.length = dl at *
        go_wp2_with fail
        have hz2 : w.heap.size ≤ w1.drew.heap.size := by show _ ≤ w1.heap.size; omega
        have HZ2 := Lib.hid hz2
        clear hz2
        go_region_law ((refine step_append_fr2 (by simp [Region.wanted, yielded]) (.const (.slice none 0 0)) (.tmp 47) 22 (by rfl) 5 (.int .u8 0) 1 HU.out HIN.out rfl w.heap.size (.slice none 0 0) [] (by simp [Act.eval]) (Ow.nil _ _ _) (cutp ra rc nn) (t.s.length - nn) (rc - nn) ((bi p2).map (Value.int .u8)) (by simp [Act.eval, Act.put]) H3.out (HSP.out _ F1.out.drew) (oneCell_bytes _) H1.out H2.out HZ2.out ?_; intro v' w3 own3 f3 hb3; have f3' : Fr [] _ w3 := f3; have o3 : Ow w3 w.heap.size 5 v' ((bi p2).map (Value.int .u8)) := own3; obtain ⟨na, nc, rfl, _⟩ := o3.formB; have q3 : RB w3 w.heap.size _ _ _ _ _ _ _ := f3'.keep Q0.out (by simp); obtain ⟨_, _, _, y3, y4, _, y6, _, _, _, k3, k4, _, k6⟩ := q3.cells))
        all_goals
          have q1 : RB w3 (w.heap.size + 1) _ _ _ _ _ _ _ := f3'.keep Q1.out (by simp)
          have hzz := f3'.size
          obtain ⟨wf, hwf, fF, rF⟩ : ∃ wf, (((w3.setCell ⟨w.heap.size, 3, none⟩ (.int .i64 (t.wr + nn))).setCell ⟨w.heap.size, 4, none⟩ (.slice na p2.length nc)).setCell ⟨w.heap.size, 6, none⟩ (.int .i64 0)) = wf ∧ Fr [w.heap.size] w3 wf ∧ RB wf w.heap.size (.int .i64 t.stage) (.int .i64 t.limit) (.int .i64 t.rd) (.int .i64 (t.wr + nn)) (.slice na p2.length nc) (.int .i64 t.r) (.int .i64 0) := ⟨_, rfl, (((Fr.refl _ _).setCell (.inl (by simp)) _).setCell (.inl (by simp)) _).setCell (.inl (by simp)) _, set3_rb_wrote q3⟩
          rw [hwf]
          have q1f : RB wf (w.heap.size + 1) _ _ _ _ _ _ _ := fF.keep q1 (by simp)
          obtain ⟨z0, z1, z2, z3, z4, z5, z6, _⟩ := rF.cells
          obtain ⟨_, _, _, _, _, _, _, _, _, _, _, _, _, _⟩ := q1f.cells
          have HOWN := Lib.hid (And.intro o3 hb3)
          clear hwf o3 own3 q1 q3 f3
          go_wp2_with fail
          obtain ⟨s0, s1, s2, s3, s4, s5, s6, _⟩ := RB.cells (seven_set (u0 := .int .i64 t.stage) (u1 := .int .i64 t.limit) (u2 := .int .i64 t.rd) (u3 := .int .i64 (t.wr + nn)) (u4 := .slice na p2.length nc) (u5 := .int .i64 t.r) (u6 := .int .i64 0) q1f)
          refine bodyPost_ret (v := .tuple #[.agg #[.int .i64 t.stage, .int .i64 t.limit, .int .i64 t.rd, .int .i64 (t.wr + nn), .slice na p2.length nc, .int .i64 t.r, .int .i64 0], .int .i64 0]) (by simp [results, Try.results61, go_sem, s0, s1, s2, s3, s4, s5, s6]) rfl ?_
          have g1 : Fr [] w w3 := F1.out.then0 (Fr.undrew f3')
          have fE : Fr [w.heap.size, w.heap.size + 1] w3 _ := (fF.mono (T := [w.heap.size, w.heap.size + 1]) (by simp)).then (seven_fr (w := wf) (b := w.heap.size + 1) (u0 := .int .i64 t.stage) (u1 := .int .i64 t.limit) (u2 := .int .i64 t.rd) (u3 := .int .i64 (t.wr + nn)) (u4 := .slice na p2.length nc) (u5 := .int .i64 t.r) (u6 := .int .i64 0) |>.mono (by simp))
          have ff := g1.trans fE (by simp) (U := []) (fun x hx => .inr (by simp at hx; omega))
          have o5 := HOWN.out.1.keep fE (fun k hk hm => by
            rcases HOWN.out.2 with h | h
            · rw [hk] at h; simp [Value.ownBlock] at h
            · rw [hk] at h
              injection h with h
              simp at hm
              simp at h
              omega)
          obtain ⟨na', nc', e1, n1, n2, n3, n4⟩ := o5.formB
          simp only [Value.slice.injEq] at e1
          obtain ⟨rfl, _, rfl⟩ := e1
          exact ⟨_, rfl, ff, na, nc, rfl, n1, n2, n3, fun b o _ he => HN5.out b (n4 b o he)⟩
    · cases hce : codeE e
      · have HCD := Lib.hid fun w => hce ▸ rcode w e
        have HGZ : Hid (wroteE t n e = 2) := Lib.hid (HGE.out.trans (HCK.out.trans (if_pos (.inr (.inr (by rw [hc, hce]))))))
        rw [wroteT_no HGZ.out (by decide), HGZ.out]
        clear h3 h4 HGZ HCK HGE
        clear hce hc
        by_cases hp0 : n = 0
        · have hp1 : (n == 0) = true := by simpa using hp0
          clear hp0
          go_enter Try.func61, Try.ntmps61
          go_wp2_with fail
          refine (HX.out _ (((Fr.refl [] w).alloc _).alloc _)).mono ?_
          rintro x w1 ⟨nv, rfl, f1, hv⟩
          obtain ⟨u, rfl, ou⟩ := hv
          obtain ⟨ga, gc, rfl, _⟩ := ou.formB
          clear ou
          have q0 : RB w1 w.heap.size _ _ _ _ _ _ _ := f1.keep (two_boxes w _ _).1 (by simp)
          have q1 : RB w1 (w.heap.size + 1) _ _ _ _ _ _ _ := f1.keep (two_boxes w _ _).2 (by simp)
          obtain ⟨_, _, x2, x3, x4, x5, x6, _, _, _, _, _, _, _⟩ := q0.cells
          obtain ⟨_, _, _, _, _, _, _, _, _, _, _, _, _, _⟩ := q1.cells
          have F1 := Lib.hid ((((Fr.refl [] w).alloc _).alloc _).then0 f1)
          have Q0 := Lib.hid q0
          have Q1 := Lib.hid q1
          have hz1 : w.heap.size + 1 < w1.heap.size := Nat.lt_of_lt_of_le (by simp) f1.size
          have hz0 : w.heap.size < w1.heap.size := by omega
          clear q0 q1 f1
          generalize d.length = dl at *
          go_wp2_with fail
          refine (HCD.out _).mono ?_
          rintro x2 w2 ⟨rfl, rfl⟩
          go_wp2_with fail
          obtain ⟨s0, s1, s2, s3, s4, s5, s6, _⟩ := RB.cells (seven_set (u0 := .int .i64 t.stage) (u1 := .int .i64 t.limit) (u2 := .int .i64 t.rd) (u3 := .int .i64 t.wr) (u4 := .slice ra t.s.length rc) (u5 := .int .i64 t.r) (u6 := .int .i64 t.w) Q1.out)
          refine bodyPost_ret (v := .tuple #[.agg #[.int .i64 t.stage, .int .i64 t.limit, .int .i64 t.rd, .int .i64 t.wr, .slice ra t.s.length rc, .int .i64 t.r, .int .i64 t.w], .int .i64 2]) (by simp [results, Try.results61, go_sem, s0, s1, s2, s3, s4, s5, s6]) rfl ?_
          have ff := F1.out.trans (seven_fr (w := w1) (b := w.heap.size + 1) (u0 := .int .i64 t.stage) (u1 := .int .i64 t.limit) (u2 := .int .i64 t.rd) (u3 := .int .i64 t.wr) (u4 := .slice ra t.s.length rc) (u5 := .int .i64 t.r) (u6 := .int .i64 t.w)) (by simp) (U := []) (fun x hx => .inr (by simp at hx; omega))
          exact ⟨_, rfl, ff, HRV.out _ ff⟩
        · have hp1 : (n == 0) = false := by simpa using hp0
          clear hp0
          go_enter Try.func61, Try.ntmps61
          go_wp2_with fail
          refine (HX.out _ (((Fr.refl [] w).alloc _).alloc _)).mono ?_
          rintro x w1 ⟨nv, rfl, f1, hv⟩
          obtain ⟨u, rfl, ou⟩ := hv
          obtain ⟨ga, gc, rfl, _⟩ := ou.formB
          clear ou
          have q0 : RB w1 w.heap.size _ _ _ _ _ _ _ := f1.keep (two_boxes w _ _).1 (by simp)
          have q1 : RB w1 (w.heap.size + 1) _ _ _ _ _ _ _ := f1.keep (two_boxes w _ _).2 (by simp)
          obtain ⟨_, _, x2, x3, x4, x5, x6, _, _, _, _, _, _, _⟩ := q0.cells
          obtain ⟨_, _, _, _, _, _, _, _, _, _, _, _, _, _⟩ := q1.cells
          have F1 := Lib.hid ((((Fr.refl [] w).alloc _).alloc _).then0 f1)
          have Q0 := Lib.hid q0
          have Q1 := Lib.hid q1
          have hz1 : w.heap.size + 1 < w1.heap.size := Nat.lt_of_lt_of_le (by simp) f1.size
          have hz0 : w.heap.size < w1.heap.size := by omega
          clear q0 q1 f1
          generalize d.length = dl at *
          go_wp2_with fail
          refine (HCD.out _).mono ?_
          rintro x2 w2 ⟨rfl, rfl⟩
          go_wp2_with fail
          obtain ⟨s0, s1, s2, s3, s4, s5, s6, _⟩ := RB.cells (seven_set (u0 := .int .i64 t.stage) (u1 := .int .i64 t.limit) (u2 := .int .i64 t.rd) (u3 := .int .i64 t.wr) (u4 := .slice ra t.s.length rc) (u5 := .int .i64 t.r) (u6 := .int .i64 t.w) Q1.out)
          refine bodyPost_ret (v := .tuple #[.agg #[.int .i64 t.stage, .int .i64 t.limit, .int .i64 t.rd, .int .i64 t.wr, .slice ra t.s.length rc, .int .i64 t.r, .int .i64 t.w], .int .i64 2]) (by simp [results, Try.results61, go_sem, s0, s1, s2, s3, s4, s5, s6]) rfl ?_
          have ff := F1.out.trans (seven_fr (w := w1) (b := w.heap.size + 1) (u0 := .int .i64 t.stage) (u1 := .int .i64 t.limit) (u2 := .int .i64 t.rd) (u3 := .int .i64 t.wr) (u4 := .slice ra t.s.length rc) (u5 := .int .i64 t.r) (u6 := .int .i64 t.w)) (by simp) (U := []) (fun x hx => .inr (by simp at hx; omega))
          exact ⟨_, rfl, ff, HRV.out _ ff⟩
      · have HCD := Lib.hid fun w => hce ▸ rcode w e
        have HGZ : Hid (wroteE t n e = 0) := Lib.hid (HGE.out.trans (HCK.out.trans (if_neg (fun h => by rw [hc, hce] at h; simp at h; omega))))
        rw [wroteT_yes HGZ.out, HGZ.out]
        clear hc HGZ HCK HGE
        obtain ⟨nn, rfl⟩ := Int.eq_ofNat_of_zero_le hn0
        rw [Int.toNat_natCast]
        have hn2 : nn ≤ t.s.length := by omega
        clear hce
        have hwp : IntKind.i64.wrap (t.wr + nn) = t.wr + nn := IntWalk.i64_in _ (by omega)
        have hds : (bi (t.s.drop nn)).length = t.s.length - nn := by rw [bi_length, List.length_drop]
        have HSP := Lib.hid fun w1 (f : Fr [] w w1) => (show SlV w1 (cutp ra rc nn) ((bi (t.s.drop nn)).map (Value.int .u8)) from by
          have h5 := cutp_sl (cap := rc) (l := nn) (k := t.s.length - nn) (sl_keep h3 f (by simp)) (by rw [bi_length]; exact h1) (by rw [bi_length]; omega)
          rw [List.take_of_length_le (by rw [List.length_drop, bi_length]; omega), ← bi_drop] at h5
          exact h5.toV)
        have hrun : ∀ w, (Instr.slice 22 (.slice ra t.s.length rc) (some (.int .i64 nn)) none none).run Try.prog w = .ok (.slice (cutp ra rc nn) (t.s.length - nn) (rc - nn)) w := fun w => run_cutl hn2 w
        have HU : Hid (Try.prog.underlying 22 = some (.slice 5)) := Lib.hid Try.underlying22
        have HIN : Hid ((Try.prog.info? 5).map (fun i => (i.zero, i.size, i.bytes)) = some (some (.int .u8 0), 1, 1)) := Lib.hid (by kernel_rfl)
        have H1 : Hid (([] : List Value).length + (t.s.length - nn) ≤ maxLen) := Lib.hid (by unfold maxLen; simp; omega)
        have H2 : Hid ((([] : List Value).length + (t.s.length - nn)) * 1 ≤ 140737488355328) := Lib.hid (by simp; omega)
        have H3 : Hid (((bi (t.s.drop nn)).map (Value.int .u8)).length = t.s.length - nn) := Lib.hid (by rw [List.length_map, hds])
        have HN5 := Lib.hid hN
        clear h3 h4 hN hds
        generalize t.s.drop nn = p2 at *
        by_cases hp0 : (nn : Int) = 0
        · have hp1 : ((nn : Int) == 0) = true := by simpa using hp0
          clear hp0
          go_enter Try.func61, Try.ntmps61
          go_wp2_with fail
          refine (HX.out _ (((Fr.refl [] w).alloc _).alloc _)).mono ?_
          rintro x w1 ⟨nv, rfl, f1, hv⟩
          obtain ⟨u, rfl, ou⟩ := hv
          obtain ⟨ga, gc, rfl, _⟩ := ou.formB
          clear ou
          have q0 : RB w1 w.heap.size _ _ _ _ _ _ _ := f1.keep (two_boxes w _ _).1 (by simp)
          have q1 : RB w1 (w.heap.size + 1) _ _ _ _ _ _ _ := f1.keep (two_boxes w _ _).2 (by simp)
          obtain ⟨_, _, x2, x3, x4, x5, x6, _, _, _, _, _, _, _⟩ := q0.cells
          obtain ⟨_, _, _, _, _, _, _, _, _, _, _, _, _, _⟩ := q1.cells
          have F1 := Lib.hid ((((Fr.refl [] w).alloc _).alloc _).then0 f1)
          have Q0 := Lib.hid q0
          have Q1 := Lib.hid q1
          have hz1 : w.heap.size + 1 < w1.heap.size := Nat.lt_of_lt_of_le (by simp) f1.size
          have hz0 : w.heap.size < w1.heap.size := by omega
          clear q0 q1 f1
          generalize d.length = dl at *
          go_wp2_with fail
          refine (HCD.out _).mono ?_
          rintro x2 w2 ⟨rfl, rfl⟩
          go_wp2_with fail
          have hz2 : w.heap.size ≤ w1.drew.heap.size := by show _ ≤ w1.heap.size; omega
          have HZ2 := Lib.hid hz2
          clear hz2
          go_region_law ((refine step_append_fr2 (by simp [Region.wanted, yielded]) (.const (.slice none 0 0)) (.tmp 47) 22 (by rfl) 5 (.int .u8 0) 1 HU.out HIN.out rfl w.heap.size (.slice none 0 0) [] (by simp [Act.eval]) (Ow.nil _ _ _) (cutp ra rc nn) (t.s.length - nn) (rc - nn) ((bi p2).map (Value.int .u8)) (by simp [Act.eval, Act.put]) H3.out (HSP.out _ F1.out.drew) (oneCell_bytes _) H1.out H2.out HZ2.out ?_; intro v' w3 own3 f3 hb3; have f3' : Fr [] _ w3 := f3; have o3 : Ow w3 w.heap.size 5 v' ((bi p2).map (Value.int .u8)) := own3; obtain ⟨na, nc, rfl, _⟩ := o3.formB; have q3 : RB w3 w.heap.size _ _ _ _ _ _ _ := f3'.keep Q0.out (by simp); obtain ⟨_, _, _, y3, y4, _, y6, _, _, _, k3, k4, _, k6⟩ := q3.cells))
          all_goals
            have q1 : RB w3 (w.heap.size + 1) _ _ _ _ _ _ _ := f3'.keep Q1.out (by simp)
            have hzz := f3'.size
            obtain ⟨wf, hwf, fF, rF⟩ : ∃ wf, (((w3.setCell ⟨w.heap.size, 3, none⟩ (.int .i64 (t.wr + nn))).setCell ⟨w.heap.size, 4, none⟩ (.slice na p2.length nc)).setCell ⟨w.heap.size, 6, none⟩ (.int .i64 e)) = wf ∧ Fr [w.heap.size] w3 wf ∧ RB wf w.heap.size (.int .i64 t.stage) (.int .i64 t.limit) (.int .i64 t.rd) (.int .i64 (t.wr + nn)) (.slice na p2.length nc) (.int .i64 t.r) (.int .i64 e) := ⟨_, rfl, (((Fr.refl _ _).setCell (.inl (by simp)) _).setCell (.inl (by simp)) _).setCell (.inl (by simp)) _, set3_rb_wrote q3⟩
            rw [hwf]
            have q1f : RB wf (w.heap.size + 1) _ _ _ _ _ _ _ := fF.keep q1 (by simp)
            obtain ⟨z0, z1, z2, z3, z4, z5, z6, _⟩ := rF.cells
            obtain ⟨_, _, _, _, _, _, _, _, _, _, _, _, _, _⟩ := q1f.cells
            have HOWN := Lib.hid (And.intro o3 hb3)
            clear hwf o3 own3 q1 q3 f3
            go_wp2_with fail
            obtain ⟨s0, s1, s2, s3, s4, s5, s6, _⟩ := RB.cells (seven_set (u0 := .int .i64 t.stage) (u1 := .int .i64 t.limit) (u2 := .int .i64 t.rd) (u3 := .int .i64 (t.wr + nn)) (u4 := .slice na p2.length nc) (u5 := .int .i64 t.r) (u6 := .int .i64 e) q1f)
            refine bodyPost_ret (v := .tuple #[.agg #[.int .i64 t.stage, .int .i64 t.limit, .int .i64 t.rd, .int .i64 (t.wr + nn), .slice na p2.length nc, .int .i64 t.r, .int .i64 e], .int .i64 0]) (by simp [results, Try.results61, go_sem, s0, s1, s2, s3, s4, s5, s6]) rfl ?_
            have g1 : Fr [] w w3 := F1.out.then0 (Fr.undrew f3')
            have fE : Fr [w.heap.size, w.heap.size + 1] w3 _ := (fF.mono (T := [w.heap.size, w.heap.size + 1]) (by simp)).then (seven_fr (w := wf) (b := w.heap.size + 1) (u0 := .int .i64 t.stage) (u1 := .int .i64 t.limit) (u2 := .int .i64 t.rd) (u3 := .int .i64 (t.wr + nn)) (u4 := .slice na p2.length nc) (u5 := .int .i64 t.r) (u6 := .int .i64 e) |>.mono (by simp))
            have ff := g1.trans fE (by simp) (U := []) (fun x hx => .inr (by simp at hx; omega))
            have o5 := HOWN.out.1.keep fE (fun k hk hm => by
              rcases HOWN.out.2 with h | h
              · rw [hk] at h; simp [Value.ownBlock] at h
              · rw [hk] at h
                injection h with h
                simp at hm
                simp at h
                omega)
            obtain ⟨na', nc', e1, n1, n2, n3, n4⟩ := o5.formB
            simp only [Value.slice.injEq] at e1
            obtain ⟨rfl, _, rfl⟩ := e1
            exact ⟨_, rfl, ff, na, nc, rfl, n1, n2, n3, fun b o _ he => HN5.out b (n4 b o he)⟩
        · have hp1 : ((nn : Int) == 0) = false := by simpa using hp0
          clear hp0
          go_enter Try.func61, Try.ntmps61
          go_wp2_with fail
          refine (HX.out _ (((Fr.refl [] w).alloc _).alloc _)).mono ?_
          rintro x w1 ⟨nv, rfl, f1, hv⟩
          obtain ⟨u, rfl, ou⟩ := hv
          obtain ⟨ga, gc, rfl, _⟩ := ou.formB
          clear ou
          have q0 : RB w1 w.heap.size _ _ _ _ _ _ _ := f1.keep (two_boxes w _ _).1 (by simp)
          have q1 : RB w1 (w.heap.size + 1) _ _ _ _ _ _ _ := f1.keep (two_boxes w _ _).2 (by simp)
          obtain ⟨_, _, x2, x3, x4, x5, x6, _, _, _, _, _, _, _⟩ := q0.cells
          obtain ⟨_, _, _, _, _, _, _, _, _, _, _, _, _, _⟩ := q1.cells
          have F1 := Lib.hid ((((Fr.refl [] w).alloc _).alloc _).then0 f1)
          have Q0 := Lib.hid q0
          have Q1 := Lib.hid q1
          have hz1 : w.heap.size + 1 < w1.heap.size := Nat.lt_of_lt_of_le (by simp) f1.size
          have hz0 : w.heap.size < w1.heap.size := by omega
          clear q0 q1 f1
          generalize d.length = dl at *
          go_wp2_with fail
          refine (HCD.out _).mono ?_
          rintro x2 w2 ⟨rfl, rfl⟩
          go_wp2_with fail
          have hz2 : w.heap.size ≤ w1.drew.heap.size := by show _ ≤ w1.heap.size; omega
          have HZ2 := Lib.hid hz2
          clear hz2
          go_region_law ((refine step_append_fr2 (by simp [Region.wanted, yielded]) (.const (.slice none 0 0)) (.tmp 47) 22 (by rfl) 5 (.int .u8 0) 1 HU.out HIN.out rfl w.heap.size (.slice none 0 0) [] (by simp [Act.eval]) (Ow.nil _ _ _) (cutp ra rc nn) (t.s.length - nn) (rc - nn) ((bi p2).map (Value.int .u8)) (by simp [Act.eval, Act.put]) H3.out (HSP.out _ F1.out.drew) (oneCell_bytes _) H1.out H2.out HZ2.out ?_; intro v' w3 own3 f3 hb3; have f3' : Fr [] _ w3 := f3; have o3 : Ow w3 w.heap.size 5 v' ((bi p2).map (Value.int .u8)) := own3; obtain ⟨na, nc, rfl, _⟩ := o3.formB; have q3 : RB w3 w.heap.size _ _ _ _ _ _ _ := f3'.keep Q0.out (by simp); obtain ⟨_, _, _, y3, y4, _, y6, _, _, _, k3, k4, _, k6⟩ := q3.cells))
          all_goals
            have q1 : RB w3 (w.heap.size + 1) _ _ _ _ _ _ _ := f3'.keep Q1.out (by simp)
            have hzz := f3'.size
            obtain ⟨wf, hwf, fF, rF⟩ : ∃ wf, (((w3.setCell ⟨w.heap.size, 3, none⟩ (.int .i64 (t.wr + nn))).setCell ⟨w.heap.size, 4, none⟩ (.slice na p2.length nc)).setCell ⟨w.heap.size, 6, none⟩ (.int .i64 e)) = wf ∧ Fr [w.heap.size] w3 wf ∧ RB wf w.heap.size (.int .i64 t.stage) (.int .i64 t.limit) (.int .i64 t.rd) (.int .i64 (t.wr + nn)) (.slice na p2.length nc) (.int .i64 t.r) (.int .i64 e) := ⟨_, rfl, (((Fr.refl _ _).setCell (.inl (by simp)) _).setCell (.inl (by simp)) _).setCell (.inl (by simp)) _, set3_rb_wrote q3⟩
            rw [hwf]
            have q1f : RB wf (w.heap.size + 1) _ _ _ _ _ _ _ := fF.keep q1 (by simp)
            obtain ⟨z0, z1, z2, z3, z4, z5, z6, _⟩ := rF.cells
            obtain ⟨_, _, _, _, _, _, _, _, _, _, _, _, _, _⟩ := q1f.cells
            have HOWN := Lib.hid (And.intro o3 hb3)
            clear hwf o3 own3 q1 q3 f3
            go_wp2_with fail
            obtain ⟨s0, s1, s2, s3, s4, s5, s6, _⟩ := RB.cells (seven_set (u0 := .int .i64 t.stage) (u1 := .int .i64 t.limit) (u2 := .int .i64 t.rd) (u3 := .int .i64 (t.wr + nn)) (u4 := .slice na p2.length nc) (u5 := .int .i64 t.r) (u6 := .int .i64 e) q1f)
            refine bodyPost_ret (v := .tuple #[.agg #[.int .i64 t.stage, .int .i64 t.limit, .int .i64 t.rd, .int .i64 (t.wr + nn), .slice na p2.length nc, .int .i64 t.r, .int .i64 e], .int .i64 0]) (by simp [results, Try.results61, go_sem, s0, s1, s2, s3, s4, s5, s6]) rfl ?_
            have g1 : Fr [] w w3 := F1.out.then0 (Fr.undrew f3')
            have fE : Fr [w.heap.size, w.heap.size + 1] w3 _ := (fF.mono (T := [w.heap.size, w.heap.size + 1]) (by simp)).then (seven_fr (w := wf) (b := w.heap.size + 1) (u0 := .int .i64 t.stage) (u1 := .int .i64 t.limit) (u2 := .int .i64 t.rd) (u3 := .int .i64 (t.wr + nn)) (u4 := .slice na p2.length nc) (u5 := .int .i64 t.r) (u6 := .int .i64 e) |>.mono (by simp))
            have ff := g1.trans fE (by simp) (U := []) (fun x hx => .inr (by simp at hx; omega))
            have o5 := HOWN.out.1.keep fE (fun k hk hm => by
              rcases HOWN.out.2 with h | h
              · rw [hk] at h; simp [Value.ownBlock] at h
              · rw [hk] at h
                injection h with h
                simp at hm
                simp at h
                omega)
            obtain ⟨na', nc', e1, n1, n2, n3, n4⟩ := o5.formB
            simp only [Value.slice.injEq] at e1
            obtain ⟨rfl, _, rfl⟩ := e1
            exact ⟨_, rfl, ff, na, nc, rfl, n1, n2, n3, fun b o _ he => HN5.out b (n4 b o he)⟩
  · have hkb : (k != 2) = true := by simpa using hk
    rw [if_pos hk] at HCK
    have HGZ : Hid (wroteE t n e = 8) := Lib.hid (HGE.out.trans HCK.out)
    rw [wroteT_no HGZ.out (by decide), HGZ.out]
    clear hk h3 h4 HGZ HCK HGE HK2
    go_enter Try.func61, Try.ntmps61
    go_wp2_with fail
    refine (HX.out _ (((Fr.refl [] w).alloc _).alloc _)).mono ?_
    rintro x w1 ⟨nv, rfl, f1, hv⟩
    obtain ⟨u, rfl, ou⟩ := hv
    obtain ⟨ga, gc, rfl, _⟩ := ou.formB
    clear ou
    have q0 : RB w1 w.heap.size _ _ _ _ _ _ _ := f1.keep (two_boxes w _ _).1 (by simp)
    have q1 : RB w1 (w.heap.size + 1) _ _ _ _ _ _ _ := f1.keep (two_boxes w _ _).2 (by simp)
    obtain ⟨_, _, x2, x3, x4, x5, x6, _, _, _, _, _, _, _⟩ := q0.cells
    obtain ⟨_, _, _, _, _, _, _, _, _, _, _, _, _, _⟩ := q1.cells
    have F1 := Lib.hid ((((Fr.refl [] w).alloc _).alloc _).then0 f1)
    have Q0 := Lib.hid q0
    have Q1 := Lib.hid q1
    have hz1 : w.heap.size + 1 < w1.heap.size := Nat.lt_of_lt_of_le (by simp) f1.size
    have hz0 : w.heap.size < w1.heap.size := by omega
    clear q0 q1 f1
    generalize d.length = dl at *
    go_wp2_with fail
    obtain ⟨s0, s1, s2, s3, s4, s5, s6, _⟩ := RB.cells (seven_set (u0 := .int .i64 t.stage) (u1 := .int .i64 t.limit) (u2 := .int .i64 t.rd) (u3 := .int .i64 t.wr) (u4 := .slice ra t.s.length rc) (u5 := .int .i64 t.r) (u6 := .int .i64 t.w) Q1.out)
    refine bodyPost_ret (v := .tuple #[.agg #[.int .i64 t.stage, .int .i64 t.limit, .int .i64 t.rd, .int .i64 t.wr, .slice ra t.s.length rc, .int .i64 t.r, .int .i64 t.w], .int .i64 8]) (by simp [results, Try.results61, go_sem, s0, s1, s2, s3, s4, s5, s6]) rfl ?_
    have ff := F1.out.trans (seven_fr (w := w1) (b := w.heap.size + 1) (u0 := .int .i64 t.stage) (u1 := .int .i64 t.limit) (u2 := .int .i64 t.rd) (u3 := .int .i64 t.wr) (u4 := .slice ra t.s.length rc) (u5 := .int .i64 t.r) (u6 := .int .i64 t.w)) (by simp) (U := []) (fun x hx => .inr (by simp at hx; omega))
    exact ⟨_, rfl, ff, HRV.out _ ff⟩
end Go.Proofs.Ytodpkdbcdbdjfaa
