/-
  Law 5: RopeParts: the parts of a rope in a loop that is left early and then used again.
-/
import Derived.Test.YtpkgjgfdobcboaaParts05
import Derived.Test.YtpkgjgfdobcboaaRopeTakes
import Derived.Test.YtpkgjgfdobcboaaCalmIn
import Derived.Lib.MinMax
import Derived.LoopNIn
namespace Go.Proofs.Ytpkgjgfdobcboaa
open Go.RowKit Go.Shelf
set_option maxRecDepth 100000
attribute [local go_sem] Oper.semAt_some

/-- What holds between two rounds of a loop over a rope's parts: the cell K counts. -/
structure RI5 (w : World) (K : Nat) (P : Parts) (lim : Option Int) (pre : List (Value × List UInt8)) (W : World) : Prop where
  m : pre.map (·.2) = P.take pre.length
  le : pre.length ≤ P.length
  k : W.heap[K]? = some (.cells #[.int .i64 pre.length] 3 (0, 0))
  lim : ∀ m, lim = some m → pre.length = 0 ∨ (pre.length : Int) < m
  fr : Fr [K] w W
theorem RI5.own {w : World} {K : Nat} {P : Parts} {lim : Option Int} : OwnFrom w.heap.size (RI5 w K P lim) := by
  intro pre A A' row h hg hr
  have hf : Fr row.toList A A' := ⟨hg.os, hg.tape, hg.output, hg.size, fun k hk hn => hg.block k hk (fun e => hn (by rw [← e]; simp))⟩
  refine ⟨h.m, h.le, hf.keep h.k (fun hm => ?_), h.lim, h.fr.trans hf (fun x hx => .inl hx) (fun x hx => .inr (hr x (by simpa using hx)).1)⟩
  obtain ⟨_, o, ho, hn⟩ := hr K (by simpa using hm)
  rw [h.k] at ho
  injection ho with ho
  subst ho
  simp [Obj.isCells] at hn
/-- What holds where the loop has been left. -/
structure RX5 (w : World) (K : Nat) (P : Parts) (m : Int) (c : Code) (pre : List (Value × List UInt8)) (W : World) : Prop where
  c : c = .exit 2
  le : pre.length ≤ P.length
  k : W.heap[K]? = some (.cells #[.int .i64 pre.length] 3 (0, 0))
  lo : 1 ≤ pre.length ∧ m ≤ pre.length ∧ (pre.length = 1 ∨ (pre.length : Int) - 1 < m)
  fr : Fr [K] w W
theorem RX5.own {w : World} {K : Nat} {P : Parts} {m : Int} (c : Code) : OwnFrom w.heap.size (RX5 w K P m c) := by
  intro pre A A' row h hg hr
  have hf : Fr row.toList A A' := ⟨hg.os, hg.tape, hg.output, hg.size, fun k hk hn => hg.block k hk (fun e => hn (by rw [← e]; simp))⟩
  refine ⟨h.c, h.le, hf.keep h.k (fun hm => ?_), h.lo, h.fr.trans hf (fun x hx => .inl hx) (fun x hx => .inr (hr x (by simpa using hx)).1)⟩
  obtain ⟨_, o, ho, hn⟩ := hr K (by simpa using hm)
  rw [h.k] at ho
  injection ho with ho
  subst ho
  simp [Obj.isCells] at hn

set_option maxHeartbeats 16000000 in
theorem ropeParts_walk {w : World} {M0 : Nat} {a : Option Addr} {len cap : Nat} {P : Parts} (h : StrsAt w M0 a len cap P) (many : Int) :
    Calls Try.prog 9 #[.slice a len cap, .int .i64 many] w fun e w' => e = .returned (.bool true) ∧ Fr [] w w' := by
  have hlen := h.len_eq
  subst hlen
  have hmx : (P.length : Int) ≤ 9223372036854775807 := by have := h.cap_le; have := h.le; unfold maxLen at *; omega
  obtain ⟨wA, hwA, fA, qA, qR⟩ : ∃ W, W = (w.alloc (.cells #[.int .i64 many] 3)).alloc (.cells #[.bool false] 4) ∧ Fr [] w W ∧ W.heap[w.heap.size]? = some (.cells #[.int .i64 many] 3 (0, 0)) ∧ W.heap[w.heap.size + 1]? = some (.cells #[.bool false] 4 (0, 0)) := ⟨_, rfl, ((Fr.refl _ _).alloc _).alloc _, keepA (newA rfl), newA (by simp)⟩
  have hA := h.keep fA (S := []) (by simp)
  have zA : w.heap.size + 1 < wA.heap.size := lt_of_heap qR
  have HS1 := small05 hA
  by_cases s1 : small5 P = true
  rotate_left
  · rw [show small5 P = false from by simpa using s1] at HS1
    replace HS1 := Lib.hid HS1
    clear h s1 hA
    go_enter Try.func9, Try.ntmps9
    go_wp2_with fail
    rw [← hwA]
    clear hwA
    refine HS1.out.mono ?_
    rintro e w' ⟨rfl, rfl⟩
    go_wp2_with fail
    refine (known05 _).mono ?_
    rintro e w9 ⟨rfl, f9⟩
    have q9 := f9.keep qR (by simp)
    have c9 : w9.cell? ⟨w.heap.size + 1, 0, none⟩ = some (.bool false) := cell_of q9
    have k9 : w9.frozen? ⟨w.heap.size + 1, 0, none⟩ = false := free_of q9
    have s9 := heap_setCell_eq (i := 0) (u := .bool true) q9
    go_wp2_with fail
    have z9 : (w9.setCell ⟨w.heap.size + 1, 0, none⟩ (.bool true)).cell? ⟨w.heap.size + 1, 0, none⟩ = some (.bool true) := cell_of (by simpa using s9)
    refine bodyPost_ret (v := .bool true) (by simp [results, Try.results9, go_sem, z9]) rfl ?_
    exact ⟨rfl, (fA.then0 f9).trans ((Fr.refl _ _).setCell (.inl (by simp)) _ : Fr [w.heap.size + 1] w9 _) (by simp) (by simp)⟩
  rw [s1] at HS1
  replace HS1 := Lib.hid HS1
  by_cases h60 : (60 : Int) < P.length
  · clear h s1 hA
    go_enter Try.func9, Try.ntmps9
    go_wp2_with fail
    rw [← hwA]
    clear hwA
    refine HS1.out.mono ?_
    rintro e w' ⟨rfl, rfl⟩
    go_wp2_with fail
    refine (known05 _).mono ?_
    rintro e w9 ⟨rfl, f9⟩
    have q9 := f9.keep qR (by simp)
    have c9 : w9.cell? ⟨w.heap.size + 1, 0, none⟩ = some (.bool false) := cell_of q9
    have k9 : w9.frozen? ⟨w.heap.size + 1, 0, none⟩ = false := free_of q9
    have s9 := heap_setCell_eq (i := 0) (u := .bool true) q9
    go_wp2_with fail
    have z9 : (w9.setCell ⟨w.heap.size + 1, 0, none⟩ (.bool true)).cell? ⟨w.heap.size + 1, 0, none⟩ = some (.bool true) := cell_of (by simpa using s9)
    refine bodyPost_ret (v := .bool true) (by simp [results, Try.results9, go_sem, z9]) rfl ?_
    exact ⟨rfl, (fA.then0 f9).trans ((Fr.refl _ _).setCell (.inl (by simp)) _ : Fr [w.heap.size + 1] w9 _) (by simp) (by simp)⟩
  replace h60 : (P.length : Int) ≤ 60 := by omega
  have hp := small5_of s1
  have HM1 := Lib.hid fun (w1 : World) (f : Fr [] w w1) => made05 (cap := cap) (h.sl.keep f (by simp)) rfl (by omega) (small5_parts s1)
  have HN1 := Lib.hid fun (w1 : World) (f : Fr [] w w1) => (ref5_new (cap := cap) (show SlV w1 _ (sv P) from h.sl.keep f (by simp)) rfl (by omega) (by omega)).mono fun e w2 hr => hr.u
  clear h hp s1 hA
  unfold NewU at HM1
  unfold RefU at HN1
  generalize newP P = X at *
  generalize newE P = e1 at *
  refine (callsIn_wide (n := 6)).1 ?_
  refine callsIn_of_wp_marks Try.func9 rfl trivial ?_ rfl
  refine wpIn_wide.2 ?_
  simp only [Try.ntmps9, List.size_toArray, List.length_cons, List.length_nil, Nat.reduceAdd, Nat.reduceSub, Array.replicate_succ, Array.replicate_zero, List.push_toArray, List.append_toArray, List.nil_append, List.cons_append]
  go_wp2_with fail
  rw [← hwA]
  clear hwA
  refine HS1.out.mono ?_
  rintro e w' ⟨rfl, rfl⟩
  clear HS1
  go_wp2_with fail
  refine (HM1.out _ fA).mono ?_
  rintro e w1 ⟨f1, v, rfl, hr⟩
  have hr1 := Lib.hid hr.there
  obtain ⟨ra, rc, rfl, _, _, _, _, hX1, hX2⟩ := hr
  obtain ⟨w2, hw2, f2, q5⟩ : ∃ W, w1.alloc (.cells #[.slice ra X.length rc, .int .i64 (tot X)] 65) = W ∧ Fr [] w1 W ∧ W.heap[w1.heap.size]? = some (.cells #[.slice ra X.length rc, .int .i64 (tot X)] 65 (0, 0)) := ⟨_, rfl, (Fr.refl _ _).alloc _, newA rfl⟩
  go_wp2_with fail
  have g2 := (fA.then0 f1).then0 f2
  refine (HN1.out _ g2).mono ?_
  rintro e w3 ⟨f3, v, rfl, hr⟩
  have hr3 := Lib.hid hr.there
  obtain ⟨sa, sc, rfl, _⟩ := hr
  obtain ⟨w4, hw4, f4, q7⟩ : ∃ W, w3.alloc (.cells #[.slice sa X.length sc] 69) = W ∧ Fr [] w3 W ∧ W.heap[w3.heap.size]? = some (.cells #[.slice sa X.length sc] 69 (0, 0)) := ⟨_, rfl, (Fr.refl _ _).alloc _, newA rfl⟩
  have f34 := f3.then0 f4
  have c50 : w4.cell? ⟨w1.heap.size, 0, none⟩ = some (.slice ra X.length rc) := cell_of (f34.keep q5 (by simp))
  have c51 : w4.cell? ⟨w1.heap.size, 1, none⟩ = some (.int .i64 (tot X)) := cell_of (f34.keep q5 (by simp))
  go_wp2_with fail
  refine (rope_parts5 _ _ _ _ _).mono ?_
  rintro e w' ⟨rfl, rfl⟩
  obtain ⟨wL, hwL, fL, qL⟩ : ∃ W, w4.alloc (.cells #[.slice ra X.length rc, .int .i64 (tot X)] 65) = W ∧ Fr [] w4 W ∧ W.heap[w4.heap.size]? = some (.cells #[.slice ra X.length rc, .int .i64 (tot X)] 65 (0, 0)) := ⟨_, rfl, (Fr.refl _ _).alloc _, newA rfl⟩
  rw [hwL]
  have gL := ((fA.then0 f1).then0 f2).then0 ((f3.then0 f4).then0 fL)
  have fAL := (f1.then0 f2).then0 ((f3.then0 f4).then0 fL)
  have h7 : w4.heap.size < wL.heap.size := lt_of_heap qL
  have hs7 := lt_of_heap q7
  have hs5 := lt_of_heap q5
  have hz1 := f1.size
  have hz3 := f3.size
  have q7L := fL.keep q7 (by simp)
  have HRP := Lib.hid (((hr1.out.keep f2 (by simp)).keep (f34.then0 fL) (by simp)))
  have HRS := Lib.hid ((hr3.out.keep (f4.then0 fL) (by simp)))
  have qRL := fAL.keep qR (by simp)
  have qAL := fAL.keep qA (by simp)
  clear hr1 hr3 c50 c51 q5 q7 f34 f1 f2 f3 f4 fL hw2 hw4 hwL HM1 HN1 g2 fAL qR qA
  generalize hB7 : w3.heap.size = B7 at *
  generalize hBL : w4.heap.size = BL at *
  have hfn := fun (w : World) (fn : Fn) (c d : Array Value) => run_eql_func (P := Try.prog) w 77 Try.underlying77 fn c d
  have hee : (e1 != e1) = false := by simp
  go_wp2_with fail
  have HK := Lib.hid fun (w' : World) (f : Fr [] wL w') => (show w'.cell? ⟨B7, 0, none⟩ = some (.slice sa X.length sc) ∧ w'.cell? ⟨w.heap.size, 0, none⟩ = some (.int .i64 many) ∧ w'.heap[w.heap.size + 1]? = some (.cells #[.bool false] 4 (0, 0)) from ⟨cell_of (f.keep q7L (by simp)), cell_of (f.keep qAL (by simp)), f.keep qRL (by simp)⟩)
  clear hfn hee hB7 hBL
  obtain ⟨wt, hwt, ft, qT⟩ : ∃ W, wL.alloc (.cells #[.int .i64 0] 3) = W ∧ Fr [] wL W ∧ W.heap[wL.heap.size]? = some (.cells #[.int .i64 0] 3 (0, 0)) := ⟨_, rfl, (Fr.refl _ _).alloc _, newA rfl⟩
  rw [hwt]
  have gt := ft
  obtain ⟨T0, hT0⟩ : ∃ T, wL.heap.size = T := ⟨_, rfl⟩
  have hLT : wL.heap.size ≤ T0 := by omega
  rw [hT0] at qT ⊢
  clear hT0 hwt ft
  refine wp_loop_rounds 3 ?_
  rw [rounds_succ]
  have cT : wt.cell? ⟨T0, 0, none⟩ = some (.int .i64 0) := cell_of qT
  go_wp2_with fail
  obtain ⟨W0, hW, fW, qK⟩ : ∃ W, wt.alloc (.cells #[.int .i64 0] 3) = W ∧ Fr [] wt W ∧ W.heap[wt.heap.size]? = some (.cells #[.int .i64 0] 3 (0, 0)) := ⟨_, rfl, (Fr.refl _ _).alloc _, newA rfl⟩
  rw [hW]
  have hKW := lt_of_heap qK
  have gW := gt.then0 fW
  have hTw := lt_of_heap qT
  have qTW := fW.keep qT (by simp)
  have hgL := gt.size
  generalize hkk0 : wt.heap.size = kk0 at *
  clear hW cT
  have HPH := parts_handsG (HRP.out.keep gW (by simp)) (S := [kk0]) (by intro x hx; simp at hx; subst hx; intro hn; have := hn.2; omega) (gW.keep qL (by simp)) (by simp; have := lt_of_heap qL; omega) 5 (by omega)
  have HEN := enters_of Try.func99 (by kernel_rfl) rfl
  have p0 : RI5 W0 kk0 X (some many) [] W0 := ⟨rfl, Nat.zero_le _, qK, fun _ _ => .inl rfl, Fr.refl _ _⟩
  refine (wpIn_wide (n := 6)).1 ?_
  refine range_gen (gf := 99) (lb := #[.pointer (some ⟨BL, 0, none⟩)]) (encs := fun x : Value × List UInt8 => #[x.1]) (Kp := FrK W0.heap.size [kk0]) (Hd := PartHdG X) (S := fun xs => xs.map (·.2) = X) (Sp := fun xs => xs.map (·.2) = X.take xs.length ∧ xs.length ≤ X.length) (upd := fun a x => { tmps := (a.tmps.setIfInBounds 46 x.1).setIfInBounds 12 x.1, defers := [] }) rfl ?h1_1 ?hg_1 trivial HEN HPH (fun h k => FrK.trans h k) (fun W l o o' hl _ _ => FrK.putObj hl W o') (fun pre x s W l o o' hl ho hx => ⟨hx.1, hx.2.putObj hl ho⟩) (fun _ => rfl)
    (RI5 W0 kk0 X (some many)) (RX5 W0 kk0 X many) ?own_1 ?ownx_1 ?start_1 ?assign_1 ?body_1 ?done_1 ?stop_1
  case h1_1 => omega
  case hg_1 => rfl
  case own_1 => exact RI5.own
  case ownx_1 => intro c; exact RX5.own c
  case start_1 => exact p0
  case assign_1 =>
    intro l x W K hK
    gi_wp2
    simp only [List.setIfInBounds_toArray, List.set_cons_succ, List.set_cons_zero] at hK
    exact hK
  case body_1 =>
    rintro l r pre ⟨xv, xl⟩ Wa W2 hI0 hr hrB hf ⟨hx1, hx2⟩
    dsimp only at hx1 hx2 ⊢
    simp only [List.setIfInBounds_toArray, List.set_cons_succ, List.set_cons_zero]
    have hk2 := hf.keep hI0.k (not_r hr hI0.k)
    have fr2 : Fr [kk0] W0 W2 := hI0.fr.trans hf (fun _ h => .inl h) (fun x hx => .inr (by simp at hx; subst hx; omega))
    have frw : Fr [] wL W2 := gW.trans fr2 (by simp) (fun x hx => .inr (by simp at hx; omega))
    obtain ⟨ga, gc, rfl, hg1, hg2, hgs, _⟩ := hx2.formB
    have hplen : pre.length < X.length := (List.getElem?_eq_some_iff.1 hx1).1
    have hgx := (List.getElem?_eq_some_iff.1 hx1).2
    have hm1 : (pre ++ [(Value.slice ga xl.length gc, xl)]).map (·.2) = X.take (pre ++ [(Value.slice ga xl.length gc, xl)]).length := by
      rw [List.map_append, hI0.m, List.length_append, List.length_singleton, List.take_succ_eq_append_getElem hplen, hgx]
      rfl
    have hlim := hI0.lim
    obtain ⟨c7, cM, _⟩ := HK.out _ frw
    have ck : W2.cell? ⟨kk0, 0, none⟩ = some (.int .i64 pre.length) := cell_of hk2
    have cT : W2.cell? ⟨T0, 0, none⟩ = some (.int .i64 0) := cell_of (fr2.keep qTW (by simp; omega))
    obtain ⟨sa', sc', hv, _, _, hsl, _⟩ := HRS.out.keep frw (by simp)
    simp only [Value.agg.injEq, Array.mk.injEq, List.cons.injEq, Value.slice.injEq, and_true, true_and] at hv
    obtain ⟨rfl, rfl⟩ := hv
    obtain ⟨sb, so, rfl, hsb, hsc⟩ := hsl (by rw [sv_len]; omega)
    have hcell : W2.cell? ⟨sb, so + pre.length, none⟩ = some (.string (st xl)) := by
      rw [hsc _ (by rw [sv_len]; omega)]
      unfold sv
      rw [List.getElem?_map, hx1]
      rfl
    have kcv := fun n => conv_st (w := W2.drewN n) (cap := gc) (sl_keep hgs ((Fr.refl [] W2).drewN n) (by simp)) rfl
    have hse : (st xl == st xl) = true := by rw [st_beq]; simp
    have hst : (st xl != st xl) = false := by unfold bne; rw [hse]; rfl
    have hlt : (pre.length : Int) < X.length := by omega
    have hd51 : ¬ (X.length ≤ pre.length) := by omega
    have hX3 : (X.length : Int) ≤ 1024 := by omega
    have hpl : pre.length ≤ 1024 := by omega
    have HI := Lib.hid (And.intro hm1 (And.intro hlim (And.intro hk2 (And.intro fr2 hf))))
    clear hm1 hlim hk2 hsc hgx hx1 hI0 fr2 frw hgs hx2 hsl p0 HPH
    gi_wp2
    refine wpIn_region_calm (by kernel_rfl) (by kernel_rfl) (by kernel_rfl) ?_
    repeat (go_big_quiet_step (fail))
    refine wpQuiet_nil ?_
    intro _ hw'
    obtain ⟨nq, hw''⟩ := hw'
    subst hw''
    obtain ⟨wx, hx, fx⟩ : ∃ wx, W2.drewN nq = wx ∧ Fr [] W2 wx := ⟨_, rfl, (Fr.refl _ _).drewN _⟩
    rw [hx]
    clear hx
    have qk := fx.keep HI.out.2.2.1 (by simp)
    have ckx : wx.cell? ⟨kk0, 0, none⟩ = some (.int .i64 pre.length) := cell_of qk
    have fkx : wx.frozen? ⟨kk0, 0, none⟩ = false := free_of qk
    have qk3 := heap_setCell_eq (i := 0) (u := .int .i64 ((pre.length : Int) + 1)) qk
    have f3 : Fr [kk0] W2 (wx.setCell ⟨kk0, 0, none⟩ (.int .i64 ((pre.length : Int) + 1))) := fx.trans ((Fr.refl _ _).setCell (.inl (by simp)) _ : Fr [kk0] wx _) (by simp) (fun x hx => .inl hx)
    have hwr : IntKind.i64.wrap ((pre.length : Int) + 1) = (pre.length : Int) + 1 := IntWalk.i64_in _ (by omega)
    have ck3 : (wx.setCell ⟨kk0, 0, none⟩ (.int .i64 ((pre.length : Int) + 1))).cell? ⟨kk0, 0, none⟩ = some (.int .i64 ((pre.length : Int) + 1)) := cell_of (by simpa using qk3)
    have fr3 := HI.out.2.2.2.1.trans f3 (fun _ h => .inl h) (fun _ h => .inl h)
    have frw3 : Fr [] wL (wx.setCell ⟨kk0, 0, none⟩ (.int .i64 ((pre.length : Int) + 1))) := gW.trans fr3 (by simp) (fun x hx => .inr (by simp at hx; omega))
    obtain ⟨_, cM3, _⟩ := HK.out _ frw3
    have cT3 : (wx.setCell ⟨kk0, 0, none⟩ (.int .i64 ((pre.length : Int) + 1))).cell? ⟨T0, 0, none⟩ = some (.int .i64 0) := cell_of (fr3.keep qTW (by simp; omega))
    have hln : (pre ++ [(Value.slice ga xl.length gc, xl)]).length = pre.length + 1 := by simp
    have hq3 : (wx.setCell ⟨kk0, 0, none⟩ (.int .i64 ((pre.length : Int) + 1))).heap[kk0]? = some (.cells #[.int .i64 (pre ++ [(Value.slice ga xl.length gc, xl)]).length] 3 (0, 0)) := by rw [hln]; simpa using qk3
    have hko : KeepsOthers W2 (wx.setCell ⟨kk0, 0, none⟩ (.int .i64 ((pre.length : Int) + 1))) := f3.keepsOthers (by intro x hx o ho; simp at hx; subst hx; rw [HI.out.2.2.1] at ho; injection ho with ho; subst ho; rfl)
    have hkp : FrK W0.heap.size [kk0] W2 (wx.setCell ⟨kk0, 0, none⟩ (.int .i64 ((pre.length : Int) + 1))) := ⟨f3.os, f3.tape, f3.output, f3.size, fun k hk hn => f3.block k (by have := HI.out.2.2.2.1.size; omega) hn⟩
    have HL := Lib.hid (And.intro hq3 (And.intro fr3 (And.intro hko hkp)))
    clear qk qk3 f3 fr3 frw3 hq3 hko hkp fx c7 cM ck cT
    by_cases hb : many ≤ (pre.length : Int) + 1
    · gi_wp2
      exact ⟨HL.out.2.2.1, rfl, by rw [hln]; omega, HL.out.1, by rw [hln]; rcases HI.out.2.1 _ rfl with h | h <;> exact ⟨by omega, by push_cast; omega, by omega⟩, HL.out.2.1⟩
    · gi_wp2
      exact ⟨HL.out.2.2.1, HL.out.2.2.2, HI.out.1, by rw [hln]; omega, HL.out.1, fun m e => .inr (by cases e; rw [hln]; push_cast; omega), HL.out.2.1⟩
  case done_1 =>
    rintro D0 xs W3 hD hS hI hK
    have hxl : xs.length = X.length := by have := congrArg List.length hS; simpa using this
    have q3 := hI.k
    have f3 := hI.fr
    have hmm : ((xs.length : Int) != min (X.length : Int) (max 1 many)) = false := by
      have : (xs.length : Int) = min (X.length : Int) (max 1 many) := by rcases hI.lim _ rfl with h | h <;> omega
      rw [← this]
      simp
    clear hS hI
    obtain ⟨kc, hkc⟩ : ∃ kc : Int, (xs.length : Int) = kc := ⟨_, rfl⟩
    rw [hkc] at q3 hmm
    clear hkc hxl
    have gw3 : Fr [] wL W3 := gW.trans f3 (by simp) (fun x hx => .inr (by simp at hx; omega))
    obtain ⟨c7, cM, _⟩ := HK.out _ gw3
    have ck : W3.cell? ⟨kk0, 0, none⟩ = some (.int .i64 kc) := cell_of q3
    have qT3 := f3.keep qTW (by simp; omega)
    have cT : W3.cell? ⟨T0, 0, none⟩ = some (.int .i64 0) := cell_of qT3
    clear q3 f3 qT3 HPH p0 qTW
    simp only [Exit.inBlock, Exit.then]
    go_wp2_with fail
    obtain ⟨x1, hX, fX, qT⟩ : ∃ W, W3.alloc (.cells #[.int .i64 1] 3) = W ∧ Fr [] W3 W ∧ W.heap[W3.heap.size]? = some (.cells #[.int .i64 1] 3 (0, 0)) := ⟨_, rfl, (Fr.refl _ _).alloc _, newA rfl⟩
    rw [hX]
    clear hX c7 cM ck cT
    have gt := gw3.then0 fX
    have hK0 := fX.keep hK (by simp)
    have hTl := gw3.size
    generalize hT1 : W3.heap.size = T1 at *
    have hD0L : wL.heap.size ≤ D0 := by have := gW.size; omega
    clear gW fW qK hkk0 hKW hTw hgL HEN hmm hK fX gw3
    have hLT1 : wL.heap.size ≤ T1 := hTl
    clear hTl
    rw [rounds_succ]
    have cT : x1.cell? ⟨T1, 0, none⟩ = some (.int .i64 1) := cell_of qT
    go_wp2_with fail
    obtain ⟨W1, hW, fW, qK⟩ : ∃ W, x1.alloc (.cells #[.int .i64 0] 3) = W ∧ Fr [] x1 W ∧ W.heap[x1.heap.size]? = some (.cells #[.int .i64 0] 3 (0, 0)) := ⟨_, rfl, (Fr.refl _ _).alloc _, newA rfl⟩
    rw [hW]
    have hKW := lt_of_heap qK
    have gW := gt.then0 fW
    have hTw := lt_of_heap qT
    have qTW := fW.keep qT (by simp)
    have hK0' := fW.keep hK0 (by simp)
    have zhK0 := lt_of_heap hK0
    have hgL := gt.size
    generalize hkk1 : x1.heap.size = kk1 at *
    clear hW cT
    have HPH := parts_handsG (HRP.out.keep gW (by simp)) (S := [kk1]) (by intro x hx; simp at hx; subst hx; intro hn; have := hn.2; omega) (gW.keep qL (by simp)) (by simp; have := lt_of_heap qL; omega) 5 (by omega)
    have HEN := enters_of Try.func99 (by kernel_rfl) rfl
    have p0 : RI5 W1 kk1 X (none) [] W1 := ⟨rfl, Nat.zero_le _, qK, fun _ _ => .inl rfl, Fr.refl _ _⟩
    refine (wpIn_wide (n := 6)).1 ?_
    refine range_gen (gf := 99) (lb := #[.pointer (some ⟨BL, 0, none⟩)]) (encs := fun x : Value × List UInt8 => #[x.1]) (Kp := FrK W1.heap.size [kk1]) (Hd := PartHdG X) (S := fun xs => xs.map (·.2) = X) (Sp := fun xs => xs.map (·.2) = X.take xs.length ∧ xs.length ≤ X.length) (upd := fun a x => { tmps := (a.tmps.setIfInBounds 46 x.1).setIfInBounds 12 x.1, defers := [] }) rfl ?h1_2 ?hg_2 trivial HEN HPH (fun h k => FrK.trans h k) (fun W l o o' hl _ _ => FrK.putObj hl W o') (fun pre x s W l o o' hl ho hx => ⟨hx.1, hx.2.putObj hl ho⟩) (fun _ => rfl)
      (RI5 W1 kk1 X (none)) (fun _ _ _ => False) ?own_2 ?ownx_2 ?start_2 ?assign_2 ?body_2 ?done_2 ?stop_2
    case h1_2 => omega
    case hg_2 => rfl
    case own_2 => exact RI5.own
    case ownx_2 => intro c s W W' row h; exact h.elim
    case start_2 => exact p0
    case stop_2 => intro D c xs W _ _ h; exact h.elim
    case assign_2 =>
      intro l x W K hK
      gi_wp2
      simp only [List.setIfInBounds_toArray, List.set_cons_succ, List.set_cons_zero] at hK
      exact hK
    case body_2 =>
      rintro l r pre ⟨xv, xl⟩ Wa W2 hI0 hr hrB hf ⟨hx1, hx2⟩
      dsimp only at hx1 hx2 ⊢
      simp only [List.setIfInBounds_toArray, List.set_cons_succ, List.set_cons_zero]
      have hk2 := hf.keep hI0.k (not_r hr hI0.k)
      have fr2 : Fr [kk1] W1 W2 := hI0.fr.trans hf (fun _ h => .inl h) (fun x hx => .inr (by simp at hx; subst hx; omega))
      have frw : Fr [] wL W2 := gW.trans fr2 (by simp) (fun x hx => .inr (by simp at hx; omega))
      obtain ⟨ga, gc, rfl, hg1, hg2, hgs, _⟩ := hx2.formB
      have hplen : pre.length < X.length := (List.getElem?_eq_some_iff.1 hx1).1
      have hgx := (List.getElem?_eq_some_iff.1 hx1).2
      have hm1 : (pre ++ [(Value.slice ga xl.length gc, xl)]).map (·.2) = X.take (pre ++ [(Value.slice ga xl.length gc, xl)]).length := by
        rw [List.map_append, hI0.m, List.length_append, List.length_singleton, List.take_succ_eq_append_getElem hplen, hgx]
        rfl
      have hlim := hI0.lim
      obtain ⟨c7, cM, _⟩ := HK.out _ frw
      have ck : W2.cell? ⟨kk1, 0, none⟩ = some (.int .i64 pre.length) := cell_of hk2
      have cT : W2.cell? ⟨T1, 0, none⟩ = some (.int .i64 1) := cell_of (fr2.keep qTW (by simp; omega))
      obtain ⟨sa', sc', hv, _, _, hsl, _⟩ := HRS.out.keep frw (by simp)
      simp only [Value.agg.injEq, Array.mk.injEq, List.cons.injEq, Value.slice.injEq, and_true, true_and] at hv
      obtain ⟨rfl, rfl⟩ := hv
      obtain ⟨sb, so, rfl, hsb, hsc⟩ := hsl (by rw [sv_len]; omega)
      have hcell : W2.cell? ⟨sb, so + pre.length, none⟩ = some (.string (st xl)) := by
        rw [hsc _ (by rw [sv_len]; omega)]
        unfold sv
        rw [List.getElem?_map, hx1]
        rfl
      have kcv := fun n => conv_st (w := W2.drewN n) (cap := gc) (sl_keep hgs ((Fr.refl [] W2).drewN n) (by simp)) rfl
      have hse : (st xl == st xl) = true := by rw [st_beq]; simp
      have hst : (st xl != st xl) = false := by unfold bne; rw [hse]; rfl
      have hlt : (pre.length : Int) < X.length := by omega
      have hd51 : ¬ (X.length ≤ pre.length) := by omega
      have hX3 : (X.length : Int) ≤ 1024 := by omega
      have hpl : pre.length ≤ 1024 := by omega
      have HI := Lib.hid (And.intro hm1 (And.intro hlim (And.intro hk2 (And.intro fr2 hf))))
      clear hm1 hlim hk2 hsc hgx hx1 hI0 fr2 frw hgs hx2 hsl p0 HPH
      gi_wp2
      refine wpIn_region_calm (by kernel_rfl) (by kernel_rfl) (by kernel_rfl) ?_
      repeat (go_big_quiet_step (fail))
      refine wpQuiet_nil ?_
      intro _ hw'
      obtain ⟨nq, hw''⟩ := hw'
      subst hw''
      obtain ⟨wx, hx, fx⟩ : ∃ wx, W2.drewN nq = wx ∧ Fr [] W2 wx := ⟨_, rfl, (Fr.refl _ _).drewN _⟩
      rw [hx]
      clear hx
      have qk := fx.keep HI.out.2.2.1 (by simp)
      have ckx : wx.cell? ⟨kk1, 0, none⟩ = some (.int .i64 pre.length) := cell_of qk
      have fkx : wx.frozen? ⟨kk1, 0, none⟩ = false := free_of qk
      have qk3 := heap_setCell_eq (i := 0) (u := .int .i64 ((pre.length : Int) + 1)) qk
      have f3 : Fr [kk1] W2 (wx.setCell ⟨kk1, 0, none⟩ (.int .i64 ((pre.length : Int) + 1))) := fx.trans ((Fr.refl _ _).setCell (.inl (by simp)) _ : Fr [kk1] wx _) (by simp) (fun x hx => .inl hx)
      have hwr : IntKind.i64.wrap ((pre.length : Int) + 1) = (pre.length : Int) + 1 := IntWalk.i64_in _ (by omega)
      have ck3 : (wx.setCell ⟨kk1, 0, none⟩ (.int .i64 ((pre.length : Int) + 1))).cell? ⟨kk1, 0, none⟩ = some (.int .i64 ((pre.length : Int) + 1)) := cell_of (by simpa using qk3)
      have fr3 := HI.out.2.2.2.1.trans f3 (fun _ h => .inl h) (fun _ h => .inl h)
      have frw3 : Fr [] wL (wx.setCell ⟨kk1, 0, none⟩ (.int .i64 ((pre.length : Int) + 1))) := gW.trans fr3 (by simp) (fun x hx => .inr (by simp at hx; omega))
      obtain ⟨_, cM3, _⟩ := HK.out _ frw3
      have cT3 : (wx.setCell ⟨kk1, 0, none⟩ (.int .i64 ((pre.length : Int) + 1))).cell? ⟨T1, 0, none⟩ = some (.int .i64 1) := cell_of (fr3.keep qTW (by simp; omega))
      have hln : (pre ++ [(Value.slice ga xl.length gc, xl)]).length = pre.length + 1 := by simp
      have hq3 : (wx.setCell ⟨kk1, 0, none⟩ (.int .i64 ((pre.length : Int) + 1))).heap[kk1]? = some (.cells #[.int .i64 (pre ++ [(Value.slice ga xl.length gc, xl)]).length] 3 (0, 0)) := by rw [hln]; simpa using qk3
      have hko : KeepsOthers W2 (wx.setCell ⟨kk1, 0, none⟩ (.int .i64 ((pre.length : Int) + 1))) := f3.keepsOthers (by intro x hx o ho; simp at hx; subst hx; rw [HI.out.2.2.1] at ho; injection ho with ho; subst ho; rfl)
      have hkp : FrK W1.heap.size [kk1] W2 (wx.setCell ⟨kk1, 0, none⟩ (.int .i64 ((pre.length : Int) + 1))) := ⟨f3.os, f3.tape, f3.output, f3.size, fun k hk hn => f3.block k (by have := HI.out.2.2.2.1.size; omega) hn⟩
      have HL := Lib.hid (And.intro hq3 (And.intro fr3 (And.intro hko hkp)))
      clear qk qk3 f3 fr3 frw3 hq3 hko hkp fx c7 cM ck cT
      gi_wp2
      exact ⟨HL.out.2.2.1, HL.out.2.2.2, HI.out.1, by rw [hln]; omega, HL.out.1, fun m e => (by cases e), HL.out.2.1⟩
    case done_2 =>
      rintro D1 xs W3 hD hS hI hK
      have hxl : xs.length = X.length := by have := congrArg List.length hS; simpa using this
      have q3 := hI.k
      have f3 := hI.fr
      have hmm : ((xs.length : Int) != (X.length : Int)) = false := by rw [hxl]; simp
      clear hS hI
      obtain ⟨kc, hkc⟩ : ∃ kc : Int, (xs.length : Int) = kc := ⟨_, rfl⟩
      rw [hkc] at q3 hmm
      clear hkc hxl
      have gw3 : Fr [] wL W3 := gW.trans f3 (by simp) (fun x hx => .inr (by simp at hx; omega))
      obtain ⟨c7, cM, _⟩ := HK.out _ gw3
      have ck : W3.cell? ⟨kk1, 0, none⟩ = some (.int .i64 kc) := cell_of q3
      have qT3 := f3.keep qTW (by simp; omega)
      have cT : W3.cell? ⟨T1, 0, none⟩ = some (.int .i64 1) := cell_of qT3
      have hK03 := f3.keep hK0' (by simp; omega)
      clear q3 f3 qT3 HPH p0 qTW
      simp only [Exit.inBlock, Exit.then]
      go_wp2_with fail
      obtain ⟨x2, hX, fX, qT⟩ : ∃ W, W3.alloc (.cells #[.int .i64 2] 3) = W ∧ Fr [] W3 W ∧ W.heap[W3.heap.size]? = some (.cells #[.int .i64 2] 3 (0, 0)) := ⟨_, rfl, (Fr.refl _ _).alloc _, newA rfl⟩
      rw [hX]
      clear hX c7 cM ck cT
      have gt := gw3.then0 fX
      have hK1 := fX.keep hK (by simp)
      have hK0 := fX.keep hK03 (by simp)
      have hTl := gw3.size
      generalize hT2 : W3.heap.size = T2 at *
      rw [rounds_succ]
      have cT : x2.cell? ⟨T2, 0, none⟩ = some (.int .i64 2) := cell_of qT
      go_wp2_with fail
      refine (known05 _).mono ?_
      rintro e w9 ⟨rfl, f9⟩
      have q9 := (HK.out _ (gt.then0 f9)).2.2
      have k0 := f9.keep hK0 (by simp)
      have k1 := f9.keep hK1 (by simp)
      have c9 : w9.cell? ⟨w.heap.size + 1, 0, none⟩ = some (.bool false) := cell_of q9
      have k9 : w9.frozen? ⟨w.heap.size + 1, 0, none⟩ = false := free_of q9
      have s9 := heap_setCell_eq (i := 0) (u := .bool true) q9
      have l9 := lt_of_heap q9
      go_wp2_with fail
      have hD01 : D0 ≠ D1 := by omega
      have hb0 : w.heap.size + 1 < wL.heap.size := by omega
      have d0b : D0 ≠ w.heap.size + 1 := by omega
      have d1b : D1 ≠ w.heap.size + 1 := by omega
      obtain ⟨v0, hv0⟩ : ∃ v, w9.setCell ⟨w.heap.size + 1, 0, none⟩ (.bool true) = v := ⟨_, rfl⟩
      have fv : Fr [w.heap.size + 1] w9 v0 := by rw [← hv0]; exact (Fr.refl _ _).setCell (.inl (by simp)) _
      have j1 : v0.heap[D1]? = some (.deferred (some [])) := fv.keep k1 (by simpa using d1b)
      have j0 : v0.heap[D0]? = some (.deferred (some [])) := fv.keep k0 (by simpa using d0b)
      have jr : v0.heap[w.heap.size + 1]? = some (.cells #[.bool true] 4 (0, 0)) := by rw [← hv0]; simpa using s9
      rw [hv0]
      have fP : Fr [D1] v0 (v0.putObj D1 (.deferred none)) := ⟨rfl, rfl, rfl, by simp [World.putObj], fun k _ hn => World.putObj_heap_other (by simpa using hn)⟩
      have i0 := fP.keep j0 (by simpa using hD01)
      have ir := fP.keep jr (by simp; omega)
      obtain ⟨v1, hv1⟩ : ∃ v, v0.putObj D1 (.deferred none) = v := ⟨_, rfl⟩
      rw [hv1] at fP i0 ir
      have fQ : Fr [D0] v1 (v1.putObj D0 (.deferred none)) := ⟨rfl, rfl, rfl, by simp [World.putObj], fun k _ hn => World.putObj_heap_other (by simpa using hn)⟩
      have z0 : (v1.putObj D0 (.deferred none)).cell? ⟨w.heap.size + 1, 0, none⟩ = some (.bool true) := cell_of (fQ.keep ir (by simp; omega))
      refine ⟨by simp, .inl ⟨_, _, rfl, run_takeDeferred j1, ?_⟩⟩
      rw [hv1]
      refine ⟨by simp, .inl ⟨_, _, rfl, run_takeDeferred i0, ?_⟩⟩
      refine ⟨.bool true, by simp [results, Try.results9, go_sem, z0], ?_⟩
      have e1 : Fr [] w v0 := ((gL.then0 gt).then0 f9).trans fv (by simp) (fun x hx => .inr (by simp at hx; omega))
      have e2 : Fr [] w v1 := e1.trans fP (by simp) (fun x hx => .inr (by simp at hx; omega))
      exact ⟨rfl, e2.trans fQ (by simp) (fun x hx => .inr (by simp at hx; omega))⟩
  case stop_1 =>
    rintro D0 c xs W3 hD hS ⟨rfl, hle, q3, hlo, f3⟩ hK
    have hmm : ((xs.length : Int) != min (X.length : Int) (max 1 many)) = false := by
      have : (xs.length : Int) = min (X.length : Int) (max 1 many) := by obtain ⟨h1, h2, h3 | h3⟩ := hlo <;> omega
      rw [← this]
      simp
    clear hS hlo hle
    obtain ⟨kc, hkc⟩ : ∃ kc : Int, (xs.length : Int) = kc := ⟨_, rfl⟩
    rw [hkc] at q3 hmm
    clear hkc
    refine (wpIn_wide (n := 6)).2 ?_
    have gw3 : Fr [] wL W3 := gW.trans f3 (by simp) (fun x hx => .inr (by simp at hx; omega))
    obtain ⟨c7, cM, _⟩ := HK.out _ gw3
    have ck : W3.cell? ⟨kk0, 0, none⟩ = some (.int .i64 kc) := cell_of q3
    have qT3 := f3.keep qTW (by simp; omega)
    have cT : W3.cell? ⟨T0, 0, none⟩ = some (.int .i64 0) := cell_of qT3
    clear q3 f3 qT3 HPH p0 qTW
    simp only [Exit.inBlock, Exit.then]
    go_wp2_with fail
    obtain ⟨x1, hX, fX, qT⟩ : ∃ W, W3.alloc (.cells #[.int .i64 1] 3) = W ∧ Fr [] W3 W ∧ W.heap[W3.heap.size]? = some (.cells #[.int .i64 1] 3 (0, 0)) := ⟨_, rfl, (Fr.refl _ _).alloc _, newA rfl⟩
    rw [hX]
    clear hX c7 cM ck cT
    have gt := gw3.then0 fX
    have hK0 := fX.keep hK (by simp)
    have hTl := gw3.size
    generalize hT1 : W3.heap.size = T1 at *
    have hD0L : wL.heap.size ≤ D0 := by have := gW.size; omega
    clear gW fW qK hkk0 hKW hTw hgL HEN hmm hK fX gw3
    have hLT1 : wL.heap.size ≤ T1 := hTl
    clear hTl
    rw [rounds_succ]
    have cT : x1.cell? ⟨T1, 0, none⟩ = some (.int .i64 1) := cell_of qT
    go_wp2_with fail
    obtain ⟨W1, hW, fW, qK⟩ : ∃ W, x1.alloc (.cells #[.int .i64 0] 3) = W ∧ Fr [] x1 W ∧ W.heap[x1.heap.size]? = some (.cells #[.int .i64 0] 3 (0, 0)) := ⟨_, rfl, (Fr.refl _ _).alloc _, newA rfl⟩
    rw [hW]
    have hKW := lt_of_heap qK
    have gW := gt.then0 fW
    have hTw := lt_of_heap qT
    have qTW := fW.keep qT (by simp)
    have hK0' := fW.keep hK0 (by simp)
    have zhK0 := lt_of_heap hK0
    have hgL := gt.size
    generalize hkk1 : x1.heap.size = kk1 at *
    clear hW cT
    have HPH := parts_handsG (HRP.out.keep gW (by simp)) (S := [kk1]) (by intro x hx; simp at hx; subst hx; intro hn; have := hn.2; omega) (gW.keep qL (by simp)) (by simp; have := lt_of_heap qL; omega) 5 (by omega)
    have HEN := enters_of Try.func99 (by kernel_rfl) rfl
    have p0 : RI5 W1 kk1 X (none) [] W1 := ⟨rfl, Nat.zero_le _, qK, fun _ _ => .inl rfl, Fr.refl _ _⟩
    refine (wpIn_wide (n := 6)).1 ?_
    refine range_gen (gf := 99) (lb := #[.pointer (some ⟨BL, 0, none⟩)]) (encs := fun x : Value × List UInt8 => #[x.1]) (Kp := FrK W1.heap.size [kk1]) (Hd := PartHdG X) (S := fun xs => xs.map (·.2) = X) (Sp := fun xs => xs.map (·.2) = X.take xs.length ∧ xs.length ≤ X.length) (upd := fun a x => { tmps := (a.tmps.setIfInBounds 46 x.1).setIfInBounds 12 x.1, defers := [] }) rfl ?h1_3 ?hg_3 trivial HEN HPH (fun h k => FrK.trans h k) (fun W l o o' hl _ _ => FrK.putObj hl W o') (fun pre x s W l o o' hl ho hx => ⟨hx.1, hx.2.putObj hl ho⟩) (fun _ => rfl)
      (RI5 W1 kk1 X (none)) (fun _ _ _ => False) ?own_3 ?ownx_3 ?start_3 ?assign_3 ?body_3 ?done_3 ?stop_3
    case h1_3 => omega
    case hg_3 => rfl
    case own_3 => exact RI5.own
    case ownx_3 => intro c s W W' row h; exact h.elim
    case start_3 => exact p0
    case stop_3 => intro D c xs W _ _ h; exact h.elim
    case assign_3 =>
      intro l x W K hK
      gi_wp2
      simp only [List.setIfInBounds_toArray, List.set_cons_succ, List.set_cons_zero] at hK
      exact hK
    case body_3 =>
      rintro l r pre ⟨xv, xl⟩ Wa W2 hI0 hr hrB hf ⟨hx1, hx2⟩
      dsimp only at hx1 hx2 ⊢
      simp only [List.setIfInBounds_toArray, List.set_cons_succ, List.set_cons_zero]
      have hk2 := hf.keep hI0.k (not_r hr hI0.k)
      have fr2 : Fr [kk1] W1 W2 := hI0.fr.trans hf (fun _ h => .inl h) (fun x hx => .inr (by simp at hx; subst hx; omega))
      have frw : Fr [] wL W2 := gW.trans fr2 (by simp) (fun x hx => .inr (by simp at hx; omega))
      obtain ⟨ga, gc, rfl, hg1, hg2, hgs, _⟩ := hx2.formB
      have hplen : pre.length < X.length := (List.getElem?_eq_some_iff.1 hx1).1
      have hgx := (List.getElem?_eq_some_iff.1 hx1).2
      have hm1 : (pre ++ [(Value.slice ga xl.length gc, xl)]).map (·.2) = X.take (pre ++ [(Value.slice ga xl.length gc, xl)]).length := by
        rw [List.map_append, hI0.m, List.length_append, List.length_singleton, List.take_succ_eq_append_getElem hplen, hgx]
        rfl
      have hlim := hI0.lim
      obtain ⟨c7, cM, _⟩ := HK.out _ frw
      have ck : W2.cell? ⟨kk1, 0, none⟩ = some (.int .i64 pre.length) := cell_of hk2
      have cT : W2.cell? ⟨T1, 0, none⟩ = some (.int .i64 1) := cell_of (fr2.keep qTW (by simp; omega))
      obtain ⟨sa', sc', hv, _, _, hsl, _⟩ := HRS.out.keep frw (by simp)
      simp only [Value.agg.injEq, Array.mk.injEq, List.cons.injEq, Value.slice.injEq, and_true, true_and] at hv
      obtain ⟨rfl, rfl⟩ := hv
      obtain ⟨sb, so, rfl, hsb, hsc⟩ := hsl (by rw [sv_len]; omega)
      have hcell : W2.cell? ⟨sb, so + pre.length, none⟩ = some (.string (st xl)) := by
        rw [hsc _ (by rw [sv_len]; omega)]
        unfold sv
        rw [List.getElem?_map, hx1]
        rfl
      have kcv := fun n => conv_st (w := W2.drewN n) (cap := gc) (sl_keep hgs ((Fr.refl [] W2).drewN n) (by simp)) rfl
      have hse : (st xl == st xl) = true := by rw [st_beq]; simp
      have hst : (st xl != st xl) = false := by unfold bne; rw [hse]; rfl
      have hlt : (pre.length : Int) < X.length := by omega
      have hd51 : ¬ (X.length ≤ pre.length) := by omega
      have hX3 : (X.length : Int) ≤ 1024 := by omega
      have hpl : pre.length ≤ 1024 := by omega
      have HI := Lib.hid (And.intro hm1 (And.intro hlim (And.intro hk2 (And.intro fr2 hf))))
      clear hm1 hlim hk2 hsc hgx hx1 hI0 fr2 frw hgs hx2 hsl p0 HPH
      gi_wp2
      refine wpIn_region_calm (by kernel_rfl) (by kernel_rfl) (by kernel_rfl) ?_
      repeat (go_big_quiet_step (fail))
      refine wpQuiet_nil ?_
      intro _ hw'
      obtain ⟨nq, hw''⟩ := hw'
      subst hw''
      obtain ⟨wx, hx, fx⟩ : ∃ wx, W2.drewN nq = wx ∧ Fr [] W2 wx := ⟨_, rfl, (Fr.refl _ _).drewN _⟩
      rw [hx]
      clear hx
      have qk := fx.keep HI.out.2.2.1 (by simp)
      have ckx : wx.cell? ⟨kk1, 0, none⟩ = some (.int .i64 pre.length) := cell_of qk
      have fkx : wx.frozen? ⟨kk1, 0, none⟩ = false := free_of qk
      have qk3 := heap_setCell_eq (i := 0) (u := .int .i64 ((pre.length : Int) + 1)) qk
      have f3 : Fr [kk1] W2 (wx.setCell ⟨kk1, 0, none⟩ (.int .i64 ((pre.length : Int) + 1))) := fx.trans ((Fr.refl _ _).setCell (.inl (by simp)) _ : Fr [kk1] wx _) (by simp) (fun x hx => .inl hx)
      have hwr : IntKind.i64.wrap ((pre.length : Int) + 1) = (pre.length : Int) + 1 := IntWalk.i64_in _ (by omega)
      have ck3 : (wx.setCell ⟨kk1, 0, none⟩ (.int .i64 ((pre.length : Int) + 1))).cell? ⟨kk1, 0, none⟩ = some (.int .i64 ((pre.length : Int) + 1)) := cell_of (by simpa using qk3)
      have fr3 := HI.out.2.2.2.1.trans f3 (fun _ h => .inl h) (fun _ h => .inl h)
      have frw3 : Fr [] wL (wx.setCell ⟨kk1, 0, none⟩ (.int .i64 ((pre.length : Int) + 1))) := gW.trans fr3 (by simp) (fun x hx => .inr (by simp at hx; omega))
      obtain ⟨_, cM3, _⟩ := HK.out _ frw3
      have cT3 : (wx.setCell ⟨kk1, 0, none⟩ (.int .i64 ((pre.length : Int) + 1))).cell? ⟨T1, 0, none⟩ = some (.int .i64 1) := cell_of (fr3.keep qTW (by simp; omega))
      have hln : (pre ++ [(Value.slice ga xl.length gc, xl)]).length = pre.length + 1 := by simp
      have hq3 : (wx.setCell ⟨kk1, 0, none⟩ (.int .i64 ((pre.length : Int) + 1))).heap[kk1]? = some (.cells #[.int .i64 (pre ++ [(Value.slice ga xl.length gc, xl)]).length] 3 (0, 0)) := by rw [hln]; simpa using qk3
      have hko : KeepsOthers W2 (wx.setCell ⟨kk1, 0, none⟩ (.int .i64 ((pre.length : Int) + 1))) := f3.keepsOthers (by intro x hx o ho; simp at hx; subst hx; rw [HI.out.2.2.1] at ho; injection ho with ho; subst ho; rfl)
      have hkp : FrK W1.heap.size [kk1] W2 (wx.setCell ⟨kk1, 0, none⟩ (.int .i64 ((pre.length : Int) + 1))) := ⟨f3.os, f3.tape, f3.output, f3.size, fun k hk hn => f3.block k (by have := HI.out.2.2.2.1.size; omega) hn⟩
      have HL := Lib.hid (And.intro hq3 (And.intro fr3 (And.intro hko hkp)))
      clear qk qk3 f3 fr3 frw3 hq3 hko hkp fx c7 cM ck cT
      gi_wp2
      exact ⟨HL.out.2.2.1, HL.out.2.2.2, HI.out.1, by rw [hln]; omega, HL.out.1, fun m e => (by cases e), HL.out.2.1⟩
    case done_3 =>
      rintro D1 xs W3 hD hS hI hK
      have hxl : xs.length = X.length := by have := congrArg List.length hS; simpa using this
      have q3 := hI.k
      have f3 := hI.fr
      have hmm : ((xs.length : Int) != (X.length : Int)) = false := by rw [hxl]; simp
      clear hS hI
      obtain ⟨kc, hkc⟩ : ∃ kc : Int, (xs.length : Int) = kc := ⟨_, rfl⟩
      rw [hkc] at q3 hmm
      clear hkc hxl
      have gw3 : Fr [] wL W3 := gW.trans f3 (by simp) (fun x hx => .inr (by simp at hx; omega))
      obtain ⟨c7, cM, _⟩ := HK.out _ gw3
      have ck : W3.cell? ⟨kk1, 0, none⟩ = some (.int .i64 kc) := cell_of q3
      have qT3 := f3.keep qTW (by simp; omega)
      have cT : W3.cell? ⟨T1, 0, none⟩ = some (.int .i64 1) := cell_of qT3
      have hK03 := f3.keep hK0' (by simp; omega)
      clear q3 f3 qT3 HPH p0 qTW
      simp only [Exit.inBlock, Exit.then]
      go_wp2_with fail
      obtain ⟨x2, hX, fX, qT⟩ : ∃ W, W3.alloc (.cells #[.int .i64 2] 3) = W ∧ Fr [] W3 W ∧ W.heap[W3.heap.size]? = some (.cells #[.int .i64 2] 3 (0, 0)) := ⟨_, rfl, (Fr.refl _ _).alloc _, newA rfl⟩
      rw [hX]
      clear hX c7 cM ck cT
      have gt := gw3.then0 fX
      have hK1 := fX.keep hK (by simp)
      have hK0 := fX.keep hK03 (by simp)
      have hTl := gw3.size
      generalize hT2 : W3.heap.size = T2 at *
      rw [rounds_succ]
      have cT : x2.cell? ⟨T2, 0, none⟩ = some (.int .i64 2) := cell_of qT
      go_wp2_with fail
      refine (known05 _).mono ?_
      rintro e w9 ⟨rfl, f9⟩
      have q9 := (HK.out _ (gt.then0 f9)).2.2
      have k0 := f9.keep hK0 (by simp)
      have k1 := f9.keep hK1 (by simp)
      have c9 : w9.cell? ⟨w.heap.size + 1, 0, none⟩ = some (.bool false) := cell_of q9
      have k9 : w9.frozen? ⟨w.heap.size + 1, 0, none⟩ = false := free_of q9
      have s9 := heap_setCell_eq (i := 0) (u := .bool true) q9
      have l9 := lt_of_heap q9
      go_wp2_with fail
      have hD01 : D0 ≠ D1 := by omega
      have hb0 : w.heap.size + 1 < wL.heap.size := by omega
      have d0b : D0 ≠ w.heap.size + 1 := by omega
      have d1b : D1 ≠ w.heap.size + 1 := by omega
      obtain ⟨v0, hv0⟩ : ∃ v, w9.setCell ⟨w.heap.size + 1, 0, none⟩ (.bool true) = v := ⟨_, rfl⟩
      have fv : Fr [w.heap.size + 1] w9 v0 := by rw [← hv0]; exact (Fr.refl _ _).setCell (.inl (by simp)) _
      have j1 : v0.heap[D1]? = some (.deferred (some [])) := fv.keep k1 (by simpa using d1b)
      have j0 : v0.heap[D0]? = some (.deferred (some [])) := fv.keep k0 (by simpa using d0b)
      have jr : v0.heap[w.heap.size + 1]? = some (.cells #[.bool true] 4 (0, 0)) := by rw [← hv0]; simpa using s9
      rw [hv0]
      have fP : Fr [D1] v0 (v0.putObj D1 (.deferred none)) := ⟨rfl, rfl, rfl, by simp [World.putObj], fun k _ hn => World.putObj_heap_other (by simpa using hn)⟩
      have i0 := fP.keep j0 (by simpa using hD01)
      have ir := fP.keep jr (by simp; omega)
      obtain ⟨v1, hv1⟩ : ∃ v, v0.putObj D1 (.deferred none) = v := ⟨_, rfl⟩
      rw [hv1] at fP i0 ir
      have fQ : Fr [D0] v1 (v1.putObj D0 (.deferred none)) := ⟨rfl, rfl, rfl, by simp [World.putObj], fun k _ hn => World.putObj_heap_other (by simpa using hn)⟩
      have z0 : (v1.putObj D0 (.deferred none)).cell? ⟨w.heap.size + 1, 0, none⟩ = some (.bool true) := cell_of (fQ.keep ir (by simp; omega))
      refine ⟨by simp, .inl ⟨_, _, rfl, run_takeDeferred j1, ?_⟩⟩
      rw [hv1]
      refine ⟨by simp, .inl ⟨_, _, rfl, run_takeDeferred i0, ?_⟩⟩
      refine ⟨.bool true, by simp [results, Try.results9, go_sem, z0], ?_⟩
      have e1 : Fr [] w v0 := ((gL.then0 gt).then0 f9).trans fv (by simp) (fun x hx => .inr (by simp at hx; omega))
      have e2 : Fr [] w v1 := e1.trans fP (by simp) (fun x hx => .inr (by simp at hx; omega))
      exact ⟨rfl, e2.trans fQ (by simp) (fun x hx => .inr (by simp at hx; omega))⟩
end Go.Proofs.Ytpkgjgfdobcboaa
