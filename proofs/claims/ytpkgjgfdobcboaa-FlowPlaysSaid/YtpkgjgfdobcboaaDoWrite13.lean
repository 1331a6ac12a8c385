/-
  law 13's do: Write and Copy; FlowPlays.
-/
import Derived.Test.YtpkgjgfdobcboaaDo13
import Derived.Test.YtpkgjgfdobcboaaFlowCopy
import Derived.Deep.DeepCutAuto
import Derived.Deep.RegionHeld3
import Derived.Deep.QuietTactic
import Derived.BigQuiet
namespace Go.Proofs.Ytpkgjgfdobcboaa
open Go.RowKit
set_option maxRecDepth 100000
theorem cell_setF {w : World} {b Q i j : Nat} {v u : Value} (h : w.cell? ⟨b, i, none⟩ = some v) (hn : Q ≠ b) : (w.setCell ⟨Q, j, none⟩ u).cell? ⟨b, i, none⟩ = some v := by
  rw [← h]
  simp only [World.cell?]
  rw [heap_setCell_ne (by dsimp only; omega)]
variable {w w' : World} {M b R D : Nat} {m : FM} {what n : Int} {pa : Option Addr} {pl pc : Nat} {wth : Int}
set_option maxHeartbeats 4000000 in
theorem df_write (h : Fl w b R D m) {B : Nat} {ps : Parts} (hBb : B ≤ R ∧ B ≤ D) (hss : StrsAt w B pa pl pc ps) (hp30 : ps.length ≤ 30) (htot : tot ps ≤ 12000) (hmx : ∀ p ∈ ps, p.length ≤ 1000000) :
    Calls Try.prog 88 #[.pointer (some ⟨b, 0, none⟩), refF m, .agg #[.int .i64 0, .int .i64 n, .slice pa pl pc, .int .i64 wth]] w (DfPost b R D w) := by
  have hpl := hss.len_eq
  subst hpl
  have hbd := h.bd
  have C1 := fun (w0 : World) (N : Nat → Prop) (v : Value) (h0 : Fl w0 b R D m) (hv : Rp w0 N v (own ps)) (h1 : ¬ N R) (h2 : ¬ N D) => flow_write h0 hv h1 h2
  have C2 : ∀ w0, Calls Try.prog 115 #[refF m, .string (st ps.flatten)] w0 (QNPost (fWrite m ps.flatten) w0) := fun w0 => ref13_write (by omega) (by omega) (by show tot ps ≤ 100000; omega) w0
  rw [own_flat] at C1
  obtain ⟨T, hT⟩ : ∃ T, fWrite m ps.flatten = T := ⟨_, rfl⟩
  rw [hT] at C1 C2
  have HC1 := Lib.hid C1
  have HC2 := Lib.hid C2
  clear C1 C2 hT
  obtain ⟨⟨c2_, s2_, w2_, r2⟩, nn, er⟩ := T
  unfold FNPost at HC1
  unfold QNPost refF at HC2
  dsimp only at HC1 HC2
  have htot' : tot ps ≤ 1000000 := by omega
  have HMX := Lib.hid hmx
  clear hmx hbd
  obtain ⟨w0, e0, s0, g0, f0, h0, ⟨hb1, hb2, hb3⟩, hz0, hsc, hc4⟩ := df_start h 0 n pa ps.length pc wth
  have hss0 := hss.keep f0 (by simp)
  clear h f0 hss
  obtain ⟨c, s, wd, r⟩ := m
  dsimp only at e0 hsc hc4
  unfold refF
  dsimp only
  go_enter Try.func88, Try.ntmps88
  go_wp2_with fail
  rw [← e0]
  clear e0
  refine (of13 hss0.sl rfl (by omega) HMX.out (Nat.le_trans (List.length_filter_le _ _) (by omega)) (by omega)).mono ?_
  rintro e w1 ⟨rv, rfl, f1, hrp⟩
  have s1 := s0.keep f1 (by simp)
  have h1 := h0.keep0 f1
  have g1 := g0.then0 f1
  have hss1 := hss0.keep f1 (by simp)
  have z1 := f1.size
  clear f1 s0 g0 h0 hss0
  go_wp2_with fail
  refine (HC1.out _ _ _ h1 hrp (by omega) (by omega)).mono ?_
  rintro e w2 ⟨rfl, f2, h2⟩
  have s2 := s1.keep f2 (by simp; omega)
  have hss2 := hss1.keep f2 (by simp; exact hBb)
  have g2 : Fr [b, R, D] w w2 := g1.trans f2 (fun x hx => .inl hx) (fun x hx => .inl (List.mem_cons_of_mem _ hx))
  have z2 := f2.size
  clear f2 s1 g1 h1 hrp hss1
  have hpi : ps.length ≤ 1000000 := by omega
  obtain ⟨c0, c1, c2, c3, _, _, _, _⟩ := fl4 s2.h0
  dsimp only at c0 c1 c2 c3
  obtain ⟨d0, d1, d2, d3, _, _, _, _⟩ := fl4 s2.h1
  have hM3 := s2.lt
  have hA1 : StrsAt w2.drew B pa ps.length pc ps := hss2.keep (Fr.drew (Fr.refl [] w2)) (by simp)
  have hA2 : StrsAt (w2.alloc (.cells #[.int .i64 0, .string { data := #[] }, .int .i64 0, .int .i64 0] 132)).drew B pa ps.length pc ps := hss2.keep (Fr.drew ((Fr.refl [] w2).alloc _)) (by simp)
  have sA1 : DF w2.drew w.heap.size ⟨c, s, wd, r⟩ 0 n pa ps.length pc wth _ _ _ _ := s2.keep (Fr.drew (Fr.refl [] w2)) (by simp)
  have sA2 : DF (w2.alloc (.cells #[.int .i64 0, .string { data := #[] }, .int .i64 0, .int .i64 0] 132)).drew w.heap.size ⟨c, s, wd, r⟩ 0 n pa ps.length pc wth _ _ _ _ := s2.keep (Fr.drew ((Fr.refl [] w2).alloc _)) (by simp)
  have hQ0 : w2.heap.size ≠ w.heap.size := by omega
  have hQ1 : w2.heap.size ≠ w.heap.size + 1 := by omega
  go_upto_region 4 with fail
  go_cut [11, 12, 13] (fun s11 s12 s13 wx => ∃ (Q : Nat), s11 = .pointer (some ⟨Q, 0, none⟩) ∧ s12 = .int .i64 nn ∧ s13 = .int .i64 er ∧ wx.heap[Q]? = some (.cells #[.int .i64 c2_, .string (st s2_), .int .i64 w2_, .int .i64 r2] 132 (0, 0)) ∧ Fr [] w2 wx ∧ w.heap.size + 2 < Q)
  case first =>
    go_region_held3 (fun w' => w'.cell? ⟨w.heap.size, 0, none⟩ = some (.int .i64 c) ∧ w'.cell? ⟨w.heap.size, 1, none⟩ = some (.string (st s)) ∧ w'.cell? ⟨w.heap.size, 2, none⟩ = some (.int .i64 wd) ∧ w'.cell? ⟨w.heap.size, 3, none⟩ = some (.int .i64 r) ∧
        w'.cell? ⟨w.heap.size + 1, 0, none⟩ = some (.int .i64 0) ∧ w'.cell? ⟨w.heap.size + 1, 1, none⟩ = some (.int .i64 n) ∧ w'.cell? ⟨w.heap.size + 1, 2, none⟩ = some (.slice pa ps.length pc) ∧ w'.cell? ⟨w.heap.size + 1, 3, none⟩ = some (.int .i64 wth))
      (first | (with_reducible exact ⟨t0, t1, t2, t3, t5, t6, t7, t8⟩) | (with_reducible exact ⟨c0, c1, c2, c3, d0, d1, d2, d3⟩) | (refine ⟨?_, ?_, ?_, ?_, ?_, ?_, ?_, ?_⟩ <;> (repeat (first | (with_reducible refine cell_setF ?_ hQ0) | (with_reducible refine cell_setF ?_ hQ1) | (with_reducible refine cell_setF ?_ hR0) | (with_reducible refine cell_setF ?_ hR1))) <;> (with_reducible assumption)) | go_keep)
      (first
        | (go_at_call 78; ((with_reducible refine (text13 (w := w2.drew) hA1 htot' hpi).mono ?_); rintro e wa ⟨rfl, ft⟩; have sa := sA1.keep ft (by simp); have ga := ft.undrew; have hR0 : wa.heap.size ≠ w.heap.size := (by have := sa.lt; omega); have hR1 : wa.heap.size ≠ w.heap.size + 1 := (by have := sa.lt; omega); obtain ⟨t0, t1, t2, t3, _, _, _, _⟩ := fl4 sa.h0; dsimp only at t0 t1 t2 t3; obtain ⟨t5, t6, t7, t8, _, _, _, _⟩ := fl4 sa.h1))
        | (go_at_call 78; ((with_reducible refine (text13 (w := (w2.alloc (.cells #[.int .i64 0, .string { data := #[] }, .int .i64 0, .int .i64 0] 132)).drew) hA2 htot' hpi).mono ?_); rintro e wb ⟨rfl, ft⟩; have sa := sA2.keep ft (by simp); have ga := ((Fr.refl [] w2).alloc _).then0 ft.undrew; have nz : wb.heap[w2.heap.size]? = some (.cells #[.int .i64 0, .string { data := #[] }, .int .i64 0, .int .i64 0] 132 (0, 0)) := ft.keep (b := w2.heap.size) (by exact newA rfl) (by simp); obtain ⟨t0, t1, t2, t3, _, _, _, _⟩ := fl4 sa.h0; dsimp only at t0 t1 t2 t3; obtain ⟨t5, t6, t7, t8, _, _, _, _⟩ := fl4 sa.h1; obtain ⟨n0, n1, n2, n3, o0, o1, o2, o3⟩ := fl4 nz))
        | (go_at_call 115; ((with_reducible refine (HC2.out wa).mono ?_); rintro e wo ⟨rfl, fo⟩; have so := sa.keep fo (by simp); have go := ga.then0 fo; obtain ⟨t0, t1, t2, t3, _, _, _, _⟩ := fl4 so.h0; dsimp only at t0 t1 t2 t3; obtain ⟨t5, t6, t7, t8, _, _, _, _⟩ := fl4 so.h1))
        | (go_at_call 115; ((with_reducible refine (HC2.out (wa.alloc (.cells #[.int .i64 0, .string { data := #[] }, .int .i64 0, .int .i64 0] 132))).mono ?_); rintro e wo ⟨rfl, fo⟩; have so := (sa.keep ((Fr.refl [] wa).alloc _) (by simp)).keep fo (by simp); have go := (ga.alloc _).then0 fo; have nz : wo.heap[wa.heap.size]? = some (.cells #[.int .i64 0, .string { data := #[] }, .int .i64 0, .int .i64 0] 132 (0, 0)) := fo.keep (b := wa.heap.size) (by exact newA rfl) (by simp); obtain ⟨t0, t1, t2, t3, _, _, _, _⟩ := fl4 so.h0; dsimp only at t0 t1 t2 t3; obtain ⟨t5, t6, t7, t8, _, _, _, _⟩ := fl4 so.h1; obtain ⟨n0, n1, n2, n3, o0, o1, o2, o3⟩ := fl4 nz))
        | (go_at_call 115; ((with_reducible refine (HC2.out wb).mono ?_); rintro e wo ⟨rfl, fo⟩; have so := sa.keep fo (by simp); have go := ga.then0 fo; replace nz := fo.keep nz (by simp); obtain ⟨t0, t1, t2, t3, _, _, _, _⟩ := fl4 so.h0; dsimp only at t0 t1 t2 t3; obtain ⟨t5, t6, t7, t8, _, _, _, _⟩ := fl4 so.h1; obtain ⟨n0, n1, n2, n3, o0, o1, o2, o3⟩ := fl4 nz)))
    · go_wp2_with fail
      go_meet
      exact ⟨_, rfl, rfl, rfl, newA rfl, go.alloc _, by have := so.lt; omega⟩
    · go_wp2_with fail
      go_meet
      exact ⟨_, rfl, rfl, rfl, set4 nz, (((go.setCell (.inr (by dsimp only; have := ga.size; omega)) _).setCell (.inr (by dsimp only; have := ga.size; omega)) _).setCell (.inr (by dsimp only; have := ga.size; omega)) _).setCell (.inr (by dsimp only; have := ga.size; omega)) _, by have := sa.lt; omega⟩
    · go_wp2_with fail
      go_meet
      exact ⟨_, rfl, rfl, rfl, set4 nz, (((go.setCell (.inr (by dsimp only; have := ga.size; omega)) _).setCell (.inr (by dsimp only; have := ga.size; omega)) _).setCell (.inr (by dsimp only; have := ga.size; omega)) _).setCell (.inr (by dsimp only; have := ga.size; omega)) _, by omega⟩
  case rest =>
    obtain ⟨Q, rfl, rfl, rfl, v0, fc, hQ⟩ := hcut
    have sv := s2.keep fc (by simp)
    have hv := h2.keep0 fc
    have gv := g2.then0 fc
    have zv := fc.size
    obtain ⟨q0, q1, q2, q3, _, _, _, _⟩ := fl4 v0
    clear v0 s2 h2 g2 c0 c1 c2 c3 d0 d1 d2 d3 hA1 hA2 sA1 sA2 fc
    obtain ⟨e0, e1, e2, e3, k0, k1, k2, k3⟩ := fl4 sv.h2
    go_wp2_with fail
    go_region
    go_wp2_with fail
    refine bodyPost_ret (v := .tuple #[.pointer (some ⟨b, 0, none⟩), .agg #[.int .i64 c2_, .string (st s2_), .int .i64 w2_, .int .i64 r2], .bool true]) (by simp [results, Try.results88, go_sem, e0, e1, e2, e3]) rfl ?_
    refine ⟨b, R, D, ⟨_, _, _, _⟩, rfl, .inl ⟨rfl, rfl, rfl⟩, ?_, ?_⟩
    · repeat first | (with_reducible exact hv) | (with_reducible refine Fl.drew_ ?_) | (with_reducible refine Fl.drewN_ ?_ _) | (with_reducible refine Fl.set_ ?_ (by omega) (by omega) (by omega))
    · repeat first | (with_reducible exact gv) | (with_reducible refine Fr.drew ?_) | (with_reducible refine Fr.drewN ?_ _) | (with_reducible refine Fr.setCell ?_ (.inr (by dsimp only; omega)) _)

set_option maxHeartbeats 4000000 in
theorem df_copy (h : Fl w b R D m) (q0 : what ≠ 0) (q1 : what ≠ 1) (q2 : what ≠ 2) (q3 : what ≠ 3) :
    Calls Try.prog 88 #[.pointer (some ⟨b, 0, none⟩), refF m, .agg #[.int .i64 what, .int .i64 n, .slice pa pl pc, .int .i64 wth]] w (DfPost b R D w) := by
  have b0 : (what == 0) = false := by simpa using q0
  have b1 : (what == 1) = false := by simpa using q1
  have b2 : (what == 2) = false := by simpa using q2
  have b3 : (what == 3) = false := by simpa using q3
  obtain ⟨w0, e0, s0, g0, f0, h0, ⟨hb1, hb2, hb3⟩, hz0, hsc, hc4⟩ := df_start h what n pa pl pc wth
  clear h f0
  obtain ⟨c, s, wd, r⟩ := m
  dsimp only at e0 hsc hc4
  unfold refF
  dsimp only
  go_enter Try.func88, Try.ntmps88
  go_wp2_with fail
  rw [← e0]
  clear e0
  refine (flow_copy h0).mono ?_
  rintro e w1 ⟨b', R', D', rfl, f1, ⟨hb', hR', hD'⟩, hC⟩
  have s1 := s0.keep f1 (by simp)
  have h1 := h0.keep0 f1
  have g1 := g0.then0 f1
  have z1 := f1.size
  have hCl := hC.bd
  clear f1 s0 g0 h0 b0 b1 b2 b3 q0 q1 q2 q3
  have HF := Lib.hid (flow_read h1 1)
  unfold FTPost at HF
  go_wp2_with fail
  refine HF.out.mono ?_
  rintro e w2 ⟨u, rfl, f, _, h2⟩
  have s2 := s1.keep f (by simp; omega)
  have g2 : Fr [b, R, D] w w2 := g1.trans f (fun x hx => .inl hx) (fun x hx => .inl (List.mem_cons_of_mem _ hx))
  have z2 := f.size
  replace hC := hC.keep f (by simp; omega) (by simp; omega) (by simp; omega)
  generalize (fRead ⟨c, s, wd, r⟩ 1).m = m2 at *
  clear f s1 g1 h1 HF
  have fl : Fr [] w2 (w2.alloc (.cells #[.string { data := #[111, 108, 100] }] 9)) := (Fr.refl _ _).alloc _
  have sl := s2.keep fl (by simp)
  have hl := h2.keep0 fl
  have gl := g2.then0 fl
  have zl := fl.size
  replace hC := hC.keep0 fl
  clear fl s2 h2 g2
  go_wp2_with fail
  refine (of13 (ss := [[111, 108, 100]]) (by exact SlV.lit _ _ _) rfl (by simp) (by simp) (by decide) (by decide)).mono ?_
  rintro e w3 ⟨rv, rfl, f3, hrp⟩
  have s3 := sl.keep f3 (by simp)
  have h3 := hl.keep0 f3
  have g3 := gl.then0 f3
  have z3 := f3.size
  replace hC := hC.keep0 f3
  clear f3 sl hl gl
  have HW := Lib.hid (flow_write h3 hrp (by omega) (by omega))
  unfold FNPost at HW
  go_wp2_with fail
  refine HW.out.mono ?_
  rintro e w4 ⟨rfl, f4, h4⟩
  have s4 := s3.keep f4 (by simp; omega)
  have g4 : Fr [b, R, D] w w4 := g3.trans f4 (fun x hx => .inl hx) (fun x hx => .inl (List.mem_cons_of_mem _ hx))
  have z4 := f4.size
  replace hC := hC.keep f4 (by simp; omega) (by simp; omega) (by simp; omega)
  generalize (fWrite m2 (own [[111, 108, 100]]).flatten).m = m3 at *
  clear f4 s3 g3 h3 HW hrp
  have HR := Lib.hid (flow_closer h4 8)
  unfold FEPost at HR
  go_wp2_with fail
  refine HR.out.mono ?_
  rintro e w5 ⟨rfl, f5, h5⟩
  have s5 := s4.keep f5 (by simp; omega)
  have g5 := g4.then f5
  have z5 := f5.size
  replace hC := hC.keep f5 (by simp; omega) (by simp; omega) (by simp; omega)
  clear f5 s4 g4 h4 h5 HR
  obtain ⟨c0, c1, c2, c3, _, _, _, _⟩ := fl4 s5.h0
  dsimp only at c0 c1 c2 c3
  obtain ⟨e0, e1, e2, e3, k0, k1, k2, k3⟩ := fl4 s5.h2
  go_wp2_with fail
  go_region
  go_wp2_with fail
  refine bodyPost_ret (v := .tuple #[.pointer (some ⟨b', 0, none⟩), .agg #[.int .i64 c, .string (st s), .int .i64 wd, .int .i64 r], .bool true]) (by simp [results, Try.results88, go_sem, e0, e1, e2, e3]) rfl ?_
  refine ⟨b', R', D', ⟨_, _, _, _⟩, rfl, .inr ⟨by omega, by omega, by omega⟩, ?_, ?_⟩
  · repeat first | (with_reducible exact hC) | (with_reducible refine Fl.drew_ ?_) | (with_reducible refine Fl.drewN_ ?_ _) | (with_reducible refine Fl.set_ ?_ (by omega) (by omega) (by omega))
  · repeat first | (with_reducible exact g5) | (with_reducible refine Fr.drew ?_) | (with_reducible refine Fr.drewN ?_ _) | (with_reducible refine Fr.setCell ?_ (.inr (by dsimp only; omega)) _)

theorem df_any (h : Fl w b R D m) {B : Nat} {ps : Parts} (hBb : B ≤ R ∧ B ≤ D) (hss : StrsAt w B pa pl pc ps) (hp30 : ps.length ≤ 30) (htot : tot ps ≤ 12000) (hmx : ∀ p ∈ ps, p.length ≤ 1000000) :
    Calls Try.prog 88 #[.pointer (some ⟨b, 0, none⟩), refF m, .agg #[.int .i64 what, .int .i64 n, .slice pa pl pc, .int .i64 wth]] w (DfPost b R D w) := by
  by_cases q0 : what = 0
  · subst q0; exact df_write h hBb hss hp30 htot hmx
  by_cases q1 : what = 1
  · subst q1; exact df_read h
  by_cases q2 : what = 2
  · subst q2; exact df_closew h
  by_cases q3 : what = 3
  · subst q3; exact df_closer h
  exact df_copy h q0 q1 q2 q3
end Go.Proofs.Ytpkgjgfdobcboaa
