/-
  law 12's do: Offer.
-/
import Derived.Test.YtpkgjgfdobcboaaDo12
import Derived.Deep.DeepCutAuto
import Derived.Deep.RegionHeld3
namespace Go.Proofs.Ytpkgjgfdobcboaa
open Go.RowKit
set_option maxRecDepth 100000
theorem cell_set5 {w : World} {b Q i j : Nat} {v u : Value} (h : w.cell? ⟨b, i, none⟩ = some v) (hn : Q ≠ b) : (w.setCell ⟨Q, j, none⟩ u).cell? ⟨b, i, none⟩ = some v := by
  rw [← h]
  simp only [World.cell?]
  rw [heap_setCell_ne (by dsimp only; omega)]
variable {w w' : World} {N : Nat → Prop} {M b : Nat} {m : MM} {O : List UInt8} {what n : Int} {pa : Option Addr} {pl pc : Nat} {wth : Int} {u0 u1 u2 u3 u4 : Value}
set_option maxHeartbeats 4000000 in
theorem do_offer (h : Mt w N b m) (hO : OK12 m O) {B : Nat} {ps : Parts} (hBb : B ≤ b) (hss : StrsAt w B pa pl pc ps) (hp30 : ps.length ≤ 30) (htot : tot ps ≤ 12000) (hmx : ∀ p ∈ ps, p.length ≤ 1000000) :
    Calls Try.prog 72 #[.pointer (some ⟨b, 0, none⟩), refV m O, .agg #[.int .i64 0, .int .i64 n, .slice pa pl pc, .int .i64 wth]] w (DoPost N b w) := by
  have hpl := hss.len_eq
  subst hpl
  have C1 := fun (w0 : World) (N : Nat → Prop) (v : Value) (h0 : Mt w0 N b m) (hv : Rp w0 N v (own ps)) => offer_mm h0 hv
  have C2 := fun w0 => ref_offer hO (s1 := ps.flatten) (by show tot ps ≤ 65536; omega) w0
  rw [own_flat] at C1
  obtain ⟨T, hT⟩ : ∃ T, mOfferR m ps.flatten = T := ⟨_, rfl⟩
  have C2' : ∀ w0, Calls Try.prog 107 #[refV m O, .string (st ps.flatten)] w0 (RPost T w0) := fun w0 => by
    rw [← hT]
    exact C2 w0
  rw [hT] at C1
  have HC1 := Lib.hid C1
  have HC2 := Lib.hid C2'
  have hfr := h.fresh
  clear C1 C2 C2' hT
  obtain ⟨⟨r2, w2_, off2, s2_, tk2⟩, er⟩ := T
  unfold EPost at HC1
  unfold RPost refV at HC2
  dsimp only at HC1 HC2
  have htot' : tot ps ≤ 1000000 := by omega
  have HMX := Lib.hid hmx
  clear hmx
  have HO := Lib.hid hO
  clear hO
  obtain ⟨w0, e0, s0, g0, f0, h0, hbM, hz0⟩ := do_start h O 0 n pa ps.length pc wth
  have hss0 := hss.keep f0 (by simp)
  have hfr0 : ∀ x, w0.heap.size ≤ x → (fun x => N x ∧ x ≠ w.heap.size + 2) x := h0.fresh
  clear hss hfr
  have hNM : ¬ (fun x => N x ∧ x ≠ w.heap.size + 2) (w.heap.size + 2) := fun h => h.2 rfl
  have hN1 : ∀ x, (fun x => N x ∧ x ≠ w.heap.size + 2) x → N x := fun x h => h.1
  generalize (fun x => N x ∧ x ≠ w.heap.size + 2) = N1 at *
  clear h f0
  obtain ⟨r, wd, off, s, tk⟩ := m
  dsimp only at e0
  unfold refV
  dsimp only
  go_enter Try.func72, Try.ntmps72

  go_wp2_with fail
  rw [← e0]
  clear e0
  refine (of12 hss0.sl rfl (by omega) HMX.out (Nat.le_trans (List.length_filter_le _ _) (by omega)) (by omega)).mono ?_
  rintro e w1 ⟨rv, rfl, f1, hrp⟩
  have s1 := s0.keep f1 (by simp)
  have h1 := h0.keep0 f1
  have hrp' := hrp.mono (N' := N1) (fun x hx => hfr0 x (by omega))
  have g1 := g0.then0 f1
  have hss1 := hss0.keep f1 (by simp)
  have z1 := f1.size
  clear f1 s0 g0 h0 hrp hfr0 hss0
  go_wp2_with fail
  refine (HC1.out _ _ _ h1 hrp').mono ?_
  rintro e w2 ⟨rfl, f2, h2⟩
  have s2 := s1.keep f2 (by simp; omega)
  have hss2 := hss1.keep f2 (by simpa using hBb)
  have g2 := g1.then f2
  have z2 := f2.size
  clear f2 s1 g1 h1 hrp' hss1
  have hpi : ps.length ≤ 1000000 := by omega

  obtain ⟨c0, c1, c2, c3, c4, _, _, _, _, _⟩ := c5 s2.h0
  dsimp only at c0 c1 c2 c3 c4
  obtain ⟨d0, d1, d2, d3⟩ := cl4 s2.h1

  have hM3 := s2.lt
  have hA1 : StrsAt w2.drew B pa ps.length pc ps := hss2.keep (Fr.drew (Fr.refl [] w2)) (by simp)
  have hA2 : StrsAt (w2.alloc (Obj.cells #[.bool false, .string { data := #[] }, .int .i64 0, .int .i64 0, .int .i64 0] 112)).drew B pa ps.length pc ps := hss2.keep (Fr.drew ((Fr.refl [] w2).alloc _)) (by simp)
  have sA1 : DM w2.drew w.heap.size ⟨r, wd, off, s, tk⟩ O 0 n pa ps.length pc wth _ _ _ _ _ := s2.keep (Fr.drew (Fr.refl [] w2)) (by simp)
  have sA2 : DM (w2.alloc (Obj.cells #[.bool false, .string { data := #[] }, .int .i64 0, .int .i64 0, .int .i64 0] 112)).drew w.heap.size ⟨r, wd, off, s, tk⟩ O 0 n pa ps.length pc wth _ _ _ _ _ := s2.keep (Fr.drew ((Fr.refl [] w2).alloc _)) (by simp)
  have hQ0 : w2.heap.size ≠ w.heap.size := by omega
  have hQ1 : w2.heap.size ≠ w.heap.size + 1 := by omega
  go_upto_region 4 with fail
  go_cut [10, 11] (fun s10 s11 wx => ∃ (Q : Nat) (O2 : List UInt8), s10 = .pointer (some ⟨Q, 0, none⟩) ∧ s11 = .int .i64 er ∧ wx.heap[Q]? = some (.cells #[.bool off2, .string (st O2), .int .i64 tk2, .int .i64 w2_, .int .i64 r2] 112 (0, 0)) ∧ OK12 ⟨r2, w2_, off2, s2_, tk2⟩ O2 ∧ Fr [] w2 wx ∧ w.heap.size + 2 < Q)
  case first =>
    go_region_held3 (fun w' => w'.cell? ⟨w.heap.size, 0, none⟩ = some (.bool off) ∧ w'.cell? ⟨w.heap.size, 1, none⟩ = some (.string (st O)) ∧ w'.cell? ⟨w.heap.size, 2, none⟩ = some (.int .i64 tk) ∧ w'.cell? ⟨w.heap.size, 3, none⟩ = some (.int .i64 wd) ∧ w'.cell? ⟨w.heap.size, 4, none⟩ = some (.int .i64 r) ∧
        w'.cell? ⟨w.heap.size + 1, 0, none⟩ = some (.int .i64 0) ∧ w'.cell? ⟨w.heap.size + 1, 1, none⟩ = some (.int .i64 n) ∧ w'.cell? ⟨w.heap.size + 1, 2, none⟩ = some (.slice pa ps.length pc) ∧ w'.cell? ⟨w.heap.size + 1, 3, none⟩ = some (.int .i64 wth))
      (first | (with_reducible exact ⟨t0, t1, t2, t3, t4, t5, t6, t7, t8⟩) | (with_reducible exact ⟨c0, c1, c2, c3, c4, d0, d1, d2, d3⟩) | (refine ⟨?_, ?_, ?_, ?_, ?_, ?_, ?_, ?_, ?_⟩ <;> (repeat (first | (with_reducible refine cell_set5 ?_ hQ0) | (with_reducible refine cell_set5 ?_ hQ1) | (with_reducible refine cell_set5 ?_ hR0) | (with_reducible refine cell_set5 ?_ hR1))) <;> (with_reducible assumption)) | go_keep)
      (first
        | (go_at_call 59; ((with_reducible refine (text12 (w := w2.drew) hA1 htot' hpi).mono ?_); rintro e wa ⟨rfl, ft⟩; have sa := sA1.keep ft (by simp); have ga := ft.undrew; have hR0 : wa.heap.size ≠ w.heap.size := (by have := sa.lt; omega); have hR1 : wa.heap.size ≠ w.heap.size + 1 := (by have := sa.lt; omega); obtain ⟨t0, t1, t2, t3, t4, _, _, _, _, _⟩ := c5 sa.h0; dsimp only at t0 t1 t2 t3 t4; obtain ⟨t5, t6, t7, t8⟩ := cl4 sa.h1))
        | (go_at_call 59; ((with_reducible refine (text12 (w := (w2.alloc (Obj.cells #[.bool false, .string { data := #[] }, .int .i64 0, .int .i64 0, .int .i64 0] 112)).drew) hA2 htot' hpi).mono ?_); rintro e wb ⟨rfl, ft⟩; have sa := sA2.keep ft (by simp); have ga := ((Fr.refl [] w2).alloc _).then0 ft.undrew; have nz : wb.heap[w2.heap.size]? = some (.cells #[.bool false, .string { data := #[] }, .int .i64 0, .int .i64 0, .int .i64 0] 112 (0, 0)) := ft.keep (b := w2.heap.size) (by exact newA rfl) (by simp); obtain ⟨t0, t1, t2, t3, t4, _, _, _, _, _⟩ := c5 sa.h0; dsimp only at t0 t1 t2 t3 t4; obtain ⟨t5, t6, t7, t8⟩ := cl4 sa.h1; obtain ⟨n0, n1, n2, n3, n4, o0, o1, o2, o3, o4⟩ := c5 nz))
        | (go_at_call 107; ((with_reducible refine (HC2.out wa).mono ?_); rintro e wo ⟨O2, rfl, K2, fo⟩; have so := sa.keep fo (by simp); have go := ga.then0 fo; obtain ⟨t0, t1, t2, t3, t4, _, _, _, _, _⟩ := c5 so.h0; dsimp only at t0 t1 t2 t3 t4; obtain ⟨t5, t6, t7, t8⟩ := cl4 so.h1))
        | (go_at_call 107; ((with_reducible refine (HC2.out (wa.alloc (Obj.cells #[.bool false, .string { data := #[] }, .int .i64 0, .int .i64 0, .int .i64 0] 112))).mono ?_); rintro e wo ⟨O2, rfl, K2, fo⟩; have so := (sa.keep ((Fr.refl [] wa).alloc _) (by simp)).keep fo (by simp); have go := (ga.alloc _).then0 fo; have nz : wo.heap[wa.heap.size]? = some (.cells #[.bool false, .string { data := #[] }, .int .i64 0, .int .i64 0, .int .i64 0] 112 (0, 0)) := fo.keep (b := wa.heap.size) (by exact newA rfl) (by simp); obtain ⟨t0, t1, t2, t3, t4, _, _, _, _, _⟩ := c5 so.h0; dsimp only at t0 t1 t2 t3 t4; obtain ⟨t5, t6, t7, t8⟩ := cl4 so.h1; obtain ⟨n0, n1, n2, n3, n4, o0, o1, o2, o3, o4⟩ := c5 nz))
        | (go_at_call 107; ((with_reducible refine (HC2.out wb).mono ?_); rintro e wo ⟨O2, rfl, K2, fo⟩; have so := sa.keep fo (by simp); have go := ga.then0 fo; replace nz := fo.keep nz (by simp); obtain ⟨t0, t1, t2, t3, t4, _, _, _, _, _⟩ := c5 so.h0; dsimp only at t0 t1 t2 t3 t4; obtain ⟨t5, t6, t7, t8⟩ := cl4 so.h1; obtain ⟨n0, n1, n2, n3, n4, o0, o1, o2, o3, o4⟩ := c5 nz)))
    · go_wp2_with fail
      go_meet
      exact ⟨_, O2, rfl, rfl, newA rfl, K2, go.alloc _, by have := so.lt; omega⟩
    · go_wp2_with fail
      go_meet
      exact ⟨_, O2, rfl, rfl, set5 nz, K2, ((((go.setCell (.inr (by dsimp only; have := ga.size; omega)) _).setCell (.inr (by dsimp only; have := ga.size; omega)) _).setCell (.inr (by dsimp only; have := ga.size; omega)) _).setCell (.inr (by dsimp only; have := ga.size; omega)) _).setCell (.inr (by dsimp only; have := ga.size; omega)) _, by have := sa.lt; omega⟩
    · go_wp2_with fail
      go_meet
      exact ⟨_, O2, rfl, rfl, set5 nz, K2, ((((go.setCell (.inr (by dsimp only; have := ga.size; omega)) _).setCell (.inr (by dsimp only; have := ga.size; omega)) _).setCell (.inr (by dsimp only; have := ga.size; omega)) _).setCell (.inr (by dsimp only; have := ga.size; omega)) _).setCell (.inr (by dsimp only; have := ga.size; omega)) _, by omega⟩
  case rest =>
    obtain ⟨Q, O2, rfl, rfl, v0, K2, fc, hQ⟩ := hcut
    have sv := s2.keep fc (by simp)
    have hv := h2.keep0 fc
    have gv := g2.then0 fc
    have zv := fc.size
    obtain ⟨q0, q1, q2, q3, q4, _, _, _, _, _⟩ := c5 v0
    clear v0 s2 h2 g2 c0 c1 c2 c3 c4 d0 d1 d2 d3 hA1 hA2 sA1 sA2 fc
    obtain ⟨e0, e1, e2, e3, e4, k0, k1, k2, k3, k4⟩ := c5 sv.h2
    go_wp2_with fail
    go_region
    go_wp2_with fail
    refine bodyPost_ret (v := .tuple #[.pointer (some ⟨b, 0, none⟩), .agg #[.bool off2, .string (st O2), .int .i64 tk2, .int .i64 w2_, .int .i64 r2], .bool true]) (by simp [results, Try.results72, go_sem, e0, e1, e2, e3, e4]) rfl ?_
    refine ⟨N1, b, _, _, rfl, .inl rfl, ?_, K2, ?_, hN1⟩
    · repeat first | (with_reducible exact hv) | (with_reducible refine Mt.drew_ ?_) | (with_reducible refine Mt.drewN_ ?_ _) | (with_reducible refine Mt.set_ ?_ (by omega) hNM)
    · repeat first | (with_reducible exact gv) | (with_reducible refine Fr.drew ?_) | (with_reducible refine Fr.drewN ?_ _) | (with_reducible refine Fr.setCell ?_ (.inr (by dsimp only; omega)) _)


theorem do_any (h : Mt w N b m) (hO : OK12 m O) {B : Nat} {ps : Parts} (hBb : B ≤ b) (hss : StrsAt w B pa pl pc ps) (hp30 : ps.length ≤ 30) (htot : tot ps ≤ 12000) (hmx : ∀ p ∈ ps, p.length ≤ 1000000)
    (hn : -9223372036854775808 ≤ n ∧ n ≤ 9223372036854775807) (hw : -9223372036854775808 ≤ wth ∧ wth ≤ 9223372036854775807) :
    Calls Try.prog 72 #[.pointer (some ⟨b, 0, none⟩), refV m O, .agg #[.int .i64 what, .int .i64 n, .slice pa pl pc, .int .i64 wth]] w (DoPost N b w) := by
  by_cases q0 : what = 0
  · subst q0; exact do_offer h hO hBb hss hp30 htot hmx
  by_cases q1 : what = 1
  · subst q1; exact do_take h hO hn
  by_cases q2 : what = 2
  · subst q2; exact do_result h hO
  by_cases q3 : what = 3
  · subst q3; exact do_withdraw h hO
  by_cases q4 : what = 4
  · subst q4; exact do_closew h hO hw
  by_cases q5 : what = 5
  · subst q5; exact do_closer h hO hw
  exact do_copy h hO q0 q1 q2 q3 q4 q5
end Go.Proofs.Ytpkgjgfdobcboaa
