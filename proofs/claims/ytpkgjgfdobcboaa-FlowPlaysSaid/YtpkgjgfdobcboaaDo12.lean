/-
  law 12's do: one call for the stream and for the reference.
-/
import Derived.Test.YtpkgjgfdobcboaaRef12
import Derived.Test.YtpkgjgfdobcboaaMeetTake2
namespace Go.Proofs.Ytpkgjgfdobcboaa
open Go.RowKit
set_option maxRecDepth 100000

/-- What do keeps: the reference's stream, the call, and the variable of the result. -/
structure DM (w : World) (M : Nat) (m : MM) (O : List UInt8) (what n : Int) (pa : Option Addr) (pl pc : Nat) (wth : Int) (u0 u1 u2 u3 u4 : Value) : Prop where
  h0 : w.heap[M]? = some (.cells #[.bool m.off, .string (st O), .int .i64 m.tk, .int .i64 m.w, .int .i64 m.r] 112 (0, 0))
  h1 : w.heap[M + 1]? = some (.cells #[.int .i64 what, .int .i64 n, .slice pa pl pc, .int .i64 wth] 95 (0, 0))
  h2 : w.heap[M + 2]? = some (.cells #[u0, u1, u2, u3, u4] 112 (0, 0))
structure C4 (w : World) (b : Nat) (v0 v1 v2 v3 : Value) : Prop where
  c0 : w.cell? ⟨b, 0, none⟩ = some v0
  c1 : w.cell? ⟨b, 1, none⟩ = some v1
  c2 : w.cell? ⟨b, 2, none⟩ = some v2
  c3 : w.cell? ⟨b, 3, none⟩ = some v3
theorem cl4 {w : World} {b : Nat} {v0 v1 v2 v3 : Value} {t : TypeId} (h : w.heap[b]? = some (.cells #[v0, v1, v2, v3] t (0, 0))) : C4 w b v0 v1 v2 v3 :=
  ⟨cell_of h, cell_of h, cell_of h, cell_of h⟩
variable {w w' : World} {N : Nat → Prop} {M b : Nat} {m : MM} {O : List UInt8} {what n : Int} {pa : Option Addr} {pl pc : Nat} {wth : Int} {u0 u1 u2 u3 u4 : Value}
theorem DM.keep (h : DM w M m O what n pa pl pc wth u0 u1 u2 u3 u4) {S : List Nat} (hf : Fr S w w') (hS : ∀ x ∈ S, x < M ∨ M + 2 < x) : DM w' M m O what n pa pl pc wth u0 u1 u2 u3 u4 :=
  ⟨hf.keep h.h0 (fun hx => by have := hS _ hx; omega), hf.keep h.h1 (fun hx => by have := hS _ hx; omega), hf.keep h.h2 (fun hx => by have := hS _ hx; omega)⟩
theorem DM.lt (h : DM w M m O what n pa pl pc wth u0 u1 u2 u3 u4) : M + 2 < w.heap.size := lt_of_heap h.h2

def DoPost (N : Nat → Prop) (b : Nat) (w : World) (e : Ending) (w' : World) : Prop :=
  ∃ (N' : Nat → Prop) (c : Nat) (m' : MM) (O' : List UInt8), e = .returned (.tuple #[.pointer (some ⟨c, 0, none⟩), refV m' O', .bool true]) ∧ (c = b ∨ w.heap.size ≤ c) ∧ Mt w' N' c m' ∧ OK12 m' O' ∧ Fr [b] w w' ∧ ∀ x, N' x → N x
/-- The stream next to a block that is stored into. -/
theorem Mt.set_ (h : Mt w N b m) {M : Nat} (hb : b ≠ M) (hN : ¬ N M) {i : Nat} {u : Value} : Mt (w.setCell ⟨M, i, none⟩ u) N b m :=
  h.keep (S := [M]) ((Fr.refl [M] w).setCell (.inl (by simp)) _) (by simpa using hb) (by simpa using hN)
theorem Mt.drew_ (h : Mt w N b m) : Mt w.drew N b m := h
theorem Mt.drewN_ (h : Mt w N b m) (k : Nat) : Mt (w.drewN k) N b m := h
/-- Behind do's boxes. -/
theorem do_start (h : Mt w N b m) (O : List UInt8) (what n : Int) (pa : Option Addr) (pl pc : Nat) (wth : Int) :
    ∃ w0, w0 = ((w.alloc (.cells #[.bool m.off, .string (st O), .int .i64 m.tk, .int .i64 m.w, .int .i64 m.r] 112)).alloc (.cells #[.int .i64 what, .int .i64 n, .slice pa pl pc, .int .i64 wth] 95)).alloc (.cells #[.bool false, .string { data := #[] }, .int .i64 0, .int .i64 0, .int .i64 0] 112) ∧
      DM w0 w.heap.size m O what n pa pl pc wth (.bool false) (.string { data := #[] }) (.int .i64 0) (.int .i64 0) (.int .i64 0) ∧ Fr [b] w w0 ∧ Fr [] w w0 ∧ Mt w0 (fun x => N x ∧ x ≠ w.heap.size + 2) b m ∧ b < w.heap.size ∧ w0.heap.size = w.heap.size + 3 := by
  refine ⟨_, rfl, ⟨keepA (keepA (newA rfl)), keepA (newA (by simp)), newA (by simp)⟩, (((Fr.refl _ _).alloc _).alloc _).alloc _, (((Fr.refl _ _).alloc _).alloc _).alloc _, h.narrow ((((Fr.refl _ _).alloc _).alloc _).alloc _) (by omega) (by simp), h.lt, by simp⟩

set_option maxHeartbeats 4000000 in
theorem do_result (h : Mt w N b m) (hO : OK12 m O) :
    Calls Try.prog 72 #[.pointer (some ⟨b, 0, none⟩), refV m O, .agg #[.int .i64 2, .int .i64 n, .slice pa pl pc, .int .i64 wth]] w (DoPost N b w) := by
  have C1 := fun (w0 : World) (N : Nat → Prop) (h0 : Mt w0 N b m) => result_mm h0
  have C2 := fun w0 => ref_result hO w0
  obtain ⟨T, hT⟩ : ∃ T, mResult m = T := ⟨_, rfl⟩
  have C2' : ∀ w0, Calls Try.prog 109 #[refV m O] w0 (RNPost T w0) := fun w0 => by
    rw [← hT]
    exact C2 w0
  rw [hT] at C1
  have HC1 := Lib.hid C1
  have HC2 := Lib.hid C2'
  clear C1 C2 C2' hT
  obtain ⟨⟨r2, w2_, off2, s2_, tk2⟩, nn, er⟩ := T
  unfold NPost at HC1
  unfold RNPost refV at HC2
  dsimp only at HC1 HC2
  have HO := Lib.hid hO
  clear hO
  obtain ⟨w0, e0, s0, g0, f0, h0, hbM, hz0⟩ := do_start h O 2 n pa pl pc wth
  have hNM : ¬ (fun x => N x ∧ x ≠ w.heap.size + 2) (w.heap.size + 2) := fun h => h.2 rfl
  have hN1 : ∀ x, (fun x => N x ∧ x ≠ w.heap.size + 2) x → N x := fun x h => h.1
  generalize (fun x => N x ∧ x ≠ w.heap.size + 2) = N1 at *
  clear h f0
  obtain ⟨r, wd, off, s, tk⟩ := m
  dsimp only at e0
  unfold refV
  dsimp only
  go_enter Try.func72, Try.ntmps72

  go_wp2_with fail
  rw [← e0]
  clear e0
  refine (HC1.out _ _ h0).mono ?_
  rintro e w1 ⟨rfl, f1, h1⟩
  have s1 := s0.keep f1 (by simp; omega)
  have g1 := g0.then f1
  have z1 := f1.size
  clear f1 s0 g0 h0
  obtain ⟨c0, c1, c2, c3, c4, _, _, _, _, _⟩ := c5 s1.h0
  dsimp only at c0 c1 c2 c3 c4
  obtain ⟨d0, d1, d2, d3⟩ := cl4 s1.h1
  go_wp2_with fail
  refine (HC2.out _).mono ?_
  rintro e w2 ⟨O2, rfl, K2, f2⟩
  have s2 := s1.keep f2 (by simp)
  have h2 := h1.keep0 f2
  have g2 := g1.then0 f2
  have z2 := f2.size
  clear f2 s1 h1 g1 c0 c1 c2 c3 c4 d0 d1 d2 d3
  have fv : Fr [] w2 (w2.alloc (.cells #[.bool off2, .string (st O2), .int .i64 tk2, .int .i64 w2_, .int .i64 r2] 112)) := (Fr.refl _ _).alloc _
  have sv := s2.keep fv (by simp)
  have hv := h2.keep0 fv
  have gv := g2.then0 fv
  have v0 : (w2.alloc (.cells #[.bool off2, .string (st O2), .int .i64 tk2, .int .i64 w2_, .int .i64 r2] 112)).heap[w2.heap.size]? = some (.cells #[.bool off2, .string (st O2), .int .i64 tk2, .int .i64 w2_, .int .i64 r2] 112 (0, 0)) := newA rfl
  obtain ⟨q0, q1, q2, q3, q4, _, _, _, _, _⟩ := c5 v0
  generalize hwv : w2.alloc (.cells #[.bool off2, .string (st O2), .int .i64 tk2, .int .i64 w2_, .int .i64 r2] 112) = wv at *
  clear fv v0 s2 h2 g2

  obtain ⟨e0, e1, e2, e3, e4, k0, k1, k2, k3, k4⟩ := c5 sv.h2
  go_wp2_with fail
  go_region
  go_wp2_with fail
  refine bodyPost_ret (v := .tuple #[.pointer (some ⟨b, 0, none⟩), .agg #[.bool off2, .string (st O2), .int .i64 tk2, .int .i64 w2_, .int .i64 r2], .bool true]) (by simp [results, Try.results72, go_sem, e0, e1, e2, e3, e4]) rfl ?_
  refine ⟨N1, b, _, _, rfl, .inl rfl, ?_, K2, ?_, hN1⟩
  · repeat first | (with_reducible exact hv) | (with_reducible refine Mt.drew_ ?_) | (with_reducible refine Mt.drewN_ ?_ _) | (with_reducible refine Mt.set_ ?_ (by omega) hNM)
  · repeat first | (with_reducible exact gv) | (with_reducible refine Fr.drew ?_) | (with_reducible refine Fr.drewN ?_ _) | (with_reducible refine Fr.setCell ?_ (.inr (by dsimp only; omega)) _)

set_option maxHeartbeats 4000000 in
theorem do_withdraw (h : Mt w N b m) (hO : OK12 m O) :
    Calls Try.prog 72 #[.pointer (some ⟨b, 0, none⟩), refV m O, .agg #[.int .i64 3, .int .i64 n, .slice pa pl pc, .int .i64 wth]] w (DoPost N b w) := by
  have C1 := fun (w0 : World) (N : Nat → Prop) (h0 : Mt w0 N b m) => withdraw_mm h0
  have C2 := fun w0 => ref_withdraw hO w0
  obtain ⟨T, hT⟩ : ∃ T, mWithdraw m = T := ⟨_, rfl⟩
  have C2' : ∀ w0, Calls Try.prog 110 #[refV m O] w0 (RNPost T w0) := fun w0 => by
    rw [← hT]
    exact C2 w0
  rw [hT] at C1
  have HC1 := Lib.hid C1
  have HC2 := Lib.hid C2'
  clear C1 C2 C2' hT
  obtain ⟨⟨r2, w2_, off2, s2_, tk2⟩, nn, er⟩ := T
  unfold NPost at HC1
  unfold RNPost refV at HC2
  dsimp only at HC1 HC2
  have HO := Lib.hid hO
  clear hO
  obtain ⟨w0, e0, s0, g0, f0, h0, hbM, hz0⟩ := do_start h O 3 n pa pl pc wth
  have hNM : ¬ (fun x => N x ∧ x ≠ w.heap.size + 2) (w.heap.size + 2) := fun h => h.2 rfl
  have hN1 : ∀ x, (fun x => N x ∧ x ≠ w.heap.size + 2) x → N x := fun x h => h.1
  generalize (fun x => N x ∧ x ≠ w.heap.size + 2) = N1 at *
  clear h f0
  obtain ⟨r, wd, off, s, tk⟩ := m
  dsimp only at e0
  unfold refV
  dsimp only
  go_enter Try.func72, Try.ntmps72

  go_wp2_with fail
  rw [← e0]
  clear e0
  refine (HC1.out _ _ h0).mono ?_
  rintro e w1 ⟨rfl, f1, h1⟩
  have s1 := s0.keep f1 (by simp; omega)
  have g1 := g0.then f1
  have z1 := f1.size
  clear f1 s0 g0 h0
  obtain ⟨c0, c1, c2, c3, c4, _, _, _, _, _⟩ := c5 s1.h0
  dsimp only at c0 c1 c2 c3 c4
  obtain ⟨d0, d1, d2, d3⟩ := cl4 s1.h1
  go_wp2_with fail
  refine (HC2.out _).mono ?_
  rintro e w2 ⟨O2, rfl, K2, f2⟩
  have s2 := s1.keep f2 (by simp)
  have h2 := h1.keep0 f2
  have g2 := g1.then0 f2
  have z2 := f2.size
  clear f2 s1 h1 g1 c0 c1 c2 c3 c4 d0 d1 d2 d3
  have fv : Fr [] w2 (w2.alloc (.cells #[.bool off2, .string (st O2), .int .i64 tk2, .int .i64 w2_, .int .i64 r2] 112)) := (Fr.refl _ _).alloc _
  have sv := s2.keep fv (by simp)
  have hv := h2.keep0 fv
  have gv := g2.then0 fv
  have v0 : (w2.alloc (.cells #[.bool off2, .string (st O2), .int .i64 tk2, .int .i64 w2_, .int .i64 r2] 112)).heap[w2.heap.size]? = some (.cells #[.bool off2, .string (st O2), .int .i64 tk2, .int .i64 w2_, .int .i64 r2] 112 (0, 0)) := newA rfl
  obtain ⟨q0, q1, q2, q3, q4, _, _, _, _, _⟩ := c5 v0
  generalize hwv : w2.alloc (.cells #[.bool off2, .string (st O2), .int .i64 tk2, .int .i64 w2_, .int .i64 r2] 112) = wv at *
  clear fv v0 s2 h2 g2

  obtain ⟨e0, e1, e2, e3, e4, k0, k1, k2, k3, k4⟩ := c5 sv.h2
  go_wp2_with fail
  go_region
  go_wp2_with fail
  refine bodyPost_ret (v := .tuple #[.pointer (some ⟨b, 0, none⟩), .agg #[.bool off2, .string (st O2), .int .i64 tk2, .int .i64 w2_, .int .i64 r2], .bool true]) (by simp [results, Try.results72, go_sem, e0, e1, e2, e3, e4]) rfl ?_
  refine ⟨N1, b, _, _, rfl, .inl rfl, ?_, K2, ?_, hN1⟩
  · repeat first | (with_reducible exact hv) | (with_reducible refine Mt.drew_ ?_) | (with_reducible refine Mt.drewN_ ?_ _) | (with_reducible refine Mt.set_ ?_ (by omega) hNM)
  · repeat first | (with_reducible exact gv) | (with_reducible refine Fr.drew ?_) | (with_reducible refine Fr.drewN ?_ _) | (with_reducible refine Fr.setCell ?_ (.inr (by dsimp only; omega)) _)

set_option maxHeartbeats 4000000 in
theorem do_closew (h : Mt w N b m) (hO : OK12 m O) (hw : -9223372036854775808 ≤ wth ∧ wth ≤ 9223372036854775807) :
    Calls Try.prog 72 #[.pointer (some ⟨b, 0, none⟩), refV m O, .agg #[.int .i64 4, .int .i64 n, .slice pa pl pc, .int .i64 wth]] w (DoPost N b w) := by
  have C1 := fun (w0 : World) (N : Nat → Prop) (h0 : Mt w0 N b m) => closew_mm h0 wth
  have C2 := fun w0 => ref_closew hO hw w0
  obtain ⟨T, hT⟩ : ∃ T, mCloseW m wth = T := ⟨_, rfl⟩
  have C2' : ∀ w0, Calls Try.prog 111 #[refV m O, .int .i64 wth] w0 (RPost T w0) := fun w0 => by
    rw [← hT]
    exact C2 w0
  rw [hT] at C1
  have HC1 := Lib.hid C1
  have HC2 := Lib.hid C2'
  clear C1 C2 C2' hT hw
  obtain ⟨⟨r2, w2_, off2, s2_, tk2⟩, er⟩ := T
  unfold EPost at HC1
  unfold RPost refV at HC2
  dsimp only at HC1 HC2
  have HO := Lib.hid hO
  clear hO
  obtain ⟨w0, e0, s0, g0, f0, h0, hbM, hz0⟩ := do_start h O 4 n pa pl pc wth
  have hNM : ¬ (fun x => N x ∧ x ≠ w.heap.size + 2) (w.heap.size + 2) := fun h => h.2 rfl
  have hN1 : ∀ x, (fun x => N x ∧ x ≠ w.heap.size + 2) x → N x := fun x h => h.1
  generalize (fun x => N x ∧ x ≠ w.heap.size + 2) = N1 at *
  clear h f0
  obtain ⟨r, wd, off, s, tk⟩ := m
  dsimp only at e0
  unfold refV
  dsimp only
  go_enter Try.func72, Try.ntmps72

  go_wp2_with fail
  rw [← e0]
  clear e0
  refine (HC1.out _ _ h0).mono ?_
  rintro e w1 ⟨rfl, f1, h1⟩
  have s1 := s0.keep f1 (by simp; omega)
  have g1 := g0.then f1
  have z1 := f1.size
  clear f1 s0 g0 h0
  obtain ⟨c0, c1, c2, c3, c4, _, _, _, _, _⟩ := c5 s1.h0
  dsimp only at c0 c1 c2 c3 c4
  obtain ⟨d0, d1, d2, d3⟩ := cl4 s1.h1
  go_wp2_with fail
  refine (HC2.out _).mono ?_
  rintro e w2 ⟨O2, rfl, K2, f2⟩
  have s2 := s1.keep f2 (by simp)
  have h2 := h1.keep0 f2
  have g2 := g1.then0 f2
  have z2 := f2.size
  clear f2 s1 h1 g1 c0 c1 c2 c3 c4 d0 d1 d2 d3
  have fv : Fr [] w2 (w2.alloc (.cells #[.bool off2, .string (st O2), .int .i64 tk2, .int .i64 w2_, .int .i64 r2] 112)) := (Fr.refl _ _).alloc _
  have sv := s2.keep fv (by simp)
  have hv := h2.keep0 fv
  have gv := g2.then0 fv
  have v0 : (w2.alloc (.cells #[.bool off2, .string (st O2), .int .i64 tk2, .int .i64 w2_, .int .i64 r2] 112)).heap[w2.heap.size]? = some (.cells #[.bool off2, .string (st O2), .int .i64 tk2, .int .i64 w2_, .int .i64 r2] 112 (0, 0)) := newA rfl
  obtain ⟨q0, q1, q2, q3, q4, _, _, _, _, _⟩ := c5 v0
  generalize hwv : w2.alloc (.cells #[.bool off2, .string (st O2), .int .i64 tk2, .int .i64 w2_, .int .i64 r2] 112) = wv at *
  clear fv v0 s2 h2 g2

  obtain ⟨e0, e1, e2, e3, e4, k0, k1, k2, k3, k4⟩ := c5 sv.h2
  go_wp2_with fail
  go_region
  go_wp2_with fail
  refine bodyPost_ret (v := .tuple #[.pointer (some ⟨b, 0, none⟩), .agg #[.bool off2, .string (st O2), .int .i64 tk2, .int .i64 w2_, .int .i64 r2], .bool true]) (by simp [results, Try.results72, go_sem, e0, e1, e2, e3, e4]) rfl ?_
  refine ⟨N1, b, _, _, rfl, .inl rfl, ?_, K2, ?_, hN1⟩
  · repeat first | (with_reducible exact hv) | (with_reducible refine Mt.drew_ ?_) | (with_reducible refine Mt.drewN_ ?_ _) | (with_reducible refine Mt.set_ ?_ (by omega) hNM)
  · repeat first | (with_reducible exact gv) | (with_reducible refine Fr.drew ?_) | (with_reducible refine Fr.drewN ?_ _) | (with_reducible refine Fr.setCell ?_ (.inr (by dsimp only; omega)) _)

set_option maxHeartbeats 4000000 in
theorem do_closer (h : Mt w N b m) (hO : OK12 m O) (hw : -9223372036854775808 ≤ wth ∧ wth ≤ 9223372036854775807) :
    Calls Try.prog 72 #[.pointer (some ⟨b, 0, none⟩), refV m O, .agg #[.int .i64 5, .int .i64 n, .slice pa pl pc, .int .i64 wth]] w (DoPost N b w) := by
  have C1 := fun (w0 : World) (N : Nat → Prop) (h0 : Mt w0 N b m) => closer_mm h0 wth
  have C2 := fun w0 => ref_closer hO hw w0
  obtain ⟨T, hT⟩ : ∃ T, mCloseR m wth = T := ⟨_, rfl⟩
  have C2' : ∀ w0, Calls Try.prog 112 #[refV m O, .int .i64 wth] w0 (RPost T w0) := fun w0 => by
    rw [← hT]
    exact C2 w0
  rw [hT] at C1
  have HC1 := Lib.hid C1
  have HC2 := Lib.hid C2'
  clear C1 C2 C2' hT hw
  obtain ⟨⟨r2, w2_, off2, s2_, tk2⟩, er⟩ := T
  unfold EPost at HC1
  unfold RPost refV at HC2
  dsimp only at HC1 HC2
  have HO := Lib.hid hO
  clear hO
  obtain ⟨w0, e0, s0, g0, f0, h0, hbM, hz0⟩ := do_start h O 5 n pa pl pc wth
  have hNM : ¬ (fun x => N x ∧ x ≠ w.heap.size + 2) (w.heap.size + 2) := fun h => h.2 rfl
  have hN1 : ∀ x, (fun x => N x ∧ x ≠ w.heap.size + 2) x → N x := fun x h => h.1
  generalize (fun x => N x ∧ x ≠ w.heap.size + 2) = N1 at *
  clear h f0
  obtain ⟨r, wd, off, s, tk⟩ := m
  dsimp only at e0
  unfold refV
  dsimp only
  go_enter Try.func72, Try.ntmps72

  go_wp2_with fail
  rw [← e0]
  clear e0
  refine (HC1.out _ _ h0).mono ?_
  rintro e w1 ⟨rfl, f1, h1⟩
  have s1 := s0.keep f1 (by simp; omega)
  have g1 := g0.then f1
  have z1 := f1.size
  clear f1 s0 g0 h0
  obtain ⟨c0, c1, c2, c3, c4, _, _, _, _, _⟩ := c5 s1.h0
  dsimp only at c0 c1 c2 c3 c4
  obtain ⟨d0, d1, d2, d3⟩ := cl4 s1.h1
  go_wp2_with fail
  refine (HC2.out _).mono ?_
  rintro e w2 ⟨O2, rfl, K2, f2⟩
  have s2 := s1.keep f2 (by simp)
  have h2 := h1.keep0 f2
  have g2 := g1.then0 f2
  have z2 := f2.size
  clear f2 s1 h1 g1 c0 c1 c2 c3 c4 d0 d1 d2 d3
  have fv : Fr [] w2 (w2.alloc (.cells #[.bool off2, .string (st O2), .int .i64 tk2, .int .i64 w2_, .int .i64 r2] 112)) := (Fr.refl _ _).alloc _
  have sv := s2.keep fv (by simp)
  have hv := h2.keep0 fv
  have gv := g2.then0 fv
  have v0 : (w2.alloc (.cells #[.bool off2, .string (st O2), .int .i64 tk2, .int .i64 w2_, .int .i64 r2] 112)).heap[w2.heap.size]? = some (.cells #[.bool off2, .string (st O2), .int .i64 tk2, .int .i64 w2_, .int .i64 r2] 112 (0, 0)) := newA rfl
  obtain ⟨q0, q1, q2, q3, q4, _, _, _, _, _⟩ := c5 v0
  generalize hwv : w2.alloc (.cells #[.bool off2, .string (st O2), .int .i64 tk2, .int .i64 w2_, .int .i64 r2] 112) = wv at *
  clear fv v0 s2 h2 g2

  obtain ⟨e0, e1, e2, e3, e4, k0, k1, k2, k3, k4⟩ := c5 sv.h2
  go_wp2_with fail
  go_region
  go_wp2_with fail
  refine bodyPost_ret (v := .tuple #[.pointer (some ⟨b, 0, none⟩), .agg #[.bool off2, .string (st O2), .int .i64 tk2, .int .i64 w2_, .int .i64 r2], .bool true]) (by simp [results, Try.results72, go_sem, e0, e1, e2, e3, e4]) rfl ?_
  refine ⟨N1, b, _, _, rfl, .inl rfl, ?_, K2, ?_, hN1⟩
  · repeat first | (with_reducible exact hv) | (with_reducible refine Mt.drew_ ?_) | (with_reducible refine Mt.drewN_ ?_ _) | (with_reducible refine Mt.set_ ?_ (by omega) hNM)
  · repeat first | (with_reducible exact gv) | (with_reducible refine Fr.drew ?_) | (with_reducible refine Fr.drewN ?_ _) | (with_reducible refine Fr.setCell ?_ (.inr (by dsimp only; omega)) _)

theorem Mt.out {w : World} {N : Nat → Prop} {b : Nat} {m : MM} (h : Mt w N b m) : ¬ N b := by
  obtain ⟨_, _, _, _, _, _, h, _⟩ := h
  exact h
set_option maxHeartbeats 4000000 in
theorem do_copy (h : Mt w N b m) (hO : OK12 m O) (q0 : what ≠ 0) (q1 : what ≠ 1) (q2 : what ≠ 2) (q3 : what ≠ 3) (q4 : what ≠ 4) (q5 : what ≠ 5) :
    Calls Try.prog 72 #[.pointer (some ⟨b, 0, none⟩), refV m O, .agg #[.int .i64 what, .int .i64 n, .slice pa pl pc, .int .i64 wth]] w (DoPost N b w) := by
  have b0 : (what == 0) = false := by simpa using q0
  have b1 : (what == 1) = false := by simpa using q1
  have b2 : (what == 2) = false := by simpa using q2
  have b3 : (what == 3) = false := by simpa using q3
  have b4 : (what == 4) = false := by simpa using q4
  have b5 : (what == 5) = false := by simpa using q5
  have HO := Lib.hid hO
  clear hO
  obtain ⟨w0, e0, s0, g0, f0, h0, hbM, hz0⟩ := do_start h O what n pa pl pc wth
  have hNM : ¬ (fun x => N x ∧ x ≠ w.heap.size + 2) (w.heap.size + 2) := fun h => h.2 rfl
  have hN1 : ∀ x, (fun x => N x ∧ x ≠ w.heap.size + 2) x → N x := fun x h => h.1
  generalize (fun x => N x ∧ x ≠ w.heap.size + 2) = N1 at *
  clear h f0
  obtain ⟨r, wd, off, s, tk⟩ := m
  dsimp only at e0
  unfold refV
  dsimp only
  go_enter Try.func72, Try.ntmps72

  go_wp2_with fail
  rw [← e0]
  clear e0
  refine (copy_mm h0).mono ?_
  rintro e w1 ⟨c, rfl, f1, hc, h1, hC⟩
  have s1 := s0.keep f1 (by simp)
  have g1 := g0.then0 f1
  have z1 := f1.size
  have hcl := hC.lt
  have hNb : ¬ (fun x => N1 x ∧ x ≠ c) b := h1.out
  have hN2 : ∀ x, (fun x => N1 x ∧ x ≠ c) x → N x := fun x h => hN1 x h.1
  have hNM1 : ¬ (fun x => N1 x ∧ x ≠ c) (w.heap.size + 2) := fun h => hNM h.1
  have hM3 := s1.lt
  generalize (fun x => N1 x ∧ x ≠ c) = N2 at *
  clear f1 s0 g0 h0
  have hcb : c ≠ b := by omega
  have hcS : ∀ x ∈ [b], ¬ N2 x := by simpa using hNb
  go_wp2_with fail
  refine (take_mm h1 1).mono ?_
  rintro e w2 ⟨u, rfl, f, _, h2⟩
  have s2 := s1.keep f (by simp; omega)
  have g2 := g1.then f
  have z2 := f.size
  replace hC := hC.keep f (by simpa using hcb) hcS
  clear f s1 g1 h1
  go_wp2_with fail
  refine (withdraw_mm h2).mono ?_
  rintro e w3 ⟨rfl, f, h3⟩
  have s3 := s2.keep f (by simp; omega)
  have g3 := g2.then f
  have z3 := f.size
  replace hC := hC.keep f (by simpa using hcb) hcS
  clear f s2 g2 h2
  go_wp2_with fail
  refine (closer_mm h3 8).mono ?_
  rintro e w4 ⟨rfl, f, h4⟩
  have s4 := s3.keep f (by simp; omega)
  have g4 := g3.then f
  have z4 := f.size
  replace hC := hC.keep f (by simpa using hcb) hcS
  clear f s3 g3 h3
  obtain ⟨c0, c1, c2, c3, c4, _, _, _, _, _⟩ := c5 s4.h0
  dsimp only at c0 c1 c2 c3 c4
  obtain ⟨e0, e1, e2, e3, e4, k0, k1, k2, k3, k4⟩ := c5 s4.h2
  have hNM := hNM1
  go_wp2_with fail
  go_region
  go_wp2_with fail
  refine bodyPost_ret (v := .tuple #[.pointer (some ⟨c, 0, none⟩), .agg #[.bool off, .string (st O), .int .i64 tk, .int .i64 wd, .int .i64 r], .bool true]) (by simp [results, Try.results72, go_sem, e0, e1, e2, e3, e4]) rfl ?_
  refine ⟨N2, c, _, _, rfl, .inr (by omega), ?_, HO.out, ?_, hN2⟩
  · repeat first | (with_reducible exact hC) | (with_reducible refine Mt.drew_ ?_) | (with_reducible refine Mt.drewN_ ?_ _) | (with_reducible refine Mt.set_ ?_ (by omega) hNM)
  · repeat first | (with_reducible exact g4) | (with_reducible refine Fr.drew ?_) | (with_reducible refine Fr.drewN ?_ _) | (with_reducible refine Fr.setCell ?_ (.inr (by dsimp only; omega)) _)

theorem Mt.fresh {w : World} {N : Nat → Prop} {b : Nat} {m : MM} (h : Mt w N b m) : ∀ x, w.heap.size ≤ x → N x := by
  obtain ⟨_, _, _, _, _, _, _, h, _⟩ := h
  exact h
set_option maxHeartbeats 4000000 in
theorem do_take (h : Mt w N b m) (hO : OK12 m O) (hn : -9223372036854775808 ≤ n ∧ n ≤ 9223372036854775807) :
    Calls Try.prog 72 #[.pointer (some ⟨b, 0, none⟩), refV m O, .agg #[.int .i64 1, .int .i64 n, .slice pa pl pc, .int .i64 wth]] w (DoPost N b w) := by
  have C1 := fun (w0 : World) (N : Nat → Prop) (h0 : Mt w0 N b m) => take_mm2 h0 n
  have C2 := fun w0 => ref_take hO hn w0
  obtain ⟨T, hT⟩ : ∃ T, mTake m n = T := ⟨_, rfl⟩
  have C2' : ∀ w0, Calls Try.prog 108 #[refV m O, .int .i64 n] w0 (RTPost T w0) := fun w0 => by
    rw [← hT]
    exact C2 w0
  rw [hT] at C1
  have HC1 := Lib.hid C1
  have HC2 := Lib.hid C2'
  clear C1 C2 C2' hT hn
  obtain ⟨⟨r2, w2_, off2, s2_, tk2⟩, out, er⟩ := T
  unfold TkPost2 at HC1
  unfold RTPost refV at HC2
  dsimp only at HC1 HC2
  have HO := Lib.hid hO
  clear hO
  obtain ⟨w0, e0, s0, g0, f0, h0, hbM, hz0⟩ := do_start h O 1 n pa pl pc wth
  have hNM : ¬ (fun x => N x ∧ x ≠ w.heap.size + 2) (w.heap.size + 2) := fun h => h.2 rfl
  have hN1 : ∀ x, (fun x => N x ∧ x ≠ w.heap.size + 2) x → N x := fun x h => h.1
  generalize (fun x => N x ∧ x ≠ w.heap.size + 2) = N1 at *
  clear h f0
  obtain ⟨r, wd, off, s, tk⟩ := m
  dsimp only at e0
  unfold refV
  dsimp only
  go_enter Try.func72, Try.ntmps72

  go_wp2_with fail
  rw [← e0]
  clear e0
  refine (HC1.out _ _ h0).mono ?_
  rintro e w1 ⟨u, K, rfl, f1, hK, ob, h1⟩
  have s1 := s0.keep f1 (by simp; omega)
  have g1 := g0.then f1
  have z1 := f1.size
  have hN2 : ∀ x, (fun x => N1 x ∧ (x < K ∨ w1.heap.size ≤ x)) x → N x := fun x h => hN1 x h.1
  have hNM2 : ¬ (fun x => N1 x ∧ (x < K ∨ w1.heap.size ≤ x)) (w.heap.size + 2) := fun h => hNM h.1
  have hNK : ∀ g, K ≤ g → g < w1.heap.size → ¬ (fun x => N1 x ∧ (x < K ∨ w1.heap.size ≤ x)) g := fun g h1 h2 h => by have := h.2; omega
  have hog := ob.lt
  generalize (fun x => N1 x ∧ (x < K ∨ w1.heap.size ≤ x)) = N2 at *
  clear f1 s0 g0 h0
  obtain ⟨c0, c1, c2, c3, c4, _, _, _, _, _⟩ := c5 s1.h0
  dsimp only at c0 c1 c2 c3 c4
  obtain ⟨d0, d1, d2, d3⟩ := cl4 s1.h1
  go_wp2_with fail
  refine (HC2.out _).mono ?_
  rintro e w2 ⟨O2, rfl, K2, f2⟩
  have s2 := s1.keep f2 (by simp)
  have h2 := h1.keep0 f2
  have g2 := g1.then0 f2
  have z2 := f2.size
  have o2 := ob.keep f2 (by simp)
  clear f2 s1 h1 g1 c0 c1 c2 c3 c4 d0 d1 d2 d3 ob
  have fv : Fr [] w2 (w2.alloc (.cells #[.bool off2, .string (st O2), .int .i64 tk2, .int .i64 w2_, .int .i64 r2] 112)) := (Fr.refl _ _).alloc _
  have sv := s2.keep fv (by simp)
  have hv := h2.keep0 fv
  have gv := g2.then0 fv
  have ov := o2.keep fv (by simp)
  have v0 : (w2.alloc (.cells #[.bool off2, .string (st O2), .int .i64 tk2, .int .i64 w2_, .int .i64 r2] 112)).heap[w2.heap.size]? = some (.cells #[.bool off2, .string (st O2), .int .i64 tk2, .int .i64 w2_, .int .i64 r2] 112 (0, 0)) := newA rfl
  generalize hwv : w2.alloc (.cells #[.bool off2, .string (st O2), .int .i64 tk2, .int .i64 w2_, .int .i64 r2] 112) = wv at *
  clear fv s2 h2 g2 o2
  obtain ⟨ga, gc, rfl, hgc1, hgc2, hsl, _⟩ := ov.formB
  have hcv := conv_st (cap := gc) hsl rfl
  have hol : out.length ≤ gc ∧ gc ≤ maxLen := ⟨hgc1, hgc2⟩
  have ol : (out.length : Int) ≤ 9223372036854775807 := by unfold maxLen at hol; omega
  clear hsl hgc1 hgc2 hol
  go_wp2_with fail
  go_loopw [18, 85] (fun s18 s85 wr => ∃ (k : Nat) (xs : List Int), k ≤ out.length ∧ s85 = .int .i64 k ∧ xs.length = out.length ∧ Ow wr K 5 (.slice ga out.length gc) (xs.map (Value.int .u8)) ∧ Fr (Value.ownBlock (.slice ga out.length gc)).toList wv wr) (fun _ i _ => out.length - (intOf i).toNat)
  case atStart => exact ⟨0, bi out, by omega, rfl, bi_length out, ov, Fr.refl _ _⟩
  case round =>
    obtain ⟨k, xs, hk, rfl, hxl, hox, fr⟩ := hrel
    clear hcv
    by_cases hlt : (k : Int) < out.length
    · obtain ⟨g, cap, hve, _, _, _, hgl, hcell, hfree⟩ := hox.row (by rw [List.length_map]; omega)
      have hkx : k < xs.length := by omega
      have hc := hcell k (by rw [List.length_map]; omega)
      rw [List.getElem?_map, List.getElem?_eq_getElem hkx] at hc
      have hf := hfree k
      simp only [Value.slice.injEq] at hve
      obtain ⟨rfl, hve2, rfl⟩ := hve
      clear hve2
      have hset := hox.set k (.int .u8 (IntKind.u8.wrap (xs[k] + 1)))
      rw [← List.map_set] at hset
      have hfr2 := fr.setCell (p := ⟨g, k, none⟩) (.inl (by show g ∈ [g]; simp)) (.int .u8 (IntKind.u8.wrap (xs[k] + 1)))
      simp only [Option.map_some] at hc
      generalize xs[k] = x at hc hset hfr2
      have HXL := Lib.hid hxl
      have HST := Lib.hid (And.intro hset hfr2)
      clear hcell hfree hox fr hset hfr2 hog ov hxl hNK v0 hkx
      go_wp2_with fail
      go_roundw
      case rel => exact ⟨k + 1, _, by omega, by go_num, by rw [List.length_set]; exact HXL.out, HST.out.1, HST.out.2⟩
      case measure => simp [intOf]; omega
    · have hS : ∀ x ∈ (Value.ownBlock (.slice ga out.length gc)).toList, K ≤ x ∧ x < w1.heap.size := fun x hx => hog x (by simpa using hx)
      have hM3 := sv.lt
      have hv2 := lt_of_heap v0
      have sr := sv.keep fr (fun x hx => by have := hS x hx; omega)
      have hr := hv.keep fr (fun hx => by have := hS _ hx; omega) (fun x hx => hNK x (hS x hx).1 (hS x hx).2)
      have gr : Fr [b] w wr := gv.trans fr (fun x hx => .inl hx) (fun x hx => .inr (by have := hS x hx; omega))
      have vr := fr.keep v0 (fun hx => by have := hS _ hx; omega)
      obtain ⟨q0, q1, q2, q3, q4, _, _, _, _, _⟩ := c5 vr
      have hNM := hNM2
      clear hox fr sv hv gv v0 ov hog hNK hS
      obtain ⟨e0, e1, e2, e3, e4, k0, k1, k2, k3, k4⟩ := c5 sr.h2
      go_wp2_with fail
      go_region
      go_wp2_with fail
      refine bodyPost_ret (v := .tuple #[.pointer (some ⟨b, 0, none⟩), .agg #[.bool off2, .string (st O2), .int .i64 tk2, .int .i64 w2_, .int .i64 r2], .bool true]) (by simp [results, Try.results72, go_sem, e0, e1, e2, e3, e4]) rfl ?_
      refine ⟨N2, b, _, _, rfl, .inl rfl, ?_, K2, ?_, hN2⟩
      · repeat first | (with_reducible exact hr) | (with_reducible refine Mt.drew_ ?_) | (with_reducible refine Mt.drewN_ ?_ _) | (with_reducible refine Mt.set_ ?_ (by omega) hNM)
      · repeat first | (with_reducible exact gr) | (with_reducible refine Fr.drew ?_) | (with_reducible refine Fr.drewN ?_ _) | (with_reducible refine Fr.setCell ?_ (.inr (by dsimp only; omega)) _)

end Go.Proofs.Ytpkgjgfdobcboaa
