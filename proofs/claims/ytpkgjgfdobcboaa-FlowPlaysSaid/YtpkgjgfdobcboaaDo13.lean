/-
  law 13's do: one call for the stream and for the reference.
-/
import Derived.Test.YtpkgjgfdobcboaaRef13
import Derived.Test.YtpkgjgfdobcboaaDo12
import Derived.Test.YtpkgjgfdobcboaaActs13
namespace Go.Proofs.Ytpkgjgfdobcboaa
open Go.RowKit
set_option maxRecDepth 100000

/-- What do keeps: the reference's stream, the call, and the variable of the result. -/
structure DF (w : World) (M : Nat) (m : FM) (what n : Int) (pa : Option Addr) (pl pc : Nat) (wth : Int) (u0 u1 u2 u3 : Value) : Prop where
  h0 : w.heap[M]? = some (.cells #[.int .i64 m.c, .string (st m.s), .int .i64 m.w, .int .i64 m.r] 132 (0, 0))
  h1 : w.heap[M + 1]? = some (.cells #[.int .i64 what, .int .i64 n, .slice pa pl pc, .int .i64 wth] 121 (0, 0))
  h2 : w.heap[M + 2]? = some (.cells #[u0, u1, u2, u3] 132 (0, 0))
structure F4 (w : World) (b : Nat) (v0 v1 v2 v3 : Value) : Prop where
  c0 : w.cell? ⟨b, 0, none⟩ = some v0
  c1 : w.cell? ⟨b, 1, none⟩ = some v1
  c2 : w.cell? ⟨b, 2, none⟩ = some v2
  c3 : w.cell? ⟨b, 3, none⟩ = some v3
  f0 : w.frozen? ⟨b, 0, none⟩ = false
  f1 : w.frozen? ⟨b, 1, none⟩ = false
  f2 : w.frozen? ⟨b, 2, none⟩ = false
  f3 : w.frozen? ⟨b, 3, none⟩ = false
theorem fl4 {w : World} {b : Nat} {v0 v1 v2 v3 : Value} {t : TypeId} (h : w.heap[b]? = some (.cells #[v0, v1, v2, v3] t (0, 0))) : F4 w b v0 v1 v2 v3 :=
  ⟨cell_of h, cell_of h, cell_of h, cell_of h, free_of h, free_of h, free_of h, free_of h⟩
theorem set4 {w : World} {B : Nat} {c0 c1 c2 c3 u0 u1 u2 u3 : Value} {t : TypeId} {f : Nat × Nat} (h : w.heap[B]? = some (.cells #[c0, c1, c2, c3] t f)) : ((((w.setCell ⟨B, 0, none⟩ u0).setCell ⟨B, 1, none⟩ u1).setCell ⟨B, 2, none⟩ u2).setCell ⟨B, 3, none⟩ u3).heap[B]? = some (.cells #[u0, u1, u2, u3] t f) := by
  have h1 := heap_setCell_eq (i := 3) (u := u3) (heap_setCell_eq (i := 2) (u := u2) (heap_setCell_eq (i := 1) (u := u1) (heap_setCell_eq (i := 0) (u := u0) h)))
  simpa using h1
variable {w w' : World} {M b R D : Nat} {m : FM} {what n : Int} {pa : Option Addr} {pl pc : Nat} {wth : Int} {u0 u1 u2 u3 : Value}
theorem DF.keep (h : DF w M m what n pa pl pc wth u0 u1 u2 u3) {S : List Nat} (hf : Fr S w w') (hS : ∀ x ∈ S, x < M ∨ M + 2 < x) : DF w' M m what n pa pl pc wth u0 u1 u2 u3 :=
  ⟨hf.keep h.h0 (fun hx => by have := hS _ hx; omega), hf.keep h.h1 (fun hx => by have := hS _ hx; omega), hf.keep h.h2 (fun hx => by have := hS _ hx; omega)⟩
theorem DF.lt (h : DF w M m what n pa pl pc wth u0 u1 u2 u3) : M + 2 < w.heap.size := lt_of_heap h.h2

def DfPost (b R D : Nat) (w : World) (e : Ending) (w' : World) : Prop :=
  ∃ (b' R' D' : Nat) (m' : FM), e = .returned (.tuple #[.pointer (some ⟨b', 0, none⟩), refF m', .bool true]) ∧ ((b' = b ∧ R' = R ∧ D' = D) ∨ (w.heap.size ≤ b' ∧ w.heap.size ≤ R' ∧ w.heap.size ≤ D')) ∧ Fl w' b' R' D' m' ∧ Fr [b, R, D] w w'
theorem Fl.set_ (h : Fl w b R D m) {M : Nat} (h1 : b ≠ M) (h2 : R ≠ M) (h3 : D ≠ M) {i : Nat} {u : Value} : Fl (w.setCell ⟨M, i, none⟩ u) b R D m :=
  h.keep (S := [M]) ((Fr.refl [M] w).setCell (.inl (by simp)) _) (by simpa using h1) (by simpa using h2) (by simpa using h3)
theorem Fl.drew_ (h : Fl w b R D m) : Fl w.drew b R D m := h.keep0 ((Fr.refl _ _).drew)
theorem Fl.drewN_ (h : Fl w b R D m) (k : Nat) : Fl (w.drewN k) b R D m := h.keep0 ((Fr.refl _ _).drewN k)
/-- Behind do's boxes. -/
theorem df_start (h : Fl w b R D m) (what n : Int) (pa : Option Addr) (pl pc : Nat) (wth : Int) :
    ∃ w0, w0 = ((w.alloc (.cells #[.int .i64 m.c, .string (st m.s), .int .i64 m.w, .int .i64 m.r] 132)).alloc (.cells #[.int .i64 what, .int .i64 n, .slice pa pl pc, .int .i64 wth] 121)).alloc (.cells #[.int .i64 0, .string { data := #[] }, .int .i64 0, .int .i64 0] 132) ∧
      DF w0 w.heap.size m what n pa pl pc wth (.int .i64 0) (.string { data := #[] }) (.int .i64 0) (.int .i64 0) ∧ Fr [b, R, D] w w0 ∧ Fr [] w w0 ∧ Fl w0 b R D m ∧ (b < w.heap.size ∧ R < w.heap.size ∧ D < w.heap.size) ∧ w0.heap.size = w.heap.size + 3 ∧ (m.s.length ≤ m.c ∧ m.c ≤ 4096) := by
  have hb := h.bd
  exact ⟨_, rfl, ⟨keepA (keepA (newA rfl)), keepA (newA (by simp)), newA (by simp)⟩, (((Fr.refl _ _).alloc _).alloc _).alloc _, (((Fr.refl _ _).alloc _).alloc _).alloc _, h.keep0 ((((Fr.refl _ _).alloc _).alloc _).alloc _), ⟨by omega, by omega, by omega⟩, by simp, ⟨by omega, by omega⟩⟩

set_option maxHeartbeats 4000000 in
theorem df_closew (h : Fl w b R D m) :
    Calls Try.prog 88 #[.pointer (some ⟨b, 0, none⟩), refF m, .agg #[.int .i64 2, .int .i64 n, .slice pa pl pc, .int .i64 wth]] w (DfPost b R D w) := by
  have C1 := fun (w0 : World) (h0 : Fl w0 b R D m) => flow_closew h0 wth
  have C2 : ∀ w0, Calls Try.prog 117 #[refF m, .int .i64 wth] w0 (QEPost (fCloseW m wth) w0) := fun w0 => ref13_closew w0
  obtain ⟨T, hT⟩ : ∃ T, fCloseW m wth = T := ⟨_, rfl⟩
  rw [hT] at C1 C2
  have HC1 := Lib.hid C1
  have HC2 := Lib.hid C2
  clear C1 C2 hT
  obtain ⟨⟨c2_, s2_, w2_, r2⟩, er⟩ := T
  unfold FEPost at HC1
  unfold QEPost refF at HC2
  dsimp only at HC1 HC2
  obtain ⟨w0, e0, s0, g0, f0, h0, ⟨hb1, hb2, hb3⟩, hz0, hsc, hc4⟩ := df_start h 2 n pa pl pc wth
  clear h f0
  obtain ⟨c, s, wd, r⟩ := m
  dsimp only at e0 hsc hc4
  unfold refF
  dsimp only
  go_enter Try.func88, Try.ntmps88
  go_wp2_with fail
  rw [← e0]
  clear e0
  refine (HC1.out _ h0).mono ?_
  rintro e w1 ⟨rfl, f1, h1⟩
  have s1 := s0.keep f1 (by simp; omega)
  have g1 := g0.then f1
  have z1 := f1.size
  clear f1 s0 g0 h0
  obtain ⟨c0, c1, c2, c3, _, _, _, _⟩ := fl4 s1.h0
  dsimp only at c0 c1 c2 c3
  obtain ⟨d0, d1, d2, d3, _, _, _, _⟩ := fl4 s1.h1
  go_wp2_with fail
  refine (HC2.out _).mono ?_
  rintro e w2 ⟨rfl, f2⟩
  have s2 := s1.keep f2 (by simp)
  have h2 := h1.keep0 f2
  have g2 := g1.then0 f2
  have z2 := f2.size
  clear f2 s1 h1 g1 c0 c1 c2 c3 d0 d1 d2 d3
  have fv : Fr [] w2 (w2.alloc (.cells #[.int .i64 c2_, .string (st s2_), .int .i64 w2_, .int .i64 r2] 132)) := (Fr.refl _ _).alloc _
  have sv := s2.keep fv (by simp)
  have hv := h2.keep0 fv
  have gv := g2.then0 fv
  have v0 : (w2.alloc (.cells #[.int .i64 c2_, .string (st s2_), .int .i64 w2_, .int .i64 r2] 132)).heap[w2.heap.size]? = some (.cells #[.int .i64 c2_, .string (st s2_), .int .i64 w2_, .int .i64 r2] 132 (0, 0)) := newA rfl
  obtain ⟨q0, q1, q2, q3, _, _, _, _⟩ := fl4 v0
  generalize hwv : w2.alloc (.cells #[.int .i64 c2_, .string (st s2_), .int .i64 w2_, .int .i64 r2] 132) = wv at *
  clear fv s2 h2 g2 
  obtain ⟨e0, e1, e2, e3, k0, k1, k2, k3⟩ := fl4 sv.h2
  go_wp2_with fail
  go_region
  go_wp2_with fail
  refine bodyPost_ret (v := .tuple #[.pointer (some ⟨b, 0, none⟩), .agg #[.int .i64 c2_, .string (st s2_), .int .i64 w2_, .int .i64 r2], .bool true]) (by simp [results, Try.results88, go_sem, e0, e1, e2, e3]) rfl ?_
  refine ⟨b, R, D, ⟨_, _, _, _⟩, rfl, .inl ⟨rfl, rfl, rfl⟩, ?_, ?_⟩
  · repeat first | (with_reducible exact hv) | (with_reducible refine Fl.drew_ ?_) | (with_reducible refine Fl.drewN_ ?_ _) | (with_reducible refine Fl.set_ ?_ (by omega) (by omega) (by omega))
  · repeat first | (with_reducible exact gv) | (with_reducible refine Fr.drew ?_) | (with_reducible refine Fr.drewN ?_ _) | (with_reducible refine Fr.setCell ?_ (.inr (by dsimp only; omega)) _)

set_option maxHeartbeats 4000000 in
theorem df_closer (h : Fl w b R D m) :
    Calls Try.prog 88 #[.pointer (some ⟨b, 0, none⟩), refF m, .agg #[.int .i64 3, .int .i64 n, .slice pa pl pc, .int .i64 wth]] w (DfPost b R D w) := by
  have C1 := fun (w0 : World) (h0 : Fl w0 b R D m) => flow_closer h0 wth
  have C2 : ∀ w0, Calls Try.prog 118 #[refF m, .int .i64 wth] w0 (QEPost (fCloseR m wth) w0) := fun w0 => ref13_closer w0
  obtain ⟨T, hT⟩ : ∃ T, fCloseR m wth = T := ⟨_, rfl⟩
  rw [hT] at C1 C2
  have HC1 := Lib.hid C1
  have HC2 := Lib.hid C2
  clear C1 C2 hT
  obtain ⟨⟨c2_, s2_, w2_, r2⟩, er⟩ := T
  unfold FEPost at HC1
  unfold QEPost refF at HC2
  dsimp only at HC1 HC2
  obtain ⟨w0, e0, s0, g0, f0, h0, ⟨hb1, hb2, hb3⟩, hz0, hsc, hc4⟩ := df_start h 3 n pa pl pc wth
  clear h f0
  obtain ⟨c, s, wd, r⟩ := m
  dsimp only at e0 hsc hc4
  unfold refF
  dsimp only
  go_enter Try.func88, Try.ntmps88
  go_wp2_with fail
  rw [← e0]
  clear e0
  refine (HC1.out _ h0).mono ?_
  rintro e w1 ⟨rfl, f1, h1⟩
  have s1 := s0.keep f1 (by simp; omega)
  have g1 := g0.then f1
  have z1 := f1.size
  clear f1 s0 g0 h0
  obtain ⟨c0, c1, c2, c3, _, _, _, _⟩ := fl4 s1.h0
  dsimp only at c0 c1 c2 c3
  obtain ⟨d0, d1, d2, d3, _, _, _, _⟩ := fl4 s1.h1
  go_wp2_with fail
  refine (HC2.out _).mono ?_
  rintro e w2 ⟨rfl, f2⟩
  have s2 := s1.keep f2 (by simp)
  have h2 := h1.keep0 f2
  have g2 := g1.then0 f2
  have z2 := f2.size
  clear f2 s1 h1 g1 c0 c1 c2 c3 d0 d1 d2 d3
  have fv : Fr [] w2 (w2.alloc (.cells #[.int .i64 c2_, .string (st s2_), .int .i64 w2_, .int .i64 r2] 132)) := (Fr.refl _ _).alloc _
  have sv := s2.keep fv (by simp)
  have hv := h2.keep0 fv
  have gv := g2.then0 fv
  have v0 : (w2.alloc (.cells #[.int .i64 c2_, .string (st s2_), .int .i64 w2_, .int .i64 r2] 132)).heap[w2.heap.size]? = some (.cells #[.int .i64 c2_, .string (st s2_), .int .i64 w2_, .int .i64 r2] 132 (0, 0)) := newA rfl
  obtain ⟨q0, q1, q2, q3, _, _, _, _⟩ := fl4 v0
  generalize hwv : w2.alloc (.cells #[.int .i64 c2_, .string (st s2_), .int .i64 w2_, .int .i64 r2] 132) = wv at *
  clear fv s2 h2 g2 
  obtain ⟨e0, e1, e2, e3, k0, k1, k2, k3⟩ := fl4 sv.h2
  go_wp2_with fail
  go_region
  go_wp2_with fail
  refine bodyPost_ret (v := .tuple #[.pointer (some ⟨b, 0, none⟩), .agg #[.int .i64 c2_, .string (st s2_), .int .i64 w2_, .int .i64 r2], .bool true]) (by simp [results, Try.results88, go_sem, e0, e1, e2, e3]) rfl ?_
  refine ⟨b, R, D, ⟨_, _, _, _⟩, rfl, .inl ⟨rfl, rfl, rfl⟩, ?_, ?_⟩
  · repeat first | (with_reducible exact hv) | (with_reducible refine Fl.drew_ ?_) | (with_reducible refine Fl.drewN_ ?_ _) | (with_reducible refine Fl.set_ ?_ (by omega) (by omega) (by omega))
  · repeat first | (with_reducible exact gv) | (with_reducible refine Fr.drew ?_) | (with_reducible refine Fr.drewN ?_ _) | (with_reducible refine Fr.setCell ?_ (.inr (by dsimp only; omega)) _)

set_option maxHeartbeats 4000000 in
theorem df_read (h : Fl w b R D m) :
    Calls Try.prog 88 #[.pointer (some ⟨b, 0, none⟩), refF m, .agg #[.int .i64 1, .int .i64 n, .slice pa pl pc, .int .i64 wth]] w (DfPost b R D w) := by
  have C1 := fun (w0 : World) (h0 : Fl w0 b R D m) => flow_read h0 n
  have hbd := h.bd
  have C2 : ∀ w0, Calls Try.prog 116 #[refF m, .int .i64 n] w0 (QTPost (fRead m n) w0) := fun w0 => ref13_read (by omega) (by omega) w0
  obtain ⟨T, hT⟩ : ∃ T, fRead m n = T := ⟨_, rfl⟩
  rw [hT] at C1 C2
  have HC1 := Lib.hid C1
  have HC2 := Lib.hid C2
  clear C1 C2 hT hbd
  obtain ⟨⟨c2_, s2_, w2_, r2⟩, out, er⟩ := T
  unfold FTPost at HC1
  unfold QTPost refF at HC2
  dsimp only at HC1 HC2
  obtain ⟨w0, e0, s0, g0, f0, h0, ⟨hb1, hb2, hb3⟩, hz0, hsc, hc4⟩ := df_start h 1 n pa pl pc wth
  clear h f0
  obtain ⟨c, s, wd, r⟩ := m
  dsimp only at e0 hsc hc4
  unfold refF
  dsimp only
  go_enter Try.func88, Try.ntmps88
  go_wp2_with fail
  rw [← e0]
  clear e0
  refine (HC1.out _ h0).mono ?_
  rintro e w1 ⟨u, rfl, f1, ob, h1⟩
  have s1 := s0.keep f1 (by simp; omega)
  have g1 : Fr [b, R, D] w w1 := g0.trans f1 (fun x hx => .inl hx) (fun x hx => .inl (List.mem_cons_of_mem _ hx))
  have z1 := f1.size
  have hog := ob.lt
  clear f1 s0 g0 h0
  obtain ⟨c0, c1, c2, c3, _, _, _, _⟩ := fl4 s1.h0
  dsimp only at c0 c1 c2 c3
  obtain ⟨d0, d1, d2, d3, _, _, _, _⟩ := fl4 s1.h1
  go_wp2_with fail
  refine (HC2.out _).mono ?_
  rintro e w2 ⟨rfl, f2⟩
  have s2 := s1.keep f2 (by simp)
  have h2 := h1.keep0 f2
  have g2 := g1.then0 f2
  have z2 := f2.size
  have o2 := ob.keep f2 (by simp)
  clear f2 s1 h1 g1 c0 c1 c2 c3 d0 d1 d2 d3 ob
  have fv : Fr [] w2 (w2.alloc (.cells #[.int .i64 c2_, .string (st s2_), .int .i64 w2_, .int .i64 r2] 132)) := (Fr.refl _ _).alloc _
  have sv := s2.keep fv (by simp)
  have hv := h2.keep0 fv
  have gv := g2.then0 fv
  have ov := o2.keep fv (by simp)
  have v0 : (w2.alloc (.cells #[.int .i64 c2_, .string (st s2_), .int .i64 w2_, .int .i64 r2] 132)).heap[w2.heap.size]? = some (.cells #[.int .i64 c2_, .string (st s2_), .int .i64 w2_, .int .i64 r2] 132 (0, 0)) := newA rfl
  generalize hwv : w2.alloc (.cells #[.int .i64 c2_, .string (st s2_), .int .i64 w2_, .int .i64 r2] 132) = wv at *
  clear fv s2 h2 g2 o2
  obtain ⟨ga, gc, rfl, hgc1, hgc2, hsl, _⟩ := ov.formB
  have hcv := conv_st (cap := gc) hsl rfl
  have hol : out.length ≤ gc ∧ gc ≤ maxLen := ⟨hgc1, hgc2⟩
  have ol : (out.length : Int) ≤ 9223372036854775807 := by unfold maxLen at hol; omega
  clear hsl hgc1 hgc2 hol
  go_wp2_with fail
  go_loopw [20, 86] (fun s18 s85 wr => ∃ (k : Nat) (xs : List Int), k ≤ out.length ∧ s85 = .int .i64 k ∧ xs.length = out.length ∧ Ow wr w0.heap.size 5 (.slice ga out.length gc) (xs.map (Value.int .u8)) ∧ Fr (Value.ownBlock (.slice ga out.length gc)).toList wv wr) (fun _ i _ => out.length - (intOf i).toNat)
  case atStart => exact ⟨0, bi out, by omega, rfl, bi_length out, ov, Fr.refl _ _⟩
  case round =>
    obtain ⟨k, xs, hk, rfl, hxl, hox, fr⟩ := hrel
    clear hcv
    by_cases hlt : (k : Int) < out.length
    · obtain ⟨g, cap, hve, _, _, _, hgl, hcell, hfree⟩ := hox.row (by rw [List.length_map]; omega)
      have hkx : k < xs.length := by omega
      have hc := hcell k (by rw [List.length_map]; omega)
      rw [List.getElem?_map, List.getElem?_eq_getElem hkx] at hc
      have hf := hfree k
      simp only [Value.slice.injEq] at hve
      obtain ⟨rfl, hve2, rfl⟩ := hve
      clear hve2
      have hset := hox.set k (.int .u8 (IntKind.u8.wrap (xs[k] + 1)))
      rw [← List.map_set] at hset
      have hfr2 := fr.setCell (p := ⟨g, k, none⟩) (.inl (by show g ∈ [g]; simp)) (.int .u8 (IntKind.u8.wrap (xs[k] + 1)))
      simp only [Option.map_some] at hc
      generalize xs[k] = x at hc hset hfr2
      have HXL := Lib.hid hxl
      have HST := Lib.hid (And.intro hset hfr2)
      clear hcell hfree hox fr hset hfr2 hog ov hxl v0 hkx
      go_wp2_with fail
      go_roundw
      case rel => exact ⟨k + 1, _, by omega, by go_num, by rw [List.length_set]; exact HXL.out, HST.out.1, HST.out.2⟩
      case measure => simp [intOf]; omega
    · have hS : ∀ x ∈ (Value.ownBlock (.slice ga out.length gc)).toList, w0.heap.size ≤ x ∧ x < w1.heap.size := fun x hx => hog x (by simpa using hx)
      have hM3 := sv.lt
      have hv2 := lt_of_heap v0
      have sr := sv.keep fr (fun x hx => by have := hS x hx; omega)
      have hr := hv.keep fr (fun hx => by have := hS _ hx; omega) (fun hx => by have := hS _ hx; omega) (fun hx => by have := hS _ hx; omega)
      have gr : Fr [b, R, D] w wr := gv.trans fr (fun x hx => .inl hx) (fun x hx => .inr (by have := hS x hx; omega))
      have vr := fr.keep v0 (fun hx => by have := hS _ hx; omega)
      obtain ⟨q0, q1, q2, q3, _, _, _, _⟩ := fl4 vr
      clear hox fr sv hv gv v0 ov hog hS
      obtain ⟨e0, e1, e2, e3, k0, k1, k2, k3⟩ := fl4 sr.h2
      go_wp2_with fail
      go_region
      go_wp2_with fail
      refine bodyPost_ret (v := .tuple #[.pointer (some ⟨b, 0, none⟩), .agg #[.int .i64 c2_, .string (st s2_), .int .i64 w2_, .int .i64 r2], .bool true]) (by simp [results, Try.results88, go_sem, e0, e1, e2, e3]) rfl ?_
      refine ⟨b, R, D, ⟨_, _, _, _⟩, rfl, .inl ⟨rfl, rfl, rfl⟩, ?_, ?_⟩
      · repeat first | (with_reducible exact hr) | (with_reducible refine Fl.drew_ ?_) | (with_reducible refine Fl.drewN_ ?_ _) | (with_reducible refine Fl.set_ ?_ (by omega) (by omega) (by omega))
      · repeat first | (with_reducible exact gr) | (with_reducible refine Fr.drew ?_) | (with_reducible refine Fr.drewN ?_ _) | (with_reducible refine Fr.setCell ?_ (.inr (by dsimp only; omega)) _)

end Go.Proofs.Ytpkgjgfdobcboaa
