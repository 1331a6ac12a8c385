/-
  Package stream: End, Cancel, Read, State, Copy.
-/
import Derived.Test.YtdoamelhclnphaaStOpB
import Derived.Test.YtdoamelhclnphaaRowS
namespace Go.Proofs.Ytdoamelhclnphaa
open Go.RowKit
set_option maxRecDepth 100000

section
variable {w : World} {N : Nat → Prop} {L : List Nat} {b : Nat} {m : SM} {sv : Value} {a : Option Addr} {cap : Nat} {P : Parts}
def EndPost (w : World) (N : Nat → Prop) (L : List Nat) (b : Nat) (r : SN) (e : Ending) (w' : World) : Prop := e = .returned (.tuple #[.int .i64 r.n, .int .i64 r.err]) ∧ Fr [b] w w' ∧ St w' N L b r.m
set_option maxHeartbeats 1000000 in
theorem st_end (h : St w N L b m) :
    Calls Try.prog 33 #[.pointer (some ⟨b, 0, none⟩)] w (EndPost w N L b (endM m)) := by
  obtain ⟨hok, sv, a, cap, P, h⟩ := h
  have htl : tot P = m.rest.length := by rw [← h.e]; rfl
  have HH := Lib.hid h
  have HK := Lib.hid hok
  have HZ := Lib.hid (st_none h)
  obtain ⟨_, c1, c2, c3, c4, c5, c6⟩ := h.k.cells
  have HL := Lib.hid (rope_len h.p)
  have HKK := Lib.hid fun w1 (f : Fr [] w w1) => (show w1.cell? ⟨b, 5, none⟩ = some (.int .i64 m.w) ∧ w1.cell? ⟨b, 6, none⟩ = some (.int .i64 m.r) from ⟨(h.keep0 f).k.cells.c5, (h.keep0 f).k.cells.c6⟩)
  clear c5 c6
  by_cases hb : m.busy = false
  · have e : endM m = ⟨m, 0, 8⟩ := by unfold endM; rw [if_pos hb]
    rw [e]
    rw [hb] at c1
    clear h hok htl e hb
    go_enter Try.func33, Try.ntmps33
    go_wp2_with fail
    refine HZ.out.mono ?_
    rintro e w' ⟨rfl, rfl⟩
    go_wp2_with fail
    go_ret2
    exact ⟨rfl, Fr.refl _ _, HK.out, _, _, _, _, HH.out⟩
  have hb' : m.busy = true := by simpa using hb
  rw [hb'] at c1
  have stp : ∀ w1, Fr [] w w1 → ∀ k : Int, endM m = ⟨stopM m, m.acc, k⟩ → ∀ w2, Fr [b] w1 w2 → StR w2 N L b (stopM m) sv none 0 [] → EndPost w N L b (endM m) (.returned (.tuple #[.int .i64 m.acc, .int .i64 k])) w2 := fun w1 f k e w2 f2 h2 => by
    rw [e]
    exact ⟨rfl, (f.mono (by simp)).then f2, stopM_ok hok, _, _, _, _, h2⟩
  have HT := Lib.hid stp
  by_cases hr : m.rest = []
  · have e : endM m = ⟨stopM m, m.acc, 0⟩ := by
      unfold endM atEndM howM
      rw [if_neg hb, hb', hr]
      simp
    have htz : (tot P : Int) = 0 := by rw [htl, hr]; rfl
    rw [htz] at HL c3
    have HE := Lib.hid e
    clear h hok htl e hb hb' hr htz stp
    go_enter Try.func33, Try.ntmps33
    go_wp2_with fail
    refine HZ.out.mono ?_
    rintro e w' ⟨rfl, rfl⟩
    go_wp2_with fail
    refine HL.out.mono ?_
    rintro e w1 ⟨rfl, f1⟩
    clear c1 c2 c3 c4 HZ HL
    go_wp2_with fail
    refine (st_stop (HH.out.keep0 f1)).mono ?_
    rintro e w2 ⟨rfl, f2, h2⟩
    go_wp2_with fail
    go_ret2
    exact HT.out _ f1 _ HE.out _ f2 h2
  have hz : (0 : Int) < tot P := by rw [htl]; have := List.length_pos_iff.2 hr; omega
  have hrr : m.rest.isEmpty = false := by simpa using hr
  by_cases hop : opM m = true
  · have e : endM m = ⟨m, 0, 16⟩ := by
      unfold endM atEndM
      rw [if_neg hb, hb', hrr, hop]
      rfl
    rw [e]
    have HO := Lib.hid fun w1 (f : Fr [] w w1) => st_open (h.keep0 f)
    rw [hop] at HO
    clear h hok htl e hb hb' hr hrr stp hop HT
    go_enter Try.func33, Try.ntmps33
    go_wp2_with fail
    refine HZ.out.mono ?_
    rintro e w' ⟨rfl, rfl⟩
    go_wp2_with fail
    refine HL.out.mono ?_
    rintro e w1 ⟨rfl, f1⟩
    clear c1 c2 c3 c4 HZ HL
    go_wp2_with fail
    refine (HO.out _ f1).mono ?_
    rintro e w' ⟨rfl, rfl⟩
    go_wp2_with fail
    go_ret2
    exact ⟨rfl, f1.mono (by simp), HK.out, _, _, _, _, HH.out.keep0 f1⟩
  have hop' : opM m = false := by simpa using hop
  have HO := Lib.hid fun w1 (f : Fr [] w w1) => st_open (h.keep0 f)
  rw [hop'] at HO
  by_cases hw : m.w ≠ 0
  · have e : endM m = ⟨stopM m, m.acc, 14⟩ := by
      unfold endM atEndM howM
      rw [if_neg hb, hb', hrr, hop', if_neg hr, if_pos hw]
      rfl
    have HE := Lib.hid e
    obtain ⟨n1, n2⟩ : (m.w == 0) = false ∧ (m.w != 0) = true := by simp [hw]
    clear h hok htl e hb hb' hr hrr stp hop hop' hw
    go_enter Try.func33, Try.ntmps33
    go_wp2_with fail
    refine HZ.out.mono ?_
    rintro e w' ⟨rfl, rfl⟩
    go_wp2_with fail
    refine HL.out.mono ?_
    rintro e w1 ⟨rfl, f1⟩
    obtain ⟨c5, c6⟩ := HKK.out _ f1
    clear c1 c2 c3 c4 HZ HL
    go_wp2_with fail
    refine (HO.out _ f1).mono ?_
    rintro e w' ⟨rfl, rfl⟩
    go_wp2_with fail
    refine (st_stop (HH.out.keep0 f1)).mono ?_
    rintro e w2 ⟨rfl, f2, h2⟩
    clear c5 c6
    go_wp2_with fail
    go_ret2
    exact HT.out _ f1 _ HE.out _ f2 h2
  · have hw' : m.w = 0 := by omega
    have e : endM m = ⟨stopM m, m.acc, m.r⟩ := by
      unfold endM atEndM howM
      rw [if_neg hb, hb', hrr, hop', if_neg hr, if_neg hw]
      rfl
    have HE := Lib.hid e
    rw [hw'] at HKK
    clear h hok htl e hb hb' hr hrr stp hop hop' hw hw'
    go_enter Try.func33, Try.ntmps33
    go_wp2_with fail
    refine HZ.out.mono ?_
    rintro e w' ⟨rfl, rfl⟩
    go_wp2_with fail
    refine HL.out.mono ?_
    rintro e w1 ⟨rfl, f1⟩
    obtain ⟨c5, c6⟩ := HKK.out _ f1
    clear c1 c2 c3 c4 HZ HL
    go_wp2_with fail
    refine (HO.out _ f1).mono ?_
    rintro e w' ⟨rfl, rfl⟩
    go_wp2_with fail
    refine (st_stop (HH.out.keep0 f1)).mono ?_
    rintro e w2 ⟨rfl, f2, h2⟩
    clear c5 c6
    go_wp2_with fail
    go_ret2
    exact HT.out _ f1 _ HE.out _ f2 h2
theorem st_cancel (h : St w N L b m) :
    Calls Try.prog 34 #[.pointer (some ⟨b, 0, none⟩)] w (EndPost w N L b (cancelM m)) := by
  obtain ⟨hok, sv, a, cap, P, h⟩ := h
  have HH := Lib.hid h
  have HK := Lib.hid hok
  have HZ := Lib.hid (st_none h)
  obtain ⟨_, c1, c2, c3, c4, c5, c6⟩ := h.k.cells
  by_cases hb : m.busy = false
  · have e : cancelM m = ⟨m, 0, 8⟩ := by unfold cancelM; rw [if_pos hb]
    rw [e]
    rw [hb] at c1
    clear h hok e hb
    go_enter Try.func34, Try.ntmps34
    go_wp2_with fail
    refine HZ.out.mono ?_
    rintro e w' ⟨rfl, rfl⟩
    go_wp2_with fail
    go_ret2
    exact ⟨rfl, Fr.refl _ _, HK.out, _, _, _, _, HH.out⟩
  have hb' : m.busy = true := by simpa using hb
  rw [hb'] at c1
  have e : cancelM m = ⟨stopM m, m.acc, 0⟩ := by unfold cancelM; rw [if_neg hb]
  rw [e]
  have HS := Lib.hid (st_stop h)
  clear h hok e hb hb'
  go_enter Try.func34, Try.ntmps34
  go_wp2_with fail
  refine HZ.out.mono ?_
  rintro e w' ⟨rfl, rfl⟩
  go_wp2_with fail
  refine HS.out.mono ?_
  rintro e w2 ⟨rfl, f2, h2⟩
  clear c1 c2 c3 c4 c5 c6
  go_wp2_with fail
  go_ret2
  exact ⟨rfl, f2, stopM_ok HK.out, _, _, _, _, h2⟩

theorem eq_seven {w : World} {B : Nat} {u0 u1 u2 u3 u4 u5 u6 v0 v1 v2 v3 v4 v5 v6 : Value} {t : TypeId} (h : w.heap[B]? = some (.cells #[u0, u1, u2, u3, u4, u5, u6] t (0, 0))) :
    (((((((w.setCell ⟨B, 0, none⟩ v0).setCell ⟨B, 1, none⟩ v1).setCell ⟨B, 2, none⟩ v2).setCell ⟨B, 3, none⟩ v3).setCell ⟨B, 4, none⟩ v4).setCell ⟨B, 5, none⟩ v5).setCell ⟨B, 6, none⟩ v6).heap[B]? = some (.cells #[v0, v1, v2, v3, v4, v5, v6] t (0, 0)) := by
  have := heap_setCell_eq (i := 6) (u := v6) (heap_setCell_eq (i := 5) (u := v5) (heap_setCell_eq (i := 4) (u := v4) (heap_setCell_eq (i := 3) (u := v3) (heap_setCell_eq (i := 2) (u := v2) (heap_setCell_eq (i := 1) (u := v1) (heap_setCell_eq (i := 0) (u := v0) h))))))
  rw [this]
  simp
/-- A state as a value; the bytes are the caller's own, in memory from M on. -/
def SvO (w : World) (M : Nat) (v : Value) (m : SM) : Prop :=
  ∃ u1 u2, v = .agg #[.int .i64 m.c, u1, .bool m.busy, u2, .int .i64 m.acc, .int .i64 m.w, .int .i64 m.r] ∧ Ow w M 5 u1 ((bi m.q).map (Value.int .u8)) ∧ Ow w M 5 u2 ((bi m.rest).map (Value.int .u8))
set_option maxHeartbeats 1000000 in
theorem st_state (h : St w N L b m) :
    Calls Try.prog 42 #[.pointer (some ⟨b, 0, none⟩)] w fun e w' => ∃ v, e = .returned v ∧ Fr [] w w' ∧ SvO w' w.heap.size v m := by
  obtain ⟨hok, sv, a, cap, P, h⟩ := h
  obtain ⟨st, su, rfl⟩ := h.s.form
  obtain ⟨w0, hw0, g0, q0⟩ : ∃ W, w.alloc (.cells #[.int .i64 0, .slice none 0 0, .bool false, .slice none 0 0, .int .i64 0, .int .i64 0, .int .i64 0] 41) = W ∧ Fr [] w W ∧ W.heap[w.heap.size]? = some (.cells #[.int .i64 0, .slice none 0 0, .bool false, .slice none 0 0, .int .i64 0, .int .i64 0, .int .i64 0] 41 (0, 0)) := ⟨_, rfl, (Fr.refl _ _).alloc _, newA rfl⟩
  have HH := Lib.hid h
  have HX := Lib.hid q0
  have HZ := Lib.hid (st_none (h.keep0 g0))
  have HEB := Lib.hid (Go.Proofs.enters_of Try.func89 (by kernel_rfl) rfl)
  have HFA := Lib.hid fun (w' : World) (f : Fr [] w w') => (show w'.cell? ⟨b, 0, none⟩ = some (.iface st su) ∧ w'.cell? ⟨b, 1, none⟩ = some (.bool m.busy) ∧ w'.cell? ⟨b, 2, none⟩ = some (.slice a P.length cap) ∧ w'.cell? ⟨b, 3, none⟩ = some (.int .i64 (tot P)) ∧ w'.cell? ⟨b, 4, none⟩ = some (.int .i64 m.acc) ∧ w'.cell? ⟨b, 5, none⟩ = some (.int .i64 m.w) ∧ w'.cell? ⟨b, 6, none⟩ = some (.int .i64 m.r) from
    ⟨(h.keep0 f).k.cells.c0, (h.keep0 f).k.cells.c1, (h.keep0 f).k.cells.c2, (h.keep0 f).k.cells.c3, (h.keep0 f).k.cells.c4, (h.keep0 f).k.cells.c5, (h.keep0 f).k.cells.c6⟩)
  have HE := Lib.hid h.e
  have hz0 := lt_of_heap q0
  clear h hok q0
  go_enter Try.func42, Try.ntmps42
  go_wp2_with fail
  refine HZ.out.mono ?_
  rintro e w' ⟨rfl, rfl⟩
  go_wp2_with fail
  have fd : Fr [] w0 w0.drew := (Fr.refl _ _).drew
  refine wp_region_late [(0, true), (1, true), (2, true), (3, true), (5, true), (6, true), (7, true), (8, true), (10, true), (11, true), (12, true), (13, true), (14, true), (15, true), (16, true), (17, true), (19, true), (20, true), (21, true), (22, true), (23, true), (24, true), (25, true), (26, true), (27, true), (28, true), (29, true), (30, true), (31, true), (32, true), (4, false), (9, false), (18, false), (33, true)] [34] (fun w' => Fr [] w w') (by kernel_rfl) (by kernel_rfl) (g0.then0 fd) ?_
  intro OPS HOPS
  have hops := HOPS.out
  try simp only [List.append_eq, List.cons_append, List.nil_append] at hops
  replace HOPS := Lib.hid hops
  clear hops
  refine walkX_take (o := _) (v := ?_) (by rw [HOPS.out]; simp only [List.getElem?_toArray, List.getElem?_cons_succ, List.getElem?_cons_zero]; exact rfl) (Or.inl ⟨rfl, ?_⟩) ?_
  rotate_left
  · (intro w hSw; have hSx := HFA.out _ hSw; (try dsimp only at hSx); clear hSw; go_simp) <;> (with_reducible rfl)
  simp only [Act.put, List.setIfInBounds_toArray, List.set_cons_zero, List.set_cons_succ]
  refine walkX_take (o := _) (v := ?_) (by rw [HOPS.out]; simp only [List.getElem?_toArray, List.getElem?_cons_succ, List.getElem?_cons_zero]; exact rfl) (Or.inl ⟨rfl, ?_⟩) ?_
  rotate_left
  · (intro w hSw; have hSx := HFA.out _ hSw; (try dsimp only at hSx); clear hSw; go_simp) <;> (with_reducible rfl)
  simp only [Act.put, List.setIfInBounds_toArray, List.set_cons_zero, List.set_cons_succ]
  refine walkX_take (o := _) (v := ?_) (by rw [HOPS.out]; simp only [List.getElem?_toArray, List.getElem?_cons_succ, List.getElem?_cons_zero]; exact rfl) (Or.inl ⟨rfl, ?_⟩) ?_
  rotate_left
  · (intro w hSw; have hSx := HFA.out _ hSw; (try dsimp only at hSx); clear hSw; go_simp) <;> (with_reducible rfl)
  simp only [Act.put, List.setIfInBounds_toArray, List.set_cons_zero, List.set_cons_succ]
  refine walkX_take (o := _) (v := ?_) (by rw [HOPS.out]; simp only [List.getElem?_toArray, List.getElem?_cons_succ, List.getElem?_cons_zero]; exact rfl) (Or.inl ⟨rfl, ?_⟩) ?_
  rotate_left
  · (intro w hSw; have hSx := HFA.out _ hSw; (try dsimp only at hSx); clear hSw; go_simp) <;> (with_reducible rfl)
  simp only [Act.put, List.setIfInBounds_toArray, List.set_cons_zero, List.set_cons_succ]
  refine walkX_take (o := _) (v := ?_) (by rw [HOPS.out]; simp only [List.getElem?_toArray, List.getElem?_cons_succ, List.getElem?_cons_zero]; exact rfl) (Or.inl ⟨rfl, ?_⟩) ?_
  rotate_left
  · (intro w hSw; have hSx := HFA.out _ hSw; (try dsimp only at hSx); clear hSw; go_simp) <;> (with_reducible rfl)
  simp only [Act.put, List.setIfInBounds_toArray, List.set_cons_zero, List.set_cons_succ]
  refine walkX_take (o := _) (v := ?_) (by rw [HOPS.out]; simp only [List.getElem?_toArray, List.getElem?_cons_succ, List.getElem?_cons_zero]; exact rfl) (Or.inl ⟨rfl, ?_⟩) ?_
  rotate_left
  · (intro w hSw; have hSx := HFA.out _ hSw; (try dsimp only at hSx); clear hSw; go_simp) <;> (with_reducible rfl)
  simp only [Act.put, List.setIfInBounds_toArray, List.set_cons_zero, List.set_cons_succ]
  refine walkX_take (o := _) (v := ?_) (by rw [HOPS.out]; simp only [List.getElem?_toArray, List.getElem?_cons_succ, List.getElem?_cons_zero]; exact rfl) (Or.inl ⟨rfl, ?_⟩) ?_
  rotate_left
  · (intro w hSw; have hSx := HFA.out _ hSw; (try dsimp only at hSx); clear hSw; go_simp) <;> (with_reducible rfl)
  simp only [Act.put, List.setIfInBounds_toArray, List.set_cons_zero, List.set_cons_succ]
  refine walkX_take (o := _) (v := ?_) (by rw [HOPS.out]; simp only [List.getElem?_toArray, List.getElem?_cons_succ, List.getElem?_cons_zero]; exact rfl) (Or.inl ⟨rfl, ?_⟩) ?_
  rotate_left
  · (intro w hSw; have hSx := HFA.out _ hSw; (try dsimp only at hSx); clear hSw; go_simp) <;> (with_reducible rfl)
  simp only [Act.put, List.setIfInBounds_toArray, List.set_cons_zero, List.set_cons_succ]
  refine walkX_take (o := _) (v := ?_) (by rw [HOPS.out]; simp only [List.getElem?_toArray, List.getElem?_cons_succ, List.getElem?_cons_zero]; exact rfl) (Or.inl ⟨rfl, ?_⟩) ?_
  rotate_left
  · (intro w hSw; have hSx := HFA.out _ hSw; (try dsimp only at hSx); clear hSw; go_simp) <;> (with_reducible rfl)
  simp only [Act.put, List.setIfInBounds_toArray, List.set_cons_zero, List.set_cons_succ]
  refine walkX_take (o := _) (v := ?_) (by rw [HOPS.out]; simp only [List.getElem?_toArray, List.getElem?_cons_succ, List.getElem?_cons_zero]; exact rfl) (Or.inl ⟨rfl, ?_⟩) ?_
  rotate_left
  · (intro w hSw; have hSx := HFA.out _ hSw; (try dsimp only at hSx); clear hSw; go_simp) <;> (with_reducible rfl)
  simp only [Act.put, List.setIfInBounds_toArray, List.set_cons_zero, List.set_cons_succ]
  refine walkX_take (o := _) (v := ?_) (by rw [HOPS.out]; simp only [List.getElem?_toArray, List.getElem?_cons_succ, List.getElem?_cons_zero]; exact rfl) (Or.inl ⟨rfl, ?_⟩) ?_
  rotate_left
  · (intro w hSw; have hSx := HFA.out _ hSw; (try dsimp only at hSx); clear hSw; go_simp) <;> (with_reducible rfl)
  simp only [Act.put, List.setIfInBounds_toArray, List.set_cons_zero, List.set_cons_succ]
  refine walkX_take (o := _) (v := ?_) (by rw [HOPS.out]; simp only [List.getElem?_toArray, List.getElem?_cons_succ, List.getElem?_cons_zero]; exact rfl) (Or.inl ⟨rfl, ?_⟩) ?_
  rotate_left
  · (intro w hSw; have hSx := HFA.out _ hSw; (try dsimp only at hSx); clear hSw; go_simp) <;> (with_reducible rfl)
  simp only [Act.put, List.setIfInBounds_toArray, List.set_cons_zero, List.set_cons_succ]
  refine walkX_take (o := _) (v := ?_) (by rw [HOPS.out]; simp only [List.getElem?_toArray, List.getElem?_cons_succ, List.getElem?_cons_zero]; exact rfl) (Or.inl ⟨rfl, ?_⟩) ?_
  rotate_left
  · (intro w hSw; have hSx := HFA.out _ hSw; (try dsimp only at hSx); clear hSw; go_simp) <;> (with_reducible rfl)
  simp only [Act.put, List.setIfInBounds_toArray, List.set_cons_zero, List.set_cons_succ]
  refine walkX_take (o := _) (v := ?_) (by rw [HOPS.out]; simp only [List.getElem?_toArray, List.getElem?_cons_succ, List.getElem?_cons_zero]; exact rfl) (Or.inl ⟨rfl, ?_⟩) ?_
  rotate_left
  · (intro w hSw; have hSx := HFA.out _ hSw; (try dsimp only at hSx); clear hSw; go_simp) <;> (with_reducible rfl)
  simp only [Act.put, List.setIfInBounds_toArray, List.set_cons_zero, List.set_cons_succ]
  refine walkX_take (o := _) (v := ?_) (by rw [HOPS.out]; simp only [List.getElem?_toArray, List.getElem?_cons_succ, List.getElem?_cons_zero]; exact rfl) (Or.inl ⟨rfl, ?_⟩) ?_
  rotate_left
  · (intro w hSw; have hSx := HFA.out _ hSw; (try dsimp only at hSx); clear hSw; go_simp) <;> (with_reducible rfl)
  simp only [Act.put, List.setIfInBounds_toArray, List.set_cons_zero, List.set_cons_succ]
  refine walkX_take (o := _) (v := ?_) (by rw [HOPS.out]; simp only [List.getElem?_toArray, List.getElem?_cons_succ, List.getElem?_cons_zero]; exact rfl) (Or.inl ⟨rfl, ?_⟩) ?_
  rotate_left
  · (intro w hSw; have hSx := HFA.out _ hSw; (try dsimp only at hSx); clear hSw; go_simp) <;> (with_reducible rfl)
  simp only [Act.put, List.setIfInBounds_toArray, List.set_cons_zero, List.set_cons_succ]
  refine walkX_take (o := _) (v := ?_) (by rw [HOPS.out]; simp only [List.getElem?_toArray, List.getElem?_cons_succ, List.getElem?_cons_zero]; exact rfl) (Or.inl ⟨rfl, ?_⟩) ?_
  rotate_left
  · (intro w hSw; have hSx := HFA.out _ hSw; (try dsimp only at hSx); clear hSw; go_simp) <;> (with_reducible rfl)
  simp only [Act.put, List.setIfInBounds_toArray, List.set_cons_zero, List.set_cons_succ]
  refine walkX_take (o := _) (v := ?_) (by rw [HOPS.out]; simp only [List.getElem?_toArray, List.getElem?_cons_succ, List.getElem?_cons_zero]; exact rfl) (Or.inl ⟨rfl, ?_⟩) ?_
  rotate_left
  · (intro w hSw; have hSx := HFA.out _ hSw; (try dsimp only at hSx); clear hSw; go_simp) <;> (with_reducible rfl)
  simp only [Act.put, List.setIfInBounds_toArray, List.set_cons_zero, List.set_cons_succ]
  refine walkX_take (o := _) (v := ?_) (by rw [HOPS.out]; simp only [List.getElem?_toArray, List.getElem?_cons_succ, List.getElem?_cons_zero]; exact rfl) (Or.inl ⟨rfl, ?_⟩) ?_
  rotate_left
  · (intro w hSw; have hSx := HFA.out _ hSw; (try dsimp only at hSx); clear hSw; go_simp) <;> (with_reducible rfl)
  simp only [Act.put, List.setIfInBounds_toArray, List.set_cons_zero, List.set_cons_succ]
  refine walkX_take (o := _) (v := ?_) (by rw [HOPS.out]; simp only [List.getElem?_toArray, List.getElem?_cons_succ, List.getElem?_cons_zero]; exact rfl) (Or.inl ⟨rfl, ?_⟩) ?_
  rotate_left
  · (intro w hSw; have hSx := HFA.out _ hSw; (try dsimp only at hSx); clear hSw; go_simp) <;> (with_reducible rfl)
  simp only [Act.put, List.setIfInBounds_toArray, List.set_cons_zero, List.set_cons_succ]
  refine walkX_take (o := _) (v := ?_) (by rw [HOPS.out]; simp only [List.getElem?_toArray, List.getElem?_cons_succ, List.getElem?_cons_zero]; exact rfl) (Or.inl ⟨rfl, ?_⟩) ?_
  rotate_left
  · (intro w hSw; have hSx := HFA.out _ hSw; (try dsimp only at hSx); clear hSw; go_simp) <;> (with_reducible rfl)
  simp only [Act.put, List.setIfInBounds_toArray, List.set_cons_zero, List.set_cons_succ]
  refine walkX_take (o := _) (v := ?_) (by rw [HOPS.out]; simp only [List.getElem?_toArray, List.getElem?_cons_succ, List.getElem?_cons_zero]; exact rfl) (Or.inl ⟨rfl, ?_⟩) ?_
  rotate_left
  · (intro w hSw; have hSx := HFA.out _ hSw; (try dsimp only at hSx); clear hSw; go_simp) <;> (with_reducible rfl)
  simp only [Act.put, List.setIfInBounds_toArray, List.set_cons_zero, List.set_cons_succ]
  refine walkX_take (o := _) (v := ?_) (by rw [HOPS.out]; simp only [List.getElem?_toArray, List.getElem?_cons_succ, List.getElem?_cons_zero]; exact rfl) (Or.inl ⟨rfl, ?_⟩) ?_
  rotate_left
  · (intro w hSw; have hSx := HFA.out _ hSw; (try dsimp only at hSx); clear hSw; go_simp) <;> (with_reducible rfl)
  simp only [Act.put, List.setIfInBounds_toArray, List.set_cons_zero, List.set_cons_succ]
  refine walkX_take (o := _) (v := ?_) (by rw [HOPS.out]; simp only [List.getElem?_toArray, List.getElem?_cons_succ, List.getElem?_cons_zero]; exact rfl) (Or.inl ⟨rfl, ?_⟩) ?_
  rotate_left
  · (intro w hSw; have hSx := HFA.out _ hSw; (try dsimp only at hSx); clear hSw; go_simp) <;> (with_reducible rfl)
  simp only [Act.put, List.setIfInBounds_toArray, List.set_cons_zero, List.set_cons_succ]
  refine walkX_take (o := _) (v := ?_) (by rw [HOPS.out]; simp only [List.getElem?_toArray, List.getElem?_cons_succ, List.getElem?_cons_zero]; exact rfl) (Or.inl ⟨rfl, ?_⟩) ?_
  rotate_left
  · (intro w hSw; have hSx := HFA.out _ hSw; (try dsimp only at hSx); clear hSw; go_simp) <;> (with_reducible rfl)
  simp only [Act.put, List.setIfInBounds_toArray, List.set_cons_zero, List.set_cons_succ]
  refine walkX_take (o := _) (v := ?_) (by rw [HOPS.out]; simp only [List.getElem?_toArray, List.getElem?_cons_succ, List.getElem?_cons_zero]; exact rfl) (Or.inl ⟨rfl, ?_⟩) ?_
  rotate_left
  · (intro w hSw; have hSx := HFA.out _ hSw; (try dsimp only at hSx); clear hSw; go_simp) <;> (with_reducible rfl)
  simp only [Act.put, List.setIfInBounds_toArray, List.set_cons_zero, List.set_cons_succ]
  refine walkX_take (o := _) (v := ?_) (by rw [HOPS.out]; simp only [List.getElem?_toArray, List.getElem?_cons_succ, List.getElem?_cons_zero]; exact rfl) (Or.inl ⟨rfl, ?_⟩) ?_
  rotate_left
  · (intro w hSw; have hSx := HFA.out _ hSw; (try dsimp only at hSx); clear hSw; go_simp) <;> (with_reducible rfl)
  simp only [Act.put, List.setIfInBounds_toArray, List.set_cons_zero, List.set_cons_succ]
  refine walkX_take (o := _) (v := ?_) (by rw [HOPS.out]; simp only [List.getElem?_toArray, List.getElem?_cons_succ, List.getElem?_cons_zero]; exact rfl) (Or.inl ⟨rfl, ?_⟩) ?_
  rotate_left
  · (intro w hSw; have hSx := HFA.out _ hSw; (try dsimp only at hSx); clear hSw; go_simp) <;> (with_reducible rfl)
  simp only [Act.put, List.setIfInBounds_toArray, List.set_cons_zero, List.set_cons_succ]
  refine walkX_take (o := _) (v := ?_) (by rw [HOPS.out]; simp only [List.getElem?_toArray, List.getElem?_cons_succ, List.getElem?_cons_zero]; exact rfl) (Or.inl ⟨rfl, ?_⟩) ?_
  rotate_left
  · (intro w hSw; have hSx := HFA.out _ hSw; (try dsimp only at hSx); clear hSw; go_simp) <;> (with_reducible rfl)
  simp only [Act.put, List.setIfInBounds_toArray, List.set_cons_zero, List.set_cons_succ]
  refine walkX_take (o := _) (v := ?_) (by rw [HOPS.out]; simp only [List.getElem?_toArray, List.getElem?_cons_succ, List.getElem?_cons_zero]; exact rfl) (Or.inl ⟨rfl, ?_⟩) ?_
  rotate_left
  · (intro w hSw; have hSx := HFA.out _ hSw; (try dsimp only at hSx); clear hSw; go_simp) <;> (with_reducible rfl)
  simp only [Act.put, List.setIfInBounds_toArray, List.set_cons_zero, List.set_cons_succ]
  refine walkX_call (o := _) (by rw [HOPS.out]; simp only [List.getElem?_toArray, List.getElem?_cons_succ, List.getElem?_cons_zero]; exact rfl) (fun K HK => ?_)
  refine step_invoke rfl "aqueduct/stream.room" (.tmp 9) #[] #[] rfl (.iface st su) (by simp [Act.eval]) #[] (by simp [Act.eval]) (sto_room (HH.out.keep0 (g0.then0 fd)).s) ?_
  rintro e w1 ⟨rfl, f1⟩
  have g1 := (g0.then0 fd).then0 f1
  refine ⟨_, rfl, ?_⟩
  refine HK.out (fun w' => Fr [] w w') _ _ (fun _ h => h) (g1) ?_
  clear HK K
  simp only [Act.put, List.setIfInBounds_toArray, List.set_cons_zero, List.set_cons_succ]
  refine walkX_call (o := _) (by rw [HOPS.out]; simp only [List.getElem?_toArray, List.getElem?_cons_succ, List.getElem?_cons_zero]; exact rfl) (fun K HK => ?_)
  refine step_invoke rfl "aqueduct/stream.held" (.tmp 14) #[] #[] rfl (.iface st su) (by simp [Act.eval]) #[] (by simp [Act.eval]) (sto_held (HH.out.keep0 g1).s) ?_
  rintro e w2 ⟨u, rfl, f2, o2⟩
  have g2 := g1.then0 f2
  refine ⟨_, rfl, ?_⟩
  refine HK.out (fun w' => Fr [] w w') _ _ (fun _ h => h) (g2) ?_
  clear HK K
  simp only [Act.put, List.setIfInBounds_toArray, List.set_cons_zero, List.set_cons_succ]
  refine walkX_call (o := _) (by rw [HOPS.out]; simp only [List.getElem?_toArray, List.getElem?_cons_succ, List.getElem?_cons_zero]; exact rfl) (fun K HK => ?_)
  refine step_call rfl 89 #[(.tmp 23)] #[57] rfl HEB.out #[.agg #[.slice a P.length cap, .int .i64 (tot P)]] (by simp [Act.eval]) (rope_bytes (HH.out.keep0 g2).p) ?_
  rintro e w3 ⟨u', rfl, f3, o3⟩
  have g3 := g2.then0 f3
  obtain ⟨ga, gc, rfl, _⟩ := o2.formB
  obtain ⟨ha, hc, rfl, _⟩ := o3.formB
  have hy3 := f3.keep (f2.keep (f1.keep (fd.keep HX.out (by simp)) (by simp)) (by simp)) (by simp)
  refine ⟨_, rfl, ?_⟩
  refine HK.out (fun w' => Fr [] w w') _ _ (fun _ h => h) (g3) ?_
  clear HK K
  simp only [Act.put, List.setIfInBounds_toArray, List.set_cons_zero, List.set_cons_succ]
  refine walkX_take (o := _) (v := ?_) (by rw [HOPS.out]; simp only [List.getElem?_toArray, List.getElem?_cons_succ, List.getElem?_cons_zero]; exact rfl) (Or.inl ⟨rfl, ?_⟩) ?_
  rotate_left
  · (intro w hSw; have hSx := HFA.out _ hSw; (try dsimp only at hSx); clear hSw; go_simp) <;> (with_reducible rfl)
  simp only [Act.put, List.setIfInBounds_toArray, List.set_cons_zero, List.set_cons_succ]
  refine walkX_tail ?_
  refine walkTail_step (o := _) (by rw [HOPS.out]; simp only [List.getElem?_toArray, List.getElem?_cons_succ, List.getElem?_cons_zero]; exact rfl) (fun K HK => ?_)
  refine step_store_row rfl 41 (.tmp 2) (.tmp 39) rfl w.heap.size #[.int .i64 m.c, .slice ga m.q.length gc, .bool m.busy, .slice ha (List.length P.flatten) hc, .int .i64 m.acc, .int .i64 m.w, .int .i64 m.r] (by simp [Act.eval]) (by simp [Act.eval]) _ _ hy3 (by kernel_rfl) rfl (by simp [Value.oneCell']) ?_
  intro wf ff qf
  refine HK.out _ _ ?_
  clear HK K
  try simp only [Act.put, List.setIfInBounds_toArray, List.set_cons_zero, List.set_cons_succ]
  refine walkTail_done ?_
  clear HOPS OPS
  have HO2 := Lib.hid (o2.keep (f3.trans ff (U := [w.heap.size]) (by simp) (fun _ h => .inl h)) (fun k e hm => by simp at hm; have := (o2.lt k e).1; have := g1.size; have := fd.size; have := f1.size; omega))
  have HO3 := Lib.hid (o3.keep ff (fun k e hm => by simp at hm; have := (o3.lt k e).1; have := g1.size; have := f1.size; have := f2.size; have := fd.size; omega))
  have hz := g1.size
  have hz2 := g2.size
  have HG := Lib.hid (g3.trans ff (U := []) (by simp) (fun x hx => .inr (by simp at hx; omega)))
  obtain ⟨x0, x1, x2, x3, x4, x5, x6⟩ : wf.cell? ⟨w.heap.size, 0, none⟩ = some (.int .i64 m.c) ∧ wf.cell? ⟨w.heap.size, 1, none⟩ = some (.slice ga m.q.length gc) ∧ wf.cell? ⟨w.heap.size, 2, none⟩ = some (.bool m.busy) ∧ wf.cell? ⟨w.heap.size, 3, none⟩ = some (.slice ha (List.length P.flatten) hc) ∧ wf.cell? ⟨w.heap.size, 4, none⟩ = some (.int .i64 m.acc) ∧ wf.cell? ⟨w.heap.size, 5, none⟩ = some (.int .i64 m.w) ∧ wf.cell? ⟨w.heap.size, 6, none⟩ = some (.int .i64 m.r) := ⟨cell_of qf, cell_of qf, cell_of qf, cell_of qf, cell_of qf, cell_of qf, cell_of qf⟩
  have HQF := Lib.hid qf
  clear qf ff o2 o3 hy3 f1 f2 f3 g1 g2 g3 fd HFA HEB
  go_wp2_with fail
  obtain ⟨ds, hds⟩ : ∃ d, Try.prog.underlying 41 = some d := ⟨_, Try.underlying41⟩
  refine bodyPost_ret (v := .agg #[.int .i64 m.c, .slice ga m.q.length gc, .bool m.busy, .slice ha (List.length P.flatten) hc, .int .i64 m.acc, .int .i64 m.w, .int .i64 m.r]) (by simp [results, Try.results42, go_sem, x0, x1, x2, x3, x4, x5, x6]) rfl ?_
  refine ⟨_, rfl, HG.out, _, _, rfl, HO2.out.mono hz, ?_⟩
  rw [← HE.out]
  exact HO3.out.mono hz2
end
end Go.Proofs.Ytdoamelhclnphaa
