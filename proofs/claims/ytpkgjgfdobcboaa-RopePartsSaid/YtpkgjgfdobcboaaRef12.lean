/-
  The reference of layer 12: what its functions return, next to the model of package meet.
-/
import Derived.Test.YtpkgjgfdobcboaaActs12
import Derived.BigRegion
namespace Go.Proofs.Ytpkgjgfdobcboaa
open Go.RowKit
set_option maxRecDepth 100000

def refV (m : MM) (O : List UInt8) : Value := .agg #[.bool m.off, .string (st O), .int .i64 m.tk, .int .i64 m.w, .int .i64 m.r]
/-- What a stream and the reference's whole offer have to do with each other. -/
structure OK12 (m : MM) (O : List UInt8) : Prop where
  le : m.tk ≤ O.length
  rest : O.drop m.tk = m.s
  max : O.length ≤ 65536
  r : -9223372036854775808 ≤ m.r ∧ m.r ≤ 9223372036854775807
  w : -9223372036854775808 ≤ m.w ∧ m.w ≤ 9223372036854775807
/-- The reference's value of a stream. -/
def RV (m : MM) (v : Value) : Prop := ∃ O, v = refV m O ∧ OK12 m O
theorem OK12.new : OK12 ⟨0, 0, false, [], 0⟩ [] := ⟨by simp, rfl, by simp, by simp, by simp⟩
theorem OK12.same {r wd : Int} {off : Bool} {s : List UInt8} {tk : Nat} {O : List UInt8} (h : OK12 ⟨r, wd, off, s, tk⟩ O) {r' wd' : Int} {off' : Bool} (hr : -9223372036854775808 ≤ r' ∧ r' ≤ 9223372036854775807) (hw : -9223372036854775808 ≤ wd' ∧ wd' ≤ 9223372036854775807) : OK12 ⟨r', wd', off', s, tk⟩ O :=
  ⟨h.le, h.rest, h.max, hr, hw⟩
theorem OK12.none_ {r wd : Int} {off : Bool} {s : List UInt8} {tk : Nat} {O : List UInt8} (h : OK12 ⟨r, wd, off, s, tk⟩ O) : OK12 ⟨r, wd, false, [], 0⟩ [] :=
  ⟨by simp, rfl, by simp, h.r, h.w⟩

/-- A slice of a string from some place on. -/
theorem run_from (O : List UInt8) (tk : Nat) (h : tk ≤ O.length) (w : World) : (Instr.slice 9 (.string (st O)) (some (.int .i64 tk)) none none).run Try.prog w = .ok (.string (st (O.drop tk))) w := by
  rw [run_slice_string_from_if (P := Try.prog) (w := w) 9 (st O) .i64 tk Try.underlying9, if_pos ⟨by omega, by rw [st_size]; omega⟩, st_size, st_extract]
  congr 3
  rw [List.take_of_length_le (Nat.le_refl _)]
  simp
theorem run_to (O : List UInt8) (n : Nat) (h : n ≤ O.length) (w : World) : (Instr.slice 9 (.string (st O)) none (some (.int .i64 n)) none).run Try.prog w = .ok (.string (st (O.take n))) w := by
  rw [run_slice_string_to_if (P := Try.prog) (w := w) 9 (st O) .i64 n Try.underlying9, if_pos ⟨by omega, by rw [st_size]; omega⟩, st_extract]
  congr 3

theorem ref_left {m : MM} {O : List UInt8} (h : OK12 m O) (w : World) :
    Calls Try.prog 73 #[refV m O] w fun e w' => e = .returned (.string (st m.s)) ∧ Fr [] w w' := by
  obtain ⟨h1, h2, h3, _⟩ := h
  obtain ⟨r, wd, off, s, tk⟩ := m
  dsimp only at h1 h2 h3
  have hr := run_from O tk h1
  rw [h2] at hr
  unfold refV
  dsimp only
  go_enter Try.func73, Try.ntmps73
  go_wp2_with fail
  go_ret
  exact ⟨rfl, (Fr.refl _ _).alloc _⟩
def RPost (s : ER) (w : World) (e : Ending) (w' : World) : Prop := ∃ O, e = .returned (.tuple #[refV s.m O, .int .i64 s.err]) ∧ OK12 s.m O ∧ Fr [] w w'
def RNPost (s : NR) (w : World) (e : Ending) (w' : World) : Prop := ∃ O, e = .returned (.tuple #[refV s.m O, .int .i64 s.n, .int .i64 s.err]) ∧ OK12 s.m O ∧ Fr [] w w'
def RTPost (s : TkR) (w : World) (e : Ending) (w' : World) : Prop := ∃ O, e = .returned (.tuple #[refV s.m O, .string (st s.out), .int .i64 s.err]) ∧ OK12 s.m O ∧ Fr [] w w'

set_option maxHeartbeats 2000000 in
theorem ref_offer {r wd : Int} {off : Bool} {s : List UInt8} {tk : Nat} {O : List UInt8} (h : OK12 ⟨r, wd, off, s, tk⟩ O) {s1 : List UInt8} (hs : s1.length ≤ 65536) (w : World) :
    Calls Try.prog 107 #[refV ⟨r, wd, off, s, tk⟩ O, .string (st s1)] w (RPost (mOfferR ⟨r, wd, off, s, tk⟩ s1) w) := by
  have H := Lib.hid h
  clear h
  unfold refV
  dsimp only
  have HS := Lib.hid hs
  clear hs
  unfold mOfferR
  dsimp only
  cases off
  · rw [if_neg (by simp)]
    by_cases hr : r = 0
    · subst hr
      rw [if_neg (by simp)]
      by_cases hw : wd = 0
      · subst hw
        rw [if_neg (by simp)]
        go_enter Try.func107, Try.ntmps107
        go_wp2_with fail
        exact bodyPost_ret (v := .tuple #[.agg #[.bool true, .string (st s1), .int .i64 0, .int .i64 0, .int .i64 0], .int .i64 0]) (by simp [results, Try.results107, go_sem]) rfl ⟨s1, rfl, ⟨by simp, by simp, HS.out, by simp, by simp⟩, ((Fr.refl _ _).alloc _).alloc _⟩
      · rw [if_pos hw]
        obtain ⟨n1, n2⟩ := ne0 hw
        clear hw
        go_enter Try.func107, Try.ntmps107
        go_wp2_with fail
        exact bodyPost_ret (v := .tuple #[.agg #[.bool false, .string (st O), .int .i64 tk, .int .i64 wd, .int .i64 0], .int .i64 14]) (by simp [results, Try.results107, go_sem]) rfl ⟨O, rfl, H.out, ((Fr.refl _ _).alloc _).alloc _⟩
    · rw [if_pos hr]
      obtain ⟨n1, n2⟩ := ne0 hr
      clear hr
      go_enter Try.func107, Try.ntmps107
      go_wp2_with fail
      go_region
      go_wp2_with fail
      exact bodyPost_ret (v := .tuple #[.agg #[.bool false, .string (st O), .int .i64 tk, .int .i64 wd, .int .i64 r], .int .i64 r]) (by simp [results, Try.results107, go_sem]) rfl ⟨O, rfl, H.out, (((Fr.refl _ _).alloc _).alloc _).drewN _⟩
  · rw [if_pos rfl]
    go_enter Try.func107, Try.ntmps107
    go_wp2_with fail
    exact bodyPost_ret (v := .tuple #[.agg #[.bool true, .string (st O), .int .i64 tk, .int .i64 wd, .int .i64 r], .int .i64 11]) (by simp [results, Try.results107, go_sem]) rfl ⟨O, rfl, H.out, ((Fr.refl _ _).alloc _).alloc _⟩
set_option maxHeartbeats 2000000 in
theorem ref_closew {r wd : Int} {off : Bool} {s : List UInt8} {tk : Nat} {O : List UInt8} (h : OK12 ⟨r, wd, off, s, tk⟩ O) {x : Int} (hx : -9223372036854775808 ≤ x ∧ x ≤ 9223372036854775807) (w : World) :
    Calls Try.prog 111 #[refV ⟨r, wd, off, s, tk⟩ O, .int .i64 x] w (RPost (mCloseW ⟨r, wd, off, s, tk⟩ x) w) := by
  have H := Lib.hid h
  clear h
  unfold refV
  dsimp only
  have HX := Lib.hid hx
  clear hx
  unfold mCloseW
  dsimp only
  by_cases hx : x = 0
  · subst hx
    rw [if_pos rfl]
    go_enter Try.func111, Try.ntmps111
    go_wp2_with fail
    exact bodyPost_ret (v := .tuple #[.agg #[.bool off, .string (st O), .int .i64 tk, .int .i64 wd, .int .i64 r], .int .i64 2]) (by simp [results, Try.results111, go_sem]) rfl ⟨O, rfl, H.out, ((Fr.refl _ _).alloc _).alloc _⟩
  · rw [if_neg hx]
    obtain ⟨n1, n2⟩ := ne0 hx
    by_cases hw : wd = 0
    · subst hw
      rw [if_neg (by simp)]
      go_enter Try.func111, Try.ntmps111
      go_wp2_with fail
      exact bodyPost_ret (v := .tuple #[.agg #[.bool off, .string (st O), .int .i64 tk, .int .i64 x, .int .i64 r], .int .i64 0]) (by simp [results, Try.results111, go_sem]) rfl ⟨O, rfl, H.out.same H.out.r HX.out, ((Fr.refl _ _).alloc _).alloc _⟩
    · rw [if_pos hw]
      obtain ⟨n3, n4⟩ := ne0 hw
      clear hw
      go_enter Try.func111, Try.ntmps111
      go_wp2_with fail
      exact bodyPost_ret (v := .tuple #[.agg #[.bool off, .string (st O), .int .i64 tk, .int .i64 wd, .int .i64 r], .int .i64 8]) (by simp [results, Try.results111, go_sem]) rfl ⟨O, rfl, H.out, ((Fr.refl _ _).alloc _).alloc _⟩
set_option maxHeartbeats 2000000 in
theorem ref_closer {r wd : Int} {off : Bool} {s : List UInt8} {tk : Nat} {O : List UInt8} (h : OK12 ⟨r, wd, off, s, tk⟩ O) {x : Int} (hx : -9223372036854775808 ≤ x ∧ x ≤ 9223372036854775807) (w : World) :
    Calls Try.prog 112 #[refV ⟨r, wd, off, s, tk⟩ O, .int .i64 x] w (RPost (mCloseR ⟨r, wd, off, s, tk⟩ x) w) := by
  have H := Lib.hid h
  clear h
  unfold refV
  dsimp only
  have HX := Lib.hid hx
  clear hx
  unfold mCloseR
  dsimp only
  by_cases hx : x = 0
  · subst hx
    rw [if_pos rfl]
    go_enter Try.func112, Try.ntmps112
    go_wp2_with fail
    exact bodyPost_ret (v := .tuple #[.agg #[.bool off, .string (st O), .int .i64 tk, .int .i64 wd, .int .i64 r], .int .i64 2]) (by simp [results, Try.results112, go_sem]) rfl ⟨O, rfl, H.out, ((Fr.refl _ _).alloc _).alloc _⟩
  · rw [if_neg hx]
    obtain ⟨n1, n2⟩ := ne0 hx
    by_cases hw : r = 0
    · subst hw
      rw [if_neg (by simp)]
      go_enter Try.func112, Try.ntmps112
      go_wp2_with fail
      exact bodyPost_ret (v := .tuple #[.agg #[.bool off, .string (st O), .int .i64 tk, .int .i64 wd, .int .i64 x], .int .i64 0]) (by simp [results, Try.results112, go_sem]) rfl ⟨O, rfl, H.out.same HX.out H.out.w, ((Fr.refl _ _).alloc _).alloc _⟩
    · rw [if_pos hw]
      obtain ⟨n3, n4⟩ := ne0 hw
      clear hw
      go_enter Try.func112, Try.ntmps112
      go_wp2_with fail
      exact bodyPost_ret (v := .tuple #[.agg #[.bool off, .string (st O), .int .i64 tk, .int .i64 wd, .int .i64 r], .int .i64 8]) (by simp [results, Try.results112, go_sem]) rfl ⟨O, rfl, H.out, ((Fr.refl _ _).alloc _).alloc _⟩
set_option maxHeartbeats 2000000 in
theorem ref_withdraw {r wd : Int} {off : Bool} {s : List UInt8} {tk : Nat} {O : List UInt8} (h : OK12 ⟨r, wd, off, s, tk⟩ O) (w : World) :
    Calls Try.prog 110 #[refV ⟨r, wd, off, s, tk⟩ O] w (RNPost (mWithdraw ⟨r, wd, off, s, tk⟩) w) := by
  have H := Lib.hid h
  clear h
  unfold refV
  dsimp only
  unfold mWithdraw
  dsimp only
  cases off
  · rw [if_neg (by simp)]
    go_enter Try.func110, Try.ntmps110
    go_wp2_with fail
    exact bodyPost_ret (v := .tuple #[.agg #[.bool false, .string (st O), .int .i64 tk, .int .i64 wd, .int .i64 r], .int .i64 0, .int .i64 9]) (by simp [results, Try.results110, go_sem]) rfl ⟨O, rfl, H.out, ((Fr.refl _ _).alloc _).alloc _⟩
  · rw [if_pos rfl]
    go_enter Try.func110, Try.ntmps110
    go_wp2_with fail
    exact bodyPost_ret (v := .tuple #[.agg #[.bool false, .string { data := #[] }, .int .i64 0, .int .i64 wd, .int .i64 r], .int .i64 tk, .int .i64 0]) (by simp [results, Try.results110, go_sem]) rfl ⟨[], rfl, H.out.none_, ((Fr.refl _ _).alloc _).alloc _⟩
structure C5 (w : World) (b : Nat) (v0 v1 v2 v3 v4 : Value) : Prop where
  c0 : w.cell? ⟨b, 0, none⟩ = some v0
  c1 : w.cell? ⟨b, 1, none⟩ = some v1
  c2 : w.cell? ⟨b, 2, none⟩ = some v2
  c3 : w.cell? ⟨b, 3, none⟩ = some v3
  c4 : w.cell? ⟨b, 4, none⟩ = some v4
  f0 : w.frozen? ⟨b, 0, none⟩ = false
  f1 : w.frozen? ⟨b, 1, none⟩ = false
  f2 : w.frozen? ⟨b, 2, none⟩ = false
  f3 : w.frozen? ⟨b, 3, none⟩ = false
  f4 : w.frozen? ⟨b, 4, none⟩ = false
theorem c5 {w : World} {b : Nat} {v0 v1 v2 v3 v4 : Value} {t : TypeId} (h : w.heap[b]? = some (.cells #[v0, v1, v2, v3, v4] t (0, 0))) : C5 w b v0 v1 v2 v3 v4 :=
  ⟨cell_of h, cell_of h, cell_of h, cell_of h, cell_of h, free_of h, free_of h, free_of h, free_of h, free_of h⟩
theorem set5 {w : World} {B : Nat} {c0 c1 c2 c3 c4 u0 u1 u2 u3 u4 : Value} {t : TypeId} {f : Nat × Nat} (h : w.heap[B]? = some (.cells #[c0, c1, c2, c3, c4] t f)) : (((((w.setCell ⟨B, 0, none⟩ u0).setCell ⟨B, 1, none⟩ u1).setCell ⟨B, 2, none⟩ u2).setCell ⟨B, 3, none⟩ u3).setCell ⟨B, 4, none⟩ u4).heap[B]? = some (.cells #[u0, u1, u2, u3, u4] t f) := by
  have h1 := heap_setCell_eq (i := 4) (u := u4) (heap_setCell_eq (i := 3) (u := u3) (heap_setCell_eq (i := 2) (u := u2) (heap_setCell_eq (i := 1) (u := u1) (heap_setCell_eq (i := 0) (u := u0) h))))
  simpa using h1
set_option maxHeartbeats 2000000 in
theorem ref_result {r wd : Int} {off : Bool} {s : List UInt8} {tk : Nat} {O : List UInt8} (h : OK12 ⟨r, wd, off, s, tk⟩ O) (w : World) :
    Calls Try.prog 109 #[refV ⟨r, wd, off, s, tk⟩ O] w (RNPost (mResult ⟨r, wd, off, s, tk⟩) w) := by
  have H := Lib.hid h
  clear h
  unfold refV
  dsimp only
  have hoff : off = true ∨ off = false := by cases off <;> simp
  rcases hoff with rfl | rfl
  · have hrl := fun w => ref_left H.out w
    have hwd := fun w => ref_withdraw H.out w
    unfold refV at hrl
    dsimp only at hrl
    unfold mWithdraw RNPost refV at hwd
    simp only [if_true] at hwd
    have HL := Lib.hid hrl
    have HW := Lib.hid hwd
    clear hrl hwd
    by_cases hr : r = 0
    · subst hr
      by_cases hw : wd = 0
      · subst hw
        by_cases hs : s = []
        · subst hs
          have eM : mResult ⟨0, 0, true, [], tk⟩ = ⟨⟨0, 0, false, [], 0⟩, tk, 0⟩ := by simp [mResult, mWithdraw]
          rw [eM]
          clear eM
          go_enter Try.func109, Try.ntmps109
          go_wp2_with fail
          refine (HL.out _).mono ?_
          rintro e w1 ⟨rfl, f1⟩
          have g1 : Fr [] w w1 := (((Fr.refl [] w).alloc _).alloc _).then0 f1
          have z1 := f1.size
          have k1 : w1.heap[w.heap.size]? = some (.cells #[.bool true, .string (st O), .int .i64 tk, .int .i64 0, .int .i64 0] 112 (0, 0)) := f1.keep (keepA (newA rfl)) (by simp)
          obtain ⟨q101, q111, q121, q131, q141, q151, q161, q171, q181, q191⟩ := c5 k1
          have k2 : w1.heap[w.heap.size + 1]? = some (.cells #[.bool false, .string { data := #[] }, .int .i64 0, .int .i64 0, .int .i64 0] 112 (0, 0)) := f1.keep (newA (by simp)) (by simp)
          obtain ⟨q201, q211, q221, q231, q241, q251, q261, q271, q281, q291⟩ := c5 k2
          simp at z1
          clear f1
          go_wp2_with fail
          refine (HW.out _).mono ?_
          rintro e w2 ⟨O2, rfl, K2, f2⟩
          have g2 := g1.then0 f2
          have z2 := f2.size
          replace k2 := f2.keep k2 (by simp)
          obtain ⟨q202, q212, q222, q232, q242, q252, q262, q272, q282, q292⟩ := c5 k2
          clear f2
          go_wp2_with fail
          exact bodyPost_ret (v := .tuple #[.agg #[.bool false, .string (st O2), .int .i64 0, .int .i64 0, .int .i64 0], .int .i64 tk, .int .i64 0]) (by simp [results, Try.results109, go_sem, q202, q212, q222, q232, q242]) rfl ⟨_, rfl, K2, (((((g2.setCell (.inr (by dsimp only; omega)) _).setCell (.inr (by dsimp only; omega)) _).setCell (.inr (by dsimp only; omega)) _).setCell (.inr (by dsimp only; omega)) _).setCell (.inr (by dsimp only; omega)) _)⟩

        · have eM : mResult ⟨0, 0, true, s, tk⟩ = ⟨⟨0, 0, true, s, tk⟩, 0, 16⟩ := by simp [mResult, mWithdraw, hs]
          rw [eM]
          clear eM
          have hsE : (s == []) = false := by simpa using hs
          have hsE2 : s.isEmpty = false := by simpa using hs
          clear hs
          go_enter Try.func109, Try.ntmps109
          go_wp2_with fail
          refine (HL.out _).mono ?_
          rintro e w1 ⟨rfl, f1⟩
          have g1 : Fr [] w w1 := (((Fr.refl [] w).alloc _).alloc _).then0 f1
          have z1 := f1.size
          have k1 : w1.heap[w.heap.size]? = some (.cells #[.bool true, .string (st O), .int .i64 tk, .int .i64 0, .int .i64 0] 112 (0, 0)) := f1.keep (keepA (newA rfl)) (by simp)
          obtain ⟨q101, q111, q121, q131, q141, q151, q161, q171, q181, q191⟩ := c5 k1
          have k2 : w1.heap[w.heap.size + 1]? = some (.cells #[.bool false, .string { data := #[] }, .int .i64 0, .int .i64 0, .int .i64 0] 112 (0, 0)) := f1.keep (newA (by simp)) (by simp)
          obtain ⟨q201, q211, q221, q231, q241, q251, q261, q271, q281, q291⟩ := c5 k2
          simp at z1
          clear f1
          go_wp2_with fail
          exact bodyPost_ret (v := .tuple #[.agg #[.bool true, .string (st O), .int .i64 tk, .int .i64 0, .int .i64 0], .int .i64 0, .int .i64 16]) (by simp [results, Try.results109, go_sem, q201, q211, q221, q231, q241]) rfl ⟨O, rfl, H.out, (((((g1.setCell (.inr (by dsimp only; omega)) _).setCell (.inr (by dsimp only; omega)) _).setCell (.inr (by dsimp only; omega)) _).setCell (.inr (by dsimp only; omega)) _).setCell (.inr (by dsimp only; omega)) _)⟩

      · obtain ⟨n1, n2⟩ := ne0 hw
        have eM : mResult ⟨0, wd, true, s, tk⟩ = ⟨⟨0, wd, false, [], 0⟩, tk, 0⟩ := by simp [mResult, mWithdraw, hw]
        rw [eM]
        clear eM hw
        go_enter Try.func109, Try.ntmps109
        go_wp2_with fail
        refine (HW.out _).mono ?_
        rintro e w2 ⟨O2, rfl, K2, f2⟩
        have g2 : Fr [] w w2 := (((Fr.refl [] w).alloc _).alloc _).then0 f2
        have z2 := f2.size
        simp at z2
        have k2 : w2.heap[w.heap.size + 1]? = some (.cells #[.bool false, .string { data := #[] }, .int .i64 0, .int .i64 0, .int .i64 0] 112 (0, 0)) := f2.keep (newA (by simp)) (by simp)
        obtain ⟨q202, q212, q222, q232, q242, q252, q262, q272, q282, q292⟩ := c5 k2
        clear f2
        go_wp2_with fail
        exact bodyPost_ret (v := .tuple #[.agg #[.bool false, .string (st O2), .int .i64 0, .int .i64 wd, .int .i64 0], .int .i64 tk, .int .i64 0]) (by simp [results, Try.results109, go_sem, q202, q212, q222, q232, q242]) rfl ⟨_, rfl, K2, (((((g2.setCell (.inr (by dsimp only; omega)) _).setCell (.inr (by dsimp only; omega)) _).setCell (.inr (by dsimp only; omega)) _).setCell (.inr (by dsimp only; omega)) _).setCell (.inr (by dsimp only; omega)) _)⟩

    · obtain ⟨n1, n2⟩ := ne0 hr
      have eM : mResult ⟨r, wd, true, s, tk⟩ = ⟨⟨r, wd, false, [], 0⟩, tk, 0⟩ := by simp [mResult, mWithdraw, hr]
      rw [eM]
      clear eM hr
      have hwd : wd = 0 ∨ wd ≠ 0 := by by_cases h : wd = 0; exact .inl h; exact .inr h
      rcases hwd with rfl | hw
      rotate_left
      · obtain ⟨n3, n4⟩ := ne0 hw
        clear hw
        go_enter Try.func109, Try.ntmps109
        go_wp2_with fail
        refine (HW.out _).mono ?_
        rintro e w2 ⟨O2, rfl, K2, f2⟩
        have g2 : Fr [] w w2 := (((Fr.refl [] w).alloc _).alloc _).then0 f2
        have z2 := f2.size
        simp at z2
        have k2 : w2.heap[w.heap.size + 1]? = some (.cells #[.bool false, .string { data := #[] }, .int .i64 0, .int .i64 0, .int .i64 0] 112 (0, 0)) := f2.keep (newA (by simp)) (by simp)
        obtain ⟨q202, q212, q222, q232, q242, q252, q262, q272, q282, q292⟩ := c5 k2
        clear f2
        go_wp2_with fail
        exact bodyPost_ret (v := .tuple #[.agg #[.bool false, .string (st O2), .int .i64 0, .int .i64 wd, .int .i64 r], .int .i64 tk, .int .i64 0]) (by simp [results, Try.results109, go_sem, q202, q212, q222, q232, q242]) rfl ⟨_, rfl, K2, (((((g2.setCell (.inr (by dsimp only; omega)) _).setCell (.inr (by dsimp only; omega)) _).setCell (.inr (by dsimp only; omega)) _).setCell (.inr (by dsimp only; omega)) _).setCell (.inr (by dsimp only; omega)) _)⟩

      ·
        go_enter Try.func109, Try.ntmps109
        go_wp2_with fail
        refine (HW.out _).mono ?_
        rintro e w2 ⟨O2, rfl, K2, f2⟩
        have g2 : Fr [] w w2 := (((Fr.refl [] w).alloc _).alloc _).then0 f2
        have z2 := f2.size
        simp at z2
        have k2 : w2.heap[w.heap.size + 1]? = some (.cells #[.bool false, .string { data := #[] }, .int .i64 0, .int .i64 0, .int .i64 0] 112 (0, 0)) := f2.keep (newA (by simp)) (by simp)
        obtain ⟨q202, q212, q222, q232, q242, q252, q262, q272, q282, q292⟩ := c5 k2
        clear f2
        go_wp2_with fail
        exact bodyPost_ret (v := .tuple #[.agg #[.bool false, .string (st O2), .int .i64 0, .int .i64 0, .int .i64 r], .int .i64 tk, .int .i64 0]) (by simp [results, Try.results109, go_sem, q202, q212, q222, q232, q242]) rfl ⟨_, rfl, K2, (((((g2.setCell (.inr (by dsimp only; omega)) _).setCell (.inr (by dsimp only; omega)) _).setCell (.inr (by dsimp only; omega)) _).setCell (.inr (by dsimp only; omega)) _).setCell (.inr (by dsimp only; omega)) _)⟩

  · have hwd := fun w => ref_withdraw H.out w
    unfold mWithdraw RNPost refV at hwd
    simp only [Bool.false_eq_true, if_false] at hwd
    have HW := Lib.hid hwd
    clear hwd
    have eM : mResult ⟨r, wd, false, s, tk⟩ = ⟨⟨r, wd, false, s, tk⟩, 0, 9⟩ := by simp [mResult, mWithdraw]
    rw [eM]
    clear eM
    go_enter Try.func109, Try.ntmps109
    go_wp2_with fail
    refine (HW.out _).mono ?_
    rintro e w2 ⟨O2, rfl, K2, f2⟩
    have g2 : Fr [] w w2 := (((Fr.refl [] w).alloc _).alloc _).then0 f2
    have z2 := f2.size
    simp at z2
    have k2 : w2.heap[w.heap.size + 1]? = some (.cells #[.bool false, .string { data := #[] }, .int .i64 0, .int .i64 0, .int .i64 0] 112 (0, 0)) := f2.keep (newA (by simp)) (by simp)
    obtain ⟨q202, q212, q222, q232, q242, q252, q262, q272, q282, q292⟩ := c5 k2
    clear f2
    go_wp2_with fail
    exact bodyPost_ret (v := .tuple #[.agg #[.bool false, .string (st O2), .int .i64 tk, .int .i64 wd, .int .i64 r], .int .i64 0, .int .i64 9]) (by simp [results, Try.results109, go_sem, q202, q212, q222, q232, q242]) rfl ⟨_, rfl, K2, (((((g2.setCell (.inr (by dsimp only; omega)) _).setCell (.inr (by dsimp only; omega)) _).setCell (.inr (by dsimp only; omega)) _).setCell (.inr (by dsimp only; omega)) _).setCell (.inr (by dsimp only; omega)) _)⟩

theorem cut12 {r wd : Int} {off : Bool} {s : List UInt8} {tk : Nat} {O : List UInt8} (h : OK12 ⟨r, wd, off, s, tk⟩ O) (n : Nat) (hn : n ≤ s.length) : OK12 ⟨r, wd, off, s.drop n, tk + n⟩ O := by
  have hl : O.length = tk + s.length := by
    have h1 := h.le
    have h2 := congrArg List.length h.rest
    dsimp only at h1 h2
    rw [List.length_drop] at h2
    omega
  refine ⟨?_, ?_, h.max, h.r, h.w⟩
  · dsimp only
    omega
  · have h2 := h.rest
    dsimp only at h2 ⊢
    rw [← h2, List.drop_drop]
set_option maxHeartbeats 2000000 in
theorem ref_take {r wd : Int} {off : Bool} {s : List UInt8} {tk : Nat} {O : List UInt8} (h : OK12 ⟨r, wd, off, s, tk⟩ O) {x : Int} (hx : -9223372036854775808 ≤ x ∧ x ≤ 9223372036854775807) (w : World) :
    Calls Try.prog 108 #[refV ⟨r, wd, off, s, tk⟩ O, .int .i64 x] w (RTPost (mTake ⟨r, wd, off, s, tk⟩ x) w) := by
  have H := Lib.hid h
  clear h
  unfold refV
  dsimp only
  have hrl := fun w => ref_left H.out w
  unfold refV at hrl
  dsimp only at hrl
  have HL := Lib.hid hrl
  clear hrl
  obtain ⟨hx1, hx2⟩ := hx
  by_cases h1 : x < 0
  · have eM : mTake ⟨r, wd, off, s, tk⟩ x = ⟨⟨r, wd, off, s, tk⟩, [], 2⟩ := by unfold mTake; rw [if_pos h1]
    rw [eM]
    clear eM
    go_enter Try.func108, Try.ntmps108
    go_wp2_with fail
    exact bodyPost_ret (v := .tuple #[.agg #[.bool off, .string (st O), .int .i64 tk, .int .i64 wd, .int .i64 r], .string { data := #[] }, .int .i64 2]) (by simp [results, Try.results108, go_sem]) rfl ⟨O, rfl, H.out, ((Fr.refl _ _).alloc _).alloc _⟩
  by_cases h2 : x = 0
  · subst h2
    have eM : mTake ⟨r, wd, off, s, tk⟩ 0 = ⟨⟨r, wd, off, s, tk⟩, [], 0⟩ := by unfold mTake; rw [if_neg h1, if_pos rfl]
    rw [eM]
    clear eM h1
    go_enter Try.func108, Try.ntmps108
    go_wp2_with fail
    exact bodyPost_ret (v := .tuple #[.agg #[.bool off, .string (st O), .int .i64 tk, .int .i64 wd, .int .i64 r], .string { data := #[] }, .int .i64 0]) (by simp [results, Try.results108, go_sem]) rfl ⟨O, rfl, H.out, ((Fr.refl _ _).alloc _).alloc _⟩
  obtain ⟨m1, m2⟩ := ne0 h2
  have hp : 0 < x := by omega
  by_cases hr : r ≠ 0
  · have eM : mTake ⟨r, wd, off, s, tk⟩ x = ⟨⟨r, wd, off, s, tk⟩, [], r⟩ := by unfold mTake; rw [if_neg h1, if_neg h2, if_pos hr]
    rw [eM]
    obtain ⟨n1, n2⟩ := ne0 hr
    clear eM hr h2
    go_enter Try.func108, Try.ntmps108
    go_wp2_with fail
    go_region
    go_wp2_with fail
    exact bodyPost_ret (v := .tuple #[.agg #[.bool off, .string (st O), .int .i64 tk, .int .i64 wd, .int .i64 r], .string { data := #[] }, .int .i64 r]) (by simp [results, Try.results108, go_sem]) rfl ⟨O, rfl, H.out, (((Fr.refl _ _).alloc _).alloc _).drewN _⟩
  have hr' : r = 0 := by omega
  subst hr'
  by_cases hw : wd ≠ 0
  · have eM : mTake ⟨0, wd, off, s, tk⟩ x = ⟨⟨0, wd, off, s, tk⟩, [], wd⟩ := by unfold mTake; rw [if_neg h1, if_neg h2, if_neg hr, if_pos hw]
    rw [eM]
    obtain ⟨n1, n2⟩ := ne0 hw
    clear eM hw hr h2
    go_enter Try.func108, Try.ntmps108
    go_wp2_with fail
    go_region
    go_wp2_with fail
    exact bodyPost_ret (v := .tuple #[.agg #[.bool off, .string (st O), .int .i64 tk, .int .i64 wd, .int .i64 0], .string { data := #[] }, .int .i64 wd]) (by simp [results, Try.results108, go_sem]) rfl ⟨O, rfl, H.out, (((Fr.refl _ _).alloc _).alloc _).drewN _⟩
  have hw' : wd = 0 := by omega
  subst hw'
  clear hw hr
  by_cases hs : s = []
  · have eM : mTake ⟨0, 0, off, s, tk⟩ x = ⟨⟨0, 0, off, s, tk⟩, [], 16⟩ := by unfold mTake; rw [if_neg h1, if_neg h2, if_neg (by simp), if_neg (by simp), if_pos hs]
    rw [eM]
    clear eM h2
    have hsE : (s == []) = true := by simpa using hs
    have hsE2 : s.isEmpty = true := by simpa using hs
    clear hs
    go_enter Try.func108, Try.ntmps108
    go_wp2_with fail
    refine (HL.out _).mono ?_
    rintro e w1 ⟨rfl, f1⟩
    have g1 : Fr [] w w1 := (((Fr.refl [] w).alloc _).alloc _).then0 f1
    have z1 := f1.size
    have k1 : w1.heap[w.heap.size]? = some (.cells #[.bool off, .string (st O), .int .i64 tk, .int .i64 0, .int .i64 0] 112 (0, 0)) := f1.keep (keepA (newA rfl)) (by simp)
    obtain ⟨q101, q111, q121, q131, q141, q151, q161, q171, q181, q191⟩ := c5 k1
    have k2 : w1.heap[w.heap.size + 1]? = some (.cells #[.bool false, .string { data := #[] }, .int .i64 0, .int .i64 0, .int .i64 0] 112 (0, 0)) := f1.keep (newA (by simp)) (by simp)
    obtain ⟨q201, q211, q221, q231, q241, q251, q261, q271, q281, q291⟩ := c5 k2
    simp at z1
    clear f1
    go_wp2_with fail
    exact bodyPost_ret (v := .tuple #[.agg #[.bool off, .string (st O), .int .i64 tk, .int .i64 0, .int .i64 0], .string { data := #[] }, .int .i64 16]) (by simp [results, Try.results108, go_sem, q201, q211, q221, q231, q241]) rfl ⟨O, rfl, H.out, (((((g1.setCell (.inr (by dsimp only; omega)) _).setCell (.inr (by dsimp only; omega)) _).setCell (.inr (by dsimp only; omega)) _).setCell (.inr (by dsimp only; omega)) _).setCell (.inr (by dsimp only; omega)) _)⟩

  have eM : mTake ⟨0, 0, off, s, tk⟩ x = ⟨⟨0, 0, off, s.drop x.toNat, tk + (s.take x.toNat).length⟩, s.take x.toNat, 0⟩ := by unfold mTake; rw [if_neg h1, if_neg h2, if_neg (by simp), if_neg (by simp), if_neg hs]
  rw [eM]
  have hsE : (s == []) = false := by simpa using hs
  have hsE2 : s.isEmpty = false := by simpa using hs
  have hmax : (tk : Int) + s.length ≤ 65536 := by
    have h1 := H.out.le
    have h2 := congrArg List.length H.out.rest
    have h3 := H.out.max
    dsimp only at h1 h2 h3
    rw [List.length_drop] at h2
    omega
  clear eM h2 hs
  by_cases hgt : (s.length : Int) < x
  · have e1 : s.take x.toNat = s := List.take_of_length_le (by omega)
    have e2 : s.drop x.toNat = [] := List.drop_eq_nil_of_le (by omega)
    rw [e1, e2]
    have hc := cut12 H.out s.length (Nat.le_refl _)
    rw [List.drop_length] at hc
    have HC := Lib.hid hc
    have hrun := run_to s s.length (Nat.le_refl _)
    rw [List.take_length] at hrun
    clear e1 e2 hc
    go_enter Try.func108, Try.ntmps108
    go_wp2_with fail
    refine (HL.out _).mono ?_
    rintro e w1 ⟨rfl, f1⟩
    have g1 : Fr [] w w1 := (((Fr.refl [] w).alloc _).alloc _).then0 f1
    have z1 := f1.size
    have k1 : w1.heap[w.heap.size]? = some (.cells #[.bool off, .string (st O), .int .i64 tk, .int .i64 0, .int .i64 0] 112 (0, 0)) := f1.keep (keepA (newA rfl)) (by simp)
    obtain ⟨q101, q111, q121, q131, q141, q151, q161, q171, q181, q191⟩ := c5 k1
    have k2 : w1.heap[w.heap.size + 1]? = some (.cells #[.bool false, .string { data := #[] }, .int .i64 0, .int .i64 0, .int .i64 0] 112 (0, 0)) := f1.keep (newA (by simp)) (by simp)
    obtain ⟨q201, q211, q221, q231, q241, q251, q261, q271, q281, q291⟩ := c5 k2
    simp at z1
    clear f1
    go_wp2_with fail
    go_region
    go_wp2_with fail
    exact bodyPost_ret (v := .tuple #[.agg #[.bool off, .string (st O), .int .i64 (tk + s.length : Nat), .int .i64 0, .int .i64 0], .string (st s), .int .i64 0]) (by simp [results, Try.results108, go_sem, q201, q211, q221, q231, q241]) rfl ⟨O, rfl, HC.out, (((((((g1.setCell (.inr (by dsimp only; omega)) _).setCell (.inr (by dsimp only; omega)) _).setCell (.inr (by dsimp only; omega)) _).setCell (.inr (by dsimp only; omega)) _).setCell (.inr (by dsimp only; omega)) _).setCell (.inr (by dsimp only; omega)) _).drewN _)⟩

  · obtain ⟨n, rfl⟩ := Int.eq_ofNat_of_zero_le (Int.le_of_lt hp)
    have hn : n ≤ s.length := by omega
    have hlen : (s.take n).length = n := by rw [List.length_take]; omega
    rw [Int.toNat_natCast, hlen]
    have HC := Lib.hid (cut12 H.out n hn)
    have hrun := run_to s n hn
    clear hlen
    go_enter Try.func108, Try.ntmps108
    go_wp2_with fail
    refine (HL.out _).mono ?_
    rintro e w1 ⟨rfl, f1⟩
    have g1 : Fr [] w w1 := (((Fr.refl [] w).alloc _).alloc _).then0 f1
    have z1 := f1.size
    have k1 : w1.heap[w.heap.size]? = some (.cells #[.bool off, .string (st O), .int .i64 tk, .int .i64 0, .int .i64 0] 112 (0, 0)) := f1.keep (keepA (newA rfl)) (by simp)
    obtain ⟨q101, q111, q121, q131, q141, q151, q161, q171, q181, q191⟩ := c5 k1
    have k2 : w1.heap[w.heap.size + 1]? = some (.cells #[.bool false, .string { data := #[] }, .int .i64 0, .int .i64 0, .int .i64 0] 112 (0, 0)) := f1.keep (newA (by simp)) (by simp)
    obtain ⟨q201, q211, q221, q231, q241, q251, q261, q271, q281, q291⟩ := c5 k2
    simp at z1
    clear f1
    go_wp2_with fail
    go_region
    go_wp2_with fail
    exact bodyPost_ret (v := .tuple #[.agg #[.bool off, .string (st O), .int .i64 (tk + n : Nat), .int .i64 0, .int .i64 0], .string (st (s.take n)), .int .i64 0]) (by simp [results, Try.results108, go_sem, q201, q211, q221, q231, q241]) rfl ⟨O, rfl, HC.out, (((((((g1.setCell (.inr (by dsimp only; omega)) _).setCell (.inr (by dsimp only; omega)) _).setCell (.inr (by dsimp only; omega)) _).setCell (.inr (by dsimp only; omega)) _).setCell (.inr (by dsimp only; omega)) _).setCell (.inr (by dsimp only; omega)) _).drewN _)⟩

end Go.Proofs.Ytpkgjgfdobcboaa
