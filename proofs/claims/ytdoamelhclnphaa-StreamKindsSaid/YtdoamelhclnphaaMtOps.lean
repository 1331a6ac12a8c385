/-
  Package meet: the contracts of its methods over a stream that is none of nil and zero.
-/
import Derived.Test.YtdoamelhclnphaaMtAt
import Derived.BigRegion
import Derived.Deep.QuietTactic
import Derived.BigQuiet
namespace Go.Proofs.Ytdoamelhclnphaa
open Go.RowKit
set_option maxRecDepth 100000

theorem len_raw {w : World} (x : Option Addr) (l c : Nat) (n : Int) :
    Calls Try.prog 57 #[.agg #[.slice x l c, .int .i64 n]] w fun e w' => e = .returned (.int .i64 n) ∧ Fr [] w w' := by
  go_enter Try.func57, Try.ntmps57
  go_wp2_with fail
  go_ret
  exact ⟨rfl, (Fr.refl _ _).alloc _⟩
theorem bool_of {b : Bool} {p : Prop} (h : b = true ↔ p) (hp : p) : b = true := h.2 hp
theorem ne0 {x : Int} (h : x ≠ 0) : (x != 0) = true ∧ (x == 0) = false := ⟨by rw [bne_iff_ne]; exact h, by rw [beq_eq_false_iff_ne]; exact h⟩

def mOffer (m : MM) (s : List UInt8) : MM × Int :=
  if m.off = true then (m, 11) else if m.r ≠ 0 then (m, m.r) else if m.w ≠ 0 then (m, 14) else (⟨m.r, m.w, true, s, 0⟩, 0)

section
variable {w : World} {b : Nat} {e0 e1 : Int} {of : Bool} {a : Option Addr} {len cap : Nat} {n : Int} {tk : Nat}

theorem offer_busy (h : MtB w b e0 e1 true a len cap n tk) (x : Option Addr) (xl xc : Nat) (k : Int) :
    Calls Try.prog 58 #[.pointer (some ⟨b, 0, none⟩), .agg #[.slice x xl xc, .int .i64 k]] w fun e w' => e = .returned (.int .i64 11) ∧ Fr [] w w' := by
  have h' : ∀ o, MtB (w.alloc o) b e0 e1 true a len cap n tk := fun o => keepA h
  have hc : ∀ o, (w.alloc o).cell? ⟨b, 2 + 1, none⟩ = some (.bool true) := fun o => (h' o).cells.c3
  go_enter Try.func58, Try.ntmps58
  go_wp2_with fail
  have c3 := (h' (Obj.cells #[Value.slice x xl xc, Value.int IntKind.i64 k] 57)).cells.c3
  refine (meet_zero (h' _)).mono ?_
  rintro e w' ⟨rfl, rfl⟩
  go_wp2_with fail
  go_ret
  exact ⟨rfl, (Fr.refl _ _).alloc _⟩
theorem offer_read (h : MtB w b e0 e1 false a len cap n tk) (h0 : e0 ≠ 0) (x : Option Addr) (xl xc : Nat) (k : Int) :
    Calls Try.prog 58 #[.pointer (some ⟨b, 0, none⟩), .agg #[.slice x xl xc, .int .i64 k]] w fun e w' => e = .returned (.int .i64 e0) ∧ Fr [] w w' := by
  have h' : ∀ o, MtB (w.alloc o) b e0 e1 false a len cap n tk := fun o => keepA h
  obtain ⟨n1, n2⟩ := ne0 h0
  clear h0
  go_enter Try.func58, Try.ntmps58
  go_wp2_with fail
  have c3 := (h' (Obj.cells #[Value.slice x xl xc, Value.int IntKind.i64 k] 57)).cells.c3
  have c1 := (h' (Obj.cells #[Value.slice x xl xc, Value.int IntKind.i64 k] 57)).cells.c1
  refine (meet_zero (h' _)).mono ?_
  rintro e w' ⟨rfl, rfl⟩
  go_wp2_with fail
  go_ret
  exact ⟨rfl, (Fr.refl _ _).alloc _⟩
theorem offer_closed (h : MtB w b 0 e1 false a len cap n tk) (h0 : e1 ≠ 0) (x : Option Addr) (xl xc : Nat) (k : Int) :
    Calls Try.prog 58 #[.pointer (some ⟨b, 0, none⟩), .agg #[.slice x xl xc, .int .i64 k]] w fun e w' => e = .returned (.int .i64 14) ∧ Fr [] w w' := by
  have h' : ∀ o, MtB (w.alloc o) b 0 e1 false a len cap n tk := fun o => keepA h
  obtain ⟨n1, n2⟩ := ne0 h0
  clear h0
  go_enter Try.func58, Try.ntmps58
  go_wp2_with fail
  have c3 := (h' (Obj.cells #[Value.slice x xl xc, Value.int IntKind.i64 k] 57)).cells.c3
  have c1 := (h' (Obj.cells #[Value.slice x xl xc, Value.int IntKind.i64 k] 57)).cells.c1
  refine (meet_zero (h' _)).mono ?_
  rintro e w' ⟨rfl, rfl⟩
  go_wp2_with fail
  refine (meet_open (h' _)).mono ?_
  rintro e w' ⟨rfl, rfl⟩
  go_wp2_with fail
  go_ret
  exact ⟨rfl, (Fr.refl _ _).alloc _⟩
theorem offer_ok (h : MtB w b 0 0 false a len cap n tk) (x : Option Addr) (xl xc : Nat) (k : Int) :
    Calls Try.prog 58 #[.pointer (some ⟨b, 0, none⟩), .agg #[.slice x xl xc, .int .i64 k]] w fun e w' => e = .returned (.int .i64 0) ∧ Fr [b] w w' ∧ MtB w' b 0 0 true x xl xc k 0 := by
  have h' : ∀ o, MtB (w.alloc o) b 0 0 false a len cap n tk := fun o => keepA h
  have hlt := lt_of_heap h
  go_enter Try.func58, Try.ntmps58
  go_wp2_with fail
  refine (meet_zero (h' _)).mono ?_
  rintro e w' ⟨rfl, rfl⟩
  have hh := h' (Obj.cells #[Value.slice x xl xc, Value.int IntKind.i64 k] 57)
  have y0 : (w.alloc (Obj.cells #[Value.slice x xl xc, Value.int IntKind.i64 k] 57)).cell? ⟨w.heap.size, 0, none⟩ = some (.slice x xl xc) := cell_of (newA rfl)
  have y1 : (w.alloc (Obj.cells #[Value.slice x xl xc, Value.int IntKind.i64 k] 57)).cell? ⟨w.heap.size, 1, none⟩ = some (.int .i64 k) := cell_of (newA rfl)
  have fr : Fr [b] w (w.alloc (Obj.cells #[Value.slice x xl xc, Value.int IntKind.i64 k] 57)) := (Fr.refl _ _).alloc _
  clear h h'
  generalize (w.alloc (Obj.cells #[Value.slice x xl xc, Value.int IntKind.i64 k] 57)) = W at *
  obtain ⟨c0, c1, c2, c3, c4, c5, c6, f0, f1, f2, f3, f4, f5, f6⟩ := hh.cells
  go_wp2_with fail
  refine (meet_open hh).mono ?_
  rintro e w' ⟨rfl, rfl⟩
  go_wp2_with fail
  go_region
  go_wp2_with fail
  go_ret
  refine ⟨rfl, ((((fr.setCell (.inl (by simp)) _).setCell (.inl (by simp)) _).setCell (.inl (by simp)) _).setCell (.inl (by simp)) _).drew, ?_⟩
  have hb := heap_setCell_eq (i := 6) (u := .int .i64 0) (heap_setCell_eq (i := 5) (u := .int .i64 k) (heap_setCell_eq (i := 4) (u := .slice x xl xc) (heap_setCell_eq (i := 3) (u := .bool true) hh)))
  simp at hb
  exact hb

/-- Withdraw. -/
theorem withdraw_none (h : MtB w b e0 e1 false a len cap n tk) :
    Calls Try.prog 97 #[.pointer (some ⟨b, 0, none⟩)] w fun e w' => e = .returned (.tuple #[.int .i64 0, .int .i64 9]) ∧ w = w' := by
  have c3 := h.cells.c3
  go_enter Try.func97, Try.ntmps97
  go_wp2_with (go_at_call 95; refine (meet_zero h).mono ?_; rintro e w' ⟨rfl, rfl⟩)
  go_ret2
  exact ⟨rfl, rfl⟩
theorem withdraw_ok (h : MtB w b e0 e1 true a len cap n tk) :
    Calls Try.prog 97 #[.pointer (some ⟨b, 0, none⟩)] w fun e w' => e = .returned (.tuple #[.int .i64 tk, .int .i64 0]) ∧ Fr [b] w w' ∧ MtB w' b e0 e1 false none 0 0 0 0 := by
  obtain ⟨c0, c1, c2, c3, c4, c5, c6, f0, f1, f2, f3, f4, f5, f6⟩ := h.cells
  go_enter Try.func97, Try.ntmps97
  go_wp2_with (go_at_call 95; refine (meet_zero h).mono ?_; rintro e w' ⟨rfl, rfl⟩)
  go_ret2
  refine ⟨rfl, ((((Fr.refl [b] w).setCell (.inl (by simp)) _).setCell (.inl (by simp)) _).setCell (.inl (by simp)) _).setCell (.inl (by simp)) _, ?_⟩
  have hb := heap_setCell_eq (i := 6) (u := .int .i64 0) (heap_setCell_eq (i := 5) (u := .int .i64 0) (heap_setCell_eq (i := 4) (u := .slice none 0 0) (heap_setCell_eq (i := 3) (u := .bool false) h)))
  simp at hb
  exact hb

/-- Result. -/
theorem result_block (h : MtB w b 0 0 true a len cap n tk) (hn : 0 < n) :
    Calls Try.prog 56 #[.pointer (some ⟨b, 0, none⟩)] w fun e w' => e = .returned (.tuple #[.int .i64 0, .int .i64 16]) ∧ Fr [] w w' := by
  obtain ⟨c0, c1, c2, c3, c4, c5, c6, f0, f1, f2, f3, f4, f5, f6⟩ := h.cells
  go_enter Try.func56, Try.ntmps56
  go_wp2_with (first | (go_at_call 95; refine (meet_zero h).mono ?_; rintro e w' ⟨rfl, rfl⟩) | (go_at_call 96; refine (meet_open h).mono ?_; rintro e w' ⟨rfl, rfl⟩) | (go_at_call 57; refine (len_raw _ _ _ _).mono ?_; rintro e w' ⟨rfl, hf⟩))
  go_ret2
  exact ⟨rfl, hf⟩
theorem result_none (h : MtB w b e0 e1 false a len cap n tk) :
    Calls Try.prog 56 #[.pointer (some ⟨b, 0, none⟩)] w fun e w' => e = .returned (.tuple #[.int .i64 0, .int .i64 9]) ∧ w = w' := by
  obtain ⟨c0, c1, c2, c3, c4, c5, c6, f0, f1, f2, f3, f4, f5, f6⟩ := h.cells
  go_enter Try.func56, Try.ntmps56
  go_wp2_with (first | (go_at_call 95; refine (meet_zero h).mono ?_; rintro e w' ⟨rfl, rfl⟩) | (go_at_call 97; refine (withdraw_none h).mono ?_; rintro e w' ⟨rfl, rfl⟩))
  go_ret2
  exact ⟨rfl, rfl⟩
theorem result_closed (h : MtB w b e0 e1 true a len cap n tk) (hc : (e0 == 0 && e1 == 0) = false) :
    Calls Try.prog 56 #[.pointer (some ⟨b, 0, none⟩)] w fun e w' => e = .returned (.tuple #[.int .i64 tk, .int .i64 0]) ∧ Fr [b] w w' ∧ MtB w' b e0 e1 false none 0 0 0 0 := by
  obtain ⟨c0, c1, c2, c3, c4, c5, c6, f0, f1, f2, f3, f4, f5, f6⟩ := h.cells
  have ho : Calls Try.prog 96 #[.pointer (some ⟨b, 0, none⟩)] w fun e w' => e = .returned (.bool false) ∧ w = w' := by rw [← hc]; exact meet_open h
  have HO := Lib.hid ho
  clear ho hc
  go_enter Try.func56, Try.ntmps56
  go_wp2_with (first | (go_at_call 95; refine (meet_zero h).mono ?_; rintro e w' ⟨rfl, rfl⟩) | (go_at_call 96; refine HO.out.mono ?_; rintro e w' ⟨rfl, rfl⟩) | (go_at_call 97; refine (withdraw_ok h).mono ?_; rintro e w' ⟨rfl, hf, hb⟩))
  go_ret2
  exact ⟨rfl, hf, hb⟩
theorem result_zero (h : MtB w b 0 0 true a len cap 0 tk) :
    Calls Try.prog 56 #[.pointer (some ⟨b, 0, none⟩)] w fun e w' => e = .returned (.tuple #[.int .i64 tk, .int .i64 0]) ∧ Fr [b] w w' ∧ MtB w' b 0 0 false none 0 0 0 0 := by
  obtain ⟨c0, c1, c2, c3, c4, c5, c6, f0, f1, f2, f3, f4, f5, f6⟩ := h.cells
  go_enter Try.func56, Try.ntmps56
  go_wp2_with (first | (go_at_call 95; refine (meet_zero h).mono ?_; rintro e w' ⟨rfl, rfl⟩) | (go_at_call 96; refine (meet_open h).mono ?_; rintro e w' ⟨rfl, rfl⟩) | (go_at_call 57; refine (len_raw _ _ _ _).mono ?_; rintro e w1 ⟨rfl, hf1⟩; have h1 : MtB w1 b 0 0 true a len cap 0 tk := hf1.keep h (by simp)) | (go_at_call 97; refine (withdraw_ok h1).mono ?_; rintro e w' ⟨rfl, hf, hb⟩))
  go_ret2
  exact ⟨rfl, (hf1.mono (by simp)).then hf, hb⟩
end
end Go.Proofs.Ytdoamelhclnphaa
