/-
  Law 21: known() returns true.
-/
import Derived.Test.YtodpkdbcdbdjfaaTrSame
import Derived.Lib.SlBytesConst
namespace Go.Proofs.Ytodpkdbcdbdjfaa
open Go.RowKit
set_option maxRecDepth 100000

theorem wants_tr {w : World} {N : Nat → Prop} {b : Nat} {t : TS} {u : Value} {x : WT} (h : Tr w N b t) (hr : t.rd ≤ 4611686018427387904) (hx : nextT t = x) (hu : Wr w u x) :
    Calls Try.prog 25 #[.pointer (some ⟨b, 0, none⟩), u] w fun e w' => e = .returned (.bool true) ∧ Fr [] w w' := by
  subst hx
  exact wants_of (fun w1 f => tr_next (h.keep0 f) hr) hu
theorem got_tr {w : World} {N : Nat → Prop} {b : Nat} {t t' : TS} (h : Tr w N b t) (hr : t.rd ≤ 4611686018427387904) {pa : Option Addr} {plen pcap : Nat} {p : List UInt8} (hs : Sl w pa (bi p)) (hl : plen = p.length) (hm : p.length ≤ 65536) (e : Int) {c : Int} (hc : gotE t p e = c) (ht : gotT t p e = t') :
    Calls Try.prog 18 #[.pointer (some ⟨b, 0, none⟩), .slice pa plen pcap, .int .i64 e] w fun x w' => x = .returned (.int .i64 c) ∧ Fr [b] w w' ∧ Tr w' N b t' := by
  subst hc ht
  exact tr_got h hr hs hl hm e
theorem wrote_tr {w : World} {N : Nat → Prop} {b : Nat} {t t' : TS} (h : Tr w N b t) (hr : t.rd ≤ 4611686018427387904) (n e : Int) {c : Int} (hc : wroteE t n e = c) (ht : wroteT t n e = t') :
    Calls Try.prog 19 #[.pointer (some ⟨b, 0, none⟩), .int .i64 n, .int .i64 e] w fun x w' => x = .returned (.int .i64 c) ∧ Fr [b] w w' ∧ Tr w' N b t' := by
  subst hc ht
  exact tr_wrote h hr n e
/-- A list of bytes that the text spells: the row bears the run-time's mark behind its last cell. -/
theorem lit_sl {w : World} {l : List UInt8} : Sl (w.alloc (.cells ((bi l).map (Value.int .u8)).toArray 5 (((bi l).map (Value.int .u8)).toArray.size, ((bi l).map (Value.int .u8)).toArray.size + 1))) (some ⟨w.heap.size, 0, none⟩) (bi l) := fun _ =>
  ⟨_, 0, rfl, by simp, fun i hi => by
    have hq : (w.alloc (.cells ((bi l).map (Value.int .u8)).toArray 5 (((bi l).map (Value.int .u8)).toArray.size, ((bi l).map (Value.int .u8)).toArray.size + 1))).heap[w.heap.size]? = _ := newA rfl
    rw [Nat.zero_add, cell_of hq]
    simp [List.getD, hi]⟩
theorem lit_wr {w : World} {l : List UInt8} {k s n e : Int} {m : Nat} (hm : m = l.length) : Wr (w.alloc (.cells ((bi l).map (Value.int .u8)).toArray 5 (((bi l).map (Value.int .u8)).toArray.size, ((bi l).map (Value.int .u8)).toArray.size + 1))) (.agg #[.int .i64 k, .int .i64 s, .int .i64 n, .slice (some ⟨w.heap.size, 0, none⟩) m m, .int .i64 e]) ⟨k, s, n, l, e⟩ := by
  subst hm
  exact ⟨_, _, rfl, lit_sl⟩

set_option maxHeartbeats 4000000 in
theorem known21 (w : World) : Calls Try.prog 15 #[] w fun e w' => e = .returned (.bool true) ∧ Fr [] w w' := by
  have hcv := fun (w : World) (C : Array Value) (n c : Nat) => Lib.run_convert_bytes_const (P := Try.prog) w 22 5 C n c Try.underlying22 Try.underlying5
  have g := Fr.refl [] w
  go_enter Try.func15, Try.ntmps15
  go_wp2_with fail
  refine (tr_new_ok _ (sg := 4) (lm := 6) (by rfl)).mono ?_
  rintro e w1 ⟨rfl, f, h⟩
  have hB : w.heap.size ≤ w.heap.size := g.size
  have hL : w.heap.size < w1.heap.size := h.lt
  replace h : Hid (Tr w1 (fun x => x ≠ w.heap.size) w.heap.size (⟨4, 6, 0, 0, [], 0, 0⟩ : TS)) := Lib.hid h
  obtain ⟨B1, hBe⟩ : ∃ B, B = w.heap.size := ⟨_, rfl⟩
  rw [← hBe] at h hL ⊢
  replace hB : w.heap.size ≤ B1 := by omega
  clear hBe
  replace g : Fr [] w w1 := g.then0 f
  clear f
  go_wp2_with fail
  refine (wants_tr h.out (by decide) (x := (⟨1, 0, 4, [], 0⟩ : WT)) rfl (Wr.plain _ _ _ _ _)).mono ?_
  rintro e w2 ⟨rfl, f⟩
  replace h := Lib.hid (h.out.keep0 f)
  replace hL := Nat.lt_of_lt_of_le hL f.size
  replace g : Fr [] w w2 := g.then0 f
  clear f
  go_wp2_with fail
  refine (got_tr (w := w2.alloc _) (h.out.keep0 ((Fr.refl [] w2).alloc _)) (by decide) (lit_sl (w := w2) (l := [97, 98, 99])) rfl (by decide) 0 (c := 0) (t' := (⟨4, 6, 3, 0, [97, 98, 99], 0, 0⟩ : TS)) rfl rfl).mono ?_
  clear h
  rintro e w3 ⟨rfl, f, h⟩
  replace h := Lib.hid h
  replace f : Fr [B1] w2 w3 := ((Fr.refl _ w2).alloc _).then f
  replace hL := Nat.lt_of_lt_of_le hL f.size
  replace g : Fr [] w w3 := g.trans f (by simp) (fun x hx => .inr (by simp at hx; omega))
  clear f
  go_wp2_with fail
  refine (wants_tr (w := w3.alloc _) (h.out.keep0 ((Fr.refl [] w3).alloc _)) (by decide) (x := (⟨2, 0, 0, [97, 98, 99], 0⟩ : WT)) rfl (lit_wr (w := w3) (l := [97, 98, 99]) rfl)).mono ?_
  rintro e w4 ⟨rfl, f⟩
  replace f : Fr [] w3 w4 := ((Fr.refl [] w3).alloc _).then0 f
  replace h := Lib.hid (h.out.keep0 f)
  replace hL := Nat.lt_of_lt_of_le hL f.size
  replace g : Fr [] w w4 := g.then0 f
  clear f
  go_wp2_with fail
  refine (wrote_tr h.out (by decide) 2 0 (c := 0) (t' := (⟨4, 6, 3, 2, [99], 0, 0⟩ : TS)) rfl rfl).mono ?_
  clear h
  rintro e w5 ⟨rfl, f, h⟩
  replace h := Lib.hid h
  replace hL := Nat.lt_of_lt_of_le hL f.size
  replace g : Fr [] w w5 := g.trans f (by simp) (fun x hx => .inr (by simp at hx; omega))
  clear f
  go_wp2_with fail
  refine (wants_tr (w := w5.alloc _) (h.out.keep0 ((Fr.refl [] w5).alloc _)) (by decide) (x := (⟨2, 0, 0, [99], 0⟩ : WT)) rfl (lit_wr (w := w5) (l := [99]) rfl)).mono ?_
  rintro e w6 ⟨rfl, f⟩
  replace f : Fr [] w5 w6 := ((Fr.refl [] w5).alloc _).then0 f
  replace h := Lib.hid (h.out.keep0 f)
  replace hL := Nat.lt_of_lt_of_le hL f.size
  replace g : Fr [] w w6 := g.then0 f
  clear f
  go_wp2_with fail
  refine (wrote_tr h.out (by decide) 1 0 (c := 0) (t' := (⟨4, 6, 3, 3, [], 0, 0⟩ : TS)) rfl rfl).mono ?_
  clear h
  rintro e w7 ⟨rfl, f, h⟩
  replace h := Lib.hid h
  replace hL := Nat.lt_of_lt_of_le hL f.size
  replace g : Fr [] w w7 := g.trans f (by simp) (fun x hx => .inr (by simp at hx; omega))
  clear f
  go_wp2_with fail
  refine (wants_tr h.out (by decide) (x := (⟨1, 0, 3, [], 0⟩ : WT)) rfl (Wr.plain _ _ _ _ _)).mono ?_
  rintro e w8 ⟨rfl, f⟩
  replace h := Lib.hid (h.out.keep0 f)
  replace hL := Nat.lt_of_lt_of_le hL f.size
  replace g : Fr [] w w8 := g.then0 f
  clear f
  go_wp2_with fail
  refine (got_tr (w := w8.alloc _) (h.out.keep0 ((Fr.refl [] w8).alloc _)) (by decide) (lit_sl (w := w8) (l := [100, 101])) rfl (by decide) 13 (c := 0) (t' := (⟨4, 6, 5, 3, [100, 101], 13, 0⟩ : TS)) rfl rfl).mono ?_
  clear h
  rintro e w9 ⟨rfl, f, h⟩
  replace h := Lib.hid h
  replace f : Fr [B1] w8 w9 := ((Fr.refl _ w8).alloc _).then f
  replace hL := Nat.lt_of_lt_of_le hL f.size
  replace g : Fr [] w w9 := g.trans f (by simp) (fun x hx => .inr (by simp at hx; omega))
  clear f
  go_wp2_with fail
  refine (wants_tr (w := w9.alloc _) (h.out.keep0 ((Fr.refl [] w9).alloc _)) (by decide) (x := (⟨2, 0, 0, [100, 101], 0⟩ : WT)) rfl (lit_wr (w := w9) (l := [100, 101]) rfl)).mono ?_
  rintro e w10 ⟨rfl, f⟩
  replace f : Fr [] w9 w10 := ((Fr.refl [] w9).alloc _).then0 f
  replace h := Lib.hid (h.out.keep0 f)
  replace hL := Nat.lt_of_lt_of_le hL f.size
  replace g : Fr [] w w10 := g.then0 f
  clear f
  go_wp2_with fail
  refine (got_tr (w := w10.alloc _) (h.out.keep0 ((Fr.refl [] w10).alloc _)) (by decide) (lit_sl (w := w10) (l := [102])) rfl (by decide) 0 (c := 8) (t' := (⟨4, 6, 5, 3, [100, 101], 13, 0⟩ : TS)) rfl rfl).mono ?_
  clear h
  rintro e w11 ⟨rfl, f, h⟩
  replace h := Lib.hid h
  replace f : Fr [B1] w10 w11 := ((Fr.refl _ w10).alloc _).then f
  replace hL := Nat.lt_of_lt_of_le hL f.size
  replace g : Fr [] w w11 := g.trans f (by simp) (fun x hx => .inr (by simp at hx; omega))
  clear f
  go_wp2_with fail
  refine (wrote_tr h.out (by decide) 2 0 (c := 0) (t' := (⟨4, 6, 5, 5, [], 13, 0⟩ : TS)) rfl rfl).mono ?_
  clear h
  rintro e w12 ⟨rfl, f, h⟩
  replace h := Lib.hid h
  replace hL := Nat.lt_of_lt_of_le hL f.size
  replace g : Fr [] w w12 := g.trans f (by simp) (fun x hx => .inr (by simp at hx; omega))
  clear f
  go_wp2_with fail
  refine (wants_tr h.out (by decide) (x := (⟨4, 0, 5, [], 0⟩ : WT)) rfl (Wr.plain _ _ _ _ _)).mono ?_
  rintro e w13 ⟨rfl, f⟩
  replace h := Lib.hid (h.out.keep0 f)
  replace hL := Nat.lt_of_lt_of_le hL f.size
  replace g : Fr [] w w13 := g.then0 f
  clear f
  go_wp2_with fail
  refine (moved_of (tr_movedT h.out)).mono ?_
  rintro e w14 ⟨rfl, f⟩
  replace h := Lib.hid (h.out.keep0 f)
  replace hL := Nat.lt_of_lt_of_le hL f.size
  replace g : Fr [] w w14 := g.then0 f
  clear f
  clear h hB hL
  go_wp2_with fail
  refine (tr_new_ok _ (sg := 9) (lm := (-1)) (by rfl)).mono ?_
  rintro e w15 ⟨rfl, f, h⟩
  have hB : w.heap.size ≤ w14.heap.size := g.size
  have hL : w14.heap.size < w15.heap.size := h.lt
  replace h : Hid (Tr w15 (fun x => x ≠ w14.heap.size) w14.heap.size (⟨9, (-1), 0, 0, [], 0, 0⟩ : TS)) := Lib.hid h
  obtain ⟨B2, hBe⟩ : ∃ B, B = w14.heap.size := ⟨_, rfl⟩
  rw [← hBe] at h hL ⊢
  replace hB : w.heap.size ≤ B2 := by omega
  clear hBe
  replace g : Fr [] w w15 := g.then0 f
  clear f
  go_wp2_with fail
  refine (got_tr h.out (by decide) (p := []) (Sl.nil _ _) rfl (by decide) 0 (c := 2) (t' := (⟨9, (-1), 0, 0, [], 0, 0⟩ : TS)) rfl rfl).mono ?_
  clear h
  rintro e w16 ⟨rfl, f, h⟩
  replace h := Lib.hid h
  replace hL := Nat.lt_of_lt_of_le hL f.size
  replace g : Fr [] w w16 := g.trans f (by simp) (fun x hx => .inr (by simp at hx; omega))
  clear f
  go_wp2_with fail
  refine (got_tr h.out (by decide) (p := []) (Sl.nil _ _) rfl (by decide) 16 (c := 2) (t' := (⟨9, (-1), 0, 0, [], 0, 0⟩ : TS)) rfl rfl).mono ?_
  clear h
  rintro e w17 ⟨rfl, f, h⟩
  replace h := Lib.hid h
  replace hL := Nat.lt_of_lt_of_le hL f.size
  replace g : Fr [] w w17 := g.trans f (by simp) (fun x hx => .inr (by simp at hx; omega))
  clear f
  go_wp2_with fail
  refine (got_tr (w := w17.alloc _) (h.out.keep0 ((Fr.refl [] w17).alloc _)) (by decide) (lit_sl (w := w17) (l := [97, 98])) rfl (by decide) 14 (c := 0) (t' := (⟨9, (-1), 2, 0, [97, 98], 14, 0⟩ : TS)) rfl rfl).mono ?_
  clear h
  rintro e w18 ⟨rfl, f, h⟩
  replace h := Lib.hid h
  replace f : Fr [B2] w17 w18 := ((Fr.refl _ w17).alloc _).then f
  replace hL := Nat.lt_of_lt_of_le hL f.size
  replace g : Fr [] w w18 := g.trans f (by simp) (fun x hx => .inr (by simp at hx; omega))
  clear f
  go_wp2_with fail
  refine (wrote_tr h.out (by decide) 1 12 (c := 0) (t' := (⟨9, (-1), 2, 1, [98], 14, 12⟩ : TS)) rfl rfl).mono ?_
  clear h
  rintro e w19 ⟨rfl, f, h⟩
  replace h := Lib.hid h
  replace hL := Nat.lt_of_lt_of_le hL f.size
  replace g : Fr [] w w19 := g.trans f (by simp) (fun x hx => .inr (by simp at hx; omega))
  clear f
  go_wp2_with fail
  refine (wants_tr h.out (by decide) (x := (⟨4, 0, 1, [], 12⟩ : WT)) rfl (Wr.plain _ _ _ _ _)).mono ?_
  rintro e w20 ⟨rfl, f⟩
  replace h := Lib.hid (h.out.keep0 f)
  replace hL := Nat.lt_of_lt_of_le hL f.size
  replace g : Fr [] w w20 := g.then0 f
  clear f
  go_wp2_with fail
  refine (moved_of (tr_movedT h.out)).mono ?_
  rintro e w21 ⟨rfl, f⟩
  replace h := Lib.hid (h.out.keep0 f)
  replace hL := Nat.lt_of_lt_of_le hL f.size
  replace g : Fr [] w w21 := g.then0 f
  clear f
  clear h hB hL
  go_wp2_with fail
  refine (tr_new_ok _ (sg := 1) (lm := 0) (by rfl)).mono ?_
  rintro e w22 ⟨rfl, f, h⟩
  have hB : w.heap.size ≤ w21.heap.size := g.size
  have hL : w21.heap.size < w22.heap.size := h.lt
  replace h : Hid (Tr w22 (fun x => x ≠ w21.heap.size) w21.heap.size (⟨1, 0, 0, 0, [], 0, 0⟩ : TS)) := Lib.hid h
  obtain ⟨B3, hBe⟩ : ∃ B, B = w21.heap.size := ⟨_, rfl⟩
  rw [← hBe] at h hL ⊢
  replace hB : w.heap.size ≤ B3 := by omega
  clear hBe
  replace g : Fr [] w w22 := g.then0 f
  clear f
  go_wp2_with fail
  refine (tr_new_bad _ (sg := 0) (lm := 1) (by rfl)).mono ?_
  rintro e w' ⟨rfl, rfl⟩
  go_wp2_with fail
  refine (tr_new_bad _ (sg := 4097) (lm := 1) (by rfl)).mono ?_
  rintro e w' ⟨rfl, rfl⟩
  go_wp2_with fail
  refine (tr_new_bad _ (sg := 1) (lm := (-2)) (by rfl)).mono ?_
  rintro e w' ⟨rfl, rfl⟩
  go_wp2_with fail
  refine (wants_tr h.out (by decide) (x := (⟨4, 0, 0, [], 0⟩ : WT)) rfl (Wr.plain _ _ _ _ _)).mono ?_
  rintro e w23 ⟨rfl, f⟩
  replace h := Lib.hid (h.out.keep0 f)
  replace hL := Nat.lt_of_lt_of_le hL f.size
  replace g : Fr [] w w23 := g.then0 f
  clear f
  go_wp2_with fail
  go_ret
  exact ⟨rfl, g⟩
end Go.Proofs.Ytodpkdbcdbdjfaa
