/-
  Law 22: known() returns true.
-/
import Derived.Test.YtodpkdbcdbdjfaaSpLaw
import Derived.Test.YtodpkdbcdbdjfaaSpNew
import Derived.Lib.SlBytesConst
namespace Go.Proofs.Ytodpkdbcdbdjfaa
open Go.RowKit
set_option maxRecDepth 100000

theorem next22_of0 {w : World} {N0 N1 : Nat → Prop} {b W b0 b1 : Nat} {s : SS} (h : Sp w N0 N1 b W b0 b1 s) (hr : s.t0.rd ≤ 4611686018427387904) {x : WT} (hx : nextS s.t0 s.c0 0 = x) : ∀ w1, Fr [] w w1 → Calls Try.prog 36 #[.pointer (some ⟨b, 0, none⟩), .int .i64 0] w1 fun e w' => ∃ v, e = .returned (.tuple #[v, .int .i64 0]) ∧ Fr [] w1 w' ∧ Wr w' v x := by
  subst hx
  exact next22_0 h hr
theorem got_sp0 {w : World} {N0 N1 : Nat → Prop} {b W b0 b1 : Nat} {s s' : SS} (h : Sp w N0 N1 b W b0 b1 s) (hr : s.t0.rd ≤ 4611686018427000000) {pa : Option Addr} {plen pc : Nat} {p : List UInt8} (hs : Sl w pa (bi p)) (hl : plen = p.length) (hm : p.length ≤ 65536) (e : Int) {c : Int} (hc : gotE s.t0 p e = c) (ht : gotS0 s p e = s') :
    Calls Try.prog 33 #[.pointer (some ⟨b, 0, none⟩), .int .i64 0, .slice pa plen pc, .int .i64 e] w fun x w' => x = .returned (.int .i64 c) ∧ Fr [b, W, b0, b1] w w' ∧ Sp w' N0 N1 b W b0 b1 s' := by
  subst hc ht hl
  exact sp_got0 h hr hs hm e
theorem wrote_sp0 {w : World} {N0 N1 : Nat → Prop} {b W b0 b1 : Nat} {s s' : SS} (h : Sp w N0 N1 b W b0 b1 s) (hr : s.t0.rd ≤ 4611686018427000000) (n e : Int) {c : Int} (hc : wroteE s.t0 n e = c) (ht : wroteS0 s n e = s') :
    Calls Try.prog 34 #[.pointer (some ⟨b, 0, none⟩), .int .i64 0, .int .i64 n, .int .i64 e] w fun x w' => x = .returned (.int .i64 c) ∧ Fr [b, W, b0, b1] w w' ∧ Sp w' N0 N1 b W b0 b1 s' := by
  subst hc ht
  exact sp_wrote0 h hr n e
theorem close_sp0 {w : World} {N0 N1 : Nat → Prop} {b W b0 b1 : Nat} {s s' : SS} (h : Sp w N0 N1 b W b0 b1 s) (hr : s.t0.rd ≤ 4611686018427387904) {c : Int} (hc : closeE (nextS s.t0 s.c0 0) = c) (ht : closeS0 s = s') :
    Calls Try.prog 35 #[.pointer (some ⟨b, 0, none⟩), .int .i64 0] w fun x w' => x = .returned (.int .i64 c) ∧ Fr [b, W, b0, b1] w w' ∧ Sp w' N0 N1 b W b0 b1 s' := by
  subst hc ht
  exact sp_close0 h hr
theorem next22_of1 {w : World} {N0 N1 : Nat → Prop} {b W b0 b1 : Nat} {s : SS} (h : Sp w N0 N1 b W b0 b1 s) (hr : s.t1.rd ≤ 4611686018427387904) {x : WT} (hx : nextS s.t1 s.c1 1 = x) : ∀ w1, Fr [] w w1 → Calls Try.prog 36 #[.pointer (some ⟨b, 0, none⟩), .int .i64 1] w1 fun e w' => ∃ v, e = .returned (.tuple #[v, .int .i64 0]) ∧ Fr [] w1 w' ∧ Wr w' v x := by
  subst hx
  exact next22_1 h hr
theorem got_sp1 {w : World} {N0 N1 : Nat → Prop} {b W b0 b1 : Nat} {s s' : SS} (h : Sp w N0 N1 b W b0 b1 s) (hr : s.t1.rd ≤ 4611686018427000000) {pa : Option Addr} {plen pc : Nat} {p : List UInt8} (hs : Sl w pa (bi p)) (hl : plen = p.length) (hm : p.length ≤ 65536) (e : Int) {c : Int} (hc : gotE s.t1 p e = c) (ht : gotS1 s p e = s') :
    Calls Try.prog 33 #[.pointer (some ⟨b, 0, none⟩), .int .i64 1, .slice pa plen pc, .int .i64 e] w fun x w' => x = .returned (.int .i64 c) ∧ Fr [b, W, b0, b1] w w' ∧ Sp w' N0 N1 b W b0 b1 s' := by
  subst hc ht hl
  exact sp_got1 h hr hs hm e
theorem wrote_sp1 {w : World} {N0 N1 : Nat → Prop} {b W b0 b1 : Nat} {s s' : SS} (h : Sp w N0 N1 b W b0 b1 s) (hr : s.t1.rd ≤ 4611686018427000000) (n e : Int) {c : Int} (hc : wroteE s.t1 n e = c) (ht : wroteS1 s n e = s') :
    Calls Try.prog 34 #[.pointer (some ⟨b, 0, none⟩), .int .i64 1, .int .i64 n, .int .i64 e] w fun x w' => x = .returned (.int .i64 c) ∧ Fr [b, W, b0, b1] w w' ∧ Sp w' N0 N1 b W b0 b1 s' := by
  subst hc ht
  exact sp_wrote1 h hr n e
theorem close_sp1 {w : World} {N0 N1 : Nat → Prop} {b W b0 b1 : Nat} {s s' : SS} (h : Sp w N0 N1 b W b0 b1 s) (hr : s.t1.rd ≤ 4611686018427387904) {c : Int} (hc : closeE (nextS s.t1 s.c1 1) = c) (ht : closeS1 s = s') :
    Calls Try.prog 35 #[.pointer (some ⟨b, 0, none⟩), .int .i64 1] w fun x w' => x = .returned (.int .i64 c) ∧ Fr [b, W, b0, b1] w w' ∧ Sp w' N0 N1 b W b0 b1 s' := by
  subst hc ht
  exact sp_close1 h hr
theorem done_sp {w : World} {N0 N1 : Nat → Prop} {b W b0 b1 : Nat} {s : SS} (h : Sp w N0 N1 b W b0 b1 s) (hr0 : s.t0.rd ≤ 4611686018427387904) (hr1 : s.t1.rd ≤ 4611686018427387904) {d : Bool} (hd : (decide ((nextS s.t0 s.c0 0).kind = 4) && decide ((nextS s.t1 s.c1 1).kind = 4)) = d) :
    Calls Try.prog 39 #[.pointer (some ⟨b, 0, none⟩)] w fun e w' => e = .returned (.tuple #[.bool d, .int .i64 s.first]) ∧ Fr [] w w' := by
  subst hd
  exact sp_done h hr0 hr1

set_option maxHeartbeats 16000000 in
theorem known22 (w : World) : Calls Try.prog 30 #[] w fun e w' => e = .returned (.bool true) ∧ Fr [] w w' := by
  have hcv := fun (w : World) (C : Array Value) (n c : Nat) => Lib.run_convert_bytes_const (P := Try.prog) w 22 5 C n c Try.underlying22 Try.underlying5
  have g := Fr.refl [] w
  go_enter Try.func30, Try.ntmps30
  go_wp2_with fail
  refine (sp_new_ok w (st := 4) (by rfl)).mono ?_
  rintro e w1 ⟨b, W, b0, b1, rfl, f, h, l1, l2, l3, l4⟩
  replace h := Lib.hid h
  replace g : Fr [] w w1 := f
  clear f
  generalize hNN : (fun x => w1.heap.size ≤ x) = NN at h
  clear hNN
  go_wp2_with fail
  refine (wants22 (x := (⟨1, 0, 4, [], 0⟩ : WT)) (next22_of0 h.out (by decide) (by rfl)) (Wr.plain _ _ _ _ _)).mono ?_
  rintro e w2 ⟨rfl, f⟩
  replace h := Lib.hid (h.out.keep0 f)
  replace g : Fr [] w w2 := g.then0 f
  clear f
  go_wp2_with fail
  refine (wants22 (x := (⟨1, 1, 4, [], 0⟩ : WT)) (next22_of1 h.out (by decide) (by rfl)) (Wr.plain _ _ _ _ _)).mono ?_
  rintro e w3 ⟨rfl, f⟩
  replace h := Lib.hid (h.out.keep0 f)
  replace g : Fr [] w w3 := g.then0 f
  clear f
  go_wp2_with fail
  refine (got_sp0 (w := w3.alloc _) (h.out.keep0 ((Fr.refl [] w3).alloc _)) (by decide) (lit_sl (w := w3) (l := [97, 98])) rfl (by decide) 13 (c := 0) (s' := (⟨(⟨4, (-1), 2, 0, [97, 98], 13, 0⟩ : TS), (⟨4, (-1), 0, 0, [], 0, 0⟩ : TS), false, false, 0⟩ : SS)) (by rfl) (by rfl)).mono ?_
  clear h
  rintro e w4 ⟨rfl, f, h⟩
  replace h := Lib.hid h
  replace f : Fr [b, W, b0, b1] w3 w4 := (((Fr.refl [] w3).alloc _).mono (by simp)).then f
  replace g : Fr [] w w4 := g.trans f (by simp) (fun x hx => .inr (by simp at hx; omega))
  clear f
  go_wp2_with fail
  refine (wants22 (x := (⟨2, 1, 0, [97, 98], 0⟩ : WT)) (next22_of0 (h.out.keep0 ((Fr.refl [] w4).alloc _)) (by decide) (by rfl)) (lit_wr (w := w4) (l := [97, 98]) rfl)).mono ?_
  rintro e w5 ⟨rfl, f⟩
  replace f : Fr [] w4 w5 := ((Fr.refl [] w4).alloc _).then0 f
  replace h := Lib.hid (h.out.keep0 f)
  replace g : Fr [] w w5 := g.then0 f
  clear f
  go_wp2_with fail
  refine (wrote_sp0 h.out (by decide) 2 0 (c := 0) (s' := (⟨(⟨4, (-1), 2, 2, [], 13, 0⟩ : TS), (⟨4, (-1), 0, 0, [], 0, 0⟩ : TS), false, false, 0⟩ : SS)) (by rfl) (by rfl)).mono ?_
  clear h
  rintro e w6 ⟨rfl, f, h⟩
  replace h := Lib.hid h
  replace g : Fr [] w w6 := g.trans f (by simp) (fun x hx => .inr (by simp at hx; omega))
  clear f
  go_wp2_with fail
  refine (wants22 (x := (⟨3, 1, 0, [], 0⟩ : WT)) (next22_of0 h.out (by decide) (by rfl)) (Wr.plain _ _ _ _ _)).mono ?_
  rintro e w7 ⟨rfl, f⟩
  replace h := Lib.hid (h.out.keep0 f)
  replace g : Fr [] w w7 := g.then0 f
  clear f
  go_wp2_with fail
  refine (done22 (d := false) (done_sp h.out (by decide) (by decide) (by rfl))).mono ?_
  rintro e w8 ⟨rfl, f⟩
  replace h := Lib.hid (h.out.keep0 f)
  replace g : Fr [] w w8 := g.then0 f
  clear f
  go_wp2_with fail
  refine (close_sp1 h.out (by decide) (c := 8) (s' := (⟨(⟨4, (-1), 2, 2, [], 13, 0⟩ : TS), (⟨4, (-1), 0, 0, [], 0, 0⟩ : TS), false, false, 0⟩ : SS)) (by rfl) (by rfl)).mono ?_
  clear h
  rintro e w9 ⟨rfl, f, h⟩
  replace h := Lib.hid h
  replace g : Fr [] w w9 := g.trans f (by simp) (fun x hx => .inr (by simp at hx; omega))
  clear f
  go_wp2_with fail
  refine (close_sp0 h.out (by decide) (c := 0) (s' := (⟨(⟨4, (-1), 2, 2, [], 13, 0⟩ : TS), (⟨4, (-1), 0, 0, [], 0, 0⟩ : TS), true, false, 0⟩ : SS)) (by rfl) (by rfl)).mono ?_
  clear h
  rintro e w10 ⟨rfl, f, h⟩
  replace h := Lib.hid h
  replace g : Fr [] w w10 := g.trans f (by simp) (fun x hx => .inr (by simp at hx; omega))
  clear f
  go_wp2_with fail
  refine (wants22 (x := (⟨4, 0, 2, [], 0⟩ : WT)) (next22_of0 h.out (by decide) (by rfl)) (Wr.plain _ _ _ _ _)).mono ?_
  rintro e w11 ⟨rfl, f⟩
  replace h := Lib.hid (h.out.keep0 f)
  replace g : Fr [] w w11 := g.then0 f
  clear f
  go_wp2_with fail
  refine (close_sp0 h.out (by decide) (c := 8) (s' := (⟨(⟨4, (-1), 2, 2, [], 13, 0⟩ : TS), (⟨4, (-1), 0, 0, [], 0, 0⟩ : TS), true, false, 0⟩ : SS)) (by rfl) (by rfl)).mono ?_
  clear h
  rintro e w12 ⟨rfl, f, h⟩
  replace h := Lib.hid h
  replace g : Fr [] w w12 := g.trans f (by simp) (fun x hx => .inr (by simp at hx; omega))
  clear f
  go_wp2_with fail
  refine (moved22 (sp_moved0 h.out)).mono ?_
  rintro e w13 ⟨rfl, f⟩
  replace h := Lib.hid (h.out.keep0 f)
  replace g : Fr [] w w13 := g.then0 f
  clear f
  go_wp2_with fail
  refine (got_sp1 (w := w13.alloc _) (h.out.keep0 ((Fr.refl [] w13).alloc _)) (by decide) (lit_sl (w := w13) (l := [99])) rfl (by decide) 0 (c := 0) (s' := (⟨(⟨4, (-1), 2, 2, [], 13, 0⟩ : TS), (⟨4, (-1), 1, 0, [99], 0, 0⟩ : TS), true, false, 0⟩ : SS)) (by rfl) (by rfl)).mono ?_
  clear h
  rintro e w14 ⟨rfl, f, h⟩
  replace h := Lib.hid h
  replace f : Fr [b, W, b0, b1] w13 w14 := (((Fr.refl [] w13).alloc _).mono (by simp)).then f
  replace g : Fr [] w w14 := g.trans f (by simp) (fun x hx => .inr (by simp at hx; omega))
  clear f
  go_wp2_with fail
  refine (wrote_sp1 h.out (by decide) 0 14 (c := 0) (s' := (⟨(⟨4, (-1), 2, 2, [], 13, 0⟩ : TS), (⟨4, (-1), 1, 0, [99], 0, 14⟩ : TS), true, false, 14⟩ : SS)) (by rfl) (by rfl)).mono ?_
  clear h
  rintro e w15 ⟨rfl, f, h⟩
  replace h := Lib.hid h
  replace g : Fr [] w w15 := g.trans f (by simp) (fun x hx => .inr (by simp at hx; omega))
  clear f
  go_wp2_with fail
  refine (wants22 (x := (⟨4, 0, 0, [], 14⟩ : WT)) (next22_of1 h.out (by decide) (by rfl)) (Wr.plain _ _ _ _ _)).mono ?_
  rintro e w16 ⟨rfl, f⟩
  replace h := Lib.hid (h.out.keep0 f)
  replace g : Fr [] w w16 := g.then0 f
  clear f
  go_wp2_with fail
  refine (done22 (d := true) (done_sp h.out (by decide) (by decide) (by rfl))).mono ?_
  rintro e w17 ⟨rfl, f⟩
  replace h := Lib.hid (h.out.keep0 f)
  replace g : Fr [] w w17 := g.then0 f
  clear f
  go_wp2_with fail
  refine (sp_new_bad _ (st := 0) (by rfl)).mono ?_
  rintro e w18 ⟨rfl, f⟩
  replace h := Lib.hid (h.out.keep0 f)
  replace g : Fr [] w w18 := g.then0 f
  clear f
  go_wp2_with fail
  refine (wants22 (x := (⟨0, 0, 0, [], 0⟩ : WT)) (next22_bad h.out (i := 2) (by decide) (by decide)) (Wr.plain _ _ _ _ _)).mono ?_
  rintro e w19 ⟨rfl, f⟩
  replace h := Lib.hid (h.out.keep0 f)
  replace g : Fr [] w w19 := g.then0 f
  clear f
  go_wp2_with fail
  refine (sp_got_bad (w := w19.alloc _) (h.out.keep0 ((Fr.refl [] w19).alloc _)).q (i := -1) (by decide) (by decide) _ _ _ _).mono ?_
  rintro e w20 ⟨rfl, f⟩
  go_wp2_with fail
  go_ret
  exact ⟨rfl, (g.alloc _).then0 f⟩
end Go.Proofs.Ytodpkdbcdbdjfaa
