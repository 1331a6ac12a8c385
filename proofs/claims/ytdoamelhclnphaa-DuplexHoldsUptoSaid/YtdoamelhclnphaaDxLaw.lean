/-
  Law 15: begins, at, reads, ends: what they ask of one call of a connection.
-/
import Derived.Test.YtdoamelhclnphaaDupA
import Derived.Test.YtdoamelhclnphaaDxClose
namespace Go.Proofs.Ytdoamelhclnphaa
open Go.RowKit
set_option maxRecDepth 100000

theorem begins15 {w : World} {r : Option Addr} {k : Int} {l : List UInt8} {want : Int} {P : World → Prop} (hl : l.length ≤ 65536)
    (hb : ∀ w4 v Q, Fr [] w w4 → Rp w4 (fun x => w.heap.size ≤ x) v Q → Q.flatten = l → Calls Try.prog 51 #[.pointer r, .int .i64 k, v] w4 fun e w' => e = .returned (.int .i64 want) ∧ P w') :
    Calls Try.prog 15 #[.pointer r, .int .i64 k, .string ⟨l.toArray⟩, .int .i64 want] w fun e w' => e = .returned (.bool true) ∧ P w' := by
  have hcv := Lib.run_convert_string_bytes (P := Try.prog) w 9 29 5 ⟨l.toArray⟩ Try.underlying9 Try.underlying29 Try.underlying5
  have f1 := Fr.bytesWorld w 5 ⟨l.toArray⟩
  have s1 := Sl.bytesWorld w 5 l
  have hg : l.length ≤ grownCap w l.length 0 5 := grownCap_ge _ _ _ _
  have hgm : grownCap w l.length 0 5 ≤ maxLen := grownCap_le_maxLen _ _ _ _ (by unfold maxLen; omega)
  rw [show (⟨l.toArray⟩ : ByteArray).size = l.length from by simp [ByteArray.size]] at hcv
  have hB : w.heap.size < (Lib.bytesWorld w 5 ⟨l.toArray⟩).heap.size := by rw [Lib.bytesWorld_size]; omega
  generalize Lib.bytesWorld w 5 ⟨l.toArray⟩ = W1 at hcv f1 s1 hB
  generalize grownCap w l.length 0 5 = G at hcv hg hgm
  have pv : PartV W1 (fun x => w.heap.size ≤ x) (.slice (some ⟨w.heap.size, 0, none⟩) l.length G) l := ⟨_, _, rfl, hg, hgm, s1, fun b o _ e => by injection e with e; injection e with e1; omega⟩
  obtain ⟨W2, hW2, f2, q2⟩ : ∃ W, W1.alloc (.cells #[.slice (some ⟨w.heap.size, 0, none⟩) l.length G] 29) = W ∧ Fr [] W1 W ∧ W.heap[W1.heap.size]? = some (.cells #[.slice (some ⟨w.heap.size, 0, none⟩) l.length G] 29 (0, 0)) := ⟨_, rfl, (Fr.refl _ _).alloc _, newA rfl⟩
  have HN := Lib.hid (rope_new (cap := 1) (len := 1) (parts_single q2 (pv.keep f2 (by simp))) rfl (by unfold maxLen; omega))
  have g2 := f1.trans f2 (U := []) (by simp) (by simp)
  have hs2 := g2.size
  have HH := Lib.hid hb
  have HL := Lib.hid hl
  clear hb pv q2 s1 hl f1 f2
  go_enter Try.func15, Try.ntmps15
  go_wp2_with fail
  refine HN.out.mono ?_
  rintro e w3 ⟨f3, he⟩
  rw [if_neg (by have := (own_single l).1; omega), if_neg (by have := HL.out; simp [tot]; omega)] at he
  obtain ⟨v, rfl, hr⟩ := he
  have hfl := (own_single l).2
  generalize own [l] = Q at *
  obtain ⟨ra, rc, rfl, _⟩ := id hr
  obtain ⟨w4, hw4, f4, q4⟩ : ∃ W, w3.alloc (.cells #[.slice ra Q.length rc, .int .i64 (tot Q)] 57) = W ∧ Fr [] w3 W ∧ W.heap[w3.heap.size]? = some (.cells #[.slice ra Q.length rc, .int .i64 (tot Q)] 57 (0, 0)) := ⟨_, rfl, (Fr.refl _ _).alloc _, newA rfl⟩
  have g4 := (g2.then0 f3).then0 f4
  have x0 : w4.cell? ⟨w3.heap.size, 0, none⟩ = some (.slice ra Q.length rc) := cell_of q4
  have x1 : w4.cell? ⟨w3.heap.size, 1, none⟩ = some (.int .i64 (tot Q)) := cell_of q4
  have HB := Lib.hid (HH.out w4 _ _ g4 ((hr.keep f4 (by simp)).mono (fun x hx => by omega)) hfl)
  clear HN hr f3 f4 q4 g4 hfl g2
  go_wp2_with fail
  refine HB.out.mono ?_
  rintro e w5 ⟨rfl, hp⟩
  have HP := Lib.hid hp
  clear HB hp
  have hww : (want == want) = true := beq_self_eq_true want
  go_wp2_with fail
  go_ret
  exact ⟨rfl, HP.out⟩
theorem at15 {w : World} {r : Option Addr} {k n : Int} {d : Bool} {P : World → Prop} (h : Calls Try.prog 52 #[.pointer r, .int .i64 k] w fun e w' => e = .returned (.tuple #[.int .i64 n, .bool d]) ∧ P w') :
    Calls Try.prog 16 #[.pointer r, .int .i64 k, .int .i64 n, .bool d] w fun e w' => e = .returned (.bool true) ∧ P w' := by
  have HP := Lib.hid h
  have h1 : (n == n) = true := beq_self_eq_true _
  have h2 : (d == d) = true := beq_self_eq_true _
  clear h
  go_enter Try.func16, Try.ntmps16
  go_wp2_with fail
  refine HP.out.mono ?_
  rintro e w1 ⟨rfl, hp⟩
  have HQ := Lib.hid hp
  clear hp
  go_wp2_with fail
  go_ret
  exact ⟨rfl, HQ.out⟩
theorem reads15 {w : World} {r : Option Addr} {k most : Int} {l : List UInt8} {no : Int} {P : World → Prop} (h : Calls Try.prog 12 #[.pointer r, .int .i64 k, .int .i64 most] w fun e w' => ∃ u M, e = .returned (.tuple #[u, .int .i64 no]) ∧ Ow w' M 5 u ((bi l).map (Value.int .u8)) ∧ P w') :
    Calls Try.prog 68 #[.pointer r, .int .i64 k, .int .i64 most, .string (st l), .int .i64 no] w fun e w' => e = .returned (.bool true) ∧ P w' := by
  have HR := Lib.hid h
  have hnn : (no == no) = true := beq_self_eq_true no
  clear h
  go_enter Try.func68, Try.ntmps68
  go_wp2_with fail
  refine HR.out.mono ?_
  rintro e w2 ⟨u, M, rfl, ou, hp⟩
  clear HR
  obtain ⟨ga, gc, rfl, _, _, hs, _⟩ := ou.formB
  have hcv := fun c => conv_st (cap := c) hs rfl
  have HP := Lib.hid hp
  clear hp ou hs
  go_wp2_with fail
  go_ret
  exact ⟨rfl, HP.out⟩
theorem ends15 {w : World} {r : Option Addr} {k n no : Int} {P : World → Prop} (h : Calls Try.prog 13 #[.pointer r, .int .i64 k] w fun e w' => e = .returned (.tuple #[.int .i64 n, .int .i64 no]) ∧ P w') :
    Calls Try.prog 69 #[.pointer r, .int .i64 k, .int .i64 n, .int .i64 no] w fun e w' => e = .returned (.bool true) ∧ P w' := by
  have HR := Lib.hid h
  have hnn : (no == no) = true := beq_self_eq_true no
  have hn1 : (n == n) = true := beq_self_eq_true n
  clear h
  go_enter Try.func69, Try.ntmps69
  go_wp2_with fail
  refine HR.out.mono ?_
  rintro e w2 ⟨rfl, hp⟩
  clear HR
  have HP := Lib.hid hp
  clear hp
  go_wp2_with fail
  go_ret
  exact ⟨rfl, HP.out⟩
/-- A connection of the call's own. -/
def K15 (w0 w : World) (d : Nat) (s : DM) : Prop := Fr [] w0 w ∧ ∃ F : Nat → Prop, Dx w F d s ∧ ∀ x, F x → w0.heap.size ≤ x
theorem K15.next {w0 w w' : World} {d : Nat} {s' : DM} {F G : Nat → Prop} (f : Fr [] w0 w) (hF : ∀ x, F x → w0.heap.size ≤ x) (hG : ∀ x, G x → w0.heap.size ≤ x) (h : DxQ w F G d s' w') : K15 w0 w' d s' := by
  obtain ⟨⟨S, hS, g⟩, F', hF', h'⟩ := h
  have hz := f.size
  refine ⟨f.trans g (by simp) (fun x hx => .inr ?_), F', h', fun x hx => ?_⟩
  · rcases hS x hx with h | h
    · exact hF x h
    · omega
  · rcases hF' x hx with h | h | h
    · exact hF x h
    · exact hG x h
    · omega
theorem K15.same {w0 w w' : World} {d : Nat} {s : DM} (h : K15 w0 w d s) (f : Fr [] w w') : K15 w0 w' d s := by
  obtain ⟨g, F, h1, h2⟩ := h
  exact ⟨g.then0 f, F, h1.keep0 f, h2⟩
theorem K15.begins0 {w0 w : World} {d : Nat} {s : DM} (h : K15 w0 w d s) (l : List UInt8) (hl : l.length ≤ 65536) (no : Int) (hw : (beginM s.m0 l).err = no) :
    Calls Try.prog 15 #[.pointer (some ⟨d, 0, none⟩), .int .i64 0, .string ⟨l.toArray⟩, .int .i64 no] w fun e w' => e = .returned (.bool true) ∧ K15 w0 w' d { s with m0 := (beginM s.m0 l).m } := by
  obtain ⟨f, F, ⟨b0, b1, F0, F1, h⟩, hF⟩ := h
  have hz := f.size
  refine begins15 hl fun w4 v Q f4 hr hq => ?_
  subst hq hw
  refine ((dx_begin0 (h.keep f4 (by simp)) hr (fun x hx hn => by have := h.lt x hx; omega))).mono ?_
  rintro e w' ⟨he, hp⟩
  exact ⟨he, K15.next (f.then0 f4) hF (fun x hx => by have := hx.1; omega) hp⟩
theorem K15.at0 {w0 w : World} {d : Nat} {s : DM} (h : K15 w0 w d s) (n : Int) (b : Bool) (hn : s.m0.acc = n) (hb : atEndM s.m0 = b) :
    Calls Try.prog 16 #[.pointer (some ⟨d, 0, none⟩), .int .i64 0, .int .i64 n, .bool b] w fun e w' => e = .returned (.bool true) ∧ K15 w0 w' d s := by
  obtain ⟨f, F, ⟨b0, b1, F0, F1, h⟩, hF⟩ := h
  have hz := f.size
  subst hn hb
  refine at15 ((dx_progress0 h).mono ?_)
  rintro e w' ⟨he, g⟩
  exact ⟨he, f.then0 g, F, (show Dx w F d s from ⟨b0, b1, F0, F1, h⟩).keep0 g, hF⟩
theorem K15.reads0 {w0 w : World} {d : Nat} {s : DM} (h : K15 w0 w d s) (n : Int) (l : List UInt8) (no : Int) (hq : (readM s.m1 n).out = l) (he : (readM s.m1 n).err = no) :
    Calls Try.prog 68 #[.pointer (some ⟨d, 0, none⟩), .int .i64 0, .int .i64 n, .string (st l), .int .i64 no] w fun e w' => e = .returned (.bool true) ∧ K15 w0 w' d { s with m1 := (readM s.m1 n).m } := by
  obtain ⟨f, F, ⟨b0, b1, F0, F1, h⟩, hF⟩ := h
  have hz := f.size
  subst hq he
  refine reads15 ((dx_read0 h n).mono ?_)
  rintro e w' ⟨u, he, ou, hp⟩
  exact ⟨u, _, he, ou, K15.next f hF (fun x hx => hx.elim) hp⟩
theorem K15.ends0 {w0 w : World} {d : Nat} {s : DM} (h : K15 w0 w d s) (n no : Int) (hn : (endM s.m0).n = n) (he : (endM s.m0).err = no) :
    Calls Try.prog 69 #[.pointer (some ⟨d, 0, none⟩), .int .i64 0, .int .i64 n, .int .i64 no] w fun e w' => e = .returned (.bool true) ∧ K15 w0 w' d { s with m0 := (endM s.m0).m } := by
  obtain ⟨f, F, ⟨b0, b1, F0, F1, h⟩, hF⟩ := h
  have hz := f.size
  subst hn he
  refine ends15 ((dx_finish0 h).mono ?_)
  rintro e w' ⟨he, hp⟩
  exact ⟨he, K15.next f hF (fun x hx => hx.elim) hp⟩
theorem K15.closer0 {w0 w : World} {d : Nat} {s : DM} (h : K15 w0 w d s) :
    Calls Try.prog 18 #[.pointer (some ⟨d, 0, none⟩), .int .i64 0] w fun e w' => e = .returned (.int .i64 (closerM s.m1 14).err) ∧ K15 w0 w' d { s with m1 := (closerM s.m1 14).m } := by
  obtain ⟨f, F, ⟨b0, b1, F0, F1, h⟩, hF⟩ := h
  refine (dx_closeread0 h).mono ?_
  rintro e w' ⟨he, hp⟩
  exact ⟨he, K15.next f hF (fun x hx => hx.elim) hp⟩
theorem K15.closew0 {w0 w : World} {d : Nat} {s : DM} (h : K15 w0 w d s) :
    Calls Try.prog 19 #[.pointer (some ⟨d, 0, none⟩), .int .i64 0] w fun e w' => e = .returned (.int .i64 (closewM s.m0 13).err) ∧ K15 w0 w' d { s with m0 := (closewM s.m0 13).m } := by
  obtain ⟨f, F, ⟨b0, b1, F0, F1, h⟩, hF⟩ := h
  refine (dx_closewrite0 h).mono ?_
  rintro e w' ⟨he, hp⟩
  exact ⟨he, K15.next f hF (fun x hx => hx.elim) hp⟩
theorem K15.close0 {w0 w : World} {d : Nat} {s : DM} (h : K15 w0 w d s) (hx : s.x0 = false) :
    Calls Try.prog 17 #[.pointer (some ⟨d, 0, none⟩), .int .i64 0] w fun e w' => e = .returned (.int .i64 0) ∧ K15 w0 w' d (closeS0 s) := by
  obtain ⟨f, F, ⟨b0, b1, F0, F1, h⟩, hF⟩ := h
  refine (dx_close0 h hx).mono ?_
  rintro e w' ⟨he, hp⟩
  exact ⟨he, K15.next f hF (fun x hx => hx.elim) hp⟩
theorem K15.close0_yes {w0 w : World} {d : Nat} {s : DM} (h : K15 w0 w d s) (hx : s.x0 = true) :
    Calls Try.prog 17 #[.pointer (some ⟨d, 0, none⟩), .int .i64 0] w fun e w' => e = .returned (.int .i64 14) ∧ K15 w0 w' d s := by
  obtain ⟨f, F, ⟨b0, b1, F0, F1, h⟩, hF⟩ := h
  refine (dx_close0_yes h hx).mono ?_
  rintro e w' ⟨he, rfl⟩
  exact ⟨he, f, F, ⟨b0, b1, F0, F1, h⟩, hF⟩
theorem K15.closed0 {w0 w : World} {d : Nat} {s : DM} (h : K15 w0 w d s) (x : Bool) (hx : s.x0 = x) :
    Calls Try.prog 20 #[.pointer (some ⟨d, 0, none⟩), .int .i64 0] w fun e w' => e = .returned (.bool x) ∧ K15 w0 w' d s := by
  subst hx
  obtain ⟨f, F, ⟨b0, b1, F0, F1, h⟩, hF⟩ := h
  refine (dx_closed0 h).mono ?_
  rintro e w' ⟨he, rfl⟩
  exact ⟨he, f, F, ⟨b0, b1, F0, F1, h⟩, hF⟩
theorem K15.begins1 {w0 w : World} {d : Nat} {s : DM} (h : K15 w0 w d s) (l : List UInt8) (hl : l.length ≤ 65536) (no : Int) (hw : (beginM s.m1 l).err = no) :
    Calls Try.prog 15 #[.pointer (some ⟨d, 0, none⟩), .int .i64 1, .string ⟨l.toArray⟩, .int .i64 no] w fun e w' => e = .returned (.bool true) ∧ K15 w0 w' d { s with m1 := (beginM s.m1 l).m } := by
  obtain ⟨f, F, ⟨b0, b1, F0, F1, h⟩, hF⟩ := h
  have hz := f.size
  refine begins15 hl fun w4 v Q f4 hr hq => ?_
  subst hq hw
  refine ((dx_begin1 (h.keep f4 (by simp)) hr (fun x hx hn => by have := h.lt x hx; omega))).mono ?_
  rintro e w' ⟨he, hp⟩
  exact ⟨he, K15.next (f.then0 f4) hF (fun x hx => by have := hx.1; omega) hp⟩
theorem K15.at1 {w0 w : World} {d : Nat} {s : DM} (h : K15 w0 w d s) (n : Int) (b : Bool) (hn : s.m1.acc = n) (hb : atEndM s.m1 = b) :
    Calls Try.prog 16 #[.pointer (some ⟨d, 0, none⟩), .int .i64 1, .int .i64 n, .bool b] w fun e w' => e = .returned (.bool true) ∧ K15 w0 w' d s := by
  obtain ⟨f, F, ⟨b0, b1, F0, F1, h⟩, hF⟩ := h
  have hz := f.size
  subst hn hb
  refine at15 ((dx_progress1 h).mono ?_)
  rintro e w' ⟨he, g⟩
  exact ⟨he, f.then0 g, F, (show Dx w F d s from ⟨b0, b1, F0, F1, h⟩).keep0 g, hF⟩
theorem K15.reads1 {w0 w : World} {d : Nat} {s : DM} (h : K15 w0 w d s) (n : Int) (l : List UInt8) (no : Int) (hq : (readM s.m0 n).out = l) (he : (readM s.m0 n).err = no) :
    Calls Try.prog 68 #[.pointer (some ⟨d, 0, none⟩), .int .i64 1, .int .i64 n, .string (st l), .int .i64 no] w fun e w' => e = .returned (.bool true) ∧ K15 w0 w' d { s with m0 := (readM s.m0 n).m } := by
  obtain ⟨f, F, ⟨b0, b1, F0, F1, h⟩, hF⟩ := h
  have hz := f.size
  subst hq he
  refine reads15 ((dx_read1 h n).mono ?_)
  rintro e w' ⟨u, he, ou, hp⟩
  exact ⟨u, _, he, ou, K15.next f hF (fun x hx => hx.elim) hp⟩
theorem K15.ends1 {w0 w : World} {d : Nat} {s : DM} (h : K15 w0 w d s) (n no : Int) (hn : (endM s.m1).n = n) (he : (endM s.m1).err = no) :
    Calls Try.prog 69 #[.pointer (some ⟨d, 0, none⟩), .int .i64 1, .int .i64 n, .int .i64 no] w fun e w' => e = .returned (.bool true) ∧ K15 w0 w' d { s with m1 := (endM s.m1).m } := by
  obtain ⟨f, F, ⟨b0, b1, F0, F1, h⟩, hF⟩ := h
  have hz := f.size
  subst hn he
  refine ends15 ((dx_finish1 h).mono ?_)
  rintro e w' ⟨he, hp⟩
  exact ⟨he, K15.next f hF (fun x hx => hx.elim) hp⟩
theorem K15.closer1 {w0 w : World} {d : Nat} {s : DM} (h : K15 w0 w d s) :
    Calls Try.prog 18 #[.pointer (some ⟨d, 0, none⟩), .int .i64 1] w fun e w' => e = .returned (.int .i64 (closerM s.m0 14).err) ∧ K15 w0 w' d { s with m0 := (closerM s.m0 14).m } := by
  obtain ⟨f, F, ⟨b0, b1, F0, F1, h⟩, hF⟩ := h
  refine (dx_closeread1 h).mono ?_
  rintro e w' ⟨he, hp⟩
  exact ⟨he, K15.next f hF (fun x hx => hx.elim) hp⟩
theorem K15.closew1 {w0 w : World} {d : Nat} {s : DM} (h : K15 w0 w d s) :
    Calls Try.prog 19 #[.pointer (some ⟨d, 0, none⟩), .int .i64 1] w fun e w' => e = .returned (.int .i64 (closewM s.m1 13).err) ∧ K15 w0 w' d { s with m1 := (closewM s.m1 13).m } := by
  obtain ⟨f, F, ⟨b0, b1, F0, F1, h⟩, hF⟩ := h
  refine (dx_closewrite1 h).mono ?_
  rintro e w' ⟨he, hp⟩
  exact ⟨he, K15.next f hF (fun x hx => hx.elim) hp⟩
theorem K15.close1 {w0 w : World} {d : Nat} {s : DM} (h : K15 w0 w d s) (hx : s.x1 = false) :
    Calls Try.prog 17 #[.pointer (some ⟨d, 0, none⟩), .int .i64 1] w fun e w' => e = .returned (.int .i64 0) ∧ K15 w0 w' d (closeS1 s) := by
  obtain ⟨f, F, ⟨b0, b1, F0, F1, h⟩, hF⟩ := h
  refine (dx_close1 h hx).mono ?_
  rintro e w' ⟨he, hp⟩
  exact ⟨he, K15.next f hF (fun x hx => hx.elim) hp⟩
theorem K15.close1_yes {w0 w : World} {d : Nat} {s : DM} (h : K15 w0 w d s) (hx : s.x1 = true) :
    Calls Try.prog 17 #[.pointer (some ⟨d, 0, none⟩), .int .i64 1] w fun e w' => e = .returned (.int .i64 14) ∧ K15 w0 w' d s := by
  obtain ⟨f, F, ⟨b0, b1, F0, F1, h⟩, hF⟩ := h
  refine (dx_close1_yes h hx).mono ?_
  rintro e w' ⟨he, rfl⟩
  exact ⟨he, f, F, ⟨b0, b1, F0, F1, h⟩, hF⟩
theorem K15.closed1 {w0 w : World} {d : Nat} {s : DM} (h : K15 w0 w d s) (x : Bool) (hx : s.x1 = x) :
    Calls Try.prog 20 #[.pointer (some ⟨d, 0, none⟩), .int .i64 1] w fun e w' => e = .returned (.bool x) ∧ K15 w0 w' d s := by
  subst hx
  obtain ⟨f, F, ⟨b0, b1, F0, F1, h⟩, hF⟩ := h
  refine (dx_closed1 h).mono ?_
  rintro e w' ⟨he, rfl⟩
  exact ⟨he, f, F, ⟨b0, b1, F0, F1, h⟩, hF⟩

end Go.Proofs.Ytdoamelhclnphaa
