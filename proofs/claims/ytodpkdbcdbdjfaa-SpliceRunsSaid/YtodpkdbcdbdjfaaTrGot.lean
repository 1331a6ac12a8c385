/-
  Package transfer: Got, Wrote, Moved, Stage, Copy, Restore by what a transfer holds.
-/
import Derived.Test.YtodpkdbcdbdjfaaTrOps
namespace Go.Proofs.Ytodpkdbcdbdjfaa
open Go.RowKit
set_option maxRecDepth 100000

theorem Tr.nz {w : World} {N : Nat → Prop} {b : Nat} {t : TS} (h : Tr w N b t) : (t.stage == 0) = false := by have := h.ok.s1; rw [beq_eq_false_iff_ne]; omega
theorem tr_told {w : World} {b : Nat} {a : Option Addr} {len cap : Nat} {n sg lm rd wr r wc x y : Int} (h : TrB w b a len cap n sg lm rd wr r wc) : TrB ((w.setCell ⟨b, 4, none⟩ (.int .i64 x)).setCell ⟨b, 6, none⟩ (.int .i64 y)) b a len cap n sg lm x wr y wc := by
  have hb := heap_setCell_eq (i := 6) (u := .int .i64 y) (heap_setCell_eq (i := 4) (u := .int .i64 x) h)
  simp at hb
  exact hb
theorem tr_told2 {w : World} {b : Nat} {a : Option Addr} {len cap : Nat} {n sg lm rd wr r wc x y : Int} (h : TrB w b a len cap n sg lm rd wr r wc) : TrB ((w.setCell ⟨b, 5, none⟩ (.int .i64 x)).setCell ⟨b, 7, none⟩ (.int .i64 y)) b a len cap n sg lm rd x r y := by
  have hb := heap_setCell_eq (i := 7) (u := .int .i64 y) (heap_setCell_eq (i := 5) (u := .int .i64 x) h)
  simp at hb
  exact hb
theorem tr_got {w : World} {N : Nat → Prop} {b : Nat} {t : TS} (h : Tr w N b t) (hr : t.rd ≤ 4611686018427387904) {pa : Option Addr} {plen pcap : Nat} {p : List UInt8} (hs : Sl w pa (bi p)) (hl : plen = p.length) (hm : p.length ≤ 65536) (e : Int) :
    Calls Try.prog 18 #[.pointer (some ⟨b, 0, none⟩), .slice pa plen pcap, .int .i64 e] w fun x w' => x = .returned (.int .i64 (gotE t p e)) ∧ Fr [b] w w' ∧ Tr w' N b (gotT t p e) := by
  subst hl
  have HC : Hid (Calls Try.prog _ _ w fun x w' => x = .returned (.int .i64 (gotE t p e)) ∧ Fr [] w w') := Lib.hid (check_got h hr 1 p.length e)
  have hpm : (p.length : Int) ≤ 65536 := by omega
  by_cases hg : gotE t p e = 0
  · have hok := gotT_ok h.ok p e
    rw [hg] at HC ⊢
    have hgt : gotT t p e = { t with rd := t.rd + p.length, s := p, r := e } := by unfold gotT; rw [if_pos hg]
    rw [hgt] at hok ⊢
    have HOK := Lib.hid hok
    obtain ⟨a, cap, P, h1, h2, h3, h4, h5, h6⟩ := h
    have h0 := h6.r0
    have HP := Lib.hid fun w1 (f : Fr [] w w1) => tr_put (f.keep h1 (by simp)) (pcap := pcap) (sl_keep hs f (by simp)) rfl hm
    have HN4 := Lib.hid h4
    have HN5 := Lib.hid h5
    clear h2 h3 h4 h5 h6 hok hgt hg hs
    have hblt := lt_of_heap h1
    clear h1
    go_enter Try.func18, Try.ntmps18
    go_wp2_with fail
    refine HC.out.mono ?_
    rintro x w1 ⟨rfl, f1⟩
    go_wp2_with fail
    refine (HP.out _ f1).mono ?_
    rintro x w2 ⟨rfl, f2, a', cap', Q, q, rp, fl⟩
    obtain ⟨_, _, _, _, _, _, _, _, _, _, _, _, _, _⟩ := q.cells
    have HQ := Lib.hid q
    have HR := Lib.hid rp
    have HFL := Lib.hid fl
    have hz2 : w.heap.size ≤ w2.heap.size := Nat.le_trans f1.size f2.size
    clear q rp fl HC HP
    go_wp2_with fail
    go_ret
    have fs : Fr [b] w2 ((w2.setCell ⟨b, 4, none⟩ (.int .i64 (t.rd + p.length))).setCell ⟨b, 6, none⟩ (.int .i64 e)) := ((Fr.refl _ _).setCell (.inl (by simp)) _).setCell (.inl (by simp)) _
    have hz3 := fs.size
    have hz1 := f1.size
    exact ⟨rfl, (f1.trans f2 (by simp) (fun _ h => .inl h)).then fs, a', cap', Q, tr_told HQ.out, (HR.out.keep fs (fun x hx => by simp at hx; omega)).mono (fun x hx => HN5.out x (by omega)), HFL.out, HN4.out, fun x hx => HN5.out x (by omega), HOK.out⟩
  · have hg' : (gotE t p e != 0) = true := by simpa using hg
    have hgt : gotT t p e = t := by unfold gotT; rw [if_neg hg]
    rw [hgt]
    have HH := Lib.hid h
    clear h hgt hg hs
    generalize gotE t p e = z at *
    go_enter Try.func18, Try.ntmps18
    go_wp2_with fail
    refine HC.out.mono ?_
    rintro x w1 ⟨rfl, f1⟩
    go_wp2_with fail
    go_ret
    exact ⟨rfl, f1.mono (by simp), HH.out.keep0 f1⟩
theorem tr_wrote {w : World} {N : Nat → Prop} {b : Nat} {t : TS} (h : Tr w N b t) (hr : t.rd ≤ 4611686018427387904) (n e : Int) :
    Calls Try.prog 19 #[.pointer (some ⟨b, 0, none⟩), .int .i64 n, .int .i64 e] w fun x w' => x = .returned (.int .i64 (wroteE t n e)) ∧ Fr [b] w w' ∧ Tr w' N b (wroteT t n e) := by
  have HC : Hid (Calls Try.prog _ _ w fun x w' => x = .returned (.int .i64 (wroteE t n e)) ∧ Fr [] w w') := Lib.hid (check_wrote h hr 2 n e)
  by_cases hg : wroteE t n e = 0
  · have hok := wroteT_ok h.ok n e
    obtain ⟨k1, k2, k3, _⟩ := checkT_zero hg
    obtain ⟨_, _, hnx⟩ := nextT_k2 k1
    rw [hnx] at k3
    dsimp only at k3
    rw [hg] at HC ⊢
    have hgt : wroteT t n e = { t with wr := t.wr + n, s := t.s.drop n.toNat, w := e } := by unfold wroteT; rw [if_pos hg]
    rw [hgt] at hok ⊢
    have HOK := Lib.hid hok
    obtain ⟨a, cap, P, h1, h2, h3, h4, h5, h6⟩ := h
    have h0 := h6.w0
    have hwb : t.wr + n ≤ 4611686018427387904 := by have := h6.sum; omega
    have HP := Lib.hid fun w1 (f : Fr [] w w1) => tr_drop (f.keep h1 (by simp)) (h2.keep f (by simp)) h4 k2
    rw [h3] at HP
    have HN4 := Lib.hid h4
    have HN5 := Lib.hid h5
    clear h2 h3 h4 h5 h6 hok hgt hg k1 k3 hnx
    have hblt := lt_of_heap h1
    clear h1
    go_enter Try.func19, Try.ntmps19
    go_wp2_with fail
    refine HC.out.mono ?_
    rintro x w1 ⟨rfl, f1⟩
    go_wp2_with fail
    refine (HP.out _ f1).mono ?_
    rintro x w2 ⟨rfl, f2, a', cap', Q, q, rp, fl⟩
    obtain ⟨_, _, _, _, _, _, _, _, _, _, _, _, _, _⟩ := q.cells
    have HQ := Lib.hid q
    have HR := Lib.hid rp
    have HFL := Lib.hid fl
    have hz2 : w.heap.size ≤ w2.heap.size := Nat.le_trans f1.size f2.size
    clear q rp fl HC HP
    go_wp2_with fail
    go_ret
    have fs : Fr [b] w2 ((w2.setCell ⟨b, 5, none⟩ (.int .i64 (t.wr + n))).setCell ⟨b, 7, none⟩ (.int .i64 e)) := ((Fr.refl _ _).setCell (.inl (by simp)) _).setCell (.inl (by simp)) _
    have hz3 := fs.size
    have hz1 := f1.size
    have hR2 : Rp w2 N (.agg #[.slice a' Q.length cap', .int .i64 (tot Q)]) Q := HR.out.mono fun x hx => hx.elim id (fun hx => HN5.out x (by omega))
    exact ⟨rfl, (f1.trans f2 (by simp) (fun _ h => .inl h)).then fs, a', cap', Q, tr_told2 HQ.out, hR2.keep fs (fun x hx => by simp at hx; subst hx; exact HN4.out), HFL.out, HN4.out, fun x hx => HN5.out x (by omega), HOK.out⟩
  · have hg' : (wroteE t n e != 0) = true := by simpa using hg
    have hgt : wroteT t n e = t := by unfold wroteT; rw [if_neg hg]
    rw [hgt]
    have HH := Lib.hid h
    clear h hgt hg
    generalize wroteE t n e = z at *
    go_enter Try.func19, Try.ntmps19
    go_wp2_with fail
    refine HC.out.mono ?_
    rintro x w1 ⟨rfl, f1⟩
    go_wp2_with fail
    go_ret
    exact ⟨rfl, f1.mono (by simp), HH.out.keep0 f1⟩
theorem tr_movedT {w : World} {N : Nat → Prop} {b : Nat} {t : TS} (h : Tr w N b t) :
    Calls Try.prog 37 #[.pointer (some ⟨b, 0, none⟩)] w fun e w' => e = .returned (.tuple #[.int .i64 t.rd, .int .i64 t.wr]) ∧ Fr [] w w' := by
  have hz := h.nz
  obtain ⟨a, cap, P, h1, _⟩ := h
  exact tr_moved h1 hz
theorem tr_stageT {w : World} {N : Nat → Prop} {b : Nat} {t : TS} (h : Tr w N b t) :
    Calls Try.prog 22 #[.pointer (some ⟨b, 0, none⟩)] w fun e w' => ∃ u, e = .returned u ∧ Fr [] w w' ∧ Ow w' w.heap.size 5 u ((bi t.s).map (Value.int .u8)) := by
  have hz := h.nz
  obtain ⟨a, cap, P, h1, h2, h3, _⟩ := h
  rw [← h3]
  exact tr_stage h1 hz h2
theorem tr_copy {w : World} {N : Nat → Prop} {b : Nat} {t : TS} (h : Tr w N b t) :
    Calls Try.prog 26 #[.pointer (some ⟨b, 0, none⟩)] w fun e w' => e = .returned (.pointer (some ⟨w.heap.size, 0, none⟩)) ∧ Fr [] w w' ∧ Tr w' (fun x => N x ∧ x ≠ w.heap.size) w.heap.size t := by
  have hz := h.nz
  obtain ⟨a, cap, P, h1, h2, h3, h4, h5, h6⟩ := h
  refine (tr_copyB h1 hz).mono ?_
  rintro e w' ⟨rfl, f, q, hs⟩
  exact ⟨rfl, f, a, cap, P, q, (h2.there.keep f (by simp)).mono (fun x hx => ⟨hx.1, by omega⟩), h3, fun h => h.2 rfl, fun x hx => ⟨h5 x (Nat.le_trans f.size hx), by omega⟩, h6⟩

/-- A nil transfer, or a zero one. -/
def Zt (w : World) (r : Option Addr) : Prop := r = none ∨ ∃ b, r = some ⟨b, 0, none⟩ ∧ TrB w b none 0 0 0 0 0 0 0 0 0
theorem Zt.keep {w w' : World} {r : Option Addr} (h : Zt w r) (f : Fr [] w w') : Zt w' r := h.imp id fun ⟨b, e, q⟩ => ⟨b, e, f.keep q (by simp)⟩
theorem tnone_z {w : World} {r : Option Addr} (h : Zt w r) : Calls Try.prog 48 #[.pointer r] w fun e w' => e = .returned (.bool true) ∧ w = w' := by
  rcases h with rfl | ⟨b, rfl, q⟩
  · exact tnone_nil w
  · exact tnone_zero q
theorem tnext_z {w : World} {r : Option Addr} (h : Zt w r) : Calls Try.prog 17 #[.pointer r] w fun e w' => e = .returned (.agg #[.int .i64 4, .int .i64 0, .int .i64 0, .slice none 0 0, .int .i64 0]) ∧ Fr [] w w' := by
  rcases h with rfl | ⟨b, rfl, q⟩
  · exact tnext_nil w
  · exact tnext_zero q
theorem tcheck_z {w : World} {r : Option Addr} (h : Zt w r) (k n e : Int) (f : Value) : Calls Try.prog 53 #[.pointer r, .int .i64 k, .int .i64 n, f, .int .i64 e] w fun e w' => e = .returned (.int .i64 1) ∧ w = w' := by
  have H := Lib.hid (tnone_z h)
  clear h
  go_enter Try.func53, Try.ntmps53
  go_wp2_with fail
  refine H.out.mono ?_
  rintro e w' ⟨rfl, rfl⟩
  go_wp2_with fail
  go_ret
  exact ⟨rfl, rfl⟩
theorem tgot_z {w : World} {r : Option Addr} (h : Zt w r) (pa : Option Addr) (pl pc : Nat) (e : Int) : Calls Try.prog 18 #[.pointer r, .slice pa pl pc, .int .i64 e] w fun e w' => e = .returned (.int .i64 1) ∧ w = w' := by
  have H := Lib.hid (tcheck_z h 1 pl e (.func (.func 54) #[] #[]))
  clear h
  go_enter Try.func18, Try.ntmps18
  go_wp2_with fail
  refine H.out.mono ?_
  rintro e w' ⟨rfl, rfl⟩
  go_wp2_with fail
  go_ret
  exact ⟨rfl, rfl⟩
theorem twrote_z {w : World} {r : Option Addr} (h : Zt w r) (n e : Int) : Calls Try.prog 19 #[.pointer r, .int .i64 n, .int .i64 e] w fun e w' => e = .returned (.int .i64 1) ∧ w = w' := by
  have H := Lib.hid (tcheck_z h 2 n e (.func (.func 56) #[] #[]))
  clear h
  go_enter Try.func19, Try.ntmps19
  go_wp2_with fail
  refine H.out.mono ?_
  rintro e w' ⟨rfl, rfl⟩
  go_wp2_with fail
  go_ret
  exact ⟨rfl, rfl⟩
theorem tmoved_z {w : World} {r : Option Addr} (h : Zt w r) : Calls Try.prog 37 #[.pointer r] w fun e w' => e = .returned (.tuple #[.int .i64 0, .int .i64 0]) ∧ w = w' := by
  have H := Lib.hid (tnone_z h)
  clear h
  go_enter Try.func37, Try.ntmps37
  go_wp2_with fail
  refine H.out.mono ?_
  rintro e w' ⟨rfl, rfl⟩
  go_wp2_with fail
  go_ret2
  exact ⟨rfl, rfl⟩
theorem tstage_z {w : World} {r : Option Addr} (h : Zt w r) : Calls Try.prog 22 #[.pointer r] w fun e w' => e = .returned (.slice none 0 0) ∧ w = w' := by
  have H := Lib.hid (tnone_z h)
  clear h
  go_enter Try.func22, Try.ntmps22
  go_wp2_with fail
  refine H.out.mono ?_
  rintro e w' ⟨rfl, rfl⟩
  go_wp2_with fail
  go_ret
  exact ⟨rfl, rfl⟩
theorem tcopy_z {w : World} {r : Option Addr} (h : Zt w r) : Calls Try.prog 26 #[.pointer r] w fun e w' => e = .returned (.pointer none) ∧ w = w' := by
  have H := Lib.hid (tnone_z h)
  clear h
  go_enter Try.func26, Try.ntmps26
  go_wp2_with fail
  refine H.out.mono ?_
  rintro e w' ⟨rfl, rfl⟩
  go_wp2_with fail
  go_ret
  exact ⟨rfl, rfl⟩
end Go.Proofs.Ytodpkdbcdbdjfaa
