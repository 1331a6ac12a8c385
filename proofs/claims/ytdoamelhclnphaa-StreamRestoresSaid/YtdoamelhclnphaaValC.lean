/-
  Which states are valid.
-/
import Derived.Test.YtdoamelhclnphaaStValidB
import Derived.Test.YtdoamelhclnphaaStB
import Derived.Test.YtdoamelhclnphaaRegT
namespace Go.Proofs.Ytdoamelhclnphaa
open Go.RowKit

theorem opM_iff (m : SM) : opM m = true ↔ m.w = 0 ∧ m.r = 0 := by
  unfold opM
  simp
theorem r_valid {w : World} {N : Nat → Prop} {v : Value} {m : SM} (h : Sv w N v m) (hb : m.q.length ≤ 1000000 ∧ m.rest.length ≤ 1000000) :
    Calls Try.prog 47 #[v] w fun e w' => e = .returned (.bool (validM m)) ∧ Fr [] w w' := by
  have HO := Lib.hid fun w0 (f : Fr [] w w0) => r_open (h.keep f (by simp))
  obtain ⟨u1, u2, rfl, ⟨a1, k1, rfl, _⟩, ⟨a2, k2, rfl, _⟩⟩ := h
  exact r_valid0 hb.1 hb.2 (opM_iff m) fun w0 f => HO.out w0 f
theorem st_valid {w : World} {N : Nat → Prop} {v : Value} {m : SM} (h : Sv w N v m) (hb : m.q.length ≤ 1000000 ∧ m.rest.length ≤ 1000000) :
    Calls Try.prog 46 #[v] w fun e w' => e = .returned (.bool (validM m)) ∧ Fr [] w w' := by
  obtain ⟨u1, u2, rfl, ⟨a1, k1, rfl, _⟩, ⟨a2, k2, rfl, _⟩⟩ := h
  exact st_valid0 hb.1 hb.2 (opM_iff m)
end Go.Proofs.Ytdoamelhclnphaa

namespace Go.Proofs.Ytdoamelhclnphaa
open Go.RowKit
set_option maxRecDepth 100000

/-- slices.Clone of bytes. -/
theorem byte_clone {w : World} {N : Nat → Prop} {v : Value} {l : List UInt8} (h : PartV w N v l) (hm : l.length ≤ 1000000) :
    Calls Try.prog 90 #[v] w fun e w' => ∃ u, e = .returned u ∧ Fr [] w w' ∧ Ow w' w.heap.size 5 u ((bi l).map (Value.int .u8)) := by
  obtain ⟨a, cap, rfl, _, _, hs, _⟩ := h
  have hnil := fun (w : World) (A : Option Addr) (n c : Nat) => Lib.run_eql_slice_nil (P := Try.prog) w 29 5 A n c 0 0 Try.underlying29
  by_cases ha : a = none
  · subst ha
    have hl : l = [] := by
      by_cases h0 : 0 < l.length
      · obtain ⟨b, o, e, _⟩ := hs (by simpa [bi_length] using h0)
        cases e
      · exact List.eq_nil_of_length_eq_zero (by omega)
    subst hl
    clear hs hm
    go_enter Try.func90, Try.ntmps90
    go_wp2_with fail
    go_ret
    exact ⟨_, rfl, Fr.refl _ _, Ow.nil _ _ _⟩
  · obtain ⟨p, rfl⟩ := Option.ne_none_iff_exists'.1 ha
    have HU : Hid (Try.prog.underlying 29 = some (.slice 5)) := Lib.hid Try.underlying29
    have HIN : Hid ((Try.prog.info? 5).map (fun i => (i.zero, i.size, i.bytes)) = some (some (.int .u8 0), 1, 1)) := Lib.hid (by kernel_rfl)
    have HONE : Hid (∀ u ∈ (bi l).map (Value.int .u8), u.oneCell' = true) := Lib.hid (bytes_one _)
    have HL : Hid (((bi l).map (Value.int .u8)).length = l.length) := Lib.hid (by simp [bi_length])
    have HK : Hid (∀ w', Fr [] w w' → SlV w' (some p) ((bi l).map (Value.int .u8))) := Lib.hid fun w' h => hs.toV.keep h (by simp)
    have H3 : Hid (([] : List Value).length + l.length ≤ maxLen) := Lib.hid (by unfold maxLen; simp; omega)
    have H4 : Hid ((([] : List Value).length + l.length) * 1 ≤ 140737488355328) := Lib.hid (by simp; omega)
    clear hs hm ha
    go_enter Try.func90, Try.ntmps90
    go_wp2_with (refine wpList_append_fr _ rfl (.tmp 5) (.tmp 6) 29 rfl 5 (.int .u8 0) 1 HU.out HIN.out rfl w.heap.size (.slice (some ⟨w.heap.size, 0, none⟩) 0 0) [] (by exact rfl) (Ow.of_row (xs := []) (newA rfl) (Nat.le_refl _) (by unfold maxLen; simp)) (some p) l.length cap ((bi l).map (Value.int .u8)) (by exact rfl) HL.out (HK.out _ ((Fr.refl _ _).alloc _)) HONE.out H3.out H4.out (by simp) ?_)
    intro v' w' hown hfr _
    go_wp2_with fail
    go_ret
    exact ⟨_, rfl, ((Fr.refl _ _).alloc _).own hfr (fun k hk => .inr (by simp only [Value.ownBlock, Option.some.injEq] at hk; omega)), hown.out⟩
/-- fill into a store from a rope in a box of its own. -/
theorem sto_fill0 {w : World} {N : Nat → Prop} {L : List Nat} {sv : Value} {c : Int} {q : List UInt8} {B cap : Nat} {a : Option Addr} {P : Parts} (h : Sto w L sv c q) (hB : w.heap[B]? = some (.cells #[.slice a P.length cap, .int .i64 (tot P)] 57 (0, 0))) (hp : Rp w N (.agg #[.slice a P.length cap, .int .i64 (tot P)]) P)
    (hBL : B ∉ L) (hBN : ¬ N B) (hnl : ∀ x ∈ L, ¬ N x) :
    Invokes sv "aqueduct/stream.fill" #[.pointer (some ⟨B, 0, none⟩)] w fun e w' => ∃ n : Int, e = .returned (.int .i64 n) ∧ Fr (B :: L) w w' ∧ Sto w' L sv c (q ++ P.flatten.take (c - (q.length : Int)).toNat) := by
  rcases h with ⟨hc, hq, hL, rfl⟩ | ⟨R, D, hR, hD, hLL, hc, rfl, hg⟩
  · refine ⟨_, _, _, _, rfl, md_fill, Go.Proofs.enters_of Try.func145 (by kernel_rfl) rfl, (dir_fill _).mono ?_⟩
    rintro e w' ⟨rfl, f⟩
    subst hc hq
    exact ⟨0, rfl, f.mono (by simp), .inl ⟨rfl, by simp, hL, rfl⟩⟩
  · have hC : c.toNat - q.length = (c - (q.length : Int)).toNat := by omega
    have hbR : B ≠ R := fun e => hBL (e ▸ hR)
    have hbD : B ≠ D := fun e => hBL (e ▸ hD)
    refine ⟨_, _, _, _, rfl, mb_fill _, Go.Proofs.enters_of Try.func151 (by kernel_rfl) rfl, (buf_fill hB (by rfl) (by rfl) hp hBN (.inl rfl) hg hbR hbD (hnl R hR) (hnl D hD)).mono ?_⟩
    rintro e w' ⟨a', cap', P', rfl, f, hb', hp', he', hg'⟩
    rw [hC] at hg'
    exact ⟨_, rfl, f.mono (fun x hx => .inl (by simp at hx ⊢; rcases hx with rfl | rfl | rfl; exact .inl rfl; exact .inr hR; exact .inr hD)), .inr ⟨R, D, hR, hD, hLL, hc, rfl, hg'⟩⟩
/-- What Restore leaves. -/
def RestPost (w : World) (m : SM) (e : Ending) (w' : World) : Prop :=
  ∃ b L N', e = .returned (.tuple #[.pointer (some ⟨b, 0, none⟩), .int .i64 0]) ∧ Fr [] w w' ∧ w.heap.size ≤ b ∧ (∀ x ∈ L, w.heap.size ≤ x) ∧ (∀ x, N' x → w.heap.size ≤ x) ∧ St w' N' L b m
theorem restore_post {w w7 w10 wf : World} {m : SM} {b Z rc2 : Nat} {L : List Nat} {sv : Value} {r2 : Option Addr} {Q2 : Parts} (hok : SOk m) (f7 : Fr [] w w7) (fg : Fr [] w7 w10) (f : Fr [b] w10 wf) (hB : StB wf b sv m.busy r2 Q2.length rc2 (tot Q2) m.acc m.w m.r) (hs : Sto w7 L sv m.c m.q)
    (hr : Rp w10 (fun x => Z ≤ x) (.agg #[.slice r2 Q2.length rc2, .int .i64 (tot Q2)]) Q2) (hfl : Q2.flatten = m.rest) (hb : w.heap.size ≤ b) (hbZ : b < Z) (hL : ∀ x ∈ L, w.heap.size ≤ x ∧ x < Z) (hbL : b ∉ L) (hZ : w.heap.size ≤ Z) :
    RestPost w m (.returned (.tuple #[.pointer (some ⟨b, 0, none⟩), .int .i64 0])) wf := by
  refine ⟨b, L, _, rfl, (f7.then0 fg).trans f (by simp) (fun x hx => .inr (by simp at hx; omega)), hb, fun x hx => (hL x hx).1, fun x hx => Nat.le_trans hZ hx, hok, sv, r2, rc2, Q2, hB, (hs.keep fg (by simp)).keep f (fun x hx hm => by simp at hm; subst hm; exact hbL hx), hr.keep f (fun x hx hn => by simp at hx; subst hx; omega), hfl, fun hn => by omega, fun x hx hn => by have := (hL x hx).2; omega, hbL⟩
set_option maxHeartbeats 8000000 in
theorem st_restore {w : World} {N : Nat → Prop} {v : Value} {m : SM} (h : Sv w N v m) (hv : validM m = true) :
    Calls Try.prog 45 #[v] w (RestPost w m) := by
  have hok := (validM_iff m).1 hv
  have hq := hok.q1
  have hc0 := hok.c0
  have hc1 := hok.c1
  have hsm := hok.sum
  have ha0 := hok.a0
  have hql : m.q.length ≤ 4096 := by omega
  have hrl : m.rest.length ≤ 65536 := by omega
  obtain ⟨u1, u2, rfl, hp1, hp2⟩ := h
  obtain ⟨a1, k1, rfl, _⟩ := id hp1
  obtain ⟨a2, k2, rfl, _⟩ := id hp2
  obtain ⟨w0, hw0, f0, q0⟩ : ∃ W, w.alloc (.cells #[.int .i64 m.c, .slice a1 m.q.length k1, .bool m.busy, .slice a2 m.rest.length k2, .int .i64 m.acc, .int .i64 m.w, .int .i64 m.r] 41) = W ∧ Fr [] w W ∧ S7 W w.heap.size m.c a1 m.q.length k1 m.busy a2 m.rest.length k2 m.acc m.w m.r := ⟨_, rfl, (Fr.refl _ _).alloc _, newA rfl⟩
  have x0 : w0.cell? ⟨w.heap.size, 0, none⟩ = some (.int .i64 m.c) := cell_of (q0)
  have x1 : w0.cell? ⟨w.heap.size, 1, none⟩ = some (.slice a1 m.q.length k1) := cell_of (q0)
  have x2 : w0.cell? ⟨w.heap.size, 2, none⟩ = some (.bool m.busy) := cell_of (q0)
  have x3 : w0.cell? ⟨w.heap.size, 3, none⟩ = some (.slice a2 m.rest.length k2) := cell_of (q0)
  have x4 : w0.cell? ⟨w.heap.size, 4, none⟩ = some (.int .i64 m.acc) := cell_of (q0)
  have x5 : w0.cell? ⟨w.heap.size, 5, none⟩ = some (.int .i64 m.w) := cell_of (q0)
  have x6 : w0.cell? ⟨w.heap.size, 6, none⟩ = some (.int .i64 m.r) := cell_of (q0)
  have hz0 := lt_of_heap q0
  have hval := st_valid (w := w0) (N := N) (v := .agg #[.int .i64 m.c, .slice a1 m.q.length k1, .bool m.busy, .slice a2 m.rest.length k2, .int .i64 m.acc, .int .i64 m.w, .int .i64 m.r]) (m := m) ⟨_, _, rfl, hp1.keep f0 (by simp), hp2.keep f0 (by simp)⟩ ⟨by omega, by omega⟩
  rw [hv] at hval
  have HVAL := Lib.hid hval
  have HQ0 := Lib.hid q0
  have HF0 := Lib.hid f0
  have HP := Lib.hid (And.intro hp1 hp2)
  have HOK := Lib.hid hok
  clear hval q0 f0 hp1 hp2 hok hv hq hsm ha0
  go_enter Try.func45, Try.ntmps45
  go_wp2_with fail
  refine HVAL.out.mono ?_
  rintro e w1 ⟨rfl, f1⟩
  have hz1 := f1.size
  have q1 : S7 w1 w.heap.size m.c a1 m.q.length k1 m.busy a2 m.rest.length k2 m.acc m.w m.r := f1.keep HQ0.out (by simp)
  have HQ1 := Lib.hid q1
  have HF1 := Lib.hid (HF0.out.then0 f1)
  clear x0 x1 x2 x3 x4 x5 x6 HVAL HQ0 hw0
  have x0 : w1.cell? ⟨w.heap.size, 0, none⟩ = some (.int .i64 m.c) := cell_of (q1)
  have x1 : w1.cell? ⟨w.heap.size, 1, none⟩ = some (.slice a1 m.q.length k1) := cell_of (q1)
  have x2 : w1.cell? ⟨w.heap.size, 2, none⟩ = some (.bool m.busy) := cell_of (q1)
  have x3 : w1.cell? ⟨w.heap.size, 3, none⟩ = some (.slice a2 m.rest.length k2) := cell_of (q1)
  have x4 : w1.cell? ⟨w.heap.size, 4, none⟩ = some (.int .i64 m.acc) := cell_of (q1)
  have x5 : w1.cell? ⟨w.heap.size, 5, none⟩ = some (.int .i64 m.w) := cell_of (q1)
  have x6 : w1.cell? ⟨w.heap.size, 6, none⟩ = some (.int .i64 m.r) := cell_of (q1)
  clear q1 f1
  go_wp2_with fail
  refine (st_new m.c w1 hc0 hc1).mono ?_
  rintro e w2 ⟨b, L, rfl, f2, hb, hbl, hL, hok2, sv, aa, cc, P0, h2⟩
  obtain ⟨st, su, rfl⟩ := h2.s.form
  have hs1 := HF1.out.size
  have hz2 := f2.size
  have HQ2 := Lib.hid (f2.keep HQ1.out (by simp))
  have HF2 := Lib.hid (HF1.out.then0 f2)
  have HS2 := Lib.hid h2.s
  have HK2 := Lib.hid h2.k
  have HBL := Lib.hid h2.bl
  have HL := Lib.hid hL
  clear x0 x1 x2 x3 x4 x5 x6 h2 hok2 f2 hL HQ1
  have x0 : w2.cell? ⟨w.heap.size, 0, none⟩ = some (.int .i64 m.c) := cell_of (HQ2.out)
  have x1 : w2.cell? ⟨w.heap.size, 1, none⟩ = some (.slice a1 m.q.length k1) := cell_of (HQ2.out)
  have x2 : w2.cell? ⟨w.heap.size, 2, none⟩ = some (.bool m.busy) := cell_of (HQ2.out)
  have x3 : w2.cell? ⟨w.heap.size, 3, none⟩ = some (.slice a2 m.rest.length k2) := cell_of (HQ2.out)
  have x4 : w2.cell? ⟨w.heap.size, 4, none⟩ = some (.int .i64 m.acc) := cell_of (HQ2.out)
  have x5 : w2.cell? ⟨w.heap.size, 5, none⟩ = some (.int .i64 m.w) := cell_of (HQ2.out)
  have x6 : w2.cell? ⟨w.heap.size, 6, none⟩ = some (.int .i64 m.r) := cell_of (HQ2.out)
  go_wp2_with fail
  refine (byte_clone (HP.out.1.keep HF2.out (by simp)) (by omega)).mono ?_
  rintro e w3 ⟨u, rfl, fc, ou⟩
  obtain ⟨ua, uc, rfl, huc, hucm, us, _⟩ := ou.formB
  have hpu := PartV.ofOw ou
  obtain ⟨w4, hwb, fb, qb⟩ : ∃ W, w3.alloc (.cells #[.slice ua m.q.length uc] 29) = W ∧ Fr [] w3 W ∧ W.heap[w3.heap.size]? = some (.cells #[.slice ua m.q.length uc] 29 (0, 0)) := ⟨_, rfl, (Fr.refl _ _).alloc _, newA rfl⟩
  have HNR := Lib.hid (rope_new (cap := 1) (len := 1) (parts_single qb (hpu.keep fb (by simp))) rfl (by unfold maxLen; omega))
  have gc := fc.then0 fb
  have HGC := Lib.hid gc
  clear hpu qb ou us fc fb gc
  go_wp2_with fail
  refine HNR.out.mono ?_
  rintro e w5 ⟨fr, he⟩
  rw [if_neg (by have := (own_single m.q).1; omega), if_neg (by simp [tot]; omega)] at he
  obtain ⟨v, rfl, hr⟩ := he
  have hfl := (own_single m.q).2
  obtain ⟨Q1, hQ1⟩ : ∃ Q, own [m.q] = Q := ⟨_, rfl⟩
  rw [hQ1] at hr hfl
  have HFL1 := Lib.hid hfl
  clear hfl hQ1 hwb HNR
  obtain ⟨r1, rc1, rfl, _⟩ := id hr
  obtain ⟨w6, hw6, f6, q6⟩ : ∃ W, w5.alloc (.cells #[.slice r1 Q1.length rc1, .int .i64 (tot Q1)] 57) = W ∧ Fr [] w5 W ∧ W.heap[w5.heap.size]? = some (.cells #[.slice r1 Q1.length rc1, .int .i64 (tot Q1)] 57 (0, 0)) := ⟨_, rfl, (Fr.refl _ _).alloc _, newA rfl⟩
  have g26 := (HGC.out.then0 fr).then0 f6
  have hz6 := (HGC.out.then0 fr).size
  have hz6b := lt_of_heap q6
  have hz4 := HGC.out.size
  have hS6 := HS2.out.keep g26 (by simp)
  have hrN := hr.keep f6 (by simp)
  have hbl2 := hbl
  obtain ⟨f, rv, hm, hen, hc⟩ := (sto_fill0 hS6 q6 (hr.there.keep f6 (by simp)) (fun hm => by have := (HL.out _ hm).2; omega) (fun hn => by have := hn.2; omega) (fun x hx hn => by have := (HL.out x hx).2; have := hn.1; omega)).at_
  simp [go_sem] at hm
  have HC := Lib.hid hc
  have HQ6 := Lib.hid (g26.keep HQ2.out (by simp))
  have HK6 := Lib.hid (show StB w6 b _ _ _ _ _ _ _ _ _ from g26.keep HK2.out (by simp))
  have HF6 := Lib.hid (HF2.out.then0 g26)
  clear hc hr hrN hS6 q6 f6 fr g26 HGC HQ2 HK2 x0 x1 x2 x3 x4 x5 x6
  have d0 : w6.cell? ⟨b, 0, none⟩ = some (.iface st su) := HK6.out.cells.c0
  go_wp2_with fail
  refine HC.out.mono ?_
  rintro e w7 ⟨n7, rfl, f7, hs7⟩
  have hB7 : ∀ x, x ∈ w5.heap.size :: L → w1.heap.size ≤ x ∧ x < w6.heap.size := fun x hx => by rcases List.mem_cons.1 hx with rfl | h; exact ⟨by omega, by omega⟩; have := HL.out x h; exact ⟨by omega, by omega⟩
  have hQ7 : S7 w7 w.heap.size m.c a1 m.q.length k1 m.busy a2 m.rest.length k2 m.acc m.w m.r := f7.keep HQ6.out (fun hm => by have := (hB7 _ hm).1; have := HF1.out.size; omega)
  have hK7 := f7.keep HK6.out (fun hm => by rcases List.mem_cons.1 hm with h | h; omega; exact HBL.out h)
  rw [HFL1.out] at hs7
  have hfull : m.q.take (m.c - (([] : List UInt8).length : Int)).toNat = m.q := List.take_of_length_le (by have := HOK.out.q1; simp; omega)
  have hs7' : Sto w7 L (.iface st su) m.c m.q := by have := (show Sto w7 L (.iface st su) m.c ([] ++ m.q.take (m.c - (([] : List UInt8).length : Int)).toNat) from hs7); rw [hfull] at this; simpa using this
  have HF7 := Lib.hid (HF6.out.trans f7 (U := []) (by simp) (fun x hx => .inr (by have := (hB7 x hx).1; have := HF1.out.size; omega)))
  have HS7 := Lib.hid hs7'
  have HQ7 := Lib.hid hQ7
  have HK7 := Lib.hid hK7
  have hz7 := f7.size
  clear hs7 hs7' hfull hQ7 hK7 f7 hB7 HC hm hen d0 HQ6 HK6 HS2 hw6
  have x0 : w7.cell? ⟨w.heap.size, 0, none⟩ = some (.int .i64 m.c) := cell_of (HQ7.out)
  have x1 : w7.cell? ⟨w.heap.size, 1, none⟩ = some (.slice a1 m.q.length k1) := cell_of (HQ7.out)
  have x2 : w7.cell? ⟨w.heap.size, 2, none⟩ = some (.bool m.busy) := cell_of (HQ7.out)
  have x3 : w7.cell? ⟨w.heap.size, 3, none⟩ = some (.slice a2 m.rest.length k2) := cell_of (HQ7.out)
  have x4 : w7.cell? ⟨w.heap.size, 4, none⟩ = some (.int .i64 m.acc) := cell_of (HQ7.out)
  have x5 : w7.cell? ⟨w.heap.size, 5, none⟩ = some (.int .i64 m.w) := cell_of (HQ7.out)
  have x6 : w7.cell? ⟨w.heap.size, 6, none⟩ = some (.int .i64 m.r) := cell_of (HQ7.out)
  go_wp2_with fail
  refine (byte_clone (HP.out.2.keep HF7.out (by simp)) (by omega)).mono ?_
  rintro e w8 ⟨u, rfl, fc, ou⟩
  obtain ⟨ua, uc, rfl, huc, hucm, us, _⟩ := ou.formB
  have hpu := PartV.ofOw ou
  obtain ⟨w9, hwb, fb, qb⟩ : ∃ W, w8.alloc (.cells #[.slice ua m.rest.length uc] 29) = W ∧ Fr [] w8 W ∧ W.heap[w8.heap.size]? = some (.cells #[.slice ua m.rest.length uc] 29 (0, 0)) := ⟨_, rfl, (Fr.refl _ _).alloc _, newA rfl⟩
  have HNR := Lib.hid (rope_new (cap := 1) (len := 1) (parts_single qb (hpu.keep fb (by simp))) rfl (by unfold maxLen; omega))
  have gc := fc.then0 fb
  have HGC := Lib.hid gc
  clear hpu qb ou us fc fb gc
  go_wp2_with fail
  refine HNR.out.mono ?_
  rintro e w10 ⟨fr, he⟩
  rw [if_neg (by have := (own_single m.rest).1; omega), if_neg (by simp [tot]; omega)] at he
  obtain ⟨v, rfl, hr⟩ := he
  have hfl := (own_single m.rest).2
  obtain ⟨Q2, hQ2⟩ : ∃ Q, own [m.rest] = Q := ⟨_, rfl⟩
  rw [hQ2] at hr hfl
  have HFL2 := Lib.hid hfl
  clear hfl hQ2 hwb HNR
  obtain ⟨r2, rc2, rfl, _⟩ := id hr
  have g710 := HGC.out.then0 fr
  have hz10 := HGC.out.size
  have HK10 := Lib.hid (g710.keep HK7.out (by simp))
  have HQ10 := Lib.hid (g710.keep HQ7.out (by simp))
  have HR := Lib.hid hr
  have HG := Lib.hid g710
  clear x0 x1 x2 x3 x4 x5 x6 g710 fr hr HGC
  have x0 : w10.cell? ⟨w.heap.size, 0, none⟩ = some (.int .i64 m.c) := cell_of (HQ10.out)
  have x1 : w10.cell? ⟨w.heap.size, 1, none⟩ = some (.slice a1 m.q.length k1) := cell_of (HQ10.out)
  have x2 : w10.cell? ⟨w.heap.size, 2, none⟩ = some (.bool m.busy) := cell_of (HQ10.out)
  have x3 : w10.cell? ⟨w.heap.size, 3, none⟩ = some (.slice a2 m.rest.length k2) := cell_of (HQ10.out)
  have x4 : w10.cell? ⟨w.heap.size, 4, none⟩ = some (.int .i64 m.acc) := cell_of (HQ10.out)
  have x5 : w10.cell? ⟨w.heap.size, 5, none⟩ = some (.int .i64 m.w) := cell_of (HQ10.out)
  have x6 : w10.cell? ⟨w.heap.size, 6, none⟩ = some (.int .i64 m.r) := cell_of (HQ10.out)
  have d0 : w10.cell? ⟨b, 0, none⟩ = some (.iface st su) := cell_of (HK10.out)
  have d1 : w10.cell? ⟨b, 1, none⟩ = some (.bool false) := cell_of (HK10.out)
  have d2 : w10.cell? ⟨b, 2, none⟩ = some (.slice aa P0.length cc) := cell_of (HK10.out)
  have d3 : w10.cell? ⟨b, 3, none⟩ = some (.int .i64 (tot P0)) := cell_of (HK10.out)
  have d4 : w10.cell? ⟨b, 4, none⟩ = some (.int .i64 0) := cell_of (HK10.out)
  have d5 : w10.cell? ⟨b, 5, none⟩ = some (.int .i64 0) := cell_of (HK10.out)
  have d6 : w10.cell? ⟨b, 6, none⟩ = some (.int .i64 0) := cell_of (HK10.out)
  have g1 : w10.frozen? ⟨b, 1, none⟩ = false := free_of (HK10.out)
  have g2 : w10.frozen? ⟨b, 2, none⟩ = false := free_of (HK10.out)
  have g3 : w10.frozen? ⟨b, 3, none⟩ = false := free_of (HK10.out)
  have g4 : w10.frozen? ⟨b, 4, none⟩ = false := free_of (HK10.out)
  have g5 : w10.frozen? ⟨b, 5, none⟩ = false := free_of (HK10.out)
  have g6 : w10.frozen? ⟨b, 6, none⟩ = false := free_of (HK10.out)
  have HKP := Lib.hid (show w10.heap[b]? = _ from HK10.out)
  obtain ⟨w11, hw11, fw11, kw11⟩ : ∃ W, ((w10.setCell ⟨b, 2, none⟩ (.slice r2 Q2.length rc2)).setCell ⟨b, 3, none⟩ (.int .i64 (tot Q2))) = W ∧ Fr [b] w10 W ∧ StB W b (.iface st su) (newM m.c).busy r2 Q2.length rc2 (tot Q2) (newM m.c).acc (newM m.c).w (newM m.c).r := ⟨_, rfl, ((Fr.refl _ _).setCell (.inl (by simp)) _).setCell (.inl (by simp)) _, by have := (heap_setCell_eq (i := 3) (u := .int .i64 (tot Q2)) (heap_setCell_eq (i := 2) (u := .slice r2 Q2.length rc2) HKP.out)); unfold StB; rw [this]; simp⟩
  clear HKP
  have HF11 := Lib.hid fw11
  have hbs : b ≠ w.heap.size := by omega
  go_wp2_with fail
  have hs1 := HF1.out.size
  have HQC := Lib.hid (show S7 w11.drew w.heap.size m.c a1 m.q.length k1 m.busy a2 m.rest.length k2 m.acc m.w m.r from (Fr.refl [] w11).drew.keep (fw11.keep HQ10.out (by intro hm; simp at hm; omega)) (by simp))
  clear x0 x1 x2 x3 x4 x5 x6 d0 d1 d2 d3 d4 d5 d6 g1 g2 g3 g4 g5 g6 hw11 fw11
  have HFA := Lib.hid fun (w' : World) (f : S7 w' w.heap.size m.c a1 m.q.length k1 m.busy a2 m.rest.length k2 m.acc m.w m.r) => (show w'.cell? ⟨w.heap.size, 0, none⟩ = some (.int .i64 m.c) ∧ w'.cell? ⟨w.heap.size, 1, none⟩ = some (.slice a1 m.q.length k1) ∧ w'.cell? ⟨w.heap.size, 2, none⟩ = some (.bool m.busy) ∧ w'.cell? ⟨w.heap.size, 3, none⟩ = some (.slice a2 m.rest.length k2) ∧ w'.cell? ⟨w.heap.size, 4, none⟩ = some (.int .i64 m.acc) ∧ w'.cell? ⟨w.heap.size, 5, none⟩ = some (.int .i64 m.w) ∧ w'.cell? ⟨w.heap.size, 6, none⟩ = some (.int .i64 m.r) from (let q := S7.cells f; ⟨q.1, q.2.1, q.2.2.1, q.2.2.2.1, q.2.2.2.2.1, q.2.2.2.2.2.1, q.2.2.2.2.2.2.1⟩))
  refine wp_region_order [(0, true), (1, true), (2, true), (3, true), (4, true), (5, true), (6, true), (7, true), (8, true), (9, true), (10, true), (11, true), (12, true), (13, true), (14, false), (15, true), (16, true), (17, false), (18, true), (19, true), (20, false)] (fun w' => S7 w' w.heap.size m.c a1 m.q.length k1 m.busy a2 m.rest.length k2 m.acc m.w m.r) (by kernel_rfl) (by kernel_rfl) HQC.out ?_
  intro OPS HOPS
  have hops := HOPS.out
  try simp only [List.append_eq, List.cons_append, List.nil_append] at hops
  replace HOPS := Lib.hid hops
  clear hops
  refine walkO_take (o := _) (v := ?_) (by rw [HOPS.out]; simp only [List.getElem?_toArray, List.getElem?_cons_succ, List.getElem?_cons_zero]; exact rfl) (Or.inl ⟨rfl, ?_⟩) ?_
  rotate_left
  · (intro w hSw; have hSx := HFA.out _ hSw; (try dsimp only at hSx); clear hSw; go_simp) <;> (with_reducible rfl)
  simp only [Act.put, List.setIfInBounds_toArray, List.set_cons_zero, List.set_cons_succ]
  refine walkO_take (o := _) (v := ?_) (by rw [HOPS.out]; simp only [List.getElem?_toArray, List.getElem?_cons_succ, List.getElem?_cons_zero]; exact rfl) (Or.inl ⟨rfl, ?_⟩) ?_
  rotate_left
  · (intro w hSw; have hSx := HFA.out _ hSw; (try dsimp only at hSx); clear hSw; go_simp) <;> (with_reducible rfl)
  simp only [Act.put, List.setIfInBounds_toArray, List.set_cons_zero, List.set_cons_succ]
  refine walkO_take (o := _) (v := ?_) (by rw [HOPS.out]; simp only [List.getElem?_toArray, List.getElem?_cons_succ, List.getElem?_cons_zero]; exact rfl) (Or.inl ⟨rfl, ?_⟩) ?_
  rotate_left
  · (intro w hSw; have hSx := HFA.out _ hSw; (try dsimp only at hSx); clear hSw; go_simp) <;> (with_reducible rfl)
  simp only [Act.put, List.setIfInBounds_toArray, List.set_cons_zero, List.set_cons_succ]
  refine walkO_take (o := _) (v := ?_) (by rw [HOPS.out]; simp only [List.getElem?_toArray, List.getElem?_cons_succ, List.getElem?_cons_zero]; exact rfl) (Or.inl ⟨rfl, ?_⟩) ?_
  rotate_left
  · (intro w hSw; have hSx := HFA.out _ hSw; (try dsimp only at hSx); clear hSw; go_simp) <;> (with_reducible rfl)
  simp only [Act.put, List.setIfInBounds_toArray, List.set_cons_zero, List.set_cons_succ]
  refine walkO_take (o := _) (v := ?_) (by rw [HOPS.out]; simp only [List.getElem?_toArray, List.getElem?_cons_succ, List.getElem?_cons_zero]; exact rfl) (Or.inl ⟨rfl, ?_⟩) ?_
  rotate_left
  · (intro w hSw; have hSx := HFA.out _ hSw; (try dsimp only at hSx); clear hSw; go_simp) <;> (with_reducible rfl)
  simp only [Act.put, List.setIfInBounds_toArray, List.set_cons_zero, List.set_cons_succ]
  refine walkO_take (o := _) (v := ?_) (by rw [HOPS.out]; simp only [List.getElem?_toArray, List.getElem?_cons_succ, List.getElem?_cons_zero]; exact rfl) (Or.inl ⟨rfl, ?_⟩) ?_
  rotate_left
  · (intro w hSw; have hSx := HFA.out _ hSw; (try dsimp only at hSx); clear hSw; go_simp) <;> (with_reducible rfl)
  simp only [Act.put, List.setIfInBounds_toArray, List.set_cons_zero, List.set_cons_succ]
  refine walkO_take (o := _) (v := ?_) (by rw [HOPS.out]; simp only [List.getElem?_toArray, List.getElem?_cons_succ, List.getElem?_cons_zero]; exact rfl) (Or.inl ⟨rfl, ?_⟩) ?_
  rotate_left
  · (intro w hSw; have hSx := HFA.out _ hSw; (try dsimp only at hSx); clear hSw; go_simp) <;> (with_reducible rfl)
  simp only [Act.put, List.setIfInBounds_toArray, List.set_cons_zero, List.set_cons_succ]
  refine walkO_take (o := _) (v := ?_) (by rw [HOPS.out]; simp only [List.getElem?_toArray, List.getElem?_cons_succ, List.getElem?_cons_zero]; exact rfl) (Or.inl ⟨rfl, ?_⟩) ?_
  rotate_left
  · (intro w hSw; have hSx := HFA.out _ hSw; (try dsimp only at hSx); clear hSw; go_simp) <;> (with_reducible rfl)
  simp only [Act.put, List.setIfInBounds_toArray, List.set_cons_zero, List.set_cons_succ]
  refine walkO_take (o := _) (v := ?_) (by rw [HOPS.out]; simp only [List.getElem?_toArray, List.getElem?_cons_succ, List.getElem?_cons_zero]; exact rfl) (Or.inl ⟨rfl, ?_⟩) ?_
  rotate_left
  · (intro w hSw; have hSx := HFA.out _ hSw; (try dsimp only at hSx); clear hSw; go_simp) <;> (with_reducible rfl)
  simp only [Act.put, List.setIfInBounds_toArray, List.set_cons_zero, List.set_cons_succ]
  refine walkO_take (o := _) (v := ?_) (by rw [HOPS.out]; simp only [List.getElem?_toArray, List.getElem?_cons_succ, List.getElem?_cons_zero]; exact rfl) (Or.inl ⟨rfl, ?_⟩) ?_
  rotate_left
  · (intro w hSw; have hSx := HFA.out _ hSw; (try dsimp only at hSx); clear hSw; go_simp) <;> (with_reducible rfl)
  simp only [Act.put, List.setIfInBounds_toArray, List.set_cons_zero, List.set_cons_succ]
  refine walkO_take (o := _) (v := ?_) (by rw [HOPS.out]; simp only [List.getElem?_toArray, List.getElem?_cons_succ, List.getElem?_cons_zero]; exact rfl) (Or.inl ⟨rfl, ?_⟩) ?_
  rotate_left
  · (intro w hSw; have hSx := HFA.out _ hSw; (try dsimp only at hSx); clear hSw; go_simp) <;> (with_reducible rfl)
  simp only [Act.put, List.setIfInBounds_toArray, List.set_cons_zero, List.set_cons_succ]
  refine walkO_take (o := _) (v := ?_) (by rw [HOPS.out]; simp only [List.getElem?_toArray, List.getElem?_cons_succ, List.getElem?_cons_zero]; exact rfl) (Or.inl ⟨rfl, ?_⟩) ?_
  rotate_left
  · (intro w hSw; have hSx := HFA.out _ hSw; (try dsimp only at hSx); clear hSw; go_simp) <;> (with_reducible rfl)
  simp only [Act.put, List.setIfInBounds_toArray, List.set_cons_zero, List.set_cons_succ]
  refine walkO_take (o := _) (v := ?_) (by rw [HOPS.out]; simp only [List.getElem?_toArray, List.getElem?_cons_succ, List.getElem?_cons_zero]; exact rfl) (Or.inl ⟨rfl, ?_⟩) ?_
  rotate_left
  · (intro w hSw; have hSx := HFA.out _ hSw; (try dsimp only at hSx); clear hSw; go_simp) <;> (with_reducible rfl)
  simp only [Act.put, List.setIfInBounds_toArray, List.set_cons_zero, List.set_cons_succ]
  refine walkO_take (o := _) (v := ?_) (by rw [HOPS.out]; simp only [List.getElem?_toArray, List.getElem?_cons_succ, List.getElem?_cons_zero]; exact rfl) (Or.inl ⟨rfl, ?_⟩) ?_
  rotate_left
  · (intro w hSw; have hSx := HFA.out _ hSw; (try dsimp only at hSx); clear hSw; go_simp) <;> (with_reducible rfl)
  simp only [Act.put, List.setIfInBounds_toArray, List.set_cons_zero, List.set_cons_succ]
  refine walkO_call (o := _) (by rw [HOPS.out]; simp only [List.getElem?_toArray, List.getElem?_cons_succ, List.getElem?_cons_zero]; exact rfl) (fun K HK => ?_)
  have HKP := Lib.hid (show w11.drew.heap[b]? = _ from kw11)
  obtain ⟨w12, hw12, fw12, kw12⟩ : ∃ W, (w11.drew.setCell ⟨b, 1, none⟩ (.bool m.busy)) = W ∧ Fr [b] w11.drew W ∧ StB W b (.iface st su) m.busy r2 Q2.length rc2 (tot Q2) (newM m.c).acc (newM m.c).w (newM m.c).r := ⟨_, rfl, (Fr.refl _ _).setCell (.inl (by simp)) _, by have := (heap_setCell_eq (i := 1) (u := .bool m.busy) HKP.out); unfold StB; rw [this]; simp⟩
  have g1 : w11.drew.frozen? ⟨b, 1, none⟩ = false := free_of HKP.out
  have g2 : w11.drew.frozen? ⟨b, 2, none⟩ = false := free_of HKP.out
  have g3 : w11.drew.frozen? ⟨b, 3, none⟩ = false := free_of HKP.out
  have g4 : w11.drew.frozen? ⟨b, 4, none⟩ = false := free_of HKP.out
  have g5 : w11.drew.frozen? ⟨b, 5, none⟩ = false := free_of HKP.out
  have g6 : w11.drew.frozen? ⟨b, 6, none⟩ = false := free_of HKP.out
  have d1 : w11.drew.cell? ⟨b, 1, none⟩ = _ := cell_of HKP.out
  have d2 : w11.drew.cell? ⟨b, 2, none⟩ = _ := cell_of HKP.out
  have d3 : w11.drew.cell? ⟨b, 3, none⟩ = _ := cell_of HKP.out
  have d4 : w11.drew.cell? ⟨b, 4, none⟩ = _ := cell_of HKP.out
  have d5 : w11.drew.cell? ⟨b, 5, none⟩ = _ := cell_of HKP.out
  have d6 : w11.drew.cell? ⟨b, 6, none⟩ = _ := cell_of HKP.out
  go_simp
  try rw [hw12]
  clear g1 g2 g3 g4 g5 g6 d1 d2 d3 d4 d5 d6
  refine HK.out (fun w' => S7 w' w.heap.size m.c a1 m.q.length k1 m.busy a2 m.rest.length k2 m.acc m.w m.r) _ _ (fun _ h => h) (fw12.keep HQC.out (by intro hm; simp at hm; omega)) ?_
  clear HK K
  try simp only [Act.put, List.setIfInBounds_toArray, List.set_cons_zero, List.set_cons_succ]
  have hqc := fw12.keep HQC.out (by intro hm; simp at hm; omega)
  clear HQC HKP
  have HQC := Lib.hid hqc
  clear hqc
  refine walkO_take (o := _) (v := ?_) (by rw [HOPS.out]; simp only [List.getElem?_toArray, List.getElem?_cons_succ, List.getElem?_cons_zero]; exact rfl) (Or.inl ⟨rfl, ?_⟩) ?_
  rotate_left
  · (intro w hSw; have hSx := HFA.out _ hSw; (try dsimp only at hSx); clear hSw; go_simp) <;> (with_reducible rfl)
  simp only [Act.put, List.setIfInBounds_toArray, List.set_cons_zero, List.set_cons_succ]
  refine walkO_take (o := _) (v := ?_) (by rw [HOPS.out]; simp only [List.getElem?_toArray, List.getElem?_cons_succ, List.getElem?_cons_zero]; exact rfl) (Or.inl ⟨rfl, ?_⟩) ?_
  rotate_left
  · (intro w hSw; have hSx := HFA.out _ hSw; (try dsimp only at hSx); clear hSw; go_simp) <;> (with_reducible rfl)
  simp only [Act.put, List.setIfInBounds_toArray, List.set_cons_zero, List.set_cons_succ]
  refine walkO_call (o := _) (by rw [HOPS.out]; simp only [List.getElem?_toArray, List.getElem?_cons_succ, List.getElem?_cons_zero]; exact rfl) (fun K HK => ?_)
  have HKP := Lib.hid (show w12.heap[b]? = _ from kw12)
  obtain ⟨w13, hw13, fw13, kw13⟩ : ∃ W, (w12.setCell ⟨b, 4, none⟩ (.int .i64 m.acc)) = W ∧ Fr [b] w12 W ∧ StB W b (.iface st su) m.busy r2 Q2.length rc2 (tot Q2) m.acc (newM m.c).w (newM m.c).r := ⟨_, rfl, (Fr.refl _ _).setCell (.inl (by simp)) _, by have := (heap_setCell_eq (i := 4) (u := .int .i64 m.acc) HKP.out); unfold StB; rw [this]; simp⟩
  have g1 : w12.frozen? ⟨b, 1, none⟩ = false := free_of HKP.out
  have g2 : w12.frozen? ⟨b, 2, none⟩ = false := free_of HKP.out
  have g3 : w12.frozen? ⟨b, 3, none⟩ = false := free_of HKP.out
  have g4 : w12.frozen? ⟨b, 4, none⟩ = false := free_of HKP.out
  have g5 : w12.frozen? ⟨b, 5, none⟩ = false := free_of HKP.out
  have g6 : w12.frozen? ⟨b, 6, none⟩ = false := free_of HKP.out
  have d1 : w12.cell? ⟨b, 1, none⟩ = _ := cell_of HKP.out
  have d2 : w12.cell? ⟨b, 2, none⟩ = _ := cell_of HKP.out
  have d3 : w12.cell? ⟨b, 3, none⟩ = _ := cell_of HKP.out
  have d4 : w12.cell? ⟨b, 4, none⟩ = _ := cell_of HKP.out
  have d5 : w12.cell? ⟨b, 5, none⟩ = _ := cell_of HKP.out
  have d6 : w12.cell? ⟨b, 6, none⟩ = _ := cell_of HKP.out
  go_simp
  try rw [hw13]
  clear g1 g2 g3 g4 g5 g6 d1 d2 d3 d4 d5 d6
  refine HK.out (fun w' => S7 w' w.heap.size m.c a1 m.q.length k1 m.busy a2 m.rest.length k2 m.acc m.w m.r) _ _ (fun _ h => h) (fw13.keep HQC.out (by intro hm; simp at hm; omega)) ?_
  clear HK K
  try simp only [Act.put, List.setIfInBounds_toArray, List.set_cons_zero, List.set_cons_succ]
  have hqc := fw13.keep HQC.out (by intro hm; simp at hm; omega)
  clear HQC HKP
  have HQC := Lib.hid hqc
  clear hqc
  refine walkO_take (o := _) (v := ?_) (by rw [HOPS.out]; simp only [List.getElem?_toArray, List.getElem?_cons_succ, List.getElem?_cons_zero]; exact rfl) (Or.inl ⟨rfl, ?_⟩) ?_
  rotate_left
  · (intro w hSw; have hSx := HFA.out _ hSw; (try dsimp only at hSx); clear hSw; go_simp) <;> (with_reducible rfl)
  simp only [Act.put, List.setIfInBounds_toArray, List.set_cons_zero, List.set_cons_succ]
  refine walkO_take (o := _) (v := ?_) (by rw [HOPS.out]; simp only [List.getElem?_toArray, List.getElem?_cons_succ, List.getElem?_cons_zero]; exact rfl) (Or.inl ⟨rfl, ?_⟩) ?_
  rotate_left
  · (intro w hSw; have hSx := HFA.out _ hSw; (try dsimp only at hSx); clear hSw; go_simp) <;> (with_reducible rfl)
  simp only [Act.put, List.setIfInBounds_toArray, List.set_cons_zero, List.set_cons_succ]
  refine walkO_call (o := _) (by rw [HOPS.out]; simp only [List.getElem?_toArray, List.getElem?_cons_succ, List.getElem?_cons_zero]; exact rfl) (fun K HK => ?_)
  have HKP := Lib.hid (show w13.heap[b]? = _ from kw13)
  obtain ⟨w14, hw14, fw14, kw14⟩ : ∃ W, ((w13.setCell ⟨b, 5, none⟩ (.int .i64 m.w)).setCell ⟨b, 6, none⟩ (.int .i64 m.r)) = W ∧ Fr [b] w13 W ∧ StB W b (.iface st su) m.busy r2 Q2.length rc2 (tot Q2) m.acc m.w m.r := ⟨_, rfl, ((Fr.refl _ _).setCell (.inl (by simp)) _).setCell (.inl (by simp)) _, by have := (heap_setCell_eq (i := 6) (u := .int .i64 m.r) (heap_setCell_eq (i := 5) (u := .int .i64 m.w) HKP.out)); unfold StB; rw [this]; simp⟩
  have g1 : w13.frozen? ⟨b, 1, none⟩ = false := free_of HKP.out
  have g2 : w13.frozen? ⟨b, 2, none⟩ = false := free_of HKP.out
  have g3 : w13.frozen? ⟨b, 3, none⟩ = false := free_of HKP.out
  have g4 : w13.frozen? ⟨b, 4, none⟩ = false := free_of HKP.out
  have g5 : w13.frozen? ⟨b, 5, none⟩ = false := free_of HKP.out
  have g6 : w13.frozen? ⟨b, 6, none⟩ = false := free_of HKP.out
  have d1 : w13.cell? ⟨b, 1, none⟩ = _ := cell_of HKP.out
  have d2 : w13.cell? ⟨b, 2, none⟩ = _ := cell_of HKP.out
  have d3 : w13.cell? ⟨b, 3, none⟩ = _ := cell_of HKP.out
  have d4 : w13.cell? ⟨b, 4, none⟩ = _ := cell_of HKP.out
  have d5 : w13.cell? ⟨b, 5, none⟩ = _ := cell_of HKP.out
  have d6 : w13.cell? ⟨b, 6, none⟩ = _ := cell_of HKP.out
  go_simp
  try rw [hw14]
  clear g1 g2 g3 g4 g5 g6 d1 d2 d3 d4 d5 d6
  refine HK.out (fun w' => S7 w' w.heap.size m.c a1 m.q.length k1 m.busy a2 m.rest.length k2 m.acc m.w m.r) _ _ (fun _ h => h) (fw14.keep HQC.out (by intro hm; simp at hm; omega)) ?_
  clear HK K
  try simp only [Act.put, List.setIfInBounds_toArray, List.set_cons_zero, List.set_cons_succ]
  have hqc := fw14.keep HQC.out (by intro hm; simp at hm; omega)
  clear HQC HKP
  have HQC := Lib.hid hqc
  clear hqc
  refine walkO_done ?_
  clear HOPS OPS
  go_wp2_with fail
  go_ret2
  exact restore_post HOK.out HF7.out HG.out (HF11.out.then (((Fr.refl [b] w11).drew.then fw12).then (fw13.then fw14))) kw14 HS7.out HR.out HFL2.out (by omega) (by omega) (fun x hx => ⟨by have := (HL.out x hx).1; omega, by have := (HL.out x hx).2; omega⟩) HBL.out (by omega)
theorem st_restore_bad {w : World} {N : Nat → Prop} {v : Value} {m : SM} (h : Sv w N v m) (hv : validM m = false) (hb : m.q.length ≤ 1000000 ∧ m.rest.length ≤ 1000000) :
    Calls Try.prog 45 #[v] w fun e w' => e = .returned (.tuple #[.pointer none, .int .i64 2]) ∧ Fr [] w w' := by
  obtain ⟨u1, u2, rfl, hp1, hp2⟩ := h
  obtain ⟨a1, k1, rfl, _⟩ := id hp1
  obtain ⟨a2, k2, rfl, _⟩ := id hp2
  obtain ⟨w0, hw0, f0, q0⟩ : ∃ W, w.alloc (.cells #[.int .i64 m.c, .slice a1 m.q.length k1, .bool m.busy, .slice a2 m.rest.length k2, .int .i64 m.acc, .int .i64 m.w, .int .i64 m.r] 41) = W ∧ Fr [] w W ∧ S7 W w.heap.size m.c a1 m.q.length k1 m.busy a2 m.rest.length k2 m.acc m.w m.r := ⟨_, rfl, (Fr.refl _ _).alloc _, newA rfl⟩
  have x0 : w0.cell? ⟨w.heap.size, 0, none⟩ = some (.int .i64 m.c) := cell_of (q0)
  have x1 : w0.cell? ⟨w.heap.size, 1, none⟩ = some (.slice a1 m.q.length k1) := cell_of (q0)
  have x2 : w0.cell? ⟨w.heap.size, 2, none⟩ = some (.bool m.busy) := cell_of (q0)
  have x3 : w0.cell? ⟨w.heap.size, 3, none⟩ = some (.slice a2 m.rest.length k2) := cell_of (q0)
  have x4 : w0.cell? ⟨w.heap.size, 4, none⟩ = some (.int .i64 m.acc) := cell_of (q0)
  have x5 : w0.cell? ⟨w.heap.size, 5, none⟩ = some (.int .i64 m.w) := cell_of (q0)
  have x6 : w0.cell? ⟨w.heap.size, 6, none⟩ = some (.int .i64 m.r) := cell_of (q0)
  have hval := st_valid (w := w0) (N := N) (v := .agg #[.int .i64 m.c, .slice a1 m.q.length k1, .bool m.busy, .slice a2 m.rest.length k2, .int .i64 m.acc, .int .i64 m.w, .int .i64 m.r]) (m := m) ⟨_, _, rfl, hp1.keep f0 (by simp), hp2.keep f0 (by simp)⟩ hb
  rw [hv] at hval
  have HVAL := Lib.hid hval
  have HF0 := Lib.hid f0
  clear hval q0 f0 hp1 hp2 hv hb
  go_enter Try.func45, Try.ntmps45
  go_wp2_with fail
  refine HVAL.out.mono ?_
  rintro e w1 ⟨rfl, f1⟩
  have HF1 := Lib.hid (HF0.out.then0 f1)
  clear f1
  go_wp2_with fail
  go_ret2
  exact ⟨rfl, HF1.out⟩
end Go.Proofs.Ytdoamelhclnphaa
