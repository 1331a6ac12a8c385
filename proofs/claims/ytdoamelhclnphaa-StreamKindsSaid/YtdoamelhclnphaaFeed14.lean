/-
  Law 14, StreamKinds: feed writes as much of a rest as there is room for.
-/
import Derived.Test.YtdoamelhclnphaaStKindM
import Derived.Deep.DeepCutAuto
import Derived.Deep.CutBlock
namespace Go.Proofs.Ytdoamelhclnphaa
open Go.RowKit
set_option maxRecDepth 100000

theorem st_ne14 (l : List UInt8) : (st l != st l) = false := by
  have h : (st l == st l) = true := by
    show (l.toArray == l.toArray) = true
    simp
  unfold bne
  rw [h]
  rfl
set_option maxHeartbeats 4000000 in
theorem feed14 {w : World} {bf R D bx c : Nat} {s l : List UInt8} {N : Nat → Prop} (hf : Fl w bf R D ⟨c, s, 0, 0⟩) (hx : Bx w N bx l) (hR : ¬ N R) (hD : ¬ N D) (hb : ¬ N bx) (hne0 : bx ∉ [bf, R, D]) (hN : ∀ x, w.heap.size ≤ x → N x) :
    Calls Try.prog 59 #[.pointer (some ⟨bf, 0, none⟩), .pointer (some ⟨bx, 0, none⟩)] w fun e w' => e = .returned (.bool true) ∧ Fr [R, D, bx] w w' ∧ Fl w' bf R D ⟨c, s ++ l.take (c - s.length), 0, 0⟩ ∧ Bx w' N bx (l.drop (c - s.length)) := by
  obtain ⟨a, cap, P, hq, hr, rfl⟩ := hx
  have x0 : w.cell? ⟨bx, 0, none⟩ = some (.slice a P.length cap) := cell_of hq
  have x1 : w.cell? ⟨bx, 1, none⟩ = some (.int .i64 (tot P)) := cell_of hq
  have HL := Lib.hid (rope_len hr)
  have HQ := Lib.hid (And.intro hf (And.intro hq hr))
  have hne : bx ∉ [R, D] := fun h => hne0 (List.mem_cons_of_mem _ h)
  have HNN := Lib.hid (And.intro hR (And.intro hD (And.intro hb hne)))
  have HNE := Lib.hid hne0
  clear hne0
  by_cases h0 : P.flatten = []
  · have ht : tot P = 0 := (tot_flat P).1 h0
    have htz : ((tot P : Int) == 0) = true := by rw [ht]; rfl
    have HZ := Lib.hid h0
    clear hf hq hr h0 ht hR hD hb hne hN
    go_enter Try.func59, Try.ntmps59
    go_wp2_with fail
    refine HL.out.mono ?_
    rintro e w1 ⟨rfl, f1⟩
    go_wp2_with fail
    go_ret
    refine ⟨rfl, f1.mono (by simp), ?_, a, cap, P, f1.keep HQ.out.2.1 (by simp), HQ.out.2.2.keep f1 (by simp), by rw [HZ.out]; simp⟩
    rw [HZ.out, List.take_nil, List.append_nil]
    exact HQ.out.1.keep0 f1
  have hpos : 0 < tot P := Nat.pos_of_ne_zero (fun h => h0 ((tot_flat P).2 h))
  have htz : ((tot P : Int) == 0) = false := by rw [beq_eq_false_iff_ne]; omega
  by_cases hfull : s.length = c
  · have hw : fWrite ⟨c, s, 0, 0⟩ P.flatten = ⟨⟨c, s, 0, 0⟩, 0, 16⟩ := by unfold fWrite; rw [if_neg (by simp), if_neg (by simp), if_neg h0, if_pos hfull]
    have HWR := Lib.hid fun w1 (f : Fr [] w w1) => (by have h := flow_write (HQ.out.1.keep0 f) (HQ.out.2.2.keep f (by simp)) HNN.out.1 HNN.out.2.1; rw [hw] at h; exact h : Calls Try.prog 98 #[.pointer (some ⟨bf, 0, none⟩), .agg #[.slice a P.length cap, .int .i64 (tot P)]] w1 (FNPost bf R D ⟨⟨c, s, 0, 0⟩, 0, 16⟩ w1))
    have HFU := Lib.hid hfull
    clear hf hq hr h0 hR hD hb hne hN hfull hw hpos
    go_enter Try.func59, Try.ntmps59
    go_wp2_with fail
    refine HL.out.mono ?_
    rintro e w1 ⟨rfl, f1⟩
    have y0 : w1.cell? ⟨bx, 0, none⟩ = some (.slice a P.length cap) := cell_of (f1.keep HQ.out.2.1 (by simp))
    have y1 : w1.cell? ⟨bx, 1, none⟩ = some (.int .i64 (tot P)) := cell_of (f1.keep HQ.out.2.1 (by simp))
    clear x0 x1
    go_wp2_with fail
    refine (HWR.out _ f1).mono ?_
    rintro e w2 ⟨rfl, f2, l2⟩
    dsimp only at l2
    go_wp2_with fail
    go_ret
    have hlb : ∀ x ∈ [R, D], ¬ N x := fun x hx => by simp at hx; rcases hx with rfl | rfl; exact HNN.out.1; exact HNN.out.2.1
    refine ⟨rfl, f1.trans f2 (by simp) (fun x hx => .inl (by simp at hx ⊢; rcases hx with hx | hx <;> simp [hx])), ?_, a, cap, P, f2.keep (f1.keep HQ.out.2.1 (by simp)) HNN.out.2.2.2, (HQ.out.2.2.keep f1 (by simp)).keep f2 hlb, by rw [HFU.out]; simp⟩
    rw [HFU.out, Nat.sub_self, List.take_zero, List.append_nil]
    exact l2
  obtain ⟨n, hn⟩ : ∃ n, min P.flatten.length (c - s.length) = n := ⟨_, rfl⟩
  have hw : fWrite ⟨c, s, 0, 0⟩ P.flatten = ⟨⟨c, s ++ P.flatten.take (c - s.length), 0, 0⟩, n, 0⟩ := by unfold fWrite; rw [if_neg (by simp), if_neg (by simp), if_neg h0, if_neg hfull, hn]
  have hd : P.flatten.drop n = P.flatten.drop (c - s.length) := by
    rw [← hn]
    rcases Nat.le_total P.flatten.length (c - s.length) with h | h
    · rw [Nat.min_eq_left h, List.drop_length, List.drop_eq_nil_of_le h]
    · rw [Nat.min_eq_right h]
  have HWR := Lib.hid fun w1 (f : Fr [] w w1) => (by have h := flow_write (HQ.out.1.keep0 f) (HQ.out.2.2.keep f (by simp)) HNN.out.1 HNN.out.2.1; rw [hw] at h; exact h : Calls Try.prog 98 #[.pointer (some ⟨bf, 0, none⟩), .agg #[.slice a P.length cap, .int .i64 (tot P)]] w1 (FNPost bf R D ⟨⟨c, s ++ P.flatten.take (c - s.length), 0, 0⟩, n, 0⟩ w1))
  have HTK := Lib.hid fun (w2 : World) (r2 : Rp w2 N (.agg #[.slice a P.length cap, .int .i64 (tot P)]) P) => (by have h := rope_take r2 (most := (n : Int)) (by omega); rw [Int.toNat_natCast] at h; exact h : Calls Try.prog 99 #[.agg #[.slice a P.length cap, .int .i64 (tot P)], .int .i64 (n : Int)] w2 (TakePost N P n w2))
  have HRF := Lib.hid ((cutR_flat P n).trans hd)
  have HNW := Lib.hid hN
  clear hf hq hr h0 hR hD hb hne hN hfull hw hpos hd hn
  go_enter Try.func59, Try.ntmps59
  go_wp2_with fail
  refine HL.out.mono ?_
  rintro e w1 ⟨rfl, f1⟩
  have y0 : w1.cell? ⟨bx, 0, none⟩ = some (.slice a P.length cap) := cell_of (f1.keep HQ.out.2.1 (by simp))
  have y1 : w1.cell? ⟨bx, 1, none⟩ = some (.int .i64 (tot P)) := cell_of (f1.keep HQ.out.2.1 (by simp))
  clear x0 x1
  go_wp2_with fail
  refine (HWR.out _ f1).mono ?_
  rintro e w2 ⟨rfl, f2, l2⟩
  dsimp only at l2
  have hlb : ∀ x ∈ [R, D], ¬ N x := fun x hx => by simp at hx; rcases hx with rfl | rfl; exact HNN.out.1; exact HNN.out.2.1
  have q2 := f2.keep (f1.keep HQ.out.2.1 (by simp)) HNN.out.2.2.2
  have r2 := (HQ.out.2.2.keep f1 (by simp)).keep f2 hlb
  have g2 : Fr [R, D, bx] w w2 := f1.trans f2 (by simp) (fun x hx => .inl (by simp at hx ⊢; rcases hx with hx | hx <;> simp [hx]))
  have z0 : w2.cell? ⟨bx, 0, none⟩ = some (.slice a P.length cap) := cell_of q2
  have z1 : w2.cell? ⟨bx, 1, none⟩ = some (.int .i64 (tot P)) := cell_of q2
  have HT2 := Lib.hid (HTK.out w2 r2)
  have HL2 := Lib.hid l2
  have HG2 := Lib.hid g2
  have HQ2 := Lib.hid q2
  clear y0 y1 f1 f2 l2 hlb q2 r2 g2 HWR HTK HL
  go_wp2_with fail
  refine HT2.out.mono ?_
  rintro e w3 ⟨v1, v2, rfl, f3, s1, s2⟩
  have hrf := HRF.out
  generalize cutR P n = R2 at *
  generalize cutF P n = F2 at *
  obtain ⟨a1, k1, rfl, _⟩ := id s1
  obtain ⟨a2, k2, rfl, _⟩ := id s2
  have HS2 := Lib.hid s2
  have HF3 := Lib.hid f3
  have HRF2 := Lib.hid hrf
  have q3 := f3.keep HQ2.out (by simp)
  have c0 : w3.cell? ⟨bx, 0, none⟩ = some (.slice a P.length cap) := cell_of q3
  have c1 : w3.cell? ⟨bx, 1, none⟩ = some (.int .i64 (tot P)) := cell_of q3
  have t0 := free_of (i := 0) q3
  have t1 := free_of (i := 1) q3
  have hb3 := lt_of_heap q3
  have HQ3 := Lib.hid q3
  clear s1 s2 f3 hrf z0 z1 HT2 HQ2 HRF q3
  go_wp2_with fail
  go_ret
  have f4 := ((((Fr.refl [bx] w3).setCell (p := ⟨bx, 0, none⟩) (.inl (by simp)) (.slice a2 R2.length k2)).setCell (p := ⟨bx, 1, none⟩) (.inl (by simp)) (.int .i64 (tot R2))).alloc (.cells #[.slice a1 F2.length k1, .int .i64 (tot F2)] 57)).alloc (.cells #[.slice a2 R2.length k2, .int .i64 (tot R2)] 57)
  have hz := HG2.out.size
  refine ⟨rfl, ?_, ?_, a2, k2, R2, keepA (keepA (two_set HQ3.out)), ?_, HRF2.out⟩
  · exact (HG2.out.then0 HF3.out).trans f4 (fun x hx => .inl hx) (fun x hx => .inl (by simp at hx; simp [hx]))
  · refine (HL2.out.keep0 HF3.out).keep f4 (fun h => ?_) (fun h => ?_) (fun h => ?_) <;> exact HNE.out (by simp at h; simp [h])
  · exact (HS2.out.mono (fun x hx => hx.elim id (fun h => HNW.out x (by omega)))).keep f4 (fun x hx => by simp at hx; subst hx; exact HNN.out.2.2.1)
end Go.Proofs.Ytdoamelhclnphaa
