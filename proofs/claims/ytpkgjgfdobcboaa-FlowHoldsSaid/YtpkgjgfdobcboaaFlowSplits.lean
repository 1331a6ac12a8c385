/-
  FlowSplits: it does not matter how the bytes that are written are divided into parts.
-/
import Derived.Test.YtpkgjgfdobcboaaActs13
import Derived.Test.YtpkgjgfdobcboaaRef12
import Derived.Test.YtpkgjgfdobcboaaMeetSplits
namespace Go.Proofs.Ytpkgjgfdobcboaa
open Go.RowKit
set_option maxRecDepth 100000

theorem write_new (c : Nat) (S : List UInt8) (hc : 1 ≤ c) : fWrite ⟨c, [], 0, 0⟩ S = ⟨⟨c, S.take c, 0, 0⟩, min S.length c, 0⟩ := by
  unfold fWrite
  rw [if_neg (by simp), if_neg (by simp)]
  by_cases h : S = []
  · rw [if_pos h, h]; simp
  · rw [if_neg h, if_neg (by simp; omega)]
    simp

set_option maxHeartbeats 4000000 in
theorem flowSplits_main {c : Nat} {pa : Option Addr} {pl pc : Nat} {ps : Parts} (w : World) (hc1 : 1 ≤ c) (hc2 : c ≤ 4096) (hp : StrsAt w w.heap.size pa pl pc ps) (h30 : ps.length ≤ 30) (h400 : ∀ p ∈ ps, p.length ≤ 400) :
    Calls Try.prog 18 #[.int .i64 c, .slice pa pl pc] w fun e w' => e = .returned (.bool true) ∧ Fr [] w w' := by
  have htot : tot ps ≤ 12000 := by have := tot_le_mul ps h400; omega
  have hsm : smallB [⟨0, 0, 0, ps⟩] = true := by
    unfold smallB okA
    simp
    exact ⟨h30, h400⟩
  have HSM := Lib.hid (small13 (acts_one hp (Nat.le_refl _) 121))
  rw [hsm] at HSM
  have HMX := Lib.hid (show ∀ p ∈ ps, p.length ≤ 1000000 from fun p hp => by have := h400 p hp; omega)
  have i1 : (1 : Int) ≤ c := by omega
  have i2 : (c : Int) ≤ 4096 := by omega
  have H30 := Lib.hid h30
  clear hsm h400 h30
  go_enter Try.func18, Try.ntmps18
  go_wp2_with fail
  refine HSM.out.mono ?_
  rintro e w' ⟨rfl, rfl⟩
  have f1 : Fr [] w (w.alloc (.cells #[.int .i64 0, .int .i64 0, .slice pa pl pc, .int .i64 0] 121)) := (Fr.refl _ _).alloc _
  have p1 := hp.keep f1 (by simp)
  generalize (w.alloc (.cells #[.int .i64 0, .int .i64 0, .slice pa pl pc, .int .i64 0] 121)) = w1 at *
  clear HSM hp
  go_wp2_with fail
  refine (flow_new c w1 hc1 hc2).mono ?_
  rintro e w2 ⟨b1, R1, D1, rfl, f2, hb1, hR1, hD1, h2⟩
  have p2 := p1.keep f2 (by simp)
  have g2 := f1.then0 f2
  have z1 := f1.size
  clear p1 f1 f2
  go_wp2_with fail
  refine (flow_new c w2 hc1 hc2).mono ?_
  rintro e w3 ⟨b2, R2, D2, rfl, f3, hb2, hR2, hD2, k3⟩
  have h3 := h2.keep0 f3
  have p3 := p2.keep f3 (by simp)
  have g3 := g2.then0 f3
  have z3 := f3.size
  have hbd := h2.bd
  have hbd2 := k3.bd
  obtain ⟨u1, u2, u3⟩ : b1 < w2.heap.size ∧ R1 < w2.heap.size ∧ D1 < w2.heap.size := ⟨by omega, by omega, by omega⟩
  obtain ⟨v1, v2, v3⟩ : w.heap.size ≤ b1 ∧ w.heap.size ≤ R1 ∧ w.heap.size ≤ D1 := ⟨by omega, by omega, by omega⟩
  obtain ⟨v4, v5, v6⟩ : w.heap.size ≤ b2 ∧ w.heap.size ≤ R2 ∧ w.heap.size ≤ D2 := ⟨by omega, by omega, by omega⟩
  obtain ⟨s1, s2, s3⟩ : b2 < w3.heap.size ∧ R2 < w3.heap.size ∧ D2 < w3.heap.size := ⟨by omega, by omega, by omega⟩
  have HD := Lib.hid (show (b1 < b2 ∧ b1 < R2 ∧ b1 < D2) ∧ (R1 < b2 ∧ R1 < R2 ∧ R1 < D2) ∧ (D1 < b2 ∧ D1 < R2 ∧ D1 < D2) from by omega)
  clear h2 p2 g2 f3 hbd hbd2 z1 hb1 hR1 hD1 hb2 hR2 hD2
  go_wp2_with fail
  refine (text13 p3 (by omega) (by have := H30.out; omega)).mono ?_
  rintro e w4 ⟨rfl, f4⟩
  have h4 := h3.keep0 f4
  have k4 := k3.keep0 f4
  have p4 := p3.keep f4 (by simp)
  have g4 := g3.then0 f4
  have z4 := f4.size
  clear h3 k3 p3 g3 f4
  have hsl : ps.flatten.length ≤ 12000 := htot
  obtain ⟨S, hS⟩ : ∃ S, ps.flatten = S := ⟨_, rfl⟩
  rw [hS] at hsl
  rw [hS]
  have HS := Lib.hid hS
  clear hS
  go_wp2_with fail
  refine (of13 p4.sl p4.len_eq (by have := p4.len_eq; have := H30.out; omega) HMX.out (Nat.le_trans (List.length_filter_le _ _) (by have := H30.out; omega)) (by omega)).mono ?_
  rintro e w5 ⟨rv, rfl, f5, hr5⟩
  have h5 := h4.keep0 f5
  have k5 := k4.keep0 f5
  have g5 := g4.then0 f5
  have z5 := f5.size
  have HO := Lib.hid (flow_write h5 hr5 (by omega) (by omega))
  unfold FNPost at HO
  rw [own_flat, HS.out, write_new c S hc1] at HO
  clear h4 k4 p4 g4 f5 hr5
  go_wp2_with fail
  refine HO.out.mono ?_
  rintro e w6 ⟨rfl, f6, h6⟩
  replace h6 : Fl w6 b1 R1 D1 ⟨c, S.take c, 0, 0⟩ := h6
  have k6 := k5.keep f6 (by simp; have := HD.out; omega) (by simp; have := HD.out; omega) (by simp; have := HD.out; omega)
  have g6 : Fr [] w w6 := g5.trans f6 (by simp) (by simp; omega)
  have z6 := f6.size
  clear h5 k5 g5 f6 HO
  go_wp2_with fail
  refine (of13 (ss := [S]) (by exact SlV.lit _ _ _) rfl (by simp) (by simp; omega) (Nat.le_trans (List.length_filter_le _ _) (by simp)) (by simp [tot]; omega)).mono ?_
  rintro e w7 ⟨rv2, rfl, f7, hr7⟩
  have f7' : Fr [] w6 w7 := ((Fr.refl [] w6).alloc _).then0 f7
  have h7 := h6.keep0 f7'
  have k7 := k6.keep0 f7'
  have g7 := g6.then0 f7'
  have hr7' := hr7.mono (N' := fun y => w6.heap.size ≤ y) (fun y hy => by simp at hy; omega)
  have HO := Lib.hid (flow_write k7 hr7' (by omega) (by omega))
  unfold FNPost at HO
  have e7 : (own [S]).flatten = S := by rw [own_flat]; simp
  rw [e7, write_new c S hc1] at HO
  clear h6 k6 g6 f7 f7' hr7 hr7' e7
  go_wp2_with fail
  refine HO.out.mono ?_
  rintro e w8 ⟨rfl, f8, k8⟩
  replace k8 : Fl w8 b2 R2 D2 ⟨c, S.take c, 0, 0⟩ := k8
  have h8 := h7.keep f8 (by simp; have := HD.out; omega) (by simp; have := HD.out; omega) (by simp; have := HD.out; omega)
  have g8 : Fr [] w w8 := g7.trans f8 (by simp) (by simp; omega)
  clear h7 k7 g7 f8 HO z4 z5 z6 u1 u2 u3 s1 s2 s3
  obtain ⟨K, hK⟩ : ∃ K, min S.length c = K := ⟨_, rfl⟩
  have hT : S.take c = S.take K := by
    rw [← hK]
    by_cases h : S.length ≤ c
    · rw [Nat.min_eq_left h, List.take_of_length_le h, List.take_of_length_le (Nat.le_refl _)]
    · rw [Nat.min_eq_right (by omega)]
  have hTl : (S.take K).length = K := by rw [List.length_take]; omega
  rw [hT] at h8 k8
  rw [hK]
  have hl8 := flow_len h8
  dsimp only at hl8
  rw [hTl] at hl8
  have HL := Lib.hid hl8
  have hrd : fRead ⟨c, S.take K, 0, 0⟩ 5000 = ⟨⟨c, (S.take K).drop 5000, 0, 0⟩, S.take K, if S.take K = [] then 16 else 0⟩ := by
    unfold fRead
    rw [if_neg (by omega), if_neg (by omega), if_neg (by simp)]
    by_cases h : S.take K = []
    · rw [if_neg (fun hh => hh h), if_neg (by simp), if_pos h, h]; simp
    · rw [if_pos h, if_neg h]
      congr 1
      exact List.take_of_length_le (by rw [hTl]; simp; omega)
  have hrun := run_to S K (by omega)
  have HR := Lib.hid (And.intro hrd (And.intro hTl (And.intro hT hK)))
  clear hrd hTl hT hl8
  have hcase : ((S.length : Int) < c ∧ K = S.length) ∨ ((c : Int) ≤ S.length ∧ K = c) := by
    by_cases h : S.length < c
    · exact .inl ⟨by omega, by omega⟩
    · exact .inr ⟨by omega, by omega⟩
  clear hK
  by_cases h0 : S = []
  · subst h0
    have hK0 : K = 0 := by
      rcases hcase with ⟨_, h⟩ | ⟨h, _⟩
      · simpa using h
      · simp at h; omega
    subst hK0
    clear hcase HR hrun
    have hcp : (0 : Int) < c := by omega
    go_wp2_with fail
    refine HL.out.mono ?_
    rintro e w' ⟨rfl, rfl⟩
    go_wp2_with fail
    refine (known13 _).mono ?_
    rintro e w99 ⟨rfl, f99⟩
    go_wp2_with fail
    go_ret
    exact ⟨rfl, g8.then0 f99⟩
  · have hE : S.isEmpty = false := by simpa using h0
    have hE2 : (S == []) = false := by simpa using h0
    have hpos : 0 < S.length := List.length_pos_iff.2 h0
    have hne : S.take K ≠ [] := by
      intro e
      have := congrArg List.length e
      rw [HR.out.2.1] at this
      simp at this
      rcases hcase with ⟨_, h⟩ | ⟨_, h⟩ <;> omega
    have r1 := Lib.hid (reads13 h8 5000 (S.take K) 0 (by rw [HR.out.1]) (by rw [HR.out.1, if_neg hne]))
    have r2 := Lib.hid fun (w' : World) (k' : Fl w' b2 R2 D2 ⟨c, S.take K, 0, 0⟩) => reads13 k' 5000 (S.take K) 0 (by rw [HR.out.1]) (by rw [HR.out.1, if_neg hne])
    clear h0 HR hne
    have hcase2 : ((S.length : Int) < c ∧ ((K : Int) != S.length) = false) ∨ ((c : Int) ≤ S.length ∧ ((K : Int) != c) = false) := by
      rcases hcase with ⟨q1, h⟩ | ⟨q1, h⟩
      · exact .inl ⟨q1, by rw [h]; simp⟩
      · exact .inr ⟨q1, by rw [h]; simp⟩
    clear hcase
    rcases hcase2 with ⟨q1, q2⟩ | ⟨q1, q2⟩
    all_goals
      go_wp2_with fail
      refine HL.out.mono ?_
      rintro e w' ⟨rfl, rfl⟩
      go_wp2_with fail
      refine r1.out.mono ?_
      rintro e w9 ⟨rfl, f9, h9⟩
      have k9 := k8.keep f9 (by simp; have := HD.out; omega) (by simp; have := HD.out; omega) (by simp; have := HD.out; omega)
      have g9 : Fr [] w w9 := g8.trans f9 (by simp) (by simp; omega)
      clear h9 k8 g8 f9 r1
      go_wp2_with fail
      refine (r2.out _ k9).mono ?_
      rintro e w10 ⟨rfl, f10, k10⟩
      have g10 : Fr [] w w10 := g9.trans f10 (by simp) (by simp; omega)
      clear k9 k10 g9 f10 r2
      go_wp2_with fail
      refine (known13 _).mono ?_
      rintro e w99 ⟨rfl, f99⟩
      go_wp2_with fail
      go_ret
      exact ⟨rfl, g10.then0 f99⟩
theorem flowSplits_walk {pa : Option Addr} {pl pc : Nat} (c : Int) (w : World) (h : ∃ ps, StrsAt w w.heap.size pa pl pc ps) :
    Calls Try.prog 18 #[.int .i64 c, .slice pa pl pc] w fun e w' => e = .returned (.bool true) ∧ Fr [] w w' := by
  obtain ⟨ps, hp⟩ := h
  by_cases h1 : c < 1
  · clear hp
    go_enter Try.func18, Try.ntmps18
    go_wp2_with fail
    refine (known13 _).mono ?_
    rintro e w' ⟨rfl, f⟩
    go_wp2_with fail
    go_ret
    exact ⟨rfl, f⟩
  have h1' : 1 ≤ c := by omega
  clear h1
  by_cases h2 : 4096 < c
  · clear hp
    go_enter Try.func18, Try.ntmps18
    go_wp2_with fail
    refine (known13 _).mono ?_
    rintro e w' ⟨rfl, f⟩
    go_wp2_with fail
    go_ret
    exact ⟨rfl, f⟩
  obtain ⟨n, rfl⟩ := Int.eq_ofNat_of_zero_le (show 0 ≤ c by omega)
  have HSM := small13 (acts_one hp (Nat.le_refl _) 121)
  by_cases hs : smallB [⟨0, 0, 0, ps⟩] = true
  · have hk : okA ⟨0, 0, 0, ps⟩ = true := by
      unfold smallB at hs
      rw [Bool.and_eq_true] at hs
      simpa using hs.2
    obtain ⟨h3, h4⟩ := okA_iff _ hk
    exact flowSplits_main w (by omega) (by omega) hp h3 h4
  · have hs' : smallB [⟨0, 0, 0, ps⟩] = false := by simpa using hs
    rw [hs'] at HSM
    have HS := Lib.hid HSM
    have h2' : (n : Int) ≤ 4096 := by omega
    clear HSM hs hs' h2
    go_enter Try.func18, Try.ntmps18
    go_wp2_with fail
    refine HS.out.mono ?_
    rintro e w' ⟨rfl, rfl⟩
    go_wp2_with fail
    refine (known13 _).mono ?_
    rintro e w' ⟨rfl, f⟩
    go_wp2_with fail
    go_ret
    exact ⟨rfl, ((Fr.refl [] w).alloc _).then0 f⟩
end Go.Proofs.Ytpkgjgfdobcboaa
