/-
  MeetSplits: it does not matter how the bytes of an offer are divided into parts.
-/
import Derived.Test.YtpkgjgfdobcboaaActs12
namespace Go.Proofs.Ytpkgjgfdobcboaa
open Go.RowKit
set_option maxRecDepth 100000

theorem StrsAt.mono {w : World} {M M' : Nat} {a : Option Addr} {len cap : Nat} {ss : Parts} (h : StrsAt w M a len cap ss) (hM : M ≤ M') : StrsAt w M' a len cap ss :=
  ⟨h.len_eq, h.le, h.cap_le, h.sl, fun b o h0 e => Nat.lt_of_lt_of_le (h.old b o h0 e) hM, h.size⟩
theorem acts_one {w : World} {M : Nat} {a : Option Addr} {len cap : Nat} {ss : Parts} (h : StrsAt w M a len cap ss) (hM : M ≤ w.heap.size) (t : TypeId) :
    Acts12 (w.alloc (.cells #[.int .i64 0, .int .i64 0, .slice a len cap, .int .i64 0] t)) (w.heap.size + 1) (some ⟨w.heap.size, 0, none⟩) 1 1 [⟨0, 0, 0, ss⟩] := by
  refine ⟨rfl, by unfold maxLen; omega, fun i hi => ?_⟩
  have h0 : i = 0 := by simpa using hi
  subst h0
  have hk := (h.keep ((Fr.refl [] w).alloc (.cells #[.int .i64 0, .int .i64 0, .slice a len cap, .int .i64 0] t)) (by simp)).mono (M' := w.heap.size + 1) (by omega)
  exact ⟨_, 0, a, len, cap, rfl, by omega, by simp, cell_of (newA rfl), cell_of (newA rfl), cell_of (newA rfl), cell_of (newA rfl), hk, by simp⟩
theorem tot_le_mul : ∀ (ss : Parts), (∀ p ∈ ss, p.length ≤ 400) → tot ss ≤ 400 * ss.length
  | [], _ => by simp [tot]
  | p :: ss, h => by
    have h1 := h p (by simp)
    have h2 := tot_le_mul ss (fun q hq => h q (by simp [hq]))
    rw [tot_cons, List.length_cons]
    omega
theorem okA_iff (x : A12) : okA x = true → x.ps.length ≤ 30 ∧ (∀ p ∈ x.ps, p.length ≤ 400) := by
  intro h
  unfold okA at h
  rw [Bool.and_eq_true] at h
  exact ⟨by simpa using h.1, by simpa using h.2⟩
theorem own_len (ss : Parts) : (own ss).length ≤ ss.length := List.length_filter_le _ _

theorem mTake_at (S : List UInt8) (k : Nat) (n : Nat) : mTake ⟨0, 0, true, S.drop k, k⟩ n = ⟨⟨0, 0, true, S.drop (k + ((S.drop k).take n).length), k + ((S.drop k).take n).length⟩, (S.drop k).take n, if 0 < n ∧ (S.drop k).take n = [] then 16 else 0⟩ := by
  unfold mTake
  rw [if_neg (by omega)]
  by_cases h1 : (n : Int) = 0
  · obtain rfl : n = 0 := by omega
    simp
  · rw [if_neg h1, if_neg (by simp), if_neg (by simp)]
    dsimp only
    by_cases h2 : S.drop k = []
    · rw [if_pos h2, h2]
      have : 0 < n := by omega
      simp [this, h2]
    · rw [if_neg h2, Int.toNat_natCast]
      have hne : (S.drop k).take n ≠ [] := by
        intro e
        rw [List.take_eq_nil_iff] at e
        rcases e with e | e
        · omega
        · exact h2 e
      rw [if_neg (fun h => hne h.2)]
      congr 2
      rw [List.drop_drop, List.length_take, List.length_drop]
      by_cases hx : n ≤ S.length - k
      · rw [Nat.min_eq_left hx]
      · rw [Nat.min_eq_right (by omega), List.drop_eq_nil_of_le (by omega), List.drop_eq_nil_of_le (by omega)]

set_option maxHeartbeats 4000000 in
theorem meetSplits_main {pa pb : Option Addr} {pl pc pm pd : Nat} {ps : Parts} {ns : List UInt8} (w : World) (hp : StrsAt w w.heap.size pa pl pc ps) (hn : Arg w w.heap.size pb pm pd ns) (h30 : ps.length ≤ 30) (h400 : ∀ p ∈ ps, p.length ≤ 400) (h60 : pm ≤ 60) :
    Calls Try.prog 13 #[.slice pa pl pc, .slice pb pm pd] w fun e w' => e = .returned (.bool true) ∧ Fr [] w w' := by
  have hle := hn.len_eq
  subst hle
  have htot : tot ps ≤ 12000 := by have := tot_le_mul ps h400; omega
  have hm60 : (ns.length : Int) ≤ 60 := by omega
  have hsm : smallB [⟨0, 0, 0, ps⟩] = true := by
    unfold smallB okA
    simp
    exact ⟨h30, h400⟩
  have HSM := Lib.hid (small12 (acts_one hp (Nat.le_refl _) 95))
  rw [hsm] at HSM
  have hmx : ∀ p ∈ ps, p.length ≤ 1000000 := fun p hp => by have := h400 p hp; omega
  have HMX := Lib.hid hmx
  clear hsm hmx h400
  go_enter Try.func13, Try.ntmps13
  go_wp2_with fail
  refine HSM.out.mono ?_
  rintro e w' ⟨rfl, rfl⟩
  have f1 : Fr [] w (w.alloc (.cells #[.int .i64 0, .int .i64 0, .slice pa pl pc, .int .i64 0] 95)) := (Fr.refl _ _).alloc _
  have p1 := hp.keep f1 (by simp)
  have n1 := hn.keep f1 (Nat.le_refl _) (by simp)
  generalize (w.alloc (.cells #[.int .i64 0, .int .i64 0, .slice pa pl pc, .int .i64 0] 95)) = w1 at *
  generalize hM0 : w.heap.size = M at *
  have hMl : M ≤ w.heap.size := by omega
  have hMr : w.heap.size ≤ M := by omega
  clear hM0 HSM hp hn
  go_wp2_with fail
  refine (text12 p1 (by omega) (by omega)).mono ?_
  rintro e w2 ⟨rfl, f2⟩
  have p2 := p1.keep f2 (by simp)
  have n2 := n1.keep f2 (Nat.le_trans hMl f1.size) (by simp)
  have g2 := f1.then0 f2
  have hsl : ps.flatten.length ≤ 12000 := htot
  obtain ⟨S, hS⟩ : ∃ S, ps.flatten = S := ⟨_, rfl⟩
  rw [hS] at hsl
  rw [hS]
  have HS := Lib.hid hS
  clear hS p1 n1 f1 f2
  go_wp2_with fail
  refine (meet_newN w2).mono ?_
  rintro e w3 ⟨rfl, f3, z3, m3⟩
  have p3 := p2.keep f3 (by simp)
  have hM2 : M ≤ w2.heap.size := Nat.le_trans hMl g2.size
  have n3 := n2.keep f3 hM2 (by simp)
  have g3 := g2.then0 f3
  clear p2 n2 g2
  go_wp2_with fail
  refine (meet_newN w3).mono ?_
  rintro e w4 ⟨rfl, f4, z4, m4⟩
  have p4 := p3.keep f4 (by simp)
  have hM3 : M ≤ w3.heap.size := Nat.le_trans hMl g3.size
  have n4 := n3.keep f4 hM3 (by simp)
  have g4 := g3.then0 f4
  have q3 := (m3 (fun x => x ≠ w2.heap.size) (by simp) (fun x hx => by omega)).narrow f4 (c := w3.heap.size) (Nat.le_refl _) (by omega)
  have q4 := m4 (fun x => x ≠ w2.heap.size ∧ x ≠ w3.heap.size) (by simp) (fun x hx => by omega)
  have hB1 : M ≤ w2.heap.size := hM2
  have hB12 : w2.heap.size < w3.heap.size := by omega
  clear m3 m4 z3 z4 f3 f4 g3 p3 n3
  generalize w2.heap.size = B1 at *
  generalize w3.heap.size = B2 at *
  have hM4 : M ≤ w4.heap.size := Nat.le_trans hMl g4.size
  go_wp2_with fail
  refine (of12 p4.sl p4.len_eq (by have := p4.len_eq; omega) HMX.out (by have := own_len ps; omega) (by omega)).mono ?_
  rintro e w5 ⟨rv, rfl, f5, hr5⟩
  have q5 := q3.keep0 f5
  have r5 := q4.keep0 f5
  have hr5' := hr5.mono (N' := fun x => x ≠ B1 ∧ x ≠ B2) (fun x hx => by have := q3.lt; have := q4.lt; omega)
  have p5 := p4.keep f5 (by simp)
  have n5 := n4.keep f5 hM4 (by simp)
  have g5 := g4.then0 f5
  clear q3 q4 hr5 p4 n4 f5 g4
  have HO5 := Lib.hid (offer_mm q5 hr5')
  rw [own_flat, HS.out] at HO5
  go_wp2_with fail
  refine HO5.out.mono ?_
  rintro e w6 ⟨rfl, f6, q6⟩
  replace q6 : Mt w6 (fun x => x ≠ B1 ∧ x ≠ B2) B1 ⟨0, 0, true, S, 0⟩ := q6
  have r6 := r5.keep f6 (by simp; omega) (by simp)
  have n6 := n5.keep f6 (Nat.le_trans hMl g5.size) (by simp; omega)
  have g6 : Fr [] w w6 := g5.trans f6 (by simp) (by simp; omega)
  clear q5 r5 hr5' p5 n5 f6 g5 HO5
  go_wp2_with fail
  refine (of12 (ss := [S]) (by exact SlV.lit _ _ _) rfl (by simp) (by simp; omega) (by have := own_len [S]; simp at this; omega) (by simp [tot]; omega)).mono ?_
  rintro e w7 ⟨rv2, rfl, f7, hr7⟩
  have fa : Fr [] w6 (w6.alloc (Obj.cells #[Value.string (st S)] 9)) := (Fr.refl _ _).alloc _
  have q7 := (q6.keep0 fa).keep0 f7
  have r7 := (r6.keep0 fa).keep0 f7
  have hr7' := hr7.mono (N' := fun x => x ≠ B1 ∧ x ≠ B2) (fun x hx => by have := q6.lt; have := r6.lt; simp at hx; omega)
  have n7 := (n6.keep fa (Nat.le_trans hMl g6.size) (by simp)).keep f7 (Nat.le_trans hMl (Nat.le_trans g6.size fa.size)) (by simp)
  have g7 := (g6.then0 fa).then0 f7
  clear q6 r6 hr7 n6 f7 g6 fa
  have HO7 := Lib.hid (offer_mm r7 hr7')
  have e7 : (own [S]).flatten = S := by rw [own_flat]; simp
  rw [e7] at HO7
  clear e7
  go_wp2_with fail
  refine HO7.out.mono ?_
  rintro e w8 ⟨rfl, f8, r8⟩
  replace r8 : Mt w8 (fun x => x ≠ B1 ∧ x ≠ B2) B2 ⟨0, 0, true, S.drop 0, 0⟩ := r8
  have q8 : Mt w8 (fun x => x ≠ B1 ∧ x ≠ B2) B1 ⟨0, 0, true, S.drop 0, 0⟩ := q7.keep f8 (by simp; omega) (by simp)
  have n8 := n7.keep f8 (Nat.le_trans hMl g7.size) (by simp; omega)
  have g8 : Fr [] w w8 := g7.trans f8 (by simp) (by simp; omega)
  clear q7 r7 hr7' n7 f8 g7 HO7
  go_wp2_with fail
  go_loopw [8, 60] (fun t i wr => ∃ (k at_ : Nat), k ≤ ns.length ∧ i = .int .i64 k ∧ t = .int .i64 at_ ∧ at_ ≤ S.length ∧ Mt wr (fun x => x ≠ B1 ∧ x ≠ B2) B1 ⟨0, 0, true, S.drop at_, at_⟩ ∧ Mt wr (fun x => x ≠ B1 ∧ x ≠ B2) B2 ⟨0, 0, true, S.drop at_, at_⟩ ∧ Arg wr M pb ns.length pd ns ∧ Fr [] w wr) (fun _ i _ => ns.length - (intOf i).toNat)
  case atStart => exact ⟨0, 0, by omega, rfl, rfl, by omega, q8, r8, n8, g8⟩
  case round =>
    obtain ⟨k, at_, hk, rfl, rfl, hat, qr, rr, nr, gr⟩ := hrel
    clear q8 r8 n8 g8
    by_cases hlt : (k : Int) < ns.length
    · have hkn : k < ns.length := by omega
      obtain ⟨nb, no, rfl, hnb, hnc⟩ := nr.sl (by rw [bi_length]; omega)
      have hcell := hnc k (by rw [bi_length]; omega)
      rw [bi_getD ns k hkn] at hcell
      have hn255 : ns[k].toNat ≤ 255 := by have := ns[k].toNat_lt; omega
      generalize ns[k].toNat = n at hcell hn255
      clear hnc
      obtain ⟨O, hO⟩ : ∃ O, (S.drop at_).take n = O := ⟨_, rfl⟩
      have hOl : O.length = min n (S.length - at_) := by rw [← hO, List.length_take, List.length_drop]
      have hin : ∃ hi : Int, ((S.length : Int) ≤ at_ + n ∧ hi = S.length) ∨ ((at_ : Int) + n < S.length ∧ hi = (at_ : Int) + n) := by
        by_cases h : (S.length : Int) ≤ at_ + n
        · exact ⟨_, .inl ⟨h, rfl⟩⟩
        · exact ⟨_, .inr ⟨by omega, rfl⟩⟩
      obtain ⟨hi, hin⟩ := hin
      have hw1 : ∀ w, (Instr.slice 9 (.string (st S)) (some (.int .i64 at_)) (some (.int .i64 hi)) none).run Try.prog w = .ok (.string (st O)) w := fun w => by
        rw [run_slice_string (P := Try.prog) (w := w) 9 (st S) .i64 .i64 at_ hi Try.underlying9 (by omega) (by omega) (by rw [st_size]; omega), st_extract]
        congr 2
        rw [Int.toNat_natCast, List.drop_take]
        rcases hin with ⟨h, rfl⟩ | ⟨h, rfl⟩
        · rw [← hO, Int.toNat_natCast, List.take_of_length_le (by simp), List.take_of_length_le (by simp; omega)]
        · rw [← hO, show ((at_ : Int) + n).toNat - at_ = n from by omega]
      have eM := mTake_at S at_ n
      rw [hO] at eM
      have HT1 := Lib.hid (take_mm qr (n : Int))
      have hT2 := fun w' (h : Mt w' (fun x => x ≠ B1 ∧ x ≠ B2) B2 ⟨0, 0, true, S.drop at_, at_⟩) => take_mm h (n : Int)
      rw [eM] at HT1 hT2
      have HT2 := Lib.hid hT2
      clear eM hO hT2
      have hat2 : at_ + O.length ≤ S.length := by omega
      have hsp : ((0 : Int) < n ∧ O = [] ∧ (if 0 < n ∧ O = [] then (16 : Int) else 0) = 16) ∨ ((0 : Int) < n ∧ O ≠ [] ∧ (if 0 < n ∧ O = [] then (16 : Int) else 0) = 0) ∨ (n = 0 ∧ O = [] ∧ (if 0 < n ∧ O = [] then (16 : Int) else 0) = 0) := by
        by_cases h1 : 0 < n
        · by_cases h2 : O = []
          · exact .inl ⟨by omega, h2, if_pos ⟨h1, h2⟩⟩
          · exact .inr (.inl ⟨by omega, h2, if_neg (fun h => h2 h.2)⟩)
        · exact .inr (.inr ⟨by omega, List.eq_nil_of_length_eq_zero (by omega), if_neg (fun h => h1 h.1)⟩)
      have hat3 : (at_ : Int) + O.length ≤ 12000 := by omega
      have HOL := Lib.hid hOl
      clear hOl
      rcases hsp with ⟨s1, s2, s3⟩ | ⟨s1, s2, s3⟩ | ⟨s1, s2, s3⟩
      all_goals
        rw [s3] at HT1 HT2
        clear s3
        first | subst s2 | skip
        first | subst s1 | skip
        try (have hE : O.isEmpty = false := by simpa using s2)
        try clear s2
      all_goals
        rcases hin with ⟨hi1, rfl⟩ | ⟨hi1, rfl⟩
      all_goals
        first | (exfalso; have := HOL.out; simp at this; omega) | skip
      all_goals
        go_wp2_with fail
        refine HT1.out.mono ?_
        rintro e w2 ⟨u1, rfl, f2, o2, q2⟩
        have r2 := rr.keep f2 (by simp; omega) (by simp)
        have n2 := nr.keep f2 (Nat.le_trans hMl gr.size) (by simp; omega)
        have g2 : Fr [] w w2 := gr.trans f2 (by simp) (by simp; omega)
        have hsz1 := gr.size
        have hsz2 := g2.size
        have HT3 := Lib.hid (HT2.out _ r2)
        clear HT1 HT2
        go_wp2_with fail
        refine HT3.out.mono ?_
        rintro e w3 ⟨u2, rfl, f3, o3, r3⟩
        have q3 := q2.keep f3 (by simp; omega) (by simp)
        have n3 := n2.keep f3 (Nat.le_trans hMl g2.size) (by simp; omega)
        have g3 : Fr [] w w3 := g2.trans f3 (by simp) (by simp; omega)
        have o2' := o2.keep f3 (fun x e hm => by have := (o2.lt x e).1; have := rr.lt; simp at hm; omega)
        obtain ⟨ga, gc, rfl, _, _, hs2, _⟩ := o2'.formB
        obtain ⟨gb, gd, rfl, _, _, hs3, _⟩ := o3.formB
        have hcv2 := fun c => conv_st (cap := c) hs2 rfl
        have hcv3 := fun c => conv_st (cap := c) hs3 rfl
        try simp only [List.length_nil] at hcv2 hcv3
        clear HT3 o2 o2' o3 hs2 hs3 q2 r2 n2 f2 f3
        go_wp2_with fail
        go_roundw
        case rel => exact ⟨k + 1, at_ + _, by omega, by go_num, by first | go_num | simp, by first | exact hat2 | simpa using hat2, q3, r3, n3, g3⟩
        case measure => simp [intOf]; omega
    · go_wp2_with fail
      refine (withdraw_mm qr).mono ?_
      rintro e wa ⟨he, fa, qa⟩
      obtain rfl : e = .returned (.tuple #[.int .i64 at_, .int .i64 0]) := he
      have ra := rr.keep fa (by simp; omega) (by simp)
      have ga : Fr [] w wa := gr.trans fa (by simp) (by simp; omega)
      go_wp2_with fail
      refine (withdraw_mm ra).mono ?_
      rintro e wb ⟨he, fb, qb⟩
      obtain rfl : e = .returned (.tuple #[.int .i64 at_, .int .i64 0]) := he
      have gb : Fr [] w wb := ga.trans fb (by simp) (by simp; omega)
      go_wp2_with fail
      refine (ends12 _ _ _).mono ?_
      rintro e w' ⟨rfl, rfl⟩
      go_wp2_with fail
      refine (ends12 _ _ _).mono ?_
      rintro e w' ⟨rfl, rfl⟩
      go_wp2_with fail
      refine (known12 _).mono ?_
      rintro e w99 ⟨rfl, f99⟩
      go_wp2_with fail
      go_ret
      exact ⟨rfl, gb.then0 f99⟩

theorem meetSplits_walk {pa pb : Option Addr} {pl pc pm pd : Nat} (w : World) (h : ∃ ps, StrsAt w w.heap.size pa pl pc ps) (hn : ∃ l, Arg w w.heap.size pb pm pd l) :
    Calls Try.prog 13 #[.slice pa pl pc, .slice pb pm pd] w fun e w' => e = .returned (.bool true) ∧ Fr [] w w' := by
  obtain ⟨ps, hp⟩ := h
  obtain ⟨ns, hn⟩ := hn
  have HSM := small12 (acts_one hp (Nat.le_refl _) 95)
  have hpm : (pm : Int) ≤ 9223372036854775807 := by have := hn.le; have := hn.cap_le; unfold maxLen at this; omega
  by_cases hs : smallB [⟨0, 0, 0, ps⟩] = true
  · by_cases h60 : (60 : Int) < pm
    · rw [hs] at HSM
      have HS := Lib.hid HSM
      clear HSM hs
      go_enter Try.func13, Try.ntmps13
      go_wp2_with fail
      refine HS.out.mono ?_
      rintro e w' ⟨rfl, rfl⟩
      go_wp2_with fail
      refine (known12 _).mono ?_
      rintro e w' ⟨rfl, f⟩
      go_wp2_with fail
      go_ret
      exact ⟨rfl, ((Fr.refl [] w).alloc _).then0 f⟩
    · have hk : okA ⟨0, 0, 0, ps⟩ = true := by
        unfold smallB at hs
        rw [Bool.and_eq_true] at hs
        simpa using hs.2
      obtain ⟨h1, h2⟩ := okA_iff _ hk
      exact meetSplits_main w hp hn h1 h2 (by omega)
  · have hs' : smallB [⟨0, 0, 0, ps⟩] = false := by simpa using hs
    rw [hs'] at HSM
    have HS := Lib.hid HSM
    clear HSM hs hs'
    go_enter Try.func13, Try.ntmps13
    go_wp2_with fail
    refine HS.out.mono ?_
    rintro e w' ⟨rfl, rfl⟩
    go_wp2_with fail
    refine (known12 _).mono ?_
    rintro e w' ⟨rfl, f⟩
    go_wp2_with fail
    go_ret
    exact ⟨rfl, ((Fr.refl [] w).alloc _).then0 f⟩
end Go.Proofs.Ytpkgjgfdobcboaa
