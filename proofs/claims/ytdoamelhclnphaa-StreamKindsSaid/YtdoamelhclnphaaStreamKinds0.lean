/-
  Law 14: StreamKinds, with no capacity.
-/
import Derived.Test.YtdoamelhclnphaaFeed14
import Derived.Test.YtdoamelhclnphaaKnown14
import Derived.Test.YtdoamelhclnphaaActs14
import Derived.Lib.MinMax
namespace Go.Proofs.Ytdoamelhclnphaa
open Go.RowKit
set_option maxRecDepth 100000

set_option maxHeartbeats 40000000 in
theorem streamKinds_0 {wa ra : Option Addr} {wc rc : Nat} {Wr : Parts} {Rd : List UInt8} (w : World) (hW : PArg w w.heap.size wa Wr.length wc Wr) (hR : Arg w w.heap.size ra Rd.length rc Rd) (hwl : Wr.length ≤ 10) (hrl : Rd.length ≤ 30) :
    Calls Try.prog 10 #[.int .u8 0, .slice wa Wr.length wc, .slice ra Rd.length rc] w fun e w' => e = .returned (.bool true) ∧ Fr [] w w' := by
  have hwl' : (Wr.length : Int) ≤ 10 := by omega
  have hrl' : (Rd.length : Int) ≤ 30 := by omega
  have HWN := Lib.hid fun w' (f : Fr [] w w') => hW.keep f (by simp)
  have HRN := Lib.hid fun w' (f : Fr [] w w') => hR.keep f (Nat.le_refl _) (by simp)
  clear hW hR
  go_enter Try.func10, Try.ntmps10
  go_wp2_with fail
  go_loop [7] (fun i => ∃ k : Nat, k ≤ Wr.length ∧ i = .int .i64 k ∧ Hid (∀ j (h : j < Wr.length), j < k → Wr[j].length ≤ 200)) (fun i => Wr.length - (intOf i).toNat)
  case atStart => exact ⟨0, by omega, rfl, Lib.hid (fun j _ h => by omega)⟩
  case round =>
    obtain ⟨k, hk, rfl, HK⟩ := hrel
    by_cases hlt : (k : Int) < Wr.length
    · have hlt' : k < Wr.length := by omega
      obtain ⟨b, o, ak, ck, rfl, _, hcell, hc9, hc8, _⟩ := ((HWN.out _ (Fr.refl _ _)).at_).at_ hlt'
      have hxm : Wr[k].length ≤ maxLen := by omega
      have HNX := Lib.hid (fun (h2 : Wr[k].length ≤ 200) j (hj : j < Wr.length) (hjk : j < k + 1) => (show Wr[j].length ≤ 200 from by
        rcases Nat.lt_succ_iff_lt_or_eq.1 hjk with h | h
        · exact HK.out j hj h
        · subst h; exact h2))
      generalize Wr[k].length = x at hcell HNX hc9 hxm
      unfold maxLen at hxm
      have hxi : (x : Int) ≤ 9223372036854775807 := by omega
      clear hc9 hc8 hxm
      by_cases hx : (x : Int) ≤ 200
      · go_wp2_with fail
        go_round
        case rel => exact ⟨k + 1, by omega, by go_num, Lib.hid (HNX.out (by omega))⟩
        case measure => simp [intOf] <;> omega
      · go_wp2_with fail
        refine (known14 _).mono ?_
        rintro e w9 ⟨rfl, f9⟩
        go_wp2_with fail
        go_ret
        exact ⟨rfl, f9⟩
    · skip
      have hke : k = Wr.length := by omega
      have HALL : Hid (∀ j (h : j < Wr.length), Wr[j].length ≤ 200) := Lib.hid fun j h => HK.out j h (by omega)
      clear HK
      subst hke
      have HST := Lib.hid (st_new (0 : Int) w (by omega) (by omega))
      go_wp2_with fail
      refine HST.out.mono ?_
      rintro e w1 ⟨b, L, rfl, f1, hb0, hb1, hL, s1⟩
      clear HST
      obtain ⟨bm, hbm⟩ : ∃ x, x = w1.heap.size := ⟨_, rfl⟩
      have HMN := Lib.hid (meet_newN w1)
      rw [← hbm] at HMN
      have HBM := Lib.hid hbm
      have HB0 := Lib.hid (And.intro hb0 (And.intro hb1 hL))
      have HS1 := Lib.hid s1
      have HF1 := Lib.hid f1
      clear hbm hb0 hb1 hL s1 f1
      go_wp2_with fail
      refine HMN.out.mono ?_
      rintro e w2 ⟨rfl, f2, hz2, m2⟩
      have HF2 := Lib.hid f2
      have HM2 := Lib.hid m2
      have HZ2 := Lib.hid hz2
      clear f2 m2 hz2 HMN
      have hmx : max (1 : Int) (0 : Int) = ((1 : Nat) : Int) := by omega
      have HFN := Lib.hid (flow_new 1 w2 (by omega) (by omega))
      go_wp2_with fail
      refine HFN.out.mono ?_
      rintro e w3 ⟨bf, R, D, rfl, f3, hbf, hR, hD, l3⟩
      obtain ⟨bx, hbx⟩ : ∃ x, x = w3.heap.size := ⟨_, rfl⟩
      obtain ⟨w4, hw4, f4, q4⟩ : ∃ W, w3.alloc (.cells #[.slice none 0 0, .int .i64 0] 57) = W ∧ Fr [] w3 W ∧ W.heap[bx]? = some (.cells #[.slice none 0 0, .int .i64 0] 57 (0, 0)) := ⟨_, rfl, (Fr.refl _ _).alloc _, newA hbx⟩
      have hb0 := HB0.out.1
      have hb1 := HB0.out.2.1
      have hL := HB0.out.2.2
      have hbm := HBM.out
      have hz2 := HZ2.out
      have hz3 := f3.size
      obtain ⟨_, _, _, hl1, hl2, hl3, _⟩ := l3.bd
      have f14 := (HF2.out.then0 f3).then0 f4
      have G4 := Lib.hid (HF1.out.then0 f14)
      have hk : KN w w4 L b bm (newM 0) 0 := ⟨(HS1.out.keep0 f14).wide (fun x h => h.elim) (fun h => h (by simp)) (fun x hx h => h (by simp [hx])),
        (HM2.out (fun x => x ∉ bm :: b :: L) (fun h => h (by simp)) (fun x hx hm => by simp only [List.mem_cons] at hm; rcases hm with hm | hm | hm; omega; omega; have := hL x hm; omega)).keep0 (f3.then0 f4),
        fun x hx => by simp only [List.mem_cons] at hx; rcases hx with hx | hx | hx; omega; omega; have := hL x hx; omega,
        by omega, fun hm => by have := hL _ hm; omega⟩
      have H4 : Hid (∃ tk, KN w w4 L b bm (newM 0) tk) := Lib.hid ⟨0, hk⟩
      clear hk hb0 hb1 hL hbm hz2 hz3 hl1 hl2 hl3 f14 f3 f4 q4 l3 hbf hR hD HB0 HBM HS1 HF1 HF2 HM2 HZ2 HFN hmx
      go_wp2_with fail
      try rw [hw4]
      try rw [← hbx]
      clear hw4 hbx
      go_loopw [12, 13, 15] (fun va vb vi wr => ∃ (at_ : Nat) (bz : Bool) (m : SM) (i : Nat), va = .int .i64 at_ ∧ vb = .bool bz ∧ vi = .int .i64 i ∧ at_ ≤ Wr.length ∧ i ≤ Rd.length + 1 ∧ Hid (m.busy = bz) ∧ Hid (OpK 0 m) ∧ Hid (∃ tk, KN w wr L b bm m tk) ∧ Hid (Fr [] w wr)) (fun _ _ vi _ => Rd.length + 1 - (intOf vi).toNat)
      case atStart => exact ⟨0, false, newM 0, 0, rfl, rfl, rfl, by omega, by omega, Lib.hid rfl, Lib.hid (OpK.new (by omega)), H4, G4⟩
      case round =>
        clear H4 G4
        obtain ⟨at_, bz, m, i, rfl, rfl, rfl, hat, hir, HBZ, HO, HX, HG⟩ := hrel
        rename World => wr
        by_cases hlt : (i : Int) ≤ Rd.length
        · go_upto_block 4 with fail
          go_cut [12, 13] (fun va vb wx => ∃ (at_ : Nat) (bz : Bool) (m : SM), va = .int .i64 at_ ∧ vb = .bool bz ∧ at_ ≤ Wr.length ∧ Hid (m.busy = bz) ∧ Hid (OpK 0 m) ∧ Hid (∃ tk, KN w wx L b bm m tk) ∧ Hid (Fr [] w wx))
          case first =>
            as_aux_lemma =>
              go_wp2_with fail
              go_loopw [12, 13] (fun va vb wq => ∃ (at_ : Nat) (bz : Bool) (m : SM), va = .int .i64 at_ ∧ vb = .bool bz ∧ at_ ≤ Wr.length ∧ Hid (m.busy = bz) ∧ Hid (OpK 0 m) ∧ Hid (∃ tk, KN w wq L b bm m tk) ∧ Hid (Fr [] w wq)) (fun va _ _ => Wr.length - (intOf va).toNat)
              case atStart => exact ⟨at_, bz, m, rfl, rfl, hat, HBZ, HO, HX, HG⟩
              case round =>
                clear HBZ HO HX HG hat
                obtain ⟨at_, bz, m, rfl, rfl, hat, HBZ, HO, HX, HG⟩ := hrel
                rename World => wq
                go_upto_if 92 with fail
                go_cut [13] (fun vb wy => ∃ m : SM, vb = .bool false ∧ Hid (m.busy = false) ∧ Hid (OpK 0 m) ∧ Hid (∃ tk, KN w wy L b bm m tk) ∧ Hid (Fr [] w wy))
                case first =>
                  as_aux_lemma =>
                    cases bz with
                    | false =>
                      go_wp2_with fail
                      go_meet
                      exact ⟨m, rfl, HBZ, HO, HX, HG⟩
                    | true =>
                      by_cases hr : m.rest = []
                      rotate_left
                      · have HPG := Lib.hid (by have h := st_progress HX.out.choose_spec.s; rw [HO.out.atEnd HBZ.out, show m.rest.isEmpty = false from by simpa using hr] at h; exact h : Calls Try.prog 31 #[.pointer (some ⟨b, 0, none⟩)] wq fun e w' => e = .returned (.tuple #[.int .i64 m.acc, .bool false]) ∧ Fr [] wq w')
                        clear hr
                        go_wp2_with fail
                        refine HPG.out.mono ?_
                        rintro e w1 ⟨rfl, f1⟩
                        have H1 : Hid (∃ tk, KN w w1 L b bm m tk) := Lib.hid (⟨_, HX.out.choose_spec.keep0 f1⟩)
                        have G1 := Lib.hid (HG.out.then0 f1)
                        clear f1 HPG
                        go_wp2_with fail
                        go_meet
                        exact ⟨at_, true, m, rfl, rfl, hat, HBZ, HO, H1, G1⟩
                      · have HPG := Lib.hid (by have h := st_progress HX.out.choose_spec.s; rw [HO.out.atEnd HBZ.out, show m.rest.isEmpty = true from by simpa using hr] at h; exact h : Calls Try.prog 31 #[.pointer (some ⟨b, 0, none⟩)] wq fun e w' => e = .returned (.tuple #[.int .i64 m.acc, .bool true]) ∧ Fr [] wq w')
                        have HE := Lib.hid (HO.out.end_ HBZ.out hr)
                        have HEN := Lib.hid fun w1 (f : Fr [] wq w1) => (by have h := st_end (HX.out.choose_spec.s.keep0 f); rw [HE.out.1] at h; exact h : Calls Try.prog 33 #[.pointer (some ⟨b, 0, none⟩)] w1 (EndPost w1 (fun x => x ∉ bm :: b :: L) L b ⟨stopM m, m.acc, 0⟩))
                        have HR := Lib.hid hr
                        clear hr
                        go_wp2_with fail
                        refine HPG.out.mono ?_
                        rintro e w1 ⟨rfl, f1⟩
                        go_wp2_with fail
                        refine (HEN.out _ f1).mono ?_
                        rintro e w2 ⟨rfl, f2, s2⟩
                        dsimp only at s2
                        have f12 : Fr (b :: L) wq w2 := f1.trans f2 (by simp) (fun x hx => .inl (by simp at hx; simp [hx]))
                        obtain ⟨tk, hk⟩ := HX.out
                        have t2 := hk.mt f12
                        rw [HBZ.out, HR.out] at t2
                        have HRS := Lib.hid (by have h := result_mm t2; rw [show mResult ⟨0, 0, true, [], tk⟩ = ⟨⟨0, 0, false, [], 0⟩, tk, 0⟩ from by simp [mResult, mWithdraw]] at h; exact h : Calls Try.prog 56 #[.pointer (some ⟨bm, 0, none⟩)] w2 (NPost (fun x => x ∉ bm :: b :: L) bm ⟨⟨0, 0, false, [], 0⟩, tk, 0⟩ w2))
                        have HK := Lib.hid hk
                        have HS2 := Lib.hid s2
                        have HF12 := Lib.hid f12
                        clear hk t2 s2 f12 f1 f2 HPG HEN
                        go_wp2_with fail
                        refine HRS.out.mono ?_
                        rintro e w3 ⟨rfl, f3, t3⟩
                        dsimp only at t3
                        have hst := HK.out.step (m1 := stopM m) (tk' := 0) HF12.out HS2.out (fun x hx => hx) f3 t3
                        have H3 : Hid (∃ tk, KN w w3 L b bm (stopM m) tk) := Lib.hid ⟨_, hst.1⟩
                        have G3 := Lib.hid (HG.out.trans hst.2 (U := []) (by simp) (fun x hx => .inr (HK.out.lo x hx)))
                        clear hst f3 t3 HRS
                        go_wp2_with fail
                        go_meet
                        exact ⟨stopM m, rfl, Lib.hid rfl, Lib.hid HE.out.2, H3, G3⟩
                case rest =>
                  clear HBZ HO HX HG
                  obtain ⟨m, rfl, HBZ, HO, HX, HG⟩ := hcut
                  rename World => wq
                  by_cases hlast : at_ = Wr.length
                  · subst hlast
                    go_wp2_with fail
                    go_meet
                    exact ⟨Wr.length, false, m, rfl, rfl, Nat.le_refl _, HBZ, HO, HX, HG⟩
                  · have hat' : at_ < Wr.length := by omega
                    have hne : ((at_ : Int) == (Wr.length : Int)) = false := by rw [beq_eq_false_iff_ne]; omega
                    have hat2 : (at_ : Int) < Wr.length := by omega
                    have hat3 : (Wr.length : Int) ≤ 10 := by omega
                    obtain ⟨pb, po, pk, pcap, rfl, hpb, hcell, g1, g2, g3, g4⟩ := ((HWN.out _ HG.out).at_).at_ hat'
                    have hx200 := HALL.out at_ hat'
                    generalize Wr[at_] = x at hcell g1 g2 g3 g4 hx200
                    have pv : PartV wq (fun b => b < w.heap.size) (.slice pk x.length pcap) x := ⟨pk, pcap, rfl, g1, g2, g3, g4⟩
                    obtain ⟨w1, hw1, f1, q1⟩ : ∃ W, wq.alloc (.cells #[.slice pk x.length pcap] 29) = W ∧ Fr [] wq W ∧ W.heap[wq.heap.size]? = some (.cells #[.slice pk x.length pcap] 29 (0, 0)) := ⟨_, rfl, (Fr.refl _ _).alloc _, newA rfl⟩
                    have HN := Lib.hid (rope_new (cap := 1) (len := 1) (parts_single q1 (pv.keep f1 (by simp))) rfl (by unfold maxLen; omega))
                    have HX200 := Lib.hid hx200
                    have HF1 := Lib.hid f1
                    have hz1 := f1.size
                    clear pv q1 g1 g2 g3 g4 hx200 f1 hlast
                    go_wp2_with fail
                    refine HN.out.mono ?_
                    rintro e w2 ⟨f2, he⟩
                    rw [if_neg (by have := (own_single x).1; omega), if_neg (by have := HX200.out; simp [tot]; omega)] at he
                    obtain ⟨v, rfl, hr⟩ := he
                    have hfl := (own_single x).2
                    generalize own [x] = Q at *
                    obtain ⟨ra2, rc2, rfl, _⟩ := id hr
                    obtain ⟨w3, hw3, f3, q3⟩ : ∃ W, w2.alloc (.cells #[.slice ra2 Q.length rc2, .int .i64 (tot Q)] 57) = W ∧ Fr [] w2 W ∧ W.heap[w2.heap.size]? = some (.cells #[.slice ra2 Q.length rc2, .int .i64 (tot Q)] 57 (0, 0)) := ⟨_, rfl, (Fr.refl _ _).alloc _, newA rfl⟩
                    have x0 : w3.cell? ⟨w2.heap.size, 0, none⟩ = some (.slice ra2 Q.length rc2) := cell_of q3
                    have x1 : w3.cell? ⟨w2.heap.size, 1, none⟩ = some (.int .i64 (tot Q)) := cell_of q3
                    have hz2 := f2.size
                    have F13 := (HF1.out.then0 f2).then0 f3
                    obtain ⟨tk, hk⟩ := HX.out
                    have hhi := hk.hi
                    have hr3 : Rp w3 (fun x => w1.heap.size ≤ x) (.agg #[.slice ra2 Q.length rc2, .int .i64 (tot Q)]) Q := hr.keep f3 (by simp)
                    have HBG := Lib.hid (HO.out.begin_ HBZ.out (x := x) (by have := HX200.out; omega))
                    have HB := Lib.hid (st_begin (hk.s.keep0 F13) hr3 (fun h => by have := hhi b (by simp); omega) (fun y hy h => by have := hhi y (by simp [hy]); omega))
                    rw [hfl] at HB
                    unfold BeginPost at HB
                    rw [HBG.out.1] at HB
                    have HHI := Lib.hid hhi
                    have HK := Lib.hid hk
                    have HF13 := Lib.hid F13
                    have HR3 := Lib.hid hr3
                    have HQ3 := Lib.hid q3
                    have HFL := Lib.hid hfl
                    have hb2 := lt_of_heap q3
                    clear HN hr f2 f3 q3 F13 hhi hk hr3 hfl hw1
                    go_wp2_with fail
                    refine HB.out.mono ?_
                    rintro e w4 ⟨rfl, f4, s4⟩
                    have hN4 : ∀ y, ((fun y => y ∉ bm :: b :: L) y ∨ w1.heap.size ≤ y ∨ w3.heap.size ≤ y) → y ∉ bm :: b :: L := fun y hy hm => by
                      have := HHI.out y hm
                      have := HF13.out.size
                      rcases hy with hy | hy | hy
                      · exact hy hm
                      · omega
                      · omega
                    have hX4 : ∀ y ∈ b :: L, y ∈ bm :: b :: L := fun y hy => by simp at hy; rcases hy with hy | hy <;> simp [hy]
                    have fq4 : Fr (b :: L) wq w4 := HF13.out.trans f4 (by simp) (fun y hy => .inl hy)
                    have r4 : Rp w4 (fun y => y ∉ bm :: b :: L) (.agg #[.slice ra2 Q.length rc2, .int .i64 (tot Q)]) Q := (HR3.out.keep f4 (fun y hy h => by have := HHI.out y (hX4 y hy); omega)).mono (fun y hy => hN4 y (.inr (.inl hy)))
                    have q4 := f4.keep HQ3.out (fun hm => by have := HHI.out _ (hX4 _ hm); have := HF13.out.size; omega)
                    have y0 : w4.cell? ⟨w2.heap.size, 0, none⟩ = some (.slice ra2 Q.length rc2) := cell_of q4
                    have y1 : w4.cell? ⟨w2.heap.size, 1, none⟩ = some (.int .i64 (tot Q)) := cell_of q4
                    have hwa : IntKind.i64.wrap ((at_ : Int) + 1) = at_ + 1 := IntWalk.i64_in _ (by omega)
                    have t4 := HK.out.mt fq4
                    rw [HBZ.out, HO.out.idle HBZ.out] at t4
                    have HOF := Lib.hid (by have h := offer_mm t4 r4; rw [HFL.out, show mOfferR ⟨0, 0, false, [], tk⟩ x = ⟨⟨0, 0, true, x, 0⟩, 0⟩ from by simp [mOfferR]] at h; exact h : Calls Try.prog 58 #[.pointer (some ⟨bm, 0, none⟩), .agg #[.slice ra2 Q.length rc2, .int .i64 (tot Q)]] w4 (EPost (fun y => y ∉ bm :: b :: L) bm ⟨⟨0, 0, true, x, 0⟩, 0⟩ w4))
                    have HS4 := Lib.hid s4
                    have HN4 := Lib.hid hN4
                    have HF4 := Lib.hid fq4
                    clear x0 x1 t4 r4 q4 s4 hN4 fq4 hX4 f4 HB
                    go_wp2_with fail
                    refine HOF.out.mono ?_
                    rintro e w5 ⟨rfl, f5, t5⟩
                    dsimp only at t5
                    have hrest : (beginM m x).m.rest = x := by have h := HBG.out.2.2.2.2; rw [Nat.zero_sub, List.drop_zero] at h; exact h
                    have hst := HK.out.step (m1 := (beginM m x).m) (tk' := 0) HF4.out HS4.out HN4.out f5 (by rw [HBG.out.2.2.1, hrest]; exact t5)
                    have H5 : Hid (∃ tk, KN w w5 L b bm (beginM m x).m tk) := Lib.hid ⟨_, hst.1⟩
                    have G5 := Lib.hid (HG.out.trans hst.2 (U := []) (by simp) (fun x hx => .inr (HK.out.lo x hx)))
                    clear hst f5 t5 hrest y0 y1 HOF
                    go_wp2_with fail
                    go_roundw
                    case rel => exact ⟨at_ + 1, true, (beginM m x).m, by go_num, rfl, by omega, Lib.hid HBG.out.2.2.1, Lib.hid HBG.out.2.1, H5, G5⟩
                    case measure => simp [intOf] <;> omega
          case rest =>
            clear HBZ HO HX HG hat
            obtain ⟨at_, bz, m, rfl, rfl, hat, HBZ, HO, HX, HG⟩ := hcut
            rename World => wx
            by_cases hi : i = Rd.length
            · subst hi
              have hil : ((Rd.length : Int) == (Rd.length : Int)) = true := beq_self_eq_true _
              go_wp2_with fail
              go_roundw
              case rel => exact ⟨at_, bz, m, Rd.length + 1, rfl, rfl, by go_num, hat, by omega, HBZ, HO, HX, HG⟩
              case measure => simp [intOf] <;> omega
            · have hi' : i < Rd.length := by omega
              have hil : ((i : Int) == (Rd.length : Int)) = false := by rw [beq_eq_false_iff_ne]; omega
              have hi2 : (i : Int) < Rd.length := by omega
              obtain ⟨rb, ro, rfl, hrb, hrc⟩ := (HRN.out _ HG.out).sl (by rw [bi_length]; omega)
              have hold := (HRN.out _ HG.out).old rb ro (by omega) rfl
              have hcell := hrc i (by rw [bi_length]; exact hi')
              rw [bi_getD Rd _ hi'] at hcell
              have hq := Rd[i].toNat_lt
              generalize Rd[i].toNat = q at hcell hq
              clear hrc
              by_cases hq0 : q = 0
              · subst hq0
                go_wp2_with fail
                go_roundw
                case rel => exact ⟨at_, bz, m, i + 1, rfl, rfl, by go_num, hat, by omega, HBZ, HO, HX, HG⟩
                case measure => simp [intOf] <;> omega
              · have hqz : ((q : Int) == 0) = false := by rw [beq_eq_false_iff_ne]; omega
                have hq2 : (q : Int) < 256 := by omega
                have hwq : IntKind.i64.wrap (q : Int) = q := IntWalk.i64_in _ (by omega)
                have hqi : (1 : Int) ≤ q := by omega
                have hqj : (q : Int) ≤ 255 := by omega
                obtain ⟨tk, hk⟩ := HX.out
                have HRD := Lib.hid (HO.out.read0 hqi hqj tk)
                have HRE := Lib.hid (st_read hk.s (q : Int))
                have HK := Lib.hid hk
                have HHI := Lib.hid hk.hi
                clear hk hqi hqj
                obtain ⟨RR, hRR⟩ : ∃ r, readM m (q : Int) = r := ⟨_, rfl⟩
                rw [hRR] at HRD HRE
                clear hRR
                go_wp2_with fail
                refine HRE.out.mono ?_
                rintro e w1 ⟨u, rfl, f1, ou, N', hN', s1⟩
                obtain ⟨ga, gc, rfl, _, _, hs1, hgn⟩ := ou.formB
                have hX1 : ∀ y ∈ b :: L, y ∈ bm :: b :: L := fun y hy => by simp at hy; rcases hy with hy | hy <;> simp [hy]
                have hlo1 : ∀ y ∈ bm :: b :: L, y ≠ rb := fun y hy e => by have := HK.out.lo y hy; omega
                have hcell1 := (World.cell?_of_block (w := wx) (f1.block rb hrb (fun hm => hlo1 _ (hX1 _ hm) rfl))).trans hcell
                have hz1 := f1.size
                have hN1 : ∀ y, N' y → y ∉ bm :: b :: L := fun y hy hm => by
                  rcases (hN' y hy).1 with h | h
                  · exact h hm
                  · have := HHI.out y hm; omega
                have t1 := HK.out.mt f1
                have HTK := Lib.hid (take_mm t1 (q : Int))
                have HOU := Lib.hid ou
                have HS1 := Lib.hid s1
                have HN1 := Lib.hid hN1
                have HF1 := Lib.hid f1
                have HGN := Lib.hid hgn
                clear t1 ou s1 hN' hN1 f1 hX1 hlo1 HRE hgn hs1
                go_wp2_with fail
                refine HTK.out.mono ?_
                rintro e w2 ⟨u2, rfl, f2, ou2, t2⟩
                obtain ⟨hop, hbz, ho, he, tk', hm⟩ := HRD.out
                rw [ho] at ou2
                rw [he]
                rw [hm] at t2
                have o1 := HOU.out.keep f2 (fun k e hm => by have := (HOU.out.lt k e).1; have := HHI.out bm (by simp); simp at hm; omega)
                obtain ⟨ga2, gc2, rfl, _, _, hs2, _⟩ := ou2.formB
                skip
                obtain ⟨ga', gc', hga, _, _, hs1, _⟩ := o1.formB
                injection hga with e1 e2 e3
                subst e1 e3
                have k1 := conv_st (cap := gc) hs1 rfl
                have k2 := conv_st (cap := gc2) hs2 rfl
                have hee : (st RR.out != st RR.out) = false := st_ne14 RR.out
                have hrr : (RR.err != RR.err) = false := by simp
                have hst := HK.out.step (m1 := RR.m) (tk' := tk') HF1.out HS1.out HN1.out f2 (by rw [hbz]; exact t2)
                have H2 : Hid (∃ tk, KN w w2 L b bm RR.m tk) := Lib.hid ⟨_, hst.1⟩
                have G2 := Lib.hid (HG.out.trans hst.2 (U := []) (by simp) (fun x hx => .inr (HK.out.lo x hx)))
                have HB2 : Hid (RR.m.busy = bz) := Lib.hid (hbz.trans HBZ.out)
                have HO2 := Lib.hid hop
                clear hst f2 t2 o1 ou2 hs1 hs2 hop hbz ho he hm e2 hcell hcell1 HTK
                generalize RR.err = er at *
                generalize RR.out = ot at *
                generalize RR.m = mr at *
                go_wp2_with fail
                go_roundw
                case rel => exact ⟨at_, bz, mr, i + 1, rfl, rfl, by go_num, hat, by omega, HB2, HO2, H2, G2⟩
                case measure => simp [intOf] <;> omega
        · go_wp2_with fail
          refine (known14 _).mono ?_
          rintro e w9 ⟨rfl, f9⟩
          go_wp2_with fail
          go_ret
          exact ⟨rfl, HG.out.then0 f9⟩
end Go.Proofs.Ytdoamelhclnphaa
