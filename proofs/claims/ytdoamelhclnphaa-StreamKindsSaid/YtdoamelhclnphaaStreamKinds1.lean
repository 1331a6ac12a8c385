/-
  Law 14: StreamKinds, with a capacity.
-/
import Derived.Test.YtdoamelhclnphaaFeed14
import Derived.Test.YtdoamelhclnphaaKnown14
import Derived.Test.YtdoamelhclnphaaActs14
import Derived.Lib.MinMax
namespace Go.Proofs.Ytdoamelhclnphaa
open Go.RowKit
set_option maxRecDepth 100000

set_option maxHeartbeats 40000000 in
theorem streamKinds_1 {c : Nat} {wa ra : Option Addr} {wc rc : Nat} {Wr : Parts} {Rd : List UInt8} (w : World) (hc1 : 1 ≤ c) (hc : c ≤ 100) (hW : PArg w w.heap.size wa Wr.length wc Wr) (hR : Arg w w.heap.size ra Rd.length rc Rd) (hwl : Wr.length ≤ 10) (hrl : Rd.length ≤ 30) :
    Calls Try.prog 10 #[.int .u8 c, .slice wa Wr.length wc, .slice ra Rd.length rc] w fun e w' => e = .returned (.bool true) ∧ Fr [] w w' := by
  have hwl' : (Wr.length : Int) ≤ 10 := by omega
  have hrl' : (Rd.length : Int) ≤ 30 := by omega
  have HWN := Lib.hid fun w' (f : Fr [] w w') => hW.keep f (by simp)
  have HRN := Lib.hid fun w' (f : Fr [] w w') => hR.keep f (Nat.le_refl _) (by simp)
  have hc' : (c : Int) ≤ 100 := by omega
  have hc1' : (1 : Int) ≤ c := by omega
  have hwc : IntKind.i64.wrap (c : Int) = c := IntWalk.i64_in _ (by omega)
  clear hW hR
  go_enter Try.func10, Try.ntmps10
  go_wp2_with fail
  go_loop [7] (fun i => ∃ k : Nat, k ≤ Wr.length ∧ i = .int .i64 k ∧ Hid (∀ j (h : j < Wr.length), j < k → Wr[j].length ≤ 200)) (fun i => Wr.length - (intOf i).toNat)
  case atStart => exact ⟨0, by omega, rfl, Lib.hid (fun j _ h => by omega)⟩
  case round =>
    obtain ⟨k, hk, rfl, HK⟩ := hrel
    by_cases hlt : (k : Int) < Wr.length
    · have hlt' : k < Wr.length := by omega
      obtain ⟨b, o, ak, ck, rfl, _, hcell, hc9, hc8, _⟩ := ((HWN.out _ (Fr.refl _ _)).at_).at_ hlt'
      have hxm : Wr[k].length ≤ maxLen := by omega
      have HNX := Lib.hid (fun (h2 : Wr[k].length ≤ 200) j (hj : j < Wr.length) (hjk : j < k + 1) => (show Wr[j].length ≤ 200 from by
        rcases Nat.lt_succ_iff_lt_or_eq.1 hjk with h | h
        · exact HK.out j hj h
        · subst h; exact h2))
      generalize Wr[k].length = x at hcell HNX hc9 hxm
      unfold maxLen at hxm
      have hxi : (x : Int) ≤ 9223372036854775807 := by omega
      clear hc9 hc8 hxm
      by_cases hx : (x : Int) ≤ 200
      · go_wp2_with fail
        go_round
        case rel => exact ⟨k + 1, by omega, by go_num, Lib.hid (HNX.out (by omega))⟩
        case measure => simp [intOf] <;> omega
      · go_wp2_with fail
        refine (known14 _).mono ?_
        rintro e w9 ⟨rfl, f9⟩
        go_wp2_with fail
        go_ret
        exact ⟨rfl, f9⟩
    · skip
      have hke : k = Wr.length := by omega
      have HALL : Hid (∀ j (h : j < Wr.length), Wr[j].length ≤ 200) := Lib.hid fun j h => HK.out j h (by omega)
      clear HK
      subst hke
      have HST := Lib.hid (st_new (c : Int) w (by omega) (by omega))
      go_wp2_with fail
      refine HST.out.mono ?_
      rintro e w1 ⟨b, L, rfl, f1, hb0, hb1, hL, s1⟩
      clear HST
      obtain ⟨bm, hbm⟩ : ∃ x, x = w1.heap.size := ⟨_, rfl⟩
      have HMN := Lib.hid (meet_newN w1)
      rw [← hbm] at HMN
      have HBM := Lib.hid hbm
      have HB0 := Lib.hid (And.intro hb0 (And.intro hb1 hL))
      have HS1 := Lib.hid s1
      have HF1 := Lib.hid f1
      clear hbm hb0 hb1 hL s1 f1
      go_wp2_with fail
      refine HMN.out.mono ?_
      rintro e w2 ⟨rfl, f2, hz2, m2⟩
      have HF2 := Lib.hid f2
      have HM2 := Lib.hid m2
      have HZ2 := Lib.hid hz2
      clear f2 m2 hz2 HMN
      have hmx : max (1 : Int) (c : Int) = ((c : Nat) : Int) := by omega
      have HFN := Lib.hid (flow_new c w2 (by omega) (by omega))
      go_wp2_with fail
      refine HFN.out.mono ?_
      rintro e w3 ⟨bf, R, D, rfl, f3, hbf, hR, hD, l3⟩
      obtain ⟨bx, hbx⟩ : ∃ x, x = w3.heap.size := ⟨_, rfl⟩
      obtain ⟨w4, hw4, f4, q4⟩ : ∃ W, w3.alloc (.cells #[.slice none 0 0, .int .i64 0] 57) = W ∧ Fr [] w3 W ∧ W.heap[bx]? = some (.cells #[.slice none 0 0, .int .i64 0] 57 (0, 0)) := ⟨_, rfl, (Fr.refl _ _).alloc _, newA hbx⟩
      have hb0 := HB0.out.1
      have hb1 := HB0.out.2.1
      have hL := HB0.out.2.2
      have hbm := HBM.out
      have hz2 := HZ2.out
      have hz3 := f3.size
      obtain ⟨_, _, _, hl1, hl2, hl3, _⟩ := l3.bd
      have f14 := (HF2.out.then0 f3).then0 f4
      have G4 := Lib.hid (HF1.out.then0 f14)
      have hnl : ∀ y, w1.heap.size ≤ y → y ∉ b :: L := fun y hy hm => by simp only [List.mem_cons] at hm; rcases hm with hm | hm; omega; have := hL y hm; omega
      have hk : KC w w4 L b bf R D bx c (newM c) := ⟨(HS1.out.keep0 f14).wide (fun x h => h.elim) (fun h => h (by simp)) (fun x hx h => h (by simp [hx])), l3.keep0 f4, ⟨none, 0, [], q4, Rp.none_ _ _, rfl⟩,
        fun x hx => by simp only [List.mem_cons] at hx; have := HF1.out.size; rcases hx with hx | hx | hx | hx | hx | hx; omega; omega; omega; omega; omega; have := hL x hx; omega,
        hnl _ (by omega), hnl _ (by omega), hnl _ (by omega), hnl _ (by omega), fun hm => by simp only [List.mem_cons, List.not_mem_nil, or_false] at hm; omega⟩
      have H4 : Hid (KC w w4 L b bf R D bx c (newM c)) := Lib.hid hk
      clear hk hb0 hb1 hL hbm hz2 hz3 hl1 hl2 hl3 f14 f3 f4 q4 l3 hbf hR hD HB0 HBM HS1 HF1 HF2 HM2 HZ2 HFN hmx hnl
      go_wp2_with fail
      try rw [hw4]
      try rw [← hbx]
      clear hw4 hbx
      go_loopw [12, 13, 15] (fun va vb vi wr => ∃ (at_ : Nat) (bz : Bool) (m : SM) (i : Nat), va = .int .i64 at_ ∧ vb = .bool bz ∧ vi = .int .i64 i ∧ at_ ≤ Wr.length ∧ i ≤ Rd.length + 1 ∧ Hid (m.busy = bz) ∧ Hid (OpK c m) ∧ Hid (KC w wr L b bf R D bx c m) ∧ Hid (Fr [] w wr)) (fun _ _ vi _ => Rd.length + 1 - (intOf vi).toNat)
      case atStart => exact ⟨0, false, newM c, 0, rfl, rfl, rfl, by omega, by omega, Lib.hid rfl, Lib.hid (OpK.new (by omega)), H4, G4⟩
      case round =>
        clear H4 G4
        obtain ⟨at_, bz, m, i, rfl, rfl, rfl, hat, hir, HBZ, HO, HX, HG⟩ := hrel
        rename World => wr
        by_cases hlt : (i : Int) ≤ Rd.length
        · go_upto_block 4 with fail
          go_cut [12, 13] (fun va vb wx => ∃ (at_ : Nat) (bz : Bool) (m : SM), va = .int .i64 at_ ∧ vb = .bool bz ∧ at_ ≤ Wr.length ∧ Hid (m.busy = bz) ∧ Hid (OpK c m) ∧ Hid (KC w wx L b bf R D bx c m) ∧ Hid (Fr [] w wx))
          case first =>
            as_aux_lemma =>
              go_wp2_with fail
              go_loopw [12, 13] (fun va vb wq => ∃ (at_ : Nat) (bz : Bool) (m : SM), va = .int .i64 at_ ∧ vb = .bool bz ∧ at_ ≤ Wr.length ∧ Hid (m.busy = bz) ∧ Hid (OpK c m) ∧ Hid (KC w wq L b bf R D bx c m) ∧ Hid (Fr [] w wq)) (fun va _ _ => Wr.length - (intOf va).toNat)
              case atStart => exact ⟨at_, bz, m, rfl, rfl, hat, HBZ, HO, HX, HG⟩
              case round =>
                clear HBZ HO HX HG hat
                obtain ⟨at_, bz, m, rfl, rfl, hat, HBZ, HO, HX, HG⟩ := hrel
                rename World => wq
                go_upto_if 92 with fail
                go_cut [13] (fun vb wy => ∃ m : SM, vb = .bool false ∧ Hid (m.busy = false) ∧ Hid (OpK c m) ∧ Hid (KC w wy L b bf R D bx c m) ∧ Hid (Fr [] w wy))
                case first =>
                  as_aux_lemma =>
                    cases bz with
                    | false =>
                      go_wp2_with fail
                      go_meet
                      exact ⟨m, rfl, HBZ, HO, HX, HG⟩
                    | true =>
                      by_cases hr : m.rest = []
                      rotate_left
                      · have HPG := Lib.hid (by have h := st_progress HX.out.s; rw [HO.out.atEnd HBZ.out, show m.rest.isEmpty = false from by simpa using hr] at h; exact h : Calls Try.prog 31 #[.pointer (some ⟨b, 0, none⟩)] wq fun e w' => e = .returned (.tuple #[.int .i64 m.acc, .bool false]) ∧ Fr [] wq w')
                        clear hr
                        go_wp2_with fail
                        refine HPG.out.mono ?_
                        rintro e w1 ⟨rfl, f1⟩
                        have H1 : Hid (KC w w1 L b bf R D bx c m) := Lib.hid (HX.out.keep0 f1)
                        have G1 := Lib.hid (HG.out.then0 f1)
                        clear f1 HPG
                        go_wp2_with fail
                        go_meet
                        exact ⟨at_, true, m, rfl, rfl, hat, HBZ, HO, H1, G1⟩
                      · have HPG := Lib.hid (by have h := st_progress HX.out.s; rw [HO.out.atEnd HBZ.out, show m.rest.isEmpty = true from by simpa using hr] at h; exact h : Calls Try.prog 31 #[.pointer (some ⟨b, 0, none⟩)] wq fun e w' => e = .returned (.tuple #[.int .i64 m.acc, .bool true]) ∧ Fr [] wq w')
                        have HE := Lib.hid (HO.out.end_ HBZ.out hr)
                        have HEN := Lib.hid fun w1 (f : Fr [] wq w1) => (by have h := st_end (HX.out.s.keep0 f); rw [HE.out.1] at h; exact h : Calls Try.prog 33 #[.pointer (some ⟨b, 0, none⟩)] w1 (EndPost w1 (fun x => x ∉ bx :: bf :: R :: D :: b :: L) L b ⟨stopM m, m.acc, 0⟩))
                        have HR := Lib.hid hr
                        clear hr
                        go_wp2_with fail
                        refine HPG.out.mono ?_
                        rintro e w1 ⟨rfl, f1⟩
                        go_wp2_with fail
                        refine (HEN.out _ f1).mono ?_
                        rintro e w2 ⟨rfl, f2, s2⟩
                        dsimp only at s2
                        have f12 : Fr (b :: L) wq w2 := f1.trans f2 (by simp) (fun x hx => .inl (by simp at hx; simp [hx]))
                        obtain ⟨l2, x2⟩ := HX.out.rest f12
                        obtain ⟨xa, xc, P, q2, r2, e2⟩ := id x2
                        have y0 : w2.cell? ⟨bx, 0, none⟩ = some (.slice xa P.length xc) := cell_of q2
                        have y1 : w2.cell? ⟨bx, 1, none⟩ = some (.int .i64 (tot P)) := cell_of q2
                        have ht0 : tot P = 0 := (tot_flat P).1 (e2.trans HR.out)
                        have htz : ((tot P : Int) != 0) = false := by rw [ht0]; rfl
                        have HLN := Lib.hid (rope_len r2)
                        have HS2 := Lib.hid s2
                        have HF12 := Lib.hid f12
                        have HL2 := Lib.hid (And.intro l2 x2)
                        clear l2 x2 q2 r2 e2 ht0 s2 f12 f1 f2 HPG HEN
                        go_wp2_with fail
                        refine HLN.out.mono ?_
                        rintro e w3 ⟨rfl, f3⟩
                        have hst := HX.out.step (m1 := stopM m) HF12.out HS2.out (fun x hx => hx) (f3.mono (by simp)) (HL2.out.1.keep0 f3) (by have h := HL2.out.2.keep0 f3; rw [HR.out] at h; exact h)
                        have H3 : Hid (KC w w3 L b bf R D bx c (stopM m)) := Lib.hid hst.1
                        have G3 := Lib.hid (HG.out.trans hst.2 (U := []) (by simp) (fun x hx => .inr (HX.out.lo x hx)))
                        clear hst f3 y0 y1 HLN
                        go_wp2_with fail
                        go_meet
                        exact ⟨stopM m, rfl, Lib.hid rfl, Lib.hid HE.out.2, H3, G3⟩
                case rest =>
                  clear HBZ HO HX HG
                  obtain ⟨m, rfl, HBZ, HO, HX, HG⟩ := hcut
                  rename World => wq
                  by_cases hlast : at_ = Wr.length
                  · subst hlast
                    go_wp2_with fail
                    go_meet
                    exact ⟨Wr.length, false, m, rfl, rfl, Nat.le_refl _, HBZ, HO, HX, HG⟩
                  · have hat' : at_ < Wr.length := by omega
                    have hne : ((at_ : Int) == (Wr.length : Int)) = false := by rw [beq_eq_false_iff_ne]; omega
                    have hat2 : (at_ : Int) < Wr.length := by omega
                    have hat3 : (Wr.length : Int) ≤ 10 := by omega
                    obtain ⟨pb, po, pk, pcap, rfl, hpb, hcell, g1, g2, g3, g4⟩ := ((HWN.out _ HG.out).at_).at_ hat'
                    have hx200 := HALL.out at_ hat'
                    generalize Wr[at_] = x at hcell g1 g2 g3 g4 hx200
                    have pv : PartV wq (fun b => b < w.heap.size) (.slice pk x.length pcap) x := ⟨pk, pcap, rfl, g1, g2, g3, g4⟩
                    obtain ⟨w1, hw1, f1, q1⟩ : ∃ W, wq.alloc (.cells #[.slice pk x.length pcap] 29) = W ∧ Fr [] wq W ∧ W.heap[wq.heap.size]? = some (.cells #[.slice pk x.length pcap] 29 (0, 0)) := ⟨_, rfl, (Fr.refl _ _).alloc _, newA rfl⟩
                    have HN := Lib.hid (rope_new (cap := 1) (len := 1) (parts_single q1 (pv.keep f1 (by simp))) rfl (by unfold maxLen; omega))
                    have HX200 := Lib.hid hx200
                    have HF1 := Lib.hid f1
                    have hz1 := f1.size
                    clear pv q1 g1 g2 g3 g4 hx200 f1 hlast
                    go_wp2_with fail
                    refine HN.out.mono ?_
                    rintro e w2 ⟨f2, he⟩
                    rw [if_neg (by have := (own_single x).1; omega), if_neg (by have := HX200.out; simp [tot]; omega)] at he
                    obtain ⟨v, rfl, hr⟩ := he
                    have hfl := (own_single x).2
                    generalize own [x] = Q at *
                    obtain ⟨ra2, rc2, rfl, _⟩ := id hr
                    obtain ⟨w3, hw3, f3, q3⟩ : ∃ W, w2.alloc (.cells #[.slice ra2 Q.length rc2, .int .i64 (tot Q)] 57) = W ∧ Fr [] w2 W ∧ W.heap[w2.heap.size]? = some (.cells #[.slice ra2 Q.length rc2, .int .i64 (tot Q)] 57 (0, 0)) := ⟨_, rfl, (Fr.refl _ _).alloc _, newA rfl⟩
                    have x0 : w3.cell? ⟨w2.heap.size, 0, none⟩ = some (.slice ra2 Q.length rc2) := cell_of q3
                    have x1 : w3.cell? ⟨w2.heap.size, 1, none⟩ = some (.int .i64 (tot Q)) := cell_of q3
                    have hz2 := f2.size
                    have F13 := (HF1.out.then0 f2).then0 f3
                    have hk := HX.out
                    have hhi := hk.hi
                    have hr3 : Rp w3 (fun x => w1.heap.size ≤ x) (.agg #[.slice ra2 Q.length rc2, .int .i64 (tot Q)]) Q := hr.keep f3 (by simp)
                    have HBG := Lib.hid (HO.out.begin_ HBZ.out (x := x) (by have := HX200.out; omega))
                    have HB := Lib.hid (st_begin (hk.s.keep0 F13) hr3 (fun h => by have := hhi b (by simp); omega) (fun y hy h => by have := hhi y (by simp [hy]); omega))
                    rw [hfl] at HB
                    unfold BeginPost at HB
                    rw [HBG.out.1] at HB
                    have HHI := Lib.hid hhi
                    have HK := Lib.hid hk
                    have HF13 := Lib.hid F13
                    have HR3 := Lib.hid hr3
                    have HQ3 := Lib.hid q3
                    have HFL := Lib.hid hfl
                    have hb2 := lt_of_heap q3
                    clear HN hr f2 f3 q3 F13 hhi hk hr3 hfl hw1
                    go_wp2_with fail
                    refine HB.out.mono ?_
                    rintro e w4 ⟨rfl, f4, s4⟩
                    have hN4 : ∀ y, ((fun y => y ∉ bx :: bf :: R :: D :: b :: L) y ∨ w1.heap.size ≤ y ∨ w3.heap.size ≤ y) → y ∉ bx :: bf :: R :: D :: b :: L := fun y hy hm => by
                      have := HHI.out y hm
                      have := HF13.out.size
                      rcases hy with hy | hy | hy
                      · exact hy hm
                      · omega
                      · omega
                    have hX4 : ∀ y ∈ b :: L, y ∈ bx :: bf :: R :: D :: b :: L := fun y hy => by simp at hy; rcases hy with hy | hy <;> simp [hy]
                    have fq4 : Fr (b :: L) wq w4 := HF13.out.trans f4 (by simp) (fun y hy => .inl hy)
                    have r4 : Rp w4 (fun y => y ∉ bx :: bf :: R :: D :: b :: L) (.agg #[.slice ra2 Q.length rc2, .int .i64 (tot Q)]) Q := (HR3.out.keep f4 (fun y hy h => by have := HHI.out y (hX4 y hy); omega)).mono (fun y hy => hN4 y (.inr (.inl hy)))
                    have q4 := f4.keep HQ3.out (fun hm => by have := HHI.out _ (hX4 _ hm); have := HF13.out.size; omega)
                    have y0 : w4.cell? ⟨w2.heap.size, 0, none⟩ = some (.slice ra2 Q.length rc2) := cell_of q4
                    have y1 : w4.cell? ⟨w2.heap.size, 1, none⟩ = some (.int .i64 (tot Q)) := cell_of q4
                    have hwa : IntKind.i64.wrap ((at_ : Int) + 1) = at_ + 1 := IntWalk.i64_in _ (by omega)
                    obtain ⟨l4, x4⟩ := HK.out.rest fq4
                    obtain ⟨xa, xc, P, q5, _, _⟩ := x4
                    obtain ⟨w5, hw5⟩ : ∃ W, (w4.setCell ⟨bx, 0, none⟩ (.slice ra2 Q.length rc2)).setCell ⟨bx, 1, none⟩ (.int .i64 (tot Q)) = W := ⟨_, rfl⟩
                    have hq5 : w5.heap[bx]? = some (.cells #[.slice ra2 Q.length rc2, .int .i64 (tot Q)] 57 (0, 0)) := by rw [← hw5]; exact two_set q5
                    have f5 : Fr [bx] w4 w5 := by rw [← hw5]; exact ((Fr.refl _ _).setCell (.inl (by simp)) _).setCell (.inl (by simp)) _
                    have hl5 := l4.keep f5 (by simpa using fun h => HK.out.n4 (by simp [h])) (by simpa using fun h => HK.out.n4 (by simp [h])) (by simpa using fun h => HK.out.n4 (by simp [h]))
                    have bx5 : Bx w5 (fun y => y ∉ bx :: bf :: R :: D :: b :: L) bx x := ⟨ra2, rc2, Q, hq5, r4.keep f5 (fun y hy h => h (by simp at hy; simp [hy])), HFL.out⟩
                    have HFD := Lib.hid (feed14 hl5 bx5 (fun h => h (by simp)) (fun h => h (by simp)) (fun h => h (by simp)) HK.out.n4 (fun y hy hm => by have := HHI.out y hm; have := HF13.out.size; have := f4.size; have := f5.size; omega))
                    have b0 := free_of (i := 0) q5
                    have b1 := free_of (i := 1) q5
                    have c0 : w4.cell? ⟨bx, 0, none⟩ = some (.slice xa P.length xc) := cell_of q5
                    have c1 : w4.cell? ⟨bx, 1, none⟩ = some (.int .i64 (tot P)) := cell_of q5
                    have HS4 := Lib.hid s4
                    have HN4 := Lib.hid hN4
                    have HF4 := Lib.hid fq4
                    have HF5 := Lib.hid f5
                    have hcz : ((c : Int) == 0) = false := by rw [beq_eq_false_iff_ne]; omega
                    clear x0 x1 l4 r4 q4 q5 s4 hN4 fq4 hX4 f4 HB hq5 f5 hl5 bx5
                    go_wp2_with fail
                    try rw [hw5]
                    refine HFD.out.mono ?_
                    rintro e w6 ⟨rfl, f6, l6, x6⟩
                    have hst := HK.out.step (m1 := (beginM m x).m) HF4.out HS4.out HN4.out (HF5.out.trans f6 (fun y hy => .inl (by simp at hy; simp [hy])) (fun y hy => .inl hy)) (by rw [HBG.out.2.2.2.1]; exact l6) (by rw [HBG.out.2.2.2.2]; exact x6)
                    have H6 : Hid (KC w w6 L b bf R D bx c (beginM m x).m) := Lib.hid hst.1
                    have G6 := Lib.hid (HG.out.trans hst.2 (U := []) (by simp) (fun x hx => .inr (HK.out.lo x hx)))
                    clear hst f6 l6 x6 y0 y1 b0 b1 c0 c1 HFD hw5
                    go_wp2_with fail
                    go_roundw
                    case rel => exact ⟨at_ + 1, true, (beginM m x).m, by go_num, rfl, by omega, Lib.hid HBG.out.2.2.1, Lib.hid HBG.out.2.1, H6, G6⟩
                    case measure => simp [intOf] <;> omega
          case rest =>
            clear HBZ HO HX HG hat
            obtain ⟨at_, bz, m, rfl, rfl, hat, HBZ, HO, HX, HG⟩ := hcut
            rename World => wx
            by_cases hi : i = Rd.length
            · subst hi
              have hil : ((Rd.length : Int) == (Rd.length : Int)) = true := beq_self_eq_true _
              go_wp2_with fail
              go_roundw
              case rel => exact ⟨at_, bz, m, Rd.length + 1, rfl, rfl, by go_num, hat, by omega, HBZ, HO, HX, HG⟩
              case measure => simp [intOf] <;> omega
            · have hi' : i < Rd.length := by omega
              have hil : ((i : Int) == (Rd.length : Int)) = false := by rw [beq_eq_false_iff_ne]; omega
              have hi2 : (i : Int) < Rd.length := by omega
              obtain ⟨rb, ro, rfl, hrb, hrc⟩ := (HRN.out _ HG.out).sl (by rw [bi_length]; omega)
              have hold := (HRN.out _ HG.out).old rb ro (by omega) rfl
              have hcell := hrc i (by rw [bi_length]; exact hi')
              rw [bi_getD Rd _ hi'] at hcell
              have hq := Rd[i].toNat_lt
              generalize Rd[i].toNat = q at hcell hq
              clear hrc
              by_cases hq0 : q = 0
              · subst hq0
                go_wp2_with fail
                go_roundw
                case rel => exact ⟨at_, bz, m, i + 1, rfl, rfl, by go_num, hat, by omega, HBZ, HO, HX, HG⟩
                case measure => simp [intOf] <;> omega
              · have hqz : ((q : Int) == 0) = false := by rw [beq_eq_false_iff_ne]; omega
                have hq2 : (q : Int) < 256 := by omega
                have hwq : IntKind.i64.wrap (q : Int) = q := IntWalk.i64_in _ (by omega)
                have hqi : (1 : Int) ≤ q := by omega
                have hqj : (q : Int) ≤ 255 := by omega
                have hk := HX.out
                have HRD := Lib.hid (HO.out.read1 hc1 hqi hqj)
                have HRE := Lib.hid (st_read hk.s (q : Int))
                have HK := Lib.hid hk
                have HHI := Lib.hid hk.hi
                clear hk hqi hqj
                obtain ⟨RR, hRR⟩ : ∃ r, readM m (q : Int) = r := ⟨_, rfl⟩
                rw [hRR] at HRD HRE
                clear hRR
                go_wp2_with fail
                refine HRE.out.mono ?_
                rintro e w1 ⟨u, rfl, f1, ou, N', hN', s1⟩
                obtain ⟨ga, gc, rfl, _, _, hs1, hgn⟩ := ou.formB
                have hX1 : ∀ y ∈ b :: L, y ∈ bx :: bf :: R :: D :: b :: L := fun y hy => by simp at hy; rcases hy with hy | hy <;> simp [hy]
                have hlo1 : ∀ y ∈ bx :: bf :: R :: D :: b :: L, y ≠ rb := fun y hy e => by have := HK.out.lo y hy; omega
                have hcell1 := (World.cell?_of_block (w := wx) (f1.block rb hrb (fun hm => hlo1 _ (hX1 _ hm) rfl))).trans hcell
                have hz1 := f1.size
                have hN1 : ∀ y, N' y → y ∉ bx :: bf :: R :: D :: b :: L := fun y hy hm => by
                  rcases (hN' y hy).1 with h | h
                  · exact h hm
                  · have := HHI.out y hm; omega
                obtain ⟨l1, x1⟩ := HK.out.rest f1
                have HTK := Lib.hid (flow_read l1 (q : Int))
                have HOU := Lib.hid ou
                have HS1 := Lib.hid s1
                have HN1 := Lib.hid hN1
                have HF1 := Lib.hid f1
                have HGN := Lib.hid hgn
                have HX1 := Lib.hid x1
                have hcz : ((c : Int) == 0) = false := by rw [beq_eq_false_iff_ne]; omega
                clear l1 x1 ou s1 hN' hN1 f1 hX1 hlo1 HRE hgn hs1
                go_wp2_with fail
                refine HTK.out.mono ?_
                rintro e w2 ⟨u2, rfl, f2, ou2, l2⟩
                obtain ⟨hop, hbz, ho, he, s, hm, hsc, hqq, hrs⟩ := HRD.out
                rw [ho] at ou2
                rw [he]
                rw [hm] at l2
                have hRD : ∀ y ∈ [R, D], y ∈ bx :: bf :: R :: D :: b :: L := fun y hy => by simp at hy; rcases hy with rfl | rfl <;> simp
                have o1 := HOU.out.keep f2 (fun k e hm => by have := (HOU.out.lt k e).1; have := HHI.out k (hRD k hm); omega)
                obtain ⟨ga2, gc2, rfl, _, _, hs2, _⟩ := ou2.formB
                obtain ⟨ga', gc', hga, _, _, hs1, _⟩ := o1.formB
                injection hga with e1 e2 e3
                subst e1 e3
                have k1 := conv_st (cap := gc) hs1 rfl
                have k2 := conv_st (cap := gc2) hs2 rfl
                have hee : (st RR.out != st RR.out) = false := st_ne14 RR.out
                have hrr : (RR.err != RR.err) = false := by simp
                have x2 := HX1.out.keep f2 (fun hm => HK.out.n4 (by simp at hm; rcases hm with h | h <;> simp [h])) (fun y hy h => h (hRD y hy))
                have HFD := Lib.hid (feed14 l2 x2 (fun h => h (by simp)) (fun h => h (by simp)) (fun h => h (by simp)) HK.out.n4 (fun y hy hm => by have := HHI.out y hm; have := HF1.out.size; have := f2.size; omega))
                have HF2 := Lib.hid f2
                have HB2 : Hid (RR.m.busy = bz) := Lib.hid (hbz.trans HBZ.out)
                have HO2 := Lib.hid hop
                have HQR := Lib.hid (And.intro hqq hrs)
                clear f2 l2 x2 o1 ou2 hs1 hs2 hop hbz ho he hm hsc hqq hrs e2 hcell hcell1 HTK HX1
                generalize RR.err = er at *
                generalize RR.out = ot at *
                generalize RR.m = mr at *
                go_wp2_with fail
                refine HFD.out.mono ?_
                rintro e w3 ⟨rfl, f3, l3, x3⟩
                have hst := HK.out.step (m1 := mr) HF1.out HS1.out HN1.out (HF2.out.trans f3 (fun y hy => .inl (by simp at hy ⊢; rcases hy with h | h <;> simp [h])) (fun y hy => .inl hy)) (by rw [HQR.out.1]; exact l3) (by rw [HQR.out.2]; exact x3)
                have H3 : Hid (KC w w3 L b bf R D bx c mr) := Lib.hid hst.1
                have G3 := Lib.hid (HG.out.trans hst.2 (U := []) (by simp) (fun x hx => .inr (HK.out.lo x hx)))
                clear hst f3 l3 x3 HFD
                go_wp2_with fail
                go_roundw
                case rel => exact ⟨at_, bz, mr, i + 1, rfl, rfl, by go_num, hat, by omega, HB2, HO2, H3, G3⟩
                case measure => simp [intOf] <;> omega
        · go_wp2_with fail
          refine (known14 _).mono ?_
          rintro e w9 ⟨rfl, f9⟩
          go_wp2_with fail
          go_ret
          exact ⟨rfl, HG.out.then0 f9⟩
end Go.Proofs.Ytdoamelhclnphaa
