/-
  FlowDrains: after the writing end is closed the bytes in the buffer are read, in pieces, and then its error is.
-/
import Derived.Test.YtpkgjgfdobcboaaFlowSplits
namespace Go.Proofs.Ytpkgjgfdobcboaa
open Go.RowKit
set_option maxRecDepth 100000

theorem read_some {c : Nat} {T : List UInt8} {x : Int} {a p : Nat} (hp : 1 ≤ p) (ha : a < T.length) : fRead ⟨c, T.drop a, x, 0⟩ p = ⟨⟨c, T.drop (a + p), x, 0⟩, (T.drop a).take p, 0⟩ := by
  have h : T.drop a ≠ [] := by
    intro e
    have := congrArg List.length e
    rw [List.length_drop] at this
    simp at this
    omega
  unfold fRead
  rw [if_neg (by omega), if_neg (by omega), if_neg (by simp), if_pos h, Int.toNat_natCast]
  dsimp only
  rw [List.drop_drop]
theorem read_end {c : Nat} {x : Int} {p : Int} (hx : x ≠ 0) (hp : 0 < p) : fRead ⟨c, [], x, 0⟩ p = ⟨⟨c, [], x, 0⟩, [], x⟩ := by
  unfold fRead
  rw [if_neg (by omega), if_neg (by omega), if_neg (by simp), if_neg (by simp), if_pos hx]

set_option maxHeartbeats 4000000 in
theorem flowDrains_main {c p : Nat} {l : List UInt8} {x : Int} (w : World) (hc1 : 1 ≤ c) (hc2 : c ≤ 4096) (hl : l.length ≤ 400) (hp1 : 1 ≤ p) (hp2 : p ≤ 500) (hx : x ≠ 0) :
    Calls Try.prog 19 #[.int .i64 c, .string (st l), .int .i64 p, .int .i64 x] w fun e w' => e = .returned (.bool true) ∧ Fr [] w w' := by
  obtain ⟨n1, n2⟩ := ne0 hx
  have HX := Lib.hid hx
  have i1 : (1 : Int) ≤ c := by omega
  have i2 : (c : Int) ≤ 4096 := by omega
  have i3 : (l.length : Int) ≤ 400 := by omega
  have i4 : (1 : Int) ≤ p := by omega
  have i5 : (p : Int) ≤ 500 := by omega
  clear hx
  go_enter Try.func19, Try.ntmps19
  go_wp2_with fail
  refine (flow_new c w hc1 hc2).mono ?_
  rintro e w2 ⟨b, R, D, rfl, g2, hb, hR, hD, h2⟩
  have hbd := h2.bd
  obtain ⟨u1, u2, u3⟩ : b < w2.heap.size ∧ R < w2.heap.size ∧ D < w2.heap.size := ⟨by omega, by omega, by omega⟩
  clear hbd
  go_wp2_with fail
  refine (of13 (ss := [l]) (by exact SlV.lit _ _ _) rfl (by simp) (by simp; omega) (Nat.le_trans (List.length_filter_le _ _) (by simp)) (by simp [tot]; omega)).mono ?_
  rintro e w3 ⟨rv2, rfl, f3, hr3⟩
  have f3' : Fr [] w2 w3 := ((Fr.refl [] w2).alloc _).then0 f3
  have h3 := h2.keep0 f3'
  have g3 := g2.then0 f3'
  have hr3' := hr3.mono (N' := fun y => w2.heap.size ≤ y) (fun y hy => by simp at hy; omega)
  have HO := Lib.hid (flow_write h3 hr3' (by omega) (by omega))
  unfold FNPost at HO
  have e3 : (own [l]).flatten = l := by rw [own_flat]; simp
  rw [e3, write_new c l hc1] at HO
  clear h2 g2 f3 f3' hr3 hr3' e3
  go_wp2_with fail
  refine HO.out.mono ?_
  rintro e w4 ⟨rfl, f4, h4⟩
  replace h4 : Fl w4 b R D ⟨c, l.take c, 0, 0⟩ := h4
  have g4 : Fr [] w w4 := g3.trans f4 (by simp) (by simp; omega)
  clear h3 g3 f4 HO
  obtain ⟨K, hK⟩ : ∃ K, min l.length c = K := ⟨_, rfl⟩
  have hT : l.take c = l.take K := by
    rw [← hK]
    by_cases h : l.length ≤ c
    · rw [Nat.min_eq_left h, List.take_of_length_le h, List.take_of_length_le (Nat.le_refl _)]
    · rw [Nat.min_eq_right (by omega)]
  have hTl : (l.take K).length = K := by rw [List.length_take]; omega
  have hKl : K ≤ l.length := by omega
  rw [hT] at h4
  rw [hK]
  have hcl : fCloseW ⟨c, l.take K, 0, 0⟩ x = ⟨⟨c, l.take K, x, 0⟩, 0⟩ := by unfold fCloseW; rw [if_neg HX.out, if_neg (by simp)]
  have HC := Lib.hid (flow_closew h4 x)
  unfold FEPost at HC
  rw [hcl] at HC
  have hcase : ((l.length : Int) < c ∧ K = l.length) ∨ ((c : Int) ≤ l.length ∧ K = c) := by
    by_cases h : l.length < c
    · exact .inl ⟨by omega, by omega⟩
    · exact .inr ⟨by omega, by omega⟩
  have HT := Lib.hid hTl
  clear hT hTl hcl h4
  have hcase2 : ((l.length : Int) < c ∧ ((K : Int) != l.length) = false) ∨ ((c : Int) ≤ l.length ∧ ((K : Int) != c) = false) := by
    rcases hcase with ⟨q1, h⟩ | ⟨q1, h⟩
    · exact .inl ⟨q1, by rw [h]; simp⟩
    · exact .inr ⟨q1, by rw [h]; simp⟩
  have hKi : (K : Int) ≤ l.length := by omega
  clear hcase hK
  rcases hcase2 with ⟨q1, q2⟩ | ⟨q1, q2⟩
  all_goals
    go_wp2_with fail
    refine HC.out.mono ?_
    rintro e w5 ⟨rfl, f5, h5⟩
    have g5 : Fr [] w w5 := g4.trans f5 (by simp) (by simp; omega)
    clear HC g4 f5 q1 q2
    go_wp2_with fail
    go_loopw [12] (fun ia wr => ∃ at_ : Nat, ia = .int .i64 at_ ∧ at_ ≤ K + p ∧ Fl wr b R D ⟨c, (l.take K).drop at_, x, 0⟩ ∧ Fr [] w wr) (fun ia _ => K - (intOf ia).toNat)
    case atStart => exact ⟨0, rfl, by omega, h5, g5⟩
    case round =>
      obtain ⟨at_, rfl, hat, hr, gr⟩ := hrel
      clear h5 g5
      have hati : (at_ : Int) ≤ 1000 := by omega
      by_cases hlt : (at_ : Int) < K
      · have hrd := Lib.hid (reads13 hr p (((l.take K).drop at_).take p) 0 (by rw [read_some hp1 (by have := HT.out; omega)]) (by rw [read_some hp1 (by have := HT.out; omega)]))
        rw [read_some hp1 (by have := HT.out; omega)] at hrd
        have hin : ∃ hi : Int, ((at_ : Int) + p < K ∧ hi = (at_ : Int) + p ∨ (K : Int) ≤ at_ + p ∧ hi = K) ∧ ∀ w, (Instr.slice 9 (.string (st l)) (some (.int .i64 at_)) (some (.int .i64 hi)) none).run Try.prog w = .ok (.string (st (((l.take K).drop at_).take p))) w := by
          have key : ∀ (h : Nat), at_ ≤ h → h ≤ l.length → (l.take h).drop at_ = ((l.take K).drop at_).take p → ∀ w, (Instr.slice 9 (.string (st l)) (some (.int .i64 at_)) (some (.int .i64 (h : Nat))) none).run Try.prog w = .ok (.string (st (((l.take K).drop at_).take p))) w := fun h h1 h2 h3 w => by
            rw [run_slice_string (P := Try.prog) (w := w) 9 (st l) .i64 .i64 at_ h Try.underlying9 (by omega) (by omega) (by rw [st_size]; omega), st_extract]
            congr 2
            rw [Int.toNat_natCast, Int.toNat_natCast, h3]
          by_cases h : at_ + p < K
          · refine ⟨((at_ + p : Nat) : Int), .inl ⟨by omega, by omega⟩, key (at_ + p) (by omega) (by omega) ?_⟩
            rw [List.drop_take, List.drop_take, List.take_take]
            congr 1
            omega
          · refine ⟨(K : Int), .inr ⟨by omega, rfl⟩, key K (by omega) (by omega) ?_⟩
            exact (List.take_of_length_le (by rw [List.length_drop, List.length_take]; omega)).symm
        obtain ⟨hi, hin, hrun⟩ := hin
        clear hr
        rcases hin with ⟨q1, rfl⟩ | ⟨q1, rfl⟩
        all_goals
          go_wp2_with fail
          refine hrd.out.mono ?_
          rintro e w6 ⟨rfl, f6, h6⟩
          replace h6 : Fl w6 b R D ⟨c, (l.take K).drop (at_ + p), x, 0⟩ := h6
          have g6 : Fr [] w w6 := gr.trans f6 (by simp) (by simp; omega)
          clear hrd hrun gr f6
          go_wp2_with fail
          go_roundw
          case rel => exact ⟨at_ + p, by go_num, by omega, h6, g6⟩
          case measure => simp [intOf]; omega
      · have hd : (l.take K).drop at_ = [] := List.drop_eq_nil_of_le (by have := HT.out; omega)
        rw [hd] at hr
        clear hd
        have r1 := Lib.hid (reads13 hr 1 [] x (by rw [read_end HX.out (by omega)]) (by rw [read_end HX.out (by omega)]))
        rw [read_end HX.out (by omega)] at r1
        have r2 := Lib.hid fun (w' : World) (k' : Fl w' b R D ⟨c, [], x, 0⟩) => reads13 k' p [] x (by rw [read_end HX.out (by omega)]) (by rw [read_end HX.out (by omega)])
        clear hr
        go_wp2_with fail
        refine r1.out.mono ?_
        rintro e w6 ⟨rfl, f6, h6⟩
        have g6 : Fr [] w w6 := gr.trans f6 (by simp) (by simp; omega)
        clear r1 gr f6
        go_wp2_with fail
        refine (r2.out _ h6).mono ?_
        rintro e w7 ⟨rfl, f7, h7⟩
        rw [read_end HX.out (by omega)] at h7
        have g7 : Fr [] w w7 := g6.trans f7 (by simp) (by simp; omega)
        clear r2 g6 f7 h6
        go_wp2_with fail
        refine (reads13 h7 0 [] 0 rfl rfl).mono ?_
        rintro e w8 ⟨rfl, f8, h8⟩
        have g8 : Fr [] w w8 := g7.trans f8 (by simp) (by simp; omega)
        clear h7 g7 f8 h8
        go_wp2_with fail
        refine (known13 _).mono ?_
        rintro e w99 ⟨rfl, f99⟩
        go_wp2_with fail
        go_ret
        exact ⟨rfl, g8.then0 f99⟩

theorem flowDrains_walk (cap : Int) (s : ByteArray) (pc x : Int) (hs : s.size ≤ maxLen) (w : World) :
    Calls Try.prog 19 #[.int .i64 cap, .string s, .int .i64 pc, .int .i64 x] w fun e w' => e = .returned (.bool true) ∧ Fr [] w w' := by
  obtain ⟨l, rfl⟩ := st_of s
  rw [st_size] at hs
  unfold maxLen at hs
  have hsi : (l.length : Int) ≤ 9223372036854775807 := by omega
  clear hs
  by_cases h1 : cap < 1
  · go_enter Try.func19, Try.ntmps19
    go_wp2_with fail
    refine (known13 _).mono ?_
    rintro e w' ⟨rfl, f⟩
    go_wp2_with fail
    go_ret
    exact ⟨rfl, f⟩
  have h1' : 1 ≤ cap := by omega
  clear h1
  by_cases h2 : 4096 < cap
  · go_enter Try.func19, Try.ntmps19
    go_wp2_with fail
    refine (known13 _).mono ?_
    rintro e w' ⟨rfl, f⟩
    go_wp2_with fail
    go_ret
    exact ⟨rfl, f⟩
  have h2' : cap ≤ 4096 := by omega
  clear h2
  by_cases h3 : (400 : Int) < l.length
  · go_enter Try.func19, Try.ntmps19
    go_wp2_with fail
    refine (known13 _).mono ?_
    rintro e w' ⟨rfl, f⟩
    go_wp2_with fail
    go_ret
    exact ⟨rfl, f⟩
  have h3' : (l.length : Int) ≤ 400 := by omega
  clear h3 hsi
  by_cases h4 : pc < 1
  · go_enter Try.func19, Try.ntmps19
    go_wp2_with fail
    refine (known13 _).mono ?_
    rintro e w' ⟨rfl, f⟩
    go_wp2_with fail
    go_ret
    exact ⟨rfl, f⟩
  have h4' : 1 ≤ pc := by omega
  clear h4
  by_cases h5 : 500 < pc
  · go_enter Try.func19, Try.ntmps19
    go_wp2_with fail
    refine (known13 _).mono ?_
    rintro e w' ⟨rfl, f⟩
    go_wp2_with fail
    go_ret
    exact ⟨rfl, f⟩
  have h5' : pc ≤ 500 := by omega
  clear h5
  by_cases h6 : x = 0
  · subst h6
    go_enter Try.func19, Try.ntmps19
    go_wp2_with fail
    refine (known13 _).mono ?_
    rintro e w' ⟨rfl, f⟩
    go_wp2_with fail
    go_ret
    exact ⟨rfl, f⟩
  obtain ⟨c, rfl⟩ := Int.eq_ofNat_of_zero_le (show 0 ≤ cap by omega)
  obtain ⟨p, rfl⟩ := Int.eq_ofNat_of_zero_le (show 0 ≤ pc by omega)
  exact flowDrains_main w (by omega) (by omega) (by omega) (by omega) (by omega) h6
end Go.Proofs.Ytpkgjgfdobcboaa
