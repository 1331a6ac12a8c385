/-
  RingPeeks: what is looked at from any offset on is the part of what the buffer holds.
-/
import Derived.Test.YtpkgjgfdobcboaaRingKnown
import Derived.Test.YtpkgjgfdobcboaaStr
import Derived.Deep.QuietTactic
import Derived.BigQuiet
namespace Go.Proofs.Ytpkgjgfdobcboaa
open Go.RowKit
set_option maxRecDepth 100000

theorem cut_all (all : List UInt8) (j : Nat) (h : (all.length : Int) ≤ (j : Int) + 3) : (all.drop j).take 3 = all.drop j := List.take_of_length_le (by simp; omega)
theorem cut_three (all : List UInt8) (j : Nat) : (all.drop j).take 3 = (all.take (j + 3)).drop j := by rw [List.drop_take, Nat.add_sub_cancel_left]

set_option maxHeartbeats 4000000 in
theorem ringPeeks_main {pa : Option Addr} {pl pc : Nat} {l : List UInt8} (c : Nat) (s : Int) (w : World) (hp : Arg w w.heap.size pa pl pc l) (h1 : 1 ≤ c) (h2 : c ≤ 4096) (h3 : pl ≤ 300) (h4 : 0 ≤ s) :
    Calls Try.prog 4 #[.int .i64 c, .slice pa pl pc, .int .i64 s] w fun e w' => e = .returned (.bool true) ∧ Fr [] w w' := by
  have HN := rg_new c w h1 h2
  have hle := hp.len_eq
  subst hle
  obtain ⟨n, hn⟩ : ∃ n : Nat, n = min l.length (c - 0) := ⟨_, rfl⟩
  obtain ⟨k, hk⟩ : ∃ k : Nat, (k : Int) = min s n := ⟨(min s n).toNat, by omega⟩
  obtain ⟨m, hm⟩ : ∃ m : Nat, m = min l.length (c - (n - k)) := ⟨_, rfl⟩
  have i1 : n ≤ l.length := by omega
  have i2 : n ≤ c := by omega
  have i3 : k ≤ n := by omega
  have i4 : m ≤ l.length := by omega
  have i5 : m ≤ c - (n - k) := by omega
  have HNn := Lib.hid hn
  have HK := Lib.hid hk
  have HM := Lib.hid hm
  clear hn hk hm
  go_enter Try.func4, Try.ntmps4
  go_wp2_with fail
  refine HN.mono ?_
  rintro e w1 ⟨rfl, f1, q1⟩
  clear HN
  obtain ⟨_, _, _, _, hR, hD⟩ := q1.len_le
  have p1 := hp.keep f1 (Nat.le_refl _) (by simp)
  generalize hM0 : w.heap.size = M at *
  have hM0' : M ≤ w.heap.size := by omega
  have hM0'' : w.heap.size ≤ M := by omega
  clear hM0
  go_wp2_with fail
  refine (rg_write q1 (ps := bi l) (bi_length l).symm p1.le p1.sl (fun h0 b o e => by have := p1.old b o (by rwa [bi_length] at h0) e; omega) (by omega)).mono ?_
  rintro e w2 ⟨rfl, f2, q2⟩
  have p2 := p1.keep f2 (by have := f1.size; omega) (by simp)
  rw [show min l.length (c - ([] : List Int).length) = n from HNn.out.symm] at q2 ⊢
  rw [List.nil_append] at q2
  go_wp2_with fail
  refine (rg_skip q2 h4).mono ?_
  rintro e w3 ⟨he, f3, q3⟩
  have p3 := p2.keep f3 (by have := f1.size; have := f2.size; omega) (by simp)
  have el : ((bi l).take n).length = n := by rw [List.length_take, bi_length]; omega
  rw [el, ← HK.out] at he
  subst he
  have eq3 : ((bi l).take n).drop s.toNat = bi ((l.take n).drop k) := by
    rw [bi_drop, bi_take]
    have := HK.out
    by_cases hs : s ≤ n
    · rw [show s.toNat = k from by omega]
    · rw [List.drop_eq_nil_of_le (by rw [el]; omega), List.drop_eq_nil_of_le (by rw [el]; omega)]
  rw [eq3] at q3
  clear el eq3
  have el3 : ((l.take n).drop k).length = n - k := by simp; omega
  go_wp2_with fail
  refine (rg_write q3 (ps := bi l) (bi_length l).symm p3.le p3.sl (fun h0 b o e => by have := p3.old b o (by rwa [bi_length] at h0) e; omega) (by omega)).mono ?_
  rintro e w4 ⟨he, f4, q4⟩
  have p4 := p3.keep f4 (by have := f1.size; have := f2.size; have := f3.size; omega) (by simp)
  rw [show min l.length (c - (bi ((l.take n).drop k)).length) = m from by rw [bi_length, el3]; exact HM.out.symm] at q4 he
  subst he
  rw [← bi_take, ← bi_append] at q4
  have g4 := (((f1.trans (U := []) f2 (by simp) (by simp; omega)).trans (U := []) f3 (by simp) (by simp; omega)).trans (U := []) f4 (by simp) (by simp; omega))
  clear f1 f2 f3 f4 q1 q2 q3 p1 p2 p3
  have s1 : Sl w4 (cutp pa pc k) (bi ((l.take n).drop k)) := by
    have := cutp_sl (cap := pc) (l := k) (k := n - k) p4.sl (by rw [bi_length]; exact p4.le) (by rw [bi_length]; omega)
    rwa [← bi_drop, ← bi_take, ← List.drop_take] at this
  have hle := p4.le
  have hs0 : ∀ w, (Instr.slice 29 (.slice pa l.length pc) (some (.int .i64 k)) (some (.int .i64 n)) none).run Try.prog w = .ok (.slice (cutp pa pc k) (n - k) (pc - k)) w := fun w => run_cutp (by omega) (by omega) w
  have hc0 := conv_stN s1 el3.symm
  have s2 : Sl w4 pa (bi (l.take m)) := by
    have := cutp_sl (cap := pc) (l := 0) (k := m) p4.sl (by rw [bi_length]; exact p4.le) (by rw [bi_length]; omega)
    rw [List.drop_zero, ← bi_take] at this
    intro h0
    have h5 := this h0
    rw [bi_length, List.length_take] at h0
    unfold cutp at h5
    rw [if_neg (by omega)] at h5
    obtain ⟨b, o, e, _⟩ := p4.sl (by rw [bi_length]; omega)
    subst e
    simpa [addr_add] using h5
  have hc1 := conv_stN s2 (len := m) (by simp; omega)
  have hK := HK.out
  have hN := HNn.out
  have hMM := HM.out
  have j1 : ((c : Int) ≤ l.length ∧ ((n : Int) != (c : Int)) = false) ∨ ((l.length : Int) < c ∧ ((n : Int) != (l.length : Int)) = false) := by simp only [bne_eq_false_iff_eq]; omega
  have j2 : (s ≤ n ∧ ((k : Int) != s) = false) ∨ ((n : Int) < s ∧ ((k : Int) != (n : Int)) = false) := by simp only [bne_eq_false_iff_eq]; omega
  have j3 : ((c : Int) - n + k ≤ l.length ∧ ((m : Int) != (c : Int) - n + k) = false) ∨ ((l.length : Int) < c - n + k ∧ ((m : Int) != (l.length : Int)) = false) := by simp only [bne_eq_false_iff_eq]; omega
  clear hK hN hMM el3 s1 s2
  rcases j1 with ⟨u1, v1⟩ | ⟨u1, v1⟩ <;> rcases j2 with ⟨u2, v2⟩ | ⟨u2, v2⟩ <;> rcases j3 with ⟨u3, v3⟩ | ⟨u3, v3⟩
  all_goals
    go_wp2_with fail
    go_quiet (fail)
  all_goals
    clear v1 v2 v3 hs0 hc0 hc1 u1 u2 u3
    have g5 : Fr [] w (w4.drewN nq) := g4.drewN nq
    replace q4 : Rg (w4.drewN nq) (M + 1) M c (bi (List.drop k (List.take n l) ++ List.take m l)) := q4
    have hal : (List.drop k (List.take n l) ++ List.take m l).length ≤ 600 := by simp; omega
    have hM5 : M + 1 < (w4.drewN nq).heap.size := q4.len_le.2.2.2.2.1
    clear g4
    generalize w4.drewN nq = w5 at *
    go_wp2_with fail
    generalize List.drop k (List.take n l) ++ List.take m l = all at *
    go_loopw [15] (fun i wr => ∃ j : Nat, j ≤ all.length + 1 ∧ i = .int .i64 j ∧ Rg wr (M + 1) M c (bi all) ∧ Fr [] w wr) (fun i _ => all.length + 1 - (intOf i).toNat)
    case atStart => exact ⟨0, by omega, rfl, q4, g5⟩
    case round =>
      obtain ⟨j, hj, rfl, qr, gr⟩ := hrel
      have hjb : (j : Int) ≤ 601 := by omega
      by_cases hlt : (j : Int) ≤ all.length
      · have hj' : j ≤ all.length := by omega
        have t3 : ((j : Int) + 3).toNat = j + 3 := by omega
        have hm : (all.length : Int) ≤ (j : Int) + 3 ∨ (j : Int) + 3 < all.length := by omega
        rcases hm with hm | hm
        all_goals
          go_wp2_with fail
          refine (peeks_ok qr (all.drop j) (off := j) (most := 5000) (by omega) (by omega) (by rw [Int.toNat_natCast, ← bi_drop, ← bi_take]; exact congrArg bi (List.take_of_length_le (by have := hal; simp; omega)))).mono ?_
          rintro e w6 ⟨rfl, f6⟩
          have q6 := qr.keep f6 (by simp) (by simp)
          have g6 := gr.then0 f6
          clear f6
          go_wp2_with fail
          refine (peeks_ok q6 _ (off := j) (most := 3) (by omega) (by omega) (by rw [Int.toNat_natCast, ← bi_drop, ← bi_take]; first | exact congrArg bi (cut_all all j hm) | exact congrArg bi (cut_three all j))).mono ?_
          rintro e w7 ⟨rfl, f7⟩
          have q7 := q6.keep f7 (by simp) (by simp)
          have g7 := g6.then0 f7
          clear f7 g6 q6 qr gr
          go_wp2_with fail
          go_roundw
          case rel => exact ⟨j + 1, by omega, by go_num, q7, g7⟩
          case measure => simp [intOf]; omega
      · go_wp2_with fail
        refine (reads_ok qr all (most := 5000) (by omega) (by rw [← bi_take]; exact congrArg bi (List.take_of_length_le (by have := hal; simp; omega)))).mono ?_
        rintro e w6 ⟨rfl, f6, _⟩
        have g6 := gr.trans (U := []) f6 (by simp) (by simp; omega)
        go_wp2_with fail
        refine (known04_yes _).mono ?_
        rintro e w7 ⟨rfl, f7⟩
        go_wp2_with fail
        go_ret
        exact ⟨rfl, g6.then0 f7⟩

theorem ringPeeks_walk {c s : Int} {pa : Option Addr} {pl pc : Nat} (w : World) (h : ∃ l, Arg w w.heap.size pa pl pc l) :
    Calls Try.prog 4 #[.int .i64 c, .slice pa pl pc, .int .i64 s] w fun e w' => e = .returned (.bool true) ∧ Fr [] w w' := by
  obtain ⟨l, hp⟩ := h
  by_cases h1 : c < 1
  · go_enter Try.func4, Try.ntmps4
    go_wp2_with fail
    refine (known04_yes w).mono ?_
    rintro e w' ⟨rfl, f⟩
    go_wp2_with fail
    go_ret
    exact ⟨rfl, f⟩
  by_cases h2 : 4096 < c
  · go_enter Try.func4, Try.ntmps4
    go_wp2_with fail
    refine (known04_yes w).mono ?_
    rintro e w' ⟨rfl, f⟩
    go_wp2_with fail
    go_ret
    exact ⟨rfl, f⟩
  by_cases h3 : (300 : Int) < pl
  · go_enter Try.func4, Try.ntmps4
    go_wp2_with fail
    refine (known04_yes w).mono ?_
    rintro e w' ⟨rfl, f⟩
    go_wp2_with fail
    go_ret
    exact ⟨rfl, f⟩
  by_cases h4 : s < 0
  · go_enter Try.func4, Try.ntmps4
    go_wp2_with fail
    refine (known04_yes w).mono ?_
    rintro e w' ⟨rfl, f⟩
    go_wp2_with fail
    go_ret
    exact ⟨rfl, f⟩
  obtain ⟨c, rfl⟩ := Int.eq_ofNat_of_zero_le (a := c) (by omega)
  exact ringPeeks_main c s w hp (by omega) (by omega) (by omega) (by omega)
end Go.Proofs.Ytpkgjgfdobcboaa
