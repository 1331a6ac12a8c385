/-
  The reference of layer 13: what its functions return, next to the model of package flow.
-/
import Derived.Test.YtpkgjgfdobcboaaFlowAt
import Derived.Test.YtpkgjgfdobcboaaRef12
namespace Go.Proofs.Ytpkgjgfdobcboaa
open Go.RowKit
set_option maxRecDepth 100000

/-- The reference's value of a stream. -/
def refF (m : FM) : Value := .agg #[.int .i64 m.c, .string (st m.s), .int .i64 m.w, .int .i64 m.r]
def QEPost (s : FER) (w : World) (e : Ending) (w' : World) : Prop := e = .returned (.tuple #[refF s.m, .int .i64 s.err]) ∧ Fr [] w w'
def QNPost (s : FNR) (w : World) (e : Ending) (w' : World) : Prop := e = .returned (.tuple #[refF s.m, .int .i64 s.n, .int .i64 s.err]) ∧ Fr [] w w'
def QTPost (s : FTR) (w : World) (e : Ending) (w' : World) : Prop := e = .returned (.tuple #[refF s.m, .string (st s.out), .int .i64 s.err]) ∧ Fr [] w w'
theorem ref13_new (c : Nat) (w : World) (h1 : 1 ≤ c) (h2 : c ≤ 4096) :
    Calls Try.prog 87 #[.int .i64 c] w fun e w' => e = .returned (.tuple #[refF ⟨c, [], 0, 0⟩, .int .i64 0]) ∧ Fr [] w w' := by
  have i1 : (1 : Int) ≤ c := by omega
  have i2 : (c : Int) ≤ 4096 := by omega
  unfold refF
  dsimp only
  go_enter Try.func87, Try.ntmps87
  go_wp2_with fail
  exact bodyPost_ret (v := .tuple #[.agg #[.int .i64 c, .string { data := #[] }, .int .i64 0, .int .i64 0], .int .i64 0]) (by simp [results, Try.results87, go_sem]) rfl ⟨rfl, (Fr.refl _ _).alloc _⟩
theorem ref13_new_bad (c : Int) (w : World) (h : c < 1 ∨ 4096 < c) :
    Calls Try.prog 87 #[.int .i64 c] w fun e w' => e = .returned (.tuple #[refF ⟨0, [], 0, 0⟩, .int .i64 2]) ∧ Fr [] w w' := by
  unfold refF
  dsimp only
  by_cases h1 : c < 1
  · clear h
    go_enter Try.func87, Try.ntmps87
    go_wp2_with fail
    exact bodyPost_ret (v := .tuple #[.agg #[.int .i64 0, .string { data := #[] }, .int .i64 0, .int .i64 0], .int .i64 2]) (by simp [results, Try.results87, go_sem]) rfl ⟨rfl, (Fr.refl _ _).alloc _⟩
  · have h2 : 4096 < c := by omega
    have h3 : 1 ≤ c := by omega
    clear h h1
    go_enter Try.func87, Try.ntmps87
    go_wp2_with fail
    exact bodyPost_ret (v := .tuple #[.agg #[.int .i64 0, .string { data := #[] }, .int .i64 0, .int .i64 0], .int .i64 2]) (by simp [results, Try.results87, go_sem]) rfl ⟨rfl, (Fr.refl _ _).alloc _⟩

set_option maxHeartbeats 2000000 in
theorem ref13_closew {c : Nat} {s : List UInt8} {wd r : Int} {x : Int} (w : World) :
    Calls Try.prog 117 #[refF ⟨c, s, wd, r⟩, .int .i64 x] w (QEPost (fCloseW ⟨c, s, wd, r⟩ x) w) := by
  unfold refF
  dsimp only
  unfold fCloseW
  dsimp only
  by_cases hx : x = 0
  · subst hx
    rw [if_pos rfl]
    go_enter Try.func117, Try.ntmps117
    go_wp2_with fail
    exact bodyPost_ret (v := .tuple #[.agg #[.int .i64 c, .string (st s), .int .i64 wd, .int .i64 r], .int .i64 2]) (by simp [results, Try.results117, go_sem]) rfl ⟨rfl, ((Fr.refl _ _).alloc _).alloc _⟩
  · rw [if_neg hx]
    obtain ⟨n1, n2⟩ := ne0 hx
    by_cases hw : wd = 0
    · subst hw
      rw [if_neg (by simp)]
      go_enter Try.func117, Try.ntmps117
      go_wp2_with fail
      exact bodyPost_ret (v := .tuple #[.agg #[.int .i64 c, .string (st s), .int .i64 x, .int .i64 r], .int .i64 0]) (by simp [results, Try.results117, go_sem]) rfl ⟨rfl, ((Fr.refl _ _).alloc _).alloc _⟩
    · rw [if_pos hw]
      obtain ⟨n3, n4⟩ := ne0 hw
      clear hw
      go_enter Try.func117, Try.ntmps117
      go_wp2_with fail
      exact bodyPost_ret (v := .tuple #[.agg #[.int .i64 c, .string (st s), .int .i64 wd, .int .i64 r], .int .i64 8]) (by simp [results, Try.results117, go_sem]) rfl ⟨rfl, ((Fr.refl _ _).alloc _).alloc _⟩
set_option maxHeartbeats 2000000 in
theorem ref13_closer {c : Nat} {s : List UInt8} {wd r : Int} {x : Int} (w : World) :
    Calls Try.prog 118 #[refF ⟨c, s, wd, r⟩, .int .i64 x] w (QEPost (fCloseR ⟨c, s, wd, r⟩ x) w) := by
  unfold refF
  dsimp only
  unfold fCloseR
  dsimp only
  by_cases hx : x = 0
  · subst hx
    rw [if_pos rfl]
    go_enter Try.func118, Try.ntmps118
    go_wp2_with fail
    exact bodyPost_ret (v := .tuple #[.agg #[.int .i64 c, .string (st s), .int .i64 wd, .int .i64 r], .int .i64 2]) (by simp [results, Try.results118, go_sem]) rfl ⟨rfl, ((Fr.refl _ _).alloc _).alloc _⟩
  · rw [if_neg hx]
    obtain ⟨n1, n2⟩ := ne0 hx
    by_cases hw : r = 0
    · subst hw
      rw [if_neg (by simp)]
      go_enter Try.func118, Try.ntmps118
      go_wp2_with fail
      exact bodyPost_ret (v := .tuple #[.agg #[.int .i64 c, .string { data := #[] }, .int .i64 wd, .int .i64 x], .int .i64 0]) (by simp [results, Try.results118, go_sem]) rfl ⟨rfl, ((Fr.refl _ _).alloc _).alloc _⟩
    · rw [if_pos hw]
      obtain ⟨n3, n4⟩ := ne0 hw
      clear hw
      go_enter Try.func118, Try.ntmps118
      go_wp2_with fail
      exact bodyPost_ret (v := .tuple #[.agg #[.int .i64 c, .string (st s), .int .i64 wd, .int .i64 r], .int .i64 8]) (by simp [results, Try.results118, go_sem]) rfl ⟨rfl, ((Fr.refl _ _).alloc _).alloc _⟩
set_option maxHeartbeats 2000000 in
theorem ref13_write {c : Nat} {s : List UInt8} {wd r : Int} {x : List UInt8} (hs : s.length ≤ c) (hc : c ≤ 4096) (hx : x.length ≤ 100000) (w : World) :
    Calls Try.prog 115 #[refF ⟨c, s, wd, r⟩, .string (st x)] w (QNPost (fWrite ⟨c, s, wd, r⟩ x) w) := by
  unfold refF
  dsimp only
  have hsi : (s.length : Int) ≤ c := by omega
  have hci : (c : Int) ≤ 4096 := by omega
  have hxi : (x.length : Int) ≤ 100000 := by omega
  unfold fWrite
  dsimp only
  by_cases h1 : r = 0
  · subst h1
    rw [if_neg (by simp)]
    by_cases h2 : wd = 0
    · subst h2
      rw [if_neg (by simp)]
      by_cases h3 : x = []
      · subst h3
        rw [if_pos rfl]
        go_enter Try.func115, Try.ntmps115
        go_wp2_with fail
        exact bodyPost_ret (v := .tuple #[.agg #[.int .i64 c, .string (st s), .int .i64 0, .int .i64 0], .int .i64 0, .int .i64 0]) (by simp [results, Try.results115, go_sem]) rfl ⟨rfl, ((Fr.refl _ _).alloc _).alloc _⟩
      · rw [if_neg h3]
        have hE : x.isEmpty = false := by simpa using h3
        have hE2 : (x == []) = false := by simpa using h3
        by_cases h4 : s.length = c
        · subst h4
          rw [if_pos rfl]
          clear h3
          go_enter Try.func115, Try.ntmps115
          go_wp2_with fail
          exact bodyPost_ret (v := .tuple #[.agg #[.int .i64 s.length, .string (st s), .int .i64 0, .int .i64 0], .int .i64 0, .int .i64 16]) (by simp [results, Try.results115, go_sem]) rfl ⟨rfl, ((Fr.refl _ _).alloc _).alloc _⟩
        · rw [if_neg h4]
          have h5 : 0 < (c : Int) - s.length := by omega
          have h6 : ((c : Int) - s.length == 0) = false := by rw [beq_eq_false_iff_ne]; omega
          clear h3 h4
          by_cases h7 : (x.length : Int) < (c : Int) - s.length
          · have e1 : x.take (c - s.length) = x := List.take_of_length_le (by omega)
            have e2 : min x.length (c - s.length) = x.length := by omega
            rw [e1, e2]
            have hrun := run_to x x.length (Nat.le_refl _)
            rw [List.take_length] at hrun
            clear e1 e2
            go_enter Try.func115, Try.ntmps115
            go_wp2_with fail
            go_region
            go_wp2_with fail
            exact bodyPost_ret (v := .tuple #[.agg #[.int .i64 c, .string (st (s ++ x)), .int .i64 0, .int .i64 0], .int .i64 x.length, .int .i64 0]) (by simp [results, Try.results115, go_sem]) rfl ⟨rfl, (((Fr.refl _ _).alloc _).alloc _).drewN _⟩
          · have e2 : min x.length (c - s.length) = c - s.length := by omega
            rw [e2]
            obtain ⟨k, hk⟩ : ∃ k, c - s.length = k := ⟨_, rfl⟩
            have hki : (c : Int) - s.length = k := by omega
            rw [hk]
            have hrun := run_to x k (by omega)
            have h8 : ((k : Int) == 0) = false := by rw [beq_eq_false_iff_ne]; omega
            rw [hki] at h7 h5
            clear e2 h6 hk
            go_enter Try.func115, Try.ntmps115
            go_wp2_with fail
            go_region
            go_wp2_with fail
            exact bodyPost_ret (v := .tuple #[.agg #[.int .i64 c, .string (st (s ++ x.take k)), .int .i64 0, .int .i64 0], .int .i64 k, .int .i64 0]) (by simp [results, Try.results115, go_sem]) rfl ⟨rfl, (((Fr.refl _ _).alloc _).alloc _).drewN _⟩
    · rw [if_pos h2]
      obtain ⟨n1, n2⟩ := ne0 h2
      clear h2
      go_enter Try.func115, Try.ntmps115
      go_wp2_with fail
      exact bodyPost_ret (v := .tuple #[.agg #[.int .i64 c, .string (st s), .int .i64 wd, .int .i64 0], .int .i64 0, .int .i64 14]) (by simp [results, Try.results115, go_sem]) rfl ⟨rfl, ((Fr.refl _ _).alloc _).alloc _⟩
  · rw [if_pos h1]
    obtain ⟨n1, n2⟩ := ne0 h1
    clear h1
    go_enter Try.func115, Try.ntmps115
    go_wp2_with fail
    go_region
    go_wp2_with fail
    exact bodyPost_ret (v := .tuple #[.agg #[.int .i64 c, .string (st s), .int .i64 wd, .int .i64 r], .int .i64 0, .int .i64 r]) (by simp [results, Try.results115, go_sem]) rfl ⟨rfl, (((Fr.refl _ _).alloc _).alloc _).drewN _⟩
set_option maxHeartbeats 2000000 in
theorem ref13_read {c : Nat} {s : List UInt8} {wd r : Int} {n : Int} (hs : s.length ≤ c) (hc : c ≤ 4096) (w : World) :
    Calls Try.prog 116 #[refF ⟨c, s, wd, r⟩, .int .i64 n] w (QTPost (fRead ⟨c, s, wd, r⟩ n) w) := by
  unfold refF
  dsimp only
  have hsi : (s.length : Int) ≤ 4096 := by omega
  unfold fRead
  dsimp only
  by_cases h1 : n < 0
  · rw [if_pos h1]
    go_enter Try.func116, Try.ntmps116
    go_wp2_with fail
    exact bodyPost_ret (v := .tuple #[.agg #[.int .i64 c, .string (st s), .int .i64 wd, .int .i64 r], .string { data := #[] }, .int .i64 2]) (by simp [results, Try.results116, go_sem]) rfl ⟨rfl, ((Fr.refl _ _).alloc _).alloc _⟩
  rw [if_neg h1]
  by_cases h2 : n = 0
  · subst h2
    rw [if_pos rfl]
    clear h1
    go_enter Try.func116, Try.ntmps116
    go_wp2_with fail
    exact bodyPost_ret (v := .tuple #[.agg #[.int .i64 c, .string (st s), .int .i64 wd, .int .i64 r], .string { data := #[] }, .int .i64 0]) (by simp [results, Try.results116, go_sem]) rfl ⟨rfl, ((Fr.refl _ _).alloc _).alloc _⟩
  rw [if_neg h2]
  obtain ⟨m1, m2⟩ := ne0 h2
  have hp : 0 < n := by omega
  clear h2
  by_cases h3 : r = 0
  · subst h3
    rw [if_neg (by simp)]
    by_cases h4 : s = []
    · subst h4
      rw [if_neg (by simp)]
      by_cases h5 : wd = 0
      · subst h5
        rw [if_neg (by simp)]
        go_enter Try.func116, Try.ntmps116
        go_wp2_with fail
        exact bodyPost_ret (v := .tuple #[.agg #[.int .i64 c, .string (st ([])), .int .i64 0, .int .i64 0], .string { data := #[] }, .int .i64 16]) (by simp [results, Try.results116, go_sem]) rfl ⟨rfl, ((Fr.refl _ _).alloc _).alloc _⟩
      · rw [if_pos h5]
        obtain ⟨n1, n2⟩ := ne0 h5
        clear h5
        go_enter Try.func116, Try.ntmps116
        go_wp2_with fail
        go_region
        go_wp2_with fail
        exact bodyPost_ret (v := .tuple #[.agg #[.int .i64 c, .string (st ([])), .int .i64 wd, .int .i64 0], .string { data := #[] }, .int .i64 wd]) (by simp [results, Try.results116, go_sem]) rfl ⟨rfl, (((Fr.refl _ _).alloc _).alloc _).drewN _⟩
    · rw [if_pos h4]
      have hE : s.isEmpty = false := by simpa using h4
      have hE2 : (s == []) = false := by simpa using h4
      clear h4
      by_cases h7 : (s.length : Int) < n
      · have e1 : s.take n.toNat = s := List.take_of_length_le (by omega)
        have e2 : s.drop n.toNat = [] := List.drop_eq_nil_of_le (by omega)
        rw [e1, e2]
        have hrun := run_to s s.length (Nat.le_refl _)
        rw [List.take_length] at hrun
        have hrun2 := run_from s s.length (Nat.le_refl _)
        rw [List.drop_length] at hrun2
        clear e1 e2
        go_enter Try.func116, Try.ntmps116
        go_wp2_with fail
        exact bodyPost_ret (v := .tuple #[.agg #[.int .i64 c, .string (st ([])), .int .i64 wd, .int .i64 0], .string (st s), .int .i64 0]) (by simp [results, Try.results116, go_sem]) rfl ⟨rfl, ((Fr.refl _ _).alloc _).alloc _⟩
      · obtain ⟨k, rfl⟩ := Int.eq_ofNat_of_zero_le (Int.le_of_lt hp)
        rw [Int.toNat_natCast]
        have hrun := run_to s k (by omega)
        have hrun2 := run_from s k (by omega)
        go_enter Try.func116, Try.ntmps116
        go_wp2_with fail
        exact bodyPost_ret (v := .tuple #[.agg #[.int .i64 c, .string (st (s.drop k)), .int .i64 wd, .int .i64 0], .string (st (s.take k)), .int .i64 0]) (by simp [results, Try.results116, go_sem]) rfl ⟨rfl, ((Fr.refl _ _).alloc _).alloc _⟩
  · rw [if_pos h3]
    obtain ⟨n1, n2⟩ := ne0 h3
    clear h3
    go_enter Try.func116, Try.ntmps116
    go_wp2_with fail
    go_region
    go_wp2_with fail
    exact bodyPost_ret (v := .tuple #[.agg #[.int .i64 c, .string (st s), .int .i64 wd, .int .i64 r], .string { data := #[] }, .int .i64 r]) (by simp [results, Try.results116, go_sem]) rfl ⟨rfl, (((Fr.refl _ _).alloc _).alloc _).drewN _⟩
end Go.Proofs.Ytpkgjgfdobcboaa
