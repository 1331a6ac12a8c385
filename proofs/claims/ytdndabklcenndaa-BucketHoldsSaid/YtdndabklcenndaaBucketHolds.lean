/-
  BucketHolds, walked.
-/
import Derived.Test.YtdndabklcenndaaBucketLaw
import Derived.Test.YtdndabklcenndaaActs40
import Derived.Test.YtdndabklcenndaaHoldsMath40
namespace Go.Proofs.Ytdndabklcenndaa
open Go.RowKit
set_option maxRecDepth 100000

/-- Some number and some error. -/
def SomePair (w : World) (e : Ending) (w' : World) : Prop := ∃ x y : Int, e = .returned (.tuple #[.int .u64 x, .int .i64 y]) ∧ Fr [] w w'
theorem wait_any {w : World} {b : Nat} {r p u l t : Int} (h : BkAt w b r p u l t) (hi : BkInv r p u l t) (now n : Int) (hn : 0 ≤ n) (hn2 : n ≤ 1000000) (ht : t ≤ now) (hnow : now < 18446744073709551615) :
    Calls Try.prog 19 #[.pointer (some ⟨b, 0, none⟩), .int .u64 now, .int .i64 n] w (SomePair w) := by
  by_cases hv : n ≤ u
  · exact (wait_yes h hi now n hn hn2 ht hnow hv).mono fun e w' ⟨he, hf⟩ => ⟨_, _, he, hf⟩
  · exact (wait_no h hi now n hn hn2 ht hnow (by omega)).mono fun e w' ⟨he, hf⟩ => ⟨_, _, he, hf⟩

theorem holds_known {r p u n : Int} {a : Option Addr} {len cap : Nat} (w : World) (hlen : len ≤ maxLen) (h : ¬ Val r p u 0 ∨ 20 < len ∨ n < 0 ∨ u < n) :
    Calls Try.prog 4 #[.int .i64 r, .int .i64 p, .int .i64 u, .slice a len cap, .int .i64 n] w fun e w' => e = .returned (.bool true) ∧ Fr [] w w' := by
  unfold maxLen at hlen
  by_cases hv : Val r p u 0
  · have HV := Lib.hid hv
    have h' : 20 < len ∨ n < 0 ∨ u < n := h.resolve_left (fun k => k hv)
    clear h hv
    by_cases h1 : 20 < len
    · clear h'
      have h1' : (20 : Int) < (len : Int) := by omega
      go_enter Try.func4, Try.ntmps4
      go_wp2_with (first | (go_at_call 13; refine (valid_yes _ HV.out).mono ?_; rintro e w' ⟨rfl, rfl⟩) | (go_at_call 14; refine (known_yes _).mono ?_; rintro e w' ⟨rfl, hf⟩))
      go_ret
      exact ⟨rfl, hf⟩
    · have h1' : (len : Int) ≤ 20 := by omega
      have h1'' : len ≤ 20 := by omega
      clear h1
      by_cases h2 : n < 0
      · clear h'
        go_enter Try.func4, Try.ntmps4
        go_wp2_with (first | (go_at_call 13; refine (valid_yes _ HV.out).mono ?_; rintro e w' ⟨rfl, rfl⟩) | (go_at_call 14; refine (known_yes _).mono ?_; rintro e w' ⟨rfl, hf⟩))
        go_ret
        exact ⟨rfl, hf⟩
      · have h3 : u < n := by omega
        have h2' : 0 ≤ n := by omega
        clear h' h2
        go_enter Try.func4, Try.ntmps4
        go_wp2_with (first | (go_at_call 13; refine (valid_yes _ HV.out).mono ?_; rintro e w' ⟨rfl, rfl⟩) | (go_at_call 14; refine (known_yes _).mono ?_; rintro e w' ⟨rfl, hf⟩))
        go_ret
        exact ⟨rfl, hf⟩
  · have HV := Lib.hid hv
    clear h hv
    go_enter Try.func4, Try.ntmps4
    go_wp2_with (first | (go_at_call 13; refine (valid_no _ HV.out).mono ?_; rintro e w' ⟨rfl, rfl⟩) | (go_at_call 14; refine (known_yes _).mono ?_; rintro e w' ⟨rfl, hf⟩))
    go_ret
    exact ⟨rfl, hf⟩

set_option maxHeartbeats 2000000 in
theorem holds_loop {r p u n : Int} {a : Option Addr} {len cap : Nat} {A T N : Nat → Int} (w : World) (hlen : len ≤ 20) (hv : Val r p u 0) (hn : 0 ≤ n) (hnu : n ≤ u) (hl : Acts40 w w.heap.size a len A T N) :
    Calls Try.prog 4 #[.int .i64 r, .int .i64 p, .int .i64 u, .slice a len cap, .int .i64 n] w fun e w' => e = .returned (.bool true) ∧ Fr [] w w' := by
  have hi := hv.inv (Int.le_refl 0) (by omega)
  have hr := hi.r1
  have hr2 := hi.r2
  have hp := hi.p1
  have hp2 := hi.p2
  have hu2 := hi.u2
  have hlen' : (len : Int) ≤ 20 := by omega
  have HV := Lib.hid hv
  clear hv
  go_enter Try.func4, Try.ntmps4
  go_wp2_with fail
  refine (valid_yes _ HV.out).mono ?_
  rintro e w' ⟨rfl, rfl⟩
  go_wp2_with fail
  refine (new_ok w HV.out).mono ?_
  rintro e w1 ⟨rfl, f1, b1⟩
  generalize hB : w.heap.size = B at *
  have hs : w.heap.size ≤ B := by omega
  have hMM' : B ≤ w.heap.size := by omega
  clear hB
  go_wp2_with fail
  refine (new_ok w1 HV.out).mono ?_
  rintro e w2 ⟨rfl, f2, c2⟩
  have b2 : BkAt w2 B r p u (u * p) 0 := f2.keep b1 (by simp)
  have hne : B < w1.heap.size := BkAt.lt b1
  have hs2 : w.heap.size ≤ w1.heap.size := f1.size
  generalize w1.heap.size = C at *
  have g2 := f1.then0 f2
  have l2 := hl.keep g2 hMM' (by simp)
  clear f1 b1 f2 hl
  go_wp2_with fail
  go_loopw [15, 16, 17] (fun nw tk i wr => ∃ (k : Nat) (l t nw' tk' : Int), k ≤ len ∧ i = .int .i64 k ∧ nw = .int .u64 nw' ∧ tk = .int .i64 tk' ∧ HI r p u l t nw' tk' k ∧ BkAt wr B r p u l t ∧ BkAt wr C r p u l t ∧ Fr [] w wr ∧ Acts40 wr B a len A T N) (fun _ _ i _ => len - (intOf i).toNat)
  case atStart => exact ⟨0, u * p, 0, 0, 0, by omega, rfl, rfl, rfl, HI.start hi, b2, c2, g2, l2⟩
  case round =>
    obtain ⟨k, l, t, nw', tk', hk, rfl, rfl, rfl, hI, b, c, g, la⟩ := hrel
    clear g2 b2 c2 l2
    by_cases hlt : k < len
    · obtain ⟨ab, ao, rfl, hab, c0, c1, c2, ⟨x1, x2⟩, ⟨y1, y2⟩, ⟨z1, z2⟩⟩ := la k hlt
      by_cases hn1 : N k < 0
      · go_wp2_with fail
        go_roundw
        case rel => exact ⟨k + 1, l, t, nw', tk', by omega, by go_num, rfl, rfl, hI.skip, b, c, g, la⟩
        case measure => simp [intOf]; omega
      have hn1' : 0 ≤ N k := by omega
      clear hn1
      by_cases hn2 : 1000000 < N k
      · go_wp2_with fail
        go_roundw
        case rel => exact ⟨k + 1, l, t, nw', tk', by omega, by go_num, rfl, rfl, hI.skip, b, c, g, la⟩
        case measure => simp [intOf]; omega
      have hn2' : N k ≤ 1000000 := by omega
      clear hn2
      have d0 : 0 ≤ T k % 100000 := by omega
      have d1 : T k % 100000 ≤ 100000 := by omega
      have hinv := hI.inv hi (by omega)
      have e0 := hI.t0
      have e1 := hI.t1
      have e2 := hI.n1
      have e3 := hI.k0
      have e4 := hI.k1
      go_wp2_with fail
      refine (tokens_ok b hinv _ (by omega) (by omega)).mono ?_
      rintro e w3 ⟨rfl, f3⟩
      have b3 : BkAt w3 B r p u l t := f3.keep b (by simp)
      have c3 : BkAt w3 C r p u l t := f3.keep c (by simp)
      have hM3 : B ≤ wr.heap.size := Nat.le_trans hMM' g.size
      have la3 := la.keep f3 hM3 (by simp)
      have hM3' : B ≤ w3.heap.size := Nat.le_trans hM3 f3.size
      obtain ⟨ab', ao', ha', _, _, _, q3, _⟩ := la3 k hlt
      simp only [Option.some.injEq, Addr.mk.injEq, and_true] at ha'
      obtain ⟨rfl, rfl⟩ := ha'
      go_wp2_with fail
      refine (wait_any b3 hinv _ _ hn1' hn2' (by omega) (by omega)).mono ?_
      rintro e w4 ⟨x, y, rfl, f4⟩
      have b4 : BkAt w4 B r p u l t := f4.keep b3 (by simp)
      have c4 : BkAt w4 C r p u l t := f4.keep c3 (by simp)
      have la4 := la3.keep f4 hM3' (by simp)
      have hM4 : B ≤ w4.heap.size := Nat.le_trans hM3' f4.size
      obtain ⟨ab', ao', ha', _, _, _, q4, _⟩ := la4 k hlt
      simp only [Option.some.injEq, Addr.mk.injEq, and_true] at ha'
      obtain ⟨rfl, rfl⟩ := ha'
      have g4 := (g.then0 f3).then0 f4
      clear f3 f4 b3 c3 b c c2 c0 c1 la la3 q3 g hM3 hM3'
      by_cases hv : N k * p ≤ lvl r p u l t (nw' + T k % 100000)
      · go_wp2_with fail
        refine (take_yes b4 hinv _ _ hn1' hn2' (by omega) (by omega) hv).mono ?_
        rintro e w5 ⟨rfl, f5, b5⟩
        have c5 : BkAt w5 C r p u l t := f5.keep c4 (by simp only [List.mem_singleton]; omega)
        have la5 := la4.keep f5 hM4 (by intro x hx; simp only [List.mem_singleton] at hx; omega)
        have hM5 : B ≤ w5.heap.size := Nat.le_trans hM4 f5.size
        obtain ⟨ab', ao', ha', _, _, _, q5, _⟩ := la5 k hlt
        simp only [Option.some.injEq, Addr.mk.injEq, and_true] at ha'
        obtain ⟨rfl, rfl⟩ := ha'
        have g5 := g4.then1 f5 (.inr (by omega))
        clear f5 b4 c4 la4 q4 g4
        go_wp2_with fail
        refine (take_yes c5 hinv _ _ hn1' hn2' (by omega) (by omega) hv).mono ?_
        rintro e w6 ⟨rfl, f6, c6⟩
        have b6 : BkAt w6 B r p u (lvl r p u l t (nw' + T k % 100000) - N k * p) (nw' + T k % 100000) := f6.keep b5 (by simp only [List.mem_singleton]; omega)
        have la6 := la5.keep f6 hM5 (by intro x hx; simp only [List.mem_singleton] at hx; omega)
        obtain ⟨ab', ao', ha', _, _, _, q6, _⟩ := la6 k hlt
        simp only [Option.some.injEq, Addr.mk.injEq, and_true] at ha'
        obtain ⟨rfl, rfl⟩ := ha'
        have g6 := g5.then1 f6 (.inr (by omega))
        clear f6 b5 c5 la5 q5 g5
        have hI' := hI.yes (by omega) d0 d1 hn1' hn2' hv
        have hchk := hI'.check (by omega) hp
        obtain ⟨m1, m2⟩ := mul_bd (a := r) (b := nw' + T k % 100000) (B := 2000000) (by omega) hr2 (by omega) (by omega)
        have m3 : 0 ≤ r * (nw' + T k % 100000) / p := Int.ediv_nonneg m1 (by omega)
        have m4 : r * (nw' + T k % 100000) / p ≤ 2000000000000 := Int.le_trans (Int.ediv_le_self _ m1) (by omega)
        go_wp2_with fail
        go_roundw
        case rel => exact ⟨k + 1, _, _, _, _, by omega, by go_num, rfl, rfl, hI', b6, c6, g6, la6⟩
        case measure => simp [intOf]; omega
      · have hv' : lvl r p u l t (nw' + T k % 100000) < N k * p := by omega
        clear hv
        go_wp2_with fail
        refine (take_no b4 hinv _ _ hn1' hn2' (by omega) (by omega) hv').mono ?_
        rintro e w5 ⟨rfl, f5⟩
        have b5 : BkAt w5 B r p u l t := f5.keep b4 (by simp)
        have c5 : BkAt w5 C r p u l t := f5.keep c4 (by simp)
        have la5 := la4.keep f5 hM4 (by simp)
        have hM5 : B ≤ w5.heap.size := Nat.le_trans hM4 f5.size
        obtain ⟨ab', ao', ha', _, _, _, q5, _⟩ := la5 k hlt
        simp only [Option.some.injEq, Addr.mk.injEq, and_true] at ha'
        obtain ⟨rfl, rfl⟩ := ha'
        have g5 := g4.then0 f5
        clear f5 b4 c4 la4 q4 g4
        go_wp2_with fail
        refine (take_no c5 hinv _ _ hn1' hn2' (by omega) (by omega) hv').mono ?_
        rintro e w6 ⟨rfl, f6⟩
        have b6 : BkAt w6 B r p u l t := f6.keep b5 (by simp)
        have c6 : BkAt w6 C r p u l t := f6.keep c5 (by simp)
        have la6 := la5.keep f6 hM5 (by simp)
        have g6 := g5.then0 f6
        clear f6 b5 c5 la5 q5 g5
        have hI' := hI.no d0 d1
        have hchk := hI'.check (by omega) hp
        obtain ⟨m1, m2⟩ := mul_bd (a := r) (b := nw' + T k % 100000) (B := 2000000) (by omega) hr2 (by omega) (by omega)
        have m3 : 0 ≤ r * (nw' + T k % 100000) / p := Int.ediv_nonneg m1 (by omega)
        have m4 : r * (nw' + T k % 100000) / p ≤ 2000000000000 := Int.le_trans (Int.ediv_le_self _ m1) (by omega)
        go_wp2_with fail
        go_roundw
        case rel => exact ⟨k + 1, _, _, _, _, by omega, by go_num, rfl, rfl, hI', b6, c6, g6, la6⟩
        case measure => simp [intOf]; omega
    · have hk' : len ≤ k := by omega
      have hinv := hI.inv hi (by omega)
      have e0 := hI.t0
      have e1 := hI.t1
      have e2 := hI.n1
      have hl0 := (lvl_bd hinv e1).1
      have hI0 := hI.l0
      have hreach := wait_reach (now := nw') hinv hnu
      have hbefore := wait_before (now := nw') hinv hnu
      obtain ⟨m1, m2⟩ := mul_bd hn (by omega : n ≤ 1000000) (by omega : 0 ≤ p) hp2
      have k0 : 0 ≤ tk r (max 0 (n * p - lvl r p u l t nw')) := tk_nonneg hr (by omega)
      have k1 : tk r (max 0 (n * p - lvl r p u l t nw')) ≤ 1000000000 := Int.le_trans (tk_bd hr (by omega)) (by omega)
      have hplus : plusT nw' (tk r (max 0 (n * p - lvl r p u l t nw'))) = nw' + tk r (max 0 (n * p - lvl r p u l t nw')) := if_neg (by omega)
      go_wp2_with fail
      refine (wait_yes b hinv _ _ hn (by omega) (by omega) (by omega) hnu).mono ?_
      rintro e w3 ⟨rfl, f3⟩
      have b3 : BkAt w3 B r p u l t := f3.keep b (by simp)
      have g3 := g.then0 f3
      clear f3 b c g la
      rw [hplus]
      clear hplus
      generalize tk r (max 0 (n * p - lvl r p u l t nw')) = d at *
      have HB := Lib.hid hbefore
      have HR := Lib.hid hreach
      clear hbefore hreach
      by_cases hd : 0 < d
      · have hb1 := HB.out hd
        have hr1 := HR.out
        have h1 : nw' < nw' + d := by omega
        go_wp2_with fail
        refine (takes_no b3 hinv _ _ hn (by omega) (by omega) (by omega) hb1).mono ?_
        rintro e w4 ⟨rfl, f4⟩
        have b4 : BkAt w4 B r p u l t := f4.keep b3 (by simp)
        have g4 := g3.then0 f4
        go_wp2_with fail
        refine (takes_yes b4 hinv _ _ hn (by omega) (by omega) (by omega) hr1).mono ?_
        rintro e w5 ⟨rfl, f5, _⟩
        have g5 := g4.then1 f5 (.inr (by omega))
        go_wp2_with fail
        refine (known_yes _).mono ?_
        rintro e w6 ⟨rfl, f6⟩
        go_wp2_with fail
        go_ret
        exact ⟨rfl, g5.then0 f6⟩
      · have h1 : d = 0 := by omega
        subst h1
        have hr1 := HR.out
        rw [Int.add_zero] at hr1 ⊢
        go_wp2_with fail
        refine (takes_yes b3 hinv _ _ hn (by omega) (by omega) (by omega) hr1).mono ?_
        rintro e w5 ⟨rfl, f5, _⟩
        have g5 := g3.then1 f5 (.inr (by omega))
        go_wp2_with fail
        refine (known_yes _).mono ?_
        rintro e w6 ⟨rfl, f6⟩
        go_wp2_with fail
        go_ret
        exact ⟨rfl, g5.then0 f6⟩

theorem holds_walk {r p u n : Int} {a : Option Addr} {len cap : Nat} (w : World) (h : len ≤ maxLen ∧ ∃ A T N, Acts40 w w.heap.size a len A T N) :
    Calls Try.prog 4 #[.int .i64 r, .int .i64 p, .int .i64 u, .slice a len cap, .int .i64 n] w fun e w' => e = .returned (.bool true) ∧ Fr [] w w' := by
  obtain ⟨hl, A, T, N, hs⟩ := h
  by_cases hk : ¬ Val r p u 0 ∨ 20 < len ∨ n < 0 ∨ u < n
  · exact holds_known w hl hk
  · exact holds_loop w (by omega) (Classical.byContradiction fun k => hk (.inl k)) (by omega) (by omega) hs
end Go.Proofs.Ytdndabklcenndaa
