/-
  The law package's valid, tokens, takes, and the examples of the chapter.
-/
import Derived.Test.YtdndabklcenndaaBucketNew
namespace Go.Proofs.Ytdndabklcenndaa
open Go.RowKit
set_option maxRecDepth 100000

theorem valid_yes {r p u now : Int} (w : World) (h : Val r p u now) :
    Calls Try.prog 13 #[.int .i64 r, .int .i64 p, .int .i64 u, .int .u64 now] w fun e w' => e = .returned (.bool true) ∧ w = w' := by
  obtain ⟨⟨a1, a2⟩, ⟨b1, b2⟩, ⟨c1, c2⟩, d⟩ := h
  have d' : (now != 18446744073709551615) = true := by simp; omega
  go_enter Try.func13, Try.ntmps13
  go_wp2
  go_ret
  exact ⟨rfl, rfl⟩

theorem valid_no {r p u now : Int} (w : World) (h : ¬ Val r p u now) :
    Calls Try.prog 13 #[.int .i64 r, .int .i64 p, .int .i64 u, .int .u64 now] w fun e w' => e = .returned (.bool false) ∧ w = w' := by
  by_cases hr1 : r < 1
  · clear h
    go_enter Try.func13, Try.ntmps13
    go_wp2
    go_ret
    exact ⟨rfl, rfl⟩
  have hr1' : 1 ≤ r := by omega
  clear hr1
  by_cases hr2 : 1000000 < r
  · clear h
    go_enter Try.func13, Try.ntmps13
    go_wp2
    go_ret
    exact ⟨rfl, rfl⟩
  have hr2' : r ≤ 1000000 := by omega
  clear hr2
  by_cases hp1 : p < 1
  · clear h
    go_enter Try.func13, Try.ntmps13
    go_wp2
    go_ret
    exact ⟨rfl, rfl⟩
  have hp1' : 1 ≤ p := by omega
  clear hp1
  by_cases hp2 : 1000 < p
  · clear h
    go_enter Try.func13, Try.ntmps13
    go_wp2
    go_ret
    exact ⟨rfl, rfl⟩
  have hp2' : p ≤ 1000 := by omega
  clear hp2
  by_cases hu1 : u < 1
  · clear h
    go_enter Try.func13, Try.ntmps13
    go_wp2
    go_ret
    exact ⟨rfl, rfl⟩
  have hu1' : 1 ≤ u := by omega
  clear hu1
  by_cases hu2 : 1000000 < u
  · clear h
    go_enter Try.func13, Try.ntmps13
    go_wp2
    go_ret
    exact ⟨rfl, rfl⟩
  have hu2' : u ≤ 1000000 := by omega
  clear hu2
  have hn : now = 18446744073709551615 := Classical.byContradiction fun hn => h ⟨⟨hr1', hr2'⟩, ⟨hp1', hp2'⟩, ⟨hu1', hu2'⟩, hn⟩
  subst hn
  clear h
  go_enter Try.func13, Try.ntmps13
  go_wp2
  go_ret
  exact ⟨rfl, rfl⟩

theorem tokens_yes {w : World} {b : Nat} {r p u l t : Int} (h : BkAt w b r p u l t) (hi : BkInv r p u l t) (now : Int) (ht : t ≤ now) (hnow : now < 18446744073709551615) (x : Int) (hx : max 0 (lvl r p u l t now) / p = x) :
    Calls Try.prog 17 #[.pointer (some ⟨b, 0, none⟩), .int .u64 now, .int .i64 x] w fun e w' => e = .returned (.bool true) ∧ Fr [] w w' := by
  have h1 := tokens_ok h hi now ht hnow
  rw [hx] at h1
  have H1 := Lib.hid h1
  clear h1 hx
  go_enter Try.func17, Try.ntmps17
  go_wp2_with fail
  refine H1.out.mono ?_
  rintro e w' ⟨rfl, hf⟩
  go_wp2_with fail
  go_ret
  exact ⟨by simp, hf⟩

theorem takes_yes {w : World} {b : Nat} {r p u l t : Int} (h : BkAt w b r p u l t) (hi : BkInv r p u l t) (now n : Int) (hn : 0 ≤ n) (hn2 : n ≤ 1000000) (ht : t ≤ now) (hnow : now < 18446744073709551615) (hv : n * p ≤ lvl r p u l t now) :
    Calls Try.prog 21 #[.pointer (some ⟨b, 0, none⟩), .int .u64 now, .int .i64 n, .bool true] w fun e w' => e = .returned (.bool true) ∧ Fr [b] w w' ∧ BkAt w' b r p u (lvl r p u l t now - n * p) now := by
  have H1 := Lib.hid (take_yes h hi now n hn hn2 ht hnow hv)
  clear h hi hv
  go_enter Try.func21, Try.ntmps21
  go_wp2_with fail
  refine H1.out.mono ?_
  rintro e w' ⟨rfl, hf, hb⟩
  go_wp2_with fail
  go_ret
  exact ⟨by simp, hf, hb⟩
theorem takes_no {w : World} {b : Nat} {r p u l t : Int} (h : BkAt w b r p u l t) (hi : BkInv r p u l t) (now n : Int) (hn : 0 ≤ n) (hn2 : n ≤ 1000000) (ht : t ≤ now) (hnow : now < 18446744073709551615) (hv : lvl r p u l t now < n * p) :
    Calls Try.prog 21 #[.pointer (some ⟨b, 0, none⟩), .int .u64 now, .int .i64 n, .bool false] w fun e w' => e = .returned (.bool true) ∧ Fr [] w w' := by
  have H1 := Lib.hid (take_no h hi now n hn hn2 ht hnow hv)
  clear h hi hv
  go_enter Try.func21, Try.ntmps21
  go_wp2_with fail
  refine H1.out.mono ?_
  rintro e w' ⟨rfl, hf⟩
  go_wp2_with fail
  go_ret
  exact ⟨by simp, hf⟩

theorem inv_ex {l t : Int} (h1 : -10 ≤ l) (h2 : l ≤ 30) (h3 : 0 ≤ t) (h4 : t ≤ 1000) : BkInv 2 10 3 l t := by
  constructor <;> omega

/-- The examples of the chapter. -/
theorem known_yes (w : World) : Calls Try.prog 14 #[] w fun e w' => e = .returned (.bool true) ∧ Fr [] w w' := by
  go_enter Try.func14, Try.ntmps14
  go_wp2_with fail
  refine (new_ok (r := 2) (p := 10) (u := 3) (now := 100) w ⟨by omega, by omega, by omega, by omega⟩).mono ?_
  rintro e w1 ⟨rfl, f1, b1⟩
  generalize hB : w.heap.size = B at *
  have hs : w.heap.size ≤ B := by omega
  clear hB
  go_wp2_with fail
  refine (tokens_yes (by exact b1) (inv_ex (by omega) (by omega) (by omega) (by omega)) 100 (by omega) (by omega) 3 (by decide)).mono ?_
  rintro e w2 ⟨rfl, g2⟩
  have f2 := f1.then0 g2
  have b2 := g2.keep b1 (by simp)
  go_wp2_with fail
  refine (takes_yes (by exact b2) (inv_ex (by omega) (by omega) (by omega) (by omega)) 100 3 (by omega) (by omega) (by omega) (by omega) (by decide)).mono ?_
  rintro e w3 ⟨rfl, g3, b3⟩
  have f3 := f2.then1 g3 (.inr hs)
  replace b3 : BkAt w3 B 2 10 3 0 100 := b3
  go_wp2_with fail
  refine (tokens_yes b3 (inv_ex (by omega) (by omega) (by omega) (by omega)) 104 (by omega) (by omega) 0 (by decide)).mono ?_
  rintro e w4 ⟨rfl, g4⟩
  have f4 := f3.then0 g4
  have b4 : BkAt w4 B 2 10 3 0 100 := g4.keep b3 (by simp)
  go_wp2_with fail
  refine (tokens_yes b4 (inv_ex (by omega) (by omega) (by omega) (by omega)) 105 (by omega) (by omega) 1 (by decide)).mono ?_
  rintro e w5 ⟨rfl, g5⟩
  have f5 := f4.then0 g5
  have b5 : BkAt w5 B 2 10 3 0 100 := g5.keep b4 (by simp)
  go_wp2_with fail
  refine (wait_yes b5 (inv_ex (by omega) (by omega) (by omega) (by omega)) 105 2 (by omega) (by omega) (by omega) (by omega) (by omega)).mono ?_
  rintro e w6 ⟨rfl, g6⟩
  have f6 := f5.then0 g6
  have b6 : BkAt w6 B 2 10 3 0 100 := g6.keep b5 (by simp)
  rw [show plusT 105 (tk 2 (max 0 (2 * 10 - lvl 2 10 3 0 100 105))) = 110 from by decide]
  go_wp2_with fail
  refine (takes_no b6 (inv_ex (by omega) (by omega) (by omega) (by omega)) 105 2 (by omega) (by omega) (by omega) (by omega) (by decide)).mono ?_
  rintro e w7 ⟨rfl, g7⟩
  have f7 := f6.then0 g7
  have b7 : BkAt w7 B 2 10 3 0 100 := g7.keep b6 (by simp)
  go_wp2_with fail
  refine (takes_yes b7 (inv_ex (by omega) (by omega) (by omega) (by omega)) 110 2 (by omega) (by omega) (by omega) (by omega) (by decide)).mono ?_
  rintro e w8 ⟨rfl, g8, b8⟩
  have f8 := f7.then1 g8 (.inr hs)
  replace b8 : BkAt w8 B 2 10 3 0 110 := b8
  go_wp2_with fail
  refine (reserve_yes b8 (inv_ex (by omega) (by omega) (by omega) (by omega)) 110 1 (by omega) (by omega) (by omega) (by omega) (by decide)).mono ?_
  rintro e w9 ⟨rfl, g9, b9⟩
  have f9 := f8.then1 g9 (.inr hs)
  replace b9 : BkAt w9 B 2 10 3 (-10) 110 := b9
  rw [show plusT 110 (tk 2 (max 0 (-(lvl 2 10 3 0 110 110 - 1 * 10)))) = 115 from by decide]
  go_wp2_with fail
  refine (wait_no b9 (inv_ex (by omega) (by omega) (by omega) (by omega)) 120 4 (by omega) (by omega) (by omega) (by omega) (by omega)).mono ?_
  rintro e w10 ⟨rfl, g10⟩
  have f10 := f9.then0 g10
  have b10 : BkAt w10 B 2 10 3 (-10) 110 := g10.keep b9 (by simp)
  go_wp2_with fail
  refine (take_bad (now := 109) (n := 1) (k := 3) b10 (by omega) (.inr ⟨by omega, by omega, rfl⟩)).mono ?_
  rintro e w11 ⟨rfl, g11⟩
  have f11 := f10.then0 g11
  have b11 : BkAt w11 B 2 10 3 (-10) 110 := g11.keep b10 (by simp)
  go_wp2_with fail
  refine (new_no w11 (by rintro ⟨h, _⟩; omega)).mono ?_
  rintro e w12 ⟨rfl, rfl⟩
  go_wp2_with fail
  refine (tokens_yes b11 (inv_ex (by omega) (by omega) (by omega) (by omega)) 114 (by omega) (by omega) 0 (by decide)).mono ?_
  rintro e w13 ⟨rfl, g13⟩
  have f13 := f11.then0 g13
  have b13 : BkAt w13 B 2 10 3 (-10) 110 := g13.keep b11 (by simp)
  go_wp2_with fail
  refine (tokens_yes b13 (inv_ex (by omega) (by omega) (by omega) (by omega)) 115 (by omega) (by omega) 0 (by decide)).mono ?_
  rintro e w14 ⟨rfl, g14⟩
  have f14 := f13.then0 g14
  have b14 : BkAt w14 B 2 10 3 (-10) 110 := g14.keep b13 (by simp)
  go_wp2_with fail
  refine (tokens_yes b14 (inv_ex (by omega) (by omega) (by omega) (by omega)) 120 (by omega) (by omega) 1 (by decide)).mono ?_
  rintro e w15 ⟨rfl, g15⟩
  have f15 := f14.then0 g15
  go_wp2_with fail
  go_ret
  exact ⟨rfl, f15⟩
end Go.Proofs.Ytdndabklcenndaa
