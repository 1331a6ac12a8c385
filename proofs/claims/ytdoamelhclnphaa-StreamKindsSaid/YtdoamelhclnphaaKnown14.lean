/-
  Layer 14's law: the chapter's examples.
-/
import Derived.Test.YtdoamelhclnphaaStB
namespace Go.Proofs.Ytdoamelhclnphaa
open Go.RowKit
set_option maxRecDepth 100000

set_option maxHeartbeats 16000000 in
theorem known14 (w : World) :
    Calls Try.prog 26 #[] w fun e w' => e = .returned (.bool true) ∧ Fr [] w w' := by
  go_enter Try.func26, Try.ntmps26
  go_wp2_with fail
  refine (sf_new 3 w (by omega) (by omega)).mono ?_
  rintro e w1 ⟨bs, F, rfl, g1, hF, h1⟩
  go_wp2_with fail
  refine (sf_new 0 w1 (by omega) (by omega)).mono ?_
  rintro e w2 ⟨bt, F2, rfl, g2, hF2, h2⟩
  have hT : Two w w2 bs ⟨3, [], false, [], 0, 0, 0⟩ bt ⟨0, [], false, [], 0, 0, 0⟩ := ⟨g1.then0 g2, F, F2, h1.keep0 g2, h2, fun x hx hy => by have := h1.lt x hx; have := hF2 x hy; omega, fun x hx => by have := g1.size; rcases hx with hx | hx; exact hF x hx; have := hF2 x hx; omega⟩
  clear g1 g2 hF hF2 h1 h2 F F2
  go_wp2_with fail
  obtain ⟨f, F, F2, h1, h2, hd, hn⟩ := hT
  refine (begins14 h1 (l := [97, 98, 99, 100, 101]) (by simp) 0 rfl).mono ?_
  rintro e w3 ⟨rfl, hp⟩
  have hT : Two w w3 bs ⟨3, [97, 98, 99], true, [100, 101], 3, 0, 0⟩ bt ⟨0, [], false, [], 0, 0, 0⟩ := Two.fst f h2 hd hn hp
  clear f h1 h2 hd hn hp F F2
  go_wp2_with fail
  obtain ⟨f, F, F2, h1, h2, hd, hn⟩ := hT
  refine (at14 h1 3 false rfl rfl).mono ?_
  rintro e w4 ⟨rfl, hp⟩
  have hT : Two w w4 bs ⟨3, [97, 98, 99], true, [100, 101], 3, 0, 0⟩ bt ⟨0, [], false, [], 0, 0, 0⟩ := Two.fst f h2 hd hn hp
  clear f h1 h2 hd hn hp F F2
  go_wp2_with fail
  obtain ⟨f, F, F2, h1, h2, hd, hn⟩ := hT
  refine (reads14 h1 2 [97, 98] 0 rfl rfl).mono ?_
  rintro e w5 ⟨rfl, hp⟩
  have hT : Two w w5 bs ⟨3, [99, 100, 101], true, [], 5, 0, 0⟩ bt ⟨0, [], false, [], 0, 0, 0⟩ := Two.fst f h2 hd hn hp
  clear f h1 h2 hd hn hp F F2
  go_wp2_with fail
  obtain ⟨f, F, F2, h1, h2, hd, hn⟩ := hT
  refine (at14 h1 5 true rfl rfl).mono ?_
  rintro e w6 ⟨rfl, hp⟩
  have hT : Two w w6 bs ⟨3, [99, 100, 101], true, [], 5, 0, 0⟩ bt ⟨0, [], false, [], 0, 0, 0⟩ := Two.fst f h2 hd hn hp
  clear f h1 h2 hd hn hp F F2
  go_wp2_with fail
  obtain ⟨f, F, F2, h1, h2, hd, hn⟩ := hT
  refine (reads14 h1 9 [99, 100, 101] 0 rfl rfl).mono ?_
  rintro e w7 ⟨rfl, hp⟩
  have hT : Two w w7 bs ⟨3, [], true, [], 5, 0, 0⟩ bt ⟨0, [], false, [], 0, 0, 0⟩ := Two.fst f h2 hd hn hp
  clear f h1 h2 hd hn hp F F2
  go_wp2_with fail
  obtain ⟨f, F, F2, h1, h2, hd, hn⟩ := hT
  refine (reads14 h1 9 [] 16 rfl rfl).mono ?_
  rintro e w8 ⟨rfl, hp⟩
  have hT : Two w w8 bs ⟨3, [], true, [], 5, 0, 0⟩ bt ⟨0, [], false, [], 0, 0, 0⟩ := Two.fst f h2 hd hn hp
  clear f h1 h2 hd hn hp F F2
  go_wp2_with fail
  obtain ⟨f, F, F2, h1, h2, hd, hn⟩ := hT
  refine (at14 h1 5 true rfl rfl).mono ?_
  rintro e w9 ⟨rfl, hp⟩
  have hT : Two w w9 bs ⟨3, [], true, [], 5, 0, 0⟩ bt ⟨0, [], false, [], 0, 0, 0⟩ := Two.fst f h2 hd hn hp
  clear f h1 h2 hd hn hp F F2
  go_wp2_with fail
  obtain ⟨f, F, F2, h1, h2, hd, hn⟩ := hT
  refine (ends14 h1 5 0 rfl rfl).mono ?_
  rintro e w10 ⟨rfl, hp⟩
  have hT : Two w w10 bs ⟨3, [], false, [], 0, 0, 0⟩ bt ⟨0, [], false, [], 0, 0, 0⟩ := Two.fst f h2 hd hn hp
  clear f h1 h2 hd hn hp F F2
  go_wp2_with fail
  replace hT := hT.swap
  obtain ⟨f, F, F2, h1, h2, hd, hn⟩ := hT
  refine (begins14 h1 (l := [97, 98, 99]) (by simp) 0 rfl).mono ?_
  rintro e w11 ⟨rfl, hp⟩
  have hT : Two w w11 bt ⟨0, [], true, [97, 98, 99], 0, 0, 0⟩ bs ⟨3, [], false, [], 0, 0, 0⟩ := Two.fst f h2 hd hn hp
  clear f h1 h2 hd hn hp F F2
  replace hT := hT.swap
  go_wp2_with fail
  replace hT := hT.swap
  obtain ⟨f, F, F2, h1, h2, hd, hn⟩ := hT
  refine (at14 h1 0 false rfl rfl).mono ?_
  rintro e w12 ⟨rfl, hp⟩
  have hT : Two w w12 bt ⟨0, [], true, [97, 98, 99], 0, 0, 0⟩ bs ⟨3, [], false, [], 0, 0, 0⟩ := Two.fst f h2 hd hn hp
  clear f h1 h2 hd hn hp F F2
  replace hT := hT.swap
  go_wp2_with fail
  replace hT := hT.swap
  obtain ⟨f, F, F2, h1, h2, hd, hn⟩ := hT
  refine (begins14 h1 (l := [120]) (by simp) 11 rfl).mono ?_
  rintro e w13 ⟨rfl, hp⟩
  have hT : Two w w13 bt ⟨0, [], true, [97, 98, 99], 0, 0, 0⟩ bs ⟨3, [], false, [], 0, 0, 0⟩ := Two.fst f h2 hd hn hp
  clear f h1 h2 hd hn hp F F2
  replace hT := hT.swap
  go_wp2_with fail
  replace hT := hT.swap
  obtain ⟨f, F, F2, h1, h2, hd, hn⟩ := hT
  refine (reads14 h1 2 [97, 98] 0 rfl rfl).mono ?_
  rintro e w14 ⟨rfl, hp⟩
  have hT : Two w w14 bt ⟨0, [], true, [99], 2, 0, 0⟩ bs ⟨3, [], false, [], 0, 0, 0⟩ := Two.fst f h2 hd hn hp
  clear f h1 h2 hd hn hp F F2
  replace hT := hT.swap
  go_wp2_with fail
  replace hT := hT.swap
  obtain ⟨f, F, F2, h1, h2, hd, hn⟩ := hT
  refine (ends14 h1 0 16 rfl rfl).mono ?_
  rintro e w15 ⟨rfl, hp⟩
  have hT : Two w w15 bt ⟨0, [], true, [99], 2, 0, 0⟩ bs ⟨3, [], false, [], 0, 0, 0⟩ := Two.fst f h2 hd hn hp
  clear f h1 h2 hd hn hp F F2
  replace hT := hT.swap
  go_wp2_with fail
  replace hT := hT.swap
  obtain ⟨f, F, F2, h1, h2, hd, hn⟩ := hT
  refine (sf_cancel h1).mono ?_
  rintro e w16 ⟨he, hp⟩
  obtain rfl : e = .returned (.tuple #[.int .i64 2, .int .i64 0]) := he
  have hT : Two w w16 bt ⟨0, [], false, [], 0, 0, 0⟩ bs ⟨3, [], false, [], 0, 0, 0⟩ := Two.fst f h2 hd hn hp
  clear f h1 h2 hd hn hp F F2
  replace hT := hT.swap
  go_wp2_with fail
  replace hT := hT.swap
  obtain ⟨f, F, F2, h1, h2, hd, hn⟩ := hT
  refine (reads14 h1 1 [] 16 rfl rfl).mono ?_
  rintro e w17 ⟨rfl, hp⟩
  have hT : Two w w17 bt ⟨0, [], false, [], 0, 0, 0⟩ bs ⟨3, [], false, [], 0, 0, 0⟩ := Two.fst f h2 hd hn hp
  clear f h1 h2 hd hn hp F F2
  replace hT := hT.swap
  go_wp2_with fail
  obtain ⟨f, F, F2, h1, h2, hd, hn⟩ := hT
  refine (begins14 h1 (l := [102, 103, 104, 105, 106]) (by simp) 0 rfl).mono ?_
  rintro e w18 ⟨rfl, hp⟩
  have hT : Two w w18 bs ⟨3, [102, 103, 104], true, [105, 106], 3, 0, 0⟩ bt ⟨0, [], false, [], 0, 0, 0⟩ := Two.fst f h2 hd hn hp
  clear f h1 h2 hd hn hp F F2
  go_wp2_with fail
  obtain ⟨f, F, F2, h1, h2, hd, hn⟩ := hT
  refine (sf_closew h1 13).mono ?_
  rintro e w19 ⟨he, hp⟩
  obtain rfl : e = .returned (.int .i64 0) := he
  have hT : Two w w19 bs ⟨3, [102, 103, 104], true, [105, 106], 3, 13, 0⟩ bt ⟨0, [], false, [], 0, 0, 0⟩ := Two.fst f h2 hd hn hp
  clear f h1 h2 hd hn hp F F2
  go_wp2_with fail
  obtain ⟨f, F, F2, h1, h2, hd, hn⟩ := hT
  refine (ends14 h1 3 14 rfl rfl).mono ?_
  rintro e w20 ⟨rfl, hp⟩
  have hT : Two w w20 bs ⟨3, [102, 103, 104], false, [], 0, 13, 0⟩ bt ⟨0, [], false, [], 0, 0, 0⟩ := Two.fst f h2 hd hn hp
  clear f h1 h2 hd hn hp F F2
  go_wp2_with fail
  obtain ⟨f, F, F2, h1, h2, hd, hn⟩ := hT
  refine (reads14 h1 9 [102, 103, 104] 0 rfl rfl).mono ?_
  rintro e w21 ⟨rfl, hp⟩
  have hT : Two w w21 bs ⟨3, [], false, [], 0, 13, 0⟩ bt ⟨0, [], false, [], 0, 0, 0⟩ := Two.fst f h2 hd hn hp
  clear f h1 h2 hd hn hp F F2
  go_wp2_with fail
  obtain ⟨f, F, F2, h1, h2, hd, hn⟩ := hT
  refine (reads14 h1 1 [] 13 rfl rfl).mono ?_
  rintro e w22 ⟨rfl, hp⟩
  have hT : Two w w22 bs ⟨3, [], false, [], 0, 13, 0⟩ bt ⟨0, [], false, [], 0, 0, 0⟩ := Two.fst f h2 hd hn hp
  clear f h1 h2 hd hn hp F F2
  go_wp2_with fail
  obtain ⟨f, F, F2, h1, h2, hd, hn⟩ := hT
  refine (begins14 h1 (l := [107]) (by simp) 14 rfl).mono ?_
  rintro e w23 ⟨rfl, hp⟩
  have hT : Two w w23 bs ⟨3, [], false, [], 0, 13, 0⟩ bt ⟨0, [], false, [], 0, 0, 0⟩ := Two.fst f h2 hd hn hp
  clear f h1 h2 hd hn hp F F2
  go_wp2_with fail
  replace hT := hT.swap
  obtain ⟨f, F, F2, h1, h2, hd, hn⟩ := hT
  refine (begins14 h1 (l := [100]) (by simp) 0 rfl).mono ?_
  rintro e w24 ⟨rfl, hp⟩
  have hT : Two w w24 bt ⟨0, [], true, [100], 0, 0, 0⟩ bs ⟨3, [], false, [], 0, 13, 0⟩ := Two.fst f h2 hd hn hp
  clear f h1 h2 hd hn hp F F2
  replace hT := hT.swap
  go_wp2_with fail
  replace hT := hT.swap
  obtain ⟨f, F, F2, h1, h2, hd, hn⟩ := hT
  refine (sf_closer h1 14).mono ?_
  rintro e w25 ⟨he, hp⟩
  obtain rfl : e = .returned (.int .i64 0) := he
  have hT : Two w w25 bt ⟨0, [], true, [100], 0, 0, 14⟩ bs ⟨3, [], false, [], 0, 13, 0⟩ := Two.fst f h2 hd hn hp
  clear f h1 h2 hd hn hp F F2
  replace hT := hT.swap
  go_wp2_with fail
  replace hT := hT.swap
  obtain ⟨f, F, F2, h1, h2, hd, hn⟩ := hT
  refine (ends14 h1 0 14 rfl rfl).mono ?_
  rintro e w26 ⟨rfl, hp⟩
  have hT : Two w w26 bt ⟨0, [], false, [], 0, 0, 14⟩ bs ⟨3, [], false, [], 0, 13, 0⟩ := Two.fst f h2 hd hn hp
  clear f h1 h2 hd hn hp F F2
  replace hT := hT.swap
  go_wp2_with fail
  replace hT := hT.swap
  obtain ⟨f, F, F2, h1, h2, hd, hn⟩ := hT
  refine (reads14 h1 0 [] 14 rfl rfl).mono ?_
  rintro e w27 ⟨rfl, hp⟩
  have hT : Two w w27 bt ⟨0, [], false, [], 0, 0, 14⟩ bs ⟨3, [], false, [], 0, 13, 0⟩ := Two.fst f h2 hd hn hp
  clear f h1 h2 hd hn hp F F2
  replace hT := hT.swap
  go_wp2_with fail
  replace hT := hT.swap
  obtain ⟨f, F, F2, h1, h2, hd, hn⟩ := hT
  refine (sf_closer h1 14).mono ?_
  rintro e w28 ⟨he, hp⟩
  obtain rfl : e = .returned (.int .i64 14) := he
  have hT : Two w w28 bt ⟨0, [], false, [], 0, 0, 14⟩ bs ⟨3, [], false, [], 0, 13, 0⟩ := Two.fst f h2 hd hn hp
  clear f h1 h2 hd hn hp F F2
  replace hT := hT.swap
  have g := Lib.hid hT.1
  clear hT
  go_wp2_with fail
  refine (st_new_bad (-1) _ (by omega)).mono ?_
  rintro e w' ⟨rfl, rfl⟩
  go_wp2_with fail
  refine (st_new_bad 4097 _ (by omega)).mono ?_
  rintro e w' ⟨rfl, rfl⟩
  go_wp2_with fail
  refine (sf_new 7 _ (by omega) (by omega)).mono ?_
  rintro e wa ⟨bu, F, rfl, ga, hF, h1⟩
  go_wp2_with fail
  refine (reads14 h1 (-1) [] 2 rfl rfl).mono ?_
  rintro e wb ⟨rfl, ⟨⟨S, hS, fs⟩, _⟩⟩
  go_wp2_with fail
  go_ret
  have hz := g.out.size
  have gz := (g.out.then0 ga).trans fs (U := []) (by simp) (fun x hx => .inr (by
    have := ga.size
    rcases hS x hx with h | h
    · have := hF x h; omega
    · omega))
  exact ⟨rfl, gz⟩
end Go.Proofs.Ytdoamelhclnphaa
