/-
  Law 15: the chapter's examples.
-/
import Derived.Test.YtdoamelhclnphaaDxLaw
namespace Go.Proofs.Ytdoamelhclnphaa
open Go.RowKit
set_option maxRecDepth 100000

set_option maxHeartbeats 16000000 in
theorem known15 (w : World) :
    Calls Try.prog 24 #[] w fun e w' => e = .returned (.bool true) ∧ Fr [] w w' := by
  go_enter Try.func24, Try.ntmps24
  go_wp2_with fail
  refine (dx_new w (c0 := 4) (c1 := 0) (by omega) (by omega)).mono ?_
  rintro e w1 ⟨d, F, rfl, f1, hF, h1⟩
  have HK := Lib.hid (show K15 w w1 d ⟨⟨4, [], false, [], 0, 0, 0⟩, ⟨0, [], false, [], 0, 0, 0⟩, false, false⟩ from ⟨f1, F, h1, hF⟩)
  clear f1 hF h1
  go_wp2_with fail
  refine (HK.out.begins0 [97, 98, 99, 100, 101, 102] (by simp) 0 rfl).mono ?_
  rintro e w2 ⟨rfl, hk⟩
  replace HK := Lib.hid (show K15 w w2 d ⟨⟨4, [97, 98, 99, 100], true, [101, 102], 4, 0, 0⟩, ⟨0, [], false, [], 0, 0, 0⟩, false, false⟩ from hk)
  clear hk
  go_wp2_with fail
  refine (HK.out.at0 4 false rfl rfl).mono ?_
  rintro e w3 ⟨rfl, hk⟩
  replace HK := Lib.hid (show K15 w w3 d ⟨⟨4, [97, 98, 99, 100], true, [101, 102], 4, 0, 0⟩, ⟨0, [], false, [], 0, 0, 0⟩, false, false⟩ from hk)
  clear hk
  go_wp2_with fail
  refine (HK.out.begins1 [120, 121] (by simp) 0 rfl).mono ?_
  rintro e w4 ⟨rfl, hk⟩
  replace HK := Lib.hid (show K15 w w4 d ⟨⟨4, [97, 98, 99, 100], true, [101, 102], 4, 0, 0⟩, ⟨0, [], true, [120, 121], 0, 0, 0⟩, false, false⟩ from hk)
  clear hk
  go_wp2_with fail
  refine (HK.out.reads0 1 [120] 0 rfl rfl).mono ?_
  rintro e w5 ⟨rfl, hk⟩
  replace HK := Lib.hid (show K15 w w5 d ⟨⟨4, [97, 98, 99, 100], true, [101, 102], 4, 0, 0⟩, ⟨0, [], true, [121], 1, 0, 0⟩, false, false⟩ from hk)
  clear hk
  go_wp2_with fail
  refine (HK.out.reads1 9 [97, 98, 99, 100] 0 rfl rfl).mono ?_
  rintro e w6 ⟨rfl, hk⟩
  replace HK := Lib.hid (show K15 w w6 d ⟨⟨4, [101, 102], true, [], 6, 0, 0⟩, ⟨0, [], true, [121], 1, 0, 0⟩, false, false⟩ from hk)
  clear hk
  go_wp2_with fail
  refine (HK.out.at0 6 true rfl rfl).mono ?_
  rintro e w7 ⟨rfl, hk⟩
  replace HK := Lib.hid (show K15 w w7 d ⟨⟨4, [101, 102], true, [], 6, 0, 0⟩, ⟨0, [], true, [121], 1, 0, 0⟩, false, false⟩ from hk)
  clear hk
  go_wp2_with fail
  refine (HK.out.close0 rfl).mono ?_
  rintro e w8 ⟨rfl, hk⟩
  replace HK := Lib.hid (show K15 w w8 d ⟨⟨4, [101, 102], true, [], 6, 13, 0⟩, ⟨0, [], true, [121], 1, 0, 14⟩, true, false⟩ from hk)
  clear hk
  go_wp2_with fail
  refine (HK.out.ends0 6 0 rfl rfl).mono ?_
  rintro e w9 ⟨rfl, hk⟩
  replace HK := Lib.hid (show K15 w w9 d ⟨⟨4, [101, 102], false, [], 0, 13, 0⟩, ⟨0, [], true, [121], 1, 0, 14⟩, true, false⟩ from hk)
  clear hk
  go_wp2_with fail
  refine (HK.out.ends1 1 14 rfl rfl).mono ?_
  rintro e w10 ⟨rfl, hk⟩
  replace HK := Lib.hid (show K15 w w10 d ⟨⟨4, [101, 102], false, [], 0, 13, 0⟩, ⟨0, [], false, [], 0, 0, 14⟩, true, false⟩ from hk)
  clear hk
  go_wp2_with fail
  refine (HK.out.reads1 9 [101, 102] 0 rfl rfl).mono ?_
  rintro e w11 ⟨rfl, hk⟩
  replace HK := Lib.hid (show K15 w w11 d ⟨⟨4, [], false, [], 0, 13, 0⟩, ⟨0, [], false, [], 0, 0, 14⟩, true, false⟩ from hk)
  clear hk
  go_wp2_with fail
  refine (HK.out.reads1 9 [] 13 rfl rfl).mono ?_
  rintro e w12 ⟨rfl, hk⟩
  replace HK := Lib.hid (show K15 w w12 d ⟨⟨4, [], false, [], 0, 13, 0⟩, ⟨0, [], false, [], 0, 0, 14⟩, true, false⟩ from hk)
  clear hk
  go_wp2_with fail
  refine (HK.out.begins1 [122] (by simp) 14 rfl).mono ?_
  rintro e w13 ⟨rfl, hk⟩
  replace HK := Lib.hid (show K15 w w13 d ⟨⟨4, [], false, [], 0, 13, 0⟩, ⟨0, [], false, [], 0, 0, 14⟩, true, false⟩ from hk)
  clear hk
  go_wp2_with fail
  refine (HK.out.reads0 1 [] 14 rfl rfl).mono ?_
  rintro e w14 ⟨rfl, hk⟩
  replace HK := Lib.hid (show K15 w w14 d ⟨⟨4, [], false, [], 0, 13, 0⟩, ⟨0, [], false, [], 0, 0, 14⟩, true, false⟩ from hk)
  clear hk
  go_wp2_with fail
  refine (HK.out.close0_yes rfl).mono ?_
  rintro e w15 ⟨rfl, hk⟩
  replace HK := Lib.hid (show K15 w w15 d ⟨⟨4, [], false, [], 0, 13, 0⟩, ⟨0, [], false, [], 0, 0, 14⟩, true, false⟩ from hk)
  clear hk
  go_wp2_with fail
  refine (HK.out.closer1).mono ?_
  rintro e w16 ⟨he, hk⟩
  obtain rfl : e = .returned (.int .i64 0) := he
  replace HK := Lib.hid (show K15 w w16 d ⟨⟨4, [], false, [], 0, 13, 14⟩, ⟨0, [], false, [], 0, 0, 14⟩, true, false⟩ from hk)
  clear hk
  go_wp2_with fail
  refine (HK.out.closew1).mono ?_
  rintro e w17 ⟨he, hk⟩
  obtain rfl : e = .returned (.int .i64 0) := he
  replace HK := Lib.hid (show K15 w w17 d ⟨⟨4, [], false, [], 0, 13, 14⟩, ⟨0, [], false, [], 0, 13, 14⟩, true, false⟩ from hk)
  clear hk
  go_wp2_with fail
  refine (HK.out.closed1 false rfl).mono ?_
  rintro e w18 ⟨rfl, hk⟩
  replace HK := Lib.hid (show K15 w w18 d ⟨⟨4, [], false, [], 0, 13, 14⟩, ⟨0, [], false, [], 0, 13, 14⟩, true, false⟩ from hk)
  clear hk
  go_wp2_with fail
  refine (HK.out.closed0 true rfl).mono ?_
  rintro e w19 ⟨rfl, hk⟩
  replace HK := Lib.hid (show K15 w w19 d ⟨⟨4, [], false, [], 0, 13, 14⟩, ⟨0, [], false, [], 0, 13, 14⟩, true, false⟩ from hk)
  clear hk
  go_wp2_with fail
  refine (HK.out.close1 rfl).mono ?_
  rintro e w20 ⟨rfl, hk⟩
  replace HK := Lib.hid (show K15 w w20 d ⟨⟨4, [], false, [], 0, 13, 14⟩, ⟨0, [], false, [], 0, 13, 14⟩, true, true⟩ from hk)
  clear hk
  go_wp2_with fail
  refine (HK.out.closed1 true rfl).mono ?_
  rintro e w21 ⟨rfl, hk⟩
  replace HK := Lib.hid (show K15 w w21 d ⟨⟨4, [], false, [], 0, 13, 14⟩, ⟨0, [], false, [], 0, 13, 14⟩, true, true⟩ from hk)
  clear hk
  go_wp2_with fail
  refine (dx_new_bad _ (c0 := 0) (c1 := 4097) (by omega)).mono ?_
  rintro e wa ⟨rfl, fa⟩
  have HK2 := Lib.hid (HK.out.same fa)
  have HDB : Hid (∃ b0 b1 x0 x1, DB wa d b0 b1 x0 x1) := Lib.hid (by obtain ⟨_, F, ⟨b0, b1, F0, F1, h⟩, _⟩ := HK2.out; exact ⟨b0, b1, _, _, h.b⟩)
  clear fa HK
  obtain ⟨b0, b1, x0, x1, hdb⟩ := HDB.out
  have HDB := Lib.hid hdb
  clear hdb
  go_wp2_with fail
  refine (reads15 (l := []) (no := 2) (P := fun w' => wa = w') ((dx_read_no HDB.out 2 (by omega) 1).mono ?_)).mono ?_
  · rintro e w' ⟨rfl, rfl⟩
    exact ⟨_, 0, rfl, Ow.nil _ _ _, rfl⟩
  rintro e w' ⟨rfl, rfl⟩
  go_wp2_with fail
  refine (begins15 (l := [97]) (want := 2) (P := fun w' => Fr [] wa w') (by simp) fun w4 v Q f4 hr hq => ?_).mono ?_
  · obtain ⟨ra, rc, rfl, _⟩ := id hr
    refine (dx_begin_no (show DB w4 d b0 b1 x0 x1 from f4.keep HDB.out (by simp)) (-1) (by omega) ra _ rc _).mono ?_
    rintro e w' ⟨rfl, f⟩
    exact ⟨rfl, f4.then0 f⟩
  rintro e wb ⟨rfl, fb⟩
  have HG := Lib.hid (HK2.out.1.then0 fb)
  clear fb
  go_wp2_with fail
  go_ret
  exact ⟨rfl, HG.out⟩
end Go.Proofs.Ytdoamelhclnphaa
