/-
  Law 41: known() returns true.
-/
import Derived.Test.YtdndabklcenndaaShKS
import Derived.Lib.SlBytesConst
namespace Go.Proofs.Ytdndabklcenndaa
open Go.RowKit
set_option maxRecDepth 100000

set_option maxHeartbeats 16000000 in
theorem known41 (w : World) : Calls Try.prog 26 #[] w fun e w' => e = .returned (.bool true) ∧ Fr [] w w' := by
  have hcv := fun (w : World) (C : Array Value) (n c : Nat) => Lib.run_convert_bytes_const (P := Try.prog) w 68 5 C n c Try.underlying68 Try.underlying5
  go_enter Try.func26, Try.ntmps26
  go_wp2_with fail
  refine (ks_new (r := 1) (p := 1) (u := 4) (lat := 10) (lim := 8) (now := 0) w w (by unfold ValS Val; omega) (by omega) (by omega) (Fr.refl _ _)).mono ?_
  rintro e w1 ⟨b, k, rfl, h⟩
  replace h : Hid (KS w w1 b k (⟨1, 1, 4, 4, 0, 10, 8, [], false, 0, 0⟩ : SH)) := Lib.hid h
  go_wp2_with fail
  refine (sends41 h.out (by decide) (by decide) [97, 98, 99, 100, 101, 102] (by decide) (by rfl) (n := 6) (by rfl) (s' := (⟨1, 1, 4, (-2), 0, 10, 8, [([97, 98, 99, 100, 101, 102], 12)], false, 0, 0⟩ : SH)) (by rfl)).mono ?_
  clear h
  rintro e w2 ⟨rfl, h⟩
  replace h := Lib.hid h
  go_wp2_with fail
  refine (sends41 h.out (by decide) (by decide) [103, 104, 105] (by decide) (by rfl) (n := 2) (by rfl) (s' := (⟨1, 1, 4, (-4), 0, 10, 8, [([97, 98, 99, 100, 101, 102], 12), ([103, 104], 14)], false, 0, 0⟩ : SH)) (by rfl)).mono ?_
  clear h
  rintro e w3 ⟨rfl, h⟩
  replace h := Lib.hid h
  go_wp2_with fail
  refine (ks_len h.out).mono ?_
  clear h
  rintro e w4 ⟨rfl, h⟩
  replace h := Lib.hid h
  go_wp2_with fail
  refine (ks_next h.out).mono ?_
  rintro e w' ⟨rfl, rfl⟩
  go_wp2_with fail
  refine (gets41 h.out (most := 10) (by decide) (by decide) [] (by rfl) (by rfl) (s' := (⟨1, 1, 4, (-4), 0, 10, 8, [([97, 98, 99, 100, 101, 102], 12), ([103, 104], 14)], false, 0, 9⟩ : SH)) (by rfl)).mono ?_
  clear h
  rintro e w5 ⟨rfl, h⟩
  replace h := Lib.hid h
  go_wp2_with fail
  refine (gets41 h.out (most := 10) (by decide) (by decide) [] (by rfl) (by rfl) (s' := (⟨1, 1, 4, (-4), 0, 10, 8, [([97, 98, 99, 100, 101, 102], 12), ([103, 104], 14)], false, 0, 11⟩ : SH)) (by rfl)).mono ?_
  clear h
  rintro e w6 ⟨rfl, h⟩
  replace h := Lib.hid h
  go_wp2_with fail
  refine (gets41 h.out (most := 4) (by decide) (by decide) [97, 98, 99, 100] (by rfl) (by rfl) (s' := (⟨1, 1, 4, (-4), 0, 10, 8, [([101, 102], 12), ([103, 104], 14)], false, 0, 12⟩ : SH)) (by rfl)).mono ?_
  clear h
  rintro e w7 ⟨rfl, h⟩
  replace h := Lib.hid h
  go_wp2_with fail
  refine (ks_ready h.out (now := 14) (by rfl)).mono ?_
  clear h
  rintro e w8 ⟨rfl, h⟩
  replace h := Lib.hid h
  go_wp2_with fail
  refine (sends41 h.out (by decide) (by decide) [120] (by decide) (by rfl) (n := 1) (by rfl) (s' := (⟨1, 1, 4, 3, 12, 10, 8, [([101, 102], 12), ([103, 104], 14), ([120], 22)], false, 0, 12⟩ : SH)) (by rfl)).mono ?_
  clear h
  rintro e w9 ⟨rfl, h⟩
  replace h := Lib.hid h
  go_wp2_with fail
  refine (ks_close (now := 12) h.out (by decide) (by decide)).mono ?_
  clear h
  rintro e w10 ⟨rfl, h⟩
  replace h : Hid (KS w w10 b k (⟨1, 1, 4, 3, 12, 10, 8, [([101, 102], 12), ([103, 104], 14), ([120], 22)], true, 22, 12⟩ : SH)) := Lib.hid h
  go_wp2_with fail
  refine (gets41 h.out (most := 10) (by decide) (by decide) [101, 102, 103, 104] (by rfl) (by rfl) (s' := (⟨1, 1, 4, 3, 12, 10, 8, [([120], 22)], true, 22, 14⟩ : SH)) (by rfl)).mono ?_
  clear h
  rintro e w11 ⟨rfl, h⟩
  replace h := Lib.hid h
  go_wp2_with fail
  refine (ks_next h.out).mono ?_
  rintro e w' ⟨rfl, rfl⟩
  go_wp2_with fail
  refine (gets41 h.out (most := 10) (by decide) (by decide) [120] (by rfl) (by rfl) (s' := (⟨1, 1, 4, 3, 12, 10, 8, [], true, 22, 23⟩ : SH)) (by rfl)).mono ?_
  clear h
  rintro e w12 ⟨rfl, h⟩
  replace h := Lib.hid h
  go_wp2_with fail
  refine (ks_recv (now := 23) (most := 1) h.out (by decide) (by decide)).mono ?_
  clear h
  rintro e w13 ⟨v, rfl, h, o⟩
  obtain ⟨a, cap, rfl, _, _, _, _⟩ := o.formB
  replace h : Hid (KS w w13 b k (⟨1, 1, 4, 3, 12, 10, 8, [], true, 22, 23⟩ : SH)) := Lib.hid h
  clear o
  have hx : recvE (⟨1, 1, 4, 3, 12, 10, 8, [], true, 22, 23⟩ : SH) 23 1 = 13 := by rfl
  go_wp2_with fail
  refine (ks_send (now := 23) (data := [121]) h.out ((Fr.refl [] w13).alloc _) (by decide) (by decide) (lit_sl (w := w13) (l := [121])) (fun b' o' _ e => .inr (by injection e with e; injection e with e1; omega)) (by decide) (by decide)).mono ?_
  clear h
  rintro e w14 ⟨rfl, h⟩
  replace h := Lib.hid h.fr
  go_wp2_with fail
  go_ret
  exact ⟨rfl, h.out⟩
end Go.Proofs.Ytdndabklcenndaa
