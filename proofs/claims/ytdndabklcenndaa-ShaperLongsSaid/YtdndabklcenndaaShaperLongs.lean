/-
  Law 41: ShaperLongs: the greatest numbers of bytes.
-/
import Derived.Test.YtdndabklcenndaaShKnown
namespace Go.Proofs.Ytdndabklcenndaa
open Go.RowKit
set_option maxRecDepth 100000

theorem made_zeros (m : Nat) : madeCells #[Value.int .u8 0] m = ((bi (List.replicate m (0 : UInt8))).map (Value.int .u8)).toArray := by
  apply Array.ext
  · simp [madeCells, bi]
  · intro i h1 h2
    simp [madeCells, bi, Nat.mod_one]
theorem longs_send {n : Nat} (h1 : 0 < n) (h2 : n ≤ 65536) : sendE (newH 1000000 1 1000000 0 65536 0) 0 n = 0 ∧ sendNE (newH 1000000 1 1000000 0 65536 0) 0 n = n ∧
    sendH (newH 1000000 1 1000000 0 65536 0) 0 (List.replicate n 0) = { newH 1000000 1 1000000 0 65536 0 with l := 1000000 - n, segs := [(List.replicate n 0, 0)] } := by
  have hm : mayE (newH 1000000 1 1000000 0 65536 0) 0 (decide ((n : Int) ≤ 65536)) = 0 := by
    rw [show decide ((n : Int) ≤ 65536) = true by simp; omega]
    rfl
  have hn : sendN (newH 1000000 1 1000000 0 65536 0) n = n := by
    unfold sendN newH
    simp only [totS]
    omega
  have hl : lvH (newH 1000000 1 1000000 0 65536 0) 0 (n : Int) = 1000000 - n := by
    unfold lvH lvl newH
    dsimp only
    omega
  have hv : roomH (newH 1000000 1 1000000 0 65536 0) 0 (n : Int) = true := by
    unfold roomH
    exact decide_eq_true (by rw [hl]; show -1000000 * 1 ≤ _; omega)
  have ha : atH (newH 1000000 1 1000000 0 65536 0) 0 (n : Int) = 0 := by
    unfold atH
    rw [hl, show max 0 (-(1000000 - (n : Int))) = 0 by omega]
    rfl
  have he : sendE (newH 1000000 1 1000000 0 65536 0) 0 n = 0 := by
    unfold sendE
    rw [if_neg (by rw [hm]; decide), if_neg (by simp [newH]), if_neg (by rw [hn]; omega), if_neg (by rw [hn, hv]; simp)]
  refine ⟨he, ?_, ?_⟩
  · unfold sendNE
    rw [if_neg (by rw [he]; decide), hn]
  · unfold sendH
    rw [List.length_replicate, if_neg (by rw [he]; decide), hn, if_neg (by omega), hl, ha, List.take_of_length_le (by simp)]
    rfl
theorem longs_recv {n : Nat} (h1 : 0 < n) (h2 : n ≤ 65536) : recvE { newH 1000000 1 1000000 0 65536 0 with l := 1000000 - n, segs := [(List.replicate n 0, 0)] } 0 n = 0 ∧
    recvB { newH 1000000 1 1000000 0 65536 0 with l := 1000000 - n, segs := [(List.replicate n 0, 0)] } 0 n = List.replicate n 0 ∧
    (recvS { newH 1000000 1 1000000 0 65536 0 with l := 1000000 - n, segs := [(List.replicate n 0, 0)] } 0 n).segs = [] := by
  have he : recvE { newH 1000000 1 1000000 0 65536 0 with l := 1000000 - n, segs := [(List.replicate n 0, 0)] } 0 n = 0 := by
    unfold recvE
    rw [show (decide (0 ≤ (n : Int)) && decide ((n : Int) ≤ 65536)) = true by simp; omega]
    rw [if_neg (by simp [mayE, newH]), if_neg (by simp [newH])]
  have hr : recvL 0 n [(List.replicate n (0 : UInt8), (0 : Int))] = (List.replicate n 0, []) := by
    rw [recvL_all (by simp) h1 (by simp)]
    simp [recvL]
  refine ⟨he, ?_, ?_⟩
  · rw [recvB_ok he]
    simp only [Int.toNat_natCast, hr]
  · rw [recvS_ok he]
    unfold recvH
    simp only [Int.toNat_natCast, hr]

set_option maxHeartbeats 8000000 in
theorem shaperLongs_walk (n : Int) (w : World) :
    Calls Try.prog 9 #[.int .i64 n] w fun e w' => e = .returned (.bool true) ∧ Fr [] w w' := by
  by_cases h1 : n < 65530
  · go_enter Try.func9, Try.ntmps9
    go_wp2_with fail
    refine (known41 w).mono ?_
    rintro e w' ⟨rfl, f⟩
    go_wp2_with fail
    go_ret
    exact ⟨rfl, f⟩
  by_cases h2 : 65545 < n
  · go_enter Try.func9, Try.ntmps9
    go_wp2_with fail
    refine (known41 w).mono ?_
    rintro e w' ⟨rfl, f⟩
    go_wp2_with fail
    go_ret
    exact ⟨rfl, f⟩
  obtain ⟨n, rfl⟩ := Int.eq_ofNat_of_zero_le (a := n) (by omega)
  have hmk := run_make_row' (P := Try.prog) 68 5 (.int .u8 0) 1 Try.underlying68 (by kernel_rfl) rfl .i64 .i64 n (by omega) (by omega)
  rw [made_zeros] at hmk
  have hn1 : 65530 ≤ n := by omega
  have hn2 : n ≤ 65545 := by omega
  have HROW : Hid (∀ W : World, Sl (W.alloc (.cells ((bi (List.replicate n (0 : UInt8))).map (Value.int .u8)).toArray 5)) (some ⟨W.heap.size, 0, none⟩) (bi (List.replicate n 0))) := Lib.hid fun W => (SlV.toB (by
    intro h0
    refine ⟨_, 0, rfl, by simp, fun i hi => ?_⟩
    rw [cell_of (newA rfl)]
    simp))
  have HNEW := Lib.hid (ks_new (r := 1000000) (p := 1) (u := 1000000) (lat := 0) (lim := 65536) (now := 0) w w (by unfold ValS Val; omega) (by omega) (by omega) (Fr.refl _ _))
  have hln : (List.replicate n (0 : UInt8)).length = n := by simp
  by_cases h3 : 65536 < n
  · have h3' : (65536 : Int) < n := by omega
    have HE : Hid (∀ s : SH, recvE s 0 n = 2 ∧ sendE s 0 n = 2) := Lib.hid fun s => by
      have e1 : (decide (0 ≤ (n : Int)) && decide ((n : Int) ≤ 65536)) = false := by simp; omega
      have e2 : decide ((n : Int) ≤ 65536) = false := by simp; omega
      exact ⟨by unfold recvE; rw [e1, if_pos (by simp [mayE])]; rfl, by unfold sendE; rw [e2, if_pos (by simp [mayE])]; rfl⟩
    have HL := Lib.hid hln
    generalize List.replicate n (0 : UInt8) = data at *
    clear hln h1 h2
    go_enter Try.func9, Try.ntmps9
    go_wp2_with fail
    refine HNEW.out.mono ?_
    rintro e w1 ⟨b, k, rfl, h⟩
    replace h := Lib.hid h
    obtain ⟨s, hs⟩ : ∃ s, s = newH 1000000 1 1000000 0 65536 0 := ⟨_, rfl⟩
    rw [← hs] at h
    clear HNEW hs
    have HS := Lib.hid (HL.out ▸ ks_send (now := 0) h.out ((Fr.refl [] w1).alloc _) (by omega) (by omega) (pc := n) (HROW.out w1) (fun b' o' _ e => .inr (by injection e with e; injection e with e1; omega)) (by have := HL.out; omega) (by have := HL.out; omega))
    rw [show sendNE s 0 n = 0 by unfold sendNE; rw [if_pos (by rw [(HE.out s).2]; decide)], (HE.out s).2] at HS
    clear h
    go_wp2_with fail
    refine HS.out.mono ?_
    rintro e w2 ⟨rfl, h⟩
    replace h := Lib.hid h
    clear HS
    have HR := Lib.hid (ks_recv (now := 0) (most := n) h.out (by omega) (by omega))
    rw [(HE.out _).1, recvB_bad (by rw [(HE.out _).1]; decide)] at HR
    clear h
    go_wp2_with fail
    refine HR.out.mono ?_
    rintro e w3 ⟨v, rfl, h, o⟩
    obtain ⟨a, cap, rfl, _, _, _, _⟩ := o.formB
    rw [List.length_nil]
    replace h := Lib.hid h.fr
    clear HR o
    go_wp2_with fail
    refine (known41 _).mono ?_
    rintro e w4 ⟨rfl, f4⟩
    go_wp2_with fail
    go_ret
    exact ⟨rfl, h.out.then0 f4⟩
  · have h3' : (n : Int) ≤ 65536 := by omega
    have HSN := Lib.hid (longs_send (n := n) (by omega) (by omega))
    have HRC := Lib.hid (longs_recv (n := n) (by omega) (by omega))
    have HL := Lib.hid hln
    generalize List.replicate n (0 : UInt8) = data at *
    clear hln h1 h2
    go_enter Try.func9, Try.ntmps9
    go_wp2_with fail
    refine HNEW.out.mono ?_
    rintro e w1 ⟨b, k, rfl, h⟩
    replace h := Lib.hid h
    clear HNEW
    have HS := Lib.hid (HL.out ▸ ks_send (now := 0) h.out ((Fr.refl [] w1).alloc _) (by omega) (by omega) (pc := n) (HROW.out w1) (fun b' o' _ e => .inr (by injection e with e; injection e with e1; omega)) (by have := HL.out; omega) (by have := HL.out; omega))
    rw [HSN.out.2.1, HSN.out.1, HSN.out.2.2] at HS
    clear h
    go_wp2_with fail
    refine HS.out.mono ?_
    rintro e w2 ⟨rfl, h⟩
    replace h := Lib.hid h
    clear HS
    have HR := Lib.hid (ks_recv (now := 0) (most := n) h.out (by omega) (by omega))
    rw [HRC.out.1, HRC.out.2.1] at HR
    clear h
    go_wp2_with fail
    refine HR.out.mono ?_
    rintro e w3 ⟨v, rfl, h, o⟩
    obtain ⟨a, cap, rfl, _, _, _, _⟩ := o.formB
    rw [HL.out]
    have HX := Lib.hid (ks_len h)
    rw [HRC.out.2.2] at HX
    replace h := Lib.hid h
    clear HR o h
    go_wp2_with fail
    refine HX.out.mono ?_
    rintro e w4 ⟨rfl, h⟩
    replace h := Lib.hid h.fr
    clear HX
    go_wp2_with fail
    refine (known41 _).mono ?_
    rintro e w5 ⟨rfl, f4⟩
    go_wp2_with fail
    go_ret
    exact ⟨rfl, h.out.then0 f4⟩
end Go.Proofs.Ytdndabklcenndaa
