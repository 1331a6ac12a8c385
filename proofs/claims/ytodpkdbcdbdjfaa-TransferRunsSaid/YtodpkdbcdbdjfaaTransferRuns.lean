/-
  Law 21: TransferRuns: a whole transfer.
-/
import Derived.Test.YtodpkdbcdbdjfaaTrRunLaw
import Derived.Test.YtodpkdbcdbdjfaaTrHold
namespace Go.Proofs.Ytodpkdbcdbdjfaa
open Go.RowKit
set_option maxRecDepth 100000

set_option maxHeartbeats 16000000 in
theorem transferRuns_main {sgn : Nat} {lm : Int} {da ra wa : Option Addr} {dc rc wc : Nat} {D R Wb : List UInt8} {en : Int} (w : World) (hk : okS sgn lm = true) (h100 : sgn ≤ 100) (hD : Arg w w.heap.size da D.length dc D) (hR : Arg w w.heap.size ra R.length rc R) (hW : Arg w w.heap.size wa Wb.length wc Wb) (hd : D.length ≤ 400) (hr : R.length ≤ 40) (hw : Wb.length ≤ 40) (hen : codeE en = true) :
    Calls Try.prog 3 #[.int .u8 sgn, .int .i64 lm, .slice da D.length dc, .slice ra R.length rc, .slice wa Wb.length wc, .int .i64 en] w fun e w' => e = .returned (.bool true) ∧ Fr [] w w' := by
  have HVA := Lib.hid fun w => hk ▸ rvalid w sgn lm
  have HCO := Lib.hid fun w => hen ▸ rcode w en
  have HNEW := Lib.hid (tr_new_ok w hk)
  have HSG := Lib.hid (okS_iff.1 hk)
  have HEN := Lib.hid hen
  have hd' : (D.length : Int) ≤ 400 := by omega
  have hr' : (R.length : Int) ≤ 40 := by omega
  have hw' : (Wb.length : Int) ≤ 40 := by omega
  have hs' : (sgn : Int) ≤ 100 := by omega
  clear hk hen
  go_enter Try.func3, Try.ntmps3
  go_wp2_with fail
  refine (HVA.out _).mono ?_
  rintro e w' ⟨rfl, rfl⟩
  go_wp2_with fail
  refine (HCO.out _).mono ?_
  rintro e w' ⟨rfl, rfl⟩
  go_wp2_with fail
  refine HNEW.out.mono ?_
  rintro e w1 ⟨rfl, g1, h1⟩
  have D1 := hD.keep g1 (Nat.le_refl _) (by simp)
  have R1 := hR.keep g1 (Nat.le_refl _) (by simp)
  have W1 := hW.keep g1 (Nat.le_refl _) (by simp)
  have s1 : HS2 w1 w.heap.size w.heap.size (newT sgn lm) (.slice none 0 0) (.slice none 0 0) [] [] := ⟨⟨_, h1, by simp [Value.ownBlock], by simp [Value.ownBlock]⟩, Ow.nil _ _ _, Ow.nil _ _ _, by simp [Value.ownBlock], by simp [Value.ownBlock], by simp [Value.ownBlock]⟩
  obtain ⟨b, hb⟩ : ∃ b, w.heap.size = b := ⟨_, rfl⟩
  have hbw : w.heap.size ≤ b := by omega
  have S1 : Hid (HS2 w1 w.heap.size b (newT sgn lm) (.slice none 0 0) (.slice none 0 0) [] []) := Lib.hid (by rw [← hb]; exact s1)
  try rw [hb]
  clear hb s1 h1 HNEW HVA HCO hD hR hW
  go_wp2_with fail
  go_loopw [15, 16, 17, 18, 19] (fun vo va vi vk vn wr => ∃ (n at_ i k : Nat) (t : TS) (O : List UInt8), vn = .int .i64 n ∧ va = .int .i64 at_ ∧ vi = .int .i64 i ∧ vk = .int .i64 k ∧ i ≤ n ∧ k ≤ n ∧ Hid (RI sgn lm D en t O at_ n) ∧ Hid (HS2 wr w.heap.size b t (.slice none 0 0) vo [] O) ∧ Fr [] w wr ∧ Arg wr w.heap.size da D.length dc D ∧ Arg wr w.heap.size ra R.length rc R ∧ Arg wr w.heap.size wa Wb.length wc Wb) (fun _ _ _ _ n _ => 2000 - (intOf n).toNat)
  case atStart => exact ⟨0, 0, 0, 0, newT sgn lm, [], rfl, rfl, rfl, rfl, by omega, by omega, Lib.hid (RI.new _ _ _ _), S1, g1, D1, R1, W1⟩
  case round =>
    clear S1 g1 D1 R1 W1
    obtain ⟨n, at_, i, k, t, O, rfl, rfl, rfl, rfl, hin, hkn, HI, HH, gr, Dr, Rr, Wr⟩ := hrel
    rename World => wr
    have hn2 : (n : Int) < 2000 := by have := HI.out.small hd; omega
    have hal : (at_ : Int) ≤ D.length := by have := HI.out.le; omega
    have hrd : t.rd ≤ 400 := by rw [HI.out.rd]; omega
    have HNX := Lib.hid (HH.out.next (by omega))
    have hkd := HI.out.kind
    obtain ⟨kd, sd, m, d, ex, hx⟩ : ∃ k s m d er, nextT t = ⟨k, s, m, d, er⟩ := ⟨_, _, _, _, _, rfl⟩
    rw [hx] at HNX
    have HX := Lib.hid hx
    rw [hx] at hkd
    have HKD : Hid (kd = 1 ∨ kd = 2 ∨ kd = 4) := Lib.hid hkd
    clear hx hkd
    go_wp2_with fail
    refine HNX.out.mono ?_
    rintro e w2 ⟨nv, rfl, f2, hv⟩
    clear HNX
    obtain ⟨nu, rfl, ou⟩ := hv
    obtain ⟨ga, gc, rfl, hgc, hgm, hsl, hgn⟩ := ou.formB
    obtain ⟨wb, hwb, f, bx⟩ : ∃ W, w2.alloc (.cells #[.int .i64 kd, .int .i64 sd, .int .i64 m, .slice ga d.length gc, .int .i64 ex] 32) = W ∧ Fr [] w2 W ∧ WB W w2.heap.size (.int .i64 kd) (.int .i64 sd) (.int .i64 m) (.slice ga d.length gc) (.int .i64 ex) := ⟨_, rfl, (Fr.refl _ _).alloc _, newA rfl⟩
    have fb := f2.then0 f
    have gr0 := gr.size
    have hMb : w.heap.size ≤ wb.heap.size := Nat.le_trans gr0 fb.size
    have hbr := HH.out.lt
    have HB := Lib.hid (HH.out.keep0 fb)
    have gb := Lib.hid (gr.then0 fb)
    have Db := Lib.hid (Dr.keep fb gr0 (by simp))
    have Rb := Lib.hid (Rr.keep fb gr0 (by simp))
    have Wb2 := Lib.hid (Wr.keep fb gr0 (by simp))
    have HSL := Lib.hid (sl_keep hsl f (by simp))
    have HGN := Lib.hid hgn
    have hXb : b < w2.heap.size := Nat.lt_of_lt_of_le HH.out.lt f2.size
    have HBX := Lib.hid fun w3 (f3 : Fr [b] wb w3) => (show WC w3 w2.heap.size (.int .i64 kd) (.int .i64 sd) (.int .i64 m) (.slice ga d.length gc) (.int .i64 ex) from WB.cells (f3.keep bx (show w2.heap.size ∉ [b] by simp; omega)))
    obtain ⟨x0, x1, x2, x3, x4, _, _, _, _, _⟩ := bx.cells
    have HU : Hid (Try.prog.underlying 22 = some (.slice 5)) := Lib.hid Try.underlying22
    have HIN : Hid ((Try.prog.info? 5).map (fun i => (i.zero, i.size, i.bytes)) = some (some (.int .u8 0), 1, 1)) := Lib.hid (by kernel_rfl)
    obtain ⟨g10, k10, rfl, p10, _⟩ := HB.out.o10.formB
    clear ou hsl f f2 fb HH gr Dr Rr Wr hgn bx
    rcases HKD.out with rfl | rfl | rfl
    · as_aux_lemma =>
      have hmr := HI.out.more HB.out.ok (by rw [HX.out])
      rw [HX.out] at hmr
      obtain ⟨hm1, hm2, hts, htr⟩ := hmr
      dsimp only at hm1 hm2
      have HTS := Lib.hid hts
      clear hts htr
      obtain ⟨m', rfl⟩ : ∃ m' : Nat, m = m' := ⟨m.toNat, by omega⟩
      go_upto_if 82 with fail
      go_cut [17, 21] (fun vi vs wx => ∃ i2 s0 : Nat, vi = .int .i64 i2 ∧ vs = .int .i64 s0 ∧ i2 ≤ i + 1 ∧ 1 ≤ s0 ∧ s0 ≤ m' ∧ Fr [] wb wx)
      case first =>
        by_cases hR0 : (0 : Int) < R.length
        · obtain ⟨rb, ro, rfl, hrb, hrc⟩ := Rb.out.sl (by rw [bi_length]; omega)
          have hiR : i % R.length < R.length := Nat.mod_lt _ (by omega)
          have hcell := hrc (i % R.length) (by rw [bi_length]; exact hiR)
          rw [bi_getD R _ hiR] at hcell
          have hq := R[i % R.length].toNat_lt
          generalize R[i % R.length].toNat = q at hcell hq
          have hRne : ¬ R = [] := fun e => by rw [e] at hR0; simp at hR0
          have htm : (i : Int).tmod R.length = ((i % R.length : Nat) : Int) := rfl
          generalize i % R.length = j at hiR hcell htm
          have hjR : (j : Int) < R.length := by omega
          have hj0 : (0 : Int) ≤ j := by omega
          have hmx : (if 1 < (m' : Int) then (m' : Int) else 1) = m' := by split <;> omega
          have hmx2 : (if 1 < m' then (m' : Int) else 1) = m' := by split <;> omega
          have hm0 : ¬ m' = 0 := by omega
          have hm0i : ¬ (m' : Int) = 0 := by omega
          have hqm : q % m' < m' := Nat.mod_lt _ (by omega)
          have htm2 : (q : Int).tmod m' = ((q % m' : Nat) : Int) := rfl
          generalize q % m' = q2 at hqm htm2
          have hwr : IntKind.i64.wrap (1 + (q2 : Int)) = 1 + q2 := IntWalk.i64_in _ (by omega)
          have hwq : IntKind.i64.wrap (q : Int) = q := IntWalk.i64_in _ (by omega)
          have hi' : (i : Int) ≤ 2000 := by omega
          have HF1 := Lib.hid fun (w1 : World) (f : Fr [] wb w1) => (show w1.cell? ⟨rb, ro + j, none⟩ = some (.int .u8 q) ∧ w1.cell? ⟨w2.heap.size, 2, none⟩ = some (.int .i64 m') from ⟨(World.cell?_of_block (w := wb) (f.block rb hrb (by simp))).trans hcell, (World.cell?_of_block (w := wb) (f.block _ (by have := World.block_lt_of_cell? _ _ x2; exact this) (by simp))).trans x2⟩)
          clear hrc hcell
          go_wp2_with fail
          refine wp_region_order [(0, true), (1, true), (2, true), (3, true), (4, true), (5, true), (6, true), (7, true), (8, true), (9, true), (10, true), (11, true), (12, true), (13, true)] (fun w' => Fr [] wb w') (by kernel_rfl) (by kernel_rfl) (Fr.refl _ _).drew ?_
          intro OPS HOPS
          have hops := HOPS.out
          try simp only [List.append_eq, List.cons_append, List.nil_append] at hops
          replace HOPS := Lib.hid hops
          clear hops
          refine walkO_take (o := _) (v := ?_) (by rw [HOPS.out]; simp only [List.getElem?_toArray, List.getElem?_cons_succ, List.getElem?_cons_zero]; exact rfl) (Or.inl ⟨rfl, ?_⟩) ?_
          rotate_left
          · (intro w hSw; have hSx := HF1.out _ hSw; (try dsimp only at hSx); clear hSw; go_simp) <;> (with_reducible rfl)
          simp only [Act.put, List.setIfInBounds_toArray, List.set_cons_zero, List.set_cons_succ]
          refine walkO_take (o := _) (v := ?_) (by rw [HOPS.out]; simp only [List.getElem?_toArray, List.getElem?_cons_succ, List.getElem?_cons_zero]; exact rfl) (Or.inl ⟨rfl, ?_⟩) ?_
          rotate_left
          · (intro w hSw; have hSx := HF1.out _ hSw; (try dsimp only at hSx); clear hSw; go_simp) <;> (with_reducible rfl)
          simp only [Act.put, List.setIfInBounds_toArray, List.set_cons_zero, List.set_cons_succ]
          refine walkO_take (o := _) (v := ?_) (by rw [HOPS.out]; simp only [List.getElem?_toArray, List.getElem?_cons_succ, List.getElem?_cons_zero]; exact rfl) (Or.inl ⟨rfl, ?_⟩) ?_
          rotate_left
          · (intro w hSw; have hSx := HF1.out _ hSw; (try dsimp only at hSx); clear hSw; go_simp) <;> (with_reducible rfl)
          simp only [Act.put, List.setIfInBounds_toArray, List.set_cons_zero, List.set_cons_succ]
          refine walkO_take (o := _) (v := ?_) (by rw [HOPS.out]; simp only [List.getElem?_toArray, List.getElem?_cons_succ, List.getElem?_cons_zero]; exact rfl) (Or.inl ⟨rfl, ?_⟩) ?_
          rotate_left
          · (intro w hSw; have hSx := HF1.out _ hSw; (try dsimp only at hSx); clear hSw; go_simp) <;> (with_reducible rfl)
          simp only [Act.put, List.setIfInBounds_toArray, List.set_cons_zero, List.set_cons_succ]
          refine walkO_take (o := _) (v := ?_) (by rw [HOPS.out]; simp only [List.getElem?_toArray, List.getElem?_cons_succ, List.getElem?_cons_zero]; exact rfl) (Or.inl ⟨rfl, ?_⟩) ?_
          rotate_left
          · (intro w hSw; have hSx := HF1.out _ hSw; (try dsimp only at hSx); clear hSw; go_simp) <;> (with_reducible rfl)
          simp only [Act.put, List.setIfInBounds_toArray, List.set_cons_zero, List.set_cons_succ]
          refine walkO_take (o := _) (v := ?_) (by rw [HOPS.out]; simp only [List.getElem?_toArray, List.getElem?_cons_succ, List.getElem?_cons_zero]; exact rfl) (Or.inl ⟨rfl, ?_⟩) ?_
          rotate_left
          · (intro w hSw; have hSx := HF1.out _ hSw; (try dsimp only at hSx); clear hSw; go_simp) <;> (with_reducible rfl)
          simp only [Act.put, List.setIfInBounds_toArray, List.set_cons_zero, List.set_cons_succ]
          refine walkO_take (o := _) (v := ?_) (by rw [HOPS.out]; simp only [List.getElem?_toArray, List.getElem?_cons_succ, List.getElem?_cons_zero]; exact rfl) (Or.inl ⟨rfl, ?_⟩) ?_
          rotate_left
          · (intro w hSw; have hSx := HF1.out _ hSw; (try dsimp only at hSx); clear hSw; go_simp) <;> (with_reducible rfl)
          simp only [Act.put, List.setIfInBounds_toArray, List.set_cons_zero, List.set_cons_succ]
          refine walkO_take (o := _) (v := ?_) (by rw [HOPS.out]; simp only [List.getElem?_toArray, List.getElem?_cons_succ, List.getElem?_cons_zero]; exact rfl) (Or.inl ⟨rfl, ?_⟩) ?_
          rotate_left
          · (intro w hSw; have hSx := HF1.out _ hSw; (try dsimp only at hSx); clear hSw; go_simp) <;> (with_reducible rfl)
          simp only [Act.put, List.setIfInBounds_toArray, List.set_cons_zero, List.set_cons_succ]
          refine walkO_take (o := _) (v := ?_) (by rw [HOPS.out]; simp only [List.getElem?_toArray, List.getElem?_cons_succ, List.getElem?_cons_zero]; exact rfl) (Or.inl ⟨rfl, ?_⟩) ?_
          rotate_left
          · (intro w hSw; have hSx := HF1.out _ hSw; (try dsimp only at hSx); clear hSw; go_simp) <;> (with_reducible rfl)
          simp only [Act.put, List.setIfInBounds_toArray, List.set_cons_zero, List.set_cons_succ]
          refine walkO_take (o := _) (v := ?_) (by rw [HOPS.out]; simp only [List.getElem?_toArray, List.getElem?_cons_succ, List.getElem?_cons_zero]; exact rfl) (Or.inl ⟨rfl, ?_⟩) ?_
          rotate_left
          · (intro w hSw; have hSx := HF1.out _ hSw; (try dsimp only at hSx); clear hSw; go_simp) <;> (with_reducible rfl)
          simp only [Act.put, List.setIfInBounds_toArray, List.set_cons_zero, List.set_cons_succ]
          refine walkO_take (o := _) (v := ?_) (by rw [HOPS.out]; simp only [List.getElem?_toArray, List.getElem?_cons_succ, List.getElem?_cons_zero]; exact rfl) (Or.inl ⟨rfl, ?_⟩) ?_
          rotate_left
          · (intro w hSw; have hSx := HF1.out _ hSw; (try dsimp only at hSx); clear hSw; go_simp) <;> (with_reducible rfl)
          simp only [Act.put, List.setIfInBounds_toArray, List.set_cons_zero, List.set_cons_succ]
          refine walkO_take (o := _) (v := ?_) (by rw [HOPS.out]; simp only [List.getElem?_toArray, List.getElem?_cons_succ, List.getElem?_cons_zero]; exact rfl) (Or.inl ⟨rfl, ?_⟩) ?_
          rotate_left
          · (intro w hSw; have hSx := HF1.out _ hSw; (try dsimp only at hSx); clear hSw; go_simp) <;> (with_reducible rfl)
          simp only [Act.put, List.setIfInBounds_toArray, List.set_cons_zero, List.set_cons_succ]
          refine walkO_take (o := _) (v := ?_) (by rw [HOPS.out]; simp only [List.getElem?_toArray, List.getElem?_cons_succ, List.getElem?_cons_zero]; exact rfl) (Or.inl ⟨rfl, ?_⟩) ?_
          rotate_left
          · (intro w hSw; have hSx := HF1.out _ hSw; (try dsimp only at hSx); clear hSw; go_simp) <;> (with_reducible rfl)
          simp only [Act.put, List.setIfInBounds_toArray, List.set_cons_zero, List.set_cons_succ]
          refine walkO_take (o := _) (v := ?_) (by rw [HOPS.out]; simp only [List.getElem?_toArray, List.getElem?_cons_succ, List.getElem?_cons_zero]; exact rfl) (Or.inl ⟨rfl, ?_⟩) ?_
          rotate_left
          · (intro w hSw; have hSx := HF1.out _ hSw; (try dsimp only at hSx); clear hSw; go_simp) <;> (with_reducible rfl)
          simp only [Act.put, List.setIfInBounds_toArray, List.set_cons_zero, List.set_cons_succ]
          refine walkO_done ?_
          clear HOPS OPS
          go_wp2_with fail
          go_meet
          exact ⟨i + 1, 1 + q2, by go_num, by go_num, by omega, by omega, by omega, (Fr.refl _ _).drew⟩
        · go_wp2_with fail
          go_meet
          exact ⟨i, m', rfl, rfl, by omega, by omega, by omega, Fr.refl _ _⟩
      case rest =>
        obtain ⟨i2, s0, rfl, rfl, hi2, hs1, hs2, fx⟩ := hcut
        have HB2 := Lib.hid (HB.out.keep0 fx)
        have gb2 := Lib.hid (gb.out.then0 fx)
        have Db2 := Lib.hid (Db.out.keep fx hMb (by simp))
        have Rb2 := Lib.hid (Rb.out.keep fx hMb (by simp))
        have Wb3 := Lib.hid (Wb2.out.keep fx hMb (by simp))
        have hMc : w.heap.size ≤ wc.heap.size := Nat.le_trans hMb fx.size
        have hX2 : wc.cell? ⟨w2.heap.size, 2, none⟩ = some (.int .i64 m') := (HBX.out _ (fx.mono (by simp))).c2
        clear HB gb Db Rb Wb2 x0 x1 x2 x3 x4 hwb hMb HBX HSL HGN fx
        go_upto_region 19 with fail
        go_cut [21] (fun vs wx => ∃ s : Nat, vs = .int .i64 s ∧ s ≤ s0 ∧ at_ + s ≤ D.length ∧ (s = 0 → at_ = D.length) ∧ wx = wc)
        case first =>
          rcases (show (s0 : Int) ≤ (D.length : Int) - at_ ∨ (D.length : Int) - at_ < s0 by omega) with hd2 | hd2
          · go_wp2_with fail
            go_meet
            exact ⟨s0, rfl, by omega, by omega, by omega, rfl⟩
          · go_wp2_with fail
            go_meet
            exact ⟨D.length - at_, by rw [show ((D.length - at_ : Nat) : Int) = (D.length : Int) - at_ from by omega], by omega, by omega, by omega, rfl⟩
        case rest =>
          obtain ⟨s, rfl, hss0, hat, hs00, rfl⟩ := hcut
          go_upto_region 21 with fail
          go_cut [118] (fun vb wx => ∃ bo : Bool, vb = .bool bo ∧ (bo = true → at_ + s = D.length) ∧ (s = 0 → bo = true) ∧ wx = wc)
          case first =>
            by_cases q1 : at_ + s = D.length
            · have q1b : ((at_ : Int) + s == D.length) = true := by rw [beq_iff_eq]; omega
              by_cases q2 : s = 0
              · have q2b : ((s : Int) == 0) = true := by rw [beq_iff_eq]; omega
                have q2c : (s == 0) = true := by rw [beq_iff_eq]; omega
                have Q1 := Lib.hid q1
                clear q1 q2
                go_wp2_with fail
                go_meet
                exact ⟨true, rfl, fun _ => Q1.out, fun _ => rfl, rfl⟩
              · have q2b : ((s : Int) == 0) = false := by rw [beq_eq_false_iff_ne]; omega
                have Q1 := Lib.hid q1
                have Q2 := Lib.hid q2
                clear q1 q2
                by_cases q3 : i2 % 2 = 0
                · have q3b : ((i2 : Int) % 2 == 0) = true := by rw [beq_iff_eq]; omega
                  clear q3
                  go_wp2_with fail
                  go_meet
                  exact ⟨true, rfl, fun _ => Q1.out, fun _ => rfl, rfl⟩
                · have q3b : ((i2 : Int) % 2 == 0) = false := by rw [beq_eq_false_iff_ne]; omega
                  clear q3
                  go_wp2_with fail
                  go_meet
                  exact ⟨false, rfl, fun h => by simp at h, fun h => absurd h Q2.out, rfl⟩
            · have q1b : ((at_ : Int) + s == D.length) = false := by rw [beq_eq_false_iff_ne]; omega
              have Q1 := Lib.hid q1
              clear q1
              go_wp2_with fail
              go_meet
              exact ⟨false, rfl, fun h => by simp at h, fun h => by have := Q1.out; omega, rfl⟩
          case rest =>
            obtain ⟨bo, rfl, hb1, hb2, rfl⟩ := hcut
            have HBO := Lib.hid (And.intro hb1 hb2)
            have hl : ((D.drop at_).take s).length = s := by rw [List.length_take, List.length_drop]; omega
            have hrun : ∀ w, (Instr.slice 22 (.slice da D.length dc) (some (.int .i64 at_)) (some (.int .i64 ((at_ : Int) + s))) none).run Try.prog w = .ok (.slice (cutp da dc at_) s (dc - at_)) w := fun w => by
              have h := run_cutp (pa := da) (plen := D.length) (pcap := dc) (l := at_) (h := at_ + s) (by omega) (by have := Db2.out.le; omega) w
              rwa [show ((at_ + s : Nat) : Int) = (at_ : Int) + s from by omega, show at_ + s - at_ = s from by omega] at h
            have HSD := Lib.hid (show Sl wc (cutp da dc at_) (bi ((D.drop at_).take s)) from by
              rw [bi_take, bi_drop]
              exact cutp_sl Db2.out.sl (by rw [bi_length]; exact Db2.out.le) (by rw [bi_length]; exact hat))
            have HGT := Lib.hid fun (c : Int) => HB2.out.got (pcap := dc - at_) (by omega) HSD.out (by rw [hl]; omega) c
            have HRD := Lib.hid fun (c : Int) (h1 : c = 0 ∨ (c = en ∧ at_ + s = D.length)) (h2 : s = 0 → c = en) => HI.out.read HB2.out.ok HEN.out (by rw [HX.out]) hat (by rw [HX.out]; show (s : Int) ≤ m'; omega) h1 h2
            rw [hl] at HGT
            generalize (D.drop at_).take s = p at HGT HRD
            clear hl hb1 hb2 HSD hs00
            cases bo with
            | true =>
              have HR1 := Lib.hid (HRD.out en (.inr ⟨rfl, HBO.out.1 rfl⟩) (fun _ => rfl))
              have HG1 := Lib.hid (HR1.out.1 ▸ HGT.out en)
              clear HRD HGT
              as_aux_lemma =>
                go_wp2_with fail
                refine HG1.out.mono ?_
                rintro e w3 ⟨rfl, f3, s3⟩
                have s3h := Lib.hid s3
                have g3 : Fr [] w w3 := gb2.out.trans f3 (by simp) (fun x hx => .inr (by simp at hx; omega))
                have hS : ∀ x ∈ [b], w.heap.size ≤ x := by simp; omega
                have D3 := Db2.out.keep f3 hMc hS
                have R3 := Rb2.out.keep f3 hMc hS
                have W3 := Wb3.out.keep f3 hMc hS
                clear s3 f3
                go_wp2_with fail
                go_roundw
                case rel => exact ⟨n + 1, at_ + s, i2, k, _, O, by go_num, by go_num, rfl, rfl, by omega, by omega, Lib.hid HR1.out.2, s3h, g3, D3, R3, W3⟩
                case measure => simp [intOf]; omega
            | false =>
              have HR1 := Lib.hid (HRD.out 0 (.inl rfl) (fun h => by have := HBO.out.2 h; simp at this))
              have HG1 := Lib.hid (HR1.out.1 ▸ HGT.out 0)
              clear HRD HGT
              as_aux_lemma =>
                go_wp2_with fail
                refine HG1.out.mono ?_
                rintro e w3 ⟨rfl, f3, s3⟩
                have s3h := Lib.hid s3
                have g3 : Fr [] w w3 := gb2.out.trans f3 (by simp) (fun x hx => .inr (by simp at hx; omega))
                have hS : ∀ x ∈ [b], w.heap.size ≤ x := by simp; omega
                have D3 := Db2.out.keep f3 hMc hS
                have R3 := Rb2.out.keep f3 hMc hS
                have W3 := Wb3.out.keep f3 hMc hS
                clear s3 f3
                go_wp2_with fail
                go_roundw
                case rel => exact ⟨n + 1, at_ + s, i2, k, _, O, by go_num, by go_num, rfl, rfl, by omega, by omega, Lib.hid HR1.out.2, s3h, g3, D3, R3, W3⟩
                case measure => simp [intOf]; omega
    · as_aux_lemma =>
      have hd0 := nextT_k2 (t := t) (by rw [HX.out])
      obtain ⟨_, hsn, hxe⟩ := hd0
      have hds : d = t.s := by have h := HX.out; rw [hxe] at h; injection h with _ _ _ h _; exact h.symm
      have hd1 : 1 ≤ d.length := by rw [hds]; exact List.length_pos_iff.2 hsn
      have hd4 : d.length ≤ 400 := by have h := HI.out.olen; have h2 := HI.out.le; rw [hds]; omega
      have HDS := Lib.hid hds
      have hO4 : O.length ≤ 400 := by have h := HI.out.olen; have h2 := HI.out.le; omega
      clear hsn hxe hds
      go_upto_if 152 with fail
      go_cut [18, 23] (fun vi vs wx => ∃ k2 s0 : Nat, vi = .int .i64 k2 ∧ vs = .int .i64 s0 ∧ k2 ≤ k + 1 ∧ 1 ≤ s0 ∧ s0 ≤ d.length ∧ Fr [] wb wx)
      case first =>
        by_cases hR0 : (0 : Int) < Wb.length
        · obtain ⟨rb, ro, rfl, hrb, hrc⟩ := Wb2.out.sl (by rw [bi_length]; omega)
          have hiR : k % Wb.length < Wb.length := Nat.mod_lt _ (by omega)
          have hcell := hrc (k % Wb.length) (by rw [bi_length]; exact hiR)
          rw [bi_getD Wb _ hiR] at hcell
          have hq := Wb[k % Wb.length].toNat_lt
          generalize Wb[k % Wb.length].toNat = q at hcell hq
          have hRne : ¬ Wb = [] := fun e => by rw [e] at hR0; simp at hR0
          have htm : (k : Int).tmod Wb.length = ((k % Wb.length : Nat) : Int) := rfl
          generalize k % Wb.length = j at hiR hcell htm
          have hjR : (j : Int) < Wb.length := by omega
          have hj0 : (0 : Int) ≤ j := by omega
          obtain ⟨m', hm'⟩ : ∃ m' : Nat, d.length = m' := ⟨_, rfl⟩
          have HM := Lib.hid hm'
          rw [hm'] at hd1 hd4 x3 ⊢
          clear hm'
          have hmx : (if 1 < (m' : Int) then (m' : Int) else 1) = m' := by split <;> omega
          have hmx2 : (if 1 < m' then (m' : Int) else 1) = m' := by split <;> omega
          have hm0 : ¬ m' = 0 := by omega
          have hm0i : ¬ (m' : Int) = 0 := by omega
          have hqm : q % m' < m' := Nat.mod_lt _ (by omega)
          have htm2 : (q : Int).tmod m' = ((q % m' : Nat) : Int) := rfl
          generalize q % m' = q2 at hqm htm2
          have hwr : IntKind.i64.wrap (1 + (q2 : Int)) = 1 + q2 := IntWalk.i64_in _ (by omega)
          have hwq : IntKind.i64.wrap (q : Int) = q := IntWalk.i64_in _ (by omega)
          have hi' : (k : Int) ≤ 2000 := by omega
          have HF1 := Lib.hid fun (w1 : World) (f : Fr [] wb w1) => (show w1.cell? ⟨rb, ro + j, none⟩ = some (.int .u8 q) ∧ w1.cell? ⟨w2.heap.size, 3, none⟩ = some (.slice ga m' gc) from ⟨(World.cell?_of_block (w := wb) (f.block rb hrb (by simp))).trans hcell, (World.cell?_of_block (w := wb) (f.block _ (by have := World.block_lt_of_cell? _ _ x3; exact this) (by simp))).trans x3⟩)
          clear hrc hcell
          go_wp2_with fail
          refine wp_region_order [(0, true), (1, true), (2, true), (3, true), (4, true), (5, true), (6, true), (7, true), (8, true), (9, true), (10, true), (11, true), (12, true), (13, true), (14, true)] (fun w' => Fr [] wb w') (by kernel_rfl) (by kernel_rfl) (Fr.refl _ _).drew ?_
          intro OPS HOPS
          have hops := HOPS.out
          try simp only [List.append_eq, List.cons_append, List.nil_append] at hops
          replace HOPS := Lib.hid hops
          clear hops
          refine walkO_take (o := _) (v := ?_) (by rw [HOPS.out]; simp only [List.getElem?_toArray, List.getElem?_cons_succ, List.getElem?_cons_zero]; exact rfl) (Or.inl ⟨rfl, ?_⟩) ?_
          rotate_left
          · (intro w hSw; have hSx := HF1.out _ hSw; (try dsimp only at hSx); clear hSw; go_simp) <;> (with_reducible rfl)
          simp only [Act.put, List.setIfInBounds_toArray, List.set_cons_zero, List.set_cons_succ]
          refine walkO_take (o := _) (v := ?_) (by rw [HOPS.out]; simp only [List.getElem?_toArray, List.getElem?_cons_succ, List.getElem?_cons_zero]; exact rfl) (Or.inl ⟨rfl, ?_⟩) ?_
          rotate_left
          · (intro w hSw; have hSx := HF1.out _ hSw; (try dsimp only at hSx); clear hSw; go_simp) <;> (with_reducible rfl)
          simp only [Act.put, List.setIfInBounds_toArray, List.set_cons_zero, List.set_cons_succ]
          refine walkO_take (o := _) (v := ?_) (by rw [HOPS.out]; simp only [List.getElem?_toArray, List.getElem?_cons_succ, List.getElem?_cons_zero]; exact rfl) (Or.inl ⟨rfl, ?_⟩) ?_
          rotate_left
          · (intro w hSw; have hSx := HF1.out _ hSw; (try dsimp only at hSx); clear hSw; go_simp) <;> (with_reducible rfl)
          simp only [Act.put, List.setIfInBounds_toArray, List.set_cons_zero, List.set_cons_succ]
          refine walkO_take (o := _) (v := ?_) (by rw [HOPS.out]; simp only [List.getElem?_toArray, List.getElem?_cons_succ, List.getElem?_cons_zero]; exact rfl) (Or.inl ⟨rfl, ?_⟩) ?_
          rotate_left
          · (intro w hSw; have hSx := HF1.out _ hSw; (try dsimp only at hSx); clear hSw; go_simp) <;> (with_reducible rfl)
          simp only [Act.put, List.setIfInBounds_toArray, List.set_cons_zero, List.set_cons_succ]
          refine walkO_take (o := _) (v := ?_) (by rw [HOPS.out]; simp only [List.getElem?_toArray, List.getElem?_cons_succ, List.getElem?_cons_zero]; exact rfl) (Or.inl ⟨rfl, ?_⟩) ?_
          rotate_left
          · (intro w hSw; have hSx := HF1.out _ hSw; (try dsimp only at hSx); clear hSw; go_simp) <;> (with_reducible rfl)
          simp only [Act.put, List.setIfInBounds_toArray, List.set_cons_zero, List.set_cons_succ]
          refine walkO_take (o := _) (v := ?_) (by rw [HOPS.out]; simp only [List.getElem?_toArray, List.getElem?_cons_succ, List.getElem?_cons_zero]; exact rfl) (Or.inl ⟨rfl, ?_⟩) ?_
          rotate_left
          · (intro w hSw; have hSx := HF1.out _ hSw; (try dsimp only at hSx); clear hSw; go_simp) <;> (with_reducible rfl)
          simp only [Act.put, List.setIfInBounds_toArray, List.set_cons_zero, List.set_cons_succ]
          refine walkO_take (o := _) (v := ?_) (by rw [HOPS.out]; simp only [List.getElem?_toArray, List.getElem?_cons_succ, List.getElem?_cons_zero]; exact rfl) (Or.inl ⟨rfl, ?_⟩) ?_
          rotate_left
          · (intro w hSw; have hSx := HF1.out _ hSw; (try dsimp only at hSx); clear hSw; go_simp) <;> (with_reducible rfl)
          simp only [Act.put, List.setIfInBounds_toArray, List.set_cons_zero, List.set_cons_succ]
          refine walkO_take (o := _) (v := ?_) (by rw [HOPS.out]; simp only [List.getElem?_toArray, List.getElem?_cons_succ, List.getElem?_cons_zero]; exact rfl) (Or.inl ⟨rfl, ?_⟩) ?_
          rotate_left
          · (intro w hSw; have hSx := HF1.out _ hSw; (try dsimp only at hSx); clear hSw; go_simp) <;> (with_reducible rfl)
          simp only [Act.put, List.setIfInBounds_toArray, List.set_cons_zero, List.set_cons_succ]
          refine walkO_take (o := _) (v := ?_) (by rw [HOPS.out]; simp only [List.getElem?_toArray, List.getElem?_cons_succ, List.getElem?_cons_zero]; exact rfl) (Or.inl ⟨rfl, ?_⟩) ?_
          rotate_left
          · (intro w hSw; have hSx := HF1.out _ hSw; (try dsimp only at hSx); clear hSw; go_simp) <;> (with_reducible rfl)
          simp only [Act.put, List.setIfInBounds_toArray, List.set_cons_zero, List.set_cons_succ]
          refine walkO_take (o := _) (v := ?_) (by rw [HOPS.out]; simp only [List.getElem?_toArray, List.getElem?_cons_succ, List.getElem?_cons_zero]; exact rfl) (Or.inl ⟨rfl, ?_⟩) ?_
          rotate_left
          · (intro w hSw; have hSx := HF1.out _ hSw; (try dsimp only at hSx); clear hSw; go_simp) <;> (with_reducible rfl)
          simp only [Act.put, List.setIfInBounds_toArray, List.set_cons_zero, List.set_cons_succ]
          refine walkO_take (o := _) (v := ?_) (by rw [HOPS.out]; simp only [List.getElem?_toArray, List.getElem?_cons_succ, List.getElem?_cons_zero]; exact rfl) (Or.inl ⟨rfl, ?_⟩) ?_
          rotate_left
          · (intro w hSw; have hSx := HF1.out _ hSw; (try dsimp only at hSx); clear hSw; go_simp) <;> (with_reducible rfl)
          simp only [Act.put, List.setIfInBounds_toArray, List.set_cons_zero, List.set_cons_succ]
          refine walkO_take (o := _) (v := ?_) (by rw [HOPS.out]; simp only [List.getElem?_toArray, List.getElem?_cons_succ, List.getElem?_cons_zero]; exact rfl) (Or.inl ⟨rfl, ?_⟩) ?_
          rotate_left
          · (intro w hSw; have hSx := HF1.out _ hSw; (try dsimp only at hSx); clear hSw; go_simp) <;> (with_reducible rfl)
          simp only [Act.put, List.setIfInBounds_toArray, List.set_cons_zero, List.set_cons_succ]
          refine walkO_take (o := _) (v := ?_) (by rw [HOPS.out]; simp only [List.getElem?_toArray, List.getElem?_cons_succ, List.getElem?_cons_zero]; exact rfl) (Or.inl ⟨rfl, ?_⟩) ?_
          rotate_left
          · (intro w hSw; have hSx := HF1.out _ hSw; (try dsimp only at hSx); clear hSw; go_simp) <;> (with_reducible rfl)
          simp only [Act.put, List.setIfInBounds_toArray, List.set_cons_zero, List.set_cons_succ]
          refine walkO_take (o := _) (v := ?_) (by rw [HOPS.out]; simp only [List.getElem?_toArray, List.getElem?_cons_succ, List.getElem?_cons_zero]; exact rfl) (Or.inl ⟨rfl, ?_⟩) ?_
          rotate_left
          · (intro w hSw; have hSx := HF1.out _ hSw; (try dsimp only at hSx); clear hSw; go_simp) <;> (with_reducible rfl)
          simp only [Act.put, List.setIfInBounds_toArray, List.set_cons_zero, List.set_cons_succ]
          refine walkO_take (o := _) (v := ?_) (by rw [HOPS.out]; simp only [List.getElem?_toArray, List.getElem?_cons_succ, List.getElem?_cons_zero]; exact rfl) (Or.inl ⟨rfl, ?_⟩) ?_
          rotate_left
          · (intro w hSw; have hSx := HF1.out _ hSw; (try dsimp only at hSx); clear hSw; go_simp) <;> (with_reducible rfl)
          simp only [Act.put, List.setIfInBounds_toArray, List.set_cons_zero, List.set_cons_succ]
          refine walkO_done ?_
          clear HOPS OPS
          go_wp2_with fail
          go_meet
          exact ⟨k + 1, 1 + q2, by go_num, by go_num, by omega, by omega, by have := HM.out; omega, (Fr.refl _ _).drew⟩
        · go_wp2_with fail
          go_meet
          exact ⟨k, d.length, rfl, rfl, by omega, by omega, by omega, Fr.refl _ _⟩
      case rest =>
        obtain ⟨k2, z, rfl, rfl, hk2, hz1, hz2, fx⟩ := hcut
        have HB2 := Lib.hid (HB.out.keep0 fx)
        have gb2 := Lib.hid (gb.out.then0 fx)
        have Db2 := Lib.hid (Db.out.keep fx hMb (by simp))
        have Rb2 := Lib.hid (Rb.out.keep fx hMb (by simp))
        have Wb3 := Lib.hid (Wb2.out.keep fx hMb (by simp))
        have hMc : w.heap.size ≤ wc.heap.size := Nat.le_trans hMb fx.size
        have HBX2 := Lib.hid fun w3 (f3 : Fr [b] wc w3) => HBX.out w3 ((fx.mono (T := [b]) (by simp)).then f3)
        have hX3 : wc.cell? ⟨w2.heap.size, 3, none⟩ = some (.slice ga d.length gc) := (HBX2.out _ (Fr.refl _ _)).c3
        have HWI := Lib.hid (HI.out.write (by rw [HX.out]) hz1 (by rw [← HDS.out]; exact hz2))
        have HWR := Lib.hid (by have h := HB2.out.wrote (by omega) z 0; rw [HWI.out.2.1] at h; exact h)
        have HSV := Lib.hid fun (w' : World) (f : Fr [b] wc w') => (show SlV w' ga ((bi (d.take z)).map (Value.int .u8)) from by
          rw [bi_take, List.map_take]
          exact ((sl_keep HSL.out ((fx.mono (T := [b]) (by simp)).then f) (fun h0 b' o e hm => by have := HGN.out b' o e; simp at hm; omega)).toV).take z)
        have hrun : ∀ w, (Instr.slice 22 (.slice ga d.length gc) none (some (.int .i64 z)) none).run Try.prog w = .ok (.slice ga z gc) w := fun w => run_upto hz2 hgc w
        have hzd : (z : Int) ≤ d.length := by omega
        have hd1i : (1 : Int) ≤ d.length := by omega
        have hdne : ¬ d = [] := fun e => by rw [e] at hd1; simp at hd1
        have hdb : ((d.length : Int) == 0) = false := by rw [beq_eq_false_iff_ne]; omega
        have hzd3 : decide (d.length < z) = false := by simp; omega
        have hzd4 : decide ((d.length : Int) < z) = false := by simp; omega
        have hzd5 : ¬ d.length < z := by omega
        have hTl : (d.take z).length = z := by rw [List.length_take]; omega
        have H1 : Hid (((bi O).map (Value.int .u8)).length + z ≤ maxLen) := Lib.hid (by rw [List.length_map, bi_length]; unfold maxLen; omega)
        have H2 : Hid ((((bi O).map (Value.int .u8)).length + z) * 1 ≤ 140737488355328) := Lib.hid (by rw [List.length_map, bi_length]; omega)
        have H3 : Hid (((bi (d.take z)).map (Value.int .u8)).length = z) := Lib.hid (by rw [List.length_map, bi_length, hTl])
        clear HB gb Db Rb Wb2 x0 x1 x2 x3 x4 hwb hMb HBX HSL HGN fx hTl
        go_wp2_with fail
        refine HWR.out.mono ?_
        rintro e w3 ⟨rfl, f3, s3⟩
        have S3 := Lib.hid s3
        have s3o := s3.o10.lt
        have g3 : Hid (Fr [] w w3) := Lib.hid (gb2.out.trans f3 (by simp) (fun x hx => .inr (by simp at hx; omega)))
        have hS : ∀ x ∈ [b], w.heap.size ≤ x := by simp; omega
        have D3 := Lib.hid (Db2.out.keep f3 hMc hS)
        have R3 := Lib.hid (Rb2.out.keep f3 hMc hS)
        have W3 := Lib.hid (Wb3.out.keep f3 hMc hS)
        have y3 : w3.cell? ⟨w2.heap.size, 3, none⟩ = some (.slice ga d.length gc) := (HBX2.out _ f3).c3
        have HSV3 := Lib.hid (HSV.out _ f3)
        have H4 : Hid (w.heap.size ≤ w3.heap.size) := Lib.hid (Nat.le_trans hMc f3.size)
        clear s3 f3 HBX2 HSV hX3
        go_wp2_with (refine wpList_append_fr _ rfl (.tmp 186) (.tmp 190) 22 rfl 5 (.int .u8 0) 1 HU.out HIN.out rfl w.heap.size (.slice g10 O.length k10) _ (by exact rfl) S3.out.o10 ga z gc ((bi (d.take z)).map (Value.int .u8)) (by exact rfl) H3.out HSV3.out (oneCell_bytes _) (by exact H1.out) (by exact H2.out) H4.out ?_)
        intro v4 w4 o4 f4 hb4
        have s4 := Lib.hid (S3.out.swap.push o4.out f4 hb4).swap
        have g4 : Fr [] w w4 := g3.out.own f4 (fun k e => .inr (s3o k e).1)
        have hS4 : ∀ x ∈ (Value.slice g10 O.length k10).ownBlock.toList, w.heap.size ≤ x := fun x hx => (s3o x (by simpa using hx)).1
        have D4 := D3.out.keep f4 H4.out hS4
        have R4 := R3.out.keep f4 H4.out hS4
        have W4 := W3.out.keep f4 H4.out hS4
        clear o4 f4 hb4 hS4
        have HR2 : Hid (RI sgn lm D en (wroteT t z 0) (O ++ d.take z) at_ (n + 1)) := Lib.hid (by have h := HWI.out.2.2; rw [← HDS.out] at h; exact h)
        go_wp2_with fail
        go_roundw
        case rel => exact ⟨n + 1, at_, i, k2, _, O ++ d.take z, by go_num, rfl, rfl, rfl, by omega, by omega, HR2, s4, g4, D4, R4, W4⟩
        case measure => simp [intOf]; omega
    · as_aux_lemma =>
      have hdn := HI.out.done HB.out.ok (by rw [HX.out])
      rw [HX.out] at hdn
      obtain ⟨hO, hol, hmn, hrd1, hwr1, hlim, herr⟩ := hdn
      dsimp only at hmn herr
      subst hmn
      have HO := Lib.hid hO
      have HOL := Lib.hid hol
      have HRW := Lib.hid (And.intro hrd1 hwr1)
      clear hO hol hrd1 hwr1
      go_upto_if 197 with fail
      go_cut [24] (fun v wx => v = .int .i64 at_ ∧ wx = wb)
      case first =>
        rcases hlim with ⟨h1, h2⟩ | ⟨h1, h2⟩
        · have h1b : decide (0 ≤ lm) = false := by simp; omega
          go_wp2_with fail
          go_meet
          exact ⟨by rw [h2], rfl⟩
        · have h1b : decide (0 ≤ lm) = true := by simp; exact h1
          rcases (show (D.length : Int) ≤ lm ∨ lm < (D.length : Int) by omega) with h3 | h3
          · have h4 : D.length = at_ := by omega
            have H4 := Lib.hid h4
            clear h2 h4
            go_wp2_with fail
            go_meet
            exact ⟨by rw [H4.out], rfl⟩
          · have h4 : lm = at_ := by omega
            have H4 := Lib.hid h4
            clear h2 h4
            go_wp2_with fail
            go_meet
            exact ⟨by rw [H4.out], rfl⟩
      case rest =>
        obtain ⟨rfl, rfl⟩ := hcut
        clear hlim
        have s10 := (HB.out.o10.formB)
        obtain ⟨_, _, he10, _, _, s10, _⟩ := s10
        simp only [Value.slice.injEq] at he10
        obtain ⟨rfl, _, rfl⟩ := he10
        have hatd : at_ ≤ D.length := by omega
        have hrun : ∀ w, (Instr.slice 22 (.slice da D.length dc) none (some (.int .i64 at_)) none).run Try.prog w = .ok (.slice da at_ dc) w := fun w => run_upto hatd Db.out.le w
        have HFA := Lib.hid fun (w1 : World) (f : Fr [] wc w1) => (show (∀ c, (convert 22 9 (.slice g10 O.length c)).run Try.prog w1 = .ok (.string (st O)) w1) ∧ (convert 22 9 (.slice da at_ dc)).run Try.prog w1 = .ok (.string (st O)) w1 ∧ w1.cell? ⟨w2.heap.size, 2, none⟩ = some (.int .i64 at_) from ⟨fun c => conv_st (cap := c) (sl_keep s10 f (by simp)) rfl, by
          have h := conv_st (a := da) (l := D.take at_) (len := at_) (cap := dc) (w := w1) (by rw [bi_take]; exact (sl_keep Db.out.sl f (by simp)).takeB _) (by rw [List.length_take]; omega)
          rwa [← HO.out] at h, (HBX.out _ (f.mono (by simp))).c2⟩)
        have HMV := Lib.hid fun (w1 : World) (f : Fr [] wc w1) => (HB.out.keep0 f).moved HRW.out.1 HRW.out.2
        have HEM := Lib.hid (Go.Proofs.enters_of Try.func20 (by kernel_rfl) rfl)
        have f0 : Fr [] wc wc.drew := (Fr.refl _ _).drew
        clear s10 x0 x1 x2 x3 hwb
        go_wp2_with fail
        refine wp_region_order [(0, true), (1, true), (2, true), (3, true), (4, true), (5, true), (6, true), (7, true), (8, true), (9, true), (10, true), (11, true), (12, true), (13, true), (14, true), (15, true), (16, true), (17, false), (18, true), (19, true)] (fun w' => Fr [] wc w') (by kernel_rfl) (by kernel_rfl) f0 ?_
        intro OPS HOPS
        have hops := HOPS.out
        try simp only [List.append_eq, List.cons_append, List.nil_append] at hops
        replace HOPS := Lib.hid hops
        clear hops
        refine walkO_take (o := _) (v := ?_) (by rw [HOPS.out]; simp only [List.getElem?_toArray, List.getElem?_cons_succ, List.getElem?_cons_zero]; exact rfl) (Or.inl ⟨rfl, ?_⟩) ?_
        rotate_left
        · (intro w hSw; have hSx := HFA.out _ hSw; (try dsimp only at hSx); clear hSw; go_simp) <;> (with_reducible rfl)
        simp only [Act.put, List.setIfInBounds_toArray, List.set_cons_zero, List.set_cons_succ]
        refine walkO_take (o := _) (v := ?_) (by rw [HOPS.out]; simp only [List.getElem?_toArray, List.getElem?_cons_succ, List.getElem?_cons_zero]; exact rfl) (Or.inl ⟨rfl, ?_⟩) ?_
        rotate_left
        · (intro w hSw; have hSx := HFA.out _ hSw; (try dsimp only at hSx); clear hSw; go_simp) <;> (with_reducible rfl)
        simp only [Act.put, List.setIfInBounds_toArray, List.set_cons_zero, List.set_cons_succ]
        refine walkO_take (o := _) (v := ?_) (by rw [HOPS.out]; simp only [List.getElem?_toArray, List.getElem?_cons_succ, List.getElem?_cons_zero]; exact rfl) (Or.inl ⟨rfl, ?_⟩) ?_
        rotate_left
        · (intro w hSw; have hSx := HFA.out _ hSw; (try dsimp only at hSx); clear hSw; go_simp) <;> (with_reducible rfl)
        simp only [Act.put, List.setIfInBounds_toArray, List.set_cons_zero, List.set_cons_succ]
        refine walkO_take (o := _) (v := ?_) (by rw [HOPS.out]; simp only [List.getElem?_toArray, List.getElem?_cons_succ, List.getElem?_cons_zero]; exact rfl) (Or.inl ⟨rfl, ?_⟩) ?_
        rotate_left
        · (intro w hSw; have hSx := HFA.out _ hSw; (try dsimp only at hSx); clear hSw; go_simp) <;> (with_reducible rfl)
        simp only [Act.put, List.setIfInBounds_toArray, List.set_cons_zero, List.set_cons_succ]
        refine walkO_take (o := _) (v := ?_) (by rw [HOPS.out]; simp only [List.getElem?_toArray, List.getElem?_cons_succ, List.getElem?_cons_zero]; exact rfl) (Or.inl ⟨rfl, ?_⟩) ?_
        rotate_left
        · (intro w hSw; have hSx := HFA.out _ hSw; (try dsimp only at hSx); clear hSw; go_simp) <;> (with_reducible rfl)
        simp only [Act.put, List.setIfInBounds_toArray, List.set_cons_zero, List.set_cons_succ]
        refine walkO_take (o := _) (v := ?_) (by rw [HOPS.out]; simp only [List.getElem?_toArray, List.getElem?_cons_succ, List.getElem?_cons_zero]; exact rfl) (Or.inl ⟨rfl, ?_⟩) ?_
        rotate_left
        · (intro w hSw; have hSx := HFA.out _ hSw; (try dsimp only at hSx); clear hSw; go_simp) <;> (with_reducible rfl)
        simp only [Act.put, List.setIfInBounds_toArray, List.set_cons_zero, List.set_cons_succ]
        refine walkO_take (o := _) (v := ?_) (by rw [HOPS.out]; simp only [List.getElem?_toArray, List.getElem?_cons_succ, List.getElem?_cons_zero]; exact rfl) (Or.inl ⟨rfl, ?_⟩) ?_
        rotate_left
        · (intro w hSw; have hSx := HFA.out _ hSw; (try dsimp only at hSx); clear hSw; go_simp) <;> (with_reducible rfl)
        simp only [Act.put, List.setIfInBounds_toArray, List.set_cons_zero, List.set_cons_succ]
        refine walkO_take (o := _) (v := ?_) (by rw [HOPS.out]; simp only [List.getElem?_toArray, List.getElem?_cons_succ, List.getElem?_cons_zero]; exact rfl) (Or.inl ⟨rfl, ?_⟩) ?_
        rotate_left
        · (intro w hSw; have hSx := HFA.out _ hSw; (try dsimp only at hSx); clear hSw; go_simp) <;> (with_reducible rfl)
        simp only [Act.put, List.setIfInBounds_toArray, List.set_cons_zero, List.set_cons_succ]
        refine walkO_take (o := _) (v := ?_) (by rw [HOPS.out]; simp only [List.getElem?_toArray, List.getElem?_cons_succ, List.getElem?_cons_zero]; exact rfl) (Or.inl ⟨by rw [HOPS.out]; rfl, ?_⟩) ?_
        rotate_left
        · (intro w hSw; have hSx := HFA.out _ hSw; (try dsimp only at hSx); clear hSw; go_simp) <;> (with_reducible rfl)
        simp only [Act.put, List.setIfInBounds_toArray, List.set_cons_zero, List.set_cons_succ]
        refine walkO_take (o := _) (v := ?_) (by rw [HOPS.out]; simp only [List.getElem?_toArray, List.getElem?_cons_succ, List.getElem?_cons_zero]; exact rfl) (Or.inl ⟨by rw [HOPS.out]; rfl, ?_⟩) ?_
        rotate_left
        · (intro w hSw; have hSx := HFA.out _ hSw; (try dsimp only at hSx); clear hSw; go_simp) <;> (with_reducible rfl)
        simp only [Act.put, List.setIfInBounds_toArray, List.set_cons_zero, List.set_cons_succ]
        refine walkO_take (o := _) (v := ?_) (by rw [HOPS.out]; simp only [List.getElem?_toArray, List.getElem?_cons_succ, List.getElem?_cons_zero]; exact rfl) (Or.inl ⟨by rw [HOPS.out]; rfl, ?_⟩) ?_
        rotate_left
        · (intro w hSw; have hSx := HFA.out _ hSw; (try dsimp only at hSx); clear hSw; go_simp) <;> (with_reducible rfl)
        simp only [Act.put, List.setIfInBounds_toArray, List.set_cons_zero, List.set_cons_succ]
        refine walkO_take (o := _) (v := ?_) (by rw [HOPS.out]; simp only [List.getElem?_toArray, List.getElem?_cons_succ, List.getElem?_cons_zero]; exact rfl) (Or.inl ⟨by rw [HOPS.out]; rfl, ?_⟩) ?_
        rotate_left
        · (intro w hSw; have hSx := HFA.out _ hSw; (try dsimp only at hSx); clear hSw; go_simp) <;> (with_reducible rfl)
        simp only [Act.put, List.setIfInBounds_toArray, List.set_cons_zero, List.set_cons_succ]
        refine walkO_take (o := _) (v := ?_) (by rw [HOPS.out]; simp only [List.getElem?_toArray, List.getElem?_cons_succ, List.getElem?_cons_zero]; exact rfl) (Or.inl ⟨rfl, ?_⟩) ?_
        rotate_left
        · (intro w hSw; have hSx := HFA.out _ hSw; (try dsimp only at hSx); clear hSw; go_simp) <;> (with_reducible rfl)
        simp only [Act.put, List.setIfInBounds_toArray, List.set_cons_zero, List.set_cons_succ]
        refine walkO_take (o := _) (v := ?_) (by rw [HOPS.out]; simp only [List.getElem?_toArray, List.getElem?_cons_succ, List.getElem?_cons_zero]; exact rfl) (Or.inl ⟨rfl, ?_⟩) ?_
        rotate_left
        · (intro w hSw; have hSx := HFA.out _ hSw; (try dsimp only at hSx); clear hSw; go_simp) <;> (with_reducible rfl)
        simp only [Act.put, List.setIfInBounds_toArray, List.set_cons_zero, List.set_cons_succ]
        refine walkO_take (o := _) (v := ?_) (by rw [HOPS.out]; simp only [List.getElem?_toArray, List.getElem?_cons_succ, List.getElem?_cons_zero]; exact rfl) (Or.inl ⟨by rw [HOPS.out]; rfl, ?_⟩) ?_
        rotate_left
        · (intro w hSw; have hSx := HFA.out _ hSw; (try dsimp only at hSx); clear hSw; go_simp) <;> (with_reducible rfl)
        simp only [Act.put, List.setIfInBounds_toArray, List.set_cons_zero, List.set_cons_succ]
        refine walkO_take (o := _) (v := ?_) (by rw [HOPS.out]; simp only [List.getElem?_toArray, List.getElem?_cons_succ, List.getElem?_cons_zero]; exact rfl) (Or.inl ⟨by rw [HOPS.out]; rfl, ?_⟩) ?_
        rotate_left
        · (intro w hSw; have hSx := HFA.out _ hSw; (try dsimp only at hSx); clear hSw; go_simp) <;> (with_reducible rfl)
        simp only [Act.put, List.setIfInBounds_toArray, List.set_cons_zero, List.set_cons_succ]
        refine walkO_take (o := _) (v := ?_) (by rw [HOPS.out]; simp only [List.getElem?_toArray, List.getElem?_cons_succ, List.getElem?_cons_zero]; exact rfl) (Or.inl ⟨by rw [HOPS.out]; rfl, ?_⟩) ?_
        rotate_left
        · (intro w hSw; have hSx := HFA.out _ hSw; (try dsimp only at hSx); clear hSw; go_simp) <;> (with_reducible rfl)
        simp only [Act.put, List.setIfInBounds_toArray, List.set_cons_zero, List.set_cons_succ]
        refine walkO_call (o := _) (by rw [HOPS.out]; simp only [List.getElem?_toArray, List.getElem?_cons_succ, List.getElem?_cons_zero]; exact rfl) (fun K HK => ?_)
        refine step_call (by rw [HOPS.out]; rfl) 20 #[(.tmp 215), (.tmp 216), (.tmp 217)] #[27, 3, 3] rfl HEM.out #[.pointer (some ⟨b, 0, none⟩), .int .i64 at_, .int .i64 at_] (by simp [Act.eval]) (HMV.out _ f0) ?_
        rintro e w6 ⟨rfl, f6'⟩
        have f6 : Fr [] wc w6 := f0.then0 f6'
        refine ⟨_, rfl, ?_⟩
        refine HK.out (fun w' => Fr [] wc w') _ _ (fun _ h => h) (f6) ?_
        clear HK K
        simp only [Act.put, List.setIfInBounds_toArray, List.set_cons_zero, List.set_cons_succ]
        refine walkO_take (o := _) (v := ?_) (by rw [HOPS.out]; simp only [List.getElem?_toArray, List.getElem?_cons_succ, List.getElem?_cons_zero]; exact rfl) (Or.inl ⟨by rw [HOPS.out]; rfl, ?_⟩) ?_
        rotate_left
        · (intro w hSw; have hSx := HFA.out _ hSw; (try dsimp only at hSx); clear hSw; go_simp) <;> (with_reducible rfl)
        simp only [Act.put, List.setIfInBounds_toArray, List.set_cons_zero, List.set_cons_succ]
        refine walkO_take (o := _) (v := ?_) (by rw [HOPS.out]; simp only [List.getElem?_toArray, List.getElem?_cons_succ, List.getElem?_cons_zero]; exact rfl) (Or.inl ⟨rfl, ?_⟩) ?_
        rotate_left
        · (intro w hSw; have hSx := HFA.out _ hSw; (try dsimp only at hSx); clear hSw; go_simp) <;> (with_reducible rfl)
        simp only [Act.put, List.setIfInBounds_toArray, List.set_cons_zero, List.set_cons_succ]
        refine walkO_done ?_
        clear HOPS OPS
        have g6 := gb.out.then0 f6
        have y4 := (HBX.out _ (f6.mono (by simp))).c4
        rcases herr with rfl | ⟨rfl, h13⟩
        · go_wp2_with fail
          refine (known21 _).mono ?_
          rintro e w99 ⟨rfl, f99⟩
          go_wp2_with fail
          go_ret
          exact ⟨rfl, g6.then0 f99⟩
        · have h13b : (ex == 13) = false := by simpa using h13
          by_cases h0 : ex = 0
          · subst h0
            go_wp2_with fail
            refine (known21 _).mono ?_
            rintro e w99 ⟨rfl, f99⟩
            go_wp2_with fail
            go_ret
            exact ⟨rfl, g6.then0 f99⟩
          · have h0b : (ex != 0) = true := by simpa using h0
            clear h0 h13
            go_wp2_with fail
            refine (known21 _).mono ?_
            rintro e w99 ⟨rfl, f99⟩
            go_wp2_with fail
            go_ret
            exact ⟨rfl, g6.then0 f99⟩
set_option maxHeartbeats 4000000 in
theorem transferRuns_walk {da ra wa : Option Addr} {dl dc rl rc wl wc : Nat} (sg lm en : Int) (w : World) (hsg : (Lit.int .u8 sg).wf = true) (hD : ∃ D, Arg w w.heap.size da dl dc D) (hR : ∃ R, Arg w w.heap.size ra rl rc R) (hW : ∃ Wb, Arg w w.heap.size wa wl wc Wb) :
    Calls Try.prog 3 #[.int .u8 sg, .int .i64 lm, .slice da dl dc, .slice ra rl rc, .slice wa wl wc, .int .i64 en] w fun e w' => e = .returned (.bool true) ∧ Fr [] w w' := by
  obtain ⟨D, hD⟩ := hD
  obtain ⟨R, hR⟩ := hR
  obtain ⟨Wb, hW⟩ := hW
  have h1 := hD.len_eq
  have h2 := hR.len_eq
  have h3 := hW.len_eq
  have m1 : (D.length : Int) ≤ 9223372036854775807 := by have := hD.le; have := hD.cap_le; unfold maxLen at *; omega
  have m2 : (R.length : Int) ≤ 9223372036854775807 := by have := hR.le; have := hR.cap_le; unfold maxLen at *; omega
  have m3 : (Wb.length : Int) ≤ 9223372036854775807 := by have := hW.le; have := hW.cap_le; unfold maxLen at *; omega
  subst h1 h2 h3
  obtain ⟨b0, b1⟩ := wf_u8 hsg
  obtain ⟨sgn, rfl⟩ := Int.eq_ofNat_of_zero_le b0
  have HV := fun w => rvalid w sgn lm
  have HC := fun w => rcode w en
  by_cases hk : okS sgn lm = true
  rotate_left
  · rw [show okS sgn lm = false from by simpa using hk] at HV
    replace HV := Lib.hid HV
    clear hk HC hD hR hW hsg
    go_enter Try.func3, Try.ntmps3
    go_wp2_with fail
    refine (HV.out _).mono ?_
    rintro e w' ⟨rfl, rfl⟩
    go_wp2_with fail
    refine (known21 _).mono ?_
    rintro e w' ⟨rfl, f⟩
    go_wp2_with fail
    go_ret
    exact ⟨rfl, f⟩
  rw [hk] at HV
  replace HV := Lib.hid HV
  by_cases h100 : (100 : Int) < sgn
  · clear hk HC hD hR hW hsg
    go_enter Try.func3, Try.ntmps3
    go_wp2_with fail
    refine (HV.out _).mono ?_
    rintro e w' ⟨rfl, rfl⟩
    go_wp2_with fail
    refine (known21 _).mono ?_
    rintro e w' ⟨rfl, f⟩
    go_wp2_with fail
    go_ret
    exact ⟨rfl, f⟩
  replace h100 : (sgn : Int) ≤ 100 := by omega
  by_cases hd : (400 : Int) < D.length
  · clear hk HC hD hR hW hsg
    go_enter Try.func3, Try.ntmps3
    go_wp2_with fail
    refine (HV.out _).mono ?_
    rintro e w' ⟨rfl, rfl⟩
    go_wp2_with fail
    refine (known21 _).mono ?_
    rintro e w' ⟨rfl, f⟩
    go_wp2_with fail
    go_ret
    exact ⟨rfl, f⟩
  replace hd : (D.length : Int) ≤ 400 := by omega
  by_cases hr : (40 : Int) < R.length
  · clear hk HC hD hR hW hsg
    go_enter Try.func3, Try.ntmps3
    go_wp2_with fail
    refine (HV.out _).mono ?_
    rintro e w' ⟨rfl, rfl⟩
    go_wp2_with fail
    refine (known21 _).mono ?_
    rintro e w' ⟨rfl, f⟩
    go_wp2_with fail
    go_ret
    exact ⟨rfl, f⟩
  replace hr : (R.length : Int) ≤ 40 := by omega
  by_cases hw : (40 : Int) < Wb.length
  · clear hk HC hD hR hW hsg
    go_enter Try.func3, Try.ntmps3
    go_wp2_with fail
    refine (HV.out _).mono ?_
    rintro e w' ⟨rfl, rfl⟩
    go_wp2_with fail
    refine (known21 _).mono ?_
    rintro e w' ⟨rfl, f⟩
    go_wp2_with fail
    go_ret
    exact ⟨rfl, f⟩
  replace hw : (Wb.length : Int) ≤ 40 := by omega
  by_cases hen : codeE en = true
  rotate_left
  · rw [show codeE en = false from by simpa using hen] at HC
    replace HC := Lib.hid HC
    clear hk hen hD hR hW hsg
    go_enter Try.func3, Try.ntmps3
    go_wp2_with fail
    refine (HV.out _).mono ?_
    rintro e w' ⟨rfl, rfl⟩
    go_wp2_with fail
    refine (HC.out _).mono ?_
    rintro e w' ⟨rfl, rfl⟩
    go_wp2_with fail
    refine (known21 _).mono ?_
    rintro e w' ⟨rfl, f⟩
    go_wp2_with fail
    go_ret
    exact ⟨rfl, f⟩
  exact transferRuns_main w hk (by omega) hD hR hW (by omega) (by omega) (by omega) hen
end Go.Proofs.Ytodpkdbcdbdjfaa
