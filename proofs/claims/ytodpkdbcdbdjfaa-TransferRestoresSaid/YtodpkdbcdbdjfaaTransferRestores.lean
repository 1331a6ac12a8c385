/-
  Law 21: TransferRestores: a transfer from its parts.
-/
import Derived.Test.YtodpkdbcdbdjfaaTrRest
import Derived.Test.YtodpkdbcdbdjfaaRegionU
import Derived.BigRegion
namespace Go.Proofs.Ytodpkdbcdbdjfaa
open Go.RowKit
set_option maxRecDepth 100000

theorem stepT_rdR (t : TS) (what n er : Int) (data : List UInt8) : (stepT t what n er data).rd ≤ t.rd + data.length := by
  unfold stepT
  split
  · unfold gotT
    split
    · exact Int.le_refl _
    · omega
  · split
    · unfold wroteT
      split
      · show t.rd ≤ _
        omega
      · omega
    · omega
set_option maxHeartbeats 16000000 in
theorem transferRestores_ok {sg lm wr en : Int} {ba : Option Addr} {bc : Nat} {s : List UInt8} {a : Option Addr} {len cap : Nat} {A : List A21} (w : World) (hk : okR sg lm wr s.length en = true) (hb : Sl w ba (bi s)) (hm : s.length ≤ 5000) (hA : Acts21 w w.heap.size a len cap A) (hs : fewB21 A = true) :
    Calls Try.prog 7 #[.agg #[.int .i64 sg, .int .i64 lm, .int .i64 wr, .slice ba s.length bc, .int .i64 en], .slice a len cap] w fun e w' => e = .returned (.bool true) ∧ Fr [] w w' := by
  have hle := hA.len_eq
  subst hle
  obtain ⟨w1, hw1, f1, q1⟩ : ∃ W, w.alloc (.cells #[.int .i64 sg, .int .i64 lm, .int .i64 wr, .slice ba s.length bc, .int .i64 en] 61) = W ∧ Fr [] w W ∧ W.heap[w.heap.size]? = some (.cells #[.int .i64 sg, .int .i64 lm, .int .i64 wr, .slice ba s.length bc, .int .i64 en] 61 (0, 0)) := ⟨_, rfl, (Fr.refl _ _).alloc _, newA rfl⟩
  have a1 := hA.keep f1 (Nat.le_refl _) (by simp)
  have HFW := Lib.hid (hs ▸ few21 a1)
  have b1 := sl_keep hb f1 (by simp)
  have h5 : ¬ (5000 : Int) < s.length := by omega
  have k0 : w1.cell? ⟨w.heap.size, 0, none⟩ = some (.int .i64 sg) := cell_of q1
  have k1 : w1.cell? ⟨w.heap.size, 1, none⟩ = some (.int .i64 lm) := cell_of q1
  have k2 : w1.cell? ⟨w.heap.size, 2, none⟩ = some (.int .i64 wr) := cell_of q1
  have k3 : w1.cell? ⟨w.heap.size, 3, none⟩ = some (.slice ba s.length bc) := cell_of q1
  have k4 : w1.cell? ⟨w.heap.size, 4, none⟩ = some (.int .i64 en) := cell_of q1
  go_enter Try.func7, Try.ntmps7
  go_wp2_with fail
  refine HFW.out.mono ?_
  rintro e w' ⟨rfl, rfl⟩
  have HSV := Lib.hid b1.toV
  have B1 := Lib.hid b1
  have A1 := Lib.hid a1
  have HRES := Lib.hid (fun W (oa : Option Addr) (oc : Nat) (h : Sl W oa (bi s)) => tr_restore_ok (pc := oc) W h (show s.length ≤ 65536 by omega) hk)
  have HRER := Lib.hid (fun W (h : Sl W ba (bi s)) => rr_restore_ok (pc := bc) W h (show s.length ≤ 65536 by omega) hk)
  have HOK := Lib.hid hk
  have HSF := Lib.hid hs
  have HB0 := Lib.hid hb
  have HU : Hid (Try.prog.underlying 22 = some (.slice 5)) := Lib.hid Try.underlying22
  have HIN : Hid ((Try.prog.info? 5).map (fun i => (i.zero, i.size, i.bytes)) = some (some (.int .u8 0), 1, 1)) := Lib.hid (by kernel_rfl)
  have H1 : Hid (([] : List Value).length + s.length ≤ maxLen) := Lib.hid (by unfold maxLen; simp; omega)
  have H2 : Hid ((([] : List Value).length + s.length) * 1 ≤ 140737488355328) := Lib.hid (by simp; omega)
  have H3 : Hid (((bi s).map (Value.int .u8)).length = s.length) := Lib.hid (by simp [bi])
  have HF1 := Lib.hid f1
  have Q1 := Lib.hid q1
  clear b1 a1 hk hs hb hA f1 hw1 HFW
  go_wp2_with (refine wpList_append_fr _ rfl (.const (.slice none 0 0)) (.tmp 26) 22 rfl 5 (.int .u8 0) 1 HU.out HIN.out rfl w1.heap.size (.slice none 0 0) [] (by exact rfl) (Ow.nil _ _ _) ba s.length bc _ (by exact rfl) H3.out HSV.out (oneCell_bytes _) (by exact H1.out) (by exact H2.out) (Nat.le_refl _) ?_)
  intro v' w2 o1 f2 hbk
  have f2' : Fr [] w1 w2 := f2
  have o2 : Ow w2 w1.heap.size 5 v' ((bi s).map (Value.int .u8)) := o1.out
  obtain ⟨oa, oc, rfl, _, _, hso, hob⟩ := o2.formB
  have q2 := f2'.keep Q1.out (by simp)
  have O2 := Lib.hid o2
  obtain ⟨S, hS⟩ : ∃ S : List Nat, (∀ x ∈ S, w1.heap.size ≤ x ∧ x < w2.heap.size) ∧ (0 < s.length → ∃ g, oa = some ⟨g, 0, none⟩ ∧ g ∈ S) := by
    rcases Nat.eq_zero_or_pos s.length with h0 | h0
    · exact ⟨[], by simp, fun h => absurd h (by omega)⟩
    · obtain ⟨g, c, hv, _, _, hg1, hg2, _, _⟩ := o2.row (by simp [bi]; omega)
      injection hv with e1 _ _
      exact ⟨[g], fun x hx => by simp at hx; subst hx; exact ⟨hg1, hg2⟩, fun _ => ⟨g, e1, by simp⟩⟩
  have HS := Lib.hid hS
  clear hS
  have F2 := Lib.hid f2'
  have B2 := Lib.hid (sl_keep B1.out f2' (by simp))
  have A2 := Lib.hid (A1.out.keep f2' HF1.out.size (by simp))
  have hz1 : w.heap.size < w1.heap.size := lt_of_heap q1
  have k0 : w2.cell? ⟨w.heap.size, 0, none⟩ = some (.int .i64 sg) := cell_of q2
  have k1 : w2.cell? ⟨w.heap.size, 1, none⟩ = some (.int .i64 lm) := cell_of q2
  have k2 : w2.cell? ⟨w.heap.size, 2, none⟩ = some (.int .i64 wr) := cell_of q2
  have k3 : w2.cell? ⟨w.heap.size, 3, none⟩ = some (.slice ba s.length bc) := cell_of q2
  have k4 : w2.cell? ⟨w.heap.size, 4, none⟩ = some (.int .i64 en) := cell_of q2
  have Q2 := Lib.hid q2
  have HL := HRES.out w2 oa oc hso
  have HRS := Lib.hid HL
  replace hob := Lib.hid hob
  clear hso o1 o2 f2 f2' hbk q2 q1 Q1 HSV B1 A1 H1 H2 H3 HL HRES
  go_wp2_with fail
  refine HRS.out.mono ?_
  rintro e w3 ⟨rfl, f3, N3, h3, hN3⟩
  have q3 := f3.keep Q2.out (by simp)
  have k0 : w3.cell? ⟨w.heap.size, 0, none⟩ = some (.int .i64 sg) := cell_of q3
  have k1 : w3.cell? ⟨w.heap.size, 1, none⟩ = some (.int .i64 lm) := cell_of q3
  have k2 : w3.cell? ⟨w.heap.size, 2, none⟩ = some (.int .i64 wr) := cell_of q3
  have k3 : w3.cell? ⟨w.heap.size, 3, none⟩ = some (.slice ba s.length bc) := cell_of q3
  have k4 : w3.cell? ⟨w.heap.size, 4, none⟩ = some (.int .i64 en) := cell_of q3
  have hz2 := F2.out.size
  have O3 := Lib.hid (O2.out.keep f3 (by simp))
  have F3 := Lib.hid (F2.out.then0 f3)
  have B3 := Lib.hid (sl_keep B2.out f3 (by simp))
  have A3 := Lib.hid (A2.out.keep f3 (Nat.le_trans HF1.out.size hz2) (by simp))
  have Q3 := Lib.hid q3
  have T3 := Lib.hid h3
  replace hN3 := Lib.hid hN3
  have hlt3 := h3.lt
  have HRR := Lib.hid (HRER.out _ B3.out)
  clear O2 F2 B2 A2 Q2 q3 h3 f3 HRS HRER
  go_wp2_with fail
  refine HRR.out.mono ?_
  rintro e w4 ⟨u, rfl, f4, h4⟩
  obtain ⟨ua, uc, rfl, _⟩ := id h4
  have q4 := f4.keep Q3.out (by simp)
  have k3 : w4.cell? ⟨w.heap.size, 3, none⟩ = some (.slice ba s.length bc) := cell_of q4
  have hz3 := f4.size
  have O4 := Lib.hid (O3.out.keep f4 (by simp))
  have F4 := Lib.hid (F3.out.then0 f4)
  have B4 := Lib.hid (sl_keep B3.out f4 (by simp))
  have A4 := Lib.hid (A3.out.keep f4 (Nat.le_trans HF1.out.size (by omega)) (by simp))
  have HF4 := Lib.hid f4
  have V4 := Lib.hid h4.there
  have Q4 := Lib.hid q4
  clear O3 F3 B3 A3 Q3 q4 h4 f4 HRR k0 k1 k2 k4
  obtain ⟨w5, hw5, f5, q5⟩ : ∃ W, w4.alloc (.cells #[.int .i64 (restoreT sg lm wr s en).stage, .int .i64 (restoreT sg lm wr s en).limit, .int .i64 (restoreT sg lm wr s en).rd, .int .i64 (restoreT sg lm wr s en).wr, .slice ua (restoreT sg lm wr s en).s.length uc, .int .i64 (restoreT sg lm wr s en).r, .int .i64 (restoreT sg lm wr s en).w] 45) = W ∧ Fr [] w4 W ∧ RB W w4.heap.size (.int .i64 (restoreT sg lm wr s en).stage) (.int .i64 (restoreT sg lm wr s en).limit) (.int .i64 (restoreT sg lm wr s en).rd) (.int .i64 (restoreT sg lm wr s en).wr) (.slice ua (restoreT sg lm wr s en).s.length uc) (.int .i64 (restoreT sg lm wr s en).r) (.int .i64 (restoreT sg lm wr s en).w) := ⟨_, rfl, (Fr.refl _ _).alloc _, newA rfl⟩
  have O5 := Lib.hid (O4.out.keep f5 (by simp))
  have F5 := Lib.hid (F4.out.then0 f5)
  have B5 := Lib.hid (sl_keep B4.out f5 (by simp))
  have hz4 := f5.size
  have A5 := Lib.hid (A4.out.keep f5 (Nat.le_trans HF1.out.size (by omega)) (by simp))
  have T5 := Lib.hid (T3.out.out (HF4.out.then0 f5) (by simp) (by simp))
  have V5 := Lib.hid (V4.out.keep f5 (by simp))
  have Q5 := Lib.hid (f5.keep Q4.out (by simp))
  have R5 := Lib.hid q5
  have hz5 := lt_of_heap q5
  obtain ⟨_, _, _, _, _, _, _, _, _, _, _, _, _, _⟩ := q5.cells
  clear O4 F4 B4 A4 T3 HF4 V4 Q4 q5 f5
  go_wp2_with fail
  clear hw5
  have h0 : Hid (∃ ys : List Value, ys.length = s.length ∧ (∀ j, 0 ≤ j → ys[j]? = ((bi s).map (Value.int .u8))[j]?) ∧ Ow w5 w1.heap.size 5 (.slice oa s.length oc) ys) := Lib.hid ⟨(bi s).map (Value.int .u8), by simp [bi], fun _ _ => rfl, O5.out⟩
  go_loopw [10] (fun i wr => ∃ k : Nat, k ≤ s.length ∧ i = .int .i64 k ∧ Fr S w5 wr ∧ Hid (∃ ys : List Value, ys.length = s.length ∧ (∀ j, k ≤ j → ys[j]? = ((bi s).map (Value.int .u8))[j]?) ∧ Ow wr w1.heap.size 5 (.slice oa s.length oc) ys)) (fun i _ => s.length - (intOf i).toNat)
  case atStart => exact ⟨0, by omega, rfl, Fr.refl _ _, h0⟩
  case round =>
    obtain ⟨k, hk, rfl, gr, hO⟩ := hrel
    rename World => wq
    by_cases hlt : (k : Int) < s.length
    · obtain ⟨g, rfl, hgS⟩ := HS.out.2 (by omega)
      obtain ⟨ys, hy1, hy2, how⟩ := hO.out
      have hks : k < s.length := by omega
      have hz : ((bi s).map (Value.int .u8))[k]? = some (.int .u8 ((bi s).getD k 0)) := by
        have : k < (bi s).length := by simpa [bi] using hks
        rw [List.getElem?_map, List.getElem?_eq_getElem this, List.getD_eq_getElem?_getD, List.getElem?_eq_getElem this]
        rfl
      obtain ⟨g', c', hv, _, _, _, _, hcell, hfro⟩ := how.row (by omega)
      injection hv with e1 _ _
      obtain rfl : g = g' := by
        injection e1 with e2
        injection e2
      clear e1
      have c0 := (hcell k (by omega)).trans ((hy2 k (Nat.le_refl _)).trans hz)
      have hf0 := hfro k
      have b6 := sl_keep B5.out gr (fun h0 b o e hm => by
        obtain ⟨b', o', e', hl, _⟩ := HB0.out h0
        rw [e] at e'
        cases e'
        have := (HS.out.1 b hm).1
        omega)
      obtain ⟨b, o, hbe, hbl, hbc⟩ := b6 (by simp [bi]; omega)
      subst hbe
      have cb := hbc k (by simpa [bi] using hks)
      have q6 := gr.keep Q5.out (fun hm => by have := (HS.out.1 _ hm).1; omega)
      have k3 : wq.cell? ⟨w.heap.size, 3, none⟩ = some (.slice (some ⟨b, o, none⟩) s.length bc) := cell_of q6
      generalize (bi s).getD k 0 = z at c0 cb hz
      have hO2 : Hid (∃ zs : List Value, zs.length = s.length ∧ (∀ j, k + 1 ≤ j → zs[j]? = ((bi s).map (Value.int .u8))[j]?) ∧ Ow (wq.setCell ⟨g, k, none⟩ (.int .u8 ((z + 1) % 256))) w1.heap.size 5 (.slice (some ⟨g, 0, none⟩) s.length oc) zs) := Lib.hid ⟨ys.set k (.int .u8 ((z + 1) % 256)), by simpa using hy1, fun j hj => by
        rw [List.getElem?_set_ne (by omega)]
        exact hy2 j (by omega), how.set k _⟩
      have g2 := Lib.hid (gr.setCell (p := ⟨g, k, none⟩) (.inl hgS) (.int .u8 ((z + 1) % 256)))
      clear hO hcell hfro b6 hbc q6 hy2 how hz hy1 B5 O5 T5 V5 R5 A5 Q5 F5 HB0 HS h0
      as_aux_lemma =>
        go_wp2_with fail
        go_region
        go_wp2_with fail
        refine ⟨⟨k + 1, by omega, by go_num, g2.out.drew, Lib.hid ?_⟩, by simp [intOf]; omega⟩
        obtain ⟨zs, h1, h2, h3⟩ := hO2.out
        exact ⟨zs, h1, h2, h3.keep (Fr.refl [] _).drew (by simp)⟩
    · have hnS : ∀ x, w2.heap.size ≤ x → x ∉ S := fun x hx hm => by have := (HS.out.1 x hm).2; omega
      have hwS : ∀ x ∈ S, w.heap.size ≤ x := fun x hm => by have := (HS.out.1 x hm).1; omega
      have T6 := Lib.hid (T5.out.keep gr (hnS _ (Nat.le_refl _)) (fun x hx hn => hnS x (by
        rcases hn with hn | hn
        · exact hN3.out x hn.1
        · omega) hx))
      have V6 := Lib.hid (V5.out.keep gr (fun x hx hn => by have := (HS.out.1 x hx).2; omega))
      have R6 := Lib.hid (gr.keep R5.out (hnS _ (by omega)))
      have A6 := Lib.hid (A5.out.keep gr (Nat.le_trans HF1.out.size F5.out.size) hwS)
      have G6 := Lib.hid ((HF1.out.then0 F5.out).trans gr (U := []) (fun _ h => .inl h) (fun x hx => .inr (hwS x hx)))
      have HRD : Hid ((restoreT sg lm wr s en).rd ≤ 1100000000000) := Lib.hid (by
        obtain ⟨_, h2, h3, _⟩ := okR_iff HOK.out
        show wr + (s.length : Int) ≤ _
        omega)
      have HIS := Lib.hid (is21 T6.out (by have := HRD.out; omega) V6.out)
      have hz6 := gr.size
      have hNE0 : Hid (¬ ((N3 w4.heap.size ∧ w4.heap.size < w3.heap.size) ∨ w5.heap.size ≤ w4.heap.size) ∧ ¬ (w3.heap.size < w4.heap.size ∧ w4.heap.size < w4.heap.size) ∧ ¬ (w3.heap.size < w2.heap.size ∧ w2.heap.size < w4.heap.size) ∧ w2.heap.size ≠ w4.heap.size ∧ w.heap.size ≤ w2.heap.size ∧ w.heap.size ≤ w4.heap.size) := Lib.hid ⟨by rintro (h | h) <;> omega, by omega, by omega, by omega, by omega, by omega⟩
      have q6 : RB wq w4.heap.size _ _ _ _ _ _ _ := R6.out
      obtain ⟨_, _, _, _, _, _, _, _, _, _, _, _, _, _⟩ := q6.cells
      clear T5 V5 R5 A5 B5 O5 F5 Q5 HF1 gr hO h0 HS hN3 HB0 hnS hwS q6
      as_aux_lemma =>
        go_wp2_with fail
        refine HIS.out.mono ?_
        rintro e w7 ⟨rfl, f7⟩
        have R7 : Hid (RB w7 w4.heap.size _ _ _ _ _ _ _) := Lib.hid (f7.keep R6.out (by simp))
        have T7 := Lib.hid (T6.out.keep0 f7)
        have V7 := Lib.hid (V6.out.keep f7 (by simp))
        have g7 := Lib.hid (G6.out.then0 f7)
        have a7 := Lib.hid (A6.out.keep f7 G6.out.size (by simp))
        clear HIS T6 V6 A6 R6 G6 f7
        go_wp2_with fail
        obtain ⟨B, hB⟩ : ∃ B, B = w4.heap.size := ⟨_, rfl⟩
        rw [← hB] at R7 V7 hNE0 ⊢
        go_loopw [6, 11] (fun v7 i wr => ∃ (k : Nat) (t : TS) (b : Nat) (N N2 : Nat → Prop) (ra : Option Addr) (rc : Nat), k ≤ A.length ∧ i = .int .i64 k ∧ v7 = .pointer (some ⟨b, 0, none⟩) ∧ Hid (t.rd ≤ 1100000000000 + (k : Int) * 5000) ∧ RB wr B (.int .i64 t.stage) (.int .i64 t.limit) (.int .i64 t.rd) (.int .i64 t.wr) (.slice ra t.s.length rc) (.int .i64 t.r) (.int .i64 t.w) ∧ Hid (Tr wr N b t) ∧ Hid (Rv wr N2 (.agg #[.int .i64 t.stage, .int .i64 t.limit, .int .i64 t.rd, .int .i64 t.wr, .slice ra t.s.length rc, .int .i64 t.r, .int .i64 t.w]) t) ∧ Hid (¬ N B ∧ ¬ N2 B ∧ ¬ N2 b ∧ b ≠ B ∧ w.heap.size ≤ b ∧ w.heap.size ≤ B) ∧ Fr [] w wr ∧ Acts21 wr w.heap.size a A.length cap A) (fun _ i _ => A.length - (intOf i).toNat)
        case atStart => exact ⟨0, restoreT sg lm wr s en, w2.heap.size, _, _, ua, uc, by omega, rfl, rfl, Lib.hid (by have := HRD.out; omega), R7.out, T7, V7, hNE0, g7.out, a7.out⟩
        case round =>
          clear R7 T7 V7 hNE0 g7 a7 hB
          obtain ⟨k, t, b, N, N2, ra, rc, hk, rfl, rfl, HL, qr, HT, HV, HNE, gr, ar⟩ := hrel
          obtain ⟨n30, hok30⟩ := fewB21_iff HSF.out
          have HOK := Lib.hid hok30
          have hl30 : (A.length : Int) ≤ 30 := by omega
          clear hok30 n30
          rename World => wr
          by_cases hlt : (k : Int) < A.length
          · as_aux_lemma =>
              have hkA : k < A.length := by omega
              obtain ⟨ab, ao, pa, pl, pc, rfl, habM, hab, c0, c1, c2, c3, hd, ⟨w0a, w0b⟩, ⟨w2a, w2b⟩, ⟨w3a, w3b⟩⟩ := ar.at_ k hkA
              have hok := HOK.out A[k] (List.getElem_mem hkA)
              generalize A[k] = ak at c0 c1 c2 c3 hd hok w0a w0b w2a w2b w3a w3b
              obtain ⟨what, data, n, er⟩ := ak
              dsimp only at c0 c1 c2 c3 hd hok w0a w0b w2a w2b w3a w3b
              have hpl := hd.len_eq
              subst hpl
              have hrd : t.rd ≤ 1500000000000 := by have h2 := HL.out; omega
              have hblt := HT.out.lt
              have hBlt := lt_of_heap qr
              obtain ⟨t2, ht2⟩ : ∃ t2, stepT t what n er data = t2 := ⟨_, rfl⟩
              have HT2 := Lib.hid ht2
              have HSTEP := Lib.hid fun (W : World) (N0 : Nat → Prop) (f : Fr [] wr W) (hb : ¬ N2 b) => ht2 ▸ step21 (w := W) (pc := pc) (HT.out.out f (by simp) (by simp)) (by omega) (HV.out.there.keep f (by simp)) (fun h => hb h.1) (sl_keep hd.sl f (by simp)) (show data.length ≤ 65536 by omega) what n er
              unfold StepR at HSTEP
              clear ht2
              have HEW := Lib.hid (Go.Proofs.enters_of Try.func24 (by kernel_rfl) rfl)
              have hbB := HNE.out.2.2.2.1
              have habB : ab ≠ B ∧ ab ≠ b := by have := HNE.out.2.2.2.2; omega
              obtain ⟨_, _, _, _, _, _, _, _, _, _, _, _, _, _⟩ := qr.cells
              clear w0a w0b w2a w2b w3a w3b
              go_upto_region 19 with fail
              go_cut [12, 13, 14] (fun v11 v12 v13 wx => ∃ (b2 B2 : Nat) (t2 : TS) (ua : Option Addr) (uc : Nat), v11 = .pointer (some ⟨b2, 0, none⟩) ∧ v12 = .pointer (some ⟨B2, 0, none⟩) ∧ v13 = .bool true ∧ Hid (t2 = stepT t what n er data) ∧ Hid (RB wx B2 (.int .i64 t2.stage) (.int .i64 t2.limit) (.int .i64 t2.rd) (.int .i64 t2.wr) (.slice ua t2.s.length uc) (.int .i64 t2.r) (.int .i64 t2.w)) ∧ Hid (Fr [b] wr wx) ∧ (∃ N', Hid (Tr wx N' b2 t2) ∧ Hid (¬ N' B)) ∧ (∃ N', Hid (Rv wx N' (.agg #[.int .i64 t2.stage, .int .i64 t2.limit, .int .i64 t2.rd, .int .i64 t2.wr, .slice ua t2.s.length uc, .int .i64 t2.r, .int .i64 t2.w]) t2) ∧ Hid (¬ N' B) ∧ Hid (¬ N' b2)) ∧ Hid (b2 ≠ B ∧ w.heap.size ≤ b2 ∧ wr.heap.size ≤ B2))
              case first =>
                have f0 : Fr [b] wr wr.drew := (Fr.refl _ _).drew
                refine wp_region_tree (.take 0 (.take 1 (.take 2 (.take 3 (.take 4 (.take 5 (.two 6 11 (.take 7 (.take 8 (.take 9 (.take 10 (.one 11 (.take 12 (.one 13 (.take 14 .nil)))))))) (.one 6 (.take 7 (.take 8 (.take 9 (.take 10 (.take 12 (.one 13 (.take 14 .nil))))))))))))))) (fun w' => w'.cell? ⟨B, 0, none⟩ = some (.int .i64 t.stage) ∧ w'.cell? ⟨B, 1, none⟩ = some (.int .i64 t.limit) ∧ w'.cell? ⟨B, 2, none⟩ = some (.int .i64 t.rd) ∧ w'.cell? ⟨B, 3, none⟩ = some (.int .i64 t.wr) ∧ w'.cell? ⟨B, 4, none⟩ = some (.slice ra t.s.length rc) ∧ w'.cell? ⟨B, 5, none⟩ = some (.int .i64 t.r) ∧ w'.cell? ⟨B, 6, none⟩ = some (.int .i64 t.w) ∧ w'.cell? ⟨ab, ao + k * 4, none⟩ = some (.int .i64 what) ∧ w'.cell? ⟨ab, ao + k * 4 + 1, none⟩ = some (.slice pa data.length pc) ∧ w'.cell? ⟨ab, ao + k * 4 + 2, none⟩ = some (.int .i64 n) ∧ w'.cell? ⟨ab, ao + k * 4 + 3, none⟩ = some (.int .i64 er)) (by kernel_rfl) (by kernel_rfl) ⟨cell_of (f0.keep qr (by simp; omega)), cell_of (f0.keep qr (by simp; omega)), cell_of (f0.keep qr (by simp; omega)), cell_of (f0.keep qr (by simp; omega)), cell_of (f0.keep qr (by simp; omega)), cell_of (f0.keep qr (by simp; omega)), cell_of (f0.keep qr (by simp; omega)), (World.cell?_of_block (w := wr) (f0.block ab hab (by simp; omega))).trans c0, (World.cell?_of_block (w := wr) (f0.block ab hab (by simp; omega))).trans c1, (World.cell?_of_block (w := wr) (f0.block ab hab (by simp; omega))).trans c2, (World.cell?_of_block (w := wr) (f0.block ab hab (by simp; omega))).trans c3⟩ ?_
                intro OPS HOPS
                have hops := HOPS.out
                try simp only [List.append_eq, List.cons_append, List.nil_append] at hops
                replace HOPS := Lib.hid hops
                clear hops
                refine walkT_take (o := _) (v := ?_) (by rw [HOPS.out]; simp only [List.getElem?_toArray, List.getElem?_cons_succ, List.getElem?_cons_zero]; exact rfl) (Or.inl ⟨rfl, ?_⟩) ?_
                rotate_left
                · (intro w hSw; (try dsimp only at hSw); go_simp) <;> (with_reducible rfl)
                simp only [Act.put, List.setIfInBounds_toArray, List.set_cons_zero, List.set_cons_succ]
                refine walkT_take (o := _) (v := ?_) (by rw [HOPS.out]; simp only [List.getElem?_toArray, List.getElem?_cons_succ, List.getElem?_cons_zero]; exact rfl) (Or.inl ⟨rfl, ?_⟩) ?_
                rotate_left
                · (intro w hSw; (try dsimp only at hSw); go_simp) <;> (with_reducible rfl)
                simp only [Act.put, List.setIfInBounds_toArray, List.set_cons_zero, List.set_cons_succ]
                refine walkT_take (o := _) (v := ?_) (by rw [HOPS.out]; simp only [List.getElem?_toArray, List.getElem?_cons_succ, List.getElem?_cons_zero]; exact rfl) (Or.inl ⟨rfl, ?_⟩) ?_
                rotate_left
                · (intro w hSw; (try dsimp only at hSw); go_simp) <;> (with_reducible rfl)
                simp only [Act.put, List.setIfInBounds_toArray, List.set_cons_zero, List.set_cons_succ]
                refine walkT_take (o := _) (v := ?_) (by rw [HOPS.out]; simp only [List.getElem?_toArray, List.getElem?_cons_succ, List.getElem?_cons_zero]; exact rfl) (Or.inl ⟨rfl, ?_⟩) ?_
                rotate_left
                · (intro w hSw; (try dsimp only at hSw); go_simp) <;> (with_reducible rfl)
                simp only [Act.put, List.setIfInBounds_toArray, List.set_cons_zero, List.set_cons_succ]
                refine walkT_take (o := _) (v := ?_) (by rw [HOPS.out]; simp only [List.getElem?_toArray, List.getElem?_cons_succ, List.getElem?_cons_zero]; exact rfl) (Or.inl ⟨rfl, ?_⟩) ?_
                rotate_left
                · (intro w hSw; (try dsimp only at hSw); go_simp) <;> (with_reducible rfl)
                simp only [Act.put, List.setIfInBounds_toArray, List.set_cons_zero, List.set_cons_succ]
                refine walkT_take (o := _) (v := ?_) (by rw [HOPS.out]; simp only [List.getElem?_toArray, List.getElem?_cons_succ, List.getElem?_cons_zero]; exact rfl) (Or.inl ⟨rfl, ?_⟩) ?_
                rotate_left
                · (intro w hSw; (try dsimp only at hSw); go_simp) <;> (with_reducible rfl)
                simp only [Act.put, List.setIfInBounds_toArray, List.set_cons_zero, List.set_cons_succ]
                refine walkT_two ?_ ?_
                · refine walkT_call (o := _) (by rw [HOPS.out]; simp only [List.getElem?_toArray, List.getElem?_cons_succ, List.getElem?_cons_zero]; exact rfl) (fun K HK => ?_)
                  refine step_call rfl 24 #[(.tmp 107), (.tmp 108), (.tmp 112)] #[27, 45, 41] rfl HEW.out #[.pointer (some ⟨b, 0, none⟩), .agg #[.int .i64 t.stage, .int .i64 t.limit, .int .i64 t.rd, .int .i64 t.wr, .slice ra t.s.length rc, .int .i64 t.r, .int .i64 t.w], .agg #[.int .i64 what, .slice pa data.length pc, .int .i64 n, .int .i64 er]] (by simp [Act.eval]) (HSTEP.out _ N2 (Fr.refl [] wr).drew HNE.out.2.2.1) ?_
                  rintro e w5 ⟨b2, v2, rfl, f5', ⟨N3, h5, hN3⟩, ⟨N4, u5, hb2, hN4⟩, hbb⟩
                  obtain ⟨ua, uc, rfl, _⟩ := id u5
                  have f5 : Fr [b] wr w5 := Fr.undrew f5'
                  have hz5 : wr.heap.size ≤ w5.heap.size := f5.size
                  have hbz : b2 = b ∨ wr.heap.size ≤ b2 := hbb
                  have hM3 : ∀ x, x < wr.heap.size → N3 x → N x := fun x hx hn => (hN3 x hx hn).elim (·.1) (fun h => absurd (show wr.heap.size ≤ x from h) (by omega))
                  have hM4 : ∀ x, x < wr.heap.size → N4 x → N2 x := fun x hx hn => (hN4 x hx hn).1
                  refine ⟨_, rfl, ?_⟩
                  refine HK.out (fun w' => w'.cell? ⟨B, 0, none⟩ = some (.int .i64 t.stage) ∧ w'.cell? ⟨B, 1, none⟩ = some (.int .i64 t.limit) ∧ w'.cell? ⟨B, 2, none⟩ = some (.int .i64 t.rd) ∧ w'.cell? ⟨B, 3, none⟩ = some (.int .i64 t.wr) ∧ w'.cell? ⟨B, 4, none⟩ = some (.slice ra t.s.length rc) ∧ w'.cell? ⟨B, 5, none⟩ = some (.int .i64 t.r) ∧ w'.cell? ⟨B, 6, none⟩ = some (.int .i64 t.w) ∧ w'.cell? ⟨ab, ao + k * 4, none⟩ = some (.int .i64 what) ∧ w'.cell? ⟨ab, ao + k * 4 + 1, none⟩ = some (.slice pa data.length pc) ∧ w'.cell? ⟨ab, ao + k * 4 + 2, none⟩ = some (.int .i64 n) ∧ w'.cell? ⟨ab, ao + k * 4 + 3, none⟩ = some (.int .i64 er)) _ _ (fun _ h => h) (⟨cell_of (f5.keep qr (by simp; omega)), cell_of (f5.keep qr (by simp; omega)), cell_of (f5.keep qr (by simp; omega)), cell_of (f5.keep qr (by simp; omega)), cell_of (f5.keep qr (by simp; omega)), cell_of (f5.keep qr (by simp; omega)), cell_of (f5.keep qr (by simp; omega)), (World.cell?_of_block (w := wr) (f5.block ab hab (by simp; omega))).trans c0, (World.cell?_of_block (w := wr) (f5.block ab hab (by simp; omega))).trans c1, (World.cell?_of_block (w := wr) (f5.block ab hab (by simp; omega))).trans c2, (World.cell?_of_block (w := wr) (f5.block ab hab (by simp; omega))).trans c3⟩) ?_
                  clear HK K
                  simp only [Act.put, List.setIfInBounds_toArray, List.set_cons_zero, List.set_cons_succ]
                  refine walkT_take (o := _) (v := ?_) (by rw [HOPS.out]; simp only [List.getElem?_toArray, List.getElem?_cons_succ, List.getElem?_cons_zero]; exact rfl) (Or.inl ⟨rfl, ?_⟩) ?_
                  rotate_left
                  · (intro w hSw; (try dsimp only at hSw); go_simp) <;> (with_reducible rfl)
                  simp only [Act.put, List.setIfInBounds_toArray, List.set_cons_zero, List.set_cons_succ]
                  refine walkT_take (o := _) (v := ?_) (by rw [HOPS.out]; simp only [List.getElem?_toArray, List.getElem?_cons_succ, List.getElem?_cons_zero]; exact rfl) (Or.inl ⟨rfl, ?_⟩) ?_
                  rotate_left
                  · (intro w hSw; (try dsimp only at hSw); go_simp) <;> (with_reducible rfl)
                  simp only [Act.put, List.setIfInBounds_toArray, List.set_cons_zero, List.set_cons_succ]
                  refine walkT_take (o := _) (v := ?_) (by rw [HOPS.out]; simp only [List.getElem?_toArray, List.getElem?_cons_succ, List.getElem?_cons_zero]; exact rfl) (Or.inl ⟨rfl, ?_⟩) ?_
                  rotate_left
                  · (intro w hSw; (try dsimp only at hSw); go_simp) <;> (with_reducible rfl)
                  simp only [Act.put, List.setIfInBounds_toArray, List.set_cons_zero, List.set_cons_succ]
                  refine walkT_take (o := _) (v := ?_) (by rw [HOPS.out]; simp only [List.getElem?_toArray, List.getElem?_cons_succ, List.getElem?_cons_zero]; exact rfl) (Or.inl ⟨rfl, ?_⟩) ?_
                  rotate_left
                  · (intro w hSw; (try dsimp only at hSw); go_simp) <;> (with_reducible rfl)
                  simp only [Act.put, List.setIfInBounds_toArray, List.set_cons_zero, List.set_cons_succ]
                  refine walkT_call (o := _) (by rw [HOPS.out]; simp only [List.getElem?_toArray, List.getElem?_cons_succ, List.getElem?_cons_zero]; exact rfl) (fun K HK => ?_)
                  go_simp
                  obtain ⟨w6, hw6, f6, q6⟩ : ∃ W, w5.alloc (.cells #[.int .i64 0, .int .i64 0, .int .i64 0, .int .i64 0, .slice none 0 0, .int .i64 0, .int .i64 0] 45) = W ∧ Fr [] w5 W ∧ RB W w5.heap.size (.int .i64 0) (.int .i64 0) (.int .i64 0) (.int .i64 0) (.slice none 0 0) (.int .i64 0) (.int .i64 0) := ⟨_, rfl, (Fr.refl _ _).alloc _, newA rfl⟩
                  try rw [hw6]
                  have f56 : Fr [b] wr w6 := f5.then0 f6
                  refine HK.out (fun w' => w'.cell? ⟨B, 0, none⟩ = some (.int .i64 t.stage) ∧ w'.cell? ⟨B, 1, none⟩ = some (.int .i64 t.limit) ∧ w'.cell? ⟨B, 2, none⟩ = some (.int .i64 t.rd) ∧ w'.cell? ⟨B, 3, none⟩ = some (.int .i64 t.wr) ∧ w'.cell? ⟨B, 4, none⟩ = some (.slice ra t.s.length rc) ∧ w'.cell? ⟨B, 5, none⟩ = some (.int .i64 t.r) ∧ w'.cell? ⟨B, 6, none⟩ = some (.int .i64 t.w) ∧ w'.cell? ⟨ab, ao + k * 4, none⟩ = some (.int .i64 what) ∧ w'.cell? ⟨ab, ao + k * 4 + 1, none⟩ = some (.slice pa data.length pc) ∧ w'.cell? ⟨ab, ao + k * 4 + 2, none⟩ = some (.int .i64 n) ∧ w'.cell? ⟨ab, ao + k * 4 + 3, none⟩ = some (.int .i64 er)) _ _ (fun _ h => h) ⟨cell_of (f56.keep qr (by simp; omega)), cell_of (f56.keep qr (by simp; omega)), cell_of (f56.keep qr (by simp; omega)), cell_of (f56.keep qr (by simp; omega)), cell_of (f56.keep qr (by simp; omega)), cell_of (f56.keep qr (by simp; omega)), cell_of (f56.keep qr (by simp; omega)), (World.cell?_of_block (w := wr) (f56.block ab hab (by simp; omega))).trans c0, (World.cell?_of_block (w := wr) (f56.block ab hab (by simp; omega))).trans c1, (World.cell?_of_block (w := wr) (f56.block ab hab (by simp; omega))).trans c2, (World.cell?_of_block (w := wr) (f56.block ab hab (by simp; omega))).trans c3⟩ ?_
                  clear HK K
                  try simp only [Act.put, List.setIfInBounds_toArray, List.set_cons_zero, List.set_cons_succ]
                  refine walkT_take (o := _) (v := ?_) (by rw [HOPS.out]; simp only [List.getElem?_toArray, List.getElem?_cons_succ, List.getElem?_cons_zero]; exact rfl) (Or.inl ⟨rfl, ?_⟩) ?_
                  rotate_left
                  · (intro w hSw; (try dsimp only at hSw); go_simp) <;> (with_reducible rfl)
                  simp only [Act.put, List.setIfInBounds_toArray, List.set_cons_zero, List.set_cons_succ]
                  refine walkT_call (o := _) (by rw [HOPS.out]; simp only [List.getElem?_toArray, List.getElem?_cons_succ, List.getElem?_cons_zero]; exact rfl) (fun K HK => ?_)
                  refine step_store7 (p := .tmp 13) (x := .tmp 115) q6 rfl rfl rfl rfl rfl ?_
                  obtain ⟨w7, hw7, f7, q7⟩ : ∃ W, (((((((w6.setCell ⟨w5.heap.size, 0, none⟩ (.int .i64 t2.stage)).setCell ⟨w5.heap.size, 1, none⟩ (.int .i64 t2.limit)).setCell ⟨w5.heap.size, 2, none⟩ (.int .i64 t2.rd)).setCell ⟨w5.heap.size, 3, none⟩ (.int .i64 t2.wr)).setCell ⟨w5.heap.size, 4, none⟩ (.slice ua t2.s.length uc)).setCell ⟨w5.heap.size, 5, none⟩ (.int .i64 t2.r)).setCell ⟨w5.heap.size, 6, none⟩ (.int .i64 t2.w)) = W ∧ Fr [w5.heap.size] w6 W ∧ RB W w5.heap.size (.int .i64 t2.stage) (.int .i64 t2.limit) (.int .i64 t2.rd) (.int .i64 t2.wr) (.slice ua t2.s.length uc) (.int .i64 t2.r) (.int .i64 t2.w) := ⟨_, rfl, seven_fr, seven_set q6⟩
                  rw [hw7]
                  have f67 : Fr [b, w5.heap.size] wr w7 := (f56.mono (by simp)).then (f7.mono (by simp))
                  refine HK.out (fun w' => w'.cell? ⟨B, 0, none⟩ = some (.int .i64 t.stage) ∧ w'.cell? ⟨B, 1, none⟩ = some (.int .i64 t.limit) ∧ w'.cell? ⟨B, 2, none⟩ = some (.int .i64 t.rd) ∧ w'.cell? ⟨B, 3, none⟩ = some (.int .i64 t.wr) ∧ w'.cell? ⟨B, 4, none⟩ = some (.slice ra t.s.length rc) ∧ w'.cell? ⟨B, 5, none⟩ = some (.int .i64 t.r) ∧ w'.cell? ⟨B, 6, none⟩ = some (.int .i64 t.w) ∧ w'.cell? ⟨ab, ao + k * 4, none⟩ = some (.int .i64 what) ∧ w'.cell? ⟨ab, ao + k * 4 + 1, none⟩ = some (.slice pa data.length pc) ∧ w'.cell? ⟨ab, ao + k * 4 + 2, none⟩ = some (.int .i64 n) ∧ w'.cell? ⟨ab, ao + k * 4 + 3, none⟩ = some (.int .i64 er)) _ _ (fun _ h => h) ⟨cell_of (f67.keep qr (by simp; omega)), cell_of (f67.keep qr (by simp; omega)), cell_of (f67.keep qr (by simp; omega)), cell_of (f67.keep qr (by simp; omega)), cell_of (f67.keep qr (by simp; omega)), cell_of (f67.keep qr (by simp; omega)), cell_of (f67.keep qr (by simp; omega)), (World.cell?_of_block (w := wr) (f67.block ab hab (by simp; omega))).trans c0, (World.cell?_of_block (w := wr) (f67.block ab hab (by simp; omega))).trans c1, (World.cell?_of_block (w := wr) (f67.block ab hab (by simp; omega))).trans c2, (World.cell?_of_block (w := wr) (f67.block ab hab (by simp; omega))).trans c3⟩ ?_
                  clear HK K
                  try simp only [Act.put, List.setIfInBounds_toArray, List.set_cons_zero, List.set_cons_succ]
                  refine walkT_take (o := _) (v := ?_) (by rw [HOPS.out]; simp only [List.getElem?_toArray, List.getElem?_cons_succ, List.getElem?_cons_zero]; exact rfl) (Or.inl ⟨rfl, ?_⟩) ?_
                  rotate_left
                  · (intro w hSw; (try dsimp only at hSw); go_simp) <;> (with_reducible rfl)
                  simp only [Act.put, List.setIfInBounds_toArray, List.set_cons_zero, List.set_cons_succ]
                  refine walkT_done ?_
                  clear HOPS OPS
                  go_wp2_with fail
                  go_meet
                  have TT := h5.out f6 (by simp) (by simp)
                  have hl5 := h5.lt
                  have hq6 := lt_of_heap q6
                  have UU := u5.there.keep f6 (by simp)
                  exact ⟨b2, w5.heap.size, t2, ua, uc, rfl, rfl, rfl, Lib.hid HT2.out.symm, Lib.hid q7, Lib.hid (f67.mono (by simp; omega)), ⟨_, Lib.hid (TT.keep f7 (by simp; omega) (fun x hx hn => by simp at hx; rcases hn with hn | hn; (have := hn.2; omega); omega)), Lib.hid (fun hn => by rcases hn with hn | hn; exact HNE.out.1 (hM3 B (by omega) hn.1); omega)⟩, ⟨_, Lib.hid (UU.keep f7 (fun x hx hn => by simp at hx; have := hn.2; omega)), Lib.hid (fun hn => HNE.out.2.1 (hM4 B (by omega) hn.1)), Lib.hid (fun hn => hb2 hn.1)⟩, Lib.hid (by have := HNE.out.2.2.2; rcases hbz with h | h <;> omega)⟩
                · refine walkT_call (o := _) (by rw [HOPS.out]; simp only [List.getElem?_toArray, List.getElem?_cons_succ, List.getElem?_cons_zero]; exact rfl) (fun K HK => ?_)
                  go_simp
                  obtain ⟨w6a, hw6, f6, q6⟩ : ∃ W, (wr.alloc (.cells #[.int .i64 0, .int .i64 0, .int .i64 0, .int .i64 0, .slice none 0 0, .int .i64 0, .int .i64 0] 45)).drew = W ∧ Fr [] wr W ∧ RB W wr.heap.size (.int .i64 0) (.int .i64 0) (.int .i64 0) (.int .i64 0) (.slice none 0 0) (.int .i64 0) (.int .i64 0) := ⟨_, rfl, ((Fr.refl _ _).alloc _).drew, newA rfl⟩
                  try rw [hw6]
                  have f56 : Fr [b] wr w6a := f6.mono (by simp)
                  refine HK.out (fun w' => w'.cell? ⟨B, 0, none⟩ = some (.int .i64 t.stage) ∧ w'.cell? ⟨B, 1, none⟩ = some (.int .i64 t.limit) ∧ w'.cell? ⟨B, 2, none⟩ = some (.int .i64 t.rd) ∧ w'.cell? ⟨B, 3, none⟩ = some (.int .i64 t.wr) ∧ w'.cell? ⟨B, 4, none⟩ = some (.slice ra t.s.length rc) ∧ w'.cell? ⟨B, 5, none⟩ = some (.int .i64 t.r) ∧ w'.cell? ⟨B, 6, none⟩ = some (.int .i64 t.w) ∧ w'.cell? ⟨ab, ao + k * 4, none⟩ = some (.int .i64 what) ∧ w'.cell? ⟨ab, ao + k * 4 + 1, none⟩ = some (.slice pa data.length pc) ∧ w'.cell? ⟨ab, ao + k * 4 + 2, none⟩ = some (.int .i64 n) ∧ w'.cell? ⟨ab, ao + k * 4 + 3, none⟩ = some (.int .i64 er)) _ _ (fun _ h => h) ⟨cell_of (f56.keep qr (by simp; omega)), cell_of (f56.keep qr (by simp; omega)), cell_of (f56.keep qr (by simp; omega)), cell_of (f56.keep qr (by simp; omega)), cell_of (f56.keep qr (by simp; omega)), cell_of (f56.keep qr (by simp; omega)), cell_of (f56.keep qr (by simp; omega)), (World.cell?_of_block (w := wr) (f56.block ab hab (by simp; omega))).trans c0, (World.cell?_of_block (w := wr) (f56.block ab hab (by simp; omega))).trans c1, (World.cell?_of_block (w := wr) (f56.block ab hab (by simp; omega))).trans c2, (World.cell?_of_block (w := wr) (f56.block ab hab (by simp; omega))).trans c3⟩ ?_
                  clear HK K
                  try simp only [Act.put, List.setIfInBounds_toArray, List.set_cons_zero, List.set_cons_succ]
                  refine walkT_call (o := _) (by rw [HOPS.out]; simp only [List.getElem?_toArray, List.getElem?_cons_succ, List.getElem?_cons_zero]; exact rfl) (fun K HK => ?_)
                  refine step_call rfl 24 #[(.tmp 107), (.tmp 108), (.tmp 112)] #[27, 45, 41] rfl HEW.out #[.pointer (some ⟨b, 0, none⟩), .agg #[.int .i64 t.stage, .int .i64 t.limit, .int .i64 t.rd, .int .i64 t.wr, .slice ra t.s.length rc, .int .i64 t.r, .int .i64 t.w], .agg #[.int .i64 what, .slice pa data.length pc, .int .i64 n, .int .i64 er]] (by simp [Act.eval]) (HSTEP.out _ N2 f6 HNE.out.2.2.1) ?_
                  rintro e w5 ⟨b2, v2, rfl, f5', ⟨N3, h5, hN3⟩, ⟨N4, u5, hb2, hN4⟩, hbb⟩
                  obtain ⟨ua, uc, rfl, _⟩ := id u5
                  have f5 : Fr [b] wr w5 := f56.then f5'
                  have hz5 := f5.size
                  have hz6 := lt_of_heap q6
                  have q6b : RB w5 wr.heap.size _ _ _ _ _ _ _ := f5'.keep q6 (by simp; omega)
                  have hM3 : ∀ x, x < w6a.heap.size → N3 x → N x ∧ x < wr.heap.size := fun x hx hn => (hN3 x hx hn).elim id (fun h => absurd h (by omega))
                  refine ⟨_, rfl, ?_⟩
                  refine HK.out (fun w' => w'.cell? ⟨B, 0, none⟩ = some (.int .i64 t.stage) ∧ w'.cell? ⟨B, 1, none⟩ = some (.int .i64 t.limit) ∧ w'.cell? ⟨B, 2, none⟩ = some (.int .i64 t.rd) ∧ w'.cell? ⟨B, 3, none⟩ = some (.int .i64 t.wr) ∧ w'.cell? ⟨B, 4, none⟩ = some (.slice ra t.s.length rc) ∧ w'.cell? ⟨B, 5, none⟩ = some (.int .i64 t.r) ∧ w'.cell? ⟨B, 6, none⟩ = some (.int .i64 t.w) ∧ w'.cell? ⟨ab, ao + k * 4, none⟩ = some (.int .i64 what) ∧ w'.cell? ⟨ab, ao + k * 4 + 1, none⟩ = some (.slice pa data.length pc) ∧ w'.cell? ⟨ab, ao + k * 4 + 2, none⟩ = some (.int .i64 n) ∧ w'.cell? ⟨ab, ao + k * 4 + 3, none⟩ = some (.int .i64 er)) _ _ (fun _ h => h) (⟨cell_of (f5.keep qr (by simp; omega)), cell_of (f5.keep qr (by simp; omega)), cell_of (f5.keep qr (by simp; omega)), cell_of (f5.keep qr (by simp; omega)), cell_of (f5.keep qr (by simp; omega)), cell_of (f5.keep qr (by simp; omega)), cell_of (f5.keep qr (by simp; omega)), (World.cell?_of_block (w := wr) (f5.block ab hab (by simp; omega))).trans c0, (World.cell?_of_block (w := wr) (f5.block ab hab (by simp; omega))).trans c1, (World.cell?_of_block (w := wr) (f5.block ab hab (by simp; omega))).trans c2, (World.cell?_of_block (w := wr) (f5.block ab hab (by simp; omega))).trans c3⟩) ?_
                  clear HK K
                  simp only [Act.put, List.setIfInBounds_toArray, List.set_cons_zero, List.set_cons_succ]
                  refine walkT_take (o := _) (v := ?_) (by rw [HOPS.out]; simp only [List.getElem?_toArray, List.getElem?_cons_succ, List.getElem?_cons_zero]; exact rfl) (Or.inl ⟨rfl, ?_⟩) ?_
                  rotate_left
                  · (intro w hSw; (try dsimp only at hSw); go_simp) <;> (with_reducible rfl)
                  simp only [Act.put, List.setIfInBounds_toArray, List.set_cons_zero, List.set_cons_succ]
                  refine walkT_take (o := _) (v := ?_) (by rw [HOPS.out]; simp only [List.getElem?_toArray, List.getElem?_cons_succ, List.getElem?_cons_zero]; exact rfl) (Or.inl ⟨rfl, ?_⟩) ?_
                  rotate_left
                  · (intro w hSw; (try dsimp only at hSw); go_simp) <;> (with_reducible rfl)
                  simp only [Act.put, List.setIfInBounds_toArray, List.set_cons_zero, List.set_cons_succ]
                  refine walkT_take (o := _) (v := ?_) (by rw [HOPS.out]; simp only [List.getElem?_toArray, List.getElem?_cons_succ, List.getElem?_cons_zero]; exact rfl) (Or.inl ⟨rfl, ?_⟩) ?_
                  rotate_left
                  · (intro w hSw; (try dsimp only at hSw); go_simp) <;> (with_reducible rfl)
                  simp only [Act.put, List.setIfInBounds_toArray, List.set_cons_zero, List.set_cons_succ]
                  refine walkT_take (o := _) (v := ?_) (by rw [HOPS.out]; simp only [List.getElem?_toArray, List.getElem?_cons_succ, List.getElem?_cons_zero]; exact rfl) (Or.inl ⟨rfl, ?_⟩) ?_
                  rotate_left
                  · (intro w hSw; (try dsimp only at hSw); go_simp) <;> (with_reducible rfl)
                  simp only [Act.put, List.setIfInBounds_toArray, List.set_cons_zero, List.set_cons_succ]
                  refine walkT_take (o := _) (v := ?_) (by rw [HOPS.out]; simp only [List.getElem?_toArray, List.getElem?_cons_succ, List.getElem?_cons_zero]; exact rfl) (Or.inl ⟨rfl, ?_⟩) ?_
                  rotate_left
                  · (intro w hSw; (try dsimp only at hSw); go_simp) <;> (with_reducible rfl)
                  simp only [Act.put, List.setIfInBounds_toArray, List.set_cons_zero, List.set_cons_succ]
                  refine walkT_call (o := _) (by rw [HOPS.out]; simp only [List.getElem?_toArray, List.getElem?_cons_succ, List.getElem?_cons_zero]; exact rfl) (fun K HK => ?_)
                  refine step_store7 (p := .tmp 13) (x := .tmp 115) q6b rfl rfl rfl rfl rfl ?_
                  obtain ⟨w7, hw7, f7, q7⟩ : ∃ W, (((((((w5.setCell ⟨wr.heap.size, 0, none⟩ (.int .i64 t2.stage)).setCell ⟨wr.heap.size, 1, none⟩ (.int .i64 t2.limit)).setCell ⟨wr.heap.size, 2, none⟩ (.int .i64 t2.rd)).setCell ⟨wr.heap.size, 3, none⟩ (.int .i64 t2.wr)).setCell ⟨wr.heap.size, 4, none⟩ (.slice ua t2.s.length uc)).setCell ⟨wr.heap.size, 5, none⟩ (.int .i64 t2.r)).setCell ⟨wr.heap.size, 6, none⟩ (.int .i64 t2.w)) = W ∧ Fr [wr.heap.size] w5 W ∧ RB W wr.heap.size (.int .i64 t2.stage) (.int .i64 t2.limit) (.int .i64 t2.rd) (.int .i64 t2.wr) (.slice ua t2.s.length uc) (.int .i64 t2.r) (.int .i64 t2.w) := ⟨_, rfl, seven_fr, seven_set q6b⟩
                  rw [hw7]
                  have f67 : Fr [b, wr.heap.size] wr w7 := (f5.mono (by simp)).then (f7.mono (by simp))
                  refine HK.out (fun w' => w'.cell? ⟨B, 0, none⟩ = some (.int .i64 t.stage) ∧ w'.cell? ⟨B, 1, none⟩ = some (.int .i64 t.limit) ∧ w'.cell? ⟨B, 2, none⟩ = some (.int .i64 t.rd) ∧ w'.cell? ⟨B, 3, none⟩ = some (.int .i64 t.wr) ∧ w'.cell? ⟨B, 4, none⟩ = some (.slice ra t.s.length rc) ∧ w'.cell? ⟨B, 5, none⟩ = some (.int .i64 t.r) ∧ w'.cell? ⟨B, 6, none⟩ = some (.int .i64 t.w) ∧ w'.cell? ⟨ab, ao + k * 4, none⟩ = some (.int .i64 what) ∧ w'.cell? ⟨ab, ao + k * 4 + 1, none⟩ = some (.slice pa data.length pc) ∧ w'.cell? ⟨ab, ao + k * 4 + 2, none⟩ = some (.int .i64 n) ∧ w'.cell? ⟨ab, ao + k * 4 + 3, none⟩ = some (.int .i64 er)) _ _ (fun _ h => h) ⟨cell_of (f67.keep qr (by simp; omega)), cell_of (f67.keep qr (by simp; omega)), cell_of (f67.keep qr (by simp; omega)), cell_of (f67.keep qr (by simp; omega)), cell_of (f67.keep qr (by simp; omega)), cell_of (f67.keep qr (by simp; omega)), cell_of (f67.keep qr (by simp; omega)), (World.cell?_of_block (w := wr) (f67.block ab hab (by simp; omega))).trans c0, (World.cell?_of_block (w := wr) (f67.block ab hab (by simp; omega))).trans c1, (World.cell?_of_block (w := wr) (f67.block ab hab (by simp; omega))).trans c2, (World.cell?_of_block (w := wr) (f67.block ab hab (by simp; omega))).trans c3⟩ ?_
                  clear HK K
                  try simp only [Act.put, List.setIfInBounds_toArray, List.set_cons_zero, List.set_cons_succ]
                  refine walkT_take (o := _) (v := ?_) (by rw [HOPS.out]; simp only [List.getElem?_toArray, List.getElem?_cons_succ, List.getElem?_cons_zero]; exact rfl) (Or.inl ⟨rfl, ?_⟩) ?_
                  rotate_left
                  · (intro w hSw; (try dsimp only at hSw); go_simp) <;> (with_reducible rfl)
                  simp only [Act.put, List.setIfInBounds_toArray, List.set_cons_zero, List.set_cons_succ]
                  refine walkT_done ?_
                  clear HOPS OPS
                  go_wp2_with fail
                  go_meet
                  exact ⟨b2, wr.heap.size, t2, ua, uc, rfl, rfl, rfl, Lib.hid HT2.out.symm, Lib.hid q7, Lib.hid (f67.mono (by simp)), ⟨_, Lib.hid (h5.keep f7 (by simp; rcases hbb with h | h <;> omega) (fun x hx hn => by simp at hx; have := (hM3 x (by omega) hn).2; omega)), Lib.hid (fun hn => HNE.out.1 (hM3 B (by omega) hn).1)⟩, ⟨_, Lib.hid (u5.keep f7 (fun x hx hn => by simp at hx; have := (hN4 x (by omega) hn).2; omega)), Lib.hid (fun hn => HNE.out.2.1 (hN4 B (by omega) hn).1), Lib.hid hb2⟩, Lib.hid (by have := HNE.out.2.2.2; rcases hbb with h | h <;> omega)⟩
              case rest =>
                clear HSTEP HEW HT2 c0 c1 c2 c3 hd
                obtain ⟨b2, B2, t3, ua, uc, rfl, rfl, rfl, HT3, Q7, F7, ⟨N3, T7, hN3B⟩, ⟨N4, U7, hN4B, hN4b⟩, HB2⟩ := hcut
                have HL3 : Hid (t3.rd ≤ 1100000000000 + ((k + 1 : Nat) : Int) * 5000) := Lib.hid (by
                  have h1 := stepT_rdR t what n er data
                  rw [← HT3.out] at h1
                  have h2 := HL.out
                  have h3 : (((k + 1 : Nat) : Int)) * 5000 = (k : Int) * 5000 + 5000 := by omega
                  omega)
                have hl3 := HL3.out
                have HIS := Lib.hid (is21 T7.out (by omega) U7.out)
                have q7 := Q7.out
                obtain ⟨_, _, _, _, _, _, _, _, _, _, _, _, _, _⟩ := q7.cells
                have g7 := Lib.hid (gr.trans F7.out (by simp) (U := []) (fun x hx => .inr (by simp at hx; have := HNE.out.2.2.2.2; omega)))
                have a7 := Lib.hid (ar.keep F7.out gr.size (fun x hx => by simp at hx; have := HNE.out.2.2.2.2; omega))
                have q9 := Lib.hid (F7.out.keep qr (by simp; omega))
                have hlt7 := lt_of_heap q7
                have hz7 := F7.out.size
                clear HL gr ar qr HT HV F7 q7
                as_aux_lemma =>
                  go_wp2_with fail
                  refine HIS.out.mono ?_
                  rintro e w8 ⟨rfl, f8⟩
                  have r2 : RB w8 B2 _ _ _ _ _ _ _ := f8.keep Q7.out (by simp)
                  have r9 : RB w8 B _ _ _ _ _ _ _ := f8.keep q9.out (by simp)
                  have g8 := Lib.hid (g7.out.then0 f8)
                  have a8 := Lib.hid (a7.out.keep f8 g7.out.size (by simp))
                  have T8 := Lib.hid (T7.out.keep0 f8)
                  have V8 := Lib.hid (U7.out.keep f8 (by simp))
                  clear f8 HIS Q7 q9 g7 a7 T7 U7
                  go_wp2_with fail
                  have rD : RB w8.drew B2 _ _ _ _ _ _ _ := r2
                  have r9D : RB w8.drew B _ _ _ _ _ _ _ := r9
                  have hBB : B2 ≠ B := by have := HB2.out; omega
                  refine wp_region_order [(0, true), (1, true), (2, true), (3, false)] (fun w' => w'.cell? ⟨B2, 0, none⟩ = some (.int .i64 t3.stage) ∧ w'.cell? ⟨B2, 1, none⟩ = some (.int .i64 t3.limit) ∧ w'.cell? ⟨B2, 2, none⟩ = some (.int .i64 t3.rd) ∧ w'.cell? ⟨B2, 3, none⟩ = some (.int .i64 t3.wr) ∧ w'.cell? ⟨B2, 4, none⟩ = some (.slice ua t3.s.length uc) ∧ w'.cell? ⟨B2, 5, none⟩ = some (.int .i64 t3.r) ∧ w'.cell? ⟨B2, 6, none⟩ = some (.int .i64 t3.w)) (by kernel_rfl) (by kernel_rfl) ⟨cell_of rD, cell_of rD, cell_of rD, cell_of rD, cell_of rD, cell_of rD, cell_of rD⟩ ?_
                  intro OPS HOPS
                  have hops := HOPS.out
                  try simp only [List.append_eq, List.cons_append, List.nil_append] at hops
                  replace HOPS := Lib.hid hops
                  clear hops
                  refine walkO_take (o := _) (v := ?_) (by rw [HOPS.out]; simp only [List.getElem?_toArray, List.getElem?_cons_succ, List.getElem?_cons_zero]; exact rfl) (Or.inl ⟨rfl, ?_⟩) ?_
                  rotate_left
                  · (intro w hSw; (try dsimp only at hSw); go_simp) <;> (with_reducible rfl)
                  simp only [Act.put, List.setIfInBounds_toArray, List.set_cons_zero, List.set_cons_succ]
                  refine walkO_take (o := _) (v := ?_) (by rw [HOPS.out]; simp only [List.getElem?_toArray, List.getElem?_cons_succ, List.getElem?_cons_zero]; exact rfl) (Or.inl ⟨rfl, ?_⟩) ?_
                  rotate_left
                  · (intro w hSw; (try dsimp only at hSw); go_simp) <;> (with_reducible rfl)
                  simp only [Act.put, List.setIfInBounds_toArray, List.set_cons_zero, List.set_cons_succ]
                  refine walkO_take (o := _) (v := ?_) (by rw [HOPS.out]; simp only [List.getElem?_toArray, List.getElem?_cons_succ, List.getElem?_cons_zero]; exact rfl) (Or.inl ⟨rfl, ?_⟩) ?_
                  rotate_left
                  · (intro w hSw; (try dsimp only at hSw); go_simp) <;> (with_reducible rfl)
                  simp only [Act.put, List.setIfInBounds_toArray, List.set_cons_zero, List.set_cons_succ]
                  refine walkO_call (o := _) (by rw [HOPS.out]; simp only [List.getElem?_toArray, List.getElem?_cons_succ, List.getElem?_cons_zero]; exact rfl) (fun K HK => ?_)
                  refine step_store7 (p := .tmp 8) (x := .tmp 130) r9D rfl rfl rfl rfl rfl ?_
                  obtain ⟨wf, hwf, Ff, Rf⟩ : ∃ wf, (((((((w8.drew.setCell ⟨B, 0, none⟩ (.int .i64 t3.stage)).setCell ⟨B, 1, none⟩ (.int .i64 t3.limit)).setCell ⟨B, 2, none⟩ (.int .i64 t3.rd)).setCell ⟨B, 3, none⟩ (.int .i64 t3.wr)).setCell ⟨B, 4, none⟩ (.slice ua t3.s.length uc)).setCell ⟨B, 5, none⟩ (.int .i64 t3.r)).setCell ⟨B, 6, none⟩ (.int .i64 t3.w)) = wf ∧ Fr [B] w8.drew wf ∧ RB wf B (.int .i64 t3.stage) (.int .i64 t3.limit) (.int .i64 t3.rd) (.int .i64 t3.wr) (.slice ua t3.s.length uc) (.int .i64 t3.r) (.int .i64 t3.w) := ⟨_, rfl, seven_fr, seven_set r9D⟩
                  rw [hwf]
                  have rE := Ff.keep rD (by simp; omega)
                  refine HK.out (fun w' => w'.cell? ⟨B2, 0, none⟩ = some (.int .i64 t3.stage) ∧ w'.cell? ⟨B2, 1, none⟩ = some (.int .i64 t3.limit) ∧ w'.cell? ⟨B2, 2, none⟩ = some (.int .i64 t3.rd) ∧ w'.cell? ⟨B2, 3, none⟩ = some (.int .i64 t3.wr) ∧ w'.cell? ⟨B2, 4, none⟩ = some (.slice ua t3.s.length uc) ∧ w'.cell? ⟨B2, 5, none⟩ = some (.int .i64 t3.r) ∧ w'.cell? ⟨B2, 6, none⟩ = some (.int .i64 t3.w)) _ _ (fun _ h => h) ⟨cell_of rE, cell_of rE, cell_of rE, cell_of rE, cell_of rE, cell_of rE, cell_of rE⟩ ?_
                  clear HK K rE
                  try simp only [Act.put, List.setIfInBounds_toArray, List.set_cons_zero, List.set_cons_succ]
                  refine walkO_done ?_
                  clear HOPS OPS
                  have FD : Fr [] w8 w8.drew := (Fr.refl _ _).drew
                  have g9 := (g8.out.then0 FD).trans Ff (fun _ h => .inl h) (fun x hx => .inr (by simp at hx; have := HNE.out.2.2.2.2.2; omega))
                  have a9 := (a8.out.keep FD g8.out.size (by simp)).keep Ff (g8.out.then0 FD).size (fun x hx => by simp at hx; have := HNE.out.2.2.2.2.2; omega)
                  have T9 := Lib.hid ((T8.out.keep0 FD).keep Ff (by have := HB2.out.1; simp; omega) (fun x hx => by simp at hx; rw [hx]; exact hN3B.out))
                  have V9 := Lib.hid ((V8.out.keep FD (by simp)).keep Ff (fun x hx => by simp at hx; rw [hx]; exact hN4B.out))
                  have HNF := Lib.hid (And.intro hN3B.out (And.intro hN4B.out (And.intro hN4b.out (And.intro HB2.out.1 (And.intro HB2.out.2.1 HNE.out.2.2.2.2.2)))))
                  clear hwf Ff FD r2 r9 rD r9D
                  go_wp2_with fail
                  go_roundw
                  case rel => exact ⟨k + 1, t3, b2, N3, N4, ua, uc, by omega, by go_num, rfl, HL3, Rf, T9, V9, HNF, g9, a9⟩
                  case measure => simp [intOf]; omega
          · as_aux_lemma =>
              go_wp2_with fail
              refine (known21 _).mono ?_
              rintro e w99 ⟨rfl, f99⟩
              go_wp2_with fail
              go_ret
              exact ⟨rfl, gr.then0 f99⟩
end Go.Proofs.Ytodpkdbcdbdjfaa
