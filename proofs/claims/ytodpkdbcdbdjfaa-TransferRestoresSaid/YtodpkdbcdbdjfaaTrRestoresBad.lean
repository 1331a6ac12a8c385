/-
  Law 21: TransferRestores: the arm where Restore fails.
-/
import Derived.Test.YtodpkdbcdbdjfaaTrRest
import Derived.Test.YtodpkdbcdbdjfaaRegionU
import Derived.BigRegion
namespace Go.Proofs.Ytodpkdbcdbdjfaa
open Go.RowKit
set_option maxRecDepth 100000

theorem setCell_idB {w : World} {b i : Nat} {c : Array Value} {ty : TypeId} {f : Nat × Nat} {v : Value} (h : w.heap[b]? = some (.cells c ty f)) (hv : c[i]? = some v) : w.setCell ⟨b, i, none⟩ v = w := by
  have hc : c.setIfInBounds i v = c := by
    apply Array.ext_getElem?
    intro j
    rw [Array.getElem?_setIfInBounds]
    by_cases e : i = j
    · subst e
      rw [if_pos rfl, hv]
      have := (Array.getElem?_eq_some_iff.1 hv).1
      simp [this]
    · rw [if_neg e]
  have hh : (w.setCell ⟨b, i, none⟩ v).heap = w.heap := by
    apply Array.ext_getElem?
    intro j
    by_cases e : j = b
    · subst e
      rw [heap_setCell_eq h, h, hc]
    · exact heap_setCell_ne e
  have h2 : w.setCell ⟨b, i, none⟩ v = { w with heap := (w.setCell ⟨b, i, none⟩ v).heap } := rfl
  rw [h2, hh]
set_option maxHeartbeats 16000000 in
theorem transferRestores_bad {sg lm wr en : Int} {ba : Option Addr} {bc : Nat} {s : List UInt8} {a : Option Addr} {len cap : Nat} {A : List A21} (w : World) (hw : -9223372036854775808 ≤ wr ∧ wr ≤ 9223372036854775807) (hk : okR sg lm wr s.length en = false) (hb : Sl w ba (bi s)) (hm : s.length ≤ 5000) (hA : Acts21 w w.heap.size a len cap A) (hs : fewB21 A = true) :
    Calls Try.prog 7 #[.agg #[.int .i64 sg, .int .i64 lm, .int .i64 wr, .slice ba s.length bc, .int .i64 en], .slice a len cap] w fun e w' => e = .returned (.bool true) ∧ Fr [] w w' := by
  have hle := hA.len_eq
  subst hle
  obtain ⟨w1, hw1, f1, q1⟩ : ∃ W, w.alloc (.cells #[.int .i64 sg, .int .i64 lm, .int .i64 wr, .slice ba s.length bc, .int .i64 en] 61) = W ∧ Fr [] w W ∧ W.heap[w.heap.size]? = some (.cells #[.int .i64 sg, .int .i64 lm, .int .i64 wr, .slice ba s.length bc, .int .i64 en] 61 (0, 0)) := ⟨_, rfl, (Fr.refl _ _).alloc _, newA rfl⟩
  have a1 := hA.keep f1 (Nat.le_refl _) (by simp)
  have HFW := Lib.hid (hs ▸ few21 a1)
  have b1 := sl_keep hb f1 (by simp)
  have h5 : ¬ (5000 : Int) < s.length := by omega
  have k0 : w1.cell? ⟨w.heap.size, 0, none⟩ = some (.int .i64 sg) := cell_of q1
  have k1 : w1.cell? ⟨w.heap.size, 1, none⟩ = some (.int .i64 lm) := cell_of q1
  have k2 : w1.cell? ⟨w.heap.size, 2, none⟩ = some (.int .i64 wr) := cell_of q1
  have k3 : w1.cell? ⟨w.heap.size, 3, none⟩ = some (.slice ba s.length bc) := cell_of q1
  have k4 : w1.cell? ⟨w.heap.size, 4, none⟩ = some (.int .i64 en) := cell_of q1
  go_enter Try.func7, Try.ntmps7
  go_wp2_with fail
  refine HFW.out.mono ?_
  rintro e w' ⟨rfl, rfl⟩
  have HSV := Lib.hid b1.toV
  have B1 := Lib.hid b1
  have A1 := Lib.hid a1
  have HRES := Lib.hid (fun W (oa : Option Addr) (oc : Nat) => tr_restore_bad (pa := oa) (pc := oc) W (show s.length ≤ 1000000 by omega) hw hk)
  have HRER := Lib.hid (fun W => rr_restore_bad (pa := ba) (pc := bc) W (show s.length ≤ 1000000 by omega) hk)
  have HB0 := Lib.hid hb
  have HU : Hid (Try.prog.underlying 22 = some (.slice 5)) := Lib.hid Try.underlying22
  have HIN : Hid ((Try.prog.info? 5).map (fun i => (i.zero, i.size, i.bytes)) = some (some (.int .u8 0), 1, 1)) := Lib.hid (by kernel_rfl)
  have H1 : Hid (([] : List Value).length + s.length ≤ maxLen) := Lib.hid (by unfold maxLen; simp; omega)
  have H2 : Hid ((([] : List Value).length + s.length) * 1 ≤ 140737488355328) := Lib.hid (by simp; omega)
  have H3 : Hid (((bi s).map (Value.int .u8)).length = s.length) := Lib.hid (by simp [bi])
  have HF1 := Lib.hid f1
  have Q1 := Lib.hid q1
  clear b1 a1 hk hs hw hb hA f1 hw1 HFW
  go_wp2_with (refine wpList_append_fr _ rfl (.const (.slice none 0 0)) (.tmp 26) 22 rfl 5 (.int .u8 0) 1 HU.out HIN.out rfl w1.heap.size (.slice none 0 0) [] (by exact rfl) (Ow.nil _ _ _) ba s.length bc _ (by exact rfl) H3.out HSV.out (oneCell_bytes _) (by exact H1.out) (by exact H2.out) (Nat.le_refl _) ?_)
  intro v' w2 o1 f2 hbk
  have f2' : Fr [] w1 w2 := f2
  have o2 : Ow w2 w1.heap.size 5 v' ((bi s).map (Value.int .u8)) := o1.out
  obtain ⟨oa, oc, rfl, _, _, hso, hob⟩ := o2.formB
  have q2 := f2'.keep Q1.out (by simp)
  have O2 := Lib.hid o2
  obtain ⟨S, hS⟩ : ∃ S : List Nat, (∀ x ∈ S, w1.heap.size ≤ x ∧ x < w2.heap.size) ∧ (0 < s.length → ∃ g, oa = some ⟨g, 0, none⟩ ∧ g ∈ S) := by
    rcases Nat.eq_zero_or_pos s.length with h0 | h0
    · exact ⟨[], by simp, fun h => absurd h (by omega)⟩
    · obtain ⟨g, c, hv, _, _, hg1, hg2, _, _⟩ := o2.row (by simp [bi]; omega)
      injection hv with e1 _ _
      exact ⟨[g], fun x hx => by simp at hx; subst hx; exact ⟨hg1, hg2⟩, fun _ => ⟨g, e1, by simp⟩⟩
  have HS := Lib.hid hS
  clear hS
  have F2 := Lib.hid f2'
  have B2 := Lib.hid (sl_keep B1.out f2' (by simp))
  have A2 := Lib.hid (A1.out.keep f2' HF1.out.size (by simp))
  have hz1 : w.heap.size < w1.heap.size := lt_of_heap q1
  have k0 : w2.cell? ⟨w.heap.size, 0, none⟩ = some (.int .i64 sg) := cell_of q2
  have k1 : w2.cell? ⟨w.heap.size, 1, none⟩ = some (.int .i64 lm) := cell_of q2
  have k2 : w2.cell? ⟨w.heap.size, 2, none⟩ = some (.int .i64 wr) := cell_of q2
  have k3 : w2.cell? ⟨w.heap.size, 3, none⟩ = some (.slice ba s.length bc) := cell_of q2
  have k4 : w2.cell? ⟨w.heap.size, 4, none⟩ = some (.int .i64 en) := cell_of q2
  have Q2 := Lib.hid q2
  have HL := HRES.out w2 oa oc
  have HRS := Lib.hid HL
  replace hob := Lib.hid hob
  clear hso o1 o2 f2 f2' hbk q2 q1 Q1 HSV B1 A1 H1 H2 H3 HL HRES
  go_wp2_with fail
  refine HRS.out.mono ?_
  rintro e w3 ⟨rfl, e3⟩
  have f3 : Fr [] w2 w3 := e3 ▸ Fr.refl _ _
  clear e3
  have q3 := f3.keep Q2.out (by simp)
  have k0 : w3.cell? ⟨w.heap.size, 0, none⟩ = some (.int .i64 sg) := cell_of q3
  have k1 : w3.cell? ⟨w.heap.size, 1, none⟩ = some (.int .i64 lm) := cell_of q3
  have k2 : w3.cell? ⟨w.heap.size, 2, none⟩ = some (.int .i64 wr) := cell_of q3
  have k3 : w3.cell? ⟨w.heap.size, 3, none⟩ = some (.slice ba s.length bc) := cell_of q3
  have k4 : w3.cell? ⟨w.heap.size, 4, none⟩ = some (.int .i64 en) := cell_of q3
  have hz2 := F2.out.size
  have O3 := Lib.hid (O2.out.keep f3 (by simp))
  have F3 := Lib.hid (F2.out.then0 f3)
  have B3 := Lib.hid (sl_keep B2.out f3 (by simp))
  have A3 := Lib.hid (A2.out.keep f3 (Nat.le_trans HF1.out.size hz2) (by simp))
  have Q3 := Lib.hid q3
  have hlt3 := f3.size
  have HRR := Lib.hid (HRER.out w3)
  clear O2 F2 B2 A2 Q2 q3 f3 HRS HRER
  go_wp2_with fail
  refine HRR.out.mono ?_
  rintro e w4 ⟨rfl, f4⟩
  have q4 := f4.keep Q3.out (by simp)
  have k3 : w4.cell? ⟨w.heap.size, 3, none⟩ = some (.slice ba s.length bc) := cell_of q4
  have hz3 := f4.size
  have O4 := Lib.hid (O3.out.keep f4 (by simp))
  have F4 := Lib.hid (F3.out.then0 f4)
  have B4 := Lib.hid (sl_keep B3.out f4 (by simp))
  have A4 := Lib.hid (A3.out.keep f4 (Nat.le_trans HF1.out.size (by omega)) (by simp))
  have Q4 := Lib.hid q4
  clear O3 F3 B3 A3 Q3 q4 f4 HRR k0 k1 k2 k4
  obtain ⟨w5, hw5, f5, q5⟩ : ∃ W, w4.alloc (.cells #[.int .i64 0, .int .i64 0, .int .i64 0, .int .i64 0, .slice none 0 0, .int .i64 0, .int .i64 0] 45) = W ∧ Fr [] w4 W ∧ RB W w4.heap.size (.int .i64 0) (.int .i64 0) (.int .i64 0) (.int .i64 0) (.slice none 0 0) (.int .i64 0) (.int .i64 0) := ⟨_, rfl, (Fr.refl _ _).alloc _, newA rfl⟩
  have O5 := Lib.hid (O4.out.keep f5 (by simp))
  have F5 := Lib.hid (F4.out.then0 f5)
  have B5 := Lib.hid (sl_keep B4.out f5 (by simp))
  have hz4 := f5.size
  have A5 := Lib.hid (A4.out.keep f5 (Nat.le_trans HF1.out.size (by omega)) (by simp))
  have Q5 := Lib.hid (f5.keep Q4.out (by simp))
  have R5 := Lib.hid q5
  have hz5 := lt_of_heap q5
  have hid0 : w5.setCell ⟨w4.heap.size, 0, none⟩ (.int .i64 0) = w5 := setCell_idB q5 rfl
  have hid1 : w5.setCell ⟨w4.heap.size, 1, none⟩ (.int .i64 0) = w5 := setCell_idB q5 rfl
  have hid2 : w5.setCell ⟨w4.heap.size, 2, none⟩ (.int .i64 0) = w5 := setCell_idB q5 rfl
  have hid3 : w5.setCell ⟨w4.heap.size, 3, none⟩ (.int .i64 0) = w5 := setCell_idB q5 rfl
  have hid4 : w5.setCell ⟨w4.heap.size, 4, none⟩ (.slice none 0 0) = w5 := setCell_idB q5 rfl
  have hid5 : w5.setCell ⟨w4.heap.size, 5, none⟩ (.int .i64 0) = w5 := setCell_idB q5 rfl
  have hid6 : w5.setCell ⟨w4.heap.size, 6, none⟩ (.int .i64 0) = w5 := setCell_idB q5 rfl
  obtain ⟨_, _, _, _, _, _, _, _, _, _, _, _, _, _⟩ := q5.cells
  clear O4 F4 B4 A4 Q4 q5 f5
  go_wp2_with fail
  clear hw5
  have h0 : Hid (∃ ys : List Value, ys.length = s.length ∧ (∀ j, 0 ≤ j → ys[j]? = ((bi s).map (Value.int .u8))[j]?) ∧ Ow w5 w1.heap.size 5 (.slice oa s.length oc) ys) := Lib.hid ⟨(bi s).map (Value.int .u8), by simp [bi], fun _ _ => rfl, O5.out⟩
  go_loopw [10] (fun i wr => ∃ k : Nat, k ≤ s.length ∧ i = .int .i64 k ∧ Fr S w5 wr ∧ Hid (∃ ys : List Value, ys.length = s.length ∧ (∀ j, k ≤ j → ys[j]? = ((bi s).map (Value.int .u8))[j]?) ∧ Ow wr w1.heap.size 5 (.slice oa s.length oc) ys)) (fun i _ => s.length - (intOf i).toNat)
  case atStart => exact ⟨0, by omega, rfl, Fr.refl _ _, h0⟩
  case round =>
    obtain ⟨k, hk, rfl, gr, hO⟩ := hrel
    rename World => wq
    by_cases hlt : (k : Int) < s.length
    · obtain ⟨g, rfl, hgS⟩ := HS.out.2 (by omega)
      obtain ⟨ys, hy1, hy2, how⟩ := hO.out
      have hks : k < s.length := by omega
      have hz : ((bi s).map (Value.int .u8))[k]? = some (.int .u8 ((bi s).getD k 0)) := by
        have : k < (bi s).length := by simpa [bi] using hks
        rw [List.getElem?_map, List.getElem?_eq_getElem this, List.getD_eq_getElem?_getD, List.getElem?_eq_getElem this]
        rfl
      obtain ⟨g', c', hv, _, _, _, _, hcell, hfro⟩ := how.row (by omega)
      injection hv with e1 _ _
      obtain rfl : g = g' := by
        injection e1 with e2
        injection e2
      clear e1
      have c0 := (hcell k (by omega)).trans ((hy2 k (Nat.le_refl _)).trans hz)
      have hf0 := hfro k
      have b6 := sl_keep B5.out gr (fun h0 b o e hm => by
        obtain ⟨b', o', e', hl, _⟩ := HB0.out h0
        rw [e] at e'
        cases e'
        have := (HS.out.1 b hm).1
        omega)
      obtain ⟨b, o, hbe, hbl, hbc⟩ := b6 (by simp [bi]; omega)
      subst hbe
      have cb := hbc k (by simpa [bi] using hks)
      have q6 := gr.keep Q5.out (fun hm => by have := (HS.out.1 _ hm).1; omega)
      have k3 : wq.cell? ⟨w.heap.size, 3, none⟩ = some (.slice (some ⟨b, o, none⟩) s.length bc) := cell_of q6
      generalize (bi s).getD k 0 = z at c0 cb hz
      have hO2 : Hid (∃ zs : List Value, zs.length = s.length ∧ (∀ j, k + 1 ≤ j → zs[j]? = ((bi s).map (Value.int .u8))[j]?) ∧ Ow (wq.setCell ⟨g, k, none⟩ (.int .u8 ((z + 1) % 256))) w1.heap.size 5 (.slice (some ⟨g, 0, none⟩) s.length oc) zs) := Lib.hid ⟨ys.set k (.int .u8 ((z + 1) % 256)), by simpa using hy1, fun j hj => by
        rw [List.getElem?_set_ne (by omega)]
        exact hy2 j (by omega), how.set k _⟩
      have g2 := Lib.hid (gr.setCell (p := ⟨g, k, none⟩) (.inl hgS) (.int .u8 ((z + 1) % 256)))
      clear hO hcell hfro b6 hbc q6 hy2 how hz hy1 B5 O5 R5 A5 Q5 F5 HB0 HS h0
      as_aux_lemma =>
        go_wp2_with fail
        go_region
        go_wp2_with fail
        refine ⟨⟨k + 1, by omega, by go_num, g2.out.drew, Lib.hid ?_⟩, by simp [intOf]; omega⟩
        obtain ⟨zs, h1, h2, h3⟩ := hO2.out
        exact ⟨zs, h1, h2, h3.keep (Fr.refl [] _).drew (by simp)⟩
    · have hwS : ∀ x ∈ S, w.heap.size ≤ x := fun x hx => by have := (HS.out.1 x hx).1; omega
      have G6 := Lib.hid ((HF1.out.then0 F5.out).trans gr (U := []) (fun _ h => .inl h) (fun x hx => .inr (hwS x hx)))
      clear R5 A5 B5 O5 F5 Q5 HF1 gr hO h0 HS HB0 hwS
      as_aux_lemma =>
        go_wp2_with fail
        refine (known21 _).mono ?_
        rintro e w99 ⟨rfl, f99⟩
        go_wp2_with fail
        go_ret
        exact ⟨rfl, G6.out.then0 f99⟩
end Go.Proofs.Ytodpkdbcdbdjfaa
