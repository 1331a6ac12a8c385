/-
  Law 21: TransferPlays: any calls of a transfer.
-/
import Derived.Test.YtodpkdbcdbdjfaaTrStep
import Derived.Test.YtodpkdbcdbdjfaaRegionU
namespace Go.Proofs.Ytodpkdbcdbdjfaa
open Go.RowKit
set_option maxRecDepth 100000

theorem stepT_rd (t : TS) (what n er : Int) (data : List UInt8) : (stepT t what n er data).rd ≤ t.rd + data.length := by
  unfold stepT
  split
  · unfold gotT
    split
    · exact Int.le_refl _
    · omega
  · split
    · unfold wroteT
      split
      · show t.rd ≤ _
        omega
      · omega
    · omega
set_option maxHeartbeats 16000000 in
theorem transferPlays_main {sg lm : Int} {a : Option Addr} {len cap : Nat} {A : List A21} (w : World) (hk : okS sg lm = true) (hA : Acts21 w w.heap.size a len cap A) (hs : fewB21 A = true) :
    Calls Try.prog 5 #[.int .i64 sg, .int .i64 lm, .slice a len cap] w fun e w' => e = .returned (.bool true) ∧ Fr [] w w' := by
  have hle := hA.len_eq
  subst hle
  have HFW := Lib.hid (hs ▸ few21 hA)
  have HVA := Lib.hid fun w => hk ▸ rvalid w sg lm
  obtain ⟨n30, hok30⟩ := fewB21_iff hs
  have HOK := Lib.hid hok30
  have hl30 : (A.length : Int) ≤ 30 := by omega
  have HNEW := Lib.hid (tr_new_ok w hk)
  clear hk hs hok30 n30
  go_enter Try.func5, Try.ntmps5
  go_wp2_with fail
  refine HFW.out.mono ?_
  rintro e w' ⟨rfl, rfl⟩
  go_wp2_with fail
  refine HNEW.out.mono ?_
  rintro e w1 ⟨rfl, g1, h1⟩
  have H1 := Lib.hid h1
  have hlt1 := h1.lt
  have a1 := Lib.hid (hA.keep g1 (Nat.le_refl _) (by simp))
  clear hA HNEW HFW
  go_wp2_with fail
  refine (HVA.out _).mono ?_
  rintro e w' ⟨rfl, rfl⟩
  clear HVA h1
  obtain ⟨w2a, hw2a, f2a, q2a⟩ : ∃ W, w1.alloc (.cells #[.int .i64 sg, .int .i64 lm, .int .i64 0, .int .i64 0, .slice none 0 0, .int .i64 0, .int .i64 0] 45) = W ∧ Fr [] w1 W ∧ RB W w1.heap.size (.int .i64 sg) (.int .i64 lm) (.int .i64 0) (.int .i64 0) (.slice none 0 0) (.int .i64 0) (.int .i64 0) := ⟨_, rfl, (Fr.refl _ _).alloc _, newA rfl⟩
  obtain ⟨_, _, _, _, _, _, _, _, _, _, _, _, _, _⟩ := q2a.cells
  obtain ⟨w2, hw2, f2, q2⟩ : ∃ W, (((((w2a.setCell ⟨w1.heap.size, 2, none⟩ (.int .i64 0)).setCell ⟨w1.heap.size, 3, none⟩ (.int .i64 0)).setCell ⟨w1.heap.size, 4, none⟩ (.slice none 0 0)).setCell ⟨w1.heap.size, 5, none⟩ (.int .i64 0)).setCell ⟨w1.heap.size, 6, none⟩ (.int .i64 0)) = W ∧ Fr [] w1 W ∧ RB W w1.heap.size (.int .i64 sg) (.int .i64 lm) (.int .i64 0) (.int .i64 0) (.slice none 0 0) (.int .i64 0) (.int .i64 0) := ⟨_, rfl, ((((f2a.setCell (.inr (Nat.le_refl _)) _).setCell (.inr (Nat.le_refl _)) _).setCell (.inr (Nat.le_refl _)) _).setCell (.inr (Nat.le_refl _)) _).setCell (.inr (Nat.le_refl _)) _, by
    have hx := heap_setCell_eq (i := 6) (u := .int .i64 0) (heap_setCell_eq (i := 5) (u := .int .i64 0) (heap_setCell_eq (i := 4) (u := .slice none 0 0) (heap_setCell_eq (i := 3) (u := .int .i64 0) (heap_setCell_eq (i := 2) (u := .int .i64 0) q2a))))
    simp at hx
    exact hx⟩
  obtain ⟨_, _, _, _, _, _, _, _, _, _, _, _, _, _⟩ := q2.cells
  have V2 : Hid (Rv w2 (fun x => False) (.agg #[.int .i64 sg, .int .i64 lm, .int .i64 0, .int .i64 0, .slice none 0 0, .int .i64 0, .int .i64 0]) (newT sg lm)) := Lib.hid ⟨none, 0, rfl, Nat.le_refl _, by unfold maxLen; omega, Sl.nil _ _, by intro b o h; simp [newT] at h⟩
  have T2 := Lib.hid (H1.out.out f2 (by simp) (by simp))
  have HIS := Lib.hid (is21 T2.out (by show (0 : Int) ≤ _; omega) V2.out)
  have Q2 := Lib.hid q2
  have hlt2 := lt_of_heap q2
  have A2 := Lib.hid (a1.out.keep f2 g1.size (by simp))
  have G2 := Lib.hid (g1.then0 f2)
  clear f2 q2 q2a f2a
  go_wp2_with fail
  refine HIS.out.mono ?_
  rintro e w3 ⟨rfl, f3⟩
  have q3 : RB w3 w1.heap.size (.int .i64 sg) (.int .i64 lm) (.int .i64 0) (.int .i64 0) (.slice none 0 0) (.int .i64 0) (.int .i64 0) := f3.keep Q2.out (by simp)
  have T3 := Lib.hid (T2.out.keep0 f3)
  have V3 := Lib.hid (V2.out.keep f3 (by simp))
  have g3 := G2.out.then0 f3
  have a3 := A2.out.keep f3 G2.out.size (by simp)
  have hNE0 : Hid (¬ (((fun x => x ≠ w.heap.size) w1.heap.size ∧ w1.heap.size < w1.heap.size) ∨ w2.heap.size ≤ w1.heap.size) ∧ ¬ False ∧ ¬ False ∧ w.heap.size ≠ w1.heap.size ∧ w.heap.size ≤ w.heap.size ∧ w.heap.size ≤ w1.heap.size) := Lib.hid ⟨by rintro (h | h) <;> omega, not_false, not_false, by omega, by omega, by omega⟩
  clear hw2 hw2a HIS T2 V2 Q2 A2 G2 f3 H1 a1 g1
  have q3' := Lib.hid q3
  clear q3
  go_wp2_with fail
  obtain ⟨B, hB⟩ : ∃ B, B = w1.heap.size := ⟨_, rfl⟩
  rw [← hB] at q3' hNE0 T3 ⊢
  go_loopw [7, 10] (fun v7 i wr => ∃ (k : Nat) (t : TS) (b : Nat) (N N2 : Nat → Prop) (ra : Option Addr) (rc : Nat), k ≤ A.length ∧ i = .int .i64 k ∧ v7 = .pointer (some ⟨b, 0, none⟩) ∧ Hid (t.rd ≤ (k : Int) * 5000) ∧ RB wr B (.int .i64 t.stage) (.int .i64 t.limit) (.int .i64 t.rd) (.int .i64 t.wr) (.slice ra t.s.length rc) (.int .i64 t.r) (.int .i64 t.w) ∧ Hid (Tr wr N b t) ∧ Hid (Rv wr N2 (.agg #[.int .i64 t.stage, .int .i64 t.limit, .int .i64 t.rd, .int .i64 t.wr, .slice ra t.s.length rc, .int .i64 t.r, .int .i64 t.w]) t) ∧ Hid (¬ N B ∧ ¬ N2 B ∧ ¬ N2 b ∧ b ≠ B ∧ w.heap.size ≤ b ∧ w.heap.size ≤ B) ∧ Fr [] w wr ∧ Acts21 wr w.heap.size a A.length cap A) (fun _ i _ => A.length - (intOf i).toNat)
  case atStart => exact ⟨0, newT sg lm, w.heap.size, _, _, none, 0, by omega, rfl, rfl, Lib.hid (by simp [newT]), q3'.out, T3, V3, hNE0, g3, a3⟩
  case round =>
    clear q3' T3 V3 hNE0 g3 a3 hB
    obtain ⟨k, t, b, N, N2, ra, rc, hk, rfl, rfl, HL, qr, HT, HV, HNE, gr, ar⟩ := hrel
    rename World => wr
    by_cases hlt : (k : Int) < A.length
    · as_aux_lemma =>
      have hkA : k < A.length := by omega
      obtain ⟨ab, ao, pa, pl, pc, rfl, habM, hab, c0, c1, c2, c3, hd, ⟨w0a, w0b⟩, ⟨w2a, w2b⟩, ⟨w3a, w3b⟩⟩ := ar.at_ k hkA
      have hok := HOK.out A[k] (List.getElem_mem hkA)
      generalize A[k] = ak at c0 c1 c2 c3 hd hok w0a w0b w2a w2b w3a w3b
      obtain ⟨what, data, n, er⟩ := ak
      dsimp only at c0 c1 c2 c3 hd hok w0a w0b w2a w2b w3a w3b
      have hpl := hd.len_eq
      subst hpl
      have hrd : t.rd ≤ 150000 := by have h2 := HL.out; omega
      have hblt := HT.out.lt
      have hBlt := lt_of_heap qr
      obtain ⟨t2, ht2⟩ : ∃ t2, stepT t what n er data = t2 := ⟨_, rfl⟩
      have HT2 := Lib.hid ht2
      have HSTEP := Lib.hid fun (W : World) (N0 : Nat → Prop) (f : Fr [] wr W) (hb : ¬ N2 b) => ht2 ▸ step21 (w := W) (pc := pc) (HT.out.out f (by simp) (by simp)) (by omega) (HV.out.there.keep f (by simp)) (fun h => hb h.1) (sl_keep hd.sl f (by simp)) (show data.length ≤ 65536 by omega) what n er
      unfold StepR at HSTEP
      clear ht2
      have HEW := Lib.hid (Go.Proofs.enters_of Try.func24 (by kernel_rfl) rfl)
      have hbB := HNE.out.2.2.2.1
      have habB : ab ≠ B ∧ ab ≠ b := by have := HNE.out.2.2.2.2; omega
      obtain ⟨_, _, _, _, _, _, _, _, _, _, _, _, _, _⟩ := qr.cells
      clear w0a w0b w2a w2b w3a w3b
      go_upto_region 12 with fail
      go_cut [11, 12, 13] (fun v11 v12 v13 wx => ∃ (b2 B2 : Nat) (t2 : TS) (ua : Option Addr) (uc : Nat), v11 = .pointer (some ⟨b2, 0, none⟩) ∧ v12 = .pointer (some ⟨B2, 0, none⟩) ∧ v13 = .bool true ∧ Hid (t2 = stepT t what n er data) ∧ Hid (RB wx B2 (.int .i64 t2.stage) (.int .i64 t2.limit) (.int .i64 t2.rd) (.int .i64 t2.wr) (.slice ua t2.s.length uc) (.int .i64 t2.r) (.int .i64 t2.w)) ∧ Hid (Fr [b] wr wx) ∧ (∃ N', Hid (Tr wx N' b2 t2) ∧ Hid (¬ N' B)) ∧ (∃ N', Hid (Rv wx N' (.agg #[.int .i64 t2.stage, .int .i64 t2.limit, .int .i64 t2.rd, .int .i64 t2.wr, .slice ua t2.s.length uc, .int .i64 t2.r, .int .i64 t2.w]) t2) ∧ Hid (¬ N' B) ∧ Hid (¬ N' b2)) ∧ Hid (b2 ≠ B ∧ w.heap.size ≤ b2 ∧ wr.heap.size ≤ B2))
      case first =>
        have f0 : Fr [b] wr wr.drew := (Fr.refl _ _).drew
        refine wp_region_tree (.take 0 (.take 1 (.take 2 (.take 3 (.take 4 (.take 5 (.two 6 11 (.take 7 (.take 8 (.take 9 (.take 10 (.one 11 (.take 12 (.one 13 (.take 14 .nil)))))))) (.one 6 (.take 7 (.take 8 (.take 9 (.take 10 (.take 12 (.one 13 (.take 14 .nil))))))))))))))) (fun w' => w'.cell? ⟨B, 0, none⟩ = some (.int .i64 t.stage) ∧ w'.cell? ⟨B, 1, none⟩ = some (.int .i64 t.limit) ∧ w'.cell? ⟨B, 2, none⟩ = some (.int .i64 t.rd) ∧ w'.cell? ⟨B, 3, none⟩ = some (.int .i64 t.wr) ∧ w'.cell? ⟨B, 4, none⟩ = some (.slice ra t.s.length rc) ∧ w'.cell? ⟨B, 5, none⟩ = some (.int .i64 t.r) ∧ w'.cell? ⟨B, 6, none⟩ = some (.int .i64 t.w) ∧ w'.cell? ⟨ab, ao + k * 4, none⟩ = some (.int .i64 what) ∧ w'.cell? ⟨ab, ao + k * 4 + 1, none⟩ = some (.slice pa data.length pc) ∧ w'.cell? ⟨ab, ao + k * 4 + 2, none⟩ = some (.int .i64 n) ∧ w'.cell? ⟨ab, ao + k * 4 + 3, none⟩ = some (.int .i64 er)) (by kernel_rfl) (by kernel_rfl) ⟨cell_of (f0.keep qr (by simp; omega)), cell_of (f0.keep qr (by simp; omega)), cell_of (f0.keep qr (by simp; omega)), cell_of (f0.keep qr (by simp; omega)), cell_of (f0.keep qr (by simp; omega)), cell_of (f0.keep qr (by simp; omega)), cell_of (f0.keep qr (by simp; omega)), (World.cell?_of_block (w := wr) (f0.block ab hab (by simp; omega))).trans c0, (World.cell?_of_block (w := wr) (f0.block ab hab (by simp; omega))).trans c1, (World.cell?_of_block (w := wr) (f0.block ab hab (by simp; omega))).trans c2, (World.cell?_of_block (w := wr) (f0.block ab hab (by simp; omega))).trans c3⟩ ?_
        intro OPS HOPS
        have hops := HOPS.out
        try simp only [List.append_eq, List.cons_append, List.nil_append] at hops
        replace HOPS := Lib.hid hops
        clear hops
        refine walkT_take (o := _) (v := ?_) (by rw [HOPS.out]; simp only [List.getElem?_toArray, List.getElem?_cons_succ, List.getElem?_cons_zero]; exact rfl) (Or.inl ⟨rfl, ?_⟩) ?_
        rotate_left
        · (intro w hSw; (try dsimp only at hSw); go_simp) <;> (with_reducible rfl)
        simp only [Act.put, List.setIfInBounds_toArray, List.set_cons_zero, List.set_cons_succ]
        refine walkT_take (o := _) (v := ?_) (by rw [HOPS.out]; simp only [List.getElem?_toArray, List.getElem?_cons_succ, List.getElem?_cons_zero]; exact rfl) (Or.inl ⟨rfl, ?_⟩) ?_
        rotate_left
        · (intro w hSw; (try dsimp only at hSw); go_simp) <;> (with_reducible rfl)
        simp only [Act.put, List.setIfInBounds_toArray, List.set_cons_zero, List.set_cons_succ]
        refine walkT_take (o := _) (v := ?_) (by rw [HOPS.out]; simp only [List.getElem?_toArray, List.getElem?_cons_succ, List.getElem?_cons_zero]; exact rfl) (Or.inl ⟨rfl, ?_⟩) ?_
        rotate_left
        · (intro w hSw; (try dsimp only at hSw); go_simp) <;> (with_reducible rfl)
        simp only [Act.put, List.setIfInBounds_toArray, List.set_cons_zero, List.set_cons_succ]
        refine walkT_take (o := _) (v := ?_) (by rw [HOPS.out]; simp only [List.getElem?_toArray, List.getElem?_cons_succ, List.getElem?_cons_zero]; exact rfl) (Or.inl ⟨rfl, ?_⟩) ?_
        rotate_left
        · (intro w hSw; (try dsimp only at hSw); go_simp) <;> (with_reducible rfl)
        simp only [Act.put, List.setIfInBounds_toArray, List.set_cons_zero, List.set_cons_succ]
        refine walkT_take (o := _) (v := ?_) (by rw [HOPS.out]; simp only [List.getElem?_toArray, List.getElem?_cons_succ, List.getElem?_cons_zero]; exact rfl) (Or.inl ⟨rfl, ?_⟩) ?_
        rotate_left
        · (intro w hSw; (try dsimp only at hSw); go_simp) <;> (with_reducible rfl)
        simp only [Act.put, List.setIfInBounds_toArray, List.set_cons_zero, List.set_cons_succ]
        refine walkT_take (o := _) (v := ?_) (by rw [HOPS.out]; simp only [List.getElem?_toArray, List.getElem?_cons_succ, List.getElem?_cons_zero]; exact rfl) (Or.inl ⟨rfl, ?_⟩) ?_
        rotate_left
        · (intro w hSw; (try dsimp only at hSw); go_simp) <;> (with_reducible rfl)
        simp only [Act.put, List.setIfInBounds_toArray, List.set_cons_zero, List.set_cons_succ]
        refine walkT_two ?_ ?_
        · refine walkT_call (o := _) (by rw [HOPS.out]; simp only [List.getElem?_toArray, List.getElem?_cons_succ, List.getElem?_cons_zero]; exact rfl) (fun K HK => ?_)
          refine step_call rfl 24 #[(.tmp 59), (.tmp 60), (.tmp 64)] #[27, 45, 41] rfl HEW.out #[.pointer (some ⟨b, 0, none⟩), .agg #[.int .i64 t.stage, .int .i64 t.limit, .int .i64 t.rd, .int .i64 t.wr, .slice ra t.s.length rc, .int .i64 t.r, .int .i64 t.w], .agg #[.int .i64 what, .slice pa data.length pc, .int .i64 n, .int .i64 er]] (by simp [Act.eval]) (HSTEP.out _ N2 (Fr.refl [] wr).drew HNE.out.2.2.1) ?_
          rintro e w5 ⟨b2, v2, rfl, f5', ⟨N3, h5, hN3⟩, ⟨N4, u5, hb2, hN4⟩, hbb⟩
          obtain ⟨ua, uc, rfl, _⟩ := id u5
          have f5 : Fr [b] wr w5 := Fr.undrew f5'
          have hz5 : wr.heap.size ≤ w5.heap.size := f5.size
          have hbz : b2 = b ∨ wr.heap.size ≤ b2 := hbb
          have hM3 : ∀ x, x < wr.heap.size → N3 x → N x := fun x hx hn => (hN3 x hx hn).elim (·.1) (fun h => absurd (show wr.heap.size ≤ x from h) (by omega))
          have hM4 : ∀ x, x < wr.heap.size → N4 x → N2 x := fun x hx hn => (hN4 x hx hn).1
          refine ⟨_, rfl, ?_⟩
          refine HK.out (fun w' => w'.cell? ⟨B, 0, none⟩ = some (.int .i64 t.stage) ∧ w'.cell? ⟨B, 1, none⟩ = some (.int .i64 t.limit) ∧ w'.cell? ⟨B, 2, none⟩ = some (.int .i64 t.rd) ∧ w'.cell? ⟨B, 3, none⟩ = some (.int .i64 t.wr) ∧ w'.cell? ⟨B, 4, none⟩ = some (.slice ra t.s.length rc) ∧ w'.cell? ⟨B, 5, none⟩ = some (.int .i64 t.r) ∧ w'.cell? ⟨B, 6, none⟩ = some (.int .i64 t.w) ∧ w'.cell? ⟨ab, ao + k * 4, none⟩ = some (.int .i64 what) ∧ w'.cell? ⟨ab, ao + k * 4 + 1, none⟩ = some (.slice pa data.length pc) ∧ w'.cell? ⟨ab, ao + k * 4 + 2, none⟩ = some (.int .i64 n) ∧ w'.cell? ⟨ab, ao + k * 4 + 3, none⟩ = some (.int .i64 er)) _ _ (fun _ h => h) (⟨cell_of (f5.keep qr (by simp; omega)), cell_of (f5.keep qr (by simp; omega)), cell_of (f5.keep qr (by simp; omega)), cell_of (f5.keep qr (by simp; omega)), cell_of (f5.keep qr (by simp; omega)), cell_of (f5.keep qr (by simp; omega)), cell_of (f5.keep qr (by simp; omega)), (World.cell?_of_block (w := wr) (f5.block ab hab (by simp; omega))).trans c0, (World.cell?_of_block (w := wr) (f5.block ab hab (by simp; omega))).trans c1, (World.cell?_of_block (w := wr) (f5.block ab hab (by simp; omega))).trans c2, (World.cell?_of_block (w := wr) (f5.block ab hab (by simp; omega))).trans c3⟩) ?_
          clear HK K
          simp only [Act.put, List.setIfInBounds_toArray, List.set_cons_zero, List.set_cons_succ]
          refine walkT_take (o := _) (v := ?_) (by rw [HOPS.out]; simp only [List.getElem?_toArray, List.getElem?_cons_succ, List.getElem?_cons_zero]; exact rfl) (Or.inl ⟨rfl, ?_⟩) ?_
          rotate_left
          · (intro w hSw; (try dsimp only at hSw); go_simp) <;> (with_reducible rfl)
          simp only [Act.put, List.setIfInBounds_toArray, List.set_cons_zero, List.set_cons_succ]
          refine walkT_take (o := _) (v := ?_) (by rw [HOPS.out]; simp only [List.getElem?_toArray, List.getElem?_cons_succ, List.getElem?_cons_zero]; exact rfl) (Or.inl ⟨rfl, ?_⟩) ?_
          rotate_left
          · (intro w hSw; (try dsimp only at hSw); go_simp) <;> (with_reducible rfl)
          simp only [Act.put, List.setIfInBounds_toArray, List.set_cons_zero, List.set_cons_succ]
          refine walkT_take (o := _) (v := ?_) (by rw [HOPS.out]; simp only [List.getElem?_toArray, List.getElem?_cons_succ, List.getElem?_cons_zero]; exact rfl) (Or.inl ⟨rfl, ?_⟩) ?_
          rotate_left
          · (intro w hSw; (try dsimp only at hSw); go_simp) <;> (with_reducible rfl)
          simp only [Act.put, List.setIfInBounds_toArray, List.set_cons_zero, List.set_cons_succ]
          refine walkT_take (o := _) (v := ?_) (by rw [HOPS.out]; simp only [List.getElem?_toArray, List.getElem?_cons_succ, List.getElem?_cons_zero]; exact rfl) (Or.inl ⟨rfl, ?_⟩) ?_
          rotate_left
          · (intro w hSw; (try dsimp only at hSw); go_simp) <;> (with_reducible rfl)
          simp only [Act.put, List.setIfInBounds_toArray, List.set_cons_zero, List.set_cons_succ]
          refine walkT_call (o := _) (by rw [HOPS.out]; simp only [List.getElem?_toArray, List.getElem?_cons_succ, List.getElem?_cons_zero]; exact rfl) (fun K HK => ?_)
          go_simp
          obtain ⟨w6, hw6, f6, q6⟩ : ∃ W, w5.alloc (.cells #[.int .i64 0, .int .i64 0, .int .i64 0, .int .i64 0, .slice none 0 0, .int .i64 0, .int .i64 0] 45) = W ∧ Fr [] w5 W ∧ RB W w5.heap.size (.int .i64 0) (.int .i64 0) (.int .i64 0) (.int .i64 0) (.slice none 0 0) (.int .i64 0) (.int .i64 0) := ⟨_, rfl, (Fr.refl _ _).alloc _, newA rfl⟩
          try rw [hw6]
          have f56 : Fr [b] wr w6 := f5.then0 f6
          refine HK.out (fun w' => w'.cell? ⟨B, 0, none⟩ = some (.int .i64 t.stage) ∧ w'.cell? ⟨B, 1, none⟩ = some (.int .i64 t.limit) ∧ w'.cell? ⟨B, 2, none⟩ = some (.int .i64 t.rd) ∧ w'.cell? ⟨B, 3, none⟩ = some (.int .i64 t.wr) ∧ w'.cell? ⟨B, 4, none⟩ = some (.slice ra t.s.length rc) ∧ w'.cell? ⟨B, 5, none⟩ = some (.int .i64 t.r) ∧ w'.cell? ⟨B, 6, none⟩ = some (.int .i64 t.w) ∧ w'.cell? ⟨ab, ao + k * 4, none⟩ = some (.int .i64 what) ∧ w'.cell? ⟨ab, ao + k * 4 + 1, none⟩ = some (.slice pa data.length pc) ∧ w'.cell? ⟨ab, ao + k * 4 + 2, none⟩ = some (.int .i64 n) ∧ w'.cell? ⟨ab, ao + k * 4 + 3, none⟩ = some (.int .i64 er)) _ _ (fun _ h => h) ⟨cell_of (f56.keep qr (by simp; omega)), cell_of (f56.keep qr (by simp; omega)), cell_of (f56.keep qr (by simp; omega)), cell_of (f56.keep qr (by simp; omega)), cell_of (f56.keep qr (by simp; omega)), cell_of (f56.keep qr (by simp; omega)), cell_of (f56.keep qr (by simp; omega)), (World.cell?_of_block (w := wr) (f56.block ab hab (by simp; omega))).trans c0, (World.cell?_of_block (w := wr) (f56.block ab hab (by simp; omega))).trans c1, (World.cell?_of_block (w := wr) (f56.block ab hab (by simp; omega))).trans c2, (World.cell?_of_block (w := wr) (f56.block ab hab (by simp; omega))).trans c3⟩ ?_
          clear HK K
          try simp only [Act.put, List.setIfInBounds_toArray, List.set_cons_zero, List.set_cons_succ]
          refine walkT_take (o := _) (v := ?_) (by rw [HOPS.out]; simp only [List.getElem?_toArray, List.getElem?_cons_succ, List.getElem?_cons_zero]; exact rfl) (Or.inl ⟨rfl, ?_⟩) ?_
          rotate_left
          · (intro w hSw; (try dsimp only at hSw); go_simp) <;> (with_reducible rfl)
          simp only [Act.put, List.setIfInBounds_toArray, List.set_cons_zero, List.set_cons_succ]
          refine walkT_call (o := _) (by rw [HOPS.out]; simp only [List.getElem?_toArray, List.getElem?_cons_succ, List.getElem?_cons_zero]; exact rfl) (fun K HK => ?_)
          refine step_store7 (p := .tmp 12) (x := .tmp 67) q6 rfl rfl rfl rfl rfl ?_
          obtain ⟨w7, hw7, f7, q7⟩ : ∃ W, (((((((w6.setCell ⟨w5.heap.size, 0, none⟩ (.int .i64 t2.stage)).setCell ⟨w5.heap.size, 1, none⟩ (.int .i64 t2.limit)).setCell ⟨w5.heap.size, 2, none⟩ (.int .i64 t2.rd)).setCell ⟨w5.heap.size, 3, none⟩ (.int .i64 t2.wr)).setCell ⟨w5.heap.size, 4, none⟩ (.slice ua t2.s.length uc)).setCell ⟨w5.heap.size, 5, none⟩ (.int .i64 t2.r)).setCell ⟨w5.heap.size, 6, none⟩ (.int .i64 t2.w)) = W ∧ Fr [w5.heap.size] w6 W ∧ RB W w5.heap.size (.int .i64 t2.stage) (.int .i64 t2.limit) (.int .i64 t2.rd) (.int .i64 t2.wr) (.slice ua t2.s.length uc) (.int .i64 t2.r) (.int .i64 t2.w) := ⟨_, rfl, seven_fr, seven_set q6⟩
          rw [hw7]
          have f67 : Fr [b, w5.heap.size] wr w7 := (f56.mono (by simp)).then (f7.mono (by simp))
          refine HK.out (fun w' => w'.cell? ⟨B, 0, none⟩ = some (.int .i64 t.stage) ∧ w'.cell? ⟨B, 1, none⟩ = some (.int .i64 t.limit) ∧ w'.cell? ⟨B, 2, none⟩ = some (.int .i64 t.rd) ∧ w'.cell? ⟨B, 3, none⟩ = some (.int .i64 t.wr) ∧ w'.cell? ⟨B, 4, none⟩ = some (.slice ra t.s.length rc) ∧ w'.cell? ⟨B, 5, none⟩ = some (.int .i64 t.r) ∧ w'.cell? ⟨B, 6, none⟩ = some (.int .i64 t.w) ∧ w'.cell? ⟨ab, ao + k * 4, none⟩ = some (.int .i64 what) ∧ w'.cell? ⟨ab, ao + k * 4 + 1, none⟩ = some (.slice pa data.length pc) ∧ w'.cell? ⟨ab, ao + k * 4 + 2, none⟩ = some (.int .i64 n) ∧ w'.cell? ⟨ab, ao + k * 4 + 3, none⟩ = some (.int .i64 er)) _ _ (fun _ h => h) ⟨cell_of (f67.keep qr (by simp; omega)), cell_of (f67.keep qr (by simp; omega)), cell_of (f67.keep qr (by simp; omega)), cell_of (f67.keep qr (by simp; omega)), cell_of (f67.keep qr (by simp; omega)), cell_of (f67.keep qr (by simp; omega)), cell_of (f67.keep qr (by simp; omega)), (World.cell?_of_block (w := wr) (f67.block ab hab (by simp; omega))).trans c0, (World.cell?_of_block (w := wr) (f67.block ab hab (by simp; omega))).trans c1, (World.cell?_of_block (w := wr) (f67.block ab hab (by simp; omega))).trans c2, (World.cell?_of_block (w := wr) (f67.block ab hab (by simp; omega))).trans c3⟩ ?_
          clear HK K
          try simp only [Act.put, List.setIfInBounds_toArray, List.set_cons_zero, List.set_cons_succ]
          refine walkT_take (o := _) (v := ?_) (by rw [HOPS.out]; simp only [List.getElem?_toArray, List.getElem?_cons_succ, List.getElem?_cons_zero]; exact rfl) (Or.inl ⟨rfl, ?_⟩) ?_
          rotate_left
          · (intro w hSw; (try dsimp only at hSw); go_simp) <;> (with_reducible rfl)
          simp only [Act.put, List.setIfInBounds_toArray, List.set_cons_zero, List.set_cons_succ]
          refine walkT_done ?_
          clear HOPS OPS
          go_wp2_with fail
          go_meet
          have TT := h5.out f6 (by simp) (by simp)
          have hl5 := h5.lt
          have hq6 := lt_of_heap q6
          have UU := u5.there.keep f6 (by simp)
          exact ⟨b2, w5.heap.size, t2, ua, uc, rfl, rfl, rfl, Lib.hid HT2.out.symm, Lib.hid q7, Lib.hid (f67.mono (by simp; omega)), ⟨_, Lib.hid (TT.keep f7 (by simp; omega) (fun x hx hn => by simp at hx; rcases hn with hn | hn; (have := hn.2; omega); omega)), Lib.hid (fun hn => by rcases hn with hn | hn; exact HNE.out.1 (hM3 B (by omega) hn.1); omega)⟩, ⟨_, Lib.hid (UU.keep f7 (fun x hx hn => by simp at hx; have := hn.2; omega)), Lib.hid (fun hn => HNE.out.2.1 (hM4 B (by omega) hn.1)), Lib.hid (fun hn => hb2 hn.1)⟩, Lib.hid (by have := HNE.out.2.2.2; rcases hbz with h | h <;> omega)⟩
        · refine walkT_call (o := _) (by rw [HOPS.out]; simp only [List.getElem?_toArray, List.getElem?_cons_succ, List.getElem?_cons_zero]; exact rfl) (fun K HK => ?_)
          go_simp
          obtain ⟨w6a, hw6, f6, q6⟩ : ∃ W, (wr.alloc (.cells #[.int .i64 0, .int .i64 0, .int .i64 0, .int .i64 0, .slice none 0 0, .int .i64 0, .int .i64 0] 45)).drew = W ∧ Fr [] wr W ∧ RB W wr.heap.size (.int .i64 0) (.int .i64 0) (.int .i64 0) (.int .i64 0) (.slice none 0 0) (.int .i64 0) (.int .i64 0) := ⟨_, rfl, ((Fr.refl _ _).alloc _).drew, newA rfl⟩
          try rw [hw6]
          have f56 : Fr [b] wr w6a := f6.mono (by simp)
          refine HK.out (fun w' => w'.cell? ⟨B, 0, none⟩ = some (.int .i64 t.stage) ∧ w'.cell? ⟨B, 1, none⟩ = some (.int .i64 t.limit) ∧ w'.cell? ⟨B, 2, none⟩ = some (.int .i64 t.rd) ∧ w'.cell? ⟨B, 3, none⟩ = some (.int .i64 t.wr) ∧ w'.cell? ⟨B, 4, none⟩ = some (.slice ra t.s.length rc) ∧ w'.cell? ⟨B, 5, none⟩ = some (.int .i64 t.r) ∧ w'.cell? ⟨B, 6, none⟩ = some (.int .i64 t.w) ∧ w'.cell? ⟨ab, ao + k * 4, none⟩ = some (.int .i64 what) ∧ w'.cell? ⟨ab, ao + k * 4 + 1, none⟩ = some (.slice pa data.length pc) ∧ w'.cell? ⟨ab, ao + k * 4 + 2, none⟩ = some (.int .i64 n) ∧ w'.cell? ⟨ab, ao + k * 4 + 3, none⟩ = some (.int .i64 er)) _ _ (fun _ h => h) ⟨cell_of (f56.keep qr (by simp; omega)), cell_of (f56.keep qr (by simp; omega)), cell_of (f56.keep qr (by simp; omega)), cell_of (f56.keep qr (by simp; omega)), cell_of (f56.keep qr (by simp; omega)), cell_of (f56.keep qr (by simp; omega)), cell_of (f56.keep qr (by simp; omega)), (World.cell?_of_block (w := wr) (f56.block ab hab (by simp; omega))).trans c0, (World.cell?_of_block (w := wr) (f56.block ab hab (by simp; omega))).trans c1, (World.cell?_of_block (w := wr) (f56.block ab hab (by simp; omega))).trans c2, (World.cell?_of_block (w := wr) (f56.block ab hab (by simp; omega))).trans c3⟩ ?_
          clear HK K
          try simp only [Act.put, List.setIfInBounds_toArray, List.set_cons_zero, List.set_cons_succ]
          refine walkT_call (o := _) (by rw [HOPS.out]; simp only [List.getElem?_toArray, List.getElem?_cons_succ, List.getElem?_cons_zero]; exact rfl) (fun K HK => ?_)
          refine step_call rfl 24 #[(.tmp 59), (.tmp 60), (.tmp 64)] #[27, 45, 41] rfl HEW.out #[.pointer (some ⟨b, 0, none⟩), .agg #[.int .i64 t.stage, .int .i64 t.limit, .int .i64 t.rd, .int .i64 t.wr, .slice ra t.s.length rc, .int .i64 t.r, .int .i64 t.w], .agg #[.int .i64 what, .slice pa data.length pc, .int .i64 n, .int .i64 er]] (by simp [Act.eval]) (HSTEP.out _ N2 f6 HNE.out.2.2.1) ?_
          rintro e w5 ⟨b2, v2, rfl, f5', ⟨N3, h5, hN3⟩, ⟨N4, u5, hb2, hN4⟩, hbb⟩
          obtain ⟨ua, uc, rfl, _⟩ := id u5
          have f5 : Fr [b] wr w5 := f56.then f5'
          have hz5 := f5.size
          have hz6 := lt_of_heap q6
          have q6b : RB w5 wr.heap.size _ _ _ _ _ _ _ := f5'.keep q6 (by simp; omega)
          have hM3 : ∀ x, x < w6a.heap.size → N3 x → N x ∧ x < wr.heap.size := fun x hx hn => (hN3 x hx hn).elim id (fun h => absurd h (by omega))
          refine ⟨_, rfl, ?_⟩
          refine HK.out (fun w' => w'.cell? ⟨B, 0, none⟩ = some (.int .i64 t.stage) ∧ w'.cell? ⟨B, 1, none⟩ = some (.int .i64 t.limit) ∧ w'.cell? ⟨B, 2, none⟩ = some (.int .i64 t.rd) ∧ w'.cell? ⟨B, 3, none⟩ = some (.int .i64 t.wr) ∧ w'.cell? ⟨B, 4, none⟩ = some (.slice ra t.s.length rc) ∧ w'.cell? ⟨B, 5, none⟩ = some (.int .i64 t.r) ∧ w'.cell? ⟨B, 6, none⟩ = some (.int .i64 t.w) ∧ w'.cell? ⟨ab, ao + k * 4, none⟩ = some (.int .i64 what) ∧ w'.cell? ⟨ab, ao + k * 4 + 1, none⟩ = some (.slice pa data.length pc) ∧ w'.cell? ⟨ab, ao + k * 4 + 2, none⟩ = some (.int .i64 n) ∧ w'.cell? ⟨ab, ao + k * 4 + 3, none⟩ = some (.int .i64 er)) _ _ (fun _ h => h) (⟨cell_of (f5.keep qr (by simp; omega)), cell_of (f5.keep qr (by simp; omega)), cell_of (f5.keep qr (by simp; omega)), cell_of (f5.keep qr (by simp; omega)), cell_of (f5.keep qr (by simp; omega)), cell_of (f5.keep qr (by simp; omega)), cell_of (f5.keep qr (by simp; omega)), (World.cell?_of_block (w := wr) (f5.block ab hab (by simp; omega))).trans c0, (World.cell?_of_block (w := wr) (f5.block ab hab (by simp; omega))).trans c1, (World.cell?_of_block (w := wr) (f5.block ab hab (by simp; omega))).trans c2, (World.cell?_of_block (w := wr) (f5.block ab hab (by simp; omega))).trans c3⟩) ?_
          clear HK K
          simp only [Act.put, List.setIfInBounds_toArray, List.set_cons_zero, List.set_cons_succ]
          refine walkT_take (o := _) (v := ?_) (by rw [HOPS.out]; simp only [List.getElem?_toArray, List.getElem?_cons_succ, List.getElem?_cons_zero]; exact rfl) (Or.inl ⟨rfl, ?_⟩) ?_
          rotate_left
          · (intro w hSw; (try dsimp only at hSw); go_simp) <;> (with_reducible rfl)
          simp only [Act.put, List.setIfInBounds_toArray, List.set_cons_zero, List.set_cons_succ]
          refine walkT_take (o := _) (v := ?_) (by rw [HOPS.out]; simp only [List.getElem?_toArray, List.getElem?_cons_succ, List.getElem?_cons_zero]; exact rfl) (Or.inl ⟨rfl, ?_⟩) ?_
          rotate_left
          · (intro w hSw; (try dsimp only at hSw); go_simp) <;> (with_reducible rfl)
          simp only [Act.put, List.setIfInBounds_toArray, List.set_cons_zero, List.set_cons_succ]
          refine walkT_take (o := _) (v := ?_) (by rw [HOPS.out]; simp only [List.getElem?_toArray, List.getElem?_cons_succ, List.getElem?_cons_zero]; exact rfl) (Or.inl ⟨rfl, ?_⟩) ?_
          rotate_left
          · (intro w hSw; (try dsimp only at hSw); go_simp) <;> (with_reducible rfl)
          simp only [Act.put, List.setIfInBounds_toArray, List.set_cons_zero, List.set_cons_succ]
          refine walkT_take (o := _) (v := ?_) (by rw [HOPS.out]; simp only [List.getElem?_toArray, List.getElem?_cons_succ, List.getElem?_cons_zero]; exact rfl) (Or.inl ⟨rfl, ?_⟩) ?_
          rotate_left
          · (intro w hSw; (try dsimp only at hSw); go_simp) <;> (with_reducible rfl)
          simp only [Act.put, List.setIfInBounds_toArray, List.set_cons_zero, List.set_cons_succ]
          refine walkT_take (o := _) (v := ?_) (by rw [HOPS.out]; simp only [List.getElem?_toArray, List.getElem?_cons_succ, List.getElem?_cons_zero]; exact rfl) (Or.inl ⟨rfl, ?_⟩) ?_
          rotate_left
          · (intro w hSw; (try dsimp only at hSw); go_simp) <;> (with_reducible rfl)
          simp only [Act.put, List.setIfInBounds_toArray, List.set_cons_zero, List.set_cons_succ]
          refine walkT_call (o := _) (by rw [HOPS.out]; simp only [List.getElem?_toArray, List.getElem?_cons_succ, List.getElem?_cons_zero]; exact rfl) (fun K HK => ?_)
          refine step_store7 (p := .tmp 12) (x := .tmp 67) q6b rfl rfl rfl rfl rfl ?_
          obtain ⟨w7, hw7, f7, q7⟩ : ∃ W, (((((((w5.setCell ⟨wr.heap.size, 0, none⟩ (.int .i64 t2.stage)).setCell ⟨wr.heap.size, 1, none⟩ (.int .i64 t2.limit)).setCell ⟨wr.heap.size, 2, none⟩ (.int .i64 t2.rd)).setCell ⟨wr.heap.size, 3, none⟩ (.int .i64 t2.wr)).setCell ⟨wr.heap.size, 4, none⟩ (.slice ua t2.s.length uc)).setCell ⟨wr.heap.size, 5, none⟩ (.int .i64 t2.r)).setCell ⟨wr.heap.size, 6, none⟩ (.int .i64 t2.w)) = W ∧ Fr [wr.heap.size] w5 W ∧ RB W wr.heap.size (.int .i64 t2.stage) (.int .i64 t2.limit) (.int .i64 t2.rd) (.int .i64 t2.wr) (.slice ua t2.s.length uc) (.int .i64 t2.r) (.int .i64 t2.w) := ⟨_, rfl, seven_fr, seven_set q6b⟩
          rw [hw7]
          have f67 : Fr [b, wr.heap.size] wr w7 := (f5.mono (by simp)).then (f7.mono (by simp))
          refine HK.out (fun w' => w'.cell? ⟨B, 0, none⟩ = some (.int .i64 t.stage) ∧ w'.cell? ⟨B, 1, none⟩ = some (.int .i64 t.limit) ∧ w'.cell? ⟨B, 2, none⟩ = some (.int .i64 t.rd) ∧ w'.cell? ⟨B, 3, none⟩ = some (.int .i64 t.wr) ∧ w'.cell? ⟨B, 4, none⟩ = some (.slice ra t.s.length rc) ∧ w'.cell? ⟨B, 5, none⟩ = some (.int .i64 t.r) ∧ w'.cell? ⟨B, 6, none⟩ = some (.int .i64 t.w) ∧ w'.cell? ⟨ab, ao + k * 4, none⟩ = some (.int .i64 what) ∧ w'.cell? ⟨ab, ao + k * 4 + 1, none⟩ = some (.slice pa data.length pc) ∧ w'.cell? ⟨ab, ao + k * 4 + 2, none⟩ = some (.int .i64 n) ∧ w'.cell? ⟨ab, ao + k * 4 + 3, none⟩ = some (.int .i64 er)) _ _ (fun _ h => h) ⟨cell_of (f67.keep qr (by simp; omega)), cell_of (f67.keep qr (by simp; omega)), cell_of (f67.keep qr (by simp; omega)), cell_of (f67.keep qr (by simp; omega)), cell_of (f67.keep qr (by simp; omega)), cell_of (f67.keep qr (by simp; omega)), cell_of (f67.keep qr (by simp; omega)), (World.cell?_of_block (w := wr) (f67.block ab hab (by simp; omega))).trans c0, (World.cell?_of_block (w := wr) (f67.block ab hab (by simp; omega))).trans c1, (World.cell?_of_block (w := wr) (f67.block ab hab (by simp; omega))).trans c2, (World.cell?_of_block (w := wr) (f67.block ab hab (by simp; omega))).trans c3⟩ ?_
          clear HK K
          try simp only [Act.put, List.setIfInBounds_toArray, List.set_cons_zero, List.set_cons_succ]
          refine walkT_take (o := _) (v := ?_) (by rw [HOPS.out]; simp only [List.getElem?_toArray, List.getElem?_cons_succ, List.getElem?_cons_zero]; exact rfl) (Or.inl ⟨rfl, ?_⟩) ?_
          rotate_left
          · (intro w hSw; (try dsimp only at hSw); go_simp) <;> (with_reducible rfl)
          simp only [Act.put, List.setIfInBounds_toArray, List.set_cons_zero, List.set_cons_succ]
          refine walkT_done ?_
          clear HOPS OPS
          go_wp2_with fail
          go_meet
          exact ⟨b2, wr.heap.size, t2, ua, uc, rfl, rfl, rfl, Lib.hid HT2.out.symm, Lib.hid q7, Lib.hid (f67.mono (by simp)), ⟨_, Lib.hid (h5.keep f7 (by simp; rcases hbb with h | h <;> omega) (fun x hx hn => by simp at hx; have := (hM3 x (by omega) hn).2; omega)), Lib.hid (fun hn => HNE.out.1 (hM3 B (by omega) hn).1)⟩, ⟨_, Lib.hid (u5.keep f7 (fun x hx hn => by simp at hx; have := (hN4 x (by omega) hn).2; omega)), Lib.hid (fun hn => HNE.out.2.1 (hN4 B (by omega) hn).1), Lib.hid hb2⟩, Lib.hid (by have := HNE.out.2.2.2; rcases hbb with h | h <;> omega)⟩
      case rest =>
        clear HSTEP HEW HT2 c0 c1 c2 c3 hd
        obtain ⟨b2, B2, t3, ua, uc, rfl, rfl, rfl, HT3, Q7, F7, ⟨N3, T7, hN3B⟩, ⟨N4, U7, hN4B, hN4b⟩, HB2⟩ := hcut
        have HL3 : Hid (t3.rd ≤ ((k + 1 : Nat) : Int) * 5000) := Lib.hid (by
          have h1 := stepT_rd t what n er data
          rw [← HT3.out] at h1
          have h2 := HL.out
          have h3 : (((k + 1 : Nat) : Int)) * 5000 = (k : Int) * 5000 + 5000 := by omega
          omega)
        have hl3 := HL3.out
        have HIS := Lib.hid (is21 T7.out (by omega) U7.out)
        have q7 := Q7.out
        obtain ⟨_, _, _, _, _, _, _, _, _, _, _, _, _, _⟩ := q7.cells
        have g7 := Lib.hid (gr.trans F7.out (by simp) (U := []) (fun x hx => .inr (by simp at hx; have := HNE.out.2.2.2.2; omega)))
        have a7 := Lib.hid (ar.keep F7.out gr.size (fun x hx => by simp at hx; have := HNE.out.2.2.2.2; omega))
        have q9 := Lib.hid (F7.out.keep qr (by simp; omega))
        have hlt7 := lt_of_heap q7
        have hz7 := F7.out.size
        clear HL gr ar qr HT HV F7 q7
        as_aux_lemma =>
          go_wp2_with fail
          refine HIS.out.mono ?_
          rintro e w8 ⟨rfl, f8⟩
          have r2 : RB w8 B2 _ _ _ _ _ _ _ := f8.keep Q7.out (by simp)
          have r9 : RB w8 B _ _ _ _ _ _ _ := f8.keep q9.out (by simp)
          have g8 := Lib.hid (g7.out.then0 f8)
          have a8 := Lib.hid (a7.out.keep f8 g7.out.size (by simp))
          have T8 := Lib.hid (T7.out.keep0 f8)
          have V8 := Lib.hid (U7.out.keep f8 (by simp))
          clear f8 HIS Q7 q9 g7 a7 T7 U7
          go_wp2_with fail
          have rD : RB w8.drew B2 _ _ _ _ _ _ _ := r2
          have r9D : RB w8.drew B _ _ _ _ _ _ _ := r9
          have hBB : B2 ≠ B := by have := HB2.out; omega
          refine wp_region_order [(0, true), (1, true), (2, true), (3, false)] (fun w' => w'.cell? ⟨B2, 0, none⟩ = some (.int .i64 t3.stage) ∧ w'.cell? ⟨B2, 1, none⟩ = some (.int .i64 t3.limit) ∧ w'.cell? ⟨B2, 2, none⟩ = some (.int .i64 t3.rd) ∧ w'.cell? ⟨B2, 3, none⟩ = some (.int .i64 t3.wr) ∧ w'.cell? ⟨B2, 4, none⟩ = some (.slice ua t3.s.length uc) ∧ w'.cell? ⟨B2, 5, none⟩ = some (.int .i64 t3.r) ∧ w'.cell? ⟨B2, 6, none⟩ = some (.int .i64 t3.w)) (by kernel_rfl) (by kernel_rfl) ⟨cell_of rD, cell_of rD, cell_of rD, cell_of rD, cell_of rD, cell_of rD, cell_of rD⟩ ?_
          intro OPS HOPS
          have hops := HOPS.out
          try simp only [List.append_eq, List.cons_append, List.nil_append] at hops
          replace HOPS := Lib.hid hops
          clear hops
          refine walkO_take (o := _) (v := ?_) (by rw [HOPS.out]; simp only [List.getElem?_toArray, List.getElem?_cons_succ, List.getElem?_cons_zero]; exact rfl) (Or.inl ⟨rfl, ?_⟩) ?_
          rotate_left
          · (intro w hSw; (try dsimp only at hSw); go_simp) <;> (with_reducible rfl)
          simp only [Act.put, List.setIfInBounds_toArray, List.set_cons_zero, List.set_cons_succ]
          refine walkO_take (o := _) (v := ?_) (by rw [HOPS.out]; simp only [List.getElem?_toArray, List.getElem?_cons_succ, List.getElem?_cons_zero]; exact rfl) (Or.inl ⟨rfl, ?_⟩) ?_
          rotate_left
          · (intro w hSw; (try dsimp only at hSw); go_simp) <;> (with_reducible rfl)
          simp only [Act.put, List.setIfInBounds_toArray, List.set_cons_zero, List.set_cons_succ]
          refine walkO_take (o := _) (v := ?_) (by rw [HOPS.out]; simp only [List.getElem?_toArray, List.getElem?_cons_succ, List.getElem?_cons_zero]; exact rfl) (Or.inl ⟨rfl, ?_⟩) ?_
          rotate_left
          · (intro w hSw; (try dsimp only at hSw); go_simp) <;> (with_reducible rfl)
          simp only [Act.put, List.setIfInBounds_toArray, List.set_cons_zero, List.set_cons_succ]
          refine walkO_call (o := _) (by rw [HOPS.out]; simp only [List.getElem?_toArray, List.getElem?_cons_succ, List.getElem?_cons_zero]; exact rfl) (fun K HK => ?_)
          refine step_store7 (p := .tmp 9) (x := .tmp 82) r9D rfl rfl rfl rfl rfl ?_
          obtain ⟨wf, hwf, Ff, Rf⟩ : ∃ wf, (((((((w8.drew.setCell ⟨B, 0, none⟩ (.int .i64 t3.stage)).setCell ⟨B, 1, none⟩ (.int .i64 t3.limit)).setCell ⟨B, 2, none⟩ (.int .i64 t3.rd)).setCell ⟨B, 3, none⟩ (.int .i64 t3.wr)).setCell ⟨B, 4, none⟩ (.slice ua t3.s.length uc)).setCell ⟨B, 5, none⟩ (.int .i64 t3.r)).setCell ⟨B, 6, none⟩ (.int .i64 t3.w)) = wf ∧ Fr [B] w8.drew wf ∧ RB wf B (.int .i64 t3.stage) (.int .i64 t3.limit) (.int .i64 t3.rd) (.int .i64 t3.wr) (.slice ua t3.s.length uc) (.int .i64 t3.r) (.int .i64 t3.w) := ⟨_, rfl, seven_fr, seven_set r9D⟩
          rw [hwf]
          have rE := Ff.keep rD (by simp; omega)
          refine HK.out (fun w' => w'.cell? ⟨B2, 0, none⟩ = some (.int .i64 t3.stage) ∧ w'.cell? ⟨B2, 1, none⟩ = some (.int .i64 t3.limit) ∧ w'.cell? ⟨B2, 2, none⟩ = some (.int .i64 t3.rd) ∧ w'.cell? ⟨B2, 3, none⟩ = some (.int .i64 t3.wr) ∧ w'.cell? ⟨B2, 4, none⟩ = some (.slice ua t3.s.length uc) ∧ w'.cell? ⟨B2, 5, none⟩ = some (.int .i64 t3.r) ∧ w'.cell? ⟨B2, 6, none⟩ = some (.int .i64 t3.w)) _ _ (fun _ h => h) ⟨cell_of rE, cell_of rE, cell_of rE, cell_of rE, cell_of rE, cell_of rE, cell_of rE⟩ ?_
          clear HK K rE
          try simp only [Act.put, List.setIfInBounds_toArray, List.set_cons_zero, List.set_cons_succ]
          refine walkO_done ?_
          clear HOPS OPS
          have FD : Fr [] w8 w8.drew := (Fr.refl _ _).drew
          have g9 := (g8.out.then0 FD).trans Ff (fun _ h => .inl h) (fun x hx => .inr (by simp at hx; have := HNE.out.2.2.2.2.2; omega))
          have a9 := (a8.out.keep FD g8.out.size (by simp)).keep Ff (g8.out.then0 FD).size (fun x hx => by simp at hx; have := HNE.out.2.2.2.2.2; omega)
          have T9 := Lib.hid ((T8.out.keep0 FD).keep Ff (by have := HB2.out.1; simp; omega) (fun x hx => by simp at hx; rw [hx]; exact hN3B.out))
          have V9 := Lib.hid ((V8.out.keep FD (by simp)).keep Ff (fun x hx => by simp at hx; rw [hx]; exact hN4B.out))
          have HNF := Lib.hid (And.intro hN3B.out (And.intro hN4B.out (And.intro hN4b.out (And.intro HB2.out.1 (And.intro HB2.out.2.1 HNE.out.2.2.2.2.2)))))
          clear hwf Ff FD r2 r9 rD r9D
          go_wp2_with fail
          go_roundw
          case rel => exact ⟨k + 1, t3, b2, N3, N4, ua, uc, by omega, by go_num, rfl, HL3, Rf, T9, V9, HNF, g9, a9⟩
          case measure => simp [intOf]; omega
    · go_wp2_with fail
      refine (known21 _).mono ?_
      rintro e w99 ⟨rfl, f99⟩
      go_wp2_with fail
      go_ret
      exact ⟨rfl, gr.then0 f99⟩
set_option maxHeartbeats 2000000 in
theorem transferPlays_walk {a : Option Addr} {len cap : Nat} (sg lm : Int) (w : World) (h : ∃ A, Acts21 w w.heap.size a len cap A) :
    Calls Try.prog 5 #[.int .i64 sg, .int .i64 lm, .slice a len cap] w fun e w' => e = .returned (.bool true) ∧ Fr [] w w' := by
  obtain ⟨A, hA⟩ := h
  have HF := few21 hA
  have HV := fun w => rvalid w sg lm
  by_cases hs : fewB21 A = true
  · by_cases hk : okS sg lm = true
    · exact transferPlays_main w hk hA hs
    · rw [hs] at HF
      have hk' : okS sg lm = false := by simpa using hk
      rw [hk'] at HV
      have HN := Lib.hid fun w => tr_new_bad w hk'
      replace HF := Lib.hid HF
      replace HV := Lib.hid HV
      clear hs hk hk' hA
      go_enter Try.func5, Try.ntmps5
      go_wp2_with fail
      refine HF.out.mono ?_
      rintro e w' ⟨rfl, rfl⟩
      go_wp2_with fail
      refine (HN.out _).mono ?_
      rintro e w' ⟨rfl, rfl⟩
      go_wp2_with fail
      refine (HV.out _).mono ?_
      rintro e w' ⟨rfl, rfl⟩
      go_wp2_with fail
      refine (known21 _).mono ?_
      rintro e w' ⟨rfl, f⟩
      go_wp2_with fail
      go_ret
      exact ⟨rfl, f⟩
  · rw [show fewB21 A = false from by simpa using hs] at HF
    replace HF := Lib.hid HF
    clear HV hs hA
    go_enter Try.func5, Try.ntmps5
    go_wp2_with fail
    refine HF.out.mono ?_
    rintro e w' ⟨rfl, rfl⟩
    go_wp2_with fail
    refine (known21 _).mono ?_
    rintro e w' ⟨rfl, f⟩
    go_wp2_with fail
    go_ret
    exact ⟨rfl, f⟩
end Go.Proofs.Ytodpkdbcdbdjfaa
