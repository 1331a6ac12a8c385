/-
  Law 22: SplicePlays: any calls of a splice.
-/
import Derived.Test.YtodpkdbcdbdjfaaSpSt
import Derived.Test.YtodpkdbcdbdjfaaRefNew22
import Derived.Test.YtodpkdbcdbdjfaaActs22
import Derived.Test.YtodpkdbcdbdjfaaRegionU
namespace Go.Proofs.Ytodpkdbcdbdjfaa
open Go.RowKit
set_option maxRecDepth 100000

set_option maxHeartbeats 16000000 in
theorem splicePlays_main {st : Int} {a : Option Addr} {len cap : Nat} {A : List A22} (w : World) (hk : okS st (-1) = true) (hA : Acts22 w w.heap.size a len cap A) (hs : fewB22 A = true) :
    Calls Try.prog 11 #[.int .i64 st, .slice a len cap] w fun e w' => e = .returned (.bool true) ∧ Fr [] w w' := by
  have hle := hA.len_eq
  subst hle
  have HFW := Lib.hid (hs ▸ few22 hA)
  obtain ⟨n30, hok30⟩ := fewB22_iff hs
  have HOK := Lib.hid hok30
  have hl30 : (A.length : Int) ≤ 30 := by omega
  have HNEW := Lib.hid (sp_new_ok w hk)
  have HRN : Hid (∀ w1, Calls Try.prog 42 #[.int .i64 st] w1 fun e w' => e = .returned (.tuple #[.agg #[.int .i64 (newS22 st).t0.stage, .int .i64 (newS22 st).t0.limit, .int .i64 (newS22 st).t0.rd, .int .i64 (newS22 st).t0.wr, .slice none (newS22 st).t0.s.length 0, .int .i64 (newS22 st).t0.r, .int .i64 (newS22 st).t0.w, .int .i64 (newS22 st).t1.stage, .int .i64 (newS22 st).t1.limit, .int .i64 (newS22 st).t1.rd, .int .i64 (newS22 st).t1.wr, .slice none (newS22 st).t1.s.length 0, .int .i64 (newS22 st).t1.r, .int .i64 (newS22 st).t1.w, .bool (newS22 st).c0, .bool (newS22 st).c1, .int .i64 (newS22 st).first], .bool true]) ∧ Fr [] w1 w') := Lib.hid fun w1 => hk ▸ rs_new w1 st
  have HIN0 := Lib.hid (newS_inv hk)
  clear hk hs hok30 n30
  go_enter Try.func11, Try.ntmps11
  go_wp2_with fail
  refine HFW.out.mono ?_
  rintro e w' ⟨rfl, rfl⟩
  go_wp2_with fail
  refine HNEW.out.mono ?_
  rintro e w1 ⟨b, W, b0, b1, rfl, g1, h1, p1, p2, p3, p4⟩
  have a1 := Lib.hid (hA.keep g1 (Nat.le_refl _) (by simp))
  have H1 := Lib.hid h1
  clear hA HNEW HFW h1
  go_wp2_with fail
  refine (HRN.out _).mono ?_
  rintro e w2 ⟨rfl, f2⟩
  obtain ⟨wz, hwz, fz, qz⟩ : ∃ W, w2.alloc (.cells #[.int .i64 0, .int .i64 0, .int .i64 0, .int .i64 0, .slice none 0 0, .int .i64 0, .int .i64 0, .int .i64 0, .int .i64 0, .int .i64 0, .int .i64 0, .slice none 0 0, .int .i64 0, .int .i64 0, .bool false, .bool false, .int .i64 0] 95) = W ∧ Fr [] w2 W ∧ SB W w2.heap.size (.int .i64 0) (.int .i64 0) (.int .i64 0) (.int .i64 0) (.slice none 0 0) (.int .i64 0) (.int .i64 0) (.int .i64 0) (.int .i64 0) (.int .i64 0) (.int .i64 0) (.slice none 0 0) (.int .i64 0) (.int .i64 0) (.bool false) (.bool false) (.int .i64 0) := ⟨_, rfl, (Fr.refl _ _).alloc _, newA rfl⟩
  obtain ⟨w3, hw3, q3, f3⟩ := sbs_set qz none 0 none 0 (newS22 st).t0 (newS22 st).t1 (newS22 st).c0 (newS22 st).c1 (newS22 st).first
  obtain ⟨B, hB⟩ : ∃ B, B = w2.heap.size := ⟨_, rfl⟩
  have hzz := lt_of_heap qz
  have hs3 := f3.size
  have f23 : Fr [] w2 w3 := fz.trans f3 (by simp) (fun x hx => .inr (by simp at hx; omega))
  have f13 := f2.then0 f23
  have hz1 := f2.size
  have hz0 := g1.size
  have T0 : Hid (St22 w w1 [] b (newS22 st) (.agg #[.int .i64 (newS22 st).t0.stage, .int .i64 (newS22 st).t0.limit, .int .i64 (newS22 st).t0.rd, .int .i64 (newS22 st).t0.wr, .slice none (newS22 st).t0.s.length 0, .int .i64 (newS22 st).t0.r, .int .i64 (newS22 st).t0.w, .int .i64 (newS22 st).t1.stage, .int .i64 (newS22 st).t1.limit, .int .i64 (newS22 st).t1.rd, .int .i64 (newS22 st).t1.wr, .slice none (newS22 st).t1.s.length 0, .int .i64 (newS22 st).t1.r, .int .i64 (newS22 st).t1.w, .bool (newS22 st).c0, .bool (newS22 st).c1, .int .i64 (newS22 st).first])) := Lib.hid ⟨W, b0, b1, _, _, fun _ => False, (show Sp w1 _ _ b W b0 b1 (newS22 st) from H1.out), (newV_r w1 _ st), ⟨not_false, not_false, not_false, not_false⟩, ⟨p1, p2, p3, p4⟩, by simp⟩
  have T3 : Hid (St22 w w3 [B] b (newS22 st) (.agg #[.int .i64 (newS22 st).t0.stage, .int .i64 (newS22 st).t0.limit, .int .i64 (newS22 st).t0.rd, .int .i64 (newS22 st).t0.wr, .slice none (newS22 st).t0.s.length 0, .int .i64 (newS22 st).t0.r, .int .i64 (newS22 st).t0.w, .int .i64 (newS22 st).t1.stage, .int .i64 (newS22 st).t1.limit, .int .i64 (newS22 st).t1.rd, .int .i64 (newS22 st).t1.wr, .slice none (newS22 st).t1.s.length 0, .int .i64 (newS22 st).t1.r, .int .i64 (newS22 st).t1.w, .bool (newS22 st).c0, .bool (newS22 st).c1, .int .i64 (newS22 st).first])) := Lib.hid (by
    have := (T0.out.keep0 f2).out f23 (by omega) [B] (by simp; omega)
    simpa using this)
  have Q3 : Hid (SBs w3 B none 0 none 0 (newS22 st).t0 (newS22 st).t1 (newS22 st).c0 (newS22 st).c1 (newS22 st).first) := Lib.hid (by rw [hB]; exact q3)
  have HBW : Hid (w.heap.size ≤ B) := Lib.hid (by omega)
  have HIS := Lib.hid (T3.out.is_ (show (0 : Int) ≤ _ by omega) (show (0 : Int) ≤ _ by omega))
  have G3 := Lib.hid (g1.then0 f13)
  have A3 := Lib.hid (a1.out.keep f13 g1.size (by simp))
  have d : ∀ i, w3.cell? ⟨w2.heap.size, i, none⟩ = _ := fun i => cell_of q3
  have d0 : w3.cell? ⟨w2.heap.size, 0, none⟩ = some (.int .i64 (newS22 st).t0.stage) := d 0
  have d1 : w3.cell? ⟨w2.heap.size, 1, none⟩ = some (.int .i64 (newS22 st).t0.limit) := d 1
  have d2 : w3.cell? ⟨w2.heap.size, 2, none⟩ = some (.int .i64 (newS22 st).t0.rd) := d 2
  have d3 : w3.cell? ⟨w2.heap.size, 3, none⟩ = some (.int .i64 (newS22 st).t0.wr) := d 3
  have d4 : w3.cell? ⟨w2.heap.size, 4, none⟩ = some (.slice none (newS22 st).t0.s.length 0) := d 4
  have d5 : w3.cell? ⟨w2.heap.size, 5, none⟩ = some (.int .i64 (newS22 st).t0.r) := d 5
  have d6 : w3.cell? ⟨w2.heap.size, 6, none⟩ = some (.int .i64 (newS22 st).t0.w) := d 6
  have d7 : w3.cell? ⟨w2.heap.size, 7, none⟩ = some (.int .i64 (newS22 st).t1.stage) := d 7
  have d8 : w3.cell? ⟨w2.heap.size, 8, none⟩ = some (.int .i64 (newS22 st).t1.limit) := d 8
  have d9 : w3.cell? ⟨w2.heap.size, 9, none⟩ = some (.int .i64 (newS22 st).t1.rd) := d 9
  have d10 : w3.cell? ⟨w2.heap.size, 10, none⟩ = some (.int .i64 (newS22 st).t1.wr) := d 10
  have d11 : w3.cell? ⟨w2.heap.size, 11, none⟩ = some (.slice none (newS22 st).t1.s.length 0) := d 11
  have d12 : w3.cell? ⟨w2.heap.size, 12, none⟩ = some (.int .i64 (newS22 st).t1.r) := d 12
  have d13 : w3.cell? ⟨w2.heap.size, 13, none⟩ = some (.int .i64 (newS22 st).t1.w) := d 13
  have d14 : w3.cell? ⟨w2.heap.size, 14, none⟩ = some (.bool (newS22 st).c0) := d 14
  have d15 : w3.cell? ⟨w2.heap.size, 15, none⟩ = some (.bool (newS22 st).c1) := d 15
  have d16 : w3.cell? ⟨w2.heap.size, 16, none⟩ = some (.int .i64 (newS22 st).first) := d 16
  clear q3 f3 f23 f13 fz a1 g1 H1 f2 T0 d HRN
  go_wp2_with (refine sbs_storeW qz hw3 rfl (.tmp 7) (.tmp 25) rfl rfl (by rfl) (by rfl) ?_)
  refine HIS.out.mono ?_
  rintro e w4 ⟨rfl, f4⟩
  have q4 := SBs.keep Q3.out f4 (by simp)
  have T4 := Lib.hid (T3.out.keep0 f4)
  have g4 := G3.out.then0 f4
  have a4 := A3.out.keep f4 G3.out.size (by simp)
  rw [← hB]
  clear hB
  clear d0 d1 d2 d3 d4 d5 d6 d7 d8 d9 d10 d11 d12 d13 d14 d15 d16 hw3 qz HIS T3 Q3 G3 A3 f4 hwz
  go_wp2_with fail
  go_loopw [5, 9] (fun v5 i wr => ∃ (k : Nat) (s : SS) (b : Nat) (a0 : Option Addr) (k0 : Nat) (a1 : Option Addr) (k1 : Nat), k ≤ A.length ∧ i = .int .i64 k ∧ v5 = .pointer (some ⟨b, 0, none⟩) ∧ Hid (Inv22 s ∧ s.t0.rd ≤ (k : Int) * 5000 ∧ s.t1.rd ≤ (k : Int) * 5000) ∧ SBs wr B a0 k0 a1 k1 s.t0 s.t1 s.c0 s.c1 s.first ∧ Hid (St22 w wr [B] b s (.agg #[.int .i64 s.t0.stage, .int .i64 s.t0.limit, .int .i64 s.t0.rd, .int .i64 s.t0.wr, .slice a0 s.t0.s.length k0, .int .i64 s.t0.r, .int .i64 s.t0.w, .int .i64 s.t1.stage, .int .i64 s.t1.limit, .int .i64 s.t1.rd, .int .i64 s.t1.wr, .slice a1 s.t1.s.length k1, .int .i64 s.t1.r, .int .i64 s.t1.w, .bool s.c0, .bool s.c1, .int .i64 s.first])) ∧ Fr [] w wr ∧ Acts22 wr w.heap.size a A.length cap A) (fun _ i _ => A.length - (intOf i).toNat)
  case atStart => exact ⟨0, newS22 st, b, none, 0, none, 0, by omega, rfl, rfl, Lib.hid ⟨HIN0.out, Int.le_refl _, Int.le_refl _⟩, q4, T4, g4, a4⟩
  case round =>
    clear q4 T4 g4 a4 HIN0 hz0 hz1 hs3 hzz p1 p2 p3 p4
    obtain ⟨k, s, b, a0, k0, a1, k1, hk, rfl, rfl, HI, qr, HT, gr, ar⟩ := hrel
    rename World => wr
    by_cases hlt : (k : Int) < A.length
    · as_aux_lemma =>
        have hkA : k < A.length := by omega
        obtain ⟨ab, ao, pa, pl, pc, rfl, habM, hab, c0, c1, c2, c3, c4, hd, _⟩ := ar.at_ k hkA
        have hok := HOK.out A[k] (List.getElem_mem hkA)
        generalize A[k] = ak at c0 c1 c2 c3 c4 hd hok
        obtain ⟨what, fr, data, n, er⟩ := ak
        dsimp only at c0 c1 c2 c3 c4 hd hok
        have hpl := hd.len_eq
        subst hpl
        have hrd : s.t0.rd ≤ 150000 ∧ s.t1.rd ≤ 150000 := by have h2 := HI.out.2; omega
        have hBlt := lt_of_heap qr
        obtain ⟨S2, hS2⟩ : ∃ S2, stepU s what fr n er data = S2 := ⟨_, rfl⟩
        have HI2 : Hid (Inv22 S2 ∧ S2.t0.rd ≤ ((k + 1 : Nat) : Int) * 5000 ∧ S2.t1.rd ≤ ((k + 1 : Nat) : Int) * 5000) := Lib.hid (by
          have h1 := stepU_rd s what fr n er data
          have h2 := stepU_inv HI.out.1 what fr n er data
          rw [hS2] at h1 h2
          have h3 := HI.out.2
          have h4 : (((k + 1 : Nat) : Int)) * 5000 = (k : Int) * 5000 + 5000 := by omega
          exact ⟨h2, by omega, by omega⟩)
        have HDO : Hid (∀ b' o', 0 < data.length → pa = some ⟨b', o', none⟩ → b' < w.heap.size) := Lib.hid fun b' o' h0 e => hd.old b' o' h0 e
        have HSTEP := Lib.hid fun (W : World) (f : Fr [] wr W) => hS2 ▸ (HT.out.keep0 f).step (pc := pc) HI.out.1 (by omega) (by omega) (sl_keep hd.sl f (by simp)) HDO.out (show data.length ≤ 65536 by omega) (Nat.le_trans gr.size f.size) what fr n er
        have HSTEPB := Lib.hid fun (W : World) (f : Fr [] wr W) (hw : wr.heap.size < W.heap.size) => hS2 ▸ (HT.out.out f gr.size [wr.heap.size] (by simp; omega)).step (pc := pc) HI.out.1 (by omega) (by omega) (sl_keep hd.sl f (by simp)) HDO.out (show data.length ≤ 65536 by omega) (Nat.le_trans gr.size f.size) what fr n er
        have HEW := Lib.hid (Go.Proofs.enters_of Try.func44 (by kernel_rfl) rfl)
        have habB : ab ≠ B := by have := HBW.out; omega
        have HFA := Lib.hid fun (w' : World) (hf : ∃ S, Fr S wr w' ∧ ∀ x ∈ S, w.heap.size ≤ x ∧ x ≠ B) => (show (fun w' => (w'.cell? ⟨B, 0, none⟩ = some (.int .i64 s.t0.stage) ∧ w'.cell? ⟨B, 1, none⟩ = some (.int .i64 s.t0.limit) ∧ w'.cell? ⟨B, 2, none⟩ = some (.int .i64 s.t0.rd) ∧ w'.cell? ⟨B, 3, none⟩ = some (.int .i64 s.t0.wr) ∧ w'.cell? ⟨B, 4, none⟩ = some (.slice a0 s.t0.s.length k0) ∧ w'.cell? ⟨B, 5, none⟩ = some (.int .i64 s.t0.r) ∧ w'.cell? ⟨B, 6, none⟩ = some (.int .i64 s.t0.w) ∧ w'.cell? ⟨B, 7, none⟩ = some (.int .i64 s.t1.stage) ∧ w'.cell? ⟨B, 8, none⟩ = some (.int .i64 s.t1.limit) ∧ w'.cell? ⟨B, 9, none⟩ = some (.int .i64 s.t1.rd) ∧ w'.cell? ⟨B, 10, none⟩ = some (.int .i64 s.t1.wr) ∧ w'.cell? ⟨B, 11, none⟩ = some (.slice a1 s.t1.s.length k1) ∧ w'.cell? ⟨B, 12, none⟩ = some (.int .i64 s.t1.r) ∧ w'.cell? ⟨B, 13, none⟩ = some (.int .i64 s.t1.w) ∧ w'.cell? ⟨B, 14, none⟩ = some (.bool s.c0) ∧ w'.cell? ⟨B, 15, none⟩ = some (.bool s.c1) ∧ w'.cell? ⟨B, 16, none⟩ = some (.int .i64 s.first)) ∧ w'.cell? ⟨ab, ao + k * 5, none⟩ = some (.int .i64 what) ∧ w'.cell? ⟨ab, ao + k * 5 + 1, none⟩ = some (.int .i64 fr) ∧ w'.cell? ⟨ab, ao + k * 5 + 2, none⟩ = some (.slice pa data.length pc) ∧ w'.cell? ⟨ab, ao + k * 5 + 3, none⟩ = some (.int .i64 n) ∧ w'.cell? ⟨ab, ao + k * 5 + 4, none⟩ = some (.int .i64 er)) w' from by
          obtain ⟨S, f, hS⟩ := hf
          have q' := SBs.keep qr f (fun hm => (hS _ hm).2 rfl)
          have hk : ∀ j, w'.cell? ⟨ab, j, none⟩ = wr.cell? ⟨ab, j, none⟩ := fun j => World.cell?_of_block (w := wr) (f.block ab hab (fun hm => by have := (hS _ hm).1; omega))
          exact ⟨⟨cell_of q', cell_of q', cell_of q', cell_of q', cell_of q', cell_of q', cell_of q', cell_of q', cell_of q', cell_of q', cell_of q', cell_of q', cell_of q', cell_of q', cell_of q', cell_of q', cell_of q'⟩, (hk _).trans c0, (hk _).trans c1, (hk _).trans c2, (hk _).trans c3, (hk _).trans c4⟩)
        have HCT : ∀ i, wr.cell? ⟨B, i, none⟩ = _ := fun i => cell_of qr
        have hgs := gr.size
        have HBL := HBW.out
        clear HCT
        go_upto_region 12 with fail
        go_cut [10, 11, 12] (fun v11 v12 v13 wx => ∃ (b2 B2 : Nat) (y0 : Option Addr) (l0 : Nat) (y1 : Option Addr) (l1 : Nat), v11 = .pointer (some ⟨b2, 0, none⟩) ∧ v12 = .pointer (some ⟨B2, 0, none⟩) ∧ v13 = .bool true ∧ Hid (SBs wx B2 y0 l0 y1 l1 S2.t0 S2.t1 S2.c0 S2.c1 S2.first) ∧ Hid (St22 w wx [B2, B] b2 S2 (.agg #[.int .i64 S2.t0.stage, .int .i64 S2.t0.limit, .int .i64 S2.t0.rd, .int .i64 S2.t0.wr, .slice y0 S2.t0.s.length l0, .int .i64 S2.t0.r, .int .i64 S2.t0.w, .int .i64 S2.t1.stage, .int .i64 S2.t1.limit, .int .i64 S2.t1.rd, .int .i64 S2.t1.wr, .slice y1 S2.t1.s.length l1, .int .i64 S2.t1.r, .int .i64 S2.t1.w, .bool S2.c0, .bool S2.c1, .int .i64 S2.first])) ∧ Hid (∃ S, Fr S wr wx ∧ ∀ x ∈ S, w.heap.size ≤ x ∧ x ≠ B) ∧ Hid (B2 ≠ B ∧ w.heap.size ≤ B2))
        case first =>
          have f0 : ∃ S, Fr S wr wr.drew ∧ ∀ x ∈ S, w.heap.size ≤ x ∧ x ≠ B := ⟨[], (Fr.refl _ _).drew, by simp⟩
          refine wp_region_tree (.take 0 (.take 1 (.take 2 (.take 3 (.take 4 (.take 5 (.two 6 11 (.take 7 (.take 8 (.take 9 (.take 10 (.one 11 (.take 12 (.one 13 (.take 14 .nil)))))))) (.one 6 (.take 7 (.take 8 (.take 9 (.take 10 (.take 12 (.one 13 (.take 14 .nil))))))))))))))) (fun w' => ∃ S, Fr S wr w' ∧ ∀ x ∈ S, w.heap.size ≤ x ∧ x ≠ B) (by kernel_rfl) (by kernel_rfl) f0 ?_
          intro OPS HOPS
          have hops := HOPS.out
          try simp only [List.append_eq, List.cons_append, List.nil_append] at hops
          replace HOPS := Lib.hid hops
          clear hops
          refine walkT_take (o := _) (v := ?_) (by rw [HOPS.out]; simp only [List.getElem?_toArray, List.getElem?_cons_succ, List.getElem?_cons_zero]; exact rfl) (Or.inl ⟨rfl, ?_⟩) ?_
          rotate_left
          · (intro w hSw; have hSx := HFA.out _ hSw; (try dsimp only at hSx); clear hSw; go_simp) <;> (with_reducible rfl)
          simp only [Act.put, List.setIfInBounds_toArray, List.set_cons_zero, List.set_cons_succ]
          refine walkT_take (o := _) (v := ?_) (by rw [HOPS.out]; simp only [List.getElem?_toArray, List.getElem?_cons_succ, List.getElem?_cons_zero]; exact rfl) (Or.inl ⟨rfl, ?_⟩) ?_
          rotate_left
          · (intro w hSw; have hSx := HFA.out _ hSw; (try dsimp only at hSx); clear hSw; go_simp) <;> (with_reducible rfl)
          simp only [Act.put, List.setIfInBounds_toArray, List.set_cons_zero, List.set_cons_succ]
          refine walkT_take (o := _) (v := ?_) (by rw [HOPS.out]; simp only [List.getElem?_toArray, List.getElem?_cons_succ, List.getElem?_cons_zero]; exact rfl) (Or.inl ⟨rfl, ?_⟩) ?_
          rotate_left
          · (intro w hSw; have hSx := HFA.out _ hSw; (try dsimp only at hSx); clear hSw; go_simp) <;> (with_reducible rfl)
          simp only [Act.put, List.setIfInBounds_toArray, List.set_cons_zero, List.set_cons_succ]
          refine walkT_take (o := _) (v := ?_) (by rw [HOPS.out]; simp only [List.getElem?_toArray, List.getElem?_cons_succ, List.getElem?_cons_zero]; exact rfl) (Or.inl ⟨rfl, ?_⟩) ?_
          rotate_left
          · (intro w hSw; have hSx := HFA.out _ hSw; (try dsimp only at hSx); clear hSw; go_simp) <;> (with_reducible rfl)
          simp only [Act.put, List.setIfInBounds_toArray, List.set_cons_zero, List.set_cons_succ]
          refine walkT_take (o := _) (v := ?_) (by rw [HOPS.out]; simp only [List.getElem?_toArray, List.getElem?_cons_succ, List.getElem?_cons_zero]; exact rfl) (Or.inl ⟨rfl, ?_⟩) ?_
          rotate_left
          · (intro w hSw; have hSx := HFA.out _ hSw; (try dsimp only at hSx); clear hSw; go_simp) <;> (with_reducible rfl)
          simp only [Act.put, List.setIfInBounds_toArray, List.set_cons_zero, List.set_cons_succ]
          refine walkT_take (o := _) (v := ?_) (by rw [HOPS.out]; simp only [List.getElem?_toArray, List.getElem?_cons_succ, List.getElem?_cons_zero]; exact rfl) (Or.inl ⟨rfl, ?_⟩) ?_
          rotate_left
          · (intro w hSw; have hSx := HFA.out _ hSw; (try dsimp only at hSx); clear hSw; go_simp) <;> (with_reducible rfl)
          simp only [Act.put, List.setIfInBounds_toArray, List.set_cons_zero, List.set_cons_succ]
          refine walkT_two ?_ ?_
          · refine walkT_call (o := _) (by rw [HOPS.out]; simp only [List.getElem?_toArray, List.getElem?_cons_succ, List.getElem?_cons_zero]; exact rfl) (fun K HK => ?_)
            refine step_call rfl 44 #[(.tmp 57), (.tmp 58), (.tmp 62)] #[68, 95, 73] rfl HEW.out #[.pointer (some ⟨b, 0, none⟩), .agg #[.int .i64 s.t0.stage, .int .i64 s.t0.limit, .int .i64 s.t0.rd, .int .i64 s.t0.wr, .slice a0 s.t0.s.length k0, .int .i64 s.t0.r, .int .i64 s.t0.w, .int .i64 s.t1.stage, .int .i64 s.t1.limit, .int .i64 s.t1.rd, .int .i64 s.t1.wr, .slice a1 s.t1.s.length k1, .int .i64 s.t1.r, .int .i64 s.t1.w, .bool s.c0, .bool s.c1, .int .i64 s.first], .agg #[.int .i64 what, .int .i64 fr, .slice pa data.length pc, .int .i64 n, .int .i64 er]] (by simp [Act.eval]) (HSTEP.out wr.drew ((Fr.refl [] wr).drew)) ?_
            rintro e w5 ⟨b2, v2, rfl, h5, S5, f5', hS5⟩
            obtain ⟨y0, l0, y1, l1, rfl⟩ := h5.form
            have f5 : ∃ S, Fr S wr w5 ∧ ∀ x ∈ S, w.heap.size ≤ x ∧ x ≠ B := ⟨S5, Fr.undrew f5', fun x hx => ⟨(hS5 x hx).1, fun e => (hS5 x hx).2 (by simp [e])⟩⟩
            refine ⟨_, rfl, ?_⟩
            refine HK.out (fun w' => ∃ S, Fr S wr w' ∧ ∀ x ∈ S, w.heap.size ≤ x ∧ x ≠ B) _ _ (fun _ h => h) (f5) ?_
            clear HK K
            simp only [Act.put, List.setIfInBounds_toArray, List.set_cons_zero, List.set_cons_succ]
            have hz5 : wr.heap.size ≤ w5.heap.size := (show Fr S5 wr w5 from Fr.undrew f5').size
            refine walkT_take (o := _) (v := ?_) (by rw [HOPS.out]; simp only [List.getElem?_toArray, List.getElem?_cons_succ, List.getElem?_cons_zero]; exact rfl) (Or.inl ⟨rfl, ?_⟩) ?_
            rotate_left
            · (intro w hSw; (try dsimp only at hSw); go_simp) <;> (with_reducible rfl)
            simp only [Act.put, List.setIfInBounds_toArray, List.set_cons_zero, List.set_cons_succ]
            refine walkT_take (o := _) (v := ?_) (by rw [HOPS.out]; simp only [List.getElem?_toArray, List.getElem?_cons_succ, List.getElem?_cons_zero]; exact rfl) (Or.inl ⟨rfl, ?_⟩) ?_
            rotate_left
            · (intro w hSw; (try dsimp only at hSw); go_simp) <;> (with_reducible rfl)
            simp only [Act.put, List.setIfInBounds_toArray, List.set_cons_zero, List.set_cons_succ]
            refine walkT_take (o := _) (v := ?_) (by rw [HOPS.out]; simp only [List.getElem?_toArray, List.getElem?_cons_succ, List.getElem?_cons_zero]; exact rfl) (Or.inl ⟨rfl, ?_⟩) ?_
            rotate_left
            · (intro w hSw; (try dsimp only at hSw); go_simp) <;> (with_reducible rfl)
            simp only [Act.put, List.setIfInBounds_toArray, List.set_cons_zero, List.set_cons_succ]
            refine walkT_take (o := _) (v := ?_) (by rw [HOPS.out]; simp only [List.getElem?_toArray, List.getElem?_cons_succ, List.getElem?_cons_zero]; exact rfl) (Or.inl ⟨rfl, ?_⟩) ?_
            rotate_left
            · (intro w hSw; (try dsimp only at hSw); go_simp) <;> (with_reducible rfl)
            simp only [Act.put, List.setIfInBounds_toArray, List.set_cons_zero, List.set_cons_succ]
            refine walkT_call (o := _) (by rw [HOPS.out]; simp only [List.getElem?_toArray, List.getElem?_cons_succ, List.getElem?_cons_zero]; exact rfl) (fun K HK => ?_)
            go_simp
            obtain ⟨w6, hw6, f6, q6⟩ : ∃ W, w5.alloc (.cells #[.int .i64 0, .int .i64 0, .int .i64 0, .int .i64 0, .slice none 0 0, .int .i64 0, .int .i64 0, .int .i64 0, .int .i64 0, .int .i64 0, .int .i64 0, .slice none 0 0, .int .i64 0, .int .i64 0, .bool false, .bool false, .int .i64 0] 95) = W ∧ Fr [] w5 W ∧ SB W w5.heap.size (.int .i64 0) (.int .i64 0) (.int .i64 0) (.int .i64 0) (.slice none 0 0) (.int .i64 0) (.int .i64 0) (.int .i64 0) (.int .i64 0) (.int .i64 0) (.int .i64 0) (.slice none 0 0) (.int .i64 0) (.int .i64 0) (.bool false) (.bool false) (.int .i64 0) := ⟨_, rfl, (Fr.refl _ _).alloc _, newA rfl⟩
            try rw [hw6]
            have f56 : ∃ S, Fr S wr w6 ∧ ∀ x ∈ S, w.heap.size ≤ x ∧ x ≠ B := ⟨S5, (show Fr S5 wr w5 from Fr.undrew f5').then0 f6, fun x hx => ⟨(hS5 x hx).1, fun e => (hS5 x hx).2 (by simp [e])⟩⟩
            refine HK.out (fun w' => ∃ S, Fr S wr w' ∧ ∀ x ∈ S, w.heap.size ≤ x ∧ x ≠ B) _ _ (fun _ h => h) f56 ?_
            clear HK K
            try simp only [Act.put, List.setIfInBounds_toArray, List.set_cons_zero, List.set_cons_succ]
            have h6 := h5.out f6 (by omega) [w5.heap.size] (by have := lt_of_heap q6; simp; omega)
            refine walkT_take (o := _) (v := ?_) (by rw [HOPS.out]; simp only [List.getElem?_toArray, List.getElem?_cons_succ, List.getElem?_cons_zero]; exact rfl) (Or.inl ⟨rfl, ?_⟩) ?_
            rotate_left
            · (intro w hSw; (try dsimp only at hSw); go_simp) <;> (with_reducible rfl)
            simp only [Act.put, List.setIfInBounds_toArray, List.set_cons_zero, List.set_cons_succ]
            refine walkT_call (o := _) (by rw [HOPS.out]; simp only [List.getElem?_toArray, List.getElem?_cons_succ, List.getElem?_cons_zero]; exact rfl) (fun K HK => ?_)
            obtain ⟨w7, hst, qR, fR⟩ := sbs_set q6 y0 l0 y1 l1 S2.t0 S2.t1 S2.c0 S2.c1 S2.first
            refine step_store17 (p := .tmp 11) (x := .tmp 65) q6 rfl rfl rfl rfl rfl ?_
            rw [hst]
            have f67 : ∃ S, Fr S wr w7 ∧ ∀ x ∈ S, w.heap.size ≤ x ∧ x ≠ B := ⟨w5.heap.size :: S5, ((show Fr S5 wr w5 from Fr.undrew f5').then0 f6).trans fR (fun x hx => .inl (List.mem_cons_of_mem _ hx)) (fun x hx => .inl (by simp at hx; simp [hx])), fun x hx => by rcases List.mem_cons.1 hx with hx | hx; exact ⟨by omega, by omega⟩; exact ⟨(hS5 x hx).1, fun e => (hS5 x hx).2 (by simp [e])⟩⟩
            refine HK.out (fun w' => ∃ S, Fr S wr w' ∧ ∀ x ∈ S, w.heap.size ≤ x ∧ x ≠ B) _ _ (fun _ h => h) f67 ?_
            clear HK K
            try simp only [Act.put, List.setIfInBounds_toArray, List.set_cons_zero, List.set_cons_succ]
            refine walkT_take (o := _) (v := ?_) (by rw [HOPS.out]; simp only [List.getElem?_toArray, List.getElem?_cons_succ, List.getElem?_cons_zero]; exact rfl) (Or.inl ⟨rfl, ?_⟩) ?_
            rotate_left
            · (intro w hSw; (try dsimp only at hSw); go_simp) <;> (with_reducible rfl)
            simp only [Act.put, List.setIfInBounds_toArray, List.set_cons_zero, List.set_cons_succ]
            refine walkT_done ?_
            clear HOPS OPS
            have h7 := h6.set (by simp) fR
            go_wp2_with fail
            go_meet
            exact ⟨b2, w5.heap.size, y0, l0, y1, l1, rfl, rfl, rfl, Lib.hid qR, Lib.hid h7, Lib.hid f67, Lib.hid ⟨by omega, by omega⟩⟩
          · refine walkT_call (o := _) (by rw [HOPS.out]; simp only [List.getElem?_toArray, List.getElem?_cons_succ, List.getElem?_cons_zero]; exact rfl) (fun K HK => ?_)
            go_simp
            obtain ⟨w6a, hw6, f6, q6⟩ : ∃ W, (wr.alloc (.cells #[.int .i64 0, .int .i64 0, .int .i64 0, .int .i64 0, .slice none 0 0, .int .i64 0, .int .i64 0, .int .i64 0, .int .i64 0, .int .i64 0, .int .i64 0, .slice none 0 0, .int .i64 0, .int .i64 0, .bool false, .bool false, .int .i64 0] 95)).drew = W ∧ Fr [] wr W ∧ SB W wr.heap.size (.int .i64 0) (.int .i64 0) (.int .i64 0) (.int .i64 0) (.slice none 0 0) (.int .i64 0) (.int .i64 0) (.int .i64 0) (.int .i64 0) (.int .i64 0) (.int .i64 0) (.slice none 0 0) (.int .i64 0) (.int .i64 0) (.bool false) (.bool false) (.int .i64 0) := ⟨_, rfl, ((Fr.refl _ _).alloc _).drew, newA rfl⟩
            try rw [hw6]
            have f6x : ∃ S, Fr S wr w6a ∧ ∀ x ∈ S, w.heap.size ≤ x ∧ x ≠ B := ⟨[], f6, by simp⟩
            refine HK.out (fun w' => ∃ S, Fr S wr w' ∧ ∀ x ∈ S, w.heap.size ≤ x ∧ x ≠ B) _ _ (fun _ h => h) f6x ?_
            clear HK K
            try simp only [Act.put, List.setIfInBounds_toArray, List.set_cons_zero, List.set_cons_succ]
            have hz6 := lt_of_heap q6
            refine walkT_call (o := _) (by rw [HOPS.out]; simp only [List.getElem?_toArray, List.getElem?_cons_succ, List.getElem?_cons_zero]; exact rfl) (fun K HK => ?_)
            refine step_call rfl 44 #[(.tmp 57), (.tmp 58), (.tmp 62)] #[68, 95, 73] rfl HEW.out #[.pointer (some ⟨b, 0, none⟩), .agg #[.int .i64 s.t0.stage, .int .i64 s.t0.limit, .int .i64 s.t0.rd, .int .i64 s.t0.wr, .slice a0 s.t0.s.length k0, .int .i64 s.t0.r, .int .i64 s.t0.w, .int .i64 s.t1.stage, .int .i64 s.t1.limit, .int .i64 s.t1.rd, .int .i64 s.t1.wr, .slice a1 s.t1.s.length k1, .int .i64 s.t1.r, .int .i64 s.t1.w, .bool s.c0, .bool s.c1, .int .i64 s.first], .agg #[.int .i64 what, .int .i64 fr, .slice pa data.length pc, .int .i64 n, .int .i64 er]] (by simp [Act.eval]) (HSTEPB.out w6a f6 (by omega)) ?_
            rintro e w5 ⟨b2, v2, rfl, h5, S5, f5', hS5⟩
            obtain ⟨y0, l0, y1, l1, rfl⟩ := h5.form
            have f5 : ∃ S, Fr S wr w5 ∧ ∀ x ∈ S, w.heap.size ≤ x ∧ x ≠ B := ⟨S5, f6.trans f5' (by simp) (fun x hx => .inl hx), fun x hx => ⟨(hS5 x hx).1, fun e => (hS5 x hx).2 (by simp [e])⟩⟩
            refine ⟨_, rfl, ?_⟩
            refine HK.out (fun w' => ∃ S, Fr S wr w' ∧ ∀ x ∈ S, w.heap.size ≤ x ∧ x ≠ B) _ _ (fun _ h => h) (f5) ?_
            clear HK K
            simp only [Act.put, List.setIfInBounds_toArray, List.set_cons_zero, List.set_cons_succ]
            have q6b : SB w5 wr.heap.size (.int .i64 0) (.int .i64 0) (.int .i64 0) (.int .i64 0) (.slice none 0 0) (.int .i64 0) (.int .i64 0) (.int .i64 0) (.int .i64 0) (.int .i64 0) (.int .i64 0) (.slice none 0 0) (.int .i64 0) (.int .i64 0) (.bool false) (.bool false) (.int .i64 0) := f5'.keep q6 (fun hm => (hS5 _ hm).2 (by simp))
            refine walkT_take (o := _) (v := ?_) (by rw [HOPS.out]; simp only [List.getElem?_toArray, List.getElem?_cons_succ, List.getElem?_cons_zero]; exact rfl) (Or.inl ⟨rfl, ?_⟩) ?_
            rotate_left
            · (intro w hSw; (try dsimp only at hSw); go_simp) <;> (with_reducible rfl)
            simp only [Act.put, List.setIfInBounds_toArray, List.set_cons_zero, List.set_cons_succ]
            refine walkT_take (o := _) (v := ?_) (by rw [HOPS.out]; simp only [List.getElem?_toArray, List.getElem?_cons_succ, List.getElem?_cons_zero]; exact rfl) (Or.inl ⟨rfl, ?_⟩) ?_
            rotate_left
            · (intro w hSw; (try dsimp only at hSw); go_simp) <;> (with_reducible rfl)
            simp only [Act.put, List.setIfInBounds_toArray, List.set_cons_zero, List.set_cons_succ]
            refine walkT_take (o := _) (v := ?_) (by rw [HOPS.out]; simp only [List.getElem?_toArray, List.getElem?_cons_succ, List.getElem?_cons_zero]; exact rfl) (Or.inl ⟨rfl, ?_⟩) ?_
            rotate_left
            · (intro w hSw; (try dsimp only at hSw); go_simp) <;> (with_reducible rfl)
            simp only [Act.put, List.setIfInBounds_toArray, List.set_cons_zero, List.set_cons_succ]
            refine walkT_take (o := _) (v := ?_) (by rw [HOPS.out]; simp only [List.getElem?_toArray, List.getElem?_cons_succ, List.getElem?_cons_zero]; exact rfl) (Or.inl ⟨rfl, ?_⟩) ?_
            rotate_left
            · (intro w hSw; (try dsimp only at hSw); go_simp) <;> (with_reducible rfl)
            simp only [Act.put, List.setIfInBounds_toArray, List.set_cons_zero, List.set_cons_succ]
            refine walkT_take (o := _) (v := ?_) (by rw [HOPS.out]; simp only [List.getElem?_toArray, List.getElem?_cons_succ, List.getElem?_cons_zero]; exact rfl) (Or.inl ⟨rfl, ?_⟩) ?_
            rotate_left
            · (intro w hSw; (try dsimp only at hSw); go_simp) <;> (with_reducible rfl)
            simp only [Act.put, List.setIfInBounds_toArray, List.set_cons_zero, List.set_cons_succ]
            refine walkT_call (o := _) (by rw [HOPS.out]; simp only [List.getElem?_toArray, List.getElem?_cons_succ, List.getElem?_cons_zero]; exact rfl) (fun K HK => ?_)
            obtain ⟨w7, hst, qR, fR⟩ := sbs_set q6b y0 l0 y1 l1 S2.t0 S2.t1 S2.c0 S2.c1 S2.first
            refine step_store17 (p := .tmp 11) (x := .tmp 65) q6b rfl rfl rfl rfl rfl ?_
            rw [hst]
            have f67 : ∃ S, Fr S wr w7 ∧ ∀ x ∈ S, w.heap.size ≤ x ∧ x ≠ B := ⟨wr.heap.size :: S5, (f6.trans f5' (U := S5) (by simp) (fun x hx => .inl hx)).trans fR (fun x hx => .inl (List.mem_cons_of_mem _ hx)) (fun x hx => .inl (by simp at hx; simp [hx])), fun x hx => by rcases List.mem_cons.1 hx with hx | hx; exact ⟨by omega, by omega⟩; exact ⟨(hS5 x hx).1, fun e => (hS5 x hx).2 (by simp [e])⟩⟩
            refine HK.out (fun w' => ∃ S, Fr S wr w' ∧ ∀ x ∈ S, w.heap.size ≤ x ∧ x ≠ B) _ _ (fun _ h => h) f67 ?_
            clear HK K
            try simp only [Act.put, List.setIfInBounds_toArray, List.set_cons_zero, List.set_cons_succ]
            refine walkT_take (o := _) (v := ?_) (by rw [HOPS.out]; simp only [List.getElem?_toArray, List.getElem?_cons_succ, List.getElem?_cons_zero]; exact rfl) (Or.inl ⟨rfl, ?_⟩) ?_
            rotate_left
            · (intro w hSw; (try dsimp only at hSw); go_simp) <;> (with_reducible rfl)
            simp only [Act.put, List.setIfInBounds_toArray, List.set_cons_zero, List.set_cons_succ]
            refine walkT_done ?_
            clear HOPS OPS
            have h7 := h5.set (by simp) fR
            go_wp2_with fail
            go_meet
            exact ⟨b2, wr.heap.size, y0, l0, y1, l1, rfl, rfl, rfl, Lib.hid qR, Lib.hid h7, Lib.hid f67, Lib.hid ⟨by omega, by omega⟩⟩
          
        case rest =>
          clear HSTEP HSTEPB HEW HFA c0 c1 c2 c3 c4 hd HDO
          obtain ⟨b2, B2, y0, l0, y1, l1, rfl, rfl, rfl, Q7, T7, F7, HB2⟩ := hcut
          rename World => w7
          have HIS := Lib.hid (T7.out.is_ (by have := HI2.out.2; omega) (by have := HI2.out.2; omega))
          have g7 : Hid (Fr [] w w7) := Lib.hid (by obtain ⟨S, f, hS⟩ := F7.out; exact gr.trans f (by simp) (fun x hx => .inr (hS x hx).1))
          have a7 : Hid (Acts22 w7 w.heap.size _ A.length cap A) := Lib.hid (by obtain ⟨S, f, hS⟩ := F7.out; exact ar.keep f gr.size (fun x hx => (hS x hx).1))
          have q9 : Hid (SBs w7 B a0 k0 a1 k1 s.t0 s.t1 s.c0 s.c1 s.first) := Lib.hid (by obtain ⟨S, f, hS⟩ := F7.out; exact SBs.keep qr f (fun hm => (hS _ hm).2 rfl))
          have e : ∀ i, w7.cell? ⟨B2, i, none⟩ = _ := fun i => cell_of Q7.out
          have e0 : w7.cell? ⟨B2, 0, none⟩ = some (.int .i64 S2.t0.stage) := e 0
          have e1 : w7.cell? ⟨B2, 1, none⟩ = some (.int .i64 S2.t0.limit) := e 1
          have e2 : w7.cell? ⟨B2, 2, none⟩ = some (.int .i64 S2.t0.rd) := e 2
          have e3 : w7.cell? ⟨B2, 3, none⟩ = some (.int .i64 S2.t0.wr) := e 3
          have e4 : w7.cell? ⟨B2, 4, none⟩ = some (.slice y0 S2.t0.s.length l0) := e 4
          have e5 : w7.cell? ⟨B2, 5, none⟩ = some (.int .i64 S2.t0.r) := e 5
          have e6 : w7.cell? ⟨B2, 6, none⟩ = some (.int .i64 S2.t0.w) := e 6
          have e7 : w7.cell? ⟨B2, 7, none⟩ = some (.int .i64 S2.t1.stage) := e 7
          have e8 : w7.cell? ⟨B2, 8, none⟩ = some (.int .i64 S2.t1.limit) := e 8
          have e9 : w7.cell? ⟨B2, 9, none⟩ = some (.int .i64 S2.t1.rd) := e 9
          have e10 : w7.cell? ⟨B2, 10, none⟩ = some (.int .i64 S2.t1.wr) := e 10
          have e11 : w7.cell? ⟨B2, 11, none⟩ = some (.slice y1 S2.t1.s.length l1) := e 11
          have e12 : w7.cell? ⟨B2, 12, none⟩ = some (.int .i64 S2.t1.r) := e 12
          have e13 : w7.cell? ⟨B2, 13, none⟩ = some (.int .i64 S2.t1.w) := e 13
          have e14 : w7.cell? ⟨B2, 14, none⟩ = some (.bool S2.c0) := e 14
          have e15 : w7.cell? ⟨B2, 15, none⟩ = some (.bool S2.c1) := e 15
          have e16 : w7.cell? ⟨B2, 16, none⟩ = some (.int .i64 S2.first) := e 16
          clear gr ar qr HT F7 e HI
          as_aux_lemma =>
            go_wp2_with fail
            refine HIS.out.mono ?_
            rintro e w8 ⟨rfl, f8⟩
            have r2 := SBs.keep Q7.out f8 (by simp)
            have r9 := SBs.keep q9.out f8 (by simp)
            have g8 := Lib.hid (g7.out.then0 f8)
            have a8 := Lib.hid (a7.out.keep f8 g7.out.size (by simp))
            have T8 := Lib.hid (T7.out.keep0 f8)
            have HF8 := Lib.hid fun (w' : World) (f : Fr [B] w8 w') => (show w'.cell? ⟨B2, 0, none⟩ = some (.int .i64 S2.t0.stage) ∧ w'.cell? ⟨B2, 1, none⟩ = some (.int .i64 S2.t0.limit) ∧ w'.cell? ⟨B2, 2, none⟩ = some (.int .i64 S2.t0.rd) ∧ w'.cell? ⟨B2, 3, none⟩ = some (.int .i64 S2.t0.wr) ∧ w'.cell? ⟨B2, 4, none⟩ = some (.slice y0 S2.t0.s.length l0) ∧ w'.cell? ⟨B2, 5, none⟩ = some (.int .i64 S2.t0.r) ∧ w'.cell? ⟨B2, 6, none⟩ = some (.int .i64 S2.t0.w) ∧ w'.cell? ⟨B2, 7, none⟩ = some (.int .i64 S2.t1.stage) ∧ w'.cell? ⟨B2, 8, none⟩ = some (.int .i64 S2.t1.limit) ∧ w'.cell? ⟨B2, 9, none⟩ = some (.int .i64 S2.t1.rd) ∧ w'.cell? ⟨B2, 10, none⟩ = some (.int .i64 S2.t1.wr) ∧ w'.cell? ⟨B2, 11, none⟩ = some (.slice y1 S2.t1.s.length l1) ∧ w'.cell? ⟨B2, 12, none⟩ = some (.int .i64 S2.t1.r) ∧ w'.cell? ⟨B2, 13, none⟩ = some (.int .i64 S2.t1.w) ∧ w'.cell? ⟨B2, 14, none⟩ = some (.bool S2.c0) ∧ w'.cell? ⟨B2, 15, none⟩ = some (.bool S2.c1) ∧ w'.cell? ⟨B2, 16, none⟩ = some (.int .i64 S2.first) from (let q' := SBs.keep r2 f (by have := HB2.out.1; simp; omega); ⟨cell_of q', cell_of q', cell_of q', cell_of q', cell_of q', cell_of q', cell_of q', cell_of q', cell_of q', cell_of q', cell_of q', cell_of q', cell_of q', cell_of q', cell_of q', cell_of q', cell_of q'⟩))
            clear f8 HIS Q7 q9 g7 a7 T7 e0 e1 e2 e3 e4 e5 e6 e7 e8 e9 e10 e11 e12 e13 e14 e15 e16 r2
            go_wp2_with fail
            have fd : Fr [B] w8 w8.drew := (Fr.refl _ _).drew
            refine wp_region_tree (.take 0 (.take 1 (.take 2 (.one 3 .nil)))) (fun w' => Fr [B] w8 w') (by kernel_rfl) (by kernel_rfl) fd ?_
            intro OPS HOPS
            have hops := HOPS.out
            try simp only [List.append_eq, List.cons_append, List.nil_append] at hops
            replace HOPS := Lib.hid hops
            clear hops
            refine walkT_take (o := _) (v := ?_) (by rw [HOPS.out]; simp only [List.getElem?_toArray, List.getElem?_cons_succ, List.getElem?_cons_zero]; exact rfl) (Or.inl ⟨rfl, ?_⟩) ?_
            rotate_left
            · (intro w hSw; have hSx := HF8.out _ hSw; (try dsimp only at hSx); clear hSw; go_simp) <;> (with_reducible rfl)
            simp only [Act.put, List.setIfInBounds_toArray, List.set_cons_zero, List.set_cons_succ]
            refine walkT_take (o := _) (v := ?_) (by rw [HOPS.out]; simp only [List.getElem?_toArray, List.getElem?_cons_succ, List.getElem?_cons_zero]; exact rfl) (Or.inl ⟨rfl, ?_⟩) ?_
            rotate_left
            · (intro w hSw; have hSx := HF8.out _ hSw; (try dsimp only at hSx); clear hSw; go_simp) <;> (with_reducible rfl)
            simp only [Act.put, List.setIfInBounds_toArray, List.set_cons_zero, List.set_cons_succ]
            refine walkT_take (o := _) (v := ?_) (by rw [HOPS.out]; simp only [List.getElem?_toArray, List.getElem?_cons_succ, List.getElem?_cons_zero]; exact rfl) (Or.inl ⟨rfl, ?_⟩) ?_
            rotate_left
            · (intro w hSw; have hSx := HF8.out _ hSw; (try dsimp only at hSx); clear hSw; go_simp) <;> (with_reducible rfl)
            simp only [Act.put, List.setIfInBounds_toArray, List.set_cons_zero, List.set_cons_succ]
            refine walkT_call (o := _) (by rw [HOPS.out]; simp only [List.getElem?_toArray, List.getElem?_cons_succ, List.getElem?_cons_zero]; exact rfl) (fun K HK => ?_)
            have hR : SB w8.drew B (.int .i64 s.t0.stage) (.int .i64 s.t0.limit) (.int .i64 s.t0.rd) (.int .i64 s.t0.wr) (.slice a0 s.t0.s.length k0) (.int .i64 s.t0.r) (.int .i64 s.t0.w) (.int .i64 s.t1.stage) (.int .i64 s.t1.limit) (.int .i64 s.t1.rd) (.int .i64 s.t1.wr) (.slice a1 s.t1.s.length k1) (.int .i64 s.t1.r) (.int .i64 s.t1.w) (.bool s.c0) (.bool s.c1) (.int .i64 s.first) := r9
            obtain ⟨w9, hst, qR, fR⟩ := sbs_set hR y0 l0 y1 l1 S2.t0 S2.t1 S2.c0 S2.c1 S2.first
            refine step_store17 (p := .tmp 7) (x := .tmp 80) hR rfl rfl rfl rfl rfl ?_
            rw [hst]
            have f9 : Fr [B] w8 w9 := fd.then fR
            refine HK.out (fun w' => Fr [B] w8 w') _ _ (fun _ h => h) f9 ?_
            clear HK K
            try simp only [Act.put, List.setIfInBounds_toArray, List.set_cons_zero, List.set_cons_succ]
            refine walkT_done ?_
            clear HOPS OPS
            have g9 := g8.out.trans f9 (U := []) (fun _ h => .inl h) (fun x hx => .inr (by simp at hx; have := HBW.out; omega))
            have a9 := a8.out.keep f9 g8.out.size (fun x hx => by simp at hx; have := HBW.out; omega)
            have T9 := Lib.hid ((T8.out.set (by simp) f9).less (L' := [B]) (by simp))
            have qR2 := qR
            clear hst fR f9 r9 hR
            go_wp2_with fail
            go_roundw
            case rel => exact ⟨k + 1, S2, b2, y0, l0, y1, l1, by omega, by go_num, rfl, HI2, qR2, T9, g9, a9⟩
            case measure => simp [intOf]; omega
    · as_aux_lemma =>
        go_wp2_with fail
        refine (known22 _).mono ?_
        rintro e w99 ⟨rfl, f99⟩
        go_wp2_with fail
        go_ret
        exact ⟨rfl, gr.then0 f99⟩

theorem splicePlays_walk {a : Option Addr} {len cap : Nat} (st : Int) (w : World) (h : ∃ A, Acts22 w w.heap.size a len cap A) :
    Calls Try.prog 11 #[.int .i64 st, .slice a len cap] w fun e w' => e = .returned (.bool true) ∧ Fr [] w w' := by
  obtain ⟨A, hA⟩ := h
  have HF := few22 hA
  by_cases hs : fewB22 A = true
  · by_cases hk : okS st (-1) = true
    · exact splicePlays_main w hk hA hs
    · rw [hs] at HF
      have hk' : okS st (-1) = false := by simpa using hk
      have HN := Lib.hid (sp_new_bad w hk')
      have HRN : Hid (∀ w1, Calls Try.prog 42 #[.int .i64 st] w1 fun e w' => e = .returned (.tuple #[.agg #[.int .i64 (newS22 st).t0.stage, .int .i64 (newS22 st).t0.limit, .int .i64 (newS22 st).t0.rd, .int .i64 (newS22 st).t0.wr, .slice none (newS22 st).t0.s.length 0, .int .i64 (newS22 st).t0.r, .int .i64 (newS22 st).t0.w, .int .i64 (newS22 st).t1.stage, .int .i64 (newS22 st).t1.limit, .int .i64 (newS22 st).t1.rd, .int .i64 (newS22 st).t1.wr, .slice none (newS22 st).t1.s.length 0, .int .i64 (newS22 st).t1.r, .int .i64 (newS22 st).t1.w, .bool (newS22 st).c0, .bool (newS22 st).c1, .int .i64 (newS22 st).first], .bool false]) ∧ Fr [] w1 w') := Lib.hid fun w1 => hk' ▸ rs_new w1 st
      replace HF := Lib.hid HF
      clear hs hk hk' hA
      go_enter Try.func11, Try.ntmps11
      go_wp2_with fail
      refine HF.out.mono ?_
      rintro e w' ⟨rfl, rfl⟩
      go_wp2_with fail
      refine HN.out.mono ?_
      rintro e w1 ⟨rfl, f1⟩
      go_wp2_with fail
      refine (HRN.out _).mono ?_
      rintro e w2 ⟨rfl, f2⟩
      obtain ⟨wz, hwz, fz, qz⟩ : ∃ W, w2.alloc (.cells #[.int .i64 0, .int .i64 0, .int .i64 0, .int .i64 0, .slice none 0 0, .int .i64 0, .int .i64 0, .int .i64 0, .int .i64 0, .int .i64 0, .int .i64 0, .slice none 0 0, .int .i64 0, .int .i64 0, .bool false, .bool false, .int .i64 0] 95) = W ∧ Fr [] w2 W ∧ SB W w2.heap.size (.int .i64 0) (.int .i64 0) (.int .i64 0) (.int .i64 0) (.slice none 0 0) (.int .i64 0) (.int .i64 0) (.int .i64 0) (.int .i64 0) (.int .i64 0) (.int .i64 0) (.slice none 0 0) (.int .i64 0) (.int .i64 0) (.bool false) (.bool false) (.int .i64 0) := ⟨_, rfl, (Fr.refl _ _).alloc _, newA rfl⟩
      obtain ⟨w3, hw3, q3, f3⟩ := sbs_set qz none 0 none 0 (newS22 st).t0 (newS22 st).t1 (newS22 st).c0 (newS22 st).c1 (newS22 st).first
      have g3 := Lib.hid (((f1.then0 f2).then0 fz).trans f3 (U := []) (by simp) (fun x hx => .inr (by simp at hx; have := f1.size; have := f2.size; omega)))
      clear q3 f3 fz f1 f2
      go_wp2_with (refine sbs_storeW qz hw3 rfl (.tmp 7) (.tmp 25) rfl rfl (by rfl) (by rfl) ?_)
      refine (known22 _).mono ?_
      rintro e w' ⟨rfl, f⟩
      go_wp2_with fail
      go_ret
      exact ⟨rfl, g3.out.then0 f⟩
  · rw [show fewB22 A = false from by simpa using hs] at HF
    replace HF := Lib.hid HF
    clear hs hA
    go_enter Try.func11, Try.ntmps11
    go_wp2_with fail
    refine HF.out.mono ?_
    rintro e w' ⟨rfl, rfl⟩
    go_wp2_with fail
    refine (known22 _).mono ?_
    rintro e w' ⟨rfl, f⟩
    go_wp2_with fail
    go_ret
    exact ⟨rfl, f⟩
end Go.Proofs.Ytodpkdbcdbdjfaa
