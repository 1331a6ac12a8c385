/-
  Law 22: SpliceAlone: each of both transfers of a splice does what a transfer does alone.
-/
import Derived.Test.YtodpkdbcdbdjfaaSpU
import Derived.Test.YtodpkdbcdbdjfaaSpStepB
import Derived.Test.YtodpkdbcdbdjfaaActs22
import Derived.Test.YtodpkdbcdbdjfaaRegionU
import Derived.Test.YtodpkdbcdbdjfaaStepsTwo
import Derived.Deep.DeepCutAuto
import Derived.Deep.CutBlock
namespace Go.Proofs.Ytodpkdbcdbdjfaa
open Go.RowKit
set_option maxRecDepth 100000

theorem st_self (l : List UInt8) : (st l != st l) = false := by
  have h : (st l == st l) = true := by
    show (l.toArray == l.toArray) = true
    simp
  unfold bne
  rw [h]
  rfl
/-- A splice that holds s, and two transfers in the array at B, which hold the same. -/
structure Al22 (wr : World) (Z b W b0 b1 c0 c1 B : Nat) (s : SS) : Prop where
  sp : Sp wr (fun x => Z ≤ x) (fun x => Z ≤ x) b W b0 b1 s
  x0 : Tr wr (fun x => Z ≤ x) c0 s.t0
  x1 : Tr wr (fun x => Z ≤ x) c1 s.t1
  t : wr.heap[B]? = some (.cells #[.pointer (some ⟨c0, 0, none⟩), .pointer (some ⟨c1, 0, none⟩)] 71 (0, 0))
  d : b < Z ∧ W < Z ∧ b0 < Z ∧ b1 < Z ∧ c0 < Z ∧ c1 < Z ∧ B < Z ∧ c0 ≠ c1 ∧ c0 ≠ b ∧ c0 ≠ W ∧ c0 ≠ b0 ∧ c0 ≠ b1 ∧ c1 ≠ b ∧ c1 ≠ W ∧ c1 ≠ b0 ∧ c1 ≠ b1 ∧ B ≠ b ∧ B ≠ W ∧ B ≠ b0 ∧ B ≠ b1 ∧ B ≠ c0 ∧ B ≠ c1
theorem Al22.keep0 {wr w' : World} {Z b W b0 b1 c0 c1 B : Nat} {s : SS} (h : Al22 wr Z b W b0 b1 c0 c1 B s) (f : Fr [] wr w') : Al22 w' Z b W b0 b1 c0 c1 B s := ⟨h.sp.keep0 f, h.x0.keep0 f, h.x1.keep0 f, f.keep h.t (by simp), h.d⟩
theorem al_set0 {w : World} {B : Nat} {v0 v1 : Value} (h : w.heap[B]? = some (.cells #[v0, v1] 71 (0, 0))) (u : Value) : (w.setCell ⟨B, 0, none⟩ u).heap[B]? = some (.cells #[u, v1] 71 (0, 0)) := by
  have := heap_setCell_eq (i := 0) (u := u) h
  simpa using this
theorem al_set1 {w : World} {B : Nat} {v0 v1 : Value} (h : w.heap[B]? = some (.cells #[v0, v1] 71 (0, 0))) (u : Value) : (w.setCell ⟨B, 1, none⟩ u).heap[B]? = some (.cells #[v0, u] 71 (0, 0)) := by
  have := heap_setCell_eq (i := 1) (u := u) h
  simpa using this

set_option maxHeartbeats 16000000 in
theorem spliceAlone_main {st : Int} {a : Option Addr} {len cap : Nat} {A : List A22} (w : World) (hk : okS st (-1) = true) (hA : Acts22 w w.heap.size a len cap A) (hs : fewB22 A = true) :
    Calls Try.prog 8 #[.int .i64 st, .slice a len cap] w fun e w' => e = .returned (.bool true) ∧ Fr [] w w' := by
  have hle := hA.len_eq
  subst hle
  have HFW := Lib.hid (hs ▸ few22 hA)
  have HVA := Lib.hid fun w => hk ▸ rvalid w st (-1)
  obtain ⟨n30, hok30⟩ := fewB22_iff hs
  have HOK := Lib.hid hok30
  have hl30 : (A.length : Int) ≤ 30 := by omega
  have HNEW := Lib.hid (sp_new_ok w hk)
  have HTN := Lib.hid fun w1 => tr_new_ok w1 hk
  clear hk hs hok30 n30
  go_enter Try.func8, Try.ntmps8
  go_wp2_with fail
  refine HFW.out.mono ?_
  rintro e w' ⟨rfl, rfl⟩
  go_wp2_with fail
  refine (HVA.out _).mono ?_
  rintro e w' ⟨rfl, rfl⟩
  go_wp2_with fail
  refine HNEW.out.mono ?_
  rintro e w1 ⟨b, W, b0, b1, rfl, g1, h1, p1, p2, p3, p4⟩
  obtain ⟨w2, hw2, f2, q2⟩ : ∃ W', w1.alloc (.cells #[.pointer none, .pointer none] 71) = W' ∧ Fr [] w1 W' ∧ W'.heap[w1.heap.size]? = some (.cells #[.pointer none, .pointer none] 71 (0, 0)) := ⟨_, rfl, (Fr.refl _ _).alloc _, newA rfl⟩
  obtain ⟨l1, l2, l3, l4⟩ := h1.lt
  have hz2 := lt_of_heap q2
  have h2 := h1.out f2
  have g2 := g1.then0 f2
  have a2 := hA.keep g2 (Nat.le_refl _) (by simp)
  have hgs := g1.size
  clear hA HNEW HFW h1 HVA
  go_wp2_with fail
  obtain ⟨B, hB⟩ : ∃ B, B = w1.heap.size := ⟨_, rfl⟩
  rw [← hB] at q2 ⊢
  have hBl : b < B ∧ W < B ∧ b0 < B ∧ b1 < B ∧ w.heap.size ≤ B := by omega
  have hB2 : B < w2.heap.size := by omega
  have hS2 : Hid (Sp w2 (fun x => w2.heap.size ≤ x) (fun x => w2.heap.size ≤ x) b W b0 b1 (newS st)) := Lib.hid (by
    obtain ⟨d1, d2, d3, d4, d5, d6, d7⟩ := h2
    exact ⟨d1, d2, d3.empty rfl (fun x hx => hx) (by omega), d4.empty rfl (fun x hx => hx) (by omega), ⟨by omega, by omega, by omega⟩, ⟨by omega, by omega, by omega⟩, d7⟩)
  clear hB h2 l1 l2 l3 l4 hz2 hw2 f2 g1 hgs
  go_loopw [8] (fun i wr => ∃ (k : Nat) (v0 v1 : Value), i = .int .i64 k ∧ k ≤ 2 ∧ Fr [B] w2 wr ∧ wr.heap[B]? = some (.cells #[v0, v1] 71 (0, 0)) ∧ Hid (1 ≤ k → ∃ c0, v0 = .pointer (some ⟨c0, 0, none⟩) ∧ w2.heap.size ≤ c0 ∧ c0 < wr.heap.size ∧ ∃ N, Tr wr N c0 (newT st (-1))) ∧ Hid (2 ≤ k → ∃ c1, v1 = .pointer (some ⟨c1, 0, none⟩) ∧ w2.heap.size ≤ c1 ∧ c1 < wr.heap.size ∧ v0 ≠ .pointer (some ⟨c1, 0, none⟩) ∧ ∃ N, Tr wr N c1 (newT st (-1)))) (fun i _ => 3 - (intOf i).toNat)
  case atStart => exact ⟨0, .pointer none, .pointer none, rfl, by omega, Fr.refl _ _, q2, Lib.hid (by omega), Lib.hid (by omega)⟩
  case round =>
    obtain ⟨k, v0, v1, rfl, hk, g, q, H0, H1⟩ := hrel
    clear q2
    have hgs := g.size
    rcases (show k = 0 ∨ k = 1 ∨ k = 2 from by omega) with rfl | rfl | rfl
    · skip
      clear H0 H1
      go_wp2_with fail
      refine (HTN.out _).mono ?_
      rintro e w3 ⟨rfl, f3, ht⟩
      have q3 := f3.keep q (by simp)
      have z3 : w3.frozen? ⟨B, 0, none⟩ = false := free_of q3
      have e3 : w3.cell? ⟨B, 0, none⟩ = some v0 := cell_of q3
      have hs3 := f3.size
      have hl3 := ht.lt
      have hBw := lt_of_heap q3
      obtain ⟨w4, hw4, q4, f4⟩ : ∃ W', w3.setCell ⟨B, 0, none⟩ (.pointer (some ⟨wr.heap.size, 0, none⟩)) = W' ∧ W'.heap[B]? = some (.cells #[.pointer (some ⟨wr.heap.size, 0, none⟩), v1] 71 (0, 0)) ∧ Fr [B] w3 W' := ⟨_, rfl, al_set0 q3 _, (Fr.refl _ _).setCell (.inl (by simp)) _⟩
      have hs4 := f4.size
      have e4 : w4.cell? ⟨B, 0, none⟩ = some (.pointer (some ⟨wr.heap.size, 0, none⟩)) := cell_of q4
      have Q4 := Lib.hid q4
      have G4 := Lib.hid (((g.then0 f3).then f4))
      have HT : Hid (1 ≤ 1 → ∃ c0, (.pointer (some ⟨wr.heap.size, 0, none⟩) : Value) = .pointer (some ⟨c0, 0, none⟩) ∧ w2.heap.size ≤ c0 ∧ c0 < w4.heap.size ∧ ∃ N, Tr w4 N c0 (newT st (-1))) := Lib.hid fun _ => ⟨_, rfl, hgs, by omega, _, (ht.empty rfl (N' := fun x => w3.heap.size ≤ x) (fun x hx => hx) (by omega)).keep f4 (by simp; omega) (by simp; omega)⟩
      clear q f3 ht q3 q4 f4 g
      go_wp2_with fail
      go_roundw
      case rel => exact ⟨1, _, _, rfl, by omega, G4.out, Q4.out, HT, Lib.hid (by omega)⟩
      case measure => simp [intOf]
    · skip
      obtain ⟨c0', rfl, k1, k2, M0, x0⟩ := H0.out (by omega)
      clear H0 H1
      go_wp2_with fail
      refine (HTN.out _).mono ?_
      rintro e w3 ⟨rfl, f3, ht⟩
      have q3 := f3.keep q (by simp)
      have z3 : w3.frozen? ⟨B, 1, none⟩ = false := free_of q3
      have e3 : w3.cell? ⟨B, 1, none⟩ = some v1 := cell_of q3
      have hs3 := f3.size
      have hl3 := ht.lt
      have hBw := lt_of_heap q3
      obtain ⟨w4, hw4, q4, f4⟩ : ∃ W', w3.setCell ⟨B, 1, none⟩ (.pointer (some ⟨wr.heap.size, 0, none⟩)) = W' ∧ W'.heap[B]? = some (.cells #[.pointer (some ⟨c0', 0, none⟩), .pointer (some ⟨wr.heap.size, 0, none⟩)] 71 (0, 0)) ∧ Fr [B] w3 W' := ⟨_, rfl, al_set1 q3 _, (Fr.refl _ _).setCell (.inl (by simp)) _⟩
      have hs4 := f4.size
      have e4 : w4.cell? ⟨B, 1, none⟩ = some (.pointer (some ⟨wr.heap.size, 0, none⟩)) := cell_of q4
      have Q4 := Lib.hid q4
      have G4 := Lib.hid (((g.then0 f3).then f4))
      have HT : Hid (2 ≤ 2 → ∃ c1, (.pointer (some ⟨wr.heap.size, 0, none⟩) : Value) = .pointer (some ⟨c1, 0, none⟩) ∧ w2.heap.size ≤ c1 ∧ c1 < w4.heap.size ∧ (.pointer (some ⟨c0', 0, none⟩) : Value) ≠ .pointer (some ⟨c1, 0, none⟩) ∧ ∃ N, Tr w4 N c1 (newT st (-1))) := Lib.hid fun _ => ⟨_, rfl, hgs, by omega, (by intro e; injection e with e; injection e with e; injection e with e; omega), _, (ht.empty rfl (N' := fun x => w3.heap.size ≤ x) (fun x hx => hx) (by omega)).keep f4 (by simp; omega) (by simp; omega)⟩
      have HT0 : Hid (1 ≤ 2 → ∃ c0, (.pointer (some ⟨c0', 0, none⟩) : Value) = .pointer (some ⟨c0, 0, none⟩) ∧ w2.heap.size ≤ c0 ∧ c0 < w4.heap.size ∧ ∃ N, Tr w4 N c0 (newT st (-1))) := Lib.hid fun _ => ⟨_, rfl, k1, by omega, _, ((x0.keep0 f3).empty rfl (N' := fun x => w3.heap.size ≤ x) (fun x hx => hx) (by omega)).keep f4 (by simp; omega) (by simp; omega)⟩
      clear q f3 ht q3 q4 f4 g x0
      go_wp2_with fail
      go_roundw
      case rel => exact ⟨2, _, _, rfl, by omega, G4.out, Q4.out, HT0, HT⟩
      case measure => simp [intOf]
    · obtain ⟨c0', rfl, k1, k2, M0, x0⟩ := H0.out (by omega)
      obtain ⟨c1', rfl, k3, k4, hne, M1, x1⟩ := H1.out (by omega)
      have h01 : c0' ≠ c1' := fun e => hne (by rw [e])
      obtain ⟨Z, hZ⟩ : ∃ Z, Z = wr.heap.size := ⟨_, rfl⟩
      have hSp := hS2.out.keep g (fun x hx => by simp at hx; subst hx; exact ⟨by omega, by omega, by omega, by omega, by omega, by omega⟩)
      have ha0 : Hid (Al22 wr Z b W b0 b1 c0' c1' B (newS st)) := Lib.hid ⟨by
          obtain ⟨d1, d2, d3, d4, d5, d6, d7⟩ := hSp
          exact ⟨d1, d2, d3.empty rfl (fun x hx => by omega) (by omega), d4.empty rfl (fun x hx => by omega) (by omega), ⟨by omega, by omega, by omega⟩, ⟨by omega, by omega, by omega⟩, d7⟩, x0.empty rfl (fun x hx => by omega) (by omega), x1.empty rfl (fun x hx => by omega) (by omega), q, by omega⟩
      have hg0 := Lib.hid (g2.trans g (U := []) (by simp) (fun x hx => .inr (by simp at hx; omega)))
      have ha2 := Lib.hid (a2.keep g g2.size (fun x hx => by simp at hx; omega))
      have hZw : b < Z ∧ W < Z ∧ b0 < Z ∧ b1 < Z ∧ w.heap.size ≤ b ∧ w.heap.size ≤ W ∧ w.heap.size ≤ b0 ∧ w.heap.size ≤ b1 ∧ w.heap.size ≤ c0' ∧ w.heap.size ≤ c1' ∧ w.heap.size ≤ B := by have := g2.size; omega
      clear H0 H1 hne x0 x1 hSp q g g2 a2 hS2 hZ k1 k2 k3 k4 hgs
      go_wp2_with fail
      go_loopw [9] (fun i wr => ∃ (k : Nat) (s : SS), k ≤ A.length ∧ i = .int .i64 k ∧ Hid (s.t0.rd ≤ (k : Int) * 5000 ∧ s.t1.rd ≤ (k : Int) * 5000) ∧ Hid (Al22 wr Z b W b0 b1 c0' c1' B s) ∧ Fr [] w wr ∧ Acts22 wr w.heap.size a A.length cap A) (fun i _ => A.length - (intOf i).toNat)
      case atStart => exact ⟨0, newS st, by omega, rfl, Lib.hid ⟨Int.le_refl _, Int.le_refl _⟩, ha0, hg0.out, ha2.out⟩
      case round =>
        clear ha0 hg0 ha2 HTN
        obtain ⟨k, s, hk, rfl, HI, Al0, gr, ar⟩ := hrel
        rename World => wr
        by_cases hlt : (k : Int) < A.length
        · as_aux_lemma =>
            have hkA : k < A.length := by omega
            obtain ⟨ab, ao, pa, pl, pc, rfl, habM, hab, i0, i1, i2, i3, i4, hd, _⟩ := ar.at_ k hkA
            have hok := HOK.out A[k] (List.getElem_mem hkA)
            generalize A[k] = ak at i0 i1 i2 i3 i4 hd hok
            obtain ⟨what, fr, data, n, er⟩ := ak
            dsimp only at i0 i1 i2 i3 i4 hd hok
            have hpl := hd.len_eq
            subst hpl
            have hgw := gr.size
            have hAl := lt_of_heap Al0.out.t
            have HLT : Hid (b < wr.heap.size ∧ W < wr.heap.size ∧ b0 < wr.heap.size ∧ b1 < wr.heap.size ∧ c0' < wr.heap.size ∧ c1' < wr.heap.size) := Lib.hid (by obtain ⟨l1, l2, l3, l4⟩ := Al0.out.sp.lt; exact ⟨l1, l2, l3, l4, Al0.out.x0.lt, Al0.out.x1.lt⟩)
            have HDL : Hid (data.length ≤ 65536) := Lib.hid (by omega)
            have HPA : Hid (∀ b' o', 0 < data.length → pa = some ⟨b', o', none⟩ → b' < w.heap.size) := Lib.hid fun b' o' h0 e => hd.old b' o' h0 e
            obtain ⟨w5, hw5, f5, q5⟩ : ∃ W', wr.alloc (.cells #[.int .i64 what, .int .i64 fr, .slice pa data.length pc, .int .i64 n, .int .i64 er] 73) = W' ∧ Fr [] wr W' ∧ W'.heap[wr.heap.size]? = some (.cells #[.int .i64 what, .int .i64 fr, .slice pa data.length pc, .int .i64 n, .int .i64 er] 73 (0, 0)) := ⟨_, rfl, (Fr.refl _ _).alloc _, newA rfl⟩
            have Al5 := Lib.hid (Al0.out.keep0 f5)
            have HSL := Lib.hid (sl_keep hd.sl f5 (by simp))
            have HG5 := Lib.hid (gr.then0 f5)
            have HA5 := Lib.hid (ar.keep f5 gr.size (by simp))
            have HQ5 := Lib.hid q5
            have e0 : w5.cell? ⟨wr.heap.size, 0, none⟩ = some (.int .i64 what) := cell_of q5
            have e1 : w5.cell? ⟨wr.heap.size, 1, none⟩ = some (.int .i64 fr) := cell_of q5
            have e2 : w5.cell? ⟨wr.heap.size, 2, none⟩ = some (.slice pa data.length pc) := cell_of q5
            have e3 : w5.cell? ⟨wr.heap.size, 3, none⟩ = some (.int .i64 n) := cell_of q5
            have e4 : w5.cell? ⟨wr.heap.size, 4, none⟩ = some (.int .i64 er) := cell_of q5
            have HSD := Lib.hid (rs_side w5 fr)
            have HIK : Hid ((((k + 1 : Nat) : Int)) * 5000 = (k : Int) * 5000 + 5000) := Lib.hid (by omega)
            have hz5 := lt_of_heap q5
            clear f5 q5 hd gr ar Al0
            go_wp2_with fail
            refine HSD.out.mono ?_
            rintro e w' ⟨rfl, rfl⟩
            clear HSD i0 i1 i2 i3 i4
            rcases (show (fr = 0 ∨ fr = 1) ∨ ((fr == 0) = false ∧ (fr == 1) = false) from by by_cases h0 : fr = 0; exact .inl (.inl h0); by_cases h1 : fr = 1; exact .inl (.inr h1); exact .inr ⟨by simpa using h0, by simpa using h1⟩) with h01f | ⟨n0, n1⟩
            · have ex : ((fr == 0) || (fr == 1)) = true := by rcases h01f with rfl | rfl <;> decide
              go_upto_block 4 with fail
              go_cut [] (fun wx => ∃ s2 : SS, Hid (s2.t0.rd ≤ (((k + 1 : Nat) : Int)) * 5000 ∧ s2.t1.rd ≤ (((k + 1 : Nat) : Int)) * 5000) ∧ Hid (Al22 wx Z b W b0 b1 c0' c1' B s2) ∧ Hid (Fr [] w wx) ∧ Hid (Acts22 wx w.heap.size (some ⟨ab, ao, none⟩) A.length cap A))
              case first =>
                rcases h01f with rfl | rfl
                · rcases Bool.eq_false_or_eq_true (what == 0) with q0 | q0
                  · obtain rfl : what = 0 := by simpa using q0
                    as_aux_lemma =>
                      have hne : ((gotE s.t0 data er) != (gotE s.t0 data er)) = false := by simp
                      have HFA := Lib.hid fun (w' : World) (f : Fr [b, W, b0, b1, c0'] w5 w') => (show w'.cell? ⟨wr.heap.size, 0, none⟩ = some (.int .i64 0) ∧ w'.cell? ⟨wr.heap.size, 1, none⟩ = some (.int .i64 0) ∧ w'.cell? ⟨wr.heap.size, 2, none⟩ = some (.slice pa data.length pc) ∧ w'.cell? ⟨wr.heap.size, 3, none⟩ = some (.int .i64 n) ∧ w'.cell? ⟨wr.heap.size, 4, none⟩ = some (.int .i64 er) ∧ w'.cell? ⟨B, 0, none⟩ = some (.pointer (some ⟨c0', 0, none⟩)) ∧ w'.cell? ⟨B, 1, none⟩ = some (.pointer (some ⟨c1', 0, none⟩)) from (let q' := f.keep HQ5.out (by have := Al5.out.d; have := HLT.out; simp; omega); let t' := f.keep Al5.out.t (by have := Al5.out.d; simp; omega); ⟨cell_of q', cell_of q', cell_of q', cell_of q', cell_of q', cell_of t', cell_of t'⟩))
                      have HE1 := Lib.hid (Go.Proofs.enters_of Try.func33 (by kernel_rfl) rfl)
                      have HE2 := Lib.hid (Go.Proofs.enters_of Try.func18 (by kernel_rfl) rfl)
                      have fd0 : Fr [b, W, b0, b1, c0'] w5 w5.drew := (Fr.refl _ _).drew
                      have HS5D := Lib.hid (Al5.out.sp.keep0 ((Fr.refl [] w5).drew))
                      go_wp2_with fail
                      refine wp_region_tree (.take 0 (.take 1 (.take 2 (.take 3 (.take 4 (.take 5 (.take 6 (.take 8 (.take 9 (.take 10 (.take 11 (.take 12 (.take 13 (.take 14 (.take 15 (.one 7 (.one 16 (.take 17 .nil)))))))))))))))))) (fun w' => Fr [b, W, b0, b1, c0'] w5 w') (by kernel_rfl) (by kernel_rfl) fd0 ?_
                      intro OPS HOPS
                      have hops := HOPS.out
                      try simp only [List.append_eq, List.cons_append, List.nil_append] at hops
                      replace HOPS := Lib.hid hops
                      clear hops
                      refine walkT_take (o := _) (v := ?_) (by rw [HOPS.out]; simp only [List.getElem?_toArray, List.getElem?_cons_succ, List.getElem?_cons_zero]; exact rfl) (Or.inl ⟨rfl, ?_⟩) ?_
                      rotate_left
                      · (intro w hSw; have hSx := HFA.out _ hSw; (try dsimp only at hSx); clear hSw; go_simp) <;> (with_reducible rfl)
                      simp only [Act.put, List.setIfInBounds_toArray, List.set_cons_zero, List.set_cons_succ]
                      refine walkT_take (o := _) (v := ?_) (by rw [HOPS.out]; simp only [List.getElem?_toArray, List.getElem?_cons_succ, List.getElem?_cons_zero]; exact rfl) (Or.inl ⟨rfl, ?_⟩) ?_
                      rotate_left
                      · (intro w hSw; have hSx := HFA.out _ hSw; (try dsimp only at hSx); clear hSw; go_simp) <;> (with_reducible rfl)
                      simp only [Act.put, List.setIfInBounds_toArray, List.set_cons_zero, List.set_cons_succ]
                      refine walkT_take (o := _) (v := ?_) (by rw [HOPS.out]; simp only [List.getElem?_toArray, List.getElem?_cons_succ, List.getElem?_cons_zero]; exact rfl) (Or.inl ⟨rfl, ?_⟩) ?_
                      rotate_left
                      · (intro w hSw; have hSx := HFA.out _ hSw; (try dsimp only at hSx); clear hSw; go_simp) <;> (with_reducible rfl)
                      simp only [Act.put, List.setIfInBounds_toArray, List.set_cons_zero, List.set_cons_succ]
                      refine walkT_take (o := _) (v := ?_) (by rw [HOPS.out]; simp only [List.getElem?_toArray, List.getElem?_cons_succ, List.getElem?_cons_zero]; exact rfl) (Or.inl ⟨rfl, ?_⟩) ?_
                      rotate_left
                      · (intro w hSw; have hSx := HFA.out _ hSw; (try dsimp only at hSx); clear hSw; go_simp) <;> (with_reducible rfl)
                      simp only [Act.put, List.setIfInBounds_toArray, List.set_cons_zero, List.set_cons_succ]
                      refine walkT_take (o := _) (v := ?_) (by rw [HOPS.out]; simp only [List.getElem?_toArray, List.getElem?_cons_succ, List.getElem?_cons_zero]; exact rfl) (Or.inl ⟨rfl, ?_⟩) ?_
                      rotate_left
                      · (intro w hSw; have hSx := HFA.out _ hSw; (try dsimp only at hSx); clear hSw; go_simp) <;> (with_reducible rfl)
                      simp only [Act.put, List.setIfInBounds_toArray, List.set_cons_zero, List.set_cons_succ]
                      refine walkT_take (o := _) (v := ?_) (by rw [HOPS.out]; simp only [List.getElem?_toArray, List.getElem?_cons_succ, List.getElem?_cons_zero]; exact rfl) (Or.inl ⟨rfl, ?_⟩) ?_
                      rotate_left
                      · (intro w hSw; have hSx := HFA.out _ hSw; (try dsimp only at hSx); clear hSw; go_simp) <;> (with_reducible rfl)
                      simp only [Act.put, List.setIfInBounds_toArray, List.set_cons_zero, List.set_cons_succ]
                      refine walkT_take (o := _) (v := ?_) (by rw [HOPS.out]; simp only [List.getElem?_toArray, List.getElem?_cons_succ, List.getElem?_cons_zero]; exact rfl) (Or.inl ⟨rfl, ?_⟩) ?_
                      rotate_left
                      · (intro w hSw; have hSx := HFA.out _ hSw; (try dsimp only at hSx); clear hSw; go_simp) <;> (with_reducible rfl)
                      simp only [Act.put, List.setIfInBounds_toArray, List.set_cons_zero, List.set_cons_succ]
                      refine walkT_take (o := _) (v := ?_) (by rw [HOPS.out]; simp only [List.getElem?_toArray, List.getElem?_cons_succ, List.getElem?_cons_zero]; exact rfl) (Or.inl ⟨rfl, ?_⟩) ?_
                      rotate_left
                      · (intro w hSw; have hSx := HFA.out _ hSw; (try dsimp only at hSx); clear hSw; go_simp) <;> (with_reducible rfl)
                      simp only [Act.put, List.setIfInBounds_toArray, List.set_cons_zero, List.set_cons_succ]
                      refine walkT_take (o := _) (v := ?_) (by rw [HOPS.out]; simp only [List.getElem?_toArray, List.getElem?_cons_succ, List.getElem?_cons_zero]; exact rfl) (Or.inl ⟨rfl, ?_⟩) ?_
                      rotate_left
                      · (intro w hSw; have hSx := HFA.out _ hSw; (try dsimp only at hSx); clear hSw; go_simp) <;> (with_reducible rfl)
                      simp only [Act.put, List.setIfInBounds_toArray, List.set_cons_zero, List.set_cons_succ]
                      refine walkT_take (o := _) (v := ?_) (by rw [HOPS.out]; simp only [List.getElem?_toArray, List.getElem?_cons_succ, List.getElem?_cons_zero]; exact rfl) (Or.inl ⟨rfl, ?_⟩) ?_
                      rotate_left
                      · (intro w hSw; have hSx := HFA.out _ hSw; (try dsimp only at hSx); clear hSw; go_simp) <;> (with_reducible rfl)
                      simp only [Act.put, List.setIfInBounds_toArray, List.set_cons_zero, List.set_cons_succ]
                      refine walkT_take (o := _) (v := ?_) (by rw [HOPS.out]; simp only [List.getElem?_toArray, List.getElem?_cons_succ, List.getElem?_cons_zero]; exact rfl) (Or.inl ⟨rfl, ?_⟩) ?_
                      rotate_left
                      · (intro w hSw; have hSx := HFA.out _ hSw; (try dsimp only at hSx); clear hSw; go_simp) <;> (with_reducible rfl)
                      simp only [Act.put, List.setIfInBounds_toArray, List.set_cons_zero, List.set_cons_succ]
                      refine walkT_take (o := _) (v := ?_) (by rw [HOPS.out]; simp only [List.getElem?_toArray, List.getElem?_cons_succ, List.getElem?_cons_zero]; exact rfl) (Or.inl ⟨rfl, ?_⟩) ?_
                      rotate_left
                      · (intro w hSw; have hSx := HFA.out _ hSw; (try dsimp only at hSx); clear hSw; go_simp) <;> (with_reducible rfl)
                      simp only [Act.put, List.setIfInBounds_toArray, List.set_cons_zero, List.set_cons_succ]
                      refine walkT_take (o := _) (v := ?_) (by rw [HOPS.out]; simp only [List.getElem?_toArray, List.getElem?_cons_succ, List.getElem?_cons_zero]; exact rfl) (Or.inl ⟨rfl, ?_⟩) ?_
                      rotate_left
                      · (intro w hSw; have hSx := HFA.out _ hSw; (try dsimp only at hSx); clear hSw; go_simp) <;> (with_reducible rfl)
                      simp only [Act.put, List.setIfInBounds_toArray, List.set_cons_zero, List.set_cons_succ]
                      refine walkT_take (o := _) (v := ?_) (by rw [HOPS.out]; simp only [List.getElem?_toArray, List.getElem?_cons_succ, List.getElem?_cons_zero]; exact rfl) (Or.inl ⟨rfl, ?_⟩) ?_
                      rotate_left
                      · (intro w hSw; have hSx := HFA.out _ hSw; (try dsimp only at hSx); clear hSw; go_simp) <;> (with_reducible rfl)
                      simp only [Act.put, List.setIfInBounds_toArray, List.set_cons_zero, List.set_cons_succ]
                      refine walkT_take (o := _) (v := ?_) (by rw [HOPS.out]; simp only [List.getElem?_toArray, List.getElem?_cons_succ, List.getElem?_cons_zero]; exact rfl) (Or.inl ⟨rfl, ?_⟩) ?_
                      rotate_left
                      · (intro w hSw; have hSx := HFA.out _ hSw; (try dsimp only at hSx); clear hSw; go_simp) <;> (with_reducible rfl)
                      simp only [Act.put, List.setIfInBounds_toArray, List.set_cons_zero, List.set_cons_succ]
                      refine walkT_call (o := _) (by rw [HOPS.out]; simp only [List.getElem?_toArray, List.getElem?_cons_succ, List.getElem?_cons_zero]; exact rfl) (fun K HK => ?_)
                      refine step_call rfl 33 #[(.tmp 74), (.tmp 76), (.tmp 78), (.tmp 80)] #[68, 3, 22, 23] rfl HE1.out #[.pointer (some ⟨b, 0, none⟩), .int .i64 0, .slice pa data.length pc, .int .i64 er] (by simp [Act.eval]) (sp_got0 (pc := pc) HS5D.out (by have := HI.out; omega) (sl_keep HSL.out ((Fr.refl [] w5).drew) (by simp)) HDL.out er) ?_
                      rintro e w6 ⟨rfl, f6, h6⟩
                      have fw6 : Fr [b, W, b0, b1, c0'] w5 w6 := fd0.trans f6 (fun _ h => .inl h) (fun x hx => .inl (by simp at hx ⊢; omega))
                      have HX6 := (Al5.out.x0.keep0 ((Fr.refl [] w5).drew)).keep f6 (by have := Al5.out.d; simp; omega) (fun x hx hn => by have := Al5.out.d; simp at hx; omega)
                      have HSL6 := sl_keep (sl_keep HSL.out ((Fr.refl [] w5).drew) (by simp)) f6 (fun h0 b' o' e hm => by rw [bi_length] at h0; have := HPA.out b' o' h0 e; simp at hm; omega)
                      refine ⟨_, rfl, ?_⟩
                      refine HK.out (fun w' => Fr [b, W, b0, b1, c0'] w5 w') _ _ (fun _ h => h) (fw6) ?_
                      clear HK K
                      simp only [Act.put, List.setIfInBounds_toArray, List.set_cons_zero, List.set_cons_succ]
                      refine walkT_call (o := _) (by rw [HOPS.out]; simp only [List.getElem?_toArray, List.getElem?_cons_succ, List.getElem?_cons_zero]; exact rfl) (fun K HK => ?_)
                      refine step_call rfl 18 #[(.tmp 85), (.tmp 87), (.tmp 89)] #[27, 22, 23] rfl HE2.out #[.pointer (some ⟨c0', 0, none⟩), .slice pa data.length pc, .int .i64 er] (by simp [Act.eval]) (tr_got (pcap := pc) HX6 (by have := HI.out; omega) HSL6 rfl HDL.out er) ?_
                      rintro e w8 ⟨rfl, f7, h7⟩
                      have fw7 : Fr [b, W, b0, b1, c0'] w5 w8 := fw6.trans f7 (fun _ h => .inl h) (fun x hx => .inl (by simp at hx ⊢; omega))
                      refine ⟨_, rfl, ?_⟩
                      refine HK.out (fun w' => Fr [b, W, b0, b1, c0'] w5 w') _ _ (fun _ h => h) (fw7) ?_
                      clear HK K
                      simp only [Act.put, List.setIfInBounds_toArray, List.set_cons_zero, List.set_cons_succ]
                      refine walkT_take (o := _) (v := ?_) (by rw [HOPS.out]; simp only [List.getElem?_toArray, List.getElem?_cons_succ, List.getElem?_cons_zero]; exact rfl) (Or.inl ⟨rfl, ?_⟩) ?_
                      rotate_left
                      · (intro w hSw; have hSx := HFA.out _ hSw; (try dsimp only at hSx); clear hSw; go_simp) <;> (with_reducible rfl)
                      simp only [Act.put, List.setIfInBounds_toArray, List.set_cons_zero, List.set_cons_succ]
                      refine walkT_done ?_
                      clear HOPS OPS
                      have xo := ((Al5.out.x1.keep0 ((Fr.refl [] w5).drew)).keep f6 (by have := Al5.out.d; simp; omega) (fun x hx hn => by have := Al5.out.d; simp at hx; omega)).keep f7 (by have := Al5.out.d; simp; omega) (fun x hx hn => by have := Al5.out.d; simp at hx; omega)
                      have h6' := h6.keep f7 (fun x hx => by have := Al5.out.d; simp at hx; subst hx; exact ⟨by omega, by omega, by omega, by omega, by omega, by omega⟩)
                      have hAl : Al22 w8 Z b W b0 b1 c0' c1' B (gotS0 s data er) := ⟨h6', h7, xo, fw7.keep Al5.out.t (by have := Al5.out.d; simp; omega), Al5.out.d⟩
                      have hI2 : (gotS0 s data er).t0.rd ≤ (((k + 1 : Nat) : Int)) * 5000 ∧ (gotS0 s data er).t1.rd ≤ (((k + 1 : Nat) : Int)) * 5000 := by
                        have h1 := HI.out
                        have h2 := gotT_rd s.t0 data er
                        have h3 := HIK.out
                        exact ⟨by show (gotT s.t0 data er).rd ≤ _; omega, by show s.t1.rd ≤ _; omega⟩
                      generalize gotS0 s data er = s2 at hAl hI2
                      have Al := Lib.hid hAl
                      have HI2 := Lib.hid hI2
                      have g8 := Lib.hid (HG5.out.trans fw7 (U := []) (by simp) (fun x hx => .inr (by simp at hx; omega)))
                      have a8 := Lib.hid (HA5.out.keep fw7 HG5.out.size (fun x hx => by simp at hx; omega))
                      clear HFA HE1 HE2 fd0 HS5D f6 h6 fw6 HX6 f7 h7 fw7 xo h6' hAl hI2 HG5 HA5 HQ5 Al5 HSL HI HIK e0 e1 e2 e3 e4 HPA HDL HSL6
                      go_wp2_with fail
                      go_meet
                      exact ⟨s2, HI2, Al, g8, a8⟩
                  · rcases Bool.eq_false_or_eq_true (what == 1) with q1 | q1
                    · obtain rfl : what = 1 := by simpa using q1
                      as_aux_lemma =>
                        have hne : ((wroteE s.t0 n er) != (wroteE s.t0 n er)) = false := by simp
                        have HFA := Lib.hid fun (w' : World) (f : Fr [b, W, b0, b1, c0'] w5 w') => (show w'.cell? ⟨wr.heap.size, 0, none⟩ = some (.int .i64 1) ∧ w'.cell? ⟨wr.heap.size, 1, none⟩ = some (.int .i64 0) ∧ w'.cell? ⟨wr.heap.size, 2, none⟩ = some (.slice pa data.length pc) ∧ w'.cell? ⟨wr.heap.size, 3, none⟩ = some (.int .i64 n) ∧ w'.cell? ⟨wr.heap.size, 4, none⟩ = some (.int .i64 er) ∧ w'.cell? ⟨B, 0, none⟩ = some (.pointer (some ⟨c0', 0, none⟩)) ∧ w'.cell? ⟨B, 1, none⟩ = some (.pointer (some ⟨c1', 0, none⟩)) from (let q' := f.keep HQ5.out (by have := Al5.out.d; have := HLT.out; simp; omega); let t' := f.keep Al5.out.t (by have := Al5.out.d; simp; omega); ⟨cell_of q', cell_of q', cell_of q', cell_of q', cell_of q', cell_of t', cell_of t'⟩))
                        have HE1 := Lib.hid (Go.Proofs.enters_of Try.func34 (by kernel_rfl) rfl)
                        have HE2 := Lib.hid (Go.Proofs.enters_of Try.func19 (by kernel_rfl) rfl)
                        have fd0 : Fr [b, W, b0, b1, c0'] w5 w5.drew := (Fr.refl _ _).drew
                        have HS5D := Lib.hid (Al5.out.sp.keep0 ((Fr.refl [] w5).drew))
                        go_wp2_with fail
                        refine wp_region_tree (.take 0 (.take 1 (.take 2 (.take 3 (.take 4 (.take 5 (.take 6 (.take 8 (.take 9 (.take 10 (.take 11 (.take 12 (.take 13 (.take 14 (.take 15 (.one 7 (.one 16 (.take 17 .nil)))))))))))))))))) (fun w' => Fr [b, W, b0, b1, c0'] w5 w') (by kernel_rfl) (by kernel_rfl) fd0 ?_
                        intro OPS HOPS
                        have hops := HOPS.out
                        try simp only [List.append_eq, List.cons_append, List.nil_append] at hops
                        replace HOPS := Lib.hid hops
                        clear hops
                        refine walkT_take (o := _) (v := ?_) (by rw [HOPS.out]; simp only [List.getElem?_toArray, List.getElem?_cons_succ, List.getElem?_cons_zero]; exact rfl) (Or.inl ⟨rfl, ?_⟩) ?_
                        rotate_left
                        · (intro w hSw; have hSx := HFA.out _ hSw; (try dsimp only at hSx); clear hSw; go_simp) <;> (with_reducible rfl)
                        simp only [Act.put, List.setIfInBounds_toArray, List.set_cons_zero, List.set_cons_succ]
                        refine walkT_take (o := _) (v := ?_) (by rw [HOPS.out]; simp only [List.getElem?_toArray, List.getElem?_cons_succ, List.getElem?_cons_zero]; exact rfl) (Or.inl ⟨rfl, ?_⟩) ?_
                        rotate_left
                        · (intro w hSw; have hSx := HFA.out _ hSw; (try dsimp only at hSx); clear hSw; go_simp) <;> (with_reducible rfl)
                        simp only [Act.put, List.setIfInBounds_toArray, List.set_cons_zero, List.set_cons_succ]
                        refine walkT_take (o := _) (v := ?_) (by rw [HOPS.out]; simp only [List.getElem?_toArray, List.getElem?_cons_succ, List.getElem?_cons_zero]; exact rfl) (Or.inl ⟨rfl, ?_⟩) ?_
                        rotate_left
                        · (intro w hSw; have hSx := HFA.out _ hSw; (try dsimp only at hSx); clear hSw; go_simp) <;> (with_reducible rfl)
                        simp only [Act.put, List.setIfInBounds_toArray, List.set_cons_zero, List.set_cons_succ]
                        refine walkT_take (o := _) (v := ?_) (by rw [HOPS.out]; simp only [List.getElem?_toArray, List.getElem?_cons_succ, List.getElem?_cons_zero]; exact rfl) (Or.inl ⟨rfl, ?_⟩) ?_
                        rotate_left
                        · (intro w hSw; have hSx := HFA.out _ hSw; (try dsimp only at hSx); clear hSw; go_simp) <;> (with_reducible rfl)
                        simp only [Act.put, List.setIfInBounds_toArray, List.set_cons_zero, List.set_cons_succ]
                        refine walkT_take (o := _) (v := ?_) (by rw [HOPS.out]; simp only [List.getElem?_toArray, List.getElem?_cons_succ, List.getElem?_cons_zero]; exact rfl) (Or.inl ⟨rfl, ?_⟩) ?_
                        rotate_left
                        · (intro w hSw; have hSx := HFA.out _ hSw; (try dsimp only at hSx); clear hSw; go_simp) <;> (with_reducible rfl)
                        simp only [Act.put, List.setIfInBounds_toArray, List.set_cons_zero, List.set_cons_succ]
                        refine walkT_take (o := _) (v := ?_) (by rw [HOPS.out]; simp only [List.getElem?_toArray, List.getElem?_cons_succ, List.getElem?_cons_zero]; exact rfl) (Or.inl ⟨rfl, ?_⟩) ?_
                        rotate_left
                        · (intro w hSw; have hSx := HFA.out _ hSw; (try dsimp only at hSx); clear hSw; go_simp) <;> (with_reducible rfl)
                        simp only [Act.put, List.setIfInBounds_toArray, List.set_cons_zero, List.set_cons_succ]
                        refine walkT_take (o := _) (v := ?_) (by rw [HOPS.out]; simp only [List.getElem?_toArray, List.getElem?_cons_succ, List.getElem?_cons_zero]; exact rfl) (Or.inl ⟨rfl, ?_⟩) ?_
                        rotate_left
                        · (intro w hSw; have hSx := HFA.out _ hSw; (try dsimp only at hSx); clear hSw; go_simp) <;> (with_reducible rfl)
                        simp only [Act.put, List.setIfInBounds_toArray, List.set_cons_zero, List.set_cons_succ]
                        refine walkT_take (o := _) (v := ?_) (by rw [HOPS.out]; simp only [List.getElem?_toArray, List.getElem?_cons_succ, List.getElem?_cons_zero]; exact rfl) (Or.inl ⟨rfl, ?_⟩) ?_
                        rotate_left
                        · (intro w hSw; have hSx := HFA.out _ hSw; (try dsimp only at hSx); clear hSw; go_simp) <;> (with_reducible rfl)
                        simp only [Act.put, List.setIfInBounds_toArray, List.set_cons_zero, List.set_cons_succ]
                        refine walkT_take (o := _) (v := ?_) (by rw [HOPS.out]; simp only [List.getElem?_toArray, List.getElem?_cons_succ, List.getElem?_cons_zero]; exact rfl) (Or.inl ⟨rfl, ?_⟩) ?_
                        rotate_left
                        · (intro w hSw; have hSx := HFA.out _ hSw; (try dsimp only at hSx); clear hSw; go_simp) <;> (with_reducible rfl)
                        simp only [Act.put, List.setIfInBounds_toArray, List.set_cons_zero, List.set_cons_succ]
                        refine walkT_take (o := _) (v := ?_) (by rw [HOPS.out]; simp only [List.getElem?_toArray, List.getElem?_cons_succ, List.getElem?_cons_zero]; exact rfl) (Or.inl ⟨rfl, ?_⟩) ?_
                        rotate_left
                        · (intro w hSw; have hSx := HFA.out _ hSw; (try dsimp only at hSx); clear hSw; go_simp) <;> (with_reducible rfl)
                        simp only [Act.put, List.setIfInBounds_toArray, List.set_cons_zero, List.set_cons_succ]
                        refine walkT_take (o := _) (v := ?_) (by rw [HOPS.out]; simp only [List.getElem?_toArray, List.getElem?_cons_succ, List.getElem?_cons_zero]; exact rfl) (Or.inl ⟨rfl, ?_⟩) ?_
                        rotate_left
                        · (intro w hSw; have hSx := HFA.out _ hSw; (try dsimp only at hSx); clear hSw; go_simp) <;> (with_reducible rfl)
                        simp only [Act.put, List.setIfInBounds_toArray, List.set_cons_zero, List.set_cons_succ]
                        refine walkT_take (o := _) (v := ?_) (by rw [HOPS.out]; simp only [List.getElem?_toArray, List.getElem?_cons_succ, List.getElem?_cons_zero]; exact rfl) (Or.inl ⟨rfl, ?_⟩) ?_
                        rotate_left
                        · (intro w hSw; have hSx := HFA.out _ hSw; (try dsimp only at hSx); clear hSw; go_simp) <;> (with_reducible rfl)
                        simp only [Act.put, List.setIfInBounds_toArray, List.set_cons_zero, List.set_cons_succ]
                        refine walkT_take (o := _) (v := ?_) (by rw [HOPS.out]; simp only [List.getElem?_toArray, List.getElem?_cons_succ, List.getElem?_cons_zero]; exact rfl) (Or.inl ⟨rfl, ?_⟩) ?_
                        rotate_left
                        · (intro w hSw; have hSx := HFA.out _ hSw; (try dsimp only at hSx); clear hSw; go_simp) <;> (with_reducible rfl)
                        simp only [Act.put, List.setIfInBounds_toArray, List.set_cons_zero, List.set_cons_succ]
                        refine walkT_take (o := _) (v := ?_) (by rw [HOPS.out]; simp only [List.getElem?_toArray, List.getElem?_cons_succ, List.getElem?_cons_zero]; exact rfl) (Or.inl ⟨rfl, ?_⟩) ?_
                        rotate_left
                        · (intro w hSw; have hSx := HFA.out _ hSw; (try dsimp only at hSx); clear hSw; go_simp) <;> (with_reducible rfl)
                        simp only [Act.put, List.setIfInBounds_toArray, List.set_cons_zero, List.set_cons_succ]
                        refine walkT_take (o := _) (v := ?_) (by rw [HOPS.out]; simp only [List.getElem?_toArray, List.getElem?_cons_succ, List.getElem?_cons_zero]; exact rfl) (Or.inl ⟨rfl, ?_⟩) ?_
                        rotate_left
                        · (intro w hSw; have hSx := HFA.out _ hSw; (try dsimp only at hSx); clear hSw; go_simp) <;> (with_reducible rfl)
                        simp only [Act.put, List.setIfInBounds_toArray, List.set_cons_zero, List.set_cons_succ]
                        refine walkT_call (o := _) (by rw [HOPS.out]; simp only [List.getElem?_toArray, List.getElem?_cons_succ, List.getElem?_cons_zero]; exact rfl) (fun K HK => ?_)
                        refine step_call rfl 34 #[(.tmp 94), (.tmp 96), (.tmp 98), (.tmp 100)] #[68, 3, 3, 23] rfl HE1.out #[.pointer (some ⟨b, 0, none⟩), .int .i64 0, .int .i64 n, .int .i64 er] (by simp [Act.eval]) (sp_wrote0 HS5D.out (by have := HI.out; omega) n er) ?_
                        rintro e w6 ⟨rfl, f6, h6⟩
                        have fw6 : Fr [b, W, b0, b1, c0'] w5 w6 := fd0.trans f6 (fun _ h => .inl h) (fun x hx => .inl (by simp at hx ⊢; omega))
                        have HX6 := (Al5.out.x0.keep0 ((Fr.refl [] w5).drew)).keep f6 (by have := Al5.out.d; simp; omega) (fun x hx hn => by have := Al5.out.d; simp at hx; omega)
                        refine ⟨_, rfl, ?_⟩
                        refine HK.out (fun w' => Fr [b, W, b0, b1, c0'] w5 w') _ _ (fun _ h => h) (fw6) ?_
                        clear HK K
                        simp only [Act.put, List.setIfInBounds_toArray, List.set_cons_zero, List.set_cons_succ]
                        refine walkT_call (o := _) (by rw [HOPS.out]; simp only [List.getElem?_toArray, List.getElem?_cons_succ, List.getElem?_cons_zero]; exact rfl) (fun K HK => ?_)
                        refine step_call rfl 19 #[(.tmp 105), (.tmp 107), (.tmp 109)] #[27, 3, 23] rfl HE2.out #[.pointer (some ⟨c0', 0, none⟩), .int .i64 n, .int .i64 er] (by simp [Act.eval]) (tr_wrote HX6 (by have := HI.out; omega) n er) ?_
                        rintro e w8 ⟨rfl, f7, h7⟩
                        have fw7 : Fr [b, W, b0, b1, c0'] w5 w8 := fw6.trans f7 (fun _ h => .inl h) (fun x hx => .inl (by simp at hx ⊢; omega))
                        refine ⟨_, rfl, ?_⟩
                        refine HK.out (fun w' => Fr [b, W, b0, b1, c0'] w5 w') _ _ (fun _ h => h) (fw7) ?_
                        clear HK K
                        simp only [Act.put, List.setIfInBounds_toArray, List.set_cons_zero, List.set_cons_succ]
                        refine walkT_take (o := _) (v := ?_) (by rw [HOPS.out]; simp only [List.getElem?_toArray, List.getElem?_cons_succ, List.getElem?_cons_zero]; exact rfl) (Or.inl ⟨rfl, ?_⟩) ?_
                        rotate_left
                        · (intro w hSw; have hSx := HFA.out _ hSw; (try dsimp only at hSx); clear hSw; go_simp) <;> (with_reducible rfl)
                        simp only [Act.put, List.setIfInBounds_toArray, List.set_cons_zero, List.set_cons_succ]
                        refine walkT_done ?_
                        clear HOPS OPS
                        have xo := ((Al5.out.x1.keep0 ((Fr.refl [] w5).drew)).keep f6 (by have := Al5.out.d; simp; omega) (fun x hx hn => by have := Al5.out.d; simp at hx; omega)).keep f7 (by have := Al5.out.d; simp; omega) (fun x hx hn => by have := Al5.out.d; simp at hx; omega)
                        have h6' := h6.keep f7 (fun x hx => by have := Al5.out.d; simp at hx; subst hx; exact ⟨by omega, by omega, by omega, by omega, by omega, by omega⟩)
                        have hAl : Al22 w8 Z b W b0 b1 c0' c1' B (wroteS0 s n er) := ⟨h6', h7, xo, fw7.keep Al5.out.t (by have := Al5.out.d; simp; omega), Al5.out.d⟩
                        have hI2 : (wroteS0 s n er).t0.rd ≤ (((k + 1 : Nat) : Int)) * 5000 ∧ (wroteS0 s n er).t1.rd ≤ (((k + 1 : Nat) : Int)) * 5000 := by
                          have h1 := HI.out
                          have h2 := wroteT_rd s.t0 n er
                          have h3 := HIK.out
                          exact ⟨by show (wroteT s.t0 n er).rd ≤ _; omega, by show s.t1.rd ≤ _; omega⟩
                        generalize wroteS0 s n er = s2 at hAl hI2
                        have Al := Lib.hid hAl
                        have HI2 := Lib.hid hI2
                        have g8 := Lib.hid (HG5.out.trans fw7 (U := []) (by simp) (fun x hx => .inr (by simp at hx; omega)))
                        have a8 := Lib.hid (HA5.out.keep fw7 HG5.out.size (fun x hx => by simp at hx; omega))
                        clear HFA HE1 HE2 fd0 HS5D f6 h6 fw6 HX6 f7 h7 fw7 xo h6' hAl hI2 HG5 HA5 HQ5 Al5 HSL HI HIK e0 e1 e2 e3 e4 HPA HDL
                        go_wp2_with fail
                        go_meet
                        exact ⟨s2, HI2, Al, g8, a8⟩
                    · rcases Bool.eq_false_or_eq_true (what == 2) with q2 | q2
                      · obtain rfl : what = 2 := by simpa using q2
                        as_aux_lemma =>
                          have HCL := Lib.hid (sp_close0 Al5.out.sp (by have := HI.out; omega))
                          go_wp2_with fail
                          refine HCL.out.mono ?_
                          rintro e w8 ⟨rfl, f8, h8⟩
                          have hAl : Al22 w8 Z b W b0 b1 c0' c1' B (closeS0 s) := ⟨h8, Al5.out.x0.keep f8 (by have := Al5.out.d; simp; omega) (fun x hx hn => by have := Al5.out.d; simp at hx; omega), Al5.out.x1.keep f8 (by have := Al5.out.d; simp; omega) (fun x hx hn => by have := Al5.out.d; simp at hx; omega), f8.keep Al5.out.t (by have := Al5.out.d; simp; omega), Al5.out.d⟩
                          have hI2 : (closeS0 s).t0.rd ≤ (((k + 1 : Nat) : Int)) * 5000 ∧ (closeS0 s).t1.rd ≤ (((k + 1 : Nat) : Int)) * 5000 := by
                            have h1 := HI.out
                            have h3 := HIK.out
                            exact ⟨by show s.t0.rd ≤ _; omega, by show s.t1.rd ≤ _; omega⟩
                          generalize closeS0 s = s2 at hAl hI2
                          have Al := Lib.hid hAl
                          have HI2 := Lib.hid hI2
                          have g8 := Lib.hid (HG5.out.trans f8 (U := []) (by simp) (fun x hx => .inr (by simp at hx; omega)))
                          have a8 := Lib.hid (HA5.out.keep f8 HG5.out.size (fun x hx => by simp at hx; omega))
                          clear f8 h8 hAl hI2 HCL HG5 HA5 HQ5 Al5 HSL HI HIK e0 e1 e2 e3 e4 HPA HDL
                          go_wp2_with fail
                          go_meet
                          exact ⟨s2, HI2, Al, g8, a8⟩
                      · as_aux_lemma =>
                          have HI2 : Hid (s.t0.rd ≤ (((k + 1 : Nat) : Int)) * 5000 ∧ s.t1.rd ≤ (((k + 1 : Nat) : Int)) * 5000) := Lib.hid (by have h1 := HI.out; have h3 := HIK.out; exact ⟨by omega, by omega⟩)
                          go_wp2_with fail
                          go_meet
                          exact ⟨s, HI2, Al5, HG5, HA5⟩
                · rcases Bool.eq_false_or_eq_true (what == 0) with q0 | q0
                  · obtain rfl : what = 0 := by simpa using q0
                    as_aux_lemma =>
                      have hne : ((gotE s.t1 data er) != (gotE s.t1 data er)) = false := by simp
                      have HFA := Lib.hid fun (w' : World) (f : Fr [b, W, b0, b1, c1'] w5 w') => (show w'.cell? ⟨wr.heap.size, 0, none⟩ = some (.int .i64 0) ∧ w'.cell? ⟨wr.heap.size, 1, none⟩ = some (.int .i64 1) ∧ w'.cell? ⟨wr.heap.size, 2, none⟩ = some (.slice pa data.length pc) ∧ w'.cell? ⟨wr.heap.size, 3, none⟩ = some (.int .i64 n) ∧ w'.cell? ⟨wr.heap.size, 4, none⟩ = some (.int .i64 er) ∧ w'.cell? ⟨B, 0, none⟩ = some (.pointer (some ⟨c0', 0, none⟩)) ∧ w'.cell? ⟨B, 1, none⟩ = some (.pointer (some ⟨c1', 0, none⟩)) from (let q' := f.keep HQ5.out (by have := Al5.out.d; have := HLT.out; simp; omega); let t' := f.keep Al5.out.t (by have := Al5.out.d; simp; omega); ⟨cell_of q', cell_of q', cell_of q', cell_of q', cell_of q', cell_of t', cell_of t'⟩))
                      have HE1 := Lib.hid (Go.Proofs.enters_of Try.func33 (by kernel_rfl) rfl)
                      have HE2 := Lib.hid (Go.Proofs.enters_of Try.func18 (by kernel_rfl) rfl)
                      have fd0 : Fr [b, W, b0, b1, c1'] w5 w5.drew := (Fr.refl _ _).drew
                      have HS5D := Lib.hid (Al5.out.sp.keep0 ((Fr.refl [] w5).drew))
                      go_wp2_with fail
                      refine wp_region_tree (.take 0 (.take 1 (.take 2 (.take 3 (.take 4 (.take 5 (.take 6 (.take 8 (.take 9 (.take 10 (.take 11 (.take 12 (.take 13 (.take 14 (.take 15 (.one 7 (.one 16 (.take 17 .nil)))))))))))))))))) (fun w' => Fr [b, W, b0, b1, c1'] w5 w') (by kernel_rfl) (by kernel_rfl) fd0 ?_
                      intro OPS HOPS
                      have hops := HOPS.out
                      try simp only [List.append_eq, List.cons_append, List.nil_append] at hops
                      replace HOPS := Lib.hid hops
                      clear hops
                      refine walkT_take (o := _) (v := ?_) (by rw [HOPS.out]; simp only [List.getElem?_toArray, List.getElem?_cons_succ, List.getElem?_cons_zero]; exact rfl) (Or.inl ⟨rfl, ?_⟩) ?_
                      rotate_left
                      · (intro w hSw; have hSx := HFA.out _ hSw; (try dsimp only at hSx); clear hSw; go_simp) <;> (with_reducible rfl)
                      simp only [Act.put, List.setIfInBounds_toArray, List.set_cons_zero, List.set_cons_succ]
                      refine walkT_take (o := _) (v := ?_) (by rw [HOPS.out]; simp only [List.getElem?_toArray, List.getElem?_cons_succ, List.getElem?_cons_zero]; exact rfl) (Or.inl ⟨rfl, ?_⟩) ?_
                      rotate_left
                      · (intro w hSw; have hSx := HFA.out _ hSw; (try dsimp only at hSx); clear hSw; go_simp) <;> (with_reducible rfl)
                      simp only [Act.put, List.setIfInBounds_toArray, List.set_cons_zero, List.set_cons_succ]
                      refine walkT_take (o := _) (v := ?_) (by rw [HOPS.out]; simp only [List.getElem?_toArray, List.getElem?_cons_succ, List.getElem?_cons_zero]; exact rfl) (Or.inl ⟨rfl, ?_⟩) ?_
                      rotate_left
                      · (intro w hSw; have hSx := HFA.out _ hSw; (try dsimp only at hSx); clear hSw; go_simp) <;> (with_reducible rfl)
                      simp only [Act.put, List.setIfInBounds_toArray, List.set_cons_zero, List.set_cons_succ]
                      refine walkT_take (o := _) (v := ?_) (by rw [HOPS.out]; simp only [List.getElem?_toArray, List.getElem?_cons_succ, List.getElem?_cons_zero]; exact rfl) (Or.inl ⟨rfl, ?_⟩) ?_
                      rotate_left
                      · (intro w hSw; have hSx := HFA.out _ hSw; (try dsimp only at hSx); clear hSw; go_simp) <;> (with_reducible rfl)
                      simp only [Act.put, List.setIfInBounds_toArray, List.set_cons_zero, List.set_cons_succ]
                      refine walkT_take (o := _) (v := ?_) (by rw [HOPS.out]; simp only [List.getElem?_toArray, List.getElem?_cons_succ, List.getElem?_cons_zero]; exact rfl) (Or.inl ⟨rfl, ?_⟩) ?_
                      rotate_left
                      · (intro w hSw; have hSx := HFA.out _ hSw; (try dsimp only at hSx); clear hSw; go_simp) <;> (with_reducible rfl)
                      simp only [Act.put, List.setIfInBounds_toArray, List.set_cons_zero, List.set_cons_succ]
                      refine walkT_take (o := _) (v := ?_) (by rw [HOPS.out]; simp only [List.getElem?_toArray, List.getElem?_cons_succ, List.getElem?_cons_zero]; exact rfl) (Or.inl ⟨rfl, ?_⟩) ?_
                      rotate_left
                      · (intro w hSw; have hSx := HFA.out _ hSw; (try dsimp only at hSx); clear hSw; go_simp) <;> (with_reducible rfl)
                      simp only [Act.put, List.setIfInBounds_toArray, List.set_cons_zero, List.set_cons_succ]
                      refine walkT_take (o := _) (v := ?_) (by rw [HOPS.out]; simp only [List.getElem?_toArray, List.getElem?_cons_succ, List.getElem?_cons_zero]; exact rfl) (Or.inl ⟨rfl, ?_⟩) ?_
                      rotate_left
                      · (intro w hSw; have hSx := HFA.out _ hSw; (try dsimp only at hSx); clear hSw; go_simp) <;> (with_reducible rfl)
                      simp only [Act.put, List.setIfInBounds_toArray, List.set_cons_zero, List.set_cons_succ]
                      refine walkT_take (o := _) (v := ?_) (by rw [HOPS.out]; simp only [List.getElem?_toArray, List.getElem?_cons_succ, List.getElem?_cons_zero]; exact rfl) (Or.inl ⟨rfl, ?_⟩) ?_
                      rotate_left
                      · (intro w hSw; have hSx := HFA.out _ hSw; (try dsimp only at hSx); clear hSw; go_simp) <;> (with_reducible rfl)
                      simp only [Act.put, List.setIfInBounds_toArray, List.set_cons_zero, List.set_cons_succ]
                      refine walkT_take (o := _) (v := ?_) (by rw [HOPS.out]; simp only [List.getElem?_toArray, List.getElem?_cons_succ, List.getElem?_cons_zero]; exact rfl) (Or.inl ⟨rfl, ?_⟩) ?_
                      rotate_left
                      · (intro w hSw; have hSx := HFA.out _ hSw; (try dsimp only at hSx); clear hSw; go_simp) <;> (with_reducible rfl)
                      simp only [Act.put, List.setIfInBounds_toArray, List.set_cons_zero, List.set_cons_succ]
                      refine walkT_take (o := _) (v := ?_) (by rw [HOPS.out]; simp only [List.getElem?_toArray, List.getElem?_cons_succ, List.getElem?_cons_zero]; exact rfl) (Or.inl ⟨rfl, ?_⟩) ?_
                      rotate_left
                      · (intro w hSw; have hSx := HFA.out _ hSw; (try dsimp only at hSx); clear hSw; go_simp) <;> (with_reducible rfl)
                      simp only [Act.put, List.setIfInBounds_toArray, List.set_cons_zero, List.set_cons_succ]
                      refine walkT_take (o := _) (v := ?_) (by rw [HOPS.out]; simp only [List.getElem?_toArray, List.getElem?_cons_succ, List.getElem?_cons_zero]; exact rfl) (Or.inl ⟨rfl, ?_⟩) ?_
                      rotate_left
                      · (intro w hSw; have hSx := HFA.out _ hSw; (try dsimp only at hSx); clear hSw; go_simp) <;> (with_reducible rfl)
                      simp only [Act.put, List.setIfInBounds_toArray, List.set_cons_zero, List.set_cons_succ]
                      refine walkT_take (o := _) (v := ?_) (by rw [HOPS.out]; simp only [List.getElem?_toArray, List.getElem?_cons_succ, List.getElem?_cons_zero]; exact rfl) (Or.inl ⟨rfl, ?_⟩) ?_
                      rotate_left
                      · (intro w hSw; have hSx := HFA.out _ hSw; (try dsimp only at hSx); clear hSw; go_simp) <;> (with_reducible rfl)
                      simp only [Act.put, List.setIfInBounds_toArray, List.set_cons_zero, List.set_cons_succ]
                      refine walkT_take (o := _) (v := ?_) (by rw [HOPS.out]; simp only [List.getElem?_toArray, List.getElem?_cons_succ, List.getElem?_cons_zero]; exact rfl) (Or.inl ⟨rfl, ?_⟩) ?_
                      rotate_left
                      · (intro w hSw; have hSx := HFA.out _ hSw; (try dsimp only at hSx); clear hSw; go_simp) <;> (with_reducible rfl)
                      simp only [Act.put, List.setIfInBounds_toArray, List.set_cons_zero, List.set_cons_succ]
                      refine walkT_take (o := _) (v := ?_) (by rw [HOPS.out]; simp only [List.getElem?_toArray, List.getElem?_cons_succ, List.getElem?_cons_zero]; exact rfl) (Or.inl ⟨rfl, ?_⟩) ?_
                      rotate_left
                      · (intro w hSw; have hSx := HFA.out _ hSw; (try dsimp only at hSx); clear hSw; go_simp) <;> (with_reducible rfl)
                      simp only [Act.put, List.setIfInBounds_toArray, List.set_cons_zero, List.set_cons_succ]
                      refine walkT_take (o := _) (v := ?_) (by rw [HOPS.out]; simp only [List.getElem?_toArray, List.getElem?_cons_succ, List.getElem?_cons_zero]; exact rfl) (Or.inl ⟨rfl, ?_⟩) ?_
                      rotate_left
                      · (intro w hSw; have hSx := HFA.out _ hSw; (try dsimp only at hSx); clear hSw; go_simp) <;> (with_reducible rfl)
                      simp only [Act.put, List.setIfInBounds_toArray, List.set_cons_zero, List.set_cons_succ]
                      refine walkT_call (o := _) (by rw [HOPS.out]; simp only [List.getElem?_toArray, List.getElem?_cons_succ, List.getElem?_cons_zero]; exact rfl) (fun K HK => ?_)
                      refine step_call rfl 33 #[(.tmp 74), (.tmp 76), (.tmp 78), (.tmp 80)] #[68, 3, 22, 23] rfl HE1.out #[.pointer (some ⟨b, 0, none⟩), .int .i64 1, .slice pa data.length pc, .int .i64 er] (by simp [Act.eval]) (sp_got1 (pc := pc) HS5D.out (by have := HI.out; omega) (sl_keep HSL.out ((Fr.refl [] w5).drew) (by simp)) HDL.out er) ?_
                      rintro e w6 ⟨rfl, f6, h6⟩
                      have fw6 : Fr [b, W, b0, b1, c1'] w5 w6 := fd0.trans f6 (fun _ h => .inl h) (fun x hx => .inl (by simp at hx ⊢; omega))
                      have HX6 := (Al5.out.x1.keep0 ((Fr.refl [] w5).drew)).keep f6 (by have := Al5.out.d; simp; omega) (fun x hx hn => by have := Al5.out.d; simp at hx; omega)
                      have HSL6 := sl_keep (sl_keep HSL.out ((Fr.refl [] w5).drew) (by simp)) f6 (fun h0 b' o' e hm => by rw [bi_length] at h0; have := HPA.out b' o' h0 e; simp at hm; omega)
                      refine ⟨_, rfl, ?_⟩
                      refine HK.out (fun w' => Fr [b, W, b0, b1, c1'] w5 w') _ _ (fun _ h => h) (fw6) ?_
                      clear HK K
                      simp only [Act.put, List.setIfInBounds_toArray, List.set_cons_zero, List.set_cons_succ]
                      refine walkT_call (o := _) (by rw [HOPS.out]; simp only [List.getElem?_toArray, List.getElem?_cons_succ, List.getElem?_cons_zero]; exact rfl) (fun K HK => ?_)
                      refine step_call rfl 18 #[(.tmp 85), (.tmp 87), (.tmp 89)] #[27, 22, 23] rfl HE2.out #[.pointer (some ⟨c1', 0, none⟩), .slice pa data.length pc, .int .i64 er] (by simp [Act.eval]) (tr_got (pcap := pc) HX6 (by have := HI.out; omega) HSL6 rfl HDL.out er) ?_
                      rintro e w8 ⟨rfl, f7, h7⟩
                      have fw7 : Fr [b, W, b0, b1, c1'] w5 w8 := fw6.trans f7 (fun _ h => .inl h) (fun x hx => .inl (by simp at hx ⊢; omega))
                      refine ⟨_, rfl, ?_⟩
                      refine HK.out (fun w' => Fr [b, W, b0, b1, c1'] w5 w') _ _ (fun _ h => h) (fw7) ?_
                      clear HK K
                      simp only [Act.put, List.setIfInBounds_toArray, List.set_cons_zero, List.set_cons_succ]
                      refine walkT_take (o := _) (v := ?_) (by rw [HOPS.out]; simp only [List.getElem?_toArray, List.getElem?_cons_succ, List.getElem?_cons_zero]; exact rfl) (Or.inl ⟨rfl, ?_⟩) ?_
                      rotate_left
                      · (intro w hSw; have hSx := HFA.out _ hSw; (try dsimp only at hSx); clear hSw; go_simp) <;> (with_reducible rfl)
                      simp only [Act.put, List.setIfInBounds_toArray, List.set_cons_zero, List.set_cons_succ]
                      refine walkT_done ?_
                      clear HOPS OPS
                      have xo := ((Al5.out.x0.keep0 ((Fr.refl [] w5).drew)).keep f6 (by have := Al5.out.d; simp; omega) (fun x hx hn => by have := Al5.out.d; simp at hx; omega)).keep f7 (by have := Al5.out.d; simp; omega) (fun x hx hn => by have := Al5.out.d; simp at hx; omega)
                      have h6' := h6.keep f7 (fun x hx => by have := Al5.out.d; simp at hx; subst hx; exact ⟨by omega, by omega, by omega, by omega, by omega, by omega⟩)
                      have hAl : Al22 w8 Z b W b0 b1 c0' c1' B (gotS1 s data er) := ⟨h6', xo, h7, fw7.keep Al5.out.t (by have := Al5.out.d; simp; omega), Al5.out.d⟩
                      have hI2 : (gotS1 s data er).t0.rd ≤ (((k + 1 : Nat) : Int)) * 5000 ∧ (gotS1 s data er).t1.rd ≤ (((k + 1 : Nat) : Int)) * 5000 := by
                        have h1 := HI.out
                        have h2 := gotT_rd s.t1 data er
                        have h3 := HIK.out
                        exact ⟨by show s.t0.rd ≤ _; omega, by show (gotT s.t1 data er).rd ≤ _; omega⟩
                      generalize gotS1 s data er = s2 at hAl hI2
                      have Al := Lib.hid hAl
                      have HI2 := Lib.hid hI2
                      have g8 := Lib.hid (HG5.out.trans fw7 (U := []) (by simp) (fun x hx => .inr (by simp at hx; omega)))
                      have a8 := Lib.hid (HA5.out.keep fw7 HG5.out.size (fun x hx => by simp at hx; omega))
                      clear HFA HE1 HE2 fd0 HS5D f6 h6 fw6 HX6 f7 h7 fw7 xo h6' hAl hI2 HG5 HA5 HQ5 Al5 HSL HI HIK e0 e1 e2 e3 e4 HPA HDL HSL6
                      go_wp2_with fail
                      go_meet
                      exact ⟨s2, HI2, Al, g8, a8⟩
                  · rcases Bool.eq_false_or_eq_true (what == 1) with q1 | q1
                    · obtain rfl : what = 1 := by simpa using q1
                      as_aux_lemma =>
                        have hne : ((wroteE s.t1 n er) != (wroteE s.t1 n er)) = false := by simp
                        have HFA := Lib.hid fun (w' : World) (f : Fr [b, W, b0, b1, c1'] w5 w') => (show w'.cell? ⟨wr.heap.size, 0, none⟩ = some (.int .i64 1) ∧ w'.cell? ⟨wr.heap.size, 1, none⟩ = some (.int .i64 1) ∧ w'.cell? ⟨wr.heap.size, 2, none⟩ = some (.slice pa data.length pc) ∧ w'.cell? ⟨wr.heap.size, 3, none⟩ = some (.int .i64 n) ∧ w'.cell? ⟨wr.heap.size, 4, none⟩ = some (.int .i64 er) ∧ w'.cell? ⟨B, 0, none⟩ = some (.pointer (some ⟨c0', 0, none⟩)) ∧ w'.cell? ⟨B, 1, none⟩ = some (.pointer (some ⟨c1', 0, none⟩)) from (let q' := f.keep HQ5.out (by have := Al5.out.d; have := HLT.out; simp; omega); let t' := f.keep Al5.out.t (by have := Al5.out.d; simp; omega); ⟨cell_of q', cell_of q', cell_of q', cell_of q', cell_of q', cell_of t', cell_of t'⟩))
                        have HE1 := Lib.hid (Go.Proofs.enters_of Try.func34 (by kernel_rfl) rfl)
                        have HE2 := Lib.hid (Go.Proofs.enters_of Try.func19 (by kernel_rfl) rfl)
                        have fd0 : Fr [b, W, b0, b1, c1'] w5 w5.drew := (Fr.refl _ _).drew
                        have HS5D := Lib.hid (Al5.out.sp.keep0 ((Fr.refl [] w5).drew))
                        go_wp2_with fail
                        refine wp_region_tree (.take 0 (.take 1 (.take 2 (.take 3 (.take 4 (.take 5 (.take 6 (.take 8 (.take 9 (.take 10 (.take 11 (.take 12 (.take 13 (.take 14 (.take 15 (.one 7 (.one 16 (.take 17 .nil)))))))))))))))))) (fun w' => Fr [b, W, b0, b1, c1'] w5 w') (by kernel_rfl) (by kernel_rfl) fd0 ?_
                        intro OPS HOPS
                        have hops := HOPS.out
                        try simp only [List.append_eq, List.cons_append, List.nil_append] at hops
                        replace HOPS := Lib.hid hops
                        clear hops
                        refine walkT_take (o := _) (v := ?_) (by rw [HOPS.out]; simp only [List.getElem?_toArray, List.getElem?_cons_succ, List.getElem?_cons_zero]; exact rfl) (Or.inl ⟨rfl, ?_⟩) ?_
                        rotate_left
                        · (intro w hSw; have hSx := HFA.out _ hSw; (try dsimp only at hSx); clear hSw; go_simp) <;> (with_reducible rfl)
                        simp only [Act.put, List.setIfInBounds_toArray, List.set_cons_zero, List.set_cons_succ]
                        refine walkT_take (o := _) (v := ?_) (by rw [HOPS.out]; simp only [List.getElem?_toArray, List.getElem?_cons_succ, List.getElem?_cons_zero]; exact rfl) (Or.inl ⟨rfl, ?_⟩) ?_
                        rotate_left
                        · (intro w hSw; have hSx := HFA.out _ hSw; (try dsimp only at hSx); clear hSw; go_simp) <;> (with_reducible rfl)
                        simp only [Act.put, List.setIfInBounds_toArray, List.set_cons_zero, List.set_cons_succ]
                        refine walkT_take (o := _) (v := ?_) (by rw [HOPS.out]; simp only [List.getElem?_toArray, List.getElem?_cons_succ, List.getElem?_cons_zero]; exact rfl) (Or.inl ⟨rfl, ?_⟩) ?_
                        rotate_left
                        · (intro w hSw; have hSx := HFA.out _ hSw; (try dsimp only at hSx); clear hSw; go_simp) <;> (with_reducible rfl)
                        simp only [Act.put, List.setIfInBounds_toArray, List.set_cons_zero, List.set_cons_succ]
                        refine walkT_take (o := _) (v := ?_) (by rw [HOPS.out]; simp only [List.getElem?_toArray, List.getElem?_cons_succ, List.getElem?_cons_zero]; exact rfl) (Or.inl ⟨rfl, ?_⟩) ?_
                        rotate_left
                        · (intro w hSw; have hSx := HFA.out _ hSw; (try dsimp only at hSx); clear hSw; go_simp) <;> (with_reducible rfl)
                        simp only [Act.put, List.setIfInBounds_toArray, List.set_cons_zero, List.set_cons_succ]
                        refine walkT_take (o := _) (v := ?_) (by rw [HOPS.out]; simp only [List.getElem?_toArray, List.getElem?_cons_succ, List.getElem?_cons_zero]; exact rfl) (Or.inl ⟨rfl, ?_⟩) ?_
                        rotate_left
                        · (intro w hSw; have hSx := HFA.out _ hSw; (try dsimp only at hSx); clear hSw; go_simp) <;> (with_reducible rfl)
                        simp only [Act.put, List.setIfInBounds_toArray, List.set_cons_zero, List.set_cons_succ]
                        refine walkT_take (o := _) (v := ?_) (by rw [HOPS.out]; simp only [List.getElem?_toArray, List.getElem?_cons_succ, List.getElem?_cons_zero]; exact rfl) (Or.inl ⟨rfl, ?_⟩) ?_
                        rotate_left
                        · (intro w hSw; have hSx := HFA.out _ hSw; (try dsimp only at hSx); clear hSw; go_simp) <;> (with_reducible rfl)
                        simp only [Act.put, List.setIfInBounds_toArray, List.set_cons_zero, List.set_cons_succ]
                        refine walkT_take (o := _) (v := ?_) (by rw [HOPS.out]; simp only [List.getElem?_toArray, List.getElem?_cons_succ, List.getElem?_cons_zero]; exact rfl) (Or.inl ⟨rfl, ?_⟩) ?_
                        rotate_left
                        · (intro w hSw; have hSx := HFA.out _ hSw; (try dsimp only at hSx); clear hSw; go_simp) <;> (with_reducible rfl)
                        simp only [Act.put, List.setIfInBounds_toArray, List.set_cons_zero, List.set_cons_succ]
                        refine walkT_take (o := _) (v := ?_) (by rw [HOPS.out]; simp only [List.getElem?_toArray, List.getElem?_cons_succ, List.getElem?_cons_zero]; exact rfl) (Or.inl ⟨rfl, ?_⟩) ?_
                        rotate_left
                        · (intro w hSw; have hSx := HFA.out _ hSw; (try dsimp only at hSx); clear hSw; go_simp) <;> (with_reducible rfl)
                        simp only [Act.put, List.setIfInBounds_toArray, List.set_cons_zero, List.set_cons_succ]
                        refine walkT_take (o := _) (v := ?_) (by rw [HOPS.out]; simp only [List.getElem?_toArray, List.getElem?_cons_succ, List.getElem?_cons_zero]; exact rfl) (Or.inl ⟨rfl, ?_⟩) ?_
                        rotate_left
                        · (intro w hSw; have hSx := HFA.out _ hSw; (try dsimp only at hSx); clear hSw; go_simp) <;> (with_reducible rfl)
                        simp only [Act.put, List.setIfInBounds_toArray, List.set_cons_zero, List.set_cons_succ]
                        refine walkT_take (o := _) (v := ?_) (by rw [HOPS.out]; simp only [List.getElem?_toArray, List.getElem?_cons_succ, List.getElem?_cons_zero]; exact rfl) (Or.inl ⟨rfl, ?_⟩) ?_
                        rotate_left
                        · (intro w hSw; have hSx := HFA.out _ hSw; (try dsimp only at hSx); clear hSw; go_simp) <;> (with_reducible rfl)
                        simp only [Act.put, List.setIfInBounds_toArray, List.set_cons_zero, List.set_cons_succ]
                        refine walkT_take (o := _) (v := ?_) (by rw [HOPS.out]; simp only [List.getElem?_toArray, List.getElem?_cons_succ, List.getElem?_cons_zero]; exact rfl) (Or.inl ⟨rfl, ?_⟩) ?_
                        rotate_left
                        · (intro w hSw; have hSx := HFA.out _ hSw; (try dsimp only at hSx); clear hSw; go_simp) <;> (with_reducible rfl)
                        simp only [Act.put, List.setIfInBounds_toArray, List.set_cons_zero, List.set_cons_succ]
                        refine walkT_take (o := _) (v := ?_) (by rw [HOPS.out]; simp only [List.getElem?_toArray, List.getElem?_cons_succ, List.getElem?_cons_zero]; exact rfl) (Or.inl ⟨rfl, ?_⟩) ?_
                        rotate_left
                        · (intro w hSw; have hSx := HFA.out _ hSw; (try dsimp only at hSx); clear hSw; go_simp) <;> (with_reducible rfl)
                        simp only [Act.put, List.setIfInBounds_toArray, List.set_cons_zero, List.set_cons_succ]
                        refine walkT_take (o := _) (v := ?_) (by rw [HOPS.out]; simp only [List.getElem?_toArray, List.getElem?_cons_succ, List.getElem?_cons_zero]; exact rfl) (Or.inl ⟨rfl, ?_⟩) ?_
                        rotate_left
                        · (intro w hSw; have hSx := HFA.out _ hSw; (try dsimp only at hSx); clear hSw; go_simp) <;> (with_reducible rfl)
                        simp only [Act.put, List.setIfInBounds_toArray, List.set_cons_zero, List.set_cons_succ]
                        refine walkT_take (o := _) (v := ?_) (by rw [HOPS.out]; simp only [List.getElem?_toArray, List.getElem?_cons_succ, List.getElem?_cons_zero]; exact rfl) (Or.inl ⟨rfl, ?_⟩) ?_
                        rotate_left
                        · (intro w hSw; have hSx := HFA.out _ hSw; (try dsimp only at hSx); clear hSw; go_simp) <;> (with_reducible rfl)
                        simp only [Act.put, List.setIfInBounds_toArray, List.set_cons_zero, List.set_cons_succ]
                        refine walkT_take (o := _) (v := ?_) (by rw [HOPS.out]; simp only [List.getElem?_toArray, List.getElem?_cons_succ, List.getElem?_cons_zero]; exact rfl) (Or.inl ⟨rfl, ?_⟩) ?_
                        rotate_left
                        · (intro w hSw; have hSx := HFA.out _ hSw; (try dsimp only at hSx); clear hSw; go_simp) <;> (with_reducible rfl)
                        simp only [Act.put, List.setIfInBounds_toArray, List.set_cons_zero, List.set_cons_succ]
                        refine walkT_call (o := _) (by rw [HOPS.out]; simp only [List.getElem?_toArray, List.getElem?_cons_succ, List.getElem?_cons_zero]; exact rfl) (fun K HK => ?_)
                        refine step_call rfl 34 #[(.tmp 94), (.tmp 96), (.tmp 98), (.tmp 100)] #[68, 3, 3, 23] rfl HE1.out #[.pointer (some ⟨b, 0, none⟩), .int .i64 1, .int .i64 n, .int .i64 er] (by simp [Act.eval]) (sp_wrote1 HS5D.out (by have := HI.out; omega) n er) ?_
                        rintro e w6 ⟨rfl, f6, h6⟩
                        have fw6 : Fr [b, W, b0, b1, c1'] w5 w6 := fd0.trans f6 (fun _ h => .inl h) (fun x hx => .inl (by simp at hx ⊢; omega))
                        have HX6 := (Al5.out.x1.keep0 ((Fr.refl [] w5).drew)).keep f6 (by have := Al5.out.d; simp; omega) (fun x hx hn => by have := Al5.out.d; simp at hx; omega)
                        refine ⟨_, rfl, ?_⟩
                        refine HK.out (fun w' => Fr [b, W, b0, b1, c1'] w5 w') _ _ (fun _ h => h) (fw6) ?_
                        clear HK K
                        simp only [Act.put, List.setIfInBounds_toArray, List.set_cons_zero, List.set_cons_succ]
                        refine walkT_call (o := _) (by rw [HOPS.out]; simp only [List.getElem?_toArray, List.getElem?_cons_succ, List.getElem?_cons_zero]; exact rfl) (fun K HK => ?_)
                        refine step_call rfl 19 #[(.tmp 105), (.tmp 107), (.tmp 109)] #[27, 3, 23] rfl HE2.out #[.pointer (some ⟨c1', 0, none⟩), .int .i64 n, .int .i64 er] (by simp [Act.eval]) (tr_wrote HX6 (by have := HI.out; omega) n er) ?_
                        rintro e w8 ⟨rfl, f7, h7⟩
                        have fw7 : Fr [b, W, b0, b1, c1'] w5 w8 := fw6.trans f7 (fun _ h => .inl h) (fun x hx => .inl (by simp at hx ⊢; omega))
                        refine ⟨_, rfl, ?_⟩
                        refine HK.out (fun w' => Fr [b, W, b0, b1, c1'] w5 w') _ _ (fun _ h => h) (fw7) ?_
                        clear HK K
                        simp only [Act.put, List.setIfInBounds_toArray, List.set_cons_zero, List.set_cons_succ]
                        refine walkT_take (o := _) (v := ?_) (by rw [HOPS.out]; simp only [List.getElem?_toArray, List.getElem?_cons_succ, List.getElem?_cons_zero]; exact rfl) (Or.inl ⟨rfl, ?_⟩) ?_
                        rotate_left
                        · (intro w hSw; have hSx := HFA.out _ hSw; (try dsimp only at hSx); clear hSw; go_simp) <;> (with_reducible rfl)
                        simp only [Act.put, List.setIfInBounds_toArray, List.set_cons_zero, List.set_cons_succ]
                        refine walkT_done ?_
                        clear HOPS OPS
                        have xo := ((Al5.out.x0.keep0 ((Fr.refl [] w5).drew)).keep f6 (by have := Al5.out.d; simp; omega) (fun x hx hn => by have := Al5.out.d; simp at hx; omega)).keep f7 (by have := Al5.out.d; simp; omega) (fun x hx hn => by have := Al5.out.d; simp at hx; omega)
                        have h6' := h6.keep f7 (fun x hx => by have := Al5.out.d; simp at hx; subst hx; exact ⟨by omega, by omega, by omega, by omega, by omega, by omega⟩)
                        have hAl : Al22 w8 Z b W b0 b1 c0' c1' B (wroteS1 s n er) := ⟨h6', xo, h7, fw7.keep Al5.out.t (by have := Al5.out.d; simp; omega), Al5.out.d⟩
                        have hI2 : (wroteS1 s n er).t0.rd ≤ (((k + 1 : Nat) : Int)) * 5000 ∧ (wroteS1 s n er).t1.rd ≤ (((k + 1 : Nat) : Int)) * 5000 := by
                          have h1 := HI.out
                          have h2 := wroteT_rd s.t1 n er
                          have h3 := HIK.out
                          exact ⟨by show s.t0.rd ≤ _; omega, by show (wroteT s.t1 n er).rd ≤ _; omega⟩
                        generalize wroteS1 s n er = s2 at hAl hI2
                        have Al := Lib.hid hAl
                        have HI2 := Lib.hid hI2
                        have g8 := Lib.hid (HG5.out.trans fw7 (U := []) (by simp) (fun x hx => .inr (by simp at hx; omega)))
                        have a8 := Lib.hid (HA5.out.keep fw7 HG5.out.size (fun x hx => by simp at hx; omega))
                        clear HFA HE1 HE2 fd0 HS5D f6 h6 fw6 HX6 f7 h7 fw7 xo h6' hAl hI2 HG5 HA5 HQ5 Al5 HSL HI HIK e0 e1 e2 e3 e4 HPA HDL
                        go_wp2_with fail
                        go_meet
                        exact ⟨s2, HI2, Al, g8, a8⟩
                    · rcases Bool.eq_false_or_eq_true (what == 2) with q2 | q2
                      · obtain rfl : what = 2 := by simpa using q2
                        as_aux_lemma =>
                          have HCL := Lib.hid (sp_close1 Al5.out.sp (by have := HI.out; omega))
                          go_wp2_with fail
                          refine HCL.out.mono ?_
                          rintro e w8 ⟨rfl, f8, h8⟩
                          have hAl : Al22 w8 Z b W b0 b1 c0' c1' B (closeS1 s) := ⟨h8, Al5.out.x0.keep f8 (by have := Al5.out.d; simp; omega) (fun x hx hn => by have := Al5.out.d; simp at hx; omega), Al5.out.x1.keep f8 (by have := Al5.out.d; simp; omega) (fun x hx hn => by have := Al5.out.d; simp at hx; omega), f8.keep Al5.out.t (by have := Al5.out.d; simp; omega), Al5.out.d⟩
                          have hI2 : (closeS1 s).t0.rd ≤ (((k + 1 : Nat) : Int)) * 5000 ∧ (closeS1 s).t1.rd ≤ (((k + 1 : Nat) : Int)) * 5000 := by
                            have h1 := HI.out
                            have h3 := HIK.out
                            exact ⟨by show s.t0.rd ≤ _; omega, by show s.t1.rd ≤ _; omega⟩
                          generalize closeS1 s = s2 at hAl hI2
                          have Al := Lib.hid hAl
                          have HI2 := Lib.hid hI2
                          have g8 := Lib.hid (HG5.out.trans f8 (U := []) (by simp) (fun x hx => .inr (by simp at hx; omega)))
                          have a8 := Lib.hid (HA5.out.keep f8 HG5.out.size (fun x hx => by simp at hx; omega))
                          clear f8 h8 hAl hI2 HCL HG5 HA5 HQ5 Al5 HSL HI HIK e0 e1 e2 e3 e4 HPA HDL
                          go_wp2_with fail
                          go_meet
                          exact ⟨s2, HI2, Al, g8, a8⟩
                      · as_aux_lemma =>
                          have HI2 : Hid (s.t0.rd ≤ (((k + 1 : Nat) : Int)) * 5000 ∧ s.t1.rd ≤ (((k + 1 : Nat) : Int)) * 5000) := Lib.hid (by have h1 := HI.out; have h3 := HIK.out; exact ⟨by omega, by omega⟩)
                          go_wp2_with fail
                          go_meet
                          exact ⟨s, HI2, Al5, HG5, HA5⟩
              case rest =>
                as_aux_lemma =>
                  clear HSL HI HIK e0 e1 e2 e3 e4 HPA HDL HG5 HA5 HQ5 Al5 hw5
                  rename World => w8
                  obtain ⟨s2, HI2, Al, g8, a8⟩ := hcut
                  have HN0 := Lib.hid fun w1 (f : Fr [] w8 w1) => sp_next0 (Al.out.sp.keep0 f) (by have := HI2.out; omega)
                  have HN1 := Lib.hid fun w1 (f : Fr [] w8 w1) => sp_next1 (Al.out.sp.keep0 f) (by have := HI2.out; omega)
                  have HV0 := Lib.hid fun w1 (f : Fr [] w8 w1) => tr_next (Al.out.x0.keep0 f) (by have := HI2.out; omega)
                  have HV1 := Lib.hid fun w1 (f : Fr [] w8 w1) => tr_next (Al.out.x1.keep0 f) (by have := HI2.out; omega)
                  have HM0 := Lib.hid fun w1 (f : Fr [] w8 w1) => tr_movedT (Al.out.x0.keep0 f)
                  have HM1 := Lib.hid fun w1 (f : Fr [] w8 w1) => tr_movedT (Al.out.x1.keep0 f)
                  have HX0 := Lib.hid fun w1 (f : Fr [] w8 w1) => moved22 (sp_moved0 (Al.out.sp.keep0 f))
                  have HX1 := Lib.hid fun w1 (f : Fr [] w8 w1) => moved22 (sp_moved1 (Al.out.sp.keep0 f))
                  have HC := Lib.hid fun w1 (f : Fr [] w8 w1) => (show w1.cell? ⟨B, 0, none⟩ = some (.pointer (some ⟨c0', 0, none⟩)) ∧ w1.cell? ⟨B, 1, none⟩ = some (.pointer (some ⟨c1', 0, none⟩)) from ⟨cell_of (f.keep Al.out.t (by simp)), cell_of (f.keep Al.out.t (by simp))⟩)
                  have HBZ := Lib.hid fun w1 (f : Fr [] w8 w1) => Nat.lt_of_lt_of_le (lt_of_heap Al.out.t) f.size
                  go_wp2_with fail
                  go_loopw [11] (fun i wr => ∃ k : Nat, k ≤ 2 ∧ i = .int .i64 k ∧ Fr [] w8 wr) (fun i _ => 3 - (intOf i).toNat)
                  case atStart => exact ⟨0, by omega, rfl, Fr.refl _ _⟩
                  case round =>
                    obtain ⟨k3, hk3, rfl, g⟩ := hrel
                    rename World => wq
                    obtain ⟨c0, c1⟩ := HC.out _ g
                    rcases (show k3 = 0 ∨ k3 = 1 ∨ k3 = 2 from by omega) with rfl | rfl | rfl
                    · rcases nextS_cases s2.t0 s2.c0 0 with ⟨_, e1, e2⟩ | ⟨_, _, e1, e2⟩ | ⟨_, _, _, e1, e2⟩ | ⟨_, _, e1, e2⟩ | ⟨nn, e1, e2⟩
                      · rw [e2] at HN0
                        rw [e1] at HV0
                        clear e1 e2
                        have hxx : (s2.t0.wr != s2.t0.wr) = false := by simp
                        have hyy : (s2.t0.w != s2.t0.w) = false := by simp
                        as_aux_lemma =>
                          go_wp2_with fail
                          refine (HN0.out _ g).mono ?_
                          rintro e w2 ⟨v, rfl, f2, u, rfl, ou⟩
                          obtain ⟨ga, gc, rfl, _, _, gs, _⟩ := ou.formB
                          try simp only [List.length_nil]
                          obtain ⟨w3, hw3, f3, q3⟩ : ∃ W, w2.alloc (.cells #[.int .i64 4, .int .i64 (0), .int .i64 s2.t0.wr, .slice ga 0 gc, .int .i64 s2.t0.w] 32) = W ∧ Fr [] w2 W ∧ WB W w2.heap.size (.int .i64 4) (.int .i64 (0)) (.int .i64 s2.t0.wr) (.slice ga 0 gc) (.int .i64 s2.t0.w) := ⟨_, rfl, (Fr.refl _ _).alloc _, newA rfl⟩
                          have hsid : w3.setCell ⟨w2.heap.size, 4, none⟩ (.int .i64 s2.t0.w) = w3 := setCell_id q3 rfl
                          have hsc3 := (WB.cells q3).c4
                          have hsf3 : w3.frozen? ⟨w2.heap.size, 4, none⟩ = false := free_of q3
                          have g3 := (g.then0 f2).then0 f3
                          have c3 := HC.out _ g3
                          have b3 := HBZ.out _ g3
                          clear ou
                          go_wp2_with fail
                          clear hsid hsc3 hsf3
                          refine (HV0.out _ g3).mono ?_
                          rintro e w4 ⟨v, rfl, f4, u, rfl, ou⟩
                          obtain ⟨ha, hc, rfl, _, _, hs, _⟩ := ou.formB
                          try simp only [List.length_nil]
                          obtain ⟨w5, hw5, f5, q5⟩ : ∃ W, w4.alloc (.cells #[.int .i64 4, .int .i64 0, .int .i64 s2.t0.wr, .slice ha 0 hc, .int .i64 s2.t0.w] 32) = W ∧ Fr [] w4 W ∧ WB W w4.heap.size (.int .i64 4) (.int .i64 0) (.int .i64 s2.t0.wr) (.slice ha 0 hc) (.int .i64 s2.t0.w) := ⟨_, rfl, (Fr.refl _ _).alloc _, newA rfl⟩
                          have hsid2 : w5.setCell ⟨w4.heap.size, 4, none⟩ (.int .i64 s2.t0.w) = w5 := setCell_id q5 rfl
                          have hsc5 := (WB.cells q5).c4
                          have hsf5 : w5.frozen? ⟨w4.heap.size, 4, none⟩ = false := free_of q5
                          have g5 := (g3.then0 f4).then0 f5
                          have c5 := HC.out _ g5
                          have b5 := HBZ.out _ g5
                          have Q3 := Lib.hid (f5.keep (f4.keep q3 (by simp)) (by simp))
                          have G3 := Lib.hid (sl_keep (sl_keep (sl_keep gs f3 (by simp)) f4 (by simp)) f5 (by simp))
                          have G5 := Lib.hid (sl_keep hs f5 (by simp))
                          have Q5 := Lib.hid q5
                          clear ou c3 b3 q3 q5 f2 f3 f4 f5 gs hs g3
                          go_wp2_with fail
                          clear hsid2 hsc5 hsf5
                          refine (HM0.out _ g5).mono ?_
                          rintro e w6 ⟨rfl, f6⟩
                          have g6 := g5.then0 f6
                          have c6 := HC.out _ g6
                          clear c5 b5
                          go_wp2_with fail
                          refine (HX0.out _ g6).mono ?_
                          rintro e w7 ⟨rfl, f7⟩
                          have g7 := g6.then0 f7
                          obtain ⟨x0, x1, x2, x3, x4, _⟩ := WB.cells (f7.keep (f6.keep Q3.out (by simp)) (by simp))
                          obtain ⟨y0, y1, y2, y3, y4, _⟩ := WB.cells (f7.keep (f6.keep Q5.out (by simp)) (by simp))
                          have hcv1 := fun c => conv_st (cap := c) (sl_keep (sl_keep G3.out f6 (by simp)) f7 (by simp)) rfl
                          have hcv2 := fun c => conv_st (cap := c) (sl_keep (sl_keep G5.out f6 (by simp)) f7 (by simp)) rfl
                          try simp only [List.length_nil] at hcv1 hcv2
                          have g7' := Lib.hid g7
                          clear Q3 Q5 G3 G5 c6 f6 f7 g5 g6 g7 HN0 HN1 HV0 HV1 HM0 HM1 HX0 HX1
                          go_wp2_with fail
                          go_roundw
                          case rel => exact ⟨1, by omega, rfl, g7'.out⟩
                          case measure => simp [intOf]
                      · rw [e2] at HN0
                        rw [e1] at HV0
                        clear e1 e2
                        have hss := st_self s2.t0.s
                        as_aux_lemma =>
                          go_wp2_with fail
                          refine (HN0.out _ g).mono ?_
                          rintro e w2 ⟨v, rfl, f2, u, rfl, ou⟩
                          obtain ⟨ga, gc, rfl, _, _, gs, _⟩ := ou.formB
                          try simp only [List.length_nil]
                          obtain ⟨w3, hw3, f3, q3⟩ : ∃ W, w2.alloc (.cells #[.int .i64 2, .int .i64 (1), .int .i64 0, .slice ga s2.t0.s.length gc, .int .i64 0] 32) = W ∧ Fr [] w2 W ∧ WB W w2.heap.size (.int .i64 2) (.int .i64 (1)) (.int .i64 0) (.slice ga s2.t0.s.length gc) (.int .i64 0) := ⟨_, rfl, (Fr.refl _ _).alloc _, newA rfl⟩
                          have hsid : w3.setCell ⟨w2.heap.size, 4, none⟩ (.int .i64 0) = w3 := setCell_id q3 rfl
                          have hsc3 := (WB.cells q3).c4
                          have hsf3 : w3.frozen? ⟨w2.heap.size, 4, none⟩ = false := free_of q3
                          have g3 := (g.then0 f2).then0 f3
                          have c3 := HC.out _ g3
                          have b3 := HBZ.out _ g3
                          clear ou
                          go_wp2_with fail
                          clear hsid hsc3 hsf3
                          refine (HV0.out _ g3).mono ?_
                          rintro e w4 ⟨v, rfl, f4, u, rfl, ou⟩
                          obtain ⟨ha, hc, rfl, _, _, hs, _⟩ := ou.formB
                          try simp only [List.length_nil]
                          obtain ⟨w5, hw5, f5, q5⟩ : ∃ W, w4.alloc (.cells #[.int .i64 2, .int .i64 0, .int .i64 0, .slice ha s2.t0.s.length hc, .int .i64 0] 32) = W ∧ Fr [] w4 W ∧ WB W w4.heap.size (.int .i64 2) (.int .i64 0) (.int .i64 0) (.slice ha s2.t0.s.length hc) (.int .i64 0) := ⟨_, rfl, (Fr.refl _ _).alloc _, newA rfl⟩
                          have hsid2 : w5.setCell ⟨w4.heap.size, 4, none⟩ (.int .i64 0) = w5 := setCell_id q5 rfl
                          have hsc5 := (WB.cells q5).c4
                          have hsf5 : w5.frozen? ⟨w4.heap.size, 4, none⟩ = false := free_of q5
                          have g5 := (g3.then0 f4).then0 f5
                          have c5 := HC.out _ g5
                          have b5 := HBZ.out _ g5
                          have Q3 := Lib.hid (f5.keep (f4.keep q3 (by simp)) (by simp))
                          have G3 := Lib.hid (sl_keep (sl_keep (sl_keep gs f3 (by simp)) f4 (by simp)) f5 (by simp))
                          have G5 := Lib.hid (sl_keep hs f5 (by simp))
                          have Q5 := Lib.hid q5
                          clear ou c3 b3 q3 q5 f2 f3 f4 f5 gs hs g3
                          go_wp2_with fail
                          clear hsid2 hsc5 hsf5
                          refine (HM0.out _ g5).mono ?_
                          rintro e w6 ⟨rfl, f6⟩
                          have g6 := g5.then0 f6
                          have c6 := HC.out _ g6
                          clear c5 b5
                          go_wp2_with fail
                          refine (HX0.out _ g6).mono ?_
                          rintro e w7 ⟨rfl, f7⟩
                          have g7 := g6.then0 f7
                          obtain ⟨x0, x1, x2, x3, x4, _⟩ := WB.cells (f7.keep (f6.keep Q3.out (by simp)) (by simp))
                          obtain ⟨y0, y1, y2, y3, y4, _⟩ := WB.cells (f7.keep (f6.keep Q5.out (by simp)) (by simp))
                          have hcv1 := fun c => conv_st (cap := c) (sl_keep (sl_keep G3.out f6 (by simp)) f7 (by simp)) rfl
                          have hcv2 := fun c => conv_st (cap := c) (sl_keep (sl_keep G5.out f6 (by simp)) f7 (by simp)) rfl
                          try simp only [List.length_nil] at hcv1 hcv2
                          have g7' := Lib.hid g7
                          clear Q3 Q5 G3 G5 c6 f6 f7 g5 g6 g7 HN0 HN1 HV0 HV1 HM0 HM1 HX0 HX1
                          go_wp2_with fail
                          go_roundw
                          case rel => exact ⟨1, by omega, rfl, g7'.out⟩
                          case measure => simp [intOf]
                      · rw [e2] at HN0
                        rw [e1] at HV0
                        clear e1 e2
                        as_aux_lemma =>
                          go_wp2_with fail
                          refine (HN0.out _ g).mono ?_
                          rintro e w2 ⟨v, rfl, f2, u, rfl, ou⟩
                          obtain ⟨ga, gc, rfl, _, _, gs, _⟩ := ou.formB
                          try simp only [List.length_nil]
                          obtain ⟨w3, hw3, f3, q3⟩ : ∃ W, w2.alloc (.cells #[.int .i64 3, .int .i64 (1), .int .i64 0, .slice ga 0 gc, .int .i64 0] 32) = W ∧ Fr [] w2 W ∧ WB W w2.heap.size (.int .i64 3) (.int .i64 (1)) (.int .i64 0) (.slice ga 0 gc) (.int .i64 0) := ⟨_, rfl, (Fr.refl _ _).alloc _, newA rfl⟩
                          have hsid : w3.setCell ⟨w2.heap.size, 4, none⟩ (.int .i64 0) = w3 := setCell_id q3 rfl
                          have hsc3 := (WB.cells q3).c4
                          have hsf3 : w3.frozen? ⟨w2.heap.size, 4, none⟩ = false := free_of q3
                          have g3 := (g.then0 f2).then0 f3
                          have c3 := HC.out _ g3
                          have b3 := HBZ.out _ g3
                          clear ou
                          go_wp2_with fail
                          clear hsid hsc3 hsf3
                          refine (HV0.out _ g3).mono ?_
                          rintro e w4 ⟨v, rfl, f4, u, rfl, ou⟩
                          obtain ⟨ha, hc, rfl, _, _, hs, _⟩ := ou.formB
                          try simp only [List.length_nil]
                          obtain ⟨w5, hw5, f5, q5⟩ : ∃ W, w4.alloc (.cells #[.int .i64 4, .int .i64 0, .int .i64 s2.t0.wr, .slice ha 0 hc, .int .i64 0] 32) = W ∧ Fr [] w4 W ∧ WB W w4.heap.size (.int .i64 4) (.int .i64 0) (.int .i64 s2.t0.wr) (.slice ha 0 hc) (.int .i64 0) := ⟨_, rfl, (Fr.refl _ _).alloc _, newA rfl⟩
                          have hsid2 : w5.setCell ⟨w4.heap.size, 4, none⟩ (.int .i64 0) = w5 := setCell_id q5 rfl
                          have hsc5 := (WB.cells q5).c4
                          have hsf5 : w5.frozen? ⟨w4.heap.size, 4, none⟩ = false := free_of q5
                          have g5 := (g3.then0 f4).then0 f5
                          have c5 := HC.out _ g5
                          have b5 := HBZ.out _ g5
                          have Q3 := Lib.hid (f5.keep (f4.keep q3 (by simp)) (by simp))
                          have G3 := Lib.hid (sl_keep (sl_keep (sl_keep gs f3 (by simp)) f4 (by simp)) f5 (by simp))
                          have G5 := Lib.hid (sl_keep hs f5 (by simp))
                          have Q5 := Lib.hid q5
                          clear ou c3 b3 q3 q5 f2 f3 f4 f5 gs hs g3
                          go_wp2_with fail
                          clear hsid2 hsc5 hsf5
                          refine (HM0.out _ g5).mono ?_
                          rintro e w6 ⟨rfl, f6⟩
                          have g6 := g5.then0 f6
                          have c6 := HC.out _ g6
                          clear c5 b5
                          go_wp2_with fail
                          refine (HX0.out _ g6).mono ?_
                          rintro e w7 ⟨rfl, f7⟩
                          have g7 := g6.then0 f7
                          obtain ⟨x0, x1, x2, x3, x4, _⟩ := WB.cells (f7.keep (f6.keep Q3.out (by simp)) (by simp))
                          obtain ⟨y0, y1, y2, y3, y4, _⟩ := WB.cells (f7.keep (f6.keep Q5.out (by simp)) (by simp))
                          have hcv1 := fun c => conv_st (cap := c) (sl_keep (sl_keep G3.out f6 (by simp)) f7 (by simp)) rfl
                          have hcv2 := fun c => conv_st (cap := c) (sl_keep (sl_keep G5.out f6 (by simp)) f7 (by simp)) rfl
                          try simp only [List.length_nil] at hcv1 hcv2
                          have g7' := Lib.hid g7
                          clear Q3 Q5 G3 G5 c6 f6 f7 g5 g6 g7 HN0 HN1 HV0 HV1 HM0 HM1 HX0 HX1
                          go_wp2_with fail
                          go_roundw
                          case rel => exact ⟨1, by omega, rfl, g7'.out⟩
                          case measure => simp [intOf]
                      · generalize eofT s2.t0.r = er at e1 e2
                        rw [e2] at HN0
                        rw [e1] at HV0
                        clear e1 e2
                        have hxx : (s2.t0.wr != s2.t0.wr) = false := by simp
                        have hyy : (er != er) = false := by simp
                        as_aux_lemma =>
                          go_wp2_with fail
                          refine (HN0.out _ g).mono ?_
                          rintro e w2 ⟨v, rfl, f2, u, rfl, ou⟩
                          obtain ⟨ga, gc, rfl, _, _, gs, _⟩ := ou.formB
                          try simp only [List.length_nil]
                          obtain ⟨w3, hw3, f3, q3⟩ : ∃ W, w2.alloc (.cells #[.int .i64 4, .int .i64 (0), .int .i64 s2.t0.wr, .slice ga 0 gc, .int .i64 er] 32) = W ∧ Fr [] w2 W ∧ WB W w2.heap.size (.int .i64 4) (.int .i64 (0)) (.int .i64 s2.t0.wr) (.slice ga 0 gc) (.int .i64 er) := ⟨_, rfl, (Fr.refl _ _).alloc _, newA rfl⟩
                          have hsid : w3.setCell ⟨w2.heap.size, 4, none⟩ (.int .i64 er) = w3 := setCell_id q3 rfl
                          have hsc3 := (WB.cells q3).c4
                          have hsf3 : w3.frozen? ⟨w2.heap.size, 4, none⟩ = false := free_of q3
                          have g3 := (g.then0 f2).then0 f3
                          have c3 := HC.out _ g3
                          have b3 := HBZ.out _ g3
                          clear ou
                          go_wp2_with fail
                          clear hsid hsc3 hsf3
                          refine (HV0.out _ g3).mono ?_
                          rintro e w4 ⟨v, rfl, f4, u, rfl, ou⟩
                          obtain ⟨ha, hc, rfl, _, _, hs, _⟩ := ou.formB
                          try simp only [List.length_nil]
                          obtain ⟨w5, hw5, f5, q5⟩ : ∃ W, w4.alloc (.cells #[.int .i64 4, .int .i64 0, .int .i64 s2.t0.wr, .slice ha 0 hc, .int .i64 er] 32) = W ∧ Fr [] w4 W ∧ WB W w4.heap.size (.int .i64 4) (.int .i64 0) (.int .i64 s2.t0.wr) (.slice ha 0 hc) (.int .i64 er) := ⟨_, rfl, (Fr.refl _ _).alloc _, newA rfl⟩
                          have hsid2 : w5.setCell ⟨w4.heap.size, 4, none⟩ (.int .i64 er) = w5 := setCell_id q5 rfl
                          have hsc5 := (WB.cells q5).c4
                          have hsf5 : w5.frozen? ⟨w4.heap.size, 4, none⟩ = false := free_of q5
                          have g5 := (g3.then0 f4).then0 f5
                          have c5 := HC.out _ g5
                          have b5 := HBZ.out _ g5
                          have Q3 := Lib.hid (f5.keep (f4.keep q3 (by simp)) (by simp))
                          have G3 := Lib.hid (sl_keep (sl_keep (sl_keep gs f3 (by simp)) f4 (by simp)) f5 (by simp))
                          have G5 := Lib.hid (sl_keep hs f5 (by simp))
                          have Q5 := Lib.hid q5
                          clear ou c3 b3 q3 q5 f2 f3 f4 f5 gs hs g3
                          go_wp2_with fail
                          clear hsid2 hsc5 hsf5
                          refine (HM0.out _ g5).mono ?_
                          rintro e w6 ⟨rfl, f6⟩
                          have g6 := g5.then0 f6
                          have c6 := HC.out _ g6
                          clear c5 b5
                          go_wp2_with fail
                          refine (HX0.out _ g6).mono ?_
                          rintro e w7 ⟨rfl, f7⟩
                          have g7 := g6.then0 f7
                          obtain ⟨x0, x1, x2, x3, x4, _⟩ := WB.cells (f7.keep (f6.keep Q3.out (by simp)) (by simp))
                          obtain ⟨y0, y1, y2, y3, y4, _⟩ := WB.cells (f7.keep (f6.keep Q5.out (by simp)) (by simp))
                          have hcv1 := fun c => conv_st (cap := c) (sl_keep (sl_keep G3.out f6 (by simp)) f7 (by simp)) rfl
                          have hcv2 := fun c => conv_st (cap := c) (sl_keep (sl_keep G5.out f6 (by simp)) f7 (by simp)) rfl
                          try simp only [List.length_nil] at hcv1 hcv2
                          have g7' := Lib.hid g7
                          clear Q3 Q5 G3 G5 c6 f6 f7 g5 g6 g7 HN0 HN1 HV0 HV1 HM0 HM1 HX0 HX1
                          go_wp2_with fail
                          go_roundw
                          case rel => exact ⟨1, by omega, rfl, g7'.out⟩
                          case measure => simp [intOf]
                      · rw [e2] at HN0
                        rw [e1] at HV0
                        clear e1 e2
                        have hnn : (nn != nn) = false := by simp
                        as_aux_lemma =>
                          go_wp2_with fail
                          refine (HN0.out _ g).mono ?_
                          rintro e w2 ⟨v, rfl, f2, u, rfl, ou⟩
                          obtain ⟨ga, gc, rfl, _, _, gs, _⟩ := ou.formB
                          try simp only [List.length_nil]
                          obtain ⟨w3, hw3, f3, q3⟩ : ∃ W, w2.alloc (.cells #[.int .i64 1, .int .i64 (0), .int .i64 nn, .slice ga 0 gc, .int .i64 0] 32) = W ∧ Fr [] w2 W ∧ WB W w2.heap.size (.int .i64 1) (.int .i64 (0)) (.int .i64 nn) (.slice ga 0 gc) (.int .i64 0) := ⟨_, rfl, (Fr.refl _ _).alloc _, newA rfl⟩
                          have hsid : w3.setCell ⟨w2.heap.size, 4, none⟩ (.int .i64 0) = w3 := setCell_id q3 rfl
                          have hsc3 := (WB.cells q3).c4
                          have hsf3 : w3.frozen? ⟨w2.heap.size, 4, none⟩ = false := free_of q3
                          have g3 := (g.then0 f2).then0 f3
                          have c3 := HC.out _ g3
                          have b3 := HBZ.out _ g3
                          clear ou
                          go_wp2_with fail
                          clear hsid hsc3 hsf3
                          refine (HV0.out _ g3).mono ?_
                          rintro e w4 ⟨v, rfl, f4, u, rfl, ou⟩
                          obtain ⟨ha, hc, rfl, _, _, hs, _⟩ := ou.formB
                          try simp only [List.length_nil]
                          obtain ⟨w5, hw5, f5, q5⟩ : ∃ W, w4.alloc (.cells #[.int .i64 1, .int .i64 0, .int .i64 nn, .slice ha 0 hc, .int .i64 0] 32) = W ∧ Fr [] w4 W ∧ WB W w4.heap.size (.int .i64 1) (.int .i64 0) (.int .i64 nn) (.slice ha 0 hc) (.int .i64 0) := ⟨_, rfl, (Fr.refl _ _).alloc _, newA rfl⟩
                          have hsid2 : w5.setCell ⟨w4.heap.size, 4, none⟩ (.int .i64 0) = w5 := setCell_id q5 rfl
                          have hsc5 := (WB.cells q5).c4
                          have hsf5 : w5.frozen? ⟨w4.heap.size, 4, none⟩ = false := free_of q5
                          have g5 := (g3.then0 f4).then0 f5
                          have c5 := HC.out _ g5
                          have b5 := HBZ.out _ g5
                          have Q3 := Lib.hid (f5.keep (f4.keep q3 (by simp)) (by simp))
                          have G3 := Lib.hid (sl_keep (sl_keep (sl_keep gs f3 (by simp)) f4 (by simp)) f5 (by simp))
                          have G5 := Lib.hid (sl_keep hs f5 (by simp))
                          have Q5 := Lib.hid q5
                          clear ou c3 b3 q3 q5 f2 f3 f4 f5 gs hs g3
                          go_wp2_with fail
                          clear hsid2 hsc5 hsf5
                          refine (HM0.out _ g5).mono ?_
                          rintro e w6 ⟨rfl, f6⟩
                          have g6 := g5.then0 f6
                          have c6 := HC.out _ g6
                          clear c5 b5
                          go_wp2_with fail
                          refine (HX0.out _ g6).mono ?_
                          rintro e w7 ⟨rfl, f7⟩
                          have g7 := g6.then0 f7
                          obtain ⟨x0, x1, x2, x3, x4, _⟩ := WB.cells (f7.keep (f6.keep Q3.out (by simp)) (by simp))
                          obtain ⟨y0, y1, y2, y3, y4, _⟩ := WB.cells (f7.keep (f6.keep Q5.out (by simp)) (by simp))
                          have hcv1 := fun c => conv_st (cap := c) (sl_keep (sl_keep G3.out f6 (by simp)) f7 (by simp)) rfl
                          have hcv2 := fun c => conv_st (cap := c) (sl_keep (sl_keep G5.out f6 (by simp)) f7 (by simp)) rfl
                          try simp only [List.length_nil] at hcv1 hcv2
                          have g7' := Lib.hid g7
                          clear Q3 Q5 G3 G5 c6 f6 f7 g5 g6 g7 HN0 HN1 HV0 HV1 HM0 HM1 HX0 HX1
                          go_wp2_with fail
                          go_roundw
                          case rel => exact ⟨1, by omega, rfl, g7'.out⟩
                          case measure => simp [intOf]
                    · rcases nextS_cases s2.t1 s2.c1 1 with ⟨_, e1, e2⟩ | ⟨_, _, e1, e2⟩ | ⟨_, _, _, e1, e2⟩ | ⟨_, _, e1, e2⟩ | ⟨nn, e1, e2⟩
                      · rw [e2] at HN1
                        rw [e1] at HV1
                        clear e1 e2
                        have hxx : (s2.t1.wr != s2.t1.wr) = false := by simp
                        have hyy : (s2.t1.w != s2.t1.w) = false := by simp
                        as_aux_lemma =>
                          go_wp2_with fail
                          refine (HN1.out _ g).mono ?_
                          rintro e w2 ⟨v, rfl, f2, u, rfl, ou⟩
                          obtain ⟨ga, gc, rfl, _, _, gs, _⟩ := ou.formB
                          try simp only [List.length_nil]
                          obtain ⟨w3, hw3, f3, q3⟩ : ∃ W, w2.alloc (.cells #[.int .i64 4, .int .i64 (0), .int .i64 s2.t1.wr, .slice ga 0 gc, .int .i64 s2.t1.w] 32) = W ∧ Fr [] w2 W ∧ WB W w2.heap.size (.int .i64 4) (.int .i64 (0)) (.int .i64 s2.t1.wr) (.slice ga 0 gc) (.int .i64 s2.t1.w) := ⟨_, rfl, (Fr.refl _ _).alloc _, newA rfl⟩
                          have hsid : w3.setCell ⟨w2.heap.size, 4, none⟩ (.int .i64 s2.t1.w) = w3 := setCell_id q3 rfl
                          have hsc3 := (WB.cells q3).c4
                          have hsf3 : w3.frozen? ⟨w2.heap.size, 4, none⟩ = false := free_of q3
                          have g3 := (g.then0 f2).then0 f3
                          have c3 := HC.out _ g3
                          have b3 := HBZ.out _ g3
                          clear ou
                          go_wp2_with fail
                          clear hsid hsc3 hsf3
                          refine (HV1.out _ g3).mono ?_
                          rintro e w4 ⟨v, rfl, f4, u, rfl, ou⟩
                          obtain ⟨ha, hc, rfl, _, _, hs, _⟩ := ou.formB
                          try simp only [List.length_nil]
                          obtain ⟨w5, hw5, f5, q5⟩ : ∃ W, w4.alloc (.cells #[.int .i64 4, .int .i64 0, .int .i64 s2.t1.wr, .slice ha 0 hc, .int .i64 s2.t1.w] 32) = W ∧ Fr [] w4 W ∧ WB W w4.heap.size (.int .i64 4) (.int .i64 0) (.int .i64 s2.t1.wr) (.slice ha 0 hc) (.int .i64 s2.t1.w) := ⟨_, rfl, (Fr.refl _ _).alloc _, newA rfl⟩
                          have hsid2 : w5.setCell ⟨w4.heap.size, 4, none⟩ (.int .i64 s2.t1.w) = w5 := setCell_id q5 rfl
                          have hsc5 := (WB.cells q5).c4
                          have hsf5 : w5.frozen? ⟨w4.heap.size, 4, none⟩ = false := free_of q5
                          have g5 := (g3.then0 f4).then0 f5
                          have c5 := HC.out _ g5
                          have b5 := HBZ.out _ g5
                          have Q3 := Lib.hid (f5.keep (f4.keep q3 (by simp)) (by simp))
                          have G3 := Lib.hid (sl_keep (sl_keep (sl_keep gs f3 (by simp)) f4 (by simp)) f5 (by simp))
                          have G5 := Lib.hid (sl_keep hs f5 (by simp))
                          have Q5 := Lib.hid q5
                          clear ou c3 b3 q3 q5 f2 f3 f4 f5 gs hs g3
                          go_wp2_with fail
                          clear hsid2 hsc5 hsf5
                          refine (HM1.out _ g5).mono ?_
                          rintro e w6 ⟨rfl, f6⟩
                          have g6 := g5.then0 f6
                          have c6 := HC.out _ g6
                          clear c5 b5
                          go_wp2_with fail
                          refine (HX1.out _ g6).mono ?_
                          rintro e w7 ⟨rfl, f7⟩
                          have g7 := g6.then0 f7
                          obtain ⟨x0, x1, x2, x3, x4, _⟩ := WB.cells (f7.keep (f6.keep Q3.out (by simp)) (by simp))
                          obtain ⟨y0, y1, y2, y3, y4, _⟩ := WB.cells (f7.keep (f6.keep Q5.out (by simp)) (by simp))
                          have hcv1 := fun c => conv_st (cap := c) (sl_keep (sl_keep G3.out f6 (by simp)) f7 (by simp)) rfl
                          have hcv2 := fun c => conv_st (cap := c) (sl_keep (sl_keep G5.out f6 (by simp)) f7 (by simp)) rfl
                          try simp only [List.length_nil] at hcv1 hcv2
                          have g7' := Lib.hid g7
                          clear Q3 Q5 G3 G5 c6 f6 f7 g5 g6 g7 HN0 HN1 HV0 HV1 HM0 HM1 HX0 HX1
                          go_wp2_with fail
                          go_roundw
                          case rel => exact ⟨2, by omega, rfl, g7'.out⟩
                          case measure => simp [intOf]
                      · rw [e2] at HN1
                        rw [e1] at HV1
                        clear e1 e2
                        have hss := st_self s2.t1.s
                        as_aux_lemma =>
                          go_wp2_with fail
                          refine (HN1.out _ g).mono ?_
                          rintro e w2 ⟨v, rfl, f2, u, rfl, ou⟩
                          obtain ⟨ga, gc, rfl, _, _, gs, _⟩ := ou.formB
                          try simp only [List.length_nil]
                          obtain ⟨w3, hw3, f3, q3⟩ : ∃ W, w2.alloc (.cells #[.int .i64 2, .int .i64 (0), .int .i64 0, .slice ga s2.t1.s.length gc, .int .i64 0] 32) = W ∧ Fr [] w2 W ∧ WB W w2.heap.size (.int .i64 2) (.int .i64 (0)) (.int .i64 0) (.slice ga s2.t1.s.length gc) (.int .i64 0) := ⟨_, rfl, (Fr.refl _ _).alloc _, newA rfl⟩
                          have hsid : w3.setCell ⟨w2.heap.size, 4, none⟩ (.int .i64 0) = w3 := setCell_id q3 rfl
                          have hsc3 := (WB.cells q3).c4
                          have hsf3 : w3.frozen? ⟨w2.heap.size, 4, none⟩ = false := free_of q3
                          have g3 := (g.then0 f2).then0 f3
                          have c3 := HC.out _ g3
                          have b3 := HBZ.out _ g3
                          clear ou
                          go_wp2_with fail
                          clear hsid hsc3 hsf3
                          refine (HV1.out _ g3).mono ?_
                          rintro e w4 ⟨v, rfl, f4, u, rfl, ou⟩
                          obtain ⟨ha, hc, rfl, _, _, hs, _⟩ := ou.formB
                          try simp only [List.length_nil]
                          obtain ⟨w5, hw5, f5, q5⟩ : ∃ W, w4.alloc (.cells #[.int .i64 2, .int .i64 0, .int .i64 0, .slice ha s2.t1.s.length hc, .int .i64 0] 32) = W ∧ Fr [] w4 W ∧ WB W w4.heap.size (.int .i64 2) (.int .i64 0) (.int .i64 0) (.slice ha s2.t1.s.length hc) (.int .i64 0) := ⟨_, rfl, (Fr.refl _ _).alloc _, newA rfl⟩
                          have hsid2 : w5.setCell ⟨w4.heap.size, 4, none⟩ (.int .i64 0) = w5 := setCell_id q5 rfl
                          have hsc5 := (WB.cells q5).c4
                          have hsf5 : w5.frozen? ⟨w4.heap.size, 4, none⟩ = false := free_of q5
                          have g5 := (g3.then0 f4).then0 f5
                          have c5 := HC.out _ g5
                          have b5 := HBZ.out _ g5
                          have Q3 := Lib.hid (f5.keep (f4.keep q3 (by simp)) (by simp))
                          have G3 := Lib.hid (sl_keep (sl_keep (sl_keep gs f3 (by simp)) f4 (by simp)) f5 (by simp))
                          have G5 := Lib.hid (sl_keep hs f5 (by simp))
                          have Q5 := Lib.hid q5
                          clear ou c3 b3 q3 q5 f2 f3 f4 f5 gs hs g3
                          go_wp2_with fail
                          clear hsid2 hsc5 hsf5
                          refine (HM1.out _ g5).mono ?_
                          rintro e w6 ⟨rfl, f6⟩
                          have g6 := g5.then0 f6
                          have c6 := HC.out _ g6
                          clear c5 b5
                          go_wp2_with fail
                          refine (HX1.out _ g6).mono ?_
                          rintro e w7 ⟨rfl, f7⟩
                          have g7 := g6.then0 f7
                          obtain ⟨x0, x1, x2, x3, x4, _⟩ := WB.cells (f7.keep (f6.keep Q3.out (by simp)) (by simp))
                          obtain ⟨y0, y1, y2, y3, y4, _⟩ := WB.cells (f7.keep (f6.keep Q5.out (by simp)) (by simp))
                          have hcv1 := fun c => conv_st (cap := c) (sl_keep (sl_keep G3.out f6 (by simp)) f7 (by simp)) rfl
                          have hcv2 := fun c => conv_st (cap := c) (sl_keep (sl_keep G5.out f6 (by simp)) f7 (by simp)) rfl
                          try simp only [List.length_nil] at hcv1 hcv2
                          have g7' := Lib.hid g7
                          clear Q3 Q5 G3 G5 c6 f6 f7 g5 g6 g7 HN0 HN1 HV0 HV1 HM0 HM1 HX0 HX1
                          go_wp2_with fail
                          go_roundw
                          case rel => exact ⟨2, by omega, rfl, g7'.out⟩
                          case measure => simp [intOf]
                      · rw [e2] at HN1
                        rw [e1] at HV1
                        clear e1 e2
                        as_aux_lemma =>
                          go_wp2_with fail
                          refine (HN1.out _ g).mono ?_
                          rintro e w2 ⟨v, rfl, f2, u, rfl, ou⟩
                          obtain ⟨ga, gc, rfl, _, _, gs, _⟩ := ou.formB
                          try simp only [List.length_nil]
                          obtain ⟨w3, hw3, f3, q3⟩ : ∃ W, w2.alloc (.cells #[.int .i64 3, .int .i64 (0), .int .i64 0, .slice ga 0 gc, .int .i64 0] 32) = W ∧ Fr [] w2 W ∧ WB W w2.heap.size (.int .i64 3) (.int .i64 (0)) (.int .i64 0) (.slice ga 0 gc) (.int .i64 0) := ⟨_, rfl, (Fr.refl _ _).alloc _, newA rfl⟩
                          have hsid : w3.setCell ⟨w2.heap.size, 4, none⟩ (.int .i64 0) = w3 := setCell_id q3 rfl
                          have hsc3 := (WB.cells q3).c4
                          have hsf3 : w3.frozen? ⟨w2.heap.size, 4, none⟩ = false := free_of q3
                          have g3 := (g.then0 f2).then0 f3
                          have c3 := HC.out _ g3
                          have b3 := HBZ.out _ g3
                          clear ou
                          go_wp2_with fail
                          clear hsid hsc3 hsf3
                          refine (HV1.out _ g3).mono ?_
                          rintro e w4 ⟨v, rfl, f4, u, rfl, ou⟩
                          obtain ⟨ha, hc, rfl, _, _, hs, _⟩ := ou.formB
                          try simp only [List.length_nil]
                          obtain ⟨w5, hw5, f5, q5⟩ : ∃ W, w4.alloc (.cells #[.int .i64 4, .int .i64 0, .int .i64 s2.t1.wr, .slice ha 0 hc, .int .i64 0] 32) = W ∧ Fr [] w4 W ∧ WB W w4.heap.size (.int .i64 4) (.int .i64 0) (.int .i64 s2.t1.wr) (.slice ha 0 hc) (.int .i64 0) := ⟨_, rfl, (Fr.refl _ _).alloc _, newA rfl⟩
                          have hsid2 : w5.setCell ⟨w4.heap.size, 4, none⟩ (.int .i64 0) = w5 := setCell_id q5 rfl
                          have hsc5 := (WB.cells q5).c4
                          have hsf5 : w5.frozen? ⟨w4.heap.size, 4, none⟩ = false := free_of q5
                          have g5 := (g3.then0 f4).then0 f5
                          have c5 := HC.out _ g5
                          have b5 := HBZ.out _ g5
                          have Q3 := Lib.hid (f5.keep (f4.keep q3 (by simp)) (by simp))
                          have G3 := Lib.hid (sl_keep (sl_keep (sl_keep gs f3 (by simp)) f4 (by simp)) f5 (by simp))
                          have G5 := Lib.hid (sl_keep hs f5 (by simp))
                          have Q5 := Lib.hid q5
                          clear ou c3 b3 q3 q5 f2 f3 f4 f5 gs hs g3
                          go_wp2_with fail
                          clear hsid2 hsc5 hsf5
                          refine (HM1.out _ g5).mono ?_
                          rintro e w6 ⟨rfl, f6⟩
                          have g6 := g5.then0 f6
                          have c6 := HC.out _ g6
                          clear c5 b5
                          go_wp2_with fail
                          refine (HX1.out _ g6).mono ?_
                          rintro e w7 ⟨rfl, f7⟩
                          have g7 := g6.then0 f7
                          obtain ⟨x0, x1, x2, x3, x4, _⟩ := WB.cells (f7.keep (f6.keep Q3.out (by simp)) (by simp))
                          obtain ⟨y0, y1, y2, y3, y4, _⟩ := WB.cells (f7.keep (f6.keep Q5.out (by simp)) (by simp))
                          have hcv1 := fun c => conv_st (cap := c) (sl_keep (sl_keep G3.out f6 (by simp)) f7 (by simp)) rfl
                          have hcv2 := fun c => conv_st (cap := c) (sl_keep (sl_keep G5.out f6 (by simp)) f7 (by simp)) rfl
                          try simp only [List.length_nil] at hcv1 hcv2
                          have g7' := Lib.hid g7
                          clear Q3 Q5 G3 G5 c6 f6 f7 g5 g6 g7 HN0 HN1 HV0 HV1 HM0 HM1 HX0 HX1
                          go_wp2_with fail
                          go_roundw
                          case rel => exact ⟨2, by omega, rfl, g7'.out⟩
                          case measure => simp [intOf]
                      · generalize eofT s2.t1.r = er at e1 e2
                        rw [e2] at HN1
                        rw [e1] at HV1
                        clear e1 e2
                        have hxx : (s2.t1.wr != s2.t1.wr) = false := by simp
                        have hyy : (er != er) = false := by simp
                        as_aux_lemma =>
                          go_wp2_with fail
                          refine (HN1.out _ g).mono ?_
                          rintro e w2 ⟨v, rfl, f2, u, rfl, ou⟩
                          obtain ⟨ga, gc, rfl, _, _, gs, _⟩ := ou.formB
                          try simp only [List.length_nil]
                          obtain ⟨w3, hw3, f3, q3⟩ : ∃ W, w2.alloc (.cells #[.int .i64 4, .int .i64 (0), .int .i64 s2.t1.wr, .slice ga 0 gc, .int .i64 er] 32) = W ∧ Fr [] w2 W ∧ WB W w2.heap.size (.int .i64 4) (.int .i64 (0)) (.int .i64 s2.t1.wr) (.slice ga 0 gc) (.int .i64 er) := ⟨_, rfl, (Fr.refl _ _).alloc _, newA rfl⟩
                          have hsid : w3.setCell ⟨w2.heap.size, 4, none⟩ (.int .i64 er) = w3 := setCell_id q3 rfl
                          have hsc3 := (WB.cells q3).c4
                          have hsf3 : w3.frozen? ⟨w2.heap.size, 4, none⟩ = false := free_of q3
                          have g3 := (g.then0 f2).then0 f3
                          have c3 := HC.out _ g3
                          have b3 := HBZ.out _ g3
                          clear ou
                          go_wp2_with fail
                          clear hsid hsc3 hsf3
                          refine (HV1.out _ g3).mono ?_
                          rintro e w4 ⟨v, rfl, f4, u, rfl, ou⟩
                          obtain ⟨ha, hc, rfl, _, _, hs, _⟩ := ou.formB
                          try simp only [List.length_nil]
                          obtain ⟨w5, hw5, f5, q5⟩ : ∃ W, w4.alloc (.cells #[.int .i64 4, .int .i64 0, .int .i64 s2.t1.wr, .slice ha 0 hc, .int .i64 er] 32) = W ∧ Fr [] w4 W ∧ WB W w4.heap.size (.int .i64 4) (.int .i64 0) (.int .i64 s2.t1.wr) (.slice ha 0 hc) (.int .i64 er) := ⟨_, rfl, (Fr.refl _ _).alloc _, newA rfl⟩
                          have hsid2 : w5.setCell ⟨w4.heap.size, 4, none⟩ (.int .i64 er) = w5 := setCell_id q5 rfl
                          have hsc5 := (WB.cells q5).c4
                          have hsf5 : w5.frozen? ⟨w4.heap.size, 4, none⟩ = false := free_of q5
                          have g5 := (g3.then0 f4).then0 f5
                          have c5 := HC.out _ g5
                          have b5 := HBZ.out _ g5
                          have Q3 := Lib.hid (f5.keep (f4.keep q3 (by simp)) (by simp))
                          have G3 := Lib.hid (sl_keep (sl_keep (sl_keep gs f3 (by simp)) f4 (by simp)) f5 (by simp))
                          have G5 := Lib.hid (sl_keep hs f5 (by simp))
                          have Q5 := Lib.hid q5
                          clear ou c3 b3 q3 q5 f2 f3 f4 f5 gs hs g3
                          go_wp2_with fail
                          clear hsid2 hsc5 hsf5
                          refine (HM1.out _ g5).mono ?_
                          rintro e w6 ⟨rfl, f6⟩
                          have g6 := g5.then0 f6
                          have c6 := HC.out _ g6
                          clear c5 b5
                          go_wp2_with fail
                          refine (HX1.out _ g6).mono ?_
                          rintro e w7 ⟨rfl, f7⟩
                          have g7 := g6.then0 f7
                          obtain ⟨x0, x1, x2, x3, x4, _⟩ := WB.cells (f7.keep (f6.keep Q3.out (by simp)) (by simp))
                          obtain ⟨y0, y1, y2, y3, y4, _⟩ := WB.cells (f7.keep (f6.keep Q5.out (by simp)) (by simp))
                          have hcv1 := fun c => conv_st (cap := c) (sl_keep (sl_keep G3.out f6 (by simp)) f7 (by simp)) rfl
                          have hcv2 := fun c => conv_st (cap := c) (sl_keep (sl_keep G5.out f6 (by simp)) f7 (by simp)) rfl
                          try simp only [List.length_nil] at hcv1 hcv2
                          have g7' := Lib.hid g7
                          clear Q3 Q5 G3 G5 c6 f6 f7 g5 g6 g7 HN0 HN1 HV0 HV1 HM0 HM1 HX0 HX1
                          go_wp2_with fail
                          go_roundw
                          case rel => exact ⟨2, by omega, rfl, g7'.out⟩
                          case measure => simp [intOf]
                      · rw [e2] at HN1
                        rw [e1] at HV1
                        clear e1 e2
                        have hnn : (nn != nn) = false := by simp
                        as_aux_lemma =>
                          go_wp2_with fail
                          refine (HN1.out _ g).mono ?_
                          rintro e w2 ⟨v, rfl, f2, u, rfl, ou⟩
                          obtain ⟨ga, gc, rfl, _, _, gs, _⟩ := ou.formB
                          try simp only [List.length_nil]
                          obtain ⟨w3, hw3, f3, q3⟩ : ∃ W, w2.alloc (.cells #[.int .i64 1, .int .i64 (1), .int .i64 nn, .slice ga 0 gc, .int .i64 0] 32) = W ∧ Fr [] w2 W ∧ WB W w2.heap.size (.int .i64 1) (.int .i64 (1)) (.int .i64 nn) (.slice ga 0 gc) (.int .i64 0) := ⟨_, rfl, (Fr.refl _ _).alloc _, newA rfl⟩
                          have hsid : w3.setCell ⟨w2.heap.size, 4, none⟩ (.int .i64 0) = w3 := setCell_id q3 rfl
                          have hsc3 := (WB.cells q3).c4
                          have hsf3 : w3.frozen? ⟨w2.heap.size, 4, none⟩ = false := free_of q3
                          have g3 := (g.then0 f2).then0 f3
                          have c3 := HC.out _ g3
                          have b3 := HBZ.out _ g3
                          clear ou
                          go_wp2_with fail
                          clear hsid hsc3 hsf3
                          refine (HV1.out _ g3).mono ?_
                          rintro e w4 ⟨v, rfl, f4, u, rfl, ou⟩
                          obtain ⟨ha, hc, rfl, _, _, hs, _⟩ := ou.formB
                          try simp only [List.length_nil]
                          obtain ⟨w5, hw5, f5, q5⟩ : ∃ W, w4.alloc (.cells #[.int .i64 1, .int .i64 0, .int .i64 nn, .slice ha 0 hc, .int .i64 0] 32) = W ∧ Fr [] w4 W ∧ WB W w4.heap.size (.int .i64 1) (.int .i64 0) (.int .i64 nn) (.slice ha 0 hc) (.int .i64 0) := ⟨_, rfl, (Fr.refl _ _).alloc _, newA rfl⟩
                          have hsid2 : w5.setCell ⟨w4.heap.size, 4, none⟩ (.int .i64 0) = w5 := setCell_id q5 rfl
                          have hsc5 := (WB.cells q5).c4
                          have hsf5 : w5.frozen? ⟨w4.heap.size, 4, none⟩ = false := free_of q5
                          have g5 := (g3.then0 f4).then0 f5
                          have c5 := HC.out _ g5
                          have b5 := HBZ.out _ g5
                          have Q3 := Lib.hid (f5.keep (f4.keep q3 (by simp)) (by simp))
                          have G3 := Lib.hid (sl_keep (sl_keep (sl_keep gs f3 (by simp)) f4 (by simp)) f5 (by simp))
                          have G5 := Lib.hid (sl_keep hs f5 (by simp))
                          have Q5 := Lib.hid q5
                          clear ou c3 b3 q3 q5 f2 f3 f4 f5 gs hs g3
                          go_wp2_with fail
                          clear hsid2 hsc5 hsf5
                          refine (HM1.out _ g5).mono ?_
                          rintro e w6 ⟨rfl, f6⟩
                          have g6 := g5.then0 f6
                          have c6 := HC.out _ g6
                          clear c5 b5
                          go_wp2_with fail
                          refine (HX1.out _ g6).mono ?_
                          rintro e w7 ⟨rfl, f7⟩
                          have g7 := g6.then0 f7
                          obtain ⟨x0, x1, x2, x3, x4, _⟩ := WB.cells (f7.keep (f6.keep Q3.out (by simp)) (by simp))
                          obtain ⟨y0, y1, y2, y3, y4, _⟩ := WB.cells (f7.keep (f6.keep Q5.out (by simp)) (by simp))
                          have hcv1 := fun c => conv_st (cap := c) (sl_keep (sl_keep G3.out f6 (by simp)) f7 (by simp)) rfl
                          have hcv2 := fun c => conv_st (cap := c) (sl_keep (sl_keep G5.out f6 (by simp)) f7 (by simp)) rfl
                          try simp only [List.length_nil] at hcv1 hcv2
                          have g7' := Lib.hid g7
                          clear Q3 Q5 G3 G5 c6 f6 f7 g5 g6 g7 HN0 HN1 HV0 HV1 HM0 HM1 HX0 HX1
                          go_wp2_with fail
                          go_roundw
                          case rel => exact ⟨2, by omega, rfl, g7'.out⟩
                          case measure => simp [intOf]
                    · have HF := Lib.hid (And.intro (g8.out.then0 g) (And.intro (a8.out.keep g g8.out.size (by simp)) (Al.out.keep0 g)))
                      clear HN0 HN1 HV0 HV1 HM0 HM1 HX0 HX1 g c0 c1 g8 a8 Al
                      go_wp2_with fail
                      go_roundw
                      case rel => (repeat apply Exists.intro); exact ⟨⟨k + 1, s2, by omega, by go_num, HI2, Lib.hid HF.out.2.2, HF.out.1, HF.out.2.1⟩, rfl⟩
                      case measure => simp [intOf]; omega
            · have HI2 : Hid (s.t0.rd ≤ (((k + 1 : Nat) : Int)) * 5000 ∧ s.t1.rd ≤ (((k + 1 : Nat) : Int)) * 5000) := Lib.hid (by have h1 := HI.out; have h3 := HIK.out; exact ⟨by omega, by omega⟩)
              go_wp2_with fail
              go_roundw
              case rel => (repeat apply Exists.intro); exact ⟨⟨k + 1, s, by omega, by go_num, HI2, Al5, HG5.out, HA5.out⟩, rfl⟩
              case measure => simp [intOf]; omega
        · as_aux_lemma =>
            go_wp2_with fail
            refine (known22 _).mono ?_
            rintro e w99 ⟨rfl, f99⟩
            go_wp2_with fail
            go_ret
            exact ⟨rfl, gr.then0 f99⟩


theorem spliceAlone_walk {a : Option Addr} {len cap : Nat} (st : Int) (w : World) (h : ∃ A, Acts22 w w.heap.size a len cap A) :
    Calls Try.prog 8 #[.int .i64 st, .slice a len cap] w fun e w' => e = .returned (.bool true) ∧ Fr [] w w' := by
  obtain ⟨A, hA⟩ := h
  have HF := few22 hA
  by_cases hs : fewB22 A = true
  · by_cases hk : okS st (-1) = true
    · exact spliceAlone_main w hk hA hs
    · rw [hs] at HF
      have hk' : okS st (-1) = false := by simpa using hk
      have HVA := Lib.hid fun w => hk' ▸ rvalid w st (-1)
      replace HF := Lib.hid HF
      clear hs hk hk' hA
      go_enter Try.func8, Try.ntmps8
      go_wp2_with fail
      refine HF.out.mono ?_
      rintro e w' ⟨rfl, rfl⟩
      go_wp2_with fail
      refine (HVA.out _).mono ?_
      rintro e w' ⟨rfl, rfl⟩
      go_wp2_with fail
      refine (known22 _).mono ?_
      rintro e w' ⟨rfl, f⟩
      go_wp2_with fail
      go_ret
      exact ⟨rfl, f⟩
  · rw [show fewB22 A = false from by simpa using hs] at HF
    replace HF := Lib.hid HF
    clear hs hA
    go_enter Try.func8, Try.ntmps8
    go_wp2_with fail
    refine HF.out.mono ?_
    rintro e w' ⟨rfl, rfl⟩
    go_wp2_with fail
    refine (known22 _).mono ?_
    rintro e w' ⟨rfl, f⟩
    go_wp2_with fail
    go_ret
    exact ⟨rfl, f⟩
end Go.Proofs.Ytodpkdbcdbdjfaa
