/-
  Law 15: DuplexHolds: what one end reads is a beginning of what was accepted from the other one.
-/
import Derived.Test.YtdoamelhclnphaaDxHoldD
import Derived.Test.YtdoamelhclnphaaLaw15
import Derived.Test.YtdoamelhclnphaaKnown15
import Derived.Test.YtdoamelhclnphaaRegionU
import Derived.Test.YtdoamelhclnphaaStB
import Derived.Deep.DeepCutAuto
import Derived.Deep.CutBlock
namespace Go.Proofs.Ytdoamelhclnphaa
open Go.RowKit
set_option maxRecDepth 100000

theorem st_self15h (l : List UInt8) : (st l != st l) = false := by
  have h : (st l == st l) = true := by
    show (l.toArray == l.toArray) = true
    simp
  unfold bne
  rw [h]
  rfl
theorem run_capg {a : Option Addr} {n c g : Nat} (hg : g ≤ n) (hc : n ≤ c) (w : World) : (Instr.slice 29 (.slice a n c) none (some (.int .i64 g)) (some (.int .i64 g))).run Try.prog w = .ok (.slice a g g) w := by
  have hs : ∀ w, (sizeOf (Try.prog.elem 29)).run Try.prog w = .ok 1 w := fun _ => by kernel_rfl
  rw [run_slice_hm (P := Try.prog) (w := w) (t := 29) (a := a) (len := n) (cap := c) (by kernel_rfl) .i64 .i64 (g : Int) (g : Int) (by omega) (by omega) (by omega), hs]
  simp [Result.andThen, sliced]
  intro _
  cases a <;> simp [Addr.add]
theorem r15_endh (w : World) (k : Int) : Calls Try.prog 50 #[.int .i64 k] w fun e w' => e = .returned (.bool (decide (k = 0 ∨ k = 1))) ∧ w = w' := by
  by_cases h0 : k = 0
  · subst h0
    go_enter Try.func50, Try.ntmps50
    go_wp2_with fail
    go_ret
    exact ⟨rfl, rfl⟩
  · have g0 : (k == 0) = false := by simpa using h0
    by_cases h1 : k = 1
    · subst h1
      go_enter Try.func50, Try.ntmps50
      go_wp2_with fail
      go_ret
      exact ⟨rfl, rfl⟩
    · have g1 : (k == 1) = false := by simpa using h1
      go_enter Try.func50, Try.ntmps50
      go_wp2_with fail
      go_ret
      exact ⟨by simp [h0, h1], rfl⟩
theorem sl_takeB {w : World} {a : Option Addr} {l : List UInt8} (h : Sl w a (bi l)) (n : Nat) : Sl w a (bi (l.take n)) := by
  rw [bi_take]
  exact h.take n
theorem sumC_take_le {A : List A15} (k : Nat) : sumC (A.take k) ≤ sumC A := by
  unfold sumC
  conv => rhs; rw [← List.take_append_drop k A, List.map_append, List.sum_append]
  omega
set_option maxHeartbeats 40000000 in
theorem duplexHolds_main {c0 c1 : Int} {a : Option Addr} {len cap : Nat} {A : List A15} (w : World) (hc0 : 0 ≤ c0 ∧ c0 ≤ 4096) (hc1 : 0 ≤ c1 ∧ c1 ≤ 4096) (hA : Acts15 w w.heap.size a len cap A) (hs : fewB15 A = true) :
    Calls Try.prog 8 #[.int .i64 c0, .int .i64 c1, .slice a len cap] w fun e w' => e = .returned (.bool true) ∧ Fr [] w w' := by
  have hle := hA.len_eq
  subst hle
  have HFW := Lib.hid (hs ▸ few15 hA)
  obtain ⟨hl20, hok, hsum⟩ := fewB15_iff hs
  have HOKS : Hid (∀ x ∈ A, x.ps.length ≤ 100 ∧ tot x.ps ≤ 3000) := Lib.hid (fun x hx => hok x hx)
  have H3000 := Lib.hid hsum
  have hl20' : (A.length : Int) ≤ 20 := by omega
  have HA0 := Lib.hid hA
  have HN1 := Lib.hid fun w1 => dx_new w1 hc0 hc1
  have HD0 : Hid (HD ⟨newM c0, newM c1, false, false⟩ [] [] [] [] 0 0 false false false false false false) := Lib.hid ⟨HY.new hc0.1 hc0.2, HY.new hc1.1 hc1.2, rfl, rfl, fun h => absurd rfl h, fun h => absurd rfl h, fun h => absurd rfl h, fun h => absurd rfl h, fun h => by simp at h, fun h => by simp at h⟩
  generalize newM c0 = n0 at *
  generalize newM c1 = n1 at *
  clear hs hok hsum hl20 hA hc0 hc1
  go_enter Try.func8, Try.ntmps8
  go_wp2_with fail
  refine HFW.out.mono ?_
  rintro e w0 ⟨rfl, f0⟩
  have HF0 := Lib.hid f0
  clear f0 HFW
  go_wp2_with fail
  refine (HN1.out _).mono ?_
  rintro e w1 ⟨dx, Fx, rfl, f1, l1, hd1⟩
  obtain ⟨Q, hQ⟩ : ∃ Q, w1.heap.size = Q := ⟨_, rfl⟩
  obtain ⟨w2, hw2, g2, q9, q10, q11, q12, q13, q14⟩ : ∃ W, W = (((((w1.alloc (.cells #[.slice none 0 0, .slice none 0 0] 91)).alloc (.cells #[.slice none 0 0, .slice none 0 0] 91)).alloc (.cells #[.int .i64 0, .int .i64 0] 92)).alloc (.cells #[.bool false, .bool false] 25)).alloc (.cells #[.bool false, .bool false] 25)).alloc (.cells #[.bool false, .bool false] 25) ∧ Fr [] w1 W ∧ W.heap[Q]? = some (.cells #[.slice none 0 0, .slice none 0 0] 91 (0, 0)) ∧ W.heap[Q + 1]? = some (.cells #[.slice none 0 0, .slice none 0 0] 91 (0, 0)) ∧ W.heap[Q + 2]? = some (.cells #[.int .i64 0, .int .i64 0] 92 (0, 0)) ∧ W.heap[Q + 3]? = some (.cells #[.bool false, .bool false] 25 (0, 0)) ∧ W.heap[Q + 4]? = some (.cells #[.bool false, .bool false] 25 (0, 0)) ∧ W.heap[Q + 5]? = some (.cells #[.bool false, .bool false] 25 (0, 0)) := by
    subst hQ
    exact ⟨_, rfl, ((((((Fr.refl _ _).alloc _).alloc _).alloc _).alloc _).alloc _).alloc _, keepA (keepA (keepA (keepA (keepA (newA rfl))))), keepA (keepA (keepA (keepA (newA (by simp))))), keepA (keepA (keepA (newA (by simp)))), keepA (keepA (newA (by simp))), keepA (newA (by simp)), newA (by simp)⟩
  have z14 := lt_of_heap q14
  have HG2 := Lib.hid ((HF0.out.then0 f1).then0 g2)
  have hFx := hd1.lt
  have zF0 := HF0.out.size
  have z1 := f1.size
  have HM2 : Hid (DHM w w2 Q Fx dx ⟨n0, n1, false, false⟩ (.slice none 0 0) (.slice none 0 0) (.slice none 0 0) (.slice none 0 0) [] [] [] []) := Lib.hid ⟨hd1.keep0 g2, fun x hx => ⟨by have := l1 x hx; omega, .inl (by have := hFx x hx; omega)⟩, .inl ⟨rfl, rfl⟩, .inl ⟨rfl, rfl⟩, Ow.nil _ _ _, Ow.nil _ _ _, by simp [Value.ownBlock], by simp [Value.ownBlock], by simp [Value.ownBlock], by simp [Value.ownBlock], by omega, by omega⟩
  have HB2 : Hid (D6 w2 Q (.slice none 0 0) (.slice none 0 0) (.slice none 0 0) (.slice none 0 0) 0 0 false false false false false false) := Lib.hid ⟨q9, q10, q11, q12, q13, q14⟩
  have HA2 := Lib.hid (HA0.out.keep HG2.out (Nat.le_refl _) (by simp))
  clear q9 q10 q11 q12 q13 q14 hd1 l1 f1 g2 HF0 HA0 HN1 z14 zF0 z1 hFx
  go_wp2_with fail
  rw [← hw2]
  try rw [hQ]
  clear hw2
  simp only [Nat.add_assoc, Nat.reduceAdd]
  go_loopw [15] (fun i wr => ∃ (k : Nat) (F : Nat → Prop) (s : DM) (b0 b1 r0 r1 : Value) (B0 B1 R0 R1 : List UInt8) (f0 f1 : Int) (y0 y1 k0 k1 h0 h1 : Bool), k ≤ A.length ∧ i = .int .i64 k ∧ Hid (DHM w wr Q F dx s b0 b1 r0 r1 B0 B1 R0 R1) ∧ Hid (D6 wr Q b0 b1 r0 r1 f0 f1 y0 y1 k0 k1 h0 h1) ∧ Hid (HD s B0 B1 R0 R1 f0 f1 y0 y1 k0 k1 h0 h1 ∧ B0.length ≤ sumC (A.take k) ∧ B1.length ≤ sumC (A.take k)) ∧ Hid (Fr [] w wr) ∧ Hid (Acts15 wr w.heap.size a A.length cap A)) (fun i _ => A.length - (intOf i).toNat)
  case atStart => exact ⟨0, Fx, _, _, _, _, _, [], [], [], [], 0, 0, false, false, false, false, false, false, by omega, rfl, HM2, HB2, Lib.hid ⟨HD0.out, by simp, by simp⟩, HG2, HA2⟩
  case round =>
    clear HM2 HB2 HG2 HA2 HD0
    obtain ⟨k, F, s, b0, b1, r0, r1, B0, B1, R0, R1, f0, f1, y0, y1, k0, k1, h0, h1, hk, rfl, HM, HB, HH, HG, HA⟩ := hrel
    rename World => wr
    by_cases hlt : (k : Int) < A.length
    · have hkA : k < A.length := by omega
      obtain ⟨ab, ao, pa, pl, pc, rfl, habM, hab, i0, i1, i2, i3, hp⟩ := HA.out.at_ k hkA
      have hok := HOKS.out A[k] (List.getElem_mem hkA)
      have hsb := sumC_succ hkA
      have htk := sumC_take_le (A := A) (k + 1)
      generalize A[k] = ak at i0 i1 i2 i3 hp hok hsb
      obtain ⟨what, en, ps, n⟩ := ak
      dsimp only at i0 i1 i2 i3 hp hok hsb
      have hpl := hp.len_eq
      subst hpl
      have HFA := Lib.hid fun (w' : World) (f : Fr [] wr w') => (show w'.cell? ⟨ab, ao + k * 4, none⟩ = some (.int .i64 what) ∧ w'.cell? ⟨ab, ao + k * 4 + 1, none⟩ = some (.int .i64 en) ∧ w'.cell? ⟨ab, ao + k * 4 + 2, none⟩ = some (.slice pa ps.length pc) ∧ w'.cell? ⟨ab, ao + k * 4 + 3, none⟩ = some (.int .i64 n) from ⟨(World.cell?_of_block (w := wr) (f.block ab hab (by simp))).trans i0, (World.cell?_of_block (w := wr) (f.block ab hab (by simp))).trans i1, (World.cell?_of_block (w := wr) (f.block ab hab (by simp))).trans i2, (World.cell?_of_block (w := wr) (f.block ab hab (by simp))).trans i3⟩)
      go_wp2_with fail
      have fd : Fr [] wr wr.drew := (Fr.refl _ _).drew
      refine wp_region_order [(0, true), (1, true), (2, true), (3, true), (4, true), (5, true), (6, true), (7, true), (8, true), (9, false), (10, false), (11, true)] (fun w' => Fr [] wr w') (by kernel_rfl) (by kernel_rfl) fd ?_
      intro OPS HOPS
      have hops := HOPS.out
      try simp only [List.append_eq, List.cons_append, List.nil_append] at hops
      replace HOPS := Lib.hid hops
      clear hops
      refine walkO_take (o := _) (v := ?_) (by rw [HOPS.out]; simp only [List.getElem?_toArray, List.getElem?_cons_succ, List.getElem?_cons_zero]; exact rfl) (Or.inl ⟨rfl, ?_⟩) ?_
      rotate_left
      · (intro w hSw; have hSx := HFA.out _ hSw; (try dsimp only at hSx); clear hSw; go_simp) <;> (with_reducible rfl)
      simp only [Act.put, List.setIfInBounds_toArray, List.set_cons_zero, List.set_cons_succ]
      refine walkO_take (o := _) (v := ?_) (by rw [HOPS.out]; simp only [List.getElem?_toArray, List.getElem?_cons_succ, List.getElem?_cons_zero]; exact rfl) (Or.inl ⟨rfl, ?_⟩) ?_
      rotate_left
      · (intro w hSw; have hSx := HFA.out _ hSw; (try dsimp only at hSx); clear hSw; go_simp) <;> (with_reducible rfl)
      simp only [Act.put, List.setIfInBounds_toArray, List.set_cons_zero, List.set_cons_succ]
      refine walkO_take (o := _) (v := ?_) (by rw [HOPS.out]; simp only [List.getElem?_toArray, List.getElem?_cons_succ, List.getElem?_cons_zero]; exact rfl) (Or.inl ⟨rfl, ?_⟩) ?_
      rotate_left
      · (intro w hSw; have hSx := HFA.out _ hSw; (try dsimp only at hSx); clear hSw; go_simp) <;> (with_reducible rfl)
      simp only [Act.put, List.setIfInBounds_toArray, List.set_cons_zero, List.set_cons_succ]
      refine walkO_take (o := _) (v := ?_) (by rw [HOPS.out]; simp only [List.getElem?_toArray, List.getElem?_cons_succ, List.getElem?_cons_zero]; exact rfl) (Or.inl ⟨rfl, ?_⟩) ?_
      rotate_left
      · (intro w hSw; have hSx := HFA.out _ hSw; (try dsimp only at hSx); clear hSw; go_simp) <;> (with_reducible rfl)
      simp only [Act.put, List.setIfInBounds_toArray, List.set_cons_zero, List.set_cons_succ]
      refine walkO_take (o := _) (v := ?_) (by rw [HOPS.out]; simp only [List.getElem?_toArray, List.getElem?_cons_succ, List.getElem?_cons_zero]; exact rfl) (Or.inl ⟨rfl, ?_⟩) ?_
      rotate_left
      · (intro w hSw; have hSx := HFA.out _ hSw; (try dsimp only at hSx); clear hSw; go_simp) <;> (with_reducible rfl)
      simp only [Act.put, List.setIfInBounds_toArray, List.set_cons_zero, List.set_cons_succ]
      refine walkO_take (o := _) (v := ?_) (by rw [HOPS.out]; simp only [List.getElem?_toArray, List.getElem?_cons_succ, List.getElem?_cons_zero]; exact rfl) (Or.inl ⟨rfl, ?_⟩) ?_
      rotate_left
      · (intro w hSw; have hSx := HFA.out _ hSw; (try dsimp only at hSx); clear hSw; go_simp) <;> (with_reducible rfl)
      simp only [Act.put, List.setIfInBounds_toArray, List.set_cons_zero, List.set_cons_succ]
      refine walkO_take (o := _) (v := ?_) (by rw [HOPS.out]; simp only [List.getElem?_toArray, List.getElem?_cons_succ, List.getElem?_cons_zero]; exact rfl) (Or.inl ⟨rfl, ?_⟩) ?_
      rotate_left
      · (intro w hSw; have hSx := HFA.out _ hSw; (try dsimp only at hSx); clear hSw; go_simp) <;> (with_reducible rfl)
      simp only [Act.put, List.setIfInBounds_toArray, List.set_cons_zero, List.set_cons_succ]
      refine walkO_take (o := _) (v := ?_) (by rw [HOPS.out]; simp only [List.getElem?_toArray, List.getElem?_cons_succ, List.getElem?_cons_zero]; exact rfl) (Or.inl ⟨rfl, ?_⟩) ?_
      rotate_left
      · (intro w hSw; have hSx := HFA.out _ hSw; (try dsimp only at hSx); clear hSw; go_simp) <;> (with_reducible rfl)
      simp only [Act.put, List.setIfInBounds_toArray, List.set_cons_zero, List.set_cons_succ]
      refine walkO_take (o := _) (v := ?_) (by rw [HOPS.out]; simp only [List.getElem?_toArray, List.getElem?_cons_succ, List.getElem?_cons_zero]; exact rfl) (Or.inl ⟨rfl, ?_⟩) ?_
      rotate_left
      · (intro w hSw; have hSx := HFA.out _ hSw; (try dsimp only at hSx); clear hSw; go_simp) <;> (with_reducible rfl)
      simp only [Act.put, List.setIfInBounds_toArray, List.set_cons_zero, List.set_cons_succ]
      refine walkO_call (o := _) (by rw [HOPS.out]; simp only [List.getElem?_toArray, List.getElem?_cons_succ, List.getElem?_cons_zero]; exact rfl) (fun K HK => ?_)
      go_simp
      obtain ⟨u1, hu1, fu1, qu1⟩ : ∃ W, ((wr.alloc (.cells #[.int .i64 0, .int .i64 0, .slice none 0 0, .int .i64 0] 94)).drew) = W ∧ Fr [] wr W ∧ W.heap[wr.heap.size]? = some (.cells #[.int .i64 0, .int .i64 0, .slice none 0 0, .int .i64 0] 94 (0, 0)) := ⟨_, rfl, ((Fr.refl _ _).alloc _).drew, newA rfl⟩
      try rw [hu1]
      refine HK.out (fun w' => Fr [] wr w') _ _ (fun _ h => h) (fu1) ?_
      clear HK K
      try simp only [Act.put, List.setIfInBounds_toArray, List.set_cons_zero, List.set_cons_succ]
      refine walkO_call (o := _) (by rw [HOPS.out]; simp only [List.getElem?_toArray, List.getElem?_cons_succ, List.getElem?_cons_zero]; exact rfl) (fun K HK => ?_)
      refine step_store_row rfl 94 (.tmp 16) (.tmp 54) rfl wr.heap.size #[.int .i64 what, .int .i64 en, .slice pa ps.length pc, .int .i64 n] (by simp [Act.eval]) (by simp [Act.eval]) _ _ qu1 (by kernel_rfl) rfl (by simp [Value.oneCell']) ?_
      intro w5 ff q5
      have f5 : Fr [] wr w5 := fu1.trans ff (by simp) (fun x hx => .inr (by simp at hx; omega))
      refine HK.out (fun w' => Fr [] wr w') _ _ (fun _ h => h) (f5) ?_
      clear HK K
      try simp only [Act.put, List.setIfInBounds_toArray, List.set_cons_zero, List.set_cons_succ]
      refine walkO_take (o := _) (v := ?_) (by rw [HOPS.out]; simp only [List.getElem?_toArray, List.getElem?_cons_succ, List.getElem?_cons_zero]; exact rfl) (Or.inl ⟨rfl, ?_⟩) ?_
      rotate_left
      · (intro w hSw; have hSx := HFA.out _ hSw; (try dsimp only at hSx); clear hSw; go_simp) <;> (with_reducible rfl)
      simp only [Act.put, List.setIfInBounds_toArray, List.set_cons_zero, List.set_cons_succ]
      refine walkO_done ?_
      clear HOPS OPS
      clear HFA fd ff fu1 qu1 hu1
      have e0 : w5.cell? ⟨wr.heap.size, 0, none⟩ = some (.int .i64 what) := cell_of q5
      have e1 : w5.cell? ⟨wr.heap.size, 1, none⟩ = some (.int .i64 en) := cell_of q5
      have e2 : w5.cell? ⟨wr.heap.size, 2, none⟩ = some (.slice pa ps.length pc) := cell_of q5
      have e3 : w5.cell? ⟨wr.heap.size, 3, none⟩ = some (.int .i64 n) := cell_of q5
      have hbx5 : wr.heap.size < w5.heap.size := lt_of_heap q5
      have HQ5 := Lib.hid q5
      have hlts := HM.out.lts
      have hFl : ∀ x, F x → x < wr.heap.size := hlts.2.2.2.2
      have HROW := Lib.hid (And.intro (fun g e => (hlts.2.2.1 g e).2) (fun g e => (hlts.2.2.2.1 g e).2))
      have hQr : Q + 6 ≤ wr.heap.size := HM.out.hq
      have hwQ : w.heap.size ≤ Q := HM.out.hw
      have HM5 := Lib.hid (HM.out.keep0 f5)
      have HB5 := Lib.hid (HB.out.keep0 f5)
      have HG5 := Lib.hid (HG.out.then0 f5)
      have HA5 := Lib.hid (HA.out.keep f5 HG.out.size (by simp))
      have HPP := Lib.hid (hp.keep f5 (by simp))
      have HOK := Lib.hid hok
      have HSB := Lib.hid hsb
      have HTK := Lib.hid htk
      have HEN := Lib.hid fun (w : World) (k : Int) => r15_endh w k
      obtain ⟨bb0, bb1, F0, F1, hR⟩ := HM5.out.x
      clear q5 f5 hp hok hsb htk hlts
      by_cases he : en = 0 ∨ en = 1
      · clear habM
        have hd : decide (en = 0 ∨ en = 1) = true := by simpa using he
        go_wp2_with fail
        refine (HEN.out _ _).mono ?_
        rintro e w' ⟨rfl, rfl⟩
        rw [hd]
        clear HEN HM HB HG HA hd
        generalize hX : wr.heap.size = X at *
        go_upto_block 2 with fail
        clear i0 i1 i2 i3
        go_cut [18] (fun vf wx => ∃ (fe : Int) (F2 : Nat → Prop) (s2 : DM) (b0' b1' r0' r1' : Value) (B0' B1' R0' R1' : List UInt8) (f0' f1' : Int) (y0' y1' k0' k1' h0' h1' : Bool), vf = .int .i64 fe ∧ Hid (DHM w wx Q F2 dx s2 (b0') (b1') (r0') (r1') (B0') (B1') (R0') (R1')) ∧ Hid (D6 wx Q (b0') (b1') (r0') (r1') (f0') (f1') (y0') (y1') (k0') (k1') (h0') (h1')) ∧ Hid (HD s2 (B0') (B1') (R0') (R1') (f0') (f1') (y0') (y1') (k0') (k1') (h0') (h1') ∧ B0'.length ≤ sumC (A.take (k + 1)) ∧ B1'.length ≤ sumC (A.take (k + 1))) ∧ Hid (Fr [] w wx) ∧ Hid (Acts15 wx w.heap.size (some ⟨ab, ao, none⟩) A.length cap A) ∧ Hid (wx.heap[X]? = some (.cells #[.int .i64 what, .int .i64 en, .slice pa ps.length pc, .int .i64 n] 94 (0, 0))) ∧ Hid ((fe = 14 → Some4 k0' k1' h0' h1') ∧ (what = 3 → fe = 13 → (en = 0 → ((R1'.length : Nat) : Int) = f1' + s2.m1.acc) ∧ (en = 1 → ((R0'.length : Nat) : Int) = f0' + s2.m0.acc))))
        case first =>
          rcases he with rfl | rfl
          · skip
            rcases Bool.eq_false_or_eq_true (what == 0) with q0 | q0
            · obtain rfl : what = 0 := by simpa using q0
              as_aux_lemma =>
                obtain ⟨g, hgf⟩ : ∃ g : Nat, f0 = g := ⟨f0.toNat, by have := HH.out.1.a0.f0; omega⟩
                subst hgf
                obtain ⟨t1, _, t3, _, _⟩ := HH.out.1.tail0
                have hgB : g ≤ B0.length := by omega
                have hlB := HH.out.2
                have hb3 : B0.length ≤ 3000 := by have := H3000.out; have := HTK.out; have := HSB.out; omega
                obtain ⟨vs, hvl, hsv, hone, hvp⟩ := HPP.out.at_.vals
                have hps := HOK.out.1
                have htt := HOK.out.2
                have HV := Lib.hid hvp
                have HSV := Lib.hid hsv
                have HONE := Lib.hid hone
                have HVL := Lib.hid hvl
                have HU2 : Hid (Try.prog.underlying 53 = some (.slice 29)) := Lib.hid Try.underlying53
                have HI2 : Hid ((Try.prog.info? 29).map (fun i => (i.zero, i.size, i.bytes)) = some (some (.slice none 0 0), 1, 24)) := Lib.hid (by kernel_rfl)
                have H3p : Hid (([] : List Value).length + ps.length ≤ maxLen) := Lib.hid (by unfold maxLen; simp; omega)
                have H4p : Hid ((([] : List Value).length + ps.length) * 24 ≤ 140737488355328) := Lib.hid (by simp; omega)
                have htf := tot_eq ps
                obtain ⟨fl, hfl⟩ : ∃ l, ps.flatten = l := ⟨_, rfl⟩
                rw [hfl] at htf
                have hof : (own ps).flatten = fl := by rw [own_flat, hfl]
                have HTF := Lib.hid (And.intro htf (And.intro htt hps))
                have hj0 := fun w' (f : Fr [] w5 w') => join15 ((HPP.out.keep f (by simp)).at_) (len := ps.length) (cap := pc) rfl (by omega) (by omega)
                rw [hfl] at hj0
                have HJ := Lib.hid hj0
                have HFL := Lib.hid hfl
                have HOF := Lib.hid hof
                clear hvp hsv hone hvl htt hps hj0 hof hfl t1 t3
                go_wp2_with (refine wpList_append_fr _ rfl (.const (.slice none 0 0)) (.tmp 78) 53 rfl 29 (.slice none 0 0) 24 HU2.out HI2.out rfl w5.heap.size (.slice none 0 0) [] (by exact rfl) (Ow.nil _ _ _) pa ps.length pc vs (by exact rfl) HVL.out HSV.out HONE.out H3p.out H4p.out (Nat.le_refl _) ?_)
                intro v6 wa o6 f6' _
                have fa : Fr [] w5 wa := f6'
                clear f6'
                obtain ⟨na, nc, rfl, hnc, hncm, hpa⟩ := PartsAt.copied o6.out HVL.out HV.out fa (by simp)
                have HNEW := Lib.hid (rope_new (cap := nc) hpa rfl (by have := HTF.out.2.2; unfold maxLen; omega))
                clear hpa o6 hnc hncm HV HSV HONE HVL HU2 HI2 H3p H4p
                go_wp2_with fail
                refine HNEW.out.mono ?_
                rintro e wb ⟨fb, he⟩
                rw [if_neg (by have := HTF.out.2.2; have := (show (own ps).length ≤ ps.length from List.length_filter_le _ _); omega), if_neg (by have := HTF.out.2.1; omega)] at he
                obtain ⟨v, rfl, hr⟩ := he
                obtain ⟨ra, rc, rfl, _⟩ := id hr
                clear HNEW
                obtain ⟨wc, hwc, fc, qc⟩ : ∃ W, wb.alloc (.cells #[.slice ra (own ps).length rc, .int .i64 (tot (own ps))] 57) = W ∧ Fr [] wb W ∧ W.heap[wb.heap.size]? = some (.cells #[.slice ra (own ps).length rc, .int .i64 (tot (own ps))] 57 (0, 0)) := ⟨_, rfl, (Fr.refl _ _).alloc _, newA rfl⟩
                have za := fa.size
                have zb := fb.size
                have zc := lt_of_heap qc
                have g5c := (fa.then0 fb).then0 fc
                have r0 : wc.cell? ⟨wb.heap.size, 0, none⟩ = some (.slice ra (own ps).length rc) := cell_of qc
                have r1 : wc.cell? ⟨wb.heap.size, 1, none⟩ = some (.int .i64 (tot (own ps))) := cell_of qc
                have hFl2 := hFl
                have hcall := dx_begin0 (hR.keep g5c (by simp)) (N2 := fun x => w5.heap.size ≤ x) ((hr.keep fc (by simp)).mono (fun x hx => by omega)) (fun x hx hn => by have := hFl2 x hx; omega)
                rw [HOF.out] at hcall
                have HC := Lib.hid hcall
                have HG5c := Lib.hid g5c
                clear hcall hr qc fa fb fc g5c hR hFl2
                go_wp2_with fail
                refine HC.out.mono ?_
                rintro e w6 ⟨rfl, hp0⟩
                have hp := hp0.ahead HG5c.out
                clear hp0
                obtain ⟨S6, F6, f6, hS6, hm6⟩ := HM5.out.call (G := (fun x => w5.heap.size ≤ x ∧ x < wc.heap.size)) (fun x hx => hx.1) hp
                have hfx := HM5.out.fx
                have hq5 := HM5.out.hq
                have hb6 := HB5.out.keep f6 (fun x hx => by rcases hS6 x hx with h | h; exact (hfx x h).2; exact .inr (by omega))
                have q6 := f6.keep HQ5.out (fun hm => by rcases hS6 _ hm with h | h; exact Nat.lt_irrefl _ (hFl _ h); omega)
                have hM6 : ∀ x ∈ S6, w.heap.size ≤ x := fun x hx => by rcases hS6 x hx with h | h; exact (hfx x h).1; omega
                have g6 := HG5.out.trans f6 (U := []) (by simp) (fun x hx => .inr (hM6 x hx))
                have a6 := HA5.out.keep f6 HG5.out.size hM6
                have HPP6 := Lib.hid (HPP.out.keep f6 hM6)
                have H6 := Lib.hid (And.intro hm6 (And.intro hb6 (And.intro q6 (And.intro g6 a6))))
                clear hm6 hb6 q6 g6 a6 hfx hq5 hS6 hM6
                clear HC f6 r0 r1
                by_cases herr : (beginM s.m0 fl).err = 0
                · obtain ⟨hN, hy, _⟩ := HH.out.1.begin0 (X := fl) (by have := HTF.out.1; have := HTF.out.2.1; omega) herr
                  rw [Int.toNat_natCast] at hN
                  rw [herr]
                  have HNE := Lib.hid hN
                  clear hN hy
                  obtain ⟨ba, bc, rfl, hbc, bsl, _, _⟩ := H6.out.1.p0.sl
                  have HBS := Lib.hid fun w' (f : Fr [] w6 w') => (show SlV w' ba ((bi (B0.take g)).map (Value.int .u8)) from by rw [bi_take, List.map_take]; exact ((sl_keep bsl f (by simp)).toV).take g)
                  have HUU : Hid (Try.prog.underlying 29 = some (.slice 5)) := Lib.hid Try.underlying29
                  have HIN : Hid ((Try.prog.info? 5).map (fun i => (i.zero, i.size, i.bytes)) = some (some (.int .u8 0), 1, 1)) := Lib.hid (by kernel_rfl)
                  have H3 : Hid (g + fl.length ≤ maxLen) := Lib.hid (by have := HTF.out.1; have := HTF.out.2.1; unfold maxLen; omega)
                  have H4 : Hid ((g + fl.length) * 1 ≤ 140737488355328) := Lib.hid (by have := HTF.out.1; have := HTF.out.2.1; omega)
                  have HL1 : Hid (((bi (B0.take g)).map (Value.int .u8)).length = g) := Lib.hid (by rw [List.length_map, bi_length, List.length_take]; omega)
                  have HL2 : Hid (((bi fl).map (Value.int .u8)).length = fl.length) := Lib.hid (by simp [bi_length])
                  have HO := Lib.hid (bytes_one (bi fl))
                  have HJ6 := Lib.hid fun w' (f : Fr [] w6 w') => join15 ((HPP6.out.keep f (by simp)).at_) (len := ps.length) (cap := pc) rfl (by have := HTF.out.2.2; omega) (by have := HTF.out.2.1; omega)
                  have hz6 := H6.out.1.hq
                  have HFA := Lib.hid fun (w' : World) (f : Fr [Q, Q + 3] w6 w') => (show w'.cell? ⟨Q + 2, 0, none⟩ = some (.int .i64 g) ∧ w'.cell? ⟨X, 2, none⟩ = some (.slice pa ps.length pc) ∧ (Instr.slice 29 (.slice ba B0.length bc) none (some (.int .i64 g)) (some (.int .i64 g))).run Try.prog w' = .ok (.slice ba g g) w' from ⟨cell_of (f.keep H6.out.2.1.q2 (by simp)), cell_of (f.keep H6.out.2.2.1 (by simp; omega)), run_capg hgB hbc w'⟩)
                  have hqc := H6.out.2.1
                  rw [HFL.out] at HJ6
                  have HEJ := Lib.hid (Go.Proofs.enters_of Try.func30 (by kernel_rfl) rfl)
                  clear bsl
                  go_wp2_with fail
                  have fd : Fr [] w6 w6.drew := (Fr.refl _ _).drew
                  have fdS : Fr [Q, Q + 3] w6 w6.drew := fd.trans (Fr.refl _ _ : Fr [Q, Q + 3] _ _) (by simp) (fun x hx => .inl hx)
                  refine wp_region_tree (.take 0 (.take 1 (.take 2 (.take 3 (.take 5 (.take 6 (.take 7 (.take 8 (.take 9 (.take 10 (.take 12 (.take 13 (.two 4 14 (.take 11 (.one 14 (.one 15 (.take 16 (.one 17 (.take 18 (.one 19 .nil))))))) (.one 4 (.take 11 (.one 15 (.take 16 (.one 17 (.take 18 (.one 19 .nil)))))))))))))))))))) (fun w' => Fr [Q, Q + 3] w6 w') (by kernel_rfl) (by kernel_rfl) fdS ?_
                  intro OPS HOPS
                  have hops := HOPS.out
                  try simp only [List.append_eq, List.cons_append, List.nil_append] at hops
                  replace HOPS := Lib.hid hops
                  clear hops
                  refine walkT_take (o := _) (v := ?_) (by rw [HOPS.out]; simp only [List.getElem?_toArray, List.getElem?_cons_succ, List.getElem?_cons_zero]; exact rfl) (Or.inl ⟨rfl, ?_⟩) ?_
                  rotate_left
                  · (intro w hSw; have hSx := HFA.out _ hSw; (try dsimp only at hSx); clear hSw; go_simp) <;> (with_reducible rfl)
                  simp only [Act.put, List.setIfInBounds_toArray, List.set_cons_zero, List.set_cons_succ]
                  refine walkT_take (o := _) (v := ?_) (by rw [HOPS.out]; simp only [List.getElem?_toArray, List.getElem?_cons_succ, List.getElem?_cons_zero]; exact rfl) (Or.inl ⟨rfl, ?_⟩) ?_
                  rotate_left
                  · (intro w hSw; have hSx := HFA.out _ hSw; (try dsimp only at hSx); clear hSw; go_simp) <;> (with_reducible rfl)
                  simp only [Act.put, List.setIfInBounds_toArray, List.set_cons_zero, List.set_cons_succ]
                  refine walkT_take (o := _) (v := ?_) (by rw [HOPS.out]; simp only [List.getElem?_toArray, List.getElem?_cons_succ, List.getElem?_cons_zero]; exact rfl) (Or.inl ⟨rfl, ?_⟩) ?_
                  rotate_left
                  · (intro w hSw; have hSx := HFA.out _ hSw; (try dsimp only at hSx); clear hSw; go_simp) <;> (with_reducible rfl)
                  simp only [Act.put, List.setIfInBounds_toArray, List.set_cons_zero, List.set_cons_succ]
                  refine walkT_take (o := _) (v := ?_) (by rw [HOPS.out]; simp only [List.getElem?_toArray, List.getElem?_cons_succ, List.getElem?_cons_zero]; exact rfl) (Or.inl ⟨rfl, ?_⟩) ?_
                  rotate_left
                  · (intro w hSw; have hSx := HFA.out _ hSw; (try dsimp only at hSx); clear hSw; go_simp) <;> (with_reducible rfl)
                  simp only [Act.put, List.setIfInBounds_toArray, List.set_cons_zero, List.set_cons_succ]
                  refine walkT_take (o := _) (v := ?_) (by rw [HOPS.out]; simp only [List.getElem?_toArray, List.getElem?_cons_succ, List.getElem?_cons_zero]; exact rfl) (Or.inl ⟨rfl, ?_⟩) ?_
                  rotate_left
                  · (intro w hSw; have hSx := HFA.out _ hSw; (try dsimp only at hSx); clear hSw; go_simp) <;> (with_reducible rfl)
                  simp only [Act.put, List.setIfInBounds_toArray, List.set_cons_zero, List.set_cons_succ]
                  refine walkT_take (o := _) (v := ?_) (by rw [HOPS.out]; simp only [List.getElem?_toArray, List.getElem?_cons_succ, List.getElem?_cons_zero]; exact rfl) (Or.inl ⟨rfl, ?_⟩) ?_
                  rotate_left
                  · (intro w hSw; have hSx := HFA.out _ hSw; (try dsimp only at hSx); clear hSw; go_simp) <;> (with_reducible rfl)
                  simp only [Act.put, List.setIfInBounds_toArray, List.set_cons_zero, List.set_cons_succ]
                  refine walkT_take (o := _) (v := ?_) (by rw [HOPS.out]; simp only [List.getElem?_toArray, List.getElem?_cons_succ, List.getElem?_cons_zero]; exact rfl) (Or.inl ⟨rfl, ?_⟩) ?_
                  rotate_left
                  · (intro w hSw; have hSx := HFA.out _ hSw; (try dsimp only at hSx); clear hSw; go_simp) <;> (with_reducible rfl)
                  simp only [Act.put, List.setIfInBounds_toArray, List.set_cons_zero, List.set_cons_succ]
                  refine walkT_take (o := _) (v := ?_) (by rw [HOPS.out]; simp only [List.getElem?_toArray, List.getElem?_cons_succ, List.getElem?_cons_zero]; exact rfl) (Or.inl ⟨rfl, ?_⟩) ?_
                  rotate_left
                  · (intro w hSw; have hSx := HFA.out _ hSw; (try dsimp only at hSx); clear hSw; go_simp) <;> (with_reducible rfl)
                  simp only [Act.put, List.setIfInBounds_toArray, List.set_cons_zero, List.set_cons_succ]
                  refine walkT_take (o := _) (v := ?_) (by rw [HOPS.out]; simp only [List.getElem?_toArray, List.getElem?_cons_succ, List.getElem?_cons_zero]; exact rfl) (Or.inl ⟨rfl, ?_⟩) ?_
                  rotate_left
                  · (intro w hSw; have hSx := HFA.out _ hSw; (try dsimp only at hSx); clear hSw; go_simp) <;> (with_reducible rfl)
                  simp only [Act.put, List.setIfInBounds_toArray, List.set_cons_zero, List.set_cons_succ]
                  refine walkT_take (o := _) (v := ?_) (by rw [HOPS.out]; simp only [List.getElem?_toArray, List.getElem?_cons_succ, List.getElem?_cons_zero]; exact rfl) (Or.inl ⟨rfl, ?_⟩) ?_
                  rotate_left
                  · (intro w hSw; have hSx := HFA.out _ hSw; (try dsimp only at hSx); clear hSw; go_simp) <;> (with_reducible rfl)
                  simp only [Act.put, List.setIfInBounds_toArray, List.set_cons_zero, List.set_cons_succ]
                  refine walkT_take (o := _) (v := ?_) (by rw [HOPS.out]; simp only [List.getElem?_toArray, List.getElem?_cons_succ, List.getElem?_cons_zero]; exact rfl) (Or.inl ⟨rfl, ?_⟩) ?_
                  rotate_left
                  · (intro w hSw; have hSx := HFA.out _ hSw; (try dsimp only at hSx); clear hSw; go_simp) <;> (with_reducible rfl)
                  simp only [Act.put, List.setIfInBounds_toArray, List.set_cons_zero, List.set_cons_succ]
                  refine walkT_take (o := _) (v := ?_) (by rw [HOPS.out]; simp only [List.getElem?_toArray, List.getElem?_cons_succ, List.getElem?_cons_zero]; exact rfl) (Or.inl ⟨rfl, ?_⟩) ?_
                  rotate_left
                  · (intro w hSw; have hSx := HFA.out _ hSw; (try dsimp only at hSx); clear hSw; go_simp) <;> (with_reducible rfl)
                  simp only [Act.put, List.setIfInBounds_toArray, List.set_cons_zero, List.set_cons_succ]
                  refine walkT_two ?_ ?_
                  · skip
                    refine walkT_call (o := _) (by rw [HOPS.out]; simp only [List.getElem?_toArray, List.getElem?_cons_succ, List.getElem?_cons_zero]; exact rfl) (fun K HK => ?_)
                    have cl_ : w6.drew.cell? ⟨Q, 0, none⟩ = some (.slice ba B0.length bc) := cell_of (fd.keep hqc.q0 (by simp))
                    go_simp
                    clear cl_
                    refine HK.out (fun w' => Fr [Q, Q + 3] w6 w') _ _ (fun _ h => h) (fdS) ?_
                    clear HK K
                    try simp only [Act.put, List.setIfInBounds_toArray, List.set_cons_zero, List.set_cons_succ]
                    refine walkT_take (o := _) (v := ?_) (by rw [HOPS.out]; simp only [List.getElem?_toArray, List.getElem?_cons_succ, List.getElem?_cons_zero]; exact rfl) (Or.inl ⟨rfl, ?_⟩) ?_
                    rotate_left
                    · (intro w hSw; have hSx := HFA.out _ hSw; (try dsimp only at hSx); clear hSw; go_simp) <;> (with_reducible rfl)
                    simp only [Act.put, List.setIfInBounds_toArray, List.set_cons_zero, List.set_cons_succ]
                    refine walkT_call (o := _) (by rw [HOPS.out]; simp only [List.getElem?_toArray, List.getElem?_cons_succ, List.getElem?_cons_zero]; exact rfl) (fun K HK => ?_)
                    refine step_call rfl 30 #[(.tmp 104)] #[53] rfl HEJ.out #[.slice pa ps.length pc] (by simp [Act.eval]) (HJ6.out _ fd) ?_
                    rintro e w10 ⟨vj, rfl, f10, oj⟩
                    obtain ⟨ja, jc, rfl, _, _, js, _⟩ := oj.formB
                    have g10 := fd.then0 f10
                    have hjs := js.toV
                    have g10S : Fr [Q, Q + 3] w6 w10 := g10.trans (Fr.refl _ _ : Fr [Q, Q + 3] _ _) (by simp) (fun x hx => .inl hx)
                    refine ⟨_, rfl, ?_⟩
                    refine HK.out (fun w' => Fr [Q, Q + 3] w6 w') _ _ (fun _ h => h) (g10S) ?_
                    clear HK K
                    simp only [Act.put, List.setIfInBounds_toArray, List.set_cons_zero, List.set_cons_succ]
                    refine walkT_call (o := _) (by rw [HOPS.out]; simp only [List.getElem?_toArray, List.getElem?_cons_succ, List.getElem?_cons_zero]; exact rfl) (fun K HK => ?_)
                    refine step_append_exact rfl (.tmp 102) (.tmp 105) 29 rfl 5 (.int .u8 0) 1 HUU.out HIN.out rfl ba g ((bi (B0.take g)).map (Value.int .u8)) rfl HL1.out (HBS.out _ g10) ja fl.length jc ((bi fl).map (Value.int .u8)) rfl HL2.out hjs HO.out H3.out H4.out ?_
                    intro v11 w11 f11 hor
                    obtain ⟨va, vn, vc, rfl⟩ : ∃ a n c, v11 = .slice a n c := by
                      rcases hor with ⟨_, h, _⟩ | ow
                      · exact ⟨_, _, _, h⟩
                      · obtain ⟨_, _, h, _⟩ := ow.form; exact ⟨_, _, _, h⟩
                    have g11 := g10.then0 f11
                    have g11S : Fr [Q, Q + 3] w6 w11 := g11.trans (Fr.refl _ _ : Fr [Q, Q + 3] _ _) (by simp) (fun x hx => .inl hx)
                    refine HK.out (fun w' => Fr [Q, Q + 3] w6 w') _ _ (fun _ h => h) (g11S) ?_
                    clear HK K
                    try simp only [Act.put, List.setIfInBounds_toArray, List.set_cons_zero, List.set_cons_succ]
                    refine walkT_take (o := _) (v := ?_) (by rw [HOPS.out]; simp only [List.getElem?_toArray, List.getElem?_cons_succ, List.getElem?_cons_zero]; exact rfl) (Or.inl ⟨rfl, ?_⟩) ?_
                    rotate_left
                    · (intro w hSw; have hSx := HFA.out _ hSw; (try dsimp only at hSx); clear hSw; go_simp) <;> (with_reducible rfl)
                    simp only [Act.put, List.setIfInBounds_toArray, List.set_cons_zero, List.set_cons_succ]
                    refine walkT_call (o := _) (by rw [HOPS.out]; simp only [List.getElem?_toArray, List.getElem?_cons_succ, List.getElem?_cons_zero]; exact rfl) (fun K HK => ?_)
                    have hb11 := H6.out.2.1.keep0 g11
                    have sc_ : w11.cell? ⟨Q, 0, none⟩ = some (.slice ba B0.length bc) := cell_of hb11.q0
                    have sf_ : w11.frozen? ⟨Q, 0, none⟩ = false := free_of hb11.q0
                    go_simp
                    clear sc_ sf_
                    have hb12 := hb11.set00 (.slice va vn vc)
                    have f12 : Fr [Q, Q + 3] w6 (w11.setCell ⟨Q, 0, none⟩ (.slice va vn vc)) := g11S.trans ((Fr.refl _ _).setCell (.inl (by simp)) _ : Fr [Q, Q + 3] w11 _) (fun x hx => .inl hx) (fun x hx => .inl hx)
                    obtain ⟨w12, hw12⟩ : ∃ W, w11.setCell ⟨Q, 0, none⟩ (.slice va vn vc) = W := ⟨_, rfl⟩
                    rw [hw12] at hb12 f12 ⊢
                    refine HK.out (fun w' => Fr [Q, Q + 3] w6 w') _ _ (fun _ h => h) (f12) ?_
                    clear HK K
                    try simp only [Act.put, List.setIfInBounds_toArray, List.set_cons_zero, List.set_cons_succ]
                    refine walkT_take (o := _) (v := ?_) (by rw [HOPS.out]; simp only [List.getElem?_toArray, List.getElem?_cons_succ, List.getElem?_cons_zero]; exact rfl) (Or.inl ⟨rfl, ?_⟩) ?_
                    rotate_left
                    · (intro w hSw; have hSx := HFA.out _ hSw; (try dsimp only at hSx); clear hSw; go_simp) <;> (with_reducible rfl)
                    simp only [Act.put, List.setIfInBounds_toArray, List.set_cons_zero, List.set_cons_succ]
                    refine walkT_call (o := _) (by rw [HOPS.out]; simp only [List.getElem?_toArray, List.getElem?_cons_succ, List.getElem?_cons_zero]; exact rfl) (fun K HK => ?_)
                    have sc_ : w12.cell? ⟨Q + 3, 0, none⟩ = some (.bool y0) := cell_of hb12.q3
                    have sf_ : w12.frozen? ⟨Q + 3, 0, none⟩ = false := free_of hb12.q3
                    go_simp
                    clear sc_ sf_
                    have hb13 := hb12.set30 true
                    have f13 : Fr [Q, Q + 3] w6 (w12.setCell ⟨Q + 3, 0, none⟩ (.bool true)) := f12.trans ((Fr.refl _ _).setCell (.inl (by simp)) _ : Fr [Q, Q + 3] w12 _) (fun x hx => .inl hx) (fun x hx => .inl hx)
                    refine HK.out (fun w' => Fr [Q, Q + 3] w6 w') _ _ (fun _ h => h) (f13) ?_
                    clear HK K
                    try simp only [Act.put, List.setIfInBounds_toArray, List.set_cons_zero, List.set_cons_succ]
                    refine walkT_done ?_
                    clear HOPS OPS
                    have hm11 := H6.out.1.grow0 hgB g10 f11 hor
                    have hm13 := (hm11.box (k := 0) (i := 0) (by omega) (.slice va vn vc)).box (k := 3) (i := 0) (by omega) (.bool true)
                    have hm13' : DHM w (w12.setCell ⟨Q + 3, 0, none⟩ (.bool true)) Q F6 dx ({ s with m0 := (beginM s.m0 fl).m }) ((.slice va vn vc)) b1 r0 r1 (B0.take g ++ fl) B1 R0 R1 := by rw [← hw12]; exact hm13
                    have hbl : ∀ x ∈ [Q, Q + 3], w.heap.size ≤ x ∧ x < X := by intro x hx; simp at hx; omega
                    have H13 := Lib.hid (And.intro hm13' (And.intro hb13 (And.intro (f13.keep H6.out.2.2.1 (fun hm => by have := (hbl _ hm).2; omega)) (And.intro (H6.out.2.2.2.1.trans f13 (U := []) (by simp) (fun x hx => .inr (hbl x hx).1)) (H6.out.2.2.2.2.keep f13 H6.out.2.2.2.1.size (fun x hx => (hbl x hx).1))))))
                    clear hm11 hm13 hm13' hb11 hb12 hb13 f12 f13 hor g10 g11 g10S g11S f10 f11 hw12
                    go_wp2_with fail
                    go_meet
                    exact ⟨0, F6, ({ s with m0 := (beginM s.m0 fl).m }), ((.slice va vn vc)), b1, r0, r1, (B0.take g ++ fl), B1, R0, R1, ((g : Int)), f1, (true), y1, k0, k1, h0, h1, rfl, Lib.hid H13.out.1, Lib.hid H13.out.2.1, Lib.hid ⟨HNE.out, (by have h := HH.out.2; have := HSB.out; have := HTF.out.1; rw [List.length_append, List.length_take]; exact ⟨by omega, by omega⟩)⟩, Lib.hid H13.out.2.2.2.1, Lib.hid H13.out.2.2.2.2, Lib.hid H13.out.2.2.1, Lib.hid ⟨fun h => absurd h (by decide), fun h => absurd h (by decide)⟩⟩
                  · skip
                    refine walkT_call (o := _) (by rw [HOPS.out]; simp only [List.getElem?_toArray, List.getElem?_cons_succ, List.getElem?_cons_zero]; exact rfl) (fun K HK => ?_)
                    refine step_call rfl 30 #[(.tmp 104)] #[53] rfl HEJ.out #[.slice pa ps.length pc] (by simp [Act.eval]) (HJ6.out _ fd) ?_
                    rintro e w10 ⟨vj, rfl, f10, oj⟩
                    obtain ⟨ja, jc, rfl, _, _, js, _⟩ := oj.formB
                    have g10 := fd.then0 f10
                    have hjs := js.toV
                    have g10S : Fr [Q, Q + 3] w6 w10 := g10.trans (Fr.refl _ _ : Fr [Q, Q + 3] _ _) (by simp) (fun x hx => .inl hx)
                    refine ⟨_, rfl, ?_⟩
                    refine HK.out (fun w' => Fr [Q, Q + 3] w6 w') _ _ (fun _ h => h) (g10S) ?_
                    clear HK K
                    simp only [Act.put, List.setIfInBounds_toArray, List.set_cons_zero, List.set_cons_succ]
                    refine walkT_call (o := _) (by rw [HOPS.out]; simp only [List.getElem?_toArray, List.getElem?_cons_succ, List.getElem?_cons_zero]; exact rfl) (fun K HK => ?_)
                    have cl_ : w10.cell? ⟨Q, 0, none⟩ = some (.slice ba B0.length bc) := cell_of (g10.keep hqc.q0 (by simp))
                    go_simp
                    clear cl_
                    refine HK.out (fun w' => Fr [Q, Q + 3] w6 w') _ _ (fun _ h => h) (g10S) ?_
                    clear HK K
                    try simp only [Act.put, List.setIfInBounds_toArray, List.set_cons_zero, List.set_cons_succ]
                    refine walkT_take (o := _) (v := ?_) (by rw [HOPS.out]; simp only [List.getElem?_toArray, List.getElem?_cons_succ, List.getElem?_cons_zero]; exact rfl) (Or.inl ⟨rfl, ?_⟩) ?_
                    rotate_left
                    · (intro w hSw; have hSx := HFA.out _ hSw; (try dsimp only at hSx); clear hSw; go_simp) <;> (with_reducible rfl)
                    simp only [Act.put, List.setIfInBounds_toArray, List.set_cons_zero, List.set_cons_succ]
                    refine walkT_call (o := _) (by rw [HOPS.out]; simp only [List.getElem?_toArray, List.getElem?_cons_succ, List.getElem?_cons_zero]; exact rfl) (fun K HK => ?_)
                    refine step_append_exact rfl (.tmp 102) (.tmp 105) 29 rfl 5 (.int .u8 0) 1 HUU.out HIN.out rfl ba g ((bi (B0.take g)).map (Value.int .u8)) rfl HL1.out (HBS.out _ g10) ja fl.length jc ((bi fl).map (Value.int .u8)) rfl HL2.out hjs HO.out H3.out H4.out ?_
                    intro v11 w11 f11 hor
                    obtain ⟨va, vn, vc, rfl⟩ : ∃ a n c, v11 = .slice a n c := by
                      rcases hor with ⟨_, h, _⟩ | ow
                      · exact ⟨_, _, _, h⟩
                      · obtain ⟨_, _, h, _⟩ := ow.form; exact ⟨_, _, _, h⟩
                    have g11 := g10.then0 f11
                    have g11S : Fr [Q, Q + 3] w6 w11 := g11.trans (Fr.refl _ _ : Fr [Q, Q + 3] _ _) (by simp) (fun x hx => .inl hx)
                    refine HK.out (fun w' => Fr [Q, Q + 3] w6 w') _ _ (fun _ h => h) (g11S) ?_
                    clear HK K
                    try simp only [Act.put, List.setIfInBounds_toArray, List.set_cons_zero, List.set_cons_succ]
                    refine walkT_take (o := _) (v := ?_) (by rw [HOPS.out]; simp only [List.getElem?_toArray, List.getElem?_cons_succ, List.getElem?_cons_zero]; exact rfl) (Or.inl ⟨rfl, ?_⟩) ?_
                    rotate_left
                    · (intro w hSw; have hSx := HFA.out _ hSw; (try dsimp only at hSx); clear hSw; go_simp) <;> (with_reducible rfl)
                    simp only [Act.put, List.setIfInBounds_toArray, List.set_cons_zero, List.set_cons_succ]
                    refine walkT_call (o := _) (by rw [HOPS.out]; simp only [List.getElem?_toArray, List.getElem?_cons_succ, List.getElem?_cons_zero]; exact rfl) (fun K HK => ?_)
                    have hb11 := H6.out.2.1.keep0 g11
                    have sc_ : w11.cell? ⟨Q, 0, none⟩ = some (.slice ba B0.length bc) := cell_of hb11.q0
                    have sf_ : w11.frozen? ⟨Q, 0, none⟩ = false := free_of hb11.q0
                    go_simp
                    clear sc_ sf_
                    have hb12 := hb11.set00 (.slice va vn vc)
                    have f12 : Fr [Q, Q + 3] w6 (w11.setCell ⟨Q, 0, none⟩ (.slice va vn vc)) := g11S.trans ((Fr.refl _ _).setCell (.inl (by simp)) _ : Fr [Q, Q + 3] w11 _) (fun x hx => .inl hx) (fun x hx => .inl hx)
                    obtain ⟨w12, hw12⟩ : ∃ W, w11.setCell ⟨Q, 0, none⟩ (.slice va vn vc) = W := ⟨_, rfl⟩
                    rw [hw12] at hb12 f12 ⊢
                    refine HK.out (fun w' => Fr [Q, Q + 3] w6 w') _ _ (fun _ h => h) (f12) ?_
                    clear HK K
                    try simp only [Act.put, List.setIfInBounds_toArray, List.set_cons_zero, List.set_cons_succ]
                    refine walkT_take (o := _) (v := ?_) (by rw [HOPS.out]; simp only [List.getElem?_toArray, List.getElem?_cons_succ, List.getElem?_cons_zero]; exact rfl) (Or.inl ⟨rfl, ?_⟩) ?_
                    rotate_left
                    · (intro w hSw; have hSx := HFA.out _ hSw; (try dsimp only at hSx); clear hSw; go_simp) <;> (with_reducible rfl)
                    simp only [Act.put, List.setIfInBounds_toArray, List.set_cons_zero, List.set_cons_succ]
                    refine walkT_call (o := _) (by rw [HOPS.out]; simp only [List.getElem?_toArray, List.getElem?_cons_succ, List.getElem?_cons_zero]; exact rfl) (fun K HK => ?_)
                    have sc_ : w12.cell? ⟨Q + 3, 0, none⟩ = some (.bool y0) := cell_of hb12.q3
                    have sf_ : w12.frozen? ⟨Q + 3, 0, none⟩ = false := free_of hb12.q3
                    go_simp
                    clear sc_ sf_
                    have hb13 := hb12.set30 true
                    have f13 : Fr [Q, Q + 3] w6 (w12.setCell ⟨Q + 3, 0, none⟩ (.bool true)) := f12.trans ((Fr.refl _ _).setCell (.inl (by simp)) _ : Fr [Q, Q + 3] w12 _) (fun x hx => .inl hx) (fun x hx => .inl hx)
                    refine HK.out (fun w' => Fr [Q, Q + 3] w6 w') _ _ (fun _ h => h) (f13) ?_
                    clear HK K
                    try simp only [Act.put, List.setIfInBounds_toArray, List.set_cons_zero, List.set_cons_succ]
                    refine walkT_done ?_
                    clear HOPS OPS
                    have hm11 := H6.out.1.grow0 hgB g10 f11 hor
                    have hm13 := (hm11.box (k := 0) (i := 0) (by omega) (.slice va vn vc)).box (k := 3) (i := 0) (by omega) (.bool true)
                    have hm13' : DHM w (w12.setCell ⟨Q + 3, 0, none⟩ (.bool true)) Q F6 dx ({ s with m0 := (beginM s.m0 fl).m }) ((.slice va vn vc)) b1 r0 r1 (B0.take g ++ fl) B1 R0 R1 := by rw [← hw12]; exact hm13
                    have hbl : ∀ x ∈ [Q, Q + 3], w.heap.size ≤ x ∧ x < X := by intro x hx; simp at hx; omega
                    have H13 := Lib.hid (And.intro hm13' (And.intro hb13 (And.intro (f13.keep H6.out.2.2.1 (fun hm => by have := (hbl _ hm).2; omega)) (And.intro (H6.out.2.2.2.1.trans f13 (U := []) (by simp) (fun x hx => .inr (hbl x hx).1)) (H6.out.2.2.2.2.keep f13 H6.out.2.2.2.1.size (fun x hx => (hbl x hx).1))))))
                    clear hm11 hm13 hm13' hb11 hb12 hb13 f12 f13 hor g10 g11 g10S g11S f10 f11 hw12
                    go_wp2_with fail
                    go_meet
                    exact ⟨0, F6, ({ s with m0 := (beginM s.m0 fl).m }), ((.slice va vn vc)), b1, r0, r1, (B0.take g ++ fl), B1, R0, R1, ((g : Int)), f1, (true), y1, k0, k1, h0, h1, rfl, Lib.hid H13.out.1, Lib.hid H13.out.2.1, Lib.hid ⟨HNE.out, (by have h := HH.out.2; have := HSB.out; have := HTF.out.1; rw [List.length_append, List.length_take]; exact ⟨by omega, by omega⟩)⟩, Lib.hid H13.out.2.2.2.1, Lib.hid H13.out.2.2.2.2, Lib.hid H13.out.2.2.1, Lib.hid ⟨fun h => absurd h (by decide), fun h => absurd h (by decide)⟩⟩
                · have hne := herr
                  obtain ⟨hs2, h14⟩ := HH.out.1.beginNo0 herr
                  rw [hs2] at H6
                  have hE0 : ((beginM s.m0 fl).err == 0) = false := by simpa using herr
                  generalize (beginM s.m0 fl).err = E at *
                  have H14 := Lib.hid h14
                  clear hs2 h14 herr hne
                  go_wp2_with fail
                  go_meet
                  exact ⟨E, F6, s, b0, b1, r0, r1, B0, B1, R0, R1, ((g : Int)), f1, y0, y1, k0, k1, h0, h1, rfl, Lib.hid H6.out.1, Lib.hid H6.out.2.1, Lib.hid ⟨HH.out.1, by have h := HH.out.2; have := HSB.out; exact ⟨by omega, by omega⟩⟩, Lib.hid H6.out.2.2.2.1, Lib.hid H6.out.2.2.2.2, Lib.hid H6.out.2.2.1, Lib.hid ⟨fun h => H14.out h, fun h => absurd h (by decide)⟩⟩
            · skip
              rcases Bool.eq_false_or_eq_true (what == 1) with q1 | q1
              · obtain rfl : what = 1 := by simpa using q1
                as_aux_lemma =>
                  have HE := Lib.hid HH.out.1.end0
                  have HC := Lib.hid (dx_finish0 hR)
                  clear hR
                  obtain ⟨E, hE⟩ : ∃ E, (endM s.m0).err = E := ⟨_, rfl⟩
                  obtain ⟨N, hN0⟩ : ∃ N, (endM s.m0).n = N := ⟨_, rfl⟩
                  rw [hE, hN0] at HC
                  rw [hE, hN0] at HE
                  go_wp2_with fail
                  refine HC.out.mono ?_
                  rintro e w6 ⟨rfl, hp⟩
                  obtain ⟨S6, F6, f6, hS6, hm6⟩ := HM5.out.call (G := NoG) (fun x hx => hx.elim) hp
                  have hfx := HM5.out.fx
                  have hq5 := HM5.out.hq
                  have hb6 := HB5.out.keep f6 (fun x hx => by rcases hS6 x hx with h | h; exact (hfx x h).2; exact .inr (by omega))
                  have q6 := f6.keep HQ5.out (fun hm => by rcases hS6 _ hm with h | h; exact Nat.lt_irrefl _ (hFl _ h); omega)
                  have hM6 : ∀ x ∈ S6, w.heap.size ≤ x := fun x hx => by rcases hS6 x hx with h | h; exact (hfx x h).1; omega
                  have g6 := HG5.out.trans f6 (U := []) (by simp) (fun x hx => .inr (hM6 x hx))
                  have a6 := HA5.out.keep f6 HG5.out.size hM6
                  have H6 := Lib.hid (And.intro hm6 (And.intro hb6 (And.intro q6 (And.intro g6 a6))))
                  clear hm6 hb6 q6 g6 a6 hfx hq5 hS6 hM6
                  clear HC f6 hE hN0
                  go_upto_region 32 with fail
                  rcases HE.out with ⟨hs2, he⟩ | ⟨hy, hn, he, hN⟩
                  · skip
                    clear HE
                    rw [hs2] at H6
                    rcases he with rfl | rfl
                    · skip
                      go_wp2_with fail
                      go_roundw
                      case rel => exact ⟨k + 1, F6, s, b0, b1, r0, r1, B0, B1, R0, R1, f0, f1, y0, y1, k0, k1, h0, h1, by omega, by go_num, Lib.hid H6.out.1, Lib.hid H6.out.2.1, Lib.hid ⟨HH.out.1, by have h := HH.out.2; have := HSB.out; exact ⟨by omega, by omega⟩⟩, Lib.hid H6.out.2.2.2.1, Lib.hid H6.out.2.2.2.2⟩
                      case measure => simp [intOf]; omega
                    · skip
                      go_wp2_with fail
                      go_roundw
                      case rel => exact ⟨k + 1, F6, s, b0, b1, r0, r1, B0, B1, R0, R1, f0, f1, y0, y1, k0, k1, h0, h1, by omega, by go_num, Lib.hid H6.out.1, Lib.hid H6.out.2.1, Lib.hid ⟨HH.out.1, by have h := HH.out.2; have := HSB.out; exact ⟨by omega, by omega⟩⟩, Lib.hid H6.out.2.2.2.1, Lib.hid H6.out.2.2.2.2⟩
                      case measure => simp [intOf]; omega
                  · skip
                    clear HE
                    subst hn
                    have hE8 : (E == 8) = false := by rcases he with rfl | ⟨rfl, _⟩ <;> rfl
                    have hE16 : (E == 16) = false := by rcases he with rfl | ⟨rfl, _⟩ <;> rfl
                    obtain ⟨t1, t2, t3, t4, _⟩ := HH.out.1.tail0
                    have hy' := hy
                    subst hy'
                    have hlB := HH.out.2
                    have hb3 : (B0.length : Int) ≤ 3000 := by have := H3000.out; have := HTK.out; have := HSB.out; omega
                    obtain ⟨ba, bc, rfl, hbc, _, _, _⟩ := H6.out.1.p0.sl
                    obtain ⟨cA, cB, cC, cD, cE, cF, cG, cH, _, _, _, _⟩ := H6.out.2.1.cells
                    have hwr : IntKind.i64.wrap (f0 + s.m0.acc) = f0 + s.m0.acc := IntWalk.i64_in _ (by omega)
                    have hx1 : ¬ (s.m0.acc < 0) := by omega
                    have hx2 : ¬ ((B0.length : Int) < f0 + s.m0.acc) := by omega
                    go_wp2_with fail
                    go_quiet (fail)
                    obtain ⟨wx, hx, fx⟩ : ∃ wx, w6.drewN nq = wx ∧ Fr [] w6 wx := ⟨_, rfl, (Fr.refl _ _).drewN _⟩
                    rw [hx]
                    clear hx cA cB cC cD cE cF cG cH
                    have hbx := H6.out.2.1.keep0 fx
                    have hmx := H6.out.1.keep0 fx
                    obtain ⟨_, _, _, _, c20, c21, c30, c31, _, _, _, _⟩ := hbx.cells
                    obtain ⟨_, _, k2, k3, _, _⟩ := hbx.free 0
                    have hb7 := hbx.set20 (f0 + s.m0.acc)
                    obtain ⟨_, _, _, _, _, _, d30, d31, _, _, _, _⟩ := hb7.cells
                    obtain ⟨_, _, _, l3, _, _⟩ := hb7.free 0
                    have hb8 := Lib.hid (hb7.set30 false)
                    have hm8 := Lib.hid ((hmx.box (k := 2) (i := 0) (by omega) (.int .i64 (f0 + s.m0.acc))).box (k := 3) (i := 0) (by omega) (.bool false))
                    have f8 := (fx.trans ((Fr.refl _ _).setCell (.inl (by simp)) _ : Fr [Q + 2, Q + 3] wx (wx.setCell ⟨Q + 2, 0, none⟩ (.int .i64 (f0 + s.m0.acc)))) (by simp) (fun x hx => .inl hx)).trans ((Fr.refl _ _).setCell (.inl (by simp)) _ : Fr [Q + 2, Q + 3] _ ((wx.setCell ⟨Q + 2, 0, none⟩ (.int .i64 (f0 + s.m0.acc))).setCell ⟨Q + 3, 0, none⟩ (.bool false))) (fun x hx => .inl hx) (fun x hx => .inl hx)
                    have hbl : ∀ x ∈ [Q + 2, Q + 3], w.heap.size ≤ x ∧ x < X := by intro x hx; simp at hx; omega
                    have g8 := Lib.hid (H6.out.2.2.2.1.trans f8 (U := []) (by simp) (fun x hx => .inr (hbl x hx).1))
                    have a8 := Lib.hid (H6.out.2.2.2.2.keep f8 H6.out.2.2.2.1.size (fun x hx => (hbl x hx).1))
                    have q8 := Lib.hid (f8.keep H6.out.2.2.1 (fun hm => by have := (hbl _ hm).2; omega))
                    clear hbx hmx hb7 f8 fx
                    have HNE := Lib.hid (And.intro hN he)
                    clear hN he
                    go_wp2_with fail
                    go_meet
                    exact ⟨E, F6, { s with m0 := (endM s.m0).m }, (.slice ba B0.length bc), b1, r0, r1, B0, B1, R0, R1, (f0 + s.m0.acc), f1, (false), y1, k0, k1, h0, h1, rfl, Lib.hid hm8.out, Lib.hid hb8.out, Lib.hid ⟨HNE.out.1, by have h := HH.out.2; have := HSB.out; exact ⟨by omega, by omega⟩⟩, Lib.hid g8.out, Lib.hid a8.out, Lib.hid q8.out, Lib.hid ⟨fun h => by rcases HNE.out.2 with h0 | h0; exact absurd (h0.symm.trans h) (by decide); exact h0.2, fun h => absurd h (by decide)⟩⟩
              · skip
                rcases Bool.eq_false_or_eq_true (what == 2) with q2 | q2
                · obtain rfl : what = 2 := by simpa using q2
                  as_aux_lemma =>
                    have HE := Lib.hid HH.out.1.cancel0
                    have HC := Lib.hid (dx_cancel0 hR)
                    clear hR
                    obtain ⟨E, hE⟩ : ∃ E, (cancelM s.m0).err = E := ⟨_, rfl⟩
                    obtain ⟨N, hN0⟩ : ∃ N, (cancelM s.m0).n = N := ⟨_, rfl⟩
                    rw [hE, hN0] at HC
                    rw [hE, hN0] at HE
                    go_wp2_with fail
                    refine HC.out.mono ?_
                    rintro e w6 ⟨rfl, hp⟩
                    obtain ⟨S6, F6, f6, hS6, hm6⟩ := HM5.out.call (G := NoG) (fun x hx => hx.elim) hp
                    have hfx := HM5.out.fx
                    have hq5 := HM5.out.hq
                    have hb6 := HB5.out.keep f6 (fun x hx => by rcases hS6 x hx with h | h; exact (hfx x h).2; exact .inr (by omega))
                    have q6 := f6.keep HQ5.out (fun hm => by rcases hS6 _ hm with h | h; exact Nat.lt_irrefl _ (hFl _ h); omega)
                    have hM6 : ∀ x ∈ S6, w.heap.size ≤ x := fun x hx => by rcases hS6 x hx with h | h; exact (hfx x h).1; omega
                    have g6 := HG5.out.trans f6 (U := []) (by simp) (fun x hx => .inr (hM6 x hx))
                    have a6 := HA5.out.keep f6 HG5.out.size hM6
                    have H6 := Lib.hid (And.intro hm6 (And.intro hb6 (And.intro q6 (And.intro g6 a6))))
                    clear hm6 hb6 q6 g6 a6 hfx hq5 hS6 hM6
                    clear HC f6 hE hN0
                    go_upto_region 32 with fail
                    rcases HE.out with ⟨hs2, he⟩ | ⟨hy, hn, he, hN⟩
                    · skip
                      clear HE
                      rw [hs2] at H6
                      rcases he with rfl | rfl
                      · skip
                        go_wp2_with fail
                        go_roundw
                        case rel => exact ⟨k + 1, F6, s, b0, b1, r0, r1, B0, B1, R0, R1, f0, f1, y0, y1, k0, k1, h0, h1, by omega, by go_num, Lib.hid H6.out.1, Lib.hid H6.out.2.1, Lib.hid ⟨HH.out.1, by have h := HH.out.2; have := HSB.out; exact ⟨by omega, by omega⟩⟩, Lib.hid H6.out.2.2.2.1, Lib.hid H6.out.2.2.2.2⟩
                        case measure => simp [intOf]; omega
                      · skip
                        go_wp2_with fail
                        go_roundw
                        case rel => exact ⟨k + 1, F6, s, b0, b1, r0, r1, B0, B1, R0, R1, f0, f1, y0, y1, k0, k1, h0, h1, by omega, by go_num, Lib.hid H6.out.1, Lib.hid H6.out.2.1, Lib.hid ⟨HH.out.1, by have h := HH.out.2; have := HSB.out; exact ⟨by omega, by omega⟩⟩, Lib.hid H6.out.2.2.2.1, Lib.hid H6.out.2.2.2.2⟩
                        case measure => simp [intOf]; omega
                    · skip
                      clear HE
                      subst hn
                      have hE8 : (E == 8) = false := by rcases he with rfl | ⟨rfl, _⟩ <;> rfl
                      have hE16 : (E == 16) = false := by rcases he with rfl | ⟨rfl, _⟩ <;> rfl
                      obtain ⟨t1, t2, t3, t4, _⟩ := HH.out.1.tail0
                      have hy' := hy
                      subst hy'
                      have hlB := HH.out.2
                      have hb3 : (B0.length : Int) ≤ 3000 := by have := H3000.out; have := HTK.out; have := HSB.out; omega
                      obtain ⟨ba, bc, rfl, hbc, _, _, _⟩ := H6.out.1.p0.sl
                      obtain ⟨cA, cB, cC, cD, cE, cF, cG, cH, _, _, _, _⟩ := H6.out.2.1.cells
                      have hwr : IntKind.i64.wrap (f0 + s.m0.acc) = f0 + s.m0.acc := IntWalk.i64_in _ (by omega)
                      have hx1 : ¬ (s.m0.acc < 0) := by omega
                      have hx2 : ¬ ((B0.length : Int) < f0 + s.m0.acc) := by omega
                      go_wp2_with fail
                      go_quiet (fail)
                      obtain ⟨wx, hx, fx⟩ : ∃ wx, w6.drewN nq = wx ∧ Fr [] w6 wx := ⟨_, rfl, (Fr.refl _ _).drewN _⟩
                      rw [hx]
                      clear hx cA cB cC cD cE cF cG cH
                      have hbx := H6.out.2.1.keep0 fx
                      have hmx := H6.out.1.keep0 fx
                      obtain ⟨_, _, _, _, c20, c21, c30, c31, _, _, _, _⟩ := hbx.cells
                      obtain ⟨_, _, k2, k3, _, _⟩ := hbx.free 0
                      have hb7 := hbx.set20 (f0 + s.m0.acc)
                      obtain ⟨_, _, _, _, _, _, d30, d31, _, _, _, _⟩ := hb7.cells
                      obtain ⟨_, _, _, l3, _, _⟩ := hb7.free 0
                      have hb8 := Lib.hid (hb7.set30 false)
                      have hm8 := Lib.hid ((hmx.box (k := 2) (i := 0) (by omega) (.int .i64 (f0 + s.m0.acc))).box (k := 3) (i := 0) (by omega) (.bool false))
                      have f8 := (fx.trans ((Fr.refl _ _).setCell (.inl (by simp)) _ : Fr [Q + 2, Q + 3] wx (wx.setCell ⟨Q + 2, 0, none⟩ (.int .i64 (f0 + s.m0.acc)))) (by simp) (fun x hx => .inl hx)).trans ((Fr.refl _ _).setCell (.inl (by simp)) _ : Fr [Q + 2, Q + 3] _ ((wx.setCell ⟨Q + 2, 0, none⟩ (.int .i64 (f0 + s.m0.acc))).setCell ⟨Q + 3, 0, none⟩ (.bool false))) (fun x hx => .inl hx) (fun x hx => .inl hx)
                      have hbl : ∀ x ∈ [Q + 2, Q + 3], w.heap.size ≤ x ∧ x < X := by intro x hx; simp at hx; omega
                      have g8 := Lib.hid (H6.out.2.2.2.1.trans f8 (U := []) (by simp) (fun x hx => .inr (hbl x hx).1))
                      have a8 := Lib.hid (H6.out.2.2.2.2.keep f8 H6.out.2.2.2.1.size (fun x hx => (hbl x hx).1))
                      have q8 := Lib.hid (f8.keep H6.out.2.2.1 (fun hm => by have := (hbl _ hm).2; omega))
                      clear hbx hmx hb7 f8 fx
                      have HNE := Lib.hid (And.intro hN he)
                      clear hN he
                      go_wp2_with fail
                      go_meet
                      exact ⟨E, F6, { s with m0 := (cancelM s.m0).m }, (.slice ba B0.length bc), b1, r0, r1, B0, B1, R0, R1, (f0 + s.m0.acc), f1, (false), y1, k0, k1, h0, h1, rfl, Lib.hid hm8.out, Lib.hid hb8.out, Lib.hid ⟨HNE.out.1, by have h := HH.out.2; have := HSB.out; exact ⟨by omega, by omega⟩⟩, Lib.hid g8.out, Lib.hid a8.out, Lib.hid q8.out, Lib.hid ⟨fun h => by rcases HNE.out.2 with h0 | h0; exact absurd (h0.symm.trans h) (by decide); exact h0.2, fun h => absurd h (by decide)⟩⟩
                · skip
                  rcases Bool.eq_false_or_eq_true (what == 3) with q3 | q3
                  · obtain rfl : what = 3 := by simpa using q3
                    as_aux_lemma =>
                      obtain ⟨hN, he13, he14⟩ := HH.out.1.read1 n
                      have hlN := hN.tail1
                      have HC := Lib.hid (dx_read0 hR n)
                      clear hR
                      obtain ⟨E, hE⟩ : ∃ E, (readM s.m1 n).err = E := ⟨_, rfl⟩
                      obtain ⟨O, hO⟩ : ∃ O, (readM s.m1 n).out = O := ⟨_, rfl⟩
                      rw [hE, hO] at HC
                      rw [hO] at hN hlN
                      rw [hE, hO] at he13
                      rw [hE] at he14
                      clear hE hO
                      go_wp2_with fail
                      refine HC.out.mono ?_
                      rintro e w6 ⟨uu, rfl, ou, hp⟩
                      dsimp only
                      go_upto_region 39 with fail
                      obtain ⟨S6, F6, f6, hS6, hm6⟩ := HM5.out.call (G := NoG) (fun x hx => hx.elim) hp
                      have hfx := HM5.out.fx
                      have hq5 := HM5.out.hq
                      have hb6 := HB5.out.keep f6 (fun x hx => by rcases hS6 x hx with h | h; exact (hfx x h).2; exact .inr (by omega))
                      have q6 := f6.keep HQ5.out (fun hm => by rcases hS6 _ hm with h | h; exact Nat.lt_irrefl _ (hFl _ h); omega)
                      have hM6 : ∀ x ∈ S6, w.heap.size ≤ x := fun x hx => by rcases hS6 x hx with h | h; exact (hfx x h).1; omega
                      have g6 := HG5.out.trans f6 (U := []) (by simp) (fun x hx => .inr (hM6 x hx))
                      have a6 := HA5.out.keep f6 HG5.out.size hM6
                      have H6 := Lib.hid (And.intro hm6 (And.intro hb6 (And.intro q6 (And.intro g6 a6))))
                      clear hm6 hb6 q6 g6 a6 hfx hq5 hS6 hM6
                      clear HC f6
                      obtain ⟨ua, uc, rfl, _, _, us, _⟩ := ou.formB
                      have HSV := Lib.hid us.toV
                      have HOW := Lib.hid H6.out.1.o1
                      obtain ⟨ra, rc, rfl, _⟩ := HOW.out.formB
                      obtain ⟨_, _, c10, c11, _, _, _, _, c40, c41, _, _⟩ := H6.out.2.1.cells
                      have hz6 := H6.out.1.hq
                      have hrl : R1.length + O.length ≤ 3000 := by have h := hlN.2.2.2.1; have h2 := hlN.2.2.1; rw [List.length_append] at h; have := HH.out.2; have := H3000.out; have := HTK.out; have := HSB.out; omega
                      have H3 : Hid (((bi R1).map (Value.int .u8)).length + O.length ≤ maxLen) := Lib.hid (by rw [List.length_map, bi_length]; unfold maxLen; omega)
                      have H4 : Hid ((((bi R1).map (Value.int .u8)).length + O.length) * 1 ≤ 140737488355328) := Lib.hid (by rw [List.length_map, bi_length]; omega)
                      have H5 : Hid (((bi O).map (Value.int .u8)).length = O.length) := Lib.hid (by simp [bi_length])
                      have HO := Lib.hid (bytes_one (bi O))
                      have HUU : Hid (Try.prog.underlying 29 = some (.slice 5)) := Lib.hid Try.underlying29
                      have HIN : Hid ((Try.prog.info? 5).map (fun i => (i.zero, i.size, i.bytes)) = some (some (.int .u8 0), 1, 1)) := Lib.hid (by kernel_rfl)
                      have HX := Lib.hid (And.intro hN (And.intro he13 he14))
                      clear hN he13 he14 hlN us ou
                      go_wp2_with (refine wpList_append_fr _ rfl (.tmp 178) (.tmp 179) 29 rfl 5 (.int .u8 0) 1 HUU.out HIN.out rfl (Q + 6) _ _ (by exact rfl) HOW.out ua O.length uc _ (by exact rfl) H5.out HSV.out HO.out H3.out H4.out hz6 ?_)
                      intro v7 w7 o7 f7 hb7
                      obtain ⟨va, vc, rfl, _⟩ := o7.out.form
                      obtain ⟨vn, hvn⟩ : ∃ n, (List.map (Value.int .u8) (bi R1) ++ List.map (Value.int .u8) (bi O)).length = n := ⟨_, rfl⟩
                      rw [hvn] at o7 hb7 ⊢
                      have hm7 := H6.out.1.app1 o7.out f7 hb7
                      have hrb : ∀ x ∈ (Value.slice ra R1.length rc).ownBlock.toList, Q + 6 ≤ x ∧ F6 x = F6 x := fun x hx => ⟨(HOW.out.lt x (by simpa using hx)).1, rfl⟩
                      have hb7' := H6.out.2.1.keep f7 (fun x hx => .inr (hrb x hx).1)
                      have hrX : X ∉ (Value.slice ra R1.length rc).ownBlock.toList := fun hm => by have h := HROW.out.2 X (by simpa using hm); omega
                      have q7 := f7.keep H6.out.2.2.1 hrX
                      have g7 := H6.out.2.2.2.1.trans f7 (U := []) (by simp) (fun x hx => .inr (by have := (hrb x hx).1; omega))
                      have a7 := H6.out.2.2.2.2.keep f7 H6.out.2.2.2.1.size (fun x hx => by have := (hrb x hx).1; omega)
                      clear o7 hb7 HOW HSV c10 c11 c40 c41
                      obtain ⟨_, _, c10, c11, _, _, _, _, c40, c41, _, _⟩ := hb7'.cells
                      obtain ⟨_, fz1, _, _, _, _⟩ := hb7'.free 1
                      have hb8 := hb7'.set11 (.slice va vn vc)
                      obtain ⟨_, _, _, _, _, _, _, _, e40, e41, _, _⟩ := hb8.cells
                      have f8 := ((Fr.refl _ _).setCell (.inl (by simp)) _ : Fr [Q + 1] w7 (w7.setCell ⟨Q + 1, 1, none⟩ (.slice va vn vc)))
                      have H8 := Lib.hid (And.intro (hm7.box (k := 1) (i := 1) (by omega) (.slice va vn vc)) (And.intro hb8 (And.intro (f8.keep q7 (by simp; omega)) (And.intro (g7.trans f8 (U := []) (by simp) (fun x hx => .inr (by simp at hx; omega))) (a7.keep f8 g7.size (by simp; omega))))))
                      clear hm7 hb8 q7 g7 a7 f8 f7 hb7'
                      by_cases hE13 : E = 13
                      · subst hE13
                        have hk := (HX.out.2.1 rfl).1
                        subst hk
                        go_wp2_with fail
                        go_meet
                        exact ⟨13, F6, { s with m1 := (readM s.m1 n).m }, b0, b1, r0, (.slice va vn vc), B0, B1, R0, (R1 ++ O), f0, f1, y0, y1, k0, (true), h0, h1, rfl, Lib.hid H8.out.1, Lib.hid H8.out.2.1, Lib.hid ⟨HX.out.1, by have h := HH.out.2; have := HSB.out; exact ⟨by omega, by omega⟩⟩, Lib.hid H8.out.2.2.2.1, Lib.hid H8.out.2.2.2.2, Lib.hid H8.out.2.2.1, Lib.hid ⟨fun h => absurd h (by decide), fun _ _ => ⟨fun _ => (HX.out.2.1 rfl).2, fun h => absurd h (by decide)⟩⟩⟩
                      · have hE13b : (E == 13) = false := by simpa using hE13
                        go_wp2_with fail
                        go_meet
                        exact ⟨E, F6, { s with m1 := (readM s.m1 n).m }, b0, b1, r0, (.slice va vn vc), B0, B1, R0, (R1 ++ O), f0, f1, y0, y1, k0, k1, h0, h1, rfl, Lib.hid H8.out.1, Lib.hid H8.out.2.1, Lib.hid ⟨HX.out.1, by have h := HH.out.2; have := HSB.out; exact ⟨by omega, by omega⟩⟩, Lib.hid H8.out.2.2.2.1, Lib.hid H8.out.2.2.2.2, Lib.hid H8.out.2.2.1, Lib.hid ⟨fun h => HX.out.2.2 h, fun _ h => absurd h hE13⟩⟩
                  · skip
                    rcases Bool.eq_false_or_eq_true (what == 4) with q4 | q4
                    · obtain rfl : what = 4 := by simpa using q4
                      as_aux_lemma =>
                        obtain ⟨hE, hN, h14⟩ := HH.out.1.closew0
                        have HC := Lib.hid (dx_closewrite0 hR)
                        clear hR
                        obtain ⟨E, hE0⟩ : ∃ E, (closewM s.m0 13).err = E := ⟨_, rfl⟩
                        rw [hE0] at HC
                        rw [hE0] at hE hN h14
                        have hbe : (decide (E = 0)) = (E == 0) := by by_cases h : E = 0 <;> simp [h]
                        rw [hbe] at hN h14
                        have HNE := Lib.hid (And.intro hN (And.intro h14 hE))
                        clear hN h14 hE hbe hE0
                        go_wp2_with fail
                        refine HC.out.mono ?_
                        rintro e w6 ⟨rfl, hp⟩
                        obtain ⟨S6, F6, f6, hS6, hm6⟩ := HM5.out.call (G := NoG) (fun x hx => hx.elim) hp
                        have hfx := HM5.out.fx
                        have hq5 := HM5.out.hq
                        have hb6 := HB5.out.keep f6 (fun x hx => by rcases hS6 x hx with h | h; exact (hfx x h).2; exact .inr (by omega))
                        have q6 := f6.keep HQ5.out (fun hm => by rcases hS6 _ hm with h | h; exact Nat.lt_irrefl _ (hFl _ h); omega)
                        have hM6 : ∀ x ∈ S6, w.heap.size ≤ x := fun x hx => by rcases hS6 x hx with h | h; exact (hfx x h).1; omega
                        have g6 := HG5.out.trans f6 (U := []) (by simp) (fun x hx => .inr (hM6 x hx))
                        have a6 := HA5.out.keep f6 HG5.out.size hM6
                        have H6 := Lib.hid (And.intro hm6 (And.intro hb6 (And.intro q6 (And.intro g6 a6))))
                        clear hm6 hb6 q6 g6 a6 hfx hq5 hS6 hM6
                        clear HC f6
                        obtain ⟨_, _, _, _, _, _, _, _, c40, c41, c50, c51⟩ := H6.out.2.1.cells
                        obtain ⟨_, _, _, _, k4, k5⟩ := H6.out.2.1.free 0
                        have hz6 := H6.out.1.hq
                        obtain ⟨bE, hbE⟩ : ∃ bE, (E == 0) = bE := ⟨_, rfl⟩
                        rw [hbE] at HNE
                        cases k0 with
                        | true =>
                          have hb8 := H6.out.2.1.set40 true
                          have f8 := ((Fr.refl _ _).setCell (.inl (by simp)) _ : Fr [Q + 4] w6 (w6.setCell ⟨Q + 4, 0, none⟩ (.bool true)))
                          have H8 := Lib.hid (And.intro (H6.out.1.box (k := 4) (i := 0) (by omega) (.bool true)) (And.intro hb8 (And.intro (f8.keep H6.out.2.2.1 (by simp; omega)) (And.intro (H6.out.2.2.2.1.trans f8 (U := []) (by simp) (fun x hx => .inr (by simp at hx; omega))) (H6.out.2.2.2.2.keep f8 H6.out.2.2.2.1.size (by simp; omega))))))
                          clear hb8 f8
                          go_wp2_with fail
                          go_meet
                          exact ⟨E, F6, { s with m0 := (closewM s.m0 13).m }, b0, b1, r0, r1, B0, B1, R0, R1, f0, f1, y0, y1, (true), k1, h0, h1, rfl, Lib.hid H8.out.1, Lib.hid H8.out.2.1, Lib.hid ⟨(by have h := HNE.out.1; rw [Bool.true_or] at h; exact h), by have h := HH.out.2; have := HSB.out; exact ⟨by omega, by omega⟩⟩, Lib.hid H8.out.2.2.2.1, Lib.hid H8.out.2.2.2.2, Lib.hid H8.out.2.2.1, Lib.hid ⟨fun hq => by have h := HNE.out.2.1 hq; rw [Bool.true_or] at h; exact h, fun h => absurd h (by decide)⟩⟩
                        | false =>
                          have hb8 := H6.out.2.1.set40 bE
                          have f8 := ((Fr.refl _ _).setCell (.inl (by simp)) _ : Fr [Q + 4] w6 (w6.setCell ⟨Q + 4, 0, none⟩ (.bool bE)))
                          have H8 := Lib.hid (And.intro (H6.out.1.box (k := 4) (i := 0) (by omega) (.bool bE)) (And.intro hb8 (And.intro (f8.keep H6.out.2.2.1 (by simp; omega)) (And.intro (H6.out.2.2.2.1.trans f8 (U := []) (by simp) (fun x hx => .inr (by simp at hx; omega))) (H6.out.2.2.2.2.keep f8 H6.out.2.2.2.1.size (by simp; omega))))))
                          clear hb8 f8
                          go_wp2_with fail
                          go_meet
                          exact ⟨E, F6, { s with m0 := (closewM s.m0 13).m }, b0, b1, r0, r1, B0, B1, R0, R1, f0, f1, y0, y1, (bE), k1, h0, h1, rfl, Lib.hid H8.out.1, Lib.hid H8.out.2.1, Lib.hid ⟨(by have h := HNE.out.1; rw [Bool.false_or] at h; exact h), by have h := HH.out.2; have := HSB.out; exact ⟨by omega, by omega⟩⟩, Lib.hid H8.out.2.2.2.1, Lib.hid H8.out.2.2.2.2, Lib.hid H8.out.2.2.1, Lib.hid ⟨fun hq => by have h := HNE.out.2.1 hq; rw [Bool.false_or] at h; exact h, fun h => absurd h (by decide)⟩⟩
                    · skip
                      rcases Bool.eq_false_or_eq_true (what == 5) with q5 | q5
                      · obtain rfl : what = 5 := by simpa using q5
                        as_aux_lemma =>
                          obtain ⟨hE, hN, h14⟩ := HH.out.1.closer1
                          have HC := Lib.hid (dx_closeread0 hR)
                          clear hR
                          obtain ⟨E, hE0⟩ : ∃ E, (closerM s.m1 14).err = E := ⟨_, rfl⟩
                          rw [hE0] at HC
                          rw [hE0] at hE hN h14
                          have hbe : (decide (E = 0)) = (E == 0) := by by_cases h : E = 0 <;> simp [h]
                          rw [hbe] at hN h14
                          have HNE := Lib.hid (And.intro hN (And.intro h14 hE))
                          clear hN h14 hE hbe hE0
                          go_wp2_with fail
                          refine HC.out.mono ?_
                          rintro e w6 ⟨rfl, hp⟩
                          obtain ⟨S6, F6, f6, hS6, hm6⟩ := HM5.out.call (G := NoG) (fun x hx => hx.elim) hp
                          have hfx := HM5.out.fx
                          have hq5 := HM5.out.hq
                          have hb6 := HB5.out.keep f6 (fun x hx => by rcases hS6 x hx with h | h; exact (hfx x h).2; exact .inr (by omega))
                          have q6 := f6.keep HQ5.out (fun hm => by rcases hS6 _ hm with h | h; exact Nat.lt_irrefl _ (hFl _ h); omega)
                          have hM6 : ∀ x ∈ S6, w.heap.size ≤ x := fun x hx => by rcases hS6 x hx with h | h; exact (hfx x h).1; omega
                          have g6 := HG5.out.trans f6 (U := []) (by simp) (fun x hx => .inr (hM6 x hx))
                          have a6 := HA5.out.keep f6 HG5.out.size hM6
                          have H6 := Lib.hid (And.intro hm6 (And.intro hb6 (And.intro q6 (And.intro g6 a6))))
                          clear hm6 hb6 q6 g6 a6 hfx hq5 hS6 hM6
                          clear HC f6
                          obtain ⟨_, _, _, _, _, _, _, _, c40, c41, c50, c51⟩ := H6.out.2.1.cells
                          obtain ⟨_, _, _, _, k4, k5⟩ := H6.out.2.1.free 0
                          have hz6 := H6.out.1.hq
                          obtain ⟨bE, hbE⟩ : ∃ bE, (E == 0) = bE := ⟨_, rfl⟩
                          rw [hbE] at HNE
                          cases h0 with
                          | true =>
                            have hb8 := H6.out.2.1.set50 true
                            have f8 := ((Fr.refl _ _).setCell (.inl (by simp)) _ : Fr [Q + 5] w6 (w6.setCell ⟨Q + 5, 0, none⟩ (.bool true)))
                            have H8 := Lib.hid (And.intro (H6.out.1.box (k := 5) (i := 0) (by omega) (.bool true)) (And.intro hb8 (And.intro (f8.keep H6.out.2.2.1 (by simp; omega)) (And.intro (H6.out.2.2.2.1.trans f8 (U := []) (by simp) (fun x hx => .inr (by simp at hx; omega))) (H6.out.2.2.2.2.keep f8 H6.out.2.2.2.1.size (by simp; omega))))))
                            clear hb8 f8
                            go_wp2_with fail
                            go_meet
                            exact ⟨E, F6, { s with m1 := (closerM s.m1 14).m }, b0, b1, r0, r1, B0, B1, R0, R1, f0, f1, y0, y1, k0, k1, (true), h1, rfl, Lib.hid H8.out.1, Lib.hid H8.out.2.1, Lib.hid ⟨(by have h := HNE.out.1; rw [Bool.true_or] at h; exact h), by have h := HH.out.2; have := HSB.out; exact ⟨by omega, by omega⟩⟩, Lib.hid H8.out.2.2.2.1, Lib.hid H8.out.2.2.2.2, Lib.hid H8.out.2.2.1, Lib.hid ⟨fun hq => by have h := HNE.out.2.1 hq; rw [Bool.true_or] at h; exact h, fun h => absurd h (by decide)⟩⟩
                          | false =>
                            have hb8 := H6.out.2.1.set50 bE
                            have f8 := ((Fr.refl _ _).setCell (.inl (by simp)) _ : Fr [Q + 5] w6 (w6.setCell ⟨Q + 5, 0, none⟩ (.bool bE)))
                            have H8 := Lib.hid (And.intro (H6.out.1.box (k := 5) (i := 0) (by omega) (.bool bE)) (And.intro hb8 (And.intro (f8.keep H6.out.2.2.1 (by simp; omega)) (And.intro (H6.out.2.2.2.1.trans f8 (U := []) (by simp) (fun x hx => .inr (by simp at hx; omega))) (H6.out.2.2.2.2.keep f8 H6.out.2.2.2.1.size (by simp; omega))))))
                            clear hb8 f8
                            go_wp2_with fail
                            go_meet
                            exact ⟨E, F6, { s with m1 := (closerM s.m1 14).m }, b0, b1, r0, r1, B0, B1, R0, R1, f0, f1, y0, y1, k0, k1, (bE), h1, rfl, Lib.hid H8.out.1, Lib.hid H8.out.2.1, Lib.hid ⟨(by have h := HNE.out.1; rw [Bool.false_or] at h; exact h), by have h := HH.out.2; have := HSB.out; exact ⟨by omega, by omega⟩⟩, Lib.hid H8.out.2.2.2.1, Lib.hid H8.out.2.2.2.2, Lib.hid H8.out.2.2.1, Lib.hid ⟨fun hq => by have h := HNE.out.2.1 hq; rw [Bool.false_or] at h; exact h, fun h => absurd h (by decide)⟩⟩
                      · skip
                        have hw3 : what ≠ 3 := by simpa using q3
                        as_aux_lemma =>
                          cases hx : s.x0 with
                          | true =>
                            have HC := Lib.hid (dx_close0_yes hR hx)
                            have hk := HH.out.1.x0 hx
                            clear hR
                            go_wp2_with fail
                            refine HC.out.mono ?_
                            rintro e w6 ⟨rfl, rfl⟩
                            clear HC
                            go_wp2_with fail
                            go_meet
                            exact ⟨14, F, s, b0, b1, r0, r1, B0, B1, R0, R1, f0, f1, y0, y1, k0, k1, h0, h1, rfl, Lib.hid HM5.out, Lib.hid HB5.out, Lib.hid ⟨HH.out.1, by have h := HH.out.2; have := HSB.out; exact ⟨by omega, by omega⟩⟩, Lib.hid HG5.out, Lib.hid HA5.out, Lib.hid HQ5.out, Lib.hid ⟨fun _ => (.inl hk), fun h => absurd h hw3⟩⟩
                          | false =>
                            have HC := Lib.hid (dx_close0 hR hx)
                            have HN := Lib.hid HH.out.1.close0
                            clear hR
                            go_wp2_with fail
                            refine HC.out.mono ?_
                            rintro e w6 ⟨rfl, hp⟩
                            obtain ⟨S6, F6, f6, hS6, hm6⟩ := HM5.out.call (G := NoG) (fun x hx => hx.elim) hp
                            have hfx := HM5.out.fx
                            have hq5 := HM5.out.hq
                            have hb6 := HB5.out.keep f6 (fun x hx => by rcases hS6 x hx with h | h; exact (hfx x h).2; exact .inr (by omega))
                            have q6 := f6.keep HQ5.out (fun hm => by rcases hS6 _ hm with h | h; exact Nat.lt_irrefl _ (hFl _ h); omega)
                            have hM6 : ∀ x ∈ S6, w.heap.size ≤ x := fun x hx => by rcases hS6 x hx with h | h; exact (hfx x h).1; omega
                            have g6 := HG5.out.trans f6 (U := []) (by simp) (fun x hx => .inr (hM6 x hx))
                            have a6 := HA5.out.keep f6 HG5.out.size hM6
                            have H6 := Lib.hid (And.intro hm6 (And.intro hb6 (And.intro q6 (And.intro g6 a6))))
                            clear hm6 hb6 q6 g6 a6 hfx hq5 hS6 hM6
                            clear HC f6
                            obtain ⟨_, _, _, _, _, _, _, _, c40, c41, c50, c51⟩ := H6.out.2.1.cells
                            obtain ⟨_, _, _, _, k4, k5⟩ := H6.out.2.1.free 0
                            have hz6 := H6.out.1.hq
                            have hb7 := H6.out.2.1.set40 true
                            obtain ⟨_, _, _, _, _, _, _, _, _, _, d50, d51⟩ := hb7.cells
                            obtain ⟨_, _, _, _, _, l5⟩ := hb7.free 0
                            have hb8 := hb7.set50 true
                            have f8 := ((Fr.refl _ _).setCell (.inl (by simp)) _ : Fr [Q + 4, Q + 5] w6 (w6.setCell ⟨Q + 4, 0, none⟩ (.bool true))).trans ((Fr.refl _ _).setCell (.inl (by simp)) _ : Fr [Q + 4, Q + 5] _ ((w6.setCell ⟨Q + 4, 0, none⟩ (.bool true)).setCell ⟨Q + 5, 0, none⟩ (.bool true))) (fun x hx => .inl hx) (fun x hx => .inl hx)
                            have hbl : ∀ x ∈ [Q + 4, Q + 5], w.heap.size ≤ x ∧ x < X := by intro x hx; simp at hx; omega
                            have H8 := Lib.hid (And.intro ((H6.out.1.box (k := 4) (i := 0) (by omega) (.bool true)).box (k := 5) (i := 0) (by omega) (.bool true)) (And.intro hb8 (And.intro (f8.keep H6.out.2.2.1 (fun hm => by have := (hbl _ hm).2; omega)) (And.intro (H6.out.2.2.2.1.trans f8 (U := []) (by simp) (fun x hx => .inr (hbl x hx).1)) (H6.out.2.2.2.2.keep f8 H6.out.2.2.2.1.size (fun x hx => (hbl x hx).1))))))
                            clear hb7 hb8 f8 hbl
                            go_wp2_with fail
                            go_meet
                            exact ⟨0, F6, (closeS0 s), b0, b1, r0, r1, B0, B1, R0, R1, f0, f1, y0, y1, (true), k1, (true), h1, rfl, Lib.hid H8.out.1, Lib.hid H8.out.2.1, Lib.hid ⟨HN.out, by have h := HH.out.2; have := HSB.out; exact ⟨by omega, by omega⟩⟩, Lib.hid H8.out.2.2.2.1, Lib.hid H8.out.2.2.2.2, Lib.hid H8.out.2.2.1, Lib.hid ⟨fun h => absurd h (by decide), fun h => absurd h hw3⟩⟩
          · skip
            rcases Bool.eq_false_or_eq_true (what == 0) with q0 | q0
            · obtain rfl : what = 0 := by simpa using q0
              as_aux_lemma =>
                obtain ⟨g, hgf⟩ : ∃ g : Nat, f1 = g := ⟨f1.toNat, by have := HH.out.1.a1.f0; omega⟩
                subst hgf
                obtain ⟨t1, _, t3, _, _⟩ := HH.out.1.tail1
                have hgB : g ≤ B1.length := by omega
                have hlB := HH.out.2
                have hb3 : B1.length ≤ 3000 := by have := H3000.out; have := HTK.out; have := HSB.out; omega
                obtain ⟨vs, hvl, hsv, hone, hvp⟩ := HPP.out.at_.vals
                have hps := HOK.out.1
                have htt := HOK.out.2
                have HV := Lib.hid hvp
                have HSV := Lib.hid hsv
                have HONE := Lib.hid hone
                have HVL := Lib.hid hvl
                have HU2 : Hid (Try.prog.underlying 53 = some (.slice 29)) := Lib.hid Try.underlying53
                have HI2 : Hid ((Try.prog.info? 29).map (fun i => (i.zero, i.size, i.bytes)) = some (some (.slice none 0 0), 1, 24)) := Lib.hid (by kernel_rfl)
                have H3p : Hid (([] : List Value).length + ps.length ≤ maxLen) := Lib.hid (by unfold maxLen; simp; omega)
                have H4p : Hid ((([] : List Value).length + ps.length) * 24 ≤ 140737488355328) := Lib.hid (by simp; omega)
                have htf := tot_eq ps
                obtain ⟨fl, hfl⟩ : ∃ l, ps.flatten = l := ⟨_, rfl⟩
                rw [hfl] at htf
                have hof : (own ps).flatten = fl := by rw [own_flat, hfl]
                have HTF := Lib.hid (And.intro htf (And.intro htt hps))
                have hj0 := fun w' (f : Fr [] w5 w') => join15 ((HPP.out.keep f (by simp)).at_) (len := ps.length) (cap := pc) rfl (by omega) (by omega)
                rw [hfl] at hj0
                have HJ := Lib.hid hj0
                have HFL := Lib.hid hfl
                have HOF := Lib.hid hof
                clear hvp hsv hone hvl htt hps hj0 hof hfl t1 t3
                go_wp2_with (refine wpList_append_fr _ rfl (.const (.slice none 0 0)) (.tmp 78) 53 rfl 29 (.slice none 0 0) 24 HU2.out HI2.out rfl w5.heap.size (.slice none 0 0) [] (by exact rfl) (Ow.nil _ _ _) pa ps.length pc vs (by exact rfl) HVL.out HSV.out HONE.out H3p.out H4p.out (Nat.le_refl _) ?_)
                intro v6 wa o6 f6' _
                have fa : Fr [] w5 wa := f6'
                clear f6'
                obtain ⟨na, nc, rfl, hnc, hncm, hpa⟩ := PartsAt.copied o6.out HVL.out HV.out fa (by simp)
                have HNEW := Lib.hid (rope_new (cap := nc) hpa rfl (by have := HTF.out.2.2; unfold maxLen; omega))
                clear hpa o6 hnc hncm HV HSV HONE HVL HU2 HI2 H3p H4p
                go_wp2_with fail
                refine HNEW.out.mono ?_
                rintro e wb ⟨fb, he⟩
                rw [if_neg (by have := HTF.out.2.2; have := (show (own ps).length ≤ ps.length from List.length_filter_le _ _); omega), if_neg (by have := HTF.out.2.1; omega)] at he
                obtain ⟨v, rfl, hr⟩ := he
                obtain ⟨ra, rc, rfl, _⟩ := id hr
                clear HNEW
                obtain ⟨wc, hwc, fc, qc⟩ : ∃ W, wb.alloc (.cells #[.slice ra (own ps).length rc, .int .i64 (tot (own ps))] 57) = W ∧ Fr [] wb W ∧ W.heap[wb.heap.size]? = some (.cells #[.slice ra (own ps).length rc, .int .i64 (tot (own ps))] 57 (0, 0)) := ⟨_, rfl, (Fr.refl _ _).alloc _, newA rfl⟩
                have za := fa.size
                have zb := fb.size
                have zc := lt_of_heap qc
                have g5c := (fa.then0 fb).then0 fc
                have r0 : wc.cell? ⟨wb.heap.size, 0, none⟩ = some (.slice ra (own ps).length rc) := cell_of qc
                have r1 : wc.cell? ⟨wb.heap.size, 1, none⟩ = some (.int .i64 (tot (own ps))) := cell_of qc
                have hFl2 := hFl
                have hcall := dx_begin1 (hR.keep g5c (by simp)) (N2 := fun x => w5.heap.size ≤ x) ((hr.keep fc (by simp)).mono (fun x hx => by omega)) (fun x hx hn => by have := hFl2 x hx; omega)
                rw [HOF.out] at hcall
                have HC := Lib.hid hcall
                have HG5c := Lib.hid g5c
                clear hcall hr qc fa fb fc g5c hR hFl2
                go_wp2_with fail
                refine HC.out.mono ?_
                rintro e w6 ⟨rfl, hp0⟩
                have hp := hp0.ahead HG5c.out
                clear hp0
                obtain ⟨S6, F6, f6, hS6, hm6⟩ := HM5.out.call (G := (fun x => w5.heap.size ≤ x ∧ x < wc.heap.size)) (fun x hx => hx.1) hp
                have hfx := HM5.out.fx
                have hq5 := HM5.out.hq
                have hb6 := HB5.out.keep f6 (fun x hx => by rcases hS6 x hx with h | h; exact (hfx x h).2; exact .inr (by omega))
                have q6 := f6.keep HQ5.out (fun hm => by rcases hS6 _ hm with h | h; exact Nat.lt_irrefl _ (hFl _ h); omega)
                have hM6 : ∀ x ∈ S6, w.heap.size ≤ x := fun x hx => by rcases hS6 x hx with h | h; exact (hfx x h).1; omega
                have g6 := HG5.out.trans f6 (U := []) (by simp) (fun x hx => .inr (hM6 x hx))
                have a6 := HA5.out.keep f6 HG5.out.size hM6
                have HPP6 := Lib.hid (HPP.out.keep f6 hM6)
                have H6 := Lib.hid (And.intro hm6 (And.intro hb6 (And.intro q6 (And.intro g6 a6))))
                clear hm6 hb6 q6 g6 a6 hfx hq5 hS6 hM6
                clear HC f6 r0 r1
                by_cases herr : (beginM s.m1 fl).err = 0
                · obtain ⟨hN, hy, _⟩ := HH.out.1.begin1 (X := fl) (by have := HTF.out.1; have := HTF.out.2.1; omega) herr
                  rw [Int.toNat_natCast] at hN
                  rw [herr]
                  have HNE := Lib.hid hN
                  clear hN hy
                  obtain ⟨ba, bc, rfl, hbc, bsl, _, _⟩ := H6.out.1.p1.sl
                  have HBS := Lib.hid fun w' (f : Fr [] w6 w') => (show SlV w' ba ((bi (B1.take g)).map (Value.int .u8)) from by rw [bi_take, List.map_take]; exact ((sl_keep bsl f (by simp)).toV).take g)
                  have HUU : Hid (Try.prog.underlying 29 = some (.slice 5)) := Lib.hid Try.underlying29
                  have HIN : Hid ((Try.prog.info? 5).map (fun i => (i.zero, i.size, i.bytes)) = some (some (.int .u8 0), 1, 1)) := Lib.hid (by kernel_rfl)
                  have H3 : Hid (g + fl.length ≤ maxLen) := Lib.hid (by have := HTF.out.1; have := HTF.out.2.1; unfold maxLen; omega)
                  have H4 : Hid ((g + fl.length) * 1 ≤ 140737488355328) := Lib.hid (by have := HTF.out.1; have := HTF.out.2.1; omega)
                  have HL1 : Hid (((bi (B1.take g)).map (Value.int .u8)).length = g) := Lib.hid (by rw [List.length_map, bi_length, List.length_take]; omega)
                  have HL2 : Hid (((bi fl).map (Value.int .u8)).length = fl.length) := Lib.hid (by simp [bi_length])
                  have HO := Lib.hid (bytes_one (bi fl))
                  have HJ6 := Lib.hid fun w' (f : Fr [] w6 w') => join15 ((HPP6.out.keep f (by simp)).at_) (len := ps.length) (cap := pc) rfl (by have := HTF.out.2.2; omega) (by have := HTF.out.2.1; omega)
                  have hz6 := H6.out.1.hq
                  have HFA := Lib.hid fun (w' : World) (f : Fr [Q, Q + 3] w6 w') => (show w'.cell? ⟨Q + 2, 1, none⟩ = some (.int .i64 g) ∧ w'.cell? ⟨X, 2, none⟩ = some (.slice pa ps.length pc) ∧ (Instr.slice 29 (.slice ba B1.length bc) none (some (.int .i64 g)) (some (.int .i64 g))).run Try.prog w' = .ok (.slice ba g g) w' from ⟨cell_of (f.keep H6.out.2.1.q2 (by simp)), cell_of (f.keep H6.out.2.2.1 (by simp; omega)), run_capg hgB hbc w'⟩)
                  have hqc := H6.out.2.1
                  rw [HFL.out] at HJ6
                  have HEJ := Lib.hid (Go.Proofs.enters_of Try.func30 (by kernel_rfl) rfl)
                  clear bsl
                  go_wp2_with fail
                  have fd : Fr [] w6 w6.drew := (Fr.refl _ _).drew
                  have fdS : Fr [Q, Q + 3] w6 w6.drew := fd.trans (Fr.refl _ _ : Fr [Q, Q + 3] _ _) (by simp) (fun x hx => .inl hx)
                  refine wp_region_tree (.take 0 (.take 1 (.take 2 (.take 3 (.take 5 (.take 6 (.take 7 (.take 8 (.take 9 (.take 10 (.take 12 (.take 13 (.two 4 14 (.take 11 (.one 14 (.one 15 (.take 16 (.one 17 (.take 18 (.one 19 .nil))))))) (.one 4 (.take 11 (.one 15 (.take 16 (.one 17 (.take 18 (.one 19 .nil)))))))))))))))))))) (fun w' => Fr [Q, Q + 3] w6 w') (by kernel_rfl) (by kernel_rfl) fdS ?_
                  intro OPS HOPS
                  have hops := HOPS.out
                  try simp only [List.append_eq, List.cons_append, List.nil_append] at hops
                  replace HOPS := Lib.hid hops
                  clear hops
                  refine walkT_take (o := _) (v := ?_) (by rw [HOPS.out]; simp only [List.getElem?_toArray, List.getElem?_cons_succ, List.getElem?_cons_zero]; exact rfl) (Or.inl ⟨rfl, ?_⟩) ?_
                  rotate_left
                  · (intro w hSw; have hSx := HFA.out _ hSw; (try dsimp only at hSx); clear hSw; go_simp) <;> (with_reducible rfl)
                  simp only [Act.put, List.setIfInBounds_toArray, List.set_cons_zero, List.set_cons_succ]
                  refine walkT_take (o := _) (v := ?_) (by rw [HOPS.out]; simp only [List.getElem?_toArray, List.getElem?_cons_succ, List.getElem?_cons_zero]; exact rfl) (Or.inl ⟨rfl, ?_⟩) ?_
                  rotate_left
                  · (intro w hSw; have hSx := HFA.out _ hSw; (try dsimp only at hSx); clear hSw; go_simp) <;> (with_reducible rfl)
                  simp only [Act.put, List.setIfInBounds_toArray, List.set_cons_zero, List.set_cons_succ]
                  refine walkT_take (o := _) (v := ?_) (by rw [HOPS.out]; simp only [List.getElem?_toArray, List.getElem?_cons_succ, List.getElem?_cons_zero]; exact rfl) (Or.inl ⟨rfl, ?_⟩) ?_
                  rotate_left
                  · (intro w hSw; have hSx := HFA.out _ hSw; (try dsimp only at hSx); clear hSw; go_simp) <;> (with_reducible rfl)
                  simp only [Act.put, List.setIfInBounds_toArray, List.set_cons_zero, List.set_cons_succ]
                  refine walkT_take (o := _) (v := ?_) (by rw [HOPS.out]; simp only [List.getElem?_toArray, List.getElem?_cons_succ, List.getElem?_cons_zero]; exact rfl) (Or.inl ⟨rfl, ?_⟩) ?_
                  rotate_left
                  · (intro w hSw; have hSx := HFA.out _ hSw; (try dsimp only at hSx); clear hSw; go_simp) <;> (with_reducible rfl)
                  simp only [Act.put, List.setIfInBounds_toArray, List.set_cons_zero, List.set_cons_succ]
                  refine walkT_take (o := _) (v := ?_) (by rw [HOPS.out]; simp only [List.getElem?_toArray, List.getElem?_cons_succ, List.getElem?_cons_zero]; exact rfl) (Or.inl ⟨rfl, ?_⟩) ?_
                  rotate_left
                  · (intro w hSw; have hSx := HFA.out _ hSw; (try dsimp only at hSx); clear hSw; go_simp) <;> (with_reducible rfl)
                  simp only [Act.put, List.setIfInBounds_toArray, List.set_cons_zero, List.set_cons_succ]
                  refine walkT_take (o := _) (v := ?_) (by rw [HOPS.out]; simp only [List.getElem?_toArray, List.getElem?_cons_succ, List.getElem?_cons_zero]; exact rfl) (Or.inl ⟨rfl, ?_⟩) ?_
                  rotate_left
                  · (intro w hSw; have hSx := HFA.out _ hSw; (try dsimp only at hSx); clear hSw; go_simp) <;> (with_reducible rfl)
                  simp only [Act.put, List.setIfInBounds_toArray, List.set_cons_zero, List.set_cons_succ]
                  refine walkT_take (o := _) (v := ?_) (by rw [HOPS.out]; simp only [List.getElem?_toArray, List.getElem?_cons_succ, List.getElem?_cons_zero]; exact rfl) (Or.inl ⟨rfl, ?_⟩) ?_
                  rotate_left
                  · (intro w hSw; have hSx := HFA.out _ hSw; (try dsimp only at hSx); clear hSw; go_simp) <;> (with_reducible rfl)
                  simp only [Act.put, List.setIfInBounds_toArray, List.set_cons_zero, List.set_cons_succ]
                  refine walkT_take (o := _) (v := ?_) (by rw [HOPS.out]; simp only [List.getElem?_toArray, List.getElem?_cons_succ, List.getElem?_cons_zero]; exact rfl) (Or.inl ⟨rfl, ?_⟩) ?_
                  rotate_left
                  · (intro w hSw; have hSx := HFA.out _ hSw; (try dsimp only at hSx); clear hSw; go_simp) <;> (with_reducible rfl)
                  simp only [Act.put, List.setIfInBounds_toArray, List.set_cons_zero, List.set_cons_succ]
                  refine walkT_take (o := _) (v := ?_) (by rw [HOPS.out]; simp only [List.getElem?_toArray, List.getElem?_cons_succ, List.getElem?_cons_zero]; exact rfl) (Or.inl ⟨rfl, ?_⟩) ?_
                  rotate_left
                  · (intro w hSw; have hSx := HFA.out _ hSw; (try dsimp only at hSx); clear hSw; go_simp) <;> (with_reducible rfl)
                  simp only [Act.put, List.setIfInBounds_toArray, List.set_cons_zero, List.set_cons_succ]
                  refine walkT_take (o := _) (v := ?_) (by rw [HOPS.out]; simp only [List.getElem?_toArray, List.getElem?_cons_succ, List.getElem?_cons_zero]; exact rfl) (Or.inl ⟨rfl, ?_⟩) ?_
                  rotate_left
                  · (intro w hSw; have hSx := HFA.out _ hSw; (try dsimp only at hSx); clear hSw; go_simp) <;> (with_reducible rfl)
                  simp only [Act.put, List.setIfInBounds_toArray, List.set_cons_zero, List.set_cons_succ]
                  refine walkT_take (o := _) (v := ?_) (by rw [HOPS.out]; simp only [List.getElem?_toArray, List.getElem?_cons_succ, List.getElem?_cons_zero]; exact rfl) (Or.inl ⟨rfl, ?_⟩) ?_
                  rotate_left
                  · (intro w hSw; have hSx := HFA.out _ hSw; (try dsimp only at hSx); clear hSw; go_simp) <;> (with_reducible rfl)
                  simp only [Act.put, List.setIfInBounds_toArray, List.set_cons_zero, List.set_cons_succ]
                  refine walkT_take (o := _) (v := ?_) (by rw [HOPS.out]; simp only [List.getElem?_toArray, List.getElem?_cons_succ, List.getElem?_cons_zero]; exact rfl) (Or.inl ⟨rfl, ?_⟩) ?_
                  rotate_left
                  · (intro w hSw; have hSx := HFA.out _ hSw; (try dsimp only at hSx); clear hSw; go_simp) <;> (with_reducible rfl)
                  simp only [Act.put, List.setIfInBounds_toArray, List.set_cons_zero, List.set_cons_succ]
                  refine walkT_two ?_ ?_
                  · skip
                    refine walkT_call (o := _) (by rw [HOPS.out]; simp only [List.getElem?_toArray, List.getElem?_cons_succ, List.getElem?_cons_zero]; exact rfl) (fun K HK => ?_)
                    have cl_ : w6.drew.cell? ⟨Q, 1, none⟩ = some (.slice ba B1.length bc) := cell_of (fd.keep hqc.q0 (by simp))
                    go_simp
                    clear cl_
                    refine HK.out (fun w' => Fr [Q, Q + 3] w6 w') _ _ (fun _ h => h) (fdS) ?_
                    clear HK K
                    try simp only [Act.put, List.setIfInBounds_toArray, List.set_cons_zero, List.set_cons_succ]
                    refine walkT_take (o := _) (v := ?_) (by rw [HOPS.out]; simp only [List.getElem?_toArray, List.getElem?_cons_succ, List.getElem?_cons_zero]; exact rfl) (Or.inl ⟨rfl, ?_⟩) ?_
                    rotate_left
                    · (intro w hSw; have hSx := HFA.out _ hSw; (try dsimp only at hSx); clear hSw; go_simp) <;> (with_reducible rfl)
                    simp only [Act.put, List.setIfInBounds_toArray, List.set_cons_zero, List.set_cons_succ]
                    refine walkT_call (o := _) (by rw [HOPS.out]; simp only [List.getElem?_toArray, List.getElem?_cons_succ, List.getElem?_cons_zero]; exact rfl) (fun K HK => ?_)
                    refine step_call rfl 30 #[(.tmp 104)] #[53] rfl HEJ.out #[.slice pa ps.length pc] (by simp [Act.eval]) (HJ6.out _ fd) ?_
                    rintro e w10 ⟨vj, rfl, f10, oj⟩
                    obtain ⟨ja, jc, rfl, _, _, js, _⟩ := oj.formB
                    have g10 := fd.then0 f10
                    have hjs := js.toV
                    have g10S : Fr [Q, Q + 3] w6 w10 := g10.trans (Fr.refl _ _ : Fr [Q, Q + 3] _ _) (by simp) (fun x hx => .inl hx)
                    refine ⟨_, rfl, ?_⟩
                    refine HK.out (fun w' => Fr [Q, Q + 3] w6 w') _ _ (fun _ h => h) (g10S) ?_
                    clear HK K
                    simp only [Act.put, List.setIfInBounds_toArray, List.set_cons_zero, List.set_cons_succ]
                    refine walkT_call (o := _) (by rw [HOPS.out]; simp only [List.getElem?_toArray, List.getElem?_cons_succ, List.getElem?_cons_zero]; exact rfl) (fun K HK => ?_)
                    refine step_append_exact rfl (.tmp 102) (.tmp 105) 29 rfl 5 (.int .u8 0) 1 HUU.out HIN.out rfl ba g ((bi (B1.take g)).map (Value.int .u8)) rfl HL1.out (HBS.out _ g10) ja fl.length jc ((bi fl).map (Value.int .u8)) rfl HL2.out hjs HO.out H3.out H4.out ?_
                    intro v11 w11 f11 hor
                    obtain ⟨va, vn, vc, rfl⟩ : ∃ a n c, v11 = .slice a n c := by
                      rcases hor with ⟨_, h, _⟩ | ow
                      · exact ⟨_, _, _, h⟩
                      · obtain ⟨_, _, h, _⟩ := ow.form; exact ⟨_, _, _, h⟩
                    have g11 := g10.then0 f11
                    have g11S : Fr [Q, Q + 3] w6 w11 := g11.trans (Fr.refl _ _ : Fr [Q, Q + 3] _ _) (by simp) (fun x hx => .inl hx)
                    refine HK.out (fun w' => Fr [Q, Q + 3] w6 w') _ _ (fun _ h => h) (g11S) ?_
                    clear HK K
                    try simp only [Act.put, List.setIfInBounds_toArray, List.set_cons_zero, List.set_cons_succ]
                    refine walkT_take (o := _) (v := ?_) (by rw [HOPS.out]; simp only [List.getElem?_toArray, List.getElem?_cons_succ, List.getElem?_cons_zero]; exact rfl) (Or.inl ⟨rfl, ?_⟩) ?_
                    rotate_left
                    · (intro w hSw; have hSx := HFA.out _ hSw; (try dsimp only at hSx); clear hSw; go_simp) <;> (with_reducible rfl)
                    simp only [Act.put, List.setIfInBounds_toArray, List.set_cons_zero, List.set_cons_succ]
                    refine walkT_call (o := _) (by rw [HOPS.out]; simp only [List.getElem?_toArray, List.getElem?_cons_succ, List.getElem?_cons_zero]; exact rfl) (fun K HK => ?_)
                    have hb11 := H6.out.2.1.keep0 g11
                    have sc_ : w11.cell? ⟨Q, 1, none⟩ = some (.slice ba B1.length bc) := cell_of hb11.q0
                    have sf_ : w11.frozen? ⟨Q, 1, none⟩ = false := free_of hb11.q0
                    go_simp
                    clear sc_ sf_
                    have hb12 := hb11.set01 (.slice va vn vc)
                    have f12 : Fr [Q, Q + 3] w6 (w11.setCell ⟨Q, 1, none⟩ (.slice va vn vc)) := g11S.trans ((Fr.refl _ _).setCell (.inl (by simp)) _ : Fr [Q, Q + 3] w11 _) (fun x hx => .inl hx) (fun x hx => .inl hx)
                    obtain ⟨w12, hw12⟩ : ∃ W, w11.setCell ⟨Q, 1, none⟩ (.slice va vn vc) = W := ⟨_, rfl⟩
                    rw [hw12] at hb12 f12 ⊢
                    refine HK.out (fun w' => Fr [Q, Q + 3] w6 w') _ _ (fun _ h => h) (f12) ?_
                    clear HK K
                    try simp only [Act.put, List.setIfInBounds_toArray, List.set_cons_zero, List.set_cons_succ]
                    refine walkT_take (o := _) (v := ?_) (by rw [HOPS.out]; simp only [List.getElem?_toArray, List.getElem?_cons_succ, List.getElem?_cons_zero]; exact rfl) (Or.inl ⟨rfl, ?_⟩) ?_
                    rotate_left
                    · (intro w hSw; have hSx := HFA.out _ hSw; (try dsimp only at hSx); clear hSw; go_simp) <;> (with_reducible rfl)
                    simp only [Act.put, List.setIfInBounds_toArray, List.set_cons_zero, List.set_cons_succ]
                    refine walkT_call (o := _) (by rw [HOPS.out]; simp only [List.getElem?_toArray, List.getElem?_cons_succ, List.getElem?_cons_zero]; exact rfl) (fun K HK => ?_)
                    have sc_ : w12.cell? ⟨Q + 3, 1, none⟩ = some (.bool y1) := cell_of hb12.q3
                    have sf_ : w12.frozen? ⟨Q + 3, 1, none⟩ = false := free_of hb12.q3
                    go_simp
                    clear sc_ sf_
                    have hb13 := hb12.set31 true
                    have f13 : Fr [Q, Q + 3] w6 (w12.setCell ⟨Q + 3, 1, none⟩ (.bool true)) := f12.trans ((Fr.refl _ _).setCell (.inl (by simp)) _ : Fr [Q, Q + 3] w12 _) (fun x hx => .inl hx) (fun x hx => .inl hx)
                    refine HK.out (fun w' => Fr [Q, Q + 3] w6 w') _ _ (fun _ h => h) (f13) ?_
                    clear HK K
                    try simp only [Act.put, List.setIfInBounds_toArray, List.set_cons_zero, List.set_cons_succ]
                    refine walkT_done ?_
                    clear HOPS OPS
                    have hm11 := H6.out.1.grow1 hgB g10 f11 hor
                    have hm13 := (hm11.box (k := 0) (i := 1) (by omega) (.slice va vn vc)).box (k := 3) (i := 1) (by omega) (.bool true)
                    have hm13' : DHM w (w12.setCell ⟨Q + 3, 1, none⟩ (.bool true)) Q F6 dx ({ s with m1 := (beginM s.m1 fl).m }) b0 ((.slice va vn vc)) r0 r1 B0 (B1.take g ++ fl) R0 R1 := by rw [← hw12]; exact hm13
                    have hbl : ∀ x ∈ [Q, Q + 3], w.heap.size ≤ x ∧ x < X := by intro x hx; simp at hx; omega
                    have H13 := Lib.hid (And.intro hm13' (And.intro hb13 (And.intro (f13.keep H6.out.2.2.1 (fun hm => by have := (hbl _ hm).2; omega)) (And.intro (H6.out.2.2.2.1.trans f13 (U := []) (by simp) (fun x hx => .inr (hbl x hx).1)) (H6.out.2.2.2.2.keep f13 H6.out.2.2.2.1.size (fun x hx => (hbl x hx).1))))))
                    clear hm11 hm13 hm13' hb11 hb12 hb13 f12 f13 hor g10 g11 g10S g11S f10 f11 hw12
                    go_wp2_with fail
                    go_meet
                    exact ⟨0, F6, ({ s with m1 := (beginM s.m1 fl).m }), b0, ((.slice va vn vc)), r0, r1, B0, (B1.take g ++ fl), R0, R1, f0, ((g : Int)), y0, (true), k0, k1, h0, h1, rfl, Lib.hid H13.out.1, Lib.hid H13.out.2.1, Lib.hid ⟨HNE.out, (by have h := HH.out.2; have := HSB.out; have := HTF.out.1; rw [List.length_append, List.length_take]; exact ⟨by omega, by omega⟩)⟩, Lib.hid H13.out.2.2.2.1, Lib.hid H13.out.2.2.2.2, Lib.hid H13.out.2.2.1, Lib.hid ⟨fun h => absurd h (by decide), fun h => absurd h (by decide)⟩⟩
                  · skip
                    refine walkT_call (o := _) (by rw [HOPS.out]; simp only [List.getElem?_toArray, List.getElem?_cons_succ, List.getElem?_cons_zero]; exact rfl) (fun K HK => ?_)
                    refine step_call rfl 30 #[(.tmp 104)] #[53] rfl HEJ.out #[.slice pa ps.length pc] (by simp [Act.eval]) (HJ6.out _ fd) ?_
                    rintro e w10 ⟨vj, rfl, f10, oj⟩
                    obtain ⟨ja, jc, rfl, _, _, js, _⟩ := oj.formB
                    have g10 := fd.then0 f10
                    have hjs := js.toV
                    have g10S : Fr [Q, Q + 3] w6 w10 := g10.trans (Fr.refl _ _ : Fr [Q, Q + 3] _ _) (by simp) (fun x hx => .inl hx)
                    refine ⟨_, rfl, ?_⟩
                    refine HK.out (fun w' => Fr [Q, Q + 3] w6 w') _ _ (fun _ h => h) (g10S) ?_
                    clear HK K
                    simp only [Act.put, List.setIfInBounds_toArray, List.set_cons_zero, List.set_cons_succ]
                    refine walkT_call (o := _) (by rw [HOPS.out]; simp only [List.getElem?_toArray, List.getElem?_cons_succ, List.getElem?_cons_zero]; exact rfl) (fun K HK => ?_)
                    have cl_ : w10.cell? ⟨Q, 1, none⟩ = some (.slice ba B1.length bc) := cell_of (g10.keep hqc.q0 (by simp))
                    go_simp
                    clear cl_
                    refine HK.out (fun w' => Fr [Q, Q + 3] w6 w') _ _ (fun _ h => h) (g10S) ?_
                    clear HK K
                    try simp only [Act.put, List.setIfInBounds_toArray, List.set_cons_zero, List.set_cons_succ]
                    refine walkT_take (o := _) (v := ?_) (by rw [HOPS.out]; simp only [List.getElem?_toArray, List.getElem?_cons_succ, List.getElem?_cons_zero]; exact rfl) (Or.inl ⟨rfl, ?_⟩) ?_
                    rotate_left
                    · (intro w hSw; have hSx := HFA.out _ hSw; (try dsimp only at hSx); clear hSw; go_simp) <;> (with_reducible rfl)
                    simp only [Act.put, List.setIfInBounds_toArray, List.set_cons_zero, List.set_cons_succ]
                    refine walkT_call (o := _) (by rw [HOPS.out]; simp only [List.getElem?_toArray, List.getElem?_cons_succ, List.getElem?_cons_zero]; exact rfl) (fun K HK => ?_)
                    refine step_append_exact rfl (.tmp 102) (.tmp 105) 29 rfl 5 (.int .u8 0) 1 HUU.out HIN.out rfl ba g ((bi (B1.take g)).map (Value.int .u8)) rfl HL1.out (HBS.out _ g10) ja fl.length jc ((bi fl).map (Value.int .u8)) rfl HL2.out hjs HO.out H3.out H4.out ?_
                    intro v11 w11 f11 hor
                    obtain ⟨va, vn, vc, rfl⟩ : ∃ a n c, v11 = .slice a n c := by
                      rcases hor with ⟨_, h, _⟩ | ow
                      · exact ⟨_, _, _, h⟩
                      · obtain ⟨_, _, h, _⟩ := ow.form; exact ⟨_, _, _, h⟩
                    have g11 := g10.then0 f11
                    have g11S : Fr [Q, Q + 3] w6 w11 := g11.trans (Fr.refl _ _ : Fr [Q, Q + 3] _ _) (by simp) (fun x hx => .inl hx)
                    refine HK.out (fun w' => Fr [Q, Q + 3] w6 w') _ _ (fun _ h => h) (g11S) ?_
                    clear HK K
                    try simp only [Act.put, List.setIfInBounds_toArray, List.set_cons_zero, List.set_cons_succ]
                    refine walkT_take (o := _) (v := ?_) (by rw [HOPS.out]; simp only [List.getElem?_toArray, List.getElem?_cons_succ, List.getElem?_cons_zero]; exact rfl) (Or.inl ⟨rfl, ?_⟩) ?_
                    rotate_left
                    · (intro w hSw; have hSx := HFA.out _ hSw; (try dsimp only at hSx); clear hSw; go_simp) <;> (with_reducible rfl)
                    simp only [Act.put, List.setIfInBounds_toArray, List.set_cons_zero, List.set_cons_succ]
                    refine walkT_call (o := _) (by rw [HOPS.out]; simp only [List.getElem?_toArray, List.getElem?_cons_succ, List.getElem?_cons_zero]; exact rfl) (fun K HK => ?_)
                    have hb11 := H6.out.2.1.keep0 g11
                    have sc_ : w11.cell? ⟨Q, 1, none⟩ = some (.slice ba B1.length bc) := cell_of hb11.q0
                    have sf_ : w11.frozen? ⟨Q, 1, none⟩ = false := free_of hb11.q0
                    go_simp
                    clear sc_ sf_
                    have hb12 := hb11.set01 (.slice va vn vc)
                    have f12 : Fr [Q, Q + 3] w6 (w11.setCell ⟨Q, 1, none⟩ (.slice va vn vc)) := g11S.trans ((Fr.refl _ _).setCell (.inl (by simp)) _ : Fr [Q, Q + 3] w11 _) (fun x hx => .inl hx) (fun x hx => .inl hx)
                    obtain ⟨w12, hw12⟩ : ∃ W, w11.setCell ⟨Q, 1, none⟩ (.slice va vn vc) = W := ⟨_, rfl⟩
                    rw [hw12] at hb12 f12 ⊢
                    refine HK.out (fun w' => Fr [Q, Q + 3] w6 w') _ _ (fun _ h => h) (f12) ?_
                    clear HK K
                    try simp only [Act.put, List.setIfInBounds_toArray, List.set_cons_zero, List.set_cons_succ]
                    refine walkT_take (o := _) (v := ?_) (by rw [HOPS.out]; simp only [List.getElem?_toArray, List.getElem?_cons_succ, List.getElem?_cons_zero]; exact rfl) (Or.inl ⟨rfl, ?_⟩) ?_
                    rotate_left
                    · (intro w hSw; have hSx := HFA.out _ hSw; (try dsimp only at hSx); clear hSw; go_simp) <;> (with_reducible rfl)
                    simp only [Act.put, List.setIfInBounds_toArray, List.set_cons_zero, List.set_cons_succ]
                    refine walkT_call (o := _) (by rw [HOPS.out]; simp only [List.getElem?_toArray, List.getElem?_cons_succ, List.getElem?_cons_zero]; exact rfl) (fun K HK => ?_)
                    have sc_ : w12.cell? ⟨Q + 3, 1, none⟩ = some (.bool y1) := cell_of hb12.q3
                    have sf_ : w12.frozen? ⟨Q + 3, 1, none⟩ = false := free_of hb12.q3
                    go_simp
                    clear sc_ sf_
                    have hb13 := hb12.set31 true
                    have f13 : Fr [Q, Q + 3] w6 (w12.setCell ⟨Q + 3, 1, none⟩ (.bool true)) := f12.trans ((Fr.refl _ _).setCell (.inl (by simp)) _ : Fr [Q, Q + 3] w12 _) (fun x hx => .inl hx) (fun x hx => .inl hx)
                    refine HK.out (fun w' => Fr [Q, Q + 3] w6 w') _ _ (fun _ h => h) (f13) ?_
                    clear HK K
                    try simp only [Act.put, List.setIfInBounds_toArray, List.set_cons_zero, List.set_cons_succ]
                    refine walkT_done ?_
                    clear HOPS OPS
                    have hm11 := H6.out.1.grow1 hgB g10 f11 hor
                    have hm13 := (hm11.box (k := 0) (i := 1) (by omega) (.slice va vn vc)).box (k := 3) (i := 1) (by omega) (.bool true)
                    have hm13' : DHM w (w12.setCell ⟨Q + 3, 1, none⟩ (.bool true)) Q F6 dx ({ s with m1 := (beginM s.m1 fl).m }) b0 ((.slice va vn vc)) r0 r1 B0 (B1.take g ++ fl) R0 R1 := by rw [← hw12]; exact hm13
                    have hbl : ∀ x ∈ [Q, Q + 3], w.heap.size ≤ x ∧ x < X := by intro x hx; simp at hx; omega
                    have H13 := Lib.hid (And.intro hm13' (And.intro hb13 (And.intro (f13.keep H6.out.2.2.1 (fun hm => by have := (hbl _ hm).2; omega)) (And.intro (H6.out.2.2.2.1.trans f13 (U := []) (by simp) (fun x hx => .inr (hbl x hx).1)) (H6.out.2.2.2.2.keep f13 H6.out.2.2.2.1.size (fun x hx => (hbl x hx).1))))))
                    clear hm11 hm13 hm13' hb11 hb12 hb13 f12 f13 hor g10 g11 g10S g11S f10 f11 hw12
                    go_wp2_with fail
                    go_meet
                    exact ⟨0, F6, ({ s with m1 := (beginM s.m1 fl).m }), b0, ((.slice va vn vc)), r0, r1, B0, (B1.take g ++ fl), R0, R1, f0, ((g : Int)), y0, (true), k0, k1, h0, h1, rfl, Lib.hid H13.out.1, Lib.hid H13.out.2.1, Lib.hid ⟨HNE.out, (by have h := HH.out.2; have := HSB.out; have := HTF.out.1; rw [List.length_append, List.length_take]; exact ⟨by omega, by omega⟩)⟩, Lib.hid H13.out.2.2.2.1, Lib.hid H13.out.2.2.2.2, Lib.hid H13.out.2.2.1, Lib.hid ⟨fun h => absurd h (by decide), fun h => absurd h (by decide)⟩⟩
                · have hne := herr
                  obtain ⟨hs2, h14⟩ := HH.out.1.beginNo1 herr
                  rw [hs2] at H6
                  have hE0 : ((beginM s.m1 fl).err == 0) = false := by simpa using herr
                  generalize (beginM s.m1 fl).err = E at *
                  have H14 := Lib.hid h14
                  clear hs2 h14 herr hne
                  go_wp2_with fail
                  go_meet
                  exact ⟨E, F6, s, b0, b1, r0, r1, B0, B1, R0, R1, f0, ((g : Int)), y0, y1, k0, k1, h0, h1, rfl, Lib.hid H6.out.1, Lib.hid H6.out.2.1, Lib.hid ⟨HH.out.1, by have h := HH.out.2; have := HSB.out; exact ⟨by omega, by omega⟩⟩, Lib.hid H6.out.2.2.2.1, Lib.hid H6.out.2.2.2.2, Lib.hid H6.out.2.2.1, Lib.hid ⟨fun h => H14.out h, fun h => absurd h (by decide)⟩⟩
            · skip
              rcases Bool.eq_false_or_eq_true (what == 1) with q1 | q1
              · obtain rfl : what = 1 := by simpa using q1
                as_aux_lemma =>
                  have HE := Lib.hid HH.out.1.end1
                  have HC := Lib.hid (dx_finish1 hR)
                  clear hR
                  obtain ⟨E, hE⟩ : ∃ E, (endM s.m1).err = E := ⟨_, rfl⟩
                  obtain ⟨N, hN0⟩ : ∃ N, (endM s.m1).n = N := ⟨_, rfl⟩
                  rw [hE, hN0] at HC
                  rw [hE, hN0] at HE
                  go_wp2_with fail
                  refine HC.out.mono ?_
                  rintro e w6 ⟨rfl, hp⟩
                  obtain ⟨S6, F6, f6, hS6, hm6⟩ := HM5.out.call (G := NoG) (fun x hx => hx.elim) hp
                  have hfx := HM5.out.fx
                  have hq5 := HM5.out.hq
                  have hb6 := HB5.out.keep f6 (fun x hx => by rcases hS6 x hx with h | h; exact (hfx x h).2; exact .inr (by omega))
                  have q6 := f6.keep HQ5.out (fun hm => by rcases hS6 _ hm with h | h; exact Nat.lt_irrefl _ (hFl _ h); omega)
                  have hM6 : ∀ x ∈ S6, w.heap.size ≤ x := fun x hx => by rcases hS6 x hx with h | h; exact (hfx x h).1; omega
                  have g6 := HG5.out.trans f6 (U := []) (by simp) (fun x hx => .inr (hM6 x hx))
                  have a6 := HA5.out.keep f6 HG5.out.size hM6
                  have H6 := Lib.hid (And.intro hm6 (And.intro hb6 (And.intro q6 (And.intro g6 a6))))
                  clear hm6 hb6 q6 g6 a6 hfx hq5 hS6 hM6
                  clear HC f6 hE hN0
                  go_upto_region 32 with fail
                  rcases HE.out with ⟨hs2, he⟩ | ⟨hy, hn, he, hN⟩
                  · skip
                    clear HE
                    rw [hs2] at H6
                    rcases he with rfl | rfl
                    · skip
                      go_wp2_with fail
                      go_roundw
                      case rel => exact ⟨k + 1, F6, s, b0, b1, r0, r1, B0, B1, R0, R1, f0, f1, y0, y1, k0, k1, h0, h1, by omega, by go_num, Lib.hid H6.out.1, Lib.hid H6.out.2.1, Lib.hid ⟨HH.out.1, by have h := HH.out.2; have := HSB.out; exact ⟨by omega, by omega⟩⟩, Lib.hid H6.out.2.2.2.1, Lib.hid H6.out.2.2.2.2⟩
                      case measure => simp [intOf]; omega
                    · skip
                      go_wp2_with fail
                      go_roundw
                      case rel => exact ⟨k + 1, F6, s, b0, b1, r0, r1, B0, B1, R0, R1, f0, f1, y0, y1, k0, k1, h0, h1, by omega, by go_num, Lib.hid H6.out.1, Lib.hid H6.out.2.1, Lib.hid ⟨HH.out.1, by have h := HH.out.2; have := HSB.out; exact ⟨by omega, by omega⟩⟩, Lib.hid H6.out.2.2.2.1, Lib.hid H6.out.2.2.2.2⟩
                      case measure => simp [intOf]; omega
                  · skip
                    clear HE
                    subst hn
                    have hE8 : (E == 8) = false := by rcases he with rfl | ⟨rfl, _⟩ <;> rfl
                    have hE16 : (E == 16) = false := by rcases he with rfl | ⟨rfl, _⟩ <;> rfl
                    obtain ⟨t1, t2, t3, t4, _⟩ := HH.out.1.tail1
                    have hy' := hy
                    subst hy'
                    have hlB := HH.out.2
                    have hb3 : (B1.length : Int) ≤ 3000 := by have := H3000.out; have := HTK.out; have := HSB.out; omega
                    obtain ⟨ba, bc, rfl, hbc, _, _, _⟩ := H6.out.1.p1.sl
                    obtain ⟨cA, cB, cC, cD, cE, cF, cG, cH, _, _, _, _⟩ := H6.out.2.1.cells
                    have hwr : IntKind.i64.wrap (f1 + s.m1.acc) = f1 + s.m1.acc := IntWalk.i64_in _ (by omega)
                    have hx1 : ¬ (s.m1.acc < 0) := by omega
                    have hx2 : ¬ ((B1.length : Int) < f1 + s.m1.acc) := by omega
                    go_wp2_with fail
                    go_quiet (fail)
                    obtain ⟨wx, hx, fx⟩ : ∃ wx, w6.drewN nq = wx ∧ Fr [] w6 wx := ⟨_, rfl, (Fr.refl _ _).drewN _⟩
                    rw [hx]
                    clear hx cA cB cC cD cE cF cG cH
                    have hbx := H6.out.2.1.keep0 fx
                    have hmx := H6.out.1.keep0 fx
                    obtain ⟨_, _, _, _, c20, c21, c30, c31, _, _, _, _⟩ := hbx.cells
                    obtain ⟨_, _, k2, k3, _, _⟩ := hbx.free 1
                    have hb7 := hbx.set21 (f1 + s.m1.acc)
                    obtain ⟨_, _, _, _, _, _, d30, d31, _, _, _, _⟩ := hb7.cells
                    obtain ⟨_, _, _, l3, _, _⟩ := hb7.free 1
                    have hb8 := Lib.hid (hb7.set31 false)
                    have hm8 := Lib.hid ((hmx.box (k := 2) (i := 1) (by omega) (.int .i64 (f1 + s.m1.acc))).box (k := 3) (i := 1) (by omega) (.bool false))
                    have f8 := (fx.trans ((Fr.refl _ _).setCell (.inl (by simp)) _ : Fr [Q + 2, Q + 3] wx (wx.setCell ⟨Q + 2, 1, none⟩ (.int .i64 (f1 + s.m1.acc)))) (by simp) (fun x hx => .inl hx)).trans ((Fr.refl _ _).setCell (.inl (by simp)) _ : Fr [Q + 2, Q + 3] _ ((wx.setCell ⟨Q + 2, 1, none⟩ (.int .i64 (f1 + s.m1.acc))).setCell ⟨Q + 3, 1, none⟩ (.bool false))) (fun x hx => .inl hx) (fun x hx => .inl hx)
                    have hbl : ∀ x ∈ [Q + 2, Q + 3], w.heap.size ≤ x ∧ x < X := by intro x hx; simp at hx; omega
                    have g8 := Lib.hid (H6.out.2.2.2.1.trans f8 (U := []) (by simp) (fun x hx => .inr (hbl x hx).1))
                    have a8 := Lib.hid (H6.out.2.2.2.2.keep f8 H6.out.2.2.2.1.size (fun x hx => (hbl x hx).1))
                    have q8 := Lib.hid (f8.keep H6.out.2.2.1 (fun hm => by have := (hbl _ hm).2; omega))
                    clear hbx hmx hb7 f8 fx
                    have HNE := Lib.hid (And.intro hN he)
                    clear hN he
                    go_wp2_with fail
                    go_meet
                    exact ⟨E, F6, { s with m1 := (endM s.m1).m }, b0, (.slice ba B1.length bc), r0, r1, B0, B1, R0, R1, f0, (f1 + s.m1.acc), y0, (false), k0, k1, h0, h1, rfl, Lib.hid hm8.out, Lib.hid hb8.out, Lib.hid ⟨HNE.out.1, by have h := HH.out.2; have := HSB.out; exact ⟨by omega, by omega⟩⟩, Lib.hid g8.out, Lib.hid a8.out, Lib.hid q8.out, Lib.hid ⟨fun h => by rcases HNE.out.2 with h0 | h0; exact absurd (h0.symm.trans h) (by decide); exact h0.2, fun h => absurd h (by decide)⟩⟩
              · skip
                rcases Bool.eq_false_or_eq_true (what == 2) with q2 | q2
                · obtain rfl : what = 2 := by simpa using q2
                  as_aux_lemma =>
                    have HE := Lib.hid HH.out.1.cancel1
                    have HC := Lib.hid (dx_cancel1 hR)
                    clear hR
                    obtain ⟨E, hE⟩ : ∃ E, (cancelM s.m1).err = E := ⟨_, rfl⟩
                    obtain ⟨N, hN0⟩ : ∃ N, (cancelM s.m1).n = N := ⟨_, rfl⟩
                    rw [hE, hN0] at HC
                    rw [hE, hN0] at HE
                    go_wp2_with fail
                    refine HC.out.mono ?_
                    rintro e w6 ⟨rfl, hp⟩
                    obtain ⟨S6, F6, f6, hS6, hm6⟩ := HM5.out.call (G := NoG) (fun x hx => hx.elim) hp
                    have hfx := HM5.out.fx
                    have hq5 := HM5.out.hq
                    have hb6 := HB5.out.keep f6 (fun x hx => by rcases hS6 x hx with h | h; exact (hfx x h).2; exact .inr (by omega))
                    have q6 := f6.keep HQ5.out (fun hm => by rcases hS6 _ hm with h | h; exact Nat.lt_irrefl _ (hFl _ h); omega)
                    have hM6 : ∀ x ∈ S6, w.heap.size ≤ x := fun x hx => by rcases hS6 x hx with h | h; exact (hfx x h).1; omega
                    have g6 := HG5.out.trans f6 (U := []) (by simp) (fun x hx => .inr (hM6 x hx))
                    have a6 := HA5.out.keep f6 HG5.out.size hM6
                    have H6 := Lib.hid (And.intro hm6 (And.intro hb6 (And.intro q6 (And.intro g6 a6))))
                    clear hm6 hb6 q6 g6 a6 hfx hq5 hS6 hM6
                    clear HC f6 hE hN0
                    go_upto_region 32 with fail
                    rcases HE.out with ⟨hs2, he⟩ | ⟨hy, hn, he, hN⟩
                    · skip
                      clear HE
                      rw [hs2] at H6
                      rcases he with rfl | rfl
                      · skip
                        go_wp2_with fail
                        go_roundw
                        case rel => exact ⟨k + 1, F6, s, b0, b1, r0, r1, B0, B1, R0, R1, f0, f1, y0, y1, k0, k1, h0, h1, by omega, by go_num, Lib.hid H6.out.1, Lib.hid H6.out.2.1, Lib.hid ⟨HH.out.1, by have h := HH.out.2; have := HSB.out; exact ⟨by omega, by omega⟩⟩, Lib.hid H6.out.2.2.2.1, Lib.hid H6.out.2.2.2.2⟩
                        case measure => simp [intOf]; omega
                      · skip
                        go_wp2_with fail
                        go_roundw
                        case rel => exact ⟨k + 1, F6, s, b0, b1, r0, r1, B0, B1, R0, R1, f0, f1, y0, y1, k0, k1, h0, h1, by omega, by go_num, Lib.hid H6.out.1, Lib.hid H6.out.2.1, Lib.hid ⟨HH.out.1, by have h := HH.out.2; have := HSB.out; exact ⟨by omega, by omega⟩⟩, Lib.hid H6.out.2.2.2.1, Lib.hid H6.out.2.2.2.2⟩
                        case measure => simp [intOf]; omega
                    · skip
                      clear HE
                      subst hn
                      have hE8 : (E == 8) = false := by rcases he with rfl | ⟨rfl, _⟩ <;> rfl
                      have hE16 : (E == 16) = false := by rcases he with rfl | ⟨rfl, _⟩ <;> rfl
                      obtain ⟨t1, t2, t3, t4, _⟩ := HH.out.1.tail1
                      have hy' := hy
                      subst hy'
                      have hlB := HH.out.2
                      have hb3 : (B1.length : Int) ≤ 3000 := by have := H3000.out; have := HTK.out; have := HSB.out; omega
                      obtain ⟨ba, bc, rfl, hbc, _, _, _⟩ := H6.out.1.p1.sl
                      obtain ⟨cA, cB, cC, cD, cE, cF, cG, cH, _, _, _, _⟩ := H6.out.2.1.cells
                      have hwr : IntKind.i64.wrap (f1 + s.m1.acc) = f1 + s.m1.acc := IntWalk.i64_in _ (by omega)
                      have hx1 : ¬ (s.m1.acc < 0) := by omega
                      have hx2 : ¬ ((B1.length : Int) < f1 + s.m1.acc) := by omega
                      go_wp2_with fail
                      go_quiet (fail)
                      obtain ⟨wx, hx, fx⟩ : ∃ wx, w6.drewN nq = wx ∧ Fr [] w6 wx := ⟨_, rfl, (Fr.refl _ _).drewN _⟩
                      rw [hx]
                      clear hx cA cB cC cD cE cF cG cH
                      have hbx := H6.out.2.1.keep0 fx
                      have hmx := H6.out.1.keep0 fx
                      obtain ⟨_, _, _, _, c20, c21, c30, c31, _, _, _, _⟩ := hbx.cells
                      obtain ⟨_, _, k2, k3, _, _⟩ := hbx.free 1
                      have hb7 := hbx.set21 (f1 + s.m1.acc)
                      obtain ⟨_, _, _, _, _, _, d30, d31, _, _, _, _⟩ := hb7.cells
                      obtain ⟨_, _, _, l3, _, _⟩ := hb7.free 1
                      have hb8 := Lib.hid (hb7.set31 false)
                      have hm8 := Lib.hid ((hmx.box (k := 2) (i := 1) (by omega) (.int .i64 (f1 + s.m1.acc))).box (k := 3) (i := 1) (by omega) (.bool false))
                      have f8 := (fx.trans ((Fr.refl _ _).setCell (.inl (by simp)) _ : Fr [Q + 2, Q + 3] wx (wx.setCell ⟨Q + 2, 1, none⟩ (.int .i64 (f1 + s.m1.acc)))) (by simp) (fun x hx => .inl hx)).trans ((Fr.refl _ _).setCell (.inl (by simp)) _ : Fr [Q + 2, Q + 3] _ ((wx.setCell ⟨Q + 2, 1, none⟩ (.int .i64 (f1 + s.m1.acc))).setCell ⟨Q + 3, 1, none⟩ (.bool false))) (fun x hx => .inl hx) (fun x hx => .inl hx)
                      have hbl : ∀ x ∈ [Q + 2, Q + 3], w.heap.size ≤ x ∧ x < X := by intro x hx; simp at hx; omega
                      have g8 := Lib.hid (H6.out.2.2.2.1.trans f8 (U := []) (by simp) (fun x hx => .inr (hbl x hx).1))
                      have a8 := Lib.hid (H6.out.2.2.2.2.keep f8 H6.out.2.2.2.1.size (fun x hx => (hbl x hx).1))
                      have q8 := Lib.hid (f8.keep H6.out.2.2.1 (fun hm => by have := (hbl _ hm).2; omega))
                      clear hbx hmx hb7 f8 fx
                      have HNE := Lib.hid (And.intro hN he)
                      clear hN he
                      go_wp2_with fail
                      go_meet
                      exact ⟨E, F6, { s with m1 := (cancelM s.m1).m }, b0, (.slice ba B1.length bc), r0, r1, B0, B1, R0, R1, f0, (f1 + s.m1.acc), y0, (false), k0, k1, h0, h1, rfl, Lib.hid hm8.out, Lib.hid hb8.out, Lib.hid ⟨HNE.out.1, by have h := HH.out.2; have := HSB.out; exact ⟨by omega, by omega⟩⟩, Lib.hid g8.out, Lib.hid a8.out, Lib.hid q8.out, Lib.hid ⟨fun h => by rcases HNE.out.2 with h0 | h0; exact absurd (h0.symm.trans h) (by decide); exact h0.2, fun h => absurd h (by decide)⟩⟩
                · skip
                  rcases Bool.eq_false_or_eq_true (what == 3) with q3 | q3
                  · obtain rfl : what = 3 := by simpa using q3
                    as_aux_lemma =>
                      obtain ⟨hN, he13, he14⟩ := HH.out.1.read0 n
                      have hlN := hN.tail0
                      have HC := Lib.hid (dx_read1 hR n)
                      clear hR
                      obtain ⟨E, hE⟩ : ∃ E, (readM s.m0 n).err = E := ⟨_, rfl⟩
                      obtain ⟨O, hO⟩ : ∃ O, (readM s.m0 n).out = O := ⟨_, rfl⟩
                      rw [hE, hO] at HC
                      rw [hO] at hN hlN
                      rw [hE, hO] at he13
                      rw [hE] at he14
                      clear hE hO
                      go_wp2_with fail
                      refine HC.out.mono ?_
                      rintro e w6 ⟨uu, rfl, ou, hp⟩
                      dsimp only
                      go_upto_region 39 with fail
                      obtain ⟨S6, F6, f6, hS6, hm6⟩ := HM5.out.call (G := NoG) (fun x hx => hx.elim) hp
                      have hfx := HM5.out.fx
                      have hq5 := HM5.out.hq
                      have hb6 := HB5.out.keep f6 (fun x hx => by rcases hS6 x hx with h | h; exact (hfx x h).2; exact .inr (by omega))
                      have q6 := f6.keep HQ5.out (fun hm => by rcases hS6 _ hm with h | h; exact Nat.lt_irrefl _ (hFl _ h); omega)
                      have hM6 : ∀ x ∈ S6, w.heap.size ≤ x := fun x hx => by rcases hS6 x hx with h | h; exact (hfx x h).1; omega
                      have g6 := HG5.out.trans f6 (U := []) (by simp) (fun x hx => .inr (hM6 x hx))
                      have a6 := HA5.out.keep f6 HG5.out.size hM6
                      have H6 := Lib.hid (And.intro hm6 (And.intro hb6 (And.intro q6 (And.intro g6 a6))))
                      clear hm6 hb6 q6 g6 a6 hfx hq5 hS6 hM6
                      clear HC f6
                      obtain ⟨ua, uc, rfl, _, _, us, _⟩ := ou.formB
                      have HSV := Lib.hid us.toV
                      have HOW := Lib.hid H6.out.1.o0
                      obtain ⟨ra, rc, rfl, _⟩ := HOW.out.formB
                      obtain ⟨_, _, c10, c11, _, _, _, _, c40, c41, _, _⟩ := H6.out.2.1.cells
                      have hz6 := H6.out.1.hq
                      have hrl : R0.length + O.length ≤ 3000 := by have h := hlN.2.2.2.1; have h2 := hlN.2.2.1; rw [List.length_append] at h; have := HH.out.2; have := H3000.out; have := HTK.out; have := HSB.out; omega
                      have H3 : Hid (((bi R0).map (Value.int .u8)).length + O.length ≤ maxLen) := Lib.hid (by rw [List.length_map, bi_length]; unfold maxLen; omega)
                      have H4 : Hid ((((bi R0).map (Value.int .u8)).length + O.length) * 1 ≤ 140737488355328) := Lib.hid (by rw [List.length_map, bi_length]; omega)
                      have H5 : Hid (((bi O).map (Value.int .u8)).length = O.length) := Lib.hid (by simp [bi_length])
                      have HO := Lib.hid (bytes_one (bi O))
                      have HUU : Hid (Try.prog.underlying 29 = some (.slice 5)) := Lib.hid Try.underlying29
                      have HIN : Hid ((Try.prog.info? 5).map (fun i => (i.zero, i.size, i.bytes)) = some (some (.int .u8 0), 1, 1)) := Lib.hid (by kernel_rfl)
                      have HX := Lib.hid (And.intro hN (And.intro he13 he14))
                      clear hN he13 he14 hlN us ou
                      go_wp2_with (refine wpList_append_fr _ rfl (.tmp 178) (.tmp 179) 29 rfl 5 (.int .u8 0) 1 HUU.out HIN.out rfl (Q + 6) _ _ (by exact rfl) HOW.out ua O.length uc _ (by exact rfl) H5.out HSV.out HO.out H3.out H4.out hz6 ?_)
                      intro v7 w7 o7 f7 hb7
                      obtain ⟨va, vc, rfl, _⟩ := o7.out.form
                      obtain ⟨vn, hvn⟩ : ∃ n, (List.map (Value.int .u8) (bi R0) ++ List.map (Value.int .u8) (bi O)).length = n := ⟨_, rfl⟩
                      rw [hvn] at o7 hb7 ⊢
                      have hm7 := H6.out.1.app0 o7.out f7 hb7
                      have hrb : ∀ x ∈ (Value.slice ra R0.length rc).ownBlock.toList, Q + 6 ≤ x ∧ F6 x = F6 x := fun x hx => ⟨(HOW.out.lt x (by simpa using hx)).1, rfl⟩
                      have hb7' := H6.out.2.1.keep f7 (fun x hx => .inr (hrb x hx).1)
                      have hrX : X ∉ (Value.slice ra R0.length rc).ownBlock.toList := fun hm => by have h := HROW.out.1 X (by simpa using hm); omega
                      have q7 := f7.keep H6.out.2.2.1 hrX
                      have g7 := H6.out.2.2.2.1.trans f7 (U := []) (by simp) (fun x hx => .inr (by have := (hrb x hx).1; omega))
                      have a7 := H6.out.2.2.2.2.keep f7 H6.out.2.2.2.1.size (fun x hx => by have := (hrb x hx).1; omega)
                      clear o7 hb7 HOW HSV c10 c11 c40 c41
                      obtain ⟨_, _, c10, c11, _, _, _, _, c40, c41, _, _⟩ := hb7'.cells
                      obtain ⟨_, fz1, _, _, _, _⟩ := hb7'.free 0
                      have hb8 := hb7'.set10 (.slice va vn vc)
                      obtain ⟨_, _, _, _, _, _, _, _, e40, e41, _, _⟩ := hb8.cells
                      have f8 := ((Fr.refl _ _).setCell (.inl (by simp)) _ : Fr [Q + 1] w7 (w7.setCell ⟨Q + 1, 0, none⟩ (.slice va vn vc)))
                      have H8 := Lib.hid (And.intro (hm7.box (k := 1) (i := 0) (by omega) (.slice va vn vc)) (And.intro hb8 (And.intro (f8.keep q7 (by simp; omega)) (And.intro (g7.trans f8 (U := []) (by simp) (fun x hx => .inr (by simp at hx; omega))) (a7.keep f8 g7.size (by simp; omega))))))
                      clear hm7 hb8 q7 g7 a7 f8 f7 hb7'
                      by_cases hE13 : E = 13
                      · subst hE13
                        have hk := (HX.out.2.1 rfl).1
                        subst hk
                        go_wp2_with fail
                        go_meet
                        exact ⟨13, F6, { s with m0 := (readM s.m0 n).m }, b0, b1, (.slice va vn vc), r1, B0, B1, (R0 ++ O), R1, f0, f1, y0, y1, (true), k1, h0, h1, rfl, Lib.hid H8.out.1, Lib.hid H8.out.2.1, Lib.hid ⟨HX.out.1, by have h := HH.out.2; have := HSB.out; exact ⟨by omega, by omega⟩⟩, Lib.hid H8.out.2.2.2.1, Lib.hid H8.out.2.2.2.2, Lib.hid H8.out.2.2.1, Lib.hid ⟨fun h => absurd h (by decide), fun _ _ => ⟨fun h => absurd h (by decide), fun _ => (HX.out.2.1 rfl).2⟩⟩⟩
                      · have hE13b : (E == 13) = false := by simpa using hE13
                        go_wp2_with fail
                        go_meet
                        exact ⟨E, F6, { s with m0 := (readM s.m0 n).m }, b0, b1, (.slice va vn vc), r1, B0, B1, (R0 ++ O), R1, f0, f1, y0, y1, k0, k1, h0, h1, rfl, Lib.hid H8.out.1, Lib.hid H8.out.2.1, Lib.hid ⟨HX.out.1, by have h := HH.out.2; have := HSB.out; exact ⟨by omega, by omega⟩⟩, Lib.hid H8.out.2.2.2.1, Lib.hid H8.out.2.2.2.2, Lib.hid H8.out.2.2.1, Lib.hid ⟨fun h => HX.out.2.2 h, fun _ h => absurd h hE13⟩⟩
                  · skip
                    rcases Bool.eq_false_or_eq_true (what == 4) with q4 | q4
                    · obtain rfl : what = 4 := by simpa using q4
                      as_aux_lemma =>
                        obtain ⟨hE, hN, h14⟩ := HH.out.1.closew1
                        have HC := Lib.hid (dx_closewrite1 hR)
                        clear hR
                        obtain ⟨E, hE0⟩ : ∃ E, (closewM s.m1 13).err = E := ⟨_, rfl⟩
                        rw [hE0] at HC
                        rw [hE0] at hE hN h14
                        have hbe : (decide (E = 0)) = (E == 0) := by by_cases h : E = 0 <;> simp [h]
                        rw [hbe] at hN h14
                        have HNE := Lib.hid (And.intro hN (And.intro h14 hE))
                        clear hN h14 hE hbe hE0
                        go_wp2_with fail
                        refine HC.out.mono ?_
                        rintro e w6 ⟨rfl, hp⟩
                        obtain ⟨S6, F6, f6, hS6, hm6⟩ := HM5.out.call (G := NoG) (fun x hx => hx.elim) hp
                        have hfx := HM5.out.fx
                        have hq5 := HM5.out.hq
                        have hb6 := HB5.out.keep f6 (fun x hx => by rcases hS6 x hx with h | h; exact (hfx x h).2; exact .inr (by omega))
                        have q6 := f6.keep HQ5.out (fun hm => by rcases hS6 _ hm with h | h; exact Nat.lt_irrefl _ (hFl _ h); omega)
                        have hM6 : ∀ x ∈ S6, w.heap.size ≤ x := fun x hx => by rcases hS6 x hx with h | h; exact (hfx x h).1; omega
                        have g6 := HG5.out.trans f6 (U := []) (by simp) (fun x hx => .inr (hM6 x hx))
                        have a6 := HA5.out.keep f6 HG5.out.size hM6
                        have H6 := Lib.hid (And.intro hm6 (And.intro hb6 (And.intro q6 (And.intro g6 a6))))
                        clear hm6 hb6 q6 g6 a6 hfx hq5 hS6 hM6
                        clear HC f6
                        obtain ⟨_, _, _, _, _, _, _, _, c40, c41, c50, c51⟩ := H6.out.2.1.cells
                        obtain ⟨_, _, _, _, k4, k5⟩ := H6.out.2.1.free 1
                        have hz6 := H6.out.1.hq
                        obtain ⟨bE, hbE⟩ : ∃ bE, (E == 0) = bE := ⟨_, rfl⟩
                        rw [hbE] at HNE
                        cases k1 with
                        | true =>
                          have hb8 := H6.out.2.1.set41 true
                          have f8 := ((Fr.refl _ _).setCell (.inl (by simp)) _ : Fr [Q + 4] w6 (w6.setCell ⟨Q + 4, 1, none⟩ (.bool true)))
                          have H8 := Lib.hid (And.intro (H6.out.1.box (k := 4) (i := 1) (by omega) (.bool true)) (And.intro hb8 (And.intro (f8.keep H6.out.2.2.1 (by simp; omega)) (And.intro (H6.out.2.2.2.1.trans f8 (U := []) (by simp) (fun x hx => .inr (by simp at hx; omega))) (H6.out.2.2.2.2.keep f8 H6.out.2.2.2.1.size (by simp; omega))))))
                          clear hb8 f8
                          go_wp2_with fail
                          go_meet
                          exact ⟨E, F6, { s with m1 := (closewM s.m1 13).m }, b0, b1, r0, r1, B0, B1, R0, R1, f0, f1, y0, y1, k0, (true), h0, h1, rfl, Lib.hid H8.out.1, Lib.hid H8.out.2.1, Lib.hid ⟨(by have h := HNE.out.1; rw [Bool.true_or] at h; exact h), by have h := HH.out.2; have := HSB.out; exact ⟨by omega, by omega⟩⟩, Lib.hid H8.out.2.2.2.1, Lib.hid H8.out.2.2.2.2, Lib.hid H8.out.2.2.1, Lib.hid ⟨fun hq => by have h := HNE.out.2.1 hq; rw [Bool.true_or] at h; exact h, fun h => absurd h (by decide)⟩⟩
                        | false =>
                          have hb8 := H6.out.2.1.set41 bE
                          have f8 := ((Fr.refl _ _).setCell (.inl (by simp)) _ : Fr [Q + 4] w6 (w6.setCell ⟨Q + 4, 1, none⟩ (.bool bE)))
                          have H8 := Lib.hid (And.intro (H6.out.1.box (k := 4) (i := 1) (by omega) (.bool bE)) (And.intro hb8 (And.intro (f8.keep H6.out.2.2.1 (by simp; omega)) (And.intro (H6.out.2.2.2.1.trans f8 (U := []) (by simp) (fun x hx => .inr (by simp at hx; omega))) (H6.out.2.2.2.2.keep f8 H6.out.2.2.2.1.size (by simp; omega))))))
                          clear hb8 f8
                          go_wp2_with fail
                          go_meet
                          exact ⟨E, F6, { s with m1 := (closewM s.m1 13).m }, b0, b1, r0, r1, B0, B1, R0, R1, f0, f1, y0, y1, k0, (bE), h0, h1, rfl, Lib.hid H8.out.1, Lib.hid H8.out.2.1, Lib.hid ⟨(by have h := HNE.out.1; rw [Bool.false_or] at h; exact h), by have h := HH.out.2; have := HSB.out; exact ⟨by omega, by omega⟩⟩, Lib.hid H8.out.2.2.2.1, Lib.hid H8.out.2.2.2.2, Lib.hid H8.out.2.2.1, Lib.hid ⟨fun hq => by have h := HNE.out.2.1 hq; rw [Bool.false_or] at h; exact h, fun h => absurd h (by decide)⟩⟩
                    · skip
                      rcases Bool.eq_false_or_eq_true (what == 5) with q5 | q5
                      · obtain rfl : what = 5 := by simpa using q5
                        as_aux_lemma =>
                          obtain ⟨hE, hN, h14⟩ := HH.out.1.closer0
                          have HC := Lib.hid (dx_closeread1 hR)
                          clear hR
                          obtain ⟨E, hE0⟩ : ∃ E, (closerM s.m0 14).err = E := ⟨_, rfl⟩
                          rw [hE0] at HC
                          rw [hE0] at hE hN h14
                          have hbe : (decide (E = 0)) = (E == 0) := by by_cases h : E = 0 <;> simp [h]
                          rw [hbe] at hN h14
                          have HNE := Lib.hid (And.intro hN (And.intro h14 hE))
                          clear hN h14 hE hbe hE0
                          go_wp2_with fail
                          refine HC.out.mono ?_
                          rintro e w6 ⟨rfl, hp⟩
                          obtain ⟨S6, F6, f6, hS6, hm6⟩ := HM5.out.call (G := NoG) (fun x hx => hx.elim) hp
                          have hfx := HM5.out.fx
                          have hq5 := HM5.out.hq
                          have hb6 := HB5.out.keep f6 (fun x hx => by rcases hS6 x hx with h | h; exact (hfx x h).2; exact .inr (by omega))
                          have q6 := f6.keep HQ5.out (fun hm => by rcases hS6 _ hm with h | h; exact Nat.lt_irrefl _ (hFl _ h); omega)
                          have hM6 : ∀ x ∈ S6, w.heap.size ≤ x := fun x hx => by rcases hS6 x hx with h | h; exact (hfx x h).1; omega
                          have g6 := HG5.out.trans f6 (U := []) (by simp) (fun x hx => .inr (hM6 x hx))
                          have a6 := HA5.out.keep f6 HG5.out.size hM6
                          have H6 := Lib.hid (And.intro hm6 (And.intro hb6 (And.intro q6 (And.intro g6 a6))))
                          clear hm6 hb6 q6 g6 a6 hfx hq5 hS6 hM6
                          clear HC f6
                          obtain ⟨_, _, _, _, _, _, _, _, c40, c41, c50, c51⟩ := H6.out.2.1.cells
                          obtain ⟨_, _, _, _, k4, k5⟩ := H6.out.2.1.free 1
                          have hz6 := H6.out.1.hq
                          obtain ⟨bE, hbE⟩ : ∃ bE, (E == 0) = bE := ⟨_, rfl⟩
                          rw [hbE] at HNE
                          cases h1 with
                          | true =>
                            have hb8 := H6.out.2.1.set51 true
                            have f8 := ((Fr.refl _ _).setCell (.inl (by simp)) _ : Fr [Q + 5] w6 (w6.setCell ⟨Q + 5, 1, none⟩ (.bool true)))
                            have H8 := Lib.hid (And.intro (H6.out.1.box (k := 5) (i := 1) (by omega) (.bool true)) (And.intro hb8 (And.intro (f8.keep H6.out.2.2.1 (by simp; omega)) (And.intro (H6.out.2.2.2.1.trans f8 (U := []) (by simp) (fun x hx => .inr (by simp at hx; omega))) (H6.out.2.2.2.2.keep f8 H6.out.2.2.2.1.size (by simp; omega))))))
                            clear hb8 f8
                            go_wp2_with fail
                            go_meet
                            exact ⟨E, F6, { s with m0 := (closerM s.m0 14).m }, b0, b1, r0, r1, B0, B1, R0, R1, f0, f1, y0, y1, k0, k1, h0, (true), rfl, Lib.hid H8.out.1, Lib.hid H8.out.2.1, Lib.hid ⟨(by have h := HNE.out.1; rw [Bool.true_or] at h; exact h), by have h := HH.out.2; have := HSB.out; exact ⟨by omega, by omega⟩⟩, Lib.hid H8.out.2.2.2.1, Lib.hid H8.out.2.2.2.2, Lib.hid H8.out.2.2.1, Lib.hid ⟨fun hq => by have h := HNE.out.2.1 hq; rw [Bool.true_or] at h; exact h, fun h => absurd h (by decide)⟩⟩
                          | false =>
                            have hb8 := H6.out.2.1.set51 bE
                            have f8 := ((Fr.refl _ _).setCell (.inl (by simp)) _ : Fr [Q + 5] w6 (w6.setCell ⟨Q + 5, 1, none⟩ (.bool bE)))
                            have H8 := Lib.hid (And.intro (H6.out.1.box (k := 5) (i := 1) (by omega) (.bool bE)) (And.intro hb8 (And.intro (f8.keep H6.out.2.2.1 (by simp; omega)) (And.intro (H6.out.2.2.2.1.trans f8 (U := []) (by simp) (fun x hx => .inr (by simp at hx; omega))) (H6.out.2.2.2.2.keep f8 H6.out.2.2.2.1.size (by simp; omega))))))
                            clear hb8 f8
                            go_wp2_with fail
                            go_meet
                            exact ⟨E, F6, { s with m0 := (closerM s.m0 14).m }, b0, b1, r0, r1, B0, B1, R0, R1, f0, f1, y0, y1, k0, k1, h0, (bE), rfl, Lib.hid H8.out.1, Lib.hid H8.out.2.1, Lib.hid ⟨(by have h := HNE.out.1; rw [Bool.false_or] at h; exact h), by have h := HH.out.2; have := HSB.out; exact ⟨by omega, by omega⟩⟩, Lib.hid H8.out.2.2.2.1, Lib.hid H8.out.2.2.2.2, Lib.hid H8.out.2.2.1, Lib.hid ⟨fun hq => by have h := HNE.out.2.1 hq; rw [Bool.false_or] at h; exact h, fun h => absurd h (by decide)⟩⟩
                      · skip
                        have hw3 : what ≠ 3 := by simpa using q3
                        as_aux_lemma =>
                          cases hx : s.x1 with
                          | true =>
                            have HC := Lib.hid (dx_close1_yes hR hx)
                            have hk := HH.out.1.x1 hx
                            clear hR
                            go_wp2_with fail
                            refine HC.out.mono ?_
                            rintro e w6 ⟨rfl, rfl⟩
                            clear HC
                            go_wp2_with fail
                            go_meet
                            exact ⟨14, F, s, b0, b1, r0, r1, B0, B1, R0, R1, f0, f1, y0, y1, k0, k1, h0, h1, rfl, Lib.hid HM5.out, Lib.hid HB5.out, Lib.hid ⟨HH.out.1, by have h := HH.out.2; have := HSB.out; exact ⟨by omega, by omega⟩⟩, Lib.hid HG5.out, Lib.hid HA5.out, Lib.hid HQ5.out, Lib.hid ⟨fun _ => (.inr (.inl hk)), fun h => absurd h hw3⟩⟩
                          | false =>
                            have HC := Lib.hid (dx_close1 hR hx)
                            have HN := Lib.hid HH.out.1.close1
                            clear hR
                            go_wp2_with fail
                            refine HC.out.mono ?_
                            rintro e w6 ⟨rfl, hp⟩
                            obtain ⟨S6, F6, f6, hS6, hm6⟩ := HM5.out.call (G := NoG) (fun x hx => hx.elim) hp
                            have hfx := HM5.out.fx
                            have hq5 := HM5.out.hq
                            have hb6 := HB5.out.keep f6 (fun x hx => by rcases hS6 x hx with h | h; exact (hfx x h).2; exact .inr (by omega))
                            have q6 := f6.keep HQ5.out (fun hm => by rcases hS6 _ hm with h | h; exact Nat.lt_irrefl _ (hFl _ h); omega)
                            have hM6 : ∀ x ∈ S6, w.heap.size ≤ x := fun x hx => by rcases hS6 x hx with h | h; exact (hfx x h).1; omega
                            have g6 := HG5.out.trans f6 (U := []) (by simp) (fun x hx => .inr (hM6 x hx))
                            have a6 := HA5.out.keep f6 HG5.out.size hM6
                            have H6 := Lib.hid (And.intro hm6 (And.intro hb6 (And.intro q6 (And.intro g6 a6))))
                            clear hm6 hb6 q6 g6 a6 hfx hq5 hS6 hM6
                            clear HC f6
                            obtain ⟨_, _, _, _, _, _, _, _, c40, c41, c50, c51⟩ := H6.out.2.1.cells
                            obtain ⟨_, _, _, _, k4, k5⟩ := H6.out.2.1.free 1
                            have hz6 := H6.out.1.hq
                            have hb7 := H6.out.2.1.set41 true
                            obtain ⟨_, _, _, _, _, _, _, _, _, _, d50, d51⟩ := hb7.cells
                            obtain ⟨_, _, _, _, _, l5⟩ := hb7.free 1
                            have hb8 := hb7.set51 true
                            have f8 := ((Fr.refl _ _).setCell (.inl (by simp)) _ : Fr [Q + 4, Q + 5] w6 (w6.setCell ⟨Q + 4, 1, none⟩ (.bool true))).trans ((Fr.refl _ _).setCell (.inl (by simp)) _ : Fr [Q + 4, Q + 5] _ ((w6.setCell ⟨Q + 4, 1, none⟩ (.bool true)).setCell ⟨Q + 5, 1, none⟩ (.bool true))) (fun x hx => .inl hx) (fun x hx => .inl hx)
                            have hbl : ∀ x ∈ [Q + 4, Q + 5], w.heap.size ≤ x ∧ x < X := by intro x hx; simp at hx; omega
                            have H8 := Lib.hid (And.intro ((H6.out.1.box (k := 4) (i := 1) (by omega) (.bool true)).box (k := 5) (i := 1) (by omega) (.bool true)) (And.intro hb8 (And.intro (f8.keep H6.out.2.2.1 (fun hm => by have := (hbl _ hm).2; omega)) (And.intro (H6.out.2.2.2.1.trans f8 (U := []) (by simp) (fun x hx => .inr (hbl x hx).1)) (H6.out.2.2.2.2.keep f8 H6.out.2.2.2.1.size (fun x hx => (hbl x hx).1))))))
                            clear hb7 hb8 f8 hbl
                            go_wp2_with fail
                            go_meet
                            exact ⟨0, F6, (closeS1 s), b0, b1, r0, r1, B0, B1, R0, R1, f0, f1, y0, y1, k0, (true), h0, (true), rfl, Lib.hid H8.out.1, Lib.hid H8.out.2.1, Lib.hid ⟨HN.out, by have h := HH.out.2; have := HSB.out; exact ⟨by omega, by omega⟩⟩, Lib.hid H8.out.2.2.2.1, Lib.hid H8.out.2.2.2.2, Lib.hid H8.out.2.2.1, Lib.hid ⟨fun h => absurd h (by decide), fun h => absurd h hw3⟩⟩
        case rest =>
          as_aux_lemma =>
            clear e0 e1 e2 e3 HQ5 HB5 HM5 HG5 HA5 HPP HOK HH hFl hR HROW he
            rename World => w6
            obtain ⟨fe, F, s, b0, b1, r0, r1, B0, B1, R0, R1, f0, f1, y0, y1, k0, k1, h0, h1, rfl, HM, HB, HH, HG, HA, HQ, HC⟩ := hcut
            have hcl := HB.out.cells
            obtain ⟨_, _, _, _, _, _, _, _, c40, c41, c50, c51⟩ := hcl
            go_upto_region 48 with fail
            go_cut [240] (fun v wx => v = .bool false ∧ wx = w6)
            case first =>
              as_aux_lemma =>
                by_cases h14 : fe = 14
                · subst h14
                  have h4 := HC.out.1 rfl
                  clear HC HH HM HB HG HA HQ
                  cases k0 with
                  | true =>
                    go_wp2_with fail
                    go_meet
                    exact ⟨rfl, rfl⟩
                  | false =>
                    cases k1 with
                    | true =>
                      go_wp2_with fail
                      go_meet
                      exact ⟨rfl, rfl⟩
                    | false =>
                      cases h0 with
                      | true =>
                        go_wp2_with fail
                        go_meet
                        exact ⟨rfl, rfl⟩
                      | false =>
                        cases h1 with
                        | true =>
                          go_wp2_with fail
                          go_meet
                          exact ⟨rfl, rfl⟩
                        | false => exact absurd h4 (by simp [Some4])
                · have h14b : (fe == 14) = false := by simpa using h14
                  clear HC HH HM HB HG HA HQ
                  go_wp2_with fail
                  go_meet
                  exact ⟨rfl, rfl⟩
            case rest =>
              obtain ⟨rfl, hw6⟩ := hcut
              subst hw6
              rename World => w6
              clear c40 c41 c50 c51
              obtain ⟨bb0, bb1, F0, F1, hR⟩ := HM.out.x
              have HP0 := Lib.hid fun w1 (f : Fr [] w6 w1) => dx_progress0 (hR.keep f (by simp))
              have HP1 := Lib.hid fun w1 (f : Fr [] w6 w1) => dx_progress1 (hR.keep f (by simp))
              clear hR
              obtain ⟨a0, a1, rfl, hbc0, bs0, _, _⟩ := HM.out.p0.sl
              obtain ⟨a2, a3, rfl, hbc1, bs1, _, _⟩ := HM.out.p1.sl
              obtain ⟨a4, a5, rfl, _, _, rs0, _⟩ := HM.out.o0.formB
              obtain ⟨a6, a7, rfl, _, _, rs1, _⟩ := HM.out.o1.formB
              have hT0 := HH.out.1.tail0
              have hT1 := HH.out.1.tail1
              have hlB := HH.out.2
              have hb3 := H3000.out
              have htk := HTK.out
              have HK := Lib.hid fun w' (f : Fr [] w6 w') => (show _ ∧ w'.cell? ⟨X, 0, none⟩ = some (.int .i64 what) from ⟨(HB.out.keep0 f).cells, cell_of (f.keep HQ.out (by simp))⟩)
              have HKV := Lib.hid fun w' (f : Fr [] w6 w') => (show (∀ n cp, (convert 29 9 (.slice a4 R0.length cp)).run Try.prog (w'.drewN n) = .ok (.string (st R0)) (w'.drewN n)) ∧ (∀ n cp, (convert 29 9 (.slice a0 R0.length cp)).run Try.prog (w'.drewN n) = .ok (.string (st R0)) (w'.drewN n)) ∧ (∀ n cp, (convert 29 9 (.slice a6 R1.length cp)).run Try.prog (w'.drewN n) = .ok (.string (st R1)) (w'.drewN n)) ∧ (∀ n cp, (convert 29 9 (.slice a2 R1.length cp)).run Try.prog (w'.drewN n) = .ok (.string (st R1)) (w'.drewN n)) from by
                obtain ⟨_, _, _, _, u0⟩ := hT0
                obtain ⟨_, _, _, _, u1⟩ := hT1
                exact ⟨fun n cp => conv_st (cap := cp) (sl_keep rs0 (f.then0 ((Fr.refl [] _).drewN n)) (by simp)) rfl, fun n cp => by have h := conv_st (a := a0) (l := B0.take R0.length) (len := R0.length) (cap := cp) (w := w'.drewN n) (sl_takeB (sl_keep bs0 (f.then0 ((Fr.refl [] _).drewN n)) (by simp)) R0.length) (by rw [List.length_take]; omega); rw [u0] at h; exact h, fun n cp => conv_st (cap := cp) (sl_keep rs1 (f.then0 ((Fr.refl [] _).drewN n)) (by simp)) rfl, fun n cp => by have h := conv_st (a := a2) (l := B1.take R1.length) (len := R1.length) (cap := cp) (w := w'.drewN n) (sl_takeB (sl_keep bs1 (f.then0 ((Fr.refl [] _).drewN n)) (by simp)) R1.length) (by rw [List.length_take]; omega); rw [u1] at h; exact h⟩)
              have HT0 := Lib.hid hT0
              have HT1 := Lib.hid hT1
              have hup0 : ∀ w', (Instr.slice 29 (.slice a0 B0.length a1) none (some (.int .i64 R0.length)) none).run Try.prog w' = .ok (.slice a0 R0.length a1) w' := fun w' => run_upto (by omega) hbc0 w'
              have hup1 : ∀ w', (Instr.slice 29 (.slice a2 B1.length a3) none (some (.int .i64 R1.length)) none).run Try.prog w' = .ok (.slice a2 R1.length a3) w' := fun w' => run_upto (by omega) hbc1 w'
              clear bs0 bs1 rs0 rs1 hT0 hT1
              have HUP := Lib.hid (And.intro hup0 hup1)
              clear hup0 hup1
              go_wp2_with fail
              try trace_state
              go_loopw [24] (fun j wr' => ∃ q : Nat, q ≤ 2 ∧ j = .int .i64 q ∧ Fr [] w6 wr') (fun j _ => 3 - (intOf j).toNat)
              case atStart => exact ⟨0, by omega, rfl, Fr.refl _ _⟩
              case round =>
                obtain ⟨j, hj, rfl, g⟩ := hrel
                rename World => w7
                rcases (show j = 0 ∨ j = 1 ∨ j = 2 from by omega) with rfl | rfl | rfl
                · as_aux_lemma =>
                    obtain ⟨t1, t2, t3, t4, _⟩ := HT0.out
                    go_wp2_with fail
                    refine (HP0.out _ g).mono ?_
                    rintro e w8 ⟨rfl, f8⟩
                    have g8 := g.then0 f8
                    obtain ⟨⟨cA, cB, cC, cD, cE, cF, _, _, _, _, _, _⟩, cX⟩ := HK.out _ g8
                    obtain ⟨v0, v1, v2, v3⟩ := HKV.out _ g8
                    have hwr : IntKind.i64.wrap (f0 + s.m0.acc) = f0 + s.m0.acc := IntWalk.i64_in _ (by omega)
                    have hx1 : ¬ (s.m0.acc < 0) := by omega
                    have hx2 : ¬ ((B0.length : Int) < f0 + s.m0.acc) := by omega
                    have hx3 : ¬ (f0 + s.m0.acc < (R0.length : Int)) := by omega
                    have hst := st_self15h R0
                    have hup := HUP.out.1
                    clear HP0 HP1 f8 g
                    go_wp2_with fail
                    go_quiet (fail)
                    obtain ⟨wx, hx, fx⟩ : ∃ wx, w8.drewN nq = wx ∧ Fr [] w8 wx := ⟨_, rfl, (Fr.refl _ _).drewN _⟩
                    rw [hx]
                    have gx := g8.then0 fx
                    clear hx cA cB cC cD cE cF cX v0 v1 v2 v3 fx
                    obtain ⟨⟨cA, cB, cC, cD, cE, cF, _, _, _, _, _, _⟩, cX⟩ := HK.out _ gx
                    go_upto_region 57 with fail
                    go_cut [310] (fun v wy => v = .bool false ∧ Fr [] w6 wy)
                    case first =>
                      as_aux_lemma =>
                        by_cases hw3 : what = 3
                        · subst hw3
                          by_cases hej : en = 1
                          · subst hej
                            by_cases hf : fe = 13
                            · subst hf
                              have hne : (((R0.length : Nat) : Int) != f0 + s.m0.acc) = false := by have := (HC.out.2 rfl rfl).2 rfl; rw [this]; simp
                              go_wp2_with fail
                              go_meet
                              exact ⟨rfl, gx⟩
                            · have hfb : (fe == 13) = false := by simpa using hf
                              go_wp2_with fail
                              go_meet
                              exact ⟨rfl, gx⟩
                          · have hejb : (en == 1) = false := by simpa using hej
                            go_wp2_with fail
                            go_meet
                            exact ⟨rfl, gx⟩
                        · have hwb : (what == 3) = false := by simpa using hw3
                          go_wp2_with fail
                          go_meet
                          exact ⟨rfl, gx⟩
                    case rest =>
                      obtain ⟨rfl, gy⟩ := hcut
                      clear cA cB cC cD cE cF cX gx hx1 hx2 hx3 hst hup t1 t2 t3 t4 hwr
                      go_wp2_with fail
                      go_roundw
                      case rel => exact ⟨1, by omega, rfl, gy⟩
                      case measure => simp [intOf]
                · as_aux_lemma =>
                    obtain ⟨t1, t2, t3, t4, _⟩ := HT1.out
                    go_wp2_with fail
                    refine (HP1.out _ g).mono ?_
                    rintro e w8 ⟨rfl, f8⟩
                    have g8 := g.then0 f8
                    obtain ⟨⟨cA, cB, cC, cD, cE, cF, _, _, _, _, _, _⟩, cX⟩ := HK.out _ g8
                    obtain ⟨v0, v1, v2, v3⟩ := HKV.out _ g8
                    have hwr : IntKind.i64.wrap (f1 + s.m1.acc) = f1 + s.m1.acc := IntWalk.i64_in _ (by omega)
                    have hx1 : ¬ (s.m1.acc < 0) := by omega
                    have hx2 : ¬ ((B1.length : Int) < f1 + s.m1.acc) := by omega
                    have hx3 : ¬ (f1 + s.m1.acc < (R1.length : Int)) := by omega
                    have hst := st_self15h R1
                    have hup := HUP.out.2
                    clear HP0 HP1 f8 g
                    go_wp2_with fail
                    go_quiet (fail)
                    obtain ⟨wx, hx, fx⟩ : ∃ wx, w8.drewN nq = wx ∧ Fr [] w8 wx := ⟨_, rfl, (Fr.refl _ _).drewN _⟩
                    rw [hx]
                    have gx := g8.then0 fx
                    clear hx cA cB cC cD cE cF cX v0 v1 v2 v3 fx
                    obtain ⟨⟨cA, cB, cC, cD, cE, cF, _, _, _, _, _, _⟩, cX⟩ := HK.out _ gx
                    go_upto_region 57 with fail
                    go_cut [310] (fun v wy => v = .bool false ∧ Fr [] w6 wy)
                    case first =>
                      as_aux_lemma =>
                        by_cases hw3 : what = 3
                        · subst hw3
                          by_cases hej : en = 0
                          · subst hej
                            by_cases hf : fe = 13
                            · subst hf
                              have hne : (((R1.length : Nat) : Int) != f1 + s.m1.acc) = false := by have := (HC.out.2 rfl rfl).1 rfl; rw [this]; simp
                              go_wp2_with fail
                              go_meet
                              exact ⟨rfl, gx⟩
                            · have hfb : (fe == 13) = false := by simpa using hf
                              go_wp2_with fail
                              go_meet
                              exact ⟨rfl, gx⟩
                          · have hejb : (en == 0) = false := by simpa using hej
                            go_wp2_with fail
                            go_meet
                            exact ⟨rfl, gx⟩
                        · have hwb : (what == 3) = false := by simpa using hw3
                          go_wp2_with fail
                          go_meet
                          exact ⟨rfl, gx⟩
                    case rest =>
                      obtain ⟨rfl, gy⟩ := hcut
                      clear cA cB cC cD cE cF cX gx hx1 hx2 hx3 hst hup t1 t2 t3 t4 hwr
                      go_wp2_with fail
                      go_roundw
                      case rel => exact ⟨2, by omega, rfl, gy⟩
                      case measure => simp [intOf]
                · have HF := Lib.hid (And.intro (HM.out.keep0 g) (And.intro (HB.out.keep0 g) (And.intro (HG.out.then0 g) (HA.out.keep g HG.out.size (by simp)))))
                  clear HP0 HP1 HK HKV g
                  go_wp2_with fail
                  go_roundw
                  case rel => exact ⟨k + 1, F, s, _, _, _, _, B0, B1, R0, R1, f0, f1, y0, y1, k0, k1, h0, h1, by omega, by go_num, Lib.hid HF.out.1, Lib.hid HF.out.2.1, HH, Lib.hid HF.out.2.2.1, Lib.hid HF.out.2.2.2⟩
                  case measure => simp [intOf]; omega
      · as_aux_lemma =>
          have hd : decide (en = 0 ∨ en = 1) = false := by simpa using he
          go_wp2_with fail
          refine (HEN.out _ _).mono ?_
          rintro e w' ⟨rfl, rfl⟩
          rw [hd]
          clear HEN hd he
          go_wp2_with fail
          go_roundw
          case rel => exact ⟨k + 1, F, s, b0, b1, r0, r1, B0, B1, R0, R1, f0, f1, y0, y1, k0, k1, h0, h1, by omega, by go_num, HM5, HB5, Lib.hid ⟨HH.out.1, by have h := HH.out.2; have := HSB.out; exact ⟨by omega, by omega⟩⟩, HG5, HA5⟩
          case measure => simp [intOf]; omega
    · as_aux_lemma =>
        go_wp2_with fail
        refine (known15 _).mono ?_
        rintro e w99 ⟨rfl, f99⟩
        go_wp2_with fail
        go_ret
        exact ⟨rfl, HG.out.then0 f99⟩
set_option maxHeartbeats 16000000 in
theorem duplexHolds_walk {c0 c1 : Int} {a : Option Addr} {len cap : Nat} (w : World) (hA : ∃ A, Acts15 w w.heap.size a len cap A) :
    Calls Try.prog 8 #[.int .i64 c0, .int .i64 c1, .slice a len cap] w fun e w' => e = .returned (.bool true) ∧ Fr [] w w' := by
  obtain ⟨A, hA⟩ := hA
  have HFW := Lib.hid (few15 hA)
  cases hb : fewB15 A with
  | false =>
    rw [hb] at HFW
    clear hA
    go_enter Try.func8, Try.ntmps8
    go_wp2_with fail
    refine HFW.out.mono ?_
    rintro e w0 ⟨rfl, f0⟩
    have HF0 := Lib.hid f0
    clear f0
    go_wp2_with fail
    refine (known15 _).mono ?_
    rintro e w9 ⟨rfl, f9⟩
    go_wp2_with fail
    go_ret
    exact ⟨rfl, HF0.out.then0 f9⟩
  | true =>
    by_cases hx : (0 ≤ c0 ∧ c0 ≤ 4096) ∧ (0 ≤ c1 ∧ c1 ≤ 4096)
    · exact duplexHolds_main w hx.1 hx.2 hA hb
    · rw [hb] at HFW
      have HN1 := Lib.hid fun w1 => dx_new_bad w1 hx
      clear hx hA
      go_enter Try.func8, Try.ntmps8
      go_wp2_with fail
      refine HFW.out.mono ?_
      rintro e w0 ⟨rfl, f0⟩
      have HF0 := Lib.hid f0
      clear f0
      go_wp2_with fail
      refine (HN1.out _).mono ?_
      rintro e w1 ⟨rfl, f1⟩
      have HF1 := Lib.hid (HF0.out.then0 f1)
      clear f1 HN1 HFW
      go_wp2_with fail
      refine (known15 _).mono ?_
      rintro e w9 ⟨rfl, f9⟩
      go_wp2_with fail
      go_ret
      exact ⟨rfl, HF1.out.then0 f9⟩
end Go.Proofs.Ytdoamelhclnphaa
