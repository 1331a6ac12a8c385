/-
  Law 22: SpliceHolds, the theorem of stage 22.
-/
import Derived.Test.YtodpkdbcdbdjfaaSpHoldM
import Derived.Test.YtodpkdbcdbdjfaaSpLaw
import Derived.Test.YtodpkdbcdbdjfaaKnown22
import Derived.Test.YtodpkdbcdbdjfaaActs22
import Derived.Test.YtodpkdbcdbdjfaaRegionU
import Derived.Test.YtodpkdbcdbdjfaaRegionX
import Derived.Test.YtodpkdbcdbdjfaaStepsTwo
import Derived.Deep.DeepCutAuto
import Derived.Deep.CutBlock
namespace Go.Proofs.Ytodpkdbcdbdjfaa
open Go.RowKit
set_option maxRecDepth 100000

theorem st_self22 (l : List UInt8) : (st l != st l) = false := by
  have h : (st l == st l) = true := by
    show (l.toArray == l.toArray) = true
    simp
  unfold bne
  rw [h]
  rfl
theorem WBcells5 {w : World} {x : Nat} {a b c d e : Value} {t : TypeId} (h : w.heap[x]? = some (.cells #[a, b, c, d, e] t (0, 0))) : w.cell? ⟨x, 0, none⟩ = some a ∧ w.cell? ⟨x, 1, none⟩ = some b ∧ w.cell? ⟨x, 2, none⟩ = some c ∧ w.cell? ⟨x, 3, none⟩ = some d ∧ w.cell? ⟨x, 4, none⟩ = some e :=
  ⟨cell_of h, cell_of h, cell_of h, cell_of h, cell_of h⟩
theorem Ow.formC {w : World} {M : Nat} {v : Value} {l : List UInt8} (h : Ow w M 5 v ((bi l).map (Value.int .u8))) : ∃ a c, v = .slice a l.length c ∧ l.length ≤ c ∧ Sl w a (bi l) ∧ True ∧ True := by
  obtain ⟨a, c, e, h1, _, hs, _⟩ := h.formB
  exact ⟨a, c, e, h1, hs, trivial, trivial⟩
theorem Ow.slC {w : World} {M : Nat} {a : Option Addr} {n c : Nat} {l : List UInt8} (h : Ow w M 5 (.slice a n c) ((bi l).map (Value.int .u8))) : Sl w a (bi l) := by
  obtain ⟨a', c', e, _, _, hs, _⟩ := h.formB
  injection e with e1
  subst e1
  exact hs
set_option maxHeartbeats 40000000 in
theorem spliceHolds_main {sg : Int} {a : Option Addr} {len cap : Nat} {A : List A22} (w : World) (hk : okS sg (-1) = true) (hA : Acts22 w w.heap.size a len cap A) (hs : fewB22 A = true) :
    Calls Try.prog 10 #[.int .i64 sg, .slice a len cap] w fun e w' => e = .returned (.bool true) ∧ Fr [] w w' := by
  have hle := hA.len_eq
  subst hle
  have HFW := Lib.hid (hs ▸ few22 hA)
  have HVA := Lib.hid fun w => hk ▸ rvalid w sg (-1)
  obtain ⟨n30, hok30⟩ := fewB22_iff hs
  have HOK := Lib.hid hok30
  have hl30 : (A.length : Int) ≤ 30 := by omega
  have HNEW := Lib.hid (sp_new_ok w hk)
  clear hk hs hok30 n30
  go_enter Try.func10, Try.ntmps10
  go_wp2_with fail
  refine HFW.out.mono ?_
  rintro e w' ⟨rfl, rfl⟩
  go_wp2_with fail
  refine (HVA.out _).mono ?_
  rintro e w' ⟨rfl, rfl⟩
  go_wp2_with fail
  refine HNEW.out.mono ?_
  rintro e w1 ⟨b, W, b0, b1, rfl, g1, h1, p1_, p2_, p3_, p4_⟩
  obtain ⟨Q, hQ⟩ : ∃ Q, w1.heap.size = Q := ⟨_, rfl⟩
  obtain ⟨w2, hw2, f2, q0, q1⟩ : ∃ W', W' = (w1.alloc (.cells #[.slice none 0 0, .slice none 0 0] 85)).alloc (.cells #[.slice none 0 0, .slice none 0 0] 85) ∧ Fr [] w1 W' ∧ W'.heap[Q]? = some (.cells #[.slice none 0 0, .slice none 0 0] 85 (0, 0)) ∧ W'.heap[Q + 1]? = some (.cells #[.slice none 0 0, .slice none 0 0] 85 (0, 0)) := by
    subst hQ
    exact ⟨_, rfl, ((Fr.refl _ _).alloc _).alloc _, keepA (newA rfl), newA (by simp)⟩
  obtain ⟨l1, l2, l3, l4⟩ := h1.lt
  have hz2 := lt_of_heap q1
  have HG2 := Lib.hid (g1.then0 f2)
  have HA2 := Lib.hid (hA.keep HG2.out (Nat.le_refl _) (by simp))
  have HM2 : Hid (SHM w w2 Q (fun x => (w1.heap.size ≤ x ∧ x < w1.heap.size) ∨ w2.heap.size ≤ x) (fun x => (w1.heap.size ≤ x ∧ x < w1.heap.size) ∨ w2.heap.size ≤ x) b W b0 b1 (newS sg) (.slice none 0 0) (.slice none 0 0) (.slice none 0 0) (.slice none 0 0) [] [] [] []) := Lib.hid
    ⟨h1.outS f2 (by simp), ⟨by omega, by omega, by omega, by omega⟩, Ow.nil _ _ _, Ow.nil _ _ _, Ow.nil _ _ _, Ow.nil _ _ _, by simp [Value.ownBlock], fun x h1 h2 => ⟨fun hn => by rcases hn with hn | hn <;> omega, fun hn => by rcases hn with hn | hn <;> omega⟩, by simp [Value.ownBlock], by simp [Value.ownBlock], by simp [Value.ownBlock], by omega⟩
  have HB2 : Hid (D2 w2 Q (.slice none 0 0) (.slice none 0 0) (.slice none 0 0) (.slice none 0 0)) := Lib.hid ⟨q0, q1⟩
  clear hA HNEW HFW h1 HVA l1 l2 l3 l4 hz2 f2 g1 q0 q1 p1_ p2_ p3_ p4_
  go_wp2_with fail
  rw [← hw2]
  try rw [hQ]
  clear hw2
  go_loopw [9, 10] (fun vf i wr => ∃ (k : Nat) (s : SS) (N0 N1 : Nat → Prop) (p0 p1 u0 u1 : Value) (I0 I1 O0 O1 : List UInt8), k ≤ A.length ∧ vf = .int .i64 s.first ∧ i = .int .i64 k ∧ Hid (SHM w wr Q N0 N1 b W b0 b1 s p0 p1 u0 u1 I0 I1 O0 O1) ∧ Hid (D2 wr Q p0 p1 u0 u1) ∧ Hid (SHL sg s I0 I1 O0 O1 ∧ I0.length ≤ k * 5000 ∧ I1.length ≤ k * 5000) ∧ Hid (Fr [] w wr) ∧ Hid (Acts22 wr w.heap.size a A.length cap A)) (fun _ i _ => A.length - (intOf i).toNat)
  case atStart => exact ⟨0, newS sg, _, _, _, _, _, _, [], [], [], [], by omega, rfl, rfl, HM2, HB2, Lib.hid ⟨SHL.new sg, by simp, by simp⟩, HG2, HA2⟩
  case round =>
    clear HM2 HB2 HG2 HA2
    obtain ⟨k, s, N0, N1, p0, p1, u0, u1, I0, I1, O0, O1, hk, rfl, rfl, HMr, HBr, HL, HGr, HAr⟩ := hrel
    rename World => wr
    by_cases hlt : (k : Int) < A.length
    · have hkA : k < A.length := by omega
      obtain ⟨ab, ao, pa, pl, pc, rfl, habM, hab, i0, i1, i2, i3, i4, hd, _⟩ := HAr.out.at_ k hkA
      have hok := HOK.out A[k] (List.getElem_mem hkA)
      generalize A[k] = ak at i0 i1 i2 i3 i4 hd hok
      obtain ⟨what, fr, data, n, er⟩ := ak
      dsimp only at i0 i1 i2 i3 i4 hd hok
      have hpl := hd.len_eq
      subst hpl
      obtain ⟨w5, hw5, f5, q5⟩ : ∃ W', wr.alloc (.cells #[.int .i64 what, .int .i64 fr, .slice pa data.length pc, .int .i64 n, .int .i64 er] 73) = W' ∧ Fr [] wr W' ∧ W'.heap[wr.heap.size]? = some (.cells #[.int .i64 what, .int .i64 fr, .slice pa data.length pc, .int .i64 n, .int .i64 er] 73 (0, 0)) := ⟨_, rfl, (Fr.refl _ _).alloc _, newA rfl⟩
      obtain ⟨e0, e1, e2, e3, e4⟩ := WBcells5 q5
      have hbx5 : wr.heap.size < w5.heap.size := lt_of_heap q5
      have HQ5 := Lib.hid q5
      have HROW := Lib.hid (And.intro (fun g e => (HMr.out.r0.lt g e).2) (And.intro (fun g e => (HMr.out.r1.lt g e).2) (And.intro (fun g e => (HMr.out.r2.lt g e).2) (fun g e => (HMr.out.r3.lt g e).2))))
      have hQr : Q + 2 ≤ wr.heap.size := HMr.out.hq
      have hwQ : w.heap.size ≤ Q := by have := HMr.out.lo; omega
      have hkb : k + 1 ≤ 30 := by omega
      have HRD : Hid (s.t0.rd ≤ 200000 ∧ s.t1.rd ≤ 200000) := Lib.hid (by have h0 := HL.out.1.a0.rd; have h1 := HL.out.1.a1.rd; have h := HL.out.2; have : k * 5000 ≤ 30 * 5000 := Nat.mul_le_mul_right _ (by omega); omega)
      have hkm : k * 5000 ≤ 150000 := by have : k * 5000 ≤ 30 * 5000 := Nat.mul_le_mul_right _ (by omega); omega
      have HM5 := Lib.hid (HMr.out.keep0 f5)
      have HB5 := Lib.hid (HBr.out.keep0 f5)
      have HG5 := Lib.hid (HGr.out.then0 f5)
      have HA5 := Lib.hid (HAr.out.keep f5 HGr.out.size (by simp))
      have hd5 := hd.keep f5 HGr.out.size (by simp)
      clear q5 f5 hd
      by_cases hf0 : fr = 0
      · subst hf0
        clear habM HMr HBr HGr HAr
        go_upto_region 12 with fail
        clear i0 i1 i2 i3 i4
        generalize hX : wr.heap.size = X at *
        skip
        have HSD := Lib.hid fun W0 => (show Calls Try.prog 32 #[.int .i64 0] W0 fun e w' => e = .returned (.bool true) ∧ W0 = w' from rs_side W0 0)
        obtain ⟨kd, sd, m, d, ex, hx⟩ : ∃ k_ s_ m_ d_ e_, nextS s.t0 s.c0 0 = ⟨k_, s_, m_, d_, e_⟩ := ⟨_, _, _, _, _, rfl⟩
        obtain ⟨kdo, sdo, mo, do_, exo, hxo⟩ : ∃ k_ s_ m_ d_ e_, nextS s.t1 s.c1 1 = ⟨k_, s_, m_, d_, e_⟩ := ⟨_, _, _, _, _, rfl⟩
        have HX := Lib.hid hx
        have HXO := Lib.hid hxo
        have HE := Lib.hid fun w1 (f : Fr [] w5 w1) => hx ▸ sp_next0 (HM5.out.sp.keep0 f) (by have := HRD.out; omega)
        have HOX := Lib.hid fun w1 (f : Fr [] w5 w1) => hxo ▸ sp_next1 (HM5.out.sp.keep0 f) (by have := HRD.out; omega)
        clear hx hxo
        go_wp2_with fail
        refine (HSD.out _).mono ?_
        rintro e w' ⟨rfl, rfl⟩
        go_wp2_with fail
        refine (HE.out _ (Fr.refl _ _)).mono ?_
        rintro e w6 ⟨v, rfl, f6, uu, rfl, ou⟩
        obtain ⟨g, j, rfl, hgj, _, gs, hgn⟩ := ou.formB
        clear ou HE HSD e0 e1 e2 e3 e4
        obtain ⟨w7, hw7, f7, q7⟩ : ∃ W, w6.alloc (.cells #[.int .i64 kd, .int .i64 sd, .int .i64 m, .slice g d.length j, .int .i64 ex] 32) = W ∧ Fr [] w6 W ∧ W.heap[w6.heap.size]? = some (.cells #[.int .i64 kd, .int .i64 sd, .int .i64 m, .slice g d.length j, .int .i64 ex] 32 (0, 0)) := ⟨_, rfl, (Fr.refl _ _).alloc _, newA rfl⟩
        have g57 := f6.then0 f7
        have gs7 := sl_keep gs f7 (by simp)
        obtain ⟨e0, e1, e2, e3, e4⟩ := WBcells5 (g57.keep HQ5.out (by simp))
        have hz6 := f6.size
        have hq7 := lt_of_heap q7
        clear gs f6 f7
        go_wp2_with fail
        refine (HOX.out _ g57).mono ?_
        rintro e w8 ⟨v, rfl, f8, uu, rfl, ou⟩
        obtain ⟨go_, jo, rfl, hgjo, _, gso, hgno⟩ := ou.formB
        clear ou HOX e0 e1 e2 e3 e4
        obtain ⟨wz, hwz, f9, q9⟩ : ∃ W, w8.alloc (.cells #[.int .i64 kdo, .int .i64 sdo, .int .i64 mo, .slice go_ do_.length jo, .int .i64 exo] 32) = W ∧ Fr [] w8 W ∧ W.heap[w8.heap.size]? = some (.cells #[.int .i64 kdo, .int .i64 sdo, .int .i64 mo, .slice go_ do_.length jo, .int .i64 exo] 32 (0, 0)) := ⟨_, rfl, (Fr.refl _ _).alloc _, newA rfl⟩
        have g79 := f8.then0 f9
        have g59 := g57.then0 g79
        have hz8 := f8.size
        have hq9 := lt_of_heap q9
        have HO := Lib.hid (And.intro q9 (sl_keep gso f9 (by simp)))
        have HW := Lib.hid (g79.keep q7 (by simp))
        have HGS := Lib.hid (And.intro (sl_keep gs7 g79 (by simp)) hgj)
        have HM := Lib.hid (HM5.out.keep0 g59)
        have HB := Lib.hid (HB5.out.keep0 g59)
        have HG := Lib.hid (HG5.out.then0 g59)
        have HA := Lib.hid (HA5.out.keep g59 HG5.out.size (by simp))
        have hq59 := g59.keep HQ5.out (by simp)
        have HQ := Lib.hid hq59
        have hdat := hd5.keep g59 HG5.out.size (by simp)
        have HGB : Hid (∀ b' o', g = some ⟨b', o', none⟩ → Q + 2 ≤ b') := Lib.hid (fun b' o' e => by have := hgn b' o' e; omega)
        have HOB : Hid (∀ b' o', go_ = some ⟨b', o', none⟩ → X < b') := Lib.hid (fun b' o' e => by have := hgno b' o' e; omega)
        obtain ⟨e0, e1, e2, e3, e4⟩ := WBcells5 hq59
        have hX6 : X < w6.heap.size := by omega
        have hX8 : X < w8.heap.size := by omega
        generalize hWB : w6.heap.size = WB at *
        generalize hOBx : w8.heap.size = OB at *
        clear hw7 f8 f9 g57 g79 g59 gs7 gso q7 q9 hq59 hgn hgno HM5 HB5 HG5 HA5 HQ5 hd5 hgjo hz6 hz8 hq7 hq9 hWB
        go_upto_block 2 with fail
        try rw [hOBx]
        clear hwz hOBx
        go_cut [] (fun wx => ∃ (s2 : SS) (M0 M1 : Nat → Prop) (p0' p1' u0' u1' : Value) (I0' I1' O0' O1' : List UInt8), Hid (SHM w wx Q M0 M1 b W b0 b1 s2 (p0') (p1') (u0') (u1') (I0') (I1') (O0') (O1')) ∧ Hid (D2 wx Q (p0') (p1') (u0') (u1')) ∧ Hid (SHL sg s2 (I0') (I1') (O0') (O1') ∧ I0'.length ≤ (k + 1) * 5000 ∧ I1'.length ≤ (k + 1) * 5000) ∧ Hid (nextS s2.t1 s2.c1 1 = ⟨kdo, sdo, mo, do_, exo⟩ ∧ s2.first = noteF s.first (nextS s2.t0 s2.c0 0)) ∧ Hid (Fr [] w wx) ∧ Hid (Acts22 wx w.heap.size (some ⟨ab, ao, none⟩) A.length cap A) ∧ Hid (wx.heap[X]? = some (.cells #[.int .i64 what, .int .i64 0, .slice pa data.length pc, .int .i64 n, .int .i64 er] 73 (0, 0))) ∧ Hid (wx.heap[OB]? = some (.cells #[.int .i64 kdo, .int .i64 sdo, .int .i64 mo, .slice go_ do_.length jo, .int .i64 exo] 32 (0, 0)) ∧ Sl wx go_ (bi do_)))
        case first =>
          rcases Bool.eq_false_or_eq_true (what == 0) with q0 | q0
          · obtain rfl : what = 0 := by simpa using q0
            as_aux_lemma =>
              have hrd := HRD.out
              have HC := Lib.hid (got_sp0 HM.out.sp (by have := HRD.out; omega) (pc := pc) hdat.sl rfl (show data.length ≤ 65536 by omega) er rfl rfl)
              by_cases z : gotE s.t0 data er = 0
              · skip
                have HN := Lib.hid (HL.out.1.got0 z)
                rw [z] at HC
                have hIr := HL.out.2
                clear z
                go_wp2_with fail
                refine HC.out.mono ?_
                rintro e w6 ⟨rfl, f6, hS⟩
                have hm6 := HM.out.call f6 hS
                have hlo := HM.out.lo
                have hbl : ∀ x ∈ [b, W, b0, b1], w.heap.size ≤ x ∧ x < Q := by intro x hx; simp at hx; omega
                have hb6 := HB.out.keep f6 (fun x hx => .inl (hbl x hx).2)
                have g6 := HG.out.trans f6 (U := []) (by simp) (fun x hx => .inr (hbl x hx).1)
                have a6 := HA.out.keep f6 HG.out.size (fun x hx => (hbl x hx).1)
                have q6 := f6.keep HQ.out (fun hm => by have := (hbl _ hm).2; omega)
                have o6 := f6.keep HO.out.1 (fun hm => by have := (hbl _ hm).2; omega)
                have s6 := sl_keep HO.out.2 f6 (fun h0 b' o' e hm => by have := (hbl _ hm).2; have := HOB.out b' o' e; omega)
                have wq6 := f6.keep HW.out (fun hm => by have := (hbl _ hm).2; omega)
                have gs6 := sl_keep HGS.out.1 f6 (fun h0 b' o' e hm => by have := (hbl _ hm).2; have := HGB.out b' o' e; omega)
                have dd6 := hdat.keep f6 HG.out.size (fun x hx => (hbl x hx).1)
                have H6 := Lib.hid (And.intro hm6 (And.intro hb6 (And.intro g6 (And.intro a6 (And.intro q6 (And.intro o6 s6))))))
                have HWQ6 := Lib.hid (And.intro wq6 gs6)
                clear hm6 hb6 g6 a6 q6 o6 s6 wq6 gs6 hlo hbl
                clear HC f6 hS
                obtain ⟨q0, q1, q2, q3⟩ := H6.out.2.1.cells
                obtain ⟨e0, e1, e2, e3, e4⟩ := WBcells5 H6.out.2.2.2.2.1
                have HOW := Lib.hid H6.out.1.r0
                obtain ⟨ra, rc, rfl, _⟩ := HOW.out.formB
                have hz6 := H6.out.1.hq
                have HSV := Lib.hid dd6.sl.toV
                have H3 : Hid (((bi I0).map (Value.int .u8)).length + data.length ≤ maxLen) := Lib.hid (by rw [List.length_map, bi_length]; unfold maxLen; omega)
                have H4 : Hid ((((bi I0).map (Value.int .u8)).length + data.length) * 1 ≤ 140737488355328) := Lib.hid (by rw [List.length_map, bi_length]; omega)
                have H5 : Hid (((bi data).map (Value.int .u8)).length = data.length) := Lib.hid (by simp [bi_length])
                have HO1 := Lib.hid (oneCell_bytes (bi data))
                have HUU : Hid (Try.prog.underlying 22 = some (.slice 5)) := Lib.hid Try.underlying22
                have HIN : Hid ((Try.prog.info? 5).map (fun i => (i.zero, i.size, i.bytes)) = some (some (.int .u8 0), 1, 1)) := Lib.hid (by kernel_rfl)
                clear dd6 hdat
                have hrb : ∀ x ∈ (Value.slice ra I0.length rc).ownBlock.toList, Q + 2 ≤ x ∧ x < X := fun x hx => ⟨(HOW.out.lt x (by simpa using hx)).1, HROW.out.1 x (by simpa using hx)⟩
                have HFA := Lib.hid fun (w' : World) (f : Fr (Value.slice ra I0.length rc).ownBlock.toList w6 w') => (show w'.cell? ⟨Q, 0, none⟩ = some (.slice ra I0.length rc) ∧ w'.cell? ⟨X, 1, none⟩ = some (.int .i64 0) ∧ w'.cell? ⟨X, 2, none⟩ = some (.slice pa data.length pc) from ⟨cell_of (f.keep H6.out.2.1.q0 (fun hm => by have := (hrb _ hm).1; omega)), cell_of (f.keep H6.out.2.2.2.2.1 (fun hm => by have := (hrb _ hm).2; omega)), cell_of (f.keep H6.out.2.2.2.2.1 (fun hm => by have := (hrb _ hm).2; omega))⟩)
                go_wp2_with fail
                have fd : Fr [] w6 w6.drew := (Fr.refl _ _).drew
                have fdS : Fr (Value.slice ra I0.length rc).ownBlock.toList w6 w6.drew := fd.trans (Fr.refl _ _ : Fr (Value.slice ra I0.length rc).ownBlock.toList _ _) (by simp) (fun x hx => .inl hx)
                refine wp_region_till [(0, true), (1, true), (2, true), (3, true), (4, true), (5, true), (6, true), (7, true), (8, false), (9, true)] [10] (fun w' => Fr (Value.slice ra I0.length rc).ownBlock.toList w6 w') (by kernel_rfl) (by kernel_rfl) fdS ?_
                intro OPS HOPS
                have hops := HOPS.out
                try simp only [List.append_eq, List.cons_append, List.nil_append] at hops
                replace HOPS := Lib.hid hops
                clear hops
                refine walkX_take (o := _) (v := ?_) (by rw [HOPS.out]; simp only [List.getElem?_toArray, List.getElem?_cons_succ, List.getElem?_cons_zero]; exact rfl) (Or.inl ⟨rfl, ?_⟩) ?_
                rotate_left
                · (intro w hSw; have hSx := HFA.out _ hSw; (try dsimp only at hSx); clear hSw; go_simp) <;> (with_reducible rfl)
                simp only [Act.put, List.setIfInBounds_toArray, List.set_cons_zero, List.set_cons_succ]
                refine walkX_take (o := _) (v := ?_) (by rw [HOPS.out]; simp only [List.getElem?_toArray, List.getElem?_cons_succ, List.getElem?_cons_zero]; exact rfl) (Or.inl ⟨rfl, ?_⟩) ?_
                rotate_left
                · (intro w hSw; have hSx := HFA.out _ hSw; (try dsimp only at hSx); clear hSw; go_simp) <;> (with_reducible rfl)
                simp only [Act.put, List.setIfInBounds_toArray, List.set_cons_zero, List.set_cons_succ]
                refine walkX_take (o := _) (v := ?_) (by rw [HOPS.out]; simp only [List.getElem?_toArray, List.getElem?_cons_succ, List.getElem?_cons_zero]; exact rfl) (Or.inl ⟨rfl, ?_⟩) ?_
                rotate_left
                · (intro w hSw; have hSx := HFA.out _ hSw; (try dsimp only at hSx); clear hSw; go_simp) <;> (with_reducible rfl)
                simp only [Act.put, List.setIfInBounds_toArray, List.set_cons_zero, List.set_cons_succ]
                refine walkX_take (o := _) (v := ?_) (by rw [HOPS.out]; simp only [List.getElem?_toArray, List.getElem?_cons_succ, List.getElem?_cons_zero]; exact rfl) (Or.inl ⟨rfl, ?_⟩) ?_
                rotate_left
                · (intro w hSw; have hSx := HFA.out _ hSw; (try dsimp only at hSx); clear hSw; go_simp) <;> (with_reducible rfl)
                simp only [Act.put, List.setIfInBounds_toArray, List.set_cons_zero, List.set_cons_succ]
                refine walkX_take (o := _) (v := ?_) (by rw [HOPS.out]; simp only [List.getElem?_toArray, List.getElem?_cons_succ, List.getElem?_cons_zero]; exact rfl) (Or.inl ⟨rfl, ?_⟩) ?_
                rotate_left
                · (intro w hSw; have hSx := HFA.out _ hSw; (try dsimp only at hSx); clear hSw; go_simp) <;> (with_reducible rfl)
                simp only [Act.put, List.setIfInBounds_toArray, List.set_cons_zero, List.set_cons_succ]
                refine walkX_take (o := _) (v := ?_) (by rw [HOPS.out]; simp only [List.getElem?_toArray, List.getElem?_cons_succ, List.getElem?_cons_zero]; exact rfl) (Or.inl ⟨rfl, ?_⟩) ?_
                rotate_left
                · (intro w hSw; have hSx := HFA.out _ hSw; (try dsimp only at hSx); clear hSw; go_simp) <;> (with_reducible rfl)
                simp only [Act.put, List.setIfInBounds_toArray, List.set_cons_zero, List.set_cons_succ]
                refine walkX_take (o := _) (v := ?_) (by rw [HOPS.out]; simp only [List.getElem?_toArray, List.getElem?_cons_succ, List.getElem?_cons_zero]; exact rfl) (Or.inl ⟨rfl, ?_⟩) ?_
                rotate_left
                · (intro w hSw; have hSx := HFA.out _ hSw; (try dsimp only at hSx); clear hSw; go_simp) <;> (with_reducible rfl)
                simp only [Act.put, List.setIfInBounds_toArray, List.set_cons_zero, List.set_cons_succ]
                refine walkX_take (o := _) (v := ?_) (by rw [HOPS.out]; simp only [List.getElem?_toArray, List.getElem?_cons_succ, List.getElem?_cons_zero]; exact rfl) (Or.inl ⟨rfl, ?_⟩) ?_
                rotate_left
                · (intro w hSw; have hSx := HFA.out _ hSw; (try dsimp only at hSx); clear hSw; go_simp) <;> (with_reducible rfl)
                simp only [Act.put, List.setIfInBounds_toArray, List.set_cons_zero, List.set_cons_succ]
                refine walkX_call (o := _) (by rw [HOPS.out]; simp only [List.getElem?_toArray, List.getElem?_cons_succ, List.getElem?_cons_zero]; exact rfl) (fun K HK => ?_)
                refine step_append_fr2 rfl (.tmp 87) (.tmp 89) 22 rfl 5 (.int .u8 0) 1 HUU.out HIN.out rfl (Q + 2) (.slice ra I0.length rc) _ rfl (HOW.out.keep fd (by simp)) pa data.length pc _ rfl H5.out (HSV.out.keep fd (by simp)) HO1.out H3.out H4.out (Nat.le_trans hz6 fd.size) ?_
                intro v7 w7 o7 f7 hb7
                have f67 : Fr (Value.slice ra I0.length rc).ownBlock.toList w6 w7 := fdS.trans f7 (fun x hx => .inl hx) (fun x hx => .inl hx)
                obtain ⟨va, vc, rfl, _⟩ := o7.form
                obtain ⟨vn, hvn⟩ : ∃ n, (List.map (Value.int .u8) (bi I0) ++ List.map (Value.int .u8) (bi (data))).length = n := ⟨_, rfl⟩
                rw [hvn] at o7 hb7 ⊢
                refine HK.out (fun w' => Fr (Value.slice ra I0.length rc).ownBlock.toList w6 w') _ _ (fun _ h => h) (f67) ?_
                clear HK K
                try simp only [Act.put, List.setIfInBounds_toArray, List.set_cons_zero, List.set_cons_succ]
                refine walkX_take (o := _) (v := ?_) (by rw [HOPS.out]; simp only [List.getElem?_toArray, List.getElem?_cons_succ, List.getElem?_cons_zero]; exact rfl) (Or.inl ⟨rfl, ?_⟩) ?_
                rotate_left
                · (intro w hSw; have hSx := HFA.out _ hSw; (try dsimp only at hSx); clear hSw; go_simp) <;> (with_reducible rfl)
                simp only [Act.put, List.setIfInBounds_toArray, List.set_cons_zero, List.set_cons_succ]
                refine walkX_tail ?_
                refine walkTail_step (o := _) (by rw [HOPS.out]; simp only [List.getElem?_toArray, List.getElem?_cons_succ, List.getElem?_cons_zero]; exact rfl) (fun K HK => ?_)
                have hb7' := H6.out.2.1.keep f67 (fun x hx => .inr (hrb x hx).1)
                have sc_ : w7.cell? ⟨Q, 0, none⟩ = some (.slice ra I0.length rc) := cell_of hb7'.q0
                have sf_ : w7.frozen? ⟨Q, 0, none⟩ = false := free_of hb7'.q0
                go_simp
                clear sc_ sf_
                refine HK.out _ _ ?_
                clear HK K
                try simp only [Act.put, List.setIfInBounds_toArray, List.set_cons_zero, List.set_cons_succ]
                refine walkTail_done ?_
                clear HOPS OPS
                obtain ⟨M0, M1, hm7⟩ := (H6.out.1.keep0 fd).push0 o7 f7 hb7
                have g7 := H6.out.2.2.1.trans f67 (U := []) (by simp) (fun x hx => .inr (by have := (hrb x hx).1; omega))
                have a7 := H6.out.2.2.2.1.keep f67 H6.out.2.2.1.size (fun x hx => by have := (hrb x hx).1; omega)
                have q7 := f67.keep H6.out.2.2.2.2.1 (fun hm => by have := (hrb _ hm).2; omega)
                have o7' := f67.keep H6.out.2.2.2.2.2.1 (fun hm => by have := (hrb _ hm).2; omega)
                have s7 := sl_keep H6.out.2.2.2.2.2.2 f67 (fun h0 b' o' e hm => by have := (hrb _ hm).2; have := HOB.out b' o' e; omega)
                clear o7 hb7 HOW HSV HFA
                clear q0 q1 q2 q3 e0 e1 e2 e3 e4
                have f8 : Fr [Q] w7 (w7.setCell ⟨Q, 0, none⟩ (.slice va vn vc)) := (Fr.refl _ _).setCell (.inl (by simp)) _
                have H8 := Lib.hid (And.intro (hm7.box (k := 0) (i := 0) (by omega) (.slice va vn vc)) (And.intro (hb7'.set00 (.slice va vn vc)) (And.intro (g7.trans f8 (U := []) (by simp) (fun x hx => .inr (by simp at hx; omega))) (And.intro (a7.keep f8 g7.size (by simp; omega)) (And.intro (f8.keep q7 (by simp; omega)) (And.intro (f8.keep o7' (by simp; omega)) (sl_keep s7 f8 (fun h0 b' o' e hm => by have := HOB.out b' o' e; simp at hm; omega))))))))
                clear hm7 g7 a7 q7 o7' s7 f8 f7 f67 fd fdS hrb hb7'
                go_wp2_with fail
                go_meet
                exact ⟨(gotS0 s data er), M0, M1, (.slice va vn vc), p1, u0, u1, (I0 ++ data), I1, O0, O1, Lib.hid H8.out.1, Lib.hid H8.out.2.1, Lib.hid ⟨HN.out, (by have h := HL.out.2; rw [List.length_append]; exact ⟨by omega, by omega⟩)⟩, Lib.hid ⟨HXO.out, rfl⟩, Lib.hid H8.out.2.2.1, Lib.hid H8.out.2.2.2.1, Lib.hid H8.out.2.2.2.2.1, Lib.hid H8.out.2.2.2.2.2⟩
              · skip
                have zb : (gotE s.t0 data er == 0) = false := by simpa using z
                rw [HL.out.1.gotNo0 z] at HC
                have HIV := Lib.hid HL.out.1.inv
                generalize gotE s.t0 data er = ce at HC zb z
                clear z
                go_wp2_with fail
                refine HC.out.mono ?_
                rintro e w6 ⟨rfl, f6, hS⟩
                have hm6 := HM.out.call f6 hS
                have hlo := HM.out.lo
                have hbl : ∀ x ∈ [b, W, b0, b1], w.heap.size ≤ x ∧ x < Q := by intro x hx; simp at hx; omega
                have hb6 := HB.out.keep f6 (fun x hx => .inl (hbl x hx).2)
                have g6 := HG.out.trans f6 (U := []) (by simp) (fun x hx => .inr (hbl x hx).1)
                have a6 := HA.out.keep f6 HG.out.size (fun x hx => (hbl x hx).1)
                have q6 := f6.keep HQ.out (fun hm => by have := (hbl _ hm).2; omega)
                have o6 := f6.keep HO.out.1 (fun hm => by have := (hbl _ hm).2; omega)
                have s6 := sl_keep HO.out.2 f6 (fun h0 b' o' e hm => by have := (hbl _ hm).2; have := HOB.out b' o' e; omega)
                have wq6 := f6.keep HW.out (fun hm => by have := (hbl _ hm).2; omega)
                have gs6 := sl_keep HGS.out.1 f6 (fun h0 b' o' e hm => by have := (hbl _ hm).2; have := HGB.out b' o' e; omega)
                have dd6 := hdat.keep f6 HG.out.size (fun x hx => (hbl x hx).1)
                have H6 := Lib.hid (And.intro hm6 (And.intro hb6 (And.intro g6 (And.intro a6 (And.intro q6 (And.intro o6 s6))))))
                have HWQ6 := Lib.hid (And.intro wq6 gs6)
                clear hm6 hb6 g6 a6 q6 o6 s6 wq6 gs6 hlo hbl
                clear HC f6 hS dd6 hdat
                go_wp2_with fail
                go_meet
                exact ⟨s, N0, N1, p0, p1, u0, u1, I0, I1, O0, O1, Lib.hid H6.out.1, Lib.hid H6.out.2.1, Lib.hid ⟨HL.out.1, (by have h := HL.out.2; exact ⟨by omega, by omega⟩)⟩, Lib.hid ⟨HXO.out, HIV.out.1.symm⟩, Lib.hid H6.out.2.2.1, Lib.hid H6.out.2.2.2.1, Lib.hid H6.out.2.2.2.2.1, Lib.hid H6.out.2.2.2.2.2⟩
          · skip
            rcases Bool.eq_false_or_eq_true (what == 1) with q1 | q1
            · obtain rfl : what = 1 := by simpa using q1
              as_aux_lemma =>
                have HC := Lib.hid (wrote_sp0 HM.out.sp (by have := HRD.out; omega) n er rfl rfl)
                by_cases z : wroteE s.t0 n er = 0
                · skip
                  obtain ⟨hk2, hn0, hnl, hN⟩ := HL.out.1.wrote0 z
                  have hX := HX.out
                  unfold nextS at hX
                  rw [if_neg (by rw [hk2]; decide), if_pos hk2] at hX
                  obtain ⟨rfl, rfl, rfl, hds, rfl⟩ : (2 : Int) = kd ∧ 1 = sd ∧ (0 : Int) = m ∧ s.t0.s = d ∧ (0 : Int) = ex := by injection hX with h1 h2 h3 h4 h5; exact ⟨h1, by simpa using h2, h3, h4, h5⟩
                  obtain ⟨nn, rfl⟩ : ∃ nn : Nat, n = nn := ⟨n.toNat, by omega⟩
                  rw [hds] at hnl hN
                  rw [Int.toNat_natCast] at hN
                  have hnd : nn ≤ d.length := by omega
                  have hd5 : d.length ≤ 4096 := by have h1 := HM.out.sp.h0.ok.few; have h2 := HM.out.sp.h0.ok.s2; rw [hds] at h1; omega
                  have HN := Lib.hid hN
                  rw [z] at HC
                  have hIr := HL.out.2
                  have hta := HL.out.1.tail0
                  clear z hN hk2 hX hds
                  go_wp2_with fail
                  refine HC.out.mono ?_
                  rintro e w6 ⟨rfl, f6, hS⟩
                  have hm6 := HM.out.call f6 hS
                  have hlo := HM.out.lo
                  have hbl : ∀ x ∈ [b, W, b0, b1], w.heap.size ≤ x ∧ x < Q := by intro x hx; simp at hx; omega
                  have hb6 := HB.out.keep f6 (fun x hx => .inl (hbl x hx).2)
                  have g6 := HG.out.trans f6 (U := []) (by simp) (fun x hx => .inr (hbl x hx).1)
                  have a6 := HA.out.keep f6 HG.out.size (fun x hx => (hbl x hx).1)
                  have q6 := f6.keep HQ.out (fun hm => by have := (hbl _ hm).2; omega)
                  have o6 := f6.keep HO.out.1 (fun hm => by have := (hbl _ hm).2; omega)
                  have s6 := sl_keep HO.out.2 f6 (fun h0 b' o' e hm => by have := (hbl _ hm).2; have := HOB.out b' o' e; omega)
                  have wq6 := f6.keep HW.out (fun hm => by have := (hbl _ hm).2; omega)
                  have gs6 := sl_keep HGS.out.1 f6 (fun h0 b' o' e hm => by have := (hbl _ hm).2; have := HGB.out b' o' e; omega)
                  have dd6 := hdat.keep f6 HG.out.size (fun x hx => (hbl x hx).1)
                  have H6 := Lib.hid (And.intro hm6 (And.intro hb6 (And.intro g6 (And.intro a6 (And.intro q6 (And.intro o6 s6))))))
                  have HWQ6 := Lib.hid (And.intro wq6 gs6)
                  clear hm6 hb6 g6 a6 q6 o6 s6 wq6 gs6 hlo hbl
                  clear HC f6 hS dd6 hdat
                  obtain ⟨q0, q1, q2, q3⟩ := H6.out.2.1.cells
                  obtain ⟨e0, e1, e2, e3, e4⟩ := WBcells5 H6.out.2.2.2.2.1
                  obtain ⟨x0, x1, x2, x3, x4⟩ := WBcells5 HWQ6.out.1
                  have HOW := Lib.hid H6.out.1.r2
                  obtain ⟨ra, rc, rfl, _⟩ := HOW.out.formB
                  have hz6 := H6.out.1.hq
                  have HSV : Hid (SlV w6 g ((bi (d.take nn)).map (Value.int .u8))) := Lib.hid (by rw [bi_take, List.map_take]; exact (HWQ6.out.2.toV).take nn)
                  have hta1 := hta.1
                  have H3 : Hid (((bi O0).map (Value.int .u8)).length + nn ≤ maxLen) := Lib.hid (by rw [List.length_map, bi_length]; unfold maxLen; omega)
                  have H4 : Hid ((((bi O0).map (Value.int .u8)).length + nn) * 1 ≤ 140737488355328) := Lib.hid (by rw [List.length_map, bi_length]; omega)
                  have H5 : Hid (((bi (d.take nn)).map (Value.int .u8)).length = nn) := Lib.hid (by rw [List.length_map, bi_length, List.length_take]; omega)
                  have HO1 := Lib.hid (oneCell_bytes (bi (d.take nn)))
                  have HUU : Hid (Try.prog.underlying 22 = some (.slice 5)) := Lib.hid Try.underlying22
                  have HIN : Hid ((Try.prog.info? 5).map (fun i => (i.zero, i.size, i.bytes)) = some (some (.int .u8 0), 1, 1)) := Lib.hid (by kernel_rfl)
                  have hup : ∀ w', (Instr.slice 22 (.slice g d.length j) none (some (.int .i64 nn)) none).run Try.prog w' = .ok (.slice g nn j) w' := fun w' => run_upto hnd HGS.out.2 w'
                  have hx1 : ¬ ((nn : Int) < 0) := by omega
                  have hx2 : ¬ ((d.length : Int) < (nn : Int)) := by omega
                  clear hta hIr hn0 hnl
                  have hrb : ∀ x ∈ (Value.slice ra O0.length rc).ownBlock.toList, Q + 2 ≤ x ∧ x < X := fun x hx => ⟨(HOW.out.lt x (by simpa using hx)).1, HROW.out.2.2.1 x (by simpa using hx)⟩
                  have HFA := Lib.hid fun (w' : World) (f : Fr (Value.slice ra O0.length rc).ownBlock.toList w6 w') => (show w'.cell? ⟨Q + 1, 0, none⟩ = some (.slice ra O0.length rc) ∧ w'.cell? ⟨X, 1, none⟩ = some (.int .i64 0) ∧ w'.cell? ⟨X, 3, none⟩ = some (.int .i64 nn) ∧ w'.cell? ⟨WB, 3, none⟩ = some (.slice g d.length j) ∧ (Instr.slice 22 (.slice g d.length j) none (some (.int .i64 nn)) none).run Try.prog w' = .ok (.slice g nn j) w' from ⟨cell_of (f.keep H6.out.2.1.q1 (fun hm => by have := (hrb _ hm).1; omega)), cell_of (f.keep H6.out.2.2.2.2.1 (fun hm => by have := (hrb _ hm).2; omega)), cell_of (f.keep H6.out.2.2.2.2.1 (fun hm => by have := (hrb _ hm).2; omega)), cell_of (f.keep HWQ6.out.1 (fun hm => by have := (hrb _ hm).2; omega)), hup w'⟩)
                  go_wp2_with fail
                  have fd : Fr [] w6 w6.drew := (Fr.refl _ _).drew
                  have fdS : Fr (Value.slice ra O0.length rc).ownBlock.toList w6 w6.drew := fd.trans (Fr.refl _ _ : Fr (Value.slice ra O0.length rc).ownBlock.toList _ _) (by simp) (fun x hx => .inl hx)
                  refine wp_region_till [(0, true), (1, true), (2, true), (3, true), (4, true), (5, true), (6, true), (7, true), (8, true), (9, true), (10, true), (11, false), (12, true)] [13] (fun w' => Fr (Value.slice ra O0.length rc).ownBlock.toList w6 w') (by kernel_rfl) (by kernel_rfl) fdS ?_
                  intro OPS HOPS
                  have hops := HOPS.out
                  try simp only [List.append_eq, List.cons_append, List.nil_append] at hops
                  replace HOPS := Lib.hid hops
                  clear hops
                  refine walkX_take (o := _) (v := ?_) (by rw [HOPS.out]; simp only [List.getElem?_toArray, List.getElem?_cons_succ, List.getElem?_cons_zero]; exact rfl) (Or.inl ⟨rfl, ?_⟩) ?_
                  rotate_left
                  · (intro w hSw; have hSx := HFA.out _ hSw; (try dsimp only at hSx); clear hSw; go_simp) <;> (with_reducible rfl)
                  simp only [Act.put, List.setIfInBounds_toArray, List.set_cons_zero, List.set_cons_succ]
                  refine walkX_take (o := _) (v := ?_) (by rw [HOPS.out]; simp only [List.getElem?_toArray, List.getElem?_cons_succ, List.getElem?_cons_zero]; exact rfl) (Or.inl ⟨rfl, ?_⟩) ?_
                  rotate_left
                  · (intro w hSw; have hSx := HFA.out _ hSw; (try dsimp only at hSx); clear hSw; go_simp) <;> (with_reducible rfl)
                  simp only [Act.put, List.setIfInBounds_toArray, List.set_cons_zero, List.set_cons_succ]
                  refine walkX_take (o := _) (v := ?_) (by rw [HOPS.out]; simp only [List.getElem?_toArray, List.getElem?_cons_succ, List.getElem?_cons_zero]; exact rfl) (Or.inl ⟨rfl, ?_⟩) ?_
                  rotate_left
                  · (intro w hSw; have hSx := HFA.out _ hSw; (try dsimp only at hSx); clear hSw; go_simp) <;> (with_reducible rfl)
                  simp only [Act.put, List.setIfInBounds_toArray, List.set_cons_zero, List.set_cons_succ]
                  refine walkX_take (o := _) (v := ?_) (by rw [HOPS.out]; simp only [List.getElem?_toArray, List.getElem?_cons_succ, List.getElem?_cons_zero]; exact rfl) (Or.inl ⟨rfl, ?_⟩) ?_
                  rotate_left
                  · (intro w hSw; have hSx := HFA.out _ hSw; (try dsimp only at hSx); clear hSw; go_simp) <;> (with_reducible rfl)
                  simp only [Act.put, List.setIfInBounds_toArray, List.set_cons_zero, List.set_cons_succ]
                  refine walkX_take (o := _) (v := ?_) (by rw [HOPS.out]; simp only [List.getElem?_toArray, List.getElem?_cons_succ, List.getElem?_cons_zero]; exact rfl) (Or.inl ⟨rfl, ?_⟩) ?_
                  rotate_left
                  · (intro w hSw; have hSx := HFA.out _ hSw; (try dsimp only at hSx); clear hSw; go_simp) <;> (with_reducible rfl)
                  simp only [Act.put, List.setIfInBounds_toArray, List.set_cons_zero, List.set_cons_succ]
                  refine walkX_take (o := _) (v := ?_) (by rw [HOPS.out]; simp only [List.getElem?_toArray, List.getElem?_cons_succ, List.getElem?_cons_zero]; exact rfl) (Or.inl ⟨rfl, ?_⟩) ?_
                  rotate_left
                  · (intro w hSw; have hSx := HFA.out _ hSw; (try dsimp only at hSx); clear hSw; go_simp) <;> (with_reducible rfl)
                  simp only [Act.put, List.setIfInBounds_toArray, List.set_cons_zero, List.set_cons_succ]
                  refine walkX_take (o := _) (v := ?_) (by rw [HOPS.out]; simp only [List.getElem?_toArray, List.getElem?_cons_succ, List.getElem?_cons_zero]; exact rfl) (Or.inl ⟨rfl, ?_⟩) ?_
                  rotate_left
                  · (intro w hSw; have hSx := HFA.out _ hSw; (try dsimp only at hSx); clear hSw; go_simp) <;> (with_reducible rfl)
                  simp only [Act.put, List.setIfInBounds_toArray, List.set_cons_zero, List.set_cons_succ]
                  refine walkX_take (o := _) (v := ?_) (by rw [HOPS.out]; simp only [List.getElem?_toArray, List.getElem?_cons_succ, List.getElem?_cons_zero]; exact rfl) (Or.inl ⟨rfl, ?_⟩) ?_
                  rotate_left
                  · (intro w hSw; have hSx := HFA.out _ hSw; (try dsimp only at hSx); clear hSw; go_simp) <;> (with_reducible rfl)
                  simp only [Act.put, List.setIfInBounds_toArray, List.set_cons_zero, List.set_cons_succ]
                  refine walkX_take (o := _) (v := ?_) (by rw [HOPS.out]; simp only [List.getElem?_toArray, List.getElem?_cons_succ, List.getElem?_cons_zero]; exact rfl) (Or.inl ⟨rfl, ?_⟩) ?_
                  rotate_left
                  · (intro w hSw; have hSx := HFA.out _ hSw; (try dsimp only at hSx); clear hSw; go_simp) <;> (with_reducible rfl)
                  simp only [Act.put, List.setIfInBounds_toArray, List.set_cons_zero, List.set_cons_succ]
                  refine walkX_take (o := _) (v := ?_) (by rw [HOPS.out]; simp only [List.getElem?_toArray, List.getElem?_cons_succ, List.getElem?_cons_zero]; exact rfl) (Or.inl ⟨rfl, ?_⟩) ?_
                  rotate_left
                  · (intro w hSw; have hSx := HFA.out _ hSw; (try dsimp only at hSx); clear hSw; go_simp) <;> (with_reducible rfl)
                  simp only [Act.put, List.setIfInBounds_toArray, List.set_cons_zero, List.set_cons_succ]
                  refine walkX_take (o := _) (v := ?_) (by rw [HOPS.out]; simp only [List.getElem?_toArray, List.getElem?_cons_succ, List.getElem?_cons_zero]; exact rfl) (Or.inl ⟨rfl, ?_⟩) ?_
                  rotate_left
                  · (intro w hSw; have hSx := HFA.out _ hSw; (try dsimp only at hSx); clear hSw; go_simp) <;> (with_reducible rfl)
                  simp only [Act.put, List.setIfInBounds_toArray, List.set_cons_zero, List.set_cons_succ]
                  refine walkX_call (o := _) (by rw [HOPS.out]; simp only [List.getElem?_toArray, List.getElem?_cons_succ, List.getElem?_cons_zero]; exact rfl) (fun K HK => ?_)
                  refine step_append_fr2 rfl (.tmp 119) (.tmp 124) 22 rfl 5 (.int .u8 0) 1 HUU.out HIN.out rfl (Q + 2) (.slice ra O0.length rc) _ rfl (HOW.out.keep fd (by simp)) g nn j _ rfl H5.out (HSV.out.keep fd (by simp)) HO1.out H3.out H4.out (Nat.le_trans hz6 fd.size) ?_
                  intro v7 w7 o7 f7 hb7
                  have f67 : Fr (Value.slice ra O0.length rc).ownBlock.toList w6 w7 := fdS.trans f7 (fun x hx => .inl hx) (fun x hx => .inl hx)
                  obtain ⟨va, vc, rfl, _⟩ := o7.form
                  obtain ⟨vn, hvn⟩ : ∃ n, (List.map (Value.int .u8) (bi O0) ++ List.map (Value.int .u8) (bi (d.take nn))).length = n := ⟨_, rfl⟩
                  rw [hvn] at o7 hb7 ⊢
                  refine HK.out (fun w' => Fr (Value.slice ra O0.length rc).ownBlock.toList w6 w') _ _ (fun _ h => h) (f67) ?_
                  clear HK K
                  try simp only [Act.put, List.setIfInBounds_toArray, List.set_cons_zero, List.set_cons_succ]
                  refine walkX_take (o := _) (v := ?_) (by rw [HOPS.out]; simp only [List.getElem?_toArray, List.getElem?_cons_succ, List.getElem?_cons_zero]; exact rfl) (Or.inl ⟨rfl, ?_⟩) ?_
                  rotate_left
                  · (intro w hSw; have hSx := HFA.out _ hSw; (try dsimp only at hSx); clear hSw; go_simp) <;> (with_reducible rfl)
                  simp only [Act.put, List.setIfInBounds_toArray, List.set_cons_zero, List.set_cons_succ]
                  refine walkX_tail ?_
                  refine walkTail_step (o := _) (by rw [HOPS.out]; simp only [List.getElem?_toArray, List.getElem?_cons_succ, List.getElem?_cons_zero]; exact rfl) (fun K HK => ?_)
                  have hb7' := H6.out.2.1.keep f67 (fun x hx => .inr (hrb x hx).1)
                  have sc_ : w7.cell? ⟨Q + 1, 0, none⟩ = some (.slice ra O0.length rc) := cell_of hb7'.q1
                  have sf_ : w7.frozen? ⟨Q + 1, 0, none⟩ = false := free_of hb7'.q1
                  go_simp
                  clear sc_ sf_
                  refine HK.out _ _ ?_
                  clear HK K
                  try simp only [Act.put, List.setIfInBounds_toArray, List.set_cons_zero, List.set_cons_succ]
                  refine walkTail_done ?_
                  clear HOPS OPS
                  obtain ⟨M0, M1, hm7⟩ := (H6.out.1.keep0 fd).push2 o7 f7 hb7
                  have g7 := H6.out.2.2.1.trans f67 (U := []) (by simp) (fun x hx => .inr (by have := (hrb x hx).1; omega))
                  have a7 := H6.out.2.2.2.1.keep f67 H6.out.2.2.1.size (fun x hx => by have := (hrb x hx).1; omega)
                  have q7 := f67.keep H6.out.2.2.2.2.1 (fun hm => by have := (hrb _ hm).2; omega)
                  have o7' := f67.keep H6.out.2.2.2.2.2.1 (fun hm => by have := (hrb _ hm).2; omega)
                  have s7 := sl_keep H6.out.2.2.2.2.2.2 f67 (fun h0 b' o' e hm => by have := (hrb _ hm).2; have := HOB.out b' o' e; omega)
                  clear o7 hb7 HOW HSV HFA
                  clear q0 q1 q2 q3 e0 e1 e2 e3 e4 x0 x1 x2 x3 x4 hup hx1 hx2
                  have f8 : Fr [Q + 1] w7 (w7.setCell ⟨Q + 1, 0, none⟩ (.slice va vn vc)) := (Fr.refl _ _).setCell (.inl (by simp)) _
                  have H8 := Lib.hid (And.intro (hm7.box (k := 1) (i := 0) (by omega) (.slice va vn vc)) (And.intro (hb7'.set10 (.slice va vn vc)) (And.intro (g7.trans f8 (U := []) (by simp) (fun x hx => .inr (by simp at hx; omega))) (And.intro (a7.keep f8 g7.size (by simp; omega)) (And.intro (f8.keep q7 (by simp; omega)) (And.intro (f8.keep o7' (by simp; omega)) (sl_keep s7 f8 (fun h0 b' o' e hm => by have := HOB.out b' o' e; simp at hm; omega))))))))
                  clear hm7 g7 a7 q7 o7' s7 f8 f7 f67 fd fdS hrb hb7'
                  go_wp2_with fail
                  go_meet
                  exact ⟨(wroteS0 s nn er), M0, M1, p0, p1, (.slice va vn vc), u1, I0, I1, (O0 ++ d.take nn), O1, Lib.hid H8.out.1, Lib.hid H8.out.2.1, Lib.hid ⟨HN.out, (by have h := HL.out.2; exact ⟨by omega, by omega⟩)⟩, Lib.hid ⟨HXO.out, rfl⟩, Lib.hid H8.out.2.2.1, Lib.hid H8.out.2.2.2.1, Lib.hid H8.out.2.2.2.2.1, Lib.hid H8.out.2.2.2.2.2⟩
                · skip
                  have zb : (wroteE s.t0 n er == 0) = false := by simpa using z
                  rw [HL.out.1.wroteNo0 z] at HC
                  have HIV := Lib.hid HL.out.1.inv
                  generalize wroteE s.t0 n er = ce at HC zb z
                  clear z
                  go_wp2_with fail
                  refine HC.out.mono ?_
                  rintro e w6 ⟨rfl, f6, hS⟩
                  have hm6 := HM.out.call f6 hS
                  have hlo := HM.out.lo
                  have hbl : ∀ x ∈ [b, W, b0, b1], w.heap.size ≤ x ∧ x < Q := by intro x hx; simp at hx; omega
                  have hb6 := HB.out.keep f6 (fun x hx => .inl (hbl x hx).2)
                  have g6 := HG.out.trans f6 (U := []) (by simp) (fun x hx => .inr (hbl x hx).1)
                  have a6 := HA.out.keep f6 HG.out.size (fun x hx => (hbl x hx).1)
                  have q6 := f6.keep HQ.out (fun hm => by have := (hbl _ hm).2; omega)
                  have o6 := f6.keep HO.out.1 (fun hm => by have := (hbl _ hm).2; omega)
                  have s6 := sl_keep HO.out.2 f6 (fun h0 b' o' e hm => by have := (hbl _ hm).2; have := HOB.out b' o' e; omega)
                  have wq6 := f6.keep HW.out (fun hm => by have := (hbl _ hm).2; omega)
                  have gs6 := sl_keep HGS.out.1 f6 (fun h0 b' o' e hm => by have := (hbl _ hm).2; have := HGB.out b' o' e; omega)
                  have dd6 := hdat.keep f6 HG.out.size (fun x hx => (hbl x hx).1)
                  have H6 := Lib.hid (And.intro hm6 (And.intro hb6 (And.intro g6 (And.intro a6 (And.intro q6 (And.intro o6 s6))))))
                  have HWQ6 := Lib.hid (And.intro wq6 gs6)
                  clear hm6 hb6 g6 a6 q6 o6 s6 wq6 gs6 hlo hbl
                  clear HC f6 hS dd6 hdat
                  go_wp2_with fail
                  go_meet
                  exact ⟨s, N0, N1, p0, p1, u0, u1, I0, I1, O0, O1, Lib.hid H6.out.1, Lib.hid H6.out.2.1, Lib.hid ⟨HL.out.1, (by have h := HL.out.2; exact ⟨by omega, by omega⟩)⟩, Lib.hid ⟨HXO.out, HIV.out.1.symm⟩, Lib.hid H6.out.2.2.1, Lib.hid H6.out.2.2.2.1, Lib.hid H6.out.2.2.2.2.1, Lib.hid H6.out.2.2.2.2.2⟩
            · skip
              rcases Bool.eq_false_or_eq_true (what == 2) with q2 | q2
              · obtain rfl : what = 2 := by simpa using q2
                as_aux_lemma =>
                  have HCC := Lib.hid fun w' (f : Fr [] wz w') => close_sp0 (HM.out.sp.keep0 f) (by have := HRD.out; omega) rfl rfl
                  rw [HX.out] at HCC
                  have HN := Lib.hid HL.out.1.close0
                  have hlo := HM.out.lo
                  have hbl : ∀ x ∈ [b, W, b0, b1], w.heap.size ≤ x ∧ x < Q := by intro x hx; simp at hx; omega
                  have HFA := Lib.hid fun (w' : World) (f : Fr [b, W, b0, b1] wz w') => (show w'.cell? ⟨X, 1, none⟩ = some (.int .i64 0) ∧ w'.cell? ⟨WB, 0, none⟩ = some (.int .i64 kd) from ⟨cell_of (f.keep HQ.out (fun hm => by have := (hbl _ hm).2; omega)), cell_of (f.keep HW.out (fun hm => by have := (hbl _ hm).2; omega))⟩)
                  clear hlo hbl
                  have HEC := Lib.hid (Go.Proofs.enters_of Try.func35 (by kernel_rfl) rfl)
                  go_wp2_with fail
                  have fd : Fr [] wz wz.drew := (Fr.refl _ _).drew
                  have fdS : Fr [b, W, b0, b1] wz wz.drew := fd.trans (Fr.refl _ _ : Fr [b, W, b0, b1] _ _) (by simp) (fun x hx => .inl hx)
                  refine wp_region_order [(0, true), (1, true), (2, true), (5, true), (6, true), (7, true), (3, false), (4, true), (8, true)] (fun w' => Fr [b, W, b0, b1] wz w') (by kernel_rfl) (by kernel_rfl) fdS ?_
                  intro OPS HOPS
                  have hops := HOPS.out
                  try simp only [List.append_eq, List.cons_append, List.nil_append] at hops
                  replace HOPS := Lib.hid hops
                  clear hops
                  refine walkO_take (o := _) (v := ?_) (by rw [HOPS.out]; simp only [List.getElem?_toArray, List.getElem?_cons_succ, List.getElem?_cons_zero]; exact rfl) (Or.inl ⟨rfl, ?_⟩) ?_
                  rotate_left
                  · (intro w hSw; have hSx := HFA.out _ hSw; (try dsimp only at hSx); clear hSw; go_simp) <;> (with_reducible rfl)
                  simp only [Act.put, List.setIfInBounds_toArray, List.set_cons_zero, List.set_cons_succ]
                  refine walkO_take (o := _) (v := ?_) (by rw [HOPS.out]; simp only [List.getElem?_toArray, List.getElem?_cons_succ, List.getElem?_cons_zero]; exact rfl) (Or.inl ⟨rfl, ?_⟩) ?_
                  rotate_left
                  · (intro w hSw; have hSx := HFA.out _ hSw; (try dsimp only at hSx); clear hSw; go_simp) <;> (with_reducible rfl)
                  simp only [Act.put, List.setIfInBounds_toArray, List.set_cons_zero, List.set_cons_succ]
                  refine walkO_take (o := _) (v := ?_) (by rw [HOPS.out]; simp only [List.getElem?_toArray, List.getElem?_cons_succ, List.getElem?_cons_zero]; exact rfl) (Or.inl ⟨rfl, ?_⟩) ?_
                  rotate_left
                  · (intro w hSw; have hSx := HFA.out _ hSw; (try dsimp only at hSx); clear hSw; go_simp) <;> (with_reducible rfl)
                  simp only [Act.put, List.setIfInBounds_toArray, List.set_cons_zero, List.set_cons_succ]
                  refine walkO_take (o := _) (v := ?_) (by rw [HOPS.out]; simp only [List.getElem?_toArray, List.getElem?_cons_succ, List.getElem?_cons_zero]; exact rfl) (Or.inl ⟨rfl, ?_⟩) ?_
                  rotate_left
                  · (intro w hSw; have hSx := HFA.out _ hSw; (try dsimp only at hSx); clear hSw; go_simp) <;> (with_reducible rfl)
                  simp only [Act.put, List.setIfInBounds_toArray, List.set_cons_zero, List.set_cons_succ]
                  refine walkO_take (o := _) (v := ?_) (by rw [HOPS.out]; simp only [List.getElem?_toArray, List.getElem?_cons_succ, List.getElem?_cons_zero]; exact rfl) (Or.inl ⟨rfl, ?_⟩) ?_
                  rotate_left
                  · (intro w hSw; have hSx := HFA.out _ hSw; (try dsimp only at hSx); clear hSw; go_simp) <;> (with_reducible rfl)
                  simp only [Act.put, List.setIfInBounds_toArray, List.set_cons_zero, List.set_cons_succ]
                  refine walkO_take (o := _) (v := ?_) (by rw [HOPS.out]; simp only [List.getElem?_toArray, List.getElem?_cons_succ, List.getElem?_cons_zero]; exact rfl) (Or.inl ⟨rfl, ?_⟩) ?_
                  rotate_left
                  · (intro w hSw; have hSx := HFA.out _ hSw; (try dsimp only at hSx); clear hSw; go_simp) <;> (with_reducible rfl)
                  simp only [Act.put, List.setIfInBounds_toArray, List.set_cons_zero, List.set_cons_succ]
                  refine walkO_call (o := _) (by rw [HOPS.out]; simp only [List.getElem?_toArray, List.getElem?_cons_succ, List.getElem?_cons_zero]; exact rfl) (fun K HK => ?_)
                  refine step_call rfl 35 #[(.tmp 129), (.tmp 131)] #[68, 3] rfl HEC.out #[.pointer (some ⟨b, 0, none⟩), .int .i64 0] (by simp [Act.eval]) (HCC.out _ fd) ?_
                  rintro e w6 ⟨rfl, f6', hS⟩
                  have f6 : Fr [b, W, b0, b1] wz w6 := fdS.trans f6' (fun x hx => .inl hx) (fun x hx => .inl hx)
                  refine ⟨_, rfl, ?_⟩
                  refine HK.out (fun w' => Fr [b, W, b0, b1] wz w') _ _ (fun _ h => h) (f6) ?_
                  clear HK K
                  simp only [Act.put, List.setIfInBounds_toArray, List.set_cons_zero, List.set_cons_succ]
                  refine walkO_take (o := _) (v := ?_) (by rw [HOPS.out]; simp only [List.getElem?_toArray, List.getElem?_cons_succ, List.getElem?_cons_zero]; exact rfl) (Or.inl ⟨rfl, ?_⟩) ?_
                  rotate_left
                  · (intro w hSw; have hSx := HFA.out _ hSw; (try dsimp only at hSx); clear hSw; go_simp) <;> (with_reducible rfl)
                  simp only [Act.put, List.setIfInBounds_toArray, List.set_cons_zero, List.set_cons_succ]
                  refine walkO_take (o := _) (v := ?_) (by rw [HOPS.out]; simp only [List.getElem?_toArray, List.getElem?_cons_succ, List.getElem?_cons_zero]; exact rfl) (Or.inl ⟨rfl, ?_⟩) ?_
                  rotate_left
                  · (intro w hSw; have hSx := HFA.out _ hSw; (try dsimp only at hSx); clear hSw; go_simp) <;> (with_reducible rfl)
                  simp only [Act.put, List.setIfInBounds_toArray, List.set_cons_zero, List.set_cons_succ]
                  refine walkO_done ?_
                  clear HOPS OPS
                  have hcc : (!((closeE ⟨kd, sd, m, d, ex⟩ == 0) == (kd == 3))) = false := by
                    unfold closeE
                    by_cases h3 : kd = 3
                    · simp [h3]
                    · simp [h3]
                  rw [hcc]
                  have hm6 := HM.out.call f6 hS
                  have hlo := HM.out.lo
                  have hbl : ∀ x ∈ [b, W, b0, b1], w.heap.size ≤ x ∧ x < Q := by intro x hx; simp at hx; omega
                  have hb6 := HB.out.keep f6 (fun x hx => .inl (hbl x hx).2)
                  have g6 := HG.out.trans f6 (U := []) (by simp) (fun x hx => .inr (hbl x hx).1)
                  have a6 := HA.out.keep f6 HG.out.size (fun x hx => (hbl x hx).1)
                  have q6 := f6.keep HQ.out (fun hm => by have := (hbl _ hm).2; omega)
                  have o6 := f6.keep HO.out.1 (fun hm => by have := (hbl _ hm).2; omega)
                  have s6 := sl_keep HO.out.2 f6 (fun h0 b' o' e hm => by have := (hbl _ hm).2; have := HOB.out b' o' e; omega)
                  have wq6 := f6.keep HW.out (fun hm => by have := (hbl _ hm).2; omega)
                  have gs6 := sl_keep HGS.out.1 f6 (fun h0 b' o' e hm => by have := (hbl _ hm).2; have := HGB.out b' o' e; omega)
                  have dd6 := hdat.keep f6 HG.out.size (fun x hx => (hbl x hx).1)
                  have H6 := Lib.hid (And.intro hm6 (And.intro hb6 (And.intro g6 (And.intro a6 (And.intro q6 (And.intro o6 s6))))))
                  have HWQ6 := Lib.hid (And.intro wq6 gs6)
                  clear hm6 hb6 g6 a6 q6 o6 s6 wq6 gs6 hlo hbl
                  clear f6 f6' fd fdS hS HCC HFA dd6 hdat
                  go_wp2_with fail
                  go_meet
                  exact ⟨(closeS0 s), N0, N1, p0, p1, u0, u1, I0, I1, O0, O1, Lib.hid H6.out.1, Lib.hid H6.out.2.1, Lib.hid ⟨HN.out, (by have h := HL.out.2; exact ⟨by omega, by omega⟩)⟩, Lib.hid ⟨HXO.out, rfl⟩, Lib.hid H6.out.2.2.1, Lib.hid H6.out.2.2.2.1, Lib.hid H6.out.2.2.2.2.1, Lib.hid H6.out.2.2.2.2.2⟩
              · skip
                as_aux_lemma =>
                  have HIV := Lib.hid HL.out.1.inv
                  go_wp2_with fail
                  go_meet
                  exact ⟨s, N0, N1, p0, p1, u0, u1, I0, I1, O0, O1, Lib.hid HM.out, Lib.hid HB.out, Lib.hid ⟨HL.out.1, (by have h := HL.out.2; exact ⟨by omega, by omega⟩)⟩, Lib.hid ⟨HXO.out, HIV.out.1.symm⟩, Lib.hid HG.out, Lib.hid HA.out, Lib.hid HQ.out, Lib.hid HO.out⟩
        case rest =>
          as_aux_lemma =>
            clear e0 e1 e2 e3 e4 HQ HM HB HG HA HL HW HGS HO HX HXO HGB HOB HROW HRD hdat
            rename World => w8
            obtain ⟨s2, M0, M1, p0, p1, u0, u1, I0, I1, O0, O1, HM, HB, HL, HN, HG, HA, HQ, HO⟩ := hcut
            have HRD2 : Hid (s2.t0.rd ≤ 200000 ∧ s2.t1.rd ≤ 200000) := Lib.hid (by have h0 := HL.out.1.a0.rd; have h1 := HL.out.1.a1.rd; have h := HL.out.2; have hk30 := hkb; have : (k + 1) * 5000 ≤ 30 * 5000 := Nat.mul_le_mul_right _ (by omega); omega)
            obtain ⟨kd, sd, m, d, ex, hx⟩ : ∃ k_ s_ m_ d_ e_, nextS s2.t0 s2.c0 0 = ⟨k_, s_, m_, d_, e_⟩ := ⟨_, _, _, _, _, rfl⟩
            have HXE := Lib.hid hx
            have HE := Lib.hid fun w1 (f : Fr [] w8 w1) => hx ▸ sp_next0 (HM.out.sp.keep0 f) (by have := HRD2.out; omega)
            have HOX := Lib.hid fun w1 (f : Fr [] w8 w1) => HN.out.1 ▸ sp_next1 (HM.out.sp.keep0 f) (by have := HRD2.out; omega)
            obtain ⟨e0, e1, e2, e3, e4⟩ := WBcells5 HQ.out
            clear hx
            go_wp2_with fail
            refine (HE.out _ (Fr.refl _ _)).mono ?_
            rintro e w9 ⟨v, rfl, f9, uu, rfl, ou⟩
            obtain ⟨g, j, rfl, _, _, gs, _⟩ := ou.formB
            clear ou HE e0 e1 e2 e3 e4
            obtain ⟨wa, hwa, fa, qa⟩ : ∃ W, w9.alloc (.cells #[.int .i64 kd, .int .i64 sd, .int .i64 m, .slice g d.length j, .int .i64 ex] 32) = W ∧ Fr [] w9 W ∧ W.heap[w9.heap.size]? = some (.cells #[.int .i64 kd, .int .i64 sd, .int .i64 m, .slice g d.length j, .int .i64 ex] 32 (0, 0)) := ⟨_, rfl, (Fr.refl _ _).alloc _, newA rfl⟩
            have ga := f9.then0 fa
            have gsa := sl_keep gs fa (by simp)
            clear gs f9 fa
            obtain ⟨e0, e1, e2, e3, e4⟩ := WBcells5 (ga.keep HQ.out (by simp))
            have hq1 := lt_of_heap qa
            go_wp2_with fail
            refine (HOX.out _ ga).mono ?_
            rintro e wb ⟨v, rfl, fb, uu, rfl, ou⟩
            obtain ⟨h, j2, rfl, _, _, hs, _⟩ := ou.formB
            clear ou HOX e0 e1 e2 e3 e4
            obtain ⟨wc, hwc, fc, qc⟩ : ∃ W, wb.alloc (.cells #[.int .i64 kdo, .int .i64 sdo, .int .i64 mo, .slice h do_.length j2, .int .i64 exo] 32) = W ∧ Fr [] wb W ∧ W.heap[wb.heap.size]? = some (.cells #[.int .i64 kdo, .int .i64 sdo, .int .i64 mo, .slice h do_.length j2, .int .i64 exo] 32 (0, 0)) := ⟨_, rfl, (Fr.refl _ _).alloc _, newA rfl⟩
            have gac := fb.then0 fc
            have g8c := ga.then0 gac
            have qac := gac.keep qa (by simp)
            have hsc := sl_keep hs fc (by simp)
            generalize hNB : w9.heap.size = NB at *
            generalize hSB : wb.heap.size = SB at *
            obtain ⟨z0, z1, z2, z3, z4⟩ := HB.out.q0 |> fun _ => (⟨trivial, trivial, trivial, trivial, trivial⟩ : True ∧ True ∧ True ∧ True ∧ True)
            clear z0 z1 z2 z3 z4
            obtain ⟨a0, a1, rfl, hbc0, bs0, _, _⟩ := Ow.formC HM.out.r0
            obtain ⟨a4, a5, rfl, hbc4, rs0, _, _⟩ := Ow.formC HM.out.r2
            have hT := HL.out.1.tail0
            have HC8 := Lib.hid (And.intro (HM.out.keep0 g8c) (And.intro (HB.out.keep0 g8c) (And.intro (HG.out.then0 g8c) (HA.out.keep g8c HG.out.size (by simp)))))
            have HQc := Lib.hid (g8c.keep HQ.out (by simp))
            have HOc := Lib.hid (And.intro (g8c.keep HO.out.1 (by simp)) (sl_keep HO.out.2 g8c (by simp)))
            have HNc := Lib.hid qac
            have HSc := Lib.hid (And.intro qc hsc)
            clear hwa ga gsa qa fb fc qc hs gac g8c qac hsc hq1 hNB
            have rsc : Sl wc a4 (bi O0) := Ow.slC HC8.out.1.r2
            have bsc : Sl wc a0 (bi I0) := Ow.slC HC8.out.1.r0
            have HFA := Lib.hid fun (w' : World) (f : Fr [] wc w') => (show w'.cell? ⟨X, 1, none⟩ = some (.int .i64 0) ∧ w'.cell? ⟨Q, 0, none⟩ = some (.slice a0 I0.length a1) ∧ w'.cell? ⟨Q + 1, 0, none⟩ = some (.slice a4 O0.length a5) ∧ w'.cell? ⟨OB, 0, none⟩ = some (.int .i64 kdo) ∧ w'.cell? ⟨OB, 1, none⟩ = some (.int .i64 sdo) ∧ w'.cell? ⟨OB, 2, none⟩ = some (.int .i64 mo) ∧ w'.cell? ⟨OB, 3, none⟩ = some (.slice go_ do_.length jo) ∧ w'.cell? ⟨OB, 4, none⟩ = some (.int .i64 exo) ∧ w'.cell? ⟨SB, 0, none⟩ = some (.int .i64 kdo) ∧ w'.cell? ⟨SB, 1, none⟩ = some (.int .i64 sdo) ∧ w'.cell? ⟨SB, 2, none⟩ = some (.int .i64 mo) ∧ w'.cell? ⟨SB, 3, none⟩ = some (.slice h do_.length j2) ∧ w'.cell? ⟨SB, 4, none⟩ = some (.int .i64 exo) ∧ (∀ cp, (convert 22 9 (.slice a4 O0.length cp)).run Try.prog w' = .ok (.string (st O0)) w') ∧ (∀ cp, (convert 22 9 (.slice a0 O0.length cp)).run Try.prog w' = .ok (.string (st O0)) w') ∧ (Instr.slice 22 (.slice a0 I0.length a1) none (some (.int .i64 O0.length)) none).run Try.prog w' = .ok (.slice a0 O0.length a1) w' from ⟨cell_of (f.keep HQc.out (by simp)), cell_of (f.keep HC8.out.2.1.q0 (by simp)), cell_of (f.keep HC8.out.2.1.q1 (by simp)), cell_of (f.keep HOc.out.1 (by simp)), cell_of (f.keep HOc.out.1 (by simp)), cell_of (f.keep HOc.out.1 (by simp)), cell_of (f.keep HOc.out.1 (by simp)), cell_of (f.keep HOc.out.1 (by simp)), cell_of (f.keep HSc.out.1 (by simp)), cell_of (f.keep HSc.out.1 (by simp)), cell_of (f.keep HSc.out.1 (by simp)), cell_of (f.keep HSc.out.1 (by simp)), cell_of (f.keep HSc.out.1 (by simp)), fun cp => conv_st (cap := cp) (sl_keep rsc f (by simp)) rfl, fun cp => by have h := conv_st (a := a0) (l := I0.take O0.length) (len := O0.length) (cap := cp) (w := w') (by rw [bi_take]; exact (sl_keep bsc f (by simp)).takeB _) (by rw [List.length_take]; omega); rw [hT.2.1] at h; exact h, run_upto hT.1 hbc0 w'⟩)
            have hx1 : ¬ ((I0.length : Int) < (O0.length : Int)) := by have := hT.1; omega
            have hx1n : ¬ (I0.length < O0.length) := by have := hT.1; omega
            have hst := st_self22 O0
            have HES := Lib.hid (Go.Proofs.enters_of Try.func40 (by kernel_rfl) rfl)
            have HT := Lib.hid hT
            clear rsc bsc bs0 rs0 hT
            go_wp2_with fail
            try rw [hSB]
            clear hwc hSB
            have fd : Fr [] wc wc.drew := (Fr.refl _ _).drew
            refine wp_region_order [(0, true), (1, true), (2, true), (3, true), (4, true), (5, true), (6, true), (7, true), (8, true), (9, false), (10, true), (11, true), (12, true), (13, true), (14, true), (15, true), (16, true), (17, true), (18, true), (19, true), (20, true), (21, true), (22, true), (23, true), (24, true), (25, true), (26, true), (27, true), (28, true), (29, true), (30, true), (31, true), (32, true), (33, true), (34, true), (35, true), (36, true), (37, true), (38, true), (39, true), (40, true), (41, true), (42, true), (43, true)] (fun w' => Fr [] wc w') (by kernel_rfl) (by kernel_rfl) fd ?_
            intro OPS HOPS
            have hops := HOPS.out
            try simp only [List.append_eq, List.cons_append, List.nil_append] at hops
            replace HOPS := Lib.hid hops
            clear hops
            refine walkO_take (o := _) (v := ?_) (by rw [HOPS.out]; simp only [List.getElem?_toArray, List.getElem?_cons_succ, List.getElem?_cons_zero]; exact rfl) (Or.inl ⟨rfl, ?_⟩) ?_
            rotate_left
            · (intro w hSw; have hSx := HFA.out _ hSw; (try dsimp only at hSx); clear hSw; go_simp) <;> (with_reducible rfl)
            simp only [Act.put, List.setIfInBounds_toArray, List.set_cons_zero, List.set_cons_succ]
            refine walkO_take (o := _) (v := ?_) (by rw [HOPS.out]; simp only [List.getElem?_toArray, List.getElem?_cons_succ, List.getElem?_cons_zero]; exact rfl) (Or.inl ⟨rfl, ?_⟩) ?_
            rotate_left
            · (intro w hSw; have hSx := HFA.out _ hSw; (try dsimp only at hSx); clear hSw; go_simp) <;> (with_reducible rfl)
            simp only [Act.put, List.setIfInBounds_toArray, List.set_cons_zero, List.set_cons_succ]
            refine walkO_take (o := _) (v := ?_) (by rw [HOPS.out]; simp only [List.getElem?_toArray, List.getElem?_cons_succ, List.getElem?_cons_zero]; exact rfl) (Or.inl ⟨rfl, ?_⟩) ?_
            rotate_left
            · (intro w hSw; have hSx := HFA.out _ hSw; (try dsimp only at hSx); clear hSw; go_simp) <;> (with_reducible rfl)
            simp only [Act.put, List.setIfInBounds_toArray, List.set_cons_zero, List.set_cons_succ]
            refine walkO_take (o := _) (v := ?_) (by rw [HOPS.out]; simp only [List.getElem?_toArray, List.getElem?_cons_succ, List.getElem?_cons_zero]; exact rfl) (Or.inl ⟨by rw [HOPS.out]; rfl, ?_⟩) ?_
            rotate_left
            · (intro w hSw; have hSx := HFA.out _ hSw; (try dsimp only at hSx); clear hSw; go_simp) <;> (with_reducible rfl)
            simp only [Act.put, List.setIfInBounds_toArray, List.set_cons_zero, List.set_cons_succ]
            refine walkO_take (o := _) (v := ?_) (by rw [HOPS.out]; simp only [List.getElem?_toArray, List.getElem?_cons_succ, List.getElem?_cons_zero]; exact rfl) (Or.inl ⟨by rw [HOPS.out]; rfl, ?_⟩) ?_
            rotate_left
            · (intro w hSw; have hSx := HFA.out _ hSw; (try dsimp only at hSx); clear hSw; go_simp) <;> (with_reducible rfl)
            simp only [Act.put, List.setIfInBounds_toArray, List.set_cons_zero, List.set_cons_succ]
            refine walkO_take (o := _) (v := ?_) (by rw [HOPS.out]; simp only [List.getElem?_toArray, List.getElem?_cons_succ, List.getElem?_cons_zero]; exact rfl) (Or.inl ⟨rfl, ?_⟩) ?_
            rotate_left
            · (intro w hSw; have hSx := HFA.out _ hSw; (try dsimp only at hSx); clear hSw; go_simp) <;> (with_reducible rfl)
            simp only [Act.put, List.setIfInBounds_toArray, List.set_cons_zero, List.set_cons_succ]
            refine walkO_take (o := _) (v := ?_) (by rw [HOPS.out]; simp only [List.getElem?_toArray, List.getElem?_cons_succ, List.getElem?_cons_zero]; exact rfl) (Or.inl ⟨rfl, ?_⟩) ?_
            rotate_left
            · (intro w hSw; have hSx := HFA.out _ hSw; (try dsimp only at hSx); clear hSw; go_simp) <;> (with_reducible rfl)
            simp only [Act.put, List.setIfInBounds_toArray, List.set_cons_zero, List.set_cons_succ]
            refine walkO_take (o := _) (v := ?_) (by rw [HOPS.out]; simp only [List.getElem?_toArray, List.getElem?_cons_succ, List.getElem?_cons_zero]; exact rfl) (Or.inl ⟨by rw [HOPS.out]; rfl, ?_⟩) ?_
            rotate_left
            · (intro w hSw; have hSx := HFA.out _ hSw; (try dsimp only at hSx); clear hSw; go_simp) <;> (with_reducible rfl)
            simp only [Act.put, List.setIfInBounds_toArray, List.set_cons_zero, List.set_cons_succ]
            refine walkO_take (o := _) (v := ?_) (by rw [HOPS.out]; simp only [List.getElem?_toArray, List.getElem?_cons_succ, List.getElem?_cons_zero]; exact rfl) (Or.inl ⟨by rw [HOPS.out]; rfl, ?_⟩) ?_
            rotate_left
            · (intro w hSw; have hSx := HFA.out _ hSw; (try dsimp only at hSx); clear hSw; go_simp) <;> (with_reducible rfl)
            simp only [Act.put, List.setIfInBounds_toArray, List.set_cons_zero, List.set_cons_succ]
            refine walkO_call (o := _) (by rw [HOPS.out]; simp only [List.getElem?_toArray, List.getElem?_cons_succ, List.getElem?_cons_zero]; exact rfl) (fun K HK => ?_)
            refine step_call (by rw [HOPS.out]; rfl) 40 #[(.tmp 160), (.tmp 161)] #[32, 32] rfl HES.out #[.agg #[.int .i64 kdo, .int .i64 sdo, .int .i64 mo, .slice go_ do_.length jo, .int .i64 exo], .agg #[.int .i64 kdo, .int .i64 sdo, .int .i64 mo, .slice h do_.length j2, .int .i64 exo]] (by simp [Act.eval]) (same_yes (x := ⟨kdo, sdo, mo, do_, exo⟩) ⟨_, _, rfl, sl_keep HOc.out.2 fd (by simp)⟩ ⟨_, _, rfl, sl_keep HSc.out.2 fd (by simp)⟩) ?_
            rintro e wd ⟨rfl, fs⟩
            have gd := fd.then0 fs
            refine ⟨_, rfl, ?_⟩
            refine HK.out (fun w' => Fr [] wc w') _ _ (fun _ h => h) (gd) ?_
            clear HK K
            simp only [Act.put, List.setIfInBounds_toArray, List.set_cons_zero, List.set_cons_succ]
            refine walkO_take (o := _) (v := ?_) (by rw [HOPS.out]; simp only [List.getElem?_toArray, List.getElem?_cons_succ, List.getElem?_cons_zero]; exact rfl) (Or.inl ⟨by rw [HOPS.out]; rfl, ?_⟩) ?_
            rotate_left
            · (intro w hSw; have hSx := HFA.out _ hSw; (try dsimp only at hSx); clear hSw; go_simp) <;> (with_reducible rfl)
            simp only [Act.put, List.setIfInBounds_toArray, List.set_cons_zero, List.set_cons_succ]
            refine walkO_take (o := _) (v := ?_) (by rw [HOPS.out]; simp only [List.getElem?_toArray, List.getElem?_cons_succ, List.getElem?_cons_zero]; exact rfl) (Or.inl ⟨rfl, ?_⟩) ?_
            rotate_left
            · (intro w hSw; have hSx := HFA.out _ hSw; (try dsimp only at hSx); clear hSw; go_simp) <;> (with_reducible rfl)
            simp only [Act.put, List.setIfInBounds_toArray, List.set_cons_zero, List.set_cons_succ]
            refine walkO_take (o := _) (v := ?_) (by rw [HOPS.out]; simp only [List.getElem?_toArray, List.getElem?_cons_succ, List.getElem?_cons_zero]; exact rfl) (Or.inl ⟨rfl, ?_⟩) ?_
            rotate_left
            · (intro w hSw; have hSx := HFA.out _ hSw; (try dsimp only at hSx); clear hSw; go_simp) <;> (with_reducible rfl)
            simp only [Act.put, List.setIfInBounds_toArray, List.set_cons_zero, List.set_cons_succ]
            refine walkO_take (o := _) (v := ?_) (by rw [HOPS.out]; simp only [List.getElem?_toArray, List.getElem?_cons_succ, List.getElem?_cons_zero]; exact rfl) (Or.inl ⟨by rw [HOPS.out]; rfl, ?_⟩) ?_
            rotate_left
            · (intro w hSw; have hSx := HFA.out _ hSw; (try dsimp only at hSx); clear hSw; go_simp) <;> (with_reducible rfl)
            simp only [Act.put, List.setIfInBounds_toArray, List.set_cons_zero, List.set_cons_succ]
            refine walkO_take (o := _) (v := ?_) (by rw [HOPS.out]; simp only [List.getElem?_toArray, List.getElem?_cons_succ, List.getElem?_cons_zero]; exact rfl) (Or.inl ⟨by rw [HOPS.out]; rfl, ?_⟩) ?_
            rotate_left
            · (intro w hSw; have hSx := HFA.out _ hSw; (try dsimp only at hSx); clear hSw; go_simp) <;> (with_reducible rfl)
            simp only [Act.put, List.setIfInBounds_toArray, List.set_cons_zero, List.set_cons_succ]
            refine walkO_take (o := _) (v := ?_) (by rw [HOPS.out]; simp only [List.getElem?_toArray, List.getElem?_cons_succ, List.getElem?_cons_zero]; exact rfl) (Or.inl ⟨by rw [HOPS.out]; rfl, ?_⟩) ?_
            rotate_left
            · (intro w hSw; have hSx := HFA.out _ hSw; (try dsimp only at hSx); clear hSw; go_simp) <;> (with_reducible rfl)
            simp only [Act.put, List.setIfInBounds_toArray, List.set_cons_zero, List.set_cons_succ]
            refine walkO_take (o := _) (v := ?_) (by rw [HOPS.out]; simp only [List.getElem?_toArray, List.getElem?_cons_succ, List.getElem?_cons_zero]; exact rfl) (Or.inl ⟨by rw [HOPS.out]; rfl, ?_⟩) ?_
            rotate_left
            · (intro w hSw; have hSx := HFA.out _ hSw; (try dsimp only at hSx); clear hSw; go_simp) <;> (with_reducible rfl)
            simp only [Act.put, List.setIfInBounds_toArray, List.set_cons_zero, List.set_cons_succ]
            refine walkO_take (o := _) (v := ?_) (by rw [HOPS.out]; simp only [List.getElem?_toArray, List.getElem?_cons_succ, List.getElem?_cons_zero]; exact rfl) (Or.inl ⟨by rw [HOPS.out]; rfl, ?_⟩) ?_
            rotate_left
            · (intro w hSw; have hSx := HFA.out _ hSw; (try dsimp only at hSx); clear hSw; go_simp) <;> (with_reducible rfl)
            simp only [Act.put, List.setIfInBounds_toArray, List.set_cons_zero, List.set_cons_succ]
            refine walkO_take (o := _) (v := ?_) (by rw [HOPS.out]; simp only [List.getElem?_toArray, List.getElem?_cons_succ, List.getElem?_cons_zero]; exact rfl) (Or.inl ⟨by rw [HOPS.out]; rfl, ?_⟩) ?_
            rotate_left
            · (intro w hSw; have hSx := HFA.out _ hSw; (try dsimp only at hSx); clear hSw; go_simp) <;> (with_reducible rfl)
            simp only [Act.put, List.setIfInBounds_toArray, List.set_cons_zero, List.set_cons_succ]
            refine walkO_take (o := _) (v := ?_) (by rw [HOPS.out]; simp only [List.getElem?_toArray, List.getElem?_cons_succ, List.getElem?_cons_zero]; exact rfl) (Or.inl ⟨by rw [HOPS.out]; rfl, ?_⟩) ?_
            rotate_left
            · (intro w hSw; have hSx := HFA.out _ hSw; (try dsimp only at hSx); clear hSw; go_simp) <;> (with_reducible rfl)
            simp only [Act.put, List.setIfInBounds_toArray, List.set_cons_zero, List.set_cons_succ]
            refine walkO_take (o := _) (v := ?_) (by rw [HOPS.out]; simp only [List.getElem?_toArray, List.getElem?_cons_succ, List.getElem?_cons_zero]; exact rfl) (Or.inl ⟨by rw [HOPS.out]; rfl, ?_⟩) ?_
            rotate_left
            · (intro w hSw; have hSx := HFA.out _ hSw; (try dsimp only at hSx); clear hSw; go_simp) <;> (with_reducible rfl)
            simp only [Act.put, List.setIfInBounds_toArray, List.set_cons_zero, List.set_cons_succ]
            refine walkO_take (o := _) (v := ?_) (by rw [HOPS.out]; simp only [List.getElem?_toArray, List.getElem?_cons_succ, List.getElem?_cons_zero]; exact rfl) (Or.inl ⟨by rw [HOPS.out]; rfl, ?_⟩) ?_
            rotate_left
            · (intro w hSw; have hSx := HFA.out _ hSw; (try dsimp only at hSx); clear hSw; go_simp) <;> (with_reducible rfl)
            simp only [Act.put, List.setIfInBounds_toArray, List.set_cons_zero, List.set_cons_succ]
            refine walkO_take (o := _) (v := ?_) (by rw [HOPS.out]; simp only [List.getElem?_toArray, List.getElem?_cons_succ, List.getElem?_cons_zero]; exact rfl) (Or.inl ⟨by rw [HOPS.out]; rfl, ?_⟩) ?_
            rotate_left
            · (intro w hSw; have hSx := HFA.out _ hSw; (try dsimp only at hSx); clear hSw; go_simp) <;> (with_reducible rfl)
            simp only [Act.put, List.setIfInBounds_toArray, List.set_cons_zero, List.set_cons_succ]
            refine walkO_take (o := _) (v := ?_) (by rw [HOPS.out]; simp only [List.getElem?_toArray, List.getElem?_cons_succ, List.getElem?_cons_zero]; exact rfl) (Or.inl ⟨by rw [HOPS.out]; rfl, ?_⟩) ?_
            rotate_left
            · (intro w hSw; have hSx := HFA.out _ hSw; (try dsimp only at hSx); clear hSw; go_simp) <;> (with_reducible rfl)
            simp only [Act.put, List.setIfInBounds_toArray, List.set_cons_zero, List.set_cons_succ]
            refine walkO_take (o := _) (v := ?_) (by rw [HOPS.out]; simp only [List.getElem?_toArray, List.getElem?_cons_succ, List.getElem?_cons_zero]; exact rfl) (Or.inl ⟨rfl, ?_⟩) ?_
            rotate_left
            · (intro w hSw; have hSx := HFA.out _ hSw; (try dsimp only at hSx); clear hSw; go_simp) <;> (with_reducible rfl)
            simp only [Act.put, List.setIfInBounds_toArray, List.set_cons_zero, List.set_cons_succ]
            refine walkO_take (o := _) (v := ?_) (by rw [HOPS.out]; simp only [List.getElem?_toArray, List.getElem?_cons_succ, List.getElem?_cons_zero]; exact rfl) (Or.inl ⟨rfl, ?_⟩) ?_
            rotate_left
            · (intro w hSw; have hSx := HFA.out _ hSw; (try dsimp only at hSx); clear hSw; go_simp) <;> (with_reducible rfl)
            simp only [Act.put, List.setIfInBounds_toArray, List.set_cons_zero, List.set_cons_succ]
            refine walkO_take (o := _) (v := ?_) (by rw [HOPS.out]; simp only [List.getElem?_toArray, List.getElem?_cons_succ, List.getElem?_cons_zero]; exact rfl) (Or.inl ⟨by rw [HOPS.out]; rfl, ?_⟩) ?_
            rotate_left
            · (intro w hSw; have hSx := HFA.out _ hSw; (try dsimp only at hSx); clear hSw; go_simp) <;> (with_reducible rfl)
            simp only [Act.put, List.setIfInBounds_toArray, List.set_cons_zero, List.set_cons_succ]
            refine walkO_take (o := _) (v := ?_) (by rw [HOPS.out]; simp only [List.getElem?_toArray, List.getElem?_cons_succ, List.getElem?_cons_zero]; exact rfl) (Or.inl ⟨by rw [HOPS.out]; rfl, ?_⟩) ?_
            rotate_left
            · (intro w hSw; have hSx := HFA.out _ hSw; (try dsimp only at hSx); clear hSw; go_simp) <;> (with_reducible rfl)
            simp only [Act.put, List.setIfInBounds_toArray, List.set_cons_zero, List.set_cons_succ]
            refine walkO_take (o := _) (v := ?_) (by rw [HOPS.out]; simp only [List.getElem?_toArray, List.getElem?_cons_succ, List.getElem?_cons_zero]; exact rfl) (Or.inl ⟨by rw [HOPS.out]; rfl, ?_⟩) ?_
            rotate_left
            · (intro w hSw; have hSx := HFA.out _ hSw; (try dsimp only at hSx); clear hSw; go_simp) <;> (with_reducible rfl)
            simp only [Act.put, List.setIfInBounds_toArray, List.set_cons_zero, List.set_cons_succ]
            refine walkO_take (o := _) (v := ?_) (by rw [HOPS.out]; simp only [List.getElem?_toArray, List.getElem?_cons_succ, List.getElem?_cons_zero]; exact rfl) (Or.inl ⟨by rw [HOPS.out]; rfl, ?_⟩) ?_
            rotate_left
            · (intro w hSw; have hSx := HFA.out _ hSw; (try dsimp only at hSx); clear hSw; go_simp) <;> (with_reducible rfl)
            simp only [Act.put, List.setIfInBounds_toArray, List.set_cons_zero, List.set_cons_succ]
            refine walkO_take (o := _) (v := ?_) (by rw [HOPS.out]; simp only [List.getElem?_toArray, List.getElem?_cons_succ, List.getElem?_cons_zero]; exact rfl) (Or.inl ⟨by rw [HOPS.out]; rfl, ?_⟩) ?_
            rotate_left
            · (intro w hSw; have hSx := HFA.out _ hSw; (try dsimp only at hSx); clear hSw; go_simp) <;> (with_reducible rfl)
            simp only [Act.put, List.setIfInBounds_toArray, List.set_cons_zero, List.set_cons_succ]
            refine walkO_take (o := _) (v := ?_) (by rw [HOPS.out]; simp only [List.getElem?_toArray, List.getElem?_cons_succ, List.getElem?_cons_zero]; exact rfl) (Or.inl ⟨by rw [HOPS.out]; rfl, ?_⟩) ?_
            rotate_left
            · (intro w hSw; have hSx := HFA.out _ hSw; (try dsimp only at hSx); clear hSw; go_simp) <;> (with_reducible rfl)
            simp only [Act.put, List.setIfInBounds_toArray, List.set_cons_zero, List.set_cons_succ]
            refine walkO_take (o := _) (v := ?_) (by rw [HOPS.out]; simp only [List.getElem?_toArray, List.getElem?_cons_succ, List.getElem?_cons_zero]; exact rfl) (Or.inl ⟨by rw [HOPS.out]; rfl, ?_⟩) ?_
            rotate_left
            · (intro w hSw; have hSx := HFA.out _ hSw; (try dsimp only at hSx); clear hSw; go_simp) <;> (with_reducible rfl)
            simp only [Act.put, List.setIfInBounds_toArray, List.set_cons_zero, List.set_cons_succ]
            refine walkO_take (o := _) (v := ?_) (by rw [HOPS.out]; simp only [List.getElem?_toArray, List.getElem?_cons_succ, List.getElem?_cons_zero]; exact rfl) (Or.inl ⟨by rw [HOPS.out]; rfl, ?_⟩) ?_
            rotate_left
            · (intro w hSw; have hSx := HFA.out _ hSw; (try dsimp only at hSx); clear hSw; go_simp) <;> (with_reducible rfl)
            simp only [Act.put, List.setIfInBounds_toArray, List.set_cons_zero, List.set_cons_succ]
            refine walkO_take (o := _) (v := ?_) (by rw [HOPS.out]; simp only [List.getElem?_toArray, List.getElem?_cons_succ, List.getElem?_cons_zero]; exact rfl) (Or.inl ⟨by rw [HOPS.out]; rfl, ?_⟩) ?_
            rotate_left
            · (intro w hSw; have hSx := HFA.out _ hSw; (try dsimp only at hSx); clear hSw; go_simp) <;> (with_reducible rfl)
            simp only [Act.put, List.setIfInBounds_toArray, List.set_cons_zero, List.set_cons_succ]
            refine walkO_take (o := _) (v := ?_) (by rw [HOPS.out]; simp only [List.getElem?_toArray, List.getElem?_cons_succ, List.getElem?_cons_zero]; exact rfl) (Or.inl ⟨by rw [HOPS.out]; rfl, ?_⟩) ?_
            rotate_left
            · (intro w hSw; have hSx := HFA.out _ hSw; (try dsimp only at hSx); clear hSw; go_simp) <;> (with_reducible rfl)
            simp only [Act.put, List.setIfInBounds_toArray, List.set_cons_zero, List.set_cons_succ]
            refine walkO_take (o := _) (v := ?_) (by rw [HOPS.out]; simp only [List.getElem?_toArray, List.getElem?_cons_succ, List.getElem?_cons_zero]; exact rfl) (Or.inl ⟨by rw [HOPS.out]; rfl, ?_⟩) ?_
            rotate_left
            · (intro w hSw; have hSx := HFA.out _ hSw; (try dsimp only at hSx); clear hSw; go_simp) <;> (with_reducible rfl)
            simp only [Act.put, List.setIfInBounds_toArray, List.set_cons_zero, List.set_cons_succ]
            refine walkO_take (o := _) (v := ?_) (by rw [HOPS.out]; simp only [List.getElem?_toArray, List.getElem?_cons_succ, List.getElem?_cons_zero]; exact rfl) (Or.inl ⟨by rw [HOPS.out]; rfl, ?_⟩) ?_
            rotate_left
            · (intro w hSw; have hSx := HFA.out _ hSw; (try dsimp only at hSx); clear hSw; go_simp) <;> (with_reducible rfl)
            simp only [Act.put, List.setIfInBounds_toArray, List.set_cons_zero, List.set_cons_succ]
            refine walkO_take (o := _) (v := ?_) (by rw [HOPS.out]; simp only [List.getElem?_toArray, List.getElem?_cons_succ, List.getElem?_cons_zero]; exact rfl) (Or.inl ⟨by rw [HOPS.out]; rfl, ?_⟩) ?_
            rotate_left
            · (intro w hSw; have hSx := HFA.out _ hSw; (try dsimp only at hSx); clear hSw; go_simp) <;> (with_reducible rfl)
            simp only [Act.put, List.setIfInBounds_toArray, List.set_cons_zero, List.set_cons_succ]
            refine walkO_take (o := _) (v := ?_) (by rw [HOPS.out]; simp only [List.getElem?_toArray, List.getElem?_cons_succ, List.getElem?_cons_zero]; exact rfl) (Or.inl ⟨by rw [HOPS.out]; rfl, ?_⟩) ?_
            rotate_left
            · (intro w hSw; have hSx := HFA.out _ hSw; (try dsimp only at hSx); clear hSw; go_simp) <;> (with_reducible rfl)
            simp only [Act.put, List.setIfInBounds_toArray, List.set_cons_zero, List.set_cons_succ]
            refine walkO_take (o := _) (v := ?_) (by rw [HOPS.out]; simp only [List.getElem?_toArray, List.getElem?_cons_succ, List.getElem?_cons_zero]; exact rfl) (Or.inl ⟨by rw [HOPS.out]; rfl, ?_⟩) ?_
            rotate_left
            · (intro w hSw; have hSx := HFA.out _ hSw; (try dsimp only at hSx); clear hSw; go_simp) <;> (with_reducible rfl)
            simp only [Act.put, List.setIfInBounds_toArray, List.set_cons_zero, List.set_cons_succ]
            refine walkO_take (o := _) (v := ?_) (by rw [HOPS.out]; simp only [List.getElem?_toArray, List.getElem?_cons_succ, List.getElem?_cons_zero]; exact rfl) (Or.inl ⟨by rw [HOPS.out]; rfl, ?_⟩) ?_
            rotate_left
            · (intro w hSw; have hSx := HFA.out _ hSw; (try dsimp only at hSx); clear hSw; go_simp) <;> (with_reducible rfl)
            simp only [Act.put, List.setIfInBounds_toArray, List.set_cons_zero, List.set_cons_succ]
            refine walkO_take (o := _) (v := ?_) (by rw [HOPS.out]; simp only [List.getElem?_toArray, List.getElem?_cons_succ, List.getElem?_cons_zero]; exact rfl) (Or.inl ⟨by rw [HOPS.out]; rfl, ?_⟩) ?_
            rotate_left
            · (intro w hSw; have hSx := HFA.out _ hSw; (try dsimp only at hSx); clear hSw; go_simp) <;> (with_reducible rfl)
            simp only [Act.put, List.setIfInBounds_toArray, List.set_cons_zero, List.set_cons_succ]
            refine walkO_take (o := _) (v := ?_) (by rw [HOPS.out]; simp only [List.getElem?_toArray, List.getElem?_cons_succ, List.getElem?_cons_zero]; exact rfl) (Or.inl ⟨rfl, ?_⟩) ?_
            rotate_left
            · (intro w hSw; have hSx := HFA.out _ hSw; (try dsimp only at hSx); clear hSw; go_simp) <;> (with_reducible rfl)
            simp only [Act.put, List.setIfInBounds_toArray, List.set_cons_zero, List.set_cons_succ]
            refine walkO_done ?_
            clear HOPS OPS
            have HF := Lib.hid gd
            clear fs fd gd HFA HES hst
            go_wp2_with fail
            have HK := Lib.hid fun w' (f : Fr [] wc w') => (show (w'.cell? ⟨X, 1, none⟩ = some (.int .i64 0) ∧ w'.cell? ⟨Q, 0, none⟩ = some (.slice a0 I0.length a1) ∧ w'.cell? ⟨Q + 1, 0, none⟩ = some (.slice a4 O0.length a5)) ∧ (w'.cell? ⟨NB, 0, none⟩ = some (.int .i64 kd) ∧ w'.cell? ⟨NB, 4, none⟩ = some (.int .i64 ex)) ∧ w'.cell? ⟨SB, 0, none⟩ = some (.int .i64 kdo) from ⟨⟨cell_of (f.keep HQc.out (by simp)), cell_of (f.keep HC8.out.2.1.q0 (by simp)), cell_of (f.keep HC8.out.2.1.q1 (by simp))⟩, ⟨cell_of (f.keep HNc.out (by simp)), cell_of (f.keep HNc.out (by simp))⟩, cell_of (f.keep HSc.out.1 (by simp))⟩)
            obtain ⟨⟨c1, c2, c3⟩, ⟨c4, c5⟩, c6⟩ := HK.out _ HF.out
            have hk3 := HT.out.2.2
            rw [HXE.out] at hk3
            have HK3 := Lib.hid hk3
            clear hk3
            go_cut [212] (fun v wx => v = .bool false ∧ Fr [] wc wx)
            case first =>
              as_aux_lemma =>
                by_cases h3 : kd = 3
                · subst h3
                  have hle := HK3.out rfl
                  have hne : ((I0.length : Int) != (O0.length : Int)) = false := by rw [hle]; simp
                  clear hle
                  go_wp2_with fail
                  go_quiet (fail)
                  have fx := HF.out.then0 ((Fr.refl [] wd).drewN nq)
                  go_wp2_with fail
                  go_meet
                  exact ⟨rfl, fx⟩
                · have h3b : (kd == 3) = false := by simpa using h3
                  go_wp2_with fail
                  go_quiet (fail)
                  have fx := HF.out.then0 ((Fr.refl [] wd).drewN nq)
                  go_wp2_with fail
                  go_meet
                  exact ⟨rfl, fx⟩
            case rest =>
              clear c1 c2 c3 c4 c5 c6
              obtain ⟨rfl, hcut⟩ := hcut
              rename World => we
              have HF2 := Lib.hid hcut
              clear hcut
              obtain ⟨⟨c1, c2, c3⟩, ⟨c4, c5⟩, c6⟩ := HK.out _ HF2.out
              have hfs : s2.first = noteF s.first ⟨kd, sd, m, d, ex⟩ := by have h := HN.out.2; rw [HXE.out] at h; exact h
              unfold noteF at hfs
              have HFS := Lib.hid hfs
              clear hfs
              by_cases h4 : kd = 4
              · subst h4
                by_cases hf0 : s.first = 0
                · have HE1 : Hid (s2.first = ex) := Lib.hid (by have h := HFS.out; rw [if_pos ⟨rfl, hf0⟩] at h; exact h)
                  have hfb : (s.first == 0) = true := by simpa using hf0
                  clear hf0 HFS
                  by_cases h5 : kdo = 4
                  · subst h5
                    have HDN := Lib.hid (done22 (done_sp (d := true) (HC8.out.1.sp.keep0 HF2.out) (by have := HRD2.out; omega) (by have := HRD2.out; omega) (by rw [HXE.out, HN.out.1]; simp)))
                    rw [HE1.out] at HDN
                    go_wp2_with fail
                    refine HDN.out.mono ?_
                    rintro e wf ⟨rfl, ff⟩
                    have HFF := Lib.hid (HF2.out.then0 ff)
                    clear ff HDN c1 c2 c3 c4 c5 c6
                    go_wp2_with fail
                    go_roundw
                    case rel => exact ⟨k + 1, s2, M0, M1, _, _, _, _, I0, I1, O0, O1, by omega, (by rw [HE1.out]), by go_num, Lib.hid (HC8.out.1.keep0 HFF.out), Lib.hid (HC8.out.2.1.keep0 HFF.out), HL, Lib.hid (HC8.out.2.2.1.then0 HFF.out), Lib.hid (HC8.out.2.2.2.keep HFF.out HC8.out.2.2.1.size (by simp))⟩
                    case measure => simp [intOf]; omega
                  · have h5b : (kdo == 4) = false := by simpa using h5
                    have HDN := Lib.hid (done22 (done_sp (d := false) (HC8.out.1.sp.keep0 HF2.out) (by have := HRD2.out; omega) (by have := HRD2.out; omega) (by rw [HXE.out, HN.out.1]; simp [h5])))
                    rw [HE1.out] at HDN
                    go_wp2_with fail
                    refine HDN.out.mono ?_
                    rintro e wf ⟨rfl, ff⟩
                    have HFF := Lib.hid (HF2.out.then0 ff)
                    clear ff HDN c1 c2 c3 c4 c5 c6
                    go_wp2_with fail
                    go_roundw
                    case rel => exact ⟨k + 1, s2, M0, M1, _, _, _, _, I0, I1, O0, O1, by omega, (by rw [HE1.out]), by go_num, Lib.hid (HC8.out.1.keep0 HFF.out), Lib.hid (HC8.out.2.1.keep0 HFF.out), HL, Lib.hid (HC8.out.2.2.1.then0 HFF.out), Lib.hid (HC8.out.2.2.2.keep HFF.out HC8.out.2.2.1.size (by simp))⟩
                    case measure => simp [intOf]; omega
                · have HE1 : Hid (s2.first = s.first) := Lib.hid (by have h := HFS.out; rw [if_neg (fun hh => hf0 hh.2)] at h; exact h)
                  have hfb : (s.first == 0) = false := by simpa using hf0
                  clear hf0 HFS
                  by_cases h5 : kdo = 4
                  · subst h5
                    have HDN := Lib.hid (done22 (done_sp (d := true) (HC8.out.1.sp.keep0 HF2.out) (by have := HRD2.out; omega) (by have := HRD2.out; omega) (by rw [HXE.out, HN.out.1]; simp)))
                    rw [HE1.out] at HDN
                    go_wp2_with fail
                    refine HDN.out.mono ?_
                    rintro e wf ⟨rfl, ff⟩
                    have HFF := Lib.hid (HF2.out.then0 ff)
                    clear ff HDN c1 c2 c3 c4 c5 c6
                    go_wp2_with fail
                    go_roundw
                    case rel => exact ⟨k + 1, s2, M0, M1, _, _, _, _, I0, I1, O0, O1, by omega, (by rw [HE1.out]), by go_num, Lib.hid (HC8.out.1.keep0 HFF.out), Lib.hid (HC8.out.2.1.keep0 HFF.out), HL, Lib.hid (HC8.out.2.2.1.then0 HFF.out), Lib.hid (HC8.out.2.2.2.keep HFF.out HC8.out.2.2.1.size (by simp))⟩
                    case measure => simp [intOf]; omega
                  · have h5b : (kdo == 4) = false := by simpa using h5
                    have HDN := Lib.hid (done22 (done_sp (d := false) (HC8.out.1.sp.keep0 HF2.out) (by have := HRD2.out; omega) (by have := HRD2.out; omega) (by rw [HXE.out, HN.out.1]; simp [h5])))
                    rw [HE1.out] at HDN
                    go_wp2_with fail
                    refine HDN.out.mono ?_
                    rintro e wf ⟨rfl, ff⟩
                    have HFF := Lib.hid (HF2.out.then0 ff)
                    clear ff HDN c1 c2 c3 c4 c5 c6
                    go_wp2_with fail
                    go_roundw
                    case rel => exact ⟨k + 1, s2, M0, M1, _, _, _, _, I0, I1, O0, O1, by omega, (by rw [HE1.out]), by go_num, Lib.hid (HC8.out.1.keep0 HFF.out), Lib.hid (HC8.out.2.1.keep0 HFF.out), HL, Lib.hid (HC8.out.2.2.1.then0 HFF.out), Lib.hid (HC8.out.2.2.2.keep HFF.out HC8.out.2.2.1.size (by simp))⟩
                    case measure => simp [intOf]; omega
              · have HE1 : Hid (s2.first = s.first) := Lib.hid (by have h := HFS.out; rw [if_neg (fun hh => h4 hh.1)] at h; exact h)
                have h4b : (kd == 4) = false := by simpa using h4
                clear HFS
                have HDN := Lib.hid (done22 (done_sp (d := false) (HC8.out.1.sp.keep0 HF2.out) (by have := HRD2.out; omega) (by have := HRD2.out; omega) (by rw [HXE.out, HN.out.1]; simp [h4])))
                rw [HE1.out] at HDN
                go_wp2_with fail
                refine HDN.out.mono ?_
                rintro e wf ⟨rfl, ff⟩
                have HFF := Lib.hid (HF2.out.then0 ff)
                clear ff HDN c1 c2 c3 c4 c5 c6
                go_wp2_with fail
                go_roundw
                case rel => exact ⟨k + 1, s2, M0, M1, _, _, _, _, I0, I1, O0, O1, by omega, (by rw [HE1.out]), by go_num, Lib.hid (HC8.out.1.keep0 HFF.out), Lib.hid (HC8.out.2.1.keep0 HFF.out), HL, Lib.hid (HC8.out.2.2.1.then0 HFF.out), Lib.hid (HC8.out.2.2.2.keep HFF.out HC8.out.2.2.1.size (by simp))⟩
                case measure => simp [intOf]; omega
      · by_cases hf1 : fr = 1
        · subst hf1
          clear habM hf0 HMr HBr HGr HAr
          go_upto_region 12 with fail
          clear i0 i1 i2 i3 i4
          generalize hX : wr.heap.size = X at *
          skip
          have HSD := Lib.hid fun W0 => (show Calls Try.prog 32 #[.int .i64 1] W0 fun e w' => e = .returned (.bool true) ∧ W0 = w' from rs_side W0 1)
          obtain ⟨kd, sd, m, d, ex, hx⟩ : ∃ k_ s_ m_ d_ e_, nextS s.t1 s.c1 1 = ⟨k_, s_, m_, d_, e_⟩ := ⟨_, _, _, _, _, rfl⟩
          obtain ⟨kdo, sdo, mo, do_, exo, hxo⟩ : ∃ k_ s_ m_ d_ e_, nextS s.t0 s.c0 0 = ⟨k_, s_, m_, d_, e_⟩ := ⟨_, _, _, _, _, rfl⟩
          have HX := Lib.hid hx
          have HXO := Lib.hid hxo
          have HE := Lib.hid fun w1 (f : Fr [] w5 w1) => hx ▸ sp_next1 (HM5.out.sp.keep0 f) (by have := HRD.out; omega)
          have HOX := Lib.hid fun w1 (f : Fr [] w5 w1) => hxo ▸ sp_next0 (HM5.out.sp.keep0 f) (by have := HRD.out; omega)
          clear hx hxo
          go_wp2_with fail
          refine (HSD.out _).mono ?_
          rintro e w' ⟨rfl, rfl⟩
          go_wp2_with fail
          refine (HE.out _ (Fr.refl _ _)).mono ?_
          rintro e w6 ⟨v, rfl, f6, uu, rfl, ou⟩
          obtain ⟨g, j, rfl, hgj, _, gs, hgn⟩ := ou.formB
          clear ou HE HSD e0 e1 e2 e3 e4
          obtain ⟨w7, hw7, f7, q7⟩ : ∃ W, w6.alloc (.cells #[.int .i64 kd, .int .i64 sd, .int .i64 m, .slice g d.length j, .int .i64 ex] 32) = W ∧ Fr [] w6 W ∧ W.heap[w6.heap.size]? = some (.cells #[.int .i64 kd, .int .i64 sd, .int .i64 m, .slice g d.length j, .int .i64 ex] 32 (0, 0)) := ⟨_, rfl, (Fr.refl _ _).alloc _, newA rfl⟩
          have g57 := f6.then0 f7
          have gs7 := sl_keep gs f7 (by simp)
          obtain ⟨e0, e1, e2, e3, e4⟩ := WBcells5 (g57.keep HQ5.out (by simp))
          have hz6 := f6.size
          have hq7 := lt_of_heap q7
          clear gs f6 f7
          go_wp2_with fail
          refine (HOX.out _ g57).mono ?_
          rintro e w8 ⟨v, rfl, f8, uu, rfl, ou⟩
          obtain ⟨go_, jo, rfl, hgjo, _, gso, hgno⟩ := ou.formB
          clear ou HOX e0 e1 e2 e3 e4
          obtain ⟨wz, hwz, f9, q9⟩ : ∃ W, w8.alloc (.cells #[.int .i64 kdo, .int .i64 sdo, .int .i64 mo, .slice go_ do_.length jo, .int .i64 exo] 32) = W ∧ Fr [] w8 W ∧ W.heap[w8.heap.size]? = some (.cells #[.int .i64 kdo, .int .i64 sdo, .int .i64 mo, .slice go_ do_.length jo, .int .i64 exo] 32 (0, 0)) := ⟨_, rfl, (Fr.refl _ _).alloc _, newA rfl⟩
          have g79 := f8.then0 f9
          have g59 := g57.then0 g79
          have hz8 := f8.size
          have hq9 := lt_of_heap q9
          have HO := Lib.hid (And.intro q9 (sl_keep gso f9 (by simp)))
          have HW := Lib.hid (g79.keep q7 (by simp))
          have HGS := Lib.hid (And.intro (sl_keep gs7 g79 (by simp)) hgj)
          have HM := Lib.hid (HM5.out.keep0 g59)
          have HB := Lib.hid (HB5.out.keep0 g59)
          have HG := Lib.hid (HG5.out.then0 g59)
          have HA := Lib.hid (HA5.out.keep g59 HG5.out.size (by simp))
          have hq59 := g59.keep HQ5.out (by simp)
          have HQ := Lib.hid hq59
          have hdat := hd5.keep g59 HG5.out.size (by simp)
          have HGB : Hid (∀ b' o', g = some ⟨b', o', none⟩ → Q + 2 ≤ b') := Lib.hid (fun b' o' e => by have := hgn b' o' e; omega)
          have HOB : Hid (∀ b' o', go_ = some ⟨b', o', none⟩ → X < b') := Lib.hid (fun b' o' e => by have := hgno b' o' e; omega)
          obtain ⟨e0, e1, e2, e3, e4⟩ := WBcells5 hq59
          have hX6 : X < w6.heap.size := by omega
          have hX8 : X < w8.heap.size := by omega
          generalize hWB : w6.heap.size = WB at *
          generalize hOBx : w8.heap.size = OB at *
          clear hw7 f8 f9 g57 g79 g59 gs7 gso q7 q9 hq59 hgn hgno HM5 HB5 HG5 HA5 HQ5 hd5 hgjo hz6 hz8 hq7 hq9 hWB
          go_upto_block 2 with fail
          try rw [hOBx]
          clear hwz hOBx
          go_cut [] (fun wx => ∃ (s2 : SS) (M0 M1 : Nat → Prop) (p0' p1' u0' u1' : Value) (I0' I1' O0' O1' : List UInt8), Hid (SHM w wx Q M0 M1 b W b0 b1 s2 (p0') (p1') (u0') (u1') (I0') (I1') (O0') (O1')) ∧ Hid (D2 wx Q (p0') (p1') (u0') (u1')) ∧ Hid (SHL sg s2 (I0') (I1') (O0') (O1') ∧ I0'.length ≤ (k + 1) * 5000 ∧ I1'.length ≤ (k + 1) * 5000) ∧ Hid (nextS s2.t0 s2.c0 0 = ⟨kdo, sdo, mo, do_, exo⟩ ∧ s2.first = noteF s.first (nextS s2.t1 s2.c1 1)) ∧ Hid (Fr [] w wx) ∧ Hid (Acts22 wx w.heap.size (some ⟨ab, ao, none⟩) A.length cap A) ∧ Hid (wx.heap[X]? = some (.cells #[.int .i64 what, .int .i64 1, .slice pa data.length pc, .int .i64 n, .int .i64 er] 73 (0, 0))) ∧ Hid (wx.heap[OB]? = some (.cells #[.int .i64 kdo, .int .i64 sdo, .int .i64 mo, .slice go_ do_.length jo, .int .i64 exo] 32 (0, 0)) ∧ Sl wx go_ (bi do_)))
          case first =>
            rcases Bool.eq_false_or_eq_true (what == 0) with q0 | q0
            · obtain rfl : what = 0 := by simpa using q0
              as_aux_lemma =>
                have hrd := HRD.out
                have HC := Lib.hid (got_sp1 HM.out.sp (by have := HRD.out; omega) (pc := pc) hdat.sl rfl (show data.length ≤ 65536 by omega) er rfl rfl)
                by_cases z : gotE s.t1 data er = 0
                · skip
                  have HN := Lib.hid (HL.out.1.got1 z)
                  rw [z] at HC
                  have hIr := HL.out.2
                  clear z
                  go_wp2_with fail
                  refine HC.out.mono ?_
                  rintro e w6 ⟨rfl, f6, hS⟩
                  have hm6 := HM.out.call f6 hS
                  have hlo := HM.out.lo
                  have hbl : ∀ x ∈ [b, W, b0, b1], w.heap.size ≤ x ∧ x < Q := by intro x hx; simp at hx; omega
                  have hb6 := HB.out.keep f6 (fun x hx => .inl (hbl x hx).2)
                  have g6 := HG.out.trans f6 (U := []) (by simp) (fun x hx => .inr (hbl x hx).1)
                  have a6 := HA.out.keep f6 HG.out.size (fun x hx => (hbl x hx).1)
                  have q6 := f6.keep HQ.out (fun hm => by have := (hbl _ hm).2; omega)
                  have o6 := f6.keep HO.out.1 (fun hm => by have := (hbl _ hm).2; omega)
                  have s6 := sl_keep HO.out.2 f6 (fun h0 b' o' e hm => by have := (hbl _ hm).2; have := HOB.out b' o' e; omega)
                  have wq6 := f6.keep HW.out (fun hm => by have := (hbl _ hm).2; omega)
                  have gs6 := sl_keep HGS.out.1 f6 (fun h0 b' o' e hm => by have := (hbl _ hm).2; have := HGB.out b' o' e; omega)
                  have dd6 := hdat.keep f6 HG.out.size (fun x hx => (hbl x hx).1)
                  have H6 := Lib.hid (And.intro hm6 (And.intro hb6 (And.intro g6 (And.intro a6 (And.intro q6 (And.intro o6 s6))))))
                  have HWQ6 := Lib.hid (And.intro wq6 gs6)
                  clear hm6 hb6 g6 a6 q6 o6 s6 wq6 gs6 hlo hbl
                  clear HC f6 hS
                  obtain ⟨q0, q1, q2, q3⟩ := H6.out.2.1.cells
                  obtain ⟨e0, e1, e2, e3, e4⟩ := WBcells5 H6.out.2.2.2.2.1
                  have HOW := Lib.hid H6.out.1.r1
                  obtain ⟨ra, rc, rfl, _⟩ := HOW.out.formB
                  have hz6 := H6.out.1.hq
                  have HSV := Lib.hid dd6.sl.toV
                  have H3 : Hid (((bi I1).map (Value.int .u8)).length + data.length ≤ maxLen) := Lib.hid (by rw [List.length_map, bi_length]; unfold maxLen; omega)
                  have H4 : Hid ((((bi I1).map (Value.int .u8)).length + data.length) * 1 ≤ 140737488355328) := Lib.hid (by rw [List.length_map, bi_length]; omega)
                  have H5 : Hid (((bi data).map (Value.int .u8)).length = data.length) := Lib.hid (by simp [bi_length])
                  have HO1 := Lib.hid (oneCell_bytes (bi data))
                  have HUU : Hid (Try.prog.underlying 22 = some (.slice 5)) := Lib.hid Try.underlying22
                  have HIN : Hid ((Try.prog.info? 5).map (fun i => (i.zero, i.size, i.bytes)) = some (some (.int .u8 0), 1, 1)) := Lib.hid (by kernel_rfl)
                  clear dd6 hdat
                  have hrb : ∀ x ∈ (Value.slice ra I1.length rc).ownBlock.toList, Q + 2 ≤ x ∧ x < X := fun x hx => ⟨(HOW.out.lt x (by simpa using hx)).1, HROW.out.2.1 x (by simpa using hx)⟩
                  have HFA := Lib.hid fun (w' : World) (f : Fr (Value.slice ra I1.length rc).ownBlock.toList w6 w') => (show w'.cell? ⟨Q, 1, none⟩ = some (.slice ra I1.length rc) ∧ w'.cell? ⟨X, 1, none⟩ = some (.int .i64 1) ∧ w'.cell? ⟨X, 2, none⟩ = some (.slice pa data.length pc) from ⟨cell_of (f.keep H6.out.2.1.q0 (fun hm => by have := (hrb _ hm).1; omega)), cell_of (f.keep H6.out.2.2.2.2.1 (fun hm => by have := (hrb _ hm).2; omega)), cell_of (f.keep H6.out.2.2.2.2.1 (fun hm => by have := (hrb _ hm).2; omega))⟩)
                  go_wp2_with fail
                  have fd : Fr [] w6 w6.drew := (Fr.refl _ _).drew
                  have fdS : Fr (Value.slice ra I1.length rc).ownBlock.toList w6 w6.drew := fd.trans (Fr.refl _ _ : Fr (Value.slice ra I1.length rc).ownBlock.toList _ _) (by simp) (fun x hx => .inl hx)
                  refine wp_region_till [(0, true), (1, true), (2, true), (3, true), (4, true), (5, true), (6, true), (7, true), (8, false), (9, true)] [10] (fun w' => Fr (Value.slice ra I1.length rc).ownBlock.toList w6 w') (by kernel_rfl) (by kernel_rfl) fdS ?_
                  intro OPS HOPS
                  have hops := HOPS.out
                  try simp only [List.append_eq, List.cons_append, List.nil_append] at hops
                  replace HOPS := Lib.hid hops
                  clear hops
                  refine walkX_take (o := _) (v := ?_) (by rw [HOPS.out]; simp only [List.getElem?_toArray, List.getElem?_cons_succ, List.getElem?_cons_zero]; exact rfl) (Or.inl ⟨rfl, ?_⟩) ?_
                  rotate_left
                  · (intro w hSw; have hSx := HFA.out _ hSw; (try dsimp only at hSx); clear hSw; go_simp) <;> (with_reducible rfl)
                  simp only [Act.put, List.setIfInBounds_toArray, List.set_cons_zero, List.set_cons_succ]
                  refine walkX_take (o := _) (v := ?_) (by rw [HOPS.out]; simp only [List.getElem?_toArray, List.getElem?_cons_succ, List.getElem?_cons_zero]; exact rfl) (Or.inl ⟨rfl, ?_⟩) ?_
                  rotate_left
                  · (intro w hSw; have hSx := HFA.out _ hSw; (try dsimp only at hSx); clear hSw; go_simp) <;> (with_reducible rfl)
                  simp only [Act.put, List.setIfInBounds_toArray, List.set_cons_zero, List.set_cons_succ]
                  refine walkX_take (o := _) (v := ?_) (by rw [HOPS.out]; simp only [List.getElem?_toArray, List.getElem?_cons_succ, List.getElem?_cons_zero]; exact rfl) (Or.inl ⟨rfl, ?_⟩) ?_
                  rotate_left
                  · (intro w hSw; have hSx := HFA.out _ hSw; (try dsimp only at hSx); clear hSw; go_simp) <;> (with_reducible rfl)
                  simp only [Act.put, List.setIfInBounds_toArray, List.set_cons_zero, List.set_cons_succ]
                  refine walkX_take (o := _) (v := ?_) (by rw [HOPS.out]; simp only [List.getElem?_toArray, List.getElem?_cons_succ, List.getElem?_cons_zero]; exact rfl) (Or.inl ⟨rfl, ?_⟩) ?_
                  rotate_left
                  · (intro w hSw; have hSx := HFA.out _ hSw; (try dsimp only at hSx); clear hSw; go_simp) <;> (with_reducible rfl)
                  simp only [Act.put, List.setIfInBounds_toArray, List.set_cons_zero, List.set_cons_succ]
                  refine walkX_take (o := _) (v := ?_) (by rw [HOPS.out]; simp only [List.getElem?_toArray, List.getElem?_cons_succ, List.getElem?_cons_zero]; exact rfl) (Or.inl ⟨rfl, ?_⟩) ?_
                  rotate_left
                  · (intro w hSw; have hSx := HFA.out _ hSw; (try dsimp only at hSx); clear hSw; go_simp) <;> (with_reducible rfl)
                  simp only [Act.put, List.setIfInBounds_toArray, List.set_cons_zero, List.set_cons_succ]
                  refine walkX_take (o := _) (v := ?_) (by rw [HOPS.out]; simp only [List.getElem?_toArray, List.getElem?_cons_succ, List.getElem?_cons_zero]; exact rfl) (Or.inl ⟨rfl, ?_⟩) ?_
                  rotate_left
                  · (intro w hSw; have hSx := HFA.out _ hSw; (try dsimp only at hSx); clear hSw; go_simp) <;> (with_reducible rfl)
                  simp only [Act.put, List.setIfInBounds_toArray, List.set_cons_zero, List.set_cons_succ]
                  refine walkX_take (o := _) (v := ?_) (by rw [HOPS.out]; simp only [List.getElem?_toArray, List.getElem?_cons_succ, List.getElem?_cons_zero]; exact rfl) (Or.inl ⟨rfl, ?_⟩) ?_
                  rotate_left
                  · (intro w hSw; have hSx := HFA.out _ hSw; (try dsimp only at hSx); clear hSw; go_simp) <;> (with_reducible rfl)
                  simp only [Act.put, List.setIfInBounds_toArray, List.set_cons_zero, List.set_cons_succ]
                  refine walkX_take (o := _) (v := ?_) (by rw [HOPS.out]; simp only [List.getElem?_toArray, List.getElem?_cons_succ, List.getElem?_cons_zero]; exact rfl) (Or.inl ⟨rfl, ?_⟩) ?_
                  rotate_left
                  · (intro w hSw; have hSx := HFA.out _ hSw; (try dsimp only at hSx); clear hSw; go_simp) <;> (with_reducible rfl)
                  simp only [Act.put, List.setIfInBounds_toArray, List.set_cons_zero, List.set_cons_succ]
                  refine walkX_call (o := _) (by rw [HOPS.out]; simp only [List.getElem?_toArray, List.getElem?_cons_succ, List.getElem?_cons_zero]; exact rfl) (fun K HK => ?_)
                  refine step_append_fr2 rfl (.tmp 87) (.tmp 89) 22 rfl 5 (.int .u8 0) 1 HUU.out HIN.out rfl (Q + 2) (.slice ra I1.length rc) _ rfl (HOW.out.keep fd (by simp)) pa data.length pc _ rfl H5.out (HSV.out.keep fd (by simp)) HO1.out H3.out H4.out (Nat.le_trans hz6 fd.size) ?_
                  intro v7 w7 o7 f7 hb7
                  have f67 : Fr (Value.slice ra I1.length rc).ownBlock.toList w6 w7 := fdS.trans f7 (fun x hx => .inl hx) (fun x hx => .inl hx)
                  obtain ⟨va, vc, rfl, _⟩ := o7.form
                  obtain ⟨vn, hvn⟩ : ∃ n, (List.map (Value.int .u8) (bi I1) ++ List.map (Value.int .u8) (bi (data))).length = n := ⟨_, rfl⟩
                  rw [hvn] at o7 hb7 ⊢
                  refine HK.out (fun w' => Fr (Value.slice ra I1.length rc).ownBlock.toList w6 w') _ _ (fun _ h => h) (f67) ?_
                  clear HK K
                  try simp only [Act.put, List.setIfInBounds_toArray, List.set_cons_zero, List.set_cons_succ]
                  refine walkX_take (o := _) (v := ?_) (by rw [HOPS.out]; simp only [List.getElem?_toArray, List.getElem?_cons_succ, List.getElem?_cons_zero]; exact rfl) (Or.inl ⟨rfl, ?_⟩) ?_
                  rotate_left
                  · (intro w hSw; have hSx := HFA.out _ hSw; (try dsimp only at hSx); clear hSw; go_simp) <;> (with_reducible rfl)
                  simp only [Act.put, List.setIfInBounds_toArray, List.set_cons_zero, List.set_cons_succ]
                  refine walkX_tail ?_
                  refine walkTail_step (o := _) (by rw [HOPS.out]; simp only [List.getElem?_toArray, List.getElem?_cons_succ, List.getElem?_cons_zero]; exact rfl) (fun K HK => ?_)
                  have hb7' := H6.out.2.1.keep f67 (fun x hx => .inr (hrb x hx).1)
                  have sc_ : w7.cell? ⟨Q, 1, none⟩ = some (.slice ra I1.length rc) := cell_of hb7'.q0
                  have sf_ : w7.frozen? ⟨Q, 1, none⟩ = false := free_of hb7'.q0
                  go_simp
                  clear sc_ sf_
                  refine HK.out _ _ ?_
                  clear HK K
                  try simp only [Act.put, List.setIfInBounds_toArray, List.set_cons_zero, List.set_cons_succ]
                  refine walkTail_done ?_
                  clear HOPS OPS
                  obtain ⟨M0, M1, hm7⟩ := (H6.out.1.keep0 fd).push1 o7 f7 hb7
                  have g7 := H6.out.2.2.1.trans f67 (U := []) (by simp) (fun x hx => .inr (by have := (hrb x hx).1; omega))
                  have a7 := H6.out.2.2.2.1.keep f67 H6.out.2.2.1.size (fun x hx => by have := (hrb x hx).1; omega)
                  have q7 := f67.keep H6.out.2.2.2.2.1 (fun hm => by have := (hrb _ hm).2; omega)
                  have o7' := f67.keep H6.out.2.2.2.2.2.1 (fun hm => by have := (hrb _ hm).2; omega)
                  have s7 := sl_keep H6.out.2.2.2.2.2.2 f67 (fun h0 b' o' e hm => by have := (hrb _ hm).2; have := HOB.out b' o' e; omega)
                  clear o7 hb7 HOW HSV HFA
                  clear q0 q1 q2 q3 e0 e1 e2 e3 e4
                  have f8 : Fr [Q] w7 (w7.setCell ⟨Q, 1, none⟩ (.slice va vn vc)) := (Fr.refl _ _).setCell (.inl (by simp)) _
                  have H8 := Lib.hid (And.intro (hm7.box (k := 0) (i := 1) (by omega) (.slice va vn vc)) (And.intro (hb7'.set01 (.slice va vn vc)) (And.intro (g7.trans f8 (U := []) (by simp) (fun x hx => .inr (by simp at hx; omega))) (And.intro (a7.keep f8 g7.size (by simp; omega)) (And.intro (f8.keep q7 (by simp; omega)) (And.intro (f8.keep o7' (by simp; omega)) (sl_keep s7 f8 (fun h0 b' o' e hm => by have := HOB.out b' o' e; simp at hm; omega))))))))
                  clear hm7 g7 a7 q7 o7' s7 f8 f7 f67 fd fdS hrb hb7'
                  go_wp2_with fail
                  go_meet
                  exact ⟨(gotS1 s data er), M0, M1, p0, (.slice va vn vc), u0, u1, I0, (I1 ++ data), O0, O1, Lib.hid H8.out.1, Lib.hid H8.out.2.1, Lib.hid ⟨HN.out, (by have h := HL.out.2; rw [List.length_append]; exact ⟨by omega, by omega⟩)⟩, Lib.hid ⟨HXO.out, rfl⟩, Lib.hid H8.out.2.2.1, Lib.hid H8.out.2.2.2.1, Lib.hid H8.out.2.2.2.2.1, Lib.hid H8.out.2.2.2.2.2⟩
                · skip
                  have zb : (gotE s.t1 data er == 0) = false := by simpa using z
                  rw [HL.out.1.gotNo1 z] at HC
                  have HIV := Lib.hid HL.out.1.inv
                  generalize gotE s.t1 data er = ce at HC zb z
                  clear z
                  go_wp2_with fail
                  refine HC.out.mono ?_
                  rintro e w6 ⟨rfl, f6, hS⟩
                  have hm6 := HM.out.call f6 hS
                  have hlo := HM.out.lo
                  have hbl : ∀ x ∈ [b, W, b0, b1], w.heap.size ≤ x ∧ x < Q := by intro x hx; simp at hx; omega
                  have hb6 := HB.out.keep f6 (fun x hx => .inl (hbl x hx).2)
                  have g6 := HG.out.trans f6 (U := []) (by simp) (fun x hx => .inr (hbl x hx).1)
                  have a6 := HA.out.keep f6 HG.out.size (fun x hx => (hbl x hx).1)
                  have q6 := f6.keep HQ.out (fun hm => by have := (hbl _ hm).2; omega)
                  have o6 := f6.keep HO.out.1 (fun hm => by have := (hbl _ hm).2; omega)
                  have s6 := sl_keep HO.out.2 f6 (fun h0 b' o' e hm => by have := (hbl _ hm).2; have := HOB.out b' o' e; omega)
                  have wq6 := f6.keep HW.out (fun hm => by have := (hbl _ hm).2; omega)
                  have gs6 := sl_keep HGS.out.1 f6 (fun h0 b' o' e hm => by have := (hbl _ hm).2; have := HGB.out b' o' e; omega)
                  have dd6 := hdat.keep f6 HG.out.size (fun x hx => (hbl x hx).1)
                  have H6 := Lib.hid (And.intro hm6 (And.intro hb6 (And.intro g6 (And.intro a6 (And.intro q6 (And.intro o6 s6))))))
                  have HWQ6 := Lib.hid (And.intro wq6 gs6)
                  clear hm6 hb6 g6 a6 q6 o6 s6 wq6 gs6 hlo hbl
                  clear HC f6 hS dd6 hdat
                  go_wp2_with fail
                  go_meet
                  exact ⟨s, N0, N1, p0, p1, u0, u1, I0, I1, O0, O1, Lib.hid H6.out.1, Lib.hid H6.out.2.1, Lib.hid ⟨HL.out.1, (by have h := HL.out.2; exact ⟨by omega, by omega⟩)⟩, Lib.hid ⟨HXO.out, HIV.out.2.symm⟩, Lib.hid H6.out.2.2.1, Lib.hid H6.out.2.2.2.1, Lib.hid H6.out.2.2.2.2.1, Lib.hid H6.out.2.2.2.2.2⟩
            · skip
              rcases Bool.eq_false_or_eq_true (what == 1) with q1 | q1
              · obtain rfl : what = 1 := by simpa using q1
                as_aux_lemma =>
                  have HC := Lib.hid (wrote_sp1 HM.out.sp (by have := HRD.out; omega) n er rfl rfl)
                  by_cases z : wroteE s.t1 n er = 0
                  · skip
                    obtain ⟨hk2, hn0, hnl, hN⟩ := HL.out.1.wrote1 z
                    have hX := HX.out
                    unfold nextS at hX
                    rw [if_neg (by rw [hk2]; decide), if_pos hk2] at hX
                    obtain ⟨rfl, rfl, rfl, hds, rfl⟩ : (2 : Int) = kd ∧ 0 = sd ∧ (0 : Int) = m ∧ s.t1.s = d ∧ (0 : Int) = ex := by injection hX with h1 h2 h3 h4 h5; exact ⟨h1, by simpa using h2, h3, h4, h5⟩
                    obtain ⟨nn, rfl⟩ : ∃ nn : Nat, n = nn := ⟨n.toNat, by omega⟩
                    rw [hds] at hnl hN
                    rw [Int.toNat_natCast] at hN
                    have hnd : nn ≤ d.length := by omega
                    have hd5 : d.length ≤ 4096 := by have h1 := HM.out.sp.h1.ok.few; have h2 := HM.out.sp.h1.ok.s2; rw [hds] at h1; omega
                    have HN := Lib.hid hN
                    rw [z] at HC
                    have hIr := HL.out.2
                    have hta := HL.out.1.tail1
                    clear z hN hk2 hX hds
                    go_wp2_with fail
                    refine HC.out.mono ?_
                    rintro e w6 ⟨rfl, f6, hS⟩
                    have hm6 := HM.out.call f6 hS
                    have hlo := HM.out.lo
                    have hbl : ∀ x ∈ [b, W, b0, b1], w.heap.size ≤ x ∧ x < Q := by intro x hx; simp at hx; omega
                    have hb6 := HB.out.keep f6 (fun x hx => .inl (hbl x hx).2)
                    have g6 := HG.out.trans f6 (U := []) (by simp) (fun x hx => .inr (hbl x hx).1)
                    have a6 := HA.out.keep f6 HG.out.size (fun x hx => (hbl x hx).1)
                    have q6 := f6.keep HQ.out (fun hm => by have := (hbl _ hm).2; omega)
                    have o6 := f6.keep HO.out.1 (fun hm => by have := (hbl _ hm).2; omega)
                    have s6 := sl_keep HO.out.2 f6 (fun h0 b' o' e hm => by have := (hbl _ hm).2; have := HOB.out b' o' e; omega)
                    have wq6 := f6.keep HW.out (fun hm => by have := (hbl _ hm).2; omega)
                    have gs6 := sl_keep HGS.out.1 f6 (fun h0 b' o' e hm => by have := (hbl _ hm).2; have := HGB.out b' o' e; omega)
                    have dd6 := hdat.keep f6 HG.out.size (fun x hx => (hbl x hx).1)
                    have H6 := Lib.hid (And.intro hm6 (And.intro hb6 (And.intro g6 (And.intro a6 (And.intro q6 (And.intro o6 s6))))))
                    have HWQ6 := Lib.hid (And.intro wq6 gs6)
                    clear hm6 hb6 g6 a6 q6 o6 s6 wq6 gs6 hlo hbl
                    clear HC f6 hS dd6 hdat
                    obtain ⟨q0, q1, q2, q3⟩ := H6.out.2.1.cells
                    obtain ⟨e0, e1, e2, e3, e4⟩ := WBcells5 H6.out.2.2.2.2.1
                    obtain ⟨x0, x1, x2, x3, x4⟩ := WBcells5 HWQ6.out.1
                    have HOW := Lib.hid H6.out.1.r3
                    obtain ⟨ra, rc, rfl, _⟩ := HOW.out.formB
                    have hz6 := H6.out.1.hq
                    have HSV : Hid (SlV w6 g ((bi (d.take nn)).map (Value.int .u8))) := Lib.hid (by rw [bi_take, List.map_take]; exact (HWQ6.out.2.toV).take nn)
                    have hta1 := hta.1
                    have H3 : Hid (((bi O1).map (Value.int .u8)).length + nn ≤ maxLen) := Lib.hid (by rw [List.length_map, bi_length]; unfold maxLen; omega)
                    have H4 : Hid ((((bi O1).map (Value.int .u8)).length + nn) * 1 ≤ 140737488355328) := Lib.hid (by rw [List.length_map, bi_length]; omega)
                    have H5 : Hid (((bi (d.take nn)).map (Value.int .u8)).length = nn) := Lib.hid (by rw [List.length_map, bi_length, List.length_take]; omega)
                    have HO1 := Lib.hid (oneCell_bytes (bi (d.take nn)))
                    have HUU : Hid (Try.prog.underlying 22 = some (.slice 5)) := Lib.hid Try.underlying22
                    have HIN : Hid ((Try.prog.info? 5).map (fun i => (i.zero, i.size, i.bytes)) = some (some (.int .u8 0), 1, 1)) := Lib.hid (by kernel_rfl)
                    have hup : ∀ w', (Instr.slice 22 (.slice g d.length j) none (some (.int .i64 nn)) none).run Try.prog w' = .ok (.slice g nn j) w' := fun w' => run_upto hnd HGS.out.2 w'
                    have hx1 : ¬ ((nn : Int) < 0) := by omega
                    have hx2 : ¬ ((d.length : Int) < (nn : Int)) := by omega
                    clear hta hIr hn0 hnl
                    have hrb : ∀ x ∈ (Value.slice ra O1.length rc).ownBlock.toList, Q + 2 ≤ x ∧ x < X := fun x hx => ⟨(HOW.out.lt x (by simpa using hx)).1, HROW.out.2.2.2 x (by simpa using hx)⟩
                    have HFA := Lib.hid fun (w' : World) (f : Fr (Value.slice ra O1.length rc).ownBlock.toList w6 w') => (show w'.cell? ⟨Q + 1, 1, none⟩ = some (.slice ra O1.length rc) ∧ w'.cell? ⟨X, 1, none⟩ = some (.int .i64 1) ∧ w'.cell? ⟨X, 3, none⟩ = some (.int .i64 nn) ∧ w'.cell? ⟨WB, 3, none⟩ = some (.slice g d.length j) ∧ (Instr.slice 22 (.slice g d.length j) none (some (.int .i64 nn)) none).run Try.prog w' = .ok (.slice g nn j) w' from ⟨cell_of (f.keep H6.out.2.1.q1 (fun hm => by have := (hrb _ hm).1; omega)), cell_of (f.keep H6.out.2.2.2.2.1 (fun hm => by have := (hrb _ hm).2; omega)), cell_of (f.keep H6.out.2.2.2.2.1 (fun hm => by have := (hrb _ hm).2; omega)), cell_of (f.keep HWQ6.out.1 (fun hm => by have := (hrb _ hm).2; omega)), hup w'⟩)
                    go_wp2_with fail
                    have fd : Fr [] w6 w6.drew := (Fr.refl _ _).drew
                    have fdS : Fr (Value.slice ra O1.length rc).ownBlock.toList w6 w6.drew := fd.trans (Fr.refl _ _ : Fr (Value.slice ra O1.length rc).ownBlock.toList _ _) (by simp) (fun x hx => .inl hx)
                    refine wp_region_till [(0, true), (1, true), (2, true), (3, true), (4, true), (5, true), (6, true), (7, true), (8, true), (9, true), (10, true), (11, false), (12, true)] [13] (fun w' => Fr (Value.slice ra O1.length rc).ownBlock.toList w6 w') (by kernel_rfl) (by kernel_rfl) fdS ?_
                    intro OPS HOPS
                    have hops := HOPS.out
                    try simp only [List.append_eq, List.cons_append, List.nil_append] at hops
                    replace HOPS := Lib.hid hops
                    clear hops
                    refine walkX_take (o := _) (v := ?_) (by rw [HOPS.out]; simp only [List.getElem?_toArray, List.getElem?_cons_succ, List.getElem?_cons_zero]; exact rfl) (Or.inl ⟨rfl, ?_⟩) ?_
                    rotate_left
                    · (intro w hSw; have hSx := HFA.out _ hSw; (try dsimp only at hSx); clear hSw; go_simp) <;> (with_reducible rfl)
                    simp only [Act.put, List.setIfInBounds_toArray, List.set_cons_zero, List.set_cons_succ]
                    refine walkX_take (o := _) (v := ?_) (by rw [HOPS.out]; simp only [List.getElem?_toArray, List.getElem?_cons_succ, List.getElem?_cons_zero]; exact rfl) (Or.inl ⟨rfl, ?_⟩) ?_
                    rotate_left
                    · (intro w hSw; have hSx := HFA.out _ hSw; (try dsimp only at hSx); clear hSw; go_simp) <;> (with_reducible rfl)
                    simp only [Act.put, List.setIfInBounds_toArray, List.set_cons_zero, List.set_cons_succ]
                    refine walkX_take (o := _) (v := ?_) (by rw [HOPS.out]; simp only [List.getElem?_toArray, List.getElem?_cons_succ, List.getElem?_cons_zero]; exact rfl) (Or.inl ⟨rfl, ?_⟩) ?_
                    rotate_left
                    · (intro w hSw; have hSx := HFA.out _ hSw; (try dsimp only at hSx); clear hSw; go_simp) <;> (with_reducible rfl)
                    simp only [Act.put, List.setIfInBounds_toArray, List.set_cons_zero, List.set_cons_succ]
                    refine walkX_take (o := _) (v := ?_) (by rw [HOPS.out]; simp only [List.getElem?_toArray, List.getElem?_cons_succ, List.getElem?_cons_zero]; exact rfl) (Or.inl ⟨rfl, ?_⟩) ?_
                    rotate_left
                    · (intro w hSw; have hSx := HFA.out _ hSw; (try dsimp only at hSx); clear hSw; go_simp) <;> (with_reducible rfl)
                    simp only [Act.put, List.setIfInBounds_toArray, List.set_cons_zero, List.set_cons_succ]
                    refine walkX_take (o := _) (v := ?_) (by rw [HOPS.out]; simp only [List.getElem?_toArray, List.getElem?_cons_succ, List.getElem?_cons_zero]; exact rfl) (Or.inl ⟨rfl, ?_⟩) ?_
                    rotate_left
                    · (intro w hSw; have hSx := HFA.out _ hSw; (try dsimp only at hSx); clear hSw; go_simp) <;> (with_reducible rfl)
                    simp only [Act.put, List.setIfInBounds_toArray, List.set_cons_zero, List.set_cons_succ]
                    refine walkX_take (o := _) (v := ?_) (by rw [HOPS.out]; simp only [List.getElem?_toArray, List.getElem?_cons_succ, List.getElem?_cons_zero]; exact rfl) (Or.inl ⟨rfl, ?_⟩) ?_
                    rotate_left
                    · (intro w hSw; have hSx := HFA.out _ hSw; (try dsimp only at hSx); clear hSw; go_simp) <;> (with_reducible rfl)
                    simp only [Act.put, List.setIfInBounds_toArray, List.set_cons_zero, List.set_cons_succ]
                    refine walkX_take (o := _) (v := ?_) (by rw [HOPS.out]; simp only [List.getElem?_toArray, List.getElem?_cons_succ, List.getElem?_cons_zero]; exact rfl) (Or.inl ⟨rfl, ?_⟩) ?_
                    rotate_left
                    · (intro w hSw; have hSx := HFA.out _ hSw; (try dsimp only at hSx); clear hSw; go_simp) <;> (with_reducible rfl)
                    simp only [Act.put, List.setIfInBounds_toArray, List.set_cons_zero, List.set_cons_succ]
                    refine walkX_take (o := _) (v := ?_) (by rw [HOPS.out]; simp only [List.getElem?_toArray, List.getElem?_cons_succ, List.getElem?_cons_zero]; exact rfl) (Or.inl ⟨rfl, ?_⟩) ?_
                    rotate_left
                    · (intro w hSw; have hSx := HFA.out _ hSw; (try dsimp only at hSx); clear hSw; go_simp) <;> (with_reducible rfl)
                    simp only [Act.put, List.setIfInBounds_toArray, List.set_cons_zero, List.set_cons_succ]
                    refine walkX_take (o := _) (v := ?_) (by rw [HOPS.out]; simp only [List.getElem?_toArray, List.getElem?_cons_succ, List.getElem?_cons_zero]; exact rfl) (Or.inl ⟨rfl, ?_⟩) ?_
                    rotate_left
                    · (intro w hSw; have hSx := HFA.out _ hSw; (try dsimp only at hSx); clear hSw; go_simp) <;> (with_reducible rfl)
                    simp only [Act.put, List.setIfInBounds_toArray, List.set_cons_zero, List.set_cons_succ]
                    refine walkX_take (o := _) (v := ?_) (by rw [HOPS.out]; simp only [List.getElem?_toArray, List.getElem?_cons_succ, List.getElem?_cons_zero]; exact rfl) (Or.inl ⟨rfl, ?_⟩) ?_
                    rotate_left
                    · (intro w hSw; have hSx := HFA.out _ hSw; (try dsimp only at hSx); clear hSw; go_simp) <;> (with_reducible rfl)
                    simp only [Act.put, List.setIfInBounds_toArray, List.set_cons_zero, List.set_cons_succ]
                    refine walkX_take (o := _) (v := ?_) (by rw [HOPS.out]; simp only [List.getElem?_toArray, List.getElem?_cons_succ, List.getElem?_cons_zero]; exact rfl) (Or.inl ⟨rfl, ?_⟩) ?_
                    rotate_left
                    · (intro w hSw; have hSx := HFA.out _ hSw; (try dsimp only at hSx); clear hSw; go_simp) <;> (with_reducible rfl)
                    simp only [Act.put, List.setIfInBounds_toArray, List.set_cons_zero, List.set_cons_succ]
                    refine walkX_call (o := _) (by rw [HOPS.out]; simp only [List.getElem?_toArray, List.getElem?_cons_succ, List.getElem?_cons_zero]; exact rfl) (fun K HK => ?_)
                    refine step_append_fr2 rfl (.tmp 119) (.tmp 124) 22 rfl 5 (.int .u8 0) 1 HUU.out HIN.out rfl (Q + 2) (.slice ra O1.length rc) _ rfl (HOW.out.keep fd (by simp)) g nn j _ rfl H5.out (HSV.out.keep fd (by simp)) HO1.out H3.out H4.out (Nat.le_trans hz6 fd.size) ?_
                    intro v7 w7 o7 f7 hb7
                    have f67 : Fr (Value.slice ra O1.length rc).ownBlock.toList w6 w7 := fdS.trans f7 (fun x hx => .inl hx) (fun x hx => .inl hx)
                    obtain ⟨va, vc, rfl, _⟩ := o7.form
                    obtain ⟨vn, hvn⟩ : ∃ n, (List.map (Value.int .u8) (bi O1) ++ List.map (Value.int .u8) (bi (d.take nn))).length = n := ⟨_, rfl⟩
                    rw [hvn] at o7 hb7 ⊢
                    refine HK.out (fun w' => Fr (Value.slice ra O1.length rc).ownBlock.toList w6 w') _ _ (fun _ h => h) (f67) ?_
                    clear HK K
                    try simp only [Act.put, List.setIfInBounds_toArray, List.set_cons_zero, List.set_cons_succ]
                    refine walkX_take (o := _) (v := ?_) (by rw [HOPS.out]; simp only [List.getElem?_toArray, List.getElem?_cons_succ, List.getElem?_cons_zero]; exact rfl) (Or.inl ⟨rfl, ?_⟩) ?_
                    rotate_left
                    · (intro w hSw; have hSx := HFA.out _ hSw; (try dsimp only at hSx); clear hSw; go_simp) <;> (with_reducible rfl)
                    simp only [Act.put, List.setIfInBounds_toArray, List.set_cons_zero, List.set_cons_succ]
                    refine walkX_tail ?_
                    refine walkTail_step (o := _) (by rw [HOPS.out]; simp only [List.getElem?_toArray, List.getElem?_cons_succ, List.getElem?_cons_zero]; exact rfl) (fun K HK => ?_)
                    have hb7' := H6.out.2.1.keep f67 (fun x hx => .inr (hrb x hx).1)
                    have sc_ : w7.cell? ⟨Q + 1, 1, none⟩ = some (.slice ra O1.length rc) := cell_of hb7'.q1
                    have sf_ : w7.frozen? ⟨Q + 1, 1, none⟩ = false := free_of hb7'.q1
                    go_simp
                    clear sc_ sf_
                    refine HK.out _ _ ?_
                    clear HK K
                    try simp only [Act.put, List.setIfInBounds_toArray, List.set_cons_zero, List.set_cons_succ]
                    refine walkTail_done ?_
                    clear HOPS OPS
                    obtain ⟨M0, M1, hm7⟩ := (H6.out.1.keep0 fd).push3 o7 f7 hb7
                    have g7 := H6.out.2.2.1.trans f67 (U := []) (by simp) (fun x hx => .inr (by have := (hrb x hx).1; omega))
                    have a7 := H6.out.2.2.2.1.keep f67 H6.out.2.2.1.size (fun x hx => by have := (hrb x hx).1; omega)
                    have q7 := f67.keep H6.out.2.2.2.2.1 (fun hm => by have := (hrb _ hm).2; omega)
                    have o7' := f67.keep H6.out.2.2.2.2.2.1 (fun hm => by have := (hrb _ hm).2; omega)
                    have s7 := sl_keep H6.out.2.2.2.2.2.2 f67 (fun h0 b' o' e hm => by have := (hrb _ hm).2; have := HOB.out b' o' e; omega)
                    clear o7 hb7 HOW HSV HFA
                    clear q0 q1 q2 q3 e0 e1 e2 e3 e4 x0 x1 x2 x3 x4 hup hx1 hx2
                    have f8 : Fr [Q + 1] w7 (w7.setCell ⟨Q + 1, 1, none⟩ (.slice va vn vc)) := (Fr.refl _ _).setCell (.inl (by simp)) _
                    have H8 := Lib.hid (And.intro (hm7.box (k := 1) (i := 1) (by omega) (.slice va vn vc)) (And.intro (hb7'.set11 (.slice va vn vc)) (And.intro (g7.trans f8 (U := []) (by simp) (fun x hx => .inr (by simp at hx; omega))) (And.intro (a7.keep f8 g7.size (by simp; omega)) (And.intro (f8.keep q7 (by simp; omega)) (And.intro (f8.keep o7' (by simp; omega)) (sl_keep s7 f8 (fun h0 b' o' e hm => by have := HOB.out b' o' e; simp at hm; omega))))))))
                    clear hm7 g7 a7 q7 o7' s7 f8 f7 f67 fd fdS hrb hb7'
                    go_wp2_with fail
                    go_meet
                    exact ⟨(wroteS1 s nn er), M0, M1, p0, p1, u0, (.slice va vn vc), I0, I1, O0, (O1 ++ d.take nn), Lib.hid H8.out.1, Lib.hid H8.out.2.1, Lib.hid ⟨HN.out, (by have h := HL.out.2; exact ⟨by omega, by omega⟩)⟩, Lib.hid ⟨HXO.out, rfl⟩, Lib.hid H8.out.2.2.1, Lib.hid H8.out.2.2.2.1, Lib.hid H8.out.2.2.2.2.1, Lib.hid H8.out.2.2.2.2.2⟩
                  · skip
                    have zb : (wroteE s.t1 n er == 0) = false := by simpa using z
                    rw [HL.out.1.wroteNo1 z] at HC
                    have HIV := Lib.hid HL.out.1.inv
                    generalize wroteE s.t1 n er = ce at HC zb z
                    clear z
                    go_wp2_with fail
                    refine HC.out.mono ?_
                    rintro e w6 ⟨rfl, f6, hS⟩
                    have hm6 := HM.out.call f6 hS
                    have hlo := HM.out.lo
                    have hbl : ∀ x ∈ [b, W, b0, b1], w.heap.size ≤ x ∧ x < Q := by intro x hx; simp at hx; omega
                    have hb6 := HB.out.keep f6 (fun x hx => .inl (hbl x hx).2)
                    have g6 := HG.out.trans f6 (U := []) (by simp) (fun x hx => .inr (hbl x hx).1)
                    have a6 := HA.out.keep f6 HG.out.size (fun x hx => (hbl x hx).1)
                    have q6 := f6.keep HQ.out (fun hm => by have := (hbl _ hm).2; omega)
                    have o6 := f6.keep HO.out.1 (fun hm => by have := (hbl _ hm).2; omega)
                    have s6 := sl_keep HO.out.2 f6 (fun h0 b' o' e hm => by have := (hbl _ hm).2; have := HOB.out b' o' e; omega)
                    have wq6 := f6.keep HW.out (fun hm => by have := (hbl _ hm).2; omega)
                    have gs6 := sl_keep HGS.out.1 f6 (fun h0 b' o' e hm => by have := (hbl _ hm).2; have := HGB.out b' o' e; omega)
                    have dd6 := hdat.keep f6 HG.out.size (fun x hx => (hbl x hx).1)
                    have H6 := Lib.hid (And.intro hm6 (And.intro hb6 (And.intro g6 (And.intro a6 (And.intro q6 (And.intro o6 s6))))))
                    have HWQ6 := Lib.hid (And.intro wq6 gs6)
                    clear hm6 hb6 g6 a6 q6 o6 s6 wq6 gs6 hlo hbl
                    clear HC f6 hS dd6 hdat
                    go_wp2_with fail
                    go_meet
                    exact ⟨s, N0, N1, p0, p1, u0, u1, I0, I1, O0, O1, Lib.hid H6.out.1, Lib.hid H6.out.2.1, Lib.hid ⟨HL.out.1, (by have h := HL.out.2; exact ⟨by omega, by omega⟩)⟩, Lib.hid ⟨HXO.out, HIV.out.2.symm⟩, Lib.hid H6.out.2.2.1, Lib.hid H6.out.2.2.2.1, Lib.hid H6.out.2.2.2.2.1, Lib.hid H6.out.2.2.2.2.2⟩
              · skip
                rcases Bool.eq_false_or_eq_true (what == 2) with q2 | q2
                · obtain rfl : what = 2 := by simpa using q2
                  as_aux_lemma =>
                    have HCC := Lib.hid fun w' (f : Fr [] wz w') => close_sp1 (HM.out.sp.keep0 f) (by have := HRD.out; omega) rfl rfl
                    rw [HX.out] at HCC
                    have HN := Lib.hid HL.out.1.close1
                    have hlo := HM.out.lo
                    have hbl : ∀ x ∈ [b, W, b0, b1], w.heap.size ≤ x ∧ x < Q := by intro x hx; simp at hx; omega
                    have HFA := Lib.hid fun (w' : World) (f : Fr [b, W, b0, b1] wz w') => (show w'.cell? ⟨X, 1, none⟩ = some (.int .i64 1) ∧ w'.cell? ⟨WB, 0, none⟩ = some (.int .i64 kd) from ⟨cell_of (f.keep HQ.out (fun hm => by have := (hbl _ hm).2; omega)), cell_of (f.keep HW.out (fun hm => by have := (hbl _ hm).2; omega))⟩)
                    clear hlo hbl
                    have HEC := Lib.hid (Go.Proofs.enters_of Try.func35 (by kernel_rfl) rfl)
                    go_wp2_with fail
                    have fd : Fr [] wz wz.drew := (Fr.refl _ _).drew
                    have fdS : Fr [b, W, b0, b1] wz wz.drew := fd.trans (Fr.refl _ _ : Fr [b, W, b0, b1] _ _) (by simp) (fun x hx => .inl hx)
                    refine wp_region_order [(0, true), (1, true), (2, true), (5, true), (6, true), (7, true), (3, false), (4, true), (8, true)] (fun w' => Fr [b, W, b0, b1] wz w') (by kernel_rfl) (by kernel_rfl) fdS ?_
                    intro OPS HOPS
                    have hops := HOPS.out
                    try simp only [List.append_eq, List.cons_append, List.nil_append] at hops
                    replace HOPS := Lib.hid hops
                    clear hops
                    refine walkO_take (o := _) (v := ?_) (by rw [HOPS.out]; simp only [List.getElem?_toArray, List.getElem?_cons_succ, List.getElem?_cons_zero]; exact rfl) (Or.inl ⟨rfl, ?_⟩) ?_
                    rotate_left
                    · (intro w hSw; have hSx := HFA.out _ hSw; (try dsimp only at hSx); clear hSw; go_simp) <;> (with_reducible rfl)
                    simp only [Act.put, List.setIfInBounds_toArray, List.set_cons_zero, List.set_cons_succ]
                    refine walkO_take (o := _) (v := ?_) (by rw [HOPS.out]; simp only [List.getElem?_toArray, List.getElem?_cons_succ, List.getElem?_cons_zero]; exact rfl) (Or.inl ⟨rfl, ?_⟩) ?_
                    rotate_left
                    · (intro w hSw; have hSx := HFA.out _ hSw; (try dsimp only at hSx); clear hSw; go_simp) <;> (with_reducible rfl)
                    simp only [Act.put, List.setIfInBounds_toArray, List.set_cons_zero, List.set_cons_succ]
                    refine walkO_take (o := _) (v := ?_) (by rw [HOPS.out]; simp only [List.getElem?_toArray, List.getElem?_cons_succ, List.getElem?_cons_zero]; exact rfl) (Or.inl ⟨rfl, ?_⟩) ?_
                    rotate_left
                    · (intro w hSw; have hSx := HFA.out _ hSw; (try dsimp only at hSx); clear hSw; go_simp) <;> (with_reducible rfl)
                    simp only [Act.put, List.setIfInBounds_toArray, List.set_cons_zero, List.set_cons_succ]
                    refine walkO_take (o := _) (v := ?_) (by rw [HOPS.out]; simp only [List.getElem?_toArray, List.getElem?_cons_succ, List.getElem?_cons_zero]; exact rfl) (Or.inl ⟨rfl, ?_⟩) ?_
                    rotate_left
                    · (intro w hSw; have hSx := HFA.out _ hSw; (try dsimp only at hSx); clear hSw; go_simp) <;> (with_reducible rfl)
                    simp only [Act.put, List.setIfInBounds_toArray, List.set_cons_zero, List.set_cons_succ]
                    refine walkO_take (o := _) (v := ?_) (by rw [HOPS.out]; simp only [List.getElem?_toArray, List.getElem?_cons_succ, List.getElem?_cons_zero]; exact rfl) (Or.inl ⟨rfl, ?_⟩) ?_
                    rotate_left
                    · (intro w hSw; have hSx := HFA.out _ hSw; (try dsimp only at hSx); clear hSw; go_simp) <;> (with_reducible rfl)
                    simp only [Act.put, List.setIfInBounds_toArray, List.set_cons_zero, List.set_cons_succ]
                    refine walkO_take (o := _) (v := ?_) (by rw [HOPS.out]; simp only [List.getElem?_toArray, List.getElem?_cons_succ, List.getElem?_cons_zero]; exact rfl) (Or.inl ⟨rfl, ?_⟩) ?_
                    rotate_left
                    · (intro w hSw; have hSx := HFA.out _ hSw; (try dsimp only at hSx); clear hSw; go_simp) <;> (with_reducible rfl)
                    simp only [Act.put, List.setIfInBounds_toArray, List.set_cons_zero, List.set_cons_succ]
                    refine walkO_call (o := _) (by rw [HOPS.out]; simp only [List.getElem?_toArray, List.getElem?_cons_succ, List.getElem?_cons_zero]; exact rfl) (fun K HK => ?_)
                    refine step_call rfl 35 #[(.tmp 129), (.tmp 131)] #[68, 3] rfl HEC.out #[.pointer (some ⟨b, 0, none⟩), .int .i64 1] (by simp [Act.eval]) (HCC.out _ fd) ?_
                    rintro e w6 ⟨rfl, f6', hS⟩
                    have f6 : Fr [b, W, b0, b1] wz w6 := fdS.trans f6' (fun x hx => .inl hx) (fun x hx => .inl hx)
                    refine ⟨_, rfl, ?_⟩
                    refine HK.out (fun w' => Fr [b, W, b0, b1] wz w') _ _ (fun _ h => h) (f6) ?_
                    clear HK K
                    simp only [Act.put, List.setIfInBounds_toArray, List.set_cons_zero, List.set_cons_succ]
                    refine walkO_take (o := _) (v := ?_) (by rw [HOPS.out]; simp only [List.getElem?_toArray, List.getElem?_cons_succ, List.getElem?_cons_zero]; exact rfl) (Or.inl ⟨rfl, ?_⟩) ?_
                    rotate_left
                    · (intro w hSw; have hSx := HFA.out _ hSw; (try dsimp only at hSx); clear hSw; go_simp) <;> (with_reducible rfl)
                    simp only [Act.put, List.setIfInBounds_toArray, List.set_cons_zero, List.set_cons_succ]
                    refine walkO_take (o := _) (v := ?_) (by rw [HOPS.out]; simp only [List.getElem?_toArray, List.getElem?_cons_succ, List.getElem?_cons_zero]; exact rfl) (Or.inl ⟨rfl, ?_⟩) ?_
                    rotate_left
                    · (intro w hSw; have hSx := HFA.out _ hSw; (try dsimp only at hSx); clear hSw; go_simp) <;> (with_reducible rfl)
                    simp only [Act.put, List.setIfInBounds_toArray, List.set_cons_zero, List.set_cons_succ]
                    refine walkO_done ?_
                    clear HOPS OPS
                    have hcc : (!((closeE ⟨kd, sd, m, d, ex⟩ == 0) == (kd == 3))) = false := by
                      unfold closeE
                      by_cases h3 : kd = 3
                      · simp [h3]
                      · simp [h3]
                    rw [hcc]
                    have hm6 := HM.out.call f6 hS
                    have hlo := HM.out.lo
                    have hbl : ∀ x ∈ [b, W, b0, b1], w.heap.size ≤ x ∧ x < Q := by intro x hx; simp at hx; omega
                    have hb6 := HB.out.keep f6 (fun x hx => .inl (hbl x hx).2)
                    have g6 := HG.out.trans f6 (U := []) (by simp) (fun x hx => .inr (hbl x hx).1)
                    have a6 := HA.out.keep f6 HG.out.size (fun x hx => (hbl x hx).1)
                    have q6 := f6.keep HQ.out (fun hm => by have := (hbl _ hm).2; omega)
                    have o6 := f6.keep HO.out.1 (fun hm => by have := (hbl _ hm).2; omega)
                    have s6 := sl_keep HO.out.2 f6 (fun h0 b' o' e hm => by have := (hbl _ hm).2; have := HOB.out b' o' e; omega)
                    have wq6 := f6.keep HW.out (fun hm => by have := (hbl _ hm).2; omega)
                    have gs6 := sl_keep HGS.out.1 f6 (fun h0 b' o' e hm => by have := (hbl _ hm).2; have := HGB.out b' o' e; omega)
                    have dd6 := hdat.keep f6 HG.out.size (fun x hx => (hbl x hx).1)
                    have H6 := Lib.hid (And.intro hm6 (And.intro hb6 (And.intro g6 (And.intro a6 (And.intro q6 (And.intro o6 s6))))))
                    have HWQ6 := Lib.hid (And.intro wq6 gs6)
                    clear hm6 hb6 g6 a6 q6 o6 s6 wq6 gs6 hlo hbl
                    clear f6 f6' fd fdS hS HCC HFA dd6 hdat
                    go_wp2_with fail
                    go_meet
                    exact ⟨(closeS1 s), N0, N1, p0, p1, u0, u1, I0, I1, O0, O1, Lib.hid H6.out.1, Lib.hid H6.out.2.1, Lib.hid ⟨HN.out, (by have h := HL.out.2; exact ⟨by omega, by omega⟩)⟩, Lib.hid ⟨HXO.out, rfl⟩, Lib.hid H6.out.2.2.1, Lib.hid H6.out.2.2.2.1, Lib.hid H6.out.2.2.2.2.1, Lib.hid H6.out.2.2.2.2.2⟩
                · skip
                  as_aux_lemma =>
                    have HIV := Lib.hid HL.out.1.inv
                    go_wp2_with fail
                    go_meet
                    exact ⟨s, N0, N1, p0, p1, u0, u1, I0, I1, O0, O1, Lib.hid HM.out, Lib.hid HB.out, Lib.hid ⟨HL.out.1, (by have h := HL.out.2; exact ⟨by omega, by omega⟩)⟩, Lib.hid ⟨HXO.out, HIV.out.2.symm⟩, Lib.hid HG.out, Lib.hid HA.out, Lib.hid HQ.out, Lib.hid HO.out⟩
          case rest =>
            as_aux_lemma =>
              clear e0 e1 e2 e3 e4 HQ HM HB HG HA HL HW HGS HO HX HXO HGB HOB HROW HRD hdat
              rename World => w8
              obtain ⟨s2, M0, M1, p0, p1, u0, u1, I0, I1, O0, O1, HM, HB, HL, HN, HG, HA, HQ, HO⟩ := hcut
              have HRD2 : Hid (s2.t0.rd ≤ 200000 ∧ s2.t1.rd ≤ 200000) := Lib.hid (by have h0 := HL.out.1.a0.rd; have h1 := HL.out.1.a1.rd; have h := HL.out.2; have hk30 := hkb; have : (k + 1) * 5000 ≤ 30 * 5000 := Nat.mul_le_mul_right _ (by omega); omega)
              obtain ⟨kd, sd, m, d, ex, hx⟩ : ∃ k_ s_ m_ d_ e_, nextS s2.t1 s2.c1 1 = ⟨k_, s_, m_, d_, e_⟩ := ⟨_, _, _, _, _, rfl⟩
              have HXE := Lib.hid hx
              have HE := Lib.hid fun w1 (f : Fr [] w8 w1) => hx ▸ sp_next1 (HM.out.sp.keep0 f) (by have := HRD2.out; omega)
              have HOX := Lib.hid fun w1 (f : Fr [] w8 w1) => HN.out.1 ▸ sp_next0 (HM.out.sp.keep0 f) (by have := HRD2.out; omega)
              obtain ⟨e0, e1, e2, e3, e4⟩ := WBcells5 HQ.out
              clear hx
              go_wp2_with fail
              refine (HE.out _ (Fr.refl _ _)).mono ?_
              rintro e w9 ⟨v, rfl, f9, uu, rfl, ou⟩
              obtain ⟨g, j, rfl, _, _, gs, _⟩ := ou.formB
              clear ou HE e0 e1 e2 e3 e4
              obtain ⟨wa, hwa, fa, qa⟩ : ∃ W, w9.alloc (.cells #[.int .i64 kd, .int .i64 sd, .int .i64 m, .slice g d.length j, .int .i64 ex] 32) = W ∧ Fr [] w9 W ∧ W.heap[w9.heap.size]? = some (.cells #[.int .i64 kd, .int .i64 sd, .int .i64 m, .slice g d.length j, .int .i64 ex] 32 (0, 0)) := ⟨_, rfl, (Fr.refl _ _).alloc _, newA rfl⟩
              have ga := f9.then0 fa
              have gsa := sl_keep gs fa (by simp)
              clear gs f9 fa
              obtain ⟨e0, e1, e2, e3, e4⟩ := WBcells5 (ga.keep HQ.out (by simp))
              have hq1 := lt_of_heap qa
              go_wp2_with fail
              refine (HOX.out _ ga).mono ?_
              rintro e wb ⟨v, rfl, fb, uu, rfl, ou⟩
              obtain ⟨h, j2, rfl, _, _, hs, _⟩ := ou.formB
              clear ou HOX e0 e1 e2 e3 e4
              obtain ⟨wc, hwc, fc, qc⟩ : ∃ W, wb.alloc (.cells #[.int .i64 kdo, .int .i64 sdo, .int .i64 mo, .slice h do_.length j2, .int .i64 exo] 32) = W ∧ Fr [] wb W ∧ W.heap[wb.heap.size]? = some (.cells #[.int .i64 kdo, .int .i64 sdo, .int .i64 mo, .slice h do_.length j2, .int .i64 exo] 32 (0, 0)) := ⟨_, rfl, (Fr.refl _ _).alloc _, newA rfl⟩
              have gac := fb.then0 fc
              have g8c := ga.then0 gac
              have qac := gac.keep qa (by simp)
              have hsc := sl_keep hs fc (by simp)
              generalize hNB : w9.heap.size = NB at *
              generalize hSB : wb.heap.size = SB at *
              obtain ⟨z0, z1, z2, z3, z4⟩ := HB.out.q0 |> fun _ => (⟨trivial, trivial, trivial, trivial, trivial⟩ : True ∧ True ∧ True ∧ True ∧ True)
              clear z0 z1 z2 z3 z4
              obtain ⟨a0, a1, rfl, hbc0, bs0, _, _⟩ := Ow.formC HM.out.r1
              obtain ⟨a4, a5, rfl, hbc4, rs0, _, _⟩ := Ow.formC HM.out.r3
              have hT := HL.out.1.tail1
              have HC8 := Lib.hid (And.intro (HM.out.keep0 g8c) (And.intro (HB.out.keep0 g8c) (And.intro (HG.out.then0 g8c) (HA.out.keep g8c HG.out.size (by simp)))))
              have HQc := Lib.hid (g8c.keep HQ.out (by simp))
              have HOc := Lib.hid (And.intro (g8c.keep HO.out.1 (by simp)) (sl_keep HO.out.2 g8c (by simp)))
              have HNc := Lib.hid qac
              have HSc := Lib.hid (And.intro qc hsc)
              clear hwa ga gsa qa fb fc qc hs gac g8c qac hsc hq1 hNB
              have rsc : Sl wc a4 (bi O1) := Ow.slC HC8.out.1.r3
              have bsc : Sl wc a0 (bi I1) := Ow.slC HC8.out.1.r1
              have HFA := Lib.hid fun (w' : World) (f : Fr [] wc w') => (show w'.cell? ⟨X, 1, none⟩ = some (.int .i64 1) ∧ w'.cell? ⟨Q, 1, none⟩ = some (.slice a0 I1.length a1) ∧ w'.cell? ⟨Q + 1, 1, none⟩ = some (.slice a4 O1.length a5) ∧ w'.cell? ⟨OB, 0, none⟩ = some (.int .i64 kdo) ∧ w'.cell? ⟨OB, 1, none⟩ = some (.int .i64 sdo) ∧ w'.cell? ⟨OB, 2, none⟩ = some (.int .i64 mo) ∧ w'.cell? ⟨OB, 3, none⟩ = some (.slice go_ do_.length jo) ∧ w'.cell? ⟨OB, 4, none⟩ = some (.int .i64 exo) ∧ w'.cell? ⟨SB, 0, none⟩ = some (.int .i64 kdo) ∧ w'.cell? ⟨SB, 1, none⟩ = some (.int .i64 sdo) ∧ w'.cell? ⟨SB, 2, none⟩ = some (.int .i64 mo) ∧ w'.cell? ⟨SB, 3, none⟩ = some (.slice h do_.length j2) ∧ w'.cell? ⟨SB, 4, none⟩ = some (.int .i64 exo) ∧ (∀ cp, (convert 22 9 (.slice a4 O1.length cp)).run Try.prog w' = .ok (.string (st O1)) w') ∧ (∀ cp, (convert 22 9 (.slice a0 O1.length cp)).run Try.prog w' = .ok (.string (st O1)) w') ∧ (Instr.slice 22 (.slice a0 I1.length a1) none (some (.int .i64 O1.length)) none).run Try.prog w' = .ok (.slice a0 O1.length a1) w' from ⟨cell_of (f.keep HQc.out (by simp)), cell_of (f.keep HC8.out.2.1.q0 (by simp)), cell_of (f.keep HC8.out.2.1.q1 (by simp)), cell_of (f.keep HOc.out.1 (by simp)), cell_of (f.keep HOc.out.1 (by simp)), cell_of (f.keep HOc.out.1 (by simp)), cell_of (f.keep HOc.out.1 (by simp)), cell_of (f.keep HOc.out.1 (by simp)), cell_of (f.keep HSc.out.1 (by simp)), cell_of (f.keep HSc.out.1 (by simp)), cell_of (f.keep HSc.out.1 (by simp)), cell_of (f.keep HSc.out.1 (by simp)), cell_of (f.keep HSc.out.1 (by simp)), fun cp => conv_st (cap := cp) (sl_keep rsc f (by simp)) rfl, fun cp => by have h := conv_st (a := a0) (l := I1.take O1.length) (len := O1.length) (cap := cp) (w := w') (by rw [bi_take]; exact (sl_keep bsc f (by simp)).takeB _) (by rw [List.length_take]; omega); rw [hT.2.1] at h; exact h, run_upto hT.1 hbc0 w'⟩)
              have hx1 : ¬ ((I1.length : Int) < (O1.length : Int)) := by have := hT.1; omega
              have hx1n : ¬ (I1.length < O1.length) := by have := hT.1; omega
              have hst := st_self22 O1
              have HES := Lib.hid (Go.Proofs.enters_of Try.func40 (by kernel_rfl) rfl)
              have HT := Lib.hid hT
              clear rsc bsc bs0 rs0 hT
              go_wp2_with fail
              try rw [hSB]
              clear hwc hSB
              have fd : Fr [] wc wc.drew := (Fr.refl _ _).drew
              refine wp_region_order [(0, true), (1, true), (2, true), (3, true), (4, true), (5, true), (6, true), (7, true), (8, true), (9, false), (10, true), (11, true), (12, true), (13, true), (14, true), (15, true), (16, true), (17, true), (18, true), (19, true), (20, true), (21, true), (22, true), (23, true), (24, true), (25, true), (26, true), (27, true), (28, true), (29, true), (30, true), (31, true), (32, true), (33, true), (34, true), (35, true), (36, true), (37, true), (38, true), (39, true), (40, true), (41, true), (42, true), (43, true)] (fun w' => Fr [] wc w') (by kernel_rfl) (by kernel_rfl) fd ?_
              intro OPS HOPS
              have hops := HOPS.out
              try simp only [List.append_eq, List.cons_append, List.nil_append] at hops
              replace HOPS := Lib.hid hops
              clear hops
              refine walkO_take (o := _) (v := ?_) (by rw [HOPS.out]; simp only [List.getElem?_toArray, List.getElem?_cons_succ, List.getElem?_cons_zero]; exact rfl) (Or.inl ⟨rfl, ?_⟩) ?_
              rotate_left
              · (intro w hSw; have hSx := HFA.out _ hSw; (try dsimp only at hSx); clear hSw; go_simp) <;> (with_reducible rfl)
              simp only [Act.put, List.setIfInBounds_toArray, List.set_cons_zero, List.set_cons_succ]
              refine walkO_take (o := _) (v := ?_) (by rw [HOPS.out]; simp only [List.getElem?_toArray, List.getElem?_cons_succ, List.getElem?_cons_zero]; exact rfl) (Or.inl ⟨rfl, ?_⟩) ?_
              rotate_left
              · (intro w hSw; have hSx := HFA.out _ hSw; (try dsimp only at hSx); clear hSw; go_simp) <;> (with_reducible rfl)
              simp only [Act.put, List.setIfInBounds_toArray, List.set_cons_zero, List.set_cons_succ]
              refine walkO_take (o := _) (v := ?_) (by rw [HOPS.out]; simp only [List.getElem?_toArray, List.getElem?_cons_succ, List.getElem?_cons_zero]; exact rfl) (Or.inl ⟨rfl, ?_⟩) ?_
              rotate_left
              · (intro w hSw; have hSx := HFA.out _ hSw; (try dsimp only at hSx); clear hSw; go_simp) <;> (with_reducible rfl)
              simp only [Act.put, List.setIfInBounds_toArray, List.set_cons_zero, List.set_cons_succ]
              refine walkO_take (o := _) (v := ?_) (by rw [HOPS.out]; simp only [List.getElem?_toArray, List.getElem?_cons_succ, List.getElem?_cons_zero]; exact rfl) (Or.inl ⟨by rw [HOPS.out]; rfl, ?_⟩) ?_
              rotate_left
              · (intro w hSw; have hSx := HFA.out _ hSw; (try dsimp only at hSx); clear hSw; go_simp) <;> (with_reducible rfl)
              simp only [Act.put, List.setIfInBounds_toArray, List.set_cons_zero, List.set_cons_succ]
              refine walkO_take (o := _) (v := ?_) (by rw [HOPS.out]; simp only [List.getElem?_toArray, List.getElem?_cons_succ, List.getElem?_cons_zero]; exact rfl) (Or.inl ⟨by rw [HOPS.out]; rfl, ?_⟩) ?_
              rotate_left
              · (intro w hSw; have hSx := HFA.out _ hSw; (try dsimp only at hSx); clear hSw; go_simp) <;> (with_reducible rfl)
              simp only [Act.put, List.setIfInBounds_toArray, List.set_cons_zero, List.set_cons_succ]
              refine walkO_take (o := _) (v := ?_) (by rw [HOPS.out]; simp only [List.getElem?_toArray, List.getElem?_cons_succ, List.getElem?_cons_zero]; exact rfl) (Or.inl ⟨rfl, ?_⟩) ?_
              rotate_left
              · (intro w hSw; have hSx := HFA.out _ hSw; (try dsimp only at hSx); clear hSw; go_simp) <;> (with_reducible rfl)
              simp only [Act.put, List.setIfInBounds_toArray, List.set_cons_zero, List.set_cons_succ]
              refine walkO_take (o := _) (v := ?_) (by rw [HOPS.out]; simp only [List.getElem?_toArray, List.getElem?_cons_succ, List.getElem?_cons_zero]; exact rfl) (Or.inl ⟨rfl, ?_⟩) ?_
              rotate_left
              · (intro w hSw; have hSx := HFA.out _ hSw; (try dsimp only at hSx); clear hSw; go_simp) <;> (with_reducible rfl)
              simp only [Act.put, List.setIfInBounds_toArray, List.set_cons_zero, List.set_cons_succ]
              refine walkO_take (o := _) (v := ?_) (by rw [HOPS.out]; simp only [List.getElem?_toArray, List.getElem?_cons_succ, List.getElem?_cons_zero]; exact rfl) (Or.inl ⟨by rw [HOPS.out]; rfl, ?_⟩) ?_
              rotate_left
              · (intro w hSw; have hSx := HFA.out _ hSw; (try dsimp only at hSx); clear hSw; go_simp) <;> (with_reducible rfl)
              simp only [Act.put, List.setIfInBounds_toArray, List.set_cons_zero, List.set_cons_succ]
              refine walkO_take (o := _) (v := ?_) (by rw [HOPS.out]; simp only [List.getElem?_toArray, List.getElem?_cons_succ, List.getElem?_cons_zero]; exact rfl) (Or.inl ⟨by rw [HOPS.out]; rfl, ?_⟩) ?_
              rotate_left
              · (intro w hSw; have hSx := HFA.out _ hSw; (try dsimp only at hSx); clear hSw; go_simp) <;> (with_reducible rfl)
              simp only [Act.put, List.setIfInBounds_toArray, List.set_cons_zero, List.set_cons_succ]
              refine walkO_call (o := _) (by rw [HOPS.out]; simp only [List.getElem?_toArray, List.getElem?_cons_succ, List.getElem?_cons_zero]; exact rfl) (fun K HK => ?_)
              refine step_call (by rw [HOPS.out]; rfl) 40 #[(.tmp 160), (.tmp 161)] #[32, 32] rfl HES.out #[.agg #[.int .i64 kdo, .int .i64 sdo, .int .i64 mo, .slice go_ do_.length jo, .int .i64 exo], .agg #[.int .i64 kdo, .int .i64 sdo, .int .i64 mo, .slice h do_.length j2, .int .i64 exo]] (by simp [Act.eval]) (same_yes (x := ⟨kdo, sdo, mo, do_, exo⟩) ⟨_, _, rfl, sl_keep HOc.out.2 fd (by simp)⟩ ⟨_, _, rfl, sl_keep HSc.out.2 fd (by simp)⟩) ?_
              rintro e wd ⟨rfl, fs⟩
              have gd := fd.then0 fs
              refine ⟨_, rfl, ?_⟩
              refine HK.out (fun w' => Fr [] wc w') _ _ (fun _ h => h) (gd) ?_
              clear HK K
              simp only [Act.put, List.setIfInBounds_toArray, List.set_cons_zero, List.set_cons_succ]
              refine walkO_take (o := _) (v := ?_) (by rw [HOPS.out]; simp only [List.getElem?_toArray, List.getElem?_cons_succ, List.getElem?_cons_zero]; exact rfl) (Or.inl ⟨by rw [HOPS.out]; rfl, ?_⟩) ?_
              rotate_left
              · (intro w hSw; have hSx := HFA.out _ hSw; (try dsimp only at hSx); clear hSw; go_simp) <;> (with_reducible rfl)
              simp only [Act.put, List.setIfInBounds_toArray, List.set_cons_zero, List.set_cons_succ]
              refine walkO_take (o := _) (v := ?_) (by rw [HOPS.out]; simp only [List.getElem?_toArray, List.getElem?_cons_succ, List.getElem?_cons_zero]; exact rfl) (Or.inl ⟨rfl, ?_⟩) ?_
              rotate_left
              · (intro w hSw; have hSx := HFA.out _ hSw; (try dsimp only at hSx); clear hSw; go_simp) <;> (with_reducible rfl)
              simp only [Act.put, List.setIfInBounds_toArray, List.set_cons_zero, List.set_cons_succ]
              refine walkO_take (o := _) (v := ?_) (by rw [HOPS.out]; simp only [List.getElem?_toArray, List.getElem?_cons_succ, List.getElem?_cons_zero]; exact rfl) (Or.inl ⟨rfl, ?_⟩) ?_
              rotate_left
              · (intro w hSw; have hSx := HFA.out _ hSw; (try dsimp only at hSx); clear hSw; go_simp) <;> (with_reducible rfl)
              simp only [Act.put, List.setIfInBounds_toArray, List.set_cons_zero, List.set_cons_succ]
              refine walkO_take (o := _) (v := ?_) (by rw [HOPS.out]; simp only [List.getElem?_toArray, List.getElem?_cons_succ, List.getElem?_cons_zero]; exact rfl) (Or.inl ⟨by rw [HOPS.out]; rfl, ?_⟩) ?_
              rotate_left
              · (intro w hSw; have hSx := HFA.out _ hSw; (try dsimp only at hSx); clear hSw; go_simp) <;> (with_reducible rfl)
              simp only [Act.put, List.setIfInBounds_toArray, List.set_cons_zero, List.set_cons_succ]
              refine walkO_take (o := _) (v := ?_) (by rw [HOPS.out]; simp only [List.getElem?_toArray, List.getElem?_cons_succ, List.getElem?_cons_zero]; exact rfl) (Or.inl ⟨by rw [HOPS.out]; rfl, ?_⟩) ?_
              rotate_left
              · (intro w hSw; have hSx := HFA.out _ hSw; (try dsimp only at hSx); clear hSw; go_simp) <;> (with_reducible rfl)
              simp only [Act.put, List.setIfInBounds_toArray, List.set_cons_zero, List.set_cons_succ]
              refine walkO_take (o := _) (v := ?_) (by rw [HOPS.out]; simp only [List.getElem?_toArray, List.getElem?_cons_succ, List.getElem?_cons_zero]; exact rfl) (Or.inl ⟨by rw [HOPS.out]; rfl, ?_⟩) ?_
              rotate_left
              · (intro w hSw; have hSx := HFA.out _ hSw; (try dsimp only at hSx); clear hSw; go_simp) <;> (with_reducible rfl)
              simp only [Act.put, List.setIfInBounds_toArray, List.set_cons_zero, List.set_cons_succ]
              refine walkO_take (o := _) (v := ?_) (by rw [HOPS.out]; simp only [List.getElem?_toArray, List.getElem?_cons_succ, List.getElem?_cons_zero]; exact rfl) (Or.inl ⟨by rw [HOPS.out]; rfl, ?_⟩) ?_
              rotate_left
              · (intro w hSw; have hSx := HFA.out _ hSw; (try dsimp only at hSx); clear hSw; go_simp) <;> (with_reducible rfl)
              simp only [Act.put, List.setIfInBounds_toArray, List.set_cons_zero, List.set_cons_succ]
              refine walkO_take (o := _) (v := ?_) (by rw [HOPS.out]; simp only [List.getElem?_toArray, List.getElem?_cons_succ, List.getElem?_cons_zero]; exact rfl) (Or.inl ⟨by rw [HOPS.out]; rfl, ?_⟩) ?_
              rotate_left
              · (intro w hSw; have hSx := HFA.out _ hSw; (try dsimp only at hSx); clear hSw; go_simp) <;> (with_reducible rfl)
              simp only [Act.put, List.setIfInBounds_toArray, List.set_cons_zero, List.set_cons_succ]
              refine walkO_take (o := _) (v := ?_) (by rw [HOPS.out]; simp only [List.getElem?_toArray, List.getElem?_cons_succ, List.getElem?_cons_zero]; exact rfl) (Or.inl ⟨by rw [HOPS.out]; rfl, ?_⟩) ?_
              rotate_left
              · (intro w hSw; have hSx := HFA.out _ hSw; (try dsimp only at hSx); clear hSw; go_simp) <;> (with_reducible rfl)
              simp only [Act.put, List.setIfInBounds_toArray, List.set_cons_zero, List.set_cons_succ]
              refine walkO_take (o := _) (v := ?_) (by rw [HOPS.out]; simp only [List.getElem?_toArray, List.getElem?_cons_succ, List.getElem?_cons_zero]; exact rfl) (Or.inl ⟨by rw [HOPS.out]; rfl, ?_⟩) ?_
              rotate_left
              · (intro w hSw; have hSx := HFA.out _ hSw; (try dsimp only at hSx); clear hSw; go_simp) <;> (with_reducible rfl)
              simp only [Act.put, List.setIfInBounds_toArray, List.set_cons_zero, List.set_cons_succ]
              refine walkO_take (o := _) (v := ?_) (by rw [HOPS.out]; simp only [List.getElem?_toArray, List.getElem?_cons_succ, List.getElem?_cons_zero]; exact rfl) (Or.inl ⟨by rw [HOPS.out]; rfl, ?_⟩) ?_
              rotate_left
              · (intro w hSw; have hSx := HFA.out _ hSw; (try dsimp only at hSx); clear hSw; go_simp) <;> (with_reducible rfl)
              simp only [Act.put, List.setIfInBounds_toArray, List.set_cons_zero, List.set_cons_succ]
              refine walkO_take (o := _) (v := ?_) (by rw [HOPS.out]; simp only [List.getElem?_toArray, List.getElem?_cons_succ, List.getElem?_cons_zero]; exact rfl) (Or.inl ⟨by rw [HOPS.out]; rfl, ?_⟩) ?_
              rotate_left
              · (intro w hSw; have hSx := HFA.out _ hSw; (try dsimp only at hSx); clear hSw; go_simp) <;> (with_reducible rfl)
              simp only [Act.put, List.setIfInBounds_toArray, List.set_cons_zero, List.set_cons_succ]
              refine walkO_take (o := _) (v := ?_) (by rw [HOPS.out]; simp only [List.getElem?_toArray, List.getElem?_cons_succ, List.getElem?_cons_zero]; exact rfl) (Or.inl ⟨by rw [HOPS.out]; rfl, ?_⟩) ?_
              rotate_left
              · (intro w hSw; have hSx := HFA.out _ hSw; (try dsimp only at hSx); clear hSw; go_simp) <;> (with_reducible rfl)
              simp only [Act.put, List.setIfInBounds_toArray, List.set_cons_zero, List.set_cons_succ]
              refine walkO_take (o := _) (v := ?_) (by rw [HOPS.out]; simp only [List.getElem?_toArray, List.getElem?_cons_succ, List.getElem?_cons_zero]; exact rfl) (Or.inl ⟨by rw [HOPS.out]; rfl, ?_⟩) ?_
              rotate_left
              · (intro w hSw; have hSx := HFA.out _ hSw; (try dsimp only at hSx); clear hSw; go_simp) <;> (with_reducible rfl)
              simp only [Act.put, List.setIfInBounds_toArray, List.set_cons_zero, List.set_cons_succ]
              refine walkO_take (o := _) (v := ?_) (by rw [HOPS.out]; simp only [List.getElem?_toArray, List.getElem?_cons_succ, List.getElem?_cons_zero]; exact rfl) (Or.inl ⟨rfl, ?_⟩) ?_
              rotate_left
              · (intro w hSw; have hSx := HFA.out _ hSw; (try dsimp only at hSx); clear hSw; go_simp) <;> (with_reducible rfl)
              simp only [Act.put, List.setIfInBounds_toArray, List.set_cons_zero, List.set_cons_succ]
              refine walkO_take (o := _) (v := ?_) (by rw [HOPS.out]; simp only [List.getElem?_toArray, List.getElem?_cons_succ, List.getElem?_cons_zero]; exact rfl) (Or.inl ⟨rfl, ?_⟩) ?_
              rotate_left
              · (intro w hSw; have hSx := HFA.out _ hSw; (try dsimp only at hSx); clear hSw; go_simp) <;> (with_reducible rfl)
              simp only [Act.put, List.setIfInBounds_toArray, List.set_cons_zero, List.set_cons_succ]
              refine walkO_take (o := _) (v := ?_) (by rw [HOPS.out]; simp only [List.getElem?_toArray, List.getElem?_cons_succ, List.getElem?_cons_zero]; exact rfl) (Or.inl ⟨by rw [HOPS.out]; rfl, ?_⟩) ?_
              rotate_left
              · (intro w hSw; have hSx := HFA.out _ hSw; (try dsimp only at hSx); clear hSw; go_simp) <;> (with_reducible rfl)
              simp only [Act.put, List.setIfInBounds_toArray, List.set_cons_zero, List.set_cons_succ]
              refine walkO_take (o := _) (v := ?_) (by rw [HOPS.out]; simp only [List.getElem?_toArray, List.getElem?_cons_succ, List.getElem?_cons_zero]; exact rfl) (Or.inl ⟨by rw [HOPS.out]; rfl, ?_⟩) ?_
              rotate_left
              · (intro w hSw; have hSx := HFA.out _ hSw; (try dsimp only at hSx); clear hSw; go_simp) <;> (with_reducible rfl)
              simp only [Act.put, List.setIfInBounds_toArray, List.set_cons_zero, List.set_cons_succ]
              refine walkO_take (o := _) (v := ?_) (by rw [HOPS.out]; simp only [List.getElem?_toArray, List.getElem?_cons_succ, List.getElem?_cons_zero]; exact rfl) (Or.inl ⟨by rw [HOPS.out]; rfl, ?_⟩) ?_
              rotate_left
              · (intro w hSw; have hSx := HFA.out _ hSw; (try dsimp only at hSx); clear hSw; go_simp) <;> (with_reducible rfl)
              simp only [Act.put, List.setIfInBounds_toArray, List.set_cons_zero, List.set_cons_succ]
              refine walkO_take (o := _) (v := ?_) (by rw [HOPS.out]; simp only [List.getElem?_toArray, List.getElem?_cons_succ, List.getElem?_cons_zero]; exact rfl) (Or.inl ⟨by rw [HOPS.out]; rfl, ?_⟩) ?_
              rotate_left
              · (intro w hSw; have hSx := HFA.out _ hSw; (try dsimp only at hSx); clear hSw; go_simp) <;> (with_reducible rfl)
              simp only [Act.put, List.setIfInBounds_toArray, List.set_cons_zero, List.set_cons_succ]
              refine walkO_take (o := _) (v := ?_) (by rw [HOPS.out]; simp only [List.getElem?_toArray, List.getElem?_cons_succ, List.getElem?_cons_zero]; exact rfl) (Or.inl ⟨by rw [HOPS.out]; rfl, ?_⟩) ?_
              rotate_left
              · (intro w hSw; have hSx := HFA.out _ hSw; (try dsimp only at hSx); clear hSw; go_simp) <;> (with_reducible rfl)
              simp only [Act.put, List.setIfInBounds_toArray, List.set_cons_zero, List.set_cons_succ]
              refine walkO_take (o := _) (v := ?_) (by rw [HOPS.out]; simp only [List.getElem?_toArray, List.getElem?_cons_succ, List.getElem?_cons_zero]; exact rfl) (Or.inl ⟨by rw [HOPS.out]; rfl, ?_⟩) ?_
              rotate_left
              · (intro w hSw; have hSx := HFA.out _ hSw; (try dsimp only at hSx); clear hSw; go_simp) <;> (with_reducible rfl)
              simp only [Act.put, List.setIfInBounds_toArray, List.set_cons_zero, List.set_cons_succ]
              refine walkO_take (o := _) (v := ?_) (by rw [HOPS.out]; simp only [List.getElem?_toArray, List.getElem?_cons_succ, List.getElem?_cons_zero]; exact rfl) (Or.inl ⟨by rw [HOPS.out]; rfl, ?_⟩) ?_
              rotate_left
              · (intro w hSw; have hSx := HFA.out _ hSw; (try dsimp only at hSx); clear hSw; go_simp) <;> (with_reducible rfl)
              simp only [Act.put, List.setIfInBounds_toArray, List.set_cons_zero, List.set_cons_succ]
              refine walkO_take (o := _) (v := ?_) (by rw [HOPS.out]; simp only [List.getElem?_toArray, List.getElem?_cons_succ, List.getElem?_cons_zero]; exact rfl) (Or.inl ⟨by rw [HOPS.out]; rfl, ?_⟩) ?_
              rotate_left
              · (intro w hSw; have hSx := HFA.out _ hSw; (try dsimp only at hSx); clear hSw; go_simp) <;> (with_reducible rfl)
              simp only [Act.put, List.setIfInBounds_toArray, List.set_cons_zero, List.set_cons_succ]
              refine walkO_take (o := _) (v := ?_) (by rw [HOPS.out]; simp only [List.getElem?_toArray, List.getElem?_cons_succ, List.getElem?_cons_zero]; exact rfl) (Or.inl ⟨by rw [HOPS.out]; rfl, ?_⟩) ?_
              rotate_left
              · (intro w hSw; have hSx := HFA.out _ hSw; (try dsimp only at hSx); clear hSw; go_simp) <;> (with_reducible rfl)
              simp only [Act.put, List.setIfInBounds_toArray, List.set_cons_zero, List.set_cons_succ]
              refine walkO_take (o := _) (v := ?_) (by rw [HOPS.out]; simp only [List.getElem?_toArray, List.getElem?_cons_succ, List.getElem?_cons_zero]; exact rfl) (Or.inl ⟨by rw [HOPS.out]; rfl, ?_⟩) ?_
              rotate_left
              · (intro w hSw; have hSx := HFA.out _ hSw; (try dsimp only at hSx); clear hSw; go_simp) <;> (with_reducible rfl)
              simp only [Act.put, List.setIfInBounds_toArray, List.set_cons_zero, List.set_cons_succ]
              refine walkO_take (o := _) (v := ?_) (by rw [HOPS.out]; simp only [List.getElem?_toArray, List.getElem?_cons_succ, List.getElem?_cons_zero]; exact rfl) (Or.inl ⟨by rw [HOPS.out]; rfl, ?_⟩) ?_
              rotate_left
              · (intro w hSw; have hSx := HFA.out _ hSw; (try dsimp only at hSx); clear hSw; go_simp) <;> (with_reducible rfl)
              simp only [Act.put, List.setIfInBounds_toArray, List.set_cons_zero, List.set_cons_succ]
              refine walkO_take (o := _) (v := ?_) (by rw [HOPS.out]; simp only [List.getElem?_toArray, List.getElem?_cons_succ, List.getElem?_cons_zero]; exact rfl) (Or.inl ⟨by rw [HOPS.out]; rfl, ?_⟩) ?_
              rotate_left
              · (intro w hSw; have hSx := HFA.out _ hSw; (try dsimp only at hSx); clear hSw; go_simp) <;> (with_reducible rfl)
              simp only [Act.put, List.setIfInBounds_toArray, List.set_cons_zero, List.set_cons_succ]
              refine walkO_take (o := _) (v := ?_) (by rw [HOPS.out]; simp only [List.getElem?_toArray, List.getElem?_cons_succ, List.getElem?_cons_zero]; exact rfl) (Or.inl ⟨by rw [HOPS.out]; rfl, ?_⟩) ?_
              rotate_left
              · (intro w hSw; have hSx := HFA.out _ hSw; (try dsimp only at hSx); clear hSw; go_simp) <;> (with_reducible rfl)
              simp only [Act.put, List.setIfInBounds_toArray, List.set_cons_zero, List.set_cons_succ]
              refine walkO_take (o := _) (v := ?_) (by rw [HOPS.out]; simp only [List.getElem?_toArray, List.getElem?_cons_succ, List.getElem?_cons_zero]; exact rfl) (Or.inl ⟨by rw [HOPS.out]; rfl, ?_⟩) ?_
              rotate_left
              · (intro w hSw; have hSx := HFA.out _ hSw; (try dsimp only at hSx); clear hSw; go_simp) <;> (with_reducible rfl)
              simp only [Act.put, List.setIfInBounds_toArray, List.set_cons_zero, List.set_cons_succ]
              refine walkO_take (o := _) (v := ?_) (by rw [HOPS.out]; simp only [List.getElem?_toArray, List.getElem?_cons_succ, List.getElem?_cons_zero]; exact rfl) (Or.inl ⟨by rw [HOPS.out]; rfl, ?_⟩) ?_
              rotate_left
              · (intro w hSw; have hSx := HFA.out _ hSw; (try dsimp only at hSx); clear hSw; go_simp) <;> (with_reducible rfl)
              simp only [Act.put, List.setIfInBounds_toArray, List.set_cons_zero, List.set_cons_succ]
              refine walkO_take (o := _) (v := ?_) (by rw [HOPS.out]; simp only [List.getElem?_toArray, List.getElem?_cons_succ, List.getElem?_cons_zero]; exact rfl) (Or.inl ⟨by rw [HOPS.out]; rfl, ?_⟩) ?_
              rotate_left
              · (intro w hSw; have hSx := HFA.out _ hSw; (try dsimp only at hSx); clear hSw; go_simp) <;> (with_reducible rfl)
              simp only [Act.put, List.setIfInBounds_toArray, List.set_cons_zero, List.set_cons_succ]
              refine walkO_take (o := _) (v := ?_) (by rw [HOPS.out]; simp only [List.getElem?_toArray, List.getElem?_cons_succ, List.getElem?_cons_zero]; exact rfl) (Or.inl ⟨by rw [HOPS.out]; rfl, ?_⟩) ?_
              rotate_left
              · (intro w hSw; have hSx := HFA.out _ hSw; (try dsimp only at hSx); clear hSw; go_simp) <;> (with_reducible rfl)
              simp only [Act.put, List.setIfInBounds_toArray, List.set_cons_zero, List.set_cons_succ]
              refine walkO_take (o := _) (v := ?_) (by rw [HOPS.out]; simp only [List.getElem?_toArray, List.getElem?_cons_succ, List.getElem?_cons_zero]; exact rfl) (Or.inl ⟨rfl, ?_⟩) ?_
              rotate_left
              · (intro w hSw; have hSx := HFA.out _ hSw; (try dsimp only at hSx); clear hSw; go_simp) <;> (with_reducible rfl)
              simp only [Act.put, List.setIfInBounds_toArray, List.set_cons_zero, List.set_cons_succ]
              refine walkO_done ?_
              clear HOPS OPS
              have HF := Lib.hid gd
              clear fs fd gd HFA HES hst
              go_wp2_with fail
              have HK := Lib.hid fun w' (f : Fr [] wc w') => (show (w'.cell? ⟨X, 1, none⟩ = some (.int .i64 1) ∧ w'.cell? ⟨Q, 1, none⟩ = some (.slice a0 I1.length a1) ∧ w'.cell? ⟨Q + 1, 1, none⟩ = some (.slice a4 O1.length a5)) ∧ (w'.cell? ⟨NB, 0, none⟩ = some (.int .i64 kd) ∧ w'.cell? ⟨NB, 4, none⟩ = some (.int .i64 ex)) ∧ w'.cell? ⟨SB, 0, none⟩ = some (.int .i64 kdo) from ⟨⟨cell_of (f.keep HQc.out (by simp)), cell_of (f.keep HC8.out.2.1.q0 (by simp)), cell_of (f.keep HC8.out.2.1.q1 (by simp))⟩, ⟨cell_of (f.keep HNc.out (by simp)), cell_of (f.keep HNc.out (by simp))⟩, cell_of (f.keep HSc.out.1 (by simp))⟩)
              obtain ⟨⟨c1, c2, c3⟩, ⟨c4, c5⟩, c6⟩ := HK.out _ HF.out
              have hk3 := HT.out.2.2
              rw [HXE.out] at hk3
              have HK3 := Lib.hid hk3
              clear hk3
              go_cut [212] (fun v wx => v = .bool false ∧ Fr [] wc wx)
              case first =>
                as_aux_lemma =>
                  by_cases h3 : kd = 3
                  · subst h3
                    have hle := HK3.out rfl
                    have hne : ((I1.length : Int) != (O1.length : Int)) = false := by rw [hle]; simp
                    clear hle
                    go_wp2_with fail
                    go_quiet (fail)
                    have fx := HF.out.then0 ((Fr.refl [] wd).drewN nq)
                    go_wp2_with fail
                    go_meet
                    exact ⟨rfl, fx⟩
                  · have h3b : (kd == 3) = false := by simpa using h3
                    go_wp2_with fail
                    go_quiet (fail)
                    have fx := HF.out.then0 ((Fr.refl [] wd).drewN nq)
                    go_wp2_with fail
                    go_meet
                    exact ⟨rfl, fx⟩
              case rest =>
                clear c1 c2 c3 c4 c5 c6
                obtain ⟨rfl, hcut⟩ := hcut
                rename World => we
                have HF2 := Lib.hid hcut
                clear hcut
                obtain ⟨⟨c1, c2, c3⟩, ⟨c4, c5⟩, c6⟩ := HK.out _ HF2.out
                have hfs : s2.first = noteF s.first ⟨kd, sd, m, d, ex⟩ := by have h := HN.out.2; rw [HXE.out] at h; exact h
                unfold noteF at hfs
                have HFS := Lib.hid hfs
                clear hfs
                by_cases h4 : kd = 4
                · subst h4
                  by_cases hf0 : s.first = 0
                  · have HE1 : Hid (s2.first = ex) := Lib.hid (by have h := HFS.out; rw [if_pos ⟨rfl, hf0⟩] at h; exact h)
                    have hfb : (s.first == 0) = true := by simpa using hf0
                    clear hf0 HFS
                    by_cases h5 : kdo = 4
                    · subst h5
                      have HDN := Lib.hid (done22 (done_sp (d := true) (HC8.out.1.sp.keep0 HF2.out) (by have := HRD2.out; omega) (by have := HRD2.out; omega) (by rw [HN.out.1, HXE.out]; simp)))
                      rw [HE1.out] at HDN
                      go_wp2_with fail
                      refine HDN.out.mono ?_
                      rintro e wf ⟨rfl, ff⟩
                      have HFF := Lib.hid (HF2.out.then0 ff)
                      clear ff HDN c1 c2 c3 c4 c5 c6
                      go_wp2_with fail
                      go_roundw
                      case rel => exact ⟨k + 1, s2, M0, M1, _, _, _, _, I0, I1, O0, O1, by omega, (by rw [HE1.out]), by go_num, Lib.hid (HC8.out.1.keep0 HFF.out), Lib.hid (HC8.out.2.1.keep0 HFF.out), HL, Lib.hid (HC8.out.2.2.1.then0 HFF.out), Lib.hid (HC8.out.2.2.2.keep HFF.out HC8.out.2.2.1.size (by simp))⟩
                      case measure => simp [intOf]; omega
                    · have h5b : (kdo == 4) = false := by simpa using h5
                      have HDN := Lib.hid (done22 (done_sp (d := false) (HC8.out.1.sp.keep0 HF2.out) (by have := HRD2.out; omega) (by have := HRD2.out; omega) (by rw [HN.out.1, HXE.out]; simp [h5])))
                      rw [HE1.out] at HDN
                      go_wp2_with fail
                      refine HDN.out.mono ?_
                      rintro e wf ⟨rfl, ff⟩
                      have HFF := Lib.hid (HF2.out.then0 ff)
                      clear ff HDN c1 c2 c3 c4 c5 c6
                      go_wp2_with fail
                      go_roundw
                      case rel => exact ⟨k + 1, s2, M0, M1, _, _, _, _, I0, I1, O0, O1, by omega, (by rw [HE1.out]), by go_num, Lib.hid (HC8.out.1.keep0 HFF.out), Lib.hid (HC8.out.2.1.keep0 HFF.out), HL, Lib.hid (HC8.out.2.2.1.then0 HFF.out), Lib.hid (HC8.out.2.2.2.keep HFF.out HC8.out.2.2.1.size (by simp))⟩
                      case measure => simp [intOf]; omega
                  · have HE1 : Hid (s2.first = s.first) := Lib.hid (by have h := HFS.out; rw [if_neg (fun hh => hf0 hh.2)] at h; exact h)
                    have hfb : (s.first == 0) = false := by simpa using hf0
                    clear hf0 HFS
                    by_cases h5 : kdo = 4
                    · subst h5
                      have HDN := Lib.hid (done22 (done_sp (d := true) (HC8.out.1.sp.keep0 HF2.out) (by have := HRD2.out; omega) (by have := HRD2.out; omega) (by rw [HN.out.1, HXE.out]; simp)))
                      rw [HE1.out] at HDN
                      go_wp2_with fail
                      refine HDN.out.mono ?_
                      rintro e wf ⟨rfl, ff⟩
                      have HFF := Lib.hid (HF2.out.then0 ff)
                      clear ff HDN c1 c2 c3 c4 c5 c6
                      go_wp2_with fail
                      go_roundw
                      case rel => exact ⟨k + 1, s2, M0, M1, _, _, _, _, I0, I1, O0, O1, by omega, (by rw [HE1.out]), by go_num, Lib.hid (HC8.out.1.keep0 HFF.out), Lib.hid (HC8.out.2.1.keep0 HFF.out), HL, Lib.hid (HC8.out.2.2.1.then0 HFF.out), Lib.hid (HC8.out.2.2.2.keep HFF.out HC8.out.2.2.1.size (by simp))⟩
                      case measure => simp [intOf]; omega
                    · have h5b : (kdo == 4) = false := by simpa using h5
                      have HDN := Lib.hid (done22 (done_sp (d := false) (HC8.out.1.sp.keep0 HF2.out) (by have := HRD2.out; omega) (by have := HRD2.out; omega) (by rw [HN.out.1, HXE.out]; simp [h5])))
                      rw [HE1.out] at HDN
                      go_wp2_with fail
                      refine HDN.out.mono ?_
                      rintro e wf ⟨rfl, ff⟩
                      have HFF := Lib.hid (HF2.out.then0 ff)
                      clear ff HDN c1 c2 c3 c4 c5 c6
                      go_wp2_with fail
                      go_roundw
                      case rel => exact ⟨k + 1, s2, M0, M1, _, _, _, _, I0, I1, O0, O1, by omega, (by rw [HE1.out]), by go_num, Lib.hid (HC8.out.1.keep0 HFF.out), Lib.hid (HC8.out.2.1.keep0 HFF.out), HL, Lib.hid (HC8.out.2.2.1.then0 HFF.out), Lib.hid (HC8.out.2.2.2.keep HFF.out HC8.out.2.2.1.size (by simp))⟩
                      case measure => simp [intOf]; omega
                · have HE1 : Hid (s2.first = s.first) := Lib.hid (by have h := HFS.out; rw [if_neg (fun hh => h4 hh.1)] at h; exact h)
                  have h4b : (kd == 4) = false := by simpa using h4
                  clear HFS
                  have HDN := Lib.hid (done22 (done_sp (d := false) (HC8.out.1.sp.keep0 HF2.out) (by have := HRD2.out; omega) (by have := HRD2.out; omega) (by rw [HN.out.1, HXE.out]; simp [h4])))
                  rw [HE1.out] at HDN
                  go_wp2_with fail
                  refine HDN.out.mono ?_
                  rintro e wf ⟨rfl, ff⟩
                  have HFF := Lib.hid (HF2.out.then0 ff)
                  clear ff HDN c1 c2 c3 c4 c5 c6
                  go_wp2_with fail
                  go_roundw
                  case rel => exact ⟨k + 1, s2, M0, M1, _, _, _, _, I0, I1, O0, O1, by omega, (by rw [HE1.out]), by go_num, Lib.hid (HC8.out.1.keep0 HFF.out), Lib.hid (HC8.out.2.1.keep0 HFF.out), HL, Lib.hid (HC8.out.2.2.1.then0 HFF.out), Lib.hid (HC8.out.2.2.2.keep HFF.out HC8.out.2.2.1.size (by simp))⟩
                  case measure => simp [intOf]; omega
        · as_aux_lemma =>
            have HSD := Lib.hid fun W0 => (show Calls Try.prog 32 #[.int .i64 fr] W0 fun e w' => e = .returned (.bool false) ∧ W0 = w' from by have h := rs_side W0 fr; rw [show (fr == 0 || fr == 1) = false from by simp [hf0, hf1]] at h; exact h)
            go_wp2_with fail
            refine (HSD.out _).mono ?_
            rintro e w' ⟨rfl, rfl⟩
            clear HSD
            go_wp2_with fail
            go_roundw
            case rel => exact ⟨k + 1, s, N0, N1, p0, p1, u0, u1, I0, I1, O0, O1, by omega, rfl, by go_num, HM5, HB5, Lib.hid ⟨HL.out.1, by have h := HL.out.2; exact ⟨by omega, by omega⟩⟩, HG5, HA5⟩
            case measure => simp [intOf]; omega
    · as_aux_lemma =>
        go_wp2_with fail
        refine (known22 _).mono ?_
        rintro e w99 ⟨rfl, f99⟩
        go_wp2_with fail
        go_ret
        exact ⟨rfl, HGr.out.then0 f99⟩
set_option maxHeartbeats 16000000 in
theorem spliceHolds_walk {sg : Int} {a : Option Addr} {len cap : Nat} (w : World) (hA : ∃ A, Acts22 w w.heap.size a len cap A) :
    Calls Try.prog 10 #[.int .i64 sg, .slice a len cap] w fun e w' => e = .returned (.bool true) ∧ Fr [] w w' := by
  obtain ⟨A, hA⟩ := hA
  by_cases hk : okS sg (-1) = true ∧ fewB22 A = true
  · exact spliceHolds_main w hk.1 hA hk.2
  · have HFW := Lib.hid (few22 hA)
    have HVA := Lib.hid fun w => rvalid w sg (-1)
    rcases Bool.eq_false_or_eq_true (fewB22 A) with hf | hf
    · rw [hf] at HFW
      have hk' : okS sg (-1) = false := by simpa [hf] using hk
      rw [hk'] at HVA
      clear hk hA hk' hf
      go_enter Try.func10, Try.ntmps10
      go_wp2_with fail
      refine HFW.out.mono ?_
      rintro e w' ⟨rfl, rfl⟩
      go_wp2_with fail
      refine (HVA.out _).mono ?_
      rintro e w' ⟨rfl, rfl⟩
      go_wp2_with fail
      refine (known22 _).mono ?_
      rintro e w9 ⟨rfl, f9⟩
      go_wp2_with fail
      go_ret
      exact ⟨rfl, f9⟩
    · rw [hf] at HFW
      clear hk hA hf HVA
      go_enter Try.func10, Try.ntmps10
      go_wp2_with fail
      refine HFW.out.mono ?_
      rintro e w' ⟨rfl, rfl⟩
      go_wp2_with fail
      refine (known22 _).mono ?_
      rintro e w9 ⟨rfl, f9⟩
      go_wp2_with fail
      go_ret
      exact ⟨rfl, f9⟩
end Go.Proofs.Ytodpkdbcdbdjfaa
