/-
  Law 41: ShaperHolds: what was received is what was sent, in order, not before its time.
-/
import Derived.Test.YtdndabklcenndaaShHoldW
import Derived.Test.YtdndabklcenndaaShBegin
import Derived.Deep.DeepCutAuto
namespace Go.Proofs.Ytdndabklcenndaa
open Go.RowKit
set_option maxRecDepth 100000

set_option maxHeartbeats 16000000 in
theorem shaperHolds_main {r p u lat lim now : Int} {a : Option Addr} {len cap : Nat} {A : List A41} (w : World) (hv : ValS r p u lat lim now) (h0 : 0 ≤ now) (h1 : now ≤ 1099511627776) (hA : Acts41 w w.heap.size a len cap A) (hs : fewB41 A = true) :
    Calls Try.prog 10 #[.agg #[.int .i64 r, .int .i64 p, .int .i64 u, .int .i64 lat, .int .i64 lim, .int .u64 now], .slice a len cap] w fun e w' => e = .returned (.bool true) ∧ Fr [] w w' := by
  have hle := hA.len_eq
  subst hle
  obtain ⟨n20, hok20⟩ := fewB41_iff hs
  have HOK := Lib.hid hok20
  have hl20 : (A.length : Int) ≤ 20 := by omega
  obtain ⟨wb, hwb, fb, qb⟩ : ∃ W, w.alloc (.cells #[.int .i64 r, .int .i64 p, .int .i64 u, .int .i64 lat, .int .i64 lim, .int .u64 now] 56) = W ∧ Fr [] w W ∧ W.heap[w.heap.size]? = some (.cells #[.int .i64 r, .int .i64 p, .int .i64 u, .int .i64 lat, .int .i64 lim, .int .u64 now] 56 (0, 0)) := ⟨_, rfl, (Fr.refl _ _).alloc _, newA rfl⟩
  have HFE := Lib.hid hs
  have HM := Lib.hid fun w => made41_ok w hv h0 (by omega)
  have HV := Lib.hid fun w => valid41_yes w hv
  have HLAT := Lib.hid (And.intro hv.2.1 hv.2.2.1)
  have HA0 := Lib.hid hA
  clear hv hs hok20 n20 hA
  go_enter Try.func10, Try.ntmps10
  go_wp2_with (refine wpList_load_row rfl 56 (.tmp 2) rfl _ rfl _ _ _ _ qb Try.underlying56 rfl (by kernel_rfl) ?_)
  refine (HV.out _).mono ?_
  rintro e w1 ⟨rfl, f1⟩
  have q1 := f1.keep qb (by simp)
  have d5 : w1.cell? ⟨w.heap.size, 5, none⟩ = some (.int .u64 now) := cell_of q1
  have HFW1 := Lib.hid (fun e => e ▸ few41 (HA0.out.keep (fb.then0 f1) (Nat.le_refl _) (by simp)) : ∀ (_e : fewB41 A = true), Calls Try.prog 33 #[.slice a A.length cap, .int .i64 20] w1 fun e w' => e = .returned (.bool true) ∧ w1 = w')
  replace HFW1 := HFW1.out HFE.out
  go_wp2_with fail
  refine HFW1.mono ?_
  rintro e w1' ⟨rfl, rfl⟩
  clear HFW1 HFE HV
  go_wp2_with (refine wpList_load_row rfl 56 (.tmp 2) rfl _ rfl _ _ _ _ q1 Try.underlying56 rfl (by kernel_rfl) ?_)
  refine (HM.out _).mono ?_
  rintro e w2 ⟨b, k0, rfl, f2, s2, l1, l2⟩
  have q2 := f2.keep q1 (by simp)
  have d5' : w2.cell? ⟨w.heap.size, 5, none⟩ = some (.int .u64 now) := cell_of q2
  have fb2 := (fb.then0 f1).then0 f2
  have z1 := f1.size
  have zb := lt_of_heap qb
  have HW0 : Go.Proofs.Ytdndabklcenndaa.HW w w2 [b, k0] b k0 (newH r p u lat lim now) #[.int .i64 r, .int .i64 p, .int .i64 u, .int .i64 lat, .int .i64 lim, .int .u64 now] none 0 [] none 0 [] none 0 [] a A.length cap A := by
    refine ⟨s2, ?_, Ow.nil _ _ _, Ow.nil _ _ _, Ow.nil _ _ _, by simp, by simp, by simp, q2, fb2, HA0.out.keep fb2 (Nat.le_refl _) (by simp)⟩
    intro y hy
    simp at hy
    omega
  have HH0 : HH (newH r p u lat lim now) [] [] [] 0 := by
    refine ⟨newH_sorted _ _ _ _ _ _, rfl, by simp [newH, flatS], rfl, by simp, by simp [newH, flatS], ?_, by simp [newH], by simp [newH]⟩
    have h3 := (plusT_bd (plusT_bd h0 (tk_nonneg (n := max 0 (-(u * p))) s2.ok.inv.r1 (by omega))).1 HLAT.out.1).1
    exact h3
  have HW0 := Lib.hid HW0
  have HH0 := Lib.hid HH0
  clear HA0 s2 q1 HM f1 f2 fb2 d5
  go_wp2_with fail
  go_loopw [7, 8, 9, 10, 11, 12] (fun v7 v8 v9 v10 v11 i wr => ∃ (k : Nat) (L : List Nat) (s : SH) (got sent : List UInt8) (times : List Int) (nw nx : Int) (sa ga ta : Option Addr) (sc gc tc : Nat), k ≤ A.length ∧ i = .int .i64 k ∧ v7 = .int .u64 nw ∧ v8 = .int .u64 nx ∧ v9 = .slice sa sent.length sc ∧ v10 = .slice ga got.length gc ∧ v11 = .slice ta times.length tc ∧
      (0 ≤ nw ∧ nw ≤ 1099511627776 + (k : Int) * 100000) ∧ Hid (HH s got sent times nx ∧ s.lat = lat ∧ s.last ≤ nw ∧ s.segs.length ≤ k ∧ sent.length ≤ k * 100) ∧ Hid (Go.Proofs.Ytdndabklcenndaa.HW w wr L b k0 s #[.int .i64 r, .int .i64 p, .int .i64 u, .int .i64 lat, .int .i64 lim, .int .u64 now] sa sc sent ga gc got ta tc times a A.length cap A)) (fun _ _ _ _ _ i _ => A.length - (intOf i).toNat)
  case atStart => exact ⟨0, [b, k0], newH r p u lat lim now, [], [], [], now, 0, none, none, none, 0, 0, 0, by omega, rfl, rfl, rfl, rfl, rfl, rfl, ⟨h0, by omega⟩, Lib.hid ⟨HH0.out, rfl, Int.le_refl _, by simp [newH], by simp⟩, HW0⟩
  case round =>
    clear HW0 HH0
    obtain ⟨k, L, s, got, sent, times, nw, nx, sa, ga, ta, sc, gc, tc, hk, rfl, rfl, rfl, rfl, rfl, rfl, ⟨hn0, hn1⟩, HI, HW⟩ := hrel
    rename World => wr
    by_cases hlt : (k : Int) < A.length
    · as_aux_lemma =>
        have hkA : k < A.length := by omega
        obtain ⟨ab, ao, pa, pl, pc, rfl, habM, hab, c0, c1, c2, c3, hd, ⟨x0, x1⟩, ⟨y0, y1⟩, ⟨z0, z1⟩⟩ := HW.out.ac.at_ k hkA
        have hok := HOK.out A[k] (List.getElem_mem hkA)
        generalize A[k] = ak at c0 c1 c2 c3 hd hok x0 x1 y0 y1 z0 z1
        obtain ⟨what, tm, data, n⟩ := ak
        dsimp only at c0 c1 c2 c3 hd hok x0 x1 y0 y1 z0 z1
        have hpl := hd.len_eq
        subst hpl
        obtain ⟨md, hmd⟩ : ∃ md, tm % 100000 = md := ⟨_, rfl⟩
        have hm0 : 0 ≤ md ∧ md < 100000 := by omega
        have hmt : tm.tmod 100000 = md := by rw [Int.tmod_eq_emod_of_nonneg y0]; exact hmd
        have hmw : IntKind.u64.wrap md = md := IntWalk.u64_in _ (by omega)
        have hdl : data.length ≤ 100 := hok
        have HARG := Lib.hid hd
        clear hd hok hmd y0 y1
        go_upto_region 13 with fail
        obtain ⟨NW, hNW⟩ : ∃ NW, nw + md = NW := ⟨_, rfl⟩
        have hN0 : 0 ≤ NW := by omega
        have hN1 : NW ≤ 1099511627776 + ((k + 1 : Nat) : Int) * 100000 := by omega
        have hN2 : NW ≤ 4000000000000 := by omega
        have HN := Lib.hid (show nw ≤ NW by omega)
        rw [hNW]
        clear hmt hmw hm0 hNW hn1 hn0
        by_cases qw : what = 0
        · as_aux_lemma =>
            subst qw
            obtain ⟨m, e1, e2, e3, HH2, e5, e6, e7⟩ := HI.out.1.send HW.out.sh.ok hN0 hN2 (Int.le_trans HI.out.2.2.1 HN.out) data hdl
            have SND := sh_send HW.out.sh hN0 (by omega) HARG.out.sl (fun b' o' hl e => fun hm => by have := HARG.out.old b' o' hl e; have := HW.out.lo b' hm; omega) (show data.length ≤ 100000 by omega) HARG.out.le
            rw [e1] at SND
            obtain ⟨S2, hS2⟩ : ∃ S2, sendH s NW data = S2 := ⟨_, rfl⟩
            obtain ⟨E2, hE2⟩ : ∃ E2, sent ++ data.take m = E2 := ⟨_, rfl⟩
            obtain ⟨X2, hX2⟩ : ∃ X2, times ++ List.replicate m NW = X2 := ⟨_, rfl⟩
            obtain ⟨ER, hER⟩ : ∃ ER, sendE s NW data.length = ER := ⟨_, rfl⟩
            rw [hS2, hE2, hX2] at HH2
            rw [hS2] at e5 e6 e7
            rw [hS2, hER] at SND
            rw [hER] at e3
            have htl : (data.take m).length = m := by rw [List.length_take]; omega
            have hEl : E2.length = sent.length + m := by rw [← hE2, List.length_append, htl]
            have hXl : X2.length = times.length + m := by rw [← hX2]; simp
            have HI2 := Lib.hid (And.intro HH2 (And.intro (e6.trans HI.out.2.1) (And.intro e7 (And.intro (show S2.segs.length ≤ k + 1 by have := HI.out.2.2.2.1; omega) (show E2.length ≤ (k + 1) * 100 by have := HI.out.2.2.2.2; omega)))))
            have HSND := Lib.hid SND
            have HXE := Lib.hid (And.intro hE2 hX2)
            have hml : (m : Int) ≤ data.length := by omega
            have hml2 : (m : Int) ≤ 100 := by omega
            have hsl : sent.length ≤ 2100 := by have := HI.out.2.2.2.2; omega
            have HER := Lib.hid e3
            clear e1 HH2 e5 e6 e7 hS2 hER SND e3 hE2 hX2 HI
            go_wp2_with fail
            refine HSND.out.mono ?_
            rintro e w6 ⟨rfl, f6, L2, sh6, hL6⟩
            have HW6 := Lib.hid (HW.out.step f6 sh6 hL6)
            have habL : ab ∉ L := fun hm => by have := HW.out.lo ab hm; omega
            have c2' : w6.cell? ⟨ab, ao + k * 4 + 2, none⟩ = some (.slice pa data.length pc) := (World.cell?_of_block (w := wr) (f6.block ab hab habL)).trans c2
            have HAR6 := Lib.hid (HARG.out.keep f6 HW.out.fr.size (fun x hx => Nat.le_of_lt (HW.out.lo x hx)))
            clear HSND sh6 hL6 f6 HW HARG c0 c1 c2 c3
            go_upto_region 15 with fail
            go_cut [101] (fun v wx => v = .bool false ∧ w6 = wx)
            case first =>
              by_cases hE0 : ER = 0
              · subst hE0
                go_wp2_with fail
                go_meet
                exact ⟨by first | rfl | (simp; omega), rfl⟩
              · have hm0 := HER.out hE0
                subst hm0
                have hb1 : (ER == 0) = false := by simpa using hE0
                have hb2 : (ER != 0) = true := by simpa using hE0
                go_wp2_with fail
                go_meet
                exact ⟨by first | rfl | (simp; omega), rfl⟩
            case rest =>
              obtain ⟨rfl, rfl⟩ := hcut
              have HU : Hid (Try.prog.underlying 68 = some (.slice 5)) := Lib.hid (by kernel_rfl)
              have HIN : Hid ((Try.prog.info? 5).map (fun i => (i.zero, i.size, i.bytes)) = some (some (.int .u8 0), 1, 1)) := Lib.hid (by kernel_rfl)
              have H1 : Hid (((bi sent).map (Value.int .u8)).length + m ≤ maxLen) := Lib.hid (by unfold maxLen; simp [bi_length]; omega)
              have H2 : Hid ((((bi sent).map (Value.int .u8)).length + m) * 1 ≤ 140737488355328) := Lib.hid (by simp [bi_length]; omega)
              have H3 : Hid (((bi (data.take m)).map (Value.int .u8)).length = m) := Lib.hid (by simp only [List.length_map, bi_length]; exact htl)
              have HSV : Hid (SlV w6 pa ((bi (data.take m)).map (Value.int .u8))) := Lib.hid (HAR6.out.take e2).sl.toV
              have HMw : Hid (w.heap.size + 1 ≤ w6.heap.size) := Lib.hid (lt_of_heap HW6.out.bx)
              have HLE := Lib.hid HAR6.out.le
              have hmpc : (m : Int) ≤ pc := by have := HLE.out; omega
              have HTL := Lib.hid htl
              have HXL := Lib.hid hXl
              clear htl hEl hXl hsl
              go_wp2_with (refine wpList_append_fr _ rfl (.tmp 102) (.tmp 109) 68 rfl 5 (.int .u8 0) 1 HU.out HIN.out rfl (w.heap.size + 1) (.slice sa sent.length sc) ((bi sent).map (Value.int .u8)) (by exact rfl) HW6.out.o1 pa m pc ((bi (data.take m)).map (Value.int .u8)) (by exact rfl) H3.out HSV.out (oneCell_bytes _) (by exact H1.out) (by exact H2.out) HMw.out ?_)
              intro v' w7 o7 f7 hb
              replace o7 := o7.out
              rw [← List.map_append, ← bi_append, HXE.out.1] at o7
              obtain ⟨sa2, sc2, rfl, _⟩ := o7.formB
              have HW7 := Lib.hid (HW6.out.app1 (c' := sc2) f7 o7 hb)
              clear HU HIN H1 H2 H3 HSV HMw HW6 HAR6 o7 f7 hb c2' HLE hmpc
              go_wp2_with fail
              go_loopw [11, 15] (fun v11 j wx => ∃ (q : Nat) (tx : Option Addr) (tq : Nat), q ≤ m ∧ j = .int .i64 q ∧ v11 = .slice tx (times.length + q) tq ∧ Hid (Go.Proofs.Ytdndabklcenndaa.HW w wx L2 b k0 S2 #[.int .i64 r, .int .i64 p, .int .i64 u, .int .i64 lat, .int .i64 lim, .int .u64 now] sa2 sc2 E2 ga gc got tx tq (times ++ List.replicate q NW) (some ⟨ab, ao, none⟩) A.length cap A)) (fun _ j _ => m - (intOf j).toNat)
              case atStart => exact ⟨0, ta, tc, by omega, rfl, rfl, Lib.hid (by simpa using HW7.out)⟩
              case round =>
                clear HW7
                obtain ⟨q, tx, tq, hq, rfl, rfl, HW8⟩ := hrel
                rename World => wx
                by_cases hlq : (q : Int) < m
                · have HU : Hid (Try.prog.underlying 75 = some (.slice 25)) := Lib.hid (by kernel_rfl)
                  have HIN : Hid ((Try.prog.info? 25).map (fun i => (i.zero, i.size, i.bytes)) = some (some (.int .u64 0), 1, 8)) := Lib.hid (by kernel_rfl)
                  have HTL0 := HI2.out.1.tlen
                  have HTB := HI2.out.2.2.2.2
                  have HX0 := HXL.out
                  obtain ⟨TQ, hTQ⟩ : ∃ TQ, times ++ List.replicate q NW = TQ := ⟨_, rfl⟩
                  have hTl : TQ.length = times.length + q := by rw [← hTQ]; simp
                  have hT1 : TQ ++ [NW] = times ++ List.replicate (q + 1) NW := by rw [← hTQ, List.replicate_succ', List.append_assoc]
                  rw [hTQ] at HW8
                  have H1 : Hid ((TQ.map (Value.int .u64)).length + 1 ≤ maxLen) := Lib.hid (by unfold maxLen; simp; omega)
                  have H2 : Hid (((TQ.map (Value.int .u64)).length + 1) * 8 ≤ 140737488355328) := Lib.hid (by simp; omega)
                  have hO := (HW8.out.keep0 ((Fr.refl [] wx).alloc (.cells #[.int .u64 NW] 25))).o3
                  rw [hTl] at hO
                  have HO := Lib.hid hO
                  have HMw : Hid (w.heap.size + 1 ≤ (wx.alloc (.cells #[.int .u64 NW] 25)).heap.size) := Lib.hid (Nat.le_trans (lt_of_heap HW8.out.bx) ((Fr.refl [] wx).alloc _).size)
                  have HT := Lib.hid (And.intro hTl hT1)
                  clear hO hTQ hTl hT1
                  clear HTL0 HTB HX0
                  go_wp2_with (refine wpList_append_fr _ rfl (.tmp 116) (.tmp 118) 75 rfl 25 (.int .u64 0) 8 HU.out HIN.out rfl (w.heap.size + 1) (.slice tx (times.length + q) tq) (TQ.map (Value.int .u64)) (by exact rfl) HO.out (some ⟨wx.heap.size, 0, none⟩) 1 1 [.int .u64 NW] (by exact rfl) rfl (SlV.box _ _ _) (by simp [Value.oneCell']) (by exact H1.out) (by exact H2.out) HMw.out ?_)
                  intro v' w9 o9 f9 hb
                  replace o9 := o9.out
                  have hl9 : TQ.map (Value.int .u64) ++ [.int .u64 NW] = (TQ ++ [NW]).map (Value.int .u64) := by simp
                  rw [hl9] at o9
                  obtain ⟨tx2, tq2, rfl, _⟩ := o9.form
                  rw [List.length_map] at o9 hb
                  have HW9 := (HW8.out.keep0 ((Fr.refl [] wx).alloc (.cells #[.int .u64 NW] 25))).app3 (by rw [HT.out.1]; exact f9) o9 (by rw [HT.out.1, World.size_alloc]; exact hb)
                  rw [HT.out.2] at HW9
                  replace HW9 := Lib.hid HW9
                  have hl10 : (List.map (Value.int .u64) (TQ ++ [NW])).length = times.length + (q + 1) := by rw [List.length_map, List.length_append, HT.out.1]; rfl
                  have HL10 := Lib.hid hl10
                  clear hl10
                  clear HU HIN H1 H2 HO HMw HW8 o9 f9 hb hl9
                  go_wp2_with fail
                  go_roundw
                  case rel => exact ⟨q + 1, tx2, tq2, by omega, by go_num, by rw [HL10.out], HW9⟩
                  case measure => simp [intOf]; omega
                · obtain rfl : q = m := by omega
                  have HW2 : Hid (Go.Proofs.Ytdndabklcenndaa.HW w wx L2 b k0 S2 #[.int .i64 r, .int .i64 p, .int .i64 u, .int .i64 lat, .int .i64 lim, .int .u64 now] sa2 sc2 E2 ga gc got tx tq X2 (some ⟨ab, ao, none⟩) A.length cap A) := Lib.hid (HXE.out.2 ▸ HW8.out)
                  clear HW8
                  go_upto_region 31 with fail
                  have hlen : (E2.length : Int) = got.length + totS S2.segs := by have := HI2.out.1.len; omega
                  have hEb : (E2.length : Int) ≤ 2100 := by have := HI2.out.2.2.2.2; omega
                  have HLEN := Lib.hid fun (W : World) (f : Fr [] wx W) => sh_len (HW2.out.keep0 f).sh
                  have HNXT := Lib.hid fun (W : World) (f : Fr [] wx W) => sh_next (HW2.out.keep0 f).sh
                  have HEL := Lib.hid (Go.Proofs.enters_of Try.func32 (by kernel_rfl) rfl)
                  have htk : E2.take got.length = got := by rw [HI2.out.1.bytes, List.take_left]
                  have HC1 := Lib.hid fun (w' : World) (f : Fr [] wx w') => conv_st (cap := gc) (HW2.out.keep0 f).o2.formS rfl
                  have HC2 := Lib.hid fun (w' : World) (f : Fr [] wx w') (cp : Nat) => conv_st (cap := cp) (htk ▸ ((HW2.out.keep0 f).o1.formS.pre (got.length)) : Sl w' sa2 (bi got)) rfl
                  have HFA := Lib.hid fun (w' : World) (f : Fr [] wx w') => And.intro (HC1.out w' f) (HC2.out w' f)
                  have hsub : (E2.length : Int) - (got.length : Int) = totS S2.segs := by omega
                  have htb : (totS S2.segs : Int) ≤ 2100 := by omega
                  have htw : IntKind.i64.wrap (totS S2.segs : Int) = totS S2.segs := IntWalk.i64_in _ (by omega)
                  have hgl : (got.length : Int) ≤ E2.length := by omega
                  have hcap : got.length ≤ sc2 := by have := HW2.out.o1.leS; omega
                  have fd : Fr [] wx wx.drew := (Fr.refl _ _).drew
                  clear htk hlen
                  refine wp_region_order [(0, true), (1, true), (2, true), (3, true), (4, true), (5, true), (6, true), (7, true), (8, true), (9, true), (11, true), (12, true), (13, true), (14, true), (15, true), (10, false), (16, true), (17, true)] (fun w' => Fr [] wx w') (by kernel_rfl) (by kernel_rfl) fd ?_
                  intro OPS HOPS
                  have hops := HOPS.out
                  try simp only [List.append_eq, List.cons_append, List.nil_append] at hops
                  replace HOPS := Lib.hid hops
                  clear hops
                  refine walkO_take (o := _) (v := ?_) (by rw [HOPS.out]; simp only [List.getElem?_toArray, List.getElem?_cons_succ, List.getElem?_cons_zero]; exact rfl) (Or.inl ⟨rfl, ?_⟩) ?_
                  rotate_left
                  · (intro w hSw; have hSx := HFA.out _ hSw; (try dsimp only at hSx); clear hSw; go_simp) <;> (with_reducible rfl)
                  simp only [Act.put, List.setIfInBounds_toArray, List.set_cons_zero, List.set_cons_succ]
                  refine walkO_take (o := _) (v := ?_) (by rw [HOPS.out]; simp only [List.getElem?_toArray, List.getElem?_cons_succ, List.getElem?_cons_zero]; exact rfl) (Or.inl ⟨rfl, ?_⟩) ?_
                  rotate_left
                  · (intro w hSw; have hSx := HFA.out _ hSw; (try dsimp only at hSx); clear hSw; go_simp) <;> (with_reducible rfl)
                  simp only [Act.put, List.setIfInBounds_toArray, List.set_cons_zero, List.set_cons_succ]
                  refine walkO_take (o := _) (v := ?_) (by rw [HOPS.out]; simp only [List.getElem?_toArray, List.getElem?_cons_succ, List.getElem?_cons_zero]; exact rfl) (Or.inl ⟨rfl, ?_⟩) ?_
                  rotate_left
                  · (intro w hSw; have hSx := HFA.out _ hSw; (try dsimp only at hSx); clear hSw; go_simp) <;> (with_reducible rfl)
                  simp only [Act.put, List.setIfInBounds_toArray, List.set_cons_zero, List.set_cons_succ]
                  refine walkO_take (o := _) (v := ?_) (by rw [HOPS.out]; simp only [List.getElem?_toArray, List.getElem?_cons_succ, List.getElem?_cons_zero]; exact rfl) (Or.inl ⟨rfl, ?_⟩) ?_
                  rotate_left
                  · (intro w hSw; have hSx := HFA.out _ hSw; (try dsimp only at hSx); clear hSw; go_simp) <;> (with_reducible rfl)
                  simp only [Act.put, List.setIfInBounds_toArray, List.set_cons_zero, List.set_cons_succ]
                  refine walkO_take (o := _) (v := ?_) (by rw [HOPS.out]; simp only [List.getElem?_toArray, List.getElem?_cons_succ, List.getElem?_cons_zero]; exact rfl) (Or.inl ⟨rfl, ?_⟩) ?_
                  rotate_left
                  · (intro w hSw; have hSx := HFA.out _ hSw; (try dsimp only at hSx); clear hSw; go_simp) <;> (with_reducible rfl)
                  simp only [Act.put, List.setIfInBounds_toArray, List.set_cons_zero, List.set_cons_succ]
                  refine walkO_take (o := _) (v := ?_) (by rw [HOPS.out]; simp only [List.getElem?_toArray, List.getElem?_cons_succ, List.getElem?_cons_zero]; exact rfl) (Or.inl ⟨rfl, ?_⟩) ?_
                  rotate_left
                  · (intro w hSw; have hSx := HFA.out _ hSw; (try dsimp only at hSx); clear hSw; go_simp) <;> (with_reducible rfl)
                  simp only [Act.put, List.setIfInBounds_toArray, List.set_cons_zero, List.set_cons_succ]
                  refine walkO_take (o := _) (v := ?_) (by rw [HOPS.out]; simp only [List.getElem?_toArray, List.getElem?_cons_succ, List.getElem?_cons_zero]; exact rfl) (Or.inl ⟨rfl, ?_⟩) ?_
                  rotate_left
                  · (intro w hSw; have hSx := HFA.out _ hSw; (try dsimp only at hSx); clear hSw; go_simp) <;> (with_reducible rfl)
                  simp only [Act.put, List.setIfInBounds_toArray, List.set_cons_zero, List.set_cons_succ]
                  refine walkO_take (o := _) (v := ?_) (by rw [HOPS.out]; simp only [List.getElem?_toArray, List.getElem?_cons_succ, List.getElem?_cons_zero]; exact rfl) (Or.inl ⟨rfl, ?_⟩) ?_
                  rotate_left
                  · (intro w hSw; have hSx := HFA.out _ hSw; (try dsimp only at hSx); clear hSw; go_simp) <;> (with_reducible rfl)
                  simp only [Act.put, List.setIfInBounds_toArray, List.set_cons_zero, List.set_cons_succ]
                  refine walkO_take (o := _) (v := ?_) (by rw [HOPS.out]; simp only [List.getElem?_toArray, List.getElem?_cons_succ, List.getElem?_cons_zero]; exact rfl) (Or.inl ⟨rfl, ?_⟩) ?_
                  rotate_left
                  · (intro w hSw; have hSx := HFA.out _ hSw; (try dsimp only at hSx); clear hSw; go_simp) <;> (with_reducible rfl)
                  simp only [Act.put, List.setIfInBounds_toArray, List.set_cons_zero, List.set_cons_succ]
                  refine walkO_take (o := _) (v := ?_) (by rw [HOPS.out]; simp only [List.getElem?_toArray, List.getElem?_cons_succ, List.getElem?_cons_zero]; exact rfl) (Or.inl ⟨by rw [HOPS.out]; rfl, ?_⟩) ?_
                  rotate_left
                  · (intro w hSw; have hSx := HFA.out _ hSw; (try dsimp only at hSx); clear hSw; go_simp) <;> (with_reducible rfl)
                  simp only [Act.put, List.setIfInBounds_toArray, List.set_cons_zero, List.set_cons_succ]
                  refine walkO_take (o := _) (v := ?_) (by rw [HOPS.out]; simp only [List.getElem?_toArray, List.getElem?_cons_succ, List.getElem?_cons_zero]; exact rfl) (Or.inl ⟨by rw [HOPS.out]; rfl, ?_⟩) ?_
                  rotate_left
                  · (intro w hSw; have hSx := HFA.out _ hSw; (try dsimp only at hSx); clear hSw; go_simp) <;> (with_reducible rfl)
                  simp only [Act.put, List.setIfInBounds_toArray, List.set_cons_zero, List.set_cons_succ]
                  refine walkO_take (o := _) (v := ?_) (by rw [HOPS.out]; simp only [List.getElem?_toArray, List.getElem?_cons_succ, List.getElem?_cons_zero]; exact rfl) (Or.inl ⟨by rw [HOPS.out]; rfl, ?_⟩) ?_
                  rotate_left
                  · (intro w hSw; have hSx := HFA.out _ hSw; (try dsimp only at hSx); clear hSw; go_simp) <;> (with_reducible rfl)
                  simp only [Act.put, List.setIfInBounds_toArray, List.set_cons_zero, List.set_cons_succ]
                  refine walkO_take (o := _) (v := ?_) (by rw [HOPS.out]; simp only [List.getElem?_toArray, List.getElem?_cons_succ, List.getElem?_cons_zero]; exact rfl) (Or.inl ⟨by rw [HOPS.out]; rfl, ?_⟩) ?_
                  rotate_left
                  · (intro w hSw; have hSx := HFA.out _ hSw; (try dsimp only at hSx); clear hSw; go_simp) <;> (with_reducible rfl)
                  simp only [Act.put, List.setIfInBounds_toArray, List.set_cons_zero, List.set_cons_succ]
                  refine walkO_take (o := _) (v := ?_) (by rw [HOPS.out]; simp only [List.getElem?_toArray, List.getElem?_cons_succ, List.getElem?_cons_zero]; exact rfl) (Or.inl ⟨by rw [HOPS.out]; rfl, ?_⟩) ?_
                  rotate_left
                  · (intro w hSw; have hSx := HFA.out _ hSw; (try dsimp only at hSx); clear hSw; go_simp) <;> (with_reducible rfl)
                  simp only [Act.put, List.setIfInBounds_toArray, List.set_cons_zero, List.set_cons_succ]
                  refine walkO_take (o := _) (v := ?_) (by rw [HOPS.out]; simp only [List.getElem?_toArray, List.getElem?_cons_succ, List.getElem?_cons_zero]; exact rfl) (Or.inl ⟨by rw [HOPS.out]; rfl, ?_⟩) ?_
                  rotate_left
                  · (intro w hSw; have hSx := HFA.out _ hSw; (try dsimp only at hSx); clear hSw; go_simp) <;> (with_reducible rfl)
                  simp only [Act.put, List.setIfInBounds_toArray, List.set_cons_zero, List.set_cons_succ]
                  refine walkO_call (o := _) (by rw [HOPS.out]; simp only [List.getElem?_toArray, List.getElem?_cons_succ, List.getElem?_cons_zero]; exact rfl) (fun K HK => ?_)
                  refine step_call (by rw [HOPS.out]; rfl) 32 #[(.tmp 176)] #[57] rfl HEL.out #[.pointer (some ⟨b, 0, none⟩)] (by simp [Act.eval]) (HLEN.out _ fd) ?_
                  rintro e w9 ⟨rfl, f9⟩
                  have f9' : Fr [] wx w9 := fd.then0 f9
                  refine ⟨_, rfl, ?_⟩
                  refine HK.out (fun w' => Fr [] wx w') _ _ (fun _ h => h) (f9') ?_
                  clear HK K
                  try simp only [Act.put, List.setIfInBounds_toArray, List.set_cons_zero, List.set_cons_succ]
                  refine walkO_take (o := _) (v := ?_) (by rw [HOPS.out]; simp only [List.getElem?_toArray, List.getElem?_cons_succ, List.getElem?_cons_zero]; exact rfl) (Or.inl ⟨by rw [HOPS.out]; rfl, ?_⟩) ?_
                  rotate_left
                  · (intro w hSw; have hSx := HFA.out _ hSw; (try dsimp only at hSx); clear hSw; go_simp) <;> (with_reducible rfl)
                  simp only [Act.put, List.setIfInBounds_toArray, List.set_cons_zero, List.set_cons_succ]
                  refine walkO_take (o := _) (v := ?_) (by rw [HOPS.out]; simp only [List.getElem?_toArray, List.getElem?_cons_succ, List.getElem?_cons_zero]; exact rfl) (Or.inl ⟨rfl, ?_⟩) ?_
                  rotate_left
                  · (intro w hSw; have hSx := HFA.out _ hSw; (try dsimp only at hSx); clear hSw; go_simp) <;> (with_reducible rfl)
                  simp only [Act.put, List.setIfInBounds_toArray, List.set_cons_zero, List.set_cons_succ]
                  refine walkO_done ?_
                  clear HOPS OPS
                  clear HFA HC1 HC2
                  try simp only [Exit.then]
                  go_wp2_with fail
                  refine (HLEN.out _ f9').mono ?_
                  rintro e w10 ⟨rfl, f10⟩
                  have f10' := f9'.then0 f10
                  clear HLEN HEL hsub hcap htw f10 f9 fd
                  by_cases hp : 0 < (totS S2.segs : Int)
                  · have hnx := HI2.out.1.next (by omega)
                    obtain ⟨NX, hNX⟩ : ∃ NX, nextH S2 = NX := ⟨_, rfl⟩
                    rw [hNX] at hnx HNXT
                    have hnx1 := hnx.1
                    have HX2 := Lib.hid hnx.2
                    clear hnx hNX
                    go_wp2_with fail
                    refine (HNXT.out _ f10').mono ?_
                    rintro e w11 ⟨rfl, rfl⟩
                    go_wp2_with fail
                    refine (HNXT.out _ f10').mono ?_
                    rintro e w12 ⟨rfl, rfl⟩
                    go_wp2_with fail
                    go_roundw
                    case rel => exact ⟨k + 1, L2, S2, got, E2, X2, NW, NX, sa2, ga, tx, sc2, gc, tq, by omega, by go_num, rfl, rfl, rfl, rfl, by rw [HXL.out], ⟨hN0, hN1⟩, Lib.hid ⟨HX2.out, HI2.out.2⟩, Lib.hid (HW2.out.keep0 f10')⟩
                    case measure => simp [intOf]; omega
                  · go_wp2_with fail
                    go_roundw
                    case rel => exact ⟨k + 1, L2, S2, got, E2, X2, NW, nx, sa2, ga, tx, sc2, gc, tq, by omega, by go_num, rfl, rfl, rfl, rfl, by rw [HXL.out], ⟨hN0, hN1⟩, Lib.hid ⟨HI2.out.1, HI2.out.2⟩, Lib.hid (HW2.out.keep0 f10')⟩
                    case measure => simp [intOf]; omega
        · as_aux_lemma => -- ARMB
            obtain ⟨M, hM⟩ : ∃ M, max 0 (min 100 n) = M := ⟨_, rfl⟩
            have hM0 : 0 ≤ M ∧ M ≤ 100 := by omega
            have hE := HI.out.1.recvE (now := NW) (most := M) (Int.le_trans HI.out.2.2.1 HN.out) (by omega) hM0.1 (by omega)
            obtain ⟨HH2, HQ, hle⟩ := HI.out.1.recv HW.out.sh.ok NW M.toNat
            have htt := (recvL_tot NW s.segs M.toNat).2
            have hll : (recvH s NW M.toNat).segs.length ≤ s.segs.length := recvL_len NW s.segs M.toNat
            have SRV := sh_recv HW.out.sh (now := NW) (most := M) hN0 (by omega)
            rw [recvS_ok hE, recvB_ok hE, hE] at SRV
            have e6 : (recvH s NW M.toNat).lat = s.lat := rfl
            have e7 : (recvH s NW M.toNat).last = NW := rfl
            obtain ⟨S2, hS2⟩ : ∃ S2, recvH s NW M.toNat = S2 := ⟨_, rfl⟩
            obtain ⟨d, hd⟩ : ∃ d, (recvL NW M.toNat s.segs).1 = d := ⟨_, rfl⟩
            obtain ⟨G2, hG2⟩ : ∃ G2, got ++ d = G2 := ⟨_, rfl⟩
            rw [hS2, hd, hG2] at HH2
            rw [hS2] at e6 e7 hll
            rw [hS2, hd] at SRV
            rw [hd] at HQ hle htt
            have hsl : (sent.length : Int) ≤ 2100 := by have := HI.out.2.2.2.2; omega
            have hd100 : (d.length : Int) ≤ 100 := by omega
            have hgd : (got.length : Int) + d.length ≤ sent.length := by omega
            have hgd2 : (got.length : Int) + d.length ≤ 2100 := by omega
            have HI2 := Lib.hid (And.intro HH2 (And.intro (e6.trans HI.out.2.1) (And.intro (Int.le_of_eq e7) (And.intro (show S2.segs.length ≤ k + 1 by have := HI.out.2.2.2.1; omega) (show sent.length ≤ (k + 1) * 100 by have := HI.out.2.2.2.2; omega)))))
            have HSRV := Lib.hid SRV
            have hsl2 := HI.out.2.1
            rw [hsl2] at HQ
            have HQH := Lib.hid HQ
            have HG2 := Lib.hid hG2
            have HTL0 := Lib.hid HI.out.1.tlen
            have HSRV2 := Lib.hid fun (y : Int) (e : y = M) => (e ▸ HSRV.out : Calls Try.prog 31 #[.pointer (some ⟨b, 0, none⟩), .int .u64 NW, .int .i64 y] wr fun e w6 => ∃ v, e = .returned (.tuple #[v, .int .i64 0]) ∧ Fr L wr w6 ∧ Shp w6 L b k0 S2 ∧ Ow w6 wr.heap.size 5 v ((bi d).map (Value.int .u8)))
            have hdn : ((d.length : Int) : Int) ≤ 100 := hd100
            clear HH2 e6 e7 hS2 hd SRV hG2 HI HQ hll htt hle hE hsl2 HSRV
            go_upto_region 22 with fail
            go_cut [16, 17] (fun v16 v17 w6 => v17 = .int .i64 0 ∧ ∃ (da : Option Addr) (dc : Nat), v16 = .slice da d.length dc ∧ Hid (Ow w6 wr.heap.size 5 (.slice da d.length dc) ((bi d).map (Value.int .u8))) ∧ Hid (Go.Proofs.Ytdndabklcenndaa.HW w w6 L b k0 S2 #[.int .i64 r, .int .i64 p, .int .i64 u, .int .i64 lat, .int .i64 lim, .int .u64 now] sa sc sent ga gc got ta tc times (some ⟨ab, ao, none⟩) A.length cap A))
            case first =>
              go_wp2_with fail
              all_goals
                refine (HSRV2.out _ (by omega)).mono ?_
                rintro e w6 ⟨v6, rfl, f6, sh6, o6⟩
                obtain ⟨da, dc, rfl, _⟩ := o6.formB
                go_wp2_with fail
                go_meet
                exact ⟨rfl, da, dc, rfl, Lib.hid o6, Lib.hid (HW.out.step f6 sh6 (fun y hy => .inl hy))⟩
            case rest =>
            obtain ⟨rfl, da, dc, rfl, HO6, HW6⟩ := hcut
            rename World => w6
            clear HSRV2 HW HARG c0 c1 c2 c3 hM
            go_wp2_with fail
            go_loopw [145, 18] (fun _ j wx => ∃ q : Nat, q ≤ d.length ∧ j = .int .i64 q ∧ Fr [] w6 wx) (fun _ j _ => d.length - (intOf j).toNat)
            case atStart => exact ⟨0, by omega, rfl, Fr.refl _ _⟩
            case round =>
              obtain ⟨q, hq, rfl, fx⟩ := hrel
              rename World => wx
              by_cases hlq : (q : Int) < d.length
              · go_upto_region 28 with fail
                obtain ⟨t, ht, ⟨t0, t1⟩, t2⟩ := HQH.out q (by omega)
                have HWx := Lib.hid (HW6.out.keep0 fx)
                obtain ⟨J, hJ⟩ : ∃ J, got.length + q = J := ⟨_, rfl⟩
                rw [hJ] at ht
                have hJt := (List.getElem?_eq_some_iff.1 ht).1
                obtain ⟨g, cap', hve, _, _, _, _, hcell, _⟩ := HWx.out.o3.row (by rw [List.length_map]; omega)
                have hc := hcell J (by rw [List.length_map]; exact hJt)
                rw [List.getElem?_map, ht, Option.map_some] at hc
                injection hve with hv1 hv2 hv3
                clear hv2 hv3
                subst hv1
                have hJ2 : (got.length : Int) + (q : Int) = (J : Int) := by omega
                have hJ3 : (J : Int) < times.length := by omega
                have hJ4 : (J : Int) ≤ 2100 := by omega
                have q3 : wx.cell? ⟨w.heap.size, 3, none⟩ = some (.int .i64 lat) := cell_of HWx.out.bx
                have hlat0 := HLAT.out.1
                have hlat1 := HLAT.out.2
                have hJw : IntKind.i64.wrap (J : Int) = J := IntWalk.i64_in _ (by omega)
                have hlw : IntKind.u64.wrap lat = lat := IntWalk.u64_in _ (by omega)
                have htw : IntKind.u64.wrap (t + lat) = t + lat := IntWalk.u64_in _ (by omega)
                have fd : Fr [] wx wx.drew := (Fr.refl _ _).drew
                have HFA := Lib.hid fun (w' : World) (f : Fr [] wx w') => (show w'.cell? ⟨g, J, none⟩ = some (.int .u64 t) ∧ w'.cell? ⟨w.heap.size, 3, none⟩ = some (.int .i64 lat) from ⟨(World.cell?_of_block (w := wx) (f.block g (World.block_lt_of_cell? _ _ hc) (by simp))).trans hc, (World.cell?_of_block (w := wx) (f.block w.heap.size (World.block_lt_of_cell? _ _ q3) (by simp))).trans q3⟩)
                clear hcell hJ ht hJt hq
                refine wp_region_order [(0, true), (1, true), (2, true), (3, true), (4, true), (5, true), (6, true), (7, true), (8, true), (9, true), (10, true), (11, true), (12, true)] (fun w' => Fr [] wx w') (by kernel_rfl) (by kernel_rfl) fd ?_
                intro OPS HOPS
                have hops := HOPS.out
                try simp only [List.append_eq, List.cons_append, List.nil_append] at hops
                replace HOPS := Lib.hid hops
                clear hops
                refine walkO_take (o := _) (v := ?_) (by rw [HOPS.out]; simp only [List.getElem?_toArray, List.getElem?_cons_succ, List.getElem?_cons_zero]; exact rfl) (Or.inl ⟨rfl, ?_⟩) ?_
                rotate_left
                · (intro w hSw; have hSx := HFA.out _ hSw; (try dsimp only at hSx); clear hSw; go_simp) <;> (with_reducible rfl)
                simp only [Act.put, List.setIfInBounds_toArray, List.set_cons_zero, List.set_cons_succ]
                refine walkO_take (o := _) (v := ?_) (by rw [HOPS.out]; simp only [List.getElem?_toArray, List.getElem?_cons_succ, List.getElem?_cons_zero]; exact rfl) (Or.inl ⟨rfl, ?_⟩) ?_
                rotate_left
                · (intro w hSw; have hSx := HFA.out _ hSw; (try dsimp only at hSx); clear hSw; go_simp) <;> (with_reducible rfl)
                simp only [Act.put, List.setIfInBounds_toArray, List.set_cons_zero, List.set_cons_succ]
                refine walkO_take (o := _) (v := ?_) (by rw [HOPS.out]; simp only [List.getElem?_toArray, List.getElem?_cons_succ, List.getElem?_cons_zero]; exact rfl) (Or.inl ⟨rfl, ?_⟩) ?_
                rotate_left
                · (intro w hSw; have hSx := HFA.out _ hSw; (try dsimp only at hSx); clear hSw; go_simp) <;> (with_reducible rfl)
                simp only [Act.put, List.setIfInBounds_toArray, List.set_cons_zero, List.set_cons_succ]
                refine walkO_take (o := _) (v := ?_) (by rw [HOPS.out]; simp only [List.getElem?_toArray, List.getElem?_cons_succ, List.getElem?_cons_zero]; exact rfl) (Or.inl ⟨rfl, ?_⟩) ?_
                rotate_left
                · (intro w hSw; have hSx := HFA.out _ hSw; (try dsimp only at hSx); clear hSw; go_simp) <;> (with_reducible rfl)
                simp only [Act.put, List.setIfInBounds_toArray, List.set_cons_zero, List.set_cons_succ]
                refine walkO_take (o := _) (v := ?_) (by rw [HOPS.out]; simp only [List.getElem?_toArray, List.getElem?_cons_succ, List.getElem?_cons_zero]; exact rfl) (Or.inl ⟨rfl, ?_⟩) ?_
                rotate_left
                · (intro w hSw; have hSx := HFA.out _ hSw; (try dsimp only at hSx); clear hSw; go_simp) <;> (with_reducible rfl)
                simp only [Act.put, List.setIfInBounds_toArray, List.set_cons_zero, List.set_cons_succ]
                refine walkO_take (o := _) (v := ?_) (by rw [HOPS.out]; simp only [List.getElem?_toArray, List.getElem?_cons_succ, List.getElem?_cons_zero]; exact rfl) (Or.inl ⟨rfl, ?_⟩) ?_
                rotate_left
                · (intro w hSw; have hSx := HFA.out _ hSw; (try dsimp only at hSx); clear hSw; go_simp) <;> (with_reducible rfl)
                simp only [Act.put, List.setIfInBounds_toArray, List.set_cons_zero, List.set_cons_succ]
                refine walkO_take (o := _) (v := ?_) (by rw [HOPS.out]; simp only [List.getElem?_toArray, List.getElem?_cons_succ, List.getElem?_cons_zero]; exact rfl) (Or.inl ⟨rfl, ?_⟩) ?_
                rotate_left
                · (intro w hSw; have hSx := HFA.out _ hSw; (try dsimp only at hSx); clear hSw; go_simp) <;> (with_reducible rfl)
                simp only [Act.put, List.setIfInBounds_toArray, List.set_cons_zero, List.set_cons_succ]
                refine walkO_take (o := _) (v := ?_) (by rw [HOPS.out]; simp only [List.getElem?_toArray, List.getElem?_cons_succ, List.getElem?_cons_zero]; exact rfl) (Or.inl ⟨rfl, ?_⟩) ?_
                rotate_left
                · (intro w hSw; have hSx := HFA.out _ hSw; (try dsimp only at hSx); clear hSw; go_simp) <;> (with_reducible rfl)
                simp only [Act.put, List.setIfInBounds_toArray, List.set_cons_zero, List.set_cons_succ]
                refine walkO_take (o := _) (v := ?_) (by rw [HOPS.out]; simp only [List.getElem?_toArray, List.getElem?_cons_succ, List.getElem?_cons_zero]; exact rfl) (Or.inl ⟨rfl, ?_⟩) ?_
                rotate_left
                · (intro w hSw; have hSx := HFA.out _ hSw; (try dsimp only at hSx); clear hSw; go_simp) <;> (with_reducible rfl)
                simp only [Act.put, List.setIfInBounds_toArray, List.set_cons_zero, List.set_cons_succ]
                refine walkO_take (o := _) (v := ?_) (by rw [HOPS.out]; simp only [List.getElem?_toArray, List.getElem?_cons_succ, List.getElem?_cons_zero]; exact rfl) (Or.inl ⟨rfl, ?_⟩) ?_
                rotate_left
                · (intro w hSw; have hSx := HFA.out _ hSw; (try dsimp only at hSx); clear hSw; go_simp) <;> (with_reducible rfl)
                simp only [Act.put, List.setIfInBounds_toArray, List.set_cons_zero, List.set_cons_succ]
                refine walkO_take (o := _) (v := ?_) (by rw [HOPS.out]; simp only [List.getElem?_toArray, List.getElem?_cons_succ, List.getElem?_cons_zero]; exact rfl) (Or.inl ⟨rfl, ?_⟩) ?_
                rotate_left
                · (intro w hSw; have hSx := HFA.out _ hSw; (try dsimp only at hSx); clear hSw; go_simp) <;> (with_reducible rfl)
                simp only [Act.put, List.setIfInBounds_toArray, List.set_cons_zero, List.set_cons_succ]
                refine walkO_take (o := _) (v := ?_) (by rw [HOPS.out]; simp only [List.getElem?_toArray, List.getElem?_cons_succ, List.getElem?_cons_zero]; exact rfl) (Or.inl ⟨rfl, ?_⟩) ?_
                rotate_left
                · (intro w hSw; have hSx := HFA.out _ hSw; (try dsimp only at hSx); clear hSw; go_simp) <;> (with_reducible rfl)
                simp only [Act.put, List.setIfInBounds_toArray, List.set_cons_zero, List.set_cons_succ]
                refine walkO_take (o := _) (v := ?_) (by rw [HOPS.out]; simp only [List.getElem?_toArray, List.getElem?_cons_succ, List.getElem?_cons_zero]; exact rfl) (Or.inl ⟨rfl, ?_⟩) ?_
                rotate_left
                · (intro w hSw; have hSx := HFA.out _ hSw; (try dsimp only at hSx); clear hSw; go_simp) <;> (with_reducible rfl)
                simp only [Act.put, List.setIfInBounds_toArray, List.set_cons_zero, List.set_cons_succ]
                refine walkO_done ?_
                clear HOPS OPS
                clear HFA
                try simp only [Exit.then]
                go_wp2_with fail
                go_roundw
                case rel => exact ⟨q + 1, by omega, by go_num, fx.drew⟩
                case measure => simp [intOf]; omega
              · have HU : Hid (Try.prog.underlying 68 = some (.slice 5)) := Lib.hid (by kernel_rfl)
                have HIN : Hid ((Try.prog.info? 5).map (fun i => (i.zero, i.size, i.bytes)) = some (some (.int .u8 0), 1, 1)) := Lib.hid (by kernel_rfl)
                have H1 : Hid (((bi got).map (Value.int .u8)).length + d.length ≤ maxLen) := Lib.hid (by unfold maxLen; simp [bi_length]; omega)
                have H2 : Hid ((((bi got).map (Value.int .u8)).length + d.length) * 1 ≤ 140737488355328) := Lib.hid (by simp [bi_length]; omega)
                have H3 : Hid (((bi d).map (Value.int .u8)).length = d.length) := Lib.hid (by simp only [List.length_map, bi_length])
                have HWx := Lib.hid (HW6.out.keep0 fx)
                have HSV : Hid (SlV wx da ((bi d).map (Value.int .u8))) := Lib.hid (sl_keep HO6.out.formS fx (by simp)).toV
                have HMw : Hid (w.heap.size + 1 ≤ wx.heap.size) := Lib.hid (lt_of_heap HWx.out.bx)
                go_wp2_with (refine wpList_append_fr _ rfl (.tmp 164) (.tmp 165) 68 rfl 5 (.int .u8 0) 1 HU.out HIN.out rfl (w.heap.size + 1) (.slice ga got.length gc) ((bi got).map (Value.int .u8)) (by exact rfl) HWx.out.o2 da d.length dc ((bi d).map (Value.int .u8)) (by exact rfl) H3.out HSV.out (oneCell_bytes _) (by exact H1.out) (by exact H2.out) HMw.out ?_)
                intro v' w7 o7 f7 hb
                replace o7 := o7.out
                rw [← List.map_append, ← bi_append, HG2.out] at o7
                obtain ⟨ga2, gc2, rfl, _⟩ := o7.formB
                have HW2 := Lib.hid (HWx.out.app2 (c' := gc2) f7 o7 hb)
                have HLG : Hid (G2.length = got.length + d.length) := Lib.hid (by rw [← HG2.out, List.length_append])
                clear HU HIN H1 H2 H3 HSV HMw HW6 HO6 HWx o7 f7 hb fx
                go_upto_region 31 with fail
                have hlen : (sent.length : Int) = G2.length + totS S2.segs := by have := HI2.out.1.len; omega
                have hEb : (sent.length : Int) ≤ 2100 := by have := HI2.out.2.2.2.2; omega
                have HLEN := Lib.hid fun (W : World) (f : Fr [] w7 W) => sh_len (HW2.out.keep0 f).sh
                have HNXT := Lib.hid fun (W : World) (f : Fr [] w7 W) => sh_next (HW2.out.keep0 f).sh
                have HEL := Lib.hid (Go.Proofs.enters_of Try.func32 (by kernel_rfl) rfl)
                have htk : sent.take G2.length = G2 := by rw [HI2.out.1.bytes, List.take_left]
                have HC1 := Lib.hid fun (w' : World) (f : Fr [] w7 w') => conv_st (cap := gc2) (HW2.out.keep0 f).o2.formS rfl
                have HC2 := Lib.hid fun (w' : World) (f : Fr [] w7 w') (cp : Nat) => conv_st (cap := cp) (htk ▸ ((HW2.out.keep0 f).o1.formS.pre (G2.length)) : Sl w' sa (bi G2)) rfl
                have HFA := Lib.hid fun (w' : World) (f : Fr [] w7 w') => And.intro (HC1.out w' f) (HC2.out w' f)
                have hsub : (sent.length : Int) - (G2.length : Int) = totS S2.segs := by omega
                have htb : (totS S2.segs : Int) ≤ 2100 := by omega
                have htw : IntKind.i64.wrap (totS S2.segs : Int) = totS S2.segs := IntWalk.i64_in _ (by omega)
                have hgl : (G2.length : Int) ≤ sent.length := by omega
                have hcap : G2.length ≤ sc := by have := HW2.out.o1.leS; omega
                have fd : Fr [] w7 w7.drew := (Fr.refl _ _).drew
                clear htk hlen
                refine wp_region_order [(0, true), (1, true), (2, true), (3, true), (4, true), (5, true), (6, true), (7, true), (8, true), (9, true), (11, true), (12, true), (13, true), (14, true), (15, true), (10, false), (16, true), (17, true)] (fun w' => Fr [] w7 w') (by kernel_rfl) (by kernel_rfl) fd ?_
                intro OPS HOPS
                have hops := HOPS.out
                try simp only [List.append_eq, List.cons_append, List.nil_append] at hops
                replace HOPS := Lib.hid hops
                clear hops
                refine walkO_take (o := _) (v := ?_) (by rw [HOPS.out]; simp only [List.getElem?_toArray, List.getElem?_cons_succ, List.getElem?_cons_zero]; exact rfl) (Or.inl ⟨rfl, ?_⟩) ?_
                rotate_left
                · (intro w hSw; have hSx := HFA.out _ hSw; (try dsimp only at hSx); clear hSw; go_simp) <;> (with_reducible rfl)
                simp only [Act.put, List.setIfInBounds_toArray, List.set_cons_zero, List.set_cons_succ]
                refine walkO_take (o := _) (v := ?_) (by rw [HOPS.out]; simp only [List.getElem?_toArray, List.getElem?_cons_succ, List.getElem?_cons_zero]; exact rfl) (Or.inl ⟨rfl, ?_⟩) ?_
                rotate_left
                · (intro w hSw; have hSx := HFA.out _ hSw; (try dsimp only at hSx); clear hSw; go_simp) <;> (with_reducible rfl)
                simp only [Act.put, List.setIfInBounds_toArray, List.set_cons_zero, List.set_cons_succ]
                refine walkO_take (o := _) (v := ?_) (by rw [HOPS.out]; simp only [List.getElem?_toArray, List.getElem?_cons_succ, List.getElem?_cons_zero]; exact rfl) (Or.inl ⟨rfl, ?_⟩) ?_
                rotate_left
                · (intro w hSw; have hSx := HFA.out _ hSw; (try dsimp only at hSx); clear hSw; go_simp) <;> (with_reducible rfl)
                simp only [Act.put, List.setIfInBounds_toArray, List.set_cons_zero, List.set_cons_succ]
                refine walkO_take (o := _) (v := ?_) (by rw [HOPS.out]; simp only [List.getElem?_toArray, List.getElem?_cons_succ, List.getElem?_cons_zero]; exact rfl) (Or.inl ⟨rfl, ?_⟩) ?_
                rotate_left
                · (intro w hSw; have hSx := HFA.out _ hSw; (try dsimp only at hSx); clear hSw; go_simp) <;> (with_reducible rfl)
                simp only [Act.put, List.setIfInBounds_toArray, List.set_cons_zero, List.set_cons_succ]
                refine walkO_take (o := _) (v := ?_) (by rw [HOPS.out]; simp only [List.getElem?_toArray, List.getElem?_cons_succ, List.getElem?_cons_zero]; exact rfl) (Or.inl ⟨rfl, ?_⟩) ?_
                rotate_left
                · (intro w hSw; have hSx := HFA.out _ hSw; (try dsimp only at hSx); clear hSw; go_simp) <;> (with_reducible rfl)
                simp only [Act.put, List.setIfInBounds_toArray, List.set_cons_zero, List.set_cons_succ]
                refine walkO_take (o := _) (v := ?_) (by rw [HOPS.out]; simp only [List.getElem?_toArray, List.getElem?_cons_succ, List.getElem?_cons_zero]; exact rfl) (Or.inl ⟨rfl, ?_⟩) ?_
                rotate_left
                · (intro w hSw; have hSx := HFA.out _ hSw; (try dsimp only at hSx); clear hSw; go_simp) <;> (with_reducible rfl)
                simp only [Act.put, List.setIfInBounds_toArray, List.set_cons_zero, List.set_cons_succ]
                refine walkO_take (o := _) (v := ?_) (by rw [HOPS.out]; simp only [List.getElem?_toArray, List.getElem?_cons_succ, List.getElem?_cons_zero]; exact rfl) (Or.inl ⟨rfl, ?_⟩) ?_
                rotate_left
                · (intro w hSw; have hSx := HFA.out _ hSw; (try dsimp only at hSx); clear hSw; go_simp) <;> (with_reducible rfl)
                simp only [Act.put, List.setIfInBounds_toArray, List.set_cons_zero, List.set_cons_succ]
                refine walkO_take (o := _) (v := ?_) (by rw [HOPS.out]; simp only [List.getElem?_toArray, List.getElem?_cons_succ, List.getElem?_cons_zero]; exact rfl) (Or.inl ⟨rfl, ?_⟩) ?_
                rotate_left
                · (intro w hSw; have hSx := HFA.out _ hSw; (try dsimp only at hSx); clear hSw; go_simp) <;> (with_reducible rfl)
                simp only [Act.put, List.setIfInBounds_toArray, List.set_cons_zero, List.set_cons_succ]
                refine walkO_take (o := _) (v := ?_) (by rw [HOPS.out]; simp only [List.getElem?_toArray, List.getElem?_cons_succ, List.getElem?_cons_zero]; exact rfl) (Or.inl ⟨rfl, ?_⟩) ?_
                rotate_left
                · (intro w hSw; have hSx := HFA.out _ hSw; (try dsimp only at hSx); clear hSw; go_simp) <;> (with_reducible rfl)
                simp only [Act.put, List.setIfInBounds_toArray, List.set_cons_zero, List.set_cons_succ]
                refine walkO_take (o := _) (v := ?_) (by rw [HOPS.out]; simp only [List.getElem?_toArray, List.getElem?_cons_succ, List.getElem?_cons_zero]; exact rfl) (Or.inl ⟨by rw [HOPS.out]; rfl, ?_⟩) ?_
                rotate_left
                · (intro w hSw; have hSx := HFA.out _ hSw; (try dsimp only at hSx); clear hSw; go_simp) <;> (with_reducible rfl)
                simp only [Act.put, List.setIfInBounds_toArray, List.set_cons_zero, List.set_cons_succ]
                refine walkO_take (o := _) (v := ?_) (by rw [HOPS.out]; simp only [List.getElem?_toArray, List.getElem?_cons_succ, List.getElem?_cons_zero]; exact rfl) (Or.inl ⟨by rw [HOPS.out]; rfl, ?_⟩) ?_
                rotate_left
                · (intro w hSw; have hSx := HFA.out _ hSw; (try dsimp only at hSx); clear hSw; go_simp) <;> (with_reducible rfl)
                simp only [Act.put, List.setIfInBounds_toArray, List.set_cons_zero, List.set_cons_succ]
                refine walkO_take (o := _) (v := ?_) (by rw [HOPS.out]; simp only [List.getElem?_toArray, List.getElem?_cons_succ, List.getElem?_cons_zero]; exact rfl) (Or.inl ⟨by rw [HOPS.out]; rfl, ?_⟩) ?_
                rotate_left
                · (intro w hSw; have hSx := HFA.out _ hSw; (try dsimp only at hSx); clear hSw; go_simp) <;> (with_reducible rfl)
                simp only [Act.put, List.setIfInBounds_toArray, List.set_cons_zero, List.set_cons_succ]
                refine walkO_take (o := _) (v := ?_) (by rw [HOPS.out]; simp only [List.getElem?_toArray, List.getElem?_cons_succ, List.getElem?_cons_zero]; exact rfl) (Or.inl ⟨by rw [HOPS.out]; rfl, ?_⟩) ?_
                rotate_left
                · (intro w hSw; have hSx := HFA.out _ hSw; (try dsimp only at hSx); clear hSw; go_simp) <;> (with_reducible rfl)
                simp only [Act.put, List.setIfInBounds_toArray, List.set_cons_zero, List.set_cons_succ]
                refine walkO_take (o := _) (v := ?_) (by rw [HOPS.out]; simp only [List.getElem?_toArray, List.getElem?_cons_succ, List.getElem?_cons_zero]; exact rfl) (Or.inl ⟨by rw [HOPS.out]; rfl, ?_⟩) ?_
                rotate_left
                · (intro w hSw; have hSx := HFA.out _ hSw; (try dsimp only at hSx); clear hSw; go_simp) <;> (with_reducible rfl)
                simp only [Act.put, List.setIfInBounds_toArray, List.set_cons_zero, List.set_cons_succ]
                refine walkO_take (o := _) (v := ?_) (by rw [HOPS.out]; simp only [List.getElem?_toArray, List.getElem?_cons_succ, List.getElem?_cons_zero]; exact rfl) (Or.inl ⟨by rw [HOPS.out]; rfl, ?_⟩) ?_
                rotate_left
                · (intro w hSw; have hSx := HFA.out _ hSw; (try dsimp only at hSx); clear hSw; go_simp) <;> (with_reducible rfl)
                simp only [Act.put, List.setIfInBounds_toArray, List.set_cons_zero, List.set_cons_succ]
                refine walkO_call (o := _) (by rw [HOPS.out]; simp only [List.getElem?_toArray, List.getElem?_cons_succ, List.getElem?_cons_zero]; exact rfl) (fun K HK => ?_)
                refine step_call (by rw [HOPS.out]; rfl) 32 #[(.tmp 176)] #[57] rfl HEL.out #[.pointer (some ⟨b, 0, none⟩)] (by simp [Act.eval]) (HLEN.out _ fd) ?_
                rintro e w9 ⟨rfl, f9⟩
                have f9' : Fr [] w7 w9 := fd.then0 f9
                refine ⟨_, rfl, ?_⟩
                refine HK.out (fun w' => Fr [] w7 w') _ _ (fun _ h => h) (f9') ?_
                clear HK K
                try simp only [Act.put, List.setIfInBounds_toArray, List.set_cons_zero, List.set_cons_succ]
                refine walkO_take (o := _) (v := ?_) (by rw [HOPS.out]; simp only [List.getElem?_toArray, List.getElem?_cons_succ, List.getElem?_cons_zero]; exact rfl) (Or.inl ⟨by rw [HOPS.out]; rfl, ?_⟩) ?_
                rotate_left
                · (intro w hSw; have hSx := HFA.out _ hSw; (try dsimp only at hSx); clear hSw; go_simp) <;> (with_reducible rfl)
                simp only [Act.put, List.setIfInBounds_toArray, List.set_cons_zero, List.set_cons_succ]
                refine walkO_take (o := _) (v := ?_) (by rw [HOPS.out]; simp only [List.getElem?_toArray, List.getElem?_cons_succ, List.getElem?_cons_zero]; exact rfl) (Or.inl ⟨rfl, ?_⟩) ?_
                rotate_left
                · (intro w hSw; have hSx := HFA.out _ hSw; (try dsimp only at hSx); clear hSw; go_simp) <;> (with_reducible rfl)
                simp only [Act.put, List.setIfInBounds_toArray, List.set_cons_zero, List.set_cons_succ]
                refine walkO_done ?_
                clear HOPS OPS
                clear HFA HC1 HC2
                try simp only [Exit.then]
                go_wp2_with fail
                refine (HLEN.out _ f9').mono ?_
                rintro e w10 ⟨rfl, f10⟩
                have f10' := f9'.then0 f10
                clear HLEN HEL hsub hcap htw f10 f9 fd
                by_cases hp : 0 < (totS S2.segs : Int)
                · have hnx := HI2.out.1.next (by omega)
                  obtain ⟨NX, hNX⟩ : ∃ NX, nextH S2 = NX := ⟨_, rfl⟩
                  rw [hNX] at hnx HNXT
                  have hnx1 := hnx.1
                  have HX2 := Lib.hid hnx.2
                  clear hnx hNX
                  go_wp2_with fail
                  refine (HNXT.out _ f10').mono ?_
                  rintro e w11 ⟨rfl, rfl⟩
                  go_wp2_with fail
                  refine (HNXT.out _ f10').mono ?_
                  rintro e w12 ⟨rfl, rfl⟩
                  go_wp2_with fail
                  go_roundw
                  case rel => exact ⟨k + 1, L, S2, G2, sent, times, NW, NX, sa, ga2, ta, sc, gc2, tc, by omega, by go_num, rfl, rfl, rfl, rfl, rfl, ⟨hN0, hN1⟩, Lib.hid ⟨HX2.out, HI2.out.2⟩, Lib.hid (HW2.out.keep0 f10')⟩
                  case measure => simp [intOf]; omega
                · go_wp2_with fail
                  go_roundw
                  case rel => exact ⟨k + 1, L, S2, G2, sent, times, NW, nx, sa, ga2, ta, sc, gc2, tc, by omega, by go_num, rfl, rfl, rfl, rfl, rfl, ⟨hN0, hN1⟩, Lib.hid ⟨HI2.out.1, HI2.out.2⟩, Lib.hid (HW2.out.keep0 f10')⟩
                  case measure => simp [intOf]; omega
    · as_aux_lemma => -- ARMC
        have hN1 : nw ≤ 1101511627776 := by omega
        obtain ⟨hcl, HEC, hsg, hla⟩ := HI.out.1.close HW.out.sh.ok (now := nw) (by omega) HI.out.2.2.1
        have CLS := sh_close HW.out.sh (now := nw) hn0 (by omega)
        rw [hcl] at CLS
        obtain ⟨S2, hS2⟩ : ∃ S2, closeH s nw = S2 := ⟨_, rfl⟩
        rw [hS2] at CLS HEC hsg hla
        have hsl : sent.length ≤ 2100 := by have := HI.out.2.2.2.2; omega
        have hsn : S2.segs.length ≤ A.length := by rw [hsg]; have := HI.out.2.2.2.1; omega
        have HCLS := Lib.hid CLS
        have HE0 := Lib.hid (And.intro HEC (And.intro hla (And.intro hsn hsl)))
        clear hcl HEC hsg hla CLS hS2 hsl hsn HI
        go_wp2_with fail
        refine HCLS.out.mono ?_
        rintro e w6 ⟨rfl, f6, sh6⟩
        have f6' : Fr L wr w6 := f6.mono (fun y hy => by simp at hy; rcases hy with rfl | rfl; exact .inl HW.out.sh.hb; exact .inl HW.out.sh.hk)
        have HW6 := Lib.hid (HW.out.step f6' sh6 (fun y hy => .inl hy))
        clear HCLS f6 f6' sh6 HW
        go_wp2_with fail
        go_loopw [7, 10, 19] (fun v7 v10 i wr => ∃ (j : Nat) (s : SH) (nw : Int) (got : List UInt8) (ga : Option Addr) (gc : Nat), i = .int .i64 j ∧ v7 = .int .u64 nw ∧ v10 = .slice ga got.length gc ∧ (0 ≤ nw ∧ nw ≤ 1000000000000000) ∧ Hid (HE s got sent ∧ s.last ≤ nw ∧ s.segs.length + j ≤ A.length ∧ sent.length ≤ 2100) ∧ Hid (Go.Proofs.Ytdndabklcenndaa.HW w wr L b k0 s #[.int .i64 r, .int .i64 p, .int .i64 u, .int .i64 lat, .int .i64 lim, .int .u64 now] sa sc sent ga gc got ta tc times a A.length cap A)) (fun _ _ i _ => A.length - (intOf i).toNat)
        case atStart => exact ⟨0, S2, nw, got, ga, gc, rfl, rfl, rfl, ⟨hn0, by omega⟩, HE0, HW6⟩
        case round =>
          clear HW6 HE0
          obtain ⟨j, s, nw, got, ga, gc, rfl, rfl, rfl, ⟨m0, m1⟩, HI, HW⟩ := hrel
          rename World => wr
          have hjA : (j : Int) ≤ A.length := by have := HI.out.2.2.1; omega
          have HLEN := Lib.hid (sh_len HW.out.sh)
          go_wp2_with fail
          refine HLEN.out.mono ?_
          rintro e w7 ⟨rfl, f7⟩
          have HW7 := Lib.hid (HW.out.keep0 f7)
          clear HLEN HW f7
          by_cases hp : 0 < (totS s.segs : Int)
          · have HNXT := Lib.hid (sh_next HW7.out.sh)
            have HNX : Hid (nextH s ≤ 1000000000000000) := Lib.hid (by
              have hpn : 0 < totS s.segs := by omega
              unfold nextH
              cases hs : s.segs with
              | nil => rw [hs] at hpn; simp [totS] at hpn
              | cons x xs => exact HI.out.1.far x (by rw [hs]; simp))
            have HLS := Lib.hid HI.out.2.1
            go_wp2_with fail
            refine HNXT.out.mono ?_
            rintro e w8 ⟨rfl, rfl⟩
            by_cases hg : nw < nextH s
            · go_wp2_with fail
              refine HNXT.out.mono ?_
              rintro e w8 ⟨rfl, rfl⟩
              have hls := HLS.out
              have hnx := HNX.out
              obtain ⟨hE, hd0, HE2, hlt2⟩ := HI.out.1.recv HW7.out.sh.ok (now := (nextH s)) (by omega) (by omega) (by omega) (by omega)
              have SRV := sh_recv HW7.out.sh (now := (nextH s)) (most := 65536) (by omega) (by omega)
              rw [recvS_ok hE, recvB_ok hE, hE] at SRV
              have e7 : (recvH s (nextH s) (65536 : Int).toNat).last = (nextH s) := rfl
              have htn : (65536 : Int).toNat = 65536 := rfl
              rw [htn] at SRV e7
              have hgl : got.length + (recvL (nextH s) 65536 s.segs).1.length ≤ sent.length := by have h1 := congrArg List.length HE2.bytes; simp only [List.length_append] at h1; omega
              obtain ⟨S3, hS3⟩ : ∃ S3, recvH s (nextH s) 65536 = S3 := ⟨_, rfl⟩
              obtain ⟨d, hd⟩ : ∃ d, (recvL (nextH s) 65536 s.segs).1 = d := ⟨_, rfl⟩
              obtain ⟨G3, hG3⟩ : ∃ G3, got ++ d = G3 := ⟨_, rfl⟩
              rw [hS3, hd] at SRV
              rw [hd] at hd0 hgl
              rw [hS3, hd, hG3] at HE2
              rw [hS3] at hlt2 e7
              have HSRV := Lib.hid SRV
              have HI3 := Lib.hid (show HE S3 G3 sent ∧ S3.last ≤ (nextH s) ∧ S3.segs.length + (j + 1) ≤ A.length ∧ sent.length ≤ 2100 from ⟨HE2, Int.le_of_eq e7, by have := HI.out.2.2.1; omega, HI.out.2.2.2⟩)
              have HG3 := Lib.hid hG3
              have HB3 := Lib.hid (And.intro hgl HI.out.2.2.2)
              have hd1 : ((d.length : Int) == 0) = false := by simp; intro h; subst h; simp at hd0
              have hmw : 0 ≤ (nextH s) ∧ (nextH s) ≤ 1000000000000000 := by omega
              have HMW := Lib.hid hmw
              clear hE HE2 hlt2 SRV e7 htn hgl hS3 hd hG3 hd0 hmw
              go_wp2_with fail
              refine HSRV.out.mono ?_
              rintro e w8 ⟨v8, rfl, f8, sh8, o8⟩
              obtain ⟨da, dc, rfl, _⟩ := o8.formB
              have HW8 := Lib.hid (HW7.out.step f8 sh8 (fun y hy => .inl hy))
              have HU : Hid (Try.prog.underlying 68 = some (.slice 5)) := Lib.hid (by kernel_rfl)
              have HIN : Hid ((Try.prog.info? 5).map (fun i => (i.zero, i.size, i.bytes)) = some (some (.int .u8 0), 1, 1)) := Lib.hid (by kernel_rfl)
              have H1 : Hid (((bi got).map (Value.int .u8)).length + d.length ≤ maxLen) := Lib.hid (by unfold maxLen; simp [bi_length]; have := HB3.out; omega)
              have H2 : Hid ((((bi got).map (Value.int .u8)).length + d.length) * 1 ≤ 140737488355328) := Lib.hid (by simp [bi_length]; have := HB3.out; omega)
              have H3 : Hid (((bi d).map (Value.int .u8)).length = d.length) := Lib.hid (by simp only [List.length_map, bi_length])
              have HSV : Hid (SlV w8 da ((bi d).map (Value.int .u8))) := Lib.hid o8.formS.toV
              have HMw : Hid (w.heap.size + 1 ≤ w8.heap.size) := Lib.hid (lt_of_heap HW8.out.bx)
              clear HSRV f8 sh8 o8 HW7
              go_wp2_with (refine wpList_append_fr _ rfl (.tmp 228) (.tmp 229) 68 rfl 5 (.int .u8 0) 1 HU.out HIN.out rfl (w.heap.size + 1) (.slice ga got.length gc) ((bi got).map (Value.int .u8)) (by exact rfl) HW8.out.o2 da d.length dc ((bi d).map (Value.int .u8)) (by exact rfl) H3.out HSV.out (oneCell_bytes _) (by exact H1.out) (by exact H2.out) HMw.out ?_)
              intro v' w9 o9 f9 hb
              replace o9 := o9.out
              rw [← List.map_append, ← bi_append, HG3.out] at o9
              obtain ⟨ga3, gc3, rfl, _⟩ := o9.formB
              have HW9 := Lib.hid (HW8.out.app2 (c' := gc3) f9 o9 hb)
              clear HU HIN H1 H2 H3 HSV HMw HW8 o9 f9 hb hd1
              go_wp2_with fail
              go_roundw
              case rel => exact ⟨j + 1, S3, (nextH s), G3, ga3, gc3, by go_num, rfl, rfl, HMW.out, HI3, HW9⟩
              case measure => have := HI3.out.2.2.1; simp [intOf]; omega
            · go_wp2_with fail
              have hls := HLS.out
              obtain ⟨hE, hd0, HE2, hlt2⟩ := HI.out.1.recv HW7.out.sh.ok (now := nw) (by omega) (by omega) (by omega) (by omega)
              have SRV := sh_recv HW7.out.sh (now := nw) (most := 65536) (by omega) (by omega)
              rw [recvS_ok hE, recvB_ok hE, hE] at SRV
              have e7 : (recvH s nw (65536 : Int).toNat).last = nw := rfl
              have htn : (65536 : Int).toNat = 65536 := rfl
              rw [htn] at SRV e7
              have hgl : got.length + (recvL nw 65536 s.segs).1.length ≤ sent.length := by have h1 := congrArg List.length HE2.bytes; simp only [List.length_append] at h1; omega
              obtain ⟨S3, hS3⟩ : ∃ S3, recvH s nw 65536 = S3 := ⟨_, rfl⟩
              obtain ⟨d, hd⟩ : ∃ d, (recvL nw 65536 s.segs).1 = d := ⟨_, rfl⟩
              obtain ⟨G3, hG3⟩ : ∃ G3, got ++ d = G3 := ⟨_, rfl⟩
              rw [hS3, hd] at SRV
              rw [hd] at hd0 hgl
              rw [hS3, hd, hG3] at HE2
              rw [hS3] at hlt2 e7
              have HSRV := Lib.hid SRV
              have HI3 := Lib.hid (show HE S3 G3 sent ∧ S3.last ≤ nw ∧ S3.segs.length + (j + 1) ≤ A.length ∧ sent.length ≤ 2100 from ⟨HE2, Int.le_of_eq e7, by have := HI.out.2.2.1; omega, HI.out.2.2.2⟩)
              have HG3 := Lib.hid hG3
              have HB3 := Lib.hid (And.intro hgl HI.out.2.2.2)
              have hd1 : ((d.length : Int) == 0) = false := by simp; intro h; subst h; simp at hd0
              have hmw : 0 ≤ nw ∧ nw ≤ 1000000000000000 := by omega
              have HMW := Lib.hid hmw
              clear hE HE2 hlt2 SRV e7 htn hgl hS3 hd hG3 hd0 hmw
              go_wp2_with fail
              refine HSRV.out.mono ?_
              rintro e w8 ⟨v8, rfl, f8, sh8, o8⟩
              obtain ⟨da, dc, rfl, _⟩ := o8.formB
              have HW8 := Lib.hid (HW7.out.step f8 sh8 (fun y hy => .inl hy))
              have HU : Hid (Try.prog.underlying 68 = some (.slice 5)) := Lib.hid (by kernel_rfl)
              have HIN : Hid ((Try.prog.info? 5).map (fun i => (i.zero, i.size, i.bytes)) = some (some (.int .u8 0), 1, 1)) := Lib.hid (by kernel_rfl)
              have H1 : Hid (((bi got).map (Value.int .u8)).length + d.length ≤ maxLen) := Lib.hid (by unfold maxLen; simp [bi_length]; have := HB3.out; omega)
              have H2 : Hid ((((bi got).map (Value.int .u8)).length + d.length) * 1 ≤ 140737488355328) := Lib.hid (by simp [bi_length]; have := HB3.out; omega)
              have H3 : Hid (((bi d).map (Value.int .u8)).length = d.length) := Lib.hid (by simp only [List.length_map, bi_length])
              have HSV : Hid (SlV w8 da ((bi d).map (Value.int .u8))) := Lib.hid o8.formS.toV
              have HMw : Hid (w.heap.size + 1 ≤ w8.heap.size) := Lib.hid (lt_of_heap HW8.out.bx)
              clear HSRV f8 sh8 o8 HW7
              go_wp2_with (refine wpList_append_fr _ rfl (.tmp 228) (.tmp 229) 68 rfl 5 (.int .u8 0) 1 HU.out HIN.out rfl (w.heap.size + 1) (.slice ga got.length gc) ((bi got).map (Value.int .u8)) (by exact rfl) HW8.out.o2 da d.length dc ((bi d).map (Value.int .u8)) (by exact rfl) H3.out HSV.out (oneCell_bytes _) (by exact H1.out) (by exact H2.out) HMw.out ?_)
              intro v' w9 o9 f9 hb
              replace o9 := o9.out
              rw [← List.map_append, ← bi_append, HG3.out] at o9
              obtain ⟨ga3, gc3, rfl, _⟩ := o9.formB
              have HW9 := Lib.hid (HW8.out.app2 (c' := gc3) f9 o9 hb)
              clear HU HIN H1 H2 H3 HSV HMw HW8 o9 f9 hb hd1
              go_wp2_with fail
              go_roundw
              case rel => exact ⟨j + 1, S3, nw, G3, ga3, gc3, by go_num, rfl, rfl, HMW.out, HI3, HW9⟩
              case measure => have := HI3.out.2.2.1; simp [intOf]; omega
          · obtain ⟨hx1, hx2, hx3⟩ := HI.out.1.done HW7.out.sh.ok (by omega)
            subst hx2
            have hz : (totS s.segs : Int) = 0 := by omega
            have HX := Lib.hid (And.intro hx1 hx3)
            have hLEN := sh_len HW7.out.sh
            rw [hz] at hLEN
            have HLEN := Lib.hid hLEN
            have hslb : (sent.length : Int) ≤ 2100 := by have := HI.out.2.2.2; omega
            clear hx1 hx3 hz hLEN
            go_wp2_with fail
            refine HLEN.out.mono ?_
            rintro e w8 ⟨rfl, f8⟩
            replace HW7 := Lib.hid (HW7.out.keep0 f8)
            have hNXT := sh_next HW7.out.sh
            rw [HX.out.2] at hNXT
            have HNXT := Lib.hid hNXT
            have hcv1 := fun c => conv_st (cap := c) HW7.out.o1.formS rfl
            have hcv2 := fun c => conv_st (cap := c) HW7.out.o2.formS rfl
            clear hNXT HLEN f8
            go_wp2_with fail
            refine HNXT.out.mono ?_
            rintro e w9 ⟨rfl, rfl⟩
            clear hcv1 hcv2
            by_cases hg : nw < s.fin
            · go_wp2_with fail
              refine HNXT.out.mono ?_
              rintro e w9 ⟨rfl, rfl⟩
              have hls := HI.out.2.1
              have hff := HI.out.1.ffar
              have hEO := HI.out.1.eof HX.out.1 (now := s.fin) (by omega) (by omega) (by omega)
              have SRV := sh_recv HW7.out.sh (now := s.fin) (most := 1) (by omega) (by omega)
              rw [recvS_bad (by rw [hEO]; decide), recvB_bad (by rw [hEO]; decide), hEO] at SRV
              have HSRV := Lib.hid SRV
              clear hEO SRV
              go_wp2_with fail
              refine HSRV.out.mono ?_
              rintro e w8 ⟨v8, rfl, f8, sh8, o8⟩
              have HW8 := Lib.hid (HW7.out.step f8 sh8 (fun y hy => .inl hy))
              clear HSRV f8 sh8 o8 HW7
              go_wp2_with fail
              refine (known41 _).mono ?_
              rintro e w9 ⟨rfl, f9⟩
              go_wp2_with fail
              go_ret
              exact ⟨rfl, HW8.out.fr.then0 f9⟩
            · go_wp2_with fail
              have hls := HI.out.2.1
              have hff := HI.out.1.ffar
              have hEO := HI.out.1.eof HX.out.1 (now := nw) (by omega) (by omega) (by omega)
              have SRV := sh_recv HW7.out.sh (now := nw) (most := 1) (by omega) (by omega)
              rw [recvS_bad (by rw [hEO]; decide), recvB_bad (by rw [hEO]; decide), hEO] at SRV
              have HSRV := Lib.hid SRV
              clear hEO SRV
              go_wp2_with fail
              refine HSRV.out.mono ?_
              rintro e w8 ⟨v8, rfl, f8, sh8, o8⟩
              have HW8 := Lib.hid (HW7.out.step f8 sh8 (fun y hy => .inl hy))
              clear HSRV f8 sh8 o8 HW7
              go_wp2_with fail
              refine (known41 _).mono ?_
              rintro e w9 ⟨rfl, f9⟩
              go_wp2_with fail
              go_ret
              exact ⟨rfl, HW8.out.fr.then0 f9⟩

set_option maxHeartbeats 4000000 in
theorem shaperHolds_walk {r p u lat lim now : Int} {a : Option Addr} {len cap : Nat} (h0 : 0 ≤ now) (h1 : now ≤ 18446744073709551615) (w : World) (hA : ∃ A, Acts41 w w.heap.size a len cap A) :
    Calls Try.prog 10 #[.agg #[.int .i64 r, .int .i64 p, .int .i64 u, .int .i64 lat, .int .i64 lim, .int .u64 now], .slice a len cap] w fun e w' => e = .returned (.bool true) ∧ Fr [] w w' := by
  obtain ⟨A, hA⟩ := hA
  by_cases hv : ValS r p u lat lim now
  · by_cases hs : fewB41 A = true
    · by_cases hn : now ≤ 1099511627776
      · exact shaperHolds_main w hv h0 hn hA hs
      · obtain ⟨wb, hwb, fb, qb⟩ : ∃ W, w.alloc (.cells #[.int .i64 r, .int .i64 p, .int .i64 u, .int .i64 lat, .int .i64 lim, .int .u64 now] 56) = W ∧ Fr [] w W ∧ W.heap[w.heap.size]? = some (.cells #[.int .i64 r, .int .i64 p, .int .i64 u, .int .i64 lat, .int .i64 lim, .int .u64 now] 56 (0, 0)) := ⟨_, rfl, (Fr.refl _ _).alloc _, newA rfl⟩
        have HV := Lib.hid fun w => valid41_yes w hv
        have hf0 := fun w1 (f : Fr [] wb w1) => few41 (hA.keep (fb.then0 f) (Nat.le_refl _) (by simp))
        rw [hs] at hf0
        have HF := Lib.hid hf0
        have hn2 : 1099511627776 < now := by omega
        clear hv hs hA hf0 hn
        go_enter Try.func10, Try.ntmps10
        go_wp2_with (refine wpList_load_row rfl 56 (.tmp 2) rfl _ rfl _ _ _ _ qb Try.underlying56 rfl (by kernel_rfl) ?_)
        refine (HV.out _).mono ?_
        rintro e w1 ⟨rfl, f1⟩
        have HF1 := Lib.hid (HF.out _ f1)
        have d5 : w1.cell? ⟨w.heap.size, 5, none⟩ = some (.int .u64 now) := cell_of (f1.keep qb (by simp))
        clear HF HV
        go_wp2_with fail
        refine HF1.out.mono ?_
        rintro e w2 ⟨rfl, rfl⟩
        clear HF1
        go_wp2_with fail
        refine (known41 _).mono ?_
        rintro e w3 ⟨rfl, f3⟩
        go_wp2_with fail
        go_ret
        exact ⟨rfl, (fb.then0 f1).then0 f3⟩
    · obtain ⟨wb, hwb, fb, qb⟩ : ∃ W, w.alloc (.cells #[.int .i64 r, .int .i64 p, .int .i64 u, .int .i64 lat, .int .i64 lim, .int .u64 now] 56) = W ∧ Fr [] w W ∧ W.heap[w.heap.size]? = some (.cells #[.int .i64 r, .int .i64 p, .int .i64 u, .int .i64 lat, .int .i64 lim, .int .u64 now] 56 (0, 0)) := ⟨_, rfl, (Fr.refl _ _).alloc _, newA rfl⟩
      have HV := Lib.hid fun w => valid41_yes w hv
      have hs0 : fewB41 A = false := by simpa using hs
      have HF := Lib.hid fun w1 (f : Fr [] wb w1) => few41 (hA.keep (fb.then0 f) (Nat.le_refl _) (by simp))
      rw [hs0] at HF
      clear hv hs hs0 hA
      go_enter Try.func10, Try.ntmps10
      go_wp2_with (refine wpList_load_row rfl 56 (.tmp 2) rfl _ rfl _ _ _ _ qb Try.underlying56 rfl (by kernel_rfl) ?_)
      refine (HV.out _).mono ?_
      rintro e w1 ⟨rfl, f1⟩
      have HF1 := Lib.hid (HF.out _ f1)
      clear HF HV
      go_wp2_with fail
      refine HF1.out.mono ?_
      rintro e w2 ⟨rfl, rfl⟩
      clear HF1
      go_wp2_with fail
      refine (known41 _).mono ?_
      rintro e w3 ⟨rfl, f3⟩
      go_wp2_with fail
      go_ret
      exact ⟨rfl, (fb.then0 f1).then0 f3⟩
  · obtain ⟨wb, hwb, fb, qb⟩ : ∃ W, w.alloc (.cells #[.int .i64 r, .int .i64 p, .int .i64 u, .int .i64 lat, .int .i64 lim, .int .u64 now] 56) = W ∧ Fr [] w W ∧ W.heap[w.heap.size]? = some (.cells #[.int .i64 r, .int .i64 p, .int .i64 u, .int .i64 lat, .int .i64 lim, .int .u64 now] 56 (0, 0)) := ⟨_, rfl, (Fr.refl _ _).alloc _, newA rfl⟩
    have HV := Lib.hid fun w => valid41_no w hv
    clear hv hA
    go_enter Try.func10, Try.ntmps10
    go_wp2_with (refine wpList_load_row rfl 56 (.tmp 2) rfl _ rfl _ _ _ _ qb Try.underlying56 rfl (by kernel_rfl) ?_)
    refine (HV.out _).mono ?_
    rintro e w1 ⟨rfl, f1⟩
    clear HV
    go_wp2_with fail
    refine (known41 _).mono ?_
    rintro e w3 ⟨rfl, f3⟩
    go_wp2_with fail
    go_ret
    exact ⟨rfl, (fb.then0 f1).then0 f3⟩
end Go.Proofs.Ytdndabklcenndaa
