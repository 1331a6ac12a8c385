/-
  Law 15: DuplexSwaps: everything is the same if the ends change their names, and if the parts of writes are put together.
-/
import Derived.Test.YtdoamelhclnphaaPx15
import Derived.Test.YtdoamelhclnphaaLaw15
import Derived.Test.YtdoamelhclnphaaKnown15
import Derived.Deep.DeepCutAuto
import Derived.Deep.CutBlock
namespace Go.Proofs.Ytdoamelhclnphaa
open Go.RowKit
set_option maxRecDepth 100000

theorem st_self15 (l : List UInt8) : (st l != st l) = false := by
  have h : (st l == st l) = true := by
    show (l.toArray == l.toArray) = true
    simp
  unfold bne
  rw [h]
  rfl
set_option maxHeartbeats 40000000 in
theorem duplexSwaps_main {c0 c1 : Int} {a : Option Addr} {len cap : Nat} {A : List A15} (w : World) (hc0 : 0 ≤ c0 ∧ c0 ≤ 4096) (hc1 : 0 ≤ c1 ∧ c1 ≤ 4096) (hA : Acts15 w w.heap.size a len cap A) (hs : fewB15 A = true) :
    Calls Try.prog 9 #[.int .i64 c0, .int .i64 c1, .slice a len cap] w fun e w' => e = .returned (.bool true) ∧ Fr [] w w' := by
  have hle := hA.len_eq
  subst hle
  have HFW := Lib.hid (hs ▸ few15 hA)
  obtain ⟨hl20, hok, hsum⟩ := fewB15_iff hs
  have HOKS : Hid (∀ x ∈ A, x.ps.length ≤ 100 ∧ tot x.ps ≤ 3000) := Lib.hid (fun x hx => hok x hx)
  have hl20' : (A.length : Int) ≤ 20 := by omega
  have HA0 := Lib.hid hA
  have HN1 := Lib.hid fun w1 => dx_new w1 hc0 hc1
  have HN2 := Lib.hid fun w1 => dx_new w1 hc1 hc0
  generalize newM c0 = n0 at *
  generalize newM c1 = n1 at *
  clear hs hok hsum hl20 hA hc0 hc1
  go_enter Try.func9, Try.ntmps9
  go_wp2_with fail
  refine HFW.out.mono ?_
  rintro e w0 ⟨rfl, f0⟩
  have HF0 := Lib.hid f0
  clear f0 HFW
  go_wp2_with fail
  refine (HN1.out _).mono ?_
  rintro e w1 ⟨dx, Fx, rfl, f1, l1, h1⟩
  have H1 := Lib.hid (And.intro f1 (And.intro l1 h1))
  clear f1 l1 h1 HN1
  go_wp2_with fail
  refine (HN2.out _).mono ?_
  rintro e w2 ⟨dy, Fy, rfl, f2, l2, h2⟩
  have HG2 := Lib.hid ((HF0.out.then0 H1.out.1).then0 f2)
  have HX2 : Hid (PX w w2 NoG dx ⟨n0, n1, false, false⟩ dy ⟨n1, n0, false, false⟩) := Lib.hid (by
    have z0 := HF0.out.size
    have z1 := H1.out.1.size
    have hxl := H1.out.2.2.lt
    exact ⟨Fx, Fy, H1.out.2.2.keep0 f2, h2, fun x hx hy => by have := hxl x hx; have := l2 x hy; omega, fun x hx => ⟨by have := H1.out.2.1 x hx; omega, fun h => h.elim⟩, fun x hx => ⟨by have := l2 x hx; omega, fun h => h.elim⟩, fun x hx => hx.elim⟩)
  have HA2 := Lib.hid (HA0.out.keep HG2.out (Nat.le_refl _) (by simp))
  clear f2 l2 h2 H1 HF0 HA0 HN2 Fx Fy
  go_wp2_with fail
  go_loopw [11] (fun i wr => ∃ (k : Nat) (m0 m1 : SM) (x0 x1 : Bool), k ≤ A.length ∧ i = .int .i64 k ∧ Hid (PX w wr NoG dx ⟨m0, m1, x0, x1⟩ dy ⟨m1, m0, x1, x0⟩) ∧ Hid (Fr [] w wr) ∧ Hid (Acts15 wr w.heap.size a A.length cap A)) (fun i _ => A.length - (intOf i).toNat)
  case atStart => exact ⟨0, n0, n1, false, false, by omega, rfl, HX2, HG2, HA2⟩
  case round =>
    clear HX2 HG2 HA2
    obtain ⟨k, m0, m1, x0, x1, hk, rfl, HP, HG, HA⟩ := hrel
    rename World => wr
    by_cases hlt : (k : Int) < A.length
    · have hkA : k < A.length := by omega
      obtain ⟨ab, ao, pa, pl, pc, rfl, habM, hab, i0, i1, i2, i3, hp⟩ := HA.out.at_ k hkA
      have hok := HOKS.out A[k] (List.getElem_mem hkA)
      generalize A[k] = ak at i0 i1 i2 i3 hp hok
      obtain ⟨what, en, ps, n⟩ := ak
      dsimp only at i0 i1 i2 i3 hp hok
      have hpl := hp.len_eq
      subst hpl
      obtain ⟨w5, hw5, f5, q5⟩ : ∃ W', wr.alloc (.cells #[.int .i64 what, .int .i64 en, .slice pa ps.length pc, .int .i64 n] 94) = W' ∧ Fr [] wr W' ∧ W'.heap[wr.heap.size]? = some (.cells #[.int .i64 what, .int .i64 en, .slice pa ps.length pc, .int .i64 n] 94 (0, 0)) := ⟨_, rfl, (Fr.refl _ _).alloc _, newA rfl⟩
      have e0 : w5.cell? ⟨wr.heap.size, 0, none⟩ = some (.int .i64 what) := cell_of q5
      have e1 : w5.cell? ⟨wr.heap.size, 1, none⟩ = some (.int .i64 en) := cell_of q5
      have e2 : w5.cell? ⟨wr.heap.size, 2, none⟩ = some (.slice pa ps.length pc) := cell_of q5
      have e3 : w5.cell? ⟨wr.heap.size, 3, none⟩ = some (.int .i64 n) := cell_of q5
      have hbx5 : wr.heap.size < w5.heap.size := lt_of_heap q5
      have HQ5 := Lib.hid q5
      have HPR := HP
      have HP5 := Lib.hid (HP.out.more f5)
      have HF5 := Lib.hid f5
      have HG5 := Lib.hid (HG.out.then0 f5)
      have hz5 : w.heap.size ≤ w5.heap.size := HG5.out.size
      have HA5 := Lib.hid (HA.out.keep f5 HG.out.size (by simp))
      have HPP := Lib.hid (hp.keep f5 (by simp))
      have HOK := Lib.hid hok
      have HEN := Lib.hid fun (w : World) (k : Int) => r15_end w k
      clear q5 f5 hp hok
      by_cases he0 : en = 0
      · subst he0
        clear habM
        go_upto_region 12 with fail
        go_wp2_with fail
        refine (HEN.out _ _).mono ?_
        rintro e w' ⟨rfl, rfl⟩
        clear HEN
        go_upto_block 2 with fail
        clear i0 i1 i2 i3
        go_cut [] (fun wx => ∃ (m0 m1 : SM) (x0 x1 : Bool), Hid (PX w wx NoG dx ⟨m0, m1, x0, x1⟩ dy ⟨m1, m0, x1, x0⟩) ∧ Hid (Fr [] w wx) ∧ Hid (Acts15 wx w.heap.size (some ⟨ab, ao, none⟩) A.length cap A))
        case first =>
          rcases Bool.eq_false_or_eq_true (what == 0) with q0 | q0
          · obtain rfl : what = 0 := by simpa using q0
            as_aux_lemma =>
              obtain ⟨vs, hvl, hsv, hone, hvp⟩ := HPP.out.at_.vals
              have hps := HOK.out.1
              have htt := HOK.out.2
              have HV := Lib.hid hvp
              have HSV := Lib.hid hsv
              have HONE := Lib.hid hone
              have HVL := Lib.hid hvl
              have HU2 : Hid (Try.prog.underlying 53 = some (.slice 29)) := Lib.hid Try.underlying53
              have HI2 : Hid ((Try.prog.info? 29).map (fun i => (i.zero, i.size, i.bytes)) = some (some (.slice none 0 0), 1, 24)) := Lib.hid (by kernel_rfl)
              have H3p : Hid (([] : List Value).length + ps.length ≤ maxLen) := Lib.hid (by unfold maxLen; simp; omega)
              have H4p : Hid ((([] : List Value).length + ps.length) * 24 ≤ 140737488355328) := Lib.hid (by simp; omega)
              have htf := tot_eq ps
              obtain ⟨fl, hfl⟩ : ∃ l, ps.flatten = l := ⟨_, rfl⟩
              rw [hfl] at htf
              have hof : (own ps).flatten = fl := by rw [own_flat, hfl]
              have HOF := Lib.hid (And.intro hof hfl)
              have HTF := Lib.hid (And.intro htf (And.intro htt hps))
              clear hvp hsv hone hvl htf htt hps hof hfl
              go_wp2_with (refine wpList_append_fr _ rfl (.const (.slice none 0 0)) (.tmp 100) 53 rfl 29 (.slice none 0 0) 24 HU2.out HI2.out rfl w5.heap.size (.slice none 0 0) [] (by exact rfl) (Ow.nil _ _ _) pa ps.length pc vs (by exact rfl) HVL.out HSV.out HONE.out H3p.out H4p.out (Nat.le_refl _) ?_)
              intro v6 w6 o6 f6' _
              have f6 : Fr [] w5 w6 := f6'
              clear f6'
              obtain ⟨na, nc, rfl, hnc, hncm, hpa⟩ := PartsAt.copied o6.out HVL.out HV.out f6 (by simp)
              have HNEW := Lib.hid (rope_new (cap := nc) hpa rfl (by have := HTF.out.2.2; unfold maxLen; omega))
              clear hpa o6 hnc hncm HV HSV HONE HVL HU2 HI2 H3p H4p
              go_wp2_with fail
              refine HNEW.out.mono ?_
              rintro e w7 ⟨f7, he⟩
              rw [if_neg (by have := HTF.out.2.2; have := (show (own ps).length ≤ ps.length from List.length_filter_le _ _); omega), if_neg (by have := HTF.out.2.1; omega)] at he
              obtain ⟨v, rfl, hr⟩ := he
              obtain ⟨ra, rc, rfl, _⟩ := id hr
              clear HNEW
              obtain ⟨w8, hw8, f8, q8⟩ : ∃ W, w7.alloc (.cells #[.slice ra (own ps).length rc, .int .i64 (tot (own ps))] 57) = W ∧ Fr [] w7 W ∧ W.heap[w7.heap.size]? = some (.cells #[.slice ra (own ps).length rc, .int .i64 (tot (own ps))] 57 (0, 0)) := ⟨_, rfl, (Fr.refl _ _).alloc _, newA rfl⟩
              have z6 := f6.size
              have z7 := f7.size
              have z8 := lt_of_heap q8
              have g8 := (f6.then0 f7).then0 f8
              have HR1 := Lib.hid hr.there
              have HG78 := Lib.hid f8
              have HQ8 := Lib.hid q8
              have HF8 := Lib.hid g8
              have hq58 := g8.keep HQ5.out (by simp)
              have HQ58 := Lib.hid hq58
              have c0 : w8.cell? ⟨wr.heap.size, 0, none⟩ = some (.int .i64 0) := cell_of hq58
              have c1 : w8.cell? ⟨wr.heap.size, 1, none⟩ = some (.int .i64 0) := cell_of hq58
              have c2 : w8.cell? ⟨wr.heap.size, 2, none⟩ = some (.slice pa ps.length pc) := cell_of hq58
              have c3 : w8.cell? ⟨wr.heap.size, 3, none⟩ = some (.int .i64 n) := cell_of hq58
              have hj := join15 ((HPP.out.keep g8 (by simp)).at_) (len := ps.length) (cap := pc) rfl (by have := HTF.out.2.2; omega) (by have := HTF.out.2.1; omega)
              rw [HOF.out.2] at hj
              have HJ := Lib.hid hj
              clear hj
              clear hr q8 f6 f7 f8 g8 hq58 e0 e1 e2 e3
              go_wp2_with fail
              refine HJ.out.mono ?_
              rintro e w9 ⟨vj, rfl, f9, oj⟩
              obtain ⟨ja, jc, rfl, _⟩ := oj.formB
              have pj := PartV.ofOw oj
              obtain ⟨w10, hw10, f10, q10⟩ : ∃ W, w9.alloc (.cells #[.slice ja fl.length jc] 29) = W ∧ Fr [] w9 W ∧ W.heap[w9.heap.size]? = some (.cells #[.slice ja fl.length jc] 29 (0, 0)) := ⟨_, rfl, (Fr.refl _ _).alloc _, newA rfl⟩
              have HN2 := Lib.hid (rope_new (cap := 1) (len := 1) (parts_single q10 (pj.keep f10 (by simp))) rfl (by unfold maxLen; omega))
              have g10 := f9.then0 f10
              have HG810 := Lib.hid g10
              have z9 := f9.size
              have z10 := lt_of_heap q10
              clear oj pj q10 f9 f10 g10 HJ
              go_wp2_with fail
              refine HN2.out.mono ?_
              rintro e w11 ⟨f11, he⟩
              rw [if_neg (by have := (own_single fl).1; omega), if_neg (by have := HTF.out.1; have := HTF.out.2.1; simp [tot]; omega)] at he
              obtain ⟨v, rfl, hr⟩ := he
              obtain ⟨rb, rd, rfl, _⟩ := id hr
              clear HN2
              obtain ⟨w12, hw12, f12, q12⟩ : ∃ W, w11.alloc (.cells #[.slice rb (own [fl]).length rd, .int .i64 (tot (own [fl]))] 57) = W ∧ Fr [] w11 W ∧ W.heap[w11.heap.size]? = some (.cells #[.slice rb (own [fl]).length rd, .int .i64 (tot (own [fl]))] 57 (0, 0)) := ⟨_, rfl, (Fr.refl _ _).alloc _, newA rfl⟩
              have z11 := f11.size
              have z12 := lt_of_heap q12
              have g12 := (HG810.out.then0 f11).then0 f12
              have G512 := HF8.out.then0 g12
              have HRA := Lib.hid (((HR1.out.keep HG78.out (by simp)).keep g12 (by simp)))
              have HRB := Lib.hid (hr.there.keep f12 (by simp))
              have HQ12 := Lib.hid (And.intro (HQ5.out |> fun q => G512.keep q (by simp)) (And.intro (g12.keep HQ8.out (by simp)) q12))
              have HP12 := Lib.hid (HPR.out.more (HF5.out.then0 G512))
              have HG12 := Lib.hid (HG5.out.then0 G512)
              have HA12 := Lib.hid (HA5.out.keep G512 hz5 (by simp))
              have hz12 : w.heap.size ≤ w12.heap.size := HG12.out.size
              have hfl2 := (own_single fl).2
              have hfl1 := HOF.out.1
              have HFL := Lib.hid (And.intro hfl1 hfl2)
              clear hr q12 f11 f12 g12 G512 HR1 HG78 HQ8 HF8 HG810 hfl1 hfl2 HPP HP5 c0 c1 c2 c3 HQ58 hw8 hw10
              have hz5r : w.heap.size ≤ wr.heap.size := HG.out.size
              have hr5 := HF5.out.size
              have HEB := Lib.hid (Go.Proofs.enters_of Try.func51 (by kernel_rfl) rfl)
              have HFB := Lib.hid fun (w' : World) (f : w'.heap[wr.heap.size]? = some (.cells #[.int .i64 0, .int .i64 0, .slice pa ps.length pc, .int .i64 n] 94 (0, 0)) ∧ w'.heap[w7.heap.size]? = some (.cells #[.slice ra (own ps).length rc, .int .i64 (tot (own ps))] 57 (0, 0)) ∧ w'.heap[w11.heap.size]? = some (.cells #[.slice rb (own [fl]).length rd, .int .i64 (tot (own [fl]))] 57 (0, 0))) => (show w'.cell? ⟨wr.heap.size, 0, none⟩ = some (.int .i64 0) ∧ w'.cell? ⟨wr.heap.size, 1, none⟩ = some (.int .i64 0) ∧ w'.cell? ⟨wr.heap.size, 2, none⟩ = some (.slice pa ps.length pc) ∧ w'.cell? ⟨wr.heap.size, 3, none⟩ = some (.int .i64 n) ∧ w'.cell? ⟨w7.heap.size, 0, none⟩ = some (.slice ra (own ps).length rc) ∧ w'.cell? ⟨w7.heap.size, 1, none⟩ = some (.int .i64 (tot (own ps))) ∧ w'.cell? ⟨w11.heap.size, 0, none⟩ = some (.slice rb (own [fl]).length rd) ∧ w'.cell? ⟨w11.heap.size, 1, none⟩ = some (.int .i64 (tot (own [fl]))) from ⟨cell_of f.1, cell_of f.1, cell_of f.1, cell_of f.1, cell_of f.2.1, cell_of f.2.1, cell_of f.2.2, cell_of f.2.2⟩)
              go_wp2_with fail
              have fd : Fr [] w12 w12.drew := (Fr.refl _ _).drew
              have hq12 : w12.drew.heap[wr.heap.size]? = some (.cells #[.int .i64 0, .int .i64 0, .slice pa ps.length pc, .int .i64 n] 94 (0, 0)) ∧ w12.drew.heap[w7.heap.size]? = some (.cells #[.slice ra (own ps).length rc, .int .i64 (tot (own ps))] 57 (0, 0)) ∧ w12.drew.heap[w11.heap.size]? = some (.cells #[.slice rb (own [fl]).length rd, .int .i64 (tot (own [fl]))] 57 (0, 0)) := ⟨fd.keep HQ12.out.1 (by simp), fd.keep HQ12.out.2.1 (by simp), fd.keep HQ12.out.2.2 (by simp)⟩
              refine wp_region_order [(0, true), (1, true), (2, true), (3, true), (4, true), (5, true), (6, true), (7, true), (8, true), (9, true), (10, true), (12, true), (13, true), (14, true), (11, false), (15, false), (16, true), (17, true)] (fun w' => w'.heap[wr.heap.size]? = some (.cells #[.int .i64 0, .int .i64 0, .slice pa ps.length pc, .int .i64 n] 94 (0, 0)) ∧ w'.heap[w7.heap.size]? = some (.cells #[.slice ra (own ps).length rc, .int .i64 (tot (own ps))] 57 (0, 0)) ∧ w'.heap[w11.heap.size]? = some (.cells #[.slice rb (own [fl]).length rd, .int .i64 (tot (own [fl]))] 57 (0, 0))) (by kernel_rfl) (by kernel_rfl) hq12 ?_
              intro OPS HOPS
              have hops := HOPS.out
              try simp only [List.append_eq, List.cons_append, List.nil_append] at hops
              replace HOPS := Lib.hid hops
              clear hops
              refine walkO_take (o := _) (v := ?_) (by rw [HOPS.out]; simp only [List.getElem?_toArray, List.getElem?_cons_succ, List.getElem?_cons_zero]; exact rfl) (Or.inl ⟨rfl, ?_⟩) ?_
              rotate_left
              · (intro w hSw; have hSx := HFB.out _ hSw; (try dsimp only at hSx); clear hSw; go_simp) <;> (with_reducible rfl)
              simp only [Act.put, List.setIfInBounds_toArray, List.set_cons_zero, List.set_cons_succ]
              refine walkO_take (o := _) (v := ?_) (by rw [HOPS.out]; simp only [List.getElem?_toArray, List.getElem?_cons_succ, List.getElem?_cons_zero]; exact rfl) (Or.inl ⟨rfl, ?_⟩) ?_
              rotate_left
              · (intro w hSw; have hSx := HFB.out _ hSw; (try dsimp only at hSx); clear hSw; go_simp) <;> (with_reducible rfl)
              simp only [Act.put, List.setIfInBounds_toArray, List.set_cons_zero, List.set_cons_succ]
              refine walkO_take (o := _) (v := ?_) (by rw [HOPS.out]; simp only [List.getElem?_toArray, List.getElem?_cons_succ, List.getElem?_cons_zero]; exact rfl) (Or.inl ⟨rfl, ?_⟩) ?_
              rotate_left
              · (intro w hSw; have hSx := HFB.out _ hSw; (try dsimp only at hSx); clear hSw; go_simp) <;> (with_reducible rfl)
              simp only [Act.put, List.setIfInBounds_toArray, List.set_cons_zero, List.set_cons_succ]
              refine walkO_take (o := _) (v := ?_) (by rw [HOPS.out]; simp only [List.getElem?_toArray, List.getElem?_cons_succ, List.getElem?_cons_zero]; exact rfl) (Or.inl ⟨by rw [HOPS.out]; rfl, ?_⟩) ?_
              rotate_left
              · (intro w hSw; have hSx := HFB.out _ hSw; (try dsimp only at hSx); clear hSw; go_simp) <;> (with_reducible rfl)
              simp only [Act.put, List.setIfInBounds_toArray, List.set_cons_zero, List.set_cons_succ]
              refine walkO_take (o := _) (v := ?_) (by rw [HOPS.out]; simp only [List.getElem?_toArray, List.getElem?_cons_succ, List.getElem?_cons_zero]; exact rfl) (Or.inl ⟨by rw [HOPS.out]; rfl, ?_⟩) ?_
              rotate_left
              · (intro w hSw; have hSx := HFB.out _ hSw; (try dsimp only at hSx); clear hSw; go_simp) <;> (with_reducible rfl)
              simp only [Act.put, List.setIfInBounds_toArray, List.set_cons_zero, List.set_cons_succ]
              refine walkO_take (o := _) (v := ?_) (by rw [HOPS.out]; simp only [List.getElem?_toArray, List.getElem?_cons_succ, List.getElem?_cons_zero]; exact rfl) (Or.inl ⟨rfl, ?_⟩) ?_
              rotate_left
              · (intro w hSw; have hSx := HFB.out _ hSw; (try dsimp only at hSx); clear hSw; go_simp) <;> (with_reducible rfl)
              simp only [Act.put, List.setIfInBounds_toArray, List.set_cons_zero, List.set_cons_succ]
              refine walkO_take (o := _) (v := ?_) (by rw [HOPS.out]; simp only [List.getElem?_toArray, List.getElem?_cons_succ, List.getElem?_cons_zero]; exact rfl) (Or.inl ⟨rfl, ?_⟩) ?_
              rotate_left
              · (intro w hSw; have hSx := HFB.out _ hSw; (try dsimp only at hSx); clear hSw; go_simp) <;> (with_reducible rfl)
              simp only [Act.put, List.setIfInBounds_toArray, List.set_cons_zero, List.set_cons_succ]
              refine walkO_take (o := _) (v := ?_) (by rw [HOPS.out]; simp only [List.getElem?_toArray, List.getElem?_cons_succ, List.getElem?_cons_zero]; exact rfl) (Or.inl ⟨by rw [HOPS.out]; rfl, ?_⟩) ?_
              rotate_left
              · (intro w hSw; have hSx := HFB.out _ hSw; (try dsimp only at hSx); clear hSw; go_simp) <;> (with_reducible rfl)
              simp only [Act.put, List.setIfInBounds_toArray, List.set_cons_zero, List.set_cons_succ]
              refine walkO_take (o := _) (v := ?_) (by rw [HOPS.out]; simp only [List.getElem?_toArray, List.getElem?_cons_succ, List.getElem?_cons_zero]; exact rfl) (Or.inl ⟨by rw [HOPS.out]; rfl, ?_⟩) ?_
              rotate_left
              · (intro w hSw; have hSx := HFB.out _ hSw; (try dsimp only at hSx); clear hSw; go_simp) <;> (with_reducible rfl)
              simp only [Act.put, List.setIfInBounds_toArray, List.set_cons_zero, List.set_cons_succ]
              refine walkO_take (o := _) (v := ?_) (by rw [HOPS.out]; simp only [List.getElem?_toArray, List.getElem?_cons_succ, List.getElem?_cons_zero]; exact rfl) (Or.inl ⟨by rw [HOPS.out]; rfl, ?_⟩) ?_
              rotate_left
              · (intro w hSw; have hSx := HFB.out _ hSw; (try dsimp only at hSx); clear hSw; go_simp) <;> (with_reducible rfl)
              simp only [Act.put, List.setIfInBounds_toArray, List.set_cons_zero, List.set_cons_succ]
              refine walkO_take (o := _) (v := ?_) (by rw [HOPS.out]; simp only [List.getElem?_toArray, List.getElem?_cons_succ, List.getElem?_cons_zero]; exact rfl) (Or.inl ⟨by rw [HOPS.out]; rfl, ?_⟩) ?_
              rotate_left
              · (intro w hSw; have hSx := HFB.out _ hSw; (try dsimp only at hSx); clear hSw; go_simp) <;> (with_reducible rfl)
              simp only [Act.put, List.setIfInBounds_toArray, List.set_cons_zero, List.set_cons_succ]
              refine walkO_take (o := _) (v := ?_) (by rw [HOPS.out]; simp only [List.getElem?_toArray, List.getElem?_cons_succ, List.getElem?_cons_zero]; exact rfl) (Or.inl ⟨by rw [HOPS.out]; rfl, ?_⟩) ?_
              rotate_left
              · (intro w hSw; have hSx := HFB.out _ hSw; (try dsimp only at hSx); clear hSw; go_simp) <;> (with_reducible rfl)
              simp only [Act.put, List.setIfInBounds_toArray, List.set_cons_zero, List.set_cons_succ]
              refine walkO_take (o := _) (v := ?_) (by rw [HOPS.out]; simp only [List.getElem?_toArray, List.getElem?_cons_succ, List.getElem?_cons_zero]; exact rfl) (Or.inl ⟨by rw [HOPS.out]; rfl, ?_⟩) ?_
              rotate_left
              · (intro w hSw; have hSx := HFB.out _ hSw; (try dsimp only at hSx); clear hSw; go_simp) <;> (with_reducible rfl)
              simp only [Act.put, List.setIfInBounds_toArray, List.set_cons_zero, List.set_cons_succ]
              refine walkO_take (o := _) (v := ?_) (by rw [HOPS.out]; simp only [List.getElem?_toArray, List.getElem?_cons_succ, List.getElem?_cons_zero]; exact rfl) (Or.inl ⟨by rw [HOPS.out]; rfl, ?_⟩) ?_
              rotate_left
              · (intro w hSw; have hSx := HFB.out _ hSw; (try dsimp only at hSx); clear hSw; go_simp) <;> (with_reducible rfl)
              simp only [Act.put, List.setIfInBounds_toArray, List.set_cons_zero, List.set_cons_succ]
              refine walkO_call (o := _) (by rw [HOPS.out]; simp only [List.getElem?_toArray, List.getElem?_cons_succ, List.getElem?_cons_zero]; exact rfl) (fun K HK => ?_)
              refine step_call (by rw [HOPS.out]; rfl) 51 #[(.tmp 120), (.tmp 122), (.tmp 123)] #[22, 3, 57] rfl HEB.out #[.pointer (some ⟨dx, 0, none⟩), .int .i64 0, .agg #[.slice ra (own ps).length rc, .int .i64 (tot (own ps))]] (by simp [Act.eval] <;> rfl) (px_begin0 (V' := fun x => wr.heap.size ≤ x ∧ x < w12.heap.size ∧ ¬ (w6.heap.size ≤ x ∧ x < w7.heap.size)) (N2 := fun x => w6.heap.size ≤ x ∧ x < w7.heap.size) (HP12.out.keep0 fd) hz12 ((HRA.out.keep fd (by simp)).mono (fun x hx => ⟨hx.1, hx.2⟩)) (fun x hx => ⟨by omega, ⟨by omega, by omega⟩, fun hv => hv.2.2 hx⟩) (fun x hx => ⟨hx.1, hx.2.1⟩)) ?_
              rintro e w13 ⟨rfl, h13, S13, f13, l13⟩
              have z13 := f13.size
              have hs13 : ∀ x, wr.heap.size ≤ x → x < w12.heap.size → ¬ (w6.heap.size ≤ x ∧ x < w7.heap.size) → x ∉ S13 := fun x h1 h2 h3 hm => (l13 x hm).2 ⟨h1, h2, h3⟩
              have q13 : w13.heap[wr.heap.size]? = some (.cells #[.int .i64 0, .int .i64 0, .slice pa ps.length pc, .int .i64 n] 94 (0, 0)) ∧ w13.heap[w7.heap.size]? = some (.cells #[.slice ra (own ps).length rc, .int .i64 (tot (own ps))] 57 (0, 0)) ∧ w13.heap[w11.heap.size]? = some (.cells #[.slice rb (own [fl]).length rd, .int .i64 (tot (own [fl]))] 57 (0, 0)) := ⟨f13.keep HQ12.out.1 (hs13 _ (Nat.le_refl _) (by omega) (by omega)), f13.keep HQ12.out.2.1 (hs13 _ (by omega) (by omega) (by omega)), f13.keep HQ12.out.2.2 (hs13 _ (by omega) (by omega) (by omega))⟩
              have HRB13 := Lib.hid ((HRB.out.keep fd (by simp)).keep f13 (fun x hx hn => hs13 x (by have := hn.1; omega) (by have := hn.2; omega) (by have := hn.1; omega) hx))
              have H13 := Lib.hid (And.intro h13 (And.intro f13 l13))
              clear h13 f13 l13 hs13
              refine ⟨_, rfl, ?_⟩
              refine HK.out (fun w' => w'.heap[wr.heap.size]? = some (.cells #[.int .i64 0, .int .i64 0, .slice pa ps.length pc, .int .i64 n] 94 (0, 0)) ∧ w'.heap[w7.heap.size]? = some (.cells #[.slice ra (own ps).length rc, .int .i64 (tot (own ps))] 57 (0, 0)) ∧ w'.heap[w11.heap.size]? = some (.cells #[.slice rb (own [fl]).length rd, .int .i64 (tot (own [fl]))] 57 (0, 0))) _ _ (fun _ h => h) (q13) ?_
              clear HK K
              simp only [Act.put, List.setIfInBounds_toArray, List.set_cons_zero, List.set_cons_succ]
              refine walkO_call (o := _) (by rw [HOPS.out]; simp only [List.getElem?_toArray, List.getElem?_cons_succ, List.getElem?_cons_zero]; exact rfl) (fun K HK => ?_)
              refine step_call (by rw [HOPS.out]; rfl) 51 #[(.tmp 125), (.tmp 126), (.tmp 127)] #[22, 3, 57] rfl HEB.out #[.pointer (some ⟨dy, 0, none⟩), .int .i64 1, .agg #[.slice rb (own [fl]).length rd, .int .i64 (tot (own [fl]))]] (by simp [Act.eval] <;> rfl) (px_begin1 (V' := fun x => x = wr.heap.size ∨ x = w7.heap.size ∨ x = w11.heap.size) (N2 := fun x => w10.heap.size ≤ x ∧ x < w11.heap.size) (H13.out.1.swap) (Nat.le_trans hz12 z13) (HRB13.out.mono (fun x hx => ⟨hx.1, hx.2⟩)) (fun x hx => ⟨by omega, ⟨by omega, by omega, by omega⟩, fun hv => by rcases hv with rfl | rfl | rfl <;> omega⟩) (fun x hx => by rcases hx with rfl | rfl | rfl; exact ⟨Nat.le_refl _, by omega, by omega⟩; exact ⟨by omega, by omega, by omega⟩; exact ⟨by omega, by omega, by omega⟩)) ?_
              rintro e w14 ⟨rfl, h14, S14, f14, l14⟩
              have q14 : w14.heap[wr.heap.size]? = some (.cells #[.int .i64 0, .int .i64 0, .slice pa ps.length pc, .int .i64 n] 94 (0, 0)) ∧ w14.heap[w7.heap.size]? = some (.cells #[.slice ra (own ps).length rc, .int .i64 (tot (own ps))] 57 (0, 0)) ∧ w14.heap[w11.heap.size]? = some (.cells #[.slice rb (own [fl]).length rd, .int .i64 (tot (own [fl]))] 57 (0, 0)) := ⟨f14.keep q13.1 (fun hm => (l14 _ hm).2 (.inl rfl)), f14.keep q13.2.1 (fun hm => (l14 _ hm).2 (.inr (.inl rfl))), f14.keep q13.2.2 (fun hm => (l14 _ hm).2 (.inr (.inr rfl)))⟩
              have H14 := Lib.hid (And.intro h14 (And.intro f14 l14))
              clear h14 f14 l14
              refine ⟨_, rfl, ?_⟩
              refine HK.out (fun w' => w'.heap[wr.heap.size]? = some (.cells #[.int .i64 0, .int .i64 0, .slice pa ps.length pc, .int .i64 n] 94 (0, 0)) ∧ w'.heap[w7.heap.size]? = some (.cells #[.slice ra (own ps).length rc, .int .i64 (tot (own ps))] 57 (0, 0)) ∧ w'.heap[w11.heap.size]? = some (.cells #[.slice rb (own [fl]).length rd, .int .i64 (tot (own [fl]))] 57 (0, 0))) _ _ (fun _ h => h) (q14) ?_
              clear HK K
              simp only [Act.put, List.setIfInBounds_toArray, List.set_cons_zero, List.set_cons_succ]
              refine walkO_take (o := _) (v := ?_) (by rw [HOPS.out]; simp only [List.getElem?_toArray, List.getElem?_cons_succ, List.getElem?_cons_zero]; exact rfl) (Or.inl ⟨by rw [HOPS.out]; rfl, ?_⟩) ?_
              rotate_left
              · (intro w hSw; have hSx := HFB.out _ hSw; (try dsimp only at hSx); clear hSw; go_simp) <;> (with_reducible rfl)
              simp only [Act.put, List.setIfInBounds_toArray, List.set_cons_zero, List.set_cons_succ]
              refine walkO_take (o := _) (v := ?_) (by rw [HOPS.out]; simp only [List.getElem?_toArray, List.getElem?_cons_succ, List.getElem?_cons_zero]; exact rfl) (Or.inl ⟨rfl, ?_⟩) ?_
              rotate_left
              · (intro w hSw; have hSx := HFB.out _ hSw; (try dsimp only at hSx); clear hSw; go_simp) <;> (with_reducible rfl)
              simp only [Act.put, List.setIfInBounds_toArray, List.set_cons_zero, List.set_cons_succ]
              refine walkO_done ?_
              clear HOPS OPS
              have H15 : Hid (PX w w14 NoG dx ⟨(beginM m0 fl).m, m1, x0, x1⟩ dy ⟨m1, (beginM m0 fl).m, x1, x0⟩) := Lib.hid (by have h := H14.out.1.swap; rw [HFL.out.1, HFL.out.2] at h; exact h.less (fun x hx => hx.elim))
              have HF15 := Lib.hid (And.intro (show Fr [] w w14 from ((HG12.out.then0 fd).trans H13.out.2.1 (U := []) (by simp) (fun x hx => .inr (H13.out.2.2 x hx).1)).trans H14.out.2.1 (by simp) (fun x hx => .inr (H14.out.2.2 x hx).1)) (((HA12.out.keep fd hz12 (by simp)).keep H13.out.2.1 hz12 (fun x hx => (H13.out.2.2 x hx).1)).keep H14.out.2.1 (Nat.le_trans hz12 z13) (fun x hx => (H14.out.2.2 x hx).1)))
              have hb1 : (beginM m0 (own ps).flatten).err = (beginM m0 fl).err := by rw [HFL.out.1]
              have hb2 : (beginM m0 (own [fl]).flatten).err = (beginM m0 fl).err := by rw [HFL.out.2]
              try dsimp only
              rw [hb1, hb2]
              clear hb1 hb2 q13 q14 hq12 fd H13 H14 HFB
              go_wp2_with fail
              go_meet
              exact ⟨(beginM m0 fl).m, m1, x0, x1, Lib.hid (PX.less H15.out (fun x hx => hx.elim)), Lib.hid HF15.out.1, Lib.hid HF15.out.2⟩
          · skip
            rcases Bool.eq_false_or_eq_true (what == 1) with q1 | q1
            · obtain rfl : what = 1 := by simpa using q1
              as_aux_lemma =>
                have HC := px_finish0 HP5.out hz5 
                dsimp only at HC
                have HC := Lib.hid HC
                go_wp2_with fail
                refine HC.out.mono ?_
                rintro e w6 ⟨rfl, h6, S6, f6, l6⟩
                have hz6 : w.heap.size ≤ w6.heap.size := Nat.le_trans hz5 f6.size
                have hq6 := f6.keep HQ5.out (fun hm => (l6 _ hm).2 ⟨Nat.le_refl _, hbx5⟩)
                have e0 : w6.cell? ⟨wr.heap.size, 0, none⟩ = some (.int .i64 1) := cell_of hq6
                have e1 : w6.cell? ⟨wr.heap.size, 1, none⟩ = some (.int .i64 0) := cell_of hq6
                have e2 : w6.cell? ⟨wr.heap.size, 2, none⟩ = some (.slice pa ps.length pc) := cell_of hq6
                have e3 : w6.cell? ⟨wr.heap.size, 3, none⟩ = some (.int .i64 n) := cell_of hq6
                have HY := px_finish1 (h6.swap) hz6 
                dsimp only at HY
                have HY := Lib.hid HY
                have H6 := Lib.hid (And.intro f6 l6)
                clear h6 f6 l6 hq6 HC
                go_wp2_with fail
                refine HY.out.mono ?_
                rintro e w7 ⟨rfl, h7, S7, f7, l7⟩
                have H7 := Lib.hid (show PX w w7 _ dx ⟨(endM m0).m, m1, x0, x1⟩ dy ⟨m1, (endM m0).m, x1, x0⟩ from h7.swap)
                have HF7 := Lib.hid (And.intro (show Fr [] w w7 from (HG5.out.trans H6.out.1 (U := []) (by simp) (fun x hx => .inr (H6.out.2 x hx).1)).trans f7 (by simp) (fun x hx => .inr (l7 x hx).1)) ((HA5.out.keep H6.out.1 hz5 (fun x hx => (H6.out.2 x hx).1)).keep f7 hz6 (fun x hx => (l7 x hx).1)))
                clear h7 f7 l7 HY H6 e0 e1 e2 e3
                go_wp2_with fail
                go_meet
                exact ⟨(endM m0).m, m1, x0, x1, Lib.hid (PX.less H7.out (fun x hx => hx.elim)), Lib.hid HF7.out.1, Lib.hid HF7.out.2⟩
            · skip
              rcases Bool.eq_false_or_eq_true (what == 2) with q2 | q2
              · obtain rfl : what = 2 := by simpa using q2
                as_aux_lemma =>
                  have HC := px_cancel0 HP5.out hz5 
                  dsimp only at HC
                  have HC := Lib.hid HC
                  go_wp2_with fail
                  refine HC.out.mono ?_
                  rintro e w6 ⟨rfl, h6, S6, f6, l6⟩
                  have hz6 : w.heap.size ≤ w6.heap.size := Nat.le_trans hz5 f6.size
                  have hq6 := f6.keep HQ5.out (fun hm => (l6 _ hm).2 ⟨Nat.le_refl _, hbx5⟩)
                  have e0 : w6.cell? ⟨wr.heap.size, 0, none⟩ = some (.int .i64 2) := cell_of hq6
                  have e1 : w6.cell? ⟨wr.heap.size, 1, none⟩ = some (.int .i64 0) := cell_of hq6
                  have e2 : w6.cell? ⟨wr.heap.size, 2, none⟩ = some (.slice pa ps.length pc) := cell_of hq6
                  have e3 : w6.cell? ⟨wr.heap.size, 3, none⟩ = some (.int .i64 n) := cell_of hq6
                  have HY := px_cancel1 (h6.swap) hz6 
                  dsimp only at HY
                  have HY := Lib.hid HY
                  have H6 := Lib.hid (And.intro f6 l6)
                  clear h6 f6 l6 hq6 HC
                  go_wp2_with fail
                  refine HY.out.mono ?_
                  rintro e w7 ⟨rfl, h7, S7, f7, l7⟩
                  have H7 := Lib.hid (show PX w w7 _ dx ⟨(cancelM m0).m, m1, x0, x1⟩ dy ⟨m1, (cancelM m0).m, x1, x0⟩ from h7.swap)
                  have HF7 := Lib.hid (And.intro (show Fr [] w w7 from (HG5.out.trans H6.out.1 (U := []) (by simp) (fun x hx => .inr (H6.out.2 x hx).1)).trans f7 (by simp) (fun x hx => .inr (l7 x hx).1)) ((HA5.out.keep H6.out.1 hz5 (fun x hx => (H6.out.2 x hx).1)).keep f7 hz6 (fun x hx => (l7 x hx).1)))
                  clear h7 f7 l7 HY H6 e0 e1 e2 e3
                  go_wp2_with fail
                  go_meet
                  exact ⟨(cancelM m0).m, m1, x0, x1, Lib.hid (PX.less H7.out (fun x hx => hx.elim)), Lib.hid HF7.out.1, Lib.hid HF7.out.2⟩
              · skip
                rcases Bool.eq_false_or_eq_true (what == 3) with q3 | q3
                · obtain rfl : what = 3 := by simpa using q3
                  as_aux_lemma =>
                    have HC := px_read0 HP5.out hz5 n
                    dsimp only at HC
                    have HC := Lib.hid HC
                    go_wp2_with fail
                    refine HC.out.mono ?_
                    rintro e w6 ⟨u, rfl, ou, ⟨_, S6, f6, l6⟩, h6⟩
                    have hz6 : w.heap.size ≤ w6.heap.size := Nat.le_trans hz5 f6.size
                    have hq6 := f6.keep HQ5.out (fun hm => (l6 _ hm).2 ⟨Nat.le_refl _, hbx5⟩)
                    have e0 : w6.cell? ⟨wr.heap.size, 0, none⟩ = some (.int .i64 3) := cell_of hq6
                    have e1 : w6.cell? ⟨wr.heap.size, 1, none⟩ = some (.int .i64 0) := cell_of hq6
                    have e2 : w6.cell? ⟨wr.heap.size, 2, none⟩ = some (.slice pa ps.length pc) := cell_of hq6
                    have e3 : w6.cell? ⟨wr.heap.size, 3, none⟩ = some (.int .i64 n) := cell_of hq6
                    have HY := px_read1 (h6.swap) hz6 n
                    dsimp only at HY
                    have HY := Lib.hid HY
                    have H6 := Lib.hid (And.intro f6 l6)
                    have HO := Lib.hid ou
                    clear h6 f6 l6 HC ou
                    go_wp2_with fail
                    refine HY.out.mono ?_
                    rintro e w7 ⟨u2, rfl, ou2, ⟨h7, S7, f7, l7⟩, _⟩
                    have ou7 := HO.out.keep f7 (fun g e hm => (l7 g hm).2 (.inr e))
                    obtain ⟨ga, gc, rfl, _, _, hs1, _⟩ := ou7.formB
                    obtain ⟨ha, hc, rfl, _, _, hs2, _⟩ := ou2.formB
                    have k1 := conv_st (cap := gc) hs1 rfl
                    have k2 := conv_st (cap := hc) hs2 rfl
                    have kk := st_self15 (readM m1 n).out
                    have H7 := Lib.hid (show PX w w7 _ dx ⟨m0, (readM m1 n).m, x0, x1⟩ dy ⟨(readM m1 n).m, m0, x1, x0⟩ from h7.swap)
                    have HF7 := Lib.hid (And.intro (show Fr [] w w7 from (HG5.out.trans H6.out.1 (U := []) (by simp) (fun x hx => .inr (H6.out.2 x hx).1)).trans f7 (by simp) (fun x hx => .inr (l7 x hx).1)) ((HA5.out.keep H6.out.1 hz5 (fun x hx => (H6.out.2 x hx).1)).keep f7 hz6 (fun x hx => (l7 x hx).1)))
                    generalize (readM m1 n).out = OO at *
                    clear h7 f7 l7 HY H6 HO ou7 ou2 hs1 hs2 hq6 e0 e1 e2 e3
                    go_wp2_with fail
                    go_meet
                    exact ⟨m0, (readM m1 n).m, x0, x1, Lib.hid (PX.less H7.out (fun x hx => hx.elim)), Lib.hid HF7.out.1, Lib.hid HF7.out.2⟩
                · skip
                  rcases Bool.eq_false_or_eq_true (what == 4) with q4 | q4
                  · obtain rfl : what = 4 := by simpa using q4
                    as_aux_lemma =>
                      have HC := px_closew0 HP5.out hz5 
                      dsimp only at HC
                      have HC := Lib.hid HC
                      go_wp2_with fail
                      refine HC.out.mono ?_
                      rintro e w6 ⟨rfl, h6, S6, f6, l6⟩
                      have hz6 : w.heap.size ≤ w6.heap.size := Nat.le_trans hz5 f6.size
                      have hq6 := f6.keep HQ5.out (fun hm => (l6 _ hm).2 ⟨Nat.le_refl _, hbx5⟩)
                      have e0 : w6.cell? ⟨wr.heap.size, 0, none⟩ = some (.int .i64 4) := cell_of hq6
                      have e1 : w6.cell? ⟨wr.heap.size, 1, none⟩ = some (.int .i64 0) := cell_of hq6
                      have e2 : w6.cell? ⟨wr.heap.size, 2, none⟩ = some (.slice pa ps.length pc) := cell_of hq6
                      have e3 : w6.cell? ⟨wr.heap.size, 3, none⟩ = some (.int .i64 n) := cell_of hq6
                      have HY := px_closew1 (h6.swap) hz6 
                      dsimp only at HY
                      have HY := Lib.hid HY
                      have H6 := Lib.hid (And.intro f6 l6)
                      clear h6 f6 l6 hq6 HC
                      go_wp2_with fail
                      refine HY.out.mono ?_
                      rintro e w7 ⟨rfl, h7, S7, f7, l7⟩
                      have H7 := Lib.hid (show PX w w7 _ dx ⟨(closewM m0 13).m, m1, x0, x1⟩ dy ⟨m1, (closewM m0 13).m, x1, x0⟩ from h7.swap)
                      have HF7 := Lib.hid (And.intro (show Fr [] w w7 from (HG5.out.trans H6.out.1 (U := []) (by simp) (fun x hx => .inr (H6.out.2 x hx).1)).trans f7 (by simp) (fun x hx => .inr (l7 x hx).1)) ((HA5.out.keep H6.out.1 hz5 (fun x hx => (H6.out.2 x hx).1)).keep f7 hz6 (fun x hx => (l7 x hx).1)))
                      clear h7 f7 l7 HY H6 e0 e1 e2 e3
                      go_wp2_with fail
                      go_meet
                      exact ⟨(closewM m0 13).m, m1, x0, x1, Lib.hid (PX.less H7.out (fun x hx => hx.elim)), Lib.hid HF7.out.1, Lib.hid HF7.out.2⟩
                  · skip
                    rcases Bool.eq_false_or_eq_true (what == 5) with q5 | q5
                    · obtain rfl : what = 5 := by simpa using q5
                      as_aux_lemma =>
                        have HC := px_closer0 HP5.out hz5 
                        dsimp only at HC
                        have HC := Lib.hid HC
                        go_wp2_with fail
                        refine HC.out.mono ?_
                        rintro e w6 ⟨rfl, h6, S6, f6, l6⟩
                        have hz6 : w.heap.size ≤ w6.heap.size := Nat.le_trans hz5 f6.size
                        have hq6 := f6.keep HQ5.out (fun hm => (l6 _ hm).2 ⟨Nat.le_refl _, hbx5⟩)
                        have e0 : w6.cell? ⟨wr.heap.size, 0, none⟩ = some (.int .i64 5) := cell_of hq6
                        have e1 : w6.cell? ⟨wr.heap.size, 1, none⟩ = some (.int .i64 0) := cell_of hq6
                        have e2 : w6.cell? ⟨wr.heap.size, 2, none⟩ = some (.slice pa ps.length pc) := cell_of hq6
                        have e3 : w6.cell? ⟨wr.heap.size, 3, none⟩ = some (.int .i64 n) := cell_of hq6
                        have HY := px_closer1 (h6.swap) hz6 
                        dsimp only at HY
                        have HY := Lib.hid HY
                        have H6 := Lib.hid (And.intro f6 l6)
                        clear h6 f6 l6 hq6 HC
                        go_wp2_with fail
                        refine HY.out.mono ?_
                        rintro e w7 ⟨rfl, h7, S7, f7, l7⟩
                        have H7 := Lib.hid (show PX w w7 _ dx ⟨m0, (closerM m1 14).m, x0, x1⟩ dy ⟨(closerM m1 14).m, m0, x1, x0⟩ from h7.swap)
                        have HF7 := Lib.hid (And.intro (show Fr [] w w7 from (HG5.out.trans H6.out.1 (U := []) (by simp) (fun x hx => .inr (H6.out.2 x hx).1)).trans f7 (by simp) (fun x hx => .inr (l7 x hx).1)) ((HA5.out.keep H6.out.1 hz5 (fun x hx => (H6.out.2 x hx).1)).keep f7 hz6 (fun x hx => (l7 x hx).1)))
                        clear h7 f7 l7 HY H6 e0 e1 e2 e3
                        go_wp2_with fail
                        go_meet
                        exact ⟨m0, (closerM m1 14).m, x0, x1, Lib.hid (PX.less H7.out (fun x hx => hx.elim)), Lib.hid HF7.out.1, Lib.hid HF7.out.2⟩
                    · skip
                      as_aux_lemma =>
                        cases x0 with
                        | false =>
                          have HC := px_close0 HP5.out hz5 rfl
                          try dsimp only [closeS0, closeS1] at HC
                          have HC := Lib.hid HC
                          go_wp2_with fail
                          refine HC.out.mono ?_
                          rintro e w6 ⟨rfl, h6, S6, f6, l6⟩
                          have hz6 : w.heap.size ≤ w6.heap.size := Nat.le_trans hz5 f6.size
                          have hq6 := f6.keep HQ5.out (fun hm => (l6 _ hm).2 ⟨Nat.le_refl _, hbx5⟩)
                          have e0 : w6.cell? ⟨wr.heap.size, 0, none⟩ = some (.int .i64 what) := cell_of hq6
                          have e1 : w6.cell? ⟨wr.heap.size, 1, none⟩ = some (.int .i64 0) := cell_of hq6
                          have e2 : w6.cell? ⟨wr.heap.size, 2, none⟩ = some (.slice pa ps.length pc) := cell_of hq6
                          have e3 : w6.cell? ⟨wr.heap.size, 3, none⟩ = some (.int .i64 n) := cell_of hq6
                          have HY := px_close1 (h6.swap) hz6 rfl
                          try dsimp only [closeS0, closeS1] at HY
                          have HY := Lib.hid HY
                          have H6 := Lib.hid (And.intro f6 l6)
                          clear h6 f6 l6 hq6 HC
                          go_wp2_with fail
                          refine HY.out.mono ?_
                          rintro e w7 ⟨rfl, h7, S7, f7, l7⟩
                          have H7 := Lib.hid (show PX w w7 _ dx ⟨(closewM m0 13).m, (closerM m1 14).m, true, x1⟩ dy ⟨(closerM m1 14).m, (closewM m0 13).m, x1, true⟩ from h7.swap)
                          have HF7 := Lib.hid (And.intro (show Fr [] w w7 from (HG5.out.trans H6.out.1 (U := []) (by simp) (fun x hx => .inr (H6.out.2 x hx).1)).trans f7 (by simp) (fun x hx => .inr (l7 x hx).1)) ((HA5.out.keep H6.out.1 hz5 (fun x hx => (H6.out.2 x hx).1)).keep f7 hz6 (fun x hx => (l7 x hx).1)))
                          clear h7 f7 l7 HY H6 e0 e1 e2 e3
                          go_wp2_with fail
                          go_meet
                          exact ⟨(closewM m0 13).m, (closerM m1 14).m, true, x1, Lib.hid (PX.less H7.out (fun x hx => hx.elim)), Lib.hid HF7.out.1, Lib.hid HF7.out.2⟩
                        | true =>
                          have HC := px_closeY0 HP5.out hz5 rfl
                          try dsimp only at HC
                          have HC := Lib.hid HC
                          go_wp2_with fail
                          refine HC.out.mono ?_
                          rintro e w6 ⟨rfl, h6, S6, f6, l6⟩
                          have hz6 : w.heap.size ≤ w6.heap.size := Nat.le_trans hz5 f6.size
                          have hq6 := f6.keep HQ5.out (fun hm => (l6 _ hm).2 ⟨Nat.le_refl _, hbx5⟩)
                          have e0 : w6.cell? ⟨wr.heap.size, 0, none⟩ = some (.int .i64 what) := cell_of hq6
                          have e1 : w6.cell? ⟨wr.heap.size, 1, none⟩ = some (.int .i64 0) := cell_of hq6
                          have e2 : w6.cell? ⟨wr.heap.size, 2, none⟩ = some (.slice pa ps.length pc) := cell_of hq6
                          have e3 : w6.cell? ⟨wr.heap.size, 3, none⟩ = some (.int .i64 n) := cell_of hq6
                          have HY := px_closeY1 (h6.swap) hz6 rfl
                          try dsimp only at HY
                          have HY := Lib.hid HY
                          have H6 := Lib.hid (And.intro f6 l6)
                          clear h6 f6 l6 hq6 HC
                          go_wp2_with fail
                          refine HY.out.mono ?_
                          rintro e w7 ⟨rfl, h7, S7, f7, l7⟩
                          have H7 := Lib.hid (show PX w w7 _ dx ⟨m0, m1, true, x1⟩ dy ⟨m1, m0, x1, true⟩ from h7.swap)
                          have HF7 := Lib.hid (And.intro (show Fr [] w w7 from (HG5.out.trans H6.out.1 (U := []) (by simp) (fun x hx => .inr (H6.out.2 x hx).1)).trans f7 (by simp) (fun x hx => .inr (l7 x hx).1)) ((HA5.out.keep H6.out.1 hz5 (fun x hx => (H6.out.2 x hx).1)).keep f7 hz6 (fun x hx => (l7 x hx).1)))
                          clear h7 f7 l7 HY H6 e0 e1 e2 e3
                          go_wp2_with fail
                          go_meet
                          exact ⟨m0, m1, true, x1, Lib.hid (PX.less H7.out (fun x hx => hx.elim)), Lib.hid HF7.out.1, Lib.hid HF7.out.2⟩
        case rest =>
          as_aux_lemma =>
            clear e0 e1 e2 e3 hw5 HQ5 HP5 HG5 HA5 HPP HOK HP HG HA HF5 HPR
            rename World => w6
            obtain ⟨m0, m1, x0, x1, HP, HG, HA⟩ := hcut
            have HS1 := Lib.hid (px_state HP.out)
            go_wp2_with fail
            refine HS1.out.mono ?_
            rintro e w7 ⟨v1, rfl, f7, c7⟩
            have H7 := Lib.hid (And.intro f7 c7)
            have HS2 := Lib.hid (px_state (HP.out.keep0 f7).swap)
            clear f7 c7 HS1
            go_wp2_with fail
            refine HS2.out.mono ?_
            rintro e w8 ⟨v2, rfl, f8, c8⟩
            have HW := Lib.hid (r15_swap c8)
            have H8 := Lib.hid f8
            clear f8 c8 HS2
            go_wp2_with fail
            refine HW.out.mono ?_
            rintro e w9 ⟨v3, rfl, f9, c9⟩
            have HE := Lib.hid (same15 (H7.out.2.keep (H8.out.then0 f9) (by simp)) c9)
            have HF9 := Lib.hid (((H7.out.1.then0 H8.out).then0 f9))
            clear f9 c9 HW
            go_wp2_with fail
            refine HE.out.mono ?_
            rintro e w10 ⟨rfl, f10⟩
            have HF := Lib.hid (HF9.out.then0 f10)
            clear f10 HE H7 H8 HF9
            go_wp2_with fail
            go_roundw
            case rel => exact ⟨k + 1, m0, m1, x0, x1, by omega, by go_num, Lib.hid (HP.out.keep0 HF.out), Lib.hid (HG.out.then0 HF.out), Lib.hid (HA.out.keep HF.out HG.out.size (by simp))⟩
            case measure => simp [intOf]; omega
      · by_cases he1 : en = 1
        · subst he1
          clear habM he0
          go_wp2_with fail
          refine (HEN.out _ _).mono ?_
          rintro e w' ⟨rfl, rfl⟩
          clear HEN
          go_upto_block 2 with fail
          clear i0 i1 i2 i3
          go_cut [] (fun wx => ∃ (m0 m1 : SM) (x0 x1 : Bool), Hid (PX w wx NoG dx ⟨m0, m1, x0, x1⟩ dy ⟨m1, m0, x1, x0⟩) ∧ Hid (Fr [] w wx) ∧ Hid (Acts15 wx w.heap.size (some ⟨ab, ao, none⟩) A.length cap A))
          case first =>
            rcases Bool.eq_false_or_eq_true (what == 0) with q0 | q0
            · obtain rfl : what = 0 := by simpa using q0
              as_aux_lemma =>
                obtain ⟨vs, hvl, hsv, hone, hvp⟩ := HPP.out.at_.vals
                have hps := HOK.out.1
                have htt := HOK.out.2
                have HV := Lib.hid hvp
                have HSV := Lib.hid hsv
                have HONE := Lib.hid hone
                have HVL := Lib.hid hvl
                have HU2 : Hid (Try.prog.underlying 53 = some (.slice 29)) := Lib.hid Try.underlying53
                have HI2 : Hid ((Try.prog.info? 29).map (fun i => (i.zero, i.size, i.bytes)) = some (some (.slice none 0 0), 1, 24)) := Lib.hid (by kernel_rfl)
                have H3p : Hid (([] : List Value).length + ps.length ≤ maxLen) := Lib.hid (by unfold maxLen; simp; omega)
                have H4p : Hid ((([] : List Value).length + ps.length) * 24 ≤ 140737488355328) := Lib.hid (by simp; omega)
                have htf := tot_eq ps
                obtain ⟨fl, hfl⟩ : ∃ l, ps.flatten = l := ⟨_, rfl⟩
                rw [hfl] at htf
                have hof : (own ps).flatten = fl := by rw [own_flat, hfl]
                have HOF := Lib.hid (And.intro hof hfl)
                have HTF := Lib.hid (And.intro htf (And.intro htt hps))
                clear hvp hsv hone hvl htf htt hps hof hfl
                go_wp2_with (refine wpList_append_fr _ rfl (.const (.slice none 0 0)) (.tmp 100) 53 rfl 29 (.slice none 0 0) 24 HU2.out HI2.out rfl w5.heap.size (.slice none 0 0) [] (by exact rfl) (Ow.nil _ _ _) pa ps.length pc vs (by exact rfl) HVL.out HSV.out HONE.out H3p.out H4p.out (Nat.le_refl _) ?_)
                intro v6 w6 o6 f6' _
                have f6 : Fr [] w5 w6 := f6'
                clear f6'
                obtain ⟨na, nc, rfl, hnc, hncm, hpa⟩ := PartsAt.copied o6.out HVL.out HV.out f6 (by simp)
                have HNEW := Lib.hid (rope_new (cap := nc) hpa rfl (by have := HTF.out.2.2; unfold maxLen; omega))
                clear hpa o6 hnc hncm HV HSV HONE HVL HU2 HI2 H3p H4p
                go_wp2_with fail
                refine HNEW.out.mono ?_
                rintro e w7 ⟨f7, he⟩
                rw [if_neg (by have := HTF.out.2.2; have := (show (own ps).length ≤ ps.length from List.length_filter_le _ _); omega), if_neg (by have := HTF.out.2.1; omega)] at he
                obtain ⟨v, rfl, hr⟩ := he
                obtain ⟨ra, rc, rfl, _⟩ := id hr
                clear HNEW
                obtain ⟨w8, hw8, f8, q8⟩ : ∃ W, w7.alloc (.cells #[.slice ra (own ps).length rc, .int .i64 (tot (own ps))] 57) = W ∧ Fr [] w7 W ∧ W.heap[w7.heap.size]? = some (.cells #[.slice ra (own ps).length rc, .int .i64 (tot (own ps))] 57 (0, 0)) := ⟨_, rfl, (Fr.refl _ _).alloc _, newA rfl⟩
                have z6 := f6.size
                have z7 := f7.size
                have z8 := lt_of_heap q8
                have g8 := (f6.then0 f7).then0 f8
                have HR1 := Lib.hid hr.there
                have HG78 := Lib.hid f8
                have HQ8 := Lib.hid q8
                have HF8 := Lib.hid g8
                have hq58 := g8.keep HQ5.out (by simp)
                have HQ58 := Lib.hid hq58
                have c0 : w8.cell? ⟨wr.heap.size, 0, none⟩ = some (.int .i64 0) := cell_of hq58
                have c1 : w8.cell? ⟨wr.heap.size, 1, none⟩ = some (.int .i64 1) := cell_of hq58
                have c2 : w8.cell? ⟨wr.heap.size, 2, none⟩ = some (.slice pa ps.length pc) := cell_of hq58
                have c3 : w8.cell? ⟨wr.heap.size, 3, none⟩ = some (.int .i64 n) := cell_of hq58
                have hj := join15 ((HPP.out.keep g8 (by simp)).at_) (len := ps.length) (cap := pc) rfl (by have := HTF.out.2.2; omega) (by have := HTF.out.2.1; omega)
                rw [HOF.out.2] at hj
                have HJ := Lib.hid hj
                clear hj
                clear hr q8 f6 f7 f8 g8 hq58 e0 e1 e2 e3
                go_wp2_with fail
                refine HJ.out.mono ?_
                rintro e w9 ⟨vj, rfl, f9, oj⟩
                obtain ⟨ja, jc, rfl, _⟩ := oj.formB
                have pj := PartV.ofOw oj
                obtain ⟨w10, hw10, f10, q10⟩ : ∃ W, w9.alloc (.cells #[.slice ja fl.length jc] 29) = W ∧ Fr [] w9 W ∧ W.heap[w9.heap.size]? = some (.cells #[.slice ja fl.length jc] 29 (0, 0)) := ⟨_, rfl, (Fr.refl _ _).alloc _, newA rfl⟩
                have HN2 := Lib.hid (rope_new (cap := 1) (len := 1) (parts_single q10 (pj.keep f10 (by simp))) rfl (by unfold maxLen; omega))
                have g10 := f9.then0 f10
                have HG810 := Lib.hid g10
                have z9 := f9.size
                have z10 := lt_of_heap q10
                clear oj pj q10 f9 f10 g10 HJ
                go_wp2_with fail
                refine HN2.out.mono ?_
                rintro e w11 ⟨f11, he⟩
                rw [if_neg (by have := (own_single fl).1; omega), if_neg (by have := HTF.out.1; have := HTF.out.2.1; simp [tot]; omega)] at he
                obtain ⟨v, rfl, hr⟩ := he
                obtain ⟨rb, rd, rfl, _⟩ := id hr
                clear HN2
                obtain ⟨w12, hw12, f12, q12⟩ : ∃ W, w11.alloc (.cells #[.slice rb (own [fl]).length rd, .int .i64 (tot (own [fl]))] 57) = W ∧ Fr [] w11 W ∧ W.heap[w11.heap.size]? = some (.cells #[.slice rb (own [fl]).length rd, .int .i64 (tot (own [fl]))] 57 (0, 0)) := ⟨_, rfl, (Fr.refl _ _).alloc _, newA rfl⟩
                have z11 := f11.size
                have z12 := lt_of_heap q12
                have g12 := (HG810.out.then0 f11).then0 f12
                have G512 := HF8.out.then0 g12
                have HRA := Lib.hid (((HR1.out.keep HG78.out (by simp)).keep g12 (by simp)))
                have HRB := Lib.hid (hr.there.keep f12 (by simp))
                have HQ12 := Lib.hid (And.intro (HQ5.out |> fun q => G512.keep q (by simp)) (And.intro (g12.keep HQ8.out (by simp)) q12))
                have HP12 := Lib.hid (HPR.out.more (HF5.out.then0 G512))
                have HG12 := Lib.hid (HG5.out.then0 G512)
                have HA12 := Lib.hid (HA5.out.keep G512 hz5 (by simp))
                have hz12 : w.heap.size ≤ w12.heap.size := HG12.out.size
                have hfl2 := (own_single fl).2
                have hfl1 := HOF.out.1
                have HFL := Lib.hid (And.intro hfl1 hfl2)
                clear hr q12 f11 f12 g12 G512 HR1 HG78 HQ8 HF8 HG810 hfl1 hfl2 HPP HP5 c0 c1 c2 c3 HQ58 hw8 hw10
                have hz5r : w.heap.size ≤ wr.heap.size := HG.out.size
                have hr5 := HF5.out.size
                have HEB := Lib.hid (Go.Proofs.enters_of Try.func51 (by kernel_rfl) rfl)
                have HFB := Lib.hid fun (w' : World) (f : w'.heap[wr.heap.size]? = some (.cells #[.int .i64 0, .int .i64 1, .slice pa ps.length pc, .int .i64 n] 94 (0, 0)) ∧ w'.heap[w7.heap.size]? = some (.cells #[.slice ra (own ps).length rc, .int .i64 (tot (own ps))] 57 (0, 0)) ∧ w'.heap[w11.heap.size]? = some (.cells #[.slice rb (own [fl]).length rd, .int .i64 (tot (own [fl]))] 57 (0, 0))) => (show w'.cell? ⟨wr.heap.size, 0, none⟩ = some (.int .i64 0) ∧ w'.cell? ⟨wr.heap.size, 1, none⟩ = some (.int .i64 1) ∧ w'.cell? ⟨wr.heap.size, 2, none⟩ = some (.slice pa ps.length pc) ∧ w'.cell? ⟨wr.heap.size, 3, none⟩ = some (.int .i64 n) ∧ w'.cell? ⟨w7.heap.size, 0, none⟩ = some (.slice ra (own ps).length rc) ∧ w'.cell? ⟨w7.heap.size, 1, none⟩ = some (.int .i64 (tot (own ps))) ∧ w'.cell? ⟨w11.heap.size, 0, none⟩ = some (.slice rb (own [fl]).length rd) ∧ w'.cell? ⟨w11.heap.size, 1, none⟩ = some (.int .i64 (tot (own [fl]))) from ⟨cell_of f.1, cell_of f.1, cell_of f.1, cell_of f.1, cell_of f.2.1, cell_of f.2.1, cell_of f.2.2, cell_of f.2.2⟩)
                go_wp2_with fail
                have fd : Fr [] w12 w12.drew := (Fr.refl _ _).drew
                have hq12 : w12.drew.heap[wr.heap.size]? = some (.cells #[.int .i64 0, .int .i64 1, .slice pa ps.length pc, .int .i64 n] 94 (0, 0)) ∧ w12.drew.heap[w7.heap.size]? = some (.cells #[.slice ra (own ps).length rc, .int .i64 (tot (own ps))] 57 (0, 0)) ∧ w12.drew.heap[w11.heap.size]? = some (.cells #[.slice rb (own [fl]).length rd, .int .i64 (tot (own [fl]))] 57 (0, 0)) := ⟨fd.keep HQ12.out.1 (by simp), fd.keep HQ12.out.2.1 (by simp), fd.keep HQ12.out.2.2 (by simp)⟩
                refine wp_region_order [(0, true), (1, true), (2, true), (3, true), (4, true), (5, true), (6, true), (7, true), (8, true), (9, true), (10, true), (12, true), (13, true), (14, true), (11, false), (15, false), (16, true), (17, true)] (fun w' => w'.heap[wr.heap.size]? = some (.cells #[.int .i64 0, .int .i64 1, .slice pa ps.length pc, .int .i64 n] 94 (0, 0)) ∧ w'.heap[w7.heap.size]? = some (.cells #[.slice ra (own ps).length rc, .int .i64 (tot (own ps))] 57 (0, 0)) ∧ w'.heap[w11.heap.size]? = some (.cells #[.slice rb (own [fl]).length rd, .int .i64 (tot (own [fl]))] 57 (0, 0))) (by kernel_rfl) (by kernel_rfl) hq12 ?_
                intro OPS HOPS
                have hops := HOPS.out
                try simp only [List.append_eq, List.cons_append, List.nil_append] at hops
                replace HOPS := Lib.hid hops
                clear hops
                refine walkO_take (o := _) (v := ?_) (by rw [HOPS.out]; simp only [List.getElem?_toArray, List.getElem?_cons_succ, List.getElem?_cons_zero]; exact rfl) (Or.inl ⟨rfl, ?_⟩) ?_
                rotate_left
                · (intro w hSw; have hSx := HFB.out _ hSw; (try dsimp only at hSx); clear hSw; go_simp) <;> (with_reducible rfl)
                simp only [Act.put, List.setIfInBounds_toArray, List.set_cons_zero, List.set_cons_succ]
                refine walkO_take (o := _) (v := ?_) (by rw [HOPS.out]; simp only [List.getElem?_toArray, List.getElem?_cons_succ, List.getElem?_cons_zero]; exact rfl) (Or.inl ⟨rfl, ?_⟩) ?_
                rotate_left
                · (intro w hSw; have hSx := HFB.out _ hSw; (try dsimp only at hSx); clear hSw; go_simp) <;> (with_reducible rfl)
                simp only [Act.put, List.setIfInBounds_toArray, List.set_cons_zero, List.set_cons_succ]
                refine walkO_take (o := _) (v := ?_) (by rw [HOPS.out]; simp only [List.getElem?_toArray, List.getElem?_cons_succ, List.getElem?_cons_zero]; exact rfl) (Or.inl ⟨rfl, ?_⟩) ?_
                rotate_left
                · (intro w hSw; have hSx := HFB.out _ hSw; (try dsimp only at hSx); clear hSw; go_simp) <;> (with_reducible rfl)
                simp only [Act.put, List.setIfInBounds_toArray, List.set_cons_zero, List.set_cons_succ]
                refine walkO_take (o := _) (v := ?_) (by rw [HOPS.out]; simp only [List.getElem?_toArray, List.getElem?_cons_succ, List.getElem?_cons_zero]; exact rfl) (Or.inl ⟨by rw [HOPS.out]; rfl, ?_⟩) ?_
                rotate_left
                · (intro w hSw; have hSx := HFB.out _ hSw; (try dsimp only at hSx); clear hSw; go_simp) <;> (with_reducible rfl)
                simp only [Act.put, List.setIfInBounds_toArray, List.set_cons_zero, List.set_cons_succ]
                refine walkO_take (o := _) (v := ?_) (by rw [HOPS.out]; simp only [List.getElem?_toArray, List.getElem?_cons_succ, List.getElem?_cons_zero]; exact rfl) (Or.inl ⟨by rw [HOPS.out]; rfl, ?_⟩) ?_
                rotate_left
                · (intro w hSw; have hSx := HFB.out _ hSw; (try dsimp only at hSx); clear hSw; go_simp) <;> (with_reducible rfl)
                simp only [Act.put, List.setIfInBounds_toArray, List.set_cons_zero, List.set_cons_succ]
                refine walkO_take (o := _) (v := ?_) (by rw [HOPS.out]; simp only [List.getElem?_toArray, List.getElem?_cons_succ, List.getElem?_cons_zero]; exact rfl) (Or.inl ⟨rfl, ?_⟩) ?_
                rotate_left
                · (intro w hSw; have hSx := HFB.out _ hSw; (try dsimp only at hSx); clear hSw; go_simp) <;> (with_reducible rfl)
                simp only [Act.put, List.setIfInBounds_toArray, List.set_cons_zero, List.set_cons_succ]
                refine walkO_take (o := _) (v := ?_) (by rw [HOPS.out]; simp only [List.getElem?_toArray, List.getElem?_cons_succ, List.getElem?_cons_zero]; exact rfl) (Or.inl ⟨rfl, ?_⟩) ?_
                rotate_left
                · (intro w hSw; have hSx := HFB.out _ hSw; (try dsimp only at hSx); clear hSw; go_simp) <;> (with_reducible rfl)
                simp only [Act.put, List.setIfInBounds_toArray, List.set_cons_zero, List.set_cons_succ]
                refine walkO_take (o := _) (v := ?_) (by rw [HOPS.out]; simp only [List.getElem?_toArray, List.getElem?_cons_succ, List.getElem?_cons_zero]; exact rfl) (Or.inl ⟨by rw [HOPS.out]; rfl, ?_⟩) ?_
                rotate_left
                · (intro w hSw; have hSx := HFB.out _ hSw; (try dsimp only at hSx); clear hSw; go_simp) <;> (with_reducible rfl)
                simp only [Act.put, List.setIfInBounds_toArray, List.set_cons_zero, List.set_cons_succ]
                refine walkO_take (o := _) (v := ?_) (by rw [HOPS.out]; simp only [List.getElem?_toArray, List.getElem?_cons_succ, List.getElem?_cons_zero]; exact rfl) (Or.inl ⟨by rw [HOPS.out]; rfl, ?_⟩) ?_
                rotate_left
                · (intro w hSw; have hSx := HFB.out _ hSw; (try dsimp only at hSx); clear hSw; go_simp) <;> (with_reducible rfl)
                simp only [Act.put, List.setIfInBounds_toArray, List.set_cons_zero, List.set_cons_succ]
                refine walkO_take (o := _) (v := ?_) (by rw [HOPS.out]; simp only [List.getElem?_toArray, List.getElem?_cons_succ, List.getElem?_cons_zero]; exact rfl) (Or.inl ⟨by rw [HOPS.out]; rfl, ?_⟩) ?_
                rotate_left
                · (intro w hSw; have hSx := HFB.out _ hSw; (try dsimp only at hSx); clear hSw; go_simp) <;> (with_reducible rfl)
                simp only [Act.put, List.setIfInBounds_toArray, List.set_cons_zero, List.set_cons_succ]
                refine walkO_take (o := _) (v := ?_) (by rw [HOPS.out]; simp only [List.getElem?_toArray, List.getElem?_cons_succ, List.getElem?_cons_zero]; exact rfl) (Or.inl ⟨by rw [HOPS.out]; rfl, ?_⟩) ?_
                rotate_left
                · (intro w hSw; have hSx := HFB.out _ hSw; (try dsimp only at hSx); clear hSw; go_simp) <;> (with_reducible rfl)
                simp only [Act.put, List.setIfInBounds_toArray, List.set_cons_zero, List.set_cons_succ]
                refine walkO_take (o := _) (v := ?_) (by rw [HOPS.out]; simp only [List.getElem?_toArray, List.getElem?_cons_succ, List.getElem?_cons_zero]; exact rfl) (Or.inl ⟨by rw [HOPS.out]; rfl, ?_⟩) ?_
                rotate_left
                · (intro w hSw; have hSx := HFB.out _ hSw; (try dsimp only at hSx); clear hSw; go_simp) <;> (with_reducible rfl)
                simp only [Act.put, List.setIfInBounds_toArray, List.set_cons_zero, List.set_cons_succ]
                refine walkO_take (o := _) (v := ?_) (by rw [HOPS.out]; simp only [List.getElem?_toArray, List.getElem?_cons_succ, List.getElem?_cons_zero]; exact rfl) (Or.inl ⟨by rw [HOPS.out]; rfl, ?_⟩) ?_
                rotate_left
                · (intro w hSw; have hSx := HFB.out _ hSw; (try dsimp only at hSx); clear hSw; go_simp) <;> (with_reducible rfl)
                simp only [Act.put, List.setIfInBounds_toArray, List.set_cons_zero, List.set_cons_succ]
                refine walkO_take (o := _) (v := ?_) (by rw [HOPS.out]; simp only [List.getElem?_toArray, List.getElem?_cons_succ, List.getElem?_cons_zero]; exact rfl) (Or.inl ⟨by rw [HOPS.out]; rfl, ?_⟩) ?_
                rotate_left
                · (intro w hSw; have hSx := HFB.out _ hSw; (try dsimp only at hSx); clear hSw; go_simp) <;> (with_reducible rfl)
                simp only [Act.put, List.setIfInBounds_toArray, List.set_cons_zero, List.set_cons_succ]
                refine walkO_call (o := _) (by rw [HOPS.out]; simp only [List.getElem?_toArray, List.getElem?_cons_succ, List.getElem?_cons_zero]; exact rfl) (fun K HK => ?_)
                refine step_call (by rw [HOPS.out]; rfl) 51 #[(.tmp 120), (.tmp 122), (.tmp 123)] #[22, 3, 57] rfl HEB.out #[.pointer (some ⟨dx, 0, none⟩), .int .i64 1, .agg #[.slice ra (own ps).length rc, .int .i64 (tot (own ps))]] (by simp [Act.eval] <;> rfl) (px_begin1 (V' := fun x => wr.heap.size ≤ x ∧ x < w12.heap.size ∧ ¬ (w6.heap.size ≤ x ∧ x < w7.heap.size)) (N2 := fun x => w6.heap.size ≤ x ∧ x < w7.heap.size) (HP12.out.keep0 fd) hz12 ((HRA.out.keep fd (by simp)).mono (fun x hx => ⟨hx.1, hx.2⟩)) (fun x hx => ⟨by omega, ⟨by omega, by omega⟩, fun hv => hv.2.2 hx⟩) (fun x hx => ⟨hx.1, hx.2.1⟩)) ?_
                rintro e w13 ⟨rfl, h13, S13, f13, l13⟩
                have z13 := f13.size
                have hs13 : ∀ x, wr.heap.size ≤ x → x < w12.heap.size → ¬ (w6.heap.size ≤ x ∧ x < w7.heap.size) → x ∉ S13 := fun x h1 h2 h3 hm => (l13 x hm).2 ⟨h1, h2, h3⟩
                have q13 : w13.heap[wr.heap.size]? = some (.cells #[.int .i64 0, .int .i64 1, .slice pa ps.length pc, .int .i64 n] 94 (0, 0)) ∧ w13.heap[w7.heap.size]? = some (.cells #[.slice ra (own ps).length rc, .int .i64 (tot (own ps))] 57 (0, 0)) ∧ w13.heap[w11.heap.size]? = some (.cells #[.slice rb (own [fl]).length rd, .int .i64 (tot (own [fl]))] 57 (0, 0)) := ⟨f13.keep HQ12.out.1 (hs13 _ (Nat.le_refl _) (by omega) (by omega)), f13.keep HQ12.out.2.1 (hs13 _ (by omega) (by omega) (by omega)), f13.keep HQ12.out.2.2 (hs13 _ (by omega) (by omega) (by omega))⟩
                have HRB13 := Lib.hid ((HRB.out.keep fd (by simp)).keep f13 (fun x hx hn => hs13 x (by have := hn.1; omega) (by have := hn.2; omega) (by have := hn.1; omega) hx))
                have H13 := Lib.hid (And.intro h13 (And.intro f13 l13))
                clear h13 f13 l13 hs13
                refine ⟨_, rfl, ?_⟩
                refine HK.out (fun w' => w'.heap[wr.heap.size]? = some (.cells #[.int .i64 0, .int .i64 1, .slice pa ps.length pc, .int .i64 n] 94 (0, 0)) ∧ w'.heap[w7.heap.size]? = some (.cells #[.slice ra (own ps).length rc, .int .i64 (tot (own ps))] 57 (0, 0)) ∧ w'.heap[w11.heap.size]? = some (.cells #[.slice rb (own [fl]).length rd, .int .i64 (tot (own [fl]))] 57 (0, 0))) _ _ (fun _ h => h) (q13) ?_
                clear HK K
                simp only [Act.put, List.setIfInBounds_toArray, List.set_cons_zero, List.set_cons_succ]
                refine walkO_call (o := _) (by rw [HOPS.out]; simp only [List.getElem?_toArray, List.getElem?_cons_succ, List.getElem?_cons_zero]; exact rfl) (fun K HK => ?_)
                refine step_call (by rw [HOPS.out]; rfl) 51 #[(.tmp 125), (.tmp 126), (.tmp 127)] #[22, 3, 57] rfl HEB.out #[.pointer (some ⟨dy, 0, none⟩), .int .i64 0, .agg #[.slice rb (own [fl]).length rd, .int .i64 (tot (own [fl]))]] (by simp [Act.eval] <;> rfl) (px_begin0 (V' := fun x => x = wr.heap.size ∨ x = w7.heap.size ∨ x = w11.heap.size) (N2 := fun x => w10.heap.size ≤ x ∧ x < w11.heap.size) (H13.out.1.swap) (Nat.le_trans hz12 z13) (HRB13.out.mono (fun x hx => ⟨hx.1, hx.2⟩)) (fun x hx => ⟨by omega, ⟨by omega, by omega, by omega⟩, fun hv => by rcases hv with rfl | rfl | rfl <;> omega⟩) (fun x hx => by rcases hx with rfl | rfl | rfl; exact ⟨Nat.le_refl _, by omega, by omega⟩; exact ⟨by omega, by omega, by omega⟩; exact ⟨by omega, by omega, by omega⟩)) ?_
                rintro e w14 ⟨rfl, h14, S14, f14, l14⟩
                have q14 : w14.heap[wr.heap.size]? = some (.cells #[.int .i64 0, .int .i64 1, .slice pa ps.length pc, .int .i64 n] 94 (0, 0)) ∧ w14.heap[w7.heap.size]? = some (.cells #[.slice ra (own ps).length rc, .int .i64 (tot (own ps))] 57 (0, 0)) ∧ w14.heap[w11.heap.size]? = some (.cells #[.slice rb (own [fl]).length rd, .int .i64 (tot (own [fl]))] 57 (0, 0)) := ⟨f14.keep q13.1 (fun hm => (l14 _ hm).2 (.inl rfl)), f14.keep q13.2.1 (fun hm => (l14 _ hm).2 (.inr (.inl rfl))), f14.keep q13.2.2 (fun hm => (l14 _ hm).2 (.inr (.inr rfl)))⟩
                have H14 := Lib.hid (And.intro h14 (And.intro f14 l14))
                clear h14 f14 l14
                refine ⟨_, rfl, ?_⟩
                refine HK.out (fun w' => w'.heap[wr.heap.size]? = some (.cells #[.int .i64 0, .int .i64 1, .slice pa ps.length pc, .int .i64 n] 94 (0, 0)) ∧ w'.heap[w7.heap.size]? = some (.cells #[.slice ra (own ps).length rc, .int .i64 (tot (own ps))] 57 (0, 0)) ∧ w'.heap[w11.heap.size]? = some (.cells #[.slice rb (own [fl]).length rd, .int .i64 (tot (own [fl]))] 57 (0, 0))) _ _ (fun _ h => h) (q14) ?_
                clear HK K
                simp only [Act.put, List.setIfInBounds_toArray, List.set_cons_zero, List.set_cons_succ]
                refine walkO_take (o := _) (v := ?_) (by rw [HOPS.out]; simp only [List.getElem?_toArray, List.getElem?_cons_succ, List.getElem?_cons_zero]; exact rfl) (Or.inl ⟨by rw [HOPS.out]; rfl, ?_⟩) ?_
                rotate_left
                · (intro w hSw; have hSx := HFB.out _ hSw; (try dsimp only at hSx); clear hSw; go_simp) <;> (with_reducible rfl)
                simp only [Act.put, List.setIfInBounds_toArray, List.set_cons_zero, List.set_cons_succ]
                refine walkO_take (o := _) (v := ?_) (by rw [HOPS.out]; simp only [List.getElem?_toArray, List.getElem?_cons_succ, List.getElem?_cons_zero]; exact rfl) (Or.inl ⟨rfl, ?_⟩) ?_
                rotate_left
                · (intro w hSw; have hSx := HFB.out _ hSw; (try dsimp only at hSx); clear hSw; go_simp) <;> (with_reducible rfl)
                simp only [Act.put, List.setIfInBounds_toArray, List.set_cons_zero, List.set_cons_succ]
                refine walkO_done ?_
                clear HOPS OPS
                have H15 : Hid (PX w w14 NoG dx ⟨m0, (beginM m1 fl).m, x0, x1⟩ dy ⟨(beginM m1 fl).m, m0, x1, x0⟩) := Lib.hid (by have h := H14.out.1.swap; rw [HFL.out.1, HFL.out.2] at h; exact h.less (fun x hx => hx.elim))
                have HF15 := Lib.hid (And.intro (show Fr [] w w14 from ((HG12.out.then0 fd).trans H13.out.2.1 (U := []) (by simp) (fun x hx => .inr (H13.out.2.2 x hx).1)).trans H14.out.2.1 (by simp) (fun x hx => .inr (H14.out.2.2 x hx).1)) (((HA12.out.keep fd hz12 (by simp)).keep H13.out.2.1 hz12 (fun x hx => (H13.out.2.2 x hx).1)).keep H14.out.2.1 (Nat.le_trans hz12 z13) (fun x hx => (H14.out.2.2 x hx).1)))
                have hb1 : (beginM m1 (own ps).flatten).err = (beginM m1 fl).err := by rw [HFL.out.1]
                have hb2 : (beginM m1 (own [fl]).flatten).err = (beginM m1 fl).err := by rw [HFL.out.2]
                try dsimp only
                rw [hb1, hb2]
                clear hb1 hb2 q13 q14 hq12 fd H13 H14 HFB
                go_wp2_with fail
                go_meet
                exact ⟨m0, (beginM m1 fl).m, x0, x1, Lib.hid (PX.less H15.out (fun x hx => hx.elim)), Lib.hid HF15.out.1, Lib.hid HF15.out.2⟩
            · skip
              rcases Bool.eq_false_or_eq_true (what == 1) with q1 | q1
              · obtain rfl : what = 1 := by simpa using q1
                as_aux_lemma =>
                  have HC := px_finish1 HP5.out hz5 
                  dsimp only at HC
                  have HC := Lib.hid HC
                  go_wp2_with fail
                  refine HC.out.mono ?_
                  rintro e w6 ⟨rfl, h6, S6, f6, l6⟩
                  have hz6 : w.heap.size ≤ w6.heap.size := Nat.le_trans hz5 f6.size
                  have hq6 := f6.keep HQ5.out (fun hm => (l6 _ hm).2 ⟨Nat.le_refl _, hbx5⟩)
                  have e0 : w6.cell? ⟨wr.heap.size, 0, none⟩ = some (.int .i64 1) := cell_of hq6
                  have e1 : w6.cell? ⟨wr.heap.size, 1, none⟩ = some (.int .i64 1) := cell_of hq6
                  have e2 : w6.cell? ⟨wr.heap.size, 2, none⟩ = some (.slice pa ps.length pc) := cell_of hq6
                  have e3 : w6.cell? ⟨wr.heap.size, 3, none⟩ = some (.int .i64 n) := cell_of hq6
                  have HY := px_finish0 (h6.swap) hz6 
                  dsimp only at HY
                  have HY := Lib.hid HY
                  have H6 := Lib.hid (And.intro f6 l6)
                  clear h6 f6 l6 hq6 HC
                  go_wp2_with fail
                  refine HY.out.mono ?_
                  rintro e w7 ⟨rfl, h7, S7, f7, l7⟩
                  have H7 := Lib.hid (show PX w w7 _ dx ⟨m0, (endM m1).m, x0, x1⟩ dy ⟨(endM m1).m, m0, x1, x0⟩ from h7.swap)
                  have HF7 := Lib.hid (And.intro (show Fr [] w w7 from (HG5.out.trans H6.out.1 (U := []) (by simp) (fun x hx => .inr (H6.out.2 x hx).1)).trans f7 (by simp) (fun x hx => .inr (l7 x hx).1)) ((HA5.out.keep H6.out.1 hz5 (fun x hx => (H6.out.2 x hx).1)).keep f7 hz6 (fun x hx => (l7 x hx).1)))
                  clear h7 f7 l7 HY H6 e0 e1 e2 e3
                  go_wp2_with fail
                  go_meet
                  exact ⟨m0, (endM m1).m, x0, x1, Lib.hid (PX.less H7.out (fun x hx => hx.elim)), Lib.hid HF7.out.1, Lib.hid HF7.out.2⟩
              · skip
                rcases Bool.eq_false_or_eq_true (what == 2) with q2 | q2
                · obtain rfl : what = 2 := by simpa using q2
                  as_aux_lemma =>
                    have HC := px_cancel1 HP5.out hz5 
                    dsimp only at HC
                    have HC := Lib.hid HC
                    go_wp2_with fail
                    refine HC.out.mono ?_
                    rintro e w6 ⟨rfl, h6, S6, f6, l6⟩
                    have hz6 : w.heap.size ≤ w6.heap.size := Nat.le_trans hz5 f6.size
                    have hq6 := f6.keep HQ5.out (fun hm => (l6 _ hm).2 ⟨Nat.le_refl _, hbx5⟩)
                    have e0 : w6.cell? ⟨wr.heap.size, 0, none⟩ = some (.int .i64 2) := cell_of hq6
                    have e1 : w6.cell? ⟨wr.heap.size, 1, none⟩ = some (.int .i64 1) := cell_of hq6
                    have e2 : w6.cell? ⟨wr.heap.size, 2, none⟩ = some (.slice pa ps.length pc) := cell_of hq6
                    have e3 : w6.cell? ⟨wr.heap.size, 3, none⟩ = some (.int .i64 n) := cell_of hq6
                    have HY := px_cancel0 (h6.swap) hz6 
                    dsimp only at HY
                    have HY := Lib.hid HY
                    have H6 := Lib.hid (And.intro f6 l6)
                    clear h6 f6 l6 hq6 HC
                    go_wp2_with fail
                    refine HY.out.mono ?_
                    rintro e w7 ⟨rfl, h7, S7, f7, l7⟩
                    have H7 := Lib.hid (show PX w w7 _ dx ⟨m0, (cancelM m1).m, x0, x1⟩ dy ⟨(cancelM m1).m, m0, x1, x0⟩ from h7.swap)
                    have HF7 := Lib.hid (And.intro (show Fr [] w w7 from (HG5.out.trans H6.out.1 (U := []) (by simp) (fun x hx => .inr (H6.out.2 x hx).1)).trans f7 (by simp) (fun x hx => .inr (l7 x hx).1)) ((HA5.out.keep H6.out.1 hz5 (fun x hx => (H6.out.2 x hx).1)).keep f7 hz6 (fun x hx => (l7 x hx).1)))
                    clear h7 f7 l7 HY H6 e0 e1 e2 e3
                    go_wp2_with fail
                    go_meet
                    exact ⟨m0, (cancelM m1).m, x0, x1, Lib.hid (PX.less H7.out (fun x hx => hx.elim)), Lib.hid HF7.out.1, Lib.hid HF7.out.2⟩
                · skip
                  rcases Bool.eq_false_or_eq_true (what == 3) with q3 | q3
                  · obtain rfl : what = 3 := by simpa using q3
                    as_aux_lemma =>
                      have HC := px_read1 HP5.out hz5 n
                      dsimp only at HC
                      have HC := Lib.hid HC
                      go_wp2_with fail
                      refine HC.out.mono ?_
                      rintro e w6 ⟨u, rfl, ou, ⟨_, S6, f6, l6⟩, h6⟩
                      have hz6 : w.heap.size ≤ w6.heap.size := Nat.le_trans hz5 f6.size
                      have hq6 := f6.keep HQ5.out (fun hm => (l6 _ hm).2 ⟨Nat.le_refl _, hbx5⟩)
                      have e0 : w6.cell? ⟨wr.heap.size, 0, none⟩ = some (.int .i64 3) := cell_of hq6
                      have e1 : w6.cell? ⟨wr.heap.size, 1, none⟩ = some (.int .i64 1) := cell_of hq6
                      have e2 : w6.cell? ⟨wr.heap.size, 2, none⟩ = some (.slice pa ps.length pc) := cell_of hq6
                      have e3 : w6.cell? ⟨wr.heap.size, 3, none⟩ = some (.int .i64 n) := cell_of hq6
                      have HY := px_read0 (h6.swap) hz6 n
                      dsimp only at HY
                      have HY := Lib.hid HY
                      have H6 := Lib.hid (And.intro f6 l6)
                      have HO := Lib.hid ou
                      clear h6 f6 l6 HC ou
                      go_wp2_with fail
                      refine HY.out.mono ?_
                      rintro e w7 ⟨u2, rfl, ou2, ⟨h7, S7, f7, l7⟩, _⟩
                      have ou7 := HO.out.keep f7 (fun g e hm => (l7 g hm).2 (.inr e))
                      obtain ⟨ga, gc, rfl, _, _, hs1, _⟩ := ou7.formB
                      obtain ⟨ha, hc, rfl, _, _, hs2, _⟩ := ou2.formB
                      have k1 := conv_st (cap := gc) hs1 rfl
                      have k2 := conv_st (cap := hc) hs2 rfl
                      have kk := st_self15 (readM m0 n).out
                      have H7 := Lib.hid (show PX w w7 _ dx ⟨(readM m0 n).m, m1, x0, x1⟩ dy ⟨m1, (readM m0 n).m, x1, x0⟩ from h7.swap)
                      have HF7 := Lib.hid (And.intro (show Fr [] w w7 from (HG5.out.trans H6.out.1 (U := []) (by simp) (fun x hx => .inr (H6.out.2 x hx).1)).trans f7 (by simp) (fun x hx => .inr (l7 x hx).1)) ((HA5.out.keep H6.out.1 hz5 (fun x hx => (H6.out.2 x hx).1)).keep f7 hz6 (fun x hx => (l7 x hx).1)))
                      generalize (readM m0 n).out = OO at *
                      clear h7 f7 l7 HY H6 HO ou7 ou2 hs1 hs2 hq6 e0 e1 e2 e3
                      go_wp2_with fail
                      go_meet
                      exact ⟨(readM m0 n).m, m1, x0, x1, Lib.hid (PX.less H7.out (fun x hx => hx.elim)), Lib.hid HF7.out.1, Lib.hid HF7.out.2⟩
                  · skip
                    rcases Bool.eq_false_or_eq_true (what == 4) with q4 | q4
                    · obtain rfl : what = 4 := by simpa using q4
                      as_aux_lemma =>
                        have HC := px_closew1 HP5.out hz5 
                        dsimp only at HC
                        have HC := Lib.hid HC
                        go_wp2_with fail
                        refine HC.out.mono ?_
                        rintro e w6 ⟨rfl, h6, S6, f6, l6⟩
                        have hz6 : w.heap.size ≤ w6.heap.size := Nat.le_trans hz5 f6.size
                        have hq6 := f6.keep HQ5.out (fun hm => (l6 _ hm).2 ⟨Nat.le_refl _, hbx5⟩)
                        have e0 : w6.cell? ⟨wr.heap.size, 0, none⟩ = some (.int .i64 4) := cell_of hq6
                        have e1 : w6.cell? ⟨wr.heap.size, 1, none⟩ = some (.int .i64 1) := cell_of hq6
                        have e2 : w6.cell? ⟨wr.heap.size, 2, none⟩ = some (.slice pa ps.length pc) := cell_of hq6
                        have e3 : w6.cell? ⟨wr.heap.size, 3, none⟩ = some (.int .i64 n) := cell_of hq6
                        have HY := px_closew0 (h6.swap) hz6 
                        dsimp only at HY
                        have HY := Lib.hid HY
                        have H6 := Lib.hid (And.intro f6 l6)
                        clear h6 f6 l6 hq6 HC
                        go_wp2_with fail
                        refine HY.out.mono ?_
                        rintro e w7 ⟨rfl, h7, S7, f7, l7⟩
                        have H7 := Lib.hid (show PX w w7 _ dx ⟨m0, (closewM m1 13).m, x0, x1⟩ dy ⟨(closewM m1 13).m, m0, x1, x0⟩ from h7.swap)
                        have HF7 := Lib.hid (And.intro (show Fr [] w w7 from (HG5.out.trans H6.out.1 (U := []) (by simp) (fun x hx => .inr (H6.out.2 x hx).1)).trans f7 (by simp) (fun x hx => .inr (l7 x hx).1)) ((HA5.out.keep H6.out.1 hz5 (fun x hx => (H6.out.2 x hx).1)).keep f7 hz6 (fun x hx => (l7 x hx).1)))
                        clear h7 f7 l7 HY H6 e0 e1 e2 e3
                        go_wp2_with fail
                        go_meet
                        exact ⟨m0, (closewM m1 13).m, x0, x1, Lib.hid (PX.less H7.out (fun x hx => hx.elim)), Lib.hid HF7.out.1, Lib.hid HF7.out.2⟩
                    · skip
                      rcases Bool.eq_false_or_eq_true (what == 5) with q5 | q5
                      · obtain rfl : what = 5 := by simpa using q5
                        as_aux_lemma =>
                          have HC := px_closer1 HP5.out hz5 
                          dsimp only at HC
                          have HC := Lib.hid HC
                          go_wp2_with fail
                          refine HC.out.mono ?_
                          rintro e w6 ⟨rfl, h6, S6, f6, l6⟩
                          have hz6 : w.heap.size ≤ w6.heap.size := Nat.le_trans hz5 f6.size
                          have hq6 := f6.keep HQ5.out (fun hm => (l6 _ hm).2 ⟨Nat.le_refl _, hbx5⟩)
                          have e0 : w6.cell? ⟨wr.heap.size, 0, none⟩ = some (.int .i64 5) := cell_of hq6
                          have e1 : w6.cell? ⟨wr.heap.size, 1, none⟩ = some (.int .i64 1) := cell_of hq6
                          have e2 : w6.cell? ⟨wr.heap.size, 2, none⟩ = some (.slice pa ps.length pc) := cell_of hq6
                          have e3 : w6.cell? ⟨wr.heap.size, 3, none⟩ = some (.int .i64 n) := cell_of hq6
                          have HY := px_closer0 (h6.swap) hz6 
                          dsimp only at HY
                          have HY := Lib.hid HY
                          have H6 := Lib.hid (And.intro f6 l6)
                          clear h6 f6 l6 hq6 HC
                          go_wp2_with fail
                          refine HY.out.mono ?_
                          rintro e w7 ⟨rfl, h7, S7, f7, l7⟩
                          have H7 := Lib.hid (show PX w w7 _ dx ⟨(closerM m0 14).m, m1, x0, x1⟩ dy ⟨m1, (closerM m0 14).m, x1, x0⟩ from h7.swap)
                          have HF7 := Lib.hid (And.intro (show Fr [] w w7 from (HG5.out.trans H6.out.1 (U := []) (by simp) (fun x hx => .inr (H6.out.2 x hx).1)).trans f7 (by simp) (fun x hx => .inr (l7 x hx).1)) ((HA5.out.keep H6.out.1 hz5 (fun x hx => (H6.out.2 x hx).1)).keep f7 hz6 (fun x hx => (l7 x hx).1)))
                          clear h7 f7 l7 HY H6 e0 e1 e2 e3
                          go_wp2_with fail
                          go_meet
                          exact ⟨(closerM m0 14).m, m1, x0, x1, Lib.hid (PX.less H7.out (fun x hx => hx.elim)), Lib.hid HF7.out.1, Lib.hid HF7.out.2⟩
                      · skip
                        as_aux_lemma =>
                          cases x1 with
                          | false =>
                            have HC := px_close1 HP5.out hz5 rfl
                            try dsimp only [closeS0, closeS1] at HC
                            have HC := Lib.hid HC
                            go_wp2_with fail
                            refine HC.out.mono ?_
                            rintro e w6 ⟨rfl, h6, S6, f6, l6⟩
                            have hz6 : w.heap.size ≤ w6.heap.size := Nat.le_trans hz5 f6.size
                            have hq6 := f6.keep HQ5.out (fun hm => (l6 _ hm).2 ⟨Nat.le_refl _, hbx5⟩)
                            have e0 : w6.cell? ⟨wr.heap.size, 0, none⟩ = some (.int .i64 what) := cell_of hq6
                            have e1 : w6.cell? ⟨wr.heap.size, 1, none⟩ = some (.int .i64 1) := cell_of hq6
                            have e2 : w6.cell? ⟨wr.heap.size, 2, none⟩ = some (.slice pa ps.length pc) := cell_of hq6
                            have e3 : w6.cell? ⟨wr.heap.size, 3, none⟩ = some (.int .i64 n) := cell_of hq6
                            have HY := px_close0 (h6.swap) hz6 rfl
                            try dsimp only [closeS0, closeS1] at HY
                            have HY := Lib.hid HY
                            have H6 := Lib.hid (And.intro f6 l6)
                            clear h6 f6 l6 hq6 HC
                            go_wp2_with fail
                            refine HY.out.mono ?_
                            rintro e w7 ⟨rfl, h7, S7, f7, l7⟩
                            have H7 := Lib.hid (show PX w w7 _ dx ⟨(closerM m0 14).m, (closewM m1 13).m, x0, true⟩ dy ⟨(closewM m1 13).m, (closerM m0 14).m, true, x0⟩ from h7.swap)
                            have HF7 := Lib.hid (And.intro (show Fr [] w w7 from (HG5.out.trans H6.out.1 (U := []) (by simp) (fun x hx => .inr (H6.out.2 x hx).1)).trans f7 (by simp) (fun x hx => .inr (l7 x hx).1)) ((HA5.out.keep H6.out.1 hz5 (fun x hx => (H6.out.2 x hx).1)).keep f7 hz6 (fun x hx => (l7 x hx).1)))
                            clear h7 f7 l7 HY H6 e0 e1 e2 e3
                            go_wp2_with fail
                            go_meet
                            exact ⟨(closerM m0 14).m, (closewM m1 13).m, x0, true, Lib.hid (PX.less H7.out (fun x hx => hx.elim)), Lib.hid HF7.out.1, Lib.hid HF7.out.2⟩
                          | true =>
                            have HC := px_closeY1 HP5.out hz5 rfl
                            try dsimp only at HC
                            have HC := Lib.hid HC
                            go_wp2_with fail
                            refine HC.out.mono ?_
                            rintro e w6 ⟨rfl, h6, S6, f6, l6⟩
                            have hz6 : w.heap.size ≤ w6.heap.size := Nat.le_trans hz5 f6.size
                            have hq6 := f6.keep HQ5.out (fun hm => (l6 _ hm).2 ⟨Nat.le_refl _, hbx5⟩)
                            have e0 : w6.cell? ⟨wr.heap.size, 0, none⟩ = some (.int .i64 what) := cell_of hq6
                            have e1 : w6.cell? ⟨wr.heap.size, 1, none⟩ = some (.int .i64 1) := cell_of hq6
                            have e2 : w6.cell? ⟨wr.heap.size, 2, none⟩ = some (.slice pa ps.length pc) := cell_of hq6
                            have e3 : w6.cell? ⟨wr.heap.size, 3, none⟩ = some (.int .i64 n) := cell_of hq6
                            have HY := px_closeY0 (h6.swap) hz6 rfl
                            try dsimp only at HY
                            have HY := Lib.hid HY
                            have H6 := Lib.hid (And.intro f6 l6)
                            clear h6 f6 l6 hq6 HC
                            go_wp2_with fail
                            refine HY.out.mono ?_
                            rintro e w7 ⟨rfl, h7, S7, f7, l7⟩
                            have H7 := Lib.hid (show PX w w7 _ dx ⟨m0, m1, x0, true⟩ dy ⟨m1, m0, true, x0⟩ from h7.swap)
                            have HF7 := Lib.hid (And.intro (show Fr [] w w7 from (HG5.out.trans H6.out.1 (U := []) (by simp) (fun x hx => .inr (H6.out.2 x hx).1)).trans f7 (by simp) (fun x hx => .inr (l7 x hx).1)) ((HA5.out.keep H6.out.1 hz5 (fun x hx => (H6.out.2 x hx).1)).keep f7 hz6 (fun x hx => (l7 x hx).1)))
                            clear h7 f7 l7 HY H6 e0 e1 e2 e3
                            go_wp2_with fail
                            go_meet
                            exact ⟨m0, m1, x0, true, Lib.hid (PX.less H7.out (fun x hx => hx.elim)), Lib.hid HF7.out.1, Lib.hid HF7.out.2⟩
          case rest =>
            as_aux_lemma =>
              clear e0 e1 e2 e3 hw5 HQ5 HP5 HG5 HA5 HPP HOK HP HG HA HF5 HPR
              rename World => w6
              obtain ⟨m0, m1, x0, x1, HP, HG, HA⟩ := hcut
              have HS1 := Lib.hid (px_state HP.out)
              go_wp2_with fail
              refine HS1.out.mono ?_
              rintro e w7 ⟨v1, rfl, f7, c7⟩
              have H7 := Lib.hid (And.intro f7 c7)
              have HS2 := Lib.hid (px_state (HP.out.keep0 f7).swap)
              clear f7 c7 HS1
              go_wp2_with fail
              refine HS2.out.mono ?_
              rintro e w8 ⟨v2, rfl, f8, c8⟩
              have HW := Lib.hid (r15_swap c8)
              have H8 := Lib.hid f8
              clear f8 c8 HS2
              go_wp2_with fail
              refine HW.out.mono ?_
              rintro e w9 ⟨v3, rfl, f9, c9⟩
              have HE := Lib.hid (same15 (H7.out.2.keep (H8.out.then0 f9) (by simp)) c9)
              have HF9 := Lib.hid (((H7.out.1.then0 H8.out).then0 f9))
              clear f9 c9 HW
              go_wp2_with fail
              refine HE.out.mono ?_
              rintro e w10 ⟨rfl, f10⟩
              have HF := Lib.hid (HF9.out.then0 f10)
              clear f10 HE H7 H8 HF9
              go_wp2_with fail
              go_roundw
              case rel => exact ⟨k + 1, m0, m1, x0, x1, by omega, by go_num, Lib.hid (HP.out.keep0 HF.out), Lib.hid (HG.out.then0 HF.out), Lib.hid (HA.out.keep HF.out HG.out.size (by simp))⟩
              case measure => simp [intOf]; omega
        · as_aux_lemma =>
            have hd : decide (en = 0 ∨ en = 1) = false := by simp [he0, he1]
            go_wp2_with fail
            refine (HEN.out _ _).mono ?_
            rintro e w' ⟨rfl, rfl⟩
            rw [hd]
            clear HEN hd he0 he1
            go_wp2_with fail
            go_roundw
            case rel => exact ⟨k + 1, m0, m1, x0, x1, by omega, by go_num, Lib.hid (HP.out.keep0 HF5.out), HG5, HA5⟩
            case measure => simp [intOf]; omega
    · as_aux_lemma =>
        go_wp2_with fail
        refine (known15 _).mono ?_
        rintro e w99 ⟨rfl, f99⟩
        go_wp2_with fail
        go_ret
        exact ⟨rfl, HG.out.then0 f99⟩
set_option maxHeartbeats 16000000 in
theorem duplexSwaps_walk {c0 c1 : Int} {a : Option Addr} {len cap : Nat} (w : World) (hA : ∃ A, Acts15 w w.heap.size a len cap A) :
    Calls Try.prog 9 #[.int .i64 c0, .int .i64 c1, .slice a len cap] w fun e w' => e = .returned (.bool true) ∧ Fr [] w w' := by
  obtain ⟨A, hA⟩ := hA
  have HFW := Lib.hid (few15 hA)
  cases hb : fewB15 A with
  | false =>
    rw [hb] at HFW
    clear hA
    go_enter Try.func9, Try.ntmps9
    go_wp2_with fail
    refine HFW.out.mono ?_
    rintro e w0 ⟨rfl, f0⟩
    have HF0 := Lib.hid f0
    clear f0
    go_wp2_with fail
    refine (known15 _).mono ?_
    rintro e w9 ⟨rfl, f9⟩
    go_wp2_with fail
    go_ret
    exact ⟨rfl, HF0.out.then0 f9⟩
  | true =>
    by_cases hx : (0 ≤ c0 ∧ c0 ≤ 4096) ∧ (0 ≤ c1 ∧ c1 ≤ 4096)
    · exact duplexSwaps_main w hx.1 hx.2 hA hb
    · rw [hb] at HFW
      have HN1 := Lib.hid fun w1 => dx_new_bad w1 hx
      have HN2 := Lib.hid fun w1 => dx_new_bad w1 (c0 := c1) (c1 := c0) (fun h => hx ⟨h.2, h.1⟩)
      clear hx hA
      go_enter Try.func9, Try.ntmps9
      go_wp2_with fail
      refine HFW.out.mono ?_
      rintro e w0 ⟨rfl, f0⟩
      have HF0 := Lib.hid f0
      clear f0
      go_wp2_with fail
      refine (HN1.out _).mono ?_
      rintro e w1 ⟨rfl, f1⟩
      have HF1 := Lib.hid (HF0.out.then0 f1)
      clear f1
      go_wp2_with fail
      refine (HN2.out _).mono ?_
      rintro e w2 ⟨rfl, f2⟩
      have HF2 := Lib.hid (HF1.out.then0 f2)
      clear f2 HN1 HN2 HFW
      go_wp2_with fail
      --MARK
      go_loopw [11] (fun i wr => i = .int .i64 0 ∧ wr = w2) (fun _ _ => 0)
      case atStart => exact ⟨rfl, rfl⟩
      case round =>
        obtain ⟨rfl, rfl⟩ := hrel
        by_cases h0 : (0 : Int) < len
        · go_wp2_with fail
          refine (known15 _).mono ?_
          rintro e w9 ⟨rfl, f9⟩
          go_wp2_with fail
          go_ret
          exact ⟨rfl, HF2.out.then0 f9⟩
        · go_wp2_with fail
          refine (known15 _).mono ?_
          rintro e w9 ⟨rfl, f9⟩
          go_wp2_with fail
          go_ret
          exact ⟨rfl, HF2.out.then0 f9⟩
end Go.Proofs.Ytdoamelhclnphaa
