/-
  Law 21: step: one call, of the transfer and of the reference's.
-/
import Derived.Test.YtodpkdbcdbdjfaaTrIs
namespace Go.Proofs.Ytodpkdbcdbdjfaa
open Go.RowKit
set_option maxRecDepth 100000

theorem step_store7 {ops : Array Oper} {o : Oper} {a : Act} {w : World} {K : Act → World → Prop} {Q : Exit → Act → World → Prop} {E : Prop} {b : Nat} {v0 v1 v2 v3 v4 v5 v6 : Value} {x0 x1 x2 x3 x5 x6 : Int} {sa : Option Addr} {sn sc : Nat} (h : RB w b v0 v1 v2 v3 v4 v5 v6) (hw : Region.wanted o (yielded ops a.tmps) = true) {p x : Operand} (ho : o.op = .store 45 p x) (hp : a.eval p = .pointer (some ⟨b, 0, none⟩)) (hx : a.eval x = .agg #[.int .i64 x0, .int .i64 x1, .int .i64 x2, .int .i64 x3, .slice sa sn sc, .int .i64 x5, .int .i64 x6])
    (hd : o.dst = none) (hk : K a (((((((w.setCell ⟨b, 0, none⟩ (.int .i64 x0)).setCell ⟨b, 1, none⟩ (.int .i64 x1)).setCell ⟨b, 2, none⟩ (.int .i64 x2)).setCell ⟨b, 3, none⟩ (.int .i64 x3)).setCell ⟨b, 4, none⟩ (.slice sa sn sc)).setCell ⟨b, 5, none⟩ (.int .i64 x5)).setCell ⟨b, 6, none⟩ (.int .i64 x6))) :
    if Region.wanted o (yielded ops a.tmps) = true then Oper.wp Try.prog o a w K Q else E := by
  rw [if_pos hw]
  obtain ⟨_, _, _, _, _, _, _, _, _, _, _, _, _, _⟩ := h.cells
  unfold Oper.wp
  simp only [execOp, ho, hp, hx]
  go_simp
  exact hk
/-- What a transfer holds behind a call. -/
def stepT (t : TS) (what n er : Int) (data : List UInt8) : TS := if what = 0 then gotT t data er else if what = 1 then wroteT t n er else t
theorem stepT_ok {t : TS} (h : TOk t) (what n er : Int) (data : List UInt8) : TOk (stepT t what n er data) := by
  unfold stepT
  split
  · exact gotT_ok h _ _
  · split
    · exact wroteT_ok h _ _
    · exact h
/-- Where all is behind a call. -/
def StepR (w : World) (N N2 : Nat → Prop) (b : Nat) (t2 : TS) (e : Ending) (w' : World) : Prop :=
  ∃ b2 v2, e = .returned (.tuple #[.pointer (some ⟨b2, 0, none⟩), v2, .bool true]) ∧ Fr [b] w w' ∧ (∃ N', Tr w' N' b2 t2 ∧ ∀ x, x < w.heap.size → N' x → N x) ∧ (∃ N', Rv w' N' v2 t2 ∧ ¬ N' b2 ∧ ∀ x, x < w.heap.size → N' x → N2 x) ∧ (b2 = b ∨ w.heap.size ≤ b2)
set_option maxHeartbeats 8000000 in
theorem step21 {w : World} {N N2 : Nat → Prop} {b : Nat} {t : TS} {v : Value} (h : Tr w N b t) (hr : t.rd ≤ 2000000000000) (hv : Rv w N2 v t) (hb : ¬ N2 b) {pa : Option Addr} {pc : Nat} {data : List UInt8} (hd : Sl w pa (bi data)) (hdl : data.length ≤ 65536) (what n er : Int) :
    Calls Try.prog 24 #[.pointer (some ⟨b, 0, none⟩), v, .agg #[.int .i64 what, .slice pa data.length pc, .int .i64 n, .int .i64 er]] w (StepR w N N2 b (stepT t what n er data)) := by
  have hr0 := hr
  replace hr : t.rd ≤ 4611686018427387904 := by omega
  unfold stepT StepR
  by_cases q0 : what = 0
  · rw [if_pos q0]
    as_aux_lemma =>
      subst q0
      have HU : Hid (Try.prog.underlying 22 = some (.slice 5)) := Lib.hid Try.underlying22
      have HIN : Hid ((Try.prog.info? 5).map (fun i => (i.zero, i.size, i.bytes)) = some (some (.int .u8 0), 1, 1)) := Lib.hid (by kernel_rfl)
      have H1 : Hid (([] : List Value).length + data.length ≤ maxLen) := Lib.hid (by unfold maxLen; simp; omega)
      have H2 : Hid ((([] : List Value).length + data.length) * 1 ≤ 140737488355328) := Lib.hid (by simp; omega)
      have H3 : Hid (((bi data).map (Value.int .u8)).length = data.length) := Lib.hid (by simp [bi])
      have HSV := Lib.hid fun w1 (f : Fr [] w w1) => (sl_keep hd f (by simp)).toV
      have HSD := Lib.hid fun w1 (f : Fr [] w w1) => sl_keep hd f (by simp)
      have HTR := Lib.hid fun w1 (f : Fr [] w w1) => h.out f (by simp) (by simp)
      have HGR := Lib.hid fun w1 (f : Fr [] w w1) => rt_got (pcap := pc) ((hv.there.keep f (by simp)).mono (N' := fun x => (N2 x ∧ x < w.heap.size) ∨ w1.heap.size ≤ x) (fun x hx => .inl hx)) h.ok hr (fun x hx => .inr hx) (HSD.out w1 f) hdl er
      have HGT := Lib.hid fun (w1 : World) (N1 : Nat → Prop) (h1 : Tr w1 N1 b t) (pa2 : Option Addr) (pc2 : Nat) (hs : Sl w1 pa2 (bi data)) => tr_got (pcap := pc2) h1 hr hs rfl hdl er
      generalize gotT t data er = T2 at HGR HGT ⊢
      generalize gotE t data er = ce at HGR HGT
      have hblt := h.lt
      obtain ⟨ra, rc, rfl, _⟩ := id hv
      have hdi : (data.length : Int) ≤ 65536 := by omega
      clear hd h hv
      obtain ⟨W0, hW0, g0, b0, b1, b2⟩ : ∃ W, ((w.alloc (.cells #[.int .i64 t.stage, .int .i64 t.limit, .int .i64 t.rd, .int .i64 t.wr, .slice ra t.s.length rc, .int .i64 t.r, .int .i64 t.w] 45)).alloc (.cells #[.int .i64 0, .slice pa data.length pc, .int .i64 n, .int .i64 er] 41)).alloc (.cells #[.int .i64 0, .int .i64 0, .int .i64 0, .int .i64 0, .slice none 0 0, .int .i64 0, .int .i64 0] 45) = W ∧ Fr [] w W ∧ RB W w.heap.size (.int .i64 t.stage) (.int .i64 t.limit) (.int .i64 t.rd) (.int .i64 t.wr) (.slice ra t.s.length rc) (.int .i64 t.r) (.int .i64 t.w) ∧ W.heap[w.heap.size + 1]? = some (.cells #[.int .i64 0, .slice pa data.length pc, .int .i64 n, .int .i64 er] 41 (0, 0)) ∧ RB W (w.heap.size + 2) (.int .i64 0) (.int .i64 0) (.int .i64 0) (.int .i64 0) (.slice none 0 0) (.int .i64 0) (.int .i64 0) :=
        ⟨_, rfl, (((Fr.refl _ _).alloc _).alloc _).alloc _, keepA (keepA (newA rfl)), keepA (newA (by simp)), newA (by simp)⟩
      have hs0 := lt_of_heap b2
      obtain ⟨_, _, _, _, _, _, _, _, _, _, _, _, _, _⟩ := b0.cells
      have a0 : W0.cell? ⟨w.heap.size + 1, 0, none⟩ = some (.int .i64 0) := cell_of b1
      have a1 : W0.cell? ⟨w.heap.size + 1, 1, none⟩ = some (.slice pa data.length pc) := cell_of b1
      have HSV0 := Lib.hid (HSV.out _ g0)
      go_enter Try.func24, Try.ntmps24
      go_wp2_with (refine wpList_append_fr _ rfl (.const (.slice none 0 0)) (.tmp 22) 22 rfl 5 (.int .u8 0) 1 HU.out HIN.out rfl w.heap.size (.slice none 0 0) [] (by exact rfl) (Ow.nil _ _ _) pa data.length pc _ (by exact rfl) H3.out HSV0.out (oneCell_bytes _) (by exact H1.out) (by exact H2.out) (Nat.le_of_lt (Nat.lt_of_le_of_lt (Nat.le_add_right _ _) hs0)) ?_)
      intro ov w2 o2 f2 hb2
      have f2' : Fr [] W0 w2 := f2
      have o2' : Ow w2 w.heap.size 5 ov ((bi data).map (Value.int .u8)) := o2.out
      have g2 := g0.then0 f2'
      have hown : ∀ k, ov.ownBlock = some k → W0.heap.size ≤ k ∧ k < w2.heap.size := by
        intro k hk
        refine ⟨?_, (o2'.lt k hk).2⟩
        rcases hb2 with e | e
        · rw [hk] at e
          simp [Value.ownBlock] at e
        · rw [hk] at e
          injection e with e
          omega
      obtain ⟨oa, oc, rfl, _, _, osl, _⟩ := o2'.formB
      have HOWN := Lib.hid hown
      have HO2 := Lib.hid o2'
      have HOSL := Lib.hid osl
      have HB0 := Lib.hid (f2'.keep b0 (by simp))
      have HB1 := Lib.hid (f2'.keep b1 (by simp))
      have HB2 : Hid (RB w2 _ _ _ _ _ _ _ _) := Lib.hid (f2'.keep b2 (by simp))
      have r0 : RB w2 _ _ _ _ _ _ _ _ := HB0.out
      obtain ⟨_, _, _, _, _, _, _, _, _, _, _, _, _, _⟩ := r0.cells
      have d1 : w2.cell? ⟨w.heap.size + 1, 1, none⟩ = some (.slice pa data.length pc) := cell_of HB1.out
      have d3 : w2.cell? ⟨w.heap.size + 1, 3, none⟩ = some (.int .i64 er) := cell_of HB1.out
      clear o2 f2 hb2 o2' osl hown r0 a0 a1 hW0 b0 b1 b2
      go_wp2_with fail
      refine (HGR.out _ g2).mono ?_
      rintro e w3 ⟨u, rfl, f3, hu⟩
      obtain ⟨ua, uc, rfl, _⟩ := id hu
      obtain ⟨w4, hw4, f4, b10⟩ : ∃ W, w3.alloc (.cells #[.int .i64 T2.stage, .int .i64 T2.limit, .int .i64 T2.rd, .int .i64 T2.wr, .slice ua T2.s.length uc, .int .i64 T2.r, .int .i64 T2.w] 45) = W ∧ Fr [] w3 W ∧ RB W w3.heap.size (.int .i64 T2.stage) (.int .i64 T2.limit) (.int .i64 T2.rd) (.int .i64 T2.wr) (.slice ua T2.s.length uc) (.int .i64 T2.r) (.int .i64 T2.w) := ⟨_, rfl, (Fr.refl _ _).alloc _, newA rfl⟩
      have f34 := f3.then0 f4
      have d3' : w4.cell? ⟨w.heap.size + 1, 3, none⟩ = some (.int .i64 er) := cell_of (f34.keep HB1.out (by simp))
      have T4 := Lib.hid ((HTR.out _ g2).keep0 f34)
      have HO4 := Lib.hid (HO2.out.keep f34 (by simp))
      have S4 := Lib.hid (sl_keep HOSL.out f34 (by simp))
      have hz23 := f3.size
      have hz34 := lt_of_heap b10
      have hz02 := f2'.size
      clear d1 d3
      go_wp2_with fail
      refine (HGT.out _ _ T4.out oa oc S4.out).mono ?_
      rintro e w5 ⟨rfl, f5, h5⟩
      have H5 := Lib.hid h5
      have HO5 := Lib.hid (HO4.out.keep f5 (fun k hk hm => by have := (HOWN.out k hk).1; simp at hm; omega))
      have B10 := Lib.hid (f5.keep b10 (by simp; omega))
      have B7 := Lib.hid (f5.keep (f34.keep HB2.out (by simp)) (by simp; omega))
      have HU5 := Lib.hid ((hu.keep f4 (by simp)).keep f5 (fun x hx hn => by simp at hx; subst hx; rcases hn with hn | hn; exact hb hn.1; omega))
      have G5 := Lib.hid ((g2.then0 f34).trans f5 (by simp) (U := [b]) (fun x hx => .inl hx))
      clear hw4 f4 f5 h5 b10 d3'
      go_wp2_with fail
      go_loopw [13] (fun j wx => ∃ (q : Nat) (xs : List Int), q ≤ data.length ∧ j = .int .i64 q ∧ xs.length = data.length ∧ Ow wx w.heap.size 5 (.slice oa data.length oc) (xs.map (Value.int .u8)) ∧ Fr (Value.ownBlock (.slice oa data.length oc)).toList w5 wx) (fun j _ => data.length - (intOf j).toNat)
      case atStart => exact ⟨0, bi data, by omega, rfl, bi_length _, HO5.out, Fr.refl _ _⟩
      case round =>
        obtain ⟨q, xs, hq, rfl, hxsl, hox, fr⟩ := hrel
        rename World => wq
        by_cases hlq : (q : Int) < data.length
        · obtain ⟨g, cap', hve, _, _, _, hgl, hcell, hfree⟩ := hox.row (by rw [List.length_map]; omega)
          have hkx : q < xs.length := by omega
          have hc := hcell q (by rw [List.length_map]; omega)
          rw [List.getElem?_map, List.getElem?_eq_getElem hkx] at hc
          have hf := hfree q
          simp only [Value.slice.injEq] at hve
          obtain ⟨rfl, hve2, rfl⟩ := hve
          clear hve2
          have hset := hox.set q (.int .u8 (IntKind.u8.wrap (xs[q] + 1)))
          rw [← List.map_set] at hset
          have hfr2 := fr.setCell (p := ⟨g, q, none⟩) (.inl (by show g ∈ [g]; simp)) (.int .u8 (IntKind.u8.wrap (xs[q] + 1)))
          simp only [Option.map_some] at hc
          generalize xs[q] = x at hc hset hfr2
          have HXL := Lib.hid hxsl
          have HST := Lib.hid (And.intro hset hfr2)
          clear hcell hfree hox fr hset hfr2 hxsl hkx
          go_wp2_with fail
          go_roundw
          case rel => exact ⟨q + 1, _, by omega, by go_num, by rw [List.length_set]; exact HXL.out, HST.out.1, HST.out.2⟩
          case measure => simp [intOf]; omega
        · go_wp2_with fail
          have hox2 : ∀ k, k ∈ (Value.ownBlock (.slice oa data.length oc)).toList → W0.heap.size ≤ k ∧ k < w2.heap.size := fun k hk => HOWN.out k (by simpa using hk)
          have Hq := Lib.hid (H5.out.keep fr (fun hm => by have := (hox2 b hm).1; omega) (fun x hx hn => by have := hox2 x hx; rcases hn with hn | hn <;> omega))
          have r10 : RB wq w3.heap.size _ _ _ _ _ _ _ := fr.keep B10.out (fun hm => by have := (hox2 _ hm).2; omega)
          have r7 : RB wq (w.heap.size + 2) _ _ _ _ _ _ _ := fr.keep B7.out (fun hm => by have := (hox2 _ hm).1; omega)
          obtain ⟨_, _, _, _, _, _, _, _, _, _, _, _, _, _⟩ := r10.cells
          obtain ⟨_, _, _, _, _, _, _, _, _, _, _, _, _, _⟩ := r7.cells
          have HUq := Lib.hid (HU5.out.keep fr (fun x hx hn => by have := hox2 x hx; rcases hn with hn | hn <;> omega))
          have Gq := Lib.hid (G5.out.trans fr (fun _ h => .inl h) (fun x hx => .inr (by have := (hox2 x hx).1; omega)))
          clear hox fr
          have rD : RB wq.drew (w3.heap.size) _ _ _ _ _ _ _ := r10
          refine wp_region_order [(0, true), (1, true), (2, true), (3, true), (4, false), (5, true)] (fun w' => w'.cell? ⟨w3.heap.size, 0, none⟩ = some (.int .i64 T2.stage) ∧ w'.cell? ⟨w3.heap.size, 1, none⟩ = some (.int .i64 T2.limit) ∧ w'.cell? ⟨w3.heap.size, 2, none⟩ = some (.int .i64 T2.rd) ∧ w'.cell? ⟨w3.heap.size, 3, none⟩ = some (.int .i64 T2.wr) ∧ w'.cell? ⟨w3.heap.size, 4, none⟩ = some (.slice ua T2.s.length uc) ∧ w'.cell? ⟨w3.heap.size, 5, none⟩ = some (.int .i64 T2.r) ∧ w'.cell? ⟨w3.heap.size, 6, none⟩ = some (.int .i64 T2.w)) (by kernel_rfl) (by kernel_rfl) ⟨cell_of rD, cell_of rD, cell_of rD, cell_of rD, cell_of rD, cell_of rD, cell_of rD⟩ ?_
          intro OPS HOPS
          have hops := HOPS.out
          try simp only [List.append_eq, List.cons_append, List.nil_append] at hops
          replace HOPS := Lib.hid hops
          clear hops
          refine walkO_take (o := _) (v := ?_) (by rw [HOPS.out]; simp only [List.getElem?_toArray, List.getElem?_cons_succ, List.getElem?_cons_zero]; exact rfl) (Or.inl ⟨rfl, ?_⟩) ?_
          rotate_left
          · (intro w hSw; (try dsimp only at hSw); go_simp) <;> (with_reducible rfl)
          simp only [Act.put, List.setIfInBounds_toArray, List.set_cons_zero, List.set_cons_succ]
          refine walkO_take (o := _) (v := ?_) (by rw [HOPS.out]; simp only [List.getElem?_toArray, List.getElem?_cons_succ, List.getElem?_cons_zero]; exact rfl) (Or.inl ⟨rfl, ?_⟩) ?_
          rotate_left
          · (intro w hSw; (try dsimp only at hSw); go_simp) <;> (with_reducible rfl)
          simp only [Act.put, List.setIfInBounds_toArray, List.set_cons_zero, List.set_cons_succ]
          refine walkO_take (o := _) (v := ?_) (by rw [HOPS.out]; simp only [List.getElem?_toArray, List.getElem?_cons_succ, List.getElem?_cons_zero]; exact rfl) (Or.inl ⟨rfl, ?_⟩) ?_
          rotate_left
          · (intro w hSw; (try dsimp only at hSw); go_simp) <;> (with_reducible rfl)
          simp only [Act.put, List.setIfInBounds_toArray, List.set_cons_zero, List.set_cons_succ]
          refine walkO_take (o := _) (v := ?_) (by rw [HOPS.out]; simp only [List.getElem?_toArray, List.getElem?_cons_succ, List.getElem?_cons_zero]; exact rfl) (Or.inl ⟨rfl, ?_⟩) ?_
          rotate_left
          · (intro w hSw; (try dsimp only at hSw); go_simp) <;> (with_reducible rfl)
          simp only [Act.put, List.setIfInBounds_toArray, List.set_cons_zero, List.set_cons_succ]
          refine walkO_call (o := _) (by rw [HOPS.out]; simp only [List.getElem?_toArray, List.getElem?_cons_succ, List.getElem?_cons_zero]; exact rfl) (fun K HK => ?_)
          have r7D : RB wq.drew (w.heap.size + 2) _ _ _ _ _ _ _ := r7
          refine step_store7 (p := .tmp 7) (x := .tmp 53) r7D rfl rfl rfl rfl rfl ?_
          have fs : Fr [w.heap.size + 2] wq.drew _ := seven_fr (w := wq.drew) (b := w.heap.size + 2) (u0 := (.int .i64 T2.stage)) (u1 := (.int .i64 T2.limit)) (u2 := (.int .i64 T2.rd)) (u3 := (.int .i64 T2.wr)) (u4 := (.slice ua T2.s.length uc)) (u5 := (.int .i64 T2.r)) (u6 := (.int .i64 T2.w))
          have rE := fs.keep rD (by simp; omega)
          refine HK.out (fun w' => w'.cell? ⟨w3.heap.size, 0, none⟩ = some (.int .i64 T2.stage) ∧ w'.cell? ⟨w3.heap.size, 1, none⟩ = some (.int .i64 T2.limit) ∧ w'.cell? ⟨w3.heap.size, 2, none⟩ = some (.int .i64 T2.rd) ∧ w'.cell? ⟨w3.heap.size, 3, none⟩ = some (.int .i64 T2.wr) ∧ w'.cell? ⟨w3.heap.size, 4, none⟩ = some (.slice ua T2.s.length uc) ∧ w'.cell? ⟨w3.heap.size, 5, none⟩ = some (.int .i64 T2.r) ∧ w'.cell? ⟨w3.heap.size, 6, none⟩ = some (.int .i64 T2.w)) _ _ (fun _ h => h) ⟨cell_of rE, cell_of rE, cell_of rE, cell_of rE, cell_of rE, cell_of rE, cell_of rE⟩ ?_
          clear HK K rE
          try simp only [Act.put, List.setIfInBounds_toArray, List.set_cons_zero, List.set_cons_succ]
          refine walkO_take (o := _) (v := ?_) (by rw [HOPS.out]; simp only [List.getElem?_toArray, List.getElem?_cons_succ, List.getElem?_cons_zero]; exact rfl) (Or.inl ⟨rfl, ?_⟩) ?_
          rotate_left
          · (intro w hSw; (try dsimp only at hSw); go_simp) <;> (with_reducible rfl)
          simp only [Act.put, List.setIfInBounds_toArray, List.set_cons_zero, List.set_cons_succ]
          refine walkO_done ?_
          clear HOPS OPS
          have r7D : RB wq.drew (w.heap.size + 2) _ _ _ _ _ _ _ := r7
          obtain ⟨wf, hwf, Ff, Rf⟩ : ∃ wf, (((((((wq.drew.setCell ⟨w.heap.size + 2, 0, none⟩ (.int .i64 T2.stage)).setCell ⟨w.heap.size + 2, 1, none⟩ (.int .i64 T2.limit)).setCell ⟨w.heap.size + 2, 2, none⟩ (.int .i64 T2.rd)).setCell ⟨w.heap.size + 2, 3, none⟩ (.int .i64 T2.wr)).setCell ⟨w.heap.size + 2, 4, none⟩ (.slice ua T2.s.length uc)).setCell ⟨w.heap.size + 2, 5, none⟩ (.int .i64 T2.r)).setCell ⟨w.heap.size + 2, 6, none⟩ (.int .i64 T2.w)) = wf ∧ Fr [w.heap.size + 2] wq.drew wf ∧ RB wf (w.heap.size + 2) (.int .i64 T2.stage) (.int .i64 T2.limit) (.int .i64 T2.rd) (.int .i64 T2.wr) (.slice ua T2.s.length uc) (.int .i64 T2.r) (.int .i64 T2.w) := ⟨_, rfl, seven_fr, seven_set r7D⟩
          rw [hwf]
          obtain ⟨z0, z1, z2, z3, z4, z5, z6, _⟩ := Rf.cells
          have hN1 : ∀ x ∈ [w.heap.size + 2], ¬ ((N x ∧ x < w.heap.size) ∨ w2.heap.size ≤ x) := fun x hx hn => by simp at hx; rcases hn with hn | hn <;> omega
          have hN2 : ∀ x ∈ [w.heap.size + 2], ¬ ((N2 x ∧ x < w.heap.size) ∨ w2.heap.size ≤ x) := fun x hx hn => by simp at hx; rcases hn with hn | hn <;> omega
          have FD : Fr [] wq wq.drew := (Fr.refl _ _).drew
          have GF := Lib.hid ((Gq.out.then0 FD).trans Ff (fun _ h => .inl h) (fun x hx => .inr (by simp at hx; omega)))
          have TF := Lib.hid ((Hq.out.keep FD (by simp) (by simp)).keep Ff (by simp; omega) hN1)
          have UF := Lib.hid ((HUq.out.keep FD (by simp)).keep Ff hN2)
          have hbw : b < w2.heap.size := by omega
          have HBN := Lib.hid hb
          clear hwf fs r7 r10 rD r7D Gq Hq HUq hN1 hN2 FD Ff Rf
          go_wp2_with fail
          refine bodyPost_ret (v := .tuple #[.pointer (some ⟨b, 0, none⟩), .agg #[.int .i64 T2.stage, .int .i64 T2.limit, .int .i64 T2.rd, .int .i64 T2.wr, .slice ua T2.s.length uc, .int .i64 T2.r, .int .i64 T2.w], .bool true]) (by simp [results, Try.results24, go_sem, z0, z1, z2, z3, z4, z5, z6]) rfl ?_
          exact ⟨b, _, rfl, GF.out, ⟨_, TF.out, fun x hx hn => hn.elim (·.1) (fun h => absurd h (by omega))⟩, ⟨_, UF.out, fun hn => hn.elim (fun h => HBN.out h.1) (fun h => absurd h (by omega)), fun x hx hn => hn.elim (·.1) (fun h => absurd h (by omega))⟩, .inl rfl⟩
  · rw [if_neg q0]
    by_cases q1 : what = 1
    · rw [if_pos q1]
      as_aux_lemma =>
        subst q1
        have HTR := Lib.hid fun w1 (f : Fr [] w w1) => h.out f (by simp) (by simp)
        have HGR := Lib.hid fun w1 (f : Fr [] w w1) => rt_wrote ((hv.there.keep f (by simp)).mono (N' := fun x => (N2 x ∧ x < w.heap.size) ∨ w1.heap.size ≤ x) (fun x hx => .inl hx)) h.ok hr (fun x hx => .inr hx) n er
        have HGT := Lib.hid fun (w1 : World) (N1 : Nat → Prop) (h1 : Tr w1 N1 b t) => tr_wrote h1 hr n er
        generalize wroteT t n er = T2 at HGR HGT ⊢
        generalize wroteE t n er = ce at HGR HGT
        have hblt := h.lt
        obtain ⟨ra, rc, rfl, _⟩ := id hv
        clear hd h hv hdl
        obtain ⟨W0, hW0, g0, b0, b1, b2⟩ : ∃ W, ((w.alloc (.cells #[.int .i64 t.stage, .int .i64 t.limit, .int .i64 t.rd, .int .i64 t.wr, .slice ra t.s.length rc, .int .i64 t.r, .int .i64 t.w] 45)).alloc (.cells #[.int .i64 1, .slice pa data.length pc, .int .i64 n, .int .i64 er] 41)).alloc (.cells #[.int .i64 0, .int .i64 0, .int .i64 0, .int .i64 0, .slice none 0 0, .int .i64 0, .int .i64 0] 45) = W ∧ Fr [] w W ∧ RB W w.heap.size (.int .i64 t.stage) (.int .i64 t.limit) (.int .i64 t.rd) (.int .i64 t.wr) (.slice ra t.s.length rc) (.int .i64 t.r) (.int .i64 t.w) ∧ W.heap[w.heap.size + 1]? = some (.cells #[.int .i64 1, .slice pa data.length pc, .int .i64 n, .int .i64 er] 41 (0, 0)) ∧ RB W (w.heap.size + 2) (.int .i64 0) (.int .i64 0) (.int .i64 0) (.int .i64 0) (.slice none 0 0) (.int .i64 0) (.int .i64 0) :=
          ⟨_, rfl, (((Fr.refl _ _).alloc _).alloc _).alloc _, keepA (keepA (newA rfl)), keepA (newA (by simp)), newA (by simp)⟩
        have hs0 := lt_of_heap b2
        obtain ⟨_, _, _, _, _, _, _, _, _, _, _, _, _, _⟩ := b0.cells
        have a0 : W0.cell? ⟨w.heap.size + 1, 0, none⟩ = some (.int .i64 1) := cell_of b1
        have a2 : W0.cell? ⟨w.heap.size + 1, 2, none⟩ = some (.int .i64 n) := cell_of b1
        have a3 : W0.cell? ⟨w.heap.size + 1, 3, none⟩ = some (.int .i64 er) := cell_of b1
        go_enter Try.func24, Try.ntmps24
        go_wp2_with (fail)
        refine (HGR.out _ g0).mono ?_
        rintro e w3 ⟨u, rfl, f3, hu⟩
        obtain ⟨ua, uc, rfl, _⟩ := id hu
        obtain ⟨w4, hw4, f4, b10⟩ : ∃ W, w3.alloc (.cells #[.int .i64 T2.stage, .int .i64 T2.limit, .int .i64 T2.rd, .int .i64 T2.wr, .slice ua T2.s.length uc, .int .i64 T2.r, .int .i64 T2.w] 45) = W ∧ Fr [] w3 W ∧ RB W w3.heap.size (.int .i64 T2.stage) (.int .i64 T2.limit) (.int .i64 T2.rd) (.int .i64 T2.wr) (.slice ua T2.s.length uc) (.int .i64 T2.r) (.int .i64 T2.w) := ⟨_, rfl, (Fr.refl _ _).alloc _, newA rfl⟩
        have f34 := f3.then0 f4
        have g4 := g0.then0 f34
        have c1 := f34.keep b1 (by simp)
        have B7 : RB w4 (w.heap.size + 2) _ _ _ _ _ _ _ := f34.keep b2 (by simp)
        have T4 := Lib.hid ((HTR.out _ g0).keep0 (f34.then0 (Fr.refl [] w4).drew))
        have HU4 := Lib.hid (hu.keep f4 (by simp))
        have hz03 := f3.size
        have hz34 := lt_of_heap b10
        have HBN := Lib.hid hb
        have HEW := Lib.hid (Go.Proofs.enters_of Try.func19 (by kernel_rfl) rfl)
        clear a0 a2 a3 hu f4 hW0
        go_wp2_with fail
        have rD : RB w4.drew w3.heap.size _ _ _ _ _ _ _ := b10
        have cD : w4.drew.heap[w.heap.size + 1]? = some (.cells #[.int .i64 1, .slice pa data.length pc, .int .i64 n, .int .i64 er] 41 (0, 0)) := c1
        refine wp_region_order [(0, true), (1, true), (2, true), (3, true), (4, true), (5, true), (6, true), (8, true), (7, false), (9, true), (10, true), (11, false), (12, true)] (fun w' => w'.cell? ⟨w3.heap.size, 0, none⟩ = some (.int .i64 T2.stage) ∧ w'.cell? ⟨w3.heap.size, 1, none⟩ = some (.int .i64 T2.limit) ∧ w'.cell? ⟨w3.heap.size, 2, none⟩ = some (.int .i64 T2.rd) ∧ w'.cell? ⟨w3.heap.size, 3, none⟩ = some (.int .i64 T2.wr) ∧ w'.cell? ⟨w3.heap.size, 4, none⟩ = some (.slice ua T2.s.length uc) ∧ w'.cell? ⟨w3.heap.size, 5, none⟩ = some (.int .i64 T2.r) ∧ w'.cell? ⟨w3.heap.size, 6, none⟩ = some (.int .i64 T2.w) ∧ w'.cell? ⟨w.heap.size + 1, 2, none⟩ = some (.int .i64 n) ∧ w'.cell? ⟨w.heap.size + 1, 3, none⟩ = some (.int .i64 er)) (by kernel_rfl) (by kernel_rfl) ⟨cell_of rD, cell_of rD, cell_of rD, cell_of rD, cell_of rD, cell_of rD, cell_of rD, cell_of cD, cell_of cD⟩ ?_
        intro OPS HOPS
        have hops := HOPS.out
        try simp only [List.append_eq, List.cons_append, List.nil_append] at hops
        replace HOPS := Lib.hid hops
        clear hops
        refine walkO_take (o := _) (v := ?_) (by rw [HOPS.out]; simp only [List.getElem?_toArray, List.getElem?_cons_succ, List.getElem?_cons_zero]; exact rfl) (Or.inl ⟨rfl, ?_⟩) ?_
        rotate_left
        · (intro w hSw; (try dsimp only at hSw); go_simp) <;> (with_reducible rfl)
        simp only [Act.put, List.setIfInBounds_toArray, List.set_cons_zero, List.set_cons_succ]
        refine walkO_take (o := _) (v := ?_) (by rw [HOPS.out]; simp only [List.getElem?_toArray, List.getElem?_cons_succ, List.getElem?_cons_zero]; exact rfl) (Or.inl ⟨rfl, ?_⟩) ?_
        rotate_left
        · (intro w hSw; (try dsimp only at hSw); go_simp) <;> (with_reducible rfl)
        simp only [Act.put, List.setIfInBounds_toArray, List.set_cons_zero, List.set_cons_succ]
        refine walkO_take (o := _) (v := ?_) (by rw [HOPS.out]; simp only [List.getElem?_toArray, List.getElem?_cons_succ, List.getElem?_cons_zero]; exact rfl) (Or.inl ⟨rfl, ?_⟩) ?_
        rotate_left
        · (intro w hSw; (try dsimp only at hSw); go_simp) <;> (with_reducible rfl)
        simp only [Act.put, List.setIfInBounds_toArray, List.set_cons_zero, List.set_cons_succ]
        refine walkO_take (o := _) (v := ?_) (by rw [HOPS.out]; simp only [List.getElem?_toArray, List.getElem?_cons_succ, List.getElem?_cons_zero]; exact rfl) (Or.inl ⟨rfl, ?_⟩) ?_
        rotate_left
        · (intro w hSw; (try dsimp only at hSw); go_simp) <;> (with_reducible rfl)
        simp only [Act.put, List.setIfInBounds_toArray, List.set_cons_zero, List.set_cons_succ]
        refine walkO_take (o := _) (v := ?_) (by rw [HOPS.out]; simp only [List.getElem?_toArray, List.getElem?_cons_succ, List.getElem?_cons_zero]; exact rfl) (Or.inl ⟨rfl, ?_⟩) ?_
        rotate_left
        · (intro w hSw; (try dsimp only at hSw); go_simp) <;> (with_reducible rfl)
        simp only [Act.put, List.setIfInBounds_toArray, List.set_cons_zero, List.set_cons_succ]
        refine walkO_take (o := _) (v := ?_) (by rw [HOPS.out]; simp only [List.getElem?_toArray, List.getElem?_cons_succ, List.getElem?_cons_zero]; exact rfl) (Or.inl ⟨rfl, ?_⟩) ?_
        rotate_left
        · (intro w hSw; (try dsimp only at hSw); go_simp) <;> (with_reducible rfl)
        simp only [Act.put, List.setIfInBounds_toArray, List.set_cons_zero, List.set_cons_succ]
        refine walkO_take (o := _) (v := ?_) (by rw [HOPS.out]; simp only [List.getElem?_toArray, List.getElem?_cons_succ, List.getElem?_cons_zero]; exact rfl) (Or.inl ⟨rfl, ?_⟩) ?_
        rotate_left
        · (intro w hSw; (try dsimp only at hSw); go_simp) <;> (with_reducible rfl)
        simp only [Act.put, List.setIfInBounds_toArray, List.set_cons_zero, List.set_cons_succ]
        refine walkO_take (o := _) (v := ?_) (by rw [HOPS.out]; simp only [List.getElem?_toArray, List.getElem?_cons_succ, List.getElem?_cons_zero]; exact rfl) (Or.inl ⟨rfl, ?_⟩) ?_
        rotate_left
        · (intro w hSw; (try dsimp only at hSw); go_simp) <;> (with_reducible rfl)
        simp only [Act.put, List.setIfInBounds_toArray, List.set_cons_zero, List.set_cons_succ]
        refine walkO_call (o := _) (by rw [HOPS.out]; simp only [List.getElem?_toArray, List.getElem?_cons_succ, List.getElem?_cons_zero]; exact rfl) (fun K HK => ?_)
        refine step_call rfl 19 #[(.tmp 68), (.tmp 70), (.tmp 72)] #[27, 3, 23] rfl HEW.out #[.pointer (some ⟨b, 0, none⟩), .int .i64 n, .int .i64 er] (by simp [Act.eval]) (HGT.out _ _ T4.out) ?_
        rintro e w5 ⟨rfl, f5, h5⟩
        have r5 : RB w5 w3.heap.size _ _ _ _ _ _ _ := f5.keep rD (by simp; omega)
        have c5 := f5.keep cD (by simp; omega)
        have r7 : RB w5 (w.heap.size + 2) _ _ _ _ _ _ _ := f5.keep (show RB w4.drew (w.heap.size + 2) _ _ _ _ _ _ _ from B7) (by simp; omega)
        refine ⟨_, rfl, ?_⟩
        refine HK.out (fun w' => w'.cell? ⟨w3.heap.size, 0, none⟩ = some (.int .i64 T2.stage) ∧ w'.cell? ⟨w3.heap.size, 1, none⟩ = some (.int .i64 T2.limit) ∧ w'.cell? ⟨w3.heap.size, 2, none⟩ = some (.int .i64 T2.rd) ∧ w'.cell? ⟨w3.heap.size, 3, none⟩ = some (.int .i64 T2.wr) ∧ w'.cell? ⟨w3.heap.size, 4, none⟩ = some (.slice ua T2.s.length uc) ∧ w'.cell? ⟨w3.heap.size, 5, none⟩ = some (.int .i64 T2.r) ∧ w'.cell? ⟨w3.heap.size, 6, none⟩ = some (.int .i64 T2.w) ∧ w'.cell? ⟨w.heap.size + 1, 2, none⟩ = some (.int .i64 n) ∧ w'.cell? ⟨w.heap.size + 1, 3, none⟩ = some (.int .i64 er)) _ _ (fun _ h => h) (⟨cell_of r5, cell_of r5, cell_of r5, cell_of r5, cell_of r5, cell_of r5, cell_of r5, cell_of c5, cell_of c5⟩) ?_
        clear HK K
        simp only [Act.put, List.setIfInBounds_toArray, List.set_cons_zero, List.set_cons_succ]
        refine walkO_take (o := _) (v := ?_) (by rw [HOPS.out]; simp only [List.getElem?_toArray, List.getElem?_cons_succ, List.getElem?_cons_zero]; exact rfl) (Or.inl ⟨rfl, ?_⟩) ?_
        rotate_left
        · (intro w hSw; (try dsimp only at hSw); go_simp) <;> (with_reducible rfl)
        simp only [Act.put, List.setIfInBounds_toArray, List.set_cons_zero, List.set_cons_succ]
        refine walkO_take (o := _) (v := ?_) (by rw [HOPS.out]; simp only [List.getElem?_toArray, List.getElem?_cons_succ, List.getElem?_cons_zero]; exact rfl) (Or.inl ⟨rfl, ?_⟩) ?_
        rotate_left
        · (intro w hSw; (try dsimp only at hSw); go_simp) <;> (with_reducible rfl)
        simp only [Act.put, List.setIfInBounds_toArray, List.set_cons_zero, List.set_cons_succ]
        refine walkO_call (o := _) (by rw [HOPS.out]; simp only [List.getElem?_toArray, List.getElem?_cons_succ, List.getElem?_cons_zero]; exact rfl) (fun K HK => ?_)
        refine step_store7 (p := .tmp 7) (x := .tmp 67) r7 rfl rfl rfl rfl rfl ?_
        have fs : Fr [w.heap.size + 2] w5 _ := seven_fr (w := w5) (b := w.heap.size + 2) (u0 := (.int .i64 T2.stage)) (u1 := (.int .i64 T2.limit)) (u2 := (.int .i64 T2.rd)) (u3 := (.int .i64 T2.wr)) (u4 := (.slice ua T2.s.length uc)) (u5 := (.int .i64 T2.r)) (u6 := (.int .i64 T2.w))
        have rE := fs.keep r5 (by simp; omega)
        have cE := fs.keep c5 (by simp)
        refine HK.out (fun w' => w'.cell? ⟨w3.heap.size, 0, none⟩ = some (.int .i64 T2.stage) ∧ w'.cell? ⟨w3.heap.size, 1, none⟩ = some (.int .i64 T2.limit) ∧ w'.cell? ⟨w3.heap.size, 2, none⟩ = some (.int .i64 T2.rd) ∧ w'.cell? ⟨w3.heap.size, 3, none⟩ = some (.int .i64 T2.wr) ∧ w'.cell? ⟨w3.heap.size, 4, none⟩ = some (.slice ua T2.s.length uc) ∧ w'.cell? ⟨w3.heap.size, 5, none⟩ = some (.int .i64 T2.r) ∧ w'.cell? ⟨w3.heap.size, 6, none⟩ = some (.int .i64 T2.w) ∧ w'.cell? ⟨w.heap.size + 1, 2, none⟩ = some (.int .i64 n) ∧ w'.cell? ⟨w.heap.size + 1, 3, none⟩ = some (.int .i64 er)) _ _ (fun _ h => h) ⟨cell_of rE, cell_of rE, cell_of rE, cell_of rE, cell_of rE, cell_of rE, cell_of rE, cell_of cE, cell_of cE⟩ ?_
        clear HK K rE cE
        try simp only [Act.put, List.setIfInBounds_toArray, List.set_cons_zero, List.set_cons_succ]
        refine walkO_take (o := _) (v := ?_) (by rw [HOPS.out]; simp only [List.getElem?_toArray, List.getElem?_cons_succ, List.getElem?_cons_zero]; exact rfl) (Or.inl ⟨rfl, ?_⟩) ?_
        rotate_left
        · (intro w hSw; (try dsimp only at hSw); go_simp) <;> (with_reducible rfl)
        simp only [Act.put, List.setIfInBounds_toArray, List.set_cons_zero, List.set_cons_succ]
        refine walkO_done ?_
        clear HOPS OPS
        obtain ⟨wf, hwf, Ff, Rf⟩ : ∃ wf, (((((((w5.setCell ⟨w.heap.size + 2, 0, none⟩ (.int .i64 T2.stage)).setCell ⟨w.heap.size + 2, 1, none⟩ (.int .i64 T2.limit)).setCell ⟨w.heap.size + 2, 2, none⟩ (.int .i64 T2.rd)).setCell ⟨w.heap.size + 2, 3, none⟩ (.int .i64 T2.wr)).setCell ⟨w.heap.size + 2, 4, none⟩ (.slice ua T2.s.length uc)).setCell ⟨w.heap.size + 2, 5, none⟩ (.int .i64 T2.r)).setCell ⟨w.heap.size + 2, 6, none⟩ (.int .i64 T2.w)) = wf ∧ Fr [w.heap.size + 2] w5 wf ∧ RB wf (w.heap.size + 2) (.int .i64 T2.stage) (.int .i64 T2.limit) (.int .i64 T2.rd) (.int .i64 T2.wr) (.slice ua T2.s.length uc) (.int .i64 T2.r) (.int .i64 T2.w) := ⟨_, rfl, seven_fr, seven_set r7⟩
        rw [hwf]
        obtain ⟨z0, z1, z2, z3, z4, z5, z6, _⟩ := Rf.cells
        have hN1 : ∀ x ∈ [w.heap.size + 2], ¬ ((N x ∧ x < w.heap.size) ∨ W0.heap.size ≤ x) := fun x hx hn => by simp at hx; rcases hn with hn | hn <;> omega
        have hN2 : ∀ x ∈ [w.heap.size + 2], ¬ ((N2 x ∧ x < w.heap.size) ∨ W0.heap.size ≤ x) := fun x hx hn => by simp at hx; rcases hn with hn | hn <;> omega
        have GF := Lib.hid (((g4.then0 (Fr.refl [] w4).drew).trans f5 (by simp) (U := [b]) (fun x hx => .inl hx)).trans Ff (fun _ h => .inl h) (fun x hx => .inr (by simp at hx; omega)))
        have TF := Lib.hid (h5.keep Ff (by simp; omega) hN1)
        have UF := Lib.hid (((HU4.out.keep (Fr.refl [] w4).drew (by simp)).keep f5 (fun x hx hn => by simp at hx; subst hx; rcases hn with hn | hn; exact HBN.out hn.1; omega)).keep Ff hN2)
        clear hwf fs r7 r5 rD c5 cD h5 f5 hN1 hN2 Ff Rf
        go_wp2_with fail
        refine bodyPost_ret (v := .tuple #[.pointer (some ⟨b, 0, none⟩), .agg #[.int .i64 T2.stage, .int .i64 T2.limit, .int .i64 T2.rd, .int .i64 T2.wr, .slice ua T2.s.length uc, .int .i64 T2.r, .int .i64 T2.w], .bool true]) (by simp [results, Try.results24, go_sem, z0, z1, z2, z3, z4, z5, z6]) rfl ?_
        exact ⟨b, _, rfl, GF.out, ⟨_, TF.out, fun x hx hn => hn.elim (·.1) (fun h => absurd h (by omega))⟩, ⟨_, UF.out, fun hn => hn.elim (fun h => HBN.out h.1) (fun h => absurd h (by omega)), fun x hx hn => hn.elim (·.1) (fun h => absurd h (by omega))⟩, .inl rfl⟩
    · rw [if_neg q1]
      as_aux_lemma =>
        have hcv := fun (w : World) (C : Array Value) (n c : Nat) => Lib.run_convert_bytes_const (P := Try.prog) w 22 5 C n c Try.underlying22 Try.underlying5
        have e0 : (what == 0) = false := by simpa using q0
        have e1 : (what == 1) = false := by simpa using q1
        have HTR := Lib.hid fun w1 (f : Fr [] w w1) => h.out f (by simp) (by simp)
        have HCP := Lib.hid fun (w1 : World) (N1 : Nat → Prop) (h1 : Tr w1 N1 b t) => tr_copy h1
        have HGT := Lib.hid fun (w1 : World) (N1 : Nat → Prop) (h1 : Tr w1 N1 b t) (pa2 : Option Addr) (pc2 : Nat) (hs : Sl w1 pa2 (bi [120])) => tr_got (plen := 1) (pcap := pc2) h1 hr hs rfl (by decide) 13
        have HRD := Lib.hid (show (gotT t [120] 13).rd ≤ 4611686018427387904 from by unfold gotT; split; (show t.rd + 1 ≤ _; omega); omega)
        have HGW := Lib.hid fun (w1 : World) (N1 : Nat → Prop) (T2 : TS) (h1 : Tr w1 N1 b T2) (hr2 : T2.rd ≤ 4611686018427387904) => tr_wrote h1 hr2 1 14
        have hblt := h.lt
        obtain ⟨ra, rc, rfl, _⟩ := id hv
        have HV := Lib.hid hv.there
        have HBN := Lib.hid hb
        have HNb : Hid (¬ N b) := Lib.hid (by obtain ⟨_, _, _, _, _, _, hx, _⟩ := h; exact hx)
        clear q0 q1 hd h hv hdl
        obtain ⟨W0, hW0, g0, b0, b1, b2⟩ : ∃ W, ((w.alloc (.cells #[.int .i64 t.stage, .int .i64 t.limit, .int .i64 t.rd, .int .i64 t.wr, .slice ra t.s.length rc, .int .i64 t.r, .int .i64 t.w] 45)).alloc (.cells #[.int .i64 what, .slice pa data.length pc, .int .i64 n, .int .i64 er] 41)).alloc (.cells #[.int .i64 0, .int .i64 0, .int .i64 0, .int .i64 0, .slice none 0 0, .int .i64 0, .int .i64 0] 45) = W ∧ Fr [] w W ∧ RB W w.heap.size (.int .i64 t.stage) (.int .i64 t.limit) (.int .i64 t.rd) (.int .i64 t.wr) (.slice ra t.s.length rc) (.int .i64 t.r) (.int .i64 t.w) ∧ W.heap[w.heap.size + 1]? = some (.cells #[.int .i64 what, .slice pa data.length pc, .int .i64 n, .int .i64 er] 41 (0, 0)) ∧ RB W (w.heap.size + 2) (.int .i64 0) (.int .i64 0) (.int .i64 0) (.int .i64 0) (.slice none 0 0) (.int .i64 0) (.int .i64 0) :=
          ⟨_, rfl, (((Fr.refl _ _).alloc _).alloc _).alloc _, keepA (keepA (newA rfl)), keepA (newA (by simp)), newA (by simp)⟩
        have hs0 := lt_of_heap b2
        obtain ⟨_, _, _, _, _, _, _, _, _, _, _, _, _, _⟩ := b0.cells
        have a0 : W0.cell? ⟨w.heap.size + 1, 0, none⟩ = some (.int .i64 what) := cell_of b1
        go_enter Try.func24, Try.ntmps24
        go_wp2_with (fail)
        refine (HCP.out _ _ (HTR.out _ g0)).mono ?_
        rintro e w3 ⟨rfl, f3, h3⟩
        have T3 := Lib.hid ((HTR.out _ g0).keep0 f3)
        have H3 := Lib.hid h3
        have hz3 := f3.size
        have g3 := g0.then0 f3
        have B0 : RB w3 w.heap.size _ _ _ _ _ _ _ := f3.keep b0 (by simp)
        have B7 : RB w3 (w.heap.size + 2) _ _ _ _ _ _ _ := f3.keep b2 (by simp)
        have V3 := Lib.hid (HV.out.keep g3 (by simp))
        have hcz := h3.lt
        clear h3 a0 hW0
        go_wp2_with fail
        refine (HGT.out (w3.alloc _) _ (T3.out.keep0 ((Fr.refl [] w3).alloc _)) _ _ (lit_sl (w := w3) (l := [120]))).mono ?_
        rintro e w4 ⟨rfl, f4', h4⟩
        have f4 : Fr [b] w3 w4 := ((Fr.refl _ w3).alloc _).then f4'
        have T4 := Lib.hid h4
        have H4 := Lib.hid (H3.out.keep f4 (by simp; omega) (fun x hx hn => by simp at hx; subst hx; rcases hn.1 with h | h; exact HNb.out h.1; omega))
        clear h4 f4'
        generalize gotT t [120] 13 = T5 at T4 HRD
        generalize gotE t [120] 13 = c5
        go_wp2_with fail
        refine (HGW.out _ _ _ T4.out HRD.out).mono ?_
        rintro e w5 ⟨rfl, f5, h5⟩
        have f45 := f4.then f5
        have H5 := Lib.hid (H4.out.keep f5 (by simp; omega) (fun x hx hn => by simp at hx; subst hx; rcases hn.1 with h | h; exact HNb.out h.1; omega))
        have r4 : RB w5 w.heap.size _ _ _ _ _ _ _ := f45.keep B0 (by simp; omega)
        have r7 : RB w5 (w.heap.size + 2) _ _ _ _ _ _ _ := f45.keep B7 (by simp; omega)
        have V5 := Lib.hid (V3.out.keep f45 (fun x hx hn => by simp at hx; subst hx; exact HBN.out hn.1))
        have G5 := Lib.hid (g3.trans f45 (by simp) (U := [b]) (fun x hx => .inl hx))
        clear h5 f4 f5 f45 T4 H4
        go_wp2_with fail
        have rD : RB w5.drew w.heap.size _ _ _ _ _ _ _ := r4
        have r7D : RB w5.drew (w.heap.size + 2) _ _ _ _ _ _ _ := r7
        refine wp_region_order [(0, true), (1, true), (2, true), (3, true), (4, true), (5, false), (6, true)] (fun w' => w'.cell? ⟨w.heap.size, 0, none⟩ = some (.int .i64 t.stage) ∧ w'.cell? ⟨w.heap.size, 1, none⟩ = some (.int .i64 t.limit) ∧ w'.cell? ⟨w.heap.size, 2, none⟩ = some (.int .i64 t.rd) ∧ w'.cell? ⟨w.heap.size, 3, none⟩ = some (.int .i64 t.wr) ∧ w'.cell? ⟨w.heap.size, 4, none⟩ = some (.slice ra t.s.length rc) ∧ w'.cell? ⟨w.heap.size, 5, none⟩ = some (.int .i64 t.r) ∧ w'.cell? ⟨w.heap.size, 6, none⟩ = some (.int .i64 t.w)) (by kernel_rfl) (by kernel_rfl) ⟨cell_of rD, cell_of rD, cell_of rD, cell_of rD, cell_of rD, cell_of rD, cell_of rD⟩ ?_
        intro OPS HOPS
        have hops := HOPS.out
        try simp only [List.append_eq, List.cons_append, List.nil_append] at hops
        replace HOPS := Lib.hid hops
        clear hops
        refine walkO_take (o := _) (v := ?_) (by rw [HOPS.out]; simp only [List.getElem?_toArray, List.getElem?_cons_succ, List.getElem?_cons_zero]; exact rfl) (Or.inl ⟨rfl, ?_⟩) ?_
        rotate_left
        · (intro w hSw; (try dsimp only at hSw); go_simp) <;> (with_reducible rfl)
        simp only [Act.put, List.setIfInBounds_toArray, List.set_cons_zero, List.set_cons_succ]
        refine walkO_take (o := _) (v := ?_) (by rw [HOPS.out]; simp only [List.getElem?_toArray, List.getElem?_cons_succ, List.getElem?_cons_zero]; exact rfl) (Or.inl ⟨rfl, ?_⟩) ?_
        rotate_left
        · (intro w hSw; (try dsimp only at hSw); go_simp) <;> (with_reducible rfl)
        simp only [Act.put, List.setIfInBounds_toArray, List.set_cons_zero, List.set_cons_succ]
        refine walkO_take (o := _) (v := ?_) (by rw [HOPS.out]; simp only [List.getElem?_toArray, List.getElem?_cons_succ, List.getElem?_cons_zero]; exact rfl) (Or.inl ⟨rfl, ?_⟩) ?_
        rotate_left
        · (intro w hSw; (try dsimp only at hSw); go_simp) <;> (with_reducible rfl)
        simp only [Act.put, List.setIfInBounds_toArray, List.set_cons_zero, List.set_cons_succ]
        refine walkO_take (o := _) (v := ?_) (by rw [HOPS.out]; simp only [List.getElem?_toArray, List.getElem?_cons_succ, List.getElem?_cons_zero]; exact rfl) (Or.inl ⟨rfl, ?_⟩) ?_
        rotate_left
        · (intro w hSw; (try dsimp only at hSw); go_simp) <;> (with_reducible rfl)
        simp only [Act.put, List.setIfInBounds_toArray, List.set_cons_zero, List.set_cons_succ]
        refine walkO_take (o := _) (v := ?_) (by rw [HOPS.out]; simp only [List.getElem?_toArray, List.getElem?_cons_succ, List.getElem?_cons_zero]; exact rfl) (Or.inl ⟨rfl, ?_⟩) ?_
        rotate_left
        · (intro w hSw; (try dsimp only at hSw); go_simp) <;> (with_reducible rfl)
        simp only [Act.put, List.setIfInBounds_toArray, List.set_cons_zero, List.set_cons_succ]
        refine walkO_call (o := _) (by rw [HOPS.out]; simp only [List.getElem?_toArray, List.getElem?_cons_succ, List.getElem?_cons_zero]; exact rfl) (fun K HK => ?_)
        refine step_store7 (p := .tmp 7) (x := .tmp 85) r7D rfl rfl rfl rfl rfl ?_
        have fs : Fr [w.heap.size + 2] w5.drew _ := seven_fr (w := w5.drew) (b := w.heap.size + 2) (u0 := (.int .i64 t.stage)) (u1 := (.int .i64 t.limit)) (u2 := (.int .i64 t.rd)) (u3 := (.int .i64 t.wr)) (u4 := (.slice ra t.s.length rc)) (u5 := (.int .i64 t.r)) (u6 := (.int .i64 t.w))
        have rE := fs.keep rD (by simp)
        refine HK.out (fun w' => w'.cell? ⟨w.heap.size, 0, none⟩ = some (.int .i64 t.stage) ∧ w'.cell? ⟨w.heap.size, 1, none⟩ = some (.int .i64 t.limit) ∧ w'.cell? ⟨w.heap.size, 2, none⟩ = some (.int .i64 t.rd) ∧ w'.cell? ⟨w.heap.size, 3, none⟩ = some (.int .i64 t.wr) ∧ w'.cell? ⟨w.heap.size, 4, none⟩ = some (.slice ra t.s.length rc) ∧ w'.cell? ⟨w.heap.size, 5, none⟩ = some (.int .i64 t.r) ∧ w'.cell? ⟨w.heap.size, 6, none⟩ = some (.int .i64 t.w)) _ _ (fun _ h => h) ⟨cell_of rE, cell_of rE, cell_of rE, cell_of rE, cell_of rE, cell_of rE, cell_of rE⟩ ?_
        clear HK K rE
        try simp only [Act.put, List.setIfInBounds_toArray, List.set_cons_zero, List.set_cons_succ]
        refine walkO_take (o := _) (v := ?_) (by rw [HOPS.out]; simp only [List.getElem?_toArray, List.getElem?_cons_succ, List.getElem?_cons_zero]; exact rfl) (Or.inl ⟨rfl, ?_⟩) ?_
        rotate_left
        · (intro w hSw; (try dsimp only at hSw); go_simp) <;> (with_reducible rfl)
        simp only [Act.put, List.setIfInBounds_toArray, List.set_cons_zero, List.set_cons_succ]
        refine walkO_done ?_
        clear HOPS OPS
        obtain ⟨wf, hwf, Ff, Rf⟩ : ∃ wf, (((((((w5.drew.setCell ⟨w.heap.size + 2, 0, none⟩ (.int .i64 t.stage)).setCell ⟨w.heap.size + 2, 1, none⟩ (.int .i64 t.limit)).setCell ⟨w.heap.size + 2, 2, none⟩ (.int .i64 t.rd)).setCell ⟨w.heap.size + 2, 3, none⟩ (.int .i64 t.wr)).setCell ⟨w.heap.size + 2, 4, none⟩ (.slice ra t.s.length rc)).setCell ⟨w.heap.size + 2, 5, none⟩ (.int .i64 t.r)).setCell ⟨w.heap.size + 2, 6, none⟩ (.int .i64 t.w)) = wf ∧ Fr [w.heap.size + 2] w5.drew wf ∧ RB wf (w.heap.size + 2) (.int .i64 t.stage) (.int .i64 t.limit) (.int .i64 t.rd) (.int .i64 t.wr) (.slice ra t.s.length rc) (.int .i64 t.r) (.int .i64 t.w) := ⟨_, rfl, seven_fr, seven_set r7D⟩
        rw [hwf]
        obtain ⟨z0, z1, z2, z3, z4, z5, z6, _⟩ := Rf.cells
        have FD : Fr [] w5 w5.drew := (Fr.refl _ _).drew
        have GF := Lib.hid ((G5.out.then0 FD).trans Ff (fun _ h => .inl h) (fun x hx => .inr (by simp at hx; omega)))
        have TF := Lib.hid ((H5.out.keep0 FD).keep Ff (by simp; omega) (fun x hx hn => by simp at hx; rcases hn.1 with h | h <;> omega))
        have UF := Lib.hid ((V5.out.keep FD (by simp)).keep Ff (fun x hx hn => by simp at hx; have := hn.2; omega))
        clear hwf fs r7 r4 rD r7D H5 V5 G5 FD Ff Rf
        go_wp2_with fail
        refine bodyPost_ret (v := .tuple #[.pointer (some ⟨W0.heap.size, 0, none⟩), .agg #[.int .i64 t.stage, .int .i64 t.limit, .int .i64 t.rd, .int .i64 t.wr, .slice ra t.s.length rc, .int .i64 t.r, .int .i64 t.w], .bool true]) (by simp [results, Try.results24, go_sem, z0, z1, z2, z3, z4, z5, z6]) rfl ?_
        exact ⟨W0.heap.size, _, rfl, GF.out, ⟨_, TF.out, fun x hx hn => hn.1.elim (·.1) (fun h => absurd h (by omega))⟩, ⟨_, UF.out, fun hn => by have := hn.2; omega, fun x hx hn => hn.1⟩, .inr (by omega)⟩
end Go.Proofs.Ytodpkdbcdbdjfaa
