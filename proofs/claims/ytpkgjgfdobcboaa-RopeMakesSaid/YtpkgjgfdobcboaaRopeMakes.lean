/-
  Law 5: RopeMakes.
-/
import Derived.Test.YtpkgjgfdobcboaaRopeTakes
namespace Go.Proofs.Ytpkgjgfdobcboaa
open Go.RowKit Go.Shelf
set_option maxRecDepth 100000

/-- A row of bytes that may be written. -/
structure BRow (w : World) (g n : Nat) : Prop where
  lt : g < w.heap.size
  c : ∀ j, j < n → ∃ z : Int, w.cell? ⟨g, j, none⟩ = some (.int .u8 z)
  f : ∀ j, j < n → w.frozen? ⟨g, j, none⟩ = false
theorem BRow.at_ {w : World} {g n : Nat} (h : BRow w g n) {j : Nat} (hj : j < n) : ∃ z : Int, w.cell? ⟨g, j, none⟩ = some (.int .u8 z) ∧ w.frozen? ⟨g, j, none⟩ = false := by
  obtain ⟨z, hz⟩ := h.c j hj
  exact ⟨z, hz, h.f j hj⟩
theorem BRow.keep {w w' : World} {g n : Nat} (h : BRow w g n) {S : List Nat} (f : Fr S w w') (hn : g ∉ S) : BRow w' g n := by
  have hb := f.block g h.lt hn
  refine ⟨Nat.lt_of_lt_of_le h.lt f.size, fun j hj => ?_, fun j hj => ?_⟩
  · obtain ⟨z, hz⟩ := h.c j hj
    exact ⟨z, (World.cell?_of_block (w := w) hb).trans hz⟩
  · have := h.f j hj
    simp only [World.frozen?] at this ⊢
    rw [hb]
    exact this
theorem BRow.set {w : World} {g n : Nat} (h : BRow w g n) (b q : Nat) (z : Int) : BRow (w.setCell ⟨b, q, none⟩ (.int .u8 z)) g n := by
  refine ⟨by simpa [World.setCell] using h.lt, fun j hj => ?_, fun j hj => (World.frozen?_setCell _ _ _ _).trans (h.f j hj)⟩
  obtain ⟨y, hy⟩ := h.c j hj
  by_cases e : (⟨b, q, none⟩ : Addr) = ⟨g, j, none⟩
  · injection e with e1 e2
    subst e1 e2
    exact ⟨z, World.cell?_setCell_same _ _ _ hy⟩
  · exact ⟨y, (World.cell?_setCell_other _ _ _ _ e).trans hy⟩
theorem BRow.bytesWorld (w : World) (p : List UInt8) : BRow (Lib.bytesWorld w 5 (st p)) w.heap.size p.length := by
  have hz : p.length = (st p).size := (st_size p).symm
  refine ⟨by rw [Lib.bytesWorld_size]; omega, fun j hj => ⟨_, Lib.bytesWorld_cell w 5 (st p) j (by omega)⟩, fun j hj => ?_⟩
  have hsz : p.length ≤ (Lib.bytesCells w 5 (st p)).size := by
    unfold Lib.bytesCells
    simp
    omega
  simp [World.frozen?, Lib.bytesWorld_at_new]
  omega
/-- Each element of a slice of slices is a row of its own, in new memory. -/
def LR (w : World) (M : Nat) (v : Value) (vs : List Value) : Prop := ∀ (i : Nat) (u : Value), vs[i]? = some u → ∃ g n c, u = .slice (some ⟨g, 0, none⟩) n c ∧ M ≤ g ∧ v.ownBlock ≠ some g ∧ BRow w g n
theorem LR.push {wr w2 w3 : World} {M : Nat} {v v' : Value} {vs : List Value} {g n c : Nat} (h : LR wr M v vs) (f2 : Fr [] wr w2) (f3 : Fr v.ownBlock.toList w2 w3) (hb : v'.ownBlock = v.ownBlock ∨ v'.ownBlock = some w2.heap.size)
    (hg : BRow w2 g n) (hg1 : wr.heap.size ≤ g) (hM : M ≤ wr.heap.size) (hv : ∀ k, v.ownBlock = some k → k < wr.heap.size) : LR w3 M v' (vs ++ [.slice (some ⟨g, 0, none⟩) n c]) := by
  have hs := f2.size
  have hgl := hg.lt
  intro i u hu
  rcases Nat.lt_or_ge i vs.length with hi | hi
  · rw [List.getElem?_append_left hi] at hu
    obtain ⟨g', n', c', rfl, h1, h2, h3⟩ := h i u hu
    have hl := h3.lt
    refine ⟨g', n', c', rfl, h1, ?_, (h3.keep f2 (by simp)).keep f3 (fun hm => h2 (by simpa using hm))⟩
    rcases hb with e | e
    · rw [e]; exact h2
    · rw [e]; intro e'; injection e' with e'; omega
  · rw [List.getElem?_append_right hi] at hu
    have hi0 : i - vs.length = 0 := by
      rcases Nat.eq_zero_or_pos (i - vs.length) with h | h
      · exact h
      · rw [List.getElem?_eq_none (by simp; omega)] at hu; cases hu
    rw [hi0] at hu
    simp only [List.getElem?_cons_zero, Option.some.injEq] at hu
    subst hu
    refine ⟨g, n, c, rfl, by omega, ?_, hg.keep f3 (fun hm => by have := hv g (by simpa using hm); omega)⟩
    rcases hb with e | e
    · rw [e]; intro e'; have := hv _ e'; omega
    · rw [e]; intro e'; injection e' with e'; omega

set_option maxHeartbeats 16000000 in
theorem ropeMakes_walk {w : World} {M0 : Nat} {a : Option Addr} {len cap : Nat} {P : Parts} (h : StrsAt w M0 a len cap P) :
    Calls Try.prog 8 #[.slice a len cap] w fun e w' => e = .returned (.bool true) ∧ Fr [] w w' := by
  have hlen := h.len_eq
  subst hlen
  have HS1 := small05 h
  by_cases s1 : small5 P = true
  rotate_left
  · rw [show small5 P = false from by simpa using s1] at HS1
    replace HS1 := Lib.hid HS1
    clear h s1
    go_enter Try.func8, Try.ntmps8
    go_wp2_with fail
    refine HS1.out.mono ?_
    rintro e w' ⟨rfl, rfl⟩
    go_wp2_with fail
    refine (known05 _).mono ?_
    rintro e w' ⟨rfl, f⟩
    go_wp2_with fail
    go_ret
    exact ⟨rfl, f⟩
  rw [s1] at HS1
  replace HS1 := Lib.hid HS1
  have hp := small5_of s1
  have HX := Lib.hid (small5_parts s1)
  have hpl := hp.1
  have hpi : (P.length : Int) ≤ 1100 := by omega
  have HN := Lib.hid fun (w1 : World) (f : Fr [] w w1) => (ref5_new (cap := cap) (show SlV w1 _ (sv P) from h.sl.keep f (by simp)) rfl (by omega) (by omega)).mono fun e w2 hr => hr.u
  have HNW := Lib.hid fun (w1 : World) (N : Nat → Prop) (a : Option Addr) (c : Nat) (hpa : PartsAt w1 N a P) (hm : P.length ≤ maxLen) => rope_newU (cap := c) hpa rfl hm
  have HSL := Lib.hid h.sl
  have hxl := (newP_len P).1
  unfold RefU at HN
  unfold NewU at HNW
  generalize newP P = X at *
  generalize newE P = er at *
  have HU : Hid (Try.prog.underlying 63 = some (.slice 29)) := Lib.hid Try.underlying63
  have HIN : Hid ((Try.prog.info? 29).map (fun i => (i.zero, i.size, i.bytes)) = some (some (.slice none 0 0), 1, 24)) := Lib.hid (by kernel_rfl)
  clear h hp s1
  go_enter Try.func8, Try.ntmps8
  go_wp2_with fail
  refine HS1.out.mono ?_
  rintro e w' ⟨rfl, rfl⟩
  clear HS1
  go_wp2_with fail
  go_loopw [3, 23] (fun v i wr => ∃ (k : Nat) (vs : List Value), k ≤ P.length ∧ i = .int .i64 k ∧ Gat wr w.heap.size v vs (P.take k) ∧ LR wr w.heap.size v vs ∧ Fr [] w wr) (fun _ i _ => P.length - (intOf i).toNat)
  case atStart => exact ⟨0, [], by omega, rfl, Gat.nil _ _, fun i u h => by simp at h, Fr.refl _ _⟩
  case round =>
    obtain ⟨k, vs, hk, rfl, gt, lr, g⟩ := hrel
    by_cases hlt : (k : Int) < P.length
    · clear HN HNW
      as_aux_lemma =>
        have hlt' : k < P.length := by omega
        have hsw := HSL.out.keep g (by simp)
        obtain ⟨b, o, rfl, hbl, hc⟩ := hsw (by simp; omega)
        have hcell : wr.cell? ⟨b, o + k, none⟩ = some (.string (st P[k])) := by
          rw [hc k (by simpa using hlt'), List.getElem?_map, List.getElem?_eq_getElem hlt']
          rfl
        have hx := HX.out P[k] (List.getElem_mem hlt')
        have hnext : P.take (k + 1) = P.take k ++ [P[k]] := List.take_succ_eq_append_getElem hlt'
        obtain ⟨ga, gc, rfl, _, _, _⟩ := gt.parts
        have hvl := gt.2.1
        have hcv := Lib.run_convert_string_bytes (P := Try.prog) wr 9 29 5 (st P[k]) Try.underlying9 Try.underlying29 Try.underlying5
        rw [st_size] at hcv
        generalize P[k] = p at *
        generalize hQ : P.take k = Q at *
        have hql : Q.length ≤ 100000 := by rw [← hQ, List.length_take]; omega
        have f1 : Fr [] wr (Lib.bytesWorld wr 5 (st p)) := Fr.bytesWorld wr 5 ⟨p.toArray⟩
        have s1 : Sl (Lib.bytesWorld wr 5 (st p)) (some ⟨wr.heap.size, 0, none⟩) (bi p) := Sl.bytesWorld wr 5 p
        have rw1 : BRow (Lib.bytesWorld wr 5 (st p)) wr.heap.size p.length := BRow.bytesWorld wr p
        have hg : p.length ≤ grownCap wr p.length 0 5 := grownCap_ge _ _ _ _
        have hgm : grownCap wr p.length 0 5 ≤ maxLen := grownCap_le_maxLen _ _ _ _ (by unfold maxLen; omega)
        have sz : (Lib.bytesWorld wr 5 (st p)).heap.size = wr.heap.size + 1 := Lib.bytesWorld_size _ _ _
        generalize Lib.bytesWorld wr 5 (st p) = w1 at *
        generalize grownCap wr p.length 0 5 = C at *
        have pv : PartV w1 (fun b => wr.heap.size ≤ b ∧ b < w1.heap.size) (.slice (some ⟨wr.heap.size, 0, none⟩) p.length C) p := ⟨_, _, rfl, hg, hgm, s1, fun b o _ e => by injection e with e; injection e with e1; omega⟩
        have SZ := Lib.hid sz
        have HNX := Lib.hid hnext
        have gt1 := gt.keep f1 (by simp)
        have HG := Lib.hid (gt1.keep ((Fr.refl [] w1).alloc (.cells #[.slice (some ⟨wr.heap.size, 0, none⟩) p.length C] 29)) (by simp)).1
        have hWs : w.heap.size ≤ (w1.alloc (.cells #[.slice (some ⟨wr.heap.size, 0, none⟩) p.length C] 29)).heap.size := by have := g.size; simp; omega
        have H3 : Hid (vs.length + 1 ≤ maxLen) := Lib.hid (by unfold maxLen; omega)
        have H4 : Hid ((vs.length + 1) * 24 ≤ 140737488355328) := Lib.hid (by omega)
        have hown : ∀ k, (Value.slice ga Q.length gc).ownBlock = some k → w.heap.size ≤ k ∧ k < wr.heap.size := fun k e => gt.1.lt k e
        have HOWN := Lib.hid hown
        clear hnext hQ sz hc hsw s1 hown hvl
        go_wp2_with (refine wpList_append_fr _ rfl (.tmp 27) (.tmp 30) 63 rfl 29 (.slice none 0 0) 24 HU.out HIN.out rfl w.heap.size (.slice ga Q.length gc) vs (by exact rfl) HG.out (some ⟨w1.heap.size, 0, none⟩) 1 1 [.slice (some ⟨wr.heap.size, 0, none⟩) p.length C] (by exact rfl) rfl (SlV.box _ _ _) (one_slice _ _ _) H3.out H4.out hWs ?_)
        intro v' w3 o3 f3 hb
        have gt3 := gt.push (f1.alloc _) f3 (by simpa using hb) o3.out ((pv.keep ((Fr.refl [] w1).alloc _) (by simp)).mono (fun x hx => ⟨hx.1, by simp; omega⟩)) g.size
        have lr3 := lr.push (c := C) (f1.alloc (.cells #[.slice (some ⟨wr.heap.size, 0, none⟩) p.length C] 29)) f3 (by simpa using hb) (rw1.keep ((Fr.refl [] w1).alloc _) (by simp)) (Nat.le_refl _) g.size (fun k e => (HOWN.out k e).2)
        have g3 : Fr [] w w3 := ((g.then0 f1).alloc _).own f3 (fun k e => .inr (HOWN.out k e).1)
        clear o3 f3 hb gt1 pv HG hWs hcv gt lr rw1
        go_wp2_with fail
        go_roundw
        case rel => exact ⟨k + 1, _, by omega, by go_num, by rw [HNX.out]; exact gt3, lr3, g3⟩
        case measure => simp [intOf]; omega
    · have hkk : P.take k = P := List.take_of_length_le (by omega)
      rw [hkk] at gt
      clear hkk HSL
      obtain ⟨ga, gc, rfl, hgc, hgm, hpa⟩ := gt.parts
      have HNW' := Lib.hid (HNW.out _ _ _ gc hpa (Nat.le_trans hgc hgm))
      clear HNW hpa
      obtain ⟨S, hS⟩ : ∃ S : List Nat, ∀ x, x ∈ S ↔ (w.heap.size ≤ x ∧ x < wr.heap.size ∧ (Value.slice ga P.length gc).ownBlock ≠ some x) :=
        ⟨(List.range wr.heap.size).filter (fun x => decide (w.heap.size ≤ x) && decide ((Value.slice ga P.length gc).ownBlock ≠ some x)), fun x => by
          simp only [List.mem_filter, List.mem_range, Bool.and_eq_true, decide_eq_true_iff]
          exact ⟨fun ⟨h1, h2, h3⟩ => ⟨h2, h1, h3⟩, fun ⟨h1, h2, h3⟩ => ⟨h2, h1, h3⟩⟩⟩
      have HS := Lib.hid hS
      have HLR := Lib.hid lr
      have HGT := Lib.hid gt
      have HOW : Hid (∀ x, x ∈ S → w.heap.size ≤ x) := Lib.hid fun x hx => ((hS x).1 hx).1
      obtain ⟨M, hM⟩ : ∃ M, wr.heap.size = M := ⟨_, rfl⟩
      have HSM : Hid (∀ x, x ∈ S → x < M) := Lib.hid fun x hx => by rw [← hM]; exact ((hS x).1 hx).2.1
      have hMw : w.heap.size ≤ M := by rw [← hM]; exact g.size
      clear hS lr gt hgc hgm
      have g0 := g
      go_wp2_with fail
      refine HNW'.out.mono ?_
      rintro e w1 ⟨f, v, rfl, hr⟩
      clear HNW'
      rw [hM] at hr
      have gr0 : Fr [] wr w1 := f
      have g1 : Fr [] w w1 := g0.then0 f
      clear g0 f
      obtain ⟨a1, n1, c1, t1, rfl⟩ := hr.form
      have hz1 : M ≤ w1.heap.size := by rw [← hM]; exact gr0.size
      go_wp2_with fail
      obtain ⟨w2, B1, hW, hB, hD, f, H1⟩ := Bd.new1 hr
      rw [← hW, ← hB]
      try rw [hD]
      have lB1 : M ≤ B1 := by omega
      clear hW hB hr
      have g2 : Fr [] w w2 := g1.then0 f
      have gr2 : Fr [] wr w2 := gr0.then0 f
      clear g1 gr0 f
      have x1 := H1.out.c0
      have y1 := H1.out.c1
      have z1 := H1.out.lt
      go_wp2_with fail
      refine (HN.out _ g2).mono ?_
      rintro e w3 ⟨f, v, rfl, hr⟩
      clear HN
      replace hr := hr.mono (N' := fun x => M ≤ x) (fun x hx => by have := gr2.size; omega)
      have g3 : Fr [] w w3 := g2.then0 f
      have gr3 : Fr [] wr w3 := gr2.then0 f
      replace H1 := Lib.hid (H1.out.keep f (by simp) (by simp))
      replace x1 := H1.out.c0
      replace y1 := H1.out.c1
      replace z1 := H1.out.lt
      clear g2 gr2 f
      obtain ⟨a2, n2, c2, rfl⟩ := hr.form
      have hz3 : M ≤ w3.heap.size := by rw [← hM]; exact gr3.size
      go_wp2_with fail
      obtain ⟨w4, B2, hW, hB, hD, f, H2⟩ := Rd.new1 hr
      rw [← hW, ← hB]
      try rw [hD]
      have lB2 : M ≤ B2 := by omega
      have nB : B1 ≠ B2 := by omega
      clear hW hB hr
      have g4 : Fr [] w w4 := g3.then0 f
      have gr4 : Fr [] wr w4 := gr3.then0 f
      replace H1 := Lib.hid (H1.out.keep f (by simp) (by simp))
      replace x1 := H1.out.c0
      replace y1 := H1.out.c1
      replace z1 := H1.out.lt
      clear g3 gr3 f
      have x2 := H2.out.c0
      have z2 := H2.out.lt
      have HR4 := Lib.hid gr4
      clear gr4
      go_wp2_with fail
      go_loopw [45] (fun i wq => ∃ k : Nat, k ≤ P.length ∧ i = .int .i64 k ∧ Fr S w4 wq ∧ Hid (∀ (i : Nat) (g n c : Nat), (vs)[i]? = some (.slice (some ⟨g, 0, none⟩) n c) → BRow wq g n)) (fun i _ => P.length - (intOf i).toNat)
      case atStart => exact ⟨0, by omega, rfl, Fr.refl _ _, Lib.hid fun i g n c hi => by obtain ⟨g', n', c', e, h1, h2, h3⟩ := HLR.out i _ hi; injection e with e1 e2 e3; injection e1 with e1; injection e1 with e1; subst e1 e2; exact h3.keep HR4.out (by simp)⟩
      case round =>
        obtain ⟨k, hk, rfl, gs, HB⟩ := hrel
        rename World => wq
        by_cases hlt : (k : Int) < P.length
        · clear x1 y1 z1 x2 z2 H1 H2 g4
          as_aux_lemma =>
            have hlt' : k < P.length := by omega
            obtain ⟨u, hu, pa, pc, rfl, hu1, hu2, _, _⟩ := HGT.out.2.2 k P[k] (List.getElem?_eq_getElem hlt')
            obtain ⟨b, n, c, e, hb1, hb2, hb3⟩ := HLR.out k _ hu
            injection e with e1 e2 e3
            subst e1 e2 e3
            have hpk := HX.out P[k] (List.getElem_mem hlt')
            generalize P[k].length = n at *
            have hbS : b ∈ S := (HS.out b).2 ⟨hb1, hb3.lt, hb2⟩
            have how := ((HGT.out.1.keep HR4.out (by simp)).keep gs (fun q hq hm => by
              have := (HS.out q).1 hm
              exact this.2.2 hq))
            obtain ⟨g', c', hv, _, _, _, _, hcell, _⟩ := how.row (by have := HGT.out.2.1; omega)
            injection hv with e1 e2 e3
            subst e1
            have hce := (hcell k (by have := HGT.out.2.1; omega)).trans hu
            have hni : (n : Int) ≤ 1000000 := by omega
            have hb0 : BRow wq b n := HB.out k _ _ _ hu
            clear hu hcell hu1 hu2 hb1 hb2 hb3 how
            go_wp2_with fail
            go_loopw [51] (fun j wq2 => ∃ q : Nat, q ≤ n ∧ j = .int .i64 q ∧ Fr S w4 wq2 ∧ Hid (∀ (i : Nat) (g n c : Nat), vs[i]? = some (.slice (some ⟨g, 0, none⟩) n c) → BRow wq2 g n) ∧ BRow wq2 b n) (fun j _ => n - (intOf j).toNat)
            case atStart => exact ⟨0, by omega, rfl, gs, HB, hb0⟩
            case round =>
              obtain ⟨q, hq, rfl, gq, HQ, hbq⟩ := hrel
              rename World => wr2
              by_cases hlq : (q : Int) < n
              · obtain ⟨z, hz, hfz⟩ := hbq.at_ (show q < n by omega)
                have gq2 := Lib.hid (gq.setCell (p := ⟨b, q, none⟩) (.inl hbS) (.int .u8 ((z + 1) % 256)))
                have HQ2 : Hid (∀ (i : Nat) (g n c : Nat), vs[i]? = some (.slice (some ⟨g, 0, none⟩) n c) → BRow (wr2.setCell ⟨b, q, none⟩ (.int .u8 ((z + 1) % 256))) g n) := Lib.hid fun i g n c hi => (HQ.out i g n c hi).set b q _
                have hbq2 := Lib.hid (hbq.set b q ((z + 1) % 256))
                clear gq HQ hbq
                go_wp2_with fail
                go_roundw
                case rel => exact ⟨q + 1, by omega, by go_num, gq2.out, HQ2, hbq2.out⟩
                case measure => simp [intOf]; omega
              · go_wp2_with fail
                go_roundw
                case rel => exact ⟨_, _, _, ⟨k + 1, by have := HGT.out.2.1; omega, rfl⟩, rfl, rfl, by go_num⟩
                case measure => simp [intOf]; omega
        · have fS : Fr S w4 wq := gs
          have nS : ∀ x, M ≤ x → x ∉ S := fun x hx hm => by have := HSM.out x hm; omega
          have g5 : Fr [] w wq := g4.trans fS (by simp) (fun x hx => .inr (HOW.out x hx))
          replace H1 := Lib.hid (H1.out.keep fS (nS _ lB1) (fun x hx hn => nS x hn hx))
          replace H2 := Lib.hid (H2.out.keep fS (nS _ lB2) (fun x hx hn => nS x hn hx))
          clear g4 gs HB HLR HGT HS HOW HSM HX HR4 fS nS
          rename World => w5
          replace x1 := H1.out.c0
          replace y1 := H1.out.c1
          replace z1 := H1.out.lt
          replace x2 := H2.out.c0
          replace z2 := H2.out.lt
          go_wp2_with fail
          refine (parts_ok H1.out.r).mono ?_
          rintro e w6 ⟨v, rfl, f, hr⟩
          replace hr := hr.mono (N' := fun _ => True) (fun _ _ => trivial)
          have g6 : Fr [] w w6 := g5.then0 f
          clear g5
          replace H1 := Lib.hid (H1.out.keep f (by simp) (by simp))
          replace x1 := H1.out.c0
          replace y1 := H1.out.c1
          replace z1 := H1.out.lt
          replace H2 := Lib.hid (H2.out.keep f (by simp) (by simp))
          replace x2 := H2.out.c0
          replace z2 := H2.out.lt
          clear f
          obtain ⟨a3, n3, c3, rfl⟩ := hr.form
          go_wp2_with fail
          obtain ⟨w7, B3, hW, hB, hD, f, H3⟩ := Rd.new1 hr
          rw [← hW, ← hB]
          try rw [hD]
          clear hW hB hD hr
          have g7 : Fr [] w w7 := g6.then0 f
          clear g6
          replace H1 := Lib.hid (H1.out.keep f (by simp) (by simp))
          replace x1 := H1.out.c0
          replace y1 := H1.out.c1
          replace z1 := H1.out.lt
          replace H2 := Lib.hid (H2.out.keep f (by simp) (by simp))
          replace x2 := H2.out.c0
          replace z2 := H2.out.lt
          clear f
          have x3 := H3.out.c0
          have z3 := H3.out.lt
          go_wp2_with fail
          refine (parts_ok H1.out.r).mono ?_
          rintro e w8 ⟨v, rfl, f, hr⟩
          replace hr := hr.mono (N' := fun _ => True) (fun _ _ => trivial)
          have g8 : Fr [] w w8 := g7.then0 f
          clear g7
          replace H1 := Lib.hid (H1.out.keep f (by simp) (by simp))
          replace x1 := H1.out.c0
          replace y1 := H1.out.c1
          replace z1 := H1.out.lt
          replace H2 := Lib.hid (H2.out.keep f (by simp) (by simp))
          replace x2 := H2.out.c0
          replace z2 := H2.out.lt
          replace H3 := Lib.hid (H3.out.keep f (by simp) (by simp))
          replace x3 := H3.out.c0
          replace z3 := H3.out.lt
          clear f
          obtain ⟨a4, n4, c4, rfl⟩ := hr.form
          go_wp2_with fail
          obtain ⟨w9, B4, hW, hB, hD, f, H4⟩ := Rd.new1 hr
          rw [← hW, ← hB]
          try rw [hD]
          clear hW hB hD hr
          have g9 : Fr [] w w9 := g8.then0 f
          clear g8
          replace H1 := Lib.hid (H1.out.keep f (by simp) (by simp))
          replace x1 := H1.out.c0
          replace y1 := H1.out.c1
          replace z1 := H1.out.lt
          replace H2 := Lib.hid (H2.out.keep f (by simp) (by simp))
          replace x2 := H2.out.c0
          replace z2 := H2.out.lt
          replace H3 := Lib.hid (H3.out.keep f (by simp) (by simp))
          replace x3 := H3.out.c0
          replace z3 := H3.out.lt
          clear f
          have x4 := H4.out.c0
          have z4 := H4.out.lt
          go_wp2_with fail
          refine (same05y H3.out.r H2.out.r (by omega)).mono ?_
          rintro e w10 ⟨rfl, f⟩
          have g10 : Fr [] w w10 := g9.then0 f
          clear g9
          replace H1 := Lib.hid (H1.out.keep f (by simp) (by simp))
          replace x1 := H1.out.c0
          replace y1 := H1.out.c1
          replace z1 := H1.out.lt
          replace H2 := Lib.hid (H2.out.keep f (by simp) (by simp))
          replace x2 := H2.out.c0
          replace z2 := H2.out.lt
          replace H3 := Lib.hid (H3.out.keep f (by simp) (by simp))
          replace x3 := H3.out.c0
          replace z3 := H3.out.lt
          replace H4 := Lib.hid (H4.out.keep f (by simp) (by simp))
          replace x4 := H4.out.c0
          replace z4 := H4.out.lt
          clear f
          clear x3 z3
          clear H3
          go_wp2_with fail
          refine (same05y H4.out.r H2.out.r (by omega)).mono ?_
          rintro e w11 ⟨rfl, f⟩
          have g11 : Fr [] w w11 := g10.then0 f
          clear g10
          replace H1 := Lib.hid (H1.out.keep f (by simp) (by simp))
          replace x1 := H1.out.c0
          replace y1 := H1.out.c1
          replace z1 := H1.out.lt
          replace H2 := Lib.hid (H2.out.keep f (by simp) (by simp))
          replace x2 := H2.out.c0
          replace z2 := H2.out.lt
          replace H4 := Lib.hid (H4.out.keep f (by simp) (by simp))
          replace x4 := H4.out.c0
          replace z4 := H4.out.lt
          clear f
          clear x4 z4
          clear H4
          go_wp2_with fail
          refine (known05 _).mono ?_
          rintro e w' ⟨rfl, f⟩
          go_wp2_with fail
          go_ret
          exact ⟨rfl, g11.then0 f⟩
end Go.Proofs.Ytpkgjgfdobcboaa
