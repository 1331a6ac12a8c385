/-
  RingPlays: the results of any calls, and the number of bytes and the room after each of them, are the reference's.
-/
import Derived.Test.YtpkgjgfdobcboaaRing04Any
import Derived.Deep.CutBlock
import Derived.Deep.QuietTactic
import Derived.BigQuiet
namespace Go.Proofs.Ytpkgjgfdobcboaa
open Go.RowKit
set_option maxRecDepth 100000

/-- What holds between two calls. -/
structure P4 (w wr : World) (X R D c : Nat) (v : Value) (s : List UInt8) (a : Option Addr) (cap : Nat) (A : List A04) : Prop where
  rg : Rg wr R D c (bi s)
  own : Ow wr w.heap.size 5 v ((bi s).map (Value.int .u8))
  vX : v.ownBlock ≠ some X
  vR : v.ownBlock ≠ some R
  vD : v.ownBlock ≠ some D
  xr : X ≠ R
  xd : X ≠ D
  old : w.heap.size ≤ X ∧ w.heap.size ≤ R ∧ w.heap.size ≤ D
  cell : wr.heap[X]? = some (.cells #[.int .i64 c, v] 43 (0, 0))
  fr : Fr [] w wr
  acts : Acts04 wr w.heap.size a A.length cap A
variable {w wr w' : World} {X R D c : Nat} {v : Value} {s : List UInt8} {a : Option Addr} {cap : Nat} {A : List A04}
theorem P4.keep0 (h : P4 w wr X R D c v s a cap A) (f : Fr [] wr w') : P4 w w' X R D c v s a cap A :=
  ⟨h.rg.keep f (by simp) (by simp), h.own.keep f (by simp), h.vX, h.vR, h.vD, h.xr, h.xd, h.old, f.keep h.cell (by simp), h.fr.then0 f, h.acts.keep f h.fr.size (by simp)⟩
/-- The buffer has changed. -/
theorem P4.ring (h : P4 w wr X R D c v s a cap A) (f : Fr [R, D] wr w') {s' : List UInt8} (hr : Rg w' R D c (bi s')) :
    Rg w' R D c (bi s') ∧ Ow w' w.heap.size 5 v ((bi s).map (Value.int .u8)) ∧ w'.heap[X]? = some (.cells #[.int .i64 c, v] 43 (0, 0)) ∧ Fr [] w w' ∧ Acts04 w' w.heap.size a A.length cap A :=
  ⟨hr, h.own.keep f (fun k e hm => by simp at hm; rcases hm with rfl | rfl; exact h.vR e; exact h.vD e), f.keep h.cell (by simp; exact ⟨h.xr, h.xd⟩), h.fr.trans f (by simp) (by have := h.old; simp; omega), h.acts.keep f h.fr.size (by have := h.old; simp; omega)⟩
/-- A store into the reference's variable. -/
theorem P4.store (h : Rg wr R D c (bi s)) {u : Value} (ho : Ow wr w.heap.size 5 u ((bi s).map (Value.int .u8))) (uX : u.ownBlock ≠ some X) (uR : u.ownBlock ≠ some R) (uD : u.ownBlock ≠ some D) (xr : X ≠ R) (xd : X ≠ D) (old : w.heap.size ≤ X ∧ w.heap.size ≤ R ∧ w.heap.size ≤ D)
    (hx : wr.heap[X]? = some (.cells #[.int .i64 c, v] 43 (0, 0))) (f : Fr [] w wr) (ha : Acts04 wr w.heap.size a A.length cap A) :
    P4 w ((wr.setCell ⟨X, 0, none⟩ (.int .i64 c)).setCell ⟨X, 1, none⟩ u) X R D c u s a cap A := by
  have fx : Fr [X] wr ((wr.setCell ⟨X, 0, none⟩ (.int .i64 c)).setCell ⟨X, 1, none⟩ u) := ((Fr.refl _ _).setCell (.inl (by simp)) _).setCell (.inl (by simp)) _
  exact ⟨h.keep fx (by simpa using Ne.symm xr) (by simpa using Ne.symm xd), ho.keep fx (fun k e hm => by simp at hm; subst hm; exact uX e), uX, uR, uD, xr, xd, old, two_set hx, f.trans fx (by simp) (by simp; exact old.1), ha.keep fx f.size (by simp; exact old.1)⟩
theorem P4.lt (h : P4 w wr X R D c v s a cap A) : X < wr.heap.size ∧ R < wr.heap.size ∧ D < wr.heap.size ∧ s.length ≤ c ∧ c ≤ 4096 ∧ 1 ≤ c := by
  obtain ⟨h1, h2, h3, _, h5, h6⟩ := h.rg.len_le
  rw [bi_length] at h1
  exact ⟨lt_of_heap h.cell, h5, h6, h1, h2, h3⟩
/-- Behind changes in new memory. -/
theorem P4.keepN (h : P4 w wr X R D c v s a cap A) {S : List Nat} {M : Nat} (f : Fr S wr w') (hM : M ≤ wr.heap.size) (hS : ∀ x ∈ S, M ≤ x) (hX : X < M) (hR : R < M) (hD : D < M) (hv : ∀ k, v.ownBlock = some k → k ∉ S) (hwM : w.heap.size ≤ M) : P4 w w' X R D c v s a cap A :=
  ⟨h.rg.keep f (fun hm => by have := hS _ hm; omega) (fun hm => by have := hS _ hm; omega), h.own.keep f hv, h.vX, h.vR, h.vD, h.xr, h.xd, h.old, f.keep h.cell (fun hm => by have := hS _ hm; omega), h.fr.trans f (by simp) (fun x hx => .inr (by have := hS x hx; omega)), h.acts.keep f h.fr.size (fun x hx => by have := hS x hx; omega)⟩

set_option maxHeartbeats 16000000 in
theorem ringPlays_main (c : Nat) (w : World) (hA : Acts04 w w.heap.size a A.length cap A) (h60 : A.length ≤ 60) (h6 : ∀ x ∈ A, x.p.length ≤ 6000) (h1 : 1 ≤ c) (h2 : c ≤ 4096) :
    Calls Try.prog 6 #[.int .i64 c, .slice a A.length cap] w fun e w' => e = .returned (.bool true) ∧ Fr [] w w' := by
  have H6 := Lib.hid h6
  have i60 : (A.length : Int) ≤ 60 := by omega
  have ic1 : (1 : Int) ≤ c := by omega
  have ic2 : (c : Int) ≤ 4096 := by omega
  have HU : Hid (Try.prog.underlying 29 = some (.slice 5)) := Lib.hid Try.underlying29
  have HIN : Hid ((Try.prog.info? 5).map (fun i => (i.zero, i.size, i.bytes)) = some (some (.int .u8 0), 1, 1)) := Lib.hid (by kernel_rfl)
  clear h6
  go_enter Try.func6, Try.ntmps6
  go_wp2_with fail
  go_loop [5] (fun i => ∃ k : Nat, k ≤ A.length ∧ i = .int .i64 k) (fun i => A.length - (intOf i).toNat)
  case atStart => exact ⟨0, by omega, rfl⟩
  case round =>
    obtain ⟨k, hk, rfl⟩ := hrel
    by_cases hlt : (k : Int) < A.length
    · have hkA : k < A.length := by omega
      obtain ⟨ab, ao, pa, pl, pc, rfl, habB, hab, c0, c1, c2, c3, harg, _⟩ := hA.at_ k hkA
      have hp6 : (pl : Int) ≤ 6000 := by have := H6.out A[k] (List.getElem_mem hkA); have := harg.len_eq; omega
      clear c0 c1 c2 harg
      go_wp2_with fail
      go_round
      case rel => exact ⟨k + 1, by omega, by go_num⟩
      case measure => simp [intOf]; omega
    · clear hk
      go_wp2_with fail
      refine (rg_new c w h1 h2).mono ?_
      rintro e w1 ⟨rfl, f1, r1⟩
      go_wp2_with fail
      refine (ref4_new c w1 h1 h2).mono ?_
      rintro e w2 ⟨rfl, f2⟩
      have g2 := f1.then0 f2
      have hz1 := f1.size
      have hz2 := f2.size
      have hr1 := lt_of_heap (show w1.heap[w.heap.size + 1]? = _ from (r1.choose_spec.choose_spec.choose_spec.choose_spec.choose_spec).1)
      have fX : Fr [] w2 (w2.alloc (.cells #[.int .i64 c, .slice none 0 0] 43)) := (Fr.refl _ _).alloc _
      have p0 : P4 w (w2.alloc (.cells #[.int .i64 c, .slice none 0 0] 43)) w2.heap.size (w.heap.size + 1) w.heap.size c (.slice none 0 0) [] a cap A :=
        ⟨(r1.keep f2 (by simp) (by simp)).keep fX (by simp) (by simp), Ow.nil _ _ _, by simp [Value.ownBlock], by simp [Value.ownBlock], by simp [Value.ownBlock], by omega, by omega, ⟨by omega, by omega, by omega⟩, newA rfl, g2.then0 fX, (hA.keep g2 (Nat.le_refl _) (by simp)).keep fX g2.size (by simp)⟩
      clear f1 r1 f2 g2 fX hr1 hA
      go_wp2_with fail
      generalize hw0 : (w2.alloc (.cells #[.int .i64 c, .slice none 0 0] 43)) = w0 at *
      generalize hX : w2.heap.size = X at *
      clear hw0 hX
      go_loopw [6, 80] (fun vr i wr => ∃ (k R D : Nat) (v : Value) (s : List UInt8), k ≤ A.length ∧ i = .int .i64 k ∧ vr = .pointer (some ⟨R, 0, none⟩) ∧ P4 w wr X R D c v s a cap A) (fun _ i _ => A.length - (intOf i).toNat)
      case atStart => exact ⟨0, _, _, _, _, by omega, rfl, rfl, p0⟩
      case round =>
        clear p0 hlt hz1 hz2
        obtain ⟨k, R, D, v, s, hk, rfl, rfl, P⟩ := hrel
        by_cases hlt : (k : Int) < A.length
        · have hkA : k < A.length := by omega
          obtain ⟨ab, ao, pa, pl, pc, rfl, habB, hab, c0, c1, c2, c3, harg, hb0, hb1, hb2⟩ := P.acts.at_ k hkA
          have hp6 := H6.out A[k] (List.getElem_mem hkA)
          generalize A[k] = ak at *
          obtain ⟨what, off, most, p⟩ := ak
          dsimp only at c0 c1 c2 c3 harg hb0 hb1 hb2 hp6
          have hpl := harg.len_eq
          subst hpl
          have fb : Fr [] wr (wr.alloc (.cells #[.int .i64 what, .int .i64 off, .int .i64 most, .slice pa p.length pc] 41)) := (Fr.refl _ _).alloc _
          have hbx : (wr.alloc (.cells #[.int .i64 what, .int .i64 off, .int .i64 most, .slice pa p.length pc] 41)).heap[wr.heap.size]? = some (.cells #[.int .i64 what, .int .i64 off, .int .i64 most, .slice pa p.length pc] 41 (0, 0)) := newA rfl
          have P_b := P.keep0 fb
          have harg_b := harg.keep fb P.fr.size (by simp)
          have hlt0 := P.lt
          have hvl0 := fun k e => (P.own.lt k e).2
          obtain ⟨hlX, hlR, hlD, hsc, _, _⟩ := hlt0
          have hwsz := P.fr.size
          clear P harg fb
          generalize hwb : (wr.alloc (.cells #[.int .i64 what, .int .i64 off, .int .i64 most, .slice pa p.length pc] 41)) = wb at *
          obtain ⟨bx, hbxe⟩ : ∃ bx, wr.heap.size = bx := ⟨_, rfl⟩
          have x0 : wb.cell? ⟨wr.heap.size, 0, none⟩ = some (.int .i64 what) := cell_of hbx
          have x1 : wb.cell? ⟨wr.heap.size, 1, none⟩ = some (.int .i64 off) := cell_of hbx
          have x2 : wb.cell? ⟨wr.heap.size, 2, none⟩ = some (.int .i64 most) := cell_of hbx
          have x3 : wb.cell? ⟨wr.heap.size, 3, none⟩ = some (.slice pa p.length pc) := cell_of hbx
          clear hbxe bx
          have hzb : wr.heap.size < wb.heap.size := lt_of_heap hbx
          obtain ⟨va, vc, rfl, _⟩ := id P_b.own.formB
          have hvl : ∀ k, (Value.slice va s.length vc).ownBlock = some k → k < wr.heap.size := fun k e => hvl0 k e
          go_upto_block 4 with fail
          go_cut [6] (fun vr wx => ∃ (R D : Nat) (v : Value) (s : List UInt8), vr = .pointer (some ⟨R, 0, none⟩) ∧ P4 w wx X R D c v s (some ⟨ab, ao, none⟩) cap A)
          case first =>
            by_cases q0 : what = 0
            · as_aux_lemma =>
              subst q0
              have HAL : Hid (((bi p).map (Value.int .u8)).length = p.length) := Lib.hid (by rw [List.length_map, bi_length])
              have HONE : Hid (∀ u ∈ (bi p).map (Value.int .u8), u.oneCell' = true) := Lib.hid (bytes_one _)
              have HASL := Lib.hid harg_b.sl.toV
              have H3 : Hid (([] : List Value).length + p.length ≤ maxLen) := Lib.hid (by unfold maxLen; simp; omega)
              have H4 : Hid ((([] : List Value).length + p.length) * 1 ≤ 140737488355328) := Lib.hid (by simp; omega)
              go_wp2_with (refine wpList_append_fr _ rfl (.const (.slice none 0 0)) (.tmp 100) 29 rfl 5 (.int .u8 0) 1 HU.out HIN.out rfl wb.heap.size (.slice none 0 0) [] (by exact rfl) (Ow.nil _ _ _) pa p.length pc ((bi p).map (Value.int .u8)) (by exact rfl) HAL.out HASL.out HONE.out H3.out H4.out (Nat.le_refl _) ?_)
              intro v1 w3 o1 f3 _
              have ow1 := o1.out
              replace f3 : Fr [] wb w3 := f3
              have P3 := P_b.keep0 f3
              have bx3 := f3.keep hbx (by simp)
              have arg3 := harg_b.keep f3 P_b.fr.size (by simp)
              have hog := Lib.hid ow1.lt
              have hz3 := f3.size
              clear P_b harg_b f3 o1 x0 x1 x2 x3 hbx HASL HAL HONE H3 H4
              obtain ⟨ga, gc, rfl, hgc1, hgc2, hsl1, hsl1M⟩ := ow1.formB
              have hW := rg_write P3.rg (ps := bi p) (pa := ga) (plen := p.length) (pcap := gc) (by rw [bi_length]) hgc1 hsl1 (fun _ b o e => by have := hsl1M b o e; omega) (by omega)
              have hR4 := fun (w' : World) (o4 : Ow w' w.heap.size 5 (.slice va s.length vc) ((bi s).map (Value.int .u8))) (hM : w.heap.size ≤ w'.heap.size) (arg4 : Arg w' w.heap.size pa p.length pc p) => ref4_write_any o4 hM hsc h2 arg4.sl rfl arg4.le (by omega)
              rw [bi_length, ← bi_take, ← bi_append] at hW
              obtain ⟨n, hn⟩ : ∃ n, min p.length (c - s.length) = n := ⟨_, rfl⟩
              rw [hn] at hW hR4
              obtain ⟨S', hS'⟩ : ∃ S', s ++ p.take n = S' := ⟨_, rfl⟩
              rw [hS'] at hW hR4
              have HW := Lib.hid hW
              have HR4 := Lib.hid hR4
              clear hn hS' hW hR4 hsl1 hsl1M
              go_wp2_with fail
              refine HW.out.mono ?_
              rintro e w4 ⟨rfl, f4, r4'⟩
              obtain ⟨r4, o4, c4, g4, a4⟩ := P3.ring f4 r4'
              have bx4 := f4.keep bx3 (by simp; omega)
              have ow4 := ow1.keep f4 (fun k e hm => by have := (hog.out k e).1; simp at hm; omega)
              have arg4 := arg3.keep f4 P3.fr.size (by have := P3.old; simp; omega)
              have hz4 := f4.size
              have PV := Lib.hid (And.intro P3.vX (And.intro P3.vR (And.intro P3.vD (fun k (e : (Value.slice va s.length vc).ownBlock = some k) => (show k < wr.heap.size from hvl k e)))))
              have hO := Lib.hid (And.intro P3.xr (And.intro P3.xd P3.old))
              clear P3 f4 bx3 ow1 arg3 r4' HW
              obtain ⟨y0, y1, y2, y3⟩ := cells_two c4
              have x3 : w4.cell? ⟨wr.heap.size, 3, none⟩ = some (.slice pa p.length pc) := cell_of bx4
              have x2 : w4.cell? ⟨wr.heap.size, 2, none⟩ = some (.int .i64 most) := cell_of bx4
              have hMg := g4.size
              go_wp2_with fail
              refine (HR4.out _ o4 hMg arg4).mono ?_
              rintro e w5 ⟨u, rfl, f5, hu1, hu2⟩
              have hz5 := f5.size
              have uX : u.ownBlock ≠ some X := by rcases hu2 with rfl | h; exact (PV.out).1; intro e; have := h _ e; omega
              have uR : u.ownBlock ≠ some R := by rcases hu2 with rfl | h; exact (PV.out).2.1; intro e; have := h _ e; omega
              have uD : u.ownBlock ≠ some D := by rcases hu2 with rfl | h; exact (PV.out).2.2.1; intro e; have := h _ e; omega
              have uP : ∀ k, u.ownBlock = some k → (Value.slice ga p.length gc).ownBlock ≠ some k := by
                intro k e1 e2
                have hk := hog.out k e2
                rcases hu2 with rfl | h
                · have := (PV.out).2.2.2 k e1; omega
                · have := h k e1; omega
              obtain ⟨ua, uc, rfl, _⟩ := id hu1.formB
              have f6 : Fr [] w5 (w5.alloc (.cells #[.int .i64 c, .slice ua S'.length uc] 43)) := (Fr.refl _ _).alloc _
              have ff := f5.then0 f6
              have r6 := (r4.keep f5 (by simp) (by simp)).keep f6 (by simp) (by simp)
              have u6 := hu1.keep f6 (by simp)
              have c6 := ff.keep c4 (by simp)
              have g6 := g4.then0 ff
              have a6 := a4.keep ff hMg (by simp)
              have bx6 := ff.keep bx4 (by simp)
              have ow6 := ow4.keep ff (by simp)
              have arg6 := arg4.keep ff hMg (by simp)
              have n6 : (w5.alloc (.cells #[.int .i64 c, .slice ua S'.length uc] 43)).heap[w5.heap.size]? = some (.cells #[.int .i64 c, .slice ua S'.length uc] 43 (0, 0)) := newA rfl
              have hz6 := f6.size
              generalize hw6 : w5.alloc (.cells #[.int .i64 c, .slice ua S'.length uc] 43) = w6 at *
              clear f5 f6 ff r4 o4 c4 g4 a4 bx4 ow4 arg4 hu1 hu2 y0 y1 y2 y3 x3 x2 HR4
              obtain ⟨y0, y1, y2, y3⟩ := cells_two c6
              obtain ⟨m0, m1, m2, m3⟩ := cells_two n6
              have x3 : w6.cell? ⟨wr.heap.size, 3, none⟩ = some (.slice pa p.length pc) := cell_of bx6
              have k1 := conv_st (cap := gc) ow6.formSl rfl
              have k2 := conv_st (cap := pc) arg6.sl rfl
              have PX := Lib.hid (P4.store r6 u6 uX uR uD hO.out.1 hO.out.2.1 hO.out.2.2 c6 g6 a6)
              have fX : Fr [X] w6 ((w6.setCell ⟨X, 0, none⟩ (.int .i64 c)).setCell ⟨X, 1, none⟩ (.slice ua S'.length uc)) := ((Fr.refl _ _).setCell (.inl (by simp)) _).setCell (.inl (by simp)) _
              have ov := ow6.keep fX (fun k e hm => by have := (hog.out k e).1; simp at hm; omega)
              have hzX := fX.size
              have hMz := g6.size
              clear r6 u6 c6 g6 a6 bx6 ow6 arg6 n6 fX
              go_wp2_with fail
              generalize hwv : ((w6.setCell ⟨X, 0, none⟩ (.int .i64 c)).setCell ⟨X, 1, none⟩ (.slice ua S'.length uc)) = wv at *
              clear hwv hw6 y0 y1 y2 y3 m0 m1 m2 m3 x3 k1 k2
              have hgc' : (p.length : Int) ≤ 9223372036854775807 := by omega
              go_wp2_with fail
              go_loopw [18, 135] (fun _ j wx => ∃ (q : Nat) (xs : List Int), q ≤ p.length ∧ j = .int .i64 q ∧ xs.length = p.length ∧ Ow wx wb.heap.size 5 (.slice ga p.length gc) (xs.map (Value.int .u8)) ∧ Fr (Value.ownBlock (.slice ga p.length gc)).toList wv wx) (fun _ j _ => p.length - (intOf j).toNat)
              case atStart => exact ⟨0, bi p, by omega, rfl, bi_length _, ov, Fr.refl _ _⟩
              case round =>
                obtain ⟨q, xs, hq, rfl, hxl, hox, fr⟩ := hrel
                by_cases hlq : (q : Int) < p.length
                · obtain ⟨g, cap', hve, _, _, _, hgl, hcell, hfree⟩ := hox.row (by rw [List.length_map]; omega)
                  have hkx : q < xs.length := by omega
                  have hc := hcell q (by rw [List.length_map]; omega)
                  rw [List.getElem?_map, List.getElem?_eq_getElem hkx] at hc
                  have hf := hfree q
                  simp only [Value.slice.injEq] at hve
                  obtain ⟨rfl, hve2, rfl⟩ := hve
                  clear hve2
                  have hset := hox.set q (.int .u8 (IntKind.u8.wrap (xs[q] + 1)))
                  rw [← List.map_set] at hset
                  have hfr2 := fr.setCell (p := ⟨g, q, none⟩) (.inl (by show g ∈ [g]; simp)) (.int .u8 (IntKind.u8.wrap (xs[q] + 1)))
                  simp only [Option.map_some] at hc
                  generalize xs[q] = x at hc hset hfr2
                  have HXL := Lib.hid hxl
                  have HST := Lib.hid (And.intro hset hfr2)
                  clear hcell hfree hox fr hset hfr2 ov hxl hkx
                  go_wp2_with fail
                  go_roundw
                  case rel => exact ⟨q + 1, _, by omega, by go_num, by rw [List.length_set]; exact HXL.out, HST.out.1, HST.out.2⟩
                  case measure => simp [intOf]; omega
                · have hS : ∀ x ∈ (Value.ownBlock (.slice ga p.length gc)).toList, wb.heap.size ≤ x ∧ x < w3.heap.size := fun x hx => hog.out x (by simpa using hx)
                  go_wp2_with fail
                  go_meet
                  exact ⟨R, D, _, S', rfl, PX.out.keepN fr (M := wb.heap.size) (by omega) (fun x hx => (hS x hx).1) (by omega) (by omega) (by omega) (fun k e hm => uP k e (by simpa using hm)) (by omega)⟩
            by_cases q1 : what = 1
            · as_aux_lemma =>
              subst q1
              clear harg_b
              have hRD := rg_read_any P_b.rg most
              have hRR := fun (w' : World) (o4 : Ow w' w.heap.size 5 (.slice va s.length vc) ((bi s).map (Value.int .u8))) (hM : w.heap.size ≤ w'.heap.size) => ref4_read_any (c := c) o4 hM (show s.length ≤ 4096 by omega) most
              have hTl := rdT_len s most
              have hSl := rdS_len s most
              obtain ⟨T, hT⟩ : ∃ T, rdT s most = T := ⟨_, rfl⟩
              obtain ⟨S', hS'⟩ : ∃ S', rdS s most = S' := ⟨_, rfl⟩
              obtain ⟨er, her⟩ : ∃ er, rdE most = er := ⟨_, rfl⟩
              rw [hT, hS', her] at hRD hRR
              rw [hT] at hTl
              rw [hS'] at hSl
              have HRD := Lib.hid hRD
              have HRR := Lib.hid hRR
              clear hT hS' her hRD hRR
              unfold RdAny at HRD
              go_wp2_with fail
              refine HRD.out.mono ?_
              rintro e w4 ⟨u1, rfl, f4, ow4, r4'⟩
              obtain ⟨r4, o4, c4, g4, a4⟩ := P_b.ring f4 r4'
              have bx4 := f4.keep hbx (by simp; omega)
              have hog := Lib.hid ow4.lt
              obtain ⟨ga, gc, rfl, hgc1, hgc2, _⟩ := ow4.formB
              have hz4 := f4.size
              have PV := Lib.hid (And.intro P_b.vX (And.intro P_b.vR (And.intro P_b.vD (fun k (e : (Value.slice va s.length vc).ownBlock = some k) => (show k < wr.heap.size from hvl k e)))))
              have hO := Lib.hid (And.intro P_b.xr (And.intro P_b.xd P_b.old))
              clear P_b f4 hbx r4' HRD x0 x1 x2 x3
              obtain ⟨y0, y1, y2, y3⟩ := cells_two c4
              have x2 : w4.cell? ⟨wr.heap.size, 2, none⟩ = some (.int .i64 most) := cell_of bx4
              have hMg := g4.size
              go_wp2_with fail
              refine (HRR.out _ o4 hMg).mono ?_
              rintro e w5 ⟨u, xq, rfl, f5, ⟨hu1, hu2⟩, ox⟩
              have hz5 := f5.size
              have uX : u.ownBlock ≠ some X := by rcases hu2 with rfl | h; exact (PV.out).1; intro e; have := h _ e; omega
              have uR : u.ownBlock ≠ some R := by rcases hu2 with rfl | h; exact (PV.out).2.1; intro e; have := h _ e; omega
              have uD : u.ownBlock ≠ some D := by rcases hu2 with rfl | h; exact (PV.out).2.2.1; intro e; have := h _ e; omega
              have uP : ∀ k, u.ownBlock = some k → (Value.slice ga T.length gc).ownBlock ≠ some k := by
                intro k e1 e2
                have hk := hog.out k e2
                rcases hu2 with rfl | h
                · have := (PV.out).2.2.2 k e1; omega
                · have := h k e1; omega
              obtain ⟨ua, uc, rfl, _⟩ := id hu1.formB
              obtain ⟨xa, xc, rfl, hxc1, hxc2, _⟩ := id ox.formB
              have f6 : Fr [] w5 (w5.alloc (.cells #[.int .i64 c, .slice ua S'.length uc] 43)) := (Fr.refl _ _).alloc _
              have ff := f5.then0 f6
              have r6 := (r4.keep f5 (by simp) (by simp)).keep f6 (by simp) (by simp)
              have u6 := hu1.keep f6 (by simp)
              have c6 := ff.keep c4 (by simp)
              have g6 := g4.then0 ff
              have a6 := a4.keep ff hMg (by simp)
              have n6 : (w5.alloc (.cells #[.int .i64 c, .slice ua S'.length uc] 43)).heap[w5.heap.size]? = some (.cells #[.int .i64 c, .slice ua S'.length uc] 43 (0, 0)) := newA rfl
              have hz6 := f6.size
              have ow6 := ow4.keep ff (by simp)
              have ox6 := ox.keep f6 (by simp)
              generalize hw6 : w5.alloc (.cells #[.int .i64 c, .slice ua S'.length uc] 43) = w6 at *
              clear f5 f6 ff r4 o4 c4 g4 a4 bx4 ow4 hu1 hu2 y0 y1 y2 y3 x2 HRR ox
              obtain ⟨y0, y1, y2, y3⟩ := cells_two c6
              obtain ⟨m0, m1, m2, m3⟩ := cells_two n6
              have k1 := conv_st (cap := gc) ow6.formSl rfl
              have k2 := conv_st (cap := xc) ox6.formSl rfl
              have PX := Lib.hid (P4.store r6 u6 uX uR uD hO.out.1 hO.out.2.1 hO.out.2.2 c6 g6 a6)
              have fX : Fr [X] w6 ((w6.setCell ⟨X, 0, none⟩ (.int .i64 c)).setCell ⟨X, 1, none⟩ (.slice ua S'.length uc)) := ((Fr.refl _ _).setCell (.inl (by simp)) _).setCell (.inl (by simp)) _
              have ov := ow6.keep fX (fun k e hm => by have := (hog.out k e).1; simp at hm; omega)
              have hzX := fX.size
              have hMz := g6.size
              clear r6 u6 c6 g6 a6 ow6 n6 fX ox6
              go_wp2_with fail
              generalize hwv : ((w6.setCell ⟨X, 0, none⟩ (.int .i64 c)).setCell ⟨X, 1, none⟩ (.slice ua S'.length uc)) = wv at *
              clear hwv hw6 y0 y1 y2 y3 m0 m1 m2 m3 k1 k2
              have hgc' : (T.length : Int) ≤ 9223372036854775807 := by omega
              go_wp2_with fail
              go_loopw [24, 175] (fun _ j wx => ∃ (q : Nat) (xs : List Int), q ≤ T.length ∧ j = .int .i64 q ∧ xs.length = T.length ∧ Ow wx wb.heap.size 5 (.slice ga T.length gc) (xs.map (Value.int .u8)) ∧ Fr (Value.ownBlock (.slice ga T.length gc)).toList wv wx) (fun _ j _ => T.length - (intOf j).toNat)
              case atStart => exact ⟨0, bi T, by omega, rfl, bi_length _, ov, Fr.refl _ _⟩
              case round =>
                obtain ⟨q, xs, hq, rfl, hxl, hox, fr⟩ := hrel
                by_cases hlq : (q : Int) < T.length
                · obtain ⟨g, cap', hve, _, _, _, hgl, hcell, hfree⟩ := hox.row (by rw [List.length_map]; omega)
                  have hkx : q < xs.length := by omega
                  have hc := hcell q (by rw [List.length_map]; omega)
                  rw [List.getElem?_map, List.getElem?_eq_getElem hkx] at hc
                  have hf := hfree q
                  simp only [Value.slice.injEq] at hve
                  obtain ⟨rfl, hve2, rfl⟩ := hve
                  clear hve2
                  have hset := hox.set q (.int .u8 (IntKind.u8.wrap (xs[q] + 1)))
                  rw [← List.map_set] at hset
                  have hfr2 := fr.setCell (p := ⟨g, q, none⟩) (.inl (by show g ∈ [g]; simp)) (.int .u8 (IntKind.u8.wrap (xs[q] + 1)))
                  simp only [Option.map_some] at hc
                  generalize xs[q] = x at hc hset hfr2
                  have HXL := Lib.hid hxl
                  have HST := Lib.hid (And.intro hset hfr2)
                  clear hcell hfree hox fr hset hfr2 ov hxl hkx
                  go_wp2_with fail
                  go_roundw
                  case rel => exact ⟨q + 1, _, by omega, by go_num, by rw [List.length_set]; exact HXL.out, HST.out.1, HST.out.2⟩
                  case measure => simp [intOf]; omega
                · have hS : ∀ x ∈ (Value.ownBlock (.slice ga T.length gc)).toList, wb.heap.size ≤ x ∧ x < w4.heap.size := fun x hx => hog.out x (by simpa using hx)
                  go_wp2_with fail
                  go_meet
                  exact ⟨R, D, _, S', rfl, PX.out.keepN fr (M := wb.heap.size) (by omega) (fun x hx => (hS x hx).1) (by omega) (by omega) (by omega) (fun k e hm => uP k e (by simpa using hm)) (by omega)⟩
            by_cases q2 : what = 2
            · as_aux_lemma =>
              subst q2
              clear harg_b
              have hRD := rg_peek_any P_b.rg off most
              have hRR := fun (w' : World) (o4 : Ow w' w.heap.size 5 (.slice va s.length vc) ((bi s).map (Value.int .u8))) => ref4_peek_any (c := c) o4 (show s.length ≤ 4096 by omega) off most
              have hTl := pkT_len s off most
              obtain ⟨T, hT⟩ : ∃ T, pkT s off most = T := ⟨_, rfl⟩
              obtain ⟨er, her⟩ : ∃ er, pkE off most = er := ⟨_, rfl⟩
              rw [hT, her] at hRD hRR
              rw [hT] at hTl
              have HRD := Lib.hid hRD
              have HRR := Lib.hid hRR
              clear hT her hRD hRR
              go_wp2_with fail
              refine HRD.out.mono ?_
              rintro e w4 ⟨u1, rfl, f4, ow4⟩
              have P4_ := P_b.keep0 f4
              have bx4 := f4.keep hbx (by simp)
              have hog := Lib.hid ow4.lt
              obtain ⟨ga, gc, rfl, hgc1, hgc2, _⟩ := ow4.formB
              have hz4 := f4.size
              clear P_b f4 hbx HRD x0 x1 x2 x3
              have c4 := P4_.cell
              obtain ⟨y0, y1, y2, y3⟩ := cells_two c4
              have x1 : w4.cell? ⟨wr.heap.size, 1, none⟩ = some (.int .i64 off) := cell_of bx4
              have x2 : w4.cell? ⟨wr.heap.size, 2, none⟩ = some (.int .i64 most) := cell_of bx4
              go_wp2_with fail
              refine (HRR.out _ P4_.own).mono ?_
              rintro e w5 ⟨xq, rfl, f5, ox⟩
              have hz5 := f5.size
              obtain ⟨xa, xc, rfl, hxc1, hxc2, _⟩ := id ox.formB
              have PX := Lib.hid (P4_.keep0 f5)
              have ov := ow4.keep f5 (by simp)
              have hMz := (P4_.fr.then0 f5).size
              have k1 := conv_st (cap := gc) ov.formSl rfl
              have k2 := conv_st (cap := xc) ox.formSl rfl
              clear f5 c4 bx4 ow4 y0 y1 y2 y3 x1 x2 HRR ox P4_
              go_wp2_with fail
              generalize hwv : w5 = wv at *
              clear hwv k1 k2
              have hgc' : (T.length : Int) ≤ 9223372036854775807 := by omega
              go_wp2_with fail
              go_loopw [29, 217] (fun _ j wx => ∃ (q : Nat) (xs : List Int), q ≤ T.length ∧ j = .int .i64 q ∧ xs.length = T.length ∧ Ow wx wb.heap.size 5 (.slice ga T.length gc) (xs.map (Value.int .u8)) ∧ Fr (Value.ownBlock (.slice ga T.length gc)).toList wv wx) (fun _ j _ => T.length - (intOf j).toNat)
              case atStart => exact ⟨0, bi T, by omega, rfl, bi_length _, ov, Fr.refl _ _⟩
              case round =>
                obtain ⟨q, xs, hq, rfl, hxl, hox, fr⟩ := hrel
                by_cases hlq : (q : Int) < T.length
                · obtain ⟨g, cap', hve, _, _, _, hgl, hcell, hfree⟩ := hox.row (by rw [List.length_map]; omega)
                  have hkx : q < xs.length := by omega
                  have hc := hcell q (by rw [List.length_map]; omega)
                  rw [List.getElem?_map, List.getElem?_eq_getElem hkx] at hc
                  have hf := hfree q
                  simp only [Value.slice.injEq] at hve
                  obtain ⟨rfl, hve2, rfl⟩ := hve
                  clear hve2
                  have hset := hox.set q (.int .u8 (IntKind.u8.wrap (xs[q] + 1)))
                  rw [← List.map_set] at hset
                  have hfr2 := fr.setCell (p := ⟨g, q, none⟩) (.inl (by show g ∈ [g]; simp)) (.int .u8 (IntKind.u8.wrap (xs[q] + 1)))
                  simp only [Option.map_some] at hc
                  generalize xs[q] = x at hc hset hfr2
                  have HXL := Lib.hid hxl
                  have HST := Lib.hid (And.intro hset hfr2)
                  clear hcell hfree hox fr hset hfr2 ov hxl hkx
                  go_wp2_with fail
                  go_roundw
                  case rel => exact ⟨q + 1, _, by omega, by go_num, by rw [List.length_set]; exact HXL.out, HST.out.1, HST.out.2⟩
                  case measure => simp [intOf]; omega
                · have hS : ∀ x ∈ (Value.ownBlock (.slice ga T.length gc)).toList, wb.heap.size ≤ x ∧ x < w4.heap.size := fun x hx => hog.out x (by simpa using hx)
                  go_wp2_with fail
                  go_meet
                  exact ⟨R, D, _, s, rfl, PX.out.keepN fr (M := wb.heap.size) (by omega) (fun x hx => (hS x hx).1) (by omega) (by omega) (by omega) (fun k e hm => by have := hvl k e; have := (hS k hm).1; omega) (by omega)⟩
            by_cases q3 : what = 3
            · as_aux_lemma =>
              subst q3
              clear harg_b
              have hRD := rg_skip_any P_b.rg most
              have hRR := fun (w' : World) (o4 : Ow w' w.heap.size 5 (.slice va s.length vc) ((bi s).map (Value.int .u8))) (hM : w.heap.size ≤ w'.heap.size) => ref4_skip_any (c := c) o4 hM (show s.length ≤ 4096 by omega) most
              have hSl := rdS_len s most
              obtain ⟨S', hS'⟩ : ∃ S', rdS s most = S' := ⟨_, rfl⟩
              obtain ⟨er, her⟩ : ∃ er, rdE most = er := ⟨_, rfl⟩
              obtain ⟨nn, hnn⟩ : ∃ nn, skN s most = nn := ⟨_, rfl⟩
              rw [hS', her, hnn] at hRD hRR
              rw [hS'] at hSl
              have HRD := Lib.hid hRD
              have HRR := Lib.hid hRR
              clear hS' her hRD hRR hnn
              go_wp2_with fail
              refine HRD.out.mono ?_
              rintro e w4 ⟨rfl, f4, r4'⟩
              obtain ⟨r4, o4, c4, g4, a4⟩ := P_b.ring f4 r4'
              have bx4 := f4.keep hbx (by simp; omega)
              have hz4 := f4.size
              have PV := Lib.hid (And.intro P_b.vX (And.intro P_b.vR P_b.vD))
              have hO := Lib.hid (And.intro P_b.xr (And.intro P_b.xd P_b.old))
              clear P_b f4 hbx r4' HRD x0 x1 x2 x3
              obtain ⟨y0, y1, y2, y3⟩ := cells_two c4
              have x2 : w4.cell? ⟨wr.heap.size, 2, none⟩ = some (.int .i64 most) := cell_of bx4
              have hMg := g4.size
              go_wp2_with fail
              refine (HRR.out _ o4 hMg).mono ?_
              rintro e w5 ⟨u, rfl, f5, ⟨hu1, hu2⟩⟩
              have hz5 := f5.size
              have uX : u.ownBlock ≠ some X := by rcases hu2 with rfl | h; exact (PV.out).1; intro e; have := h _ e; omega
              have uR : u.ownBlock ≠ some R := by rcases hu2 with rfl | h; exact (PV.out).2.1; intro e; have := h _ e; omega
              have uD : u.ownBlock ≠ some D := by rcases hu2 with rfl | h; exact (PV.out).2.2; intro e; have := h _ e; omega
              obtain ⟨ua, uc, rfl, _⟩ := id hu1.formB
              have f6 : Fr [] w5 (w5.alloc (.cells #[.int .i64 c, .slice ua S'.length uc] 43)) := (Fr.refl _ _).alloc _
              have ff := f5.then0 f6
              have r6 := (r4.keep f5 (by simp) (by simp)).keep f6 (by simp) (by simp)
              have u6 := hu1.keep f6 (by simp)
              have c6 := ff.keep c4 (by simp)
              have g6 := g4.then0 ff
              have a6 := a4.keep ff hMg (by simp)
              have n6 : (w5.alloc (.cells #[.int .i64 c, .slice ua S'.length uc] 43)).heap[w5.heap.size]? = some (.cells #[.int .i64 c, .slice ua S'.length uc] 43 (0, 0)) := newA rfl
              have hz6 := f6.size
              generalize hw6 : w5.alloc (.cells #[.int .i64 c, .slice ua S'.length uc] 43) = w6 at *
              clear f5 f6 ff r4 o4 c4 g4 a4 bx4 hu1 hu2 y0 y1 y2 y3 x2 HRR
              obtain ⟨y0, y1, y2, y3⟩ := cells_two c6
              obtain ⟨m0, m1, m2, m3⟩ := cells_two n6
              have PX := Lib.hid (P4.store r6 u6 uX uR uD hO.out.1 hO.out.2.1 hO.out.2.2 c6 g6 a6)
              clear r6 u6 c6 g6 a6 n6
              go_wp2_with fail
              go_meet
              exact ⟨R, D, _, S', rfl, PX.out⟩
            by_cases q4 : what = 4
            · as_aux_lemma =>
              subst q4
              clear harg_b
              have HRD := Lib.hid (rg_reset P_b.rg)
              go_wp2_with fail
              refine HRD.out.mono ?_
              rintro e w4 ⟨rfl, f4, r4'⟩
              have hsil : ∀ l : List UInt8, bi ([] : List UInt8) = [] := fun _ => rfl
              obtain ⟨r4, o4, c4, g4, a4⟩ := P_b.ring f4 (s' := []) r4'
              have hO := Lib.hid (And.intro P_b.xr (And.intro P_b.xd P_b.old))
              clear P_b f4 hbx r4' HRD x0 x1 x2 x3 hsil
              obtain ⟨y0, y1, y2, y3⟩ := cells_two c4
              have fX : Fr [X] w4 (w4.setCell ⟨X, 1, none⟩ (.slice none 0 0)) := (Fr.refl _ _).setCell (.inl (by simp)) _
              have cX := heap_setCell_eq (i := 1) (u := .slice none 0 0) c4
              have PX : Hid (P4 w (w4.setCell ⟨X, 1, none⟩ (.slice none 0 0)) X R D c (.slice none 0 0) [] (some ⟨ab, ao, none⟩) cap A) := Lib.hid ⟨r4.keep fX (by simpa using Ne.symm hO.out.1) (by simpa using Ne.symm hO.out.2.1), Ow.nil _ _ _, by simp [Value.ownBlock], by simp [Value.ownBlock], by simp [Value.ownBlock], hO.out.1, hO.out.2.1, hO.out.2.2, by simpa using cX, g4.trans fX (by simp) (by simp; exact hO.out.2.2.1), a4.keep fX g4.size (by simp; exact hO.out.2.2.1)⟩
              clear r4 o4 c4 g4 a4 fX cX
              go_wp2_with fail
              go_meet
              exact ⟨R, D, _, [], rfl, PX.out⟩
            as_aux_lemma =>
            have b0 : (what == 0) = false := by simpa using q0
            have b1 : (what == 1) = false := by simpa using q1
            have b2 : (what == 2) = false := by simpa using q2
            have b3 : (what == 3) = false := by simpa using q3
            have b4 : (what == 4) = false := by simpa using q4
            clear q0 q1 q2 q3 q4 harg_b
            have HC := Lib.hid (rg_copy P_b.rg)
            go_wp2_with fail
            refine HC.out.mono ?_
            rintro e w3 ⟨R2, D2, rfl, f3, hR2, hD2, r2⟩
            have P3 := P_b.keep0 f3
            have hz3 := f3.size
            clear P_b f3 hbx HC x0 x1 x2 x3 b0 b1 b2 b3 b4
            have hlt2 := r2.len_le
            have HS := Lib.hid (rg_skip_any P3.rg 1)
            go_wp2_with fail
            refine HS.out.mono ?_
            rintro e w4 ⟨rfl, f4, r4'⟩
            obtain ⟨r4, o4, c4, g4, a4⟩ := P3.ring f4 r4'
            have hz4 := f4.size
            have r24 := r2.keep f4 (by simp; omega) (by simp; omega)
            have hO := Lib.hid (And.intro P3.xr (And.intro P3.xd P3.old))
            have PV := Lib.hid (And.intro P3.vX (And.intro P3.vR P3.vD))
            clear P3 f4 r4' HS r2
            have f5 : Fr [] w4 (w4.alloc (.cells #[.int .u8 111, .int .u8 108, .int .u8 100] 5 (3, 4))) := (Fr.refl _ _).alloc _
            have n5 := sl_old w4
            have r5 := r4.keep f5 (by simp) (by simp)
            have HW := Lib.hid (rg_write (ps := [111, 108, 100]) (pa := some ⟨w4.heap.size, 0, none⟩) (plen := 3) (pcap := 3) r5 rfl (by omega) n5 (fun _ b o e => by injection e with e; injection e with e1; omega) (by omega))
            have kc := Lib.run_convert_bytes_const (P := Try.prog) w4 29 5 #[.int .u8 111, .int .u8 108, .int .u8 100] 3 3 Try.underlying29 Try.underlying5
            simp only [List.size_toArray, List.length_cons, List.length_nil, Nat.reduceAdd] at kc
            have r25 := r24.keep f5 (by simp) (by simp)
            have o5 := o4.keep f5 (by simp)
            have c5 := f5.keep c4 (by simp)
            have g5 := g4.then0 f5
            have a5 := a4.keep f5 g4.size (by simp)
            have hz5 := f5.size
            clear r4 o4 c4 g4 a4 r24 f5 n5 r5
            go_wp2_with fail
            refine HW.out.mono ?_
            rintro e w6 ⟨rfl, f6, _⟩
            have P6 : Hid (P4 w w6 X R2 D2 c (.slice va s.length vc) s (some ⟨ab, ao, none⟩) cap A) := Lib.hid ⟨r25.keep f6 (by simp; omega) (by simp; omega), o5.keep f6 (fun k e hm => by simp at hm; rcases hm with rfl | rfl; exact PV.out.2.1 e; exact PV.out.2.2 e), PV.out.1, fun e => by have := hvl _ e; omega, fun e => by have := hvl _ e; omega, by omega, by omega, ⟨hO.out.2.2.1, by omega, by omega⟩, f6.keep c5 (by simp; exact ⟨hO.out.1, hO.out.2.1⟩), g5.trans f6 (by simp) (by have := hO.out.2.2; simp; omega), a5.keep f6 g5.size (by have := hO.out.2.2; simp; omega)⟩
            clear r25 o5 c5 g5 a5 f6 HW kc
            go_wp2_with fail
            go_meet
            exact ⟨R2, D2, _, s, rfl, P6.out⟩
          case rest =>
            obtain ⟨R2, D2, v2, s2, rfl, P⟩ := hcut
            have HHL := Lib.hid (rg_len_q P.rg)
            have HHF := Lib.hid (rg_free_q P.rg)
            have HHC := Lib.hid (rg_cap_q P.rg)
            have hl2 := P.lt
            obtain ⟨ua, uc, rfl, huc1, huc2, _⟩ := P.own.formB
            obtain ⟨y0, y1, y2, y3⟩ := cells_two P.cell
            have HP := Lib.hid P
            have hs2 : (s2.length : Int) ≤ c := by omega
            clear P hbx harg_b P_b x0 x1 x2 x3 hvl hvl0 hb0 hb1 hb2
            go_wp2_with fail
            go_quiet ((first | (go_at_call 26; exact Calls.quiet_of_same (HHL.out _)) | (go_at_call 32; exact Calls.quiet_of_same (HHC.out _)) | (go_at_call 27; exact Calls.quiet_of_same (HHF.out _))))
            go_wp2_with fail
            go_roundw
            case rel => exact ⟨k + 1, R2, D2, _, s2, by omega, by go_num, rfl, HP.out.keep0 ((Fr.refl _ _).drewN _)⟩
            case measure => simp [intOf]; omega
        · have hl2 := P.lt
          have HR := rg_read P.rg (most := 5000) (by omega)
          have e1 : s.take (5000 : Int).toNat = s := List.take_of_length_le (by simp; omega)
          have e2 : s.drop (5000 : Int).toNat = [] := List.drop_eq_nil_of_le (by simp; omega)
          rw [← bi_take, ← bi_drop, e1, e2] at HR
          have HHR := Lib.hid HR
          clear e1 e2 HR
          go_wp2_with fail
          refine HHR.out.mono ?_
          rintro e w4 ⟨u1, rfl, f4, ob, r4'⟩
          have ow4 := ob.ow (show s.length ≤ 1000000 by omega)
          obtain ⟨r4, o4, c4, g4, _⟩ := P.ring f4 (s' := []) r4'
          obtain ⟨ga, gc, rfl, hgc1, hgc2, hsl, _⟩ := ow4.formB
          obtain ⟨va, vc, rfl, hvc1, hvc2, hsl2, _⟩ := o4.formB
          obtain ⟨y0, y1, y2, y3⟩ := cells_two c4
          have k1 := conv_st (cap := gc) hsl rfl
          have k2 := conv_st (cap := vc) hsl2 rfl
          have hss : (s.length : Int) ≤ 4096 := by omega
          clear HHR f4 ob r4' r4 o4 ow4 hsl hsl2 P c4
          go_wp2_with fail
          refine (known04_yes _).mono ?_
          rintro e w10 ⟨rfl, f10⟩
          go_wp2_with fail
          go_ret
          exact ⟨rfl, g4.then0 f10⟩

theorem ringPlays_long {a : Option Addr} {len cap : Nat} (c : Int) (w : World) (h : (60 : Int) < len) (hm : len ≤ maxLen) :
    Calls Try.prog 6 #[.int .i64 c, .slice a len cap] w fun e w' => e = .returned (.bool true) ∧ Fr [] w w' := by
  unfold maxLen at hm
  go_enter Try.func6, Try.ntmps6
  go_wp2_with fail
  refine (known04_yes _).mono ?_
  rintro e w10 ⟨rfl, f10⟩
  go_wp2_with fail
  go_ret
  exact ⟨rfl, f10⟩
set_option maxHeartbeats 2000000 in
theorem ringPlays_part (c : Int) (w : World) (hA : Acts04 w w.heap.size a A.length cap A) (h60 : A.length ≤ 60) (h6 : ¬ ∀ x ∈ A, x.p.length ≤ 6000) :
    Calls Try.prog 6 #[.int .i64 c, .slice a A.length cap] w fun e w' => e = .returned (.bool true) ∧ Fr [] w w' := by
  have H6 := Lib.hid h6
  have i60 : (A.length : Int) ≤ 60 := by omega
  clear h6
  go_enter Try.func6, Try.ntmps6
  go_wp2_with fail
  go_loop [5] (fun i => ∃ k : Nat, k ≤ A.length ∧ i = .int .i64 k ∧ Hid (∀ x ∈ A.take k, x.p.length ≤ 6000)) (fun i => A.length - (intOf i).toNat)
  case atStart => exact ⟨0, by omega, rfl, Lib.hid (by simp)⟩
  case round =>
    obtain ⟨k, hk, rfl, HK⟩ := hrel
    by_cases hlt : (k : Int) < A.length
    · have hkA : k < A.length := by omega
      obtain ⟨ab, ao, pa, pl, pc, rfl, habB, hab, c0, c1, c2, c3, harg, _⟩ := hA.at_ k hkA
      have hpl := harg.len_eq
      have hpm : pl ≤ 9223372036854775807 := by have := harg.le; have := harg.cap_le; unfold maxLen at this; omega
      have hN : A[k].p.length ≤ 6000 → ∀ x ∈ A.take (k + 1), x.p.length ≤ 6000 := fun h x hx => by
        rw [List.take_succ_eq_append_getElem hkA, List.mem_append] at hx
        rcases hx with hx | hx
        · exact HK.out x hx
        · rw [List.mem_singleton] at hx; subst hx; exact h
      rw [← hpl] at hN
      have HN := Lib.hid hN
      clear c0 c1 c2 harg hN hpl
      by_cases hp : (pl : Int) ≤ 6000
      · go_wp2_with fail
        go_round
        case rel => exact ⟨k + 1, by omega, by go_num, Lib.hid (HN.out (by omega))⟩
        case measure => simp [intOf]; omega
      · go_wp2_with fail
        refine (known04_yes _).mono ?_
        rintro e w10 ⟨rfl, f10⟩
        go_wp2_with fail
        go_ret
        exact ⟨rfl, f10⟩
    · exfalso
      have := HK.out
      rw [List.take_of_length_le (by omega)] at this
      exact H6.out this
set_option maxHeartbeats 2000000 in
theorem ringPlays_bad (c : Int) (w : World) (hA : Acts04 w w.heap.size a A.length cap A) (h60 : A.length ≤ 60) (h6 : ∀ x ∈ A, x.p.length ≤ 6000) (hc : c < 1 ∨ 4096 < c) :
    Calls Try.prog 6 #[.int .i64 c, .slice a A.length cap] w fun e w' => e = .returned (.bool true) ∧ Fr [] w w' := by
  have H6 := Lib.hid h6
  have i60 : (A.length : Int) ≤ 60 := by omega
  have HC := Lib.hid hc
  clear h6 hc
  go_enter Try.func6, Try.ntmps6
  go_wp2_with fail
  go_loop [5] (fun i => ∃ k : Nat, k ≤ A.length ∧ i = .int .i64 k) (fun i => A.length - (intOf i).toNat)
  case atStart => exact ⟨0, by omega, rfl⟩
  case round =>
    obtain ⟨k, hk, rfl⟩ := hrel
    by_cases hlt : (k : Int) < A.length
    · have hkA : k < A.length := by omega
      obtain ⟨ab, ao, pa, pl, pc, rfl, habB, hab, c0, c1, c2, c3, harg, _⟩ := hA.at_ k hkA
      have hp6 : (pl : Int) ≤ 6000 := by have := H6.out A[k] (List.getElem_mem hkA); have := harg.len_eq; omega
      clear c0 c1 c2 harg
      go_wp2_with fail
      go_round
      case rel => exact ⟨k + 1, by omega, by go_num⟩
      case measure => simp [intOf]; omega
    · clear hk
      go_wp2_with fail
      refine (rg_new_bad c w HC.out).mono ?_
      rintro e w1 ⟨rfl, rfl⟩
      go_wp2_with fail
      refine (ref4_new_bad c w HC.out).mono ?_
      rintro e w2 ⟨rfl, f2⟩
      go_wp2_with fail
      refine (known04_yes _).mono ?_
      rintro e w10 ⟨rfl, f10⟩
      go_wp2_with fail
      go_ret
      exact ⟨rfl, (f2.alloc _).then0 f10⟩

theorem ringPlays_walk {a : Option Addr} {len cap : Nat} (c : Int) (w : World) (h : ∃ A, Acts04 w w.heap.size a len cap A) :
    Calls Try.prog 6 #[.int .i64 c, .slice a len cap] w fun e w' => e = .returned (.bool true) ∧ Fr [] w w' := by
  obtain ⟨A, hA⟩ := h
  by_cases h60 : A.length ≤ 60
  · have hle := hA.len_eq
    subst hle
    by_cases h6 : ∀ x ∈ A, x.p.length ≤ 6000
    · by_cases hc : 1 ≤ c ∧ c ≤ 4096
      · obtain ⟨n, rfl⟩ := Int.eq_ofNat_of_zero_le (show 0 ≤ c by omega)
        exact ringPlays_main n w hA h60 h6 (by omega) (by omega)
      · exact ringPlays_bad c w hA h60 h6 (by omega)
    · exact ringPlays_part c w hA h60 h6
  · exact ringPlays_long c w (by have := hA.len_eq; omega) hA.cap_le
end Go.Proofs.Ytpkgjgfdobcboaa

