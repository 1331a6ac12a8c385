/-
  Package shaper: Copy.
-/
import Derived.Test.YtdndabklcenndaaShSend
import Derived.Test.YtdndabklcenndaaShLaw
namespace Go.Proofs.Ytdndabklcenndaa
open Go.RowKit
set_option maxRecDepth 100000

theorem Shp.push {w4 w5 : World} {L : List Nat} {b k g' gb : Nat} {s : SH} {v v5 : Value} {x : List UInt8 × Int} (h : Shp w4 L b k s) (hr : ShRow w4 b k s v) (hs5 : SegRow w5 (g' :: gb :: L) b k v5 (s.segs ++ [x])) (hg5 : (g' ∈ gb :: L ∨ w4.heap.size ≤ g') ∧ g' < w5.heap.size)
    (hF5 : ∃ G, Fr G w4 w5 ∧ ∀ y ∈ G, y ∈ gb :: L ∧ y ≠ b ∧ y ≠ k) (hgb : gb < w4.heap.size) (hok : SHOk { s with segs := s.segs ++ [x] }) :
    Shp (w5.setCell ⟨b, 3, none⟩ v5) (g' :: gb :: L) b k { s with segs := s.segs ++ [x] } ∧ Fr (gb :: L) w4 (w5.setCell ⟨b, 3, none⟩ v5) := by
  obtain ⟨_, hb, _, k1, k2, ne, old⟩ := h
  obtain ⟨G, fG, hG⟩ := hF5
  have hrow := heap_setCell_eq (i := 3) (u := v5) (fG.keep hr (fun hm => (hG _ hm).2.1 rfl))
  have f6 : Fr [b] w5 (w5.setCell ⟨b, 3, none⟩ v5) := (Fr.refl [b] w5).setCell (.inl (by simp)) _
  have z5 := fG.size
  have z6 := f6.size
  refine ⟨⟨⟨v5, by unfold ShRow; simpa using hrow, hs5.keep f6 (by simp)⟩, f6.keep (fG.keep hb (fun hm => (hG _ hm).2.2 rfl)) (by simp; omega), hok, by simp [k1], by simp [k2], ne, fun y hy => ?_⟩, fG.trans f6 (fun x hx => .inl (hG x hx).1) (fun x hx => .inl (by simp at hx; subst hx; simp [k1]))⟩
  rcases List.mem_cons.1 hy with rfl | hy
  · omega
  · rcases List.mem_cons.1 hy with rfl | hy
    · omega
    · have := old y hy; omega

theorem segs_take_ok {s : SH} (h : SHOk s) (q : Nat) : SHOk { s with segs := s.segs.take q } :=
  sh_segs_ok h (totS_take_le _ _) (fun x hx => h.ats x (List.mem_of_mem_take hx)) (fun x hx => h.pos x (List.mem_of_mem_take hx))
theorem setRow_full {w : World} {g : Nat} {old cs : Array Value} {t : TypeId} (hg : w.heap[g]? = some (.cells old t (0, 0))) : ∃ W, w.setRow g cs = W ∧ W.heap[g]? = some (.cells cs t (0, 0)) ∧ Fr [g] w W :=
  ⟨_, rfl, setRow_heap _ _ _ _ _ _ hg, ⟨rfl, rfl, rfl, by simp [World.setRow], fun k _ hn => setRow_other _ _ _ _ (by simpa using hn)⟩⟩

section
variable {w w' : World} {L : List Nat} {b k : Nat} {s : SH}
set_option maxHeartbeats 16000000 in
theorem sh_copy (h : Shp w L b k s) : Calls Try.prog 38 #[.pointer (some ⟨b, 0, none⟩)] w fun e w' =>
    ∃ b' k' L', e = .returned (.pointer (some ⟨b', 0, none⟩)) ∧ Fr [] w w' ∧ Shp w' L' b' k' s ∧ ∀ y ∈ L', w.heap.size ≤ y := by
  obtain ⟨v, hr, hs⟩ := h.ex
  obtain ⟨c0, c1, c2, c3, c4, c5, c6⟩ := hr.cells
  have H0 := Lib.hid (sh_none c0)
  obtain ⟨sa, sc, e⟩ := hs.form
  subst e
  have HR := Lib.hid hr
  have HSG := Lib.hid hs
  have HSH := Lib.hid h
  have hlen : s.segs.length ≤ 65536 := by have := totS_len _ h.ok.pos; have := h.ok.tot; have := h.ok.lim1; omega
  obtain ⟨wz, hwz, fz, qz⟩ : ∃ W, w.alloc (.cells #[.pointer none, .int .u64 0, .int .i64 0, .slice none 0 0, .bool false, .int .u64 0, .int .u64 0] 85) = W ∧ Fr [] w W ∧ W.heap[w.heap.size]? = some (.cells #[.pointer none, .int .u64 0, .int .i64 0, .slice none 0 0, .bool false, .int .u64 0, .int .u64 0] 85 (0, 0)) := ⟨_, rfl, (Fr.refl _ _).alloc _, newA rfl⟩
  obtain ⟨w1, hw1, q1, f1⟩ := setRow_full (cs := #[.pointer (some ⟨k, 0, none⟩), .int .u64 s.lat, .int .i64 s.lim, .slice sa s.segs.length sc, .bool s.closed, .int .u64 s.fin, .int .u64 s.last]) qz
  have g1 : Fr [] w w1 := fz.trans f1 (by simp) (fun x hx => .inr (by simp at hx; omega))
  have HB := Lib.hid (copy_ok (g1.keep h.bk (by simp)) h.ok.inv.r1)
  have x0 : w1.cell? ⟨b, 0, none⟩ = some (.pointer (some ⟨k, 0, none⟩)) := cell_of (g1.keep hr (by simp))
  have hzz := lt_of_heap q1
  have hbB : b < (w.heap.size) := h.old b h.hb
  clear hr hs h c1 c2 c3 c4 c5 c6
  go_enter Try.func38, Try.ntmps38
  go_wp2_with fail
  refine H0.out.mono ?_
  rintro e w' ⟨rfl, rfl⟩
  go_wp2_with (first | (refine wpList_load_row rfl 85 (.tmp 9) rfl _ rfl _ _ _ _ HR.out Try.underlying85 rfl (by kernel_rfl) ?_) | (refine wpList_store_row rfl 85 (.tmp 3) (.tmp 10) rfl (w.heap.size) _ rfl rfl _ _ qz (by kernel_rfl) rfl (by simp [Value.oneCell']) ?_))
  refine HB.out.mono ?_
  rintro e w2 ⟨rfl, f2, k2⟩
  have q2 := f2.keep q1 (by simp)
  have x3 : w2.cell? ⟨b, 3, none⟩ = some (.slice sa s.segs.length sc) := cell_of (f2.keep (g1.keep HR.out (by simp)) (by simp))
  have hBlt : (w.heap.size) < w1.heap.size := lt_of_heap q1
  have g2 := g1.then0 f2
  have HI : Hid (Shp ((w2.setCell ⟨(w.heap.size), 0, none⟩ (.pointer (some ⟨w1.heap.size, 0, none⟩))).setCell ⟨(w.heap.size), 3, none⟩ (.slice none 0 0)) [(w.heap.size), w1.heap.size] (w.heap.size) w1.heap.size { s with segs := s.segs.take 0 } ∧ Fr [] w ((w2.setCell ⟨(w.heap.size), 0, none⟩ (.pointer (some ⟨w1.heap.size, 0, none⟩))).setCell ⟨(w.heap.size), 3, none⟩ (.slice none 0 0))) := Lib.hid (by
    have hq := heap_setCell_eq (i := 3) (u := .slice none 0 0) (heap_setCell_eq (i := 0) (u := .pointer (some ⟨w1.heap.size, 0, none⟩)) q2)
    have f3 : Fr [(w.heap.size)] w2 ((w2.setCell ⟨(w.heap.size), 0, none⟩ (.pointer (some ⟨w1.heap.size, 0, none⟩))).setCell ⟨(w.heap.size), 3, none⟩ (.slice none 0 0)) := ((Fr.refl [(w.heap.size)] w2).setCell (.inl (by simp)) _).setCell (.inl (by simp)) _
    have z3 := f3.size
    have z2 := f2.size
    have hk2 := k2.lt
    exact ⟨⟨⟨_, by unfold ShRow; simpa using hq, .inl ⟨rfl, by simp⟩⟩, f3.keep k2 (by simp; omega), segs_take_ok HSH.out.ok 0, by simp, by simp, by omega, by simp; omega⟩, g2.trans f3 (by simp) (fun x hx => .inr (by simp at hx; omega))⟩)
  have e0 : w2.cell? ⟨(w.heap.size), 0, none⟩ = some (.pointer (some ⟨k, 0, none⟩)) := cell_of q2
  have e3 : w2.cell? ⟨(w.heap.size), 3, none⟩ = some (.slice sa s.segs.length sc) := cell_of q2
  have e0f : w2.frozen? ⟨(w.heap.size), 0, none⟩ = false := free_of q2
  have e3f : w2.frozen? ⟨(w.heap.size), 3, none⟩ = false := free_of q2
  have hbne : b ≠ (w.heap.size) := by omega
  have x3' : ((w2.setCell ⟨(w.heap.size), 0, none⟩ (.pointer (some ⟨w1.heap.size, 0, none⟩))).setCell ⟨(w.heap.size), 3, none⟩ (.slice none 0 0)).cell? ⟨b, 3, none⟩ = some (.slice sa s.segs.length sc) := by rw [World.cell?_setCell_far _ _ _ _ (by simp; omega), World.cell?_setCell_far _ _ _ _ (by simp; omega)]; exact x3
  clear HB q2 k2 f2 qz hw1 hwz fz f1 q1 x0
  go_wp2_with fail
  clear e0 e3 e0f e3f x3
  generalize hW3 : (w2.setCell ⟨(w.heap.size), 0, none⟩ (.pointer (some ⟨w1.heap.size, 0, none⟩))).setCell ⟨(w.heap.size), 3, none⟩ (.slice none 0 0) = w3 at *
  clear hW3 g2 x3'
  have hlenI : (s.segs.length : Int) ≤ 65536 := by omega
  have HPOS0 := Lib.hid HSH.out.ok.pos
  go_loopw [23] (fun i wr => ∃ (q : Nat) (LL : List Nat) (K' : Nat), q ≤ s.segs.length ∧ i = .int .i64 q ∧ Hid (Shp wr LL (w.heap.size) K' { s with segs := s.segs.take q }) ∧ Hid (∀ y ∈ LL, w.heap.size ≤ y) ∧ Fr [] w wr) (fun i _ => s.segs.length + 1 - (intOf i).toNat)
  case atStart => exact ⟨0, _, _, by omega, rfl, Lib.hid HI.out.1, Lib.hid (by simp; omega), HI.out.2⟩
  case round =>
    obtain ⟨q, LL, K', hq, rfl, HS, HLL, g⟩ := hrel
    rename World => wr
    clear HI
    by_cases hlt : q < s.segs.length
    · obtain ⟨sg, so, cap', db, dp, dc, ev, hc, mg, md, hsl, hcap⟩ := (HSG.out.keep g (by simp)).at_ hlt
      injection ev with ev1 ev2 ev3
      subst ev1 ev3
      obtain ⟨i0, i1⟩ := hc wr (Fr.refl _ _)
      have hg1 : (q : Int) < s.segs.length := by omega
      have hx0 := HPOS0.out _ (List.getElem_mem hlt)
      have HQ1 := Lib.hid (List.take_succ_eq_append_getElem hlt)
      have hxle : s.segs[q].1.length ≤ 65536 := by
        have h1 := totS_take_succ hlt
        have h2 := totS_take_le s.segs (q + 1)
        have h3 := HSH.out.ok.tot
        have h4 := HSH.out.ok.lim1
        omega
      clear hc
      generalize s.segs[q] = x at *
      obtain ⟨xd, xa⟩ := x
      dsimp only at i0 i1 hsl hx0 hxle
      obtain ⟨w2, hw2, fX, HX2⟩ : ∃ W, wr.alloc (.cells #[.slice (some ⟨db, dp, none⟩) xd.length dc, .int .u64 xa] 104) = W ∧ Fr [] wr W ∧ Hid (W.heap[wr.heap.size]? = some (.cells #[.slice (some ⟨db, dp, none⟩) xd.length dc, .int .u64 xa] 104 (0, 0))) := ⟨_, rfl, (Fr.refl _ _).alloc _, Lib.hid (newA rfl)⟩
      obtain ⟨va_, hr2, hs2⟩ := HS.out.ex
      obtain ⟨va, vc, e⟩ := hs2.form
      subst e
      rw [List.length_take, Nat.min_eq_left hq] at hr2 hs2
      have HR2 := Lib.hid (fX.keep hr2 (by simp))
      have HSG2 := Lib.hid (hs2.keep fX (by simp))
      have HSH2 := Lib.hid (HS.out.keep0 fX)
      have HSL2 := Lib.hid (sl_keep hsl fX (by simp))
      have hXL : (wr.heap.size) ∉ LL := fun hm => by have := HS.out.old (wr.heap.size) hm; omega
      have e3 : w2.cell? ⟨(w.heap.size), 3, none⟩ = some (.slice va q vc) := cell_of HR2.out
      have e0 : w2.cell? ⟨(wr.heap.size), 0, none⟩ = some (.slice (some ⟨db, dp, none⟩) xd.length dc) := cell_of HX2.out
      have e1 : w2.cell? ⟨(wr.heap.size), 1, none⟩ = some (.int .u64 xa) := cell_of HX2.out
      have HEC := Lib.hid (Go.Proofs.enters_of Try.func56 (by kernel_rfl) rfl)
      have HL1 : Hid (xd.length = xd.length ∧ 0 < xd.length) := Lib.hid ⟨rfl, hx0⟩
      have HPOS : Hid (∀ y ∈ s.segs.take q, 0 < y.1.length) := Lib.hid fun y hy => HPOS0.out y (List.mem_of_mem_take hy)
      have HQL : Hid ((s.segs.take q).length ≤ 100000) := Lib.hid (by rw [List.length_take]; omega)
      have HQ2 : Hid ((s.segs.take q).length = q) := Lib.hid (by rw [List.length_take]; omega)
      have HOK : Hid (SHOk { s with segs := s.segs.take q ++ [(xd, xa)] }) := Lib.hid (by rw [← HQ1.out]; exact segs_take_ok HSH.out.ok (q + 1))
      have hBw := HS.out.old _ HS.out.hb
      have hKw := HS.out.old _ HS.out.hk
      have zX := fX.size
      have hXlt : (wr.heap.size) < w2.heap.size := lt_of_heap HX2.out
      clear hr2 hs2 hsl hx0
      go_wp2_with fail
      have fd2 : Fr [] w2 w2.drew := (Fr.refl _ _).drew
      refine wp_region_till [(0, true), (1, true), (2, true), (3, true), (5, true), (6, true), (4, false), (7, true), (8, false), (9, false), (10, true)] [11] (fun w' => w'.cell? ⟨(w.heap.size), 3, none⟩ = some (.slice va q vc) ∧ w'.cell? ⟨(wr.heap.size), 0, none⟩ = some (.slice (some ⟨db, dp, none⟩) xd.length dc) ∧ w'.cell? ⟨(wr.heap.size), 1, none⟩ = some (.int .u64 xa)) (by kernel_rfl) (by kernel_rfl) ⟨e3, e0, e1⟩ ?_
      intro OPS HOPS
      have hops := HOPS.out
      try simp only [List.append_eq, List.cons_append, List.nil_append] at hops
      replace HOPS := Lib.hid hops
      clear hops
      refine walkX_take (o := _) (v := ?_) (by rw [HOPS.out]; simp only [List.getElem?_toArray, List.getElem?_cons_succ, List.getElem?_cons_zero]; exact rfl) (Or.inl ⟨rfl, ?_⟩) ?_
      rotate_left
      · (intro w hSw; (try dsimp only at hSw); go_simp) <;> (with_reducible rfl)
      simp only [Act.put, List.setIfInBounds_toArray, List.set_cons_zero, List.set_cons_succ]
      refine walkX_take (o := _) (v := ?_) (by rw [HOPS.out]; simp only [List.getElem?_toArray, List.getElem?_cons_succ, List.getElem?_cons_zero]; exact rfl) (Or.inl ⟨rfl, ?_⟩) ?_
      rotate_left
      · (intro w hSw; (try dsimp only at hSw); go_simp) <;> (with_reducible rfl)
      simp only [Act.put, List.setIfInBounds_toArray, List.set_cons_zero, List.set_cons_succ]
      refine walkX_take (o := _) (v := ?_) (by rw [HOPS.out]; simp only [List.getElem?_toArray, List.getElem?_cons_succ, List.getElem?_cons_zero]; exact rfl) (Or.inl ⟨rfl, ?_⟩) ?_
      rotate_left
      · (intro w hSw; (try dsimp only at hSw); go_simp) <;> (with_reducible rfl)
      simp only [Act.put, List.setIfInBounds_toArray, List.set_cons_zero, List.set_cons_succ]
      refine walkX_take (o := _) (v := ?_) (by rw [HOPS.out]; simp only [List.getElem?_toArray, List.getElem?_cons_succ, List.getElem?_cons_zero]; exact rfl) (Or.inl ⟨rfl, ?_⟩) ?_
      rotate_left
      · (intro w hSw; (try dsimp only at hSw); go_simp) <;> (with_reducible rfl)
      simp only [Act.put, List.setIfInBounds_toArray, List.set_cons_zero, List.set_cons_succ]
      refine walkX_take (o := _) (v := ?_) (by rw [HOPS.out]; simp only [List.getElem?_toArray, List.getElem?_cons_succ, List.getElem?_cons_zero]; exact rfl) (Or.inl ⟨rfl, ?_⟩) ?_
      rotate_left
      · (intro w hSw; (try dsimp only at hSw); go_simp) <;> (with_reducible rfl)
      simp only [Act.put, List.setIfInBounds_toArray, List.set_cons_zero, List.set_cons_succ]
      refine walkX_take (o := _) (v := ?_) (by rw [HOPS.out]; simp only [List.getElem?_toArray, List.getElem?_cons_succ, List.getElem?_cons_zero]; exact rfl) (Or.inl ⟨rfl, ?_⟩) ?_
      rotate_left
      · (intro w hSw; (try dsimp only at hSw); go_simp) <;> (with_reducible rfl)
      simp only [Act.put, List.setIfInBounds_toArray, List.set_cons_zero, List.set_cons_succ]
      refine walkX_call (o := _) (by rw [HOPS.out]; simp only [List.getElem?_toArray, List.getElem?_cons_succ, List.getElem?_cons_zero]; exact rfl) (fun K HK => ?_)
      refine step_call rfl 56 #[(.tmp 30)] #[68] rfl HEC.out #[.slice (some ⟨db, dp, none⟩) xd.length dc] (by simp [Act.eval]) (bytes_clone (sl_keep HSL2.out fd2 (by simp)) rfl (by omega)) ?_
      rintro e w3 ⟨cv, rfl, f3, ov⟩
      have g3 : Fr [] w2 w3 := fd2.then0 f3
      obtain ⟨gb, gc, rfl, hgc, _, hgs, hgn⟩ := ov.formX ⟨rfl, HL1.out.2⟩
      have HGS := Lib.hid hgs
      have hgl : gb < w3.heap.size := by
        obtain ⟨b', o', e, hb, _⟩ := hgs (by rw [bi_length]; have := HL1.out; omega)
        injection e with e; injection e with e1; omega
      clear hgs ov
      refine ⟨_, rfl, ?_⟩
      refine HK.out (fun w' => w'.cell? ⟨(w.heap.size), 3, none⟩ = some (.slice va q vc) ∧ w'.cell? ⟨(wr.heap.size), 0, none⟩ = some (.slice (some ⟨db, dp, none⟩) xd.length dc) ∧ w'.cell? ⟨(wr.heap.size), 1, none⟩ = some (.int .u64 xa)) _ _ (fun _ h => h) (⟨cell_of (g3.keep HR2.out (by simp)), cell_of (g3.keep HX2.out (by simp)), cell_of (g3.keep HX2.out (by simp))⟩) ?_
      clear HK K
      simp only [Act.put, List.setIfInBounds_toArray, List.set_cons_zero, List.set_cons_succ]
      refine walkX_take (o := _) (v := ?_) (by rw [HOPS.out]; simp only [List.getElem?_toArray, List.getElem?_cons_succ, List.getElem?_cons_zero]; exact rfl) (Or.inl ⟨rfl, ?_⟩) ?_
      rotate_left
      · (intro w hSw; (try dsimp only at hSw); go_simp) <;> (with_reducible rfl)
      simp only [Act.put, List.setIfInBounds_toArray, List.set_cons_zero, List.set_cons_succ]
      refine walkX_call (o := _) (by rw [HOPS.out]; simp only [List.getElem?_toArray, List.getElem?_cons_succ, List.getElem?_cons_zero]; exact rfl) (fun K HK => ?_)
      go_simp
      obtain ⟨w4, hw4, f4, q4⟩ : ∃ W, (w3.alloc (.cells #[.slice (some ⟨gb, 0, none⟩) xd.length gc, .int .u64 xa] 104)) = W ∧ Fr [] w3 W ∧ W.heap[w3.heap.size]? = some (.cells #[.slice (some ⟨gb, 0, none⟩) xd.length gc, .int .u64 xa] 104 (0, 0)) := ⟨_, rfl, (Fr.refl _ _).alloc _, newA rfl⟩
      try rw [hw4]
      have g4 : Fr [] w2 w4 := g3.then0 f4
      refine HK.out (fun w' => w'.cell? ⟨(w.heap.size), 3, none⟩ = some (.slice va q vc) ∧ w'.cell? ⟨(wr.heap.size), 0, none⟩ = some (.slice (some ⟨db, dp, none⟩) xd.length dc) ∧ w'.cell? ⟨(wr.heap.size), 1, none⟩ = some (.int .u64 xa)) _ _ (fun _ h => h) (⟨cell_of (g4.keep HR2.out (by simp)), cell_of (g4.keep HX2.out (by simp)), cell_of (g4.keep HX2.out (by simp))⟩) ?_
      clear HK K
      try simp only [Act.put, List.setIfInBounds_toArray, List.set_cons_zero, List.set_cons_succ]
      refine walkX_call (o := _) (by rw [HOPS.out]; simp only [List.getElem?_toArray, List.getElem?_cons_succ, List.getElem?_cons_zero]; exact rfl) (fun K HK => ?_)
      have z3 := f3.size
      have z4 := f4.size
      have zd : w2.drew.heap.size = w2.heap.size := rfl
      have hS4 := HSH2.out.keep0 g4
      refine step_seg_append rfl (.tmp 28) (.tmp 35) rfl rfl (v := .slice va q vc) (x := (xd, xa)) (u0 := .slice (some ⟨gb, 0, none⟩) xd.length gc) (u1 := .int .u64 xa) (L := gb :: LL) (b := (w.heap.size)) (k := K') (by simp [Act.eval]) (by simp [Act.eval]; try rfl) ((HSG2.out.keep g4 (by simp)).mono (by intro y hy; simp [hy])) (cell_of q4) (cell_of q4) (fun g hg => ⟨⟨gb, 0, gc, rfl, sl_keep HGS.out f4 (by simp), by simp, by omega, by omega, ?_, hgc⟩, rfl⟩) HPOS.out (by have := HL1.out; exact this.2) HQL.out (by omega) (by omega) ?_
      · rcases hg with ⟨o', n', c', e⟩ | hg
        · have h1 := HSH2.out.old
          obtain ⟨G, hG⟩ : ∃ G, G ∈ LL ∧ g = G := by
            rcases HSG2.out with ⟨e0, _⟩ | ⟨g0, o0, cap0, cur0, e0, _, _, _, _, hL0, _⟩
            · rw [e0] at e; cases e
            · rw [e0] at e; injection e with e; injection e with e; injection e with e; exact ⟨g0, hL0, e.symm⟩
          have := h1 G hG.1; omega
        · omega
      intro v5 w5 g' hs5 hg5 hF5
      obtain ⟨a5, c5, e5⟩ := hs5.out.form
      subst e5
      have hr5 : Hid (ShRow w5 (w.heap.size) K' { s with segs := s.segs.take q } (.slice va q vc)) := Lib.hid (by obtain ⟨G, f, hG⟩ := hF5.out; exact f.keep (g4.keep HR2.out (by simp)) (fun hm => (hG _ hm).2.1 rfl))
      have hx5 : Hid (w5.heap[(wr.heap.size)]? = some (.cells #[.slice (some ⟨db, dp, none⟩) xd.length dc, .int .u64 xa] 104 (0, 0))) := Lib.hid (by obtain ⟨G, f, hG⟩ := hF5.out; exact f.keep (g4.keep HX2.out (by simp)) (fun hm => by rcases List.mem_cons.1 (hG _ hm).1 with h | h; omega; exact hXL h))
      refine HK.out (fun w' => w'.cell? ⟨(w.heap.size), 3, none⟩ = some (.slice va q vc) ∧ w'.cell? ⟨(wr.heap.size), 0, none⟩ = some (.slice (some ⟨db, dp, none⟩) xd.length dc) ∧ w'.cell? ⟨(wr.heap.size), 1, none⟩ = some (.int .u64 xa)) _ _ (fun _ h => h) (⟨cell_of hr5.out, cell_of hx5.out, cell_of hx5.out⟩) ?_
      clear HK K
      try simp only [Act.put, List.setIfInBounds_toArray, List.set_cons_zero, List.set_cons_succ]
      refine walkX_take (o := _) (v := ?_) (by rw [HOPS.out]; simp only [List.getElem?_toArray, List.getElem?_cons_succ, List.getElem?_cons_zero]; exact rfl) (Or.inl ⟨rfl, ?_⟩) ?_
      rotate_left
      · (intro w hSw; (try dsimp only at hSw); go_simp) <;> (with_reducible rfl)
      simp only [Act.put, List.setIfInBounds_toArray, List.set_cons_zero, List.set_cons_succ]
      refine walkX_tail ?_
      refine walkTail_step (o := _) (by rw [HOPS.out]; simp only [List.getElem?_toArray, List.getElem?_cons_succ, List.getElem?_cons_zero]; exact rfl) (fun K HK => ?_)
      have c5' : w5.cell? ⟨(w.heap.size), 3, none⟩ = some (.slice va q vc) := cell_of hr5.out
      have f5' : w5.frozen? ⟨(w.heap.size), 3, none⟩ = false := free_of hr5.out
      go_simp
      have hpu := hS4.push (g4.keep HR2.out (by simp)) hs5.out hg5.out hF5.out (by omega) HOK.out
      obtain ⟨w6, hw6⟩ : ∃ W, w5.setCell ⟨(w.heap.size), 3, none⟩ (.slice a5 (s.segs.take q ++ [(xd, xa)]).length c5) = W := ⟨_, rfl⟩
      rw [List.length_append, List.length_singleton, HQ2.out] at hw6
      rw [List.length_append, List.length_singleton, HQ2.out, hw6] at hpu
      try rw [List.length_append, List.length_singleton, HQ2.out]
      rw [hw6]
      refine HK.out _ _ ?_
      clear HK K
      try simp only [Act.put, List.setIfInBounds_toArray, List.set_cons_zero, List.set_cons_succ]
      refine walkTail_done ?_
      clear HOPS OPS
      try simp only [Exit.then]
      have HFIN : Hid (Shp w6 (g' :: gb :: LL) (w.heap.size) K' { s with segs := s.segs.take (q + 1) } ∧ Fr [] w w6 ∧ ∀ y ∈ g' :: gb :: LL, w.heap.size ≤ y) := Lib.hid (by
        have zg := g.size
        have hF : Fr [] w w6 := ((g.then0 fX).then0 g4).trans hpu.2 (by simp) (fun x hx => by rcases List.mem_cons.1 hx with rfl | hx; exact .inr (by omega); exact .inr (HLL.out x hx))
        refine ⟨by rw [HQ1.out]; exact hpu.1, hF, fun y hy => ?_⟩
        rcases List.mem_cons.1 hy with rfl | hy
        · rcases hg5.out.1 with h | h
          · rcases List.mem_cons.1 h with rfl | h
            · omega
            · exact HLL.out _ h
          · omega
        · rcases List.mem_cons.1 hy with rfl | hy
          · omega
          · exact HLL.out _ hy)
      clear hpu hw6 hw4 hw2 f3 f4 g3 g4 q4 HGS hF5 hs5 hg5 hr5 hx5 c5' f5' HS HSG2 HSH2 HR2 HX2 HSL2 e0 e1 e3 hgl hgn fd2 z3 z4 zd fX hS4 hXL
      go_wp2_with fail
      go_roundw
      case rel => exact ⟨q + 1, g' :: gb :: LL, K', by omega, by go_num, Lib.hid HFIN.out.1, Lib.hid HFIN.out.2.2, HFIN.out.2.1⟩
      case measure => simp [intOf]; omega
    · obtain rfl : q = s.segs.length := by omega
      have hlt' : ¬ ((s.segs.length : Int) < s.segs.length) := by omega
      have HS2 := HS.out
      rw [List.take_length] at HS2
      replace HS2 := Lib.hid HS2
      clear HS
      go_wp2_with fail
      go_ret
      exact ⟨_, rfl, g, K', LL, HS2.out, HLL.out⟩
end
end Go.Proofs.Ytdndabklcenndaa
