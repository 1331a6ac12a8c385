/-
  Law 5: RopeTakes.
-/
import Derived.Test.YtpkgjgfdobcboaaRopeJoins
import Derived.BigRegion
namespace Go.Proofs.Ytpkgjgfdobcboaa
open Go.ChangeShapes Go.WideShapes Go.RowKit Go.Shelf
set_option maxRecDepth 100000

/-- A slice of ints. -/
structure IntsAt (w : World) (M : Nat) (a : Option Addr) (len cap : Nat) (L : List Int) : Prop where
  len_eq : len = L.length
  le : len ≤ cap
  cap_le : cap ≤ maxLen
  sl : SlV w a (L.map (Value.int .i64))
  wf : ∀ n ∈ L, -9223372036854775808 ≤ n ∧ n ≤ 9223372036854775807
theorem ints_of {H : Type} {enc : TypeId × Value → H} {w : World} {base : Nat} {fuel : Nat} {a : Option Addr} {len cap : Nat} {x : DataW H × List MemPlace}
    (h : DataW.trod enc Try.prog w base (fun _ => true) true fuel 80 [.slice a len cap] = some x) : ∃ L, IntsAt w w.heap.size a len cap L := by
  rcases open_ints Try.underlying80 Try.underlying3 (by kernel_rfl) h with ⟨hcs, _⟩ | ⟨a', len', cap', zs, hcs, hb, hl, hm, hz, hx, hc, hw⟩
  · simp at hcs
    obtain ⟨rfl, rfl, rfl⟩ := hcs
    exact ⟨[], rfl, Nat.le_refl _, by unfold maxLen; omega, SlV.nil _ _, by simp⟩
  · simp only [List.cons.injEq, Value.slice.injEq, and_true] at hcs
    obtain ⟨rfl, rfl, rfl⟩ := hcs
    simp only [if_true] at hz
    have key : 0 < len → ∃ b o, a' = ⟨b, o, none⟩ := fun h0 => by
      obtain ⟨b, o, s⟩ := a'
      have := hc 0 (by omega)
      have hs : s = none := by simpa [Addr.add] using World.cell?_spot this
      exact ⟨b, o, by rw [hs]⟩
    refine ⟨zs.take len, by simp; omega, hl, hm, ?_, ?_⟩
    · intro h0
      rw [List.length_map, List.length_take] at h0
      obtain ⟨b, o, rfl⟩ := key (by omega)
      refine ⟨b, o, rfl, World.block_lt_of_cell? _ _ (hc 0 (by omega)), fun i hi => ?_⟩
      rw [List.length_map, List.length_take] at hi
      have h1 := hc i (by omega)
      rw [addr_add] at h1
      rw [h1, List.getElem?_map, List.getElem?_take, if_pos (by omega), List.getElem?_eq_getElem (by omega)]
      simp [List.getD, show i < zs.length from by omega]
    · intro p hp
      exact wf_i64 (hw p (List.mem_of_mem_take hp))

def tkE (n : Int) : Int := if n < 0 then 2 else 0
def tkF (P : Parts) (n : Int) : Parts := if n < 0 then [] else cutF P n.toNat
def tkR (P : Parts) (n : Int) : Parts := if n < 0 then [] else cutR P n.toNat
theorem rope_takeU {w : World} {N : Nat → Prop} {v : Value} {P : Parts} (h : Rp w N v P) (n : Int) :
    Calls Try.prog 49 #[v, .int .i64 n] w fun e w' =>
      ∃ v1 v2, e = .returned (.tuple #[v1, v2, .int .i64 (tkE n)]) ∧ Fr [] w w' ∧ Rp w' (fun b => N b ∨ w.heap.size ≤ b) v1 (tkF P n) ∧ Rp w' (fun b => N b ∨ w.heap.size ≤ b) v2 (tkR P n) := by
  unfold tkE tkF tkR
  by_cases hn : n < 0
  · rw [if_pos hn, if_pos hn, if_pos hn]
    exact (take_bad h hn).mono fun e w' ⟨he, f⟩ => ⟨_, _, he, f, Rp.none_ _ _, Rp.none_ _ _⟩
  · rw [if_neg hn, if_neg hn, if_neg hn]
    exact (rope_take h (by omega)).mono fun e w' he => he
theorem ref5_takeU {w : World} {N : Nat → Prop} {v : Value} {P : Parts} (h : Rs w N v P) (hf : Full P) (hn : P.length ≤ 100000) (ht : tot P ≤ 1000000) (n : Int) (hm : n ≤ 9223372036854775807) :
    Calls Try.prog 50 #[v, .int .i64 n] w fun e w' =>
      ∃ v1 v2, e = .returned (.tuple #[v1, v2, .int .i64 (tkE n)]) ∧ Fr [] w w' ∧ Rs w' (fun b => w.heap.size ≤ b) v1 (tkF P n) ∧ Rs w' (fun b => w.heap.size ≤ b) v2 (tkR P n) := by
  unfold tkE tkF tkR
  by_cases h0 : n < 0
  · rw [if_pos h0, if_pos h0, if_pos h0]
    exact (ref5_take_bad h h0).mono fun e w' ⟨he, f⟩ => ⟨_, _, he, f, Rs.none_ _ _, Rs.none_ _ _⟩
  · rw [if_neg h0, if_neg h0, if_neg h0]
    have := ref5_take h hf hn ht n.toNat (by omega)
    rw [show ((n.toNat : Nat) : Int) = n from by omega] at this
    exact this.mono fun e w' he => he

theorem Rp.bd {w : World} {N : Nat → Prop} {v : Value} {P : Parts} (h : Rp w N v P) : Full P ∧ P.length ≤ 1024 ∧ tot P ≤ 65536 := by
  obtain ⟨_, _, _, _, _, _, h1, h2, h3⟩ := h
  exact ⟨h1, h2, h3⟩

theorem over05 {w : World} {N : Nat → Prop} {b b' : Nat} {a a' : Option Addr} {n c n' c' : Nat} {t : Int} {P P' : Parts} {x y x' : Value} (q : w.heap[b]? = some (.cells #[x, y] 65 (0, 0))) (q' : w.heap[b']? = some (.cells #[x'] 69 (0, 0))) (hb : b ≠ b')
    (h : Rp w N (.agg #[.slice a n c, .int .i64 t]) P) (h' : Rs w N (.agg #[.slice a' n' c']) P') (hN : ¬ N b) (hN' : ¬ N b') :
    ∃ W, W = (((w.setCell ⟨b, 0, none⟩ (.slice a n c)).setCell ⟨b, 1, none⟩ (.int .i64 t)).setCell ⟨b', 0, none⟩ (.slice a' n' c')).drew ∧ Fr [b, b'] w W ∧ Hid (Bd W N b a n c t P) ∧ Hid (Rd W N b' a' n' c' P') := by
  have f : Fr [b, b'] w (((w.setCell ⟨b, 0, none⟩ (.slice a n c)).setCell ⟨b, 1, none⟩ (.int .i64 t)).setCell ⟨b', 0, none⟩ (.slice a' n' c')) :=
    (((Fr.refl [b, b'] w).setCell (.inl (by simp)) _).setCell (.inl (by simp)) _).setCell (.inl (by simp)) _
  have hk : ∀ x ∈ [b, b'], ¬ N x := by intro x hx; simp at hx; rcases hx with rfl | rfl <;> assumption
  have e0 := heap_setCell_eq (i := 0) (u := .slice a n c) q
  have e1 := heap_setCell_eq (i := 1) (u := .int .i64 t) e0
  have e2 : ((w.setCell ⟨b, 0, none⟩ (.slice a n c)).setCell ⟨b, 1, none⟩ (.int .i64 t)).heap[b']? = _ := keepS (keepS q' (by dsimp only; omega)) (by dsimp only; omega)
  have e3 := heap_setCell_eq (i := 0) (u := .slice a' n' c') e2
  have e4 : (((w.setCell ⟨b, 0, none⟩ (.slice a n c)).setCell ⟨b, 1, none⟩ (.int .i64 t)).setCell ⟨b', 0, none⟩ (.slice a' n' c')).heap[b]? = some (.cells #[.slice a n c, .int .i64 t] 65 (0, 0)) := by simpa using keepS e1 (by dsimp only; omega)
  have e5 : (((w.setCell ⟨b, 0, none⟩ (.slice a n c)).setCell ⟨b, 1, none⟩ (.int .i64 t)).setCell ⟨b', 0, none⟩ (.slice a' n' c')).heap[b']? = some (.cells #[.slice a' n' c'] 69 (0, 0)) := by simpa using e3
  exact ⟨_, rfl, f.drew, Lib.hid ⟨e4, h.keep f.drew hk⟩, Lib.hid ⟨e5, h'.keep f.drew hk⟩⟩

set_option maxHeartbeats 8000000 in
theorem ropeTakes_walk {w : World} {M : Nat} {a b : Option Addr} {len cap dlen dcap : Nat} {P : Parts} {L : List Int} (h : StrsAt w M a len cap P) (k : IntsAt w M b dlen dcap L) :
    Calls Try.prog 10 #[.slice a len cap, .slice b dlen dcap] w fun e w' => e = .returned (.bool true) ∧ Fr [] w w' := by
  have hlen := h.len_eq
  have klen := k.len_eq
  subst hlen klen
  have hmx : (P.length : Int) ≤ 9223372036854775807 := by have := h.cap_le; have := h.le; unfold maxLen at *; omega
  have kmx : (L.length : Int) ≤ 9223372036854775807 := by have := k.cap_le; have := k.le; unfold maxLen at *; omega
  have HS1 := small05 h
  by_cases s1 : small5 P = true
  rotate_left
  · rw [show small5 P = false from by simpa using s1] at HS1
    replace HS1 := Lib.hid HS1
    clear h k s1
    go_enter Try.func10, Try.ntmps10
    go_wp2_with fail
    refine HS1.out.mono ?_
    rintro e w' ⟨rfl, rfl⟩
    go_wp2_with fail
    refine (known05 _).mono ?_
    rintro e w' ⟨rfl, f⟩
    go_wp2_with fail
    go_ret
    exact ⟨rfl, f⟩
  rw [s1] at HS1
  replace HS1 := Lib.hid HS1
  by_cases h60 : (60 : Int) < P.length
  · go_enter Try.func10, Try.ntmps10
    clear h k s1
    go_wp2_with fail
    refine HS1.out.mono ?_
    rintro e w' ⟨rfl, rfl⟩
    go_wp2_with fail
    refine (known05 _).mono ?_
    rintro e w' ⟨rfl, f⟩
    go_wp2_with fail
    go_ret
    exact ⟨rfl, f⟩
  replace h60 : (P.length : Int) ≤ 60 := by omega
  by_cases h40 : (40 : Int) < L.length
  · go_enter Try.func10, Try.ntmps10
    clear h k s1
    go_wp2_with fail
    refine HS1.out.mono ?_
    rintro e w' ⟨rfl, rfl⟩
    go_wp2_with fail
    refine (known05 _).mono ?_
    rintro e w' ⟨rfl, f⟩
    go_wp2_with fail
    go_ret
    exact ⟨rfl, f⟩
  replace h40 : (L.length : Int) ≤ 40 := by omega
  have hp := small5_of s1
  have HM1 := Lib.hid fun (w1 : World) (f : Fr [] w w1) => made05 (cap := cap) (h.sl.keep f (by simp)) rfl (by omega) (small5_parts s1)
  have HN1 := Lib.hid fun (w1 : World) (f : Fr [] w w1) => (ref5_new (cap := cap) (show SlV w1 _ (sv P) from h.sl.keep f (by simp)) rfl (by omega) (by omega)).mono fun e w2 hr => hr.u
  have HA := Lib.hid fun (w1 : World) (f : Fr [] w w1) => k.sl.keep f (by simp)
  have HW := Lib.hid k.wf
  clear h k hp s1
  unfold NewU at HM1
  unfold RefU at HN1
  generalize newP P = X at *
  generalize newE P = e1 at *
  go_enter Try.func10, Try.ntmps10
  go_wp2_with fail
  refine HS1.out.mono ?_
  rintro e w' ⟨rfl, rfl⟩
  have g0 : Fr [] w w := Fr.refl _ _
  go_wp2_with fail
  refine (HM1.out _ g0).mono ?_
  rintro e w1 ⟨f, v, rfl, hr⟩
  replace hr := hr.there.mono (N' := fun b => b < w1.heap.size) (fun x hx => hx.2)
  have g1 : Fr [] w w1 := g0.then0 f
  clear g0
  clear f
  obtain ⟨a1, n1, c1, t1, rfl⟩ := hr.form
  go_wp2_with fail
  obtain ⟨w2, B1, hW, hB, hD, f, H1⟩ := Bd.new1 hr
  rw [← hW, ← hB]
  try rw [hD]
  have l1 : w1.heap.size ≤ B1 := by omega
  have lw1 : w.heap.size ≤ B1 := by have := g1.size; omega
  clear hW hB hD hr
  have g2 : Fr [] w w2 := g1.then0 f
  clear g1
  clear f
  have x1 := H1.out.c0
  have y1 := H1.out.c1
  have z1 := H1.out.lt
  refine (HN1.out _ g2).mono ?_
  rintro e w3 ⟨f, v, rfl, hr⟩
  replace hr := hr.there.mono (N' := fun b => b ≠ B1 ∧ b < w3.heap.size) (fun x hx => ⟨by omega, hx.2⟩)
  have g3 : Fr [] w w3 := g2.then0 f
  clear g2
  replace H1 := Lib.hid (H1.out.keep f (by simp) (by simp))
  replace x1 := H1.out.c0
  replace y1 := H1.out.c1
  replace z1 := H1.out.lt
  clear f
  obtain ⟨a2, n2, c2, rfl⟩ := hr.form
  have hz1 := z1
  go_wp2_with fail
  obtain ⟨w4, B2, hW, hB, hD, f, H2⟩ := Rd.new1 hr
  rw [← hW, ← hB]
  try rw [hD]
  have l2 : w3.heap.size ≤ B2 := by omega
  have lw2 : w.heap.size ≤ B2 := by have := g3.size; omega
  clear hW hB hD hr
  have g4 : Fr [] w w4 := g3.then0 f
  clear g3
  replace H1 := Lib.hid (H1.out.keep f (by simp) (by simp))
  replace x1 := H1.out.c0
  replace y1 := H1.out.c1
  replace z1 := H1.out.lt
  clear f
  have x2 := H2.out.c0
  have z2 := H2.out.lt
  replace H1 := Lib.hid (⟨H1.out.q, H1.out.r.mono (N' := fun b => b ≠ B1 ∧ b ≠ B2) (fun x hx => by omega)⟩ : Bd w4 (fun b => b ≠ B1 ∧ b ≠ B2) B1 a1 n1 c1 t1 X)
  replace H2 := Lib.hid (⟨H2.out.q, H2.out.r.mono (N' := fun b => b ≠ B1 ∧ b ≠ B2) (fun x hx => by omega)⟩ : Rd w4 (fun b => b ≠ B1 ∧ b ≠ B2) B2 a2 n2 c2 X)
  have hB12 : B1 ≠ B2 := by omega
  have hB21 : B2 ≠ B1 := by omega
  clear l1 l2 hz1 x1 y1 z1 x2 z2
  go_loopw [52] (fun i wr => ∃ (k : Nat) (Q : Parts) (a n c : _) (t : Int) (a' : Option Addr) (n' c' : Nat), k ≤ L.length ∧ i = .int .i64 k ∧ Hid (Bd wr (fun b => b ≠ B1 ∧ b ≠ B2) B1 a n c t Q) ∧ Hid (Rd wr (fun b => b ≠ B1 ∧ b ≠ B2) B2 a' n' c' Q) ∧ Fr [] w wr) (fun i _ => L.length - (intOf i).toNat)
  case atStart => exact ⟨0, X, _, _, _, _, _, _, _, by omega, rfl, H1, H2, g4⟩
  case round =>
    clear H1 H2 g4
    obtain ⟨k, Q, a1, n1, c1, t1, a2, n2, c2, hk, rfl, H1, H2, g5⟩ := hrel
    rename World => w5
    have x1 := H1.out.c0
    have y1 := H1.out.c1
    have z1 := H1.out.lt
    have x2 := H2.out.c0
    have z2 := H2.out.lt
    have HB := Lib.hid H1.out.r.bd
    by_cases hlt : (k : Int) < L.length
    rotate_left
    · go_wp2_with fail
      refine (known05 _).mono ?_
      rintro e w' ⟨rfl, f⟩
      go_wp2_with fail
      go_ret
      exact ⟨rfl, g5.then0 f⟩
    have hlt' : k < L.length := by omega
    have hin := (HA.out _ g5) (by rw [List.length_map]; omega)
    obtain ⟨sb, so, rfl, hsb, hsc⟩ := hin
    have hcell : w5.cell? ⟨sb, so + k, none⟩ = some (.int .i64 L[k]) := by
      rw [hsc k (by rw [List.length_map]; exact hlt'), List.getElem?_map, List.getElem?_eq_getElem hlt']
      rfl
    have hw := HW.out _ (List.getElem_mem hlt')
    generalize L[k] = m at hcell hw
    clear hsc HA
    have HTA := Lib.hid fun (w1 : World) (N : Nat → Prop) (v : Value) (h1 : Rp w1 N v Q) => rope_takeU h1 m
    have HTB := Lib.hid fun (w1 : World) (N : Nat → Prop) (v : Value) (h1 : Rs w1 N v Q) => ref5_takeU h1 HB.out.1 (by have := HB.out.2.1; omega) (by have := HB.out.2.2; omega) m hw.2
    generalize tkE m = er at HTA HTB
    generalize tkF Q m = Y1 at HTA HTB
    generalize tkR Q m = Y2 at HTA HTB
    have HQL := Lib.hid HB.out.2.1
    clear hw HB HW
    go_wp2_with fail
    refine (HTA.out _ _ _ H1.out.r).mono ?_
    rintro e w6 ⟨v1, v2, rfl, f, ha, hb⟩
    replace ha := ha.mono (N' := fun b => b ≠ B1 ∧ b ≠ B2) (fun x hx => by omega)
    replace hb := hb.mono (N' := fun b => b ≠ B1 ∧ b ≠ B2) (fun x hx => by omega)
    have g6 : Fr [] w w6 := g5.then0 f
    clear g5
    replace H1 := Lib.hid (H1.out.keep f (by simp) (by simp))
    replace x1 := H1.out.c0
    replace y1 := H1.out.c1
    replace z1 := H1.out.lt
    replace H2 := Lib.hid (H2.out.keep f (by simp) (by simp))
    replace x2 := H2.out.c0
    replace z2 := H2.out.lt
    clear f
    clear hcell
    obtain ⟨a3, n3, c3, t3, rfl⟩ := ha.form
    obtain ⟨a4, n4, c4, t4, rfl⟩ := hb.form
    go_wp2_with fail
    obtain ⟨w7, B3, B4, hW, hB, hC, hD, f, H3, H4⟩ := Bd.two' ha hb
    rw [← hW, ← hC, ← hB]
    try rw [hD]
    have d1_3 : B1 ≠ B3 := by omega
    have d3_1 : B3 ≠ B1 := by omega
    have d1_4 : B1 ≠ B4 := by omega
    have d4_1 : B4 ≠ B1 := by omega
    have d2_3 : B2 ≠ B3 := by omega
    have d3_2 : B3 ≠ B2 := by omega
    have d2_4 : B2 ≠ B4 := by omega
    have d4_2 : B4 ≠ B2 := by omega
    clear hW hB hC hD ha hb
    have g7 : Fr [] w w7 := g6.then0 f
    clear g6
    replace H1 := Lib.hid (H1.out.keep f (by simp) (by simp))
    replace x1 := H1.out.c0
    replace y1 := H1.out.c1
    replace z1 := H1.out.lt
    replace H2 := Lib.hid (H2.out.keep f (by simp) (by simp))
    replace x2 := H2.out.c0
    replace z2 := H2.out.lt
    clear f
    have x3 := H3.out.c0
    have y3 := H3.out.c1
    have z3 := H3.out.lt
    have x4 := H4.out.c0
    have y4 := H4.out.c1
    have z4 := H4.out.lt
    refine (HTB.out _ _ _ H2.out.r).mono ?_
    rintro e w8 ⟨v1, v2, rfl, f, ha, hb⟩
    replace ha := ha.mono (N' := fun b => b ≠ B1 ∧ b ≠ B2) (fun x hx => by omega)
    replace hb := hb.mono (N' := fun b => b ≠ B1 ∧ b ≠ B2) (fun x hx => by omega)
    have g8 : Fr [] w w8 := g7.then0 f
    clear g7
    replace H1 := Lib.hid (H1.out.keep f (by simp) (by simp))
    replace x1 := H1.out.c0
    replace y1 := H1.out.c1
    replace z1 := H1.out.lt
    replace H2 := Lib.hid (H2.out.keep f (by simp) (by simp))
    replace x2 := H2.out.c0
    replace z2 := H2.out.lt
    replace H3 := Lib.hid (H3.out.keep f (by simp) (by simp))
    replace x3 := H3.out.c0
    replace y3 := H3.out.c1
    replace z3 := H3.out.lt
    replace H4 := Lib.hid (H4.out.keep f (by simp) (by simp))
    replace x4 := H4.out.c0
    replace y4 := H4.out.c1
    replace z4 := H4.out.lt
    clear f
    obtain ⟨a5, n5, c5, rfl⟩ := ha.form
    obtain ⟨a6, n6, c6, rfl⟩ := hb.form
    go_wp2_with fail
    obtain ⟨w9, B5, B6, hW, hB, hC, hD, f, H5, H6⟩ := Rd.two ha hb
    rw [← hW, ← hC, ← hB]
    try rw [hD]
    have d1_5 : B1 ≠ B5 := by omega
    have d5_1 : B5 ≠ B1 := by omega
    have d1_6 : B1 ≠ B6 := by omega
    have d6_1 : B6 ≠ B1 := by omega
    have d2_5 : B2 ≠ B5 := by omega
    have d5_2 : B5 ≠ B2 := by omega
    have d2_6 : B2 ≠ B6 := by omega
    have d6_2 : B6 ≠ B2 := by omega
    clear hW hB hC hD ha hb
    have g9 : Fr [] w w9 := g8.then0 f
    clear g8
    replace H1 := Lib.hid (H1.out.keep f (by simp) (by simp))
    replace x1 := H1.out.c0
    replace y1 := H1.out.c1
    replace z1 := H1.out.lt
    replace H2 := Lib.hid (H2.out.keep f (by simp) (by simp))
    replace x2 := H2.out.c0
    replace z2 := H2.out.lt
    replace H3 := Lib.hid (H3.out.keep f (by simp) (by simp))
    replace x3 := H3.out.c0
    replace y3 := H3.out.c1
    replace z3 := H3.out.lt
    replace H4 := Lib.hid (H4.out.keep f (by simp) (by simp))
    replace x4 := H4.out.c0
    replace y4 := H4.out.c1
    replace z4 := H4.out.lt
    clear f
    have x5 := H5.out.c0
    have z5 := H5.out.lt
    have x6 := H6.out.c0
    have z6 := H6.out.lt
    refine (parts_ok H3.out.r).mono ?_
    rintro e w10 ⟨v, rfl, f, hr⟩
    replace hr := hr.mono (N' := fun _ => True) (fun _ _ => trivial)
    have g10 : Fr [] w w10 := g9.then0 f
    clear g9
    replace H1 := Lib.hid (H1.out.keep f (by simp) (by simp))
    replace x1 := H1.out.c0
    replace y1 := H1.out.c1
    replace z1 := H1.out.lt
    replace H2 := Lib.hid (H2.out.keep f (by simp) (by simp))
    replace x2 := H2.out.c0
    replace z2 := H2.out.lt
    replace H3 := Lib.hid (H3.out.keep f (by simp) (by simp))
    replace x3 := H3.out.c0
    replace y3 := H3.out.c1
    replace z3 := H3.out.lt
    replace H4 := Lib.hid (H4.out.keep f (by simp) (by simp))
    replace x4 := H4.out.c0
    replace y4 := H4.out.c1
    replace z4 := H4.out.lt
    replace H5 := Lib.hid (H5.out.keep f (by simp) (by simp))
    replace x5 := H5.out.c0
    replace z5 := H5.out.lt
    replace H6 := Lib.hid (H6.out.keep f (by simp) (by simp))
    replace x6 := H6.out.c0
    replace z6 := H6.out.lt
    clear f
    obtain ⟨a7, n7, c7, rfl⟩ := hr.form
    go_wp2_with fail
    obtain ⟨w11, B7, hW, hB, hD, f, H7⟩ := Rd.new1 hr
    rw [← hW, ← hB]
    try rw [hD]
    clear hW hB hD hr
    have g11 : Fr [] w w11 := g10.then0 f
    clear g10
    replace H1 := Lib.hid (H1.out.keep f (by simp) (by simp))
    replace x1 := H1.out.c0
    replace y1 := H1.out.c1
    replace z1 := H1.out.lt
    replace H2 := Lib.hid (H2.out.keep f (by simp) (by simp))
    replace x2 := H2.out.c0
    replace z2 := H2.out.lt
    replace H3 := Lib.hid (H3.out.keep f (by simp) (by simp))
    replace x3 := H3.out.c0
    replace y3 := H3.out.c1
    replace z3 := H3.out.lt
    replace H4 := Lib.hid (H4.out.keep f (by simp) (by simp))
    replace x4 := H4.out.c0
    replace y4 := H4.out.c1
    replace z4 := H4.out.lt
    replace H5 := Lib.hid (H5.out.keep f (by simp) (by simp))
    replace x5 := H5.out.c0
    replace z5 := H5.out.lt
    replace H6 := Lib.hid (H6.out.keep f (by simp) (by simp))
    replace x6 := H6.out.c0
    replace z6 := H6.out.lt
    clear f
    have x7 := H7.out.c0
    have z7 := H7.out.lt
    refine (parts_ok H4.out.r).mono ?_
    rintro e w12 ⟨v, rfl, f, hr⟩
    replace hr := hr.mono (N' := fun _ => True) (fun _ _ => trivial)
    have g12 : Fr [] w w12 := g11.then0 f
    clear g11
    replace H1 := Lib.hid (H1.out.keep f (by simp) (by simp))
    replace x1 := H1.out.c0
    replace y1 := H1.out.c1
    replace z1 := H1.out.lt
    replace H2 := Lib.hid (H2.out.keep f (by simp) (by simp))
    replace x2 := H2.out.c0
    replace z2 := H2.out.lt
    replace H3 := Lib.hid (H3.out.keep f (by simp) (by simp))
    replace x3 := H3.out.c0
    replace y3 := H3.out.c1
    replace z3 := H3.out.lt
    replace H4 := Lib.hid (H4.out.keep f (by simp) (by simp))
    replace x4 := H4.out.c0
    replace y4 := H4.out.c1
    replace z4 := H4.out.lt
    replace H5 := Lib.hid (H5.out.keep f (by simp) (by simp))
    replace x5 := H5.out.c0
    replace z5 := H5.out.lt
    replace H6 := Lib.hid (H6.out.keep f (by simp) (by simp))
    replace x6 := H6.out.c0
    replace z6 := H6.out.lt
    replace H7 := Lib.hid (H7.out.keep f (by simp) (by simp))
    replace x7 := H7.out.c0
    replace z7 := H7.out.lt
    clear f
    obtain ⟨a8, n8, c8, rfl⟩ := hr.form
    go_wp2_with fail
    obtain ⟨w13, B8, hW, hB, hD, f, H8⟩ := Rd.new1 hr
    rw [← hW, ← hB]
    try rw [hD]
    clear hW hB hD hr
    have g13 : Fr [] w w13 := g12.then0 f
    clear g12
    replace H1 := Lib.hid (H1.out.keep f (by simp) (by simp))
    replace x1 := H1.out.c0
    replace y1 := H1.out.c1
    replace z1 := H1.out.lt
    replace H2 := Lib.hid (H2.out.keep f (by simp) (by simp))
    replace x2 := H2.out.c0
    replace z2 := H2.out.lt
    replace H3 := Lib.hid (H3.out.keep f (by simp) (by simp))
    replace x3 := H3.out.c0
    replace y3 := H3.out.c1
    replace z3 := H3.out.lt
    replace H4 := Lib.hid (H4.out.keep f (by simp) (by simp))
    replace x4 := H4.out.c0
    replace y4 := H4.out.c1
    replace z4 := H4.out.lt
    replace H5 := Lib.hid (H5.out.keep f (by simp) (by simp))
    replace x5 := H5.out.c0
    replace z5 := H5.out.lt
    replace H6 := Lib.hid (H6.out.keep f (by simp) (by simp))
    replace x6 := H6.out.c0
    replace z6 := H6.out.lt
    replace H7 := Lib.hid (H7.out.keep f (by simp) (by simp))
    replace x7 := H7.out.c0
    replace z7 := H7.out.lt
    clear f
    have x8 := H8.out.c0
    have z8 := H8.out.lt
    have HL3 := Lib.hid H3.out.r.bd.2.1
    have HL4 := Lib.hid H4.out.r.bd.2.1
    refine (same05y H7.out.r H5.out.r (by have := HL3.out; omega)).mono ?_
    rintro e w14 ⟨rfl, f⟩
    have g14 : Fr [] w w14 := g13.then0 f
    clear g13
    replace H1 := Lib.hid (H1.out.keep f (by simp) (by simp))
    replace x1 := H1.out.c0
    replace y1 := H1.out.c1
    replace z1 := H1.out.lt
    replace H2 := Lib.hid (H2.out.keep f (by simp) (by simp))
    replace x2 := H2.out.c0
    replace z2 := H2.out.lt
    replace H3 := Lib.hid (H3.out.keep f (by simp) (by simp))
    replace x3 := H3.out.c0
    replace y3 := H3.out.c1
    replace z3 := H3.out.lt
    replace H4 := Lib.hid (H4.out.keep f (by simp) (by simp))
    replace x4 := H4.out.c0
    replace y4 := H4.out.c1
    replace z4 := H4.out.lt
    replace H5 := Lib.hid (H5.out.keep f (by simp) (by simp))
    replace x5 := H5.out.c0
    replace z5 := H5.out.lt
    replace H6 := Lib.hid (H6.out.keep f (by simp) (by simp))
    replace x6 := H6.out.c0
    replace z6 := H6.out.lt
    replace H7 := Lib.hid (H7.out.keep f (by simp) (by simp))
    replace x7 := H7.out.c0
    replace z7 := H7.out.lt
    replace H8 := Lib.hid (H8.out.keep f (by simp) (by simp))
    replace x8 := H8.out.c0
    replace z8 := H8.out.lt
    clear f
    clear x7 z7
    clear H7
    clear x5 z5
    clear H5
    clear x3 z3 y3
    clear H3
    go_wp2_with fail
    refine (same05y H8.out.r H6.out.r (by have := HL4.out; omega)).mono ?_
    rintro e w15 ⟨rfl, f⟩
    have g15 : Fr [] w w15 := g14.then0 f
    clear g14
    replace H1 := Lib.hid (H1.out.keep f (by simp) (by simp))
    replace x1 := H1.out.c0
    replace y1 := H1.out.c1
    replace z1 := H1.out.lt
    replace H2 := Lib.hid (H2.out.keep f (by simp) (by simp))
    replace x2 := H2.out.c0
    replace z2 := H2.out.lt
    replace H4 := Lib.hid (H4.out.keep f (by simp) (by simp))
    replace x4 := H4.out.c0
    replace y4 := H4.out.c1
    replace z4 := H4.out.lt
    replace H6 := Lib.hid (H6.out.keep f (by simp) (by simp))
    replace x6 := H6.out.c0
    replace z6 := H6.out.lt
    replace H8 := Lib.hid (H8.out.keep f (by simp) (by simp))
    replace x8 := H8.out.c0
    replace z8 := H8.out.lt
    clear f
    clear x8 z8
    clear H8
    go_wp2_with fail
    refine (parts_ok H1.out.r).mono ?_
    rintro e w16 ⟨v, rfl, f, hr⟩
    replace hr := hr.mono (N' := fun _ => True) (fun _ _ => trivial)
    have g16 : Fr [] w w16 := g15.then0 f
    clear g15
    replace H1 := Lib.hid (H1.out.keep f (by simp) (by simp))
    replace x1 := H1.out.c0
    replace y1 := H1.out.c1
    replace z1 := H1.out.lt
    replace H2 := Lib.hid (H2.out.keep f (by simp) (by simp))
    replace x2 := H2.out.c0
    replace z2 := H2.out.lt
    replace H4 := Lib.hid (H4.out.keep f (by simp) (by simp))
    replace x4 := H4.out.c0
    replace y4 := H4.out.c1
    replace z4 := H4.out.lt
    replace H6 := Lib.hid (H6.out.keep f (by simp) (by simp))
    replace x6 := H6.out.c0
    replace z6 := H6.out.lt
    clear f
    obtain ⟨a9, n9, c9, rfl⟩ := hr.form
    go_wp2_with fail
    obtain ⟨w17, B9, hW, hB, hD, f, H9⟩ := Rd.new1 hr
    rw [← hW, ← hB]
    try rw [hD]
    clear hW hB hD hr
    have g17 : Fr [] w w17 := g16.then0 f
    clear g16
    replace H1 := Lib.hid (H1.out.keep f (by simp) (by simp))
    replace x1 := H1.out.c0
    replace y1 := H1.out.c1
    replace z1 := H1.out.lt
    replace H2 := Lib.hid (H2.out.keep f (by simp) (by simp))
    replace x2 := H2.out.c0
    replace z2 := H2.out.lt
    replace H4 := Lib.hid (H4.out.keep f (by simp) (by simp))
    replace x4 := H4.out.c0
    replace y4 := H4.out.c1
    replace z4 := H4.out.lt
    replace H6 := Lib.hid (H6.out.keep f (by simp) (by simp))
    replace x6 := H6.out.c0
    replace z6 := H6.out.lt
    clear f
    have x9 := H9.out.c0
    have z9 := H9.out.lt
    refine (same05y H9.out.r H2.out.r (by have := HQL.out; omega)).mono ?_
    rintro e w18 ⟨rfl, f⟩
    have g18 : Fr [] w w18 := g17.then0 f
    clear g17
    replace H1 := Lib.hid (H1.out.keep f (by simp) (by simp))
    replace x1 := H1.out.c0
    replace y1 := H1.out.c1
    replace z1 := H1.out.lt
    replace H2 := Lib.hid (H2.out.keep f (by simp) (by simp))
    replace x2 := H2.out.c0
    replace z2 := H2.out.lt
    replace H4 := Lib.hid (H4.out.keep f (by simp) (by simp))
    replace x4 := H4.out.c0
    replace y4 := H4.out.c1
    replace z4 := H4.out.lt
    replace H6 := Lib.hid (H6.out.keep f (by simp) (by simp))
    replace x6 := H6.out.c0
    replace z6 := H6.out.lt
    replace H9 := Lib.hid (H9.out.keep f (by simp) (by simp))
    replace x9 := H9.out.c0
    replace z9 := H9.out.lt
    clear f
    clear x9 z9
    clear H9
    by_cases her : er = 0
    rotate_left
    · have hb : (er == (0 : Int)) = false := by simpa using her
      go_wp2_with fail
      go_roundw
      case rel => exact ⟨k + 1, Q, _, _, _, _, _, _, _, by omega, by go_num, H1, H2, g18⟩
      case measure => simp [intOf]; omega
    subst her
    have q1 := H1.out.q
    have q2 := H2.out.q
    have u1 := free_of (i := 0) q1
    have v1 := free_of (i := 1) q1
    have u2 := free_of (i := 0) q2
    go_wp2_with fail
    go_region
    obtain ⟨w19, hW, f, J1, J2⟩ := over05 q1 q2 (by omega) H4.out.r H6.out.r (by simp) (by simp)
    have gN : Fr [] w w19 := g18.trans f (by simp) (by simp; omega)
    rw [← hW]
    clear hW H1 H2 H4 H6 q1 q2 u1 v1 u2 f g18 x1 y1 z1 x2 z2 x4 y4 z4 x6 z6
    go_wp2_with fail
    go_roundw
    case rel => exact ⟨k + 1, Y2, _, _, _, _, _, _, _, by omega, by go_num, J1, J2, gN⟩
    case measure => simp [intOf]; omega

end Go.Proofs.Ytpkgjgfdobcboaa
