/-
  Package shaper: append of one segment to a row of segments, whichever way it goes.
-/
import Derived.Test.YtdndabklcenndaaShAt
import Derived.ArgAppend
import Derived.Maps.AppendAt
namespace Go.Proofs.Ytdndabklcenndaa
open Go.RowKit
set_option maxRecDepth 100000

theorem dat_other {w w' : World} {L L' : List Nat} {b k g g' : Nat} {x : List UInt8 × Int} {u0 u1 : Value} (h : DAt w L b k g x u0 u1) {T : List Nat} (f : Fr T w w') (hT : ∀ y ∈ T, y ∈ L → y = b ∨ y = k ∨ y = g) (hL : ∀ y ∈ L, y ∈ L') (hg : w.heap.size ≤ g') (hx : 0 < x.1.length) : DAt w' L' b k g' x u0 u1 := by
  obtain ⟨⟨db, dp, dc, e, hs, m1, m2, m3, m4, m5⟩, ha⟩ := h
  refine ⟨⟨db, dp, dc, e, sl_keep hs f (fun _ b' o' e' hm => by cases e'; rcases hT db hm m1 with h | h | h <;> contradiction), hL _ m1, m2, m3, ?_, m5⟩, ha⟩
  obtain ⟨b', o', e', hlt, _⟩ := hs (by rw [bi_length]; exact hx)
  cases e'
  omega

theorem run_seg_append {w : World} {L : List Nat} {b k : Nat} {v : Value} {xs : List (List UInt8 × Int)} (h : SegRow w L b k v xs) {x : List UInt8 × Int} {B c : Nat} {u0 u1 : Value}
    (h0 : w.cell? ⟨B, 0, none⟩ = some u0) (h1 : w.cell? ⟨B, 1, none⟩ = some u1) (hd : ∀ g, (∃ o n c', v = .slice (some ⟨g, o, none⟩) n c') ∨ w.heap.size ≤ g → DAt w L b k g x u0 u1)
    (hpos : ∀ y ∈ xs, 0 < y.1.length) (hx0 : 0 < x.1.length) (hn : xs.length ≤ 100000) (hb : b < w.heap.size) (hk : k < w.heap.size) :
    ∃ v' w' g', (Builtin.append_ #[83, 83] 83 #[v, .slice (some ⟨B, 0, none⟩) 1 c]).run Try.prog w = .ok v' w' ∧
      SegRow w' (g' :: L) b k v' (xs ++ [x]) ∧ (g' ∈ L ∨ w.heap.size ≤ g') ∧ g' < w'.heap.size ∧ ∃ G, Fr G w w' ∧ ∀ y ∈ G, y ∈ L ∧ y ≠ b ∧ y ≠ k := by
  have hT := Try.underlying83
  have hinfo : (Try.prog.info? 104).map (fun i => (i.zero, i.size, i.bytes)) = some (some (.agg #[.slice none 0 0, .int .u64 0]), 2, 32) := by kernel_rfl
  obtain ⟨i, hi, hz, hs, hby⟩ : ∃ i, Try.prog.info? 104 = some i ∧ i.zero = some (.agg #[.slice none 0 0, .int .u64 0]) ∧ i.size = 2 ∧ i.bytes = 32 := by
    cases h : Try.prog.info? 104 with
    | none => simp [h] at hinfo
    | some i => simp [h] at hinfo; exact ⟨i, rfl, hinfo.1, hinfo.2.1, hinfo.2.2⟩
  have hzs : (Value.agg #[.slice none 0 0, .int .u64 0]).cells.size = 2 := by rfl
  have hnews : ∀ j u, [u0, u1][j]? = some u → w.cell? ((⟨B, 0, none⟩ : Addr).add j) = some u := by
    intro j u hu
    rw [addr_add]
    rcases j with _ | _ | j
    · simp at hu; subst hu; exact h0
    · simp at hu; subst hu; exact h1
    · simp at hu
  have hone : ∀ u ∈ [u0, u1], u.oneCell' = true := by
    obtain ⟨⟨db, dp, dc, e, _⟩, e1⟩ := hd w.heap.size (.inr (Nat.le_refl _))
    subst e e1
    intro u hu
    simp at hu
    rcases hu with rfl | rfl <;> rfl
  -- a row that is new and holds all
  have fresh : ∀ v' w' (fs : List Value), w'.ownsRow w.heap.size 104 2 v' (xs.length + 1) (fs ++ [u0, u1]) → fs.length = xs.length * 2 → Fr [] w w' →
      (∀ i x, xs[i]? = some x → ∃ u0 u1, fs[i * 2]? = some u0 ∧ fs[i * 2 + 1]? = some u1 ∧ ∃ g, DAt w L b k g x u0 u1) → ∃ g', SegRow w' (g' :: L) b k v' (xs ++ [x]) ∧ w.heap.size ≤ g' ∧ g' < w'.heap.size := by
    intro v' w' fs hown hfl f hold
    rcases hown.2 with ⟨_, h0⟩ | ⟨g, cap, cur, e, hbase, hg, h1, h2, h3, h4⟩
    · omega
    · refine ⟨g, .inr ⟨g, 0, cap, cur, by rw [e, List.length_append]; rfl, hg, by omega, by rw [List.length_append]; exact h1, h2, by simp, by omega, by omega, fun i y hy => ?_⟩, hbase, lt_of_heap hg⟩
      have hcur : ∀ j, j < (xs.length + 1) * 2 → cur[j]? = (fs ++ [u0, u1])[j]? := by
        intro j hj
        rw [← h4, List.getElem?_take, if_pos hj, Array.getElem?_toList]
      have hi' : i < xs.length + 1 := by
        have := (List.getElem?_eq_some_iff.1 hy).1
        simpa using this
      by_cases hlt : i < xs.length
      · rw [List.getElem?_append_left hlt] at hy
        obtain ⟨a0, a1, e0, e1, g0, hda⟩ := hold i y hy
        have m : y ∈ xs := List.mem_of_getElem? hy
        refine ⟨a0, a1, ?_, ?_, ?_⟩
        · rw [hcur _ (by omega), List.getElem?_append_left (by omega), Nat.zero_add]; exact e0
        · rw [hcur _ (by omega), List.getElem?_append_left (by omega), Nat.zero_add]; exact e1
        · exact dat_other hda f (by simp) (by intro y hy; simp [hy]) hbase (hpos _ m)
      · obtain rfl : i = xs.length := by omega
        rw [List.getElem?_append_right (Nat.le_refl _), Nat.sub_self] at hy
        simp at hy
        subst hy
        refine ⟨u0, u1, ?_, ?_, dat_other (hd w.heap.size (.inr (Nat.le_refl _))) f (by simp) (by intro y hy; simp [hy]) hbase hx0⟩
        · rw [hcur _ (by omega), List.getElem?_append_right (by omega), Nat.zero_add, hfl, Nat.sub_self]; rfl
        · rw [hcur _ (by omega), List.getElem?_append_right (by omega), Nat.zero_add, hfl, show xs.length * 2 + 1 - xs.length * 2 = 1 by omega]; rfl
  rcases h with ⟨rfl, rfl⟩ | ⟨g, o, cap, cur, rfl, hg, ho, hc1, hc2, hL, n1, n2, hx⟩
  · obtain ⟨v', w', hr, hown, hgr, _, _⟩ := run_append_own_at (P := Try.prog) w w.heap.size 83 83 104 i _ 2 32 hT hi hz hs hby hzs (by omega) (.slice none 0 0) 0 [] (World.ownsRow_nil _ _ _ _) ⟨B, 0, none⟩ 1 c [u0, u1] (by simp) hnews hone (by unfold maxLen; omega) (by omega) (Nat.le_refl _)
    have f : Fr [] w w' := ⟨hgr.os, hgr.tape, hgr.output, hgr.size, fun k hk _ => hgr.block k hk (by simp [Value.ownBlock])⟩
    obtain ⟨g', h1', h2', h3'⟩ := fresh v' w' [] hown rfl f (by intro i x hx; simp at hx)
    exact ⟨v', w', g', hr, h1', .inr h2', h3', [], f, by simp⟩
  · by_cases hroom : xs.length + 1 ≤ cap
    · have hr := run_append_room_cells (P := Try.prog) w 83 83 104 i hT hi g o xs.length cap ⟨B, 0, none⟩ 1 c [u0, u1] (by rw [hs]; rfl) hnews hone hroom
        (fun j hj => by rw [hs, cell_of hg, Array.getElem?_eq_getElem (by simp at hj; omega)]; rfl) (fun j hj => free_of hg)
      rw [hs] at hr
      refine ⟨_, _, g, hr, ?_, .inl hL, Nat.lt_of_lt_of_le (lt_of_heap hg) (((Fr.refl [g] w).setCell (.inl (by simp)) _).setCell (.inl (by simp)) _).size, [g], ((Fr.refl [g] w).setCell (.inl (by simp)) _).setCell (.inl (by simp)) _, by simp; exact ⟨hL, n1, n2⟩⟩
      have f : Fr [g] w (w.setCells g (o + xs.length * 2) [u0, u1]) := ((Fr.refl [g] w).setCell (.inl (by simp)) _).setCell (.inl (by simp)) _
      refine .inr ⟨g, o, cap, _, by rw [List.length_append]; rfl, heap_setCell_eq (i := o + xs.length * 2 + 1) (u := u1) (heap_setCell_eq (i := o + xs.length * 2) (u := u0) hg), by simp; omega, by rw [List.length_append]; exact hroom, hc2, by simp [hL], n1, n2, fun i y hy => ?_⟩
      have hi' : i < xs.length + 1 := by
        have := (List.getElem?_eq_some_iff.1 hy).1
        simpa using this
      by_cases hlt : i < xs.length
      · rw [List.getElem?_append_left hlt] at hy
        obtain ⟨a0, a1, e0, e1, hda⟩ := hx i y hy
        refine ⟨a0, a1, ?_, ?_, (hda.keep f (by simp)).mono (by intro y hy; simp [hy])⟩
        · rw [Array.getElem?_setIfInBounds, if_neg (by omega), Array.getElem?_setIfInBounds, if_neg (by omega)]; exact e0
        · rw [Array.getElem?_setIfInBounds, if_neg (by omega), Array.getElem?_setIfInBounds, if_neg (by omega)]; exact e1
      · obtain rfl : i = xs.length := by omega
        rw [List.getElem?_append_right (Nat.le_refl _), Nat.sub_self] at hy
        simp at hy
        subst hy
        refine ⟨u0, u1, ?_, ?_, ((hd g (.inl ⟨_, _, _, rfl⟩)).keep f (by simp)).mono (by intro y hy; simp [hy])⟩
        · rw [Array.getElem?_setIfInBounds, if_neg (by omega), Array.getElem?_setIfInBounds, if_pos rfl, if_pos (by omega)]
        · rw [Array.getElem?_setIfInBounds, if_pos rfl, if_pos (by simp; omega)]
    · have hfl : ((cur.toList.drop o).take (xs.length * 2)).length = xs.length * 2 := by simp; omega
      have hget : ∀ j, j < xs.length * 2 → ((cur.toList.drop o).take (xs.length * 2))[j]? = cur[o + j]? := by
        intro j hj
        rw [List.getElem?_take, if_pos hj, List.getElem?_drop, Array.getElem?_toList]
      obtain ⟨v', w', hr, hown, hgr⟩ := run_append_arg_grows (P := Try.prog) w 83 83 104 i _ 2 32 hT hi hz hs hby hzs (by omega) ⟨g, o, none⟩ xs.length cap ((cur.toList.drop o).take (xs.length * 2)) hfl
        (fun j u hu => by
          have hj : j < xs.length * 2 := by have := (List.getElem?_eq_some_iff.1 hu).1; omega
          rw [addr_add, cell_of hg, ← hget j hj, hu]) ⟨B, 0, none⟩ 1 c [u0, u1] (by simp) hnews (by omega) (by unfold maxLen; omega) (by omega)
      have f : Fr [] w w' := ⟨hgr.os, hgr.tape, hgr.output, hgr.size, fun k hk _ => hgr.block k hk (by simp)⟩
      obtain ⟨g', h1', h2', h3'⟩ := fresh v' w' _ hown hfl f (fun i y hy => by
        have hlt : i < xs.length := (List.getElem?_eq_some_iff.1 hy).1
        obtain ⟨a0, a1, e0, e1, hda⟩ := hx i y hy
        exact ⟨a0, a1, by rw [hget _ (by omega)]; exact e0, by rw [hget _ (by omega), ← Nat.add_assoc]; exact e1, g, hda⟩)
      exact ⟨v', w', g', hr, h1', .inr h2', h3', [], f, by simp⟩

theorem wpList_seg_append {w : World} {ops : Array Oper} {rest : List Oper} {o : Oper} {a : Act} {Q : Exit → Act → World → Prop} (hgd : o.guard = none) (s x' : Operand)
    (ho : o.op = .call { callee := .builtin .append, args := #[s, x'], argTypes := #[83, 83] }) (hty : o.type = 83)
    {L : List Nat} {b k : Nat} {v : Value} {xs : List (List UInt8 × Int)} {x : List UInt8 × Int} {B c : Nat} {u0 u1 : Value} (hs : a.eval s = v) (hx : a.eval x' = .slice (some ⟨B, 0, none⟩) 1 c)
    (h : SegRow w L b k v xs) (h0 : w.cell? ⟨B, 0, none⟩ = some u0) (h1 : w.cell? ⟨B, 1, none⟩ = some u1) (hd : ∀ g, (∃ o n c', v = .slice (some ⟨g, o, none⟩) n c') ∨ w.heap.size ≤ g → DAt w L b k g x u0 u1)
    (hpos : ∀ y ∈ xs, 0 < y.1.length) (hx0 : 0 < x.1.length) (hn : xs.length ≤ 100000) (hb : b < w.heap.size) (hk : k < w.heap.size)
    (hK : ∀ v' w' g', Hid (SegRow w' (g' :: L) b k v' (xs ++ [x])) → Hid ((g' ∈ L ∨ w.heap.size ≤ g') ∧ g' < w'.heap.size) → Hid (∃ G, Fr G w w' ∧ ∀ y ∈ G, y ∈ L ∧ y ≠ b ∧ y ≠ k) → wpList Try.prog ops Q rest (a.put o.dst v') w') : wpList Try.prog ops Q (o :: rest) a w := by
  obtain ⟨v', w', g', hrun, h2, h3a, h3b, h4⟩ := run_seg_append h h0 h1 hd hpos hx0 hn hb hk (c := c)
  have h3 := And.intro h3a h3b
  refine wpList_plain hgd fun K hK' => ?_
  unfold Oper.wp execOp
  rw [← hty] at hrun
  simp only [ho, resolve, invoke, builtin, Sem.run_bind, Sem.run_pure, Result.andThen_ok, List.map_toArray, List.map_cons, List.map_nil, hs, hx, hty] at hrun ⊢
  simp only [hrun, Result.andThen_ok]
  exact hK' _ _ (hK v' w' g' h2 h3 h4)
end Go.Proofs.Ytdndabklcenndaa
