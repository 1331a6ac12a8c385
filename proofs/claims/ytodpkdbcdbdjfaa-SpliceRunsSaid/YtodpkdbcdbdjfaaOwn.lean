/-
  Slices of one-cell elements: what they read as, and append on a slice of the call's own.
-/
import Derived.Test.YtodpkdbcdbdjfaaBase
import Derived.Maps.AppendAt
import Derived.Deep.AppendLies
import Derived.Laws.OwnMore
namespace Go.Proofs.Ytodpkdbcdbdjfaa
open Go.RowKit

/-- A slice reads as some values. -/
def SlV (w : World) (a : Option Addr) (xs : List Value) : Prop := 0 < xs.length → ∃ b o, a = some ⟨b, o, none⟩ ∧ b < w.heap.size ∧ ∀ i, i < xs.length → w.cell? ⟨b, o + i, none⟩ = xs[i]?

theorem SlV.nil (w : World) (a : Option Addr) : SlV w a [] := fun h => absurd h (by simp)
theorem SlV.keep {w w' : World} {a : Option Addr} {xs : List Value} (h : SlV w a xs) {S : List Nat} (hf : Fr S w w') (hS : ∀ b o, 0 < xs.length → a = some ⟨b, o, none⟩ → b ∉ S) : SlV w' a xs := fun h0 => by
  obtain ⟨b, o, rfl, hb, hc⟩ := h h0
  exact ⟨b, o, rfl, Nat.lt_of_lt_of_le hb hf.size, fun i hi => (World.cell?_of_block (w := w) (hf.block b hb (hS b o h0 rfl))).trans (hc i hi)⟩

/-- A slice of the call's own: nil, or from the head of a row in a block from M on. -/
def Ow (w : World) (M : Nat) (e : TypeId) (v : Value) (xs : List Value) : Prop := w.ownsRow M e 1 v xs.length xs

theorem Ow.nil (w : World) (M : Nat) (e : TypeId) : Ow w M e (.slice none 0 0) [] := World.ownsRow_nil w M e 1
theorem Ow.form {w : World} {M : Nat} {e : TypeId} {v : Value} {xs : List Value} (h : Ow w M e v xs) : ∃ a cap, v = .slice a xs.length cap ∧ xs.length ≤ cap ∧ cap ≤ maxLen ∧ SlV w a xs ∧ (∀ b o, a = some ⟨b, o, none⟩ → v.ownBlock = some b) := by
  rcases h.2 with ⟨rfl, h0⟩ | ⟨g, cap, cur, rfl, _, hh, hc, hm, _, ht⟩
  · obtain rfl : xs = [] := List.eq_nil_of_length_eq_zero h0
    exact ⟨none, 0, rfl, Nat.le_refl _, by unfold maxLen; omega, SlV.nil _ _, by intro b o e; cases e⟩
  · refine ⟨_, cap, rfl, hc, hm, fun h0 => ⟨g, 0, rfl, lt_of_heap hh, fun i hi => ?_⟩, ?_⟩
    · rw [Nat.zero_add, cell_of hh, ← ht, Nat.mul_one, List.getElem?_take, if_pos hi, Array.getElem?_toList]
    · intro b o e
      injection e with e
      injection e with e1
      subst e1
      rfl
theorem Ow.lt {w : World} {M : Nat} {e : TypeId} {v : Value} {xs : List Value} (h : Ow w M e v xs) : ∀ k, v.ownBlock = some k → M ≤ k ∧ k < w.heap.size := World.ownsRow.lt h
theorem Ow.keep {w w' : World} {M : Nat} {e : TypeId} {v : Value} {xs : List Value} (h : Ow w M e v xs) {S : List Nat} (hf : Fr S w w') (hS : ∀ k, v.ownBlock = some k → k ∉ S) : Ow w' M e v xs := by
  refine ⟨h.1, ?_⟩
  rcases h.2 with h1 | ⟨g, cap, cur, rfl, hM, hh, x⟩
  · exact .inl h1
  · exact .inr ⟨g, cap, cur, rfl, hM, hf.keep hh (hS g rfl), x⟩
theorem Ow.mono {w : World} {M M' : Nat} {e : TypeId} {v : Value} {xs : List Value} (h : Ow w M e v xs) (hM : M' ≤ M) : Ow w M' e v xs := by
  refine ⟨h.1, ?_⟩
  rcases h.2 with h1 | ⟨g, cap, cur, rfl, hM', x⟩
  · exact .inl h1
  · exact .inr ⟨g, cap, cur, rfl, by omega, x⟩
/-- A new row is one's own. -/
theorem Ow.of_row {w : World} {M : Nat} {e : TypeId} {g : Nat} {xs : List Value} (h : w.heap[g]? = some (.cells xs.toArray e (0, 0))) (hM : M ≤ g) (hx : xs.length ≤ maxLen) : Ow w M e (.slice (some ⟨g, 0, none⟩) xs.length xs.length) xs :=
  ⟨by simp, .inr ⟨g, xs.length, xs.toArray, rfl, hM, h, Nat.le_refl _, hx, by simp, by simp⟩⟩

/-- Behind an append onto a slice of one's own. -/
theorem Fr.own {S : List Nat} {w w1 w2 : World} {v : Value} (h : Fr S w w1) (k : Fr v.ownBlock.toList w1 w2) (hv : ∀ b, v.ownBlock = some b → b ∈ S ∨ w.heap.size ≤ b) : Fr S w w2 :=
  h.trans k (fun _ h => .inl h) (fun x hx => hv x (by simpa using hx))
theorem SlV.take {w : World} {a : Option Addr} {xs : List Value} (h : SlV w a xs) (n : Nat) : SlV w a (xs.take n) := fun h0 => by
  rw [List.length_take] at h0
  obtain ⟨b, o, e, hb, hc⟩ := h (by omega)
  refine ⟨b, o, e, hb, fun i hi => ?_⟩
  rw [List.length_take] at hi
  rw [hc i (by omega), List.getElem?_take, if_pos (by omega)]
theorem SlV.drop {w : World} {b o : Nat} {xs : List Value} (h : SlV w (some ⟨b, o, none⟩) xs) (n : Nat) : SlV w (some ⟨b, o + n, none⟩) (xs.drop n) := fun h0 => by
  rw [List.length_drop] at h0
  obtain ⟨b', o', e, hb, hc⟩ := h (by omega)
  simp only [Option.some.injEq, Addr.mk.injEq, and_true] at e
  obtain ⟨rfl, rfl⟩ := e
  refine ⟨_, _, rfl, hb, fun i hi => ?_⟩
  rw [List.length_drop] at hi
  rw [Nat.add_assoc, hc (n + i) (by omega), List.getElem?_drop]
theorem Ow.row {w : World} {M : Nat} {e : TypeId} {v : Value} {xs : List Value} (h : Ow w M e v xs) (h0 : 0 < xs.length) : ∃ g cap, v = .slice (some ⟨g, 0, none⟩) xs.length cap ∧ xs.length ≤ cap ∧ cap ≤ maxLen ∧ M ≤ g ∧ g < w.heap.size ∧ (∀ i, i < xs.length → w.cell? ⟨g, i, none⟩ = xs[i]?) ∧ (∀ i, w.frozen? ⟨g, i, none⟩ = false) := by
  rcases h.2 with ⟨_, h1⟩ | ⟨g, cap, cur, hv, hM, hh, hc, hm, _, ht⟩
  · omega
  · refine ⟨g, cap, hv, hc, hm, hM, lt_of_heap hh, fun i hi => ?_, fun i => free_of hh⟩
    rw [cell_of hh, ← ht, Nat.mul_one, List.getElem?_take, if_pos hi, Array.getElem?_toList]
theorem Ow.set {w : World} {M : Nat} {e : TypeId} {g n c : Nat} {xs : List Value} (h : Ow w M e (.slice (some ⟨g, 0, none⟩) n c) xs) (i : Nat) (y : Value) : Ow (w.setCell ⟨g, i, none⟩ y) M e (.slice (some ⟨g, 0, none⟩) n c) (xs.set i y) := by
  rcases h.2 with ⟨h1, _⟩ | ⟨g', cap, cur, hv, hM, hh, hc, hm, hs, ht⟩
  · cases h1
  · simp only [Value.slice.injEq, Option.some.injEq, Addr.mk.injEq, and_true] at hv
    obtain ⟨rfl, hn, rfl⟩ := hv
    refine ⟨by simp, .inr ⟨g, c, cur.setIfInBounds i y, ?_, hM, heap_setCell_eq hh, by simpa using hc, hm, by simpa using hs, ?_⟩⟩
    · rw [List.length_set, hn]
    · rw [List.length_set, Array.toList_setIfInBounds, List.take_set, ht]
theorem two_set {w : World} {B : Nat} {c0 c1 u0 u1 : Value} {t : TypeId} {f : Nat × Nat} (h : w.heap[B]? = some (.cells #[c0, c1] t f)) : ((w.setCell ⟨B, 0, none⟩ u0).setCell ⟨B, 1, none⟩ u1).heap[B]? = some (.cells #[u0, u1] t f) := by
  have h1 := heap_setCell_eq (i := 1) (u := u1) (heap_setCell_eq (i := 0) (u := u0) h)
  simpa using h1
/-- Two pairs stored, and a draw. -/
theorem two_pairs {w : World} {b1 b2 : Nat} {c0 c1 d0 d1 x0 x1 y0 y1 : Value} {t t' : TypeId} (h1 : w.heap[b1]? = some (.cells #[c0, c1] t (0, 0))) (h2 : w.heap[b2]? = some (.cells #[d0, d1] t' (0, 0))) (hne : b1 ≠ b2) :
    ∃ wf, wf = ((((w.setCell ⟨b1, 0, none⟩ x0).setCell ⟨b1, 1, none⟩ x1).setCell ⟨b2, 0, none⟩ y0).setCell ⟨b2, 1, none⟩ y1).drew ∧
      wf.heap[b1]? = some (.cells #[x0, x1] t (0, 0)) ∧ wf.heap[b2]? = some (.cells #[y0, y1] t' (0, 0)) ∧ Fr [b1, b2] w wf := by
  refine ⟨_, rfl, ?_, ?_, ?_⟩
  · exact keepS (keepS (two_set h1) hne) hne
  · exact two_set (keepS (keepS h2 (Ne.symm hne)) (Ne.symm hne))
  · exact (((((Fr.refl [b1, b2] w).setCell (.inl (by simp)) _).setCell (.inl (by simp)) _).setCell (.inl (by simp)) _).setCell (.inl (by simp)) _).drew
/-- Both cells of a pair, behind both stores. -/
theorem two_cells {w : World} {B : Nat} {c0 c1 u0 u1 : Value} {t : TypeId} {f : Nat × Nat} (h : w.heap[B]? = some (.cells #[c0, c1] t f)) :
    ((w.setCell ⟨B, 0, none⟩ u0).setCell ⟨B, 1, none⟩ u1).cell? ⟨B, 0, none⟩ = some u0 ∧ ((w.setCell ⟨B, 0, none⟩ u0).setCell ⟨B, 1, none⟩ u1).cell? ⟨B, 1, none⟩ = some u1 :=
  ⟨cell_of (two_set h), cell_of (two_set h)⟩
theorem SlV.box (w : World) (u : Value) (t : TypeId) : SlV (w.alloc (.cells #[u] t)) (some ⟨w.heap.size, 0, none⟩) [u] := fun _ =>
  ⟨_, _, rfl, by simp, fun i hi => by
    have h0 : i = 0 := by simpa using hi
    subst h0
    exact (cell_of (newA rfl)).trans (by simp)⟩
theorem one_slice (a : Option Addr) (n c : Nat) : ∀ u ∈ [Value.slice a n c], u.oneCell' = true := by
  intro u hu
  rw [List.mem_singleton.1 hu]
  rfl
theorem one_string (s : ByteArray) : ∀ u ∈ [Value.string s], u.oneCell' = true := by
  intro u hu
  rw [List.mem_singleton.1 hu]
  rfl
theorem addr_add (b o n : Nat) : (⟨b, o, none⟩ : Addr).add n = ⟨b, o + n, none⟩ := by
  unfold Addr.add
  split
  · subst_vars; rfl
  · rfl

section
variable {P : Program} (w : World)

theorem run_append_fr (t ty e : TypeId) (z : Value) (bytes : Nat) (ht : P.underlying t = some (.slice e)) (hinfo : (P.info? e).map (fun i => (i.zero, i.size, i.bytes)) = some (some z, 1, bytes)) (hz1 : z.cells = #[z])
    (M : Nat) (v : Value) (xs : List Value) (hown : Ow w M e v xs) (A : Option Addr) (m c : Nat) (ys : List Value) (hm : ys.length = m) (hr : SlV w A ys) (h1 : ∀ u ∈ ys, u.oneCell' = true)
    (h63 : xs.length + m ≤ maxLen) (hb : (xs.length + m) * bytes ≤ 140737488355328) (hM : M ≤ w.heap.size) :
    ∃ v' w', (Builtin.append_ #[t, t] ty #[v, .slice A m c]).run P w = .ok v' w' ∧ Ow w' M e v' (xs ++ ys) ∧ Fr v.ownBlock.toList w w' ∧ (v'.ownBlock = v.ownBlock ∨ v'.ownBlock = some w.heap.size) := by
  obtain ⟨i, hi, hz, hs, hby⟩ : ∃ i, P.info? e = some i ∧ i.zero = some z ∧ i.size = 1 ∧ i.bytes = bytes := by
    cases h : P.info? e with
    | none => simp [h] at hinfo
    | some i => simp [h] at hinfo; exact ⟨i, rfl, hinfo.1, hinfo.2.1, hinfo.2.2⟩
  subst hm
  rcases A with _ | ad
  · have hy : ys = [] := by
      rcases Nat.eq_zero_or_pos ys.length with h0 | h0
      · exact List.eq_nil_of_length_eq_zero h0
      · obtain ⟨_, _, h, _⟩ := hr h0; cases h
    subst hy
    refine ⟨v, w, ?_, by simpa using hown, Fr.refl _ _, .inl rfl⟩
    rcases hown.2 with ⟨rfl, h0⟩ | ⟨g, cap, cur, rfl, _, _, hnc, _⟩
    · simp [Builtin.append_, run_underlying ht, sizeOf, typeInfo, hi, Builtin.lenOf, Builtin.firstCells]
    · simp [Builtin.append_, run_underlying ht, sizeOf, typeInfo, hi, Builtin.lenOf, Builtin.firstCells, hnc, storeCells]
  · have hcells : ∀ j u, ys[j]? = some u → w.cell? (ad.add j) = some u := by
      intro j u hu
      have hj : j < ys.length := (List.getElem?_eq_some_iff.1 hu).1
      obtain ⟨b, o, h, _, hc⟩ := hr (by omega)
      injection h with h
      subst h
      rw [addr_add, hc j hj, hu]
    obtain ⟨v', w', hrun, h2, h3, _, h5⟩ := run_append_own_at (P := P) w M t ty e i z 1 bytes ht hi hz hs hby (by rw [hz1]; rfl) (by omega) v xs.length xs hown ad ys.length c ys (by simp) hcells h1 h63 hb hM
    refine ⟨v', w', hrun, ?_, ⟨h3.os, h3.tape, h3.output, h3.size, fun k hk hn => h3.block k hk (fun e => hn (by rw [← e]; simp))⟩, h5⟩
    unfold Ow
    rw [List.length_append]
    exact h2

theorem wpList_append_fr {ops : Array Oper} {rest : List Oper} {o : Oper} {a : Act} {Q : Exit → Act → World → Prop} (hgd : o.guard = none) (s x : Operand) (t : TypeId)
    (ho : o.op = .call { callee := .builtin .append, args := #[s, x], argTypes := #[t, t] })
    (e : TypeId) (z : Value) (bytes : Nat) (ht : P.underlying t = some (.slice e)) (hinfo : (P.info? e).map (fun i => (i.zero, i.size, i.bytes)) = some (some z, 1, bytes)) (hz1 : z.cells = #[z])
    (M : Nat) (v : Value) (xs : List Value) (hs : a.eval s = v) (hown : Ow w M e v xs) (A : Option Addr) (m c : Nat) (ys : List Value) (hx : a.eval x = .slice A m c) (hm : ys.length = m) (hr : SlV w A ys) (h1 : ∀ u ∈ ys, u.oneCell' = true)
    (h63 : xs.length + m ≤ maxLen) (hb : (xs.length + m) * bytes ≤ 140737488355328) (hM : M ≤ w.heap.size)
    (h : ∀ v' w', Hid (Ow w' M e v' (xs ++ ys)) → Fr v.ownBlock.toList w w' → (v'.ownBlock = v.ownBlock ∨ v'.ownBlock = some w.heap.size) → wpList P ops Q rest (a.put o.dst v') w') : wpList P ops Q (o :: rest) a w := by
  obtain ⟨v', w', hrun, h2, h3, h4⟩ := run_append_fr (P := P) w t o.type e z bytes ht hinfo hz1 M v xs hown A m c ys hm hr h1 h63 hb hM
  refine wpList_plain hgd fun K hK => ?_
  unfold Oper.wp execOp
  simp only [ho, resolve, invoke, builtin, Sem.run_bind, Sem.run_pure, Result.andThen_ok, List.map_toArray, List.map_cons, List.map_nil, hs, hx, hrun]
  exact hK _ _ (h v' w' h2 h3 h4)
end
end Go.Proofs.Ytodpkdbcdbdjfaa
