/-
  Rows of bytes: what copy and clear leave of them; slices that read as a list of bytes.
-/
import Derived.Test.YtodpkdbcdbdjfaaBase
import Derived.Laws.CopyOwn
import Derived.Laws.MakeOwn
import Derived.Deep.OwnRows
namespace Go.Proofs.Ytodpkdbcdbdjfaa
open Go.RowKit

/-- A block of bytes. -/
def RowB (w : World) (g : Nat) (bs : List Int) : Prop := w.heap[g]? = some (.cells (bs.map (Value.int .u8)).toArray 5 (0, 0))
theorem RowB.cell {w : World} {g : Nat} {bs : List Int} (h : RowB w g bs) {i : Nat} (hi : i < bs.length) : w.cell? ⟨g, i, none⟩ = some (.int .u8 (bs.getD i 0)) := by
  rw [cell_of h]
  simp [List.getD, hi]
theorem RowB.free {w : World} {g : Nat} {bs : List Int} (h : RowB w g bs) (i : Nat) : w.frozen? ⟨g, i, none⟩ = false := free_of h

/-- A slice reads as some bytes. -/
def Sl (w : World) (a : Option Addr) (bs : List Int) : Prop := 0 < bs.length → ∃ b o, a = some ⟨b, o, none⟩ ∧ b < w.heap.size ∧ ∀ i, i < bs.length → w.cell? ⟨b, o + i, none⟩ = some (.int .u8 (bs.getD i 0))

theorem Sl.nil (w : World) (a : Option Addr) : Sl w a [] := fun h => absurd h (by simp)
theorem RowB.sl {w : World} {g : Nat} {bs : List Int} (h : RowB w g bs) : Sl w (some ⟨g, 0, none⟩) bs := fun _ => ⟨g, 0, rfl, lt_of_heap h, fun i hi => by rw [Nat.zero_add]; exact h.cell hi⟩

theorem map_splice {α β : Type} (f : α → β) (L : List α) (o : Nat) (cs : List α) : splice (L.map f) o (cs.map f) = (splice L o cs).map f := by
  simp [splice, List.map_take, List.map_drop]

theorem splice_nil {α : Type} (L : List α) (o : Nat) : splice L o [] = L := by simp [splice]

theorem splice_getD (L cs : List Int) (o j : Nat) (h : o + cs.length ≤ L.length) : (splice L o cs).getD j 0 = if o ≤ j ∧ j < o + cs.length then cs.getD (j - o) 0 else L.getD j 0 := by
  unfold splice
  simp only [List.getD, List.getElem?_append, List.length_take, List.getElem?_take, List.getElem?_drop]
  by_cases h1 : j < o
  · rw [if_pos (by omega), if_pos h1, if_neg (by omega)]
  · rw [if_neg (by omega)]
    have e : min o L.length = o := by omega
    rw [e]
    by_cases h2 : j - o < cs.length
    · rw [if_pos h2, if_pos (by omega)]
    · rw [if_neg h2, if_neg (by omega)]
      congr 2
      omega

theorem oneCell_bytes (cs : List Int) : ∀ v ∈ cs.map (Value.int .u8), v.oneCell' = true := by
  intro v hv
  obtain ⟨_, _, rfl⟩ := List.mem_map.1 hv
  rfl

theorem Fr.setRow {S : List Nat} {a w : World} (h : Fr S a w) {g : Nat} (hg : g ∈ S ∨ a.heap.size ≤ g) (cs : Array Value) : Fr S a (w.setRow g cs) :=
  h.trans (T := [g]) ⟨rfl, rfl, rfl, by simp [World.setRow], fun k _ hn => setRow_other w g k cs (by simpa using hn)⟩ (fun _ h => .inl h) (fun x hx => by simp at hx; subst hx; exact hg)

/-- copy(dst, src) of bytes, dst in a row that is known whole. -/
theorem wpList_copy_fr {P : Program} {w : World} {ops : Array Oper} {rest : List Oper} {o : Oper} {a : Act} {Q : Exit → Act → World → Prop} (hgd : o.guard = none) (d s : Operand) (dT sT : TypeId)
    (ho : o.op = .call { callee := .builtin .copy, args := #[d, s], argTypes := #[dT, sT] }) (elem : TypeId) (hu : P.underlying dT = some (.slice elem)) (hsz : (P.info? elem).map (·.size) = some 1)
    (dp sp : Option Addr) (dLen dCap sLen sCap : Nat) (hd : a.eval d = .slice dp dLen dCap) (hs : a.eval s = .slice sp sLen sCap)
    (g off : Nat) (cur : List Int) (hg : RowB w g cur) (cs : List Int) (m : Nat) (hm : cs.length = m) (hn : m = Nat.min sLen dLen)
    (hdst : 0 < m → dp = some ⟨g, off, none⟩) (hsrc : Sl w sp cs) (hfit : off + m ≤ cur.length)
    (h : ∀ w', Hid (RowB w' g (splice cur off cs)) → Fr [g] w w' → wpList P ops Q rest (a.put o.dst (.int .i64 m)) w') :
    wpList P ops Q (o :: rest) a w := by
  subst hm
  by_cases h0 : cs.length = 0
  · obtain rfl : cs = [] := List.eq_nil_of_length_eq_zero h0
    refine wpList_copy_nothing hgd d s dT sT ho elem hu hsz dp sp dLen dCap sLen sCap hd hs (by simpa using hn.symm) ?_
    exact h w (by rw [splice_nil]; exact hg) (Fr.refl _ _)
  · obtain ⟨b, so, rfl, _, hc⟩ := hsrc (by omega)
    have hdp := hdst (by omega)
    subst hdp
    refine wpList_copy_own hgd d s dT sT ho elem hu hsz g off dLen dCap ⟨b, so, none⟩ sLen sCap hd hs (cur.map (Value.int .u8)).toArray _ hg (cs.map (Value.int .u8)) (by simpa using hn) ?_ (by simpa using hfit) (oneCell_bytes cs) ?_
    · intro j v hv
      have hj : j < cs.length := by have := (List.getElem?_eq_some_iff.1 hv).1; simpa using this
      rw [Addr.add_lit, hc j hj]
      rw [List.getElem?_map] at hv
      simpa [List.getD, hj] using hv
    · have e := setRow_heap w g (cur.map (Value.int .u8)).toArray (((cur.map (Value.int .u8)).toArray.toList.take off ++ (cs.map (Value.int .u8) ++ (cur.map (Value.int .u8)).toArray.toList.drop (off + (cs.map (Value.int .u8)).length))).toArray) 5 (0, 0) hg
      have e2 : ((cur.map (Value.int .u8)).toArray.toList.take off ++ (cs.map (Value.int .u8) ++ (cur.map (Value.int .u8)).toArray.toList.drop (off + (cs.map (Value.int .u8)).length))) = (splice cur off cs).map (Value.int .u8) := by
        rw [← map_splice]; simp [splice]
      rw [e2] at e ⊢
      have := h _ (show RowB _ _ _ from e) ((Fr.refl [g] w).setRow (.inl (by simp)) _)
      simpa [goInt] using this

theorem zeroCells_list (z : Value) (n : Nat) : (Builtin.zeroCells #[z] n).toList = List.replicate n z := by
  apply List.ext_getElem
  · simp [Builtin.zeroCells]
  · intro i h1 h2
    simp [Builtin.zeroCells, Nat.mod_one]

/-- clear(x) of bytes, x in a row that is known whole. -/
theorem wpList_clear_fr {P : Program} {w : World} {ops : Array Oper} {rest : List Oper} {o : Oper} {a : Act} {Q : Exit → Act → World → Prop} (hgd : o.guard = none) (d : Operand) (dT : TypeId)
    (ho : o.op = .call { callee := .builtin .clear, args := #[d], argTypes := #[dT] }) (elem : TypeId) (hu : P.underlying dT = some (.slice elem)) (hz : ∀ w, (zeroValue elem).run P w = .ok (.int .u8 0) w)
    (dp : Option Addr) (n dCap : Nat) (hd : a.eval d = .slice dp n dCap)
    (g off : Nat) (cur : List Int) (hg : RowB w g cur) (hdst : 0 < n → dp = some ⟨g, off, none⟩) (hfit : off + n ≤ cur.length)
    (h : ∀ w', Hid (RowB w' g (splice cur off (List.replicate n 0))) → Fr [g] w w' → wpList P ops Q rest (a.put o.dst (.tuple #[])) w') :
    wpList P ops Q (o :: rest) a w := by
  refine wpList_plain hgd fun K hK => ?_
  by_cases h0 : n = 0
  · subst h0
    have hrun : (Builtin.clear_ #[dT] o.type #[.slice dp 0 dCap]).run P w = .ok (.tuple #[]) w := by
      cases dp <;> simp [Builtin.clear_, run_underlying hu]
    unfold Oper.wp
    simp [execOp, ho, resolve, invoke, builtin, hd, hrun, Result.andThen]
    exact hK _ _ (h w (show RowB _ _ _ by simpa [splice_nil] using hg) (Fr.refl _ _))
  · have hdp := hdst (by omega)
    subst hdp
    have hst := run_storeCells_at P g off 5 (List.replicate n (Value.int .u8 0)) 0 (cur.map (Value.int .u8)).toArray w hg (by simpa using hfit) (by intro v hv; rw [(List.mem_replicate.1 hv).2]; rfl)
    have hrun : (Builtin.clear_ #[dT] o.type #[.slice (some ⟨g, off, none⟩) n dCap]).run P w = .ok (.tuple #[]) (w.setRow g ((splice cur off (List.replicate n 0)).map (Value.int .u8)).toArray) := by
      obtain ⟨m, rfl⟩ : ∃ m, n = m + 1 := ⟨n - 1, by omega⟩
      have e2 : ((cur.map (Value.int .u8)).toArray.toList.take (off + 0) ++ List.replicate (m + 1) (Value.int .u8 0) ++ (cur.map (Value.int .u8)).toArray.toList.drop (off + 0 + (List.replicate (m + 1) (Value.int .u8 0)).length)) = (splice cur off (List.replicate (m + 1) 0)).map (Value.int .u8) := by
        rw [← map_splice]; simp [splice]
      rw [e2] at hst
      simp [Builtin.clear_, run_underlying hu, hz, Value.cells, zeroCells_list, hst]
    unfold Oper.wp
    simp [execOp, ho, resolve, invoke, builtin, hd, hrun, Result.andThen]
    refine hK _ _ (h _ ?_ ((Fr.refl [g] w).setRow (.inl (by simp)) _))
    exact setRow_heap w g _ _ _ _ hg
/-- A block of bytes, and what lies behind them. -/
def RowJ (w : World) (g : Nat) (bs : List Int) (J : List Value) : Prop := w.heap[g]? = some (.cells (bs.map (Value.int .u8) ++ J).toArray 5 (0, 0))
theorem RowJ.cell {w : World} {g : Nat} {bs : List Int} {J : List Value} (h : RowJ w g bs J) {i : Nat} (hi : i < bs.length) : w.cell? ⟨g, i, none⟩ = some (.int .u8 (bs.getD i 0)) := by
  rw [cell_of h]
  simp [List.getD, hi, List.getElem?_append]
theorem RowB.junk {w : World} {g : Nat} {bs : List Int} (h : RowB w g bs) : RowJ w g bs [] := by
  unfold RowJ
  rw [List.append_nil]
  exact h
theorem splice_app {α : Type} (L J : List α) (o : Nat) (cs : List α) (h : o + cs.length ≤ L.length) : splice (L ++ J) o cs = splice L o cs ++ J := by
  unfold splice
  rw [List.take_append_of_le_length (by omega), List.drop_append_of_le_length (by omega)]
  simp only [List.append_assoc]

/-- copy(dst, src) of bytes, dst in a row that is known whole. -/
theorem wpList_copy_fj {P : Program} {w : World} {ops : Array Oper} {rest : List Oper} {o : Oper} {a : Act} {Q : Exit → Act → World → Prop} (hgd : o.guard = none) (d s : Operand) (dT sT : TypeId)
    (ho : o.op = .call { callee := .builtin .copy, args := #[d, s], argTypes := #[dT, sT] }) (elem : TypeId) (hu : P.underlying dT = some (.slice elem)) (hsz : (P.info? elem).map (·.size) = some 1)
    (dp sp : Option Addr) (dLen dCap sLen sCap : Nat) (hd : a.eval d = .slice dp dLen dCap) (hs : a.eval s = .slice sp sLen sCap)
    (g off : Nat) (cur : List Int) (J : List Value) (hg : RowJ w g cur J) (cs : List Int) (m : Nat) (hm : cs.length = m) (hn : m = Nat.min sLen dLen)
    (hdst : 0 < m → dp = some ⟨g, off, none⟩) (hsrc : Sl w sp cs) (hfit : off + m ≤ cur.length)
    (h : ∀ w', Hid (RowJ w' g (splice cur off cs) J) → Fr [g] w w' → wpList P ops Q rest (a.put o.dst (.int .i64 m)) w') :
    wpList P ops Q (o :: rest) a w := by
  subst hm
  by_cases h0 : cs.length = 0
  · obtain rfl : cs = [] := List.eq_nil_of_length_eq_zero h0
    refine wpList_copy_nothing hgd d s dT sT ho elem hu hsz dp sp dLen dCap sLen sCap hd hs (by simpa using hn.symm) ?_
    exact h w (by rw [splice_nil]; exact hg) (Fr.refl _ _)
  · obtain ⟨b, so, rfl, _, hc⟩ := hsrc (by omega)
    have hdp := hdst (by omega)
    subst hdp
    refine wpList_copy_own hgd d s dT sT ho elem hu hsz g off dLen dCap ⟨b, so, none⟩ sLen sCap hd hs (cur.map (Value.int .u8) ++ J).toArray _ hg (cs.map (Value.int .u8)) (by simpa using hn) ?_ (by simp; omega) (oneCell_bytes cs) ?_
    · intro j v hv
      have hj : j < cs.length := by have := (List.getElem?_eq_some_iff.1 hv).1; simpa using this
      rw [Addr.add_lit, hc j hj]
      rw [List.getElem?_map] at hv
      simpa [List.getD, hj] using hv
    · have e := setRow_heap w g (cur.map (Value.int .u8) ++ J).toArray (((cur.map (Value.int .u8) ++ J).toArray.toList.take off ++ (cs.map (Value.int .u8) ++ (cur.map (Value.int .u8) ++ J).toArray.toList.drop (off + (cs.map (Value.int .u8)).length))).toArray) 5 (0, 0) hg
      have e2 : ((cur.map (Value.int .u8) ++ J).toArray.toList.take off ++ (cs.map (Value.int .u8) ++ (cur.map (Value.int .u8) ++ J).toArray.toList.drop (off + (cs.map (Value.int .u8)).length))) = (splice cur off cs).map (Value.int .u8) ++ J := by
        rw [← map_splice, ← splice_app _ _ _ _ (by simpa using hfit)]; simp [splice]
      rw [e2] at e ⊢
      have := h _ (show RowJ _ _ _ _ from e) ((Fr.refl [g] w).setRow (.inl (by simp)) _)
      simpa [goInt] using this

/-- clear(x) of bytes, x in a row that is known whole. -/
theorem wpList_clear_fj {P : Program} {w : World} {ops : Array Oper} {rest : List Oper} {o : Oper} {a : Act} {Q : Exit → Act → World → Prop} (hgd : o.guard = none) (d : Operand) (dT : TypeId)
    (ho : o.op = .call { callee := .builtin .clear, args := #[d], argTypes := #[dT] }) (elem : TypeId) (hu : P.underlying dT = some (.slice elem)) (hz : ∀ w, (zeroValue elem).run P w = .ok (.int .u8 0) w)
    (dp : Option Addr) (n dCap : Nat) (hd : a.eval d = .slice dp n dCap)
    (g off : Nat) (cur : List Int) (J : List Value) (hg : RowJ w g cur J) (hdst : 0 < n → dp = some ⟨g, off, none⟩) (hfit : off + n ≤ cur.length)
    (h : ∀ w', Hid (RowJ w' g (splice cur off (List.replicate n 0)) J) → Fr [g] w w' → wpList P ops Q rest (a.put o.dst (.tuple #[])) w') :
    wpList P ops Q (o :: rest) a w := by
  refine wpList_plain hgd fun K hK => ?_
  by_cases h0 : n = 0
  · subst h0
    have hrun : (Builtin.clear_ #[dT] o.type #[.slice dp 0 dCap]).run P w = .ok (.tuple #[]) w := by
      cases dp <;> simp [Builtin.clear_, run_underlying hu]
    unfold Oper.wp
    simp [execOp, ho, resolve, invoke, builtin, hd, hrun, Result.andThen]
    exact hK _ _ (h w (show RowJ _ _ _ _ by simpa [splice_nil] using hg) (Fr.refl _ _))
  · have hdp := hdst (by omega)
    subst hdp
    have hst := run_storeCells_at P g off 5 (List.replicate n (Value.int .u8 0)) 0 (cur.map (Value.int .u8) ++ J).toArray w hg (by simp; omega) (by intro v hv; rw [(List.mem_replicate.1 hv).2]; rfl)
    have hrun : (Builtin.clear_ #[dT] o.type #[.slice (some ⟨g, off, none⟩) n dCap]).run P w = .ok (.tuple #[]) (w.setRow g ((splice cur off (List.replicate n 0)).map (Value.int .u8) ++ J).toArray) := by
      obtain ⟨m, rfl⟩ : ∃ m, n = m + 1 := ⟨n - 1, by omega⟩
      have e2 : ((cur.map (Value.int .u8) ++ J).toArray.toList.take (off + 0) ++ List.replicate (m + 1) (Value.int .u8 0) ++ (cur.map (Value.int .u8) ++ J).toArray.toList.drop (off + 0 + (List.replicate (m + 1) (Value.int .u8 0)).length)) = (splice cur off (List.replicate (m + 1) 0)).map (Value.int .u8) ++ J := by
        rw [← map_splice, ← splice_app _ _ _ _ (by simpa using hfit)]; simp [splice]
      rw [e2] at hst
      simp [Builtin.clear_, run_underlying hu, hz, Value.cells, zeroCells_list, hst]
    unfold Oper.wp
    simp [execOp, ho, resolve, invoke, builtin, hd, hrun, Result.andThen]
    refine hK _ _ (h _ ?_ ((Fr.refl [g] w).setRow (.inl (by simp)) _))
    exact setRow_heap w g _ _ _ _ hg
end Go.Proofs.Ytodpkdbcdbdjfaa
