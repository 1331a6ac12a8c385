/-
  Law 41: rows of bytes with their times: append; a store of a whole row as a step of a region.
-/
import Derived.Test.YtdndabklcenndaaShLaw
import Derived.Maps.AppendAt
namespace Go.Proofs.Ytdndabklcenndaa
open Go.RowKit
set_option maxRecDepth 100000

def byC : List (UInt8 × Int) → List Value
  | [] => []
  | x :: xs => .int .u8 x.1.toNat :: .int .u64 x.2 :: byC xs
theorem byC_len (xs : List (UInt8 × Int)) : (byC xs).length = xs.length * 2 := by
  induction xs with
  | nil => rfl
  | cons x xs ih => simp [byC, ih]; omega
theorem byC_append (xs ys : List (UInt8 × Int)) : byC (xs ++ ys) = byC xs ++ byC ys := by
  induction xs with
  | nil => rfl
  | cons x xs ih => simp [byC, ih]
theorem byC_get : ∀ {xs : List (UInt8 × Int)} {i : Nat} {x : UInt8 × Int}, xs[i]? = some x → (byC xs)[i * 2]? = some (.int .u8 x.1.toNat) ∧ (byC xs)[i * 2 + 1]? = some (.int .u64 x.2)
  | [], i, x, h => by simp at h
  | y :: xs, 0, x, h => by simp at h; subst h; simp [byC]
  | y :: xs, i + 1, x, h => by
    rw [List.getElem?_cons_succ] at h
    obtain ⟨h1, h2⟩ := byC_get h
    simp only [byC, Nat.add_mul, Nat.one_mul]
    exact ⟨by simpa using h1, by simpa using h2⟩
theorem byC_of : ∀ {xs : List (UInt8 × Int)} {j : Nat} {u : Value}, (byC xs)[j]? = some u → ∃ i x, xs[i]? = some x ∧ (j = i * 2 ∧ u = .int .u8 x.1.toNat ∨ j = i * 2 + 1 ∧ u = .int .u64 x.2)
  | [], j, u, h => by simp [byC] at h
  | y :: xs, 0, u, h => by simp [byC] at h; exact ⟨0, y, rfl, .inl ⟨rfl, h.symm⟩⟩
  | y :: xs, 1, u, h => by simp [byC] at h; exact ⟨0, y, rfl, .inr ⟨rfl, h.symm⟩⟩
  | y :: xs, j + 2, u, h => by
    simp only [byC, List.getElem?_cons_succ] at h
    obtain ⟨i, x, hx, h'⟩ := byC_of h
    exact ⟨i + 1, x, by simpa using hx, by rcases h' with ⟨a, b⟩ | ⟨a, b⟩; exact .inl ⟨by omega, b⟩; exact .inr ⟨by omega, b⟩⟩
theorem byC_one (xs : List (UInt8 × Int)) : ∀ u ∈ byC xs, u.oneCell' = true := by
  intro u hu
  obtain ⟨j, hj⟩ := List.mem_iff_getElem?.1 hu
  obtain ⟨i, x, _, ⟨_, rfl⟩ | ⟨_, rfl⟩⟩ := byC_of hj <;> rfl

/-- A slice of such bytes of the call's own. -/
def Ob (w : World) (M : Nat) (v : Value) (xs : List (UInt8 × Int)) : Prop := w.ownsRow M 100 2 v xs.length (byC xs)
theorem Ob.nil (w : World) (M : Nat) : Ob w M (.slice none 0 0) [] := World.ownsRow_nil w M _ 2
theorem Ob.lt {w : World} {M : Nat} {v : Value} {xs : List (UInt8 × Int)} (h : Ob w M v xs) : ∀ k, v.ownBlock = some k → M ≤ k ∧ k < w.heap.size := World.ownsRow.lt h
theorem Ob.keep {w w' : World} {M : Nat} {v : Value} {xs : List (UInt8 × Int)} (h : Ob w M v xs) {S : List Nat} (hf : Fr S w w') (hS : ∀ k, v.ownBlock = some k → k ∉ S) : Ob w' M v xs := by
  refine ⟨h.1, ?_⟩
  rcases h.2 with h1 | ⟨g, cap, cur, rfl, hM, hh, x⟩
  · exact .inl h1
  · exact .inr ⟨g, cap, cur, rfl, hM, hf.keep hh (hS g rfl), x⟩
theorem Ob.byV {w : World} {M : Nat} {v : Value} {xs : List (UInt8 × Int)} (h : Ob w M v xs) {L : List Nat} (hL : ∀ y ∈ L, y < M) : ∃ a cap, v = .slice a xs.length cap ∧ ByV w L a xs ∧ xs.length ≤ cap ∧ cap ≤ maxLen := by
  rcases h.2 with ⟨rfl, h0⟩ | ⟨g, cap, cur, rfl, hM, hh, hc, hm, _, ht⟩
  · exact ⟨none, 0, by rw [h0], fun hx => by omega, by omega, by unfold maxLen; omega⟩
  · refine ⟨_, cap, rfl, fun _ => ⟨g, 0, rfl, lt_of_heap hh, fun hm => by have := hL g hm; omega, fun i x hx => ?_⟩, hc, hm⟩
    have hi : i < xs.length := (List.getElem?_eq_some_iff.1 hx).1
    obtain ⟨h1, h2⟩ := byC_get hx
    have key : ∀ j, j < xs.length * 2 → cur[j]? = (byC xs)[j]? := fun j hj => by rw [← ht, List.getElem?_take, if_pos hj, Array.getElem?_toList]
    exact ⟨by rw [cell_of hh, Nat.zero_add, key _ (by omega), h1], by rw [cell_of hh, Nat.zero_add, key _ (by omega), h2]⟩

theorem run_by_append {w : World} {M : Nat} {v : Value} {xs : List (UInt8 × Int)} (hown : Ob w M v xs) {A : Option Addr} {c : Nat} {ys : List (UInt8 × Int)} (hr : ByV w [] A ys) (hl : xs.length + ys.length ≤ 1000000) (hM : M ≤ w.heap.size) :
    ∃ v' w', (Builtin.append_ #[62, 62] 62 #[v, .slice A ys.length c]).run Try.prog w = .ok v' w' ∧ Ob w' M v' (xs ++ ys) ∧ Fr v.ownBlock.toList w w' ∧ (v'.ownBlock = v.ownBlock ∨ v'.ownBlock = some w.heap.size) := by
  have hT := Try.underlying62
  have hinfo : (Try.prog.info? 100).map (fun i => (i.zero, i.size, i.bytes)) = some (some (.agg #[.int .u8 0, .int .u64 0]), 2, 16) := by kernel_rfl
  obtain ⟨i, hi, hz, hs, hby⟩ : ∃ i, Try.prog.info? 100 = some i ∧ i.zero = some (.agg #[.int .u8 0, .int .u64 0]) ∧ i.size = 2 ∧ i.bytes = 16 := by
    cases h : Try.prog.info? 100 with
    | none => simp [h] at hinfo
    | some i => simp [h] at hinfo; exact ⟨i, rfl, hinfo.1, hinfo.2.1, hinfo.2.2⟩
  have hzs : (Value.agg #[.int .u8 0, .int .u64 0]).cells.size = 2 := by rfl
  rcases A with _ | ad
  · have hy : ys = [] := by
      rcases Nat.eq_zero_or_pos ys.length with h0 | h0
      · exact List.eq_nil_of_length_eq_zero h0
      · obtain ⟨_, _, h, _⟩ := hr h0; cases h
    subst hy
    refine ⟨v, w, ?_, by simpa using hown, Fr.refl _ _, .inl rfl⟩
    rcases hown.2 with ⟨rfl, h0⟩ | ⟨g, cap, cur, rfl, _, _, hnc, _⟩
    · simp [Builtin.append_, run_underlying hT, sizeOf, typeInfo, hi, Builtin.lenOf, Builtin.firstCells]
    · simp [Builtin.append_, run_underlying hT, sizeOf, typeInfo, hi, Builtin.lenOf, Builtin.firstCells, hnc, storeCells]
  · have hcells : ∀ j u, (byC ys)[j]? = some u → w.cell? (ad.add j) = some u := by
      intro j u hu
      obtain ⟨i, x, hx, hj⟩ := byC_of hu
      have hi : i < ys.length := (List.getElem?_eq_some_iff.1 hx).1
      obtain ⟨b, o, h, _, _, hc⟩ := hr (by omega)
      injection h with h
      subst h
      obtain ⟨h1, h2⟩ := hc i x hx
      rw [addr_add]
      rcases hj with ⟨rfl, rfl⟩ | ⟨rfl, rfl⟩
      · exact h1
      · rw [← Nat.add_assoc]; exact h2
    obtain ⟨v', w', hrun, h2, h3, _, h5⟩ := run_append_own_at (P := Try.prog) w M 62 62 100 i _ 2 16 hT hi hz hs hby hzs (by omega) v xs.length (byC xs) hown ad ys.length c (byC ys) (by rw [byC_len]) hcells (byC_one ys) (by unfold maxLen; omega) (by omega) hM
    refine ⟨v', w', hrun, ?_, ⟨h3.os, h3.tape, h3.output, h3.size, fun k hk hn => h3.block k hk (fun e => hn (by rw [← e]; simp))⟩, h5⟩
    unfold Ob
    rw [List.length_append, byC_append]
    exact h2
theorem wpList_by_append {w : World} {ops : Array Oper} {rest : List Oper} {o : Oper} {a : Act} {Q : Exit → Act → World → Prop} (hgd : o.guard = none) (s x : Operand)
    (ho : o.op = .call { callee := .builtin .append, args := #[s, x], argTypes := #[62, 62] }) (hty : o.type = 62)
    {M : Nat} {v : Value} {xs : List (UInt8 × Int)} (hs : a.eval s = v) (hown : Ob w M v xs) {A : Option Addr} {n c : Nat} {ys : List (UInt8 × Int)} (hx : a.eval x = .slice A n c) (hn : n = ys.length) (hr : ByV w [] A ys) (hl : xs.length + ys.length ≤ 1000000) (hM : M ≤ w.heap.size)
    (hK : ∀ v' w', Hid (Ob w' M v' (xs ++ ys)) → Fr v.ownBlock.toList w w' → wpList Try.prog ops Q rest (a.put o.dst v') w') : wpList Try.prog ops Q (o :: rest) a w := by
  subst hn
  obtain ⟨v', w', hrun, h2, h3, h4⟩ := run_by_append hown (c := c) hr hl hM
  refine wpList_plain hgd fun K hK' => ?_
  unfold Oper.wp execOp
  rw [← hty] at hrun
  simp only [ho, resolve, invoke, builtin, Sem.run_bind, Sem.run_pure, Result.andThen_ok, List.map_toArray, List.map_cons, List.map_nil, hs, hx, hty] at hrun ⊢
  simp only [hrun, Result.andThen_ok]
  exact hK' _ _ (hK v' w' h2 h3)
theorem step_by_append {ops : Array Oper} {o : Oper} {a : Act} {w : World} {K : Act → World → Prop} {Q : Exit → Act → World → Prop} {E : Prop} (hw : Region.wanted o (yielded ops a.tmps) = true) (s x : Operand)
    (ho : o.op = .call { callee := .builtin .append, args := #[s, x], argTypes := #[62, 62] }) (hty : o.type = 62)
    {M : Nat} {v : Value} {xs : List (UInt8 × Int)} (hs : a.eval s = v) (hown : Ob w M v xs) {A : Option Addr} {n c : Nat} {ys : List (UInt8 × Int)} (hx : a.eval x = .slice A n c) (hn : n = ys.length) (hr : ByV w [] A ys) (hl : xs.length + ys.length ≤ 1000000) (hM : M ≤ w.heap.size)
    (hK : ∀ v' w', Hid (Ob w' M v' (xs ++ ys)) → Fr v.ownBlock.toList w w' → K (a.put o.dst v') w') : if Region.wanted o (yielded ops a.tmps) = true then Oper.wp Try.prog o a w K Q else E := by
  rw [if_pos hw]
  subst hn
  obtain ⟨v', w', hrun, h2, h3, h4⟩ := run_by_append hown (c := c) hr hl hM
  unfold Oper.wp execOp
  rw [← hty] at hrun
  simp only [ho, resolve, invoke, builtin, Sem.run_bind, Sem.run_pure, Result.andThen_ok, List.map_toArray, List.map_cons, List.map_nil, hs, hx, hty] at hrun ⊢
  simp only [hrun, Result.andThen_ok]
  exact hK v' w' h2 h3

theorem setRow_fr {w : World} {g : Nat} {old cs : Array Value} {t : TypeId} (hg : w.heap[g]? = some (.cells old t (0, 0))) : ∃ W, w.setRow g cs = W ∧ W.heap[g]? = some (.cells cs t (0, 0)) ∧ Fr [g] w W :=
  ⟨_, rfl, setRow_heap _ _ _ _ _ _ hg, ⟨rfl, rfl, rfl, by simp [World.setRow], fun k _ hn => setRow_other _ _ _ _ (by simpa using hn)⟩⟩
theorem step_store_row {P : Program} {ops : Array Oper} {o : Oper} {a : Act} {w W : World} {K : Act → World → Prop} {Q : Exit → Act → World → Prop} {E : Prop} (hw : Region.wanted o (yielded ops a.tmps) = true) (ty : TypeId) (x y : Operand) (ho : o.op = .store ty x y)
    (g : Nat) (cells : Array Value) (hx : a.eval x = .pointer (some ⟨g, 0, none⟩)) (hy : a.eval y = .agg cells)
    (t : TypeId) (old : Array Value) (hg : w.heap[g]? = some (.cells old t (0, 0))) (hi : (P.info? ty).map (·.size) = some cells.size)
    (hold : old.size = cells.size) (h1 : cells.all (·.oneCell') = true) (hW : w.setRow g cells = W)
    (h : K (a.put o.dst undef) W) : if Region.wanted o (yielded ops a.tmps) = true then Oper.wp P o a w K Q else E := by
  rw [if_pos hw]
  subst hW
  exact wp_store_row ty x y ho g cells hx hy t old hg hi hold h1 h
end Go.Proofs.Ytdndabklcenndaa
