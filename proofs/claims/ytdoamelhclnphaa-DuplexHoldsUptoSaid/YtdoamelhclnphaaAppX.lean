/-
  Append to a slice without room: what is there is never written.
-/
import Derived.Test.YtdoamelhclnphaaLaw14
import Derived.ArgAppend
namespace Go.Proofs.Ytdoamelhclnphaa
open Go.RowKit
set_option maxRecDepth 100000

section
variable {P : Program} (w : World)
theorem run_append_exact (t ty e : TypeId) (z : Value) (bytes : Nat) (ht : P.underlying t = some (.slice e)) (hinfo : (P.info? e).map (fun i => (i.zero, i.size, i.bytes)) = some (some z, 1, bytes)) (hz1 : z.cells = #[z])
    (A0 : Option Addr) (k : Nat) (xs : List Value) (hl0 : xs.length = k) (hs0 : SlV w A0 xs) (A : Option Addr) (m c : Nat) (ys : List Value) (hm : ys.length = m) (hr : SlV w A ys) (h1 : ∀ u ∈ ys, u.oneCell' = true)
    (h63 : k + m ≤ maxLen) (hb : (k + m) * bytes ≤ 140737488355328) :
    ∃ v' w', (Builtin.append_ #[t, t] ty #[.slice A0 k k, .slice A m c]).run P w = .ok v' w' ∧ Fr [] w w' ∧ ((ys = [] ∧ v' = .slice A0 k k ∧ w' = w) ∨ Ow w' w.heap.size e v' (xs ++ ys)) := by
  obtain ⟨i, hi, hz, hs, hby⟩ : ∃ i, P.info? e = some i ∧ i.zero = some z ∧ i.size = 1 ∧ i.bytes = bytes := by
    cases h : P.info? e with
    | none => simp [h] at hinfo
    | some i => simp [h] at hinfo; exact ⟨i, rfl, hinfo.1, hinfo.2.1, hinfo.2.2⟩
  rcases Nat.eq_zero_or_pos m with h0 | h0
  · have hy : ys = [] := List.eq_nil_of_length_eq_zero (by omega)
    subst h0
    refine ⟨.slice A0 k k, w, ?_, Fr.refl _ _, .inl ⟨hy, rfl, rfl⟩⟩
    cases A0 <;> cases A <;> simp [Builtin.append_, run_underlying ht, sizeOf, typeInfo, hi, Builtin.lenOf, Builtin.firstCells, storeCells, loadCells, loadCellsFrom]
  · obtain ⟨b, o, rfl, _, hc⟩ := hr (by omega)
    rcases A0 with _ | a0
    · have hk : k = 0 := by
        rcases Nat.eq_zero_or_pos k with h | h
        · exact h
        · obtain ⟨_, _, e, _⟩ := hs0 (by omega); cases e
      subst hk
      have hx : xs = [] := List.eq_nil_of_length_eq_zero hl0
      subst hx
      obtain ⟨v', w', hrun, h2, h3, _⟩ := run_append_fr (P := P) w t ty e z bytes ht hinfo hz1 w.heap.size (.slice none 0 0) [] (Ow.nil _ _ _) (some ⟨b, o, none⟩) m c ys hm hr h1 (by simpa using h63) (by simpa using hb) (Nat.le_refl _)
      exact ⟨v', w', hrun, h3, .inr h2⟩
    · have hold : ∀ j u, xs[j]? = some u → w.cell? (a0.add j) = some u := by
        intro j u hu
        have hj : j < xs.length := (List.getElem?_eq_some_iff.1 hu).1
        obtain ⟨b', o', e', _, hc'⟩ := hs0 (by omega)
        injection e' with e'
        subst e'
        rw [addr_add, hc' j hj, hu]
      have hnew : ∀ j u, ys[j]? = some u → w.cell? ((⟨b, o, none⟩ : Addr).add j) = some u := by
        intro j u hu
        have hj : j < ys.length := (List.getElem?_eq_some_iff.1 hu).1
        rw [addr_add, hc j hj, hu]
      obtain ⟨v', w', hrun, r1, r2⟩ := run_append_arg_grows (P := P) w t ty e i z 1 bytes ht hi hz hs hby (by rw [hz1]; rfl) (by omega) a0 k k xs (by omega) hold ⟨b, o, none⟩ m c ys (by omega) hnew (by omega) h63 hb
      refine ⟨v', w', hrun, ⟨r2.os, r2.tape, r2.output, r2.size, fun q hq _ => r2.block q hq (fun e => by cases e)⟩, .inr ?_⟩
      unfold Ow
      rw [List.length_append, hl0, hm]
      exact r1
theorem step_append_exact {ops : Array Oper} {o : Oper} {a : Act} {w : World} {K : Act → World → Prop} {Q : Exit → Act → World → Prop} {E : Prop} (hw : Region.wanted o (yielded ops a.tmps) = true) (s x : Operand) (t : TypeId)
    (ho : o.op = .call { callee := .builtin .append, args := #[s, x], argTypes := #[t, t] })
    (e : TypeId) (z : Value) (bytes : Nat) (ht : P.underlying t = some (.slice e)) (hinfo : (P.info? e).map (fun i => (i.zero, i.size, i.bytes)) = some (some z, 1, bytes)) (hz1 : z.cells = #[z])
    (A0 : Option Addr) (k : Nat) (xs : List Value) (hs : a.eval s = .slice A0 k k) (hl0 : xs.length = k) (hs0 : SlV w A0 xs) (A : Option Addr) (m c : Nat) (ys : List Value) (hx : a.eval x = .slice A m c) (hm : ys.length = m) (hr : SlV w A ys) (h1 : ∀ u ∈ ys, u.oneCell' = true)
    (h63 : k + m ≤ maxLen) (hb : (k + m) * bytes ≤ 140737488355328)
    (h : ∀ v' w', Fr [] w w' → ((ys = [] ∧ v' = .slice A0 k k ∧ w' = w) ∨ Ow w' w.heap.size e v' (xs ++ ys)) → K (a.put o.dst v') w') :
    if Region.wanted o (yielded ops a.tmps) = true then Oper.wp P o a w K Q else E := by
  rw [if_pos hw]
  obtain ⟨v', w', hrun, h2, h3⟩ := run_append_exact (P := P) w t o.type e z bytes ht hinfo hz1 A0 k xs hl0 hs0 A m c ys hm hr h1 h63 hb
  unfold Oper.wp execOp
  simp only [ho, resolve, invoke, builtin, Sem.run_bind, Sem.run_pure, Result.andThen_ok, List.map_toArray, List.map_cons, List.map_nil, hs, hx, hrun]
  exact h v' w' h2 h3
end
/-- Bytes at the head of a block that no one else writes. -/
def PB (w : World) (M : Nat) (v : Value) (l : List UInt8) : Prop :=
  (v = .slice none 0 0 ∧ l = []) ∨ ∃ g cap, v = .slice (some ⟨g, 0, none⟩) l.length cap ∧ l.length ≤ cap ∧ M ≤ g ∧ g < w.heap.size ∧ ∀ i, i < l.length → w.cell? ⟨g, i, none⟩ = ((bi l).map (Value.int .u8))[i]?
theorem PB.keep {w w' : World} {M : Nat} {v : Value} {l : List UInt8} (h : PB w M v l) {S : List Nat} (hf : Fr S w w') (hS : ∀ g, v.ownBlock = some g → g ∉ S) : PB w' M v l := by
  rcases h with h | ⟨g, cap, rfl, h1, h2, h3, h4⟩
  · exact .inl h
  · exact .inr ⟨g, cap, rfl, h1, h2, Nat.lt_of_lt_of_le h3 hf.size, fun i hi => (World.cell?_of_block (w := w) (hf.block g h3 (hS g rfl))).trans (h4 i hi)⟩
theorem PB.ofOw {w : World} {M : Nat} {v : Value} {l : List UInt8} (h : Ow w M 5 v ((bi l).map (Value.int .u8))) : PB w M v l := by
  rcases h.2 with ⟨rfl, h0⟩ | ⟨g, cap, cur, rfl, hM, hh, hc, hm, hs, ht⟩
  · left
    refine ⟨rfl, ?_⟩
    simp [bi_length] at h0
    exact h0
  · right
    have hl : ((bi l).map (Value.int .u8)).length = l.length := by simp [bi_length]
    rw [hl] at hc ht
    refine ⟨g, cap, by rw [hl], hc, hM, lt_of_heap hh, fun i hi => ?_⟩
    rw [cell_of hh, ← ht, Nat.mul_one, List.getElem?_take, if_pos hi, Array.getElem?_toList]
theorem PB.sl {w : World} {M : Nat} {v : Value} {l : List UInt8} (h : PB w M v l) : ∃ a cap, v = .slice a l.length cap ∧ l.length ≤ cap ∧ Sl w a (bi l) ∧ SlV w a ((bi l).map (Value.int .u8)) ∧ (∀ b o, a = some ⟨b, o, none⟩ → v.ownBlock = some b ∧ M ≤ b ∧ b < w.heap.size) := by
  rcases h with ⟨rfl, rfl⟩ | ⟨g, cap, rfl, h1, h2, h3, h4⟩
  · exact ⟨none, 0, rfl, Nat.le_refl _, Sl.nil _ _, SlV.nil _ _, by intro b o e; cases e⟩
  · have hv : SlV w (some ⟨g, 0, none⟩) ((bi l).map (Value.int .u8)) := fun _ => ⟨g, 0, rfl, h3, fun i hi => by
      rw [Nat.zero_add]
      exact h4 i (by simpa [bi_length] using hi)⟩
    exact ⟨_, cap, rfl, h1, hv.toB, hv, fun b o e => by injection e with e; injection e with e1; subst e1; exact ⟨rfl, h2, h3⟩⟩
/-- Its first bytes. -/
theorem PB.cut {w : World} {M : Nat} {a : Option Addr} {n cap : Nat} {l : List UInt8} (h : PB w M (.slice a n cap) l) {k c' : Nat} (hk : k ≤ l.length) (hc : k ≤ c') (hn : a = none → c' = 0) : PB w M (.slice a k c') (l.take k) := by
  rcases h with ⟨e, rfl⟩ | ⟨g, cap, e, h1, h2, h3, h4⟩
  · injection e with e1 e2 e3
    subst e1
    have := hn rfl
    simp at hk
    subst hk this
    exact .inl ⟨rfl, rfl⟩
  · injection e with e1 e2 e3
    subst e1
    refine .inr ⟨g, c', by rw [List.length_take, Nat.min_eq_left hk], by rw [List.length_take]; omega, h2, h3, fun i hi => ?_⟩
    rw [List.length_take] at hi
    rw [h4 i (by omega), bi_take, List.map_take, List.getElem?_take, if_pos (by omega)]
end Go.Proofs.Ytdoamelhclnphaa
