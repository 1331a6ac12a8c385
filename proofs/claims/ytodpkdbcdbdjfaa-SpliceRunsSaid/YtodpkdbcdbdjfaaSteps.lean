/-
  Steps of a region that draws its order, guarded or not: a call of a function by its contract, append, copy of the way a value is made.
-/
import Derived.Test.YtodpkdbcdbdjfaaStr
import Derived.Deep.RegionLaw
import Derived.Deep.RegionHeld3
import Derived.Shelf.Abstract
import Derived.RangeFuncCalls
namespace Go.Proofs.Ytodpkdbcdbdjfaa
open Go.RowKit

section
variable {P : Program} {ops : Array Oper} {o : Oper} {a : Act} {w : World} {K : Act → World → Prop} {Q : Exit → Act → World → Prop} {E : Prop}

theorem step_call (hw : Region.wanted o (yielded ops a.tmps) = true) (f : FuncId) (args : Array Operand) (ts : Array TypeId)
    (hop : o.op = .call { callee := .value (.func f), args := args, argTypes := ts }) (he : ∀ args w, (callFunc f args).run P w = .ok (.enter f args) w)
    (vs : Array Value) (hv : args.map a.eval = vs) {R : Ending → World → Prop} (hc : Calls P f vs w R) (hk : ∀ e w', R e w' → ∃ v, e = .returned v ∧ K (a.put o.dst v) w') :
    if Region.wanted o (yielded ops a.tmps) = true then Oper.wp P o a w K Q else E := by
  rw [if_pos hw]
  subst hv
  unfold Oper.wp
  have hrun : (execOp a.eval o).run P w = .ok (.enter f (args.map a.eval)) w := by
    simp [execOp, hop, resolve, invoke, go_sem, Act.eval, he]
  rw [hrun, Oper.upon_enter]
  refine hc.mono fun e w' hr => ?_
  obtain ⟨v, rfl, h⟩ := hk e w' hr
  exact h

theorem step_append_fr (hw : Region.wanted o (yielded ops a.tmps) = true) (s x : Operand) (t : TypeId)
    (ho : o.op = .call { callee := .builtin .append, args := #[s, x], argTypes := #[t, t] })
    (e : TypeId) (z : Value) (bytes : Nat) (ht : P.underlying t = some (.slice e)) (hinfo : (P.info? e).map (fun i => (i.zero, i.size, i.bytes)) = some (some z, 1, bytes)) (hz1 : z.cells = #[z])
    (M : Nat) (v : Value) (xs : List Value) (hs : a.eval s = v) (hown : Ow w M e v xs) (A : Option Addr) (m c : Nat) (ys : List Value) (hx : a.eval x = .slice A m c) (hm : ys.length = m) (hr : SlV w A ys) (h1 : ∀ u ∈ ys, u.oneCell' = true)
    (h63 : xs.length + m ≤ maxLen) (hb : (xs.length + m) * bytes ≤ 140737488355328) (hM : M ≤ w.heap.size)
    (h : ∀ v' w', Ow w' M e v' (xs ++ ys) → Fr v.ownBlock.toList w w' → K (a.put o.dst v') w') :
    if Region.wanted o (yielded ops a.tmps) = true then Oper.wp P o a w K Q else E := by
  rw [if_pos hw]
  obtain ⟨v', w', hrun, h2, h3, h4⟩ := run_append_fr (P := P) w t o.type e z bytes ht hinfo hz1 M v xs hown A m c ys hm hr h1 h63 hb hM
  unfold Oper.wp execOp
  simp only [ho, resolve, invoke, builtin, Sem.run_bind, Sem.run_pure, Result.andThen_ok, List.map_toArray, List.map_cons, List.map_nil, hs, hx, hrun]
  exact h v' w' h2 h3
/-- The condition that is held may be made stronger on the way. -/
theorem wpAnyH_strengthen {P : Program} {md : Region.Mode} {ops : Array Oper} {Q : Exit → Act → World → Prop} {S S' : World → Prop} (h : ∀ w, S' w → S w) : ∀ (fuel : Nat) (listed : Array Bool) (a : Act) (w : World), wpAnyH P md ops Q S' fuel listed a w → wpAnyH P md ops Q S fuel listed a w
  | 0, _, _, _, k => k
  | fuel + 1, _, _, _, k => ⟨k.1, fun i hi => wpOp_mono (fun a' w' h' => ⟨h w' h'.1, wpAnyH_strengthen h fuel _ a' w' h'.2⟩) (k.2 i hi)⟩
end

/-- A new result of bytes as a slice. -/
theorem NewB.form {w w' : World} {out : List Int} {v : Value} (h : NewB w out v w') : ∃ a cap, v = .slice a out.length cap ∧ out.length ≤ cap ∧ Sl w' a out ∧ (∀ b o, a = some ⟨b, o, none⟩ → w.heap.size ≤ b) := by
  rcases h with ⟨rfl, rfl⟩ | ⟨N, rfl, hr, hN⟩
  · exact ⟨none, 0, rfl, Nat.le_refl _, Sl.nil _ _, by intro b o e; cases e⟩
  · exact ⟨_, _, rfl, Nat.le_refl _, hr.sl, by intro b o e; injection e with e; injection e with e1; omega⟩
theorem Ow.formB {w : World} {M : Nat} {e : TypeId} {v : Value} {g : List UInt8} (h : Ow w M e v ((bi g).map (Value.int .u8))) : ∃ a cap, v = .slice a g.length cap ∧ g.length ≤ cap ∧ cap ≤ maxLen ∧ Sl w a (bi g) ∧ (∀ b o, a = some ⟨b, o, none⟩ → M ≤ b) := by
  obtain ⟨a, cap, hv, h1, h2, h3, h4⟩ := h.form
  simp only [List.length_map, bi_length] at hv h1
  exact ⟨a, cap, hv, h1, h2, h3.toB, fun b o e => (h.lt b (h4 b o e)).1⟩
theorem NewB.formB {w w' : World} {out : List UInt8} {v : Value} (h : NewB w (bi out) v w') : ∃ a cap, v = .slice a out.length cap ∧ out.length ≤ cap ∧ Sl w' a (bi out) ∧ (∀ b o, a = some ⟨b, o, none⟩ → w.heap.size ≤ b) := by
  obtain ⟨a, cap, hv, h1, h2, h3⟩ := h.form
  simp only [bi_length] at hv h1
  exact ⟨a, cap, hv, h1, h2, h3⟩
theorem Sl.take {w : World} {a : Option Addr} {bs : List Int} (h : Sl w a bs) (n : Nat) : Sl w a (bs.take n) := fun h0 => by
  rw [List.length_take] at h0
  obtain ⟨b, o, e, hb, hc⟩ := h (by omega)
  refine ⟨b, o, e, hb, fun i hi => ?_⟩
  rw [List.length_take] at hi
  rw [hc i (by omega), getD_take _ _ _ (by omega)]
theorem Fr.undrew {S : List Nat} {w w' : World} (h : Fr S w.drew w') : Fr S w w' := ⟨h.os, h.tape, h.output, h.size, h.block⟩
theorem Fr.undrewN {S : List Nat} {w w' : World} {n : Nat} (h : Fr S (w.drewN n) w') : Fr S w w' := ⟨h.os, h.tape, h.output, h.size, h.block⟩
theorem cutp_block {b o b' o' cap l : Nat} (e : cutp (some ⟨b', o', none⟩) cap l = some ⟨b, o, none⟩) : b = b' := by
  unfold cutp at e
  split at e
  · injection e with e; injection e with e1; exact e1.symm
  · simp only [Option.map_some, addr_add, Option.some.injEq, Addr.mk.injEq, and_true] at e; exact e.1.symm
theorem Arg.cut {w : World} {M : Nat} {a : Option Addr} {len cap : Nat} {l : List UInt8} (h : Arg w M a len cap l) {lo k : Nat} (hk : lo + k ≤ len) : Arg w M (cutp a cap lo) k (cap - lo) ((l.drop lo).take k) := by
  have h1 := h.len_eq
  have h2 := h.le
  have h3 := h.cap_le
  refine ⟨by simp; omega, by omega, by omega, ?_, ?_⟩
  · rw [bi_take, bi_drop]
    exact cutp_sl h.sl (by rw [bi_length]; omega) (by rw [bi_length]; omega)
  · intro b o h0 e
    obtain ⟨b', o', e', _⟩ := h.sl (by rw [bi_length]; omega)
    subst e'
    rw [cutp_block e]
    exact h.old b' o' (by omega) rfl
theorem Arg.take {w : World} {M : Nat} {a : Option Addr} {len cap : Nat} {l : List UInt8} (h : Arg w M a len cap l) {k : Nat} (hk : k ≤ len) : Arg w M a k cap (l.take k) := by
  have h1 := h.len_eq
  have h2 := h.le
  exact ⟨by simp; omega, by omega, h.cap_le, by rw [bi_take]; exact h.sl.take k, fun b o h0 e => h.old b o (by omega) e⟩
theorem bytes_one (bs : List Int) : ∀ u ∈ bs.map (Value.int .u8), u.oneCell' = true := oneCell_bytes bs
end Go.Proofs.Ytodpkdbcdbdjfaa
