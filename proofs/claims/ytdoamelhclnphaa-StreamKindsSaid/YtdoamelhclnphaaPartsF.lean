/-
  rope.Parts: what its iterator hands out.
-/
import Derived.Test.YtdoamelhclnphaaRangeF
namespace Go.Proofs.Ytdoamelhclnphaa
open Go.RowKit Go.Shelf
set_option maxRecDepth 100000
attribute [local go_sem] Oper.semAt_some

/-- What lay before is as it was, but for some blocks. -/
structure FrK (n0 : Nat) (S : List Nat) (A B : World) : Prop where
  os : B.os = A.os
  tape : B.tape = A.tape
  output : B.output = A.output
  size : A.heap.size ≤ B.heap.size
  block : ∀ k, k < n0 → k ∉ S → B.heap[k]? = A.heap[k]?
theorem FrK.trans {n0 : Nat} {S : List Nat} {A B C : World} (h : FrK n0 S A B) (k : FrK n0 S B C) : FrK n0 S A C :=
  ⟨k.os.trans h.os, k.tape.trans h.tape, k.output.trans h.output, Nat.le_trans h.size k.size, fun i hi hn => (k.block i hi hn).trans (h.block i hi hn)⟩
theorem FrK.putObj {n0 : Nat} {S : List Nat} {l : Nat} (hl : n0 ≤ l) (W : World) (o : Obj) : FrK n0 S W (W.putObj l o) :=
  ⟨rfl, rfl, rfl, by simp [World.putObj], fun k hk _ => World.putObj_heap_other (by omega)⟩
theorem Fr.toK {n0 : Nat} {S : List Nat} {A B : World} (h : Fr S A B) (hn : n0 ≤ A.heap.size) : FrK n0 S A B :=
  ⟨h.os, h.tape, h.output, h.size, fun k hk hS => h.block k (by omega) hS⟩
theorem Fr.thenK {S : List Nat} {w A B : World} (h : Fr S w A) (k : FrK w.heap.size S A B) : Fr S w B :=
  ⟨k.os.trans h.os, k.tape.trans h.tape, k.output.trans h.output, Nat.le_trans h.size k.size, fun i hi hn => (k.block i hi hn).trans (h.block i hi hn)⟩
theorem Ow.putObj {w : World} {M : Nat} {e : TypeId} {v : Value} {xs : List Value} (h : Ow w M e v xs) {l : Nat} {o o' : Obj} (hl : w.heap[l]? = some o) (ho : o.isCells = false) : Ow (w.putObj l o') M e v xs := by
  refine ⟨h.1, ?_⟩
  rcases h.2 with h1 | ⟨g, cap, cur, rfl, hM, hh, x⟩
  · exact .inl h1
  · refine .inr ⟨g, cap, cur, rfl, hM, (World.putObj_heap_other (fun e => ?_)).trans hh, x⟩
    subst e
    rw [hh] at hl
    injection hl with hl
    subst hl
    simp [Obj.isCells] at ho
theorem Fr.keepsOthers {S : List Nat} {A B : World} (h : Fr S A B) (hS : ∀ x ∈ S, ∀ o, A.heap[x]? = some o → o.isCells = true) : KeepsOthers A B :=
  ⟨h.size, fun k o hk ho => h.keep hk (fun hm => by rw [hS k hm o hk] at ho; cases ho)⟩

/-- The copy of the part that comes next, in new memory. -/
def PartHd (n0 : Nat) (P : Parts) (pre : List (Value × List UInt8)) (x : Value × List UInt8) (W : World) : Prop :=
  P[pre.length]? = some x.2 ∧ Ow W n0 5 x.1 ((bi x.2).map (Value.int .u8))

theorem part_le_tot (P : Parts) (k : Nat) (hk : k < P.length) : P[k].length ≤ tot P := by
  have h1 := tot_take_le P (k + 1)
  rw [List.take_succ_eq_append_getElem hk] at h1
  unfold tot at h1 ⊢
  rw [List.flatten_append, List.length_append] at h1
  have h2 : [P[k]].flatten.length = P[k].length := by rw [List.flatten_cons, List.flatten_nil, List.append_nil]
  omega
set_option maxHeartbeats 2000000 in
theorem parts_hands {w : World} {N : Nat → Prop} {a : Option Addr} {cap : Nat} {P : Parts} (h : Rp w N (.agg #[.slice a P.length cap, .int .i64 (tot P)]) P) {S : List Nat} (hS : ∀ x ∈ S, ¬ N x) {Bx : Nat}
    (hb : w.heap[Bx]? = some (.cells #[.slice a P.length cap, .int .i64 (tot P)] 57 (0, 0))) (hbS : Bx ∉ S) (n : Nat) (hn : 2 ≤ n) :
    Hands Fence.wide n Try.prog 126 #[.pointer (some ⟨Bx, 0, none⟩)] (fun x : Value × List UInt8 => #[x.1]) (FrK w.heap.size S) (PartHd w.heap.size P) (fun xs => xs.map (·.2) = P) w := by
  intro l J W hW hJ hY h0
  have hn1 : 1 ≤ n := by omega
  have hn2 : 1 ≤ n - 1 := by omega
  have f0 : Fr S w W := ⟨hW.os, hW.tape, hW.output, hW.size, fun k hk _ => hW.block k hk⟩
  have hbW := f0.keep hb hbS
  have hc0 := cell_of (i := 0) hbW
  have hP1 : (P.length : Int) ≤ 1024 := by obtain ⟨_, _, _, _, _, _, _, hx, _⟩ := h; omega
  have hfull : Full P := by obtain ⟨_, _, _, _, _, _, hx, _⟩ := h; exact hx
  have htot : tot P ≤ 65536 := by obtain ⟨_, _, _, _, _, _, _, _, hx⟩ := h; exact hx
  have HH := Lib.hid (And.intro h (And.intro hfull htot))
  clear hb hbW hW h hfull htot
  refine callsIn_of_wp Try.func126 rfl trivial ?_ rfl
  simp only [Try.ntmps126, List.size_toArray, List.length_cons, List.length_nil, Nat.reduceAdd, Nat.reduceSub, Array.replicate_succ, Array.replicate_zero, List.push_toArray, List.append_toArray, List.nil_append, List.cons_append]
  gi_wp2
  gi_loopw [8] (fun i wr => ∃ (k : Nat) (xs : List (Value × List UInt8)), k ≤ P.length ∧ i = .int .i64 k ∧ Hid (xs.map (·.2) = P.take k) ∧ J xs wr ∧ Fr S w wr) (fun i _ => P.length - (intOf i).toNat)
  case atStart => exact ⟨0, [], by omega, rfl, Lib.hid rfl, h0, f0⟩
  case round =>
    obtain ⟨k, xs, hk, rfl, HX, hj, fr⟩ := hrel
    clear hc0 f0
    by_cases hlt : (k : Int) < P.length
    · have hkP : k < P.length := by omega
      have hR0 : Rp wr N (.agg #[.slice a P.length cap, .int .i64 (tot P)]) P := HH.out.1.keep fr hS
      obtain ⟨a', cap', hv, _, _, hpa, _⟩ := hR0
      simp only [Value.agg.injEq, Array.mk.injEq, List.cons.injEq, Value.slice.injEq, and_true, true_and] at hv
      obtain ⟨rfl, rfl⟩ := hv
      obtain ⟨b, o, ak, ck, rfl, hb, hc, _, _, hsl, _⟩ := hpa.at_ hkP
      have hpos : 0 < P[k].length := HH.out.2.1 _ (List.getElem_mem hkP)
      have hle : P[k].length ≤ 65536 := Nat.le_trans (part_le_tot P k hkP) HH.out.2.2
      have hget : P[k]? = some P[k] := List.getElem?_eq_getElem hkP
      have hnext : P.take (k + 1) = P.take k ++ [P[k]] := List.take_succ_eq_append_getElem hkP
      have hxl : xs.length = k := by have := congrArg List.length HX.out; rw [List.length_map, List.length_take] at this; omega
      generalize P[k] = p at *
      obtain ⟨bk, ok, rfl, _⟩ := hsl (by rw [bi_length]; exact hpos)
      have HN := Lib.hid (And.intro hget (And.intro hnext hxl))
      clear hget hnext hxl hpa hb hpos
      gi_wp2_with (refine ⟨trivial, ?_⟩; gi_at_call 75; refine (callsIn_wide.2 (bytes_clone hsl rfl (by omega))).mono ?_; rintro e w' ⟨v, rfl, f, ov⟩; have hj' : J xs w' := hJ xs wr w' none hj ⟨f.os, f.tape, f.output, f.size, fun k hk _ => f.block k hk (by simp)⟩ (fun r e => by cases e); have fr' : Fr S w w' := fr.then0 f; obtain ⟨fn, tmps, assign, body, hy, hR⟩ := hY xs (v, p) w' hj' ⟨by rw [HN.out.2.2]; exact HN.out.1, ov.mono fr.size⟩; dsimp only at hy; clear hj hc f fr hsl hY)
      refine hR.mono ?_
      rintro e W3 ⟨rfl, hJ3, hk3⟩
      gi_wp2
      go_roundw
      case rel => exact ⟨k + 1, xs ++ [(v, p)], by omega, by go_num, Lib.hid (by rw [List.map_append, HX.out, HN.out.2.1]; rfl), hJ3, fr'.thenK hk3⟩
      case measure => simp [intOf]; omega
    · have hke : P.take k = P := List.take_of_length_le (by omega)
      gi_wp2
      go_end0
      exact ⟨⟨_, rfl⟩, xs, by rw [HX.out, hke], hj⟩
end Go.Proofs.Ytdoamelhclnphaa
