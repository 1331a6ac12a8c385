/-
  A range over a function whose iterator hands out memory that is newer than all that the loop has seen; a round may leave the loop.
-/
import Derived.Test.YtpkgjgfdobcboaaPartsF
namespace Go.Proofs.Ytpkgjgfdobcboaa
open Go.RowKit Go.Shelf
set_option maxRecDepth 100000

def HandsG {α : Type} (F : Fence) (n : Nat) (P : Program) (g : Nat) (lb : Array Value) (encs : α → Array Value) (Kp : World → World → Prop) (Hd : List α → α → Nat → World → Prop) (S Sp : List α → Prop) (w0 : World) : Prop :=
  ∀ (l : Nat) (J Jx : List α → World → Prop) (W : World), Below w0.heap.size w0 W → AbidesFrom W.heap.size J →
    (∀ pre x W0 W1, J pre W0 → Fr [] W0 W1 → Hd pre x W0.heap.size W1 → YieldAt F (n - 1) P l (encs x) W1 fun e W' => (e = .returned (.bool true) ∧ J (pre ++ [x]) W' ∧ Kp W1 W') ∨ (e = .returned (.bool false) ∧ Jx (pre ++ [x]) W')) →
    J [] W → CallsIn F n P g (#[.func (.yield l) #[] #[]] ++ lb) W fun e W' => (∃ v, e = .returned v) ∧ ((∃ xs, S xs ∧ J xs W') ∨ ∃ xs, Sp xs ∧ Jx xs W')

/-- How the body of a round may be left. -/
def gPost {α : Type} (I : List α → World → Prop) (Ix : Code → List α → World → Prop) (Kp : World → World → Prop) (xs : List α) (W : World) : Exit → Act → World → Prop
  | .normal, _, W' => KeepsOthers W W' ∧ Kp W W' ∧ I xs W'
  | .ret, _, W' => KeepsOthers W W' ∧ Ix .ret xs W'
  | .exit id, _, W' => KeepsOthers W W' ∧ Ix (.exit id) xs W'
  | .goto t, _, W' => KeepsOthers W W' ∧ Ix (.goto t) xs W'
  | .panic _, _, _ => False
  | .outgrown, _, _ => False

theorem Fr.to_grown {A B : World} (h : Fr [] A B) : A.grownBy B none := ⟨h.os, h.tape, h.output, h.size, fun k hk _ => h.block k hk (by simp)⟩

theorem range_gen {α : Type} {F : Fence} {n : Nat} {P : Program} {g : Operand} {ps : Array Tmp} {assign body : Code} {Q : Exit → Act → World → Prop} {a : Act} {w : World}
    (hro : F.round = none) (h1 : 1 ≤ n) {gf : Nat} {lb : Array Value} (hg : a.eval g = .func (.func gf) #[] lb) (hFg : F.fn gf) (eg : ∀ args w, (callFunc gf args).run P w = .ok (.enter gf args) w)
    {encs : α → Array Value} {Kp : World → World → Prop} {Hd : List α → α → Nat → World → Prop} {S Sp : List α → Prop} (hseq : HandsG F (n - 1) P gf lb encs Kp Hd S Sp w)
    (hKt : ∀ {A B C : World}, Kp A B → Kp B C → Kp A C) (hKb : ∀ (W : World) (l : Nat) (o o' : Obj), w.heap.size ≤ l → W.heap[l]? = some o → o.isCells = false → Kp W (W.putObj l o'))
    (hHd : ∀ pre x s (W : World) (l : Nat) (o o' : Obj), W.heap[l]? = some o → o.isCells = false → Hd pre x s W → Hd pre x s (W.putObj l o'))
    (hps : ∀ x, (encs x).size = ps.size) (I : List α → World → Prop) (Ix : Code → List α → World → Prop) (hI : OwnFrom w.heap.size I) (hIx : ∀ c, OwnFrom w.heap.size (Ix c)) (h0 : I [] w) (upd : Act → α → Act)
    (hassign : ∀ (l : Nat) (x : α) (W : World) (K : Act → World → Prop), K (upd a x) W →
      assign.wpIn (F.inRound l) (n - 1 - 1) P (Exit.then K (fun _ _ _ => False)) { tmps := (ps.zip (encs x)).foldl (fun t (p, v) => t.setIfInBounds p v) a.tmps, defers := [] } W)
    (hbody : ∀ (l r : Nat) (pre : List α) (x : α) (W0 W : World), I pre W0 → (∀ c t f, W0.heap[r]? ≠ some (.cells c t f)) → w.heap.size ≤ r → Fr [r] W0 W → Hd pre x W0.heap.size W → body.wpIn (F.inRound l) (n - 1 - 1) P (gPost I Ix Kp (pre ++ [x]) W) (upd a x) W)
    (hdone : ∀ (D : Nat) (xs : List α) (W : World), w.heap.size ≤ D → S xs → I xs W → W.heap[D]? = some (.deferred (some [])) → Q .normal { a with defers := { target := .collected D, args := #[] } :: a.defers } W)
    (hstop : ∀ (D : Nat) (c : Code) (xs : List α) (W : World), w.heap.size ≤ D → Sp xs → Ix c xs W → W.heap[D]? = some (.deferred (some [])) → c.wpIn F n P Q { a with defers := { target := .collected D, args := #[] } :: a.defers } W) :
    (Code.rangeFunc g ps assign body).wpIn F n P Q a w := by
  refine wpIn_rangeFunc fun fn hfn => ?_
  rw [hro]
  obtain ⟨rc, hrc⟩ : ∃ rc : LoopState → Option Code → Loop, rc = fun s pe => { state := s, pending := pe, fn, tmps := a.tmps, params := ps, assign, body, defers := w.heap.size } := ⟨_, rfl⟩
  obtain ⟨W1, hW1⟩ : ∃ W1, W1 = (w.alloc (.deferred (some []))).alloc (.loop (rc .ready none)) := ⟨_, rfl⟩
  have hLr : W1.heap[w.heap.size + 1]? = some (.loop (rc .ready none)) := by rw [hW1]; exact newA (by simp)
  have hLd : W1.heap[w.heap.size]? = some (.deferred (some [])) := by rw [hW1]; exact keepA (newA rfl)
  have hI1 : I [] W1 := by rw [hW1]; exact hI.alloc _ (hI.alloc _ h0)
  have hz1 : W1.heap.size = w.heap.size + 2 := by rw [hW1]; simp
  have hB1 : Below w.heap.size w W1 := by rw [hW1]; exact ((Below.refl _ w).alloc (Nat.le_refl _) _).alloc (by simp) _
  refine ⟨w.heap.size + 1, [{ target := .collected w.heap.size, args := #[] }], W1, { target := .fn (.func gf) lb, args := #[.func (.yield (w.heap.size + 1)) #[] #[]] }, W1, gf,
    #[.func (.yield (w.heap.size + 1)) #[] #[]] ++ lb, W1, ?_, ?_, ?_, ?_, fun _ => h1, ?_⟩
  · rw [hW1, hrc]; exact run_enterLoop_outer _ _ _ _ _
  · simp only [resolve, hg]; simp [go_sem]
  · intro f' hf'; simp [Target.leads] at hf'; subst hf'; exact hFg
  · simp [invoke, go_sem, eg]
  refine (hseq (w.heap.size + 1) (fun pre W => I pre W ∧ W.heap[w.heap.size + 1]? = some (.loop (rc .ready none)) ∧ W.heap[w.heap.size]? = some (.deferred (some [])))
    (fun pre W => ∃ c, Ix c pre W ∧ W.heap[w.heap.size + 1]? = some (.loop (rc .done (some c))) ∧ W.heap[w.heap.size]? = some (.deferred (some []))) W1 hB1 ?_ ?_ ⟨hI1, hLr, hLd⟩).mono ?_
  · intro s A B row hs hgr hr
    have hr' : ∀ r, row = some r → w.heap.size ≤ r ∧ ∃ o : Obj, A.heap[r]? = some o ∧ o.isCells = false := fun r e => by
      obtain ⟨hb, o, ho, hw⟩ := hr r e
      exact ⟨by omega, o, ho, Obj.not_cells_of_walk hw⟩
    exact ⟨hI s A B row hs.1 hgr hr', (grownBy_keeps hgr (fun r e => (hr r e).2) hs.2.1 rfl).trans hs.2.1, (grownBy_keeps hgr (fun r e => (hr r e).2) hs.2.2 rfl).trans hs.2.2⟩
  · rintro pre x W0 W ⟨hi, hl0, hk0⟩ hf hx
    have hl : W.heap[w.heap.size + 1]? = some (.loop (rc .ready none)) := hf.keep hl0 (by simp)
    have hk : W.heap[w.heap.size]? = some (.deferred (some [])) := hf.keep hk0 (by simp)
    have hlt : w.heap.size + 1 < W.heap.size := lt_of_heap hl
    have hy := run_yield (P := P) (args := encs x) hl (by rw [hrc]; exact hps x)
    rw [hrc] at hy
    refine ⟨fn, _, assign, body, hy, roundIn_of_wpIn hfn (hassign _ x W _ ⟨_, run_beginRound hl (by rw [hrc]), ?_⟩)⟩
    obtain ⟨W2, hW2⟩ : ∃ W2, W2 = W.putObj (w.heap.size + 1) (.loop { rc .ready none with state := .busy }) := ⟨_, rfl⟩
    rw [← hW2]
    have hl2 : W2.heap[w.heap.size + 1]? = some (.loop { rc .ready none with state := .busy }) := by rw [hW2]; exact World.putObj_heap_same hlt
    have hk2 : W2.heap[w.heap.size]? = some (.deferred (some [])) := by rw [hW2]; exact (World.putObj_heap_other (by omega)).trans hk
    have hw2 : Kp W W2 := by rw [hW2]; exact hKb _ _ _ _ (by omega) hl rfl
    have hx2 : Hd pre x W0.heap.size W2 := by rw [hW2]; exact hHd _ _ _ _ _ _ _ hl rfl hx
    have hf2 : Fr [w.heap.size + 1] W0 W2 := by
      rw [hW2]
      exact hf.trans (T := [w.heap.size + 1]) ⟨rfl, rfl, rfl, by simp [World.putObj], fun k _ hn => World.putObj_heap_other (by simpa using hn)⟩ (by simp) (fun _ h => .inl h)
    have fin : ∀ (jump : Option Code) (W3 : World), KeepsOthers W2 W3 →
        (Instr.endRound (w.heap.size + 1) jump).run P W3 = .ok (.bool jump.isNone) (W3.putObj (w.heap.size + 1) (.loop (rc (if jump.isNone then .ready else .done) jump))) ∧
        W3.heap[w.heap.size + 1]? = some (.loop { rc .ready none with state := .busy }) ∧
        (W3.putObj (w.heap.size + 1) (.loop (rc (if jump.isNone then .ready else .done) jump))).heap[w.heap.size + 1]? = some (.loop (rc (if jump.isNone then .ready else .done) jump)) ∧
        (W3.putObj (w.heap.size + 1) (.loop (rc (if jump.isNone then .ready else .done) jump))).heap[w.heap.size]? = some (.deferred (some [])) := fun jump W3 hk3 => by
      have hl3 := hk3.same _ _ hl2 rfl
      have := run_endRound (P := P) jump hl3
      rw [hrc] at this ⊢
      exact ⟨this, by rw [hrc] at hl3; exact hl3, World.putObj_heap_same (lt_of_heap hl3), (World.putObj_heap_other (by omega)).trans (hk3.same _ _ hk2 rfl)⟩
    refine wpIn_mono (hbody _ (w.heap.size + 1) pre x W0 W2 hi (fun c t f e => by rw [hl0] at e; cases e) (by omega) hf2 hx2) ?_
    intro e a3 W3 hp
    cases e with
    | normal =>
      obtain ⟨hk3, hp3, hi3⟩ := hp
      obtain ⟨hr, hl3, hl4, hk4⟩ := fin none W3 hk3
      exact ⟨_, _, hr, .inl ⟨rfl, ⟨hI.putObj _ hi3 (by omega) hl3 rfl, hl4, hk4⟩, hKt (hKt hw2 hp3) (hKb _ _ _ _ (by omega) hl3 rfl)⟩⟩
    | ret =>
      obtain ⟨hk3, hi3⟩ := hp
      obtain ⟨hr, hl3, hl4, hk4⟩ := fin (some .ret) W3 hk3
      exact ⟨_, _, hr, .inr ⟨rfl, .ret, (hIx _).putObj _ hi3 (by omega) hl3 rfl, hl4, hk4⟩⟩
    | exit id =>
      obtain ⟨hk3, hi3⟩ := hp
      obtain ⟨hr, hl3, hl4, hk4⟩ := fin (some (.exit id)) W3 hk3
      exact ⟨_, _, hr, .inr ⟨rfl, .exit id, (hIx _).putObj _ hi3 (by omega) hl3 rfl, hl4, hk4⟩⟩
    | goto t =>
      obtain ⟨hk3, hi3⟩ := hp
      obtain ⟨hr, hl3, hl4, hk4⟩ := fin (some (.goto t)) W3 hk3
      exact ⟨_, _, hr, .inr ⟨rfl, .goto t, (hIx _).putObj _ hi3 (by omega) hl3 rfl, hl4, hk4⟩⟩
    | panic ch => exact hp.elim
    | outgrown => exact hp.elim
  · rintro e W2 ⟨⟨v, rfl⟩, (⟨xs, hS, hi, hl, hk⟩ | ⟨xs, hS, c, hi, hl, hk⟩)⟩
    · exact ⟨none, _, by have := run_endLoop (P := P) hl (by rw [hrc]; simp); rw [hrc] at this; exact this, hdone _ xs _ (Nat.le_refl _) hS (hI.putObj _ hi (by omega) hl rfl) ((World.putObj_heap_other (by omega)).trans hk)⟩
    · exact ⟨some c, _, by have := run_endLoop (P := P) hl (by rw [hrc]; simp); rw [hrc] at this; exact this, hstop _ c xs _ (Nat.le_refl _) hS ((hIx c).putObj _ hi (by omega) hl rfl) ((World.putObj_heap_other (by omega)).trans hk)⟩

/-- The copy of the part that comes next, in memory from s on. -/
def PartHdG (P : Parts) (pre : List (Value × List UInt8)) (x : Value × List UInt8) (s : Nat) (W : World) : Prop :=
  P[pre.length]? = some x.2 ∧ Ow W s 5 x.1 ((bi x.2).map (Value.int .u8))
attribute [local go_sem] Oper.semAt_some
set_option maxHeartbeats 2000000 in
theorem parts_handsG {w : World} {N : Nat → Prop} {a : Option Addr} {cap : Nat} {P : Parts} (h : Rp w N (.agg #[.slice a P.length cap, .int .i64 (tot P)]) P) {S : List Nat} (hS : ∀ x ∈ S, ¬ N x) {Bx : Nat}
    (hb : w.heap[Bx]? = some (.cells #[.slice a P.length cap, .int .i64 (tot P)] 65 (0, 0))) (hbS : Bx ∉ S) (n : Nat) (hn : 2 ≤ n) :
    HandsG Fence.wide n Try.prog 99 #[.pointer (some ⟨Bx, 0, none⟩)] (fun x : Value × List UInt8 => #[x.1]) (FrK w.heap.size S) (PartHdG P) (fun xs => xs.map (·.2) = P) (fun xs => xs.map (·.2) = P.take xs.length ∧ xs.length ≤ P.length) w := by
  intro l J Jx W hW hJ hY h0
  have hn1 : 1 ≤ n := by omega
  have hn2 : 1 ≤ n - 1 := by omega
  have f0 : Fr S w W := ⟨hW.os, hW.tape, hW.output, hW.size, fun k hk _ => hW.block k hk⟩
  have hbW := f0.keep hb hbS
  have hc0 := cell_of (i := 0) hbW
  have hP1 : (P.length : Int) ≤ 1024 := by obtain ⟨_, _, _, _, _, _, _, hx, _⟩ := h; omega
  have hfull : Full P := by obtain ⟨_, _, _, _, _, _, hx, _⟩ := h; exact hx
  have htot : tot P ≤ 65536 := by obtain ⟨_, _, _, _, _, _, _, _, hx⟩ := h; exact hx
  have HH := Lib.hid (And.intro h (And.intro hfull htot))
  clear hb hbW hW h hfull htot
  refine callsIn_of_wp Try.func99 rfl trivial ?_ rfl
  simp only [Try.ntmps99, List.size_toArray, List.length_cons, List.length_nil, Nat.reduceAdd, Nat.reduceSub, Array.replicate_succ, Array.replicate_zero, List.push_toArray, List.append_toArray, List.nil_append, List.cons_append]
  gi_wp2
  gi_loopw [8] (fun i wr => ∃ (k : Nat) (xs : List (Value × List UInt8)), k ≤ P.length ∧ i = .int .i64 k ∧ Hid (xs.map (·.2) = P.take k) ∧ J xs wr ∧ Fr S w wr) (fun i _ => P.length - (intOf i).toNat)
  case atStart => exact ⟨0, [], by omega, rfl, Lib.hid rfl, h0, f0⟩
  case round =>
    obtain ⟨k, xs, hk, rfl, HX, hj, fr⟩ := hrel
    clear hc0 f0
    by_cases hlt : (k : Int) < P.length
    · have hkP : k < P.length := by omega
      have hR0 : Rp wr N (.agg #[.slice a P.length cap, .int .i64 (tot P)]) P := HH.out.1.keep fr hS
      obtain ⟨a', cap', hv, _, _, hpa, _⟩ := hR0
      simp only [Value.agg.injEq, Array.mk.injEq, List.cons.injEq, Value.slice.injEq, and_true, true_and] at hv
      obtain ⟨rfl, rfl⟩ := hv
      obtain ⟨b, o, ak, ck, rfl, hb, hc, _, _, hsl, _⟩ := hpa.at_ hkP
      have hpos : 0 < P[k].length := HH.out.2.1 _ (List.getElem_mem hkP)
      have hle : P[k].length ≤ 65536 := Nat.le_trans (part_le_tot P k hkP) HH.out.2.2
      have hget : P[k]? = some P[k] := List.getElem?_eq_getElem hkP
      have hnext : P.take (k + 1) = P.take k ++ [P[k]] := List.take_succ_eq_append_getElem hkP
      have hxl : xs.length = k := by have := congrArg List.length HX.out; rw [List.length_map, List.length_take] at this; omega
      generalize P[k] = p at *
      obtain ⟨bk, ok, rfl, _⟩ := hsl (by rw [bi_length]; exact hpos)
      have HN := Lib.hid (And.intro hget (And.intro hnext hxl))
      clear hget hnext hxl hpa hb hpos
      gi_wp2_with (refine ⟨trivial, ?_⟩; gi_at_call 96; refine (callsIn_wide.2 (bytes_clone hsl rfl (by omega))).mono ?_; rintro e w' ⟨v, rfl, f, ov⟩; have fr' : Fr S w w' := fr.then0 f; obtain ⟨fn, tmps, assign, body, hy, hR⟩ := hY xs (v, p) wr w' hj f ⟨by rw [HN.out.2.2]; exact HN.out.1, ov⟩; dsimp only at hy; clear hj hc f fr hsl hY)
      refine hR.mono ?_
      rintro e W3 (⟨rfl, hJ3, hk3⟩ | ⟨rfl, hJ3⟩)
      · gi_wp2
        go_roundw
        case rel => exact ⟨k + 1, xs ++ [(v, p)], by omega, by go_num, Lib.hid (by rw [List.map_append, HX.out, HN.out.2.1]; rfl), hJ3, fr'.thenK hk3⟩
        case measure => simp [intOf]; omega
      · gi_wp2
        refine bodyPost_ret (v := .tuple #[]) (by simp [results, Try.results99, go_sem]) rfl ?_
        exact ⟨⟨_, rfl⟩, .inr ⟨xs ++ [(v, p)], ⟨by rw [List.map_append, HX.out, List.length_append, HN.out.2.2, List.length_singleton, HN.out.2.1]; rfl, by rw [List.length_append, HN.out.2.2, List.length_singleton]; omega⟩, hJ3⟩⟩
    · have hke : P.take k = P := List.take_of_length_le (by omega)
      gi_wp2
      go_end0
      exact ⟨⟨_, rfl⟩, .inl ⟨xs, by rw [HX.out, hke], hj⟩⟩
end Go.Proofs.Ytpkgjgfdobcboaa
