/-
  Package stream: refill, Begin, stop, Progress.
-/
import Derived.Test.YtdoamelhclnphaaStA
import Derived.Deep.QuietTactic
import Derived.BigQuiet
import Derived.MapKept
import Derived.Carry
import Derived.Test.YtdoamelhclnphaaSteps
import Derived.Laws.Rows
import Derived.Test.YtdoamelhclnphaaStHoldL
namespace Go.Proofs.Ytdoamelhclnphaa
open Go.RowKit
set_option maxRecDepth 100000

theorem Sto.form {w : World} {L : List Nat} {v : Value} {c : Int} {q : List UInt8} (h : Sto w L v c q) : ∃ t u, v = .iface t u := by
  rcases h with ⟨_, _, _, rfl⟩ | ⟨R, D, _, _, _, _, rfl, _⟩
  · exact ⟨_, _, rfl⟩
  · exact ⟨_, _, rfl⟩
section
variable {w : World} {N : Nat → Prop} {L : List Nat} {b : Nat} {m : SM} {sv : Value} {a : Option Addr} {cap : Nat} {P : Parts}
theorem StR.mono {N' : Nat → Prop} (h : StR w N L b m sv a cap P) (hN : ∀ x, N x → N' x) (hb : ¬ N' b) (hL : ∀ x ∈ L, ¬ N' x) : StR w N' L b m sv a cap P :=
  ⟨h.k, h.s, h.p.mono hN, h.e, hb, hL, h.bl⟩
theorem StR.lts (h : StR w N L b m sv a cap P) : b < w.heap.size ∧ (∀ x ∈ L, x < w.heap.size) ∧ ¬ (N b ∨ w.heap.size ≤ b) ∧ ∀ x ∈ L, ¬ (N x ∨ w.heap.size ≤ x) := by
  have h1 := lt_of_heap h.k
  have h2 := h.s.lt
  exact ⟨h1, h2, by rintro (h' | h'); exact h.nb h'; omega, fun x hx h' => by have := h2 x hx; rcases h' with h' | h'; exact h.nl x hx h'; omega⟩
theorem StR.wide (h : StR w N L b m sv a cap P) : StR w (fun x => N x ∨ w.heap.size ≤ x) L b m sv a cap P :=
  h.mono (fun _ => .inl) h.lts.2.2.1 h.lts.2.2.2
theorem StB.acc {a : Option Addr} {len cap : Nat} {n acc x y : Int} {busy : Bool} (h : StB w b sv busy a len cap n acc x y) (z : Int) : StB (w.setCell ⟨b, 4, none⟩ (.int .i64 z)) b sv busy a len cap n z x y := by
  have := heap_setCell_eq (i := 4) (u := .int .i64 z) h
  unfold StB
  rw [this]
  simp
def RefillPost (w : World) (N : Nat → Prop) (L : List Nat) (b : Nat) (m : SM) (sv : Value) (e : Ending) (w' : World) : Prop :=
  e = .returned (.tuple #[]) ∧ Fr (b :: L) w w' ∧ ∃ a' cap' P', StR w' (fun x => N x ∨ w.heap.size ≤ x) L b m sv a' cap' P'
set_option maxHeartbeats 1000000 in
theorem st_refill (h : StR w N L b m sv a cap P) (ha : 0 ≤ m.acc ∧ m.acc ≤ 65536) :
    Calls Try.prog 78 #[.pointer (some ⟨b, 0, none⟩)] w (RefillPost w N L b (fillM m) sv) := by
  obtain ⟨st, su, rfl⟩ := h.s.form
  have HH := Lib.hid h
  obtain ⟨c0, c1, _, _, c4, _, _⟩ := h.k.cells
  have hbd := h.s.bd
  have HO := Lib.hid (st_open h)
  clear h
  by_cases hb : m.busy = false
  · have e : fillM m = m := by unfold fillM; rw [if_neg (by rw [hb]; simp)]
    rw [e]
    rw [hb] at c1
    clear hbd e hb ha
    go_enter Try.func78, Try.ntmps78
    go_wp2_with fail
    go_end0
    exact ⟨rfl, Fr.refl _ _, _, _, _, HH.out.wide⟩
  have hb' : m.busy = true := by simpa using hb
  rw [hb'] at c1
  by_cases hop : opM m = false
  · have e : fillM m = m := by
      unfold fillM
      unfold opM at hop
      rw [if_neg]
      rintro ⟨_, h1, h2⟩
      rw [h1, h2] at hop
      simp at hop
    rw [e]
    rw [hop] at HO
    clear hbd e hb hb' ha hop
    go_enter Try.func78, Try.ntmps78
    go_wp2_with fail
    refine HO.out.mono ?_
    rintro e w' ⟨rfl, rfl⟩
    go_wp2_with fail
    go_end0
    exact ⟨rfl, Fr.refl _ _, _, _, _, HH.out.wide⟩
  have hop' : opM m = true := by simpa using hop
  have e : fillM m = pourM m := by
    unfold fillM
    unfold opM at hop'
    rw [if_pos]
    simp at hop'
    exact ⟨hb', hop'⟩
  rw [e]
  rw [hop'] at HO
  have hn : (min (roomM m) m.rest.length : Nat) ≤ 4096 := by unfold roomM; omega
  have HWR := Lib.hid (show IntKind.i64.wrap (m.acc + ((min (roomM m) m.rest.length : Nat) : Int)) = m.acc + ((min (roomM m) m.rest.length : Nat) : Int) from IntWalk.i64_in _ (by omega))
  have HB := Lib.hid (And.intro ha hbd)
  clear hbd e hb hb' hop hop' ha hn c0 c4
  go_enter Try.func78, Try.ntmps78
  go_wp2_with fail
  refine HO.out.mono ?_
  rintro e w' ⟨rfl, rfl⟩
  go_wp2_with fail
  have fd : Fr [] w w.drew := (Fr.refl _ _).drew
  refine wp_region_late [(0, true), (1, true), (2, true), (3, true), (4, true), (5, true), (6, true), (7, true), (8, true), (9, true), (10, true), (11, true), (12, true), (13, false), (14, true), (15, true), (16, true)] [17] (fun w' => w'.cell? ⟨b, 4, none⟩ = some (.int .i64 m.acc) ∧ w'.cell? ⟨b, 0, none⟩ = some (.iface st su)) (by kernel_rfl) (by kernel_rfl) ⟨(HH.out.keep0 fd).k.cells.c4, (HH.out.keep0 fd).k.cells.c0⟩ ?_
  intro OPS HOPS
  have hops := HOPS.out
  try simp only [List.append_eq, List.cons_append, List.nil_append] at hops
  replace HOPS := Lib.hid hops
  clear hops
  refine walkX_take (o := _) (v := ?_) (by rw [HOPS.out]; simp only [List.getElem?_toArray, List.getElem?_cons_succ, List.getElem?_cons_zero]; exact rfl) (Or.inl ⟨rfl, ?_⟩) ?_
  rotate_left
  · (intro w hSw; (try dsimp only at hSw); go_simp) <;> (with_reducible rfl)
  simp only [Act.put, List.setIfInBounds_toArray, List.set_cons_zero, List.set_cons_succ]
  refine walkX_take (o := _) (v := ?_) (by rw [HOPS.out]; simp only [List.getElem?_toArray, List.getElem?_cons_succ, List.getElem?_cons_zero]; exact rfl) (Or.inl ⟨rfl, ?_⟩) ?_
  rotate_left
  · (intro w hSw; (try dsimp only at hSw); go_simp) <;> (with_reducible rfl)
  simp only [Act.put, List.setIfInBounds_toArray, List.set_cons_zero, List.set_cons_succ]
  refine walkX_take (o := _) (v := ?_) (by rw [HOPS.out]; simp only [List.getElem?_toArray, List.getElem?_cons_succ, List.getElem?_cons_zero]; exact rfl) (Or.inl ⟨rfl, ?_⟩) ?_
  rotate_left
  · (intro w hSw; (try dsimp only at hSw); go_simp) <;> (with_reducible rfl)
  simp only [Act.put, List.setIfInBounds_toArray, List.set_cons_zero, List.set_cons_succ]
  refine walkX_take (o := _) (v := ?_) (by rw [HOPS.out]; simp only [List.getElem?_toArray, List.getElem?_cons_succ, List.getElem?_cons_zero]; exact rfl) (Or.inl ⟨rfl, ?_⟩) ?_
  rotate_left
  · (intro w hSw; (try dsimp only at hSw); go_simp) <;> (with_reducible rfl)
  simp only [Act.put, List.setIfInBounds_toArray, List.set_cons_zero, List.set_cons_succ]
  refine walkX_take (o := _) (v := ?_) (by rw [HOPS.out]; simp only [List.getElem?_toArray, List.getElem?_cons_succ, List.getElem?_cons_zero]; exact rfl) (Or.inl ⟨rfl, ?_⟩) ?_
  rotate_left
  · (intro w hSw; (try dsimp only at hSw); go_simp) <;> (with_reducible rfl)
  simp only [Act.put, List.setIfInBounds_toArray, List.set_cons_zero, List.set_cons_succ]
  refine walkX_take (o := _) (v := ?_) (by rw [HOPS.out]; simp only [List.getElem?_toArray, List.getElem?_cons_succ, List.getElem?_cons_zero]; exact rfl) (Or.inl ⟨rfl, ?_⟩) ?_
  rotate_left
  · (intro w hSw; (try dsimp only at hSw); go_simp) <;> (with_reducible rfl)
  simp only [Act.put, List.setIfInBounds_toArray, List.set_cons_zero, List.set_cons_succ]
  refine walkX_take (o := _) (v := ?_) (by rw [HOPS.out]; simp only [List.getElem?_toArray, List.getElem?_cons_succ, List.getElem?_cons_zero]; exact rfl) (Or.inl ⟨rfl, ?_⟩) ?_
  rotate_left
  · (intro w hSw; (try dsimp only at hSw); go_simp) <;> (with_reducible rfl)
  simp only [Act.put, List.setIfInBounds_toArray, List.set_cons_zero, List.set_cons_succ]
  refine walkX_take (o := _) (v := ?_) (by rw [HOPS.out]; simp only [List.getElem?_toArray, List.getElem?_cons_succ, List.getElem?_cons_zero]; exact rfl) (Or.inl ⟨rfl, ?_⟩) ?_
  rotate_left
  · (intro w hSw; (try dsimp only at hSw); go_simp) <;> (with_reducible rfl)
  simp only [Act.put, List.setIfInBounds_toArray, List.set_cons_zero, List.set_cons_succ]
  refine walkX_take (o := _) (v := ?_) (by rw [HOPS.out]; simp only [List.getElem?_toArray, List.getElem?_cons_succ, List.getElem?_cons_zero]; exact rfl) (Or.inl ⟨rfl, ?_⟩) ?_
  rotate_left
  · (intro w hSw; (try dsimp only at hSw); go_simp) <;> (with_reducible rfl)
  simp only [Act.put, List.setIfInBounds_toArray, List.set_cons_zero, List.set_cons_succ]
  refine walkX_take (o := _) (v := ?_) (by rw [HOPS.out]; simp only [List.getElem?_toArray, List.getElem?_cons_succ, List.getElem?_cons_zero]; exact rfl) (Or.inl ⟨rfl, ?_⟩) ?_
  rotate_left
  · (intro w hSw; (try dsimp only at hSw); go_simp) <;> (with_reducible rfl)
  simp only [Act.put, List.setIfInBounds_toArray, List.set_cons_zero, List.set_cons_succ]
  refine walkX_take (o := _) (v := ?_) (by rw [HOPS.out]; simp only [List.getElem?_toArray, List.getElem?_cons_succ, List.getElem?_cons_zero]; exact rfl) (Or.inl ⟨rfl, ?_⟩) ?_
  rotate_left
  · (intro w hSw; (try dsimp only at hSw); go_simp) <;> (with_reducible rfl)
  simp only [Act.put, List.setIfInBounds_toArray, List.set_cons_zero, List.set_cons_succ]
  refine walkX_take (o := _) (v := ?_) (by rw [HOPS.out]; simp only [List.getElem?_toArray, List.getElem?_cons_succ, List.getElem?_cons_zero]; exact rfl) (Or.inl ⟨rfl, ?_⟩) ?_
  rotate_left
  · (intro w hSw; (try dsimp only at hSw); go_simp) <;> (with_reducible rfl)
  simp only [Act.put, List.setIfInBounds_toArray, List.set_cons_zero, List.set_cons_succ]
  refine walkX_take (o := _) (v := ?_) (by rw [HOPS.out]; simp only [List.getElem?_toArray, List.getElem?_cons_succ, List.getElem?_cons_zero]; exact rfl) (Or.inl ⟨rfl, ?_⟩) ?_
  rotate_left
  · (intro w hSw; (try dsimp only at hSw); go_simp) <;> (with_reducible rfl)
  simp only [Act.put, List.setIfInBounds_toArray, List.set_cons_zero, List.set_cons_succ]
  refine walkX_call (o := _) (by rw [HOPS.out]; simp only [List.getElem?_toArray, List.getElem?_cons_succ, List.getElem?_cons_zero]; exact rfl) (fun K HK => ?_)
  refine step_invoke rfl "aqueduct/stream.fill" (.tmp 22) #[(.tmp 20)] #[106] rfl (.iface st su) (by simp [Act.eval]) #[.pointer (some ⟨b, 2, none⟩)] (by simp [Act.eval]) (sto_fill (HH.out.keep0 fd)) ?_
  rintro e w2 ⟨a', cap', P', rfl, f2, h2⟩
  obtain ⟨k0, _, _, _, k4, _, _⟩ := h2.k.cells
  have k7 := h2.k.free 4
  refine ⟨_, rfl, ?_⟩
  refine HK.out (fun w' => w'.cell? ⟨b, 4, none⟩ = some (.int .i64 m.acc) ∧ w'.cell? ⟨b, 0, none⟩ = some (.iface st su)) _ _ (fun _ h => h) (⟨k4, k0⟩) ?_
  clear HK K
  simp only [Act.put, List.setIfInBounds_toArray, List.set_cons_zero, List.set_cons_succ]
  refine walkX_take (o := _) (v := ?_) (by rw [HOPS.out]; simp only [List.getElem?_toArray, List.getElem?_cons_succ, List.getElem?_cons_zero]; exact rfl) (Or.inl ⟨rfl, ?_⟩) ?_
  rotate_left
  · (intro w hSw; (try dsimp only at hSw); go_simp) <;> (with_reducible rfl)
  simp only [Act.put, List.setIfInBounds_toArray, List.set_cons_zero, List.set_cons_succ]
  refine walkX_take (o := _) (v := ?_) (by rw [HOPS.out]; simp only [List.getElem?_toArray, List.getElem?_cons_succ, List.getElem?_cons_zero]; exact rfl) (Or.inl ⟨rfl, ?_⟩) ?_
  rotate_left
  · (intro w hSw; (try dsimp only at hSw); go_simp) <;> (with_reducible rfl)
  simp only [Act.put, List.setIfInBounds_toArray, List.set_cons_zero, List.set_cons_succ]
  refine walkX_take (o := _) (v := ?_) (by rw [HOPS.out]; simp only [List.getElem?_toArray, List.getElem?_cons_succ, List.getElem?_cons_zero]; exact rfl) (Or.inl ⟨rfl, ?_⟩) ?_
  rotate_left
  · (intro w hSw; (try dsimp only at hSw); go_simp) <;> (with_reducible rfl)
  simp only [Act.put, List.setIfInBounds_toArray, List.set_cons_zero, List.set_cons_succ]
  refine walkX_tail ?_
  refine walkTail_step (o := _) (by rw [HOPS.out]; simp only [List.getElem?_toArray, List.getElem?_cons_succ, List.getElem?_cons_zero]; exact rfl) (fun K HK => ?_)
  go_simp
  refine HK.out _ _ ?_
  clear HK K
  try simp only [Act.put, List.setIfInBounds_toArray, List.set_cons_zero, List.set_cons_succ]
  refine walkTail_done ?_
  clear HOPS OPS
  rw [HWR.out]
  go_end0
  have hs1 : Fr (b :: L) w2 (w2.setCell ⟨b, 4, none⟩ (.int .i64 (m.acc + ((min (roomM m) m.rest.length : Nat) : Int)))) := (Fr.refl _ _).setCell (.inl (by simp)) _
  refine ⟨rfl, ((fd.mono (T := b :: L) (by simp)).then f2).then hs1, a', cap', P', ?_⟩
  obtain ⟨q1, q2, q3, q4, q5, q6, q7⟩ := h2
  have fb : Fr [b] w2 (w2.setCell ⟨b, 4, none⟩ (.int .i64 (m.acc + ((min (roomM m) m.rest.length : Nat) : Int)))) := (Fr.refl _ _).setCell (.inl (by simp)) _
  unfold pourM
  exact ⟨q1.acc _, q2.keep fb (fun x hx hm => by simp at hm; subst hm; exact q7 hx), q3.keep fb (fun x hx => by simp at hx; subst hx; exact q5), q4, q5, q6, q7⟩

theorem StB.drew {busy : Bool} {len : Nat} {n acc x y : Int} (h : StB w b sv busy a len cap n acc x y) : StB w.drew b sv busy a len cap n acc x y := h
theorem stop_blk {w' : World} {len : Nat} {n acc x y : Int} {busy : Bool} (h : StB w b sv busy a len cap n acc x y) (hw : w' = (((w.setCell ⟨b, 1, none⟩ (.bool false)).setCell ⟨b, 2, none⟩ (.slice none 0 0)).setCell ⟨b, 3, none⟩ (.int .i64 0)).setCell ⟨b, 4, none⟩ (.int .i64 0)) : StB w' b sv false none 0 0 0 0 x y := by
  have := heap_setCell_eq (i := 4) (u := .int .i64 0) (heap_setCell_eq (i := 3) (u := .int .i64 0) (heap_setCell_eq (i := 2) (u := .slice none 0 0) (heap_setCell_eq (i := 1) (u := .bool false) h)))
  unfold StB
  rw [hw, this]
  simp
theorem st_stop (h : StR w N L b m sv a cap P) :
    Calls Try.prog 80 #[.pointer (some ⟨b, 0, none⟩)] w fun e w' => e = .returned (.int .i64 m.acc) ∧ Fr [b] w w' ∧ StR w' N L b (stopM m) sv none 0 [] := by
  have HH := Lib.hid h
  obtain ⟨c0, c1, c2, c3, c4, _, _⟩ := h.k.cells
  have k1 := h.k.free 1
  have k2 := h.k.free 2
  have k3 := h.k.free 3
  have k4 := h.k.free 4
  clear h
  go_enter Try.func80, Try.ntmps80
  go_wp2_with fail
  go_ret
  have h := HH.out
  have f : Fr [b] w ((((w.setCell ⟨b, 1, none⟩ (.bool false)).setCell ⟨b, 2, none⟩ (.slice none 0 0)).setCell ⟨b, 3, none⟩ (.int .i64 0)).setCell ⟨b, 4, none⟩ (.int .i64 0)) := ((((Fr.refl _ _).setCell (.inl (by simp)) _).setCell (.inl (by simp)) _).setCell (.inl (by simp)) _).setCell (.inl (by simp)) _
  refine ⟨rfl, f, stop_blk h.k rfl, h.s.keep f (fun x hx hm => by simp at hm; subst hm; exact h.bl hx), Rp.none_ _ _, rfl, h.nb, h.nl, h.bl⟩

theorem begin_blk {w' : World} {len : Nat} {n acc x y : Int} {busy : Bool} (h : StB w b sv busy a len cap n acc x y) {ra : Option Addr} {rl rc : Nat} {rn : Int} (hw : w' = (((w.setCell ⟨b, 1, none⟩ (.bool true)).setCell ⟨b, 2, none⟩ (.slice ra rl rc)).setCell ⟨b, 3, none⟩ (.int .i64 rn)).setCell ⟨b, 4, none⟩ (.int .i64 0)) : StB w' b sv true ra rl rc rn 0 x y := by
  have := heap_setCell_eq (i := 4) (u := .int .i64 0) (heap_setCell_eq (i := 3) (u := .int .i64 rn) (heap_setCell_eq (i := 2) (u := .slice ra rl rc) (heap_setCell_eq (i := 1) (u := .bool true) h)))
  unfold StB
  rw [hw, this]
  simp
def BeginPost (w : World) (N N2 : Nat → Prop) (L : List Nat) (b : Nat) (r : SE) (e : Ending) (w' : World) : Prop :=
  e = .returned (.int .i64 r.err) ∧ Fr (b :: L) w w' ∧ St w' (fun x => N x ∨ N2 x ∨ w.heap.size ≤ x) L b r.m
set_option maxHeartbeats 1000000 in
theorem st_begin (h : St w N L b m) {N2 : Nat → Prop} {v : Value} {Q : Parts} (hr : Rp w N2 v Q) (hb2 : ¬ N2 b) (hL2 : ∀ x ∈ L, ¬ N2 x) :
    Calls Try.prog 29 #[.pointer (some ⟨b, 0, none⟩), v] w (BeginPost w N N2 L b (beginM m Q.flatten)) := by
  obtain ⟨hok, sv, a, cap, P, h⟩ := h
  obtain ⟨ra, rc, rfl, hrest⟩ := id hr
  obtain ⟨w0, hw0, f0, q0⟩ : ∃ W, w.alloc (.cells #[.slice ra Q.length rc, .int .i64 (tot Q)] 57) = W ∧ Fr [] w W ∧ W.heap[w.heap.size]? = some (.cells #[.slice ra Q.length rc, .int .i64 (tot Q)] 57 (0, 0)) := ⟨_, rfl, (Fr.refl _ _).alloc _, newA rfl⟩
  have h0 := h.keep0 f0
  obtain ⟨hbl, hll, hnb, hnl⟩ := h.lts
  have hs0 := f0.size
  have wide : ∀ w', Fr [] w0 w' → St w' (fun x => N x ∨ N2 x ∨ w.heap.size ≤ x) L b m := fun w' f => ⟨hok, _, _, _, _, (h0.keep0 f).mono (fun _ => .inl) (by rintro (h1 | h1 | h1); exact h.nb h1; exact hb2 h1; omega) (fun x hx h' => by
    have := hll x hx
    rcases h' with h1 | h1 | h1
    · exact h.nl x hx h1
    · exact hL2 x hx h1
    · omega)⟩
  obtain ⟨st, su, rfl⟩ := h.s.form
  have HZ := Lib.hid (st_none h0)
  obtain ⟨c0, c1, c2, c3, c4, c5, c6⟩ := h0.k.cells
  have HX := Lib.hid q0
  have HF0 := Lib.hid f0
  have HW := Lib.hid wide
  have Hlen : Q.flatten.length ≤ 65536 := hrest.2.2.2.2.2
  by_cases h1 : m.w = 0
  · rw [h1] at c5
    by_cases h2 : m.r = 0
    · rw [h2] at c6
      by_cases h3 : m.busy = true
      · have e : beginM m Q.flatten = ⟨m, 11⟩ := by unfold beginM; rw [if_neg (by simp [h1]), if_neg (by simp [h2]), if_pos h3]
        rw [e]
        rw [h3] at c1
        clear e h1 h2 h3 hok h h0 hr hrest wide q0 f0 hb2 hL2 hnb hnl hll
        go_enter Try.func29, Try.ntmps29
        go_wp2_with fail
        refine HZ.out.mono ?_
        rintro e w' ⟨rfl, rfl⟩
        go_wp2_with fail
        go_ret
        exact ⟨rfl, HF0.out.mono (by simp), HW.out _ (Fr.refl _ _)⟩
      · have e : beginM m Q.flatten = ⟨fillM { m with busy := true, rest := Q.flatten, acc := 0 }, 0⟩ := by unfold beginM; rw [if_neg (by simp [h1]), if_neg (by simp [h2]), if_neg h3]
        rw [e]
        have h3' : m.busy = false := by simpa using h3
        rw [h3'] at c1
        have k1 := h0.k.free 1
        have k2 := h0.k.free 2
        have k3 := h0.k.free 3
        have k4 := h0.k.free 4
        have hbw : b ≠ w.heap.size := by omega
        have hz0 := lt_of_heap q0
        have hok2 : SOk (fillM { m with busy := true, rest := Q.flatten, acc := 0 }) := fillM_ok hok.c0 hok.c1 hok.q1 hok.w0 hok.w1 hok.r0 hok.r1 hok.rq (by simp) (by simp) (by dsimp only; omega)
        obtain ⟨w1, hw1, hk1, f1⟩ : ∃ W, ((((w0.setCell ⟨b, 1, none⟩ (.bool true)).setCell ⟨b, 2, none⟩ (.slice ra Q.length rc)).setCell ⟨b, 3, none⟩ (.int .i64 (tot Q))).setCell ⟨b, 4, none⟩ (.int .i64 0)).drew = W ∧ StB W b (.iface st su) true ra Q.length rc (tot Q) 0 m.w m.r ∧ Fr [b] w0 W :=
          ⟨_, rfl, StB.drew (begin_blk h0.k rfl), (((((Fr.refl [b] w0).setCell (.inl (by simp)) _).setCell (.inl (by simp)) _).setCell (.inl (by simp)) _).setCell (.inl (by simp)) _).drew⟩
        have fb1 : ∀ x ∈ [b], ¬ N2 x := fun x hx => by simp at hx; subst hx; exact hb2
        have h1s : StR w1 N2 L b { m with busy := true, rest := Q.flatten, acc := 0 } (.iface st su) ra rc Q := ⟨hk1, h0.s.keep f1 (fun x hx hm => by simp at hm; subst hm; exact h.bl hx), (hr.keep f0 (by simp)).keep f1 fb1, rfl, hb2, hL2, h.bl⟩
        have HRF := Lib.hid (st_refill h1s (by simp))
        have HOK := Lib.hid hok2
        have HG1 := Lib.hid ((f0.mono (T := b :: L) (by simp)).trans f1 (fun _ h => .inl h) (fun x hx => .inl (by simp at hx; simp [hx])))
        have HFB := Lib.hid (And.intro hll f1.size)
        clear e h1 h2 h3 h3' hok hok2 h h0 hr hrest wide q0 f0 hb2 hL2 hnb hnl h1s hk1 f1 fb1 hll Hlen
        go_enter Try.func29, Try.ntmps29
        go_wp2_with fail
        refine HZ.out.mono ?_
        rintro e w' ⟨rfl, rfl⟩
        go_wp2_with fail
        have fd : Fr [] w0 w0.drew := (Fr.refl _ _).drew
        have hx0 := HX.out
        have hx1 := keepS (a := ⟨b, 1, none⟩) (v := .bool true) hx0 (by dsimp only; omega)
        have hx2 := keepS (a := ⟨b, 3, none⟩) (v := .int .i64 (tot Q)) (keepS (a := ⟨b, 2, none⟩) (v := .slice ra Q.length rc) hx1 (by dsimp only; omega)) (by dsimp only; omega)
        have hx3 := keepS (a := ⟨b, 4, none⟩) (v := .int .i64 0) hx2 (by dsimp only; omega)
        have hx4 := heap_drew.trans hx3
        rw [hw1] at hx4
        refine wp_region_order [(0, true), (1, true), (2, true), (3, true), (4, true), (5, true), (6, false), (7, true), (8, true), (9, false), (10, true), (11, true), (12, false)] (fun w' => w'.cell? ⟨w.heap.size, 0, none⟩ = some (.slice ra Q.length rc) ∧ w'.cell? ⟨w.heap.size, 1, none⟩ = some (.int .i64 (tot Q))) (by kernel_rfl) (by kernel_rfl) ⟨cell_of (heap_drew.trans hx0), cell_of (heap_drew.trans hx0)⟩ ?_
        intro OPS HOPS
        have hops := HOPS.out
        try simp only [List.append_eq, List.cons_append, List.nil_append] at hops
        replace HOPS := Lib.hid hops
        clear hops
        refine walkO_take (o := _) (v := ?_) (by rw [HOPS.out]; simp only [List.getElem?_toArray, List.getElem?_cons_succ, List.getElem?_cons_zero]; exact rfl) (Or.inl ⟨rfl, ?_⟩) ?_
        rotate_left
        · (intro w hSw; (try dsimp only at hSw); go_simp) <;> (with_reducible rfl)
        simp only [Act.put, List.setIfInBounds_toArray, List.set_cons_zero, List.set_cons_succ]
        refine walkO_take (o := _) (v := ?_) (by rw [HOPS.out]; simp only [List.getElem?_toArray, List.getElem?_cons_succ, List.getElem?_cons_zero]; exact rfl) (Or.inl ⟨rfl, ?_⟩) ?_
        rotate_left
        · (intro w hSw; (try dsimp only at hSw); go_simp) <;> (with_reducible rfl)
        simp only [Act.put, List.setIfInBounds_toArray, List.set_cons_zero, List.set_cons_succ]
        refine walkO_take (o := _) (v := ?_) (by rw [HOPS.out]; simp only [List.getElem?_toArray, List.getElem?_cons_succ, List.getElem?_cons_zero]; exact rfl) (Or.inl ⟨rfl, ?_⟩) ?_
        rotate_left
        · (intro w hSw; (try dsimp only at hSw); go_simp) <;> (with_reducible rfl)
        simp only [Act.put, List.setIfInBounds_toArray, List.set_cons_zero, List.set_cons_succ]
        refine walkO_take (o := _) (v := ?_) (by rw [HOPS.out]; simp only [List.getElem?_toArray, List.getElem?_cons_succ, List.getElem?_cons_zero]; exact rfl) (Or.inl ⟨rfl, ?_⟩) ?_
        rotate_left
        · (intro w hSw; (try dsimp only at hSw); go_simp) <;> (with_reducible rfl)
        simp only [Act.put, List.setIfInBounds_toArray, List.set_cons_zero, List.set_cons_succ]
        refine walkO_take (o := _) (v := ?_) (by rw [HOPS.out]; simp only [List.getElem?_toArray, List.getElem?_cons_succ, List.getElem?_cons_zero]; exact rfl) (Or.inl ⟨rfl, ?_⟩) ?_
        rotate_left
        · (intro w hSw; (try dsimp only at hSw); go_simp) <;> (with_reducible rfl)
        simp only [Act.put, List.setIfInBounds_toArray, List.set_cons_zero, List.set_cons_succ]
        refine walkO_take (o := _) (v := ?_) (by rw [HOPS.out]; simp only [List.getElem?_toArray, List.getElem?_cons_succ, List.getElem?_cons_zero]; exact rfl) (Or.inl ⟨rfl, ?_⟩) ?_
        rotate_left
        · (intro w hSw; (try dsimp only at hSw); go_simp) <;> (with_reducible rfl)
        simp only [Act.put, List.setIfInBounds_toArray, List.set_cons_zero, List.set_cons_succ]
        refine walkO_call (o := _) (by rw [HOPS.out]; simp only [List.getElem?_toArray, List.getElem?_cons_succ, List.getElem?_cons_zero]; exact rfl) (fun K HK => ?_)
        go_simp
        refine HK.out (fun w' => w'.cell? ⟨w.heap.size, 0, none⟩ = some (.slice ra Q.length rc) ∧ w'.cell? ⟨w.heap.size, 1, none⟩ = some (.int .i64 (tot Q))) _ _ (fun _ h => h) (⟨cell_of (heap_drew.trans hx1), cell_of (heap_drew.trans hx1)⟩) ?_
        clear HK K
        try simp only [Act.put, List.setIfInBounds_toArray, List.set_cons_zero, List.set_cons_succ]
        refine walkO_take (o := _) (v := ?_) (by rw [HOPS.out]; simp only [List.getElem?_toArray, List.getElem?_cons_succ, List.getElem?_cons_zero]; exact rfl) (Or.inl ⟨rfl, ?_⟩) ?_
        rotate_left
        · (intro w hSw; (try dsimp only at hSw); go_simp) <;> (with_reducible rfl)
        simp only [Act.put, List.setIfInBounds_toArray, List.set_cons_zero, List.set_cons_succ]
        refine walkO_take (o := _) (v := ?_) (by rw [HOPS.out]; simp only [List.getElem?_toArray, List.getElem?_cons_succ, List.getElem?_cons_zero]; exact rfl) (Or.inl ⟨rfl, ?_⟩) ?_
        rotate_left
        · (intro w hSw; (try dsimp only at hSw); go_simp) <;> (with_reducible rfl)
        simp only [Act.put, List.setIfInBounds_toArray, List.set_cons_zero, List.set_cons_succ]
        refine walkO_call (o := _) (by rw [HOPS.out]; simp only [List.getElem?_toArray, List.getElem?_cons_succ, List.getElem?_cons_zero]; exact rfl) (fun K HK => ?_)
        go_simp
        refine HK.out (fun w' => w'.cell? ⟨w.heap.size, 0, none⟩ = some (.slice ra Q.length rc) ∧ w'.cell? ⟨w.heap.size, 1, none⟩ = some (.int .i64 (tot Q))) _ _ (fun _ h => h) (⟨cell_of (heap_drew.trans hx2), cell_of (heap_drew.trans hx2)⟩) ?_
        clear HK K
        try simp only [Act.put, List.setIfInBounds_toArray, List.set_cons_zero, List.set_cons_succ]
        refine walkO_take (o := _) (v := ?_) (by rw [HOPS.out]; simp only [List.getElem?_toArray, List.getElem?_cons_succ, List.getElem?_cons_zero]; exact rfl) (Or.inl ⟨rfl, ?_⟩) ?_
        rotate_left
        · (intro w hSw; (try dsimp only at hSw); go_simp) <;> (with_reducible rfl)
        simp only [Act.put, List.setIfInBounds_toArray, List.set_cons_zero, List.set_cons_succ]
        refine walkO_take (o := _) (v := ?_) (by rw [HOPS.out]; simp only [List.getElem?_toArray, List.getElem?_cons_succ, List.getElem?_cons_zero]; exact rfl) (Or.inl ⟨rfl, ?_⟩) ?_
        rotate_left
        · (intro w hSw; (try dsimp only at hSw); go_simp) <;> (with_reducible rfl)
        simp only [Act.put, List.setIfInBounds_toArray, List.set_cons_zero, List.set_cons_succ]
        refine walkO_call (o := _) (by rw [HOPS.out]; simp only [List.getElem?_toArray, List.getElem?_cons_succ, List.getElem?_cons_zero]; exact rfl) (fun K HK => ?_)
        go_simp
        refine HK.out (fun w' => w'.cell? ⟨w.heap.size, 0, none⟩ = some (.slice ra Q.length rc) ∧ w'.cell? ⟨w.heap.size, 1, none⟩ = some (.int .i64 (tot Q))) _ _ (fun _ h => h) (⟨cell_of hx4, cell_of hx4⟩) ?_
        clear HK K
        try simp only [Act.put, List.setIfInBounds_toArray, List.set_cons_zero, List.set_cons_succ]
        refine walkO_done ?_
        clear HOPS OPS
        go_wp2_with fail
        refine HRF.out.mono ?_
        rintro e w2 ⟨rfl, f2, a2, cap2, P2, h2⟩
        go_wp2_with fail
        go_ret
        obtain ⟨hll, hs1⟩ := HFB.out
        obtain ⟨lt1, lt2, _, _⟩ := (show b < w0.heap.size ∧ w.heap.size ≤ w0.heap.size ∧ True ∧ True from ⟨by omega, hs0, trivial, trivial⟩)
        refine ⟨rfl, HG1.out.then f2, HOK.out, _, _, _, _, h2.mono (fun x hx => ?_) ?_ (fun x hx => ?_)⟩
        · rcases hx with hx | hx
          · exact .inr (.inl hx)
          · exact .inr (.inr (by omega))
        · rintro (hx | hx | hx)
          · exact (HW.out _ (Fr.refl _ _)).2.choose_spec.choose_spec.choose_spec.choose_spec.nb (.inl hx)
          · exact h2.nb (.inl hx)
          · omega
        · intro h'
          have := hll x hx
          rcases h' with h' | h' | h'
          · exact (HW.out _ (Fr.refl _ _)).2.choose_spec.choose_spec.choose_spec.choose_spec.nl x hx (.inl h')
          · exact h2.nl x hx (.inl h')
          · omega
    · have e : beginM m Q.flatten = ⟨m, m.r⟩ := by unfold beginM; rw [if_neg (by simp [h1]), if_pos h2]
      rw [e]
      obtain ⟨n1, n2⟩ : (m.r == 0) = false ∧ (m.r != 0) = true := by simp [h2]
      clear e h1 h2 hok h h0 hr hrest wide q0 f0 hb2 hL2 hnb hnl hll
      go_enter Try.func29, Try.ntmps29
      go_wp2_with fail
      refine HZ.out.mono ?_
      rintro e w' ⟨rfl, rfl⟩
      go_wp2_with fail
      go_ret
      exact ⟨rfl, HF0.out.mono (by simp), HW.out _ (Fr.refl _ _)⟩
  · have e : beginM m Q.flatten = ⟨m, 14⟩ := by unfold beginM; rw [if_pos h1]
    rw [e]
    obtain ⟨n1, n2⟩ : (m.w == 0) = false ∧ (m.w != 0) = true := by simp [h1]
    clear e h1 hok h h0 hr hrest wide q0 f0 hb2 hL2 hnb hnl hll
    go_enter Try.func29, Try.ntmps29
    go_wp2_with fail
    refine HZ.out.mono ?_
    rintro e w' ⟨rfl, rfl⟩
    go_wp2_with fail
    go_ret
    exact ⟨rfl, HF0.out.mono (by simp), HW.out _ (Fr.refl _ _)⟩

theorem rest_nil {h : P.flatten = m.rest} : tot P = m.rest.length := by rw [← h]; rfl
set_option maxHeartbeats 1000000 in
theorem st_progress (h : St w N L b m) :
    Calls Try.prog 31 #[.pointer (some ⟨b, 0, none⟩)] w fun e w' => e = .returned (.tuple #[.int .i64 m.acc, .bool (atEndM m)]) ∧ Fr [] w w' := by
  obtain ⟨hok, sv, a, cap, P, h⟩ := h
  obtain ⟨st, su, rfl⟩ := h.s.form
  have htl : tot P = m.rest.length := by rw [← h.e]; rfl
  have HH := Lib.hid h
  have HZ := Lib.hid (st_none h)
  have HEL := Lib.hid (Go.Proofs.enters_of Try.func57 (by kernel_rfl) rfl)
  have HEO := Lib.hid (Go.Proofs.enters_of Try.func79 (by kernel_rfl) rfl)
  have HFA := Lib.hid fun (w' : World) (f : Fr [] w w') => (show w'.cell? ⟨b, 1, none⟩ = some (.bool m.busy) ∧ w'.cell? ⟨b, 2, none⟩ = some (.slice a P.length cap) ∧ w'.cell? ⟨b, 3, none⟩ = some (.int .i64 (tot P)) ∧ w'.cell? ⟨b, 4, none⟩ = some (.int .i64 m.acc) from
    ⟨(h.keep0 f).k.cells.c1, (h.keep0 f).k.cells.c2, (h.keep0 f).k.cells.c3, (h.keep0 f).k.cells.c4⟩)
  by_cases hb : m.busy = false
  · have e : atEndM m = false := by unfold atEndM; rw [hb]; rfl
    rw [e]
    rw [hb] at HFA
    clear h hok htl hb e
    go_enter Try.func31, Try.ntmps31
    go_wp2_with fail
    refine HZ.out.mono ?_
    rintro e w' ⟨rfl, rfl⟩
    go_wp2_with fail
    have fd : Fr [] w w.drew := (Fr.refl _ _).drew
    refine wp_region_order [(0, true), (1, true), (2, true), (3, true), (4, true), (5, true), (6, true), (7, true), (8, true), (9, true), (10, true), (11, true), (12, true), (13, true), (14, true), (15, true), (16, true), (17, true), (18, true), (19, true), (20, true), (21, true), (22, true)] (fun w' => Fr [] w w') (by kernel_rfl) (by kernel_rfl) fd ?_
    intro OPS HOPS
    have hops := HOPS.out
    try simp only [List.append_eq, List.cons_append, List.nil_append] at hops
    replace HOPS := Lib.hid hops
    clear hops
    refine walkO_take (o := _) (v := ?_) (by rw [HOPS.out]; simp only [List.getElem?_toArray, List.getElem?_cons_succ, List.getElem?_cons_zero]; exact rfl) (Or.inl ⟨rfl, ?_⟩) ?_
    rotate_left
    · (intro w hSw; have hSx := HFA.out _ hSw; (try dsimp only at hSx); clear hSw; go_simp) <;> (with_reducible rfl)
    simp only [Act.put, List.setIfInBounds_toArray, List.set_cons_zero, List.set_cons_succ]
    refine walkO_take (o := _) (v := ?_) (by rw [HOPS.out]; simp only [List.getElem?_toArray, List.getElem?_cons_succ, List.getElem?_cons_zero]; exact rfl) (Or.inl ⟨rfl, ?_⟩) ?_
    rotate_left
    · (intro w hSw; have hSx := HFA.out _ hSw; (try dsimp only at hSx); clear hSw; go_simp) <;> (with_reducible rfl)
    simp only [Act.put, List.setIfInBounds_toArray, List.set_cons_zero, List.set_cons_succ]
    refine walkO_take (o := _) (v := ?_) (by rw [HOPS.out]; simp only [List.getElem?_toArray, List.getElem?_cons_succ, List.getElem?_cons_zero]; exact rfl) (Or.inl ⟨rfl, ?_⟩) ?_
    rotate_left
    · (intro w hSw; have hSx := HFA.out _ hSw; (try dsimp only at hSx); clear hSw; go_simp) <;> (with_reducible rfl)
    simp only [Act.put, List.setIfInBounds_toArray, List.set_cons_zero, List.set_cons_succ]
    refine walkO_take (o := _) (v := ?_) (by rw [HOPS.out]; simp only [List.getElem?_toArray, List.getElem?_cons_succ, List.getElem?_cons_zero]; exact rfl) (Or.inl ⟨rfl, ?_⟩) ?_
    rotate_left
    · (intro w hSw; have hSx := HFA.out _ hSw; (try dsimp only at hSx); clear hSw; go_simp) <;> (with_reducible rfl)
    simp only [Act.put, List.setIfInBounds_toArray, List.set_cons_zero, List.set_cons_succ]
    refine walkO_take (o := _) (v := ?_) (by rw [HOPS.out]; simp only [List.getElem?_toArray, List.getElem?_cons_succ, List.getElem?_cons_zero]; exact rfl) (Or.inl ⟨rfl, ?_⟩) ?_
    rotate_left
    · (intro w hSw; have hSx := HFA.out _ hSw; (try dsimp only at hSx); clear hSw; go_simp) <;> (with_reducible rfl)
    simp only [Act.put, List.setIfInBounds_toArray, List.set_cons_zero, List.set_cons_succ]
    refine walkO_take (o := _) (v := ?_) (by rw [HOPS.out]; simp only [List.getElem?_toArray, List.getElem?_cons_succ, List.getElem?_cons_zero]; exact rfl) (Or.inl ⟨rfl, ?_⟩) ?_
    rotate_left
    · (intro w hSw; have hSx := HFA.out _ hSw; (try dsimp only at hSx); clear hSw; go_simp) <;> (with_reducible rfl)
    simp only [Act.put, List.setIfInBounds_toArray, List.set_cons_zero, List.set_cons_succ]
    refine walkO_take (o := _) (v := ?_) (by rw [HOPS.out]; simp only [List.getElem?_toArray, List.getElem?_cons_succ, List.getElem?_cons_zero]; exact rfl) (Or.inl ⟨rfl, ?_⟩) ?_
    rotate_left
    · (intro w hSw; have hSx := HFA.out _ hSw; (try dsimp only at hSx); clear hSw; go_simp) <;> (with_reducible rfl)
    simp only [Act.put, List.setIfInBounds_toArray, List.set_cons_zero, List.set_cons_succ]
    refine walkO_take (o := _) (v := ?_) (by rw [HOPS.out]; simp only [List.getElem?_toArray, List.getElem?_cons_succ, List.getElem?_cons_zero]; exact rfl) (Or.inl ⟨rfl, ?_⟩) ?_
    rotate_left
    · (intro w hSw; have hSx := HFA.out _ hSw; (try dsimp only at hSx); clear hSw; go_simp) <;> (with_reducible rfl)
    simp only [Act.put, List.setIfInBounds_toArray, List.set_cons_zero, List.set_cons_succ]
    refine walkO_take (o := _) (v := ?_) (by rw [HOPS.out]; simp only [List.getElem?_toArray, List.getElem?_cons_succ, List.getElem?_cons_zero]; exact rfl) (Or.inl ⟨rfl, ?_⟩) ?_
    rotate_left
    · (intro w hSw; have hSx := HFA.out _ hSw; (try dsimp only at hSx); clear hSw; go_simp) <;> (with_reducible rfl)
    simp only [Act.put, List.setIfInBounds_toArray, List.set_cons_zero, List.set_cons_succ]
    refine walkO_take (o := _) (v := undef) (by rw [HOPS.out]; simp only [List.getElem?_toArray, List.getElem?_cons_succ, List.getElem?_cons_zero]; exact rfl) (Or.inr ⟨by rw [HOPS.out]; rfl, rfl⟩) ?_
    simp only [Act.put, List.setIfInBounds_toArray, List.set_cons_zero, List.set_cons_succ]
    refine walkO_take (o := _) (v := undef) (by rw [HOPS.out]; simp only [List.getElem?_toArray, List.getElem?_cons_succ, List.getElem?_cons_zero]; exact rfl) (Or.inr ⟨by rw [HOPS.out]; rfl, rfl⟩) ?_
    simp only [Act.put, List.setIfInBounds_toArray, List.set_cons_zero, List.set_cons_succ]
    refine walkO_take (o := _) (v := undef) (by rw [HOPS.out]; simp only [List.getElem?_toArray, List.getElem?_cons_succ, List.getElem?_cons_zero]; exact rfl) (Or.inr ⟨by rw [HOPS.out]; rfl, rfl⟩) ?_
    simp only [Act.put, List.setIfInBounds_toArray, List.set_cons_zero, List.set_cons_succ]
    refine walkO_take (o := _) (v := undef) (by rw [HOPS.out]; simp only [List.getElem?_toArray, List.getElem?_cons_succ, List.getElem?_cons_zero]; exact rfl) (Or.inr ⟨by rw [HOPS.out]; rfl, rfl⟩) ?_
    simp only [Act.put, List.setIfInBounds_toArray, List.set_cons_zero, List.set_cons_succ]
    refine walkO_take (o := _) (v := undef) (by rw [HOPS.out]; simp only [List.getElem?_toArray, List.getElem?_cons_succ, List.getElem?_cons_zero]; exact rfl) (Or.inr ⟨by rw [HOPS.out]; rfl, rfl⟩) ?_
    simp only [Act.put, List.setIfInBounds_toArray, List.set_cons_zero, List.set_cons_succ]
    refine walkO_take (o := _) (v := undef) (by rw [HOPS.out]; simp only [List.getElem?_toArray, List.getElem?_cons_succ, List.getElem?_cons_zero]; exact rfl) (Or.inr ⟨by rw [HOPS.out]; rfl, rfl⟩) ?_
    simp only [Act.put, List.setIfInBounds_toArray, List.set_cons_zero, List.set_cons_succ]
    refine walkO_take (o := _) (v := undef) (by rw [HOPS.out]; simp only [List.getElem?_toArray, List.getElem?_cons_succ, List.getElem?_cons_zero]; exact rfl) (Or.inr ⟨by rw [HOPS.out]; rfl, rfl⟩) ?_
    simp only [Act.put, List.setIfInBounds_toArray, List.set_cons_zero, List.set_cons_succ]
    refine walkO_take (o := _) (v := undef) (by rw [HOPS.out]; simp only [List.getElem?_toArray, List.getElem?_cons_succ, List.getElem?_cons_zero]; exact rfl) (Or.inr ⟨by rw [HOPS.out]; rfl, rfl⟩) ?_
    simp only [Act.put, List.setIfInBounds_toArray, List.set_cons_zero, List.set_cons_succ]
    refine walkO_take (o := _) (v := undef) (by rw [HOPS.out]; simp only [List.getElem?_toArray, List.getElem?_cons_succ, List.getElem?_cons_zero]; exact rfl) (Or.inr ⟨by rw [HOPS.out]; rfl, rfl⟩) ?_
    simp only [Act.put, List.setIfInBounds_toArray, List.set_cons_zero, List.set_cons_succ]
    refine walkO_take (o := _) (v := undef) (by rw [HOPS.out]; simp only [List.getElem?_toArray, List.getElem?_cons_succ, List.getElem?_cons_zero]; exact rfl) (Or.inr ⟨by rw [HOPS.out]; rfl, rfl⟩) ?_
    simp only [Act.put, List.setIfInBounds_toArray, List.set_cons_zero, List.set_cons_succ]
    refine walkO_take (o := _) (v := undef) (by rw [HOPS.out]; simp only [List.getElem?_toArray, List.getElem?_cons_succ, List.getElem?_cons_zero]; exact rfl) (Or.inr ⟨by rw [HOPS.out]; rfl, rfl⟩) ?_
    simp only [Act.put, List.setIfInBounds_toArray, List.set_cons_zero, List.set_cons_succ]
    refine walkO_take (o := _) (v := ?_) (by rw [HOPS.out]; simp only [List.getElem?_toArray, List.getElem?_cons_succ, List.getElem?_cons_zero]; exact rfl) (Or.inl ⟨rfl, ?_⟩) ?_
    rotate_left
    · (intro w hSw; have hSx := HFA.out _ hSw; (try dsimp only at hSx); clear hSw; go_simp) <;> (with_reducible rfl)
    simp only [Act.put, List.setIfInBounds_toArray, List.set_cons_zero, List.set_cons_succ]
    refine walkO_take (o := _) (v := ?_) (by rw [HOPS.out]; simp only [List.getElem?_toArray, List.getElem?_cons_succ, List.getElem?_cons_zero]; exact rfl) (Or.inl ⟨rfl, ?_⟩) ?_
    rotate_left
    · (intro w hSw; have hSx := HFA.out _ hSw; (try dsimp only at hSx); clear hSw; go_simp) <;> (with_reducible rfl)
    simp only [Act.put, List.setIfInBounds_toArray, List.set_cons_zero, List.set_cons_succ]
    refine walkO_take (o := _) (v := ?_) (by rw [HOPS.out]; simp only [List.getElem?_toArray, List.getElem?_cons_succ, List.getElem?_cons_zero]; exact rfl) (Or.inl ⟨rfl, ?_⟩) ?_
    rotate_left
    · (intro w hSw; have hSx := HFA.out _ hSw; (try dsimp only at hSx); clear hSw; go_simp) <;> (with_reducible rfl)
    simp only [Act.put, List.setIfInBounds_toArray, List.set_cons_zero, List.set_cons_succ]
    refine walkO_done ?_
    clear HOPS OPS
    go_wp2_with fail
    go_ret2
    exact ⟨rfl, fd⟩
  have hb' : m.busy = true := by simpa using hb
  rw [hb'] at HFA
  by_cases hr : m.rest = []
  · have e : atEndM m = true := by unfold atEndM; rw [hb', hr]; rfl
    have hz : ((tot P : Int) == 0) = true := by rw [htl, hr]; rfl
    rw [e]
    clear h hok htl hb hb' e hr
    go_enter Try.func31, Try.ntmps31
    go_wp2_with fail
    refine HZ.out.mono ?_
    rintro e w' ⟨rfl, rfl⟩
    go_wp2_with fail
    have fd : Fr [] w w.drew := (Fr.refl _ _).drew
    refine wp_region_order [(0, true), (1, true), (2, true), (3, true), (4, true), (5, true), (6, true), (7, true), (8, true), (9, true), (10, true), (11, true), (12, true), (13, false), (14, true), (15, true), (16, true), (17, true), (18, true), (19, true), (20, true), (21, true), (22, true)] (fun w' => Fr [] w w') (by kernel_rfl) (by kernel_rfl) fd ?_
    intro OPS HOPS
    have hops := HOPS.out
    try simp only [List.append_eq, List.cons_append, List.nil_append] at hops
    replace HOPS := Lib.hid hops
    clear hops
    refine walkO_take (o := _) (v := ?_) (by rw [HOPS.out]; simp only [List.getElem?_toArray, List.getElem?_cons_succ, List.getElem?_cons_zero]; exact rfl) (Or.inl ⟨rfl, ?_⟩) ?_
    rotate_left
    · (intro w hSw; have hSx := HFA.out _ hSw; (try dsimp only at hSx); clear hSw; go_simp) <;> (with_reducible rfl)
    simp only [Act.put, List.setIfInBounds_toArray, List.set_cons_zero, List.set_cons_succ]
    refine walkO_take (o := _) (v := ?_) (by rw [HOPS.out]; simp only [List.getElem?_toArray, List.getElem?_cons_succ, List.getElem?_cons_zero]; exact rfl) (Or.inl ⟨rfl, ?_⟩) ?_
    rotate_left
    · (intro w hSw; have hSx := HFA.out _ hSw; (try dsimp only at hSx); clear hSw; go_simp) <;> (with_reducible rfl)
    simp only [Act.put, List.setIfInBounds_toArray, List.set_cons_zero, List.set_cons_succ]
    refine walkO_take (o := _) (v := ?_) (by rw [HOPS.out]; simp only [List.getElem?_toArray, List.getElem?_cons_succ, List.getElem?_cons_zero]; exact rfl) (Or.inl ⟨rfl, ?_⟩) ?_
    rotate_left
    · (intro w hSw; have hSx := HFA.out _ hSw; (try dsimp only at hSx); clear hSw; go_simp) <;> (with_reducible rfl)
    simp only [Act.put, List.setIfInBounds_toArray, List.set_cons_zero, List.set_cons_succ]
    refine walkO_take (o := _) (v := ?_) (by rw [HOPS.out]; simp only [List.getElem?_toArray, List.getElem?_cons_succ, List.getElem?_cons_zero]; exact rfl) (Or.inl ⟨rfl, ?_⟩) ?_
    rotate_left
    · (intro w hSw; have hSx := HFA.out _ hSw; (try dsimp only at hSx); clear hSw; go_simp) <;> (with_reducible rfl)
    simp only [Act.put, List.setIfInBounds_toArray, List.set_cons_zero, List.set_cons_succ]
    refine walkO_take (o := _) (v := ?_) (by rw [HOPS.out]; simp only [List.getElem?_toArray, List.getElem?_cons_succ, List.getElem?_cons_zero]; exact rfl) (Or.inl ⟨rfl, ?_⟩) ?_
    rotate_left
    · (intro w hSw; have hSx := HFA.out _ hSw; (try dsimp only at hSx); clear hSw; go_simp) <;> (with_reducible rfl)
    simp only [Act.put, List.setIfInBounds_toArray, List.set_cons_zero, List.set_cons_succ]
    refine walkO_take (o := _) (v := ?_) (by rw [HOPS.out]; simp only [List.getElem?_toArray, List.getElem?_cons_succ, List.getElem?_cons_zero]; exact rfl) (Or.inl ⟨rfl, ?_⟩) ?_
    rotate_left
    · (intro w hSw; have hSx := HFA.out _ hSw; (try dsimp only at hSx); clear hSw; go_simp) <;> (with_reducible rfl)
    simp only [Act.put, List.setIfInBounds_toArray, List.set_cons_zero, List.set_cons_succ]
    refine walkO_take (o := _) (v := ?_) (by rw [HOPS.out]; simp only [List.getElem?_toArray, List.getElem?_cons_succ, List.getElem?_cons_zero]; exact rfl) (Or.inl ⟨rfl, ?_⟩) ?_
    rotate_left
    · (intro w hSw; have hSx := HFA.out _ hSw; (try dsimp only at hSx); clear hSw; go_simp) <;> (with_reducible rfl)
    simp only [Act.put, List.setIfInBounds_toArray, List.set_cons_zero, List.set_cons_succ]
    refine walkO_take (o := _) (v := ?_) (by rw [HOPS.out]; simp only [List.getElem?_toArray, List.getElem?_cons_succ, List.getElem?_cons_zero]; exact rfl) (Or.inl ⟨rfl, ?_⟩) ?_
    rotate_left
    · (intro w hSw; have hSx := HFA.out _ hSw; (try dsimp only at hSx); clear hSw; go_simp) <;> (with_reducible rfl)
    simp only [Act.put, List.setIfInBounds_toArray, List.set_cons_zero, List.set_cons_succ]
    refine walkO_take (o := _) (v := ?_) (by rw [HOPS.out]; simp only [List.getElem?_toArray, List.getElem?_cons_succ, List.getElem?_cons_zero]; exact rfl) (Or.inl ⟨rfl, ?_⟩) ?_
    rotate_left
    · (intro w hSw; have hSx := HFA.out _ hSw; (try dsimp only at hSx); clear hSw; go_simp) <;> (with_reducible rfl)
    simp only [Act.put, List.setIfInBounds_toArray, List.set_cons_zero, List.set_cons_succ]
    refine walkO_take (o := _) (v := ?_) (by rw [HOPS.out]; simp only [List.getElem?_toArray, List.getElem?_cons_succ, List.getElem?_cons_zero]; exact rfl) (Or.inl ⟨by rw [HOPS.out]; rfl, ?_⟩) ?_
    rotate_left
    · (intro w hSw; have hSx := HFA.out _ hSw; (try dsimp only at hSx); clear hSw; go_simp) <;> (with_reducible rfl)
    simp only [Act.put, List.setIfInBounds_toArray, List.set_cons_zero, List.set_cons_succ]
    refine walkO_take (o := _) (v := ?_) (by rw [HOPS.out]; simp only [List.getElem?_toArray, List.getElem?_cons_succ, List.getElem?_cons_zero]; exact rfl) (Or.inl ⟨by rw [HOPS.out]; rfl, ?_⟩) ?_
    rotate_left
    · (intro w hSw; have hSx := HFA.out _ hSw; (try dsimp only at hSx); clear hSw; go_simp) <;> (with_reducible rfl)
    simp only [Act.put, List.setIfInBounds_toArray, List.set_cons_zero, List.set_cons_succ]
    refine walkO_take (o := _) (v := ?_) (by rw [HOPS.out]; simp only [List.getElem?_toArray, List.getElem?_cons_succ, List.getElem?_cons_zero]; exact rfl) (Or.inl ⟨by rw [HOPS.out]; rfl, ?_⟩) ?_
    rotate_left
    · (intro w hSw; have hSx := HFA.out _ hSw; (try dsimp only at hSx); clear hSw; go_simp) <;> (with_reducible rfl)
    simp only [Act.put, List.setIfInBounds_toArray, List.set_cons_zero, List.set_cons_succ]
    refine walkO_take (o := _) (v := ?_) (by rw [HOPS.out]; simp only [List.getElem?_toArray, List.getElem?_cons_succ, List.getElem?_cons_zero]; exact rfl) (Or.inl ⟨by rw [HOPS.out]; rfl, ?_⟩) ?_
    rotate_left
    · (intro w hSw; have hSx := HFA.out _ hSw; (try dsimp only at hSx); clear hSw; go_simp) <;> (with_reducible rfl)
    simp only [Act.put, List.setIfInBounds_toArray, List.set_cons_zero, List.set_cons_succ]
    refine walkO_call (o := _) (by rw [HOPS.out]; simp only [List.getElem?_toArray, List.getElem?_cons_succ, List.getElem?_cons_zero]; exact rfl) (fun K HK => ?_)
    refine step_call (by rw [HOPS.out]; rfl) 57 #[(.tmp 18)] #[57] rfl HEL.out #[.agg #[.slice a P.length cap, .int .i64 (tot P)]] (by simp [Act.eval]) (rope_len (HH.out.keep0 fd).p) ?_
    rintro e w2 ⟨rfl, f2⟩
    have g2 : Fr [] w w2 := fd.then0 f2
    refine ⟨_, rfl, ?_⟩
    refine HK.out (fun w' => Fr [] w w') _ _ (fun _ h => h) (g2) ?_
    clear HK K
    simp only [Act.put, List.setIfInBounds_toArray, List.set_cons_zero, List.set_cons_succ]
    refine walkO_take (o := _) (v := ?_) (by rw [HOPS.out]; simp only [List.getElem?_toArray, List.getElem?_cons_succ, List.getElem?_cons_zero]; exact rfl) (Or.inl ⟨by rw [HOPS.out]; rfl, ?_⟩) ?_
    rotate_left
    · (intro w hSw; have hSx := HFA.out _ hSw; (try dsimp only at hSx); clear hSw; go_simp) <;> (with_reducible rfl)
    simp only [Act.put, List.setIfInBounds_toArray, List.set_cons_zero, List.set_cons_succ]
    refine walkO_take (o := _) (v := ?_) (by rw [HOPS.out]; simp only [List.getElem?_toArray, List.getElem?_cons_succ, List.getElem?_cons_zero]; exact rfl) (Or.inl ⟨by rw [HOPS.out]; rfl, ?_⟩) ?_
    rotate_left
    · (intro w hSw; have hSx := HFA.out _ hSw; (try dsimp only at hSx); clear hSw; go_simp) <;> (with_reducible rfl)
    simp only [Act.put, List.setIfInBounds_toArray, List.set_cons_zero, List.set_cons_succ]
    refine walkO_take (o := _) (v := undef) (by rw [HOPS.out]; simp only [List.getElem?_toArray, List.getElem?_cons_succ, List.getElem?_cons_zero]; exact rfl) (Or.inr ⟨by rw [HOPS.out]; rfl, rfl⟩) ?_
    simp only [Act.put, List.setIfInBounds_toArray, List.set_cons_zero, List.set_cons_succ]
    refine walkO_take (o := _) (v := undef) (by rw [HOPS.out]; simp only [List.getElem?_toArray, List.getElem?_cons_succ, List.getElem?_cons_zero]; exact rfl) (Or.inr ⟨by rw [HOPS.out]; rfl, rfl⟩) ?_
    simp only [Act.put, List.setIfInBounds_toArray, List.set_cons_zero, List.set_cons_succ]
    refine walkO_take (o := _) (v := undef) (by rw [HOPS.out]; simp only [List.getElem?_toArray, List.getElem?_cons_succ, List.getElem?_cons_zero]; exact rfl) (Or.inr ⟨by rw [HOPS.out]; rfl, rfl⟩) ?_
    simp only [Act.put, List.setIfInBounds_toArray, List.set_cons_zero, List.set_cons_succ]
    refine walkO_take (o := _) (v := ?_) (by rw [HOPS.out]; simp only [List.getElem?_toArray, List.getElem?_cons_succ, List.getElem?_cons_zero]; exact rfl) (Or.inl ⟨by rw [HOPS.out]; rfl, ?_⟩) ?_
    rotate_left
    · (intro w hSw; have hSx := HFA.out _ hSw; (try dsimp only at hSx); clear hSw; go_simp) <;> (with_reducible rfl)
    simp only [Act.put, List.setIfInBounds_toArray, List.set_cons_zero, List.set_cons_succ]
    refine walkO_take (o := _) (v := ?_) (by rw [HOPS.out]; simp only [List.getElem?_toArray, List.getElem?_cons_succ, List.getElem?_cons_zero]; exact rfl) (Or.inl ⟨rfl, ?_⟩) ?_
    rotate_left
    · (intro w hSw; have hSx := HFA.out _ hSw; (try dsimp only at hSx); clear hSw; go_simp) <;> (with_reducible rfl)
    simp only [Act.put, List.setIfInBounds_toArray, List.set_cons_zero, List.set_cons_succ]
    refine walkO_take (o := _) (v := ?_) (by rw [HOPS.out]; simp only [List.getElem?_toArray, List.getElem?_cons_succ, List.getElem?_cons_zero]; exact rfl) (Or.inl ⟨rfl, ?_⟩) ?_
    rotate_left
    · (intro w hSw; have hSx := HFA.out _ hSw; (try dsimp only at hSx); clear hSw; go_simp) <;> (with_reducible rfl)
    simp only [Act.put, List.setIfInBounds_toArray, List.set_cons_zero, List.set_cons_succ]
    refine walkO_take (o := _) (v := ?_) (by rw [HOPS.out]; simp only [List.getElem?_toArray, List.getElem?_cons_succ, List.getElem?_cons_zero]; exact rfl) (Or.inl ⟨rfl, ?_⟩) ?_
    rotate_left
    · (intro w hSw; have hSx := HFA.out _ hSw; (try dsimp only at hSx); clear hSw; go_simp) <;> (with_reducible rfl)
    simp only [Act.put, List.setIfInBounds_toArray, List.set_cons_zero, List.set_cons_succ]
    refine walkO_done ?_
    clear HOPS OPS
    go_wp2_with fail
    go_ret2
    exact ⟨rfl, g2⟩
  · have e : atEndM m = !opM m := by
      unfold atEndM
      rw [hb', show m.rest.isEmpty = false from by simpa using hr]
      simp
    have hz : ((tot P : Int) == 0) = false := by
      rw [htl, beq_eq_false_iff_ne]
      have := List.length_pos_iff.2 hr
      omega
    rw [e]
    clear h hok htl hb hb' e hr
    go_enter Try.func31, Try.ntmps31
    go_wp2_with fail
    refine HZ.out.mono ?_
    rintro e w' ⟨rfl, rfl⟩
    go_wp2_with fail
    have fd : Fr [] w w.drew := (Fr.refl _ _).drew
    refine wp_region_order [(0, true), (1, true), (2, true), (3, true), (4, true), (5, true), (6, true), (7, true), (8, true), (9, true), (10, true), (11, true), (12, true), (13, false), (14, true), (15, true), (16, true), (17, false), (18, true), (19, true), (20, true), (21, true), (22, true)] (fun w' => Fr [] w w') (by kernel_rfl) (by kernel_rfl) fd ?_
    intro OPS HOPS
    have hops := HOPS.out
    try simp only [List.append_eq, List.cons_append, List.nil_append] at hops
    replace HOPS := Lib.hid hops
    clear hops
    refine walkO_take (o := _) (v := ?_) (by rw [HOPS.out]; simp only [List.getElem?_toArray, List.getElem?_cons_succ, List.getElem?_cons_zero]; exact rfl) (Or.inl ⟨rfl, ?_⟩) ?_
    rotate_left
    · (intro w hSw; have hSx := HFA.out _ hSw; (try dsimp only at hSx); clear hSw; go_simp) <;> (with_reducible rfl)
    simp only [Act.put, List.setIfInBounds_toArray, List.set_cons_zero, List.set_cons_succ]
    refine walkO_take (o := _) (v := ?_) (by rw [HOPS.out]; simp only [List.getElem?_toArray, List.getElem?_cons_succ, List.getElem?_cons_zero]; exact rfl) (Or.inl ⟨rfl, ?_⟩) ?_
    rotate_left
    · (intro w hSw; have hSx := HFA.out _ hSw; (try dsimp only at hSx); clear hSw; go_simp) <;> (with_reducible rfl)
    simp only [Act.put, List.setIfInBounds_toArray, List.set_cons_zero, List.set_cons_succ]
    refine walkO_take (o := _) (v := ?_) (by rw [HOPS.out]; simp only [List.getElem?_toArray, List.getElem?_cons_succ, List.getElem?_cons_zero]; exact rfl) (Or.inl ⟨rfl, ?_⟩) ?_
    rotate_left
    · (intro w hSw; have hSx := HFA.out _ hSw; (try dsimp only at hSx); clear hSw; go_simp) <;> (with_reducible rfl)
    simp only [Act.put, List.setIfInBounds_toArray, List.set_cons_zero, List.set_cons_succ]
    refine walkO_take (o := _) (v := ?_) (by rw [HOPS.out]; simp only [List.getElem?_toArray, List.getElem?_cons_succ, List.getElem?_cons_zero]; exact rfl) (Or.inl ⟨rfl, ?_⟩) ?_
    rotate_left
    · (intro w hSw; have hSx := HFA.out _ hSw; (try dsimp only at hSx); clear hSw; go_simp) <;> (with_reducible rfl)
    simp only [Act.put, List.setIfInBounds_toArray, List.set_cons_zero, List.set_cons_succ]
    refine walkO_take (o := _) (v := ?_) (by rw [HOPS.out]; simp only [List.getElem?_toArray, List.getElem?_cons_succ, List.getElem?_cons_zero]; exact rfl) (Or.inl ⟨rfl, ?_⟩) ?_
    rotate_left
    · (intro w hSw; have hSx := HFA.out _ hSw; (try dsimp only at hSx); clear hSw; go_simp) <;> (with_reducible rfl)
    simp only [Act.put, List.setIfInBounds_toArray, List.set_cons_zero, List.set_cons_succ]
    refine walkO_take (o := _) (v := ?_) (by rw [HOPS.out]; simp only [List.getElem?_toArray, List.getElem?_cons_succ, List.getElem?_cons_zero]; exact rfl) (Or.inl ⟨rfl, ?_⟩) ?_
    rotate_left
    · (intro w hSw; have hSx := HFA.out _ hSw; (try dsimp only at hSx); clear hSw; go_simp) <;> (with_reducible rfl)
    simp only [Act.put, List.setIfInBounds_toArray, List.set_cons_zero, List.set_cons_succ]
    refine walkO_take (o := _) (v := ?_) (by rw [HOPS.out]; simp only [List.getElem?_toArray, List.getElem?_cons_succ, List.getElem?_cons_zero]; exact rfl) (Or.inl ⟨rfl, ?_⟩) ?_
    rotate_left
    · (intro w hSw; have hSx := HFA.out _ hSw; (try dsimp only at hSx); clear hSw; go_simp) <;> (with_reducible rfl)
    simp only [Act.put, List.setIfInBounds_toArray, List.set_cons_zero, List.set_cons_succ]
    refine walkO_take (o := _) (v := ?_) (by rw [HOPS.out]; simp only [List.getElem?_toArray, List.getElem?_cons_succ, List.getElem?_cons_zero]; exact rfl) (Or.inl ⟨rfl, ?_⟩) ?_
    rotate_left
    · (intro w hSw; have hSx := HFA.out _ hSw; (try dsimp only at hSx); clear hSw; go_simp) <;> (with_reducible rfl)
    simp only [Act.put, List.setIfInBounds_toArray, List.set_cons_zero, List.set_cons_succ]
    refine walkO_take (o := _) (v := ?_) (by rw [HOPS.out]; simp only [List.getElem?_toArray, List.getElem?_cons_succ, List.getElem?_cons_zero]; exact rfl) (Or.inl ⟨rfl, ?_⟩) ?_
    rotate_left
    · (intro w hSw; have hSx := HFA.out _ hSw; (try dsimp only at hSx); clear hSw; go_simp) <;> (with_reducible rfl)
    simp only [Act.put, List.setIfInBounds_toArray, List.set_cons_zero, List.set_cons_succ]
    refine walkO_take (o := _) (v := ?_) (by rw [HOPS.out]; simp only [List.getElem?_toArray, List.getElem?_cons_succ, List.getElem?_cons_zero]; exact rfl) (Or.inl ⟨by rw [HOPS.out]; rfl, ?_⟩) ?_
    rotate_left
    · (intro w hSw; have hSx := HFA.out _ hSw; (try dsimp only at hSx); clear hSw; go_simp) <;> (with_reducible rfl)
    simp only [Act.put, List.setIfInBounds_toArray, List.set_cons_zero, List.set_cons_succ]
    refine walkO_take (o := _) (v := ?_) (by rw [HOPS.out]; simp only [List.getElem?_toArray, List.getElem?_cons_succ, List.getElem?_cons_zero]; exact rfl) (Or.inl ⟨by rw [HOPS.out]; rfl, ?_⟩) ?_
    rotate_left
    · (intro w hSw; have hSx := HFA.out _ hSw; (try dsimp only at hSx); clear hSw; go_simp) <;> (with_reducible rfl)
    simp only [Act.put, List.setIfInBounds_toArray, List.set_cons_zero, List.set_cons_succ]
    refine walkO_take (o := _) (v := ?_) (by rw [HOPS.out]; simp only [List.getElem?_toArray, List.getElem?_cons_succ, List.getElem?_cons_zero]; exact rfl) (Or.inl ⟨by rw [HOPS.out]; rfl, ?_⟩) ?_
    rotate_left
    · (intro w hSw; have hSx := HFA.out _ hSw; (try dsimp only at hSx); clear hSw; go_simp) <;> (with_reducible rfl)
    simp only [Act.put, List.setIfInBounds_toArray, List.set_cons_zero, List.set_cons_succ]
    refine walkO_take (o := _) (v := ?_) (by rw [HOPS.out]; simp only [List.getElem?_toArray, List.getElem?_cons_succ, List.getElem?_cons_zero]; exact rfl) (Or.inl ⟨by rw [HOPS.out]; rfl, ?_⟩) ?_
    rotate_left
    · (intro w hSw; have hSx := HFA.out _ hSw; (try dsimp only at hSx); clear hSw; go_simp) <;> (with_reducible rfl)
    simp only [Act.put, List.setIfInBounds_toArray, List.set_cons_zero, List.set_cons_succ]
    refine walkO_call (o := _) (by rw [HOPS.out]; simp only [List.getElem?_toArray, List.getElem?_cons_succ, List.getElem?_cons_zero]; exact rfl) (fun K HK => ?_)
    refine step_call (by rw [HOPS.out]; rfl) 57 #[(.tmp 18)] #[57] rfl HEL.out #[.agg #[.slice a P.length cap, .int .i64 (tot P)]] (by simp [Act.eval]) (rope_len (HH.out.keep0 fd).p) ?_
    rintro e w2 ⟨rfl, f2⟩
    have g2 : Fr [] w w2 := fd.then0 f2
    refine ⟨_, rfl, ?_⟩
    refine HK.out (fun w' => Fr [] w w') _ _ (fun _ h => h) (g2) ?_
    clear HK K
    simp only [Act.put, List.setIfInBounds_toArray, List.set_cons_zero, List.set_cons_succ]
    refine walkO_take (o := _) (v := ?_) (by rw [HOPS.out]; simp only [List.getElem?_toArray, List.getElem?_cons_succ, List.getElem?_cons_zero]; exact rfl) (Or.inl ⟨by rw [HOPS.out]; rfl, ?_⟩) ?_
    rotate_left
    · (intro w hSw; have hSx := HFA.out _ hSw; (try dsimp only at hSx); clear hSw; go_simp) <;> (with_reducible rfl)
    simp only [Act.put, List.setIfInBounds_toArray, List.set_cons_zero, List.set_cons_succ]
    refine walkO_take (o := _) (v := ?_) (by rw [HOPS.out]; simp only [List.getElem?_toArray, List.getElem?_cons_succ, List.getElem?_cons_zero]; exact rfl) (Or.inl ⟨by rw [HOPS.out]; rfl, ?_⟩) ?_
    rotate_left
    · (intro w hSw; have hSx := HFA.out _ hSw; (try dsimp only at hSx); clear hSw; go_simp) <;> (with_reducible rfl)
    simp only [Act.put, List.setIfInBounds_toArray, List.set_cons_zero, List.set_cons_succ]
    refine walkO_take (o := _) (v := ?_) (by rw [HOPS.out]; simp only [List.getElem?_toArray, List.getElem?_cons_succ, List.getElem?_cons_zero]; exact rfl) (Or.inl ⟨by rw [HOPS.out]; rfl, ?_⟩) ?_
    rotate_left
    · (intro w hSw; have hSx := HFA.out _ hSw; (try dsimp only at hSx); clear hSw; go_simp) <;> (with_reducible rfl)
    simp only [Act.put, List.setIfInBounds_toArray, List.set_cons_zero, List.set_cons_succ]
    refine walkO_call (o := _) (by rw [HOPS.out]; simp only [List.getElem?_toArray, List.getElem?_cons_succ, List.getElem?_cons_zero]; exact rfl) (fun K HK => ?_)
    refine step_call (by rw [HOPS.out]; rfl) 79 #[(.tmp 22)] #[23] rfl HEO.out #[.pointer (some ⟨b, 0, none⟩)] (by simp [Act.eval]) (st_open (HH.out.keep0 g2)) ?_
    rintro e w' ⟨rfl, rfl⟩
    refine ⟨_, rfl, ?_⟩
    refine HK.out (fun w' => Fr [] w w') _ _ (fun _ h => h) (g2) ?_
    clear HK K
    simp only [Act.put, List.setIfInBounds_toArray, List.set_cons_zero, List.set_cons_succ]
    refine walkO_take (o := _) (v := ?_) (by rw [HOPS.out]; simp only [List.getElem?_toArray, List.getElem?_cons_succ, List.getElem?_cons_zero]; exact rfl) (Or.inl ⟨by rw [HOPS.out]; rfl, ?_⟩) ?_
    rotate_left
    · (intro w hSw; have hSx := HFA.out _ hSw; (try dsimp only at hSx); clear hSw; go_simp) <;> (with_reducible rfl)
    simp only [Act.put, List.setIfInBounds_toArray, List.set_cons_zero, List.set_cons_succ]
    refine walkO_take (o := _) (v := ?_) (by rw [HOPS.out]; simp only [List.getElem?_toArray, List.getElem?_cons_succ, List.getElem?_cons_zero]; exact rfl) (Or.inl ⟨by rw [HOPS.out]; rfl, ?_⟩) ?_
    rotate_left
    · (intro w hSw; have hSx := HFA.out _ hSw; (try dsimp only at hSx); clear hSw; go_simp) <;> (with_reducible rfl)
    simp only [Act.put, List.setIfInBounds_toArray, List.set_cons_zero, List.set_cons_succ]
    refine walkO_take (o := _) (v := ?_) (by rw [HOPS.out]; simp only [List.getElem?_toArray, List.getElem?_cons_succ, List.getElem?_cons_zero]; exact rfl) (Or.inl ⟨rfl, ?_⟩) ?_
    rotate_left
    · (intro w hSw; have hSx := HFA.out _ hSw; (try dsimp only at hSx); clear hSw; go_simp) <;> (with_reducible rfl)
    simp only [Act.put, List.setIfInBounds_toArray, List.set_cons_zero, List.set_cons_succ]
    refine walkO_take (o := _) (v := ?_) (by rw [HOPS.out]; simp only [List.getElem?_toArray, List.getElem?_cons_succ, List.getElem?_cons_zero]; exact rfl) (Or.inl ⟨rfl, ?_⟩) ?_
    rotate_left
    · (intro w hSw; have hSx := HFA.out _ hSw; (try dsimp only at hSx); clear hSw; go_simp) <;> (with_reducible rfl)
    simp only [Act.put, List.setIfInBounds_toArray, List.set_cons_zero, List.set_cons_succ]
    refine walkO_take (o := _) (v := ?_) (by rw [HOPS.out]; simp only [List.getElem?_toArray, List.getElem?_cons_succ, List.getElem?_cons_zero]; exact rfl) (Or.inl ⟨rfl, ?_⟩) ?_
    rotate_left
    · (intro w hSw; have hSx := HFA.out _ hSw; (try dsimp only at hSx); clear hSw; go_simp) <;> (with_reducible rfl)
    simp only [Act.put, List.setIfInBounds_toArray, List.set_cons_zero, List.set_cons_succ]
    refine walkO_done ?_
    clear HOPS OPS
    go_wp2_with fail
    go_ret2
    exact ⟨rfl, g2⟩
end
end Go.Proofs.Ytdoamelhclnphaa

namespace Go.Proofs.Ytdoamelhclnphaa
open Go.RowKit
set_option maxRecDepth 100000

theorem Invokes.at_ {t : TypeId} {v : Value} {name : String} {args : Array Value} {w : World} {R : Ending → World → Prop} (h : Invokes (.iface t v) name args w R) :
    ∃ f rv, (∀ w, (method (Try.prog.types.size + Made.depth) t v name).run Try.prog w = .ok (f, rv) w) ∧ (∀ args w, (callFunc f args).run Try.prog w = .ok (.enter f args) w) ∧ Calls Try.prog f (#[rv] ++ args) w R := by
  obtain ⟨t', v', f, rv, e, h1, h2, h3⟩ := h
  injection e with e1 e2
  subst e1 e2
  exact ⟨f, rv, h1, h2, h3⟩
section
variable {w : World} {N : Nat → Prop} {L : List Nat} {b : Nat} {m : SM} {sv : Value} {a : Option Addr} {cap : Nat} {P : Parts}
theorem StB.sto {a : Option Addr} {len cap : Nat} {n acc x y : Int} {busy : Bool} (h : StB w b sv busy a len cap n acc x y) (u : Value) : StB (w.setCell ⟨b, 0, none⟩ u) b u busy a len cap n acc x y := by
  have := heap_setCell_eq (i := 0) (u := u) h
  unfold StB
  rw [this]
  simp
theorem StB.wr {a : Option Addr} {len cap : Nat} {n acc x y : Int} {busy : Bool} (h : StB w b sv busy a len cap n acc x y) (z : Int) : StB (w.setCell ⟨b, 5, none⟩ (.int .i64 z)) b sv busy a len cap n acc z y := by
  have := heap_setCell_eq (i := 5) (u := .int .i64 z) h
  unfold StB
  rw [this]
  simp
theorem StB.rd {a : Option Addr} {len cap : Nat} {n acc x y : Int} {busy : Bool} (h : StB w b sv busy a len cap n acc x y) (z : Int) : StB (w.setCell ⟨b, 6, none⟩ (.int .i64 z)) b sv busy a len cap n acc x z := by
  have := heap_setCell_eq (i := 6) (u := .int .i64 z) h
  unfold StB
  rw [this]
  simp
theorem st_drop (h : StR w N L b m sv a cap P) :
    Calls Try.prog 112 #[.pointer (some ⟨b, 0, none⟩)] w fun e w' => e = .returned (.tuple #[]) ∧ Fr [b] w w' ∧ ∃ sv' L', (∀ x ∈ L', w.heap.size ≤ x) ∧ StR w' (fun x => N x ∧ x < w.heap.size) L' b { m with q := [] } sv' a cap P := by
  obtain ⟨st, su, rfl⟩ := h.s.form
  have HH := Lib.hid h
  have hbd := h.s.bd
  have hbl := lt_of_heap h.k
  obtain ⟨c0, _, _, _, _, _, _⟩ := h.k.cells
  obtain ⟨f, rv, hm, he, hc⟩ := (sto_room h.s).at_
  simp [go_sem] at hm
  have HC := Lib.hid hc
  have HO := Lib.hid fun w1 => stm_of m.c w1 hbd.1 hbd.2.1
  clear h hc hbd
  go_enter Try.func112, Try.ntmps112
  go_wp2_with fail
  refine HC.out.mono ?_
  rintro e w1 ⟨rfl, f1⟩
  clear HC hm he
  go_wp2_with fail
  refine (HO.out _).mono ?_
  rintro e w2 ⟨t2, u2, L2, rfl, f2, hL2, hs2⟩
  have g2 := f1.then0 f2
  have h2 := HH.out.keep0 g2
  have k0 := h2.k.cells.c0
  have k1 := h2.k.free 0
  have hs1 := f1.size
  have HS2 := Lib.hid (And.intro hL2 hs2)
  clear hL2 hs2 c0 f1 f2
  have H2 := Lib.hid h2
  clear h2 HO
  go_wp2_with fail
  go_end0
  have h2 := H2.out
  obtain ⟨hL2, hs2⟩ := HS2.out
  have fb : Fr [b] w2 (w2.setCell ⟨b, 0, none⟩ (.iface t2 u2)) := (Fr.refl _ _).setCell (.inl (by simp)) _
  refine ⟨rfl, (g2.mono (T := [b]) (by simp)).then fb, .iface t2 u2, L2, fun x hx => by have := (hL2 x hx).1; omega, h2.k.sto _, hs2.keep fb (fun x hx hm => by simp at hm; subst hm; have := (hL2 _ hx).1; omega), (HH.out.p.there.keep g2 (by simp)).keep fb (fun x hx hn => by simp at hx; subst hx; exact HH.out.nb hn.1), h2.e, fun hn => h2.nb hn.1, fun x hx hn => ?_, fun hm => ?_⟩
  · have := (hL2 x hx).1
    have := hn.2
    omega
  · have := (hL2 _ hm).1
    omega

theorem map_ins {w : World} {r : Nat} (h : w.heap[r]? = some (.map #[] 0)) (v : Value) :
    (Instr.mapUpdate 163 (.map (some r)) (.int .i64 1) v).run Try.prog w = .ok () { w with heap := w.heap.setIfInBounds r (.map #[{ key := .int .i64 1, val := v, born := 0 }] 1) } := by
  have h1 : (Instr.checkKey false 10000 125 (.int .i64 1)).run Try.prog w = .ok () w := MapKept.run_checkKey (d := .int .i64) Try.underlying125 (by simp [MapKept.IsKey]) false 9999
  have h2 : (Instr.findKey 125 (.int .i64 1) []).run Try.prog w = .ok none w := MapKept.run_findKey Try.underlying125 rfl
  have h3 := MapKept.run_setObj_map (P := Try.prog) (.map #[{ key := .int .i64 1, val := v, born := 0 }] 1) h
  unfold Instr.mapUpdate
  simp only [Sem.run_bind, run_underlying Try.underlying163, Result.andThen_ok, MapKept.run_getObj_map h, h1, h2]
  exact h3
theorem map_get {w : World} {r : Nat} {v : Value} (h : w.heap[r]? = some (.map #[{ key := .int .i64 1, val := v, born := 0 }] 1)) :
    (Instr.lookup 163 (.map (some r)) (.int .i64 1) false).run Try.prog w = .ok v w ∧ (Instr.lookup 163 (.map (some r)) (.int .i64 0) false).run Try.prog w = .ok .nilFunc w := by
  have h1 : ∀ n, (Instr.checkKey false 10000 125 (.int .i64 n)).run Try.prog w = .ok () w := fun n => MapKept.run_checkKey (d := .int .i64) Try.underlying125 (by simp [MapKept.IsKey]) false 9999
  have h2 : (Instr.findKey 125 (.int .i64 1) [{ key := .int .i64 1, val := v, born := 0 }]).run Try.prog w = .ok (some (0, v)) w := MapKept.run_findKey Try.underlying125 rfl
  have h3 : (Instr.findKey 125 (.int .i64 0) [{ key := .int .i64 1, val := v, born := 0 }]).run Try.prog w = .ok none w := MapKept.run_findKey Try.underlying125 rfl
  have h4 : (zeroValue 1).run Try.prog w = .ok .nilFunc w := by kernel_rfl
  have he : (#[({ key := .int .i64 1, val := v, born := 0 } : MapEntry)]).isEmpty = false := rfl
  unfold Instr.lookup
  simp only [Sem.run_bind, run_underlying Try.underlying163, Result.andThen_ok, MapKept.run_getObj_map h, h1, h2, h3, h4, Sem.run_pure, he]
  exact ⟨rfl, rfl⟩
/-- The world behind the map that shut makes. -/
theorem map_made {w : World} (v : Value) : ∃ W, (∀ w', w' = w.alloc (.map #[] 0) → (Instr.mapUpdate 163 (.map (some w.heap.size)) (.int .i64 1) v).run Try.prog w' = .ok () W) ∧
    (Instr.lookup 163 (.map (some w.heap.size)) (.int .i64 1) false).run Try.prog W = .ok v W ∧ (Instr.lookup 163 (.map (some w.heap.size)) (.int .i64 0) false).run Try.prog W = .ok .nilFunc W ∧ Fr [] w W := by
  have h : (w.alloc (.map #[] 0)).heap[w.heap.size]? = some (.map #[] 0) := newA rfl
  have h2 : ({ w.alloc (.map #[] 0) with heap := (w.alloc (.map #[] 0)).heap.setIfInBounds w.heap.size (.map #[{ key := .int .i64 1, val := v, born := 0 }] 1) } : World).heap[w.heap.size]? = some (.map #[{ key := .int .i64 1, val := v, born := 0 }] 1) := (MapKept.heap_set h).1
  refine ⟨_, fun w' e => by rw [e]; exact map_ins h v, (map_get h2).1, (map_get h2).2, rfl, rfl, rfl, by simp, fun k hk _ => ?_⟩
  rw [(MapKept.heap_set h).2 k (by omega)]
  exact heap_alloc_lt hk

def ShutPost (w : World) (N : Nat → Prop) (L : List Nat) (b : Nat) (r : SE) (e : Ending) (w' : World) : Prop := e = .returned (.int .i64 r.err) ∧ SP w N L b r.m w'
set_option maxHeartbeats 1000000 in
theorem shut_w (h : St w N L b m) (x : Int) :
    Calls Try.prog 81 #[.pointer (some ⟨b, 0, none⟩), .int .i64 0, .int .i64 x] w (ShutPost w N L b (closewM m x)) := by
  obtain ⟨hok, sv, a, cap, P, h⟩ := h
  have HH := Lib.hid h
  have HS := Lib.hid (SP.same (w := w) ⟨hok, sv, a, cap, P, h⟩ (Fr.refl _ _))
  have HZ := Lib.hid (st_none h)
  obtain ⟨_, _, _, _, _, c5, c6⟩ := h.k.cells
  have k5 := h.k.free 5
  have hok2 := closewM_ok hok x
  by_cases hx : codeM x = false
  · have e : closewM m x = ⟨m, 2⟩ := by unfold closewM; rw [if_pos hx]
    rw [e]
    have hx' : ¬ (1 ≤ x ∧ x ≤ 1000) := fun hh => by rw [codeM_iff.2 hh] at hx; cases hx
    clear h hok hok2 e hx
    by_cases h1 : x < 1
    · clear hx'
      go_enter Try.func81, Try.ntmps81
      go_wp2_with fail
      refine HZ.out.mono ?_
      rintro e w' ⟨rfl, rfl⟩
      go_wp2_with fail
      go_ret
      exact ⟨rfl, HS.out⟩
    · have h2 : 1000 < x := by omega
      have h3 : 1 ≤ x := by omega
      clear h1 hx'
      go_enter Try.func81, Try.ntmps81
      go_wp2_with fail
      refine HZ.out.mono ?_
      rintro e w' ⟨rfl, rfl⟩
      go_wp2_with fail
      go_ret
      exact ⟨rfl, HS.out⟩
  obtain ⟨x1, x2⟩ := codeM_iff.1 (show codeM x = true from by simpa using hx)
  by_cases hw : m.w ≠ 0
  · have e : closewM m x = ⟨m, 14⟩ := by unfold closewM; rw [if_neg hx, if_pos hw]
    rw [e]
    obtain ⟨n1, n2⟩ : (m.w == 0) = false ∧ (m.w != 0) = true := by simp [hw]
    clear h hok hok2 e hx hw
    go_enter Try.func81, Try.ntmps81
    go_wp2_with fail
    refine HZ.out.mono ?_
    rintro e w' ⟨rfl, rfl⟩
    go_wp2_with fail
    go_ret
    exact ⟨rfl, HS.out⟩
  · have e : closewM m x = ⟨{ m with w := x }, 0⟩ := by unfold closewM; rw [if_neg hx, if_neg hw]
    have hw' : m.w = 0 := by omega
    rw [e] at hok2 ⊢
    rw [hw'] at c5
    have HK := Lib.hid hok2
    obtain ⟨w1, hw1, f1, h1⟩ : ∃ W, w.setCell ⟨b, 5, none⟩ (.int .i64 x) = W ∧ Fr [b] w W ∧ StR W N L b { m with w := x } sv a cap P := ⟨_, rfl, (Fr.refl _ _).setCell (.inl (by simp)) _, h.k.wr _, h.s.keep ((Fr.refl [b] _).setCell (.inl (by simp)) _) (fun y hy hm => by simp at hm; subst hm; exact h.bl hy), h.p.keep ((Fr.refl [b] _).setCell (.inl (by simp)) _) (fun y hy => by simp at hy; subst hy; exact h.nb), h.e, h.nb, h.nl, h.bl⟩
    have hmk : ∀ w : World, (Instr.makeMap 163 none).run Try.prog w = .ok (.map (some w.heap.size)) (w.alloc (.map #[] 0)) := fun w => run_makeMap _ w
    have hmf : ∀ (fn : Fn) (first cap : Array Value) (w : World), (Instr.makeFunc fn first cap).run Try.prog w = .ok (.func fn first cap) w := fun _ _ _ _ => rfl
    have hq0 : ∀ w : World, (binOp .neq 1 .nilFunc .nilFunc).run Try.prog w = .ok (.bool false) w := fun w => by kernel_rfl
    obtain ⟨w2, hin, _, hget, f2⟩ := map_made (w := w1) (.func (.func 112) #[.pointer (some ⟨b, 0, none⟩)] #[])
    replace hin := hin _ rfl
    have H1 := Lib.hid h1
    have HF := Lib.hid (And.intro f1 f2)
    clear h hok hok2 e hx hw hw' h1 f1 f2
    go_enter Try.func81, Try.ntmps81
    go_wp2_with fail
    refine HZ.out.mono ?_
    rintro e w' ⟨rfl, rfl⟩
    go_wp2_with fail
    go_ret
    obtain ⟨f1, f2⟩ := HF.out
    exact ⟨rfl, (f1.then0 f2).mono (by simp), N, L, fun _ => .inl, fun _ => .inl, HK.out, _, _, _, _, H1.out.keep0 f2⟩
set_option maxHeartbeats 1000000 in
theorem shut_r (h : St w N L b m) (x : Int) :
    Calls Try.prog 81 #[.pointer (some ⟨b, 0, none⟩), .int .i64 1, .int .i64 x] w (ShutPost w N L b (closerM m x)) := by
  obtain ⟨hok, sv, a, cap, P, h⟩ := h
  have HH := Lib.hid h
  have HS := Lib.hid (SP.same (w := w) ⟨hok, sv, a, cap, P, h⟩ (Fr.refl _ _))
  have HZ := Lib.hid (st_none h)
  obtain ⟨_, _, _, _, _, c5, c6⟩ := h.k.cells
  have k6 := h.k.free 6
  have hok2 := closerM_ok hok x
  by_cases hx : codeM x = false
  · have e : closerM m x = ⟨m, 2⟩ := by unfold closerM; rw [if_pos hx]
    rw [e]
    have hx' : ¬ (1 ≤ x ∧ x ≤ 1000) := fun hh => by rw [codeM_iff.2 hh] at hx; cases hx
    clear h hok hok2 e hx
    by_cases h1 : x < 1
    · clear hx'
      go_enter Try.func81, Try.ntmps81
      go_wp2_with fail
      refine HZ.out.mono ?_
      rintro e w' ⟨rfl, rfl⟩
      go_wp2_with fail
      go_ret
      exact ⟨rfl, HS.out⟩
    · have h2 : 1000 < x := by omega
      have h3 : 1 ≤ x := by omega
      clear h1 hx'
      go_enter Try.func81, Try.ntmps81
      go_wp2_with fail
      refine HZ.out.mono ?_
      rintro e w' ⟨rfl, rfl⟩
      go_wp2_with fail
      go_ret
      exact ⟨rfl, HS.out⟩
  obtain ⟨x1, x2⟩ := codeM_iff.1 (show codeM x = true from by simpa using hx)
  by_cases hw : m.r ≠ 0
  · have e : closerM m x = ⟨m, 14⟩ := by unfold closerM; rw [if_neg hx, if_pos hw]
    rw [e]
    obtain ⟨n1, n2⟩ : (m.r == 0) = false ∧ (m.r != 0) = true := by simp [hw]
    clear h hok hok2 e hx hw
    go_enter Try.func81, Try.ntmps81
    go_wp2_with fail
    refine HZ.out.mono ?_
    rintro e w' ⟨rfl, rfl⟩
    go_wp2_with fail
    go_ret
    exact ⟨rfl, HS.out⟩
  · have e : closerM m x = ⟨{ m with r := x, q := [] }, 0⟩ := by unfold closerM; rw [if_neg hx, if_neg hw]
    have hw' : m.r = 0 := by omega
    rw [e] at hok2 ⊢
    rw [hw'] at c6
    have HK := Lib.hid hok2
    obtain ⟨w1, hw1, f1, h1⟩ : ∃ W, w.setCell ⟨b, 6, none⟩ (.int .i64 x) = W ∧ Fr [b] w W ∧ StR W N L b { m with r := x } sv a cap P := ⟨_, rfl, (Fr.refl _ _).setCell (.inl (by simp)) _, h.k.rd _, h.s.keep ((Fr.refl [b] _).setCell (.inl (by simp)) _) (fun y hy hm => by simp at hm; subst hm; exact h.bl hy), h.p.keep ((Fr.refl [b] _).setCell (.inl (by simp)) _) (fun y hy => by simp at hy; subst hy; exact h.nb), h.e, h.nb, h.nl, h.bl⟩
    have hmk : ∀ w : World, (Instr.makeMap 163 none).run Try.prog w = .ok (.map (some w.heap.size)) (w.alloc (.map #[] 0)) := fun w => run_makeMap _ w
    have hmf : ∀ (fn : Fn) (first cap : Array Value) (w : World), (Instr.makeFunc fn first cap).run Try.prog w = .ok (.func fn first cap) w := fun _ _ _ _ => rfl
    have hq1 : ∀ w : World, (binOp .neq 1 (.func (.func 112) #[.pointer (some ⟨b, 0, none⟩)] #[]) .nilFunc).run Try.prog w = .ok (.bool true) w := fun w => by kernel_rfl
    obtain ⟨w2, hin, hget, _, f2⟩ := map_made (w := w1) (.func (.func 112) #[.pointer (some ⟨b, 0, none⟩)] #[])
    replace hin := hin _ rfl
    have HD := Lib.hid (st_drop (h1.keep0 f2))
    have HF := Lib.hid (And.intro f1 f2)
    have hs1 := f1.size
    have hs2 := f2.size
    clear h hok hok2 e hx hw hw' h1 f1 f2
    go_enter Try.func81, Try.ntmps81
    go_wp2_with fail
    refine HZ.out.mono ?_
    rintro e w' ⟨rfl, rfl⟩
    go_wp2_with fail
    refine HD.out.mono ?_
    rintro e w3 ⟨rfl, f3, sv3, L3, hL3, h3⟩
    clear HD hget hin hw1
    go_wp2_with fail
    go_ret
    obtain ⟨f1, f2⟩ := HF.out
    exact ⟨rfl, ((f1.then0 f2).then f3).mono (by simp), _, L3, fun _ hx => .inl hx.1, fun x hx => .inr (by have := hL3 x hx; omega), HK.out, _, _, _, _, h3⟩
theorem st_closew (h : St w N L b m) (x : Int) :
    Calls Try.prog 36 #[.pointer (some ⟨b, 0, none⟩), .int .i64 x] w (ShutPost w N L b (closewM m x)) := by
  have HS := Lib.hid (shut_w h x)
  clear h
  go_enter Try.func36, Try.ntmps36
  go_wp2_with fail
  refine HS.out.mono ?_
  rintro e w' ⟨rfl, h⟩
  go_wp2_with fail
  go_ret
  exact ⟨rfl, h⟩
theorem st_closer (h : St w N L b m) (x : Int) :
    Calls Try.prog 40 #[.pointer (some ⟨b, 0, none⟩), .int .i64 x] w (ShutPost w N L b (closerM m x)) := by
  have HS := Lib.hid (shut_r h x)
  clear h
  go_enter Try.func40, Try.ntmps40
  go_wp2_with fail
  refine HS.out.mono ?_
  rintro e w' ⟨rfl, h⟩
  go_wp2_with fail
  go_ret
  exact ⟨rfl, h⟩
end
end Go.Proofs.Ytdoamelhclnphaa

namespace Go.Proofs.Ytdoamelhclnphaa
open Go.RowKit

theorem setRow_fr' {w : World} {g : Nat} {cs : Array Value} : Fr [g] w (w.setRow g cs) :=
  ⟨rfl, rfl, rfl, by simp [World.setRow], fun k _ hn => by
    have hk : g ≠ k := fun e => hn (by simp [e])
    simp [World.setRow, Array.getElem?_modify, hk]⟩
section
variable {P : Program} {ops : Array Oper} {o : Oper} {a : Act} {w : World} {K : Act → World → Prop} {Q : Exit → Act → World → Prop} {E : Prop}
theorem step_store_row (hw : Region.wanted o (yielded ops a.tmps) = true) (ty : TypeId) (x y : Operand) (ho : o.op = .store ty x y)
    (g : Nat) (cells : Array Value) (hx : a.eval x = .pointer (some ⟨g, 0, none⟩)) (hy : a.eval y = .agg cells)
    (t : TypeId) (old : Array Value) (hg : w.heap[g]? = some (.cells old t (0, 0))) (hi : (P.info? ty).map (·.size) = some cells.size)
    (hold : old.size = cells.size) (h1 : cells.all (·.oneCell') = true)
    (h : ∀ w', Fr [g] w w' → w'.heap[g]? = some (.cells cells t (0, 0)) → K (a.put o.dst undef) w') :
    if Region.wanted o (yielded ops a.tmps) = true then Oper.wp P o a w K Q else E := by
  rw [if_pos hw]
  exact wp_store_row ty x y ho g cells hx hy t old hg hi hold h1 (h _ setRow_fr' (setRow_heap w g old cells t (0, 0) hg))
end
end Go.Proofs.Ytdoamelhclnphaa

namespace Go.Proofs.Ytdoamelhclnphaa
open Go.RowKit
set_option maxRecDepth 100000

section
variable {w : World} {N : Nat → Prop} {L : List Nat} {b : Nat} {m : SM} {sv : Value} {a : Option Addr} {cap : Nat} {P : Parts}
def EndPost (w : World) (N : Nat → Prop) (L : List Nat) (b : Nat) (r : SN) (e : Ending) (w' : World) : Prop := e = .returned (.tuple #[.int .i64 r.n, .int .i64 r.err]) ∧ Fr [b] w w' ∧ St w' N L b r.m
set_option maxHeartbeats 1000000 in
theorem st_end (h : St w N L b m) :
    Calls Try.prog 33 #[.pointer (some ⟨b, 0, none⟩)] w (EndPost w N L b (endM m)) := by
  obtain ⟨hok, sv, a, cap, P, h⟩ := h
  have htl : tot P = m.rest.length := by rw [← h.e]; rfl
  have HH := Lib.hid h
  have HK := Lib.hid hok
  have HZ := Lib.hid (st_none h)
  obtain ⟨_, c1, c2, c3, c4, c5, c6⟩ := h.k.cells
  have HL := Lib.hid (rope_len h.p)
  have HKK := Lib.hid fun w1 (f : Fr [] w w1) => (show w1.cell? ⟨b, 5, none⟩ = some (.int .i64 m.w) ∧ w1.cell? ⟨b, 6, none⟩ = some (.int .i64 m.r) from ⟨(h.keep0 f).k.cells.c5, (h.keep0 f).k.cells.c6⟩)
  clear c5 c6
  by_cases hb : m.busy = false
  · have e : endM m = ⟨m, 0, 8⟩ := by unfold endM; rw [if_pos hb]
    rw [e]
    rw [hb] at c1
    clear h hok htl e hb
    go_enter Try.func33, Try.ntmps33
    go_wp2_with fail
    refine HZ.out.mono ?_
    rintro e w' ⟨rfl, rfl⟩
    go_wp2_with fail
    go_ret2
    exact ⟨rfl, Fr.refl _ _, HK.out, _, _, _, _, HH.out⟩
  have hb' : m.busy = true := by simpa using hb
  rw [hb'] at c1
  have stp : ∀ w1, Fr [] w w1 → ∀ k : Int, endM m = ⟨stopM m, m.acc, k⟩ → ∀ w2, Fr [b] w1 w2 → StR w2 N L b (stopM m) sv none 0 [] → EndPost w N L b (endM m) (.returned (.tuple #[.int .i64 m.acc, .int .i64 k])) w2 := fun w1 f k e w2 f2 h2 => by
    rw [e]
    exact ⟨rfl, (f.mono (by simp)).then f2, stopM_ok hok, _, _, _, _, h2⟩
  have HT := Lib.hid stp
  by_cases hr : m.rest = []
  · have e : endM m = ⟨stopM m, m.acc, 0⟩ := by
      unfold endM atEndM howM
      rw [if_neg hb, hb', hr]
      simp
    have htz : (tot P : Int) = 0 := by rw [htl, hr]; rfl
    rw [htz] at HL c3
    have HE := Lib.hid e
    clear h hok htl e hb hb' hr htz stp
    go_enter Try.func33, Try.ntmps33
    go_wp2_with fail
    refine HZ.out.mono ?_
    rintro e w' ⟨rfl, rfl⟩
    go_wp2_with fail
    refine HL.out.mono ?_
    rintro e w1 ⟨rfl, f1⟩
    clear c1 c2 c3 c4 HZ HL
    go_wp2_with fail
    refine (st_stop (HH.out.keep0 f1)).mono ?_
    rintro e w2 ⟨rfl, f2, h2⟩
    go_wp2_with fail
    go_ret2
    exact HT.out _ f1 _ HE.out _ f2 h2
  have hz : (0 : Int) < tot P := by rw [htl]; have := List.length_pos_iff.2 hr; omega
  have hrr : m.rest.isEmpty = false := by simpa using hr
  by_cases hop : opM m = true
  · have e : endM m = ⟨m, 0, 16⟩ := by
      unfold endM atEndM
      rw [if_neg hb, hb', hrr, hop]
      rfl
    rw [e]
    have HO := Lib.hid fun w1 (f : Fr [] w w1) => st_open (h.keep0 f)
    rw [hop] at HO
    clear h hok htl e hb hb' hr hrr stp hop HT
    go_enter Try.func33, Try.ntmps33
    go_wp2_with fail
    refine HZ.out.mono ?_
    rintro e w' ⟨rfl, rfl⟩
    go_wp2_with fail
    refine HL.out.mono ?_
    rintro e w1 ⟨rfl, f1⟩
    clear c1 c2 c3 c4 HZ HL
    go_wp2_with fail
    refine (HO.out _ f1).mono ?_
    rintro e w' ⟨rfl, rfl⟩
    go_wp2_with fail
    go_ret2
    exact ⟨rfl, f1.mono (by simp), HK.out, _, _, _, _, HH.out.keep0 f1⟩
  have hop' : opM m = false := by simpa using hop
  have HO := Lib.hid fun w1 (f : Fr [] w w1) => st_open (h.keep0 f)
  rw [hop'] at HO
  by_cases hw : m.w ≠ 0
  · have e : endM m = ⟨stopM m, m.acc, 14⟩ := by
      unfold endM atEndM howM
      rw [if_neg hb, hb', hrr, hop', if_neg hr, if_pos hw]
      rfl
    have HE := Lib.hid e
    obtain ⟨n1, n2⟩ : (m.w == 0) = false ∧ (m.w != 0) = true := by simp [hw]
    clear h hok htl e hb hb' hr hrr stp hop hop' hw
    go_enter Try.func33, Try.ntmps33
    go_wp2_with fail
    refine HZ.out.mono ?_
    rintro e w' ⟨rfl, rfl⟩
    go_wp2_with fail
    refine HL.out.mono ?_
    rintro e w1 ⟨rfl, f1⟩
    obtain ⟨c5, c6⟩ := HKK.out _ f1
    clear c1 c2 c3 c4 HZ HL
    go_wp2_with fail
    refine (HO.out _ f1).mono ?_
    rintro e w' ⟨rfl, rfl⟩
    go_wp2_with fail
    refine (st_stop (HH.out.keep0 f1)).mono ?_
    rintro e w2 ⟨rfl, f2, h2⟩
    clear c5 c6
    go_wp2_with fail
    go_ret2
    exact HT.out _ f1 _ HE.out _ f2 h2
  · have hw' : m.w = 0 := by omega
    have e : endM m = ⟨stopM m, m.acc, m.r⟩ := by
      unfold endM atEndM howM
      rw [if_neg hb, hb', hrr, hop', if_neg hr, if_neg hw]
      rfl
    have HE := Lib.hid e
    rw [hw'] at HKK
    clear h hok htl e hb hb' hr hrr stp hop hop' hw hw'
    go_enter Try.func33, Try.ntmps33
    go_wp2_with fail
    refine HZ.out.mono ?_
    rintro e w' ⟨rfl, rfl⟩
    go_wp2_with fail
    refine HL.out.mono ?_
    rintro e w1 ⟨rfl, f1⟩
    obtain ⟨c5, c6⟩ := HKK.out _ f1
    clear c1 c2 c3 c4 HZ HL
    go_wp2_with fail
    refine (HO.out _ f1).mono ?_
    rintro e w' ⟨rfl, rfl⟩
    go_wp2_with fail
    refine (st_stop (HH.out.keep0 f1)).mono ?_
    rintro e w2 ⟨rfl, f2, h2⟩
    clear c5 c6
    go_wp2_with fail
    go_ret2
    exact HT.out _ f1 _ HE.out _ f2 h2
theorem st_cancel (h : St w N L b m) :
    Calls Try.prog 34 #[.pointer (some ⟨b, 0, none⟩)] w (EndPost w N L b (cancelM m)) := by
  obtain ⟨hok, sv, a, cap, P, h⟩ := h
  have HH := Lib.hid h
  have HK := Lib.hid hok
  have HZ := Lib.hid (st_none h)
  obtain ⟨_, c1, c2, c3, c4, c5, c6⟩ := h.k.cells
  by_cases hb : m.busy = false
  · have e : cancelM m = ⟨m, 0, 8⟩ := by unfold cancelM; rw [if_pos hb]
    rw [e]
    rw [hb] at c1
    clear h hok e hb
    go_enter Try.func34, Try.ntmps34
    go_wp2_with fail
    refine HZ.out.mono ?_
    rintro e w' ⟨rfl, rfl⟩
    go_wp2_with fail
    go_ret2
    exact ⟨rfl, Fr.refl _ _, HK.out, _, _, _, _, HH.out⟩
  have hb' : m.busy = true := by simpa using hb
  rw [hb'] at c1
  have e : cancelM m = ⟨stopM m, m.acc, 0⟩ := by unfold cancelM; rw [if_neg hb]
  rw [e]
  have HS := Lib.hid (st_stop h)
  clear h hok e hb hb'
  go_enter Try.func34, Try.ntmps34
  go_wp2_with fail
  refine HZ.out.mono ?_
  rintro e w' ⟨rfl, rfl⟩
  go_wp2_with fail
  refine HS.out.mono ?_
  rintro e w2 ⟨rfl, f2, h2⟩
  clear c1 c2 c3 c4 c5 c6
  go_wp2_with fail
  go_ret2
  exact ⟨rfl, f2, stopM_ok HK.out, _, _, _, _, h2⟩

theorem eq_seven {w : World} {B : Nat} {u0 u1 u2 u3 u4 u5 u6 v0 v1 v2 v3 v4 v5 v6 : Value} {t : TypeId} (h : w.heap[B]? = some (.cells #[u0, u1, u2, u3, u4, u5, u6] t (0, 0))) :
    (((((((w.setCell ⟨B, 0, none⟩ v0).setCell ⟨B, 1, none⟩ v1).setCell ⟨B, 2, none⟩ v2).setCell ⟨B, 3, none⟩ v3).setCell ⟨B, 4, none⟩ v4).setCell ⟨B, 5, none⟩ v5).setCell ⟨B, 6, none⟩ v6).heap[B]? = some (.cells #[v0, v1, v2, v3, v4, v5, v6] t (0, 0)) := by
  have := heap_setCell_eq (i := 6) (u := v6) (heap_setCell_eq (i := 5) (u := v5) (heap_setCell_eq (i := 4) (u := v4) (heap_setCell_eq (i := 3) (u := v3) (heap_setCell_eq (i := 2) (u := v2) (heap_setCell_eq (i := 1) (u := v1) (heap_setCell_eq (i := 0) (u := v0) h))))))
  rw [this]
  simp
/-- A state as a value; the bytes are the caller's own, in memory from M on. -/
def SvO (w : World) (M : Nat) (v : Value) (m : SM) : Prop :=
  ∃ u1 u2, v = .agg #[.int .i64 m.c, u1, .bool m.busy, u2, .int .i64 m.acc, .int .i64 m.w, .int .i64 m.r] ∧ Ow w M 5 u1 ((bi m.q).map (Value.int .u8)) ∧ Ow w M 5 u2 ((bi m.rest).map (Value.int .u8))
set_option maxHeartbeats 1000000 in
theorem st_state (h : St w N L b m) :
    Calls Try.prog 42 #[.pointer (some ⟨b, 0, none⟩)] w fun e w' => ∃ v, e = .returned v ∧ Fr [] w w' ∧ SvO w' w.heap.size v m := by
  obtain ⟨hok, sv, a, cap, P, h⟩ := h
  obtain ⟨st, su, rfl⟩ := h.s.form
  obtain ⟨w0, hw0, g0, q0⟩ : ∃ W, w.alloc (.cells #[.int .i64 0, .slice none 0 0, .bool false, .slice none 0 0, .int .i64 0, .int .i64 0, .int .i64 0] 41) = W ∧ Fr [] w W ∧ W.heap[w.heap.size]? = some (.cells #[.int .i64 0, .slice none 0 0, .bool false, .slice none 0 0, .int .i64 0, .int .i64 0, .int .i64 0] 41 (0, 0)) := ⟨_, rfl, (Fr.refl _ _).alloc _, newA rfl⟩
  have HH := Lib.hid h
  have HX := Lib.hid q0
  have HZ := Lib.hid (st_none (h.keep0 g0))
  have HEB := Lib.hid (Go.Proofs.enters_of Try.func89 (by kernel_rfl) rfl)
  have HFA := Lib.hid fun (w' : World) (f : Fr [] w w') => (show w'.cell? ⟨b, 0, none⟩ = some (.iface st su) ∧ w'.cell? ⟨b, 1, none⟩ = some (.bool m.busy) ∧ w'.cell? ⟨b, 2, none⟩ = some (.slice a P.length cap) ∧ w'.cell? ⟨b, 3, none⟩ = some (.int .i64 (tot P)) ∧ w'.cell? ⟨b, 4, none⟩ = some (.int .i64 m.acc) ∧ w'.cell? ⟨b, 5, none⟩ = some (.int .i64 m.w) ∧ w'.cell? ⟨b, 6, none⟩ = some (.int .i64 m.r) from
    ⟨(h.keep0 f).k.cells.c0, (h.keep0 f).k.cells.c1, (h.keep0 f).k.cells.c2, (h.keep0 f).k.cells.c3, (h.keep0 f).k.cells.c4, (h.keep0 f).k.cells.c5, (h.keep0 f).k.cells.c6⟩)
  have HE := Lib.hid h.e
  have hz0 := lt_of_heap q0
  clear h hok q0
  go_enter Try.func42, Try.ntmps42
  go_wp2_with fail
  refine HZ.out.mono ?_
  rintro e w' ⟨rfl, rfl⟩
  go_wp2_with fail
  have fd : Fr [] w0 w0.drew := (Fr.refl _ _).drew
  refine wp_region_late [(0, true), (1, true), (2, true), (3, true), (5, true), (6, true), (7, true), (8, true), (10, true), (11, true), (12, true), (13, true), (14, true), (15, true), (16, true), (17, true), (19, true), (20, true), (21, true), (22, true), (23, true), (24, true), (25, true), (26, true), (27, true), (28, true), (29, true), (30, true), (31, true), (32, true), (4, false), (9, false), (18, false), (33, true)] [34] (fun w' => Fr [] w w') (by kernel_rfl) (by kernel_rfl) (g0.then0 fd) ?_
  intro OPS HOPS
  have hops := HOPS.out
  try simp only [List.append_eq, List.cons_append, List.nil_append] at hops
  replace HOPS := Lib.hid hops
  clear hops
  refine walkX_take (o := _) (v := ?_) (by rw [HOPS.out]; simp only [List.getElem?_toArray, List.getElem?_cons_succ, List.getElem?_cons_zero]; exact rfl) (Or.inl ⟨rfl, ?_⟩) ?_
  rotate_left
  · (intro w hSw; have hSx := HFA.out _ hSw; (try dsimp only at hSx); clear hSw; go_simp) <;> (with_reducible rfl)
  simp only [Act.put, List.setIfInBounds_toArray, List.set_cons_zero, List.set_cons_succ]
  refine walkX_take (o := _) (v := ?_) (by rw [HOPS.out]; simp only [List.getElem?_toArray, List.getElem?_cons_succ, List.getElem?_cons_zero]; exact rfl) (Or.inl ⟨rfl, ?_⟩) ?_
  rotate_left
  · (intro w hSw; have hSx := HFA.out _ hSw; (try dsimp only at hSx); clear hSw; go_simp) <;> (with_reducible rfl)
  simp only [Act.put, List.setIfInBounds_toArray, List.set_cons_zero, List.set_cons_succ]
  refine walkX_take (o := _) (v := ?_) (by rw [HOPS.out]; simp only [List.getElem?_toArray, List.getElem?_cons_succ, List.getElem?_cons_zero]; exact rfl) (Or.inl ⟨rfl, ?_⟩) ?_
  rotate_left
  · (intro w hSw; have hSx := HFA.out _ hSw; (try dsimp only at hSx); clear hSw; go_simp) <;> (with_reducible rfl)
  simp only [Act.put, List.setIfInBounds_toArray, List.set_cons_zero, List.set_cons_succ]
  refine walkX_take (o := _) (v := ?_) (by rw [HOPS.out]; simp only [List.getElem?_toArray, List.getElem?_cons_succ, List.getElem?_cons_zero]; exact rfl) (Or.inl ⟨rfl, ?_⟩) ?_
  rotate_left
  · (intro w hSw; have hSx := HFA.out _ hSw; (try dsimp only at hSx); clear hSw; go_simp) <;> (with_reducible rfl)
  simp only [Act.put, List.setIfInBounds_toArray, List.set_cons_zero, List.set_cons_succ]
  refine walkX_take (o := _) (v := ?_) (by rw [HOPS.out]; simp only [List.getElem?_toArray, List.getElem?_cons_succ, List.getElem?_cons_zero]; exact rfl) (Or.inl ⟨rfl, ?_⟩) ?_
  rotate_left
  · (intro w hSw; have hSx := HFA.out _ hSw; (try dsimp only at hSx); clear hSw; go_simp) <;> (with_reducible rfl)
  simp only [Act.put, List.setIfInBounds_toArray, List.set_cons_zero, List.set_cons_succ]
  refine walkX_take (o := _) (v := ?_) (by rw [HOPS.out]; simp only [List.getElem?_toArray, List.getElem?_cons_succ, List.getElem?_cons_zero]; exact rfl) (Or.inl ⟨rfl, ?_⟩) ?_
  rotate_left
  · (intro w hSw; have hSx := HFA.out _ hSw; (try dsimp only at hSx); clear hSw; go_simp) <;> (with_reducible rfl)
  simp only [Act.put, List.setIfInBounds_toArray, List.set_cons_zero, List.set_cons_succ]
  refine walkX_take (o := _) (v := ?_) (by rw [HOPS.out]; simp only [List.getElem?_toArray, List.getElem?_cons_succ, List.getElem?_cons_zero]; exact rfl) (Or.inl ⟨rfl, ?_⟩) ?_
  rotate_left
  · (intro w hSw; have hSx := HFA.out _ hSw; (try dsimp only at hSx); clear hSw; go_simp) <;> (with_reducible rfl)
  simp only [Act.put, List.setIfInBounds_toArray, List.set_cons_zero, List.set_cons_succ]
  refine walkX_take (o := _) (v := ?_) (by rw [HOPS.out]; simp only [List.getElem?_toArray, List.getElem?_cons_succ, List.getElem?_cons_zero]; exact rfl) (Or.inl ⟨rfl, ?_⟩) ?_
  rotate_left
  · (intro w hSw; have hSx := HFA.out _ hSw; (try dsimp only at hSx); clear hSw; go_simp) <;> (with_reducible rfl)
  simp only [Act.put, List.setIfInBounds_toArray, List.set_cons_zero, List.set_cons_succ]
  refine walkX_take (o := _) (v := ?_) (by rw [HOPS.out]; simp only [List.getElem?_toArray, List.getElem?_cons_succ, List.getElem?_cons_zero]; exact rfl) (Or.inl ⟨rfl, ?_⟩) ?_
  rotate_left
  · (intro w hSw; have hSx := HFA.out _ hSw; (try dsimp only at hSx); clear hSw; go_simp) <;> (with_reducible rfl)
  simp only [Act.put, List.setIfInBounds_toArray, List.set_cons_zero, List.set_cons_succ]
  refine walkX_take (o := _) (v := ?_) (by rw [HOPS.out]; simp only [List.getElem?_toArray, List.getElem?_cons_succ, List.getElem?_cons_zero]; exact rfl) (Or.inl ⟨rfl, ?_⟩) ?_
  rotate_left
  · (intro w hSw; have hSx := HFA.out _ hSw; (try dsimp only at hSx); clear hSw; go_simp) <;> (with_reducible rfl)
  simp only [Act.put, List.setIfInBounds_toArray, List.set_cons_zero, List.set_cons_succ]
  refine walkX_take (o := _) (v := ?_) (by rw [HOPS.out]; simp only [List.getElem?_toArray, List.getElem?_cons_succ, List.getElem?_cons_zero]; exact rfl) (Or.inl ⟨rfl, ?_⟩) ?_
  rotate_left
  · (intro w hSw; have hSx := HFA.out _ hSw; (try dsimp only at hSx); clear hSw; go_simp) <;> (with_reducible rfl)
  simp only [Act.put, List.setIfInBounds_toArray, List.set_cons_zero, List.set_cons_succ]
  refine walkX_take (o := _) (v := ?_) (by rw [HOPS.out]; simp only [List.getElem?_toArray, List.getElem?_cons_succ, List.getElem?_cons_zero]; exact rfl) (Or.inl ⟨rfl, ?_⟩) ?_
  rotate_left
  · (intro w hSw; have hSx := HFA.out _ hSw; (try dsimp only at hSx); clear hSw; go_simp) <;> (with_reducible rfl)
  simp only [Act.put, List.setIfInBounds_toArray, List.set_cons_zero, List.set_cons_succ]
  refine walkX_take (o := _) (v := ?_) (by rw [HOPS.out]; simp only [List.getElem?_toArray, List.getElem?_cons_succ, List.getElem?_cons_zero]; exact rfl) (Or.inl ⟨rfl, ?_⟩) ?_
  rotate_left
  · (intro w hSw; have hSx := HFA.out _ hSw; (try dsimp only at hSx); clear hSw; go_simp) <;> (with_reducible rfl)
  simp only [Act.put, List.setIfInBounds_toArray, List.set_cons_zero, List.set_cons_succ]
  refine walkX_take (o := _) (v := ?_) (by rw [HOPS.out]; simp only [List.getElem?_toArray, List.getElem?_cons_succ, List.getElem?_cons_zero]; exact rfl) (Or.inl ⟨rfl, ?_⟩) ?_
  rotate_left
  · (intro w hSw; have hSx := HFA.out _ hSw; (try dsimp only at hSx); clear hSw; go_simp) <;> (with_reducible rfl)
  simp only [Act.put, List.setIfInBounds_toArray, List.set_cons_zero, List.set_cons_succ]
  refine walkX_take (o := _) (v := ?_) (by rw [HOPS.out]; simp only [List.getElem?_toArray, List.getElem?_cons_succ, List.getElem?_cons_zero]; exact rfl) (Or.inl ⟨rfl, ?_⟩) ?_
  rotate_left
  · (intro w hSw; have hSx := HFA.out _ hSw; (try dsimp only at hSx); clear hSw; go_simp) <;> (with_reducible rfl)
  simp only [Act.put, List.setIfInBounds_toArray, List.set_cons_zero, List.set_cons_succ]
  refine walkX_take (o := _) (v := ?_) (by rw [HOPS.out]; simp only [List.getElem?_toArray, List.getElem?_cons_succ, List.getElem?_cons_zero]; exact rfl) (Or.inl ⟨rfl, ?_⟩) ?_
  rotate_left
  · (intro w hSw; have hSx := HFA.out _ hSw; (try dsimp only at hSx); clear hSw; go_simp) <;> (with_reducible rfl)
  simp only [Act.put, List.setIfInBounds_toArray, List.set_cons_zero, List.set_cons_succ]
  refine walkX_take (o := _) (v := ?_) (by rw [HOPS.out]; simp only [List.getElem?_toArray, List.getElem?_cons_succ, List.getElem?_cons_zero]; exact rfl) (Or.inl ⟨rfl, ?_⟩) ?_
  rotate_left
  · (intro w hSw; have hSx := HFA.out _ hSw; (try dsimp only at hSx); clear hSw; go_simp) <;> (with_reducible rfl)
  simp only [Act.put, List.setIfInBounds_toArray, List.set_cons_zero, List.set_cons_succ]
  refine walkX_take (o := _) (v := ?_) (by rw [HOPS.out]; simp only [List.getElem?_toArray, List.getElem?_cons_succ, List.getElem?_cons_zero]; exact rfl) (Or.inl ⟨rfl, ?_⟩) ?_
  rotate_left
  · (intro w hSw; have hSx := HFA.out _ hSw; (try dsimp only at hSx); clear hSw; go_simp) <;> (with_reducible rfl)
  simp only [Act.put, List.setIfInBounds_toArray, List.set_cons_zero, List.set_cons_succ]
  refine walkX_take (o := _) (v := ?_) (by rw [HOPS.out]; simp only [List.getElem?_toArray, List.getElem?_cons_succ, List.getElem?_cons_zero]; exact rfl) (Or.inl ⟨rfl, ?_⟩) ?_
  rotate_left
  · (intro w hSw; have hSx := HFA.out _ hSw; (try dsimp only at hSx); clear hSw; go_simp) <;> (with_reducible rfl)
  simp only [Act.put, List.setIfInBounds_toArray, List.set_cons_zero, List.set_cons_succ]
  refine walkX_take (o := _) (v := ?_) (by rw [HOPS.out]; simp only [List.getElem?_toArray, List.getElem?_cons_succ, List.getElem?_cons_zero]; exact rfl) (Or.inl ⟨rfl, ?_⟩) ?_
  rotate_left
  · (intro w hSw; have hSx := HFA.out _ hSw; (try dsimp only at hSx); clear hSw; go_simp) <;> (with_reducible rfl)
  simp only [Act.put, List.setIfInBounds_toArray, List.set_cons_zero, List.set_cons_succ]
  refine walkX_take (o := _) (v := ?_) (by rw [HOPS.out]; simp only [List.getElem?_toArray, List.getElem?_cons_succ, List.getElem?_cons_zero]; exact rfl) (Or.inl ⟨rfl, ?_⟩) ?_
  rotate_left
  · (intro w hSw; have hSx := HFA.out _ hSw; (try dsimp only at hSx); clear hSw; go_simp) <;> (with_reducible rfl)
  simp only [Act.put, List.setIfInBounds_toArray, List.set_cons_zero, List.set_cons_succ]
  refine walkX_take (o := _) (v := ?_) (by rw [HOPS.out]; simp only [List.getElem?_toArray, List.getElem?_cons_succ, List.getElem?_cons_zero]; exact rfl) (Or.inl ⟨rfl, ?_⟩) ?_
  rotate_left
  · (intro w hSw; have hSx := HFA.out _ hSw; (try dsimp only at hSx); clear hSw; go_simp) <;> (with_reducible rfl)
  simp only [Act.put, List.setIfInBounds_toArray, List.set_cons_zero, List.set_cons_succ]
  refine walkX_take (o := _) (v := ?_) (by rw [HOPS.out]; simp only [List.getElem?_toArray, List.getElem?_cons_succ, List.getElem?_cons_zero]; exact rfl) (Or.inl ⟨rfl, ?_⟩) ?_
  rotate_left
  · (intro w hSw; have hSx := HFA.out _ hSw; (try dsimp only at hSx); clear hSw; go_simp) <;> (with_reducible rfl)
  simp only [Act.put, List.setIfInBounds_toArray, List.set_cons_zero, List.set_cons_succ]
  refine walkX_take (o := _) (v := ?_) (by rw [HOPS.out]; simp only [List.getElem?_toArray, List.getElem?_cons_succ, List.getElem?_cons_zero]; exact rfl) (Or.inl ⟨rfl, ?_⟩) ?_
  rotate_left
  · (intro w hSw; have hSx := HFA.out _ hSw; (try dsimp only at hSx); clear hSw; go_simp) <;> (with_reducible rfl)
  simp only [Act.put, List.setIfInBounds_toArray, List.set_cons_zero, List.set_cons_succ]
  refine walkX_take (o := _) (v := ?_) (by rw [HOPS.out]; simp only [List.getElem?_toArray, List.getElem?_cons_succ, List.getElem?_cons_zero]; exact rfl) (Or.inl ⟨rfl, ?_⟩) ?_
  rotate_left
  · (intro w hSw; have hSx := HFA.out _ hSw; (try dsimp only at hSx); clear hSw; go_simp) <;> (with_reducible rfl)
  simp only [Act.put, List.setIfInBounds_toArray, List.set_cons_zero, List.set_cons_succ]
  refine walkX_take (o := _) (v := ?_) (by rw [HOPS.out]; simp only [List.getElem?_toArray, List.getElem?_cons_succ, List.getElem?_cons_zero]; exact rfl) (Or.inl ⟨rfl, ?_⟩) ?_
  rotate_left
  · (intro w hSw; have hSx := HFA.out _ hSw; (try dsimp only at hSx); clear hSw; go_simp) <;> (with_reducible rfl)
  simp only [Act.put, List.setIfInBounds_toArray, List.set_cons_zero, List.set_cons_succ]
  refine walkX_take (o := _) (v := ?_) (by rw [HOPS.out]; simp only [List.getElem?_toArray, List.getElem?_cons_succ, List.getElem?_cons_zero]; exact rfl) (Or.inl ⟨rfl, ?_⟩) ?_
  rotate_left
  · (intro w hSw; have hSx := HFA.out _ hSw; (try dsimp only at hSx); clear hSw; go_simp) <;> (with_reducible rfl)
  simp only [Act.put, List.setIfInBounds_toArray, List.set_cons_zero, List.set_cons_succ]
  refine walkX_take (o := _) (v := ?_) (by rw [HOPS.out]; simp only [List.getElem?_toArray, List.getElem?_cons_succ, List.getElem?_cons_zero]; exact rfl) (Or.inl ⟨rfl, ?_⟩) ?_
  rotate_left
  · (intro w hSw; have hSx := HFA.out _ hSw; (try dsimp only at hSx); clear hSw; go_simp) <;> (with_reducible rfl)
  simp only [Act.put, List.setIfInBounds_toArray, List.set_cons_zero, List.set_cons_succ]
  refine walkX_take (o := _) (v := ?_) (by rw [HOPS.out]; simp only [List.getElem?_toArray, List.getElem?_cons_succ, List.getElem?_cons_zero]; exact rfl) (Or.inl ⟨rfl, ?_⟩) ?_
  rotate_left
  · (intro w hSw; have hSx := HFA.out _ hSw; (try dsimp only at hSx); clear hSw; go_simp) <;> (with_reducible rfl)
  simp only [Act.put, List.setIfInBounds_toArray, List.set_cons_zero, List.set_cons_succ]
  refine walkX_take (o := _) (v := ?_) (by rw [HOPS.out]; simp only [List.getElem?_toArray, List.getElem?_cons_succ, List.getElem?_cons_zero]; exact rfl) (Or.inl ⟨rfl, ?_⟩) ?_
  rotate_left
  · (intro w hSw; have hSx := HFA.out _ hSw; (try dsimp only at hSx); clear hSw; go_simp) <;> (with_reducible rfl)
  simp only [Act.put, List.setIfInBounds_toArray, List.set_cons_zero, List.set_cons_succ]
  refine walkX_call (o := _) (by rw [HOPS.out]; simp only [List.getElem?_toArray, List.getElem?_cons_succ, List.getElem?_cons_zero]; exact rfl) (fun K HK => ?_)
  refine step_invoke rfl "aqueduct/stream.room" (.tmp 9) #[] #[] rfl (.iface st su) (by simp [Act.eval]) #[] (by simp [Act.eval]) (sto_room (HH.out.keep0 (g0.then0 fd)).s) ?_
  rintro e w1 ⟨rfl, f1⟩
  have g1 := (g0.then0 fd).then0 f1
  refine ⟨_, rfl, ?_⟩
  refine HK.out (fun w' => Fr [] w w') _ _ (fun _ h => h) (g1) ?_
  clear HK K
  simp only [Act.put, List.setIfInBounds_toArray, List.set_cons_zero, List.set_cons_succ]
  refine walkX_call (o := _) (by rw [HOPS.out]; simp only [List.getElem?_toArray, List.getElem?_cons_succ, List.getElem?_cons_zero]; exact rfl) (fun K HK => ?_)
  refine step_invoke rfl "aqueduct/stream.held" (.tmp 14) #[] #[] rfl (.iface st su) (by simp [Act.eval]) #[] (by simp [Act.eval]) (sto_held (HH.out.keep0 g1).s) ?_
  rintro e w2 ⟨u, rfl, f2, o2⟩
  have g2 := g1.then0 f2
  refine ⟨_, rfl, ?_⟩
  refine HK.out (fun w' => Fr [] w w') _ _ (fun _ h => h) (g2) ?_
  clear HK K
  simp only [Act.put, List.setIfInBounds_toArray, List.set_cons_zero, List.set_cons_succ]
  refine walkX_call (o := _) (by rw [HOPS.out]; simp only [List.getElem?_toArray, List.getElem?_cons_succ, List.getElem?_cons_zero]; exact rfl) (fun K HK => ?_)
  refine step_call rfl 89 #[(.tmp 23)] #[57] rfl HEB.out #[.agg #[.slice a P.length cap, .int .i64 (tot P)]] (by simp [Act.eval]) (rope_bytes (HH.out.keep0 g2).p) ?_
  rintro e w3 ⟨u', rfl, f3, o3⟩
  have g3 := g2.then0 f3
  obtain ⟨ga, gc, rfl, _⟩ := o2.formB
  obtain ⟨ha, hc, rfl, _⟩ := o3.formB
  have hy3 := f3.keep (f2.keep (f1.keep (fd.keep HX.out (by simp)) (by simp)) (by simp)) (by simp)
  refine ⟨_, rfl, ?_⟩
  refine HK.out (fun w' => Fr [] w w') _ _ (fun _ h => h) (g3) ?_
  clear HK K
  simp only [Act.put, List.setIfInBounds_toArray, List.set_cons_zero, List.set_cons_succ]
  refine walkX_take (o := _) (v := ?_) (by rw [HOPS.out]; simp only [List.getElem?_toArray, List.getElem?_cons_succ, List.getElem?_cons_zero]; exact rfl) (Or.inl ⟨rfl, ?_⟩) ?_
  rotate_left
  · (intro w hSw; have hSx := HFA.out _ hSw; (try dsimp only at hSx); clear hSw; go_simp) <;> (with_reducible rfl)
  simp only [Act.put, List.setIfInBounds_toArray, List.set_cons_zero, List.set_cons_succ]
  refine walkX_tail ?_
  refine walkTail_step (o := _) (by rw [HOPS.out]; simp only [List.getElem?_toArray, List.getElem?_cons_succ, List.getElem?_cons_zero]; exact rfl) (fun K HK => ?_)
  refine step_store_row rfl 41 (.tmp 2) (.tmp 39) rfl w.heap.size #[.int .i64 m.c, .slice ga m.q.length gc, .bool m.busy, .slice ha (List.length P.flatten) hc, .int .i64 m.acc, .int .i64 m.w, .int .i64 m.r] (by simp [Act.eval]) (by simp [Act.eval]) _ _ hy3 (by kernel_rfl) rfl (by simp [Value.oneCell']) ?_
  intro wf ff qf
  refine HK.out _ _ ?_
  clear HK K
  try simp only [Act.put, List.setIfInBounds_toArray, List.set_cons_zero, List.set_cons_succ]
  refine walkTail_done ?_
  clear HOPS OPS
  have HO2 := Lib.hid (o2.keep (f3.trans ff (U := [w.heap.size]) (by simp) (fun _ h => .inl h)) (fun k e hm => by simp at hm; have := (o2.lt k e).1; have := g1.size; have := fd.size; have := f1.size; omega))
  have HO3 := Lib.hid (o3.keep ff (fun k e hm => by simp at hm; have := (o3.lt k e).1; have := g1.size; have := f1.size; have := f2.size; have := fd.size; omega))
  have hz := g1.size
  have hz2 := g2.size
  have HG := Lib.hid (g3.trans ff (U := []) (by simp) (fun x hx => .inr (by simp at hx; omega)))
  obtain ⟨x0, x1, x2, x3, x4, x5, x6⟩ : wf.cell? ⟨w.heap.size, 0, none⟩ = some (.int .i64 m.c) ∧ wf.cell? ⟨w.heap.size, 1, none⟩ = some (.slice ga m.q.length gc) ∧ wf.cell? ⟨w.heap.size, 2, none⟩ = some (.bool m.busy) ∧ wf.cell? ⟨w.heap.size, 3, none⟩ = some (.slice ha (List.length P.flatten) hc) ∧ wf.cell? ⟨w.heap.size, 4, none⟩ = some (.int .i64 m.acc) ∧ wf.cell? ⟨w.heap.size, 5, none⟩ = some (.int .i64 m.w) ∧ wf.cell? ⟨w.heap.size, 6, none⟩ = some (.int .i64 m.r) := ⟨cell_of qf, cell_of qf, cell_of qf, cell_of qf, cell_of qf, cell_of qf, cell_of qf⟩
  have HQF := Lib.hid qf
  clear qf ff o2 o3 hy3 f1 f2 f3 g1 g2 g3 fd HFA HEB
  go_wp2_with fail
  obtain ⟨ds, hds⟩ : ∃ d, Try.prog.underlying 41 = some d := ⟨_, Try.underlying41⟩
  refine bodyPost_ret (v := .agg #[.int .i64 m.c, .slice ga m.q.length gc, .bool m.busy, .slice ha (List.length P.flatten) hc, .int .i64 m.acc, .int .i64 m.w, .int .i64 m.r]) (by simp [results, Try.results42, go_sem, x0, x1, x2, x3, x4, x5, x6]) rfl ?_
  refine ⟨_, rfl, HG.out, _, _, rfl, HO2.out.mono hz, ?_⟩
  rw [← HE.out]
  exact HO3.out.mono hz2
end
end Go.Proofs.Ytdoamelhclnphaa

namespace Go.Proofs.Ytdoamelhclnphaa
open Go.RowKit
set_option maxRecDepth 100000

theorem take_ne {l : List UInt8} (h : l ≠ []) {k : Nat} (hk : 0 < k) : l.take k ≠ [] := by
  cases l with
  | nil => exact absurd rfl h
  | cons a l =>
    obtain ⟨j, rfl⟩ : ∃ j, k = j + 1 := ⟨k - 1, by omega⟩
    simp
theorem read_A {m : SM} (h : SOk m) (hb : m.busy = true) (hw : m.w = 0) (hr : m.r = 0) {n : Int} (h1 : 0 < n) (h2 : n ≤ 65536) :
    readM m n = ⟨fillM { takeM m n.toNat with acc := m.acc + (takeN m n.toNat : Nat) }, takeO m n.toNat, if takeO m n.toNat = [] then 16 else 0⟩ := by
  have hn : ¬ (n < 0 ∨ 65536 < n) := by omega
  have hn0 : n.toNat ≠ 0 := by omega
  have hid := fillM_id h
  have hok := readM_ok h n
  unfold readM at hok ⊢
  rw [if_neg hn, if_neg (by simp [hr]), if_neg (by omega)] at hok ⊢
  unfold takeM takeO takeN
  by_cases hc : m.c = 0
  · have hq : m.q = [] := List.eq_nil_of_length_eq_zero (by have := h.q1; omega)
    rw [if_pos hc, if_pos hc, if_pos hc]
    rw [if_neg (by simp [hq])] at hok ⊢
    by_cases hrs : m.rest = []
    · rw [if_neg (by simp [hrs]), if_neg (by simp [hw])]
      have e : ({ m with rest := m.rest.drop n.toNat, acc := m.acc + ((min n.toNat m.rest.length : Nat) : Int) } : SM) = m := by
        rw [hrs]
        simp
        obtain ⟨c, q, busy, rest, acc, w, r⟩ := m
        dsimp only at *
        rw [hrs]
      rw [e, hid, hrs]
      simp
    · rw [if_pos ⟨hc, hb, hw, hrs⟩] at hok ⊢
      rw [fillM_id hok, if_neg (take_ne hrs (by omega))]
  · rw [if_neg hc, if_neg hc, if_neg hc]
    have e0 : ({ ({ m with q := m.q.drop n.toNat } : SM) with acc := m.acc + ((0 : Nat) : Int) } : SM) = { m with q := m.q.drop n.toNat } := by simp
    rw [e0]
    by_cases hq : m.q = []
    · rw [if_neg (by simp [hq]), if_neg (by simp [hc]), if_neg (by simp [hw])]
      have e : ({ m with q := m.q.drop n.toNat } : SM) = m := by
        obtain ⟨c, q, busy, rest, acc, w, r⟩ := m
        dsimp only at *
        rw [hq]
        simp
      rw [e, hid, hq]
      simp
    · rw [if_pos hq, if_neg (take_ne hq (by omega))]
theorem read_B {m : SM} (h : SOk m) (hbw : ¬ (m.busy = true ∧ m.w = 0)) (hr : m.r = 0) {n : Int} (h1 : 0 < n) (h2 : n ≤ 65536) :
    readM m n = ⟨fillM (takeM0 m n.toNat), m.q.take n.toNat, if m.q.take n.toNat = [] then (if m.w ≠ 0 then m.w else 16) else 0⟩ := by
  have hn : ¬ (n < 0 ∨ 65536 < n) := by omega
  have hn0 : n.toNat ≠ 0 := by omega
  rw [show takeM0 m n.toNat = { m with q := m.q.drop n.toNat } from rfl]
  unfold readM
  rw [if_neg hn, if_neg (by simp [hr]), if_neg (by omega)]
  by_cases hq : m.q = []
  · rw [if_neg (by simp [hq]), if_neg (by rintro ⟨_, h3, h4, _⟩; exact hbw ⟨h3, h4⟩)]
    have e : ({ m with q := m.q.drop n.toNat } : SM) = m := by
      obtain ⟨c, q, busy, rest, acc, w, r⟩ := m
      dsimp only at *
      rw [hq]
      simp
    rw [e, fillM_id h, hq, List.take_nil, if_pos rfl]
    split <;> rfl
  · rw [if_pos hq, if_neg (take_ne hq (by omega))]
theorem take_acc (m : SM) (k : Nat) : (takeM m k).acc = m.acc := by unfold takeM; split <;> rfl
theorem take_w (m : SM) (k : Nat) : (takeM m k).w = m.w := by unfold takeM; split <;> rfl

section
variable {w : World} {N : Nat → Prop} {L : List Nat} {b : Nat} {m : SM}
theorem StR.there0 {sv : Value} {a : Option Addr} {cap : Nat} {P : Parts} (h1 : StR w N L b m sv a cap P) : StR w (fun x => N x ∧ x < w.heap.size) L b m sv a cap P :=
  ⟨h1.k, h1.s, h1.p.there, h1.e, fun h => h1.nb h.1, fun x hx h => h1.nl x hx h.1, h1.bl⟩
def ReadPost (w : World) (N : Nat → Prop) (L : List Nat) (b : Nat) (r : SR) (e : Ending) (w' : World) : Prop :=
  ∃ u, e = .returned (.tuple #[u, .int .i64 r.err]) ∧ Fr (b :: L) w w' ∧ Ow w' w.heap.size 5 u ((bi r.out).map (Value.int .u8)) ∧ ∃ N' : Nat → Prop, (∀ x, N' x → (N x ∨ w.heap.size ≤ x) ∧ u.ownBlock ≠ some x) ∧ St w' N' L b r.m
set_option maxHeartbeats 4000000 in
theorem st_read (h : St w N L b m) (n : Int) :
    Calls Try.prog 35 #[.pointer (some ⟨b, 0, none⟩), .int .i64 n] w (ReadPost w N L b (readM m n)) := by
  obtain ⟨hok, sv, a, cap, P, h⟩ := h
  obtain ⟨st, su, rfl⟩ := h.s.form
  have HH := Lib.hid h
  have HK := Lib.hid hok
  have HZ := Lib.hid (st_none h)
  obtain ⟨c0, c1, c2, c3, c4, c5, c6⟩ := h.k.cells
  have plain : ∀ k : Int, readM m n = ⟨m, [], k⟩ → (Calls Try.prog 35 #[.pointer (some ⟨b, 0, none⟩), .int .i64 n] w fun e w' => e = .returned (.tuple #[.slice none 0 0, .int .i64 k]) ∧ Fr [] w w') →
      Calls Try.prog 35 #[.pointer (some ⟨b, 0, none⟩), .int .i64 n] w (ReadPost w N L b (readM m n)) := fun k e hc => by
    rw [e]
    exact hc.mono fun e w' ⟨he, hf⟩ => ⟨_, he, hf.mono (by simp), Ow.nil _ _ _, N, fun x hx => ⟨.inl hx, by simp [Value.ownBlock]⟩, hok, _, _, _, _, h.keep0 hf⟩
  clear h
  by_cases h1 : n < 0
  · refine plain 2 (by unfold readM; rw [if_pos (.inl h1)]) ?_
    clear plain hok
    go_enter Try.func35, Try.ntmps35
    go_wp2_with fail
    refine HZ.out.mono ?_
    rintro e w' ⟨rfl, rfl⟩
    go_wp2_with fail
    go_ret2
    exact ⟨rfl, Fr.refl _ _⟩
  by_cases h2 : 65536 < n
  · have h1' : 0 ≤ n := by omega
    clear h1
    refine plain 2 (by unfold readM; rw [if_pos (.inr h2)]) ?_
    clear plain hok
    go_enter Try.func35, Try.ntmps35
    go_wp2_with fail
    refine HZ.out.mono ?_
    rintro e w' ⟨rfl, rfl⟩
    go_wp2_with fail
    go_ret2
    exact ⟨rfl, Fr.refl _ _⟩
  have h1' : 0 ≤ n := by omega
  have h2' : n ≤ 65536 := by omega
  by_cases h3 : m.r ≠ 0
  · obtain ⟨n1, n2⟩ : (m.r == 0) = false ∧ (m.r != 0) = true := by simp [h3]
    refine plain 14 (by unfold readM; rw [if_neg (by omega), if_pos h3]) ?_
    clear plain hok
    go_enter Try.func35, Try.ntmps35
    go_wp2_with fail
    refine HZ.out.mono ?_
    rintro e w' ⟨rfl, rfl⟩
    go_wp2_with fail
    go_ret2
    exact ⟨rfl, Fr.refl _ _⟩
  replace h3 : m.r = 0 := by omega
  rw [h3] at c6
  by_cases h4 : n = 0
  · subst h4
    refine plain 0 (by unfold readM; rw [if_neg (by omega), if_neg (by simp [h3]), if_pos rfl]) ?_
    clear plain hok
    go_enter Try.func35, Try.ntmps35
    go_wp2_with fail
    refine HZ.out.mono ?_
    rintro e w' ⟨rfl, rfl⟩
    go_wp2_with fail
    go_ret2
    exact ⟨rfl, Fr.refl _ _⟩
  have hn0 : (n == 0) = false := by simpa using h4
  have hp : 0 < n := by omega
  have hbl := lt_of_heap HH.out.k
  clear plain c4
  have hwk0 : wrap64 (m.acc + ((0 : Nat) : Int)) = m.acc + ((0 : Nat) : Int) := IntWalk.wrap64_in _ (by have := hok.a0; have := hok.sum; omega)
  have hbd0 : 0 ≤ m.acc + ((0 : Nat) : Int) ∧ m.acc + ((0 : Nat) : Int) ≤ 65536 := by have := hok.a0; have := hok.sum; omega
  by_cases hA : m.busy = true ∧ m.w = 0
  · obtain ⟨hb, hmw⟩ := hA
    rw [read_A hok hb hmw h3 hp h2']
    rw [hb] at c1
    have HO := Lib.hid (st_open HH.out)
    have hop : opM m = true := by unfold opM; rw [hmw, h3]; rfl
    rw [hop] at HO
    obtain ⟨f, rv, hm, he, hc⟩ := (sto_take HH.out h1').at_
    simp [go_sem] at hm
    have HC := Lib.hid hc
    have hKK : takeN m n.toNat ≤ m.rest.length := by unfold takeN; split <;> omega
    have hwk : wrap64 (m.acc + ((takeN m n.toNat : Nat) : Int)) = m.acc + ((takeN m n.toNat : Nat) : Int) := IntWalk.wrap64_in _ (by have := hok.a0; have := hok.sum; omega)
    have hbd : 0 ≤ m.acc + ((takeN m n.toNat : Nat) : Int) ∧ m.acc + ((takeN m n.toNat : Nat) : Int) ≤ 65536 := by have := hok.a0; have := hok.sum; omega
    have hacc := take_acc m n.toNat
    have htw := take_w m n.toNat
    rw [hmw] at htw
    have hok2 := readM_ok hok n
    rw [read_A hok hb hmw h3 hp h2'] at hok2
    have HK2 := Lib.hid hok2
    have HB := Lib.hid (And.intro hacc (And.intro hbd hwk))
    have HTW := Lib.hid htw
    have HWL := Lib.hid HH.out.lts.2.1
    rw [hmw] at c5
    clear hc hok hop hb hmw hok2 h3 h4 h2 hKK hwk hbd hacc hwk0 hbd0 htw
    generalize takeO m n.toNat = out at *
    generalize takeM m n.toNat = M2 at *
    generalize takeN m n.toNat = kk at *
    generalize hE : (if out = [] then (16 : Int) else 0) = E
    have HE := Lib.hid hE
    clear hE
    go_enter Try.func35, Try.ntmps35
    go_wp2_with fail
    refine HZ.out.mono ?_
    rintro e w' ⟨rfl, rfl⟩
    go_wp2_with fail
    refine HO.out.mono ?_
    rintro e w' ⟨rfl, rfl⟩
    go_wp2_with fail
    refine HC.out.mono ?_
    rintro e w2 ⟨Z, u, a', cap', P', rfl, f2, hZ, ou, h2⟩
    clear HC hm he HZ c0 c1 c2 c3 c5 c6 HO
    obtain ⟨hacc, hbd, hwk⟩ := HB.out
    obtain ⟨N2, hN2, h2⟩ : ∃ N2 : Nat → Prop, (∀ x, N2 x → (N x ∨ w.heap.size ≤ x) ∧ x < Z) ∧ StR w2 N2 L b M2 (.iface st su) a' cap' P' := ⟨_, fun x hx => ⟨(by rcases hx.1 with h | h; exact .inl (by first | exact h | exact h.1); exact .inr (by omega)), hx.2⟩, h2⟩
    have HN2 := Lib.hid hN2
    clear hN2
    obtain ⟨hl1, hl2, _, _⟩ := h2.lts
    have k4 := h2.k.cells.c4
    have k4f := h2.k.free 4
    rw [hacc] at k4
    obtain ⟨ga, gc, rfl, _⟩ := ou.formB
    have HOU := Lib.hid ou
    have HULT := Lib.hid ou.lt
    obtain ⟨w3, hw3, f3, h3⟩ : ∃ W, w2.setCell ⟨b, 4, none⟩ (.int .i64 (m.acc + (kk : Int))) = W ∧ Fr [b] w2 W ∧ StR W N2 L b { M2 with acc := (m.acc + (kk : Int)) } (.iface st su) a' cap' P' := ⟨_, rfl, (Fr.refl _ _).setCell (.inl (by simp)) _, h2.k.acc _, h2.s.keep ((Fr.refl [b] _).setCell (.inl (by simp)) _) (fun y hy hm => by simp at hm; subst hm; exact h2.bl hy), h2.p.keep ((Fr.refl [b] _).setCell (.inl (by simp)) _) (fun y hy => by simp at hy; subst hy; exact h2.nb), h2.e, h2.nb, h2.nl, h2.bl⟩
    have HR := Lib.hid (st_refill h3 hbd)
    have HLL := Lib.hid hl2
    clear ou h2 h3 hbd hacc hl2
    go_wp2_with fail
    refine HR.out.mono ?_
    rintro e w4 ⟨rfl, f4, a4, cap4, P4, h4⟩
    clear HR hw3 k4 k4f hwk
    have k5 := h4.k.cells.c5
    rw [fill_w] at k5
    try dsimp only at k5
    rw [HTW.out] at k5
    have HFF := Lib.hid (And.intro f2 (And.intro f3 f4))
    have hs2 := f2.size
    have hs3 := f3.size
    have hs4 := f4.size
    have HH4 := Lib.hid h4
    clear h4 f2 f3 f4
    by_cases hout : out = []
    · have hlen : out.length = 0 := by rw [hout]; rfl
      have HLE := Lib.hid hlen
      have HOT := Lib.hid hout
      rw [hlen]
      clear hout hlen
      go_wp2_with fail
      go_ret2
      obtain ⟨f2, f3, f4'⟩ := HFF.out
      have f4 := f4'
      have HH5 := HH4.out
      unfold ReadPost
      dsimp only
      have hE := HE.out
      rw [if_pos HOT.out] at hE
      rw [← hE]
      refine ⟨.slice none 0 0, rfl, (f2.then (f3.mono (by simp))).then f4, by rw [HOT.out]; exact Ow.nil _ _ _, _, fun x hx => ⟨?_, by simp [Value.ownBlock]⟩, HK2.out, _, _, _, _, HH5⟩
      rcases hx with hx | hx
      · exact (HN2.out x hx).1
      · exact .inr (by omega)
    · have hlen : (0 : Int) < out.length := by have := List.length_pos_iff.2 hout; omega
      have HOT := Lib.hid hout
      clear hout
      go_wp2_with fail
      go_ret2
      obtain ⟨f2, f3, f4'⟩ := HFF.out
      have f4 := f4'
      have HH5 := HH4.out
      unfold ReadPost
      dsimp only
      have hE := HE.out
      rw [if_neg HOT.out] at hE
      rw [← hE]
      have hne : ∀ k, (Value.slice ga out.length gc).ownBlock = some k → k ∉ b :: L := fun k e hm => by
        have h5 := (HULT.out k e).1
        simp at hm
        rcases hm with rfl | hm
        · omega
        · have := HWL.out k hm; omega
      refine ⟨_, rfl, (f2.then (f3.mono (by simp))).then f4, ((HOU.out.keep f3 (fun k e hm => hne k e (by simp at hm; simp [hm]))).keep f4 hne).mono (by omega), _, fun x hx => ?_, HK2.out, _, _, _, _, HH5⟩
      rcases hx with hx | hx
      · exact ⟨(HN2.out x hx).1, fun e => by have := (HULT.out x e).1; have := (HN2.out x hx).2; omega⟩
      · exact ⟨.inr (by omega), fun e => by have := (HULT.out x e).2; omega⟩
  · have hok2 := readM_ok hok n
    rw [read_B hok hA h3 hp h2'] at hok2 ⊢
    have HK2 := Lib.hid hok2
    have hacc : (takeM0 m n.toNat).acc = m.acc := rfl
    have htw : (takeM0 m n.toNat).w = m.w := rfl
    obtain ⟨w0, hw0, f0, q0⟩ : ∃ W, w.alloc (.cells #[.slice none 0 0, .int .i64 0] 57) = W ∧ Fr [] w W ∧ W.heap[w.heap.size]? = some (.cells #[.slice none 0 0, .int .i64 0] 57 (0, 0)) := ⟨_, rfl, (Fr.refl _ _).alloc _, newA rfl⟩
    have HWL := Lib.hid HH.out.lts.2.1
    have h0 := (HH.out.there0).keep0 f0
    obtain ⟨f, rv, hm, he, hc⟩ := (sto_take0 h0 h1' q0 (by omega) (fun hm => by have := HWL.out _ hm; omega) (fun hn => by have := hn.2; omega)).at_
    simp [go_sem] at hm
    have HC := Lib.hid hc
    have d0 : w0.cell? ⟨b, 0, none⟩ = some (.iface st su) := h0.k.cells.c0
    have hs0 := f0.size
    have hz0 := lt_of_heap q0
    have HBB := Lib.hid (show ∀ w4, Fr (w.heap.size :: b :: L) w0 w4 → Fr (b :: L) w w4 from fun w4 f => f0.trans f (by simp) (fun x hx => by simp at hx ⊢; rcases hx with rfl | hx; exact .inr (Nat.le_refl _); exact .inl hx))
    have hwk : wrap64 m.acc = m.acc := by simpa using hwk0
    have hbd : 0 ≤ m.acc ∧ m.acc ≤ 65536 := by simpa using hbd0
    have HB := Lib.hid (And.intro hacc (And.intro hbd hwk))
    have HTW := Lib.hid htw
    generalize hout : m.q.take n.toNat = out at *
    have HOO := Lib.hid hout
    generalize hE : (if out = [] then (if m.w ≠ 0 then m.w else 16) else 0) = E at *
    have HE := Lib.hid hE
    have HO := Lib.hid (st_open HH.out)
    by_cases hb : m.busy = true
    · have hmw : m.w ≠ 0 := fun h => hA ⟨hb, h⟩
      have hop : opM m = false := by unfold opM; simp [hmw]
      rw [hop] at HO
      rw [hb] at c1
      have HMW := Lib.hid hmw
      obtain ⟨n1, n2⟩ : (m.w == 0) = false ∧ (m.w != 0) = true := by simp [hmw]
      clear hc hok hop hb hmw hok2 h3 h4 h2 hwk0 hbd0 htw hout hE hA hacc hwk hbd h0 q0 f0
      generalize hM2 : takeM0 m n.toNat = M2 at *
      have HM2 := Lib.hid hM2
      clear hM2
      go_enter Try.func35, Try.ntmps35
      go_wp2_with fail
      refine HZ.out.mono ?_
      rintro e w' ⟨rfl, rfl⟩
      go_wp2_with fail
      refine HO.out.mono ?_
      rintro e w' ⟨rfl, rfl⟩
      go_wp2_with fail
      refine HC.out.mono ?_
      rintro e w2 ⟨Z, u, a', cap', P', rfl, f2, hZ, ou, h2⟩
      clear HC hm he HZ c0 c1 c2 c3 c5 c6 HO d0
      obtain ⟨hacc, hbd, hwk⟩ := HB.out
      obtain ⟨N2, hN2, h2⟩ : ∃ N2 : Nat → Prop, (∀ x, N2 x → (N x ∨ w.heap.size ≤ x) ∧ x < Z) ∧ StR w2 N2 L b M2 (.iface st su) a' cap' P' := ⟨_, fun x hx => ⟨(by rcases hx.1 with h | h; exact .inl (by first | exact h | exact h.1); exact .inr (by omega)), hx.2⟩, h2⟩
      have HN2 := Lib.hid hN2
      clear hN2
      obtain ⟨hl1, hl2, _, _⟩ := h2.lts
      have k4 := h2.k.cells.c4
      have k4f := h2.k.free 4
      rw [hacc] at k4
      obtain ⟨ga, gc, rfl, _⟩ := ou.formB
      have HOU := Lib.hid ou
      have HULT := Lib.hid ou.lt
      obtain ⟨w3, hw3, f3, h3⟩ : ∃ W, w2.setCell ⟨b, 4, none⟩ (.int .i64 m.acc) = W ∧ Fr [b] w2 W ∧ StR W N2 L b { M2 with acc := m.acc } (.iface st su) a' cap' P' := ⟨_, rfl, (Fr.refl _ _).setCell (.inl (by simp)) _, h2.k.acc _, h2.s.keep ((Fr.refl [b] _).setCell (.inl (by simp)) _) (fun y hy hm => by simp at hm; subst hm; exact h2.bl hy), h2.p.keep ((Fr.refl [b] _).setCell (.inl (by simp)) _) (fun y hy => by simp at hy; subst hy; exact h2.nb), h2.e, h2.nb, h2.nl, h2.bl⟩
      have hme : ({ M2 with acc := m.acc } : SM) = M2 := by rw [← hacc]
      rw [hme] at h3
      have HR := Lib.hid (st_refill h3 (by rw [hacc]; exact hbd))
      clear hme
      have HLL := Lib.hid hl2
      clear ou h2 h3 hbd hacc hl2
      go_wp2_with fail
      refine HR.out.mono ?_
      rintro e w4 ⟨rfl, f4, a4, cap4, P4, h4⟩
      clear HR hw3 k4 k4f hwk
      have k5 := h4.k.cells.c5
      rw [fill_w] at k5
      try dsimp only at k5
      rw [HTW.out] at k5
      have HFF := Lib.hid (And.intro f2 (And.intro f3 f4))
      have hs2 := f2.size
      have hs3 := f3.size
      have hs4 := f4.size
      have HH4 := Lib.hid h4
      clear h4 f2 f3 f4
      by_cases hout : out = []
      · have hlen : out.length = 0 := by rw [hout]; rfl
        have HLE := Lib.hid hlen
        have HOT := Lib.hid hout
        rw [hlen]
        clear hout hlen
        go_wp2_with fail
        go_quiet (fail)
        go_wp2_with fail
        go_ret2
        obtain ⟨f2, f3, f4'⟩ := HFF.out
        have f4 := f4'.drewN nq
        have HH5 := HH4.out.keep0 ((Fr.refl _ _).drewN nq)
        unfold ReadPost
        dsimp only
        have hE := HE.out
        rw [if_pos HOT.out] at hE
        rw [if_pos HMW.out] at hE
        rw [← hE]
        refine ⟨.slice none 0 0, rfl, HBB.out _ (((f2.then (f3.mono (by simp))).then (f4.mono (fun x hx => .inl (List.mem_cons_of_mem _ hx))))), by rw [HOT.out]; exact Ow.nil _ _ _, _, fun x hx => ⟨?_, by simp [Value.ownBlock]⟩, HK2.out, _, _, _, _, HH5⟩
        rcases hx with hx | hx
        · exact (HN2.out x hx).1
        · exact .inr (by omega)
      · have hlen : (0 : Int) < out.length := by have := List.length_pos_iff.2 hout; omega
        have HOT := Lib.hid hout
        clear hout
        go_wp2_with fail
        go_ret2
        obtain ⟨f2, f3, f4'⟩ := HFF.out
        have f4 := f4'
        have HH5 := HH4.out
        unfold ReadPost
        dsimp only
        have hE := HE.out
        rw [if_neg HOT.out] at hE
        rw [← hE]
        have hne : ∀ k, (Value.slice ga out.length gc).ownBlock = some k → k ∉ b :: L := fun k e hm => by
          have h5 := (HULT.out k e).1
          simp at hm
          rcases hm with rfl | hm
          · omega
          · have := HWL.out k hm; omega
        refine ⟨_, rfl, HBB.out _ (((f2.then (f3.mono (by simp))).then (f4.mono (fun x hx => .inl (List.mem_cons_of_mem _ hx))))), ((HOU.out.keep f3 (fun k e hm => hne k e (by simp at hm; simp [hm]))).keep f4 hne).mono (by omega), _, fun x hx => ?_, HK2.out, _, _, _, _, HH5⟩
        rcases hx with hx | hx
        · exact ⟨(HN2.out x hx).1, fun e => by have := (HULT.out x e).1; have := (HN2.out x hx).2; omega⟩
        · exact ⟨.inr (by omega), fun e => by have := (HULT.out x e).2; omega⟩
    · have hb' : m.busy = false := by simpa using hb
      rw [hb'] at c1
      by_cases hmw : m.w ≠ 0
      · have HMW := Lib.hid hmw
        obtain ⟨n1, n2⟩ : (m.w == 0) = false ∧ (m.w != 0) = true := by simp [hmw]
        clear hc hok hb hb' hmw hok2 h3 h4 h2 hwk0 hbd0 htw hout hE hA hacc hwk hbd h0 q0 f0 HO
        generalize hM2 : takeM0 m n.toNat = M2 at *
        have HM2 := Lib.hid hM2
        clear hM2
        go_enter Try.func35, Try.ntmps35
        go_wp2_with fail
        refine HZ.out.mono ?_
        rintro e w' ⟨rfl, rfl⟩
        go_wp2_with fail
        refine HC.out.mono ?_
        rintro e w2 ⟨Z, u, a', cap', P', rfl, f2, hZ, ou, h2⟩
        clear HC hm he HZ c0 c1 c2 c3 c5 c6 d0
        obtain ⟨hacc, hbd, hwk⟩ := HB.out
        obtain ⟨N2, hN2, h2⟩ : ∃ N2 : Nat → Prop, (∀ x, N2 x → (N x ∨ w.heap.size ≤ x) ∧ x < Z) ∧ StR w2 N2 L b M2 (.iface st su) a' cap' P' := ⟨_, fun x hx => ⟨(by rcases hx.1 with h | h; exact .inl (by first | exact h | exact h.1); exact .inr (by omega)), hx.2⟩, h2⟩
        have HN2 := Lib.hid hN2
        clear hN2
        obtain ⟨hl1, hl2, _, _⟩ := h2.lts
        have k4 := h2.k.cells.c4
        have k4f := h2.k.free 4
        rw [hacc] at k4
        obtain ⟨ga, gc, rfl, _⟩ := ou.formB
        have HOU := Lib.hid ou
        have HULT := Lib.hid ou.lt
        obtain ⟨w3, hw3, f3, h3⟩ : ∃ W, w2.setCell ⟨b, 4, none⟩ (.int .i64 m.acc) = W ∧ Fr [b] w2 W ∧ StR W N2 L b { M2 with acc := m.acc } (.iface st su) a' cap' P' := ⟨_, rfl, (Fr.refl _ _).setCell (.inl (by simp)) _, h2.k.acc _, h2.s.keep ((Fr.refl [b] _).setCell (.inl (by simp)) _) (fun y hy hm => by simp at hm; subst hm; exact h2.bl hy), h2.p.keep ((Fr.refl [b] _).setCell (.inl (by simp)) _) (fun y hy => by simp at hy; subst hy; exact h2.nb), h2.e, h2.nb, h2.nl, h2.bl⟩
        have hme : ({ M2 with acc := m.acc } : SM) = M2 := by rw [← hacc]
        rw [hme] at h3
        have HR := Lib.hid (st_refill h3 (by rw [hacc]; exact hbd))
        clear hme
        have HLL := Lib.hid hl2
        clear ou h2 h3 hbd hacc hl2
        go_wp2_with fail
        refine HR.out.mono ?_
        rintro e w4 ⟨rfl, f4, a4, cap4, P4, h4⟩
        clear HR hw3 k4 k4f hwk
        have k5 := h4.k.cells.c5
        rw [fill_w] at k5
        try dsimp only at k5
        rw [HTW.out] at k5
        have HFF := Lib.hid (And.intro f2 (And.intro f3 f4))
        have hs2 := f2.size
        have hs3 := f3.size
        have hs4 := f4.size
        have HH4 := Lib.hid h4
        clear h4 f2 f3 f4
        by_cases hout : out = []
        · have hlen : out.length = 0 := by rw [hout]; rfl
          have HLE := Lib.hid hlen
          have HOT := Lib.hid hout
          rw [hlen]
          clear hout hlen
          go_wp2_with fail
          go_quiet (fail)
          go_wp2_with fail
          go_ret2
          obtain ⟨f2, f3, f4'⟩ := HFF.out
          have f4 := f4'.drewN nq
          have HH5 := HH4.out.keep0 ((Fr.refl _ _).drewN nq)
          unfold ReadPost
          dsimp only
          have hE := HE.out
          rw [if_pos HOT.out] at hE
          rw [if_pos HMW.out] at hE
          rw [← hE]
          refine ⟨.slice none 0 0, rfl, HBB.out _ (((f2.then (f3.mono (by simp))).then (f4.mono (fun x hx => .inl (List.mem_cons_of_mem _ hx))))), by rw [HOT.out]; exact Ow.nil _ _ _, _, fun x hx => ⟨?_, by simp [Value.ownBlock]⟩, HK2.out, _, _, _, _, HH5⟩
          rcases hx with hx | hx
          · exact (HN2.out x hx).1
          · exact .inr (by omega)
        · have hlen : (0 : Int) < out.length := by have := List.length_pos_iff.2 hout; omega
          have HOT := Lib.hid hout
          clear hout
          go_wp2_with fail
          go_ret2
          obtain ⟨f2, f3, f4'⟩ := HFF.out
          have f4 := f4'
          have HH5 := HH4.out
          unfold ReadPost
          dsimp only
          have hE := HE.out
          rw [if_neg HOT.out] at hE
          rw [← hE]
          have hne : ∀ k, (Value.slice ga out.length gc).ownBlock = some k → k ∉ b :: L := fun k e hm => by
            have h5 := (HULT.out k e).1
            simp at hm
            rcases hm with rfl | hm
            · omega
            · have := HWL.out k hm; omega
          refine ⟨_, rfl, HBB.out _ (((f2.then (f3.mono (by simp))).then (f4.mono (fun x hx => .inl (List.mem_cons_of_mem _ hx))))), ((HOU.out.keep f3 (fun k e hm => hne k e (by simp at hm; simp [hm]))).keep f4 hne).mono (by omega), _, fun x hx => ?_, HK2.out, _, _, _, _, HH5⟩
          rcases hx with hx | hx
          · exact ⟨(HN2.out x hx).1, fun e => by have := (HULT.out x e).1; have := (HN2.out x hx).2; omega⟩
          · exact ⟨.inr (by omega), fun e => by have := (HULT.out x e).2; omega⟩
      · have HMW := Lib.hid hmw
        have hmw' : m.w = 0 := by omega
        rw [hmw'] at HTW c5
        clear hc hok hb hb' hmw hmw' hok2 h3 h4 h2 hwk0 hbd0 htw hout hE hA hacc hwk hbd h0 q0 f0 HO
        generalize hM2 : takeM0 m n.toNat = M2 at *
        have HM2 := Lib.hid hM2
        clear hM2
        go_enter Try.func35, Try.ntmps35
        go_wp2_with fail
        refine HZ.out.mono ?_
        rintro e w' ⟨rfl, rfl⟩
        go_wp2_with fail
        refine HC.out.mono ?_
        rintro e w2 ⟨Z, u, a', cap', P', rfl, f2, hZ, ou, h2⟩
        clear HC hm he HZ c0 c1 c2 c3 c5 c6 d0
        obtain ⟨hacc, hbd, hwk⟩ := HB.out
        obtain ⟨N2, hN2, h2⟩ : ∃ N2 : Nat → Prop, (∀ x, N2 x → (N x ∨ w.heap.size ≤ x) ∧ x < Z) ∧ StR w2 N2 L b M2 (.iface st su) a' cap' P' := ⟨_, fun x hx => ⟨(by rcases hx.1 with h | h; exact .inl (by first | exact h | exact h.1); exact .inr (by omega)), hx.2⟩, h2⟩
        have HN2 := Lib.hid hN2
        clear hN2
        obtain ⟨hl1, hl2, _, _⟩ := h2.lts
        have k4 := h2.k.cells.c4
        have k4f := h2.k.free 4
        rw [hacc] at k4
        obtain ⟨ga, gc, rfl, _⟩ := ou.formB
        have HOU := Lib.hid ou
        have HULT := Lib.hid ou.lt
        obtain ⟨w3, hw3, f3, h3⟩ : ∃ W, w2.setCell ⟨b, 4, none⟩ (.int .i64 m.acc) = W ∧ Fr [b] w2 W ∧ StR W N2 L b { M2 with acc := m.acc } (.iface st su) a' cap' P' := ⟨_, rfl, (Fr.refl _ _).setCell (.inl (by simp)) _, h2.k.acc _, h2.s.keep ((Fr.refl [b] _).setCell (.inl (by simp)) _) (fun y hy hm => by simp at hm; subst hm; exact h2.bl hy), h2.p.keep ((Fr.refl [b] _).setCell (.inl (by simp)) _) (fun y hy => by simp at hy; subst hy; exact h2.nb), h2.e, h2.nb, h2.nl, h2.bl⟩
        have hme : ({ M2 with acc := m.acc } : SM) = M2 := by rw [← hacc]
        rw [hme] at h3
        have HR := Lib.hid (st_refill h3 (by rw [hacc]; exact hbd))
        clear hme
        have HLL := Lib.hid hl2
        clear ou h2 h3 hbd hacc hl2
        go_wp2_with fail
        refine HR.out.mono ?_
        rintro e w4 ⟨rfl, f4, a4, cap4, P4, h4⟩
        clear HR hw3 k4 k4f hwk
        have k5 := h4.k.cells.c5
        rw [fill_w] at k5
        try dsimp only at k5
        rw [HTW.out] at k5
        have HFF := Lib.hid (And.intro f2 (And.intro f3 f4))
        have hs2 := f2.size
        have hs3 := f3.size
        have hs4 := f4.size
        have HH4 := Lib.hid h4
        clear h4 f2 f3 f4
        by_cases hout : out = []
        · have hlen : out.length = 0 := by rw [hout]; rfl
          have HLE := Lib.hid hlen
          have HOT := Lib.hid hout
          rw [hlen]
          clear hout hlen
          go_wp2_with fail
          go_ret2
          obtain ⟨f2, f3, f4'⟩ := HFF.out
          have f4 := f4'
          have HH5 := HH4.out
          unfold ReadPost
          dsimp only
          have hE := HE.out
          rw [if_pos HOT.out] at hE
          rw [if_neg HMW.out] at hE
          rw [← hE]
          refine ⟨.slice none 0 0, rfl, HBB.out _ (((f2.then (f3.mono (by simp))).then (f4.mono (fun x hx => .inl (List.mem_cons_of_mem _ hx))))), by rw [HOT.out]; exact Ow.nil _ _ _, _, fun x hx => ⟨?_, by simp [Value.ownBlock]⟩, HK2.out, _, _, _, _, HH5⟩
          rcases hx with hx | hx
          · exact (HN2.out x hx).1
          · exact .inr (by omega)
        · have hlen : (0 : Int) < out.length := by have := List.length_pos_iff.2 hout; omega
          have HOT := Lib.hid hout
          clear hout
          go_wp2_with fail
          go_ret2
          obtain ⟨f2, f3, f4'⟩ := HFF.out
          have f4 := f4'
          have HH5 := HH4.out
          unfold ReadPost
          dsimp only
          have hE := HE.out
          rw [if_neg HOT.out] at hE
          rw [← hE]
          have hne : ∀ k, (Value.slice ga out.length gc).ownBlock = some k → k ∉ b :: L := fun k e hm => by
            have h5 := (HULT.out k e).1
            simp at hm
            rcases hm with rfl | hm
            · omega
            · have := HWL.out k hm; omega
          refine ⟨_, rfl, HBB.out _ (((f2.then (f3.mono (by simp))).then (f4.mono (fun x hx => .inl (List.mem_cons_of_mem _ hx))))), ((HOU.out.keep f3 (fun k e hm => hne k e (by simp at hm; simp [hm]))).keep f4 hne).mono (by omega), _, fun x hx => ?_, HK2.out, _, _, _, _, HH5⟩
          rcases hx with hx | hx
          · exact ⟨(HN2.out x hx).1, fun e => by have := (HULT.out x e).1; have := (HN2.out x hx).2; omega⟩
          · exact ⟨.inr (by omega), fun e => by have := (HULT.out x e).2; omega⟩
end
end Go.Proofs.Ytdoamelhclnphaa

namespace Go.Proofs.Ytdoamelhclnphaa
open Go.RowKit
set_option maxRecDepth 100000

section
variable {w : World} {N : Nat → Prop} {L : List Nat} {b : Nat} {m : SM}
set_option maxHeartbeats 1000000 in
theorem st_copy (h : St w N L b m) :
    Calls Try.prog 43 #[.pointer (some ⟨b, 0, none⟩)] w fun e w' => ∃ b' L', e = .returned (.pointer (some ⟨b', 0, none⟩)) ∧ Fr [] w w' ∧ w.heap.size ≤ b' ∧ (∀ x ∈ L', w.heap.size ≤ x) ∧ St w' (fun x => N x ∧ x < w.heap.size) L' b' m := by
  obtain ⟨hok, sv, a, cap, P, h⟩ := h
  obtain ⟨st, su, rfl⟩ := h.s.form
  have HH := Lib.hid h
  have HK := Lib.hid hok
  have HZ := Lib.hid (st_none h)
  obtain ⟨c0, c1, c2, c3, c4, c5, c6⟩ := h.k.cells
  obtain ⟨w0, hw0, f0, q0⟩ : ∃ W, w.alloc (.cells #[.iface st su, .bool m.busy, .slice a P.length cap, .int .i64 (tot P), .int .i64 m.acc, .int .i64 m.w, .int .i64 m.r] 78) = W ∧ Fr [] w W ∧ StB W w.heap.size (.iface st su) m.busy a P.length cap (tot P) m.acc m.w m.r := ⟨_, rfl, (Fr.refl _ _).alloc _, newA rfl⟩
  have h0 := h.keep0 f0
  have d0 : w0.cell? ⟨b, 0, none⟩ = some (.iface st su) := h0.k.cells.c0
  obtain ⟨f, rv, hm, he, hc⟩ := (sto_again h0.s).at_
  simp [go_sem] at hm
  have HC := Lib.hid hc
  have HQ := Lib.hid q0
  have HF0 := Lib.hid f0
  have hz0 := lt_of_heap q0
  clear h hok hc h0 q0 f0
  go_enter Try.func43, Try.ntmps43
  go_wp2_with fail
  refine HZ.out.mono ?_
  rintro e w' ⟨rfl, rfl⟩
  go_wp2_with fail
  refine HC.out.mono ?_
  rintro e w2 ⟨t2, u2, L2, rfl, f2, hL2, hs2⟩
  have q2 : StB w2 w.heap.size _ _ _ _ _ _ _ _ _ := f2.keep HQ.out (by simp)
  have k0 := q2.cells.c0
  have k0f := q2.free 0
  have HS := Lib.hid (And.intro hL2 hs2)
  have HQ2 := Lib.hid q2
  have hs1 := HF0.out.size
  clear HC hm he hw0 d0 c0 c1 c2 c3 c4 c5 c6 HZ HQ hL2 hs2 q2
  go_wp2_with fail
  go_ret
  have fb : Fr [w.heap.size] w2 (w2.setCell ⟨w.heap.size, 0, none⟩ (.iface t2 u2)) := (Fr.refl _ _).setCell (.inl (by simp)) _
  obtain ⟨hL2, hs2⟩ := HS.out
  have hbl := lt_of_heap HH.out.k
  refine ⟨w.heap.size, L2, rfl, (HF0.out.then0 f2).trans fb (by simp) (fun x hx => .inr (by simp at hx; omega)), Nat.le_refl _, fun x hx => Nat.le_trans hs1 (hL2 x hx), HK.out, .iface t2 u2, a, cap, P, HQ2.out.sto _, hs2.keep fb (fun x hx hm => by simp at hm; subst hm; have := hL2 _ hx; omega), ((HH.out.p.there.keep HF0.out (by simp)).keep f2 (by simp)).keep fb (fun x hx hn => by simp at hx; subst hx; have := hn.2; omega), HH.out.e, fun hn => by have := hn.2; omega, fun x hx hn => by have := hL2 x hx; have := hn.2; omega, fun hm => by have := hL2 _ hm; omega⟩
end
theorem zprogress {w : World} {r : Option Addr} (h : Zst w r) :
    Calls Try.prog 31 #[.pointer r] w fun e w' => e = .returned (.tuple #[.int .i64 0, .bool false]) ∧ w = w' := by
  have HZ := Lib.hid (none_z h)
  clear h
  go_enter Try.func31, Try.ntmps31
  go_wp2_with fail
  refine HZ.out.mono ?_
  rintro e w' ⟨rfl, rfl⟩
  go_wp2_with fail
  go_ret2
  exact ⟨rfl, rfl⟩
theorem zend {w : World} {r : Option Addr} (h : Zst w r) :
    Calls Try.prog 33 #[.pointer r] w fun e w' => e = .returned (.tuple #[.int .i64 0, .int .i64 1]) ∧ w = w' := by
  have HZ := Lib.hid (none_z h)
  clear h
  go_enter Try.func33, Try.ntmps33
  go_wp2_with fail
  refine HZ.out.mono ?_
  rintro e w' ⟨rfl, rfl⟩
  go_wp2_with fail
  go_ret2
  exact ⟨rfl, rfl⟩
theorem zcancel {w : World} {r : Option Addr} (h : Zst w r) :
    Calls Try.prog 34 #[.pointer r] w fun e w' => e = .returned (.tuple #[.int .i64 0, .int .i64 1]) ∧ w = w' := by
  have HZ := Lib.hid (none_z h)
  clear h
  go_enter Try.func34, Try.ntmps34
  go_wp2_with fail
  refine HZ.out.mono ?_
  rintro e w' ⟨rfl, rfl⟩
  go_wp2_with fail
  go_ret2
  exact ⟨rfl, rfl⟩
theorem zread {w : World} {r : Option Addr} (h : Zst w r) (n : Int) :
    Calls Try.prog 35 #[.pointer r, .int .i64 n] w fun e w' => e = .returned (.tuple #[.slice none 0 0, .int .i64 1]) ∧ w = w' := by
  have HZ := Lib.hid (none_z h)
  clear h
  go_enter Try.func35, Try.ntmps35
  go_wp2_with fail
  refine HZ.out.mono ?_
  rintro e w' ⟨rfl, rfl⟩
  go_wp2_with fail
  go_ret2
  exact ⟨rfl, rfl⟩
theorem zshut {w : World} {r : Option Addr} (h : Zst w r) (k n : Int) :
    Calls Try.prog 81 #[.pointer r, .int .i64 k, .int .i64 n] w fun e w' => e = .returned (.int .i64 1) ∧ w = w' := by
  have HZ := Lib.hid (none_z h)
  clear h
  go_enter Try.func81, Try.ntmps81
  go_wp2_with fail
  refine HZ.out.mono ?_
  rintro e w' ⟨rfl, rfl⟩
  go_wp2_with fail
  go_ret
  exact ⟨rfl, rfl⟩
theorem zcopy {w : World} {r : Option Addr} (h : Zst w r) :
    Calls Try.prog 43 #[.pointer r] w fun e w' => e = .returned (.pointer none) ∧ w = w' := by
  have HZ := Lib.hid (none_z h)
  clear h
  go_enter Try.func43, Try.ntmps43
  go_wp2_with fail
  refine HZ.out.mono ?_
  rintro e w' ⟨rfl, rfl⟩
  go_wp2_with fail
  go_ret
  exact ⟨rfl, rfl⟩
theorem zclosew {w : World} {r : Option Addr} (h : Zst w r) (n : Int) : Calls Try.prog 36 #[.pointer r, .int .i64 n] w fun e w' => e = .returned (.int .i64 1) ∧ w = w' := by
  have HZ := Lib.hid (zshut h 0 n)
  clear h
  go_enter Try.func36, Try.ntmps36
  go_wp2_with fail
  refine HZ.out.mono ?_
  rintro e w' ⟨rfl, rfl⟩
  go_wp2_with fail
  go_ret
  exact ⟨rfl, rfl⟩
theorem zcloser {w : World} {r : Option Addr} (h : Zst w r) (n : Int) : Calls Try.prog 40 #[.pointer r, .int .i64 n] w fun e w' => e = .returned (.int .i64 1) ∧ w = w' := by
  have HZ := Lib.hid (zshut h 1 n)
  clear h
  go_enter Try.func40, Try.ntmps40
  go_wp2_with fail
  refine HZ.out.mono ?_
  rintro e w' ⟨rfl, rfl⟩
  go_wp2_with fail
  go_ret
  exact ⟨rfl, rfl⟩
theorem zbegin {w : World} {r : Option Addr} (h : Zst w r) (a : Option Addr) (len cap : Nat) (n : Int) : Calls Try.prog 29 #[.pointer r, .agg #[.slice a len cap, .int .i64 n]] w fun e w' => e = .returned (.int .i64 1) ∧ Fr [] w w' := by
  have HZ := Lib.hid fun o => none_z (h.keep ((Fr.refl [] w).alloc o))
  clear h
  go_enter Try.func29, Try.ntmps29
  go_wp2_with fail
  refine (HZ.out _).mono ?_
  rintro e w' ⟨rfl, rfl⟩
  go_wp2_with fail
  go_ret
  exact ⟨rfl, (Fr.refl _ _).alloc _⟩
theorem zstate {w : World} {r : Option Addr} (h : Zst w r) : Calls Try.prog 42 #[.pointer r] w fun e w' => e = .returned (.agg #[.int .i64 0, .slice none 0 0, .bool false, .slice none 0 0, .int .i64 0, .int .i64 0, .int .i64 0]) ∧ Fr [] w w' := by
  obtain ⟨w0, hw0, f0, q0⟩ : ∃ W, w.alloc (.cells #[.int .i64 0, .slice none 0 0, .bool false, .slice none 0 0, .int .i64 0, .int .i64 0, .int .i64 0] 41) = W ∧ Fr [] w W ∧ W.heap[w.heap.size]? = some (.cells #[.int .i64 0, .slice none 0 0, .bool false, .slice none 0 0, .int .i64 0, .int .i64 0, .int .i64 0] 41 (0, 0)) := ⟨_, rfl, (Fr.refl _ _).alloc _, newA rfl⟩
  have HZ := Lib.hid (none_z (h.keep f0))
  clear h
  go_enter Try.func42, Try.ntmps42
  go_wp2_with fail
  refine HZ.out.mono ?_
  rintro e w' ⟨rfl, rfl⟩
  go_wp2_with (refine wpList_store_row rfl 41 (.tmp 2) (.tmp 5) rfl w.heap.size #[.int .i64 0, .slice none 0 0, .bool false, .slice none 0 0, .int .i64 0, .int .i64 0, .int .i64 0] (by rfl) (by rfl) _ _ q0 (by kernel_rfl) rfl (by simp [Value.oneCell']) ?_)
  have hq := setRow_heap w0 w.heap.size _ #[.int .i64 0, .slice none 0 0, .bool false, .slice none 0 0, .int .i64 0, .int .i64 0, .int .i64 0] _ _ q0
  refine bodyPost_ret (results_cell_row rfl _ _ w.heap.size _ #[.int .i64 0, .slice none 0 0, .bool false, .slice none 0 0, .int .i64 0, .int .i64 0, .int .i64 0] (0, 0) _ (by rfl) hq Try.underlying41 rfl (by kernel_rfl)) rfl ?_
  exact ⟨rfl, f0.trans setRow_fr' (by simp) (fun x hx => .inr (by simp at hx; omega))⟩
end Go.Proofs.Ytdoamelhclnphaa

namespace Go.Proofs.Ytdoamelhclnphaa
open Go.RowKit
set_option maxRecDepth 100000

/-- A stream all of whose memory lies in F. -/
def SF (w : World) (F : Nat → Prop) (b : Nat) (m : SM) : Prop :=
  ∃ N L, St w N L b m ∧ (∀ x, N x → F x) ∧ (∀ x ∈ L, F x) ∧ F b ∧ ∀ x, F x → x < w.heap.size
/-- What a call on it leaves. -/
def SFP (w : World) (F : Nat → Prop) (b : Nat) (m' : SM) (w' : World) : Prop :=
  (∃ S, (∀ x ∈ S, F x ∨ w.heap.size ≤ x) ∧ Fr S w w') ∧ ∃ F' : Nat → Prop, (∀ x, F' x → F x ∨ w.heap.size ≤ x) ∧ SF w' F' b m'
theorem St.ltL {w : World} {N : Nat → Prop} {L : List Nat} {b : Nat} {m : SM} (h : St w N L b m) : ∀ x ∈ L, x < w.heap.size := by
  obtain ⟨_, sv, a, cap, P, h1⟩ := h
  exact h1.s.lt
theorem SF.of {w : World} {N : Nat → Prop} {L : List Nat} {b : Nat} {m : SM} (h : St w N L b m) : SF w (fun x => x = b ∨ x ∈ L ∨ (N x ∧ x < w.heap.size)) b m :=
  ⟨_, L, h.there, fun x hx => .inr (.inr hx), fun x hx => .inr (.inl hx), .inl rfl, fun x hx => by
    rcases hx with rfl | hx | hx
    · exact h.lt
    · exact h.ltL x hx
    · exact hx.2⟩
theorem SF.ok {w : World} {F : Nat → Prop} {b : Nat} {m : SM} (h : SF w F b m) : SOk m := by
  obtain ⟨N, L, h1, _⟩ := h
  exact h1.1
theorem SF.lt {w : World} {F : Nat → Prop} {b : Nat} {m : SM} (h : SF w F b m) : ∀ x, F x → x < w.heap.size := by
  obtain ⟨N, L, _, _, _, _, h1⟩ := h
  exact h1
theorem SF.keep {w w' : World} {F : Nat → Prop} {b : Nat} {m : SM} (h : SF w F b m) {S : List Nat} (hf : Fr S w w') (hS : ∀ x ∈ S, ¬ F x) : SF w' F b m := by
  obtain ⟨N, L, h1, h2, h3, h4, h5⟩ := h
  exact ⟨N, L, h1.keep hf (fun hm => hS b hm h4) (fun x hx hm => hS x hm (h3 x hx)) (fun x hx hn => hS x hx (h2 x hn)), h2, h3, h4, fun x hx => Nat.lt_of_lt_of_le (h5 x hx) hf.size⟩
theorem SF.keep0 {w w' : World} {F : Nat → Prop} {b : Nat} {m : SM} (h : SF w F b m) (hf : Fr [] w w') : SF w' F b m := h.keep hf (by simp)
theorem SF.mono {w : World} {F F' : Nat → Prop} {b : Nat} {m : SM} (h : SF w F b m) (hF : ∀ x, F x → F' x) (hl : ∀ x, F' x → x < w.heap.size) : SF w F' b m := by
  obtain ⟨N, L, h1, h2, h3, h4, h5⟩ := h
  exact ⟨N, L, h1, fun x hx => hF x (h2 x hx), fun x hx => hF x (h3 x hx), hF b h4, hl⟩
/-- From a call's post-condition in blocks. -/
theorem SFP.of {w w1 w' : World} {F : Nat → Prop} {N N' : Nat → Prop} {L L' S : List Nat} {b : Nat} {m' : SM} (hN : ∀ x, N x → F x) (hL : ∀ x ∈ L, F x) (hb : F b) (hF : ∀ x, F x → x < w.heap.size)
    (h1 : w.heap.size ≤ w1.heap.size) (hS : ∀ x ∈ S, x = b ∨ x ∈ L ∨ w.heap.size ≤ x) (hf : Fr S w w') (hN' : ∀ x, N' x → N x ∨ w.heap.size ≤ x) (hL' : ∀ x ∈ L', x ∈ L ∨ w.heap.size ≤ x) (h : St w' N' L' b m') : SFP w F b m' w' := by
  refine ⟨⟨S, fun x hx => ?_, hf⟩, _, fun x hx => ?_, SF.of h⟩
  · rcases hS x hx with rfl | hx | hx
    · exact .inl hb
    · exact .inl (hL x hx)
    · exact .inr hx
  · rcases hx with rfl | hx | hx
    · exact .inl hb
    · rcases hL' x hx with hx | hx
      · exact .inl (hL x hx)
      · exact .inr hx
    · rcases hN' x hx.1 with hx | hx
      · exact .inl (hN x hx)
      · exact .inr hx
theorem SFP.same {w w' : World} {F : Nat → Prop} {b : Nat} {m : SM} (h : SF w F b m) (hf : Fr [] w w') : SFP w F b m w' := ⟨⟨[], by simp, hf⟩, F, fun x hx => .inl hx, h.keep0 hf⟩
theorem SFP.ahead {w0 w w' : World} {F : Nat → Prop} {b : Nat} {m' : SM} (hf : Fr [] w0 w) (h : SFP w F b m' w') : SFP w0 F b m' w' := by
  obtain ⟨⟨S, hS, f⟩, F', hF', h'⟩ := h
  have hs := hf.size
  exact ⟨⟨S, fun x hx => (hS x hx).imp id (fun h => by omega), hf.trans f (by simp) (fun x hx => .inl hx)⟩, F', fun x hx => (hF' x hx).imp id (fun h => by omega), h'⟩
theorem SFP.behind {w w' w2 : World} {F : Nat → Prop} {b : Nat} {m' : SM} (h : SFP w F b m' w') (hf : Fr [] w' w2) : SFP w F b m' w2 := by
  obtain ⟨⟨S, hS, f⟩, F', hF', h'⟩ := h
  exact ⟨⟨S, hS, f.then0 hf⟩, F', hF', h'.keep0 hf⟩

section
variable {w : World} {F : Nat → Prop} {b : Nat} {m : SM}
theorem sf_begin (h : SF w F b m) {N2 : Nat → Prop} {v : Value} {Q : Parts} (hr : Rp w N2 v Q) (h2 : ∀ x, F x → ¬ N2 x) :
    Calls Try.prog 29 #[.pointer (some ⟨b, 0, none⟩), v] w fun e w' => e = .returned (.int .i64 (beginM m Q.flatten).err) ∧
      (∃ S, (∀ x ∈ S, F x) ∧ Fr S w w') ∧ ∃ F' : Nat → Prop, (∀ x, F' x → F x ∨ (N2 x ∧ x < w.heap.size) ∨ w.heap.size ≤ x) ∧ SF w' F' b (beginM m Q.flatten).m := by
  obtain ⟨N, L, h1, hN, hL, hb, hF⟩ := h
  refine (st_begin h1 hr.there (fun hn => h2 b hb hn.1) (fun x hx hn => h2 x (hL x hx) hn.1)).mono ?_
  rintro e w' ⟨he, f, h'⟩
  refine ⟨he, ⟨_, fun x hx => ?_, f⟩, _, fun x hx => ?_, SF.of h'⟩
  · rcases List.mem_cons.1 hx with rfl | hx
    · exact hb
    · exact hL x hx
  · rcases hx with rfl | hx | ⟨hx | hx | hx, _⟩
    · exact .inl hb
    · exact .inl (hL x hx)
    · exact .inl (hN x hx)
    · exact .inr (.inl hx)
    · exact .inr (.inr hx)
theorem sf_progress (h : SF w F b m) :
    Calls Try.prog 31 #[.pointer (some ⟨b, 0, none⟩)] w fun e w' => e = .returned (.tuple #[.int .i64 m.acc, .bool (atEndM m)]) ∧ Fr [] w w' := by
  obtain ⟨N, L, h1, _⟩ := h
  exact st_progress h1
theorem sf_end (h : SF w F b m) :
    Calls Try.prog 33 #[.pointer (some ⟨b, 0, none⟩)] w fun e w' => e = .returned (.tuple #[.int .i64 (endM m).n, .int .i64 (endM m).err]) ∧ SFP w F b (endM m).m w' := by
  obtain ⟨N, L, h1, hN, hL, hb, hF⟩ := h
  refine (st_end h1).mono ?_
  rintro e w' ⟨he, f, h'⟩
  exact ⟨he, SFP.of (w1 := w) hN hL hb hF (Nat.le_refl _) (fun x hx => .inl (by simpa using hx)) f (fun x hx => .inl hx) (fun x hx => .inl hx) h'⟩
theorem sf_cancel (h : SF w F b m) :
    Calls Try.prog 34 #[.pointer (some ⟨b, 0, none⟩)] w fun e w' => e = .returned (.tuple #[.int .i64 (cancelM m).n, .int .i64 (cancelM m).err]) ∧ SFP w F b (cancelM m).m w' := by
  obtain ⟨N, L, h1, hN, hL, hb, hF⟩ := h
  refine (st_cancel h1).mono ?_
  rintro e w' ⟨he, f, h'⟩
  exact ⟨he, SFP.of (w1 := w) hN hL hb hF (Nat.le_refl _) (fun x hx => .inl (by simpa using hx)) f (fun x hx => .inl hx) (fun x hx => .inl hx) h'⟩
theorem sf_closew (h : SF w F b m) (x : Int) :
    Calls Try.prog 36 #[.pointer (some ⟨b, 0, none⟩), .int .i64 x] w fun e w' => e = .returned (.int .i64 (closewM m x).err) ∧ SFP w F b (closewM m x).m w' := by
  obtain ⟨N, L, h1, hN, hL, hb, hF⟩ := h
  refine (st_closew h1 x).mono ?_
  rintro e w' ⟨he, f, N', L', hN', hL', h'⟩
  exact ⟨he, SFP.of (w1 := w) hN hL hb hF (Nat.le_refl _) (fun x hx => by rcases List.mem_cons.1 hx with rfl | hx; exact .inl rfl; exact .inr (.inl hx)) f hN' hL' h'⟩
theorem sf_closer (h : SF w F b m) (x : Int) :
    Calls Try.prog 40 #[.pointer (some ⟨b, 0, none⟩), .int .i64 x] w fun e w' => e = .returned (.int .i64 (closerM m x).err) ∧ SFP w F b (closerM m x).m w' := by
  obtain ⟨N, L, h1, hN, hL, hb, hF⟩ := h
  refine (st_closer h1 x).mono ?_
  rintro e w' ⟨he, f, N', L', hN', hL', h'⟩
  exact ⟨he, SFP.of (w1 := w) hN hL hb hF (Nat.le_refl _) (fun x hx => by rcases List.mem_cons.1 hx with rfl | hx; exact .inl rfl; exact .inr (.inl hx)) f hN' hL' h'⟩
/-- The bytes are the caller's own, and no part of the stream. -/
theorem sf_read (h : SF w F b m) (n : Int) :
    Calls Try.prog 35 #[.pointer (some ⟨b, 0, none⟩), .int .i64 n] w fun e w' => ∃ u, e = .returned (.tuple #[u, .int .i64 (readM m n).err]) ∧ Ow w' w.heap.size 5 u ((bi (readM m n).out).map (Value.int .u8)) ∧
      (∃ S, (∀ x ∈ S, F x) ∧ Fr S w w') ∧ ∃ F' : Nat → Prop, (∀ x, F' x → (F x ∨ w.heap.size ≤ x) ∧ u.ownBlock ≠ some x) ∧ SF w' F' b (readM m n).m := by
  obtain ⟨N, L, h1, hN, hL, hb, hF⟩ := h
  refine (st_read h1 n).mono ?_
  rintro e w' ⟨u, he, f, ou, N', hN', h'⟩
  refine ⟨u, he, ou, ⟨_, fun x hx => ?_, f⟩, _, fun x hx => ?_, SF.of h'⟩
  · rcases List.mem_cons.1 hx with rfl | hx
    · exact hb
    · exact hL x hx
  · rcases hx with rfl | hx | hx
    · exact ⟨.inl hb, fun e => by have := (ou.lt _ e).1; have := hF _ hb; omega⟩
    · exact ⟨.inl (hL x hx), fun e => by have := (ou.lt _ e).1; have := hF _ (hL x hx); omega⟩
    · exact ⟨(hN' x hx.1).1.imp (hN x) id, (hN' x hx.1).2⟩
theorem sf_readP (h : SF w F b m) (n : Int) :
    Calls Try.prog 35 #[.pointer (some ⟨b, 0, none⟩), .int .i64 n] w fun e w' => ∃ u, e = .returned (.tuple #[u, .int .i64 (readM m n).err]) ∧ Ow w' w.heap.size 5 u ((bi (readM m n).out).map (Value.int .u8)) ∧ SFP w F b (readM m n).m w' := by
  refine (sf_read h n).mono ?_
  rintro e w' ⟨u, he, ou, ⟨S, hS, f⟩, F', hF', h'⟩
  exact ⟨u, he, ou, ⟨S, fun x hx => .inl (hS x hx), f⟩, F', fun x hx => (hF' x hx).1, h'⟩
theorem sf_new (c : Int) (w : World) (h0 : 0 ≤ c) (h1 : c ≤ 4096) :
    Calls Try.prog 27 #[.int .i64 c] w fun e w' => ∃ b F, e = .returned (.tuple #[.pointer (some ⟨b, 0, none⟩), .int .i64 0]) ∧ Fr [] w w' ∧ (∀ x, F x → w.heap.size ≤ x) ∧ SF w' F b (newM c) := by
  refine (st_new c w h0 h1).mono ?_
  rintro e w' ⟨b, L, he, f, hb, _, hL, h⟩
  exact ⟨b, _, he, f, fun x hx => by
    rcases hx with rfl | hx | hx
    · exact hb
    · exact (hL x hx).1
    · exact hx.1.elim, SF.of h⟩

theorem parts_single {w : World} {v : Value} {l : List UInt8} {B : Nat} {N : Nat → Prop} (h : w.heap[B]? = some (.cells #[v] 29 (0, 0))) (hv : PartV w N v l) : PartsAt w (fun x => N x ∨ x = B) (some ⟨B, 0, none⟩) [l] := by
  refine ⟨[v], rfl, fun _ => ⟨B, 0, rfl, lt_of_heap h, fun i hi => ?_⟩, fun b o _ e => ?_, fun i p hp => ?_⟩
  · have h0 : i = 0 := by simpa using hi
    subst h0
    exact (cell_of h).trans (by simp)
  · injection e with e; injection e with e1; exact .inr e1.symm
  · cases i with
    | zero =>
      simp at hp
      subst hp
      exact ⟨v, rfl, hv.mono fun _ => .inl⟩
    | succ i => simp at hp
theorem own_single (l : List UInt8) : (own [l]).length ≤ 1 ∧ (own [l]).flatten = l := ⟨Nat.le_trans (List.length_filter_le _ _) (by simp), by rw [own_flat]; simp⟩
set_option maxHeartbeats 1000000 in
theorem begins14 (h : SF w F b m) {l : List UInt8} (hl : l.length ≤ 65536) (want : Int) (hw : (beginM m l).err = want) :
    Calls Try.prog 70 #[.pointer (some ⟨b, 0, none⟩), .string ⟨l.toArray⟩, .int .i64 want] w fun e w' => e = .returned (.bool true) ∧ SFP w F b (beginM m l).m w' := by
  have hcv := Lib.run_convert_string_bytes (P := Try.prog) w 9 29 5 ⟨l.toArray⟩ Try.underlying9 Try.underlying29 Try.underlying5
  have f1 := Fr.bytesWorld w 5 ⟨l.toArray⟩
  have s1 := Sl.bytesWorld w 5 l
  have hg : l.length ≤ grownCap w l.length 0 5 := grownCap_ge _ _ _ _
  have hgm : grownCap w l.length 0 5 ≤ maxLen := grownCap_le_maxLen _ _ _ _ (by unfold maxLen; omega)
  rw [show (⟨l.toArray⟩ : ByteArray).size = l.length from by simp [ByteArray.size]] at hcv
  have hB : w.heap.size < (Lib.bytesWorld w 5 ⟨l.toArray⟩).heap.size := by rw [Lib.bytesWorld_size]; omega
  generalize Lib.bytesWorld w 5 ⟨l.toArray⟩ = W1 at hcv f1 s1 hB
  generalize grownCap w l.length 0 5 = G at hcv hg hgm
  have pv : PartV W1 (fun x => w.heap.size ≤ x) (.slice (some ⟨w.heap.size, 0, none⟩) l.length G) l := ⟨_, _, rfl, hg, hgm, s1, fun b o _ e => by injection e with e; injection e with e1; omega⟩
  obtain ⟨W2, hW2, f2, q2⟩ : ∃ W, W1.alloc (.cells #[.slice (some ⟨w.heap.size, 0, none⟩) l.length G] 29) = W ∧ Fr [] W1 W ∧ W.heap[W1.heap.size]? = some (.cells #[.slice (some ⟨w.heap.size, 0, none⟩) l.length G] 29 (0, 0)) := ⟨_, rfl, (Fr.refl _ _).alloc _, newA rfl⟩
  have HN := Lib.hid (rope_new (cap := 1) (len := 1) (parts_single q2 (pv.keep f2 (by simp))) rfl (by unfold maxLen; omega))
  have g2 := f1.trans f2 (U := []) (by simp) (by simp)
  have hs2 := g2.size
  have HH := Lib.hid h
  have HL := Lib.hid hl
  have HW := Lib.hid hw
  clear h pv q2 s1 hl hw f1 f2
  go_enter Try.func70, Try.ntmps70
  go_wp2_with fail
  refine HN.out.mono ?_
  rintro e w3 ⟨f3, he⟩
  rw [if_neg (by have := (own_single l).1; omega), if_neg (by have := HL.out; simp [tot]; omega)] at he
  obtain ⟨v, rfl, hr⟩ := he
  have hfl := (own_single l).2
  generalize own [l] = Q at *
  obtain ⟨ra, rc, rfl, _⟩ := id hr
  obtain ⟨w4, hw4, f4, q4⟩ : ∃ W, w3.alloc (.cells #[.slice ra Q.length rc, .int .i64 (tot Q)] 57) = W ∧ Fr [] w3 W ∧ W.heap[w3.heap.size]? = some (.cells #[.slice ra Q.length rc, .int .i64 (tot Q)] 57 (0, 0)) := ⟨_, rfl, (Fr.refl _ _).alloc _, newA rfl⟩
  have g4 := (g2.then0 f3).then0 f4
  have x0 : w4.cell? ⟨w3.heap.size, 0, none⟩ = some (.slice ra Q.length rc) := cell_of q4
  have x1 : w4.cell? ⟨w3.heap.size, 1, none⟩ = some (.int .i64 (tot Q)) := cell_of q4
  have HB := Lib.hid (sf_begin (HH.out.keep0 g4) (hr.keep f4 (by simp)) (fun x hx hn => by have := HH.out.lt x hx; omega))
  rw [hfl, HW.out] at HB
  have HG := Lib.hid g4
  clear HN hr f3 f4 q4 g4 hfl g2
  go_wp2_with fail
  refine HB.out.mono ?_
  rintro e w5 ⟨rfl, ⟨S, hS, f5⟩, F', hF', h5⟩
  clear HB
  have hww : (want == want) = true := beq_self_eq_true want
  go_wp2_with fail
  go_ret
  refine ⟨rfl, ⟨S, fun x hx => .inl (hS x hx), HG.out.trans f5 (by simp) (fun x hx => .inl hx)⟩, F', fun x hx => ?_, h5⟩
  have hs4 := HG.out.size
  rcases hF' x hx with hx | hx | hx
  · exact .inl hx
  · exact .inr (by omega)
  · exact .inr (by omega)
theorem at14 (h : SF w F b m) (n : Int) (d : Bool) (hn : m.acc = n) (hd : atEndM m = d) :
    Calls Try.prog 71 #[.pointer (some ⟨b, 0, none⟩), .int .i64 n, .bool d] w fun e w' => e = .returned (.bool true) ∧ SFP w F b m w' := by
  subst hn hd
  have HP := Lib.hid (sf_progress h)
  have HH := Lib.hid h
  have h1 : (m.acc == m.acc) = true := beq_self_eq_true _
  have h2 : (atEndM m == atEndM m) = true := beq_self_eq_true _
  clear h
  generalize atEndM m = d at *
  go_enter Try.func71, Try.ntmps71
  go_wp2_with fail
  refine HP.out.mono ?_
  rintro e w1 ⟨rfl, f1⟩
  go_wp2_with fail
  go_ret
  exact ⟨rfl, SFP.same HH.out f1⟩
theorem reads14 (h : SF w F b m) (most : Int) (l : List UInt8) (no : Int) (hq : (readM m most).out = l) (he : (readM m most).err = no) :
    Calls Try.prog 72 #[.pointer (some ⟨b, 0, none⟩), .int .i64 most, .string (st l), .int .i64 no] w fun e w' => e = .returned (.bool true) ∧ SFP w F b (readM m most).m w' := by
  have HR := Lib.hid (sf_readP h most)
  rw [hq, he] at HR
  have hnn : (no == no) = true := beq_self_eq_true no
  clear h hq he
  go_enter Try.func72, Try.ntmps72
  go_wp2_with fail
  refine HR.out.mono ?_
  rintro e w2 ⟨u, rfl, ou, hp⟩
  clear HR
  obtain ⟨ga, gc, rfl, _, _, hs, _⟩ := ou.formB
  have hcv := fun c => conv_st (cap := c) hs rfl
  have HP := Lib.hid hp
  clear hp ou hs
  go_wp2_with fail
  go_ret
  exact ⟨rfl, HP.out⟩
theorem ends14 (h : SF w F b m) (n no : Int) (hq : (endM m).n = n) (he : (endM m).err = no) :
    Calls Try.prog 73 #[.pointer (some ⟨b, 0, none⟩), .int .i64 n, .int .i64 no] w fun e w' => e = .returned (.bool true) ∧ SFP w F b (endM m).m w' := by
  have HR := Lib.hid (sf_end h)
  rw [hq, he] at HR
  have hnn : (no == no) = true := beq_self_eq_true no
  have hn1 : (n == n) = true := beq_self_eq_true n
  clear h hq he
  go_enter Try.func73, Try.ntmps73
  go_wp2_with fail
  refine HR.out.mono ?_
  rintro e w2 ⟨rfl, hp⟩
  clear HR
  have HP := Lib.hid hp
  clear hp
  go_wp2_with fail
  go_ret
  exact ⟨rfl, HP.out⟩
/-- Two streams of the call's own. -/
def Two (w0 w : World) (b : Nat) (m : SM) (b2 : Nat) (m2 : SM) : Prop :=
  Fr [] w0 w ∧ ∃ F F2 : Nat → Prop, SF w F b m ∧ SF w F2 b2 m2 ∧ (∀ x, F x → ¬ F2 x) ∧ ∀ x, F x ∨ F2 x → w0.heap.size ≤ x
theorem Two.swap {w0 w : World} {b b2 : Nat} {m m2 : SM} (h : Two w0 w b m b2 m2) : Two w0 w b2 m2 b m := by
  obtain ⟨f, F, F2, h1, h2, h3, h4⟩ := h
  exact ⟨f, F2, F, h2, h1, fun x hx hy => h3 x hy hx, fun x hx => h4 x hx.symm⟩
theorem Two.fst {w0 w w' : World} {b b2 : Nat} {m2 m' : SM} {F F2 : Nat → Prop} (f : Fr [] w0 w) (h2 : SF w F2 b2 m2) (hd : ∀ x, F x → ¬ F2 x) (hn : ∀ x, F x ∨ F2 x → w0.heap.size ≤ x) (h : SFP w F b m' w') : Two w0 w' b m' b2 m2 := by
  obtain ⟨⟨S, hS, fs⟩, F', hF', h'⟩ := h
  have hz := f.size
  refine ⟨f.trans fs (by simp) (fun x hx => .inr ?_), F', F2, h', h2.keep fs (fun x hx hy => ?_), fun x hx hy => ?_, fun x hx => ?_⟩
  · rcases hS x hx with h1 | h1
    · exact hn x (.inl h1)
    · omega
  · rcases hS x hx with h1 | h1
    · exact hd x h1 hy
    · have := h2.lt x hy
      omega
  · rcases hF' x hx with h1 | h1
    · exact hd x h1 hy
    · have := h2.lt x hy
      omega
  · rcases hx with hx | hx
    · rcases hF' x hx with h1 | h1
      · exact hn x (.inl h1)
      · omega
    · exact hn x (.inr hx)
end
end Go.Proofs.Ytdoamelhclnphaa
