/-
  Package stream: refill, Begin, stop, Progress.
-/
import Derived.Test.YtdoamelhclnphaaStAt
import Derived.Deep.QuietTactic
import Derived.BigQuiet
namespace Go.Proofs.Ytdoamelhclnphaa
open Go.RowKit
set_option maxRecDepth 100000

theorem Sto.form {w : World} {L : List Nat} {v : Value} {c : Int} {q : List UInt8} (h : Sto w L v c q) : ∃ t u, v = .iface t u := by
  rcases h with ⟨_, _, _, rfl⟩ | ⟨R, D, _, _, _, _, rfl, _⟩
  · exact ⟨_, _, rfl⟩
  · exact ⟨_, _, rfl⟩
section
variable {w : World} {N : Nat → Prop} {L : List Nat} {b : Nat} {m : SM} {sv : Value} {a : Option Addr} {cap : Nat} {P : Parts}
theorem StR.mono {N' : Nat → Prop} (h : StR w N L b m sv a cap P) (hN : ∀ x, N x → N' x) (hb : ¬ N' b) (hL : ∀ x ∈ L, ¬ N' x) : StR w N' L b m sv a cap P :=
  ⟨h.k, h.s, h.p.mono hN, h.e, hb, hL, h.bl⟩
theorem StR.lts (h : StR w N L b m sv a cap P) : b < w.heap.size ∧ (∀ x ∈ L, x < w.heap.size) ∧ ¬ (N b ∨ w.heap.size ≤ b) ∧ ∀ x ∈ L, ¬ (N x ∨ w.heap.size ≤ x) := by
  have h1 := lt_of_heap h.k
  have h2 := h.s.lt
  exact ⟨h1, h2, by rintro (h' | h'); exact h.nb h'; omega, fun x hx h' => by have := h2 x hx; rcases h' with h' | h'; exact h.nl x hx h'; omega⟩
theorem StR.wide (h : StR w N L b m sv a cap P) : StR w (fun x => N x ∨ w.heap.size ≤ x) L b m sv a cap P :=
  h.mono (fun _ => .inl) h.lts.2.2.1 h.lts.2.2.2
theorem StB.acc {a : Option Addr} {len cap : Nat} {n acc x y : Int} {busy : Bool} (h : StB w b sv busy a len cap n acc x y) (z : Int) : StB (w.setCell ⟨b, 4, none⟩ (.int .i64 z)) b sv busy a len cap n z x y := by
  have := heap_setCell_eq (i := 4) (u := .int .i64 z) h
  unfold StB
  rw [this]
  simp
def RefillPost (w : World) (N : Nat → Prop) (L : List Nat) (b : Nat) (m : SM) (sv : Value) (e : Ending) (w' : World) : Prop :=
  e = .returned (.tuple #[]) ∧ Fr (b :: L) w w' ∧ ∃ a' cap' P', StR w' (fun x => N x ∨ w.heap.size ≤ x) L b m sv a' cap' P'
set_option maxHeartbeats 1000000 in
theorem st_refill (h : StR w N L b m sv a cap P) (ha : 0 ≤ m.acc ∧ m.acc ≤ 65536) :
    Calls Try.prog 78 #[.pointer (some ⟨b, 0, none⟩)] w (RefillPost w N L b (fillM m) sv) := by
  obtain ⟨st, su, rfl⟩ := h.s.form
  have HH := Lib.hid h
  obtain ⟨c0, c1, _, _, c4, _, _⟩ := h.k.cells
  have hbd := h.s.bd
  have HO := Lib.hid (st_open h)
  clear h
  by_cases hb : m.busy = false
  · have e : fillM m = m := by unfold fillM; rw [if_neg (by rw [hb]; simp)]
    rw [e]
    rw [hb] at c1
    clear hbd e hb ha
    go_enter Try.func78, Try.ntmps78
    go_wp2_with fail
    go_end0
    exact ⟨rfl, Fr.refl _ _, _, _, _, HH.out.wide⟩
  have hb' : m.busy = true := by simpa using hb
  rw [hb'] at c1
  by_cases hop : opM m = false
  · have e : fillM m = m := by
      unfold fillM
      unfold opM at hop
      rw [if_neg]
      rintro ⟨_, h1, h2⟩
      rw [h1, h2] at hop
      simp at hop
    rw [e]
    rw [hop] at HO
    clear hbd e hb hb' ha hop
    go_enter Try.func78, Try.ntmps78
    go_wp2_with fail
    refine HO.out.mono ?_
    rintro e w' ⟨rfl, rfl⟩
    go_wp2_with fail
    go_end0
    exact ⟨rfl, Fr.refl _ _, _, _, _, HH.out.wide⟩
  have hop' : opM m = true := by simpa using hop
  have e : fillM m = pourM m := by
    unfold fillM
    unfold opM at hop'
    rw [if_pos]
    simp at hop'
    exact ⟨hb', hop'⟩
  rw [e]
  rw [hop'] at HO
  have hn : (min (roomM m) m.rest.length : Nat) ≤ 4096 := by unfold roomM; omega
  have HWR := Lib.hid (show IntKind.i64.wrap (m.acc + ((min (roomM m) m.rest.length : Nat) : Int)) = m.acc + ((min (roomM m) m.rest.length : Nat) : Int) from IntWalk.i64_in _ (by omega))
  have HB := Lib.hid (And.intro ha hbd)
  clear hbd e hb hb' hop hop' ha hn c0 c4
  go_enter Try.func78, Try.ntmps78
  go_wp2_with fail
  refine HO.out.mono ?_
  rintro e w' ⟨rfl, rfl⟩
  go_wp2_with fail
  have fd : Fr [] w w.drew := (Fr.refl _ _).drew
  refine wp_region_late [(0, true), (1, true), (2, true), (3, true), (4, true), (5, true), (6, true), (7, true), (8, true), (9, true), (10, true), (11, true), (12, true), (13, false), (14, true), (15, true), (16, true)] [17] (fun w' => w'.cell? ⟨b, 4, none⟩ = some (.int .i64 m.acc) ∧ w'.cell? ⟨b, 0, none⟩ = some (.iface st su)) (by kernel_rfl) (by kernel_rfl) ⟨(HH.out.keep0 fd).k.cells.c4, (HH.out.keep0 fd).k.cells.c0⟩ ?_
  intro OPS HOPS
  have hops := HOPS.out
  try simp only [List.append_eq, List.cons_append, List.nil_append] at hops
  replace HOPS := Lib.hid hops
  clear hops
  refine walkX_take (o := _) (v := ?_) (by rw [HOPS.out]; simp only [List.getElem?_toArray, List.getElem?_cons_succ, List.getElem?_cons_zero]; exact rfl) (Or.inl ⟨rfl, ?_⟩) ?_
  rotate_left
  · (intro w hSw; (try dsimp only at hSw); go_simp) <;> (with_reducible rfl)
  simp only [Act.put, List.setIfInBounds_toArray, List.set_cons_zero, List.set_cons_succ]
  refine walkX_take (o := _) (v := ?_) (by rw [HOPS.out]; simp only [List.getElem?_toArray, List.getElem?_cons_succ, List.getElem?_cons_zero]; exact rfl) (Or.inl ⟨rfl, ?_⟩) ?_
  rotate_left
  · (intro w hSw; (try dsimp only at hSw); go_simp) <;> (with_reducible rfl)
  simp only [Act.put, List.setIfInBounds_toArray, List.set_cons_zero, List.set_cons_succ]
  refine walkX_take (o := _) (v := ?_) (by rw [HOPS.out]; simp only [List.getElem?_toArray, List.getElem?_cons_succ, List.getElem?_cons_zero]; exact rfl) (Or.inl ⟨rfl, ?_⟩) ?_
  rotate_left
  · (intro w hSw; (try dsimp only at hSw); go_simp) <;> (with_reducible rfl)
  simp only [Act.put, List.setIfInBounds_toArray, List.set_cons_zero, List.set_cons_succ]
  refine walkX_take (o := _) (v := ?_) (by rw [HOPS.out]; simp only [List.getElem?_toArray, List.getElem?_cons_succ, List.getElem?_cons_zero]; exact rfl) (Or.inl ⟨rfl, ?_⟩) ?_
  rotate_left
  · (intro w hSw; (try dsimp only at hSw); go_simp) <;> (with_reducible rfl)
  simp only [Act.put, List.setIfInBounds_toArray, List.set_cons_zero, List.set_cons_succ]
  refine walkX_take (o := _) (v := ?_) (by rw [HOPS.out]; simp only [List.getElem?_toArray, List.getElem?_cons_succ, List.getElem?_cons_zero]; exact rfl) (Or.inl ⟨rfl, ?_⟩) ?_
  rotate_left
  · (intro w hSw; (try dsimp only at hSw); go_simp) <;> (with_reducible rfl)
  simp only [Act.put, List.setIfInBounds_toArray, List.set_cons_zero, List.set_cons_succ]
  refine walkX_take (o := _) (v := ?_) (by rw [HOPS.out]; simp only [List.getElem?_toArray, List.getElem?_cons_succ, List.getElem?_cons_zero]; exact rfl) (Or.inl ⟨rfl, ?_⟩) ?_
  rotate_left
  · (intro w hSw; (try dsimp only at hSw); go_simp) <;> (with_reducible rfl)
  simp only [Act.put, List.setIfInBounds_toArray, List.set_cons_zero, List.set_cons_succ]
  refine walkX_take (o := _) (v := ?_) (by rw [HOPS.out]; simp only [List.getElem?_toArray, List.getElem?_cons_succ, List.getElem?_cons_zero]; exact rfl) (Or.inl ⟨rfl, ?_⟩) ?_
  rotate_left
  · (intro w hSw; (try dsimp only at hSw); go_simp) <;> (with_reducible rfl)
  simp only [Act.put, List.setIfInBounds_toArray, List.set_cons_zero, List.set_cons_succ]
  refine walkX_take (o := _) (v := ?_) (by rw [HOPS.out]; simp only [List.getElem?_toArray, List.getElem?_cons_succ, List.getElem?_cons_zero]; exact rfl) (Or.inl ⟨rfl, ?_⟩) ?_
  rotate_left
  · (intro w hSw; (try dsimp only at hSw); go_simp) <;> (with_reducible rfl)
  simp only [Act.put, List.setIfInBounds_toArray, List.set_cons_zero, List.set_cons_succ]
  refine walkX_take (o := _) (v := ?_) (by rw [HOPS.out]; simp only [List.getElem?_toArray, List.getElem?_cons_succ, List.getElem?_cons_zero]; exact rfl) (Or.inl ⟨rfl, ?_⟩) ?_
  rotate_left
  · (intro w hSw; (try dsimp only at hSw); go_simp) <;> (with_reducible rfl)
  simp only [Act.put, List.setIfInBounds_toArray, List.set_cons_zero, List.set_cons_succ]
  refine walkX_take (o := _) (v := ?_) (by rw [HOPS.out]; simp only [List.getElem?_toArray, List.getElem?_cons_succ, List.getElem?_cons_zero]; exact rfl) (Or.inl ⟨rfl, ?_⟩) ?_
  rotate_left
  · (intro w hSw; (try dsimp only at hSw); go_simp) <;> (with_reducible rfl)
  simp only [Act.put, List.setIfInBounds_toArray, List.set_cons_zero, List.set_cons_succ]
  refine walkX_take (o := _) (v := ?_) (by rw [HOPS.out]; simp only [List.getElem?_toArray, List.getElem?_cons_succ, List.getElem?_cons_zero]; exact rfl) (Or.inl ⟨rfl, ?_⟩) ?_
  rotate_left
  · (intro w hSw; (try dsimp only at hSw); go_simp) <;> (with_reducible rfl)
  simp only [Act.put, List.setIfInBounds_toArray, List.set_cons_zero, List.set_cons_succ]
  refine walkX_take (o := _) (v := ?_) (by rw [HOPS.out]; simp only [List.getElem?_toArray, List.getElem?_cons_succ, List.getElem?_cons_zero]; exact rfl) (Or.inl ⟨rfl, ?_⟩) ?_
  rotate_left
  · (intro w hSw; (try dsimp only at hSw); go_simp) <;> (with_reducible rfl)
  simp only [Act.put, List.setIfInBounds_toArray, List.set_cons_zero, List.set_cons_succ]
  refine walkX_take (o := _) (v := ?_) (by rw [HOPS.out]; simp only [List.getElem?_toArray, List.getElem?_cons_succ, List.getElem?_cons_zero]; exact rfl) (Or.inl ⟨rfl, ?_⟩) ?_
  rotate_left
  · (intro w hSw; (try dsimp only at hSw); go_simp) <;> (with_reducible rfl)
  simp only [Act.put, List.setIfInBounds_toArray, List.set_cons_zero, List.set_cons_succ]
  refine walkX_call (o := _) (by rw [HOPS.out]; simp only [List.getElem?_toArray, List.getElem?_cons_succ, List.getElem?_cons_zero]; exact rfl) (fun K HK => ?_)
  refine step_invoke rfl "aqueduct/stream.fill" (.tmp 22) #[(.tmp 20)] #[106] rfl (.iface st su) (by simp [Act.eval]) #[.pointer (some ⟨b, 2, none⟩)] (by simp [Act.eval]) (sto_fill (HH.out.keep0 fd)) ?_
  rintro e w2 ⟨a', cap', P', rfl, f2, h2⟩
  obtain ⟨k0, _, _, _, k4, _, _⟩ := h2.k.cells
  have k7 := h2.k.free 4
  refine ⟨_, rfl, ?_⟩
  refine HK.out (fun w' => w'.cell? ⟨b, 4, none⟩ = some (.int .i64 m.acc) ∧ w'.cell? ⟨b, 0, none⟩ = some (.iface st su)) _ _ (fun _ h => h) (⟨k4, k0⟩) ?_
  clear HK K
  simp only [Act.put, List.setIfInBounds_toArray, List.set_cons_zero, List.set_cons_succ]
  refine walkX_take (o := _) (v := ?_) (by rw [HOPS.out]; simp only [List.getElem?_toArray, List.getElem?_cons_succ, List.getElem?_cons_zero]; exact rfl) (Or.inl ⟨rfl, ?_⟩) ?_
  rotate_left
  · (intro w hSw; (try dsimp only at hSw); go_simp) <;> (with_reducible rfl)
  simp only [Act.put, List.setIfInBounds_toArray, List.set_cons_zero, List.set_cons_succ]
  refine walkX_take (o := _) (v := ?_) (by rw [HOPS.out]; simp only [List.getElem?_toArray, List.getElem?_cons_succ, List.getElem?_cons_zero]; exact rfl) (Or.inl ⟨rfl, ?_⟩) ?_
  rotate_left
  · (intro w hSw; (try dsimp only at hSw); go_simp) <;> (with_reducible rfl)
  simp only [Act.put, List.setIfInBounds_toArray, List.set_cons_zero, List.set_cons_succ]
  refine walkX_take (o := _) (v := ?_) (by rw [HOPS.out]; simp only [List.getElem?_toArray, List.getElem?_cons_succ, List.getElem?_cons_zero]; exact rfl) (Or.inl ⟨rfl, ?_⟩) ?_
  rotate_left
  · (intro w hSw; (try dsimp only at hSw); go_simp) <;> (with_reducible rfl)
  simp only [Act.put, List.setIfInBounds_toArray, List.set_cons_zero, List.set_cons_succ]
  refine walkX_tail ?_
  refine walkTail_step (o := _) (by rw [HOPS.out]; simp only [List.getElem?_toArray, List.getElem?_cons_succ, List.getElem?_cons_zero]; exact rfl) (fun K HK => ?_)
  go_simp
  refine HK.out _ _ ?_
  clear HK K
  try simp only [Act.put, List.setIfInBounds_toArray, List.set_cons_zero, List.set_cons_succ]
  refine walkTail_done ?_
  clear HOPS OPS
  rw [HWR.out]
  go_end0
  have hs1 : Fr (b :: L) w2 (w2.setCell ⟨b, 4, none⟩ (.int .i64 (m.acc + ((min (roomM m) m.rest.length : Nat) : Int)))) := (Fr.refl _ _).setCell (.inl (by simp)) _
  refine ⟨rfl, ((fd.mono (T := b :: L) (by simp)).then f2).then hs1, a', cap', P', ?_⟩
  obtain ⟨q1, q2, q3, q4, q5, q6, q7⟩ := h2
  have fb : Fr [b] w2 (w2.setCell ⟨b, 4, none⟩ (.int .i64 (m.acc + ((min (roomM m) m.rest.length : Nat) : Int)))) := (Fr.refl _ _).setCell (.inl (by simp)) _
  unfold pourM
  exact ⟨q1.acc _, q2.keep fb (fun x hx hm => by simp at hm; subst hm; exact q7 hx), q3.keep fb (fun x hx => by simp at hx; subst hx; exact q5), q4, q5, q6, q7⟩

theorem StB.drew {busy : Bool} {len : Nat} {n acc x y : Int} (h : StB w b sv busy a len cap n acc x y) : StB w.drew b sv busy a len cap n acc x y := h
theorem stop_blk {w' : World} {len : Nat} {n acc x y : Int} {busy : Bool} (h : StB w b sv busy a len cap n acc x y) (hw : w' = (((w.setCell ⟨b, 1, none⟩ (.bool false)).setCell ⟨b, 2, none⟩ (.slice none 0 0)).setCell ⟨b, 3, none⟩ (.int .i64 0)).setCell ⟨b, 4, none⟩ (.int .i64 0)) : StB w' b sv false none 0 0 0 0 x y := by
  have := heap_setCell_eq (i := 4) (u := .int .i64 0) (heap_setCell_eq (i := 3) (u := .int .i64 0) (heap_setCell_eq (i := 2) (u := .slice none 0 0) (heap_setCell_eq (i := 1) (u := .bool false) h)))
  unfold StB
  rw [hw, this]
  simp
theorem st_stop (h : StR w N L b m sv a cap P) :
    Calls Try.prog 80 #[.pointer (some ⟨b, 0, none⟩)] w fun e w' => e = .returned (.int .i64 m.acc) ∧ Fr [b] w w' ∧ StR w' N L b (stopM m) sv none 0 [] := by
  have HH := Lib.hid h
  obtain ⟨c0, c1, c2, c3, c4, _, _⟩ := h.k.cells
  have k1 := h.k.free 1
  have k2 := h.k.free 2
  have k3 := h.k.free 3
  have k4 := h.k.free 4
  clear h
  go_enter Try.func80, Try.ntmps80
  go_wp2_with fail
  go_ret
  have h := HH.out
  have f : Fr [b] w ((((w.setCell ⟨b, 1, none⟩ (.bool false)).setCell ⟨b, 2, none⟩ (.slice none 0 0)).setCell ⟨b, 3, none⟩ (.int .i64 0)).setCell ⟨b, 4, none⟩ (.int .i64 0)) := ((((Fr.refl _ _).setCell (.inl (by simp)) _).setCell (.inl (by simp)) _).setCell (.inl (by simp)) _).setCell (.inl (by simp)) _
  refine ⟨rfl, f, stop_blk h.k rfl, h.s.keep f (fun x hx hm => by simp at hm; subst hm; exact h.bl hx), Rp.none_ _ _, rfl, h.nb, h.nl, h.bl⟩

theorem begin_blk {w' : World} {len : Nat} {n acc x y : Int} {busy : Bool} (h : StB w b sv busy a len cap n acc x y) {ra : Option Addr} {rl rc : Nat} {rn : Int} (hw : w' = (((w.setCell ⟨b, 1, none⟩ (.bool true)).setCell ⟨b, 2, none⟩ (.slice ra rl rc)).setCell ⟨b, 3, none⟩ (.int .i64 rn)).setCell ⟨b, 4, none⟩ (.int .i64 0)) : StB w' b sv true ra rl rc rn 0 x y := by
  have := heap_setCell_eq (i := 4) (u := .int .i64 0) (heap_setCell_eq (i := 3) (u := .int .i64 rn) (heap_setCell_eq (i := 2) (u := .slice ra rl rc) (heap_setCell_eq (i := 1) (u := .bool true) h)))
  unfold StB
  rw [hw, this]
  simp
def BeginPost (w : World) (N N2 : Nat → Prop) (L : List Nat) (b : Nat) (r : SE) (e : Ending) (w' : World) : Prop :=
  e = .returned (.int .i64 r.err) ∧ Fr (b :: L) w w' ∧ St w' (fun x => N x ∨ N2 x ∨ w.heap.size ≤ x) L b r.m
set_option maxHeartbeats 1000000 in
theorem st_begin (h : St w N L b m) {N2 : Nat → Prop} {v : Value} {Q : Parts} (hr : Rp w N2 v Q) (hb2 : ¬ N2 b) (hL2 : ∀ x ∈ L, ¬ N2 x) :
    Calls Try.prog 29 #[.pointer (some ⟨b, 0, none⟩), v] w (BeginPost w N N2 L b (beginM m Q.flatten)) := by
  obtain ⟨hok, sv, a, cap, P, h⟩ := h
  obtain ⟨ra, rc, rfl, hrest⟩ := id hr
  obtain ⟨w0, hw0, f0, q0⟩ : ∃ W, w.alloc (.cells #[.slice ra Q.length rc, .int .i64 (tot Q)] 57) = W ∧ Fr [] w W ∧ W.heap[w.heap.size]? = some (.cells #[.slice ra Q.length rc, .int .i64 (tot Q)] 57 (0, 0)) := ⟨_, rfl, (Fr.refl _ _).alloc _, newA rfl⟩
  have h0 := h.keep0 f0
  obtain ⟨hbl, hll, hnb, hnl⟩ := h.lts
  have hs0 := f0.size
  have wide : ∀ w', Fr [] w0 w' → St w' (fun x => N x ∨ N2 x ∨ w.heap.size ≤ x) L b m := fun w' f => ⟨hok, _, _, _, _, (h0.keep0 f).mono (fun _ => .inl) (by rintro (h1 | h1 | h1); exact h.nb h1; exact hb2 h1; omega) (fun x hx h' => by
    have := hll x hx
    rcases h' with h1 | h1 | h1
    · exact h.nl x hx h1
    · exact hL2 x hx h1
    · omega)⟩
  obtain ⟨st, su, rfl⟩ := h.s.form
  have HZ := Lib.hid (st_none h0)
  obtain ⟨c0, c1, c2, c3, c4, c5, c6⟩ := h0.k.cells
  have HX := Lib.hid q0
  have HF0 := Lib.hid f0
  have HW := Lib.hid wide
  have Hlen : Q.flatten.length ≤ 65536 := hrest.2.2.2.2.2
  by_cases h1 : m.w = 0
  · rw [h1] at c5
    by_cases h2 : m.r = 0
    · rw [h2] at c6
      by_cases h3 : m.busy = true
      · have e : beginM m Q.flatten = ⟨m, 11⟩ := by unfold beginM; rw [if_neg (by simp [h1]), if_neg (by simp [h2]), if_pos h3]
        rw [e]
        rw [h3] at c1
        clear e h1 h2 h3 hok h h0 hr hrest wide q0 f0 hb2 hL2 hnb hnl hll
        go_enter Try.func29, Try.ntmps29
        go_wp2_with fail
        refine HZ.out.mono ?_
        rintro e w' ⟨rfl, rfl⟩
        go_wp2_with fail
        go_ret
        exact ⟨rfl, HF0.out.mono (by simp), HW.out _ (Fr.refl _ _)⟩
      · have e : beginM m Q.flatten = ⟨fillM { m with busy := true, rest := Q.flatten, acc := 0 }, 0⟩ := by unfold beginM; rw [if_neg (by simp [h1]), if_neg (by simp [h2]), if_neg h3]
        rw [e]
        have h3' : m.busy = false := by simpa using h3
        rw [h3'] at c1
        have k1 := h0.k.free 1
        have k2 := h0.k.free 2
        have k3 := h0.k.free 3
        have k4 := h0.k.free 4
        have hbw : b ≠ w.heap.size := by omega
        have hz0 := lt_of_heap q0
        have hok2 : SOk (fillM { m with busy := true, rest := Q.flatten, acc := 0 }) := fillM_ok hok.c0 hok.c1 hok.q1 hok.w0 hok.w1 hok.r0 hok.r1 hok.rq (by simp) (by simp) (by dsimp only; omega)
        obtain ⟨w1, hw1, hk1, f1⟩ : ∃ W, ((((w0.setCell ⟨b, 1, none⟩ (.bool true)).setCell ⟨b, 2, none⟩ (.slice ra Q.length rc)).setCell ⟨b, 3, none⟩ (.int .i64 (tot Q))).setCell ⟨b, 4, none⟩ (.int .i64 0)).drew = W ∧ StB W b (.iface st su) true ra Q.length rc (tot Q) 0 m.w m.r ∧ Fr [b] w0 W :=
          ⟨_, rfl, StB.drew (begin_blk h0.k rfl), (((((Fr.refl [b] w0).setCell (.inl (by simp)) _).setCell (.inl (by simp)) _).setCell (.inl (by simp)) _).setCell (.inl (by simp)) _).drew⟩
        have fb1 : ∀ x ∈ [b], ¬ N2 x := fun x hx => by simp at hx; subst hx; exact hb2
        have h1s : StR w1 N2 L b { m with busy := true, rest := Q.flatten, acc := 0 } (.iface st su) ra rc Q := ⟨hk1, h0.s.keep f1 (fun x hx hm => by simp at hm; subst hm; exact h.bl hx), (hr.keep f0 (by simp)).keep f1 fb1, rfl, hb2, hL2, h.bl⟩
        have HRF := Lib.hid (st_refill h1s (by simp))
        have HOK := Lib.hid hok2
        have HG1 := Lib.hid ((f0.mono (T := b :: L) (by simp)).trans f1 (fun _ h => .inl h) (fun x hx => .inl (by simp at hx; simp [hx])))
        have HFB := Lib.hid (And.intro hll f1.size)
        clear e h1 h2 h3 h3' hok hok2 h h0 hr hrest wide q0 f0 hb2 hL2 hnb hnl h1s hk1 f1 fb1 hll Hlen
        go_enter Try.func29, Try.ntmps29
        go_wp2_with fail
        refine HZ.out.mono ?_
        rintro e w' ⟨rfl, rfl⟩
        go_wp2_with fail
        have fd : Fr [] w0 w0.drew := (Fr.refl _ _).drew
        have hx0 := HX.out
        have hx1 := keepS (a := ⟨b, 1, none⟩) (v := .bool true) hx0 (by dsimp only; omega)
        have hx2 := keepS (a := ⟨b, 3, none⟩) (v := .int .i64 (tot Q)) (keepS (a := ⟨b, 2, none⟩) (v := .slice ra Q.length rc) hx1 (by dsimp only; omega)) (by dsimp only; omega)
        have hx3 := keepS (a := ⟨b, 4, none⟩) (v := .int .i64 0) hx2 (by dsimp only; omega)
        have hx4 := heap_drew.trans hx3
        rw [hw1] at hx4
        refine wp_region_order [(0, true), (1, true), (2, true), (3, true), (4, true), (5, true), (6, false), (7, true), (8, true), (9, false), (10, true), (11, true), (12, false)] (fun w' => w'.cell? ⟨w.heap.size, 0, none⟩ = some (.slice ra Q.length rc) ∧ w'.cell? ⟨w.heap.size, 1, none⟩ = some (.int .i64 (tot Q))) (by kernel_rfl) (by kernel_rfl) ⟨cell_of (heap_drew.trans hx0), cell_of (heap_drew.trans hx0)⟩ ?_
        intro OPS HOPS
        have hops := HOPS.out
        try simp only [List.append_eq, List.cons_append, List.nil_append] at hops
        replace HOPS := Lib.hid hops
        clear hops
        refine walkO_take (o := _) (v := ?_) (by rw [HOPS.out]; simp only [List.getElem?_toArray, List.getElem?_cons_succ, List.getElem?_cons_zero]; exact rfl) (Or.inl ⟨rfl, ?_⟩) ?_
        rotate_left
        · (intro w hSw; (try dsimp only at hSw); go_simp) <;> (with_reducible rfl)
        simp only [Act.put, List.setIfInBounds_toArray, List.set_cons_zero, List.set_cons_succ]
        refine walkO_take (o := _) (v := ?_) (by rw [HOPS.out]; simp only [List.getElem?_toArray, List.getElem?_cons_succ, List.getElem?_cons_zero]; exact rfl) (Or.inl ⟨rfl, ?_⟩) ?_
        rotate_left
        · (intro w hSw; (try dsimp only at hSw); go_simp) <;> (with_reducible rfl)
        simp only [Act.put, List.setIfInBounds_toArray, List.set_cons_zero, List.set_cons_succ]
        refine walkO_take (o := _) (v := ?_) (by rw [HOPS.out]; simp only [List.getElem?_toArray, List.getElem?_cons_succ, List.getElem?_cons_zero]; exact rfl) (Or.inl ⟨rfl, ?_⟩) ?_
        rotate_left
        · (intro w hSw; (try dsimp only at hSw); go_simp) <;> (with_reducible rfl)
        simp only [Act.put, List.setIfInBounds_toArray, List.set_cons_zero, List.set_cons_succ]
        refine walkO_take (o := _) (v := ?_) (by rw [HOPS.out]; simp only [List.getElem?_toArray, List.getElem?_cons_succ, List.getElem?_cons_zero]; exact rfl) (Or.inl ⟨rfl, ?_⟩) ?_
        rotate_left
        · (intro w hSw; (try dsimp only at hSw); go_simp) <;> (with_reducible rfl)
        simp only [Act.put, List.setIfInBounds_toArray, List.set_cons_zero, List.set_cons_succ]
        refine walkO_take (o := _) (v := ?_) (by rw [HOPS.out]; simp only [List.getElem?_toArray, List.getElem?_cons_succ, List.getElem?_cons_zero]; exact rfl) (Or.inl ⟨rfl, ?_⟩) ?_
        rotate_left
        · (intro w hSw; (try dsimp only at hSw); go_simp) <;> (with_reducible rfl)
        simp only [Act.put, List.setIfInBounds_toArray, List.set_cons_zero, List.set_cons_succ]
        refine walkO_take (o := _) (v := ?_) (by rw [HOPS.out]; simp only [List.getElem?_toArray, List.getElem?_cons_succ, List.getElem?_cons_zero]; exact rfl) (Or.inl ⟨rfl, ?_⟩) ?_
        rotate_left
        · (intro w hSw; (try dsimp only at hSw); go_simp) <;> (with_reducible rfl)
        simp only [Act.put, List.setIfInBounds_toArray, List.set_cons_zero, List.set_cons_succ]
        refine walkO_call (o := _) (by rw [HOPS.out]; simp only [List.getElem?_toArray, List.getElem?_cons_succ, List.getElem?_cons_zero]; exact rfl) (fun K HK => ?_)
        go_simp
        refine HK.out (fun w' => w'.cell? ⟨w.heap.size, 0, none⟩ = some (.slice ra Q.length rc) ∧ w'.cell? ⟨w.heap.size, 1, none⟩ = some (.int .i64 (tot Q))) _ _ (fun _ h => h) (⟨cell_of (heap_drew.trans hx1), cell_of (heap_drew.trans hx1)⟩) ?_
        clear HK K
        try simp only [Act.put, List.setIfInBounds_toArray, List.set_cons_zero, List.set_cons_succ]
        refine walkO_take (o := _) (v := ?_) (by rw [HOPS.out]; simp only [List.getElem?_toArray, List.getElem?_cons_succ, List.getElem?_cons_zero]; exact rfl) (Or.inl ⟨rfl, ?_⟩) ?_
        rotate_left
        · (intro w hSw; (try dsimp only at hSw); go_simp) <;> (with_reducible rfl)
        simp only [Act.put, List.setIfInBounds_toArray, List.set_cons_zero, List.set_cons_succ]
        refine walkO_take (o := _) (v := ?_) (by rw [HOPS.out]; simp only [List.getElem?_toArray, List.getElem?_cons_succ, List.getElem?_cons_zero]; exact rfl) (Or.inl ⟨rfl, ?_⟩) ?_
        rotate_left
        · (intro w hSw; (try dsimp only at hSw); go_simp) <;> (with_reducible rfl)
        simp only [Act.put, List.setIfInBounds_toArray, List.set_cons_zero, List.set_cons_succ]
        refine walkO_call (o := _) (by rw [HOPS.out]; simp only [List.getElem?_toArray, List.getElem?_cons_succ, List.getElem?_cons_zero]; exact rfl) (fun K HK => ?_)
        go_simp
        refine HK.out (fun w' => w'.cell? ⟨w.heap.size, 0, none⟩ = some (.slice ra Q.length rc) ∧ w'.cell? ⟨w.heap.size, 1, none⟩ = some (.int .i64 (tot Q))) _ _ (fun _ h => h) (⟨cell_of (heap_drew.trans hx2), cell_of (heap_drew.trans hx2)⟩) ?_
        clear HK K
        try simp only [Act.put, List.setIfInBounds_toArray, List.set_cons_zero, List.set_cons_succ]
        refine walkO_take (o := _) (v := ?_) (by rw [HOPS.out]; simp only [List.getElem?_toArray, List.getElem?_cons_succ, List.getElem?_cons_zero]; exact rfl) (Or.inl ⟨rfl, ?_⟩) ?_
        rotate_left
        · (intro w hSw; (try dsimp only at hSw); go_simp) <;> (with_reducible rfl)
        simp only [Act.put, List.setIfInBounds_toArray, List.set_cons_zero, List.set_cons_succ]
        refine walkO_take (o := _) (v := ?_) (by rw [HOPS.out]; simp only [List.getElem?_toArray, List.getElem?_cons_succ, List.getElem?_cons_zero]; exact rfl) (Or.inl ⟨rfl, ?_⟩) ?_
        rotate_left
        · (intro w hSw; (try dsimp only at hSw); go_simp) <;> (with_reducible rfl)
        simp only [Act.put, List.setIfInBounds_toArray, List.set_cons_zero, List.set_cons_succ]
        refine walkO_call (o := _) (by rw [HOPS.out]; simp only [List.getElem?_toArray, List.getElem?_cons_succ, List.getElem?_cons_zero]; exact rfl) (fun K HK => ?_)
        go_simp
        refine HK.out (fun w' => w'.cell? ⟨w.heap.size, 0, none⟩ = some (.slice ra Q.length rc) ∧ w'.cell? ⟨w.heap.size, 1, none⟩ = some (.int .i64 (tot Q))) _ _ (fun _ h => h) (⟨cell_of hx4, cell_of hx4⟩) ?_
        clear HK K
        try simp only [Act.put, List.setIfInBounds_toArray, List.set_cons_zero, List.set_cons_succ]
        refine walkO_done ?_
        clear HOPS OPS
        go_wp2_with fail
        refine HRF.out.mono ?_
        rintro e w2 ⟨rfl, f2, a2, cap2, P2, h2⟩
        go_wp2_with fail
        go_ret
        obtain ⟨hll, hs1⟩ := HFB.out
        obtain ⟨lt1, lt2, _, _⟩ := (show b < w0.heap.size ∧ w.heap.size ≤ w0.heap.size ∧ True ∧ True from ⟨by omega, hs0, trivial, trivial⟩)
        refine ⟨rfl, HG1.out.then f2, HOK.out, _, _, _, _, h2.mono (fun x hx => ?_) ?_ (fun x hx => ?_)⟩
        · rcases hx with hx | hx
          · exact .inr (.inl hx)
          · exact .inr (.inr (by omega))
        · rintro (hx | hx | hx)
          · exact (HW.out _ (Fr.refl _ _)).2.choose_spec.choose_spec.choose_spec.choose_spec.nb (.inl hx)
          · exact h2.nb (.inl hx)
          · omega
        · intro h'
          have := hll x hx
          rcases h' with h' | h' | h'
          · exact (HW.out _ (Fr.refl _ _)).2.choose_spec.choose_spec.choose_spec.choose_spec.nl x hx (.inl h')
          · exact h2.nl x hx (.inl h')
          · omega
    · have e : beginM m Q.flatten = ⟨m, m.r⟩ := by unfold beginM; rw [if_neg (by simp [h1]), if_pos h2]
      rw [e]
      obtain ⟨n1, n2⟩ : (m.r == 0) = false ∧ (m.r != 0) = true := by simp [h2]
      clear e h1 h2 hok h h0 hr hrest wide q0 f0 hb2 hL2 hnb hnl hll
      go_enter Try.func29, Try.ntmps29
      go_wp2_with fail
      refine HZ.out.mono ?_
      rintro e w' ⟨rfl, rfl⟩
      go_wp2_with fail
      go_ret
      exact ⟨rfl, HF0.out.mono (by simp), HW.out _ (Fr.refl _ _)⟩
  · have e : beginM m Q.flatten = ⟨m, 14⟩ := by unfold beginM; rw [if_pos h1]
    rw [e]
    obtain ⟨n1, n2⟩ : (m.w == 0) = false ∧ (m.w != 0) = true := by simp [h1]
    clear e h1 hok h h0 hr hrest wide q0 f0 hb2 hL2 hnb hnl hll
    go_enter Try.func29, Try.ntmps29
    go_wp2_with fail
    refine HZ.out.mono ?_
    rintro e w' ⟨rfl, rfl⟩
    go_wp2_with fail
    go_ret
    exact ⟨rfl, HF0.out.mono (by simp), HW.out _ (Fr.refl _ _)⟩

theorem rest_nil {h : P.flatten = m.rest} : tot P = m.rest.length := by rw [← h]; rfl
set_option maxHeartbeats 1000000 in
theorem st_progress (h : St w N L b m) :
    Calls Try.prog 31 #[.pointer (some ⟨b, 0, none⟩)] w fun e w' => e = .returned (.tuple #[.int .i64 m.acc, .bool (atEndM m)]) ∧ Fr [] w w' := by
  obtain ⟨hok, sv, a, cap, P, h⟩ := h
  obtain ⟨st, su, rfl⟩ := h.s.form
  have htl : tot P = m.rest.length := by rw [← h.e]; rfl
  have HH := Lib.hid h
  have HZ := Lib.hid (st_none h)
  have HEL := Lib.hid (Go.Proofs.enters_of Try.func57 (by kernel_rfl) rfl)
  have HEO := Lib.hid (Go.Proofs.enters_of Try.func79 (by kernel_rfl) rfl)
  have HFA := Lib.hid fun (w' : World) (f : Fr [] w w') => (show w'.cell? ⟨b, 1, none⟩ = some (.bool m.busy) ∧ w'.cell? ⟨b, 2, none⟩ = some (.slice a P.length cap) ∧ w'.cell? ⟨b, 3, none⟩ = some (.int .i64 (tot P)) ∧ w'.cell? ⟨b, 4, none⟩ = some (.int .i64 m.acc) from
    ⟨(h.keep0 f).k.cells.c1, (h.keep0 f).k.cells.c2, (h.keep0 f).k.cells.c3, (h.keep0 f).k.cells.c4⟩)
  by_cases hb : m.busy = false
  · have e : atEndM m = false := by unfold atEndM; rw [hb]; rfl
    rw [e]
    rw [hb] at HFA
    clear h hok htl hb e
    go_enter Try.func31, Try.ntmps31
    go_wp2_with fail
    refine HZ.out.mono ?_
    rintro e w' ⟨rfl, rfl⟩
    go_wp2_with fail
    have fd : Fr [] w w.drew := (Fr.refl _ _).drew
    refine wp_region_order [(0, true), (1, true), (2, true), (3, true), (4, true), (5, true), (6, true), (7, true), (8, true), (9, true), (10, true), (11, true), (12, true), (13, true), (14, true), (15, true), (16, true), (17, true), (18, true), (19, true), (20, true), (21, true), (22, true)] (fun w' => Fr [] w w') (by kernel_rfl) (by kernel_rfl) fd ?_
    intro OPS HOPS
    have hops := HOPS.out
    try simp only [List.append_eq, List.cons_append, List.nil_append] at hops
    replace HOPS := Lib.hid hops
    clear hops
    refine walkO_take (o := _) (v := ?_) (by rw [HOPS.out]; simp only [List.getElem?_toArray, List.getElem?_cons_succ, List.getElem?_cons_zero]; exact rfl) (Or.inl ⟨rfl, ?_⟩) ?_
    rotate_left
    · (intro w hSw; have hSx := HFA.out _ hSw; (try dsimp only at hSx); clear hSw; go_simp) <;> (with_reducible rfl)
    simp only [Act.put, List.setIfInBounds_toArray, List.set_cons_zero, List.set_cons_succ]
    refine walkO_take (o := _) (v := ?_) (by rw [HOPS.out]; simp only [List.getElem?_toArray, List.getElem?_cons_succ, List.getElem?_cons_zero]; exact rfl) (Or.inl ⟨rfl, ?_⟩) ?_
    rotate_left
    · (intro w hSw; have hSx := HFA.out _ hSw; (try dsimp only at hSx); clear hSw; go_simp) <;> (with_reducible rfl)
    simp only [Act.put, List.setIfInBounds_toArray, List.set_cons_zero, List.set_cons_succ]
    refine walkO_take (o := _) (v := ?_) (by rw [HOPS.out]; simp only [List.getElem?_toArray, List.getElem?_cons_succ, List.getElem?_cons_zero]; exact rfl) (Or.inl ⟨rfl, ?_⟩) ?_
    rotate_left
    · (intro w hSw; have hSx := HFA.out _ hSw; (try dsimp only at hSx); clear hSw; go_simp) <;> (with_reducible rfl)
    simp only [Act.put, List.setIfInBounds_toArray, List.set_cons_zero, List.set_cons_succ]
    refine walkO_take (o := _) (v := ?_) (by rw [HOPS.out]; simp only [List.getElem?_toArray, List.getElem?_cons_succ, List.getElem?_cons_zero]; exact rfl) (Or.inl ⟨rfl, ?_⟩) ?_
    rotate_left
    · (intro w hSw; have hSx := HFA.out _ hSw; (try dsimp only at hSx); clear hSw; go_simp) <;> (with_reducible rfl)
    simp only [Act.put, List.setIfInBounds_toArray, List.set_cons_zero, List.set_cons_succ]
    refine walkO_take (o := _) (v := ?_) (by rw [HOPS.out]; simp only [List.getElem?_toArray, List.getElem?_cons_succ, List.getElem?_cons_zero]; exact rfl) (Or.inl ⟨rfl, ?_⟩) ?_
    rotate_left
    · (intro w hSw; have hSx := HFA.out _ hSw; (try dsimp only at hSx); clear hSw; go_simp) <;> (with_reducible rfl)
    simp only [Act.put, List.setIfInBounds_toArray, List.set_cons_zero, List.set_cons_succ]
    refine walkO_take (o := _) (v := ?_) (by rw [HOPS.out]; simp only [List.getElem?_toArray, List.getElem?_cons_succ, List.getElem?_cons_zero]; exact rfl) (Or.inl ⟨rfl, ?_⟩) ?_
    rotate_left
    · (intro w hSw; have hSx := HFA.out _ hSw; (try dsimp only at hSx); clear hSw; go_simp) <;> (with_reducible rfl)
    simp only [Act.put, List.setIfInBounds_toArray, List.set_cons_zero, List.set_cons_succ]
    refine walkO_take (o := _) (v := ?_) (by rw [HOPS.out]; simp only [List.getElem?_toArray, List.getElem?_cons_succ, List.getElem?_cons_zero]; exact rfl) (Or.inl ⟨rfl, ?_⟩) ?_
    rotate_left
    · (intro w hSw; have hSx := HFA.out _ hSw; (try dsimp only at hSx); clear hSw; go_simp) <;> (with_reducible rfl)
    simp only [Act.put, List.setIfInBounds_toArray, List.set_cons_zero, List.set_cons_succ]
    refine walkO_take (o := _) (v := ?_) (by rw [HOPS.out]; simp only [List.getElem?_toArray, List.getElem?_cons_succ, List.getElem?_cons_zero]; exact rfl) (Or.inl ⟨rfl, ?_⟩) ?_
    rotate_left
    · (intro w hSw; have hSx := HFA.out _ hSw; (try dsimp only at hSx); clear hSw; go_simp) <;> (with_reducible rfl)
    simp only [Act.put, List.setIfInBounds_toArray, List.set_cons_zero, List.set_cons_succ]
    refine walkO_take (o := _) (v := ?_) (by rw [HOPS.out]; simp only [List.getElem?_toArray, List.getElem?_cons_succ, List.getElem?_cons_zero]; exact rfl) (Or.inl ⟨rfl, ?_⟩) ?_
    rotate_left
    · (intro w hSw; have hSx := HFA.out _ hSw; (try dsimp only at hSx); clear hSw; go_simp) <;> (with_reducible rfl)
    simp only [Act.put, List.setIfInBounds_toArray, List.set_cons_zero, List.set_cons_succ]
    refine walkO_take (o := _) (v := undef) (by rw [HOPS.out]; simp only [List.getElem?_toArray, List.getElem?_cons_succ, List.getElem?_cons_zero]; exact rfl) (Or.inr ⟨by rw [HOPS.out]; rfl, rfl⟩) ?_
    simp only [Act.put, List.setIfInBounds_toArray, List.set_cons_zero, List.set_cons_succ]
    refine walkO_take (o := _) (v := undef) (by rw [HOPS.out]; simp only [List.getElem?_toArray, List.getElem?_cons_succ, List.getElem?_cons_zero]; exact rfl) (Or.inr ⟨by rw [HOPS.out]; rfl, rfl⟩) ?_
    simp only [Act.put, List.setIfInBounds_toArray, List.set_cons_zero, List.set_cons_succ]
    refine walkO_take (o := _) (v := undef) (by rw [HOPS.out]; simp only [List.getElem?_toArray, List.getElem?_cons_succ, List.getElem?_cons_zero]; exact rfl) (Or.inr ⟨by rw [HOPS.out]; rfl, rfl⟩) ?_
    simp only [Act.put, List.setIfInBounds_toArray, List.set_cons_zero, List.set_cons_succ]
    refine walkO_take (o := _) (v := undef) (by rw [HOPS.out]; simp only [List.getElem?_toArray, List.getElem?_cons_succ, List.getElem?_cons_zero]; exact rfl) (Or.inr ⟨by rw [HOPS.out]; rfl, rfl⟩) ?_
    simp only [Act.put, List.setIfInBounds_toArray, List.set_cons_zero, List.set_cons_succ]
    refine walkO_take (o := _) (v := undef) (by rw [HOPS.out]; simp only [List.getElem?_toArray, List.getElem?_cons_succ, List.getElem?_cons_zero]; exact rfl) (Or.inr ⟨by rw [HOPS.out]; rfl, rfl⟩) ?_
    simp only [Act.put, List.setIfInBounds_toArray, List.set_cons_zero, List.set_cons_succ]
    refine walkO_take (o := _) (v := undef) (by rw [HOPS.out]; simp only [List.getElem?_toArray, List.getElem?_cons_succ, List.getElem?_cons_zero]; exact rfl) (Or.inr ⟨by rw [HOPS.out]; rfl, rfl⟩) ?_
    simp only [Act.put, List.setIfInBounds_toArray, List.set_cons_zero, List.set_cons_succ]
    refine walkO_take (o := _) (v := undef) (by rw [HOPS.out]; simp only [List.getElem?_toArray, List.getElem?_cons_succ, List.getElem?_cons_zero]; exact rfl) (Or.inr ⟨by rw [HOPS.out]; rfl, rfl⟩) ?_
    simp only [Act.put, List.setIfInBounds_toArray, List.set_cons_zero, List.set_cons_succ]
    refine walkO_take (o := _) (v := undef) (by rw [HOPS.out]; simp only [List.getElem?_toArray, List.getElem?_cons_succ, List.getElem?_cons_zero]; exact rfl) (Or.inr ⟨by rw [HOPS.out]; rfl, rfl⟩) ?_
    simp only [Act.put, List.setIfInBounds_toArray, List.set_cons_zero, List.set_cons_succ]
    refine walkO_take (o := _) (v := undef) (by rw [HOPS.out]; simp only [List.getElem?_toArray, List.getElem?_cons_succ, List.getElem?_cons_zero]; exact rfl) (Or.inr ⟨by rw [HOPS.out]; rfl, rfl⟩) ?_
    simp only [Act.put, List.setIfInBounds_toArray, List.set_cons_zero, List.set_cons_succ]
    refine walkO_take (o := _) (v := undef) (by rw [HOPS.out]; simp only [List.getElem?_toArray, List.getElem?_cons_succ, List.getElem?_cons_zero]; exact rfl) (Or.inr ⟨by rw [HOPS.out]; rfl, rfl⟩) ?_
    simp only [Act.put, List.setIfInBounds_toArray, List.set_cons_zero, List.set_cons_succ]
    refine walkO_take (o := _) (v := undef) (by rw [HOPS.out]; simp only [List.getElem?_toArray, List.getElem?_cons_succ, List.getElem?_cons_zero]; exact rfl) (Or.inr ⟨by rw [HOPS.out]; rfl, rfl⟩) ?_
    simp only [Act.put, List.setIfInBounds_toArray, List.set_cons_zero, List.set_cons_succ]
    refine walkO_take (o := _) (v := ?_) (by rw [HOPS.out]; simp only [List.getElem?_toArray, List.getElem?_cons_succ, List.getElem?_cons_zero]; exact rfl) (Or.inl ⟨rfl, ?_⟩) ?_
    rotate_left
    · (intro w hSw; have hSx := HFA.out _ hSw; (try dsimp only at hSx); clear hSw; go_simp) <;> (with_reducible rfl)
    simp only [Act.put, List.setIfInBounds_toArray, List.set_cons_zero, List.set_cons_succ]
    refine walkO_take (o := _) (v := ?_) (by rw [HOPS.out]; simp only [List.getElem?_toArray, List.getElem?_cons_succ, List.getElem?_cons_zero]; exact rfl) (Or.inl ⟨rfl, ?_⟩) ?_
    rotate_left
    · (intro w hSw; have hSx := HFA.out _ hSw; (try dsimp only at hSx); clear hSw; go_simp) <;> (with_reducible rfl)
    simp only [Act.put, List.setIfInBounds_toArray, List.set_cons_zero, List.set_cons_succ]
    refine walkO_take (o := _) (v := ?_) (by rw [HOPS.out]; simp only [List.getElem?_toArray, List.getElem?_cons_succ, List.getElem?_cons_zero]; exact rfl) (Or.inl ⟨rfl, ?_⟩) ?_
    rotate_left
    · (intro w hSw; have hSx := HFA.out _ hSw; (try dsimp only at hSx); clear hSw; go_simp) <;> (with_reducible rfl)
    simp only [Act.put, List.setIfInBounds_toArray, List.set_cons_zero, List.set_cons_succ]
    refine walkO_done ?_
    clear HOPS OPS
    go_wp2_with fail
    go_ret2
    exact ⟨rfl, fd⟩
  have hb' : m.busy = true := by simpa using hb
  rw [hb'] at HFA
  by_cases hr : m.rest = []
  · have e : atEndM m = true := by unfold atEndM; rw [hb', hr]; rfl
    have hz : ((tot P : Int) == 0) = true := by rw [htl, hr]; rfl
    rw [e]
    clear h hok htl hb hb' e hr
    go_enter Try.func31, Try.ntmps31
    go_wp2_with fail
    refine HZ.out.mono ?_
    rintro e w' ⟨rfl, rfl⟩
    go_wp2_with fail
    have fd : Fr [] w w.drew := (Fr.refl _ _).drew
    refine wp_region_order [(0, true), (1, true), (2, true), (3, true), (4, true), (5, true), (6, true), (7, true), (8, true), (9, true), (10, true), (11, true), (12, true), (13, false), (14, true), (15, true), (16, true), (17, true), (18, true), (19, true), (20, true), (21, true), (22, true)] (fun w' => Fr [] w w') (by kernel_rfl) (by kernel_rfl) fd ?_
    intro OPS HOPS
    have hops := HOPS.out
    try simp only [List.append_eq, List.cons_append, List.nil_append] at hops
    replace HOPS := Lib.hid hops
    clear hops
    refine walkO_take (o := _) (v := ?_) (by rw [HOPS.out]; simp only [List.getElem?_toArray, List.getElem?_cons_succ, List.getElem?_cons_zero]; exact rfl) (Or.inl ⟨rfl, ?_⟩) ?_
    rotate_left
    · (intro w hSw; have hSx := HFA.out _ hSw; (try dsimp only at hSx); clear hSw; go_simp) <;> (with_reducible rfl)
    simp only [Act.put, List.setIfInBounds_toArray, List.set_cons_zero, List.set_cons_succ]
    refine walkO_take (o := _) (v := ?_) (by rw [HOPS.out]; simp only [List.getElem?_toArray, List.getElem?_cons_succ, List.getElem?_cons_zero]; exact rfl) (Or.inl ⟨rfl, ?_⟩) ?_
    rotate_left
    · (intro w hSw; have hSx := HFA.out _ hSw; (try dsimp only at hSx); clear hSw; go_simp) <;> (with_reducible rfl)
    simp only [Act.put, List.setIfInBounds_toArray, List.set_cons_zero, List.set_cons_succ]
    refine walkO_take (o := _) (v := ?_) (by rw [HOPS.out]; simp only [List.getElem?_toArray, List.getElem?_cons_succ, List.getElem?_cons_zero]; exact rfl) (Or.inl ⟨rfl, ?_⟩) ?_
    rotate_left
    · (intro w hSw; have hSx := HFA.out _ hSw; (try dsimp only at hSx); clear hSw; go_simp) <;> (with_reducible rfl)
    simp only [Act.put, List.setIfInBounds_toArray, List.set_cons_zero, List.set_cons_succ]
    refine walkO_take (o := _) (v := ?_) (by rw [HOPS.out]; simp only [List.getElem?_toArray, List.getElem?_cons_succ, List.getElem?_cons_zero]; exact rfl) (Or.inl ⟨rfl, ?_⟩) ?_
    rotate_left
    · (intro w hSw; have hSx := HFA.out _ hSw; (try dsimp only at hSx); clear hSw; go_simp) <;> (with_reducible rfl)
    simp only [Act.put, List.setIfInBounds_toArray, List.set_cons_zero, List.set_cons_succ]
    refine walkO_take (o := _) (v := ?_) (by rw [HOPS.out]; simp only [List.getElem?_toArray, List.getElem?_cons_succ, List.getElem?_cons_zero]; exact rfl) (Or.inl ⟨rfl, ?_⟩) ?_
    rotate_left
    · (intro w hSw; have hSx := HFA.out _ hSw; (try dsimp only at hSx); clear hSw; go_simp) <;> (with_reducible rfl)
    simp only [Act.put, List.setIfInBounds_toArray, List.set_cons_zero, List.set_cons_succ]
    refine walkO_take (o := _) (v := ?_) (by rw [HOPS.out]; simp only [List.getElem?_toArray, List.getElem?_cons_succ, List.getElem?_cons_zero]; exact rfl) (Or.inl ⟨rfl, ?_⟩) ?_
    rotate_left
    · (intro w hSw; have hSx := HFA.out _ hSw; (try dsimp only at hSx); clear hSw; go_simp) <;> (with_reducible rfl)
    simp only [Act.put, List.setIfInBounds_toArray, List.set_cons_zero, List.set_cons_succ]
    refine walkO_take (o := _) (v := ?_) (by rw [HOPS.out]; simp only [List.getElem?_toArray, List.getElem?_cons_succ, List.getElem?_cons_zero]; exact rfl) (Or.inl ⟨rfl, ?_⟩) ?_
    rotate_left
    · (intro w hSw; have hSx := HFA.out _ hSw; (try dsimp only at hSx); clear hSw; go_simp) <;> (with_reducible rfl)
    simp only [Act.put, List.setIfInBounds_toArray, List.set_cons_zero, List.set_cons_succ]
    refine walkO_take (o := _) (v := ?_) (by rw [HOPS.out]; simp only [List.getElem?_toArray, List.getElem?_cons_succ, List.getElem?_cons_zero]; exact rfl) (Or.inl ⟨rfl, ?_⟩) ?_
    rotate_left
    · (intro w hSw; have hSx := HFA.out _ hSw; (try dsimp only at hSx); clear hSw; go_simp) <;> (with_reducible rfl)
    simp only [Act.put, List.setIfInBounds_toArray, List.set_cons_zero, List.set_cons_succ]
    refine walkO_take (o := _) (v := ?_) (by rw [HOPS.out]; simp only [List.getElem?_toArray, List.getElem?_cons_succ, List.getElem?_cons_zero]; exact rfl) (Or.inl ⟨rfl, ?_⟩) ?_
    rotate_left
    · (intro w hSw; have hSx := HFA.out _ hSw; (try dsimp only at hSx); clear hSw; go_simp) <;> (with_reducible rfl)
    simp only [Act.put, List.setIfInBounds_toArray, List.set_cons_zero, List.set_cons_succ]
    refine walkO_take (o := _) (v := ?_) (by rw [HOPS.out]; simp only [List.getElem?_toArray, List.getElem?_cons_succ, List.getElem?_cons_zero]; exact rfl) (Or.inl ⟨by rw [HOPS.out]; rfl, ?_⟩) ?_
    rotate_left
    · (intro w hSw; have hSx := HFA.out _ hSw; (try dsimp only at hSx); clear hSw; go_simp) <;> (with_reducible rfl)
    simp only [Act.put, List.setIfInBounds_toArray, List.set_cons_zero, List.set_cons_succ]
    refine walkO_take (o := _) (v := ?_) (by rw [HOPS.out]; simp only [List.getElem?_toArray, List.getElem?_cons_succ, List.getElem?_cons_zero]; exact rfl) (Or.inl ⟨by rw [HOPS.out]; rfl, ?_⟩) ?_
    rotate_left
    · (intro w hSw; have hSx := HFA.out _ hSw; (try dsimp only at hSx); clear hSw; go_simp) <;> (with_reducible rfl)
    simp only [Act.put, List.setIfInBounds_toArray, List.set_cons_zero, List.set_cons_succ]
    refine walkO_take (o := _) (v := ?_) (by rw [HOPS.out]; simp only [List.getElem?_toArray, List.getElem?_cons_succ, List.getElem?_cons_zero]; exact rfl) (Or.inl ⟨by rw [HOPS.out]; rfl, ?_⟩) ?_
    rotate_left
    · (intro w hSw; have hSx := HFA.out _ hSw; (try dsimp only at hSx); clear hSw; go_simp) <;> (with_reducible rfl)
    simp only [Act.put, List.setIfInBounds_toArray, List.set_cons_zero, List.set_cons_succ]
    refine walkO_take (o := _) (v := ?_) (by rw [HOPS.out]; simp only [List.getElem?_toArray, List.getElem?_cons_succ, List.getElem?_cons_zero]; exact rfl) (Or.inl ⟨by rw [HOPS.out]; rfl, ?_⟩) ?_
    rotate_left
    · (intro w hSw; have hSx := HFA.out _ hSw; (try dsimp only at hSx); clear hSw; go_simp) <;> (with_reducible rfl)
    simp only [Act.put, List.setIfInBounds_toArray, List.set_cons_zero, List.set_cons_succ]
    refine walkO_call (o := _) (by rw [HOPS.out]; simp only [List.getElem?_toArray, List.getElem?_cons_succ, List.getElem?_cons_zero]; exact rfl) (fun K HK => ?_)
    refine step_call (by rw [HOPS.out]; rfl) 57 #[(.tmp 18)] #[57] rfl HEL.out #[.agg #[.slice a P.length cap, .int .i64 (tot P)]] (by simp [Act.eval]) (rope_len (HH.out.keep0 fd).p) ?_
    rintro e w2 ⟨rfl, f2⟩
    have g2 : Fr [] w w2 := fd.then0 f2
    refine ⟨_, rfl, ?_⟩
    refine HK.out (fun w' => Fr [] w w') _ _ (fun _ h => h) (g2) ?_
    clear HK K
    simp only [Act.put, List.setIfInBounds_toArray, List.set_cons_zero, List.set_cons_succ]
    refine walkO_take (o := _) (v := ?_) (by rw [HOPS.out]; simp only [List.getElem?_toArray, List.getElem?_cons_succ, List.getElem?_cons_zero]; exact rfl) (Or.inl ⟨by rw [HOPS.out]; rfl, ?_⟩) ?_
    rotate_left
    · (intro w hSw; have hSx := HFA.out _ hSw; (try dsimp only at hSx); clear hSw; go_simp) <;> (with_reducible rfl)
    simp only [Act.put, List.setIfInBounds_toArray, List.set_cons_zero, List.set_cons_succ]
    refine walkO_take (o := _) (v := ?_) (by rw [HOPS.out]; simp only [List.getElem?_toArray, List.getElem?_cons_succ, List.getElem?_cons_zero]; exact rfl) (Or.inl ⟨by rw [HOPS.out]; rfl, ?_⟩) ?_
    rotate_left
    · (intro w hSw; have hSx := HFA.out _ hSw; (try dsimp only at hSx); clear hSw; go_simp) <;> (with_reducible rfl)
    simp only [Act.put, List.setIfInBounds_toArray, List.set_cons_zero, List.set_cons_succ]
    refine walkO_take (o := _) (v := undef) (by rw [HOPS.out]; simp only [List.getElem?_toArray, List.getElem?_cons_succ, List.getElem?_cons_zero]; exact rfl) (Or.inr ⟨by rw [HOPS.out]; rfl, rfl⟩) ?_
    simp only [Act.put, List.setIfInBounds_toArray, List.set_cons_zero, List.set_cons_succ]
    refine walkO_take (o := _) (v := undef) (by rw [HOPS.out]; simp only [List.getElem?_toArray, List.getElem?_cons_succ, List.getElem?_cons_zero]; exact rfl) (Or.inr ⟨by rw [HOPS.out]; rfl, rfl⟩) ?_
    simp only [Act.put, List.setIfInBounds_toArray, List.set_cons_zero, List.set_cons_succ]
    refine walkO_take (o := _) (v := undef) (by rw [HOPS.out]; simp only [List.getElem?_toArray, List.getElem?_cons_succ, List.getElem?_cons_zero]; exact rfl) (Or.inr ⟨by rw [HOPS.out]; rfl, rfl⟩) ?_
    simp only [Act.put, List.setIfInBounds_toArray, List.set_cons_zero, List.set_cons_succ]
    refine walkO_take (o := _) (v := ?_) (by rw [HOPS.out]; simp only [List.getElem?_toArray, List.getElem?_cons_succ, List.getElem?_cons_zero]; exact rfl) (Or.inl ⟨by rw [HOPS.out]; rfl, ?_⟩) ?_
    rotate_left
    · (intro w hSw; have hSx := HFA.out _ hSw; (try dsimp only at hSx); clear hSw; go_simp) <;> (with_reducible rfl)
    simp only [Act.put, List.setIfInBounds_toArray, List.set_cons_zero, List.set_cons_succ]
    refine walkO_take (o := _) (v := ?_) (by rw [HOPS.out]; simp only [List.getElem?_toArray, List.getElem?_cons_succ, List.getElem?_cons_zero]; exact rfl) (Or.inl ⟨rfl, ?_⟩) ?_
    rotate_left
    · (intro w hSw; have hSx := HFA.out _ hSw; (try dsimp only at hSx); clear hSw; go_simp) <;> (with_reducible rfl)
    simp only [Act.put, List.setIfInBounds_toArray, List.set_cons_zero, List.set_cons_succ]
    refine walkO_take (o := _) (v := ?_) (by rw [HOPS.out]; simp only [List.getElem?_toArray, List.getElem?_cons_succ, List.getElem?_cons_zero]; exact rfl) (Or.inl ⟨rfl, ?_⟩) ?_
    rotate_left
    · (intro w hSw; have hSx := HFA.out _ hSw; (try dsimp only at hSx); clear hSw; go_simp) <;> (with_reducible rfl)
    simp only [Act.put, List.setIfInBounds_toArray, List.set_cons_zero, List.set_cons_succ]
    refine walkO_take (o := _) (v := ?_) (by rw [HOPS.out]; simp only [List.getElem?_toArray, List.getElem?_cons_succ, List.getElem?_cons_zero]; exact rfl) (Or.inl ⟨rfl, ?_⟩) ?_
    rotate_left
    · (intro w hSw; have hSx := HFA.out _ hSw; (try dsimp only at hSx); clear hSw; go_simp) <;> (with_reducible rfl)
    simp only [Act.put, List.setIfInBounds_toArray, List.set_cons_zero, List.set_cons_succ]
    refine walkO_done ?_
    clear HOPS OPS
    go_wp2_with fail
    go_ret2
    exact ⟨rfl, g2⟩
  · have e : atEndM m = !opM m := by
      unfold atEndM
      rw [hb', show m.rest.isEmpty = false from by simpa using hr]
      simp
    have hz : ((tot P : Int) == 0) = false := by
      rw [htl, beq_eq_false_iff_ne]
      have := List.length_pos_iff.2 hr
      omega
    rw [e]
    clear h hok htl hb hb' e hr
    go_enter Try.func31, Try.ntmps31
    go_wp2_with fail
    refine HZ.out.mono ?_
    rintro e w' ⟨rfl, rfl⟩
    go_wp2_with fail
    have fd : Fr [] w w.drew := (Fr.refl _ _).drew
    refine wp_region_order [(0, true), (1, true), (2, true), (3, true), (4, true), (5, true), (6, true), (7, true), (8, true), (9, true), (10, true), (11, true), (12, true), (13, false), (14, true), (15, true), (16, true), (17, false), (18, true), (19, true), (20, true), (21, true), (22, true)] (fun w' => Fr [] w w') (by kernel_rfl) (by kernel_rfl) fd ?_
    intro OPS HOPS
    have hops := HOPS.out
    try simp only [List.append_eq, List.cons_append, List.nil_append] at hops
    replace HOPS := Lib.hid hops
    clear hops
    refine walkO_take (o := _) (v := ?_) (by rw [HOPS.out]; simp only [List.getElem?_toArray, List.getElem?_cons_succ, List.getElem?_cons_zero]; exact rfl) (Or.inl ⟨rfl, ?_⟩) ?_
    rotate_left
    · (intro w hSw; have hSx := HFA.out _ hSw; (try dsimp only at hSx); clear hSw; go_simp) <;> (with_reducible rfl)
    simp only [Act.put, List.setIfInBounds_toArray, List.set_cons_zero, List.set_cons_succ]
    refine walkO_take (o := _) (v := ?_) (by rw [HOPS.out]; simp only [List.getElem?_toArray, List.getElem?_cons_succ, List.getElem?_cons_zero]; exact rfl) (Or.inl ⟨rfl, ?_⟩) ?_
    rotate_left
    · (intro w hSw; have hSx := HFA.out _ hSw; (try dsimp only at hSx); clear hSw; go_simp) <;> (with_reducible rfl)
    simp only [Act.put, List.setIfInBounds_toArray, List.set_cons_zero, List.set_cons_succ]
    refine walkO_take (o := _) (v := ?_) (by rw [HOPS.out]; simp only [List.getElem?_toArray, List.getElem?_cons_succ, List.getElem?_cons_zero]; exact rfl) (Or.inl ⟨rfl, ?_⟩) ?_
    rotate_left
    · (intro w hSw; have hSx := HFA.out _ hSw; (try dsimp only at hSx); clear hSw; go_simp) <;> (with_reducible rfl)
    simp only [Act.put, List.setIfInBounds_toArray, List.set_cons_zero, List.set_cons_succ]
    refine walkO_take (o := _) (v := ?_) (by rw [HOPS.out]; simp only [List.getElem?_toArray, List.getElem?_cons_succ, List.getElem?_cons_zero]; exact rfl) (Or.inl ⟨rfl, ?_⟩) ?_
    rotate_left
    · (intro w hSw; have hSx := HFA.out _ hSw; (try dsimp only at hSx); clear hSw; go_simp) <;> (with_reducible rfl)
    simp only [Act.put, List.setIfInBounds_toArray, List.set_cons_zero, List.set_cons_succ]
    refine walkO_take (o := _) (v := ?_) (by rw [HOPS.out]; simp only [List.getElem?_toArray, List.getElem?_cons_succ, List.getElem?_cons_zero]; exact rfl) (Or.inl ⟨rfl, ?_⟩) ?_
    rotate_left
    · (intro w hSw; have hSx := HFA.out _ hSw; (try dsimp only at hSx); clear hSw; go_simp) <;> (with_reducible rfl)
    simp only [Act.put, List.setIfInBounds_toArray, List.set_cons_zero, List.set_cons_succ]
    refine walkO_take (o := _) (v := ?_) (by rw [HOPS.out]; simp only [List.getElem?_toArray, List.getElem?_cons_succ, List.getElem?_cons_zero]; exact rfl) (Or.inl ⟨rfl, ?_⟩) ?_
    rotate_left
    · (intro w hSw; have hSx := HFA.out _ hSw; (try dsimp only at hSx); clear hSw; go_simp) <;> (with_reducible rfl)
    simp only [Act.put, List.setIfInBounds_toArray, List.set_cons_zero, List.set_cons_succ]
    refine walkO_take (o := _) (v := ?_) (by rw [HOPS.out]; simp only [List.getElem?_toArray, List.getElem?_cons_succ, List.getElem?_cons_zero]; exact rfl) (Or.inl ⟨rfl, ?_⟩) ?_
    rotate_left
    · (intro w hSw; have hSx := HFA.out _ hSw; (try dsimp only at hSx); clear hSw; go_simp) <;> (with_reducible rfl)
    simp only [Act.put, List.setIfInBounds_toArray, List.set_cons_zero, List.set_cons_succ]
    refine walkO_take (o := _) (v := ?_) (by rw [HOPS.out]; simp only [List.getElem?_toArray, List.getElem?_cons_succ, List.getElem?_cons_zero]; exact rfl) (Or.inl ⟨rfl, ?_⟩) ?_
    rotate_left
    · (intro w hSw; have hSx := HFA.out _ hSw; (try dsimp only at hSx); clear hSw; go_simp) <;> (with_reducible rfl)
    simp only [Act.put, List.setIfInBounds_toArray, List.set_cons_zero, List.set_cons_succ]
    refine walkO_take (o := _) (v := ?_) (by rw [HOPS.out]; simp only [List.getElem?_toArray, List.getElem?_cons_succ, List.getElem?_cons_zero]; exact rfl) (Or.inl ⟨rfl, ?_⟩) ?_
    rotate_left
    · (intro w hSw; have hSx := HFA.out _ hSw; (try dsimp only at hSx); clear hSw; go_simp) <;> (with_reducible rfl)
    simp only [Act.put, List.setIfInBounds_toArray, List.set_cons_zero, List.set_cons_succ]
    refine walkO_take (o := _) (v := ?_) (by rw [HOPS.out]; simp only [List.getElem?_toArray, List.getElem?_cons_succ, List.getElem?_cons_zero]; exact rfl) (Or.inl ⟨by rw [HOPS.out]; rfl, ?_⟩) ?_
    rotate_left
    · (intro w hSw; have hSx := HFA.out _ hSw; (try dsimp only at hSx); clear hSw; go_simp) <;> (with_reducible rfl)
    simp only [Act.put, List.setIfInBounds_toArray, List.set_cons_zero, List.set_cons_succ]
    refine walkO_take (o := _) (v := ?_) (by rw [HOPS.out]; simp only [List.getElem?_toArray, List.getElem?_cons_succ, List.getElem?_cons_zero]; exact rfl) (Or.inl ⟨by rw [HOPS.out]; rfl, ?_⟩) ?_
    rotate_left
    · (intro w hSw; have hSx := HFA.out _ hSw; (try dsimp only at hSx); clear hSw; go_simp) <;> (with_reducible rfl)
    simp only [Act.put, List.setIfInBounds_toArray, List.set_cons_zero, List.set_cons_succ]
    refine walkO_take (o := _) (v := ?_) (by rw [HOPS.out]; simp only [List.getElem?_toArray, List.getElem?_cons_succ, List.getElem?_cons_zero]; exact rfl) (Or.inl ⟨by rw [HOPS.out]; rfl, ?_⟩) ?_
    rotate_left
    · (intro w hSw; have hSx := HFA.out _ hSw; (try dsimp only at hSx); clear hSw; go_simp) <;> (with_reducible rfl)
    simp only [Act.put, List.setIfInBounds_toArray, List.set_cons_zero, List.set_cons_succ]
    refine walkO_take (o := _) (v := ?_) (by rw [HOPS.out]; simp only [List.getElem?_toArray, List.getElem?_cons_succ, List.getElem?_cons_zero]; exact rfl) (Or.inl ⟨by rw [HOPS.out]; rfl, ?_⟩) ?_
    rotate_left
    · (intro w hSw; have hSx := HFA.out _ hSw; (try dsimp only at hSx); clear hSw; go_simp) <;> (with_reducible rfl)
    simp only [Act.put, List.setIfInBounds_toArray, List.set_cons_zero, List.set_cons_succ]
    refine walkO_call (o := _) (by rw [HOPS.out]; simp only [List.getElem?_toArray, List.getElem?_cons_succ, List.getElem?_cons_zero]; exact rfl) (fun K HK => ?_)
    refine step_call (by rw [HOPS.out]; rfl) 57 #[(.tmp 18)] #[57] rfl HEL.out #[.agg #[.slice a P.length cap, .int .i64 (tot P)]] (by simp [Act.eval]) (rope_len (HH.out.keep0 fd).p) ?_
    rintro e w2 ⟨rfl, f2⟩
    have g2 : Fr [] w w2 := fd.then0 f2
    refine ⟨_, rfl, ?_⟩
    refine HK.out (fun w' => Fr [] w w') _ _ (fun _ h => h) (g2) ?_
    clear HK K
    simp only [Act.put, List.setIfInBounds_toArray, List.set_cons_zero, List.set_cons_succ]
    refine walkO_take (o := _) (v := ?_) (by rw [HOPS.out]; simp only [List.getElem?_toArray, List.getElem?_cons_succ, List.getElem?_cons_zero]; exact rfl) (Or.inl ⟨by rw [HOPS.out]; rfl, ?_⟩) ?_
    rotate_left
    · (intro w hSw; have hSx := HFA.out _ hSw; (try dsimp only at hSx); clear hSw; go_simp) <;> (with_reducible rfl)
    simp only [Act.put, List.setIfInBounds_toArray, List.set_cons_zero, List.set_cons_succ]
    refine walkO_take (o := _) (v := ?_) (by rw [HOPS.out]; simp only [List.getElem?_toArray, List.getElem?_cons_succ, List.getElem?_cons_zero]; exact rfl) (Or.inl ⟨by rw [HOPS.out]; rfl, ?_⟩) ?_
    rotate_left
    · (intro w hSw; have hSx := HFA.out _ hSw; (try dsimp only at hSx); clear hSw; go_simp) <;> (with_reducible rfl)
    simp only [Act.put, List.setIfInBounds_toArray, List.set_cons_zero, List.set_cons_succ]
    refine walkO_take (o := _) (v := ?_) (by rw [HOPS.out]; simp only [List.getElem?_toArray, List.getElem?_cons_succ, List.getElem?_cons_zero]; exact rfl) (Or.inl ⟨by rw [HOPS.out]; rfl, ?_⟩) ?_
    rotate_left
    · (intro w hSw; have hSx := HFA.out _ hSw; (try dsimp only at hSx); clear hSw; go_simp) <;> (with_reducible rfl)
    simp only [Act.put, List.setIfInBounds_toArray, List.set_cons_zero, List.set_cons_succ]
    refine walkO_call (o := _) (by rw [HOPS.out]; simp only [List.getElem?_toArray, List.getElem?_cons_succ, List.getElem?_cons_zero]; exact rfl) (fun K HK => ?_)
    refine step_call (by rw [HOPS.out]; rfl) 79 #[(.tmp 22)] #[23] rfl HEO.out #[.pointer (some ⟨b, 0, none⟩)] (by simp [Act.eval]) (st_open (HH.out.keep0 g2)) ?_
    rintro e w' ⟨rfl, rfl⟩
    refine ⟨_, rfl, ?_⟩
    refine HK.out (fun w' => Fr [] w w') _ _ (fun _ h => h) (g2) ?_
    clear HK K
    simp only [Act.put, List.setIfInBounds_toArray, List.set_cons_zero, List.set_cons_succ]
    refine walkO_take (o := _) (v := ?_) (by rw [HOPS.out]; simp only [List.getElem?_toArray, List.getElem?_cons_succ, List.getElem?_cons_zero]; exact rfl) (Or.inl ⟨by rw [HOPS.out]; rfl, ?_⟩) ?_
    rotate_left
    · (intro w hSw; have hSx := HFA.out _ hSw; (try dsimp only at hSx); clear hSw; go_simp) <;> (with_reducible rfl)
    simp only [Act.put, List.setIfInBounds_toArray, List.set_cons_zero, List.set_cons_succ]
    refine walkO_take (o := _) (v := ?_) (by rw [HOPS.out]; simp only [List.getElem?_toArray, List.getElem?_cons_succ, List.getElem?_cons_zero]; exact rfl) (Or.inl ⟨by rw [HOPS.out]; rfl, ?_⟩) ?_
    rotate_left
    · (intro w hSw; have hSx := HFA.out _ hSw; (try dsimp only at hSx); clear hSw; go_simp) <;> (with_reducible rfl)
    simp only [Act.put, List.setIfInBounds_toArray, List.set_cons_zero, List.set_cons_succ]
    refine walkO_take (o := _) (v := ?_) (by rw [HOPS.out]; simp only [List.getElem?_toArray, List.getElem?_cons_succ, List.getElem?_cons_zero]; exact rfl) (Or.inl ⟨rfl, ?_⟩) ?_
    rotate_left
    · (intro w hSw; have hSx := HFA.out _ hSw; (try dsimp only at hSx); clear hSw; go_simp) <;> (with_reducible rfl)
    simp only [Act.put, List.setIfInBounds_toArray, List.set_cons_zero, List.set_cons_succ]
    refine walkO_take (o := _) (v := ?_) (by rw [HOPS.out]; simp only [List.getElem?_toArray, List.getElem?_cons_succ, List.getElem?_cons_zero]; exact rfl) (Or.inl ⟨rfl, ?_⟩) ?_
    rotate_left
    · (intro w hSw; have hSx := HFA.out _ hSw; (try dsimp only at hSx); clear hSw; go_simp) <;> (with_reducible rfl)
    simp only [Act.put, List.setIfInBounds_toArray, List.set_cons_zero, List.set_cons_succ]
    refine walkO_take (o := _) (v := ?_) (by rw [HOPS.out]; simp only [List.getElem?_toArray, List.getElem?_cons_succ, List.getElem?_cons_zero]; exact rfl) (Or.inl ⟨rfl, ?_⟩) ?_
    rotate_left
    · (intro w hSw; have hSx := HFA.out _ hSw; (try dsimp only at hSx); clear hSw; go_simp) <;> (with_reducible rfl)
    simp only [Act.put, List.setIfInBounds_toArray, List.set_cons_zero, List.set_cons_succ]
    refine walkO_done ?_
    clear HOPS OPS
    go_wp2_with fail
    go_ret2
    exact ⟨rfl, g2⟩
end
end Go.Proofs.Ytdoamelhclnphaa
