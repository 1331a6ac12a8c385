/-
  A connection in memory: two streams apart from each other; check.
-/
import Derived.Test.YtdoamelhclnphaaStB
import Derived.Test.YtdoamelhclnphaaRegT
import Derived.LoopN
namespace Go.Proofs.Ytdoamelhclnphaa
open Go.RowKit
set_option maxRecDepth 100000

structure DM where
  m0 : SM
  m1 : SM
  x0 : Bool
  x1 : Bool
def DB (w : World) (d b0 b1 : Nat) (x0 x1 : Bool) : Prop := w.heap[d]? = some (.cells #[.pointer (some ⟨b0, 0, none⟩), .pointer (some ⟨b1, 0, none⟩), .bool x0, .bool x1] 27 (0, 0))
structure DR (w : World) (F : Nat → Prop) (d b0 b1 : Nat) (F0 F1 : Nat → Prop) (s : DM) : Prop where
  b : DB w d b0 b1 s.x0 s.x1
  h0 : SF w F0 b0 s.m0
  h1 : SF w F1 b1 s.m1
  a : ∀ x, F0 x → ¬ F1 x
  n0 : ¬ F0 d
  n1 : ¬ F1 d
  i0 : ∀ x, F0 x → F x
  i1 : ∀ x, F1 x → F x
  id_ : F d
  lt : ∀ x, F x → x < w.heap.size
/-- A connection, all of its memory in F. -/
def Dx (w : World) (F : Nat → Prop) (d : Nat) (s : DM) : Prop := ∃ b0 b1 F0 F1, DR w F d b0 b1 F0 F1 s
/-- What a call leaves; the blocks of G may have become the connection's. -/
def DxQ (w : World) (F G : Nat → Prop) (d : Nat) (s : DM) (w' : World) : Prop :=
  (∃ S, (∀ x ∈ S, F x ∨ w.heap.size ≤ x) ∧ Fr S w w') ∧ ∃ F' : Nat → Prop, (∀ x, F' x → F x ∨ G x ∨ w.heap.size ≤ x) ∧ Dx w' F' d s
def NoG : Nat → Prop := fun _ => False
section
variable {w : World} {F : Nat → Prop} {d b0 b1 : Nat} {F0 F1 : Nat → Prop} {s : DM}
theorem DR.keep {w' : World} (h : DR w F d b0 b1 F0 F1 s) {S : List Nat} (f : Fr S w w') (hS : ∀ x ∈ S, ¬ F x) : DR w' F d b0 b1 F0 F1 s :=
  ⟨f.keep h.b (fun hm => hS d hm h.id_), h.h0.keep f (fun x hx hF => hS x hx (h.i0 x hF)), h.h1.keep f (fun x hx hF => hS x hx (h.i1 x hF)), h.a, h.n0, h.n1, h.i0, h.i1, h.id_, fun x hx => Nat.lt_of_lt_of_le (h.lt x hx) f.size⟩
theorem Dx.keep {w' : World} (h : Dx w F d s) {S : List Nat} (f : Fr S w w') (hS : ∀ x ∈ S, ¬ F x) : Dx w' F d s := by
  obtain ⟨b0, b1, F0, F1, h⟩ := h
  exact ⟨b0, b1, F0, F1, h.keep f hS⟩
theorem Dx.keep0 {w' : World} (h : Dx w F d s) (f : Fr [] w w') : Dx w' F d s := h.keep f (by simp)
theorem Dx.lt (h : Dx w F d s) : ∀ x, F x → x < w.heap.size := by
  obtain ⟨b0, b1, F0, F1, h⟩ := h
  exact h.lt
theorem Dx.ok (h : Dx w F d s) : SOk s.m0 ∧ SOk s.m1 := by
  obtain ⟨b0, b1, F0, F1, h⟩ := h
  exact ⟨h.h0.ok, h.h1.ok⟩
theorem DR.swap (h : DR w F d b0 b1 F0 F1 s) : (∀ x, F1 x → ¬ F0 x) := fun x h1 h0 => h.a x h0 h1
/-- The first stream has changed. -/
theorem DR.lift0 (h : DR w F d b0 b1 F0 F1 s) {G F0' : Nat → Prop} {m' : SM} {w' : World} {S : List Nat} (hS : ∀ x ∈ S, F0 x ∨ w.heap.size ≤ x) (f : Fr S w w') (hF' : ∀ x, F0' x → F0 x ∨ G x ∨ w.heap.size ≤ x) (hG : ∀ x, G x → ¬ F x) (h' : SF w' F0' b0 m') : DxQ w F G d { s with m0 := m' } w' := by
  have nS : ∀ x, F x → ¬ F0 x → x ∉ S := fun x hx hn hm => by
    rcases hS x hm with h1 | h1
    · exact hn h1
    · have := h.lt x hx; omega
  have hz := f.size
  have n1 : ∀ x, F x → ¬ F0 x → ¬ F0' x := fun x hx hn hx' => by
    rcases hF' x hx' with h1 | h1 | h1
    · exact hn h1
    · exact hG x h1 hx
    · have := h.lt x hx; omega
  refine ⟨⟨S, fun x hx => (hS x hx).imp (h.i0 x) id, f⟩, fun x => F0' x ∨ F1 x ∨ x = d, fun x hx => ?_, b0, b1, F0', F1, f.keep h.b (nS d h.id_ h.n0), h', h.h1.keep f (fun x hx hF => nS x (h.i1 x hF) (h.swap x hF) hx), fun x hx hx1 => n1 x (h.i1 x hx1) (h.swap x hx1) hx, n1 d h.id_ h.n0, h.n1, fun x hx => .inl hx, fun x hx => .inr (.inl hx), .inr (.inr rfl), fun x hx => ?_⟩
  · rcases hx with hx | hx | rfl
    · exact (hF' x hx).imp (h.i0 x) id
    · exact .inl (h.i1 x hx)
    · exact .inl h.id_
  · rcases hx with hx | hx | rfl
    · exact h'.lt x hx
    · exact Nat.lt_of_lt_of_le (h.lt x (h.i1 x hx)) hz
    · exact Nat.lt_of_lt_of_le (h.lt x h.id_) hz
theorem DR.lift1 (h : DR w F d b0 b1 F0 F1 s) {G F1' : Nat → Prop} {m' : SM} {w' : World} {S : List Nat} (hS : ∀ x ∈ S, F1 x ∨ w.heap.size ≤ x) (f : Fr S w w') (hF' : ∀ x, F1' x → F1 x ∨ G x ∨ w.heap.size ≤ x) (hG : ∀ x, G x → ¬ F x) (h' : SF w' F1' b1 m') : DxQ w F G d { s with m1 := m' } w' := by
  have nS : ∀ x, F x → ¬ F1 x → x ∉ S := fun x hx hn hm => by
    rcases hS x hm with h1 | h1
    · exact hn h1
    · have := h.lt x hx; omega
  have hz := f.size
  have n1 : ∀ x, F x → ¬ F1 x → ¬ F1' x := fun x hx hn hx' => by
    rcases hF' x hx' with h1 | h1 | h1
    · exact hn h1
    · exact hG x h1 hx
    · have := h.lt x hx; omega
  refine ⟨⟨S, fun x hx => (hS x hx).imp (h.i1 x) id, f⟩, fun x => F0 x ∨ F1' x ∨ x = d, fun x hx => ?_, b0, b1, F0, F1', f.keep h.b (nS d h.id_ h.n1), h.h0.keep f (fun x hx hF => nS x (h.i0 x hF) (h.a x hF) hx), h', fun x hx hx1 => n1 x (h.i0 x hx) (h.a x hx) hx1, h.n0, n1 d h.id_ h.n1, fun x hx => .inl hx, fun x hx => .inr (.inl hx), .inr (.inr rfl), fun x hx => ?_⟩
  · rcases hx with hx | hx | rfl
    · exact .inl (h.i0 x hx)
    · exact (hF' x hx).imp (h.i1 x) id
    · exact .inl h.id_
  · rcases hx with hx | hx | rfl
    · exact Nat.lt_of_lt_of_le (h.lt x (h.i0 x hx)) hz
    · exact h'.lt x hx
    · exact Nat.lt_of_lt_of_le (h.lt x h.id_) hz
theorem DR.sfp0 (h : DR w F d b0 b1 F0 F1 s) {m' : SM} {w' : World} (hp : SFP w F0 b0 m' w') : DxQ w F NoG d { s with m0 := m' } w' := by
  obtain ⟨⟨S, hS, f⟩, F', hF', h'⟩ := hp
  exact h.lift0 hS f (fun x hx => (hF' x hx).imp id .inr) (fun x hx => hx.elim) h'
theorem DR.sfp1 (h : DR w F d b0 b1 F0 F1 s) {m' : SM} {w' : World} (hp : SFP w F1 b1 m' w') : DxQ w F NoG d { s with m1 := m' } w' := by
  obtain ⟨⟨S, hS, f⟩, F', hF', h'⟩ := hp
  exact h.lift1 hS f (fun x hx => (hF' x hx).imp id .inr) (fun x hx => hx.elim) h'
theorem DxQ.ahead {w0 w' : World} {G : Nat → Prop} (f : Fr [] w0 w) (h : DxQ w F G d s w') : DxQ w0 F G d s w' := by
  obtain ⟨⟨S, hS, g⟩, F', hF', h'⟩ := h
  have := f.size
  exact ⟨⟨S, fun x hx => (hS x hx).imp id (fun h => by omega), f.trans g (by simp) (fun x hx => .inl hx)⟩, F', fun x hx => (hF' x hx).imp id (fun h => h.imp id (fun h => by omega)), h'⟩
theorem DxQ.behind {w' w2 : World} {G : Nat → Prop} (h : DxQ w F G d s w') (f : Fr [] w' w2) : DxQ w F G d s w2 := by
  obtain ⟨⟨S, hS, g⟩, F', hF', h'⟩ := h
  exact ⟨⟨S, hS, g.then0 f⟩, F', hF', h'.keep0 f⟩
theorem DxQ.same {w' : World} (h : Dx w F d s) (f : Fr [] w w') : DxQ w F NoG d s w' := ⟨⟨[], by simp, f⟩, F, fun x hx => .inl hx, h.keep0 f⟩
end
theorem eq_ptr2 (w : World) (p q : Option Addr) : (Op.equalIn 10000 24 (.agg #[.pointer p, .pointer q]) (.agg #[.pointer none, .pointer none])).run Try.prog w = .ok (p.isNone && q.isNone) w := by
  have hp : ∀ (x y : Option Addr) (w : World), (part 23 #[.pointer x, .pointer y] 0).run Try.prog w = .ok (.pointer x) w := fun _ _ _ => by kernel_rfl
  have hq : ∀ (x y : Option Addr) (w : World), (part 23 #[.pointer x, .pointer y] 1).run Try.prog w = .ok (.pointer y) w := fun _ _ _ => by kernel_rfl
  have he : ∀ (x : Option Addr) (w : World), (Op.equalIn 9999 23 (.pointer x) (.pointer none)).run Try.prog w = .ok x.isNone w := fun x w => run_equalIn_pointer_nil w 9998 _ x (by kernel_rfl)
  obtain ⟨i, hi⟩ : ∃ i, Try.prog.info? 23 = some i := Option.isSome_iff_exists.1 (by kernel_rfl)
  have hc : Try.prog.cellsOf 23 = 1 := by kernel_rfl
  rw [show (10000 : Nat) = 9999 + 1 from rfl, run_equalIn_array w 9999 _ _ Try.underlying24 hi, hc, show List.range 2 = [0, 1] from rfl]
  simp only [Op.eqItems, Sem.run_bind, Nat.zero_mul, Nat.one_mul, hp, hq, he, Result.andThen_ok]
  cases p.isNone
  · simp
  · simp only [Bool.not_true, Bool.false_eq_true, if_false, Sem.run_bind, hq, he, Result.andThen_ok, Bool.true_and]
    cases q.isNone <;> simp
theorem end_valid_yes (w : World) {k : Int} (h : k = 0 ∨ k = 1) : Calls Try.prog 111 #[.int .i64 k] w fun e w' => e = .returned (.bool true) ∧ w = w' := by
  rcases h with rfl | rfl
  · skip
    go_enter Try.func111, Try.ntmps111
    go_wp2_with fail
    go_ret
    exact ⟨rfl, rfl⟩
  · skip
    go_enter Try.func111, Try.ntmps111
    go_wp2_with fail
    go_ret
    exact ⟨rfl, rfl⟩
theorem end_valid_no (w : World) {k : Int} (h : ¬ (k = 0 ∨ k = 1)) : Calls Try.prog 111 #[.int .i64 k] w fun e w' => e = .returned (.bool false) ∧ w = w' := by
  have h0 : (k == 0) = false := by simp; omega
  have h1 : (k == 1) = false := by simp; omega
  clear h
  go_enter Try.func111, Try.ntmps111
  go_wp2_with fail
  go_ret
  exact ⟨by simp [h0, h1], rfl⟩
theorem end_out (w : World) (k : Int) : Calls Try.prog 67 #[.int .i64 k] w fun e w' => e = .returned (.int .i64 k) ∧ w = w' := by
  go_enter Try.func67, Try.ntmps67
  go_wp2_with fail
  go_ret
  exact ⟨rfl, rfl⟩
theorem end_in0 (w : World) : Calls Try.prog 66 #[.int .i64 0] w fun e w' => e = .returned (.int .i64 1) ∧ w = w' := by
  go_enter Try.func66, Try.ntmps66
  go_wp2_with fail
  go_ret
  exact ⟨rfl, rfl⟩
theorem end_in1 (w : World) : Calls Try.prog 66 #[.int .i64 1] w fun e w' => e = .returned (.int .i64 0) ∧ w = w' := by
  go_enter Try.func66, Try.ntmps66
  go_wp2_with fail
  go_ret
  exact ⟨rfl, rfl⟩
theorem dx_check_ok {w : World} {d b0 b1 : Nat} {x0 x1 : Bool} (h : DB w d b0 b1 x0 x1) {k : Int} (hk : k = 0 ∨ k = 1) : Calls Try.prog 65 #[.pointer (some ⟨d, 0, none⟩), .int .i64 k] w fun e w' => e = .returned (.int .i64 0) ∧ w = w' := by
  have c0 : w.cell? ⟨d, 0, none⟩ = some (.pointer (some ⟨b0, 0, none⟩)) := cell_of h
  have c1 : w.cell? ⟨d, 1, none⟩ = some (.pointer (some ⟨b1, 0, none⟩)) := cell_of h
  have hq := fun w => eq_ptr2 w (some ⟨b0, 0, none⟩) (some ⟨b1, 0, none⟩)
  have HV := Lib.hid fun w => end_valid_yes w hk
  clear h hk
  go_enter Try.func65, Try.ntmps65
  go_wp2_with fail
  refine (HV.out _).mono ?_
  rintro e w' ⟨rfl, rfl⟩
  go_wp2_with fail
  go_ret
  exact ⟨rfl, rfl⟩
theorem dx_check_no {w : World} {d b0 b1 : Nat} {x0 x1 : Bool} (h : DB w d b0 b1 x0 x1) {k : Int} (hk : ¬ (k = 0 ∨ k = 1)) : Calls Try.prog 65 #[.pointer (some ⟨d, 0, none⟩), .int .i64 k] w fun e w' => e = .returned (.int .i64 2) ∧ w = w' := by
  have c0 : w.cell? ⟨d, 0, none⟩ = some (.pointer (some ⟨b0, 0, none⟩)) := cell_of h
  have c1 : w.cell? ⟨d, 1, none⟩ = some (.pointer (some ⟨b1, 0, none⟩)) := cell_of h
  have hq := fun w => eq_ptr2 w (some ⟨b0, 0, none⟩) (some ⟨b1, 0, none⟩)
  have HV := Lib.hid fun w => end_valid_no w hk
  clear h hk
  go_enter Try.func65, Try.ntmps65
  go_wp2_with fail
  refine (HV.out _).mono ?_
  rintro e w' ⟨rfl, rfl⟩
  go_wp2_with fail
  go_ret
  exact ⟨rfl, rfl⟩
/-- A connection that is none. -/
def Zdx (w : World) (r : Option Addr) : Prop := r = none ∨ ∃ d, r = some ⟨d, 0, none⟩ ∧ w.heap[d]? = some (.cells #[.pointer none, .pointer none, .bool false, .bool false] 27 (0, 0))
theorem Zdx.keep {w w' : World} {r : Option Addr} (h : Zdx w r) (f : Fr [] w w') : Zdx w' r := h.imp id fun ⟨b, e, q⟩ => ⟨b, e, f.keep q (by simp)⟩
theorem zdx_check {w : World} {r : Option Addr} (h : Zdx w r) (k : Int) : Calls Try.prog 65 #[.pointer r, .int .i64 k] w fun e w' => e = .returned (.int .i64 1) ∧ w = w' := by
  rcases h with rfl | ⟨d, rfl, q⟩
  · skip
    go_enter Try.func65, Try.ntmps65
    go_wp2_with fail
    go_ret
    exact ⟨rfl, rfl⟩
  · have c0 : w.cell? ⟨d, 0, none⟩ = some (.pointer none) := cell_of q
    have c1 : w.cell? ⟨d, 1, none⟩ = some (.pointer none) := cell_of q
    have hq := fun w => eq_ptr2 w none none
    clear q
    go_enter Try.func65, Try.ntmps65
    go_wp2_with fail
    go_ret
    exact ⟨rfl, rfl⟩
end Go.Proofs.Ytdoamelhclnphaa

namespace Go.Proofs.Ytdoamelhclnphaa
open Go.RowKit
set_option maxRecDepth 100000

section
variable {w : World} {F : Nat → Prop} {d b0 b1 : Nat} {F0 F1 : Nat → Prop} {s : DM}
set_option maxHeartbeats 2000000 in
theorem dx_begin0 (h : DR w F d b0 b1 F0 F1 s) {N2 : Nat → Prop} {v : Value} {Q : Parts} (hr : Rp w N2 v Q) (h2 : ∀ x, F x → ¬ N2 x) :
    Calls Try.prog 51 #[.pointer (some ⟨d, 0, none⟩), .int .i64 0, v] w fun e w' => e = .returned (.int .i64 (beginM s.m0 Q.flatten).err) ∧ DxQ w F (fun x => N2 x ∧ x < w.heap.size) d { s with m0 := (beginM s.m0 Q.flatten).m } w' := by
  obtain ⟨ra, rc, rfl, _⟩ := id hr
  obtain ⟨w0, hw0, f0, q0⟩ : ∃ W, w.alloc (.cells #[.slice ra Q.length rc, .int .i64 (tot Q)] 57) = W ∧ Fr [] w W ∧ W.heap[w.heap.size]? = some (.cells #[.slice ra Q.length rc, .int .i64 (tot Q)] 57 (0, 0)) := ⟨_, rfl, (Fr.refl _ _).alloc _, newA rfl⟩
  have hb0 : DB w0 d b0 b1 s.x0 s.x1 := f0.keep h.b (by simp)
  have HCK := Lib.hid (dx_check_ok hb0 (k := 0) (by omega))
  have HH := Lib.hid h
  have HC := Lib.hid fun w' (f : Fr [] w w') => sf_begin (h.h0.keep0 f) (hr.keep f (by simp)) (fun x hx => h2 x (h.i0 x hx))
  have hlt := h.lt
  have hi := h.i0
  have hnn := h.n0
  have hbb := Lib.hid hb0
  have HQ0 := Lib.hid q0
  have HF0 := Lib.hid f0
  have hzz := f0.size
  clear h q0 f0 hb0 hr
  have HEI := Lib.hid (Go.Proofs.enters_of Try.func67 (by kernel_rfl) rfl)
  have HES := Lib.hid (Go.Proofs.enters_of Try.func29 (by kernel_rfl) rfl)
  go_enter Try.func51, Try.ntmps51
  go_wp2_with fail
  refine HCK.out.mono ?_
  rintro e w' ⟨rfl, rfl⟩
  go_wp2_with fail
  have fd : Fr [] w0 w0.drew := (Fr.refl _ _).drew
  have hcd : w0.drew.cell? ⟨d, 0, none⟩ = some (.pointer (some ⟨b0, 0, none⟩)) ∧ w0.drew.cell? ⟨w.heap.size, 0, none⟩ = some (.slice ra Q.length rc) ∧ w0.drew.cell? ⟨w.heap.size, 1, none⟩ = some (.int .i64 (tot Q)) := ⟨cell_of (fd.keep hbb.out (by simp)), cell_of (fd.keep HQ0.out (by simp)), cell_of (fd.keep HQ0.out (by simp))⟩
  refine wp_region_order [(0, true), (1, true), (3, true), (4, true), (7, true), (2, false), (5, true), (6, true), (8, false), (9, true)] (fun w' => w'.cell? ⟨d, 0, none⟩ = some (.pointer (some ⟨b0, 0, none⟩)) ∧ w'.cell? ⟨w.heap.size, 0, none⟩ = some (.slice ra Q.length rc) ∧ w'.cell? ⟨w.heap.size, 1, none⟩ = some (.int .i64 (tot Q))) (by kernel_rfl) (by kernel_rfl) hcd ?_
  intro OPS HOPS
  have hops := HOPS.out
  try simp only [List.append_eq, List.cons_append, List.nil_append] at hops
  replace HOPS := Lib.hid hops
  clear hops
  refine walkO_take (o := _) (v := ?_) (by rw [HOPS.out]; simp only [List.getElem?_toArray, List.getElem?_cons_succ, List.getElem?_cons_zero]; exact rfl) (Or.inl ⟨rfl, ?_⟩) ?_
  rotate_left
  · (intro w hSw; (try dsimp only at hSw); go_simp) <;> (with_reducible rfl)
  simp only [Act.put, List.setIfInBounds_toArray, List.set_cons_zero, List.set_cons_succ]
  refine walkO_take (o := _) (v := ?_) (by rw [HOPS.out]; simp only [List.getElem?_toArray, List.getElem?_cons_succ, List.getElem?_cons_zero]; exact rfl) (Or.inl ⟨rfl, ?_⟩) ?_
  rotate_left
  · (intro w hSw; (try dsimp only at hSw); go_simp) <;> (with_reducible rfl)
  simp only [Act.put, List.setIfInBounds_toArray, List.set_cons_zero, List.set_cons_succ]
  refine walkO_take (o := _) (v := ?_) (by rw [HOPS.out]; simp only [List.getElem?_toArray, List.getElem?_cons_succ, List.getElem?_cons_zero]; exact rfl) (Or.inl ⟨rfl, ?_⟩) ?_
  rotate_left
  · (intro w hSw; (try dsimp only at hSw); go_simp) <;> (with_reducible rfl)
  simp only [Act.put, List.setIfInBounds_toArray, List.set_cons_zero, List.set_cons_succ]
  refine walkO_take (o := _) (v := ?_) (by rw [HOPS.out]; simp only [List.getElem?_toArray, List.getElem?_cons_succ, List.getElem?_cons_zero]; exact rfl) (Or.inl ⟨rfl, ?_⟩) ?_
  rotate_left
  · (intro w hSw; (try dsimp only at hSw); go_simp) <;> (with_reducible rfl)
  simp only [Act.put, List.setIfInBounds_toArray, List.set_cons_zero, List.set_cons_succ]
  refine walkO_take (o := _) (v := ?_) (by rw [HOPS.out]; simp only [List.getElem?_toArray, List.getElem?_cons_succ, List.getElem?_cons_zero]; exact rfl) (Or.inl ⟨rfl, ?_⟩) ?_
  rotate_left
  · (intro w hSw; (try dsimp only at hSw); go_simp) <;> (with_reducible rfl)
  simp only [Act.put, List.setIfInBounds_toArray, List.set_cons_zero, List.set_cons_succ]
  refine walkO_call (o := _) (by rw [HOPS.out]; simp only [List.getElem?_toArray, List.getElem?_cons_succ, List.getElem?_cons_zero]; exact rfl) (fun K HK => ?_)
  refine step_call rfl 67 #[(.tmp 15)] #[114] rfl HEI.out #[.int .i64 0] (by simp [Act.eval]) (end_out _ _) ?_
  rintro e w1 ⟨rfl, rfl⟩
  refine ⟨_, rfl, ?_⟩
  refine HK.out (fun w' => w'.cell? ⟨d, 0, none⟩ = some (.pointer (some ⟨b0, 0, none⟩)) ∧ w'.cell? ⟨w.heap.size, 0, none⟩ = some (.slice ra Q.length rc) ∧ w'.cell? ⟨w.heap.size, 1, none⟩ = some (.int .i64 (tot Q))) _ _ (fun _ h => h) (hcd) ?_
  clear HK K
  simp only [Act.put, List.setIfInBounds_toArray, List.set_cons_zero, List.set_cons_succ]
  refine walkO_take (o := _) (v := ?_) (by rw [HOPS.out]; simp only [List.getElem?_toArray, List.getElem?_cons_succ, List.getElem?_cons_zero]; exact rfl) (Or.inl ⟨rfl, ?_⟩) ?_
  rotate_left
  · (intro w hSw; (try dsimp only at hSw); go_simp) <;> (with_reducible rfl)
  simp only [Act.put, List.setIfInBounds_toArray, List.set_cons_zero, List.set_cons_succ]
  refine walkO_take (o := _) (v := ?_) (by rw [HOPS.out]; simp only [List.getElem?_toArray, List.getElem?_cons_succ, List.getElem?_cons_zero]; exact rfl) (Or.inl ⟨rfl, ?_⟩) ?_
  rotate_left
  · (intro w hSw; (try dsimp only at hSw); go_simp) <;> (with_reducible rfl)
  simp only [Act.put, List.setIfInBounds_toArray, List.set_cons_zero, List.set_cons_succ]
  refine walkO_call (o := _) (by rw [HOPS.out]; simp only [List.getElem?_toArray, List.getElem?_cons_succ, List.getElem?_cons_zero]; exact rfl) (fun K HK => ?_)
  refine step_call rfl 29 #[(.tmp 20), (.tmp 21)] #[23, 57] rfl HES.out #[.pointer (some ⟨b0, 0, none⟩), .agg #[.slice ra Q.length rc, .int .i64 (tot Q)]] (by simp [Act.eval]) (HC.out _ (HF0.out.then0 fd)) ?_
  rintro e w2 ⟨rfl, ⟨S, hS, f2⟩, F', hF', h'⟩
  have hkc := f2.keep hbb.out (fun hm => hnn (hS d hm))
  have hq2 := f2.keep HQ0.out (fun hm => by have := hlt _ (hi _ (hS _ hm)); omega)
  have hcd2 : w2.cell? ⟨d, 0, none⟩ = some (.pointer (some ⟨b0, 0, none⟩)) ∧ w2.cell? ⟨w.heap.size, 0, none⟩ = some (.slice ra Q.length rc) ∧ w2.cell? ⟨w.heap.size, 1, none⟩ = some (.int .i64 (tot Q)) := ⟨cell_of hkc, cell_of hq2, cell_of hq2⟩
  have HP := Lib.hid (And.intro hS (And.intro f2 (And.intro hF' h')))
  clear hS f2 hF' h'
  refine ⟨_, rfl, ?_⟩
  refine HK.out (fun w' => w'.cell? ⟨d, 0, none⟩ = some (.pointer (some ⟨b0, 0, none⟩)) ∧ w'.cell? ⟨w.heap.size, 0, none⟩ = some (.slice ra Q.length rc) ∧ w'.cell? ⟨w.heap.size, 1, none⟩ = some (.int .i64 (tot Q))) _ _ (fun _ h => h) (hcd2) ?_
  clear HK K
  simp only [Act.put, List.setIfInBounds_toArray, List.set_cons_zero, List.set_cons_succ]
  refine walkO_take (o := _) (v := ?_) (by rw [HOPS.out]; simp only [List.getElem?_toArray, List.getElem?_cons_succ, List.getElem?_cons_zero]; exact rfl) (Or.inl ⟨rfl, ?_⟩) ?_
  rotate_left
  · (intro w hSw; (try dsimp only at hSw); go_simp) <;> (with_reducible rfl)
  simp only [Act.put, List.setIfInBounds_toArray, List.set_cons_zero, List.set_cons_succ]
  refine walkO_done ?_
  clear HOPS OPS
  go_wp2_with fail
  go_ret
  obtain ⟨hS, f2, hF', h'⟩ := HP.out
  have hz9 : w.heap.size ≤ w0.drew.heap.size := hzz
  exact ⟨rfl, HH.out.lift0 (fun x hx => .inl (hS x hx)) ((HF0.out.then0 fd).trans f2 (by simp) (fun x hx => .inl hx)) (fun x hx => by rcases hF' x hx with h | h | h; exact .inl h; exact (Nat.lt_or_ge x w.heap.size).elim (fun hl => .inr (.inl ⟨h.1, hl⟩)) (fun hl => .inr (.inr hl)); exact .inr (.inr (Nat.le_trans hz9 h))) (fun x hx hF => h2 x hF hx.1) h'⟩
set_option maxHeartbeats 2000000 in
theorem dx_progress0 (h : DR w F d b0 b1 F0 F1 s) :
    Calls Try.prog 52 #[.pointer (some ⟨d, 0, none⟩), .int .i64 0] w fun e w' => e = .returned (.tuple #[.int .i64 s.m0.acc, .bool (atEndM s.m0)]) ∧ Fr [] w w' := by
  have HCK := Lib.hid (dx_check_ok h.b (k := 0) (by omega))
  have HH := Lib.hid h
  have HC := Lib.hid fun w' (f : Fr [] w w') => sf_progress (h.h0.keep0 f)
  have hc0 : w.cell? ⟨d, 0, none⟩ = some (.pointer (some ⟨b0, 0, none⟩)) := cell_of h.b
  have hlt := h.lt
  have hi := h.i0
  have hnn := h.n0
  have hbb := Lib.hid h.b
  have hdl := h.lt _ h.id_
  clear h
  have HEI := Lib.hid (Go.Proofs.enters_of Try.func67 (by kernel_rfl) rfl)
  have HES := Lib.hid (Go.Proofs.enters_of Try.func31 (by kernel_rfl) rfl)
  go_enter Try.func52, Try.ntmps52
  go_wp2_with fail
  refine HCK.out.mono ?_
  rintro e w' ⟨rfl, rfl⟩
  go_wp2_with fail
  have fd : Fr [] w w.drew := (Fr.refl _ _).drew
  have hcd : w.drew.cell? ⟨d, 0, none⟩ = some (.pointer (some ⟨b0, 0, none⟩)) := hc0
  refine wp_region_order [(0, true), (1, true), (3, true), (4, true), (2, false), (5, true), (6, true), (7, false), (8, true), (9, true), (10, true), (11, true)] (fun w' => w'.cell? ⟨d, 0, none⟩ = some (.pointer (some ⟨b0, 0, none⟩))) (by kernel_rfl) (by kernel_rfl) hcd ?_
  intro OPS HOPS
  have hops := HOPS.out
  try simp only [List.append_eq, List.cons_append, List.nil_append] at hops
  replace HOPS := Lib.hid hops
  clear hops
  refine walkO_take (o := _) (v := ?_) (by rw [HOPS.out]; simp only [List.getElem?_toArray, List.getElem?_cons_succ, List.getElem?_cons_zero]; exact rfl) (Or.inl ⟨rfl, ?_⟩) ?_
  rotate_left
  · (intro w hSw; (try dsimp only at hSw); go_simp) <;> (with_reducible rfl)
  simp only [Act.put, List.setIfInBounds_toArray, List.set_cons_zero, List.set_cons_succ]
  refine walkO_take (o := _) (v := ?_) (by rw [HOPS.out]; simp only [List.getElem?_toArray, List.getElem?_cons_succ, List.getElem?_cons_zero]; exact rfl) (Or.inl ⟨rfl, ?_⟩) ?_
  rotate_left
  · (intro w hSw; (try dsimp only at hSw); go_simp) <;> (with_reducible rfl)
  simp only [Act.put, List.setIfInBounds_toArray, List.set_cons_zero, List.set_cons_succ]
  refine walkO_take (o := _) (v := ?_) (by rw [HOPS.out]; simp only [List.getElem?_toArray, List.getElem?_cons_succ, List.getElem?_cons_zero]; exact rfl) (Or.inl ⟨rfl, ?_⟩) ?_
  rotate_left
  · (intro w hSw; (try dsimp only at hSw); go_simp) <;> (with_reducible rfl)
  simp only [Act.put, List.setIfInBounds_toArray, List.set_cons_zero, List.set_cons_succ]
  refine walkO_take (o := _) (v := ?_) (by rw [HOPS.out]; simp only [List.getElem?_toArray, List.getElem?_cons_succ, List.getElem?_cons_zero]; exact rfl) (Or.inl ⟨rfl, ?_⟩) ?_
  rotate_left
  · (intro w hSw; (try dsimp only at hSw); go_simp) <;> (with_reducible rfl)
  simp only [Act.put, List.setIfInBounds_toArray, List.set_cons_zero, List.set_cons_succ]
  refine walkO_call (o := _) (by rw [HOPS.out]; simp only [List.getElem?_toArray, List.getElem?_cons_succ, List.getElem?_cons_zero]; exact rfl) (fun K HK => ?_)
  refine step_call rfl 67 #[(.tmp 11)] #[114] rfl HEI.out #[.int .i64 0] (by simp [Act.eval]) (end_out _ _) ?_
  rintro e w1 ⟨rfl, rfl⟩
  refine ⟨_, rfl, ?_⟩
  refine HK.out (fun w' => w'.cell? ⟨d, 0, none⟩ = some (.pointer (some ⟨b0, 0, none⟩))) _ _ (fun _ h => h) (hcd) ?_
  clear HK K
  simp only [Act.put, List.setIfInBounds_toArray, List.set_cons_zero, List.set_cons_succ]
  refine walkO_take (o := _) (v := ?_) (by rw [HOPS.out]; simp only [List.getElem?_toArray, List.getElem?_cons_succ, List.getElem?_cons_zero]; exact rfl) (Or.inl ⟨rfl, ?_⟩) ?_
  rotate_left
  · (intro w hSw; (try dsimp only at hSw); go_simp) <;> (with_reducible rfl)
  simp only [Act.put, List.setIfInBounds_toArray, List.set_cons_zero, List.set_cons_succ]
  refine walkO_take (o := _) (v := ?_) (by rw [HOPS.out]; simp only [List.getElem?_toArray, List.getElem?_cons_succ, List.getElem?_cons_zero]; exact rfl) (Or.inl ⟨rfl, ?_⟩) ?_
  rotate_left
  · (intro w hSw; (try dsimp only at hSw); go_simp) <;> (with_reducible rfl)
  simp only [Act.put, List.setIfInBounds_toArray, List.set_cons_zero, List.set_cons_succ]
  refine walkO_call (o := _) (by rw [HOPS.out]; simp only [List.getElem?_toArray, List.getElem?_cons_succ, List.getElem?_cons_zero]; exact rfl) (fun K HK => ?_)
  refine step_call rfl 31 #[(.tmp 16)] #[23] rfl HES.out #[.pointer (some ⟨b0, 0, none⟩)] (by simp [Act.eval]) (HC.out _ fd) ?_
  rintro e w2 ⟨rfl, f2⟩
  have hkc : w2.cell? ⟨d, 0, none⟩ = some (.pointer (some ⟨b0, 0, none⟩)) := cell_of (f2.keep hbb.out (by simp))
  have HP := Lib.hid f2
  clear f2
  have hcd2 : w2.cell? ⟨d, 0, none⟩ = some (.pointer (some ⟨b0, 0, none⟩)) := hkc
  refine ⟨_, rfl, ?_⟩
  refine HK.out (fun w' => w'.cell? ⟨d, 0, none⟩ = some (.pointer (some ⟨b0, 0, none⟩))) _ _ (fun _ h => h) (hcd2) ?_
  clear HK K
  simp only [Act.put, List.setIfInBounds_toArray, List.set_cons_zero, List.set_cons_succ]
  refine walkO_take (o := _) (v := ?_) (by rw [HOPS.out]; simp only [List.getElem?_toArray, List.getElem?_cons_succ, List.getElem?_cons_zero]; exact rfl) (Or.inl ⟨rfl, ?_⟩) ?_
  rotate_left
  · (intro w hSw; (try dsimp only at hSw); go_simp) <;> (with_reducible rfl)
  simp only [Act.put, List.setIfInBounds_toArray, List.set_cons_zero, List.set_cons_succ]
  refine walkO_take (o := _) (v := ?_) (by rw [HOPS.out]; simp only [List.getElem?_toArray, List.getElem?_cons_succ, List.getElem?_cons_zero]; exact rfl) (Or.inl ⟨rfl, ?_⟩) ?_
  rotate_left
  · (intro w hSw; (try dsimp only at hSw); go_simp) <;> (with_reducible rfl)
  simp only [Act.put, List.setIfInBounds_toArray, List.set_cons_zero, List.set_cons_succ]
  refine walkO_take (o := _) (v := ?_) (by rw [HOPS.out]; simp only [List.getElem?_toArray, List.getElem?_cons_succ, List.getElem?_cons_zero]; exact rfl) (Or.inl ⟨rfl, ?_⟩) ?_
  rotate_left
  · (intro w hSw; (try dsimp only at hSw); go_simp) <;> (with_reducible rfl)
  simp only [Act.put, List.setIfInBounds_toArray, List.set_cons_zero, List.set_cons_succ]
  refine walkO_take (o := _) (v := ?_) (by rw [HOPS.out]; simp only [List.getElem?_toArray, List.getElem?_cons_succ, List.getElem?_cons_zero]; exact rfl) (Or.inl ⟨rfl, ?_⟩) ?_
  rotate_left
  · (intro w hSw; (try dsimp only at hSw); go_simp) <;> (with_reducible rfl)
  simp only [Act.put, List.setIfInBounds_toArray, List.set_cons_zero, List.set_cons_succ]
  refine walkO_done ?_
  clear HOPS OPS
  go_wp2_with fail
  go_ret2
  exact ⟨rfl, fd.then0 HP.out⟩
set_option maxHeartbeats 2000000 in
theorem dx_finish0 (h : DR w F d b0 b1 F0 F1 s) :
    Calls Try.prog 13 #[.pointer (some ⟨d, 0, none⟩), .int .i64 0] w fun e w' => e = .returned (.tuple #[.int .i64 (endM s.m0).n, .int .i64 (endM s.m0).err]) ∧ DxQ w F NoG d { s with m0 := (endM s.m0).m } w' := by
  have HCK := Lib.hid (dx_check_ok h.b (k := 0) (by omega))
  have HH := Lib.hid h
  have HC := Lib.hid fun w' (f : Fr [] w w') => sf_end (h.h0.keep0 f)
  have hc0 : w.cell? ⟨d, 0, none⟩ = some (.pointer (some ⟨b0, 0, none⟩)) := cell_of h.b
  have hlt := h.lt
  have hi := h.i0
  have hnn := h.n0
  have hbb := Lib.hid h.b
  have hdl := h.lt _ h.id_
  clear h
  have HEI := Lib.hid (Go.Proofs.enters_of Try.func67 (by kernel_rfl) rfl)
  have HES := Lib.hid (Go.Proofs.enters_of Try.func33 (by kernel_rfl) rfl)
  go_enter Try.func13, Try.ntmps13
  go_wp2_with fail
  refine HCK.out.mono ?_
  rintro e w' ⟨rfl, rfl⟩
  go_wp2_with fail
  have fd : Fr [] w w.drew := (Fr.refl _ _).drew
  have hcd : w.drew.cell? ⟨d, 0, none⟩ = some (.pointer (some ⟨b0, 0, none⟩)) := hc0
  refine wp_region_order [(0, true), (1, true), (3, true), (4, true), (2, false), (5, true), (6, true), (7, false), (8, true), (9, true), (10, true), (11, true)] (fun w' => w'.cell? ⟨d, 0, none⟩ = some (.pointer (some ⟨b0, 0, none⟩))) (by kernel_rfl) (by kernel_rfl) hcd ?_
  intro OPS HOPS
  have hops := HOPS.out
  try simp only [List.append_eq, List.cons_append, List.nil_append] at hops
  replace HOPS := Lib.hid hops
  clear hops
  refine walkO_take (o := _) (v := ?_) (by rw [HOPS.out]; simp only [List.getElem?_toArray, List.getElem?_cons_succ, List.getElem?_cons_zero]; exact rfl) (Or.inl ⟨rfl, ?_⟩) ?_
  rotate_left
  · (intro w hSw; (try dsimp only at hSw); go_simp) <;> (with_reducible rfl)
  simp only [Act.put, List.setIfInBounds_toArray, List.set_cons_zero, List.set_cons_succ]
  refine walkO_take (o := _) (v := ?_) (by rw [HOPS.out]; simp only [List.getElem?_toArray, List.getElem?_cons_succ, List.getElem?_cons_zero]; exact rfl) (Or.inl ⟨rfl, ?_⟩) ?_
  rotate_left
  · (intro w hSw; (try dsimp only at hSw); go_simp) <;> (with_reducible rfl)
  simp only [Act.put, List.setIfInBounds_toArray, List.set_cons_zero, List.set_cons_succ]
  refine walkO_take (o := _) (v := ?_) (by rw [HOPS.out]; simp only [List.getElem?_toArray, List.getElem?_cons_succ, List.getElem?_cons_zero]; exact rfl) (Or.inl ⟨rfl, ?_⟩) ?_
  rotate_left
  · (intro w hSw; (try dsimp only at hSw); go_simp) <;> (with_reducible rfl)
  simp only [Act.put, List.setIfInBounds_toArray, List.set_cons_zero, List.set_cons_succ]
  refine walkO_take (o := _) (v := ?_) (by rw [HOPS.out]; simp only [List.getElem?_toArray, List.getElem?_cons_succ, List.getElem?_cons_zero]; exact rfl) (Or.inl ⟨rfl, ?_⟩) ?_
  rotate_left
  · (intro w hSw; (try dsimp only at hSw); go_simp) <;> (with_reducible rfl)
  simp only [Act.put, List.setIfInBounds_toArray, List.set_cons_zero, List.set_cons_succ]
  refine walkO_call (o := _) (by rw [HOPS.out]; simp only [List.getElem?_toArray, List.getElem?_cons_succ, List.getElem?_cons_zero]; exact rfl) (fun K HK => ?_)
  refine step_call rfl 67 #[(.tmp 14)] #[114] rfl HEI.out #[.int .i64 0] (by simp [Act.eval]) (end_out _ _) ?_
  rintro e w1 ⟨rfl, rfl⟩
  refine ⟨_, rfl, ?_⟩
  refine HK.out (fun w' => w'.cell? ⟨d, 0, none⟩ = some (.pointer (some ⟨b0, 0, none⟩))) _ _ (fun _ h => h) (hcd) ?_
  clear HK K
  simp only [Act.put, List.setIfInBounds_toArray, List.set_cons_zero, List.set_cons_succ]
  refine walkO_take (o := _) (v := ?_) (by rw [HOPS.out]; simp only [List.getElem?_toArray, List.getElem?_cons_succ, List.getElem?_cons_zero]; exact rfl) (Or.inl ⟨rfl, ?_⟩) ?_
  rotate_left
  · (intro w hSw; (try dsimp only at hSw); go_simp) <;> (with_reducible rfl)
  simp only [Act.put, List.setIfInBounds_toArray, List.set_cons_zero, List.set_cons_succ]
  refine walkO_take (o := _) (v := ?_) (by rw [HOPS.out]; simp only [List.getElem?_toArray, List.getElem?_cons_succ, List.getElem?_cons_zero]; exact rfl) (Or.inl ⟨rfl, ?_⟩) ?_
  rotate_left
  · (intro w hSw; (try dsimp only at hSw); go_simp) <;> (with_reducible rfl)
  simp only [Act.put, List.setIfInBounds_toArray, List.set_cons_zero, List.set_cons_succ]
  refine walkO_call (o := _) (by rw [HOPS.out]; simp only [List.getElem?_toArray, List.getElem?_cons_succ, List.getElem?_cons_zero]; exact rfl) (fun K HK => ?_)
  refine step_call rfl 33 #[(.tmp 19)] #[23] rfl HES.out #[.pointer (some ⟨b0, 0, none⟩)] (by simp [Act.eval]) (HC.out _ fd) ?_
  rintro e w2 ⟨rfl, ⟨S, hS, f2⟩, F', hF', h'⟩
  have hkc : w2.cell? ⟨d, 0, none⟩ = some (.pointer (some ⟨b0, 0, none⟩)) := cell_of (f2.keep hbb.out (fun hm => by rcases hS d hm with h | h; exact hnn h; exact absurd (show w.heap.size ≤ d from h) (by omega)))
  have HP := Lib.hid (show SFP w.drew F0 b0 _ w2 from ⟨⟨S, hS, f2⟩, F', hF', h'⟩)
  clear hS f2 hF' h'
  have hcd2 : w2.cell? ⟨d, 0, none⟩ = some (.pointer (some ⟨b0, 0, none⟩)) := hkc
  refine ⟨_, rfl, ?_⟩
  refine HK.out (fun w' => w'.cell? ⟨d, 0, none⟩ = some (.pointer (some ⟨b0, 0, none⟩))) _ _ (fun _ h => h) (hcd2) ?_
  clear HK K
  simp only [Act.put, List.setIfInBounds_toArray, List.set_cons_zero, List.set_cons_succ]
  refine walkO_take (o := _) (v := ?_) (by rw [HOPS.out]; simp only [List.getElem?_toArray, List.getElem?_cons_succ, List.getElem?_cons_zero]; exact rfl) (Or.inl ⟨rfl, ?_⟩) ?_
  rotate_left
  · (intro w hSw; (try dsimp only at hSw); go_simp) <;> (with_reducible rfl)
  simp only [Act.put, List.setIfInBounds_toArray, List.set_cons_zero, List.set_cons_succ]
  refine walkO_take (o := _) (v := ?_) (by rw [HOPS.out]; simp only [List.getElem?_toArray, List.getElem?_cons_succ, List.getElem?_cons_zero]; exact rfl) (Or.inl ⟨rfl, ?_⟩) ?_
  rotate_left
  · (intro w hSw; (try dsimp only at hSw); go_simp) <;> (with_reducible rfl)
  simp only [Act.put, List.setIfInBounds_toArray, List.set_cons_zero, List.set_cons_succ]
  refine walkO_take (o := _) (v := ?_) (by rw [HOPS.out]; simp only [List.getElem?_toArray, List.getElem?_cons_succ, List.getElem?_cons_zero]; exact rfl) (Or.inl ⟨rfl, ?_⟩) ?_
  rotate_left
  · (intro w hSw; (try dsimp only at hSw); go_simp) <;> (with_reducible rfl)
  simp only [Act.put, List.setIfInBounds_toArray, List.set_cons_zero, List.set_cons_succ]
  refine walkO_take (o := _) (v := ?_) (by rw [HOPS.out]; simp only [List.getElem?_toArray, List.getElem?_cons_succ, List.getElem?_cons_zero]; exact rfl) (Or.inl ⟨rfl, ?_⟩) ?_
  rotate_left
  · (intro w hSw; (try dsimp only at hSw); go_simp) <;> (with_reducible rfl)
  simp only [Act.put, List.setIfInBounds_toArray, List.set_cons_zero, List.set_cons_succ]
  refine walkO_done ?_
  clear HOPS OPS
  go_wp2_with fail
  go_ret2
  exact ⟨rfl, HH.out.sfp0 (HP.out.ahead fd)⟩
set_option maxHeartbeats 2000000 in
theorem dx_cancel0 (h : DR w F d b0 b1 F0 F1 s) :
    Calls Try.prog 14 #[.pointer (some ⟨d, 0, none⟩), .int .i64 0] w fun e w' => e = .returned (.tuple #[.int .i64 (cancelM s.m0).n, .int .i64 (cancelM s.m0).err]) ∧ DxQ w F NoG d { s with m0 := (cancelM s.m0).m } w' := by
  have HCK := Lib.hid (dx_check_ok h.b (k := 0) (by omega))
  have HH := Lib.hid h
  have HC := Lib.hid fun w' (f : Fr [] w w') => sf_cancel (h.h0.keep0 f)
  have hc0 : w.cell? ⟨d, 0, none⟩ = some (.pointer (some ⟨b0, 0, none⟩)) := cell_of h.b
  have hlt := h.lt
  have hi := h.i0
  have hnn := h.n0
  have hbb := Lib.hid h.b
  have hdl := h.lt _ h.id_
  clear h
  have HEI := Lib.hid (Go.Proofs.enters_of Try.func67 (by kernel_rfl) rfl)
  have HES := Lib.hid (Go.Proofs.enters_of Try.func34 (by kernel_rfl) rfl)
  go_enter Try.func14, Try.ntmps14
  go_wp2_with fail
  refine HCK.out.mono ?_
  rintro e w' ⟨rfl, rfl⟩
  go_wp2_with fail
  have fd : Fr [] w w.drew := (Fr.refl _ _).drew
  have hcd : w.drew.cell? ⟨d, 0, none⟩ = some (.pointer (some ⟨b0, 0, none⟩)) := hc0
  refine wp_region_order [(0, true), (1, true), (3, true), (4, true), (2, false), (5, true), (6, true), (7, false), (8, true), (9, true), (10, true), (11, true)] (fun w' => w'.cell? ⟨d, 0, none⟩ = some (.pointer (some ⟨b0, 0, none⟩))) (by kernel_rfl) (by kernel_rfl) hcd ?_
  intro OPS HOPS
  have hops := HOPS.out
  try simp only [List.append_eq, List.cons_append, List.nil_append] at hops
  replace HOPS := Lib.hid hops
  clear hops
  refine walkO_take (o := _) (v := ?_) (by rw [HOPS.out]; simp only [List.getElem?_toArray, List.getElem?_cons_succ, List.getElem?_cons_zero]; exact rfl) (Or.inl ⟨rfl, ?_⟩) ?_
  rotate_left
  · (intro w hSw; (try dsimp only at hSw); go_simp) <;> (with_reducible rfl)
  simp only [Act.put, List.setIfInBounds_toArray, List.set_cons_zero, List.set_cons_succ]
  refine walkO_take (o := _) (v := ?_) (by rw [HOPS.out]; simp only [List.getElem?_toArray, List.getElem?_cons_succ, List.getElem?_cons_zero]; exact rfl) (Or.inl ⟨rfl, ?_⟩) ?_
  rotate_left
  · (intro w hSw; (try dsimp only at hSw); go_simp) <;> (with_reducible rfl)
  simp only [Act.put, List.setIfInBounds_toArray, List.set_cons_zero, List.set_cons_succ]
  refine walkO_take (o := _) (v := ?_) (by rw [HOPS.out]; simp only [List.getElem?_toArray, List.getElem?_cons_succ, List.getElem?_cons_zero]; exact rfl) (Or.inl ⟨rfl, ?_⟩) ?_
  rotate_left
  · (intro w hSw; (try dsimp only at hSw); go_simp) <;> (with_reducible rfl)
  simp only [Act.put, List.setIfInBounds_toArray, List.set_cons_zero, List.set_cons_succ]
  refine walkO_take (o := _) (v := ?_) (by rw [HOPS.out]; simp only [List.getElem?_toArray, List.getElem?_cons_succ, List.getElem?_cons_zero]; exact rfl) (Or.inl ⟨rfl, ?_⟩) ?_
  rotate_left
  · (intro w hSw; (try dsimp only at hSw); go_simp) <;> (with_reducible rfl)
  simp only [Act.put, List.setIfInBounds_toArray, List.set_cons_zero, List.set_cons_succ]
  refine walkO_call (o := _) (by rw [HOPS.out]; simp only [List.getElem?_toArray, List.getElem?_cons_succ, List.getElem?_cons_zero]; exact rfl) (fun K HK => ?_)
  refine step_call rfl 67 #[(.tmp 14)] #[114] rfl HEI.out #[.int .i64 0] (by simp [Act.eval]) (end_out _ _) ?_
  rintro e w1 ⟨rfl, rfl⟩
  refine ⟨_, rfl, ?_⟩
  refine HK.out (fun w' => w'.cell? ⟨d, 0, none⟩ = some (.pointer (some ⟨b0, 0, none⟩))) _ _ (fun _ h => h) (hcd) ?_
  clear HK K
  simp only [Act.put, List.setIfInBounds_toArray, List.set_cons_zero, List.set_cons_succ]
  refine walkO_take (o := _) (v := ?_) (by rw [HOPS.out]; simp only [List.getElem?_toArray, List.getElem?_cons_succ, List.getElem?_cons_zero]; exact rfl) (Or.inl ⟨rfl, ?_⟩) ?_
  rotate_left
  · (intro w hSw; (try dsimp only at hSw); go_simp) <;> (with_reducible rfl)
  simp only [Act.put, List.setIfInBounds_toArray, List.set_cons_zero, List.set_cons_succ]
  refine walkO_take (o := _) (v := ?_) (by rw [HOPS.out]; simp only [List.getElem?_toArray, List.getElem?_cons_succ, List.getElem?_cons_zero]; exact rfl) (Or.inl ⟨rfl, ?_⟩) ?_
  rotate_left
  · (intro w hSw; (try dsimp only at hSw); go_simp) <;> (with_reducible rfl)
  simp only [Act.put, List.setIfInBounds_toArray, List.set_cons_zero, List.set_cons_succ]
  refine walkO_call (o := _) (by rw [HOPS.out]; simp only [List.getElem?_toArray, List.getElem?_cons_succ, List.getElem?_cons_zero]; exact rfl) (fun K HK => ?_)
  refine step_call rfl 34 #[(.tmp 19)] #[23] rfl HES.out #[.pointer (some ⟨b0, 0, none⟩)] (by simp [Act.eval]) (HC.out _ fd) ?_
  rintro e w2 ⟨rfl, ⟨S, hS, f2⟩, F', hF', h'⟩
  have hkc : w2.cell? ⟨d, 0, none⟩ = some (.pointer (some ⟨b0, 0, none⟩)) := cell_of (f2.keep hbb.out (fun hm => by rcases hS d hm with h | h; exact hnn h; exact absurd (show w.heap.size ≤ d from h) (by omega)))
  have HP := Lib.hid (show SFP w.drew F0 b0 _ w2 from ⟨⟨S, hS, f2⟩, F', hF', h'⟩)
  clear hS f2 hF' h'
  have hcd2 : w2.cell? ⟨d, 0, none⟩ = some (.pointer (some ⟨b0, 0, none⟩)) := hkc
  refine ⟨_, rfl, ?_⟩
  refine HK.out (fun w' => w'.cell? ⟨d, 0, none⟩ = some (.pointer (some ⟨b0, 0, none⟩))) _ _ (fun _ h => h) (hcd2) ?_
  clear HK K
  simp only [Act.put, List.setIfInBounds_toArray, List.set_cons_zero, List.set_cons_succ]
  refine walkO_take (o := _) (v := ?_) (by rw [HOPS.out]; simp only [List.getElem?_toArray, List.getElem?_cons_succ, List.getElem?_cons_zero]; exact rfl) (Or.inl ⟨rfl, ?_⟩) ?_
  rotate_left
  · (intro w hSw; (try dsimp only at hSw); go_simp) <;> (with_reducible rfl)
  simp only [Act.put, List.setIfInBounds_toArray, List.set_cons_zero, List.set_cons_succ]
  refine walkO_take (o := _) (v := ?_) (by rw [HOPS.out]; simp only [List.getElem?_toArray, List.getElem?_cons_succ, List.getElem?_cons_zero]; exact rfl) (Or.inl ⟨rfl, ?_⟩) ?_
  rotate_left
  · (intro w hSw; (try dsimp only at hSw); go_simp) <;> (with_reducible rfl)
  simp only [Act.put, List.setIfInBounds_toArray, List.set_cons_zero, List.set_cons_succ]
  refine walkO_take (o := _) (v := ?_) (by rw [HOPS.out]; simp only [List.getElem?_toArray, List.getElem?_cons_succ, List.getElem?_cons_zero]; exact rfl) (Or.inl ⟨rfl, ?_⟩) ?_
  rotate_left
  · (intro w hSw; (try dsimp only at hSw); go_simp) <;> (with_reducible rfl)
  simp only [Act.put, List.setIfInBounds_toArray, List.set_cons_zero, List.set_cons_succ]
  refine walkO_take (o := _) (v := ?_) (by rw [HOPS.out]; simp only [List.getElem?_toArray, List.getElem?_cons_succ, List.getElem?_cons_zero]; exact rfl) (Or.inl ⟨rfl, ?_⟩) ?_
  rotate_left
  · (intro w hSw; (try dsimp only at hSw); go_simp) <;> (with_reducible rfl)
  simp only [Act.put, List.setIfInBounds_toArray, List.set_cons_zero, List.set_cons_succ]
  refine walkO_done ?_
  clear HOPS OPS
  go_wp2_with fail
  go_ret2
  exact ⟨rfl, HH.out.sfp0 (HP.out.ahead fd)⟩
set_option maxHeartbeats 2000000 in
theorem dx_closewrite0 (h : DR w F d b0 b1 F0 F1 s) :
    Calls Try.prog 19 #[.pointer (some ⟨d, 0, none⟩), .int .i64 0] w fun e w' => e = .returned (.int .i64 (closewM s.m0 13).err) ∧ DxQ w F NoG d { s with m0 := (closewM s.m0 13).m } w' := by
  have HCK := Lib.hid (dx_check_ok h.b (k := 0) (by omega))
  have HH := Lib.hid h
  have HC := Lib.hid fun w' (f : Fr [] w w') => sf_closew (h.h0.keep0 f) 13
  have hc0 : w.cell? ⟨d, 0, none⟩ = some (.pointer (some ⟨b0, 0, none⟩)) := cell_of h.b
  have hlt := h.lt
  have hi := h.i0
  have hnn := h.n0
  have hbb := Lib.hid h.b
  have hdl := h.lt _ h.id_
  clear h
  have HEI := Lib.hid (Go.Proofs.enters_of Try.func67 (by kernel_rfl) rfl)
  have HES := Lib.hid (Go.Proofs.enters_of Try.func36 (by kernel_rfl) rfl)
  go_enter Try.func19, Try.ntmps19
  go_wp2_with fail
  refine HCK.out.mono ?_
  rintro e w' ⟨rfl, rfl⟩
  go_wp2_with fail
  have fd : Fr [] w w.drew := (Fr.refl _ _).drew
  have hcd : w.drew.cell? ⟨d, 0, none⟩ = some (.pointer (some ⟨b0, 0, none⟩)) := hc0
  refine wp_region_order [(0, true), (1, true), (3, true), (4, true), (2, false), (5, true), (6, true), (7, false), (8, true)] (fun w' => w'.cell? ⟨d, 0, none⟩ = some (.pointer (some ⟨b0, 0, none⟩))) (by kernel_rfl) (by kernel_rfl) hcd ?_
  intro OPS HOPS
  have hops := HOPS.out
  try simp only [List.append_eq, List.cons_append, List.nil_append] at hops
  replace HOPS := Lib.hid hops
  clear hops
  refine walkO_take (o := _) (v := ?_) (by rw [HOPS.out]; simp only [List.getElem?_toArray, List.getElem?_cons_succ, List.getElem?_cons_zero]; exact rfl) (Or.inl ⟨rfl, ?_⟩) ?_
  rotate_left
  · (intro w hSw; (try dsimp only at hSw); go_simp) <;> (with_reducible rfl)
  simp only [Act.put, List.setIfInBounds_toArray, List.set_cons_zero, List.set_cons_succ]
  refine walkO_take (o := _) (v := ?_) (by rw [HOPS.out]; simp only [List.getElem?_toArray, List.getElem?_cons_succ, List.getElem?_cons_zero]; exact rfl) (Or.inl ⟨rfl, ?_⟩) ?_
  rotate_left
  · (intro w hSw; (try dsimp only at hSw); go_simp) <;> (with_reducible rfl)
  simp only [Act.put, List.setIfInBounds_toArray, List.set_cons_zero, List.set_cons_succ]
  refine walkO_take (o := _) (v := ?_) (by rw [HOPS.out]; simp only [List.getElem?_toArray, List.getElem?_cons_succ, List.getElem?_cons_zero]; exact rfl) (Or.inl ⟨rfl, ?_⟩) ?_
  rotate_left
  · (intro w hSw; (try dsimp only at hSw); go_simp) <;> (with_reducible rfl)
  simp only [Act.put, List.setIfInBounds_toArray, List.set_cons_zero, List.set_cons_succ]
  refine walkO_take (o := _) (v := ?_) (by rw [HOPS.out]; simp only [List.getElem?_toArray, List.getElem?_cons_succ, List.getElem?_cons_zero]; exact rfl) (Or.inl ⟨rfl, ?_⟩) ?_
  rotate_left
  · (intro w hSw; (try dsimp only at hSw); go_simp) <;> (with_reducible rfl)
  simp only [Act.put, List.setIfInBounds_toArray, List.set_cons_zero, List.set_cons_succ]
  refine walkO_call (o := _) (by rw [HOPS.out]; simp only [List.getElem?_toArray, List.getElem?_cons_succ, List.getElem?_cons_zero]; exact rfl) (fun K HK => ?_)
  refine step_call rfl 67 #[(.tmp 13)] #[114] rfl HEI.out #[.int .i64 0] (by simp [Act.eval]) (end_out _ _) ?_
  rintro e w1 ⟨rfl, rfl⟩
  refine ⟨_, rfl, ?_⟩
  refine HK.out (fun w' => w'.cell? ⟨d, 0, none⟩ = some (.pointer (some ⟨b0, 0, none⟩))) _ _ (fun _ h => h) (hcd) ?_
  clear HK K
  simp only [Act.put, List.setIfInBounds_toArray, List.set_cons_zero, List.set_cons_succ]
  refine walkO_take (o := _) (v := ?_) (by rw [HOPS.out]; simp only [List.getElem?_toArray, List.getElem?_cons_succ, List.getElem?_cons_zero]; exact rfl) (Or.inl ⟨rfl, ?_⟩) ?_
  rotate_left
  · (intro w hSw; (try dsimp only at hSw); go_simp) <;> (with_reducible rfl)
  simp only [Act.put, List.setIfInBounds_toArray, List.set_cons_zero, List.set_cons_succ]
  refine walkO_take (o := _) (v := ?_) (by rw [HOPS.out]; simp only [List.getElem?_toArray, List.getElem?_cons_succ, List.getElem?_cons_zero]; exact rfl) (Or.inl ⟨rfl, ?_⟩) ?_
  rotate_left
  · (intro w hSw; (try dsimp only at hSw); go_simp) <;> (with_reducible rfl)
  simp only [Act.put, List.setIfInBounds_toArray, List.set_cons_zero, List.set_cons_succ]
  refine walkO_call (o := _) (by rw [HOPS.out]; simp only [List.getElem?_toArray, List.getElem?_cons_succ, List.getElem?_cons_zero]; exact rfl) (fun K HK => ?_)
  refine step_call rfl 36 #[(.tmp 18), (Operand.const (Value.int IntKind.i64 13))] #[23, 30] rfl HES.out #[.pointer (some ⟨b0, 0, none⟩), .int .i64 13] (by simp [Act.eval]) (HC.out _ fd) ?_
  rintro e w2 ⟨rfl, ⟨S, hS, f2⟩, F', hF', h'⟩
  have hkc : w2.cell? ⟨d, 0, none⟩ = some (.pointer (some ⟨b0, 0, none⟩)) := cell_of (f2.keep hbb.out (fun hm => by rcases hS d hm with h | h; exact hnn h; exact absurd (show w.heap.size ≤ d from h) (by omega)))
  have HP := Lib.hid (show SFP w.drew F0 b0 _ w2 from ⟨⟨S, hS, f2⟩, F', hF', h'⟩)
  clear hS f2 hF' h'
  have hcd2 : w2.cell? ⟨d, 0, none⟩ = some (.pointer (some ⟨b0, 0, none⟩)) := hkc
  refine ⟨_, rfl, ?_⟩
  refine HK.out (fun w' => w'.cell? ⟨d, 0, none⟩ = some (.pointer (some ⟨b0, 0, none⟩))) _ _ (fun _ h => h) (hcd2) ?_
  clear HK K
  simp only [Act.put, List.setIfInBounds_toArray, List.set_cons_zero, List.set_cons_succ]
  refine walkO_take (o := _) (v := ?_) (by rw [HOPS.out]; simp only [List.getElem?_toArray, List.getElem?_cons_succ, List.getElem?_cons_zero]; exact rfl) (Or.inl ⟨rfl, ?_⟩) ?_
  rotate_left
  · (intro w hSw; (try dsimp only at hSw); go_simp) <;> (with_reducible rfl)
  simp only [Act.put, List.setIfInBounds_toArray, List.set_cons_zero, List.set_cons_succ]
  refine walkO_done ?_
  clear HOPS OPS
  go_wp2_with fail
  go_ret
  exact ⟨rfl, HH.out.sfp0 (HP.out.ahead fd)⟩
set_option maxHeartbeats 2000000 in
theorem dx_closeread0 (h : DR w F d b0 b1 F0 F1 s) :
    Calls Try.prog 18 #[.pointer (some ⟨d, 0, none⟩), .int .i64 0] w fun e w' => e = .returned (.int .i64 (closerM s.m1 14).err) ∧ DxQ w F NoG d { s with m1 := (closerM s.m1 14).m } w' := by
  have HCK := Lib.hid (dx_check_ok h.b (k := 0) (by omega))
  have HH := Lib.hid h
  have HC := Lib.hid fun w' (f : Fr [] w w') => sf_closer (h.h1.keep0 f) 14
  have hc0 : w.cell? ⟨d, 1, none⟩ = some (.pointer (some ⟨b1, 0, none⟩)) := cell_of h.b
  have hlt := h.lt
  have hi := h.i1
  have hnn := h.n1
  have hbb := Lib.hid h.b
  have hdl := h.lt _ h.id_
  clear h
  have HEI := Lib.hid (Go.Proofs.enters_of Try.func66 (by kernel_rfl) rfl)
  have HES := Lib.hid (Go.Proofs.enters_of Try.func40 (by kernel_rfl) rfl)
  go_enter Try.func18, Try.ntmps18
  go_wp2_with fail
  refine HCK.out.mono ?_
  rintro e w' ⟨rfl, rfl⟩
  go_wp2_with fail
  have fd : Fr [] w w.drew := (Fr.refl _ _).drew
  have hcd : w.drew.cell? ⟨d, 1, none⟩ = some (.pointer (some ⟨b1, 0, none⟩)) := hc0
  refine wp_region_order [(0, true), (1, true), (3, true), (4, true), (2, false), (5, true), (6, true), (7, false), (8, true)] (fun w' => w'.cell? ⟨d, 1, none⟩ = some (.pointer (some ⟨b1, 0, none⟩))) (by kernel_rfl) (by kernel_rfl) hcd ?_
  intro OPS HOPS
  have hops := HOPS.out
  try simp only [List.append_eq, List.cons_append, List.nil_append] at hops
  replace HOPS := Lib.hid hops
  clear hops
  refine walkO_take (o := _) (v := ?_) (by rw [HOPS.out]; simp only [List.getElem?_toArray, List.getElem?_cons_succ, List.getElem?_cons_zero]; exact rfl) (Or.inl ⟨rfl, ?_⟩) ?_
  rotate_left
  · (intro w hSw; (try dsimp only at hSw); go_simp) <;> (with_reducible rfl)
  simp only [Act.put, List.setIfInBounds_toArray, List.set_cons_zero, List.set_cons_succ]
  refine walkO_take (o := _) (v := ?_) (by rw [HOPS.out]; simp only [List.getElem?_toArray, List.getElem?_cons_succ, List.getElem?_cons_zero]; exact rfl) (Or.inl ⟨rfl, ?_⟩) ?_
  rotate_left
  · (intro w hSw; (try dsimp only at hSw); go_simp) <;> (with_reducible rfl)
  simp only [Act.put, List.setIfInBounds_toArray, List.set_cons_zero, List.set_cons_succ]
  refine walkO_take (o := _) (v := ?_) (by rw [HOPS.out]; simp only [List.getElem?_toArray, List.getElem?_cons_succ, List.getElem?_cons_zero]; exact rfl) (Or.inl ⟨rfl, ?_⟩) ?_
  rotate_left
  · (intro w hSw; (try dsimp only at hSw); go_simp) <;> (with_reducible rfl)
  simp only [Act.put, List.setIfInBounds_toArray, List.set_cons_zero, List.set_cons_succ]
  refine walkO_take (o := _) (v := ?_) (by rw [HOPS.out]; simp only [List.getElem?_toArray, List.getElem?_cons_succ, List.getElem?_cons_zero]; exact rfl) (Or.inl ⟨rfl, ?_⟩) ?_
  rotate_left
  · (intro w hSw; (try dsimp only at hSw); go_simp) <;> (with_reducible rfl)
  simp only [Act.put, List.setIfInBounds_toArray, List.set_cons_zero, List.set_cons_succ]
  refine walkO_call (o := _) (by rw [HOPS.out]; simp only [List.getElem?_toArray, List.getElem?_cons_succ, List.getElem?_cons_zero]; exact rfl) (fun K HK => ?_)
  refine step_call rfl 66 #[(.tmp 13)] #[114] rfl HEI.out #[.int .i64 0] (by simp [Act.eval]) (end_in0 _) ?_
  rintro e w1 ⟨rfl, rfl⟩
  refine ⟨_, rfl, ?_⟩
  refine HK.out (fun w' => w'.cell? ⟨d, 1, none⟩ = some (.pointer (some ⟨b1, 0, none⟩))) _ _ (fun _ h => h) (hcd) ?_
  clear HK K
  simp only [Act.put, List.setIfInBounds_toArray, List.set_cons_zero, List.set_cons_succ]
  refine walkO_take (o := _) (v := ?_) (by rw [HOPS.out]; simp only [List.getElem?_toArray, List.getElem?_cons_succ, List.getElem?_cons_zero]; exact rfl) (Or.inl ⟨rfl, ?_⟩) ?_
  rotate_left
  · (intro w hSw; (try dsimp only at hSw); go_simp) <;> (with_reducible rfl)
  simp only [Act.put, List.setIfInBounds_toArray, List.set_cons_zero, List.set_cons_succ]
  refine walkO_take (o := _) (v := ?_) (by rw [HOPS.out]; simp only [List.getElem?_toArray, List.getElem?_cons_succ, List.getElem?_cons_zero]; exact rfl) (Or.inl ⟨rfl, ?_⟩) ?_
  rotate_left
  · (intro w hSw; (try dsimp only at hSw); go_simp) <;> (with_reducible rfl)
  simp only [Act.put, List.setIfInBounds_toArray, List.set_cons_zero, List.set_cons_succ]
  refine walkO_call (o := _) (by rw [HOPS.out]; simp only [List.getElem?_toArray, List.getElem?_cons_succ, List.getElem?_cons_zero]; exact rfl) (fun K HK => ?_)
  refine step_call rfl 40 #[(.tmp 18), (Operand.const (Value.int IntKind.i64 14))] #[23, 30] rfl HES.out #[.pointer (some ⟨b1, 0, none⟩), .int .i64 14] (by simp [Act.eval]) (HC.out _ fd) ?_
  rintro e w2 ⟨rfl, ⟨S, hS, f2⟩, F', hF', h'⟩
  have hkc : w2.cell? ⟨d, 1, none⟩ = some (.pointer (some ⟨b1, 0, none⟩)) := cell_of (f2.keep hbb.out (fun hm => by rcases hS d hm with h | h; exact hnn h; exact absurd (show w.heap.size ≤ d from h) (by omega)))
  have HP := Lib.hid (show SFP w.drew F1 b1 _ w2 from ⟨⟨S, hS, f2⟩, F', hF', h'⟩)
  clear hS f2 hF' h'
  have hcd2 : w2.cell? ⟨d, 1, none⟩ = some (.pointer (some ⟨b1, 0, none⟩)) := hkc
  refine ⟨_, rfl, ?_⟩
  refine HK.out (fun w' => w'.cell? ⟨d, 1, none⟩ = some (.pointer (some ⟨b1, 0, none⟩))) _ _ (fun _ h => h) (hcd2) ?_
  clear HK K
  simp only [Act.put, List.setIfInBounds_toArray, List.set_cons_zero, List.set_cons_succ]
  refine walkO_take (o := _) (v := ?_) (by rw [HOPS.out]; simp only [List.getElem?_toArray, List.getElem?_cons_succ, List.getElem?_cons_zero]; exact rfl) (Or.inl ⟨rfl, ?_⟩) ?_
  rotate_left
  · (intro w hSw; (try dsimp only at hSw); go_simp) <;> (with_reducible rfl)
  simp only [Act.put, List.setIfInBounds_toArray, List.set_cons_zero, List.set_cons_succ]
  refine walkO_done ?_
  clear HOPS OPS
  go_wp2_with fail
  go_ret
  exact ⟨rfl, HH.out.sfp1 (HP.out.ahead fd)⟩
set_option maxHeartbeats 2000000 in
theorem dx_read0 (h : DR w F d b0 b1 F0 F1 s) (n : Int) :
    Calls Try.prog 12 #[.pointer (some ⟨d, 0, none⟩), .int .i64 0, .int .i64 n] w fun e w' => ∃ u, e = .returned (.tuple #[u, .int .i64 (readM s.m1 n).err]) ∧ Ow w' w.heap.size 5 u ((bi (readM s.m1 n).out).map (Value.int .u8)) ∧ DxQ w F NoG d { s with m1 := (readM s.m1 n).m } w' := by
  have HCK := Lib.hid (dx_check_ok h.b (k := 0) (by omega))
  have HH := Lib.hid h
  have HC := Lib.hid fun w' (f : Fr [] w w') => sf_readP (h.h1.keep0 f) n
  have hc0 : w.cell? ⟨d, 1, none⟩ = some (.pointer (some ⟨b1, 0, none⟩)) := cell_of h.b
  have hlt := h.lt
  have hi := h.i1
  have hnn := h.n1
  have hbb := Lib.hid h.b
  have hdl := h.lt _ h.id_
  clear h
  have HEI := Lib.hid (Go.Proofs.enters_of Try.func66 (by kernel_rfl) rfl)
  have HES := Lib.hid (Go.Proofs.enters_of Try.func35 (by kernel_rfl) rfl)
  go_enter Try.func12, Try.ntmps12
  go_wp2_with fail
  refine HCK.out.mono ?_
  rintro e w' ⟨rfl, rfl⟩
  go_wp2_with fail
  have fd : Fr [] w w.drew := (Fr.refl _ _).drew
  have hcd : w.drew.cell? ⟨d, 1, none⟩ = some (.pointer (some ⟨b1, 0, none⟩)) := hc0
  refine wp_region_order [(0, true), (1, true), (3, true), (4, true), (7, true), (2, false), (5, true), (6, true), (8, false), (9, true), (10, true), (11, true), (12, true)] (fun w' => w'.cell? ⟨d, 1, none⟩ = some (.pointer (some ⟨b1, 0, none⟩))) (by kernel_rfl) (by kernel_rfl) hcd ?_
  intro OPS HOPS
  have hops := HOPS.out
  try simp only [List.append_eq, List.cons_append, List.nil_append] at hops
  replace HOPS := Lib.hid hops
  clear hops
  refine walkO_take (o := _) (v := ?_) (by rw [HOPS.out]; simp only [List.getElem?_toArray, List.getElem?_cons_succ, List.getElem?_cons_zero]; exact rfl) (Or.inl ⟨rfl, ?_⟩) ?_
  rotate_left
  · (intro w hSw; (try dsimp only at hSw); go_simp) <;> (with_reducible rfl)
  simp only [Act.put, List.setIfInBounds_toArray, List.set_cons_zero, List.set_cons_succ]
  refine walkO_take (o := _) (v := ?_) (by rw [HOPS.out]; simp only [List.getElem?_toArray, List.getElem?_cons_succ, List.getElem?_cons_zero]; exact rfl) (Or.inl ⟨rfl, ?_⟩) ?_
  rotate_left
  · (intro w hSw; (try dsimp only at hSw); go_simp) <;> (with_reducible rfl)
  simp only [Act.put, List.setIfInBounds_toArray, List.set_cons_zero, List.set_cons_succ]
  refine walkO_take (o := _) (v := ?_) (by rw [HOPS.out]; simp only [List.getElem?_toArray, List.getElem?_cons_succ, List.getElem?_cons_zero]; exact rfl) (Or.inl ⟨rfl, ?_⟩) ?_
  rotate_left
  · (intro w hSw; (try dsimp only at hSw); go_simp) <;> (with_reducible rfl)
  simp only [Act.put, List.setIfInBounds_toArray, List.set_cons_zero, List.set_cons_succ]
  refine walkO_take (o := _) (v := ?_) (by rw [HOPS.out]; simp only [List.getElem?_toArray, List.getElem?_cons_succ, List.getElem?_cons_zero]; exact rfl) (Or.inl ⟨rfl, ?_⟩) ?_
  rotate_left
  · (intro w hSw; (try dsimp only at hSw); go_simp) <;> (with_reducible rfl)
  simp only [Act.put, List.setIfInBounds_toArray, List.set_cons_zero, List.set_cons_succ]
  refine walkO_take (o := _) (v := ?_) (by rw [HOPS.out]; simp only [List.getElem?_toArray, List.getElem?_cons_succ, List.getElem?_cons_zero]; exact rfl) (Or.inl ⟨rfl, ?_⟩) ?_
  rotate_left
  · (intro w hSw; (try dsimp only at hSw); go_simp) <;> (with_reducible rfl)
  simp only [Act.put, List.setIfInBounds_toArray, List.set_cons_zero, List.set_cons_succ]
  refine walkO_call (o := _) (by rw [HOPS.out]; simp only [List.getElem?_toArray, List.getElem?_cons_succ, List.getElem?_cons_zero]; exact rfl) (fun K HK => ?_)
  refine step_call rfl 66 #[(.tmp 16)] #[114] rfl HEI.out #[.int .i64 0] (by simp [Act.eval]) (end_in0 _) ?_
  rintro e w1 ⟨rfl, rfl⟩
  refine ⟨_, rfl, ?_⟩
  refine HK.out (fun w' => w'.cell? ⟨d, 1, none⟩ = some (.pointer (some ⟨b1, 0, none⟩))) _ _ (fun _ h => h) (hcd) ?_
  clear HK K
  simp only [Act.put, List.setIfInBounds_toArray, List.set_cons_zero, List.set_cons_succ]
  refine walkO_take (o := _) (v := ?_) (by rw [HOPS.out]; simp only [List.getElem?_toArray, List.getElem?_cons_succ, List.getElem?_cons_zero]; exact rfl) (Or.inl ⟨rfl, ?_⟩) ?_
  rotate_left
  · (intro w hSw; (try dsimp only at hSw); go_simp) <;> (with_reducible rfl)
  simp only [Act.put, List.setIfInBounds_toArray, List.set_cons_zero, List.set_cons_succ]
  refine walkO_take (o := _) (v := ?_) (by rw [HOPS.out]; simp only [List.getElem?_toArray, List.getElem?_cons_succ, List.getElem?_cons_zero]; exact rfl) (Or.inl ⟨rfl, ?_⟩) ?_
  rotate_left
  · (intro w hSw; (try dsimp only at hSw); go_simp) <;> (with_reducible rfl)
  simp only [Act.put, List.setIfInBounds_toArray, List.set_cons_zero, List.set_cons_succ]
  refine walkO_call (o := _) (by rw [HOPS.out]; simp only [List.getElem?_toArray, List.getElem?_cons_succ, List.getElem?_cons_zero]; exact rfl) (fun K HK => ?_)
  refine step_call rfl 35 #[(.tmp 21), (.tmp 22)] #[23, 3] rfl HES.out #[.pointer (some ⟨b1, 0, none⟩), .int .i64 n] (by simp [Act.eval]) (HC.out _ fd) ?_
  rintro e w2 ⟨u, rfl, ou, ⟨S, hS, f2⟩, F', hF', h'⟩
  have hkc : w2.cell? ⟨d, 1, none⟩ = some (.pointer (some ⟨b1, 0, none⟩)) := cell_of (f2.keep hbb.out (fun hm => by rcases hS d hm with h | h; exact hnn h; exact absurd (show w.heap.size ≤ d from h) (by omega)))
  have HP := Lib.hid (show SFP w.drew F1 b1 _ w2 from ⟨⟨S, hS, f2⟩, F', hF', h'⟩)
  have HO := Lib.hid ou
  clear hS f2 hF' h' ou
  have hcd2 : w2.cell? ⟨d, 1, none⟩ = some (.pointer (some ⟨b1, 0, none⟩)) := hkc
  refine ⟨_, rfl, ?_⟩
  refine HK.out (fun w' => w'.cell? ⟨d, 1, none⟩ = some (.pointer (some ⟨b1, 0, none⟩))) _ _ (fun _ h => h) (hcd2) ?_
  clear HK K
  simp only [Act.put, List.setIfInBounds_toArray, List.set_cons_zero, List.set_cons_succ]
  refine walkO_take (o := _) (v := ?_) (by rw [HOPS.out]; simp only [List.getElem?_toArray, List.getElem?_cons_succ, List.getElem?_cons_zero]; exact rfl) (Or.inl ⟨rfl, ?_⟩) ?_
  rotate_left
  · (intro w hSw; (try dsimp only at hSw); go_simp) <;> (with_reducible rfl)
  simp only [Act.put, List.setIfInBounds_toArray, List.set_cons_zero, List.set_cons_succ]
  refine walkO_take (o := _) (v := ?_) (by rw [HOPS.out]; simp only [List.getElem?_toArray, List.getElem?_cons_succ, List.getElem?_cons_zero]; exact rfl) (Or.inl ⟨rfl, ?_⟩) ?_
  rotate_left
  · (intro w hSw; (try dsimp only at hSw); go_simp) <;> (with_reducible rfl)
  simp only [Act.put, List.setIfInBounds_toArray, List.set_cons_zero, List.set_cons_succ]
  refine walkO_take (o := _) (v := ?_) (by rw [HOPS.out]; simp only [List.getElem?_toArray, List.getElem?_cons_succ, List.getElem?_cons_zero]; exact rfl) (Or.inl ⟨rfl, ?_⟩) ?_
  rotate_left
  · (intro w hSw; (try dsimp only at hSw); go_simp) <;> (with_reducible rfl)
  simp only [Act.put, List.setIfInBounds_toArray, List.set_cons_zero, List.set_cons_succ]
  refine walkO_take (o := _) (v := ?_) (by rw [HOPS.out]; simp only [List.getElem?_toArray, List.getElem?_cons_succ, List.getElem?_cons_zero]; exact rfl) (Or.inl ⟨rfl, ?_⟩) ?_
  rotate_left
  · (intro w hSw; (try dsimp only at hSw); go_simp) <;> (with_reducible rfl)
  simp only [Act.put, List.setIfInBounds_toArray, List.set_cons_zero, List.set_cons_succ]
  refine walkO_done ?_
  clear HOPS OPS
  go_wp2_with fail
  go_ret2
  exact ⟨_, rfl, HO.out, HH.out.sfp1 (HP.out.ahead fd)⟩
set_option maxHeartbeats 2000000 in
theorem dx_begin1 (h : DR w F d b0 b1 F0 F1 s) {N2 : Nat → Prop} {v : Value} {Q : Parts} (hr : Rp w N2 v Q) (h2 : ∀ x, F x → ¬ N2 x) :
    Calls Try.prog 51 #[.pointer (some ⟨d, 0, none⟩), .int .i64 1, v] w fun e w' => e = .returned (.int .i64 (beginM s.m1 Q.flatten).err) ∧ DxQ w F (fun x => N2 x ∧ x < w.heap.size) d { s with m1 := (beginM s.m1 Q.flatten).m } w' := by
  obtain ⟨ra, rc, rfl, _⟩ := id hr
  obtain ⟨w0, hw0, f0, q0⟩ : ∃ W, w.alloc (.cells #[.slice ra Q.length rc, .int .i64 (tot Q)] 57) = W ∧ Fr [] w W ∧ W.heap[w.heap.size]? = some (.cells #[.slice ra Q.length rc, .int .i64 (tot Q)] 57 (0, 0)) := ⟨_, rfl, (Fr.refl _ _).alloc _, newA rfl⟩
  have hb0 : DB w0 d b0 b1 s.x0 s.x1 := f0.keep h.b (by simp)
  have HCK := Lib.hid (dx_check_ok hb0 (k := 1) (by omega))
  have HH := Lib.hid h
  have HC := Lib.hid fun w' (f : Fr [] w w') => sf_begin (h.h1.keep0 f) (hr.keep f (by simp)) (fun x hx => h2 x (h.i1 x hx))
  have hlt := h.lt
  have hi := h.i1
  have hnn := h.n1
  have hbb := Lib.hid hb0
  have HQ0 := Lib.hid q0
  have HF0 := Lib.hid f0
  have hzz := f0.size
  clear h q0 f0 hb0 hr
  have HEI := Lib.hid (Go.Proofs.enters_of Try.func67 (by kernel_rfl) rfl)
  have HES := Lib.hid (Go.Proofs.enters_of Try.func29 (by kernel_rfl) rfl)
  go_enter Try.func51, Try.ntmps51
  go_wp2_with fail
  refine HCK.out.mono ?_
  rintro e w' ⟨rfl, rfl⟩
  go_wp2_with fail
  have fd : Fr [] w0 w0.drew := (Fr.refl _ _).drew
  have hcd : w0.drew.cell? ⟨d, 1, none⟩ = some (.pointer (some ⟨b1, 0, none⟩)) ∧ w0.drew.cell? ⟨w.heap.size, 0, none⟩ = some (.slice ra Q.length rc) ∧ w0.drew.cell? ⟨w.heap.size, 1, none⟩ = some (.int .i64 (tot Q)) := ⟨cell_of (fd.keep hbb.out (by simp)), cell_of (fd.keep HQ0.out (by simp)), cell_of (fd.keep HQ0.out (by simp))⟩
  refine wp_region_order [(0, true), (1, true), (3, true), (4, true), (7, true), (2, false), (5, true), (6, true), (8, false), (9, true)] (fun w' => w'.cell? ⟨d, 1, none⟩ = some (.pointer (some ⟨b1, 0, none⟩)) ∧ w'.cell? ⟨w.heap.size, 0, none⟩ = some (.slice ra Q.length rc) ∧ w'.cell? ⟨w.heap.size, 1, none⟩ = some (.int .i64 (tot Q))) (by kernel_rfl) (by kernel_rfl) hcd ?_
  intro OPS HOPS
  have hops := HOPS.out
  try simp only [List.append_eq, List.cons_append, List.nil_append] at hops
  replace HOPS := Lib.hid hops
  clear hops
  refine walkO_take (o := _) (v := ?_) (by rw [HOPS.out]; simp only [List.getElem?_toArray, List.getElem?_cons_succ, List.getElem?_cons_zero]; exact rfl) (Or.inl ⟨rfl, ?_⟩) ?_
  rotate_left
  · (intro w hSw; (try dsimp only at hSw); go_simp) <;> (with_reducible rfl)
  simp only [Act.put, List.setIfInBounds_toArray, List.set_cons_zero, List.set_cons_succ]
  refine walkO_take (o := _) (v := ?_) (by rw [HOPS.out]; simp only [List.getElem?_toArray, List.getElem?_cons_succ, List.getElem?_cons_zero]; exact rfl) (Or.inl ⟨rfl, ?_⟩) ?_
  rotate_left
  · (intro w hSw; (try dsimp only at hSw); go_simp) <;> (with_reducible rfl)
  simp only [Act.put, List.setIfInBounds_toArray, List.set_cons_zero, List.set_cons_succ]
  refine walkO_take (o := _) (v := ?_) (by rw [HOPS.out]; simp only [List.getElem?_toArray, List.getElem?_cons_succ, List.getElem?_cons_zero]; exact rfl) (Or.inl ⟨rfl, ?_⟩) ?_
  rotate_left
  · (intro w hSw; (try dsimp only at hSw); go_simp) <;> (with_reducible rfl)
  simp only [Act.put, List.setIfInBounds_toArray, List.set_cons_zero, List.set_cons_succ]
  refine walkO_take (o := _) (v := ?_) (by rw [HOPS.out]; simp only [List.getElem?_toArray, List.getElem?_cons_succ, List.getElem?_cons_zero]; exact rfl) (Or.inl ⟨rfl, ?_⟩) ?_
  rotate_left
  · (intro w hSw; (try dsimp only at hSw); go_simp) <;> (with_reducible rfl)
  simp only [Act.put, List.setIfInBounds_toArray, List.set_cons_zero, List.set_cons_succ]
  refine walkO_take (o := _) (v := ?_) (by rw [HOPS.out]; simp only [List.getElem?_toArray, List.getElem?_cons_succ, List.getElem?_cons_zero]; exact rfl) (Or.inl ⟨rfl, ?_⟩) ?_
  rotate_left
  · (intro w hSw; (try dsimp only at hSw); go_simp) <;> (with_reducible rfl)
  simp only [Act.put, List.setIfInBounds_toArray, List.set_cons_zero, List.set_cons_succ]
  refine walkO_call (o := _) (by rw [HOPS.out]; simp only [List.getElem?_toArray, List.getElem?_cons_succ, List.getElem?_cons_zero]; exact rfl) (fun K HK => ?_)
  refine step_call rfl 67 #[(.tmp 15)] #[114] rfl HEI.out #[.int .i64 1] (by simp [Act.eval]) (end_out _ _) ?_
  rintro e w1 ⟨rfl, rfl⟩
  refine ⟨_, rfl, ?_⟩
  refine HK.out (fun w' => w'.cell? ⟨d, 1, none⟩ = some (.pointer (some ⟨b1, 0, none⟩)) ∧ w'.cell? ⟨w.heap.size, 0, none⟩ = some (.slice ra Q.length rc) ∧ w'.cell? ⟨w.heap.size, 1, none⟩ = some (.int .i64 (tot Q))) _ _ (fun _ h => h) (hcd) ?_
  clear HK K
  simp only [Act.put, List.setIfInBounds_toArray, List.set_cons_zero, List.set_cons_succ]
  refine walkO_take (o := _) (v := ?_) (by rw [HOPS.out]; simp only [List.getElem?_toArray, List.getElem?_cons_succ, List.getElem?_cons_zero]; exact rfl) (Or.inl ⟨rfl, ?_⟩) ?_
  rotate_left
  · (intro w hSw; (try dsimp only at hSw); go_simp) <;> (with_reducible rfl)
  simp only [Act.put, List.setIfInBounds_toArray, List.set_cons_zero, List.set_cons_succ]
  refine walkO_take (o := _) (v := ?_) (by rw [HOPS.out]; simp only [List.getElem?_toArray, List.getElem?_cons_succ, List.getElem?_cons_zero]; exact rfl) (Or.inl ⟨rfl, ?_⟩) ?_
  rotate_left
  · (intro w hSw; (try dsimp only at hSw); go_simp) <;> (with_reducible rfl)
  simp only [Act.put, List.setIfInBounds_toArray, List.set_cons_zero, List.set_cons_succ]
  refine walkO_call (o := _) (by rw [HOPS.out]; simp only [List.getElem?_toArray, List.getElem?_cons_succ, List.getElem?_cons_zero]; exact rfl) (fun K HK => ?_)
  refine step_call rfl 29 #[(.tmp 20), (.tmp 21)] #[23, 57] rfl HES.out #[.pointer (some ⟨b1, 0, none⟩), .agg #[.slice ra Q.length rc, .int .i64 (tot Q)]] (by simp [Act.eval]) (HC.out _ (HF0.out.then0 fd)) ?_
  rintro e w2 ⟨rfl, ⟨S, hS, f2⟩, F', hF', h'⟩
  have hkc := f2.keep hbb.out (fun hm => hnn (hS d hm))
  have hq2 := f2.keep HQ0.out (fun hm => by have := hlt _ (hi _ (hS _ hm)); omega)
  have hcd2 : w2.cell? ⟨d, 1, none⟩ = some (.pointer (some ⟨b1, 0, none⟩)) ∧ w2.cell? ⟨w.heap.size, 0, none⟩ = some (.slice ra Q.length rc) ∧ w2.cell? ⟨w.heap.size, 1, none⟩ = some (.int .i64 (tot Q)) := ⟨cell_of hkc, cell_of hq2, cell_of hq2⟩
  have HP := Lib.hid (And.intro hS (And.intro f2 (And.intro hF' h')))
  clear hS f2 hF' h'
  refine ⟨_, rfl, ?_⟩
  refine HK.out (fun w' => w'.cell? ⟨d, 1, none⟩ = some (.pointer (some ⟨b1, 0, none⟩)) ∧ w'.cell? ⟨w.heap.size, 0, none⟩ = some (.slice ra Q.length rc) ∧ w'.cell? ⟨w.heap.size, 1, none⟩ = some (.int .i64 (tot Q))) _ _ (fun _ h => h) (hcd2) ?_
  clear HK K
  simp only [Act.put, List.setIfInBounds_toArray, List.set_cons_zero, List.set_cons_succ]
  refine walkO_take (o := _) (v := ?_) (by rw [HOPS.out]; simp only [List.getElem?_toArray, List.getElem?_cons_succ, List.getElem?_cons_zero]; exact rfl) (Or.inl ⟨rfl, ?_⟩) ?_
  rotate_left
  · (intro w hSw; (try dsimp only at hSw); go_simp) <;> (with_reducible rfl)
  simp only [Act.put, List.setIfInBounds_toArray, List.set_cons_zero, List.set_cons_succ]
  refine walkO_done ?_
  clear HOPS OPS
  go_wp2_with fail
  go_ret
  obtain ⟨hS, f2, hF', h'⟩ := HP.out
  have hz9 : w.heap.size ≤ w0.drew.heap.size := hzz
  exact ⟨rfl, HH.out.lift1 (fun x hx => .inl (hS x hx)) ((HF0.out.then0 fd).trans f2 (by simp) (fun x hx => .inl hx)) (fun x hx => by rcases hF' x hx with h | h | h; exact .inl h; exact (Nat.lt_or_ge x w.heap.size).elim (fun hl => .inr (.inl ⟨h.1, hl⟩)) (fun hl => .inr (.inr hl)); exact .inr (.inr (Nat.le_trans hz9 h))) (fun x hx hF => h2 x hF hx.1) h'⟩
set_option maxHeartbeats 2000000 in
theorem dx_progress1 (h : DR w F d b0 b1 F0 F1 s) :
    Calls Try.prog 52 #[.pointer (some ⟨d, 0, none⟩), .int .i64 1] w fun e w' => e = .returned (.tuple #[.int .i64 s.m1.acc, .bool (atEndM s.m1)]) ∧ Fr [] w w' := by
  have HCK := Lib.hid (dx_check_ok h.b (k := 1) (by omega))
  have HH := Lib.hid h
  have HC := Lib.hid fun w' (f : Fr [] w w') => sf_progress (h.h1.keep0 f)
  have hc0 : w.cell? ⟨d, 1, none⟩ = some (.pointer (some ⟨b1, 0, none⟩)) := cell_of h.b
  have hlt := h.lt
  have hi := h.i1
  have hnn := h.n1
  have hbb := Lib.hid h.b
  have hdl := h.lt _ h.id_
  clear h
  have HEI := Lib.hid (Go.Proofs.enters_of Try.func67 (by kernel_rfl) rfl)
  have HES := Lib.hid (Go.Proofs.enters_of Try.func31 (by kernel_rfl) rfl)
  go_enter Try.func52, Try.ntmps52
  go_wp2_with fail
  refine HCK.out.mono ?_
  rintro e w' ⟨rfl, rfl⟩
  go_wp2_with fail
  have fd : Fr [] w w.drew := (Fr.refl _ _).drew
  have hcd : w.drew.cell? ⟨d, 1, none⟩ = some (.pointer (some ⟨b1, 0, none⟩)) := hc0
  refine wp_region_order [(0, true), (1, true), (3, true), (4, true), (2, false), (5, true), (6, true), (7, false), (8, true), (9, true), (10, true), (11, true)] (fun w' => w'.cell? ⟨d, 1, none⟩ = some (.pointer (some ⟨b1, 0, none⟩))) (by kernel_rfl) (by kernel_rfl) hcd ?_
  intro OPS HOPS
  have hops := HOPS.out
  try simp only [List.append_eq, List.cons_append, List.nil_append] at hops
  replace HOPS := Lib.hid hops
  clear hops
  refine walkO_take (o := _) (v := ?_) (by rw [HOPS.out]; simp only [List.getElem?_toArray, List.getElem?_cons_succ, List.getElem?_cons_zero]; exact rfl) (Or.inl ⟨rfl, ?_⟩) ?_
  rotate_left
  · (intro w hSw; (try dsimp only at hSw); go_simp) <;> (with_reducible rfl)
  simp only [Act.put, List.setIfInBounds_toArray, List.set_cons_zero, List.set_cons_succ]
  refine walkO_take (o := _) (v := ?_) (by rw [HOPS.out]; simp only [List.getElem?_toArray, List.getElem?_cons_succ, List.getElem?_cons_zero]; exact rfl) (Or.inl ⟨rfl, ?_⟩) ?_
  rotate_left
  · (intro w hSw; (try dsimp only at hSw); go_simp) <;> (with_reducible rfl)
  simp only [Act.put, List.setIfInBounds_toArray, List.set_cons_zero, List.set_cons_succ]
  refine walkO_take (o := _) (v := ?_) (by rw [HOPS.out]; simp only [List.getElem?_toArray, List.getElem?_cons_succ, List.getElem?_cons_zero]; exact rfl) (Or.inl ⟨rfl, ?_⟩) ?_
  rotate_left
  · (intro w hSw; (try dsimp only at hSw); go_simp) <;> (with_reducible rfl)
  simp only [Act.put, List.setIfInBounds_toArray, List.set_cons_zero, List.set_cons_succ]
  refine walkO_take (o := _) (v := ?_) (by rw [HOPS.out]; simp only [List.getElem?_toArray, List.getElem?_cons_succ, List.getElem?_cons_zero]; exact rfl) (Or.inl ⟨rfl, ?_⟩) ?_
  rotate_left
  · (intro w hSw; (try dsimp only at hSw); go_simp) <;> (with_reducible rfl)
  simp only [Act.put, List.setIfInBounds_toArray, List.set_cons_zero, List.set_cons_succ]
  refine walkO_call (o := _) (by rw [HOPS.out]; simp only [List.getElem?_toArray, List.getElem?_cons_succ, List.getElem?_cons_zero]; exact rfl) (fun K HK => ?_)
  refine step_call rfl 67 #[(.tmp 11)] #[114] rfl HEI.out #[.int .i64 1] (by simp [Act.eval]) (end_out _ _) ?_
  rintro e w1 ⟨rfl, rfl⟩
  refine ⟨_, rfl, ?_⟩
  refine HK.out (fun w' => w'.cell? ⟨d, 1, none⟩ = some (.pointer (some ⟨b1, 0, none⟩))) _ _ (fun _ h => h) (hcd) ?_
  clear HK K
  simp only [Act.put, List.setIfInBounds_toArray, List.set_cons_zero, List.set_cons_succ]
  refine walkO_take (o := _) (v := ?_) (by rw [HOPS.out]; simp only [List.getElem?_toArray, List.getElem?_cons_succ, List.getElem?_cons_zero]; exact rfl) (Or.inl ⟨rfl, ?_⟩) ?_
  rotate_left
  · (intro w hSw; (try dsimp only at hSw); go_simp) <;> (with_reducible rfl)
  simp only [Act.put, List.setIfInBounds_toArray, List.set_cons_zero, List.set_cons_succ]
  refine walkO_take (o := _) (v := ?_) (by rw [HOPS.out]; simp only [List.getElem?_toArray, List.getElem?_cons_succ, List.getElem?_cons_zero]; exact rfl) (Or.inl ⟨rfl, ?_⟩) ?_
  rotate_left
  · (intro w hSw; (try dsimp only at hSw); go_simp) <;> (with_reducible rfl)
  simp only [Act.put, List.setIfInBounds_toArray, List.set_cons_zero, List.set_cons_succ]
  refine walkO_call (o := _) (by rw [HOPS.out]; simp only [List.getElem?_toArray, List.getElem?_cons_succ, List.getElem?_cons_zero]; exact rfl) (fun K HK => ?_)
  refine step_call rfl 31 #[(.tmp 16)] #[23] rfl HES.out #[.pointer (some ⟨b1, 0, none⟩)] (by simp [Act.eval]) (HC.out _ fd) ?_
  rintro e w2 ⟨rfl, f2⟩
  have hkc : w2.cell? ⟨d, 1, none⟩ = some (.pointer (some ⟨b1, 0, none⟩)) := cell_of (f2.keep hbb.out (by simp))
  have HP := Lib.hid f2
  clear f2
  have hcd2 : w2.cell? ⟨d, 1, none⟩ = some (.pointer (some ⟨b1, 0, none⟩)) := hkc
  refine ⟨_, rfl, ?_⟩
  refine HK.out (fun w' => w'.cell? ⟨d, 1, none⟩ = some (.pointer (some ⟨b1, 0, none⟩))) _ _ (fun _ h => h) (hcd2) ?_
  clear HK K
  simp only [Act.put, List.setIfInBounds_toArray, List.set_cons_zero, List.set_cons_succ]
  refine walkO_take (o := _) (v := ?_) (by rw [HOPS.out]; simp only [List.getElem?_toArray, List.getElem?_cons_succ, List.getElem?_cons_zero]; exact rfl) (Or.inl ⟨rfl, ?_⟩) ?_
  rotate_left
  · (intro w hSw; (try dsimp only at hSw); go_simp) <;> (with_reducible rfl)
  simp only [Act.put, List.setIfInBounds_toArray, List.set_cons_zero, List.set_cons_succ]
  refine walkO_take (o := _) (v := ?_) (by rw [HOPS.out]; simp only [List.getElem?_toArray, List.getElem?_cons_succ, List.getElem?_cons_zero]; exact rfl) (Or.inl ⟨rfl, ?_⟩) ?_
  rotate_left
  · (intro w hSw; (try dsimp only at hSw); go_simp) <;> (with_reducible rfl)
  simp only [Act.put, List.setIfInBounds_toArray, List.set_cons_zero, List.set_cons_succ]
  refine walkO_take (o := _) (v := ?_) (by rw [HOPS.out]; simp only [List.getElem?_toArray, List.getElem?_cons_succ, List.getElem?_cons_zero]; exact rfl) (Or.inl ⟨rfl, ?_⟩) ?_
  rotate_left
  · (intro w hSw; (try dsimp only at hSw); go_simp) <;> (with_reducible rfl)
  simp only [Act.put, List.setIfInBounds_toArray, List.set_cons_zero, List.set_cons_succ]
  refine walkO_take (o := _) (v := ?_) (by rw [HOPS.out]; simp only [List.getElem?_toArray, List.getElem?_cons_succ, List.getElem?_cons_zero]; exact rfl) (Or.inl ⟨rfl, ?_⟩) ?_
  rotate_left
  · (intro w hSw; (try dsimp only at hSw); go_simp) <;> (with_reducible rfl)
  simp only [Act.put, List.setIfInBounds_toArray, List.set_cons_zero, List.set_cons_succ]
  refine walkO_done ?_
  clear HOPS OPS
  go_wp2_with fail
  go_ret2
  exact ⟨rfl, fd.then0 HP.out⟩
set_option maxHeartbeats 2000000 in
theorem dx_finish1 (h : DR w F d b0 b1 F0 F1 s) :
    Calls Try.prog 13 #[.pointer (some ⟨d, 0, none⟩), .int .i64 1] w fun e w' => e = .returned (.tuple #[.int .i64 (endM s.m1).n, .int .i64 (endM s.m1).err]) ∧ DxQ w F NoG d { s with m1 := (endM s.m1).m } w' := by
  have HCK := Lib.hid (dx_check_ok h.b (k := 1) (by omega))
  have HH := Lib.hid h
  have HC := Lib.hid fun w' (f : Fr [] w w') => sf_end (h.h1.keep0 f)
  have hc0 : w.cell? ⟨d, 1, none⟩ = some (.pointer (some ⟨b1, 0, none⟩)) := cell_of h.b
  have hlt := h.lt
  have hi := h.i1
  have hnn := h.n1
  have hbb := Lib.hid h.b
  have hdl := h.lt _ h.id_
  clear h
  have HEI := Lib.hid (Go.Proofs.enters_of Try.func67 (by kernel_rfl) rfl)
  have HES := Lib.hid (Go.Proofs.enters_of Try.func33 (by kernel_rfl) rfl)
  go_enter Try.func13, Try.ntmps13
  go_wp2_with fail
  refine HCK.out.mono ?_
  rintro e w' ⟨rfl, rfl⟩
  go_wp2_with fail
  have fd : Fr [] w w.drew := (Fr.refl _ _).drew
  have hcd : w.drew.cell? ⟨d, 1, none⟩ = some (.pointer (some ⟨b1, 0, none⟩)) := hc0
  refine wp_region_order [(0, true), (1, true), (3, true), (4, true), (2, false), (5, true), (6, true), (7, false), (8, true), (9, true), (10, true), (11, true)] (fun w' => w'.cell? ⟨d, 1, none⟩ = some (.pointer (some ⟨b1, 0, none⟩))) (by kernel_rfl) (by kernel_rfl) hcd ?_
  intro OPS HOPS
  have hops := HOPS.out
  try simp only [List.append_eq, List.cons_append, List.nil_append] at hops
  replace HOPS := Lib.hid hops
  clear hops
  refine walkO_take (o := _) (v := ?_) (by rw [HOPS.out]; simp only [List.getElem?_toArray, List.getElem?_cons_succ, List.getElem?_cons_zero]; exact rfl) (Or.inl ⟨rfl, ?_⟩) ?_
  rotate_left
  · (intro w hSw; (try dsimp only at hSw); go_simp) <;> (with_reducible rfl)
  simp only [Act.put, List.setIfInBounds_toArray, List.set_cons_zero, List.set_cons_succ]
  refine walkO_take (o := _) (v := ?_) (by rw [HOPS.out]; simp only [List.getElem?_toArray, List.getElem?_cons_succ, List.getElem?_cons_zero]; exact rfl) (Or.inl ⟨rfl, ?_⟩) ?_
  rotate_left
  · (intro w hSw; (try dsimp only at hSw); go_simp) <;> (with_reducible rfl)
  simp only [Act.put, List.setIfInBounds_toArray, List.set_cons_zero, List.set_cons_succ]
  refine walkO_take (o := _) (v := ?_) (by rw [HOPS.out]; simp only [List.getElem?_toArray, List.getElem?_cons_succ, List.getElem?_cons_zero]; exact rfl) (Or.inl ⟨rfl, ?_⟩) ?_
  rotate_left
  · (intro w hSw; (try dsimp only at hSw); go_simp) <;> (with_reducible rfl)
  simp only [Act.put, List.setIfInBounds_toArray, List.set_cons_zero, List.set_cons_succ]
  refine walkO_take (o := _) (v := ?_) (by rw [HOPS.out]; simp only [List.getElem?_toArray, List.getElem?_cons_succ, List.getElem?_cons_zero]; exact rfl) (Or.inl ⟨rfl, ?_⟩) ?_
  rotate_left
  · (intro w hSw; (try dsimp only at hSw); go_simp) <;> (with_reducible rfl)
  simp only [Act.put, List.setIfInBounds_toArray, List.set_cons_zero, List.set_cons_succ]
  refine walkO_call (o := _) (by rw [HOPS.out]; simp only [List.getElem?_toArray, List.getElem?_cons_succ, List.getElem?_cons_zero]; exact rfl) (fun K HK => ?_)
  refine step_call rfl 67 #[(.tmp 14)] #[114] rfl HEI.out #[.int .i64 1] (by simp [Act.eval]) (end_out _ _) ?_
  rintro e w1 ⟨rfl, rfl⟩
  refine ⟨_, rfl, ?_⟩
  refine HK.out (fun w' => w'.cell? ⟨d, 1, none⟩ = some (.pointer (some ⟨b1, 0, none⟩))) _ _ (fun _ h => h) (hcd) ?_
  clear HK K
  simp only [Act.put, List.setIfInBounds_toArray, List.set_cons_zero, List.set_cons_succ]
  refine walkO_take (o := _) (v := ?_) (by rw [HOPS.out]; simp only [List.getElem?_toArray, List.getElem?_cons_succ, List.getElem?_cons_zero]; exact rfl) (Or.inl ⟨rfl, ?_⟩) ?_
  rotate_left
  · (intro w hSw; (try dsimp only at hSw); go_simp) <;> (with_reducible rfl)
  simp only [Act.put, List.setIfInBounds_toArray, List.set_cons_zero, List.set_cons_succ]
  refine walkO_take (o := _) (v := ?_) (by rw [HOPS.out]; simp only [List.getElem?_toArray, List.getElem?_cons_succ, List.getElem?_cons_zero]; exact rfl) (Or.inl ⟨rfl, ?_⟩) ?_
  rotate_left
  · (intro w hSw; (try dsimp only at hSw); go_simp) <;> (with_reducible rfl)
  simp only [Act.put, List.setIfInBounds_toArray, List.set_cons_zero, List.set_cons_succ]
  refine walkO_call (o := _) (by rw [HOPS.out]; simp only [List.getElem?_toArray, List.getElem?_cons_succ, List.getElem?_cons_zero]; exact rfl) (fun K HK => ?_)
  refine step_call rfl 33 #[(.tmp 19)] #[23] rfl HES.out #[.pointer (some ⟨b1, 0, none⟩)] (by simp [Act.eval]) (HC.out _ fd) ?_
  rintro e w2 ⟨rfl, ⟨S, hS, f2⟩, F', hF', h'⟩
  have hkc : w2.cell? ⟨d, 1, none⟩ = some (.pointer (some ⟨b1, 0, none⟩)) := cell_of (f2.keep hbb.out (fun hm => by rcases hS d hm with h | h; exact hnn h; exact absurd (show w.heap.size ≤ d from h) (by omega)))
  have HP := Lib.hid (show SFP w.drew F1 b1 _ w2 from ⟨⟨S, hS, f2⟩, F', hF', h'⟩)
  clear hS f2 hF' h'
  have hcd2 : w2.cell? ⟨d, 1, none⟩ = some (.pointer (some ⟨b1, 0, none⟩)) := hkc
  refine ⟨_, rfl, ?_⟩
  refine HK.out (fun w' => w'.cell? ⟨d, 1, none⟩ = some (.pointer (some ⟨b1, 0, none⟩))) _ _ (fun _ h => h) (hcd2) ?_
  clear HK K
  simp only [Act.put, List.setIfInBounds_toArray, List.set_cons_zero, List.set_cons_succ]
  refine walkO_take (o := _) (v := ?_) (by rw [HOPS.out]; simp only [List.getElem?_toArray, List.getElem?_cons_succ, List.getElem?_cons_zero]; exact rfl) (Or.inl ⟨rfl, ?_⟩) ?_
  rotate_left
  · (intro w hSw; (try dsimp only at hSw); go_simp) <;> (with_reducible rfl)
  simp only [Act.put, List.setIfInBounds_toArray, List.set_cons_zero, List.set_cons_succ]
  refine walkO_take (o := _) (v := ?_) (by rw [HOPS.out]; simp only [List.getElem?_toArray, List.getElem?_cons_succ, List.getElem?_cons_zero]; exact rfl) (Or.inl ⟨rfl, ?_⟩) ?_
  rotate_left
  · (intro w hSw; (try dsimp only at hSw); go_simp) <;> (with_reducible rfl)
  simp only [Act.put, List.setIfInBounds_toArray, List.set_cons_zero, List.set_cons_succ]
  refine walkO_take (o := _) (v := ?_) (by rw [HOPS.out]; simp only [List.getElem?_toArray, List.getElem?_cons_succ, List.getElem?_cons_zero]; exact rfl) (Or.inl ⟨rfl, ?_⟩) ?_
  rotate_left
  · (intro w hSw; (try dsimp only at hSw); go_simp) <;> (with_reducible rfl)
  simp only [Act.put, List.setIfInBounds_toArray, List.set_cons_zero, List.set_cons_succ]
  refine walkO_take (o := _) (v := ?_) (by rw [HOPS.out]; simp only [List.getElem?_toArray, List.getElem?_cons_succ, List.getElem?_cons_zero]; exact rfl) (Or.inl ⟨rfl, ?_⟩) ?_
  rotate_left
  · (intro w hSw; (try dsimp only at hSw); go_simp) <;> (with_reducible rfl)
  simp only [Act.put, List.setIfInBounds_toArray, List.set_cons_zero, List.set_cons_succ]
  refine walkO_done ?_
  clear HOPS OPS
  go_wp2_with fail
  go_ret2
  exact ⟨rfl, HH.out.sfp1 (HP.out.ahead fd)⟩
set_option maxHeartbeats 2000000 in
theorem dx_cancel1 (h : DR w F d b0 b1 F0 F1 s) :
    Calls Try.prog 14 #[.pointer (some ⟨d, 0, none⟩), .int .i64 1] w fun e w' => e = .returned (.tuple #[.int .i64 (cancelM s.m1).n, .int .i64 (cancelM s.m1).err]) ∧ DxQ w F NoG d { s with m1 := (cancelM s.m1).m } w' := by
  have HCK := Lib.hid (dx_check_ok h.b (k := 1) (by omega))
  have HH := Lib.hid h
  have HC := Lib.hid fun w' (f : Fr [] w w') => sf_cancel (h.h1.keep0 f)
  have hc0 : w.cell? ⟨d, 1, none⟩ = some (.pointer (some ⟨b1, 0, none⟩)) := cell_of h.b
  have hlt := h.lt
  have hi := h.i1
  have hnn := h.n1
  have hbb := Lib.hid h.b
  have hdl := h.lt _ h.id_
  clear h
  have HEI := Lib.hid (Go.Proofs.enters_of Try.func67 (by kernel_rfl) rfl)
  have HES := Lib.hid (Go.Proofs.enters_of Try.func34 (by kernel_rfl) rfl)
  go_enter Try.func14, Try.ntmps14
  go_wp2_with fail
  refine HCK.out.mono ?_
  rintro e w' ⟨rfl, rfl⟩
  go_wp2_with fail
  have fd : Fr [] w w.drew := (Fr.refl _ _).drew
  have hcd : w.drew.cell? ⟨d, 1, none⟩ = some (.pointer (some ⟨b1, 0, none⟩)) := hc0
  refine wp_region_order [(0, true), (1, true), (3, true), (4, true), (2, false), (5, true), (6, true), (7, false), (8, true), (9, true), (10, true), (11, true)] (fun w' => w'.cell? ⟨d, 1, none⟩ = some (.pointer (some ⟨b1, 0, none⟩))) (by kernel_rfl) (by kernel_rfl) hcd ?_
  intro OPS HOPS
  have hops := HOPS.out
  try simp only [List.append_eq, List.cons_append, List.nil_append] at hops
  replace HOPS := Lib.hid hops
  clear hops
  refine walkO_take (o := _) (v := ?_) (by rw [HOPS.out]; simp only [List.getElem?_toArray, List.getElem?_cons_succ, List.getElem?_cons_zero]; exact rfl) (Or.inl ⟨rfl, ?_⟩) ?_
  rotate_left
  · (intro w hSw; (try dsimp only at hSw); go_simp) <;> (with_reducible rfl)
  simp only [Act.put, List.setIfInBounds_toArray, List.set_cons_zero, List.set_cons_succ]
  refine walkO_take (o := _) (v := ?_) (by rw [HOPS.out]; simp only [List.getElem?_toArray, List.getElem?_cons_succ, List.getElem?_cons_zero]; exact rfl) (Or.inl ⟨rfl, ?_⟩) ?_
  rotate_left
  · (intro w hSw; (try dsimp only at hSw); go_simp) <;> (with_reducible rfl)
  simp only [Act.put, List.setIfInBounds_toArray, List.set_cons_zero, List.set_cons_succ]
  refine walkO_take (o := _) (v := ?_) (by rw [HOPS.out]; simp only [List.getElem?_toArray, List.getElem?_cons_succ, List.getElem?_cons_zero]; exact rfl) (Or.inl ⟨rfl, ?_⟩) ?_
  rotate_left
  · (intro w hSw; (try dsimp only at hSw); go_simp) <;> (with_reducible rfl)
  simp only [Act.put, List.setIfInBounds_toArray, List.set_cons_zero, List.set_cons_succ]
  refine walkO_take (o := _) (v := ?_) (by rw [HOPS.out]; simp only [List.getElem?_toArray, List.getElem?_cons_succ, List.getElem?_cons_zero]; exact rfl) (Or.inl ⟨rfl, ?_⟩) ?_
  rotate_left
  · (intro w hSw; (try dsimp only at hSw); go_simp) <;> (with_reducible rfl)
  simp only [Act.put, List.setIfInBounds_toArray, List.set_cons_zero, List.set_cons_succ]
  refine walkO_call (o := _) (by rw [HOPS.out]; simp only [List.getElem?_toArray, List.getElem?_cons_succ, List.getElem?_cons_zero]; exact rfl) (fun K HK => ?_)
  refine step_call rfl 67 #[(.tmp 14)] #[114] rfl HEI.out #[.int .i64 1] (by simp [Act.eval]) (end_out _ _) ?_
  rintro e w1 ⟨rfl, rfl⟩
  refine ⟨_, rfl, ?_⟩
  refine HK.out (fun w' => w'.cell? ⟨d, 1, none⟩ = some (.pointer (some ⟨b1, 0, none⟩))) _ _ (fun _ h => h) (hcd) ?_
  clear HK K
  simp only [Act.put, List.setIfInBounds_toArray, List.set_cons_zero, List.set_cons_succ]
  refine walkO_take (o := _) (v := ?_) (by rw [HOPS.out]; simp only [List.getElem?_toArray, List.getElem?_cons_succ, List.getElem?_cons_zero]; exact rfl) (Or.inl ⟨rfl, ?_⟩) ?_
  rotate_left
  · (intro w hSw; (try dsimp only at hSw); go_simp) <;> (with_reducible rfl)
  simp only [Act.put, List.setIfInBounds_toArray, List.set_cons_zero, List.set_cons_succ]
  refine walkO_take (o := _) (v := ?_) (by rw [HOPS.out]; simp only [List.getElem?_toArray, List.getElem?_cons_succ, List.getElem?_cons_zero]; exact rfl) (Or.inl ⟨rfl, ?_⟩) ?_
  rotate_left
  · (intro w hSw; (try dsimp only at hSw); go_simp) <;> (with_reducible rfl)
  simp only [Act.put, List.setIfInBounds_toArray, List.set_cons_zero, List.set_cons_succ]
  refine walkO_call (o := _) (by rw [HOPS.out]; simp only [List.getElem?_toArray, List.getElem?_cons_succ, List.getElem?_cons_zero]; exact rfl) (fun K HK => ?_)
  refine step_call rfl 34 #[(.tmp 19)] #[23] rfl HES.out #[.pointer (some ⟨b1, 0, none⟩)] (by simp [Act.eval]) (HC.out _ fd) ?_
  rintro e w2 ⟨rfl, ⟨S, hS, f2⟩, F', hF', h'⟩
  have hkc : w2.cell? ⟨d, 1, none⟩ = some (.pointer (some ⟨b1, 0, none⟩)) := cell_of (f2.keep hbb.out (fun hm => by rcases hS d hm with h | h; exact hnn h; exact absurd (show w.heap.size ≤ d from h) (by omega)))
  have HP := Lib.hid (show SFP w.drew F1 b1 _ w2 from ⟨⟨S, hS, f2⟩, F', hF', h'⟩)
  clear hS f2 hF' h'
  have hcd2 : w2.cell? ⟨d, 1, none⟩ = some (.pointer (some ⟨b1, 0, none⟩)) := hkc
  refine ⟨_, rfl, ?_⟩
  refine HK.out (fun w' => w'.cell? ⟨d, 1, none⟩ = some (.pointer (some ⟨b1, 0, none⟩))) _ _ (fun _ h => h) (hcd2) ?_
  clear HK K
  simp only [Act.put, List.setIfInBounds_toArray, List.set_cons_zero, List.set_cons_succ]
  refine walkO_take (o := _) (v := ?_) (by rw [HOPS.out]; simp only [List.getElem?_toArray, List.getElem?_cons_succ, List.getElem?_cons_zero]; exact rfl) (Or.inl ⟨rfl, ?_⟩) ?_
  rotate_left
  · (intro w hSw; (try dsimp only at hSw); go_simp) <;> (with_reducible rfl)
  simp only [Act.put, List.setIfInBounds_toArray, List.set_cons_zero, List.set_cons_succ]
  refine walkO_take (o := _) (v := ?_) (by rw [HOPS.out]; simp only [List.getElem?_toArray, List.getElem?_cons_succ, List.getElem?_cons_zero]; exact rfl) (Or.inl ⟨rfl, ?_⟩) ?_
  rotate_left
  · (intro w hSw; (try dsimp only at hSw); go_simp) <;> (with_reducible rfl)
  simp only [Act.put, List.setIfInBounds_toArray, List.set_cons_zero, List.set_cons_succ]
  refine walkO_take (o := _) (v := ?_) (by rw [HOPS.out]; simp only [List.getElem?_toArray, List.getElem?_cons_succ, List.getElem?_cons_zero]; exact rfl) (Or.inl ⟨rfl, ?_⟩) ?_
  rotate_left
  · (intro w hSw; (try dsimp only at hSw); go_simp) <;> (with_reducible rfl)
  simp only [Act.put, List.setIfInBounds_toArray, List.set_cons_zero, List.set_cons_succ]
  refine walkO_take (o := _) (v := ?_) (by rw [HOPS.out]; simp only [List.getElem?_toArray, List.getElem?_cons_succ, List.getElem?_cons_zero]; exact rfl) (Or.inl ⟨rfl, ?_⟩) ?_
  rotate_left
  · (intro w hSw; (try dsimp only at hSw); go_simp) <;> (with_reducible rfl)
  simp only [Act.put, List.setIfInBounds_toArray, List.set_cons_zero, List.set_cons_succ]
  refine walkO_done ?_
  clear HOPS OPS
  go_wp2_with fail
  go_ret2
  exact ⟨rfl, HH.out.sfp1 (HP.out.ahead fd)⟩
set_option maxHeartbeats 2000000 in
theorem dx_closewrite1 (h : DR w F d b0 b1 F0 F1 s) :
    Calls Try.prog 19 #[.pointer (some ⟨d, 0, none⟩), .int .i64 1] w fun e w' => e = .returned (.int .i64 (closewM s.m1 13).err) ∧ DxQ w F NoG d { s with m1 := (closewM s.m1 13).m } w' := by
  have HCK := Lib.hid (dx_check_ok h.b (k := 1) (by omega))
  have HH := Lib.hid h
  have HC := Lib.hid fun w' (f : Fr [] w w') => sf_closew (h.h1.keep0 f) 13
  have hc0 : w.cell? ⟨d, 1, none⟩ = some (.pointer (some ⟨b1, 0, none⟩)) := cell_of h.b
  have hlt := h.lt
  have hi := h.i1
  have hnn := h.n1
  have hbb := Lib.hid h.b
  have hdl := h.lt _ h.id_
  clear h
  have HEI := Lib.hid (Go.Proofs.enters_of Try.func67 (by kernel_rfl) rfl)
  have HES := Lib.hid (Go.Proofs.enters_of Try.func36 (by kernel_rfl) rfl)
  go_enter Try.func19, Try.ntmps19
  go_wp2_with fail
  refine HCK.out.mono ?_
  rintro e w' ⟨rfl, rfl⟩
  go_wp2_with fail
  have fd : Fr [] w w.drew := (Fr.refl _ _).drew
  have hcd : w.drew.cell? ⟨d, 1, none⟩ = some (.pointer (some ⟨b1, 0, none⟩)) := hc0
  refine wp_region_order [(0, true), (1, true), (3, true), (4, true), (2, false), (5, true), (6, true), (7, false), (8, true)] (fun w' => w'.cell? ⟨d, 1, none⟩ = some (.pointer (some ⟨b1, 0, none⟩))) (by kernel_rfl) (by kernel_rfl) hcd ?_
  intro OPS HOPS
  have hops := HOPS.out
  try simp only [List.append_eq, List.cons_append, List.nil_append] at hops
  replace HOPS := Lib.hid hops
  clear hops
  refine walkO_take (o := _) (v := ?_) (by rw [HOPS.out]; simp only [List.getElem?_toArray, List.getElem?_cons_succ, List.getElem?_cons_zero]; exact rfl) (Or.inl ⟨rfl, ?_⟩) ?_
  rotate_left
  · (intro w hSw; (try dsimp only at hSw); go_simp) <;> (with_reducible rfl)
  simp only [Act.put, List.setIfInBounds_toArray, List.set_cons_zero, List.set_cons_succ]
  refine walkO_take (o := _) (v := ?_) (by rw [HOPS.out]; simp only [List.getElem?_toArray, List.getElem?_cons_succ, List.getElem?_cons_zero]; exact rfl) (Or.inl ⟨rfl, ?_⟩) ?_
  rotate_left
  · (intro w hSw; (try dsimp only at hSw); go_simp) <;> (with_reducible rfl)
  simp only [Act.put, List.setIfInBounds_toArray, List.set_cons_zero, List.set_cons_succ]
  refine walkO_take (o := _) (v := ?_) (by rw [HOPS.out]; simp only [List.getElem?_toArray, List.getElem?_cons_succ, List.getElem?_cons_zero]; exact rfl) (Or.inl ⟨rfl, ?_⟩) ?_
  rotate_left
  · (intro w hSw; (try dsimp only at hSw); go_simp) <;> (with_reducible rfl)
  simp only [Act.put, List.setIfInBounds_toArray, List.set_cons_zero, List.set_cons_succ]
  refine walkO_take (o := _) (v := ?_) (by rw [HOPS.out]; simp only [List.getElem?_toArray, List.getElem?_cons_succ, List.getElem?_cons_zero]; exact rfl) (Or.inl ⟨rfl, ?_⟩) ?_
  rotate_left
  · (intro w hSw; (try dsimp only at hSw); go_simp) <;> (with_reducible rfl)
  simp only [Act.put, List.setIfInBounds_toArray, List.set_cons_zero, List.set_cons_succ]
  refine walkO_call (o := _) (by rw [HOPS.out]; simp only [List.getElem?_toArray, List.getElem?_cons_succ, List.getElem?_cons_zero]; exact rfl) (fun K HK => ?_)
  refine step_call rfl 67 #[(.tmp 13)] #[114] rfl HEI.out #[.int .i64 1] (by simp [Act.eval]) (end_out _ _) ?_
  rintro e w1 ⟨rfl, rfl⟩
  refine ⟨_, rfl, ?_⟩
  refine HK.out (fun w' => w'.cell? ⟨d, 1, none⟩ = some (.pointer (some ⟨b1, 0, none⟩))) _ _ (fun _ h => h) (hcd) ?_
  clear HK K
  simp only [Act.put, List.setIfInBounds_toArray, List.set_cons_zero, List.set_cons_succ]
  refine walkO_take (o := _) (v := ?_) (by rw [HOPS.out]; simp only [List.getElem?_toArray, List.getElem?_cons_succ, List.getElem?_cons_zero]; exact rfl) (Or.inl ⟨rfl, ?_⟩) ?_
  rotate_left
  · (intro w hSw; (try dsimp only at hSw); go_simp) <;> (with_reducible rfl)
  simp only [Act.put, List.setIfInBounds_toArray, List.set_cons_zero, List.set_cons_succ]
  refine walkO_take (o := _) (v := ?_) (by rw [HOPS.out]; simp only [List.getElem?_toArray, List.getElem?_cons_succ, List.getElem?_cons_zero]; exact rfl) (Or.inl ⟨rfl, ?_⟩) ?_
  rotate_left
  · (intro w hSw; (try dsimp only at hSw); go_simp) <;> (with_reducible rfl)
  simp only [Act.put, List.setIfInBounds_toArray, List.set_cons_zero, List.set_cons_succ]
  refine walkO_call (o := _) (by rw [HOPS.out]; simp only [List.getElem?_toArray, List.getElem?_cons_succ, List.getElem?_cons_zero]; exact rfl) (fun K HK => ?_)
  refine step_call rfl 36 #[(.tmp 18), (Operand.const (Value.int IntKind.i64 13))] #[23, 30] rfl HES.out #[.pointer (some ⟨b1, 0, none⟩), .int .i64 13] (by simp [Act.eval]) (HC.out _ fd) ?_
  rintro e w2 ⟨rfl, ⟨S, hS, f2⟩, F', hF', h'⟩
  have hkc : w2.cell? ⟨d, 1, none⟩ = some (.pointer (some ⟨b1, 0, none⟩)) := cell_of (f2.keep hbb.out (fun hm => by rcases hS d hm with h | h; exact hnn h; exact absurd (show w.heap.size ≤ d from h) (by omega)))
  have HP := Lib.hid (show SFP w.drew F1 b1 _ w2 from ⟨⟨S, hS, f2⟩, F', hF', h'⟩)
  clear hS f2 hF' h'
  have hcd2 : w2.cell? ⟨d, 1, none⟩ = some (.pointer (some ⟨b1, 0, none⟩)) := hkc
  refine ⟨_, rfl, ?_⟩
  refine HK.out (fun w' => w'.cell? ⟨d, 1, none⟩ = some (.pointer (some ⟨b1, 0, none⟩))) _ _ (fun _ h => h) (hcd2) ?_
  clear HK K
  simp only [Act.put, List.setIfInBounds_toArray, List.set_cons_zero, List.set_cons_succ]
  refine walkO_take (o := _) (v := ?_) (by rw [HOPS.out]; simp only [List.getElem?_toArray, List.getElem?_cons_succ, List.getElem?_cons_zero]; exact rfl) (Or.inl ⟨rfl, ?_⟩) ?_
  rotate_left
  · (intro w hSw; (try dsimp only at hSw); go_simp) <;> (with_reducible rfl)
  simp only [Act.put, List.setIfInBounds_toArray, List.set_cons_zero, List.set_cons_succ]
  refine walkO_done ?_
  clear HOPS OPS
  go_wp2_with fail
  go_ret
  exact ⟨rfl, HH.out.sfp1 (HP.out.ahead fd)⟩
set_option maxHeartbeats 2000000 in
theorem dx_closeread1 (h : DR w F d b0 b1 F0 F1 s) :
    Calls Try.prog 18 #[.pointer (some ⟨d, 0, none⟩), .int .i64 1] w fun e w' => e = .returned (.int .i64 (closerM s.m0 14).err) ∧ DxQ w F NoG d { s with m0 := (closerM s.m0 14).m } w' := by
  have HCK := Lib.hid (dx_check_ok h.b (k := 1) (by omega))
  have HH := Lib.hid h
  have HC := Lib.hid fun w' (f : Fr [] w w') => sf_closer (h.h0.keep0 f) 14
  have hc0 : w.cell? ⟨d, 0, none⟩ = some (.pointer (some ⟨b0, 0, none⟩)) := cell_of h.b
  have hlt := h.lt
  have hi := h.i0
  have hnn := h.n0
  have hbb := Lib.hid h.b
  have hdl := h.lt _ h.id_
  clear h
  have HEI := Lib.hid (Go.Proofs.enters_of Try.func66 (by kernel_rfl) rfl)
  have HES := Lib.hid (Go.Proofs.enters_of Try.func40 (by kernel_rfl) rfl)
  go_enter Try.func18, Try.ntmps18
  go_wp2_with fail
  refine HCK.out.mono ?_
  rintro e w' ⟨rfl, rfl⟩
  go_wp2_with fail
  have fd : Fr [] w w.drew := (Fr.refl _ _).drew
  have hcd : w.drew.cell? ⟨d, 0, none⟩ = some (.pointer (some ⟨b0, 0, none⟩)) := hc0
  refine wp_region_order [(0, true), (1, true), (3, true), (4, true), (2, false), (5, true), (6, true), (7, false), (8, true)] (fun w' => w'.cell? ⟨d, 0, none⟩ = some (.pointer (some ⟨b0, 0, none⟩))) (by kernel_rfl) (by kernel_rfl) hcd ?_
  intro OPS HOPS
  have hops := HOPS.out
  try simp only [List.append_eq, List.cons_append, List.nil_append] at hops
  replace HOPS := Lib.hid hops
  clear hops
  refine walkO_take (o := _) (v := ?_) (by rw [HOPS.out]; simp only [List.getElem?_toArray, List.getElem?_cons_succ, List.getElem?_cons_zero]; exact rfl) (Or.inl ⟨rfl, ?_⟩) ?_
  rotate_left
  · (intro w hSw; (try dsimp only at hSw); go_simp) <;> (with_reducible rfl)
  simp only [Act.put, List.setIfInBounds_toArray, List.set_cons_zero, List.set_cons_succ]
  refine walkO_take (o := _) (v := ?_) (by rw [HOPS.out]; simp only [List.getElem?_toArray, List.getElem?_cons_succ, List.getElem?_cons_zero]; exact rfl) (Or.inl ⟨rfl, ?_⟩) ?_
  rotate_left
  · (intro w hSw; (try dsimp only at hSw); go_simp) <;> (with_reducible rfl)
  simp only [Act.put, List.setIfInBounds_toArray, List.set_cons_zero, List.set_cons_succ]
  refine walkO_take (o := _) (v := ?_) (by rw [HOPS.out]; simp only [List.getElem?_toArray, List.getElem?_cons_succ, List.getElem?_cons_zero]; exact rfl) (Or.inl ⟨rfl, ?_⟩) ?_
  rotate_left
  · (intro w hSw; (try dsimp only at hSw); go_simp) <;> (with_reducible rfl)
  simp only [Act.put, List.setIfInBounds_toArray, List.set_cons_zero, List.set_cons_succ]
  refine walkO_take (o := _) (v := ?_) (by rw [HOPS.out]; simp only [List.getElem?_toArray, List.getElem?_cons_succ, List.getElem?_cons_zero]; exact rfl) (Or.inl ⟨rfl, ?_⟩) ?_
  rotate_left
  · (intro w hSw; (try dsimp only at hSw); go_simp) <;> (with_reducible rfl)
  simp only [Act.put, List.setIfInBounds_toArray, List.set_cons_zero, List.set_cons_succ]
  refine walkO_call (o := _) (by rw [HOPS.out]; simp only [List.getElem?_toArray, List.getElem?_cons_succ, List.getElem?_cons_zero]; exact rfl) (fun K HK => ?_)
  refine step_call rfl 66 #[(.tmp 13)] #[114] rfl HEI.out #[.int .i64 1] (by simp [Act.eval]) (end_in1 _) ?_
  rintro e w1 ⟨rfl, rfl⟩
  refine ⟨_, rfl, ?_⟩
  refine HK.out (fun w' => w'.cell? ⟨d, 0, none⟩ = some (.pointer (some ⟨b0, 0, none⟩))) _ _ (fun _ h => h) (hcd) ?_
  clear HK K
  simp only [Act.put, List.setIfInBounds_toArray, List.set_cons_zero, List.set_cons_succ]
  refine walkO_take (o := _) (v := ?_) (by rw [HOPS.out]; simp only [List.getElem?_toArray, List.getElem?_cons_succ, List.getElem?_cons_zero]; exact rfl) (Or.inl ⟨rfl, ?_⟩) ?_
  rotate_left
  · (intro w hSw; (try dsimp only at hSw); go_simp) <;> (with_reducible rfl)
  simp only [Act.put, List.setIfInBounds_toArray, List.set_cons_zero, List.set_cons_succ]
  refine walkO_take (o := _) (v := ?_) (by rw [HOPS.out]; simp only [List.getElem?_toArray, List.getElem?_cons_succ, List.getElem?_cons_zero]; exact rfl) (Or.inl ⟨rfl, ?_⟩) ?_
  rotate_left
  · (intro w hSw; (try dsimp only at hSw); go_simp) <;> (with_reducible rfl)
  simp only [Act.put, List.setIfInBounds_toArray, List.set_cons_zero, List.set_cons_succ]
  refine walkO_call (o := _) (by rw [HOPS.out]; simp only [List.getElem?_toArray, List.getElem?_cons_succ, List.getElem?_cons_zero]; exact rfl) (fun K HK => ?_)
  refine step_call rfl 40 #[(.tmp 18), (Operand.const (Value.int IntKind.i64 14))] #[23, 30] rfl HES.out #[.pointer (some ⟨b0, 0, none⟩), .int .i64 14] (by simp [Act.eval]) (HC.out _ fd) ?_
  rintro e w2 ⟨rfl, ⟨S, hS, f2⟩, F', hF', h'⟩
  have hkc : w2.cell? ⟨d, 0, none⟩ = some (.pointer (some ⟨b0, 0, none⟩)) := cell_of (f2.keep hbb.out (fun hm => by rcases hS d hm with h | h; exact hnn h; exact absurd (show w.heap.size ≤ d from h) (by omega)))
  have HP := Lib.hid (show SFP w.drew F0 b0 _ w2 from ⟨⟨S, hS, f2⟩, F', hF', h'⟩)
  clear hS f2 hF' h'
  have hcd2 : w2.cell? ⟨d, 0, none⟩ = some (.pointer (some ⟨b0, 0, none⟩)) := hkc
  refine ⟨_, rfl, ?_⟩
  refine HK.out (fun w' => w'.cell? ⟨d, 0, none⟩ = some (.pointer (some ⟨b0, 0, none⟩))) _ _ (fun _ h => h) (hcd2) ?_
  clear HK K
  simp only [Act.put, List.setIfInBounds_toArray, List.set_cons_zero, List.set_cons_succ]
  refine walkO_take (o := _) (v := ?_) (by rw [HOPS.out]; simp only [List.getElem?_toArray, List.getElem?_cons_succ, List.getElem?_cons_zero]; exact rfl) (Or.inl ⟨rfl, ?_⟩) ?_
  rotate_left
  · (intro w hSw; (try dsimp only at hSw); go_simp) <;> (with_reducible rfl)
  simp only [Act.put, List.setIfInBounds_toArray, List.set_cons_zero, List.set_cons_succ]
  refine walkO_done ?_
  clear HOPS OPS
  go_wp2_with fail
  go_ret
  exact ⟨rfl, HH.out.sfp0 (HP.out.ahead fd)⟩
set_option maxHeartbeats 2000000 in
theorem dx_read1 (h : DR w F d b0 b1 F0 F1 s) (n : Int) :
    Calls Try.prog 12 #[.pointer (some ⟨d, 0, none⟩), .int .i64 1, .int .i64 n] w fun e w' => ∃ u, e = .returned (.tuple #[u, .int .i64 (readM s.m0 n).err]) ∧ Ow w' w.heap.size 5 u ((bi (readM s.m0 n).out).map (Value.int .u8)) ∧ DxQ w F NoG d { s with m0 := (readM s.m0 n).m } w' := by
  have HCK := Lib.hid (dx_check_ok h.b (k := 1) (by omega))
  have HH := Lib.hid h
  have HC := Lib.hid fun w' (f : Fr [] w w') => sf_readP (h.h0.keep0 f) n
  have hc0 : w.cell? ⟨d, 0, none⟩ = some (.pointer (some ⟨b0, 0, none⟩)) := cell_of h.b
  have hlt := h.lt
  have hi := h.i0
  have hnn := h.n0
  have hbb := Lib.hid h.b
  have hdl := h.lt _ h.id_
  clear h
  have HEI := Lib.hid (Go.Proofs.enters_of Try.func66 (by kernel_rfl) rfl)
  have HES := Lib.hid (Go.Proofs.enters_of Try.func35 (by kernel_rfl) rfl)
  go_enter Try.func12, Try.ntmps12
  go_wp2_with fail
  refine HCK.out.mono ?_
  rintro e w' ⟨rfl, rfl⟩
  go_wp2_with fail
  have fd : Fr [] w w.drew := (Fr.refl _ _).drew
  have hcd : w.drew.cell? ⟨d, 0, none⟩ = some (.pointer (some ⟨b0, 0, none⟩)) := hc0
  refine wp_region_order [(0, true), (1, true), (3, true), (4, true), (7, true), (2, false), (5, true), (6, true), (8, false), (9, true), (10, true), (11, true), (12, true)] (fun w' => w'.cell? ⟨d, 0, none⟩ = some (.pointer (some ⟨b0, 0, none⟩))) (by kernel_rfl) (by kernel_rfl) hcd ?_
  intro OPS HOPS
  have hops := HOPS.out
  try simp only [List.append_eq, List.cons_append, List.nil_append] at hops
  replace HOPS := Lib.hid hops
  clear hops
  refine walkO_take (o := _) (v := ?_) (by rw [HOPS.out]; simp only [List.getElem?_toArray, List.getElem?_cons_succ, List.getElem?_cons_zero]; exact rfl) (Or.inl ⟨rfl, ?_⟩) ?_
  rotate_left
  · (intro w hSw; (try dsimp only at hSw); go_simp) <;> (with_reducible rfl)
  simp only [Act.put, List.setIfInBounds_toArray, List.set_cons_zero, List.set_cons_succ]
  refine walkO_take (o := _) (v := ?_) (by rw [HOPS.out]; simp only [List.getElem?_toArray, List.getElem?_cons_succ, List.getElem?_cons_zero]; exact rfl) (Or.inl ⟨rfl, ?_⟩) ?_
  rotate_left
  · (intro w hSw; (try dsimp only at hSw); go_simp) <;> (with_reducible rfl)
  simp only [Act.put, List.setIfInBounds_toArray, List.set_cons_zero, List.set_cons_succ]
  refine walkO_take (o := _) (v := ?_) (by rw [HOPS.out]; simp only [List.getElem?_toArray, List.getElem?_cons_succ, List.getElem?_cons_zero]; exact rfl) (Or.inl ⟨rfl, ?_⟩) ?_
  rotate_left
  · (intro w hSw; (try dsimp only at hSw); go_simp) <;> (with_reducible rfl)
  simp only [Act.put, List.setIfInBounds_toArray, List.set_cons_zero, List.set_cons_succ]
  refine walkO_take (o := _) (v := ?_) (by rw [HOPS.out]; simp only [List.getElem?_toArray, List.getElem?_cons_succ, List.getElem?_cons_zero]; exact rfl) (Or.inl ⟨rfl, ?_⟩) ?_
  rotate_left
  · (intro w hSw; (try dsimp only at hSw); go_simp) <;> (with_reducible rfl)
  simp only [Act.put, List.setIfInBounds_toArray, List.set_cons_zero, List.set_cons_succ]
  refine walkO_take (o := _) (v := ?_) (by rw [HOPS.out]; simp only [List.getElem?_toArray, List.getElem?_cons_succ, List.getElem?_cons_zero]; exact rfl) (Or.inl ⟨rfl, ?_⟩) ?_
  rotate_left
  · (intro w hSw; (try dsimp only at hSw); go_simp) <;> (with_reducible rfl)
  simp only [Act.put, List.setIfInBounds_toArray, List.set_cons_zero, List.set_cons_succ]
  refine walkO_call (o := _) (by rw [HOPS.out]; simp only [List.getElem?_toArray, List.getElem?_cons_succ, List.getElem?_cons_zero]; exact rfl) (fun K HK => ?_)
  refine step_call rfl 66 #[(.tmp 16)] #[114] rfl HEI.out #[.int .i64 1] (by simp [Act.eval]) (end_in1 _) ?_
  rintro e w1 ⟨rfl, rfl⟩
  refine ⟨_, rfl, ?_⟩
  refine HK.out (fun w' => w'.cell? ⟨d, 0, none⟩ = some (.pointer (some ⟨b0, 0, none⟩))) _ _ (fun _ h => h) (hcd) ?_
  clear HK K
  simp only [Act.put, List.setIfInBounds_toArray, List.set_cons_zero, List.set_cons_succ]
  refine walkO_take (o := _) (v := ?_) (by rw [HOPS.out]; simp only [List.getElem?_toArray, List.getElem?_cons_succ, List.getElem?_cons_zero]; exact rfl) (Or.inl ⟨rfl, ?_⟩) ?_
  rotate_left
  · (intro w hSw; (try dsimp only at hSw); go_simp) <;> (with_reducible rfl)
  simp only [Act.put, List.setIfInBounds_toArray, List.set_cons_zero, List.set_cons_succ]
  refine walkO_take (o := _) (v := ?_) (by rw [HOPS.out]; simp only [List.getElem?_toArray, List.getElem?_cons_succ, List.getElem?_cons_zero]; exact rfl) (Or.inl ⟨rfl, ?_⟩) ?_
  rotate_left
  · (intro w hSw; (try dsimp only at hSw); go_simp) <;> (with_reducible rfl)
  simp only [Act.put, List.setIfInBounds_toArray, List.set_cons_zero, List.set_cons_succ]
  refine walkO_call (o := _) (by rw [HOPS.out]; simp only [List.getElem?_toArray, List.getElem?_cons_succ, List.getElem?_cons_zero]; exact rfl) (fun K HK => ?_)
  refine step_call rfl 35 #[(.tmp 21), (.tmp 22)] #[23, 3] rfl HES.out #[.pointer (some ⟨b0, 0, none⟩), .int .i64 n] (by simp [Act.eval]) (HC.out _ fd) ?_
  rintro e w2 ⟨u, rfl, ou, ⟨S, hS, f2⟩, F', hF', h'⟩
  have hkc : w2.cell? ⟨d, 0, none⟩ = some (.pointer (some ⟨b0, 0, none⟩)) := cell_of (f2.keep hbb.out (fun hm => by rcases hS d hm with h | h; exact hnn h; exact absurd (show w.heap.size ≤ d from h) (by omega)))
  have HP := Lib.hid (show SFP w.drew F0 b0 _ w2 from ⟨⟨S, hS, f2⟩, F', hF', h'⟩)
  have HO := Lib.hid ou
  clear hS f2 hF' h' ou
  have hcd2 : w2.cell? ⟨d, 0, none⟩ = some (.pointer (some ⟨b0, 0, none⟩)) := hkc
  refine ⟨_, rfl, ?_⟩
  refine HK.out (fun w' => w'.cell? ⟨d, 0, none⟩ = some (.pointer (some ⟨b0, 0, none⟩))) _ _ (fun _ h => h) (hcd2) ?_
  clear HK K
  simp only [Act.put, List.setIfInBounds_toArray, List.set_cons_zero, List.set_cons_succ]
  refine walkO_take (o := _) (v := ?_) (by rw [HOPS.out]; simp only [List.getElem?_toArray, List.getElem?_cons_succ, List.getElem?_cons_zero]; exact rfl) (Or.inl ⟨rfl, ?_⟩) ?_
  rotate_left
  · (intro w hSw; (try dsimp only at hSw); go_simp) <;> (with_reducible rfl)
  simp only [Act.put, List.setIfInBounds_toArray, List.set_cons_zero, List.set_cons_succ]
  refine walkO_take (o := _) (v := ?_) (by rw [HOPS.out]; simp only [List.getElem?_toArray, List.getElem?_cons_succ, List.getElem?_cons_zero]; exact rfl) (Or.inl ⟨rfl, ?_⟩) ?_
  rotate_left
  · (intro w hSw; (try dsimp only at hSw); go_simp) <;> (with_reducible rfl)
  simp only [Act.put, List.setIfInBounds_toArray, List.set_cons_zero, List.set_cons_succ]
  refine walkO_take (o := _) (v := ?_) (by rw [HOPS.out]; simp only [List.getElem?_toArray, List.getElem?_cons_succ, List.getElem?_cons_zero]; exact rfl) (Or.inl ⟨rfl, ?_⟩) ?_
  rotate_left
  · (intro w hSw; (try dsimp only at hSw); go_simp) <;> (with_reducible rfl)
  simp only [Act.put, List.setIfInBounds_toArray, List.set_cons_zero, List.set_cons_succ]
  refine walkO_take (o := _) (v := ?_) (by rw [HOPS.out]; simp only [List.getElem?_toArray, List.getElem?_cons_succ, List.getElem?_cons_zero]; exact rfl) (Or.inl ⟨rfl, ?_⟩) ?_
  rotate_left
  · (intro w hSw; (try dsimp only at hSw); go_simp) <;> (with_reducible rfl)
  simp only [Act.put, List.setIfInBounds_toArray, List.set_cons_zero, List.set_cons_succ]
  refine walkO_done ?_
  clear HOPS OPS
  go_wp2_with fail
  go_ret2
  exact ⟨_, rfl, HO.out, HH.out.sfp0 (HP.out.ahead fd)⟩

end
theorem dx_begin_no {w : World} {d b0 b1 : Nat} {x0 x1 : Bool} (h : DB w d b0 b1 x0 x1) (k : Int) (hk : ¬ (k = 0 ∨ k = 1)) (ra : Option Addr) (n rc : Nat) (t : Int) : Calls Try.prog 51 #[.pointer (some ⟨d, 0, none⟩), .int .i64 k, .agg #[.slice ra n rc, .int .i64 t]] w fun e w' => e = .returned (.int .i64 2) ∧ Fr [] w w' := by
  obtain ⟨w0, hw0, f0⟩ : ∃ W, w.alloc (.cells #[.slice ra n rc, .int .i64 t] 57) = W ∧ Fr [] w W := ⟨_, rfl, (Fr.refl _ _).alloc _⟩
  have HCK := Lib.hid (dx_check_no (show DB w0 d b0 b1 x0 x1 from f0.keep h (by simp)) hk)
  have HF := Lib.hid f0
  clear h f0 hk
  go_enter Try.func51, Try.ntmps51
  go_wp2_with fail
  refine HCK.out.mono ?_
  rintro e w' ⟨rfl, rfl⟩
  go_wp2_with fail
  go_ret
  exact ⟨rfl, HF.out⟩
theorem zdx_begin {w : World} {r : Option Addr} (h : Zdx w r) (k : Int) (ra : Option Addr) (n rc : Nat) (t : Int) : Calls Try.prog 51 #[.pointer r, .int .i64 k, .agg #[.slice ra n rc, .int .i64 t]] w fun e w' => e = .returned (.int .i64 1) ∧ Fr [] w w' := by
  obtain ⟨w0, hw0, f0⟩ : ∃ W, w.alloc (.cells #[.slice ra n rc, .int .i64 t] 57) = W ∧ Fr [] w W := ⟨_, rfl, (Fr.refl _ _).alloc _⟩
  have HCK := Lib.hid (zdx_check (h.keep f0) k)
  have HF := Lib.hid f0
  clear h f0
  go_enter Try.func51, Try.ntmps51
  go_wp2_with fail
  refine HCK.out.mono ?_
  rintro e w' ⟨rfl, rfl⟩
  go_wp2_with fail
  go_ret
  exact ⟨rfl, HF.out⟩
theorem dx_finish_no {w : World} {d b0 b1 : Nat} {x0 x1 : Bool} (h : DB w d b0 b1 x0 x1) (k : Int) (hk : ¬ (k = 0 ∨ k = 1)) : Calls Try.prog 13 #[.pointer (some ⟨d, 0, none⟩), .int .i64 k] w fun e w' => e = .returned (.tuple #[.int .i64 0, .int .i64 2]) ∧ w = w' := by
  have HCK := Lib.hid (dx_check_no h hk)
  clear h hk
  go_enter Try.func13, Try.ntmps13
  go_wp2_with fail
  refine HCK.out.mono ?_
  rintro e w' ⟨rfl, rfl⟩
  go_wp2_with fail
  go_ret2
  exact ⟨rfl, rfl⟩
theorem zdx_finish {w : World} {r : Option Addr} (h : Zdx w r) (k : Int) : Calls Try.prog 13 #[.pointer r, .int .i64 k] w fun e w' => e = .returned (.tuple #[.int .i64 0, .int .i64 1]) ∧ w = w' := by
  have HCK := Lib.hid (zdx_check h k)
  clear h
  go_enter Try.func13, Try.ntmps13
  go_wp2_with fail
  refine HCK.out.mono ?_
  rintro e w' ⟨rfl, rfl⟩
  go_wp2_with fail
  go_ret2
  exact ⟨rfl, rfl⟩
theorem dx_cancel_no {w : World} {d b0 b1 : Nat} {x0 x1 : Bool} (h : DB w d b0 b1 x0 x1) (k : Int) (hk : ¬ (k = 0 ∨ k = 1)) : Calls Try.prog 14 #[.pointer (some ⟨d, 0, none⟩), .int .i64 k] w fun e w' => e = .returned (.tuple #[.int .i64 0, .int .i64 2]) ∧ w = w' := by
  have HCK := Lib.hid (dx_check_no h hk)
  clear h hk
  go_enter Try.func14, Try.ntmps14
  go_wp2_with fail
  refine HCK.out.mono ?_
  rintro e w' ⟨rfl, rfl⟩
  go_wp2_with fail
  go_ret2
  exact ⟨rfl, rfl⟩
theorem zdx_cancel {w : World} {r : Option Addr} (h : Zdx w r) (k : Int) : Calls Try.prog 14 #[.pointer r, .int .i64 k] w fun e w' => e = .returned (.tuple #[.int .i64 0, .int .i64 1]) ∧ w = w' := by
  have HCK := Lib.hid (zdx_check h k)
  clear h
  go_enter Try.func14, Try.ntmps14
  go_wp2_with fail
  refine HCK.out.mono ?_
  rintro e w' ⟨rfl, rfl⟩
  go_wp2_with fail
  go_ret2
  exact ⟨rfl, rfl⟩
theorem dx_read_no {w : World} {d b0 b1 : Nat} {x0 x1 : Bool} (h : DB w d b0 b1 x0 x1) (k : Int) (hk : ¬ (k = 0 ∨ k = 1)) (n : Int) : Calls Try.prog 12 #[.pointer (some ⟨d, 0, none⟩), .int .i64 k, .int .i64 n] w fun e w' => e = .returned (.tuple #[.slice none 0 0, .int .i64 2]) ∧ w = w' := by
  have HCK := Lib.hid (dx_check_no h hk)
  clear h hk
  go_enter Try.func12, Try.ntmps12
  go_wp2_with fail
  refine HCK.out.mono ?_
  rintro e w' ⟨rfl, rfl⟩
  go_wp2_with fail
  go_ret2
  exact ⟨rfl, rfl⟩
theorem zdx_read {w : World} {r : Option Addr} (h : Zdx w r) (k : Int) (n : Int) : Calls Try.prog 12 #[.pointer r, .int .i64 k, .int .i64 n] w fun e w' => e = .returned (.tuple #[.slice none 0 0, .int .i64 1]) ∧ w = w' := by
  have HCK := Lib.hid (zdx_check h k)
  clear h
  go_enter Try.func12, Try.ntmps12
  go_wp2_with fail
  refine HCK.out.mono ?_
  rintro e w' ⟨rfl, rfl⟩
  go_wp2_with fail
  go_ret2
  exact ⟨rfl, rfl⟩
theorem dx_closeread_no {w : World} {d b0 b1 : Nat} {x0 x1 : Bool} (h : DB w d b0 b1 x0 x1) (k : Int) (hk : ¬ (k = 0 ∨ k = 1)) : Calls Try.prog 18 #[.pointer (some ⟨d, 0, none⟩), .int .i64 k] w fun e w' => e = .returned (.int .i64 2) ∧ w = w' := by
  have HCK := Lib.hid (dx_check_no h hk)
  clear h hk
  go_enter Try.func18, Try.ntmps18
  go_wp2_with fail
  refine HCK.out.mono ?_
  rintro e w' ⟨rfl, rfl⟩
  go_wp2_with fail
  go_ret
  exact ⟨rfl, rfl⟩
theorem zdx_closeread {w : World} {r : Option Addr} (h : Zdx w r) (k : Int) : Calls Try.prog 18 #[.pointer r, .int .i64 k] w fun e w' => e = .returned (.int .i64 1) ∧ w = w' := by
  have HCK := Lib.hid (zdx_check h k)
  clear h
  go_enter Try.func18, Try.ntmps18
  go_wp2_with fail
  refine HCK.out.mono ?_
  rintro e w' ⟨rfl, rfl⟩
  go_wp2_with fail
  go_ret
  exact ⟨rfl, rfl⟩
theorem dx_closewrite_no {w : World} {d b0 b1 : Nat} {x0 x1 : Bool} (h : DB w d b0 b1 x0 x1) (k : Int) (hk : ¬ (k = 0 ∨ k = 1)) : Calls Try.prog 19 #[.pointer (some ⟨d, 0, none⟩), .int .i64 k] w fun e w' => e = .returned (.int .i64 2) ∧ w = w' := by
  have HCK := Lib.hid (dx_check_no h hk)
  clear h hk
  go_enter Try.func19, Try.ntmps19
  go_wp2_with fail
  refine HCK.out.mono ?_
  rintro e w' ⟨rfl, rfl⟩
  go_wp2_with fail
  go_ret
  exact ⟨rfl, rfl⟩
theorem zdx_closewrite {w : World} {r : Option Addr} (h : Zdx w r) (k : Int) : Calls Try.prog 19 #[.pointer r, .int .i64 k] w fun e w' => e = .returned (.int .i64 1) ∧ w = w' := by
  have HCK := Lib.hid (zdx_check h k)
  clear h
  go_enter Try.func19, Try.ntmps19
  go_wp2_with fail
  refine HCK.out.mono ?_
  rintro e w' ⟨rfl, rfl⟩
  go_wp2_with fail
  go_ret
  exact ⟨rfl, rfl⟩
theorem dx_close_no {w : World} {d b0 b1 : Nat} {x0 x1 : Bool} (h : DB w d b0 b1 x0 x1) (k : Int) (hk : ¬ (k = 0 ∨ k = 1)) : Calls Try.prog 17 #[.pointer (some ⟨d, 0, none⟩), .int .i64 k] w fun e w' => e = .returned (.int .i64 2) ∧ w = w' := by
  have HCK := Lib.hid (dx_check_no h hk)
  clear h hk
  go_enter Try.func17, Try.ntmps17
  go_wp2_with fail
  refine HCK.out.mono ?_
  rintro e w' ⟨rfl, rfl⟩
  go_wp2_with fail
  go_ret
  exact ⟨rfl, rfl⟩
theorem zdx_close {w : World} {r : Option Addr} (h : Zdx w r) (k : Int) : Calls Try.prog 17 #[.pointer r, .int .i64 k] w fun e w' => e = .returned (.int .i64 1) ∧ w = w' := by
  have HCK := Lib.hid (zdx_check h k)
  clear h
  go_enter Try.func17, Try.ntmps17
  go_wp2_with fail
  refine HCK.out.mono ?_
  rintro e w' ⟨rfl, rfl⟩
  go_wp2_with fail
  go_ret
  exact ⟨rfl, rfl⟩
theorem dx_progress_no {w : World} {d b0 b1 : Nat} {x0 x1 : Bool} (h : DB w d b0 b1 x0 x1) (k : Int) (hk : ¬ (k = 0 ∨ k = 1)) : Calls Try.prog 52 #[.pointer (some ⟨d, 0, none⟩), .int .i64 k] w fun e w' => e = .returned (.tuple #[.int .i64 0, .bool false]) ∧ w = w' := by
  have HCK := Lib.hid (dx_check_no h hk)
  clear h hk
  go_enter Try.func52, Try.ntmps52
  go_wp2_with fail
  refine HCK.out.mono ?_
  rintro e w' ⟨rfl, rfl⟩
  go_wp2_with fail
  go_ret2
  exact ⟨rfl, rfl⟩
theorem zdx_progress {w : World} {r : Option Addr} (h : Zdx w r) (k : Int) : Calls Try.prog 52 #[.pointer r, .int .i64 k] w fun e w' => e = .returned (.tuple #[.int .i64 0, .bool false]) ∧ w = w' := by
  have HCK := Lib.hid (zdx_check h k)
  clear h
  go_enter Try.func52, Try.ntmps52
  go_wp2_with fail
  refine HCK.out.mono ?_
  rintro e w' ⟨rfl, rfl⟩
  go_wp2_with fail
  go_ret2
  exact ⟨rfl, rfl⟩
theorem dx_closed_no {w : World} {d b0 b1 : Nat} {x0 x1 : Bool} (h : DB w d b0 b1 x0 x1) (k : Int) (hk : ¬ (k = 0 ∨ k = 1)) : Calls Try.prog 20 #[.pointer (some ⟨d, 0, none⟩), .int .i64 k] w fun e w' => e = .returned (.bool false) ∧ w = w' := by
  have HCK := Lib.hid (dx_check_no h hk)
  clear h hk
  go_enter Try.func20, Try.ntmps20
  go_wp2_with fail
  refine HCK.out.mono ?_
  rintro e w' ⟨rfl, rfl⟩
  go_wp2_with fail
  go_ret
  exact ⟨rfl, rfl⟩
theorem zdx_closed {w : World} {r : Option Addr} (h : Zdx w r) (k : Int) : Calls Try.prog 20 #[.pointer r, .int .i64 k] w fun e w' => e = .returned (.bool false) ∧ w = w' := by
  have HCK := Lib.hid (zdx_check h k)
  clear h
  go_enter Try.func20, Try.ntmps20
  go_wp2_with fail
  refine HCK.out.mono ?_
  rintro e w' ⟨rfl, rfl⟩
  go_wp2_with fail
  go_ret
  exact ⟨rfl, rfl⟩

end Go.Proofs.Ytdoamelhclnphaa

namespace Go.Proofs.Ytdoamelhclnphaa
open Go.RowKit
set_option maxRecDepth 100000

set_option maxHeartbeats 2000000 in
theorem both_bad0 (w : World) {c0 c1 : Int} (h0 : c0 < 0 ∨ 4096 < c0) :
    Calls Try.prog 93 #[.agg #[.int .i64 c0, .int .i64 c1], .func (.func 27) #[] #[]] w fun e w' => e = .returned (.tuple #[.agg #[.pointer none, .pointer none], .int .i64 2]) ∧ Fr [] w w' := by
  obtain ⟨w0, hW⟩ : ∃ W, (w.alloc (.cells #[.int .i64 c0, .int .i64 c1] 92)).alloc (.cells #[.pointer none, .pointer none] 24) = W := ⟨_, rfl⟩
  have q : w0.heap[w.heap.size + 1]? = some (.cells #[.pointer none, .pointer none] 24 (0, 0)) := by rw [← hW]; exact newA (by simp)
  have qi : w0.heap[w.heap.size]? = some (.cells #[.int .i64 c0, .int .i64 c1] 92 (0, 0)) := by rw [← hW]; exact keepA (newA rfl)
  have f0 : Fr [] w w0 := by rw [← hW]; exact ((Fr.refl _ _).alloc _).alloc _
  have hz0 := lt_of_heap q
  have i0 : w0.cell? ⟨w.heap.size, 0, none⟩ = some (.int .i64 c0) := cell_of qi
  have i1 : w0.cell? ⟨w.heap.size, 1, none⟩ = some (.int .i64 c1) := cell_of qi
  have HF0 := Lib.hid f0
  have HQ := Lib.hid q
  have hi0 : ∀ (x0 x1 : Value) (w : World), (Instr.index 92 (.agg #[x0, x1]) (.int .i64 0)).run Try.prog w = .ok x0 w := fun _ _ _ => by kernel_rfl
  have hi1 : ∀ (x0 x1 : Value) (w : World), (Instr.index 92 (.agg #[x0, x1]) (.int .i64 1)).run Try.prog w = .ok x1 w := fun _ _ _ => by kernel_rfl
  clear f0 q qi
  go_enter Try.func93, Try.ntmps93
  go_wp2_with fail
  refine wp_loop_rounds 3 ?_
  rw [rounds_succ]
  go_wp2_with fail
  clear hW i0 i1
  refine (st_new_bad c0 _ h0).mono ?_
  rintro e w1 ⟨rfl, rfl⟩
  have y0 : w0.cell? ⟨w.heap.size + 1, 0, none⟩ = some (.pointer none) := cell_of (HQ.out)
  have y1 : w0.cell? ⟨w.heap.size + 1, 1, none⟩ = some (.pointer none) := cell_of (HQ.out)
  have k0 : w0.frozen? ⟨w.heap.size + 1, 0, none⟩ = false := free_of (HQ.out)
  have k1 : w0.frozen? ⟨w.heap.size + 1, 1, none⟩ = false := free_of (HQ.out)
  obtain ⟨wx, hwx, fwx, qwx⟩ : ∃ W, (w0.setCell ⟨w.heap.size + 1, 0, none⟩ (.pointer none)) = W ∧ Fr [w.heap.size + 1] w0 W ∧ W.heap[w.heap.size + 1]? = some (.cells #[.pointer none, .pointer none] 24 (0, 0)) := ⟨_, rfl, (Fr.refl _ _).setCell (.inl (by simp)) _, by have hx := heap_setCell_eq (i := 0) (u := .pointer none) (HQ.out); simpa using hx⟩
  have z0 : wx.cell? ⟨w.heap.size + 1, 0, none⟩ = some (.pointer none) := cell_of (qwx)
  have z1 : wx.cell? ⟨w.heap.size + 1, 1, none⟩ = some (.pointer none) := cell_of (qwx)
  have l0 : wx.frozen? ⟨w.heap.size + 1, 0, none⟩ = false := free_of (qwx)
  have l1 : wx.frozen? ⟨w.heap.size + 1, 1, none⟩ = false := free_of (qwx)
  obtain ⟨wy, hwy, fwy, qwy⟩ : ∃ W, ((wx.setCell ⟨w.heap.size + 1, 0, none⟩ (.pointer none)).setCell ⟨w.heap.size + 1, 1, none⟩ (.pointer none)) = W ∧ Fr [w.heap.size + 1] wx W ∧ W.heap[w.heap.size + 1]? = some (.cells #[.pointer none, .pointer none] 24 (0, 0)) := ⟨_, rfl, ((Fr.refl _ _).setCell (.inl (by simp)) _).setCell (.inl (by simp)) _, by have hx := heap_setCell_eq (i := 1) (u := .pointer none) (heap_setCell_eq (i := 0) (u := .pointer none) qwx); simpa using hx⟩
  have HFX := Lib.hid (fwx.then fwy)
  have HQY := Lib.hid qwy
  clear fwx fwy qwx qwy
  go_wp2_with fail
  have e0 : wy.cell? ⟨w.heap.size + 1, 0, none⟩ = some (.pointer none) := cell_of HQY.out
  have e1 : wy.cell? ⟨w.heap.size + 1, 1, none⟩ = some (.pointer none) := cell_of HQY.out
  refine bodyPost_ret (v := .tuple #[.agg #[.pointer none, .pointer none], .int .i64 2]) (by simp [results, Try.results93, go_sem, e0, e1]) rfl ?_
  exact ⟨rfl, HF0.out.trans HFX.out (by simp) (fun x hx => .inr (by simp at hx; omega))⟩
set_option maxHeartbeats 2000000 in
theorem both_bad1 (w : World) {c0 c1 : Int} (h0 : 0 ≤ c0 ∧ c0 ≤ 4096) (h1 : c1 < 0 ∨ 4096 < c1) :
    Calls Try.prog 93 #[.agg #[.int .i64 c0, .int .i64 c1], .func (.func 27) #[] #[]] w fun e w' => e = .returned (.tuple #[.agg #[.pointer none, .pointer none], .int .i64 2]) ∧ Fr [] w w' := by
  obtain ⟨w0, hW⟩ : ∃ W, (w.alloc (.cells #[.int .i64 c0, .int .i64 c1] 92)).alloc (.cells #[.pointer none, .pointer none] 24) = W := ⟨_, rfl⟩
  have q : w0.heap[w.heap.size + 1]? = some (.cells #[.pointer none, .pointer none] 24 (0, 0)) := by rw [← hW]; exact newA (by simp)
  have qi : w0.heap[w.heap.size]? = some (.cells #[.int .i64 c0, .int .i64 c1] 92 (0, 0)) := by rw [← hW]; exact keepA (newA rfl)
  have f0 : Fr [] w w0 := by rw [← hW]; exact ((Fr.refl _ _).alloc _).alloc _
  have hz0 := lt_of_heap q
  have i0 : w0.cell? ⟨w.heap.size, 0, none⟩ = some (.int .i64 c0) := cell_of qi
  have i1 : w0.cell? ⟨w.heap.size, 1, none⟩ = some (.int .i64 c1) := cell_of qi
  have HF0 := Lib.hid f0
  have HQ := Lib.hid q
  have hi0 : ∀ (x0 x1 : Value) (w : World), (Instr.index 92 (.agg #[x0, x1]) (.int .i64 0)).run Try.prog w = .ok x0 w := fun _ _ _ => by kernel_rfl
  have hi1 : ∀ (x0 x1 : Value) (w : World), (Instr.index 92 (.agg #[x0, x1]) (.int .i64 1)).run Try.prog w = .ok x1 w := fun _ _ _ => by kernel_rfl
  clear f0 q qi
  go_enter Try.func93, Try.ntmps93
  go_wp2_with fail
  refine wp_loop_rounds 3 ?_
  rw [rounds_succ]
  go_wp2_with fail
  clear hW i0 i1
  refine (sf_new c0 _ h0.1 h0.2).mono ?_
  rintro e w1 ⟨b0, F0, rfl, f1, hF0, hs0⟩
  have g1 : w1.heap[w.heap.size + 1]? = some (.cells #[.pointer none, .pointer none] 24 (0, 0)) := f1.keep HQ.out (by simp)
  have y0 : w1.cell? ⟨w.heap.size + 1, 0, none⟩ = some (.pointer none) := cell_of (g1)
  have y1 : w1.cell? ⟨w.heap.size + 1, 1, none⟩ = some (.pointer none) := cell_of (g1)
  have k0 : w1.frozen? ⟨w.heap.size + 1, 0, none⟩ = false := free_of (g1)
  have k1 : w1.frozen? ⟨w.heap.size + 1, 1, none⟩ = false := free_of (g1)
  obtain ⟨w2, hw2, fw2, qw2⟩ : ∃ W, (w1.setCell ⟨w.heap.size + 1, 0, none⟩ (.pointer (some ⟨b0, 0, none⟩))) = W ∧ Fr [w.heap.size + 1] w1 W ∧ W.heap[w.heap.size + 1]? = some (.cells #[.pointer (some ⟨b0, 0, none⟩), .pointer none] 24 (0, 0)) := ⟨_, rfl, (Fr.refl _ _).setCell (.inl (by simp)) _, by have hx := heap_setCell_eq (i := 0) (u := .pointer (some ⟨b0, 0, none⟩)) g1; simpa using hx⟩
  have hz1 := f1.size
  have hs2 := hs0.keep fw2 (fun x hx hF => by simp at hx; have := hF0 x hF; omega)
  have HS0 := Lib.hid hs2
  have HQ2 := Lib.hid qw2
  have HF2 := Lib.hid ((HF0.out.then0 f1).trans fw2 (U := []) (by simp) (fun x hx => .inr (by simp at hx; omega)))
  have HB0 := Lib.hid hF0
  have HZ2 := Lib.hid fw2.size
  clear hs0 hs2 f1 g1 fw2 qw2 hF0 HQ
  go_wp2_with fail
  clear y0 y1 k0 k1 hw2
  rw [rounds_succ]
  go_wp2_with fail
  refine (st_new_bad c1 _ h1).mono ?_
  rintro e w3 ⟨rfl, rfl⟩
  have y0 : w2.cell? ⟨w.heap.size + 1, 0, none⟩ = some (.pointer (some ⟨b0, 0, none⟩)) := cell_of (HQ2.out)
  have y1 : w2.cell? ⟨w.heap.size + 1, 1, none⟩ = some (.pointer none) := cell_of (HQ2.out)
  have k0 : w2.frozen? ⟨w.heap.size + 1, 0, none⟩ = false := free_of (HQ2.out)
  have k1 : w2.frozen? ⟨w.heap.size + 1, 1, none⟩ = false := free_of (HQ2.out)
  obtain ⟨wx, hwx, fwx, qwx⟩ : ∃ W, (w2.setCell ⟨w.heap.size + 1, 1, none⟩ (.pointer none)) = W ∧ Fr [w.heap.size + 1] w2 W ∧ W.heap[w.heap.size + 1]? = some (.cells #[.pointer (some ⟨b0, 0, none⟩), .pointer none] 24 (0, 0)) := ⟨_, rfl, (Fr.refl _ _).setCell (.inl (by simp)) _, by have hx := heap_setCell_eq (i := 1) (u := .pointer none) (HQ2.out); simpa using hx⟩
  have z0 : wx.cell? ⟨w.heap.size + 1, 0, none⟩ = some (.pointer (some ⟨b0, 0, none⟩)) := cell_of (qwx)
  have z1 : wx.cell? ⟨w.heap.size + 1, 1, none⟩ = some (.pointer none) := cell_of (qwx)
  have l0 : wx.frozen? ⟨w.heap.size + 1, 0, none⟩ = false := free_of (qwx)
  have l1 : wx.frozen? ⟨w.heap.size + 1, 1, none⟩ = false := free_of (qwx)
  obtain ⟨wy, hwy, fwy, qwy⟩ : ∃ W, ((wx.setCell ⟨w.heap.size + 1, 0, none⟩ (.pointer none)).setCell ⟨w.heap.size + 1, 1, none⟩ (.pointer none)) = W ∧ Fr [w.heap.size + 1] wx W ∧ W.heap[w.heap.size + 1]? = some (.cells #[.pointer none, .pointer none] 24 (0, 0)) := ⟨_, rfl, ((Fr.refl _ _).setCell (.inl (by simp)) _).setCell (.inl (by simp)) _, by have hx := heap_setCell_eq (i := 1) (u := .pointer none) (heap_setCell_eq (i := 0) (u := .pointer none) qwx); simpa using hx⟩
  have HFX := Lib.hid (fwx.then fwy)
  have HQY := Lib.hid qwy
  clear fwx fwy qwx qwy
  go_wp2_with fail
  have e0 : wy.cell? ⟨w.heap.size + 1, 0, none⟩ = some (.pointer none) := cell_of HQY.out
  have e1 : wy.cell? ⟨w.heap.size + 1, 1, none⟩ = some (.pointer none) := cell_of HQY.out
  refine bodyPost_ret (v := .tuple #[.agg #[.pointer none, .pointer none], .int .i64 2]) (by simp [results, Try.results93, go_sem, e0, e1]) rfl ?_
  exact ⟨rfl, HF2.out.trans HFX.out (by simp) (fun x hx => .inr (by simp at hx; omega))⟩
set_option maxHeartbeats 2000000 in
theorem both_ok (w : World) {c0 c1 : Int} (h0 : 0 ≤ c0 ∧ c0 ≤ 4096) (h1 : 0 ≤ c1 ∧ c1 ≤ 4096) :
    Calls Try.prog 93 #[.agg #[.int .i64 c0, .int .i64 c1], .func (.func 27) #[] #[]] w fun e w' => ∃ b0 b1 F0 F1, e = .returned (.tuple #[.agg #[.pointer (some ⟨b0, 0, none⟩), .pointer (some ⟨b1, 0, none⟩)], .int .i64 0]) ∧ Fr [] w w' ∧ SF w' F0 b0 (newM c0) ∧ SF w' F1 b1 (newM c1) ∧ (∀ x, F0 x → ¬ F1 x) ∧ (∀ x, F0 x → w.heap.size ≤ x) ∧ ∀ x, F1 x → w.heap.size ≤ x := by
  obtain ⟨w0, hW⟩ : ∃ W, (w.alloc (.cells #[.int .i64 c0, .int .i64 c1] 92)).alloc (.cells #[.pointer none, .pointer none] 24) = W := ⟨_, rfl⟩
  have q : w0.heap[w.heap.size + 1]? = some (.cells #[.pointer none, .pointer none] 24 (0, 0)) := by rw [← hW]; exact newA (by simp)
  have qi : w0.heap[w.heap.size]? = some (.cells #[.int .i64 c0, .int .i64 c1] 92 (0, 0)) := by rw [← hW]; exact keepA (newA rfl)
  have f0 : Fr [] w w0 := by rw [← hW]; exact ((Fr.refl _ _).alloc _).alloc _
  have hz0 := lt_of_heap q
  have i0 : w0.cell? ⟨w.heap.size, 0, none⟩ = some (.int .i64 c0) := cell_of qi
  have i1 : w0.cell? ⟨w.heap.size, 1, none⟩ = some (.int .i64 c1) := cell_of qi
  have HF0 := Lib.hid f0
  have HQ := Lib.hid q
  have hi0 : ∀ (x0 x1 : Value) (w : World), (Instr.index 92 (.agg #[x0, x1]) (.int .i64 0)).run Try.prog w = .ok x0 w := fun _ _ _ => by kernel_rfl
  have hi1 : ∀ (x0 x1 : Value) (w : World), (Instr.index 92 (.agg #[x0, x1]) (.int .i64 1)).run Try.prog w = .ok x1 w := fun _ _ _ => by kernel_rfl
  clear f0 q qi
  go_enter Try.func93, Try.ntmps93
  go_wp2_with fail
  refine wp_loop_rounds 3 ?_
  rw [rounds_succ]
  go_wp2_with fail
  clear hW i0 i1
  refine (sf_new c0 _ h0.1 h0.2).mono ?_
  rintro e w1 ⟨b0, F0, rfl, f1, hF0, hs0⟩
  have g1 : w1.heap[w.heap.size + 1]? = some (.cells #[.pointer none, .pointer none] 24 (0, 0)) := f1.keep HQ.out (by simp)
  have y0 : w1.cell? ⟨w.heap.size + 1, 0, none⟩ = some (.pointer none) := cell_of (g1)
  have y1 : w1.cell? ⟨w.heap.size + 1, 1, none⟩ = some (.pointer none) := cell_of (g1)
  have k0 : w1.frozen? ⟨w.heap.size + 1, 0, none⟩ = false := free_of (g1)
  have k1 : w1.frozen? ⟨w.heap.size + 1, 1, none⟩ = false := free_of (g1)
  obtain ⟨w2, hw2, fw2, qw2⟩ : ∃ W, (w1.setCell ⟨w.heap.size + 1, 0, none⟩ (.pointer (some ⟨b0, 0, none⟩))) = W ∧ Fr [w.heap.size + 1] w1 W ∧ W.heap[w.heap.size + 1]? = some (.cells #[.pointer (some ⟨b0, 0, none⟩), .pointer none] 24 (0, 0)) := ⟨_, rfl, (Fr.refl _ _).setCell (.inl (by simp)) _, by have hx := heap_setCell_eq (i := 0) (u := .pointer (some ⟨b0, 0, none⟩)) g1; simpa using hx⟩
  have hz1 := f1.size
  have hs2 := hs0.keep fw2 (fun x hx hF => by simp at hx; have := hF0 x hF; omega)
  have HS0 := Lib.hid hs2
  have HQ2 := Lib.hid qw2
  have HF2 := Lib.hid ((HF0.out.then0 f1).trans fw2 (U := []) (by simp) (fun x hx => .inr (by simp at hx; omega)))
  have HB0 := Lib.hid hF0
  have HZ2 := Lib.hid fw2.size
  clear hs0 hs2 f1 g1 fw2 qw2 hF0 HQ
  go_wp2_with fail
  clear y0 y1 k0 k1 hw2
  rw [rounds_succ]
  go_wp2_with fail
  refine (sf_new c1 _ h1.1 h1.2).mono ?_
  rintro e w3 ⟨b1, F1, rfl, f3, hF1, hs1⟩
  have g3 : w3.heap[w.heap.size + 1]? = some (.cells #[.pointer (some ⟨b0, 0, none⟩), .pointer none] 24 (0, 0)) := f3.keep HQ2.out (by simp)
  have y0 : w3.cell? ⟨w.heap.size + 1, 0, none⟩ = some (.pointer (some ⟨b0, 0, none⟩)) := cell_of (g3)
  have y1 : w3.cell? ⟨w.heap.size + 1, 1, none⟩ = some (.pointer none) := cell_of (g3)
  have k0 : w3.frozen? ⟨w.heap.size + 1, 0, none⟩ = false := free_of (g3)
  have k1 : w3.frozen? ⟨w.heap.size + 1, 1, none⟩ = false := free_of (g3)
  obtain ⟨w4, hw4, fw4, qw4⟩ : ∃ W, (w3.setCell ⟨w.heap.size + 1, 1, none⟩ (.pointer (some ⟨b1, 0, none⟩))) = W ∧ Fr [w.heap.size + 1] w3 W ∧ W.heap[w.heap.size + 1]? = some (.cells #[.pointer (some ⟨b0, 0, none⟩), .pointer (some ⟨b1, 0, none⟩)] 24 (0, 0)) := ⟨_, rfl, (Fr.refl _ _).setCell (.inl (by simp)) _, by have hx := heap_setCell_eq (i := 1) (u := .pointer (some ⟨b1, 0, none⟩)) g3; simpa using hx⟩
  have hz3 := f3.size
  have hz2 := HZ2.out
  have hs4 := hs1.keep fw4 (fun x hx hF => by simp at hx; have := hF1 x hF; omega)
  have ht4 := (HS0.out.keep0 f3).keep fw4 (fun x hx hF => by simp at hx; have := HB0.out x hF; omega)
  have hap : ∀ x, F0 x → ¬ F1 x := fun x h0 h1 => by have := HS0.out.lt x h0; have := hF1 x h1; omega
  have HR := Lib.hid (And.intro ht4 (And.intro hs4 hap))
  have HF4 := Lib.hid ((HF2.out.then0 f3).trans fw4 (U := []) (by simp) (fun x hx => .inr (by simp at hx; omega)))
  have HB1 : Hid (∀ x, F1 x → w.heap.size + 1 < x) := Lib.hid (fun x hx => by have := hF1 x hx; omega)
  have HQ4 := Lib.hid qw4
  clear hs1 hs4 ht4 hap f3 g3 fw4 qw4 hF1 HS0 HF2 HQ2
  go_wp2_with fail
  clear y0 y1 k0 k1 hw4
  rw [rounds_succ]
  have y0 : w4.cell? ⟨w.heap.size + 1, 0, none⟩ = some (.pointer (some ⟨b0, 0, none⟩)) := cell_of (HQ4.out)
  have y1 : w4.cell? ⟨w.heap.size + 1, 1, none⟩ = some (.pointer (some ⟨b1, 0, none⟩)) := cell_of (HQ4.out)
  have k0 : w4.frozen? ⟨w.heap.size + 1, 0, none⟩ = false := free_of (HQ4.out)
  have k1 : w4.frozen? ⟨w.heap.size + 1, 1, none⟩ = false := free_of (HQ4.out)
  skip
  obtain ⟨w5, hw5, fw5, qw5⟩ : ∃ W, ((w4.setCell ⟨w.heap.size + 1, 0, none⟩ (.pointer (some ⟨b0, 0, none⟩))).setCell ⟨w.heap.size + 1, 1, none⟩ (.pointer (some ⟨b1, 0, none⟩))) = W ∧ Fr [w.heap.size + 1] w4 W ∧ W.heap[w.heap.size + 1]? = some (.cells #[.pointer (some ⟨b0, 0, none⟩), .pointer (some ⟨b1, 0, none⟩)] 24 (0, 0)) := ⟨_, rfl, ((Fr.refl _ _).setCell (.inl (by simp)) _).setCell (.inl (by simp)) _, by have hx := heap_setCell_eq (i := 1) (u := .pointer (some ⟨b1, 0, none⟩)) (heap_setCell_eq (i := 0) (u := .pointer (some ⟨b0, 0, none⟩)) HQ4.out); simpa using hx⟩
  have HF5 := Lib.hid fw5
  have HQ5 := Lib.hid qw5
  clear fw5 qw5
  go_wp2_with fail
  have e0 : w5.cell? ⟨w.heap.size + 1, 0, none⟩ = some (.pointer (some ⟨b0, 0, none⟩)) := cell_of HQ5.out
  have e1 : w5.cell? ⟨w.heap.size + 1, 1, none⟩ = some (.pointer (some ⟨b1, 0, none⟩)) := cell_of HQ5.out
  refine bodyPost_ret (v := .tuple #[.agg #[.pointer (some ⟨b0, 0, none⟩), .pointer (some ⟨b1, 0, none⟩)], .int .i64 0]) (by simp [results, Try.results93, go_sem, e0, e1]) rfl ?_
  have hz5 : ∀ x ∈ [w.heap.size + 1], x = w.heap.size + 1 := by simp
  have hz6 := HF0.out.size
  exact ⟨b0, b1, F0, F1, rfl, HF4.out.trans HF5.out (by simp) (fun x hx => .inr (by have := hz5 x hx; omega)), HR.out.1.keep HF5.out (fun x hx hF => by have := hz5 x hx; have := HB0.out x hF; omega), HR.out.2.1.keep HF5.out (fun x hx hF => by have := hz5 x hx; have := HB1.out x hF; omega), HR.out.2.2, fun x hF => by have := HB0.out x hF; omega, fun x hF => by have := HB1.out x hF; omega⟩
theorem dx_new (w : World) {c0 c1 : Int} (h0 : 0 ≤ c0 ∧ c0 ≤ 4096) (h1 : 0 ≤ c1 ∧ c1 ≤ 4096) :
    Calls Try.prog 49 #[.int .i64 c0, .int .i64 c1] w fun e w' => ∃ d F, e = .returned (.tuple #[.pointer (some ⟨d, 0, none⟩), .int .i64 0]) ∧ Fr [] w w' ∧ (∀ x, F x → w.heap.size ≤ x) ∧ Dx w' F d ⟨newM c0, newM c1, false, false⟩ := by
  have HB := Lib.hid (both_ok w h0 h1)
  clear h0 h1
  go_enter Try.func49, Try.ntmps49
  go_wp2_with fail
  refine HB.out.mono ?_
  rintro e w1 ⟨b0, b1, F0, F1, rfl, f1, s0, s1, ha, l0, l1⟩
  have HR := Lib.hid (And.intro s0 (And.intro s1 (And.intro ha (And.intro l0 l1))))
  have HF := Lib.hid f1
  clear s0 s1 ha l0 l1 f1
  obtain ⟨w2, hw2, f2, q2⟩ : ∃ W, w1.alloc (.cells #[.pointer (some ⟨b0, 0, none⟩), .pointer (some ⟨b1, 0, none⟩)] 24) = W ∧ Fr [] w1 W ∧ W.heap[w1.heap.size]? = some (.cells #[.pointer (some ⟨b0, 0, none⟩), .pointer (some ⟨b1, 0, none⟩)] 24 (0, 0)) := ⟨_, rfl, (Fr.refl _ _).alloc _, newA rfl⟩
  have y0 : w2.cell? ⟨w1.heap.size, 0, none⟩ = some (.pointer (some ⟨b0, 0, none⟩)) := cell_of q2
  have y1 : w2.cell? ⟨w1.heap.size, 1, none⟩ = some (.pointer (some ⟨b1, 0, none⟩)) := cell_of q2
  have HF2 := Lib.hid f2
  clear q2 f2
  obtain ⟨w3, hw3, f3, q3⟩ : ∃ W, w2.alloc (.cells #[.pointer (some ⟨b0, 0, none⟩), .pointer (some ⟨b1, 0, none⟩), .bool false, .bool false] 27) = W ∧ Fr [] w2 W ∧ DB W w2.heap.size b0 b1 false false := ⟨_, rfl, (Fr.refl _ _).alloc _, newA rfl⟩
  have HQ3 := Lib.hid (And.intro f3 q3)
  clear f3 q3
  go_wp2_with fail
  go_ret2
  obtain ⟨s0, s1, ha, l0, l1⟩ := HR.out
  obtain ⟨f3, q3⟩ := HQ3.out
  have f13 := HF2.out.then0 f3
  have z1 := HF.out.size
  have z2 := HF2.out.size
  have z3 := lt_of_heap q3
  exact ⟨w2.heap.size, fun x => F0 x ∨ F1 x ∨ x = w2.heap.size, rfl, HF.out.then0 f13, fun x hx => by rcases hx with h | h | h; exact l0 x h; exact l1 x h; omega, b0, b1, F0, F1, q3, s0.keep0 f13, s1.keep0 f13, ha, fun h => by have := s0.lt _ h; omega, fun h => by have := s1.lt _ h; omega, fun x h => .inl h, fun x h => .inr (.inl h), .inr (.inr rfl), fun x hx => by rcases hx with h | h | h; have := s0.lt x h; have := f13.size; omega; have := s1.lt x h; have := f13.size; omega; omega⟩
theorem dx_new_bad (w : World) {c0 c1 : Int} (h : ¬ ((0 ≤ c0 ∧ c0 ≤ 4096) ∧ (0 ≤ c1 ∧ c1 ≤ 4096))) :
    Calls Try.prog 49 #[.int .i64 c0, .int .i64 c1] w fun e w' => e = .returned (.tuple #[.pointer none, .int .i64 2]) ∧ Fr [] w w' := by
  have HB : Hid (Calls Try.prog 93 #[.agg #[.int .i64 c0, .int .i64 c1], .func (.func 27) #[] #[]] w fun e w' => e = .returned (.tuple #[.agg #[.pointer none, .pointer none], .int .i64 2]) ∧ Fr [] w w') := Lib.hid (by
    by_cases h0 : 0 ≤ c0 ∧ c0 ≤ 4096
    · exact both_bad1 w h0 (by omega)
    · exact both_bad0 w (by omega))
  clear h
  go_enter Try.func49, Try.ntmps49
  go_wp2_with fail
  refine HB.out.mono ?_
  rintro e w1 ⟨rfl, f1⟩
  have HF := Lib.hid f1
  clear f1
  go_wp2_with fail
  go_ret2
  exact ⟨rfl, HF.out.alloc _⟩
end Go.Proofs.Ytdoamelhclnphaa
