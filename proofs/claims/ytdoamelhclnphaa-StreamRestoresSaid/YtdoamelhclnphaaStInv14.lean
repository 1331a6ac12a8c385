/-
  Law 14: the invariant of a stream beside a state, and step over all acts.
-/
import Derived.Test.YtdoamelhclnphaaStepA
import Derived.Test.YtdoamelhclnphaaLaw14
namespace Go.Proofs.Ytdoamelhclnphaa
open Go.RowKit
set_option maxRecDepth 100000

/-- A stream and a state that say the same, apart from each other, in memory from w0 on and out of the blocks of B. -/
def SI (w0 w : World) (B : List Nat) (b : Nat) (m : SM) (v : Value) : Prop :=
  ∃ F N : Nat → Prop, SF w F b m ∧ Sv w N v m ∧ (∀ x, F x → ¬ N x) ∧ (∀ x, F x → w0.heap.size ≤ x ∧ x ∉ B) ∧ ∀ x, N x → x < w.heap.size ∧ x ∉ B
theorem SI.keep {w0 w w' : World} {B S : List Nat} {b : Nat} {m : SM} {v : Value} (h : SI w0 w B b m v) (f : Fr S w w') (hS : ∀ x ∈ S, w.heap.size ≤ x ∨ x ∈ B) : SI w0 w' B b m v := by
  obtain ⟨F, N, h1, h2, h3, h4, h5⟩ := h
  have hl := h1.lt
  have hz := f.size
  refine ⟨F, N, h1.keep f (fun x hx hF => ?_), h2.keep f (fun x hx hN => ?_), h3, h4, fun x hx => ⟨by have := (h5 x hx).1; omega, (h5 x hx).2⟩⟩
  · have h6 := h4 x hF
    have h7 := hl x hF
    rcases hS x hx with h | h
    · omega
    · exact h6.2 h
  · have h6 := h5 x hN
    rcases hS x hx with h | h
    · omega
    · exact h6.2 h
theorem SI.keep0 {w0 w w' : World} {B : List Nat} {b : Nat} {m : SM} {v : Value} (h : SI w0 w B b m v) (f : Fr [] w w') : SI w0 w' B b m v := h.keep f (by simp)
/-- New blocks are of no concern. -/
theorem SI.out {w0 w w' : World} {B : List Nat} {b : Nat} {m : SM} {v : Value} (h : SI w0 w B b m v) (f : Fr [] w w') (L : List Nat) (hL : ∀ x ∈ L, w.heap.size ≤ x) : SI w0 w' (L ++ B) b m v := by
  obtain ⟨F, N, h1, h2, h3, h4, h5⟩ := h.keep0 f
  obtain ⟨_, _, g1, g2, _, _, g5⟩ := id h
  obtain ⟨F, N, h1, h2, h3, h4, h5⟩ := h
  have hl := h1.lt
  refine ⟨F, N, h1.keep0 f, h2.keep f (by simp), h3, fun x hx => ⟨(h4 x hx).1, fun hm => ?_⟩, fun x hx => ⟨by have := (h5 x hx).1; have := f.size; omega, fun hm => ?_⟩⟩
  · rcases List.mem_append.1 hm with hm | hm
    · have := hL x hm; have := hl x hx; omega
    · exact (h4 x hx).2 hm
  · rcases List.mem_append.1 hm with hm | hm
    · have := hL x hm; have := (h5 x hx).1; omega
    · exact (h5 x hx).2 hm
theorem SI.less {w0 w : World} {B B' : List Nat} {b : Nat} {m : SM} {v : Value} (h : SI w0 w B b m v) (hB : ∀ x ∈ B', x ∈ B) : SI w0 w B' b m v := by
  obtain ⟨F, N, h1, h2, h3, h4, h5⟩ := h
  exact ⟨F, N, h1, h2, h3, fun x hx => ⟨(h4 x hx).1, fun hm => (h4 x hx).2 (hB x hm)⟩, fun x hx => ⟨(h5 x hx).1, fun hm => (h5 x hx).2 (hB x hm)⟩⟩
theorem SI.ok {w0 w : World} {B : List Nat} {b : Nat} {m : SM} {v : Value} (h : SI w0 w B b m v) : SOk m := by
  obtain ⟨F, N, h1, _⟩ := h
  exact h1.ok
theorem SI.is_ {w0 w : World} {B : List Nat} {b : Nat} {m : SM} {v : Value} (h : SI w0 w B b m v) :
    Calls Try.prog 39 #[.pointer (some ⟨b, 0, none⟩), v] w fun e w' => e = .returned (.bool true) ∧ Fr [] w w' := by
  obtain ⟨F, N, h1, h2, _⟩ := h
  exact is14 h1 h2
theorem SI.form {w0 w : World} {B : List Nat} {b : Nat} {m : SM} {v : Value} (h : SI w0 w B b m v) : ∃ a3 k3 a4 k4, v = .agg #[.int .i64 m.c, .slice a3 m.q.length k3, .bool m.busy, .slice a4 m.rest.length k4, .int .i64 m.acc, .int .i64 m.w, .int .i64 m.r] := by
  obtain ⟨F, N, h1, ⟨u1, u2, rfl, ⟨a3, k3, rfl, _⟩, ⟨a4, k4, rfl, _⟩⟩, _⟩ := h
  exact ⟨a3, k3, a4, k4, rfl⟩
def stepM (what : Int) (ps : Parts) (n : Int) (m : SM) : SM :=
  if what = 0 then (beginM m ps.flatten).m else if what = 1 then (endM m).m else if what = 2 then (cancelM m).m else if what = 3 then (readM m n).m else if what = 4 then (closewM m n).m else if what = 5 then (closerM m n).m else m
theorem Acts14.mono {w : World} {M M' : Nat} {a : Option Addr} {len cap : Nat} {A : List A14} (h : Acts14 w M a len cap A) (hM : M ≤ M') (hp : ∀ {a : Option Addr} {len cap : Nat} {P : Parts}, PArg w M a len cap P → PArg w M' a len cap P) : Acts14 w M' a len cap A :=
  ⟨h.len_eq, h.cap_le, fun i hi => by
    obtain ⟨b, o, pa, pl, pc, e, h1, h2, c0, c1, c2, hs, x⟩ := h.at_ i hi
    exact ⟨b, o, pa, pl, pc, e, Nat.lt_of_lt_of_le h1 hM, h2, c0, c1, c2, hp hs, x⟩⟩
theorem PArg.mono {w : World} {M M' : Nat} {a : Option Addr} {len cap : Nat} {P : Parts} (h : PArg w M a len cap P) (hM : M ≤ M') : PArg w M' a len cap P :=
  ⟨h.len_eq, h.le, h.cap_le, h.at_.mono (fun _ hx => Nat.lt_of_lt_of_le hx hM), h.size⟩
theorem step14 {w : World} {F N : Nat → Prop} {b : Nat} {m : SM} {v : Value} {pa : Option Addr} {pc : Nat} {ps : Parts} {n what : Int} (hs : SF w F b m) (h : Sv w N v m) (hd : ∀ x, F x → ¬ N x) (HNZ : ∀ x, N x → x < w.heap.size) (hp : PArg w w.heap.size pa ps.length pc ps) (hps : ps.length ≤ 100) (htt : tot ps ≤ 3000) :
    Calls Try.prog 38 #[.pointer (some ⟨b, 0, none⟩), v, .agg #[.int .i64 what, .slice pa ps.length pc, .int .i64 n]] w (Step14 w F N (stepM what ps n m)) := by
  unfold stepM
  by_cases h0 : what = 0
  · rw [if_pos h0]; subst h0; exact step_begin hs h hd HNZ hp hps htt
  rw [if_neg h0]
  by_cases h1 : what = 1
  · rw [if_pos h1]; subst h1; exact step_end hs h hd HNZ
  rw [if_neg h1]
  by_cases h2 : what = 2
  · rw [if_pos h2]; subst h2; exact step_cancel hs h hd HNZ
  rw [if_neg h2]
  by_cases h3 : what = 3
  · rw [if_pos h3]; subst h3; exact step_read hs h hd HNZ
  rw [if_neg h3]
  by_cases h4 : what = 4
  · rw [if_pos h4]; subst h4; exact step_closew hs h hd HNZ
  rw [if_neg h4]
  by_cases h5 : what = 5
  · rw [if_pos h5]; subst h5; exact step_closer hs h hd HNZ
  rw [if_neg h5]
  exact step_any hs h hd HNZ (by simpa using h0) (by simpa using h1) (by simpa using h2) (by simpa using h3) (by simpa using h4) (by simpa using h5)
/-- A step under the invariant. -/
theorem SI.step {w0 w : World} {B : List Nat} {b : Nat} {m : SM} {v : Value} (h : SI w0 w B b m v) (h0 : w0.heap.size ≤ w.heap.size) (hB : ∀ x ∈ B, x < w.heap.size) {pa : Option Addr} {pc : Nat} {ps : Parts} {n what : Int} (hp : PArg w w0.heap.size pa ps.length pc ps) (hps : ps.length ≤ 100) (htt : tot ps ≤ 3000) :
    Calls Try.prog 38 #[.pointer (some ⟨b, 0, none⟩), v, .agg #[.int .i64 what, .slice pa ps.length pc, .int .i64 n]] w fun e w' =>
      ∃ b' v', e = .returned (.tuple #[.pointer (some ⟨b', 0, none⟩), v', .bool true]) ∧ SI w0 w' B b' (stepM what ps n m) v' ∧ ∃ S, Fr S w w' ∧ ∀ x ∈ S, w0.heap.size ≤ x ∧ x ∉ B := by
  obtain ⟨F, N, h1, h2, h3, h4, h5⟩ := h
  refine (step14 h1 h2 h3 (fun x hx => (h5 x hx).1) (hp.mono h0) hps htt).mono ?_
  rintro e w' ⟨b', v', he, ⟨S, hS, f⟩, F', N', g1, g2, g3, g4, g5⟩
  refine ⟨b', v', he, ⟨F', fun x => N' x ∧ x < w'.heap.size, g1, g2.there, fun x hx hn => g5 x hx hn.1, fun x hx => ?_, fun x hx => ?_⟩, S, f, fun x hx => ?_⟩
  · rcases g3 x hx with h | h
    · exact h4 x h
    · exact ⟨by omega, fun hm => by have := hB x hm; omega⟩
  · rcases g4 x hx.1 with h | h
    · exact ⟨hx.2, (h5 x h).2⟩
    · exact ⟨hx.2, fun hm => by have := hB x hm; omega⟩
  · rcases hS x hx with h | h
    · exact h4 x h
    · exact ⟨by omega, fun hm => by have := hB x hm; omega⟩
end Go.Proofs.Ytdoamelhclnphaa
