/-
  Law 15: the invariant of a connection beside a state, and step over all acts.
-/
import Derived.Test.YtdoamelhclnphaaStep15B
import Derived.Test.YtdoamelhclnphaaStep15C
import Derived.Test.YtdoamelhclnphaaStep15D
import Derived.Test.YtdoamelhclnphaaIs15
namespace Go.Proofs.Ytdoamelhclnphaa
open Go.RowKit
set_option maxRecDepth 100000

/-- A connection and a state that say the same, apart from each other, in memory from w0 on and out of the blocks of B. -/
def DI (w0 w : World) (B : List Nat) (d : Nat) (s : DM) (v : Value) : Prop :=
  ∃ F N : Nat → Prop, Dx w F d s ∧ Cv w N v s ∧ (∀ x, F x → ¬ N x) ∧ (∀ x, F x → w0.heap.size ≤ x ∧ x ∉ B) ∧ ∀ x, N x → x < w.heap.size ∧ x ∉ B
theorem DI.keep {w0 w w' : World} {B S : List Nat} {d : Nat} {s : DM} {v : Value} (h : DI w0 w B d s v) (f : Fr S w w') (hS : ∀ x ∈ S, w.heap.size ≤ x ∨ x ∈ B) : DI w0 w' B d s v := by
  obtain ⟨F, N, h1, h2, h3, h4, h5⟩ := h
  have hl := h1.lt
  have hz := f.size
  refine ⟨F, N, h1.keep f (fun x hx hF => ?_), h2.keep f (fun x hx hN => ?_), h3, h4, fun x hx => ⟨by have := (h5 x hx).1; omega, (h5 x hx).2⟩⟩
  · have h6 := h4 x hF
    have h7 := hl x hF
    rcases hS x hx with h | h
    · omega
    · exact h6.2 h
  · have h6 := h5 x hN
    rcases hS x hx with h | h
    · omega
    · exact h6.2 h
theorem DI.keep0 {w0 w w' : World} {B : List Nat} {d : Nat} {s : DM} {v : Value} (h : DI w0 w B d s v) (f : Fr [] w w') : DI w0 w' B d s v := h.keep f (by simp)
/-- New blocks are of no concern. -/
theorem DI.out {w0 w w' : World} {B : List Nat} {d : Nat} {s : DM} {v : Value} (h : DI w0 w B d s v) (f : Fr [] w w') (L : List Nat) (hL : ∀ x ∈ L, w.heap.size ≤ x) : DI w0 w' (L ++ B) d s v := by
  obtain ⟨F, N, h1, h2, h3, h4, h5⟩ := h.keep0 f
  obtain ⟨_, _, g1, g2, _, _, g5⟩ := id h
  obtain ⟨F, N, h1, h2, h3, h4, h5⟩ := h
  have hl := h1.lt
  refine ⟨F, N, h1.keep0 f, h2.keep f (by simp), h3, fun x hx => ⟨(h4 x hx).1, fun hm => ?_⟩, fun x hx => ⟨by have := (h5 x hx).1; have := f.size; omega, fun hm => ?_⟩⟩
  · rcases List.mem_append.1 hm with hm | hm
    · have := hL x hm; have := hl x hx; omega
    · exact (h4 x hx).2 hm
  · rcases List.mem_append.1 hm with hm | hm
    · have := hL x hm; have := (h5 x hx).1; omega
    · exact (h5 x hx).2 hm
theorem DI.less {w0 w : World} {B B' : List Nat} {d : Nat} {s : DM} {v : Value} (h : DI w0 w B d s v) (hB : ∀ x ∈ B', x ∈ B) : DI w0 w B' d s v := by
  obtain ⟨F, N, h1, h2, h3, h4, h5⟩ := h
  exact ⟨F, N, h1, h2, h3, fun x hx => ⟨(h4 x hx).1, fun hm => (h4 x hx).2 (hB x hm)⟩, fun x hx => ⟨(h5 x hx).1, fun hm => (h5 x hx).2 (hB x hm)⟩⟩
theorem DI.ok {w0 w : World} {B : List Nat} {d : Nat} {s : DM} {v : Value} (h : DI w0 w B d s v) : SOk s.m0 ∧ SOk s.m1 := by
  obtain ⟨F, N, h1, _⟩ := h
  exact h1.ok
theorem DI.is_ {w0 w : World} {B : List Nat} {d : Nat} {s : DM} {v : Value} (h : DI w0 w B d s v) :
    Calls Try.prog 64 #[.pointer (some ⟨d, 0, none⟩), v] w fun e w' => e = .returned (.bool true) ∧ Fr [] w w' := by
  obtain ⟨F, N, h1, h2, _⟩ := h
  exact is15 h1 h2
theorem DI.form {w0 w : World} {B : List Nat} {d : Nat} {s : DM} {v : Value} (h : DI w0 w B d s v) : ∃ a0 k0 a1 k1 a2 k2 a3 k3, v = .agg #[.int .i64 s.m0.c, .slice a0 s.m0.q.length k0, .bool s.m0.busy, .slice a1 s.m0.rest.length k1, .int .i64 s.m0.acc, .int .i64 s.m0.w, .int .i64 s.m0.r, .int .i64 s.m1.c, .slice a2 s.m1.q.length k2, .bool s.m1.busy, .slice a3 s.m1.rest.length k3, .int .i64 s.m1.acc, .int .i64 s.m1.w, .int .i64 s.m1.r, .bool s.x0, .bool s.x1] := by
  obtain ⟨F, N, h1, ⟨u0, u1, u2, u3, rfl, ⟨a0, k0, rfl, _⟩, ⟨a1, k1, rfl, _⟩, ⟨a2, k2, rfl, _⟩, ⟨a3, k3, rfl, _⟩⟩, _⟩ := h
  exact ⟨a0, k0, a1, k1, a2, k2, a3, k3, rfl⟩
def stepD (what en : Int) (ps : Parts) (n : Int) (s : DM) : DM :=
  (if what = 0 then (beginU en s ps.flatten).1 else if what = 1 then (finishU en s).1 else if what = 2 then (cancelU en s).1 else if what = 3 then (readU en s n).1 else if what = 4 then (closewU en s).1 else if what = 5 then (closerU en s).1 else if what = 6 then (closeU en s).1 else s)
theorem PArgU.mono {w : World} {M M' R : Nat} {a : Option Addr} {len cap : Nat} {P : Parts} (h : PArgU w M a len cap P R) (hM : M ≤ M') : PArgU w M' a len cap P R :=
  ⟨h.len_eq, h.le, h.cap_le, h.at_.mono (fun _ hx => Nat.lt_of_lt_of_le hx hM), h.tot⟩
theorem step15 {w : World} {F N : Nat → Prop} {d : Nat} {s : DM} {v : Value} {pa : Option Addr} {pc R : Nat} {ps : Parts} {n en what : Int} (hs : Dx w F d s) (h : Cv w N v s) (hd : ∀ x, F x → ¬ N x) (HNZ : ∀ x, N x → x < w.heap.size) (hp : PArgU w w.heap.size pa ps.length pc ps R) (hps : ps.length ≤ 100) (htt : tot ps ≤ 3000) :
    Calls Try.prog 63 #[.pointer (some ⟨d, 0, none⟩), v, .agg #[.int .i64 what, .int .i64 en, .slice pa ps.length pc, .int .i64 n]] w (Step15 w F N (stepD what en ps n s)) := by
  unfold stepD
  by_cases h0 : what = 0
  · rw [if_pos h0]; subst h0; exact step15_begin hs h hd HNZ hp hps htt
  rw [if_neg h0]
  by_cases h1 : what = 1
  · rw [if_pos h1]; subst h1; exact step15_finish hs h hd HNZ
  rw [if_neg h1]
  by_cases h2 : what = 2
  · rw [if_pos h2]; subst h2; exact step15_cancel hs h hd HNZ
  rw [if_neg h2]
  by_cases h3 : what = 3
  · rw [if_pos h3]; subst h3; exact step15_read hs h hd HNZ
  rw [if_neg h3]
  by_cases h4 : what = 4
  · rw [if_pos h4]; subst h4; exact step15_closew hs h hd HNZ
  rw [if_neg h4]
  by_cases h5 : what = 5
  · rw [if_pos h5]; subst h5; exact step15_closer hs h hd HNZ
  rw [if_neg h5]
  by_cases h6 : what = 6
  · rw [if_pos h6]; subst h6; exact step15_close hs h hd HNZ
  rw [if_neg h6]
  exact step15_any hs h hd HNZ (by simpa using h0) (by simpa using h1) (by simpa using h2) (by simpa using h3) (by simpa using h4) (by simpa using h5) (by simpa using h6)
/-- A step under the invariant. -/
theorem DI.step {w0 w : World} {B : List Nat} {d : Nat} {s : DM} {v : Value} (h : DI w0 w B d s v) (h0 : w0.heap.size ≤ w.heap.size) (hB : ∀ x ∈ B, x < w.heap.size) {pa : Option Addr} {pc R : Nat} {ps : Parts} {n en what : Int} (hp : PArgU w w0.heap.size pa ps.length pc ps R) (hps : ps.length ≤ 100) (htt : tot ps ≤ 3000) :
    Calls Try.prog 63 #[.pointer (some ⟨d, 0, none⟩), v, .agg #[.int .i64 what, .int .i64 en, .slice pa ps.length pc, .int .i64 n]] w fun e w' =>
      ∃ d' v', e = .returned (.tuple #[.pointer (some ⟨d', 0, none⟩), v', .bool true]) ∧ DI w0 w' B d' (stepD what en ps n s) v' ∧ ∃ S, Fr S w w' ∧ ∀ x ∈ S, w0.heap.size ≤ x ∧ x ∉ B := by
  obtain ⟨F, N, h1, h2, h3, h4, h5⟩ := h
  refine (step15 h1 h2 h3 (fun x hx => (h5 x hx).1) (hp.mono h0) hps htt).mono ?_
  rintro e w' ⟨b', v', he, ⟨S, hS, f⟩, F', N', g1, g2, g3, g4, g5⟩
  refine ⟨b', v', he, ⟨F', fun x => N' x ∧ x < w'.heap.size, g1, g2.there, fun x hx hn => g5 x hx hn.1, fun x hx => ?_, fun x hx => ?_⟩, S, f, fun x hx => ?_⟩
  · rcases g3 x hx with h | h
    · exact h4 x h
    · exact ⟨by omega, fun hm => by have := hB x hm; omega⟩
  · rcases g4 x hx.1 with h | h
    · exact ⟨hx.2, (h5 x h).2⟩
    · exact ⟨hx.2, fun hm => by have := hB x hm; omega⟩
  · rcases hS x hx with h | h
    · exact h4 x h
    · exact ⟨by omega, fun hm => by have := hB x hm; omega⟩
end Go.Proofs.Ytdoamelhclnphaa
