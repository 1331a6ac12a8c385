/-
  Law 22: step for any call; a splice and the reference's, beside each other.
-/
import Derived.Test.YtodpkdbcdbdjfaaSpStepG
import Derived.Test.YtodpkdbcdbdjfaaSpStepW
import Derived.Test.YtodpkdbcdbdjfaaSpStepC
import Derived.Test.YtodpkdbcdbdjfaaSpStepX
namespace Go.Proofs.Ytodpkdbcdbdjfaa
open Go.RowKit
set_option maxRecDepth 100000

def stepU (s : SS) (what fr n er : Int) (data : List UInt8) : SS := if what = 0 then gotU s fr data er else if what = 1 then wroteU s fr n er else if what = 2 then closeU s fr else s
theorem stepU_inv {s : SS} (hI : Inv22 s) (what fr n er : Int) (data : List UInt8) : Inv22 (stepU s what fr n er data) := by
  unfold stepU
  split
  · exact gotU_inv hI _ _ _
  · split
    · exact wroteU_inv hI _ _ _
    · split
      · exact closeU_inv hI _
      · exact hI
theorem stepU_rd (s : SS) (what fr n er : Int) (data : List UInt8) : (stepU s what fr n er data).t0.rd ≤ s.t0.rd + data.length ∧ (stepU s what fr n er data).t1.rd ≤ s.t1.rd + data.length := by
  have h0 := gotU_rd s fr data er
  have h1 := wroteU_rd s fr n er
  have h2 := closeU_rd s fr
  unfold stepU
  split
  · exact h0
  · split
    · omega
    · split <;> omega
theorem step22 {w : World} {N0 N1 N2 : Nat → Prop} {b W b0 b1 : Nat} {s : SS} {v : Value} (h : Sp w N0 N1 b W b0 b1 s) (hI : Inv22 s) (hr0 : s.t0.rd ≤ 2000000000000) (hr1 : s.t1.rd ≤ 2000000000000) (hv : Rsp w N2 v s) (hb : ¬ N2 b ∧ ¬ N2 W ∧ ¬ N2 b0 ∧ ¬ N2 b1) {pa : Option Addr} {pc : Nat} {data : List UInt8} (hd : Sl w pa (bi data)) (hdo : ∀ b' o', 0 < data.length → pa = some ⟨b', o', none⟩ → b' ≠ b ∧ b' ≠ W ∧ b' ≠ b0 ∧ b' ≠ b1) (hdl : data.length ≤ 65536) (what fr n er : Int) :
    Calls Try.prog 44 #[.pointer (some ⟨b, 0, none⟩), v, .agg #[.int .i64 what, .int .i64 fr, .slice pa data.length pc, .int .i64 n, .int .i64 er]] w (StepR22 w N0 N1 N2 b W b0 b1 (stepU s what fr n er data)) := by
  unfold stepU
  by_cases h0 : what = 0
  · subst h0
    exact step22_g h hI hr0 hr1 hv hb hd hdo hdl fr n er
  · by_cases h1 : what = 1
    · subst h1
      exact step22_w h hI hr0 hr1 hv hb hd hdo hdl fr n er
    · by_cases h2 : what = 2
      · subst h2
        exact step22_c h hI hr0 hr1 hv hb hd hdo hdl fr n er
      · rw [if_neg h0, if_neg h1, if_neg h2]
        exact step22_x h hr0 hr1 hv hb (by simpa using h0) (by simpa using h1) (by simpa using h2) fr n er

/-- A splice at b that holds s, and v, which is the reference's; the boxes in L lie apart from both; all of it is newer than w. -/
def St22 (w wr : World) (L : List Nat) (b : Nat) (s : SS) (v : Value) : Prop :=
  ∃ (W b0 b1 : Nat) (N0 N1 N2 : Nat → Prop), Sp wr N0 N1 b W b0 b1 s ∧ Rsp wr N2 v s ∧ (¬ N2 b ∧ ¬ N2 W ∧ ¬ N2 b0 ∧ ¬ N2 b1) ∧ (w.heap.size ≤ b ∧ w.heap.size ≤ W ∧ w.heap.size ≤ b0 ∧ w.heap.size ≤ b1)
    ∧ ∀ x ∈ L, ¬ N0 x ∧ ¬ N1 x ∧ ¬ N2 x ∧ x ≠ b ∧ x ≠ W ∧ x ≠ b0 ∧ x ≠ b1 ∧ w.heap.size ≤ x ∧ x < wr.heap.size
theorem St22.out {w wr wr' : World} {L : List Nat} {b : Nat} {s : SS} {v : Value} (h : St22 w wr L b s v) (f : Fr [] wr wr') (hw : w.heap.size ≤ wr.heap.size) (L' : List Nat) (hL : ∀ x ∈ L', wr.heap.size ≤ x ∧ x < wr'.heap.size) : St22 w wr' (L' ++ L) b s v := by
  obtain ⟨W, b0, b1, N0, N1, N2, hS, hR, hb, hn, hl⟩ := h
  obtain ⟨l1, l2, l3, l4⟩ := hS.lt
  have hz := f.size
  refine ⟨W, b0, b1, _, _, _, hS.out f, hR.there.keep f (by simp), ⟨fun hh => hb.1 hh.1, fun hh => hb.2.1 hh.1, fun hh => hb.2.2.1 hh.1, fun hh => hb.2.2.2 hh.1⟩, hn, fun x hx => ?_⟩
  rcases List.mem_append.1 hx with hx | hx
  · obtain ⟨k1, k2⟩ := hL x hx
    exact ⟨fun hh => by rcases hh with hh | hh <;> omega, fun hh => by rcases hh with hh | hh <;> omega, fun hh => by have := hh.2; omega, by omega, by omega, by omega, by omega, by omega, by omega⟩
  · obtain ⟨k1, k2, k3, k4, k5, k6, k7, k8, k9⟩ := hl x hx
    exact ⟨fun hh => by rcases hh with hh | hh; exact k1 hh.1; omega, fun hh => by rcases hh with hh | hh; exact k2 hh.1; omega, fun hh => k3 hh.1, k4, k5, k6, k7, k8, by omega⟩
theorem St22.keep0 {w wr wr' : World} {L : List Nat} {b : Nat} {s : SS} {v : Value} (h : St22 w wr L b s v) (f : Fr [] wr wr') : St22 w wr' L b s v := by
  obtain ⟨W, b0, b1, N0, N1, N2, hS, hR, hb, hn, hl⟩ := h
  have hz := f.size
  exact ⟨W, b0, b1, N0, N1, N2, hS.keep0 f, hR.keep f (by simp), hb, hn, fun x hx => by
    obtain ⟨k1, k2, k3, k4, k5, k6, k7, k8, k9⟩ := hl x hx
    exact ⟨k1, k2, k3, k4, k5, k6, k7, k8, by omega⟩⟩
theorem St22.set {w wr wr' : World} {L : List Nat} {b : Nat} {s : SS} {v : Value} (h : St22 w wr L b s v) {x : Nat} (hx : x ∈ L) (f : Fr [x] wr wr') : St22 w wr' L b s v := by
  obtain ⟨W, b0, b1, N0, N1, N2, hS, hR, hb, hn, hl⟩ := h
  have hz := f.size
  obtain ⟨k1, k2, k3, k4, k5, k6, k7, k8, k9⟩ := hl x hx
  exact ⟨W, b0, b1, N0, N1, N2, hS.keep f (fun y hy => by simp at hy; subst hy; exact ⟨k4, k5, k6, k7, k1, k2⟩), hR.keep f (fun y hy => by simp at hy; subst hy; exact k3), hb, hn, fun x hx => by
    obtain ⟨k1, k2, k3, k4, k5, k6, k7, k8, k9⟩ := hl x hx
    exact ⟨k1, k2, k3, k4, k5, k6, k7, k8, by omega⟩⟩
theorem St22.less {w wr : World} {L L' : List Nat} {b : Nat} {s : SS} {v : Value} (h : St22 w wr L b s v) (hL : ∀ x ∈ L', x ∈ L) : St22 w wr L' b s v := by
  obtain ⟨W, b0, b1, N0, N1, N2, hS, hR, hb, hn, hl⟩ := h
  exact ⟨W, b0, b1, N0, N1, N2, hS, hR, hb, hn, fun x hx => hl x (hL x hx)⟩
theorem St22.form {w wr : World} {L : List Nat} {b : Nat} {s : SS} {v : Value} (h : St22 w wr L b s v) : ∃ a0 k0 a1 k1, v = .agg #[.int .i64 s.t0.stage, .int .i64 s.t0.limit, .int .i64 s.t0.rd, .int .i64 s.t0.wr, .slice a0 s.t0.s.length k0, .int .i64 s.t0.r, .int .i64 s.t0.w, .int .i64 s.t1.stage, .int .i64 s.t1.limit, .int .i64 s.t1.rd, .int .i64 s.t1.wr, .slice a1 s.t1.s.length k1, .int .i64 s.t1.r, .int .i64 s.t1.w, .bool s.c0, .bool s.c1, .int .i64 s.first] := by
  obtain ⟨W, b0, b1, N0, N1, N2, hS, ⟨a0, k0, a1, k1, e, _⟩, _⟩ := h
  exact ⟨a0, k0, a1, k1, e⟩
theorem St22.is_ {w wr : World} {L : List Nat} {b : Nat} {s : SS} {v : Value} (h : St22 w wr L b s v) (hr0 : s.t0.rd ≤ 2000000000000) (hr1 : s.t1.rd ≤ 2000000000000) :
    Calls Try.prog 43 #[.pointer (some ⟨b, 0, none⟩), v] wr fun e w' => e = .returned (.bool true) ∧ Fr [] wr w' := by
  obtain ⟨W, b0, b1, N0, N1, N2, hS, hR, hb, hn, hl⟩ := h
  exact is22 hS (by omega) (by omega) hR
theorem St22.step {w wr : World} {L : List Nat} {b : Nat} {s : SS} {v : Value} (h : St22 w wr L b s v) (hI : Inv22 s) (hr0 : s.t0.rd ≤ 2000000000000) (hr1 : s.t1.rd ≤ 2000000000000) {pa : Option Addr} {pc : Nat} {data : List UInt8} (hd : Sl wr pa (bi data)) (hdo : ∀ b' o', 0 < data.length → pa = some ⟨b', o', none⟩ → b' < w.heap.size) (hdl : data.length ≤ 65536) (hw : w.heap.size ≤ wr.heap.size) (what fr n er : Int) :
    Calls Try.prog 44 #[.pointer (some ⟨b, 0, none⟩), v, .agg #[.int .i64 what, .int .i64 fr, .slice pa data.length pc, .int .i64 n, .int .i64 er]] wr fun e w' => ∃ b' v', e = .returned (.tuple #[.pointer (some ⟨b', 0, none⟩), v', .bool true]) ∧ St22 w w' L b' (stepU s what fr n er data) v' ∧ ∃ S, Fr S wr w' ∧ ∀ x ∈ S, w.heap.size ≤ x ∧ x ∉ L := by
  obtain ⟨W, b0, b1, N0, N1, N2, hS, hR, hb, hn, hl⟩ := h
  refine (step22 (pc := pc) hS hI hr0 hr1 hR hb hd (fun b' o' h0 e => by have := hdo b' o' h0 e; omega) hdl what fr n er).mono ?_
  rintro e w' ⟨b', W', b0', b1', v', rfl, f, ⟨M0, M1, hS', o0, o1⟩, ⟨M2, hR', hb', o2⟩, hp⟩
  have hz := f.size
  refine ⟨b', v', rfl, ⟨W', b0', b1', M0, M1, M2, hS', hR', hb', by omega, fun x hx => ?_⟩, _, f, fun x hx => ?_⟩
  · obtain ⟨k1, k2, k3, k4, k5, k6, k7, k8, k9⟩ := hl x hx
    exact ⟨fun hh => k1 (o0 x k9 hh), fun hh => k2 (o1 x k9 hh), fun hh => k3 (o2 x k9 hh), by omega, by omega, by omega, by omega, k8, by omega⟩
  · simp at hx
    refine ⟨by omega, fun hm => ?_⟩
    obtain ⟨k1, k2, k3, k4, k5, k6, k7, k8, k9⟩ := hl x hm
    omega
end Go.Proofs.Ytodpkdbcdbdjfaa
