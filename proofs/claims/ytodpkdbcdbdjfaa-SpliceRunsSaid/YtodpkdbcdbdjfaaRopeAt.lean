/-
  A slice of slices of bytes, and a rope, by the parts that they hold; rope.of.
-/
import Derived.Test.YtodpkdbcdbdjfaaRopeMath
import Derived.Test.YtodpkdbcdbdjfaaClone
namespace Go.Proofs.Ytodpkdbcdbdjfaa
open Go.RowKit
set_option maxRecDepth 100000

/-- A value that is a slice of bytes, in memory that N allows. -/
def PartV (w : World) (N : Nat → Prop) (v : Value) (p : List UInt8) : Prop :=
  ∃ a c, v = .slice a p.length c ∧ p.length ≤ c ∧ c ≤ maxLen ∧ Sl w a (bi p) ∧ ∀ b o, 0 < p.length → a = some ⟨b, o, none⟩ → N b
/-- A slice of such. -/
def PartsAt (w : World) (N : Nat → Prop) (a : Option Addr) (P : Parts) : Prop :=
  ∃ vs : List Value, vs.length = P.length ∧ SlV w a vs ∧ (∀ b o, 0 < P.length → a = some ⟨b, o, none⟩ → N b) ∧ ∀ (i : Nat) (p : List UInt8), P[i]? = some p → ∃ v, vs[i]? = some v ∧ PartV w N v p

theorem PartV.keep {w w' : World} {N : Nat → Prop} {v : Value} {p : List UInt8} (h : PartV w N v p) {S : List Nat} (hf : Fr S w w') (hS : ∀ x ∈ S, ¬ N x) : PartV w' N v p := by
  obtain ⟨a, c, hv, h1, h2, h3, h4⟩ := h
  exact ⟨a, c, hv, h1, h2, sl_keep h3 hf (fun h0 b o e hm => hS b hm (h4 b o (by rwa [bi_length] at h0) e)), h4⟩
theorem PartV.mono {w : World} {N N' : Nat → Prop} {v : Value} {p : List UInt8} (h : PartV w N v p) (hN : ∀ x, N x → N' x) : PartV w N' v p := by
  obtain ⟨a, c, hv, h1, h2, h3, h4⟩ := h
  exact ⟨a, c, hv, h1, h2, h3, fun b o h0 e => hN b (h4 b o h0 e)⟩
/-- What is there is older than what comes. -/
theorem PartV.there {w : World} {N : Nat → Prop} {v : Value} {p : List UInt8} (h : PartV w N v p) : PartV w (fun b => N b ∧ b < w.heap.size) v p := by
  obtain ⟨a, c, hv, h1, h2, h3, h4⟩ := h
  refine ⟨a, c, hv, h1, h2, h3, fun b o h0 e => ⟨h4 b o h0 e, ?_⟩⟩
  obtain ⟨b', o', e', hb, _⟩ := h3 (by rw [bi_length]; exact h0)
  rw [e] at e'
  injection e' with e'
  injection e' with e1
  omega
theorem PartsAt.keep {w w' : World} {N : Nat → Prop} {a : Option Addr} {P : Parts} (h : PartsAt w N a P) {S : List Nat} (hf : Fr S w w') (hS : ∀ x ∈ S, ¬ N x) : PartsAt w' N a P := by
  obtain ⟨vs, h1, h2, h3, h4⟩ := h
  exact ⟨vs, h1, h2.keep hf (fun b o h0 e hm => hS b hm (h3 b o (by omega) e)), h3, fun i p hp => let ⟨v, hv, hq⟩ := h4 i p hp; ⟨v, hv, hq.keep hf hS⟩⟩
theorem PartsAt.mono {w : World} {N N' : Nat → Prop} {a : Option Addr} {P : Parts} (h : PartsAt w N a P) (hN : ∀ x, N x → N' x) : PartsAt w N' a P := by
  obtain ⟨vs, h1, h2, h3, h4⟩ := h
  exact ⟨vs, h1, h2, fun b o h0 e => hN b (h3 b o h0 e), fun i p hp => let ⟨v, hv, hq⟩ := h4 i p hp; ⟨v, hv, hq.mono hN⟩⟩
theorem PartsAt.there {w : World} {N : Nat → Prop} {a : Option Addr} {P : Parts} (h : PartsAt w N a P) : PartsAt w (fun b => N b ∧ b < w.heap.size) a P := by
  obtain ⟨vs, h1, h2, h3, h4⟩ := h
  refine ⟨vs, h1, h2, fun b o h0 e => ⟨h3 b o h0 e, ?_⟩, fun i p hp => let ⟨v, hv, hq⟩ := h4 i p hp; ⟨v, hv, hq.there⟩⟩
  obtain ⟨b', o', e', hb, _⟩ := h2 (by omega)
  rw [e] at e'
  injection e' with e'
  injection e' with e1
  omega
theorem PartsAt.nil (w : World) (N : Nat → Prop) (a : Option Addr) : PartsAt w N a [] := ⟨[], rfl, SlV.nil _ _, by intro b o h; simp at h, by simp⟩
theorem PartsAt.at_ {w : World} {N : Nat → Prop} {a : Option Addr} {P : Parts} (h : PartsAt w N a P) {k : Nat} (hk : k < P.length) :
    ∃ b o ak ck, a = some ⟨b, o, none⟩ ∧ b < w.heap.size ∧ w.cell? ⟨b, o + k, none⟩ = some (.slice ak P[k].length ck) ∧ P[k].length ≤ ck ∧ ck ≤ maxLen ∧ Sl w ak (bi P[k]) ∧ (∀ b o, 0 < P[k].length → ak = some ⟨b, o, none⟩ → N b) := by
  obtain ⟨vs, h1, h2, h3, h4⟩ := h
  obtain ⟨b, o, rfl, hb, hc⟩ := h2 (by omega)
  obtain ⟨v, hv, ak, ck, rfl, h5, h6, h7, h8⟩ := h4 k P[k] (List.getElem?_eq_getElem hk)
  exact ⟨b, o, ak, ck, rfl, hb, (hc k (by omega)).trans hv, h5, h6, h7, h8⟩
/-- Out of a row of one's own. -/
theorem PartsAt.of_own {w : World} {N : Nat → Prop} {M : Nat} {v : Value} {vs : List Value} {P : Parts} (h : Ow w M 22 v vs) (hl : vs.length = P.length) (hp : ∀ (i : Nat) (p : List UInt8), P[i]? = some p → ∃ v, vs[i]? = some v ∧ PartV w N v p) (hN : ∀ b, M ≤ b → N b) :
    ∃ a cap, v = .slice a P.length cap ∧ P.length ≤ cap ∧ cap ≤ maxLen ∧ PartsAt w N a P := by
  obtain ⟨a, cap, hv, h1, h2, h3, h4⟩ := h.form
  rw [hl] at hv h1
  exact ⟨a, cap, hv, h1, h2, vs, hl, h3, fun b o _ e => hN b (h.lt b (h4 b o e)).1, hp⟩

/-- A rope of the parts P. -/
def Rp (w : World) (N : Nat → Prop) (v : Value) (P : Parts) : Prop :=
  ∃ a cap, v = .agg #[.slice a P.length cap, .int .i64 (tot P)] ∧ P.length ≤ cap ∧ cap ≤ maxLen ∧ PartsAt w N a P ∧ Full P ∧ P.length ≤ 1024 ∧ (tot P) ≤ 65536
theorem Rp.keep {w w' : World} {N : Nat → Prop} {v : Value} {P : Parts} (h : Rp w N v P) {S : List Nat} (hf : Fr S w w') (hS : ∀ x ∈ S, ¬ N x) : Rp w' N v P := by
  obtain ⟨a, cap, h1, h2, h3, h4, h5⟩ := h
  exact ⟨a, cap, h1, h2, h3, h4.keep hf hS, h5⟩
theorem Rp.mono {w : World} {N N' : Nat → Prop} {v : Value} {P : Parts} (h : Rp w N v P) (hN : ∀ x, N x → N' x) : Rp w N' v P := by
  obtain ⟨a, cap, h1, h2, h3, h4, h5⟩ := h
  exact ⟨a, cap, h1, h2, h3, h4.mono hN, h5⟩
theorem Rp.there {w : World} {N : Nat → Prop} {v : Value} {P : Parts} (h : Rp w N v P) : Rp w (fun b => N b ∧ b < w.heap.size) v P := by
  obtain ⟨a, cap, h1, h2, h3, h4, h5⟩ := h
  exact ⟨a, cap, h1, h2, h3, h4.there, h5⟩
def noRope : Value := .agg #[.slice none 0 0, .int .i64 0]
theorem Rp.none_ (w : World) (N : Nat → Prop) : Rp w N noRope [] := ⟨none, 0, rfl, Nat.le_refl _, by unfold maxLen; omega, PartsAt.nil _ _ _, by intro p hp; simp at hp, by simp, by simp [tot]⟩

theorem of_full {w : World} {a : Option Addr} {len cap : Nat} (h : (1024 : Int) < len) (hm : len ≤ maxLen) :
    Calls Try.prog 83 #[.slice a len cap] w fun e w' => e = .returned (.tuple #[noRope, .int .i64 7]) ∧ Fr [] w w' := by
  unfold maxLen at hm
  go_enter Try.func83, Try.ntmps83
  go_wp2_with fail
  refine bodyPost_ret (v := .tuple #[noRope, .int .i64 7]) (by simp [results, Try.results83, go_sem, noRope]) rfl ?_
  exact ⟨rfl, ((Fr.refl _ _).alloc _).alloc _⟩

def OfPost (a : Option Addr) (len cap : Nat) (P : Parts) (w : World) (e : Ending) (w' : World) : Prop :=
  Fr [] w w' ∧ if (tot P) ≤ 65536 then e = .returned (.tuple #[.agg #[.slice a len cap, .int .i64 (tot P)], .int .i64 0]) else e = .returned (.tuple #[noRope, .int .i64 5])
set_option maxHeartbeats 1000000 in
theorem of_ok {w : World} {N : Nat → Prop} {a : Option Addr} {len cap : Nat} {P : Parts} (h : PartsAt w N a P) (hl : len = P.length) (hp : ∀ p ∈ P, p.length ≤ 65537) (h1 : P.length ≤ 1024) :
    Calls Try.prog 83 #[.slice a len cap] w (OfPost a len cap P w) := by
  subst hl
  have hi : (P.length : Int) ≤ 1024 := by omega
  have HP := Lib.hid hp
  clear hp
  go_enter Try.func83, Try.ntmps83
  go_wp2_with fail
  have f0 : Fr [] w ((w.alloc (Obj.cells #[Value.slice none 0 0, Value.int IntKind.i64 0] 51)).alloc (Obj.cells #[Value.slice a (List.length P) cap, Value.int IntKind.i64 0] 51)) := ((Fr.refl _ _).alloc _).alloc _
  have b0 : ((w.alloc (Obj.cells #[Value.slice none 0 0, Value.int IntKind.i64 0] 51)).alloc (Obj.cells #[Value.slice a (List.length P) cap, Value.int IntKind.i64 0] 51)).heap[w.heap.size]? = some (.cells #[.slice none 0 0, .int .i64 0] 51 (0, 0)) := keepA (newA rfl)
  have b1 : ((w.alloc (Obj.cells #[Value.slice none 0 0, Value.int IntKind.i64 0] 51)).alloc (Obj.cells #[Value.slice a (List.length P) cap, Value.int IntKind.i64 0] 51)).heap[w.heap.size + 1]? = some (.cells #[.slice a P.length cap, .int .i64 (tot (P.take 0) : Nat)] 51 (0, 0)) := newA (by simp)
  generalize ((w.alloc (Obj.cells #[Value.slice none 0 0, Value.int IntKind.i64 0] 51)).alloc (Obj.cells #[Value.slice a (List.length P) cap, Value.int IntKind.i64 0] 51)) = W at *
  generalize hB : w.heap.size = B at *
  have hBl : w.heap.size ≤ B := by omega
  clear hB
  go_loopw [15] (fun i wr => ∃ k : Nat, k ≤ P.length ∧ i = .int .i64 k ∧ tot (P.take k) ≤ 65536 ∧ wr.heap[B]? = some (.cells #[.slice none 0 0, .int .i64 0] 51 (0, 0)) ∧ wr.heap[B + 1]? = some (.cells #[.slice a P.length cap, .int .i64 (tot (P.take k) : Nat)] 51 (0, 0)) ∧ Fr [] w wr) (fun i _ => P.length - (intOf i).toNat)
  case atStart => exact ⟨0, by omega, rfl, by simp [tot], b0, b1, f0⟩
  case round =>
    obtain ⟨k, hk, rfl, hs, q0, q1, g⟩ := hrel
    clear b0 b1 f0
    have x0 : wr.cell? ⟨B, 0, none⟩ = some (.slice none 0 0) := cell_of q0
    have x1 : wr.cell? ⟨B, 1, none⟩ = some (.int .i64 0) := cell_of q0
    have x2 : wr.frozen? ⟨B, 0, none⟩ = false := free_of q0
    have x3 : wr.frozen? ⟨B, 1, none⟩ = false := free_of q0
    have y0 : wr.cell? ⟨B + 1, 0, none⟩ = some (.slice a P.length cap) := cell_of q1
    have y1 : wr.cell? ⟨B + 1, 1, none⟩ = some (.int .i64 (tot (P.take k) : Nat)) := cell_of q1
    have y2 : wr.frozen? ⟨B + 1, 0, none⟩ = false := free_of q1
    have y3 : wr.frozen? ⟨B + 1, 1, none⟩ = false := free_of q1
    by_cases hlt : (k : Int) < P.length
    · have hlt' : k < P.length := by omega
      obtain ⟨b, o, ak, ck, rfl, _, hcell, _⟩ := (h.keep g (by simp)).at_ hlt'
      have hx := HP.out P[k] (List.getElem_mem hlt')
      have hnext := tot_take_succ hlt'
      have hle := tot_take_le P (k + 1)
      generalize P[k].length = x at *
      generalize hS : tot (P.take k) = S at *
      clear hS
      have HN := Lib.hid hnext
      have HQ := Lib.hid q1
      clear hnext q1
      by_cases hov : (S : Int) + x ≤ 65536
      · go_wp2_with fail
        go_roundw
        case rel => exact ⟨k + 1, by omega, by go_num, by rw [HN.out]; omega, keepS q0 (by simp), by rw [HN.out]; exact heap_setCell_eq (i := 1) HQ.out, g.setCell (.inr (by simp; omega)) _⟩
        case measure => simp [intOf]; omega
      · go_wp2_with fail
        obtain ⟨z0, z1⟩ := two_cells (u0 := .slice none 0 0) (u1 := .int .i64 0) (keepS (a := ⟨B + 1, 1, none⟩) (v := .int .i64 ((S : Int) + x)) q0 (by simp))
        refine bodyPost_ret (v := .tuple #[noRope, .int .i64 5]) (by simp [results, Try.results83, go_sem, noRope, z0, z1]) rfl ?_
        refine ⟨((g.setCell (.inr (by simp; omega)) _).setCell (.inr (by simp; omega)) _).setCell (.inr (by simp; omega)) _, ?_⟩
        rw [if_neg (by have := HN.out; omega)]
    · have hke : P.take k = P := List.take_of_length_le (by omega)
      rw [hke] at hs y1
      have HKE := Lib.hid hke
      clear hke
      generalize hS : (tot P) = S at *
      have HS := Lib.hid hS
      clear hS
      go_wp2_with fail
      obtain ⟨z0, z1⟩ := two_cells (u0 := .slice a P.length cap) (u1 := .int .i64 (S : Int)) q0
      refine bodyPost_ret (v := .tuple #[.agg #[.slice a P.length cap, .int .i64 S], .int .i64 0]) (by simp [results, Try.results83, go_sem, z0, z1]) rfl ?_
      refine ⟨(g.setCell (.inr (by simp; omega)) _).setCell (.inr (by simp; omega)) _, ?_⟩
      rw [if_pos (by rw [HS.out]; exact hs), HS.out]
end Go.Proofs.Ytodpkdbcdbdjfaa
