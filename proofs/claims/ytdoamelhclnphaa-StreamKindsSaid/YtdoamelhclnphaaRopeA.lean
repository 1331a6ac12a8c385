/-
  A slice of slices of bytes, and a rope, by the parts that they hold; rope.of.
-/
import Derived.Test.YtdoamelhclnphaaRopeMath
import Derived.Test.YtdoamelhclnphaaClone
import Derived.Lib.AppendZeros
import Derived.Deep.RegionHeld3
import Derived.BigRegion
namespace Go.Proofs.Ytdoamelhclnphaa
open Go.RowKit
set_option maxRecDepth 100000

/-- A value that is a slice of bytes, in memory that N allows. -/
def PartV (w : World) (N : Nat → Prop) (v : Value) (p : List UInt8) : Prop :=
  ∃ a c, v = .slice a p.length c ∧ p.length ≤ c ∧ c ≤ maxLen ∧ Sl w a (bi p) ∧ ∀ b o, 0 < p.length → a = some ⟨b, o, none⟩ → N b
/-- A slice of such. -/
def PartsAt (w : World) (N : Nat → Prop) (a : Option Addr) (P : Parts) : Prop :=
  ∃ vs : List Value, vs.length = P.length ∧ SlV w a vs ∧ (∀ b o, 0 < P.length → a = some ⟨b, o, none⟩ → N b) ∧ ∀ (i : Nat) (p : List UInt8), P[i]? = some p → ∃ v, vs[i]? = some v ∧ PartV w N v p

theorem PartV.keep {w w' : World} {N : Nat → Prop} {v : Value} {p : List UInt8} (h : PartV w N v p) {S : List Nat} (hf : Fr S w w') (hS : ∀ x ∈ S, ¬ N x) : PartV w' N v p := by
  obtain ⟨a, c, hv, h1, h2, h3, h4⟩ := h
  exact ⟨a, c, hv, h1, h2, sl_keep h3 hf (fun h0 b o e hm => hS b hm (h4 b o (by rwa [bi_length] at h0) e)), h4⟩
theorem PartV.mono {w : World} {N N' : Nat → Prop} {v : Value} {p : List UInt8} (h : PartV w N v p) (hN : ∀ x, N x → N' x) : PartV w N' v p := by
  obtain ⟨a, c, hv, h1, h2, h3, h4⟩ := h
  exact ⟨a, c, hv, h1, h2, h3, fun b o h0 e => hN b (h4 b o h0 e)⟩
/-- What is there is older than what comes. -/
theorem PartV.there {w : World} {N : Nat → Prop} {v : Value} {p : List UInt8} (h : PartV w N v p) : PartV w (fun b => N b ∧ b < w.heap.size) v p := by
  obtain ⟨a, c, hv, h1, h2, h3, h4⟩ := h
  refine ⟨a, c, hv, h1, h2, h3, fun b o h0 e => ⟨h4 b o h0 e, ?_⟩⟩
  obtain ⟨b', o', e', hb, _⟩ := h3 (by rw [bi_length]; exact h0)
  rw [e] at e'
  injection e' with e'
  injection e' with e1
  omega
theorem PartsAt.keep {w w' : World} {N : Nat → Prop} {a : Option Addr} {P : Parts} (h : PartsAt w N a P) {S : List Nat} (hf : Fr S w w') (hS : ∀ x ∈ S, ¬ N x) : PartsAt w' N a P := by
  obtain ⟨vs, h1, h2, h3, h4⟩ := h
  exact ⟨vs, h1, h2.keep hf (fun b o h0 e hm => hS b hm (h3 b o (by omega) e)), h3, fun i p hp => let ⟨v, hv, hq⟩ := h4 i p hp; ⟨v, hv, hq.keep hf hS⟩⟩
theorem PartsAt.mono {w : World} {N N' : Nat → Prop} {a : Option Addr} {P : Parts} (h : PartsAt w N a P) (hN : ∀ x, N x → N' x) : PartsAt w N' a P := by
  obtain ⟨vs, h1, h2, h3, h4⟩ := h
  exact ⟨vs, h1, h2, fun b o h0 e => hN b (h3 b o h0 e), fun i p hp => let ⟨v, hv, hq⟩ := h4 i p hp; ⟨v, hv, hq.mono hN⟩⟩
theorem PartsAt.there {w : World} {N : Nat → Prop} {a : Option Addr} {P : Parts} (h : PartsAt w N a P) : PartsAt w (fun b => N b ∧ b < w.heap.size) a P := by
  obtain ⟨vs, h1, h2, h3, h4⟩ := h
  refine ⟨vs, h1, h2, fun b o h0 e => ⟨h3 b o h0 e, ?_⟩, fun i p hp => let ⟨v, hv, hq⟩ := h4 i p hp; ⟨v, hv, hq.there⟩⟩
  obtain ⟨b', o', e', hb, _⟩ := h2 (by omega)
  rw [e] at e'
  injection e' with e'
  injection e' with e1
  omega
theorem PartsAt.nil (w : World) (N : Nat → Prop) (a : Option Addr) : PartsAt w N a [] := ⟨[], rfl, SlV.nil _ _, by intro b o h; simp at h, by simp⟩
theorem PartsAt.at_ {w : World} {N : Nat → Prop} {a : Option Addr} {P : Parts} (h : PartsAt w N a P) {k : Nat} (hk : k < P.length) :
    ∃ b o ak ck, a = some ⟨b, o, none⟩ ∧ b < w.heap.size ∧ w.cell? ⟨b, o + k, none⟩ = some (.slice ak P[k].length ck) ∧ P[k].length ≤ ck ∧ ck ≤ maxLen ∧ Sl w ak (bi P[k]) ∧ (∀ b o, 0 < P[k].length → ak = some ⟨b, o, none⟩ → N b) := by
  obtain ⟨vs, h1, h2, h3, h4⟩ := h
  obtain ⟨b, o, rfl, hb, hc⟩ := h2 (by omega)
  obtain ⟨v, hv, ak, ck, rfl, h5, h6, h7, h8⟩ := h4 k P[k] (List.getElem?_eq_getElem hk)
  exact ⟨b, o, ak, ck, rfl, hb, (hc k (by omega)).trans hv, h5, h6, h7, h8⟩
/-- Out of a row of one's own. -/
theorem PartsAt.of_own {w : World} {N : Nat → Prop} {M : Nat} {v : Value} {vs : List Value} {P : Parts} (h : Ow w M 29 v vs) (hl : vs.length = P.length) (hp : ∀ (i : Nat) (p : List UInt8), P[i]? = some p → ∃ v, vs[i]? = some v ∧ PartV w N v p) (hN : ∀ b, M ≤ b → N b) :
    ∃ a cap, v = .slice a P.length cap ∧ P.length ≤ cap ∧ cap ≤ maxLen ∧ PartsAt w N a P := by
  obtain ⟨a, cap, hv, h1, h2, h3, h4⟩ := h.form
  rw [hl] at hv h1
  exact ⟨a, cap, hv, h1, h2, vs, hl, h3, fun b o _ e => hN b (h.lt b (h4 b o e)).1, hp⟩

/-- A rope of the parts P. -/
def Rp (w : World) (N : Nat → Prop) (v : Value) (P : Parts) : Prop :=
  ∃ a cap, v = .agg #[.slice a P.length cap, .int .i64 (tot P)] ∧ P.length ≤ cap ∧ cap ≤ maxLen ∧ PartsAt w N a P ∧ Full P ∧ P.length ≤ 1024 ∧ (tot P) ≤ 65536
theorem Rp.keep {w w' : World} {N : Nat → Prop} {v : Value} {P : Parts} (h : Rp w N v P) {S : List Nat} (hf : Fr S w w') (hS : ∀ x ∈ S, ¬ N x) : Rp w' N v P := by
  obtain ⟨a, cap, h1, h2, h3, h4, h5⟩ := h
  exact ⟨a, cap, h1, h2, h3, h4.keep hf hS, h5⟩
theorem Rp.mono {w : World} {N N' : Nat → Prop} {v : Value} {P : Parts} (h : Rp w N v P) (hN : ∀ x, N x → N' x) : Rp w N' v P := by
  obtain ⟨a, cap, h1, h2, h3, h4, h5⟩ := h
  exact ⟨a, cap, h1, h2, h3, h4.mono hN, h5⟩
theorem Rp.there {w : World} {N : Nat → Prop} {v : Value} {P : Parts} (h : Rp w N v P) : Rp w (fun b => N b ∧ b < w.heap.size) v P := by
  obtain ⟨a, cap, h1, h2, h3, h4, h5⟩ := h
  exact ⟨a, cap, h1, h2, h3, h4.there, h5⟩
def noRope : Value := .agg #[.slice none 0 0, .int .i64 0]
theorem Rp.none_ (w : World) (N : Nat → Prop) : Rp w N noRope [] := ⟨none, 0, rfl, Nat.le_refl _, by unfold maxLen; omega, PartsAt.nil _ _ _, by intro p hp; simp at hp, by simp, by simp [tot]⟩

theorem of_full {w : World} {a : Option Addr} {len cap : Nat} (h : (1024 : Int) < len) (hm : len ≤ maxLen) :
    Calls Try.prog 76 #[.slice a len cap] w fun e w' => e = .returned (.tuple #[noRope, .int .i64 7]) ∧ Fr [] w w' := by
  unfold maxLen at hm
  go_enter Try.func76, Try.ntmps76
  go_wp2_with fail
  refine bodyPost_ret (v := .tuple #[noRope, .int .i64 7]) (by simp [results, Try.results76, go_sem, noRope]) rfl ?_
  exact ⟨rfl, ((Fr.refl _ _).alloc _).alloc _⟩

def OfPost (a : Option Addr) (len cap : Nat) (P : Parts) (w : World) (e : Ending) (w' : World) : Prop :=
  Fr [] w w' ∧ if (tot P) ≤ 65536 then e = .returned (.tuple #[.agg #[.slice a len cap, .int .i64 (tot P)], .int .i64 0]) else e = .returned (.tuple #[noRope, .int .i64 5])
set_option maxHeartbeats 1000000 in
theorem of_ok {w : World} {N : Nat → Prop} {a : Option Addr} {len cap : Nat} {P : Parts} (h : PartsAt w N a P) (hl : len = P.length) (hp : ∀ p ∈ P, p.length ≤ 65537) (h1 : P.length ≤ 1024) :
    Calls Try.prog 76 #[.slice a len cap] w (OfPost a len cap P w) := by
  subst hl
  have hi : (P.length : Int) ≤ 1024 := by omega
  have HP := Lib.hid hp
  clear hp
  go_enter Try.func76, Try.ntmps76
  go_wp2_with fail
  have f0 : Fr [] w ((w.alloc (Obj.cells #[Value.slice none 0 0, Value.int IntKind.i64 0] 57)).alloc (Obj.cells #[Value.slice a (List.length P) cap, Value.int IntKind.i64 0] 57)) := ((Fr.refl _ _).alloc _).alloc _
  have b0 : ((w.alloc (Obj.cells #[Value.slice none 0 0, Value.int IntKind.i64 0] 57)).alloc (Obj.cells #[Value.slice a (List.length P) cap, Value.int IntKind.i64 0] 57)).heap[w.heap.size]? = some (.cells #[.slice none 0 0, .int .i64 0] 57 (0, 0)) := keepA (newA rfl)
  have b1 : ((w.alloc (Obj.cells #[Value.slice none 0 0, Value.int IntKind.i64 0] 57)).alloc (Obj.cells #[Value.slice a (List.length P) cap, Value.int IntKind.i64 0] 57)).heap[w.heap.size + 1]? = some (.cells #[.slice a P.length cap, .int .i64 (tot (P.take 0) : Nat)] 57 (0, 0)) := newA (by simp)
  generalize ((w.alloc (Obj.cells #[Value.slice none 0 0, Value.int IntKind.i64 0] 57)).alloc (Obj.cells #[Value.slice a (List.length P) cap, Value.int IntKind.i64 0] 57)) = W at *
  generalize hB : w.heap.size = B at *
  have hBl : w.heap.size ≤ B := by omega
  clear hB
  go_loopw [15] (fun i wr => ∃ k : Nat, k ≤ P.length ∧ i = .int .i64 k ∧ tot (P.take k) ≤ 65536 ∧ wr.heap[B]? = some (.cells #[.slice none 0 0, .int .i64 0] 57 (0, 0)) ∧ wr.heap[B + 1]? = some (.cells #[.slice a P.length cap, .int .i64 (tot (P.take k) : Nat)] 57 (0, 0)) ∧ Fr [] w wr) (fun i _ => P.length - (intOf i).toNat)
  case atStart => exact ⟨0, by omega, rfl, by simp [tot], b0, b1, f0⟩
  case round =>
    obtain ⟨k, hk, rfl, hs, q0, q1, g⟩ := hrel
    clear b0 b1 f0
    have x0 : wr.cell? ⟨B, 0, none⟩ = some (.slice none 0 0) := cell_of q0
    have x1 : wr.cell? ⟨B, 1, none⟩ = some (.int .i64 0) := cell_of q0
    have x2 : wr.frozen? ⟨B, 0, none⟩ = false := free_of q0
    have x3 : wr.frozen? ⟨B, 1, none⟩ = false := free_of q0
    have y0 : wr.cell? ⟨B + 1, 0, none⟩ = some (.slice a P.length cap) := cell_of q1
    have y1 : wr.cell? ⟨B + 1, 1, none⟩ = some (.int .i64 (tot (P.take k) : Nat)) := cell_of q1
    have y2 : wr.frozen? ⟨B + 1, 0, none⟩ = false := free_of q1
    have y3 : wr.frozen? ⟨B + 1, 1, none⟩ = false := free_of q1
    by_cases hlt : (k : Int) < P.length
    · have hlt' : k < P.length := by omega
      obtain ⟨b, o, ak, ck, rfl, _, hcell, _⟩ := (h.keep g (by simp)).at_ hlt'
      have hx := HP.out P[k] (List.getElem_mem hlt')
      have hnext := tot_take_succ hlt'
      have hle := tot_take_le P (k + 1)
      generalize P[k].length = x at *
      generalize hS : tot (P.take k) = S at *
      clear hS
      have HN := Lib.hid hnext
      have HQ := Lib.hid q1
      clear hnext q1
      by_cases hov : (S : Int) + x ≤ 65536
      · go_wp2_with fail
        go_roundw
        case rel => exact ⟨k + 1, by omega, by go_num, by rw [HN.out]; omega, keepS q0 (by simp), by rw [HN.out]; exact heap_setCell_eq (i := 1) HQ.out, g.setCell (.inr (by simp; omega)) _⟩
        case measure => simp [intOf]; omega
      · go_wp2_with fail
        obtain ⟨z0, z1⟩ := two_cells (u0 := .slice none 0 0) (u1 := .int .i64 0) (keepS (a := ⟨B + 1, 1, none⟩) (v := .int .i64 ((S : Int) + x)) q0 (by simp))
        refine bodyPost_ret (v := .tuple #[noRope, .int .i64 5]) (by simp [results, Try.results76, go_sem, noRope, z0, z1]) rfl ?_
        refine ⟨((g.setCell (.inr (by simp; omega)) _).setCell (.inr (by simp; omega)) _).setCell (.inr (by simp; omega)) _, ?_⟩
        rw [if_neg (by have := HN.out; omega)]
    · have hke : P.take k = P := List.take_of_length_le (by omega)
      rw [hke] at hs y1
      have HKE := Lib.hid hke
      clear hke
      generalize hS : (tot P) = S at *
      have HS := Lib.hid hS
      clear hS
      go_wp2_with fail
      obtain ⟨z0, z1⟩ := two_cells (u0 := .slice a P.length cap) (u1 := .int .i64 (S : Int)) q0
      refine bodyPost_ret (v := .tuple #[.agg #[.slice a P.length cap, .int .i64 S], .int .i64 0]) (by simp [results, Try.results76, go_sem, z0, z1]) rfl ?_
      refine ⟨(g.setCell (.inr (by simp; omega)) _).setCell (.inr (by simp; omega)) _, ?_⟩
      rw [if_pos (by rw [HS.out]; exact hs), HS.out]
end Go.Proofs.Ytdoamelhclnphaa

namespace Go.Proofs.Ytdoamelhclnphaa
open Go.RowKit
set_option maxRecDepth 100000

/-- A slice of one's own that has gathered the parts Q, all of it in memory from M on. -/
def Gat (w : World) (M : Nat) (v : Value) (vs : List Value) (Q : Parts) : Prop :=
  Ow w M 29 v vs ∧ vs.length = Q.length ∧ ∀ (i : Nat) (p : List UInt8), Q[i]? = some p → ∃ u, vs[i]? = some u ∧ PartV w (fun b => M ≤ b ∧ v.ownBlock ≠ some b) u p
theorem Gat.nil (w : World) (M : Nat) : Gat w M (.slice none 0 0) [] [] := ⟨Ow.nil _ _ _, rfl, by simp⟩
theorem Gat.keep {w w' : World} {M : Nat} {v : Value} {vs : List Value} {Q : Parts} (h : Gat w M v vs Q) {S : List Nat} (hf : Fr S w w') (hS : ∀ x ∈ S, x < M) : Gat w' M v vs Q :=
  ⟨h.1.keep hf (fun k e hm => by have := (h.1.lt k e).1; have := hS k hm; omega), h.2.1, fun i p hp => let ⟨u, hu, hq⟩ := h.2.2 i p hp; ⟨u, hu, hq.keep hf (fun x hx hn => by have := hS x hx; omega)⟩⟩
theorem Gat.push {wr w2 w3 : World} {M : Nat} {v v' cv : Value} {vs : List Value} {Q : Parts} {p : List UInt8} (h : Gat wr M v vs Q) (f2 : Fr [] wr w2) (f3 : Fr v.ownBlock.toList w2 w3)
    (hb : v'.ownBlock = v.ownBlock ∨ v'.ownBlock = some w2.heap.size) (o3 : Ow w3 M 29 v' (vs ++ [cv])) (hp : PartV w2 (fun b => wr.heap.size ≤ b ∧ b < w2.heap.size) cv p) (hM : M ≤ wr.heap.size) : Gat w3 M v' (vs ++ [cv]) (Q ++ [p]) := by
  obtain ⟨h1, h2, h3⟩ := h
  have hs := f2.size
  refine ⟨o3, by simp [h2], fun i q hq => ?_⟩
  rcases Nat.lt_or_ge i Q.length with hi | hi
  · rw [List.getElem?_append_left hi] at hq
    obtain ⟨u, hu, hv⟩ := h3 i q hq
    refine ⟨u, by rw [List.getElem?_append_left (by omega)]; exact hu, ?_⟩
    refine (((hv.there.keep f2 (by simp)).keep f3 ?_).mono ?_)
    · rintro x hx ⟨⟨_, hn⟩, _⟩
      exact hn (by simpa using hx)
    · rintro x ⟨⟨hx, hn⟩, hlt⟩
      refine ⟨hx, ?_⟩
      rcases hb with e | e
      · rw [e]; exact hn
      · rw [e]; intro e'; injection e' with e'; omega
  · rw [List.getElem?_append_right hi] at hq
    have hi0 : i - Q.length = 0 := by
      rcases Nat.eq_zero_or_pos (i - Q.length) with h | h
      · exact h
      · rw [List.getElem?_eq_none (by simp; omega)] at hq; cases hq
    rw [hi0] at hq
    simp only [List.getElem?_cons_zero, Option.some.injEq] at hq
    subst hq
    refine ⟨cv, by rw [List.getElem?_append_right (by omega), show i - vs.length = 0 from by omega]; rfl, ?_⟩
    refine (hp.keep f3 ?_).mono ?_
    · rintro x hx ⟨h1', _⟩
      have := (h1.lt x (by simpa using hx)).2
      omega
    · rintro x ⟨hx, hlt⟩
      refine ⟨by omega, ?_⟩
      rcases hb with e | e
      · rw [e]; intro e'; have := (h1.lt x e').2; omega
      · rw [e]; intro e'; injection e' with e'; omega
theorem Gat.parts {w : World} {M : Nat} {v : Value} {vs : List Value} {Q : Parts} (h : Gat w M v vs Q) : ∃ a cap, v = .slice a Q.length cap ∧ Q.length ≤ cap ∧ cap ≤ maxLen ∧ PartsAt w (fun b => M ≤ b) a Q :=
  PartsAt.of_own h.1 h.2.1 (fun i p hp => let ⟨u, hu, hv⟩ := h.2.2 i p hp; ⟨u, hu, hv.mono fun _ hx => hx.1⟩) (fun _ h => h)
theorem Gat.one {w : World} {M : Nat} {v : Value} {vs : List Value} {Q : Parts} (h : Gat w M v vs Q) : ∀ u ∈ vs, u.oneCell' = true := by
  intro u hu
  obtain ⟨i, hi, rfl⟩ := List.getElem_of_mem hu
  have hq : i < Q.length := by have := h.2.1; omega
  obtain ⟨u', hu', a, c, rfl, _⟩ := h.2.2 i Q[i] (List.getElem?_eq_getElem hq)
  rw [List.getElem?_eq_getElem hi] at hu'
  injection hu' with hu'
  rw [hu']
  rfl

/-- A clone is a part in new memory. -/
theorem PartV.of_ow {w w1 : World} {v : Value} {p : List UInt8} (h : Ow w1 w.heap.size 5 v ((bi p).map (Value.int .u8))) : PartV w1 (fun b => w.heap.size ≤ b ∧ b < w1.heap.size) v p := by
  obtain ⟨a, cap, hv, h1, h2, h3, h4⟩ := h.formB
  refine ⟨a, cap, hv, h1, h2, h3, fun b o h0 e => ⟨h4 b o e, ?_⟩⟩
  obtain ⟨b', o', e', hb, _⟩ := h3 (by rw [bi_length]; exact h0)
  rw [e] at e'
  injection e' with e'
  injection e' with e1
  omega

def NewPost (P : Parts) (w : World) (e : Ending) (w' : World) : Prop :=
  Fr [] w w' ∧ if 1024 < (own P).length then e = .returned (.tuple #[noRope, .int .i64 7]) else if 65536 < tot P then e = .returned (.tuple #[noRope, .int .i64 5]) else ∃ v, e = .returned (.tuple #[v, .int .i64 0]) ∧ Rp w' (fun b => w.heap.size ≤ b) v (own P)

set_option maxHeartbeats 2000000 in
theorem rope_new {w : World} {N : Nat → Prop} {a : Option Addr} {len cap : Nat} {P : Parts} (h : PartsAt w N a P) (hl : len = P.length) (hm : len ≤ maxLen) :
    Calls Try.prog 28 #[.slice a len cap] w (NewPost P w) := by
  subst hl
  unfold maxLen at hm
  have hi : (P.length : Int) ≤ 9223372036854775807 := by omega
  go_enter Try.func28, Try.ntmps28
  go_wp2_with fail
  have f0 : Fr [] w (w.alloc (Obj.cells #[Value.slice none 0 0, Value.int IntKind.i64 0] 57)) := (Fr.refl _ _).alloc _
  have b0 : (w.alloc (Obj.cells #[Value.slice none 0 0, Value.int IntKind.i64 0] 57)).heap[w.heap.size]? = some (.cells #[.slice none 0 0, .int .i64 0] 57 (0, 0)) := newA rfl
  have s0 : w.heap.size < (w.alloc (Obj.cells #[Value.slice none 0 0, Value.int IntKind.i64 0] 57)).heap.size := by simp
  generalize (w.alloc (Obj.cells #[Value.slice none 0 0, Value.int IntKind.i64 0] 57)) = W at *
  generalize hB : w.heap.size = B at *
  have hBl : w.heap.size ≤ B := by omega
  clear hB
  go_loopw [4, 9] (fun v i wr => ∃ (k : Nat) (vs : List Value), k ≤ P.length ∧ i = .int .i64 k ∧ Gat wr W.heap.size v vs (gath P k) ∧ wr.heap[B]? = some (.cells #[.slice none 0 0, .int .i64 0] 57 (0, 0)) ∧ Fr [] w wr ∧ W.heap.size ≤ wr.heap.size) (fun _ i _ => P.length - (intOf i).toNat)
  case atStart => exact ⟨0, [], by omega, rfl, Gat.nil _ _, b0, f0, Nat.le_refl _⟩
  case round =>
    obtain ⟨k, vs, hk, rfl, gt, q0, g, hW⟩ := hrel
    clear b0 f0
    by_cases hlt : (k : Int) < P.length
    · have hlt' : k < P.length := by omega
      obtain ⟨b, o, ak, ck, rfl, hbl, hcell, hc1, hc2, hsl, _⟩ := (h.keep g (by simp)).at_ hlt'
      have hgs := Lib.hid (gath_succ hlt')
      have hsl2 : Sl wr ak (bi (P[k].take 65537)) := by rw [bi_take]; exact hsl.take _
      have hpk : (P[k].take 65537).length = min 65537 P[k].length := by simp
      have hxm : (P[k].length : Int) ≤ 9223372036854775807 := by unfold maxLen at hc2; omega
      have hxc : (P[k].length : Int) ≤ ck := by omega
      obtain ⟨ga, gc, rfl, _, _, _⟩ := gt.parts
      have hone := gt.one
      have hvl := gt.2.1
      generalize P[k].length = x at *
      generalize hq : P[k].take 65537 = q at *
      have hgl := gath_len P k
      generalize hG : gath P k = G at *
      clear hq hG hsl
      by_cases h0 : x = 0
      · subst h0
        have hgs' : gath P (k + 1) = G := by rw [hgs.out, if_neg (by omega)]
        have HGS := Lib.hid hgs'
        clear hgs hgs' hpk
        go_wp2_with fail
        go_roundw
        case rel => exact ⟨k + 1, vs, by omega, by go_num, by rw [HGS.out]; exact gt, q0, g, hW⟩
        case measure => simp [intOf]; omega
      by_cases h2 : (1024 : Int) < List.length G
      · have hgs' : gath P (k + 1) = G := by rw [hgs.out, if_neg (by omega)]
        have HGS := Lib.hid hgs'
        clear hgs hgs' hpk
        by_cases h1 : (65536 : Int) < x
        all_goals
          go_wp2_with fail
          go_roundw
          case rel => exact ⟨k + 1, vs, by omega, by go_num, by rw [HGS.out]; exact gt, q0, g, hW⟩
          case measure => simp [intOf]; omega
      have hgs' : gath P (k + 1) = G ++ [q] := by rw [hgs.out, if_pos (by omega)]
      have HGS := Lib.hid hgs'
      have h2' : (List.length G : Int) ≤ 1024 := by omega
      have h0' : (0 : Int) < x := by omega
      clear hgs hgs' h0 h2
      obtain ⟨b1, o1, rfl, hb1, _⟩ := hsl2 (by rw [bi_length]; omega)
      have HC : Hid (∀ (L : Nat) w', L = q.length → Fr [] wr w' → Calls Try.prog 75 #[.slice (some ⟨b1, o1, none⟩) L ck] w' fun e w2 => ∃ v, e = .returned v ∧ Fr [] w' w2 ∧ Ow w2 w'.heap.size 5 v ((bi q).map (Value.int .u8))) :=
        Lib.hid fun L w' hL hf => bytes_clone (sl_keep hsl2 hf (by simp)) hL (by omega)
      have HP := Lib.hid hpk
      have HU : Hid (Try.prog.underlying 53 = some (.slice 29)) := Lib.hid Try.underlying53
      have HIN : Hid ((Try.prog.info? 29).map (fun i => (i.zero, i.size, i.bytes)) = some (some (.slice none 0 0), 1, 24)) := Lib.hid (by kernel_rfl)
      have H3 : Hid (vs.length + 1 ≤ maxLen) := Lib.hid (by unfold maxLen; omega)
      have H4 : Hid ((vs.length + 1) * 24 ≤ 140737488355328) := Lib.hid (by omega)
      clear hpk hsl2 hone hvl
      by_cases h1 : (65536 : Int) < x
      all_goals
        go_wp2_with fail
        refine (HC.out _ _ (by rw [HP.out]; omega) (Fr.refl _ _)).mono ?_
        rintro e w1 ⟨cv, rfl, f1, o1'⟩
        have gt1 := gt.keep f1 (by simp)
        have pv := PartV.of_ow o1'
        obtain ⟨ca, cc, rfl, _⟩ := pv
        have pv := PartV.of_ow o1'
        have hs1 := f1.size
        clear o1' HC
        have HG := Lib.hid (gt1.keep ((Fr.refl [] w1).alloc (.cells #[.slice ca q.length cc] 29)) (by simp)).1
        have hWs : W.heap.size ≤ (w1.alloc (.cells #[.slice ca q.length cc] 29)).heap.size := by simp; omega
        go_wp2_with (refine wpList_append_fr _ rfl (.tmp 26) (.tmp 29) 53 rfl 29 (.slice none 0 0) 24 HU.out HIN.out rfl W.heap.size (.slice ga (List.length G) gc) vs (by exact rfl) HG.out (some ⟨w1.heap.size, 0, none⟩) 1 1 [.slice ca q.length cc] (by exact rfl) rfl (SlV.box _ _ _) (one_slice _ _ _) H3.out H4.out hWs ?_)
        intro v' w3 o3 f3 hb
        have hown : ∀ k, (Value.slice ga (List.length G) gc).ownBlock = some k → B < k := fun k e => by have := (gt.1.lt k e).1; omega
        have gt3 := gt.push (f1.alloc _) f3 (by simpa using hb) o3.out ((pv.keep ((Fr.refl [] w1).alloc _) (by simp)).mono (fun x hx => ⟨hx.1, by simp; omega⟩)) hW
        have g3 : Fr [] w w3 := ((g.then0 f1).alloc _).own f3 (fun k e => .inr (by have := hown k e; omega))
        have q3 : w3.heap[B]? = some (.cells #[.slice none 0 0, .int .i64 0] 57 (0, 0)) := f3.keep (keepA (f1.keep q0 (by simp))) (fun hm => by have := hown B (by simpa using hm); omega)
        have hW3 : W.heap.size ≤ w3.heap.size := Nat.le_trans hWs f3.size
        clear o3 f3 hb hown gt1 pv HG hWs
        go_wp2_with fail
        go_roundw
        case rel => exact ⟨k + 1, _, by omega, by go_num, by rw [HGS.out]; exact gt3, q3, g3, hW3⟩
        case measure => simp [intOf]; omega
    · have hkk : k = P.length := by omega
      subst hkk
      obtain ⟨ga, gc, rfl, hgc, hgm, hpa⟩ := gt.parts
      have x0 : wr.cell? ⟨B, 0, none⟩ = some (.slice none 0 0) := cell_of q0
      have x1 : wr.cell? ⟨B, 1, none⟩ = some (.int .i64 0) := cell_of q0
      have x2 : wr.frozen? ⟨B, 0, none⟩ = false := free_of q0
      have x3 : wr.frozen? ⟨B, 1, none⟩ = false := free_of q0
      have hmany := gath_many P
      have hfl := fun h => gath_flat (P := P) h
      have hgo := fun h => gath_own (P := P) h
      have hfull := gath_full P P.length
      have hpart := gath_part P P.length
      have hgl := gath_len P P.length
      generalize gath P P.length = G at *
      have HF := Lib.hid hfl
      have HGO := Lib.hid hgo
      have HFU := Lib.hid hfull
      clear hfl hgo hfull h
      by_cases hc : 1024 < (own P).length
      · have HC := Lib.hid hc
        have hG : (1024 : Int) < List.length G := by have := hmany.2 hc; omega
        clear hmany hc
        go_wp2_with fail
        refine (of_full hG (Nat.le_trans hgc hgm)).mono ?_
        rintro e w2 ⟨rfl, f2⟩
        have q2 := f2.keep q0 (by simp)
        have y0 : w2.cell? ⟨B, 0, none⟩ = some (.slice none 0 0) := cell_of q2
        have y1 : w2.cell? ⟨B, 1, none⟩ = some (.int .i64 0) := cell_of q2
        have y2 : w2.frozen? ⟨B, 0, none⟩ = false := free_of q2
        have y3 : w2.frozen? ⟨B, 1, none⟩ = false := free_of q2
        obtain ⟨z0, z1⟩ := two_cells (u0 := .slice none 0 0) (u1 := .int .i64 0) q2
        unfold noRope
        go_wp2_with fail
        refine bodyPost_ret (v := .tuple #[noRope, .int .i64 7]) (by simp [results, Try.results28, go_sem, noRope, z0, z1]) rfl ?_
        refine ⟨((g.then0 f2).setCell (.inr (by simp; omega)) _).setCell (.inr (by simp; omega)) _, ?_⟩
        rw [if_pos HC.out]
      · have HC := Lib.hid hc
        have hG : List.length G ≤ 1024 := by rcases Nat.lt_or_ge 1024 (List.length G) with h | h; exact absurd (hmany.1 h) hc; exact h
        have hflat := HF.out (by omega)
        clear hmany hc
        have HFL := Lib.hid hflat
        clear hflat
        go_wp2_with fail
        refine (of_ok hpa rfl hpart hG).mono ?_
        rintro e w2 ⟨f2, he⟩
        have q2 := f2.keep q0 (by simp)
        have y0 : w2.cell? ⟨B, 0, none⟩ = some (.slice none 0 0) := cell_of q2
        have y1 : w2.cell? ⟨B, 1, none⟩ = some (.int .i64 0) := cell_of q2
        have y2 : w2.frozen? ⟨B, 0, none⟩ = false := free_of q2
        have y3 : w2.frozen? ⟨B, 1, none⟩ = false := free_of q2
        have hpa2 := hpa.keep f2 (by simp)
        by_cases hs : (tot G) ≤ 65536
        · rw [if_pos hs] at he
          have HS := Lib.hid hs
          subst he
          obtain ⟨z0, z1⟩ := two_cells (u0 := .slice ga (List.length G) gc) (u1 := .int .i64 ((tot G) : Nat)) q2
          clear hs
          go_wp2_with fail
          refine bodyPost_ret (v := .tuple #[.agg #[.slice ga (List.length G) gc, .int .i64 ((tot G) : Nat)], .int .i64 0]) (by simp [results, Try.results28, go_sem, z0, z1]) rfl ?_
          have fr : Fr [] w ((w2.setCell ⟨B, 0, none⟩ (.slice ga (List.length G) gc)).setCell ⟨B, 1, none⟩ (.int .i64 ((tot G) : Nat))) := ((g.then0 f2).setCell (.inr (by simp; omega)) _).setCell (.inr (by simp; omega)) _
          have hpa3 := hpa2.keep (((Fr.refl [B] w2).setCell (p := ⟨B, 0, none⟩) (.inl (by simp)) (.slice ga (List.length G) gc)).setCell (p := ⟨B, 1, none⟩) (.inl (by simp)) (.int .i64 ((tot G) : Nat))) (by simp; omega)
          refine ⟨fr, ?_⟩
          have hfp := HFL.out.1 HS.out
          have hGP := HGO.out (by have := HC.out; omega) hfp
          rw [if_neg HC.out, if_neg (by unfold tot at *; omega)]
          subst hGP
          exact ⟨_, rfl, ga, gc, rfl, hgc, hgm, hpa3.mono (fun x hx => by omega), HFU.out, hG, HS.out⟩
        · rw [if_neg hs] at he
          have HS := Lib.hid hs
          subst he
          obtain ⟨z0, z1⟩ := two_cells (u0 := .slice none 0 0) (u1 := .int .i64 0) q2
          unfold noRope
          clear hs
          go_wp2_with fail
          refine bodyPost_ret (v := .tuple #[noRope, .int .i64 5]) (by simp [results, Try.results28, go_sem, noRope, z0, z1]) rfl ?_
          refine ⟨((g.then0 f2).setCell (.inr (by simp; omega)) _).setCell (.inr (by simp; omega)) _, ?_⟩
          rw [if_neg HC.out, if_pos (by rcases Nat.lt_or_ge 65536 (tot P) with h | h; exact h; exact absurd (HFL.out.2 h) HS.out)]
end Go.Proofs.Ytdoamelhclnphaa

namespace Go.Proofs.Ytdoamelhclnphaa
open Go.RowKit
set_option maxRecDepth 100000

theorem grow_bytes {w : World} (n : Nat) (hn : n ≤ 1000000) :
    Calls Try.prog 124 #[.slice none 0 0, .int .i64 n] w fun e w' => ∃ v, e = .returned v ∧ Fr [] w w' ∧ Ow w' w.heap.size 5 v [] := by
  rcases Nat.eq_zero_or_pos n with h0 | h0
  · subst h0
    go_enter Try.func124, Try.ntmps124
    go_wp2_with fail
    go_ret
    exact ⟨_, rfl, Fr.refl _ _, Ow.nil _ _ _⟩
  · obtain ⟨i, hi, hz, hs, hby⟩ : ∃ i, Try.prog.info? 5 = some i ∧ i.zero = some (.int .u8 0) ∧ i.size = 1 ∧ i.bytes = 1 := by
      have hinfo : (Try.prog.info? 5).map (fun i => (i.zero, i.size, i.bytes)) = some (some (.int .u8 0), 1, 1) := by kernel_rfl
      cases h : Try.prog.info? 5 with
      | none => simp [h] at hinfo
      | some i => simp [h] at hinfo; exact ⟨i, rfl, hinfo.1, hinfo.2.1, hinfo.2.2⟩
    have hrun := Lib.run_append_nil_zeros (P := Try.prog) w 29 3 29 5 i (.int .u8 0) .i64 .i64 Try.underlying29 Try.underlying3 hi hz n h0 (by omega) (by omega) (by rw [hby]; omega)
    have hge : n ≤ grownCap w n 0 5 := grownCap_ge _ _ _ _
    have hmx : grownCap w n 0 5 ≤ maxLen := grownCap_le_maxLen _ _ _ _ (by unfold maxLen; omega)
    generalize grownCap w n 0 5 = C at hrun hge hmx
    have hn' : (0 : Int) < n := by omega
    have HR := Lib.hid hrun
    clear hi hz hs hby hrun
    go_enter Try.func124, Try.ntmps124
    go_wp2_with (at_builtin; refine Lib.wpList_append_run _ rfl (.tmp 20) (.tmp 21) 29 3 rfl (.slice none 0 0) (.int .i64 n) rfl rfl _ _ HR.out ?_)

    go_ret
    refine ⟨_, rfl, (Fr.refl _ _).drew.alloc _, by simp, .inr ⟨w.heap.size, C, _, rfl, Nat.le_refl _, newA (w := w.drew) rfl, Nat.zero_le _, hmx, ?_, by simp⟩⟩
    simp [Builtin.zeroCells, Value.cells]
    omega

set_option maxHeartbeats 1000000 in
theorem concat_bytes {w : World} {N : Nat → Prop} {a : Option Addr} {len cap : Nat} {P : Parts} (h : PartsAt w N a P) (hl : len = P.length) (hm : P.length ≤ 1000000) (ht : tot P ≤ 1000000) :
    Calls Try.prog 116 #[.slice a len cap] w fun e w' => ∃ v, e = .returned v ∧ Fr [] w w' ∧ Ow w' w.heap.size 5 v ((bi P.flatten).map (Value.int .u8)) := by
  subst hl
  have hi : (P.length : Int) ≤ 1000000 := by omega
  have HU : Hid (Try.prog.underlying 29 = some (.slice 5)) := Lib.hid Try.underlying29
  have HIN : Hid ((Try.prog.info? 5).map (fun i => (i.zero, i.size, i.bytes)) = some (some (.int .u8 0), 1, 1)) := Lib.hid (by kernel_rfl)
  go_enter Try.func116, Try.ntmps116
  go_wp2_with fail
  go_loop [3, 11] (fun s i => ∃ k : Nat, k ≤ P.length ∧ i = .int .i64 k ∧ s = .int .i64 (tot (P.take k) : Nat)) (fun _ i => P.length - (intOf i).toNat)
  case atStart => exact ⟨0, by omega, rfl, rfl⟩
  case round =>
    obtain ⟨k, hk, rfl, rfl⟩ := hrel
    by_cases hlt : (k : Int) < P.length
    · have hlt' : k < P.length := by omega
      obtain ⟨b, o, ak, ck, rfl, _, hcell, _⟩ := h.at_ hlt'
      have hnext := tot_take_succ hlt'
      have hle := tot_take_le P (k + 1)
      generalize P[k].length = x at *
      have HN := Lib.hid hnext
      generalize tot (P.take k) = S at *
      have hsx : (S : Int) + x ≤ 1000000 := by omega
      have hsx' : ((S : Int) + x < 0) = False := by simp; omega
      clear hnext
      go_wp2_with fail
      go_round
      case rel => exact ⟨k + 1, by omega, by go_num, by rw [HN.out]; go_num⟩
      case measure => simp [intOf]; omega
    · have hke : P.take k = P := List.take_of_length_le (by omega)
      rw [hke]
      have htt : (0 : Int) ≤ (tot P : Nat) := by omega
      clear hke
      go_wp2_with fail
      refine (grow_bytes (tot P) ht).mono ?_
      rintro e w1 ⟨v, rfl, f1, o1⟩
      go_wp2_with fail
      go_loopw [6, 27] (fun v i wr => ∃ k : Nat, k ≤ P.length ∧ i = .int .i64 k ∧ Ow wr w.heap.size 5 v ((bi (P.take k).flatten).map (Value.int .u8)) ∧ Fr [] w wr) (fun _ i _ => P.length - (intOf i).toNat)
      case atStart => exact ⟨0, by omega, rfl, o1, f1⟩
      case round =>
        obtain ⟨k, hk, rfl, ow, g⟩ := hrel
        clear o1 f1
        by_cases hlt : (k : Int) < P.length
        · have hlt' : k < P.length := by omega
          obtain ⟨b, o, ak, ck, rfl, _, hcell, hc1, hc2, hsl, _⟩ := (h.keep g (by simp)).at_ hlt'
          have hnext : (P.take (k + 1)).flatten = (P.take k).flatten ++ P[k] := by
            rw [List.take_succ_eq_append_getElem hlt', List.flatten_append]
            simp
          have hle := tot_take_le P (k + 1)
          rw [tot_take_succ hlt'] at hle
          have hlen : ((bi (P.take k).flatten).map (Value.int .u8)).length = tot (P.take k) := by rw [List.length_map, bi_length]; rfl
          generalize P[k] = p at *
          generalize (P.take k).flatten = F at *
          have HN := Lib.hid hnext
          have H3 : Hid (((bi F).map (Value.int .u8)).length + p.length ≤ maxLen) := Lib.hid (by rw [hlen]; unfold maxLen; omega)
          have H4 : Hid ((((bi F).map (Value.int .u8)).length + p.length) * 1 ≤ 140737488355328) := Lib.hid (by rw [hlen]; omega)
          have H5 : Hid (((bi p).map (Value.int .u8)).length = p.length) := Lib.hid (by simp [bi_length])
          have HO := Lib.hid (bytes_one (bi p))
          have HS := Lib.hid hsl.toV
          have hW := g.size
          have HOW := Lib.hid ow
          have hob := ow.lt
          obtain ⟨ga, gc, rfl, _⟩ := ow.formB
          clear hnext hlen hsl hle ow
          go_wp2_with (refine wpList_append_fr _ rfl (.tmp 31) (.tmp 32) 29 rfl 5 (.int .u8 0) 1 HU.out HIN.out rfl w.heap.size _ _ (by exact rfl) HOW.out ak p.length ck _ (by exact rfl) H5.out HS.out HO.out H3.out H4.out hW ?_)
          intro v' w3 o3 f3 _
          have g3 : Fr [] w w3 := g.own f3 (fun k e => .inr (hob k e).1)
          clear hob
          go_wp2_with fail
          go_roundw
          case rel => exact ⟨k + 1, by omega, by go_num, by rw [HN.out, bi_append, List.map_append]; exact o3.out, g3⟩
          case measure => simp [intOf]; omega
        · have hke : P.take k = P := List.take_of_length_le (by omega)
          rw [hke] at ow
          clear hke
          have HOW := Lib.hid ow
          clear ow
          go_wp2_with fail
          go_ret
          exact ⟨_, rfl, g, HOW.out⟩

theorem rope_bytes {w : World} {N : Nat → Prop} {v : Value} {P : Parts} (h : Rp w N v P) :
    Calls Try.prog 89 #[v] w fun e w' => ∃ u, e = .returned u ∧ Fr [] w w' ∧ Ow w' w.heap.size 5 u ((bi P.flatten).map (Value.int .u8)) := by
  obtain ⟨a, cap, rfl, h1, h2, h3, _, h5, h6⟩ := h
  have HC : Hid (∀ o, Calls Try.prog 116 #[.slice a P.length cap] (w.alloc o) fun e w' => ∃ v, e = .returned v ∧ Fr [] (w.alloc o) w' ∧ Ow w' (w.alloc o).heap.size 5 v ((bi P.flatten).map (Value.int .u8))) :=
    Lib.hid fun o => concat_bytes (h3.keep ((Fr.refl [] w).alloc o) (by simp)) rfl (by omega) (by omega)
  clear h3
  go_enter Try.func89, Try.ntmps89
  go_wp2_with fail
  refine (HC.out _).mono ?_
  rintro e w1 ⟨u, rfl, f1, o1⟩
  go_wp2_with fail
  go_ret
  exact ⟨_, rfl, ((Fr.refl [] w).alloc _).then0 f1, o1.mono (by simp)⟩
theorem rope_len {w : World} {N : Nat → Prop} {v : Value} {P : Parts} (h : Rp w N v P) :
    Calls Try.prog 57 #[v] w fun e w' => e = .returned (.int .i64 (tot P)) ∧ Fr [] w w' := by
  obtain ⟨a, cap, rfl, _⟩ := h
  go_enter Try.func57, Try.ntmps57
  go_wp2_with fail
  go_ret
  exact ⟨rfl, (Fr.refl _ _).alloc _⟩
end Go.Proofs.Ytdoamelhclnphaa

namespace Go.Proofs.Ytdoamelhclnphaa
open Go.RowKit
set_option maxRecDepth 100000

theorem take_bad {w : World} {N : Nat → Prop} {v : Value} {P : Parts} (h : Rp w N v P) {most : Int} (hm : most < 0) :
    Calls Try.prog 99 #[v, .int .i64 most] w fun e w' => e = .returned (.tuple #[noRope, noRope, .int .i64 2]) ∧ Fr [] w w' := by
  obtain ⟨a, cap, rfl, _⟩ := h
  go_enter Try.func99, Try.ntmps99
  go_wp2_with fail
  refine bodyPost_ret (v := .tuple #[noRope, noRope, .int .i64 2]) (by simp [results, Try.results99, go_sem, noRope]) rfl ?_
  exact ⟨rfl, (((Fr.refl _ _).alloc _).alloc _).alloc _⟩

theorem take_all {w : World} {N : Nat → Prop} {v : Value} {P : Parts} (h : Rp w N v P) {most : Int} (h0 : 0 ≤ most) (hm : (tot P : Int) ≤ most) :
    Calls Try.prog 99 #[v, .int .i64 most] w fun e w' => e = .returned (.tuple #[v, noRope, .int .i64 0]) ∧ Fr [] w w' := by
  obtain ⟨a, cap, rfl, _⟩ := h
  go_enter Try.func99, Try.ntmps99
  go_wp2_with fail
  refine bodyPost_ret (v := .tuple #[.agg #[.slice a P.length cap, .int .i64 (tot P)], noRope, .int .i64 0]) (by simp [results, Try.results99, go_sem, noRope]) rfl ?_
  exact ⟨rfl, (((Fr.refl _ _).alloc _).alloc _).alloc _⟩

theorem cutp_gen {b o m l : Nat} (h : m ≠ l) : cutp (some ⟨b, o, none⟩) m l = some ⟨b, o + l, none⟩ := by
  unfold cutp
  rw [if_neg h, Option.map_some, addr_add]
theorem run_upto {pa : Option Addr} {plen pcap h : Nat} (hh : h ≤ plen) (hc : plen ≤ pcap) (w : World) :
    (Instr.slice 29 (.slice pa plen pcap) none (some (.int .i64 h)) none).run Try.prog w = .ok (.slice pa h pcap) w := by
  have hs : ∀ w, (sizeOf (Try.prog.elem 29)).run Try.prog w = .ok 1 w := fun _ => by kernel_rfl
  rw [run_slice_h (P := Try.prog) (w := w) (t := 29) (a := pa) (len := plen) (cap := pcap) (by kernel_rfl) .i64 (h : Int) (by omega) (by omega), hs]
  simp [Result.andThen, sliced]
  intro _
  cases pa <;> simp [Addr.add]
theorem rp_of_own {w : World} {N N' : Nat → Prop} {M : Nat} {v : Value} {vs : List Value} {Q : Parts} (h : Ow w M 29 v vs) (hl : vs.length = Q.length) (hp : ∀ (i : Nat) (p : List UInt8), Q[i]? = some p → ∃ u, vs[i]? = some u ∧ PartV w N u p) (hN : ∀ b, M ≤ b → N' b) (hNN : ∀ b, N b → N' b)
    (hf : Full Q) (h1 : Q.length ≤ 1024) (h2 : tot Q ≤ 65536) (m : Nat) (hm : tot Q = m) : Rp w N' (.agg #[v, .int .i64 m]) Q := by
  obtain ⟨a, cap, rfl, h3, h4, h5⟩ := PartsAt.of_own (N := N') h hl (fun i p hi => let ⟨u, hu, hq⟩ := hp i p hi; ⟨u, hu, hq.mono hNN⟩) hN
  subst hm
  exact ⟨a, cap, rfl, h3, h4, h5, hf, h1, h2⟩
theorem tot_cutF (P : Parts) {m : Nat} (h : m ≤ tot P) : tot (cutF P m) = m := by unfold tot at *; rw [cutF_flat, List.length_take]; omega
theorem tot_cutR (P : Parts) (m : Nat) : tot (cutR P m) = tot P - m := by unfold tot; rw [cutR_flat, List.length_drop]
/-- The parts behind a change elsewhere. -/
theorem parts_keep {w w' : World} {N : Nat → Prop} {vs : List Value} {P : Parts} (h : ∀ (i : Nat) (p : List UInt8), P[i]? = some p → ∃ u, vs[i]? = some u ∧ PartV w N u p) {S : List Nat} (hf : Fr S w w') (hS : ∀ x ∈ S, ¬ N x) : ∀ (i : Nat) (p : List UInt8), P[i]? = some p → ∃ u, vs[i]? = some u ∧ PartV w' N u p :=
  fun i p hi => let ⟨u, hu, hq⟩ := h i p hi; ⟨u, hu, hq.keep hf hS⟩
theorem parts_take {w : World} {N : Nat → Prop} {vs : List Value} {P : Parts} (h : ∀ (i : Nat) (p : List UInt8), P[i]? = some p → ∃ u, vs[i]? = some u ∧ PartV w N u p) (k : Nat) : ∀ (i : Nat) (p : List UInt8), (P.take k)[i]? = some p → ∃ u, (vs.take k)[i]? = some u ∧ PartV w N u p :=
  fun i p hi => by
    rw [List.getElem?_take] at hi
    split at hi
    · obtain ⟨u, hu, hq⟩ := h i p hi
      exact ⟨u, by rw [List.getElem?_take, if_pos ‹_›]; exact hu, hq⟩
    · cases hi
theorem parts_drop {w : World} {N : Nat → Prop} {vs : List Value} {P : Parts} (h : ∀ (i : Nat) (p : List UInt8), P[i]? = some p → ∃ u, vs[i]? = some u ∧ PartV w N u p) (k : Nat) : ∀ (i : Nat) (p : List UInt8), (P.drop k)[i]? = some p → ∃ u, (vs.drop k)[i]? = some u ∧ PartV w N u p :=
  fun i p hi => by
    rw [List.getElem?_drop] at hi
    obtain ⟨u, hu, hq⟩ := h _ p hi
    exact ⟨u, by rw [List.getElem?_drop]; exact hu, hq⟩
theorem parts_snoc {w : World} {N : Nat → Prop} {vs : List Value} {P : Parts} {v : Value} {q : List UInt8} (h : ∀ (i : Nat) (p : List UInt8), P[i]? = some p → ∃ u, vs[i]? = some u ∧ PartV w N u p) (hl : vs.length = P.length) (hv : PartV w N v q) : ∀ (i : Nat) (p : List UInt8), (P ++ [q])[i]? = some p → ∃ u, (vs ++ [v])[i]? = some u ∧ PartV w N u p :=
  fun i p hi => by
    rcases Nat.lt_or_ge i P.length with hlt | hge
    · rw [List.getElem?_append_left hlt] at hi
      obtain ⟨u, hu, hq⟩ := h i p hi
      exact ⟨u, by rw [List.getElem?_append_left (by omega)]; exact hu, hq⟩
    · rw [List.getElem?_append_right hge] at hi
      rw [List.getElem?_append_right (by omega), hl]
      rcases hj : i - P.length with _ | j
      · rw [hj] at hi
        simp only [List.getElem?_cons_zero, Option.some.injEq] at hi
        subst hi
        exact ⟨v, rfl, hv⟩
      · rw [hj] at hi
        simp at hi
theorem parts_cons {w : World} {N : Nat → Prop} {vs : List Value} {P : Parts} {v : Value} {q : List UInt8} (h : ∀ (i : Nat) (p : List UInt8), P[i]? = some p → ∃ u, vs[i]? = some u ∧ PartV w N u p) (hv : PartV w N v q) : ∀ (i : Nat) (p : List UInt8), (q :: P)[i]? = some p → ∃ u, (v :: vs)[i]? = some u ∧ PartV w N u p :=
  fun i p hi => by
    rcases i with _ | i
    · simp only [List.getElem?_cons_zero, Option.some.injEq] at hi
      subst hi
      exact ⟨v, rfl, hv⟩
    · rw [List.getElem?_cons_succ] at hi ⊢
      exact h i p hi
theorem PartV.head {w : World} {N : Nat → Prop} {a : Option Addr} {n c : Nat} {p : List UInt8} (h : PartV w N (.slice a n c) p) {k : Nat} (hk : k ≤ n) : PartV w N (.slice a k c) (p.take k) := by
  obtain ⟨a', c', e, h1, h2, h3, h4⟩ := h
  injection e with e1 e2 e3
  subst e1 e2 e3
  exact ⟨a, c, by rw [List.length_take, Nat.min_eq_left hk], by simp; omega, h2, by rw [bi_take]; exact h3.take k, fun b o h0 e => h4 b o (by rw [List.length_take] at h0; omega) e⟩
theorem PartV.tail {w : World} {N : Nat → Prop} {b o n c : Nat} {p : List UInt8} (h : PartV w N (.slice (some ⟨b, o, none⟩) n c) p) {k : Nat} (hk : k ≤ n) : PartV w N (.slice (some ⟨b, o + k, none⟩) (n - k) (c - k)) (p.drop k) := by
  obtain ⟨a', c', e, h1, h2, h3, h4⟩ := h
  injection e with e1 e2 e3
  subst e1 e2 e3
  refine ⟨_, _, by rw [List.length_drop], by rw [List.length_drop]; omega, by omega, ?_, fun b' o' h0 e => ?_⟩
  · have := h3.piece k (p.length - k)
    rw [← bi_drop, ← bi_take, List.take_of_length_le (by simp)] at this
    exact this
  · rw [List.length_drop] at h0
    injection e with e
    injection e with e1
    exact h4 b' o (by omega) (by rw [e1])
theorem run_upto2 {pa : Option Addr} {plen pcap h : Nat} (hh : h ≤ plen) (hc : plen ≤ pcap) (w : World) :
    (Instr.slice 53 (.slice pa plen pcap) none (some (.int .i64 h)) none).run Try.prog w = .ok (.slice pa h pcap) w := by
  have hs : ∀ w, (sizeOf (Try.prog.elem 53)).run Try.prog w = .ok 1 w := fun _ => by kernel_rfl
  rw [run_slice_h (P := Try.prog) (w := w) (t := 53) (a := pa) (len := plen) (cap := pcap) (by kernel_rfl) .i64 (h : Int) (by omega) (by omega), hs]
  simp [Result.andThen, sliced]
  intro _
  cases pa <;> simp [Addr.add]
theorem run_from2 {b o plen pcap l : Nat} (hl : l ≤ plen) (hc : l < pcap) (w : World) :
    (Instr.slice 53 (.slice (some ⟨b, o, none⟩) plen pcap) (some (.int .i64 l)) none none).run Try.prog w = .ok (.slice (some ⟨b, o + l, none⟩) (plen - l) (pcap - l)) w := by
  have hs : ∀ w, (sizeOf (Try.prog.elem 53)).run Try.prog w = .ok 1 w := fun _ => by kernel_rfl
  rw [run_slice_l (P := Try.prog) (w := w) (t := 53) (a := some ⟨b, o, none⟩) (len := plen) (cap := pcap) (by kernel_rfl) .i64 (l : Int) (by omega) (by omega), hs]
  simp [Result.andThen, sliced, addr_add]
  omega

def TakePost (N : Nat → Prop) (P : Parts) (m : Nat) (w : World) (e : Ending) (w' : World) : Prop :=
  ∃ v1 v2, e = .returned (.tuple #[v1, v2, .int .i64 0]) ∧ Fr [] w w' ∧ Rp w' (fun b => N b ∨ w.heap.size ≤ b) v1 (cutF P m) ∧ Rp w' (fun b => N b ∨ w.heap.size ≤ b) v2 (cutR P m)

set_option maxHeartbeats 2000000 in
theorem take_cut {w : World} {N : Nat → Prop} {v : Value} {P : Parts} (h : Rp w N v P) (m : Nat) (hm : m < tot P) :
    Calls Try.prog 99 #[v, .int .i64 m] w (TakePost N P m w) := by
  obtain ⟨a, cap, rfl, h1, h2, h3, h4, h5, h6⟩ := h
  have hi : (P.length : Int) ≤ 1024 := by omega
  have hm' : (m : Int) < tot P := by omega
  have ht : (tot P : Int) ≤ 65536 := by omega
  go_enter Try.func99, Try.ntmps99
  go_wp2_with fail
  obtain ⟨W, hW⟩ : ∃ W, W = (((w.alloc (Obj.cells #[Value.slice a (List.length P) cap, Value.int IntKind.i64 (tot P)] 57)).alloc (Obj.cells #[Value.slice none 0 0, Value.int IntKind.i64 0] 57)).alloc (Obj.cells #[Value.slice none 0 0, Value.int IntKind.i64 0] 57)) := ⟨_, rfl⟩
  rw [← hW]
  have b0 : W.heap[w.heap.size]? = some (.cells #[.slice a P.length cap, .int .i64 (tot P)] 57 (0, 0)) := by rw [hW]; exact keepA (keepA (newA rfl))
  have b1 : W.heap[w.heap.size + 1]? = some (.cells #[.slice none 0 0, .int .i64 0] 57 (0, 0)) := by rw [hW]; exact keepA (newA (by simp))
  have b2 : W.heap[w.heap.size + 1 + 1]? = some (.cells #[.slice none 0 0, .int .i64 0] 57 (0, 0)) := by rw [hW]; exact newA (by simp)
  have g0 : Fr [] w W := by rw [hW]; exact (((Fr.refl _ _).alloc _).alloc _).alloc _
  have hp3 : PartsAt W (fun b => N b ∧ b < w.heap.size) a P := h3.there.keep g0 (by simp)
  have hlt : w.heap.size + 1 + 1 < W.heap.size := lt_of_heap b2
  clear hW h3
  generalize hB : w.heap.size = B at *
  have hBl : w.heap.size ≤ B := by omega
  have hBr : B ≤ w.heap.size := by omega
  clear hB
  have x0 : W.cell? ⟨B, 0, none⟩ = some (.slice a P.length cap) := cell_of b0
  have x1 : W.cell? ⟨B, 1, none⟩ = some (.int .i64 (tot P)) := cell_of b0
  go_loop [7, 8] (fun l i => ∃ (k left : Nat), k < P.length ∧ i = .int .i64 k ∧ l = .int .i64 left ∧ Hid (tot (P.take k) + left = m) ∧ left ≤ m) (fun _ i => P.length - (intOf i).toNat)
  case atStart =>
    refine ⟨0, m, ?_, rfl, rfl, Lib.hid (by simp [tot]), Nat.le_refl _⟩
    rcases P with _ | ⟨p, P⟩
    · simp [tot] at hm
    · simp
  case round =>
    obtain ⟨k, left, hk, rfl, rfl, HS, hlm⟩ := hrel
    obtain ⟨b, o, ak, ck, rfl, _, hcell, hc1, hc2, hsl, hN⟩ := hp3.at_ hk
    have hnext := tot_take_succ hk
    have hle := tot_take_le P (k + 1)
    by_cases hx : P[k].length ≤ left
    · have hS := HS.out
      have hk1 : k + 1 < P.length := by
        rcases Nat.lt_or_ge (k + 1) P.length with h | h
        · exact h
        · rw [List.take_of_length_le h] at hnext; omega
      have HS' := Lib.hid (show tot (P.take (k + 1)) + (left - P[k].length) = m by omega)
      have hk1' : (k : Int) + 1 < P.length := by omega
      generalize P[k].length = x at *
      clear hnext hle hS
      have hx' : (x : Int) ≤ left := by omega
      go_wp2_with fail
      go_round
      case rel => exact ⟨k + 1, left - x, hk1, by go_num, by rw [show ((left - x : Nat) : Int) = (left : Int) - x from by omega], HS', by omega⟩
      case measure => simp [intOf]; omega
    · obtain ⟨vs, e1, e2, e3, e4⟩ := hp3
      have hvk : vs[k]? = some (.slice ak P[k].length ck) := by
        obtain ⟨b', o', e, _, hc⟩ := e2 (by omega)
        simp only [Option.some.injEq, Addr.mk.injEq, and_true] at e
        obtain ⟨rfl, rfl⟩ := e
        rw [← hc k (by omega), hcell]
      have hS := HS.out
      have hend := cut_end (P := P) (n := m) hk (by unfold tot at hS; exact hS) h4 (by omega)
      have hone : ∀ u ∈ vs, u.oneCell' = true := by
        intro u hu
        obtain ⟨i, hi, rfl⟩ := List.getElem_of_mem hu
        obtain ⟨u', hu', a', c', rfl, _⟩ := e4 i P[i] (List.getElem?_eq_getElem (by omega))
        rw [List.getElem?_eq_getElem hi] at hu'
        injection hu' with hu'
        rw [hu']
        rfl
      have HC1 : Hid (∀ w', Fr [] W w' → Calls Try.prog 120 #[.slice (some ⟨b, o, none⟩) k cap] w' fun e w2 => ∃ v, e = .returned v ∧ Fr [] w' w2 ∧ Ow w2 w'.heap.size 29 v (vs.take k)) :=
        Lib.hid fun w' hf => slices_clone ((e2.take k).keep hf (by simp)) (by simp; omega) (fun u hu => hone u (List.mem_of_mem_take hu)) (by simp; omega)
      have HC2 : Hid (∀ w', Fr [] W w' → Calls Try.prog 120 #[.slice (some ⟨b, o + k, none⟩) (P.length - k) (cap - k)] w' fun e w2 => ∃ v, e = .returned v ∧ Fr [] w' w2 ∧ Ow w2 w'.heap.size 29 v (vs.drop k)) :=
        Lib.hid fun w' hf => slices_clone ((e2.drop k).keep hf (by simp)) (by simp; omega) (fun u hu => hone u (List.mem_of_mem_drop hu)) (by simp; omega)
      have hs1 : ∀ w, (Instr.slice 53 (.slice (some ⟨b, o, none⟩) P.length cap) none (some (.int .i64 k)) none).run Try.prog w = .ok (.slice (some ⟨b, o, none⟩) k cap) w := fun w => run_upto2 (by omega) h1 w
      have hs2 : ∀ w, (Instr.slice 53 (.slice (some ⟨b, o, none⟩) P.length cap) (some (.int .i64 k)) none none).run Try.prog w = .ok (.slice (some ⟨b, o + k, none⟩) (P.length - k) (cap - k)) w := fun w => run_from2 (by omega) (by omega) w
      have HE2 := Lib.hid e2
      have HE4 := Lib.hid e4
      have HEND := Lib.hid hend
      have HVK := Lib.hid hvk
      have HONE := Lib.hid hone
      have HE1 := Lib.hid e1
      have hdr : Fr [] W W.drew := (Fr.refl [] W).drew
      have hxl : (left : Int) < P[k].length := by omega
      have x0d : W.drew.cell? ⟨B, 0, none⟩ = some (.slice (some ⟨b, o, none⟩) P.length cap) := x0
      clear hend hvk hone e4 e1 hnext hle hS hsl
      generalize hq : P[k] = p at *
      have HQ := Lib.hid hq
      clear hq
      go_wp2_with fail
      go_region_held3 (fun w' => w'.cell? ⟨B, 0, none⟩ = some (.slice (some ⟨b, o, none⟩) P.length cap)) ((with_reducible assumption))
        (first
        | (go_at_call 120; (with_reducible refine (HC1.out _ hdr).mono ?_); rintro e w1 ⟨v1, rfl, f1, o1⟩; have ff1 : Fr [] W w1 := hdr.then0 f1; have x0w : w1.cell? ⟨B, 0, none⟩ = some (.slice (some ⟨b, o, none⟩) P.length cap) := cell_of (ff1.keep b0 (by simp)))
        | (go_at_call 120; (with_reducible refine (HC2.out _ ff1).mono ?_); rintro e w2 ⟨v2, rfl, f2, o2⟩; have ff2 : Fr [] W w2 := ff1.then0 f2; have x0v : w2.cell? ⟨B, 0, none⟩ = some (.slice (some ⟨b, o, none⟩) P.length cap) := cell_of (ff2.keep b0 (by simp))))
      have y1 : w2.cell? ⟨B, 1, none⟩ = some (.int .i64 (tot P)) := cell_of (ff2.keep b0 (by simp))
      have q1 := ff2.keep b1 (by simp)
      have q2 := ff2.keep b2 (by simp)
      have o1' : Ow w2 W.heap.size 29 v1 (vs.take k) := o1.keep f2 (by simp)
      have o2' : Ow w2 W.heap.size 29 v2 (vs.drop k) := o2.mono ff1.size
      have hdis : ∀ x, v1.ownBlock = some x → x < w1.heap.size := fun x e => (o1.lt x e).2
      have hdis2 : ∀ x, v2.ownBlock = some x → w1.heap.size ≤ x := fun x e => (o2.lt x e).1
      have hg2 : Fr [] w w2 := g0.then0 ff2
      have hB2 : B + 1 + 1 < w2.heap.size := lt_of_heap q2
      clear o1 o2 hdr ff1 f1 f2 HC1 HC2 hs1 hs2 x0d x0w x0v
      by_cases hl0 : left = 0
      · subst hl0
        have htl : (vs.take k).length = k := by rw [List.length_take, HE1.out]; omega
        have hdl : (vs.drop k).length = P.length - k := by rw [List.length_drop, HE1.out]
        obtain ⟨a1, c1, hv1, _⟩ := o1'.form
        obtain ⟨a2, c2, hv2, _⟩ := o2'.form
        rw [htl] at hv1
        rw [hdl] at hv2
        subst hv1 hv2
        have r0 : w2.cell? ⟨B + 1, 0, none⟩ = some (.slice none 0 0) := cell_of q1
        have r1 : w2.cell? ⟨B + 1, 1, none⟩ = some (.int .i64 0) := cell_of q1
        have r2 : w2.frozen? ⟨B + 1, 0, none⟩ = false := free_of q1
        have r3 : w2.frozen? ⟨B + 1, 1, none⟩ = false := free_of q1
        have r4 : w2.cell? ⟨B + 1 + 1, 0, none⟩ = some (.slice none 0 0) := cell_of q2
        have r5 : w2.cell? ⟨B + 1 + 1, 1, none⟩ = some (.int .i64 0) := cell_of q2
        have r6 : w2.frozen? ⟨B + 1 + 1, 0, none⟩ = false := free_of q2
        have r7 : w2.frozen? ⟨B + 1 + 1, 1, none⟩ = false := free_of q2
        have hsub : IntKind.i64.wrap ((tot P : Int) - m) = (tot P : Int) - m := IntWalk.i64_in _ (by omega)
        have HO1 := Lib.hid o1'
        have HO2 := Lib.hid o2'
        clear htl hdl o1' o2'
        go_wp2_with fail
        go_region
        go_wp2_with fail
        obtain ⟨wf, hwf, z1, z2, fz⟩ := two_pairs (x0 := .slice a1 k c1) (x1 := .int .i64 m) (y0 := .slice a2 (P.length - k) c2) (y1 := .int .i64 ((tot P : Int) - m)) q1 q2 (by omega)
        rw [← hwf]
        have u0 : wf.cell? ⟨B + 1, 0, none⟩ = some (.slice a1 k c1) := cell_of z1
        have u1 : wf.cell? ⟨B + 1, 1, none⟩ = some (.int .i64 m) := cell_of z1
        have u2 : wf.cell? ⟨B + 1 + 1, 0, none⟩ = some (.slice a2 (P.length - k) c2) := cell_of z2
        have u3 : wf.cell? ⟨B + 1 + 1, 1, none⟩ = some (.int .i64 ((tot P : Int) - m)) := cell_of z2
        refine bodyPost_ret (v := .tuple #[.agg #[.slice a1 k c1, .int .i64 m], .agg #[.slice a2 (P.length - k) c2, .int .i64 ((tot P : Int) - m)], .int .i64 0]) (by simp [results, Try.results99, go_sem, u0, u1, u2, u3]) rfl ?_
        obtain ⟨en1, en2⟩ := HEND.out
        rw [if_pos trivial, List.append_nil] at en1
        rw [List.drop_zero, ← HQ.out, ← List.drop_eq_getElem_cons hk] at en2
        have pk := parts_keep HE4.out (ff2.trans (U := [B + 1, B + 1 + 1]) fz (by simp) (fun _ h => .inl h)) (by simp; omega)
        have nb : ∀ x ∈ [B + 1, B + 1 + 1], x < W.heap.size := by simp; omega
        have p1 := HO1.out.keep fz (fun x e hm => by have := (HO1.out.lt x e).1; have := nb x hm; omega)
        have p2 := HO2.out.keep fz (fun x e hm => by have := (HO2.out.lt x e).1; have := nb x hm; omega)
        refine ⟨_, _, rfl, hg2.trans fz (by simp) (by simp; omega), ?_, ?_⟩
        · rw [en1]
          exact rp_of_own p1 (by rw [List.length_take, List.length_take, HE1.out]) (parts_take pk k) (fun x hx => .inr (by omega)) (fun x hx => .inl hx.1) (h4.take k) (by simp; omega) (by have := tot_take_le P k; omega) m (by rw [← en1]; exact tot_cutF P (by omega))
        · rw [en2, show ((tot P : Int) - m) = ((tot P - m : Nat) : Int) from by omega]
          exact rp_of_own p2 (by rw [List.length_drop, List.length_drop, HE1.out]) (parts_drop pk k) (fun x hx => .inr (by omega)) (fun x hx => .inl hx.1) (h4.drop k) (by simp; omega) (by rw [← en2, tot_cutR]; omega) (tot P - m) (by rw [← en2]; exact tot_cutR P m)
      · have hl0' : (0 : Int) < left := by omega
        have hdl : (vs.drop k).length = P.length - k := by rw [List.length_drop, HE1.out]
        obtain ⟨g2, c2, hv2, _, _, _, hg2l, hcells, hfroz⟩ := o2'.row (by omega)
        rw [hdl] at hv2
        subst hv2
        have hc0 : w2.cell? ⟨g2, 0, none⟩ = some (.slice ak p.length ck) := by rw [hcells 0 (by omega), List.getElem?_drop, Nat.add_zero]; exact HVK.out
        have hpk0 : 0 < P.length - k := by omega
        have htl : (vs.take k).length = k := by rw [List.length_take, HE1.out]; omega
        obtain ⟨a1, c1, hv1, _⟩ := o1'.form
        rw [htl] at hv1
        subst hv1
        have hpv : PartV W (fun b => N b ∧ b < B) (.slice ak p.length ck) p := by
          obtain ⟨v, hv, hq⟩ := HE4.out k p (by rw [List.getElem?_eq_getElem hk, HQ.out])
          rw [HVK.out] at hv
          injection hv with hv
          rw [hv]
          exact hq
        obtain ⟨kb, ko, rfl, _, _⟩ : ∃ b o, ak = some ⟨b, o, none⟩ ∧ b < W.heap.size ∧ True := by
          obtain ⟨a', c', e, _, _, hs, _⟩ := hpv
          injection e with e1 e2 e3
          subst e1
          obtain ⟨b', o', e', hb', _⟩ := hs (by rw [bi_length]; omega)
          exact ⟨b', o', e', hb', trivial⟩
        have hsA : ∀ w, (Instr.slice 29 (.slice (some ⟨kb, ko, none⟩) p.length ck) none (some (.int .i64 left)) none).run Try.prog w = .ok (.slice (some ⟨kb, ko, none⟩) left ck) w := fun w => run_upto (by omega) hc1 w
        have hsB : ∀ w, (Instr.slice 29 (.slice (some ⟨kb, ko, none⟩) p.length ck) (some (.int .i64 left)) none none).run Try.prog w = .ok (.slice (some ⟨kb, ko + left, none⟩) (p.length - left) (ck - left)) w := fun w => by
          have := run_cutl (pa := some ⟨kb, ko, none⟩) (plen := p.length) (pcap := ck) (l := left) (by omega) w
          rwa [cutp_gen (show ck ≠ left by omega)] at this
        have HU : Hid (Try.prog.underlying 53 = some (.slice 29)) := Lib.hid Try.underlying53
        have HIN : Hid ((Try.prog.info? 29).map (fun i => (i.zero, i.size, i.bytes)) = some (some (.slice none 0 0), 1, 24)) := Lib.hid (by kernel_rfl)
        have H3 : Hid ((vs.take k).length + 1 ≤ maxLen) := Lib.hid (by rw [htl]; unfold maxLen; omega)
        have H4 : Hid (((vs.take k).length + 1) * 24 ≤ 140737488355328) := Lib.hid (by rw [htl]; omega)
        have hWs : W.heap.size ≤ (w2.alloc (.cells #[.slice (some ⟨kb, ko, none⟩) left ck] 29)).heap.size := by have := ff2.size; simp; omega
        have fal : Fr [] w2 (w2.alloc (.cells #[.slice (some ⟨kb, ko, none⟩) left ck] 29)) := (Fr.refl [] w2).alloc _
        have HOW := Lib.hid (o1'.keep fal (by simp))
        have hf0 : w2.frozen? ⟨g2, 0, none⟩ = false := hfroz 0
        have hpk0' : (0 : Int) < ((P.length - k : Nat) : Int) := by omega
        have HO2 := Lib.hid o2'
        have HDI := Lib.hid hdis
        clear htl hdl hcells hfroz o1' o2'
        go_wp2_with (refine wpList_append_fr _ rfl (.tmp 52) (.tmp 58) 53 rfl 29 (.slice none 0 0) 24 HU.out HIN.out rfl W.heap.size (.slice a1 k c1) (vs.take k) (by exact rfl) HOW.out (some ⟨w2.heap.size, 0, none⟩) 1 1 [.slice (some ⟨kb, ko, none⟩) left ck] (by exact rfl) rfl (SlV.box _ _ _) (one_slice _ _ _) H3.out H4.out hWs ?_)
        intro v' w3 o3 f3 hb
        have hne1 : ∀ x, (Value.slice a1 k c1).ownBlock = some x → W.heap.size ≤ x ∧ x < w1.heap.size := fun x e => ⟨(HOW.out.lt x e).1, HDI.out x e⟩
        have hg2w : w1.heap.size ≤ g2 := hdis2 g2 rfl
        have hnin : ∀ x, x < W.heap.size → x ∉ (Value.slice a1 k c1).ownBlock.toList := fun x hx hm => by have := (hne1 x (by simpa using hm)).1; omega
        have hg2n : g2 ∉ (Value.slice a1 k c1).ownBlock.toList := fun hm => by have := (hne1 g2 (by simpa using hm)).2; omega
        have g3 : Fr [] w w3 := (hg2.then0 fal).own f3 (fun x e => .inr (by have := (hne1 x e).1; omega))
        have fw3 : Fr [] W w3 := (ff2.then0 fal).own f3 (fun x e => .inr (hne1 x e).1)
        have p2 := (HO2.out.keep fal (by simp)).keep f3 (fun x e hm => by simp only [Value.ownBlock, Option.some.injEq] at e; subst e; exact hg2n hm)
        have s1 := f3.keep (fal.keep q1 (by simp)) (hnin _ (by omega))
        have s2 := f3.keep (fal.keep q2 (by simp)) (hnin _ (by omega))
        obtain ⟨g2', c2', hv2', _, _, _, _, hcells', hfroz'⟩ := p2.row (by rw [List.length_drop, HE1.out]; omega)
        have hgg : g2' = g2 := by injection hv2' with e; injection e with e; injection e with e1; exact e1.symm
        subst hgg
        have hc3 : w3.cell? ⟨g2', 0, none⟩ = some (.slice (some ⟨kb, ko, none⟩) p.length ck) := by rw [hcells' 0 (by rw [List.length_drop, HE1.out]; omega), List.getElem?_drop, Nat.add_zero]; exact HVK.out
        have hf3 : w3.frozen? ⟨g2', 0, none⟩ = false := hfroz' 0
        have htl3 : (vs.take k ++ [Value.slice (some ⟨kb, ko, none⟩) left ck]).length = k + 1 := by rw [List.length_append, List.length_take, HE1.out]; simp; omega
        obtain ⟨a3, c3, hv3, _⟩ := o3.out.form
        rw [htl3] at hv3
        subst hv3
        have HP2 := Lib.hid p2
        have hvn : ∀ x, (Value.slice a3 (k + 1) c3).ownBlock = some x → x ≠ g2' ∧ W.heap.size ≤ x := fun x e => by
          refine ⟨?_, (o3.out.lt x e).1⟩
          rcases hb with h | h
          · rw [e] at h; have := (hne1 x h.symm).2; omega
          · rw [e] at h; injection h with h; omega
        have HVN := Lib.hid hvn
        have hb0w : w3.heap[B]? = some (.cells #[.slice (some ⟨b, o, none⟩) P.length cap, .int .i64 (tot P)] 57 (0, 0)) := fw3.keep b0 (by simp)
        clear hvn hv2' hcells' hfroz' htl3 p2 f3 hb hc0 hf0 hcell x0 x1 y1 q1 q2 b0 b1 b2
        go_wp2_with fail
        obtain ⟨w4, hw4⟩ : ∃ w4, w4 = w3.setCell ⟨g2', 0, none⟩ (.slice (some ⟨kb, ko + left, none⟩) (p.length - left) (ck - left)) := ⟨_, rfl⟩
        rw [← hw4]
        have t0 : w4.heap[B]? = some (.cells #[.slice (some ⟨b, o, none⟩) P.length cap, .int .i64 (tot P)] 57 (0, 0)) := by rw [hw4]; exact keepS hb0w (by dsimp only; omega)
        have t1 := keepS (a := ⟨g2', 0, none⟩) (v := .slice (some ⟨kb, ko + left, none⟩) (p.length - left) (ck - left)) s1 (by dsimp only; omega)
        have t2 := keepS (a := ⟨g2', 0, none⟩) (v := .slice (some ⟨kb, ko + left, none⟩) (p.length - left) (ck - left)) s2 (by dsimp only; omega)
        have p4 := HP2.out.set 0 (.slice (some ⟨kb, ko + left, none⟩) (p.length - left) (ck - left))
        have f34 : Fr [g2'] w3 (w3.setCell ⟨g2', 0, none⟩ (.slice (some ⟨kb, ko + left, none⟩) (p.length - left) (ck - left))) := (Fr.refl _ _).setCell (.inl (by simp)) _
        rw [← hw4] at t1 t2 p4 f34
        clear hw4 s1 s2 hb0w
        have y1 : w4.cell? ⟨B, 1, none⟩ = some (.int .i64 (tot P)) := cell_of t0
        have r0 : w4.cell? ⟨B + 1, 0, none⟩ = some (.slice none 0 0) := cell_of t1
        have r1 : w4.cell? ⟨B + 1, 1, none⟩ = some (.int .i64 0) := cell_of t1
        have r2 : w4.frozen? ⟨B + 1, 0, none⟩ = false := free_of t1
        have r3 : w4.frozen? ⟨B + 1, 1, none⟩ = false := free_of t1
        have r4 : w4.cell? ⟨B + 1 + 1, 0, none⟩ = some (.slice none 0 0) := cell_of t2
        have r5 : w4.cell? ⟨B + 1 + 1, 1, none⟩ = some (.int .i64 0) := cell_of t2
        have r6 : w4.frozen? ⟨B + 1 + 1, 0, none⟩ = false := free_of t2
        have r7 : w4.frozen? ⟨B + 1 + 1, 1, none⟩ = false := free_of t2
        have hsub : IntKind.i64.wrap ((tot P : Int) - m) = (tot P : Int) - m := IntWalk.i64_in _ (by omega)
        have HP4 := Lib.hid p4
        clear p4
        go_region
        go_wp2_with fail
        obtain ⟨wf, hwf, z1, z2, fz⟩ := two_pairs (x0 := .slice a3 (k + 1) c3) (x1 := .int .i64 m) (y0 := .slice (some ⟨g2', 0, none⟩) (P.length - k) c2) (y1 := .int .i64 ((tot P : Int) - m)) t1 t2 (by omega)
        rw [← hwf]
        have u0 : wf.cell? ⟨B + 1, 0, none⟩ = some (.slice a3 (k + 1) c3) := cell_of z1
        have u1 : wf.cell? ⟨B + 1, 1, none⟩ = some (.int .i64 m) := cell_of z1
        have u2 : wf.cell? ⟨B + 1 + 1, 0, none⟩ = some (.slice (some ⟨g2', 0, none⟩) (P.length - k) c2) := cell_of z2
        have u3 : wf.cell? ⟨B + 1 + 1, 1, none⟩ = some (.int .i64 ((tot P : Int) - m)) := cell_of z2
        refine bodyPost_ret (v := .tuple #[.agg #[.slice a3 (k + 1) c3, .int .i64 m], .agg #[.slice (some ⟨g2', 0, none⟩) (P.length - k) c2, .int .i64 ((tot P : Int) - m)], .int .i64 0]) (by simp [results, Try.results99, go_sem, u0, u1, u2, u3]) rfl ?_
        obtain ⟨en1, en2⟩ := HEND.out
        rw [if_neg hl0] at en1
        have fW : Fr [g2', B + 1, B + 1 + 1] W wf := (fw3.trans (U := [g2', B + 1, B + 1 + 1]) f34 (by simp) (by simp)).trans (U := [g2', B + 1, B + 1 + 1]) fz (fun _ h => .inl h) (by simp)
        have hnN : ∀ x ∈ [g2', B + 1, B + 1 + 1], ¬ (N x ∧ x < B) := by simp; omega
        have pk := parts_keep HE4.out fW hnN
        have pv := hpv.keep fW hnN
        have nb : ∀ x ∈ [B + 1, B + 1 + 1], x < W.heap.size := by simp; omega
        have p1 := (o3.out.keep f34 (fun x e hm => (HVN.out x e).1 (by simpa using hm))).keep fz (fun x e hm => by have := (HVN.out x e).2; have := nb x hm; omega)
        have p2 := HP4.out.keep fz (fun x e hm => by have := (HP4.out.lt x e).1; have := nb x hm; omega)
        have hset : (vs.drop k).set 0 (.slice (some ⟨kb, ko + left, none⟩) (p.length - left) (ck - left)) = Value.slice (some ⟨kb, ko + left, none⟩) (p.length - left) (ck - left) :: vs.drop (k + 1) := by
          rw [List.drop_eq_getElem_cons (by rw [HE1.out]; exact hk)]
          rfl
        rw [hset] at p2
        refine ⟨_, _, rfl, (g3.trans (U := []) f34 (by simp) (by simp; have := ff2.size; have := g0.size; omega)).trans (U := []) fz (by simp) (by simp; omega), ?_, ?_⟩
        · rw [en1]
          refine rp_of_own p1 (by rw [List.length_append, List.length_append, List.length_take, List.length_take, HE1.out]; rfl) (parts_snoc (parts_take pk k) (by rw [List.length_take, List.length_take, HE1.out]) (pv.head (by omega))) (fun x hx => .inr (by omega)) (fun x hx => .inl hx.1) ?_ (by simp; omega) ?_ m (by rw [← en1]; exact tot_cutF P (by omega))
          · rw [← en1]; exact cutF_full P m h4
          · rw [← en1, tot_cutF P (by omega)]; omega
        · rw [en2, show ((tot P : Int) - m) = ((tot P - m : Nat) : Int) from by omega]
          refine rp_of_own p2 (by rw [List.length_cons, List.length_cons, List.length_drop, List.length_drop, HE1.out]) (parts_cons (parts_drop pk (k + 1)) (pv.tail (by omega))) (fun x hx => .inr (by omega)) (fun x hx => .inl hx.1) ?_ (by simp; omega) ?_ (tot P - m) (by rw [← en2]; exact tot_cutR P m)
          · rw [← en2]; exact cutR_full P m h4
          · rw [← en2, tot_cutR]; omega
theorem rope_take {w : World} {N : Nat → Prop} {v : Value} {P : Parts} (h : Rp w N v P) {most : Int} (h0 : 0 ≤ most) :
    Calls Try.prog 99 #[v, .int .i64 most] w (TakePost N P most.toNat w) := by
  by_cases hm : (tot P : Int) ≤ most
  · have hf : Full P := h.choose_spec.choose_spec.2.2.2.2.1
    refine (take_all h h0 hm).mono fun e w' ⟨he, hr⟩ => ⟨v, noRope, he, hr, ?_, ?_⟩
    · rw [cutF_all P _ hf (by unfold tot at hm; omega)]
      exact (h.keep hr (by simp)).mono fun _ => .inl
    · rw [cutR_all P _ (by unfold tot at hm; omega)]
      exact Rp.none_ _ _
  · obtain ⟨m, rfl⟩ := Int.eq_ofNat_of_zero_le h0
    rw [Int.toNat_natCast]
    exact take_cut h m (by omega)
end Go.Proofs.Ytdoamelhclnphaa
