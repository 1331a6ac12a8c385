/-
  A transfer in memory beside two rows of bytes of the caller's own: what each call does to the three.
-/
import Derived.Test.YtodpkdbcdbdjfaaTrLaw
import Derived.Test.YtodpkdbcdbdjfaaTransferNone
import Derived.Test.YtodpkdbcdbdjfaaRef21
import Derived.BigRegion
import Derived.Deep.RegionHeld3
import Derived.Deep.RegionLaw
import Derived.Deep.DeepCutAuto
import Derived.Deep.CutBlock
import Derived.StillTailTactics
import Derived.Test.YtodpkdbcdbdjfaaRegionT
namespace Go.Proofs.Ytodpkdbcdbdjfaa
open Go.RowKit
set_option maxRecDepth 100000

theorem Sl.takeB {w : World} {a : Option Addr} {ps : List Int} (h : Sl w a ps) (n : Nat) : Sl w a (ps.take n) := fun h0 => by
  rw [List.length_take] at h0
  obtain ⟨b, o, e, hb, hc⟩ := h (by omega)
  refine ⟨b, o, e, hb, fun i hi => ?_⟩
  rw [List.length_take] at hi
  rw [hc i (by omega), getD_take _ _ _ (by omega)]
theorem Tr.out {W W' : World} {N : Nat → Prop} {b : Nat} {t : TS} (h : Tr W N b t) {S : List Nat} (f : Fr S W W') (hb : b ∉ S) (hS : ∀ x ∈ S, ¬ N x) : Tr W' (fun y => (N y ∧ y < W.heap.size) ∨ W'.heap.size ≤ y) b t := by
  obtain ⟨a, cap, P, h1, h2, h3, h4, h5, h6⟩ := h
  have hlt := lt_of_heap h1
  have hz := f.size
  refine ⟨a, cap, P, f.keep h1 hb, (h2.there.keep f (fun x hx hn => hS x hx hn.1)).mono (fun x hx => .inl hx), h3, ?_, fun x hx => .inr hx, h6⟩
  rintro (⟨hn, _⟩ | hn)
  · exact h4 hn
  · omega
/-- What lies in memory between two calls: the transfer, and two rows of bytes of the caller's own. -/
structure HS2 (W : World) (M b : Nat) (t : TS) (v u : Value) (I O : List UInt8) : Prop where
  tr : ∃ N, Tr W N b t ∧ (∀ x, v.ownBlock = some x → ¬ N x) ∧ (∀ x, u.ownBlock = some x → ¬ N x)
  o9 : Ow W M 5 v ((bi I).map (Value.int .u8))
  o10 : Ow W M 5 u ((bi O).map (Value.int .u8))
  ne : ∀ x, v.ownBlock = some x → u.ownBlock ≠ some x
  b9 : v.ownBlock ≠ some b
  b10 : u.ownBlock ≠ some b
section
variable {W : World} {M b : Nat} {t : TS} {v u : Value} {I O : List UInt8}
theorem HS2.lt (h : HS2 W M b t v u I O) : b < W.heap.size := by obtain ⟨N, ht, _⟩ := h.tr; exact ht.lt
theorem HS2.ok (h : HS2 W M b t v u I O) : TOk t := by obtain ⟨N, ht, _⟩ := h.tr; exact ht.ok
theorem HS2.keep0 (h : HS2 W M b t v u I O) {W' : World} (f : Fr [] W W') : HS2 W' M b t v u I O := by
  obtain ⟨N, ht, n9, n10⟩ := h.tr
  exact ⟨⟨N, ht.keep0 f, n9, n10⟩, h.o9.keep f (by simp), h.o10.keep f (by simp), h.ne, h.b9, h.b10⟩
theorem HS2.next (h : HS2 W M b t v u I O) (hr : t.rd ≤ 4611686018427387904) :
    Calls Try.prog 17 #[.pointer (some ⟨b, 0, none⟩)] W fun e w' => ∃ v, e = .returned v ∧ Fr [] W w' ∧ Wv w' W.heap.size v (nextT t) := by
  obtain ⟨N, ht, _⟩ := h.tr
  exact tr_next ht hr
theorem HS2.stage (h : HS2 W M b t v u I O) :
    Calls Try.prog 22 #[.pointer (some ⟨b, 0, none⟩)] W fun e w' => ∃ u, e = .returned u ∧ Fr [] W w' ∧ Ow w' W.heap.size 5 u ((bi t.s).map (Value.int .u8)) := by
  obtain ⟨N, ht, _⟩ := h.tr
  exact tr_stageT ht
theorem HS2.moved (h : HS2 W M b t v u I O) {x y : Int} (hx : t.rd = x) (hy : t.wr = y) :
    Calls Try.prog 20 #[.pointer (some ⟨b, 0, none⟩), .int .i64 x, .int .i64 y] W fun e w' => e = .returned (.bool true) ∧ Fr [] W w' := by
  subst hx hy
  obtain ⟨N, ht, _⟩ := h.tr
  exact moved_of (tr_movedT ht)
theorem HS2.got (h : HS2 W M b t v u I O) (hr : t.rd ≤ 4611686018427387904) {pa : Option Addr} {pcap : Nat} {p : List UInt8} (hs : Sl W pa (bi p)) (hm : p.length ≤ 65536) (e : Int) :
    Calls Try.prog 18 #[.pointer (some ⟨b, 0, none⟩), .slice pa p.length pcap, .int .i64 e] W fun x w' => x = .returned (.int .i64 (gotE t p e)) ∧ Fr [b] W w' ∧ HS2 w' M b (gotT t p e) v u I O := by
  obtain ⟨N, ht, n9, n10⟩ := h.tr
  refine (tr_got ht hr hs rfl hm e).mono ?_
  rintro x w' ⟨he, f, h'⟩
  exact ⟨he, f, ⟨N, h', n9, n10⟩, h.o9.keep f (fun k e hm => by simp at hm; subst hm; exact h.b9 e), h.o10.keep f (fun k e hm => by simp at hm; subst hm; exact h.b10 e), h.ne, h.b9, h.b10⟩
theorem HS2.wrote (h : HS2 W M b t v u I O) (hr : t.rd ≤ 4611686018427387904) (n e : Int) :
    Calls Try.prog 19 #[.pointer (some ⟨b, 0, none⟩), .int .i64 n, .int .i64 e] W fun x w' => x = .returned (.int .i64 (wroteE t n e)) ∧ Fr [b] W w' ∧ HS2 w' M b (wroteT t n e) v u I O := by
  obtain ⟨N, ht, n9, n10⟩ := h.tr
  refine (tr_wrote ht hr n e).mono ?_
  rintro x w' ⟨he, f, h'⟩
  exact ⟨he, f, ⟨N, h', n9, n10⟩, h.o9.keep f (fun k e hm => by simp at hm; subst hm; exact h.b9 e), h.o10.keep f (fun k e hm => by simp at hm; subst hm; exact h.b10 e), h.ne, h.b9, h.b10⟩
theorem HS2.swap (h : HS2 W M b t v u I O) : HS2 W M b t u v O I := by
  obtain ⟨N, ht, n9, n10⟩ := h.tr
  exact ⟨⟨N, ht, n10, n9⟩, h.o10, h.o9, fun x hx hy => h.ne x hy hx, h.b10, h.b9⟩
theorem HS2.push (h : HS2 W M b t v u I O) {W' : World} {v' : Value} {p : List UInt8} (o : Ow W' M 5 v' ((bi I).map (Value.int .u8) ++ (bi p).map (Value.int .u8))) (f : Fr v.ownBlock.toList W W') (hv : v'.ownBlock = v.ownBlock ∨ v'.ownBlock = some W.heap.size) : HS2 W' M b t v' u (I ++ p) O := by
  obtain ⟨N, ht, n9, n10⟩ := h.tr
  have hlt := ht.lt
  have hv' : ∀ x, v'.ownBlock = some x → v.ownBlock = some x ∨ x = W.heap.size := fun x hx => by
    rcases hv with e | e
    · exact .inl (by rw [← e, hx])
    · rw [hx] at e; injection e with e; exact .inr e
  have hlv := o.lt
  have hlu := h.o10.lt
  refine ⟨⟨_, ht.out f (fun hm => h.b9 (by simpa using hm)) (fun x hx => n9 x (by simpa using hx)), ?_, ?_⟩, ?_, h.o10.keep f (fun k e hm => h.ne k (by simpa using hm) e), ?_, ?_, h.b10⟩
  · rintro x hx (⟨hn, hn2⟩ | hn)
    · rcases hv' x hx with e | e
      · exact n9 x e hn
      · omega
    · have := (hlv x hx).2; omega
  · rintro x hx (⟨hn, hn2⟩ | hn)
    · exact n10 x hx hn
    · have := (hlu x hx).2; have := f.size; omega
  · rw [bi_append, List.map_append]; exact o
  · intro x hx hy
    rcases hv' x hx with e | e
    · exact h.ne x e hy
    · have := (hlu x hy).2; omega
  · intro hx
    rcases hv' b hx with e | e
    · exact h.b9 e
    · omega
end
end Go.Proofs.Ytodpkdbcdbdjfaa
