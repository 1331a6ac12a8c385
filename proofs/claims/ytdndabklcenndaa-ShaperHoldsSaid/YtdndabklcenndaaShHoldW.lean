/-
  Law 41: ShaperHolds: the shaper, the bytes sent and got and the times, each in memory of its own.
-/
import Derived.Test.YtdndabklcenndaaShHoldL
import Derived.Test.YtdndabklcenndaaActs41
namespace Go.Proofs.Ytdndabklcenndaa
open Go.RowKit
set_option maxRecDepth 100000

structure HW (w wr : World) (L : List Nat) (b k0 : Nat) (s : SH) (cs : Array Value) (sa : Option Addr) (sc : Nat) (sent : List UInt8) (ga : Option Addr) (gc : Nat) (got : List UInt8) (ta : Option Addr) (tc : Nat) (times : List Int) (a : Option Addr) (len cap : Nat) (A : List A41) : Prop where
  sh : Shp wr L b k0 s
  lo : ∀ y ∈ L, w.heap.size < y
  o1 : Ow wr (w.heap.size + 1) 5 (.slice sa sent.length sc) ((bi sent).map (Value.int .u8))
  o2 : Ow wr (w.heap.size + 1) 5 (.slice ga got.length gc) ((bi got).map (Value.int .u8))
  o3 : Ow wr (w.heap.size + 1) 25 (.slice ta times.length tc) (times.map (Value.int .u64))
  d1 : ∀ x, sa = some x → x.block ∉ L ∧ (∀ y, ga = some y → y.block ≠ x.block) ∧ (∀ y, ta = some y → y.block ≠ x.block)
  d2 : ∀ x, ga = some x → x.block ∉ L ∧ ∀ y, ta = some y → y.block ≠ x.block
  d3 : ∀ x, ta = some x → x.block ∉ L
  bx : wr.heap[w.heap.size]? = some (.cells cs 56 (0, 0))
  fr : Fr [] w wr
  ac : Acts41 wr w.heap.size a len cap A
theorem own_some {a : Option Addr} {n c k : Nat} (h : (Value.slice a n c).ownBlock = some k) : ∃ x, a = some x ∧ x.block = k := by
  cases a with
  | none => cases h
  | some x => exact ⟨x, rfl, by injection h⟩
theorem Ow.blk {w : World} {M : Nat} {e : TypeId} {a : Option Addr} {n c : Nat} {xs : List Value} (h : Ow w M e (.slice a n c) xs) : ∀ x, a = some x → M ≤ x.block ∧ x.block < w.heap.size := fun x e => by
  subst e
  exact h.lt x.block rfl
theorem own_mem {a : Option Addr} {n c y : Nat} (h : y ∈ (Value.slice a n c).ownBlock.toList) : ∃ x, a = some x ∧ x.block = y := own_some (by simpa using h)
theorem Ow.formS {w : World} {M : Nat} {e : TypeId} {a : Option Addr} {n c : Nat} {l : List UInt8} (h : Ow w M e (.slice a n c) ((bi l).map (Value.int .u8))) : Sl w a (bi l) := by
  obtain ⟨a', c', e, _, _, hs, _⟩ := h.formB
  injection e with e1 _ _
  rw [e1]
  exact hs
theorem Ow.leS {w : World} {M : Nat} {e : TypeId} {a : Option Addr} {n c : Nat} {l : List UInt8} (h : Ow w M e (.slice a n c) ((bi l).map (Value.int .u8))) : l.length ≤ c := by
  obtain ⟨a', c', e, h1, _⟩ := h.formB
  injection e with _ _ e3
  rw [e3]
  exact h1
theorem Sl.pre {w : World} {a : Option Addr} {l : List UInt8} (h : Sl w a (bi l)) (n : Nat) : Sl w a (bi (l.take n)) := fun h0 => by
  rw [bi_length, List.length_take] at h0
  obtain ⟨b', o', e, hb, hc⟩ := h (by rw [bi_length]; omega)
  refine ⟨b', o', e, hb, fun i hi => ?_⟩
  rw [bi_length, List.length_take] at hi
  have := hc i (by rw [bi_length]; omega)
  rw [this]
  simp only [bi, List.map_take, List.getD, List.getElem?_take]
  rw [if_pos (by omega)]
theorem HW.step {w wr wr' : World} {L L' : List Nat} {b k0 : Nat} {s s' : SH} {cs : Array Value} {sa : Option Addr} {sc : Nat} {sent : List UInt8} {ga : Option Addr} {gc : Nat} {got : List UInt8} {ta : Option Addr} {tc : Nat} {times : List Int} {a : Option Addr} {len cap : Nat} {A : List A41} (h : HW w wr L b k0 s cs sa sc sent ga gc got ta tc times a len cap A) (f : Fr L wr wr') (sh : Shp wr' L' b k0 s') (hL : ∀ y ∈ L', y ∈ L ∨ wr.heap.size ≤ y) :
    HW w wr' L' b k0 s' cs sa sc sent ga gc got ta tc times a len cap A := by
  have hz := h.fr.size
  refine ⟨sh, fun y hy => ?_, h.o1.keep f (fun k e => ?_), h.o2.keep f (fun k e => ?_), h.o3.keep f (fun k e => ?_), fun x e => ⟨fun hm => ?_, (h.d1 x e).2⟩, fun x e => ⟨fun hm => ?_, (h.d2 x e).2⟩, fun x e hm => ?_, f.keep h.bx (fun hm => by have := h.lo _ hm; omega), h.fr.trans f (by simp) (fun x hx => .inr (Nat.le_of_lt (h.lo x hx))), h.ac.keep f hz (fun x hx => Nat.le_of_lt (h.lo x hx))⟩
  · rcases hL y hy with h1 | h1
    · exact h.lo y h1
    · have := lt_of_heap h.bx; omega
  · obtain ⟨x, e1, e2⟩ := own_some e
    subst e2
    exact (h.d1 x e1).1
  · obtain ⟨x, e1, e2⟩ := own_some e
    subst e2
    exact (h.d2 x e1).1
  · obtain ⟨x, e1, e2⟩ := own_some e
    subst e2
    exact h.d3 x e1
  · rcases hL _ hm with h1 | h1
    · exact (h.d1 x e).1 h1
    · have := h.o1.blk x e; omega
  · rcases hL _ hm with h1 | h1
    · exact (h.d2 x e).1 h1
    · have := h.o2.blk x e; omega
  · rcases hL _ hm with h1 | h1
    · exact h.d3 x e h1
    · have := h.o3.blk x e; omega
theorem HW.keep0 {w wr wr' : World} {L : List Nat} {b k0 : Nat} {s : SH} {cs : Array Value} {sa : Option Addr} {sc : Nat} {sent : List UInt8} {ga : Option Addr} {gc : Nat} {got : List UInt8} {ta : Option Addr} {tc : Nat} {times : List Int} {a : Option Addr} {len cap : Nat} {A : List A41} (h : HW w wr L b k0 s cs sa sc sent ga gc got ta tc times a len cap A) (f : Fr [] wr wr') :
    HW w wr' L b k0 s cs sa sc sent ga gc got ta tc times a len cap A := h.step (f.mono (by simp)) (h.sh.keep0 f) (fun _ hy => .inl hy)
theorem HW.app1 {w wr wr' : World} {L : List Nat} {b k0 : Nat} {s : SH} {cs : Array Value} {sa : Option Addr} {sc : Nat} {sent : List UInt8} {ga : Option Addr} {gc : Nat} {got : List UInt8} {ta : Option Addr} {tc : Nat} {times : List Int} {a : Option Addr} {len cap : Nat} {A : List A41} {p' : Option Addr} {c' : Nat} {l' : List UInt8} (h : HW w wr L b k0 s cs sa sc sent ga gc got ta tc times a len cap A) (f : Fr (Value.slice sa sent.length sc).ownBlock.toList wr wr') (o : Ow wr' (w.heap.size + 1) 5 (.slice p' l'.length c') ((bi l').map (Value.int .u8)))
    (hb : (Value.slice p' l'.length c').ownBlock = (Value.slice sa sent.length sc).ownBlock ∨ (Value.slice p' l'.length c').ownBlock = some wr.heap.size) :
    HW w wr' L b k0 s cs p' c' l' ga gc got ta tc times a len cap A := by
  have hz := h.fr.size
  have hT : ∀ y ∈ (Value.slice sa sent.length sc).ownBlock.toList, ∃ x, sa = some x ∧ x.block = y := fun y hy => own_mem hy
  have hN : ∀ x, p' = some x → (∃ z, sa = some z ∧ z.block = x.block) ∨ x.block = wr.heap.size := fun x e => by
    subst e
    rcases hb with hb | hb
    · exact .inl (own_some hb.symm)
    · injection hb with hb; exact .inr hb
  have hLo := h.sh.old
  have x12 : ∀ x y, sa = some x → ga = some y → y.block ≠ x.block := fun x y e e' => (h.d1 x e).2.1 y e'
  have x13 : ∀ x y, sa = some x → ta = some y → y.block ≠ x.block := fun x y e e' => (h.d1 x e).2.2 y e'
  have x23 : ∀ x y, ga = some x → ta = some y → y.block ≠ x.block := fun x y e e' => (h.d2 x e).2 y e'
  have n1 : ∀ x, sa = some x → x.block ∉ L ∧ x.block < wr.heap.size := fun x e => ⟨(h.d1 x e).1, (h.o1.blk x e).2⟩
  have n2 : ∀ x, ga = some x → x.block ∉ L ∧ x.block < wr.heap.size := fun x e => ⟨(h.d2 x e).1, (h.o2.blk x e).2⟩
  have n3 : ∀ x, ta = some x → x.block ∉ L ∧ x.block < wr.heap.size := fun x e => ⟨h.d3 x e, (h.o3.blk x e).2⟩
  have hNL : ∀ x, p' = some x → x.block ∉ L := fun x e hm => by
    rcases hN x e with ⟨z, e1, e2⟩ | e1
    · exact (n1 z e1).1 (e2 ▸ hm)
    · have := hLo _ hm; omega
  have m2 : ∀ x y, p' = some x → ga = some y → y.block ≠ x.block := fun x y e e' hh => by
    rcases hN x e with ⟨z, e1, e2⟩ | e1
    · exact x12 z y e1 e'  (by omega)
    · have := n2 y e'; omega
  have k2 : ∀ k, (Value.slice ga got.length gc).ownBlock = some k → k ∉ (Value.slice sa sent.length sc).ownBlock.toList := fun k e hm => by
    obtain ⟨y, e', e2⟩ := own_some e
    obtain ⟨z, e1, e3⟩ := own_mem hm
    exact x12 z y e1 e'  (by omega)
  have m3 : ∀ x y, p' = some x → ta = some y → y.block ≠ x.block := fun x y e e' hh => by
    rcases hN x e with ⟨z, e1, e2⟩ | e1
    · exact x13 z y e1 e'  (by omega)
    · have := n3 y e'; omega
  have k3 : ∀ k, (Value.slice ta times.length tc).ownBlock = some k → k ∉ (Value.slice sa sent.length sc).ownBlock.toList := fun k e hm => by
    obtain ⟨y, e', e2⟩ := own_some e
    obtain ⟨z, e1, e3⟩ := own_mem hm
    exact x13 z y e1 e'  (by omega)
  have hM : ∀ y ∈ (Value.slice sa sent.length sc).ownBlock.toList, w.heap.size + 1 ≤ y := fun y hy => by
    obtain ⟨z, e1, e3⟩ := own_mem hy
    have := h.o1.blk z e1
    omega
  refine ⟨h.sh.keep f (fun y hy hm => ?_), h.lo, o, h.o2.keep f k2, h.o3.keep f k3, fun x e => ⟨hNL x e, fun y e' => m2 x y e e', fun y e' => m3 x y e e'⟩, fun x e => ⟨(n2 x e).1, fun y e' => x23 x y e e'⟩, fun x e => (n3 x e).1, f.keep h.bx (fun hm => by have := hM _ hm; omega), h.fr.trans f (by simp) (fun x hx => .inr (by have := hM x hx; omega)), h.ac.keep f hz (fun x hx => by have := hM x hx; omega)⟩
  obtain ⟨z, e1, e3⟩ := own_mem hy
  subst e3
  exact (n1 z e1).1 hm
theorem HW.app2 {w wr wr' : World} {L : List Nat} {b k0 : Nat} {s : SH} {cs : Array Value} {sa : Option Addr} {sc : Nat} {sent : List UInt8} {ga : Option Addr} {gc : Nat} {got : List UInt8} {ta : Option Addr} {tc : Nat} {times : List Int} {a : Option Addr} {len cap : Nat} {A : List A41} {p' : Option Addr} {c' : Nat} {l' : List UInt8} (h : HW w wr L b k0 s cs sa sc sent ga gc got ta tc times a len cap A) (f : Fr (Value.slice ga got.length gc).ownBlock.toList wr wr') (o : Ow wr' (w.heap.size + 1) 5 (.slice p' l'.length c') ((bi l').map (Value.int .u8)))
    (hb : (Value.slice p' l'.length c').ownBlock = (Value.slice ga got.length gc).ownBlock ∨ (Value.slice p' l'.length c').ownBlock = some wr.heap.size) :
    HW w wr' L b k0 s cs sa sc sent p' c' l' ta tc times a len cap A := by
  have hz := h.fr.size
  have hT : ∀ y ∈ (Value.slice ga got.length gc).ownBlock.toList, ∃ x, ga = some x ∧ x.block = y := fun y hy => own_mem hy
  have hN : ∀ x, p' = some x → (∃ z, ga = some z ∧ z.block = x.block) ∨ x.block = wr.heap.size := fun x e => by
    subst e
    rcases hb with hb | hb
    · exact .inl (own_some hb.symm)
    · injection hb with hb; exact .inr hb
  have hLo := h.sh.old
  have x12 : ∀ x y, sa = some x → ga = some y → y.block ≠ x.block := fun x y e e' => (h.d1 x e).2.1 y e'
  have x13 : ∀ x y, sa = some x → ta = some y → y.block ≠ x.block := fun x y e e' => (h.d1 x e).2.2 y e'
  have x23 : ∀ x y, ga = some x → ta = some y → y.block ≠ x.block := fun x y e e' => (h.d2 x e).2 y e'
  have n1 : ∀ x, sa = some x → x.block ∉ L ∧ x.block < wr.heap.size := fun x e => ⟨(h.d1 x e).1, (h.o1.blk x e).2⟩
  have n2 : ∀ x, ga = some x → x.block ∉ L ∧ x.block < wr.heap.size := fun x e => ⟨(h.d2 x e).1, (h.o2.blk x e).2⟩
  have n3 : ∀ x, ta = some x → x.block ∉ L ∧ x.block < wr.heap.size := fun x e => ⟨h.d3 x e, (h.o3.blk x e).2⟩
  have hNL : ∀ x, p' = some x → x.block ∉ L := fun x e hm => by
    rcases hN x e with ⟨z, e1, e2⟩ | e1
    · exact (n2 z e1).1 (e2 ▸ hm)
    · have := hLo _ hm; omega
  have m1 : ∀ x y, p' = some x → sa = some y → y.block ≠ x.block := fun x y e e' hh => by
    rcases hN x e with ⟨z, e1, e2⟩ | e1
    · exact (x12 y z e' e1) (by omega)
    · have := n1 y e'; omega
  have k1 : ∀ k, (Value.slice sa sent.length sc).ownBlock = some k → k ∉ (Value.slice ga got.length gc).ownBlock.toList := fun k e hm => by
    obtain ⟨y, e', e2⟩ := own_some e
    obtain ⟨z, e1, e3⟩ := own_mem hm
    exact (x12 y z e' e1) (by omega)
  have m3 : ∀ x y, p' = some x → ta = some y → y.block ≠ x.block := fun x y e e' hh => by
    rcases hN x e with ⟨z, e1, e2⟩ | e1
    · exact x23 z y e1 e'  (by omega)
    · have := n3 y e'; omega
  have k3 : ∀ k, (Value.slice ta times.length tc).ownBlock = some k → k ∉ (Value.slice ga got.length gc).ownBlock.toList := fun k e hm => by
    obtain ⟨y, e', e2⟩ := own_some e
    obtain ⟨z, e1, e3⟩ := own_mem hm
    exact x23 z y e1 e'  (by omega)
  have hM : ∀ y ∈ (Value.slice ga got.length gc).ownBlock.toList, w.heap.size + 1 ≤ y := fun y hy => by
    obtain ⟨z, e1, e3⟩ := own_mem hy
    have := h.o2.blk z e1
    omega
  refine ⟨h.sh.keep f (fun y hy hm => ?_), h.lo, h.o1.keep f k1, o, h.o3.keep f k3, fun x e => ⟨(n1 x e).1, fun y e' => (m1 y x e' e).symm, fun y e' => x13 x y e e'⟩, fun x e => ⟨hNL x e, fun y e' => m3 x y e e'⟩, fun x e => (n3 x e).1, f.keep h.bx (fun hm => by have := hM _ hm; omega), h.fr.trans f (by simp) (fun x hx => .inr (by have := hM x hx; omega)), h.ac.keep f hz (fun x hx => by have := hM x hx; omega)⟩
  obtain ⟨z, e1, e3⟩ := own_mem hy
  subst e3
  exact (n2 z e1).1 hm
theorem HW.app3 {w wr wr' : World} {L : List Nat} {b k0 : Nat} {s : SH} {cs : Array Value} {sa : Option Addr} {sc : Nat} {sent : List UInt8} {ga : Option Addr} {gc : Nat} {got : List UInt8} {ta : Option Addr} {tc : Nat} {times : List Int} {a : Option Addr} {len cap : Nat} {A : List A41} {p' : Option Addr} {c' : Nat} {l' : List Int} (h : HW w wr L b k0 s cs sa sc sent ga gc got ta tc times a len cap A) (f : Fr (Value.slice ta times.length tc).ownBlock.toList wr wr') (o : Ow wr' (w.heap.size + 1) 25 (.slice p' l'.length c') (l'.map (Value.int .u64)))
    (hb : (Value.slice p' l'.length c').ownBlock = (Value.slice ta times.length tc).ownBlock ∨ (Value.slice p' l'.length c').ownBlock = some wr.heap.size) :
    HW w wr' L b k0 s cs sa sc sent ga gc got p' c' l' a len cap A := by
  have hz := h.fr.size
  have hT : ∀ y ∈ (Value.slice ta times.length tc).ownBlock.toList, ∃ x, ta = some x ∧ x.block = y := fun y hy => own_mem hy
  have hN : ∀ x, p' = some x → (∃ z, ta = some z ∧ z.block = x.block) ∨ x.block = wr.heap.size := fun x e => by
    subst e
    rcases hb with hb | hb
    · exact .inl (own_some hb.symm)
    · injection hb with hb; exact .inr hb
  have hLo := h.sh.old
  have x12 : ∀ x y, sa = some x → ga = some y → y.block ≠ x.block := fun x y e e' => (h.d1 x e).2.1 y e'
  have x13 : ∀ x y, sa = some x → ta = some y → y.block ≠ x.block := fun x y e e' => (h.d1 x e).2.2 y e'
  have x23 : ∀ x y, ga = some x → ta = some y → y.block ≠ x.block := fun x y e e' => (h.d2 x e).2 y e'
  have n1 : ∀ x, sa = some x → x.block ∉ L ∧ x.block < wr.heap.size := fun x e => ⟨(h.d1 x e).1, (h.o1.blk x e).2⟩
  have n2 : ∀ x, ga = some x → x.block ∉ L ∧ x.block < wr.heap.size := fun x e => ⟨(h.d2 x e).1, (h.o2.blk x e).2⟩
  have n3 : ∀ x, ta = some x → x.block ∉ L ∧ x.block < wr.heap.size := fun x e => ⟨h.d3 x e, (h.o3.blk x e).2⟩
  have hNL : ∀ x, p' = some x → x.block ∉ L := fun x e hm => by
    rcases hN x e with ⟨z, e1, e2⟩ | e1
    · exact (n3 z e1).1 (e2 ▸ hm)
    · have := hLo _ hm; omega
  have m1 : ∀ x y, p' = some x → sa = some y → y.block ≠ x.block := fun x y e e' hh => by
    rcases hN x e with ⟨z, e1, e2⟩ | e1
    · exact (x13 y z e' e1) (by omega)
    · have := n1 y e'; omega
  have k1 : ∀ k, (Value.slice sa sent.length sc).ownBlock = some k → k ∉ (Value.slice ta times.length tc).ownBlock.toList := fun k e hm => by
    obtain ⟨y, e', e2⟩ := own_some e
    obtain ⟨z, e1, e3⟩ := own_mem hm
    exact (x13 y z e' e1) (by omega)
  have m2 : ∀ x y, p' = some x → ga = some y → y.block ≠ x.block := fun x y e e' hh => by
    rcases hN x e with ⟨z, e1, e2⟩ | e1
    · exact (x23 y z e' e1) (by omega)
    · have := n2 y e'; omega
  have k2 : ∀ k, (Value.slice ga got.length gc).ownBlock = some k → k ∉ (Value.slice ta times.length tc).ownBlock.toList := fun k e hm => by
    obtain ⟨y, e', e2⟩ := own_some e
    obtain ⟨z, e1, e3⟩ := own_mem hm
    exact (x23 y z e' e1) (by omega)
  have hM : ∀ y ∈ (Value.slice ta times.length tc).ownBlock.toList, w.heap.size + 1 ≤ y := fun y hy => by
    obtain ⟨z, e1, e3⟩ := own_mem hy
    have := h.o3.blk z e1
    omega
  refine ⟨h.sh.keep f (fun y hy hm => ?_), h.lo, h.o1.keep f k1, h.o2.keep f k2, o, fun x e => ⟨(n1 x e).1, fun y e' => x12 x y e e', fun y e' => (m1 y x e' e).symm⟩, fun x e => ⟨(n2 x e).1, fun y e' => (m2 y x e' e).symm⟩, fun x e => hNL x e, f.keep h.bx (fun hm => by have := hM _ hm; omega), h.fr.trans f (by simp) (fun x hx => .inr (by have := hM x hx; omega)), h.ac.keep f hz (fun x hx => by have := hM x hx; omega)⟩
  obtain ⟨z, e1, e3⟩ := own_mem hy
  subst e3
  exact (n3 z e1).1 hm
end Go.Proofs.Ytdndabklcenndaa
