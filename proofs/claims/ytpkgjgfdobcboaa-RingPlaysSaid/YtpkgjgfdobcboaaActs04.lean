/-
  The calls of law 4: an argument that is a list of them.
-/
import Derived.Test.YtpkgjgfdobcboaaRef04b
import Derived.Test.YtpkgjgfdobcboaaOpenF
import Derived.SliceStrings
namespace Go.Proofs.Ytpkgjgfdobcboaa
open Go.ChangeShapes Go.WideShapes Go.RowKit
set_option maxRecDepth 100000

structure A04 where
  what : Int
  off : Int
  most : Int
  p : List UInt8
/-- A slice of calls. -/
structure Acts04 (w : World) (M : Nat) (a : Option Addr) (len cap : Nat) (A : List A04) : Prop where
  len_eq : len = A.length
  cap_le : len ≤ maxLen
  at_ : ∀ i (hi : i < A.length), ∃ b o pa pl pc, a = some ⟨b, o, none⟩ ∧ b < M ∧ b < w.heap.size ∧ w.cell? ⟨b, o + i * 4, none⟩ = some (.int .i64 A[i].what) ∧ w.cell? ⟨b, o + i * 4 + 1, none⟩ = some (.int .i64 A[i].off) ∧
    w.cell? ⟨b, o + i * 4 + 2, none⟩ = some (.int .i64 A[i].most) ∧ w.cell? ⟨b, o + i * 4 + 3, none⟩ = some (.slice pa pl pc) ∧ Arg w M pa pl pc A[i].p ∧
    (-9223372036854775808 ≤ A[i].what ∧ A[i].what ≤ 9223372036854775807) ∧ (-9223372036854775808 ≤ A[i].off ∧ A[i].off ≤ 9223372036854775807) ∧ (-9223372036854775808 ≤ A[i].most ∧ A[i].most ≤ 9223372036854775807)
theorem Acts04.keep {w w' : World} {M : Nat} {a : Option Addr} {len cap : Nat} {A : List A04} (h : Acts04 w M a len cap A) {S : List Nat} (hf : Fr S w w') (hM : M ≤ w.heap.size) (hS : ∀ x ∈ S, M ≤ x) : Acts04 w' M a len cap A :=
  ⟨h.len_eq, h.cap_le, fun i hi => by
    obtain ⟨b, o, pa, pl, pc, e, h1, h2, c0, c1, c2, c3, hs, x⟩ := h.at_ i hi
    have hn : b ∉ S := fun hm => by have := hS b hm; omega
    have hk : ∀ k, w'.cell? ⟨b, k, none⟩ = w.cell? ⟨b, k, none⟩ := fun k => World.cell?_of_block (w := w) (hf.block b h2 hn)
    exact ⟨b, o, pa, pl, pc, e, h1, Nat.lt_of_lt_of_le h2 hf.size, (hk _).trans c0, (hk _).trans c1, (hk _).trans c2, (hk _).trans c3, hs.keep hf hM hS, x⟩⟩

theorem cell_lt4 {w : World} {b o : Nat} {v : Value} (h : w.cell? ⟨b, o, none⟩ = some v) : b < w.heap.size := World.block_lt_of_cell? _ _ h
theorem acts04_of {H : Type} {enc : TypeId × Value → H} {w : World} {base : Nat} {fuel : Nat} {a : Option Addr} {len cap : Nat} {x : DataW H × List MemPlace}
    (h : DataW.trod enc Try.prog w base (fun _ => true) true fuel 39 [.slice a len cap] = some x) : ∃ A, Acts04 w w.heap.size a len cap A := by
  rcases open_slice_fields Try.underlying39 Try.underlying41 (by kernel_rfl) (by kernel_rfl) h with ⟨hcs, _⟩ | ⟨a', len', cap', m, hcs, hl, hm, hmm, hi⟩
  · simp at hcs
    obtain ⟨rfl, rfl, rfl⟩ := hcs
    exact ⟨[], rfl, by unfold maxLen; omega, fun i hi => absurd hi (Nat.not_lt_zero i)⟩
  · simp only [List.cons.injEq, Value.slice.injEq, and_true] at hcs
    obtain ⟨rfl, rfl, rfl⟩ := hcs
    simp only [if_true] at hmm
    subst hmm
    have key : ∀ i, ∃ v : A04, i < len → ∃ b o pa pl pc, some a' = some (⟨b, o, none⟩ : Addr) ∧ b < w.heap.size ∧ b < w.heap.size ∧ w.cell? ⟨b, o + i * 4, none⟩ = some (.int .i64 v.what) ∧ w.cell? ⟨b, o + i * 4 + 1, none⟩ = some (.int .i64 v.off) ∧
        w.cell? ⟨b, o + i * 4 + 2, none⟩ = some (.int .i64 v.most) ∧ w.cell? ⟨b, o + i * 4 + 3, none⟩ = some (.slice pa pl pc) ∧ Arg w w.heap.size pa pl pc v.p ∧
        (-9223372036854775808 ≤ v.what ∧ v.what ≤ 9223372036854775807) ∧ (-9223372036854775808 ≤ v.off ∧ v.off ≤ 9223372036854775807) ∧ (-9223372036854775808 ≤ v.most ∧ v.most ≤ 9223372036854775807) := by
      intro i
      by_cases hlt : i < len
      · obtain ⟨v0, y0, n0, hc0, ht0⟩ := hi i (by omega) 0 _ rfl
        obtain ⟨v1, y1, n1, hc1, ht1⟩ := hi i (by omega) 1 _ rfl
        obtain ⟨v2, y2, n2, hc2, ht2⟩ := hi i (by omega) 2 _ rfl
        obtain ⟨v3, y3, n3, hc3, ht3⟩ := hi i (by omega) 3 _ rfl
        obtain ⟨z0, e0, rfl, k0⟩ := DataW.trod_int Try.underlying3 ht0
        obtain ⟨z1, e1, rfl, k1⟩ := DataW.trod_int Try.underlying3 ht1
        obtain ⟨z2, e2, rfl, k2⟩ := DataW.trod_int Try.underlying3 ht2
        have hsl : ∃ pa pl pc, v3 = .slice pa pl pc := by
          rcases open_ints Try.underlying29 Try.underlying5 (by kernel_rfl) ht3 with ⟨hcs, _⟩ | ⟨a2, l2, c2, zs, hcs, _⟩
          · simp at hcs; exact ⟨_, _, _, hcs⟩
          · simp at hcs; exact ⟨_, _, _, hcs⟩
        obtain ⟨pa, pl, pc, rfl⟩ := hsl
        obtain ⟨ss, hss⟩ := bytes_of ht3
        simp only [List.cons.injEq, and_true] at e0 e1 e2
        subst e0 e1 e2
        obtain ⟨b, o, s⟩ := a'
        obtain ⟨_, _, _, hz, _⟩ := hi 0 (by omega) 0 _ rfl
        have hs : s = none := by simpa [Addr.add] using World.cell?_spot hz
        subst hs
        rw [addr_add] at hc0 hc1 hc2 hc3
        have hb : b < w.heap.size := cell_lt4 hc0
        rw [← Nat.add_assoc] at hc1 hc2 hc3
        exact ⟨⟨z0, z1, z2, ss⟩, fun _ => ⟨b, o, pa, pl, pc, rfl, hb, hb, hc0, hc1, hc2, hc3, hss, wf_bd k0, wf_bd k1, wf_bd k2⟩⟩
      · exact ⟨⟨0, 0, 0, []⟩, fun h => absurd h hlt⟩
    obtain ⟨f, hf⟩ := Classical.axiomOfChoice key
    refine ⟨(List.range len).map f, by simp, by omega, fun i hi' => ?_⟩
    have hi2 : i < len := by simpa using hi'
    have := hf i hi2
    simpa using this
end Go.Proofs.Ytpkgjgfdobcboaa
