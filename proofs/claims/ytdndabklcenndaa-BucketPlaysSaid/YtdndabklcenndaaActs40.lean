/-
  An argument that is a slice of structs of one-cell fields, opened to its cells.
-/
import Derived.Test.YtdndabklcenndaaBase
import Derived.Test.YtdndabklcenndaaProg
import Derived.ProofKit
import Derived.OpenShut
import Derived.ChangeOld
import Derived.Deep.Slices
import Derived.Deep.Fields
import Derived.ChangeSame
namespace Go.Proofs.Ytdndabklcenndaa
open Go.ChangeShapes Go.WideShapes Go.Deep Go.RowKit

section
variable {H : Type} {enc : TypeId × Value → H} {P : Program} {w : World} {base : Nat} {spare : Nat → Bool} {held : Bool}
theorem open_slice_fields {t e : TypeId} {fs : Array Field} {fuel : Nat} {cs : List Value} {x : DataW H × List MemPlace} (ht : P.underlying t = some (.slice e)) (he : P.underlying e = some (.struct fs))
    (hone : oneCellFields P fs = true) (hC : P.cellsOf e = fs.size) (h : DataW.trod enc P w base spare held fuel t cs = some x) :
    (cs = [.slice none 0 0] ∧ x = (.nil, [])) ∨
    ∃ (a : Addr) (len cap m : Nat), cs = [.slice (some a) len cap] ∧ len ≤ cap ∧ cap ≤ maxLen ∧ m = (if spare a.block then cap else len) ∧
      ∀ i, i < m → ∀ (j : Nat) (f : Field), fs[j]? = some f → ∃ (v : Value) (y : DataW H × List MemPlace) (n : Nat), w.cell? (a.add (i * fs.size + j)) = some v ∧ DataW.trod enc P w base spare held n f.type [v] = some y := by
  rcases open_slice ht h with h0 | ⟨a, len, cap, m, n, D, Pl, hcs, hb, hl, hm, hmm, hx, hi⟩
  · exact .inl h0
  · refine .inr ⟨a, len, cap, m, hcs, hl, hm, hmm, fun i him j f hj => ?_⟩
    obtain ⟨cs', hc, ht'⟩ := hi i him
    rw [hC] at hc
    obtain ⟨ys, n', hn', hy, hlen, hyl, hf⟩ := DataW.trod_struct he ht'
    obtain ⟨_, hcl, hat⟩ := World.cells?_some hc
    obtain ⟨ho, hk⟩ := hone_of hone j f hj
    have hjl : j < fs.size := (Array.getElem?_eq_some_iff.1 hj).1
    have hcell := hat j hjl
    have hv : cs'[j]? = some (cs'[j]'(by omega)) := List.getElem?_eq_getElem (by omega)
    have h1 := hf j f hj
    rw [ho, hk] at h1
    have hone' : (cs'.drop j).take 1 = [cs'[j]'(by omega)] := by
      rw [List.drop_eq_getElem_cons (by omega)]
      rfl
    rw [hone'] at h1
    have hys : ys[j]? = some (ys[j]'(by omega)) := List.getElem?_eq_getElem (by omega)
    refine ⟨_, _, n', ?_, h1.trans hys⟩
    rw [← Go.Deep.add_add, hcell, hv]
end

theorem cell_lt {w : World} {a : Addr} {v : Value} (h : w.cell? a = some v) : a.block < w.heap.size := World.block_lt_of_cell? _ _ h

/-- The calls: each is a struct of three numbers, and their cells. -/
def Acts40 (w : World) (M : Nat) (a : Option Addr) (len : Nat) (A T N : Nat → Int) : Prop :=
  ∀ i, i < len → ∃ b o, a = some ⟨b, o, none⟩ ∧ b < M ∧ w.cell? ⟨b, o + i * 3, none⟩ = some (.int .i64 (A i)) ∧ w.cell? ⟨b, o + i * 3 + 1, none⟩ = some (.int .u64 (T i)) ∧ w.cell? ⟨b, o + i * 3 + 2, none⟩ = some (.int .i64 (N i)) ∧
    (-9223372036854775808 ≤ A i ∧ A i ≤ 9223372036854775807) ∧ (0 ≤ T i ∧ T i ≤ 18446744073709551615) ∧ (-9223372036854775808 ≤ N i ∧ N i ≤ 9223372036854775807)

theorem Fr.cell {S : List Nat} {w w' : World} (h : Fr S w w') {a : Addr} (hb : a.block < w.heap.size) (hn : a.block ∉ S) : w'.cell? a = w.cell? a :=
  World.cell?_of_block (w := w) (h.block _ hb hn)

theorem Acts40.keep {w w' : World} {M : Nat} {a : Option Addr} {len : Nat} {A T N : Nat → Int} (h : Acts40 w M a len A T N) {S : List Nat} (hf : Fr S w w') (hM : M ≤ w.heap.size) (hS : ∀ x ∈ S, M ≤ x) : Acts40 w' M a len A T N := fun i hi => by
  obtain ⟨b, o, ha, hb, c0, c1, c2, x⟩ := h i hi
  have h1 : b < w.heap.size := by omega
  have h2 : b ∉ S := fun hm => by have := hS b hm; omega
  exact ⟨b, o, ha, hb, (hf.cell h1 h2).trans c0, (hf.cell h1 h2).trans c1, (hf.cell h1 h2).trans c2, x⟩

/-- The argument is such a list. -/
theorem acts40_of {H : Type} {enc : TypeId × Value → H} {w : World} {base : Nat} {fuel : Nat} {a : Option Addr} {len cap : Nat} {x : DataW H × List MemPlace}
    (h : DataW.trod enc Try.prog w base (fun _ => true) true fuel 35 [.slice a len cap] = some x) : len ≤ maxLen ∧ ∃ A T N, Acts40 w w.heap.size a len A T N := by
  rcases open_slice_fields Try.underlying35 Try.underlying37 (by kernel_rfl) (by kernel_rfl) h with ⟨hcs, _⟩ | ⟨a', len', cap', m, hcs, hl, hm, hmm, hi⟩
  · simp at hcs
    obtain ⟨rfl, rfl, rfl⟩ := hcs
    exact ⟨by unfold maxLen; omega, fun _ => 0, fun _ => 0, fun _ => 0, fun i hi => absurd hi (Nat.not_lt_zero i)⟩
  · simp only [List.cons.injEq, Value.slice.injEq, and_true] at hcs
    obtain ⟨rfl, rfl, rfl⟩ := hcs
    simp only [if_true] at hmm
    subst hmm
    refine ⟨by omega, ?_⟩
    have key : ∀ i, ∃ v : Int × Int × Int, i < len → ∃ b o, some a' = some (⟨b, o, none⟩ : Addr) ∧ b < w.heap.size ∧ w.cell? ⟨b, o + i * 3, none⟩ = some (.int .i64 v.1) ∧ w.cell? ⟨b, o + i * 3 + 1, none⟩ = some (.int .u64 v.2.1) ∧ w.cell? ⟨b, o + i * 3 + 2, none⟩ = some (.int .i64 v.2.2) ∧
        (-9223372036854775808 ≤ v.1 ∧ v.1 ≤ 9223372036854775807) ∧ (0 ≤ v.2.1 ∧ v.2.1 ≤ 18446744073709551615) ∧ (-9223372036854775808 ≤ v.2.2 ∧ v.2.2 ≤ 9223372036854775807) := by
      intro i
      by_cases hlt : i < len
      · obtain ⟨v0, y0, n0, hc0, ht0⟩ := hi i (by omega) 0 _ rfl
        obtain ⟨v1, y1, n1, hc1, ht1⟩ := hi i (by omega) 1 _ rfl
        obtain ⟨v2, y2, n2, hc2, ht2⟩ := hi i (by omega) 2 _ rfl
        obtain ⟨z0, e0, rfl, k0⟩ := DataW.trod_int Try.underlying3 ht0
        obtain ⟨z1, e1, rfl, k1⟩ := DataW.trod_int Try.underlying25 ht1
        obtain ⟨z2, e2, rfl, k2⟩ := DataW.trod_int Try.underlying3 ht2
        simp only [List.cons.injEq, and_true] at e0 e1 e2
        subst e0 e1 e2
        obtain ⟨b, o, s⟩ := a'
        obtain ⟨_, _, _, hz, _⟩ := hi 0 (by omega) 0 _ rfl
        have hs : s = none := by simpa [Addr.add] using World.cell?_spot hz
        subst hs
        rw [Addr.add_lit] at hc0 hc1 hc2
        have hb : b < w.heap.size := cell_lt hc0
        rw [← Nat.add_assoc] at hc1 hc2
        exact ⟨(z0, z1, z2), fun _ => ⟨b, o, rfl, hb, hc0, hc1, hc2, wf_bd k0, wf_bd k1, wf_bd k2⟩⟩
      · exact ⟨(0, 0, 0), fun h => absurd h hlt⟩
    obtain ⟨f, hf⟩ := Classical.axiomOfChoice key
    exact ⟨fun i => (f i).1, fun i => (f i).2.1, fun i => (f i).2.2, fun i h => hf i h⟩

theorem Acts40.cells {w : World} {M b o len : Nat} {A T N : Nat → Int} (h : Acts40 w M (some ⟨b, o, none⟩) len A T N) {i : Nat} (hi : i < len) :
    w.cell? ⟨b, o + i * 3, none⟩ = some (.int .i64 (A i)) ∧ w.cell? ⟨b, o + i * 3 + 1, none⟩ = some (.int .u64 (T i)) ∧ w.cell? ⟨b, o + i * 3 + 2, none⟩ = some (.int .i64 (N i)) := by
  obtain ⟨b', o', ha, _, c0, c1, c2, _⟩ := h i hi
  simp only [Option.some.injEq, Addr.mk.injEq, and_true] at ha
  obtain ⟨rfl, rfl⟩ := ha
  exact ⟨c0, c1, c2⟩
end Go.Proofs.Ytdndabklcenndaa
