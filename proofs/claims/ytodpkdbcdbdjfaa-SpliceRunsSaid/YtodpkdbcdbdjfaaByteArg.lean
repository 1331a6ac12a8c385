/-
  An argument that is a list of bytes; strings out of bytes.
-/
import Derived.Test.YtodpkdbcdbdjfaaByteText
import Derived.Test.YtodpkdbcdbdjfaaOwn
import Derived.ProofKit
import Derived.OpenShut
import Derived.ChangeOld
import Derived.ChangeSlices
import Derived.Laws.BytesArg
namespace Go.Proofs.Ytodpkdbcdbdjfaa
open Go.ChangeShapes Go.WideShapes Go.RowKit

theorem bi_of {zs : List Int} (h : ∀ x ∈ zs, 0 ≤ x ∧ x ≤ 255) : bi (zs.map fun n => UInt8.ofNat n.toNat) = zs := by
  unfold bi
  rw [List.map_map]
  conv => rhs; rw [← List.map_id zs]
  apply List.map_congr_left
  intro x hx
  obtain ⟨h0, h1⟩ := h x hx
  simp
  omega
theorem bi_take (l : List UInt8) (n : Nat) : bi (l.take n) = (bi l).take n := by simp [bi, List.map_take]
theorem bi_drop (l : List UInt8) (n : Nat) : bi (l.drop n) = (bi l).drop n := by simp [bi, List.map_drop]
theorem bi_append (l m : List UInt8) : bi (l ++ m) = bi l ++ bi m := by simp [bi]
theorem bi_nil : bi [] = [] := rfl
theorem bi_inj {l m : List UInt8} (h : bi l = bi m) : l = m := by
  unfold bi at h
  refine (List.map_inj_right (fun x y e => ?_)).1 h
  exact UInt8.toNat_inj.1 (by omega)

theorem Sl.piece {w : World} {b o : Nat} {ps : List Int} (h : Sl w (some ⟨b, o, none⟩) ps) (i n : Nat) : Sl w (some ⟨b, o + i, none⟩) ((ps.drop i).take n) := fun h0 => by
  rw [List.length_take, List.length_drop] at h0
  obtain ⟨b', o', e, hb, hc⟩ := h (by omega)
  simp only [Option.some.injEq, Addr.mk.injEq, and_true] at e
  obtain ⟨rfl, rfl⟩ := e
  refine ⟨_, _, rfl, hb, fun j hj => ?_⟩
  rw [List.length_take, List.length_drop] at hj
  rw [Nat.add_assoc, hc (i + j) (by omega)]
  simp [List.getD, show j < n from by omega]
theorem Sl.toV {w : World} {a : Option Addr} {ps : List Int} (h : Sl w a ps) : SlV w a (ps.map (Value.int .u8)) := fun h0 => by
  rw [List.length_map] at h0
  obtain ⟨b, o, rfl, hb, hc⟩ := h h0
  refine ⟨b, o, rfl, hb, fun i hi => ?_⟩
  rw [List.length_map] at hi
  rw [hc i hi]
  simp [List.getD, hi]
theorem SlV.toB {w : World} {a : Option Addr} {ps : List Int} (h : SlV w a (ps.map (Value.int .u8))) : Sl w a ps := fun h0 => by
  obtain ⟨b, o, rfl, hb, hc⟩ := h (by simpa using h0)
  refine ⟨b, o, rfl, hb, fun i hi => ?_⟩
  rw [hc i (by simpa using hi)]
  simp [List.getD, hi]

/-- An argument of bytes: it reads as l, which lies in old memory. -/
structure Arg (w : World) (M : Nat) (a : Option Addr) (len cap : Nat) (l : List UInt8) : Prop where
  len_eq : len = l.length
  le : len ≤ cap
  cap_le : cap ≤ maxLen
  sl : Sl w a (bi l)
  old : ∀ b o, 0 < len → a = some ⟨b, o, none⟩ → b < M

theorem bytes_of {H : Type} {enc : TypeId × Value → H} {w : World} {base : Nat} {fuel : Nat} {a : Option Addr} {len cap : Nat} {x : DataW H × List MemPlace}
    (h : DataW.trod enc Try.prog w base (fun _ => true) true fuel 22 [.slice a len cap] = some x) : ∃ l, Arg w w.heap.size a len cap l := by
  rcases open_ints Try.underlying22 Try.underlying5 (by kernel_rfl) h with ⟨hcs, _⟩ | ⟨a', len', cap', zs, hcs, hb, hl, hm, hz, hx, hc, hw⟩
  · simp at hcs
    obtain ⟨rfl, rfl, rfl⟩ := hcs
    exact ⟨[], rfl, Nat.le_refl _, by unfold maxLen; omega, Sl.nil _ _, by simp⟩
  · simp only [List.cons.injEq, Value.slice.injEq, and_true] at hcs
    obtain ⟨rfl, rfl, rfl⟩ := hcs
    simp only [if_true] at hz
    have hlen : (zs.take len).length = len := by rw [List.length_take, hz]; omega
    have key : 0 < len → ∃ b o, a' = ⟨b, o, none⟩ := fun h0 => by
      obtain ⟨b, o, s⟩ := a'
      have := hc 0 (by omega)
      have hs : s = none := by simpa [Addr.add] using World.cell?_spot this
      exact ⟨b, o, by rw [hs]⟩
    have hbi : bi ((zs.take len).map fun n => UInt8.ofNat n.toNat) = zs.take len := bi_of fun x hx => wf_bd (hw x (List.mem_of_mem_take hx))
    refine ⟨(zs.take len).map fun n => UInt8.ofNat n.toNat, by simp; omega, hl, hm, ?_, ?_⟩
    · rw [hbi]
      intro h0
      rw [hlen] at h0
      obtain ⟨b, o, rfl⟩ := key h0
      refine ⟨b, o, rfl, World.block_lt_of_cell? _ _ (hc 0 (by omega)), fun i hi => ?_⟩
      rw [hlen] at hi
      have := hc i (by omega)
      rw [addr_add] at this
      rw [this]
      simp [List.getD, hi]
    · intro b o h0 he
      simp only [Option.some.injEq] at he
      subst he
      have := World.block_lt_of_cell? _ _ (hc 0 (by omega))
      rw [addr_add] at this
      exact this
theorem Arg.keep {w w' : World} {M : Nat} {a : Option Addr} {len cap : Nat} {l : List UInt8} (h : Arg w M a len cap l) {S : List Nat} (hf : Fr S w w') (_hM : M ≤ w.heap.size) (hS : ∀ x ∈ S, M ≤ x) : Arg w' M a len cap l :=
  ⟨h.len_eq, h.le, h.cap_le, fun h0 => by
    obtain ⟨b, o, e, hb, hc⟩ := h.sl h0
    rw [bi_length] at h0
    have h1 := h.old b o (by have := h.len_eq; omega) e
    exact ⟨b, o, e, Nat.lt_of_lt_of_le hb hf.size, fun i hi => (World.cell?_of_block (w := w) (hf.block _ hb (fun hm => by have := hS b hm; omega))).trans (hc i hi)⟩, h.old⟩

/-- string(b). -/
theorem conv_sl {w : World} {a : Option Addr} {l : List UInt8} {len cap : Nat} (h : Sl w a (bi l)) (hl : len = l.length) :
    (convert 22 9 (.slice a len cap)).run Try.prog w = .ok (.string ⟨l.toArray⟩) w := by
  subst hl
  rcases a with _ | a
  · have h0 : l = [] := by
      rcases Nat.eq_zero_or_pos l.length with h0 | h0
      · exact List.eq_nil_of_length_eq_zero h0
      · obtain ⟨_, _, e, _⟩ := h (by rw [bi_length]; exact h0); cases e
    subst h0
    exact Lib.run_convert_nil_bytes (P := Try.prog) w 22 9 5 cap Try.underlying22 Try.underlying5 Try.underlying9
  · refine run_convert_bytes_back (P := Try.prog) w 22 9 5 a cap l Try.underlying22 Try.underlying5 Try.underlying9 ?_
    intro j hj
    obtain ⟨b, o, e, _, hc⟩ := h (by rw [bi_length]; omega)
    injection e with e
    subst e
    rw [addr_add, hc j (by rw [bi_length]; exact hj), bi_getD l j hj]

theorem str_append (x y : List UInt8) : (⟨x.toArray⟩ : ByteArray) ++ ⟨y.toArray⟩ = ⟨(x ++ y).toArray⟩ := by
  apply ByteArray.ext
  simp
theorem str_extract (x : List UInt8) (i j : Nat) : (⟨x.toArray⟩ : ByteArray).extract i j = ⟨((x.take j).drop i).toArray⟩ := by
  apply ByteArray.ext
  simp [ByteArray.data_extract]
  rw [List.drop_take]
end Go.Proofs.Ytodpkdbcdbdjfaa
