/-
  Bytes as lists, out of the ring's texts: what the other packages' proofs need of them (for seats that hold no ring).
-/
import Derived.Test.YtodpkdbcdbdjfaaBytes
import Derived.Test.YtodpkdbcdbdjfaaProg
import Derived.LoopN
import Derived.Lib.ConvBytes
import Derived.Lib.BufferRead
import Derived.Laws.AppendOwn
namespace Go.Proofs.Ytodpkdbcdbdjfaa
open Go.RowKit
set_option maxRecDepth 100000

theorem ext_getD {L M : List Int} (hl : L.length = M.length) (h : ∀ i, i < L.length → L.getD i 0 = M.getD i 0) : L = M := by
  apply List.ext_getElem hl
  intro i h1 h2
  have := h i h1
  simpa [List.getD, h1, h2] using this

theorem getD_append (L M : List Int) (i : Nat) : (L ++ M).getD i 0 = if i < L.length then L.getD i 0 else M.getD (i - L.length) 0 := by
  simp only [List.getD, List.getElem?_append]
  split <;> rfl
theorem getD_take (L : List Int) (k i : Nat) (h : i < k) : (L.take k).getD i 0 = L.getD i 0 := by
  simp [List.getD, h]
theorem getD_drop (L : List Int) (k i : Nat) : (L.drop k).getD i 0 = L.getD (k + i) 0 := by
  simp [List.getD, List.getElem?_drop]

/-- A slice of a slice of bytes. -/
def cutp (pa : Option Addr) (cap l : Nat) : Option Addr := if cap = l then pa else pa.map (·.add l)
theorem cutp_sl {w : World} {pa : Option Addr} {ps : List Int} {cap l k : Nat} (h : Sl w pa ps) (hcap : ps.length ≤ cap) (hk : l + k ≤ ps.length) : Sl w (cutp pa cap l) ((ps.drop l).take k) := by
  intro h0
  have hl : ((ps.drop l).take k).length = k := by simp; omega
  rw [hl] at h0
  obtain ⟨b, o, rfl, hb, hc⟩ := h (by omega)
  refine ⟨b, o + l, ?_, hb, fun i hi => ?_⟩
  · unfold cutp
    rw [if_neg (by omega)]
    simp [Addr.add_lit]
  · rw [hl] at hi
    rw [Nat.add_assoc, hc (l + i) (by omega), getD_take _ _ _ hi, getD_drop]

theorem run_cutp {pa : Option Addr} {plen pcap l h : Nat} (hl : l ≤ h) (hh : h ≤ pcap) (w : World) :
    (Instr.slice 22 (.slice pa plen pcap) (some (.int .i64 l)) (some (.int .i64 h)) none).run Try.prog w = .ok (.slice (cutp pa pcap l) (h - l) (pcap - l)) w := by
  have hs : ∀ w, (sizeOf (Try.prog.elem 22)).run Try.prog w = .ok 1 w := fun _ => by kernel_rfl
  have h1 := run_slice_lh (P := Try.prog) (w := w) (t := 22) (a := pa) (len := plen) (cap := pcap) (by kernel_rfl) .i64 .i64 (l : Int) (h : Int) (by omega) (by omega) (by omega)
  rw [h1, hs]
  simp [Result.andThen, sliced, cutp]

theorem sl_keep {w w' : World} {pa : Option Addr} {ps : List Int} (h : Sl w pa ps) {S : List Nat} (hf : Fr S w w') (hS : 0 < ps.length → ∀ b o, pa = some ⟨b, o, none⟩ → b ∉ S) : Sl w' pa ps := by
  intro h0
  obtain ⟨b, o, rfl, hb, hc⟩ := h h0
  exact ⟨b, o, rfl, Nat.lt_of_lt_of_le hb hf.size, fun i hi => (World.cell?_of_block (w := w) (hf.block b hb (hS h0 b o rfl))).trans (hc i hi)⟩

def bi (l : List UInt8) : List Int := l.map fun b => (b.toNat : Int)
theorem bi_length (l : List UInt8) : (bi l).length = l.length := by simp [bi]
theorem bi_getD (l : List UInt8) (i : Nat) (h : i < l.length) : (bi l).getD i 0 = (l[i].toNat : Int) := by simp [bi, List.getD, h]

theorem Fr.bytesWorld (w : World) (e : TypeId) (s : ByteArray) : Fr [] w (Lib.bytesWorld w e s) :=
  ⟨rfl, rfl, rfl, by rw [Lib.bytesWorld_size]; omega, fun k hk _ => Lib.bytesWorld_at_old w e s k hk⟩
theorem Sl.bytesWorld (w : World) (e : TypeId) (l : List UInt8) : Sl (Lib.bytesWorld w e ⟨l.toArray⟩) (some ⟨w.heap.size, 0, none⟩) (bi l) := fun _ =>
  ⟨_, 0, rfl, by rw [Lib.bytesWorld_size]; omega, fun i hi => by
    rw [bi_length] at hi
    rw [bi_getD l i hi, Nat.zero_add, Lib.bytesWorld_cell w e _ i (by simpa [ByteArray.size] using hi)]
    simp [List.getD, hi]⟩

theorem conv_new {w' : World} {l : List UInt8} {N : Nat} (h : RowB w' N (bi l)) :
    (convert 22 9 (.slice (some ⟨N, 0, none⟩) (bi l).length (bi l).length)).run Try.prog w' = .ok (.string ⟨l.toArray⟩) w' := by
  rw [show (bi l).length = l.length from bi_length l]
  refine run_convert_bytes_back (P := Try.prog) w' 22 9 5 ⟨N, 0, none⟩ l.length l Try.underlying22 Try.underlying5 Try.underlying9 ?_
  intro j hj
  have := h.cell (i := j) (by rw [bi_length]; exact hj)
  rw [bi_getD l j hj] at this
  rw [← this]
  by_cases h0 : j = 0
  · subst h0; rfl
  · simp [Addr.add, h0]

def NewB (w : World) (out : List Int) (v : Value) (w' : World) : Prop :=
  (out = [] ∧ v = .slice none 0 0) ∨ ∃ N : Nat, v = .slice (some ⟨N, 0, none⟩) out.length out.length ∧ RowB w' N out ∧ w.heap.size ≤ N
theorem cutp_at {N m l : Nat} (h : m ≠ l) : cutp (some ⟨N, 0, none⟩) m l = some ⟨N, l, none⟩ := by
  unfold cutp
  rw [if_neg h]
  simp [Addr.add_lit]

theorem run_cutl {pa : Option Addr} {plen pcap l : Nat} (hl : l ≤ plen) (w : World) :
    (Instr.slice 22 (.slice pa plen pcap) (some (.int .i64 l)) none none).run Try.prog w = .ok (.slice (cutp pa pcap l) (plen - l) (pcap - l)) w := by
  have hs : ∀ w, (sizeOf (Try.prog.elem 22)).run Try.prog w = .ok 1 w := fun _ => by kernel_rfl
  have h1 := run_slice_l (P := Try.prog) (w := w) (t := 22) (a := pa) (len := plen) (cap := pcap) (by kernel_rfl) .i64 (l : Int) (by omega) (by omega)
  rw [h1, hs]
  simp [Result.andThen, sliced, cutp]

end Go.Proofs.Ytodpkdbcdbdjfaa
