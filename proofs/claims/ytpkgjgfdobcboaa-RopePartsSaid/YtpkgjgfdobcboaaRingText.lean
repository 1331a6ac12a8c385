/-
  The law's own helpers over ring: writes, reads, peeks; the chapter's examples.
-/
import Derived.Test.YtpkgjgfdobcboaaRingMore
import Derived.Lib.ConvBytes
import Derived.Lib.BufferRead
import Derived.Laws.AppendOwn
namespace Go.Proofs.Ytpkgjgfdobcboaa
open Go.RowKit
set_option maxRecDepth 100000

def bi (l : List UInt8) : List Int := l.map fun b => (b.toNat : Int)
theorem bi_length (l : List UInt8) : (bi l).length = l.length := by simp [bi]
theorem bi_getD (l : List UInt8) (i : Nat) (h : i < l.length) : (bi l).getD i 0 = (l[i].toNat : Int) := by simp [bi, List.getD, h]

theorem Fr.bytesWorld (w : World) (e : TypeId) (s : ByteArray) : Fr [] w (Lib.bytesWorld w e s) :=
  ⟨rfl, rfl, rfl, by rw [Lib.bytesWorld_size]; omega, fun k hk _ => Lib.bytesWorld_at_old w e s k hk⟩
theorem Sl.bytesWorld (w : World) (e : TypeId) (l : List UInt8) : Sl (Lib.bytesWorld w e ⟨l.toArray⟩) (some ⟨w.heap.size, 0, none⟩) (bi l) := fun _ =>
  ⟨_, 0, rfl, by rw [Lib.bytesWorld_size]; omega, fun i hi => by
    rw [bi_length] at hi
    rw [bi_getD l i hi, Nat.zero_add, Lib.bytesWorld_cell w e _ i (by simpa [ByteArray.size] using hi)]
    simp [List.getD, hi]⟩

theorem conv_new {w' : World} {l : List UInt8} {N : Nat} (h : RowB w' N (bi l)) :
    (convert 29 9 (.slice (some ⟨N, 0, none⟩) (bi l).length (bi l).length)).run Try.prog w' = .ok (.string ⟨l.toArray⟩) w' := by
  rw [show (bi l).length = l.length from bi_length l]
  refine run_convert_bytes_back (P := Try.prog) w' 29 9 5 ⟨N, 0, none⟩ l.length l Try.underlying29 Try.underlying5 Try.underlying9 ?_
  intro j hj
  have := h.cell (i := j) (by rw [bi_length]; exact hj)
  rw [bi_getD l j hj] at this
  rw [← this]
  by_cases h0 : j = 0
  · subst h0; rfl
  · simp [Addr.add, h0]

theorem writes_ok {w : World} {R D c : Nat} {q : List Int} (h : Rg w R D c q) (l : List UInt8) (hl : l.length ≤ 65536) (want : Int) (hw : want = (min l.length (c - q.length) : Nat)) :
    Calls Try.prog 92 #[.pointer (some ⟨R, 0, none⟩), .string ⟨l.toArray⟩, .int .i64 want] w fun e w' =>
      e = .returned (.bool true) ∧ Fr [R, D] w w' ∧ Rg w' R D c (q ++ (bi l).take (min l.length (c - q.length))) := by
  have hcv := Lib.run_convert_string_bytes (P := Try.prog) w 9 29 5 ⟨l.toArray⟩ Try.underlying9 Try.underlying29 Try.underlying5
  have f1 := Fr.bytesWorld w 5 ⟨l.toArray⟩
  have s1 := Sl.bytesWorld w 5 l
  have hg : l.length ≤ grownCap w l.length 0 5 := grownCap_ge _ _ _ _
  rw [show (⟨l.toArray⟩ : ByteArray).size = l.length from by simp [ByteArray.size]] at hcv
  obtain ⟨_, _, _, _, _, hD⟩ := h.len_le
  generalize Lib.bytesWorld w 5 ⟨l.toArray⟩ = W1 at hcv f1 s1
  generalize grownCap w l.length 0 5 = G at hcv hg
  have h1 : Rg W1 R D c q := h.keep f1 (by simp) (by simp)
  have HW := Lib.hid (rg_write h1 (plen := l.length) (pcap := G) (bi_length l).symm hg s1 (by intro _ b o e; injection e with e; injection e with e1; omega) hl)
  clear h h1 s1 hg hl
  rw [← hw] at HW
  have hw2 := Lib.hid hw
  clear hw
  go_enter Try.func92, Try.ntmps92
  go_wp2_with fail
  refine HW.out.mono ?_
  rintro e w2 ⟨rfl, f2, h2⟩
  clear HW
  go_wp2_with fail
  go_ret
  exact ⟨rfl, f1.trans f2 (by simp) (fun _ h => .inl h), h2⟩

theorem reads_ok {w : World} {R D c : Nat} {q : List Int} (h : Rg w R D c q) (l : List UInt8) {most : Int} (hm : 0 ≤ most) (hq : q.take most.toNat = bi l) :
    Calls Try.prog 30 #[.pointer (some ⟨R, 0, none⟩), .int .i64 most, .string ⟨l.toArray⟩] w fun e w' =>
      e = .returned (.bool true) ∧ Fr [R, D] w w' ∧ Rg w' R D c (q.drop most.toNat) := by
  have HW := Lib.hid (rg_read h hm)
  rw [hq] at HW
  clear h hq
  go_enter Try.func30, Try.ntmps30
  go_wp2_with fail
  refine HW.out.mono ?_
  rintro e w2 ⟨v, rfl, f2, hv, h2⟩
  clear HW
  rcases hv with ⟨hnil, rfl⟩ | ⟨N, rfl, hr, hN⟩
  · obtain rfl : l = [] := by cases l with | nil => rfl | cons a l => simp [bi] at hnil
    have hcv := Lib.run_convert_nil_bytes (P := Try.prog) w2 29 9 5 0 Try.underlying29 Try.underlying5 Try.underlying9
    clear hnil
    go_wp2_with fail
    go_ret
    exact ⟨rfl, f2, h2⟩
  · have hcv := conv_new hr
    go_wp2_with fail
    go_ret
    exact ⟨rfl, f2, h2⟩

theorem peeks_ok {w : World} {R D c : Nat} {q : List Int} (h : Rg w R D c q) (l : List UInt8) {off most : Int} (h0 : 0 ≤ off) (hm : 0 ≤ most) (hq : (q.drop off.toNat).take most.toNat = bi l) :
    Calls Try.prog 29 #[.pointer (some ⟨R, 0, none⟩), .int .i64 off, .int .i64 most, .string ⟨l.toArray⟩] w fun e w' =>
      e = .returned (.bool true) ∧ Fr [] w w' := by
  have HW := Lib.hid (rg_peek h h0 hm)
  rw [hq] at HW
  clear h hq
  go_enter Try.func29, Try.ntmps29
  go_wp2_with fail
  refine HW.out.mono ?_
  rintro e w2 ⟨v, rfl, f2, hv⟩
  clear HW
  rcases hv with ⟨hnil, rfl⟩ | ⟨N, rfl, hr, hN⟩
  · obtain rfl : l = [] := by cases l with | nil => rfl | cons a l => simp [bi] at hnil
    have hcv := Lib.run_convert_nil_bytes (P := Try.prog) w2 29 9 5 0 Try.underlying29 Try.underlying5 Try.underlying9
    clear hnil
    go_wp2_with fail
    go_ret
    exact ⟨rfl, f2⟩
  · have hcv := conv_new hr
    go_wp2_with fail
    go_ret
    exact ⟨rfl, f2⟩
end Go.Proofs.Ytpkgjgfdobcboaa
